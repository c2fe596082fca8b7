/- One part of the proofs on this program: functions of the program as plain functions, that the code comes to them, and facts on them. -/
import Derived.Test.YtkokajljeebgdaaYAll1
import Derived.Test.YtkokajljeebgdaaYAll2
import Derived.Test.YtkokajljeebgdaaYAll3
import Derived.Test.YtkokajljeebgdaaYB1
import Derived.Test.YtkokajljeebgdaaYB3
import Derived.Test.YtkokajljeebgdaaYWAuto
section
namespace Go.Proofs.Ytkokajljeebgdaa.P
open Go.RowKit Go.Proofs.YtkokajljeebgdaaW.PrintWords Go.Proofs.YtkokajljeebgdaaW.PrintLast Go.Proofs.YtkokajljeebgdaaW.PrintMore
attribute [local go_sem] max2_int min2_int max_two min_two max_three min_three max_four min_four isSome_cell_setCell
set_option linter.unusedVariables false
set_option linter.unusedSimpArgs false
def spec_someProgram.f (k : Nat) (s0_0 : List Int) (s0_1 : Int) : Option ((List (S87)) × (List (S52)) × Int) := (spec_someTree.f k s0_0 s0_1).bind fun bt896 => (if (bt896.1.length : Int) = 0 then (some (bt896.1, (([(⟨0, 0, 0, 0⟩ : S52)] : List (S52))), bt896.2)) else ((spec_goodProgram.f k s0_0 bt896.2 bt896.1).bind fun bt904 => ((spec_reader_pick.f k s0_0 bt904.2 (bt904.1.length : Int)).bind fun bt908 => ((spec_reader_pick.f k s0_0 bt908.2 24).bind fun bt910 => (if bt910.1 = 0 then ((spec_reader_one.f k s0_0 bt910.2 (([(-1), 6, 0, 1] : List Int))).bind fun bt915 => (if 0 ≤ bt908.1 then (if bt908.1 < (bt904.1.length : Int) then (some (bt896.1, (bt904.1.set (bt908.1 : Int).toNat (⟨bt915.1, (rd_T52 bt904.1 bt908.1).f1, (rd_T52 bt904.1 bt908.1).f2, (rd_T52 bt904.1 bt908.1).f3⟩ : S52)), bt915.2)) else (none)) else (none))) else (if bt910.1 = 1 then ((spec_reader_one.f k s0_0 bt910.2 (([(-1), 13, 5, 9, 0] : List Int))).bind fun bt921 => (if 0 ≤ bt908.1 then (if bt908.1 < (bt904.1.length : Int) then (some (bt896.1, (bt904.1.set (bt908.1 : Int).toNat (⟨(rd_T52 bt904.1 bt908.1).f0, bt921.1, (rd_T52 bt904.1 bt908.1).f2, (rd_T52 bt904.1 bt908.1).f3⟩ : S52)), bt921.2)) else (none)) else (none))) else (if bt910.1 = 2 then ((spec_reader_one.f k s0_0 bt910.2 (([(-1), 100, 8] : List Int))).bind fun bt927 => (if 0 ≤ bt908.1 then (if bt908.1 < (bt904.1.length : Int) then (some (bt896.1, (bt904.1.set (bt908.1 : Int).toNat (⟨(rd_T52 bt904.1 bt908.1).f0, (rd_T52 bt904.1 bt908.1).f1, bt927.1, (rd_T52 bt904.1 bt908.1).f3⟩ : S52)), bt927.2)) else (none)) else (none))) else (if bt910.1 = 3 then (if 1 ≤ (bt904.1.length : Int) then (some (bt896.1, (bt904.1.drop (1 : Int).toNat), bt910.2)) else (none)) else (some (bt896.1, bt904.1, bt910.2))))))))))
set_option maxHeartbeats 8000000 in
set_option maxRecDepth 100000 in
theorem spec_someProgram.calls (k : Nat) (g : Nat) (s0_0 : List Int) (s0_1 : Int) (r1 : List (S87)) (r2 : List (S52)) (r3 : Int) (w0 w : World) (hI : IsS97 w0 w g s0_0 s0_1) (hB : Below w0.heap.size w0 w) (h : spec_someProgram.f k s0_0 s0_1 = some (r1, r2, r3)) :
  Calls Try.prog 90 #[.pointer (some ⟨g, 0, none⟩)] w fun e w' => ∃ v0_ v1_ : Value, e = .returned (.tuple #[.agg #[v0_], v1_]) ∧ Kd.R k87 87 w' w.heap.size (fun _ => True) v0_ r1 ∧ Kd.Q k52 52 w' w.heap.size (fun _ => True) v1_ r2 ∧ IsS97 w0 w' g s0_0 r3 ∧ Below w0.heap.size w0 w' ∧ KeepBut w w' g none := by
 have hu32 := Try.underlying32
 have hu52 := Try.underlying52
 have HI0 := am hI
 have HK := am (KeepBut.refl w g none)
 have HL := am hB.size
 clear hI
 have HW0 := am hB.size
 have HB := am hB
 clear hB
 have H : ((spec_someTree.f k s0_0 s0_1).bind fun bt896 => (if (bt896.1.length : Int) = 0 then (some (bt896.1, (([(⟨0, 0, 0, 0⟩ : S52)] : List (S52))), bt896.2)) else ((spec_goodProgram.f k s0_0 bt896.2 bt896.1).bind fun bt904 => ((spec_reader_pick.f k s0_0 bt904.2 (bt904.1.length : Int)).bind fun bt908 => ((spec_reader_pick.f k s0_0 bt908.2 24).bind fun bt910 => (if bt910.1 = 0 then ((spec_reader_one.f k s0_0 bt910.2 (([(-1), 6, 0, 1] : List Int))).bind fun bt915 => (if 0 ≤ bt908.1 then (if bt908.1 < (bt904.1.length : Int) then (some (bt896.1, (bt904.1.set (bt908.1 : Int).toNat (⟨bt915.1, (rd_T52 bt904.1 bt908.1).f1, (rd_T52 bt904.1 bt908.1).f2, (rd_T52 bt904.1 bt908.1).f3⟩ : S52)), bt915.2)) else (none)) else (none))) else (if bt910.1 = 1 then ((spec_reader_one.f k s0_0 bt910.2 (([(-1), 13, 5, 9, 0] : List Int))).bind fun bt921 => (if 0 ≤ bt908.1 then (if bt908.1 < (bt904.1.length : Int) then (some (bt896.1, (bt904.1.set (bt908.1 : Int).toNat (⟨(rd_T52 bt904.1 bt908.1).f0, bt921.1, (rd_T52 bt904.1 bt908.1).f2, (rd_T52 bt904.1 bt908.1).f3⟩ : S52)), bt921.2)) else (none)) else (none))) else (if bt910.1 = 2 then ((spec_reader_one.f k s0_0 bt910.2 (([(-1), 100, 8] : List Int))).bind fun bt927 => (if 0 ≤ bt908.1 then (if bt908.1 < (bt904.1.length : Int) then (some (bt896.1, (bt904.1.set (bt908.1 : Int).toNat (⟨(rd_T52 bt904.1 bt908.1).f0, (rd_T52 bt904.1 bt908.1).f1, bt927.1, (rd_T52 bt904.1 bt908.1).f3⟩ : S52)), bt927.2)) else (none)) else (none))) else (if bt910.1 = 3 then (if 1 ≤ (bt904.1.length : Int) then (some (bt896.1, (bt904.1.drop (1 : Int).toNat), bt910.2)) else (none)) else (some (bt896.1, bt904.1, bt910.2))))))))))) = some (r1, r2, r3) := h
 clear h
 replace H := Option.bind_eq_some_iff.mp H
 obtain ⟨⟨t896, t899⟩, A20, H⟩ := H
 replace H : (if (t896.length : Int) = 0 then (some (t896, (([(⟨0, 0, 0, 0⟩ : S52)] : List (S52))), t899)) else ((spec_goodProgram.f k s0_0 t899 t896).bind fun bt904 => ((spec_reader_pick.f k s0_0 bt904.2 (bt904.1.length : Int)).bind fun bt908 => ((spec_reader_pick.f k s0_0 bt908.2 24).bind fun bt910 => (if bt910.1 = 0 then ((spec_reader_one.f k s0_0 bt910.2 (([(-1), 6, 0, 1] : List Int))).bind fun bt915 => (if 0 ≤ bt908.1 then (if bt908.1 < (bt904.1.length : Int) then (some (t896, (bt904.1.set (bt908.1 : Int).toNat (⟨bt915.1, (rd_T52 bt904.1 bt908.1).f1, (rd_T52 bt904.1 bt908.1).f2, (rd_T52 bt904.1 bt908.1).f3⟩ : S52)), bt915.2)) else (none)) else (none))) else (if bt910.1 = 1 then ((spec_reader_one.f k s0_0 bt910.2 (([(-1), 13, 5, 9, 0] : List Int))).bind fun bt921 => (if 0 ≤ bt908.1 then (if bt908.1 < (bt904.1.length : Int) then (some (t896, (bt904.1.set (bt908.1 : Int).toNat (⟨(rd_T52 bt904.1 bt908.1).f0, bt921.1, (rd_T52 bt904.1 bt908.1).f2, (rd_T52 bt904.1 bt908.1).f3⟩ : S52)), bt921.2)) else (none)) else (none))) else (if bt910.1 = 2 then ((spec_reader_one.f k s0_0 bt910.2 (([(-1), 100, 8] : List Int))).bind fun bt927 => (if 0 ≤ bt908.1 then (if bt908.1 < (bt904.1.length : Int) then (some (t896, (bt904.1.set (bt908.1 : Int).toNat (⟨(rd_T52 bt904.1 bt908.1).f0, (rd_T52 bt904.1 bt908.1).f1, bt927.1, (rd_T52 bt904.1 bt908.1).f3⟩ : S52)), bt927.2)) else (none)) else (none))) else (if bt910.1 = 3 then (if 1 ≤ (bt904.1.length : Int) then (some (t896, (bt904.1.drop (1 : Int).toNat), bt910.2)) else (none)) else (some (t896, bt904.1, bt910.2)))))))))) = some (r1, r2, r3) := H
 have A2 := am A20
 clear A20
 by_cases c3 : (t896.length : Int) = 0
 ·rw [if_pos c3] at H
  have c3b0 : ((t896.length : Int) == 0) = true := beq_iff_eq.mpr c3
  have c3b1 : ((t896.length : Int) != 0) = false := bne_eq_false_iff_eq.mpr c3
  clear c3
  obtain ⟨y901, hy901⟩ : ∃ y_ : List (S52), y_ = (([(⟨0, 0, 0, 0⟩ : S52)] : List (S52))) := ⟨_, rfl⟩
  replace H : (some (t896, y901, t899)) = some (r1, r2, r3) := by first | (rw [hy901]; with_reducible exact H) | (have H2_ := (Option.bind_some _ _).symm.trans H; rw [hy901]; with_reducible exact H2_) | (have H2_ := (Option.bind_some _ _).symm.trans H; with_reducible exact H2_) | with_reducible exact H | (rw [hy901]; exact H) | exact H
  have Ny901 := am hy901
  clear hy901
  simp only [Option.some.injEq, Prod.mk.injEq] at H
  obtain ⟨rfl, rfl, rfl⟩ := H
  go_enter Try.func90, Try.ntmps90
  go_wp2_with (first | ((with_reducible refine gate_dst (N := 2) rfl ?_); refine bE (N := 2) (cs := #[.slice none 0 0]) (t := 32) ?_; intro gb895 hg w4 hbox hb; have BK895 := am (hbox); have GW895 := am ((Y13 : w.heap.size ≤ gb895)); have GE895 := am ((Nat.le_trans HW0.out (Y13 : w.heap.size ≤ gb895) : w0.heap.size ≤ gb895)); have NB0_895 := am ((Y29 : g ≠ gb895)); have NB895_0 := am ((Y30 : gb895 ≠ g)); replace HK := am (KeepBut.trans (Y18) (KeepBut.of_below hb g none) (.inl rfl)); replace HB := am (below_step (Y19) hb); replace HI0 := am (IsS97.below (Y17) hb); clear hb hbox hg) | ((with_reducible refine gate_callee (f := 110) rfl ?_); refine gL (some 8) Try.func110 #[.pointer (some ⟨g, 0, none⟩)] ?_; (with_reducible refine (spec_someTree.calls k g s0_0 s0_1 t896 t899 w0 _ ?side1 ?side2 A2.out).mono ?_); (case side1 => exact Y47); (case side2 => exact Y48); rintro e w5 ⟨v897, rfl, ho0, hi, hb, hk⟩; refine ⟨_, rfl, ?_⟩; have HO898 := am (Kd.R_lower ho0 (keep_size (w := w) (g := g) (row := none) (Y28))); replace BK895 := am (KeepBut.blk hk (g' := gb895) (o := .cells #[.slice none 0 0] 32 (0, 0)) (kq BK895.out) NB895_0.out (by simp)); replace HK := am (KeepBut.trans (Y28) hk (.inl rfl)); replace HB := am (hb); replace HI0 := am (hi); (try clear hb); (try clear hb2); (try clear hk); (try clear hi); (try clear ho0)) | ((with_reducible refine gate_dst (N := 4) rfl ?_); refine bE (N := 4) (cs := #[.slice none 0 0]) (t := 32) ?_; intro gb900 hg w6 hbox hb; have BK900 := am (hbox); have GW900 := am ((Y49 : w.heap.size ≤ gb900)); have GE900 := am ((Nat.le_trans HW0.out (Y49 : w.heap.size ≤ gb900) : w0.heap.size ≤ gb900)); have NB895_900 := am ((Y79 : gb895 ≠ gb900)); have NB900_895 := am ((Y80 : gb900 ≠ gb895)); have NB0_900 := am ((Y81 : g ≠ gb900)); have NB900_0 := am ((Y82 : gb900 ≠ g)); replace HO898 := am (Kd.R_below (rq HO898.out) hb); replace BK895 := am (blk_below (g := gb895) (o := .cells #[.slice none 0 0] 32 (0, 0)) (kq BK895.out) hb); replace HK := am (KeepBut.trans (Y28) (KeepBut.of_below hb g none) (.inl rfl)); replace HB := am (below_step (Y48) hb); replace HI0 := am (IsS97.below (Y47) hb); clear hb hbox hg; obtain ⟨Ao7, co7, eo7⟩ := Kd.R_slice HO898.out; subst eo7; have hnb8 := NB900_895.out; have hnc8 := NB895_900.out; have hnb9 := NB900_0.out; have hnc9 := NB0_900.out; have hcz10_0 := bc0 BK900.out; have hfz10_0 := blk_frozen BK900.out 0) | ((with_reducible refine gate_dst (N := 15) rfl ?_); refine Kd.R_lit k52 _ 52 ?hg (N := 15) ?hd (xs := ([(⟨0, 0, 0, 0⟩ : S52)] : List (S52))) (inner := [.int .i64 0, .int .i64 0, .int .i64 0, .int .i64 0]) (ok := fun _ => True) (okp := fun _ => True) ?hr ?hp (fun _ hk => hk) trivial (Below.refl _ _) (Nat.le_refl _) (by simp) ?_; (case hd => rfl); (case hg => rfl); (case hr => exact Y5); (case hp => exact (Reps.c4 (show Kd.M k52 _ _ _ (⟨0, 0, 0, 0⟩ : S52) [.int .i64 0, .int .i64 0, .int .i64 0, .int .i64 0] from (k52_mkM _ _ _ (⟨0, 0, 0, 0⟩ : S52) )) (Reps.none _ _))); intro v902 w11 ho12 hb hg_ hnew_; clear hg_ hnew_; (first | rw [← Ny901.out] at ho12 | (simp only [Int.reduceToNat] at ho12; rw [← Ny901.out] at ho12)); have HO903 := am (Kd.R_lower ho12 (keep_size (w := w) (g := g) (row := none) (Y10))); replace HO898 := am (Kd.R_below (by (with_reducible repeat (first | apply Kd.R_alloc | apply Kd.R_drewN | apply Kd.R_drew)); exact (Kd.R_mono (Kd.R_far (p := ⟨gb900, 0, none⟩) (Kd.R_types HO898.out BK900.out (by decide)) (fun _ hk => hk.2) (.slice Ao7 t896.length co7)) (fun _ h_ => h_.1))) hb); replace BK895 := am (blk_below (g := gb895) (o := .cells #[.slice none 0 0] 32 (0, 0)) (Y83) hb); replace BK900 := am (blk_below (g := gb900) (o := .cells #[.slice Ao7 t896.length co7] 32 (0, 0)) (Y84) hb); replace HK := am (KeepBut.trans (Y10) (KeepBut.of_below hb g none) (.inl rfl)); replace HB := am (below_step (Y16) hb); replace HI0 := am (IsS97.below (show IsS97 w0 (w6.setCell ⟨gb900, 0, none⟩ (.slice Ao7 t896.length co7)) g s0_0 t899 from Y3) hb); clear hb ho12; have hnb13 := NB895_0.out; have hnc13 := NB0_895.out; have hcz14_0 := bc0 BK895.out; have hfz14_0 := blk_frozen BK895.out 0))
  refine bodyPost_ret (results_ct rfl _ _ gb895 32 #[.slice Ao7 t896.length co7] (0, 0) _ rfl (Y85) Try.underlying32 rfl (by kernel_rfl)) rfl ?_
  exact ⟨_, _, Y0, by (with_reducible repeat (first | apply Kd.R_alloc | apply Kd.R_drewN | apply Kd.R_drew)); exact Kd.R_mono (Kd.R_far (p := ⟨gb895, 0, none⟩) (Kd.R_types HO898.out BK895.out (by decide)) (fun _ hk => hk.2) (.slice Ao7 t896.length co7)) (fun _ hk => trivial), Kd.Q_of_R (by (with_reducible repeat (first | apply Kd.R_alloc | apply Kd.R_drewN | apply Kd.R_drew)); exact Kd.R_mono (Kd.R_far (p := ⟨gb895, 0, none⟩) (Kd.R_types HO903.out BK895.out (by decide)) (fun _ hk => hk.2) (.slice Ao7 t896.length co7)) (fun _ hk => trivial)), Y3, Y16, Y10⟩
 ·rw [if_neg c3] at H
  have c3b0 : ((t896.length : Int) == 0) = false := beq_eq_false_iff_ne.mpr c3
  have c3b1 : ((t896.length : Int) != 0) = true := bne_iff_ne.mpr c3
  have c3b2 : ¬ (t896 = []) := fun h_ => c3 (by rw [h_]; rfl)
  replace H := Option.bind_eq_some_iff.mp H
  obtain ⟨⟨t904, t907⟩, A150, H⟩ := H
  replace H : ((spec_reader_pick.f k s0_0 t907 (t904.length : Int)).bind fun bt908 => ((spec_reader_pick.f k s0_0 bt908.2 24).bind fun bt910 => (if bt910.1 = 0 then ((spec_reader_one.f k s0_0 bt910.2 (([(-1), 6, 0, 1] : List Int))).bind fun bt915 => (if 0 ≤ bt908.1 then (if bt908.1 < (t904.length : Int) then (some (t896, (t904.set (bt908.1 : Int).toNat (⟨bt915.1, (rd_T52 t904 bt908.1).f1, (rd_T52 t904 bt908.1).f2, (rd_T52 t904 bt908.1).f3⟩ : S52)), bt915.2)) else (none)) else (none))) else (if bt910.1 = 1 then ((spec_reader_one.f k s0_0 bt910.2 (([(-1), 13, 5, 9, 0] : List Int))).bind fun bt921 => (if 0 ≤ bt908.1 then (if bt908.1 < (t904.length : Int) then (some (t896, (t904.set (bt908.1 : Int).toNat (⟨(rd_T52 t904 bt908.1).f0, bt921.1, (rd_T52 t904 bt908.1).f2, (rd_T52 t904 bt908.1).f3⟩ : S52)), bt921.2)) else (none)) else (none))) else (if bt910.1 = 2 then ((spec_reader_one.f k s0_0 bt910.2 (([(-1), 100, 8] : List Int))).bind fun bt927 => (if 0 ≤ bt908.1 then (if bt908.1 < (t904.length : Int) then (some (t896, (t904.set (bt908.1 : Int).toNat (⟨(rd_T52 t904 bt908.1).f0, (rd_T52 t904 bt908.1).f1, bt927.1, (rd_T52 t904 bt908.1).f3⟩ : S52)), bt927.2)) else (none)) else (none))) else (if bt910.1 = 3 then (if 1 ≤ (t904.length : Int) then (some (t896, (t904.drop (1 : Int).toNat), bt910.2)) else (none)) else (some (t896, t904, bt910.2)))))))) = some (r1, r2, r3) := H
  have A15 := am A150
  clear A150
  replace H := Option.bind_eq_some_iff.mp H
  obtain ⟨⟨t908, t909⟩, A160, H⟩ := H
  replace H : ((spec_reader_pick.f k s0_0 t909 24).bind fun bt910 => (if bt910.1 = 0 then ((spec_reader_one.f k s0_0 bt910.2 (([(-1), 6, 0, 1] : List Int))).bind fun bt915 => (if 0 ≤ t908 then (if t908 < (t904.length : Int) then (some (t896, (t904.set (t908 : Int).toNat (⟨bt915.1, (rd_T52 t904 t908).f1, (rd_T52 t904 t908).f2, (rd_T52 t904 t908).f3⟩ : S52)), bt915.2)) else (none)) else (none))) else (if bt910.1 = 1 then ((spec_reader_one.f k s0_0 bt910.2 (([(-1), 13, 5, 9, 0] : List Int))).bind fun bt921 => (if 0 ≤ t908 then (if t908 < (t904.length : Int) then (some (t896, (t904.set (t908 : Int).toNat (⟨(rd_T52 t904 t908).f0, bt921.1, (rd_T52 t904 t908).f2, (rd_T52 t904 t908).f3⟩ : S52)), bt921.2)) else (none)) else (none))) else (if bt910.1 = 2 then ((spec_reader_one.f k s0_0 bt910.2 (([(-1), 100, 8] : List Int))).bind fun bt927 => (if 0 ≤ t908 then (if t908 < (t904.length : Int) then (some (t896, (t904.set (t908 : Int).toNat (⟨(rd_T52 t904 t908).f0, (rd_T52 t904 t908).f1, bt927.1, (rd_T52 t904 t908).f3⟩ : S52)), bt927.2)) else (none)) else (none))) else (if bt910.1 = 3 then (if 1 ≤ (t904.length : Int) then (some (t896, (t904.drop (1 : Int).toNat), bt910.2)) else (none)) else (some (t896, t904, bt910.2))))))) = some (r1, r2, r3) := H
  have A16 := am A160
  clear A160
  replace H := Option.bind_eq_some_iff.mp H
  obtain ⟨⟨t910, t911⟩, A170, H⟩ := H
  replace H : (if t910 = 0 then ((spec_reader_one.f k s0_0 t911 (([(-1), 6, 0, 1] : List Int))).bind fun bt915 => (if 0 ≤ t908 then (if t908 < (t904.length : Int) then (some (t896, (t904.set (t908 : Int).toNat (⟨bt915.1, (rd_T52 t904 t908).f1, (rd_T52 t904 t908).f2, (rd_T52 t904 t908).f3⟩ : S52)), bt915.2)) else (none)) else (none))) else (if t910 = 1 then ((spec_reader_one.f k s0_0 t911 (([(-1), 13, 5, 9, 0] : List Int))).bind fun bt921 => (if 0 ≤ t908 then (if t908 < (t904.length : Int) then (some (t896, (t904.set (t908 : Int).toNat (⟨(rd_T52 t904 t908).f0, bt921.1, (rd_T52 t904 t908).f2, (rd_T52 t904 t908).f3⟩ : S52)), bt921.2)) else (none)) else (none))) else (if t910 = 2 then ((spec_reader_one.f k s0_0 t911 (([(-1), 100, 8] : List Int))).bind fun bt927 => (if 0 ≤ t908 then (if t908 < (t904.length : Int) then (some (t896, (t904.set (t908 : Int).toNat (⟨(rd_T52 t904 t908).f0, (rd_T52 t904 t908).f1, bt927.1, (rd_T52 t904 t908).f3⟩ : S52)), bt927.2)) else (none)) else (none))) else (if t910 = 3 then (if 1 ≤ (t904.length : Int) then (some (t896, (t904.drop (1 : Int).toNat), t911)) else (none)) else (some (t896, t904, t911)))))) = some (r1, r2, r3) := H
  have A17 := am A170
  clear A170
  by_cases c18 : t910 = 0
  ·rw [if_pos c18] at H
   have c18b0 : (t910 == 0) = true := beq_iff_eq.mpr c18
   have c18b1 : (t910 != 0) = false := bne_eq_false_iff_eq.mpr c18
   clear c18
   obtain ⟨y912, hy912⟩ : ∃ y_ : List Int, y_ = (([(-1), 6, 0, 1] : List Int)) := ⟨_, rfl⟩
   replace H : ((spec_reader_one.f k s0_0 t911 y912).bind fun bt915 => (if 0 ≤ t908 then (if t908 < (t904.length : Int) then (some (t896, (t904.set (t908 : Int).toNat (⟨bt915.1, (rd_T52 t904 t908).f1, (rd_T52 t904 t908).f2, (rd_T52 t904 t908).f3⟩ : S52)), bt915.2)) else (none)) else (none))) = some (r1, r2, r3) := by first | (rw [hy912]; with_reducible exact H) | (have H2_ := (Option.bind_some _ _).symm.trans H; rw [hy912]; with_reducible exact H2_) | (have H2_ := (Option.bind_some _ _).symm.trans H; with_reducible exact H2_) | with_reducible exact H | (rw [hy912]; exact H) | exact H
   have Ny912 := am hy912
   clear hy912
   replace H := Option.bind_eq_some_iff.mp H
   obtain ⟨⟨t915, t916⟩, A190, H⟩ := H
   replace H : (if 0 ≤ t908 then (if t908 < (t904.length : Int) then (some (t896, (t904.set (t908 : Int).toNat (⟨t915, (rd_T52 t904 t908).f1, (rd_T52 t904 t908).f2, (rd_T52 t904 t908).f3⟩ : S52)), t916)) else (none)) else (none)) = some (r1, r2, r3) := H
   have A19 := am A190
   clear A190
   by_cases c20 : 0 ≤ t908
   ·rw [if_pos c20] at H
    have c20b0 : decide (0 ≤ t908) = true := decide_eq_true c20
    clear c20
    by_cases c21 : t908 < (t904.length : Int)
    ·rw [if_pos c21] at H
     have c21b0 : decide (t908 < (t904.length : Int)) = true := decide_eq_true c21
     clear c21
     obtain ⟨y917, hy917⟩ : ∃ y_ : List (S52), y_ = (t904.set (t908 : Int).toNat (⟨t915, (rd_T52 t904 t908).f1, (rd_T52 t904 t908).f2, (rd_T52 t904 t908).f3⟩ : S52)) := ⟨_, rfl⟩
     replace H : (some (t896, y917, t916)) = some (r1, r2, r3) := by first | (rw [hy917]; with_reducible exact H) | (have H2_ := (Option.bind_some _ _).symm.trans H; rw [hy917]; with_reducible exact H2_) | (have H2_ := (Option.bind_some _ _).symm.trans H; with_reducible exact H2_) | with_reducible exact H | (rw [hy917]; exact H) | exact H
     have Ny917 := am hy917
     clear hy917
     simp only [Option.some.injEq, Prod.mk.injEq] at H
     obtain ⟨rfl, rfl, rfl⟩ := H
     go_enter Try.func90, Try.ntmps90
     go_wp2_with (first | ((with_reducible refine gate_dst (N := 2) rfl ?_); refine bE (N := 2) (cs := #[.slice none 0 0]) (t := 32) ?_; intro gb895 hg w23 hbox hb; have BK895 := am (hbox); have GW895 := am ((Y13 : w.heap.size ≤ gb895)); have GE895 := am ((Nat.le_trans HW0.out (Y13 : w.heap.size ≤ gb895) : w0.heap.size ≤ gb895)); have NB0_895 := am ((Y29 : g ≠ gb895)); have NB895_0 := am ((Y30 : gb895 ≠ g)); replace HK := am (KeepBut.trans (Y18) (KeepBut.of_below hb g none) (.inl rfl)); replace HB := am (below_step (Y19) hb); replace HI0 := am (IsS97.below (Y17) hb); clear hb hbox hg) | ((with_reducible refine gate_callee (f := 110) rfl ?_); refine gL (some 8) Try.func110 #[.pointer (some ⟨g, 0, none⟩)] ?_; (with_reducible refine (spec_someTree.calls k g s0_0 s0_1 t896 t899 w0 _ ?side1 ?side2 A2.out).mono ?_); (case side1 => exact Y47); (case side2 => exact Y48); rintro e w24 ⟨v897, rfl, ho0, hi, hb, hk⟩; refine ⟨_, rfl, ?_⟩; have HO898 := am (Kd.R_lower ho0 (keep_size (w := w) (g := g) (row := none) (Y28))); replace BK895 := am (KeepBut.blk hk (g' := gb895) (o := .cells #[.slice none 0 0] 32 (0, 0)) (kq BK895.out) NB895_0.out (by simp)); replace HK := am (KeepBut.trans (Y28) hk (.inl rfl)); replace HB := am (hb); replace HI0 := am (hi); (try clear hb); (try clear hb2); (try clear hk); (try clear hi); (try clear ho0)) | ((with_reducible refine gate_dst (N := 4) rfl ?_); refine bE (N := 4) (cs := #[.slice none 0 0]) (t := 32) ?_; intro gb900 hg w25 hbox hb; have BK900 := am (hbox); have GW900 := am ((Y49 : w.heap.size ≤ gb900)); have GE900 := am ((Nat.le_trans HW0.out (Y49 : w.heap.size ≤ gb900) : w0.heap.size ≤ gb900)); have NB895_900 := am ((Y79 : gb895 ≠ gb900)); have NB900_895 := am ((Y80 : gb900 ≠ gb895)); have NB0_900 := am ((Y81 : g ≠ gb900)); have NB900_0 := am ((Y82 : gb900 ≠ g)); replace HO898 := am (Kd.R_below (rq HO898.out) hb); replace BK895 := am (blk_below (g := gb895) (o := .cells #[.slice none 0 0] 32 (0, 0)) (kq BK895.out) hb); replace HK := am (KeepBut.trans (Y28) (KeepBut.of_below hb g none) (.inl rfl)); replace HB := am (below_step (Y48) hb); replace HI0 := am (IsS97.below (Y47) hb); clear hb hbox hg; obtain ⟨Ao26, co26, eo26⟩ := Kd.R_slice HO898.out; subst eo26; have hnb27 := NB900_895.out; have hnc27 := NB895_900.out; have hnb28 := NB900_0.out; have hnc28 := NB0_900.out; have hcz29_0 := bc0 BK900.out; have hfz29_0 := blk_frozen BK900.out 0) | ((with_reducible refine gate_callee (f := 111) rfl ?_); refine gL (some 18) Try.func111 #[.pointer (some ⟨g, 0, none⟩), .agg #[.slice Ao26 t896.length co26]] ?_; (with_reducible refine (spec_goodProgram.calls k g s0_0 t899 _ _ t896 t904 t907 w0 _ ?side1 ?side2 ?side3 ?side4 A15.out).mono ?_); (case side1 => exact Y3); (case side2 => exact Y16); (case side3 => exact Kd.C_foot_own (IsS97.apart (show IsS97 w0 _ g s0_0 t899 from Y3) (Y156) (by decide)) (fun _ h_ => h_.2)); (case side4 => exact (Kd.R_reads' HO898.out).2.1); rintro e w30 ⟨v905, rfl, ho0, hi, hb, hk⟩; refine ⟨_, rfl, ?_⟩; have HO906 := am (Kd.R_lower ho0 (keep_size (w := w) (g := g) (row := none) (Y10))); replace BK895 := am (KeepBut.blk hk (g' := gb895) (o := .cells #[.slice none 0 0] 32 (0, 0)) (Y83) NB895_0.out (by simp)); replace HO898 := am (Kd.R_mono (Kd.R_keep (IsS97.apart (show IsS97 w0 _ g s0_0 t899 from Y3) (Y156) (by decide)) hk (fun _ h => h.2)) (fun _ h => h.1)); replace BK900 := am (KeepBut.blk hk (g' := gb900) (o := .cells #[.slice Ao26 t896.length co26] 32 (0, 0)) (Y84) NB900_0.out (by simp)); replace HK := am (KeepBut.trans (Y10) hk (.inl rfl)); replace HB := am (hb); replace HI0 := am (hi); (try clear hb); (try clear hb2); (try clear hk); (try clear hi); (try clear ho0); obtain ⟨Ao31, co31, eo31⟩ := Kd.R_slice HO906.out; subst eo31) | ((with_reducible refine gate_callee (f := 71) rfl ?_); refine gL (some 22) Try.func71 #[.pointer (some ⟨g, 0, none⟩), .int .i64 (t904.length : Int)] ?_; (with_reducible refine (spec_reader_pick.calls k g s0_0 t907 (t904.length : Int) t908 t909 w0 _ ?side1 ?side2 A16.out).mono ?_); (case side1 => exact Y3); (case side2 => exact Y16); rintro e w32 ⟨rfl, hi, hb, hk⟩; refine ⟨_, rfl, ?_⟩; replace BK895 := am (KeepBut.blk hk (g' := gb895) (o := .cells #[.slice none 0 0] 32 (0, 0)) (kq BK895.out) NB895_0.out (by simp)); replace HO898 := am (Kd.R_mono (Kd.R_keep (IsS97.apart (show IsS97 w0 _ g s0_0 t907 from Y3) (rq HO898.out) (by decide)) hk (fun _ h => h.2)) (fun _ h => h.1)); replace BK900 := am (KeepBut.blk hk (g' := gb900) (o := .cells #[.slice Ao26 t896.length co26] 32 (0, 0)) (kq BK900.out) NB900_0.out (by simp)); replace HO906 := am (Kd.R_mono (Kd.R_keep (IsS97.apart (show IsS97 w0 _ g s0_0 t907 from Y3) (rq HO906.out) (by decide)) hk (fun _ h => h.2)) (fun _ h => h.1)); replace HK := am (KeepBut.trans (Y10) hk (.inl rfl)); replace HB := am (hb); replace HI0 := am (hi); (try clear hb); (try clear hb2); (try clear hk); (try clear hi)) | ((with_reducible refine gate_callee (f := 71) rfl ?_); refine gL (some 24) Try.func71 #[.pointer (some ⟨g, 0, none⟩), .int .i64 24] ?_; (with_reducible refine (spec_reader_pick.calls k g s0_0 t909 24 t910 t911 w0 _ ?side1 ?side2 A17.out).mono ?_); (case side1 => exact Y3); (case side2 => exact Y16); rintro e w33 ⟨rfl, hi, hb, hk⟩; refine ⟨_, rfl, ?_⟩; replace BK895 := am (KeepBut.blk hk (g' := gb895) (o := .cells #[.slice none 0 0] 32 (0, 0)) (kq BK895.out) NB895_0.out (by simp)); replace HO898 := am (Kd.R_mono (Kd.R_keep (IsS97.apart (show IsS97 w0 _ g s0_0 t909 from Y3) (rq HO898.out) (by decide)) hk (fun _ h => h.2)) (fun _ h => h.1)); replace BK900 := am (KeepBut.blk hk (g' := gb900) (o := .cells #[.slice Ao26 t896.length co26] 32 (0, 0)) (kq BK900.out) NB900_0.out (by simp)); replace HO906 := am (Kd.R_mono (Kd.R_keep (IsS97.apart (show IsS97 w0 _ g s0_0 t909 from Y3) (rq HO906.out) (by decide)) hk (fun _ h => h.2)) (fun _ h => h.1)); replace HK := am (KeepBut.trans (Y10) hk (.inl rfl)); replace HB := am (hb); replace HI0 := am (hi); (try clear hb); (try clear hb2); (try clear hk); (try clear hi)) | ((with_reducible refine gate_dst (N := 30) rfl ?_); refine Kd.R_lit (Kd.int .i64) _ 3 ?hg (N := 30) ?hd (xs := ([(-1), 6, 0, 1] : List Int)) (inner := [.int .i64 (-1), .int .i64 6, .int .i64 0, .int .i64 1]) (ok := fun _ => True) (okp := fun _ => True) ?hr ?hp (fun _ hk => hk) trivial (Below.refl _ _) (Nat.le_refl _) (by simp) ?_; (case hd => rfl); (case hg => rfl); (case hr => exact Y5); (case hp => exact (Reps.one (show Kd.M (Kd.int .i64) _ _ _ (-1) [.int .i64 (-1)] from rfl) (Reps.one (show Kd.M (Kd.int .i64) _ _ _ 6 [.int .i64 6] from rfl) (Reps.one (show Kd.M (Kd.int .i64) _ _ _ 0 [.int .i64 0] from rfl) (Reps.one (show Kd.M (Kd.int .i64) _ _ _ 1 [.int .i64 1] from rfl) (Reps.none _ _)))))); intro v913 w34 ho35 hb hg_ hnew_; clear hg_ hnew_; (first | rw [← Ny912.out] at ho35 | (simp only [Int.reduceToNat] at ho35; rw [← Ny912.out] at ho35)); have HO914 := am (Kd.R_lower ho35 (keep_size (w := w) (g := g) (row := none) (Y10))); replace HO898 := am (Kd.R_below (rq HO898.out) hb); replace HO906 := am (Kd.R_below (rq HO906.out) hb); replace BK895 := am (blk_below (g := gb895) (o := .cells #[.slice none 0 0] 32 (0, 0)) (kq BK895.out) hb); replace BK900 := am (blk_below (g := gb900) (o := .cells #[.slice Ao26 t896.length co26] 32 (0, 0)) (kq BK900.out) hb); replace HK := am (KeepBut.trans (Y10) (KeepBut.of_below hb g none) (.inl rfl)); replace HB := am (below_step (Y16) hb); replace HI0 := am (IsS97.below (Y3) hb); clear hb ho35; obtain ⟨Ao36, co36, eo36⟩ := Kd.R_slice HO914.out; subst eo36) | ((with_reducible refine gate_callee (f := 91) rfl ?_); refine gL (some 31) Try.func91 #[.pointer (some ⟨g, 0, none⟩), .slice Ao36 y912.length co36] ?_; (with_reducible refine (spec_reader_one.calls k g s0_0 t911 _ _ y912 t915 t916 w0 _ ?side1 ?side2 ?side3 ?side4 ?side5 A19.out).mono ?_); (case side1 => exact Y3); (case side2 => exact Y16); (case side3 => exact cq (Kd.R_reads' HO914.out).2.2); (case side4 => exact (Kd.R_reads' HO914.out).2.1); (case side5 => exact far_slice (IsS97.own_ne HI0.out HO914.out (by decide))); rintro e w37 ⟨rfl, hi, hb, hk⟩; refine ⟨_, rfl, ?_⟩; replace BK895 := am (KeepBut.blk hk (g' := gb895) (o := .cells #[.slice none 0 0] 32 (0, 0)) (kq BK895.out) NB895_0.out (by simp)); replace HO898 := am (Kd.R_mono (Kd.R_keep (IsS97.apart (show IsS97 w0 _ g s0_0 t911 from Y3) (rq HO898.out) (by decide)) hk (fun _ h => h.2)) (fun _ h => h.1)); replace BK900 := am (KeepBut.blk hk (g' := gb900) (o := .cells #[.slice Ao26 t896.length co26] 32 (0, 0)) (kq BK900.out) NB900_0.out (by simp)); replace HO906 := am (Kd.R_mono (Kd.R_keep (IsS97.apart (show IsS97 w0 _ g s0_0 t911 from Y3) (rq HO906.out) (by decide)) hk (fun _ h => h.2)) (fun _ h => h.1)); replace HO914 := am (Kd.R_mono (Kd.R_keep (IsS97.apart (show IsS97 w0 _ g s0_0 t911 from Y3) (rq HO914.out) (by decide)) hk (fun _ h => h.2)) (fun _ h => h.1)); replace HK := am (KeepBut.trans (Y10) hk (.inl rfl)); replace HB := am (hb); replace HI0 := am (hi); (try clear hb); (try clear hb2); (try clear hk); (try clear hi); have p22 : 0 ≤ (t908 : Int) := of_decide_eq_true (uq); have q22 : (t908 : Int) < ((t904.length : Int) : Int) := of_decide_eq_true (uq); obtain ⟨go22, co22, eo22, gb22, gl22, cl22, HG22⟩ := Kd.R_form HO906.out (by omega); (first | cases eo22 | (injection eo22 with ea_ en_ ec_; (first | subst ea_ | (injection ea_ with ea_; subst ea_)); subst ec_; clear en_)); have GB22 := am gb22; have GG22 := am HG22; clear gb22 gl22 HG22; obtain ⟨ce22, hcl22, hM22, hcc22, hfr22⟩ := Kd.R_elem HO906.out z52 (t908 : Int) p22 q22; obtain rfl := k52_openM hM22; have hx22_0 : w37.cell? ⟨go22, (t908 : Int).toNat * 4, none⟩ = some (.int .i64 ((rd_T52 t904 t908).f0)) := hcc22 0 _ rfl; have hx22_1 : w37.cell? ⟨go22, (t908 : Int).toNat * 4 + 1, none⟩ = some (.int .i64 ((rd_T52 t904 t908).f1)) := hcc22 1 _ rfl; have hx22_2 : w37.cell? ⟨go22, (t908 : Int).toNat * 4 + 2, none⟩ = some (.int .i64 ((rd_T52 t904 t908).f2)) := hcc22 2 _ rfl; have hx22_3 : w37.cell? ⟨go22, (t908 : Int).toNat * 4 + 3, none⟩ = some (.int .i64 ((rd_T52 t904 t908).f3)) := hcc22 3 _ rfl; have hf22_0 : w37.frozen? ⟨go22, (t908 : Int).toNat * 4, none⟩ = false := hfr22 0; have hf22_1 : w37.frozen? ⟨go22, (t908 : Int).toNat * 4 + 1, none⟩ = false := hfr22 1; have hf22_2 : w37.frozen? ⟨go22, (t908 : Int).toNat * 4 + 2, none⟩ = false := hfr22 2; have hf22_3 : w37.frozen? ⟨go22, (t908 : Int).toNat * 4 + 3, none⟩ = false := hfr22 3; clear hcl22 hcc22 hfr22 hM22; replace p22 := eq_true p22; replace q22 := eq_true q22; have HX38 := am (show Kd.R k52 52 w37 w.heap.size (fun _ => True) (.slice (some ⟨go22, 0, none⟩) t904.length co31) t904 from (rq HO906.out)); obtain ⟨ce38, hcl38, hM38, hcc38, hfr38⟩ := Kd.R_elem HX38.out z52 (t908 : Int) (of_decide_eq_true (uq)) (by have h_ : (t908 : Int) < ((t904.length : Int) : Int) := of_decide_eq_true (uq); first | exact h_ | (have e_ := (Kd.R_reads' HO906.out).1; omega) | simpa using h_); obtain rfl := k52_openM hM38; have HP38 := Kd.R_seg HX38.out (t908 : Int) (of_decide_eq_true (uq)) (by have h_ : (t908 : Int) < ((t904.length : Int) : Int) := of_decide_eq_true (uq); first | exact h_ | (have e_ := (Kd.R_reads' HO906.out).1; omega) | simpa using h_) (seg := [.int .i64 t915]) (j := 0) hcl38 hcc38 (show 1 ≤ 4 from by decide) (x' := (⟨t915, (rd_T52 t904 t908).f1, (rd_T52 t904 t908).f2, (rd_T52 t904 t908).f3⟩ : S52)) (k52_mkM _ _ _ (⟨t915, (rd_T52 t904 t908).f1, (rd_T52 t904 t908).f2, (rd_T52 t904 t908).f3⟩ : S52) ) (fun _ hk => hk); have hx38_0 := hcc38 0 _ rfl; (try simp only [show (k52).sz = 4 from rfl, Nat.mul_one, Nat.add_zero] at hx38_0); have hf38_0 := hfr38 0; (try simp only [show (k52).sz = 4 from rfl, Nat.mul_one, Nat.add_zero] at hf38_0); clear hcl38 hcc38 hfr38 hM38) | ((with_reducible refine gate_store (t := 3) (p := 33) rfl ?_); refine store_event (t := 3) (p := 33) (v := ?vo_w39) (w1 := (w37.setCell ⟨go22, (t908 : Int).toNat * 4, none⟩ (.int .i64 t915))) ?hg ?ho ?hn ?hr ?_; (case ho => rfl); (case hg => rfl); (case hn => rfl); (case hr => exact Y5); intro w39 hw; have hg : w37.grownBy w39 (some go22) := (by rw [hw]; exact HP38.2); have hp_ : Kd.R k52 52 w39 w.heap.size (fun _ => True) (.slice (some ⟨go22, 0, none⟩) t904.length co31) y917 := (by rw [hw, Ny917.out]; exact HP38.1); clear HP38; replace HI0 := am (IsS97.grown (Y3) hg (IsS97.own_ne HI0.out HO906.out (by decide))); replace BK895 := am (blk_grown (g := gb895) (o := .cells #[.slice none 0 0] 32 (0, 0)) (kq BK895.out) hg (Kd.R_ne HO906.out BK895.out (by decide))); replace HO898 := am (Kd.R_over' (v := (.slice (some ⟨go22, 0, none⟩) t904.length co31)) (rq HO898.out) (Kd.R_typed HO906.out) (by decide) hg); replace BK900 := am (blk_grown (g := gb900) (o := .cells #[.slice Ao26 t896.length co26] 32 (0, 0)) (kq BK900.out) hg (Kd.R_ne HO906.out BK900.out (by decide))); replace HO914 := am (Kd.R_over' (v := (.slice (some ⟨go22, 0, none⟩) t904.length co31)) (rq HO914.out) (Kd.R_typed HO906.out) (by decide) hg); replace HB := am ((by rw [hw]; exact below_set (HB.out) (Nat.le_trans HL.out GB22.out) : Below w0.heap.size w0 w39)); replace HK := am (KeepBut.trans (Y10) (KeepBut.of_grown hg g) (Kd.R_base2 HO906.out)); replace HO906 := am (hp_); clear hg hw hp_; have hcz40_0 := bc0 BK900.out; have hfz40_0 := blk_frozen BK900.out 0; have hnb41 := NB895_0.out; have hnc41 := NB0_895.out; have hcz42_0 := bc0 BK895.out; have hfz42_0 := blk_frozen BK895.out 0))
     refine bodyPost_ret (results_ct rfl _ _ gb895 32 #[.slice Ao26 t896.length co26] (0, 0) _ rfl (Y85) Try.underlying32 rfl (by kernel_rfl)) rfl ?_
     exact ⟨_, _, Y0, by (with_reducible repeat (first | apply Kd.R_alloc | apply Kd.R_drewN | apply Kd.R_drew)); exact Kd.R_mono (Kd.R_far (p := ⟨gb895, 0, none⟩) (Kd.R_types HO898.out BK895.out (by decide)) (fun _ hk => hk.2) (.slice Ao26 t896.length co26)) (fun _ hk => trivial), Kd.Q_of_R (by (with_reducible repeat (first | apply Kd.R_alloc | apply Kd.R_drewN | apply Kd.R_drew)); exact Kd.R_mono (Kd.R_far (p := ⟨gb895, 0, none⟩) (Kd.R_types HO906.out BK895.out (by decide)) (fun _ hk => hk.2) (.slice Ao26 t896.length co26)) (fun _ hk => trivial)), Y3, Y16, Y10⟩
    ·rw [if_neg c21] at H
     exact absurd H (by simp)
   ·rw [if_neg c20] at H
    exact absurd H (by simp)
  ·rw [if_neg c18] at H
   have c18b0 : (t910 == 0) = false := beq_eq_false_iff_ne.mpr c18
   have c18b1 : (t910 != 0) = true := bne_iff_ne.mpr c18
   by_cases c43 : t910 = 1
   ·rw [if_pos c43] at H
    have c43b0 : (t910 == 1) = true := beq_iff_eq.mpr c43
    have c43b1 : (t910 != 1) = false := bne_eq_false_iff_eq.mpr c43
    clear c43
    obtain ⟨y918, hy918⟩ : ∃ y_ : List Int, y_ = (([(-1), 13, 5, 9, 0] : List Int)) := ⟨_, rfl⟩
    replace H : ((spec_reader_one.f k s0_0 t911 y918).bind fun bt921 => (if 0 ≤ t908 then (if t908 < (t904.length : Int) then (some (t896, (t904.set (t908 : Int).toNat (⟨(rd_T52 t904 t908).f0, bt921.1, (rd_T52 t904 t908).f2, (rd_T52 t904 t908).f3⟩ : S52)), bt921.2)) else (none)) else (none))) = some (r1, r2, r3) := by first | (rw [hy918]; with_reducible exact H) | (have H2_ := (Option.bind_some _ _).symm.trans H; rw [hy918]; with_reducible exact H2_) | (have H2_ := (Option.bind_some _ _).symm.trans H; with_reducible exact H2_) | with_reducible exact H | (rw [hy918]; exact H) | exact H
    have Ny918 := am hy918
    clear hy918
    replace H := Option.bind_eq_some_iff.mp H
    obtain ⟨⟨t921, t922⟩, A440, H⟩ := H
    replace H : (if 0 ≤ t908 then (if t908 < (t904.length : Int) then (some (t896, (t904.set (t908 : Int).toNat (⟨(rd_T52 t904 t908).f0, t921, (rd_T52 t904 t908).f2, (rd_T52 t904 t908).f3⟩ : S52)), t922)) else (none)) else (none)) = some (r1, r2, r3) := H
    have A44 := am A440
    clear A440
    by_cases c45 : 0 ≤ t908
    ·rw [if_pos c45] at H
     have c45b0 : decide (0 ≤ t908) = true := decide_eq_true c45
     clear c45
     by_cases c46 : t908 < (t904.length : Int)
     ·rw [if_pos c46] at H
      have c46b0 : decide (t908 < (t904.length : Int)) = true := decide_eq_true c46
      clear c46
      obtain ⟨y923, hy923⟩ : ∃ y_ : List (S52), y_ = (t904.set (t908 : Int).toNat (⟨(rd_T52 t904 t908).f0, t921, (rd_T52 t904 t908).f2, (rd_T52 t904 t908).f3⟩ : S52)) := ⟨_, rfl⟩
      replace H : (some (t896, y923, t922)) = some (r1, r2, r3) := by first | (rw [hy923]; with_reducible exact H) | (have H2_ := (Option.bind_some _ _).symm.trans H; rw [hy923]; with_reducible exact H2_) | (have H2_ := (Option.bind_some _ _).symm.trans H; with_reducible exact H2_) | with_reducible exact H | (rw [hy923]; exact H) | exact H
      have Ny923 := am hy923
      clear hy923
      simp only [Option.some.injEq, Prod.mk.injEq] at H
      obtain ⟨rfl, rfl, rfl⟩ := H
      go_enter Try.func90, Try.ntmps90
      go_wp2_with (first | ((with_reducible refine gate_dst (N := 2) rfl ?_); refine bE (N := 2) (cs := #[.slice none 0 0]) (t := 32) ?_; intro gb895 hg w48 hbox hb; have BK895 := am (hbox); have GW895 := am ((Y13 : w.heap.size ≤ gb895)); have GE895 := am ((Nat.le_trans HW0.out (Y13 : w.heap.size ≤ gb895) : w0.heap.size ≤ gb895)); have NB0_895 := am ((Y29 : g ≠ gb895)); have NB895_0 := am ((Y30 : gb895 ≠ g)); replace HK := am (KeepBut.trans (Y18) (KeepBut.of_below hb g none) (.inl rfl)); replace HB := am (below_step (Y19) hb); replace HI0 := am (IsS97.below (Y17) hb); clear hb hbox hg) | ((with_reducible refine gate_callee (f := 110) rfl ?_); refine gL (some 8) Try.func110 #[.pointer (some ⟨g, 0, none⟩)] ?_; (with_reducible refine (spec_someTree.calls k g s0_0 s0_1 t896 t899 w0 _ ?side1 ?side2 A2.out).mono ?_); (case side1 => exact Y47); (case side2 => exact Y48); rintro e w49 ⟨v897, rfl, ho0, hi, hb, hk⟩; refine ⟨_, rfl, ?_⟩; have HO898 := am (Kd.R_lower ho0 (keep_size (w := w) (g := g) (row := none) (Y28))); replace BK895 := am (KeepBut.blk hk (g' := gb895) (o := .cells #[.slice none 0 0] 32 (0, 0)) (kq BK895.out) NB895_0.out (by simp)); replace HK := am (KeepBut.trans (Y28) hk (.inl rfl)); replace HB := am (hb); replace HI0 := am (hi); (try clear hb); (try clear hb2); (try clear hk); (try clear hi); (try clear ho0)) | ((with_reducible refine gate_dst (N := 4) rfl ?_); refine bE (N := 4) (cs := #[.slice none 0 0]) (t := 32) ?_; intro gb900 hg w50 hbox hb; have BK900 := am (hbox); have GW900 := am ((Y49 : w.heap.size ≤ gb900)); have GE900 := am ((Nat.le_trans HW0.out (Y49 : w.heap.size ≤ gb900) : w0.heap.size ≤ gb900)); have NB895_900 := am ((Y79 : gb895 ≠ gb900)); have NB900_895 := am ((Y80 : gb900 ≠ gb895)); have NB0_900 := am ((Y81 : g ≠ gb900)); have NB900_0 := am ((Y82 : gb900 ≠ g)); replace HO898 := am (Kd.R_below (rq HO898.out) hb); replace BK895 := am (blk_below (g := gb895) (o := .cells #[.slice none 0 0] 32 (0, 0)) (kq BK895.out) hb); replace HK := am (KeepBut.trans (Y28) (KeepBut.of_below hb g none) (.inl rfl)); replace HB := am (below_step (Y48) hb); replace HI0 := am (IsS97.below (Y47) hb); clear hb hbox hg; obtain ⟨Ao51, co51, eo51⟩ := Kd.R_slice HO898.out; subst eo51; have hnb52 := NB900_895.out; have hnc52 := NB895_900.out; have hnb53 := NB900_0.out; have hnc53 := NB0_900.out; have hcz54_0 := bc0 BK900.out; have hfz54_0 := blk_frozen BK900.out 0) | ((with_reducible refine gate_callee (f := 111) rfl ?_); refine gL (some 18) Try.func111 #[.pointer (some ⟨g, 0, none⟩), .agg #[.slice Ao51 t896.length co51]] ?_; (with_reducible refine (spec_goodProgram.calls k g s0_0 t899 _ _ t896 t904 t907 w0 _ ?side1 ?side2 ?side3 ?side4 A15.out).mono ?_); (case side1 => exact Y3); (case side2 => exact Y16); (case side3 => exact Kd.C_foot_own (IsS97.apart (show IsS97 w0 _ g s0_0 t899 from Y3) (Y157) (by decide)) (fun _ h_ => h_.2)); (case side4 => exact (Kd.R_reads' HO898.out).2.1); rintro e w55 ⟨v905, rfl, ho0, hi, hb, hk⟩; refine ⟨_, rfl, ?_⟩; have HO906 := am (Kd.R_lower ho0 (keep_size (w := w) (g := g) (row := none) (Y10))); replace BK895 := am (KeepBut.blk hk (g' := gb895) (o := .cells #[.slice none 0 0] 32 (0, 0)) (Y83) NB895_0.out (by simp)); replace HO898 := am (Kd.R_mono (Kd.R_keep (IsS97.apart (show IsS97 w0 _ g s0_0 t899 from Y3) (Y157) (by decide)) hk (fun _ h => h.2)) (fun _ h => h.1)); replace BK900 := am (KeepBut.blk hk (g' := gb900) (o := .cells #[.slice Ao51 t896.length co51] 32 (0, 0)) (Y84) NB900_0.out (by simp)); replace HK := am (KeepBut.trans (Y10) hk (.inl rfl)); replace HB := am (hb); replace HI0 := am (hi); (try clear hb); (try clear hb2); (try clear hk); (try clear hi); (try clear ho0); obtain ⟨Ao56, co56, eo56⟩ := Kd.R_slice HO906.out; subst eo56) | ((with_reducible refine gate_callee (f := 71) rfl ?_); refine gL (some 22) Try.func71 #[.pointer (some ⟨g, 0, none⟩), .int .i64 (t904.length : Int)] ?_; (with_reducible refine (spec_reader_pick.calls k g s0_0 t907 (t904.length : Int) t908 t909 w0 _ ?side1 ?side2 A16.out).mono ?_); (case side1 => exact Y3); (case side2 => exact Y16); rintro e w57 ⟨rfl, hi, hb, hk⟩; refine ⟨_, rfl, ?_⟩; replace BK895 := am (KeepBut.blk hk (g' := gb895) (o := .cells #[.slice none 0 0] 32 (0, 0)) (kq BK895.out) NB895_0.out (by simp)); replace HO898 := am (Kd.R_mono (Kd.R_keep (IsS97.apart (show IsS97 w0 _ g s0_0 t907 from Y3) (rq HO898.out) (by decide)) hk (fun _ h => h.2)) (fun _ h => h.1)); replace BK900 := am (KeepBut.blk hk (g' := gb900) (o := .cells #[.slice Ao51 t896.length co51] 32 (0, 0)) (kq BK900.out) NB900_0.out (by simp)); replace HO906 := am (Kd.R_mono (Kd.R_keep (IsS97.apart (show IsS97 w0 _ g s0_0 t907 from Y3) (rq HO906.out) (by decide)) hk (fun _ h => h.2)) (fun _ h => h.1)); replace HK := am (KeepBut.trans (Y10) hk (.inl rfl)); replace HB := am (hb); replace HI0 := am (hi); (try clear hb); (try clear hb2); (try clear hk); (try clear hi)) | ((with_reducible refine gate_callee (f := 71) rfl ?_); refine gL (some 24) Try.func71 #[.pointer (some ⟨g, 0, none⟩), .int .i64 24] ?_; (with_reducible refine (spec_reader_pick.calls k g s0_0 t909 24 t910 t911 w0 _ ?side1 ?side2 A17.out).mono ?_); (case side1 => exact Y3); (case side2 => exact Y16); rintro e w58 ⟨rfl, hi, hb, hk⟩; refine ⟨_, rfl, ?_⟩; replace BK895 := am (KeepBut.blk hk (g' := gb895) (o := .cells #[.slice none 0 0] 32 (0, 0)) (kq BK895.out) NB895_0.out (by simp)); replace HO898 := am (Kd.R_mono (Kd.R_keep (IsS97.apart (show IsS97 w0 _ g s0_0 t909 from Y3) (rq HO898.out) (by decide)) hk (fun _ h => h.2)) (fun _ h => h.1)); replace BK900 := am (KeepBut.blk hk (g' := gb900) (o := .cells #[.slice Ao51 t896.length co51] 32 (0, 0)) (kq BK900.out) NB900_0.out (by simp)); replace HO906 := am (Kd.R_mono (Kd.R_keep (IsS97.apart (show IsS97 w0 _ g s0_0 t909 from Y3) (rq HO906.out) (by decide)) hk (fun _ h => h.2)) (fun _ h => h.1)); replace HK := am (KeepBut.trans (Y10) hk (.inl rfl)); replace HB := am (hb); replace HI0 := am (hi); (try clear hb); (try clear hb2); (try clear hk); (try clear hi)) | ((with_reducible refine gate_dst (N := 39) rfl ?_); refine Kd.R_lit (Kd.int .i64) _ 3 ?hg (N := 39) ?hd (xs := ([(-1), 13, 5, 9, 0] : List Int)) (inner := [.int .i64 (-1), .int .i64 13, .int .i64 5, .int .i64 9, .int .i64 0]) (ok := fun _ => True) (okp := fun _ => True) ?hr ?hp (fun _ hk => hk) trivial (Below.refl _ _) (Nat.le_refl _) (by simp) ?_; (case hd => rfl); (case hg => rfl); (case hr => exact Y5); (case hp => exact (Reps.one (show Kd.M (Kd.int .i64) _ _ _ (-1) [.int .i64 (-1)] from rfl) (Reps.one (show Kd.M (Kd.int .i64) _ _ _ 13 [.int .i64 13] from rfl) (Reps.one (show Kd.M (Kd.int .i64) _ _ _ 5 [.int .i64 5] from rfl) (Reps.one (show Kd.M (Kd.int .i64) _ _ _ 9 [.int .i64 9] from rfl) (Reps.one (show Kd.M (Kd.int .i64) _ _ _ 0 [.int .i64 0] from rfl) (Reps.none _ _))))))); intro v919 w59 ho60 hb hg_ hnew_; clear hg_ hnew_; (first | rw [← Ny918.out] at ho60 | (simp only [Int.reduceToNat] at ho60; rw [← Ny918.out] at ho60)); have HO920 := am (Kd.R_lower ho60 (keep_size (w := w) (g := g) (row := none) (Y10))); replace HO898 := am (Kd.R_below (rq HO898.out) hb); replace HO906 := am (Kd.R_below (rq HO906.out) hb); replace BK895 := am (blk_below (g := gb895) (o := .cells #[.slice none 0 0] 32 (0, 0)) (kq BK895.out) hb); replace BK900 := am (blk_below (g := gb900) (o := .cells #[.slice Ao51 t896.length co51] 32 (0, 0)) (kq BK900.out) hb); replace HK := am (KeepBut.trans (Y10) (KeepBut.of_below hb g none) (.inl rfl)); replace HB := am (below_step (Y16) hb); replace HI0 := am (IsS97.below (Y3) hb); clear hb ho60; obtain ⟨Ao61, co61, eo61⟩ := Kd.R_slice HO920.out; subst eo61) | ((with_reducible refine gate_callee (f := 91) rfl ?_); refine gL (some 40) Try.func91 #[.pointer (some ⟨g, 0, none⟩), .slice Ao61 y918.length co61] ?_; (with_reducible refine (spec_reader_one.calls k g s0_0 t911 _ _ y918 t921 t922 w0 _ ?side1 ?side2 ?side3 ?side4 ?side5 A44.out).mono ?_); (case side1 => exact Y3); (case side2 => exact Y16); (case side3 => exact cq (Kd.R_reads' HO920.out).2.2); (case side4 => exact (Kd.R_reads' HO920.out).2.1); (case side5 => exact far_slice (IsS97.own_ne HI0.out HO920.out (by decide))); rintro e w62 ⟨rfl, hi, hb, hk⟩; refine ⟨_, rfl, ?_⟩; replace BK895 := am (KeepBut.blk hk (g' := gb895) (o := .cells #[.slice none 0 0] 32 (0, 0)) (kq BK895.out) NB895_0.out (by simp)); replace HO898 := am (Kd.R_mono (Kd.R_keep (IsS97.apart (show IsS97 w0 _ g s0_0 t911 from Y3) (rq HO898.out) (by decide)) hk (fun _ h => h.2)) (fun _ h => h.1)); replace BK900 := am (KeepBut.blk hk (g' := gb900) (o := .cells #[.slice Ao51 t896.length co51] 32 (0, 0)) (kq BK900.out) NB900_0.out (by simp)); replace HO906 := am (Kd.R_mono (Kd.R_keep (IsS97.apart (show IsS97 w0 _ g s0_0 t911 from Y3) (rq HO906.out) (by decide)) hk (fun _ h => h.2)) (fun _ h => h.1)); replace HO920 := am (Kd.R_mono (Kd.R_keep (IsS97.apart (show IsS97 w0 _ g s0_0 t911 from Y3) (rq HO920.out) (by decide)) hk (fun _ h => h.2)) (fun _ h => h.1)); replace HK := am (KeepBut.trans (Y10) hk (.inl rfl)); replace HB := am (hb); replace HI0 := am (hi); (try clear hb); (try clear hb2); (try clear hk); (try clear hi); have p47 : 0 ≤ (t908 : Int) := of_decide_eq_true (uq); have q47 : (t908 : Int) < ((t904.length : Int) : Int) := of_decide_eq_true (uq); obtain ⟨go47, co47, eo47, gb47, gl47, cl47, HG47⟩ := Kd.R_form HO906.out (by omega); (first | cases eo47 | (injection eo47 with ea_ en_ ec_; (first | subst ea_ | (injection ea_ with ea_; subst ea_)); subst ec_; clear en_)); have GB47 := am gb47; have GG47 := am HG47; clear gb47 gl47 HG47; obtain ⟨ce47, hcl47, hM47, hcc47, hfr47⟩ := Kd.R_elem HO906.out z52 (t908 : Int) p47 q47; obtain rfl := k52_openM hM47; have hx47_0 : w62.cell? ⟨go47, (t908 : Int).toNat * 4, none⟩ = some (.int .i64 ((rd_T52 t904 t908).f0)) := hcc47 0 _ rfl; have hx47_1 : w62.cell? ⟨go47, (t908 : Int).toNat * 4 + 1, none⟩ = some (.int .i64 ((rd_T52 t904 t908).f1)) := hcc47 1 _ rfl; have hx47_2 : w62.cell? ⟨go47, (t908 : Int).toNat * 4 + 2, none⟩ = some (.int .i64 ((rd_T52 t904 t908).f2)) := hcc47 2 _ rfl; have hx47_3 : w62.cell? ⟨go47, (t908 : Int).toNat * 4 + 3, none⟩ = some (.int .i64 ((rd_T52 t904 t908).f3)) := hcc47 3 _ rfl; have hf47_0 : w62.frozen? ⟨go47, (t908 : Int).toNat * 4, none⟩ = false := hfr47 0; have hf47_1 : w62.frozen? ⟨go47, (t908 : Int).toNat * 4 + 1, none⟩ = false := hfr47 1; have hf47_2 : w62.frozen? ⟨go47, (t908 : Int).toNat * 4 + 2, none⟩ = false := hfr47 2; have hf47_3 : w62.frozen? ⟨go47, (t908 : Int).toNat * 4 + 3, none⟩ = false := hfr47 3; clear hcl47 hcc47 hfr47 hM47; replace p47 := eq_true p47; replace q47 := eq_true q47; have HX63 := am (show Kd.R k52 52 w62 w.heap.size (fun _ => True) (.slice (some ⟨go47, 0, none⟩) t904.length co56) t904 from (rq HO906.out)); obtain ⟨ce63, hcl63, hM63, hcc63, hfr63⟩ := Kd.R_elem HX63.out z52 (t908 : Int) (of_decide_eq_true (uq)) (by have h_ : (t908 : Int) < ((t904.length : Int) : Int) := of_decide_eq_true (uq); first | exact h_ | (have e_ := (Kd.R_reads' HO906.out).1; omega) | simpa using h_); obtain rfl := k52_openM hM63; have HP63 := Kd.R_seg HX63.out (t908 : Int) (of_decide_eq_true (uq)) (by have h_ : (t908 : Int) < ((t904.length : Int) : Int) := of_decide_eq_true (uq); first | exact h_ | (have e_ := (Kd.R_reads' HO906.out).1; omega) | simpa using h_) (seg := [.int .i64 t921]) (j := 1) hcl63 hcc63 (show 2 ≤ 4 from by decide) (x' := (⟨(rd_T52 t904 t908).f0, t921, (rd_T52 t904 t908).f2, (rd_T52 t904 t908).f3⟩ : S52)) (k52_mkM _ _ _ (⟨(rd_T52 t904 t908).f0, t921, (rd_T52 t904 t908).f2, (rd_T52 t904 t908).f3⟩ : S52) ) (fun _ hk => hk); have hx63_1 := hcc63 1 _ rfl; (try simp only [show (k52).sz = 4 from rfl, Nat.mul_one, Nat.add_zero] at hx63_1); have hf63_1 := hfr63 1; (try simp only [show (k52).sz = 4 from rfl, Nat.mul_one, Nat.add_zero] at hf63_1); clear hcl63 hcc63 hfr63 hM63) | ((with_reducible refine gate_store (t := 3) (p := 42) rfl ?_); refine store_event (t := 3) (p := 42) (v := ?vo_w64) (w1 := (w62.setCell ⟨go47, (t908 : Int).toNat * 4 + 1, none⟩ (.int .i64 t921))) ?hg ?ho ?hn ?hr ?_; (case ho => rfl); (case hg => rfl); (case hn => rfl); (case hr => exact Y5); intro w64 hw; have hg : w62.grownBy w64 (some go47) := (by rw [hw]; exact HP63.2); have hp_ : Kd.R k52 52 w64 w.heap.size (fun _ => True) (.slice (some ⟨go47, 0, none⟩) t904.length co56) y923 := (by rw [hw, Ny923.out]; exact HP63.1); clear HP63; replace HI0 := am (IsS97.grown (Y3) hg (IsS97.own_ne HI0.out HO906.out (by decide))); replace BK895 := am (blk_grown (g := gb895) (o := .cells #[.slice none 0 0] 32 (0, 0)) (kq BK895.out) hg (Kd.R_ne HO906.out BK895.out (by decide))); replace HO898 := am (Kd.R_over' (v := (.slice (some ⟨go47, 0, none⟩) t904.length co56)) (rq HO898.out) (Kd.R_typed HO906.out) (by decide) hg); replace BK900 := am (blk_grown (g := gb900) (o := .cells #[.slice Ao51 t896.length co51] 32 (0, 0)) (kq BK900.out) hg (Kd.R_ne HO906.out BK900.out (by decide))); replace HO920 := am (Kd.R_over' (v := (.slice (some ⟨go47, 0, none⟩) t904.length co56)) (rq HO920.out) (Kd.R_typed HO906.out) (by decide) hg); replace HB := am ((by rw [hw]; exact below_set (HB.out) (Nat.le_trans HL.out GB47.out) : Below w0.heap.size w0 w64)); replace HK := am (KeepBut.trans (Y10) (KeepBut.of_grown hg g) (Kd.R_base2 HO906.out)); replace HO906 := am (hp_); clear hg hw hp_; have hcz65_0 := bc0 BK900.out; have hfz65_0 := blk_frozen BK900.out 0; have hnb66 := NB895_0.out; have hnc66 := NB0_895.out; have hcz67_0 := bc0 BK895.out; have hfz67_0 := blk_frozen BK895.out 0))
      refine bodyPost_ret (results_ct rfl _ _ gb895 32 #[.slice Ao51 t896.length co51] (0, 0) _ rfl (Y85) Try.underlying32 rfl (by kernel_rfl)) rfl ?_
      exact ⟨_, _, Y0, by (with_reducible repeat (first | apply Kd.R_alloc | apply Kd.R_drewN | apply Kd.R_drew)); exact Kd.R_mono (Kd.R_far (p := ⟨gb895, 0, none⟩) (Kd.R_types HO898.out BK895.out (by decide)) (fun _ hk => hk.2) (.slice Ao51 t896.length co51)) (fun _ hk => trivial), Kd.Q_of_R (by (with_reducible repeat (first | apply Kd.R_alloc | apply Kd.R_drewN | apply Kd.R_drew)); exact Kd.R_mono (Kd.R_far (p := ⟨gb895, 0, none⟩) (Kd.R_types HO906.out BK895.out (by decide)) (fun _ hk => hk.2) (.slice Ao51 t896.length co51)) (fun _ hk => trivial)), Y3, Y16, Y10⟩
     ·rw [if_neg c46] at H
      exact absurd H (by simp)
    ·rw [if_neg c45] at H
     exact absurd H (by simp)
   ·rw [if_neg c43] at H
    have c43b0 : (t910 == 1) = false := beq_eq_false_iff_ne.mpr c43
    have c43b1 : (t910 != 1) = true := bne_iff_ne.mpr c43
    by_cases c68 : t910 = 2
    ·rw [if_pos c68] at H
     have c68b0 : (t910 == 2) = true := beq_iff_eq.mpr c68
     have c68b1 : (t910 != 2) = false := bne_eq_false_iff_eq.mpr c68
     clear c68
     obtain ⟨y924, hy924⟩ : ∃ y_ : List Int, y_ = (([(-1), 100, 8] : List Int)) := ⟨_, rfl⟩
     replace H : ((spec_reader_one.f k s0_0 t911 y924).bind fun bt927 => (if 0 ≤ t908 then (if t908 < (t904.length : Int) then (some (t896, (t904.set (t908 : Int).toNat (⟨(rd_T52 t904 t908).f0, (rd_T52 t904 t908).f1, bt927.1, (rd_T52 t904 t908).f3⟩ : S52)), bt927.2)) else (none)) else (none))) = some (r1, r2, r3) := by first | (rw [hy924]; with_reducible exact H) | (have H2_ := (Option.bind_some _ _).symm.trans H; rw [hy924]; with_reducible exact H2_) | (have H2_ := (Option.bind_some _ _).symm.trans H; with_reducible exact H2_) | with_reducible exact H | (rw [hy924]; exact H) | exact H
     have Ny924 := am hy924
     clear hy924
     replace H := Option.bind_eq_some_iff.mp H
     obtain ⟨⟨t927, t928⟩, A690, H⟩ := H
     replace H : (if 0 ≤ t908 then (if t908 < (t904.length : Int) then (some (t896, (t904.set (t908 : Int).toNat (⟨(rd_T52 t904 t908).f0, (rd_T52 t904 t908).f1, t927, (rd_T52 t904 t908).f3⟩ : S52)), t928)) else (none)) else (none)) = some (r1, r2, r3) := H
     have A69 := am A690
     clear A690
     by_cases c70 : 0 ≤ t908
     ·rw [if_pos c70] at H
      have c70b0 : decide (0 ≤ t908) = true := decide_eq_true c70
      clear c70
      by_cases c71 : t908 < (t904.length : Int)
      ·rw [if_pos c71] at H
       have c71b0 : decide (t908 < (t904.length : Int)) = true := decide_eq_true c71
       clear c71
       obtain ⟨y929, hy929⟩ : ∃ y_ : List (S52), y_ = (t904.set (t908 : Int).toNat (⟨(rd_T52 t904 t908).f0, (rd_T52 t904 t908).f1, t927, (rd_T52 t904 t908).f3⟩ : S52)) := ⟨_, rfl⟩
       replace H : (some (t896, y929, t928)) = some (r1, r2, r3) := by first | (rw [hy929]; with_reducible exact H) | (have H2_ := (Option.bind_some _ _).symm.trans H; rw [hy929]; with_reducible exact H2_) | (have H2_ := (Option.bind_some _ _).symm.trans H; with_reducible exact H2_) | with_reducible exact H | (rw [hy929]; exact H) | exact H
       have Ny929 := am hy929
       clear hy929
       simp only [Option.some.injEq, Prod.mk.injEq] at H
       obtain ⟨rfl, rfl, rfl⟩ := H
       go_enter Try.func90, Try.ntmps90
       go_wp2_with (first | ((with_reducible refine gate_dst (N := 2) rfl ?_); refine bE (N := 2) (cs := #[.slice none 0 0]) (t := 32) ?_; intro gb895 hg w73 hbox hb; have BK895 := am (hbox); have GW895 := am ((Y13 : w.heap.size ≤ gb895)); have GE895 := am ((Nat.le_trans HW0.out (Y13 : w.heap.size ≤ gb895) : w0.heap.size ≤ gb895)); have NB0_895 := am ((Y29 : g ≠ gb895)); have NB895_0 := am ((Y30 : gb895 ≠ g)); replace HK := am (KeepBut.trans (Y18) (KeepBut.of_below hb g none) (.inl rfl)); replace HB := am (below_step (Y19) hb); replace HI0 := am (IsS97.below (Y17) hb); clear hb hbox hg) | ((with_reducible refine gate_callee (f := 110) rfl ?_); refine gL (some 8) Try.func110 #[.pointer (some ⟨g, 0, none⟩)] ?_; (with_reducible refine (spec_someTree.calls k g s0_0 s0_1 t896 t899 w0 _ ?side1 ?side2 A2.out).mono ?_); (case side1 => exact Y47); (case side2 => exact Y48); rintro e w74 ⟨v897, rfl, ho0, hi, hb, hk⟩; refine ⟨_, rfl, ?_⟩; have HO898 := am (Kd.R_lower ho0 (keep_size (w := w) (g := g) (row := none) (Y28))); replace BK895 := am (KeepBut.blk hk (g' := gb895) (o := .cells #[.slice none 0 0] 32 (0, 0)) (kq BK895.out) NB895_0.out (by simp)); replace HK := am (KeepBut.trans (Y28) hk (.inl rfl)); replace HB := am (hb); replace HI0 := am (hi); (try clear hb); (try clear hb2); (try clear hk); (try clear hi); (try clear ho0)) | ((with_reducible refine gate_dst (N := 4) rfl ?_); refine bE (N := 4) (cs := #[.slice none 0 0]) (t := 32) ?_; intro gb900 hg w75 hbox hb; have BK900 := am (hbox); have GW900 := am ((Y49 : w.heap.size ≤ gb900)); have GE900 := am ((Nat.le_trans HW0.out (Y49 : w.heap.size ≤ gb900) : w0.heap.size ≤ gb900)); have NB895_900 := am ((Y79 : gb895 ≠ gb900)); have NB900_895 := am ((Y80 : gb900 ≠ gb895)); have NB0_900 := am ((Y81 : g ≠ gb900)); have NB900_0 := am ((Y82 : gb900 ≠ g)); replace HO898 := am (Kd.R_below (rq HO898.out) hb); replace BK895 := am (blk_below (g := gb895) (o := .cells #[.slice none 0 0] 32 (0, 0)) (kq BK895.out) hb); replace HK := am (KeepBut.trans (Y28) (KeepBut.of_below hb g none) (.inl rfl)); replace HB := am (below_step (Y48) hb); replace HI0 := am (IsS97.below (Y47) hb); clear hb hbox hg; obtain ⟨Ao76, co76, eo76⟩ := Kd.R_slice HO898.out; subst eo76; have hnb77 := NB900_895.out; have hnc77 := NB895_900.out; have hnb78 := NB900_0.out; have hnc78 := NB0_900.out; have hcz79_0 := bc0 BK900.out; have hfz79_0 := blk_frozen BK900.out 0) | ((with_reducible refine gate_callee (f := 111) rfl ?_); refine gL (some 18) Try.func111 #[.pointer (some ⟨g, 0, none⟩), .agg #[.slice Ao76 t896.length co76]] ?_; (with_reducible refine (spec_goodProgram.calls k g s0_0 t899 _ _ t896 t904 t907 w0 _ ?side1 ?side2 ?side3 ?side4 A15.out).mono ?_); (case side1 => exact Y3); (case side2 => exact Y16); (case side3 => exact Kd.C_foot_own (IsS97.apart (show IsS97 w0 _ g s0_0 t899 from Y3) (Y158) (by decide)) (fun _ h_ => h_.2)); (case side4 => exact (Kd.R_reads' HO898.out).2.1); rintro e w80 ⟨v905, rfl, ho0, hi, hb, hk⟩; refine ⟨_, rfl, ?_⟩; have HO906 := am (Kd.R_lower ho0 (keep_size (w := w) (g := g) (row := none) (Y10))); replace BK895 := am (KeepBut.blk hk (g' := gb895) (o := .cells #[.slice none 0 0] 32 (0, 0)) (Y83) NB895_0.out (by simp)); replace HO898 := am (Kd.R_mono (Kd.R_keep (IsS97.apart (show IsS97 w0 _ g s0_0 t899 from Y3) (Y158) (by decide)) hk (fun _ h => h.2)) (fun _ h => h.1)); replace BK900 := am (KeepBut.blk hk (g' := gb900) (o := .cells #[.slice Ao76 t896.length co76] 32 (0, 0)) (Y84) NB900_0.out (by simp)); replace HK := am (KeepBut.trans (Y10) hk (.inl rfl)); replace HB := am (hb); replace HI0 := am (hi); (try clear hb); (try clear hb2); (try clear hk); (try clear hi); (try clear ho0); obtain ⟨Ao81, co81, eo81⟩ := Kd.R_slice HO906.out; subst eo81) | ((with_reducible refine gate_callee (f := 71) rfl ?_); refine gL (some 22) Try.func71 #[.pointer (some ⟨g, 0, none⟩), .int .i64 (t904.length : Int)] ?_; (with_reducible refine (spec_reader_pick.calls k g s0_0 t907 (t904.length : Int) t908 t909 w0 _ ?side1 ?side2 A16.out).mono ?_); (case side1 => exact Y3); (case side2 => exact Y16); rintro e w82 ⟨rfl, hi, hb, hk⟩; refine ⟨_, rfl, ?_⟩; replace BK895 := am (KeepBut.blk hk (g' := gb895) (o := .cells #[.slice none 0 0] 32 (0, 0)) (kq BK895.out) NB895_0.out (by simp)); replace HO898 := am (Kd.R_mono (Kd.R_keep (IsS97.apart (show IsS97 w0 _ g s0_0 t907 from Y3) (rq HO898.out) (by decide)) hk (fun _ h => h.2)) (fun _ h => h.1)); replace BK900 := am (KeepBut.blk hk (g' := gb900) (o := .cells #[.slice Ao76 t896.length co76] 32 (0, 0)) (kq BK900.out) NB900_0.out (by simp)); replace HO906 := am (Kd.R_mono (Kd.R_keep (IsS97.apart (show IsS97 w0 _ g s0_0 t907 from Y3) (rq HO906.out) (by decide)) hk (fun _ h => h.2)) (fun _ h => h.1)); replace HK := am (KeepBut.trans (Y10) hk (.inl rfl)); replace HB := am (hb); replace HI0 := am (hi); (try clear hb); (try clear hb2); (try clear hk); (try clear hi)) | ((with_reducible refine gate_callee (f := 71) rfl ?_); refine gL (some 24) Try.func71 #[.pointer (some ⟨g, 0, none⟩), .int .i64 24] ?_; (with_reducible refine (spec_reader_pick.calls k g s0_0 t909 24 t910 t911 w0 _ ?side1 ?side2 A17.out).mono ?_); (case side1 => exact Y3); (case side2 => exact Y16); rintro e w83 ⟨rfl, hi, hb, hk⟩; refine ⟨_, rfl, ?_⟩; replace BK895 := am (KeepBut.blk hk (g' := gb895) (o := .cells #[.slice none 0 0] 32 (0, 0)) (kq BK895.out) NB895_0.out (by simp)); replace HO898 := am (Kd.R_mono (Kd.R_keep (IsS97.apart (show IsS97 w0 _ g s0_0 t909 from Y3) (rq HO898.out) (by decide)) hk (fun _ h => h.2)) (fun _ h => h.1)); replace BK900 := am (KeepBut.blk hk (g' := gb900) (o := .cells #[.slice Ao76 t896.length co76] 32 (0, 0)) (kq BK900.out) NB900_0.out (by simp)); replace HO906 := am (Kd.R_mono (Kd.R_keep (IsS97.apart (show IsS97 w0 _ g s0_0 t909 from Y3) (rq HO906.out) (by decide)) hk (fun _ h => h.2)) (fun _ h => h.1)); replace HK := am (KeepBut.trans (Y10) hk (.inl rfl)); replace HB := am (hb); replace HI0 := am (hi); (try clear hb); (try clear hb2); (try clear hk); (try clear hi)) | ((with_reducible refine gate_dst (N := 48) rfl ?_); refine Kd.R_lit (Kd.int .i64) _ 3 ?hg (N := 48) ?hd (xs := ([(-1), 100, 8] : List Int)) (inner := [.int .i64 (-1), .int .i64 100, .int .i64 8]) (ok := fun _ => True) (okp := fun _ => True) ?hr ?hp (fun _ hk => hk) trivial (Below.refl _ _) (Nat.le_refl _) (by simp) ?_; (case hd => rfl); (case hg => rfl); (case hr => exact Y5); (case hp => exact (Reps.one (show Kd.M (Kd.int .i64) _ _ _ (-1) [.int .i64 (-1)] from rfl) (Reps.one (show Kd.M (Kd.int .i64) _ _ _ 100 [.int .i64 100] from rfl) (Reps.one (show Kd.M (Kd.int .i64) _ _ _ 8 [.int .i64 8] from rfl) (Reps.none _ _))))); intro v925 w84 ho85 hb hg_ hnew_; clear hg_ hnew_; (first | rw [← Ny924.out] at ho85 | (simp only [Int.reduceToNat] at ho85; rw [← Ny924.out] at ho85)); have HO926 := am (Kd.R_lower ho85 (keep_size (w := w) (g := g) (row := none) (Y10))); replace HO898 := am (Kd.R_below (rq HO898.out) hb); replace HO906 := am (Kd.R_below (rq HO906.out) hb); replace BK895 := am (blk_below (g := gb895) (o := .cells #[.slice none 0 0] 32 (0, 0)) (kq BK895.out) hb); replace BK900 := am (blk_below (g := gb900) (o := .cells #[.slice Ao76 t896.length co76] 32 (0, 0)) (kq BK900.out) hb); replace HK := am (KeepBut.trans (Y10) (KeepBut.of_below hb g none) (.inl rfl)); replace HB := am (below_step (Y16) hb); replace HI0 := am (IsS97.below (Y3) hb); clear hb ho85; obtain ⟨Ao86, co86, eo86⟩ := Kd.R_slice HO926.out; subst eo86) | ((with_reducible refine gate_callee (f := 91) rfl ?_); refine gL (some 49) Try.func91 #[.pointer (some ⟨g, 0, none⟩), .slice Ao86 y924.length co86] ?_; (with_reducible refine (spec_reader_one.calls k g s0_0 t911 _ _ y924 t927 t928 w0 _ ?side1 ?side2 ?side3 ?side4 ?side5 A69.out).mono ?_); (case side1 => exact Y3); (case side2 => exact Y16); (case side3 => exact cq (Kd.R_reads' HO926.out).2.2); (case side4 => exact (Kd.R_reads' HO926.out).2.1); (case side5 => exact far_slice (IsS97.own_ne HI0.out HO926.out (by decide))); rintro e w87 ⟨rfl, hi, hb, hk⟩; refine ⟨_, rfl, ?_⟩; replace BK895 := am (KeepBut.blk hk (g' := gb895) (o := .cells #[.slice none 0 0] 32 (0, 0)) (kq BK895.out) NB895_0.out (by simp)); replace HO898 := am (Kd.R_mono (Kd.R_keep (IsS97.apart (show IsS97 w0 _ g s0_0 t911 from Y3) (rq HO898.out) (by decide)) hk (fun _ h => h.2)) (fun _ h => h.1)); replace BK900 := am (KeepBut.blk hk (g' := gb900) (o := .cells #[.slice Ao76 t896.length co76] 32 (0, 0)) (kq BK900.out) NB900_0.out (by simp)); replace HO906 := am (Kd.R_mono (Kd.R_keep (IsS97.apart (show IsS97 w0 _ g s0_0 t911 from Y3) (rq HO906.out) (by decide)) hk (fun _ h => h.2)) (fun _ h => h.1)); replace HO926 := am (Kd.R_mono (Kd.R_keep (IsS97.apart (show IsS97 w0 _ g s0_0 t911 from Y3) (rq HO926.out) (by decide)) hk (fun _ h => h.2)) (fun _ h => h.1)); replace HK := am (KeepBut.trans (Y10) hk (.inl rfl)); replace HB := am (hb); replace HI0 := am (hi); (try clear hb); (try clear hb2); (try clear hk); (try clear hi); have p72 : 0 ≤ (t908 : Int) := of_decide_eq_true (uq); have q72 : (t908 : Int) < ((t904.length : Int) : Int) := of_decide_eq_true (uq); obtain ⟨go72, co72, eo72, gb72, gl72, cl72, HG72⟩ := Kd.R_form HO906.out (by omega); (first | cases eo72 | (injection eo72 with ea_ en_ ec_; (first | subst ea_ | (injection ea_ with ea_; subst ea_)); subst ec_; clear en_)); have GB72 := am gb72; have GG72 := am HG72; clear gb72 gl72 HG72; obtain ⟨ce72, hcl72, hM72, hcc72, hfr72⟩ := Kd.R_elem HO906.out z52 (t908 : Int) p72 q72; obtain rfl := k52_openM hM72; have hx72_0 : w87.cell? ⟨go72, (t908 : Int).toNat * 4, none⟩ = some (.int .i64 ((rd_T52 t904 t908).f0)) := hcc72 0 _ rfl; have hx72_1 : w87.cell? ⟨go72, (t908 : Int).toNat * 4 + 1, none⟩ = some (.int .i64 ((rd_T52 t904 t908).f1)) := hcc72 1 _ rfl; have hx72_2 : w87.cell? ⟨go72, (t908 : Int).toNat * 4 + 2, none⟩ = some (.int .i64 ((rd_T52 t904 t908).f2)) := hcc72 2 _ rfl; have hx72_3 : w87.cell? ⟨go72, (t908 : Int).toNat * 4 + 3, none⟩ = some (.int .i64 ((rd_T52 t904 t908).f3)) := hcc72 3 _ rfl; have hf72_0 : w87.frozen? ⟨go72, (t908 : Int).toNat * 4, none⟩ = false := hfr72 0; have hf72_1 : w87.frozen? ⟨go72, (t908 : Int).toNat * 4 + 1, none⟩ = false := hfr72 1; have hf72_2 : w87.frozen? ⟨go72, (t908 : Int).toNat * 4 + 2, none⟩ = false := hfr72 2; have hf72_3 : w87.frozen? ⟨go72, (t908 : Int).toNat * 4 + 3, none⟩ = false := hfr72 3; clear hcl72 hcc72 hfr72 hM72; replace p72 := eq_true p72; replace q72 := eq_true q72; have HX88 := am (show Kd.R k52 52 w87 w.heap.size (fun _ => True) (.slice (some ⟨go72, 0, none⟩) t904.length co81) t904 from (rq HO906.out)); obtain ⟨ce88, hcl88, hM88, hcc88, hfr88⟩ := Kd.R_elem HX88.out z52 (t908 : Int) (of_decide_eq_true (uq)) (by have h_ : (t908 : Int) < ((t904.length : Int) : Int) := of_decide_eq_true (uq); first | exact h_ | (have e_ := (Kd.R_reads' HO906.out).1; omega) | simpa using h_); obtain rfl := k52_openM hM88; have HP88 := Kd.R_seg HX88.out (t908 : Int) (of_decide_eq_true (uq)) (by have h_ : (t908 : Int) < ((t904.length : Int) : Int) := of_decide_eq_true (uq); first | exact h_ | (have e_ := (Kd.R_reads' HO906.out).1; omega) | simpa using h_) (seg := [.int .i64 t927]) (j := 2) hcl88 hcc88 (show 3 ≤ 4 from by decide) (x' := (⟨(rd_T52 t904 t908).f0, (rd_T52 t904 t908).f1, t927, (rd_T52 t904 t908).f3⟩ : S52)) (k52_mkM _ _ _ (⟨(rd_T52 t904 t908).f0, (rd_T52 t904 t908).f1, t927, (rd_T52 t904 t908).f3⟩ : S52) ) (fun _ hk => hk); have hx88_2 := hcc88 2 _ rfl; (try simp only [show (k52).sz = 4 from rfl, Nat.mul_one, Nat.add_zero] at hx88_2); have hf88_2 := hfr88 2; (try simp only [show (k52).sz = 4 from rfl, Nat.mul_one, Nat.add_zero] at hf88_2); clear hcl88 hcc88 hfr88 hM88) | ((with_reducible refine gate_store (t := 3) (p := 51) rfl ?_); refine store_event (t := 3) (p := 51) (v := ?vo_w89) (w1 := (w87.setCell ⟨go72, (t908 : Int).toNat * 4 + 2, none⟩ (.int .i64 t927))) ?hg ?ho ?hn ?hr ?_; (case ho => rfl); (case hg => rfl); (case hn => rfl); (case hr => exact Y5); intro w89 hw; have hg : w87.grownBy w89 (some go72) := (by rw [hw]; exact HP88.2); have hp_ : Kd.R k52 52 w89 w.heap.size (fun _ => True) (.slice (some ⟨go72, 0, none⟩) t904.length co81) y929 := (by rw [hw, Ny929.out]; exact HP88.1); clear HP88; replace HI0 := am (IsS97.grown (Y3) hg (IsS97.own_ne HI0.out HO906.out (by decide))); replace BK895 := am (blk_grown (g := gb895) (o := .cells #[.slice none 0 0] 32 (0, 0)) (kq BK895.out) hg (Kd.R_ne HO906.out BK895.out (by decide))); replace HO898 := am (Kd.R_over' (v := (.slice (some ⟨go72, 0, none⟩) t904.length co81)) (rq HO898.out) (Kd.R_typed HO906.out) (by decide) hg); replace BK900 := am (blk_grown (g := gb900) (o := .cells #[.slice Ao76 t896.length co76] 32 (0, 0)) (kq BK900.out) hg (Kd.R_ne HO906.out BK900.out (by decide))); replace HO926 := am (Kd.R_over' (v := (.slice (some ⟨go72, 0, none⟩) t904.length co81)) (rq HO926.out) (Kd.R_typed HO906.out) (by decide) hg); replace HB := am ((by rw [hw]; exact below_set (HB.out) (Nat.le_trans HL.out GB72.out) : Below w0.heap.size w0 w89)); replace HK := am (KeepBut.trans (Y10) (KeepBut.of_grown hg g) (Kd.R_base2 HO906.out)); replace HO906 := am (hp_); clear hg hw hp_; have hcz90_0 := bc0 BK900.out; have hfz90_0 := blk_frozen BK900.out 0; have hnb91 := NB895_0.out; have hnc91 := NB0_895.out; have hcz92_0 := bc0 BK895.out; have hfz92_0 := blk_frozen BK895.out 0))
       refine bodyPost_ret (results_ct rfl _ _ gb895 32 #[.slice Ao76 t896.length co76] (0, 0) _ rfl (Y85) Try.underlying32 rfl (by kernel_rfl)) rfl ?_
       exact ⟨_, _, Y0, by (with_reducible repeat (first | apply Kd.R_alloc | apply Kd.R_drewN | apply Kd.R_drew)); exact Kd.R_mono (Kd.R_far (p := ⟨gb895, 0, none⟩) (Kd.R_types HO898.out BK895.out (by decide)) (fun _ hk => hk.2) (.slice Ao76 t896.length co76)) (fun _ hk => trivial), Kd.Q_of_R (by (with_reducible repeat (first | apply Kd.R_alloc | apply Kd.R_drewN | apply Kd.R_drew)); exact Kd.R_mono (Kd.R_far (p := ⟨gb895, 0, none⟩) (Kd.R_types HO906.out BK895.out (by decide)) (fun _ hk => hk.2) (.slice Ao76 t896.length co76)) (fun _ hk => trivial)), Y3, Y16, Y10⟩
      ·rw [if_neg c71] at H
       exact absurd H (by simp)
     ·rw [if_neg c70] at H
      exact absurd H (by simp)
    ·rw [if_neg c68] at H
     have c68b0 : (t910 == 2) = false := beq_eq_false_iff_ne.mpr c68
     have c68b1 : (t910 != 2) = true := bne_iff_ne.mpr c68
     by_cases c93 : t910 = 3
     ·rw [if_pos c93] at H
      have c93b0 : (t910 == 3) = true := beq_iff_eq.mpr c93
      have c93b1 : (t910 != 3) = false := bne_eq_false_iff_eq.mpr c93
      clear c93
      by_cases c94 : 1 ≤ (t904.length : Int)
      ·rw [if_pos c94] at H
       have c94b0 := eq_true c94
       have c94b1 : decide (1 ≤ (t904.length : Int)) = true := decide_eq_true c94
       clear c94
       obtain ⟨y930, hy930⟩ : ∃ y_ : List (S52), y_ = (t904.drop (1 : Int).toNat) := ⟨_, rfl⟩
       replace H : (some (t896, y930, t911)) = some (r1, r2, r3) := by first | (rw [hy930]; with_reducible exact H) | (have H2_ := (Option.bind_some _ _).symm.trans H; rw [hy930]; with_reducible exact H2_) | (have H2_ := (Option.bind_some _ _).symm.trans H; with_reducible exact H2_) | with_reducible exact H | (rw [hy930]; exact H) | exact H
       have Ny930 := am hy930
       clear hy930
       simp only [Option.some.injEq, Prod.mk.injEq] at H
       obtain ⟨rfl, rfl, rfl⟩ := H
       go_enter Try.func90, Try.ntmps90
       go_wp2_with (first | ((with_reducible refine gate_dst (N := 2) rfl ?_); refine bE (N := 2) (cs := #[.slice none 0 0]) (t := 32) ?_; intro gb895 hg w95 hbox hb; have BK895 := am (hbox); have GW895 := am ((Y13 : w.heap.size ≤ gb895)); have GE895 := am ((Nat.le_trans HW0.out (Y13 : w.heap.size ≤ gb895) : w0.heap.size ≤ gb895)); have NB0_895 := am ((Y29 : g ≠ gb895)); have NB895_0 := am ((Y30 : gb895 ≠ g)); replace HK := am (KeepBut.trans (Y18) (KeepBut.of_below hb g none) (.inl rfl)); replace HB := am (below_step (Y19) hb); replace HI0 := am (IsS97.below (Y17) hb); clear hb hbox hg) | ((with_reducible refine gate_callee (f := 110) rfl ?_); refine gL (some 8) Try.func110 #[.pointer (some ⟨g, 0, none⟩)] ?_; (with_reducible refine (spec_someTree.calls k g s0_0 s0_1 t896 t899 w0 _ ?side1 ?side2 A2.out).mono ?_); (case side1 => exact Y47); (case side2 => exact Y48); rintro e w96 ⟨v897, rfl, ho0, hi, hb, hk⟩; refine ⟨_, rfl, ?_⟩; have HO898 := am (Kd.R_lower ho0 (keep_size (w := w) (g := g) (row := none) (Y28))); replace BK895 := am (KeepBut.blk hk (g' := gb895) (o := .cells #[.slice none 0 0] 32 (0, 0)) (kq BK895.out) NB895_0.out (by simp)); replace HK := am (KeepBut.trans (Y28) hk (.inl rfl)); replace HB := am (hb); replace HI0 := am (hi); (try clear hb); (try clear hb2); (try clear hk); (try clear hi); (try clear ho0)) | ((with_reducible refine gate_dst (N := 4) rfl ?_); refine bE (N := 4) (cs := #[.slice none 0 0]) (t := 32) ?_; intro gb900 hg w97 hbox hb; have BK900 := am (hbox); have GW900 := am ((Y49 : w.heap.size ≤ gb900)); have GE900 := am ((Nat.le_trans HW0.out (Y49 : w.heap.size ≤ gb900) : w0.heap.size ≤ gb900)); have NB895_900 := am ((Y79 : gb895 ≠ gb900)); have NB900_895 := am ((Y80 : gb900 ≠ gb895)); have NB0_900 := am ((Y81 : g ≠ gb900)); have NB900_0 := am ((Y82 : gb900 ≠ g)); replace HO898 := am (Kd.R_below (rq HO898.out) hb); replace BK895 := am (blk_below (g := gb895) (o := .cells #[.slice none 0 0] 32 (0, 0)) (kq BK895.out) hb); replace HK := am (KeepBut.trans (Y28) (KeepBut.of_below hb g none) (.inl rfl)); replace HB := am (below_step (Y48) hb); replace HI0 := am (IsS97.below (Y47) hb); clear hb hbox hg; obtain ⟨Ao98, co98, eo98⟩ := Kd.R_slice HO898.out; subst eo98; have hnb99 := NB900_895.out; have hnc99 := NB895_900.out; have hnb100 := NB900_0.out; have hnc100 := NB0_900.out; have hcz101_0 := bc0 BK900.out; have hfz101_0 := blk_frozen BK900.out 0) | ((with_reducible refine gate_callee (f := 111) rfl ?_); refine gL (some 18) Try.func111 #[.pointer (some ⟨g, 0, none⟩), .agg #[.slice Ao98 t896.length co98]] ?_; (with_reducible refine (spec_goodProgram.calls k g s0_0 t899 _ _ t896 t904 t907 w0 _ ?side1 ?side2 ?side3 ?side4 A15.out).mono ?_); (case side1 => exact Y3); (case side2 => exact Y16); (case side3 => exact Kd.C_foot_own (IsS97.apart (show IsS97 w0 _ g s0_0 t899 from Y3) (Y159) (by decide)) (fun _ h_ => h_.2)); (case side4 => exact (Kd.R_reads' HO898.out).2.1); rintro e w102 ⟨v905, rfl, ho0, hi, hb, hk⟩; refine ⟨_, rfl, ?_⟩; have HO906 := am (Kd.R_lower ho0 (keep_size (w := w) (g := g) (row := none) (Y10))); replace BK895 := am (KeepBut.blk hk (g' := gb895) (o := .cells #[.slice none 0 0] 32 (0, 0)) (Y83) NB895_0.out (by simp)); replace HO898 := am (Kd.R_mono (Kd.R_keep (IsS97.apart (show IsS97 w0 _ g s0_0 t899 from Y3) (Y159) (by decide)) hk (fun _ h => h.2)) (fun _ h => h.1)); replace BK900 := am (KeepBut.blk hk (g' := gb900) (o := .cells #[.slice Ao98 t896.length co98] 32 (0, 0)) (Y84) NB900_0.out (by simp)); replace HK := am (KeepBut.trans (Y10) hk (.inl rfl)); replace HB := am (hb); replace HI0 := am (hi); (try clear hb); (try clear hb2); (try clear hk); (try clear hi); (try clear ho0); obtain ⟨Ao103, co103, eo103⟩ := Kd.R_slice HO906.out; subst eo103) | ((with_reducible refine gate_callee (f := 71) rfl ?_); refine gL (some 22) Try.func71 #[.pointer (some ⟨g, 0, none⟩), .int .i64 (t904.length : Int)] ?_; (with_reducible refine (spec_reader_pick.calls k g s0_0 t907 (t904.length : Int) t908 t909 w0 _ ?side1 ?side2 A16.out).mono ?_); (case side1 => exact Y3); (case side2 => exact Y16); rintro e w104 ⟨rfl, hi, hb, hk⟩; refine ⟨_, rfl, ?_⟩; replace BK895 := am (KeepBut.blk hk (g' := gb895) (o := .cells #[.slice none 0 0] 32 (0, 0)) (kq BK895.out) NB895_0.out (by simp)); replace HO898 := am (Kd.R_mono (Kd.R_keep (IsS97.apart (show IsS97 w0 _ g s0_0 t907 from Y3) (rq HO898.out) (by decide)) hk (fun _ h => h.2)) (fun _ h => h.1)); replace BK900 := am (KeepBut.blk hk (g' := gb900) (o := .cells #[.slice Ao98 t896.length co98] 32 (0, 0)) (kq BK900.out) NB900_0.out (by simp)); replace HO906 := am (Kd.R_mono (Kd.R_keep (IsS97.apart (show IsS97 w0 _ g s0_0 t907 from Y3) (rq HO906.out) (by decide)) hk (fun _ h => h.2)) (fun _ h => h.1)); replace HK := am (KeepBut.trans (Y10) hk (.inl rfl)); replace HB := am (hb); replace HI0 := am (hi); (try clear hb); (try clear hb2); (try clear hk); (try clear hi)) | ((with_reducible refine gate_callee (f := 71) rfl ?_); refine gL (some 24) Try.func71 #[.pointer (some ⟨g, 0, none⟩), .int .i64 24] ?_; (with_reducible refine (spec_reader_pick.calls k g s0_0 t909 24 t910 t911 w0 _ ?side1 ?side2 A17.out).mono ?_); (case side1 => exact Y3); (case side2 => exact Y16); rintro e w105 ⟨rfl, hi, hb, hk⟩; refine ⟨_, rfl, ?_⟩; replace BK895 := am (KeepBut.blk hk (g' := gb895) (o := .cells #[.slice none 0 0] 32 (0, 0)) (kq BK895.out) NB895_0.out (by simp)); replace HO898 := am (Kd.R_mono (Kd.R_keep (IsS97.apart (show IsS97 w0 _ g s0_0 t909 from Y3) (rq HO898.out) (by decide)) hk (fun _ h => h.2)) (fun _ h => h.1)); replace BK900 := am (KeepBut.blk hk (g' := gb900) (o := .cells #[.slice Ao98 t896.length co98] 32 (0, 0)) (kq BK900.out) NB900_0.out (by simp)); replace HO906 := am (Kd.R_mono (Kd.R_keep (IsS97.apart (show IsS97 w0 _ g s0_0 t909 from Y3) (rq HO906.out) (by decide)) hk (fun _ h => h.2)) (fun _ h => h.1)); replace HK := am (KeepBut.trans (Y10) hk (.inl rfl)); replace HB := am (hb); replace HI0 := am (hi); (try clear hb); (try clear hb2); (try clear hk); (try clear hi); have q106 : (1 : Int) ≤ ((t904.length : Int) : Int) := of_decide_eq_true (uq); obtain ⟨i0106, hi0106, _, hsz106, _⟩ := info_parts info52; have hcut106 := cut_from (P := Try.prog) 34 52 .i64 Try.underlying34 hi0106 4 hsz106 Ao103 t904.length co103 1 (by omega) q106; have hr106 := Kd.Q_drop (k := (1 : Int).toNat) (Kd.Q_of_R HO906.out) (by omega); obtain ⟨A106, hA106⟩ : ∃ A1, A1 = (if co103 = (1 : Int).toNat then Ao103 else (Ao103 : Option Addr).map (·.add ((1 : Int).toNat * 4))) := ⟨_, rfl⟩; obtain ⟨c106, hc106⟩ : ∃ c1, c1 = co103 - (1 : Int).toNat := ⟨_, rfl⟩; have hy106 : y930.length = t904.length - (1 : Int).toNat := (by rw [Ny930.out, List.length_drop]); rw [← Ny930.out] at hr106; rw [← hy106, ← hA106, ← hc106] at hcut106; replace hr106 : Kd.Q k52 52 w105 w.heap.size (fun _ => True) (.slice A106 y930.length c106) y930 := (by rw [hA106, hc106, hy106]; exact hr106); have HE106 : Aside0 ((Value.slice A106 y930.length c106).ownBlock = (.slice Ao103 t904.length co103 : Value).ownBlock) := ⟨by rw [hA106]; split <;> (cases (Ao103 : Option Addr) <;> rfl)⟩; clear hy106 hi0106 hsz106 HO906 hA106 hc106; have HO932 := am hr106; clear hr106; replace q106 := eq_true q106; have hcz107_0 := bc0 BK900.out; have hfz107_0 := blk_frozen BK900.out 0; have hnb108 := NB895_0.out; have hnc108 := NB0_895.out; have hcz109_0 := bc0 BK895.out; have hfz109_0 := blk_frozen BK895.out 0))
       refine bodyPost_ret (results_ct rfl _ _ gb895 32 #[.slice Ao98 t896.length co98] (0, 0) _ rfl (Y85) Try.underlying32 rfl (by kernel_rfl)) rfl ?_
       exact ⟨_, _, Y0, by (with_reducible repeat (first | apply Kd.R_alloc | apply Kd.R_drewN | apply Kd.R_drew)); exact Kd.R_mono (Kd.R_far (p := ⟨gb895, 0, none⟩) (Kd.R_types HO898.out BK895.out (by decide)) (fun _ hk => hk.2) (.slice Ao98 t896.length co98)) (fun _ hk => trivial), by (with_reducible repeat (first | apply Kd.Q_alloc | apply Kd.Q_drewN | apply Kd.Q_drew)); exact Kd.Q_mono (Kd.Q_far (p := ⟨gb895, 0, none⟩) (Kd.Q_types HO932.out BK895.out (by decide)) (fun _ hk => hk.2) (.slice Ao98 t896.length co98)) (fun _ hk => trivial), Y3, Y16, Y10⟩
      ·rw [if_neg c94] at H
       exact absurd H (by simp)
     ·rw [if_neg c93] at H
      have c93b0 : (t910 == 3) = false := beq_eq_false_iff_ne.mpr c93
      have c93b1 : (t910 != 3) = true := bne_iff_ne.mpr c93
      simp only [Option.some.injEq, Prod.mk.injEq] at H
      obtain ⟨rfl, rfl, rfl⟩ := H
      go_enter Try.func90, Try.ntmps90
      go_wp2_with (first | ((with_reducible refine gate_dst (N := 2) rfl ?_); refine bE (N := 2) (cs := #[.slice none 0 0]) (t := 32) ?_; intro gb895 hg w110 hbox hb; have BK895 := am (hbox); have GW895 := am ((Y13 : w.heap.size ≤ gb895)); have GE895 := am ((Nat.le_trans HW0.out (Y13 : w.heap.size ≤ gb895) : w0.heap.size ≤ gb895)); have NB0_895 := am ((Y29 : g ≠ gb895)); have NB895_0 := am ((Y30 : gb895 ≠ g)); replace HK := am (KeepBut.trans (Y18) (KeepBut.of_below hb g none) (.inl rfl)); replace HB := am (below_step (Y19) hb); replace HI0 := am (IsS97.below (Y17) hb); clear hb hbox hg) | ((with_reducible refine gate_callee (f := 110) rfl ?_); refine gL (some 8) Try.func110 #[.pointer (some ⟨g, 0, none⟩)] ?_; (with_reducible refine (spec_someTree.calls k g s0_0 s0_1 t896 t899 w0 _ ?side1 ?side2 A2.out).mono ?_); (case side1 => exact Y47); (case side2 => exact Y48); rintro e w111 ⟨v897, rfl, ho0, hi, hb, hk⟩; refine ⟨_, rfl, ?_⟩; have HO898 := am (Kd.R_lower ho0 (keep_size (w := w) (g := g) (row := none) (Y28))); replace BK895 := am (KeepBut.blk hk (g' := gb895) (o := .cells #[.slice none 0 0] 32 (0, 0)) (kq BK895.out) NB895_0.out (by simp)); replace HK := am (KeepBut.trans (Y28) hk (.inl rfl)); replace HB := am (hb); replace HI0 := am (hi); (try clear hb); (try clear hb2); (try clear hk); (try clear hi); (try clear ho0)) | ((with_reducible refine gate_dst (N := 4) rfl ?_); refine bE (N := 4) (cs := #[.slice none 0 0]) (t := 32) ?_; intro gb900 hg w112 hbox hb; have BK900 := am (hbox); have GW900 := am ((Y49 : w.heap.size ≤ gb900)); have GE900 := am ((Nat.le_trans HW0.out (Y49 : w.heap.size ≤ gb900) : w0.heap.size ≤ gb900)); have NB895_900 := am ((Y79 : gb895 ≠ gb900)); have NB900_895 := am ((Y80 : gb900 ≠ gb895)); have NB0_900 := am ((Y81 : g ≠ gb900)); have NB900_0 := am ((Y82 : gb900 ≠ g)); replace HO898 := am (Kd.R_below (rq HO898.out) hb); replace BK895 := am (blk_below (g := gb895) (o := .cells #[.slice none 0 0] 32 (0, 0)) (kq BK895.out) hb); replace HK := am (KeepBut.trans (Y28) (KeepBut.of_below hb g none) (.inl rfl)); replace HB := am (below_step (Y48) hb); replace HI0 := am (IsS97.below (Y47) hb); clear hb hbox hg; obtain ⟨Ao113, co113, eo113⟩ := Kd.R_slice HO898.out; subst eo113; have hnb114 := NB900_895.out; have hnc114 := NB895_900.out; have hnb115 := NB900_0.out; have hnc115 := NB0_900.out; have hcz116_0 := bc0 BK900.out; have hfz116_0 := blk_frozen BK900.out 0) | ((with_reducible refine gate_callee (f := 111) rfl ?_); refine gL (some 18) Try.func111 #[.pointer (some ⟨g, 0, none⟩), .agg #[.slice Ao113 t896.length co113]] ?_; (with_reducible refine (spec_goodProgram.calls k g s0_0 t899 _ _ t896 t904 t907 w0 _ ?side1 ?side2 ?side3 ?side4 A15.out).mono ?_); (case side1 => exact Y3); (case side2 => exact Y16); (case side3 => exact Kd.C_foot_own (IsS97.apart (show IsS97 w0 _ g s0_0 t899 from Y3) (Y160) (by decide)) (fun _ h_ => h_.2)); (case side4 => exact (Kd.R_reads' HO898.out).2.1); rintro e w117 ⟨v905, rfl, ho0, hi, hb, hk⟩; refine ⟨_, rfl, ?_⟩; have HO906 := am (Kd.R_lower ho0 (keep_size (w := w) (g := g) (row := none) (Y10))); replace BK895 := am (KeepBut.blk hk (g' := gb895) (o := .cells #[.slice none 0 0] 32 (0, 0)) (Y83) NB895_0.out (by simp)); replace HO898 := am (Kd.R_mono (Kd.R_keep (IsS97.apart (show IsS97 w0 _ g s0_0 t899 from Y3) (Y160) (by decide)) hk (fun _ h => h.2)) (fun _ h => h.1)); replace BK900 := am (KeepBut.blk hk (g' := gb900) (o := .cells #[.slice Ao113 t896.length co113] 32 (0, 0)) (Y84) NB900_0.out (by simp)); replace HK := am (KeepBut.trans (Y10) hk (.inl rfl)); replace HB := am (hb); replace HI0 := am (hi); (try clear hb); (try clear hb2); (try clear hk); (try clear hi); (try clear ho0); obtain ⟨Ao118, co118, eo118⟩ := Kd.R_slice HO906.out; subst eo118) | ((with_reducible refine gate_callee (f := 71) rfl ?_); refine gL (some 22) Try.func71 #[.pointer (some ⟨g, 0, none⟩), .int .i64 (t904.length : Int)] ?_; (with_reducible refine (spec_reader_pick.calls k g s0_0 t907 (t904.length : Int) t908 t909 w0 _ ?side1 ?side2 A16.out).mono ?_); (case side1 => exact Y3); (case side2 => exact Y16); rintro e w119 ⟨rfl, hi, hb, hk⟩; refine ⟨_, rfl, ?_⟩; replace BK895 := am (KeepBut.blk hk (g' := gb895) (o := .cells #[.slice none 0 0] 32 (0, 0)) (kq BK895.out) NB895_0.out (by simp)); replace HO898 := am (Kd.R_mono (Kd.R_keep (IsS97.apart (show IsS97 w0 _ g s0_0 t907 from Y3) (rq HO898.out) (by decide)) hk (fun _ h => h.2)) (fun _ h => h.1)); replace BK900 := am (KeepBut.blk hk (g' := gb900) (o := .cells #[.slice Ao113 t896.length co113] 32 (0, 0)) (kq BK900.out) NB900_0.out (by simp)); replace HO906 := am (Kd.R_mono (Kd.R_keep (IsS97.apart (show IsS97 w0 _ g s0_0 t907 from Y3) (rq HO906.out) (by decide)) hk (fun _ h => h.2)) (fun _ h => h.1)); replace HK := am (KeepBut.trans (Y10) hk (.inl rfl)); replace HB := am (hb); replace HI0 := am (hi); (try clear hb); (try clear hb2); (try clear hk); (try clear hi)) | ((with_reducible refine gate_callee (f := 71) rfl ?_); refine gL (some 24) Try.func71 #[.pointer (some ⟨g, 0, none⟩), .int .i64 24] ?_; (with_reducible refine (spec_reader_pick.calls k g s0_0 t909 24 t910 t911 w0 _ ?side1 ?side2 A17.out).mono ?_); (case side1 => exact Y3); (case side2 => exact Y16); rintro e w120 ⟨rfl, hi, hb, hk⟩; refine ⟨_, rfl, ?_⟩; replace BK895 := am (KeepBut.blk hk (g' := gb895) (o := .cells #[.slice none 0 0] 32 (0, 0)) (kq BK895.out) NB895_0.out (by simp)); replace HO898 := am (Kd.R_mono (Kd.R_keep (IsS97.apart (show IsS97 w0 _ g s0_0 t909 from Y3) (rq HO898.out) (by decide)) hk (fun _ h => h.2)) (fun _ h => h.1)); replace BK900 := am (KeepBut.blk hk (g' := gb900) (o := .cells #[.slice Ao113 t896.length co113] 32 (0, 0)) (kq BK900.out) NB900_0.out (by simp)); replace HO906 := am (Kd.R_mono (Kd.R_keep (IsS97.apart (show IsS97 w0 _ g s0_0 t909 from Y3) (rq HO906.out) (by decide)) hk (fun _ h => h.2)) (fun _ h => h.1)); replace HK := am (KeepBut.trans (Y10) hk (.inl rfl)); replace HB := am (hb); replace HI0 := am (hi); (try clear hb); (try clear hb2); (try clear hk); (try clear hi); have hcz121_0 := bc0 BK900.out; have hfz121_0 := blk_frozen BK900.out 0; have hnb122 := NB895_0.out; have hnc122 := NB0_895.out; have hcz123_0 := bc0 BK895.out; have hfz123_0 := blk_frozen BK895.out 0))
      refine bodyPost_ret (results_ct rfl _ _ gb895 32 #[.slice Ao113 t896.length co113] (0, 0) _ rfl (Y85) Try.underlying32 rfl (by kernel_rfl)) rfl ?_
      exact ⟨_, _, Y0, by (with_reducible repeat (first | apply Kd.R_alloc | apply Kd.R_drewN | apply Kd.R_drew)); exact Kd.R_mono (Kd.R_far (p := ⟨gb895, 0, none⟩) (Kd.R_types HO898.out BK895.out (by decide)) (fun _ hk => hk.2) (.slice Ao113 t896.length co113)) (fun _ hk => trivial), Kd.Q_of_R (by (with_reducible repeat (first | apply Kd.R_alloc | apply Kd.R_drewN | apply Kd.R_drew)); exact Kd.R_mono (Kd.R_far (p := ⟨gb895, 0, none⟩) (Kd.R_types HO906.out BK895.out (by decide)) (fun _ hk => hk.2) (.slice Ao113 t896.length co113)) (fun _ hk => trivial)), Y3, Y16, Y10⟩
def spec_lineIn.f (k : Nat) (s0_0 : List Int) (s0_1 : Int) : Option ((List (S87)) × (List (S52)) × Int × Int) := (spec_someProgram.f k s0_0 s0_1).bind fun bt934 => ((spec_reader_pick.f k s0_0 bt934.2.2 16).bind fun bt942 => (if bt942.1 = 0 then ((spec_reader_one.f k s0_0 bt942.2 (([(-1), (bt934.2.1.length : Int), 24] : List Int))).bind fun bt947 => (some (bt934.1, bt934.2.1, bt947.1, bt947.2))) else ((spec_reader_pick.f k s0_0 bt942.2 (bt934.2.1.length : Int)).bind fun bt949 => (some (bt934.1, bt934.2.1, bt949.1, bt949.2)))))
def spec_lineIn.T3 : Bool × List (List Nat × List Nat) := (true, [([], []), ([], []), ([], []), ([], []), ([3], [3]), ([4], [4]), ([2, 5], [2, 5]), ([0, 6, 0], [0]), ([1, 7, 0, 1, 7], [1]), ([6, 8, 0, 1, 2, 3, 4, 5, 6, 7, 8], [6])])
def spec_lineIn.B3 : List Nat := [0, 0, 0, 0, 8, 24, 60, 125, 255, 511]
theorem spec_lineIn.tab3 : rtab .any (opsOf Try.f60 3) = spec_lineIn.T3 := by kernel_rfl
theorem spec_lineIn.bits3 : waitsOk spec_lineIn.T3.2 spec_lineIn.B3 = true := by kernel_rfl
def spec_lineIn.T4 : Bool × List (List Nat × List Nat) := (true, [([], []), ([], []), ([], []), ([], []), ([3], [3]), ([2, 4], [2, 4]), ([0, 5, 0], [0]), ([1, 6, 0, 1, 6], [1]), ([5, 7, 0, 1, 2, 3, 4, 5, 6, 7], [5])])
def spec_lineIn.B4 : List Nat := [0, 0, 0, 0, 8, 28, 61, 127, 255]
theorem spec_lineIn.tab4 : rtab .any (opsOf Try.f60 4) = spec_lineIn.T4 := by kernel_rfl
theorem spec_lineIn.bits4 : waitsOk spec_lineIn.T4.2 spec_lineIn.B4 = true := by kernel_rfl
set_option maxHeartbeats 8000000 in
set_option maxRecDepth 100000 in
theorem spec_lineIn.calls (k : Nat) (g : Nat) (s0_0 : List Int) (s0_1 : Int) (r1 : List (S87)) (r2 : List (S52)) (r3 : Int) (r4 : Int) (w0 w : World) (hI : IsS97 w0 w g s0_0 s0_1) (hB : Below w0.heap.size w0 w) (h : spec_lineIn.f k s0_0 s0_1 = some (r1, r2, r3, r4)) :
  Calls Try.prog 60 #[.pointer (some ⟨g, 0, none⟩)] w fun e w' => ∃ v0_ v1_ : Value, e = .returned (.tuple #[.agg #[v0_], v1_, .int .i64 r3]) ∧ Kd.R k87 87 w' w.heap.size (fun _ => True) v0_ r1 ∧ Kd.Q k52 52 w' w.heap.size (fun _ => True) v1_ r2 ∧ IsS97 w0 w' g s0_0 r4 ∧ Below w0.heap.size w0 w' ∧ KeepBut w w' g none := by
 have hu32 := Try.underlying32
 have HI0 := am hI
 have HK := am (KeepBut.refl w g none)
 have HL := am hB.size
 clear hI
 have HW0 := am hB.size
 have HB := am hB
 clear hB
 have H : ((spec_someProgram.f k s0_0 s0_1).bind fun bt934 => ((spec_reader_pick.f k s0_0 bt934.2.2 16).bind fun bt942 => (if bt942.1 = 0 then ((spec_reader_one.f k s0_0 bt942.2 (([(-1), (bt934.2.1.length : Int), 24] : List Int))).bind fun bt947 => (some (bt934.1, bt934.2.1, bt947.1, bt947.2))) else ((spec_reader_pick.f k s0_0 bt942.2 (bt934.2.1.length : Int)).bind fun bt949 => (some (bt934.1, bt934.2.1, bt949.1, bt949.2)))))) = some (r1, r2, r3, r4) := h
 clear h
 replace H := Option.bind_eq_some_iff.mp H
 obtain ⟨⟨t934, t937, t940⟩, A20, H⟩ := H
 replace H : ((spec_reader_pick.f k s0_0 t940 16).bind fun bt942 => (if bt942.1 = 0 then ((spec_reader_one.f k s0_0 bt942.2 (([(-1), (t937.length : Int), 24] : List Int))).bind fun bt947 => (some (t934, t937, bt947.1, bt947.2))) else ((spec_reader_pick.f k s0_0 bt942.2 (t937.length : Int)).bind fun bt949 => (some (t934, t937, bt949.1, bt949.2))))) = some (r1, r2, r3, r4) := H
 have A2 := am A20
 clear A20
 replace H := Option.bind_eq_some_iff.mp H
 obtain ⟨⟨t942, t943⟩, A30, H⟩ := H
 replace H : (if t942 = 0 then ((spec_reader_one.f k s0_0 t943 (([(-1), (t937.length : Int), 24] : List Int))).bind fun bt947 => (some (t934, t937, bt947.1, bt947.2))) else ((spec_reader_pick.f k s0_0 t943 (t937.length : Int)).bind fun bt949 => (some (t934, t937, bt949.1, bt949.2)))) = some (r1, r2, r3, r4) := H
 have A3 := am A30
 clear A30
 by_cases c4 : t942 = 0
 ·rw [if_pos c4] at H
  have c4b0 : (t942 == 0) = true := beq_iff_eq.mpr c4
  have c4b1 : (t942 != 0) = false := bne_eq_false_iff_eq.mpr c4
  clear c4
  obtain ⟨y944, hy944⟩ : ∃ y_ : List Int, y_ = (([(-1), (t937.length : Int), 24] : List Int)) := ⟨_, rfl⟩
  replace H : ((spec_reader_one.f k s0_0 t943 y944).bind fun bt947 => (some (t934, t937, bt947.1, bt947.2))) = some (r1, r2, r3, r4) := by first | (rw [hy944]; with_reducible exact H) | (have H2_ := (Option.bind_some _ _).symm.trans H; rw [hy944]; with_reducible exact H2_) | (have H2_ := (Option.bind_some _ _).symm.trans H; with_reducible exact H2_) | with_reducible exact H | (rw [hy944]; exact H) | exact H
  have Ny944 := am hy944
  clear hy944
  replace H := Option.bind_eq_some_iff.mp H
  obtain ⟨⟨t947, t948⟩, A50, H⟩ := H
  replace H : (some (t934, t937, t947, t948)) = some (r1, r2, r3, r4) := H
  have A5 := am A50
  clear A50
  simp only [Option.some.injEq, Prod.mk.injEq] at H
  obtain ⟨rfl, rfl, rfl, rfl⟩ := H
  go_enter Try.func60, Try.ntmps60
  try go_wp2_with (first | ((with_reducible refine gate_dst (N := 2) rfl ?_); refine bE (N := 2) (cs := #[.slice none 0 0]) (t := 32) ?_; intro gb933 hg w6 hbox hb; have BK933 := am (hbox); have GW933 := am ((Y13 : w.heap.size ≤ gb933)); have GE933 := am ((Nat.le_trans HW0.out (Y13 : w.heap.size ≤ gb933) : w0.heap.size ≤ gb933)); have NB0_933 := am ((Y29 : g ≠ gb933)); have NB933_0 := am ((Y30 : gb933 ≠ g)); replace HK := am (KeepBut.trans (Y18) (KeepBut.of_below hb g none) (.inl rfl)); replace HB := am (below_step (Y19) hb); replace HI0 := am (IsS97.below (Y17) hb); clear hb hbox hg) | ((with_reducible refine gate_callee (f := 90) rfl ?_); refine gL (some 9) Try.func90 #[.pointer (some ⟨g, 0, none⟩)] ?_; (with_reducible refine (spec_someProgram.calls k g s0_0 s0_1 t934 t937 t940 w0 _ ?side1 ?side2 A2.out).mono ?_); (case side1 => exact Y110); (case side2 => exact Y111); rintro e w7 ⟨v935, v938, rfl, ho0, ho1, hi, hb, hk⟩; refine ⟨_, rfl, ?_⟩; have HO936 := am (Kd.R_lower ho0 (keep_size (w := w) (g := g) (row := none) (Y68))); have HO939 := am (Kd.Q_lower ho1 (keep_size (w := w) (g := g) (row := none) (Y68))); replace BK933 := am (KeepBut.blk hk (g' := gb933) (o := .cells #[.slice none 0 0] 32 (0, 0)) (kq BK933.out) NB933_0.out (by simp)); replace HK := am (KeepBut.trans (Y68) hk (.inl rfl)); replace HB := am (hb); replace HI0 := am (hi); (try clear hb); (try clear hb2); (try clear hk); (try clear hi); (try clear ho0); (try clear ho1)) | ((with_reducible refine gate_dst (N := 5) rfl ?_); refine bE (N := 5) (cs := #[.slice none 0 0]) (t := 32) ?_; intro gb941 hg w8 hbox hb; have BK941 := am (hbox); have GW941 := am ((Y112 : w.heap.size ≤ gb941)); have GE941 := am ((Nat.le_trans HW0.out (Y112 : w.heap.size ≤ gb941) : w0.heap.size ≤ gb941)); have NB933_941 := am ((by rw [hg]; exact Nat.ne_of_lt (blk_lt (g := gb933) (o := .cells #[.slice none 0 0] 32 (0, 0)) (kq BK933.out)) : gb933 ≠ gb941)); have NB941_933 := am ((by rw [hg]; exact Nat.ne_of_gt (blk_lt (g := gb933) (o := .cells #[.slice none 0 0] 32 (0, 0)) (kq BK933.out)) : gb941 ≠ gb933)); have NB0_941 := am ((Y161 : g ≠ gb941)); have NB941_0 := am ((Y162 : gb941 ≠ g)); replace HO936 := am (Kd.R_below (rq HO936.out) hb); replace HO939 := am (Kd.Q_below (Y92) hb); replace BK933 := am (blk_below (g := gb933) (o := .cells #[.slice none 0 0] 32 (0, 0)) (kq BK933.out) hb); replace HK := am (KeepBut.trans (Y68) (KeepBut.of_below hb g none) (.inl rfl)); replace HB := am (below_step (Y111) hb); replace HI0 := am (IsS97.below (Y110) hb); clear hb hbox hg; obtain ⟨Ao9, co9, eo9⟩ := Kd.R_slice HO936.out; subst eo9; have hnb10 := NB941_933.out; have hnc10 := NB933_941.out; have hnb11 := NB941_0.out; have hnc11 := NB0_941.out; have hcz12_0 := bc0 BK941.out; have hfz12_0 := blk_frozen BK941.out 0) | ((with_reducible refine gate_callee (f := 71) rfl ?_); refine gL (some 13) Try.func71 #[.pointer (some ⟨g, 0, none⟩), .int .i64 16] ?_; (with_reducible refine (spec_reader_pick.calls k g s0_0 t940 16 t942 t943 w0 _ ?side1 ?side2 A3.out).mono ?_); (case side1 => exact Y33); (case side2 => exact Y73); rintro e w13 ⟨rfl, hi, hb, hk⟩; refine ⟨_, rfl, ?_⟩; replace BK933 := am (KeepBut.blk hk (g' := gb933) (o := .cells #[.slice none 0 0] 32 (0, 0)) (Y163) NB933_0.out (by simp)); replace HO936 := am (Kd.R_mono (Kd.R_keep (IsS97.apart (show IsS97 w0 _ g s0_0 t940 from Y33) (by (with_reducible repeat (first | apply Kd.R_alloc | apply Kd.R_drewN | apply Kd.R_drew)); exact (Kd.R_mono (Kd.R_far (p := ⟨gb941, 0, none⟩) (Kd.R_types HO936.out BK941.out (by decide)) (fun _ hk => hk.2) (.slice Ao9 t934.length co9)) (fun _ h_ => h_.1))) (by decide)) hk (fun _ h => h.2)) (fun _ h => h.1)); replace HO939 := am (Kd.Q_mono (Kd.Q_keep (IsS97.apartQ (show IsS97 w0 _ g s0_0 t940 from Y33) (by (with_reducible repeat (first | apply Kd.Q_alloc | apply Kd.Q_drewN | apply Kd.Q_drew)); exact (Kd.Q_mono (Kd.Q_far (p := ⟨gb941, 0, none⟩) (Kd.Q_types HO939.out BK941.out (by decide)) (fun _ hk => hk.2) (.slice Ao9 t934.length co9)) (fun _ h_ => h_.1))) (by decide)) hk (fun _ h => h.2)) (fun _ h => h.1)); replace BK941 := am (KeepBut.blk hk (g' := gb941) (o := .cells #[.slice Ao9 t934.length co9] 32 (0, 0)) (Y164) NB941_0.out (by simp)); replace HK := am (KeepBut.trans (Y69) hk (.inl rfl)); replace HB := am (hb); replace HI0 := am (hi); (try clear hb); (try clear hb2); (try clear hk); (try clear hi)))
  replace HO936 := am (Kd.R_drew HO936.out)
  replace HO939 := am (Kd.Q_drew HO939.out)
  replace BK933 := am (blk_drew BK933.out)
  replace BK941 := am (blk_drew BK941.out)
  replace HI0 := am (IsS97.drew HI0.out)
  replace HK := am (keep_drew HK.out)
  replace HB := am (below_drew1 HB.out)
  obtain ⟨Ao15, co15, eo15, _⟩ := Kd.Q_slice HO939.out
  (first | subst eo15 | (injection eo15 with f1_ f2_ f3_; have f4_ := f1_.symm; have f5_ := f3_.symm; clear f1_ f2_ f3_; subst f4_; subst f5_))
  refine start_ (n := 10) (S := fun w' => w'.cell? ⟨gb941, 0, none⟩ = some (.slice Ao9 t934.length co9)) (ds := []) #[false, false, false, false, false, false, false, false, false, false] (by kernel_rfl) rfl rfl ((blk_cell BK941.out 0).trans rfl) (fun hHeld => ?_); refine with_tabW spec_lineIn.tab3 spec_lineIn.bits3 (fun HT_ HW_ => ?_)
  generalize w13.drew = w14 at HO936 HO939 BK933 BK941 HI0 HK HB hHeld ⊢
  refine pq (i := 1) (N := some 16) #[false, true, false, false, false, false, false, false, false, false] ?_
  refine pq (i := 2) (N := some 17) #[false, true, true, false, false, false, false, false, false, false] ?_
  refine pq (i := 3) (N := some 18) #[false, true, true, true, false, false, false, false, false, false] ?_
  refine pq (i := 4) (N := some 19) #[false, true, true, true, true, false, false, false, false, false] ?_
  refine take_ (i := 0) (N := some 15) (v := ?_) (a' := ?_) #[true, true, true, true, true, false, false, false, false, false] rfl rfl (take_ofW HT_.out HW_.out (by kernel_rfl)) (fun _ _ _ h => h) (Or.inl ⟨by rfl, ?_⟩) hHeld ?_ ?_
  rotate_left
  ·intro w' s0
   go_simp
   with_reducible rfl
  rotate_left
  ·exact sa
  refine one_ (i := 5) (N := some 20) #[true, true, true, true, true, true, false, false, false, false] rfl rfl (one_of HT_.out (by kernel_rfl)) (by decide) (fun K hK => ?_)
  refine Kd.R_lit_step (Kd.int .i64) _ 3 ?hg (N := 20) ?hd (xs := ([(-1), (t937.length : Int), 24] : List Int)) (inner := [.int .i64 (-1), .int .i64 (t937.length : Int), .int .i64 24]) (ok := fun _ => True) (okp := fun _ => True) ?hr ?hp (fun _ hk => hk) trivial (Below.refl _ _) (Nat.le_refl _) (by simp) ?_; (case hd => rfl); (case hg => rfl); (case hr => exact Y5); (case hp => exact (Reps.one (show Kd.M (Kd.int .i64) _ _ _ (-1) [.int .i64 (-1)] from rfl) (Reps.one (show Kd.M (Kd.int .i64) _ _ _ (t937.length : Int) [.int .i64 (t937.length : Int)] from rfl) (Reps.one (show Kd.M (Kd.int .i64) _ _ _ 24 [.int .i64 24] from rfl) (Reps.none _ _)))))
  intro v945 w16 ho17 hb hg_ hnew_
  clear hg_ hnew_
  (first | rw [← Ny944.out] at ho17 | (simp only [Int.reduceToNat] at ho17; rw [← Ny944.out] at ho17))
  have HO946 := am (Kd.R_lower ho17 (keep_size (w := w) (g := g) (row := none) (Y69)))
  replace HO936 := am (Kd.R_below (rq HO936.out) hb)
  replace HO939 := am (Kd.Q_below (Y92) hb)
  replace BK933 := am (blk_below (g := gb933) (o := .cells #[.slice none 0 0] 32 (0, 0)) (kq BK933.out) hb)
  replace BK941 := am (blk_below (g := gb941) (o := .cells #[.slice Ao9 t934.length co9] 32 (0, 0)) (kq BK941.out) hb)
  replace HK := am (KeepBut.trans (Y69) (KeepBut.of_below hb g none) (.inl rfl))
  replace HB := am (below_step (Y73) hb)
  replace HI0 := am (IsS97.below (Y33) hb)
  clear hb ho17
  obtain ⟨Ao18, co18, eo18⟩ := Kd.R_slice HO946.out
  (first | subst eo18 | (injection eo18 with f1_ f2_ f3_; have f4_ := f1_.symm; have f5_ := f3_.symm; clear f1_ f2_ f3_; subst f4_; subst f5_))
  refine hK.out _ _ ((blk_cell BK941.out 0).trans rfl) (fun hHeld => ?_)
  clear hK K
  refine norm_ (a' := ?_) ?_ ?_
  rotate_left
  ·show Act.put _ (some 20) _ = _
   simp only [Act.put, List.setIfInBounds_toArray, List.set_cons_zero, List.set_cons_succ, i64_w, i32_w]
   rfl
  refine one_ (i := 6) (N := some 21) #[true, true, true, true, true, true, true, false, false, false] rfl rfl (one_of HT_.out (by kernel_rfl)) (by decide) (fun K hK => ?_)
  refine goes_ Try.func91 (by kernel_rfl) rfl #[.pointer (some ⟨g, 0, none⟩), .slice Ao18 y944.length co18] (by rfl) rfl rfl (aq) ?_
  with_reducible refine (spec_reader_one.calls k g s0_0 t943 _ _ y944 t947 t948 w0 _ ?side1 ?side2 ?side3 ?side4 ?side5 A5.out).mono ?_
  (case side1 => exact Y33)
  (case side2 => exact Y73)
  (case side3 => exact cq (Kd.R_reads' HO946.out).2.2)
  (case side4 => exact (Kd.R_reads' HO946.out).2.1)
  (case side5 => exact far_slice (IsS97.own_ne HI0.out HO946.out (by decide)))
  rintro e w19 ⟨rfl, hi, hb, hk⟩
  refine ⟨_, rfl, ?_⟩
  replace BK933 := am (KeepBut.blk hk (g' := gb933) (o := .cells #[.slice none 0 0] 32 (0, 0)) (kq BK933.out) NB933_0.out (by simp))
  replace HO936 := am (Kd.R_mono (Kd.R_keep (IsS97.apart (show IsS97 w0 _ g s0_0 t943 from Y33) (rq HO936.out) (by decide)) hk (fun _ h => h.2)) (fun _ h => h.1))
  replace HO939 := am (Kd.Q_mono (Kd.Q_keep (IsS97.apartQ (show IsS97 w0 _ g s0_0 t943 from Y33) (Y92) (by decide)) hk (fun _ h => h.2)) (fun _ h => h.1))
  replace BK941 := am (KeepBut.blk hk (g' := gb941) (o := .cells #[.slice Ao9 t934.length co9] 32 (0, 0)) (kq BK941.out) NB941_0.out (by simp))
  replace HO946 := am (Kd.R_mono (Kd.R_keep (IsS97.apart (show IsS97 w0 _ g s0_0 t943 from Y33) (rq HO946.out) (by decide)) hk (fun _ h => h.2)) (fun _ h => h.1))
  replace HK := am (KeepBut.trans (Y69) hk (.inl rfl))
  replace HB := am (hb)
  replace HI0 := am (hi)
  (try clear hb)
  (try clear hb2)
  (try clear hk)
  (try clear hi)
  refine hK.out _ _ ((blk_cell BK941.out 0).trans rfl) (fun hHeld => ?_)
  clear hK K
  refine norm_ (a' := ?_) ?_ ?_
  rotate_left
  ·show Act.put _ (some 21) _ = _
   simp only [Act.put, List.setIfInBounds_toArray, List.set_cons_zero, List.set_cons_succ, i64_w, i32_w]
   rfl
  refine one_ (i := 7) (N := none) #[true, true, true, true, true, true, true, true, false, false] rfl rfl (one_of HT_.out (by kernel_rfl)) (by decide) (fun K hK => ?_)
  have hs20 : w19.cell? ⟨gb933, 0, none⟩ = some (.slice none 0 0) := (blk_cell BK933.out 0).trans rfl
  have hfs20 := blk_frozen BK933.out 0
  have hns20_1 := NB941_933.out
  have hms20_1 := NB933_941.out
  refine skip_ (w1 := ?_) (by rfl) rfl ?_ ?_
  rotate_left
  ·go_simp
   rfl
  refine hK.out _ _ (((cell_far (p := ⟨gb933, _, none⟩) NB941_933.out _).trans (hHeld))) (fun hHeld => ?_)
  clear hK K
  refine pq (i := 8) (N := some 3) #[true, true, true, true, true, true, true, true, true, false] ?_
  refine pq (i := 9) (N := some 4) #[true, true, true, true, true, true, true, true, true, true] ?_
  refine done_ (done_of HT_.out (by kernel_rfl)) ?_
  try go_wp2
  refine bodyPost_ret (results_ctt rfl _ _ gb933 32 #[.slice Ao9 t934.length co9] (0, 0) _ rfl (Y165) Try.underlying32 rfl (by kernel_rfl)) rfl ?_
  exact ⟨_, _, Y0, by (with_reducible repeat (first | apply Kd.R_alloc | apply Kd.R_drewN | apply Kd.R_drew)); exact Kd.R_mono (Kd.R_far (p := ⟨gb933, 0, none⟩) (Kd.R_types HO936.out BK933.out (by decide)) (fun _ hk => hk.2) (.slice Ao9 t934.length co9)) (fun _ hk => trivial), by (with_reducible repeat (first | apply Kd.Q_alloc | apply Kd.Q_drewN | apply Kd.Q_drew)); exact Kd.Q_mono (Kd.Q_far (p := ⟨gb933, 0, none⟩) (Kd.Q_types HO939.out BK933.out (by decide)) (fun _ hk => hk.2) (.slice Ao9 t934.length co9)) (fun _ hk => trivial), Y33, Y73, Y69⟩
 ·rw [if_neg c4] at H
  have c4b0 : (t942 == 0) = false := beq_eq_false_iff_ne.mpr c4
  have c4b1 : (t942 != 0) = true := bne_iff_ne.mpr c4
  replace H := Option.bind_eq_some_iff.mp H
  obtain ⟨⟨t949, t950⟩, A210, H⟩ := H
  replace H : (some (t934, t937, t949, t950)) = some (r1, r2, r3, r4) := H
  have A21 := am A210
  clear A210
  simp only [Option.some.injEq, Prod.mk.injEq] at H
  obtain ⟨rfl, rfl, rfl, rfl⟩ := H
  go_enter Try.func60, Try.ntmps60
  try go_wp2_with (first | ((with_reducible refine gate_dst (N := 2) rfl ?_); refine bE (N := 2) (cs := #[.slice none 0 0]) (t := 32) ?_; intro gb933 hg w22 hbox hb; have BK933 := am (hbox); have GW933 := am ((Y13 : w.heap.size ≤ gb933)); have GE933 := am ((Nat.le_trans HW0.out (Y13 : w.heap.size ≤ gb933) : w0.heap.size ≤ gb933)); have NB0_933 := am ((Y29 : g ≠ gb933)); have NB933_0 := am ((Y30 : gb933 ≠ g)); replace HK := am (KeepBut.trans (Y18) (KeepBut.of_below hb g none) (.inl rfl)); replace HB := am (below_step (Y19) hb); replace HI0 := am (IsS97.below (Y17) hb); clear hb hbox hg) | ((with_reducible refine gate_callee (f := 90) rfl ?_); refine gL (some 9) Try.func90 #[.pointer (some ⟨g, 0, none⟩)] ?_; (with_reducible refine (spec_someProgram.calls k g s0_0 s0_1 t934 t937 t940 w0 _ ?side1 ?side2 A2.out).mono ?_); (case side1 => exact Y110); (case side2 => exact Y111); rintro e w23 ⟨v935, v938, rfl, ho0, ho1, hi, hb, hk⟩; refine ⟨_, rfl, ?_⟩; have HO936 := am (Kd.R_lower ho0 (keep_size (w := w) (g := g) (row := none) (Y68))); have HO939 := am (Kd.Q_lower ho1 (keep_size (w := w) (g := g) (row := none) (Y68))); replace BK933 := am (KeepBut.blk hk (g' := gb933) (o := .cells #[.slice none 0 0] 32 (0, 0)) (kq BK933.out) NB933_0.out (by simp)); replace HK := am (KeepBut.trans (Y68) hk (.inl rfl)); replace HB := am (hb); replace HI0 := am (hi); (try clear hb); (try clear hb2); (try clear hk); (try clear hi); (try clear ho0); (try clear ho1)) | ((with_reducible refine gate_dst (N := 5) rfl ?_); refine bE (N := 5) (cs := #[.slice none 0 0]) (t := 32) ?_; intro gb941 hg w24 hbox hb; have BK941 := am (hbox); have GW941 := am ((Y112 : w.heap.size ≤ gb941)); have GE941 := am ((Nat.le_trans HW0.out (Y112 : w.heap.size ≤ gb941) : w0.heap.size ≤ gb941)); have NB933_941 := am ((by rw [hg]; exact Nat.ne_of_lt (blk_lt (g := gb933) (o := .cells #[.slice none 0 0] 32 (0, 0)) (kq BK933.out)) : gb933 ≠ gb941)); have NB941_933 := am ((by rw [hg]; exact Nat.ne_of_gt (blk_lt (g := gb933) (o := .cells #[.slice none 0 0] 32 (0, 0)) (kq BK933.out)) : gb941 ≠ gb933)); have NB0_941 := am ((Y161 : g ≠ gb941)); have NB941_0 := am ((Y162 : gb941 ≠ g)); replace HO936 := am (Kd.R_below (rq HO936.out) hb); replace HO939 := am (Kd.Q_below (Y92) hb); replace BK933 := am (blk_below (g := gb933) (o := .cells #[.slice none 0 0] 32 (0, 0)) (kq BK933.out) hb); replace HK := am (KeepBut.trans (Y68) (KeepBut.of_below hb g none) (.inl rfl)); replace HB := am (below_step (Y111) hb); replace HI0 := am (IsS97.below (Y110) hb); clear hb hbox hg; obtain ⟨Ao25, co25, eo25⟩ := Kd.R_slice HO936.out; subst eo25; have hnb26 := NB941_933.out; have hnc26 := NB933_941.out; have hnb27 := NB941_0.out; have hnc27 := NB0_941.out; have hcz28_0 := bc0 BK941.out; have hfz28_0 := blk_frozen BK941.out 0) | ((with_reducible refine gate_callee (f := 71) rfl ?_); refine gL (some 13) Try.func71 #[.pointer (some ⟨g, 0, none⟩), .int .i64 16] ?_; (with_reducible refine (spec_reader_pick.calls k g s0_0 t940 16 t942 t943 w0 _ ?side1 ?side2 A3.out).mono ?_); (case side1 => exact Y33); (case side2 => exact Y73); rintro e w29 ⟨rfl, hi, hb, hk⟩; refine ⟨_, rfl, ?_⟩; replace BK933 := am (KeepBut.blk hk (g' := gb933) (o := .cells #[.slice none 0 0] 32 (0, 0)) (Y163) NB933_0.out (by simp)); replace HO936 := am (Kd.R_mono (Kd.R_keep (IsS97.apart (show IsS97 w0 _ g s0_0 t940 from Y33) (by (with_reducible repeat (first | apply Kd.R_alloc | apply Kd.R_drewN | apply Kd.R_drew)); exact (Kd.R_mono (Kd.R_far (p := ⟨gb941, 0, none⟩) (Kd.R_types HO936.out BK941.out (by decide)) (fun _ hk => hk.2) (.slice Ao25 t934.length co25)) (fun _ h_ => h_.1))) (by decide)) hk (fun _ h => h.2)) (fun _ h => h.1)); replace HO939 := am (Kd.Q_mono (Kd.Q_keep (IsS97.apartQ (show IsS97 w0 _ g s0_0 t940 from Y33) (by (with_reducible repeat (first | apply Kd.Q_alloc | apply Kd.Q_drewN | apply Kd.Q_drew)); exact (Kd.Q_mono (Kd.Q_far (p := ⟨gb941, 0, none⟩) (Kd.Q_types HO939.out BK941.out (by decide)) (fun _ hk => hk.2) (.slice Ao25 t934.length co25)) (fun _ h_ => h_.1))) (by decide)) hk (fun _ h => h.2)) (fun _ h => h.1)); replace BK941 := am (KeepBut.blk hk (g' := gb941) (o := .cells #[.slice Ao25 t934.length co25] 32 (0, 0)) (Y164) NB941_0.out (by simp)); replace HK := am (KeepBut.trans (Y69) hk (.inl rfl)); replace HB := am (hb); replace HI0 := am (hi); (try clear hb); (try clear hb2); (try clear hk); (try clear hi)))
  replace HO936 := am (Kd.R_drew HO936.out)
  replace HO939 := am (Kd.Q_drew HO939.out)
  replace BK933 := am (blk_drew BK933.out)
  replace BK941 := am (blk_drew BK941.out)
  replace HI0 := am (IsS97.drew HI0.out)
  replace HK := am (keep_drew HK.out)
  replace HB := am (below_drew1 HB.out)
  obtain ⟨Ao31, co31, eo31, _⟩ := Kd.Q_slice HO939.out
  (first | subst eo31 | (injection eo31 with f1_ f2_ f3_; have f4_ := f1_.symm; have f5_ := f3_.symm; clear f1_ f2_ f3_; subst f4_; subst f5_))
  refine start_ (n := 9) (S := fun w' => w'.cell? ⟨gb941, 0, none⟩ = some (.slice Ao25 t934.length co25)) (ds := []) #[false, false, false, false, false, false, false, false, false] (by kernel_rfl) rfl rfl ((blk_cell BK941.out 0).trans rfl) (fun hHeld => ?_); refine with_tabW spec_lineIn.tab4 spec_lineIn.bits4 (fun HT_ HW_ => ?_)
  generalize w29.drew = w30 at HO936 HO939 BK933 BK941 HI0 HK HB hHeld ⊢
  refine pq (i := 1) (N := some 23) #[false, true, false, false, false, false, false, false, false] ?_
  refine pq (i := 2) (N := some 24) #[false, true, true, false, false, false, false, false, false] ?_
  refine pq (i := 3) (N := some 25) #[false, true, true, true, false, false, false, false, false] ?_
  refine pq (i := 4) (N := some 26) #[false, true, true, true, true, false, false, false, false] ?_
  refine take_ (i := 0) (N := some 22) (v := ?_) (a' := ?_) #[true, true, true, true, true, false, false, false, false] rfl rfl (take_ofW HT_.out HW_.out (by kernel_rfl)) (fun _ _ _ h => h) (Or.inl ⟨by rfl, ?_⟩) hHeld ?_ ?_
  rotate_left
  ·intro w' s0
   go_simp
   with_reducible rfl
  rotate_left
  ·exact sa
  refine one_ (i := 5) (N := some 27) #[true, true, true, true, true, true, false, false, false] rfl rfl (one_of HT_.out (by kernel_rfl)) (by decide) (fun K hK => ?_)
  refine goes_ Try.func71 (by kernel_rfl) rfl #[.pointer (some ⟨g, 0, none⟩), .int .i64 (t937.length : Int)] (by rfl) rfl rfl (aq) ?_
  with_reducible refine (spec_reader_pick.calls k g s0_0 t943 (t937.length : Int) t949 t950 w0 _ ?side1 ?side2 A21.out).mono ?_
  (case side1 => exact Y33)
  (case side2 => exact Y73)
  rintro e w32 ⟨rfl, hi, hb, hk⟩
  refine ⟨_, rfl, ?_⟩
  replace BK933 := am (KeepBut.blk hk (g' := gb933) (o := .cells #[.slice none 0 0] 32 (0, 0)) (kq BK933.out) NB933_0.out (by simp))
  replace HO936 := am (Kd.R_mono (Kd.R_keep (IsS97.apart (show IsS97 w0 _ g s0_0 t943 from Y33) (rq HO936.out) (by decide)) hk (fun _ h => h.2)) (fun _ h => h.1))
  replace HO939 := am (Kd.Q_mono (Kd.Q_keep (IsS97.apartQ (show IsS97 w0 _ g s0_0 t943 from Y33) (Y92) (by decide)) hk (fun _ h => h.2)) (fun _ h => h.1))
  replace BK941 := am (KeepBut.blk hk (g' := gb941) (o := .cells #[.slice Ao25 t934.length co25] 32 (0, 0)) (kq BK941.out) NB941_0.out (by simp))
  replace HK := am (KeepBut.trans (Y69) hk (.inl rfl))
  replace HB := am (hb)
  replace HI0 := am (hi)
  (try clear hb)
  (try clear hb2)
  (try clear hk)
  (try clear hi)
  refine hK.out _ _ ((blk_cell BK941.out 0).trans rfl) (fun hHeld => ?_)
  clear hK K
  refine norm_ (a' := ?_) ?_ ?_
  rotate_left
  ·show Act.put _ (some 27) _ = _
   simp only [Act.put, List.setIfInBounds_toArray, List.set_cons_zero, List.set_cons_succ, i64_w, i32_w]
   rfl
  refine one_ (i := 6) (N := none) #[true, true, true, true, true, true, true, false, false] rfl rfl (one_of HT_.out (by kernel_rfl)) (by decide) (fun K hK => ?_)
  have hs33 : w32.cell? ⟨gb933, 0, none⟩ = some (.slice none 0 0) := (blk_cell BK933.out 0).trans rfl
  have hfs33 := blk_frozen BK933.out 0
  have hns33_1 := NB941_933.out
  have hms33_1 := NB933_941.out
  refine skip_ (w1 := ?_) (by rfl) rfl ?_ ?_
  rotate_left
  ·go_simp
   rfl
  refine hK.out _ _ (((cell_far (p := ⟨gb933, _, none⟩) NB941_933.out _).trans (hHeld))) (fun hHeld => ?_)
  clear hK K
  refine pq (i := 7) (N := some 3) #[true, true, true, true, true, true, true, true, false] ?_
  refine pq (i := 8) (N := some 4) #[true, true, true, true, true, true, true, true, true] ?_
  refine done_ (done_of HT_.out (by kernel_rfl)) ?_
  try go_wp2
  refine bodyPost_ret (results_ctt rfl _ _ gb933 32 #[.slice Ao25 t934.length co25] (0, 0) _ rfl (Y165) Try.underlying32 rfl (by kernel_rfl)) rfl ?_
  exact ⟨_, _, Y0, by (with_reducible repeat (first | apply Kd.R_alloc | apply Kd.R_drewN | apply Kd.R_drew)); exact Kd.R_mono (Kd.R_far (p := ⟨gb933, 0, none⟩) (Kd.R_types HO936.out BK933.out (by decide)) (fun _ hk => hk.2) (.slice Ao25 t934.length co25)) (fun _ hk => trivial), by (with_reducible repeat (first | apply Kd.Q_alloc | apply Kd.Q_drewN | apply Kd.Q_drew)); exact Kd.Q_mono (Kd.Q_far (p := ⟨gb933, 0, none⟩) (Kd.Q_types HO939.out BK933.out (by decide)) (fun _ hk => hk.2) (.slice Ao25 t934.length co25)) (fun _ hk => trivial), Y33, Y73, Y69⟩
def spec_newReader.f (l0 : List Int) : Option (List Int × Int) := if (l0.length : Int) > 2000 then (if 2000 ≤ (l0.length : Int) then (some (l0.take 2000, 0)) else (none)) else (some (l0, 0))
set_option maxHeartbeats 8000000 in
set_option maxRecDepth 100000 in
theorem spec_newReader.calls (A0 : Option Addr) (c0 : Nat) (l0 : List Int) (r1 : List Int) (r2 : Int) (w0 w : World) (hB : Below w0.heap.size w0 w) (hr0 : Kd.C (Kd.int .u8) w0 A0 l0.length l0) (hc0 : l0.length ≤ c0) (h : spec_newReader.f l0 = some (r1, r2)) :
  Calls Try.prog 61 #[.slice A0 l0.length c0] w fun e w' => ∃ g_ : Nat, e = .returned (.pointer (some ⟨g_, 0, none⟩)) ∧ IsS97 w0 w' g_ r1 r2 ∧ Below w0.heap.size w0 w' ∧ Below w.heap.size w w' := by
 have hu97 := Try.underlying97
 have HR0 := am hr0
 have HC0 := am hc0
 clear hr0 hc0
 have HBW := am (Below.refl w.heap.size w)
 have HW0 := am hB.size
 have HB := am hB
 clear hB
 have H : (if (l0.length : Int) > 2000 then (if 2000 ≤ (l0.length : Int) then (some (l0.take 2000, 0)) else (none)) else (some (l0, 0))) = some (r1, r2) := h
 clear h
 by_cases c2 : (l0.length : Int) > 2000
 ·rw [if_pos c2] at H
  have c2b0 : decide (2000 < (l0.length : Int)) = true := decide_eq_true c2
  have c2b1 : decide (2000 < l0.length) = true := decide_eq_true (by omega)
  clear c2
  by_cases c3 : 2000 ≤ (l0.length : Int)
  ·rw [if_pos c3] at H
   have c3b0 := eq_true c3
   have c3b1 : decide (2000 ≤ (l0.length : Int)) = true := decide_eq_true c3
   clear c3
   simp only [Option.some.injEq, Prod.mk.injEq] at H
   obtain ⟨rfl, rfl⟩ := H
   obtain ⟨i04, hi04, _, hsz4, _⟩ := info_parts info5
   obtain ⟨hcut4, hA4, hC4⟩ := print_take_of (P := Try.prog) (Value.int .u8) 0 46 5 .i64 Try.underlying46 hi04 hsz4 A0 c0 l0 2000 (by omega) (of_decide_eq_true (uq)) HC0.out
   have HR951 := am (Kd.C_of_reads (h1 := fun _ => rfl) (hA4 _ (Kd.reads_of_C HR0.out)))
   have HC951 := am hC4
   clear hA4 hC4 hi04 hsz4
   go_enter Try.func61, Try.ntmps61
   go_wp2_with (first | ((with_reducible refine gate_dst (N := 10) rfl ?_); refine bE (N := 10) (cs := #[.slice A0 (l0.take 2000).length c0, .int .i64 0]) (t := 97) ?_; intro gb952 hg w5 hbox hb; have BK952 := am (hbox); have GW952 := am ((Y113 : w.heap.size ≤ gb952)); have GE952 := am ((Nat.le_trans HW0.out (Y113 : w.heap.size ≤ gb952) : w0.heap.size ≤ gb952)); replace HBW := am (below_step HBW.out hb); replace HB := am (below_step (bq) hb); clear hb hbox hg))
   go_ret
   exact ⟨_, rfl, (show IsS97 w0 _ gb952 (l0.take 2000) 0 from ⟨_, _, kq BK952.out, GE952.out, HR951.out⟩), by repeat (first | (with_reducible first | exact HB.out | apply below_alloc | apply pw_below_drewN | apply below_drew1 | refine below_set ?_ GE952.out) | exact HB.out), by repeat (first | (with_reducible first | exact HBW.out | apply below_alloc | apply pw_below_drewN | apply below_drew1 | refine below_set ?_ GW952.out) | exact HBW.out)⟩
  ·rw [if_neg c3] at H
   exact absurd H (by simp)
 ·rw [if_neg c2] at H
  have c2b0 : decide (2000 < (l0.length : Int)) = false := decide_eq_false c2
  have c2b1 : decide (2000 < l0.length) = false := decide_eq_false (by omega)
  clear c2
  simp only [Option.some.injEq, Prod.mk.injEq] at H
  obtain ⟨rfl, rfl⟩ := H
  go_enter Try.func61, Try.ntmps61
  go_wp2_with (first | ((with_reducible refine gate_dst (N := 10) rfl ?_); refine bE (N := 10) (cs := #[.slice A0 l0.length c0, .int .i64 0]) (t := 97) ?_; intro gb953 hg w6 hbox hb; have BK953 := am (hbox); have GW953 := am ((Y113 : w.heap.size ≤ gb953)); have GE953 := am ((Nat.le_trans HW0.out (Y113 : w.heap.size ≤ gb953) : w0.heap.size ≤ gb953)); replace HBW := am (below_step HBW.out hb); replace HB := am (below_step (bq) hb); clear hb hbox hg))
  go_ret
  exact ⟨_, rfl, (show IsS97 w0 _ gb953 l0 0 from ⟨_, _, kq BK953.out, GE953.out, HR0.out⟩), by repeat (first | (with_reducible first | exact HB.out | apply below_alloc | apply pw_below_drewN | apply below_drew1 | refine below_set ?_ GE953.out) | exact HB.out), by repeat (first | (with_reducible first | exact HBW.out | apply below_alloc | apply pw_below_drewN | apply below_drew1 | refine below_set ?_ GW953.out) | exact HBW.out)⟩
mutual
def spec_DrawTryOf.l0 : Nat → List (S52) → Int → Int → List Int → Int → List (S87) → Option ((List (S87)) × (List (S52)) × Int)
 | 0, _, _, _, _, _, _ => none
 | k + 1, x7, x8, x9, x1055000, x1055001, x1064000 => if x9 < (x7.length : Int) then (if 0 ≤ x9 then (if ((rd_T52 x7 x9).f1) = 7 then ((spec_reader_pick.f k x1055000 x1055001 3).bind fun bt1065 => (spec_DrawTryOf.j1 k x7 x8 x9 (bt1065.1 == 0) x1055000 bt1065.2 x1064000)) else ((spec_follows.f ((rd_T52 x7 x9).f1)).bind fun t1068 => (if t1068 = true then ((spec_reader_pick.f k x1055000 x1055001 3).bind fun bt1069 => (spec_DrawTryOf.j1 k x7 x8 x9 (bt1069.1 == 0) x1055000 bt1069.2 x1064000)) else (spec_DrawTryOf.j1 k x7 x8 x9 false x1055000 x1055001 x1064000)))) else (none)) else (some (x1064000, x7, x8))
def spec_DrawTryOf.j1 : Nat → List (S52) → Int → Int → Bool → List Int → Int → List (S87) → Option ((List (S87)) × (List (S52)) × Int)
 | 0, _, _, _, _, _, _, _ => none
 | k + 1, x7, x8, x9, x42, x1055000, x1055001, x1064000 => if x42 = true then (some (x1064000, x7, x9)) else (spec_DrawTryOf.l0 k x7 x8 (wrap64 (x9 + 1)) x1055000 x1055001 x1064000)
end
def spec_DrawTryOf.f (k : Nat) (l0 : List Int) : Option ((List (S87)) × (List (S52)) × Int) := (spec_newReader.f l0).bind fun bt1052 => ((spec_lineIn.f k bt1052.1 bt1052.2).bind fun bt1055 => (spec_DrawTryOf.l0 k bt1055.2.1 bt1055.2.2.1 0 bt1052.1 bt1055.2.2.2 bt1055.1))
set_option maxHeartbeats 8000000 in
set_option maxRecDepth 100000 in
theorem spec_DrawTryOf.calls (k : Nat) (A0 : Option Addr) (c0 : Nat) (l0 : List Int) (r1 : List (S87)) (r2 : List (S52)) (r3 : Int) (w : World) (hr0 : Kd.C (Kd.int .u8) w A0 l0.length l0) (hc0 : l0.length ≤ c0) (h : spec_DrawTryOf.f k l0 = some (r1, r2, r3)) :
  Calls Try.prog 34 #[.slice A0 l0.length c0] w fun e w' => ∃ v0_ v1_ : Value, e = .returned (.tuple #[.agg #[v0_], v1_, .int .i64 r3]) ∧ Kd.R k87 87 w' w.heap.size (fun _ => True) v0_ r1 ∧ Kd.Q k52 52 w' w.heap.size (fun _ => True) v1_ r2 ∧ Below w.heap.size w w' := by
 have hu32 := Try.underlying32
 have HR0 := am hr0
 have HC0 := am hc0
 clear hr0 hc0
 have HB := am (Below.refl w.heap.size w)
 have H : ((spec_newReader.f l0).bind fun bt1052 => ((spec_lineIn.f k bt1052.1 bt1052.2).bind fun bt1055 => (spec_DrawTryOf.l0 k bt1055.2.1 bt1055.2.2.1 0 bt1052.1 bt1055.2.2.2 bt1055.1))) = some (r1, r2, r3) := h
 clear h
 replace H := Option.bind_eq_some_iff.mp H
 obtain ⟨⟨t1052, t1053⟩, A20, H⟩ := H
 replace H : ((spec_lineIn.f k t1052 t1053).bind fun bt1055 => (spec_DrawTryOf.l0 k bt1055.2.1 bt1055.2.2.1 0 t1052 bt1055.2.2.2 bt1055.1)) = some (r1, r2, r3) := H
 have A2 := am A20
 clear A20
 replace H := Option.bind_eq_some_iff.mp H
 obtain ⟨⟨t1055, t1058, t1061, t1062⟩, A30, H⟩ := H
 replace H : (spec_DrawTryOf.l0 k t1058 t1061 0 t1052 t1062 t1055) = some (r1, r2, r3) := H
 have A3 := am A30
 clear A30
 have H' := am H
 clear H
 go_enter Try.func34, Try.ntmps34
 go_wp2_with (first | ((with_reducible refine gate_dst (N := 2) rfl ?_); refine bE (N := 2) (cs := #[.slice none 0 0]) (t := 32) ?_; intro gb1051 hg w4 hbox hb; have BK1051 := am (hbox); have GW1051 := am ((Y1 : w.heap.size ≤ gb1051)); have GE1051 := am ((Y1 : w.heap.size ≤ gb1051)); replace HB := am (below_step (bq) hb); clear hb hbox hg) | ((with_reducible refine gate_callee (f := 61) rfl ?_); refine gL (some 11) Try.func61 #[.slice A0 l0.length c0] ?_; (with_reducible refine (spec_newReader.calls _ _ l0 t1052 t1053 w _ ?side1 ?side2 ?side3 A2.out).mono ?_); (case side1 => repeat (first | (with_reducible first | exact HB.out | apply below_alloc | apply pw_below_drewN | apply below_drew1 | refine below_set ?_ GE1051.out) | exact HB.out)); (case side2 => exact HR0.out); (case side3 => exact HC0.out); rintro e w5 ⟨g1054, rfl, hi, hb, hb2⟩; refine ⟨_, rfl, ?_⟩; have HI1054 := am (hi); have NB1054_1051 := am (IsS97.ne_blk hi (blk_below (g := gb1051) (o := .cells #[.slice none 0 0] 32 (0, 0)) (kq BK1051.out) hb2) (by decide)); have NB1051_1054 := am (Ne.symm (IsS97.ne_blk hi (blk_below (g := gb1051) (o := .cells #[.slice none 0 0] 32 (0, 0)) (kq BK1051.out) hb2) (by decide))); replace BK1051 := am (blk_below (g := gb1051) (o := .cells #[.slice none 0 0] 32 (0, 0)) (kq BK1051.out) hb2); replace HB := am (hb); (try clear hb); (try clear hb2); (try clear hk); (try clear hi)) | ((with_reducible refine gate_callee (f := 60) rfl ?_); refine gL (some 14) Try.func60 #[.pointer (some ⟨g1054, 0, none⟩)] ?_; (with_reducible refine (spec_lineIn.calls k g1054 t1052 t1053 t1055 t1058 t1061 t1062 w _ ?side1 ?side2 A3.out).mono ?_); (case side1 => exact Y166); (case side2 => exact Y114); rintro e w6 ⟨v1056, v1059, rfl, ho0, ho1, hi, hb, hk⟩; refine ⟨_, rfl, ?_⟩; have HO1057 := am (Kd.R_lower ho0 (below_size (Y114))); have HO1060 := am (Kd.Q_lower ho1 (below_size (Y114))); replace BK1051 := am (KeepBut.blk hk (g' := gb1051) (o := .cells #[.slice none 0 0] 32 (0, 0)) (kq BK1051.out) NB1051_1054.out (by simp)); replace HB := am (hb); replace HI1054 := am (hi); (try clear hb); (try clear hb2); (try clear hk); (try clear hi); (try clear ho0); (try clear ho1)) | ((with_reducible refine gate_dst (N := 6) rfl ?_); refine bE (N := 6) (cs := #[.slice none 0 0]) (t := 32) ?_; intro gb1063 hg w7 hbox hb; have BK1063 := am (hbox); have GW1063 := am ((Y167 : w.heap.size ≤ gb1063)); have GE1063 := am ((Y167 : w.heap.size ≤ gb1063)); have NB1051_1063 := am ((by rw [hg]; exact Nat.ne_of_lt (blk_lt (g := gb1051) (o := .cells #[.slice none 0 0] 32 (0, 0)) (kq BK1051.out)) : gb1051 ≠ gb1063)); have NB1063_1051 := am ((by rw [hg]; exact Nat.ne_of_gt (blk_lt (g := gb1051) (o := .cells #[.slice none 0 0] 32 (0, 0)) (kq BK1051.out)) : gb1063 ≠ gb1051)); have NB1054_1063 := am ((by rw [hg]; exact Nat.ne_of_lt (IsS97.lt (show IsS97 w _ g1054 t1052 t1062 from by repeat (first | (with_reducible first | exact HI1054.out | apply IsS97.alloc | apply IsS97.drewN | apply IsS97.drew | apply IsS97.set_1 | refine IsS97.far ?_ NB1054_1051.out _) | exact HI1054.out))) : g1054 ≠ gb1063)); have NB1063_1054 := am ((by rw [hg]; exact Nat.ne_of_gt (IsS97.lt (show IsS97 w _ g1054 t1052 t1062 from by repeat (first | (with_reducible first | exact HI1054.out | apply IsS97.alloc | apply IsS97.drewN | apply IsS97.drew | apply IsS97.set_1 | refine IsS97.far ?_ NB1054_1051.out _) | exact HI1054.out))) : gb1063 ≠ g1054)); replace HO1057 := am (Kd.R_below (rq HO1057.out) hb); replace HO1060 := am (Kd.Q_below (by (with_reducible repeat (first | apply Kd.Q_alloc | apply Kd.Q_drewN | apply Kd.Q_drew)); exact HO1060.out) hb); replace BK1051 := am (blk_below (g := gb1051) (o := .cells #[.slice none 0 0] 32 (0, 0)) (kq BK1051.out) hb); replace HB := am (below_step (Y114) hb); replace HI1054 := am (IsS97.below (Y166) hb); clear hb hbox hg; obtain ⟨Ao8, co8, eo8⟩ := Kd.R_slice HO1057.out; subst eo8; have hnb9 := NB1063_1051.out; have hnc9 := NB1051_1063.out; have hnb10 := NB1063_1054.out; have hnc10 := NB1054_1063.out; have hcz11_0 := bc0 BK1063.out; have hfz11_0 := blk_frozen BK1063.out 0))
 go_loopg [9] k (fun kq v9 w' => ∃ (x9_1 : Int) (x1055001_1 : Int), v9 = .int .i64 x9_1 ∧ Aside0 (spec_DrawTryOf.l0 kq t1058 t1061 x9_1 t1052 x1055001_1 t1055 = some (r1, r2, r3)) ∧ Aside0 (kq ≤ k) ∧ Aside0 (Kd.Q k52 52 w' w.heap.size (fun _ => True) v1059 t1058) ∧ Aside0 (Kd.R k87 87 w' w.heap.size (fun _ => True) (.slice Ao8 t1055.length co8) t1055) ∧ Aside0 (w'.heap[gb1051]? = some (.cells #[(.slice none 0 0)] 32 (0, 0))) ∧ Aside0 (w'.heap[gb1063]? = some (.cells #[(.slice Ao8 t1055.length co8)] 32 (0, 0))) ∧ Aside0 (IsS97 w w' g1054 t1052 x1055001_1) ∧ Aside0 (Below w.heap.size w w'))
 case atStart => exact ⟨(0), (t1062), (sq), H', ⟨Nat.le_refl _⟩, ⟨by (with_reducible repeat (first | apply Kd.Q_alloc | apply Kd.Q_drewN | apply Kd.Q_drew)); exact Kd.Q_mono (Kd.Q_far (p := ⟨gb1063, 0, none⟩) (Kd.Q_types HO1060.out BK1063.out (by decide)) (fun _ hk => hk.2) (.slice Ao8 t1055.length co8)) (fun _ hk => trivial)⟩, ⟨by (with_reducible repeat (first | apply Kd.R_alloc | apply Kd.R_drewN | apply Kd.R_drew)); exact Kd.R_mono (Kd.R_far (p := ⟨gb1063, 0, none⟩) (Kd.R_types HO1057.out BK1063.out (by decide)) (fun _ hk => hk.2) (.slice Ao8 t1055.length co8)) (fun _ hk => trivial)⟩, ⟨by (with_reducible repeat (first | refine blk_drewN ?_ _ | refine blk_drew ?_ | refine blk_alloc ?_ _)); refine blk_far ?_ NB1051_1063.out _; (with_reducible repeat (first | refine blk_drewN ?_ _ | refine blk_drew ?_ | refine blk_alloc ?_ _)); exact BK1051.out⟩, ⟨by (with_reducible repeat (first | refine blk_drewN ?_ _ | refine blk_drew ?_ | refine blk_alloc ?_ _)); refine blk_put (cs := #[.slice none 0 0]) ?_ 0 _ rfl; (with_reducible repeat (first | refine blk_drewN ?_ _ | refine blk_drew ?_ | refine blk_alloc ?_ _)); exact BK1063.out⟩, ⟨Y51⟩, ⟨Y57⟩⟩
 case round =>
  clear H'
  try clear c1
  try clear p2
  try clear c3
  try clear c6
  try clear c9
  try clear c10
  try clear hcz11_0
  try clear hfz11_0
  obtain ⟨x9_1, x1055001_1, rfl, HA, HK1, HO_7, HO_1064000, BK1051, BK1063, HI1054, HB⟩ := hrel
  cases gk with
  | zero => exact absurd HA.out (by simp [spec_DrawTryOf.l0])
  | succ k1 =>
   have H := HA.out
   clear HA
   simp only [spec_DrawTryOf.l0] at H
   by_cases c12 : x9_1 < (t1058.length : Int)
   ·rw [if_pos c12] at H
    have c12b0 : decide (x9_1 < (t1058.length : Int)) = true := decide_eq_true c12
    clear c12
    have HC13 := am H
    clear H
    obtain ⟨Ao14, co14, eo14, _⟩ := Kd.Q_slice HO_7.out
    subst eo14
    go_upto_region 6 with (fail)
    go_cut [42] (fun v42 wc => ∃ (kq : Nat) (x42_12 : Bool) (x1055001_12 : Int), v42 = .bool x42_12 ∧ Aside0 (spec_DrawTryOf.j1 kq t1058 t1061 x9_1 x42_12 t1052 x1055001_12 t1055 = some (r1, r2, r3)) ∧ Aside0 (kq ≤ k1) ∧ Aside0 (Kd.Q k52 52 wc w.heap.size (fun _ => True) (.slice Ao14 t1058.length co14) t1058) ∧ Aside0 (Kd.R k87 87 wc w.heap.size (fun _ => True) (.slice Ao8 t1055.length co8) t1055) ∧ Aside0 (wc.heap[gb1051]? = some (.cells #[(.slice none 0 0)] 32 (0, 0))) ∧ Aside0 (wc.heap[gb1063]? = some (.cells #[(.slice Ao8 t1055.length co8)] 32 (0, 0))) ∧ Aside0 (IsS97 w wc g1054 t1052 x1055001_12) ∧ Aside0 (Below w.heap.size w wc))
    case first =>
     have H := HC13.out
     clear HC13
     by_cases c15 : 0 ≤ x9_1
     ·rw [if_pos c15] at H
      have c15b0 : decide (0 ≤ x9_1) = true := decide_eq_true c15
      clear c15
      (first | rw [c15b0] | (simp only [i64_w, i32_w]; rw [c15b0]) | skip)
      by_cases c16 : ((rd_T52 t1058 x9_1).f1) = 7
      ·rw [if_pos c16] at H
       have c16b0 : (((rd_T52 t1058 x9_1).f1) == 7) = true := beq_iff_eq.mpr c16
       have c16b1 : (((rd_T52 t1058 x9_1).f1) != 7) = false := bne_eq_false_iff_eq.mpr c16
       clear c16
       replace H := Option.bind_eq_some_iff.mp H
       obtain ⟨⟨t1065, t1066⟩, A170, H⟩ := H
       replace H : (spec_DrawTryOf.j1 k1 t1058 t1061 x9_1 (t1065 == 0) t1052 t1066 t1055) = some (r1, r2, r3) := H
       have A17 := am A170
       clear A170
       have H' := am H
       clear H
       have p1064 : 0 ≤ (x9_1 : Int) := of_decide_eq_true (uq)
       have q1064 : x9_1 < (t1058.length : Int) := of_decide_eq_true (uq)
       obtain ⟨ad1064, e1064, hx1064_0, hx1064_1, hx1064_2, hx1064_3⟩ := at_T52 (Kd.Q_reads' HO_7.out).2.2 x9_1 p1064 q1064
       cases e1064
       replace p1064 := eq_true p1064
       replace q1064 := eq_true q1064
       go_wp2_with (first | (go_at_call 71; (with_reducible refine (spec_reader_pick.calls k1 g1054 t1052 x1055001_1 3 t1065 t1066 w _ ?side1 ?side2 A17.out).mono ?_); (case side1 => exact Y51); (case side2 => exact Y57); rintro e w18 ⟨rfl, hi, hb, hk⟩; replace HO_7 := am (Kd.Q_mono (Kd.Q_keep (IsS97.apartQ (show IsS97 w _ g1054 t1052 x1055001_1 from Y51) (by (with_reducible repeat (first | apply Kd.Q_alloc | apply Kd.Q_drewN | apply Kd.Q_drew)); exact HO_7.out) (by decide)) hk (fun _ h => h.2)) (fun _ h => h.1)); replace HO_1064000 := am (Kd.R_mono (Kd.R_keep (IsS97.apart (show IsS97 w _ g1054 t1052 x1055001_1 from Y51) (rq HO_1064000.out) (by decide)) hk (fun _ h => h.2)) (fun _ h => h.1)); replace BK1051 := am (KeepBut.blk hk (g' := gb1051) (o := .cells #[.slice none 0 0] 32 (0, 0)) (kq BK1051.out) NB1051_1054.out (by simp)); replace BK1063 := am (KeepBut.blk hk (g' := gb1063) (o := .cells #[.slice Ao8 t1055.length co8] 32 (0, 0)) (kq BK1063.out) NB1063_1054.out (by simp)); replace HB := am (hb); replace HI1054 := am (hi); (try clear hb); (try clear hb2); (try clear hk); (try clear hi)))
       go_meet
       case rel => exact ⟨_, ((t1065 == 0)), (t1066), (sq), H', ⟨by have := HK1.out; first | omega | exact Nat.le_refl _⟩, ⟨by (with_reducible repeat (first | apply Kd.Q_alloc | apply Kd.Q_drewN | apply Kd.Q_drew)); exact HO_7.out⟩, ⟨rq HO_1064000.out⟩, ⟨kq BK1051.out⟩, ⟨kq BK1063.out⟩, ⟨Y51⟩, ⟨Y57⟩⟩
      ·rw [if_neg c16] at H
       have c16b0 : (((rd_T52 t1058 x9_1).f1) == 7) = false := beq_eq_false_iff_ne.mpr c16
       have c16b1 : (((rd_T52 t1058 x9_1).f1) != 7) = true := bne_iff_ne.mpr c16
       replace H := Option.bind_eq_some_iff.mp H
       obtain ⟨t1068, A190, H⟩ := H
       replace H : (if t1068 = true then ((spec_reader_pick.f k1 t1052 x1055001_1 3).bind fun bt1069 => (spec_DrawTryOf.j1 k1 t1058 t1061 x9_1 (bt1069.1 == 0) t1052 bt1069.2 t1055)) else (spec_DrawTryOf.j1 k1 t1058 t1061 x9_1 false t1052 x1055001_1 t1055)) = some (r1, r2, r3) := H
       have A19 := am A190
       clear A190
       by_cases c20 : t1068 = true
       ·subst c20
        have H1 : ((spec_reader_pick.f k1 t1052 x1055001_1 3).bind fun bt1069 => (spec_DrawTryOf.j1 k1 t1058 t1061 x9_1 (bt1069.1 == 0) t1052 bt1069.2 t1055)) = some (r1, r2, r3) := by rw [if_pos rfl] at H; exact H
        clear H
        have H := H1
        clear H1
        replace H := Option.bind_eq_some_iff.mp H
        obtain ⟨⟨t1069, t1070⟩, A210, H⟩ := H
        replace H : (spec_DrawTryOf.j1 k1 t1058 t1061 x9_1 (t1069 == 0) t1052 t1070 t1055) = some (r1, r2, r3) := H
        have A21 := am A210
        clear A210
        have H' := am H
        clear H
        have p1064 : 0 ≤ (x9_1 : Int) := of_decide_eq_true (uq)
        have q1064 : x9_1 < (t1058.length : Int) := of_decide_eq_true (uq)
        obtain ⟨ad1064, e1064, hx1064_0, hx1064_1, hx1064_2, hx1064_3⟩ := at_T52 (Kd.Q_reads' HO_7.out).2.2 x9_1 p1064 q1064
        cases e1064
        replace p1064 := eq_true p1064
        replace q1064 := eq_true q1064
        have p1067 : 0 ≤ (x9_1 : Int) := of_decide_eq_true (uq)
        have q1067 : x9_1 < (t1058.length : Int) := of_decide_eq_true (uq)
        obtain ⟨ad1067, e1067, hx1067_0, hx1067_1, hx1067_2, hx1067_3⟩ := at_T52 (Kd.Q_reads' HO_7.out).2.2 x9_1 p1067 q1067
        obtain rfl : ad1064 = ad1067 := (by injection e1067)
        replace p1067 := eq_true p1067
        replace q1067 := eq_true q1067
        go_wp2_with (first | (go_at_call 70; (with_reducible refine (spec_follows.calls ((rd_T52 t1058 x9_1).f1) true _ A19.out).mono ?_); rintro e w' ⟨rfl, ⟨nd, rfl⟩⟩) | (go_at_call 71; (with_reducible refine (spec_reader_pick.calls k1 g1054 t1052 x1055001_1 3 t1069 t1070 w _ ?side1 ?side2 A21.out).mono ?_); (case side1 => exact Y51); (case side2 => exact Y57); rintro e w22 ⟨rfl, hi, hb, hk⟩; replace HO_7 := am (Kd.Q_mono (Kd.Q_keep (IsS97.apartQ (show IsS97 w _ g1054 t1052 x1055001_1 from Y51) (by (with_reducible repeat (first | apply Kd.Q_alloc | apply Kd.Q_drewN | apply Kd.Q_drew)); exact HO_7.out) (by decide)) hk (fun _ h => h.2)) (fun _ h => h.1)); replace HO_1064000 := am (Kd.R_mono (Kd.R_keep (IsS97.apart (show IsS97 w _ g1054 t1052 x1055001_1 from Y51) (rq HO_1064000.out) (by decide)) hk (fun _ h => h.2)) (fun _ h => h.1)); replace BK1051 := am (KeepBut.blk hk (g' := gb1051) (o := .cells #[.slice none 0 0] 32 (0, 0)) (kq BK1051.out) NB1051_1054.out (by simp)); replace BK1063 := am (KeepBut.blk hk (g' := gb1063) (o := .cells #[.slice Ao8 t1055.length co8] 32 (0, 0)) (kq BK1063.out) NB1063_1054.out (by simp)); replace HB := am (hb); replace HI1054 := am (hi); (try clear hb); (try clear hb2); (try clear hk); (try clear hi)))
        go_meet
        case rel => exact ⟨_, ((t1069 == 0)), (t1070), (sq), H', ⟨by have := HK1.out; first | omega | exact Nat.le_refl _⟩, ⟨by (with_reducible repeat (first | apply Kd.Q_alloc | apply Kd.Q_drewN | apply Kd.Q_drew)); exact HO_7.out⟩, ⟨rq HO_1064000.out⟩, ⟨kq BK1051.out⟩, ⟨kq BK1063.out⟩, ⟨Y51⟩, ⟨Y57⟩⟩
       ·replace c20 := Bool.eq_false_iff.mpr c20
        subst c20
        have H1 : (spec_DrawTryOf.j1 k1 t1058 t1061 x9_1 false t1052 x1055001_1 t1055) = some (r1, r2, r3) := by rw [if_neg (show ¬ (false = true) by decide)] at H; exact H
        clear H
        have H := H1
        clear H1
        have H' := am H
        clear H
        have p1064 : 0 ≤ (x9_1 : Int) := of_decide_eq_true (uq)
        have q1064 : x9_1 < (t1058.length : Int) := of_decide_eq_true (uq)
        obtain ⟨ad1064, e1064, hx1064_0, hx1064_1, hx1064_2, hx1064_3⟩ := at_T52 (Kd.Q_reads' HO_7.out).2.2 x9_1 p1064 q1064
        cases e1064
        replace p1064 := eq_true p1064
        replace q1064 := eq_true q1064
        have p1067 : 0 ≤ (x9_1 : Int) := of_decide_eq_true (uq)
        have q1067 : x9_1 < (t1058.length : Int) := of_decide_eq_true (uq)
        obtain ⟨ad1067, e1067, hx1067_0, hx1067_1, hx1067_2, hx1067_3⟩ := at_T52 (Kd.Q_reads' HO_7.out).2.2 x9_1 p1067 q1067
        obtain rfl : ad1064 = ad1067 := (by injection e1067)
        replace p1067 := eq_true p1067
        replace q1067 := eq_true q1067
        go_wp2_with (first | (go_at_call 70; (with_reducible refine (spec_follows.calls ((rd_T52 t1058 x9_1).f1) false _ A19.out).mono ?_); rintro e w' ⟨rfl, ⟨nd, rfl⟩⟩))
        go_meet
        case rel => exact ⟨_, (false), (x1055001_1), (sq), H', ⟨by have := HK1.out; first | omega | exact Nat.le_refl _⟩, ⟨by (with_reducible repeat (first | apply Kd.Q_alloc | apply Kd.Q_drewN | apply Kd.Q_drew)); exact HO_7.out⟩, ⟨rq HO_1064000.out⟩, ⟨kq BK1051.out⟩, ⟨kq BK1063.out⟩, ⟨Y51⟩, ⟨Y57⟩⟩
     ·rw [if_neg c15] at H
      exact absurd H (by simp)
    case rest =>
     clear HC13
     try clear c1
     try clear p1
     try clear q1
     try clear hx1
     try clear c2
     try clear p2
     try clear c3
     try clear c6
     try clear c9
     try clear c10
     try clear p10
     try clear q10
     try clear hx10
     try clear c12
     try clear c12b0
     try clear c15
     try clear c15b0
     try clear c16
     try clear c16b0
     try clear c16b1
     try clear c20
     try clear hcz11_0
     try clear hfz11_0
     try clear hx1064_0
     try clear hx1064_1
     try clear hx1064_2
     try clear hx1064_3
     try clear hx1067_0
     try clear hx1067_1
     try clear hx1067_2
     try clear hx1067_3
     try clear p1064
     try clear p1067
     try clear p2
     try clear q1064
     try clear q1067
     obtain ⟨kq, x42_12, x1055001_12, rfl, HA, HJ12, HO_7, HO_1064000, BK1051, BK1063, HI1054, HB⟩ := hcut
     cases kq with
     | zero => exact absurd HA.out (by simp [spec_DrawTryOf.j1])
     | succ kj12 =>
      have H := HA.out
      clear HA
      simp only [spec_DrawTryOf.j1] at H
      by_cases c23 : x42_12 = true
      ·subst c23
       have H1 : (some (t1055, t1058, x9_1)) = some (r1, r2, r3) := by rw [if_pos rfl] at H; exact H
       clear H
       have H := H1
       clear H1
       simp only [Option.some.injEq, Prod.mk.injEq] at H
       obtain ⟨rfl, rfl, rfl⟩ := H
       have hnb24 := NB1063_1051.out
       have hnc24 := NB1051_1063.out
       have hnb25 := NB1063_1054.out
       have hnc25 := NB1054_1063.out
       have hcz26_0 := bc0 BK1063.out
       have hfz26_0 := blk_frozen BK1063.out 0
       have hnb27 := NB1051_1054.out
       have hnc27 := NB1054_1051.out
       have hcz28_0 := bc0 BK1051.out
       have hfz28_0 := blk_frozen BK1051.out 0
       go_wp2
       refine bodyPost_ret (results_ctt rfl _ _ gb1051 32 #[.slice Ao8 t1055.length co8] (0, 0) _ rfl (Y168) Try.underlying32 rfl (by kernel_rfl)) rfl ?_
       exact ⟨_, _, Y0, by (with_reducible repeat (first | apply Kd.R_alloc | apply Kd.R_drewN | apply Kd.R_drew)); exact Kd.R_mono (Kd.R_far (p := ⟨gb1051, 0, none⟩) (Kd.R_types HO_1064000.out BK1051.out (by decide)) (fun _ hk => hk.2) (.slice Ao8 t1055.length co8)) (fun _ hk => trivial), by (with_reducible repeat (first | apply Kd.Q_alloc | apply Kd.Q_drewN | apply Kd.Q_drew)); exact Kd.Q_mono (Kd.Q_far (p := ⟨gb1051, 0, none⟩) (Kd.Q_types HO_7.out BK1051.out (by decide)) (fun _ hk => hk.2) (.slice Ao8 t1055.length co8)) (fun _ hk => trivial), Y57⟩
      ·replace c23 := Bool.eq_false_iff.mpr c23
       subst c23
       have H1 : (spec_DrawTryOf.l0 kj12 t1058 t1061 (wrap64 (x9_1 + 1)) t1052 x1055001_12 t1055) = some (r1, r2, r3) := by rw [if_neg (show ¬ (false = true) by decide)] at H; exact H
       clear H
       have H := H1
       clear H1
       have H' := am H
       clear H
       go_wp2
       go_roundg kj12
       case measure => have := HK1.out; have := HJ12.out; omega
       case rel => exact ⟨(wrap64 (x9_1 + 1)), (x1055001_12), (sq), H', ⟨by have := HK1.out; have := HJ12.out; omega⟩, ⟨by (with_reducible repeat (first | apply Kd.Q_alloc | apply Kd.Q_drewN | apply Kd.Q_drew)); exact HO_7.out⟩, ⟨rq HO_1064000.out⟩, ⟨kq BK1051.out⟩, ⟨kq BK1063.out⟩, ⟨Y51⟩, ⟨Y57⟩⟩
   ·rw [if_neg c12] at H
    have c12b0 : decide (x9_1 < (t1058.length : Int)) = false := decide_eq_false c12
    clear c12
    simp only [Option.some.injEq, Prod.mk.injEq] at H
    obtain ⟨rfl, rfl, rfl⟩ := H
    obtain ⟨Ao29, co29, eo29, _⟩ := Kd.Q_slice HO_7.out
    subst eo29
    have hnb30 := NB1063_1051.out
    have hnc30 := NB1051_1063.out
    have hnb31 := NB1063_1054.out
    have hnc31 := NB1054_1063.out
    have hcz32_0 := bc0 BK1063.out
    have hfz32_0 := blk_frozen BK1063.out 0
    have hnb33 := NB1051_1054.out
    have hnc33 := NB1054_1051.out
    have hcz34_0 := bc0 BK1051.out
    have hfz34_0 := blk_frozen BK1051.out 0
    go_wp2
    refine bodyPost_ret (results_ctt rfl _ _ gb1051 32 #[.slice Ao8 t1055.length co8] (0, 0) _ rfl (Y168) Try.underlying32 rfl (by kernel_rfl)) rfl ?_
    exact ⟨_, _, Y0, by (with_reducible repeat (first | apply Kd.R_alloc | apply Kd.R_drewN | apply Kd.R_drew)); exact Kd.R_mono (Kd.R_far (p := ⟨gb1051, 0, none⟩) (Kd.R_types HO_1064000.out BK1051.out (by decide)) (fun _ hk => hk.2) (.slice Ao8 t1055.length co8)) (fun _ hk => trivial), by (with_reducible repeat (first | apply Kd.Q_alloc | apply Kd.Q_drewN | apply Kd.Q_drew)); exact Kd.Q_mono (Kd.Q_far (p := ⟨gb1051, 0, none⟩) (Kd.Q_types HO_7.out BK1051.out (by decide)) (fun _ hk => hk.2) (.slice Ao8 t1055.length co8)) (fun _ hk => trivial), Y57⟩
def impl_lineIn.f (k : Nat) (l0_0 : List (S87)) (l1 : List (S52)) (a2 : Int) : Option (Bool) := (impl_ValidProgram.f k l0_0 l1).bind fun t328 => (if t328 = true then ((impl_within.f a2 0 (wrap64 ((l1.length : Int) - 1))).bind fun t329 => (some t329)) else (some false))
set_option maxHeartbeats 8000000 in
set_option maxRecDepth 100000 in
theorem impl_lineIn.calls (k : Nat) (A0_0 : Option Addr) (c0_0 : Nat) (l0_0 : List (S87)) (A1 : Option Addr) (c1 : Nat) (l1 : List (S52)) (a2 : Int) (r : Bool) (w : World) (hr0_0 : Kd.C k87 w A0_0 l0_0.length l0_0) (hc0_0 : l0_0.length ≤ c0_0) (hr1 : Kd.C k52 w A1 l1.length l1) (hc1 : l1.length ≤ c1) (h : impl_lineIn.f k l0_0 l1 a2 = some r) :
  Calls Try.prog 48 #[.agg #[.slice A0_0 l0_0.length c0_0], .slice A1 l1.length c1, .int .i64 a2] w fun e w' => e = .returned (.bool r) ∧ Below w.heap.size w w' := by
 have hu32 := Try.underlying32
 have HR0_0 := am hr0_0
 have HC0_0 := am hc0_0
 clear hr0_0 hc0_0
 have HR1 := am hr1
 have HC1 := am hc1
 clear hr1 hc1
 have HB := am (Below.refl w.heap.size w)
 have H : ((impl_ValidProgram.f k l0_0 l1).bind fun t328 => (if t328 = true then ((impl_within.f a2 0 (wrap64 ((l1.length : Int) - 1))).bind fun t329 => (some t329)) else (some false))) = some r := h
 clear h
 replace H := Option.bind_eq_some_iff.mp H
 obtain ⟨t328, A40, H⟩ := H
 replace H : (if t328 = true then ((impl_within.f a2 0 (wrap64 ((l1.length : Int) - 1))).bind fun t329 => (some t329)) else (some false)) = some r := H
 have A4 := am A40
 clear A40
 by_cases c5 : t328 = true
 ·subst c5
  have H1 : ((impl_within.f a2 0 (wrap64 ((l1.length : Int) - 1))).bind fun t329 => (some t329)) = some r := by rw [if_pos rfl] at H; exact H
  clear H
  have H := H1
  clear H1
  replace H := Option.bind_eq_some_iff.mp H
  obtain ⟨t329, A60, H⟩ := H
  replace H : (some t329) = some r := H
  have A6 := am A60
  clear A60
  obtain rfl := Option.some.inj H
  go_enter Try.func48, Try.ntmps48
  go_wp2_with (first | ((with_reducible refine gate_dst (N := 3) rfl ?_); (try (refine gate_guard (by rfl) ?_; dsimp only)); refine box_event ?hg (N := 3) ?hd (cs := #[.slice A0_0 l0_0.length c0_0]) (t := 32) ?hr ?_; (case hd => rfl); (case hg => rfl); (case hr => exact Y5); intro gb327 hg w7 hbox hb; have BK327 := am (hbox); have GW327 := am ((Y1 : w.heap.size ≤ gb327)); have GE327 := am ((Y1 : w.heap.size ≤ gb327)); replace HB := am (below_step (bq) hb); clear hb hbox hg; have hcz8_0 := bc0 BK327.out; have hfz8_0 := blk_frozen BK327.out 0) | ((with_reducible refine gate_callee (f := 29) rfl ?_); refine gL (some 9) Try.func29 #[.agg #[.slice A0_0 l0_0.length c0_0], .slice A1 l1.length c1] ?_; (with_reducible refine (impl_ValidProgram.calls k _ _ l0_0 _ _ l1 true _ ?side1 ?side2 ?side3 ?side4 A4.out).mono ?_); (case side1 => exact cq (Kd.C_below HR0_0.out HB.out)); (case side2 => exact HC0_0.out); (case side3 => exact cq (Kd.C_below HR1.out HB.out)); (case side4 => exact HC1.out); rintro e w9 ⟨rfl, hb⟩; refine ⟨_, rfl, ?_⟩; replace BK327 := am (blk_below (g := gb327) (o := .cells #[.slice A0_0 l0_0.length c0_0] 32 (0, 0)) (kq BK327.out) hb); replace HB := am (below_step (Y115) hb); (try clear hb); (try clear hb2); (try clear hk); (try clear hi)) | (go_at_call 66; (with_reducible refine (impl_within.calls a2 0 (wrap64 ((l1.length : Int) - 1)) t329 _ A6.out).mono ?_); rintro e w' ⟨rfl, ⟨nd, rfl⟩⟩))
  go_ret
  exact ⟨Y0, Y115⟩
 ·replace c5 := Bool.eq_false_iff.mpr c5
  subst c5
  have H1 : (some false) = some r := by rw [if_neg (show ¬ (false = true) by decide)] at H; exact H
  clear H
  have H := H1
  clear H1
  obtain rfl := Option.some.inj H
  go_enter Try.func48, Try.ntmps48
  go_wp2_with (first | ((with_reducible refine gate_dst (N := 3) rfl ?_); (try (refine gate_guard (by rfl) ?_; dsimp only)); refine box_event ?hg (N := 3) ?hd (cs := #[.slice A0_0 l0_0.length c0_0]) (t := 32) ?hr ?_; (case hd => rfl); (case hg => rfl); (case hr => exact Y5); intro gb327 hg w10 hbox hb; have BK327 := am (hbox); have GW327 := am ((Y1 : w.heap.size ≤ gb327)); have GE327 := am ((Y1 : w.heap.size ≤ gb327)); replace HB := am (below_step (bq) hb); clear hb hbox hg; have hcz11_0 := bc0 BK327.out; have hfz11_0 := blk_frozen BK327.out 0) | ((with_reducible refine gate_callee (f := 29) rfl ?_); refine gL (some 9) Try.func29 #[.agg #[.slice A0_0 l0_0.length c0_0], .slice A1 l1.length c1] ?_; (with_reducible refine (impl_ValidProgram.calls k _ _ l0_0 _ _ l1 false _ ?side1 ?side2 ?side3 ?side4 A4.out).mono ?_); (case side1 => exact cq (Kd.C_below HR0_0.out HB.out)); (case side2 => exact HC0_0.out); (case side3 => exact cq (Kd.C_below HR1.out HB.out)); (case side4 => exact HC1.out); rintro e w12 ⟨rfl, hb⟩; refine ⟨_, rfl, ?_⟩; replace BK327 := am (blk_below (g := gb327) (o := .cells #[.slice A0_0 l0_0.length c0_0] 32 (0, 0)) (kq BK327.out) hb); replace HB := am (below_step (Y115) hb); (try clear hb); (try clear hb2); (try clear hk); (try clear hi)))
  go_ret
  exact ⟨Y0, Y115⟩
def slices_Clip_int_int.f (l0 : List Int) : Option (List Int) := some (l0)
set_option maxHeartbeats 8000000 in
set_option maxRecDepth 100000 in
theorem slices_Clip_int_int.calls (P0_ : Nat → Prop) (u9000_ : Value) (l0 : List Int) (r : List Int) (w0 w : World) (hB : Below w0.heap.size w0 w) (ho0 : Kd.R (Kd.int .i64) 3 w w0.heap.size P0_ u9000_ l0) (h : slices_Clip_int_int.f l0 = some r) :
  Calls Try.prog 82 #[u9000_] w fun e w' => ∃ v0_ : Value, e = .returned (v0_) ∧ Kd.R (Kd.int .i64) 3 w' w0.heap.size (fun k_ => (P0_ k_ ∨ w.heap.size ≤ k_)) v0_ r ∧ Below w0.heap.size w0 w' ∧ Kept w w' (fun k_ => P0_ k_) := by
 have HO0 := am (show Kd.R (Kd.int .i64) 3 w w0.heap.size (fun k_ => (P0_ k_ ∨ w.heap.size ≤ k_)) u9000_ l0 from Kd.R_mono ho0 (fun k_ hk => (.inl hk)))
 have HK := am (Kept.refl w (fun k_ => P0_ k_))
 have HW0 := am hB.size
 have HB := am hB
 clear hB
 have H : (some (l0)) = some r := h
 clear h
 obtain ⟨y330, hy330⟩ : ∃ y_ : List Int, y_ = (l0) := ⟨_, rfl⟩
 replace H : (some y330) = some r := by first | (rw [hy330]; with_reducible exact H) | (have H2_ := (Option.bind_some _ _).symm.trans H; rw [hy330]; with_reducible exact H2_) | (have H2_ := (Option.bind_some _ _).symm.trans H; with_reducible exact H2_) | with_reducible exact H | (rw [hy330]; exact H) | exact H
 have Ny330 := am hy330
 clear hy330
 obtain rfl := Option.some.inj H
 obtain ⟨Ao2, co2, eo2⟩ := Kd.R_slice HO0.out
 subst eo2
 obtain ⟨i03, hi03, _, hsz3, _⟩ := info_parts info3
 have hy3 : y330.length = l0.length := (by rw [Ny330.out])
 have hcut3 := cut_clip (P := Try.prog) 28 3 Try.underlying28 hi03 Ao2 _ co2 _ (Kd.R_reads' HO0.out).2.1 hy3
 have hr3 := Kd.R_clip HO0.out Ny330.out
 clear hy3 hi03 hsz3 HO0
 have HO332 := am hr3
 clear hr3
 go_enter Try.func82, Try.ntmps82
 go_wp2
 go_ret
 exact ⟨_, Y0, rq HO332.out, bq, Y22⟩
end Go.Proofs.Ytkokajljeebgdaa.P
end
