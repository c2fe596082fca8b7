/- One part of the proofs on this program: functions of the program as plain functions, that the code comes to them, and facts on them. -/
import Derived.Test.YtbcjbcjpoddkoaaYAll1
import Derived.Test.YtbcjbcjpoddkoaaYAll3
import Derived.Test.YtbcjbcjpoddkoaaYWAuto
section
namespace Go.Proofs.Ytbcjbcjpoddkoaa.P
open Go.RowKit Go.Proofs.YtbcjbcjpoddkoaaW.PrintWords Go.Proofs.YtbcjbcjpoddkoaaW.PrintLast Go.Proofs.YtbcjbcjpoddkoaaW.PrintMore
attribute [local go_sem] max2_int min2_int max_two min_two max_three min_three max_four min_four isSome_cell_setCell
set_option linter.unusedVariables false
set_option linter.unusedSimpArgs false
def spec_someTree.f (k : Nat) (s0_0 : List Int) (s0_1 : Int) : Option ((List (S98)) × Int) := (spec_goodTree.f k s0_0 s0_1).bind fun bt368 => ((spec_reader_pick.f k s0_0 bt368.2 (bt368.1.length : Int)).bind fun bt373 => ((spec_reader_pick.f k s0_0 bt373.2 24).bind fun bt375 => (if bt375.1 = 0 then ((spec_reader_of.f k s0_0 bt375.2 (([(⟨#[]⟩ : ByteArray), (⟨#[97, 110, 121]⟩ : ByteArray), (⟨#[65]⟩ : ByteArray), (⟨#[116, 111, 111, 108, 111, 110, 103]⟩ : ByteArray)] : List ByteArray))).bind fun bt380 => (if 0 ≤ bt373.1 then (if bt373.1 < (bt368.1.length : Int) then (some ((bt368.1.set (bt373.1 : Int).toNat (⟨bt380.1, (rd_T98 bt368.1 bt373.1).f1⟩ : S98)), bt380.2)) else (none)) else (none))) else (if bt375.1 = 1 then ((spec_reader_one.f k s0_0 bt375.2 (([bt373.1, (-1), 8, (-2)] : List Int))).bind fun bt386 => (if 0 ≤ bt373.1 then (if bt373.1 < (bt368.1.length : Int) then (some ((bt368.1.set (bt373.1 : Int).toNat (⟨(rd_T98 bt368.1 bt373.1).f0, bt386.1⟩ : S98)), bt386.2)) else (none)) else (none))) else (if bt375.1 = 2 then (some (([] : List (S98)), bt375.2)) else (some (bt368.1, bt375.2)))))))
def spec_someTree.T5 : Bool × List (List Nat × List Nat) := (true, [([], []), ([0], [0]), ([], []), ([], []), ([], []), ([3, 4], [3, 4]), ([1, 2, 0, 1, 2, 3, 4, 5], [1, 2]), ([6, 0, 1, 2, 3, 4, 5], [6]), ([7, 5, 5, 0, 1, 2, 3, 4, 5], [5, 7])])
def spec_someTree.B5 : List Nat := [0, 1, 0, 0, 0, 24, 63, 127, 255]
theorem spec_someTree.tab5 : rtab .any (opsOf Try.f71 5) = spec_someTree.T5 := by kernel_rfl
theorem spec_someTree.bits5 : waitsOk spec_someTree.T5.2 spec_someTree.B5 = true := by kernel_rfl
def spec_someTree.T7 : Bool × List (List Nat × List Nat) := (true, [([], []), ([0], [0]), ([], []), ([], []), ([], []), ([4], [4]), ([3, 5], [3, 5]), ([1, 2, 0, 1, 2, 3, 4, 5, 6], [1, 2]), ([7, 0, 1, 2, 3, 4, 5, 6], [7]), ([8, 6, 6, 0, 1, 2, 3, 4, 5, 6], [6, 8])])
def spec_someTree.B7 : List Nat := [0, 1, 0, 0, 0, 16, 56, 127, 255, 511]
theorem spec_someTree.tab7 : rtab .any (opsOf Try.f71 7) = spec_someTree.T7 := by kernel_rfl
theorem spec_someTree.bits7 : waitsOk spec_someTree.T7.2 spec_someTree.B7 = true := by kernel_rfl
set_option maxHeartbeats 8000000 in
set_option maxRecDepth 100000 in
theorem spec_someTree.calls (k : Nat) (g : Nat) (s0_0 : List Int) (s0_1 : Int) (r1 : List (S98)) (r2 : Int) (w0 w : World) (hI : IsS106 w0 w g s0_0 s0_1) (hB : Below w0.heap.size w0 w) (h : spec_someTree.f k s0_0 s0_1 = some (r1, r2)) :
  Calls Try.prog 71 #[.pointer (some ⟨g, 0, none⟩)] w fun e w' => ∃ v0_ : Value, e = .returned (.agg #[v0_]) ∧ Kd.R k98 98 w' w.heap.size (fun _ => True) v0_ r1 ∧ IsS106 w0 w' g s0_0 r2 ∧ Below w0.heap.size w0 w' ∧ KeepBut w w' g none := by
 have hu32 := Try.underlying32
 have HI0 := am hI
 have HK := am (KeepBut.refl w g none)
 have HL := am hB.size
 clear hI
 have HW0 := am hB.size
 have HB := am hB
 clear hB
 have H : ((spec_goodTree.f k s0_0 s0_1).bind fun bt368 => ((spec_reader_pick.f k s0_0 bt368.2 (bt368.1.length : Int)).bind fun bt373 => ((spec_reader_pick.f k s0_0 bt373.2 24).bind fun bt375 => (if bt375.1 = 0 then ((spec_reader_of.f k s0_0 bt375.2 (([(⟨#[]⟩ : ByteArray), (⟨#[97, 110, 121]⟩ : ByteArray), (⟨#[65]⟩ : ByteArray), (⟨#[116, 111, 111, 108, 111, 110, 103]⟩ : ByteArray)] : List ByteArray))).bind fun bt380 => (if 0 ≤ bt373.1 then (if bt373.1 < (bt368.1.length : Int) then (some ((bt368.1.set (bt373.1 : Int).toNat (⟨bt380.1, (rd_T98 bt368.1 bt373.1).f1⟩ : S98)), bt380.2)) else (none)) else (none))) else (if bt375.1 = 1 then ((spec_reader_one.f k s0_0 bt375.2 (([bt373.1, (-1), 8, (-2)] : List Int))).bind fun bt386 => (if 0 ≤ bt373.1 then (if bt373.1 < (bt368.1.length : Int) then (some ((bt368.1.set (bt373.1 : Int).toNat (⟨(rd_T98 bt368.1 bt373.1).f0, bt386.1⟩ : S98)), bt386.2)) else (none)) else (none))) else (if bt375.1 = 2 then (some (([] : List (S98)), bt375.2)) else (some (bt368.1, bt375.2)))))))) = some (r1, r2) := h
 clear h
 replace H := Option.bind_eq_some_iff.mp H
 obtain ⟨⟨t368, t371⟩, A20, H⟩ := H
 replace H : ((spec_reader_pick.f k s0_0 t371 (t368.length : Int)).bind fun bt373 => ((spec_reader_pick.f k s0_0 bt373.2 24).bind fun bt375 => (if bt375.1 = 0 then ((spec_reader_of.f k s0_0 bt375.2 (([(⟨#[]⟩ : ByteArray), (⟨#[97, 110, 121]⟩ : ByteArray), (⟨#[65]⟩ : ByteArray), (⟨#[116, 111, 111, 108, 111, 110, 103]⟩ : ByteArray)] : List ByteArray))).bind fun bt380 => (if 0 ≤ bt373.1 then (if bt373.1 < (t368.length : Int) then (some ((t368.set (bt373.1 : Int).toNat (⟨bt380.1, (rd_T98 t368 bt373.1).f1⟩ : S98)), bt380.2)) else (none)) else (none))) else (if bt375.1 = 1 then ((spec_reader_one.f k s0_0 bt375.2 (([bt373.1, (-1), 8, (-2)] : List Int))).bind fun bt386 => (if 0 ≤ bt373.1 then (if bt373.1 < (t368.length : Int) then (some ((t368.set (bt373.1 : Int).toNat (⟨(rd_T98 t368 bt373.1).f0, bt386.1⟩ : S98)), bt386.2)) else (none)) else (none))) else (if bt375.1 = 2 then (some (([] : List (S98)), bt375.2)) else (some (t368, bt375.2))))))) = some (r1, r2) := H
 have A2 := am A20
 clear A20
 replace H := Option.bind_eq_some_iff.mp H
 obtain ⟨⟨t373, t374⟩, A30, H⟩ := H
 replace H : ((spec_reader_pick.f k s0_0 t374 24).bind fun bt375 => (if bt375.1 = 0 then ((spec_reader_of.f k s0_0 bt375.2 (([(⟨#[]⟩ : ByteArray), (⟨#[97, 110, 121]⟩ : ByteArray), (⟨#[65]⟩ : ByteArray), (⟨#[116, 111, 111, 108, 111, 110, 103]⟩ : ByteArray)] : List ByteArray))).bind fun bt380 => (if 0 ≤ t373 then (if t373 < (t368.length : Int) then (some ((t368.set (t373 : Int).toNat (⟨bt380.1, (rd_T98 t368 t373).f1⟩ : S98)), bt380.2)) else (none)) else (none))) else (if bt375.1 = 1 then ((spec_reader_one.f k s0_0 bt375.2 (([t373, (-1), 8, (-2)] : List Int))).bind fun bt386 => (if 0 ≤ t373 then (if t373 < (t368.length : Int) then (some ((t368.set (t373 : Int).toNat (⟨(rd_T98 t368 t373).f0, bt386.1⟩ : S98)), bt386.2)) else (none)) else (none))) else (if bt375.1 = 2 then (some (([] : List (S98)), bt375.2)) else (some (t368, bt375.2)))))) = some (r1, r2) := H
 have A3 := am A30
 clear A30
 replace H := Option.bind_eq_some_iff.mp H
 obtain ⟨⟨t375, t376⟩, A40, H⟩ := H
 replace H : (if t375 = 0 then ((spec_reader_of.f k s0_0 t376 (([(⟨#[]⟩ : ByteArray), (⟨#[97, 110, 121]⟩ : ByteArray), (⟨#[65]⟩ : ByteArray), (⟨#[116, 111, 111, 108, 111, 110, 103]⟩ : ByteArray)] : List ByteArray))).bind fun bt380 => (if 0 ≤ t373 then (if t373 < (t368.length : Int) then (some ((t368.set (t373 : Int).toNat (⟨bt380.1, (rd_T98 t368 t373).f1⟩ : S98)), bt380.2)) else (none)) else (none))) else (if t375 = 1 then ((spec_reader_one.f k s0_0 t376 (([t373, (-1), 8, (-2)] : List Int))).bind fun bt386 => (if 0 ≤ t373 then (if t373 < (t368.length : Int) then (some ((t368.set (t373 : Int).toNat (⟨(rd_T98 t368 t373).f0, bt386.1⟩ : S98)), bt386.2)) else (none)) else (none))) else (if t375 = 2 then (some (([] : List (S98)), t376)) else (some (t368, t376))))) = some (r1, r2) := H
 have A4 := am A40
 clear A40
 by_cases c5 : t375 = 0
 ·rw [if_pos c5] at H
  have c5b0 : (t375 == 0) = true := beq_iff_eq.mpr c5
  have c5b1 : (t375 != 0) = false := bne_eq_false_iff_eq.mpr c5
  clear c5
  obtain ⟨y377, hy377⟩ : ∃ y_ : List ByteArray, y_ = (([(⟨#[]⟩ : ByteArray), (⟨#[97, 110, 121]⟩ : ByteArray), (⟨#[65]⟩ : ByteArray), (⟨#[116, 111, 111, 108, 111, 110, 103]⟩ : ByteArray)] : List ByteArray)) := ⟨_, rfl⟩
  replace H : ((spec_reader_of.f k s0_0 t376 y377).bind fun bt380 => (if 0 ≤ t373 then (if t373 < (t368.length : Int) then (some ((t368.set (t373 : Int).toNat (⟨bt380.1, (rd_T98 t368 t373).f1⟩ : S98)), bt380.2)) else (none)) else (none))) = some (r1, r2) := by first | (rw [hy377]; with_reducible exact H) | (have H2_ := (Option.bind_some _ _).symm.trans H; rw [hy377]; with_reducible exact H2_) | (have H2_ := (Option.bind_some _ _).symm.trans H; with_reducible exact H2_) | with_reducible exact H | (rw [hy377]; exact H) | exact H
  have Ny377 := am hy377
  clear hy377
  replace H := Option.bind_eq_some_iff.mp H
  obtain ⟨⟨t380, t381⟩, A60, H⟩ := H
  replace H : (if 0 ≤ t373 then (if t373 < (t368.length : Int) then (some ((t368.set (t373 : Int).toNat (⟨t380, (rd_T98 t368 t373).f1⟩ : S98)), t381)) else (none)) else (none)) = some (r1, r2) := H
  have A6 := am A60
  clear A60
  by_cases c7 : 0 ≤ t373
  ·rw [if_pos c7] at H
   have c7b0 : decide (0 ≤ t373) = true := decide_eq_true c7
   clear c7
   by_cases c8 : t373 < (t368.length : Int)
   ·rw [if_pos c8] at H
    have c8b0 : decide (t373 < (t368.length : Int)) = true := decide_eq_true c8
    clear c8
    obtain ⟨y382, hy382⟩ : ∃ y_ : List (S98), y_ = (t368.set (t373 : Int).toNat (⟨t380, (rd_T98 t368 t373).f1⟩ : S98)) := ⟨_, rfl⟩
    replace H : (some (y382, t381)) = some (r1, r2) := by first | (rw [hy382]; with_reducible exact H) | (have H2_ := (Option.bind_some _ _).symm.trans H; rw [hy382]; with_reducible exact H2_) | (have H2_ := (Option.bind_some _ _).symm.trans H; with_reducible exact H2_) | with_reducible exact H | (rw [hy382]; exact H) | exact H
    have Ny382 := am hy382
    clear hy382
    simp only [Option.some.injEq, Prod.mk.injEq] at H
    obtain ⟨rfl, rfl⟩ := H
    go_enter Try.func71, Try.ntmps71
    try go_wp2_with (first | ((with_reducible refine gate_dst (N := 2) rfl ?_); refine bE (N := 2) (cs := #[.slice none 0 0]) (t := 32) ?_; intro gb367 hg w10 hbox hb; have BK367 := am (hbox); have GW367 := am ((Y10 : w.heap.size ≤ gb367)); have GE367 := am ((Nat.le_trans HW0.out (Y10 : w.heap.size ≤ gb367) : w0.heap.size ≤ gb367)); have NB0_367 := am ((Y22 : g ≠ gb367)); have NB367_0 := am ((Y23 : gb367 ≠ g)); replace HK := am (KeepBut.trans (Y14) (KeepBut.of_below hb g none) (.inl rfl)); replace HB := am (below_step (Y15) hb); replace HI0 := am (IsS106.below (Y13) hb); clear hb hbox hg) | ((with_reducible refine gate_callee (f := 95) rfl ?_); refine gL (some 6) Try.func95 #[.pointer (some ⟨g, 0, none⟩)] ?_; (with_reducible refine (spec_goodTree.calls k g s0_0 s0_1 t368 t371 w0 _ ?side1 ?side2 A2.out).mono ?_); (case side1 => exact Y48); (case side2 => exact Y49); rintro e w11 ⟨v369, rfl, ho0, hi, hb, hk⟩; refine ⟨_, rfl, ?_⟩; have HO370 := am (Kd.R_lower ho0 (keep_size (w := w) (g := g) (row := none) (Y39))); replace BK367 := am (KeepBut.blk hk (g' := gb367) (o := .cells #[.slice none 0 0] 32 (0, 0)) (kq BK367.out) NB367_0.out (by simp)); replace HK := am (KeepBut.trans (Y39) hk (.inl rfl)); replace HB := am (hb); replace HI0 := am (hi); (try clear hb); (try clear hb2); (try clear hk); (try clear hi); (try clear ho0)) | ((with_reducible refine gate_dst (N := 3) rfl ?_); refine bE (N := 3) (cs := #[.slice none 0 0]) (t := 32) ?_; intro gb372 hg w12 hbox hb; have BK372 := am (hbox); have GW372 := am ((Y50 : w.heap.size ≤ gb372)); have GE372 := am ((Nat.le_trans HW0.out (Y50 : w.heap.size ≤ gb372) : w0.heap.size ≤ gb372)); have NB367_372 := am ((Y80 : gb367 ≠ gb372)); have NB372_367 := am ((Y81 : gb372 ≠ gb367)); have NB0_372 := am ((Y82 : g ≠ gb372)); have NB372_0 := am ((Y83 : gb372 ≠ g)); replace HO370 := am (Kd.R_below (rq HO370.out) hb); replace BK367 := am (blk_below (g := gb367) (o := .cells #[.slice none 0 0] 32 (0, 0)) (kq BK367.out) hb); replace HK := am (KeepBut.trans (Y39) (KeepBut.of_below hb g none) (.inl rfl)); replace HB := am (below_step (Y49) hb); replace HI0 := am (IsS106.below (Y48) hb); clear hb hbox hg; obtain ⟨Ao13, co13, eo13⟩ := Kd.R_slice HO370.out; subst eo13; have hnb14 := NB372_367.out; have hnc14 := NB367_372.out; have hnb15 := NB372_0.out; have hnc15 := NB0_372.out; have hcz16_0 := bc0 BK372.out; have hfz16_0 := blk_frozen BK372.out 0) | ((with_reducible refine gate_callee (f := 55) rfl ?_); refine gL (some 11) Try.func55 #[.pointer (some ⟨g, 0, none⟩), .int .i64 (t368.length : Int)] ?_; (with_reducible refine (spec_reader_pick.calls k g s0_0 t371 (t368.length : Int) t373 t374 w0 _ ?side1 ?side2 A3.out).mono ?_); (case side1 => exact Y16); (case side2 => exact Y30); rintro e w17 ⟨rfl, hi, hb, hk⟩; refine ⟨_, rfl, ?_⟩; replace BK367 := am (KeepBut.blk hk (g' := gb367) (o := .cells #[.slice none 0 0] 32 (0, 0)) (Y84) NB367_0.out (by simp)); replace HO370 := am (Kd.R_mono (Kd.R_keep (IsS106.apart (show IsS106 w0 _ g s0_0 t371 from Y16) (by (with_reducible repeat (first | apply Kd.R_alloc | apply Kd.R_drewN | apply Kd.R_drew)); exact (Kd.R_mono (Kd.R_far (p := ⟨gb372, 0, none⟩) (Kd.R_types HO370.out BK372.out (by decide)) (fun _ hk => hk.2) (.slice Ao13 t368.length co13)) (fun _ h_ => h_.1))) (by decide)) hk (fun _ h => h.2)) (fun _ h => h.1)); replace BK372 := am (KeepBut.blk hk (g' := gb372) (o := .cells #[.slice Ao13 t368.length co13] 32 (0, 0)) (Y85) NB372_0.out (by simp)); replace HK := am (KeepBut.trans (Y26) hk (.inl rfl)); replace HB := am (hb); replace HI0 := am (hi); (try clear hb); (try clear hb2); (try clear hk); (try clear hi)) | ((with_reducible refine gate_callee (f := 55) rfl ?_); refine gL (some 13) Try.func55 #[.pointer (some ⟨g, 0, none⟩), .int .i64 24] ?_; (with_reducible refine (spec_reader_pick.calls k g s0_0 t374 24 t375 t376 w0 _ ?side1 ?side2 A4.out).mono ?_); (case side1 => exact Y16); (case side2 => exact Y30); rintro e w18 ⟨rfl, hi, hb, hk⟩; refine ⟨_, rfl, ?_⟩; replace BK367 := am (KeepBut.blk hk (g' := gb367) (o := .cells #[.slice none 0 0] 32 (0, 0)) (kq BK367.out) NB367_0.out (by simp)); replace HO370 := am (Kd.R_mono (Kd.R_keep (IsS106.apart (show IsS106 w0 _ g s0_0 t374 from Y16) (rq HO370.out) (by decide)) hk (fun _ h => h.2)) (fun _ h => h.1)); replace BK372 := am (KeepBut.blk hk (g' := gb372) (o := .cells #[.slice Ao13 t368.length co13] 32 (0, 0)) (kq BK372.out) NB372_0.out (by simp)); replace HK := am (KeepBut.trans (Y26) hk (.inl rfl)); replace HB := am (hb); replace HI0 := am (hi); (try clear hb); (try clear hb2); (try clear hk); (try clear hi)))
    replace HO370 := am (Kd.R_drew HO370.out)
    replace BK367 := am (blk_drew BK367.out)
    replace BK372 := am (blk_drew BK372.out)
    replace HI0 := am (IsS106.drew HI0.out)
    replace HK := am (keep_drew HK.out)
    replace HB := am (below_drew1 HB.out)
    refine start_ (n := 9) (S := fun w' => w'.cell? ⟨gb372, 0, none⟩ = some (.slice Ao13 t368.length co13)) (ds := [8]) #[false, false, false, false, false, false, false, false, false] (by kernel_rfl) rfl rfl ((blk_cell BK372.out 0).trans rfl) (fun hHeld => ?_); refine with_tabW spec_someTree.tab5 spec_someTree.bits5 (fun HT_ HW_ => ?_)
    generalize w18.drew = w19 at HO370 BK367 BK372 HI0 HK HB hHeld ⊢
    refine pq (i := 0) (N := some 16) #[true, false, false, false, false, false, false, false, false] ?_
    refine pq (i := 2) (N := some 18) #[true, false, true, false, false, false, false, false, false] ?_
    refine pq (i := 3) (N := some 19) #[true, false, true, true, false, false, false, false, false] ?_
    refine take_ (i := 1) (N := some 17) (v := ?_) (a' := ?_) #[true, true, true, true, false, false, false, false, false] rfl rfl (take_ofW HT_.out HW_.out (by kernel_rfl)) (fun _ _ _ h => h) (Or.inl ⟨by rfl, ?_⟩) hHeld ?_ ?_
    rotate_left
    ·intro w' s0
     go_simp
     with_reducible rfl
    rotate_left
    ·exact sa
    refine one_ (i := 4) (N := some 20) #[true, true, true, true, true, false, false, false, false] rfl rfl (one_of HT_.out (by kernel_rfl)) (by decide) (fun K hK => ?_)
    refine Kd.R_lit_step Kd.string _ 9 ?hg (N := 20) ?hd (xs := ([(⟨#[]⟩ : ByteArray), (⟨#[97, 110, 121]⟩ : ByteArray), (⟨#[65]⟩ : ByteArray), (⟨#[116, 111, 111, 108, 111, 110, 103]⟩ : ByteArray)] : List ByteArray)) (inner := [.string (⟨#[]⟩ : ByteArray), .string (⟨#[97, 110, 121]⟩ : ByteArray), .string (⟨#[65]⟩ : ByteArray), .string (⟨#[116, 111, 111, 108, 111, 110, 103]⟩ : ByteArray)]) (ok := fun _ => True) (okp := fun _ => True) ?hr ?hp (fun _ hk => hk) trivial (Below.refl _ _) (Nat.le_refl _) (by simp) ?_; (case hd => rfl); (case hg => rfl); (case hr => exact Y5); (case hp => exact (Reps.one (show Kd.M Kd.string _ _ _ (⟨#[]⟩ : ByteArray) [.string (⟨#[]⟩ : ByteArray)] from rfl) (Reps.one (show Kd.M Kd.string _ _ _ (⟨#[97, 110, 121]⟩ : ByteArray) [.string (⟨#[97, 110, 121]⟩ : ByteArray)] from rfl) (Reps.one (show Kd.M Kd.string _ _ _ (⟨#[65]⟩ : ByteArray) [.string (⟨#[65]⟩ : ByteArray)] from rfl) (Reps.one (show Kd.M Kd.string _ _ _ (⟨#[116, 111, 111, 108, 111, 110, 103]⟩ : ByteArray) [.string (⟨#[116, 111, 111, 108, 111, 110, 103]⟩ : ByteArray)] from rfl) (Reps.none _ _))))))
    intro v378 w20 ho21 hb hg_ hnew_
    clear hg_ hnew_
    (first | rw [← Ny377.out] at ho21 | (simp only [Int.reduceToNat] at ho21; rw [← Ny377.out] at ho21))
    have HO379 := am (Kd.R_lower ho21 (keep_size (w := w) (g := g) (row := none) (Y26)))
    replace HO370 := am (Kd.R_below (rq HO370.out) hb)
    replace BK367 := am (blk_below (g := gb367) (o := .cells #[.slice none 0 0] 32 (0, 0)) (kq BK367.out) hb)
    replace BK372 := am (blk_below (g := gb372) (o := .cells #[.slice Ao13 t368.length co13] 32 (0, 0)) (kq BK372.out) hb)
    replace HK := am (KeepBut.trans (Y26) (KeepBut.of_below hb g none) (.inl rfl))
    replace HB := am (below_step (Y30) hb)
    replace HI0 := am (IsS106.below (Y16) hb)
    clear hb ho21
    obtain ⟨Ao22, co22, eo22⟩ := Kd.R_slice HO379.out
    (first | subst eo22 | (injection eo22 with f1_ f2_ f3_; have f4_ := f1_.symm; have f5_ := f3_.symm; clear f1_ f2_ f3_; subst f4_; subst f5_))
    refine hK.out _ _ ((blk_cell BK372.out 0).trans rfl) (fun hHeld => ?_)
    clear hK K
    refine norm_ (a' := ?_) ?_ ?_
    rotate_left
    ·show Act.put _ (some 20) _ = _
     simp only [Act.put, List.setIfInBounds_toArray, List.set_cons_zero, List.set_cons_succ, i64_w, i32_w]
     rfl
    refine one_ (i := 5) (N := some 21) #[true, true, true, true, true, true, false, false, false] rfl rfl (one_of HT_.out (by kernel_rfl)) (by decide) (fun K hK => ?_)
    refine goes_ Try.func96 (by kernel_rfl) rfl #[.pointer (some ⟨g, 0, none⟩), .slice Ao22 y377.length co22] (by rfl) rfl rfl (aq) ?_
    with_reducible refine (spec_reader_of.calls k g s0_0 t376 _ _ y377 t380 t381 w0 _ ?side1 ?side2 ?side3 ?side4 ?side5 A6.out).mono ?_
    (case side1 => exact Y16)
    (case side2 => exact Y30)
    (case side3 => exact cq (Kd.R_reads' HO379.out).2.2)
    (case side4 => exact (Kd.R_reads' HO379.out).2.1)
    (case side5 => exact far_slice (IsS106.own_ne HI0.out HO379.out (by decide)))
    rintro e w23 ⟨rfl, hi, hb, hk⟩
    refine ⟨_, rfl, ?_⟩
    replace BK367 := am (KeepBut.blk hk (g' := gb367) (o := .cells #[.slice none 0 0] 32 (0, 0)) (kq BK367.out) NB367_0.out (by simp))
    replace HO370 := am (Kd.R_mono (Kd.R_keep (IsS106.apart (show IsS106 w0 _ g s0_0 t376 from Y16) (rq HO370.out) (by decide)) hk (fun _ h => h.2)) (fun _ h => h.1))
    replace BK372 := am (KeepBut.blk hk (g' := gb372) (o := .cells #[.slice Ao13 t368.length co13] 32 (0, 0)) (kq BK372.out) NB372_0.out (by simp))
    replace HO379 := am (Kd.R_mono (Kd.R_keep (IsS106.apart (show IsS106 w0 _ g s0_0 t376 from Y16) (rq HO379.out) (by decide)) hk (fun _ h => h.2)) (fun _ h => h.1))
    replace HK := am (KeepBut.trans (Y26) hk (.inl rfl))
    replace HB := am (hb)
    replace HI0 := am (hi)
    (try clear hb)
    (try clear hb2)
    (try clear hk)
    (try clear hi)
    have p9 : 0 ≤ (t373 : Int) := of_decide_eq_true (uq)
    have q9 : (t373 : Int) < ((t368.length : Int) : Int) := of_decide_eq_true (uq)
    obtain ⟨go9, co9, eo9, gb9, gl9, cl9, HG9⟩ := Kd.R_form HO370.out (by omega)
    (first | cases eo9 | (injection eo9 with ea_ en_ ec_; (first | subst ea_ | (injection ea_ with ea_; subst ea_)); subst ec_; clear en_))
    have GB9 := am gb9
    have GG9 := am HG9
    clear gb9 gl9 HG9
    obtain ⟨ce9, hcl9, hM9, hcc9, hfr9⟩ := Kd.R_elem HO370.out z98 (t373 : Int) p9 q9
    obtain rfl := k98_openM hM9
    have hx9_0 : World.cell? _ ⟨go9, (t373 : Int).toNat * 2, none⟩ = some (.string ((rd_T98 t368 t373).f0)) := hcc9 0 _ rfl
    have hx9_1 : World.cell? _ ⟨go9, (t373 : Int).toNat * 2 + 1, none⟩ = some (.int .i64 ((rd_T98 t368 t373).f1)) := hcc9 1 _ rfl
    have hf9_0 : World.frozen? _ ⟨go9, (t373 : Int).toNat * 2, none⟩ = false := hfr9 0
    have hf9_1 : World.frozen? _ ⟨go9, (t373 : Int).toNat * 2 + 1, none⟩ = false := hfr9 1
    clear hcl9 hcc9 hfr9 hM9
    replace p9 := eq_true p9
    replace q9 := eq_true q9
    have HN0_go9 := am (show g ≠ go9 from by have h_ := IsS106.own_ne HI0.out HO370.out (by decide); intro e_; exact h_ (by rw [e_]; rfl))
    obtain ⟨ce24, hcl24, hM24, hcc24, hfr24⟩ := Kd.R_elem HO370.out z98 (t373 : Int) (of_decide_eq_true (uq)) (by have h_ : (t373 : Int) < ((t368.length : Int) : Int) := of_decide_eq_true (uq); first | exact h_ | (have e_ := (Kd.R_reads' HO370.out).1; omega) | simpa using h_)
    obtain rfl := k98_openM hM24
    have HP24 := (Kd.R_seg HO370.out (t373 : Int) (of_decide_eq_true (uq)) (by have h_ : (t373 : Int) < ((t368.length : Int) : Int) := of_decide_eq_true (uq); first | exact h_ | (have e_ := (Kd.R_reads' HO370.out).1; omega) | simpa using h_) (seg := [.string t380]) (j := 0) hcl24 hcc24 (show 1 ≤ 2 from by decide) (x' := (⟨t380, (rd_T98 t368 t373).f1⟩ : S98)) (k98_mkM _ _ _ (⟨t380, (rd_T98 t368 t373).f1⟩ : S98) ) (fun _ hk => hk)).1
    rw [← Ny382.out] at HP24
    have HQ24 := am HP24
    clear hcl24 hcc24 hfr24 hM24 HP24
    refine hK.out _ _ ((blk_cell BK372.out 0).trans rfl) (fun hHeld => ?_)
    clear hK K
    refine norm_ (a' := ?_) ?_ ?_
    rotate_left
    ·show Act.put _ (some 21) _ = _
     simp only [Act.put, List.setIfInBounds_toArray, List.set_cons_zero, List.set_cons_succ, i64_w, i32_w]
     rfl
    refine pq (i := 6) (N := some 22) #[true, true, true, true, true, true, true, false, false] ?_
    refine pq (i := 7) (N := some 23) #[true, true, true, true, true, true, true, true, false] ?_
    refine last_ (i := 8) (N := none) #[true, true, true, true, true, true, true, true, true] rfl rfl (one_of HT_.out (by kernel_rfl)) (by decide) (fun K hK => ?_)
    refine skip_ (w1 := ?_) (by rfl) rfl ?_ ?_
    rotate_left
    ·go_simp
     rfl
    refine hK.out _ _ ?_
    clear hK K
    refine done_ (done_of HT_.out (by kernel_rfl)) ?_
    have n0_ : Aside0 (Kd.R k98 98 (w23.setCell ⟨go9, (t373 : Int).toNat * 2, none⟩ (.string t380)) w.heap.size (fun _ => True) (.slice (some ⟨go9, 0, none⟩) t368.length co13) y382) := ⟨rq HQ24.out⟩
    have n1_ : Aside0 (Kd.R Kd.string 9 (w23.setCell ⟨go9, (t373 : Int).toNat * 2, none⟩ (.string t380)) w.heap.size (fun _ => True) (.slice Ao22 y377.length co22) y377) := ⟨by (with_reducible repeat (first | apply Kd.R_alloc | apply Kd.R_drewN | apply Kd.R_drew)); exact Kd.R_mono (Kd.R_far (p := ⟨go9, (t373 : Int).toNat * 2, none⟩) (Kd.R_types HO379.out GG9.out (by decide)) (fun _ hk => hk.2) (.string t380)) (fun _ hk => trivial)⟩
    have n2_ : Aside0 ((w23.setCell ⟨go9, (t373 : Int).toNat * 2, none⟩ (.string t380)).heap[gb367]? = some (.cells #[.slice none 0 0] 32 (0, 0))) := ⟨by (with_reducible repeat (first | refine blk_drewN ?_ _ | refine blk_drew ?_ | refine blk_alloc ?_ _)); refine blk_far ?_ (by have h_ := Kd.R_ne HO370.out BK367.out (by decide); intro e_; exact h_ (by rw [e_]; rfl)) _; (with_reducible repeat (first | refine blk_drewN ?_ _ | refine blk_drew ?_ | refine blk_alloc ?_ _)); exact BK367.out⟩
    have n3_ : Aside0 ((w23.setCell ⟨go9, (t373 : Int).toNat * 2, none⟩ (.string t380)).heap[gb372]? = some (.cells #[.slice (some ⟨go9, 0, none⟩) t368.length co13] 32 (0, 0))) := ⟨by (with_reducible repeat (first | refine blk_drewN ?_ _ | refine blk_drew ?_ | refine blk_alloc ?_ _)); refine blk_far ?_ (by have h_ := Kd.R_ne HO370.out BK372.out (by decide); intro e_; exact h_ (by rw [e_]; rfl)) _; (with_reducible repeat (first | refine blk_drewN ?_ _ | refine blk_drew ?_ | refine blk_alloc ?_ _)); exact BK372.out⟩
    have n4_ : Aside0 (IsS106 w0 (w23.setCell ⟨go9, (t373 : Int).toNat * 2, none⟩ (.string t380)) g s0_0 t381) := ⟨by repeat (first | (with_reducible first | exact HI0.out | apply IsS106.alloc | apply IsS106.drewN | apply IsS106.drew | apply IsS106.set_1 | refine IsS106.far ?_ HN0_go9.out _ | refine IsS106.far ?_ NB0_367.out _ | refine IsS106.far ?_ NB0_372.out _) | exact HI0.out)⟩
    have n5_ : Aside0 (KeepBut w (w23.setCell ⟨go9, (t373 : Int).toNat * 2, none⟩ (.string t380)) g none) := ⟨by repeat (first | (with_reducible first | exact HK.out | apply KeepBut.set_ | apply keep_drewN | apply keep_drew | apply keep_alloc | refine keep_far ?_ GB9.out _ | refine keep_far ?_ GW367.out _ | refine keep_far ?_ GW372.out _) | exact HK.out)⟩
    have n6_ : Aside0 (Below w0.heap.size w0 (w23.setCell ⟨go9, (t373 : Int).toNat * 2, none⟩ (.string t380))) := ⟨by repeat (first | (with_reducible first | exact HB.out | apply below_alloc | apply pw_below_drewN | apply below_drew1 | refine below_set ?_ (Nat.le_trans HL.out GB9.out) | refine below_set ?_ (IsS106.ge HI0.out) | refine below_set ?_ GE367.out | refine below_set ?_ GE372.out) | exact HB.out)⟩
    (try clear HO370)
    (try clear HO379)
    (try clear BK367)
    (try clear BK372)
    (try clear HI0)
    (try clear HK)
    (try clear HB)
    generalize (w23.setCell ⟨go9, (t373 : Int).toNat * 2, none⟩ (.string t380)) = w25 at n0_ n1_ n2_ n3_ n4_ n5_ n6_ ⊢
    have HO370 := n0_
    have HO379 := n1_
    have BK367 := n2_
    have BK372 := n3_
    have HI0 := n4_
    have HK := n5_
    have HB := n6_
    clear n0_ n1_ n2_ n3_ n4_ n5_ n6_
    have hcz26_0 := bc0 BK372.out
    have hfz26_0 := blk_frozen BK372.out 0
    have hnb27 := NB367_0.out
    have hnc27 := NB0_367.out
    have hcz28_0 := bc0 BK367.out
    have hfz28_0 := blk_frozen BK367.out 0
    try go_wp2
    refine bodyPost_ret (results_cell_row rfl _ _ gb367 32 #[.slice (some ⟨go9, 0, none⟩) t368.length co13] (0, 0) _ rfl (Y86) Try.underlying32 rfl (by kernel_rfl)) rfl ?_
    exact ⟨_, Y0, by (with_reducible repeat (first | apply Kd.R_alloc | apply Kd.R_drewN | apply Kd.R_drew)); exact Kd.R_mono (Kd.R_far (p := ⟨gb367, 0, none⟩) (Kd.R_types HO370.out BK367.out (by decide)) (fun _ hk => hk.2) (.slice (some ⟨go9, 0, none⟩) t368.length co13)) (fun _ hk => trivial), Y16, Y30, Y26⟩
   ·rw [if_neg c8] at H
    exact absurd H (by simp)
  ·rw [if_neg c7] at H
   exact absurd H (by simp)
 ·rw [if_neg c5] at H
  have c5b0 : (t375 == 0) = false := beq_eq_false_iff_ne.mpr c5
  have c5b1 : (t375 != 0) = true := bne_iff_ne.mpr c5
  by_cases c29 : t375 = 1
  ·rw [if_pos c29] at H
   have c29b0 : (t375 == 1) = true := beq_iff_eq.mpr c29
   have c29b1 : (t375 != 1) = false := bne_eq_false_iff_eq.mpr c29
   clear c29
   obtain ⟨y383, hy383⟩ : ∃ y_ : List Int, y_ = (([t373, (-1), 8, (-2)] : List Int)) := ⟨_, rfl⟩
   replace H : ((spec_reader_one.f k s0_0 t376 y383).bind fun bt386 => (if 0 ≤ t373 then (if t373 < (t368.length : Int) then (some ((t368.set (t373 : Int).toNat (⟨(rd_T98 t368 t373).f0, bt386.1⟩ : S98)), bt386.2)) else (none)) else (none))) = some (r1, r2) := by first | (rw [hy383]; with_reducible exact H) | (have H2_ := (Option.bind_some _ _).symm.trans H; rw [hy383]; with_reducible exact H2_) | (have H2_ := (Option.bind_some _ _).symm.trans H; with_reducible exact H2_) | with_reducible exact H | (rw [hy383]; exact H) | exact H
   have Ny383 := am hy383
   clear hy383
   replace H := Option.bind_eq_some_iff.mp H
   obtain ⟨⟨t386, t387⟩, A300, H⟩ := H
   replace H : (if 0 ≤ t373 then (if t373 < (t368.length : Int) then (some ((t368.set (t373 : Int).toNat (⟨(rd_T98 t368 t373).f0, t386⟩ : S98)), t387)) else (none)) else (none)) = some (r1, r2) := H
   have A30 := am A300
   clear A300
   by_cases c31 : 0 ≤ t373
   ·rw [if_pos c31] at H
    have c31b0 : decide (0 ≤ t373) = true := decide_eq_true c31
    clear c31
    by_cases c32 : t373 < (t368.length : Int)
    ·rw [if_pos c32] at H
     have c32b0 : decide (t373 < (t368.length : Int)) = true := decide_eq_true c32
     clear c32
     obtain ⟨y388, hy388⟩ : ∃ y_ : List (S98), y_ = (t368.set (t373 : Int).toNat (⟨(rd_T98 t368 t373).f0, t386⟩ : S98)) := ⟨_, rfl⟩
     replace H : (some (y388, t387)) = some (r1, r2) := by first | (rw [hy388]; with_reducible exact H) | (have H2_ := (Option.bind_some _ _).symm.trans H; rw [hy388]; with_reducible exact H2_) | (have H2_ := (Option.bind_some _ _).symm.trans H; with_reducible exact H2_) | with_reducible exact H | (rw [hy388]; exact H) | exact H
     have Ny388 := am hy388
     clear hy388
     simp only [Option.some.injEq, Prod.mk.injEq] at H
     obtain ⟨rfl, rfl⟩ := H
     go_enter Try.func71, Try.ntmps71
     try go_wp2_with (first | ((with_reducible refine gate_dst (N := 2) rfl ?_); refine bE (N := 2) (cs := #[.slice none 0 0]) (t := 32) ?_; intro gb367 hg w34 hbox hb; have BK367 := am (hbox); have GW367 := am ((Y10 : w.heap.size ≤ gb367)); have GE367 := am ((Nat.le_trans HW0.out (Y10 : w.heap.size ≤ gb367) : w0.heap.size ≤ gb367)); have NB0_367 := am ((Y22 : g ≠ gb367)); have NB367_0 := am ((Y23 : gb367 ≠ g)); replace HK := am (KeepBut.trans (Y14) (KeepBut.of_below hb g none) (.inl rfl)); replace HB := am (below_step (Y15) hb); replace HI0 := am (IsS106.below (Y13) hb); clear hb hbox hg) | ((with_reducible refine gate_callee (f := 95) rfl ?_); refine gL (some 6) Try.func95 #[.pointer (some ⟨g, 0, none⟩)] ?_; (with_reducible refine (spec_goodTree.calls k g s0_0 s0_1 t368 t371 w0 _ ?side1 ?side2 A2.out).mono ?_); (case side1 => exact Y48); (case side2 => exact Y49); rintro e w35 ⟨v369, rfl, ho0, hi, hb, hk⟩; refine ⟨_, rfl, ?_⟩; have HO370 := am (Kd.R_lower ho0 (keep_size (w := w) (g := g) (row := none) (Y39))); replace BK367 := am (KeepBut.blk hk (g' := gb367) (o := .cells #[.slice none 0 0] 32 (0, 0)) (kq BK367.out) NB367_0.out (by simp)); replace HK := am (KeepBut.trans (Y39) hk (.inl rfl)); replace HB := am (hb); replace HI0 := am (hi); (try clear hb); (try clear hb2); (try clear hk); (try clear hi); (try clear ho0)) | ((with_reducible refine gate_dst (N := 3) rfl ?_); refine bE (N := 3) (cs := #[.slice none 0 0]) (t := 32) ?_; intro gb372 hg w36 hbox hb; have BK372 := am (hbox); have GW372 := am ((Y50 : w.heap.size ≤ gb372)); have GE372 := am ((Nat.le_trans HW0.out (Y50 : w.heap.size ≤ gb372) : w0.heap.size ≤ gb372)); have NB367_372 := am ((Y80 : gb367 ≠ gb372)); have NB372_367 := am ((Y81 : gb372 ≠ gb367)); have NB0_372 := am ((Y82 : g ≠ gb372)); have NB372_0 := am ((Y83 : gb372 ≠ g)); replace HO370 := am (Kd.R_below (rq HO370.out) hb); replace BK367 := am (blk_below (g := gb367) (o := .cells #[.slice none 0 0] 32 (0, 0)) (kq BK367.out) hb); replace HK := am (KeepBut.trans (Y39) (KeepBut.of_below hb g none) (.inl rfl)); replace HB := am (below_step (Y49) hb); replace HI0 := am (IsS106.below (Y48) hb); clear hb hbox hg; obtain ⟨Ao37, co37, eo37⟩ := Kd.R_slice HO370.out; subst eo37; have hnb38 := NB372_367.out; have hnc38 := NB367_372.out; have hnb39 := NB372_0.out; have hnc39 := NB0_372.out; have hcz40_0 := bc0 BK372.out; have hfz40_0 := blk_frozen BK372.out 0) | ((with_reducible refine gate_callee (f := 55) rfl ?_); refine gL (some 11) Try.func55 #[.pointer (some ⟨g, 0, none⟩), .int .i64 (t368.length : Int)] ?_; (with_reducible refine (spec_reader_pick.calls k g s0_0 t371 (t368.length : Int) t373 t374 w0 _ ?side1 ?side2 A3.out).mono ?_); (case side1 => exact Y16); (case side2 => exact Y30); rintro e w41 ⟨rfl, hi, hb, hk⟩; refine ⟨_, rfl, ?_⟩; replace BK367 := am (KeepBut.blk hk (g' := gb367) (o := .cells #[.slice none 0 0] 32 (0, 0)) (Y84) NB367_0.out (by simp)); replace HO370 := am (Kd.R_mono (Kd.R_keep (IsS106.apart (show IsS106 w0 _ g s0_0 t371 from Y16) (by (with_reducible repeat (first | apply Kd.R_alloc | apply Kd.R_drewN | apply Kd.R_drew)); exact (Kd.R_mono (Kd.R_far (p := ⟨gb372, 0, none⟩) (Kd.R_types HO370.out BK372.out (by decide)) (fun _ hk => hk.2) (.slice Ao37 t368.length co37)) (fun _ h_ => h_.1))) (by decide)) hk (fun _ h => h.2)) (fun _ h => h.1)); replace BK372 := am (KeepBut.blk hk (g' := gb372) (o := .cells #[.slice Ao37 t368.length co37] 32 (0, 0)) (Y85) NB372_0.out (by simp)); replace HK := am (KeepBut.trans (Y26) hk (.inl rfl)); replace HB := am (hb); replace HI0 := am (hi); (try clear hb); (try clear hb2); (try clear hk); (try clear hi)) | ((with_reducible refine gate_callee (f := 55) rfl ?_); refine gL (some 13) Try.func55 #[.pointer (some ⟨g, 0, none⟩), .int .i64 24] ?_; (with_reducible refine (spec_reader_pick.calls k g s0_0 t374 24 t375 t376 w0 _ ?side1 ?side2 A4.out).mono ?_); (case side1 => exact Y16); (case side2 => exact Y30); rintro e w42 ⟨rfl, hi, hb, hk⟩; refine ⟨_, rfl, ?_⟩; replace BK367 := am (KeepBut.blk hk (g' := gb367) (o := .cells #[.slice none 0 0] 32 (0, 0)) (kq BK367.out) NB367_0.out (by simp)); replace HO370 := am (Kd.R_mono (Kd.R_keep (IsS106.apart (show IsS106 w0 _ g s0_0 t374 from Y16) (rq HO370.out) (by decide)) hk (fun _ h => h.2)) (fun _ h => h.1)); replace BK372 := am (KeepBut.blk hk (g' := gb372) (o := .cells #[.slice Ao37 t368.length co37] 32 (0, 0)) (kq BK372.out) NB372_0.out (by simp)); replace HK := am (KeepBut.trans (Y26) hk (.inl rfl)); replace HB := am (hb); replace HI0 := am (hi); (try clear hb); (try clear hb2); (try clear hk); (try clear hi)))
     replace HO370 := am (Kd.R_drew HO370.out)
     replace BK367 := am (blk_drew BK367.out)
     replace BK372 := am (blk_drew BK372.out)
     replace HI0 := am (IsS106.drew HI0.out)
     replace HK := am (keep_drew HK.out)
     replace HB := am (below_drew1 HB.out)
     refine start_ (n := 10) (S := fun w' => w'.cell? ⟨gb372, 0, none⟩ = some (.slice Ao37 t368.length co37)) (ds := [9]) #[false, false, false, false, false, false, false, false, false, false] (by kernel_rfl) rfl rfl ((blk_cell BK372.out 0).trans rfl) (fun hHeld => ?_); refine with_tabW spec_someTree.tab7 spec_someTree.bits7 (fun HT_ HW_ => ?_)
     generalize w42.drew = w43 at HO370 BK367 BK372 HI0 HK HB hHeld ⊢
     refine pq (i := 0) (N := some 26) #[true, false, false, false, false, false, false, false, false, false] ?_
     refine pq (i := 2) (N := some 28) #[true, false, true, false, false, false, false, false, false, false] ?_
     refine pq (i := 3) (N := some 29) #[true, false, true, true, false, false, false, false, false, false] ?_
     refine pq (i := 4) (N := some 30) #[true, false, true, true, true, false, false, false, false, false] ?_
     refine take_ (i := 1) (N := some 27) (v := ?_) (a' := ?_) #[true, true, true, true, true, false, false, false, false, false] rfl rfl (take_ofW HT_.out HW_.out (by kernel_rfl)) (fun _ _ _ h => h) (Or.inl ⟨by rfl, ?_⟩) hHeld ?_ ?_
     rotate_left
     ·intro w' s0
      go_simp
      with_reducible rfl
     rotate_left
     ·exact sa
     refine one_ (i := 5) (N := some 31) #[true, true, true, true, true, true, false, false, false, false] rfl rfl (one_of HT_.out (by kernel_rfl)) (by decide) (fun K hK => ?_)
     refine Kd.R_lit_step (Kd.int .i64) _ 3 ?hg (N := 31) ?hd (xs := ([t373, (-1), 8, (-2)] : List Int)) (inner := [.int .i64 t373, .int .i64 (-1), .int .i64 8, .int .i64 (-2)]) (ok := fun _ => True) (okp := fun _ => True) ?hr ?hp (fun _ hk => hk) trivial (Below.refl _ _) (Nat.le_refl _) (by simp) ?_; (case hd => rfl); (case hg => rfl); (case hr => exact Y5); (case hp => exact (Reps.one (show Kd.M (Kd.int .i64) _ _ _ t373 [.int .i64 t373] from rfl) (Reps.one (show Kd.M (Kd.int .i64) _ _ _ (-1) [.int .i64 (-1)] from rfl) (Reps.one (show Kd.M (Kd.int .i64) _ _ _ 8 [.int .i64 8] from rfl) (Reps.one (show Kd.M (Kd.int .i64) _ _ _ (-2) [.int .i64 (-2)] from rfl) (Reps.none _ _))))))
     intro v384 w44 ho45 hb hg_ hnew_
     clear hg_ hnew_
     (first | rw [← Ny383.out] at ho45 | (simp only [Int.reduceToNat] at ho45; rw [← Ny383.out] at ho45))
     have HO385 := am (Kd.R_lower ho45 (keep_size (w := w) (g := g) (row := none) (Y26)))
     replace HO370 := am (Kd.R_below (rq HO370.out) hb)
     replace BK367 := am (blk_below (g := gb367) (o := .cells #[.slice none 0 0] 32 (0, 0)) (kq BK367.out) hb)
     replace BK372 := am (blk_below (g := gb372) (o := .cells #[.slice Ao37 t368.length co37] 32 (0, 0)) (kq BK372.out) hb)
     replace HK := am (KeepBut.trans (Y26) (KeepBut.of_below hb g none) (.inl rfl))
     replace HB := am (below_step (Y30) hb)
     replace HI0 := am (IsS106.below (Y16) hb)
     clear hb ho45
     obtain ⟨Ao46, co46, eo46⟩ := Kd.R_slice HO385.out
     (first | subst eo46 | (injection eo46 with f1_ f2_ f3_; have f4_ := f1_.symm; have f5_ := f3_.symm; clear f1_ f2_ f3_; subst f4_; subst f5_))
     refine hK.out _ _ ((blk_cell BK372.out 0).trans rfl) (fun hHeld => ?_)
     clear hK K
     refine norm_ (a' := ?_) ?_ ?_
     rotate_left
     ·show Act.put _ (some 31) _ = _
      simp only [Act.put, List.setIfInBounds_toArray, List.set_cons_zero, List.set_cons_succ, i64_w, i32_w]
      rfl
     refine one_ (i := 6) (N := some 32) #[true, true, true, true, true, true, true, false, false, false] rfl rfl (one_of HT_.out (by kernel_rfl)) (by decide) (fun K hK => ?_)
     refine goes_ Try.func56 (by kernel_rfl) rfl #[.pointer (some ⟨g, 0, none⟩), .slice Ao46 y383.length co46] (by rfl) rfl rfl (aq) ?_
     with_reducible refine (spec_reader_one.calls k g s0_0 t376 _ _ y383 t386 t387 w0 _ ?side1 ?side2 ?side3 ?side4 ?side5 A30.out).mono ?_
     (case side1 => exact Y16)
     (case side2 => exact Y30)
     (case side3 => exact cq (Kd.R_reads' HO385.out).2.2)
     (case side4 => exact (Kd.R_reads' HO385.out).2.1)
     (case side5 => exact far_slice (IsS106.own_ne HI0.out HO385.out (by decide)))
     rintro e w47 ⟨rfl, hi, hb, hk⟩
     refine ⟨_, rfl, ?_⟩
     replace BK367 := am (KeepBut.blk hk (g' := gb367) (o := .cells #[.slice none 0 0] 32 (0, 0)) (kq BK367.out) NB367_0.out (by simp))
     replace HO370 := am (Kd.R_mono (Kd.R_keep (IsS106.apart (show IsS106 w0 _ g s0_0 t376 from Y16) (rq HO370.out) (by decide)) hk (fun _ h => h.2)) (fun _ h => h.1))
     replace BK372 := am (KeepBut.blk hk (g' := gb372) (o := .cells #[.slice Ao37 t368.length co37] 32 (0, 0)) (kq BK372.out) NB372_0.out (by simp))
     replace HO385 := am (Kd.R_mono (Kd.R_keep (IsS106.apart (show IsS106 w0 _ g s0_0 t376 from Y16) (rq HO385.out) (by decide)) hk (fun _ h => h.2)) (fun _ h => h.1))
     replace HK := am (KeepBut.trans (Y26) hk (.inl rfl))
     replace HB := am (hb)
     replace HI0 := am (hi)
     (try clear hb)
     (try clear hb2)
     (try clear hk)
     (try clear hi)
     have p33 : 0 ≤ (t373 : Int) := of_decide_eq_true (uq)
     have q33 : (t373 : Int) < ((t368.length : Int) : Int) := of_decide_eq_true (uq)
     obtain ⟨go33, co33, eo33, gb33, gl33, cl33, HG33⟩ := Kd.R_form HO370.out (by omega)
     (first | cases eo33 | (injection eo33 with ea_ en_ ec_; (first | subst ea_ | (injection ea_ with ea_; subst ea_)); subst ec_; clear en_))
     have GB33 := am gb33
     have GG33 := am HG33
     clear gb33 gl33 HG33
     obtain ⟨ce33, hcl33, hM33, hcc33, hfr33⟩ := Kd.R_elem HO370.out z98 (t373 : Int) p33 q33
     obtain rfl := k98_openM hM33
     have hx33_0 : World.cell? _ ⟨go33, (t373 : Int).toNat * 2, none⟩ = some (.string ((rd_T98 t368 t373).f0)) := hcc33 0 _ rfl
     have hx33_1 : World.cell? _ ⟨go33, (t373 : Int).toNat * 2 + 1, none⟩ = some (.int .i64 ((rd_T98 t368 t373).f1)) := hcc33 1 _ rfl
     have hf33_0 : World.frozen? _ ⟨go33, (t373 : Int).toNat * 2, none⟩ = false := hfr33 0
     have hf33_1 : World.frozen? _ ⟨go33, (t373 : Int).toNat * 2 + 1, none⟩ = false := hfr33 1
     clear hcl33 hcc33 hfr33 hM33
     replace p33 := eq_true p33
     replace q33 := eq_true q33
     have HN0_go33 := am (show g ≠ go33 from by have h_ := IsS106.own_ne HI0.out HO370.out (by decide); intro e_; exact h_ (by rw [e_]; rfl))
     obtain ⟨ce48, hcl48, hM48, hcc48, hfr48⟩ := Kd.R_elem HO370.out z98 (t373 : Int) (of_decide_eq_true (uq)) (by have h_ : (t373 : Int) < ((t368.length : Int) : Int) := of_decide_eq_true (uq); first | exact h_ | (have e_ := (Kd.R_reads' HO370.out).1; omega) | simpa using h_)
     obtain rfl := k98_openM hM48
     have HP48 := (Kd.R_seg HO370.out (t373 : Int) (of_decide_eq_true (uq)) (by have h_ : (t373 : Int) < ((t368.length : Int) : Int) := of_decide_eq_true (uq); first | exact h_ | (have e_ := (Kd.R_reads' HO370.out).1; omega) | simpa using h_) (seg := [.int .i64 t386]) (j := 1) hcl48 hcc48 (show 2 ≤ 2 from by decide) (x' := (⟨(rd_T98 t368 t373).f0, t386⟩ : S98)) (k98_mkM _ _ _ (⟨(rd_T98 t368 t373).f0, t386⟩ : S98) ) (fun _ hk => hk)).1
     rw [← Ny388.out] at HP48
     have HQ48 := am HP48
     clear hcl48 hcc48 hfr48 hM48 HP48
     refine hK.out _ _ ((blk_cell BK372.out 0).trans rfl) (fun hHeld => ?_)
     clear hK K
     refine norm_ (a' := ?_) ?_ ?_
     rotate_left
     ·show Act.put _ (some 32) _ = _
      simp only [Act.put, List.setIfInBounds_toArray, List.set_cons_zero, List.set_cons_succ, i64_w, i32_w]
      rfl
     refine pq (i := 7) (N := some 33) #[true, true, true, true, true, true, true, true, false, false] ?_
     refine pq (i := 8) (N := some 34) #[true, true, true, true, true, true, true, true, true, false] ?_
     refine last_ (i := 9) (N := none) #[true, true, true, true, true, true, true, true, true, true] rfl rfl (one_of HT_.out (by kernel_rfl)) (by decide) (fun K hK => ?_)
     refine skip_ (w1 := ?_) (by rfl) rfl ?_ ?_
     rotate_left
     ·go_simp
      rfl
     refine hK.out _ _ ?_
     clear hK K
     refine done_ (done_of HT_.out (by kernel_rfl)) ?_
     have n0_ : Aside0 (Kd.R k98 98 (w47.setCell ⟨go33, (t373 : Int).toNat * 2 + 1, none⟩ (.int .i64 t386)) w.heap.size (fun _ => True) (.slice (some ⟨go33, 0, none⟩) t368.length co37) y388) := ⟨rq HQ48.out⟩
     have n1_ : Aside0 (Kd.R (Kd.int .i64) 3 (w47.setCell ⟨go33, (t373 : Int).toNat * 2 + 1, none⟩ (.int .i64 t386)) w.heap.size (fun _ => True) (.slice Ao46 y383.length co46) y383) := ⟨by (with_reducible repeat (first | apply Kd.R_alloc | apply Kd.R_drewN | apply Kd.R_drew)); exact Kd.R_mono (Kd.R_far (p := ⟨go33, (t373 : Int).toNat * 2 + 1, none⟩) (Kd.R_types HO385.out GG33.out (by decide)) (fun _ hk => hk.2) (.int .i64 t386)) (fun _ hk => trivial)⟩
     have n2_ : Aside0 ((w47.setCell ⟨go33, (t373 : Int).toNat * 2 + 1, none⟩ (.int .i64 t386)).heap[gb367]? = some (.cells #[.slice none 0 0] 32 (0, 0))) := ⟨by (with_reducible repeat (first | refine blk_drewN ?_ _ | refine blk_drew ?_ | refine blk_alloc ?_ _)); refine blk_far ?_ (by have h_ := Kd.R_ne HO370.out BK367.out (by decide); intro e_; exact h_ (by rw [e_]; rfl)) _; (with_reducible repeat (first | refine blk_drewN ?_ _ | refine blk_drew ?_ | refine blk_alloc ?_ _)); exact BK367.out⟩
     have n3_ : Aside0 ((w47.setCell ⟨go33, (t373 : Int).toNat * 2 + 1, none⟩ (.int .i64 t386)).heap[gb372]? = some (.cells #[.slice (some ⟨go33, 0, none⟩) t368.length co37] 32 (0, 0))) := ⟨by (with_reducible repeat (first | refine blk_drewN ?_ _ | refine blk_drew ?_ | refine blk_alloc ?_ _)); refine blk_far ?_ (by have h_ := Kd.R_ne HO370.out BK372.out (by decide); intro e_; exact h_ (by rw [e_]; rfl)) _; (with_reducible repeat (first | refine blk_drewN ?_ _ | refine blk_drew ?_ | refine blk_alloc ?_ _)); exact BK372.out⟩
     have n4_ : Aside0 (IsS106 w0 (w47.setCell ⟨go33, (t373 : Int).toNat * 2 + 1, none⟩ (.int .i64 t386)) g s0_0 t387) := ⟨by repeat (first | (with_reducible first | exact HI0.out | apply IsS106.alloc | apply IsS106.drewN | apply IsS106.drew | apply IsS106.set_1 | refine IsS106.far ?_ HN0_go33.out _ | refine IsS106.far ?_ NB0_367.out _ | refine IsS106.far ?_ NB0_372.out _) | exact HI0.out)⟩
     have n5_ : Aside0 (KeepBut w (w47.setCell ⟨go33, (t373 : Int).toNat * 2 + 1, none⟩ (.int .i64 t386)) g none) := ⟨by repeat (first | (with_reducible first | exact HK.out | apply KeepBut.set_ | apply keep_drewN | apply keep_drew | apply keep_alloc | refine keep_far ?_ GB33.out _ | refine keep_far ?_ GW367.out _ | refine keep_far ?_ GW372.out _) | exact HK.out)⟩
     have n6_ : Aside0 (Below w0.heap.size w0 (w47.setCell ⟨go33, (t373 : Int).toNat * 2 + 1, none⟩ (.int .i64 t386))) := ⟨by repeat (first | (with_reducible first | exact HB.out | apply below_alloc | apply pw_below_drewN | apply below_drew1 | refine below_set ?_ (Nat.le_trans HL.out GB33.out) | refine below_set ?_ (IsS106.ge HI0.out) | refine below_set ?_ GE367.out | refine below_set ?_ GE372.out) | exact HB.out)⟩
     (try clear HO370)
     (try clear HO385)
     (try clear BK367)
     (try clear BK372)
     (try clear HI0)
     (try clear HK)
     (try clear HB)
     generalize (w47.setCell ⟨go33, (t373 : Int).toNat * 2 + 1, none⟩ (.int .i64 t386)) = w49 at n0_ n1_ n2_ n3_ n4_ n5_ n6_ ⊢
     have HO370 := n0_
     have HO385 := n1_
     have BK367 := n2_
     have BK372 := n3_
     have HI0 := n4_
     have HK := n5_
     have HB := n6_
     clear n0_ n1_ n2_ n3_ n4_ n5_ n6_
     have hcz50_0 := bc0 BK372.out
     have hfz50_0 := blk_frozen BK372.out 0
     have hnb51 := NB367_0.out
     have hnc51 := NB0_367.out
     have hcz52_0 := bc0 BK367.out
     have hfz52_0 := blk_frozen BK367.out 0
     try go_wp2
     refine bodyPost_ret (results_cell_row rfl _ _ gb367 32 #[.slice (some ⟨go33, 0, none⟩) t368.length co37] (0, 0) _ rfl (Y86) Try.underlying32 rfl (by kernel_rfl)) rfl ?_
     exact ⟨_, Y0, by (with_reducible repeat (first | apply Kd.R_alloc | apply Kd.R_drewN | apply Kd.R_drew)); exact Kd.R_mono (Kd.R_far (p := ⟨gb367, 0, none⟩) (Kd.R_types HO370.out BK367.out (by decide)) (fun _ hk => hk.2) (.slice (some ⟨go33, 0, none⟩) t368.length co37)) (fun _ hk => trivial), Y16, Y30, Y26⟩
    ·rw [if_neg c32] at H
     exact absurd H (by simp)
   ·rw [if_neg c31] at H
    exact absurd H (by simp)
  ·rw [if_neg c29] at H
   have c29b0 : (t375 == 1) = false := beq_eq_false_iff_ne.mpr c29
   have c29b1 : (t375 != 1) = true := bne_iff_ne.mpr c29
   by_cases c53 : t375 = 2
   ·rw [if_pos c53] at H
    have c53b0 : (t375 == 2) = true := beq_iff_eq.mpr c53
    have c53b1 : (t375 != 2) = false := bne_eq_false_iff_eq.mpr c53
    clear c53
    simp only [Option.some.injEq, Prod.mk.injEq] at H
    obtain ⟨rfl, rfl⟩ := H
    go_enter Try.func71, Try.ntmps71
    go_wp2_with (first | ((with_reducible refine gate_dst (N := 2) rfl ?_); refine bE (N := 2) (cs := #[.slice none 0 0]) (t := 32) ?_; intro gb367 hg w54 hbox hb; have BK367 := am (hbox); have GW367 := am ((Y10 : w.heap.size ≤ gb367)); have GE367 := am ((Nat.le_trans HW0.out (Y10 : w.heap.size ≤ gb367) : w0.heap.size ≤ gb367)); have NB0_367 := am ((Y22 : g ≠ gb367)); have NB367_0 := am ((Y23 : gb367 ≠ g)); replace HK := am (KeepBut.trans (Y14) (KeepBut.of_below hb g none) (.inl rfl)); replace HB := am (below_step (Y15) hb); replace HI0 := am (IsS106.below (Y13) hb); clear hb hbox hg) | ((with_reducible refine gate_callee (f := 95) rfl ?_); refine gL (some 6) Try.func95 #[.pointer (some ⟨g, 0, none⟩)] ?_; (with_reducible refine (spec_goodTree.calls k g s0_0 s0_1 t368 t371 w0 _ ?side1 ?side2 A2.out).mono ?_); (case side1 => exact Y48); (case side2 => exact Y49); rintro e w55 ⟨v369, rfl, ho0, hi, hb, hk⟩; refine ⟨_, rfl, ?_⟩; have HO370 := am (Kd.R_lower ho0 (keep_size (w := w) (g := g) (row := none) (Y39))); replace BK367 := am (KeepBut.blk hk (g' := gb367) (o := .cells #[.slice none 0 0] 32 (0, 0)) (kq BK367.out) NB367_0.out (by simp)); replace HK := am (KeepBut.trans (Y39) hk (.inl rfl)); replace HB := am (hb); replace HI0 := am (hi); (try clear hb); (try clear hb2); (try clear hk); (try clear hi); (try clear ho0)) | ((with_reducible refine gate_dst (N := 3) rfl ?_); refine bE (N := 3) (cs := #[.slice none 0 0]) (t := 32) ?_; intro gb372 hg w56 hbox hb; have BK372 := am (hbox); have GW372 := am ((Y50 : w.heap.size ≤ gb372)); have GE372 := am ((Nat.le_trans HW0.out (Y50 : w.heap.size ≤ gb372) : w0.heap.size ≤ gb372)); have NB367_372 := am ((Y80 : gb367 ≠ gb372)); have NB372_367 := am ((Y81 : gb372 ≠ gb367)); have NB0_372 := am ((Y82 : g ≠ gb372)); have NB372_0 := am ((Y83 : gb372 ≠ g)); replace HO370 := am (Kd.R_below (rq HO370.out) hb); replace BK367 := am (blk_below (g := gb367) (o := .cells #[.slice none 0 0] 32 (0, 0)) (kq BK367.out) hb); replace HK := am (KeepBut.trans (Y39) (KeepBut.of_below hb g none) (.inl rfl)); replace HB := am (below_step (Y49) hb); replace HI0 := am (IsS106.below (Y48) hb); clear hb hbox hg; obtain ⟨Ao57, co57, eo57⟩ := Kd.R_slice HO370.out; subst eo57; have hnb58 := NB372_367.out; have hnc58 := NB367_372.out; have hnb59 := NB372_0.out; have hnc59 := NB0_372.out; have hcz60_0 := bc0 BK372.out; have hfz60_0 := blk_frozen BK372.out 0) | ((with_reducible refine gate_callee (f := 55) rfl ?_); refine gL (some 11) Try.func55 #[.pointer (some ⟨g, 0, none⟩), .int .i64 (t368.length : Int)] ?_; (with_reducible refine (spec_reader_pick.calls k g s0_0 t371 (t368.length : Int) t373 t374 w0 _ ?side1 ?side2 A3.out).mono ?_); (case side1 => exact Y16); (case side2 => exact Y30); rintro e w61 ⟨rfl, hi, hb, hk⟩; refine ⟨_, rfl, ?_⟩; replace BK367 := am (KeepBut.blk hk (g' := gb367) (o := .cells #[.slice none 0 0] 32 (0, 0)) (Y84) NB367_0.out (by simp)); replace HO370 := am (Kd.R_mono (Kd.R_keep (IsS106.apart (show IsS106 w0 _ g s0_0 t371 from Y16) (by (with_reducible repeat (first | apply Kd.R_alloc | apply Kd.R_drewN | apply Kd.R_drew)); exact (Kd.R_mono (Kd.R_far (p := ⟨gb372, 0, none⟩) (Kd.R_types HO370.out BK372.out (by decide)) (fun _ hk => hk.2) (.slice Ao57 t368.length co57)) (fun _ h_ => h_.1))) (by decide)) hk (fun _ h => h.2)) (fun _ h => h.1)); replace BK372 := am (KeepBut.blk hk (g' := gb372) (o := .cells #[.slice Ao57 t368.length co57] 32 (0, 0)) (Y85) NB372_0.out (by simp)); replace HK := am (KeepBut.trans (Y26) hk (.inl rfl)); replace HB := am (hb); replace HI0 := am (hi); (try clear hb); (try clear hb2); (try clear hk); (try clear hi)) | ((with_reducible refine gate_callee (f := 55) rfl ?_); refine gL (some 13) Try.func55 #[.pointer (some ⟨g, 0, none⟩), .int .i64 24] ?_; (with_reducible refine (spec_reader_pick.calls k g s0_0 t374 24 t375 t376 w0 _ ?side1 ?side2 A4.out).mono ?_); (case side1 => exact Y16); (case side2 => exact Y30); rintro e w62 ⟨rfl, hi, hb, hk⟩; refine ⟨_, rfl, ?_⟩; replace BK367 := am (KeepBut.blk hk (g' := gb367) (o := .cells #[.slice none 0 0] 32 (0, 0)) (kq BK367.out) NB367_0.out (by simp)); replace HO370 := am (Kd.R_mono (Kd.R_keep (IsS106.apart (show IsS106 w0 _ g s0_0 t374 from Y16) (rq HO370.out) (by decide)) hk (fun _ h => h.2)) (fun _ h => h.1)); replace BK372 := am (KeepBut.blk hk (g' := gb372) (o := .cells #[.slice Ao57 t368.length co57] 32 (0, 0)) (kq BK372.out) NB372_0.out (by simp)); replace HK := am (KeepBut.trans (Y26) hk (.inl rfl)); replace HB := am (hb); replace HI0 := am (hi); (try clear hb); (try clear hb2); (try clear hk); (try clear hi); have hnb63 := NB367_0.out; have hnc63 := NB0_367.out; have hcz64_0 := bc0 BK367.out; have hfz64_0 := blk_frozen BK367.out 0))
    refine bodyPost_ret (results_cell_row rfl _ _ gb367 32 #[.slice none 0 0] (0, 0) _ rfl (Y86) Try.underlying32 rfl (by kernel_rfl)) rfl ?_
    exact ⟨_, Y0, by first | exact Kd.R_nil _ _ _ _ _ | exact Kd.N_nil _ _ _ _ _ | exact Kd.V_nil _ _ _ _ _ | exact Kd.Q_nil _ _ _ _ _ | exact Kd.S_nil _ _ _ _ _, Y16, Y30, Y26⟩
   ·rw [if_neg c53] at H
    have c53b0 : (t375 == 2) = false := beq_eq_false_iff_ne.mpr c53
    have c53b1 : (t375 != 2) = true := bne_iff_ne.mpr c53
    simp only [Option.some.injEq, Prod.mk.injEq] at H
    obtain ⟨rfl, rfl⟩ := H
    go_enter Try.func71, Try.ntmps71
    go_wp2_with (first | ((with_reducible refine gate_dst (N := 2) rfl ?_); refine bE (N := 2) (cs := #[.slice none 0 0]) (t := 32) ?_; intro gb367 hg w65 hbox hb; have BK367 := am (hbox); have GW367 := am ((Y10 : w.heap.size ≤ gb367)); have GE367 := am ((Nat.le_trans HW0.out (Y10 : w.heap.size ≤ gb367) : w0.heap.size ≤ gb367)); have NB0_367 := am ((Y22 : g ≠ gb367)); have NB367_0 := am ((Y23 : gb367 ≠ g)); replace HK := am (KeepBut.trans (Y14) (KeepBut.of_below hb g none) (.inl rfl)); replace HB := am (below_step (Y15) hb); replace HI0 := am (IsS106.below (Y13) hb); clear hb hbox hg) | ((with_reducible refine gate_callee (f := 95) rfl ?_); refine gL (some 6) Try.func95 #[.pointer (some ⟨g, 0, none⟩)] ?_; (with_reducible refine (spec_goodTree.calls k g s0_0 s0_1 t368 t371 w0 _ ?side1 ?side2 A2.out).mono ?_); (case side1 => exact Y48); (case side2 => exact Y49); rintro e w66 ⟨v369, rfl, ho0, hi, hb, hk⟩; refine ⟨_, rfl, ?_⟩; have HO370 := am (Kd.R_lower ho0 (keep_size (w := w) (g := g) (row := none) (Y39))); replace BK367 := am (KeepBut.blk hk (g' := gb367) (o := .cells #[.slice none 0 0] 32 (0, 0)) (kq BK367.out) NB367_0.out (by simp)); replace HK := am (KeepBut.trans (Y39) hk (.inl rfl)); replace HB := am (hb); replace HI0 := am (hi); (try clear hb); (try clear hb2); (try clear hk); (try clear hi); (try clear ho0)) | ((with_reducible refine gate_dst (N := 3) rfl ?_); refine bE (N := 3) (cs := #[.slice none 0 0]) (t := 32) ?_; intro gb372 hg w67 hbox hb; have BK372 := am (hbox); have GW372 := am ((Y50 : w.heap.size ≤ gb372)); have GE372 := am ((Nat.le_trans HW0.out (Y50 : w.heap.size ≤ gb372) : w0.heap.size ≤ gb372)); have NB367_372 := am ((Y80 : gb367 ≠ gb372)); have NB372_367 := am ((Y81 : gb372 ≠ gb367)); have NB0_372 := am ((Y82 : g ≠ gb372)); have NB372_0 := am ((Y83 : gb372 ≠ g)); replace HO370 := am (Kd.R_below (rq HO370.out) hb); replace BK367 := am (blk_below (g := gb367) (o := .cells #[.slice none 0 0] 32 (0, 0)) (kq BK367.out) hb); replace HK := am (KeepBut.trans (Y39) (KeepBut.of_below hb g none) (.inl rfl)); replace HB := am (below_step (Y49) hb); replace HI0 := am (IsS106.below (Y48) hb); clear hb hbox hg; obtain ⟨Ao68, co68, eo68⟩ := Kd.R_slice HO370.out; subst eo68; have hnb69 := NB372_367.out; have hnc69 := NB367_372.out; have hnb70 := NB372_0.out; have hnc70 := NB0_372.out; have hcz71_0 := bc0 BK372.out; have hfz71_0 := blk_frozen BK372.out 0) | ((with_reducible refine gate_callee (f := 55) rfl ?_); refine gL (some 11) Try.func55 #[.pointer (some ⟨g, 0, none⟩), .int .i64 (t368.length : Int)] ?_; (with_reducible refine (spec_reader_pick.calls k g s0_0 t371 (t368.length : Int) t373 t374 w0 _ ?side1 ?side2 A3.out).mono ?_); (case side1 => exact Y16); (case side2 => exact Y30); rintro e w72 ⟨rfl, hi, hb, hk⟩; refine ⟨_, rfl, ?_⟩; replace BK367 := am (KeepBut.blk hk (g' := gb367) (o := .cells #[.slice none 0 0] 32 (0, 0)) (Y84) NB367_0.out (by simp)); replace HO370 := am (Kd.R_mono (Kd.R_keep (IsS106.apart (show IsS106 w0 _ g s0_0 t371 from Y16) (by (with_reducible repeat (first | apply Kd.R_alloc | apply Kd.R_drewN | apply Kd.R_drew)); exact (Kd.R_mono (Kd.R_far (p := ⟨gb372, 0, none⟩) (Kd.R_types HO370.out BK372.out (by decide)) (fun _ hk => hk.2) (.slice Ao68 t368.length co68)) (fun _ h_ => h_.1))) (by decide)) hk (fun _ h => h.2)) (fun _ h => h.1)); replace BK372 := am (KeepBut.blk hk (g' := gb372) (o := .cells #[.slice Ao68 t368.length co68] 32 (0, 0)) (Y85) NB372_0.out (by simp)); replace HK := am (KeepBut.trans (Y26) hk (.inl rfl)); replace HB := am (hb); replace HI0 := am (hi); (try clear hb); (try clear hb2); (try clear hk); (try clear hi)) | ((with_reducible refine gate_callee (f := 55) rfl ?_); refine gL (some 13) Try.func55 #[.pointer (some ⟨g, 0, none⟩), .int .i64 24] ?_; (with_reducible refine (spec_reader_pick.calls k g s0_0 t374 24 t375 t376 w0 _ ?side1 ?side2 A4.out).mono ?_); (case side1 => exact Y16); (case side2 => exact Y30); rintro e w73 ⟨rfl, hi, hb, hk⟩; refine ⟨_, rfl, ?_⟩; replace BK367 := am (KeepBut.blk hk (g' := gb367) (o := .cells #[.slice none 0 0] 32 (0, 0)) (kq BK367.out) NB367_0.out (by simp)); replace HO370 := am (Kd.R_mono (Kd.R_keep (IsS106.apart (show IsS106 w0 _ g s0_0 t374 from Y16) (rq HO370.out) (by decide)) hk (fun _ h => h.2)) (fun _ h => h.1)); replace BK372 := am (KeepBut.blk hk (g' := gb372) (o := .cells #[.slice Ao68 t368.length co68] 32 (0, 0)) (kq BK372.out) NB372_0.out (by simp)); replace HK := am (KeepBut.trans (Y26) hk (.inl rfl)); replace HB := am (hb); replace HI0 := am (hi); (try clear hb); (try clear hb2); (try clear hk); (try clear hi); have hcz74_0 := bc0 BK372.out; have hfz74_0 := blk_frozen BK372.out 0; have hnb75 := NB367_0.out; have hnc75 := NB0_367.out; have hcz76_0 := bc0 BK367.out; have hfz76_0 := blk_frozen BK367.out 0))
    refine bodyPost_ret (results_cell_row rfl _ _ gb367 32 #[.slice Ao68 t368.length co68] (0, 0) _ rfl (Y86) Try.underlying32 rfl (by kernel_rfl)) rfl ?_
    exact ⟨_, Y0, by (with_reducible repeat (first | apply Kd.R_alloc | apply Kd.R_drewN | apply Kd.R_drew)); exact Kd.R_mono (Kd.R_far (p := ⟨gb367, 0, none⟩) (Kd.R_types HO370.out BK367.out (by decide)) (fun _ hk => hk.2) (.slice Ao68 t368.length co68)) (fun _ hk => trivial), Y16, Y30, Y26⟩
mutual
def spec_aStatement.j0 : Nat → Int → Bool → Int → List Int → Int → List (S98) → Option ((List (S59)) × Int)
 | 0, _, _, _, _, _, _ => none
 | k + 1, x2, x3, x9, x1000, x1001, x390000 => if x9 < 4 then ((spec_reader_one.f k x1000 x1001 (([1, 2, 3, 4, 5] : List Int))).bind fun bt398 => (some ((([(⟨x2, 1, bt398.1, 0⟩ : S59)] : List (S59))), bt398.2))) else (if x9 < 6 then ((spec_reader_pick.f k x1000 x1001 (x390000.length : Int)).bind fun bt403 => ((spec_reader_one.f k x1000 bt403.2 (([1, 2, 3] : List Int))).bind fun bt408 => (some ((([(⟨x2, 2, bt403.1, bt408.1⟩ : S59)] : List (S59))), bt408.2)))) else (if x9 = 6 then (some ((([(⟨x2, 3, 0, 0⟩ : S59)] : List (S59))), x1001)) else (if x9 = 7 then (spec_aStatement.j1 k x2 x3 x9 x3 x1000 x1001 x390000 x2 0 0 0) else (spec_aStatement.j1 k x2 x3 x9 false x1000 x1001 x390000 x2 0 0 0))))
def spec_aStatement.j1 : Nat → Int → Bool → Int → Bool → List Int → Int → List (S98) → Int → Int → Int → Int → Option ((List (S59)) × Int)
 | 0, _, _, _, _, _, _, _, _, _, _, _ => none
 | k + 1, x2, x3, x9, x50, x1000, x1001, x390000, x395000, x395001, x395002, x395003 => if x50 = true then ((spec_reader_one.f k x1000 x1001 (([5, 6] : List Int))).bind fun bt419 => (some ((([(⟨x395000, bt419.1, x395002, x395003⟩ : S59)] : List (S59))), bt419.2))) else (if x9 = 7 then ((spec_reader_one.f k x1000 x1001 (([7, 8] : List Int))).bind fun bt427 => (some ((([(⟨x395000, 4, bt427.1, x395003⟩ : S59)] : List (S59))), bt427.2))) else (if x9 = 8 then (some ((([(⟨x395000, 0, x395002, x395003⟩ : S59)] : List (S59))), x1001)) else (if x9 < 11 then ((spec_reader_pick.f k x1000 x1001 4).bind fun bt435 => ((spec_reader_pick.f k x1000 bt435.2 2).bind fun bt437 => ((some (([(⟨x395000, 11, bt435.1, bt437.1⟩ : S59)] : List (S59)) : List (S59))).bind fun y439 => ((spec_aBlock.f k x1000 bt437.2 x390000 (wrap64 (x2 + 1)) x3).bind fun bt442 => (if y439.length + bt442.1.length < 4398046511104 then (some ((y439 ++ bt442.1), bt442.2)) else (none)))))) else (if x9 = 11 then ((spec_reader_one.f k x1000 x1001 (([2, 1, 3, 0] : List Int))).bind fun bt452 => ((some (([(⟨x395000, 12, bt452.1, x395003⟩ : S59)] : List (S59)) : List (S59))).bind fun y454 => ((spec_aBlock.f k x1000 bt452.2 x390000 (wrap64 (x2 + 1)) true).bind fun bt457 => (if y454.length + bt457.1.length < 4398046511104 then (some ((y454 ++ bt457.1), bt457.2)) else (none))))) else ((spec_aTry.f k x1000 x1001 x390000 x2 x3).bind fun bt464 => (some (bt464.1, bt464.2)))))))
def spec_aStatement.f : Nat → List Int → Int → List (S98) → Int → Bool → Option ((List (S59)) × Int)
 | 0, _, _, _, _, _ => none
 | k + 1, s0_0, s0_1, l1_0, a2, a3 => (spec_reader_pick.f k s0_0 s0_1 16).bind fun bt390 => (if a2 ≥ 3 then ((spec_reader_pick.f k s0_0 bt390.2 9).bind fun bt392 => (spec_aStatement.j0 k a2 a3 bt392.1 s0_0 bt392.2 l1_0)) else (spec_aStatement.j0 k a2 a3 bt390.1 s0_0 bt390.2 l1_0))
def spec_aBlock.l0 : Nat → Int → Bool → List (S59) → Int → List Int → Int → List (S98) → Option ((List (S59)) × Int)
 | 0, _, _, _, _, _, _, _ => none
 | k + 1, x2, x3, x9, x10, x1000, x1001, x469000 => if x10 > 0 then ((spec_aStatement.f k x1000 x1001 x469000 x2 x3).bind fun bt477 => (if x9.length + bt477.1.length < 4398046511104 then (spec_aBlock.l0 k x2 x3 (x9 ++ bt477.1) (wrap64 (x10 - 1)) x1000 bt477.2 x469000) else (none))) else (some (x9, x1001))
def spec_aBlock.f : Nat → List Int → Int → List (S98) → Int → Bool → Option ((List (S59)) × Int)
 | 0, _, _, _, _, _ => none
 | k + 1, s0_0, s0_1, l1_0, a2, a3 => (spec_reader_one.f k s0_0 s0_1 (([1, 2, 1, 2, 3] : List Int))).bind fun bt475 => (spec_aBlock.l0 k a2 a3 (([] : List (S59))) bt475.1 s0_0 bt475.2 l1_0)
def spec_aTry.l0 : Nat → Int → Bool → List (S59) → Int → Int → List Int → Int → List (S98) → Option ((List (S59)) × Int)
 | 0, _, _, _, _, _, _, _, _ => none
 | k + 1, x2, x3, x9, x10, x11, x1000, x1001, x485000 => if x11 > 0 then ((spec_reader_pick.f k x1000 x1001 (x485000.length : Int)).bind fun bt500 => ((spec_reader_one.f k x1000 bt500.2 (([bt500.1, 0] : List Int))).bind fun bt505 => (if x9.length < 4398046511104 then ((some (x9 ++ [(⟨x2, 8, bt505.1, 0⟩ : S59)] : List (S59))).bind fun y507 => ((spec_aBlock.f k x1000 bt505.2 x485000 (wrap64 (x2 + 1)) x3).bind fun bt510 => (if y507.length + bt510.1.length < 4398046511104 then (spec_aTry.l0 k x2 x3 (y507 ++ bt510.1) x10 (wrap64 (x11 - 1)) x1000 bt510.2 x485000) else (none)))) else (none)))) else (if x10 > 0 then ((spec_reader_pick.f k x1000 x1001 3).bind fun bt517 => (spec_aTry.j1 k x2 x3 x9 x10 (bt517.1 == 0) x1000 bt517.2 x485000)) else (spec_aTry.j1 k x2 x3 x9 x10 false x1000 x1001 x485000))
def spec_aTry.j1 : Nat → Int → Bool → List (S59) → Int → Bool → List Int → Int → List (S98) → Option ((List (S59)) × Int)
 | 0, _, _, _, _, _, _, _, _ => none
 | k + 1, x2, x3, x9, x10, x57, x1000, x1001, x485000 => if x57 = true then (if x9.length < 4398046511104 then ((some (x9 ++ [(⟨x2, 9, 0, 0⟩ : S59)] : List (S59))).bind fun y519 => ((spec_aBlock.f k x1000 x1001 x485000 (wrap64 (x2 + 1)) x3).bind fun bt522 => (if y519.length + bt522.1.length < 4398046511104 then (spec_aTry.j2 k x2 x3 (y519 ++ bt522.1) x10 x1000 bt522.2 x485000) else (none)))) else (none)) else (spec_aTry.j2 k x2 x3 x9 x10 x1000 x1001 x485000)
def spec_aTry.j2 : Nat → Int → Bool → List (S59) → Int → List Int → Int → List (S98) → Option ((List (S59)) × Int)
 | 0, _, _, _, _, _, _, _ => none
 | k + 1, x2, x3, x9, x10, x1000, x1001, x485000 => if x10 = 0 then (if x9.length < 4398046511104 then ((some (x9 ++ [(⟨x2, 10, 0, 0⟩ : S59)] : List (S59))).bind fun y531 => ((spec_aBlock.f k x1000 x1001 x485000 (wrap64 (x2 + 1)) x3).bind fun bt534 => (if y531.length + bt534.1.length < 4398046511104 then (some ((y531 ++ bt534.1), bt534.2)) else (none)))) else (none)) else ((spec_reader_pick.f k x1000 x1001 2).bind fun bt529 => (if bt529.1 = 0 then (if x9.length < 4398046511104 then ((some (x9 ++ [(⟨x2, 10, 0, 0⟩ : S59)] : List (S59))).bind fun y541 => ((spec_aBlock.f k x1000 bt529.2 x485000 (wrap64 (x2 + 1)) x3).bind fun bt544 => (if y541.length + bt544.1.length < 4398046511104 then (some ((y541 ++ bt544.1), bt544.2)) else (none)))) else (none)) else (some (x9, bt529.2))))
def spec_aTry.f : Nat → List Int → Int → List (S98) → Int → Bool → Option ((List (S59)) × Int)
 | 0, _, _, _, _, _ => none
 | k + 1, s0_0, s0_1, l1_0, a2, a3 => (some (([(⟨a2, 7, 0, 0⟩ : S59)] : List (S59)) : List (S59))).bind fun y485 => ((spec_aBlock.f k s0_0 s0_1 l1_0 (wrap64 (a2 + 1)) a3).bind fun bt488 => (if y485.length + bt488.1.length < 4398046511104 then ((spec_reader_one.f k s0_0 bt488.2 (([1, 2, 0, 1] : List Int))).bind fun bt498 => (spec_aTry.l0 k a2 a3 (y485 ++ bt488.1) bt498.1 bt498.1 s0_0 bt498.2 l1_0)) else (none)))
end
end Go.Proofs.Ytbcjbcjpoddkoaa.P
end
