/- One part of the proofs on this program: functions of the program as plain functions, that the code comes to them, and facts on them. -/
import Derived.Test.YtgbigghiegiejaaYAll1
import Derived.Test.YtgbigghiegiejaaYAll2
import Derived.Test.YtgbigghiegiejaaYAll3
import Derived.Test.YtgbigghiegiejaaYWAuto
section
namespace Go.Proofs.Ytgbigghiegiejaa.P
open Go.RowKit Go.Proofs.YtgbigghiegiejaaW.PrintWords Go.Proofs.YtgbigghiegiejaaW.PrintLast Go.Proofs.YtgbigghiegiejaaW.PrintMore
attribute [local go_sem] max2_int min2_int max_two min_two max_three min_three max_four min_four isSome_cell_setCell
set_option linter.unusedVariables false
set_option linter.unusedSimpArgs false
def inB (a lo hi : Int) : Bool := decide (lo ≤ a) && decide (a ≤ hi)
theorem impl_within_eq (a lo hi : Int) : impl_within.f a lo hi = some (inB a lo hi) := by
 unfold impl_within.f inB
 by_cases h : a ≥ lo
 ·rw [if_pos h]; simp [show lo ≤ a from h]
 ·rw [if_neg h]; simp [show ¬ lo ≤ a from h]
theorem impl_Line_opens_eq (a b c d : Int) : impl_Line_opens.f a b c d = some (inB b 7 12) := by
 unfold impl_Line_opens.f
 rw [impl_within_eq]; rfl
def VF (W : World) (B1 BL BT : Nat) (a x : S50) (tv : Value) : Prop :=
 W.heap[B1]? = some (.cells #[.int .i64 a.f0, .int .i64 a.f1, .int .i64 a.f2, .int .i64 a.f3] 50 (0, 0)) ∧ W.heap[BL]? = some (.cells #[.int .i64 x.f0, .int .i64 x.f1, .int .i64 x.f2, .int .i64 x.f3] 50 (0, 0)) ∧ W.cell? ⟨BT, 0, none⟩ = some tv
theorem VF.below {W W' : World} {B1 BL BT : Nat} {a x : S50} {tv : Value} (h : VF W B1 BL BT a x tv) (hb : Below W.heap.size W W') : VF W' B1 BL BT a x tv :=
 ⟨(hb.block _ (blk_lt h.1)).trans h.1, (hb.block _ (blk_lt h.2.1)).trans h.2.1, pw_cell_below hb h.2.2⟩
theorem VF.cells {W : World} {B1 BL BT : Nat} {a x : S50} {tv : Value} (h : VF W B1 BL BT a x tv) :
  W.cell? ⟨B1, 0, none⟩ = some (.int .i64 a.f0) ∧ W.cell? ⟨B1, 1, none⟩ = some (.int .i64 a.f1) ∧ W.cell? ⟨B1, 2, none⟩ = some (.int .i64 a.f2) ∧ W.cell? ⟨B1, 3, none⟩ = some (.int .i64 a.f3) ∧
  W.cell? ⟨BL, 0, none⟩ = some (.int .i64 x.f0) ∧ W.cell? ⟨BL, 1, none⟩ = some (.int .i64 x.f1) ∧ W.cell? ⟨BL, 2, none⟩ = some (.int .i64 x.f2) ∧ W.cell? ⟨BL, 3, none⟩ = some (.int .i64 x.f3) ∧ W.cell? ⟨BT, 0, none⟩ = some tv :=
 ⟨(blk_cell h.1 0).trans rfl, (blk_cell h.1 1).trans rfl, (blk_cell h.1 2).trans rfl, (blk_cell h.1 3).trans rfl, (blk_cell h.2.1 0).trans rfl, (blk_cell h.2.1 1).trans rfl, (blk_cell h.2.1 2).trans rfl, (blk_cell h.2.1 3).trans rfl, h.2.2⟩
theorem VF.frozen {W : World} {B1 BL BT : Nat} {a x : S50} {tv : Value} (h : VF W B1 BL BT a x tv) : W.frozen? ⟨B1, 0, none⟩ = false ∧ W.frozen? ⟨B1, 1, none⟩ = false ∧ W.frozen? ⟨B1, 2, none⟩ = false ∧ W.frozen? ⟨B1, 3, none⟩ = false :=
 ⟨blk_frozen h.1 0, blk_frozen h.1 1, blk_frozen h.1 2, blk_frozen h.1 3⟩
theorem four_stored {W : World} {B T : Nat} {a b c d a' b' c' d' : Value} (h : W.heap[B]? = some (.cells #[a, b, c, d] T (0, 0))) :
  ((((W.setCell ⟨B, 0, none⟩ a').setCell ⟨B, 1, none⟩ b').setCell ⟨B, 2, none⟩ c').setCell ⟨B, 3, none⟩ d').heap[B]? = some (.cells #[a', b', c', d'] T (0, 0)) := by
 have h0 := blk_set h 0 a'
 have h1 := blk_set h0 1 b'
 have h2 := blk_set h1 2 c'
 have h3 := blk_set h2 3 d'
 simpa using h3
theorem four_below {W w : World} {base B : Nat} {a' b' c' d' : Value} (h : Below base w W) (hB : base ≤ B) :
  Below base w ((((W.setCell ⟨B, 0, none⟩ a').setCell ⟨B, 1, none⟩ b').setCell ⟨B, 2, none⟩ c').setCell ⟨B, 3, none⟩ d') :=
 (((h.setCell (p := ⟨B, 0, none⟩) hB _).setCell (p := ⟨B, 1, none⟩) hB _).setCell (p := ⟨B, 2, none⟩) hB _).setCell (p := ⟨B, 3, none⟩) hB _
theorem four_far {W : World} {B C : Nat} {a' b' c' d' v : Value} (h : W.cell? ⟨C, 0, none⟩ = some v) (hne : B ≠ C) :
  ((((W.setCell ⟨B, 0, none⟩ a').setCell ⟨B, 1, none⟩ b').setCell ⟨B, 2, none⟩ c').setCell ⟨B, 3, none⟩ d').cell? ⟨C, 0, none⟩ = some v := by
 have e : ∀ j, (⟨B, j, none⟩ : Addr) ≠ ⟨C, 0, none⟩ := fun j hj => hne (by injection hj)
 rw [World.cell?_setCell_other (h := e 3), World.cell?_setCell_other (h := e 2), World.cell?_setCell_other (h := e 1), World.cell?_setCell_other (h := e 0)]
 exact h
def impl_ValidProgram.bad (x last : S50) : Bool := !inB x.f0 0 5 || (inB last.f1 7 12 && decide (x.f0 ≠ last.f0 + 1)) || (!inB last.f1 7 12 && decide (last.f0 < x.f0))
def impl_ValidProgram.go (k : Nat) (t : List S63) : List S50 → S50 → Option (Option S50)
 | [], last => some (some last)
 | x :: xs, last => (impl_Line_argued.f k x.f0 x.f1 x.f2 x.f3 t).bind fun v => if v = false then some none else if impl_ValidProgram.bad x last then some none else impl_ValidProgram.go k t xs x
def impl_ValidProgram.f (k : Nat) (l0_0 : List S63) (l1 : List S50) : Option Bool := (impl_ValidTree.f k l0_0).bind fun v =>
 if v = false then some false else if 24 < l1.length then some false else
 (impl_ValidProgram.go k l0_0 l1 ⟨-1, 7, 0, 0⟩).bind fun q => match q with
 | none => some false
 | some last => if l1.length = 0 then impl_blockOk.f k l1 0 (l1.length : Int) false else if inB last.f1 7 12 then some false else impl_blockOk.f k l1 0 (l1.length : Int) false
theorem impl_ValidProgram.step {k : Nat} {t : List S63} {p : List S50} {n : Nat} {last : S50} {q : Option S50} (hn : n < p.length) (h : impl_ValidProgram.go k t (p.drop n) last = some q) :
  ∃ v, impl_Line_argued.f k p[n].f0 p[n].f1 p[n].f2 p[n].f3 t = some v ∧ (if v = false then some none else if impl_ValidProgram.bad p[n] last then some none else impl_ValidProgram.go k t (p.drop (n + 1)) p[n]) = some q := by
 rw [List.drop_eq_getElem_cons hn] at h
 exact Option.bind_eq_some_iff.mp h
set_option maxHeartbeats 8000000 in
set_option maxRecDepth 100000 in
theorem impl_ValidProgram.calls (k : Nat) (A0_0 : Option Addr) (c0_0 : Nat) (l0_0 : List S63) (A1 : Option Addr) (c1 : Nat) (l1 : List S50) (r : Bool) (w : World) (hr0_0 : Kd.C k63 w A0_0 l0_0.length l0_0) (hc0_0 : l0_0.length ≤ c0_0) (hr1 : Kd.C k50 w A1 l1.length l1) (hc1 : l1.length ≤ c1) (h : impl_ValidProgram.f k l0_0 l1 = some r) :
  Calls Try.prog 37 #[.agg #[.slice A0_0 l0_0.length c0_0], .slice A1 l1.length c1] w fun e w' => e = .returned (.bool r) ∧ Below w.heap.size w w' := by
 have hu33 := Try.underlying33
 have hu50 := Try.underlying50
 have hm : l1.length ≤ 9223372036854775807 := Kd.C_max hr1
 obtain ⟨v, hv, h⟩ := Option.bind_eq_some_iff.mp h
 have HV := am (fun W (hb : Below w.heap.size w W) => impl_ValidTree.calls k A0_0 c0_0 l0_0 v W (Kd.C_below hr0_0 hb) hc0_0 hv)
 have HR0 := am hr0_0
 have HR1 := am hr1
 clear hv hr0_0 hr1
 cases v with
 | false =>
  obtain rfl : false = r := by simpa using h
  clear h
  go_enter Try.func37, Try.ntmps37
  go_wp2_with (go_at_call 48; refine (HV.out _ ((Below.refl _ _).alloc (Nat.le_refl _) _)).mono ?_; rintro e w' ⟨rfl, hb2⟩)
  go_ret
  exact ⟨rfl, ((Below.refl _ _).alloc (Nat.le_refl _) _).trans (hb2.mono (by simp))⟩
 | true =>
  simp only [Bool.true_eq_false, if_false] at h
  by_cases h24 : 24 < l1.length
  ·rw [if_pos h24] at h
   obtain rfl : false = r := by simpa using h
   have h24b : decide (24 < l1.length) = true := decide_eq_true h24
   clear h
   go_enter Try.func37, Try.ntmps37
   go_wp2_with (go_at_call 48; refine (HV.out _ ((Below.refl _ _).alloc (Nat.le_refl _) _)).mono ?_; rintro e w' ⟨rfl, hb2⟩)
   go_ret
   exact ⟨rfl, ((Below.refl _ _).alloc (Nat.le_refl _) _).trans (hb2.mono (by simp))⟩
  ·rw [if_neg h24] at h
   have h24b : decide (24 < l1.length) = false := decide_eq_false h24
   obtain ⟨q, hq, h⟩ := Option.bind_eq_some_iff.mp h
   have H0 := am hq
   have HZ := am h
   clear h hq
   go_enter Try.func37, Try.ntmps37
   go_wp2_with (go_at_call 48; refine (HV.out _ ((Below.refl _ _).alloc (Nat.le_refl _) _)).mono ?_; rintro e w2 ⟨rfl, hb2⟩; have HB2 := am (((Below.refl w.heap.size w).alloc (Nat.le_refl _) (.cells #[.slice A0_0 l0_0.length c0_0] 33)).trans (hb2.mono (by simp))); have hs2 : w.heap.size < w2.heap.size := Nat.lt_of_lt_of_le (by simp) hb2.size; have ht2 := pw_cell_below hb2 (show (w.alloc (.cells #[.slice A0_0 l0_0.length c0_0] 33)).cell? ⟨w.heap.size, 0, none⟩ = some (.slice A0_0 l0_0.length c0_0) by simp); clear hb2)
   obtain ⟨B1, hB1⟩ : ∃ B1, B1 = w2.heap.size := ⟨_, rfl⟩
   have HBK := am (show (w2.alloc (.cells #[.int .i64 (-1), .int .i64 7, .int .i64 0, .int .i64 0] 50)).heap[B1]? = some (.cells #[.int .i64 (-1), .int .i64 7, .int .i64 0, .int .i64 0] 50 (0, 0)) by rw [hB1]; exact heap_alloc_new w2 _)
   have hBl := am (HB2.out.alloc (Nat.le_of_lt hs2) (.cells #[.int .i64 (-1), .int .i64 7, .int .i64 0, .int .i64 0] 50))
   have hT := am (show (w2.alloc (.cells #[.int .i64 (-1), .int .i64 7, .int .i64 0, .int .i64 0] 50)).cell? ⟨w.heap.size, 0, none⟩ = some (.slice A0_0 l0_0.length c0_0) by simp [World.cell?_alloc_old, Nat.ne_of_lt hs2, ht2])
   rw [← hB1]
   have hlt1 : w.heap.size < B1 := by omega
   clear hB1
   generalize w2.alloc (.cells #[.int .i64 (-1), .int .i64 7, .int .i64 0, .int .i64 0] 50) = w3 at HBK hBl hT ⊢
   clear ht2 hs2 HB2 HV
   go_loopw [19] (fun i19 wr => ∃ (n : Nat) (last : S50), i19 = .int .i64 n ∧ n ≤ l1.length ∧ -1 ≤ last.f0 ∧ last.f0 ≤ 5 ∧ Aside0 (impl_ValidProgram.go k l0_0 (l1.drop n) last = some q) ∧ Aside0 (wr.heap[B1]? = some (.cells #[.int .i64 last.f0, .int .i64 last.f1, .int .i64 last.f2, .int .i64 last.f3] 50 (0, 0))) ∧ Aside0 (wr.cell? ⟨w.heap.size, 0, none⟩ = some (.slice A0_0 l0_0.length c0_0)) ∧ Aside0 (Below w.heap.size w wr)) (fun i19 _ => l1.length - (intOf i19).toNat)
   case atStart => exact ⟨0, ⟨-1, 7, 0, 0⟩, rfl, Nat.zero_le _, by simp, by simp, H0, HBK, hT, hBl⟩
   case round =>
    clear H0 HBK hT hBl
    obtain ⟨n, last, rfl, hn, hlo, hhi, HA, HBK, HT, HB⟩ := hrel
    have ht2 := HT.out
    have g0 : wr.cell? ⟨B1, 0, none⟩ = some (.int .i64 last.f0) := (blk_cell HBK.out 0).trans rfl
    have g1 : wr.cell? ⟨B1, 1, none⟩ = some (.int .i64 last.f1) := (blk_cell HBK.out 1).trans rfl
    have g2 : wr.cell? ⟨B1, 2, none⟩ = some (.int .i64 last.f2) := (blk_cell HBK.out 2).trans rfl
    have g3 : wr.cell? ⟨B1, 3, none⟩ = some (.int .i64 last.f3) := (blk_cell HBK.out 3).trans rfl
    have hBw : B1 < wr.heap.size := blk_lt HBK.out
    have hne : B1 ≠ wr.heap.size := by omega
    have hne2 : w.heap.size ≠ wr.heap.size := by omega
    have hTw : w.heap.size < wr.heap.size := by omega
    by_cases hlt : n < l1.length
    ·obtain ⟨v, hv, hs⟩ := impl_ValidProgram.step hlt HA.out
     clear HA
     obtain ⟨ad, rfl, hx0, hx1, hx2, hx3⟩ := at_T50 HR1.out (n : Int) (by omega) (by omega)
     have hrd : rd_T50 l1 (n : Int) = l1[n] := by simp [rd_T50, List.getD_eq_getElem?_getD, hlt]
     rw [hrd, Int.toNat_natCast] at hx0 hx1 hx2 hx3
     clear hrd
     generalize l1[n] = x at hv hs hx0 hx1 hx2 hx3
     have hb := HB.out
     replace hx0 := pw_cell_below hb hx0
     replace hx1 := pw_cell_below hb hx1
     replace hx2 := pw_cell_below hb hx2
     replace hx3 := pw_cell_below hb hx3
     clear hb
     have HG := am (fun W (hb : Below w.heap.size w W) => impl_Line_argued.calls k x.f0 x.f1 x.f2 x.f3 A0_0 c0_0 l0_0 v W (Kd.C_below HR0.out hb) hc0_0 hv)
     clear hv
     cases v with
     | false =>
      obtain rfl : none = q := by simpa using hs
      obtain rfl : false = r := by simpa using HZ.out
      clear hs HZ
      go_wp2_with (go_at_call 49; refine (HG.out _ (HB.out.alloc HB.out.size _)).mono ?_; rintro e w4 ⟨rfl, hb4⟩)
      go_ret
      exact ⟨rfl, below_then (HB.out.alloc HB.out.size _) (by simp; have := HB.out.size; omega) hb4⟩
     | true =>
      simp only [Bool.true_eq_false, if_false] at hs
      have V0 := am (show VF (wr.alloc (.cells #[.int .i64 x.f0, .int .i64 x.f1, .int .i64 x.f2, .int .i64 x.f3] 50)) B1 wr.heap.size w.heap.size last x (.slice A0_0 l0_0.length c0_0) from ⟨(heap_alloc_old wr _ hBw).trans HBK.out, heap_alloc_new wr _, by rw [World.cell?_alloc_old _ _ _ hne2]; exact HT.out⟩)
      have HO := am (fun W => impl_Line_opens.calls last.f0 last.f1 last.f2 last.f3 _ W (impl_Line_opens_eq _ _ _ _))
      clear g0 g1 g2 g3
      have tok1 : True := trivial
      have HS := am hs
      clear hs
      cases h5 : inB x.f0 0 5 with
      | false =>
       have H5 := am h5
       obtain rfl : none = q := by simpa [impl_ValidProgram.bad, h5] using HS.out
       obtain rfl : false = r := by simpa using HZ.out
       clear HS HZ h5
       go_wp2_with (first | (go_at_call 49; refine (HG.out _ (HB.out.alloc HB.out.size _)).mono ?_; rintro e w4 ⟨rfl, hb4⟩; have V4 := am (VF.below V0.out hb4); have HB4 := am (below_then (HB.out.alloc HB.out.size _) (by simp; have := HB.out.size; omega) hb4); clear hb4; obtain ⟨g0, g1, g2, g3, e0, e1, e2, e3, ht4⟩ := VF.cells V4.out) | (go_at_call 50; refine (impl_within.calls _ _ _ _ _ (impl_within_eq _ _ _)).mono ?_; rintro e w5 ⟨rfl, ⟨nd, rfl⟩⟩; rw [H5.out]))
       go_ret
       exact ⟨rfl, pw_below_drewN HB4.out _⟩
      | true =>
       have H5 := am h5
       have hx5 : 0 ≤ x.f0 ∧ x.f0 ≤ 5 := by simpa [inB] using h5
       cases ho : inB last.f1 7 12 with
       | true =>
        rw [ho] at HO
        by_cases hd : x.f0 = last.f0 + 1
        ·have hb1 : (x.f0 != last.f0 + 1) = false := by simpa using hd
         have hbad : impl_ValidProgram.bad x last = false := by unfold impl_ValidProgram.bad; rw [h5, ho]; simp [hd]
         have HN := am (by have := HS.out; rw [hbad] at this; simpa using this : impl_ValidProgram.go k l0_0 (l1.drop (n + 1)) x = some q)
         clear hbad
         clear HS hd h5 ho
         go_wp2_with (first | (go_at_call 49; refine (HG.out _ (HB.out.alloc HB.out.size _)).mono ?_; rintro e w4 ⟨rfl, hb4⟩; have V4 := am (VF.below V0.out hb4); have HB4 := am (below_then (HB.out.alloc HB.out.size _) (by simp; have := HB.out.size; omega) hb4); clear hb4; obtain ⟨g0, g1, g2, g3, e0, e1, e2, e3, ht4⟩ := VF.cells V4.out) | (go_at_call 50; refine (impl_within.calls _ _ _ _ _ (impl_within_eq _ _ _)).mono ?_; rintro e w5 ⟨rfl, ⟨nd, rfl⟩⟩; rw [H5.out]) | (go_at_call 51; have tk1 := tok1; clear tok1; refine (HO.out _).mono ?_; rintro e w6 ⟨rfl, hb6⟩; have V6 := am (VF.below (W := World.drewN _ _) V4.out hb6); have HB6 := am (below_then (w1 := World.drewN _ _) (show Below w.heap.size w (World.drewN _ _) from ⟨HB4.out.os, HB4.out.tape, HB4.out.output, HB4.out.size, HB4.out.block⟩) HB4.out.size hb6); clear hb6 g0 g1 g2 g3 e0 e1 e2 e3 ht4; obtain ⟨g0, g1, g2, g3, e0, e1, e2, e3, ht4⟩ := VF.cells V6.out) | (go_at_call 51; refine (HO.out _).mono ?_; rintro e w7 ⟨rfl, hb7⟩; have V7 := am (VF.below V6.out hb7); have HB7 := am (below_then HB6.out HB6.out.size hb7); clear hb7 g0 g1 g2 g3 e0 e1 e2 e3 ht4; obtain ⟨g0, g1, g2, g3, e0, e1, e2, e3, ht4⟩ := VF.cells V7.out; obtain ⟨f0, f1, f2, f3⟩ := VF.frozen V7.out))
         go_roundw
         case rel => exact ⟨n + 1, x, by go_num, hlt, by omega, by omega, HN, ⟨four_stored V7.out.1⟩, ⟨four_far V7.out.2.2 (by omega)⟩, ⟨four_below HB7.out (by omega)⟩⟩
         case measure => simp [intOf]; omega
        ·have hb1 : (x.f0 != last.f0 + 1) = true := by simpa using hd
         obtain rfl : none = q := by simpa [impl_ValidProgram.bad, h5, ho, hd] using HS.out
         obtain rfl : false = r := by simpa using HZ.out
         clear HS HZ hd h5 ho
         go_wp2_with (first | (go_at_call 49; refine (HG.out _ (HB.out.alloc HB.out.size _)).mono ?_; rintro e w4 ⟨rfl, hb4⟩; have V4 := am (VF.below V0.out hb4); have HB4 := am (below_then (HB.out.alloc HB.out.size _) (by simp; have := HB.out.size; omega) hb4); clear hb4; obtain ⟨g0, g1, g2, g3, e0, e1, e2, e3, ht4⟩ := VF.cells V4.out) | (go_at_call 50; refine (impl_within.calls _ _ _ _ _ (impl_within_eq _ _ _)).mono ?_; rintro e w5 ⟨rfl, ⟨nd, rfl⟩⟩; rw [H5.out]) | (go_at_call 51; have tk1 := tok1; clear tok1; refine (HO.out _).mono ?_; rintro e w6 ⟨rfl, hb6⟩; have V6 := am (VF.below (W := World.drewN _ _) V4.out hb6); have HB6 := am (below_then (w1 := World.drewN _ _) (show Below w.heap.size w (World.drewN _ _) from ⟨HB4.out.os, HB4.out.tape, HB4.out.output, HB4.out.size, HB4.out.block⟩) HB4.out.size hb6); clear hb6 g0 g1 g2 g3 e0 e1 e2 e3 ht4; obtain ⟨g0, g1, g2, g3, e0, e1, e2, e3, ht4⟩ := VF.cells V6.out))
         go_ret
         exact ⟨rfl, HB6.out⟩
       | false =>
        rw [ho] at HO
        by_cases hd : last.f0 < x.f0
        ·have hb1 : decide (last.f0 < x.f0) = true := decide_eq_true hd
         have hbad : impl_ValidProgram.bad x last = true := by unfold impl_ValidProgram.bad; rw [h5, ho]; simp [hd]
         obtain rfl : none = q := by have := HS.out; rw [hbad] at this; simpa using this
         obtain rfl : false = r := by simpa using HZ.out
         clear HS HZ hd h5 ho hbad
         go_wp2_with (first | (go_at_call 49; refine (HG.out _ (HB.out.alloc HB.out.size _)).mono ?_; rintro e w4 ⟨rfl, hb4⟩; have V4 := am (VF.below V0.out hb4); have HB4 := am (below_then (HB.out.alloc HB.out.size _) (by simp; have := HB.out.size; omega) hb4); clear hb4; obtain ⟨g0, g1, g2, g3, e0, e1, e2, e3, ht4⟩ := VF.cells V4.out) | (go_at_call 50; refine (impl_within.calls _ _ _ _ _ (impl_within_eq _ _ _)).mono ?_; rintro e w5 ⟨rfl, ⟨nd, rfl⟩⟩; rw [H5.out]) | (go_at_call 51; have tk1 := tok1; clear tok1; refine (HO.out _).mono ?_; rintro e w6 ⟨rfl, hb6⟩; have V6 := am (VF.below (W := World.drewN _ _) V4.out hb6); have HB6 := am (below_then (w1 := World.drewN _ _) (show Below w.heap.size w (World.drewN _ _) from ⟨HB4.out.os, HB4.out.tape, HB4.out.output, HB4.out.size, HB4.out.block⟩) HB4.out.size hb6); clear hb6 g0 g1 g2 g3 e0 e1 e2 e3 ht4; obtain ⟨g0, g1, g2, g3, e0, e1, e2, e3, ht4⟩ := VF.cells V6.out) | (go_at_call 51; refine (HO.out _).mono ?_; rintro e w7 ⟨rfl, hb7⟩; have V7 := am (VF.below V6.out hb7); have HB7 := am (below_then HB6.out HB6.out.size hb7); clear hb7 g0 g1 g2 g3 e0 e1 e2 e3 ht4; obtain ⟨g0, g1, g2, g3, e0, e1, e2, e3, ht4⟩ := VF.cells V7.out; obtain ⟨f0, f1, f2, f3⟩ := VF.frozen V7.out))
         go_ret
         exact ⟨rfl, HB7.out⟩
        ·have hb1 : decide (last.f0 < x.f0) = false := decide_eq_false hd
         have hbad : impl_ValidProgram.bad x last = false := by unfold impl_ValidProgram.bad; rw [h5, ho]; simp [hd]
         have HN := am (by have := HS.out; rw [hbad] at this; simpa using this : impl_ValidProgram.go k l0_0 (l1.drop (n + 1)) x = some q)
         clear hbad HS hd h5 ho
         go_wp2_with (first | (go_at_call 49; refine (HG.out _ (HB.out.alloc HB.out.size _)).mono ?_; rintro e w4 ⟨rfl, hb4⟩; have V4 := am (VF.below V0.out hb4); have HB4 := am (below_then (HB.out.alloc HB.out.size _) (by simp; have := HB.out.size; omega) hb4); clear hb4; obtain ⟨g0, g1, g2, g3, e0, e1, e2, e3, ht4⟩ := VF.cells V4.out) | (go_at_call 50; refine (impl_within.calls _ _ _ _ _ (impl_within_eq _ _ _)).mono ?_; rintro e w5 ⟨rfl, ⟨nd, rfl⟩⟩; rw [H5.out]) | (go_at_call 51; have tk1 := tok1; clear tok1; refine (HO.out _).mono ?_; rintro e w6 ⟨rfl, hb6⟩; have V6 := am (VF.below (W := World.drewN _ _) V4.out hb6); have HB6 := am (below_then (w1 := World.drewN _ _) (show Below w.heap.size w (World.drewN _ _) from ⟨HB4.out.os, HB4.out.tape, HB4.out.output, HB4.out.size, HB4.out.block⟩) HB4.out.size hb6); clear hb6 g0 g1 g2 g3 e0 e1 e2 e3 ht4; obtain ⟨g0, g1, g2, g3, e0, e1, e2, e3, ht4⟩ := VF.cells V6.out) | (go_at_call 51; refine (HO.out _).mono ?_; rintro e w7 ⟨rfl, hb7⟩; have V7 := am (VF.below V6.out hb7); have HB7 := am (below_then HB6.out HB6.out.size hb7); clear hb7 g0 g1 g2 g3 e0 e1 e2 e3 ht4; obtain ⟨g0, g1, g2, g3, e0, e1, e2, e3, ht4⟩ := VF.cells V7.out; obtain ⟨f0, f1, f2, f3⟩ := VF.frozen V7.out))
         go_roundw
         case rel => exact ⟨n + 1, x, by go_num, hlt, by omega, by omega, HN, ⟨four_stored V7.out.1⟩, ⟨four_far V7.out.2.2 (by omega)⟩, ⟨four_below HB7.out (by omega)⟩⟩
         case measure => simp [intOf]; omega
    ·have hgo := HA.out
     rw [List.drop_eq_nil_of_le (by omega)] at hgo
     obtain rfl : some last = q := by simpa [impl_ValidProgram.go] using hgo
     clear hgo HA
     have HY := am HZ.out
     clear HZ
     by_cases h0 : l1.length = 0
     ·have hy := HY.out
      simp only [if_pos h0] at hy
      have HQ := am (fun W (hb : Below w.heap.size w W) => impl_blockOk.calls k A1 c1 l1 0 (l1.length : Int) false r W (Kd.C_below HR1.out hb) hc1 hy)
      have HBX := HB.out
      clear hy HY
      have hz1 : ((l1.length : Int) == 0) = true := by simp [h0]
      have hz2 : (l1.length == 0) = true := by simp [h0]
      clear h0
      go_wp2_with (first | (go_at_call 52; refine (HQ.out _ HBX).mono ?_; rintro e w9 ⟨rfl, hb9⟩; have HB9 := am (below_then HBX HBX.size hb9)))
      go_ret
      exact ⟨rfl, HB9.out⟩
     ·have hz1 : ((l1.length : Int) == 0) = false := by simpa using h0
      have hz2 : (l1.length == 0) = false := by simpa using h0
      have HO := am (fun W => impl_Line_opens.calls last.f0 last.f1 last.f2 last.f3 _ W (impl_Line_opens_eq _ _ _ _))
      have hy := HY.out
      simp only [if_neg h0] at hy
      clear HY
      cases ho : inB last.f1 7 12 with
      | true =>
       rw [ho] at HO hy
       obtain rfl : false = r := by simpa using hy
       clear hy ho h0
       go_wp2_with (first | (go_at_call 51; refine (HO.out _).mono ?_; rintro e w6 ⟨rfl, hb6⟩; have HBX := below_then HB.out HB.out.size hb6; clear hb6))
       go_ret
       exact ⟨rfl, HBX⟩
      | false =>
       rw [ho] at HO hy
       simp only [Bool.false_eq_true, if_false] at hy
       have HQ := am (fun W (hb : Below w.heap.size w W) => impl_blockOk.calls k A1 c1 l1 0 (l1.length : Int) false r W (Kd.C_below HR1.out hb) hc1 hy)
       clear hy ho h0
       go_wp2_with (first | (go_at_call 51; refine (HO.out _).mono ?_; rintro e w6 ⟨rfl, hb6⟩; have HBX := below_then HB.out HB.out.size hb6; clear hb6) | (go_at_call 52; refine (HQ.out _ HBX).mono ?_; rintro e w9 ⟨rfl, hb9⟩; have HB9 := am (below_then HBX HBX.size hb9)))
       go_ret
       exact ⟨rfl, HB9.out⟩
def impl_bothValid.f (k : Nat) (l0_0 : List (S63)) (l1 : List (S50)) (l2 : List (S50)) : Option (Bool) := (impl_ValidProgram.f k l0_0 l1).bind fun t266 => (if t266 = true then ((impl_ValidProgram.f k l0_0 l2).bind fun t267 => (some t267)) else (some false))
set_option maxHeartbeats 8000000 in
set_option maxRecDepth 100000 in
theorem impl_bothValid.calls (k : Nat) (A0_0 : Option Addr) (c0_0 : Nat) (l0_0 : List (S63)) (A1 : Option Addr) (c1 : Nat) (l1 : List (S50)) (A2 : Option Addr) (c2 : Nat) (l2 : List (S50)) (r : Bool) (w : World) (hr0_0 : Kd.C k63 w A0_0 l0_0.length l0_0) (hc0_0 : l0_0.length ≤ c0_0) (hr1 : Kd.C k50 w A1 l1.length l1) (hc1 : l1.length ≤ c1) (hr2 : Kd.C k50 w A2 l2.length l2) (hc2 : l2.length ≤ c2) (h : impl_bothValid.f k l0_0 l1 l2 = some r) :
  Calls Try.prog 29 #[.agg #[.slice A0_0 l0_0.length c0_0], .slice A1 l1.length c1, .slice A2 l2.length c2] w fun e w' => e = .returned (.bool r) ∧ Below w.heap.size w w' := by
 have hu33 := Try.underlying33
 have HR0_0 := am hr0_0
 have HC0_0 := am hc0_0
 clear hr0_0 hc0_0
 have HR1 := am hr1
 have HC1 := am hc1
 clear hr1 hc1
 have HR2 := am hr2
 have HC2 := am hc2
 clear hr2 hc2
 have HB := am (Below.refl w.heap.size w)
 have H : ((impl_ValidProgram.f k l0_0 l1).bind fun t266 => (if t266 = true then ((impl_ValidProgram.f k l0_0 l2).bind fun t267 => (some t267)) else (some false))) = some r := h
 clear h
 replace H := Option.bind_eq_some_iff.mp H
 obtain ⟨t266, A40, H⟩ := H
 replace H : (if t266 = true then ((impl_ValidProgram.f k l0_0 l2).bind fun t267 => (some t267)) else (some false)) = some r := H
 have A4 := am A40
 clear A40
 by_cases c5 : t266 = true
 ·subst c5
  have H1 : ((impl_ValidProgram.f k l0_0 l2).bind fun t267 => (some t267)) = some r := by rw [if_pos rfl] at H; exact H
  clear H
  have H := H1
  clear H1
  replace H := Option.bind_eq_some_iff.mp H
  obtain ⟨t267, A60, H⟩ := H
  replace H : (some t267) = some r := H
  have A6 := am A60
  clear A60
  obtain rfl := Option.some.inj H
  go_enter Try.func29, Try.ntmps29
  go_wp2_with (first | ((with_reducible refine gate_dst (N := 3) rfl ?_); refine bE (N := 3) (cs := #[.slice A0_0 l0_0.length c0_0]) (t := 33) ?_; intro gb265 hg w7 hbox hb; have BK265 := am (hbox); have GW265 := am ((Y0 : w.heap.size ≤ gb265)); have GE265 := am ((Y0 : w.heap.size ≤ gb265)); replace HB := am (below_step (bq) hb); clear hb hbox hg; have hcz8_0 := bc0 BK265.out; have hfz8_0 := blk_frozen BK265.out 0) | ((with_reducible refine gate_callee (f := 37) rfl ?_); refine gL (some 9) Try.func37 #[.agg #[.slice A0_0 l0_0.length c0_0], .slice A1 l1.length c1] ?_; (with_reducible refine (impl_ValidProgram.calls k _ _ l0_0 _ _ l1 true _ ?side1 ?side2 ?side3 ?side4 A4.out).mono ?_); (case side1 => exact cq (Kd.C_below HR0_0.out HB.out)); (case side2 => exact HC0_0.out); (case side3 => exact cq (Kd.C_below HR1.out HB.out)); (case side4 => exact HC1.out); rintro e w9 ⟨rfl, hb⟩; refine ⟨_, rfl, ?_⟩; replace BK265 := am (blk_below (g := gb265) (o := .cells #[.slice A0_0 l0_0.length c0_0] 33 (0, 0)) (kq BK265.out) hb); replace HB := am (below_step (Y39) hb); (try clear hb); (try clear hb2); (try clear hk); (try clear hi); have hcz10_0 := bc0 BK265.out; have hfz10_0 := blk_frozen BK265.out 0) | (go_at_call 37; (with_reducible refine (impl_ValidProgram.calls k _ _ l0_0 _ _ l2 t267 _ ?side1 ?side2 ?side3 ?side4 A6.out).mono ?_); (case side1 => exact cq (Kd.C_below HR0_0.out HB.out)); (case side2 => exact HC0_0.out); (case side3 => exact cq (Kd.C_below HR2.out HB.out)); (case side4 => exact HC2.out); rintro e w11 ⟨rfl, hb⟩; replace BK265 := am (blk_below (g := gb265) (o := .cells #[.slice A0_0 l0_0.length c0_0] 33 (0, 0)) (kq BK265.out) hb); replace HB := am (below_step (Y39) hb); (try clear hb); (try clear hb2); (try clear hk); (try clear hi)))
  go_ret
  exact ⟨Y1, Y39⟩
 ·replace c5 := Bool.eq_false_iff.mpr c5
  subst c5
  have H1 : (some false) = some r := by rw [if_neg (show ¬ (false = true) by decide)] at H; exact H
  clear H
  have H := H1
  clear H1
  obtain rfl := Option.some.inj H
  go_enter Try.func29, Try.ntmps29
  go_wp2_with (first | ((with_reducible refine gate_dst (N := 3) rfl ?_); refine bE (N := 3) (cs := #[.slice A0_0 l0_0.length c0_0]) (t := 33) ?_; intro gb265 hg w12 hbox hb; have BK265 := am (hbox); have GW265 := am ((Y0 : w.heap.size ≤ gb265)); have GE265 := am ((Y0 : w.heap.size ≤ gb265)); replace HB := am (below_step (bq) hb); clear hb hbox hg; have hcz13_0 := bc0 BK265.out; have hfz13_0 := blk_frozen BK265.out 0) | ((with_reducible refine gate_callee (f := 37) rfl ?_); refine gL (some 9) Try.func37 #[.agg #[.slice A0_0 l0_0.length c0_0], .slice A1 l1.length c1] ?_; (with_reducible refine (impl_ValidProgram.calls k _ _ l0_0 _ _ l1 false _ ?side1 ?side2 ?side3 ?side4 A4.out).mono ?_); (case side1 => exact cq (Kd.C_below HR0_0.out HB.out)); (case side2 => exact HC0_0.out); (case side3 => exact cq (Kd.C_below HR1.out HB.out)); (case side4 => exact HC1.out); rintro e w14 ⟨rfl, hb⟩; refine ⟨_, rfl, ?_⟩; replace BK265 := am (blk_below (g := gb265) (o := .cells #[.slice A0_0 l0_0.length c0_0] 33 (0, 0)) (kq BK265.out) hb); replace HB := am (below_step (Y39) hb); (try clear hb); (try clear hb2); (try clear hk); (try clear hi)))
  go_ret
  exact ⟨Y1, Y39⟩
def impl_Line_41.f (l0 : List (S50)) : Option ((List (S50))) := some (l0)
set_option maxHeartbeats 8000000 in
set_option maxRecDepth 100000 in
theorem impl_Line_41.calls (P0_ : Nat → Prop) (u9000_ : Value) (l0 : List (S50)) (r : List (S50)) (w0 w : World) (hB : Below w0.heap.size w0 w) (ho0 : Kd.R k50 50 w w0.heap.size P0_ u9000_ l0) (h : impl_Line_41.f l0 = some r) :
  Calls Try.prog 41 #[u9000_] w fun e w' => ∃ v0_ : Value, e = .returned (v0_) ∧ Kd.R k50 50 w' w0.heap.size (fun k_ => (P0_ k_ ∨ w.heap.size ≤ k_)) v0_ r ∧ Below w0.heap.size w0 w' ∧ Kept w w' (fun k_ => P0_ k_) := by
 have HO0 := am (show Kd.R k50 50 w w0.heap.size (fun k_ => (P0_ k_ ∨ w.heap.size ≤ k_)) u9000_ l0 from Kd.R_mono ho0 (fun k_ hk => (.inl hk)))
 have HK := am (Kept.refl w (fun k_ => P0_ k_))
 have HW0 := am hB.size
 have HB := am hB
 clear hB
 have H : (some (l0)) = some r := h
 clear h
 obtain ⟨y268, hy268⟩ : ∃ y_ : List (S50), y_ = (l0) := ⟨_, rfl⟩
 replace H : (some y268) = some r := by first | (rw [hy268]; with_reducible exact H) | (have H2_ := (Option.bind_some _ _).symm.trans H; rw [hy268]; with_reducible exact H2_) | (have H2_ := (Option.bind_some _ _).symm.trans H; with_reducible exact H2_) | with_reducible exact H | (rw [hy268]; exact H) | exact H
 have Ny268 := am hy268
 clear hy268
 obtain rfl := Option.some.inj H
 obtain ⟨Ao2, co2, eo2⟩ := Kd.R_slice HO0.out
 subst eo2
 obtain ⟨i03, hi03, _, hsz3, _⟩ := info_parts info50
 have hy3 : y268.length = l0.length := (by rw [Ny268.out])
 have hcut3 := cut_clip (P := Try.prog) 28 50 Try.underlying28 hi03 Ao2 _ co2 _ (Kd.R_reads' HO0.out).2.1 hy3
 have hr3 := Kd.R_clip HO0.out Ny268.out
 clear hy3 hi03 hsz3 HO0
 have HO270 := am hr3
 clear hr3
 go_enter Try.func41, Try.ntmps41
 go_wp2
 go_ret
 exact ⟨_, Y1, rq HO270.out, bq, Y18⟩
def impl_programMade.f (k : Nat) (l0_0 : List (S63)) (l1 : List (S50)) : Option ((List (S50)) × Bool) := (impl_ValidProgram.f k l0_0 l1).bind fun t272 => (if t272 = true then ((impl_Line_41.f l1).bind fun t273 => (some (t273, true))) else (some (([] : List (S50)), false)))
set_option maxHeartbeats 8000000 in
set_option maxRecDepth 100000 in
theorem impl_programMade.calls (k : Nat) (A0_0 : Option Addr) (c0_0 : Nat) (l0_0 : List (S63)) (P1_ : Nat → Prop) (u9000_ : Value) (l1 : List (S50)) (r1 : List (S50)) (r2 : Bool) (w0 w : World) (hB : Below w0.heap.size w0 w) (hr0_0 : ∀ W_, Kept w W_ (fun k_ => P1_ k_) → Kd.C k63 W_ A0_0 l0_0.length l0_0) (hc0_0 : l0_0.length ≤ c0_0) (ho1 : Kd.R k50 50 w w0.heap.size P1_ u9000_ l1) (h : impl_programMade.f k l0_0 l1 = some (r1, r2)) :
  Calls Try.prog 30 #[.agg #[.slice A0_0 l0_0.length c0_0], u9000_] w fun e w' => ∃ v0_ : Value, e = .returned (.tuple #[v0_, .bool r2]) ∧ Kd.R k50 50 w' w0.heap.size (fun k_ => (P1_ k_ ∨ w.heap.size ≤ k_)) v0_ r1 ∧ Below w0.heap.size w0 w' ∧ Kept w w' (fun k_ => P1_ k_) := by
 have hu33 := Try.underlying33
 have HR0_0 := am hr0_0
 have HC0_0 := am hc0_0
 clear hr0_0 hc0_0
 have HO1 := am (show Kd.R k50 50 w w0.heap.size (fun k_ => (P1_ k_ ∨ w.heap.size ≤ k_)) u9000_ l1 from Kd.R_mono ho1 (fun k_ hk => (.inl hk)))
 have HK := am (Kept.refl w (fun k_ => P1_ k_))
 have HW0 := am hB.size
 have HB := am hB
 clear hB
 have H : ((impl_ValidProgram.f k l0_0 l1).bind fun t272 => (if t272 = true then ((impl_Line_41.f l1).bind fun t273 => (some (t273, true))) else (some (([] : List (S50)), false)))) = some (r1, r2) := h
 clear h
 replace H := Option.bind_eq_some_iff.mp H
 obtain ⟨t272, A30, H⟩ := H
 replace H : (if t272 = true then ((impl_Line_41.f l1).bind fun t273 => (some (t273, true))) else (some (([] : List (S50)), false))) = some (r1, r2) := H
 have A3 := am A30
 clear A30
 by_cases c4 : t272 = true
 ·subst c4
  have H1 : ((impl_Line_41.f l1).bind fun t273 => (some (t273, true))) = some (r1, r2) := by rw [if_pos rfl] at H; exact H
  clear H
  have H := H1
  clear H1
  replace H := Option.bind_eq_some_iff.mp H
  obtain ⟨t273, A50, H⟩ := H
  replace H : (some (t273, true)) = some (r1, r2) := H
  have A5 := am A50
  clear A50
  simp only [Option.some.injEq, Prod.mk.injEq] at H
  obtain ⟨rfl, rfl⟩ := H
  go_enter Try.func30, Try.ntmps30
  go_wp2_with (first | ((with_reducible refine gate_dst (N := 2) rfl ?_); refine bE (N := 2) (cs := #[.slice A0_0 l0_0.length c0_0]) (t := 33) ?_; intro gb271 hg w6 hbox hb; have BK271 := am (hbox); have GW271 := am ((Y48 : w.heap.size ≤ gb271)); have GE271 := am ((Y0 : w0.heap.size ≤ gb271)); replace HO1 := am (Kd.R_below (rq HO1.out) hb); replace HK := am (Kept.below (S := (fun k_ => P1_ k_)) (Y18) hb); replace HB := am (below_step (bq) hb); clear hb hbox hg; have hcz7_0 := bc0 BK271.out; have hfz7_0 := blk_frozen BK271.out 0; obtain ⟨Ao8, co8, eo8⟩ := Kd.R_slice HO1.out; subst eo8) | ((with_reducible refine gate_callee (f := 37) rfl ?_); refine gL (some 8) Try.func37 #[.agg #[.slice A0_0 l0_0.length c0_0], .slice Ao8 l1.length co8] ?_; (with_reducible refine (impl_ValidProgram.calls k _ _ l0_0 _ _ l1 true _ ?side1 ?side2 ?side3 ?side4 A3.out).mono ?_); (case side1 => exact Kd.C_kept_now HR0_0.out (Y31)); (case side2 => exact HC0_0.out); (case side3 => exact cq (Kd.R_reads' HO1.out).2.2); (case side4 => exact (Kd.R_reads' HO1.out).2.1); rintro e w9 ⟨rfl, hb⟩; refine ⟨_, rfl, ?_⟩; replace HO1 := am (Kd.R_below (rq HO1.out) hb); replace BK271 := am (blk_below (g := gb271) (o := .cells #[.slice A0_0 l0_0.length c0_0] 33 (0, 0)) (kq BK271.out) hb); replace HK := am (Kept.below (S := (fun k_ => P1_ k_)) (Y31) hb); replace HB := am (below_step (Y40) hb); (try clear hb); (try clear hb2); (try clear hk); (try clear hi)) | ((with_reducible refine gate_callee (f := 41) rfl ?_); refine gL (some 11) Try.func41 #[.slice Ao8 l1.length co8] ?_; (with_reducible refine (impl_Line_41.calls (fun k_ => some k_ = (.slice Ao8 l1.length co8 : Value).ownBlock) (.slice Ao8 l1.length co8) l1 t273 w0 _ ?side1 ?side2 A5.out).mono ?_); (case side1 => exact Y40); (case side2 => exact Kd.R_tight rfl HO1.out); rintro e w10 ⟨v274, rfl, ho0, hb, hkp⟩; refine ⟨_, rfl, ?_⟩; have n0_ := am (blk_kept (kq BK271.out) hkp (fun hs_ => (fun e_ => (Kd.R_ne HO1.out BK271.out (by decide)) e_) hs_)); have n1_ := am (Kd.R_mono (ok' := fun k_ => (P1_ k_ ∨ w.heap.size ≤ k_)) ho0 (fun k_ hk_ => Or.elim hk_ (fun hs_ => (HO1.out.1 k_ (hs_).symm)) (fun hn_ => (.inr (Nat.le_trans (by first | exact HK.out.1 | exact (show Kept w _ (fun k_ => P1_ k_) from by repeat (first | (with_reducible first | exact HK.out | apply Kept.alloc | apply Kept.drewN | apply Kept.drew | refine Kept.setCell ?_ (.inr GW271.out) _) | exact HK.out)).1) hn_))))); have n2_ := am (Kept.then_ (S := (fun k_ => P1_ k_)) (Y31) hkp (fun k_ hs_ => (fun e_ => (HO1.out.1 k_ e_.symm)) hs_)); have n3_ := am (hb); clear BK271 HK HB HO1; have BK271 := n0_; have HO275 := n1_; have HK := n2_; have HB := n3_; clear n0_ n1_ n2_ n3_; (try clear hb); (try clear hkp); (try clear ho0)))
  go_ret2
  exact ⟨_, Y1, rq HO275.out, Y40, Y31⟩
 ·replace c4 := Bool.eq_false_iff.mpr c4
  subst c4
  have H1 : (some (([] : List (S50)), false)) = some (r1, r2) := by rw [if_neg (show ¬ (false = true) by decide)] at H; exact H
  clear H
  have H := H1
  clear H1
  simp only [Option.some.injEq, Prod.mk.injEq] at H
  obtain ⟨rfl, rfl⟩ := H
  go_enter Try.func30, Try.ntmps30
  go_wp2_with (first | ((with_reducible refine gate_dst (N := 2) rfl ?_); refine bE (N := 2) (cs := #[.slice A0_0 l0_0.length c0_0]) (t := 33) ?_; intro gb271 hg w11 hbox hb; have BK271 := am (hbox); have GW271 := am ((Y48 : w.heap.size ≤ gb271)); have GE271 := am ((Y0 : w0.heap.size ≤ gb271)); replace HO1 := am (Kd.R_below (rq HO1.out) hb); replace HK := am (Kept.below (S := (fun k_ => P1_ k_)) (Y18) hb); replace HB := am (below_step (bq) hb); clear hb hbox hg; have hcz12_0 := bc0 BK271.out; have hfz12_0 := blk_frozen BK271.out 0; obtain ⟨Ao13, co13, eo13⟩ := Kd.R_slice HO1.out; subst eo13) | ((with_reducible refine gate_callee (f := 37) rfl ?_); refine gL (some 8) Try.func37 #[.agg #[.slice A0_0 l0_0.length c0_0], .slice Ao13 l1.length co13] ?_; (with_reducible refine (impl_ValidProgram.calls k _ _ l0_0 _ _ l1 false _ ?side1 ?side2 ?side3 ?side4 A3.out).mono ?_); (case side1 => exact Kd.C_kept_now HR0_0.out (Y31)); (case side2 => exact HC0_0.out); (case side3 => exact cq (Kd.R_reads' HO1.out).2.2); (case side4 => exact (Kd.R_reads' HO1.out).2.1); rintro e w14 ⟨rfl, hb⟩; refine ⟨_, rfl, ?_⟩; replace HO1 := am (Kd.R_below (rq HO1.out) hb); replace BK271 := am (blk_below (g := gb271) (o := .cells #[.slice A0_0 l0_0.length c0_0] 33 (0, 0)) (kq BK271.out) hb); replace HK := am (Kept.below (S := (fun k_ => P1_ k_)) (Y31) hb); replace HB := am (below_step (Y40) hb); (try clear hb); (try clear hb2); (try clear hk); (try clear hi)))
  go_ret2
  exact ⟨_, Y1, Y28, Y40, Y31⟩

set_option maxHeartbeats 8000000 in
set_option maxRecDepth 100000 in
theorem slices_Grow_Line.calls (n : Nat) (w : World) (hn : n < 4398046511104) :
  Calls Try.prog 42 #[.slice none 0 0, .int .i64 n] w fun e w' => ∃ v, e = .returned v ∧ Kd.R k50 50 w' w.heap.size (fun _ => True) v [] ∧ Below w.heap.size w w' := by
 have hn0 : ¬ ((n : Int) < 0) := by omega
 have hn0b := decide_eq_false hn0
 have hw : wrap64 ((n : Int) - 0) = n := by unfold wrap64; omega
 by_cases h0 : n = 0
 ·subst h0
  go_enter Try.func42, Try.ntmps42
  go_wp2
  go_ret
  exact ⟨_, rfl, Kd.R_nil _ _ _ _ _, Below.refl _ _⟩
 ·have hp : (n : Int) > 0 := by omega
  have hpb := decide_eq_true hp
  go_enter Try.func42, Try.ntmps42
  go_wp2_with (at_builtin; refine Kd.R_append_zeros k50 (w0 := w) w.heap.size rfl (.tmp 20) (.tmp 21) 28 3 50 (.agg #[(.int .i64 0), (.int .i64 0), (.int .i64 0), (.int .i64 0)]) 32 rfl Try.underlying28 Try.underlying3 info50 rfl (by decide) (by omega) (.slice none 0 0) [] (⟨0, 0, 0, 0⟩ : S50) (kx := .i64) (n : Int) (fun _ => True) rfl rfl (k50_mkM _ _ _ (⟨0, 0, 0, 0⟩ : S50)) (fun _ _ => trivial) (Kd.R_nil _ _ _ _ _) (by omega) (Below.refl _ _) (Nat.le_refl _) (by simp; omega) ?_; intro v1 w1 ho hb hg hat; obtain ⟨ad, c, rfl⟩ := Kd.R_slice1 ho (by simp; omega); simp only [List.nil_append, List.length_replicate, Int.toNat_natCast] at ho ⊢; have hz := Kd.R_take (m := 0) ho (by simp))
  go_ret
  exact ⟨_, rfl, by simpa using hz, hb⟩
theorem flat_takeLine {α : Type} {l : List (List α)} {i : Nat} (h : i < l.length) : (l.take (i + 1)).flatten = (l.take i).flatten ++ l[i] := by
 rw [List.take_succ_eq_append_getElem h, List.flatten_append]; simp
theorem flat_leLine {α : Type} (l : List (List α)) (i : Nat) : (l.take i).flatten.length ≤ l.flatten.length := by
 conv => rhs; rw [← List.take_append_drop i l, List.flatten_append]
 rw [List.length_append]; omega
theorem at_rowsLine {α : Type} {e : Nat} {d : Kd α} {w : World} {A : Option Addr} {l : List (List α)} (h : Kd.C (Kd.slice e d) w A l.length l) {i : Nat} (hi : i < l.length) :
  ∃ ad, A = some ad ∧ ∃ B c, w.cell? (ad.add i) = some (.slice B l[i].length c) ∧ l[i].length ≤ c ∧ Kd.C d w B l[i].length l[i] := by
 obtain ⟨ad, e, hc⟩ := h.2.2 (by omega)
 obtain ⟨c, hs, ⟨B, c2, rfl, h1, h2⟩, hcell⟩ := hc i _ (List.getElem?_eq_getElem hi)
 refine ⟨ad, e, B, c2, ?_, h1, h2⟩
 have := hcell 0 _ rfl
 simpa [Kd.slice] using this
def slices_Concat_Line.f (l0 : List (List S50)) : Option (List S50) := if l0.flatten.length < 4398046511104 then some l0.flatten else none
set_option maxHeartbeats 8000000 in
set_option maxRecDepth 100000 in
theorem slices_Concat_Line.calls (A0 : Option Addr) (c0 : Nat) (l0 : List (List S50)) (r : List S50) (w : World) (hr0 : Kd.C (Kd.slice 50 k50) w A0 l0.length l0) (hc0 : l0.length ≤ c0) (h : slices_Concat_Line.f l0 = some r) :
  Calls Try.prog 31 #[.slice A0 l0.length c0] w fun e w' => ∃ v0_ : Value, e = .returned v0_ ∧ Kd.R k50 50 w' w.heap.size (fun _ => True) v0_ r ∧ Below w.heap.size w w' := by
 unfold slices_Concat_Line.f at h
 by_cases hlen : l0.flatten.length < 4398046511104
 case neg => rw [if_neg hlen] at h; cases h
 rw [if_pos hlen] at h
 obtain rfl := Option.some.inj h
 clear h
 have hm : l0.length ≤ 9223372036854775807 := Kd.C_max hr0
 have HR := am hr0
 have HL := am hlen
 clear hr0 hlen
 go_enter Try.func31, Try.ntmps31
 go_wp2
 go_loopw [3, 11] (fun v3 v11 wr => ∃ i s : Nat, i ≤ l0.length ∧ v11 = .int .i64 i ∧ v3 = .int .i64 (s : Nat) ∧ w = wr ∧ Aside0 ((l0.take i).flatten.length = s)) (fun _ v11 _ => l0.length - (intOf v11).toNat)
 case atStart => exact ⟨0, 0, Nat.zero_le _, rfl, rfl, rfl, ⟨rfl⟩⟩
 case round =>
  obtain ⟨i, s, hi, rfl, rfl, rfl, HS⟩ := hrel
  by_cases hlt : i < l0.length
  ·obtain ⟨ad, rfl, B, cB, hcell, hcl, hC⟩ := at_rowsLine HR.out hlt
   have hb1 : s + l0[i].length < 4398046511104 := by
    have h1 := flat_leLine l0 (i + 1)
    have h2 := HL.out
    have h3 := HS.out
    rw [flat_takeLine hlt, List.length_append] at h1
    omega
   have HS2 := am (show (l0.take (i + 1)).flatten.length = s + l0[i].length by rw [flat_takeLine hlt, List.length_append, HS.out])
   clear hC HS
   obtain ⟨m, hmm⟩ : ∃ m, l0[i].length = m := ⟨_, rfl⟩
   rw [hmm] at hcell hb1 HS2 hcl
   clear hmm hcl
   have e1 : wrap64 ((s : Int) + (m : Int)) = (s : Int) + (m : Int) := by unfold wrap64; omega
   have n1 : ¬ ((s : Int) + (m : Int) < 0) := by omega
   have n1b := decide_eq_false n1
   go_wp2
   go_roundw
   case rel => exact ⟨i + 1, s + m, hlt, by go_num, by go_num, by first | trivial | rfl, HS2⟩
   case measure => simp [intOf]; omega
  ·obtain rfl : i = l0.length := by omega
   have e0 : l0.flatten.length = s := by rw [← HS.out, List.take_of_length_le (Nat.le_refl _)]
   have HG := am (slices_Grow_Line.calls s w (by rw [← e0]; exact HL.out))
   have HE := am e0
   clear e0 HS
   go_wp2_with (go_at_call 42; refine HG.out.mono ?_; rintro e w1 ⟨vg, rfl, hR, hB⟩; have HV := am hR; have HB := am hB; clear hR hB)
   go_loopw [6, 27] (fun v6 v27 wr => ∃ i : Nat, i ≤ l0.length ∧ v27 = .int .i64 i ∧ Aside0 (Kd.R k50 50 wr w.heap.size (fun _ => True) v6 (l0.take i).flatten) ∧ Aside0 (Below w.heap.size w wr)) (fun _ v27 _ => l0.length - (intOf v27).toNat)
   case atStart => exact ⟨0, Nat.zero_le _, rfl, ⟨HV.out⟩, HB⟩
   case round =>
    clear HV HB
    obtain ⟨i, hi, rfl, HV, HB⟩ := hrel
    by_cases hlt : i < l0.length
    ·obtain ⟨ad, rfl, B, cB, hcell, hcl, hC⟩ := at_rowsLine HR.out hlt
     have HC := am (Kd.C_below hC HB.out)
     replace hcell := (HB.out.cell (World.block_lt_of_cell? w _ hcell)).trans hcell
     have hl : (l0.take i).flatten.length + l0[i].length ≤ 4398046511104 := by
      have h1 := flat_leLine l0 (i + 1)
      have h2 := HL.out
      rw [flat_takeLine hlt, List.length_append] at h1
      omega
     have HLE := am hl
     have HF := am (flat_takeLine hlt)
     obtain ⟨x, hx⟩ : ∃ x, l0[i] = x := ⟨_, rfl⟩
     obtain ⟨y, hy⟩ : ∃ y, (l0.take i).flatten = y := ⟨_, rfl⟩
     rw [hx] at hcell HC HLE HF
     rw [hy] at HV HLE HF
     clear hC hcl hl hx hy
     go_wp2_with (at_builtin; refine Kd.R_append_rows k50 (w0 := w) w.heap.size rfl (.tmp 31) (.tmp 32) 28 50 (.agg #[(.int .i64 0), (.int .i64 0), (.int .i64 0), (.int .i64 0)]) 32 rfl Try.underlying28 info50 rfl (by decide) (by omega) _ y x _ _ _ (fun _ => True) (fun _ => False) rfl rfl HV.out HC.out (fun _ _ h => h) (fun _ h => h.elim) (fun _ _ => trivial) HB.out (below_size HB.out) (by have := HLE.out; omega) ?_; intro v1 w2 ho hb hg hat; have HV2 := am ho; have HB2 := am hb; clear ho hb hg hat)
     go_roundw
     case rel => exact ⟨i + 1, hlt, by go_num, ⟨by rw [HF.out]; exact HV2.out⟩, HB2⟩
     case measure => simp [intOf]; omega
    ·obtain rfl : i = l0.length := by omega
     have HV2 := am (show Kd.R k50 50 wr w.heap.size (fun _ => True) _ l0.flatten by have := HV.out; rw [List.take_of_length_le (Nat.le_refl _)] at this; exact this)
     clear HV
     go_wp2
     go_ret
     exact ⟨_, rfl, HV2.out, HB.out⟩
def laws_eqLine.f (a0_0 : Int) (a0_1 : Int) (a0_2 : Int) (a0_3 : Int) (a1_0 : Int) (a1_1 : Int) (a1_2 : Int) (a1_3 : Int) : Option (Bool) := if a0_0 = a1_0 then (if a0_1 = a1_1 then (if a0_2 = a1_2 then (if a0_3 = a1_3 then (some true) else (some false)) else (some false)) else (some false)) else (some false)
set_option maxHeartbeats 8000000 in
set_option maxRecDepth 100000 in
theorem laws_eqLine.calls (a0_0 : Int) (a0_1 : Int) (a0_2 : Int) (a0_3 : Int) (a1_0 : Int) (a1_1 : Int) (a1_2 : Int) (a1_3 : Int) (r : Bool) (w : World) (h : laws_eqLine.f a0_0 a0_1 a0_2 a0_3 a1_0 a1_1 a1_2 a1_3 = some r) :
  Calls Try.prog 32 #[.agg #[.int .i64 a0_0, .int .i64 a0_1, .int .i64 a0_2, .int .i64 a0_3], .agg #[.int .i64 a1_0, .int .i64 a1_1, .int .i64 a1_2, .int .i64 a1_3]] w fun e w' => e = .returned (.bool r) ∧ Below w.heap.size w w' := by
 have hu50 := Try.underlying50
 have HB := am (Below.refl w.heap.size w)
 have H : (if a0_0 = a1_0 then (if a0_1 = a1_1 then (if a0_2 = a1_2 then (if a0_3 = a1_3 then (some true) else (some false)) else (some false)) else (some false)) else (some false)) = some r := h
 clear h
 by_cases c3 : a0_0 = a1_0
 ·rw [if_pos c3] at H
  have c3b0 : (a0_0 == a1_0) = true := beq_iff_eq.mpr c3
  have c3b1 : (a0_0 != a1_0) = false := bne_eq_false_iff_eq.mpr c3
  clear c3
  by_cases c4 : a0_1 = a1_1
  ·rw [if_pos c4] at H
   have c4b0 : (a0_1 == a1_1) = true := beq_iff_eq.mpr c4
   have c4b1 : (a0_1 != a1_1) = false := bne_eq_false_iff_eq.mpr c4
   clear c4
   by_cases c5 : a0_2 = a1_2
   ·rw [if_pos c5] at H
    have c5b0 : (a0_2 == a1_2) = true := beq_iff_eq.mpr c5
    have c5b1 : (a0_2 != a1_2) = false := bne_eq_false_iff_eq.mpr c5
    clear c5
    by_cases c6 : a0_3 = a1_3
    ·rw [if_pos c6] at H
     have c6b0 : (a0_3 == a1_3) = true := beq_iff_eq.mpr c6
     have c6b1 : (a0_3 != a1_3) = false := bne_eq_false_iff_eq.mpr c6
     clear c6
     obtain rfl := Option.some.inj H
     go_enter Try.func32, Try.ntmps32
     go_wp2_with (first | ((with_reducible refine gate_dst (N := 2) rfl ?_); refine bE (N := 2) (cs := #[.int .i64 a0_0, .int .i64 a0_1, .int .i64 a0_2, .int .i64 a0_3]) (t := 50) ?_; intro gb288 hg w7 hbox hb; have BK288 := am (hbox); have GW288 := am ((Y0 : w.heap.size ≤ gb288)); have GE288 := am ((Y0 : w.heap.size ≤ gb288)); replace HB := am (below_step (bq) hb); clear hb hbox hg) | ((with_reducible refine gate_dst (N := 3) rfl ?_); refine bE (N := 3) (cs := #[.int .i64 a1_0, .int .i64 a1_1, .int .i64 a1_2, .int .i64 a1_3]) (t := 50) ?_; intro gb289 hg w8 hbox hb; have BK289 := am (hbox); have GW289 := am ((Y29 : w.heap.size ≤ gb289)); have GE289 := am ((Y29 : w.heap.size ≤ gb289)); have NB288_289 := am ((Y41 : gb288 ≠ gb289)); have NB289_288 := am ((Y42 : gb289 ≠ gb288)); replace BK288 := am (blk_below (g := gb288) (o := .cells #[.int .i64 a0_0, .int .i64 a0_1, .int .i64 a0_2, .int .i64 a0_3] 50 (0, 0)) (kq BK288.out) hb); replace HB := am (below_step (Y43) hb); clear hb hbox hg; have hnb9 := NB288_289.out; have hnc9 := NB289_288.out; have hcz10_0 := bc0 BK288.out; have hcz10_1 := bc1 BK288.out; have hcz10_2 := bc2 BK288.out; have hcz10_3 := bc3 BK288.out; have hfz10_0 := blk_frozen BK288.out 0; have hfz10_1 := blk_frozen BK288.out 1; have hfz10_2 := blk_frozen BK288.out 2; have hfz10_3 := blk_frozen BK288.out 3; have hcz11_0 := bc0 BK289.out; have hcz11_1 := bc1 BK289.out; have hcz11_2 := bc2 BK289.out; have hcz11_3 := bc3 BK289.out; have hfz11_0 := blk_frozen BK289.out 0; have hfz11_1 := blk_frozen BK289.out 1; have hfz11_2 := blk_frozen BK289.out 2; have hfz11_3 := blk_frozen BK289.out 3))
     go_ret
     exact ⟨Y1, Y44⟩
    ·rw [if_neg c6] at H
     have c6b0 : (a0_3 == a1_3) = false := beq_eq_false_iff_ne.mpr c6
     have c6b1 : (a0_3 != a1_3) = true := bne_iff_ne.mpr c6
     obtain rfl := Option.some.inj H
     go_enter Try.func32, Try.ntmps32
     go_wp2_with (first | ((with_reducible refine gate_dst (N := 2) rfl ?_); refine bE (N := 2) (cs := #[.int .i64 a0_0, .int .i64 a0_1, .int .i64 a0_2, .int .i64 a0_3]) (t := 50) ?_; intro gb288 hg w12 hbox hb; have BK288 := am (hbox); have GW288 := am ((Y0 : w.heap.size ≤ gb288)); have GE288 := am ((Y0 : w.heap.size ≤ gb288)); replace HB := am (below_step (bq) hb); clear hb hbox hg) | ((with_reducible refine gate_dst (N := 3) rfl ?_); refine bE (N := 3) (cs := #[.int .i64 a1_0, .int .i64 a1_1, .int .i64 a1_2, .int .i64 a1_3]) (t := 50) ?_; intro gb289 hg w13 hbox hb; have BK289 := am (hbox); have GW289 := am ((Y29 : w.heap.size ≤ gb289)); have GE289 := am ((Y29 : w.heap.size ≤ gb289)); have NB288_289 := am ((Y41 : gb288 ≠ gb289)); have NB289_288 := am ((Y42 : gb289 ≠ gb288)); replace BK288 := am (blk_below (g := gb288) (o := .cells #[.int .i64 a0_0, .int .i64 a0_1, .int .i64 a0_2, .int .i64 a0_3] 50 (0, 0)) (kq BK288.out) hb); replace HB := am (below_step (Y43) hb); clear hb hbox hg; have hnb14 := NB288_289.out; have hnc14 := NB289_288.out; have hcz15_0 := bc0 BK288.out; have hcz15_1 := bc1 BK288.out; have hcz15_2 := bc2 BK288.out; have hcz15_3 := bc3 BK288.out; have hfz15_0 := blk_frozen BK288.out 0; have hfz15_1 := blk_frozen BK288.out 1; have hfz15_2 := blk_frozen BK288.out 2; have hfz15_3 := blk_frozen BK288.out 3; have hcz16_0 := bc0 BK289.out; have hcz16_1 := bc1 BK289.out; have hcz16_2 := bc2 BK289.out; have hcz16_3 := bc3 BK289.out; have hfz16_0 := blk_frozen BK289.out 0; have hfz16_1 := blk_frozen BK289.out 1; have hfz16_2 := blk_frozen BK289.out 2; have hfz16_3 := blk_frozen BK289.out 3))
     go_ret
     exact ⟨Y1, Y44⟩
   ·rw [if_neg c5] at H
    have c5b0 : (a0_2 == a1_2) = false := beq_eq_false_iff_ne.mpr c5
    have c5b1 : (a0_2 != a1_2) = true := bne_iff_ne.mpr c5
    obtain rfl := Option.some.inj H
    go_enter Try.func32, Try.ntmps32
    go_wp2_with (first | ((with_reducible refine gate_dst (N := 2) rfl ?_); refine bE (N := 2) (cs := #[.int .i64 a0_0, .int .i64 a0_1, .int .i64 a0_2, .int .i64 a0_3]) (t := 50) ?_; intro gb288 hg w17 hbox hb; have BK288 := am (hbox); have GW288 := am ((Y0 : w.heap.size ≤ gb288)); have GE288 := am ((Y0 : w.heap.size ≤ gb288)); replace HB := am (below_step (bq) hb); clear hb hbox hg) | ((with_reducible refine gate_dst (N := 3) rfl ?_); refine bE (N := 3) (cs := #[.int .i64 a1_0, .int .i64 a1_1, .int .i64 a1_2, .int .i64 a1_3]) (t := 50) ?_; intro gb289 hg w18 hbox hb; have BK289 := am (hbox); have GW289 := am ((Y29 : w.heap.size ≤ gb289)); have GE289 := am ((Y29 : w.heap.size ≤ gb289)); have NB288_289 := am ((Y41 : gb288 ≠ gb289)); have NB289_288 := am ((Y42 : gb289 ≠ gb288)); replace BK288 := am (blk_below (g := gb288) (o := .cells #[.int .i64 a0_0, .int .i64 a0_1, .int .i64 a0_2, .int .i64 a0_3] 50 (0, 0)) (kq BK288.out) hb); replace HB := am (below_step (Y43) hb); clear hb hbox hg; have hnb19 := NB288_289.out; have hnc19 := NB289_288.out; have hcz20_0 := bc0 BK288.out; have hcz20_1 := bc1 BK288.out; have hcz20_2 := bc2 BK288.out; have hcz20_3 := bc3 BK288.out; have hfz20_0 := blk_frozen BK288.out 0; have hfz20_1 := blk_frozen BK288.out 1; have hfz20_2 := blk_frozen BK288.out 2; have hfz20_3 := blk_frozen BK288.out 3; have hcz21_0 := bc0 BK289.out; have hcz21_1 := bc1 BK289.out; have hcz21_2 := bc2 BK289.out; have hcz21_3 := bc3 BK289.out; have hfz21_0 := blk_frozen BK289.out 0; have hfz21_1 := blk_frozen BK289.out 1; have hfz21_2 := blk_frozen BK289.out 2; have hfz21_3 := blk_frozen BK289.out 3))
    go_ret
    exact ⟨Y1, Y44⟩
  ·rw [if_neg c4] at H
   have c4b0 : (a0_1 == a1_1) = false := beq_eq_false_iff_ne.mpr c4
   have c4b1 : (a0_1 != a1_1) = true := bne_iff_ne.mpr c4
   obtain rfl := Option.some.inj H
   go_enter Try.func32, Try.ntmps32
   go_wp2_with (first | ((with_reducible refine gate_dst (N := 2) rfl ?_); refine bE (N := 2) (cs := #[.int .i64 a0_0, .int .i64 a0_1, .int .i64 a0_2, .int .i64 a0_3]) (t := 50) ?_; intro gb288 hg w22 hbox hb; have BK288 := am (hbox); have GW288 := am ((Y0 : w.heap.size ≤ gb288)); have GE288 := am ((Y0 : w.heap.size ≤ gb288)); replace HB := am (below_step (bq) hb); clear hb hbox hg) | ((with_reducible refine gate_dst (N := 3) rfl ?_); refine bE (N := 3) (cs := #[.int .i64 a1_0, .int .i64 a1_1, .int .i64 a1_2, .int .i64 a1_3]) (t := 50) ?_; intro gb289 hg w23 hbox hb; have BK289 := am (hbox); have GW289 := am ((Y29 : w.heap.size ≤ gb289)); have GE289 := am ((Y29 : w.heap.size ≤ gb289)); have NB288_289 := am ((Y41 : gb288 ≠ gb289)); have NB289_288 := am ((Y42 : gb289 ≠ gb288)); replace BK288 := am (blk_below (g := gb288) (o := .cells #[.int .i64 a0_0, .int .i64 a0_1, .int .i64 a0_2, .int .i64 a0_3] 50 (0, 0)) (kq BK288.out) hb); replace HB := am (below_step (Y43) hb); clear hb hbox hg; have hnb24 := NB288_289.out; have hnc24 := NB289_288.out; have hcz25_0 := bc0 BK288.out; have hcz25_1 := bc1 BK288.out; have hcz25_2 := bc2 BK288.out; have hcz25_3 := bc3 BK288.out; have hfz25_0 := blk_frozen BK288.out 0; have hfz25_1 := blk_frozen BK288.out 1; have hfz25_2 := blk_frozen BK288.out 2; have hfz25_3 := blk_frozen BK288.out 3; have hcz26_0 := bc0 BK289.out; have hcz26_1 := bc1 BK289.out; have hcz26_2 := bc2 BK289.out; have hcz26_3 := bc3 BK289.out; have hfz26_0 := blk_frozen BK289.out 0; have hfz26_1 := blk_frozen BK289.out 1; have hfz26_2 := blk_frozen BK289.out 2; have hfz26_3 := blk_frozen BK289.out 3))
   go_ret
   exact ⟨Y1, Y44⟩
 ·rw [if_neg c3] at H
  have c3b0 : (a0_0 == a1_0) = false := beq_eq_false_iff_ne.mpr c3
  have c3b1 : (a0_0 != a1_0) = true := bne_iff_ne.mpr c3
  obtain rfl := Option.some.inj H
  go_enter Try.func32, Try.ntmps32
  go_wp2_with (first | ((with_reducible refine gate_dst (N := 2) rfl ?_); refine bE (N := 2) (cs := #[.int .i64 a0_0, .int .i64 a0_1, .int .i64 a0_2, .int .i64 a0_3]) (t := 50) ?_; intro gb288 hg w27 hbox hb; have BK288 := am (hbox); have GW288 := am ((Y0 : w.heap.size ≤ gb288)); have GE288 := am ((Y0 : w.heap.size ≤ gb288)); replace HB := am (below_step (bq) hb); clear hb hbox hg) | ((with_reducible refine gate_dst (N := 3) rfl ?_); refine bE (N := 3) (cs := #[.int .i64 a1_0, .int .i64 a1_1, .int .i64 a1_2, .int .i64 a1_3]) (t := 50) ?_; intro gb289 hg w28 hbox hb; have BK289 := am (hbox); have GW289 := am ((Y29 : w.heap.size ≤ gb289)); have GE289 := am ((Y29 : w.heap.size ≤ gb289)); have NB288_289 := am ((Y41 : gb288 ≠ gb289)); have NB289_288 := am ((Y42 : gb289 ≠ gb288)); replace BK288 := am (blk_below (g := gb288) (o := .cells #[.int .i64 a0_0, .int .i64 a0_1, .int .i64 a0_2, .int .i64 a0_3] 50 (0, 0)) (kq BK288.out) hb); replace HB := am (below_step (Y43) hb); clear hb hbox hg; have hnb29 := NB288_289.out; have hnc29 := NB289_288.out; have hcz30_0 := bc0 BK288.out; have hcz30_1 := bc1 BK288.out; have hcz30_2 := bc2 BK288.out; have hcz30_3 := bc3 BK288.out; have hfz30_0 := blk_frozen BK288.out 0; have hfz30_1 := blk_frozen BK288.out 1; have hfz30_2 := blk_frozen BK288.out 2; have hfz30_3 := blk_frozen BK288.out 3; have hcz31_0 := bc0 BK289.out; have hcz31_1 := bc1 BK289.out; have hcz31_2 := bc2 BK289.out; have hcz31_3 := bc3 BK289.out; have hfz31_0 := blk_frozen BK289.out 0; have hfz31_1 := blk_frozen BK289.out 1; have hfz31_2 := blk_frozen BK289.out 2; have hfz31_3 := blk_frozen BK289.out 3))
  go_ret
  exact ⟨Y1, Y44⟩
def laws_eqLineS.l0 : Nat → List (S50) → List (S50) → Int → Option (Bool)
 | 0, _, _, _ => none
 | k + 1, x0, x1, x5 => if x5 < (x0.length : Int) then (if 0 ≤ x5 then (if x5 < (x1.length : Int) then ((laws_eqLine.f ((rd_T50 x0 x5).f0) ((rd_T50 x0 x5).f1) ((rd_T50 x0 x5).f2) ((rd_T50 x0 x5).f3) ((rd_T50 x1 x5).f0) ((rd_T50 x1 x5).f1) ((rd_T50 x1 x5).f2) ((rd_T50 x1 x5).f3)).bind fun t292 => (if t292 = true then (laws_eqLineS.l0 k x0 x1 (wrap64 (x5 + 1))) else (some false))) else (none)) else (none)) else (some true)
def laws_eqLineS.f (k : Nat) (l0 : List (S50)) (l1 : List (S50)) : Option (Bool) := if (l0.length : Int) = (l1.length : Int) then (laws_eqLineS.l0 k l0 l1 0) else (some false)
def laws_eqLineS.T6 : Bool × List (List Nat × List Nat) := (true, [([], []), ([], []), ([0, 1], [0, 1]), ([2], [2]), ([], []), ([], []), ([4, 5], [4, 5]), ([6], [6]), ([3, 7], [3, 7]), ([8], [8])])
def laws_eqLineS.B6 : List Nat := [0, 0, 3, 7, 0, 0, 48, 112, 255, 511]
theorem laws_eqLineS.tab6 : rtab .any (opsOf Try.f13 6) = laws_eqLineS.T6 := by kernel_rfl
theorem laws_eqLineS.bits6 : waitsOk laws_eqLineS.T6.2 laws_eqLineS.B6 = true := by kernel_rfl
set_option maxHeartbeats 8000000 in
set_option maxRecDepth 100000 in
theorem laws_eqLineS.calls (k : Nat) (A0 : Option Addr) (c0 : Nat) (l0 : List (S50)) (A1 : Option Addr) (c1 : Nat) (l1 : List (S50)) (r : Bool) (w : World) (hr0 : Kd.C k50 w A0 l0.length l0) (hc0 : l0.length ≤ c0) (hr1 : Kd.C k50 w A1 l1.length l1) (hc1 : l1.length ≤ c1) (h : laws_eqLineS.f k l0 l1 = some r) :
  Calls Try.prog 13 #[.slice A0 l0.length c0, .slice A1 l1.length c1] w fun e w' => e = .returned (.bool r) ∧ Below w.heap.size w w' := by
 have hu50 := Try.underlying50
 have HR0 := am hr0
 have HC0 := am hc0
 clear hr0 hc0
 have HR1 := am hr1
 have HC1 := am hc1
 clear hr1 hc1
 have HB := am (Below.refl w.heap.size w)
 have H : (if (l0.length : Int) = (l1.length : Int) then (laws_eqLineS.l0 k l0 l1 0) else (some false)) = some r := h
 clear h
 by_cases c3 : (l0.length : Int) = (l1.length : Int)
 ·rw [if_pos c3] at H
  have c3b0 : ((l0.length : Int) == (l1.length : Int)) = true := beq_iff_eq.mpr c3
  have c3b1 : ((l0.length : Int) != (l1.length : Int)) = false := bne_eq_false_iff_eq.mpr c3
  have c3b2 : (l0.length == l1.length) = true := by first | simpa using c3 | (simp at c3 ⊢; omega)
  clear c3
  have H' := am H
  clear H
  go_enter Try.func13, Try.ntmps13
  go_wp2
  go_loopg [5] k (fun kq v5 w' => ∃ (x5_1 : Int), v5 = .int .i64 x5_1 ∧ Aside0 (laws_eqLineS.l0 kq l0 l1 x5_1 = some r) ∧ Aside0 (kq ≤ k) ∧ Aside0 (Below w.heap.size w w'))
  case atStart => exact ⟨(0), (sq), H', ⟨Nat.le_refl _⟩, ⟨bq⟩⟩
  case round =>
   clear H'
   try clear c1
   try clear p2
   try clear c3
   try clear c3b0
   try clear c3b1
   try clear c3b2
   obtain ⟨x5_1, rfl, HA, HK1, HB⟩ := hrel
   cases gk with
   | zero => exact absurd HA.out (by simp [laws_eqLineS.l0])
   | succ k1 =>
    have H := HA.out
    clear HA
    simp only [laws_eqLineS.l0] at H
    by_cases c4 : x5_1 < (l0.length : Int)
    ·rw [if_pos c4] at H
     have c4b0 : decide (x5_1 < (l0.length : Int)) = true := decide_eq_true c4
     clear c4
     by_cases c5 : 0 ≤ x5_1
     ·rw [if_pos c5] at H
      have c5b0 : decide (0 ≤ x5_1) = true := decide_eq_true c5
      clear c5
      by_cases c6 : x5_1 < (l1.length : Int)
      ·rw [if_pos c6] at H
       have c6b0 : decide (x5_1 < (l1.length : Int)) = true := decide_eq_true c6
       clear c6
       replace H := Option.bind_eq_some_iff.mp H
       obtain ⟨t292, A70, H⟩ := H
       replace H : (if t292 = true then (laws_eqLineS.l0 k1 l0 l1 (wrap64 (x5_1 + 1))) else (some false)) = some r := H
       have A7 := am A70
       clear A70
       by_cases c8 : t292 = true
       ·subst c8
        have H1 : (laws_eqLineS.l0 k1 l0 l1 (wrap64 (x5_1 + 1))) = some r := by rw [if_pos rfl] at H; exact H
        clear H
        have H := H1
        clear H1
        have H' := am H
        clear H
        try go_wp2
        replace HB := am (below_drew1 HB.out)
        have p290 : 0 ≤ (x5_1 : Int) := of_decide_eq_true (uq)
        have q290 : x5_1 < (l0.length : Int) := of_decide_eq_true (uq)
        obtain ⟨ad290, e290, hx290_0, hx290_1, hx290_2, hx290_3⟩ := at_T50 HR0.out x5_1 p290 q290
        have hw290_3 := hx290_3
        have hw290_2 := hx290_2
        have hw290_1 := hx290_1
        have hw290_0 := hx290_0
        cases e290
        replace hx290_0 := cb HB.out hx290_0
        replace hx290_1 := cb HB.out hx290_1
        replace hx290_2 := cb HB.out hx290_2
        replace hx290_3 := cb HB.out hx290_3
        replace p290 := eq_true p290
        replace q290 := eq_true q290
        have p291 : 0 ≤ (x5_1 : Int) := of_decide_eq_true (uq)
        have q291 : x5_1 < (l1.length : Int) := of_decide_eq_true (uq)
        obtain ⟨ad291, e291, hx291_0, hx291_1, hx291_2, hx291_3⟩ := at_T50 HR1.out x5_1 p291 q291
        have hw291_3 := hx291_3
        have hw291_2 := hx291_2
        have hw291_1 := hx291_1
        have hw291_0 := hx291_0
        cases e291
        replace hx291_0 := cb HB.out hx291_0
        replace hx291_1 := cb HB.out hx291_1
        replace hx291_2 := cb HB.out hx291_2
        replace hx291_3 := cb HB.out hx291_3
        replace p291 := eq_true p291
        replace q291 := eq_true q291
        refine start_ (n := 10) (S := fun w' => w'.cell? (ad290.add ((x5_1).toNat * 4)) = some (.int .i64 ((rd_T50 l0 x5_1).f0)) ∧ w'.cell? ⟨(ad290.add ((x5_1).toNat * 4)).block, (ad290.add ((x5_1).toNat * 4)).off + 1, none⟩ = some (.int .i64 ((rd_T50 l0 x5_1).f1)) ∧ w'.cell? ⟨(ad290.add ((x5_1).toNat * 4)).block, (ad290.add ((x5_1).toNat * 4)).off + 2, none⟩ = some (.int .i64 ((rd_T50 l0 x5_1).f2)) ∧ w'.cell? ⟨(ad290.add ((x5_1).toNat * 4)).block, (ad290.add ((x5_1).toNat * 4)).off + 3, none⟩ = some (.int .i64 ((rd_T50 l0 x5_1).f3)) ∧ w'.cell? (ad291.add ((x5_1).toNat * 4)) = some (.int .i64 ((rd_T50 l1 x5_1).f0)) ∧ w'.cell? ⟨(ad291.add ((x5_1).toNat * 4)).block, (ad291.add ((x5_1).toNat * 4)).off + 1, none⟩ = some (.int .i64 ((rd_T50 l1 x5_1).f1)) ∧ w'.cell? ⟨(ad291.add ((x5_1).toNat * 4)).block, (ad291.add ((x5_1).toNat * 4)).off + 2, none⟩ = some (.int .i64 ((rd_T50 l1 x5_1).f2)) ∧ w'.cell? ⟨(ad291.add ((x5_1).toNat * 4)).block, (ad291.add ((x5_1).toNat * 4)).off + 3, none⟩ = some (.int .i64 ((rd_T50 l1 x5_1).f3))) (ds := []) #[false, false, false, false, false, false, false, false, false, false] (by kernel_rfl) rfl rfl ⟨((HB.out.cell (World.block_lt_of_cell? w _ hw290_0)).trans hw290_0), ((HB.out.cell (World.block_lt_of_cell? w _ hw290_1)).trans hw290_1), ((HB.out.cell (World.block_lt_of_cell? w _ hw290_2)).trans hw290_2), ((HB.out.cell (World.block_lt_of_cell? w _ hw290_3)).trans hw290_3), ((HB.out.cell (World.block_lt_of_cell? w _ hw291_0)).trans hw291_0), ((HB.out.cell (World.block_lt_of_cell? w _ hw291_1)).trans hw291_1), ((HB.out.cell (World.block_lt_of_cell? w _ hw291_2)).trans hw291_2), ((HB.out.cell (World.block_lt_of_cell? w _ hw291_3)).trans hw291_3)⟩ (fun hHeld => ?_); refine with_tabW laws_eqLineS.tab6 laws_eqLineS.bits6 (fun HT_ HW_ => ?_)
        generalize wr.drew = w9 at HB hx290_0 hx290_1 hx290_2 hx290_3 hx291_0 hx291_1 hx291_2 hx291_3 hHeld ⊢
        refine pq (i := 0) (N := some 17) #[true, false, false, false, false, false, false, false, false, false] ?_
        refine pq (i := 1) (N := some 18) #[true, true, false, false, false, false, false, false, false, false] ?_
        refine pq (i := 2) (N := some 19) #[true, true, true, false, false, false, false, false, false, false] ?_
        refine pq (i := 4) (N := some 21) #[true, true, true, false, true, false, false, false, false, false] ?_
        refine pq (i := 5) (N := some 22) #[true, true, true, false, true, true, false, false, false, false] ?_
        refine pq (i := 6) (N := some 23) #[true, true, true, false, true, true, true, false, false, false] ?_
        refine take_ (i := 3) (N := some 20) (v := ?_) (a' := ?_) #[true, true, true, true, true, true, true, false, false, false] rfl rfl (take_ofW HT_.out HW_.out (by kernel_rfl)) (fun _ _ _ h => h) (Or.inl ⟨by rfl, ?_⟩) hHeld ?_ ?_
        rotate_left
        ·rintro w' ⟨s0, s1, s2, s3, s4, s5, s6, s7⟩
         go_simp
         with_reducible rfl
        rotate_left
        ·exact sa
        refine take_ (i := 7) (N := some 24) (v := ?_) (a' := ?_) #[true, true, true, true, true, true, true, true, false, false] rfl rfl (take_ofW HT_.out HW_.out (by kernel_rfl)) (fun _ _ _ h => h) (Or.inl ⟨by rfl, ?_⟩) hHeld ?_ ?_
        rotate_left
        ·rintro w' ⟨s0, s1, s2, s3, s4, s5, s6, s7⟩
         go_simp
         with_reducible rfl
        rotate_left
        ·exact sa
        refine one_ (i := 8) (N := some 25) #[true, true, true, true, true, true, true, true, true, false] rfl rfl (one_of HT_.out (by kernel_rfl)) (by decide) (fun K hK => ?_)
        refine goes_ Try.func32 (by kernel_rfl) rfl #[.agg #[.int .i64 ((rd_T50 l0 x5_1).f0), .int .i64 ((rd_T50 l0 x5_1).f1), .int .i64 ((rd_T50 l0 x5_1).f2), .int .i64 ((rd_T50 l0 x5_1).f3)], .agg #[.int .i64 ((rd_T50 l1 x5_1).f0), .int .i64 ((rd_T50 l1 x5_1).f1), .int .i64 ((rd_T50 l1 x5_1).f2), .int .i64 ((rd_T50 l1 x5_1).f3)]] (by rfl) rfl rfl (aq) ?_
        with_reducible refine (laws_eqLine.calls ((rd_T50 l0 x5_1).f0) ((rd_T50 l0 x5_1).f1) ((rd_T50 l0 x5_1).f2) ((rd_T50 l0 x5_1).f3) ((rd_T50 l1 x5_1).f0) ((rd_T50 l1 x5_1).f1) ((rd_T50 l1 x5_1).f2) ((rd_T50 l1 x5_1).f3) true _ A7.out).mono ?_
        rintro e w10 ⟨rfl, hb⟩
        refine ⟨_, rfl, ?_⟩
        replace HB := am (below_step (bq) hb)
        (try clear hb)
        (try clear hb2)
        (try clear hk)
        (try clear hi)
        refine hK.out _ _ ⟨((HB.out.cell (World.block_lt_of_cell? w _ hw290_0)).trans hw290_0), ((HB.out.cell (World.block_lt_of_cell? w _ hw290_1)).trans hw290_1), ((HB.out.cell (World.block_lt_of_cell? w _ hw290_2)).trans hw290_2), ((HB.out.cell (World.block_lt_of_cell? w _ hw290_3)).trans hw290_3), ((HB.out.cell (World.block_lt_of_cell? w _ hw291_0)).trans hw291_0), ((HB.out.cell (World.block_lt_of_cell? w _ hw291_1)).trans hw291_1), ((HB.out.cell (World.block_lt_of_cell? w _ hw291_2)).trans hw291_2), ((HB.out.cell (World.block_lt_of_cell? w _ hw291_3)).trans hw291_3)⟩ (fun hHeld => ?_)
        clear hK K
        refine norm_ (a' := ?_) ?_ ?_
        rotate_left
        ·show Act.put _ (some 25) _ = _
         simp only [Act.put, List.setIfInBounds_toArray, List.set_cons_zero, List.set_cons_succ, i64_w, i32_w]
         rfl
        refine pq (i := 9) (N := some 26) #[true, true, true, true, true, true, true, true, true, true] ?_
        refine done_ (done_of HT_.out (by kernel_rfl)) ?_
        try go_wp2
        go_roundg k1
        case measure => have := HK1.out; omega
        case rel => exact ⟨(wrap64 (x5_1 + 1)), (sq), H', ⟨by have := HK1.out; omega⟩, ⟨bq⟩⟩
       ·replace c8 := Bool.eq_false_iff.mpr c8
        subst c8
        have H1 : (some false) = some r := by rw [if_neg (show ¬ (false = true) by decide)] at H; exact H
        clear H
        have H := H1
        clear H1
        obtain rfl := Option.some.inj H
        try go_wp2
        replace HB := am (below_drew1 HB.out)
        have p290 : 0 ≤ (x5_1 : Int) := of_decide_eq_true (uq)
        have q290 : x5_1 < (l0.length : Int) := of_decide_eq_true (uq)
        obtain ⟨ad290, e290, hx290_0, hx290_1, hx290_2, hx290_3⟩ := at_T50 HR0.out x5_1 p290 q290
        have hw290_3 := hx290_3
        have hw290_2 := hx290_2
        have hw290_1 := hx290_1
        have hw290_0 := hx290_0
        cases e290
        replace hx290_0 := cb HB.out hx290_0
        replace hx290_1 := cb HB.out hx290_1
        replace hx290_2 := cb HB.out hx290_2
        replace hx290_3 := cb HB.out hx290_3
        replace p290 := eq_true p290
        replace q290 := eq_true q290
        have p291 : 0 ≤ (x5_1 : Int) := of_decide_eq_true (uq)
        have q291 : x5_1 < (l1.length : Int) := of_decide_eq_true (uq)
        obtain ⟨ad291, e291, hx291_0, hx291_1, hx291_2, hx291_3⟩ := at_T50 HR1.out x5_1 p291 q291
        have hw291_3 := hx291_3
        have hw291_2 := hx291_2
        have hw291_1 := hx291_1
        have hw291_0 := hx291_0
        cases e291
        replace hx291_0 := cb HB.out hx291_0
        replace hx291_1 := cb HB.out hx291_1
        replace hx291_2 := cb HB.out hx291_2
        replace hx291_3 := cb HB.out hx291_3
        replace p291 := eq_true p291
        replace q291 := eq_true q291
        refine start_ (n := 10) (S := fun w' => w'.cell? (ad290.add ((x5_1).toNat * 4)) = some (.int .i64 ((rd_T50 l0 x5_1).f0)) ∧ w'.cell? ⟨(ad290.add ((x5_1).toNat * 4)).block, (ad290.add ((x5_1).toNat * 4)).off + 1, none⟩ = some (.int .i64 ((rd_T50 l0 x5_1).f1)) ∧ w'.cell? ⟨(ad290.add ((x5_1).toNat * 4)).block, (ad290.add ((x5_1).toNat * 4)).off + 2, none⟩ = some (.int .i64 ((rd_T50 l0 x5_1).f2)) ∧ w'.cell? ⟨(ad290.add ((x5_1).toNat * 4)).block, (ad290.add ((x5_1).toNat * 4)).off + 3, none⟩ = some (.int .i64 ((rd_T50 l0 x5_1).f3)) ∧ w'.cell? (ad291.add ((x5_1).toNat * 4)) = some (.int .i64 ((rd_T50 l1 x5_1).f0)) ∧ w'.cell? ⟨(ad291.add ((x5_1).toNat * 4)).block, (ad291.add ((x5_1).toNat * 4)).off + 1, none⟩ = some (.int .i64 ((rd_T50 l1 x5_1).f1)) ∧ w'.cell? ⟨(ad291.add ((x5_1).toNat * 4)).block, (ad291.add ((x5_1).toNat * 4)).off + 2, none⟩ = some (.int .i64 ((rd_T50 l1 x5_1).f2)) ∧ w'.cell? ⟨(ad291.add ((x5_1).toNat * 4)).block, (ad291.add ((x5_1).toNat * 4)).off + 3, none⟩ = some (.int .i64 ((rd_T50 l1 x5_1).f3))) (ds := []) #[false, false, false, false, false, false, false, false, false, false] (by kernel_rfl) rfl rfl ⟨((HB.out.cell (World.block_lt_of_cell? w _ hw290_0)).trans hw290_0), ((HB.out.cell (World.block_lt_of_cell? w _ hw290_1)).trans hw290_1), ((HB.out.cell (World.block_lt_of_cell? w _ hw290_2)).trans hw290_2), ((HB.out.cell (World.block_lt_of_cell? w _ hw290_3)).trans hw290_3), ((HB.out.cell (World.block_lt_of_cell? w _ hw291_0)).trans hw291_0), ((HB.out.cell (World.block_lt_of_cell? w _ hw291_1)).trans hw291_1), ((HB.out.cell (World.block_lt_of_cell? w _ hw291_2)).trans hw291_2), ((HB.out.cell (World.block_lt_of_cell? w _ hw291_3)).trans hw291_3)⟩ (fun hHeld => ?_); refine with_tabW laws_eqLineS.tab6 laws_eqLineS.bits6 (fun HT_ HW_ => ?_)
        generalize wr.drew = w11 at HB hx290_0 hx290_1 hx290_2 hx290_3 hx291_0 hx291_1 hx291_2 hx291_3 hHeld ⊢
        refine pq (i := 0) (N := some 17) #[true, false, false, false, false, false, false, false, false, false] ?_
        refine pq (i := 1) (N := some 18) #[true, true, false, false, false, false, false, false, false, false] ?_
        refine pq (i := 2) (N := some 19) #[true, true, true, false, false, false, false, false, false, false] ?_
        refine pq (i := 4) (N := some 21) #[true, true, true, false, true, false, false, false, false, false] ?_
        refine pq (i := 5) (N := some 22) #[true, true, true, false, true, true, false, false, false, false] ?_
        refine pq (i := 6) (N := some 23) #[true, true, true, false, true, true, true, false, false, false] ?_
        refine take_ (i := 3) (N := some 20) (v := ?_) (a' := ?_) #[true, true, true, true, true, true, true, false, false, false] rfl rfl (take_ofW HT_.out HW_.out (by kernel_rfl)) (fun _ _ _ h => h) (Or.inl ⟨by rfl, ?_⟩) hHeld ?_ ?_
        rotate_left
        ·rintro w' ⟨s0, s1, s2, s3, s4, s5, s6, s7⟩
         go_simp
         with_reducible rfl
        rotate_left
        ·exact sa
        refine take_ (i := 7) (N := some 24) (v := ?_) (a' := ?_) #[true, true, true, true, true, true, true, true, false, false] rfl rfl (take_ofW HT_.out HW_.out (by kernel_rfl)) (fun _ _ _ h => h) (Or.inl ⟨by rfl, ?_⟩) hHeld ?_ ?_
        rotate_left
        ·rintro w' ⟨s0, s1, s2, s3, s4, s5, s6, s7⟩
         go_simp
         with_reducible rfl
        rotate_left
        ·exact sa
        refine one_ (i := 8) (N := some 25) #[true, true, true, true, true, true, true, true, true, false] rfl rfl (one_of HT_.out (by kernel_rfl)) (by decide) (fun K hK => ?_)
        refine goes_ Try.func32 (by kernel_rfl) rfl #[.agg #[.int .i64 ((rd_T50 l0 x5_1).f0), .int .i64 ((rd_T50 l0 x5_1).f1), .int .i64 ((rd_T50 l0 x5_1).f2), .int .i64 ((rd_T50 l0 x5_1).f3)], .agg #[.int .i64 ((rd_T50 l1 x5_1).f0), .int .i64 ((rd_T50 l1 x5_1).f1), .int .i64 ((rd_T50 l1 x5_1).f2), .int .i64 ((rd_T50 l1 x5_1).f3)]] (by rfl) rfl rfl (aq) ?_
        with_reducible refine (laws_eqLine.calls ((rd_T50 l0 x5_1).f0) ((rd_T50 l0 x5_1).f1) ((rd_T50 l0 x5_1).f2) ((rd_T50 l0 x5_1).f3) ((rd_T50 l1 x5_1).f0) ((rd_T50 l1 x5_1).f1) ((rd_T50 l1 x5_1).f2) ((rd_T50 l1 x5_1).f3) false _ A7.out).mono ?_
        rintro e w12 ⟨rfl, hb⟩
        refine ⟨_, rfl, ?_⟩
        replace HB := am (below_step (bq) hb)
        (try clear hb)
        (try clear hb2)
        (try clear hk)
        (try clear hi)
        refine hK.out _ _ ⟨((HB.out.cell (World.block_lt_of_cell? w _ hw290_0)).trans hw290_0), ((HB.out.cell (World.block_lt_of_cell? w _ hw290_1)).trans hw290_1), ((HB.out.cell (World.block_lt_of_cell? w _ hw290_2)).trans hw290_2), ((HB.out.cell (World.block_lt_of_cell? w _ hw290_3)).trans hw290_3), ((HB.out.cell (World.block_lt_of_cell? w _ hw291_0)).trans hw291_0), ((HB.out.cell (World.block_lt_of_cell? w _ hw291_1)).trans hw291_1), ((HB.out.cell (World.block_lt_of_cell? w _ hw291_2)).trans hw291_2), ((HB.out.cell (World.block_lt_of_cell? w _ hw291_3)).trans hw291_3)⟩ (fun hHeld => ?_)
        clear hK K
        refine norm_ (a' := ?_) ?_ ?_
        rotate_left
        ·show Act.put _ (some 25) _ = _
         simp only [Act.put, List.setIfInBounds_toArray, List.set_cons_zero, List.set_cons_succ, i64_w, i32_w]
         rfl
        refine pq (i := 9) (N := some 26) #[true, true, true, true, true, true, true, true, true, true] ?_
        refine done_ (done_of HT_.out (by kernel_rfl)) ?_
        try go_wp2
        go_ret
        exact ⟨Y1, bq⟩
      ·rw [if_neg c6] at H
       exact absurd H (by simp)
     ·rw [if_neg c5] at H
      exact absurd H (by simp)
    ·rw [if_neg c4] at H
     have c4b0 : decide (x5_1 < (l0.length : Int)) = false := decide_eq_false c4
     clear c4
     obtain rfl := Option.some.inj H
     go_wp2
     go_ret
     exact ⟨Y1, bq⟩
 ·rw [if_neg c3] at H
  have c3b0 : ((l0.length : Int) == (l1.length : Int)) = false := beq_eq_false_iff_ne.mpr c3
  have c3b1 : ((l0.length : Int) != (l1.length : Int)) = true := bne_iff_ne.mpr c3
  have c3b2 : (l0.length == l1.length) = false := by first | simpa using c3 | (simp at c3 ⊢; omega)
  obtain rfl := Option.some.inj H
  go_enter Try.func13, Try.ntmps13
  go_wp2
  go_ret
  exact ⟨Y1, bq⟩
def laws_eqClass.f (a0_0 : ByteArray) (a0_1 : Int) (a1_0 : ByteArray) (a1_1 : Int) : Option (Bool) := if a0_0.toList = a1_0.toList then (if a0_1 = a1_1 then (some true) else (some false)) else (some false)
set_option maxHeartbeats 8000000 in
set_option maxRecDepth 100000 in
theorem laws_eqClass.calls (a0_0 : ByteArray) (a0_1 : Int) (a1_0 : ByteArray) (a1_1 : Int) (r : Bool) (w : World) (h : laws_eqClass.f a0_0 a0_1 a1_0 a1_1 = some r) :
  Calls Try.prog 43 #[.agg #[.string a0_0, .int .i64 a0_1], .agg #[.string a1_0, .int .i64 a1_1]] w fun e w' => e = .returned (.bool r) ∧ Below w.heap.size w w' := by
 have hu63 := Try.underlying63
 have HB := am (Below.refl w.heap.size w)
 have H : (if a0_0.toList = a1_0.toList then (if a0_1 = a1_1 then (some true) else (some false)) else (some false)) = some r := h
 clear h
 by_cases c3 : a0_0.toList = a1_0.toList
 ·rw [if_pos c3] at H
  have c3b0 : (a0_0.toList == a1_0.toList) = true := beq_iff_eq.mpr c3
  have c3b1 : (a0_0.toList != a1_0.toList) = false := bne_eq_false_iff_eq.mpr c3
  clear c3
  by_cases c4 : a0_1 = a1_1
  ·rw [if_pos c4] at H
   have c4b0 : (a0_1 == a1_1) = true := beq_iff_eq.mpr c4
   have c4b1 : (a0_1 != a1_1) = false := bne_eq_false_iff_eq.mpr c4
   clear c4
   obtain rfl := Option.some.inj H
   go_enter Try.func43, Try.ntmps43
   go_wp2_with (first | ((with_reducible refine gate_dst (N := 2) rfl ?_); refine bE (N := 2) (cs := #[.string a0_0, .int .i64 a0_1]) (t := 63) ?_; intro gb293 hg w5 hbox hb; have BK293 := am (hbox); have GW293 := am ((Y0 : w.heap.size ≤ gb293)); have GE293 := am ((Y0 : w.heap.size ≤ gb293)); replace HB := am (below_step (bq) hb); clear hb hbox hg) | ((with_reducible refine gate_dst (N := 3) rfl ?_); refine bE (N := 3) (cs := #[.string a1_0, .int .i64 a1_1]) (t := 63) ?_; intro gb294 hg w6 hbox hb; have BK294 := am (hbox); have GW294 := am ((Y37 : w.heap.size ≤ gb294)); have GE294 := am ((Y37 : w.heap.size ≤ gb294)); have NB293_294 := am ((Y59 : gb293 ≠ gb294)); have NB294_293 := am ((Y60 : gb294 ≠ gb293)); replace BK293 := am (blk_below (g := gb293) (o := .cells #[.string a0_0, .int .i64 a0_1] 63 (0, 0)) (kq BK293.out) hb); replace HB := am (below_step (Y61) hb); clear hb hbox hg; have hnb7 := NB293_294.out; have hnc7 := NB294_293.out; have hcz8_0 := bc0 BK293.out; have hcz8_1 := bc1 BK293.out; have hfz8_0 := blk_frozen BK293.out 0; have hfz8_1 := blk_frozen BK293.out 1; have hcz9_0 := bc0 BK294.out; have hcz9_1 := bc1 BK294.out; have hfz9_0 := blk_frozen BK294.out 0; have hfz9_1 := blk_frozen BK294.out 1))
   go_ret
   exact ⟨Y1, Y62⟩
  ·rw [if_neg c4] at H
   have c4b0 : (a0_1 == a1_1) = false := beq_eq_false_iff_ne.mpr c4
   have c4b1 : (a0_1 != a1_1) = true := bne_iff_ne.mpr c4
   obtain rfl := Option.some.inj H
   go_enter Try.func43, Try.ntmps43
   go_wp2_with (first | ((with_reducible refine gate_dst (N := 2) rfl ?_); refine bE (N := 2) (cs := #[.string a0_0, .int .i64 a0_1]) (t := 63) ?_; intro gb293 hg w10 hbox hb; have BK293 := am (hbox); have GW293 := am ((Y0 : w.heap.size ≤ gb293)); have GE293 := am ((Y0 : w.heap.size ≤ gb293)); replace HB := am (below_step (bq) hb); clear hb hbox hg) | ((with_reducible refine gate_dst (N := 3) rfl ?_); refine bE (N := 3) (cs := #[.string a1_0, .int .i64 a1_1]) (t := 63) ?_; intro gb294 hg w11 hbox hb; have BK294 := am (hbox); have GW294 := am ((Y37 : w.heap.size ≤ gb294)); have GE294 := am ((Y37 : w.heap.size ≤ gb294)); have NB293_294 := am ((Y59 : gb293 ≠ gb294)); have NB294_293 := am ((Y60 : gb294 ≠ gb293)); replace BK293 := am (blk_below (g := gb293) (o := .cells #[.string a0_0, .int .i64 a0_1] 63 (0, 0)) (kq BK293.out) hb); replace HB := am (below_step (Y61) hb); clear hb hbox hg; have hnb12 := NB293_294.out; have hnc12 := NB294_293.out; have hcz13_0 := bc0 BK293.out; have hcz13_1 := bc1 BK293.out; have hfz13_0 := blk_frozen BK293.out 0; have hfz13_1 := blk_frozen BK293.out 1; have hcz14_0 := bc0 BK294.out; have hcz14_1 := bc1 BK294.out; have hfz14_0 := blk_frozen BK294.out 0; have hfz14_1 := blk_frozen BK294.out 1))
   go_ret
   exact ⟨Y1, Y62⟩
 ·rw [if_neg c3] at H
  have c3b0 : (a0_0.toList == a1_0.toList) = false := beq_eq_false_iff_ne.mpr c3
  have c3b1 : (a0_0.toList != a1_0.toList) = true := bne_iff_ne.mpr c3
  obtain rfl := Option.some.inj H
  go_enter Try.func43, Try.ntmps43
  go_wp2_with (first | ((with_reducible refine gate_dst (N := 2) rfl ?_); refine bE (N := 2) (cs := #[.string a0_0, .int .i64 a0_1]) (t := 63) ?_; intro gb293 hg w15 hbox hb; have BK293 := am (hbox); have GW293 := am ((Y0 : w.heap.size ≤ gb293)); have GE293 := am ((Y0 : w.heap.size ≤ gb293)); replace HB := am (below_step (bq) hb); clear hb hbox hg) | ((with_reducible refine gate_dst (N := 3) rfl ?_); refine bE (N := 3) (cs := #[.string a1_0, .int .i64 a1_1]) (t := 63) ?_; intro gb294 hg w16 hbox hb; have BK294 := am (hbox); have GW294 := am ((Y37 : w.heap.size ≤ gb294)); have GE294 := am ((Y37 : w.heap.size ≤ gb294)); have NB293_294 := am ((Y59 : gb293 ≠ gb294)); have NB294_293 := am ((Y60 : gb294 ≠ gb293)); replace BK293 := am (blk_below (g := gb293) (o := .cells #[.string a0_0, .int .i64 a0_1] 63 (0, 0)) (kq BK293.out) hb); replace HB := am (below_step (Y61) hb); clear hb hbox hg; have hnb17 := NB293_294.out; have hnc17 := NB294_293.out; have hcz18_0 := bc0 BK293.out; have hcz18_1 := bc1 BK293.out; have hfz18_0 := blk_frozen BK293.out 0; have hfz18_1 := blk_frozen BK293.out 1; have hcz19_0 := bc0 BK294.out; have hcz19_1 := bc1 BK294.out; have hfz19_0 := blk_frozen BK294.out 0; have hfz19_1 := blk_frozen BK294.out 1))
  go_ret
  exact ⟨Y1, Y62⟩
def laws_eqClassS.l0 : Nat → List (S63) → List (S63) → Int → Option (Bool)
 | 0, _, _, _ => none
 | k + 1, x0, x1, x5 => if x5 < (x0.length : Int) then (if 0 ≤ x5 then (if x5 < (x1.length : Int) then ((laws_eqClass.f ((rd_T63 x0 x5).f0) ((rd_T63 x0 x5).f1) ((rd_T63 x1 x5).f0) ((rd_T63 x1 x5).f1)).bind fun t297 => (if t297 = true then (laws_eqClassS.l0 k x0 x1 (wrap64 (x5 + 1))) else (some false))) else (none)) else (none)) else (some true)
def laws_eqClassS.f (k : Nat) (l0 : List (S63)) (l1 : List (S63)) : Option (Bool) := if (l0.length : Int) = (l1.length : Int) then (laws_eqClassS.l0 k l0 l1 0) else (some false)
def laws_eqClassS.T6 : Bool × List (List Nat × List Nat) := (true, [([], []), ([], []), ([0, 1], [0, 1]), ([2], [2]), ([], []), ([], []), ([4, 5], [4, 5]), ([6], [6]), ([3, 7], [3, 7]), ([8], [8])])
def laws_eqClassS.B6 : List Nat := [0, 0, 3, 7, 0, 0, 48, 112, 255, 511]
theorem laws_eqClassS.tab6 : rtab .any (opsOf Try.f33 6) = laws_eqClassS.T6 := by kernel_rfl
theorem laws_eqClassS.bits6 : waitsOk laws_eqClassS.T6.2 laws_eqClassS.B6 = true := by kernel_rfl
set_option maxHeartbeats 8000000 in
set_option maxRecDepth 100000 in
theorem laws_eqClassS.calls (k : Nat) (A0 : Option Addr) (c0 : Nat) (l0 : List (S63)) (A1 : Option Addr) (c1 : Nat) (l1 : List (S63)) (r : Bool) (w : World) (hr0 : Kd.C k63 w A0 l0.length l0) (hc0 : l0.length ≤ c0) (hr1 : Kd.C k63 w A1 l1.length l1) (hc1 : l1.length ≤ c1) (h : laws_eqClassS.f k l0 l1 = some r) :
  Calls Try.prog 33 #[.slice A0 l0.length c0, .slice A1 l1.length c1] w fun e w' => e = .returned (.bool r) ∧ Below w.heap.size w w' := by
 have hu63 := Try.underlying63
 have HR0 := am hr0
 have HC0 := am hc0
 clear hr0 hc0
 have HR1 := am hr1
 have HC1 := am hc1
 clear hr1 hc1
 have HB := am (Below.refl w.heap.size w)
 have H : (if (l0.length : Int) = (l1.length : Int) then (laws_eqClassS.l0 k l0 l1 0) else (some false)) = some r := h
 clear h
 by_cases c3 : (l0.length : Int) = (l1.length : Int)
 ·rw [if_pos c3] at H
  have c3b0 : ((l0.length : Int) == (l1.length : Int)) = true := beq_iff_eq.mpr c3
  have c3b1 : ((l0.length : Int) != (l1.length : Int)) = false := bne_eq_false_iff_eq.mpr c3
  have c3b2 : (l0.length == l1.length) = true := by first | simpa using c3 | (simp at c3 ⊢; omega)
  clear c3
  have H' := am H
  clear H
  go_enter Try.func33, Try.ntmps33
  go_wp2
  go_loopg [5] k (fun kq v5 w' => ∃ (x5_1 : Int), v5 = .int .i64 x5_1 ∧ Aside0 (laws_eqClassS.l0 kq l0 l1 x5_1 = some r) ∧ Aside0 (kq ≤ k) ∧ Aside0 (Below w.heap.size w w'))
  case atStart => exact ⟨(0), (sq), H', ⟨Nat.le_refl _⟩, ⟨bq⟩⟩
  case round =>
   clear H'
   try clear c1
   try clear p2
   try clear c3
   try clear c3b0
   try clear c3b1
   try clear c3b2
   obtain ⟨x5_1, rfl, HA, HK1, HB⟩ := hrel
   cases gk with
   | zero => exact absurd HA.out (by simp [laws_eqClassS.l0])
   | succ k1 =>
    have H := HA.out
    clear HA
    simp only [laws_eqClassS.l0] at H
    by_cases c4 : x5_1 < (l0.length : Int)
    ·rw [if_pos c4] at H
     have c4b0 : decide (x5_1 < (l0.length : Int)) = true := decide_eq_true c4
     clear c4
     by_cases c5 : 0 ≤ x5_1
     ·rw [if_pos c5] at H
      have c5b0 : decide (0 ≤ x5_1) = true := decide_eq_true c5
      clear c5
      by_cases c6 : x5_1 < (l1.length : Int)
      ·rw [if_pos c6] at H
       have c6b0 : decide (x5_1 < (l1.length : Int)) = true := decide_eq_true c6
       clear c6
       replace H := Option.bind_eq_some_iff.mp H
       obtain ⟨t297, A70, H⟩ := H
       replace H : (if t297 = true then (laws_eqClassS.l0 k1 l0 l1 (wrap64 (x5_1 + 1))) else (some false)) = some r := H
       have A7 := am A70
       clear A70
       by_cases c8 : t297 = true
       ·subst c8
        have H1 : (laws_eqClassS.l0 k1 l0 l1 (wrap64 (x5_1 + 1))) = some r := by rw [if_pos rfl] at H; exact H
        clear H
        have H := H1
        clear H1
        have H' := am H
        clear H
        try go_wp2
        replace HB := am (below_drew1 HB.out)
        have p295 : 0 ≤ (x5_1 : Int) := of_decide_eq_true (uq)
        have q295 : x5_1 < (l0.length : Int) := of_decide_eq_true (uq)
        obtain ⟨ad295, e295, hx295_0, hx295_1⟩ := at_T63 HR0.out x5_1 p295 q295
        have hw295_1 := hx295_1
        have hw295_0 := hx295_0
        cases e295
        replace hx295_0 := cb HB.out hx295_0
        replace hx295_1 := cb HB.out hx295_1
        replace p295 := eq_true p295
        replace q295 := eq_true q295
        have p296 : 0 ≤ (x5_1 : Int) := of_decide_eq_true (uq)
        have q296 : x5_1 < (l1.length : Int) := of_decide_eq_true (uq)
        obtain ⟨ad296, e296, hx296_0, hx296_1⟩ := at_T63 HR1.out x5_1 p296 q296
        have hw296_1 := hx296_1
        have hw296_0 := hx296_0
        cases e296
        replace hx296_0 := cb HB.out hx296_0
        replace hx296_1 := cb HB.out hx296_1
        replace p296 := eq_true p296
        replace q296 := eq_true q296
        refine start_ (n := 10) (S := fun w' => w'.cell? (ad295.add ((x5_1).toNat * 2)) = some (.string ((rd_T63 l0 x5_1).f0)) ∧ w'.cell? ⟨(ad295.add ((x5_1).toNat * 2)).block, (ad295.add ((x5_1).toNat * 2)).off + 1, none⟩ = some (.int .i64 ((rd_T63 l0 x5_1).f1)) ∧ w'.cell? (ad296.add ((x5_1).toNat * 2)) = some (.string ((rd_T63 l1 x5_1).f0)) ∧ w'.cell? ⟨(ad296.add ((x5_1).toNat * 2)).block, (ad296.add ((x5_1).toNat * 2)).off + 1, none⟩ = some (.int .i64 ((rd_T63 l1 x5_1).f1))) (ds := []) #[false, false, false, false, false, false, false, false, false, false] (by kernel_rfl) rfl rfl ⟨((HB.out.cell (World.block_lt_of_cell? w _ hw295_0)).trans hw295_0), ((HB.out.cell (World.block_lt_of_cell? w _ hw295_1)).trans hw295_1), ((HB.out.cell (World.block_lt_of_cell? w _ hw296_0)).trans hw296_0), ((HB.out.cell (World.block_lt_of_cell? w _ hw296_1)).trans hw296_1)⟩ (fun hHeld => ?_); refine with_tabW laws_eqClassS.tab6 laws_eqClassS.bits6 (fun HT_ HW_ => ?_)
        generalize wr.drew = w9 at HB hx295_0 hx295_1 hx296_0 hx296_1 hHeld ⊢
        refine pq (i := 0) (N := some 17) #[true, false, false, false, false, false, false, false, false, false] ?_
        refine pq (i := 1) (N := some 18) #[true, true, false, false, false, false, false, false, false, false] ?_
        refine pq (i := 2) (N := some 19) #[true, true, true, false, false, false, false, false, false, false] ?_
        refine pq (i := 4) (N := some 21) #[true, true, true, false, true, false, false, false, false, false] ?_
        refine pq (i := 5) (N := some 22) #[true, true, true, false, true, true, false, false, false, false] ?_
        refine pq (i := 6) (N := some 23) #[true, true, true, false, true, true, true, false, false, false] ?_
        refine take_ (i := 3) (N := some 20) (v := ?_) (a' := ?_) #[true, true, true, true, true, true, true, false, false, false] rfl rfl (take_ofW HT_.out HW_.out (by kernel_rfl)) (fun _ _ _ h => h) (Or.inl ⟨by rfl, ?_⟩) hHeld ?_ ?_
        rotate_left
        ·rintro w' ⟨s0, s1, s2, s3⟩
         go_simp
         with_reducible rfl
        rotate_left
        ·exact sa
        refine take_ (i := 7) (N := some 24) (v := ?_) (a' := ?_) #[true, true, true, true, true, true, true, true, false, false] rfl rfl (take_ofW HT_.out HW_.out (by kernel_rfl)) (fun _ _ _ h => h) (Or.inl ⟨by rfl, ?_⟩) hHeld ?_ ?_
        rotate_left
        ·rintro w' ⟨s0, s1, s2, s3⟩
         go_simp
         with_reducible rfl
        rotate_left
        ·exact sa
        refine one_ (i := 8) (N := some 25) #[true, true, true, true, true, true, true, true, true, false] rfl rfl (one_of HT_.out (by kernel_rfl)) (by decide) (fun K hK => ?_)
        refine goes_ Try.func43 (by kernel_rfl) rfl #[.agg #[.string ((rd_T63 l0 x5_1).f0), .int .i64 ((rd_T63 l0 x5_1).f1)], .agg #[.string ((rd_T63 l1 x5_1).f0), .int .i64 ((rd_T63 l1 x5_1).f1)]] (by rfl) rfl rfl (aq) ?_
        with_reducible refine (laws_eqClass.calls ((rd_T63 l0 x5_1).f0) ((rd_T63 l0 x5_1).f1) ((rd_T63 l1 x5_1).f0) ((rd_T63 l1 x5_1).f1) true _ A7.out).mono ?_
        rintro e w10 ⟨rfl, hb⟩
        refine ⟨_, rfl, ?_⟩
        replace HB := am (below_step (bq) hb)
        (try clear hb)
        (try clear hb2)
        (try clear hk)
        (try clear hi)
        refine hK.out _ _ ⟨((HB.out.cell (World.block_lt_of_cell? w _ hw295_0)).trans hw295_0), ((HB.out.cell (World.block_lt_of_cell? w _ hw295_1)).trans hw295_1), ((HB.out.cell (World.block_lt_of_cell? w _ hw296_0)).trans hw296_0), ((HB.out.cell (World.block_lt_of_cell? w _ hw296_1)).trans hw296_1)⟩ (fun hHeld => ?_)
        clear hK K
        refine norm_ (a' := ?_) ?_ ?_
        rotate_left
        ·show Act.put _ (some 25) _ = _
         simp only [Act.put, List.setIfInBounds_toArray, List.set_cons_zero, List.set_cons_succ, i64_w, i32_w]
         rfl
        refine pq (i := 9) (N := some 26) #[true, true, true, true, true, true, true, true, true, true] ?_
        refine done_ (done_of HT_.out (by kernel_rfl)) ?_
        try go_wp2
        go_roundg k1
        case measure => have := HK1.out; omega
        case rel => exact ⟨(wrap64 (x5_1 + 1)), (sq), H', ⟨by have := HK1.out; omega⟩, ⟨bq⟩⟩
       ·replace c8 := Bool.eq_false_iff.mpr c8
        subst c8
        have H1 : (some false) = some r := by rw [if_neg (show ¬ (false = true) by decide)] at H; exact H
        clear H
        have H := H1
        clear H1
        obtain rfl := Option.some.inj H
        try go_wp2
        replace HB := am (below_drew1 HB.out)
        have p295 : 0 ≤ (x5_1 : Int) := of_decide_eq_true (uq)
        have q295 : x5_1 < (l0.length : Int) := of_decide_eq_true (uq)
        obtain ⟨ad295, e295, hx295_0, hx295_1⟩ := at_T63 HR0.out x5_1 p295 q295
        have hw295_1 := hx295_1
        have hw295_0 := hx295_0
        cases e295
        replace hx295_0 := cb HB.out hx295_0
        replace hx295_1 := cb HB.out hx295_1
        replace p295 := eq_true p295
        replace q295 := eq_true q295
        have p296 : 0 ≤ (x5_1 : Int) := of_decide_eq_true (uq)
        have q296 : x5_1 < (l1.length : Int) := of_decide_eq_true (uq)
        obtain ⟨ad296, e296, hx296_0, hx296_1⟩ := at_T63 HR1.out x5_1 p296 q296
        have hw296_1 := hx296_1
        have hw296_0 := hx296_0
        cases e296
        replace hx296_0 := cb HB.out hx296_0
        replace hx296_1 := cb HB.out hx296_1
        replace p296 := eq_true p296
        replace q296 := eq_true q296
        refine start_ (n := 10) (S := fun w' => w'.cell? (ad295.add ((x5_1).toNat * 2)) = some (.string ((rd_T63 l0 x5_1).f0)) ∧ w'.cell? ⟨(ad295.add ((x5_1).toNat * 2)).block, (ad295.add ((x5_1).toNat * 2)).off + 1, none⟩ = some (.int .i64 ((rd_T63 l0 x5_1).f1)) ∧ w'.cell? (ad296.add ((x5_1).toNat * 2)) = some (.string ((rd_T63 l1 x5_1).f0)) ∧ w'.cell? ⟨(ad296.add ((x5_1).toNat * 2)).block, (ad296.add ((x5_1).toNat * 2)).off + 1, none⟩ = some (.int .i64 ((rd_T63 l1 x5_1).f1))) (ds := []) #[false, false, false, false, false, false, false, false, false, false] (by kernel_rfl) rfl rfl ⟨((HB.out.cell (World.block_lt_of_cell? w _ hw295_0)).trans hw295_0), ((HB.out.cell (World.block_lt_of_cell? w _ hw295_1)).trans hw295_1), ((HB.out.cell (World.block_lt_of_cell? w _ hw296_0)).trans hw296_0), ((HB.out.cell (World.block_lt_of_cell? w _ hw296_1)).trans hw296_1)⟩ (fun hHeld => ?_); refine with_tabW laws_eqClassS.tab6 laws_eqClassS.bits6 (fun HT_ HW_ => ?_)
        generalize wr.drew = w11 at HB hx295_0 hx295_1 hx296_0 hx296_1 hHeld ⊢
        refine pq (i := 0) (N := some 17) #[true, false, false, false, false, false, false, false, false, false] ?_
        refine pq (i := 1) (N := some 18) #[true, true, false, false, false, false, false, false, false, false] ?_
        refine pq (i := 2) (N := some 19) #[true, true, true, false, false, false, false, false, false, false] ?_
        refine pq (i := 4) (N := some 21) #[true, true, true, false, true, false, false, false, false, false] ?_
        refine pq (i := 5) (N := some 22) #[true, true, true, false, true, true, false, false, false, false] ?_
        refine pq (i := 6) (N := some 23) #[true, true, true, false, true, true, true, false, false, false] ?_
        refine take_ (i := 3) (N := some 20) (v := ?_) (a' := ?_) #[true, true, true, true, true, true, true, false, false, false] rfl rfl (take_ofW HT_.out HW_.out (by kernel_rfl)) (fun _ _ _ h => h) (Or.inl ⟨by rfl, ?_⟩) hHeld ?_ ?_
        rotate_left
        ·rintro w' ⟨s0, s1, s2, s3⟩
         go_simp
         with_reducible rfl
        rotate_left
        ·exact sa
        refine take_ (i := 7) (N := some 24) (v := ?_) (a' := ?_) #[true, true, true, true, true, true, true, true, false, false] rfl rfl (take_ofW HT_.out HW_.out (by kernel_rfl)) (fun _ _ _ h => h) (Or.inl ⟨by rfl, ?_⟩) hHeld ?_ ?_
        rotate_left
        ·rintro w' ⟨s0, s1, s2, s3⟩
         go_simp
         with_reducible rfl
        rotate_left
        ·exact sa
        refine one_ (i := 8) (N := some 25) #[true, true, true, true, true, true, true, true, true, false] rfl rfl (one_of HT_.out (by kernel_rfl)) (by decide) (fun K hK => ?_)
        refine goes_ Try.func43 (by kernel_rfl) rfl #[.agg #[.string ((rd_T63 l0 x5_1).f0), .int .i64 ((rd_T63 l0 x5_1).f1)], .agg #[.string ((rd_T63 l1 x5_1).f0), .int .i64 ((rd_T63 l1 x5_1).f1)]] (by rfl) rfl rfl (aq) ?_
        with_reducible refine (laws_eqClass.calls ((rd_T63 l0 x5_1).f0) ((rd_T63 l0 x5_1).f1) ((rd_T63 l1 x5_1).f0) ((rd_T63 l1 x5_1).f1) false _ A7.out).mono ?_
        rintro e w12 ⟨rfl, hb⟩
        refine ⟨_, rfl, ?_⟩
        replace HB := am (below_step (bq) hb)
        (try clear hb)
        (try clear hb2)
        (try clear hk)
        (try clear hi)
        refine hK.out _ _ ⟨((HB.out.cell (World.block_lt_of_cell? w _ hw295_0)).trans hw295_0), ((HB.out.cell (World.block_lt_of_cell? w _ hw295_1)).trans hw295_1), ((HB.out.cell (World.block_lt_of_cell? w _ hw296_0)).trans hw296_0), ((HB.out.cell (World.block_lt_of_cell? w _ hw296_1)).trans hw296_1)⟩ (fun hHeld => ?_)
        clear hK K
        refine norm_ (a' := ?_) ?_ ?_
        rotate_left
        ·show Act.put _ (some 25) _ = _
         simp only [Act.put, List.setIfInBounds_toArray, List.set_cons_zero, List.set_cons_succ, i64_w, i32_w]
         rfl
        refine pq (i := 9) (N := some 26) #[true, true, true, true, true, true, true, true, true, true] ?_
        refine done_ (done_of HT_.out (by kernel_rfl)) ?_
        try go_wp2
        go_ret
        exact ⟨Y1, bq⟩
      ·rw [if_neg c6] at H
       exact absurd H (by simp)
     ·rw [if_neg c5] at H
      exact absurd H (by simp)
    ·rw [if_neg c4] at H
     have c4b0 : decide (x5_1 < (l0.length : Int)) = false := decide_eq_false c4
     clear c4
     obtain rfl := Option.some.inj H
     go_wp2
     go_ret
     exact ⟨Y1, bq⟩
 ·rw [if_neg c3] at H
  have c3b0 : ((l0.length : Int) == (l1.length : Int)) = false := beq_eq_false_iff_ne.mpr c3
  have c3b1 : ((l0.length : Int) != (l1.length : Int)) = true := bne_iff_ne.mpr c3
  have c3b2 : (l0.length == l1.length) = false := by first | simpa using c3 | (simp at c3 ⊢; omega)
  obtain rfl := Option.some.inj H
  go_enter Try.func33, Try.ntmps33
  go_wp2
  go_ret
  exact ⟨Y1, bq⟩
def laws_eqTree.f (k : Nat) (l0_0 : List (S63)) (l1_0 : List (S63)) : Option (Bool) := (laws_eqClassS.f k l0_0 l1_0).bind fun t300 => (if t300 = true then (some true) else (some false))
set_option maxHeartbeats 8000000 in
set_option maxRecDepth 100000 in
theorem laws_eqTree.calls (k : Nat) (A0_0 : Option Addr) (c0_0 : Nat) (l0_0 : List (S63)) (A1_0 : Option Addr) (c1_0 : Nat) (l1_0 : List (S63)) (r : Bool) (w : World) (hr0_0 : Kd.C k63 w A0_0 l0_0.length l0_0) (hc0_0 : l0_0.length ≤ c0_0) (hr1_0 : Kd.C k63 w A1_0 l1_0.length l1_0) (hc1_0 : l1_0.length ≤ c1_0) (h : laws_eqTree.f k l0_0 l1_0 = some r) :
  Calls Try.prog 14 #[.agg #[.slice A0_0 l0_0.length c0_0], .agg #[.slice A1_0 l1_0.length c1_0]] w fun e w' => e = .returned (.bool r) ∧ Below w.heap.size w w' := by
 have hu33 := Try.underlying33
 have HR0_0 := am hr0_0
 have HC0_0 := am hc0_0
 clear hr0_0 hc0_0
 have HR1_0 := am hr1_0
 have HC1_0 := am hc1_0
 clear hr1_0 hc1_0
 have HB := am (Below.refl w.heap.size w)
 have H : ((laws_eqClassS.f k l0_0 l1_0).bind fun t300 => (if t300 = true then (some true) else (some false))) = some r := h
 clear h
 replace H := Option.bind_eq_some_iff.mp H
 obtain ⟨t300, A30, H⟩ := H
 replace H : (if t300 = true then (some true) else (some false)) = some r := H
 have A3 := am A30
 clear A30
 by_cases c4 : t300 = true
 ·subst c4
  have H1 : (some true) = some r := by rw [if_pos rfl] at H; exact H
  clear H
  have H := H1
  clear H1
  obtain rfl := Option.some.inj H
  go_enter Try.func14, Try.ntmps14
  go_wp2_with (first | ((with_reducible refine gate_dst (N := 2) rfl ?_); refine bE (N := 2) (cs := #[.slice A0_0 l0_0.length c0_0]) (t := 33) ?_; intro gb298 hg w5 hbox hb; have BK298 := am (hbox); have GW298 := am ((Y0 : w.heap.size ≤ gb298)); have GE298 := am ((Y0 : w.heap.size ≤ gb298)); replace HB := am (below_step (bq) hb); clear hb hbox hg) | ((with_reducible refine gate_dst (N := 3) rfl ?_); refine bE (N := 3) (cs := #[.slice A1_0 l1_0.length c1_0]) (t := 33) ?_; intro gb299 hg w6 hbox hb; have BK299 := am (hbox); have GW299 := am ((Y50 : w.heap.size ≤ gb299)); have GE299 := am ((Y50 : w.heap.size ≤ gb299)); have NB298_299 := am ((by rw [hg]; exact Nat.ne_of_lt (blk_lt (g := gb298) (o := .cells #[.slice A0_0 l0_0.length c0_0] 33 (0, 0)) (kq BK298.out)) : gb298 ≠ gb299)); have NB299_298 := am ((by rw [hg]; exact Nat.ne_of_gt (blk_lt (g := gb298) (o := .cells #[.slice A0_0 l0_0.length c0_0] 33 (0, 0)) (kq BK298.out)) : gb299 ≠ gb298)); replace BK298 := am (blk_below (g := gb298) (o := .cells #[.slice A0_0 l0_0.length c0_0] 33 (0, 0)) (kq BK298.out) hb); replace HB := am (below_step (Y79) hb); clear hb hbox hg; have hnb7 := NB298_299.out; have hnc7 := NB299_298.out; have hcz8_0 := bc0 BK298.out; have hfz8_0 := blk_frozen BK298.out 0; have hcz9_0 := bc0 BK299.out; have hfz9_0 := blk_frozen BK299.out 0) | ((with_reducible refine gate_callee (f := 33) rfl ?_); refine gL (some 9) Try.func33 #[.slice A0_0 l0_0.length c0_0, .slice A1_0 l1_0.length c1_0] ?_; (with_reducible refine (laws_eqClassS.calls k _ _ l0_0 _ _ l1_0 true _ ?side1 ?side2 ?side3 ?side4 A3.out).mono ?_); (case side1 => exact cq (Kd.C_below HR0_0.out HB.out)); (case side2 => exact HC0_0.out); (case side3 => exact cq (Kd.C_below HR1_0.out HB.out)); (case side4 => exact HC1_0.out); rintro e w10 ⟨rfl, hb⟩; refine ⟨_, rfl, ?_⟩; replace BK298 := am (blk_below (g := gb298) (o := .cells #[.slice A0_0 l0_0.length c0_0] 33 (0, 0)) (kq BK298.out) hb); replace BK299 := am (blk_below (g := gb299) (o := .cells #[.slice A1_0 l1_0.length c1_0] 33 (0, 0)) (kq BK299.out) hb); replace HB := am (below_step (Y51) hb); (try clear hb); (try clear hb2); (try clear hk); (try clear hi)))
  go_ret
  exact ⟨Y1, Y51⟩
 ·replace c4 := Bool.eq_false_iff.mpr c4
  subst c4
  have H1 : (some false) = some r := by rw [if_neg (show ¬ (false = true) by decide)] at H; exact H
  clear H
  have H := H1
  clear H1
  obtain rfl := Option.some.inj H
  go_enter Try.func14, Try.ntmps14
  go_wp2_with (first | ((with_reducible refine gate_dst (N := 2) rfl ?_); refine bE (N := 2) (cs := #[.slice A0_0 l0_0.length c0_0]) (t := 33) ?_; intro gb298 hg w11 hbox hb; have BK298 := am (hbox); have GW298 := am ((Y0 : w.heap.size ≤ gb298)); have GE298 := am ((Y0 : w.heap.size ≤ gb298)); replace HB := am (below_step (bq) hb); clear hb hbox hg) | ((with_reducible refine gate_dst (N := 3) rfl ?_); refine bE (N := 3) (cs := #[.slice A1_0 l1_0.length c1_0]) (t := 33) ?_; intro gb299 hg w12 hbox hb; have BK299 := am (hbox); have GW299 := am ((Y50 : w.heap.size ≤ gb299)); have GE299 := am ((Y50 : w.heap.size ≤ gb299)); have NB298_299 := am ((by rw [hg]; exact Nat.ne_of_lt (blk_lt (g := gb298) (o := .cells #[.slice A0_0 l0_0.length c0_0] 33 (0, 0)) (kq BK298.out)) : gb298 ≠ gb299)); have NB299_298 := am ((by rw [hg]; exact Nat.ne_of_gt (blk_lt (g := gb298) (o := .cells #[.slice A0_0 l0_0.length c0_0] 33 (0, 0)) (kq BK298.out)) : gb299 ≠ gb298)); replace BK298 := am (blk_below (g := gb298) (o := .cells #[.slice A0_0 l0_0.length c0_0] 33 (0, 0)) (kq BK298.out) hb); replace HB := am (below_step (Y79) hb); clear hb hbox hg; have hnb13 := NB298_299.out; have hnc13 := NB299_298.out; have hcz14_0 := bc0 BK298.out; have hfz14_0 := blk_frozen BK298.out 0; have hcz15_0 := bc0 BK299.out; have hfz15_0 := blk_frozen BK299.out 0) | ((with_reducible refine gate_callee (f := 33) rfl ?_); refine gL (some 9) Try.func33 #[.slice A0_0 l0_0.length c0_0, .slice A1_0 l1_0.length c1_0] ?_; (with_reducible refine (laws_eqClassS.calls k _ _ l0_0 _ _ l1_0 false _ ?side1 ?side2 ?side3 ?side4 A3.out).mono ?_); (case side1 => exact cq (Kd.C_below HR0_0.out HB.out)); (case side2 => exact HC0_0.out); (case side3 => exact cq (Kd.C_below HR1_0.out HB.out)); (case side4 => exact HC1_0.out); rintro e w16 ⟨rfl, hb⟩; refine ⟨_, rfl, ?_⟩; replace BK298 := am (blk_below (g := gb298) (o := .cells #[.slice A0_0 l0_0.length c0_0] 33 (0, 0)) (kq BK298.out) hb); replace BK299 := am (blk_below (g := gb299) (o := .cells #[.slice A1_0 l1_0.length c1_0] 33 (0, 0)) (kq BK299.out) hb); replace HB := am (below_step (Y51) hb); (try clear hb); (try clear hb2); (try clear hk); (try clear hi)))
  go_ret
  exact ⟨Y1, Y51⟩
def laws_markText.l0 : Nat → Int → ByteArray → Option (ByteArray)
 | 0, _, _ => none
 | k + 1, x0, x3 => if x0 > 0 then ((some (([(wrap64 (48 + (Int.tmod x0 10))) % 256] : List Int) : List Int)).bind fun y301 => (if (strOfNums y301).size + x3.size ≤ 9223372036854775807 then (laws_markText.l0 k (wrap64 (Int.tdiv x0 10)) ((strOfNums y301) ++ x3)) else (none))) else (if 1 + x3.size ≤ 9223372036854775807 then (some ((⟨#[109]⟩ : ByteArray) ++ x3)) else (none))
def laws_markText.f (k : Nat) (a0 : Int) : Option (ByteArray) := if a0 ≤ 0 then (some (⟨#[109, 48]⟩ : ByteArray)) else (laws_markText.l0 k a0 (⟨#[]⟩ : ByteArray))
set_option maxHeartbeats 8000000 in
set_option maxRecDepth 100000 in
theorem laws_markText.calls (k : Nat) (a0 : Int) (r : ByteArray) (w : World) (h : laws_markText.f k a0 = some r) :
  Calls Try.prog 44 #[.int .i64 a0] w fun e w' => e = .returned (.string r) ∧ Below w.heap.size w w' := by
 have HB := am (Below.refl w.heap.size w)
 have H : (if a0 ≤ 0 then (some (⟨#[109, 48]⟩ : ByteArray)) else (laws_markText.l0 k a0 (⟨#[]⟩ : ByteArray))) = some r := h
 clear h
 by_cases c2 : a0 ≤ 0
 ·rw [if_pos c2] at H
  have c2b0 : decide (a0 ≤ 0) = true := decide_eq_true c2
  clear c2
  obtain rfl := Option.some.inj H
  go_enter Try.func44, Try.ntmps44
  go_wp2
  go_ret
  exact ⟨Y1, bq⟩
 ·rw [if_neg c2] at H
  have c2b0 : decide (a0 ≤ 0) = false := decide_eq_false c2
  clear c2
  have H' := am H
  clear H
  go_enter Try.func44, Try.ntmps44
  go_wp2
  go_loopg [0, 3] k (fun kq v0 v3 w' => ∃ (x0_1 : Int) (x3_1 : ByteArray), v0 = .int .i64 x0_1 ∧ v3 = .string x3_1 ∧ Aside0 (laws_markText.l0 kq x0_1 x3_1 = some r) ∧ Aside0 (kq ≤ k) ∧ Aside0 (Below w.heap.size w w'))
  case atStart => exact ⟨(a0), ((⟨#[]⟩ : ByteArray)), (sq), (sq), H', ⟨Nat.le_refl _⟩, ⟨bq⟩⟩
  case round =>
   clear H'
   try clear c2
   try clear c2b0
   try clear p2
   obtain ⟨x0_1, x3_1, rfl, rfl, HA, HK1, HB⟩ := hrel
   cases gk with
   | zero => exact absurd HA.out (by simp [laws_markText.l0])
   | succ k1 =>
    have H := HA.out
    clear HA
    simp only [laws_markText.l0] at H
    by_cases c3 : x0_1 > 0
    ·rw [if_pos c3] at H
     have c3b0 : decide (0 < x0_1) = true := decide_eq_true c3
     clear c3
     obtain ⟨y301, hy301⟩ : ∃ y_ : List Int, y_ = (([(wrap64 (48 + (Int.tmod x0_1 10))) % 256] : List Int)) := ⟨_, rfl⟩
     replace H : (if (strOfNums y301).size + x3_1.size ≤ 9223372036854775807 then (laws_markText.l0 k1 (wrap64 (Int.tdiv x0_1 10)) ((strOfNums y301) ++ x3_1)) else (none)) = some r := by first | (rw [hy301]; with_reducible exact H) | (have H2_ := (Option.bind_some _ _).symm.trans H; rw [hy301]; with_reducible exact H2_) | (have H2_ := (Option.bind_some _ _).symm.trans H; with_reducible exact H2_) | with_reducible exact H | (rw [hy301]; exact H) | exact H
     have Ny301 := am hy301
     clear hy301
     by_cases c4 : (strOfNums y301).size + x3_1.size ≤ 9223372036854775807
     ·rw [if_pos c4] at H
      have c4b0 := eq_true c4
      have c4b1 : decide ((strOfNums y301).size + x3_1.size ≤ 9223372036854775807) = true := decide_eq_true c4
      try have c4b2 : (9223372036854775807 < (strOfNums y301).size + x3_1.size) = False := eq_false (Nat.not_lt.2 c4)
      have H' := am H
      clear H
      go_wp2_with (first | ((with_reducible refine gate_dst (N := 12) rfl ?_); refine Kd.R_lit (Kd.int .u8) _ 5 ?hg (N := 12) ?hd (xs := ([(wrap64 (48 + (Int.tmod x0_1 10))) % 256] : List Int)) (inner := [.int .u8 ((wrap64 (48 + (Int.tmod x0_1 10))) % 256)]) (ok := fun _ => True) (okp := fun _ => True) ?hr ?hp (fun _ hk => hk) trivial (Below.refl _ _) (Nat.le_refl _) (by simp) ?_; (case hd => rfl); (case hg => rfl); (case hr => exact Y4); (case hp => exact (Reps.one (show Kd.M (Kd.int .u8) _ _ _ ((wrap64 (48 + (Int.tmod x0_1 10))) % 256) [.int .u8 ((wrap64 (48 + (Int.tmod x0_1 10))) % 256)] from rfl) (Reps.none _ _))); intro v302 w5 ho6 hb hg_ hnew_; clear hg_ hnew_; (first | rw [← Ny301.out] at ho6 | (simp only [Int.reduceToNat] at ho6; rw [← Ny301.out] at ho6)); have HO303 := am (Kd.R_lower ho6 (below_size (bq))); replace HB := am (below_step (bq) hb); clear hb ho6; have hcv7 := own_string (P := Try.prog) Try.underlying74 Try.underlying5 Try.underlying9 (Kd.own_of_R HO303.out)))
      go_roundg k1
      case measure => have := HK1.out; omega
      case rel => exact ⟨(wrap64 (Int.tdiv x0_1 10)), ((strOfNums y301) ++ x3_1), (sq), (sq), H', ⟨by have := HK1.out; omega⟩, ⟨bq⟩⟩
     ·rw [if_neg c4] at H
      exact absurd H (by simp)
    ·rw [if_neg c3] at H
     have c3b0 : decide (0 < x0_1) = false := decide_eq_false c3
     clear c3
     by_cases c8 : 1 + x3_1.size ≤ 9223372036854775807
     ·rw [if_pos c8] at H
      have c8b0 := eq_true c8
      have c8b1 : decide (1 + x3_1.size ≤ 9223372036854775807) = true := decide_eq_true c8
      try have c8b2 : (9223372036854775807 < 1 + x3_1.size) = False := eq_false (Nat.not_lt.2 c8)
      obtain rfl := Option.some.inj H
      go_wp2
      go_ret
      exact ⟨Y1, bq⟩
     ·rw [if_neg c8] at H
      exact absurd H (by simp)
def laws_markClassS.l0 : Nat → List (S63) → Int → Int → Option (Int × (List (S63)))
 | 0, _, _, _ => none
 | k + 1, x0, x1, x5 => if x5 < (x0.length : Int) then ((laws_markText.f k x1).bind fun t304 => (if 0 ≤ x5 then ((some (x0.set (x5 : Int).toNat (⟨t304, (rd_T63 x0 x5).f1⟩ : S63) : List (S63))).bind fun y305 => (laws_markClassS.l0 k (y305.set (x5 : Int).toNat (⟨(rd_T63 y305 x5).f0, wrap64 (x1 + 1)⟩ : S63)) (wrap64 ((wrap64 (x1 + 1)) + 1)) (wrap64 (x5 + 1)))) else (none))) else (some (x1, x0))
def laws_markClassS.f (k : Nat) (l0 : List (S63)) (a1 : Int) : Option (Int × (List (S63))) := laws_markClassS.l0 k l0 a1 0
set_option maxHeartbeats 8000000 in
set_option maxRecDepth 100000 in
theorem laws_markClassS.calls (k : Nat) (P0_ : Nat → Prop) (u9000_ : Value) (l0 : List (S63)) (a1 : Int) (r1 : Int) (r2 : List (S63)) (w0 w : World) (hB : Below w0.heap.size w0 w) (ho0 : Kd.R k63 63 w w0.heap.size P0_ u9000_ l0) (h : laws_markClassS.f k l0 a1 = some (r1, r2)) :
  Calls Try.prog 34 #[u9000_, .int .i64 a1] w fun e w' => e = .returned (.int .i64 r1) ∧ Kd.R k63 63 w' w0.heap.size (fun k_ => (P0_ k_ ∨ w.heap.size ≤ k_)) u9000_ r2 ∧ Below w0.heap.size w0 w' ∧ Kept w w' (fun k_ => P0_ k_) := by
 have HO0 := am (show Kd.R k63 63 w w0.heap.size (fun k_ => (P0_ k_ ∨ w.heap.size ≤ k_)) u9000_ l0 from Kd.R_mono ho0 (fun k_ hk => (.inl hk)))
 have HK := am (Kept.refl w (fun k_ => P0_ k_))
 have HW0 := am hB.size
 have HB := am hB
 clear hB
 have H : (laws_markClassS.l0 k l0 a1 0) = some (r1, r2) := h
 clear h
 have H' := am H
 clear H
 go_enter Try.func34, Try.ntmps34
 go_wp2
 go_loopg [1, 5] k (fun kq v1 v5 w' => ∃ (x0_1 : List (S63)) (x1_1 : Int) (x5_1 : Int), v1 = .int .i64 x1_1 ∧ v5 = .int .i64 x5_1 ∧ Aside0 (laws_markClassS.l0 kq x0_1 x1_1 x5_1 = some (r1, r2)) ∧ Aside0 (kq ≤ k) ∧ Aside0 (Kd.R k63 63 w' w0.heap.size (fun k_ => (P0_ k_ ∨ w.heap.size ≤ k_)) u9000_ x0_1) ∧ Aside0 (Kept w w' (fun k_ => P0_ k_)) ∧ Aside0 (Below w0.heap.size w0 w'))
 case atStart => exact ⟨(l0), (a1), (0), (sq), (sq), H', ⟨Nat.le_refl _⟩, ⟨rq HO0.out⟩, ⟨Y18⟩, ⟨bq⟩⟩
 case round =>
  clear H'
  try clear p2
  obtain ⟨x0_1, x1_1, x5_1, rfl, rfl, HA, HK1, HO_0, HK, HB⟩ := hrel
  cases gk with
  | zero => exact absurd HA.out (by simp [laws_markClassS.l0])
  | succ k1 =>
   have H := HA.out
   clear HA
   simp only [laws_markClassS.l0] at H
   by_cases c3 : x5_1 < (x0_1.length : Int)
   ·rw [if_pos c3] at H
    have c3b0 : decide (x5_1 < (x0_1.length : Int)) = true := decide_eq_true c3
    clear c3
    replace H := Option.bind_eq_some_iff.mp H
    obtain ⟨t304, A40, H⟩ := H
    replace H : (if 0 ≤ x5_1 then ((some (x0_1.set (x5_1 : Int).toNat (⟨t304, (rd_T63 x0_1 x5_1).f1⟩ : S63) : List (S63))).bind fun y305 => (laws_markClassS.l0 k1 (y305.set (x5_1 : Int).toNat (⟨(rd_T63 y305 x5_1).f0, wrap64 (x1_1 + 1)⟩ : S63)) (wrap64 ((wrap64 (x1_1 + 1)) + 1)) (wrap64 (x5_1 + 1)))) else (none)) = some (r1, r2) := H
    have A4 := am A40
    clear A40
    by_cases c5 : 0 ≤ x5_1
    ·rw [if_pos c5] at H
     have c5b0 : decide (0 ≤ x5_1) = true := decide_eq_true c5
     clear c5
     obtain ⟨y305, hy305⟩ : ∃ y_ : List (S63), y_ = (x0_1.set (x5_1 : Int).toNat (⟨t304, (rd_T63 x0_1 x5_1).f1⟩ : S63)) := ⟨_, rfl⟩
     replace H : (laws_markClassS.l0 k1 (y305.set (x5_1 : Int).toNat (⟨(rd_T63 y305 x5_1).f0, wrap64 (x1_1 + 1)⟩ : S63)) (wrap64 ((wrap64 (x1_1 + 1)) + 1)) (wrap64 (x5_1 + 1))) = some (r1, r2) := by first | (rw [hy305]; with_reducible exact H) | (have H2_ := (Option.bind_some _ _).symm.trans H; rw [hy305]; with_reducible exact H2_) | (have H2_ := (Option.bind_some _ _).symm.trans H; with_reducible exact H2_) | with_reducible exact H | (rw [hy305]; exact H) | exact H
     have Ny305 := am hy305
     clear hy305
     obtain ⟨y306, hy306⟩ : ∃ y_ : List (S63), y_ = (y305.set (x5_1 : Int).toNat (⟨(rd_T63 y305 x5_1).f0, wrap64 (x1_1 + 1)⟩ : S63)) := ⟨_, rfl⟩
     replace H : (laws_markClassS.l0 k1 y306 (wrap64 ((wrap64 (x1_1 + 1)) + 1)) (wrap64 (x5_1 + 1))) = some (r1, r2) := by first | (rw [hy306]; with_reducible exact H) | (have H2_ := (Option.bind_some _ _).symm.trans H; rw [hy306]; with_reducible exact H2_) | (have H2_ := (Option.bind_some _ _).symm.trans H; with_reducible exact H2_) | with_reducible exact H | (rw [hy306]; exact H) | exact H
     have Ny306 := am hy306
     clear hy306
     have H' := am H
     clear H
     obtain ⟨Ao8, co8, eo8⟩ := Kd.R_slice HO_0.out
     subst eo8
     go_wp2_with (first | ((with_reducible refine gate_callee (f := 44) rfl ?_); refine gL (some 15) Try.func44 #[.int .i64 x1_1] ?_; (with_reducible refine (laws_markText.calls k1 x1_1 t304 _ A4.out).mono ?_); rintro e w9 ⟨rfl, hb⟩; refine ⟨_, rfl, ?_⟩; replace HO_0 := am (Kd.R_below (rq HO_0.out) hb); replace HK := am (Kept.below (S := (fun k_ => P0_ k_)) (Y18) hb); replace HB := am (below_step (bq) hb); (try clear hb); (try clear hb2); (try clear hk); (try clear hi); have p6 : 0 ≤ (x5_1 : Int) := of_decide_eq_true (uq); have q6 : (x5_1 : Int) < ((x0_1.length : Int) : Int) := of_decide_eq_true (uq); obtain ⟨go6, co6, eo6, gb6, gl6, cl6, HG6⟩ := Kd.R_form HO_0.out (by omega); (first | cases eo6 | (injection eo6 with ea_ en_ ec_; (first | subst ea_ | (injection ea_ with ea_; subst ea_)); subst ec_; clear en_)); have GB6 := am gb6; have GG6 := am HG6; clear gb6 gl6 HG6; have HMgo6 := am (show (P0_ go6 ∨ w.heap.size ≤ go6) from (HO_0.out.1 _ rfl)); obtain ⟨ce6, hcl6, hM6, hcc6, hfr6⟩ := Kd.R_elem HO_0.out z63 (x5_1 : Int) p6 q6; obtain rfl := k63_openM hM6; have hx6_0 : w9.cell? ⟨go6, (x5_1 : Int).toNat * 2, none⟩ = some (.string ((rd_T63 x0_1 x5_1).f0)) := hcc6 0 _ rfl; have hx6_1 : w9.cell? ⟨go6, (x5_1 : Int).toNat * 2 + 1, none⟩ = some (.int .i64 ((rd_T63 x0_1 x5_1).f1)) := hcc6 1 _ rfl; have hf6_0 : w9.frozen? ⟨go6, (x5_1 : Int).toNat * 2, none⟩ = false := hfr6 0; have hf6_1 : w9.frozen? ⟨go6, (x5_1 : Int).toNat * 2 + 1, none⟩ = false := hfr6 1; clear hcl6 hcc6 hfr6 hM6; replace p6 := eq_true p6; replace q6 := eq_true q6; have HX10 := am (show Kd.R k63 63 w9 w0.heap.size (fun k_ => (P0_ k_ ∨ w.heap.size ≤ k_)) (.slice (some ⟨go6, 0, none⟩) x0_1.length co8) x0_1 from (rq HO_0.out)); obtain ⟨ce10, hcl10, hM10, hcc10, hfr10⟩ := Kd.R_elem HX10.out z63 (x5_1 : Int) (of_decide_eq_true (uq)) (by have h_ : (x5_1 : Int) < ((x0_1.length : Int) : Int) := of_decide_eq_true (uq); first | exact h_ | (have e_ := (Kd.R_reads' HO_0.out).1; omega) | simpa using h_); obtain rfl := k63_openM hM10; have HP10 := Kd.R_seg HX10.out (x5_1 : Int) (of_decide_eq_true (uq)) (by have h_ : (x5_1 : Int) < ((x0_1.length : Int) : Int) := of_decide_eq_true (uq); first | exact h_ | (have e_ := (Kd.R_reads' HO_0.out).1; omega) | simpa using h_) (seg := [.string t304]) (j := 0) hcl10 hcc10 (show 1 ≤ 2 from by decide) (x' := (⟨t304, (rd_T63 x0_1 x5_1).f1⟩ : S63)) (k63_mkM _ _ _ (⟨t304, (rd_T63 x0_1 x5_1).f1⟩ : S63) ) (fun _ hk => hk); have hx10_0 := hcc10 0 _ rfl; (try simp only [show (k63).sz = 2 from rfl, Nat.mul_one, Nat.add_zero] at hx10_0); have hf10_0 := hfr10 0; (try simp only [show (k63).sz = 2 from rfl, Nat.mul_one, Nat.add_zero] at hf10_0); clear hcl10 hcc10 hfr10 hM10) | ((with_reducible refine gate_store (t := 9) (p := 17) rfl ?_); refine store_event (t := 9) (p := 17) (v := ?vo_w11) (w1 := (w9.setCell ⟨go6, (x5_1 : Int).toNat * 2, none⟩ (.string t304))) ?hg ?ho ?hn ?hr ?_; (case ho => rfl); (case hg => rfl); (case hn => rfl); (case hr => exact Y4); intro w11 hw; have hg : w9.grownBy w11 (some go6) := (by rw [hw]; exact HP10.2); have hp_ : Kd.R k63 63 w11 w0.heap.size (fun k_ => (P0_ k_ ∨ w.heap.size ≤ k_)) (.slice (some ⟨go6, 0, none⟩) x0_1.length co8) y305 := (by rw [hw, Ny305.out]; exact HP10.1); clear HP10; replace HB := am ((by rw [hw]; exact below_set (HB.out) GB6.out : Below w0.heap.size w0 w11)); replace HK := am (Kept.of_grown (S := (fun k_ => P0_ k_)) hg (Y18) (fun k_ e_ => (HO_0.out.1 k_ e_))); replace HO_0 := am (hp_); clear hg hw hp_; have p7 : 0 ≤ (x5_1 : Int) := of_decide_eq_true (uq); have q7 : (x5_1 : Int) < ((x0_1.length : Int) : Int) := of_decide_eq_true (uq); obtain ⟨ce7, hcl7, hM7, hcc7, hfr7⟩ := Kd.R_elem HO_0.out z63 (x5_1 : Int) p7 q7; obtain rfl := k63_openM hM7; have hx7_0 : w11.cell? ⟨go6, (x5_1 : Int).toNat * 2, none⟩ = some (.string ((rd_T63 y305 x5_1).f0)) := hcc7 0 _ rfl; have hx7_1 : w11.cell? ⟨go6, (x5_1 : Int).toNat * 2 + 1, none⟩ = some (.int .i64 ((rd_T63 y305 x5_1).f1)) := hcc7 1 _ rfl; have hf7_0 : w11.frozen? ⟨go6, (x5_1 : Int).toNat * 2, none⟩ = false := hfr7 0; have hf7_1 : w11.frozen? ⟨go6, (x5_1 : Int).toNat * 2 + 1, none⟩ = false := hfr7 1; clear hcl7 hcc7 hfr7 hM7; replace p7 := eq_true p7; replace q7 := eq_true q7; have HX12 := am (show Kd.R k63 63 w11 w0.heap.size (fun k_ => (P0_ k_ ∨ w.heap.size ≤ k_)) (.slice (some ⟨go6, 0, none⟩) x0_1.length co8) y305 from (rq HO_0.out)); obtain ⟨ce12, hcl12, hM12, hcc12, hfr12⟩ := Kd.R_elem HX12.out z63 (x5_1 : Int) (of_decide_eq_true (uq)) (by have h_ : (x5_1 : Int) < ((x0_1.length : Int) : Int) := of_decide_eq_true (uq); first | exact h_ | (have e_ := (Kd.R_reads' HO_0.out).1; omega) | simpa using h_); obtain rfl := k63_openM hM12; have HP12 := Kd.R_seg HX12.out (x5_1 : Int) (of_decide_eq_true (uq)) (by have h_ : (x5_1 : Int) < ((x0_1.length : Int) : Int) := of_decide_eq_true (uq); first | exact h_ | (have e_ := (Kd.R_reads' HO_0.out).1; omega) | simpa using h_) (seg := [.int .i64 (wrap64 (x1_1 + 1))]) (j := 1) hcl12 hcc12 (show 2 ≤ 2 from by decide) (x' := (⟨(rd_T63 y305 x5_1).f0, wrap64 (x1_1 + 1)⟩ : S63)) (k63_mkM _ _ _ (⟨(rd_T63 y305 x5_1).f0, wrap64 (x1_1 + 1)⟩ : S63) ) (fun _ hk => hk); have hx12_1 := hcc12 1 _ rfl; (try simp only [show (k63).sz = 2 from rfl, Nat.mul_one, Nat.add_zero] at hx12_1); have hf12_1 := hfr12 1; (try simp only [show (k63).sz = 2 from rfl, Nat.mul_one, Nat.add_zero] at hf12_1); clear hcl12 hcc12 hfr12 hM12) | ((with_reducible refine gate_store (t := 3) (p := 24) rfl ?_); refine store_event (t := 3) (p := 24) (v := ?vo_w13) (w1 := (w11.setCell ⟨go6, (x5_1 : Int).toNat * 2 + 1, none⟩ (.int .i64 (wrap64 (x1_1 + 1))))) ?hg ?ho ?hn ?hr ?_; (case ho => rfl); (case hg => rfl); (case hn => rfl); (case hr => exact Y4); intro w13 hw; have hg : w11.grownBy w13 (some go6) := (by rw [hw]; exact HP12.2); have hp_ : Kd.R k63 63 w13 w0.heap.size (fun k_ => (P0_ k_ ∨ w.heap.size ≤ k_)) (.slice (some ⟨go6, 0, none⟩) x0_1.length co8) y306 := (by rw [hw, Ny306.out]; exact HP12.1); clear HP12; replace HB := am ((by rw [hw]; exact below_set (HB.out) GB6.out : Below w0.heap.size w0 w13)); replace HK := am (Kept.of_grown (S := (fun k_ => P0_ k_)) hg (Y18) (fun k_ e_ => (HO_0.out.1 k_ e_))); replace HO_0 := am (hp_); clear hg hw hp_))
     go_roundg k1
     case measure => have := HK1.out; omega
     case rel => exact ⟨(y306), (wrap64 ((wrap64 (x1_1 + 1)) + 1)), (wrap64 (x5_1 + 1)), (sq), (sq), H', ⟨by have := HK1.out; omega⟩, ⟨rq HO_0.out⟩, ⟨Y18⟩, ⟨bq⟩⟩
    ·rw [if_neg c5] at H
     exact absurd H (by simp)
   ·rw [if_neg c3] at H
    have c3b0 : decide (x5_1 < (x0_1.length : Int)) = false := decide_eq_false c3
    clear c3
    simp only [Option.some.injEq, Prod.mk.injEq] at H
    obtain ⟨rfl, rfl⟩ := H
    obtain ⟨Ao14, co14, eo14⟩ := Kd.R_slice HO_0.out
    subst eo14
    go_wp2
    go_ret
    exact ⟨Y1, rq HO_0.out, bq, Y18⟩
def laws_markTree.f (k : Nat) (l0_0 : List (S63)) (a1 : Int) : Option (Int × (List (S63))) := (laws_markClassS.f k l0_0 a1).bind fun bt308 => (some (bt308.1, bt308.2))
set_option maxHeartbeats 8000000 in
set_option maxRecDepth 100000 in
theorem laws_markTree.calls (k : Nat) (P0_0_ : Nat → Prop) (u9000_ : Value) (l0_0 : List (S63)) (a1 : Int) (r1 : Int) (r2 : List (S63)) (w0 w : World) (hB : Below w0.heap.size w0 w) (ho0_0 : Kd.R k63 63 w w0.heap.size P0_0_ u9000_ l0_0) (h : laws_markTree.f k l0_0 a1 = some (r1, r2)) :
  Calls Try.prog 15 #[.agg #[u9000_], .int .i64 a1] w fun e w' => e = .returned (.int .i64 r1) ∧ Kd.R k63 63 w' w0.heap.size (fun k_ => (P0_0_ k_ ∨ w.heap.size ≤ k_)) u9000_ r2 ∧ Below w0.heap.size w0 w' ∧ Kept w w' (fun k_ => P0_0_ k_) := by
 have hu33 := Try.underlying33
 have HO0_0 := am (show Kd.R k63 63 w w0.heap.size (fun k_ => (P0_0_ k_ ∨ w.heap.size ≤ k_)) u9000_ l0_0 from Kd.R_mono ho0_0 (fun k_ hk => (.inl hk)))
 have HK := am (Kept.refl w (fun k_ => P0_0_ k_))
 have HW0 := am hB.size
 have HB := am hB
 clear hB
 have H : ((laws_markClassS.f k l0_0 a1).bind fun bt308 => (some (bt308.1, bt308.2))) = some (r1, r2) := h
 clear h
 replace H := Option.bind_eq_some_iff.mp H
 obtain ⟨⟨t308, t309⟩, A30, H⟩ := H
 replace H : (some (t308, t309)) = some (r1, r2) := H
 have A3 := am A30
 clear A30
 simp only [Option.some.injEq, Prod.mk.injEq] at H
 obtain ⟨rfl, rfl⟩ := H
 obtain ⟨Ao4, co4, eo4⟩ := Kd.R_slice HO0_0.out
 subst eo4
 go_enter Try.func15, Try.ntmps15
 go_wp2_with (first | ((with_reducible refine gate_dst (N := 2) rfl ?_); refine bE (N := 2) (cs := #[.slice Ao4 l0_0.length co4]) (t := 33) ?_; intro gb307 hg w5 hbox hb; have BK307 := am (hbox); have GW307 := am ((by rw [hg]; exact (by first | exact HK.out.1 | exact (show Kept w _ (fun k_ => P0_0_ k_) from by repeat (first | (with_reducible first | exact HK.out | apply Kept.alloc | apply Kept.drewN | apply Kept.drew) | exact HK.out)).1) : w.heap.size ≤ gb307)); have GE307 := am ((Y0 : w0.heap.size ≤ gb307)); replace HO0_0 := am (Kd.R_below (rq HO0_0.out) hb); replace HK := am (Kept.below (S := (fun k_ => P0_0_ k_)) (Y18) hb); replace HB := am (below_step (bq) hb); clear hb hbox hg; have hcz6_0 := bc0 BK307.out; have hfz6_0 := blk_frozen BK307.out 0) | ((with_reducible refine gate_callee (f := 34) rfl ?_); refine gL (some 8) Try.func34 #[.slice Ao4 l0_0.length co4, .int .i64 a1] ?_; (with_reducible refine (laws_markClassS.calls k (fun k_ => some k_ = (.slice Ao4 l0_0.length co4 : Value).ownBlock) (.slice Ao4 l0_0.length co4) l0_0 a1 t308 t309 w0 _ ?side1 ?side2 A3.out).mono ?_); (case side1 => exact Y80); (case side2 => exact Kd.R_tight rfl HO0_0.out); rintro e w7 ⟨rfl, hy0, hb, hkp⟩; refine ⟨_, rfl, ?_⟩; replace BK307 := am (blk_kept (kq BK307.out) hkp (fun hs_ => (fun e_ => (Kd.R_ne HO0_0.out BK307.out (by decide)) e_) hs_)); replace HK := am (Kept.then_ (S := (fun k_ => P0_0_ k_)) (Y81) hkp (fun k_ hs_ => (fun e_ => (HO0_0.out.1 k_ e_.symm)) hs_)); replace HO0_0 := am (Kd.R_reok rfl hy0 (fun k_ e_ => HO0_0.out.1 k_ e_)); replace HB := am (hb); (try clear hb); (try clear hkp); (try clear hy0)))
 go_ret
 exact ⟨Y1, rq HO0_0.out, Y80, Y81⟩
def laws_markLineS.l0 : Nat → List (S50) → Int → Int → Option (Int × (List (S50)))
 | 0, _, _, _ => none
 | k + 1, x0, x1, x5 => if x5 < (x0.length : Int) then (if 0 ≤ x5 then ((some (x0.set (x5 : Int).toNat (⟨x1, (rd_T50 x0 x5).f1, (rd_T50 x0 x5).f2, (rd_T50 x0 x5).f3⟩ : S50) : List (S50))).bind fun y310 => ((some (y310.set (x5 : Int).toNat (⟨(rd_T50 y310 x5).f0, wrap64 (x1 + 1), (rd_T50 y310 x5).f2, (rd_T50 y310 x5).f3⟩ : S50) : List (S50))).bind fun y311 => ((some (y311.set (x5 : Int).toNat (⟨(rd_T50 y311 x5).f0, (rd_T50 y311 x5).f1, wrap64 ((wrap64 (x1 + 1)) + 1), (rd_T50 y311 x5).f3⟩ : S50) : List (S50))).bind fun y312 => (laws_markLineS.l0 k (y312.set (x5 : Int).toNat (⟨(rd_T50 y312 x5).f0, (rd_T50 y312 x5).f1, (rd_T50 y312 x5).f2, wrap64 ((wrap64 ((wrap64 (x1 + 1)) + 1)) + 1)⟩ : S50)) (wrap64 ((wrap64 ((wrap64 ((wrap64 (x1 + 1)) + 1)) + 1)) + 1)) (wrap64 (x5 + 1)))))) else (none)) else (some (x1, x0))
def laws_markLineS.f (k : Nat) (l0 : List (S50)) (a1 : Int) : Option (Int × (List (S50))) := laws_markLineS.l0 k l0 a1 0
set_option maxHeartbeats 8000000 in
set_option maxRecDepth 100000 in
theorem laws_markLineS.calls (k : Nat) (P0_ : Nat → Prop) (u9000_ : Value) (l0 : List (S50)) (a1 : Int) (r1 : Int) (r2 : List (S50)) (w0 w : World) (hB : Below w0.heap.size w0 w) (ho0 : Kd.R k50 50 w w0.heap.size P0_ u9000_ l0) (h : laws_markLineS.f k l0 a1 = some (r1, r2)) :
  Calls Try.prog 16 #[u9000_, .int .i64 a1] w fun e w' => e = .returned (.int .i64 r1) ∧ Kd.R k50 50 w' w0.heap.size (fun k_ => (P0_ k_ ∨ w.heap.size ≤ k_)) u9000_ r2 ∧ Below w0.heap.size w0 w' ∧ Kept w w' (fun k_ => P0_ k_) := by
 have HO0 := am (show Kd.R k50 50 w w0.heap.size (fun k_ => (P0_ k_ ∨ w.heap.size ≤ k_)) u9000_ l0 from Kd.R_mono ho0 (fun k_ hk => (.inl hk)))
 have HK := am (Kept.refl w (fun k_ => P0_ k_))
 have HW0 := am hB.size
 have HB := am hB
 clear hB
 have H : (laws_markLineS.l0 k l0 a1 0) = some (r1, r2) := h
 clear h
 have H' := am H
 clear H
 go_enter Try.func16, Try.ntmps16
 go_wp2
 go_loopg [1, 5] k (fun kq v1 v5 w' => ∃ (x0_1 : List (S50)) (x1_1 : Int) (x5_1 : Int), v1 = .int .i64 x1_1 ∧ v5 = .int .i64 x5_1 ∧ Aside0 (laws_markLineS.l0 kq x0_1 x1_1 x5_1 = some (r1, r2)) ∧ Aside0 (kq ≤ k) ∧ Aside0 (Kd.R k50 50 w' w0.heap.size (fun k_ => (P0_ k_ ∨ w.heap.size ≤ k_)) u9000_ x0_1) ∧ Aside0 (Kept w w' (fun k_ => P0_ k_)) ∧ Aside0 (Below w0.heap.size w0 w'))
 case atStart => exact ⟨(l0), (a1), (0), (sq), (sq), H', ⟨Nat.le_refl _⟩, ⟨rq HO0.out⟩, ⟨Y18⟩, ⟨bq⟩⟩
 case round =>
  clear H'
  try clear c1
  try clear p2
  obtain ⟨x0_1, x1_1, x5_1, rfl, rfl, HA, HK1, HO_0, HK, HB⟩ := hrel
  cases gk with
  | zero => exact absurd HA.out (by simp [laws_markLineS.l0])
  | succ k1 =>
   have H := HA.out
   clear HA
   simp only [laws_markLineS.l0] at H
   by_cases c3 : x5_1 < (x0_1.length : Int)
   ·rw [if_pos c3] at H
    have c3b0 : decide (x5_1 < (x0_1.length : Int)) = true := decide_eq_true c3
    clear c3
    by_cases c4 : 0 ≤ x5_1
    ·rw [if_pos c4] at H
     have c4b0 : decide (0 ≤ x5_1) = true := decide_eq_true c4
     clear c4
     obtain ⟨y310, hy310⟩ : ∃ y_ : List (S50), y_ = (x0_1.set (x5_1 : Int).toNat (⟨x1_1, (rd_T50 x0_1 x5_1).f1, (rd_T50 x0_1 x5_1).f2, (rd_T50 x0_1 x5_1).f3⟩ : S50)) := ⟨_, rfl⟩
     replace H : ((some (y310.set (x5_1 : Int).toNat (⟨(rd_T50 y310 x5_1).f0, wrap64 (x1_1 + 1), (rd_T50 y310 x5_1).f2, (rd_T50 y310 x5_1).f3⟩ : S50) : List (S50))).bind fun y311 => ((some (y311.set (x5_1 : Int).toNat (⟨(rd_T50 y311 x5_1).f0, (rd_T50 y311 x5_1).f1, wrap64 ((wrap64 (x1_1 + 1)) + 1), (rd_T50 y311 x5_1).f3⟩ : S50) : List (S50))).bind fun y312 => (laws_markLineS.l0 k1 (y312.set (x5_1 : Int).toNat (⟨(rd_T50 y312 x5_1).f0, (rd_T50 y312 x5_1).f1, (rd_T50 y312 x5_1).f2, wrap64 ((wrap64 ((wrap64 (x1_1 + 1)) + 1)) + 1)⟩ : S50)) (wrap64 ((wrap64 ((wrap64 ((wrap64 (x1_1 + 1)) + 1)) + 1)) + 1)) (wrap64 (x5_1 + 1))))) = some (r1, r2) := by first | (rw [hy310]; with_reducible exact H) | (have H2_ := (Option.bind_some _ _).symm.trans H; rw [hy310]; with_reducible exact H2_) | (have H2_ := (Option.bind_some _ _).symm.trans H; with_reducible exact H2_) | with_reducible exact H | (rw [hy310]; exact H) | exact H
     have Ny310 := am hy310
     clear hy310
     obtain ⟨y311, hy311⟩ : ∃ y_ : List (S50), y_ = (y310.set (x5_1 : Int).toNat (⟨(rd_T50 y310 x5_1).f0, wrap64 (x1_1 + 1), (rd_T50 y310 x5_1).f2, (rd_T50 y310 x5_1).f3⟩ : S50)) := ⟨_, rfl⟩
     replace H : ((some (y311.set (x5_1 : Int).toNat (⟨(rd_T50 y311 x5_1).f0, (rd_T50 y311 x5_1).f1, wrap64 ((wrap64 (x1_1 + 1)) + 1), (rd_T50 y311 x5_1).f3⟩ : S50) : List (S50))).bind fun y312 => (laws_markLineS.l0 k1 (y312.set (x5_1 : Int).toNat (⟨(rd_T50 y312 x5_1).f0, (rd_T50 y312 x5_1).f1, (rd_T50 y312 x5_1).f2, wrap64 ((wrap64 ((wrap64 (x1_1 + 1)) + 1)) + 1)⟩ : S50)) (wrap64 ((wrap64 ((wrap64 ((wrap64 (x1_1 + 1)) + 1)) + 1)) + 1)) (wrap64 (x5_1 + 1)))) = some (r1, r2) := by first | (rw [hy311]; with_reducible exact H) | (have H2_ := (Option.bind_some _ _).symm.trans H; rw [hy311]; with_reducible exact H2_) | (have H2_ := (Option.bind_some _ _).symm.trans H; with_reducible exact H2_) | with_reducible exact H | (rw [hy311]; exact H) | exact H
     have Ny311 := am hy311
     clear hy311
     obtain ⟨y312, hy312⟩ : ∃ y_ : List (S50), y_ = (y311.set (x5_1 : Int).toNat (⟨(rd_T50 y311 x5_1).f0, (rd_T50 y311 x5_1).f1, wrap64 ((wrap64 (x1_1 + 1)) + 1), (rd_T50 y311 x5_1).f3⟩ : S50)) := ⟨_, rfl⟩
     replace H : (laws_markLineS.l0 k1 (y312.set (x5_1 : Int).toNat (⟨(rd_T50 y312 x5_1).f0, (rd_T50 y312 x5_1).f1, (rd_T50 y312 x5_1).f2, wrap64 ((wrap64 ((wrap64 (x1_1 + 1)) + 1)) + 1)⟩ : S50)) (wrap64 ((wrap64 ((wrap64 ((wrap64 (x1_1 + 1)) + 1)) + 1)) + 1)) (wrap64 (x5_1 + 1))) = some (r1, r2) := by first | (rw [hy312]; with_reducible exact H) | (have H2_ := (Option.bind_some _ _).symm.trans H; rw [hy312]; with_reducible exact H2_) | (have H2_ := (Option.bind_some _ _).symm.trans H; with_reducible exact H2_) | with_reducible exact H | (rw [hy312]; exact H) | exact H
     have Ny312 := am hy312
     clear hy312
     obtain ⟨y313, hy313⟩ : ∃ y_ : List (S50), y_ = (y312.set (x5_1 : Int).toNat (⟨(rd_T50 y312 x5_1).f0, (rd_T50 y312 x5_1).f1, (rd_T50 y312 x5_1).f2, wrap64 ((wrap64 ((wrap64 (x1_1 + 1)) + 1)) + 1)⟩ : S50)) := ⟨_, rfl⟩
     replace H : (laws_markLineS.l0 k1 y313 (wrap64 ((wrap64 ((wrap64 ((wrap64 (x1_1 + 1)) + 1)) + 1)) + 1)) (wrap64 (x5_1 + 1))) = some (r1, r2) := by first | (rw [hy313]; with_reducible exact H) | (have H2_ := (Option.bind_some _ _).symm.trans H; rw [hy313]; with_reducible exact H2_) | (have H2_ := (Option.bind_some _ _).symm.trans H; with_reducible exact H2_) | with_reducible exact H | (rw [hy313]; exact H) | exact H
     have Ny313 := am hy313
     clear hy313
     have H' := am H
     clear H
     obtain ⟨Ao9, co9, eo9⟩ := Kd.R_slice HO_0.out
     subst eo9
     have p5 : 0 ≤ (x5_1 : Int) := of_decide_eq_true (uq)
     have q5 : (x5_1 : Int) < ((x0_1.length : Int) : Int) := of_decide_eq_true (uq)
     obtain ⟨go5, co5, eo5, gb5, gl5, cl5, HG5⟩ := Kd.R_form HO_0.out (by omega)
     (first | cases eo5 | (injection eo5 with ea_ en_ ec_; (first | subst ea_ | (injection ea_ with ea_; subst ea_)); subst ec_; clear en_))
     have GB5 := am gb5
     have GG5 := am HG5
     clear gb5 gl5 HG5
     have HMgo5 := am (show (P0_ go5 ∨ w.heap.size ≤ go5) from (HO_0.out.1 _ rfl))
     obtain ⟨ce5, hcl5, hM5, hcc5, hfr5⟩ := Kd.R_elem HO_0.out z50 (x5_1 : Int) p5 q5
     obtain rfl := k50_openM hM5
     have hx5_0 : wr.cell? ⟨go5, (x5_1 : Int).toNat * 4, none⟩ = some (.int .i64 ((rd_T50 x0_1 x5_1).f0)) := hcc5 0 _ rfl
     have hx5_1 : wr.cell? ⟨go5, (x5_1 : Int).toNat * 4 + 1, none⟩ = some (.int .i64 ((rd_T50 x0_1 x5_1).f1)) := hcc5 1 _ rfl
     have hx5_2 : wr.cell? ⟨go5, (x5_1 : Int).toNat * 4 + 2, none⟩ = some (.int .i64 ((rd_T50 x0_1 x5_1).f2)) := hcc5 2 _ rfl
     have hx5_3 : wr.cell? ⟨go5, (x5_1 : Int).toNat * 4 + 3, none⟩ = some (.int .i64 ((rd_T50 x0_1 x5_1).f3)) := hcc5 3 _ rfl
     have hf5_0 : wr.frozen? ⟨go5, (x5_1 : Int).toNat * 4, none⟩ = false := hfr5 0
     have hf5_1 : wr.frozen? ⟨go5, (x5_1 : Int).toNat * 4 + 1, none⟩ = false := hfr5 1
     have hf5_2 : wr.frozen? ⟨go5, (x5_1 : Int).toNat * 4 + 2, none⟩ = false := hfr5 2
     have hf5_3 : wr.frozen? ⟨go5, (x5_1 : Int).toNat * 4 + 3, none⟩ = false := hfr5 3
     clear hcl5 hcc5 hfr5 hM5
     replace p5 := eq_true p5
     replace q5 := eq_true q5
     have HX10 := am (show Kd.R k50 50 wr w0.heap.size (fun k_ => (P0_ k_ ∨ w.heap.size ≤ k_)) (.slice (some ⟨go5, 0, none⟩) x0_1.length co9) x0_1 from (rq HO_0.out))
     obtain ⟨ce10, hcl10, hM10, hcc10, hfr10⟩ := Kd.R_elem HX10.out z50 (x5_1 : Int) (of_decide_eq_true (uq)) (by have h_ : (x5_1 : Int) < ((x0_1.length : Int) : Int) := of_decide_eq_true (uq); first | exact h_ | (have e_ := (Kd.R_reads' HO_0.out).1; omega) | simpa using h_)
     obtain rfl := k50_openM hM10
     have HP10 := Kd.R_seg HX10.out (x5_1 : Int) (of_decide_eq_true (uq)) (by have h_ : (x5_1 : Int) < ((x0_1.length : Int) : Int) := of_decide_eq_true (uq); first | exact h_ | (have e_ := (Kd.R_reads' HO_0.out).1; omega) | simpa using h_) (seg := [.int .i64 x1_1]) (j := 0) hcl10 hcc10 (show 1 ≤ 4 from by decide) (x' := (⟨x1_1, (rd_T50 x0_1 x5_1).f1, (rd_T50 x0_1 x5_1).f2, (rd_T50 x0_1 x5_1).f3⟩ : S50)) (k50_mkM _ _ _ (⟨x1_1, (rd_T50 x0_1 x5_1).f1, (rd_T50 x0_1 x5_1).f2, (rd_T50 x0_1 x5_1).f3⟩ : S50) ) (fun _ hk => hk)
     have hx10_0 := hcc10 0 _ rfl
     (try simp only [show (k50).sz = 4 from rfl, Nat.mul_one, Nat.add_zero] at hx10_0)
     have hf10_0 := hfr10 0
     (try simp only [show (k50).sz = 4 from rfl, Nat.mul_one, Nat.add_zero] at hf10_0)
     clear hcl10 hcc10 hfr10 hM10
     go_wp2_with (first | ((with_reducible refine gate_store (t := 3) (p := 16) rfl ?_); refine store_event (t := 3) (p := 16) (v := ?vo_w11) (w1 := (wr.setCell ⟨go5, (x5_1 : Int).toNat * 4, none⟩ (.int .i64 x1_1))) ?hg ?ho ?hn ?hr ?_; (case ho => rfl); (case hg => rfl); (case hn => rfl); (case hr => exact Y4); intro w11 hw; have hg : wr.grownBy w11 (some go5) := (by rw [hw]; exact HP10.2); have hp_ : Kd.R k50 50 w11 w0.heap.size (fun k_ => (P0_ k_ ∨ w.heap.size ≤ k_)) (.slice (some ⟨go5, 0, none⟩) x0_1.length co9) y310 := (by rw [hw, Ny310.out]; exact HP10.1); clear HP10; replace HB := am ((by rw [hw]; exact below_set (HB.out) GB5.out : Below w0.heap.size w0 w11)); replace HK := am (Kept.of_grown (S := (fun k_ => P0_ k_)) hg (Y18) (fun k_ e_ => (HO_0.out.1 k_ e_))); replace HO_0 := am (hp_); clear hg hw hp_; have p6 : 0 ≤ (x5_1 : Int) := of_decide_eq_true (uq); have q6 : (x5_1 : Int) < ((x0_1.length : Int) : Int) := of_decide_eq_true (uq); obtain ⟨ce6, hcl6, hM6, hcc6, hfr6⟩ := Kd.R_elem HO_0.out z50 (x5_1 : Int) p6 q6; obtain rfl := k50_openM hM6; have hx6_0 : w11.cell? ⟨go5, (x5_1 : Int).toNat * 4, none⟩ = some (.int .i64 ((rd_T50 y310 x5_1).f0)) := hcc6 0 _ rfl; have hx6_1 : w11.cell? ⟨go5, (x5_1 : Int).toNat * 4 + 1, none⟩ = some (.int .i64 ((rd_T50 y310 x5_1).f1)) := hcc6 1 _ rfl; have hx6_2 : w11.cell? ⟨go5, (x5_1 : Int).toNat * 4 + 2, none⟩ = some (.int .i64 ((rd_T50 y310 x5_1).f2)) := hcc6 2 _ rfl; have hx6_3 : w11.cell? ⟨go5, (x5_1 : Int).toNat * 4 + 3, none⟩ = some (.int .i64 ((rd_T50 y310 x5_1).f3)) := hcc6 3 _ rfl; have hf6_0 : w11.frozen? ⟨go5, (x5_1 : Int).toNat * 4, none⟩ = false := hfr6 0; have hf6_1 : w11.frozen? ⟨go5, (x5_1 : Int).toNat * 4 + 1, none⟩ = false := hfr6 1; have hf6_2 : w11.frozen? ⟨go5, (x5_1 : Int).toNat * 4 + 2, none⟩ = false := hfr6 2; have hf6_3 : w11.frozen? ⟨go5, (x5_1 : Int).toNat * 4 + 3, none⟩ = false := hfr6 3; clear hcl6 hcc6 hfr6 hM6; replace p6 := eq_true p6; replace q6 := eq_true q6; have HX12 := am (show Kd.R k50 50 w11 w0.heap.size (fun k_ => (P0_ k_ ∨ w.heap.size ≤ k_)) (.slice (some ⟨go5, 0, none⟩) x0_1.length co9) y310 from (rq HO_0.out)); obtain ⟨ce12, hcl12, hM12, hcc12, hfr12⟩ := Kd.R_elem HX12.out z50 (x5_1 : Int) (of_decide_eq_true (uq)) (by have h_ : (x5_1 : Int) < ((x0_1.length : Int) : Int) := of_decide_eq_true (uq); first | exact h_ | (have e_ := (Kd.R_reads' HO_0.out).1; omega) | simpa using h_); obtain rfl := k50_openM hM12; have HP12 := Kd.R_seg HX12.out (x5_1 : Int) (of_decide_eq_true (uq)) (by have h_ : (x5_1 : Int) < ((x0_1.length : Int) : Int) := of_decide_eq_true (uq); first | exact h_ | (have e_ := (Kd.R_reads' HO_0.out).1; omega) | simpa using h_) (seg := [.int .i64 (wrap64 (x1_1 + 1))]) (j := 1) hcl12 hcc12 (show 2 ≤ 4 from by decide) (x' := (⟨(rd_T50 y310 x5_1).f0, wrap64 (x1_1 + 1), (rd_T50 y310 x5_1).f2, (rd_T50 y310 x5_1).f3⟩ : S50)) (k50_mkM _ _ _ (⟨(rd_T50 y310 x5_1).f0, wrap64 (x1_1 + 1), (rd_T50 y310 x5_1).f2, (rd_T50 y310 x5_1).f3⟩ : S50) ) (fun _ hk => hk); have hx12_1 := hcc12 1 _ rfl; (try simp only [show (k50).sz = 4 from rfl, Nat.mul_one, Nat.add_zero] at hx12_1); have hf12_1 := hfr12 1; (try simp only [show (k50).sz = 4 from rfl, Nat.mul_one, Nat.add_zero] at hf12_1); clear hcl12 hcc12 hfr12 hM12) | ((with_reducible refine gate_store (t := 3) (p := 23) rfl ?_); refine store_event (t := 3) (p := 23) (v := ?vo_w13) (w1 := (w11.setCell ⟨go5, (x5_1 : Int).toNat * 4 + 1, none⟩ (.int .i64 (wrap64 (x1_1 + 1))))) ?hg ?ho ?hn ?hr ?_; (case ho => rfl); (case hg => rfl); (case hn => rfl); (case hr => exact Y4); intro w13 hw; have hg : w11.grownBy w13 (some go5) := (by rw [hw]; exact HP12.2); have hp_ : Kd.R k50 50 w13 w0.heap.size (fun k_ => (P0_ k_ ∨ w.heap.size ≤ k_)) (.slice (some ⟨go5, 0, none⟩) x0_1.length co9) y311 := (by rw [hw, Ny311.out]; exact HP12.1); clear HP12; replace HB := am ((by rw [hw]; exact below_set (HB.out) GB5.out : Below w0.heap.size w0 w13)); replace HK := am (Kept.of_grown (S := (fun k_ => P0_ k_)) hg (Y18) (fun k_ e_ => (HO_0.out.1 k_ e_))); replace HO_0 := am (hp_); clear hg hw hp_; have p7 : 0 ≤ (x5_1 : Int) := of_decide_eq_true (uq); have q7 : (x5_1 : Int) < ((x0_1.length : Int) : Int) := of_decide_eq_true (uq); obtain ⟨ce7, hcl7, hM7, hcc7, hfr7⟩ := Kd.R_elem HO_0.out z50 (x5_1 : Int) p7 q7; obtain rfl := k50_openM hM7; have hx7_0 : w13.cell? ⟨go5, (x5_1 : Int).toNat * 4, none⟩ = some (.int .i64 ((rd_T50 y311 x5_1).f0)) := hcc7 0 _ rfl; have hx7_1 : w13.cell? ⟨go5, (x5_1 : Int).toNat * 4 + 1, none⟩ = some (.int .i64 ((rd_T50 y311 x5_1).f1)) := hcc7 1 _ rfl; have hx7_2 : w13.cell? ⟨go5, (x5_1 : Int).toNat * 4 + 2, none⟩ = some (.int .i64 ((rd_T50 y311 x5_1).f2)) := hcc7 2 _ rfl; have hx7_3 : w13.cell? ⟨go5, (x5_1 : Int).toNat * 4 + 3, none⟩ = some (.int .i64 ((rd_T50 y311 x5_1).f3)) := hcc7 3 _ rfl; have hf7_0 : w13.frozen? ⟨go5, (x5_1 : Int).toNat * 4, none⟩ = false := hfr7 0; have hf7_1 : w13.frozen? ⟨go5, (x5_1 : Int).toNat * 4 + 1, none⟩ = false := hfr7 1; have hf7_2 : w13.frozen? ⟨go5, (x5_1 : Int).toNat * 4 + 2, none⟩ = false := hfr7 2; have hf7_3 : w13.frozen? ⟨go5, (x5_1 : Int).toNat * 4 + 3, none⟩ = false := hfr7 3; clear hcl7 hcc7 hfr7 hM7; replace p7 := eq_true p7; replace q7 := eq_true q7; have HX14 := am (show Kd.R k50 50 w13 w0.heap.size (fun k_ => (P0_ k_ ∨ w.heap.size ≤ k_)) (.slice (some ⟨go5, 0, none⟩) x0_1.length co9) y311 from (rq HO_0.out)); obtain ⟨ce14, hcl14, hM14, hcc14, hfr14⟩ := Kd.R_elem HX14.out z50 (x5_1 : Int) (of_decide_eq_true (uq)) (by have h_ : (x5_1 : Int) < ((x0_1.length : Int) : Int) := of_decide_eq_true (uq); first | exact h_ | (have e_ := (Kd.R_reads' HO_0.out).1; omega) | simpa using h_); obtain rfl := k50_openM hM14; have HP14 := Kd.R_seg HX14.out (x5_1 : Int) (of_decide_eq_true (uq)) (by have h_ : (x5_1 : Int) < ((x0_1.length : Int) : Int) := of_decide_eq_true (uq); first | exact h_ | (have e_ := (Kd.R_reads' HO_0.out).1; omega) | simpa using h_) (seg := [.int .i64 (wrap64 ((wrap64 (x1_1 + 1)) + 1))]) (j := 2) hcl14 hcc14 (show 3 ≤ 4 from by decide) (x' := (⟨(rd_T50 y311 x5_1).f0, (rd_T50 y311 x5_1).f1, wrap64 ((wrap64 (x1_1 + 1)) + 1), (rd_T50 y311 x5_1).f3⟩ : S50)) (k50_mkM _ _ _ (⟨(rd_T50 y311 x5_1).f0, (rd_T50 y311 x5_1).f1, wrap64 ((wrap64 (x1_1 + 1)) + 1), (rd_T50 y311 x5_1).f3⟩ : S50) ) (fun _ hk => hk); have hx14_2 := hcc14 2 _ rfl; (try simp only [show (k50).sz = 4 from rfl, Nat.mul_one, Nat.add_zero] at hx14_2); have hf14_2 := hfr14 2; (try simp only [show (k50).sz = 4 from rfl, Nat.mul_one, Nat.add_zero] at hf14_2); clear hcl14 hcc14 hfr14 hM14) | ((with_reducible refine gate_store (t := 3) (p := 30) rfl ?_); refine store_event (t := 3) (p := 30) (v := ?vo_w15) (w1 := (w13.setCell ⟨go5, (x5_1 : Int).toNat * 4 + 2, none⟩ (.int .i64 (wrap64 ((wrap64 (x1_1 + 1)) + 1))))) ?hg ?ho ?hn ?hr ?_; (case ho => rfl); (case hg => rfl); (case hn => rfl); (case hr => exact Y4); intro w15 hw; have hg : w13.grownBy w15 (some go5) := (by rw [hw]; exact HP14.2); have hp_ : Kd.R k50 50 w15 w0.heap.size (fun k_ => (P0_ k_ ∨ w.heap.size ≤ k_)) (.slice (some ⟨go5, 0, none⟩) x0_1.length co9) y312 := (by rw [hw, Ny312.out]; exact HP14.1); clear HP14; replace HB := am ((by rw [hw]; exact below_set (HB.out) GB5.out : Below w0.heap.size w0 w15)); replace HK := am (Kept.of_grown (S := (fun k_ => P0_ k_)) hg (Y18) (fun k_ e_ => (HO_0.out.1 k_ e_))); replace HO_0 := am (hp_); clear hg hw hp_; have p8 : 0 ≤ (x5_1 : Int) := of_decide_eq_true (uq); have q8 : (x5_1 : Int) < ((x0_1.length : Int) : Int) := of_decide_eq_true (uq); obtain ⟨ce8, hcl8, hM8, hcc8, hfr8⟩ := Kd.R_elem HO_0.out z50 (x5_1 : Int) p8 q8; obtain rfl := k50_openM hM8; have hx8_0 : w15.cell? ⟨go5, (x5_1 : Int).toNat * 4, none⟩ = some (.int .i64 ((rd_T50 y312 x5_1).f0)) := hcc8 0 _ rfl; have hx8_1 : w15.cell? ⟨go5, (x5_1 : Int).toNat * 4 + 1, none⟩ = some (.int .i64 ((rd_T50 y312 x5_1).f1)) := hcc8 1 _ rfl; have hx8_2 : w15.cell? ⟨go5, (x5_1 : Int).toNat * 4 + 2, none⟩ = some (.int .i64 ((rd_T50 y312 x5_1).f2)) := hcc8 2 _ rfl; have hx8_3 : w15.cell? ⟨go5, (x5_1 : Int).toNat * 4 + 3, none⟩ = some (.int .i64 ((rd_T50 y312 x5_1).f3)) := hcc8 3 _ rfl; have hf8_0 : w15.frozen? ⟨go5, (x5_1 : Int).toNat * 4, none⟩ = false := hfr8 0; have hf8_1 : w15.frozen? ⟨go5, (x5_1 : Int).toNat * 4 + 1, none⟩ = false := hfr8 1; have hf8_2 : w15.frozen? ⟨go5, (x5_1 : Int).toNat * 4 + 2, none⟩ = false := hfr8 2; have hf8_3 : w15.frozen? ⟨go5, (x5_1 : Int).toNat * 4 + 3, none⟩ = false := hfr8 3; clear hcl8 hcc8 hfr8 hM8; replace p8 := eq_true p8; replace q8 := eq_true q8; have HX16 := am (show Kd.R k50 50 w15 w0.heap.size (fun k_ => (P0_ k_ ∨ w.heap.size ≤ k_)) (.slice (some ⟨go5, 0, none⟩) x0_1.length co9) y312 from (rq HO_0.out)); obtain ⟨ce16, hcl16, hM16, hcc16, hfr16⟩ := Kd.R_elem HX16.out z50 (x5_1 : Int) (of_decide_eq_true (uq)) (by have h_ : (x5_1 : Int) < ((x0_1.length : Int) : Int) := of_decide_eq_true (uq); first | exact h_ | (have e_ := (Kd.R_reads' HO_0.out).1; omega) | simpa using h_); obtain rfl := k50_openM hM16; have HP16 := Kd.R_seg HX16.out (x5_1 : Int) (of_decide_eq_true (uq)) (by have h_ : (x5_1 : Int) < ((x0_1.length : Int) : Int) := of_decide_eq_true (uq); first | exact h_ | (have e_ := (Kd.R_reads' HO_0.out).1; omega) | simpa using h_) (seg := [.int .i64 (wrap64 ((wrap64 ((wrap64 (x1_1 + 1)) + 1)) + 1))]) (j := 3) hcl16 hcc16 (show 4 ≤ 4 from by decide) (x' := (⟨(rd_T50 y312 x5_1).f0, (rd_T50 y312 x5_1).f1, (rd_T50 y312 x5_1).f2, wrap64 ((wrap64 ((wrap64 (x1_1 + 1)) + 1)) + 1)⟩ : S50)) (k50_mkM _ _ _ (⟨(rd_T50 y312 x5_1).f0, (rd_T50 y312 x5_1).f1, (rd_T50 y312 x5_1).f2, wrap64 ((wrap64 ((wrap64 (x1_1 + 1)) + 1)) + 1)⟩ : S50) ) (fun _ hk => hk); have hx16_3 := hcc16 3 _ rfl; (try simp only [show (k50).sz = 4 from rfl, Nat.mul_one, Nat.add_zero] at hx16_3); have hf16_3 := hfr16 3; (try simp only [show (k50).sz = 4 from rfl, Nat.mul_one, Nat.add_zero] at hf16_3); clear hcl16 hcc16 hfr16 hM16) | ((with_reducible refine gate_store (t := 3) (p := 37) rfl ?_); refine store_event (t := 3) (p := 37) (v := ?vo_w17) (w1 := (w15.setCell ⟨go5, (x5_1 : Int).toNat * 4 + 3, none⟩ (.int .i64 (wrap64 ((wrap64 ((wrap64 (x1_1 + 1)) + 1)) + 1))))) ?hg ?ho ?hn ?hr ?_; (case ho => rfl); (case hg => rfl); (case hn => rfl); (case hr => exact Y4); intro w17 hw; have hg : w15.grownBy w17 (some go5) := (by rw [hw]; exact HP16.2); have hp_ : Kd.R k50 50 w17 w0.heap.size (fun k_ => (P0_ k_ ∨ w.heap.size ≤ k_)) (.slice (some ⟨go5, 0, none⟩) x0_1.length co9) y313 := (by rw [hw, Ny313.out]; exact HP16.1); clear HP16; replace HB := am ((by rw [hw]; exact below_set (HB.out) GB5.out : Below w0.heap.size w0 w17)); replace HK := am (Kept.of_grown (S := (fun k_ => P0_ k_)) hg (Y18) (fun k_ e_ => (HO_0.out.1 k_ e_))); replace HO_0 := am (hp_); clear hg hw hp_))
     go_roundg k1
     case measure => have := HK1.out; omega
     case rel => exact ⟨(y313), (wrap64 ((wrap64 ((wrap64 ((wrap64 (x1_1 + 1)) + 1)) + 1)) + 1)), (wrap64 (x5_1 + 1)), (sq), (sq), H', ⟨by have := HK1.out; omega⟩, ⟨rq HO_0.out⟩, ⟨Y18⟩, ⟨bq⟩⟩
    ·rw [if_neg c4] at H
     exact absurd H (by simp)
   ·rw [if_neg c3] at H
    have c3b0 : decide (x5_1 < (x0_1.length : Int)) = false := decide_eq_false c3
    clear c3
    simp only [Option.some.injEq, Prod.mk.injEq] at H
    obtain ⟨rfl, rfl⟩ := H
    obtain ⟨Ao18, co18, eo18⟩ := Kd.R_slice HO_0.out
    subst eo18
    go_wp2
    go_ret
    exact ⟨Y1, rq HO_0.out, bq, Y18⟩
end Go.Proofs.Ytgbigghiegiejaa.P
end
