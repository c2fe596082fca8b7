/- One part of the proofs on this program: functions of the program as plain functions, that the code comes to them, and facts on them. -/
import Derived.Test.YtkedkinojeoeaaaYAll1
import Derived.Test.YtkedkinojeoeaaaYAll4
import Derived.Test.YtkedkinojeoeaaaYAll5
import Derived.Test.YtkedkinojeoeaaaYWAuto
section
namespace Go.Proofs.Ytkedkinojeoeaaa.P
open Go.RowKit Go.Proofs.YtkedkinojeoeaaaW.PrintWords Go.Proofs.YtkedkinojeoeaaaW.PrintLast Go.Proofs.YtkedkinojeoeaaaW.PrintMore
attribute [local go_sem] jna jla jza jya jda jca jma jka jk
set_option linter.unusedVariables false
set_option linter.unusedSimpArgs false
def inB (a lo hi : Int) : Bool := decide (lo ≤ a) && decide (a ≤ hi)
theorem jSb (a lo hi : Int) : jO.f a lo hi = some (inB a lo hi) := by
 unfold jO.f inB
 by_cases h : a ≥ lo
 ·rw [if_pos h]; simp [show lo ≤ a from h]
 ·rw [if_neg h]; simp [show ¬ lo ≤ a from h]
theorem jGc (a b c d : Int) : jdb.f a b c d = some (inB b 7 12) := by
 unfold jdb.f
 rw [jSb]; rfl
def VF (W : World) (B1 BL BT : Nat) (a x : S36) (tv : Value) : Prop :=
 W.heap[B1]? = some (.cells #[.int .i64 a.f0, .int .i64 a.f1, .int .i64 a.f2, .int .i64 a.f3] 36 (0, 0)) ∧ W.heap[BL]? = some (.cells #[.int .i64 x.f0, .int .i64 x.f1, .int .i64 x.f2, .int .i64 x.f3] 36 (0, 0)) ∧ W.cell? ⟨BT, 0, none⟩ = some tv
theorem VF.below {W W' : World} {B1 BL BT : Nat} {a x : S36} {tv : Value} (h : VF W B1 BL BT a x tv) (hb : Below W.heap.size W W') : VF W' B1 BL BT a x tv :=
 ⟨(hb.block _ (jEb h.1)).trans h.1, (hb.block _ (jEb h.2.1)).trans h.2.1, jxa hb h.2.2⟩
theorem VF.cells {W : World} {B1 BL BT : Nat} {a x : S36} {tv : Value} (h : VF W B1 BL BT a x tv) :
  W.cell? ⟨B1, 0, none⟩ = some (.int .i64 a.f0) ∧ W.cell? ⟨B1, 1, none⟩ = some (.int .i64 a.f1) ∧ W.cell? ⟨B1, 2, none⟩ = some (.int .i64 a.f2) ∧ W.cell? ⟨B1, 3, none⟩ = some (.int .i64 a.f3) ∧
  W.cell? ⟨BL, 0, none⟩ = some (.int .i64 x.f0) ∧ W.cell? ⟨BL, 1, none⟩ = some (.int .i64 x.f1) ∧ W.cell? ⟨BL, 2, none⟩ = some (.int .i64 x.f2) ∧ W.cell? ⟨BL, 3, none⟩ = some (.int .i64 x.f3) ∧ W.cell? ⟨BT, 0, none⟩ = some tv :=
 ⟨(jN h.1 0).trans rfl, (jN h.1 1).trans rfl, (jN h.1 2).trans rfl, (jN h.1 3).trans rfl, (jN h.2.1 0).trans rfl, (jN h.2.1 1).trans rfl, (jN h.2.1 2).trans rfl, (jN h.2.1 3).trans rfl, h.2.2⟩
theorem VF.frozen {W : World} {B1 BL BT : Nat} {a x : S36} {tv : Value} (h : VF W B1 BL BT a x tv) : W.frozen? ⟨B1, 0, none⟩ = false ∧ W.frozen? ⟨B1, 1, none⟩ = false ∧ W.frozen? ⟨B1, 2, none⟩ = false ∧ W.frozen? ⟨B1, 3, none⟩ = false :=
 ⟨ja h.1 0, ja h.1 1, ja h.1 2, ja h.1 3⟩
theorem four_stored {W : World} {B T : Nat} {a b c d a' b' c' d' : Value} (h : W.heap[B]? = some (.cells #[a, b, c, d] T (0, 0))) :
  ((((W.setCell ⟨B, 0, none⟩ a').setCell ⟨B, 1, none⟩ b').setCell ⟨B, 2, none⟩ c').setCell ⟨B, 3, none⟩ d').heap[B]? = some (.cells #[a', b', c', d'] T (0, 0)) := by
 have h0 := blk_set h 0 a'
 have h1 := blk_set h0 1 b'
 have h2 := blk_set h1 2 c'
 have h3 := blk_set h2 3 d'
 simpa using h3
theorem four_below {W w : World} {base B : Nat} {a' b' c' d' : Value} (h : Below base w W) (hB : base ≤ B) :
  Below base w ((((W.setCell ⟨B, 0, none⟩ a').setCell ⟨B, 1, none⟩ b').setCell ⟨B, 2, none⟩ c').setCell ⟨B, 3, none⟩ d') :=
 (((h.setCell (p := ⟨B, 0, none⟩) hB _).setCell (p := ⟨B, 1, none⟩) hB _).setCell (p := ⟨B, 2, none⟩) hB _).setCell (p := ⟨B, 3, none⟩) hB _
theorem four_far {W : World} {B C : Nat} {a' b' c' d' v : Value} (h : W.cell? ⟨C, 0, none⟩ = some v) (hne : B ≠ C) :
  ((((W.setCell ⟨B, 0, none⟩ a').setCell ⟨B, 1, none⟩ b').setCell ⟨B, 2, none⟩ c').setCell ⟨B, 3, none⟩ d').cell? ⟨C, 0, none⟩ = some v := by
 have e : ∀ j, (⟨B, j, none⟩ : Addr) ≠ ⟨C, 0, none⟩ := fun j hj => hne (by injection hj)
 rw [World.cell?_setCell_other (h := e 3), World.cell?_setCell_other (h := e 2), World.cell?_setCell_other (h := e 1), World.cell?_setCell_other (h := e 0)]
 exact h
def jG.bad (x last : S36) : Bool := !inB x.f0 0 5 || (inB last.f1 7 12 && decide (x.f0 ≠ last.f0 + 1)) || (!inB last.f1 7 12 && decide (last.f0 < x.f0))
def jG.go (k : Nat) (t : List S75) : List S36 → S36 → Option (Option S36)
 | [], last => some (some last)
 | x :: xs, last => (jCa.f k x.f0 x.f1 x.f2 x.f3 t).bind fun v => if v = false then some none else if jG.bad x last then some none else jG.go k t xs x
def jG.f (k : Nat) (l0_0 : List S75) (l1 : List S36) : Option Bool := (jD.f k l0_0).bind fun v =>
 if v = false then some false else if 24 < l1.length then some false else
 (jG.go k l0_0 l1 ⟨-1, 7, 0, 0⟩).bind fun q => match q with
 | none => some false
 | some last => if l1.length = 0 then jl.f k l1 0 (l1.length : Int) false else if inB last.f1 7 12 then some false else jl.f k l1 0 (l1.length : Int) false
theorem jG.step {k : Nat} {t : List S75} {p : List S36} {n : Nat} {last : S36} {q : Option S36} (hn : n < p.length) (h : jG.go k t (p.drop n) last = some q) :
  ∃ v, jCa.f k p[n].f0 p[n].f1 p[n].f2 p[n].f3 t = some v ∧ (if v = false then some none else if jG.bad p[n] last then some none else jG.go k t (p.drop (n + 1)) p[n]) = some q := by
 rw [List.drop_eq_getElem_cons hn] at h
 exact Option.bind_eq_some_iff.mp h
set_option maxHeartbeats 8000000 in
set_option maxRecDepth 100000 in
theorem jG.calls (k : Nat) (A0_0 : Option Addr) (c0_0 : Nat) (l0_0 : List S75) (A1 : Option Addr) (c1 : Nat) (l1 : List S36) (r : Bool) (w : World) (hr0_0 : Kd.C k75 w A0_0 l0_0.length l0_0) (hc0_0 : l0_0.length ≤ c0_0) (hr1 : Kd.C k36 w A1 l1.length l1) (hc1 : l1.length ≤ c1) (h : jG.f k l0_0 l1 = some r) :
  Calls Try.prog 12 #[.agg #[.slice A0_0 l0_0.length c0_0], .slice A1 l1.length c1] w fun e w' => e = .returned (.bool r) ∧ Below w.heap.size w w' := by
 have hu25 := Try.underlying25
 have hu36 := Try.underlying36
 have hm : l1.length ≤ 9223372036854775807 := Kd.C_max hr1
 obtain ⟨v, hv, h⟩ := Option.bind_eq_some_iff.mp h
 have HV := am (fun W (hb : Below w.heap.size w W) => jD.calls k A0_0 c0_0 l0_0 v W (Kd.jU hr0_0 hb) hc0_0 hv)
 have HR0 := am hr0_0
 have HR1 := am hr1
 clear hv hr0_0 hr1
 cases v with
 | false =>
  obtain rfl : false = r := by simpa using h
  clear h
  go_enter Try.func12, Try.ntmps12
  go_wp2_with (go_at_call 36; refine (HV.out _ ((Below.refl _ _).alloc (Nat.le_refl _) _)).mono ?_; rintro e w' ⟨rfl, hb2⟩)
  go_ret
  exact ⟨rfl, ((Below.refl _ _).alloc (Nat.le_refl _) _).trans (hb2.mono (by simp))⟩
 | true =>
  simp only [Bool.true_eq_false, if_false] at h
  by_cases h24 : 24 < l1.length
  ·rw [if_pos h24] at h
   obtain rfl : false = r := by simpa using h
   have h24b : decide (24 < l1.length) = true := decide_eq_true h24
   clear h
   go_enter Try.func12, Try.ntmps12
   go_wp2_with (go_at_call 36; refine (HV.out _ ((Below.refl _ _).alloc (Nat.le_refl _) _)).mono ?_; rintro e w' ⟨rfl, hb2⟩)
   go_ret
   exact ⟨rfl, ((Below.refl _ _).alloc (Nat.le_refl _) _).trans (hb2.mono (by simp))⟩
  ·rw [if_neg h24] at h
   have h24b : decide (24 < l1.length) = false := decide_eq_false h24
   obtain ⟨q, hq, h⟩ := Option.bind_eq_some_iff.mp h
   have H0 := am hq
   have HZ := am h
   clear h hq
   go_enter Try.func12, Try.ntmps12
   go_wp2_with (go_at_call 36; refine (HV.out _ ((Below.refl _ _).alloc (Nat.le_refl _) _)).mono ?_; rintro e w2 ⟨rfl, hb2⟩; have HB2 := am (((Below.refl w.heap.size w).alloc (Nat.le_refl _) (.cells #[.slice A0_0 l0_0.length c0_0] 25)).trans (hb2.mono (by simp))); have hs2 : w.heap.size < w2.heap.size := Nat.lt_of_lt_of_le (by simp) hb2.size; have ht2 := jxa hb2 (show (w.alloc (.cells #[.slice A0_0 l0_0.length c0_0] 25)).cell? ⟨w.heap.size, 0, none⟩ = some (.slice A0_0 l0_0.length c0_0) by simp); clear hb2)
   obtain ⟨B1, hB1⟩ : ∃ B1, B1 = w2.heap.size := ⟨_, rfl⟩
   have HBK := am (show (w2.alloc (.cells #[.int .i64 (-1), .int .i64 7, .int .i64 0, .int .i64 0] 36)).heap[B1]? = some (.cells #[.int .i64 (-1), .int .i64 7, .int .i64 0, .int .i64 0] 36 (0, 0)) by rw [hB1]; exact heap_alloc_new w2 _)
   have hBl := am (HB2.out.alloc (Nat.le_of_lt hs2) (.cells #[.int .i64 (-1), .int .i64 7, .int .i64 0, .int .i64 0] 36))
   have hT := am (show (w2.alloc (.cells #[.int .i64 (-1), .int .i64 7, .int .i64 0, .int .i64 0] 36)).cell? ⟨w.heap.size, 0, none⟩ = some (.slice A0_0 l0_0.length c0_0) by simp [World.cell?_alloc_old, Nat.ne_of_lt hs2, ht2])
   rw [← hB1]
   have hlt1 : w.heap.size < B1 := by omega
   clear hB1
   generalize w2.alloc (.cells #[.int .i64 (-1), .int .i64 7, .int .i64 0, .int .i64 0] 36) = w3 at HBK hBl hT ⊢
   clear ht2 hs2 HB2 HV
   go_loopw [19] (fun i19 wr => ∃ (n : Nat) (last : S36), i19 = .int .i64 n ∧ n ≤ l1.length ∧ -1 ≤ last.f0 ∧ last.f0 ≤ 5 ∧ jo (jG.go k l0_0 (l1.drop n) last = some q) ∧ jo (wr.heap[B1]? = some (.cells #[.int .i64 last.f0, .int .i64 last.f1, .int .i64 last.f2, .int .i64 last.f3] 36 (0, 0))) ∧ jo (wr.cell? ⟨w.heap.size, 0, none⟩ = some (.slice A0_0 l0_0.length c0_0)) ∧ jo (Below w.heap.size w wr)) (fun i19 _ => l1.length - (intOf i19).toNat)
   case atStart => exact ⟨0, ⟨-1, 7, 0, 0⟩, rfl, Nat.zero_le _, by simp, by simp, H0, HBK, hT, hBl⟩
   case round =>
    clear H0 HBK hT hBl
    obtain ⟨n, last, rfl, hn, hlo, hhi, HA, HBK, HT, HB⟩ := hrel
    have ht2 := HT.out
    have g0 : wr.cell? ⟨B1, 0, none⟩ = some (.int .i64 last.f0) := (jN HBK.out 0).trans rfl
    have g1 : wr.cell? ⟨B1, 1, none⟩ = some (.int .i64 last.f1) := (jN HBK.out 1).trans rfl
    have g2 : wr.cell? ⟨B1, 2, none⟩ = some (.int .i64 last.f2) := (jN HBK.out 2).trans rfl
    have g3 : wr.cell? ⟨B1, 3, none⟩ = some (.int .i64 last.f3) := (jN HBK.out 3).trans rfl
    have hBw : B1 < wr.heap.size := jEb HBK.out
    have hne : B1 ≠ wr.heap.size := by omega
    have hne2 : w.heap.size ≠ wr.heap.size := by omega
    have hTw : w.heap.size < wr.heap.size := by omega
    by_cases hlt : n < l1.length
    ·obtain ⟨v, hv, hs⟩ := jG.step hlt HA.out
     clear HA
     obtain ⟨ad, rfl, hx0, hx1, hx2, hx3⟩ := jsa HR1.out (n : Int) (by omega) (by omega)
     have hrd : je l1 (n : Int) = l1[n] := by simp [je, List.getD_eq_getElem?_getD, hlt]
     rw [hrd, Int.toNat_natCast] at hx0 hx1 hx2 hx3
     clear hrd
     generalize l1[n] = x at hv hs hx0 hx1 hx2 hx3
     have hb := HB.out
     replace hx0 := jxa hb hx0
     replace hx1 := jxa hb hx1
     replace hx2 := jxa hb hx2
     replace hx3 := jxa hb hx3
     clear hb
     have HG := am (fun W (hb : Below w.heap.size w W) => jCa.calls k x.f0 x.f1 x.f2 x.f3 A0_0 c0_0 l0_0 v W (Kd.jU HR0.out hb) hc0_0 hv)
     clear hv
     cases v with
     | false =>
      obtain rfl : none = q := by simpa using hs
      obtain rfl : false = r := by simpa using HZ.out
      clear hs HZ
      go_wp2_with (go_at_call 37; refine (HG.out _ (HB.out.alloc HB.out.size _)).mono ?_; rintro e w4 ⟨rfl, hb4⟩)
      go_ret
      exact ⟨rfl, jia (HB.out.alloc HB.out.size _) (by simp; have := HB.out.size; omega) hb4⟩
     | true =>
      simp only [Bool.true_eq_false, if_false] at hs
      have V0 := am (show VF (wr.alloc (.cells #[.int .i64 x.f0, .int .i64 x.f1, .int .i64 x.f2, .int .i64 x.f3] 36)) B1 wr.heap.size w.heap.size last x (.slice A0_0 l0_0.length c0_0) from ⟨(heap_alloc_old wr _ hBw).trans HBK.out, heap_alloc_new wr _, by rw [World.cell?_alloc_old _ _ _ hne2]; exact HT.out⟩)
      have HO := am (fun W => jdb.calls last.f0 last.f1 last.f2 last.f3 _ W (jGc _ _ _ _))
      clear g0 g1 g2 g3
      have tok1 : True := trivial
      have HS := am hs
      clear hs
      cases h5 : inB x.f0 0 5 with
      | false =>
       have H5 := am h5
       obtain rfl : none = q := by simpa [jG.bad, h5] using HS.out
       obtain rfl : false = r := by simpa using HZ.out
       clear HS HZ h5
       go_wp2_with (first | (go_at_call 37; refine (HG.out _ (HB.out.alloc HB.out.size _)).mono ?_; rintro e w4 ⟨rfl, hb4⟩; have V4 := am (VF.below V0.out hb4); have HB4 := am (jia (HB.out.alloc HB.out.size _) (by simp; have := HB.out.size; omega) hb4); clear hb4; obtain ⟨g0, g1, g2, g3, e0, e1, e2, e3, ht4⟩ := VF.cells V4.out) | (go_at_call 38; refine (jO.calls _ _ _ _ _ (jSb _ _ _)).mono ?_; rintro e w5 ⟨rfl, ⟨nd, rfl⟩⟩; rw [H5.out]))
       go_ret
       exact ⟨rfl, jq HB4.out _⟩
      | true =>
       have H5 := am h5
       have hx5 : 0 ≤ x.f0 ∧ x.f0 ≤ 5 := by simpa [inB] using h5
       cases ho : inB last.f1 7 12 with
       | true =>
        rw [ho] at HO
        by_cases hd : x.f0 = last.f0 + 1
        ·have hb1 : (x.f0 != last.f0 + 1) = false := by simpa using hd
         have hbad : jG.bad x last = false := by unfold jG.bad; rw [h5, ho]; simp [hd]
         have HN := am (by have := HS.out; rw [hbad] at this; simpa using this : jG.go k l0_0 (l1.drop (n + 1)) x = some q)
         clear hbad
         clear HS hd h5 ho
         go_wp2_with (first | (go_at_call 37; refine (HG.out _ (HB.out.alloc HB.out.size _)).mono ?_; rintro e w4 ⟨rfl, hb4⟩; have V4 := am (VF.below V0.out hb4); have HB4 := am (jia (HB.out.alloc HB.out.size _) (by simp; have := HB.out.size; omega) hb4); clear hb4; obtain ⟨g0, g1, g2, g3, e0, e1, e2, e3, ht4⟩ := VF.cells V4.out) | (go_at_call 38; refine (jO.calls _ _ _ _ _ (jSb _ _ _)).mono ?_; rintro e w5 ⟨rfl, ⟨nd, rfl⟩⟩; rw [H5.out]) | (go_at_call 39; have tk1 := tok1; clear tok1; refine (HO.out _).mono ?_; rintro e w6 ⟨rfl, hb6⟩; have V6 := am (VF.below (W := World.drewN _ _) V4.out hb6); have HB6 := am (jia (w1 := World.drewN _ _) (show Below w.heap.size w (World.drewN _ _) from ⟨HB4.out.os, HB4.out.tape, HB4.out.output, HB4.out.size, HB4.out.block⟩) HB4.out.size hb6); clear hb6 g0 g1 g2 g3 e0 e1 e2 e3 ht4; obtain ⟨g0, g1, g2, g3, e0, e1, e2, e3, ht4⟩ := VF.cells V6.out) | (go_at_call 39; refine (HO.out _).mono ?_; rintro e w7 ⟨rfl, hb7⟩; have V7 := am (VF.below V6.out hb7); have HB7 := am (jia HB6.out HB6.out.size hb7); clear hb7 g0 g1 g2 g3 e0 e1 e2 e3 ht4; obtain ⟨g0, g1, g2, g3, e0, e1, e2, e3, ht4⟩ := VF.cells V7.out; obtain ⟨f0, f1, f2, f3⟩ := VF.frozen V7.out))
         go_roundw
         case rel => exact ⟨n + 1, x, by go_num, hlt, by omega, by omega, HN, ⟨four_stored V7.out.1⟩, ⟨four_far V7.out.2.2 (by omega)⟩, ⟨four_below HB7.out (by omega)⟩⟩
         case measure => simp [intOf]; omega
        ·have hb1 : (x.f0 != last.f0 + 1) = true := by simpa using hd
         obtain rfl : none = q := by simpa [jG.bad, h5, ho, hd] using HS.out
         obtain rfl : false = r := by simpa using HZ.out
         clear HS HZ hd h5 ho
         go_wp2_with (first | (go_at_call 37; refine (HG.out _ (HB.out.alloc HB.out.size _)).mono ?_; rintro e w4 ⟨rfl, hb4⟩; have V4 := am (VF.below V0.out hb4); have HB4 := am (jia (HB.out.alloc HB.out.size _) (by simp; have := HB.out.size; omega) hb4); clear hb4; obtain ⟨g0, g1, g2, g3, e0, e1, e2, e3, ht4⟩ := VF.cells V4.out) | (go_at_call 38; refine (jO.calls _ _ _ _ _ (jSb _ _ _)).mono ?_; rintro e w5 ⟨rfl, ⟨nd, rfl⟩⟩; rw [H5.out]) | (go_at_call 39; have tk1 := tok1; clear tok1; refine (HO.out _).mono ?_; rintro e w6 ⟨rfl, hb6⟩; have V6 := am (VF.below (W := World.drewN _ _) V4.out hb6); have HB6 := am (jia (w1 := World.drewN _ _) (show Below w.heap.size w (World.drewN _ _) from ⟨HB4.out.os, HB4.out.tape, HB4.out.output, HB4.out.size, HB4.out.block⟩) HB4.out.size hb6); clear hb6 g0 g1 g2 g3 e0 e1 e2 e3 ht4; obtain ⟨g0, g1, g2, g3, e0, e1, e2, e3, ht4⟩ := VF.cells V6.out))
         go_ret
         exact ⟨rfl, HB6.out⟩
       | false =>
        rw [ho] at HO
        by_cases hd : last.f0 < x.f0
        ·have hb1 : decide (last.f0 < x.f0) = true := decide_eq_true hd
         have hbad : jG.bad x last = true := by unfold jG.bad; rw [h5, ho]; simp [hd]
         obtain rfl : none = q := by have := HS.out; rw [hbad] at this; simpa using this
         obtain rfl : false = r := by simpa using HZ.out
         clear HS HZ hd h5 ho hbad
         go_wp2_with (first | (go_at_call 37; refine (HG.out _ (HB.out.alloc HB.out.size _)).mono ?_; rintro e w4 ⟨rfl, hb4⟩; have V4 := am (VF.below V0.out hb4); have HB4 := am (jia (HB.out.alloc HB.out.size _) (by simp; have := HB.out.size; omega) hb4); clear hb4; obtain ⟨g0, g1, g2, g3, e0, e1, e2, e3, ht4⟩ := VF.cells V4.out) | (go_at_call 38; refine (jO.calls _ _ _ _ _ (jSb _ _ _)).mono ?_; rintro e w5 ⟨rfl, ⟨nd, rfl⟩⟩; rw [H5.out]) | (go_at_call 39; have tk1 := tok1; clear tok1; refine (HO.out _).mono ?_; rintro e w6 ⟨rfl, hb6⟩; have V6 := am (VF.below (W := World.drewN _ _) V4.out hb6); have HB6 := am (jia (w1 := World.drewN _ _) (show Below w.heap.size w (World.drewN _ _) from ⟨HB4.out.os, HB4.out.tape, HB4.out.output, HB4.out.size, HB4.out.block⟩) HB4.out.size hb6); clear hb6 g0 g1 g2 g3 e0 e1 e2 e3 ht4; obtain ⟨g0, g1, g2, g3, e0, e1, e2, e3, ht4⟩ := VF.cells V6.out) | (go_at_call 39; refine (HO.out _).mono ?_; rintro e w7 ⟨rfl, hb7⟩; have V7 := am (VF.below V6.out hb7); have HB7 := am (jia HB6.out HB6.out.size hb7); clear hb7 g0 g1 g2 g3 e0 e1 e2 e3 ht4; obtain ⟨g0, g1, g2, g3, e0, e1, e2, e3, ht4⟩ := VF.cells V7.out; obtain ⟨f0, f1, f2, f3⟩ := VF.frozen V7.out))
         go_ret
         exact ⟨rfl, HB7.out⟩
        ·have hb1 : decide (last.f0 < x.f0) = false := decide_eq_false hd
         have hbad : jG.bad x last = false := by unfold jG.bad; rw [h5, ho]; simp [hd]
         have HN := am (by have := HS.out; rw [hbad] at this; simpa using this : jG.go k l0_0 (l1.drop (n + 1)) x = some q)
         clear hbad HS hd h5 ho
         go_wp2_with (first | (go_at_call 37; refine (HG.out _ (HB.out.alloc HB.out.size _)).mono ?_; rintro e w4 ⟨rfl, hb4⟩; have V4 := am (VF.below V0.out hb4); have HB4 := am (jia (HB.out.alloc HB.out.size _) (by simp; have := HB.out.size; omega) hb4); clear hb4; obtain ⟨g0, g1, g2, g3, e0, e1, e2, e3, ht4⟩ := VF.cells V4.out) | (go_at_call 38; refine (jO.calls _ _ _ _ _ (jSb _ _ _)).mono ?_; rintro e w5 ⟨rfl, ⟨nd, rfl⟩⟩; rw [H5.out]) | (go_at_call 39; have tk1 := tok1; clear tok1; refine (HO.out _).mono ?_; rintro e w6 ⟨rfl, hb6⟩; have V6 := am (VF.below (W := World.drewN _ _) V4.out hb6); have HB6 := am (jia (w1 := World.drewN _ _) (show Below w.heap.size w (World.drewN _ _) from ⟨HB4.out.os, HB4.out.tape, HB4.out.output, HB4.out.size, HB4.out.block⟩) HB4.out.size hb6); clear hb6 g0 g1 g2 g3 e0 e1 e2 e3 ht4; obtain ⟨g0, g1, g2, g3, e0, e1, e2, e3, ht4⟩ := VF.cells V6.out) | (go_at_call 39; refine (HO.out _).mono ?_; rintro e w7 ⟨rfl, hb7⟩; have V7 := am (VF.below V6.out hb7); have HB7 := am (jia HB6.out HB6.out.size hb7); clear hb7 g0 g1 g2 g3 e0 e1 e2 e3 ht4; obtain ⟨g0, g1, g2, g3, e0, e1, e2, e3, ht4⟩ := VF.cells V7.out; obtain ⟨f0, f1, f2, f3⟩ := VF.frozen V7.out))
         go_roundw
         case rel => exact ⟨n + 1, x, by go_num, hlt, by omega, by omega, HN, ⟨four_stored V7.out.1⟩, ⟨four_far V7.out.2.2 (by omega)⟩, ⟨four_below HB7.out (by omega)⟩⟩
         case measure => simp [intOf]; omega
    ·have hgo := HA.out
     rw [List.drop_eq_nil_of_le (by omega)] at hgo
     obtain rfl : some last = q := by simpa [jG.go] using hgo
     clear hgo HA
     have HY := am HZ.out
     clear HZ
     by_cases h0 : l1.length = 0
     ·have hy := HY.out
      simp only [if_pos h0] at hy
      have HQ := am (fun W (hb : Below w.heap.size w W) => jl.calls k A1 c1 l1 0 (l1.length : Int) false r W (Kd.jU HR1.out hb) hc1 hy)
      have HBX := HB.out
      clear hy HY
      have hz1 : ((l1.length : Int) == 0) = true := by simp [h0]
      have hz2 : (l1.length == 0) = true := by simp [h0]
      clear h0
      go_wp2_with (first | (go_at_call 40; refine (HQ.out _ HBX).mono ?_; rintro e w9 ⟨rfl, hb9⟩; have HB9 := am (jia HBX HBX.size hb9)))
      go_ret
      exact ⟨rfl, HB9.out⟩
     ·have hz1 : ((l1.length : Int) == 0) = false := by simpa using h0
      have hz2 : (l1.length == 0) = false := by simpa using h0
      have HO := am (fun W => jdb.calls last.f0 last.f1 last.f2 last.f3 _ W (jGc _ _ _ _))
      have hy := HY.out
      simp only [if_neg h0] at hy
      clear HY
      cases ho : inB last.f1 7 12 with
      | true =>
       rw [ho] at HO hy
       obtain rfl : false = r := by simpa using hy
       clear hy ho h0
       go_wp2_with (first | (go_at_call 39; refine (HO.out _).mono ?_; rintro e w6 ⟨rfl, hb6⟩; have HBX := jia HB.out HB.out.size hb6; clear hb6))
       go_ret
       exact ⟨rfl, HBX⟩
      | false =>
       rw [ho] at HO hy
       simp only [Bool.false_eq_true, if_false] at hy
       have HQ := am (fun W (hb : Below w.heap.size w W) => jl.calls k A1 c1 l1 0 (l1.length : Int) false r W (Kd.jU HR1.out hb) hc1 hy)
       clear hy ho h0
       go_wp2_with (first | (go_at_call 39; refine (HO.out _).mono ?_; rintro e w6 ⟨rfl, hb6⟩; have HBX := jia HB.out HB.out.size hb6; clear hb6) | (go_at_call 40; refine (HQ.out _ HBX).mono ?_; rintro e w9 ⟨rfl, hb9⟩; have HB9 := am (jia HBX HBX.size hb9)))
       go_ret
       exact ⟨rfl, HB9.out⟩
def jkb.f (k : Nat) (l0_0 : List (S75)) (l1 : List (S36)) (a2 : Int) : Option (Bool) := (jG.f k l0_0 l1).bind fun t473 => (if t473 = true then ((jO.f a2 0 (wrap64 ((l1.length : Int) - 1))).bind fun t474 => (some t474)) else (some false))
set_option maxHeartbeats 8000000 in
set_option maxRecDepth 100000 in
theorem jkb.calls (k : Nat) (A0_0 : Option Addr) (c0_0 : Nat) (l0_0 : List (S75)) (A1 : Option Addr) (c1 : Nat) (l1 : List (S36)) (a2 : Int) (r : Bool) (w : World) (hr0_0 : Kd.C k75 w A0_0 l0_0.length l0_0) (hc0_0 : l0_0.length ≤ c0_0) (hr1 : Kd.C k36 w A1 l1.length l1) (hc1 : l1.length ≤ c1) (h : jkb.f k l0_0 l1 a2 = some r) :
  Calls Try.prog 31 #[.agg #[.slice A0_0 l0_0.length c0_0], .slice A1 l1.length c1, .int .i64 a2] w fun e w' => e = .returned (.bool r) ∧ Below w.heap.size w w' := by
 have hu25 := Try.underlying25
 have HR0_0 := am hr0_0
 have HC0_0 := am hc0_0
 clear hr0_0 hc0_0
 have HR1 := am hr1
 have HC1 := am hc1
 clear hr1 hc1
 have HB := am (Below.refl w.heap.size w)
 have H : ((jG.f k l0_0 l1).bind fun t473 => (if t473 = true then ((jO.f a2 0 (wrap64 ((l1.length : Int) - 1))).bind fun t474 => (some t474)) else (some false))) = some r := h
 clear h
 replace H := Option.bind_eq_some_iff.mp H
 obtain ⟨t473, A40, H⟩ := H
 replace H : (if t473 = true then ((jO.f a2 0 (wrap64 ((l1.length : Int) - 1))).bind fun t474 => (some t474)) else (some false)) = some r := H
 have A4 := am A40
 clear A40
 by_cases c5 : t473 = true
 ·subst c5
  have H1 : ((jO.f a2 0 (wrap64 ((l1.length : Int) - 1))).bind fun t474 => (some t474)) = some r := by rw [if_pos rfl] at H; exact H
  clear H
  have H := H1
  clear H1
  replace H := Option.bind_eq_some_iff.mp H
  obtain ⟨t474, A60, H⟩ := H
  replace H : (some t474) = some r := H
  have A6 := am A60
  clear A60
  obtain rfl := Option.some.inj H
  go_enter Try.func31, Try.ntmps31
  go_wp2_with (first | ((with_reducible refine jI (N := 3) rfl ?_); (try (refine jgc (by rfl) ?_; dsimp only)); refine jkc ?hg (N := 3) ?hd (cs := #[.slice A0_0 l0_0.length c0_0]) (t := 25) ?hr ?_; (case hd => rfl); (case hg => rfl); (case hr => exact Y5); intro gb472 hg w7 hbox hb; have BK472 := am (hbox); have GW472 := am ((Y4 : w.heap.size ≤ gb472)); have GE472 := am ((Y4 : w.heap.size ≤ gb472)); replace HB := am (jf (bq) hb); clear hb hbox hg; have hcz8_0 := bc0 BK472.out; have hfz8_0 := ja BK472.out 0) | ((with_reducible refine jd (f := 12) rfl ?_); refine gL (some 9) Try.func12 #[.agg #[.slice A0_0 l0_0.length c0_0], .slice A1 l1.length c1] ?_; (with_reducible refine (jG.calls k _ _ l0_0 _ _ l1 true _ ?side1 ?side2 ?side3 ?side4 A4.out).mono ?_); (case side1 => exact cq (Kd.jU HR0_0.out HB.out)); (case side2 => exact HC0_0.out); (case side3 => exact cq (Kd.jU HR1.out HB.out)); (case side4 => exact HC1.out); rintro e w9 ⟨rfl, hb⟩; refine ⟨_, rfl, ?_⟩; replace BK472 := am (ji (g := gb472) (o := .cells #[.slice A0_0 l0_0.length c0_0] 25 (0, 0)) (kq BK472.out) hb); replace HB := am (jf (Y99) hb); (try clear hb); (try clear hb2); (try clear hk); (try clear hi)) | (go_at_call 38; (with_reducible refine (jO.calls a2 0 (wrap64 ((l1.length : Int) - 1)) t474 _ A6.out).mono ?_); rintro e w' ⟨rfl, ⟨nd, rfl⟩⟩))
  go_ret
  exact ⟨Y0, Y99⟩
 ·replace c5 := Bool.eq_false_iff.mpr c5
  subst c5
  have H1 : (some false) = some r := by rw [if_neg (show ¬ (false = true) by decide)] at H; exact H
  clear H
  have H := H1
  clear H1
  obtain rfl := Option.some.inj H
  go_enter Try.func31, Try.ntmps31
  go_wp2_with (first | ((with_reducible refine jI (N := 3) rfl ?_); (try (refine jgc (by rfl) ?_; dsimp only)); refine jkc ?hg (N := 3) ?hd (cs := #[.slice A0_0 l0_0.length c0_0]) (t := 25) ?hr ?_; (case hd => rfl); (case hg => rfl); (case hr => exact Y5); intro gb472 hg w10 hbox hb; have BK472 := am (hbox); have GW472 := am ((Y4 : w.heap.size ≤ gb472)); have GE472 := am ((Y4 : w.heap.size ≤ gb472)); replace HB := am (jf (bq) hb); clear hb hbox hg; have hcz11_0 := bc0 BK472.out; have hfz11_0 := ja BK472.out 0) | ((with_reducible refine jd (f := 12) rfl ?_); refine gL (some 9) Try.func12 #[.agg #[.slice A0_0 l0_0.length c0_0], .slice A1 l1.length c1] ?_; (with_reducible refine (jG.calls k _ _ l0_0 _ _ l1 false _ ?side1 ?side2 ?side3 ?side4 A4.out).mono ?_); (case side1 => exact cq (Kd.jU HR0_0.out HB.out)); (case side2 => exact HC0_0.out); (case side3 => exact cq (Kd.jU HR1.out HB.out)); (case side4 => exact HC1.out); rintro e w12 ⟨rfl, hb⟩; refine ⟨_, rfl, ?_⟩; replace BK472 := am (ji (g := gb472) (o := .cells #[.slice A0_0 l0_0.length c0_0] 25 (0, 0)) (kq BK472.out) hb); replace HB := am (jf (Y99) hb); (try clear hb); (try clear hb2); (try clear hk); (try clear hi)))
  go_ret
  exact ⟨Y0, Y99⟩
def jqa.f (l0 : List Int) : Option (List Int) := some (l0)
set_option maxHeartbeats 8000000 in
set_option maxRecDepth 100000 in
theorem jqa.calls (P0_ : Nat → Prop) (u9000_ : Value) (l0 : List Int) (r : List Int) (w0 w : World) (hB : Below w0.heap.size w0 w) (ho0 : Kd.R (Kd.int .i64) 3 w w0.heap.size P0_ u9000_ l0) (h : jqa.f l0 = some r) :
  Calls Try.prog 59 #[u9000_] w fun e w' => ∃ v0_ : Value, e = .returned (v0_) ∧ Kd.R (Kd.int .i64) 3 w' w0.heap.size (fun k_ => (P0_ k_ ∨ w.heap.size ≤ k_)) v0_ r ∧ Below w0.heap.size w0 w' ∧ Kept w w' (fun k_ => P0_ k_) := by
 have HO0 := am (show Kd.R (Kd.int .i64) 3 w w0.heap.size (fun k_ => (P0_ k_ ∨ w.heap.size ≤ k_)) u9000_ l0 from Kd.jA ho0 (fun k_ hk => (.inl hk)))
 have HK := am (Kept.refl w (fun k_ => P0_ k_))
 have HW0 := am hB.size
 have HB := am hB
 clear hB
 have H : (some (l0)) = some r := h
 clear h
 obtain ⟨y475, hy475⟩ : ∃ y_ : List Int, y_ = (l0) := ⟨_, rfl⟩
 replace H : (some y475) = some r := by first | (rw [hy475]; with_reducible exact H) | (have H2_ := (Option.bind_some _ _).symm.trans H; rw [hy475]; with_reducible exact H2_) | (have H2_ := (Option.bind_some _ _).symm.trans H; with_reducible exact H2_) | with_reducible exact H | (rw [hy475]; exact H) | exact H
 have Ny475 := am hy475
 clear hy475
 obtain rfl := Option.some.inj H
 obtain ⟨Ao2, co2, eo2⟩ := Kd.jY HO0.out
 subst eo2
 obtain ⟨i03, hi03, _, hsz3, _⟩ := info_parts info3
 have hy3 : y475.length = l0.length := (by rw [Ny475.out])
 have hcut3 := cut_clip (P := Try.prog) 29 3 Try.underlying29 hi03 Ao2 _ co2 _ (Kd.jm HO0.out).2.1 hy3
 have hr3 := Kd.R_clip HO0.out Ny475.out
 clear hy3 hi03 hsz3 HO0
 have HO477 := am hr3
 clear hr3
 go_enter Try.func59, Try.ntmps59
 go_wp2
 go_ret
 exact ⟨_, Y0, rq HO477.out, bq, by repeat (first | (with_reducible first | exact HK.out | apply Kept.alloc | apply Kept.drewN | apply Kept.drew) | exact HK.out)⟩
def jba.l0 : Nat → List (S36) → Int → List Int → Int → Option (List Int)
 | 0, _, _, _, _ => none
 | k + 1, x0, x1, x5, x6 => if x6 ≥ 0 then (if 0 ≤ x6 then (if x6 < (x0.length : Int) then ((jdb.f ((je x0 x6).f0) ((je x0 x6).f1) ((je x0 x6).f2) ((je x0 x6).f3)).bind fun t485 => (if t485 = true then ((jpa.f k x0 x6).bind fun t486 => (if t486 > x1 then (if x5.length < 17592186044416 then (jba.l0 k x0 x1 (x5 ++ [x6]) (wrap64 (x6 - 1))) else (none)) else (jba.l0 k x0 x1 x5 (wrap64 (x6 - 1))))) else (jba.l0 k x0 x1 x5 (wrap64 (x6 - 1))))) else (none)) else (none)) else ((jqa.f x5).bind fun t481 => (some t481))
def jba.f (k : Nat) (l0 : List (S36)) (a1 : Int) : Option (List Int) := jba.l0 k l0 a1 (([] : List Int)) (wrap64 (a1 - 1))
set_option maxHeartbeats 8000000 in
set_option maxRecDepth 100000 in
theorem jba.calls (k : Nat) (A0 : Option Addr) (c0 : Nat) (l0 : List (S36)) (a1 : Int) (r : List Int) (w : World) (hr0 : Kd.C k36 w A0 l0.length l0) (hc0 : l0.length ≤ c0) (h : jba.f k l0 a1 = some r) :
  Calls Try.prog 41 #[.slice A0 l0.length c0, .int .i64 a1] w fun e w' => ∃ v0_ : Value, e = .returned (v0_) ∧ Kd.R (Kd.int .i64) 3 w' w.heap.size (fun _ => True) v0_ r ∧ Below w.heap.size w w' := by
 have hu36 := Try.underlying36
 have HR0 := am hr0
 have HC0 := am hc0
 clear hr0 hc0
 have HB := am (Below.refl w.heap.size w)
 have H : (jba.l0 k l0 a1 (([] : List Int)) (wrap64 (a1 - 1))) = some r := h
 clear h
 obtain ⟨y478, hy478⟩ : ∃ y_ : List Int, y_ = (([] : List Int)) := ⟨_, rfl⟩
 replace H : (jba.l0 k l0 a1 y478 (wrap64 (a1 - 1))) = some r := by first | (rw [hy478]; with_reducible exact H) | (have H2_ := (Option.bind_some _ _).symm.trans H; rw [hy478]; with_reducible exact H2_) | (have H2_ := (Option.bind_some _ _).symm.trans H; with_reducible exact H2_) | with_reducible exact H | (rw [hy478]; exact H) | exact H
 have Ny478 := am hy478
 clear hy478
 have H' := am H
 clear H
 go_enter Try.func41, Try.ntmps41
 go_wp2_with (first | ((with_reducible refine jI (N := 7) rfl ?_); refine Kd.jXb (Kd.int .i64) _ 3 ?hg (N := 7) ?hd (xs := ([] : List Int)) (inner := []) (ok := fun _ => True) (okp := fun _ => True) ?hr ?hp (fun _ hk => hk) trivial (Below.refl _ _) (Nat.le_refl _) (by simp) ?_; (case hd => rfl); (case hg => rfl); (case hr => exact Y5); (case hp => exact (Reps.none _ _)); intro v479 w3 ho4 hb hg_ hnew_; clear hg_ hnew_; (first | rw [← Ny478.out] at ho4 | (simp only [Int.reduceToNat] at ho4; rw [← Ny478.out] at ho4)); have HO480 := am (Kd.jR ho4 (jK (bq))); replace HB := am (jf (bq) hb); clear hb ho4))
 go_loopg [5, 6] k (fun kq v5 v6 w' => ∃ (x5_1 : List Int) (x6_1 : Int), v6 = .int .i64 x6_1 ∧ jo (jba.l0 kq l0 a1 x5_1 x6_1 = some r) ∧ jo (kq ≤ k) ∧ jo (Kd.R (Kd.int .i64) 3 w' w.heap.size (fun _ => True) v5 x5_1) ∧ jo (Below w.heap.size w w'))
 case atStart => exact ⟨(y478), (wrap64 (a1 - 1)), (sq), H', ⟨Nat.le_refl _⟩, ⟨rq HO480.out⟩, ⟨bq⟩⟩
 case round =>
  clear H'
  try clear p2
  try clear c4
  obtain ⟨x5_1, x6_1, rfl, HA, HK1, HO_5, HB⟩ := hrel
  cases gk with
  | zero => exact absurd HA.out (by simp [jba.l0])
  | succ k1 =>
   have H := HA.out
   clear HA
   simp only [jba.l0] at H
   by_cases c5 : x6_1 ≥ 0
   ·rw [if_pos c5] at H
    have c5b0 : decide (0 ≤ x6_1) = true := decide_eq_true c5
    clear c5
    by_cases c6 : 0 ≤ x6_1
    ·rw [if_pos c6] at H
     have c6b0 : decide (0 ≤ x6_1) = true := decide_eq_true c6
     clear c6
     by_cases c7 : x6_1 < (l0.length : Int)
     ·rw [if_pos c7] at H
      have c7b0 : decide (x6_1 < (l0.length : Int)) = true := decide_eq_true c7
      clear c7
      replace H := Option.bind_eq_some_iff.mp H
      obtain ⟨t485, A80, H⟩ := H
      replace H : (if t485 = true then ((jpa.f k1 l0 x6_1).bind fun t486 => (if t486 > a1 then (if x5_1.length < 17592186044416 then (jba.l0 k1 l0 a1 (x5_1 ++ [x6_1]) (wrap64 (x6_1 - 1))) else (none)) else (jba.l0 k1 l0 a1 x5_1 (wrap64 (x6_1 - 1))))) else (jba.l0 k1 l0 a1 x5_1 (wrap64 (x6_1 - 1)))) = some r := H
      have A8 := am A80
      clear A80
      by_cases c9 : t485 = true
      ·subst c9
       have H1 : ((jpa.f k1 l0 x6_1).bind fun t486 => (if t486 > a1 then (if x5_1.length < 17592186044416 then (jba.l0 k1 l0 a1 (x5_1 ++ [x6_1]) (wrap64 (x6_1 - 1))) else (none)) else (jba.l0 k1 l0 a1 x5_1 (wrap64 (x6_1 - 1))))) = some r := by rw [if_pos rfl] at H; exact H
       clear H
       have H := H1
       clear H1
       replace H := Option.bind_eq_some_iff.mp H
       obtain ⟨t486, A100, H⟩ := H
       replace H : (if t486 > a1 then (if x5_1.length < 17592186044416 then (jba.l0 k1 l0 a1 (x5_1 ++ [x6_1]) (wrap64 (x6_1 - 1))) else (none)) else (jba.l0 k1 l0 a1 x5_1 (wrap64 (x6_1 - 1)))) = some r := H
       have A10 := am A100
       clear A100
       by_cases c11 : t486 > a1
       ·rw [if_pos c11] at H
        have c11b0 : decide (a1 < t486) = true := decide_eq_true c11
        clear c11
        by_cases c12 : x5_1.length < 17592186044416
        ·rw [if_pos c12] at H
         have LMc12 := am c12
         clear c12
         obtain ⟨y487, hy487⟩ : ∃ y_ : List Int, y_ = (x5_1 ++ [x6_1]) := ⟨_, rfl⟩
         replace H : (jba.l0 k1 l0 a1 y487 (wrap64 (x6_1 - 1))) = some r := by first | (rw [hy487]; with_reducible exact H) | (have H2_ := (Option.bind_some _ _).symm.trans H; rw [hy487]; with_reducible exact H2_) | (have H2_ := (Option.bind_some _ _).symm.trans H; with_reducible exact H2_) | with_reducible exact H | (rw [hy487]; exact H) | exact H
         have Ny487 := am hy487
         clear hy487
         have H' := am H
         clear H
         have p484 : 0 ≤ (x6_1 : Int) := of_decide_eq_true (uq)
         have q484 : x6_1 < (l0.length : Int) := of_decide_eq_true (uq)
         obtain ⟨ad484, e484, hx484_0, hx484_1, hx484_2, hx484_3⟩ := jsa HR0.out x6_1 p484 q484
         cases e484
         replace hx484_0 := cb HB.out hx484_0
         replace hx484_1 := cb HB.out hx484_1
         replace hx484_2 := cb HB.out hx484_2
         replace hx484_3 := cb HB.out hx484_3
         replace p484 := eq_true p484
         replace q484 := eq_true q484
         go_wp2_with (first | ((with_reducible refine jd (f := 39) rfl ?_); refine gL (some 18) Try.func39 #[.agg #[.int .i64 ((je l0 x6_1).f0), .int .i64 ((je l0 x6_1).f1), .int .i64 ((je l0 x6_1).f2), .int .i64 ((je l0 x6_1).f3)]] ?_; (with_reducible refine (jdb.calls ((je l0 x6_1).f0) ((je l0 x6_1).f1) ((je l0 x6_1).f2) ((je l0 x6_1).f3) true _ A8.out).mono ?_); rintro e w13 ⟨rfl, hb⟩; refine ⟨_, rfl, ?_⟩; replace HO_5 := am (Kd.jfa (rq HO_5.out) hb); replace HB := am (jf (bq) hb); (try clear hb); (try clear hb2); (try clear hk); (try clear hi)) | (go_at_call 69; (with_reducible refine (jpa.calls k1 _ _ l0 x6_1 t486 _ ?side1 ?side2 A10.out).mono ?_); (case side1 => exact cq (Kd.jU HR0.out HB.out)); (case side2 => exact HC0.out); rintro e w' ⟨rfl, ⟨nd, rfl⟩⟩) | ((with_reducible refine jMa (b := .append) (xs := #[.tmp 26, .tmp 28]) rfl ?_); at_builtin; refine Kd.jWb (Kd.int .i64) (w0 := w) w.heap.size rfl (.tmp 26) (.tmp 28) 29 3 (.int .i64 0) 8 rfl Try.underlying29 info3 rfl (by decide) (by omega) u5 x5_1 x6_1 [.int .i64 x6_1] (fun _ => True) (fun _ => False) rfl rfl ?aP (fun _ hk => hk.elim) ?aF ?aO ?aB ?aS ?aL ?_; (case aP => exact rfl); (case aB => exact (bq)); (case aF => exact (fun _ _ => trivial)); (case aO => exact (rq HO_5.out)); (case aS => exact (jK (bq))); (case aL => have := LMc12.out; omega); intro v488 w14 ho hb hg hat; rw [← Ny487.out] at ho; have n0_ := am (hb); have n1_ := am (ho); clear HB HO_5; have HB := n0_; have HO489 := n1_; clear n0_ n1_ ho hb hg hat))
         go_roundg k1
         case measure => have := HK1.out; omega
         case rel => exact ⟨(y487), (wrap64 (x6_1 - 1)), (sq), H', ⟨by have := HK1.out; omega⟩, ⟨rq HO489.out⟩, ⟨bq⟩⟩
        ·rw [if_neg c12] at H
         exact absurd H (by simp)
       ·rw [if_neg c11] at H
        have c11b0 : decide (a1 < t486) = false := decide_eq_false c11
        clear c11
        have H' := am H
        clear H
        have p484 : 0 ≤ (x6_1 : Int) := of_decide_eq_true (uq)
        have q484 : x6_1 < (l0.length : Int) := of_decide_eq_true (uq)
        obtain ⟨ad484, e484, hx484_0, hx484_1, hx484_2, hx484_3⟩ := jsa HR0.out x6_1 p484 q484
        cases e484
        replace hx484_0 := cb HB.out hx484_0
        replace hx484_1 := cb HB.out hx484_1
        replace hx484_2 := cb HB.out hx484_2
        replace hx484_3 := cb HB.out hx484_3
        replace p484 := eq_true p484
        replace q484 := eq_true q484
        go_wp2_with (first | ((with_reducible refine jd (f := 39) rfl ?_); refine gL (some 18) Try.func39 #[.agg #[.int .i64 ((je l0 x6_1).f0), .int .i64 ((je l0 x6_1).f1), .int .i64 ((je l0 x6_1).f2), .int .i64 ((je l0 x6_1).f3)]] ?_; (with_reducible refine (jdb.calls ((je l0 x6_1).f0) ((je l0 x6_1).f1) ((je l0 x6_1).f2) ((je l0 x6_1).f3) true _ A8.out).mono ?_); rintro e w15 ⟨rfl, hb⟩; refine ⟨_, rfl, ?_⟩; replace HO_5 := am (Kd.jfa (rq HO_5.out) hb); replace HB := am (jf (bq) hb); (try clear hb); (try clear hb2); (try clear hk); (try clear hi)) | (go_at_call 69; (with_reducible refine (jpa.calls k1 _ _ l0 x6_1 t486 _ ?side1 ?side2 A10.out).mono ?_); (case side1 => exact cq (Kd.jU HR0.out HB.out)); (case side2 => exact HC0.out); rintro e w' ⟨rfl, ⟨nd, rfl⟩⟩))
        go_roundg k1
        case measure => have := HK1.out; omega
        case rel => exact ⟨(x5_1), (wrap64 (x6_1 - 1)), (sq), H', ⟨by have := HK1.out; omega⟩, ⟨rq HO_5.out⟩, ⟨bq⟩⟩
      ·replace c9 := Bool.eq_false_iff.mpr c9
       subst c9
       have H1 : (jba.l0 k1 l0 a1 x5_1 (wrap64 (x6_1 - 1))) = some r := by rw [if_neg (show ¬ (false = true) by decide)] at H; exact H
       clear H
       have H := H1
       clear H1
       have H' := am H
       clear H
       have p484 : 0 ≤ (x6_1 : Int) := of_decide_eq_true (uq)
       have q484 : x6_1 < (l0.length : Int) := of_decide_eq_true (uq)
       obtain ⟨ad484, e484, hx484_0, hx484_1, hx484_2, hx484_3⟩ := jsa HR0.out x6_1 p484 q484
       cases e484
       replace hx484_0 := cb HB.out hx484_0
       replace hx484_1 := cb HB.out hx484_1
       replace hx484_2 := cb HB.out hx484_2
       replace hx484_3 := cb HB.out hx484_3
       replace p484 := eq_true p484
       replace q484 := eq_true q484
       go_wp2_with (first | ((with_reducible refine jd (f := 39) rfl ?_); refine gL (some 18) Try.func39 #[.agg #[.int .i64 ((je l0 x6_1).f0), .int .i64 ((je l0 x6_1).f1), .int .i64 ((je l0 x6_1).f2), .int .i64 ((je l0 x6_1).f3)]] ?_; (with_reducible refine (jdb.calls ((je l0 x6_1).f0) ((je l0 x6_1).f1) ((je l0 x6_1).f2) ((je l0 x6_1).f3) false _ A8.out).mono ?_); rintro e w16 ⟨rfl, hb⟩; refine ⟨_, rfl, ?_⟩; replace HO_5 := am (Kd.jfa (rq HO_5.out) hb); replace HB := am (jf (bq) hb); (try clear hb); (try clear hb2); (try clear hk); (try clear hi)))
       go_roundg k1
       case measure => have := HK1.out; omega
       case rel => exact ⟨(x5_1), (wrap64 (x6_1 - 1)), (sq), H', ⟨by have := HK1.out; omega⟩, ⟨rq HO_5.out⟩, ⟨bq⟩⟩
     ·rw [if_neg c7] at H
      exact absurd H (by simp)
    ·rw [if_neg c6] at H
     exact absurd H (by simp)
   ·rw [if_neg c5] at H
    have c5b0 : decide (0 ≤ x6_1) = false := decide_eq_false c5
    clear c5
    replace H := Option.bind_eq_some_iff.mp H
    obtain ⟨t481, A170, H⟩ := H
    replace H : (some t481) = some r := H
    have A17 := am A170
    clear A170
    obtain rfl := Option.some.inj H
    obtain ⟨Ao18, co18, eo18⟩ := Kd.jY HO_5.out
    subst eo18
    go_wp2_with (first | ((with_reducible refine jd (f := 59) rfl ?_); refine gL (some 31) Try.func59 #[.slice Ao18 x5_1.length co18] ?_; (with_reducible refine (jqa.calls (fun k_ => some k_ = (.slice Ao18 x5_1.length co18 : Value).ownBlock) (.slice Ao18 x5_1.length co18) x5_1 t481 w _ ?side1 ?side2 A17.out).mono ?_); (case side1 => exact Y74); (case side2 => exact Kd.R_tight rfl HO_5.out); rintro e w19 ⟨v482, rfl, ho0, hb, hkp⟩; refine ⟨_, rfl, ?_⟩; have n0_ := am (Kd.jA (ok' := fun k_ => True) ho0 (fun k_ hk_ => trivial)); have n1_ := am (hb); clear HB HO_5; have HO483 := n0_; have HB := n1_; clear n0_ n1_; (try clear hb); (try clear hkp); (try clear ho0)))
    go_ret
    exact ⟨_, Y0, rq HO483.out, bq⟩
mutual
def jNa.l0 : Nat → List (S36) → Int → Int → Option (List Int)
 | 0, _, _, _ => none
 | k + 1, x0, x1, x5 => if x5 ≥ 0 then (if 0 ≤ x5 then (if x5 < (x0.length : Int) then (if ((je x0 x5).f1) = 7 then (if 0 ≤ x1 then (if x1 < (x0.length : Int) then (jNa.j1 k x0 x1 x5 (((je x0 x5).f0) == ((je x0 x1).f0))) else (none)) else (none)) else (jNa.j1 k x0 x1 x5 false)) else (none)) else (none)) else (some ([] : List Int))
def jNa.j1 : Nat → List (S36) → Int → Int → Bool → Option (List Int)
 | 0, _, _, _, _ => none
 | k + 1, x0, x1, x5, x29 => if x29 = true then ((jea.f k x0 x5).bind fun t493 => ((jqa.f t493).bind fun t496 => (some t496))) else (jNa.l0 k x0 x1 (wrap64 (x5 - 1)))
end
def jNa.f (k : Nat) (l0 : List (S36)) (a1 : Int) : Option (List Int) := jNa.l0 k l0 a1 a1
set_option maxHeartbeats 8000000 in
set_option maxRecDepth 100000 in
theorem jNa.calls (k : Nat) (A0 : Option Addr) (c0 : Nat) (l0 : List (S36)) (a1 : Int) (r : List Int) (w : World) (hr0 : Kd.C k36 w A0 l0.length l0) (hc0 : l0.length ≤ c0) (h : jNa.f k l0 a1 = some r) :
  Calls Try.prog 56 #[.slice A0 l0.length c0, .int .i64 a1] w fun e w' => ∃ v0_ : Value, e = .returned (v0_) ∧ Kd.R (Kd.int .i64) 3 w' w.heap.size (fun _ => True) v0_ r ∧ Below w.heap.size w w' := by
 have HR0 := am hr0
 have HC0 := am hc0
 clear hr0 hc0
 have HB := am (Below.refl w.heap.size w)
 have H : (jNa.l0 k l0 a1 a1) = some r := h
 clear h
 have H' := am H
 clear H
 go_enter Try.func56, Try.ntmps56
 go_wp2
 repeat (go_quiet (fail); try go_wp2)
 go_loopg [5] k (fun kq v5 w' => ∃ (x5_1 : Int), v5 = .int .i64 x5_1 ∧ jo (jNa.l0 kq l0 a1 x5_1 = some r) ∧ jo (kq ≤ k) ∧ jo (Below w.heap.size w w'))
 case atStart => exact ⟨(a1), (sq), H', ⟨Nat.le_refl _⟩, ⟨bq⟩⟩
 case round =>
  clear H'
  try clear p2
  obtain ⟨x5_1, rfl, HA, HK1, HB⟩ := hrel
  cases gk with
  | zero => exact absurd HA.out (by simp [jNa.l0])
  | succ k1 =>
   have H := HA.out
   clear HA
   simp only [jNa.l0] at H
   by_cases c3 : x5_1 ≥ 0
   ·rw [if_pos c3] at H
    have c3b0 : decide (0 ≤ x5_1) = true := decide_eq_true c3
    clear c3
    have HC4 := am H
    clear H
    go_upto_region 4 with (fail)
    repeat (go_quiet (fail); go_upto_region 4 with (fail))
    go_cut [29] (fun v29 wc => ∃ (kq : Nat) (x29_3 : Bool), v29 = .bool x29_3 ∧ jo (jNa.j1 kq l0 a1 x5_1 x29_3 = some r) ∧ jo (kq ≤ k1) ∧ jo (Below w.heap.size w wc))
    case first =>
     have H := HC4.out
     clear HC4
     by_cases c5 : 0 ≤ x5_1
     ·rw [if_pos c5] at H
      have c5b0 : decide (0 ≤ x5_1) = true := decide_eq_true c5
      clear c5
      (first | rw [c5b0] | (simp only [jrb, jvb]; rw [c5b0]) | skip)
      by_cases c6 : x5_1 < (l0.length : Int)
      ·rw [if_pos c6] at H
       have c6b0 : decide (x5_1 < (l0.length : Int)) = true := decide_eq_true c6
       clear c6
       by_cases c7 : ((je l0 x5_1).f1) = 7
       ·rw [if_pos c7] at H
        have c7b0 : (((je l0 x5_1).f1) == 7) = true := beq_iff_eq.mpr c7
        have c7b1 : (((je l0 x5_1).f1) != 7) = false := bne_eq_false_iff_eq.mpr c7
        clear c7
        by_cases c8 : 0 ≤ a1
        ·rw [if_pos c8] at H
         have c8b0 : decide (0 ≤ a1) = true := decide_eq_true c8
         clear c8
         by_cases c9 : a1 < (l0.length : Int)
         ·rw [if_pos c9] at H
          have c9b0 : decide (a1 < (l0.length : Int)) = true := decide_eq_true c9
          clear c9
          have H' := am H
          clear H
          have p490 : 0 ≤ (x5_1 : Int) := of_decide_eq_true (uq)
          have q490 : x5_1 < (l0.length : Int) := of_decide_eq_true (uq)
          obtain ⟨ad490, e490, hx490_0, hx490_1, hx490_2, hx490_3⟩ := jsa HR0.out x5_1 p490 q490
          cases e490
          replace hx490_0 := cb HB.out hx490_0
          replace hx490_1 := cb HB.out hx490_1
          replace hx490_2 := cb HB.out hx490_2
          replace hx490_3 := cb HB.out hx490_3
          replace p490 := eq_true p490
          replace q490 := eq_true q490
          have p491 : 0 ≤ (x5_1 : Int) := of_decide_eq_true (uq)
          have q491 : x5_1 < (l0.length : Int) := of_decide_eq_true (uq)
          obtain ⟨ad491, e491, hx491_0, hx491_1, hx491_2, hx491_3⟩ := jsa HR0.out x5_1 p491 q491
          obtain rfl : ad490 = ad491 := (by injection e491)
          replace hx491_0 := cb HB.out hx491_0
          replace hx491_1 := cb HB.out hx491_1
          replace hx491_2 := cb HB.out hx491_2
          replace hx491_3 := cb HB.out hx491_3
          replace p491 := eq_true p491
          replace q491 := eq_true q491
          have p492 : 0 ≤ (a1 : Int) := of_decide_eq_true (uq)
          have q492 : a1 < (l0.length : Int) := of_decide_eq_true (uq)
          obtain ⟨ad492, e492, hx492_0, hx492_1, hx492_2, hx492_3⟩ := jsa HR0.out a1 p492 q492
          obtain rfl : ad490 = ad492 := (by injection e492)
          replace hx492_0 := cb HB.out hx492_0
          replace hx492_1 := cb HB.out hx492_1
          replace hx492_2 := cb HB.out hx492_2
          replace hx492_3 := cb HB.out hx492_3
          replace p492 := eq_true p492
          replace q492 := eq_true q492
          go_wp2
          repeat (go_quiet (fail); try go_wp2)
          go_meet
          case rel => exact ⟨_, ((((je l0 x5_1).f0) == ((je l0 a1).f0))), (sq), H', ⟨by have := HK1.out; first | omega | exact Nat.le_refl _⟩, ⟨bq⟩⟩
         ·rw [if_neg c9] at H
          exact absurd H (by simp)
        ·rw [if_neg c8] at H
         exact absurd H (by simp)
       ·rw [if_neg c7] at H
        have c7b0 : (((je l0 x5_1).f1) == 7) = false := beq_eq_false_iff_ne.mpr c7
        have c7b1 : (((je l0 x5_1).f1) != 7) = true := bne_iff_ne.mpr c7
        have H' := am H
        clear H
        have p490 : 0 ≤ (x5_1 : Int) := of_decide_eq_true (uq)
        have q490 : x5_1 < (l0.length : Int) := of_decide_eq_true (uq)
        obtain ⟨ad490, e490, hx490_0, hx490_1, hx490_2, hx490_3⟩ := jsa HR0.out x5_1 p490 q490
        cases e490
        replace hx490_0 := cb HB.out hx490_0
        replace hx490_1 := cb HB.out hx490_1
        replace hx490_2 := cb HB.out hx490_2
        replace hx490_3 := cb HB.out hx490_3
        replace p490 := eq_true p490
        replace q490 := eq_true q490
        go_wp2
        repeat (go_quiet (fail); try go_wp2)
        go_meet
        case rel => exact ⟨_, (false), (sq), H', ⟨by have := HK1.out; first | omega | exact Nat.le_refl _⟩, ⟨bq⟩⟩
      ·rw [if_neg c6] at H
       exact absurd H (by simp)
     ·rw [if_neg c5] at H
      exact absurd H (by simp)
    case rest =>
     clear HC4
     try clear p2
     try clear c3
     try clear c3b0
     try clear p4
     try clear q4
     try clear hx4
     try clear c5
     try clear c5b0
     try clear c6
     try clear c6b0
     try clear c7
     try clear c7b0
     try clear c7b1
     try clear c8
     try clear c8b0
     try clear c9
     try clear c9b0
     try clear hx490_0
     try clear hx490_1
     try clear hx490_2
     try clear hx490_3
     try clear hx491_0
     try clear hx491_1
     try clear hx491_2
     try clear hx491_3
     try clear hx492_0
     try clear hx492_1
     try clear hx492_2
     try clear hx492_3
     try clear p2
     try clear p490
     try clear p491
     try clear p492
     try clear q490
     try clear q491
     try clear q492
     obtain ⟨kq, x29_3, rfl, HA, HJ3, HB⟩ := hcut
     cases kq with
     | zero => exact absurd HA.out (by simp [jNa.j1])
     | succ kj3 =>
      have H := HA.out
      clear HA
      simp only [jNa.j1] at H
      by_cases c10 : x29_3 = true
      ·subst c10
       have H1 : ((jea.f kj3 l0 x5_1).bind fun t493 => ((jqa.f t493).bind fun t496 => (some t496))) = some r := by rw [if_pos rfl] at H; exact H
       clear H
       have H := H1
       clear H1
       replace H := Option.bind_eq_some_iff.mp H
       obtain ⟨t493, A110, H⟩ := H
       replace H : ((jqa.f t493).bind fun t496 => (some t496)) = some r := H
       have A11 := am A110
       clear A110
       replace H := Option.bind_eq_some_iff.mp H
       obtain ⟨t496, A120, H⟩ := H
       replace H : (some t496) = some r := H
       have A12 := am A120
       clear A120
       obtain rfl := Option.some.inj H
       go_wp2_with (first | (go_at_call 67; (with_reducible refine (jea.calls kj3 _ _ l0 x5_1 t493 _ ?side1 ?side2 A11.out).mono ?_); (case side1 => exact cq (Kd.jU HR0.out HB.out)); (case side2 => exact HC0.out); rintro e w13 ⟨v494, rfl, ho0, hb⟩; have HO495 := am (Kd.jR ho0 (jK (bq))); replace HB := am (jf (bq) hb); (try clear hb); (try clear hb2); (try clear hk); (try clear hi); (try clear ho0); obtain ⟨Ao14, co14, eo14⟩ := Kd.jY HO495.out; subst eo14) | (go_at_call 59; (with_reducible refine (jqa.calls (fun k_ => some k_ = (.slice Ao14 t493.length co14 : Value).ownBlock) (.slice Ao14 t493.length co14) t493 t496 w _ ?side1 ?side2 A12.out).mono ?_); (case side1 => exact Y74); (case side2 => exact Kd.R_tight rfl HO495.out); rintro e w15 ⟨v497, rfl, ho0, hb, hkp⟩; have n0_ := am (Kd.jA (ok' := fun k_ => True) ho0 (fun k_ hk_ => trivial)); have n1_ := am (hb); clear HB HO495; have HO498 := n0_; have HB := n1_; clear n0_ n1_; (try clear hb); (try clear hkp); (try clear ho0)))
       repeat (go_quiet (first | (go_at_call 67; (with_reducible refine (jea.calls kj3 _ _ l0 x5_1 t493 _ ?side1 ?side2 A11.out).mono ?_); (case side1 => exact cq (Kd.jU HR0.out HB.out)); (case side2 => exact HC0.out); rintro e w13 ⟨v494, rfl, ho0, hb⟩; have HO495 := am (Kd.jR ho0 (jK (bq))); replace HB := am (jf (bq) hb); (try clear hb); (try clear hb2); (try clear hk); (try clear hi); (try clear ho0); obtain ⟨Ao14, co14, eo14⟩ := Kd.jY HO495.out; subst eo14) | (go_at_call 59; (with_reducible refine (jqa.calls (fun k_ => some k_ = (.slice Ao14 t493.length co14 : Value).ownBlock) (.slice Ao14 t493.length co14) t493 t496 w _ ?side1 ?side2 A12.out).mono ?_); (case side1 => exact Y74); (case side2 => exact Kd.R_tight rfl HO495.out); rintro e w15 ⟨v497, rfl, ho0, hb, hkp⟩; have n0_ := am (Kd.jA (ok' := fun k_ => True) ho0 (fun k_ hk_ => trivial)); have n1_ := am (hb); clear HB HO495; have HO498 := n0_; have HB := n1_; clear n0_ n1_; (try clear hb); (try clear hkp); (try clear ho0))); try go_wp2_with (first | (go_at_call 67; (with_reducible refine (jea.calls kj3 _ _ l0 x5_1 t493 _ ?side1 ?side2 A11.out).mono ?_); (case side1 => exact cq (Kd.jU HR0.out HB.out)); (case side2 => exact HC0.out); rintro e w13 ⟨v494, rfl, ho0, hb⟩; have HO495 := am (Kd.jR ho0 (jK (bq))); replace HB := am (jf (bq) hb); (try clear hb); (try clear hb2); (try clear hk); (try clear hi); (try clear ho0); obtain ⟨Ao14, co14, eo14⟩ := Kd.jY HO495.out; subst eo14) | (go_at_call 59; (with_reducible refine (jqa.calls (fun k_ => some k_ = (.slice Ao14 t493.length co14 : Value).ownBlock) (.slice Ao14 t493.length co14) t493 t496 w _ ?side1 ?side2 A12.out).mono ?_); (case side1 => exact Y74); (case side2 => exact Kd.R_tight rfl HO495.out); rintro e w15 ⟨v497, rfl, ho0, hb, hkp⟩; have n0_ := am (Kd.jA (ok' := fun k_ => True) ho0 (fun k_ hk_ => trivial)); have n1_ := am (hb); clear HB HO495; have HO498 := n0_; have HB := n1_; clear n0_ n1_; (try clear hb); (try clear hkp); (try clear ho0))))
       go_ret
       exact ⟨_, Y0, rq HO498.out, bq⟩
      ·replace c10 := Bool.eq_false_iff.mpr c10
       subst c10
       have H1 : (jNa.l0 kj3 l0 a1 (wrap64 (x5_1 - 1))) = some r := by rw [if_neg (show ¬ (false = true) by decide)] at H; exact H
       clear H
       have H := H1
       clear H1
       have H' := am H
       clear H
       go_wp2
       repeat (go_quiet (fail); try go_wp2)
       go_roundg kj3
       case measure => have := HK1.out; have := HJ3.out; omega
       case rel => exact ⟨(wrap64 (x5_1 - 1)), (sq), H', ⟨by have := HK1.out; have := HJ3.out; omega⟩, ⟨bq⟩⟩
   ·rw [if_neg c3] at H
    have c3b0 : decide (0 ≤ x5_1) = false := decide_eq_false c3
    clear c3
    obtain rfl := Option.some.inj H
    go_wp2
    repeat (go_quiet (fail); try go_wp2)
    go_ret
    exact ⟨_, Y0, Y80, bq⟩
mutual
def jAa.l0 : Nat → List (S36) → Int → List Int → List Int → Int → Int → Option (List Int)
 | 0, _, _, _, _, _, _ => none
 | k + 1, x0, x2, x7, x15, x16, x17 => if x17 < x16 then (if 0 ≤ x17 then (if x17 < (x15.length : Int) then (if (rd x15 x17) = x2 then ((jqa.f x7).bind fun t509 => (some t509)) else (if 0 ≤ (rd x15 x17) then (if (rd x15 x17) < (x0.length : Int) then (if ((je x0 (rd x15 x17)).f1) = 11 then (if x7.length < 17592186044416 then (jAa.l0 k x0 x2 (x7 ++ [rd x15 x17]) x15 x16 (wrap64 (x17 + 1))) else (none)) else (if ((je x0 (rd x15 x17)).f1) = 7 then (jAa.j1 k x0 x2 x7 (rd x15 x17) x15 x16 x17 (((je x0 (rd x15 x17)).f1) == 7)) else (if ((je x0 (rd x15 x17)).f1) = 8 then (jAa.j1 k x0 x2 x7 (rd x15 x17) x15 x16 x17 (((je x0 (rd x15 x17)).f1) == 8)) else (jAa.j1 k x0 x2 x7 (rd x15 x17) x15 x16 x17 (((je x0 (rd x15 x17)).f1) == 9))))) else (none)) else (none))) else (none)) else (none)) else ((jqa.f x7).bind fun t505 => (some t505))
def jAa.j1 : Nat → List (S36) → Int → List Int → Int → List Int → Int → Int → Bool → Option (List Int)
 | 0, _, _, _, _, _, _, _, _ => none
 | k + 1, x0, x2, x7, x9, x15, x16, x17, x35 => if x35 = true then ((jNa.f k x0 x9).bind fun t516 => (if 0 ≤ (wrap64 ((t516.length : Int) - 1)) then (if (wrap64 ((t516.length : Int) - 1)) < (t516.length : Int) then (if 0 ≤ (rd t516 (wrap64 ((t516.length : Int) - 1))) then (if (rd t516 (wrap64 ((t516.length : Int) - 1))) < (x0.length : Int) then (if ((je x0 (rd t516 (wrap64 ((t516.length : Int) - 1)))).f1) = 10 then (if x7.length < 17592186044416 then (jAa.l0 k x0 x2 (x7 ++ [rd t516 (wrap64 ((t516.length : Int) - 1))]) x15 x16 (wrap64 (x17 + 1))) else (none)) else (jAa.l0 k x0 x2 x7 x15 x16 (wrap64 (x17 + 1)))) else (none)) else (none)) else (none)) else (none))) else (jAa.l0 k x0 x2 x7 x15 x16 (wrap64 (x17 + 1)))
end
def jAa.f (k : Nat) (l0 : List (S36)) (a1 : Int) (a2 : Int) : Option (List Int) := (jba.f k l0 a1).bind fun t502 => (jAa.l0 k l0 a2 (([] : List Int)) t502 (t502.length : Int) 0)
set_option maxHeartbeats 8000000 in
set_option maxRecDepth 100000 in
theorem jAa.calls (k : Nat) (A0 : Option Addr) (c0 : Nat) (l0 : List (S36)) (a1 : Int) (a2 : Int) (r : List Int) (w : World) (hr0 : Kd.C k36 w A0 l0.length l0) (hc0 : l0.length ≤ c0) (h : jAa.f k l0 a1 a2 = some r) :
  Calls Try.prog 32 #[.slice A0 l0.length c0, .int .i64 a1, .int .i64 a2] w fun e w' => ∃ v0_ : Value, e = .returned (v0_) ∧ Kd.R (Kd.int .i64) 3 w' w.heap.size (fun _ => True) v0_ r ∧ Below w.heap.size w w' := by
 have HR0 := am hr0
 have HC0 := am hc0
 clear hr0 hc0
 have HB := am (Below.refl w.heap.size w)
 have H : ((jba.f k l0 a1).bind fun t502 => (jAa.l0 k l0 a2 (([] : List Int)) t502 (t502.length : Int) 0)) = some r := h
 clear h
 obtain ⟨y499, hy499⟩ : ∃ y_ : List Int, y_ = (([] : List Int)) := ⟨_, rfl⟩
 replace H : ((jba.f k l0 a1).bind fun t502 => (jAa.l0 k l0 a2 y499 t502 (t502.length : Int) 0)) = some r := by first | (rw [hy499]; with_reducible exact H) | (have H2_ := (Option.bind_some _ _).symm.trans H; rw [hy499]; with_reducible exact H2_) | (have H2_ := (Option.bind_some _ _).symm.trans H; with_reducible exact H2_) | with_reducible exact H | (rw [hy499]; exact H) | exact H
 have Ny499 := am hy499
 clear hy499
 replace H := Option.bind_eq_some_iff.mp H
 obtain ⟨t502, A40, H⟩ := H
 replace H : (jAa.l0 k l0 a2 y499 t502 (t502.length : Int) 0) = some r := H
 have A4 := am A40
 clear A40
 have H' := am H
 clear H
 go_enter Try.func32, Try.ntmps32
 go_wp2_with (first | ((with_reducible refine jI (N := 12) rfl ?_); refine Kd.jXb (Kd.int .i64) _ 3 ?hg (N := 12) ?hd (xs := ([] : List Int)) (inner := []) (ok := fun _ => True) (okp := fun _ => True) ?hr ?hp (fun _ hk => hk) trivial (Below.refl _ _) (Nat.le_refl _) (by simp) ?_; (case hd => rfl); (case hg => rfl); (case hr => exact Y5); (case hp => exact (Reps.none _ _)); intro v500 w5 ho6 hb hg_ hnew_; clear hg_ hnew_; (first | rw [← Ny499.out] at ho6 | (simp only [Int.reduceToNat] at ho6; rw [← Ny499.out] at ho6)); have HO501 := am (Kd.jR ho6 (jK (bq))); replace HB := am (jf (bq) hb); clear hb ho6) | ((with_reducible refine jd (f := 41) rfl ?_); refine gL (some 15) Try.func41 #[.slice A0 l0.length c0, .int .i64 a1] ?_; (with_reducible refine (jba.calls k _ _ l0 a1 t502 _ ?side1 ?side2 A4.out).mono ?_); (case side1 => exact cq (Kd.jU HR0.out HB.out)); (case side2 => exact HC0.out); rintro e w7 ⟨v503, rfl, ho0, hb⟩; refine ⟨_, rfl, ?_⟩; have HO504 := am (Kd.jR (Kd.jLb ho0 (Kd.R_lt (rq HO501.out))) (jK (bq))); replace HO501 := am (Kd.jyb (rq HO501.out) (Kd.jMb ho0) hb); replace HB := am (jf (bq) hb); (try clear hb); (try clear hb2); (try clear hk); (try clear hi); (try clear ho0); obtain ⟨Ao8, co8, eo8⟩ := Kd.jY HO504.out; subst eo8))
 go_loopg [7, 17] k (fun kq v7 v17 w' => ∃ (x7_1 : List Int) (x17_1 : Int), v17 = .int .i64 x17_1 ∧ jo (jAa.l0 kq l0 a2 x7_1 t502 (t502.length : Int) x17_1 = some r) ∧ jo (kq ≤ k) ∧ jo (Kd.R (Kd.int .i64) 3 w' w.heap.size (fun k_ => some k_ ≠ ((.slice Ao8 t502.length co8) : Value).ownBlock) v7 x7_1) ∧ jo (Kd.R (Kd.int .i64) 3 w' w.heap.size (fun k_ => some k_ ≠ (v7 : Value).ownBlock) (.slice Ao8 t502.length co8) t502) ∧ jo (Below w.heap.size w w'))
 case atStart => exact ⟨(y499), (0), (sq), H', ⟨Nat.le_refl _⟩, ⟨by (with_reducible repeat (first | apply Kd.jW | apply Kd.jV | apply Kd.jha)); exact Kd.jA HO501.out (fun _ hk => hk.2)⟩, ⟨by (with_reducible repeat (first | apply Kd.jW | apply Kd.jV | apply Kd.jha)); exact Kd.jA HO504.out (fun _ hk => hk.2)⟩, ⟨bq⟩⟩
 case round =>
  clear H'
  try clear p2
  try clear c3
  try clear c4
  obtain ⟨x7_1, x17_1, rfl, HA, HK1, HO_7, HO_15, HB⟩ := hrel
  cases gk with
  | zero => exact absurd HA.out (by simp [jAa.l0])
  | succ k1 =>
   have H := HA.out
   clear HA
   simp only [jAa.l0] at H
   by_cases c9 : x17_1 < (t502.length : Int)
   ·rw [if_pos c9] at H
    have c9b0 : decide (x17_1 < (t502.length : Int)) = true := decide_eq_true c9
    clear c9
    by_cases c10 : 0 ≤ x17_1
    ·rw [if_pos c10] at H
     have c10b0 : decide (0 ≤ x17_1) = true := decide_eq_true c10
     clear c10
     by_cases c11 : x17_1 < (t502.length : Int)
     ·rw [if_pos c11] at H
      have c11b0 : decide (x17_1 < (t502.length : Int)) = true := decide_eq_true c11
      clear c11
      by_cases c12 : (rd t502 x17_1) = a2
      ·rw [if_pos c12] at H
       have c12b0 : ((rd t502 x17_1) == a2) = true := beq_iff_eq.mpr c12
       have c12b1 : ((rd t502 x17_1) != a2) = false := bne_eq_false_iff_eq.mpr c12
       clear c12
       replace H := Option.bind_eq_some_iff.mp H
       obtain ⟨t509, A130, H⟩ := H
       replace H : (some t509) = some r := H
       have A13 := am A130
       clear A130
       obtain rfl := Option.some.inj H
       have p508 : 0 ≤ (x17_1 : Int) := of_decide_eq_true (uq)
       have q508 : x17_1 < (t502.length : Int) := of_decide_eq_true (uq)
       obtain ⟨ad508, e508, hx508_0⟩ := Kd.jtb (Kd.jm HO_15.out).2.2 x17_1 p508 q508
       cases e508
       replace p508 := eq_true p508
       replace q508 := eq_true q508
       obtain ⟨Ao14, co14, eo14⟩ := Kd.jY HO_7.out
       subst eo14
       go_wp2_with (first | ((with_reducible refine jd (f := 59) rfl ?_); refine gL (some 60) Try.func59 #[.slice Ao14 x7_1.length co14] ?_; (with_reducible refine (jqa.calls (fun k_ => some k_ = (.slice Ao14 x7_1.length co14 : Value).ownBlock) (.slice Ao14 x7_1.length co14) x7_1 t509 w _ ?side1 ?side2 A13.out).mono ?_); (case side1 => exact Y74); (case side2 => exact Kd.R_tight rfl HO_7.out); rintro e w15 ⟨v510, rfl, ho0, hb, hkp⟩; refine ⟨_, rfl, ?_⟩; have n0_ := am (Kd.jA (ok' := fun k_ => some k_ ≠ (v510 : Value).ownBlock) (Kd.R_keptB (HO_15.out) hkp (fun k_ hk_ hs_ => (hk_) hs_)) (fun k_ hk_ => fun e_ => Or.elim (ho0.1 k_ e_.symm) (fun hs_ => hk_.2.1 hs_) (fun hn_ => Nat.not_le.2 hk_.2.2 hn_))); have n1_ := am (Kd.jA (ok' := fun k_ => some k_ ≠ (.slice (some ad508) t502.length co8 : Value).ownBlock) ho0 (fun k_ hk_ => Or.elim hk_ (fun hs_ => fun e_ => (((HO_15.out).1 k_ e_.symm)) hs_) (fun hn_ => (Kd.fresh' (Kd.R_lt (rq HO_15.out)) k_ hn_)))); have n2_ := am (hb); clear HO_15 HB HO_7; have HO_15 := n0_; have HO511 := n1_; have HB := n2_; clear n0_ n1_ n2_; (try clear hb); (try clear hkp); (try clear ho0)))
       go_ret
       exact ⟨_, Y0, by (with_reducible repeat (first | apply Kd.jW | apply Kd.jV | apply Kd.jha)); exact Kd.jA HO511.out (fun _ hk => trivial), bq⟩
      ·rw [if_neg c12] at H
       have c12b0 : ((rd t502 x17_1) == a2) = false := beq_eq_false_iff_ne.mpr c12
       have c12b1 : ((rd t502 x17_1) != a2) = true := bne_iff_ne.mpr c12
       by_cases c16 : 0 ≤ (rd t502 x17_1)
       ·rw [if_pos c16] at H
        have c16b0 : decide (0 ≤ (rd t502 x17_1)) = true := decide_eq_true c16
        clear c16
        by_cases c17 : (rd t502 x17_1) < (l0.length : Int)
        ·rw [if_pos c17] at H
         have c17b0 : decide ((rd t502 x17_1) < (l0.length : Int)) = true := decide_eq_true c17
         clear c17
         by_cases c18 : ((je l0 (rd t502 x17_1)).f1) = 11
         ·rw [if_pos c18] at H
          have c18b0 : (((je l0 (rd t502 x17_1)).f1) == 11) = true := beq_iff_eq.mpr c18
          have c18b1 : (((je l0 (rd t502 x17_1)).f1) != 11) = false := bne_eq_false_iff_eq.mpr c18
          clear c18
          by_cases c19 : x7_1.length < 17592186044416
          ·rw [if_pos c19] at H
           have LMc19 := am c19
           clear c19
           obtain ⟨y513, hy513⟩ : ∃ y_ : List Int, y_ = (x7_1 ++ [rd t502 x17_1]) := ⟨_, rfl⟩
           replace H : (jAa.l0 k1 l0 a2 y513 t502 (t502.length : Int) (wrap64 (x17_1 + 1))) = some r := by first | (rw [hy513]; with_reducible exact H) | (have H2_ := (Option.bind_some _ _).symm.trans H; rw [hy513]; with_reducible exact H2_) | (have H2_ := (Option.bind_some _ _).symm.trans H; with_reducible exact H2_) | with_reducible exact H | (rw [hy513]; exact H) | exact H
           have Ny513 := am hy513
           clear hy513
           have H' := am H
           clear H
           have p508 : 0 ≤ (x17_1 : Int) := of_decide_eq_true (uq)
           have q508 : x17_1 < (t502.length : Int) := of_decide_eq_true (uq)
           obtain ⟨ad508, e508, hx508_0⟩ := Kd.jtb (Kd.jm HO_15.out).2.2 x17_1 p508 q508
           cases e508
           replace p508 := eq_true p508
           replace q508 := eq_true q508
           have p512 : 0 ≤ ((rd t502 x17_1) : Int) := of_decide_eq_true (uq)
           have q512 : (rd t502 x17_1) < (l0.length : Int) := of_decide_eq_true (uq)
           obtain ⟨ad512, e512, hx512_0, hx512_1, hx512_2, hx512_3⟩ := jsa HR0.out (rd t502 x17_1) p512 q512
           cases e512
           replace hx512_0 := cb HB.out hx512_0
           replace hx512_1 := cb HB.out hx512_1
           replace hx512_2 := cb HB.out hx512_2
           replace hx512_3 := cb HB.out hx512_3
           replace p512 := eq_true p512
           replace q512 := eq_true q512
           go_wp2_with (first | ((with_reducible refine jMa (b := .append) (xs := #[.tmp 31, .tmp 33]) rfl ?_); at_builtin; refine Kd.jWb (Kd.int .i64) (w0 := w) w.heap.size rfl (.tmp 31) (.tmp 33) 29 3 (.int .i64 0) 8 rfl Try.underlying29 info3 rfl (by decide) (by omega) u7 x7_1 (rd t502 x17_1) [.int .i64 (rd t502 x17_1)] (fun k_ => some k_ ≠ (.slice (some ad508) t502.length co8 : Value).ownBlock) (fun _ => False) rfl rfl ?aP (fun _ hk => hk.elim) ?aF ?aO ?aB ?aS ?aL ?_; (case aP => exact rfl); (case aB => exact (bq)); (case aF => exact (fun k_ hk => Kd.fresh' (Kd.R_lt (rq HO_15.out)) k_ hk)); (case aO => exact (rq HO_7.out)); (case aS => exact (jK (bq))); (case aL => have := LMc19.out; omega); intro v514 w20 ho hb hg hat; rw [← Ny513.out] at ho; have n0_ := am (Kd.jsc (ok := (fun _ => True)) (by (with_reducible repeat (first | apply Kd.jW | apply Kd.jV | apply Kd.jha)); exact Kd.jA HO_15.out (fun _ hk => ⟨trivial, hk⟩)) hg hat); have n1_ := am (hb); have n2_ := am (ho); clear HO_15 HB HO_7; have HO_15 := n0_; have HB := n1_; have HO515 := n2_; clear n0_ n1_ n2_ ho hb hg hat))
           go_roundg k1
           case measure => have := HK1.out; omega
           case rel => exact ⟨(y513), (wrap64 (x17_1 + 1)), (sq), H', ⟨by have := HK1.out; omega⟩, ⟨rq HO515.out⟩, ⟨by (with_reducible repeat (first | apply Kd.jW | apply Kd.jV | apply Kd.jha)); exact Kd.jA HO_15.out (fun _ hk => hk.2)⟩, ⟨bq⟩⟩
          ·rw [if_neg c19] at H
           exact absurd H (by simp)
         ·rw [if_neg c18] at H
          have c18b0 : (((je l0 (rd t502 x17_1)).f1) == 11) = false := beq_eq_false_iff_ne.mpr c18
          have c18b1 : (((je l0 (rd t502 x17_1)).f1) != 11) = true := bne_iff_ne.mpr c18
          have HC21 := am H
          clear H
          have p508 : 0 ≤ (x17_1 : Int) := of_decide_eq_true (uq)
          have q508 : x17_1 < (t502.length : Int) := of_decide_eq_true (uq)
          obtain ⟨ad508, e508, hx508_0⟩ := Kd.jtb (Kd.jm HO_15.out).2.2 x17_1 p508 q508
          cases e508
          replace p508 := eq_true p508
          replace q508 := eq_true q508
          have p512 : 0 ≤ ((rd t502 x17_1) : Int) := of_decide_eq_true (uq)
          have q512 : (rd t502 x17_1) < (l0.length : Int) := of_decide_eq_true (uq)
          obtain ⟨ad512, e512, hx512_0, hx512_1, hx512_2, hx512_3⟩ := jsa HR0.out (rd t502 x17_1) p512 q512
          cases e512
          replace hx512_0 := cb HB.out hx512_0
          replace hx512_1 := cb HB.out hx512_1
          replace hx512_2 := cb HB.out hx512_2
          replace hx512_3 := cb HB.out hx512_3
          replace p512 := eq_true p512
          replace q512 := eq_true q512
          go_upto_if 35 with (fail)
          go_cut [35] (fun v35 wc => ∃ (kq : Nat) (x35_20 : Bool), v35 = .bool x35_20 ∧ jo (jAa.j1 kq l0 a2 x7_1 (rd t502 x17_1) t502 (t502.length : Int) x17_1 x35_20 = some r) ∧ jo (kq ≤ k1) ∧ jo (Kd.R (Kd.int .i64) 3 wc w.heap.size (fun k_ => some k_ ≠ ((.slice (some ad508) t502.length co8) : Value).ownBlock) u7 x7_1) ∧ jo (Kd.R (Kd.int .i64) 3 wc w.heap.size (fun k_ => some k_ ≠ (u7 : Value).ownBlock) (.slice (some ad508) t502.length co8) t502) ∧ jo (Below w.heap.size w wc))
          case first =>
           have H := HC21.out
           clear HC21
           by_cases c22 : ((je l0 (rd t502 x17_1)).f1) = 7
           ·rw [if_pos c22] at H
            have c22b0 : (((je l0 (rd t502 x17_1)).f1) == 7) = true := beq_iff_eq.mpr c22
            have c22b1 : (((je l0 (rd t502 x17_1)).f1) != 7) = false := bne_eq_false_iff_eq.mpr c22
            clear c22
            (first | rw [c22b0] | (simp only [jrb, jvb]; rw [c22b0]) | skip)
            have H' := am H
            clear H
            go_wp2
            go_meet
            case rel => exact ⟨_, ((((je l0 (rd t502 x17_1)).f1) == 7)), (sq), H', ⟨by have := HK1.out; first | omega | exact Nat.le_refl _⟩, ⟨rq HO_7.out⟩, ⟨rq HO_15.out⟩, ⟨bq⟩⟩
           ·rw [if_neg c22] at H
            have c22b0 : (((je l0 (rd t502 x17_1)).f1) == 7) = false := beq_eq_false_iff_ne.mpr c22
            have c22b1 : (((je l0 (rd t502 x17_1)).f1) != 7) = true := bne_iff_ne.mpr c22
            (first | rw [c22b0] | (simp only [jrb, jvb]; rw [c22b0]) | skip)
            by_cases c23 : ((je l0 (rd t502 x17_1)).f1) = 8
            ·rw [if_pos c23] at H
             have c23b0 : (((je l0 (rd t502 x17_1)).f1) == 8) = true := beq_iff_eq.mpr c23
             have c23b1 : (((je l0 (rd t502 x17_1)).f1) != 8) = false := bne_eq_false_iff_eq.mpr c23
             clear c23
             have H' := am H
             clear H
             go_wp2
             go_meet
             case rel => exact ⟨_, ((((je l0 (rd t502 x17_1)).f1) == 8)), (sq), H', ⟨by have := HK1.out; first | omega | exact Nat.le_refl _⟩, ⟨rq HO_7.out⟩, ⟨rq HO_15.out⟩, ⟨bq⟩⟩
            ·rw [if_neg c23] at H
             have c23b0 : (((je l0 (rd t502 x17_1)).f1) == 8) = false := beq_eq_false_iff_ne.mpr c23
             have c23b1 : (((je l0 (rd t502 x17_1)).f1) != 8) = true := bne_iff_ne.mpr c23
             have H' := am H
             clear H
             go_wp2
             go_meet
             case rel => exact ⟨_, ((((je l0 (rd t502 x17_1)).f1) == 9)), (sq), H', ⟨by have := HK1.out; first | omega | exact Nat.le_refl _⟩, ⟨rq HO_7.out⟩, ⟨rq HO_15.out⟩, ⟨bq⟩⟩
          case rest =>
           clear HC21
           try clear c1
           try clear c2
           try clear p2
           try clear c3
           try clear c4
           try clear c5
           try clear p5
           try clear q5
           try clear hx5
           try clear p6
           try clear c9
           try clear c9b0
           try clear c10
           try clear c10b0
           try clear c11
           try clear c11b0
           try clear c12
           try clear c12b0
           try clear c12b1
           try clear c16
           try clear c16b0
           try clear c17
           try clear c17b0
           try clear c18
           try clear c18b0
           try clear c18b1
           try clear c19
           try clear c22
           try clear c22b0
           try clear c22b1
           try clear c23
           try clear c23b0
           try clear c23b1
           try clear hx508_0
           try clear hx512_0
           try clear hx512_1
           try clear hx512_2
           try clear hx512_3
           try clear p2
           try clear p508
           try clear p512
           try clear q508
           try clear q512
           obtain ⟨kq, x35_20, rfl, HA, HJ20, HO_7, HO_15, HB⟩ := hcut
           cases kq with
           | zero => exact absurd HA.out (by simp [jAa.j1])
           | succ kj20 =>
            have H := HA.out
            clear HA
            simp only [jAa.j1] at H
            by_cases c24 : x35_20 = true
            ·subst c24
             have H1 : ((jNa.f kj20 l0 (rd t502 x17_1)).bind fun t516 => (if 0 ≤ (wrap64 ((t516.length : Int) - 1)) then (if (wrap64 ((t516.length : Int) - 1)) < (t516.length : Int) then (if 0 ≤ (rd t516 (wrap64 ((t516.length : Int) - 1))) then (if (rd t516 (wrap64 ((t516.length : Int) - 1))) < (l0.length : Int) then (if ((je l0 (rd t516 (wrap64 ((t516.length : Int) - 1)))).f1) = 10 then (if x7_1.length < 17592186044416 then (jAa.l0 kj20 l0 a2 (x7_1 ++ [rd t516 (wrap64 ((t516.length : Int) - 1))]) t502 (t502.length : Int) (wrap64 (x17_1 + 1))) else (none)) else (jAa.l0 kj20 l0 a2 x7_1 t502 (t502.length : Int) (wrap64 (x17_1 + 1)))) else (none)) else (none)) else (none)) else (none))) = some r := by rw [if_pos rfl] at H; exact H
             clear H
             have H := H1
             clear H1
             replace H := Option.bind_eq_some_iff.mp H
             obtain ⟨t516, A250, H⟩ := H
             replace H : (if 0 ≤ (wrap64 ((t516.length : Int) - 1)) then (if (wrap64 ((t516.length : Int) - 1)) < (t516.length : Int) then (if 0 ≤ (rd t516 (wrap64 ((t516.length : Int) - 1))) then (if (rd t516 (wrap64 ((t516.length : Int) - 1))) < (l0.length : Int) then (if ((je l0 (rd t516 (wrap64 ((t516.length : Int) - 1)))).f1) = 10 then (if x7_1.length < 17592186044416 then (jAa.l0 kj20 l0 a2 (x7_1 ++ [rd t516 (wrap64 ((t516.length : Int) - 1))]) t502 (t502.length : Int) (wrap64 (x17_1 + 1))) else (none)) else (jAa.l0 kj20 l0 a2 x7_1 t502 (t502.length : Int) (wrap64 (x17_1 + 1)))) else (none)) else (none)) else (none)) else (none)) = some r := H
             have A25 := am A250
             clear A250
             obtain ⟨ji26, hji26⟩ : ∃ j_ : Int, (wrap64 ((t516.length : Int) - 1)) = j_ := ⟨_, rfl⟩
             replace H : (if 0 ≤ (ji26) then (if (ji26) < (t516.length : Int) then (if 0 ≤ (rd t516 (ji26)) then (if (rd t516 (ji26)) < (l0.length : Int) then (if ((je l0 (rd t516 (ji26))).f1) = 10 then (if x7_1.length < 17592186044416 then (jAa.l0 kj20 l0 a2 (x7_1 ++ [rd t516 (ji26)]) t502 (t502.length : Int) (wrap64 (x17_1 + 1))) else (none)) else (jAa.l0 kj20 l0 a2 x7_1 t502 (t502.length : Int) (wrap64 (x17_1 + 1)))) else (none)) else (none)) else (none)) else (none)) = some r := by first | (rw [hji26] at H; exact H) | (simp only [hji26] at H ⊢; exact H)
             (try rw [hji26] at A25)
             have hji26w : (IntKind.i64.wrap ((t516.length : Int) - 1)) = ji26 := (jrb _).trans hji26
             by_cases c27 : 0 ≤ (ji26)
             ·rw [if_pos c27] at H
              have c27b0 : decide (0 ≤ (ji26)) = true := decide_eq_true c27
              clear c27
              by_cases c28 : (ji26) < (t516.length : Int)
              ·rw [if_pos c28] at H
               have c28b0 : decide ((ji26) < (t516.length : Int)) = true := decide_eq_true c28
               clear c28
               by_cases c29 : 0 ≤ (rd t516 (ji26))
               ·rw [if_pos c29] at H
                have c29b0 : decide (0 ≤ (rd t516 (ji26))) = true := decide_eq_true c29
                clear c29
                by_cases c30 : (rd t516 (ji26)) < (l0.length : Int)
                ·rw [if_pos c30] at H
                 have c30b0 : decide ((rd t516 (ji26)) < (l0.length : Int)) = true := decide_eq_true c30
                 clear c30
                 by_cases c31 : ((je l0 (rd t516 (ji26))).f1) = 10
                 ·rw [if_pos c31] at H
                  have c31b0 : (((je l0 (rd t516 (ji26))).f1) == 10) = true := beq_iff_eq.mpr c31
                  have c31b1 : (((je l0 (rd t516 (ji26))).f1) != 10) = false := bne_eq_false_iff_eq.mpr c31
                  clear c31
                  by_cases c32 : x7_1.length < 17592186044416
                  ·rw [if_pos c32] at H
                   have LMc32 := am c32
                   clear c32
                   obtain ⟨y521, hy521⟩ : ∃ y_ : List Int, y_ = (x7_1 ++ [rd t516 (ji26)]) := ⟨_, rfl⟩
                   replace H : (jAa.l0 kj20 l0 a2 y521 t502 (t502.length : Int) (wrap64 (x17_1 + 1))) = some r := by first | (rw [hy521]; with_reducible exact H) | (have H2_ := (Option.bind_some _ _).symm.trans H; rw [hy521]; with_reducible exact H2_) | (have H2_ := (Option.bind_some _ _).symm.trans H; with_reducible exact H2_) | with_reducible exact H | (rw [hy521]; exact H) | exact H
                   have Ny521 := am hy521
                   clear hy521
                   have H' := am H
                   clear H
                   go_wp2_with (first | ((with_reducible refine jd (f := 56) rfl ?_); refine gL (some 41) Try.func56 #[.slice (some ad512) l0.length c0, .int .i64 (rd t502 x17_1)] ?_; (with_reducible refine (jNa.calls kj20 _ _ l0 (rd t502 x17_1) t516 _ ?side1 ?side2 A25.out).mono ?_); (case side1 => exact cq (Kd.jU HR0.out HB.out)); (case side2 => exact HC0.out); rintro e w33 ⟨v517, rfl, ho0, hb⟩; refine ⟨_, rfl, ?_⟩; have HO518 := am (Kd.jR (Kd.jLb (Kd.jLb ho0 (Kd.R_lt (rq HO_7.out))) (Kd.R_lt (rq HO_15.out))) (jK (bq))); replace HO_7 := am (Kd.jyb (rq HO_7.out) (Kd.jMb ho0) hb); replace HO_15 := am (Kd.jyb (rq HO_15.out) (Kd.jMb ho0) hb); replace HB := am (jf (bq) hb); (try clear hb); (try clear hb2); (try clear hk); (try clear hi); (try clear ho0); obtain ⟨Ao34, co34, eo34⟩ := Kd.jY HO518.out; subst eo34; have p519 : 0 ≤ ((ji26) : Int) := of_decide_eq_true (uq); have q519 : (ji26) < (t516.length : Int) := of_decide_eq_true (uq); obtain ⟨ad519, e519, hx519_0⟩ := Kd.jtb (Kd.jm HO518.out).2.2 (ji26) p519 q519; cases e519; replace p519 := eq_true p519; replace q519 := eq_true q519; have p520 : 0 ≤ ((rd t516 (ji26)) : Int) := of_decide_eq_true (uq); have q520 : (rd t516 (ji26)) < (l0.length : Int) := of_decide_eq_true (uq); obtain ⟨ad520, e520, hx520_0, hx520_1, hx520_2, hx520_3⟩ := jsa HR0.out (rd t516 (ji26)) p520 q520; obtain rfl : ad512 = ad520 := (by injection e520); replace hx520_0 := cb HB.out hx520_0; replace hx520_1 := cb HB.out hx520_1; replace hx520_2 := cb HB.out hx520_2; replace hx520_3 := cb HB.out hx520_3; replace p520 := eq_true p520; replace q520 := eq_true q520) | ((with_reducible refine jMa (b := .append) (xs := #[.tmp 54, .tmp 56]) rfl ?_); at_builtin; refine Kd.jWb (Kd.int .i64) (w0 := w) w.heap.size rfl (.tmp 54) (.tmp 56) 29 3 (.int .i64 0) 8 rfl Try.underlying29 info3 rfl (by decide) (by omega) u7 x7_1 (rd t516 (ji26)) [.int .i64 (rd t516 (ji26))] (fun k_ => some k_ ≠ (.slice (some ad508) t502.length co8 : Value).ownBlock ∧ some k_ ≠ (.slice (some ad519) t516.length co34 : Value).ownBlock) (fun _ => False) rfl rfl ?aP (fun _ hk => hk.elim) ?aF ?aO ?aB ?aS ?aL ?_; (case aP => exact rfl); (case aB => exact (bq)); (case aF => exact (fun k_ hk => ⟨Kd.fresh' (Kd.R_lt (rq HO_15.out)) k_ hk, Kd.fresh' (Kd.R_lt (rq HO518.out)) k_ hk⟩)); (case aO => exact (rq HO_7.out)); (case aS => exact (jK (bq))); (case aL => have := LMc32.out; omega); intro v522 w35 ho hb hg hat; rw [← Ny521.out] at ho; have n0_ := am (Kd.jsc (ok := (fun k_ => some k_ ≠ (.slice (some ad519) t516.length co34 : Value).ownBlock)) (by (with_reducible repeat (first | apply Kd.jW | apply Kd.jV | apply Kd.jha)); exact Kd.jA HO_15.out (fun _ hk => ⟨hk.2, hk.1⟩)) hg hat); have n1_ := am (Kd.jsc (ok := (fun k_ => some k_ ≠ (.slice (some ad508) t502.length co8 : Value).ownBlock)) (by (with_reducible repeat (first | apply Kd.jW | apply Kd.jV | apply Kd.jha)); exact Kd.jA HO518.out (fun _ hk => ⟨hk.2, hk.1.2⟩)) hg hat); have n2_ := am (hb); have n3_ := am (ho); clear HO_15 HO518 HB HO_7; have HO_15 := n0_; have HO518 := n1_; have HB := n2_; have HO523 := n3_; clear n0_ n1_ n2_ n3_ ho hb hg hat))
                   go_roundg kj20
                   case measure => have := HK1.out; have := HJ20.out; omega
                   case rel => exact ⟨(y521), (wrap64 (x17_1 + 1)), (sq), H', ⟨by have := HK1.out; have := HJ20.out; omega⟩, ⟨by (with_reducible repeat (first | apply Kd.jW | apply Kd.jV | apply Kd.jha)); exact Kd.jA HO523.out (fun _ hk => hk.1)⟩, ⟨by (with_reducible repeat (first | apply Kd.jW | apply Kd.jV | apply Kd.jha)); exact Kd.jA HO_15.out (fun _ hk => hk.2)⟩, ⟨bq⟩⟩
                  ·rw [if_neg c32] at H
                   exact absurd H (by simp)
                 ·rw [if_neg c31] at H
                  have c31b0 : (((je l0 (rd t516 (ji26))).f1) == 10) = false := beq_eq_false_iff_ne.mpr c31
                  have c31b1 : (((je l0 (rd t516 (ji26))).f1) != 10) = true := bne_iff_ne.mpr c31
                  have H' := am H
                  clear H
                  go_wp2_with (first | ((with_reducible refine jd (f := 56) rfl ?_); refine gL (some 41) Try.func56 #[.slice (some ad512) l0.length c0, .int .i64 (rd t502 x17_1)] ?_; (with_reducible refine (jNa.calls kj20 _ _ l0 (rd t502 x17_1) t516 _ ?side1 ?side2 A25.out).mono ?_); (case side1 => exact cq (Kd.jU HR0.out HB.out)); (case side2 => exact HC0.out); rintro e w36 ⟨v517, rfl, ho0, hb⟩; refine ⟨_, rfl, ?_⟩; have HO518 := am (Kd.jR (Kd.jLb (Kd.jLb ho0 (Kd.R_lt (rq HO_7.out))) (Kd.R_lt (rq HO_15.out))) (jK (bq))); replace HO_7 := am (Kd.jyb (rq HO_7.out) (Kd.jMb ho0) hb); replace HO_15 := am (Kd.jyb (rq HO_15.out) (Kd.jMb ho0) hb); replace HB := am (jf (bq) hb); (try clear hb); (try clear hb2); (try clear hk); (try clear hi); (try clear ho0); obtain ⟨Ao37, co37, eo37⟩ := Kd.jY HO518.out; subst eo37; have p519 : 0 ≤ ((ji26) : Int) := of_decide_eq_true (uq); have q519 : (ji26) < (t516.length : Int) := of_decide_eq_true (uq); obtain ⟨ad519, e519, hx519_0⟩ := Kd.jtb (Kd.jm HO518.out).2.2 (ji26) p519 q519; cases e519; replace p519 := eq_true p519; replace q519 := eq_true q519; have p520 : 0 ≤ ((rd t516 (ji26)) : Int) := of_decide_eq_true (uq); have q520 : (rd t516 (ji26)) < (l0.length : Int) := of_decide_eq_true (uq); obtain ⟨ad520, e520, hx520_0, hx520_1, hx520_2, hx520_3⟩ := jsa HR0.out (rd t516 (ji26)) p520 q520; obtain rfl : ad512 = ad520 := (by injection e520); replace hx520_0 := cb HB.out hx520_0; replace hx520_1 := cb HB.out hx520_1; replace hx520_2 := cb HB.out hx520_2; replace hx520_3 := cb HB.out hx520_3; replace p520 := eq_true p520; replace q520 := eq_true q520))
                  go_roundg kj20
                  case measure => have := HK1.out; have := HJ20.out; omega
                  case rel => exact ⟨(x7_1), (wrap64 (x17_1 + 1)), (sq), H', ⟨by have := HK1.out; have := HJ20.out; omega⟩, ⟨by (with_reducible repeat (first | apply Kd.jW | apply Kd.jV | apply Kd.jha)); exact Kd.jA HO_7.out (fun _ hk => hk.1)⟩, ⟨by (with_reducible repeat (first | apply Kd.jW | apply Kd.jV | apply Kd.jha)); exact Kd.jA HO_15.out (fun _ hk => hk.1)⟩, ⟨bq⟩⟩
                ·rw [if_neg c30] at H
                 exact absurd H (by simp)
               ·rw [if_neg c29] at H
                exact absurd H (by simp)
              ·rw [if_neg c28] at H
               exact absurd H (by simp)
             ·rw [if_neg c27] at H
              exact absurd H (by simp)
            ·replace c24 := Bool.eq_false_iff.mpr c24
             subst c24
             have H1 : (jAa.l0 kj20 l0 a2 x7_1 t502 (t502.length : Int) (wrap64 (x17_1 + 1))) = some r := by rw [if_neg (show ¬ (false = true) by decide)] at H; exact H
             clear H
             have H := H1
             clear H1
             have H' := am H
             clear H
             go_wp2
             go_roundg kj20
             case measure => have := HK1.out; have := HJ20.out; omega
             case rel => exact ⟨(x7_1), (wrap64 (x17_1 + 1)), (sq), H', ⟨by have := HK1.out; have := HJ20.out; omega⟩, ⟨rq HO_7.out⟩, ⟨rq HO_15.out⟩, ⟨bq⟩⟩
        ·rw [if_neg c17] at H
         exact absurd H (by simp)
       ·rw [if_neg c16] at H
        exact absurd H (by simp)
     ·rw [if_neg c11] at H
      exact absurd H (by simp)
    ·rw [if_neg c10] at H
     exact absurd H (by simp)
   ·rw [if_neg c9] at H
    have c9b0 : decide (x17_1 < (t502.length : Int)) = false := decide_eq_false c9
    clear c9
    replace H := Option.bind_eq_some_iff.mp H
    obtain ⟨t505, A380, H⟩ := H
    replace H : (some t505) = some r := H
    have A38 := am A380
    clear A380
    obtain rfl := Option.some.inj H
    obtain ⟨Ao39, co39, eo39⟩ := Kd.jY HO_7.out
    subst eo39
    go_wp2_with (first | ((with_reducible refine jd (f := 59) rfl ?_); refine gL (some 60) Try.func59 #[.slice Ao39 x7_1.length co39] ?_; (with_reducible refine (jqa.calls (fun k_ => some k_ = (.slice Ao39 x7_1.length co39 : Value).ownBlock) (.slice Ao39 x7_1.length co39) x7_1 t505 w _ ?side1 ?side2 A38.out).mono ?_); (case side1 => exact Y74); (case side2 => exact Kd.R_tight rfl HO_7.out); rintro e w40 ⟨v506, rfl, ho0, hb, hkp⟩; refine ⟨_, rfl, ?_⟩; have n0_ := am (Kd.jA (ok' := fun k_ => some k_ ≠ (v506 : Value).ownBlock) (Kd.R_keptB (HO_15.out) hkp (fun k_ hk_ hs_ => (hk_) hs_)) (fun k_ hk_ => fun e_ => Or.elim (ho0.1 k_ e_.symm) (fun hs_ => hk_.2.1 hs_) (fun hn_ => Nat.not_le.2 hk_.2.2 hn_))); have n1_ := am (Kd.jA (ok' := fun k_ => some k_ ≠ (.slice Ao8 t502.length co8 : Value).ownBlock) ho0 (fun k_ hk_ => Or.elim hk_ (fun hs_ => fun e_ => (((HO_15.out).1 k_ e_.symm)) hs_) (fun hn_ => (Kd.fresh' (Kd.R_lt (rq HO_15.out)) k_ hn_)))); have n2_ := am (hb); clear HO_15 HB HO_7; have HO_15 := n0_; have HO507 := n1_; have HB := n2_; clear n0_ n1_ n2_; (try clear hb); (try clear hkp); (try clear ho0)))
    go_ret
    exact ⟨_, Y0, by (with_reducible repeat (first | apply Kd.jW | apply Kd.jV | apply Kd.jha)); exact Kd.jA HO507.out (fun _ hk => trivial), bq⟩
def jQb.f (k : Nat) (l0_0 : List (S75)) (l1 : List (S36)) (a2 : Int) : Option (List Int) := (jkb.f k l0_0 l1 a2).bind fun t525 => (if t525 = true then ((jAa.f k l1 a2 (-1)).bind fun t526 => (some t526)) else (some ([] : List Int)))
set_option maxHeartbeats 8000000 in
set_option maxRecDepth 100000 in
theorem jQb.calls (k : Nat) (A0_0 : Option Addr) (c0_0 : Nat) (l0_0 : List (S75)) (A1 : Option Addr) (c1 : Nat) (l1 : List (S36)) (a2 : Int) (r : List Int) (w : World) (hr0_0 : Kd.C k75 w A0_0 l0_0.length l0_0) (hc0_0 : l0_0.length ≤ c0_0) (hr1 : Kd.C k36 w A1 l1.length l1) (hc1 : l1.length ≤ c1) (h : jQb.f k l0_0 l1 a2 = some r) :
  Calls Try.prog 9 #[.agg #[.slice A0_0 l0_0.length c0_0], .slice A1 l1.length c1, .int .i64 a2] w fun e w' => ∃ v0_ : Value, e = .returned (v0_) ∧ Kd.R (Kd.int .i64) 3 w' w.heap.size (fun _ => True) v0_ r ∧ Below w.heap.size w w' := by
 have hu25 := Try.underlying25
 have HR0_0 := am hr0_0
 have HC0_0 := am hc0_0
 clear hr0_0 hc0_0
 have HR1 := am hr1
 have HC1 := am hc1
 clear hr1 hc1
 have HB := am (Below.refl w.heap.size w)
 have H : ((jkb.f k l0_0 l1 a2).bind fun t525 => (if t525 = true then ((jAa.f k l1 a2 (-1)).bind fun t526 => (some t526)) else (some ([] : List Int)))) = some r := h
 clear h
 replace H := Option.bind_eq_some_iff.mp H
 obtain ⟨t525, A40, H⟩ := H
 replace H : (if t525 = true then ((jAa.f k l1 a2 (-1)).bind fun t526 => (some t526)) else (some ([] : List Int))) = some r := H
 have A4 := am A40
 clear A40
 by_cases c5 : t525 = true
 ·subst c5
  have H1 : ((jAa.f k l1 a2 (-1)).bind fun t526 => (some t526)) = some r := by rw [if_pos rfl] at H; exact H
  clear H
  have H := H1
  clear H1
  replace H := Option.bind_eq_some_iff.mp H
  obtain ⟨t526, A60, H⟩ := H
  replace H : (some t526) = some r := H
  have A6 := am A60
  clear A60
  obtain rfl := Option.some.inj H
  go_enter Try.func9, Try.ntmps9
  go_wp2_with (first | ((with_reducible refine jI (N := 3) rfl ?_); refine bE (N := 3) (cs := #[.slice A0_0 l0_0.length c0_0]) (t := 25) ?_; intro gb524 hg w7 hbox hb; have BK524 := am (hbox); have GW524 := am ((Y4 : w.heap.size ≤ gb524)); have GE524 := am ((Y4 : w.heap.size ≤ gb524)); replace HB := am (jf (bq) hb); clear hb hbox hg; have hcz8_0 := bc0 BK524.out; have hfz8_0 := ja BK524.out 0) | ((with_reducible refine jd (f := 31) rfl ?_); refine gL (some 10) Try.func31 #[.agg #[.slice A0_0 l0_0.length c0_0], .slice A1 l1.length c1, .int .i64 a2] ?_; (with_reducible refine (jkb.calls k _ _ l0_0 _ _ l1 a2 true _ ?side1 ?side2 ?side3 ?side4 A4.out).mono ?_); (case side1 => exact cq (Kd.jU HR0_0.out HB.out)); (case side2 => exact HC0_0.out); (case side3 => exact cq (Kd.jU HR1.out HB.out)); (case side4 => exact HC1.out); rintro e w9 ⟨rfl, hb⟩; refine ⟨_, rfl, ?_⟩; replace BK524 := am (ji (g := gb524) (o := .cells #[.slice A0_0 l0_0.length c0_0] 25 (0, 0)) (kq BK524.out) hb); replace HB := am (jf (Y75) hb); (try clear hb); (try clear hb2); (try clear hk); (try clear hi)) | ((with_reducible refine jd (f := 32) rfl ?_); refine gL (some 14) Try.func32 #[.slice A1 l1.length c1, .int .i64 a2, .int .i64 (-1)] ?_; (with_reducible refine (jAa.calls k _ _ l1 a2 (-1) t526 _ ?side1 ?side2 A6.out).mono ?_); (case side1 => exact cq (Kd.jU HR1.out HB.out)); (case side2 => exact HC1.out); rintro e w10 ⟨v527, rfl, ho0, hb⟩; refine ⟨_, rfl, ?_⟩; have HO528 := am (Kd.jR ho0 (jK (Y75))); replace BK524 := am (ji (g := gb524) (o := .cells #[.slice A0_0 l0_0.length c0_0] 25 (0, 0)) (kq BK524.out) hb); replace HB := am (jf (Y75) hb); (try clear hb); (try clear hb2); (try clear hk); (try clear hi); (try clear ho0)))
  go_ret
  exact ⟨_, Y0, rq HO528.out, Y75⟩
 ·replace c5 := Bool.eq_false_iff.mpr c5
  subst c5
  have H1 : (some ([] : List Int)) = some r := by rw [if_neg (show ¬ (false = true) by decide)] at H; exact H
  clear H
  have H := H1
  clear H1
  obtain rfl := Option.some.inj H
  go_enter Try.func9, Try.ntmps9
  go_wp2_with (first | ((with_reducible refine jI (N := 3) rfl ?_); refine bE (N := 3) (cs := #[.slice A0_0 l0_0.length c0_0]) (t := 25) ?_; intro gb524 hg w11 hbox hb; have BK524 := am (hbox); have GW524 := am ((Y4 : w.heap.size ≤ gb524)); have GE524 := am ((Y4 : w.heap.size ≤ gb524)); replace HB := am (jf (bq) hb); clear hb hbox hg; have hcz12_0 := bc0 BK524.out; have hfz12_0 := ja BK524.out 0) | ((with_reducible refine jd (f := 31) rfl ?_); refine gL (some 10) Try.func31 #[.agg #[.slice A0_0 l0_0.length c0_0], .slice A1 l1.length c1, .int .i64 a2] ?_; (with_reducible refine (jkb.calls k _ _ l0_0 _ _ l1 a2 false _ ?side1 ?side2 ?side3 ?side4 A4.out).mono ?_); (case side1 => exact cq (Kd.jU HR0_0.out HB.out)); (case side2 => exact HC0_0.out); (case side3 => exact cq (Kd.jU HR1.out HB.out)); (case side4 => exact HC1.out); rintro e w13 ⟨rfl, hb⟩; refine ⟨_, rfl, ?_⟩; replace BK524 := am (ji (g := gb524) (o := .cells #[.slice A0_0 l0_0.length c0_0] 25 (0, 0)) (kq BK524.out) hb); replace HB := am (jf (Y75) hb); (try clear hb); (try clear hb2); (try clear hk); (try clear hi)))
  go_ret
  exact ⟨_, Y0, Y80, Y75⟩
def jX.l0 : Nat → List Int → List Int → Int → Option (Bool)
 | 0, _, _, _ => none
 | k + 1, x0, x1, x5 => if x5 < (x0.length : Int) then (if 0 ≤ x5 then (if x5 < (x1.length : Int) then (if (rd x0 x5) = (rd x1 x5) then (jX.l0 k x0 x1 (wrap64 (x5 + 1))) else (some false)) else (none)) else (none)) else (some true)
def jX.f (k : Nat) (l0 : List Int) (l1 : List Int) : Option (Bool) := if (l0.length : Int) = (l1.length : Int) then (jX.l0 k l0 l1 0) else (some false)
set_option maxHeartbeats 8000000 in
set_option maxRecDepth 100000 in
theorem jX.calls (k : Nat) (A0 : Option Addr) (c0 : Nat) (l0 : List Int) (A1 : Option Addr) (c1 : Nat) (l1 : List Int) (r : Bool) (w : World) (hr0 : Kd.C (Kd.int .i64) w A0 l0.length l0) (hc0 : l0.length ≤ c0) (hr1 : Kd.C (Kd.int .i64) w A1 l1.length l1) (hc1 : l1.length ≤ c1) (h : jX.f k l0 l1 = some r) :
  Calls Try.prog 10 #[.slice A0 l0.length c0, .slice A1 l1.length c1] w fun e w' => e = .returned (.bool r) ∧ jnb w w' := by
 have HR0 := am hr0
 have HC0 := am hc0
 clear hr0 hc0
 have HR1 := am hr1
 have HC1 := am hc1
 clear hr1 hc1
 have H : (if (l0.length : Int) = (l1.length : Int) then (jX.l0 k l0 l1 0) else (some false)) = some r := h
 clear h
 by_cases c3 : (l0.length : Int) = (l1.length : Int)
 ·rw [if_pos c3] at H
  have c3b0 : ((l0.length : Int) == (l1.length : Int)) = true := beq_iff_eq.mpr c3
  have c3b1 : ((l0.length : Int) != (l1.length : Int)) = false := bne_eq_false_iff_eq.mpr c3
  have c3b2 : (l0.length == l1.length) = true := by first | simpa using c3 | (simp at c3 ⊢; omega)
  clear c3
  have H' := am H
  clear H
  go_enter Try.func10, Try.ntmps10
  go_wp2
  repeat (go_quiet (fail); try go_wp2)
  go_loopg [5] k (fun kq v5 w' => ∃ (x5_1 : Int), v5 = .int .i64 x5_1 ∧ jo (jX.l0 kq l0 l1 x5_1 = some r) ∧ jo (kq ≤ k) ∧ jnb w w')
  case atStart => exact ⟨(0), (sq), H', ⟨Nat.le_refl _⟩, Y7⟩
  case round =>
   clear H'
   try clear c1
   try clear p2
   try clear c3
   try clear c3b0
   try clear c3b1
   try clear c3b2
   obtain ⟨x5_1, rfl, HA, HK1, ⟨m1, rfl⟩⟩ := hrel
   cases gk with
   | zero => exact absurd HA.out (by simp [jX.l0])
   | succ k1 =>
    have H := HA.out
    clear HA
    simp only [jX.l0] at H
    by_cases c4 : x5_1 < (l0.length : Int)
    ·rw [if_pos c4] at H
     have c4b0 : decide (x5_1 < (l0.length : Int)) = true := decide_eq_true c4
     clear c4
     by_cases c5 : 0 ≤ x5_1
     ·rw [if_pos c5] at H
      have c5b0 : decide (0 ≤ x5_1) = true := decide_eq_true c5
      clear c5
      by_cases c6 : x5_1 < (l1.length : Int)
      ·rw [if_pos c6] at H
       have c6b0 : decide (x5_1 < (l1.length : Int)) = true := decide_eq_true c6
       clear c6
       by_cases c7 : (rd l0 x5_1) = (rd l1 x5_1)
       ·rw [if_pos c7] at H
        have c7b0 : ((rd l0 x5_1) == (rd l1 x5_1)) = true := beq_iff_eq.mpr c7
        have c7b1 : ((rd l0 x5_1) != (rd l1 x5_1)) = false := bne_eq_false_iff_eq.mpr c7
        clear c7
        have H' := am H
        clear H
        have p529 : 0 ≤ (x5_1 : Int) := of_decide_eq_true (uq)
        have q529 : x5_1 < (l0.length : Int) := of_decide_eq_true (uq)
        obtain ⟨ad529, e529, hx529_0⟩ := Kd.jtb HR0.out x5_1 p529 q529
        cases e529
        replace p529 := eq_true p529
        replace q529 := eq_true q529
        have p530 : 0 ≤ (x5_1 : Int) := of_decide_eq_true (uq)
        have q530 : x5_1 < (l1.length : Int) := of_decide_eq_true (uq)
        obtain ⟨ad530, e530, hx530_0⟩ := Kd.jtb HR1.out x5_1 p530 q530
        cases e530
        replace p530 := eq_true p530
        replace q530 := eq_true q530
        go_wp2
        repeat (go_quiet (fail); try go_wp2)
        go_roundg k1
        case measure => have := HK1.out; omega
        case rel => exact ⟨(wrap64 (x5_1 + 1)), (sq), H', ⟨by have := HK1.out; omega⟩, Y7⟩
       ·rw [if_neg c7] at H
        have c7b0 : ((rd l0 x5_1) == (rd l1 x5_1)) = false := beq_eq_false_iff_ne.mpr c7
        have c7b1 : ((rd l0 x5_1) != (rd l1 x5_1)) = true := bne_iff_ne.mpr c7
        obtain rfl := Option.some.inj H
        have p529 : 0 ≤ (x5_1 : Int) := of_decide_eq_true (uq)
        have q529 : x5_1 < (l0.length : Int) := of_decide_eq_true (uq)
        obtain ⟨ad529, e529, hx529_0⟩ := Kd.jtb HR0.out x5_1 p529 q529
        cases e529
        replace p529 := eq_true p529
        replace q529 := eq_true q529
        have p530 : 0 ≤ (x5_1 : Int) := of_decide_eq_true (uq)
        have q530 : x5_1 < (l1.length : Int) := of_decide_eq_true (uq)
        obtain ⟨ad530, e530, hx530_0⟩ := Kd.jtb HR1.out x5_1 p530 q530
        cases e530
        replace p530 := eq_true p530
        replace q530 := eq_true q530
        go_wp2
        repeat (go_quiet (fail); try go_wp2)
        go_ret
        exact ⟨sq, Y7⟩
      ·rw [if_neg c6] at H
       exact absurd H (by simp)
     ·rw [if_neg c5] at H
      exact absurd H (by simp)
    ·rw [if_neg c4] at H
     have c4b0 : decide (x5_1 < (l0.length : Int)) = false := decide_eq_false c4
     clear c4
     obtain rfl := Option.some.inj H
     go_wp2
     repeat (go_quiet (fail); try go_wp2)
     go_ret
     exact ⟨sq, Y7⟩
 ·rw [if_neg c3] at H
  have c3b0 : ((l0.length : Int) == (l1.length : Int)) = false := beq_eq_false_iff_ne.mpr c3
  have c3b1 : ((l0.length : Int) != (l1.length : Int)) = true := bne_iff_ne.mpr c3
  have c3b2 : (l0.length == l1.length) = false := by first | simpa using c3 | (simp at c3 ⊢; omega)
  obtain rfl := Option.some.inj H
  go_enter Try.func10, Try.ntmps10
  go_wp2
  repeat (go_quiet (fail); try go_wp2)
  go_ret
  exact ⟨sq, Y7⟩
def jeb.f (k : Nat) (l0 : List Int) : Option ((List (S75)) × (List (S36)) × Int) := (jub.f l0).bind fun bt659 => ((jc.f k bt659.1 bt659.2 3).bind fun bt662 => (if bt662.1 = 0 then ((jFa.f k bt659.1 bt662.2).bind fun bt664 => (some (bt664.1, bt664.2.1, bt664.2.2.1))) else ((jT.f k bt659.1 bt662.2).bind fun bt672 => ((jc.f k bt659.1 bt672.2 3).bind fun bt677 => ((jc.f k bt659.1 bt677.2 3).bind fun bt679 => (if bt679.1 = 0 then (some (bt672.1, (([(⟨0, 12, 2, 0⟩ : S36), (⟨1, 7, 0, 0⟩ : S36), (⟨2, 5, 0, 0⟩ : S36), (⟨1, 10, 0, 0⟩ : S36), (⟨2, 1, 1, 0⟩ : S36)] : List (S36))), wrap64 (2 + bt677.1))) else (if bt679.1 = 1 then (some (bt672.1, (([(⟨0, 12, 1, 0⟩ : S36), (⟨1, 11, 1, 0⟩ : S36), (⟨2, 7, 0, 0⟩ : S36), (⟨3, 6, 0, 0⟩ : S36), (⟨2, 10, 0, 0⟩ : S36), (⟨3, 0, 0, 0⟩ : S36)] : List (S36))), wrap64 (2 + bt677.1))) else (some (bt672.1, (([(⟨0, 7, 0, 0⟩ : S36), (⟨1, 12, 1, 0⟩ : S36), (⟨2, 11, 1, 1⟩ : S36), (⟨3, 2, 0, 1⟩ : S36), (⟨0, 10, 0, 0⟩ : S36), (⟨1, 0, 0, 0⟩ : S36)] : List (S36))), wrap64 (2 + bt677.1))))))))))
set_option maxHeartbeats 8000000 in
set_option maxRecDepth 100000 in
theorem jeb.calls (k : Nat) (A0 : Option Addr) (c0 : Nat) (l0 : List Int) (r1 : List (S75)) (r2 : List (S36)) (r3 : Int) (w : World) (hr0 : Kd.C (Kd.int .u8) w A0 l0.length l0) (hc0 : l0.length ≤ c0) (h : jeb.f k l0 = some (r1, r2, r3)) :
  Calls Try.prog 14 #[.slice A0 l0.length c0] w fun e w' => ∃ v0_ v1_ : Value, e = .returned (.tuple #[.agg #[v0_], v1_, .int .i64 r3]) ∧ Kd.R k75 75 w' w.heap.size (fun _ => True) v0_ r1 ∧ Kd.Q k36 36 w' w.heap.size (fun _ => True) v1_ r2 ∧ Below w.heap.size w w' := by
 have hu25 := Try.underlying25
 have hu36 := Try.underlying36
 have HR0 := am hr0
 have HC0 := am hc0
 clear hr0 hc0
 have HB := am (Below.refl w.heap.size w)
 have H : ((jub.f l0).bind fun bt659 => ((jc.f k bt659.1 bt659.2 3).bind fun bt662 => (if bt662.1 = 0 then ((jFa.f k bt659.1 bt662.2).bind fun bt664 => (some (bt664.1, bt664.2.1, bt664.2.2.1))) else ((jT.f k bt659.1 bt662.2).bind fun bt672 => ((jc.f k bt659.1 bt672.2 3).bind fun bt677 => ((jc.f k bt659.1 bt677.2 3).bind fun bt679 => (if bt679.1 = 0 then (some (bt672.1, (([(⟨0, 12, 2, 0⟩ : S36), (⟨1, 7, 0, 0⟩ : S36), (⟨2, 5, 0, 0⟩ : S36), (⟨1, 10, 0, 0⟩ : S36), (⟨2, 1, 1, 0⟩ : S36)] : List (S36))), wrap64 (2 + bt677.1))) else (if bt679.1 = 1 then (some (bt672.1, (([(⟨0, 12, 1, 0⟩ : S36), (⟨1, 11, 1, 0⟩ : S36), (⟨2, 7, 0, 0⟩ : S36), (⟨3, 6, 0, 0⟩ : S36), (⟨2, 10, 0, 0⟩ : S36), (⟨3, 0, 0, 0⟩ : S36)] : List (S36))), wrap64 (2 + bt677.1))) else (some (bt672.1, (([(⟨0, 7, 0, 0⟩ : S36), (⟨1, 12, 1, 0⟩ : S36), (⟨2, 11, 1, 1⟩ : S36), (⟨3, 2, 0, 1⟩ : S36), (⟨0, 10, 0, 0⟩ : S36), (⟨1, 0, 0, 0⟩ : S36)] : List (S36))), wrap64 (2 + bt677.1))))))))))) = some (r1, r2, r3) := h
 clear h
 replace H := Option.bind_eq_some_iff.mp H
 obtain ⟨⟨t659, t660⟩, A20, H⟩ := H
 replace H : ((jc.f k t659 t660 3).bind fun bt662 => (if bt662.1 = 0 then ((jFa.f k t659 bt662.2).bind fun bt664 => (some (bt664.1, bt664.2.1, bt664.2.2.1))) else ((jT.f k t659 bt662.2).bind fun bt672 => ((jc.f k t659 bt672.2 3).bind fun bt677 => ((jc.f k t659 bt677.2 3).bind fun bt679 => (if bt679.1 = 0 then (some (bt672.1, (([(⟨0, 12, 2, 0⟩ : S36), (⟨1, 7, 0, 0⟩ : S36), (⟨2, 5, 0, 0⟩ : S36), (⟨1, 10, 0, 0⟩ : S36), (⟨2, 1, 1, 0⟩ : S36)] : List (S36))), wrap64 (2 + bt677.1))) else (if bt679.1 = 1 then (some (bt672.1, (([(⟨0, 12, 1, 0⟩ : S36), (⟨1, 11, 1, 0⟩ : S36), (⟨2, 7, 0, 0⟩ : S36), (⟨3, 6, 0, 0⟩ : S36), (⟨2, 10, 0, 0⟩ : S36), (⟨3, 0, 0, 0⟩ : S36)] : List (S36))), wrap64 (2 + bt677.1))) else (some (bt672.1, (([(⟨0, 7, 0, 0⟩ : S36), (⟨1, 12, 1, 0⟩ : S36), (⟨2, 11, 1, 1⟩ : S36), (⟨3, 2, 0, 1⟩ : S36), (⟨0, 10, 0, 0⟩ : S36), (⟨1, 0, 0, 0⟩ : S36)] : List (S36))), wrap64 (2 + bt677.1)))))))))) = some (r1, r2, r3) := H
 have A2 := am A20
 clear A20
 replace H := Option.bind_eq_some_iff.mp H
 obtain ⟨⟨t662, t663⟩, A30, H⟩ := H
 replace H : (if t662 = 0 then ((jFa.f k t659 t663).bind fun bt664 => (some (bt664.1, bt664.2.1, bt664.2.2.1))) else ((jT.f k t659 t663).bind fun bt672 => ((jc.f k t659 bt672.2 3).bind fun bt677 => ((jc.f k t659 bt677.2 3).bind fun bt679 => (if bt679.1 = 0 then (some (bt672.1, (([(⟨0, 12, 2, 0⟩ : S36), (⟨1, 7, 0, 0⟩ : S36), (⟨2, 5, 0, 0⟩ : S36), (⟨1, 10, 0, 0⟩ : S36), (⟨2, 1, 1, 0⟩ : S36)] : List (S36))), wrap64 (2 + bt677.1))) else (if bt679.1 = 1 then (some (bt672.1, (([(⟨0, 12, 1, 0⟩ : S36), (⟨1, 11, 1, 0⟩ : S36), (⟨2, 7, 0, 0⟩ : S36), (⟨3, 6, 0, 0⟩ : S36), (⟨2, 10, 0, 0⟩ : S36), (⟨3, 0, 0, 0⟩ : S36)] : List (S36))), wrap64 (2 + bt677.1))) else (some (bt672.1, (([(⟨0, 7, 0, 0⟩ : S36), (⟨1, 12, 1, 0⟩ : S36), (⟨2, 11, 1, 1⟩ : S36), (⟨3, 2, 0, 1⟩ : S36), (⟨0, 10, 0, 0⟩ : S36), (⟨1, 0, 0, 0⟩ : S36)] : List (S36))), wrap64 (2 + bt677.1))))))))) = some (r1, r2, r3) := H
 have A3 := am A30
 clear A30
 by_cases c4 : t662 = 0
 ·rw [if_pos c4] at H
  have c4b0 : (t662 == 0) = true := beq_iff_eq.mpr c4
  have c4b1 : (t662 != 0) = false := bne_eq_false_iff_eq.mpr c4
  clear c4
  replace H := Option.bind_eq_some_iff.mp H
  obtain ⟨⟨t664, t667, t670, t671⟩, A50, H⟩ := H
  replace H : (some (t664, t667, t670)) = some (r1, r2, r3) := H
  have A5 := am A50
  clear A50
  simp only [Option.some.injEq, Prod.mk.injEq] at H
  obtain ⟨rfl, rfl, rfl⟩ := H
  go_enter Try.func14, Try.ntmps14
  go_wp2_with (first | ((with_reducible refine jI (N := 2) rfl ?_); refine bE (N := 2) (cs := #[.slice none 0 0]) (t := 25) ?_; intro gb658 hg w6 hbox hb; have BK658 := am (hbox); have GW658 := am ((Y4 : w.heap.size ≤ gb658)); have GE658 := am ((Y4 : w.heap.size ≤ gb658)); replace HB := am (jf (bq) hb); clear hb hbox hg) | ((with_reducible refine jd (f := 30) rfl ?_); refine gL (some 9) Try.func30 #[.slice A0 l0.length c0] ?_; (with_reducible refine (jub.calls _ _ l0 t659 t660 w _ ?side1 ?side2 ?side3 A2.out).mono ?_); (case side1 => exact Y100); (case side2 => exact HR0.out); (case side3 => exact HC0.out); rintro e w7 ⟨g661, rfl, hi, hb, hb2⟩; refine ⟨_, rfl, ?_⟩; have HI661 := am (hi); have NB661_658 := am (jg.ne_blk hi (ji (g := gb658) (o := .cells #[.slice none 0 0] 25 (0, 0)) (kq BK658.out) hb2) (by decide)); have NB658_661 := am (Ne.symm (jg.ne_blk hi (ji (g := gb658) (o := .cells #[.slice none 0 0] 25 (0, 0)) (kq BK658.out) hb2) (by decide))); replace BK658 := am (ji (g := gb658) (o := .cells #[.slice none 0 0] 25 (0, 0)) (kq BK658.out) hb2); replace HB := am (hb); (try clear hb); (try clear hb2); (try clear hk); (try clear hi)) | ((with_reducible refine jd (f := 42) rfl ?_); refine gL (some 11) Try.func42 #[.pointer (some ⟨g661, 0, none⟩), .int .i64 3] ?_; (with_reducible refine (jc.calls k g661 t659 t660 3 t662 t663 w _ ?side1 ?side2 A3.out).mono ?_); (case side1 => exact Y44); (case side2 => exact Y29); rintro e w8 ⟨rfl, hi, hb, hk⟩; refine ⟨_, rfl, ?_⟩; replace BK658 := am (jb.blk hk (g' := gb658) (o := .cells #[.slice none 0 0] 25 (0, 0)) (kq BK658.out) NB658_661.out (by simp)); replace HB := am (hb); replace HI661 := am (hi); (try clear hb); (try clear hb2); (try clear hk); (try clear hi)) | ((with_reducible refine jd (f := 29) rfl ?_); refine gL (some 14) Try.func29 #[.pointer (some ⟨g661, 0, none⟩)] ?_; (with_reducible refine (jFa.calls k g661 t659 t663 t664 t667 t670 t671 w _ ?side1 ?side2 A5.out).mono ?_); (case side1 => exact Y44); (case side2 => exact Y29); rintro e w9 ⟨v665, v668, rfl, ho0, ho1, hi, hb, hk⟩; refine ⟨_, rfl, ?_⟩; have HO666 := am (Kd.jR ho0 (jK (Y29))); have HO669 := am (Kd.Q_lower ho1 (jK (Y29))); replace BK658 := am (jb.blk hk (g' := gb658) (o := .cells #[.slice none 0 0] 25 (0, 0)) (kq BK658.out) NB658_661.out (by simp)); replace HB := am (hb); replace HI661 := am (hi); (try clear hb); (try clear hb2); (try clear hk); (try clear hi); (try clear ho0); (try clear ho1); obtain ⟨Ao10, co10, eo10⟩ := Kd.jY HO666.out; subst eo10; have hnb11 := NB658_661.out; have hnc11 := NB661_658.out; have hcz12_0 := bc0 BK658.out; have hfz12_0 := ja BK658.out 0))
  refine bodyPost_ret (joc rfl _ _ gb658 25 #[.slice Ao10 t664.length co10] (0, 0) _ rfl (Y101) Try.underlying25 rfl (by kernel_rfl)) rfl ?_
  exact ⟨_, _, Y0, by (with_reducible repeat (first | apply Kd.jW | apply Kd.jV | apply Kd.jha)); exact Kd.jA (Kd.jFb (p := ⟨gb658, 0, none⟩) (Kd.jIa HO666.out BK658.out (by decide)) (fun _ hk => hk.2) (.slice Ao10 t664.length co10)) (fun _ hk => trivial), by (with_reducible repeat (first | apply Kd.jmc | apply Kd.jlc | apply Kd.juc)); exact Kd.jNc (Kd.Q_far (p := ⟨gb658, 0, none⟩) (Kd.Q_types HO669.out BK658.out (by decide)) (fun _ hk => hk.2) (.slice Ao10 t664.length co10)) (fun _ hk => trivial), Y29⟩
 ·rw [if_neg c4] at H
  have c4b0 : (t662 == 0) = false := beq_eq_false_iff_ne.mpr c4
  have c4b1 : (t662 != 0) = true := bne_iff_ne.mpr c4
  replace H := Option.bind_eq_some_iff.mp H
  obtain ⟨⟨t672, t675⟩, A130, H⟩ := H
  replace H : ((jc.f k t659 t675 3).bind fun bt677 => ((jc.f k t659 bt677.2 3).bind fun bt679 => (if bt679.1 = 0 then (some (t672, (([(⟨0, 12, 2, 0⟩ : S36), (⟨1, 7, 0, 0⟩ : S36), (⟨2, 5, 0, 0⟩ : S36), (⟨1, 10, 0, 0⟩ : S36), (⟨2, 1, 1, 0⟩ : S36)] : List (S36))), wrap64 (2 + bt677.1))) else (if bt679.1 = 1 then (some (t672, (([(⟨0, 12, 1, 0⟩ : S36), (⟨1, 11, 1, 0⟩ : S36), (⟨2, 7, 0, 0⟩ : S36), (⟨3, 6, 0, 0⟩ : S36), (⟨2, 10, 0, 0⟩ : S36), (⟨3, 0, 0, 0⟩ : S36)] : List (S36))), wrap64 (2 + bt677.1))) else (some (t672, (([(⟨0, 7, 0, 0⟩ : S36), (⟨1, 12, 1, 0⟩ : S36), (⟨2, 11, 1, 1⟩ : S36), (⟨3, 2, 0, 1⟩ : S36), (⟨0, 10, 0, 0⟩ : S36), (⟨1, 0, 0, 0⟩ : S36)] : List (S36))), wrap64 (2 + bt677.1))))))) = some (r1, r2, r3) := H
  have A13 := am A130
  clear A130
  replace H := Option.bind_eq_some_iff.mp H
  obtain ⟨⟨t677, t678⟩, A140, H⟩ := H
  replace H : ((jc.f k t659 t678 3).bind fun bt679 => (if bt679.1 = 0 then (some (t672, (([(⟨0, 12, 2, 0⟩ : S36), (⟨1, 7, 0, 0⟩ : S36), (⟨2, 5, 0, 0⟩ : S36), (⟨1, 10, 0, 0⟩ : S36), (⟨2, 1, 1, 0⟩ : S36)] : List (S36))), wrap64 (2 + t677))) else (if bt679.1 = 1 then (some (t672, (([(⟨0, 12, 1, 0⟩ : S36), (⟨1, 11, 1, 0⟩ : S36), (⟨2, 7, 0, 0⟩ : S36), (⟨3, 6, 0, 0⟩ : S36), (⟨2, 10, 0, 0⟩ : S36), (⟨3, 0, 0, 0⟩ : S36)] : List (S36))), wrap64 (2 + t677))) else (some (t672, (([(⟨0, 7, 0, 0⟩ : S36), (⟨1, 12, 1, 0⟩ : S36), (⟨2, 11, 1, 1⟩ : S36), (⟨3, 2, 0, 1⟩ : S36), (⟨0, 10, 0, 0⟩ : S36), (⟨1, 0, 0, 0⟩ : S36)] : List (S36))), wrap64 (2 + t677)))))) = some (r1, r2, r3) := H
  have A14 := am A140
  clear A140
  replace H := Option.bind_eq_some_iff.mp H
  obtain ⟨⟨t679, t680⟩, A150, H⟩ := H
  replace H : (if t679 = 0 then (some (t672, (([(⟨0, 12, 2, 0⟩ : S36), (⟨1, 7, 0, 0⟩ : S36), (⟨2, 5, 0, 0⟩ : S36), (⟨1, 10, 0, 0⟩ : S36), (⟨2, 1, 1, 0⟩ : S36)] : List (S36))), wrap64 (2 + t677))) else (if t679 = 1 then (some (t672, (([(⟨0, 12, 1, 0⟩ : S36), (⟨1, 11, 1, 0⟩ : S36), (⟨2, 7, 0, 0⟩ : S36), (⟨3, 6, 0, 0⟩ : S36), (⟨2, 10, 0, 0⟩ : S36), (⟨3, 0, 0, 0⟩ : S36)] : List (S36))), wrap64 (2 + t677))) else (some (t672, (([(⟨0, 7, 0, 0⟩ : S36), (⟨1, 12, 1, 0⟩ : S36), (⟨2, 11, 1, 1⟩ : S36), (⟨3, 2, 0, 1⟩ : S36), (⟨0, 10, 0, 0⟩ : S36), (⟨1, 0, 0, 0⟩ : S36)] : List (S36))), wrap64 (2 + t677))))) = some (r1, r2, r3) := H
  have A15 := am A150
  clear A150
  by_cases c16 : t679 = 0
  ·rw [if_pos c16] at H
   have c16b0 : (t679 == 0) = true := beq_iff_eq.mpr c16
   have c16b1 : (t679 != 0) = false := bne_eq_false_iff_eq.mpr c16
   clear c16
   obtain ⟨y681, hy681⟩ : ∃ y_ : List (S36), y_ = (([(⟨0, 12, 2, 0⟩ : S36), (⟨1, 7, 0, 0⟩ : S36), (⟨2, 5, 0, 0⟩ : S36), (⟨1, 10, 0, 0⟩ : S36), (⟨2, 1, 1, 0⟩ : S36)] : List (S36))) := ⟨_, rfl⟩
   replace H : (some (t672, y681, wrap64 (2 + t677))) = some (r1, r2, r3) := by first | (rw [hy681]; with_reducible exact H) | (have H2_ := (Option.bind_some _ _).symm.trans H; rw [hy681]; with_reducible exact H2_) | (have H2_ := (Option.bind_some _ _).symm.trans H; with_reducible exact H2_) | with_reducible exact H | (rw [hy681]; exact H) | exact H
   have Ny681 := am hy681
   clear hy681
   simp only [Option.some.injEq, Prod.mk.injEq] at H
   obtain ⟨rfl, rfl, rfl⟩ := H
   go_enter Try.func14, Try.ntmps14
   go_wp2_with (first | ((with_reducible refine jI (N := 2) rfl ?_); refine bE (N := 2) (cs := #[.slice none 0 0]) (t := 25) ?_; intro gb658 hg w17 hbox hb; have BK658 := am (hbox); have GW658 := am ((Y4 : w.heap.size ≤ gb658)); have GE658 := am ((Y4 : w.heap.size ≤ gb658)); replace HB := am (jf (bq) hb); clear hb hbox hg) | ((with_reducible refine jd (f := 30) rfl ?_); refine gL (some 9) Try.func30 #[.slice A0 l0.length c0] ?_; (with_reducible refine (jub.calls _ _ l0 t659 t660 w _ ?side1 ?side2 ?side3 A2.out).mono ?_); (case side1 => exact Y100); (case side2 => exact HR0.out); (case side3 => exact HC0.out); rintro e w18 ⟨g661, rfl, hi, hb, hb2⟩; refine ⟨_, rfl, ?_⟩; have HI661 := am (hi); have NB661_658 := am (jg.ne_blk hi (ji (g := gb658) (o := .cells #[.slice none 0 0] 25 (0, 0)) (kq BK658.out) hb2) (by decide)); have NB658_661 := am (Ne.symm (jg.ne_blk hi (ji (g := gb658) (o := .cells #[.slice none 0 0] 25 (0, 0)) (kq BK658.out) hb2) (by decide))); replace BK658 := am (ji (g := gb658) (o := .cells #[.slice none 0 0] 25 (0, 0)) (kq BK658.out) hb2); replace HB := am (hb); (try clear hb); (try clear hb2); (try clear hk); (try clear hi)) | ((with_reducible refine jd (f := 42) rfl ?_); refine gL (some 11) Try.func42 #[.pointer (some ⟨g661, 0, none⟩), .int .i64 3] ?_; (with_reducible refine (jc.calls k g661 t659 t660 3 t662 t663 w _ ?side1 ?side2 A3.out).mono ?_); (case side1 => exact Y44); (case side2 => exact Y29); rintro e w19 ⟨rfl, hi, hb, hk⟩; refine ⟨_, rfl, ?_⟩; replace BK658 := am (jb.blk hk (g' := gb658) (o := .cells #[.slice none 0 0] 25 (0, 0)) (kq BK658.out) NB658_661.out (by simp)); replace HB := am (hb); replace HI661 := am (hi); (try clear hb); (try clear hb2); (try clear hk); (try clear hi)) | ((with_reducible refine jd (f := 43) rfl ?_); refine gL (some 19) Try.func43 #[.pointer (some ⟨g661, 0, none⟩)] ?_; (with_reducible refine (jT.calls k g661 t659 t663 t672 t675 w _ ?side1 ?side2 A13.out).mono ?_); (case side1 => exact Y44); (case side2 => exact Y29); rintro e w20 ⟨v673, rfl, ho0, hi, hb, hk⟩; refine ⟨_, rfl, ?_⟩; have HO674 := am (Kd.jR ho0 (jK (Y29))); replace BK658 := am (jb.blk hk (g' := gb658) (o := .cells #[.slice none 0 0] 25 (0, 0)) (kq BK658.out) NB658_661.out (by simp)); replace HB := am (hb); replace HI661 := am (hi); (try clear hb); (try clear hb2); (try clear hk); (try clear hi); (try clear ho0)) | ((with_reducible refine jI (N := 6) rfl ?_); refine bE (N := 6) (cs := #[.slice none 0 0]) (t := 25) ?_; intro gb676 hg w21 hbox hb; have BK676 := am (hbox); have GW676 := am ((Y76 : w.heap.size ≤ gb676)); have GE676 := am ((Y76 : w.heap.size ≤ gb676)); have NB658_676 := am ((Y107 : gb658 ≠ gb676)); have NB676_658 := am ((Y108 : gb676 ≠ gb658)); have NB661_676 := am ((Y109 : g661 ≠ gb676)); have NB676_661 := am ((Y110 : gb676 ≠ g661)); replace HO674 := am (Kd.jfa (rq HO674.out) hb); replace BK658 := am (ji (g := gb658) (o := .cells #[.slice none 0 0] 25 (0, 0)) (kq BK658.out) hb); replace HB := am (jf (Y29) hb); replace HI661 := am (jg.below (Y44) hb); clear hb hbox hg; obtain ⟨Ao22, co22, eo22⟩ := Kd.jY HO674.out; subst eo22; have hnb23 := NB676_658.out; have hnc23 := NB658_676.out; have hnb24 := NB676_661.out; have hnc24 := NB661_676.out; have hcz25_0 := bc0 BK676.out; have hfz25_0 := ja BK676.out 0) | ((with_reducible refine jd (f := 42) rfl ?_); refine gL (some 21) Try.func42 #[.pointer (some ⟨g661, 0, none⟩), .int .i64 3] ?_; (with_reducible refine (jc.calls k g661 t659 t675 3 t677 t678 w _ ?side1 ?side2 A14.out).mono ?_); (case side1 => exact Y34); (case side2 => exact Y35); rintro e w26 ⟨rfl, hi, hb, hk⟩; refine ⟨_, rfl, ?_⟩; replace BK658 := am (jb.blk hk (g' := gb658) (o := .cells #[.slice none 0 0] 25 (0, 0)) (Y111) NB658_661.out (by simp)); replace HO674 := am (Kd.jA (Kd.jta (jg.apart (show jg w _ g661 t659 t675 from Y34) (by (with_reducible repeat (first | apply Kd.jW | apply Kd.jV | apply Kd.jha)); exact (Kd.jA (Kd.jFb (p := ⟨gb676, 0, none⟩) (Kd.jIa HO674.out BK676.out (by decide)) (fun _ hk => hk.2) (.slice Ao22 t672.length co22)) (fun _ h_ => h_.1))) (by decide)) hk (fun _ h => h.2)) (fun _ h => h.1)); replace BK676 := am (jb.blk hk (g' := gb676) (o := .cells #[.slice Ao22 t672.length co22] 25 (0, 0)) (Y112) NB676_661.out (by simp)); replace HB := am (hb); replace HI661 := am (hi); (try clear hb); (try clear hb2); (try clear hk); (try clear hi)) | ((with_reducible refine jd (f := 42) rfl ?_); refine gL (some 24) Try.func42 #[.pointer (some ⟨g661, 0, none⟩), .int .i64 3] ?_; (with_reducible refine (jc.calls k g661 t659 t678 3 t679 t680 w _ ?side1 ?side2 A15.out).mono ?_); (case side1 => exact Y34); (case side2 => exact Y35); rintro e w27 ⟨rfl, hi, hb, hk⟩; refine ⟨_, rfl, ?_⟩; replace BK658 := am (jb.blk hk (g' := gb658) (o := .cells #[.slice none 0 0] 25 (0, 0)) (kq BK658.out) NB658_661.out (by simp)); replace HO674 := am (Kd.jA (Kd.jta (jg.apart (show jg w _ g661 t659 t678 from Y34) (rq HO674.out) (by decide)) hk (fun _ h => h.2)) (fun _ h => h.1)); replace BK676 := am (jb.blk hk (g' := gb676) (o := .cells #[.slice Ao22 t672.length co22] 25 (0, 0)) (kq BK676.out) NB676_661.out (by simp)); replace HB := am (hb); replace HI661 := am (hi); (try clear hb); (try clear hb2); (try clear hk); (try clear hi); have hcz28_0 := bc0 BK676.out; have hfz28_0 := ja BK676.out 0) | ((with_reducible refine jI (N := 33) rfl ?_); refine Kd.jXb k36 _ 36 ?hg (N := 33) ?hd (xs := ([(⟨0, 12, 2, 0⟩ : S36), (⟨1, 7, 0, 0⟩ : S36), (⟨2, 5, 0, 0⟩ : S36), (⟨1, 10, 0, 0⟩ : S36), (⟨2, 1, 1, 0⟩ : S36)] : List (S36))) (inner := [.int .i64 0, .int .i64 12, .int .i64 2, .int .i64 0, .int .i64 1, .int .i64 7, .int .i64 0, .int .i64 0, .int .i64 2, .int .i64 5, .int .i64 0, .int .i64 0, .int .i64 1, .int .i64 10, .int .i64 0, .int .i64 0, .int .i64 2, .int .i64 1, .int .i64 1, .int .i64 0]) (ok := fun _ => True) (okp := fun _ => True) ?hr ?hp (fun _ hk => hk) trivial (Below.refl _ _) (Nat.le_refl _) (by simp) ?_; (case hd => rfl); (case hg => rfl); (case hr => exact Y5); (case hp => exact (Reps.c4 (show Kd.M k36 _ _ _ (⟨0, 12, 2, 0⟩ : S36) [.int .i64 0, .int .i64 12, .int .i64 2, .int .i64 0] from (jVa _ _ _ (⟨0, 12, 2, 0⟩ : S36) )) (Reps.c4 (show Kd.M k36 _ _ _ (⟨1, 7, 0, 0⟩ : S36) [.int .i64 1, .int .i64 7, .int .i64 0, .int .i64 0] from (jVa _ _ _ (⟨1, 7, 0, 0⟩ : S36) )) (Reps.c4 (show Kd.M k36 _ _ _ (⟨2, 5, 0, 0⟩ : S36) [.int .i64 2, .int .i64 5, .int .i64 0, .int .i64 0] from (jVa _ _ _ (⟨2, 5, 0, 0⟩ : S36) )) (Reps.c4 (show Kd.M k36 _ _ _ (⟨1, 10, 0, 0⟩ : S36) [.int .i64 1, .int .i64 10, .int .i64 0, .int .i64 0] from (jVa _ _ _ (⟨1, 10, 0, 0⟩ : S36) )) (Reps.c4 (show Kd.M k36 _ _ _ (⟨2, 1, 1, 0⟩ : S36) [.int .i64 2, .int .i64 1, .int .i64 1, .int .i64 0] from (jVa _ _ _ (⟨2, 1, 1, 0⟩ : S36) )) (Reps.none _ _))))))); intro v682 w29 ho30 hb hg_ hnew_; clear hg_ hnew_; (first | rw [← Ny681.out] at ho30 | (simp only [Int.reduceToNat] at ho30; rw [← Ny681.out] at ho30)); have HO683 := am (Kd.jR ho30 (jK (Y35))); replace HO674 := am (Kd.jfa (rq HO674.out) hb); replace BK658 := am (ji (g := gb658) (o := .cells #[.slice none 0 0] 25 (0, 0)) (kq BK658.out) hb); replace BK676 := am (ji (g := gb676) (o := .cells #[.slice Ao22 t672.length co22] 25 (0, 0)) (kq BK676.out) hb); replace HB := am (jf (Y35) hb); replace HI661 := am (jg.below (Y34) hb); clear hb ho30; have hnb31 := NB658_661.out; have hnc31 := NB661_658.out; have hcz32_0 := bc0 BK658.out; have hfz32_0 := ja BK658.out 0))
   refine bodyPost_ret (joc rfl _ _ gb658 25 #[.slice Ao22 t672.length co22] (0, 0) _ rfl (Y101) Try.underlying25 rfl (by kernel_rfl)) rfl ?_
   exact ⟨_, _, Y0, by (with_reducible repeat (first | apply Kd.jW | apply Kd.jV | apply Kd.jha)); exact Kd.jA (Kd.jFb (p := ⟨gb658, 0, none⟩) (Kd.jIa HO674.out BK658.out (by decide)) (fun _ hk => hk.2) (.slice Ao22 t672.length co22)) (fun _ hk => trivial), Kd.Q_of_R (by (with_reducible repeat (first | apply Kd.jW | apply Kd.jV | apply Kd.jha)); exact Kd.jA (Kd.jFb (p := ⟨gb658, 0, none⟩) (Kd.jIa HO683.out BK658.out (by decide)) (fun _ hk => hk.2) (.slice Ao22 t672.length co22)) (fun _ hk => trivial)), Y35⟩
  ·rw [if_neg c16] at H
   have c16b0 : (t679 == 0) = false := beq_eq_false_iff_ne.mpr c16
   have c16b1 : (t679 != 0) = true := bne_iff_ne.mpr c16
   by_cases c33 : t679 = 1
   ·rw [if_pos c33] at H
    have c33b0 : (t679 == 1) = true := beq_iff_eq.mpr c33
    have c33b1 : (t679 != 1) = false := bne_eq_false_iff_eq.mpr c33
    clear c33
    obtain ⟨y684, hy684⟩ : ∃ y_ : List (S36), y_ = (([(⟨0, 12, 1, 0⟩ : S36), (⟨1, 11, 1, 0⟩ : S36), (⟨2, 7, 0, 0⟩ : S36), (⟨3, 6, 0, 0⟩ : S36), (⟨2, 10, 0, 0⟩ : S36), (⟨3, 0, 0, 0⟩ : S36)] : List (S36))) := ⟨_, rfl⟩
    replace H : (some (t672, y684, wrap64 (2 + t677))) = some (r1, r2, r3) := by first | (rw [hy684]; with_reducible exact H) | (have H2_ := (Option.bind_some _ _).symm.trans H; rw [hy684]; with_reducible exact H2_) | (have H2_ := (Option.bind_some _ _).symm.trans H; with_reducible exact H2_) | with_reducible exact H | (rw [hy684]; exact H) | exact H
    have Ny684 := am hy684
    clear hy684
    simp only [Option.some.injEq, Prod.mk.injEq] at H
    obtain ⟨rfl, rfl, rfl⟩ := H
    go_enter Try.func14, Try.ntmps14
    go_wp2_with (first | ((with_reducible refine jI (N := 2) rfl ?_); refine bE (N := 2) (cs := #[.slice none 0 0]) (t := 25) ?_; intro gb658 hg w34 hbox hb; have BK658 := am (hbox); have GW658 := am ((Y4 : w.heap.size ≤ gb658)); have GE658 := am ((Y4 : w.heap.size ≤ gb658)); replace HB := am (jf (bq) hb); clear hb hbox hg) | ((with_reducible refine jd (f := 30) rfl ?_); refine gL (some 9) Try.func30 #[.slice A0 l0.length c0] ?_; (with_reducible refine (jub.calls _ _ l0 t659 t660 w _ ?side1 ?side2 ?side3 A2.out).mono ?_); (case side1 => exact Y100); (case side2 => exact HR0.out); (case side3 => exact HC0.out); rintro e w35 ⟨g661, rfl, hi, hb, hb2⟩; refine ⟨_, rfl, ?_⟩; have HI661 := am (hi); have NB661_658 := am (jg.ne_blk hi (ji (g := gb658) (o := .cells #[.slice none 0 0] 25 (0, 0)) (kq BK658.out) hb2) (by decide)); have NB658_661 := am (Ne.symm (jg.ne_blk hi (ji (g := gb658) (o := .cells #[.slice none 0 0] 25 (0, 0)) (kq BK658.out) hb2) (by decide))); replace BK658 := am (ji (g := gb658) (o := .cells #[.slice none 0 0] 25 (0, 0)) (kq BK658.out) hb2); replace HB := am (hb); (try clear hb); (try clear hb2); (try clear hk); (try clear hi)) | ((with_reducible refine jd (f := 42) rfl ?_); refine gL (some 11) Try.func42 #[.pointer (some ⟨g661, 0, none⟩), .int .i64 3] ?_; (with_reducible refine (jc.calls k g661 t659 t660 3 t662 t663 w _ ?side1 ?side2 A3.out).mono ?_); (case side1 => exact Y44); (case side2 => exact Y29); rintro e w36 ⟨rfl, hi, hb, hk⟩; refine ⟨_, rfl, ?_⟩; replace BK658 := am (jb.blk hk (g' := gb658) (o := .cells #[.slice none 0 0] 25 (0, 0)) (kq BK658.out) NB658_661.out (by simp)); replace HB := am (hb); replace HI661 := am (hi); (try clear hb); (try clear hb2); (try clear hk); (try clear hi)) | ((with_reducible refine jd (f := 43) rfl ?_); refine gL (some 19) Try.func43 #[.pointer (some ⟨g661, 0, none⟩)] ?_; (with_reducible refine (jT.calls k g661 t659 t663 t672 t675 w _ ?side1 ?side2 A13.out).mono ?_); (case side1 => exact Y44); (case side2 => exact Y29); rintro e w37 ⟨v673, rfl, ho0, hi, hb, hk⟩; refine ⟨_, rfl, ?_⟩; have HO674 := am (Kd.jR ho0 (jK (Y29))); replace BK658 := am (jb.blk hk (g' := gb658) (o := .cells #[.slice none 0 0] 25 (0, 0)) (kq BK658.out) NB658_661.out (by simp)); replace HB := am (hb); replace HI661 := am (hi); (try clear hb); (try clear hb2); (try clear hk); (try clear hi); (try clear ho0)) | ((with_reducible refine jI (N := 6) rfl ?_); refine bE (N := 6) (cs := #[.slice none 0 0]) (t := 25) ?_; intro gb676 hg w38 hbox hb; have BK676 := am (hbox); have GW676 := am ((Y76 : w.heap.size ≤ gb676)); have GE676 := am ((Y76 : w.heap.size ≤ gb676)); have NB658_676 := am ((Y107 : gb658 ≠ gb676)); have NB676_658 := am ((Y108 : gb676 ≠ gb658)); have NB661_676 := am ((Y109 : g661 ≠ gb676)); have NB676_661 := am ((Y110 : gb676 ≠ g661)); replace HO674 := am (Kd.jfa (rq HO674.out) hb); replace BK658 := am (ji (g := gb658) (o := .cells #[.slice none 0 0] 25 (0, 0)) (kq BK658.out) hb); replace HB := am (jf (Y29) hb); replace HI661 := am (jg.below (Y44) hb); clear hb hbox hg; obtain ⟨Ao39, co39, eo39⟩ := Kd.jY HO674.out; subst eo39; have hnb40 := NB676_658.out; have hnc40 := NB658_676.out; have hnb41 := NB676_661.out; have hnc41 := NB661_676.out; have hcz42_0 := bc0 BK676.out; have hfz42_0 := ja BK676.out 0) | ((with_reducible refine jd (f := 42) rfl ?_); refine gL (some 21) Try.func42 #[.pointer (some ⟨g661, 0, none⟩), .int .i64 3] ?_; (with_reducible refine (jc.calls k g661 t659 t675 3 t677 t678 w _ ?side1 ?side2 A14.out).mono ?_); (case side1 => exact Y34); (case side2 => exact Y35); rintro e w43 ⟨rfl, hi, hb, hk⟩; refine ⟨_, rfl, ?_⟩; replace BK658 := am (jb.blk hk (g' := gb658) (o := .cells #[.slice none 0 0] 25 (0, 0)) (Y111) NB658_661.out (by simp)); replace HO674 := am (Kd.jA (Kd.jta (jg.apart (show jg w _ g661 t659 t675 from Y34) (by (with_reducible repeat (first | apply Kd.jW | apply Kd.jV | apply Kd.jha)); exact (Kd.jA (Kd.jFb (p := ⟨gb676, 0, none⟩) (Kd.jIa HO674.out BK676.out (by decide)) (fun _ hk => hk.2) (.slice Ao39 t672.length co39)) (fun _ h_ => h_.1))) (by decide)) hk (fun _ h => h.2)) (fun _ h => h.1)); replace BK676 := am (jb.blk hk (g' := gb676) (o := .cells #[.slice Ao39 t672.length co39] 25 (0, 0)) (Y112) NB676_661.out (by simp)); replace HB := am (hb); replace HI661 := am (hi); (try clear hb); (try clear hb2); (try clear hk); (try clear hi)) | ((with_reducible refine jd (f := 42) rfl ?_); refine gL (some 24) Try.func42 #[.pointer (some ⟨g661, 0, none⟩), .int .i64 3] ?_; (with_reducible refine (jc.calls k g661 t659 t678 3 t679 t680 w _ ?side1 ?side2 A15.out).mono ?_); (case side1 => exact Y34); (case side2 => exact Y35); rintro e w44 ⟨rfl, hi, hb, hk⟩; refine ⟨_, rfl, ?_⟩; replace BK658 := am (jb.blk hk (g' := gb658) (o := .cells #[.slice none 0 0] 25 (0, 0)) (kq BK658.out) NB658_661.out (by simp)); replace HO674 := am (Kd.jA (Kd.jta (jg.apart (show jg w _ g661 t659 t678 from Y34) (rq HO674.out) (by decide)) hk (fun _ h => h.2)) (fun _ h => h.1)); replace BK676 := am (jb.blk hk (g' := gb676) (o := .cells #[.slice Ao39 t672.length co39] 25 (0, 0)) (kq BK676.out) NB676_661.out (by simp)); replace HB := am (hb); replace HI661 := am (hi); (try clear hb); (try clear hb2); (try clear hk); (try clear hi); have hcz45_0 := bc0 BK676.out; have hfz45_0 := ja BK676.out 0) | ((with_reducible refine jI (N := 44) rfl ?_); refine Kd.jXb k36 _ 36 ?hg (N := 44) ?hd (xs := ([(⟨0, 12, 1, 0⟩ : S36), (⟨1, 11, 1, 0⟩ : S36), (⟨2, 7, 0, 0⟩ : S36), (⟨3, 6, 0, 0⟩ : S36), (⟨2, 10, 0, 0⟩ : S36), (⟨3, 0, 0, 0⟩ : S36)] : List (S36))) (inner := [.int .i64 0, .int .i64 12, .int .i64 1, .int .i64 0, .int .i64 1, .int .i64 11, .int .i64 1, .int .i64 0, .int .i64 2, .int .i64 7, .int .i64 0, .int .i64 0, .int .i64 3, .int .i64 6, .int .i64 0, .int .i64 0, .int .i64 2, .int .i64 10, .int .i64 0, .int .i64 0, .int .i64 3, .int .i64 0, .int .i64 0, .int .i64 0]) (ok := fun _ => True) (okp := fun _ => True) ?hr ?hp (fun _ hk => hk) trivial (Below.refl _ _) (Nat.le_refl _) (by simp) ?_; (case hd => rfl); (case hg => rfl); (case hr => exact Y5); (case hp => exact (Reps.c4 (show Kd.M k36 _ _ _ (⟨0, 12, 1, 0⟩ : S36) [.int .i64 0, .int .i64 12, .int .i64 1, .int .i64 0] from (jVa _ _ _ (⟨0, 12, 1, 0⟩ : S36) )) (Reps.c4 (show Kd.M k36 _ _ _ (⟨1, 11, 1, 0⟩ : S36) [.int .i64 1, .int .i64 11, .int .i64 1, .int .i64 0] from (jVa _ _ _ (⟨1, 11, 1, 0⟩ : S36) )) (Reps.c4 (show Kd.M k36 _ _ _ (⟨2, 7, 0, 0⟩ : S36) [.int .i64 2, .int .i64 7, .int .i64 0, .int .i64 0] from (jVa _ _ _ (⟨2, 7, 0, 0⟩ : S36) )) (Reps.c4 (show Kd.M k36 _ _ _ (⟨3, 6, 0, 0⟩ : S36) [.int .i64 3, .int .i64 6, .int .i64 0, .int .i64 0] from (jVa _ _ _ (⟨3, 6, 0, 0⟩ : S36) )) (Reps.c4 (show Kd.M k36 _ _ _ (⟨2, 10, 0, 0⟩ : S36) [.int .i64 2, .int .i64 10, .int .i64 0, .int .i64 0] from (jVa _ _ _ (⟨2, 10, 0, 0⟩ : S36) )) (Reps.c4 (show Kd.M k36 _ _ _ (⟨3, 0, 0, 0⟩ : S36) [.int .i64 3, .int .i64 0, .int .i64 0, .int .i64 0] from (jVa _ _ _ (⟨3, 0, 0, 0⟩ : S36) )) (Reps.none _ _)))))))); intro v685 w46 ho47 hb hg_ hnew_; clear hg_ hnew_; (first | rw [← Ny684.out] at ho47 | (simp only [Int.reduceToNat] at ho47; rw [← Ny684.out] at ho47)); have HO686 := am (Kd.jR ho47 (jK (Y35))); replace HO674 := am (Kd.jfa (rq HO674.out) hb); replace BK658 := am (ji (g := gb658) (o := .cells #[.slice none 0 0] 25 (0, 0)) (kq BK658.out) hb); replace BK676 := am (ji (g := gb676) (o := .cells #[.slice Ao39 t672.length co39] 25 (0, 0)) (kq BK676.out) hb); replace HB := am (jf (Y35) hb); replace HI661 := am (jg.below (Y34) hb); clear hb ho47; have hnb48 := NB658_661.out; have hnc48 := NB661_658.out; have hcz49_0 := bc0 BK658.out; have hfz49_0 := ja BK658.out 0))
    refine bodyPost_ret (joc rfl _ _ gb658 25 #[.slice Ao39 t672.length co39] (0, 0) _ rfl (Y101) Try.underlying25 rfl (by kernel_rfl)) rfl ?_
    exact ⟨_, _, Y0, by (with_reducible repeat (first | apply Kd.jW | apply Kd.jV | apply Kd.jha)); exact Kd.jA (Kd.jFb (p := ⟨gb658, 0, none⟩) (Kd.jIa HO674.out BK658.out (by decide)) (fun _ hk => hk.2) (.slice Ao39 t672.length co39)) (fun _ hk => trivial), Kd.Q_of_R (by (with_reducible repeat (first | apply Kd.jW | apply Kd.jV | apply Kd.jha)); exact Kd.jA (Kd.jFb (p := ⟨gb658, 0, none⟩) (Kd.jIa HO686.out BK658.out (by decide)) (fun _ hk => hk.2) (.slice Ao39 t672.length co39)) (fun _ hk => trivial)), Y35⟩
   ·rw [if_neg c33] at H
    have c33b0 : (t679 == 1) = false := beq_eq_false_iff_ne.mpr c33
    have c33b1 : (t679 != 1) = true := bne_iff_ne.mpr c33
    obtain ⟨y687, hy687⟩ : ∃ y_ : List (S36), y_ = (([(⟨0, 7, 0, 0⟩ : S36), (⟨1, 12, 1, 0⟩ : S36), (⟨2, 11, 1, 1⟩ : S36), (⟨3, 2, 0, 1⟩ : S36), (⟨0, 10, 0, 0⟩ : S36), (⟨1, 0, 0, 0⟩ : S36)] : List (S36))) := ⟨_, rfl⟩
    replace H : (some (t672, y687, wrap64 (2 + t677))) = some (r1, r2, r3) := by first | (rw [hy687]; with_reducible exact H) | (have H2_ := (Option.bind_some _ _).symm.trans H; rw [hy687]; with_reducible exact H2_) | (have H2_ := (Option.bind_some _ _).symm.trans H; with_reducible exact H2_) | with_reducible exact H | (rw [hy687]; exact H) | exact H
    have Ny687 := am hy687
    clear hy687
    simp only [Option.some.injEq, Prod.mk.injEq] at H
    obtain ⟨rfl, rfl, rfl⟩ := H
    go_enter Try.func14, Try.ntmps14
    go_wp2_with (first | ((with_reducible refine jI (N := 2) rfl ?_); refine bE (N := 2) (cs := #[.slice none 0 0]) (t := 25) ?_; intro gb658 hg w50 hbox hb; have BK658 := am (hbox); have GW658 := am ((Y4 : w.heap.size ≤ gb658)); have GE658 := am ((Y4 : w.heap.size ≤ gb658)); replace HB := am (jf (bq) hb); clear hb hbox hg) | ((with_reducible refine jd (f := 30) rfl ?_); refine gL (some 9) Try.func30 #[.slice A0 l0.length c0] ?_; (with_reducible refine (jub.calls _ _ l0 t659 t660 w _ ?side1 ?side2 ?side3 A2.out).mono ?_); (case side1 => exact Y100); (case side2 => exact HR0.out); (case side3 => exact HC0.out); rintro e w51 ⟨g661, rfl, hi, hb, hb2⟩; refine ⟨_, rfl, ?_⟩; have HI661 := am (hi); have NB661_658 := am (jg.ne_blk hi (ji (g := gb658) (o := .cells #[.slice none 0 0] 25 (0, 0)) (kq BK658.out) hb2) (by decide)); have NB658_661 := am (Ne.symm (jg.ne_blk hi (ji (g := gb658) (o := .cells #[.slice none 0 0] 25 (0, 0)) (kq BK658.out) hb2) (by decide))); replace BK658 := am (ji (g := gb658) (o := .cells #[.slice none 0 0] 25 (0, 0)) (kq BK658.out) hb2); replace HB := am (hb); (try clear hb); (try clear hb2); (try clear hk); (try clear hi)) | ((with_reducible refine jd (f := 42) rfl ?_); refine gL (some 11) Try.func42 #[.pointer (some ⟨g661, 0, none⟩), .int .i64 3] ?_; (with_reducible refine (jc.calls k g661 t659 t660 3 t662 t663 w _ ?side1 ?side2 A3.out).mono ?_); (case side1 => exact Y44); (case side2 => exact Y29); rintro e w52 ⟨rfl, hi, hb, hk⟩; refine ⟨_, rfl, ?_⟩; replace BK658 := am (jb.blk hk (g' := gb658) (o := .cells #[.slice none 0 0] 25 (0, 0)) (kq BK658.out) NB658_661.out (by simp)); replace HB := am (hb); replace HI661 := am (hi); (try clear hb); (try clear hb2); (try clear hk); (try clear hi)) | ((with_reducible refine jd (f := 43) rfl ?_); refine gL (some 19) Try.func43 #[.pointer (some ⟨g661, 0, none⟩)] ?_; (with_reducible refine (jT.calls k g661 t659 t663 t672 t675 w _ ?side1 ?side2 A13.out).mono ?_); (case side1 => exact Y44); (case side2 => exact Y29); rintro e w53 ⟨v673, rfl, ho0, hi, hb, hk⟩; refine ⟨_, rfl, ?_⟩; have HO674 := am (Kd.jR ho0 (jK (Y29))); replace BK658 := am (jb.blk hk (g' := gb658) (o := .cells #[.slice none 0 0] 25 (0, 0)) (kq BK658.out) NB658_661.out (by simp)); replace HB := am (hb); replace HI661 := am (hi); (try clear hb); (try clear hb2); (try clear hk); (try clear hi); (try clear ho0)) | ((with_reducible refine jI (N := 6) rfl ?_); refine bE (N := 6) (cs := #[.slice none 0 0]) (t := 25) ?_; intro gb676 hg w54 hbox hb; have BK676 := am (hbox); have GW676 := am ((Y76 : w.heap.size ≤ gb676)); have GE676 := am ((Y76 : w.heap.size ≤ gb676)); have NB658_676 := am ((Y107 : gb658 ≠ gb676)); have NB676_658 := am ((Y108 : gb676 ≠ gb658)); have NB661_676 := am ((Y109 : g661 ≠ gb676)); have NB676_661 := am ((Y110 : gb676 ≠ g661)); replace HO674 := am (Kd.jfa (rq HO674.out) hb); replace BK658 := am (ji (g := gb658) (o := .cells #[.slice none 0 0] 25 (0, 0)) (kq BK658.out) hb); replace HB := am (jf (Y29) hb); replace HI661 := am (jg.below (Y44) hb); clear hb hbox hg; obtain ⟨Ao55, co55, eo55⟩ := Kd.jY HO674.out; subst eo55; have hnb56 := NB676_658.out; have hnc56 := NB658_676.out; have hnb57 := NB676_661.out; have hnc57 := NB661_676.out; have hcz58_0 := bc0 BK676.out; have hfz58_0 := ja BK676.out 0) | ((with_reducible refine jd (f := 42) rfl ?_); refine gL (some 21) Try.func42 #[.pointer (some ⟨g661, 0, none⟩), .int .i64 3] ?_; (with_reducible refine (jc.calls k g661 t659 t675 3 t677 t678 w _ ?side1 ?side2 A14.out).mono ?_); (case side1 => exact Y34); (case side2 => exact Y35); rintro e w59 ⟨rfl, hi, hb, hk⟩; refine ⟨_, rfl, ?_⟩; replace BK658 := am (jb.blk hk (g' := gb658) (o := .cells #[.slice none 0 0] 25 (0, 0)) (Y111) NB658_661.out (by simp)); replace HO674 := am (Kd.jA (Kd.jta (jg.apart (show jg w _ g661 t659 t675 from Y34) (by (with_reducible repeat (first | apply Kd.jW | apply Kd.jV | apply Kd.jha)); exact (Kd.jA (Kd.jFb (p := ⟨gb676, 0, none⟩) (Kd.jIa HO674.out BK676.out (by decide)) (fun _ hk => hk.2) (.slice Ao55 t672.length co55)) (fun _ h_ => h_.1))) (by decide)) hk (fun _ h => h.2)) (fun _ h => h.1)); replace BK676 := am (jb.blk hk (g' := gb676) (o := .cells #[.slice Ao55 t672.length co55] 25 (0, 0)) (Y112) NB676_661.out (by simp)); replace HB := am (hb); replace HI661 := am (hi); (try clear hb); (try clear hb2); (try clear hk); (try clear hi)) | ((with_reducible refine jd (f := 42) rfl ?_); refine gL (some 24) Try.func42 #[.pointer (some ⟨g661, 0, none⟩), .int .i64 3] ?_; (with_reducible refine (jc.calls k g661 t659 t678 3 t679 t680 w _ ?side1 ?side2 A15.out).mono ?_); (case side1 => exact Y34); (case side2 => exact Y35); rintro e w60 ⟨rfl, hi, hb, hk⟩; refine ⟨_, rfl, ?_⟩; replace BK658 := am (jb.blk hk (g' := gb658) (o := .cells #[.slice none 0 0] 25 (0, 0)) (kq BK658.out) NB658_661.out (by simp)); replace HO674 := am (Kd.jA (Kd.jta (jg.apart (show jg w _ g661 t659 t678 from Y34) (rq HO674.out) (by decide)) hk (fun _ h => h.2)) (fun _ h => h.1)); replace BK676 := am (jb.blk hk (g' := gb676) (o := .cells #[.slice Ao55 t672.length co55] 25 (0, 0)) (kq BK676.out) NB676_661.out (by simp)); replace HB := am (hb); replace HI661 := am (hi); (try clear hb); (try clear hb2); (try clear hk); (try clear hi); have hcz61_0 := bc0 BK676.out; have hfz61_0 := ja BK676.out 0) | ((with_reducible refine jI (N := 53) rfl ?_); refine Kd.jXb k36 _ 36 ?hg (N := 53) ?hd (xs := ([(⟨0, 7, 0, 0⟩ : S36), (⟨1, 12, 1, 0⟩ : S36), (⟨2, 11, 1, 1⟩ : S36), (⟨3, 2, 0, 1⟩ : S36), (⟨0, 10, 0, 0⟩ : S36), (⟨1, 0, 0, 0⟩ : S36)] : List (S36))) (inner := [.int .i64 0, .int .i64 7, .int .i64 0, .int .i64 0, .int .i64 1, .int .i64 12, .int .i64 1, .int .i64 0, .int .i64 2, .int .i64 11, .int .i64 1, .int .i64 1, .int .i64 3, .int .i64 2, .int .i64 0, .int .i64 1, .int .i64 0, .int .i64 10, .int .i64 0, .int .i64 0, .int .i64 1, .int .i64 0, .int .i64 0, .int .i64 0]) (ok := fun _ => True) (okp := fun _ => True) ?hr ?hp (fun _ hk => hk) trivial (Below.refl _ _) (Nat.le_refl _) (by simp) ?_; (case hd => rfl); (case hg => rfl); (case hr => exact Y5); (case hp => exact (Reps.c4 (show Kd.M k36 _ _ _ (⟨0, 7, 0, 0⟩ : S36) [.int .i64 0, .int .i64 7, .int .i64 0, .int .i64 0] from (jVa _ _ _ (⟨0, 7, 0, 0⟩ : S36) )) (Reps.c4 (show Kd.M k36 _ _ _ (⟨1, 12, 1, 0⟩ : S36) [.int .i64 1, .int .i64 12, .int .i64 1, .int .i64 0] from (jVa _ _ _ (⟨1, 12, 1, 0⟩ : S36) )) (Reps.c4 (show Kd.M k36 _ _ _ (⟨2, 11, 1, 1⟩ : S36) [.int .i64 2, .int .i64 11, .int .i64 1, .int .i64 1] from (jVa _ _ _ (⟨2, 11, 1, 1⟩ : S36) )) (Reps.c4 (show Kd.M k36 _ _ _ (⟨3, 2, 0, 1⟩ : S36) [.int .i64 3, .int .i64 2, .int .i64 0, .int .i64 1] from (jVa _ _ _ (⟨3, 2, 0, 1⟩ : S36) )) (Reps.c4 (show Kd.M k36 _ _ _ (⟨0, 10, 0, 0⟩ : S36) [.int .i64 0, .int .i64 10, .int .i64 0, .int .i64 0] from (jVa _ _ _ (⟨0, 10, 0, 0⟩ : S36) )) (Reps.c4 (show Kd.M k36 _ _ _ (⟨1, 0, 0, 0⟩ : S36) [.int .i64 1, .int .i64 0, .int .i64 0, .int .i64 0] from (jVa _ _ _ (⟨1, 0, 0, 0⟩ : S36) )) (Reps.none _ _)))))))); intro v688 w62 ho63 hb hg_ hnew_; clear hg_ hnew_; (first | rw [← Ny687.out] at ho63 | (simp only [Int.reduceToNat] at ho63; rw [← Ny687.out] at ho63)); have HO689 := am (Kd.jR ho63 (jK (Y35))); replace HO674 := am (Kd.jfa (rq HO674.out) hb); replace BK658 := am (ji (g := gb658) (o := .cells #[.slice none 0 0] 25 (0, 0)) (kq BK658.out) hb); replace BK676 := am (ji (g := gb676) (o := .cells #[.slice Ao55 t672.length co55] 25 (0, 0)) (kq BK676.out) hb); replace HB := am (jf (Y35) hb); replace HI661 := am (jg.below (Y34) hb); clear hb ho63; have hnb64 := NB658_661.out; have hnc64 := NB661_658.out; have hcz65_0 := bc0 BK658.out; have hfz65_0 := ja BK658.out 0))
    refine bodyPost_ret (joc rfl _ _ gb658 25 #[.slice Ao55 t672.length co55] (0, 0) _ rfl (Y101) Try.underlying25 rfl (by kernel_rfl)) rfl ?_
    exact ⟨_, _, Y0, by (with_reducible repeat (first | apply Kd.jW | apply Kd.jV | apply Kd.jha)); exact Kd.jA (Kd.jFb (p := ⟨gb658, 0, none⟩) (Kd.jIa HO674.out BK658.out (by decide)) (fun _ hk => hk.2) (.slice Ao55 t672.length co55)) (fun _ hk => trivial), Kd.Q_of_R (by (with_reducible repeat (first | apply Kd.jW | apply Kd.jV | apply Kd.jha)); exact Kd.jA (Kd.jFb (p := ⟨gb658, 0, none⟩) (Kd.jIa HO689.out BK658.out (by decide)) (fun _ hk => hk.2) (.slice Ao55 t672.length co55)) (fun _ hk => trivial)), Y35⟩
def jDa.l0 : Nat → List (S36) → List Int → Int → Int → Option (Int)
 | 0, _, _, _, _ => none
 | k + 1, x0, x9, x10, x11 => if x11 < x10 then (if 0 ≤ x11 then (if x11 < (x9.length : Int) then (if 0 ≤ (rd x9 x11) then (if (rd x9 x11) < (x0.length : Int) then (if ((je x0 (rd x9 x11)).f1) = 12 then (some (rd x9 x11)) else (jDa.l0 k x0 x9 x10 (wrap64 (x11 + 1)))) else (none)) else (none)) else (none)) else (none)) else (some (-1))
def jDa.f (k : Nat) (l0 : List (S36)) (a1 : Int) : Option (Int) := (jba.f k l0 a1).bind fun t690 => (jDa.l0 k l0 t690 (t690.length : Int) 0)
set_option maxHeartbeats 8000000 in
set_option maxRecDepth 100000 in
theorem jDa.calls (k : Nat) (A0 : Option Addr) (c0 : Nat) (l0 : List (S36)) (a1 : Int) (r : Int) (w : World) (hr0 : Kd.C k36 w A0 l0.length l0) (hc0 : l0.length ≤ c0) (h : jDa.f k l0 a1 = some r) :
  Calls Try.prog 44 #[.slice A0 l0.length c0, .int .i64 a1] w fun e w' => e = .returned (.int .i64 r) ∧ Below w.heap.size w w' := by
 have HR0 := am hr0
 have HC0 := am hc0
 clear hr0 hc0
 have HB := am (Below.refl w.heap.size w)
 have H : ((jba.f k l0 a1).bind fun t690 => (jDa.l0 k l0 t690 (t690.length : Int) 0)) = some r := h
 clear h
 replace H := Option.bind_eq_some_iff.mp H
 obtain ⟨t690, A30, H⟩ := H
 replace H : (jDa.l0 k l0 t690 (t690.length : Int) 0) = some r := H
 have A3 := am A30
 clear A30
 have H' := am H
 clear H
 go_enter Try.func44, Try.ntmps44
 go_wp2_with (first | ((with_reducible refine jd (f := 41) rfl ?_); refine gL (some 9) Try.func41 #[.slice A0 l0.length c0, .int .i64 a1] ?_; (with_reducible refine (jba.calls k _ _ l0 a1 t690 _ ?side1 ?side2 A3.out).mono ?_); (case side1 => exact Y32); (case side2 => exact HC0.out); rintro e w4 ⟨v691, rfl, ho0, hb⟩; refine ⟨_, rfl, ?_⟩; have HO692 := am (Kd.jR ho0 (jK (bq))); replace HB := am (jf (bq) hb); (try clear hb); (try clear hb2); (try clear hk); (try clear hi); (try clear ho0); obtain ⟨Ao5, co5, eo5⟩ := Kd.jY HO692.out; subst eo5))
 go_loopg [11] k (fun kq v11 w' => ∃ (x11_1 : Int), v11 = .int .i64 x11_1 ∧ jo (jDa.l0 kq l0 t690 (t690.length : Int) x11_1 = some r) ∧ jo (kq ≤ k) ∧ jo (Kd.R (Kd.int .i64) 3 w' w.heap.size (fun _ => True) (.slice Ao5 t690.length co5) t690) ∧ jo (Below w.heap.size w w'))
 case atStart => exact ⟨(0), (sq), H', ⟨Nat.le_refl _⟩, ⟨rq HO692.out⟩, ⟨bq⟩⟩
 case round =>
  clear H'
  try clear p2
  try clear c4
  obtain ⟨x11_1, rfl, HA, HK1, HO_9, HB⟩ := hrel
  cases gk with
  | zero => exact absurd HA.out (by simp [jDa.l0])
  | succ k1 =>
   have H := HA.out
   clear HA
   simp only [jDa.l0] at H
   by_cases c6 : x11_1 < (t690.length : Int)
   ·rw [if_pos c6] at H
    have c6b0 : decide (x11_1 < (t690.length : Int)) = true := decide_eq_true c6
    clear c6
    by_cases c7 : 0 ≤ x11_1
    ·rw [if_pos c7] at H
     have c7b0 : decide (0 ≤ x11_1) = true := decide_eq_true c7
     clear c7
     by_cases c8 : x11_1 < (t690.length : Int)
     ·rw [if_pos c8] at H
      have c8b0 : decide (x11_1 < (t690.length : Int)) = true := decide_eq_true c8
      clear c8
      by_cases c9 : 0 ≤ (rd t690 x11_1)
      ·rw [if_pos c9] at H
       have c9b0 : decide (0 ≤ (rd t690 x11_1)) = true := decide_eq_true c9
       clear c9
       by_cases c10 : (rd t690 x11_1) < (l0.length : Int)
       ·rw [if_pos c10] at H
        have c10b0 : decide ((rd t690 x11_1) < (l0.length : Int)) = true := decide_eq_true c10
        clear c10
        by_cases c11 : ((je l0 (rd t690 x11_1)).f1) = 12
        ·rw [if_pos c11] at H
         have c11b0 : (((je l0 (rd t690 x11_1)).f1) == 12) = true := beq_iff_eq.mpr c11
         have c11b1 : (((je l0 (rd t690 x11_1)).f1) != 12) = false := bne_eq_false_iff_eq.mpr c11
         clear c11
         obtain rfl := Option.some.inj H
         have p693 : 0 ≤ (x11_1 : Int) := of_decide_eq_true (uq)
         have q693 : x11_1 < (t690.length : Int) := of_decide_eq_true (uq)
         obtain ⟨ad693, e693, hx693_0⟩ := Kd.jtb (Kd.jm HO_9.out).2.2 x11_1 p693 q693
         cases e693
         replace p693 := eq_true p693
         replace q693 := eq_true q693
         have p694 : 0 ≤ ((rd t690 x11_1) : Int) := of_decide_eq_true (uq)
         have q694 : (rd t690 x11_1) < (l0.length : Int) := of_decide_eq_true (uq)
         obtain ⟨ad694, e694, hx694_0, hx694_1, hx694_2, hx694_3⟩ := jsa HR0.out (rd t690 x11_1) p694 q694
         cases e694
         replace hx694_0 := cb HB.out hx694_0
         replace hx694_1 := cb HB.out hx694_1
         replace hx694_2 := cb HB.out hx694_2
         replace hx694_3 := cb HB.out hx694_3
         replace p694 := eq_true p694
         replace q694 := eq_true q694
         go_wp2
         go_ret
         exact ⟨Y0, bq⟩
        ·rw [if_neg c11] at H
         have c11b0 : (((je l0 (rd t690 x11_1)).f1) == 12) = false := beq_eq_false_iff_ne.mpr c11
         have c11b1 : (((je l0 (rd t690 x11_1)).f1) != 12) = true := bne_iff_ne.mpr c11
         have H' := am H
         clear H
         have p693 : 0 ≤ (x11_1 : Int) := of_decide_eq_true (uq)
         have q693 : x11_1 < (t690.length : Int) := of_decide_eq_true (uq)
         obtain ⟨ad693, e693, hx693_0⟩ := Kd.jtb (Kd.jm HO_9.out).2.2 x11_1 p693 q693
         cases e693
         replace p693 := eq_true p693
         replace q693 := eq_true q693
         have p694 : 0 ≤ ((rd t690 x11_1) : Int) := of_decide_eq_true (uq)
         have q694 : (rd t690 x11_1) < (l0.length : Int) := of_decide_eq_true (uq)
         obtain ⟨ad694, e694, hx694_0, hx694_1, hx694_2, hx694_3⟩ := jsa HR0.out (rd t690 x11_1) p694 q694
         cases e694
         replace hx694_0 := cb HB.out hx694_0
         replace hx694_1 := cb HB.out hx694_1
         replace hx694_2 := cb HB.out hx694_2
         replace hx694_3 := cb HB.out hx694_3
         replace p694 := eq_true p694
         replace q694 := eq_true q694
         go_wp2
         go_roundg k1
         case measure => have := HK1.out; omega
         case rel => exact ⟨(wrap64 (x11_1 + 1)), (sq), H', ⟨by have := HK1.out; omega⟩, ⟨rq HO_9.out⟩, ⟨bq⟩⟩
       ·rw [if_neg c10] at H
        exact absurd H (by simp)
      ·rw [if_neg c9] at H
       exact absurd H (by simp)
     ·rw [if_neg c8] at H
      exact absurd H (by simp)
    ·rw [if_neg c7] at H
     exact absurd H (by simp)
   ·rw [if_neg c6] at H
    have c6b0 : decide (x11_1 < (t690.length : Int)) = false := decide_eq_false c6
    clear c6
    obtain rfl := Option.some.inj H
    go_wp2
    go_ret
    exact ⟨Y0, bq⟩
end Go.Proofs.Ytkedkinojeoeaaa.P
end
