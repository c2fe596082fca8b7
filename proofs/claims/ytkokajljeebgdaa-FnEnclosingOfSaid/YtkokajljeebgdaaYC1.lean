/- One part of the proofs on this program: functions of the program as plain functions, that the code comes to them, and facts on them. -/
import Derived.Test.YtkokajljeebgdaaYAll1
import Derived.Test.YtkokajljeebgdaaYAll3
import Derived.Test.YtkokajljeebgdaaYCD1
import Derived.Test.YtkokajljeebgdaaYCDE4
import Derived.Test.YtkokajljeebgdaaYCE1
import Derived.Test.YtkokajljeebgdaaYWAuto
section
namespace Go.Proofs.Ytkokajljeebgdaa.P
open Go.RowKit Go.Proofs.YtkokajljeebgdaaW.PrintWords Go.Proofs.YtkokajljeebgdaaW.PrintLast Go.Proofs.YtkokajljeebgdaaW.PrintMore
attribute [local go_sem] max2_int min2_int max_two min_two max_three min_three max_four min_four isSome_cell_setCell
set_option linter.unusedVariables false
set_option linter.unusedSimpArgs false
mutual
def laws_FnEnclosingOf.j0 : Nat → List (S52) → Int → List Int → Bool → List (S87) → Option (Bool)
 | 0, _, _, _, _, _ => none
 | k + 1, x4, x5, x6, x43, x986000 => if x43 = true then ((spec_EnclosingOf.f k x986000 x4 x5).bind fun t994 => ((laws_equalInts.f k x6 t994).bind fun t997 => (some t997))) else (laws_FnEnclosingOf.l0 k x4 x5 x6 0)
def laws_FnEnclosingOf.l0 : Nat → List (S52) → Int → List Int → Int → Option (Bool)
 | 0, _, _, _, _ => none
 | k + 1, x4, x5, x6, x7 => if x7 < (x6.length : Int) then (if 0 ≤ x7 then (if (rd x6 x7) ≥ x5 then (some false) else (if 0 ≤ (rd x6 x7) then (if (rd x6 x7) < (x4.length : Int) then (if 0 ≤ x5 then (if x5 < (x4.length : Int) then (if ((rd_T52 x4 (rd x6 x7)).f0) = (wrap64 ((wrap64 (((rd_T52 x4 x5).f0) - 1)) - x7)) then (laws_FnEnclosingOf.l0 k x4 x5 x6 (wrap64 (x7 + 1))) else (some false)) else (none)) else (none)) else (none)) else (none))) else (none)) else (if 0 ≤ x5 then (if x5 < (x4.length : Int) then (some ((x6.length : Int) == ((rd_T52 x4 x5).f0))) else (none)) else (none))
end
def laws_FnEnclosingOf.f (k : Nat) (l0 : List Int) : Option (Bool) := if (l0.length : Int) > 1048576 then (some true) else ((spec_DrawEnclosingOf.f k l0).bind fun bt978 => ((impl_EnclosingOf.f k bt978.1 bt978.2.1 bt978.2.2).bind fun t986 => ((spec_EnclosingOf.f k bt978.1 bt978.2.1 bt978.2.2).bind fun t989 => ((laws_equalInts.f k t986 t989).bind fun t992 => (if t992 = true then ((impl_ValidProgram.f k bt978.1 bt978.2.1).bind fun t993 => (if t993 = true then (if bt978.2.2 < 0 then (laws_FnEnclosingOf.j0 k bt978.2.1 bt978.2.2 t986 true bt978.1) else (laws_FnEnclosingOf.j0 k bt978.2.1 bt978.2.2 t986 (decide (bt978.2.2 ≥ (bt978.2.1.length : Int))) bt978.1)) else (laws_FnEnclosingOf.j0 k bt978.2.1 bt978.2.2 t986 true bt978.1))) else (laws_FnEnclosingOf.j0 k bt978.2.1 bt978.2.2 t986 true bt978.1))))))
set_option maxHeartbeats 8000000 in
set_option maxRecDepth 100000 in
theorem laws_FnEnclosingOf.calls (k : Nat) (A0 : Option Addr) (c0 : Nat) (l0 : List Int) (r : Bool) (w : World) (hr0 : Kd.C (Kd.int .u8) w A0 l0.length l0) (hc0 : l0.length ≤ c0) (hT : r = true) (h : laws_FnEnclosingOf.f k l0 = some r) :
  Calls Try.prog 5 #[.slice A0 l0.length c0] w fun e w' => e = .returned (.bool r) ∧ Below w.heap.size w w' := by
 have hu32 := Try.underlying32
 have HR0 := am hr0
 have HC0 := am hc0
 clear hr0 hc0
 have HB := am (Below.refl w.heap.size w)
 have H : (if (l0.length : Int) > 1048576 then (some true) else ((spec_DrawEnclosingOf.f k l0).bind fun bt978 => ((impl_EnclosingOf.f k bt978.1 bt978.2.1 bt978.2.2).bind fun t986 => ((spec_EnclosingOf.f k bt978.1 bt978.2.1 bt978.2.2).bind fun t989 => ((laws_equalInts.f k t986 t989).bind fun t992 => (if t992 = true then ((impl_ValidProgram.f k bt978.1 bt978.2.1).bind fun t993 => (if t993 = true then (if bt978.2.2 < 0 then (laws_FnEnclosingOf.j0 k bt978.2.1 bt978.2.2 t986 true bt978.1) else (laws_FnEnclosingOf.j0 k bt978.2.1 bt978.2.2 t986 (decide (bt978.2.2 ≥ (bt978.2.1.length : Int))) bt978.1)) else (laws_FnEnclosingOf.j0 k bt978.2.1 bt978.2.2 t986 true bt978.1))) else (laws_FnEnclosingOf.j0 k bt978.2.1 bt978.2.2 t986 true bt978.1))))))) = some r := h
 clear h
 by_cases c2 : (l0.length : Int) > 1048576
 ·rw [if_pos c2] at H
  have c2b0 : decide (1048576 < (l0.length : Int)) = true := decide_eq_true c2
  have c2b1 : decide (1048576 < l0.length) = true := decide_eq_true (by omega)
  clear c2
  obtain rfl := Option.some.inj H
  go_enter Try.func5, Try.ntmps5
  go_wp2
  repeat (go_quiet (fail); try go_wp2)
  go_ret
  exact ⟨q0, bq⟩
 ·rw [if_neg c2] at H
  have c2b0 : decide (1048576 < (l0.length : Int)) = false := decide_eq_false c2
  have c2b1 : decide (1048576 < l0.length) = false := decide_eq_false (by omega)
  clear c2
  replace H := Option.bind_eq_some_iff.mp H
  obtain ⟨⟨t978, t981, t984⟩, A30, H⟩ := H
  replace H : ((impl_EnclosingOf.f k t978 t981 t984).bind fun t986 => ((spec_EnclosingOf.f k t978 t981 t984).bind fun t989 => ((laws_equalInts.f k t986 t989).bind fun t992 => (if t992 = true then ((impl_ValidProgram.f k t978 t981).bind fun t993 => (if t993 = true then (if t984 < 0 then (laws_FnEnclosingOf.j0 k t981 t984 t986 true t978) else (laws_FnEnclosingOf.j0 k t981 t984 t986 (decide (t984 ≥ (t981.length : Int))) t978)) else (laws_FnEnclosingOf.j0 k t981 t984 t986 true t978))) else (laws_FnEnclosingOf.j0 k t981 t984 t986 true t978))))) = some r := H
  have A3 := am A30
  clear A30
  replace H := Option.bind_eq_some_iff.mp H
  obtain ⟨t986, A40, H⟩ := H
  replace H : ((spec_EnclosingOf.f k t978 t981 t984).bind fun t989 => ((laws_equalInts.f k t986 t989).bind fun t992 => (if t992 = true then ((impl_ValidProgram.f k t978 t981).bind fun t993 => (if t993 = true then (if t984 < 0 then (laws_FnEnclosingOf.j0 k t981 t984 t986 true t978) else (laws_FnEnclosingOf.j0 k t981 t984 t986 (decide (t984 ≥ (t981.length : Int))) t978)) else (laws_FnEnclosingOf.j0 k t981 t984 t986 true t978))) else (laws_FnEnclosingOf.j0 k t981 t984 t986 true t978)))) = some r := H
  have A4 := am A40
  clear A40
  have HC5 := am H
  clear H
  go_enter Try.func5, Try.ntmps5
  go_upto_region 5 with (first | (go_at_call 25; (with_reducible refine (spec_DrawEnclosingOf.calls k _ _ l0 t978 t981 t984 _ ?side1 ?side2 A3.out).mono ?_); (case side1 => exact q28); (case side2 => exact HC0.out); rintro e w6 ⟨v979, v982, rfl, ho0, ho1, hb⟩; have HO980 := am (Kd.R_lower ho0 (below_size (bq))); have HO983 := am (Kd.Q_lower ho1 (below_size (bq))); replace HB := am (below_step (bq) hb); (try clear hb); (try clear hb2); (try clear hk); (try clear hi); (try clear ho0); (try clear ho1)) | ((with_reducible refine gate_dst (N := 3) rfl ?_); (try (refine gate_guard (by rfl) ?_; dsimp only)); refine box_event ?hg (N := 3) ?hd (cs := #[.slice none 0 0]) (t := 32) ?hr ?_; (case hd => rfl); (case hg => rfl); (case hr => exact q2); intro gb985 hg w7 hbox hb; have BK985 := am (hbox); have GW985 := am ((by rw [hg]; exact (below_size (bq)) : w.heap.size ≤ gb985)); have GE985 := am ((by rw [hg]; exact (below_size (bq)) : w.heap.size ≤ gb985)); replace HO980 := am (Kd.R_below (rq HO980.out) hb); replace HO983 := am (Kd.Q_below (by (with_reducible repeat (first | apply Kd.Q_alloc | apply Kd.Q_drewN | apply Kd.Q_drew)); exact HO983.out) hb); replace HB := am (below_step (bq) hb); clear hb hbox hg; obtain ⟨Ao8, co8, eo8⟩ := Kd.R_slice HO980.out; subst eo8; have hcz9_0 := bc0 BK985.out; have hfz9_0 := blk_frozen BK985.out 0; obtain ⟨Ao10, co10, eo10, _⟩ := Kd.Q_slice HO983.out; subst eo10) | (go_at_call 26; (with_reducible refine (impl_EnclosingOf.calls k _ _ t978 _ _ t981 t984 t986 _ ?side1 ?side2 ?side3 ?side4 A4.out).mono ?_); (case side1 => refine (Kd.R_reads' (e := 87) (base := w.heap.size) (ok := fun k_ => True) (n := t978.length) (c := co8) ?_).2.2; exact (by (with_reducible repeat (first | apply Kd.R_alloc | apply Kd.R_drewN | apply Kd.R_drew)); exact (Kd.R_mono (Kd.R_far (p := ⟨gb985, 0, none⟩) (Kd.R_types HO980.out BK985.out (by decide)) (fun _ hk => hk.2) (.slice Ao8 t978.length co8)) (fun _ h_ => h_.1)))); (case side2 => exact (Kd.R_reads' HO980.out).2.1); (case side3 => refine (Kd.Q_reads' (e := 52) (base := w.heap.size) (ok := fun k_ => True) (n := t981.length) (c := co10) ?_).2.2; exact (by (with_reducible repeat (first | apply Kd.Q_alloc | apply Kd.Q_drewN | apply Kd.Q_drew)); exact (Kd.Q_mono (Kd.Q_far (p := ⟨gb985, 0, none⟩) (Kd.Q_types HO983.out BK985.out (by decide)) (fun _ hk => hk.2) (.slice Ao8 t978.length co8)) (fun _ h_ => h_.1)))); (case side4 => exact (Kd.Q_reads' HO983.out).2.1); rintro e w11 ⟨v987, rfl, ho0, hb⟩; have HO988 := am (Kd.R_lower ho0 (below_size (q9))); replace HO980 := am (Kd.R_below (by (with_reducible repeat (first | apply Kd.R_alloc | apply Kd.R_drewN | apply Kd.R_drew)); exact (Kd.R_mono (Kd.R_far (p := ⟨gb985, 0, none⟩) (Kd.R_types HO980.out BK985.out (by decide)) (fun _ hk => hk.2) (.slice Ao8 t978.length co8)) (fun _ h_ => h_.1))) hb); replace HO983 := am (Kd.Q_below (by (with_reducible repeat (first | apply Kd.Q_alloc | apply Kd.Q_drewN | apply Kd.Q_drew)); exact (Kd.Q_mono (Kd.Q_far (p := ⟨gb985, 0, none⟩) (Kd.Q_types HO983.out BK985.out (by decide)) (fun _ hk => hk.2) (.slice Ao8 t978.length co8)) (fun _ h_ => h_.1))) hb); replace BK985 := am (blk_below (g := gb985) (o := .cells #[.slice Ao8 t978.length co8] 32 (0, 0)) (by (with_reducible repeat (first | refine blk_drewN ?_ _ | refine blk_drew ?_ | refine blk_alloc ?_ _)); refine blk_put (cs := #[.slice none 0 0]) ?_ 0 _ rfl; (with_reducible repeat (first | refine blk_drewN ?_ _ | refine blk_drew ?_ | refine blk_alloc ?_ _)); exact BK985.out) hb); replace HB := am (below_step (q9) hb); (try clear hb); (try clear hb2); (try clear hk); (try clear hi); (try clear ho0)))
  repeat (go_quiet (first | (go_at_call 25; (with_reducible refine (spec_DrawEnclosingOf.calls k _ _ l0 t978 t981 t984 _ ?side1 ?side2 A3.out).mono ?_); (case side1 => exact q28); (case side2 => exact HC0.out); rintro e w6 ⟨v979, v982, rfl, ho0, ho1, hb⟩; have HO980 := am (Kd.R_lower ho0 (below_size (bq))); have HO983 := am (Kd.Q_lower ho1 (below_size (bq))); replace HB := am (below_step (bq) hb); (try clear hb); (try clear hb2); (try clear hk); (try clear hi); (try clear ho0); (try clear ho1)) | ((with_reducible refine gate_dst (N := 3) rfl ?_); (try (refine gate_guard (by rfl) ?_; dsimp only)); refine box_event ?hg (N := 3) ?hd (cs := #[.slice none 0 0]) (t := 32) ?hr ?_; (case hd => rfl); (case hg => rfl); (case hr => exact q2); intro gb985 hg w7 hbox hb; have BK985 := am (hbox); have GW985 := am ((by rw [hg]; exact (below_size (bq)) : w.heap.size ≤ gb985)); have GE985 := am ((by rw [hg]; exact (below_size (bq)) : w.heap.size ≤ gb985)); replace HO980 := am (Kd.R_below (rq HO980.out) hb); replace HO983 := am (Kd.Q_below (by (with_reducible repeat (first | apply Kd.Q_alloc | apply Kd.Q_drewN | apply Kd.Q_drew)); exact HO983.out) hb); replace HB := am (below_step (bq) hb); clear hb hbox hg; obtain ⟨Ao8, co8, eo8⟩ := Kd.R_slice HO980.out; subst eo8; have hcz9_0 := bc0 BK985.out; have hfz9_0 := blk_frozen BK985.out 0; obtain ⟨Ao10, co10, eo10, _⟩ := Kd.Q_slice HO983.out; subst eo10) | (go_at_call 26; (with_reducible refine (impl_EnclosingOf.calls k _ _ t978 _ _ t981 t984 t986 _ ?side1 ?side2 ?side3 ?side4 A4.out).mono ?_); (case side1 => refine (Kd.R_reads' (e := 87) (base := w.heap.size) (ok := fun k_ => True) (n := t978.length) (c := co8) ?_).2.2; exact (by (with_reducible repeat (first | apply Kd.R_alloc | apply Kd.R_drewN | apply Kd.R_drew)); exact (Kd.R_mono (Kd.R_far (p := ⟨gb985, 0, none⟩) (Kd.R_types HO980.out BK985.out (by decide)) (fun _ hk => hk.2) (.slice Ao8 t978.length co8)) (fun _ h_ => h_.1)))); (case side2 => exact (Kd.R_reads' HO980.out).2.1); (case side3 => refine (Kd.Q_reads' (e := 52) (base := w.heap.size) (ok := fun k_ => True) (n := t981.length) (c := co10) ?_).2.2; exact (by (with_reducible repeat (first | apply Kd.Q_alloc | apply Kd.Q_drewN | apply Kd.Q_drew)); exact (Kd.Q_mono (Kd.Q_far (p := ⟨gb985, 0, none⟩) (Kd.Q_types HO983.out BK985.out (by decide)) (fun _ hk => hk.2) (.slice Ao8 t978.length co8)) (fun _ h_ => h_.1)))); (case side4 => exact (Kd.Q_reads' HO983.out).2.1); rintro e w11 ⟨v987, rfl, ho0, hb⟩; have HO988 := am (Kd.R_lower ho0 (below_size (q9))); replace HO980 := am (Kd.R_below (by (with_reducible repeat (first | apply Kd.R_alloc | apply Kd.R_drewN | apply Kd.R_drew)); exact (Kd.R_mono (Kd.R_far (p := ⟨gb985, 0, none⟩) (Kd.R_types HO980.out BK985.out (by decide)) (fun _ hk => hk.2) (.slice Ao8 t978.length co8)) (fun _ h_ => h_.1))) hb); replace HO983 := am (Kd.Q_below (by (with_reducible repeat (first | apply Kd.Q_alloc | apply Kd.Q_drewN | apply Kd.Q_drew)); exact (Kd.Q_mono (Kd.Q_far (p := ⟨gb985, 0, none⟩) (Kd.Q_types HO983.out BK985.out (by decide)) (fun _ hk => hk.2) (.slice Ao8 t978.length co8)) (fun _ h_ => h_.1))) hb); replace BK985 := am (blk_below (g := gb985) (o := .cells #[.slice Ao8 t978.length co8] 32 (0, 0)) (by (with_reducible repeat (first | refine blk_drewN ?_ _ | refine blk_drew ?_ | refine blk_alloc ?_ _)); refine blk_put (cs := #[.slice none 0 0]) ?_ 0 _ rfl; (with_reducible repeat (first | refine blk_drewN ?_ _ | refine blk_drew ?_ | refine blk_alloc ?_ _)); exact BK985.out) hb); replace HB := am (below_step (q9) hb); (try clear hb); (try clear hb2); (try clear hk); (try clear hi); (try clear ho0))); go_upto_region 5 with (first | (go_at_call 25; (with_reducible refine (spec_DrawEnclosingOf.calls k _ _ l0 t978 t981 t984 _ ?side1 ?side2 A3.out).mono ?_); (case side1 => exact q28); (case side2 => exact HC0.out); rintro e w6 ⟨v979, v982, rfl, ho0, ho1, hb⟩; have HO980 := am (Kd.R_lower ho0 (below_size (bq))); have HO983 := am (Kd.Q_lower ho1 (below_size (bq))); replace HB := am (below_step (bq) hb); (try clear hb); (try clear hb2); (try clear hk); (try clear hi); (try clear ho0); (try clear ho1)) | ((with_reducible refine gate_dst (N := 3) rfl ?_); (try (refine gate_guard (by rfl) ?_; dsimp only)); refine box_event ?hg (N := 3) ?hd (cs := #[.slice none 0 0]) (t := 32) ?hr ?_; (case hd => rfl); (case hg => rfl); (case hr => exact q2); intro gb985 hg w7 hbox hb; have BK985 := am (hbox); have GW985 := am ((by rw [hg]; exact (below_size (bq)) : w.heap.size ≤ gb985)); have GE985 := am ((by rw [hg]; exact (below_size (bq)) : w.heap.size ≤ gb985)); replace HO980 := am (Kd.R_below (rq HO980.out) hb); replace HO983 := am (Kd.Q_below (by (with_reducible repeat (first | apply Kd.Q_alloc | apply Kd.Q_drewN | apply Kd.Q_drew)); exact HO983.out) hb); replace HB := am (below_step (bq) hb); clear hb hbox hg; obtain ⟨Ao8, co8, eo8⟩ := Kd.R_slice HO980.out; subst eo8; have hcz9_0 := bc0 BK985.out; have hfz9_0 := blk_frozen BK985.out 0; obtain ⟨Ao10, co10, eo10, _⟩ := Kd.Q_slice HO983.out; subst eo10) | (go_at_call 26; (with_reducible refine (impl_EnclosingOf.calls k _ _ t978 _ _ t981 t984 t986 _ ?side1 ?side2 ?side3 ?side4 A4.out).mono ?_); (case side1 => refine (Kd.R_reads' (e := 87) (base := w.heap.size) (ok := fun k_ => True) (n := t978.length) (c := co8) ?_).2.2; exact (by (with_reducible repeat (first | apply Kd.R_alloc | apply Kd.R_drewN | apply Kd.R_drew)); exact (Kd.R_mono (Kd.R_far (p := ⟨gb985, 0, none⟩) (Kd.R_types HO980.out BK985.out (by decide)) (fun _ hk => hk.2) (.slice Ao8 t978.length co8)) (fun _ h_ => h_.1)))); (case side2 => exact (Kd.R_reads' HO980.out).2.1); (case side3 => refine (Kd.Q_reads' (e := 52) (base := w.heap.size) (ok := fun k_ => True) (n := t981.length) (c := co10) ?_).2.2; exact (by (with_reducible repeat (first | apply Kd.Q_alloc | apply Kd.Q_drewN | apply Kd.Q_drew)); exact (Kd.Q_mono (Kd.Q_far (p := ⟨gb985, 0, none⟩) (Kd.Q_types HO983.out BK985.out (by decide)) (fun _ hk => hk.2) (.slice Ao8 t978.length co8)) (fun _ h_ => h_.1)))); (case side4 => exact (Kd.Q_reads' HO983.out).2.1); rintro e w11 ⟨v987, rfl, ho0, hb⟩; have HO988 := am (Kd.R_lower ho0 (below_size (q9))); replace HO980 := am (Kd.R_below (by (with_reducible repeat (first | apply Kd.R_alloc | apply Kd.R_drewN | apply Kd.R_drew)); exact (Kd.R_mono (Kd.R_far (p := ⟨gb985, 0, none⟩) (Kd.R_types HO980.out BK985.out (by decide)) (fun _ hk => hk.2) (.slice Ao8 t978.length co8)) (fun _ h_ => h_.1))) hb); replace HO983 := am (Kd.Q_below (by (with_reducible repeat (first | apply Kd.Q_alloc | apply Kd.Q_drewN | apply Kd.Q_drew)); exact (Kd.Q_mono (Kd.Q_far (p := ⟨gb985, 0, none⟩) (Kd.Q_types HO983.out BK985.out (by decide)) (fun _ hk => hk.2) (.slice Ao8 t978.length co8)) (fun _ h_ => h_.1))) hb); replace BK985 := am (blk_below (g := gb985) (o := .cells #[.slice Ao8 t978.length co8] 32 (0, 0)) (by (with_reducible repeat (first | refine blk_drewN ?_ _ | refine blk_drew ?_ | refine blk_alloc ?_ _)); refine blk_put (cs := #[.slice none 0 0]) ?_ 0 _ rfl; (with_reducible repeat (first | refine blk_drewN ?_ _ | refine blk_drew ?_ | refine blk_alloc ?_ _)); exact BK985.out) hb); replace HB := am (below_step (q9) hb); (try clear hb); (try clear hb2); (try clear hk); (try clear hi); (try clear ho0))))
  (try simp only [Act.put, List.setIfInBounds_toArray, List.set_cons_zero, List.set_cons_succ])
  go_cut [43] (fun v43 wc => ∃ (kq : Nat) (x43_4 : Bool), v43 = .bool x43_4 ∧ Aside0 (laws_FnEnclosingOf.j0 kq t981 t984 t986 x43_4 t978 = some r) ∧ Aside0 (kq ≤ k) ∧ Aside0 (Kd.Q k52 52 wc w.heap.size (fun _ => True) (.slice Ao10 t981.length co10) t981) ∧ Aside0 (Kd.R (Kd.int .i64) 3 wc w.heap.size (fun _ => True) v987 t986) ∧ Aside0 (Kd.R k87 87 wc w.heap.size (fun _ => True) (.slice Ao8 t978.length co8) t978) ∧ Aside0 (wc.heap[gb985]? = some (.cells #[(.slice Ao8 t978.length co8)] 32 (0, 0))) ∧ Aside0 (Below w.heap.size w wc))
  case first =>
   have H := HC5.out
   clear HC5
   replace H := Option.bind_eq_some_iff.mp H
   obtain ⟨t989, A120, H⟩ := H
   replace H : ((laws_equalInts.f k t986 t989).bind fun t992 => (if t992 = true then ((impl_ValidProgram.f k t978 t981).bind fun t993 => (if t993 = true then (if t984 < 0 then (laws_FnEnclosingOf.j0 k t981 t984 t986 true t978) else (laws_FnEnclosingOf.j0 k t981 t984 t986 (decide (t984 ≥ (t981.length : Int))) t978)) else (laws_FnEnclosingOf.j0 k t981 t984 t986 true t978))) else (laws_FnEnclosingOf.j0 k t981 t984 t986 true t978))) = some r := H
   have A12 := am A120
   clear A120
   replace H := Option.bind_eq_some_iff.mp H
   obtain ⟨t992, A130, H⟩ := H
   replace H : (if t992 = true then ((impl_ValidProgram.f k t978 t981).bind fun t993 => (if t993 = true then (if t984 < 0 then (laws_FnEnclosingOf.j0 k t981 t984 t986 true t978) else (laws_FnEnclosingOf.j0 k t981 t984 t986 (decide (t984 ≥ (t981.length : Int))) t978)) else (laws_FnEnclosingOf.j0 k t981 t984 t986 true t978))) else (laws_FnEnclosingOf.j0 k t981 t984 t986 true t978)) = some r := H
   have A13 := am A130
   clear A130
   by_cases c14 : t992 = true
   ·subst c14
    have H1 : ((impl_ValidProgram.f k t978 t981).bind fun t993 => (if t993 = true then (if t984 < 0 then (laws_FnEnclosingOf.j0 k t981 t984 t986 true t978) else (laws_FnEnclosingOf.j0 k t981 t984 t986 (decide (t984 ≥ (t981.length : Int))) t978)) else (laws_FnEnclosingOf.j0 k t981 t984 t986 true t978))) = some r := by rw [if_pos rfl] at H; exact H
    clear H
    have H := H1
    clear H1
    replace H := Option.bind_eq_some_iff.mp H
    obtain ⟨t993, A150, H⟩ := H
    replace H : (if t993 = true then (if t984 < 0 then (laws_FnEnclosingOf.j0 k t981 t984 t986 true t978) else (laws_FnEnclosingOf.j0 k t981 t984 t986 (decide (t984 ≥ (t981.length : Int))) t978)) else (laws_FnEnclosingOf.j0 k t981 t984 t986 true t978)) = some r := H
    have A15 := am A150
    clear A150
    by_cases c16 : t993 = true
    ·subst c16
     have H1 : (if t984 < 0 then (laws_FnEnclosingOf.j0 k t981 t984 t986 true t978) else (laws_FnEnclosingOf.j0 k t981 t984 t986 (decide (t984 ≥ (t981.length : Int))) t978)) = some r := by rw [if_pos rfl] at H; exact H
     clear H
     have H := H1
     clear H1
     by_cases c17 : t984 < 0
     ·rw [if_pos c17] at H
      have c17b0 : decide (t984 < 0) = true := decide_eq_true c17
      clear c17
      (first | rw [c17b0] | (simp only [i64_w, i32_w]; rw [c17b0]) | skip)
      have H' := am H
      clear H
      have hcz18_0 := bc0 BK985.out
      have hfz18_0 := blk_frozen BK985.out 0
      go_wp2_with (first | (go_at_call 28; (with_reducible refine (spec_EnclosingOf.calls k _ _ t978 _ _ t981 t984 t989 _ ?side1 ?side2 ?side3 ?side4 A12.out).mono ?_); (case side1 => exact cq (Kd.R_reads' HO980.out).2.2); (case side2 => exact (Kd.R_reads' HO980.out).2.1); (case side3 => exact cq (Kd.Q_reads' HO983.out).2.2); (case side4 => exact (Kd.Q_reads' HO983.out).2.1); rintro e w19 ⟨v990, rfl, ho0, hb⟩; have HO991 := am (Kd.R_lower (Kd.R_new' ho0 (Kd.R_lt (rq HO988.out))) (below_size (q9))); replace HO980 := am (Kd.R_below (rq HO980.out) hb); replace HO983 := am (Kd.Q_below (by (with_reducible repeat (first | apply Kd.Q_alloc | apply Kd.Q_drewN | apply Kd.Q_drew)); exact HO983.out) hb); replace HO988 := am (Kd.R_elder' (rq HO988.out) (Kd.R_base ho0) hb); replace BK985 := am (blk_below (g := gb985) (o := .cells #[.slice Ao8 t978.length co8] 32 (0, 0)) (kq BK985.out) hb); replace HB := am (below_step (q9) hb); (try clear hb); (try clear hb2); (try clear hk); (try clear hi); (try clear ho0); obtain ⟨Ao20, co20, eo20⟩ := Kd.R_slice HO988.out; subst eo20; obtain ⟨Ao21, co21, eo21⟩ := Kd.R_slice HO991.out; subst eo21) | (go_at_call 27; (with_reducible refine (laws_equalInts.calls k _ _ t986 _ _ t989 true _ ?side1 ?side2 ?side3 ?side4 A13.out).mono ?_); (case side1 => exact cq (Kd.R_reads' HO988.out).2.2); (case side2 => exact (Kd.R_reads' HO988.out).2.1); (case side3 => exact cq (Kd.R_reads' HO991.out).2.2); (case side4 => exact (Kd.R_reads' HO991.out).2.1); rintro e w' ⟨rfl, ⟨nd, rfl⟩⟩; (try first | exact ⟨rfl, _, World.drewN_drewN _ _ _⟩ | exact ⟨rfl, _, Eq.trans (World.drewN_drewN _ _ _) (congrArg (World.drewN _) (Nat.add_assoc _ _ _))⟩); have hcz22_0 := bc0 BK985.out; have hfz22_0 := blk_frozen BK985.out 0) | (go_at_call 29; (with_reducible refine (impl_ValidProgram.calls k _ _ t978 _ _ t981 true _ ?side1 ?side2 ?side3 ?side4 A15.out).mono ?_); (case side1 => exact cq (Kd.R_reads' HO980.out).2.2); (case side2 => exact (Kd.R_reads' HO980.out).2.1); (case side3 => exact cq (Kd.Q_reads' HO983.out).2.2); (case side4 => exact (Kd.Q_reads' HO983.out).2.1); rintro e w23 ⟨rfl, hb⟩; replace HO980 := am (Kd.R_below (rq HO980.out) hb); replace HO983 := am (Kd.Q_below (by (with_reducible repeat (first | apply Kd.Q_alloc | apply Kd.Q_drewN | apply Kd.Q_drew)); exact HO983.out) hb); replace HO988 := am (Kd.R_below (rq HO988.out) hb); replace HO991 := am (Kd.R_below (rq HO991.out) hb); replace BK985 := am (blk_below (g := gb985) (o := .cells #[.slice Ao8 t978.length co8] 32 (0, 0)) (kq BK985.out) hb); replace HB := am (below_step (q9) hb); (try clear hb); (try clear hb2); (try clear hk); (try clear hi)))
      repeat (go_quiet (first | (go_at_call 28; (with_reducible refine (spec_EnclosingOf.calls k _ _ t978 _ _ t981 t984 t989 _ ?side1 ?side2 ?side3 ?side4 A12.out).mono ?_); (case side1 => exact cq (Kd.R_reads' HO980.out).2.2); (case side2 => exact (Kd.R_reads' HO980.out).2.1); (case side3 => exact cq (Kd.Q_reads' HO983.out).2.2); (case side4 => exact (Kd.Q_reads' HO983.out).2.1); rintro e w19 ⟨v990, rfl, ho0, hb⟩; have HO991 := am (Kd.R_lower (Kd.R_new' ho0 (Kd.R_lt (rq HO988.out))) (below_size (q9))); replace HO980 := am (Kd.R_below (rq HO980.out) hb); replace HO983 := am (Kd.Q_below (by (with_reducible repeat (first | apply Kd.Q_alloc | apply Kd.Q_drewN | apply Kd.Q_drew)); exact HO983.out) hb); replace HO988 := am (Kd.R_elder' (rq HO988.out) (Kd.R_base ho0) hb); replace BK985 := am (blk_below (g := gb985) (o := .cells #[.slice Ao8 t978.length co8] 32 (0, 0)) (kq BK985.out) hb); replace HB := am (below_step (q9) hb); (try clear hb); (try clear hb2); (try clear hk); (try clear hi); (try clear ho0); obtain ⟨Ao20, co20, eo20⟩ := Kd.R_slice HO988.out; subst eo20; obtain ⟨Ao21, co21, eo21⟩ := Kd.R_slice HO991.out; subst eo21) | (go_at_call 27; (with_reducible refine (laws_equalInts.calls k _ _ t986 _ _ t989 true _ ?side1 ?side2 ?side3 ?side4 A13.out).mono ?_); (case side1 => exact cq (Kd.R_reads' HO988.out).2.2); (case side2 => exact (Kd.R_reads' HO988.out).2.1); (case side3 => exact cq (Kd.R_reads' HO991.out).2.2); (case side4 => exact (Kd.R_reads' HO991.out).2.1); rintro e w' ⟨rfl, ⟨nd, rfl⟩⟩; (try first | exact ⟨rfl, _, World.drewN_drewN _ _ _⟩ | exact ⟨rfl, _, Eq.trans (World.drewN_drewN _ _ _) (congrArg (World.drewN _) (Nat.add_assoc _ _ _))⟩); have hcz22_0 := bc0 BK985.out; have hfz22_0 := blk_frozen BK985.out 0) | (go_at_call 29; (with_reducible refine (impl_ValidProgram.calls k _ _ t978 _ _ t981 true _ ?side1 ?side2 ?side3 ?side4 A15.out).mono ?_); (case side1 => exact cq (Kd.R_reads' HO980.out).2.2); (case side2 => exact (Kd.R_reads' HO980.out).2.1); (case side3 => exact cq (Kd.Q_reads' HO983.out).2.2); (case side4 => exact (Kd.Q_reads' HO983.out).2.1); rintro e w23 ⟨rfl, hb⟩; replace HO980 := am (Kd.R_below (rq HO980.out) hb); replace HO983 := am (Kd.Q_below (by (with_reducible repeat (first | apply Kd.Q_alloc | apply Kd.Q_drewN | apply Kd.Q_drew)); exact HO983.out) hb); replace HO988 := am (Kd.R_below (rq HO988.out) hb); replace HO991 := am (Kd.R_below (rq HO991.out) hb); replace BK985 := am (blk_below (g := gb985) (o := .cells #[.slice Ao8 t978.length co8] 32 (0, 0)) (kq BK985.out) hb); replace HB := am (below_step (q9) hb); (try clear hb); (try clear hb2); (try clear hk); (try clear hi))); try go_wp2_with (first | (go_at_call 28; (with_reducible refine (spec_EnclosingOf.calls k _ _ t978 _ _ t981 t984 t989 _ ?side1 ?side2 ?side3 ?side4 A12.out).mono ?_); (case side1 => exact cq (Kd.R_reads' HO980.out).2.2); (case side2 => exact (Kd.R_reads' HO980.out).2.1); (case side3 => exact cq (Kd.Q_reads' HO983.out).2.2); (case side4 => exact (Kd.Q_reads' HO983.out).2.1); rintro e w19 ⟨v990, rfl, ho0, hb⟩; have HO991 := am (Kd.R_lower (Kd.R_new' ho0 (Kd.R_lt (rq HO988.out))) (below_size (q9))); replace HO980 := am (Kd.R_below (rq HO980.out) hb); replace HO983 := am (Kd.Q_below (by (with_reducible repeat (first | apply Kd.Q_alloc | apply Kd.Q_drewN | apply Kd.Q_drew)); exact HO983.out) hb); replace HO988 := am (Kd.R_elder' (rq HO988.out) (Kd.R_base ho0) hb); replace BK985 := am (blk_below (g := gb985) (o := .cells #[.slice Ao8 t978.length co8] 32 (0, 0)) (kq BK985.out) hb); replace HB := am (below_step (q9) hb); (try clear hb); (try clear hb2); (try clear hk); (try clear hi); (try clear ho0); obtain ⟨Ao20, co20, eo20⟩ := Kd.R_slice HO988.out; subst eo20; obtain ⟨Ao21, co21, eo21⟩ := Kd.R_slice HO991.out; subst eo21) | (go_at_call 27; (with_reducible refine (laws_equalInts.calls k _ _ t986 _ _ t989 true _ ?side1 ?side2 ?side3 ?side4 A13.out).mono ?_); (case side1 => exact cq (Kd.R_reads' HO988.out).2.2); (case side2 => exact (Kd.R_reads' HO988.out).2.1); (case side3 => exact cq (Kd.R_reads' HO991.out).2.2); (case side4 => exact (Kd.R_reads' HO991.out).2.1); rintro e w' ⟨rfl, ⟨nd, rfl⟩⟩; (try first | exact ⟨rfl, _, World.drewN_drewN _ _ _⟩ | exact ⟨rfl, _, Eq.trans (World.drewN_drewN _ _ _) (congrArg (World.drewN _) (Nat.add_assoc _ _ _))⟩); have hcz22_0 := bc0 BK985.out; have hfz22_0 := blk_frozen BK985.out 0) | (go_at_call 29; (with_reducible refine (impl_ValidProgram.calls k _ _ t978 _ _ t981 true _ ?side1 ?side2 ?side3 ?side4 A15.out).mono ?_); (case side1 => exact cq (Kd.R_reads' HO980.out).2.2); (case side2 => exact (Kd.R_reads' HO980.out).2.1); (case side3 => exact cq (Kd.Q_reads' HO983.out).2.2); (case side4 => exact (Kd.Q_reads' HO983.out).2.1); rintro e w23 ⟨rfl, hb⟩; replace HO980 := am (Kd.R_below (rq HO980.out) hb); replace HO983 := am (Kd.Q_below (by (with_reducible repeat (first | apply Kd.Q_alloc | apply Kd.Q_drewN | apply Kd.Q_drew)); exact HO983.out) hb); replace HO988 := am (Kd.R_below (rq HO988.out) hb); replace HO991 := am (Kd.R_below (rq HO991.out) hb); replace BK985 := am (blk_below (g := gb985) (o := .cells #[.slice Ao8 t978.length co8] 32 (0, 0)) (kq BK985.out) hb); replace HB := am (below_step (q9) hb); (try clear hb); (try clear hb2); (try clear hk); (try clear hi))))
      go_meet
      case rel => exact ⟨_, (true), (sq), H', ⟨q16⟩, ⟨by (with_reducible repeat (first | apply Kd.Q_alloc | apply Kd.Q_drewN | apply Kd.Q_drew)); exact HO983.out⟩, ⟨by (with_reducible repeat (first | apply Kd.R_alloc | apply Kd.R_drewN | apply Kd.R_drew)); exact Kd.R_mono HO988.out (fun _ hk => trivial)⟩, ⟨rq HO980.out⟩, ⟨kq BK985.out⟩, ⟨q9⟩⟩
     ·rw [if_neg c17] at H
      have c17b0 : decide (t984 < 0) = false := decide_eq_false c17
      clear c17
      (first | rw [c17b0] | (simp only [i64_w, i32_w]; rw [c17b0]) | skip)
      have H' := am H
      clear H
      have hcz24_0 := bc0 BK985.out
      have hfz24_0 := blk_frozen BK985.out 0
      go_wp2_with (first | (go_at_call 28; (with_reducible refine (spec_EnclosingOf.calls k _ _ t978 _ _ t981 t984 t989 _ ?side1 ?side2 ?side3 ?side4 A12.out).mono ?_); (case side1 => exact cq (Kd.R_reads' HO980.out).2.2); (case side2 => exact (Kd.R_reads' HO980.out).2.1); (case side3 => exact cq (Kd.Q_reads' HO983.out).2.2); (case side4 => exact (Kd.Q_reads' HO983.out).2.1); rintro e w25 ⟨v990, rfl, ho0, hb⟩; have HO991 := am (Kd.R_lower (Kd.R_new' ho0 (Kd.R_lt (rq HO988.out))) (below_size (q9))); replace HO980 := am (Kd.R_below (rq HO980.out) hb); replace HO983 := am (Kd.Q_below (by (with_reducible repeat (first | apply Kd.Q_alloc | apply Kd.Q_drewN | apply Kd.Q_drew)); exact HO983.out) hb); replace HO988 := am (Kd.R_elder' (rq HO988.out) (Kd.R_base ho0) hb); replace BK985 := am (blk_below (g := gb985) (o := .cells #[.slice Ao8 t978.length co8] 32 (0, 0)) (kq BK985.out) hb); replace HB := am (below_step (q9) hb); (try clear hb); (try clear hb2); (try clear hk); (try clear hi); (try clear ho0); obtain ⟨Ao26, co26, eo26⟩ := Kd.R_slice HO988.out; subst eo26; obtain ⟨Ao27, co27, eo27⟩ := Kd.R_slice HO991.out; subst eo27) | (go_at_call 27; (with_reducible refine (laws_equalInts.calls k _ _ t986 _ _ t989 true _ ?side1 ?side2 ?side3 ?side4 A13.out).mono ?_); (case side1 => exact cq (Kd.R_reads' HO988.out).2.2); (case side2 => exact (Kd.R_reads' HO988.out).2.1); (case side3 => exact cq (Kd.R_reads' HO991.out).2.2); (case side4 => exact (Kd.R_reads' HO991.out).2.1); rintro e w' ⟨rfl, ⟨nd, rfl⟩⟩; (try first | exact ⟨rfl, _, World.drewN_drewN _ _ _⟩ | exact ⟨rfl, _, Eq.trans (World.drewN_drewN _ _ _) (congrArg (World.drewN _) (Nat.add_assoc _ _ _))⟩); have hcz28_0 := bc0 BK985.out; have hfz28_0 := blk_frozen BK985.out 0) | (go_at_call 29; (with_reducible refine (impl_ValidProgram.calls k _ _ t978 _ _ t981 true _ ?side1 ?side2 ?side3 ?side4 A15.out).mono ?_); (case side1 => exact cq (Kd.R_reads' HO980.out).2.2); (case side2 => exact (Kd.R_reads' HO980.out).2.1); (case side3 => exact cq (Kd.Q_reads' HO983.out).2.2); (case side4 => exact (Kd.Q_reads' HO983.out).2.1); rintro e w29 ⟨rfl, hb⟩; replace HO980 := am (Kd.R_below (rq HO980.out) hb); replace HO983 := am (Kd.Q_below (by (with_reducible repeat (first | apply Kd.Q_alloc | apply Kd.Q_drewN | apply Kd.Q_drew)); exact HO983.out) hb); replace HO988 := am (Kd.R_below (rq HO988.out) hb); replace HO991 := am (Kd.R_below (rq HO991.out) hb); replace BK985 := am (blk_below (g := gb985) (o := .cells #[.slice Ao8 t978.length co8] 32 (0, 0)) (kq BK985.out) hb); replace HB := am (below_step (q9) hb); (try clear hb); (try clear hb2); (try clear hk); (try clear hi)))
      repeat (go_quiet (first | (go_at_call 28; (with_reducible refine (spec_EnclosingOf.calls k _ _ t978 _ _ t981 t984 t989 _ ?side1 ?side2 ?side3 ?side4 A12.out).mono ?_); (case side1 => exact cq (Kd.R_reads' HO980.out).2.2); (case side2 => exact (Kd.R_reads' HO980.out).2.1); (case side3 => exact cq (Kd.Q_reads' HO983.out).2.2); (case side4 => exact (Kd.Q_reads' HO983.out).2.1); rintro e w25 ⟨v990, rfl, ho0, hb⟩; have HO991 := am (Kd.R_lower (Kd.R_new' ho0 (Kd.R_lt (rq HO988.out))) (below_size (q9))); replace HO980 := am (Kd.R_below (rq HO980.out) hb); replace HO983 := am (Kd.Q_below (by (with_reducible repeat (first | apply Kd.Q_alloc | apply Kd.Q_drewN | apply Kd.Q_drew)); exact HO983.out) hb); replace HO988 := am (Kd.R_elder' (rq HO988.out) (Kd.R_base ho0) hb); replace BK985 := am (blk_below (g := gb985) (o := .cells #[.slice Ao8 t978.length co8] 32 (0, 0)) (kq BK985.out) hb); replace HB := am (below_step (q9) hb); (try clear hb); (try clear hb2); (try clear hk); (try clear hi); (try clear ho0); obtain ⟨Ao26, co26, eo26⟩ := Kd.R_slice HO988.out; subst eo26; obtain ⟨Ao27, co27, eo27⟩ := Kd.R_slice HO991.out; subst eo27) | (go_at_call 27; (with_reducible refine (laws_equalInts.calls k _ _ t986 _ _ t989 true _ ?side1 ?side2 ?side3 ?side4 A13.out).mono ?_); (case side1 => exact cq (Kd.R_reads' HO988.out).2.2); (case side2 => exact (Kd.R_reads' HO988.out).2.1); (case side3 => exact cq (Kd.R_reads' HO991.out).2.2); (case side4 => exact (Kd.R_reads' HO991.out).2.1); rintro e w' ⟨rfl, ⟨nd, rfl⟩⟩; (try first | exact ⟨rfl, _, World.drewN_drewN _ _ _⟩ | exact ⟨rfl, _, Eq.trans (World.drewN_drewN _ _ _) (congrArg (World.drewN _) (Nat.add_assoc _ _ _))⟩); have hcz28_0 := bc0 BK985.out; have hfz28_0 := blk_frozen BK985.out 0) | (go_at_call 29; (with_reducible refine (impl_ValidProgram.calls k _ _ t978 _ _ t981 true _ ?side1 ?side2 ?side3 ?side4 A15.out).mono ?_); (case side1 => exact cq (Kd.R_reads' HO980.out).2.2); (case side2 => exact (Kd.R_reads' HO980.out).2.1); (case side3 => exact cq (Kd.Q_reads' HO983.out).2.2); (case side4 => exact (Kd.Q_reads' HO983.out).2.1); rintro e w29 ⟨rfl, hb⟩; replace HO980 := am (Kd.R_below (rq HO980.out) hb); replace HO983 := am (Kd.Q_below (by (with_reducible repeat (first | apply Kd.Q_alloc | apply Kd.Q_drewN | apply Kd.Q_drew)); exact HO983.out) hb); replace HO988 := am (Kd.R_below (rq HO988.out) hb); replace HO991 := am (Kd.R_below (rq HO991.out) hb); replace BK985 := am (blk_below (g := gb985) (o := .cells #[.slice Ao8 t978.length co8] 32 (0, 0)) (kq BK985.out) hb); replace HB := am (below_step (q9) hb); (try clear hb); (try clear hb2); (try clear hk); (try clear hi))); try go_wp2_with (first | (go_at_call 28; (with_reducible refine (spec_EnclosingOf.calls k _ _ t978 _ _ t981 t984 t989 _ ?side1 ?side2 ?side3 ?side4 A12.out).mono ?_); (case side1 => exact cq (Kd.R_reads' HO980.out).2.2); (case side2 => exact (Kd.R_reads' HO980.out).2.1); (case side3 => exact cq (Kd.Q_reads' HO983.out).2.2); (case side4 => exact (Kd.Q_reads' HO983.out).2.1); rintro e w25 ⟨v990, rfl, ho0, hb⟩; have HO991 := am (Kd.R_lower (Kd.R_new' ho0 (Kd.R_lt (rq HO988.out))) (below_size (q9))); replace HO980 := am (Kd.R_below (rq HO980.out) hb); replace HO983 := am (Kd.Q_below (by (with_reducible repeat (first | apply Kd.Q_alloc | apply Kd.Q_drewN | apply Kd.Q_drew)); exact HO983.out) hb); replace HO988 := am (Kd.R_elder' (rq HO988.out) (Kd.R_base ho0) hb); replace BK985 := am (blk_below (g := gb985) (o := .cells #[.slice Ao8 t978.length co8] 32 (0, 0)) (kq BK985.out) hb); replace HB := am (below_step (q9) hb); (try clear hb); (try clear hb2); (try clear hk); (try clear hi); (try clear ho0); obtain ⟨Ao26, co26, eo26⟩ := Kd.R_slice HO988.out; subst eo26; obtain ⟨Ao27, co27, eo27⟩ := Kd.R_slice HO991.out; subst eo27) | (go_at_call 27; (with_reducible refine (laws_equalInts.calls k _ _ t986 _ _ t989 true _ ?side1 ?side2 ?side3 ?side4 A13.out).mono ?_); (case side1 => exact cq (Kd.R_reads' HO988.out).2.2); (case side2 => exact (Kd.R_reads' HO988.out).2.1); (case side3 => exact cq (Kd.R_reads' HO991.out).2.2); (case side4 => exact (Kd.R_reads' HO991.out).2.1); rintro e w' ⟨rfl, ⟨nd, rfl⟩⟩; (try first | exact ⟨rfl, _, World.drewN_drewN _ _ _⟩ | exact ⟨rfl, _, Eq.trans (World.drewN_drewN _ _ _) (congrArg (World.drewN _) (Nat.add_assoc _ _ _))⟩); have hcz28_0 := bc0 BK985.out; have hfz28_0 := blk_frozen BK985.out 0) | (go_at_call 29; (with_reducible refine (impl_ValidProgram.calls k _ _ t978 _ _ t981 true _ ?side1 ?side2 ?side3 ?side4 A15.out).mono ?_); (case side1 => exact cq (Kd.R_reads' HO980.out).2.2); (case side2 => exact (Kd.R_reads' HO980.out).2.1); (case side3 => exact cq (Kd.Q_reads' HO983.out).2.2); (case side4 => exact (Kd.Q_reads' HO983.out).2.1); rintro e w29 ⟨rfl, hb⟩; replace HO980 := am (Kd.R_below (rq HO980.out) hb); replace HO983 := am (Kd.Q_below (by (with_reducible repeat (first | apply Kd.Q_alloc | apply Kd.Q_drewN | apply Kd.Q_drew)); exact HO983.out) hb); replace HO988 := am (Kd.R_below (rq HO988.out) hb); replace HO991 := am (Kd.R_below (rq HO991.out) hb); replace BK985 := am (blk_below (g := gb985) (o := .cells #[.slice Ao8 t978.length co8] 32 (0, 0)) (kq BK985.out) hb); replace HB := am (below_step (q9) hb); (try clear hb); (try clear hb2); (try clear hk); (try clear hi))))
      go_meet
      case rel => exact ⟨_, (decide (t984 ≥ (t981.length : Int))), (sq), H', ⟨q16⟩, ⟨by (with_reducible repeat (first | apply Kd.Q_alloc | apply Kd.Q_drewN | apply Kd.Q_drew)); exact HO983.out⟩, ⟨by (with_reducible repeat (first | apply Kd.R_alloc | apply Kd.R_drewN | apply Kd.R_drew)); exact Kd.R_mono HO988.out (fun _ hk => trivial)⟩, ⟨rq HO980.out⟩, ⟨kq BK985.out⟩, ⟨q9⟩⟩
    ·replace c16 := Bool.eq_false_iff.mpr c16
     subst c16
     have H1 : (laws_FnEnclosingOf.j0 k t981 t984 t986 true t978) = some r := by rw [if_neg (show ¬ (false = true) by decide)] at H; exact H
     clear H
     have H := H1
     clear H1
     have H' := am H
     clear H
     have hcz30_0 := bc0 BK985.out
     have hfz30_0 := blk_frozen BK985.out 0
     go_wp2_with (first | (go_at_call 28; (with_reducible refine (spec_EnclosingOf.calls k _ _ t978 _ _ t981 t984 t989 _ ?side1 ?side2 ?side3 ?side4 A12.out).mono ?_); (case side1 => exact cq (Kd.R_reads' HO980.out).2.2); (case side2 => exact (Kd.R_reads' HO980.out).2.1); (case side3 => exact cq (Kd.Q_reads' HO983.out).2.2); (case side4 => exact (Kd.Q_reads' HO983.out).2.1); rintro e w31 ⟨v990, rfl, ho0, hb⟩; have HO991 := am (Kd.R_lower (Kd.R_new' ho0 (Kd.R_lt (rq HO988.out))) (below_size (q9))); replace HO980 := am (Kd.R_below (rq HO980.out) hb); replace HO983 := am (Kd.Q_below (by (with_reducible repeat (first | apply Kd.Q_alloc | apply Kd.Q_drewN | apply Kd.Q_drew)); exact HO983.out) hb); replace HO988 := am (Kd.R_elder' (rq HO988.out) (Kd.R_base ho0) hb); replace BK985 := am (blk_below (g := gb985) (o := .cells #[.slice Ao8 t978.length co8] 32 (0, 0)) (kq BK985.out) hb); replace HB := am (below_step (q9) hb); (try clear hb); (try clear hb2); (try clear hk); (try clear hi); (try clear ho0); obtain ⟨Ao32, co32, eo32⟩ := Kd.R_slice HO988.out; subst eo32; obtain ⟨Ao33, co33, eo33⟩ := Kd.R_slice HO991.out; subst eo33) | (go_at_call 27; (with_reducible refine (laws_equalInts.calls k _ _ t986 _ _ t989 true _ ?side1 ?side2 ?side3 ?side4 A13.out).mono ?_); (case side1 => exact cq (Kd.R_reads' HO988.out).2.2); (case side2 => exact (Kd.R_reads' HO988.out).2.1); (case side3 => exact cq (Kd.R_reads' HO991.out).2.2); (case side4 => exact (Kd.R_reads' HO991.out).2.1); rintro e w' ⟨rfl, ⟨nd, rfl⟩⟩; (try first | exact ⟨rfl, _, World.drewN_drewN _ _ _⟩ | exact ⟨rfl, _, Eq.trans (World.drewN_drewN _ _ _) (congrArg (World.drewN _) (Nat.add_assoc _ _ _))⟩); have hcz34_0 := bc0 BK985.out; have hfz34_0 := blk_frozen BK985.out 0) | (go_at_call 29; (with_reducible refine (impl_ValidProgram.calls k _ _ t978 _ _ t981 false _ ?side1 ?side2 ?side3 ?side4 A15.out).mono ?_); (case side1 => exact cq (Kd.R_reads' HO980.out).2.2); (case side2 => exact (Kd.R_reads' HO980.out).2.1); (case side3 => exact cq (Kd.Q_reads' HO983.out).2.2); (case side4 => exact (Kd.Q_reads' HO983.out).2.1); rintro e w35 ⟨rfl, hb⟩; replace HO980 := am (Kd.R_below (rq HO980.out) hb); replace HO983 := am (Kd.Q_below (by (with_reducible repeat (first | apply Kd.Q_alloc | apply Kd.Q_drewN | apply Kd.Q_drew)); exact HO983.out) hb); replace HO988 := am (Kd.R_below (rq HO988.out) hb); replace HO991 := am (Kd.R_below (rq HO991.out) hb); replace BK985 := am (blk_below (g := gb985) (o := .cells #[.slice Ao8 t978.length co8] 32 (0, 0)) (kq BK985.out) hb); replace HB := am (below_step (q9) hb); (try clear hb); (try clear hb2); (try clear hk); (try clear hi)))
     repeat (go_quiet (first | (go_at_call 28; (with_reducible refine (spec_EnclosingOf.calls k _ _ t978 _ _ t981 t984 t989 _ ?side1 ?side2 ?side3 ?side4 A12.out).mono ?_); (case side1 => exact cq (Kd.R_reads' HO980.out).2.2); (case side2 => exact (Kd.R_reads' HO980.out).2.1); (case side3 => exact cq (Kd.Q_reads' HO983.out).2.2); (case side4 => exact (Kd.Q_reads' HO983.out).2.1); rintro e w31 ⟨v990, rfl, ho0, hb⟩; have HO991 := am (Kd.R_lower (Kd.R_new' ho0 (Kd.R_lt (rq HO988.out))) (below_size (q9))); replace HO980 := am (Kd.R_below (rq HO980.out) hb); replace HO983 := am (Kd.Q_below (by (with_reducible repeat (first | apply Kd.Q_alloc | apply Kd.Q_drewN | apply Kd.Q_drew)); exact HO983.out) hb); replace HO988 := am (Kd.R_elder' (rq HO988.out) (Kd.R_base ho0) hb); replace BK985 := am (blk_below (g := gb985) (o := .cells #[.slice Ao8 t978.length co8] 32 (0, 0)) (kq BK985.out) hb); replace HB := am (below_step (q9) hb); (try clear hb); (try clear hb2); (try clear hk); (try clear hi); (try clear ho0); obtain ⟨Ao32, co32, eo32⟩ := Kd.R_slice HO988.out; subst eo32; obtain ⟨Ao33, co33, eo33⟩ := Kd.R_slice HO991.out; subst eo33) | (go_at_call 27; (with_reducible refine (laws_equalInts.calls k _ _ t986 _ _ t989 true _ ?side1 ?side2 ?side3 ?side4 A13.out).mono ?_); (case side1 => exact cq (Kd.R_reads' HO988.out).2.2); (case side2 => exact (Kd.R_reads' HO988.out).2.1); (case side3 => exact cq (Kd.R_reads' HO991.out).2.2); (case side4 => exact (Kd.R_reads' HO991.out).2.1); rintro e w' ⟨rfl, ⟨nd, rfl⟩⟩; (try first | exact ⟨rfl, _, World.drewN_drewN _ _ _⟩ | exact ⟨rfl, _, Eq.trans (World.drewN_drewN _ _ _) (congrArg (World.drewN _) (Nat.add_assoc _ _ _))⟩); have hcz34_0 := bc0 BK985.out; have hfz34_0 := blk_frozen BK985.out 0) | (go_at_call 29; (with_reducible refine (impl_ValidProgram.calls k _ _ t978 _ _ t981 false _ ?side1 ?side2 ?side3 ?side4 A15.out).mono ?_); (case side1 => exact cq (Kd.R_reads' HO980.out).2.2); (case side2 => exact (Kd.R_reads' HO980.out).2.1); (case side3 => exact cq (Kd.Q_reads' HO983.out).2.2); (case side4 => exact (Kd.Q_reads' HO983.out).2.1); rintro e w35 ⟨rfl, hb⟩; replace HO980 := am (Kd.R_below (rq HO980.out) hb); replace HO983 := am (Kd.Q_below (by (with_reducible repeat (first | apply Kd.Q_alloc | apply Kd.Q_drewN | apply Kd.Q_drew)); exact HO983.out) hb); replace HO988 := am (Kd.R_below (rq HO988.out) hb); replace HO991 := am (Kd.R_below (rq HO991.out) hb); replace BK985 := am (blk_below (g := gb985) (o := .cells #[.slice Ao8 t978.length co8] 32 (0, 0)) (kq BK985.out) hb); replace HB := am (below_step (q9) hb); (try clear hb); (try clear hb2); (try clear hk); (try clear hi))); try go_wp2_with (first | (go_at_call 28; (with_reducible refine (spec_EnclosingOf.calls k _ _ t978 _ _ t981 t984 t989 _ ?side1 ?side2 ?side3 ?side4 A12.out).mono ?_); (case side1 => exact cq (Kd.R_reads' HO980.out).2.2); (case side2 => exact (Kd.R_reads' HO980.out).2.1); (case side3 => exact cq (Kd.Q_reads' HO983.out).2.2); (case side4 => exact (Kd.Q_reads' HO983.out).2.1); rintro e w31 ⟨v990, rfl, ho0, hb⟩; have HO991 := am (Kd.R_lower (Kd.R_new' ho0 (Kd.R_lt (rq HO988.out))) (below_size (q9))); replace HO980 := am (Kd.R_below (rq HO980.out) hb); replace HO983 := am (Kd.Q_below (by (with_reducible repeat (first | apply Kd.Q_alloc | apply Kd.Q_drewN | apply Kd.Q_drew)); exact HO983.out) hb); replace HO988 := am (Kd.R_elder' (rq HO988.out) (Kd.R_base ho0) hb); replace BK985 := am (blk_below (g := gb985) (o := .cells #[.slice Ao8 t978.length co8] 32 (0, 0)) (kq BK985.out) hb); replace HB := am (below_step (q9) hb); (try clear hb); (try clear hb2); (try clear hk); (try clear hi); (try clear ho0); obtain ⟨Ao32, co32, eo32⟩ := Kd.R_slice HO988.out; subst eo32; obtain ⟨Ao33, co33, eo33⟩ := Kd.R_slice HO991.out; subst eo33) | (go_at_call 27; (with_reducible refine (laws_equalInts.calls k _ _ t986 _ _ t989 true _ ?side1 ?side2 ?side3 ?side4 A13.out).mono ?_); (case side1 => exact cq (Kd.R_reads' HO988.out).2.2); (case side2 => exact (Kd.R_reads' HO988.out).2.1); (case side3 => exact cq (Kd.R_reads' HO991.out).2.2); (case side4 => exact (Kd.R_reads' HO991.out).2.1); rintro e w' ⟨rfl, ⟨nd, rfl⟩⟩; (try first | exact ⟨rfl, _, World.drewN_drewN _ _ _⟩ | exact ⟨rfl, _, Eq.trans (World.drewN_drewN _ _ _) (congrArg (World.drewN _) (Nat.add_assoc _ _ _))⟩); have hcz34_0 := bc0 BK985.out; have hfz34_0 := blk_frozen BK985.out 0) | (go_at_call 29; (with_reducible refine (impl_ValidProgram.calls k _ _ t978 _ _ t981 false _ ?side1 ?side2 ?side3 ?side4 A15.out).mono ?_); (case side1 => exact cq (Kd.R_reads' HO980.out).2.2); (case side2 => exact (Kd.R_reads' HO980.out).2.1); (case side3 => exact cq (Kd.Q_reads' HO983.out).2.2); (case side4 => exact (Kd.Q_reads' HO983.out).2.1); rintro e w35 ⟨rfl, hb⟩; replace HO980 := am (Kd.R_below (rq HO980.out) hb); replace HO983 := am (Kd.Q_below (by (with_reducible repeat (first | apply Kd.Q_alloc | apply Kd.Q_drewN | apply Kd.Q_drew)); exact HO983.out) hb); replace HO988 := am (Kd.R_below (rq HO988.out) hb); replace HO991 := am (Kd.R_below (rq HO991.out) hb); replace BK985 := am (blk_below (g := gb985) (o := .cells #[.slice Ao8 t978.length co8] 32 (0, 0)) (kq BK985.out) hb); replace HB := am (below_step (q9) hb); (try clear hb); (try clear hb2); (try clear hk); (try clear hi))))
     go_meet
     case rel => exact ⟨_, (true), (sq), H', ⟨q16⟩, ⟨by (with_reducible repeat (first | apply Kd.Q_alloc | apply Kd.Q_drewN | apply Kd.Q_drew)); exact HO983.out⟩, ⟨by (with_reducible repeat (first | apply Kd.R_alloc | apply Kd.R_drewN | apply Kd.R_drew)); exact Kd.R_mono HO988.out (fun _ hk => trivial)⟩, ⟨rq HO980.out⟩, ⟨kq BK985.out⟩, ⟨q9⟩⟩
   ·replace c14 := Bool.eq_false_iff.mpr c14
    subst c14
    have H1 : (laws_FnEnclosingOf.j0 k t981 t984 t986 true t978) = some r := by rw [if_neg (show ¬ (false = true) by decide)] at H; exact H
    clear H
    have H := H1
    clear H1
    have H' := am H
    clear H
    have hcz36_0 := bc0 BK985.out
    have hfz36_0 := blk_frozen BK985.out 0
    go_wp2_with (first | (go_at_call 28; (with_reducible refine (spec_EnclosingOf.calls k _ _ t978 _ _ t981 t984 t989 _ ?side1 ?side2 ?side3 ?side4 A12.out).mono ?_); (case side1 => exact cq (Kd.R_reads' HO980.out).2.2); (case side2 => exact (Kd.R_reads' HO980.out).2.1); (case side3 => exact cq (Kd.Q_reads' HO983.out).2.2); (case side4 => exact (Kd.Q_reads' HO983.out).2.1); rintro e w37 ⟨v990, rfl, ho0, hb⟩; have HO991 := am (Kd.R_lower (Kd.R_new' ho0 (Kd.R_lt (rq HO988.out))) (below_size (q9))); replace HO980 := am (Kd.R_below (rq HO980.out) hb); replace HO983 := am (Kd.Q_below (by (with_reducible repeat (first | apply Kd.Q_alloc | apply Kd.Q_drewN | apply Kd.Q_drew)); exact HO983.out) hb); replace HO988 := am (Kd.R_elder' (rq HO988.out) (Kd.R_base ho0) hb); replace BK985 := am (blk_below (g := gb985) (o := .cells #[.slice Ao8 t978.length co8] 32 (0, 0)) (kq BK985.out) hb); replace HB := am (below_step (q9) hb); (try clear hb); (try clear hb2); (try clear hk); (try clear hi); (try clear ho0); obtain ⟨Ao38, co38, eo38⟩ := Kd.R_slice HO988.out; subst eo38; obtain ⟨Ao39, co39, eo39⟩ := Kd.R_slice HO991.out; subst eo39) | (go_at_call 27; (with_reducible refine (laws_equalInts.calls k _ _ t986 _ _ t989 false _ ?side1 ?side2 ?side3 ?side4 A13.out).mono ?_); (case side1 => exact cq (Kd.R_reads' HO988.out).2.2); (case side2 => exact (Kd.R_reads' HO988.out).2.1); (case side3 => exact cq (Kd.R_reads' HO991.out).2.2); (case side4 => exact (Kd.R_reads' HO991.out).2.1); rintro e w' ⟨rfl, ⟨nd, rfl⟩⟩; (try first | exact ⟨rfl, _, World.drewN_drewN _ _ _⟩ | exact ⟨rfl, _, Eq.trans (World.drewN_drewN _ _ _) (congrArg (World.drewN _) (Nat.add_assoc _ _ _))⟩)))
    repeat (go_quiet (first | (go_at_call 28; (with_reducible refine (spec_EnclosingOf.calls k _ _ t978 _ _ t981 t984 t989 _ ?side1 ?side2 ?side3 ?side4 A12.out).mono ?_); (case side1 => exact cq (Kd.R_reads' HO980.out).2.2); (case side2 => exact (Kd.R_reads' HO980.out).2.1); (case side3 => exact cq (Kd.Q_reads' HO983.out).2.2); (case side4 => exact (Kd.Q_reads' HO983.out).2.1); rintro e w37 ⟨v990, rfl, ho0, hb⟩; have HO991 := am (Kd.R_lower (Kd.R_new' ho0 (Kd.R_lt (rq HO988.out))) (below_size (q9))); replace HO980 := am (Kd.R_below (rq HO980.out) hb); replace HO983 := am (Kd.Q_below (by (with_reducible repeat (first | apply Kd.Q_alloc | apply Kd.Q_drewN | apply Kd.Q_drew)); exact HO983.out) hb); replace HO988 := am (Kd.R_elder' (rq HO988.out) (Kd.R_base ho0) hb); replace BK985 := am (blk_below (g := gb985) (o := .cells #[.slice Ao8 t978.length co8] 32 (0, 0)) (kq BK985.out) hb); replace HB := am (below_step (q9) hb); (try clear hb); (try clear hb2); (try clear hk); (try clear hi); (try clear ho0); obtain ⟨Ao38, co38, eo38⟩ := Kd.R_slice HO988.out; subst eo38; obtain ⟨Ao39, co39, eo39⟩ := Kd.R_slice HO991.out; subst eo39) | (go_at_call 27; (with_reducible refine (laws_equalInts.calls k _ _ t986 _ _ t989 false _ ?side1 ?side2 ?side3 ?side4 A13.out).mono ?_); (case side1 => exact cq (Kd.R_reads' HO988.out).2.2); (case side2 => exact (Kd.R_reads' HO988.out).2.1); (case side3 => exact cq (Kd.R_reads' HO991.out).2.2); (case side4 => exact (Kd.R_reads' HO991.out).2.1); rintro e w' ⟨rfl, ⟨nd, rfl⟩⟩; (try first | exact ⟨rfl, _, World.drewN_drewN _ _ _⟩ | exact ⟨rfl, _, Eq.trans (World.drewN_drewN _ _ _) (congrArg (World.drewN _) (Nat.add_assoc _ _ _))⟩))); try go_wp2_with (first | (go_at_call 28; (with_reducible refine (spec_EnclosingOf.calls k _ _ t978 _ _ t981 t984 t989 _ ?side1 ?side2 ?side3 ?side4 A12.out).mono ?_); (case side1 => exact cq (Kd.R_reads' HO980.out).2.2); (case side2 => exact (Kd.R_reads' HO980.out).2.1); (case side3 => exact cq (Kd.Q_reads' HO983.out).2.2); (case side4 => exact (Kd.Q_reads' HO983.out).2.1); rintro e w37 ⟨v990, rfl, ho0, hb⟩; have HO991 := am (Kd.R_lower (Kd.R_new' ho0 (Kd.R_lt (rq HO988.out))) (below_size (q9))); replace HO980 := am (Kd.R_below (rq HO980.out) hb); replace HO983 := am (Kd.Q_below (by (with_reducible repeat (first | apply Kd.Q_alloc | apply Kd.Q_drewN | apply Kd.Q_drew)); exact HO983.out) hb); replace HO988 := am (Kd.R_elder' (rq HO988.out) (Kd.R_base ho0) hb); replace BK985 := am (blk_below (g := gb985) (o := .cells #[.slice Ao8 t978.length co8] 32 (0, 0)) (kq BK985.out) hb); replace HB := am (below_step (q9) hb); (try clear hb); (try clear hb2); (try clear hk); (try clear hi); (try clear ho0); obtain ⟨Ao38, co38, eo38⟩ := Kd.R_slice HO988.out; subst eo38; obtain ⟨Ao39, co39, eo39⟩ := Kd.R_slice HO991.out; subst eo39) | (go_at_call 27; (with_reducible refine (laws_equalInts.calls k _ _ t986 _ _ t989 false _ ?side1 ?side2 ?side3 ?side4 A13.out).mono ?_); (case side1 => exact cq (Kd.R_reads' HO988.out).2.2); (case side2 => exact (Kd.R_reads' HO988.out).2.1); (case side3 => exact cq (Kd.R_reads' HO991.out).2.2); (case side4 => exact (Kd.R_reads' HO991.out).2.1); rintro e w' ⟨rfl, ⟨nd, rfl⟩⟩; (try first | exact ⟨rfl, _, World.drewN_drewN _ _ _⟩ | exact ⟨rfl, _, Eq.trans (World.drewN_drewN _ _ _) (congrArg (World.drewN _) (Nat.add_assoc _ _ _))⟩))))
    go_meet
    case rel => exact ⟨_, (true), (sq), H', ⟨q16⟩, ⟨by (with_reducible repeat (first | apply Kd.Q_alloc | apply Kd.Q_drewN | apply Kd.Q_drew)); exact HO983.out⟩, ⟨by (with_reducible repeat (first | apply Kd.R_alloc | apply Kd.R_drewN | apply Kd.R_drew)); exact Kd.R_mono HO988.out (fun _ hk => trivial)⟩, ⟨rq HO980.out⟩, ⟨kq BK985.out⟩, ⟨q9⟩⟩
  case rest =>
   clear HC5
   try clear c1
   try clear c2
   try clear c2b0
   try clear c2b1
   try clear p2
   try clear c5
   try clear c14
   try clear c16
   try clear c17
   try clear c17b0
   try clear hcz18_0
   try clear hcz22_0
   try clear hcz24_0
   try clear hcz28_0
   try clear hcz30_0
   try clear hcz34_0
   try clear hcz36_0
   try clear hcz9_0
   try clear hfz18_0
   try clear hfz22_0
   try clear hfz24_0
   try clear hfz28_0
   try clear hfz30_0
   try clear hfz34_0
   try clear hfz36_0
   try clear hfz9_0
   obtain ⟨kq, x43_4, rfl, HA, HJ4, HO_4, HO_6, HO_986000, BK985, HB⟩ := hcut
   cases kq with
   | zero => exact absurd HA.out (by simp [laws_FnEnclosingOf.j0])
   | succ kj4 =>
    have H := HA.out
    clear HA
    simp only [laws_FnEnclosingOf.j0] at H
    by_cases c40 : x43_4 = true
    ·subst c40
     have H1 : ((spec_EnclosingOf.f kj4 t978 t981 t984).bind fun t994 => ((laws_equalInts.f kj4 t986 t994).bind fun t997 => (some t997))) = some r := by rw [if_pos rfl] at H; exact H
     clear H
     have H := H1
     clear H1
     replace H := Option.bind_eq_some_iff.mp H
     obtain ⟨t994, A410, H⟩ := H
     replace H : ((laws_equalInts.f kj4 t986 t994).bind fun t997 => (some t997)) = some r := H
     have A41 := am A410
     clear A410
     replace H := Option.bind_eq_some_iff.mp H
     obtain ⟨t997, A420, H⟩ := H
     replace H : (some t997) = some r := H
     have A42 := am A420
     clear A420
     obtain rfl := Option.some.inj H
     have hcz43_0 := bc0 BK985.out
     have hfz43_0 := blk_frozen BK985.out 0
     go_wp2_with (first | (go_at_call 28; (with_reducible refine (spec_EnclosingOf.calls kj4 _ _ t978 _ _ t981 t984 t994 _ ?side1 ?side2 ?side3 ?side4 A41.out).mono ?_); (case side1 => exact cq (Kd.R_reads' HO_986000.out).2.2); (case side2 => exact (Kd.R_reads' HO_986000.out).2.1); (case side3 => exact cq (Kd.Q_reads' HO_4.out).2.2); (case side4 => exact (Kd.Q_reads' HO_4.out).2.1); rintro e w44 ⟨v995, rfl, ho0, hb⟩; have HO996 := am (Kd.R_lower (Kd.R_new' ho0 (Kd.R_lt (rq HO_6.out))) (below_size (q9))); replace HO_4 := am (Kd.Q_below (by (with_reducible repeat (first | apply Kd.Q_alloc | apply Kd.Q_drewN | apply Kd.Q_drew)); exact HO_4.out) hb); replace HO_6 := am (Kd.R_elder' (rq HO_6.out) (Kd.R_base ho0) hb); replace HO_986000 := am (Kd.R_below (rq HO_986000.out) hb); replace BK985 := am (blk_below (g := gb985) (o := .cells #[.slice Ao8 t978.length co8] 32 (0, 0)) (kq BK985.out) hb); replace HB := am (below_step (q9) hb); (try clear hb); (try clear hb2); (try clear hk); (try clear hi); (try clear ho0); obtain ⟨Ao45, co45, eo45⟩ := Kd.R_slice HO_6.out; subst eo45; obtain ⟨Ao46, co46, eo46⟩ := Kd.R_slice HO996.out; subst eo46) | (go_at_call 27; (with_reducible refine (laws_equalInts.calls kj4 _ _ t986 _ _ t994 t997 _ ?side1 ?side2 ?side3 ?side4 A42.out).mono ?_); (case side1 => exact cq (Kd.R_reads' HO_6.out).2.2); (case side2 => exact (Kd.R_reads' HO_6.out).2.1); (case side3 => exact cq (Kd.R_reads' HO996.out).2.2); (case side4 => exact (Kd.R_reads' HO996.out).2.1); rintro e w' ⟨rfl, ⟨nd, rfl⟩⟩; (try first | exact ⟨rfl, _, World.drewN_drewN _ _ _⟩ | exact ⟨rfl, _, Eq.trans (World.drewN_drewN _ _ _) (congrArg (World.drewN _) (Nat.add_assoc _ _ _))⟩)))
     repeat (go_quiet (first | (go_at_call 28; (with_reducible refine (spec_EnclosingOf.calls kj4 _ _ t978 _ _ t981 t984 t994 _ ?side1 ?side2 ?side3 ?side4 A41.out).mono ?_); (case side1 => exact cq (Kd.R_reads' HO_986000.out).2.2); (case side2 => exact (Kd.R_reads' HO_986000.out).2.1); (case side3 => exact cq (Kd.Q_reads' HO_4.out).2.2); (case side4 => exact (Kd.Q_reads' HO_4.out).2.1); rintro e w44 ⟨v995, rfl, ho0, hb⟩; have HO996 := am (Kd.R_lower (Kd.R_new' ho0 (Kd.R_lt (rq HO_6.out))) (below_size (q9))); replace HO_4 := am (Kd.Q_below (by (with_reducible repeat (first | apply Kd.Q_alloc | apply Kd.Q_drewN | apply Kd.Q_drew)); exact HO_4.out) hb); replace HO_6 := am (Kd.R_elder' (rq HO_6.out) (Kd.R_base ho0) hb); replace HO_986000 := am (Kd.R_below (rq HO_986000.out) hb); replace BK985 := am (blk_below (g := gb985) (o := .cells #[.slice Ao8 t978.length co8] 32 (0, 0)) (kq BK985.out) hb); replace HB := am (below_step (q9) hb); (try clear hb); (try clear hb2); (try clear hk); (try clear hi); (try clear ho0); obtain ⟨Ao45, co45, eo45⟩ := Kd.R_slice HO_6.out; subst eo45; obtain ⟨Ao46, co46, eo46⟩ := Kd.R_slice HO996.out; subst eo46) | (go_at_call 27; (with_reducible refine (laws_equalInts.calls kj4 _ _ t986 _ _ t994 t997 _ ?side1 ?side2 ?side3 ?side4 A42.out).mono ?_); (case side1 => exact cq (Kd.R_reads' HO_6.out).2.2); (case side2 => exact (Kd.R_reads' HO_6.out).2.1); (case side3 => exact cq (Kd.R_reads' HO996.out).2.2); (case side4 => exact (Kd.R_reads' HO996.out).2.1); rintro e w' ⟨rfl, ⟨nd, rfl⟩⟩; (try first | exact ⟨rfl, _, World.drewN_drewN _ _ _⟩ | exact ⟨rfl, _, Eq.trans (World.drewN_drewN _ _ _) (congrArg (World.drewN _) (Nat.add_assoc _ _ _))⟩))); try go_wp2_with (first | (go_at_call 28; (with_reducible refine (spec_EnclosingOf.calls kj4 _ _ t978 _ _ t981 t984 t994 _ ?side1 ?side2 ?side3 ?side4 A41.out).mono ?_); (case side1 => exact cq (Kd.R_reads' HO_986000.out).2.2); (case side2 => exact (Kd.R_reads' HO_986000.out).2.1); (case side3 => exact cq (Kd.Q_reads' HO_4.out).2.2); (case side4 => exact (Kd.Q_reads' HO_4.out).2.1); rintro e w44 ⟨v995, rfl, ho0, hb⟩; have HO996 := am (Kd.R_lower (Kd.R_new' ho0 (Kd.R_lt (rq HO_6.out))) (below_size (q9))); replace HO_4 := am (Kd.Q_below (by (with_reducible repeat (first | apply Kd.Q_alloc | apply Kd.Q_drewN | apply Kd.Q_drew)); exact HO_4.out) hb); replace HO_6 := am (Kd.R_elder' (rq HO_6.out) (Kd.R_base ho0) hb); replace HO_986000 := am (Kd.R_below (rq HO_986000.out) hb); replace BK985 := am (blk_below (g := gb985) (o := .cells #[.slice Ao8 t978.length co8] 32 (0, 0)) (kq BK985.out) hb); replace HB := am (below_step (q9) hb); (try clear hb); (try clear hb2); (try clear hk); (try clear hi); (try clear ho0); obtain ⟨Ao45, co45, eo45⟩ := Kd.R_slice HO_6.out; subst eo45; obtain ⟨Ao46, co46, eo46⟩ := Kd.R_slice HO996.out; subst eo46) | (go_at_call 27; (with_reducible refine (laws_equalInts.calls kj4 _ _ t986 _ _ t994 t997 _ ?side1 ?side2 ?side3 ?side4 A42.out).mono ?_); (case side1 => exact cq (Kd.R_reads' HO_6.out).2.2); (case side2 => exact (Kd.R_reads' HO_6.out).2.1); (case side3 => exact cq (Kd.R_reads' HO996.out).2.2); (case side4 => exact (Kd.R_reads' HO996.out).2.1); rintro e w' ⟨rfl, ⟨nd, rfl⟩⟩; (try first | exact ⟨rfl, _, World.drewN_drewN _ _ _⟩ | exact ⟨rfl, _, Eq.trans (World.drewN_drewN _ _ _) (congrArg (World.drewN _) (Nat.add_assoc _ _ _))⟩))))
     go_ret
     exact ⟨q0, q9⟩
    ·replace c40 := Bool.eq_false_iff.mpr c40
     subst c40
     have H1 : (laws_FnEnclosingOf.l0 kj4 t981 t984 t986 0) = some r := by rw [if_neg (show ¬ (false = true) by decide)] at H; exact H
     clear H
     have H := H1
     clear H1
     have H' := am H
     clear H
     go_wp2
     repeat (go_quiet (fail); try go_wp2)
     go_loopg [7] kj4 (fun kq v7 w' => ∃ (x7_2 : Int), v7 = .int .i64 x7_2 ∧ Aside0 (laws_FnEnclosingOf.l0 kq t981 t984 t986 x7_2 = some r) ∧ Aside0 (kq ≤ kj4) ∧ Aside0 (Kd.Q k52 52 w' w.heap.size (fun _ => True) (.slice Ao10 t981.length co10) t981) ∧ Aside0 (Kd.R (Kd.int .i64) 3 w' w.heap.size (fun _ => True) v987 t986) ∧ Aside0 (Kd.R k87 87 w' w.heap.size (fun _ => True) (.slice Ao8 t978.length co8) t978) ∧ Aside0 (w'.heap[gb985]? = some (.cells #[(.slice Ao8 t978.length co8)] 32 (0, 0))) ∧ Aside0 (Below w.heap.size w w'))
     case atStart => exact ⟨(0), (sq), H', ⟨Nat.le_refl _⟩, ⟨by (with_reducible repeat (first | apply Kd.Q_alloc | apply Kd.Q_drewN | apply Kd.Q_drew)); exact HO_4.out⟩, ⟨rq HO_6.out⟩, ⟨rq HO_986000.out⟩, ⟨kq BK985.out⟩, ⟨q9⟩⟩
     case round =>
      clear H'
      try clear c1
      try clear c2
      try clear c2b0
      try clear c2b1
      try clear p2
      try clear c4
      try clear c5
      try clear c14
      try clear c16
      try clear c17
      try clear c17b0
      try clear c40
      try clear hcz18_0
      try clear hcz22_0
      try clear hcz24_0
      try clear hcz28_0
      try clear hcz30_0
      try clear hcz34_0
      try clear hcz36_0
      try clear hcz43_0
      try clear hcz9_0
      try clear hfz18_0
      try clear hfz22_0
      try clear hfz24_0
      try clear hfz28_0
      try clear hfz30_0
      try clear hfz34_0
      try clear hfz36_0
      try clear hfz43_0
      try clear hfz9_0
      try clear p2
      obtain ⟨x7_2, rfl, HA, HK2, HO_4, HO_6, HO_986000, BK985, HB⟩ := hrel
      cases gk with
      | zero => exact absurd HA.out (by simp [laws_FnEnclosingOf.l0])
      | succ k2 =>
       have H := HA.out
       clear HA
       simp only [laws_FnEnclosingOf.l0] at H
       by_cases c47 : x7_2 < (t986.length : Int)
       ·rw [if_pos c47] at H
        have c47b0 : decide (x7_2 < (t986.length : Int)) = true := decide_eq_true c47
        clear c47
        by_cases c48 : 0 ≤ x7_2
        ·rw [if_pos c48] at H
         have c48b0 : decide (0 ≤ x7_2) = true := decide_eq_true c48
         clear c48
         by_cases c49 : (rd t986 x7_2) ≥ t984
         ·rw [if_pos c49] at H
          have c49b0 : decide (t984 ≤ (rd t986 x7_2)) = true := decide_eq_true c49
          clear c49
          exact absurd ((Option.some.inj H).trans hT) Bool.false_ne_true
         ·rw [if_neg c49] at H
          have c49b0 : decide (t984 ≤ (rd t986 x7_2)) = false := decide_eq_false c49
          clear c49
          by_cases c50 : 0 ≤ (rd t986 x7_2)
          ·rw [if_pos c50] at H
           have c50b0 : decide (0 ≤ (rd t986 x7_2)) = true := decide_eq_true c50
           clear c50
           by_cases c51 : (rd t986 x7_2) < (t981.length : Int)
           ·rw [if_pos c51] at H
            have c51b0 : decide ((rd t986 x7_2) < (t981.length : Int)) = true := decide_eq_true c51
            clear c51
            by_cases c52 : 0 ≤ t984
            ·rw [if_pos c52] at H
             have c52b0 : decide (0 ≤ t984) = true := decide_eq_true c52
             clear c52
             by_cases c53 : t984 < (t981.length : Int)
             ·rw [if_pos c53] at H
              have c53b0 : decide (t984 < (t981.length : Int)) = true := decide_eq_true c53
              clear c53
              by_cases c54 : ((rd_T52 t981 (rd t986 x7_2)).f0) = (wrap64 ((wrap64 (((rd_T52 t981 t984).f0) - 1)) - x7_2))
              ·rw [if_pos c54] at H
               have c54b0 : (((rd_T52 t981 (rd t986 x7_2)).f0) == (wrap64 ((wrap64 (((rd_T52 t981 t984).f0) - 1)) - x7_2))) = true := beq_iff_eq.mpr c54
               have c54b1 : (((rd_T52 t981 (rd t986 x7_2)).f0) != (wrap64 ((wrap64 (((rd_T52 t981 t984).f0) - 1)) - x7_2))) = false := bne_eq_false_iff_eq.mpr c54
               clear c54
               have H' := am H
               clear H
               obtain ⟨Ao55, co55, eo55⟩ := Kd.R_slice HO_6.out
               subst eo55
               have p999 : 0 ≤ (x7_2 : Int) := of_decide_eq_true (uq)
               have q999 : x7_2 < (t986.length : Int) := of_decide_eq_true (uq)
               obtain ⟨ad999, e999, hx999_0⟩ := Kd.at_int (Kd.R_reads' HO_6.out).2.2 x7_2 p999 q999
               cases e999
               replace p999 := eq_true p999
               replace q999 := eq_true q999
               have p1000 : 0 ≤ (x7_2 : Int) := of_decide_eq_true (uq)
               have q1000 : x7_2 < (t986.length : Int) := of_decide_eq_true (uq)
               obtain ⟨ad1000, e1000, hx1000_0⟩ := Kd.at_int (Kd.R_reads' HO_6.out).2.2 x7_2 p1000 q1000
               obtain rfl : ad999 = ad1000 := (by injection e1000)
               replace p1000 := eq_true p1000
               replace q1000 := eq_true q1000
               have p1001 : 0 ≤ ((rd t986 x7_2) : Int) := of_decide_eq_true (uq)
               have q1001 : (rd t986 x7_2) < (t981.length : Int) := of_decide_eq_true (uq)
               obtain ⟨ad1001, e1001, hx1001_0, hx1001_1, hx1001_2, hx1001_3⟩ := at_T52 (Kd.Q_reads' HO_4.out).2.2 (rd t986 x7_2) p1001 q1001
               cases e1001
               replace p1001 := eq_true p1001
               replace q1001 := eq_true q1001
               have p1002 : 0 ≤ (t984 : Int) := of_decide_eq_true (uq)
               have q1002 : t984 < (t981.length : Int) := of_decide_eq_true (uq)
               obtain ⟨ad1002, e1002, hx1002_0, hx1002_1, hx1002_2, hx1002_3⟩ := at_T52 (Kd.Q_reads' HO_4.out).2.2 t984 p1002 q1002
               obtain rfl : ad1001 = ad1002 := (by injection e1002)
               replace p1002 := eq_true p1002
               replace q1002 := eq_true q1002
               go_wp2
               repeat (go_quiet (fail); try go_wp2)
               go_roundg k2
               case measure => have := HJ4.out; have := HK2.out; omega
               case rel => exact ⟨(wrap64 (x7_2 + 1)), (sq), H', ⟨by have := HJ4.out; have := HK2.out; omega⟩, ⟨by (with_reducible repeat (first | apply Kd.Q_alloc | apply Kd.Q_drewN | apply Kd.Q_drew)); exact HO_4.out⟩, ⟨rq HO_6.out⟩, ⟨rq HO_986000.out⟩, ⟨kq BK985.out⟩, ⟨q9⟩⟩
              ·rw [if_neg c54] at H
               have c54b0 : (((rd_T52 t981 (rd t986 x7_2)).f0) == (wrap64 ((wrap64 (((rd_T52 t981 t984).f0) - 1)) - x7_2))) = false := beq_eq_false_iff_ne.mpr c54
               have c54b1 : (((rd_T52 t981 (rd t986 x7_2)).f0) != (wrap64 ((wrap64 (((rd_T52 t981 t984).f0) - 1)) - x7_2))) = true := bne_iff_ne.mpr c54
               exact absurd ((Option.some.inj H).trans hT) Bool.false_ne_true
             ·rw [if_neg c53] at H
              exact absurd H (by simp)
            ·rw [if_neg c52] at H
             exact absurd H (by simp)
           ·rw [if_neg c51] at H
            exact absurd H (by simp)
          ·rw [if_neg c50] at H
           exact absurd H (by simp)
        ·rw [if_neg c48] at H
         exact absurd H (by simp)
       ·rw [if_neg c47] at H
        have c47b0 : decide (x7_2 < (t986.length : Int)) = false := decide_eq_false c47
        clear c47
        by_cases c56 : 0 ≤ t984
        ·rw [if_pos c56] at H
         have c56b0 : decide (0 ≤ t984) = true := decide_eq_true c56
         clear c56
         by_cases c57 : t984 < (t981.length : Int)
         ·rw [if_pos c57] at H
          have c57b0 : decide (t984 < (t981.length : Int)) = true := decide_eq_true c57
          clear c57
          obtain rfl := Option.some.inj H
          obtain ⟨Ao58, co58, eo58⟩ := Kd.R_slice HO_6.out
          subst eo58
          have p998 : 0 ≤ (t984 : Int) := of_decide_eq_true (uq)
          have q998 : t984 < (t981.length : Int) := of_decide_eq_true (uq)
          obtain ⟨ad998, e998, hx998_0, hx998_1, hx998_2, hx998_3⟩ := at_T52 (Kd.Q_reads' HO_4.out).2.2 t984 p998 q998
          cases e998
          replace p998 := eq_true p998
          replace q998 := eq_true q998
          go_wp2
          repeat (go_quiet (fail); try go_wp2)
          go_ret
          exact ⟨q0, q9⟩
         ·rw [if_neg c57] at H
          exact absurd H (by simp)
        ·rw [if_neg c56] at H
         exact absurd H (by simp)
def laws_FnEnclosingOf.Pure : Prop := ∀ (l0 : List Int), l0.length ≤ maxLen → l0.length * 1 ≤ 140737488351232 → (∀ x ∈ l0, (Lit.int .u8 x).wf = true) → ∃ k, laws_FnEnclosingOf.f k l0 = some true
theorem laws_FnEnclosingOf.walk (P : laws_FnEnclosingOf.Pure) (a0 : Option Addr) (len0 cap0 : Nat) (z0 : List Int) (w : World) (w0 : (a0 = none ∧ len0 = 0 ∧ cap0 = 0 ∧ z0 = []) ∨ ∃ x, a0 = some x ∧ len0 ≤ cap0 ∧ cap0 ≤ maxLen ∧ z0.length = cap0 ∧ (∀ i, i < z0.length → w.cell? (x.add i) = some (.int .u8 (z0.getD i 0))) ∧ ∀ n ∈ z0, (Lit.int .u8 n).wf = true) (y0 : len0 * 1 ≤ 140737488351232) :
  Calls Try.prog 5 #[.slice a0 len0 cap0] w fun e w' => e = .returned (.bool true) ∧ Below w.heap.size w w' := by
 obtain ⟨l0, rfl, hr0, hm0, hw0, hc0⟩ := ReadsInt.ofRowC w0
 obtain ⟨k, h⟩ := P l0 hm0 y0 hw0
 refine (laws_FnEnclosingOf.calls k _ _ l0 true w (Kd.C_of_reads (d := (0 : Int)) (h1 := fun _ => rfl) hr0) hc0 rfl h).mono ?_
 rintro e w' ⟨rfl, hd⟩
 exact ⟨rfl, hd⟩
end Go.Proofs.Ytkokajljeebgdaa.P
end
