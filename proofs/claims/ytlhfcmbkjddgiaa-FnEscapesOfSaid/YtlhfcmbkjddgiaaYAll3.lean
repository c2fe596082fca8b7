/- One part of the proofs on this program: functions of the program as plain functions, that the code comes to them, and facts on them. -/
import Derived.Test.YtlhfcmbkjddgiaaYAll1
import Derived.Test.YtlhfcmbkjddgiaaYAll2
import Derived.Test.YtlhfcmbkjddgiaaYWAuto
section
namespace Go.Proofs.Ytlhfcmbkjddgiaa.P
open Go.RowKit Go.Proofs.YtlhfcmbkjddgiaaW.PrintWords Go.Proofs.YtlhfcmbkjddgiaaW.PrintLast Go.Proofs.YtlhfcmbkjddgiaaW.PrintMore
attribute [local go_sem] jX jV jka jja jN jM jW jU jh
set_option linter.unusedVariables false
set_option linter.unusedSimpArgs false
def je (w0 W : World) (g : Nat) (f0 : List Int) (f1 : Int) : Prop := ∃ A0 c0, W.heap[g]? = some (.cells #[.slice A0 f0.length c0, .int .i64 f1] 118 (0, 0)) ∧ w0.heap.size ≤ g ∧ Kd.C (Kd.int .u8) w0 A0 f0.length f0
theorem je.grown {w0 W : World} {g : Nat} {f0 : List Int} {f1 : Int} {W1 : World} {row : Option Nat} (h : je w0 W g f0 f1) (hw : W.grownBy W1 row) (hne : some g ≠ row) : je w0 W1 g f0 f1 := by
 obtain ⟨A0,c0,hb,hg,hr0⟩:=h
 exact ⟨A0,c0,jqa hb hw hne,hg,hr0⟩
theorem je.kept {w0 W : World} {g : Nat} {f0 : List Int} {f1 : Int} {W1 : World} {S : Nat → Prop} (h : je w0 W g f0 f1) (hk : Kept W W1 S) (hne : ¬ S g) : je w0 W1 g f0 f1 := by
 obtain ⟨A0,c0,hb,hg,hr0⟩:=h
 exact ⟨A0,c0,jvc hb hk hne,hg,hr0⟩
theorem je.below {w0 W : World} {g : Nat} {f0 : List Int} {f1 : Int} {W1 : World} (h : je w0 W g f0 f1) (hw : Below W.heap.size W W1) : je w0 W1 g f0 f1 := h.grown (grown_of_below hw none) (by simp)
theorem je.alloc {w0 W : World} {g : Nat} {f0 : List Int} {f1 : Int} (h : je w0 W g f0 f1) (o : Obj) : je w0 (W.alloc o) g f0 f1 := h.below (jF (Below.refl _ _) o)
theorem je.drewN {w0 W : World} {g : Nat} {f0 : List Int} {f1 : Int} (h : je w0 W g f0 f1) (m : Nat) : je w0 (W.drewN m) g f0 f1 := h
theorem je.drew {w0 W : World} {g : Nat} {f0 : List Int} {f1 : Int} (h : je w0 W g f0 f1) : je w0 W.drew g f0 f1 := h
theorem je.at_ {w0 W : World} {g : Nat} {f0 : List Int} {f1 : Int} {w' : World} {m : Nat} (hq : W.drewN m = w') (h : je w0 W g f0 f1) : je w0 w' g f0 f1 := by subst hq; exact je.drewN h m
theorem je.apart {w0 W : World} {g : Nat} {f0 : List Int} {f1 : Int} {α : Type} {d : Kd α} {e : Nat} {base : Nat} {ok : Nat → Prop} {v : Value} {xs : List α} (h : je w0 W g f0 f1) (ho : d.R e W base ok v xs) (ht : ∀ q, q ∈ e :: d.E → q ≠ 118) : d.R e W base (fun k => ok k ∧ k ≠ g) v xs := by
 obtain ⟨A0,c0,hb,hg,hr0⟩:=h
 exact Kd.jna ho hb ht
theorem je.own_ne {w0 W : World} {g : Nat} {f0 : List Int} {f1 : Int} {α : Type} {d : Kd α} {e : Nat} {base : Nat} {ok : Nat → Prop} {v : Value} {xs : List α} (h : je w0 W g f0 f1) (ho : d.R e W base ok v xs) (ht : e ≠ 118) : some g ≠ v.ownBlock := by
 obtain ⟨A0,c0,hb,hg,hr0⟩:=h
 exact Kd.R_ne ho hb ht
theorem je.lt {w0 W : World} {g : Nat} {f0 : List Int} {f1 : Int} (h : je w0 W g f0 f1) : g < W.heap.size := by
 obtain ⟨A0,c0,hb,hg,hr0⟩:=h
 exact jva hb
theorem je.ge {w0 W : World} {g : Nat} {f0 : List Int} {f1 : Int} (h : je w0 W g f0 f1) : w0.heap.size ≤ g := by
 obtain ⟨A0,c0,hb,hg,hr0⟩:=h
 exact hg
theorem je.ne_blk {w0 W : World} {g : Nat} {f0 : List Int} {f1 : Int} {a : Nat} {cs : Array Value} {t : TypeId} {fr : Nat × Nat} (h : je w0 W g f0 f1) (hb2 : W.heap[a]? = some (.cells cs t fr)) (ht : t ≠ 118) : g ≠ a := by
 obtain ⟨A0,c0,hb,hg,hr0⟩:=h
 rintro rfl
 rw [hb] at hb2
 injection hb2 with hb2
 injection hb2 with _ ht2
 exact ht ht2.symm
theorem je.far {w0 W : World} {g : Nat} {f0 : List Int} {f1 : Int} {p : Addr} (h : je w0 W g f0 f1) (hne : g ≠ p.block) (u : Value) : je w0 (W.setCell p u) g f0 f1 := by
 obtain ⟨A0,c0,hb,hg,hr0⟩:=h
 exact ⟨A0,c0,jT hb hne u,hg,hr0⟩
theorem cellS118_0 {W : World} {g : Nat} {A0 : Option Addr} {c0 : Nat} {f0 : List Int} {f1 : Int} (h : W.heap[g]? = some (.cells #[.slice A0 f0.length c0, .int .i64 f1] 118 (0, 0))) : W.cell? ⟨g, 0, none⟩ = some (.slice A0 f0.length c0) := (jw h 0).trans rfl
theorem cellS118_1 {W : World} {g : Nat} {A0 : Option Addr} {c0 : Nat} {f0 : List Int} {f1 : Int} (h : W.heap[g]? = some (.cells #[.slice A0 f0.length c0, .int .i64 f1] 118 (0, 0))) : W.cell? ⟨g, 1, none⟩ = some (.int .i64 f1) := (jw h 1).trans rfl
theorem je.jQb {w0 W : World} {g : Nat} {f0 : List Int} {f1 : Int} (h : je w0 W g f0 f1) (x : Int) : je w0 (W.setCell ⟨g, 1, none⟩ (.int .i64 x)) g f0 x := by
 obtain ⟨A0,c0,hb,hg,hr0⟩:=h
 exact ⟨A0,c0,by simpa using blk_set hb 1 (.int .i64 x),hg,hr0⟩
theorem je.new (w0 W : World) (A0 : Option Addr) (c0 : Nat) (f0 : List Int) (f1 : Int) (hB : Below w0.heap.size w0 W) (hr0 : Kd.C (Kd.int .u8) w0 A0 f0.length f0) : je w0 (W.alloc (.cells #[.slice A0 f0.length c0, .int .i64 f1] 118)) W.heap.size f0 f1 := ⟨A0, c0, by simpa using heap_alloc_new W _, hB.size, hr0⟩
def jqb.f (l0 : List Int) : Option (List Int × Int) := if (l0.length : Int) > 2000 then (if 2000 ≤ (l0.length : Int) then (some (l0.take 2000, 0)) else (none)) else (some (l0, 0))
set_option maxHeartbeats 8000000 in
set_option maxRecDepth 100000 in
theorem jqb.calls (A0 : Option Addr) (c0 : Nat) (l0 : List Int) (r1 : List Int) (r2 : Int) (w0 w : World) (hB : Below w0.heap.size w0 w) (hr0 : Kd.C (Kd.int .u8) w0 A0 l0.length l0) (hc0 : l0.length ≤ c0) (h : jqb.f l0 = some (r1, r2)) :
  Calls Try.prog 45 #[.slice A0 l0.length c0] w fun e w'=>∃ g_:Nat,e=.returned (.pointer (some ⟨g_,0,none⟩))∧je w0 w' g_ r1 r2∧Below w0.heap.size w0 w'∧Below w.heap.size w w':=by
 have hu118:=Try.underlying118
 have HR0:=am hr0
 have HC0:=am hc0
 clear hr0 hc0
 have HBW:=am (Below.refl w.heap.size w)
 have HW0:=am hB.size
 have HB:=am hB
 clear hB
 have H:(if (l0.length:Int) > 2000 then (if 2000≤(l0.length:Int) then (some (l0.take 2000,0)) else (none)) else (some (l0,0)))=some (r1,r2):=h
 clear h
 by_cases c2:(l0.length:Int) > 2000
 ·rw [if_pos c2] at H
  have c2b0:decide (2000<(l0.length:Int))=true:=dzT c2
  have c2b1:decide (2000<l0.length)=true:=dzT (by omega)
  clear c2
  by_cases c3:2000≤(l0.length:Int)
  ·rw [if_pos c3] at H
   have c3b0:=ezT c3
   have c3b1:decide (2000≤(l0.length:Int))=true:=dzT c3
   clear c3
   simp only [Option.some.injEq,Prod.mk.injEq] at H
   obtain ⟨rfl,rfl⟩:=H
   obtain ⟨i04,hi04,_,hsz4,_⟩:=info_parts info5
   obtain ⟨hcut4,hA4,hC4⟩:=print_take_of (P:=Try.prog) (Value.int .u8) 0 38 5 .i64 Try.underlying38 hi04 hsz4 A0 c0 l0 2000 (by omega) (ozD (uq)) HC0.out
   have HR314:=am (Kd.C_of_reads (h1:=fun _=>rfl) (hA4 _ (Kd.reads_of_C HR0.out)))
   have HC314:=am hC4
   clear hA4 hC4 hi04 hsz4
   go_enter Try.func45,Try.ntmps45
   go_wp2_with (first |((with_reducible refine jG (N:=10) rfl ?_);refine bE (N:=10) (cs:=#[.slice A0 (l0.take 2000).length c0, .int .i64 0]) (t:=118) ?_;intro gb315 hg w5 hbox hb;have BK315:=am (hbox);have GW315:=am ((Y69:w.heap.size≤gb315));have GE315:=am ((Nat.le_trans HW0.out (Y69:w.heap.size≤gb315):w0.heap.size≤gb315));replace HBW:=am (jg HBW.out hb);replace HB:=am (jg (bq) hb);clear hb hbox hg))
   go_ret
   exact ⟨_,rfl,(show je w0 _ gb315 (l0.take 2000) 0 from ⟨_,_,kq BK315.out,GE315.out,HR314.out⟩),by repeat (first |(with_reducible first | exact HB.out | apply jF | apply jq | apply jD | refine jy ?_ GE315.out) | exact HB.out),by repeat (first |(with_reducible first | exact HBW.out | apply jF | apply jq | apply jD | refine jy ?_ GW315.out) | exact HBW.out)⟩
  ·rw [if_neg c3] at H
   exact absurd H (by simp)
 ·rw [if_neg c2] at H
  have c2b0:decide (2000<(l0.length:Int))=false:=dzF c2
  have c2b1:decide (2000<l0.length)=false:=dzF (by omega)
  clear c2
  simp only [Option.some.injEq,Prod.mk.injEq] at H
  obtain ⟨rfl,rfl⟩:=H
  go_enter Try.func45,Try.ntmps45
  go_wp2_with (first |((with_reducible refine jG (N:=10) rfl ?_);refine bE (N:=10) (cs:=#[.slice A0 l0.length c0, .int .i64 0]) (t:=118) ?_;intro gb316 hg w6 hbox hb;have BK316:=am (hbox);have GW316:=am ((Y69:w.heap.size≤gb316));have GE316:=am ((Nat.le_trans HW0.out (Y69:w.heap.size≤gb316):w0.heap.size≤gb316));replace HBW:=am (jg HBW.out hb);replace HB:=am (jg (bq) hb);clear hb hbox hg))
  go_ret
  exact ⟨_,rfl,(show je w0 _ gb316 l0 0 from ⟨_,_,kq BK316.out,GE316.out,HR0.out⟩),by repeat (first |(with_reducible first | exact HB.out | apply jF | apply jq | apply jD | refine jy ?_ GE316.out) | exact HB.out),by repeat (first |(with_reducible first | exact HBW.out | apply jF | apply jq | apply jD | refine jy ?_ GW316.out) | exact HBW.out)⟩
def jr.j0 : Nat → Int → Bool → List Int → Int → Option (Int × Int)
 | 0,_,_,_,_=>none
 | k+1,x1,x24,x1000,x1001=>if x24=true then (some (0,x1001)) else (if (wrap64 (x1001 - 1))<(x1000.length:Int) then (if 0≤(wrap64 (x1001 - 1)) then (if x1=0 then (none) else (some (Int.tmod (wrap64 (rd x1000 (wrap64 (x1001 - 1)))) x1,x1001))) else (none)) else (if (x1000.length:Int)=0 then (none) else (if 0≤(Int.tmod (wrap64 (x1001 - 1)) (x1000.length:Int)) then (if (Int.tmod (wrap64 (x1001 - 1)) (x1000.length:Int))<(x1000.length:Int) then (if 0≤(Int.tmod (wrap64 ((wrap64 ((wrap64 (x1001 - 1)) * 7))+3)) (x1000.length:Int)) then (if (Int.tmod (wrap64 ((wrap64 ((wrap64 (x1001 - 1)) * 7))+3)) (x1000.length:Int))<(x1000.length:Int) then (if x1=0 then (none) else (some (Int.tmod (Go.bits .xor .i64 (wrap64 ((wrap64 ((wrap64 ((wrap64 ((wrap64 (rd x1000 (Int.tmod (wrap64 (x1001 - 1)) (x1000.length:Int)))) * 131))+(wrap64 ((wrap64 (rd x1000 (Int.tmod (wrap64 ((wrap64 ((wrap64 (x1001 - 1)) * 7))+3)) (x1000.length:Int)))) * 1117))))+(wrap64 ((wrap64 (x1001 - 1)) * 29))))+(wrap64 ((wrap64 (Int.tdiv (wrap64 (x1001 - 1)) (x1000.length:Int))) * 53)))) (wrap64 (Int.tdiv (wrap64 ((wrap64 ((wrap64 ((wrap64 ((wrap64 (rd x1000 (Int.tmod (wrap64 (x1001 - 1)) (x1000.length:Int)))) * 131))+(wrap64 ((wrap64 (rd x1000 (Int.tmod (wrap64 ((wrap64 ((wrap64 (x1001 - 1)) * 7))+3)) (x1000.length:Int)))) * 1117))))+(wrap64 ((wrap64 (x1001 - 1)) * 29))))+(wrap64 ((wrap64 (Int.tdiv (wrap64 (x1001 - 1)) (x1000.length:Int))) * 53)))) 64))) x1,x1001))) else (none)) else (none)) else (none)) else (none))))
def jr.f (k : Nat) (s0_0 : List Int) (s0_1 : Int) (a1 : Int) : Option (Int × Int) := if a1 < 1 then (jr.j0 k a1 true s0_0 (wrap64 (s0_1 + 1))) else (jr.j0 k a1 ((s0_0.length : Int) == 0) s0_0 (wrap64 (s0_1 + 1)))
set_option maxHeartbeats 8000000 in
set_option maxRecDepth 100000 in
theorem jr.calls (k : Nat) (g : Nat) (s0_0 : List Int) (s0_1 : Int) (a1 : Int) (r1 : Int) (r2 : Int) (w0 w : World) (hI : je w0 w g s0_0 s0_1) (hB : Below w0.heap.size w0 w) (h : jr.f k s0_0 s0_1 a1 = some (r1, r2)) :
  Calls Try.prog 47 #[.pointer (some ⟨g,0,none⟩), .int .i64 a1] w fun e w'=>e=.returned (.int .i64 r1)∧je w0 w' g s0_0 r2∧Below w0.heap.size w0 w'∧jk w w' g none:=by
 have HI0:=am hI
 have HK:=am (jk.refl w g none)
 have HL:=am hB.size
 clear hI
 have HW0:=am hB.size
 have HB:=am hB
 clear hB
 have H:(if a1<1 then (jr.j0 k a1 true s0_0 (wrap64 (s0_1+1))) else (jr.j0 k a1 ((s0_0.length:Int) == 0) s0_0 (wrap64 (s0_1+1))))=some (r1,r2):=h
 clear h
 have HC3:=am H
 clear H
 obtain ⟨ASz4_0,cSz4_0,HGz4,hgz4,HSz4_0⟩:=HI0.out
 have hcz4_0:=cellS118_0 HGz4
 have hcz4_1:=cellS118_1 HGz4
 have hfz4_1:=ja HGz4 1
 clear HGz4 hgz4
 go_enter Try.func47,Try.ntmps47
 go_upto_region 2 with (fail)
 repeat (go_quiet (fail);go_upto_region 2 with (fail))
 go_cut [24] (fun v24 wc=>∃ (kq:Nat) (x24_2:Bool),v24=.bool x24_2∧jE (jr.j0 kq a1 x24_2 s0_0 (wrap64 (s0_1+1))=some (r1,r2))∧jE (kq≤k)∧jE (je w0 wc g s0_0 (wrap64 (s0_1+1)))∧jE (jk w wc g none)∧jE (Below w0.heap.size w0 wc))
 case first =>
  have H:=HC3.out
  clear HC3
  by_cases c5:a1<1
  ·rw [if_pos c5] at H
   have c5b0:decide (a1<1)=true:=dzT c5
   clear c5
   (first | rw [c5b0] |(simp only [jHb,jLb];rw [c5b0]) | skip)
   have H':=am H
   clear H
   go_wp2
   repeat (go_quiet (fail);try go_wp2)
   go_meet
   case rel=>exact ⟨_,(true),(sq),H',⟨Y34⟩,⟨Y10⟩,⟨Y11⟩,⟨Y12⟩⟩
  ·rw [if_neg c5] at H
   have c5b0:decide (a1<1)=false:=dzF c5
   clear c5
   (first | rw [c5b0] |(simp only [jHb,jLb];rw [c5b0]) | skip)
   have H':=am H
   clear H
   obtain ⟨ASz6_0,cSz6_0,HGz6,hgz6,HSz6_0⟩:=HI0.out
   have hcz6_0:=cellS118_0 HGz6
   have hcz6_1:=cellS118_1 HGz6
   have hfz6_1:=ja HGz6 1
   clear HGz6 hgz6
   go_wp2
   repeat (go_quiet (fail);try go_wp2)
   go_meet
   case rel=>exact ⟨_,(((s0_0.length:Int) == 0)),(sq),H',⟨Y34⟩,⟨Y10⟩,⟨Y11⟩,⟨Y12⟩⟩
 case rest =>
  clear HC3
  try clear p2
  try clear c4
  try clear c5
  try clear c5b0
  try clear p6
  try clear hcz4_0
  try clear hcz4_1
  try clear hcz6_0
  try clear hcz6_1
  try clear hfz4_1
  try clear hfz6_1
  obtain ⟨kq,x24_2,rfl,HA,HJ2,HI0,HK,HB⟩:=hcut
  cases kq with
  | zero=>exact absurd HA.out (by simp [jr.j0])
  | succ kj2 =>
   have H:=HA.out
   clear HA
   simp only [jr.j0] at H
   by_cases c7:x24_2=true
   ·subst c7
    have H1:(some (0,(wrap64 (s0_1+1))))=some (r1,r2):=by rw [if_pos rfl] at H;exact H
    clear H
    have H:=H1
    clear H1
    simp only [Option.some.injEq,Prod.mk.injEq] at H
    obtain ⟨rfl,rfl⟩:=H
    go_wp2
    repeat (go_quiet (fail);try go_wp2)
    go_ret
    exact ⟨Y0,Y10,Y12,Y11⟩
   ·replace c7:=Bool.eq_false_iff.mpr c7
    subst c7
    have H1:(if (wrap64 ((wrap64 (s0_1+1)) - 1))<(s0_0.length:Int) then (if 0≤(wrap64 ((wrap64 (s0_1+1)) - 1)) then (if a1=0 then (none) else (some (Int.tmod (wrap64 (rd s0_0 (wrap64 ((wrap64 (s0_1+1)) - 1)))) a1,(wrap64 (s0_1+1))))) else (none)) else (if (s0_0.length:Int)=0 then (none) else (if 0≤(Int.tmod (wrap64 ((wrap64 (s0_1+1)) - 1)) (s0_0.length:Int)) then (if (Int.tmod (wrap64 ((wrap64 (s0_1+1)) - 1)) (s0_0.length:Int))<(s0_0.length:Int) then (if 0≤(Int.tmod (wrap64 ((wrap64 ((wrap64 ((wrap64 (s0_1+1)) - 1)) * 7))+3)) (s0_0.length:Int)) then (if (Int.tmod (wrap64 ((wrap64 ((wrap64 ((wrap64 (s0_1+1)) - 1)) * 7))+3)) (s0_0.length:Int))<(s0_0.length:Int) then (if a1=0 then (none) else (some (Int.tmod (Go.bits .xor .i64 (wrap64 ((wrap64 ((wrap64 ((wrap64 ((wrap64 (rd s0_0 (Int.tmod (wrap64 ((wrap64 (s0_1+1)) - 1)) (s0_0.length:Int)))) * 131))+(wrap64 ((wrap64 (rd s0_0 (Int.tmod (wrap64 ((wrap64 ((wrap64 ((wrap64 (s0_1+1)) - 1)) * 7))+3)) (s0_0.length:Int)))) * 1117))))+(wrap64 ((wrap64 ((wrap64 (s0_1+1)) - 1)) * 29))))+(wrap64 ((wrap64 (Int.tdiv (wrap64 ((wrap64 (s0_1+1)) - 1)) (s0_0.length:Int))) * 53)))) (wrap64 (Int.tdiv (wrap64 ((wrap64 ((wrap64 ((wrap64 ((wrap64 (rd s0_0 (Int.tmod (wrap64 ((wrap64 (s0_1+1)) - 1)) (s0_0.length:Int)))) * 131))+(wrap64 ((wrap64 (rd s0_0 (Int.tmod (wrap64 ((wrap64 ((wrap64 ((wrap64 (s0_1+1)) - 1)) * 7))+3)) (s0_0.length:Int)))) * 1117))))+(wrap64 ((wrap64 ((wrap64 (s0_1+1)) - 1)) * 29))))+(wrap64 ((wrap64 (Int.tdiv (wrap64 ((wrap64 (s0_1+1)) - 1)) (s0_0.length:Int))) * 53)))) 64))) a1,(wrap64 (s0_1+1))))) else (none)) else (none)) else (none)) else (none))))=some (r1,r2):=by rw [if_neg (show ¬ (false=true) by decide)] at H;exact H
    clear H
    have H:=H1
    clear H1
    by_cases c8:(wrap64 ((wrap64 (s0_1+1)) - 1))<(s0_0.length:Int)
    ·rw [if_pos c8] at H
     have c8b0:decide ((wrap64 ((wrap64 (s0_1+1)) - 1))<(s0_0.length:Int))=true:=dzT c8
     clear c8
     obtain ⟨ji9,hji9⟩:∃ j_:Int,(wrap64 ((wrap64 (s0_1+1)) - 1))=j_:=⟨_,rfl⟩
     replace H:(if 0≤(ji9) then (if a1=0 then (none) else (some (Int.tmod (wrap64 (rd s0_0 (ji9))) a1,(wrap64 (s0_1+1))))) else (none))=some (r1,r2):=by first |(rw [hji9] at H;exact H) |(simp only [hji9] at H ⊢;exact H)
     (try rw [hji9] at c8b0)
     have hji9w:(IntKind.i64.wrap ((wrap64 (s0_1+1)) - 1))=ji9:=(jHb _).trans hji9
     by_cases c10:0≤(ji9)
     ·rw [if_pos c10] at H
      have c10b0:decide (0≤(ji9))=true:=dzT c10
      clear c10
      by_cases c11:a1=0
      ·rw [if_pos c11] at H
       exact absurd H (by simp)
      ·rw [if_neg c11] at H
       have c11b0:(a1 == 0)=false:=beq_eq_false_iff_ne.mpr c11
       have c11b1:(a1 != 0)=true:=bne_iff_ne.mpr c11
       simp only [Option.some.injEq,Prod.mk.injEq] at H
       obtain ⟨rfl,rfl⟩:=H
       obtain ⟨ASz12_0,cSz12_0,HGz12,hgz12,HSz12_0⟩:=HI0.out
       have hcz12_0:=cellS118_0 HGz12
       have hcz12_1:=cellS118_1 HGz12
       have hfz12_1:=ja HGz12 1
       clear HGz12 hgz12
       have p317:0≤((ji9):Int):=ozD (uq)
       have q317:(ji9)<(s0_0.length:Int):=ozD (uq)
       obtain ⟨ad317,e317,hx317_0⟩:=Kd.jsb HSz12_0 (ji9) p317 q317
       cases e317
       replace hx317_0:=jP HB.out hx317_0
       replace p317:=ezT p317
       replace q317:=ezT q317
       go_wp2
       repeat (go_quiet (fail);try go_wp2)
       go_ret
       exact ⟨by first | rfl |(simp [jTb,jSb] <;> rfl) |(simp only [← hji9];first | rfl |(simp [jTb,jSb] <;> rfl)) |(simp [*,jTb,jSb] <;> rfl),Y10,Y12,Y11⟩
     ·rw [if_neg c10] at H
      exact absurd H (by simp)
    ·rw [if_neg c8] at H
     have c8b0:decide ((wrap64 ((wrap64 (s0_1+1)) - 1))<(s0_0.length:Int))=false:=dzF c8
     clear c8
     by_cases c13:(s0_0.length:Int)=0
     ·rw [if_pos c13] at H
      exact absurd H (by simp)
     ·rw [if_neg c13] at H
      have c13b0:((s0_0.length:Int) == 0)=false:=beq_eq_false_iff_ne.mpr c13
      have c13b1:((s0_0.length:Int) != 0)=true:=bne_iff_ne.mpr c13
      have c13b2:¬ (s0_0=[]):=fun h_=>c13 (by rw [h_];rfl)
      obtain ⟨ji14,hji14⟩:∃ j_:Int,(Int.tmod (wrap64 ((wrap64 (s0_1+1)) - 1)) (s0_0.length:Int))=j_:=⟨_,rfl⟩
      replace H:(if 0≤(ji14) then (if (ji14)<(s0_0.length:Int) then (if 0≤(Int.tmod (wrap64 ((wrap64 ((wrap64 ((wrap64 (s0_1+1)) - 1)) * 7))+3)) (s0_0.length:Int)) then (if (Int.tmod (wrap64 ((wrap64 ((wrap64 ((wrap64 (s0_1+1)) - 1)) * 7))+3)) (s0_0.length:Int))<(s0_0.length:Int) then (if a1=0 then (none) else (some (Int.tmod (Go.bits .xor .i64 (wrap64 ((wrap64 ((wrap64 ((wrap64 ((wrap64 (rd s0_0 (ji14))) * 131))+(wrap64 ((wrap64 (rd s0_0 (Int.tmod (wrap64 ((wrap64 ((wrap64 ((wrap64 (s0_1+1)) - 1)) * 7))+3)) (s0_0.length:Int)))) * 1117))))+(wrap64 ((wrap64 ((wrap64 (s0_1+1)) - 1)) * 29))))+(wrap64 ((wrap64 (Int.tdiv (wrap64 ((wrap64 (s0_1+1)) - 1)) (s0_0.length:Int))) * 53)))) (wrap64 (Int.tdiv (wrap64 ((wrap64 ((wrap64 ((wrap64 ((wrap64 (rd s0_0 (ji14))) * 131))+(wrap64 ((wrap64 (rd s0_0 (Int.tmod (wrap64 ((wrap64 ((wrap64 ((wrap64 (s0_1+1)) - 1)) * 7))+3)) (s0_0.length:Int)))) * 1117))))+(wrap64 ((wrap64 ((wrap64 (s0_1+1)) - 1)) * 29))))+(wrap64 ((wrap64 (Int.tdiv (wrap64 ((wrap64 (s0_1+1)) - 1)) (s0_0.length:Int))) * 53)))) 64))) a1,(wrap64 (s0_1+1))))) else (none)) else (none)) else (none)) else (none))=some (r1,r2):=by first |(rw [hji14] at H;exact H) |(simp only [hji14] at H ⊢;exact H)
      by_cases c15:0≤(ji14)
      ·rw [if_pos c15] at H
       have c15b0:decide (0≤(ji14))=true:=dzT c15
       clear c15
       by_cases c16:(ji14)<(s0_0.length:Int)
       ·rw [if_pos c16] at H
        have c16b0:decide ((ji14)<(s0_0.length:Int))=true:=dzT c16
        clear c16
        obtain ⟨ji17,hji17⟩:∃ j_:Int,(Int.tmod (wrap64 ((wrap64 ((wrap64 ((wrap64 (s0_1+1)) - 1)) * 7))+3)) (s0_0.length:Int))=j_:=⟨_,rfl⟩
        replace H:(if 0≤(ji17) then (if (ji17)<(s0_0.length:Int) then (if a1=0 then (none) else (some (Int.tmod (Go.bits .xor .i64 (wrap64 ((wrap64 ((wrap64 ((wrap64 ((wrap64 (rd s0_0 (ji14))) * 131))+(wrap64 ((wrap64 (rd s0_0 (ji17))) * 1117))))+(wrap64 ((wrap64 ((wrap64 (s0_1+1)) - 1)) * 29))))+(wrap64 ((wrap64 (Int.tdiv (wrap64 ((wrap64 (s0_1+1)) - 1)) (s0_0.length:Int))) * 53)))) (wrap64 (Int.tdiv (wrap64 ((wrap64 ((wrap64 ((wrap64 ((wrap64 (rd s0_0 (ji14))) * 131))+(wrap64 ((wrap64 (rd s0_0 (ji17))) * 1117))))+(wrap64 ((wrap64 ((wrap64 (s0_1+1)) - 1)) * 29))))+(wrap64 ((wrap64 (Int.tdiv (wrap64 ((wrap64 (s0_1+1)) - 1)) (s0_0.length:Int))) * 53)))) 64))) a1,(wrap64 (s0_1+1))))) else (none)) else (none))=some (r1,r2):=by first |(rw [hji17] at H;exact H) |(simp only [hji17] at H ⊢;exact H)
        by_cases c18:0≤(ji17)
        ·rw [if_pos c18] at H
         have c18b0:decide (0≤(ji17))=true:=dzT c18
         clear c18
         by_cases c19:(ji17)<(s0_0.length:Int)
         ·rw [if_pos c19] at H
          have c19b0:decide ((ji17)<(s0_0.length:Int))=true:=dzT c19
          clear c19
          by_cases c20:a1=0
          ·rw [if_pos c20] at H
           exact absurd H (by simp)
          ·rw [if_neg c20] at H
           have c20b0:(a1 == 0)=false:=beq_eq_false_iff_ne.mpr c20
           have c20b1:(a1 != 0)=true:=bne_iff_ne.mpr c20
           simp only [Option.some.injEq,Prod.mk.injEq] at H
           obtain ⟨rfl,rfl⟩:=H
           obtain ⟨ASz21_0,cSz21_0,HGz21,hgz21,HSz21_0⟩:=HI0.out
           have hcz21_0:=cellS118_0 HGz21
           have hcz21_1:=cellS118_1 HGz21
           have hfz21_1:=ja HGz21 1
           clear HGz21 hgz21
           have p318:0≤((ji14):Int):=ozD (uq)
           have q318:(ji14)<(s0_0.length:Int):=ozD (uq)
           obtain ⟨ad318,e318,hx318_0⟩:=Kd.jsb HSz21_0 (ji14) p318 q318
           cases e318
           replace hx318_0:=jP HB.out hx318_0
           replace p318:=ezT p318
           replace q318:=ezT q318
           have p319:0≤((ji17):Int):=ozD (uq)
           have q319:(ji17)<(s0_0.length:Int):=ozD (uq)
           obtain ⟨ad319,e319,hx319_0⟩:=Kd.jsb HSz21_0 (ji17) p319 q319
           obtain rfl:ad318=ad319:=(by injection e319)
           replace hx319_0:=jP HB.out hx319_0
           replace p319:=ezT p319
           replace q319:=ezT q319
           go_wp2
           repeat (go_quiet (fail);try go_wp2)
           go_ret
           exact ⟨by first | rfl |(simp [jTb,jSb] <;> rfl) |(simp only [← hji14,← hji17];first | rfl |(simp [jTb,jSb] <;> rfl)) |(simp [*,jTb,jSb] <;> rfl),Y10,Y12,Y11⟩
         ·rw [if_neg c19] at H
          exact absurd H (by simp)
        ·rw [if_neg c18] at H
         exact absurd H (by simp)
       ·rw [if_neg c16] at H
        exact absurd H (by simp)
      ·rw [if_neg c15] at H
       exact absurd H (by simp)
def jB.f (k : Nat) (s0_0 : List Int) (s0_1 : Int) (l1 : List Int) : Option (Int × Int) := (jr.f k s0_0 s0_1 (l1.length : Int)).bind fun bt320 => (if 0 ≤ bt320.1 then (if bt320.1 < (l1.length : Int) then (some (rd l1 bt320.1, bt320.2)) else (none)) else (none))
set_option maxHeartbeats 8000000 in
set_option maxRecDepth 100000 in
theorem jB.calls (k : Nat) (g : Nat) (s0_0 : List Int) (s0_1 : Int) (A1 : Option Addr) (c1 : Nat) (l1 : List Int) (r1 : Int) (r2 : Int) (w0 w : World) (hI : je w0 w g s0_0 s0_1) (hB : Below w0.heap.size w0 w) (hr1 : Kd.C (Kd.int .i64) w A1 l1.length l1) (hc1 : l1.length ≤ c1) (hf1 : ∀ ad, A1 = some ad → 0 < l1.length → ad.block ≠ g) (h : jB.f k s0_0 s0_1 l1 = some (r1, r2)) :
  Calls Try.prog 77 #[.pointer (some ⟨g,0,none⟩), .slice A1 l1.length c1] w fun e w'=>e=.returned (.int .i64 r1)∧je w0 w' g s0_0 r2∧Below w0.heap.size w0 w'∧jk w w' g none:=by
 have HR1:=am hr1
 have HC1:=am hc1
 clear hr1 hc1
 have HI0:=am hI
 have HK:=am (jk.refl w g none)
 have HL:=am hB.size
 clear hI
 have HW0:=am hB.size
 have HB:=am hB
 clear hB
 have H:((jr.f k s0_0 s0_1 (l1.length:Int)).bind fun bt320=>(if 0≤bt320.1 then (if bt320.1<(l1.length:Int) then (some (rd l1 bt320.1,bt320.2)) else (none)) else (none)))=some (r1,r2):=h
 clear h
 replace H:=bzS H
 obtain ⟨⟨t320,t321⟩,A30,H⟩:=H
 replace H:(if 0≤t320 then (if t320<(l1.length:Int) then (some (rd l1 t320,t321)) else (none)) else (none))=some (r1,r2):=H
 have A3:=am A30
 clear A30
 by_cases c4:0≤t320
 ·rw [if_pos c4] at H
  have c4b0:decide (0≤t320)=true:=dzT c4
  clear c4
  by_cases c5:t320<(l1.length:Int)
  ·rw [if_pos c5] at H
   have c5b0:decide (t320<(l1.length:Int))=true:=dzT c5
   clear c5
   simp only [Option.some.injEq,Prod.mk.injEq] at H
   obtain ⟨rfl,rfl⟩:=H
   go_enter Try.func77,Try.ntmps77
   go_wp2_with (first |((with_reducible refine jo (f:=47) rfl ?_);refine gL (some 9) Try.func47 #[.pointer (some ⟨g,0,none⟩), .int .i64 (l1.length:Int)] ?_;(with_reducible refine (jr.calls k g s0_0 s0_1 (l1.length:Int) t320 t321 w0 _ ?side1 ?side2 A3.out).mono ?_);(case side1=>exact Y10);(case side2=>exact Y12);rintro e w6 ⟨rfl,hi,hb,hk⟩;refine ⟨_,rfl,?_⟩;replace HK:=am (jk.trans (Y11) hk (.inl rfl));replace HB:=am (hb);replace HI0:=am (hi);(try clear hb);(try clear hb2);(try clear hk);(try clear hi);have p322:0≤(t320:Int):=ozD (uq);have q322:t320<(l1.length:Int):=ozD (uq);obtain ⟨ad322,e322,hx322_0⟩:=Kd.jsb HR1.out t320 p322 q322;cases e322;replace hx322_0:=keep_cell HK.out hx322_0 (by first |(rw [add_block];exact hf1 _ rfl (by omega)) | exact hf1 _ rfl (by omega) | exact hf1 ad322 rfl (by omega));replace p322:=ezT p322;replace q322:=ezT q322))
   go_ret
   exact ⟨Y0,Y10,Y12,Y11⟩
  ·rw [if_neg c5] at H
   exact absurd H (by simp)
 ·rw [if_neg c4] at H
  exact absurd H (by simp)
def jEa.j0 : Nat → List Int → Int → Int → Int → Int → Option (Int × Int × Int × Int)
 | 0,_,_,_,_,_=>none
 | k+1,x1000,x1001,x328000,x328001,x328002=>if x328000=3 then ((jB.f k x1000 x1001 (([1,2,3]:List Int))).bind fun bt338=>(some (x328000,x328001,bt338.1,bt338.2))) else (some (x328000,x328001,x328002,x1001))
def jEa.f (k : Nat) (s0_0 : List Int) (s0_1 : Int) (l1_0 : List (S106)) : Option (Int × Int × Int × Int) := (jr.f k s0_0 s0_1 4).bind fun bt325 => (if bt325.1 ≥ 2 then ((jr.f k s0_0 bt325.2 (l1_0.length : Int)).bind fun bt328 => (jEa.j0 k s0_0 bt328.2 bt325.1 bt328.1 0)) else ((jB.f k s0_0 bt325.2 (([1, 2, 3, 0, 99] : List Int))).bind fun bt333 => (jEa.j0 k s0_0 bt333.2 bt325.1 bt333.1 0)))
set_option maxHeartbeats 8000000 in
set_option maxRecDepth 100000 in
theorem jEa.calls (k : Nat) (g : Nat) (s0_0 : List Int) (s0_1 : Int) (A1_0 : Option Addr) (c1_0 : Nat) (l1_0 : List (S106)) (r1 : Int) (r2 : Int) (r3 : Int) (r4 : Int) (w0 w : World) (hI : je w0 w g s0_0 s0_1) (hB : Below w0.heap.size w0 w) (hr1_0 : ∀ W_, jk w W_ g none → Kd.C k106 W_ A1_0 l1_0.length l1_0) (hc1_0 : l1_0.length ≤ c1_0) (h : jEa.f k s0_0 s0_1 l1_0 = some (r1, r2, r3, r4)) :
  Calls Try.prog 61 #[.pointer (some ⟨g,0,none⟩), .agg #[.slice A1_0 l1_0.length c1_0]] w fun e w'=>e=.returned (.agg #[.int .i64 r1, .int .i64 r2, .int .i64 r3])∧je w0 w' g s0_0 r4∧Below w0.heap.size w0 w'∧jk w w' g none:=by
 have hu31:=Try.underlying31
 have hu44:=Try.underlying44
 have HR1_0:=am hr1_0
 have HC1_0:=am hc1_0
 clear hr1_0 hc1_0
 have HI0:=am hI
 have HK:=am (jk.refl w g none)
 have HL:=am hB.size
 clear hI
 have HW0:=am hB.size
 have HB:=am hB
 clear hB
 have H:((jr.f k s0_0 s0_1 4).bind fun bt325=>(if bt325.1≥2 then ((jr.f k s0_0 bt325.2 (l1_0.length:Int)).bind fun bt328=>(jEa.j0 k s0_0 bt328.2 bt325.1 bt328.1 0)) else ((jB.f k s0_0 bt325.2 (([1,2,3,0,99]:List Int))).bind fun bt333=>(jEa.j0 k s0_0 bt333.2 bt325.1 bt333.1 0))))=some (r1,r2,r3,r4):=h
 clear h
 replace H:=bzS H
 obtain ⟨⟨t325,t326⟩,A30,H⟩:=H
 replace H:(if t325≥2 then ((jr.f k s0_0 t326 (l1_0.length:Int)).bind fun bt328=>(jEa.j0 k s0_0 bt328.2 t325 bt328.1 0)) else ((jB.f k s0_0 t326 (([1,2,3,0,99]:List Int))).bind fun bt333=>(jEa.j0 k s0_0 bt333.2 t325 bt333.1 0)))=some (r1,r2,r3,r4):=H
 have A3:=am A30
 clear A30
 have HC4:=am H
 clear H
 go_enter Try.func61,Try.ntmps61
 go_upto_if 11 with (first |((with_reducible refine jG (N:=3) rfl ?_);refine bE (N:=3) (cs:=#[.slice A1_0 l1_0.length c1_0]) (t:=31) ?_;intro gb323 hg w5 hbox hb;have BK323:=am (hbox);have GW323:=am ((Y7:w.heap.size≤gb323));have GE323:=am ((Nat.le_trans HW0.out (Y7:w.heap.size≤gb323):w0.heap.size≤gb323));have NB0_323:=am ((Y23:g≠gb323));have NB323_0:=am ((Y24:gb323≠g));replace HK:=am (jk.trans (Y11) (jk.of_below hb g none) (.inl rfl));replace HB:=am (jg (Y12) hb);replace HI0:=am (je.below (Y10) hb);clear hb hbox hg) |((with_reducible refine jG (N:=4) rfl ?_);refine bE (N:=4) (cs:=#[.int .i64 0, .int .i64 0, .int .i64 0]) (t:=44) ?_;intro gb324 hg w6 hbox hb;have BK324:=am (hbox);have GW324:=am ((Y98:w.heap.size≤gb324));have GE324:=am ((Nat.le_trans HW0.out (Y98:w.heap.size≤gb324):w0.heap.size≤gb324));have NB323_324:=am ((by rw [hg];exact Nat.ne_of_lt (jva (g:=gb323) (o:=.cells #[.slice A1_0 l1_0.length c1_0] 31 (0,0)) (kq BK323.out)):gb323≠gb324));have NB324_323:=am ((by rw [hg];exact Nat.ne_of_gt (jva (g:=gb323) (o:=.cells #[.slice A1_0 l1_0.length c1_0] 31 (0,0)) (kq BK323.out)):gb324≠gb323));have NB0_324:=am ((by rw [hg];exact Nat.ne_of_lt (je.lt (show je w0 _ g s0_0 s0_1 from by repeat (first |(with_reducible first | exact HI0.out | apply je.alloc | apply je.drewN | apply je.drew | apply je.jQb | refine je.far ?_ NB0_323.out _) | exact HI0.out))):g≠gb324));have NB324_0:=am ((by rw [hg];exact Nat.ne_of_gt (je.lt (show je w0 _ g s0_0 s0_1 from by repeat (first |(with_reducible first | exact HI0.out | apply je.alloc | apply je.drewN | apply je.drew | apply je.jQb | refine je.far ?_ NB0_323.out _) | exact HI0.out))):gb324≠g));replace BK323:=am (jc (g:=gb323) (o:=.cells #[.slice A1_0 l1_0.length c1_0] 31 (0,0)) (kq BK323.out) hb);replace HK:=am (jk.trans (by repeat (first |(with_reducible first | exact HK.out | apply jk.set_ | apply jRa | apply jTa | apply jSa | refine jPa ?_ GW323.out _) | exact HK.out)) (jk.of_below hb g none) (.inl rfl));replace HB:=am (jg (by repeat (first |(with_reducible first | exact HB.out | apply jF | apply jq | apply jD | refine jy ?_ (je.ge HI0.out) | refine jy ?_ GE323.out) | exact HB.out)) hb);replace HI0:=am (je.below (by repeat (first |(with_reducible first | exact HI0.out | apply je.alloc | apply je.drewN | apply je.drew | apply je.jQb | refine je.far ?_ NB0_323.out _) | exact HI0.out)) hb);clear hb hbox hg) |((with_reducible refine jo (f:=47) rfl ?_);refine gL (some 7) Try.func47 #[.pointer (some ⟨g,0,none⟩), .int .i64 4] ?_;(with_reducible refine (jr.calls k g s0_0 s0_1 4 t325 t326 w0 _ ?side1 ?side2 A3.out).mono ?_);(case side1=>exact Y99);(case side2=>exact Y100);rintro e w7 ⟨rfl,hi,hb,hk⟩;refine ⟨_,rfl,?_⟩;replace BK323:=am (jk.blk hk (g':=gb323) (o:=.cells #[.slice A1_0 l1_0.length c1_0] 31 (0,0)) (kq BK323.out) NB323_0.out (by simp));replace BK324:=am (jk.blk hk (g':=gb324) (o:=.cells #[.int .i64 0, .int .i64 0, .int .i64 0] 44 (0,0)) (kq BK324.out) NB324_0.out (by simp));replace HK:=am (jk.trans (Y101) hk (.inl rfl));replace HB:=am (hb);replace HI0:=am (hi);(try clear hb);(try clear hb2);(try clear hk);(try clear hi)) |((with_reducible refine jG (N:=5) rfl ?_);refine bE (N:=5) (cs:=#[.int .i64 0, .int .i64 0, .int .i64 0]) (t:=44) ?_;intro gb327 hg w8 hbox hb;have BK327:=am (hbox);have GW327:=am ((Y102:w.heap.size≤gb327));have GE327:=am ((Nat.le_trans HW0.out (Y102:w.heap.size≤gb327):w0.heap.size≤gb327));have NB323_327:=am ((by rw [hg];exact Nat.ne_of_lt (jva (g:=gb323) (o:=.cells #[.slice A1_0 l1_0.length c1_0] 31 (0,0)) (kq BK323.out)):gb323≠gb327));have NB327_323:=am ((by rw [hg];exact Nat.ne_of_gt (jva (g:=gb323) (o:=.cells #[.slice A1_0 l1_0.length c1_0] 31 (0,0)) (kq BK323.out)):gb327≠gb323));have NB324_327:=am ((by rw [hg];exact Nat.ne_of_lt (jva (g:=gb324) (o:=.cells #[.int .i64 0, .int .i64 0, .int .i64 0] 44 (0,0)) (kq BK324.out)):gb324≠gb327));have NB327_324:=am ((by rw [hg];exact Nat.ne_of_gt (jva (g:=gb324) (o:=.cells #[.int .i64 0, .int .i64 0, .int .i64 0] 44 (0,0)) (kq BK324.out)):gb327≠gb324));have NB0_327:=am ((by rw [hg];exact Nat.ne_of_lt (je.lt (show je w0 _ g s0_0 t326 from by repeat (first |(with_reducible first | exact HI0.out | apply je.alloc | apply je.drewN | apply je.drew | apply je.jQb | refine je.far ?_ NB0_323.out _ | refine je.far ?_ NB0_324.out _) | exact HI0.out))):g≠gb327));have NB327_0:=am ((by rw [hg];exact Nat.ne_of_gt (je.lt (show je w0 _ g s0_0 t326 from by repeat (first |(with_reducible first | exact HI0.out | apply je.alloc | apply je.drewN | apply je.drew | apply je.jQb | refine je.far ?_ NB0_323.out _ | refine je.far ?_ NB0_324.out _) | exact HI0.out))):gb327≠g));replace BK323:=am (jc (g:=gb323) (o:=.cells #[.slice A1_0 l1_0.length c1_0] 31 (0,0)) (kq BK323.out) hb);replace BK324:=am (jc (g:=gb324) (o:=.cells #[.int .i64 0, .int .i64 0, .int .i64 0] 44 (0,0)) (kq BK324.out) hb);replace HK:=am (jk.trans (Y101) (jk.of_below hb g none) (.inl rfl));replace HB:=am (jg (Y100) hb);replace HI0:=am (je.below (Y99) hb);clear hb hbox hg;have hnb9:=NB327_323.out;have hnc9:=NB323_327.out;have hnb10:=NB327_324.out;have hnc10:=NB324_327.out;have hnb11:=NB327_0.out;have hnc11:=NB0_327.out;have hcz12_0:=bc0 BK327.out;have hcz12_1:=bc1 BK327.out;have hcz12_2:=bc2 BK327.out;have hfz12_0:=ja BK327.out 0;have hfz12_1:=ja BK327.out 1;have hfz12_2:=ja BK327.out 2))
 (try simp only [Act.put,List.setIfInBounds_toArray,List.set_cons_zero,List.set_cons_succ])
 go_cut [] (fun wc=>∃ (kq:Nat) (x1001_3:Int) (x328001_3:Int),jE (jEa.j0 kq s0_0 x1001_3 t325 x328001_3 0=some (r1,r2,r3,r4))∧jE (kq≤k)∧jE (wc.heap[gb323]?=some (.cells #[(.slice A1_0 l1_0.length c1_0)] 31 (0,0)))∧jE (wc.heap[gb324]?=some (.cells #[.int .i64 0, .int .i64 0, .int .i64 0] 44 (0,0)))∧jE (wc.heap[gb327]?=some (.cells #[.int .i64 t325, .int .i64 x328001_3, .int .i64 0] 44 (0,0)))∧jE (je w0 wc g s0_0 x1001_3)∧jE (jk w wc g none)∧jE (Below w0.heap.size w0 wc))
 case first =>
  have H:=HC4.out
  clear HC4
  by_cases c13:t325≥2
  ·rw [if_pos c13] at H
   have c13b0:decide (2≤t325)=true:=dzT c13
   clear c13
   (first | rw [c13b0] |(simp only [jHb,jLb];rw [c13b0]) | skip)
   replace H:=bzS H
   obtain ⟨⟨t328,t329⟩,A140,H⟩:=H
   replace H:(jEa.j0 k s0_0 t329 t325 t328 0)=some (r1,r2,r3,r4):=H
   have A14:=am A140
   clear A140
   have H':=am H
   clear H
   have hnb15:=NB323_324.out
   have hnc15:=NB324_323.out
   have hnb16:=NB323_327.out
   have hnc16:=NB327_323.out
   have hnb17:=NB323_0.out
   have hnc17:=NB0_323.out
   have hcz18_0:=bc0 BK323.out
   have hfz18_0:=ja BK323.out 0
   go_wp2_with (first |((with_reducible refine jo (f:=47) rfl ?_);refine gL (some 16) Try.func47 #[.pointer (some ⟨g,0,none⟩), .int .i64 (l1_0.length:Int)] ?_;(with_reducible refine (jr.calls k g s0_0 t326 (l1_0.length:Int) t328 t329 w0 _ ?side1 ?side2 A14.out).mono ?_);(case side1=>exact Y29);(case side2=>exact Y41);rintro e w19 ⟨rfl,hi,hb,hk⟩;refine ⟨_,rfl,?_⟩;replace BK323:=am (jk.blk hk (g':=gb323) (o:=.cells #[.slice A1_0 l1_0.length c1_0] 31 (0,0)) (Y103) NB323_0.out (by simp));replace BK324:=am (jk.blk hk (g':=gb324) (o:=.cells #[.int .i64 0, .int .i64 0, .int .i64 0] 44 (0,0)) (Y104) NB324_0.out (by simp));replace BK327:=am (jk.blk hk (g':=gb327) (o:=.cells #[.int .i64 t325, .int .i64 0, .int .i64 0] 44 (0,0)) (Y105) NB327_0.out (by simp));replace HK:=am (jk.trans (Y30) hk (.inl rfl));replace HB:=am (hb);replace HI0:=am (hi);(try clear hb);(try clear hb2);(try clear hk);(try clear hi);have hnb20:=NB327_324.out;have hnc20:=NB324_327.out;have hnb21:=NB327_0.out;have hnc21:=NB0_327.out;have hcz22_0:=bc0 BK327.out;have hcz22_1:=bc1 BK327.out;have hcz22_2:=bc2 BK327.out;have hfz22_0:=ja BK327.out 0;have hfz22_1:=ja BK327.out 1;have hfz22_2:=ja BK327.out 2))
   go_meet
   case rel=>exact ⟨_,(t329),(t328),H',⟨Y34⟩,⟨by (with_reducible repeat (first | refine jd ?_ _ | refine jf ?_ | refine jb ?_ _));refine jT ?_ NB323_327.out _;(with_reducible repeat (first | refine jd ?_ _ | refine jf ?_ | refine jb ?_ _));exact BK323.out⟩,⟨by (with_reducible repeat (first | refine jd ?_ _ | refine jf ?_ | refine jb ?_ _));refine jT ?_ NB324_327.out _;(with_reducible repeat (first | refine jd ?_ _ | refine jf ?_ | refine jb ?_ _));exact BK324.out⟩,⟨by (with_reducible repeat (first | refine jd ?_ _ | refine jf ?_ | refine jb ?_ _));refine jS (cs:=#[.int .i64 t325, .int .i64 0, .int .i64 0]) ?_ 1 _ rfl;(with_reducible repeat (first | refine jd ?_ _ | refine jf ?_ | refine jb ?_ _));exact BK327.out⟩,⟨Y29⟩,⟨Y30⟩,⟨Y41⟩⟩
  ·rw [if_neg c13] at H
   have c13b0:decide (2≤t325)=false:=dzF c13
   clear c13
   (first | rw [c13b0] |(simp only [jHb,jLb];rw [c13b0]) | skip)
   obtain ⟨y330,hy330⟩:∃ y_:List Int,y_=(([1,2,3,0,99]:List Int)):=⟨_,rfl⟩
   replace H:((jB.f k s0_0 t326 y330).bind fun bt333=>(jEa.j0 k s0_0 bt333.2 t325 bt333.1 0))=some (r1,r2,r3,r4):=by first |(rw [hy330];with_reducible exact H) |(have H2_:=(Option.bind_some _ _).symm.trans H;rw [hy330];with_reducible exact H2_) |(have H2_:=(Option.bind_some _ _).symm.trans H;with_reducible exact H2_) | with_reducible exact H |(rw [hy330];exact H) | exact H
   have Ny330:=am hy330
   clear hy330
   replace H:=bzS H
   obtain ⟨⟨t333,t334⟩,A230,H⟩:=H
   replace H:(jEa.j0 k s0_0 t334 t325 t333 0)=some (r1,r2,r3,r4):=H
   have A23:=am A230
   clear A230
   have H':=am H
   clear H
   go_wp2_with (first |((with_reducible refine jG (N:=19) rfl ?_);refine Kd.R_lit (Kd.int .i64) _ 3 ?hg (N:=19) ?hd (xs:=([1,2,3,0,99]:List Int)) (inner:=[.int .i64 1, .int .i64 2, .int .i64 3, .int .i64 0, .int .i64 99]) (ok:=fun _=>True) (okp:=fun _=>True) ?hr ?hp (fun _ hk=>hk) trivial (Below.refl _ _) (Nat.le_refl _) (by simp) ?_;(case hd=>rfl);(case hg=>rfl);(case hr=>exact Y3);(case hp=>exact (Reps.one (show Kd.M (Kd.int .i64) _ _ _ 1 [.int .i64 1] from rfl) (Reps.one (show Kd.M (Kd.int .i64) _ _ _ 2 [.int .i64 2] from rfl) (Reps.one (show Kd.M (Kd.int .i64) _ _ _ 3 [.int .i64 3] from rfl) (Reps.one (show Kd.M (Kd.int .i64) _ _ _ 0 [.int .i64 0] from rfl) (Reps.one (show Kd.M (Kd.int .i64) _ _ _ 99 [.int .i64 99] from rfl) (Reps.none _ _)))))));intro v331 w24 ho25 hb hg_ hnew_;clear hg_ hnew_;(first | rw [← Ny330.out] at ho25 |(simp only [Int.reduceToNat] at ho25;rw [← Ny330.out] at ho25));have HO332:=am (Kd.jpa ho25 (jya (w:=w) (g:=g) (row:=none) (Y30)));replace BK323:=am (jc (g:=gb323) (o:=.cells #[.slice A1_0 l1_0.length c1_0] 31 (0,0)) (Y103) hb);replace BK324:=am (jc (g:=gb324) (o:=.cells #[.int .i64 0, .int .i64 0, .int .i64 0] 44 (0,0)) (Y104) hb);replace BK327:=am (jc (g:=gb327) (o:=.cells #[.int .i64 t325, .int .i64 0, .int .i64 0] 44 (0,0)) (Y105) hb);replace HK:=am (jk.trans (Y30) (jk.of_below hb g none) (.inl rfl));replace HB:=am (jg (Y41) hb);replace HI0:=am (je.below (show je w0 (((w8.setCell ⟨gb327,0,none⟩ (.int .i64 t325)).setCell ⟨gb327,1,none⟩ (.int .i64 0)).setCell ⟨gb327,2,none⟩ (.int .i64 0)) g s0_0 t326 from Y29) hb);clear hb ho25;obtain ⟨Ao26,co26,eo26⟩:=Kd.jga HO332.out;subst eo26) |((with_reducible refine jo (f:=77) rfl ?_);refine gL (some 20) Try.func77 #[.pointer (some ⟨g,0,none⟩), .slice Ao26 y330.length co26] ?_;(with_reducible refine (jB.calls k g s0_0 t326 _ _ y330 t333 t334 w0 _ ?side1 ?side2 ?side3 ?side4 ?side5 A23.out).mono ?_);(case side1=>exact Y29);(case side2=>exact Y41);(case side3=>exact cq (Kd.jC HO332.out).2.2);(case side4=>exact (Kd.jC HO332.out).2.1);(case side5=>exact jIb (je.own_ne HI0.out HO332.out (by decide)));rintro e w27 ⟨rfl,hi,hb,hk⟩;refine ⟨_,rfl,?_⟩;replace BK323:=am (jk.blk hk (g':=gb323) (o:=.cells #[.slice A1_0 l1_0.length c1_0] 31 (0,0)) (kq BK323.out) NB323_0.out (by simp));replace BK324:=am (jk.blk hk (g':=gb324) (o:=.cells #[.int .i64 0, .int .i64 0, .int .i64 0] 44 (0,0)) (kq BK324.out) NB324_0.out (by simp));replace BK327:=am (jk.blk hk (g':=gb327) (o:=.cells #[.int .i64 t325, .int .i64 0, .int .i64 0] 44 (0,0)) (kq BK327.out) NB327_0.out (by simp));replace HO332:=am (Kd.jJ (Kd.jIa (je.apart (show je w0 _ g s0_0 t326 from Y29) (rq HO332.out) (by decide)) hk (fun _ h=>h.2)) (fun _ h=>h.1));replace HK:=am (jk.trans (Y30) hk (.inl rfl));replace HB:=am (hb);replace HI0:=am (hi);(try clear hb);(try clear hb2);(try clear hk);(try clear hi);have hnb28:=NB327_323.out;have hnc28:=NB323_327.out;have hnb29:=NB327_324.out;have hnc29:=NB324_327.out;have hnb30:=NB327_0.out;have hnc30:=NB0_327.out;have hcz31_0:=bc0 BK327.out;have hcz31_1:=bc1 BK327.out;have hcz31_2:=bc2 BK327.out;have hfz31_0:=ja BK327.out 0;have hfz31_1:=ja BK327.out 1;have hfz31_2:=ja BK327.out 2))
   go_meet
   case rel=>exact ⟨_,(t334),(t333),H',⟨Y34⟩,⟨by (with_reducible repeat (first | refine jd ?_ _ | refine jf ?_ | refine jb ?_ _));refine jT ?_ NB323_327.out _;(with_reducible repeat (first | refine jd ?_ _ | refine jf ?_ | refine jb ?_ _));exact BK323.out⟩,⟨by (with_reducible repeat (first | refine jd ?_ _ | refine jf ?_ | refine jb ?_ _));refine jT ?_ NB324_327.out _;(with_reducible repeat (first | refine jd ?_ _ | refine jf ?_ | refine jb ?_ _));exact BK324.out⟩,⟨by (with_reducible repeat (first | refine jd ?_ _ | refine jf ?_ | refine jb ?_ _));refine jS (cs:=#[.int .i64 t325, .int .i64 0, .int .i64 0]) ?_ 1 _ rfl;(with_reducible repeat (first | refine jd ?_ _ | refine jf ?_ | refine jb ?_ _));exact BK327.out⟩,⟨Y29⟩,⟨Y30⟩,⟨Y41⟩⟩
 case rest =>
  clear HC4
  try clear c1
  try clear c2
  try clear p2
  try clear c3
  try clear c4
  try clear c6
  try clear c7
  try clear c9
  try clear c10
  try clear c11
  try clear c13
  try clear c13b0
  try clear c15
  try clear c16
  try clear c17
  try clear c20
  try clear c21
  try clear c28
  try clear c29
  try clear c30
  try clear hcz12_0
  try clear hcz12_1
  try clear hcz12_2
  try clear hcz18_0
  try clear hcz22_0
  try clear hcz22_1
  try clear hcz22_2
  try clear hcz31_0
  try clear hcz31_1
  try clear hcz31_2
  try clear hfz12_0
  try clear hfz12_1
  try clear hfz12_2
  try clear hfz18_0
  try clear hfz22_0
  try clear hfz22_1
  try clear hfz22_2
  try clear hfz31_0
  try clear hfz31_1
  try clear hfz31_2
  obtain ⟨kq,x1001_3,x328001_3,HA,HJ3,BK323,BK324,BK327,HI0,HK,HB⟩:=hcut
  cases kq with
  | zero=>exact absurd HA.out (by simp [jEa.j0])
  | succ kj3 =>
   have H:=HA.out
   clear HA
   simp only [jEa.j0] at H
   by_cases c32:t325=3
   ·rw [if_pos c32] at H
    have c32b0:(t325 == 3)=true:=beq_iff_eq.mpr c32
    have c32b1:(t325 != 3)=false:=bne_eq_false_iff_eq.mpr c32
    clear c32
    obtain ⟨y335,hy335⟩:∃ y_:List Int,y_=(([1,2,3]:List Int)):=⟨_,rfl⟩
    replace H:((jB.f kj3 s0_0 x1001_3 y335).bind fun bt338=>(some (t325,x328001_3,bt338.1,bt338.2)))=some (r1,r2,r3,r4):=by first |(rw [hy335];with_reducible exact H) |(have H2_:=(Option.bind_some _ _).symm.trans H;rw [hy335];with_reducible exact H2_) |(have H2_:=(Option.bind_some _ _).symm.trans H;with_reducible exact H2_) | with_reducible exact H |(rw [hy335];exact H) | exact H
    have Ny335:=am hy335
    clear hy335
    replace H:=bzS H
    obtain ⟨⟨t338,t339⟩,A330,H⟩:=H
    replace H:(some (t325,x328001_3,t338,t339))=some (r1,r2,r3,r4):=H
    have A33:=am A330
    clear A330
    simp only [Option.some.injEq,Prod.mk.injEq] at H
    obtain ⟨rfl,rfl,rfl,rfl⟩:=H
    have hnb34:=NB327_323.out
    have hnc34:=NB323_327.out
    have hnb35:=NB327_324.out
    have hnc35:=NB324_327.out
    have hnb36:=NB327_0.out
    have hnc36:=NB0_327.out
    have hcz37_0:=bc0 BK327.out
    have hcz37_1:=bc1 BK327.out
    have hcz37_2:=bc2 BK327.out
    have hfz37_0:=ja BK327.out 0
    have hfz37_1:=ja BK327.out 1
    have hfz37_2:=ja BK327.out 2
    go_wp2_with (first |((with_reducible refine jG (N:=26) rfl ?_);refine Kd.R_lit (Kd.int .i64) _ 3 ?hg (N:=26) ?hd (xs:=([1,2,3]:List Int)) (inner:=[.int .i64 1, .int .i64 2, .int .i64 3]) (ok:=fun _=>True) (okp:=fun _=>True) ?hr ?hp (fun _ hk=>hk) trivial (Below.refl _ _) (Nat.le_refl _) (by simp) ?_;(case hd=>rfl);(case hg=>rfl);(case hr=>exact Y3);(case hp=>exact (Reps.one (show Kd.M (Kd.int .i64) _ _ _ 1 [.int .i64 1] from rfl) (Reps.one (show Kd.M (Kd.int .i64) _ _ _ 2 [.int .i64 2] from rfl) (Reps.one (show Kd.M (Kd.int .i64) _ _ _ 3 [.int .i64 3] from rfl) (Reps.none _ _)))));intro v336 w38 ho39 hb hg_ hnew_;clear hg_ hnew_;(first | rw [← Ny335.out] at ho39 |(simp only [Int.reduceToNat] at ho39;rw [← Ny335.out] at ho39));have HO337:=am (Kd.jpa ho39 (jya (w:=w) (g:=g) (row:=none) (Y30)));replace BK323:=am (jc (g:=gb323) (o:=.cells #[.slice A1_0 l1_0.length c1_0] 31 (0,0)) (kq BK323.out) hb);replace BK324:=am (jc (g:=gb324) (o:=.cells #[.int .i64 0, .int .i64 0, .int .i64 0] 44 (0,0)) (kq BK324.out) hb);replace BK327:=am (jc (g:=gb327) (o:=.cells #[.int .i64 t325, .int .i64 x328001_3, .int .i64 0] 44 (0,0)) (kq BK327.out) hb);replace HK:=am (jk.trans (Y30) (jk.of_below hb g none) (.inl rfl));replace HB:=am (jg (Y41) hb);replace HI0:=am (je.below (Y29) hb);clear hb ho39;obtain ⟨Ao40,co40,eo40⟩:=Kd.jga HO337.out;subst eo40) |((with_reducible refine jo (f:=77) rfl ?_);refine gL (some 27) Try.func77 #[.pointer (some ⟨g,0,none⟩), .slice Ao40 y335.length co40] ?_;(with_reducible refine (jB.calls kj3 g s0_0 x1001_3 _ _ y335 t338 t339 w0 _ ?side1 ?side2 ?side3 ?side4 ?side5 A33.out).mono ?_);(case side1=>exact Y29);(case side2=>exact Y41);(case side3=>exact cq (Kd.jC HO337.out).2.2);(case side4=>exact (Kd.jC HO337.out).2.1);(case side5=>exact jIb (je.own_ne HI0.out HO337.out (by decide)));rintro e w41 ⟨rfl,hi,hb,hk⟩;refine ⟨_,rfl,?_⟩;replace BK323:=am (jk.blk hk (g':=gb323) (o:=.cells #[.slice A1_0 l1_0.length c1_0] 31 (0,0)) (kq BK323.out) NB323_0.out (by simp));replace BK324:=am (jk.blk hk (g':=gb324) (o:=.cells #[.int .i64 0, .int .i64 0, .int .i64 0] 44 (0,0)) (kq BK324.out) NB324_0.out (by simp));replace BK327:=am (jk.blk hk (g':=gb327) (o:=.cells #[.int .i64 t325, .int .i64 x328001_3, .int .i64 0] 44 (0,0)) (kq BK327.out) NB327_0.out (by simp));replace HO337:=am (Kd.jJ (Kd.jIa (je.apart (show je w0 _ g s0_0 x1001_3 from Y29) (rq HO337.out) (by decide)) hk (fun _ h=>h.2)) (fun _ h=>h.1));replace HK:=am (jk.trans (Y30) hk (.inl rfl));replace HB:=am (hb);replace HI0:=am (hi);(try clear hb);(try clear hb2);(try clear hk);(try clear hi);have hcz42_0:=bc0 BK327.out;have hcz42_1:=bc1 BK327.out;have hcz42_2:=bc2 BK327.out;have hfz42_0:=ja BK327.out 0;have hfz42_1:=ja BK327.out 1;have hfz42_2:=ja BK327.out 2;have hnb43:=NB324_323.out;have hnc43:=NB323_324.out;have hnb44:=NB324_0.out;have hnc44:=NB0_324.out;have hcz45_0:=bc0 BK324.out;have hcz45_1:=bc1 BK324.out;have hcz45_2:=bc2 BK324.out;have hfz45_0:=ja BK324.out 0;have hfz45_1:=ja BK324.out 1;have hfz45_2:=ja BK324.out 2))
    refine bodyPost_ret (results_cell_row rfl _ _ gb324 44 #[.int .i64 t325, .int .i64 x328001_3, .int .i64 t338] (0,0) _ rfl (by (with_reducible repeat (first | refine jd ?_ _ | refine jf ?_ | refine jb ?_ _));refine jS (cs:=#[.int .i64 t325, .int .i64 x328001_3, .int .i64 0]) ?_ 2 _ rfl;(with_reducible repeat (first | refine jd ?_ _ | refine jf ?_ | refine jb ?_ _));refine jS (cs:=#[.int .i64 t325, .int .i64 0, .int .i64 0]) ?_ 1 _ rfl;(with_reducible repeat (first | refine jd ?_ _ | refine jf ?_ | refine jb ?_ _));refine jS (cs:=#[.int .i64 0, .int .i64 0, .int .i64 0]) ?_ 0 _ rfl;(with_reducible repeat (first | refine jd ?_ _ | refine jf ?_ | refine jb ?_ _));refine jT ?_ NB324_327.out _;(with_reducible repeat (first | refine jd ?_ _ | refine jf ?_ | refine jb ?_ _));exact BK324.out) Try.underlying44 rfl (by kernel_rfl)) rfl ?_
    exact ⟨Y0,Y29,Y41,Y30⟩
   ·rw [if_neg c32] at H
    have c32b0:(t325 == 3)=false:=beq_eq_false_iff_ne.mpr c32
    have c32b1:(t325 != 3)=true:=bne_iff_ne.mpr c32
    simp only [Option.some.injEq,Prod.mk.injEq] at H
    obtain ⟨rfl,rfl,rfl,rfl⟩:=H
    have hnb46:=NB327_323.out
    have hnc46:=NB323_327.out
    have hnb47:=NB327_324.out
    have hnc47:=NB324_327.out
    have hnb48:=NB327_0.out
    have hnc48:=NB0_327.out
    have hcz49_0:=bc0 BK327.out
    have hcz49_1:=bc1 BK327.out
    have hcz49_2:=bc2 BK327.out
    have hfz49_0:=ja BK327.out 0
    have hfz49_1:=ja BK327.out 1
    have hfz49_2:=ja BK327.out 2
    have hnb50:=NB324_323.out
    have hnc50:=NB323_324.out
    have hnb51:=NB324_0.out
    have hnc51:=NB0_324.out
    have hcz52_0:=bc0 BK324.out
    have hcz52_1:=bc1 BK324.out
    have hcz52_2:=bc2 BK324.out
    have hfz52_0:=ja BK324.out 0
    have hfz52_1:=ja BK324.out 1
    have hfz52_2:=ja BK324.out 2
    go_wp2
    refine bodyPost_ret (results_cell_row rfl _ _ gb324 44 #[.int .i64 t325, .int .i64 x328001_3, .int .i64 0] (0,0) _ rfl (by (with_reducible repeat (first | refine jd ?_ _ | refine jf ?_ | refine jb ?_ _));refine jS (cs:=#[.int .i64 t325, .int .i64 x328001_3, .int .i64 0]) ?_ 2 _ rfl;(with_reducible repeat (first | refine jd ?_ _ | refine jf ?_ | refine jb ?_ _));refine jS (cs:=#[.int .i64 t325, .int .i64 0, .int .i64 0]) ?_ 1 _ rfl;(with_reducible repeat (first | refine jd ?_ _ | refine jf ?_ | refine jb ?_ _));refine jS (cs:=#[.int .i64 0, .int .i64 0, .int .i64 0]) ?_ 0 _ rfl;(with_reducible repeat (first | refine jd ?_ _ | refine jf ?_ | refine jb ?_ _));exact BK324.out) Try.underlying44 rfl (by kernel_rfl)) rfl ?_
    exact ⟨Y0,Y29,Y41,Y30⟩
def jea.l0 : Nat → List (S44) → Int → List Int → Int → List (S106) → Option ((List (S44)) × Int)
 | 0,_,_,_,_,_=>none
 | k+1,x5,x6,x1000,x1001,x341000=>if x6 > 0 then ((jEa.f k x1000 x1001 x341000).bind fun bt349=>(if x5.length<5864062014805 then (jea.l0 k (x5 ++ [(⟨bt349.1,bt349.2.1,bt349.2.2.1⟩:S44)]) (wrap64 (x6 - 1)) x1000 bt349.2.2.2 x341000) else (none))) else (some (x5,x1001))
def jea.f (k : Nat) (s0_0 : List Int) (s0_1 : Int) (l1_0 : List (S106)) : Option ((List (S44)) × Int) := (jB.f k s0_0 s0_1 (([3, 4, 2, 1, 5, 0, 8] : List Int))).bind fun bt347 => (jea.l0 k (([] : List (S44))) bt347.1 s0_0 bt347.2 l1_0)
set_option maxHeartbeats 8000000 in
set_option maxRecDepth 100000 in
theorem jea.calls (k : Nat) (g : Nat) (s0_0 : List Int) (s0_1 : Int) (A1_0 : Option Addr) (c1_0 : Nat) (l1_0 : List (S106)) (r1 : List (S44)) (r2 : Int) (w0 w : World) (hI : je w0 w g s0_0 s0_1) (hB : Below w0.heap.size w0 w) (hr1_0 : ∀ W_, jk w W_ g none → Kd.C k106 W_ A1_0 l1_0.length l1_0) (hc1_0 : l1_0.length ≤ c1_0) (h : jea.f k s0_0 s0_1 l1_0 = some (r1, r2)) :
  Calls Try.prog 64 #[.pointer (some ⟨g,0,none⟩), .agg #[.slice A1_0 l1_0.length c1_0]] w fun e w'=>∃ v0_:Value,e=.returned (v0_)∧Kd.R k44 44 w' w.heap.size (fun _=>True) v0_ r1∧je w0 w' g s0_0 r2∧Below w0.heap.size w0 w'∧jk w w' g none:=by
 have hu31:=Try.underlying31
 have HR1_0:=am hr1_0
 have HC1_0:=am hc1_0
 clear hr1_0 hc1_0
 have HI0:=am hI
 have HK:=am (jk.refl w g none)
 have HL:=am hB.size
 clear hI
 have HW0:=am hB.size
 have HB:=am hB
 clear hB
 have H:((jB.f k s0_0 s0_1 (([3,4,2,1,5,0,8]:List Int))).bind fun bt347=>(jea.l0 k (([]:List (S44))) bt347.1 s0_0 bt347.2 l1_0))=some (r1,r2):=h
 clear h
 obtain ⟨y341,hy341⟩:∃ y_:List (S44),y_=(([]:List (S44))):=⟨_,rfl⟩
 replace H:((jB.f k s0_0 s0_1 (([3,4,2,1,5,0,8]:List Int))).bind fun bt347=>(jea.l0 k y341 bt347.1 s0_0 bt347.2 l1_0))=some (r1,r2):=by first |(rw [hy341];with_reducible exact H) |(have H2_:=(Option.bind_some _ _).symm.trans H;rw [hy341];with_reducible exact H2_) |(have H2_:=(Option.bind_some _ _).symm.trans H;with_reducible exact H2_) | with_reducible exact H |(rw [hy341];exact H) | exact H
 have Ny341:=am hy341
 clear hy341
 obtain ⟨y344,hy344⟩:∃ y_:List Int,y_=(([3,4,2,1,5,0,8]:List Int)):=⟨_,rfl⟩
 replace H:((jB.f k s0_0 s0_1 y344).bind fun bt347=>(jea.l0 k y341 bt347.1 s0_0 bt347.2 l1_0))=some (r1,r2):=by first |(rw [hy344];with_reducible exact H) |(have H2_:=(Option.bind_some _ _).symm.trans H;rw [hy344];with_reducible exact H2_) |(have H2_:=(Option.bind_some _ _).symm.trans H;with_reducible exact H2_) | with_reducible exact H |(rw [hy344];exact H) | exact H
 have Ny344:=am hy344
 clear hy344
 replace H:=bzS H
 obtain ⟨⟨t347,t348⟩,A30,H⟩:=H
 replace H:(jea.l0 k y341 t347 s0_0 t348 l1_0)=some (r1,r2):=H
 have A3:=am A30
 clear A30
 have H':=am H
 clear H
 go_enter Try.func64,Try.ntmps64
 go_wp2_with (first |((with_reducible refine jG (N:=3) rfl ?_);refine bE (N:=3) (cs:=#[.slice A1_0 l1_0.length c1_0]) (t:=31) ?_;intro gb340 hg w4 hbox hb;have BK340:=am (hbox);have GW340:=am ((Y7:w.heap.size≤gb340));have GE340:=am ((Nat.le_trans HW0.out (Y7:w.heap.size≤gb340):w0.heap.size≤gb340));have NB0_340:=am ((Y23:g≠gb340));have NB340_0:=am ((Y24:gb340≠g));replace HK:=am (jk.trans (Y11) (jk.of_below hb g none) (.inl rfl));replace HB:=am (jg (Y12) hb);replace HI0:=am (je.below (Y10) hb);clear hb hbox hg) |((with_reducible refine jG (N:=7) rfl ?_);refine Kd.R_lit k44 _ 44 ?hg (N:=7) ?hd (xs:=([]:List (S44))) (inner:=[]) (ok:=fun _=>True) (okp:=fun _=>True) ?hr ?hp (fun _ hk=>hk) trivial (Below.refl _ _) (Nat.le_refl _) (by simp) ?_;(case hd=>rfl);(case hg=>rfl);(case hr=>exact Y3);(case hp=>exact (Reps.none _ _));intro v342 w5 ho6 hb hg_ hnew_;clear hg_ hnew_;(first | rw [← Ny341.out] at ho6 |(simp only [Int.reduceToNat] at ho6;rw [← Ny341.out] at ho6));have HO343:=am (Kd.jpa ho6 (jya (w:=w) (g:=g) (row:=none) (Y25)));replace BK340:=am (jc (g:=gb340) (o:=.cells #[.slice A1_0 l1_0.length c1_0] 31 (0,0)) (kq BK340.out) hb);replace HK:=am (jk.trans (Y25) (jk.of_below hb g none) (.inl rfl));replace HB:=am (jg (Y44) hb);replace HI0:=am (je.below (Y31) hb);clear hb ho6) |((with_reducible refine jG (N:=9) rfl ?_);refine Kd.R_lit (Kd.int .i64) _ 3 ?hg (N:=9) ?hd (xs:=([3,4,2,1,5,0,8]:List Int)) (inner:=[.int .i64 3, .int .i64 4, .int .i64 2, .int .i64 1, .int .i64 5, .int .i64 0, .int .i64 8]) (ok:=fun _=>True) (okp:=fun _=>True) ?hr ?hp (fun _ hk=>hk) trivial (Below.refl _ _) (Nat.le_refl _) (by simp) ?_;(case hd=>rfl);(case hg=>rfl);(case hr=>exact Y3);(case hp=>exact (Reps.one (show Kd.M (Kd.int .i64) _ _ _ 3 [.int .i64 3] from rfl) (Reps.one (show Kd.M (Kd.int .i64) _ _ _ 4 [.int .i64 4] from rfl) (Reps.one (show Kd.M (Kd.int .i64) _ _ _ 2 [.int .i64 2] from rfl) (Reps.one (show Kd.M (Kd.int .i64) _ _ _ 1 [.int .i64 1] from rfl) (Reps.one (show Kd.M (Kd.int .i64) _ _ _ 5 [.int .i64 5] from rfl) (Reps.one (show Kd.M (Kd.int .i64) _ _ _ 0 [.int .i64 0] from rfl) (Reps.one (show Kd.M (Kd.int .i64) _ _ _ 8 [.int .i64 8] from rfl) (Reps.none _ _)))))))));intro v345 w7 ho8 hb hg_ hnew_;clear hg_ hnew_;(first | rw [← Ny344.out] at ho8 |(simp only [Int.reduceToNat] at ho8;rw [← Ny344.out] at ho8));have HO346:=am (Kd.jpa ho8 (jya (w:=w) (g:=g) (row:=none) (Y25)));replace HO343:=am (Kd.jaa (rq HO343.out) hb);replace BK340:=am (jc (g:=gb340) (o:=.cells #[.slice A1_0 l1_0.length c1_0] 31 (0,0)) (kq BK340.out) hb);replace HK:=am (jk.trans (Y25) (jk.of_below hb g none) (.inl rfl));replace HB:=am (jg (Y44) hb);replace HI0:=am (je.below (Y31) hb);clear hb ho8;obtain ⟨Ao9,co9,eo9⟩:=Kd.jga HO346.out;subst eo9) |((with_reducible refine jo (f:=77) rfl ?_);refine gL (some 10) Try.func77 #[.pointer (some ⟨g,0,none⟩), .slice Ao9 y344.length co9] ?_;(with_reducible refine (jB.calls k g s0_0 s0_1 _ _ y344 t347 t348 w0 _ ?side1 ?side2 ?side3 ?side4 ?side5 A3.out).mono ?_);(case side1=>exact Y31);(case side2=>exact Y44);(case side3=>exact cq (Kd.jC HO346.out).2.2);(case side4=>exact (Kd.jC HO346.out).2.1);(case side5=>exact jIb (je.own_ne HI0.out HO346.out (by decide)));rintro e w10 ⟨rfl,hi,hb,hk⟩;refine ⟨_,rfl,?_⟩;replace BK340:=am (jk.blk hk (g':=gb340) (o:=.cells #[.slice A1_0 l1_0.length c1_0] 31 (0,0)) (kq BK340.out) NB340_0.out (by simp));replace HO343:=am (Kd.jJ (Kd.jIa (je.apart (show je w0 _ g s0_0 s0_1 from Y31) (rq HO343.out) (by decide)) hk (fun _ h=>h.2)) (fun _ h=>h.1));replace HO346:=am (Kd.jJ (Kd.jIa (je.apart (show je w0 _ g s0_0 s0_1 from Y31) (rq HO346.out) (by decide)) hk (fun _ h=>h.2)) (fun _ h=>h.1));replace HK:=am (jk.trans (Y25) hk (.inl rfl));replace HB:=am (hb);replace HI0:=am (hi);(try clear hb);(try clear hb2);(try clear hk);(try clear hi)))
 go_loopg [5,6] k (fun kq v5 v6 w'=>∃ (x5_1:List (S44)) (x6_1:Int) (x1001_1:Int),v6=.int .i64 x6_1∧jE (jea.l0 kq x5_1 x6_1 s0_0 x1001_1 l1_0=some (r1,r2))∧jE (kq≤k)∧jE (Kd.R k44 44 w' w.heap.size (fun _=>True) v5 x5_1)∧jE (w'.heap[gb340]?=some (.cells #[(.slice A1_0 l1_0.length c1_0)] 31 (0,0)))∧jE (je w0 w' g s0_0 x1001_1)∧jE (jk w w' g none)∧jE (Below w0.heap.size w0 w'))
 case atStart=>exact ⟨(y341),(t347),(t348),(sq),H',⟨Nat.le_refl _⟩,⟨rq HO343.out⟩,⟨kq BK340.out⟩,⟨Y31⟩,⟨Y25⟩,⟨Y44⟩⟩
 case round =>
  clear H'
  try clear c1
  try clear p2
  try clear c6
  try clear c7
  obtain ⟨x5_1,x6_1,x1001_1,rfl,HA,HK1,HO_5,BK340,HI0,HK,HB⟩:=hrel
  cases gk with
  | zero=>exact absurd HA.out (by simp [jea.l0])
  | succ k1 =>
   have H:=HA.out
   clear HA
   simp only [jea.l0] at H
   by_cases c11:x6_1 > 0
   ·rw [if_pos c11] at H
    have c11b0:decide (0<x6_1)=true:=dzT c11
    clear c11
    replace H:=bzS H
    obtain ⟨⟨t349,t350,t351,t352⟩,A120,H⟩:=H
    replace H:(if x5_1.length<5864062014805 then (jea.l0 k1 (x5_1 ++ [(⟨t349,t350,t351⟩:S44)]) (wrap64 (x6_1 - 1)) s0_0 t352 l1_0) else (none))=some (r1,r2):=H
    have A12:=am A120
    clear A120
    by_cases c13:x5_1.length<5864062014805
    ·rw [if_pos c13] at H
     have LMc13:=am c13
     clear c13
     obtain ⟨y353,hy353⟩:∃ y_:List (S44),y_=(x5_1 ++ [(⟨t349,t350,t351⟩:S44)]):=⟨_,rfl⟩
     replace H:(jea.l0 k1 y353 (wrap64 (x6_1 - 1)) s0_0 t352 l1_0)=some (r1,r2):=by first |(rw [hy353];with_reducible exact H) |(have H2_:=(Option.bind_some _ _).symm.trans H;rw [hy353];with_reducible exact H2_) |(have H2_:=(Option.bind_some _ _).symm.trans H;with_reducible exact H2_) | with_reducible exact H |(rw [hy353];exact H) | exact H
     have Ny353:=am hy353
     clear hy353
     have H':=am H
     clear H
     have hnb14:=NB340_0.out
     have hnc14:=NB0_340.out
     have hcz15_0:=bc0 BK340.out
     have hfz15_0:=ja BK340.out 0
     go_wp2_with (first |((with_reducible refine jo (f:=61) rfl ?_);refine gL (some 18) Try.func61 #[.pointer (some ⟨g,0,none⟩), .agg #[.slice A1_0 l1_0.length c1_0]] ?_;(with_reducible refine (jEa.calls k1 g s0_0 x1001_1 _ _ l1_0 t349 t350 t351 t352 w0 _ ?side1 ?side2 ?side3 ?side4 A12.out).mono ?_);(case side1=>exact Y31);(case side2=>exact Y44);(case side3=>exact Kd.C_foot_step HR1_0.out (Y25));(case side4=>exact HC1_0.out);rintro e w16 ⟨rfl,hi,hb,hk⟩;refine ⟨_,rfl,?_⟩;replace HO_5:=am (Kd.jJ (Kd.jIa (je.apart (show je w0 _ g s0_0 x1001_1 from Y31) (rq HO_5.out) (by decide)) hk (fun _ h=>h.2)) (fun _ h=>h.1));replace BK340:=am (jk.blk hk (g':=gb340) (o:=.cells #[.slice A1_0 l1_0.length c1_0] 31 (0,0)) (kq BK340.out) NB340_0.out (by simp));replace HK:=am (jk.trans (Y25) hk (.inl rfl));replace HB:=am (hb);replace HI0:=am (hi);(try clear hb);(try clear hb2);(try clear hk);(try clear hi)) |((with_reducible refine jpb (b:=.append) (xs:=#[.tmp 15, .tmp 19]) rfl ?_);at_builtin;refine Kd.jWb k44 w.heap.size rfl (.tmp 15) (.tmp 19) 33 44 (.agg #[(.int .i64 0),(.int .i64 0),(.int .i64 0)]) 24 rfl Try.underlying33 info44 rfl (by decide) (by omega) u5 x5_1 (⟨t349,t350,t351⟩:S44) [.int .i64 t349, .int .i64 t350, .int .i64 t351] (fun _=>True) (fun _=>False) rfl rfl ?aP (fun _ hk=>hk.elim) ?aF ?aO (Below.refl _ _) ?aS ?aL ?_;(case aP=>exact k44_mkM _ _ _ (⟨t349,t350,t351⟩:S44));(case aF=>exact (fun _ _=>trivial));(case aO=>exact (rq HO_5.out));(case aS=>exact (jya (w:=w) (g:=g) (row:=none) (Y25)));(case aL=>have:=LMc13.out;omega);intro v354 w17 ho hb hg hat;rw [← Ny353.out] at ho;have n0_:=am (jqa (g:=gb340) (o:=.cells #[.slice A1_0 l1_0.length c1_0] 31 (0,0)) (kq BK340.out) hg (Kd.R_ne HO_5.out BK340.out (by decide)));have n1_:=am (je.grown (Y31) hg (je.own_ne HI0.out HO_5.out (by decide)));have n2_:=am (below_weaken (Y44) HL.out hb);have n3_:=am (jk.trans (Y25) (jk.jGb hg g) (Kd.R_base2 HO_5.out));have n4_:=am (ho);clear BK340 HI0 HB HK HO_5;have BK340:=n0_;have HI0:=n1_;have HB:=n2_;have HK:=n3_;have HO355:=n4_;clear n0_ n1_ n2_ n3_ n4_ ho hb hg hat))
     go_roundg k1
     case measure=>have:=HK1.out;omega
     case rel=>exact ⟨(y353),(wrap64 (x6_1 - 1)),(t352),(sq),H',⟨by have:=HK1.out;omega⟩,⟨rq HO355.out⟩,⟨kq BK340.out⟩,⟨Y31⟩,⟨Y25⟩,⟨Y44⟩⟩
    ·rw [if_neg c13] at H
     exact absurd H (by simp)
   ·rw [if_neg c11] at H
    have c11b0:decide (0<x6_1)=false:=dzF c11
    clear c11
    simp only [Option.some.injEq,Prod.mk.injEq] at H
    obtain ⟨rfl,rfl⟩:=H
    go_wp2
    go_ret
    exact ⟨_,Y0,rq HO_5.out,Y31,Y44,Y25⟩
def jR.l0 : Nat → List ByteArray → Int → Int → List Int → Int → List (S106) → Option ((List (S106)) × Int)
 | 0,_,_,_,_,_,_=>none
 | k+1,x3,x5,x6,x1000,x1001,x364000=>if x6<x5 then (if 0≤x6 then (if x6<(x3.length:Int) then ((jr.f k x1000 x1001 x6).bind fun bt370=>((jB.f k x1000 bt370.2 (([0,bt370.1,wrap64 (x6 - 1)]:List Int))).bind fun bt375=>(if x364000.length<5864062014805 then (jR.l0 k x3 x5 (wrap64 (x6+1)) x1000 bt375.2 (x364000 ++ [(⟨rdOf ByteArray.empty x3 x6,bt375.1⟩:S106)])) else (none)))) else (none)) else (none)) else (some (x364000,x1001))
def jR.f (k : Nat) (s0_0 : List Int) (s0_1 : Int) : Option ((List (S106)) × Int) := (jB.f k s0_0 s0_1 (([4, 5, 3, 6, 2, 1, 8] : List Int))).bind fun bt367 => (jR.l0 k (([(⟨#[97, 110, 121]⟩ : ByteArray), (⟨#[105, 111]⟩ : ByteArray), (⟨#[107, 101, 121]⟩ : ByteArray), (⟨#[116, 105, 109, 101]⟩ : ByteArray), (⟨#[110, 101, 116]⟩ : ByteArray), (⟨#[100, 105, 115, 107]⟩ : ByteArray), (⟨#[116, 121, 112, 101]⟩ : ByteArray), (⟨#[111, 100, 100]⟩ : ByteArray)] : List ByteArray)) bt367.1 1 s0_0 bt367.2 (([(⟨(⟨#[97, 110, 121]⟩ : ByteArray), (-1)⟩ : S106)] : List (S106))))
def jR.T7 : Bool × List (List Nat × List Nat) := (true, [([], []), ([0], [0]), ([], []), ([], []), ([2, 3], [2, 3]), ([4], [4]), ([], []), ([], []), ([], []), ([7, 8], [7, 8]), ([], []), ([10], [10]), ([9, 11], [9, 11]), ([6, 12, 9], [6, 12]), ([5, 13], [5, 13]), ([14], [14]), ([1, 15, 13], [1, 15]), ([0, 1, 2, 3, 4, 5, 6, 7, 8, 9, 10, 11, 12, 13, 14, 15, 16], []), ([17, 16, 16, 0, 1, 2, 3, 4, 5, 6, 7, 8, 9, 10, 11, 12, 13, 14, 15, 16], [16, 17])])
def jR.B7 : List Nat := [0, 1, 0, 0, 12, 28, 0, 0, 0, 384, 0, 1024, 3968, 8128, 16380, 32764, 65535, 131071, 262143]
theorem jR.tab7 : rtab .any (opsOf Try.f107 7) = jR.T7 := by kernel_rfl
theorem jR.bits7 : jpc jR.T7.2 jR.B7 = true := by kernel_rfl
set_option maxHeartbeats 8000000 in
set_option maxRecDepth 100000 in
theorem jR.calls (k : Nat) (g : Nat) (s0_0 : List Int) (s0_1 : Int) (r1 : List (S106)) (r2 : Int) (w0 w : World) (hI : je w0 w g s0_0 s0_1) (hB : Below w0.heap.size w0 w) (h : jR.f k s0_0 s0_1 = some (r1, r2)) :
  Calls Try.prog 107 #[.pointer (some ⟨g,0,none⟩)] w fun e w'=>∃ v0_:Value,e=.returned (.agg #[v0_])∧Kd.R k106 106 w' w.heap.size (fun _=>True) v0_ r1∧je w0 w' g s0_0 r2∧Below w0.heap.size w0 w'∧jk w w' g none:=by
 have hu31:=Try.underlying31
 have hu106:=Try.underlying106
 have HI0:=am hI
 have HK:=am (jk.refl w g none)
 have HL:=am hB.size
 clear hI
 have HW0:=am hB.size
 have HB:=am hB
 clear hB
 have H:((jB.f k s0_0 s0_1 (([4,5,3,6,2,1,8]:List Int))).bind fun bt367=>(jR.l0 k (([(⟨#[97,110,121]⟩:ByteArray),(⟨#[105,111]⟩:ByteArray),(⟨#[107,101,121]⟩:ByteArray),(⟨#[116,105,109,101]⟩:ByteArray),(⟨#[110,101,116]⟩:ByteArray),(⟨#[100,105,115,107]⟩:ByteArray),(⟨#[116,121,112,101]⟩:ByteArray),(⟨#[111,100,100]⟩:ByteArray)]:List ByteArray)) bt367.1 1 s0_0 bt367.2 (([(⟨(⟨#[97,110,121]⟩:ByteArray),(-1)⟩:S106)]:List (S106)))))=some (r1,r2):=h
 clear h
 obtain ⟨y357,hy357⟩:∃ y_:List ByteArray,y_=(([(⟨#[97,110,121]⟩:ByteArray),(⟨#[105,111]⟩:ByteArray),(⟨#[107,101,121]⟩:ByteArray),(⟨#[116,105,109,101]⟩:ByteArray),(⟨#[110,101,116]⟩:ByteArray),(⟨#[100,105,115,107]⟩:ByteArray),(⟨#[116,121,112,101]⟩:ByteArray),(⟨#[111,100,100]⟩:ByteArray)]:List ByteArray)):=⟨_,rfl⟩
 replace H:((jB.f k s0_0 s0_1 (([4,5,3,6,2,1,8]:List Int))).bind fun bt367=>(jR.l0 k y357 bt367.1 1 s0_0 bt367.2 (([(⟨(⟨#[97,110,121]⟩:ByteArray),(-1)⟩:S106)]:List (S106)))))=some (r1,r2):=by first |(rw [hy357];with_reducible exact H) |(have H2_:=(Option.bind_some _ _).symm.trans H;rw [hy357];with_reducible exact H2_) |(have H2_:=(Option.bind_some _ _).symm.trans H;with_reducible exact H2_) | with_reducible exact H |(rw [hy357];exact H) | exact H
 have Ny357:=am hy357
 clear hy357
 obtain ⟨y360,hy360⟩:∃ y_:List (S106),y_=(([(⟨(⟨#[97,110,121]⟩:ByteArray),(-1)⟩:S106)]:List (S106))):=⟨_,rfl⟩
 replace H:((jB.f k s0_0 s0_1 (([4,5,3,6,2,1,8]:List Int))).bind fun bt367=>(jR.l0 k y357 bt367.1 1 s0_0 bt367.2 y360))=some (r1,r2):=by first |(rw [hy360];with_reducible exact H) |(have H2_:=(Option.bind_some _ _).symm.trans H;rw [hy360];with_reducible exact H2_) |(have H2_:=(Option.bind_some _ _).symm.trans H;with_reducible exact H2_) | with_reducible exact H |(rw [hy360];exact H) | exact H
 have Ny360:=am hy360
 clear hy360
 obtain ⟨y364,hy364⟩:∃ y_:List Int,y_=(([4,5,3,6,2,1,8]:List Int)):=⟨_,rfl⟩
 replace H:((jB.f k s0_0 s0_1 y364).bind fun bt367=>(jR.l0 k y357 bt367.1 1 s0_0 bt367.2 y360))=some (r1,r2):=by first |(rw [hy364];with_reducible exact H) |(have H2_:=(Option.bind_some _ _).symm.trans H;rw [hy364];with_reducible exact H2_) |(have H2_:=(Option.bind_some _ _).symm.trans H;with_reducible exact H2_) | with_reducible exact H |(rw [hy364];exact H) | exact H
 have Ny364:=am hy364
 clear hy364
 replace H:=bzS H
 obtain ⟨⟨t367,t368⟩,A20,H⟩:=H
 replace H:(jR.l0 k y357 t367 1 s0_0 t368 y360)=some (r1,r2):=H
 have A2:=am A20
 clear A20
 have H':=am H
 clear H
 go_enter Try.func107,Try.ntmps107
 go_wp2_with (first |((with_reducible refine jG (N:=2) rfl ?_);refine bE (N:=2) (cs:=#[.slice none 0 0]) (t:=31) ?_;intro gb356 hg w3 hbox hb;have BK356:=am (hbox);have GW356:=am ((Y7:w.heap.size≤gb356));have GE356:=am ((Nat.le_trans HW0.out (Y7:w.heap.size≤gb356):w0.heap.size≤gb356));have NB0_356:=am ((Y23:g≠gb356));have NB356_0:=am ((Y24:gb356≠g));replace HK:=am (jk.trans (Y11) (jk.of_below hb g none) (.inl rfl));replace HB:=am (jg (Y12) hb);replace HI0:=am (je.below (Y10) hb);clear hb hbox hg) |((with_reducible refine jG (N:=7) rfl ?_);refine Kd.R_lit Kd.string _ 9 ?hg (N:=7) ?hd (xs:=([(⟨#[97,110,121]⟩:ByteArray),(⟨#[105,111]⟩:ByteArray),(⟨#[107,101,121]⟩:ByteArray),(⟨#[116,105,109,101]⟩:ByteArray),(⟨#[110,101,116]⟩:ByteArray),(⟨#[100,105,115,107]⟩:ByteArray),(⟨#[116,121,112,101]⟩:ByteArray),(⟨#[111,100,100]⟩:ByteArray)]:List ByteArray)) (inner:=[.string (⟨#[97,110,121]⟩:ByteArray), .string (⟨#[105,111]⟩:ByteArray), .string (⟨#[107,101,121]⟩:ByteArray), .string (⟨#[116,105,109,101]⟩:ByteArray), .string (⟨#[110,101,116]⟩:ByteArray), .string (⟨#[100,105,115,107]⟩:ByteArray), .string (⟨#[116,121,112,101]⟩:ByteArray), .string (⟨#[111,100,100]⟩:ByteArray)]) (ok:=fun _=>True) (okp:=fun _=>True) ?hr ?hp (fun _ hk=>hk) trivial (Below.refl _ _) (Nat.le_refl _) (by simp) ?_;(case hd=>rfl);(case hg=>rfl);(case hr=>exact Y3);(case hp=>exact (Reps.one (show Kd.M Kd.string _ _ _ (⟨#[97,110,121]⟩:ByteArray) [.string (⟨#[97,110,121]⟩:ByteArray)] from rfl) (Reps.one (show Kd.M Kd.string _ _ _ (⟨#[105,111]⟩:ByteArray) [.string (⟨#[105,111]⟩:ByteArray)] from rfl) (Reps.one (show Kd.M Kd.string _ _ _ (⟨#[107,101,121]⟩:ByteArray) [.string (⟨#[107,101,121]⟩:ByteArray)] from rfl) (Reps.one (show Kd.M Kd.string _ _ _ (⟨#[116,105,109,101]⟩:ByteArray) [.string (⟨#[116,105,109,101]⟩:ByteArray)] from rfl) (Reps.one (show Kd.M Kd.string _ _ _ (⟨#[110,101,116]⟩:ByteArray) [.string (⟨#[110,101,116]⟩:ByteArray)] from rfl) (Reps.one (show Kd.M Kd.string _ _ _ (⟨#[100,105,115,107]⟩:ByteArray) [.string (⟨#[100,105,115,107]⟩:ByteArray)] from rfl) (Reps.one (show Kd.M Kd.string _ _ _ (⟨#[116,121,112,101]⟩:ByteArray) [.string (⟨#[116,121,112,101]⟩:ByteArray)] from rfl) (Reps.one (show Kd.M Kd.string _ _ _ (⟨#[111,100,100]⟩:ByteArray) [.string (⟨#[111,100,100]⟩:ByteArray)] from rfl) (Reps.none _ _))))))))));intro v358 w4 ho5 hb hg_ hnew_;clear hg_ hnew_;(first | rw [← Ny357.out] at ho5 |(simp only [Int.reduceToNat] at ho5;rw [← Ny357.out] at ho5));have HO359:=am (Kd.jpa ho5 (jya (w:=w) (g:=g) (row:=none) (Y55)));replace BK356:=am (jc (g:=gb356) (o:=.cells #[.slice none 0 0] 31 (0,0)) (kq BK356.out) hb);replace HK:=am (jk.trans (Y55) (jk.of_below hb g none) (.inl rfl));replace HB:=am (jg (Y83) hb);replace HI0:=am (je.below (Y84) hb);clear hb ho5) |((with_reducible refine jG (N:=9) rfl ?_);refine Kd.R_lit k106 _ 106 ?hg (N:=9) ?hd (xs:=([(⟨(⟨#[97,110,121]⟩:ByteArray),(-1)⟩:S106)]:List (S106))) (inner:=[.string (⟨#[97,110,121]⟩:ByteArray), .int .i64 (-1)]) (ok:=fun _=>True) (okp:=fun _=>True) ?hr ?hp (fun _ hk=>hk) trivial (Below.refl _ _) (Nat.le_refl _) (by simp) ?_;(case hd=>rfl);(case hg=>rfl);(case hr=>exact Y3);(case hp=>exact (Reps.c2 (show Kd.M k106 _ _ _ (⟨(⟨#[97,110,121]⟩:ByteArray),(-1)⟩:S106) [.string (⟨#[97,110,121]⟩:ByteArray), .int .i64 (-1)] from (k106_mkM _ _ _ (⟨(⟨#[97,110,121]⟩:ByteArray),(-1)⟩:S106) )) (Reps.none _ _)));intro v361 w6 ho7 hb hg_ hnew_;clear hg_ hnew_;(first | rw [← Ny360.out] at ho7 |(simp only [Int.reduceToNat] at ho7;rw [← Ny360.out] at ho7));have HO362:=am (Kd.jpa ho7 (jya (w:=w) (g:=g) (row:=none) (Y55)));replace HO359:=am (Kd.jaa (rq HO359.out) hb);replace BK356:=am (jc (g:=gb356) (o:=.cells #[.slice none 0 0] 31 (0,0)) (kq BK356.out) hb);replace HK:=am (jk.trans (Y55) (jk.of_below hb g none) (.inl rfl));replace HB:=am (jg (Y83) hb);replace HI0:=am (je.below (Y84) hb);clear hb ho7;obtain ⟨Ao8,co8,eo8⟩:=Kd.jga HO362.out;subst eo8) |((with_reducible refine jG (N:=4) rfl ?_);refine bE (N:=4) (cs:=#[.slice none 0 0]) (t:=31) ?_;intro gb363 hg w9 hbox hb;have BK363:=am (hbox);have GW363:=am ((Y106:w.heap.size≤gb363));have GE363:=am ((Nat.le_trans HW0.out (Y106:w.heap.size≤gb363):w0.heap.size≤gb363));have NB356_363:=am ((by rw [hg];exact Nat.ne_of_lt (jva (g:=gb356) (o:=.cells #[.slice none 0 0] 31 (0,0)) (kq BK356.out)):gb356≠gb363));have NB363_356:=am ((by rw [hg];exact Nat.ne_of_gt (jva (g:=gb356) (o:=.cells #[.slice none 0 0] 31 (0,0)) (kq BK356.out)):gb363≠gb356));have NB0_363:=am ((by rw [hg];exact Nat.ne_of_lt (je.lt (show je w0 _ g s0_0 s0_1 from by repeat (first |(with_reducible first | exact HI0.out | apply je.alloc | apply je.drewN | apply je.drew | apply je.jQb | refine je.far ?_ NB0_356.out _) | exact HI0.out))):g≠gb363));have NB363_0:=am ((by rw [hg];exact Nat.ne_of_gt (je.lt (show je w0 _ g s0_0 s0_1 from by repeat (first |(with_reducible first | exact HI0.out | apply je.alloc | apply je.drewN | apply je.drew | apply je.jQb | refine je.far ?_ NB0_356.out _) | exact HI0.out))):gb363≠g));replace HO359:=am (Kd.jaa (rq HO359.out) hb);replace HO362:=am (Kd.jaa (rq HO362.out) hb);replace BK356:=am (jc (g:=gb356) (o:=.cells #[.slice none 0 0] 31 (0,0)) (kq BK356.out) hb);replace HK:=am (jk.trans (Y55) (jk.of_below hb g none) (.inl rfl));replace HB:=am (jg (Y83) hb);replace HI0:=am (je.below (Y84) hb);clear hb hbox hg;have hnb10:=NB363_356.out;have hnc10:=NB356_363.out;have hnb11:=NB363_0.out;have hnc11:=NB0_363.out;have hcz12_0:=bc0 BK363.out;have hfz12_0:=ja BK363.out 0) |((with_reducible refine jG (N:=12) rfl ?_);refine Kd.R_lit (Kd.int .i64) _ 3 ?hg (N:=12) ?hd (xs:=([4,5,3,6,2,1,8]:List Int)) (inner:=[.int .i64 4, .int .i64 5, .int .i64 3, .int .i64 6, .int .i64 2, .int .i64 1, .int .i64 8]) (ok:=fun _=>True) (okp:=fun _=>True) ?hr ?hp (fun _ hk=>hk) trivial (Below.refl _ _) (Nat.le_refl _) (by simp) ?_;(case hd=>rfl);(case hg=>rfl);(case hr=>exact Y3);(case hp=>exact (Reps.one (show Kd.M (Kd.int .i64) _ _ _ 4 [.int .i64 4] from rfl) (Reps.one (show Kd.M (Kd.int .i64) _ _ _ 5 [.int .i64 5] from rfl) (Reps.one (show Kd.M (Kd.int .i64) _ _ _ 3 [.int .i64 3] from rfl) (Reps.one (show Kd.M (Kd.int .i64) _ _ _ 6 [.int .i64 6] from rfl) (Reps.one (show Kd.M (Kd.int .i64) _ _ _ 2 [.int .i64 2] from rfl) (Reps.one (show Kd.M (Kd.int .i64) _ _ _ 1 [.int .i64 1] from rfl) (Reps.one (show Kd.M (Kd.int .i64) _ _ _ 8 [.int .i64 8] from rfl) (Reps.none _ _)))))))));intro v365 w13 ho14 hb hg_ hnew_;clear hg_ hnew_;(first | rw [← Ny364.out] at ho14 |(simp only [Int.reduceToNat] at ho14;rw [← Ny364.out] at ho14));have HO366:=am (Kd.jpa ho14 (jya (w:=w) (g:=g) (row:=none) (Y26)));replace HO359:=am (Kd.jaa (by (with_reducible repeat (first | apply Kd.jda | apply Kd.jfa | apply Kd.jma));exact (Kd.jJ (Kd.joa (p:=⟨gb363,0,none⟩) (Kd.jna HO359.out BK363.out (by decide)) (fun _ hk=>hk.2) (.slice Ao8 y360.length co8)) (fun _ h_=>h_.1))) hb);replace HO362:=am (Kd.jaa (by (with_reducible repeat (first | apply Kd.jda | apply Kd.jfa | apply Kd.jma));exact (Kd.jJ (Kd.joa (p:=⟨gb363,0,none⟩) (Kd.jna HO362.out BK363.out (by decide)) (fun _ hk=>hk.2) (.slice Ao8 y360.length co8)) (fun _ h_=>h_.1))) hb);replace BK356:=am (jc (g:=gb356) (o:=.cells #[.slice none 0 0] 31 (0,0)) (by (with_reducible repeat (first | refine jd ?_ _ | refine jf ?_ | refine jb ?_ _));refine jT ?_ NB356_363.out _;(with_reducible repeat (first | refine jd ?_ _ | refine jf ?_ | refine jb ?_ _));exact BK356.out) hb);replace BK363:=am (jc (g:=gb363) (o:=.cells #[.slice Ao8 y360.length co8] 31 (0,0)) (by (with_reducible repeat (first | refine jd ?_ _ | refine jf ?_ | refine jb ?_ _));refine jS (cs:=#[.slice none 0 0]) ?_ 0 _ rfl;(with_reducible repeat (first | refine jd ?_ _ | refine jf ?_ | refine jb ?_ _));exact BK363.out) hb);replace HK:=am (jk.trans (Y26) (jk.of_below hb g none) (.inl rfl));replace HB:=am (jg (Y42) hb);replace HI0:=am (je.below (show je w0 (w9.setCell ⟨gb363,0,none⟩ (.slice Ao8 y360.length co8)) g s0_0 s0_1 from Y14) hb);clear hb ho14;obtain ⟨Ao15,co15,eo15⟩:=Kd.jga HO366.out;subst eo15) |((with_reducible refine jo (f:=77) rfl ?_);refine gL (some 13) Try.func77 #[.pointer (some ⟨g,0,none⟩), .slice Ao15 y364.length co15] ?_;(with_reducible refine (jB.calls k g s0_0 s0_1 _ _ y364 t367 t368 w0 _ ?side1 ?side2 ?side3 ?side4 ?side5 A2.out).mono ?_);(case side1=>exact Y14);(case side2=>exact Y42);(case side3=>exact cq (Kd.jC HO366.out).2.2);(case side4=>exact (Kd.jC HO366.out).2.1);(case side5=>exact jIb (je.own_ne HI0.out HO366.out (by decide)));rintro e w16 ⟨rfl,hi,hb,hk⟩;refine ⟨_,rfl,?_⟩;replace BK356:=am (jk.blk hk (g':=gb356) (o:=.cells #[.slice none 0 0] 31 (0,0)) (kq BK356.out) NB356_0.out (by simp));replace HO359:=am (Kd.jJ (Kd.jIa (je.apart (show je w0 _ g s0_0 s0_1 from Y14) (rq HO359.out) (by decide)) hk (fun _ h=>h.2)) (fun _ h=>h.1));replace HO362:=am (Kd.jJ (Kd.jIa (je.apart (show je w0 _ g s0_0 s0_1 from Y14) (rq HO362.out) (by decide)) hk (fun _ h=>h.2)) (fun _ h=>h.1));replace BK363:=am (jk.blk hk (g':=gb363) (o:=.cells #[.slice Ao8 y360.length co8] 31 (0,0)) (kq BK363.out) NB363_0.out (by simp));replace HO366:=am (Kd.jJ (Kd.jIa (je.apart (show je w0 _ g s0_0 s0_1 from Y14) (rq HO366.out) (by decide)) hk (fun _ h=>h.2)) (fun _ h=>h.1));replace HK:=am (jk.trans (Y26) hk (.inl rfl));replace HB:=am (hb);replace HI0:=am (hi);(try clear hb);(try clear hb2);(try clear hk);(try clear hi)))
 go_loopg [6] k (fun kq v6 w'=>∃ (x6_1:Int) (x1001_1:Int) (x364000_1:List (S106)) (u364000:Value),v6=.int .i64 x6_1∧jE (jR.l0 kq y357 t367 x6_1 s0_0 x1001_1 x364000_1=some (r1,r2))∧jE (kq≤k)∧jE (Kd.R Kd.string 9 w' w.heap.size (fun _=>True) v358 y357)∧jE (Kd.R k106 106 w' w.heap.size (fun _=>True) u364000 x364000_1)∧jE (w'.heap[gb356]?=some (.cells #[(.slice none 0 0)] 31 (0,0)))∧jE (w'.heap[gb363]?=some (.cells #[u364000] 31 (0,0)))∧jE (je w0 w' g s0_0 x1001_1)∧jE (jk w w' g none)∧jE (Below w0.heap.size w0 w'))
 case atStart=>exact ⟨(1),(t368),(y360),(.slice Ao8 y360.length co8),(sq),H',⟨Nat.le_refl _⟩,⟨rq HO359.out⟩,⟨rq HO362.out⟩,⟨kq BK356.out⟩,⟨kq BK363.out⟩,⟨Y14⟩,⟨Y26⟩,⟨Y42⟩⟩
 case round =>
  clear H'
  try clear c1
  try clear c2
  try clear p2
  try clear c7
  try clear c10
  try clear c11
  try clear hcz12_0
  try clear hfz12_0
  obtain ⟨x6_1,x1001_1,x364000_1,u364000,rfl,HA,HK1,HO_3,HO_364000,BK356,BK363,HI0,HK,HB⟩:=hrel
  cases gk with
  | zero=>exact absurd HA.out (by simp [jR.l0])
  | succ k1 =>
   have H:=HA.out
   clear HA
   simp only [jR.l0] at H
   by_cases c17:x6_1<t367
   ·rw [if_pos c17] at H
    have c17b0:decide (x6_1<t367)=true:=dzT c17
    clear c17
    by_cases c18:0≤x6_1
    ·rw [if_pos c18] at H
     have c18b0:decide (0≤x6_1)=true:=dzT c18
     clear c18
     by_cases c19:x6_1<(y357.length:Int)
     ·rw [if_pos c19] at H
      have c19b0:decide (x6_1<(y357.length:Int))=true:=dzT c19
      clear c19
      replace H:=bzS H
      obtain ⟨⟨t370,t371⟩,A200,H⟩:=H
      replace H:((jB.f k1 s0_0 t371 (([0,t370,wrap64 (x6_1 - 1)]:List Int))).bind fun bt375=>(if x364000_1.length<5864062014805 then (jR.l0 k1 y357 t367 (wrap64 (x6_1+1)) s0_0 bt375.2 (x364000_1 ++ [(⟨rdOf ByteArray.empty y357 x6_1,bt375.1⟩:S106)])) else (none)))=some (r1,r2):=H
      have A20:=am A200
      clear A200
      obtain ⟨y372,hy372⟩:∃ y_:List Int,y_=(([0,t370,wrap64 (x6_1 - 1)]:List Int)):=⟨_,rfl⟩
      replace H:((jB.f k1 s0_0 t371 y372).bind fun bt375=>(if x364000_1.length<5864062014805 then (jR.l0 k1 y357 t367 (wrap64 (x6_1+1)) s0_0 bt375.2 (x364000_1 ++ [(⟨rdOf ByteArray.empty y357 x6_1,bt375.1⟩:S106)])) else (none)))=some (r1,r2):=by first |(rw [hy372];with_reducible exact H) |(have H2_:=(Option.bind_some _ _).symm.trans H;rw [hy372];with_reducible exact H2_) |(have H2_:=(Option.bind_some _ _).symm.trans H;with_reducible exact H2_) | with_reducible exact H |(rw [hy372];exact H) | exact H
      have Ny372:=am hy372
      clear hy372
      replace H:=bzS H
      obtain ⟨⟨t375,t376⟩,A210,H⟩:=H
      replace H:(if x364000_1.length<5864062014805 then (jR.l0 k1 y357 t367 (wrap64 (x6_1+1)) s0_0 t376 (x364000_1 ++ [(⟨rdOf ByteArray.empty y357 x6_1,t375⟩:S106)])) else (none))=some (r1,r2):=H
      have A21:=am A210
      clear A210
      by_cases c22:x364000_1.length<5864062014805
      ·rw [if_pos c22] at H
       have LMc22:=am c22
       clear c22
       obtain ⟨y377,hy377⟩:∃ y_:List (S106),y_=(x364000_1 ++ [(⟨rdOf ByteArray.empty y357 x6_1,t375⟩:S106)]):=⟨_,rfl⟩
       replace H:(jR.l0 k1 y357 t367 (wrap64 (x6_1+1)) s0_0 t376 y377)=some (r1,r2):=by first |(rw [hy377];with_reducible exact H) |(have H2_:=(Option.bind_some _ _).symm.trans H;rw [hy377];with_reducible exact H2_) |(have H2_:=(Option.bind_some _ _).symm.trans H;with_reducible exact H2_) | with_reducible exact H |(rw [hy377];exact H) | exact H
       have Ny377:=am hy377
       clear hy377
       have H':=am H
       clear H
       try go_wp2
       replace HO_3:=am (Kd.jma HO_3.out)
       replace HO_364000:=am (Kd.jma HO_364000.out)
       replace BK356:=am (jf BK356.out)
       replace BK363:=am (jf BK363.out)
       replace HI0:=am (je.drew HI0.out)
       replace HK:=am (jTa HK.out)
       replace HB:=am (jD HB.out)
       obtain ⟨Ao24,co24,eo24⟩:=Kd.jga HO_3.out
       (first | subst eo24 |(injection eo24 with f1_ f2_ f3_;have f4_:=f1_.symm;have f5_:=f3_.symm;clear f1_ f2_ f3_;subst f4_;subst f5_))
       have p369:0≤(x6_1:Int):=ozD (uq)
       have q369:x6_1<(y357.length:Int):=ozD (uq)
       obtain ⟨ad369,e369,hx369_0⟩:=Kd.at_string (Kd.jC HO_3.out).2.2 x6_1 p369 q369
       cases e369
       replace p369:=ezT p369
       replace q369:=ezT q369
       refine start_ (n:=19) (S:=fun w'=>w'.cell? ⟨gb363,0,none⟩=some (u364000)∧w'.cell? (ad369.add (x6_1).toNat)=some (.string (rdOf ByteArray.empty y357 x6_1))) (ds:=[16,18]) #[false,false,false,false,false,false,false,false,false,false,false,false,false,false,false,false,false,false,false] (by kernel_rfl) rfl rfl ⟨(jw BK363.out 0).trans rfl,hx369_0⟩ (fun hHeld=>?_);refine jXb jR.tab7 jR.bits7 (fun HT_ HW_=>?_)
       generalize wr.drew=w23 at HO_3 HO_364000 BK356 BK363 HI0 HK HB hx369_0 hHeld ⊢
       refine pq (i:=0) (N:=some 19) #[true,false,false,false,false,false,false,false,false,false,false,false,false,false,false,false,false,false,false] ?_
       refine pq (i:=2) (N:=some 21) #[true,false,true,false,false,false,false,false,false,false,false,false,false,false,false,false,false,false,false] ?_
       refine pq (i:=3) (N:=some 22) #[true,false,true,true,false,false,false,false,false,false,false,false,false,false,false,false,false,false,false] ?_
       refine pq (i:=4) (N:=some 23) #[true,false,true,true,true,false,false,false,false,false,false,false,false,false,false,false,false,false,false] ?_
       refine pq (i:=6) (N:=some 25) #[true,false,true,true,true,false,true,false,false,false,false,false,false,false,false,false,false,false,false] ?_
       refine pq (i:=7) (N:=some 26) #[true,false,true,true,true,false,true,true,false,false,false,false,false,false,false,false,false,false,false] ?_
       refine pq (i:=8) (N:=some 27) #[true,false,true,true,true,false,true,true,true,false,false,false,false,false,false,false,false,false,false] ?_
       refine pq (i:=10) (N:=some 29) #[true,false,true,true,true,false,true,true,true,false,true,false,false,false,false,false,false,false,false] ?_
       refine pq (i:=11) (N:=some 30) #[true,false,true,true,true,false,true,true,true,false,true,true,false,false,false,false,false,false,false] ?_
       refine jYb (i:=1) (N:=some 20) (v:=?_) (a':=?_) #[true,true,true,true,true,false,true,true,true,false,true,true,false,false,false,false,false,false,false] rfl rfl (jFb HT_.out HW_.out (by kernel_rfl)) (fun _ _ _ h=>h) (Or.inl ⟨by rfl,?_⟩) hHeld ?_ ?_
       rotate_left
       ·rintro w' ⟨s0,s1⟩
        go_simp
        with_reducible rfl
       rotate_left
       ·exact sa
       refine jYb (i:=5) (N:=some 24) (v:=?_) (a':=?_) #[true,true,true,true,true,true,true,true,true,false,true,true,false,false,false,false,false,false,false] rfl rfl (jFb HT_.out HW_.out (by kernel_rfl)) (fun _ _ _ h=>h) (Or.inl ⟨by rfl,?_⟩) hHeld ?_ ?_
       rotate_left
       ·rintro w' ⟨s0,s1⟩
        go_simp
        with_reducible rfl
       rotate_left
       ·exact sa
       refine one_ (i:=9) (N:=some 28) #[true,true,true,true,true,true,true,true,true,true,true,true,false,false,false,false,false,false,false] rfl rfl (jRb HT_.out (by kernel_rfl)) (by decide) (fun K hK=>?_)
       refine goes_ Try.func47 (by kernel_rfl) rfl #[.pointer (some ⟨g,0,none⟩), .int .i64 x6_1] (by rfl) rfl rfl (aq) ?_
       with_reducible refine (jr.calls k1 g s0_0 x1001_1 x6_1 t370 t371 w0 _ ?side1 ?side2 A20.out).mono ?_
       (case side1=>exact Y14)
       (case side2=>exact Y42)
       rintro e w25 ⟨rfl,hi,hb,hk⟩
       have HS1_:=keep_cell hk (hHeld.2) (Y107)
       refine ⟨_,rfl,?_⟩
       replace HO_3:=am (Kd.jJ (Kd.jIa (je.apart (show je w0 _ g s0_0 x1001_1 from Y14) (rq HO_3.out) (by decide)) hk (fun _ h=>h.2)) (fun _ h=>h.1))
       replace HO_364000:=am (Kd.jJ (Kd.jIa (je.apart (show je w0 _ g s0_0 x1001_1 from Y14) (rq HO_364000.out) (by decide)) hk (fun _ h=>h.2)) (fun _ h=>h.1))
       replace BK356:=am (jk.blk hk (g':=gb356) (o:=.cells #[.slice none 0 0] 31 (0,0)) (kq BK356.out) NB356_0.out (by simp))
       replace BK363:=am (jk.blk hk (g':=gb363) (o:=.cells #[u364000] 31 (0,0)) (kq BK363.out) NB363_0.out (by simp))
       replace HK:=am (jk.trans (Y26) hk (.inl rfl))
       replace HB:=am (hb)
       replace HI0:=am (hi)
       (try clear hb)
       (try clear hb2)
       (try clear hk)
       (try clear hi)
       refine hK.out _ _ ⟨(jw BK363.out 0).trans rfl,HS1_⟩ (fun hHeld=>?_)
       clear hK K
       refine norm_ (a':=?_) ?_ ?_
       rotate_left
       ·show Act.put _ (some 28) _=_
        simp only [Act.put,List.setIfInBounds_toArray,List.set_cons_zero,List.set_cons_succ,jHb,jLb]
        rfl
       refine one_ (i:=12) (N:=some 31) #[true,true,true,true,true,true,true,true,true,true,true,true,true,false,false,false,false,false,false] rfl rfl (jRb HT_.out (by kernel_rfl)) (by decide) (fun K hK=>?_)
       refine Kd.R_lit_step (Kd.int .i64) _ 3 ?hg (N:=31) ?hd (xs:=([0,t370,wrap64 (x6_1 - 1)]:List Int)) (inner:=[.int .i64 0, .int .i64 t370, .int .i64 (wrap64 (x6_1 - 1))]) (ok:=fun _=>True) (okp:=fun _=>True) ?hr ?hp (fun _ hk=>hk) trivial (Below.refl _ _) (Nat.le_refl _) (by simp) ?_;(case hd=>rfl);(case hg=>rfl);(case hr=>exact Y3);(case hp=>exact (Reps.one (show Kd.M (Kd.int .i64) _ _ _ 0 [.int .i64 0] from rfl) (Reps.one (show Kd.M (Kd.int .i64) _ _ _ t370 [.int .i64 t370] from rfl) (Reps.one (show Kd.M (Kd.int .i64) _ _ _ (wrap64 (x6_1 - 1)) [.int .i64 (wrap64 (x6_1 - 1))] from rfl) (Reps.none _ _)))))
       intro v373 w26 ho27 hb hg_ hnew_
       have HS1_:=(hb.cell (World.block_lt_of_cell? _ _ (hHeld.2))).trans (hHeld.2)
       clear hg_ hnew_
       (first | rw [← Ny372.out] at ho27 |(simp only [Int.reduceToNat] at ho27;rw [← Ny372.out] at ho27))
       have HO374:=am (Kd.jpa ho27 (jya (w:=w) (g:=g) (row:=none) (Y26)))
       replace HO_3:=am (Kd.jaa (rq HO_3.out) hb)
       replace HO_364000:=am (Kd.jaa (rq HO_364000.out) hb)
       replace BK356:=am (jc (g:=gb356) (o:=.cells #[.slice none 0 0] 31 (0,0)) (kq BK356.out) hb)
       replace BK363:=am (jc (g:=gb363) (o:=.cells #[u364000] 31 (0,0)) (kq BK363.out) hb)
       replace HK:=am (jk.trans (Y26) (jk.of_below hb g none) (.inl rfl))
       replace HB:=am (jg (Y42) hb)
       replace HI0:=am (je.below (Y14) hb)
       clear hb ho27
       obtain ⟨Ao28,co28,eo28⟩:=Kd.jga HO374.out
       (first | subst eo28 |(injection eo28 with f1_ f2_ f3_;have f4_:=f1_.symm;have f5_:=f3_.symm;clear f1_ f2_ f3_;subst f4_;subst f5_))
       refine hK.out _ _ ⟨(jw BK363.out 0).trans rfl,HS1_⟩ (fun hHeld=>?_)
       clear hK K
       refine norm_ (a':=?_) ?_ ?_
       rotate_left
       ·show Act.put _ (some 31) _=_
        simp only [Act.put,List.setIfInBounds_toArray,List.set_cons_zero,List.set_cons_succ,jHb,jLb]
        rfl
       refine one_ (i:=13) (N:=some 32) #[true,true,true,true,true,true,true,true,true,true,true,true,true,true,false,false,false,false,false] rfl rfl (jRb HT_.out (by kernel_rfl)) (by decide) (fun K hK=>?_)
       refine goes_ Try.func77 (by kernel_rfl) rfl #[.pointer (some ⟨g,0,none⟩), .slice Ao28 y372.length co28] (by rfl) rfl rfl (aq) ?_
       with_reducible refine (jB.calls k1 g s0_0 t371 _ _ y372 t375 t376 w0 _ ?side1 ?side2 ?side3 ?side4 ?side5 A21.out).mono ?_
       (case side1=>exact Y14)
       (case side2=>exact Y42)
       (case side3=>exact cq (Kd.jC HO374.out).2.2)
       (case side4=>exact (Kd.jC HO374.out).2.1)
       (case side5=>exact jIb (je.own_ne HI0.out HO374.out (by decide)))
       rintro e w29 ⟨rfl,hi,hb,hk⟩
       have HS1_:=keep_cell hk (hHeld.2) (Y107)
       refine ⟨_,rfl,?_⟩
       replace HO_3:=am (Kd.jJ (Kd.jIa (je.apart (show je w0 _ g s0_0 t371 from Y14) (rq HO_3.out) (by decide)) hk (fun _ h=>h.2)) (fun _ h=>h.1))
       replace HO_364000:=am (Kd.jJ (Kd.jIa (je.apart (show je w0 _ g s0_0 t371 from Y14) (rq HO_364000.out) (by decide)) hk (fun _ h=>h.2)) (fun _ h=>h.1))
       replace BK356:=am (jk.blk hk (g':=gb356) (o:=.cells #[.slice none 0 0] 31 (0,0)) (kq BK356.out) NB356_0.out (by simp))
       replace BK363:=am (jk.blk hk (g':=gb363) (o:=.cells #[u364000] 31 (0,0)) (kq BK363.out) NB363_0.out (by simp))
       replace HO374:=am (Kd.jJ (Kd.jIa (je.apart (show je w0 _ g s0_0 t371 from Y14) (rq HO374.out) (by decide)) hk (fun _ h=>h.2)) (fun _ h=>h.1))
       replace HK:=am (jk.trans (Y26) hk (.inl rfl))
       replace HB:=am (hb)
       replace HI0:=am (hi)
       (try clear hb)
       (try clear hb2)
       (try clear hk)
       (try clear hi)
       refine hK.out _ _ ⟨(jw BK363.out 0).trans rfl,HS1_⟩ (fun hHeld=>?_)
       clear hK K
       refine norm_ (a':=?_) ?_ ?_
       rotate_left
       ·show Act.put _ (some 32) _=_
        simp only [Act.put,List.setIfInBounds_toArray,List.set_cons_zero,List.set_cons_succ,jHb,jLb]
        rfl
       refine pq (i:=14) (N:=some 33) #[true,true,true,true,true,true,true,true,true,true,true,true,true,true,true,false,false,false,false] ?_
       refine one_ (i:=15) (N:=some 34) #[true,true,true,true,true,true,true,true,true,true,true,true,true,true,true,true,false,false,false] rfl rfl (jRb HT_.out (by kernel_rfl)) (by decide) (fun K hK=>?_)
       refine value_ (w1:=?_) (v:=?_) (by rfl) rfl ?_ ?_
       rotate_left 2
       ·go_simp
        constructor
        ·rfl
        ·rfl
       refine hK.out _ _ ⟨(jw (jb BK363.out _) 0).trans rfl,(World.cell?_alloc_lt _ _ _ (World.block_lt_of_cell? _ _ (hHeld.2))).trans (hHeld.2)⟩ (fun hHeld=>?_)
       clear hK K
       refine norm_ (a':=?_) ?_ ?_
       rotate_left
       ·show Act.put _ (some 34) _=_
        simp only [Act.put,List.setIfInBounds_toArray,List.set_cons_zero,List.set_cons_succ,jHb,jLb]
        rfl
       refine last_ (i:=16) (N:=some 35) #[true,true,true,true,true,true,true,true,true,true,true,true,true,true,true,true,true,false,false] rfl rfl (jRb HT_.out (by kernel_rfl)) (by decide) (fun K hK=>?_)
       refine Kd.jNb k106 w.heap.size (by rfl) (.tmp 20) (.tmp 34) 29 106 (.agg #[(.string ⟨#[]⟩),(.int .i64 0)]) 24 rfl Try.underlying29 info106 rfl (by decide) (by omega) u364000 x364000_1 (⟨rdOf ByteArray.empty y357 x6_1,t375⟩:S106) [.string (rdOf ByteArray.empty y357 x6_1), .int .i64 t375] (fun _=>True) (fun _=>False) rfl rfl ?aP (fun _ hk=>hk.elim) ?aF ?aO (Below.refl _ _) ?aS ?aL ?_
       (case aP=>exact k106_mkM _ _ _ (⟨rdOf ByteArray.empty y357 x6_1,t375⟩:S106))
       (case aF=>exact (fun _ _=>trivial))
       (case aO=>exact (rq HO_364000.out))
       (case aS=>exact (jya (w:=w) (g:=g) (row:=none) (Y26)))
       (case aL=>have:=LMc22.out;omega)
       intro v378 w30 ho hb hg hat
       rw [← Ny377.out] at ho
       have n0_:=am (Kd.jkc (rq HO_3.out) (Kd.jjc (rq HO_364000.out)) (by decide) hg)
       have n1_:=am (jqa (g:=gb356) (o:=.cells #[.slice none 0 0] 31 (0,0)) (kq BK356.out) hg (Kd.R_ne HO_364000.out BK356.out (by decide)))
       have n2_:=am (jqa (g:=gb363) (o:=.cells #[u364000] 31 (0,0)) (kq BK363.out) hg (Kd.R_ne HO_364000.out BK363.out (by decide)))
       have n3_:=am (je.grown (Y14) hg (je.own_ne HI0.out HO_364000.out (by decide)))
       have n4_:=am (Kd.jkc (rq HO374.out) (Kd.jjc (rq HO_364000.out)) (by decide) hg)
       have n5_:=am (below_weaken (Y42) HL.out hb)
       have n6_:=am (jk.trans (Y26) (jk.jGb hg g) (Kd.R_base2 HO_364000.out))
       have n7_:=am (ho)
       clear HO_3
       clear BK356
       clear BK363
       clear HI0
       clear HO374
       clear HB
       clear HK
       clear HO_364000
       have HO_3:=n0_
       have BK356:=n1_
       have BK363:=n2_
       have HI0:=n3_
       have HO374:=n4_
       have HB:=n5_
       have HK:=n6_
       have HO379:=n7_
       clear n0_ n1_ n2_ n3_ n4_ n5_ n6_ n7_
       clear ho hb hg hat
       obtain ⟨Ao31,co31,eo31⟩:=Kd.jga HO379.out
       (first | subst eo31 |(injection eo31 with f1_ f2_ f3_;have f4_:=f1_.symm;have f5_:=f3_.symm;clear f1_ f2_ f3_;subst f4_;subst f5_))
       refine hK.out _ _ ?_
       clear hK K
       refine norm_ (a':=?_) ?_ ?_
       rotate_left
       ·show Act.put _ (some 35) _=_
        simp only [Act.put,List.setIfInBounds_toArray,List.set_cons_zero,List.set_cons_succ,jHb,jLb]
        rfl
       refine pq (i:=17) (N:=some 36) #[true,true,true,true,true,true,true,true,true,true,true,true,true,true,true,true,true,true,false] ?_
       refine last_ (i:=18) (N:=none) #[true,true,true,true,true,true,true,true,true,true,true,true,true,true,true,true,true,true,true] rfl rfl (jRb HT_.out (by kernel_rfl)) (by decide) (fun K hK=>?_)
       have hs32:w30.cell? ⟨gb363,0,none⟩=some (u364000):=(jw BK363.out 0).trans rfl
       have hfs32:=ja BK363.out 0
       have hns32_0:=NB356_363.out
       have hms32_0:=NB363_356.out
       refine skip_ (w1:=?_) (by rfl) rfl ?_ ?_
       rotate_left
       ·go_simp
        rfl
       refine hK.out _ _ ?_
       clear hK K
       refine done_ (done_of HT_.out (by kernel_rfl)) ?_
       try go_wp2
       go_roundg k1
       case measure=>have:=HK1.out;omega
       case rel=>exact ⟨(wrap64 (x6_1+1)),(t376),(y377),(.slice Ao31 y377.length co31),(sq),H',⟨by have:=HK1.out;omega⟩,⟨by (with_reducible repeat (first | apply Kd.jda | apply Kd.jfa | apply Kd.jma));exact Kd.jJ (Kd.joa (p:=⟨gb363,0,none⟩) (Kd.jna HO_3.out BK363.out (by decide)) (fun _ hk=>hk.2) (.slice Ao31 y377.length co31)) (fun _ hk=>trivial)⟩,⟨by (with_reducible repeat (first | apply Kd.jda | apply Kd.jfa | apply Kd.jma));exact Kd.jJ (Kd.joa (p:=⟨gb363,0,none⟩) (Kd.jna HO379.out BK363.out (by decide)) (fun _ hk=>hk.2) (.slice Ao31 y377.length co31)) (fun _ hk=>trivial)⟩,⟨by (with_reducible repeat (first | refine jd ?_ _ | refine jf ?_ | refine jb ?_ _));refine jT ?_ NB356_363.out _;(with_reducible repeat (first | refine jd ?_ _ | refine jf ?_ | refine jb ?_ _));exact BK356.out⟩,⟨by (with_reducible repeat (first | refine jd ?_ _ | refine jf ?_ | refine jb ?_ _));refine jS (cs:=#[u364000]) ?_ 0 _ rfl;(with_reducible repeat (first | refine jd ?_ _ | refine jf ?_ | refine jb ?_ _));exact BK363.out⟩,⟨Y14⟩,⟨Y26⟩,⟨Y42⟩⟩
      ·rw [if_neg c22] at H
       exact absurd H (by simp)
     ·rw [if_neg c19] at H
      exact absurd H (by simp)
    ·rw [if_neg c18] at H
     exact absurd H (by simp)
   ·rw [if_neg c17] at H
    have c17b0:decide (x6_1<t367)=false:=dzF c17
    clear c17
    simp only [Option.some.injEq,Prod.mk.injEq] at H
    obtain ⟨rfl,rfl⟩:=H
    have hnb33:=NB363_356.out
    have hnc33:=NB356_363.out
    have hnb34:=NB363_0.out
    have hnc34:=NB0_363.out
    have hcz35_0:=bc0 BK363.out
    have hfz35_0:=ja BK363.out 0
    obtain ⟨Ao36,co36,eo36⟩:=Kd.jga HO_364000.out
    subst eo36
    have hnb37:=NB356_0.out
    have hnc37:=NB0_356.out
    have hcz38_0:=bc0 BK356.out
    have hfz38_0:=ja BK356.out 0
    go_wp2
    refine bodyPost_ret (results_cell_row rfl _ _ gb356 31 #[.slice Ao36 x364000_1.length co36] (0,0) _ rfl (by (with_reducible repeat (first | refine jd ?_ _ | refine jf ?_ | refine jb ?_ _));refine jS (cs:=#[.slice none 0 0]) ?_ 0 _ rfl;(with_reducible repeat (first | refine jd ?_ _ | refine jf ?_ | refine jb ?_ _));exact BK356.out) Try.underlying31 rfl (by kernel_rfl)) rfl ?_
    exact ⟨_,Y0,by (with_reducible repeat (first | apply Kd.jda | apply Kd.jfa | apply Kd.jma));exact Kd.jJ (Kd.joa (p:=⟨gb356,0,none⟩) (Kd.jna HO_364000.out BK356.out (by decide)) (fun _ hk=>hk.2) (.slice Ao36 x364000_1.length co36)) (fun _ hk=>trivial),Y14,Y42,Y26⟩
def jWa.f (k : Nat) (s0_0 : List Int) (s0_1 : Int) (l1 : List ByteArray) : Option (ByteArray × Int) := (jr.f k s0_0 s0_1 (l1.length : Int)).bind fun bt380 => (if 0 ≤ bt380.1 then (if bt380.1 < (l1.length : Int) then (some (rdOf ByteArray.empty l1 bt380.1, bt380.2)) else (none)) else (none))
set_option maxHeartbeats 8000000 in
set_option maxRecDepth 100000 in
theorem jWa.calls (k : Nat) (g : Nat) (s0_0 : List Int) (s0_1 : Int) (A1 : Option Addr) (c1 : Nat) (l1 : List ByteArray) (r1 : ByteArray) (r2 : Int) (w0 w : World) (hI : je w0 w g s0_0 s0_1) (hB : Below w0.heap.size w0 w) (hr1 : Kd.C Kd.string w A1 l1.length l1) (hc1 : l1.length ≤ c1) (hf1 : ∀ ad, A1 = some ad → 0 < l1.length → ad.block ≠ g) (h : jWa.f k s0_0 s0_1 l1 = some (r1, r2)) :
  Calls Try.prog 108 #[.pointer (some ⟨g,0,none⟩), .slice A1 l1.length c1] w fun e w'=>e=.returned (.string r1)∧je w0 w' g s0_0 r2∧Below w0.heap.size w0 w'∧jk w w' g none:=by
 have HR1:=am hr1
 have HC1:=am hc1
 clear hr1 hc1
 have HI0:=am hI
 have HK:=am (jk.refl w g none)
 have HL:=am hB.size
 clear hI
 have HW0:=am hB.size
 have HB:=am hB
 clear hB
 have H:((jr.f k s0_0 s0_1 (l1.length:Int)).bind fun bt380=>(if 0≤bt380.1 then (if bt380.1<(l1.length:Int) then (some (rdOf ByteArray.empty l1 bt380.1,bt380.2)) else (none)) else (none)))=some (r1,r2):=h
 clear h
 replace H:=bzS H
 obtain ⟨⟨t380,t381⟩,A30,H⟩:=H
 replace H:(if 0≤t380 then (if t380<(l1.length:Int) then (some (rdOf ByteArray.empty l1 t380,t381)) else (none)) else (none))=some (r1,r2):=H
 have A3:=am A30
 clear A30
 by_cases c4:0≤t380
 ·rw [if_pos c4] at H
  have c4b0:decide (0≤t380)=true:=dzT c4
  clear c4
  by_cases c5:t380<(l1.length:Int)
  ·rw [if_pos c5] at H
   have c5b0:decide (t380<(l1.length:Int))=true:=dzT c5
   clear c5
   simp only [Option.some.injEq,Prod.mk.injEq] at H
   obtain ⟨rfl,rfl⟩:=H
   go_enter Try.func108,Try.ntmps108
   go_wp2_with (first |((with_reducible refine jo (f:=47) rfl ?_);refine gL (some 9) Try.func47 #[.pointer (some ⟨g,0,none⟩), .int .i64 (l1.length:Int)] ?_;(with_reducible refine (jr.calls k g s0_0 s0_1 (l1.length:Int) t380 t381 w0 _ ?side1 ?side2 A3.out).mono ?_);(case side1=>exact Y10);(case side2=>exact Y12);rintro e w6 ⟨rfl,hi,hb,hk⟩;refine ⟨_,rfl,?_⟩;replace HK:=am (jk.trans (Y11) hk (.inl rfl));replace HB:=am (hb);replace HI0:=am (hi);(try clear hb);(try clear hb2);(try clear hk);(try clear hi);have p382:0≤(t380:Int):=ozD (uq);have q382:t380<(l1.length:Int):=ozD (uq);obtain ⟨ad382,e382,hx382_0⟩:=Kd.at_string HR1.out t380 p382 q382;cases e382;replace hx382_0:=keep_cell HK.out hx382_0 (by first |(rw [add_block];exact hf1 _ rfl (by omega)) | exact hf1 _ rfl (by omega) | exact hf1 ad382 rfl (by omega));replace p382:=ezT p382;replace q382:=ezT q382))
   go_ret
   exact ⟨Y0,Y10,Y12,Y11⟩
  ·rw [if_neg c5] at H
   exact absurd H (by simp)
 ·rw [if_neg c4] at H
  exact absurd H (by simp)
end Go.Proofs.Ytlhfcmbkjddgiaa.P
end
