/- One part of the proofs on this program: functions of the program as plain functions, that the code comes to them, and facts on them. -/
import Derived.Test.YtecdfgejmbpclaaYAll1
import Derived.Test.YtecdfgejmbpclaaYWAuto
section
namespace Go.Proofs.Ytecdfgejmbpclaa.P
open Go.RowKit Go.Proofs.YtecdfgejmbpclaaW.PrintWords Go.Proofs.YtecdfgejmbpclaaW.PrintLast Go.Proofs.YtecdfgejmbpclaaW.PrintMore
attribute [local go_sem] jxa jva jGa jFa jna jma jwa jua jD
set_option linter.unusedVariables false
set_option linter.unusedSimpArgs false
def ja (w0 W : World) (g : Nat) (f0 : List Int) (f1 : Int) : Prop := ∃ A0 c0, W.heap[g]? = some (.cells #[.slice A0 f0.length c0, .int .i64 f1] 106 (0, 0)) ∧ w0.heap.size ≤ g ∧ Kd.C (Kd.int .u8) w0 A0 f0.length f0
theorem ja.grown {w0 W : World} {g : Nat} {f0 : List Int} {f1 : Int} {W1 : World} {row : Option Nat} (h : ja w0 W g f0 f1) (hw : W.grownBy W1 row) (hne : some g ≠ row) : ja w0 W1 g f0 f1 := by
 obtain ⟨A0,c0,hb,hg,hr0⟩:=h
 exact ⟨A0,c0,jEa hb hw hne,hg,hr0⟩
theorem ja.kept {w0 W : World} {g : Nat} {f0 : List Int} {f1 : Int} {W1 : World} {S : Nat → Prop} (h : ja w0 W g f0 f1) (hk : Kept W W1 S) (hne : ¬ S g) : ja w0 W1 g f0 f1 := by
 obtain ⟨A0,c0,hb,hg,hr0⟩:=h
 exact ⟨A0,c0,blk_kept hb hk hne,hg,hr0⟩
theorem ja.below {w0 W : World} {g : Nat} {f0 : List Int} {f1 : Int} {W1 : World} (h : ja w0 W g f0 f1) (hw : Below W.heap.size W W1) : ja w0 W1 g f0 f1 := h.grown (grown_of_below hw none) (by simp)
theorem ja.alloc {w0 W : World} {g : Nat} {f0 : List Int} {f1 : Int} (h : ja w0 W g f0 f1) (o : Obj) : ja w0 (W.alloc o) g f0 f1 := h.below (jC (Below.refl _ _) o)
theorem ja.drewN {w0 W : World} {g : Nat} {f0 : List Int} {f1 : Int} (h : ja w0 W g f0 f1) (m : Nat) : ja w0 (W.drewN m) g f0 f1 := h
theorem ja.drew {w0 W : World} {g : Nat} {f0 : List Int} {f1 : Int} (h : ja w0 W g f0 f1) : ja w0 W.drew g f0 f1 := h
theorem ja.at_ {w0 W : World} {g : Nat} {f0 : List Int} {f1 : Int} {w' : World} {m : Nat} (hq : W.drewN m = w') (h : ja w0 W g f0 f1) : ja w0 w' g f0 f1 := by subst hq; exact ja.drewN h m
theorem ja.apart {w0 W : World} {g : Nat} {f0 : List Int} {f1 : Int} {α : Type} {d : Kd α} {e : Nat} {base : Nat} {ok : Nat → Prop} {v : Value} {xs : List α} (h : ja w0 W g f0 f1) (ho : d.R e W base ok v xs) (ht : ∀ q, q ∈ e :: d.E → q ≠ 106) : d.R e W base (fun k => ok k ∧ k ≠ g) v xs := by
 obtain ⟨A0,c0,hb,hg,hr0⟩:=h
 exact Kd.jR ho hb ht
theorem ja.own_ne {w0 W : World} {g : Nat} {f0 : List Int} {f1 : Int} {α : Type} {d : Kd α} {e : Nat} {base : Nat} {ok : Nat → Prop} {v : Value} {xs : List α} (h : ja w0 W g f0 f1) (ho : d.R e W base ok v xs) (ht : e ≠ 106) : some g ≠ v.ownBlock := by
 obtain ⟨A0,c0,hb,hg,hr0⟩:=h
 exact Kd.R_ne ho hb ht
theorem ja.lt {w0 W : World} {g : Nat} {f0 : List Int} {f1 : Int} (h : ja w0 W g f0 f1) : g < W.heap.size := by
 obtain ⟨A0,c0,hb,hg,hr0⟩:=h
 exact jha hb
theorem ja.ge {w0 W : World} {g : Nat} {f0 : List Int} {f1 : Int} (h : ja w0 W g f0 f1) : w0.heap.size ≤ g := by
 obtain ⟨A0,c0,hb,hg,hr0⟩:=h
 exact hg
theorem ja.ne_blk {w0 W : World} {g : Nat} {f0 : List Int} {f1 : Int} {a : Nat} {cs : Array Value} {t : TypeId} {fr : Nat × Nat} (h : ja w0 W g f0 f1) (hb2 : W.heap[a]? = some (.cells cs t fr)) (ht : t ≠ 106) : g ≠ a := by
 obtain ⟨A0,c0,hb,hg,hr0⟩:=h
 rintro rfl
 rw [hb] at hb2
 injection hb2 with hb2
 injection hb2 with _ ht2
 exact ht ht2.symm
theorem ja.far {w0 W : World} {g : Nat} {f0 : List Int} {f1 : Int} {p : Addr} (h : ja w0 W g f0 f1) (hne : g ≠ p.block) (u : Value) : ja w0 (W.setCell p u) g f0 f1 := by
 obtain ⟨A0,c0,hb,hg,hr0⟩:=h
 exact ⟨A0,c0,jaa hb hne u,hg,hr0⟩
theorem cellS106_0 {W : World} {g : Nat} {A0 : Option Addr} {c0 : Nat} {f0 : List Int} {f1 : Int} (h : W.heap[g]? = some (.cells #[.slice A0 f0.length c0, .int .i64 f1] 106 (0, 0))) : W.cell? ⟨g, 0, none⟩ = some (.slice A0 f0.length c0) := (jI h 0).trans rfl
theorem cellS106_1 {W : World} {g : Nat} {A0 : Option Addr} {c0 : Nat} {f0 : List Int} {f1 : Int} (h : W.heap[g]? = some (.cells #[.slice A0 f0.length c0, .int .i64 f1] 106 (0, 0))) : W.cell? ⟨g, 1, none⟩ = some (.int .i64 f1) := (jI h 1).trans rfl
theorem ja.jdb {w0 W : World} {g : Nat} {f0 : List Int} {f1 : Int} (h : ja w0 W g f0 f1) (x : Int) : ja w0 (W.setCell ⟨g, 1, none⟩ (.int .i64 x)) g f0 x := by
 obtain ⟨A0,c0,hb,hg,hr0⟩:=h
 exact ⟨A0,c0,by simpa using blk_set hb 1 (.int .i64 x),hg,hr0⟩
def jl.j0 : Nat → Int → Bool → List Int → Int → Option (Int × Int)
 | 0,_,_,_,_=>none
 | k+1,x1,x24,x1000,x1001=>if x24=true then (some (0,x1001)) else (if (wrap64 (x1001 - 1))<(x1000.length:Int) then (if 0≤(wrap64 (x1001 - 1)) then (if x1=0 then (none) else (some (Int.tmod (wrap64 (rd x1000 (wrap64 (x1001 - 1)))) x1,x1001))) else (none)) else (if (x1000.length:Int)=0 then (none) else (if 0≤(Int.tmod (wrap64 (x1001 - 1)) (x1000.length:Int)) then (if (Int.tmod (wrap64 (x1001 - 1)) (x1000.length:Int))<(x1000.length:Int) then (if 0≤(Int.tmod (wrap64 ((wrap64 ((wrap64 (x1001 - 1)) * 7))+3)) (x1000.length:Int)) then (if (Int.tmod (wrap64 ((wrap64 ((wrap64 (x1001 - 1)) * 7))+3)) (x1000.length:Int))<(x1000.length:Int) then (if x1=0 then (none) else (some (Int.tmod (Go.bits .xor .i64 (wrap64 ((wrap64 ((wrap64 ((wrap64 ((wrap64 (rd x1000 (Int.tmod (wrap64 (x1001 - 1)) (x1000.length:Int)))) * 131))+(wrap64 ((wrap64 (rd x1000 (Int.tmod (wrap64 ((wrap64 ((wrap64 (x1001 - 1)) * 7))+3)) (x1000.length:Int)))) * 1117))))+(wrap64 ((wrap64 (x1001 - 1)) * 29))))+(wrap64 ((wrap64 (Int.tdiv (wrap64 (x1001 - 1)) (x1000.length:Int))) * 53)))) (wrap64 (Int.tdiv (wrap64 ((wrap64 ((wrap64 ((wrap64 ((wrap64 (rd x1000 (Int.tmod (wrap64 (x1001 - 1)) (x1000.length:Int)))) * 131))+(wrap64 ((wrap64 (rd x1000 (Int.tmod (wrap64 ((wrap64 ((wrap64 (x1001 - 1)) * 7))+3)) (x1000.length:Int)))) * 1117))))+(wrap64 ((wrap64 (x1001 - 1)) * 29))))+(wrap64 ((wrap64 (Int.tdiv (wrap64 (x1001 - 1)) (x1000.length:Int))) * 53)))) 64))) x1,x1001))) else (none)) else (none)) else (none)) else (none))))
def jl.f (k : Nat) (s0_0 : List Int) (s0_1 : Int) (a1 : Int) : Option (Int × Int) := if a1 < 1 then (jl.j0 k a1 true s0_0 (wrap64 (s0_1 + 1))) else (jl.j0 k a1 ((s0_0.length : Int) == 0) s0_0 (wrap64 (s0_1 + 1)))
set_option maxHeartbeats 8000000 in
set_option maxRecDepth 100000 in
theorem jl.calls (k : Nat) (g : Nat) (s0_0 : List Int) (s0_1 : Int) (a1 : Int) (r1 : Int) (r2 : Int) (w0 w : World) (hI : ja w0 w g s0_0 s0_1) (hB : Below w0.heap.size w0 w) (h : jl.f k s0_0 s0_1 a1 = some (r1, r2)) :
  Calls Try.prog 88 #[.pointer (some ⟨g,0,none⟩), .int .i64 a1] w fun e w'=>e=.returned (.int .i64 r1)∧ja w0 w' g s0_0 r2∧Below w0.heap.size w0 w'∧jd w w' g none:=by
 have HI0:=am hI
 have HK:=am (jd.refl w g none)
 have HL:=am hB.size
 clear hI
 have HW0:=am hB.size
 have HB:=am hB
 clear hB
 have H:(if a1<1 then (jl.j0 k a1 true s0_0 (wrap64 (s0_1+1))) else (jl.j0 k a1 ((s0_0.length:Int) == 0) s0_0 (wrap64 (s0_1+1))))=some (r1,r2):=h
 clear h
 have HC3:=am H
 clear H
 obtain ⟨ASz4_0,cSz4_0,HGz4,hgz4,HSz4_0⟩:=HI0.out
 have hcz4_0:=cellS106_0 HGz4
 have hcz4_1:=cellS106_1 HGz4
 have hfz4_1:=je HGz4 1
 clear HGz4 hgz4
 go_enter Try.func88,Try.ntmps88
 go_upto_region 2 with (fail)
 repeat (go_quiet (fail);go_upto_region 2 with (fail))
 go_cut [24] (fun v24 wc=>∃ (kq:Nat) (x24_2:Bool),v24=.bool x24_2∧jB (jl.j0 kq a1 x24_2 s0_0 (wrap64 (s0_1+1))=some (r1,r2))∧jB (kq≤k)∧jB (ja w0 wc g s0_0 (wrap64 (s0_1+1)))∧jB (jd w wc g none)∧jB (Below w0.heap.size w0 wc))
 case first =>
  have H:=HC3.out
  clear HC3
  by_cases c5:a1<1
  ·rw [if_pos c5] at H
   have c5b0:decide (a1<1)=true:=dzT c5
   clear c5
   (first | rw [c5b0] |(simp only [jqb,jwb];rw [c5b0]) | skip)
   have H':=am H
   clear H
   go_wp2
   repeat (go_quiet (fail);try go_wp2)
   go_meet
   case rel=>exact ⟨_,(true),(sq),H',⟨Y61⟩,⟨Y13⟩,⟨Y14⟩,⟨Y15⟩⟩
  ·rw [if_neg c5] at H
   have c5b0:decide (a1<1)=false:=dzF c5
   clear c5
   (first | rw [c5b0] |(simp only [jqb,jwb];rw [c5b0]) | skip)
   have H':=am H
   clear H
   obtain ⟨ASz6_0,cSz6_0,HGz6,hgz6,HSz6_0⟩:=HI0.out
   have hcz6_0:=cellS106_0 HGz6
   have hcz6_1:=cellS106_1 HGz6
   have hfz6_1:=je HGz6 1
   clear HGz6 hgz6
   go_wp2
   repeat (go_quiet (fail);try go_wp2)
   go_meet
   case rel=>exact ⟨_,(((s0_0.length:Int) == 0)),(sq),H',⟨Y61⟩,⟨Y13⟩,⟨Y14⟩,⟨Y15⟩⟩
 case rest =>
  clear HC3
  try clear p2
  try clear c5
  try clear c5b0
  try clear p6
  try clear hcz4_0
  try clear hcz4_1
  try clear hcz6_0
  try clear hcz6_1
  try clear hfz4_1
  try clear hfz6_1
  obtain ⟨kq,x24_2,rfl,HA,HJ2,HI0,HK,HB⟩:=hcut
  cases kq with
  | zero=>exact absurd HA.out (by simp [jl.j0])
  | succ kj2 =>
   have H:=HA.out
   clear HA
   simp only [jl.j0] at H
   by_cases c7:x24_2=true
   ·subst c7
    have H1:(some (0,(wrap64 (s0_1+1))))=some (r1,r2):=by rw [if_pos rfl] at H;exact H
    clear H
    have H:=H1
    clear H1
    simp only [Option.some.injEq,Prod.mk.injEq] at H
    obtain ⟨rfl,rfl⟩:=H
    go_wp2
    repeat (go_quiet (fail);try go_wp2)
    go_ret
    exact ⟨Y2,Y13,Y15,Y14⟩
   ·replace c7:=Bool.eq_false_iff.mpr c7
    subst c7
    have H1:(if (wrap64 ((wrap64 (s0_1+1)) - 1))<(s0_0.length:Int) then (if 0≤(wrap64 ((wrap64 (s0_1+1)) - 1)) then (if a1=0 then (none) else (some (Int.tmod (wrap64 (rd s0_0 (wrap64 ((wrap64 (s0_1+1)) - 1)))) a1,(wrap64 (s0_1+1))))) else (none)) else (if (s0_0.length:Int)=0 then (none) else (if 0≤(Int.tmod (wrap64 ((wrap64 (s0_1+1)) - 1)) (s0_0.length:Int)) then (if (Int.tmod (wrap64 ((wrap64 (s0_1+1)) - 1)) (s0_0.length:Int))<(s0_0.length:Int) then (if 0≤(Int.tmod (wrap64 ((wrap64 ((wrap64 ((wrap64 (s0_1+1)) - 1)) * 7))+3)) (s0_0.length:Int)) then (if (Int.tmod (wrap64 ((wrap64 ((wrap64 ((wrap64 (s0_1+1)) - 1)) * 7))+3)) (s0_0.length:Int))<(s0_0.length:Int) then (if a1=0 then (none) else (some (Int.tmod (Go.bits .xor .i64 (wrap64 ((wrap64 ((wrap64 ((wrap64 ((wrap64 (rd s0_0 (Int.tmod (wrap64 ((wrap64 (s0_1+1)) - 1)) (s0_0.length:Int)))) * 131))+(wrap64 ((wrap64 (rd s0_0 (Int.tmod (wrap64 ((wrap64 ((wrap64 ((wrap64 (s0_1+1)) - 1)) * 7))+3)) (s0_0.length:Int)))) * 1117))))+(wrap64 ((wrap64 ((wrap64 (s0_1+1)) - 1)) * 29))))+(wrap64 ((wrap64 (Int.tdiv (wrap64 ((wrap64 (s0_1+1)) - 1)) (s0_0.length:Int))) * 53)))) (wrap64 (Int.tdiv (wrap64 ((wrap64 ((wrap64 ((wrap64 ((wrap64 (rd s0_0 (Int.tmod (wrap64 ((wrap64 (s0_1+1)) - 1)) (s0_0.length:Int)))) * 131))+(wrap64 ((wrap64 (rd s0_0 (Int.tmod (wrap64 ((wrap64 ((wrap64 ((wrap64 (s0_1+1)) - 1)) * 7))+3)) (s0_0.length:Int)))) * 1117))))+(wrap64 ((wrap64 ((wrap64 (s0_1+1)) - 1)) * 29))))+(wrap64 ((wrap64 (Int.tdiv (wrap64 ((wrap64 (s0_1+1)) - 1)) (s0_0.length:Int))) * 53)))) 64))) a1,(wrap64 (s0_1+1))))) else (none)) else (none)) else (none)) else (none))))=some (r1,r2):=by rw [if_neg (show ¬ (false=true) by decide)] at H;exact H
    clear H
    have H:=H1
    clear H1
    by_cases c8:(wrap64 ((wrap64 (s0_1+1)) - 1))<(s0_0.length:Int)
    ·rw [if_pos c8] at H
     have c8b0:decide ((wrap64 ((wrap64 (s0_1+1)) - 1))<(s0_0.length:Int))=true:=dzT c8
     clear c8
     obtain ⟨ji9,hji9⟩:∃ j_:Int,(wrap64 ((wrap64 (s0_1+1)) - 1))=j_:=⟨_,rfl⟩
     replace H:(if 0≤(ji9) then (if a1=0 then (none) else (some (Int.tmod (wrap64 (rd s0_0 (ji9))) a1,(wrap64 (s0_1+1))))) else (none))=some (r1,r2):=by first |(rw [hji9] at H;exact H) |(simp only [hji9] at H ⊢;exact H)
     (try rw [hji9] at c8b0)
     have hji9w:(IntKind.i64.wrap ((wrap64 (s0_1+1)) - 1))=ji9:=(jqb _).trans hji9
     by_cases c10:0≤(ji9)
     ·rw [if_pos c10] at H
      have c10b0:decide (0≤(ji9))=true:=dzT c10
      clear c10
      by_cases c11:a1=0
      ·rw [if_pos c11] at H
       exact absurd H (by simp)
      ·rw [if_neg c11] at H
       have c11b0:(a1 == 0)=false:=beq_eq_false_iff_ne.mpr c11
       have c11b1:(a1 != 0)=true:=bne_iff_ne.mpr c11
       simp only [Option.some.injEq,Prod.mk.injEq] at H
       obtain ⟨rfl,rfl⟩:=H
       obtain ⟨ASz12_0,cSz12_0,HGz12,hgz12,HSz12_0⟩:=HI0.out
       have hcz12_0:=cellS106_0 HGz12
       have hcz12_1:=cellS106_1 HGz12
       have hfz12_1:=je HGz12 1
       clear HGz12 hgz12
       have p296:0≤((ji9):Int):=ozD (uq)
       have q296:(ji9)<(s0_0.length:Int):=ozD (uq)
       obtain ⟨ad296,e296,hx296_0⟩:=Kd.jYa HSz12_0 (ji9) p296 q296
       cases e296
       replace hx296_0:=jAa HB.out hx296_0
       replace p296:=ezT p296
       replace q296:=ezT q296
       go_wp2
       repeat (go_quiet (fail);try go_wp2)
       go_ret
       exact ⟨by first | rfl |(simp [jkb,jjb] <;> rfl) |(simp only [← hji9];first | rfl |(simp [jkb,jjb] <;> rfl)) |(simp [*,jkb,jjb] <;> rfl),Y13,Y15,Y14⟩
     ·rw [if_neg c10] at H
      exact absurd H (by simp)
    ·rw [if_neg c8] at H
     have c8b0:decide ((wrap64 ((wrap64 (s0_1+1)) - 1))<(s0_0.length:Int))=false:=dzF c8
     clear c8
     by_cases c13:(s0_0.length:Int)=0
     ·rw [if_pos c13] at H
      exact absurd H (by simp)
     ·rw [if_neg c13] at H
      have c13b0:((s0_0.length:Int) == 0)=false:=beq_eq_false_iff_ne.mpr c13
      have c13b1:((s0_0.length:Int) != 0)=true:=bne_iff_ne.mpr c13
      have c13b2:¬ (s0_0=[]):=fun h_=>c13 (by rw [h_];rfl)
      obtain ⟨ji14,hji14⟩:∃ j_:Int,(Int.tmod (wrap64 ((wrap64 (s0_1+1)) - 1)) (s0_0.length:Int))=j_:=⟨_,rfl⟩
      replace H:(if 0≤(ji14) then (if (ji14)<(s0_0.length:Int) then (if 0≤(Int.tmod (wrap64 ((wrap64 ((wrap64 ((wrap64 (s0_1+1)) - 1)) * 7))+3)) (s0_0.length:Int)) then (if (Int.tmod (wrap64 ((wrap64 ((wrap64 ((wrap64 (s0_1+1)) - 1)) * 7))+3)) (s0_0.length:Int))<(s0_0.length:Int) then (if a1=0 then (none) else (some (Int.tmod (Go.bits .xor .i64 (wrap64 ((wrap64 ((wrap64 ((wrap64 ((wrap64 (rd s0_0 (ji14))) * 131))+(wrap64 ((wrap64 (rd s0_0 (Int.tmod (wrap64 ((wrap64 ((wrap64 ((wrap64 (s0_1+1)) - 1)) * 7))+3)) (s0_0.length:Int)))) * 1117))))+(wrap64 ((wrap64 ((wrap64 (s0_1+1)) - 1)) * 29))))+(wrap64 ((wrap64 (Int.tdiv (wrap64 ((wrap64 (s0_1+1)) - 1)) (s0_0.length:Int))) * 53)))) (wrap64 (Int.tdiv (wrap64 ((wrap64 ((wrap64 ((wrap64 ((wrap64 (rd s0_0 (ji14))) * 131))+(wrap64 ((wrap64 (rd s0_0 (Int.tmod (wrap64 ((wrap64 ((wrap64 ((wrap64 (s0_1+1)) - 1)) * 7))+3)) (s0_0.length:Int)))) * 1117))))+(wrap64 ((wrap64 ((wrap64 (s0_1+1)) - 1)) * 29))))+(wrap64 ((wrap64 (Int.tdiv (wrap64 ((wrap64 (s0_1+1)) - 1)) (s0_0.length:Int))) * 53)))) 64))) a1,(wrap64 (s0_1+1))))) else (none)) else (none)) else (none)) else (none))=some (r1,r2):=by first |(rw [hji14] at H;exact H) |(simp only [hji14] at H ⊢;exact H)
      by_cases c15:0≤(ji14)
      ·rw [if_pos c15] at H
       have c15b0:decide (0≤(ji14))=true:=dzT c15
       clear c15
       by_cases c16:(ji14)<(s0_0.length:Int)
       ·rw [if_pos c16] at H
        have c16b0:decide ((ji14)<(s0_0.length:Int))=true:=dzT c16
        clear c16
        obtain ⟨ji17,hji17⟩:∃ j_:Int,(Int.tmod (wrap64 ((wrap64 ((wrap64 ((wrap64 (s0_1+1)) - 1)) * 7))+3)) (s0_0.length:Int))=j_:=⟨_,rfl⟩
        replace H:(if 0≤(ji17) then (if (ji17)<(s0_0.length:Int) then (if a1=0 then (none) else (some (Int.tmod (Go.bits .xor .i64 (wrap64 ((wrap64 ((wrap64 ((wrap64 ((wrap64 (rd s0_0 (ji14))) * 131))+(wrap64 ((wrap64 (rd s0_0 (ji17))) * 1117))))+(wrap64 ((wrap64 ((wrap64 (s0_1+1)) - 1)) * 29))))+(wrap64 ((wrap64 (Int.tdiv (wrap64 ((wrap64 (s0_1+1)) - 1)) (s0_0.length:Int))) * 53)))) (wrap64 (Int.tdiv (wrap64 ((wrap64 ((wrap64 ((wrap64 ((wrap64 (rd s0_0 (ji14))) * 131))+(wrap64 ((wrap64 (rd s0_0 (ji17))) * 1117))))+(wrap64 ((wrap64 ((wrap64 (s0_1+1)) - 1)) * 29))))+(wrap64 ((wrap64 (Int.tdiv (wrap64 ((wrap64 (s0_1+1)) - 1)) (s0_0.length:Int))) * 53)))) 64))) a1,(wrap64 (s0_1+1))))) else (none)) else (none))=some (r1,r2):=by first |(rw [hji17] at H;exact H) |(simp only [hji17] at H ⊢;exact H)
        by_cases c18:0≤(ji17)
        ·rw [if_pos c18] at H
         have c18b0:decide (0≤(ji17))=true:=dzT c18
         clear c18
         by_cases c19:(ji17)<(s0_0.length:Int)
         ·rw [if_pos c19] at H
          have c19b0:decide ((ji17)<(s0_0.length:Int))=true:=dzT c19
          clear c19
          by_cases c20:a1=0
          ·rw [if_pos c20] at H
           exact absurd H (by simp)
          ·rw [if_neg c20] at H
           have c20b0:(a1 == 0)=false:=beq_eq_false_iff_ne.mpr c20
           have c20b1:(a1 != 0)=true:=bne_iff_ne.mpr c20
           simp only [Option.some.injEq,Prod.mk.injEq] at H
           obtain ⟨rfl,rfl⟩:=H
           obtain ⟨ASz21_0,cSz21_0,HGz21,hgz21,HSz21_0⟩:=HI0.out
           have hcz21_0:=cellS106_0 HGz21
           have hcz21_1:=cellS106_1 HGz21
           have hfz21_1:=je HGz21 1
           clear HGz21 hgz21
           have p297:0≤((ji14):Int):=ozD (uq)
           have q297:(ji14)<(s0_0.length:Int):=ozD (uq)
           obtain ⟨ad297,e297,hx297_0⟩:=Kd.jYa HSz21_0 (ji14) p297 q297
           cases e297
           replace hx297_0:=jAa HB.out hx297_0
           replace p297:=ezT p297
           replace q297:=ezT q297
           have p298:0≤((ji17):Int):=ozD (uq)
           have q298:(ji17)<(s0_0.length:Int):=ozD (uq)
           obtain ⟨ad298,e298,hx298_0⟩:=Kd.jYa HSz21_0 (ji17) p298 q298
           obtain rfl:ad297=ad298:=(by injection e298)
           replace hx298_0:=jAa HB.out hx298_0
           replace p298:=ezT p298
           replace q298:=ezT q298
           go_wp2
           repeat (go_quiet (fail);try go_wp2)
           go_ret
           exact ⟨by first | rfl |(simp [jkb,jjb] <;> rfl) |(simp only [← hji14,← hji17];first | rfl |(simp [jkb,jjb] <;> rfl)) |(simp [*,jkb,jjb] <;> rfl),Y13,Y15,Y14⟩
         ·rw [if_neg c19] at H
          exact absurd H (by simp)
        ·rw [if_neg c18] at H
         exact absurd H (by simp)
       ·rw [if_neg c16] at H
        exact absurd H (by simp)
      ·rw [if_neg c15] at H
       exact absurd H (by simp)
def jw.f (k : Nat) (s0_0 : List Int) (s0_1 : Int) (l1 : List Int) : Option (Int × Int) := (jl.f k s0_0 s0_1 (l1.length : Int)).bind fun bt299 => (if 0 ≤ bt299.1 then (if bt299.1 < (l1.length : Int) then (some (rd l1 bt299.1, bt299.2)) else (none)) else (none))
set_option maxHeartbeats 8000000 in
set_option maxRecDepth 100000 in
theorem jw.calls (k : Nat) (g : Nat) (s0_0 : List Int) (s0_1 : Int) (A1 : Option Addr) (c1 : Nat) (l1 : List Int) (r1 : Int) (r2 : Int) (w0 w : World) (hI : ja w0 w g s0_0 s0_1) (hB : Below w0.heap.size w0 w) (hr1 : Kd.C (Kd.int .i64) w A1 l1.length l1) (hc1 : l1.length ≤ c1) (hf1 : ∀ ad, A1 = some ad → 0 < l1.length → ad.block ≠ g) (h : jw.f k s0_0 s0_1 l1 = some (r1, r2)) :
  Calls Try.prog 89 #[.pointer (some ⟨g,0,none⟩), .slice A1 l1.length c1] w fun e w'=>e=.returned (.int .i64 r1)∧ja w0 w' g s0_0 r2∧Below w0.heap.size w0 w'∧jd w w' g none:=by
 have HR1:=am hr1
 have HC1:=am hc1
 clear hr1 hc1
 have HI0:=am hI
 have HK:=am (jd.refl w g none)
 have HL:=am hB.size
 clear hI
 have HW0:=am hB.size
 have HB:=am hB
 clear hB
 have H:((jl.f k s0_0 s0_1 (l1.length:Int)).bind fun bt299=>(if 0≤bt299.1 then (if bt299.1<(l1.length:Int) then (some (rd l1 bt299.1,bt299.2)) else (none)) else (none)))=some (r1,r2):=h
 clear h
 replace H:=bzS H
 obtain ⟨⟨t299,t300⟩,A30,H⟩:=H
 replace H:(if 0≤t299 then (if t299<(l1.length:Int) then (some (rd l1 t299,t300)) else (none)) else (none))=some (r1,r2):=H
 have A3:=am A30
 clear A30
 by_cases c4:0≤t299
 ·rw [if_pos c4] at H
  have c4b0:decide (0≤t299)=true:=dzT c4
  clear c4
  by_cases c5:t299<(l1.length:Int)
  ·rw [if_pos c5] at H
   have c5b0:decide (t299<(l1.length:Int))=true:=dzT c5
   clear c5
   simp only [Option.some.injEq,Prod.mk.injEq] at H
   obtain ⟨rfl,rfl⟩:=H
   go_enter Try.func89,Try.ntmps89
   go_wp2_with (first |((with_reducible refine jA (f:=88) rfl ?_);refine gL (some 9) Try.func88 #[.pointer (some ⟨g,0,none⟩), .int .i64 (l1.length:Int)] ?_;(with_reducible refine (jl.calls k g s0_0 s0_1 (l1.length:Int) t299 t300 w0 _ ?side1 ?side2 A3.out).mono ?_);(case side1=>exact Y13);(case side2=>exact Y15);rintro e w6 ⟨rfl,hi,hb,hk⟩;refine ⟨_,rfl,?_⟩;replace HK:=am (jd.trans (Y14) hk (.inl rfl));replace HB:=am (hb);replace HI0:=am (hi);(try clear hb);(try clear hb2);(try clear hk);(try clear hi);have p301:0≤(t299:Int):=ozD (uq);have q301:t299<(l1.length:Int):=ozD (uq);obtain ⟨ad301,e301,hx301_0⟩:=Kd.jYa HR1.out t299 p301 q301;cases e301;replace hx301_0:=keep_cell HK.out hx301_0 (by first |(rw [add_block];exact hf1 _ rfl (by omega)) | exact hf1 _ rfl (by omega) | exact hf1 ad301 rfl (by omega));replace p301:=ezT p301;replace q301:=ezT q301))
   go_ret
   exact ⟨Y2,Y13,Y15,Y14⟩
  ·rw [if_neg c5] at H
   exact absurd H (by simp)
 ·rw [if_neg c4] at H
  exact absurd H (by simp)
def jXa.f (l0_0 : List (S54)) : Option ((List (S54))) := (some (([] : List (S54)) : List (S54))).bind fun y304 => (if y304.length + l0_0.length < 3518437208883 then (some (y304 ++ l0_0)) else (none))
set_option maxHeartbeats 8000000 in
set_option maxRecDepth 100000 in
theorem jXa.calls (A0_0 : Option Addr) (c0_0 : Nat) (l0_0 : List (S54)) (r : List (S54)) (w : World) (hr0_0 : Kd.C k54 w A0_0 l0_0.length l0_0) (hc0_0 : l0_0.length ≤ c0_0) (h : jXa.f l0_0 = some r) :
  Calls Try.prog 67 #[.agg #[.slice A0_0 l0_0.length c0_0]] w fun e w'=>∃ v0_:Value,e=.returned (.agg #[v0_])∧Kd.R k54 54 w' w.heap.size (fun _=>True) v0_ r∧Below w.heap.size w w':=by
 have hu32:=Try.underlying32
 have HR0_0:=am hr0_0
 have HC0_0:=am hc0_0
 clear hr0_0 hc0_0
 have HB:=am (Below.refl w.heap.size w)
 have H:((some (([]:List (S54)):List (S54))).bind fun y304=>(if y304.length+l0_0.length<3518437208883 then (some (y304 ++ l0_0)) else (none)))=some r:=h
 clear h
 obtain ⟨y304,hy304⟩:∃ y_:List (S54),y_=(([]:List (S54))):=⟨_,rfl⟩
 replace H:(if y304.length+l0_0.length<3518437208883 then (some (y304 ++ l0_0)) else (none))=some r:=by first |(rw [hy304];with_reducible exact H) |(have H2_:=(Option.bind_some _ _).symm.trans H;rw [hy304];with_reducible exact H2_) |(have H2_:=(Option.bind_some _ _).symm.trans H;with_reducible exact H2_) | with_reducible exact H |(rw [hy304];exact H) | exact H
 have Ny304:=am hy304
 clear hy304
 by_cases c2:y304.length+l0_0.length<3518437208883
 ·rw [if_pos c2] at H
  have LMc2:=am c2
  clear c2
  obtain ⟨y307,hy307⟩:∃ y_:List (S54),y_=(y304 ++ l0_0):=⟨_,rfl⟩
  replace H:(some y307)=some r:=by first |(rw [hy307];with_reducible exact H) |(have H2_:=(Option.bind_some _ _).symm.trans H;rw [hy307];with_reducible exact H2_) |(have H2_:=(Option.bind_some _ _).symm.trans H;with_reducible exact H2_) | with_reducible exact H |(rw [hy307];exact H) | exact H
  have Ny307:=am hy307
  clear hy307
  obtain rfl:=Option.some.inj H
  go_enter Try.func67,Try.ntmps67
  go_wp2_with (first |((with_reducible refine jG (N:=1) rfl ?_);refine bE (N:=1) (cs:=#[.slice A0_0 l0_0.length c0_0]) (t:=32) ?_;intro gb302 hg w3 hbox hb;have BK302:=am (hbox);have GW302:=am ((Y0:w.heap.size≤gb302));have GE302:=am ((Y0:w.heap.size≤gb302));replace HB:=am (jf (bq) hb);clear hb hbox hg) |((with_reducible refine jG (N:=2) rfl ?_);refine bE (N:=2) (cs:=#[.slice none 0 0]) (t:=32) ?_;intro gb303 hg w4 hbox hb;have BK303:=am (hbox);have GW303:=am ((Y137:w.heap.size≤gb303));have GE303:=am ((Y137:w.heap.size≤gb303));have NB302_303:=am ((by rw [hg];exact Nat.ne_of_lt (jha (g:=gb302) (o:=.cells #[.slice A0_0 l0_0.length c0_0] 32 (0,0)) (kq BK302.out)):gb302≠gb303));have NB303_302:=am ((by rw [hg];exact Nat.ne_of_gt (jha (g:=gb302) (o:=.cells #[.slice A0_0 l0_0.length c0_0] 32 (0,0)) (kq BK302.out)):gb303≠gb302));replace BK302:=am (jc (g:=gb302) (o:=.cells #[.slice A0_0 l0_0.length c0_0] 32 (0,0)) (kq BK302.out) hb);replace HB:=am (jf (by repeat (first |(with_reducible first | exact HB.out | apply jC | apply jr | apply jy | refine jq ?_ GE302.out) | exact HB.out)) hb);clear hb hbox hg) |((with_reducible refine jG (N:=3) rfl ?_);refine Kd.R_lit k54 _ 54 ?hg (N:=3) ?hd (xs:=([]:List (S54))) (inner:=[]) (ok:=fun _=>True) (okp:=fun _=>True) ?hr ?hp (fun _ hk=>hk) trivial (Below.refl _ _) (Nat.le_refl _) (by simp) ?_;(case hd=>rfl);(case hg=>rfl);(case hr=>exact Y3);(case hp=>exact (Reps.none _ _));intro v305 w5 ho6 hb hg_ hnew_;clear hg_ hnew_;(first | rw [← Ny304.out] at ho6 |(simp only [Int.reduceToNat] at ho6;rw [← Ny304.out] at ho6));have HO306:=am (Kd.jV ho6 (jK (Y85)));replace BK302:=am (jc (g:=gb302) (o:=.cells #[.slice A0_0 l0_0.length c0_0] 32 (0,0)) (kq BK302.out) hb);replace BK303:=am (jc (g:=gb303) (o:=.cells #[.slice none 0 0] 32 (0,0)) (kq BK303.out) hb);replace HB:=am (jf (Y85) hb);clear hb ho6;have hnb7:=NB302_303.out;have hnc7:=NB303_302.out;have hcz8_0:=bc0 BK302.out;have hfz8_0:=je BK302.out 0) |((with_reducible refine jKb (b:=.append) (xs:=#[.tmp 3, .tmp 5]) rfl ?_);at_builtin;refine Kd.R_append_rows k54 (w0:=w) w.heap.size rfl (.tmp 3) (.tmp 5) 30 54 (.agg #[(.int .i64 0),(.int .i64 0),(.int .i64 0),(.int .i64 0),(.bool false)]) 40 rfl Try.underlying30 info54 rfl (by decide) (by omega) v305 y304 l0_0 _ _ _ (fun _=>True) (fun _=>False) rfl rfl ?aO ?aR (fun _ _ h=>h) (fun _ h=>h.elim) ?aF ?aB ?aS ?aL ?_;(case aR=>repeat (first | exact (Kd.jca HR0_0.out HB.out) |(with_reducible refine Kd.C_alloc ?_ _) |(with_reducible refine Kd.C_drewN ?_ _) |(with_reducible refine Kd.C_drew ?_)));(case aB=>exact (Y85));(case aF=>exact (fun _ _=>trivial));(case aO=>exact (rq HO306.out));(case aS=>exact (jK (Y85)));(case aL=>have:=LMc2.out;omega);intro v308 w9 ho hb hg hat;rw [← Ny307.out] at ho;have n0_:=am (jEa (g:=gb302) (o:=.cells #[.slice A0_0 l0_0.length c0_0] 32 (0,0)) (kq BK302.out) hg (Kd.R_ne HO306.out BK302.out (by decide)));have n1_:=am (jEa (g:=gb303) (o:=.cells #[.slice none 0 0] 32 (0,0)) (kq BK303.out) hg (Kd.R_ne HO306.out BK303.out (by decide)));have n2_:=am (hb);have n3_:=am (ho);clear BK302 BK303 HB HO306;have BK302:=n0_;have BK303:=n1_;have HB:=n2_;have HO309:=n3_;clear n0_ n1_ n2_ n3_ ho hb hg hat;obtain ⟨Ao10,co10,eo10⟩:=Kd.jN HO309.out;subst eo10;have hcz11_0:=bc0 BK303.out;have hfz11_0:=je BK303.out 0))
  refine bodyPost_ret (results_cell_row rfl _ _ gb303 32 #[.slice Ao10 y307.length co10] (0,0) _ rfl (by (with_reducible repeat (first | refine jh ?_ _ | refine jg ?_ | refine jk ?_ _));refine jHa (cs:=#[.slice none 0 0]) ?_ 0 _ rfl;(with_reducible repeat (first | refine jh ?_ _ | refine jg ?_ | refine jk ?_ _));exact BK303.out) Try.underlying32 rfl (by kernel_rfl)) rfl ?_
  exact ⟨_,Y2,by (with_reducible repeat (first | apply Kd.jW | apply Kd.jY | apply Kd.jU));exact Kd.jH (Kd.jya (p:=⟨gb303,0,none⟩) (Kd.jR HO309.out BK303.out (by decide)) (fun _ hk=>hk.2) (.slice Ao10 y307.length co10)) (fun _ hk=>trivial),Y85⟩
 ·rw [if_neg c2] at H
  exact absurd H (by simp)
def jDb.f (l0_0 : List (S54)) (a1 : Int) (a2 : Int) : Option ((List (S54))) := (jXa.f l0_0).bind fun t312 => (if t312.length < 3518437208883 then (some (t312 ++ [(⟨a1, a2, (-1), (-1), false⟩ : S54)])) else (none))
set_option maxHeartbeats 8000000 in
set_option maxRecDepth 100000 in
theorem jDb.calls (A0_0 : Option Addr) (c0_0 : Nat) (l0_0 : List (S54)) (a1 : Int) (a2 : Int) (r : List (S54)) (w : World) (hr0_0 : Kd.C k54 w A0_0 l0_0.length l0_0) (hc0_0 : l0_0.length ≤ c0_0) (h : jDb.f l0_0 a1 a2 = some r) :
  Calls Try.prog 91 #[.agg #[.slice A0_0 l0_0.length c0_0], .int .i64 a1, .int .i64 a2] w fun e w'=>∃ v0_:Value,e=.returned (.agg #[v0_])∧Kd.R k54 54 w' w.heap.size (fun _=>True) v0_ r∧Below w.heap.size w w':=by
 have hu32:=Try.underlying32
 have hu54:=Try.underlying54
 have HR0_0:=am hr0_0
 have HC0_0:=am hc0_0
 clear hr0_0 hc0_0
 have HB:=am (Below.refl w.heap.size w)
 have H:((jXa.f l0_0).bind fun t312=>(if t312.length<3518437208883 then (some (t312 ++ [(⟨a1,a2,(-1),(-1),false⟩:S54)])) else (none)))=some r:=h
 clear h
 replace H:=bzS H
 obtain ⟨t312,A40,H⟩:=H
 replace H:(if t312.length<3518437208883 then (some (t312 ++ [(⟨a1,a2,(-1),(-1),false⟩:S54)])) else (none))=some r:=H
 have A4:=am A40
 clear A40
 by_cases c5:t312.length<3518437208883
 ·rw [if_pos c5] at H
  have LMc5:=am c5
  clear c5
  obtain ⟨y316,hy316⟩:∃ y_:List (S54),y_=(t312 ++ [(⟨a1,a2,(-1),(-1),false⟩:S54)]):=⟨_,rfl⟩
  replace H:(some y316)=some r:=by first |(rw [hy316];with_reducible exact H) |(have H2_:=(Option.bind_some _ _).symm.trans H;rw [hy316];with_reducible exact H2_) |(have H2_:=(Option.bind_some _ _).symm.trans H;with_reducible exact H2_) | with_reducible exact H |(rw [hy316];exact H) | exact H
  have Ny316:=am hy316
  clear hy316
  obtain rfl:=Option.some.inj H
  go_enter Try.func91,Try.ntmps91
  go_wp2_with (first |((with_reducible refine jG (N:=3) rfl ?_);refine bE (N:=3) (cs:=#[.slice A0_0 l0_0.length c0_0]) (t:=32) ?_;intro gb310 hg w6 hbox hb;have BK310:=am (hbox);have GW310:=am ((Y0:w.heap.size≤gb310));have GE310:=am ((Y0:w.heap.size≤gb310));replace HB:=am (jf (bq) hb);clear hb hbox hg) |((with_reducible refine jG (N:=6) rfl ?_);refine bE (N:=6) (cs:=#[.slice none 0 0]) (t:=32) ?_;intro gb311 hg w7 hbox hb;have BK311:=am (hbox);have GW311:=am ((Y138:w.heap.size≤gb311));have GE311:=am ((Y138:w.heap.size≤gb311));have NB310_311:=am ((by rw [hg];exact Nat.ne_of_lt (jha (g:=gb310) (o:=.cells #[.slice A0_0 l0_0.length c0_0] 32 (0,0)) (kq BK310.out)):gb310≠gb311));have NB311_310:=am ((by rw [hg];exact Nat.ne_of_gt (jha (g:=gb310) (o:=.cells #[.slice A0_0 l0_0.length c0_0] 32 (0,0)) (kq BK310.out)):gb311≠gb310));replace BK310:=am (jc (g:=gb310) (o:=.cells #[.slice A0_0 l0_0.length c0_0] 32 (0,0)) (kq BK310.out) hb);replace HB:=am (jf (by repeat (first |(with_reducible first | exact HB.out | apply jC | apply jr | apply jy | refine jq ?_ GE310.out) | exact HB.out)) hb);clear hb hbox hg;have hnb8:=NB310_311.out;have hnc8:=NB311_310.out;have hcz9_0:=bc0 BK310.out;have hfz9_0:=je BK310.out 0) |((with_reducible refine jA (f:=67) rfl ?_);refine gL (some 9) Try.func67 #[.agg #[.slice A0_0 l0_0.length c0_0]] ?_;(with_reducible refine (jXa.calls _ _ l0_0 t312 _ ?side1 ?side2 A4.out).mono ?_);(case side1=>exact cq (Kd.jca HR0_0.out HB.out));(case side2=>exact HC0_0.out);rintro e w10 ⟨v313,rfl,ho0,hb⟩;refine ⟨_,rfl,?_⟩;have HO314:=am (Kd.jV ho0 (jK (Y113)));replace BK310:=am (jc (g:=gb310) (o:=.cells #[.slice A0_0 l0_0.length c0_0] 32 (0,0)) (kq BK310.out) hb);replace BK311:=am (jc (g:=gb311) (o:=.cells #[.slice none 0 0] 32 (0,0)) (kq BK311.out) hb);replace HB:=am (jf (Y113) hb);(try clear hb);(try clear hb2);(try clear hk);(try clear hi);(try clear ho0)) |((with_reducible refine jG (N:=7) rfl ?_);refine bE (N:=7) (cs:=#[.slice none 0 0]) (t:=32) ?_;intro gb315 hg w11 hbox hb;have BK315:=am (hbox);have GW315:=am ((Y139:w.heap.size≤gb315));have GE315:=am ((Y139:w.heap.size≤gb315));have NB310_315:=am ((by rw [hg];exact Nat.ne_of_lt (jha (g:=gb310) (o:=.cells #[.slice A0_0 l0_0.length c0_0] 32 (0,0)) (kq BK310.out)):gb310≠gb315));have NB315_310:=am ((by rw [hg];exact Nat.ne_of_gt (jha (g:=gb310) (o:=.cells #[.slice A0_0 l0_0.length c0_0] 32 (0,0)) (kq BK310.out)):gb315≠gb310));have NB311_315:=am ((by rw [hg];exact Nat.ne_of_lt (jha (g:=gb311) (o:=.cells #[.slice none 0 0] 32 (0,0)) (kq BK311.out)):gb311≠gb315));have NB315_311:=am ((by rw [hg];exact Nat.ne_of_gt (jha (g:=gb311) (o:=.cells #[.slice none 0 0] 32 (0,0)) (kq BK311.out)):gb315≠gb311));replace HO314:=am (Kd.jO (rq HO314.out) hb);replace BK310:=am (jc (g:=gb310) (o:=.cells #[.slice A0_0 l0_0.length c0_0] 32 (0,0)) (kq BK310.out) hb);replace BK311:=am (jc (g:=gb311) (o:=.cells #[.slice none 0 0] 32 (0,0)) (kq BK311.out) hb);replace HB:=am (jf (Y113) hb);clear hb hbox hg;obtain ⟨Ao12,co12,eo12⟩:=Kd.jN HO314.out;subst eo12;have hnb13:=NB315_310.out;have hnc13:=NB310_315.out;have hnb14:=NB315_311.out;have hnc14:=NB311_315.out;have hcz15_0:=bc0 BK315.out;have hfz15_0:=je BK315.out 0) |((with_reducible refine jKb (b:=.append) (xs:=#[.tmp 11, .tmp 15]) rfl ?_);at_builtin;refine Kd.R_append k54 (w0:=w) w.heap.size rfl (.tmp 11) (.tmp 15) 30 54 (.agg #[(.int .i64 0),(.int .i64 0),(.int .i64 0),(.int .i64 0),(.bool false)]) 40 rfl Try.underlying30 info54 rfl (by decide) (by omega) (.slice Ao12 t312.length co12) t312 (⟨a1,a2,(-1),(-1),false⟩:S54) [.int .i64 a1, .int .i64 a2, .int .i64 (-1), .int .i64 (-1), .bool false] (fun _=>True) (fun _=>False) rfl (Y3) ?aP (fun _ hk=>hk.elim) ?aF ?aO ?aB ?aS ?aL ?_;(case aP=>exact jSb _ _ _ (⟨a1,a2,(-1),(-1),false⟩:S54));(case aB=>exact (Y114));(case aF=>exact (fun _ _=>trivial));(case aO=>exact (by (with_reducible repeat (first | apply Kd.jW | apply Kd.jY | apply Kd.jU));exact Kd.jH (Kd.jya (p:=⟨gb315,0,none⟩) (Kd.jR HO314.out BK315.out (by decide)) (fun _ hk=>hk.2) (.slice Ao12 t312.length co12)) (fun _ hk=>trivial)));(case aS=>exact (jK (Y114)));(case aL=>have:=LMc5.out;omega);intro v317 w16 ho hb hg hat;rw [← Ny316.out] at ho;have n0_:=am (jEa (g:=gb310) (o:=.cells #[.slice A0_0 l0_0.length c0_0] 32 (0,0)) (by (with_reducible repeat (first | refine jh ?_ _ | refine jg ?_ | refine jk ?_ _));refine jaa ?_ NB310_315.out _;(with_reducible repeat (first | refine jh ?_ _ | refine jg ?_ | refine jk ?_ _));exact BK310.out) hg (Kd.R_ne HO314.out BK310.out (by decide)));have n1_:=am (jEa (g:=gb311) (o:=.cells #[.slice none 0 0] 32 (0,0)) (by (with_reducible repeat (first | refine jh ?_ _ | refine jg ?_ | refine jk ?_ _));refine jaa ?_ NB311_315.out _;(with_reducible repeat (first | refine jh ?_ _ | refine jg ?_ | refine jk ?_ _));exact BK311.out) hg (Kd.R_ne HO314.out BK311.out (by decide)));have n2_:=am (jEa (g:=gb315) (o:=.cells #[.slice Ao12 t312.length co12] 32 (0,0)) (by (with_reducible repeat (first | refine jh ?_ _ | refine jg ?_ | refine jk ?_ _));refine jHa (cs:=#[.slice none 0 0]) ?_ 0 _ rfl;(with_reducible repeat (first | refine jh ?_ _ | refine jg ?_ | refine jk ?_ _));exact BK315.out) hg (Kd.R_ne HO314.out BK315.out (by decide)));have n3_:=am (hb);have n4_:=am (ho);clear BK310 BK311 BK315 HB HO314;have BK310:=n0_;have BK311:=n1_;have BK315:=n2_;have HB:=n3_;have HO318:=n4_;clear n0_ n1_ n2_ n3_ n4_ ho hb hg hat;obtain ⟨Ao17,co17,eo17⟩:=Kd.jN HO318.out;subst eo17;have hcz18_0:=bc0 BK315.out;have hfz18_0:=je BK315.out 0;have hcz19_0:=bc0 BK311.out;have hfz19_0:=je BK311.out 0))
  refine bodyPost_ret (results_cell_row rfl _ _ gb311 32 #[.slice Ao17 y316.length co17] (0,0) _ rfl (by (with_reducible repeat (first | refine jh ?_ _ | refine jg ?_ | refine jk ?_ _));refine jHa (cs:=#[.slice none 0 0]) ?_ 0 _ rfl;(with_reducible repeat (first | refine jh ?_ _ | refine jg ?_ | refine jk ?_ _));refine jaa ?_ NB311_315.out _;(with_reducible repeat (first | refine jh ?_ _ | refine jg ?_ | refine jk ?_ _));exact BK311.out) Try.underlying32 rfl (by kernel_rfl)) rfl ?_
  exact ⟨_,Y2,by (with_reducible repeat (first | apply Kd.jW | apply Kd.jY | apply Kd.jU));exact Kd.jH (Kd.jya (p:=⟨gb311,0,none⟩) (Kd.jya (p:=⟨gb315,0,none⟩) (Kd.jR (Kd.jR HO318.out BK315.out (by decide)) BK311.out (by decide)) (fun _ hk=>hk.1.2) (.slice Ao17 y316.length co17)) (fun _ hk=>hk.2) (.slice Ao17 y316.length co17)) (fun _ hk=>trivial),Y114⟩
 ·rw [if_neg c5] at H
  exact absurd H (by simp)
mutual
def jga.j0 : Nat → Int → Int → Bool → List (S54) → Option ((List (S54)))
 | 0,_,_,_,_=>none
 | k+1,x1,x2,x17,x325000=>if x17=true then (some x325000) else (jga.l0 k x1 x2 x2 x325000)
def jga.l0 : Nat → Int → Int → Int → List (S54) → Option ((List (S54)))
 | 0,_,_,_,_=>none
 | k+1,x1,x2,x8,x325000=>if 0≤x8 then (if x8<(x325000.length:Int) then (if ((jb x325000 x8).f3)≥0 then (if ((jb x325000 x8).f3)=x1 then ((some (x325000.set (x8:Int).toNat (⟨(jb x325000 x8).f0,(jb x325000 x8).f1,(jb x325000 x8).f2,(-1),(jb x325000 x8).f4⟩:S54):List (S54))).bind fun y328=>(if 0≤x1 then (if x1<(x325000.length:Int) then (some (y328.set (x1:Int).toNat (⟨(jb y328 x1).f0,(jb y328 x1).f1,(jb y328 x1).f2,x2,(jb y328 x1).f4⟩:S54))) else (none)) else (none))) else (jga.l0 k x1 x2 ((jb x325000 x8).f3) x325000)) else (if 0≤x1 then (if x1<(x325000.length:Int) then (some (x325000.set (x1:Int).toNat (⟨(jb x325000 x1).f0,(jb x325000 x1).f1,(jb x325000 x1).f2,x2,(jb x325000 x1).f4⟩:S54))) else (none)) else (none))) else (none)) else (none)
end
def jga.f (k : Nat) (l0_0 : List (S54)) (a1 : Int) (a2 : Int) : Option ((List (S54))) := (jXa.f l0_0).bind fun t321 => (if a1 = a2 then (jga.j0 k a1 a2 true t321) else (jga.j0 k a1 a2 (decide (a2 < 0)) t321))
set_option maxHeartbeats 8000000 in
set_option maxRecDepth 100000 in
theorem jga.calls (k : Nat) (A0_0 : Option Addr) (c0_0 : Nat) (l0_0 : List (S54)) (a1 : Int) (a2 : Int) (r : List (S54)) (w : World) (hr0_0 : Kd.C k54 w A0_0 l0_0.length l0_0) (hc0_0 : l0_0.length ≤ c0_0) (h : jga.f k l0_0 a1 a2 = some r) :
  Calls Try.prog 92 #[.agg #[.slice A0_0 l0_0.length c0_0], .int .i64 a1, .int .i64 a2] w fun e w'=>∃ v0_:Value,e=.returned (.agg #[v0_])∧Kd.R k54 54 w' w.heap.size (fun _=>True) v0_ r∧Below w.heap.size w w':=by
 have hu32:=Try.underlying32
 have HR0_0:=am hr0_0
 have HC0_0:=am hc0_0
 clear hr0_0 hc0_0
 have HB:=am (Below.refl w.heap.size w)
 have H:((jXa.f l0_0).bind fun t321=>(if a1=a2 then (jga.j0 k a1 a2 true t321) else (jga.j0 k a1 a2 (decide (a2<0)) t321)))=some r:=h
 clear h
 replace H:=bzS H
 obtain ⟨t321,A40,H⟩:=H
 replace H:(if a1=a2 then (jga.j0 k a1 a2 true t321) else (jga.j0 k a1 a2 (decide (a2<0)) t321))=some r:=H
 have A4:=am A40
 clear A40
 have HC5:=am H
 clear H
 go_enter Try.func92,Try.ntmps92
 go_upto_region 2 with (first |((with_reducible refine jG (N:=3) rfl ?_);refine bE (N:=3) (cs:=#[.slice A0_0 l0_0.length c0_0]) (t:=32) ?_;intro gb319 hg w6 hbox hb;have BK319:=am (hbox);have GW319:=am ((Y0:w.heap.size≤gb319));have GE319:=am ((Y0:w.heap.size≤gb319));replace HB:=am (jf (bq) hb);clear hb hbox hg) |((with_reducible refine jG (N:=6) rfl ?_);refine bE (N:=6) (cs:=#[.slice none 0 0]) (t:=32) ?_;intro gb320 hg w7 hbox hb;have BK320:=am (hbox);have GW320:=am ((Y140:w.heap.size≤gb320));have GE320:=am ((Y140:w.heap.size≤gb320));have NB319_320:=am ((by rw [hg];exact Nat.ne_of_lt (jha (g:=gb319) (o:=.cells #[.slice A0_0 l0_0.length c0_0] 32 (0,0)) (kq BK319.out)):gb319≠gb320));have NB320_319:=am ((by rw [hg];exact Nat.ne_of_gt (jha (g:=gb319) (o:=.cells #[.slice A0_0 l0_0.length c0_0] 32 (0,0)) (kq BK319.out)):gb320≠gb319));replace BK319:=am (jc (g:=gb319) (o:=.cells #[.slice A0_0 l0_0.length c0_0] 32 (0,0)) (kq BK319.out) hb);replace HB:=am (jf (by repeat (first |(with_reducible first | exact HB.out | apply jC | apply jr | apply jy | refine jq ?_ GE319.out) | exact HB.out)) hb);clear hb hbox hg;have hnb8:=NB319_320.out;have hnc8:=NB320_319.out;have hcz9_0:=bc0 BK319.out;have hfz9_0:=je BK319.out 0) |((with_reducible refine jA (f:=67) rfl ?_);refine gL (some 10) Try.func67 #[.agg #[.slice A0_0 l0_0.length c0_0]] ?_;(with_reducible refine (jXa.calls _ _ l0_0 t321 _ ?side1 ?side2 A4.out).mono ?_);(case side1=>exact cq (Kd.jca HR0_0.out HB.out));(case side2=>exact HC0_0.out);rintro e w10 ⟨v322,rfl,ho0,hb⟩;refine ⟨_,rfl,?_⟩;have HO323:=am (Kd.jV ho0 (jK (Y115)));replace BK319:=am (jc (g:=gb319) (o:=.cells #[.slice A0_0 l0_0.length c0_0] 32 (0,0)) (kq BK319.out) hb);replace BK320:=am (jc (g:=gb320) (o:=.cells #[.slice none 0 0] 32 (0,0)) (kq BK320.out) hb);replace HB:=am (jf (Y115) hb);(try clear hb);(try clear hb2);(try clear hk);(try clear hi);(try clear ho0)) |((with_reducible refine jG (N:=7) rfl ?_);refine bE (N:=7) (cs:=#[.slice none 0 0]) (t:=32) ?_;intro gb324 hg w11 hbox hb;have BK324:=am (hbox);have GW324:=am ((Y141:w.heap.size≤gb324));have GE324:=am ((Y141:w.heap.size≤gb324));have NB319_324:=am ((by rw [hg];exact Nat.ne_of_lt (jha (g:=gb319) (o:=.cells #[.slice A0_0 l0_0.length c0_0] 32 (0,0)) (kq BK319.out)):gb319≠gb324));have NB324_319:=am ((by rw [hg];exact Nat.ne_of_gt (jha (g:=gb319) (o:=.cells #[.slice A0_0 l0_0.length c0_0] 32 (0,0)) (kq BK319.out)):gb324≠gb319));have NB320_324:=am ((by rw [hg];exact Nat.ne_of_lt (jha (g:=gb320) (o:=.cells #[.slice none 0 0] 32 (0,0)) (kq BK320.out)):gb320≠gb324));have NB324_320:=am ((by rw [hg];exact Nat.ne_of_gt (jha (g:=gb320) (o:=.cells #[.slice none 0 0] 32 (0,0)) (kq BK320.out)):gb324≠gb320));replace HO323:=am (Kd.jO (rq HO323.out) hb);replace BK319:=am (jc (g:=gb319) (o:=.cells #[.slice A0_0 l0_0.length c0_0] 32 (0,0)) (kq BK319.out) hb);replace BK320:=am (jc (g:=gb320) (o:=.cells #[.slice none 0 0] 32 (0,0)) (kq BK320.out) hb);replace HB:=am (jf (Y115) hb);clear hb hbox hg;obtain ⟨Ao12,co12,eo12⟩:=Kd.jN HO323.out;subst eo12;have hnb13:=NB324_319.out;have hnc13:=NB319_324.out;have hnb14:=NB324_320.out;have hnc14:=NB320_324.out;have hcz15_0:=bc0 BK324.out;have hfz15_0:=je BK324.out 0))
 (try simp only [Act.put,List.setIfInBounds_toArray,List.set_cons_zero,List.set_cons_succ])
 go_cut [17] (fun v17 wc=>∃ (kq:Nat) (x17_4:Bool),v17=.bool x17_4∧jB (jga.j0 kq a1 a2 x17_4 t321=some r)∧jB (kq≤k)∧jB (Kd.R k54 54 wc w.heap.size (fun _=>True) (.slice Ao12 t321.length co12) t321)∧jB (wc.heap[gb319]?=some (.cells #[(.slice A0_0 l0_0.length c0_0)] 32 (0,0)))∧jB (wc.heap[gb320]?=some (.cells #[(.slice none 0 0)] 32 (0,0)))∧jB (wc.heap[gb324]?=some (.cells #[(.slice Ao12 t321.length co12)] 32 (0,0)))∧jB (Below w.heap.size w wc))
 case first =>
  have H:=HC5.out
  clear HC5
  by_cases c16:a1=a2
  ·rw [if_pos c16] at H
   have c16b0:(a1 == a2)=true:=beq_iff_eq.mpr c16
   have c16b1:(a1 != a2)=false:=bne_eq_false_iff_eq.mpr c16
   clear c16
   (first | rw [c16b0] |(simp only [jqb,jwb];rw [c16b0]) | skip)
   have H':=am H
   clear H
   go_wp2
   go_meet
   case rel=>exact ⟨_,(true),(sq),H',⟨Y61⟩,⟨by (with_reducible repeat (first | apply Kd.jW | apply Kd.jY | apply Kd.jU));exact Kd.jH (Kd.jya (p:=⟨gb324,0,none⟩) (Kd.jR HO323.out BK324.out (by decide)) (fun _ hk=>hk.2) (.slice Ao12 t321.length co12)) (fun _ hk=>trivial)⟩,⟨by (with_reducible repeat (first | refine jh ?_ _ | refine jg ?_ | refine jk ?_ _));refine jaa ?_ NB319_324.out _;(with_reducible repeat (first | refine jh ?_ _ | refine jg ?_ | refine jk ?_ _));exact BK319.out⟩,⟨by (with_reducible repeat (first | refine jh ?_ _ | refine jg ?_ | refine jk ?_ _));refine jaa ?_ NB320_324.out _;(with_reducible repeat (first | refine jh ?_ _ | refine jg ?_ | refine jk ?_ _));exact BK320.out⟩,⟨by (with_reducible repeat (first | refine jh ?_ _ | refine jg ?_ | refine jk ?_ _));refine jHa (cs:=#[.slice none 0 0]) ?_ 0 _ rfl;(with_reducible repeat (first | refine jh ?_ _ | refine jg ?_ | refine jk ?_ _));exact BK324.out⟩,⟨Y56⟩⟩
  ·rw [if_neg c16] at H
   have c16b0:(a1 == a2)=false:=beq_eq_false_iff_ne.mpr c16
   have c16b1:(a1 != a2)=true:=bne_iff_ne.mpr c16
   (first | rw [c16b0] |(simp only [jqb,jwb];rw [c16b0]) | skip)
   have H':=am H
   clear H
   go_wp2
   go_meet
   case rel=>exact ⟨_,(decide (a2<0)),(sq),H',⟨Y61⟩,⟨by (with_reducible repeat (first | apply Kd.jW | apply Kd.jY | apply Kd.jU));exact Kd.jH (Kd.jya (p:=⟨gb324,0,none⟩) (Kd.jR HO323.out BK324.out (by decide)) (fun _ hk=>hk.2) (.slice Ao12 t321.length co12)) (fun _ hk=>trivial)⟩,⟨by (with_reducible repeat (first | refine jh ?_ _ | refine jg ?_ | refine jk ?_ _));refine jaa ?_ NB319_324.out _;(with_reducible repeat (first | refine jh ?_ _ | refine jg ?_ | refine jk ?_ _));exact BK319.out⟩,⟨by (with_reducible repeat (first | refine jh ?_ _ | refine jg ?_ | refine jk ?_ _));refine jaa ?_ NB320_324.out _;(with_reducible repeat (first | refine jh ?_ _ | refine jg ?_ | refine jk ?_ _));exact BK320.out⟩,⟨by (with_reducible repeat (first | refine jh ?_ _ | refine jg ?_ | refine jk ?_ _));refine jHa (cs:=#[.slice none 0 0]) ?_ 0 _ rfl;(with_reducible repeat (first | refine jh ?_ _ | refine jg ?_ | refine jk ?_ _));exact BK324.out⟩,⟨Y56⟩⟩
 case rest =>
  clear HC5
  try clear c1
  try clear p2
  try clear c6
  try clear c8
  try clear c9
  try clear c13
  try clear c14
  try clear c16
  try clear c16b0
  try clear c16b1
  try clear hcz15_0
  try clear hcz9_0
  try clear hfz15_0
  try clear hfz9_0
  obtain ⟨kq,x17_4,rfl,HA,HJ4,HO_325000,BK319,BK320,BK324,HB⟩:=hcut
  cases kq with
  | zero=>exact absurd HA.out (by simp [jga.j0])
  | succ kj4 =>
   have H:=HA.out
   clear HA
   simp only [jga.j0] at H
   by_cases c17:x17_4=true
   ·subst c17
    have H1:(some t321)=some r:=by rw [if_pos rfl] at H;exact H
    clear H
    have H:=H1
    clear H1
    obtain rfl:=Option.some.inj H
    have hnb18:=NB324_319.out
    have hnc18:=NB319_324.out
    have hnb19:=NB324_320.out
    have hnc19:=NB320_324.out
    have hcz20_0:=bc0 BK324.out
    have hfz20_0:=je BK324.out 0
    have hnb21:=NB320_319.out
    have hnc21:=NB319_320.out
    have hcz22_0:=bc0 BK320.out
    have hfz22_0:=je BK320.out 0
    go_wp2
    refine bodyPost_ret (results_cell_row rfl _ _ gb320 32 #[.slice Ao12 t321.length co12] (0,0) _ rfl (Y116) Try.underlying32 rfl (by kernel_rfl)) rfl ?_
    exact ⟨_,Y2,by (with_reducible repeat (first | apply Kd.jW | apply Kd.jY | apply Kd.jU));exact Kd.jH (Kd.jya (p:=⟨gb320,0,none⟩) (Kd.jR HO_325000.out BK320.out (by decide)) (fun _ hk=>hk.2) (.slice Ao12 t321.length co12)) (fun _ hk=>trivial),Y56⟩
   ·replace c17:=Bool.eq_false_iff.mpr c17
    subst c17
    have H1:(jga.l0 kj4 a1 a2 a2 t321)=some r:=by rw [if_neg (show ¬ (false=true) by decide)] at H;exact H
    clear H
    have H:=H1
    clear H1
    have H':=am H
    clear H
    go_wp2
    go_loopg [8] kj4 (fun kq v8 w'=>∃ (x8_2:Int) (x325000_2:List (S54)) (u325000:Value),v8=.int .i64 x8_2∧jB (jga.l0 kq a1 a2 x8_2 x325000_2=some r)∧jB (kq≤kj4)∧jB (Kd.R k54 54 w' w.heap.size (fun _=>True) u325000 x325000_2)∧jB (w'.heap[gb319]?=some (.cells #[(.slice A0_0 l0_0.length c0_0)] 32 (0,0)))∧jB (w'.heap[gb320]?=some (.cells #[(.slice none 0 0)] 32 (0,0)))∧jB (w'.heap[gb324]?=some (.cells #[u325000] 32 (0,0)))∧jB (Below w.heap.size w w'))
    case atStart=>exact ⟨(a2),(t321),(.slice Ao12 t321.length co12),(sq),H',⟨Nat.le_refl _⟩,⟨rq HO_325000.out⟩,⟨kq BK319.out⟩,⟨kq BK320.out⟩,⟨kq BK324.out⟩,⟨Y56⟩⟩
    case round =>
     clear H'
     try clear c1
     try clear c2
     try clear p2
     try clear c6
     try clear c8
     try clear c9
     try clear c13
     try clear c14
     try clear c16
     try clear c16b0
     try clear c16b1
     try clear c17
     try clear c18
     try clear c19
     try clear c21
     try clear hcz15_0
     try clear hcz20_0
     try clear hcz22_0
     try clear hcz9_0
     try clear hfz15_0
     try clear hfz20_0
     try clear hfz22_0
     try clear hfz9_0
     try clear p2
     obtain ⟨x8_2,x325000_2,u325000,rfl,HA,HK2,HO_325000,BK319,BK320,BK324,HB⟩:=hrel
     cases gk with
     | zero=>exact absurd HA.out (by simp [jga.l0])
     | succ k2 =>
      have H:=HA.out
      clear HA
      simp only [jga.l0] at H
      by_cases c23:0≤x8_2
      ·rw [if_pos c23] at H
       have c23b0:decide (0≤x8_2)=true:=dzT c23
       clear c23
       by_cases c24:x8_2<(x325000_2.length:Int)
       ·rw [if_pos c24] at H
        have c24b0:decide (x8_2<(x325000_2.length:Int))=true:=dzT c24
        clear c24
        by_cases c25:((jb x325000_2 x8_2).f3)≥0
        ·rw [if_pos c25] at H
         have c25b0:decide (0≤((jb x325000_2 x8_2).f3))=true:=dzT c25
         clear c25
         by_cases c26:((jb x325000_2 x8_2).f3)=a1
         ·rw [if_pos c26] at H
          have c26b0:(((jb x325000_2 x8_2).f3) == a1)=true:=beq_iff_eq.mpr c26
          have c26b1:(((jb x325000_2 x8_2).f3) != a1)=false:=bne_eq_false_iff_eq.mpr c26
          clear c26
          obtain ⟨y328,hy328⟩:∃ y_:List (S54),y_=(x325000_2.set (x8_2:Int).toNat (⟨(jb x325000_2 x8_2).f0,(jb x325000_2 x8_2).f1,(jb x325000_2 x8_2).f2,(-1),(jb x325000_2 x8_2).f4⟩:S54)):=⟨_,rfl⟩
          replace H:(if 0≤a1 then (if a1<(x325000_2.length:Int) then (some (y328.set (a1:Int).toNat (⟨(jb y328 a1).f0,(jb y328 a1).f1,(jb y328 a1).f2,a2,(jb y328 a1).f4⟩:S54))) else (none)) else (none))=some r:=by first |(rw [hy328];with_reducible exact H) |(have H2_:=(Option.bind_some _ _).symm.trans H;rw [hy328];with_reducible exact H2_) |(have H2_:=(Option.bind_some _ _).symm.trans H;with_reducible exact H2_) | with_reducible exact H |(rw [hy328];exact H) | exact H
          have Ny328:=am hy328
          clear hy328
          by_cases c28:0≤a1
          ·rw [if_pos c28] at H
           have c28b0:decide (0≤a1)=true:=dzT c28
           clear c28
           by_cases c29:a1<(x325000_2.length:Int)
           ·rw [if_pos c29] at H
            have c29b0:decide (a1<(x325000_2.length:Int))=true:=dzT c29
            clear c29
            obtain ⟨y329,hy329⟩:∃ y_:List (S54),y_=(y328.set (a1:Int).toNat (⟨(jb y328 a1).f0,(jb y328 a1).f1,(jb y328 a1).f2,a2,(jb y328 a1).f4⟩:S54)):=⟨_,rfl⟩
            replace H:(some y329)=some r:=by first |(rw [hy329];with_reducible exact H) |(have H2_:=(Option.bind_some _ _).symm.trans H;rw [hy329];with_reducible exact H2_) |(have H2_:=(Option.bind_some _ _).symm.trans H;with_reducible exact H2_) | with_reducible exact H |(rw [hy329];exact H) | exact H
            have Ny329:=am hy329
            clear hy329
            obtain rfl:=Option.some.inj H
            have hnb31:=NB324_319.out
            have hnc31:=NB319_324.out
            have hnb32:=NB324_320.out
            have hnc32:=NB320_324.out
            have hcz33_0:=bc0 BK324.out
            have hfz33_0:=je BK324.out 0
            obtain ⟨Ao34,co34,eo34⟩:=Kd.jN HO_325000.out
            subst eo34
            have p325:0≤(x8_2:Int):=ozD (uq)
            have q325:x8_2<(x325000_2.length:Int):=ozD (uq)
            obtain ⟨ad325,e325,hx325_0,hx325_1,hx325_2,hx325_3,hx325_4⟩:=jpb (Kd.jm HO_325000.out).2.2 x8_2 p325 q325
            cases e325
            replace p325:=ezT p325
            replace q325:=ezT q325
            have p327:0≤(x8_2:Int):=ozD (uq)
            have q327:x8_2<(x325000_2.length:Int):=ozD (uq)
            obtain ⟨ad327,e327,hx327_0,hx327_1,hx327_2,hx327_3,hx327_4⟩:=jpb (Kd.jm HO_325000.out).2.2 x8_2 p327 q327
            obtain rfl:ad325=ad327:=(by injection e327)
            replace p327:=ezT p327
            replace q327:=ezT q327
            have p27:0≤(x8_2:Int):=ozD (uq)
            have q27:(x8_2:Int)<((x325000_2.length:Int):Int):=ozD (uq)
            obtain ⟨go27,co27,eo27,gb27,gl27,cl27,HG27⟩:=Kd.R_form HO_325000.out (by omega)
            (first | cases eo27 |(injection eo27 with ea_ en_ ec_;(first | subst ea_ |(injection ea_ with ea_;subst ea_));subst ec_;clear en_))
            have GB27:=am gb27
            have GG27:=am HG27
            clear gb27 gl27 HG27
            (first | simp only [add_plain] at hx325_0 | skip)
            (first | simp only [add_plain] at hx325_1 | skip)
            (first | simp only [add_plain] at hx325_2 | skip)
            (first | simp only [add_plain] at hx325_3 | skip)
            (first | simp only [add_plain] at hx325_4 | skip)
            (first | simp only [add_plain] at hx327_0 | skip)
            (first | simp only [add_plain] at hx327_1 | skip)
            (first | simp only [add_plain] at hx327_2 | skip)
            (first | simp only [add_plain] at hx327_3 | skip)
            (first | simp only [add_plain] at hx327_4 | skip)
            obtain ⟨ce27,hcl27,hM27,hcc27,hfr27⟩:=Kd.jub HO_325000.out z54 (x8_2:Int) p27 q27
            obtain rfl:=jUa hM27
            have hx27_0:wr.cell? ⟨go27,(x8_2:Int).toNat * 5,none⟩=some (.int .i64 ((jb x325000_2 x8_2).f0)):=hcc27 0 _ rfl
            have hx27_1:wr.cell? ⟨go27,(x8_2:Int).toNat * 5+1,none⟩=some (.int .i64 ((jb x325000_2 x8_2).f1)):=hcc27 1 _ rfl
            have hx27_2:wr.cell? ⟨go27,(x8_2:Int).toNat * 5+2,none⟩=some (.int .i64 ((jb x325000_2 x8_2).f2)):=hcc27 2 _ rfl
            have hx27_3:wr.cell? ⟨go27,(x8_2:Int).toNat * 5+3,none⟩=some (.int .i64 ((jb x325000_2 x8_2).f3)):=hcc27 3 _ rfl
            have hx27_4:wr.cell? ⟨go27,(x8_2:Int).toNat * 5+4,none⟩=some (.bool ((jb x325000_2 x8_2).f4)):=hcc27 4 _ rfl
            have hf27_0:wr.frozen? ⟨go27,(x8_2:Int).toNat * 5,none⟩=false:=hfr27 0
            have hf27_1:wr.frozen? ⟨go27,(x8_2:Int).toNat * 5+1,none⟩=false:=hfr27 1
            have hf27_2:wr.frozen? ⟨go27,(x8_2:Int).toNat * 5+2,none⟩=false:=hfr27 2
            have hf27_3:wr.frozen? ⟨go27,(x8_2:Int).toNat * 5+3,none⟩=false:=hfr27 3
            have hf27_4:wr.frozen? ⟨go27,(x8_2:Int).toNat * 5+4,none⟩=false:=hfr27 4
            clear hcl27 hcc27 hfr27 hM27
            replace p27:=ezT p27
            replace q27:=ezT q27
            have HX35:=am (show Kd.R k54 54 wr w.heap.size (fun _=>True) (.slice (some ⟨go27,0,none⟩) x325000_2.length co34) x325000_2 from (rq HO_325000.out))
            obtain ⟨ce35,hcl35,hM35,hcc35,hfr35⟩:=Kd.jub HX35.out z54 (x8_2:Int) (ozD (uq)) (by have h_:(x8_2:Int)<((x325000_2.length:Int):Int):=ozD (uq);first | exact h_ |(have e_:=(Kd.jm HO_325000.out).1;omega) | simpa using h_)
            obtain rfl:=jUa hM35
            have HP35:=Kd.R_seg HX35.out (x8_2:Int) (ozD (uq)) (by have h_:(x8_2:Int)<((x325000_2.length:Int):Int):=ozD (uq);first | exact h_ |(have e_:=(Kd.jm HO_325000.out).1;omega) | simpa using h_) (seg:=[.int .i64 (-1)]) (j:=3) hcl35 hcc35 (show 4≤5 from by decide) (x':=(⟨(jb x325000_2 x8_2).f0,(jb x325000_2 x8_2).f1,(jb x325000_2 x8_2).f2,(-1),(jb x325000_2 x8_2).f4⟩:S54)) (jSb _ _ _ (⟨(jb x325000_2 x8_2).f0,(jb x325000_2 x8_2).f1,(jb x325000_2 x8_2).f2,(-1),(jb x325000_2 x8_2).f4⟩:S54) ) (fun _ hk=>hk)
            have hx35_3:=hcc35 3 _ rfl
            (try simp only [show (k54).sz=5 from rfl,Nat.mul_one,Nat.add_zero] at hx35_3)
            have hf35_3:=hfr35 3
            (try simp only [show (k54).sz=5 from rfl,Nat.mul_one,Nat.add_zero] at hf35_3)
            clear hcl35 hcc35 hfr35 hM35
            go_wp2_with (first |((with_reducible refine jYb (t:=3) (p:=45) rfl ?_);refine jQb (t:=3) (p:=45) (v:=?vo_w36) (w1:=(wr.setCell ⟨go27,(x8_2:Int).toNat * 5+3,none⟩ (.int .i64 (-1)))) ?hg ?ho ?hn ?hr ?_;(case ho=>rfl);(case hg=>rfl);(case hn=>rfl);(case hr=>exact Y3);intro w36 hw;have hg:wr.grownBy w36 (some go27):=(by rw [hw];exact HP35.2);have hp_:Kd.R k54 54 w36 w.heap.size (fun _=>True) (.slice (some ⟨go27,0,none⟩) x325000_2.length co34) y328:=(by rw [hw,Ny328.out];exact HP35.1);clear HP35;replace BK319:=am (jEa (g:=gb319) (o:=.cells #[.slice A0_0 l0_0.length c0_0] 32 (0,0)) (kq BK319.out) hg (Kd.R_ne HO_325000.out BK319.out (by decide)));replace BK320:=am (jEa (g:=gb320) (o:=.cells #[.slice none 0 0] 32 (0,0)) (kq BK320.out) hg (Kd.R_ne HO_325000.out BK320.out (by decide)));replace BK324:=am (jEa (g:=gb324) (o:=.cells #[.slice (some ⟨go27,0,none⟩) x325000_2.length co34] 32 (0,0)) (kq BK324.out) hg (Kd.R_ne HO_325000.out BK324.out (by decide)));replace HO_325000:=am (hp_);replace HB:=am ((by rw [hw];exact jq (HB.out) GB27.out:Below w.heap.size w w36));clear hg hw hp_;have hcz37_0:=bc0 BK324.out;have hfz37_0:=je BK324.out 0;have p30:0≤(a1:Int):=ozD (uq);have q30:(a1:Int)<((x325000_2.length:Int):Int):=ozD (uq);obtain ⟨ce30,hcl30,hM30,hcc30,hfr30⟩:=Kd.jub HO_325000.out z54 (a1:Int) p30 q30;obtain rfl:=jUa hM30;have hx30_0:w36.cell? ⟨go27,(a1:Int).toNat * 5,none⟩=some (.int .i64 ((jb y328 a1).f0)):=hcc30 0 _ rfl;have hx30_1:w36.cell? ⟨go27,(a1:Int).toNat * 5+1,none⟩=some (.int .i64 ((jb y328 a1).f1)):=hcc30 1 _ rfl;have hx30_2:w36.cell? ⟨go27,(a1:Int).toNat * 5+2,none⟩=some (.int .i64 ((jb y328 a1).f2)):=hcc30 2 _ rfl;have hx30_3:w36.cell? ⟨go27,(a1:Int).toNat * 5+3,none⟩=some (.int .i64 ((jb y328 a1).f3)):=hcc30 3 _ rfl;have hx30_4:w36.cell? ⟨go27,(a1:Int).toNat * 5+4,none⟩=some (.bool ((jb y328 a1).f4)):=hcc30 4 _ rfl;have hf30_0:w36.frozen? ⟨go27,(a1:Int).toNat * 5,none⟩=false:=hfr30 0;have hf30_1:w36.frozen? ⟨go27,(a1:Int).toNat * 5+1,none⟩=false:=hfr30 1;have hf30_2:w36.frozen? ⟨go27,(a1:Int).toNat * 5+2,none⟩=false:=hfr30 2;have hf30_3:w36.frozen? ⟨go27,(a1:Int).toNat * 5+3,none⟩=false:=hfr30 3;have hf30_4:w36.frozen? ⟨go27,(a1:Int).toNat * 5+4,none⟩=false:=hfr30 4;clear hcl30 hcc30 hfr30 hM30;replace p30:=ezT p30;replace q30:=ezT q30;have HX38:=am (show Kd.R k54 54 w36 w.heap.size (fun _=>True) (.slice (some ⟨go27,0,none⟩) x325000_2.length co34) y328 from (rq HO_325000.out));obtain ⟨ce38,hcl38,hM38,hcc38,hfr38⟩:=Kd.jub HX38.out z54 (a1:Int) (ozD (uq)) (by have h_:(a1:Int)<((x325000_2.length:Int):Int):=ozD (uq);first | exact h_ |(have e_:=(Kd.jm HO_325000.out).1;omega) | simpa using h_);obtain rfl:=jUa hM38;have HP38:=Kd.R_seg HX38.out (a1:Int) (ozD (uq)) (by have h_:(a1:Int)<((x325000_2.length:Int):Int):=ozD (uq);first | exact h_ |(have e_:=(Kd.jm HO_325000.out).1;omega) | simpa using h_) (seg:=[.int .i64 a2]) (j:=3) hcl38 hcc38 (show 4≤5 from by decide) (x':=(⟨(jb y328 a1).f0,(jb y328 a1).f1,(jb y328 a1).f2,a2,(jb y328 a1).f4⟩:S54)) (jSb _ _ _ (⟨(jb y328 a1).f0,(jb y328 a1).f1,(jb y328 a1).f2,a2,(jb y328 a1).f4⟩:S54) ) (fun _ hk=>hk);have hx38_3:=hcc38 3 _ rfl;(try simp only [show (k54).sz=5 from rfl,Nat.mul_one,Nat.add_zero] at hx38_3);have hf38_3:=hfr38 3;(try simp only [show (k54).sz=5 from rfl,Nat.mul_one,Nat.add_zero] at hf38_3);clear hcl38 hcc38 hfr38 hM38) |((with_reducible refine jYb (t:=3) (p:=51) rfl ?_);refine jQb (t:=3) (p:=51) (v:=?vo_w39) (w1:=(w36.setCell ⟨go27,(a1:Int).toNat * 5+3,none⟩ (.int .i64 a2))) ?hg ?ho ?hn ?hr ?_;(case ho=>rfl);(case hg=>rfl);(case hn=>rfl);(case hr=>exact Y3);intro w39 hw;have hg:w36.grownBy w39 (some go27):=(by rw [hw];exact HP38.2);have hp_:Kd.R k54 54 w39 w.heap.size (fun _=>True) (.slice (some ⟨go27,0,none⟩) x325000_2.length co34) y329:=(by rw [hw,Ny329.out];exact HP38.1);clear HP38;replace BK319:=am (jEa (g:=gb319) (o:=.cells #[.slice A0_0 l0_0.length c0_0] 32 (0,0)) (kq BK319.out) hg (Kd.R_ne HO_325000.out BK319.out (by decide)));replace BK320:=am (jEa (g:=gb320) (o:=.cells #[.slice none 0 0] 32 (0,0)) (kq BK320.out) hg (Kd.R_ne HO_325000.out BK320.out (by decide)));replace BK324:=am (jEa (g:=gb324) (o:=.cells #[.slice (some ⟨go27,0,none⟩) x325000_2.length co34] 32 (0,0)) (kq BK324.out) hg (Kd.R_ne HO_325000.out BK324.out (by decide)));replace HO_325000:=am (hp_);replace HB:=am ((by rw [hw];exact jq (HB.out) GB27.out:Below w.heap.size w w39));clear hg hw hp_;have hcz40_0:=bc0 BK324.out;have hfz40_0:=je BK324.out 0;have hnb41:=NB320_319.out;have hnc41:=NB319_320.out;have hcz42_0:=bc0 BK320.out;have hfz42_0:=je BK320.out 0))
            refine bodyPost_ret (results_cell_row rfl _ _ gb320 32 #[.slice (some ⟨go27,0,none⟩) x325000_2.length co34] (0,0) _ rfl (Y116) Try.underlying32 rfl (by kernel_rfl)) rfl ?_
            exact ⟨_,Y2,by (with_reducible repeat (first | apply Kd.jW | apply Kd.jY | apply Kd.jU));exact Kd.jH (Kd.jya (p:=⟨gb320,0,none⟩) (Kd.jR HO_325000.out BK320.out (by decide)) (fun _ hk=>hk.2) (.slice (some ⟨go27,0,none⟩) x325000_2.length co34)) (fun _ hk=>trivial),Y56⟩
           ·rw [if_neg c29] at H
            exact absurd H (by simp)
          ·rw [if_neg c28] at H
           exact absurd H (by simp)
         ·rw [if_neg c26] at H
          have c26b0:(((jb x325000_2 x8_2).f3) == a1)=false:=beq_eq_false_iff_ne.mpr c26
          have c26b1:(((jb x325000_2 x8_2).f3) != a1)=true:=bne_iff_ne.mpr c26
          have H':=am H
          clear H
          have hnb43:=NB324_319.out
          have hnc43:=NB319_324.out
          have hnb44:=NB324_320.out
          have hnc44:=NB320_324.out
          have hcz45_0:=bc0 BK324.out
          have hfz45_0:=je BK324.out 0
          obtain ⟨Ao46,co46,eo46⟩:=Kd.jN HO_325000.out
          subst eo46
          have p325:0≤(x8_2:Int):=ozD (uq)
          have q325:x8_2<(x325000_2.length:Int):=ozD (uq)
          obtain ⟨ad325,e325,hx325_0,hx325_1,hx325_2,hx325_3,hx325_4⟩:=jpb (Kd.jm HO_325000.out).2.2 x8_2 p325 q325
          cases e325
          replace p325:=ezT p325
          replace q325:=ezT q325
          have p327:0≤(x8_2:Int):=ozD (uq)
          have q327:x8_2<(x325000_2.length:Int):=ozD (uq)
          obtain ⟨ad327,e327,hx327_0,hx327_1,hx327_2,hx327_3,hx327_4⟩:=jpb (Kd.jm HO_325000.out).2.2 x8_2 p327 q327
          obtain rfl:ad325=ad327:=(by injection e327)
          replace p327:=ezT p327
          replace q327:=ezT q327
          have p330:0≤(x8_2:Int):=ozD (uq)
          have q330:x8_2<(x325000_2.length:Int):=ozD (uq)
          obtain ⟨ad330,e330,hx330_0,hx330_1,hx330_2,hx330_3,hx330_4⟩:=jpb (Kd.jm HO_325000.out).2.2 x8_2 p330 q330
          obtain rfl:ad325=ad330:=(by injection e330)
          replace p330:=ezT p330
          replace q330:=ezT q330
          go_wp2
          go_roundg k2
          case measure=>have:=HJ4.out;have:=HK2.out;omega
          case rel=>exact ⟨((jb x325000_2 x8_2).f3),(x325000_2),(.slice (some ad325) x325000_2.length co46),(sq),H',⟨by have:=HJ4.out;have:=HK2.out;omega⟩,⟨rq HO_325000.out⟩,⟨kq BK319.out⟩,⟨kq BK320.out⟩,⟨kq BK324.out⟩,⟨Y56⟩⟩
        ·rw [if_neg c25] at H
         have c25b0:decide (0≤((jb x325000_2 x8_2).f3))=false:=dzF c25
         clear c25
         by_cases c47:0≤a1
         ·rw [if_pos c47] at H
          have c47b0:decide (0≤a1)=true:=dzT c47
          clear c47
          by_cases c48:a1<(x325000_2.length:Int)
          ·rw [if_pos c48] at H
           have c48b0:decide (a1<(x325000_2.length:Int))=true:=dzT c48
           clear c48
           obtain ⟨y326,hy326⟩:∃ y_:List (S54),y_=(x325000_2.set (a1:Int).toNat (⟨(jb x325000_2 a1).f0,(jb x325000_2 a1).f1,(jb x325000_2 a1).f2,a2,(jb x325000_2 a1).f4⟩:S54)):=⟨_,rfl⟩
           replace H:(some y326)=some r:=by first |(rw [hy326];with_reducible exact H) |(have H2_:=(Option.bind_some _ _).symm.trans H;rw [hy326];with_reducible exact H2_) |(have H2_:=(Option.bind_some _ _).symm.trans H;with_reducible exact H2_) | with_reducible exact H |(rw [hy326];exact H) | exact H
           have Ny326:=am hy326
           clear hy326
           obtain rfl:=Option.some.inj H
           have hnb50:=NB324_319.out
           have hnc50:=NB319_324.out
           have hnb51:=NB324_320.out
           have hnc51:=NB320_324.out
           have hcz52_0:=bc0 BK324.out
           have hfz52_0:=je BK324.out 0
           obtain ⟨Ao53,co53,eo53⟩:=Kd.jN HO_325000.out
           subst eo53
           have p325:0≤(x8_2:Int):=ozD (uq)
           have q325:x8_2<(x325000_2.length:Int):=ozD (uq)
           obtain ⟨ad325,e325,hx325_0,hx325_1,hx325_2,hx325_3,hx325_4⟩:=jpb (Kd.jm HO_325000.out).2.2 x8_2 p325 q325
           cases e325
           replace p325:=ezT p325
           replace q325:=ezT q325
           have p49:0≤(a1:Int):=ozD (uq)
           have q49:(a1:Int)<((x325000_2.length:Int):Int):=ozD (uq)
           obtain ⟨go49,co49,eo49,gb49,gl49,cl49,HG49⟩:=Kd.R_form HO_325000.out (by omega)
           (first | cases eo49 |(injection eo49 with ea_ en_ ec_;(first | subst ea_ |(injection ea_ with ea_;subst ea_));subst ec_;clear en_))
           have GB49:=am gb49
           have GG49:=am HG49
           clear gb49 gl49 HG49
           (first | simp only [add_plain] at hx325_0 | skip)
           (first | simp only [add_plain] at hx325_1 | skip)
           (first | simp only [add_plain] at hx325_2 | skip)
           (first | simp only [add_plain] at hx325_3 | skip)
           (first | simp only [add_plain] at hx325_4 | skip)
           (first | simp only [add_plain] at hx327_0 | skip)
           (first | simp only [add_plain] at hx327_1 | skip)
           (first | simp only [add_plain] at hx327_2 | skip)
           (first | simp only [add_plain] at hx327_3 | skip)
           (first | simp only [add_plain] at hx327_4 | skip)
           (first | simp only [add_plain] at hx330_0 | skip)
           (first | simp only [add_plain] at hx330_1 | skip)
           (first | simp only [add_plain] at hx330_2 | skip)
           (first | simp only [add_plain] at hx330_3 | skip)
           (first | simp only [add_plain] at hx330_4 | skip)
           obtain ⟨ce49,hcl49,hM49,hcc49,hfr49⟩:=Kd.jub HO_325000.out z54 (a1:Int) p49 q49
           obtain rfl:=jUa hM49
           have hx49_0:wr.cell? ⟨go49,(a1:Int).toNat * 5,none⟩=some (.int .i64 ((jb x325000_2 a1).f0)):=hcc49 0 _ rfl
           have hx49_1:wr.cell? ⟨go49,(a1:Int).toNat * 5+1,none⟩=some (.int .i64 ((jb x325000_2 a1).f1)):=hcc49 1 _ rfl
           have hx49_2:wr.cell? ⟨go49,(a1:Int).toNat * 5+2,none⟩=some (.int .i64 ((jb x325000_2 a1).f2)):=hcc49 2 _ rfl
           have hx49_3:wr.cell? ⟨go49,(a1:Int).toNat * 5+3,none⟩=some (.int .i64 ((jb x325000_2 a1).f3)):=hcc49 3 _ rfl
           have hx49_4:wr.cell? ⟨go49,(a1:Int).toNat * 5+4,none⟩=some (.bool ((jb x325000_2 a1).f4)):=hcc49 4 _ rfl
           have hf49_0:wr.frozen? ⟨go49,(a1:Int).toNat * 5,none⟩=false:=hfr49 0
           have hf49_1:wr.frozen? ⟨go49,(a1:Int).toNat * 5+1,none⟩=false:=hfr49 1
           have hf49_2:wr.frozen? ⟨go49,(a1:Int).toNat * 5+2,none⟩=false:=hfr49 2
           have hf49_3:wr.frozen? ⟨go49,(a1:Int).toNat * 5+3,none⟩=false:=hfr49 3
           have hf49_4:wr.frozen? ⟨go49,(a1:Int).toNat * 5+4,none⟩=false:=hfr49 4
           clear hcl49 hcc49 hfr49 hM49
           replace p49:=ezT p49
           replace q49:=ezT q49
           have HX54:=am (show Kd.R k54 54 wr w.heap.size (fun _=>True) (.slice (some ⟨go49,0,none⟩) x325000_2.length co53) x325000_2 from (rq HO_325000.out))
           obtain ⟨ce54,hcl54,hM54,hcc54,hfr54⟩:=Kd.jub HX54.out z54 (a1:Int) (ozD (uq)) (by have h_:(a1:Int)<((x325000_2.length:Int):Int):=ozD (uq);first | exact h_ |(have e_:=(Kd.jm HO_325000.out).1;omega) | simpa using h_)
           obtain rfl:=jUa hM54
           have HP54:=Kd.R_seg HX54.out (a1:Int) (ozD (uq)) (by have h_:(a1:Int)<((x325000_2.length:Int):Int):=ozD (uq);first | exact h_ |(have e_:=(Kd.jm HO_325000.out).1;omega) | simpa using h_) (seg:=[.int .i64 a2]) (j:=3) hcl54 hcc54 (show 4≤5 from by decide) (x':=(⟨(jb x325000_2 a1).f0,(jb x325000_2 a1).f1,(jb x325000_2 a1).f2,a2,(jb x325000_2 a1).f4⟩:S54)) (jSb _ _ _ (⟨(jb x325000_2 a1).f0,(jb x325000_2 a1).f1,(jb x325000_2 a1).f2,a2,(jb x325000_2 a1).f4⟩:S54) ) (fun _ hk=>hk)
           have hx54_3:=hcc54 3 _ rfl
           (try simp only [show (k54).sz=5 from rfl,Nat.mul_one,Nat.add_zero] at hx54_3)
           have hf54_3:=hfr54 3
           (try simp only [show (k54).sz=5 from rfl,Nat.mul_one,Nat.add_zero] at hf54_3)
           clear hcl54 hcc54 hfr54 hM54
           go_wp2_with (first |((with_reducible refine jYb (t:=3) (p:=51) rfl ?_);refine jQb (t:=3) (p:=51) (v:=?vo_w55) (w1:=(wr.setCell ⟨go49,(a1:Int).toNat * 5+3,none⟩ (.int .i64 a2))) ?hg ?ho ?hn ?hr ?_;(case ho=>rfl);(case hg=>rfl);(case hn=>rfl);(case hr=>exact Y3);intro w55 hw;have hg:wr.grownBy w55 (some go49):=(by rw [hw];exact HP54.2);have hp_:Kd.R k54 54 w55 w.heap.size (fun _=>True) (.slice (some ⟨go49,0,none⟩) x325000_2.length co53) y326:=(by rw [hw,Ny326.out];exact HP54.1);clear HP54;replace BK319:=am (jEa (g:=gb319) (o:=.cells #[.slice A0_0 l0_0.length c0_0] 32 (0,0)) (kq BK319.out) hg (Kd.R_ne HO_325000.out BK319.out (by decide)));replace BK320:=am (jEa (g:=gb320) (o:=.cells #[.slice none 0 0] 32 (0,0)) (kq BK320.out) hg (Kd.R_ne HO_325000.out BK320.out (by decide)));replace BK324:=am (jEa (g:=gb324) (o:=.cells #[.slice (some ⟨go49,0,none⟩) x325000_2.length co53] 32 (0,0)) (kq BK324.out) hg (Kd.R_ne HO_325000.out BK324.out (by decide)));replace HO_325000:=am (hp_);replace HB:=am ((by rw [hw];exact jq (HB.out) GB49.out:Below w.heap.size w w55));clear hg hw hp_;have hcz56_0:=bc0 BK324.out;have hfz56_0:=je BK324.out 0;have hnb57:=NB320_319.out;have hnc57:=NB319_320.out;have hcz58_0:=bc0 BK320.out;have hfz58_0:=je BK320.out 0))
           refine bodyPost_ret (results_cell_row rfl _ _ gb320 32 #[.slice (some ⟨go49,0,none⟩) x325000_2.length co53] (0,0) _ rfl (Y116) Try.underlying32 rfl (by kernel_rfl)) rfl ?_
           exact ⟨_,Y2,by (with_reducible repeat (first | apply Kd.jW | apply Kd.jY | apply Kd.jU));exact Kd.jH (Kd.jya (p:=⟨gb320,0,none⟩) (Kd.jR HO_325000.out BK320.out (by decide)) (fun _ hk=>hk.2) (.slice (some ⟨go49,0,none⟩) x325000_2.length co53)) (fun _ hk=>trivial),Y56⟩
          ·rw [if_neg c48] at H
           exact absurd H (by simp)
         ·rw [if_neg c47] at H
          exact absurd H (by simp)
       ·rw [if_neg c24] at H
        exact absurd H (by simp)
      ·rw [if_neg c23] at H
       exact absurd H (by simp)
end Go.Proofs.Ytecdfgejmbpclaa.P
end
