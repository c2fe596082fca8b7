/- One part of the proofs on this program: functions of the program as plain functions, that the code comes to them, and facts on them. -/
import Derived.Test.YtecdfgejmbpclaaYAll1
import Derived.Test.YtecdfgejmbpclaaYWAuto
section
namespace Go.Proofs.Ytecdfgejmbpclaa.P
open Go.RowKit Go.Proofs.YtecdfgejmbpclaaW.PrintWords Go.Proofs.YtecdfgejmbpclaaW.PrintLast Go.Proofs.YtecdfgejmbpclaaW.PrintMore
attribute [local go_sem] jqa joa jwa jva jea jda jpa jna jA
set_option linter.unusedVariables false
set_option linter.unusedSimpArgs false
def jc (w0 W : World) (g : Nat) (f0 : List Int) (f1 : Int) : Prop := ∃ A0 c0, W.heap[g]? = some (.cells #[.slice A0 f0.length c0, .int .i64 f1] 106 (0, 0)) ∧ w0.heap.size ≤ g ∧ Kd.C (Kd.int .u8) w0 A0 f0.length f0
theorem jc.grown {w0 W : World} {g : Nat} {f0 : List Int} {f1 : Int} {W1 : World} {row : Option Nat} (h : jc w0 W g f0 f1) (hw : W.grownBy W1 row) (hne : some g ≠ row) : jc w0 W1 g f0 f1 := by
 obtain ⟨A0,c0,hb,hg,hr0⟩:=h
 exact ⟨A0,c0,jCa hb hw hne,hg,hr0⟩
theorem jc.kept {w0 W : World} {g : Nat} {f0 : List Int} {f1 : Int} {W1 : World} {S : Nat → Prop} (h : jc w0 W g f0 f1) (hk : Kept W W1 S) (hne : ¬ S g) : jc w0 W1 g f0 f1 := by
 obtain ⟨A0,c0,hb,hg,hr0⟩:=h
 exact ⟨A0,c0,blk_kept hb hk hne,hg,hr0⟩
theorem jc.below {w0 W : World} {g : Nat} {f0 : List Int} {f1 : Int} {W1 : World} (h : jc w0 W g f0 f1) (hw : Below W.heap.size W W1) : jc w0 W1 g f0 f1 := h.grown (grown_of_below hw none) (by simp)
theorem jc.alloc {w0 W : World} {g : Nat} {f0 : List Int} {f1 : Int} (h : jc w0 W g f0 f1) (o : Obj) : jc w0 (W.alloc o) g f0 f1 := h.below (jw (Below.refl _ _) o)
theorem jc.drewN {w0 W : World} {g : Nat} {f0 : List Int} {f1 : Int} (h : jc w0 W g f0 f1) (m : Nat) : jc w0 (W.drewN m) g f0 f1 := h
theorem jc.drew {w0 W : World} {g : Nat} {f0 : List Int} {f1 : Int} (h : jc w0 W g f0 f1) : jc w0 W.drew g f0 f1 := h
theorem jc.at_ {w0 W : World} {g : Nat} {f0 : List Int} {f1 : Int} {w' : World} {m : Nat} (hq : W.drewN m = w') (h : jc w0 W g f0 f1) : jc w0 w' g f0 f1 := by subst hq; exact jc.drewN h m
theorem jc.apart {w0 W : World} {g : Nat} {f0 : List Int} {f1 : Int} {α : Type} {d : Kd α} {e : Nat} {base : Nat} {ok : Nat → Prop} {v : Value} {xs : List α} (h : jc w0 W g f0 f1) (ho : d.R e W base ok v xs) (ht : ∀ q, q ∈ e :: d.E → q ≠ 106) : d.R e W base (fun k => ok k ∧ k ≠ g) v xs := by
 obtain ⟨A0,c0,hb,hg,hr0⟩:=h
 exact Kd.jN ho hb ht
theorem jc.own_ne {w0 W : World} {g : Nat} {f0 : List Int} {f1 : Int} {α : Type} {d : Kd α} {e : Nat} {base : Nat} {ok : Nat → Prop} {v : Value} {xs : List α} (h : jc w0 W g f0 f1) (ho : d.R e W base ok v xs) (ht : e ≠ 106) : some g ≠ v.ownBlock := by
 obtain ⟨A0,c0,hb,hg,hr0⟩:=h
 exact Kd.R_ne ho hb ht
theorem jc.lt {w0 W : World} {g : Nat} {f0 : List Int} {f1 : Int} (h : jc w0 W g f0 f1) : g < W.heap.size := by
 obtain ⟨A0,c0,hb,hg,hr0⟩:=h
 exact jca hb
theorem jc.ge {w0 W : World} {g : Nat} {f0 : List Int} {f1 : Int} (h : jc w0 W g f0 f1) : w0.heap.size ≤ g := by
 obtain ⟨A0,c0,hb,hg,hr0⟩:=h
 exact hg
theorem jc.ne_blk {w0 W : World} {g : Nat} {f0 : List Int} {f1 : Int} {a : Nat} {cs : Array Value} {t : TypeId} {fr : Nat × Nat} (h : jc w0 W g f0 f1) (hb2 : W.heap[a]? = some (.cells cs t fr)) (ht : t ≠ 106) : g ≠ a := by
 obtain ⟨A0,c0,hb,hg,hr0⟩:=h
 rintro rfl
 rw [hb] at hb2
 injection hb2 with hb2
 injection hb2 with _ ht2
 exact ht ht2.symm
theorem jc.far {w0 W : World} {g : Nat} {f0 : List Int} {f1 : Int} {p : Addr} (h : jc w0 W g f0 f1) (hne : g ≠ p.block) (u : Value) : jc w0 (W.setCell p u) g f0 f1 := by
 obtain ⟨A0,c0,hb,hg,hr0⟩:=h
 exact ⟨A0,c0,jO hb hne u,hg,hr0⟩
theorem cellS106_0 {W : World} {g : Nat} {A0 : Option Addr} {c0 : Nat} {f0 : List Int} {f1 : Int} (h : W.heap[g]? = some (.cells #[.slice A0 f0.length c0, .int .i64 f1] 106 (0, 0))) : W.cell? ⟨g, 0, none⟩ = some (.slice A0 f0.length c0) := (jG h 0).trans rfl
theorem cellS106_1 {W : World} {g : Nat} {A0 : Option Addr} {c0 : Nat} {f0 : List Int} {f1 : Int} (h : W.heap[g]? = some (.cells #[.slice A0 f0.length c0, .int .i64 f1] 106 (0, 0))) : W.cell? ⟨g, 1, none⟩ = some (.int .i64 f1) := (jG h 1).trans rfl
theorem jc.jeb {w0 W : World} {g : Nat} {f0 : List Int} {f1 : Int} (h : jc w0 W g f0 f1) (x : Int) : jc w0 (W.setCell ⟨g, 1, none⟩ (.int .i64 x)) g f0 x := by
 obtain ⟨A0,c0,hb,hg,hr0⟩:=h
 exact ⟨A0,c0,by simpa using blk_set hb 1 (.int .i64 x),hg,hr0⟩
def jl.j0 : Nat → Int → Bool → List Int → Int → Option (Int × Int)
 | 0,_,_,_,_=>none
 | k+1,x1,x24,x1000,x1001=>if x24=true then (some (0,x1001)) else (if (wrap64 (x1001 - 1))<(x1000.length:Int) then (if 0≤(wrap64 (x1001 - 1)) then (if x1=0 then (none) else (some (Int.tmod (wrap64 (rd x1000 (wrap64 (x1001 - 1)))) x1,x1001))) else (none)) else (if (x1000.length:Int)=0 then (none) else (if 0≤(Int.tmod (wrap64 (x1001 - 1)) (x1000.length:Int)) then (if (Int.tmod (wrap64 (x1001 - 1)) (x1000.length:Int))<(x1000.length:Int) then (if 0≤(Int.tmod (wrap64 ((wrap64 ((wrap64 (x1001 - 1)) * 7))+3)) (x1000.length:Int)) then (if (Int.tmod (wrap64 ((wrap64 ((wrap64 (x1001 - 1)) * 7))+3)) (x1000.length:Int))<(x1000.length:Int) then (if x1=0 then (none) else (some (Int.tmod (Go.bits .xor .i64 (wrap64 ((wrap64 ((wrap64 ((wrap64 ((wrap64 (rd x1000 (Int.tmod (wrap64 (x1001 - 1)) (x1000.length:Int)))) * 131))+(wrap64 ((wrap64 (rd x1000 (Int.tmod (wrap64 ((wrap64 ((wrap64 (x1001 - 1)) * 7))+3)) (x1000.length:Int)))) * 1117))))+(wrap64 ((wrap64 (x1001 - 1)) * 29))))+(wrap64 ((wrap64 (Int.tdiv (wrap64 (x1001 - 1)) (x1000.length:Int))) * 53)))) (wrap64 (Int.tdiv (wrap64 ((wrap64 ((wrap64 ((wrap64 ((wrap64 (rd x1000 (Int.tmod (wrap64 (x1001 - 1)) (x1000.length:Int)))) * 131))+(wrap64 ((wrap64 (rd x1000 (Int.tmod (wrap64 ((wrap64 ((wrap64 (x1001 - 1)) * 7))+3)) (x1000.length:Int)))) * 1117))))+(wrap64 ((wrap64 (x1001 - 1)) * 29))))+(wrap64 ((wrap64 (Int.tdiv (wrap64 (x1001 - 1)) (x1000.length:Int))) * 53)))) 64))) x1,x1001))) else (none)) else (none)) else (none)) else (none))))
def jl.f (k : Nat) (s0_0 : List Int) (s0_1 : Int) (a1 : Int) : Option (Int × Int) := if a1 < 1 then (jl.j0 k a1 true s0_0 (wrap64 (s0_1 + 1))) else (jl.j0 k a1 ((s0_0.length : Int) == 0) s0_0 (wrap64 (s0_1 + 1)))
set_option maxHeartbeats 8000000 in
set_option maxRecDepth 100000 in
theorem jl.calls (k : Nat) (g : Nat) (s0_0 : List Int) (s0_1 : Int) (a1 : Int) (r1 : Int) (r2 : Int) (w0 w : World) (hI : jc w0 w g s0_0 s0_1) (hB : Below w0.heap.size w0 w) (h : jl.f k s0_0 s0_1 a1 = some (r1, r2)) :
  Calls Try.prog 88 #[.pointer (some ⟨g,0,none⟩), .int .i64 a1] w fun e w'=>e=.returned (.int .i64 r1)∧jc w0 w' g s0_0 r2∧Below w0.heap.size w0 w'∧jd w w' g none:=by
 have HI0:=am hI
 have HK:=am (jd.refl w g none)
 have HL:=am hB.size
 clear hI
 have HW0:=am hB.size
 have HB:=am hB
 clear hB
 have H:(if a1<1 then (jl.j0 k a1 true s0_0 (wrap64 (s0_1+1))) else (jl.j0 k a1 ((s0_0.length:Int) == 0) s0_0 (wrap64 (s0_1+1))))=some (r1,r2):=h
 clear h
 have HC3:=am H
 clear H
 obtain ⟨ASz4_0,cSz4_0,HGz4,hgz4,HSz4_0⟩:=HI0.out
 have hcz4_0:=cellS106_0 HGz4
 have hcz4_1:=cellS106_1 HGz4
 have hfz4_1:=jb HGz4 1
 clear HGz4 hgz4
 go_enter Try.func88,Try.ntmps88
 go_upto_region 2 with (fail)
 repeat (go_quiet (fail);go_upto_region 2 with (fail))
 go_cut [24] (fun v24 wc=>∃ (kq:Nat) (x24_2:Bool),v24=.bool x24_2∧jC (jl.j0 kq a1 x24_2 s0_0 (wrap64 (s0_1+1))=some (r1,r2))∧jC (kq≤k)∧jC (jc w0 wc g s0_0 (wrap64 (s0_1+1)))∧jC (jd w wc g none)∧jC (Below w0.heap.size w0 wc))
 case first =>
  have H:=HC3.out
  clear HC3
  by_cases c5:a1<1
  ·rw [if_pos c5] at H
   have c5b0:decide (a1<1)=true:=dzT c5
   clear c5
   (first | rw [c5b0] |(simp only [job,jsb];rw [c5b0]) | skip)
   have H':=am H
   clear H
   go_wp2
   repeat (go_quiet (fail);try go_wp2)
   go_meet
   case rel=>exact ⟨_,(true),(sq),H',⟨Y60⟩,⟨Y12⟩,⟨Y13⟩,⟨Y14⟩⟩
  ·rw [if_neg c5] at H
   have c5b0:decide (a1<1)=false:=dzF c5
   clear c5
   (first | rw [c5b0] |(simp only [job,jsb];rw [c5b0]) | skip)
   have H':=am H
   clear H
   obtain ⟨ASz6_0,cSz6_0,HGz6,hgz6,HSz6_0⟩:=HI0.out
   have hcz6_0:=cellS106_0 HGz6
   have hcz6_1:=cellS106_1 HGz6
   have hfz6_1:=jb HGz6 1
   clear HGz6 hgz6
   go_wp2
   repeat (go_quiet (fail);try go_wp2)
   go_meet
   case rel=>exact ⟨_,(((s0_0.length:Int) == 0)),(sq),H',⟨Y60⟩,⟨Y12⟩,⟨Y13⟩,⟨Y14⟩⟩
 case rest =>
  clear HC3
  try clear p2
  try clear c5
  try clear c5b0
  try clear p6
  try clear hcz4_0
  try clear hcz4_1
  try clear hcz6_0
  try clear hcz6_1
  try clear hfz4_1
  try clear hfz6_1
  obtain ⟨kq,x24_2,rfl,HA,HJ2,HI0,HK,HB⟩:=hcut
  cases kq with
  | zero=>exact absurd HA.out (by simp [jl.j0])
  | succ kj2 =>
   have H:=HA.out
   clear HA
   simp only [jl.j0] at H
   by_cases c7:x24_2=true
   ·subst c7
    have H1:(some (0,(wrap64 (s0_1+1))))=some (r1,r2):=by rw [if_pos rfl] at H;exact H
    clear H
    have H:=H1
    clear H1
    simp only [Option.some.injEq,Prod.mk.injEq] at H
    obtain ⟨rfl,rfl⟩:=H
    go_wp2
    repeat (go_quiet (fail);try go_wp2)
    go_ret
    exact ⟨Y1,Y12,Y14,Y13⟩
   ·replace c7:=Bool.eq_false_iff.mpr c7
    subst c7
    have H1:(if (wrap64 ((wrap64 (s0_1+1)) - 1))<(s0_0.length:Int) then (if 0≤(wrap64 ((wrap64 (s0_1+1)) - 1)) then (if a1=0 then (none) else (some (Int.tmod (wrap64 (rd s0_0 (wrap64 ((wrap64 (s0_1+1)) - 1)))) a1,(wrap64 (s0_1+1))))) else (none)) else (if (s0_0.length:Int)=0 then (none) else (if 0≤(Int.tmod (wrap64 ((wrap64 (s0_1+1)) - 1)) (s0_0.length:Int)) then (if (Int.tmod (wrap64 ((wrap64 (s0_1+1)) - 1)) (s0_0.length:Int))<(s0_0.length:Int) then (if 0≤(Int.tmod (wrap64 ((wrap64 ((wrap64 ((wrap64 (s0_1+1)) - 1)) * 7))+3)) (s0_0.length:Int)) then (if (Int.tmod (wrap64 ((wrap64 ((wrap64 ((wrap64 (s0_1+1)) - 1)) * 7))+3)) (s0_0.length:Int))<(s0_0.length:Int) then (if a1=0 then (none) else (some (Int.tmod (Go.bits .xor .i64 (wrap64 ((wrap64 ((wrap64 ((wrap64 ((wrap64 (rd s0_0 (Int.tmod (wrap64 ((wrap64 (s0_1+1)) - 1)) (s0_0.length:Int)))) * 131))+(wrap64 ((wrap64 (rd s0_0 (Int.tmod (wrap64 ((wrap64 ((wrap64 ((wrap64 (s0_1+1)) - 1)) * 7))+3)) (s0_0.length:Int)))) * 1117))))+(wrap64 ((wrap64 ((wrap64 (s0_1+1)) - 1)) * 29))))+(wrap64 ((wrap64 (Int.tdiv (wrap64 ((wrap64 (s0_1+1)) - 1)) (s0_0.length:Int))) * 53)))) (wrap64 (Int.tdiv (wrap64 ((wrap64 ((wrap64 ((wrap64 ((wrap64 (rd s0_0 (Int.tmod (wrap64 ((wrap64 (s0_1+1)) - 1)) (s0_0.length:Int)))) * 131))+(wrap64 ((wrap64 (rd s0_0 (Int.tmod (wrap64 ((wrap64 ((wrap64 ((wrap64 (s0_1+1)) - 1)) * 7))+3)) (s0_0.length:Int)))) * 1117))))+(wrap64 ((wrap64 ((wrap64 (s0_1+1)) - 1)) * 29))))+(wrap64 ((wrap64 (Int.tdiv (wrap64 ((wrap64 (s0_1+1)) - 1)) (s0_0.length:Int))) * 53)))) 64))) a1,(wrap64 (s0_1+1))))) else (none)) else (none)) else (none)) else (none))))=some (r1,r2):=by rw [if_neg (show ¬ (false=true) by decide)] at H;exact H
    clear H
    have H:=H1
    clear H1
    by_cases c8:(wrap64 ((wrap64 (s0_1+1)) - 1))<(s0_0.length:Int)
    ·rw [if_pos c8] at H
     have c8b0:decide ((wrap64 ((wrap64 (s0_1+1)) - 1))<(s0_0.length:Int))=true:=dzT c8
     clear c8
     obtain ⟨ji9,hji9⟩:∃ j_:Int,(wrap64 ((wrap64 (s0_1+1)) - 1))=j_:=⟨_,rfl⟩
     replace H:(if 0≤(ji9) then (if a1=0 then (none) else (some (Int.tmod (wrap64 (rd s0_0 (ji9))) a1,(wrap64 (s0_1+1))))) else (none))=some (r1,r2):=by first |(rw [hji9] at H;exact H) |(simp only [hji9] at H ⊢;exact H)
     (try rw [hji9] at c8b0)
     have hji9w:(IntKind.i64.wrap ((wrap64 (s0_1+1)) - 1))=ji9:=(job _).trans hji9
     by_cases c10:0≤(ji9)
     ·rw [if_pos c10] at H
      have c10b0:decide (0≤(ji9))=true:=dzT c10
      clear c10
      by_cases c11:a1=0
      ·rw [if_pos c11] at H
       exact absurd H (by simp)
      ·rw [if_neg c11] at H
       have c11b0:(a1 == 0)=false:=beq_eq_false_iff_ne.mpr c11
       have c11b1:(a1 != 0)=true:=bne_iff_ne.mpr c11
       simp only [Option.some.injEq,Prod.mk.injEq] at H
       obtain ⟨rfl,rfl⟩:=H
       obtain ⟨ASz12_0,cSz12_0,HGz12,hgz12,HSz12_0⟩:=HI0.out
       have hcz12_0:=cellS106_0 HGz12
       have hcz12_1:=cellS106_1 HGz12
       have hfz12_1:=jb HGz12 1
       clear HGz12 hgz12
       have p493:0≤((ji9):Int):=ozD (uq)
       have q493:(ji9)<(s0_0.length:Int):=ozD (uq)
       obtain ⟨ad493,e493,hx493_0⟩:=Kd.jCb HSz12_0 (ji9) p493 q493
       cases e493
       replace hx493_0:=jxa HB.out hx493_0
       replace p493:=ezT p493
       replace q493:=ezT q493
       go_wp2
       repeat (go_quiet (fail);try go_wp2)
       go_ret
       exact ⟨by first | rfl |(simp [jub,jtb] <;> rfl) |(simp only [← hji9];first | rfl |(simp [jub,jtb] <;> rfl)) |(simp [*,jub,jtb] <;> rfl),Y12,Y14,Y13⟩
     ·rw [if_neg c10] at H
      exact absurd H (by simp)
    ·rw [if_neg c8] at H
     have c8b0:decide ((wrap64 ((wrap64 (s0_1+1)) - 1))<(s0_0.length:Int))=false:=dzF c8
     clear c8
     by_cases c13:(s0_0.length:Int)=0
     ·rw [if_pos c13] at H
      exact absurd H (by simp)
     ·rw [if_neg c13] at H
      have c13b0:((s0_0.length:Int) == 0)=false:=beq_eq_false_iff_ne.mpr c13
      have c13b1:((s0_0.length:Int) != 0)=true:=bne_iff_ne.mpr c13
      have c13b2:¬ (s0_0=[]):=fun h_=>c13 (by rw [h_];rfl)
      obtain ⟨ji14,hji14⟩:∃ j_:Int,(Int.tmod (wrap64 ((wrap64 (s0_1+1)) - 1)) (s0_0.length:Int))=j_:=⟨_,rfl⟩
      replace H:(if 0≤(ji14) then (if (ji14)<(s0_0.length:Int) then (if 0≤(Int.tmod (wrap64 ((wrap64 ((wrap64 ((wrap64 (s0_1+1)) - 1)) * 7))+3)) (s0_0.length:Int)) then (if (Int.tmod (wrap64 ((wrap64 ((wrap64 ((wrap64 (s0_1+1)) - 1)) * 7))+3)) (s0_0.length:Int))<(s0_0.length:Int) then (if a1=0 then (none) else (some (Int.tmod (Go.bits .xor .i64 (wrap64 ((wrap64 ((wrap64 ((wrap64 ((wrap64 (rd s0_0 (ji14))) * 131))+(wrap64 ((wrap64 (rd s0_0 (Int.tmod (wrap64 ((wrap64 ((wrap64 ((wrap64 (s0_1+1)) - 1)) * 7))+3)) (s0_0.length:Int)))) * 1117))))+(wrap64 ((wrap64 ((wrap64 (s0_1+1)) - 1)) * 29))))+(wrap64 ((wrap64 (Int.tdiv (wrap64 ((wrap64 (s0_1+1)) - 1)) (s0_0.length:Int))) * 53)))) (wrap64 (Int.tdiv (wrap64 ((wrap64 ((wrap64 ((wrap64 ((wrap64 (rd s0_0 (ji14))) * 131))+(wrap64 ((wrap64 (rd s0_0 (Int.tmod (wrap64 ((wrap64 ((wrap64 ((wrap64 (s0_1+1)) - 1)) * 7))+3)) (s0_0.length:Int)))) * 1117))))+(wrap64 ((wrap64 ((wrap64 (s0_1+1)) - 1)) * 29))))+(wrap64 ((wrap64 (Int.tdiv (wrap64 ((wrap64 (s0_1+1)) - 1)) (s0_0.length:Int))) * 53)))) 64))) a1,(wrap64 (s0_1+1))))) else (none)) else (none)) else (none)) else (none))=some (r1,r2):=by first |(rw [hji14] at H;exact H) |(simp only [hji14] at H ⊢;exact H)
      by_cases c15:0≤(ji14)
      ·rw [if_pos c15] at H
       have c15b0:decide (0≤(ji14))=true:=dzT c15
       clear c15
       by_cases c16:(ji14)<(s0_0.length:Int)
       ·rw [if_pos c16] at H
        have c16b0:decide ((ji14)<(s0_0.length:Int))=true:=dzT c16
        clear c16
        obtain ⟨ji17,hji17⟩:∃ j_:Int,(Int.tmod (wrap64 ((wrap64 ((wrap64 ((wrap64 (s0_1+1)) - 1)) * 7))+3)) (s0_0.length:Int))=j_:=⟨_,rfl⟩
        replace H:(if 0≤(ji17) then (if (ji17)<(s0_0.length:Int) then (if a1=0 then (none) else (some (Int.tmod (Go.bits .xor .i64 (wrap64 ((wrap64 ((wrap64 ((wrap64 ((wrap64 (rd s0_0 (ji14))) * 131))+(wrap64 ((wrap64 (rd s0_0 (ji17))) * 1117))))+(wrap64 ((wrap64 ((wrap64 (s0_1+1)) - 1)) * 29))))+(wrap64 ((wrap64 (Int.tdiv (wrap64 ((wrap64 (s0_1+1)) - 1)) (s0_0.length:Int))) * 53)))) (wrap64 (Int.tdiv (wrap64 ((wrap64 ((wrap64 ((wrap64 ((wrap64 (rd s0_0 (ji14))) * 131))+(wrap64 ((wrap64 (rd s0_0 (ji17))) * 1117))))+(wrap64 ((wrap64 ((wrap64 (s0_1+1)) - 1)) * 29))))+(wrap64 ((wrap64 (Int.tdiv (wrap64 ((wrap64 (s0_1+1)) - 1)) (s0_0.length:Int))) * 53)))) 64))) a1,(wrap64 (s0_1+1))))) else (none)) else (none))=some (r1,r2):=by first |(rw [hji17] at H;exact H) |(simp only [hji17] at H ⊢;exact H)
        by_cases c18:0≤(ji17)
        ·rw [if_pos c18] at H
         have c18b0:decide (0≤(ji17))=true:=dzT c18
         clear c18
         by_cases c19:(ji17)<(s0_0.length:Int)
         ·rw [if_pos c19] at H
          have c19b0:decide ((ji17)<(s0_0.length:Int))=true:=dzT c19
          clear c19
          by_cases c20:a1=0
          ·rw [if_pos c20] at H
           exact absurd H (by simp)
          ·rw [if_neg c20] at H
           have c20b0:(a1 == 0)=false:=beq_eq_false_iff_ne.mpr c20
           have c20b1:(a1 != 0)=true:=bne_iff_ne.mpr c20
           simp only [Option.some.injEq,Prod.mk.injEq] at H
           obtain ⟨rfl,rfl⟩:=H
           obtain ⟨ASz21_0,cSz21_0,HGz21,hgz21,HSz21_0⟩:=HI0.out
           have hcz21_0:=cellS106_0 HGz21
           have hcz21_1:=cellS106_1 HGz21
           have hfz21_1:=jb HGz21 1
           clear HGz21 hgz21
           have p494:0≤((ji14):Int):=ozD (uq)
           have q494:(ji14)<(s0_0.length:Int):=ozD (uq)
           obtain ⟨ad494,e494,hx494_0⟩:=Kd.jCb HSz21_0 (ji14) p494 q494
           cases e494
           replace hx494_0:=jxa HB.out hx494_0
           replace p494:=ezT p494
           replace q494:=ezT q494
           have p495:0≤((ji17):Int):=ozD (uq)
           have q495:(ji17)<(s0_0.length:Int):=ozD (uq)
           obtain ⟨ad495,e495,hx495_0⟩:=Kd.jCb HSz21_0 (ji17) p495 q495
           obtain rfl:ad494=ad495:=(by injection e495)
           replace hx495_0:=jxa HB.out hx495_0
           replace p495:=ezT p495
           replace q495:=ezT q495
           go_wp2
           repeat (go_quiet (fail);try go_wp2)
           go_ret
           exact ⟨by first | rfl |(simp [jub,jtb] <;> rfl) |(simp only [← hji14,← hji17];first | rfl |(simp [jub,jtb] <;> rfl)) |(simp [*,jub,jtb] <;> rfl),Y12,Y14,Y13⟩
         ·rw [if_neg c19] at H
          exact absurd H (by simp)
        ·rw [if_neg c18] at H
         exact absurd H (by simp)
       ·rw [if_neg c16] at H
        exact absurd H (by simp)
      ·rw [if_neg c15] at H
       exact absurd H (by simp)
def jv.f (k : Nat) (s0_0 : List Int) (s0_1 : Int) (l1 : List Int) : Option (Int × Int) := (jl.f k s0_0 s0_1 (l1.length : Int)).bind fun bt496 => (if 0 ≤ bt496.1 then (if bt496.1 < (l1.length : Int) then (some (rd l1 bt496.1, bt496.2)) else (none)) else (none))
set_option maxHeartbeats 8000000 in
set_option maxRecDepth 100000 in
theorem jv.calls (k : Nat) (g : Nat) (s0_0 : List Int) (s0_1 : Int) (A1 : Option Addr) (c1 : Nat) (l1 : List Int) (r1 : Int) (r2 : Int) (w0 w : World) (hI : jc w0 w g s0_0 s0_1) (hB : Below w0.heap.size w0 w) (hr1 : Kd.C (Kd.int .i64) w A1 l1.length l1) (hc1 : l1.length ≤ c1) (hf1 : ∀ ad, A1 = some ad → 0 < l1.length → ad.block ≠ g) (h : jv.f k s0_0 s0_1 l1 = some (r1, r2)) :
  Calls Try.prog 89 #[.pointer (some ⟨g,0,none⟩), .slice A1 l1.length c1] w fun e w'=>e=.returned (.int .i64 r1)∧jc w0 w' g s0_0 r2∧Below w0.heap.size w0 w'∧jd w w' g none:=by
 have HR1:=am hr1
 have HC1:=am hc1
 clear hr1 hc1
 have HI0:=am hI
 have HK:=am (jd.refl w g none)
 have HL:=am hB.size
 clear hI
 have HW0:=am hB.size
 have HB:=am hB
 clear hB
 have H:((jl.f k s0_0 s0_1 (l1.length:Int)).bind fun bt496=>(if 0≤bt496.1 then (if bt496.1<(l1.length:Int) then (some (rd l1 bt496.1,bt496.2)) else (none)) else (none)))=some (r1,r2):=h
 clear h
 replace H:=bzS H
 obtain ⟨⟨t496,t497⟩,A30,H⟩:=H
 replace H:(if 0≤t496 then (if t496<(l1.length:Int) then (some (rd l1 t496,t497)) else (none)) else (none))=some (r1,r2):=H
 have A3:=am A30
 clear A30
 by_cases c4:0≤t496
 ·rw [if_pos c4] at H
  have c4b0:decide (0≤t496)=true:=dzT c4
  clear c4
  by_cases c5:t496<(l1.length:Int)
  ·rw [if_pos c5] at H
   have c5b0:decide (t496<(l1.length:Int))=true:=dzT c5
   clear c5
   simp only [Option.some.injEq,Prod.mk.injEq] at H
   obtain ⟨rfl,rfl⟩:=H
   go_enter Try.func89,Try.ntmps89
   go_wp2_with (first |((with_reducible refine jy (f:=88) rfl ?_);refine gL (some 9) Try.func88 #[.pointer (some ⟨g,0,none⟩), .int .i64 (l1.length:Int)] ?_;(with_reducible refine (jl.calls k g s0_0 s0_1 (l1.length:Int) t496 t497 w0 _ ?side1 ?side2 A3.out).mono ?_);(case side1=>exact Y12);(case side2=>exact Y14);rintro e w6 ⟨rfl,hi,hb,hk⟩;refine ⟨_,rfl,?_⟩;replace HK:=am (jd.trans (Y13) hk (.inl rfl));replace HB:=am (hb);replace HI0:=am (hi);(try clear hb);(try clear hb2);(try clear hk);(try clear hi);have p498:0≤(t496:Int):=ozD (uq);have q498:t496<(l1.length:Int):=ozD (uq);obtain ⟨ad498,e498,hx498_0⟩:=Kd.jCb HR1.out t496 p498 q498;cases e498;replace hx498_0:=keep_cell HK.out hx498_0 (by first |(rw [add_block];exact hf1 _ rfl (by omega)) | exact hf1 _ rfl (by omega) | exact hf1 ad498 rfl (by omega));replace p498:=ezT p498;replace q498:=ezT q498))
   go_ret
   exact ⟨Y1,Y12,Y14,Y13⟩
  ·rw [if_neg c5] at H
   exact absurd H (by simp)
 ·rw [if_neg c4] at H
  exact absurd H (by simp)
def jXa.f (l0_0 : List (S54)) : Option ((List (S54))) := (some (([] : List (S54)) : List (S54))).bind fun y501 => (if y501.length + l0_0.length < 3518437208883 then (some (y501 ++ l0_0)) else (none))
set_option maxHeartbeats 8000000 in
set_option maxRecDepth 100000 in
theorem jXa.calls (A0_0 : Option Addr) (c0_0 : Nat) (l0_0 : List (S54)) (r : List (S54)) (w : World) (hr0_0 : Kd.C k54 w A0_0 l0_0.length l0_0) (hc0_0 : l0_0.length ≤ c0_0) (h : jXa.f l0_0 = some r) :
  Calls Try.prog 67 #[.agg #[.slice A0_0 l0_0.length c0_0]] w fun e w'=>∃ v0_:Value,e=.returned (.agg #[v0_])∧Kd.R k54 54 w' w.heap.size (fun _=>True) v0_ r∧Below w.heap.size w w':=by
 have hu32:=Try.underlying32
 have HR0_0:=am hr0_0
 have HC0_0:=am hc0_0
 clear hr0_0 hc0_0
 have HB:=am (Below.refl w.heap.size w)
 have H:((some (([]:List (S54)):List (S54))).bind fun y501=>(if y501.length+l0_0.length<3518437208883 then (some (y501 ++ l0_0)) else (none)))=some r:=h
 clear h
 obtain ⟨y501,hy501⟩:∃ y_:List (S54),y_=(([]:List (S54))):=⟨_,rfl⟩
 replace H:(if y501.length+l0_0.length<3518437208883 then (some (y501 ++ l0_0)) else (none))=some r:=by first |(rw [hy501];with_reducible exact H) |(have H2_:=(Option.bind_some _ _).symm.trans H;rw [hy501];with_reducible exact H2_) |(have H2_:=(Option.bind_some _ _).symm.trans H;with_reducible exact H2_) | with_reducible exact H |(rw [hy501];exact H) | exact H
 have Ny501:=am hy501
 clear hy501
 by_cases c2:y501.length+l0_0.length<3518437208883
 ·rw [if_pos c2] at H
  have LMc2:=am c2
  clear c2
  obtain ⟨y504,hy504⟩:∃ y_:List (S54),y_=(y501 ++ l0_0):=⟨_,rfl⟩
  replace H:(some y504)=some r:=by first |(rw [hy504];with_reducible exact H) |(have H2_:=(Option.bind_some _ _).symm.trans H;rw [hy504];with_reducible exact H2_) |(have H2_:=(Option.bind_some _ _).symm.trans H;with_reducible exact H2_) | with_reducible exact H |(rw [hy504];exact H) | exact H
  have Ny504:=am hy504
  clear hy504
  obtain rfl:=Option.some.inj H
  go_enter Try.func67,Try.ntmps67
  go_wp2_with (first |((with_reducible refine jD (N:=1) rfl ?_);refine bE (N:=1) (cs:=#[.slice A0_0 l0_0.length c0_0]) (t:=32) ?_;intro gb499 hg w3 hbox hb;have BK499:=am (hbox);have GW499:=am ((Y0:w.heap.size≤gb499));have GE499:=am ((Y0:w.heap.size≤gb499));replace HB:=am (jf (bq) hb);clear hb hbox hg) |((with_reducible refine jD (N:=2) rfl ?_);refine bE (N:=2) (cs:=#[.slice none 0 0]) (t:=32) ?_;intro gb500 hg w4 hbox hb;have BK500:=am (hbox);have GW500:=am ((Y140:w.heap.size≤gb500));have GE500:=am ((Y140:w.heap.size≤gb500));have NB499_500:=am ((by rw [hg];exact Nat.ne_of_lt (jca (g:=gb499) (o:=.cells #[.slice A0_0 l0_0.length c0_0] 32 (0,0)) (kq BK499.out)):gb499≠gb500));have NB500_499:=am ((by rw [hg];exact Nat.ne_of_gt (jca (g:=gb499) (o:=.cells #[.slice A0_0 l0_0.length c0_0] 32 (0,0)) (kq BK499.out)):gb500≠gb499));replace BK499:=am (je (g:=gb499) (o:=.cells #[.slice A0_0 l0_0.length c0_0] 32 (0,0)) (kq BK499.out) hb);replace HB:=am (jf (by repeat (first |(with_reducible first | exact HB.out | apply jw | apply jo | apply jr | refine jm ?_ GE499.out) | exact HB.out)) hb);clear hb hbox hg) |((with_reducible refine jD (N:=3) rfl ?_);refine Kd.R_lit k54 _ 54 ?hg (N:=3) ?hd (xs:=([]:List (S54))) (inner:=[]) (ok:=fun _=>True) (okp:=fun _=>True) ?hr ?hp (fun _ hk=>hk) trivial (Below.refl _ _) (Nat.le_refl _) (by simp) ?_;(case hd=>rfl);(case hg=>rfl);(case hr=>exact Y4);(case hp=>exact (Reps.none _ _));intro v502 w5 ho6 hb hg_ hnew_;clear hg_ hnew_;(first | rw [← Ny501.out] at ho6 |(simp only [Int.reduceToNat] at ho6;rw [← Ny501.out] at ho6));have HO503:=am (Kd.jia ho6 (jR (Y83)));replace BK499:=am (je (g:=gb499) (o:=.cells #[.slice A0_0 l0_0.length c0_0] 32 (0,0)) (kq BK499.out) hb);replace BK500:=am (je (g:=gb500) (o:=.cells #[.slice none 0 0] 32 (0,0)) (kq BK500.out) hb);replace HB:=am (jf (Y83) hb);clear hb ho6;have hnb7:=NB499_500.out;have hnc7:=NB500_499.out;have hcz8_0:=bc0 BK499.out;have hfz8_0:=jb BK499.out 0) |((with_reducible refine jKb (b:=.append) (xs:=#[.tmp 3, .tmp 5]) rfl ?_);at_builtin;refine Kd.R_append_rows k54 (w0:=w) w.heap.size rfl (.tmp 3) (.tmp 5) 30 54 (.agg #[(.int .i64 0),(.int .i64 0),(.int .i64 0),(.int .i64 0),(.bool false)]) 40 rfl Try.underlying30 info54 rfl (by decide) (by omega) v502 y501 l0_0 _ _ _ (fun _=>True) (fun _=>False) rfl rfl ?aO ?aR (fun _ _ h=>h) (fun _ h=>h.elim) ?aF ?aB ?aS ?aL ?_;(case aR=>repeat (first | exact (Kd.jaa HR0_0.out HB.out) |(with_reducible refine Kd.C_alloc ?_ _) |(with_reducible refine Kd.C_drewN ?_ _) |(with_reducible refine Kd.C_drew ?_)));(case aB=>exact (Y83));(case aF=>exact (fun _ _=>trivial));(case aO=>exact (rq HO503.out));(case aS=>exact (jR (Y83)));(case aL=>have:=LMc2.out;omega);intro v505 w9 ho hb hg hat;rw [← Ny504.out] at ho;have n0_:=am (jCa (g:=gb499) (o:=.cells #[.slice A0_0 l0_0.length c0_0] 32 (0,0)) (kq BK499.out) hg (Kd.R_ne HO503.out BK499.out (by decide)));have n1_:=am (jCa (g:=gb500) (o:=.cells #[.slice none 0 0] 32 (0,0)) (kq BK500.out) hg (Kd.R_ne HO503.out BK500.out (by decide)));have n2_:=am (hb);have n3_:=am (ho);clear BK499 BK500 HB HO503;have BK499:=n0_;have BK500:=n1_;have HB:=n2_;have HO506:=n3_;clear n0_ n1_ n2_ n3_ ho hb hg hat;obtain ⟨Ao10,co10,eo10⟩:=Kd.jZ HO506.out;subst eo10;have hcz11_0:=bc0 BK500.out;have hfz11_0:=jb BK500.out 0))
  refine bodyPost_ret (results_cell_row rfl _ _ gb500 32 #[.slice Ao10 y504.length co10] (0,0) _ rfl (by (with_reducible repeat (first | refine jh ?_ _ | refine jg ?_ | refine jk ?_ _));refine jya (cs:=#[.slice none 0 0]) ?_ 0 _ rfl;(with_reducible repeat (first | refine jh ?_ _ | refine jg ?_ | refine jk ?_ _));exact BK500.out) Try.underlying32 rfl (by kernel_rfl)) rfl ?_
  exact ⟨_,Y1,by (with_reducible repeat (first | apply Kd.jU | apply Kd.jW | apply Kd.jS));exact Kd.jH (Kd.jra (p:=⟨gb500,0,none⟩) (Kd.jN HO506.out BK500.out (by decide)) (fun _ hk=>hk.2) (.slice Ao10 y504.length co10)) (fun _ hk=>trivial),Y83⟩
 ·rw [if_neg c2] at H
  exact absurd H (by simp)
def jBb.f (l0_0 : List (S54)) (a1 : Int) (a2 : Int) : Option ((List (S54))) := (jXa.f l0_0).bind fun t509 => (if t509.length < 3518437208883 then (some (t509 ++ [(⟨a1, a2, (-1), (-1), false⟩ : S54)])) else (none))
set_option maxHeartbeats 8000000 in
set_option maxRecDepth 100000 in
theorem jBb.calls (A0_0 : Option Addr) (c0_0 : Nat) (l0_0 : List (S54)) (a1 : Int) (a2 : Int) (r : List (S54)) (w : World) (hr0_0 : Kd.C k54 w A0_0 l0_0.length l0_0) (hc0_0 : l0_0.length ≤ c0_0) (h : jBb.f l0_0 a1 a2 = some r) :
  Calls Try.prog 91 #[.agg #[.slice A0_0 l0_0.length c0_0], .int .i64 a1, .int .i64 a2] w fun e w'=>∃ v0_:Value,e=.returned (.agg #[v0_])∧Kd.R k54 54 w' w.heap.size (fun _=>True) v0_ r∧Below w.heap.size w w':=by
 have hu32:=Try.underlying32
 have hu54:=Try.underlying54
 have HR0_0:=am hr0_0
 have HC0_0:=am hc0_0
 clear hr0_0 hc0_0
 have HB:=am (Below.refl w.heap.size w)
 have H:((jXa.f l0_0).bind fun t509=>(if t509.length<3518437208883 then (some (t509 ++ [(⟨a1,a2,(-1),(-1),false⟩:S54)])) else (none)))=some r:=h
 clear h
 replace H:=bzS H
 obtain ⟨t509,A40,H⟩:=H
 replace H:(if t509.length<3518437208883 then (some (t509 ++ [(⟨a1,a2,(-1),(-1),false⟩:S54)])) else (none))=some r:=H
 have A4:=am A40
 clear A40
 by_cases c5:t509.length<3518437208883
 ·rw [if_pos c5] at H
  have LMc5:=am c5
  clear c5
  obtain ⟨y513,hy513⟩:∃ y_:List (S54),y_=(t509 ++ [(⟨a1,a2,(-1),(-1),false⟩:S54)]):=⟨_,rfl⟩
  replace H:(some y513)=some r:=by first |(rw [hy513];with_reducible exact H) |(have H2_:=(Option.bind_some _ _).symm.trans H;rw [hy513];with_reducible exact H2_) |(have H2_:=(Option.bind_some _ _).symm.trans H;with_reducible exact H2_) | with_reducible exact H |(rw [hy513];exact H) | exact H
  have Ny513:=am hy513
  clear hy513
  obtain rfl:=Option.some.inj H
  go_enter Try.func91,Try.ntmps91
  go_wp2_with (first |((with_reducible refine jD (N:=3) rfl ?_);refine bE (N:=3) (cs:=#[.slice A0_0 l0_0.length c0_0]) (t:=32) ?_;intro gb507 hg w6 hbox hb;have BK507:=am (hbox);have GW507:=am ((Y0:w.heap.size≤gb507));have GE507:=am ((Y0:w.heap.size≤gb507));replace HB:=am (jf (bq) hb);clear hb hbox hg) |((with_reducible refine jD (N:=6) rfl ?_);refine bE (N:=6) (cs:=#[.slice none 0 0]) (t:=32) ?_;intro gb508 hg w7 hbox hb;have BK508:=am (hbox);have GW508:=am ((Y141:w.heap.size≤gb508));have GE508:=am ((Y141:w.heap.size≤gb508));have NB507_508:=am ((by rw [hg];exact Nat.ne_of_lt (jca (g:=gb507) (o:=.cells #[.slice A0_0 l0_0.length c0_0] 32 (0,0)) (kq BK507.out)):gb507≠gb508));have NB508_507:=am ((by rw [hg];exact Nat.ne_of_gt (jca (g:=gb507) (o:=.cells #[.slice A0_0 l0_0.length c0_0] 32 (0,0)) (kq BK507.out)):gb508≠gb507));replace BK507:=am (je (g:=gb507) (o:=.cells #[.slice A0_0 l0_0.length c0_0] 32 (0,0)) (kq BK507.out) hb);replace HB:=am (jf (by repeat (first |(with_reducible first | exact HB.out | apply jw | apply jo | apply jr | refine jm ?_ GE507.out) | exact HB.out)) hb);clear hb hbox hg;have hnb8:=NB507_508.out;have hnc8:=NB508_507.out;have hcz9_0:=bc0 BK507.out;have hfz9_0:=jb BK507.out 0) |((with_reducible refine jy (f:=67) rfl ?_);refine gL (some 9) Try.func67 #[.agg #[.slice A0_0 l0_0.length c0_0]] ?_;(with_reducible refine (jXa.calls _ _ l0_0 t509 _ ?side1 ?side2 A4.out).mono ?_);(case side1=>exact cq (Kd.jaa HR0_0.out HB.out));(case side2=>exact HC0_0.out);rintro e w10 ⟨v510,rfl,ho0,hb⟩;refine ⟨_,rfl,?_⟩;have HO511:=am (Kd.jia ho0 (jR (Y111)));replace BK507:=am (je (g:=gb507) (o:=.cells #[.slice A0_0 l0_0.length c0_0] 32 (0,0)) (kq BK507.out) hb);replace BK508:=am (je (g:=gb508) (o:=.cells #[.slice none 0 0] 32 (0,0)) (kq BK508.out) hb);replace HB:=am (jf (Y111) hb);(try clear hb);(try clear hb2);(try clear hk);(try clear hi);(try clear ho0)) |((with_reducible refine jD (N:=7) rfl ?_);refine bE (N:=7) (cs:=#[.slice none 0 0]) (t:=32) ?_;intro gb512 hg w11 hbox hb;have BK512:=am (hbox);have GW512:=am ((Y142:w.heap.size≤gb512));have GE512:=am ((Y142:w.heap.size≤gb512));have NB507_512:=am ((by rw [hg];exact Nat.ne_of_lt (jca (g:=gb507) (o:=.cells #[.slice A0_0 l0_0.length c0_0] 32 (0,0)) (kq BK507.out)):gb507≠gb512));have NB512_507:=am ((by rw [hg];exact Nat.ne_of_gt (jca (g:=gb507) (o:=.cells #[.slice A0_0 l0_0.length c0_0] 32 (0,0)) (kq BK507.out)):gb512≠gb507));have NB508_512:=am ((by rw [hg];exact Nat.ne_of_lt (jca (g:=gb508) (o:=.cells #[.slice none 0 0] 32 (0,0)) (kq BK508.out)):gb508≠gb512));have NB512_508:=am ((by rw [hg];exact Nat.ne_of_gt (jca (g:=gb508) (o:=.cells #[.slice none 0 0] 32 (0,0)) (kq BK508.out)):gb512≠gb508));replace HO511:=am (Kd.jX (rq HO511.out) hb);replace BK507:=am (je (g:=gb507) (o:=.cells #[.slice A0_0 l0_0.length c0_0] 32 (0,0)) (kq BK507.out) hb);replace BK508:=am (je (g:=gb508) (o:=.cells #[.slice none 0 0] 32 (0,0)) (kq BK508.out) hb);replace HB:=am (jf (Y111) hb);clear hb hbox hg;obtain ⟨Ao12,co12,eo12⟩:=Kd.jZ HO511.out;subst eo12;have hnb13:=NB512_507.out;have hnc13:=NB507_512.out;have hnb14:=NB512_508.out;have hnc14:=NB508_512.out;have hcz15_0:=bc0 BK512.out;have hfz15_0:=jb BK512.out 0) |((with_reducible refine jKb (b:=.append) (xs:=#[.tmp 11, .tmp 15]) rfl ?_);at_builtin;refine Kd.R_append k54 (w0:=w) w.heap.size rfl (.tmp 11) (.tmp 15) 30 54 (.agg #[(.int .i64 0),(.int .i64 0),(.int .i64 0),(.int .i64 0),(.bool false)]) 40 rfl Try.underlying30 info54 rfl (by decide) (by omega) (.slice Ao12 t509.length co12) t509 (⟨a1,a2,(-1),(-1),false⟩:S54) [.int .i64 a1, .int .i64 a2, .int .i64 (-1), .int .i64 (-1), .bool false] (fun _=>True) (fun _=>False) rfl (Y4) ?aP (fun _ hk=>hk.elim) ?aF ?aO ?aB ?aS ?aL ?_;(case aP=>exact jQb _ _ _ (⟨a1,a2,(-1),(-1),false⟩:S54));(case aB=>exact (Y112));(case aF=>exact (fun _ _=>trivial));(case aO=>exact (by (with_reducible repeat (first | apply Kd.jU | apply Kd.jW | apply Kd.jS));exact Kd.jH (Kd.jra (p:=⟨gb512,0,none⟩) (Kd.jN HO511.out BK512.out (by decide)) (fun _ hk=>hk.2) (.slice Ao12 t509.length co12)) (fun _ hk=>trivial)));(case aS=>exact (jR (Y112)));(case aL=>have:=LMc5.out;omega);intro v514 w16 ho hb hg hat;rw [← Ny513.out] at ho;have n0_:=am (jCa (g:=gb507) (o:=.cells #[.slice A0_0 l0_0.length c0_0] 32 (0,0)) (by (with_reducible repeat (first | refine jh ?_ _ | refine jg ?_ | refine jk ?_ _));refine jO ?_ NB507_512.out _;(with_reducible repeat (first | refine jh ?_ _ | refine jg ?_ | refine jk ?_ _));exact BK507.out) hg (Kd.R_ne HO511.out BK507.out (by decide)));have n1_:=am (jCa (g:=gb508) (o:=.cells #[.slice none 0 0] 32 (0,0)) (by (with_reducible repeat (first | refine jh ?_ _ | refine jg ?_ | refine jk ?_ _));refine jO ?_ NB508_512.out _;(with_reducible repeat (first | refine jh ?_ _ | refine jg ?_ | refine jk ?_ _));exact BK508.out) hg (Kd.R_ne HO511.out BK508.out (by decide)));have n2_:=am (jCa (g:=gb512) (o:=.cells #[.slice Ao12 t509.length co12] 32 (0,0)) (by (with_reducible repeat (first | refine jh ?_ _ | refine jg ?_ | refine jk ?_ _));refine jya (cs:=#[.slice none 0 0]) ?_ 0 _ rfl;(with_reducible repeat (first | refine jh ?_ _ | refine jg ?_ | refine jk ?_ _));exact BK512.out) hg (Kd.R_ne HO511.out BK512.out (by decide)));have n3_:=am (hb);have n4_:=am (ho);clear BK507 BK508 BK512 HB HO511;have BK507:=n0_;have BK508:=n1_;have BK512:=n2_;have HB:=n3_;have HO515:=n4_;clear n0_ n1_ n2_ n3_ n4_ ho hb hg hat;obtain ⟨Ao17,co17,eo17⟩:=Kd.jZ HO515.out;subst eo17;have hcz18_0:=bc0 BK512.out;have hfz18_0:=jb BK512.out 0;have hcz19_0:=bc0 BK508.out;have hfz19_0:=jb BK508.out 0))
  refine bodyPost_ret (results_cell_row rfl _ _ gb508 32 #[.slice Ao17 y513.length co17] (0,0) _ rfl (by (with_reducible repeat (first | refine jh ?_ _ | refine jg ?_ | refine jk ?_ _));refine jya (cs:=#[.slice none 0 0]) ?_ 0 _ rfl;(with_reducible repeat (first | refine jh ?_ _ | refine jg ?_ | refine jk ?_ _));refine jO ?_ NB508_512.out _;(with_reducible repeat (first | refine jh ?_ _ | refine jg ?_ | refine jk ?_ _));exact BK508.out) Try.underlying32 rfl (by kernel_rfl)) rfl ?_
  exact ⟨_,Y1,by (with_reducible repeat (first | apply Kd.jU | apply Kd.jW | apply Kd.jS));exact Kd.jH (Kd.jra (p:=⟨gb508,0,none⟩) (Kd.jra (p:=⟨gb512,0,none⟩) (Kd.jN (Kd.jN HO515.out BK512.out (by decide)) BK508.out (by decide)) (fun _ hk=>hk.1.2) (.slice Ao17 y513.length co17)) (fun _ hk=>hk.2) (.slice Ao17 y513.length co17)) (fun _ hk=>trivial),Y112⟩
 ·rw [if_neg c5] at H
  exact absurd H (by simp)
mutual
def jfa.j0 : Nat → Int → Int → Bool → List (S54) → Option ((List (S54)))
 | 0,_,_,_,_=>none
 | k+1,x1,x2,x17,x522000=>if x17=true then (some x522000) else (jfa.l0 k x1 x2 x2 x522000)
def jfa.l0 : Nat → Int → Int → Int → List (S54) → Option ((List (S54)))
 | 0,_,_,_,_=>none
 | k+1,x1,x2,x8,x522000=>if 0≤x8 then (if x8<(x522000.length:Int) then (if ((ja x522000 x8).f3)≥0 then (if ((ja x522000 x8).f3)=x1 then ((some (x522000.set (x8:Int).toNat (⟨(ja x522000 x8).f0,(ja x522000 x8).f1,(ja x522000 x8).f2,(-1),(ja x522000 x8).f4⟩:S54):List (S54))).bind fun y525=>(if 0≤x1 then (if x1<(x522000.length:Int) then (some (y525.set (x1:Int).toNat (⟨(ja y525 x1).f0,(ja y525 x1).f1,(ja y525 x1).f2,x2,(ja y525 x1).f4⟩:S54))) else (none)) else (none))) else (jfa.l0 k x1 x2 ((ja x522000 x8).f3) x522000)) else (if 0≤x1 then (if x1<(x522000.length:Int) then (some (x522000.set (x1:Int).toNat (⟨(ja x522000 x1).f0,(ja x522000 x1).f1,(ja x522000 x1).f2,x2,(ja x522000 x1).f4⟩:S54))) else (none)) else (none))) else (none)) else (none)
end
def jfa.f (k : Nat) (l0_0 : List (S54)) (a1 : Int) (a2 : Int) : Option ((List (S54))) := (jXa.f l0_0).bind fun t518 => (if a1 = a2 then (jfa.j0 k a1 a2 true t518) else (jfa.j0 k a1 a2 (decide (a2 < 0)) t518))
set_option maxHeartbeats 8000000 in
set_option maxRecDepth 100000 in
theorem jfa.calls (k : Nat) (A0_0 : Option Addr) (c0_0 : Nat) (l0_0 : List (S54)) (a1 : Int) (a2 : Int) (r : List (S54)) (w : World) (hr0_0 : Kd.C k54 w A0_0 l0_0.length l0_0) (hc0_0 : l0_0.length ≤ c0_0) (h : jfa.f k l0_0 a1 a2 = some r) :
  Calls Try.prog 92 #[.agg #[.slice A0_0 l0_0.length c0_0], .int .i64 a1, .int .i64 a2] w fun e w'=>∃ v0_:Value,e=.returned (.agg #[v0_])∧Kd.R k54 54 w' w.heap.size (fun _=>True) v0_ r∧Below w.heap.size w w':=by
 have hu32:=Try.underlying32
 have HR0_0:=am hr0_0
 have HC0_0:=am hc0_0
 clear hr0_0 hc0_0
 have HB:=am (Below.refl w.heap.size w)
 have H:((jXa.f l0_0).bind fun t518=>(if a1=a2 then (jfa.j0 k a1 a2 true t518) else (jfa.j0 k a1 a2 (decide (a2<0)) t518)))=some r:=h
 clear h
 replace H:=bzS H
 obtain ⟨t518,A40,H⟩:=H
 replace H:(if a1=a2 then (jfa.j0 k a1 a2 true t518) else (jfa.j0 k a1 a2 (decide (a2<0)) t518))=some r:=H
 have A4:=am A40
 clear A40
 have HC5:=am H
 clear H
 go_enter Try.func92,Try.ntmps92
 go_upto_region 2 with (first |((with_reducible refine jD (N:=3) rfl ?_);refine bE (N:=3) (cs:=#[.slice A0_0 l0_0.length c0_0]) (t:=32) ?_;intro gb516 hg w6 hbox hb;have BK516:=am (hbox);have GW516:=am ((Y0:w.heap.size≤gb516));have GE516:=am ((Y0:w.heap.size≤gb516));replace HB:=am (jf (bq) hb);clear hb hbox hg) |((with_reducible refine jD (N:=6) rfl ?_);refine bE (N:=6) (cs:=#[.slice none 0 0]) (t:=32) ?_;intro gb517 hg w7 hbox hb;have BK517:=am (hbox);have GW517:=am ((Y143:w.heap.size≤gb517));have GE517:=am ((Y143:w.heap.size≤gb517));have NB516_517:=am ((by rw [hg];exact Nat.ne_of_lt (jca (g:=gb516) (o:=.cells #[.slice A0_0 l0_0.length c0_0] 32 (0,0)) (kq BK516.out)):gb516≠gb517));have NB517_516:=am ((by rw [hg];exact Nat.ne_of_gt (jca (g:=gb516) (o:=.cells #[.slice A0_0 l0_0.length c0_0] 32 (0,0)) (kq BK516.out)):gb517≠gb516));replace BK516:=am (je (g:=gb516) (o:=.cells #[.slice A0_0 l0_0.length c0_0] 32 (0,0)) (kq BK516.out) hb);replace HB:=am (jf (by repeat (first |(with_reducible first | exact HB.out | apply jw | apply jo | apply jr | refine jm ?_ GE516.out) | exact HB.out)) hb);clear hb hbox hg;have hnb8:=NB516_517.out;have hnc8:=NB517_516.out;have hcz9_0:=bc0 BK516.out;have hfz9_0:=jb BK516.out 0) |((with_reducible refine jy (f:=67) rfl ?_);refine gL (some 10) Try.func67 #[.agg #[.slice A0_0 l0_0.length c0_0]] ?_;(with_reducible refine (jXa.calls _ _ l0_0 t518 _ ?side1 ?side2 A4.out).mono ?_);(case side1=>exact cq (Kd.jaa HR0_0.out HB.out));(case side2=>exact HC0_0.out);rintro e w10 ⟨v519,rfl,ho0,hb⟩;refine ⟨_,rfl,?_⟩;have HO520:=am (Kd.jia ho0 (jR (Y113)));replace BK516:=am (je (g:=gb516) (o:=.cells #[.slice A0_0 l0_0.length c0_0] 32 (0,0)) (kq BK516.out) hb);replace BK517:=am (je (g:=gb517) (o:=.cells #[.slice none 0 0] 32 (0,0)) (kq BK517.out) hb);replace HB:=am (jf (Y113) hb);(try clear hb);(try clear hb2);(try clear hk);(try clear hi);(try clear ho0)) |((with_reducible refine jD (N:=7) rfl ?_);refine bE (N:=7) (cs:=#[.slice none 0 0]) (t:=32) ?_;intro gb521 hg w11 hbox hb;have BK521:=am (hbox);have GW521:=am ((Y144:w.heap.size≤gb521));have GE521:=am ((Y144:w.heap.size≤gb521));have NB516_521:=am ((by rw [hg];exact Nat.ne_of_lt (jca (g:=gb516) (o:=.cells #[.slice A0_0 l0_0.length c0_0] 32 (0,0)) (kq BK516.out)):gb516≠gb521));have NB521_516:=am ((by rw [hg];exact Nat.ne_of_gt (jca (g:=gb516) (o:=.cells #[.slice A0_0 l0_0.length c0_0] 32 (0,0)) (kq BK516.out)):gb521≠gb516));have NB517_521:=am ((by rw [hg];exact Nat.ne_of_lt (jca (g:=gb517) (o:=.cells #[.slice none 0 0] 32 (0,0)) (kq BK517.out)):gb517≠gb521));have NB521_517:=am ((by rw [hg];exact Nat.ne_of_gt (jca (g:=gb517) (o:=.cells #[.slice none 0 0] 32 (0,0)) (kq BK517.out)):gb521≠gb517));replace HO520:=am (Kd.jX (rq HO520.out) hb);replace BK516:=am (je (g:=gb516) (o:=.cells #[.slice A0_0 l0_0.length c0_0] 32 (0,0)) (kq BK516.out) hb);replace BK517:=am (je (g:=gb517) (o:=.cells #[.slice none 0 0] 32 (0,0)) (kq BK517.out) hb);replace HB:=am (jf (Y113) hb);clear hb hbox hg;obtain ⟨Ao12,co12,eo12⟩:=Kd.jZ HO520.out;subst eo12;have hnb13:=NB521_516.out;have hnc13:=NB516_521.out;have hnb14:=NB521_517.out;have hnc14:=NB517_521.out;have hcz15_0:=bc0 BK521.out;have hfz15_0:=jb BK521.out 0))
 (try simp only [Act.put,List.setIfInBounds_toArray,List.set_cons_zero,List.set_cons_succ])
 go_cut [17] (fun v17 wc=>∃ (kq:Nat) (x17_4:Bool),v17=.bool x17_4∧jC (jfa.j0 kq a1 a2 x17_4 t518=some r)∧jC (kq≤k)∧jC (Kd.R k54 54 wc w.heap.size (fun _=>True) (.slice Ao12 t518.length co12) t518)∧jC (wc.heap[gb516]?=some (.cells #[(.slice A0_0 l0_0.length c0_0)] 32 (0,0)))∧jC (wc.heap[gb517]?=some (.cells #[(.slice none 0 0)] 32 (0,0)))∧jC (wc.heap[gb521]?=some (.cells #[(.slice Ao12 t518.length co12)] 32 (0,0)))∧jC (Below w.heap.size w wc))
 case first =>
  have H:=HC5.out
  clear HC5
  by_cases c16:a1=a2
  ·rw [if_pos c16] at H
   have c16b0:(a1 == a2)=true:=beq_iff_eq.mpr c16
   have c16b1:(a1 != a2)=false:=bne_eq_false_iff_eq.mpr c16
   clear c16
   (first | rw [c16b0] |(simp only [job,jsb];rw [c16b0]) | skip)
   have H':=am H
   clear H
   go_wp2
   go_meet
   case rel=>exact ⟨_,(true),(sq),H',⟨Y60⟩,⟨by (with_reducible repeat (first | apply Kd.jU | apply Kd.jW | apply Kd.jS));exact Kd.jH (Kd.jra (p:=⟨gb521,0,none⟩) (Kd.jN HO520.out BK521.out (by decide)) (fun _ hk=>hk.2) (.slice Ao12 t518.length co12)) (fun _ hk=>trivial)⟩,⟨by (with_reducible repeat (first | refine jh ?_ _ | refine jg ?_ | refine jk ?_ _));refine jO ?_ NB516_521.out _;(with_reducible repeat (first | refine jh ?_ _ | refine jg ?_ | refine jk ?_ _));exact BK516.out⟩,⟨by (with_reducible repeat (first | refine jh ?_ _ | refine jg ?_ | refine jk ?_ _));refine jO ?_ NB517_521.out _;(with_reducible repeat (first | refine jh ?_ _ | refine jg ?_ | refine jk ?_ _));exact BK517.out⟩,⟨by (with_reducible repeat (first | refine jh ?_ _ | refine jg ?_ | refine jk ?_ _));refine jya (cs:=#[.slice none 0 0]) ?_ 0 _ rfl;(with_reducible repeat (first | refine jh ?_ _ | refine jg ?_ | refine jk ?_ _));exact BK521.out⟩,⟨Y55⟩⟩
  ·rw [if_neg c16] at H
   have c16b0:(a1 == a2)=false:=beq_eq_false_iff_ne.mpr c16
   have c16b1:(a1 != a2)=true:=bne_iff_ne.mpr c16
   (first | rw [c16b0] |(simp only [job,jsb];rw [c16b0]) | skip)
   have H':=am H
   clear H
   go_wp2
   go_meet
   case rel=>exact ⟨_,(decide (a2<0)),(sq),H',⟨Y60⟩,⟨by (with_reducible repeat (first | apply Kd.jU | apply Kd.jW | apply Kd.jS));exact Kd.jH (Kd.jra (p:=⟨gb521,0,none⟩) (Kd.jN HO520.out BK521.out (by decide)) (fun _ hk=>hk.2) (.slice Ao12 t518.length co12)) (fun _ hk=>trivial)⟩,⟨by (with_reducible repeat (first | refine jh ?_ _ | refine jg ?_ | refine jk ?_ _));refine jO ?_ NB516_521.out _;(with_reducible repeat (first | refine jh ?_ _ | refine jg ?_ | refine jk ?_ _));exact BK516.out⟩,⟨by (with_reducible repeat (first | refine jh ?_ _ | refine jg ?_ | refine jk ?_ _));refine jO ?_ NB517_521.out _;(with_reducible repeat (first | refine jh ?_ _ | refine jg ?_ | refine jk ?_ _));exact BK517.out⟩,⟨by (with_reducible repeat (first | refine jh ?_ _ | refine jg ?_ | refine jk ?_ _));refine jya (cs:=#[.slice none 0 0]) ?_ 0 _ rfl;(with_reducible repeat (first | refine jh ?_ _ | refine jg ?_ | refine jk ?_ _));exact BK521.out⟩,⟨Y55⟩⟩
 case rest =>
  clear HC5
  try clear c1
  try clear p2
  try clear c6
  try clear c8
  try clear c9
  try clear c13
  try clear c14
  try clear c16
  try clear c16b0
  try clear c16b1
  try clear hcz15_0
  try clear hcz9_0
  try clear hfz15_0
  try clear hfz9_0
  obtain ⟨kq,x17_4,rfl,HA,HJ4,HO_522000,BK516,BK517,BK521,HB⟩:=hcut
  cases kq with
  | zero=>exact absurd HA.out (by simp [jfa.j0])
  | succ kj4 =>
   have H:=HA.out
   clear HA
   simp only [jfa.j0] at H
   by_cases c17:x17_4=true
   ·subst c17
    have H1:(some t518)=some r:=by rw [if_pos rfl] at H;exact H
    clear H
    have H:=H1
    clear H1
    obtain rfl:=Option.some.inj H
    have hnb18:=NB521_516.out
    have hnc18:=NB516_521.out
    have hnb19:=NB521_517.out
    have hnc19:=NB517_521.out
    have hcz20_0:=bc0 BK521.out
    have hfz20_0:=jb BK521.out 0
    have hnb21:=NB517_516.out
    have hnc21:=NB516_517.out
    have hcz22_0:=bc0 BK517.out
    have hfz22_0:=jb BK517.out 0
    go_wp2
    refine bodyPost_ret (results_cell_row rfl _ _ gb517 32 #[.slice Ao12 t518.length co12] (0,0) _ rfl (Y114) Try.underlying32 rfl (by kernel_rfl)) rfl ?_
    exact ⟨_,Y1,by (with_reducible repeat (first | apply Kd.jU | apply Kd.jW | apply Kd.jS));exact Kd.jH (Kd.jra (p:=⟨gb517,0,none⟩) (Kd.jN HO_522000.out BK517.out (by decide)) (fun _ hk=>hk.2) (.slice Ao12 t518.length co12)) (fun _ hk=>trivial),Y55⟩
   ·replace c17:=Bool.eq_false_iff.mpr c17
    subst c17
    have H1:(jfa.l0 kj4 a1 a2 a2 t518)=some r:=by rw [if_neg (show ¬ (false=true) by decide)] at H;exact H
    clear H
    have H:=H1
    clear H1
    have H':=am H
    clear H
    go_wp2
    go_loopg [8] kj4 (fun kq v8 w'=>∃ (x8_2:Int) (x522000_2:List (S54)) (u522000:Value),v8=.int .i64 x8_2∧jC (jfa.l0 kq a1 a2 x8_2 x522000_2=some r)∧jC (kq≤kj4)∧jC (Kd.R k54 54 w' w.heap.size (fun _=>True) u522000 x522000_2)∧jC (w'.heap[gb516]?=some (.cells #[(.slice A0_0 l0_0.length c0_0)] 32 (0,0)))∧jC (w'.heap[gb517]?=some (.cells #[(.slice none 0 0)] 32 (0,0)))∧jC (w'.heap[gb521]?=some (.cells #[u522000] 32 (0,0)))∧jC (Below w.heap.size w w'))
    case atStart=>exact ⟨(a2),(t518),(.slice Ao12 t518.length co12),(sq),H',⟨Nat.le_refl _⟩,⟨rq HO_522000.out⟩,⟨kq BK516.out⟩,⟨kq BK517.out⟩,⟨kq BK521.out⟩,⟨Y55⟩⟩
    case round =>
     clear H'
     try clear c1
     try clear c2
     try clear p2
     try clear c6
     try clear c8
     try clear c9
     try clear c13
     try clear c14
     try clear c16
     try clear c16b0
     try clear c16b1
     try clear c17
     try clear c18
     try clear c19
     try clear c21
     try clear hcz15_0
     try clear hcz20_0
     try clear hcz22_0
     try clear hcz9_0
     try clear hfz15_0
     try clear hfz20_0
     try clear hfz22_0
     try clear hfz9_0
     try clear p2
     obtain ⟨x8_2,x522000_2,u522000,rfl,HA,HK2,HO_522000,BK516,BK517,BK521,HB⟩:=hrel
     cases gk with
     | zero=>exact absurd HA.out (by simp [jfa.l0])
     | succ k2 =>
      have H:=HA.out
      clear HA
      simp only [jfa.l0] at H
      by_cases c23:0≤x8_2
      ·rw [if_pos c23] at H
       have c23b0:decide (0≤x8_2)=true:=dzT c23
       clear c23
       by_cases c24:x8_2<(x522000_2.length:Int)
       ·rw [if_pos c24] at H
        have c24b0:decide (x8_2<(x522000_2.length:Int))=true:=dzT c24
        clear c24
        by_cases c25:((ja x522000_2 x8_2).f3)≥0
        ·rw [if_pos c25] at H
         have c25b0:decide (0≤((ja x522000_2 x8_2).f3))=true:=dzT c25
         clear c25
         by_cases c26:((ja x522000_2 x8_2).f3)=a1
         ·rw [if_pos c26] at H
          have c26b0:(((ja x522000_2 x8_2).f3) == a1)=true:=beq_iff_eq.mpr c26
          have c26b1:(((ja x522000_2 x8_2).f3) != a1)=false:=bne_eq_false_iff_eq.mpr c26
          clear c26
          obtain ⟨y525,hy525⟩:∃ y_:List (S54),y_=(x522000_2.set (x8_2:Int).toNat (⟨(ja x522000_2 x8_2).f0,(ja x522000_2 x8_2).f1,(ja x522000_2 x8_2).f2,(-1),(ja x522000_2 x8_2).f4⟩:S54)):=⟨_,rfl⟩
          replace H:(if 0≤a1 then (if a1<(x522000_2.length:Int) then (some (y525.set (a1:Int).toNat (⟨(ja y525 a1).f0,(ja y525 a1).f1,(ja y525 a1).f2,a2,(ja y525 a1).f4⟩:S54))) else (none)) else (none))=some r:=by first |(rw [hy525];with_reducible exact H) |(have H2_:=(Option.bind_some _ _).symm.trans H;rw [hy525];with_reducible exact H2_) |(have H2_:=(Option.bind_some _ _).symm.trans H;with_reducible exact H2_) | with_reducible exact H |(rw [hy525];exact H) | exact H
          have Ny525:=am hy525
          clear hy525
          by_cases c28:0≤a1
          ·rw [if_pos c28] at H
           have c28b0:decide (0≤a1)=true:=dzT c28
           clear c28
           by_cases c29:a1<(x522000_2.length:Int)
           ·rw [if_pos c29] at H
            have c29b0:decide (a1<(x522000_2.length:Int))=true:=dzT c29
            clear c29
            obtain ⟨y526,hy526⟩:∃ y_:List (S54),y_=(y525.set (a1:Int).toNat (⟨(ja y525 a1).f0,(ja y525 a1).f1,(ja y525 a1).f2,a2,(ja y525 a1).f4⟩:S54)):=⟨_,rfl⟩
            replace H:(some y526)=some r:=by first |(rw [hy526];with_reducible exact H) |(have H2_:=(Option.bind_some _ _).symm.trans H;rw [hy526];with_reducible exact H2_) |(have H2_:=(Option.bind_some _ _).symm.trans H;with_reducible exact H2_) | with_reducible exact H |(rw [hy526];exact H) | exact H
            have Ny526:=am hy526
            clear hy526
            obtain rfl:=Option.some.inj H
            have hnb31:=NB521_516.out
            have hnc31:=NB516_521.out
            have hnb32:=NB521_517.out
            have hnc32:=NB517_521.out
            have hcz33_0:=bc0 BK521.out
            have hfz33_0:=jb BK521.out 0
            obtain ⟨Ao34,co34,eo34⟩:=Kd.jZ HO_522000.out
            subst eo34
            have p522:0≤(x8_2:Int):=ozD (uq)
            have q522:x8_2<(x522000_2.length:Int):=ozD (uq)
            obtain ⟨ad522,e522,hx522_0,hx522_1,hx522_2,hx522_3,hx522_4⟩:=jdb (Kd.jB HO_522000.out).2.2 x8_2 p522 q522
            cases e522
            replace p522:=ezT p522
            replace q522:=ezT q522
            have p524:0≤(x8_2:Int):=ozD (uq)
            have q524:x8_2<(x522000_2.length:Int):=ozD (uq)
            obtain ⟨ad524,e524,hx524_0,hx524_1,hx524_2,hx524_3,hx524_4⟩:=jdb (Kd.jB HO_522000.out).2.2 x8_2 p524 q524
            obtain rfl:ad522=ad524:=(by injection e524)
            replace p524:=ezT p524
            replace q524:=ezT q524
            have p27:0≤(x8_2:Int):=ozD (uq)
            have q27:(x8_2:Int)<((x522000_2.length:Int):Int):=ozD (uq)
            obtain ⟨go27,co27,eo27,gb27,gl27,cl27,HG27⟩:=Kd.R_form HO_522000.out (by omega)
            (first | cases eo27 |(injection eo27 with ea_ en_ ec_;(first | subst ea_ |(injection ea_ with ea_;subst ea_));subst ec_;clear en_))
            have GB27:=am gb27
            have GG27:=am HG27
            clear gb27 gl27 HG27
            (first | simp only [add_plain] at hx522_0 | skip)
            (first | simp only [add_plain] at hx522_1 | skip)
            (first | simp only [add_plain] at hx522_2 | skip)
            (first | simp only [add_plain] at hx522_3 | skip)
            (first | simp only [add_plain] at hx522_4 | skip)
            (first | simp only [add_plain] at hx524_0 | skip)
            (first | simp only [add_plain] at hx524_1 | skip)
            (first | simp only [add_plain] at hx524_2 | skip)
            (first | simp only [add_plain] at hx524_3 | skip)
            (first | simp only [add_plain] at hx524_4 | skip)
            obtain ⟨ce27,hcl27,hM27,hcc27,hfr27⟩:=Kd.jqb HO_522000.out z54 (x8_2:Int) p27 q27
            obtain rfl:=jQa hM27
            have hx27_0:wr.cell? ⟨go27,(x8_2:Int).toNat * 5,none⟩=some (.int .i64 ((ja x522000_2 x8_2).f0)):=hcc27 0 _ rfl
            have hx27_1:wr.cell? ⟨go27,(x8_2:Int).toNat * 5+1,none⟩=some (.int .i64 ((ja x522000_2 x8_2).f1)):=hcc27 1 _ rfl
            have hx27_2:wr.cell? ⟨go27,(x8_2:Int).toNat * 5+2,none⟩=some (.int .i64 ((ja x522000_2 x8_2).f2)):=hcc27 2 _ rfl
            have hx27_3:wr.cell? ⟨go27,(x8_2:Int).toNat * 5+3,none⟩=some (.int .i64 ((ja x522000_2 x8_2).f3)):=hcc27 3 _ rfl
            have hx27_4:wr.cell? ⟨go27,(x8_2:Int).toNat * 5+4,none⟩=some (.bool ((ja x522000_2 x8_2).f4)):=hcc27 4 _ rfl
            have hf27_0:wr.frozen? ⟨go27,(x8_2:Int).toNat * 5,none⟩=false:=hfr27 0
            have hf27_1:wr.frozen? ⟨go27,(x8_2:Int).toNat * 5+1,none⟩=false:=hfr27 1
            have hf27_2:wr.frozen? ⟨go27,(x8_2:Int).toNat * 5+2,none⟩=false:=hfr27 2
            have hf27_3:wr.frozen? ⟨go27,(x8_2:Int).toNat * 5+3,none⟩=false:=hfr27 3
            have hf27_4:wr.frozen? ⟨go27,(x8_2:Int).toNat * 5+4,none⟩=false:=hfr27 4
            clear hcl27 hcc27 hfr27 hM27
            replace p27:=ezT p27
            replace q27:=ezT q27
            have HX35:=am (show Kd.R k54 54 wr w.heap.size (fun _=>True) (.slice (some ⟨go27,0,none⟩) x522000_2.length co34) x522000_2 from (rq HO_522000.out))
            obtain ⟨ce35,hcl35,hM35,hcc35,hfr35⟩:=Kd.jqb HX35.out z54 (x8_2:Int) (ozD (uq)) (by have h_:(x8_2:Int)<((x522000_2.length:Int):Int):=ozD (uq);first | exact h_ |(have e_:=(Kd.jB HO_522000.out).1;omega) | simpa using h_)
            obtain rfl:=jQa hM35
            have HP35:=Kd.R_seg HX35.out (x8_2:Int) (ozD (uq)) (by have h_:(x8_2:Int)<((x522000_2.length:Int):Int):=ozD (uq);first | exact h_ |(have e_:=(Kd.jB HO_522000.out).1;omega) | simpa using h_) (seg:=[.int .i64 (-1)]) (j:=3) hcl35 hcc35 (show 4≤5 from by decide) (x':=(⟨(ja x522000_2 x8_2).f0,(ja x522000_2 x8_2).f1,(ja x522000_2 x8_2).f2,(-1),(ja x522000_2 x8_2).f4⟩:S54)) (jQb _ _ _ (⟨(ja x522000_2 x8_2).f0,(ja x522000_2 x8_2).f1,(ja x522000_2 x8_2).f2,(-1),(ja x522000_2 x8_2).f4⟩:S54) ) (fun _ hk=>hk)
            have hx35_3:=hcc35 3 _ rfl
            (try simp only [show (k54).sz=5 from rfl,Nat.mul_one,Nat.add_zero] at hx35_3)
            have hf35_3:=hfr35 3
            (try simp only [show (k54).sz=5 from rfl,Nat.mul_one,Nat.add_zero] at hf35_3)
            clear hcl35 hcc35 hfr35 hM35
            go_wp2_with (first |((with_reducible refine jVb (t:=3) (p:=45) rfl ?_);refine jOb (t:=3) (p:=45) (v:=?vo_w36) (w1:=(wr.setCell ⟨go27,(x8_2:Int).toNat * 5+3,none⟩ (.int .i64 (-1)))) ?hg ?ho ?hn ?hr ?_;(case ho=>rfl);(case hg=>rfl);(case hn=>rfl);(case hr=>exact Y4);intro w36 hw;have hg:wr.grownBy w36 (some go27):=(by rw [hw];exact HP35.2);have hp_:Kd.R k54 54 w36 w.heap.size (fun _=>True) (.slice (some ⟨go27,0,none⟩) x522000_2.length co34) y525:=(by rw [hw,Ny525.out];exact HP35.1);clear HP35;replace BK516:=am (jCa (g:=gb516) (o:=.cells #[.slice A0_0 l0_0.length c0_0] 32 (0,0)) (kq BK516.out) hg (Kd.R_ne HO_522000.out BK516.out (by decide)));replace BK517:=am (jCa (g:=gb517) (o:=.cells #[.slice none 0 0] 32 (0,0)) (kq BK517.out) hg (Kd.R_ne HO_522000.out BK517.out (by decide)));replace BK521:=am (jCa (g:=gb521) (o:=.cells #[.slice (some ⟨go27,0,none⟩) x522000_2.length co34] 32 (0,0)) (kq BK521.out) hg (Kd.R_ne HO_522000.out BK521.out (by decide)));replace HO_522000:=am (hp_);replace HB:=am ((by rw [hw];exact jm (HB.out) GB27.out:Below w.heap.size w w36));clear hg hw hp_;have hcz37_0:=bc0 BK521.out;have hfz37_0:=jb BK521.out 0;have p30:0≤(a1:Int):=ozD (uq);have q30:(a1:Int)<((x522000_2.length:Int):Int):=ozD (uq);obtain ⟨ce30,hcl30,hM30,hcc30,hfr30⟩:=Kd.jqb HO_522000.out z54 (a1:Int) p30 q30;obtain rfl:=jQa hM30;have hx30_0:w36.cell? ⟨go27,(a1:Int).toNat * 5,none⟩=some (.int .i64 ((ja y525 a1).f0)):=hcc30 0 _ rfl;have hx30_1:w36.cell? ⟨go27,(a1:Int).toNat * 5+1,none⟩=some (.int .i64 ((ja y525 a1).f1)):=hcc30 1 _ rfl;have hx30_2:w36.cell? ⟨go27,(a1:Int).toNat * 5+2,none⟩=some (.int .i64 ((ja y525 a1).f2)):=hcc30 2 _ rfl;have hx30_3:w36.cell? ⟨go27,(a1:Int).toNat * 5+3,none⟩=some (.int .i64 ((ja y525 a1).f3)):=hcc30 3 _ rfl;have hx30_4:w36.cell? ⟨go27,(a1:Int).toNat * 5+4,none⟩=some (.bool ((ja y525 a1).f4)):=hcc30 4 _ rfl;have hf30_0:w36.frozen? ⟨go27,(a1:Int).toNat * 5,none⟩=false:=hfr30 0;have hf30_1:w36.frozen? ⟨go27,(a1:Int).toNat * 5+1,none⟩=false:=hfr30 1;have hf30_2:w36.frozen? ⟨go27,(a1:Int).toNat * 5+2,none⟩=false:=hfr30 2;have hf30_3:w36.frozen? ⟨go27,(a1:Int).toNat * 5+3,none⟩=false:=hfr30 3;have hf30_4:w36.frozen? ⟨go27,(a1:Int).toNat * 5+4,none⟩=false:=hfr30 4;clear hcl30 hcc30 hfr30 hM30;replace p30:=ezT p30;replace q30:=ezT q30;have HX38:=am (show Kd.R k54 54 w36 w.heap.size (fun _=>True) (.slice (some ⟨go27,0,none⟩) x522000_2.length co34) y525 from (rq HO_522000.out));obtain ⟨ce38,hcl38,hM38,hcc38,hfr38⟩:=Kd.jqb HX38.out z54 (a1:Int) (ozD (uq)) (by have h_:(a1:Int)<((x522000_2.length:Int):Int):=ozD (uq);first | exact h_ |(have e_:=(Kd.jB HO_522000.out).1;omega) | simpa using h_);obtain rfl:=jQa hM38;have HP38:=Kd.R_seg HX38.out (a1:Int) (ozD (uq)) (by have h_:(a1:Int)<((x522000_2.length:Int):Int):=ozD (uq);first | exact h_ |(have e_:=(Kd.jB HO_522000.out).1;omega) | simpa using h_) (seg:=[.int .i64 a2]) (j:=3) hcl38 hcc38 (show 4≤5 from by decide) (x':=(⟨(ja y525 a1).f0,(ja y525 a1).f1,(ja y525 a1).f2,a2,(ja y525 a1).f4⟩:S54)) (jQb _ _ _ (⟨(ja y525 a1).f0,(ja y525 a1).f1,(ja y525 a1).f2,a2,(ja y525 a1).f4⟩:S54) ) (fun _ hk=>hk);have hx38_3:=hcc38 3 _ rfl;(try simp only [show (k54).sz=5 from rfl,Nat.mul_one,Nat.add_zero] at hx38_3);have hf38_3:=hfr38 3;(try simp only [show (k54).sz=5 from rfl,Nat.mul_one,Nat.add_zero] at hf38_3);clear hcl38 hcc38 hfr38 hM38) |((with_reducible refine jVb (t:=3) (p:=51) rfl ?_);refine jOb (t:=3) (p:=51) (v:=?vo_w39) (w1:=(w36.setCell ⟨go27,(a1:Int).toNat * 5+3,none⟩ (.int .i64 a2))) ?hg ?ho ?hn ?hr ?_;(case ho=>rfl);(case hg=>rfl);(case hn=>rfl);(case hr=>exact Y4);intro w39 hw;have hg:w36.grownBy w39 (some go27):=(by rw [hw];exact HP38.2);have hp_:Kd.R k54 54 w39 w.heap.size (fun _=>True) (.slice (some ⟨go27,0,none⟩) x522000_2.length co34) y526:=(by rw [hw,Ny526.out];exact HP38.1);clear HP38;replace BK516:=am (jCa (g:=gb516) (o:=.cells #[.slice A0_0 l0_0.length c0_0] 32 (0,0)) (kq BK516.out) hg (Kd.R_ne HO_522000.out BK516.out (by decide)));replace BK517:=am (jCa (g:=gb517) (o:=.cells #[.slice none 0 0] 32 (0,0)) (kq BK517.out) hg (Kd.R_ne HO_522000.out BK517.out (by decide)));replace BK521:=am (jCa (g:=gb521) (o:=.cells #[.slice (some ⟨go27,0,none⟩) x522000_2.length co34] 32 (0,0)) (kq BK521.out) hg (Kd.R_ne HO_522000.out BK521.out (by decide)));replace HO_522000:=am (hp_);replace HB:=am ((by rw [hw];exact jm (HB.out) GB27.out:Below w.heap.size w w39));clear hg hw hp_;have hcz40_0:=bc0 BK521.out;have hfz40_0:=jb BK521.out 0;have hnb41:=NB517_516.out;have hnc41:=NB516_517.out;have hcz42_0:=bc0 BK517.out;have hfz42_0:=jb BK517.out 0))
            refine bodyPost_ret (results_cell_row rfl _ _ gb517 32 #[.slice (some ⟨go27,0,none⟩) x522000_2.length co34] (0,0) _ rfl (Y114) Try.underlying32 rfl (by kernel_rfl)) rfl ?_
            exact ⟨_,Y1,by (with_reducible repeat (first | apply Kd.jU | apply Kd.jW | apply Kd.jS));exact Kd.jH (Kd.jra (p:=⟨gb517,0,none⟩) (Kd.jN HO_522000.out BK517.out (by decide)) (fun _ hk=>hk.2) (.slice (some ⟨go27,0,none⟩) x522000_2.length co34)) (fun _ hk=>trivial),Y55⟩
           ·rw [if_neg c29] at H
            exact absurd H (by simp)
          ·rw [if_neg c28] at H
           exact absurd H (by simp)
         ·rw [if_neg c26] at H
          have c26b0:(((ja x522000_2 x8_2).f3) == a1)=false:=beq_eq_false_iff_ne.mpr c26
          have c26b1:(((ja x522000_2 x8_2).f3) != a1)=true:=bne_iff_ne.mpr c26
          have H':=am H
          clear H
          have hnb43:=NB521_516.out
          have hnc43:=NB516_521.out
          have hnb44:=NB521_517.out
          have hnc44:=NB517_521.out
          have hcz45_0:=bc0 BK521.out
          have hfz45_0:=jb BK521.out 0
          obtain ⟨Ao46,co46,eo46⟩:=Kd.jZ HO_522000.out
          subst eo46
          have p522:0≤(x8_2:Int):=ozD (uq)
          have q522:x8_2<(x522000_2.length:Int):=ozD (uq)
          obtain ⟨ad522,e522,hx522_0,hx522_1,hx522_2,hx522_3,hx522_4⟩:=jdb (Kd.jB HO_522000.out).2.2 x8_2 p522 q522
          cases e522
          replace p522:=ezT p522
          replace q522:=ezT q522
          have p524:0≤(x8_2:Int):=ozD (uq)
          have q524:x8_2<(x522000_2.length:Int):=ozD (uq)
          obtain ⟨ad524,e524,hx524_0,hx524_1,hx524_2,hx524_3,hx524_4⟩:=jdb (Kd.jB HO_522000.out).2.2 x8_2 p524 q524
          obtain rfl:ad522=ad524:=(by injection e524)
          replace p524:=ezT p524
          replace q524:=ezT q524
          have p527:0≤(x8_2:Int):=ozD (uq)
          have q527:x8_2<(x522000_2.length:Int):=ozD (uq)
          obtain ⟨ad527,e527,hx527_0,hx527_1,hx527_2,hx527_3,hx527_4⟩:=jdb (Kd.jB HO_522000.out).2.2 x8_2 p527 q527
          obtain rfl:ad522=ad527:=(by injection e527)
          replace p527:=ezT p527
          replace q527:=ezT q527
          go_wp2
          go_roundg k2
          case measure=>have:=HJ4.out;have:=HK2.out;omega
          case rel=>exact ⟨((ja x522000_2 x8_2).f3),(x522000_2),(.slice (some ad522) x522000_2.length co46),(sq),H',⟨by have:=HJ4.out;have:=HK2.out;omega⟩,⟨rq HO_522000.out⟩,⟨kq BK516.out⟩,⟨kq BK517.out⟩,⟨kq BK521.out⟩,⟨Y55⟩⟩
        ·rw [if_neg c25] at H
         have c25b0:decide (0≤((ja x522000_2 x8_2).f3))=false:=dzF c25
         clear c25
         by_cases c47:0≤a1
         ·rw [if_pos c47] at H
          have c47b0:decide (0≤a1)=true:=dzT c47
          clear c47
          by_cases c48:a1<(x522000_2.length:Int)
          ·rw [if_pos c48] at H
           have c48b0:decide (a1<(x522000_2.length:Int))=true:=dzT c48
           clear c48
           obtain ⟨y523,hy523⟩:∃ y_:List (S54),y_=(x522000_2.set (a1:Int).toNat (⟨(ja x522000_2 a1).f0,(ja x522000_2 a1).f1,(ja x522000_2 a1).f2,a2,(ja x522000_2 a1).f4⟩:S54)):=⟨_,rfl⟩
           replace H:(some y523)=some r:=by first |(rw [hy523];with_reducible exact H) |(have H2_:=(Option.bind_some _ _).symm.trans H;rw [hy523];with_reducible exact H2_) |(have H2_:=(Option.bind_some _ _).symm.trans H;with_reducible exact H2_) | with_reducible exact H |(rw [hy523];exact H) | exact H
           have Ny523:=am hy523
           clear hy523
           obtain rfl:=Option.some.inj H
           have hnb50:=NB521_516.out
           have hnc50:=NB516_521.out
           have hnb51:=NB521_517.out
           have hnc51:=NB517_521.out
           have hcz52_0:=bc0 BK521.out
           have hfz52_0:=jb BK521.out 0
           obtain ⟨Ao53,co53,eo53⟩:=Kd.jZ HO_522000.out
           subst eo53
           have p522:0≤(x8_2:Int):=ozD (uq)
           have q522:x8_2<(x522000_2.length:Int):=ozD (uq)
           obtain ⟨ad522,e522,hx522_0,hx522_1,hx522_2,hx522_3,hx522_4⟩:=jdb (Kd.jB HO_522000.out).2.2 x8_2 p522 q522
           cases e522
           replace p522:=ezT p522
           replace q522:=ezT q522
           have p49:0≤(a1:Int):=ozD (uq)
           have q49:(a1:Int)<((x522000_2.length:Int):Int):=ozD (uq)
           obtain ⟨go49,co49,eo49,gb49,gl49,cl49,HG49⟩:=Kd.R_form HO_522000.out (by omega)
           (first | cases eo49 |(injection eo49 with ea_ en_ ec_;(first | subst ea_ |(injection ea_ with ea_;subst ea_));subst ec_;clear en_))
           have GB49:=am gb49
           have GG49:=am HG49
           clear gb49 gl49 HG49
           (first | simp only [add_plain] at hx522_0 | skip)
           (first | simp only [add_plain] at hx522_1 | skip)
           (first | simp only [add_plain] at hx522_2 | skip)
           (first | simp only [add_plain] at hx522_3 | skip)
           (first | simp only [add_plain] at hx522_4 | skip)
           (first | simp only [add_plain] at hx524_0 | skip)
           (first | simp only [add_plain] at hx524_1 | skip)
           (first | simp only [add_plain] at hx524_2 | skip)
           (first | simp only [add_plain] at hx524_3 | skip)
           (first | simp only [add_plain] at hx524_4 | skip)
           (first | simp only [add_plain] at hx527_0 | skip)
           (first | simp only [add_plain] at hx527_1 | skip)
           (first | simp only [add_plain] at hx527_2 | skip)
           (first | simp only [add_plain] at hx527_3 | skip)
           (first | simp only [add_plain] at hx527_4 | skip)
           obtain ⟨ce49,hcl49,hM49,hcc49,hfr49⟩:=Kd.jqb HO_522000.out z54 (a1:Int) p49 q49
           obtain rfl:=jQa hM49
           have hx49_0:wr.cell? ⟨go49,(a1:Int).toNat * 5,none⟩=some (.int .i64 ((ja x522000_2 a1).f0)):=hcc49 0 _ rfl
           have hx49_1:wr.cell? ⟨go49,(a1:Int).toNat * 5+1,none⟩=some (.int .i64 ((ja x522000_2 a1).f1)):=hcc49 1 _ rfl
           have hx49_2:wr.cell? ⟨go49,(a1:Int).toNat * 5+2,none⟩=some (.int .i64 ((ja x522000_2 a1).f2)):=hcc49 2 _ rfl
           have hx49_3:wr.cell? ⟨go49,(a1:Int).toNat * 5+3,none⟩=some (.int .i64 ((ja x522000_2 a1).f3)):=hcc49 3 _ rfl
           have hx49_4:wr.cell? ⟨go49,(a1:Int).toNat * 5+4,none⟩=some (.bool ((ja x522000_2 a1).f4)):=hcc49 4 _ rfl
           have hf49_0:wr.frozen? ⟨go49,(a1:Int).toNat * 5,none⟩=false:=hfr49 0
           have hf49_1:wr.frozen? ⟨go49,(a1:Int).toNat * 5+1,none⟩=false:=hfr49 1
           have hf49_2:wr.frozen? ⟨go49,(a1:Int).toNat * 5+2,none⟩=false:=hfr49 2
           have hf49_3:wr.frozen? ⟨go49,(a1:Int).toNat * 5+3,none⟩=false:=hfr49 3
           have hf49_4:wr.frozen? ⟨go49,(a1:Int).toNat * 5+4,none⟩=false:=hfr49 4
           clear hcl49 hcc49 hfr49 hM49
           replace p49:=ezT p49
           replace q49:=ezT q49
           have HX54:=am (show Kd.R k54 54 wr w.heap.size (fun _=>True) (.slice (some ⟨go49,0,none⟩) x522000_2.length co53) x522000_2 from (rq HO_522000.out))
           obtain ⟨ce54,hcl54,hM54,hcc54,hfr54⟩:=Kd.jqb HX54.out z54 (a1:Int) (ozD (uq)) (by have h_:(a1:Int)<((x522000_2.length:Int):Int):=ozD (uq);first | exact h_ |(have e_:=(Kd.jB HO_522000.out).1;omega) | simpa using h_)
           obtain rfl:=jQa hM54
           have HP54:=Kd.R_seg HX54.out (a1:Int) (ozD (uq)) (by have h_:(a1:Int)<((x522000_2.length:Int):Int):=ozD (uq);first | exact h_ |(have e_:=(Kd.jB HO_522000.out).1;omega) | simpa using h_) (seg:=[.int .i64 a2]) (j:=3) hcl54 hcc54 (show 4≤5 from by decide) (x':=(⟨(ja x522000_2 a1).f0,(ja x522000_2 a1).f1,(ja x522000_2 a1).f2,a2,(ja x522000_2 a1).f4⟩:S54)) (jQb _ _ _ (⟨(ja x522000_2 a1).f0,(ja x522000_2 a1).f1,(ja x522000_2 a1).f2,a2,(ja x522000_2 a1).f4⟩:S54) ) (fun _ hk=>hk)
           have hx54_3:=hcc54 3 _ rfl
           (try simp only [show (k54).sz=5 from rfl,Nat.mul_one,Nat.add_zero] at hx54_3)
           have hf54_3:=hfr54 3
           (try simp only [show (k54).sz=5 from rfl,Nat.mul_one,Nat.add_zero] at hf54_3)
           clear hcl54 hcc54 hfr54 hM54
           go_wp2_with (first |((with_reducible refine jVb (t:=3) (p:=51) rfl ?_);refine jOb (t:=3) (p:=51) (v:=?vo_w55) (w1:=(wr.setCell ⟨go49,(a1:Int).toNat * 5+3,none⟩ (.int .i64 a2))) ?hg ?ho ?hn ?hr ?_;(case ho=>rfl);(case hg=>rfl);(case hn=>rfl);(case hr=>exact Y4);intro w55 hw;have hg:wr.grownBy w55 (some go49):=(by rw [hw];exact HP54.2);have hp_:Kd.R k54 54 w55 w.heap.size (fun _=>True) (.slice (some ⟨go49,0,none⟩) x522000_2.length co53) y523:=(by rw [hw,Ny523.out];exact HP54.1);clear HP54;replace BK516:=am (jCa (g:=gb516) (o:=.cells #[.slice A0_0 l0_0.length c0_0] 32 (0,0)) (kq BK516.out) hg (Kd.R_ne HO_522000.out BK516.out (by decide)));replace BK517:=am (jCa (g:=gb517) (o:=.cells #[.slice none 0 0] 32 (0,0)) (kq BK517.out) hg (Kd.R_ne HO_522000.out BK517.out (by decide)));replace BK521:=am (jCa (g:=gb521) (o:=.cells #[.slice (some ⟨go49,0,none⟩) x522000_2.length co53] 32 (0,0)) (kq BK521.out) hg (Kd.R_ne HO_522000.out BK521.out (by decide)));replace HO_522000:=am (hp_);replace HB:=am ((by rw [hw];exact jm (HB.out) GB49.out:Below w.heap.size w w55));clear hg hw hp_;have hcz56_0:=bc0 BK521.out;have hfz56_0:=jb BK521.out 0;have hnb57:=NB517_516.out;have hnc57:=NB516_517.out;have hcz58_0:=bc0 BK517.out;have hfz58_0:=jb BK517.out 0))
           refine bodyPost_ret (results_cell_row rfl _ _ gb517 32 #[.slice (some ⟨go49,0,none⟩) x522000_2.length co53] (0,0) _ rfl (Y114) Try.underlying32 rfl (by kernel_rfl)) rfl ?_
           exact ⟨_,Y1,by (with_reducible repeat (first | apply Kd.jU | apply Kd.jW | apply Kd.jS));exact Kd.jH (Kd.jra (p:=⟨gb517,0,none⟩) (Kd.jN HO_522000.out BK517.out (by decide)) (fun _ hk=>hk.2) (.slice (some ⟨go49,0,none⟩) x522000_2.length co53)) (fun _ hk=>trivial),Y55⟩
          ·rw [if_neg c48] at H
           exact absurd H (by simp)
         ·rw [if_neg c47] at H
          exact absurd H (by simp)
       ·rw [if_neg c24] at H
        exact absurd H (by simp)
      ·rw [if_neg c23] at H
       exact absurd H (by simp)
end Go.Proofs.Ytecdfgejmbpclaa.P
end
