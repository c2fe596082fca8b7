/- One part of the proofs on this program: functions of the program as plain functions, that the code comes to them, and facts on them. -/
import Derived.Test.YtecdfgejmbpclaaYAll1
import Derived.Test.YtecdfgejmbpclaaYAll2
import Derived.Test.YtecdfgejmbpclaaYAll3
import Derived.Test.YtecdfgejmbpclaaYAll4
import Derived.Test.YtecdfgejmbpclaaYWAuto
section
namespace Go.Proofs.Ytecdfgejmbpclaa.P
open Go.RowKit Go.Proofs.YtecdfgejmbpclaaW.PrintWords Go.Proofs.YtecdfgejmbpclaaW.PrintLast Go.Proofs.YtecdfgejmbpclaaW.PrintMore
attribute [local go_sem] jqa joa jwa jva jea jda jpa jna jA
set_option linter.unusedVariables false
set_option linter.unusedSimpArgs false
def jJ.f (k : Nat) (s0_0 : List Int) (s0_1 : Int) : Option ((List (S94)) × (List (S54)) × Int) := (jY.f k s0_0 s0_1).bind fun bt628 => ((jq.f k s0_0 bt628.2 bt628.1).bind fun bt633 => (if (bt633.1.length : Int) > 0 then ((jl.f k s0_0 bt633.2 (bt633.1.length : Int)).bind fun bt638 => ((jl.f k s0_0 bt638.2 24).bind fun bt640 => (if bt640.1 = 0 then ((jv.f k s0_0 bt640.2 (([bt638.1, 9, (-2)] : List Int))).bind fun bt645 => (if 0 ≤ bt638.1 then (if bt638.1 < (bt633.1.length : Int) then (some (bt628.1, (bt633.1.set (bt638.1 : Int).toNat (⟨(ja bt633.1 bt638.1).f0, (ja bt633.1 bt638.1).f1, (ja bt633.1 bt638.1).f2, bt645.1, (ja bt633.1 bt638.1).f4⟩ : S54)), bt645.2)) else (none)) else (none))) else (if bt640.1 = 1 then ((jfb.f k s0_0 bt640.2 bt628.1).bind fun bt648 => (if 0 ≤ bt638.1 then (if bt638.1 < (bt633.1.length : Int) then (some (bt628.1, (bt633.1.set (bt638.1 : Int).toNat (⟨bt648.1, (ja bt633.1 bt638.1).f1, (ja bt633.1 bt638.1).f2, (ja bt633.1 bt638.1).f3, (ja bt633.1 bt638.1).f4⟩ : S54)), bt648.2)) else (none)) else (none))) else (if bt640.1 = 2 then ((jv.f k s0_0 bt640.2 (([(-1), 100] : List Int))).bind fun bt654 => (if 0 ≤ bt638.1 then (if bt638.1 < (bt633.1.length : Int) then (some (bt628.1, (bt633.1.set (bt638.1 : Int).toNat (⟨(ja bt633.1 bt638.1).f0, bt654.1, (ja bt633.1 bt638.1).f2, (ja bt633.1 bt638.1).f3, (ja bt633.1 bt638.1).f4⟩ : S54)), bt654.2)) else (none)) else (none))) else (if bt640.1 = 3 then ((jv.f k s0_0 bt640.2 (([bt638.1, 24, 0] : List Int))).bind fun bt660 => (if 0 ≤ bt638.1 then (if bt638.1 < (bt633.1.length : Int) then (some (bt628.1, (bt633.1.set (bt638.1 : Int).toNat (⟨(ja bt633.1 bt638.1).f0, (ja bt633.1 bt638.1).f1, bt660.1, (ja bt633.1 bt638.1).f3, (ja bt633.1 bt638.1).f4⟩ : S54)), bt660.2)) else (none)) else (none))) else (some (bt628.1, bt633.1, bt640.2)))))))) else (some (bt628.1, bt633.1, bt633.2))))
def jJ.T7 : Bool × List (List Nat × List Nat) := (true, [([], []), ([0], [0]), ([], []), ([], []), ([], []), ([4], [4]), ([3, 5], [3, 5]), ([1, 2, 0, 1, 2, 3, 4, 5, 6], [1, 2]), ([7, 0, 1, 2, 3, 4, 5, 6], [7]), ([8, 6, 6, 0, 1, 2, 3, 4, 5, 6], [6, 8])])
def jJ.B7 : List Nat := [0, 1, 0, 0, 0, 16, 56, 127, 255, 511]
theorem jJ.tab7 : rtab .any (opsOf Try.f61 7) = jJ.T7 := by kernel_rfl
theorem jJ.bits7 : jFb jJ.T7.2 jJ.B7 = true := by kernel_rfl
def jJ.T9 : Bool × List (List Nat × List Nat) := (true, [([], []), ([0], [0]), ([], []), ([], []), ([], []), ([3, 4], [3, 4]), ([1, 2, 0, 1, 2, 3, 4, 5], [1, 2]), ([6, 0, 1, 2, 3, 4, 5], [6]), ([7, 5, 5, 0, 1, 2, 3, 4, 5], [5, 7])])
def jJ.B9 : List Nat := [0, 1, 0, 0, 0, 24, 63, 127, 255]
theorem jJ.tab9 : rtab .any (opsOf Try.f61 9) = jJ.T9 := by kernel_rfl
theorem jJ.bits9 : jFb jJ.T9.2 jJ.B9 = true := by kernel_rfl
def jJ.T11 : Bool × List (List Nat × List Nat) := (true, [([], []), ([0], [0]), ([], []), ([], []), ([], []), ([3, 4], [3, 4]), ([1, 2, 0, 1, 2, 3, 4, 5], [1, 2]), ([6, 0, 1, 2, 3, 4, 5], [6]), ([7, 5, 5, 0, 1, 2, 3, 4, 5], [5, 7])])
def jJ.B11 : List Nat := [0, 1, 0, 0, 0, 24, 63, 127, 255]
theorem jJ.tab11 : rtab .any (opsOf Try.f61 11) = jJ.T11 := by kernel_rfl
theorem jJ.bits11 : jFb jJ.T11.2 jJ.B11 = true := by kernel_rfl
def jJ.T13 : Bool × List (List Nat × List Nat) := (true, [([], []), ([0], [0]), ([], []), ([], []), ([], []), ([4], [4]), ([3, 5], [3, 5]), ([1, 2, 0, 1, 2, 3, 4, 5, 6], [1, 2]), ([7, 0, 1, 2, 3, 4, 5, 6], [7]), ([8, 6, 6, 0, 1, 2, 3, 4, 5, 6], [6, 8])])
def jJ.B13 : List Nat := [0, 1, 0, 0, 0, 16, 56, 127, 255, 511]
theorem jJ.tab13 : rtab .any (opsOf Try.f61 13) = jJ.T13 := by kernel_rfl
theorem jJ.bits13 : jFb jJ.T13.2 jJ.B13 = true := by kernel_rfl
set_option maxHeartbeats 8000000 in
set_option maxRecDepth 100000 in
theorem jJ.calls (k : Nat) (g : Nat) (s0_0 : List Int) (s0_1 : Int) (r1 : List (S94)) (r2 : List (S54)) (r3 : Int) (w0 w : World) (hI : jc w0 w g s0_0 s0_1) (hB : Below w0.heap.size w0 w) (h : jJ.f k s0_0 s0_1 = some (r1, r2, r3)) :
  Calls Try.prog 61 #[.pointer (some ⟨g,0,none⟩)] w fun e w'=>∃ v0_ v1_:Value,e=.returned (.tuple #[.agg #[v0_], .agg #[v1_]])∧Kd.R k94 94 w' w.heap.size (fun _=>True) v0_ r1∧Kd.R k54 54 w' w.heap.size (fun _=>True) v1_ r2∧jc w0 w' g s0_0 r3∧Below w0.heap.size w0 w'∧jd w w' g none:=by
 have hu37:=Try.underlying37
 have hu32:=Try.underlying32
 have HI0:=am hI
 have HK:=am (jd.refl w g none)
 have HL:=am hB.size
 clear hI
 have HW0:=am hB.size
 have HB:=am hB
 clear hB
 have H:((jY.f k s0_0 s0_1).bind fun bt628=>((jq.f k s0_0 bt628.2 bt628.1).bind fun bt633=>(if (bt633.1.length:Int) > 0 then ((jl.f k s0_0 bt633.2 (bt633.1.length:Int)).bind fun bt638=>((jl.f k s0_0 bt638.2 24).bind fun bt640=>(if bt640.1=0 then ((jv.f k s0_0 bt640.2 (([bt638.1,9,(-2)]:List Int))).bind fun bt645=>(if 0≤bt638.1 then (if bt638.1<(bt633.1.length:Int) then (some (bt628.1,(bt633.1.set (bt638.1:Int).toNat (⟨(ja bt633.1 bt638.1).f0,(ja bt633.1 bt638.1).f1,(ja bt633.1 bt638.1).f2,bt645.1,(ja bt633.1 bt638.1).f4⟩:S54)),bt645.2)) else (none)) else (none))) else (if bt640.1=1 then ((jfb.f k s0_0 bt640.2 bt628.1).bind fun bt648=>(if 0≤bt638.1 then (if bt638.1<(bt633.1.length:Int) then (some (bt628.1,(bt633.1.set (bt638.1:Int).toNat (⟨bt648.1,(ja bt633.1 bt638.1).f1,(ja bt633.1 bt638.1).f2,(ja bt633.1 bt638.1).f3,(ja bt633.1 bt638.1).f4⟩:S54)),bt648.2)) else (none)) else (none))) else (if bt640.1=2 then ((jv.f k s0_0 bt640.2 (([(-1),100]:List Int))).bind fun bt654=>(if 0≤bt638.1 then (if bt638.1<(bt633.1.length:Int) then (some (bt628.1,(bt633.1.set (bt638.1:Int).toNat (⟨(ja bt633.1 bt638.1).f0,bt654.1,(ja bt633.1 bt638.1).f2,(ja bt633.1 bt638.1).f3,(ja bt633.1 bt638.1).f4⟩:S54)),bt654.2)) else (none)) else (none))) else (if bt640.1=3 then ((jv.f k s0_0 bt640.2 (([bt638.1,24,0]:List Int))).bind fun bt660=>(if 0≤bt638.1 then (if bt638.1<(bt633.1.length:Int) then (some (bt628.1,(bt633.1.set (bt638.1:Int).toNat (⟨(ja bt633.1 bt638.1).f0,(ja bt633.1 bt638.1).f1,bt660.1,(ja bt633.1 bt638.1).f3,(ja bt633.1 bt638.1).f4⟩:S54)),bt660.2)) else (none)) else (none))) else (some (bt628.1,bt633.1,bt640.2)))))))) else (some (bt628.1,bt633.1,bt633.2)))))=some (r1,r2,r3):=h
 clear h
 replace H:=bzS H
 obtain ⟨⟨t628,t631⟩,A20,H⟩:=H
 replace H:((jq.f k s0_0 t631 t628).bind fun bt633=>(if (bt633.1.length:Int) > 0 then ((jl.f k s0_0 bt633.2 (bt633.1.length:Int)).bind fun bt638=>((jl.f k s0_0 bt638.2 24).bind fun bt640=>(if bt640.1=0 then ((jv.f k s0_0 bt640.2 (([bt638.1,9,(-2)]:List Int))).bind fun bt645=>(if 0≤bt638.1 then (if bt638.1<(bt633.1.length:Int) then (some (t628,(bt633.1.set (bt638.1:Int).toNat (⟨(ja bt633.1 bt638.1).f0,(ja bt633.1 bt638.1).f1,(ja bt633.1 bt638.1).f2,bt645.1,(ja bt633.1 bt638.1).f4⟩:S54)),bt645.2)) else (none)) else (none))) else (if bt640.1=1 then ((jfb.f k s0_0 bt640.2 t628).bind fun bt648=>(if 0≤bt638.1 then (if bt638.1<(bt633.1.length:Int) then (some (t628,(bt633.1.set (bt638.1:Int).toNat (⟨bt648.1,(ja bt633.1 bt638.1).f1,(ja bt633.1 bt638.1).f2,(ja bt633.1 bt638.1).f3,(ja bt633.1 bt638.1).f4⟩:S54)),bt648.2)) else (none)) else (none))) else (if bt640.1=2 then ((jv.f k s0_0 bt640.2 (([(-1),100]:List Int))).bind fun bt654=>(if 0≤bt638.1 then (if bt638.1<(bt633.1.length:Int) then (some (t628,(bt633.1.set (bt638.1:Int).toNat (⟨(ja bt633.1 bt638.1).f0,bt654.1,(ja bt633.1 bt638.1).f2,(ja bt633.1 bt638.1).f3,(ja bt633.1 bt638.1).f4⟩:S54)),bt654.2)) else (none)) else (none))) else (if bt640.1=3 then ((jv.f k s0_0 bt640.2 (([bt638.1,24,0]:List Int))).bind fun bt660=>(if 0≤bt638.1 then (if bt638.1<(bt633.1.length:Int) then (some (t628,(bt633.1.set (bt638.1:Int).toNat (⟨(ja bt633.1 bt638.1).f0,(ja bt633.1 bt638.1).f1,bt660.1,(ja bt633.1 bt638.1).f3,(ja bt633.1 bt638.1).f4⟩:S54)),bt660.2)) else (none)) else (none))) else (some (t628,bt633.1,bt640.2)))))))) else (some (t628,bt633.1,bt633.2))))=some (r1,r2,r3):=H
 have A2:=am A20
 clear A20
 replace H:=bzS H
 obtain ⟨⟨t633,t636⟩,A30,H⟩:=H
 replace H:(if (t633.length:Int) > 0 then ((jl.f k s0_0 t636 (t633.length:Int)).bind fun bt638=>((jl.f k s0_0 bt638.2 24).bind fun bt640=>(if bt640.1=0 then ((jv.f k s0_0 bt640.2 (([bt638.1,9,(-2)]:List Int))).bind fun bt645=>(if 0≤bt638.1 then (if bt638.1<(t633.length:Int) then (some (t628,(t633.set (bt638.1:Int).toNat (⟨(ja t633 bt638.1).f0,(ja t633 bt638.1).f1,(ja t633 bt638.1).f2,bt645.1,(ja t633 bt638.1).f4⟩:S54)),bt645.2)) else (none)) else (none))) else (if bt640.1=1 then ((jfb.f k s0_0 bt640.2 t628).bind fun bt648=>(if 0≤bt638.1 then (if bt638.1<(t633.length:Int) then (some (t628,(t633.set (bt638.1:Int).toNat (⟨bt648.1,(ja t633 bt638.1).f1,(ja t633 bt638.1).f2,(ja t633 bt638.1).f3,(ja t633 bt638.1).f4⟩:S54)),bt648.2)) else (none)) else (none))) else (if bt640.1=2 then ((jv.f k s0_0 bt640.2 (([(-1),100]:List Int))).bind fun bt654=>(if 0≤bt638.1 then (if bt638.1<(t633.length:Int) then (some (t628,(t633.set (bt638.1:Int).toNat (⟨(ja t633 bt638.1).f0,bt654.1,(ja t633 bt638.1).f2,(ja t633 bt638.1).f3,(ja t633 bt638.1).f4⟩:S54)),bt654.2)) else (none)) else (none))) else (if bt640.1=3 then ((jv.f k s0_0 bt640.2 (([bt638.1,24,0]:List Int))).bind fun bt660=>(if 0≤bt638.1 then (if bt638.1<(t633.length:Int) then (some (t628,(t633.set (bt638.1:Int).toNat (⟨(ja t633 bt638.1).f0,(ja t633 bt638.1).f1,bt660.1,(ja t633 bt638.1).f3,(ja t633 bt638.1).f4⟩:S54)),bt660.2)) else (none)) else (none))) else (some (t628,t633,bt640.2)))))))) else (some (t628,t633,t636)))=some (r1,r2,r3):=H
 have A3:=am A30
 clear A30
 by_cases c4:(t633.length:Int) > 0
 ·rw [if_pos c4] at H
  have c4b0:decide (0<(t633.length:Int))=true:=dzT c4
  have c4b1:decide (0<t633.length)=true:=dzT (by omega)
  clear c4
  replace H:=bzS H
  obtain ⟨⟨t638,t639⟩,A50,H⟩:=H
  replace H:((jl.f k s0_0 t639 24).bind fun bt640=>(if bt640.1=0 then ((jv.f k s0_0 bt640.2 (([t638,9,(-2)]:List Int))).bind fun bt645=>(if 0≤t638 then (if t638<(t633.length:Int) then (some (t628,(t633.set (t638:Int).toNat (⟨(ja t633 t638).f0,(ja t633 t638).f1,(ja t633 t638).f2,bt645.1,(ja t633 t638).f4⟩:S54)),bt645.2)) else (none)) else (none))) else (if bt640.1=1 then ((jfb.f k s0_0 bt640.2 t628).bind fun bt648=>(if 0≤t638 then (if t638<(t633.length:Int) then (some (t628,(t633.set (t638:Int).toNat (⟨bt648.1,(ja t633 t638).f1,(ja t633 t638).f2,(ja t633 t638).f3,(ja t633 t638).f4⟩:S54)),bt648.2)) else (none)) else (none))) else (if bt640.1=2 then ((jv.f k s0_0 bt640.2 (([(-1),100]:List Int))).bind fun bt654=>(if 0≤t638 then (if t638<(t633.length:Int) then (some (t628,(t633.set (t638:Int).toNat (⟨(ja t633 t638).f0,bt654.1,(ja t633 t638).f2,(ja t633 t638).f3,(ja t633 t638).f4⟩:S54)),bt654.2)) else (none)) else (none))) else (if bt640.1=3 then ((jv.f k s0_0 bt640.2 (([t638,24,0]:List Int))).bind fun bt660=>(if 0≤t638 then (if t638<(t633.length:Int) then (some (t628,(t633.set (t638:Int).toNat (⟨(ja t633 t638).f0,(ja t633 t638).f1,bt660.1,(ja t633 t638).f3,(ja t633 t638).f4⟩:S54)),bt660.2)) else (none)) else (none))) else (some (t628,t633,bt640.2)))))))=some (r1,r2,r3):=H
  have A5:=am A50
  clear A50
  replace H:=bzS H
  obtain ⟨⟨t640,t641⟩,A60,H⟩:=H
  replace H:(if t640=0 then ((jv.f k s0_0 t641 (([t638,9,(-2)]:List Int))).bind fun bt645=>(if 0≤t638 then (if t638<(t633.length:Int) then (some (t628,(t633.set (t638:Int).toNat (⟨(ja t633 t638).f0,(ja t633 t638).f1,(ja t633 t638).f2,bt645.1,(ja t633 t638).f4⟩:S54)),bt645.2)) else (none)) else (none))) else (if t640=1 then ((jfb.f k s0_0 t641 t628).bind fun bt648=>(if 0≤t638 then (if t638<(t633.length:Int) then (some (t628,(t633.set (t638:Int).toNat (⟨bt648.1,(ja t633 t638).f1,(ja t633 t638).f2,(ja t633 t638).f3,(ja t633 t638).f4⟩:S54)),bt648.2)) else (none)) else (none))) else (if t640=2 then ((jv.f k s0_0 t641 (([(-1),100]:List Int))).bind fun bt654=>(if 0≤t638 then (if t638<(t633.length:Int) then (some (t628,(t633.set (t638:Int).toNat (⟨(ja t633 t638).f0,bt654.1,(ja t633 t638).f2,(ja t633 t638).f3,(ja t633 t638).f4⟩:S54)),bt654.2)) else (none)) else (none))) else (if t640=3 then ((jv.f k s0_0 t641 (([t638,24,0]:List Int))).bind fun bt660=>(if 0≤t638 then (if t638<(t633.length:Int) then (some (t628,(t633.set (t638:Int).toNat (⟨(ja t633 t638).f0,(ja t633 t638).f1,bt660.1,(ja t633 t638).f3,(ja t633 t638).f4⟩:S54)),bt660.2)) else (none)) else (none))) else (some (t628,t633,t641))))))=some (r1,r2,r3):=H
  have A6:=am A60
  clear A60
  by_cases c7:t640=0
  ·rw [if_pos c7] at H
   have c7b0:(t640 == 0)=true:=beq_iff_eq.mpr c7
   have c7b1:(t640 != 0)=false:=bne_eq_false_iff_eq.mpr c7
   clear c7
   obtain ⟨y642,hy642⟩:∃ y_:List Int,y_=(([t638,9,(-2)]:List Int)):=⟨_,rfl⟩
   replace H:((jv.f k s0_0 t641 y642).bind fun bt645=>(if 0≤t638 then (if t638<(t633.length:Int) then (some (t628,(t633.set (t638:Int).toNat (⟨(ja t633 t638).f0,(ja t633 t638).f1,(ja t633 t638).f2,bt645.1,(ja t633 t638).f4⟩:S54)),bt645.2)) else (none)) else (none)))=some (r1,r2,r3):=by first |(rw [hy642];with_reducible exact H) |(have H2_:=(Option.bind_some _ _).symm.trans H;rw [hy642];with_reducible exact H2_) |(have H2_:=(Option.bind_some _ _).symm.trans H;with_reducible exact H2_) | with_reducible exact H |(rw [hy642];exact H) | exact H
   have Ny642:=am hy642
   clear hy642
   replace H:=bzS H
   obtain ⟨⟨t645,t646⟩,A80,H⟩:=H
   replace H:(if 0≤t638 then (if t638<(t633.length:Int) then (some (t628,(t633.set (t638:Int).toNat (⟨(ja t633 t638).f0,(ja t633 t638).f1,(ja t633 t638).f2,t645,(ja t633 t638).f4⟩:S54)),t646)) else (none)) else (none))=some (r1,r2,r3):=H
   have A8:=am A80
   clear A80
   by_cases c9:0≤t638
   ·rw [if_pos c9] at H
    have c9b0:decide (0≤t638)=true:=dzT c9
    clear c9
    by_cases c10:t638<(t633.length:Int)
    ·rw [if_pos c10] at H
     have c10b0:decide (t638<(t633.length:Int))=true:=dzT c10
     clear c10
     obtain ⟨y647,hy647⟩:∃ y_:List (S54),y_=(t633.set (t638:Int).toNat (⟨(ja t633 t638).f0,(ja t633 t638).f1,(ja t633 t638).f2,t645,(ja t633 t638).f4⟩:S54)):=⟨_,rfl⟩
     replace H:(some (t628,y647,t646))=some (r1,r2,r3):=by first |(rw [hy647];with_reducible exact H) |(have H2_:=(Option.bind_some _ _).symm.trans H;rw [hy647];with_reducible exact H2_) |(have H2_:=(Option.bind_some _ _).symm.trans H;with_reducible exact H2_) | with_reducible exact H |(rw [hy647];exact H) | exact H
     have Ny647:=am hy647
     clear hy647
     simp only [Option.some.injEq,Prod.mk.injEq] at H
     obtain ⟨rfl,rfl,rfl⟩:=H
     go_enter Try.func61,Try.ntmps61
     try go_wp2_with (first |((with_reducible refine jD (N:=2) rfl ?_);refine bE (N:=2) (cs:=#[.slice none 0 0]) (t:=37) ?_;intro gb626 hg w12 hbox hb;have BK626:=am (hbox);have GW626:=am ((Y6:w.heap.size≤gb626));have GE626:=am ((Nat.le_trans HW0.out (Y6:w.heap.size≤gb626):w0.heap.size≤gb626));have NB0_626:=am ((Y24:g≠gb626));have NB626_0:=am ((Y25:gb626≠g));replace HK:=am (jd.trans (Y13) (jd.of_below hb g none) (.inl rfl));replace HB:=am (jf (Y14) hb);replace HI0:=am (jc.below (Y12) hb);clear hb hbox hg) |((with_reducible refine jD (N:=3) rfl ?_);refine bE (N:=3) (cs:=#[.slice none 0 0]) (t:=32) ?_;intro gb627 hg w13 hbox hb;have BK627:=am (hbox);have GW627:=am ((Y31:w.heap.size≤gb627));have GE627:=am ((Nat.le_trans HW0.out (Y31:w.heap.size≤gb627):w0.heap.size≤gb627));have NB626_627:=am ((Y20:gb626≠gb627));have NB627_626:=am ((Y21:gb627≠gb626));have NB0_627:=am ((Y61:g≠gb627));have NB627_0:=am ((Y62:gb627≠g));replace BK626:=am (je (g:=gb626) (o:=.cells #[.slice none 0 0] 37 (0,0)) (kq BK626.out) hb);replace HK:=am (jd.trans (Y63) (jd.of_below hb g none) (.inl rfl));replace HB:=am (jf (Y64) hb);replace HI0:=am (jc.below (Y65) hb);clear hb hbox hg) |((with_reducible refine jy (f:=87) rfl ?_);refine gL (some 8) Try.func87 #[.pointer (some ⟨g,0,none⟩)] ?_;(with_reducible refine (jY.calls k g s0_0 s0_1 t628 t631 w0 _ ?side1 ?side2 A2.out).mono ?_);(case side1=>exact Y32);(case side2=>exact Y33);rintro e w14 ⟨v629,rfl,ho0,hi,hb,hk⟩;refine ⟨_,rfl,?_⟩;have HO630:=am (Kd.jia ho0 (jba (w:=w) (g:=g) (row:=none) (Y22)));replace BK626:=am (jd.blk hk (g':=gb626) (o:=.cells #[.slice none 0 0] 37 (0,0)) (kq BK626.out) NB626_0.out (by simp));replace BK627:=am (jd.blk hk (g':=gb627) (o:=.cells #[.slice none 0 0] 32 (0,0)) (kq BK627.out) NB627_0.out (by simp));replace HK:=am (jd.trans (Y22) hk (.inl rfl));replace HB:=am (hb);replace HI0:=am (hi);(try clear hb);(try clear hb2);(try clear hk);(try clear hi);(try clear ho0)) |((with_reducible refine jD (N:=4) rfl ?_);refine bE (N:=4) (cs:=#[.slice none 0 0]) (t:=37) ?_;intro gb632 hg w15 hbox hb;have BK632:=am (hbox);have GW632:=am ((Y34:w.heap.size≤gb632));have GE632:=am ((Nat.le_trans HW0.out (Y34:w.heap.size≤gb632):w0.heap.size≤gb632));have NB626_632:=am ((Y20:gb626≠gb632));have NB632_626:=am ((Y21:gb632≠gb626));have NB627_632:=am ((Y35:gb627≠gb632));have NB632_627:=am ((Y36:gb632≠gb627));have NB0_632:=am ((Y66:g≠gb632));have NB632_0:=am ((Y67:gb632≠g));replace HO630:=am (Kd.jX (rq HO630.out) hb);replace BK626:=am (je (g:=gb626) (o:=.cells #[.slice none 0 0] 37 (0,0)) (kq BK626.out) hb);replace BK627:=am (je (g:=gb627) (o:=.cells #[.slice none 0 0] 32 (0,0)) (kq BK627.out) hb);replace HK:=am (jd.trans (Y22) (jd.of_below hb g none) (.inl rfl));replace HB:=am (jf (Y33) hb);replace HI0:=am (jc.below (Y32) hb);clear hb hbox hg;obtain ⟨Ao16,co16,eo16⟩:=Kd.jZ HO630.out;subst eo16;have hnb17:=NB632_626.out;have hnc17:=NB626_632.out;have hnb18:=NB632_627.out;have hnc18:=NB627_632.out;have hnb19:=NB632_0.out;have hnc19:=NB0_632.out;have hcz20_0:=bc0 BK632.out;have hfz20_0:=jb BK632.out 0) |((with_reducible refine jy (f:=62) rfl ?_);refine gL (some 11) Try.func62 #[.pointer (some ⟨g,0,none⟩), .agg #[.slice Ao16 t628.length co16]] ?_;(with_reducible refine (jq.calls k g s0_0 t631 _ _ t628 t633 t636 w0 _ ?side1 ?side2 ?side3 ?side4 A3.out).mono ?_);(case side1=>exact Y16);(case side2=>exact Y37);(case side3=>exact Kd.jEb (jc.apart (show jc w0 _ g s0_0 t631 from Y16) (Y151) (by decide)) (fun _ h_=>h_.2));(case side4=>exact (Kd.jB HO630.out).2.1);rintro e w21 ⟨v634,rfl,ho0,hi,hb,hk⟩;refine ⟨_,rfl,?_⟩;have HO635:=am (Kd.jia ho0 (jba (w:=w) (g:=g) (row:=none) (Y23)));replace BK626:=am (jd.blk hk (g':=gb626) (o:=.cells #[.slice none 0 0] 37 (0,0)) (Y68) NB626_0.out (by simp));replace BK627:=am (jd.blk hk (g':=gb627) (o:=.cells #[.slice none 0 0] 32 (0,0)) (Y69) NB627_0.out (by simp));replace HO630:=am (Kd.jH (Kd.jla (jc.apart (show jc w0 _ g s0_0 t631 from Y16) (Y151) (by decide)) hk (fun _ h=>h.2)) (fun _ h=>h.1));replace BK632:=am (jd.blk hk (g':=gb632) (o:=.cells #[.slice Ao16 t628.length co16] 37 (0,0)) (Y70) NB632_0.out (by simp));replace HK:=am (jd.trans (Y23) hk (.inl rfl));replace HB:=am (hb);replace HI0:=am (hi);(try clear hb);(try clear hb2);(try clear hk);(try clear hi);(try clear ho0)) |((with_reducible refine jD (N:=5) rfl ?_);refine bE (N:=5) (cs:=#[.slice none 0 0]) (t:=32) ?_;intro gb637 hg w22 hbox hb;have BK637:=am (hbox);have GW637:=am ((Y38:w.heap.size≤gb637));have GE637:=am ((Nat.le_trans HW0.out (Y38:w.heap.size≤gb637):w0.heap.size≤gb637));have NB626_637:=am ((Y20:gb626≠gb637));have NB637_626:=am ((Y21:gb637≠gb626));have NB627_637:=am ((Y35:gb627≠gb637));have NB637_627:=am ((Y36:gb637≠gb627));have NB632_637:=am ((by rw [hg];exact Nat.ne_of_lt (jca (g:=gb632) (o:=.cells #[.slice Ao16 t628.length co16] 37 (0,0)) (kq BK632.out)):gb632≠gb637));have NB637_632:=am ((by rw [hg];exact Nat.ne_of_gt (jca (g:=gb632) (o:=.cells #[.slice Ao16 t628.length co16] 37 (0,0)) (kq BK632.out)):gb637≠gb632));have NB0_637:=am ((Y71:g≠gb637));have NB637_0:=am ((Y72:gb637≠g));replace HO630:=am (Kd.jX (rq HO630.out) hb);replace HO635:=am (Kd.jX (rq HO635.out) hb);replace BK626:=am (je (g:=gb626) (o:=.cells #[.slice none 0 0] 37 (0,0)) (kq BK626.out) hb);replace BK627:=am (je (g:=gb627) (o:=.cells #[.slice none 0 0] 32 (0,0)) (kq BK627.out) hb);replace BK632:=am (je (g:=gb632) (o:=.cells #[.slice Ao16 t628.length co16] 37 (0,0)) (kq BK632.out) hb);replace HK:=am (jd.trans (Y23) (jd.of_below hb g none) (.inl rfl));replace HB:=am (jf (Y37) hb);replace HI0:=am (jc.below (Y16) hb);clear hb hbox hg;obtain ⟨Ao23,co23,eo23⟩:=Kd.jZ HO635.out;subst eo23;have hnb24:=NB637_626.out;have hnc24:=NB626_637.out;have hnb25:=NB637_627.out;have hnc25:=NB627_637.out;have hnb26:=NB637_632.out;have hnc26:=NB632_637.out;have hnb27:=NB637_0.out;have hnc27:=NB0_637.out;have hcz28_0:=bc0 BK637.out;have hfz28_0:=jb BK637.out 0) |((with_reducible refine jy (f:=88) rfl ?_);refine gL (some 20) Try.func88 #[.pointer (some ⟨g,0,none⟩), .int .i64 (t633.length:Int)] ?_;(with_reducible refine (jl.calls k g s0_0 t636 (t633.length:Int) t638 t639 w0 _ ?side1 ?side2 A5.out).mono ?_);(case side1=>exact Y2);(case side2=>exact Y17);rintro e w29 ⟨rfl,hi,hb,hk⟩;refine ⟨_,rfl,?_⟩;replace BK626:=am (jd.blk hk (g':=gb626) (o:=.cells #[.slice none 0 0] 37 (0,0)) (Y85) NB626_0.out (by simp));replace BK627:=am (jd.blk hk (g':=gb627) (o:=.cells #[.slice none 0 0] 32 (0,0)) (Y86) NB627_0.out (by simp));replace HO630:=am (Kd.jH (Kd.jla (jc.apart (show jc w0 _ g s0_0 t636 from Y2) (by (with_reducible repeat (first | apply Kd.jU | apply Kd.jW | apply Kd.jS));exact (Kd.jH (Kd.jra (p:=⟨gb637,0,none⟩) (Kd.jN HO630.out BK637.out (by decide)) (fun _ hk=>hk.2) (.slice Ao23 t633.length co23)) (fun _ h_=>h_.1))) (by decide)) hk (fun _ h=>h.2)) (fun _ h=>h.1));replace BK632:=am (jd.blk hk (g':=gb632) (o:=.cells #[.slice Ao16 t628.length co16] 37 (0,0)) (Y87) NB632_0.out (by simp));replace HO635:=am (Kd.jH (Kd.jla (jc.apart (show jc w0 _ g s0_0 t636 from Y2) (by (with_reducible repeat (first | apply Kd.jU | apply Kd.jW | apply Kd.jS));exact (Kd.jH (Kd.jra (p:=⟨gb637,0,none⟩) (Kd.jN HO635.out BK637.out (by decide)) (fun _ hk=>hk.2) (.slice Ao23 t633.length co23)) (fun _ h_=>h_.1))) (by decide)) hk (fun _ h=>h.2)) (fun _ h=>h.1));replace BK637:=am (jd.blk hk (g':=gb637) (o:=.cells #[.slice Ao23 t633.length co23] 32 (0,0)) (Y88) NB637_0.out (by simp));replace HK:=am (jd.trans (Y10) hk (.inl rfl));replace HB:=am (hb);replace HI0:=am (hi);(try clear hb);(try clear hb2);(try clear hk);(try clear hi)) |((with_reducible refine jy (f:=88) rfl ?_);refine gL (some 22) Try.func88 #[.pointer (some ⟨g,0,none⟩), .int .i64 24] ?_;(with_reducible refine (jl.calls k g s0_0 t639 24 t640 t641 w0 _ ?side1 ?side2 A6.out).mono ?_);(case side1=>exact Y2);(case side2=>exact Y17);rintro e w30 ⟨rfl,hi,hb,hk⟩;refine ⟨_,rfl,?_⟩;replace BK626:=am (jd.blk hk (g':=gb626) (o:=.cells #[.slice none 0 0] 37 (0,0)) (kq BK626.out) NB626_0.out (by simp));replace BK627:=am (jd.blk hk (g':=gb627) (o:=.cells #[.slice none 0 0] 32 (0,0)) (kq BK627.out) NB627_0.out (by simp));replace HO630:=am (Kd.jH (Kd.jla (jc.apart (show jc w0 _ g s0_0 t639 from Y2) (rq HO630.out) (by decide)) hk (fun _ h=>h.2)) (fun _ h=>h.1));replace BK632:=am (jd.blk hk (g':=gb632) (o:=.cells #[.slice Ao16 t628.length co16] 37 (0,0)) (kq BK632.out) NB632_0.out (by simp));replace HO635:=am (Kd.jH (Kd.jla (jc.apart (show jc w0 _ g s0_0 t639 from Y2) (rq HO635.out) (by decide)) hk (fun _ h=>h.2)) (fun _ h=>h.1));replace BK637:=am (jd.blk hk (g':=gb637) (o:=.cells #[.slice Ao23 t633.length co23] 32 (0,0)) (kq BK637.out) NB637_0.out (by simp));replace HK:=am (jd.trans (Y10) hk (.inl rfl));replace HB:=am (hb);replace HI0:=am (hi);(try clear hb);(try clear hb2);(try clear hk);(try clear hi)))
     replace HO630:=am (Kd.jS HO630.out)
     replace HO635:=am (Kd.jS HO635.out)
     replace BK626:=am (jg BK626.out)
     replace BK627:=am (jg BK627.out)
     replace BK632:=am (jg BK632.out)
     replace BK637:=am (jg BK637.out)
     replace HI0:=am (jc.drew HI0.out)
     replace HK:=am (jV HK.out)
     replace HB:=am (jr HB.out)
     refine jLb (n:=10) (S:=fun w'=>w'.cell? ⟨gb637,0,none⟩=some (.slice Ao23 t633.length co23)) (ds:=[9]) #[false,false,false,false,false,false,false,false,false,false] (by kernel_rfl) rfl rfl ((jG BK637.out 0).trans rfl) (fun hHeld=>?_);refine jyb jJ.tab7 jJ.bits7 (fun HT_ HW_=>?_)
     generalize w30.drew=w31 at HO630 HO635 BK626 BK627 BK632 BK637 HI0 HK HB hHeld ⊢
     refine pq (i:=0) (N:=some 25) #[true,false,false,false,false,false,false,false,false,false] ?_
     refine pq (i:=2) (N:=some 27) #[true,false,true,false,false,false,false,false,false,false] ?_
     refine pq (i:=3) (N:=some 28) #[true,false,true,true,false,false,false,false,false,false] ?_
     refine pq (i:=4) (N:=some 29) #[true,false,true,true,true,false,false,false,false,false] ?_
     refine jzb (i:=1) (N:=some 26) (v:=?_) (a':=?_) #[true,true,true,true,true,false,false,false,false,false] rfl rfl (jgb HT_.out HW_.out (by kernel_rfl)) (fun _ _ _ h=>h) (Or.inl ⟨by rfl,?_⟩) hHeld ?_ ?_
     rotate_left
     ·intro w' s0
      go_simp
      with_reducible rfl
     rotate_left
     ·exact sa
     refine one_ (i:=5) (N:=some 30) #[true,true,true,true,true,true,false,false,false,false] rfl rfl (jbb HT_.out (by kernel_rfl)) (by decide) (fun K hK=>?_)
     refine Kd.jDb (Kd.int .i64) _ 3 ?hg (N:=30) ?hd (xs:=([t638,9,(-2)]:List Int)) (inner:=[.int .i64 t638, .int .i64 9, .int .i64 (-2)]) (ok:=fun _=>True) (okp:=fun _=>True) ?hr ?hp (fun _ hk=>hk) trivial (Below.refl _ _) (Nat.le_refl _) (by simp) ?_;(case hd=>rfl);(case hg=>rfl);(case hr=>exact Y4);(case hp=>exact (Reps.one (show Kd.M (Kd.int .i64) _ _ _ t638 [.int .i64 t638] from rfl) (Reps.one (show Kd.M (Kd.int .i64) _ _ _ 9 [.int .i64 9] from rfl) (Reps.one (show Kd.M (Kd.int .i64) _ _ _ (-2) [.int .i64 (-2)] from rfl) (Reps.none _ _)))))
     intro v643 w32 ho33 hb hg_ hnew_
     clear hg_ hnew_
     (first | rw [← Ny642.out] at ho33 |(simp only [Int.reduceToNat] at ho33;rw [← Ny642.out] at ho33))
     have HO644:=am (Kd.jia ho33 (jba (w:=w) (g:=g) (row:=none) (Y10)))
     replace HO630:=am (Kd.jX (rq HO630.out) hb)
     replace HO635:=am (Kd.jX (rq HO635.out) hb)
     replace BK626:=am (je (g:=gb626) (o:=.cells #[.slice none 0 0] 37 (0,0)) (kq BK626.out) hb)
     replace BK627:=am (je (g:=gb627) (o:=.cells #[.slice none 0 0] 32 (0,0)) (kq BK627.out) hb)
     replace BK632:=am (je (g:=gb632) (o:=.cells #[.slice Ao16 t628.length co16] 37 (0,0)) (kq BK632.out) hb)
     replace BK637:=am (je (g:=gb637) (o:=.cells #[.slice Ao23 t633.length co23] 32 (0,0)) (kq BK637.out) hb)
     replace HK:=am (jd.trans (Y10) (jd.of_below hb g none) (.inl rfl))
     replace HB:=am (jf (Y17) hb)
     replace HI0:=am (jc.below (Y2) hb)
     clear hb ho33
     obtain ⟨Ao34,co34,eo34⟩:=Kd.jZ HO644.out
     (first | subst eo34 |(injection eo34 with f1_ f2_ f3_;have f4_:=f1_.symm;have f5_:=f3_.symm;clear f1_ f2_ f3_;subst f4_;subst f5_))
     refine hK.out _ _ ((jG BK637.out 0).trans rfl) (fun hHeld=>?_)
     clear hK K
     refine jJb (a':=?_) ?_ ?_
     rotate_left
     ·show Act.put _ (some 30) _=_
      simp only [Act.put,List.setIfInBounds_toArray,List.set_cons_zero,List.set_cons_succ,job,jsb]
      rfl
     refine one_ (i:=6) (N:=some 31) #[true,true,true,true,true,true,true,false,false,false] rfl rfl (jbb HT_.out (by kernel_rfl)) (by decide) (fun K hK=>?_)
     refine goes_ Try.func89 (by kernel_rfl) rfl #[.pointer (some ⟨g,0,none⟩), .slice Ao34 y642.length co34] (by rfl) rfl rfl (aq) ?_
     with_reducible refine (jv.calls k g s0_0 t641 _ _ y642 t645 t646 w0 _ ?side1 ?side2 ?side3 ?side4 ?side5 A8.out).mono ?_
     (case side1=>exact Y2)
     (case side2=>exact Y17)
     (case side3=>exact cq (Kd.jB HO644.out).2.2)
     (case side4=>exact (Kd.jB HO644.out).2.1)
     (case side5=>exact jnb (jc.own_ne HI0.out HO644.out (by decide)))
     rintro e w35 ⟨rfl,hi,hb,hk⟩
     refine ⟨_,rfl,?_⟩
     replace BK626:=am (jd.blk hk (g':=gb626) (o:=.cells #[.slice none 0 0] 37 (0,0)) (kq BK626.out) NB626_0.out (by simp))
     replace BK627:=am (jd.blk hk (g':=gb627) (o:=.cells #[.slice none 0 0] 32 (0,0)) (kq BK627.out) NB627_0.out (by simp))
     replace HO630:=am (Kd.jH (Kd.jla (jc.apart (show jc w0 _ g s0_0 t641 from Y2) (rq HO630.out) (by decide)) hk (fun _ h=>h.2)) (fun _ h=>h.1))
     replace BK632:=am (jd.blk hk (g':=gb632) (o:=.cells #[.slice Ao16 t628.length co16] 37 (0,0)) (kq BK632.out) NB632_0.out (by simp))
     replace HO635:=am (Kd.jH (Kd.jla (jc.apart (show jc w0 _ g s0_0 t641 from Y2) (rq HO635.out) (by decide)) hk (fun _ h=>h.2)) (fun _ h=>h.1))
     replace BK637:=am (jd.blk hk (g':=gb637) (o:=.cells #[.slice Ao23 t633.length co23] 32 (0,0)) (kq BK637.out) NB637_0.out (by simp))
     replace HO644:=am (Kd.jH (Kd.jla (jc.apart (show jc w0 _ g s0_0 t641 from Y2) (rq HO644.out) (by decide)) hk (fun _ h=>h.2)) (fun _ h=>h.1))
     replace HK:=am (jd.trans (Y10) hk (.inl rfl))
     replace HB:=am (hb)
     replace HI0:=am (hi)
     (try clear hb)
     (try clear hb2)
     (try clear hk)
     (try clear hi)
     have p11:0≤(t638:Int):=ozD (uq)
     have q11:(t638:Int)<((t633.length:Int):Int):=ozD (uq)
     obtain ⟨go11,co11,eo11,gb11,gl11,cl11,HG11⟩:=Kd.R_form HO635.out (by omega)
     (first | cases eo11 |(injection eo11 with ea_ en_ ec_;(first | subst ea_ |(injection ea_ with ea_;subst ea_));subst ec_;clear en_))
     have GB11:=am gb11
     have GG11:=am HG11
     clear gb11 gl11 HG11
     obtain ⟨ce11,hcl11,hM11,hcc11,hfr11⟩:=Kd.jqb HO635.out z54 (t638:Int) p11 q11
     obtain rfl:=jQa hM11
     have hx11_0:World.cell? _ ⟨go11,(t638:Int).toNat * 5,none⟩=some (.int .i64 ((ja t633 t638).f0)):=hcc11 0 _ rfl
     have hx11_1:World.cell? _ ⟨go11,(t638:Int).toNat * 5+1,none⟩=some (.int .i64 ((ja t633 t638).f1)):=hcc11 1 _ rfl
     have hx11_2:World.cell? _ ⟨go11,(t638:Int).toNat * 5+2,none⟩=some (.int .i64 ((ja t633 t638).f2)):=hcc11 2 _ rfl
     have hx11_3:World.cell? _ ⟨go11,(t638:Int).toNat * 5+3,none⟩=some (.int .i64 ((ja t633 t638).f3)):=hcc11 3 _ rfl
     have hx11_4:World.cell? _ ⟨go11,(t638:Int).toNat * 5+4,none⟩=some (.bool ((ja t633 t638).f4)):=hcc11 4 _ rfl
     have hf11_0:World.frozen? _ ⟨go11,(t638:Int).toNat * 5,none⟩=false:=hfr11 0
     have hf11_1:World.frozen? _ ⟨go11,(t638:Int).toNat * 5+1,none⟩=false:=hfr11 1
     have hf11_2:World.frozen? _ ⟨go11,(t638:Int).toNat * 5+2,none⟩=false:=hfr11 2
     have hf11_3:World.frozen? _ ⟨go11,(t638:Int).toNat * 5+3,none⟩=false:=hfr11 3
     have hf11_4:World.frozen? _ ⟨go11,(t638:Int).toNat * 5+4,none⟩=false:=hfr11 4
     clear hcl11 hcc11 hfr11 hM11
     replace p11:=ezT p11
     replace q11:=ezT q11
     have HN0_go11:=am (show g≠go11 from by have h_:=jc.own_ne HI0.out HO635.out (by decide);intro e_;exact h_ (by rw [e_];rfl))
     obtain ⟨ce36,hcl36,hM36,hcc36,hfr36⟩:=Kd.jqb HO635.out z54 (t638:Int) (ozD (uq)) (by have h_:(t638:Int)<((t633.length:Int):Int):=ozD (uq);first | exact h_ |(have e_:=(Kd.jB HO635.out).1;omega) | simpa using h_)
     obtain rfl:=jQa hM36
     have HP36:=(Kd.R_seg HO635.out (t638:Int) (ozD (uq)) (by have h_:(t638:Int)<((t633.length:Int):Int):=ozD (uq);first | exact h_ |(have e_:=(Kd.jB HO635.out).1;omega) | simpa using h_) (seg:=[.int .i64 t645]) (j:=3) hcl36 hcc36 (show 4≤5 from by decide) (x':=(⟨(ja t633 t638).f0,(ja t633 t638).f1,(ja t633 t638).f2,t645,(ja t633 t638).f4⟩:S54)) (jQb _ _ _ (⟨(ja t633 t638).f0,(ja t633 t638).f1,(ja t633 t638).f2,t645,(ja t633 t638).f4⟩:S54) ) (fun _ hk=>hk)).1
     rw [← Ny647.out] at HP36
     have HQ36:=am HP36
     clear hcl36 hcc36 hfr36 hM36 HP36
     refine hK.out _ _ ((jG BK637.out 0).trans rfl) (fun hHeld=>?_)
     clear hK K
     refine jJb (a':=?_) ?_ ?_
     rotate_left
     ·show Act.put _ (some 31) _=_
      simp only [Act.put,List.setIfInBounds_toArray,List.set_cons_zero,List.set_cons_succ,job,jsb]
      rfl
     refine pq (i:=7) (N:=some 32) #[true,true,true,true,true,true,true,true,false,false] ?_
     refine pq (i:=8) (N:=some 33) #[true,true,true,true,true,true,true,true,true,false] ?_
     refine last_ (i:=9) (N:=none) #[true,true,true,true,true,true,true,true,true,true] rfl rfl (jbb HT_.out (by kernel_rfl)) (by decide) (fun K hK=>?_)
     refine jPb (w1:=?_) (by rfl) rfl ?_ ?_
     rotate_left
     ·go_simp
      rfl
     refine hK.out _ _ ?_
     clear hK K
     refine done_ (jUb HT_.out (by kernel_rfl)) ?_
     have n0_:jC (Kd.R k94 94 (w35.setCell ⟨go11,(t638:Int).toNat * 5+3,none⟩ (.int .i64 t645)) w.heap.size (fun _=>True) (.slice Ao16 t628.length co16) t628):=⟨by (with_reducible repeat (first | apply Kd.jU | apply Kd.jW | apply Kd.jS));exact Kd.jH (Kd.jra (p:=⟨go11,(t638:Int).toNat * 5+3,none⟩) (Kd.jN HO630.out GG11.out (by decide)) (fun _ hk=>hk.2) (.int .i64 t645)) (fun _ hk=>trivial)⟩
     have n1_:jC (Kd.R k54 54 (w35.setCell ⟨go11,(t638:Int).toNat * 5+3,none⟩ (.int .i64 t645)) w.heap.size (fun _=>True) (.slice (some ⟨go11,0,none⟩) t633.length co23) y647):=⟨rq HQ36.out⟩
     have n2_:jC (Kd.R (Kd.int .i64) 3 (w35.setCell ⟨go11,(t638:Int).toNat * 5+3,none⟩ (.int .i64 t645)) w.heap.size (fun _=>True) (.slice Ao34 y642.length co34) y642):=⟨by (with_reducible repeat (first | apply Kd.jU | apply Kd.jW | apply Kd.jS));exact Kd.jH (Kd.jra (p:=⟨go11,(t638:Int).toNat * 5+3,none⟩) (Kd.jN HO644.out GG11.out (by decide)) (fun _ hk=>hk.2) (.int .i64 t645)) (fun _ hk=>trivial)⟩
     have n3_:jC ((w35.setCell ⟨go11,(t638:Int).toNat * 5+3,none⟩ (.int .i64 t645)).heap[gb626]?=some (.cells #[.slice none 0 0] 37 (0,0))):=⟨by (with_reducible repeat (first | refine jh ?_ _ | refine jg ?_ | refine jk ?_ _));refine jO ?_ (by have h_:=Kd.R_ne HO635.out BK626.out (by decide);intro e_;exact h_ (by rw [e_];rfl)) _;(with_reducible repeat (first | refine jh ?_ _ | refine jg ?_ | refine jk ?_ _));exact BK626.out⟩
     have n4_:jC ((w35.setCell ⟨go11,(t638:Int).toNat * 5+3,none⟩ (.int .i64 t645)).heap[gb627]?=some (.cells #[.slice none 0 0] 32 (0,0))):=⟨by (with_reducible repeat (first | refine jh ?_ _ | refine jg ?_ | refine jk ?_ _));refine jO ?_ (by have h_:=Kd.R_ne HO635.out BK627.out (by decide);intro e_;exact h_ (by rw [e_];rfl)) _;(with_reducible repeat (first | refine jh ?_ _ | refine jg ?_ | refine jk ?_ _));exact BK627.out⟩
     have n5_:jC ((w35.setCell ⟨go11,(t638:Int).toNat * 5+3,none⟩ (.int .i64 t645)).heap[gb632]?=some (.cells #[.slice Ao16 t628.length co16] 37 (0,0))):=⟨by (with_reducible repeat (first | refine jh ?_ _ | refine jg ?_ | refine jk ?_ _));refine jO ?_ (by have h_:=Kd.R_ne HO635.out BK632.out (by decide);intro e_;exact h_ (by rw [e_];rfl)) _;(with_reducible repeat (first | refine jh ?_ _ | refine jg ?_ | refine jk ?_ _));exact BK632.out⟩
     have n6_:jC ((w35.setCell ⟨go11,(t638:Int).toNat * 5+3,none⟩ (.int .i64 t645)).heap[gb637]?=some (.cells #[.slice (some ⟨go11,0,none⟩) t633.length co23] 32 (0,0))):=⟨by (with_reducible repeat (first | refine jh ?_ _ | refine jg ?_ | refine jk ?_ _));refine jO ?_ (by have h_:=Kd.R_ne HO635.out BK637.out (by decide);intro e_;exact h_ (by rw [e_];rfl)) _;(with_reducible repeat (first | refine jh ?_ _ | refine jg ?_ | refine jk ?_ _));exact BK637.out⟩
     have n7_:jC (jc w0 (w35.setCell ⟨go11,(t638:Int).toNat * 5+3,none⟩ (.int .i64 t645)) g s0_0 t646):=⟨by repeat (first |(with_reducible first | exact HI0.out | apply jc.alloc | apply jc.drewN | apply jc.drew | apply jc.jeb | refine jc.far ?_ HN0_go11.out _ | refine jc.far ?_ NB0_626.out _ | refine jc.far ?_ NB0_627.out _ | refine jc.far ?_ NB0_632.out _ | refine jc.far ?_ NB0_637.out _) | exact HI0.out)⟩
     have n8_:jC (jd w (w35.setCell ⟨go11,(t638:Int).toNat * 5+3,none⟩ (.int .i64 t645)) g none):=⟨by repeat (first |(with_reducible first | exact HK.out | apply jd.set_ | apply jga | apply jV | apply jha | refine jK ?_ GB11.out _ | refine jK ?_ GW626.out _ | refine jK ?_ GW627.out _ | refine jK ?_ GW632.out _ | refine jK ?_ GW637.out _) | exact HK.out)⟩
     have n9_:jC (Below w0.heap.size w0 (w35.setCell ⟨go11,(t638:Int).toNat * 5+3,none⟩ (.int .i64 t645))):=⟨by repeat (first |(with_reducible first | exact HB.out | apply jw | apply jo | apply jr | refine jm ?_ (Nat.le_trans HL.out GB11.out) | refine jm ?_ (jc.ge HI0.out) | refine jm ?_ GE626.out | refine jm ?_ GE627.out | refine jm ?_ GE632.out | refine jm ?_ GE637.out) | exact HB.out)⟩
     (try clear HO630)
     (try clear HO635)
     (try clear HO644)
     (try clear BK626)
     (try clear BK627)
     (try clear BK632)
     (try clear BK637)
     (try clear HI0)
     (try clear HK)
     (try clear HB)
     generalize (w35.setCell ⟨go11,(t638:Int).toNat * 5+3,none⟩ (.int .i64 t645))=w37 at n0_ n1_ n2_ n3_ n4_ n5_ n6_ n7_ n8_ n9_ ⊢
     have HO630:=n0_
     have HO635:=n1_
     have HO644:=n2_
     have BK626:=n3_
     have BK627:=n4_
     have BK632:=n5_
     have BK637:=n6_
     have HI0:=n7_
     have HK:=n8_
     have HB:=n9_
     clear n0_ n1_ n2_ n3_ n4_ n5_ n6_ n7_ n8_ n9_
     try go_wp2
     replace HO630:=am (Kd.jS HO630.out)
     replace HO635:=am (Kd.jS HO635.out)
     replace HO644:=am (Kd.jS HO644.out)
     replace BK626:=am (jg BK626.out)
     replace BK627:=am (jg BK627.out)
     replace BK632:=am (jg BK632.out)
     replace BK637:=am (jg BK637.out)
     replace HI0:=am (jc.drew HI0.out)
     replace HK:=am (jV HK.out)
     replace HB:=am (jr HB.out)
     refine jLb (n:=4) (S:=fun w'=>w'.cell? ⟨gb632,0,none⟩=some (.slice Ao16 t628.length co16)∧w'.cell? ⟨gb637,0,none⟩=some (.slice (some ⟨go11,0,none⟩) t633.length co23)) (ds:=[]) #[false,false,false,false] (by kernel_rfl) rfl rfl ⟨(jG BK632.out 0).trans rfl,(jG BK637.out 0).trans rfl⟩ (fun hHeld=>?_)
     generalize w37.drew=w38 at HO630 HO635 HO644 BK626 BK627 BK632 BK637 HI0 HK HB hHeld ⊢
     refine jzb (i:=0) (N:=some 65) (v:=?_) (a':=?_) #[true,false,false,false] rfl rfl (by kernel_rfl) (fun _ _ _ h=>h) (Or.inl ⟨by rfl,?_⟩) hHeld ?_ ?_
     rotate_left
     ·rintro w' ⟨s0,s1⟩
      go_simp
      with_reducible rfl
     rotate_left
     ·exact sa
     refine jzb (i:=1) (N:=some 66) (v:=?_) (a':=?_) #[true,true,false,false] rfl rfl (by kernel_rfl) (fun _ _ _ h=>h) (Or.inl ⟨by rfl,?_⟩) hHeld ?_ ?_
     rotate_left
     ·rintro w' ⟨s0,s1⟩
      go_simp
      with_reducible rfl
     rotate_left
     ·exact sa
     refine one_ (i:=2) (N:=none) #[true,true,true,false] rfl rfl (by kernel_rfl) (by decide) (fun K hK=>?_)
     have hs39:w38.cell? ⟨gb626,0,none⟩=some (.slice none 0 0):=(jG BK626.out 0).trans rfl
     have hfs39:=jb BK626.out 0
     have hns39_1:=NB627_626.out
     have hns39_2:=NB632_626.out
     have hns39_3:=NB637_626.out
     have hms39_1:=NB626_627.out
     have hms39_2:=NB626_632.out
     have hms39_3:=NB626_637.out
     refine jPb (w1:=?_) (by rfl) rfl ?_ ?_
     rotate_left
     ·go_simp
      rfl
     refine hK.out _ _ ⟨((cell_far (p:=⟨gb626,_,none⟩) NB632_626.out _).trans (hHeld.1)),((cell_far (p:=⟨gb626,_,none⟩) NB637_626.out _).trans (hHeld.2))⟩ (fun hHeld=>?_)
     clear hK K
     refine one_ (i:=3) (N:=none) #[true,true,true,true] rfl rfl (by kernel_rfl) (by decide) (fun K hK=>?_)
     have hs40:w38.cell? ⟨gb627,0,none⟩=some (.slice none 0 0):=(jG BK627.out 0).trans rfl
     have hfs40:=jb BK627.out 0
     have hns40_0:=NB626_627.out
     have hns40_2:=NB632_627.out
     have hns40_3:=NB637_627.out
     have hms40_0:=NB627_626.out
     have hms40_2:=NB627_632.out
     have hms40_3:=NB627_637.out
     refine jPb (w1:=?_) (by rfl) rfl ?_ ?_
     rotate_left
     ·go_simp
      rfl
     refine hK.out _ _ ⟨((cell_far (p:=⟨gb627,_,none⟩) NB632_627.out _).trans (hHeld.1)),((cell_far (p:=⟨gb627,_,none⟩) NB637_627.out _).trans (hHeld.2))⟩ (fun hHeld=>?_)
     clear hK K
     refine done_ (by kernel_rfl) ?_
     try go_wp2
     refine bodyPost_ret (jMb rfl _ _ gb626 gb627 37 32 #[.slice Ao16 t628.length co16] #[.slice (some ⟨go11,0,none⟩) t633.length co23] (0,0) (0,0) _ _ rfl (Y73) Try.underlying37 rfl (by kernel_rfl) rfl (Y74) Try.underlying32 rfl (by kernel_rfl)) rfl ?_
     exact ⟨_,_,Y1,by (with_reducible repeat (first | apply Kd.jU | apply Kd.jW | apply Kd.jS));exact Kd.jH (Kd.jra (p:=⟨gb627,0,none⟩) (Kd.jra (p:=⟨gb626,0,none⟩) (Kd.jN (Kd.jN HO630.out BK626.out (by decide)) BK627.out (by decide)) (fun _ hk=>hk.1.2) (.slice Ao16 t628.length co16)) (fun _ hk=>hk.2) (.slice (some ⟨go11,0,none⟩) t633.length co23)) (fun _ hk=>trivial),by (with_reducible repeat (first | apply Kd.jU | apply Kd.jW | apply Kd.jS));exact Kd.jH (Kd.jra (p:=⟨gb627,0,none⟩) (Kd.jra (p:=⟨gb626,0,none⟩) (Kd.jN (Kd.jN HO635.out BK626.out (by decide)) BK627.out (by decide)) (fun _ hk=>hk.1.2) (.slice Ao16 t628.length co16)) (fun _ hk=>hk.2) (.slice (some ⟨go11,0,none⟩) t633.length co23)) (fun _ hk=>trivial),Y2,Y17,Y10⟩
    ·rw [if_neg c10] at H
     exact absurd H (by simp)
   ·rw [if_neg c9] at H
    exact absurd H (by simp)
  ·rw [if_neg c7] at H
   have c7b0:(t640 == 0)=false:=beq_eq_false_iff_ne.mpr c7
   have c7b1:(t640 != 0)=true:=bne_iff_ne.mpr c7
   by_cases c41:t640=1
   ·rw [if_pos c41] at H
    have c41b0:(t640 == 1)=true:=beq_iff_eq.mpr c41
    have c41b1:(t640 != 1)=false:=bne_eq_false_iff_eq.mpr c41
    clear c41
    replace H:=bzS H
    obtain ⟨⟨t648,t649⟩,A420,H⟩:=H
    replace H:(if 0≤t638 then (if t638<(t633.length:Int) then (some (t628,(t633.set (t638:Int).toNat (⟨t648,(ja t633 t638).f1,(ja t633 t638).f2,(ja t633 t638).f3,(ja t633 t638).f4⟩:S54)),t649)) else (none)) else (none))=some (r1,r2,r3):=H
    have A42:=am A420
    clear A420
    by_cases c43:0≤t638
    ·rw [if_pos c43] at H
     have c43b0:decide (0≤t638)=true:=dzT c43
     clear c43
     by_cases c44:t638<(t633.length:Int)
     ·rw [if_pos c44] at H
      have c44b0:decide (t638<(t633.length:Int))=true:=dzT c44
      clear c44
      obtain ⟨y650,hy650⟩:∃ y_:List (S54),y_=(t633.set (t638:Int).toNat (⟨t648,(ja t633 t638).f1,(ja t633 t638).f2,(ja t633 t638).f3,(ja t633 t638).f4⟩:S54)):=⟨_,rfl⟩
      replace H:(some (t628,y650,t649))=some (r1,r2,r3):=by first |(rw [hy650];with_reducible exact H) |(have H2_:=(Option.bind_some _ _).symm.trans H;rw [hy650];with_reducible exact H2_) |(have H2_:=(Option.bind_some _ _).symm.trans H;with_reducible exact H2_) | with_reducible exact H |(rw [hy650];exact H) | exact H
      have Ny650:=am hy650
      clear hy650
      simp only [Option.some.injEq,Prod.mk.injEq] at H
      obtain ⟨rfl,rfl,rfl⟩:=H
      go_enter Try.func61,Try.ntmps61
      try go_wp2_with (first |((with_reducible refine jD (N:=2) rfl ?_);refine bE (N:=2) (cs:=#[.slice none 0 0]) (t:=37) ?_;intro gb626 hg w46 hbox hb;have BK626:=am (hbox);have GW626:=am ((Y6:w.heap.size≤gb626));have GE626:=am ((Nat.le_trans HW0.out (Y6:w.heap.size≤gb626):w0.heap.size≤gb626));have NB0_626:=am ((Y24:g≠gb626));have NB626_0:=am ((Y25:gb626≠g));replace HK:=am (jd.trans (Y13) (jd.of_below hb g none) (.inl rfl));replace HB:=am (jf (Y14) hb);replace HI0:=am (jc.below (Y12) hb);clear hb hbox hg) |((with_reducible refine jD (N:=3) rfl ?_);refine bE (N:=3) (cs:=#[.slice none 0 0]) (t:=32) ?_;intro gb627 hg w47 hbox hb;have BK627:=am (hbox);have GW627:=am ((Y31:w.heap.size≤gb627));have GE627:=am ((Nat.le_trans HW0.out (Y31:w.heap.size≤gb627):w0.heap.size≤gb627));have NB626_627:=am ((Y20:gb626≠gb627));have NB627_626:=am ((Y21:gb627≠gb626));have NB0_627:=am ((Y61:g≠gb627));have NB627_0:=am ((Y62:gb627≠g));replace BK626:=am (je (g:=gb626) (o:=.cells #[.slice none 0 0] 37 (0,0)) (kq BK626.out) hb);replace HK:=am (jd.trans (Y63) (jd.of_below hb g none) (.inl rfl));replace HB:=am (jf (Y64) hb);replace HI0:=am (jc.below (Y65) hb);clear hb hbox hg) |((with_reducible refine jy (f:=87) rfl ?_);refine gL (some 8) Try.func87 #[.pointer (some ⟨g,0,none⟩)] ?_;(with_reducible refine (jY.calls k g s0_0 s0_1 t628 t631 w0 _ ?side1 ?side2 A2.out).mono ?_);(case side1=>exact Y32);(case side2=>exact Y33);rintro e w48 ⟨v629,rfl,ho0,hi,hb,hk⟩;refine ⟨_,rfl,?_⟩;have HO630:=am (Kd.jia ho0 (jba (w:=w) (g:=g) (row:=none) (Y22)));replace BK626:=am (jd.blk hk (g':=gb626) (o:=.cells #[.slice none 0 0] 37 (0,0)) (kq BK626.out) NB626_0.out (by simp));replace BK627:=am (jd.blk hk (g':=gb627) (o:=.cells #[.slice none 0 0] 32 (0,0)) (kq BK627.out) NB627_0.out (by simp));replace HK:=am (jd.trans (Y22) hk (.inl rfl));replace HB:=am (hb);replace HI0:=am (hi);(try clear hb);(try clear hb2);(try clear hk);(try clear hi);(try clear ho0)) |((with_reducible refine jD (N:=4) rfl ?_);refine bE (N:=4) (cs:=#[.slice none 0 0]) (t:=37) ?_;intro gb632 hg w49 hbox hb;have BK632:=am (hbox);have GW632:=am ((Y34:w.heap.size≤gb632));have GE632:=am ((Nat.le_trans HW0.out (Y34:w.heap.size≤gb632):w0.heap.size≤gb632));have NB626_632:=am ((Y20:gb626≠gb632));have NB632_626:=am ((Y21:gb632≠gb626));have NB627_632:=am ((Y35:gb627≠gb632));have NB632_627:=am ((Y36:gb632≠gb627));have NB0_632:=am ((Y66:g≠gb632));have NB632_0:=am ((Y67:gb632≠g));replace HO630:=am (Kd.jX (rq HO630.out) hb);replace BK626:=am (je (g:=gb626) (o:=.cells #[.slice none 0 0] 37 (0,0)) (kq BK626.out) hb);replace BK627:=am (je (g:=gb627) (o:=.cells #[.slice none 0 0] 32 (0,0)) (kq BK627.out) hb);replace HK:=am (jd.trans (Y22) (jd.of_below hb g none) (.inl rfl));replace HB:=am (jf (Y33) hb);replace HI0:=am (jc.below (Y32) hb);clear hb hbox hg;obtain ⟨Ao50,co50,eo50⟩:=Kd.jZ HO630.out;subst eo50;have hnb51:=NB632_626.out;have hnc51:=NB626_632.out;have hnb52:=NB632_627.out;have hnc52:=NB627_632.out;have hnb53:=NB632_0.out;have hnc53:=NB0_632.out;have hcz54_0:=bc0 BK632.out;have hfz54_0:=jb BK632.out 0) |((with_reducible refine jy (f:=62) rfl ?_);refine gL (some 11) Try.func62 #[.pointer (some ⟨g,0,none⟩), .agg #[.slice Ao50 t628.length co50]] ?_;(with_reducible refine (jq.calls k g s0_0 t631 _ _ t628 t633 t636 w0 _ ?side1 ?side2 ?side3 ?side4 A3.out).mono ?_);(case side1=>exact Y16);(case side2=>exact Y37);(case side3=>exact Kd.jEb (jc.apart (show jc w0 _ g s0_0 t631 from Y16) (Y152) (by decide)) (fun _ h_=>h_.2));(case side4=>exact (Kd.jB HO630.out).2.1);rintro e w55 ⟨v634,rfl,ho0,hi,hb,hk⟩;refine ⟨_,rfl,?_⟩;have HO635:=am (Kd.jia ho0 (jba (w:=w) (g:=g) (row:=none) (Y23)));replace BK626:=am (jd.blk hk (g':=gb626) (o:=.cells #[.slice none 0 0] 37 (0,0)) (Y68) NB626_0.out (by simp));replace BK627:=am (jd.blk hk (g':=gb627) (o:=.cells #[.slice none 0 0] 32 (0,0)) (Y69) NB627_0.out (by simp));replace HO630:=am (Kd.jH (Kd.jla (jc.apart (show jc w0 _ g s0_0 t631 from Y16) (Y152) (by decide)) hk (fun _ h=>h.2)) (fun _ h=>h.1));replace BK632:=am (jd.blk hk (g':=gb632) (o:=.cells #[.slice Ao50 t628.length co50] 37 (0,0)) (Y70) NB632_0.out (by simp));replace HK:=am (jd.trans (Y23) hk (.inl rfl));replace HB:=am (hb);replace HI0:=am (hi);(try clear hb);(try clear hb2);(try clear hk);(try clear hi);(try clear ho0)) |((with_reducible refine jD (N:=5) rfl ?_);refine bE (N:=5) (cs:=#[.slice none 0 0]) (t:=32) ?_;intro gb637 hg w56 hbox hb;have BK637:=am (hbox);have GW637:=am ((Y38:w.heap.size≤gb637));have GE637:=am ((Nat.le_trans HW0.out (Y38:w.heap.size≤gb637):w0.heap.size≤gb637));have NB626_637:=am ((Y20:gb626≠gb637));have NB637_626:=am ((Y21:gb637≠gb626));have NB627_637:=am ((Y35:gb627≠gb637));have NB637_627:=am ((Y36:gb637≠gb627));have NB632_637:=am ((by rw [hg];exact Nat.ne_of_lt (jca (g:=gb632) (o:=.cells #[.slice Ao50 t628.length co50] 37 (0,0)) (kq BK632.out)):gb632≠gb637));have NB637_632:=am ((by rw [hg];exact Nat.ne_of_gt (jca (g:=gb632) (o:=.cells #[.slice Ao50 t628.length co50] 37 (0,0)) (kq BK632.out)):gb637≠gb632));have NB0_637:=am ((Y71:g≠gb637));have NB637_0:=am ((Y72:gb637≠g));replace HO630:=am (Kd.jX (rq HO630.out) hb);replace HO635:=am (Kd.jX (rq HO635.out) hb);replace BK626:=am (je (g:=gb626) (o:=.cells #[.slice none 0 0] 37 (0,0)) (kq BK626.out) hb);replace BK627:=am (je (g:=gb627) (o:=.cells #[.slice none 0 0] 32 (0,0)) (kq BK627.out) hb);replace BK632:=am (je (g:=gb632) (o:=.cells #[.slice Ao50 t628.length co50] 37 (0,0)) (kq BK632.out) hb);replace HK:=am (jd.trans (Y23) (jd.of_below hb g none) (.inl rfl));replace HB:=am (jf (Y37) hb);replace HI0:=am (jc.below (Y16) hb);clear hb hbox hg;obtain ⟨Ao57,co57,eo57⟩:=Kd.jZ HO635.out;subst eo57;have hnb58:=NB637_626.out;have hnc58:=NB626_637.out;have hnb59:=NB637_627.out;have hnc59:=NB627_637.out;have hnb60:=NB637_632.out;have hnc60:=NB632_637.out;have hnb61:=NB637_0.out;have hnc61:=NB0_637.out;have hcz62_0:=bc0 BK637.out;have hfz62_0:=jb BK637.out 0) |((with_reducible refine jy (f:=88) rfl ?_);refine gL (some 20) Try.func88 #[.pointer (some ⟨g,0,none⟩), .int .i64 (t633.length:Int)] ?_;(with_reducible refine (jl.calls k g s0_0 t636 (t633.length:Int) t638 t639 w0 _ ?side1 ?side2 A5.out).mono ?_);(case side1=>exact Y2);(case side2=>exact Y17);rintro e w63 ⟨rfl,hi,hb,hk⟩;refine ⟨_,rfl,?_⟩;replace BK626:=am (jd.blk hk (g':=gb626) (o:=.cells #[.slice none 0 0] 37 (0,0)) (Y85) NB626_0.out (by simp));replace BK627:=am (jd.blk hk (g':=gb627) (o:=.cells #[.slice none 0 0] 32 (0,0)) (Y86) NB627_0.out (by simp));replace HO630:=am (Kd.jH (Kd.jla (jc.apart (show jc w0 _ g s0_0 t636 from Y2) (by (with_reducible repeat (first | apply Kd.jU | apply Kd.jW | apply Kd.jS));exact (Kd.jH (Kd.jra (p:=⟨gb637,0,none⟩) (Kd.jN HO630.out BK637.out (by decide)) (fun _ hk=>hk.2) (.slice Ao57 t633.length co57)) (fun _ h_=>h_.1))) (by decide)) hk (fun _ h=>h.2)) (fun _ h=>h.1));replace BK632:=am (jd.blk hk (g':=gb632) (o:=.cells #[.slice Ao50 t628.length co50] 37 (0,0)) (Y87) NB632_0.out (by simp));replace HO635:=am (Kd.jH (Kd.jla (jc.apart (show jc w0 _ g s0_0 t636 from Y2) (by (with_reducible repeat (first | apply Kd.jU | apply Kd.jW | apply Kd.jS));exact (Kd.jH (Kd.jra (p:=⟨gb637,0,none⟩) (Kd.jN HO635.out BK637.out (by decide)) (fun _ hk=>hk.2) (.slice Ao57 t633.length co57)) (fun _ h_=>h_.1))) (by decide)) hk (fun _ h=>h.2)) (fun _ h=>h.1));replace BK637:=am (jd.blk hk (g':=gb637) (o:=.cells #[.slice Ao57 t633.length co57] 32 (0,0)) (Y88) NB637_0.out (by simp));replace HK:=am (jd.trans (Y10) hk (.inl rfl));replace HB:=am (hb);replace HI0:=am (hi);(try clear hb);(try clear hb2);(try clear hk);(try clear hi)) |((with_reducible refine jy (f:=88) rfl ?_);refine gL (some 22) Try.func88 #[.pointer (some ⟨g,0,none⟩), .int .i64 24] ?_;(with_reducible refine (jl.calls k g s0_0 t639 24 t640 t641 w0 _ ?side1 ?side2 A6.out).mono ?_);(case side1=>exact Y2);(case side2=>exact Y17);rintro e w64 ⟨rfl,hi,hb,hk⟩;refine ⟨_,rfl,?_⟩;replace BK626:=am (jd.blk hk (g':=gb626) (o:=.cells #[.slice none 0 0] 37 (0,0)) (kq BK626.out) NB626_0.out (by simp));replace BK627:=am (jd.blk hk (g':=gb627) (o:=.cells #[.slice none 0 0] 32 (0,0)) (kq BK627.out) NB627_0.out (by simp));replace HO630:=am (Kd.jH (Kd.jla (jc.apart (show jc w0 _ g s0_0 t639 from Y2) (rq HO630.out) (by decide)) hk (fun _ h=>h.2)) (fun _ h=>h.1));replace BK632:=am (jd.blk hk (g':=gb632) (o:=.cells #[.slice Ao50 t628.length co50] 37 (0,0)) (kq BK632.out) NB632_0.out (by simp));replace HO635:=am (Kd.jH (Kd.jla (jc.apart (show jc w0 _ g s0_0 t639 from Y2) (rq HO635.out) (by decide)) hk (fun _ h=>h.2)) (fun _ h=>h.1));replace BK637:=am (jd.blk hk (g':=gb637) (o:=.cells #[.slice Ao57 t633.length co57] 32 (0,0)) (kq BK637.out) NB637_0.out (by simp));replace HK:=am (jd.trans (Y10) hk (.inl rfl));replace HB:=am (hb);replace HI0:=am (hi);(try clear hb);(try clear hb2);(try clear hk);(try clear hi)))
      replace HO630:=am (Kd.jS HO630.out)
      replace HO635:=am (Kd.jS HO635.out)
      replace BK626:=am (jg BK626.out)
      replace BK627:=am (jg BK627.out)
      replace BK632:=am (jg BK632.out)
      replace BK637:=am (jg BK637.out)
      replace HI0:=am (jc.drew HI0.out)
      replace HK:=am (jV HK.out)
      replace HB:=am (jr HB.out)
      refine jLb (n:=9) (S:=fun w'=>w'.cell? ⟨gb637,0,none⟩=some (.slice Ao57 t633.length co57)∧w'.cell? ⟨gb632,0,none⟩=some (.slice Ao50 t628.length co50)) (ds:=[8]) #[false,false,false,false,false,false,false,false,false] (by kernel_rfl) rfl rfl ⟨(jG BK637.out 0).trans rfl,(jG BK632.out 0).trans rfl⟩ (fun hHeld=>?_);refine jyb jJ.tab9 jJ.bits9 (fun HT_ HW_=>?_)
      generalize w64.drew=w65 at HO630 HO635 BK626 BK627 BK632 BK637 HI0 HK HB hHeld ⊢
      refine pq (i:=0) (N:=some 36) #[true,false,false,false,false,false,false,false,false] ?_
      refine pq (i:=2) (N:=some 38) #[true,false,true,false,false,false,false,false,false] ?_
      refine pq (i:=3) (N:=some 39) #[true,false,true,true,false,false,false,false,false] ?_
      refine jzb (i:=1) (N:=some 37) (v:=?_) (a':=?_) #[true,true,true,true,false,false,false,false,false] rfl rfl (jgb HT_.out HW_.out (by kernel_rfl)) (fun _ _ _ h=>h) (Or.inl ⟨by rfl,?_⟩) hHeld ?_ ?_
      rotate_left
      ·rintro w' ⟨s0,s1⟩
       go_simp
       with_reducible rfl
      rotate_left
      ·exact sa
      refine jzb (i:=4) (N:=some 40) (v:=?_) (a':=?_) #[true,true,true,true,true,false,false,false,false] rfl rfl (jgb HT_.out HW_.out (by kernel_rfl)) (fun _ _ _ h=>h) (Or.inl ⟨by rfl,?_⟩) hHeld ?_ ?_
      rotate_left
      ·rintro w' ⟨s0,s1⟩
       go_simp
       with_reducible rfl
      rotate_left
      ·exact sa
      refine one_ (i:=5) (N:=some 41) #[true,true,true,true,true,true,false,false,false] rfl rfl (jbb HT_.out (by kernel_rfl)) (by decide) (fun K hK=>?_)
      refine goes_ Try.func90 (by kernel_rfl) rfl #[.pointer (some ⟨g,0,none⟩), .agg #[.slice Ao50 t628.length co50]] (by rfl) rfl rfl (aq) ?_
      with_reducible refine (jfb.calls k g s0_0 t641 _ _ t628 t648 t649 w0 _ ?side1 ?side2 ?side3 ?side4 A42.out).mono ?_
      (case side1=>exact Y2)
      (case side2=>exact Y17)
      (case side3=>exact Kd.jEb (jc.apart (show jc w0 _ g s0_0 t641 from Y2) (rq HO630.out) (by decide)) (fun _ h_=>h_.2))
      (case side4=>exact (Kd.jB HO630.out).2.1)
      rintro e w66 ⟨rfl,hi,hb,hk⟩
      refine ⟨_,rfl,?_⟩
      replace BK626:=am (jd.blk hk (g':=gb626) (o:=.cells #[.slice none 0 0] 37 (0,0)) (kq BK626.out) NB626_0.out (by simp))
      replace BK627:=am (jd.blk hk (g':=gb627) (o:=.cells #[.slice none 0 0] 32 (0,0)) (kq BK627.out) NB627_0.out (by simp))
      replace HO630:=am (Kd.jH (Kd.jla (jc.apart (show jc w0 _ g s0_0 t641 from Y2) (rq HO630.out) (by decide)) hk (fun _ h=>h.2)) (fun _ h=>h.1))
      replace BK632:=am (jd.blk hk (g':=gb632) (o:=.cells #[.slice Ao50 t628.length co50] 37 (0,0)) (kq BK632.out) NB632_0.out (by simp))
      replace HO635:=am (Kd.jH (Kd.jla (jc.apart (show jc w0 _ g s0_0 t641 from Y2) (rq HO635.out) (by decide)) hk (fun _ h=>h.2)) (fun _ h=>h.1))
      replace BK637:=am (jd.blk hk (g':=gb637) (o:=.cells #[.slice Ao57 t633.length co57] 32 (0,0)) (kq BK637.out) NB637_0.out (by simp))
      replace HK:=am (jd.trans (Y10) hk (.inl rfl))
      replace HB:=am (hb)
      replace HI0:=am (hi)
      (try clear hb)
      (try clear hb2)
      (try clear hk)
      (try clear hi)
      have p45:0≤(t638:Int):=ozD (uq)
      have q45:(t638:Int)<((t633.length:Int):Int):=ozD (uq)
      obtain ⟨go45,co45,eo45,gb45,gl45,cl45,HG45⟩:=Kd.R_form HO635.out (by omega)
      (first | cases eo45 |(injection eo45 with ea_ en_ ec_;(first | subst ea_ |(injection ea_ with ea_;subst ea_));subst ec_;clear en_))
      have GB45:=am gb45
      have GG45:=am HG45
      clear gb45 gl45 HG45
      obtain ⟨ce45,hcl45,hM45,hcc45,hfr45⟩:=Kd.jqb HO635.out z54 (t638:Int) p45 q45
      obtain rfl:=jQa hM45
      have hx45_0:World.cell? _ ⟨go45,(t638:Int).toNat * 5,none⟩=some (.int .i64 ((ja t633 t638).f0)):=hcc45 0 _ rfl
      have hx45_1:World.cell? _ ⟨go45,(t638:Int).toNat * 5+1,none⟩=some (.int .i64 ((ja t633 t638).f1)):=hcc45 1 _ rfl
      have hx45_2:World.cell? _ ⟨go45,(t638:Int).toNat * 5+2,none⟩=some (.int .i64 ((ja t633 t638).f2)):=hcc45 2 _ rfl
      have hx45_3:World.cell? _ ⟨go45,(t638:Int).toNat * 5+3,none⟩=some (.int .i64 ((ja t633 t638).f3)):=hcc45 3 _ rfl
      have hx45_4:World.cell? _ ⟨go45,(t638:Int).toNat * 5+4,none⟩=some (.bool ((ja t633 t638).f4)):=hcc45 4 _ rfl
      have hf45_0:World.frozen? _ ⟨go45,(t638:Int).toNat * 5,none⟩=false:=hfr45 0
      have hf45_1:World.frozen? _ ⟨go45,(t638:Int).toNat * 5+1,none⟩=false:=hfr45 1
      have hf45_2:World.frozen? _ ⟨go45,(t638:Int).toNat * 5+2,none⟩=false:=hfr45 2
      have hf45_3:World.frozen? _ ⟨go45,(t638:Int).toNat * 5+3,none⟩=false:=hfr45 3
      have hf45_4:World.frozen? _ ⟨go45,(t638:Int).toNat * 5+4,none⟩=false:=hfr45 4
      clear hcl45 hcc45 hfr45 hM45
      replace p45:=ezT p45
      replace q45:=ezT q45
      have HN0_go45:=am (show g≠go45 from by have h_:=jc.own_ne HI0.out HO635.out (by decide);intro e_;exact h_ (by rw [e_];rfl))
      obtain ⟨ce67,hcl67,hM67,hcc67,hfr67⟩:=Kd.jqb HO635.out z54 (t638:Int) (ozD (uq)) (by have h_:(t638:Int)<((t633.length:Int):Int):=ozD (uq);first | exact h_ |(have e_:=(Kd.jB HO635.out).1;omega) | simpa using h_)
      obtain rfl:=jQa hM67
      have HP67:=(Kd.R_seg HO635.out (t638:Int) (ozD (uq)) (by have h_:(t638:Int)<((t633.length:Int):Int):=ozD (uq);first | exact h_ |(have e_:=(Kd.jB HO635.out).1;omega) | simpa using h_) (seg:=[.int .i64 t648]) (j:=0) hcl67 hcc67 (show 1≤5 from by decide) (x':=(⟨t648,(ja t633 t638).f1,(ja t633 t638).f2,(ja t633 t638).f3,(ja t633 t638).f4⟩:S54)) (jQb _ _ _ (⟨t648,(ja t633 t638).f1,(ja t633 t638).f2,(ja t633 t638).f3,(ja t633 t638).f4⟩:S54) ) (fun _ hk=>hk)).1
      rw [← Ny650.out] at HP67
      have HQ67:=am HP67
      clear hcl67 hcc67 hfr67 hM67 HP67
      refine hK.out _ _ ⟨(jG BK637.out 0).trans rfl,(jG BK632.out 0).trans rfl⟩ (fun hHeld=>?_)
      clear hK K
      refine jJb (a':=?_) ?_ ?_
      rotate_left
      ·show Act.put _ (some 41) _=_
       simp only [Act.put,List.setIfInBounds_toArray,List.set_cons_zero,List.set_cons_succ,job,jsb]
       rfl
      refine pq (i:=6) (N:=some 42) #[true,true,true,true,true,true,true,false,false] ?_
      refine pq (i:=7) (N:=some 43) #[true,true,true,true,true,true,true,true,false] ?_
      refine last_ (i:=8) (N:=none) #[true,true,true,true,true,true,true,true,true] rfl rfl (jbb HT_.out (by kernel_rfl)) (by decide) (fun K hK=>?_)
      refine jPb (w1:=?_) (by rfl) rfl ?_ ?_
      rotate_left
      ·go_simp
       rfl
      refine hK.out _ _ ?_
      clear hK K
      refine done_ (jUb HT_.out (by kernel_rfl)) ?_
      have n0_:jC (Kd.R k94 94 (w66.setCell ⟨go45,(t638:Int).toNat * 5,none⟩ (.int .i64 t648)) w.heap.size (fun _=>True) (.slice Ao50 t628.length co50) t628):=⟨by (with_reducible repeat (first | apply Kd.jU | apply Kd.jW | apply Kd.jS));exact Kd.jH (Kd.jra (p:=⟨go45,(t638:Int).toNat * 5,none⟩) (Kd.jN HO630.out GG45.out (by decide)) (fun _ hk=>hk.2) (.int .i64 t648)) (fun _ hk=>trivial)⟩
      have n1_:jC (Kd.R k54 54 (w66.setCell ⟨go45,(t638:Int).toNat * 5,none⟩ (.int .i64 t648)) w.heap.size (fun _=>True) (.slice (some ⟨go45,0,none⟩) t633.length co57) y650):=⟨rq HQ67.out⟩
      have n2_:jC ((w66.setCell ⟨go45,(t638:Int).toNat * 5,none⟩ (.int .i64 t648)).heap[gb626]?=some (.cells #[.slice none 0 0] 37 (0,0))):=⟨by (with_reducible repeat (first | refine jh ?_ _ | refine jg ?_ | refine jk ?_ _));refine jO ?_ (by have h_:=Kd.R_ne HO635.out BK626.out (by decide);intro e_;exact h_ (by rw [e_];rfl)) _;(with_reducible repeat (first | refine jh ?_ _ | refine jg ?_ | refine jk ?_ _));exact BK626.out⟩
      have n3_:jC ((w66.setCell ⟨go45,(t638:Int).toNat * 5,none⟩ (.int .i64 t648)).heap[gb627]?=some (.cells #[.slice none 0 0] 32 (0,0))):=⟨by (with_reducible repeat (first | refine jh ?_ _ | refine jg ?_ | refine jk ?_ _));refine jO ?_ (by have h_:=Kd.R_ne HO635.out BK627.out (by decide);intro e_;exact h_ (by rw [e_];rfl)) _;(with_reducible repeat (first | refine jh ?_ _ | refine jg ?_ | refine jk ?_ _));exact BK627.out⟩
      have n4_:jC ((w66.setCell ⟨go45,(t638:Int).toNat * 5,none⟩ (.int .i64 t648)).heap[gb632]?=some (.cells #[.slice Ao50 t628.length co50] 37 (0,0))):=⟨by (with_reducible repeat (first | refine jh ?_ _ | refine jg ?_ | refine jk ?_ _));refine jO ?_ (by have h_:=Kd.R_ne HO635.out BK632.out (by decide);intro e_;exact h_ (by rw [e_];rfl)) _;(with_reducible repeat (first | refine jh ?_ _ | refine jg ?_ | refine jk ?_ _));exact BK632.out⟩
      have n5_:jC ((w66.setCell ⟨go45,(t638:Int).toNat * 5,none⟩ (.int .i64 t648)).heap[gb637]?=some (.cells #[.slice (some ⟨go45,0,none⟩) t633.length co57] 32 (0,0))):=⟨by (with_reducible repeat (first | refine jh ?_ _ | refine jg ?_ | refine jk ?_ _));refine jO ?_ (by have h_:=Kd.R_ne HO635.out BK637.out (by decide);intro e_;exact h_ (by rw [e_];rfl)) _;(with_reducible repeat (first | refine jh ?_ _ | refine jg ?_ | refine jk ?_ _));exact BK637.out⟩
      have n6_:jC (jc w0 (w66.setCell ⟨go45,(t638:Int).toNat * 5,none⟩ (.int .i64 t648)) g s0_0 t649):=⟨by repeat (first |(with_reducible first | exact HI0.out | apply jc.alloc | apply jc.drewN | apply jc.drew | apply jc.jeb | refine jc.far ?_ HN0_go45.out _ | refine jc.far ?_ NB0_626.out _ | refine jc.far ?_ NB0_627.out _ | refine jc.far ?_ NB0_632.out _ | refine jc.far ?_ NB0_637.out _) | exact HI0.out)⟩
      have n7_:jC (jd w (w66.setCell ⟨go45,(t638:Int).toNat * 5,none⟩ (.int .i64 t648)) g none):=⟨by repeat (first |(with_reducible first | exact HK.out | apply jd.set_ | apply jga | apply jV | apply jha | refine jK ?_ GB45.out _ | refine jK ?_ GW626.out _ | refine jK ?_ GW627.out _ | refine jK ?_ GW632.out _ | refine jK ?_ GW637.out _) | exact HK.out)⟩
      have n8_:jC (Below w0.heap.size w0 (w66.setCell ⟨go45,(t638:Int).toNat * 5,none⟩ (.int .i64 t648))):=⟨by repeat (first |(with_reducible first | exact HB.out | apply jw | apply jo | apply jr | refine jm ?_ (Nat.le_trans HL.out GB45.out) | refine jm ?_ (jc.ge HI0.out) | refine jm ?_ GE626.out | refine jm ?_ GE627.out | refine jm ?_ GE632.out | refine jm ?_ GE637.out) | exact HB.out)⟩
      (try clear HO630)
      (try clear HO635)
      (try clear BK626)
      (try clear BK627)
      (try clear BK632)
      (try clear BK637)
      (try clear HI0)
      (try clear HK)
      (try clear HB)
      generalize (w66.setCell ⟨go45,(t638:Int).toNat * 5,none⟩ (.int .i64 t648))=w68 at n0_ n1_ n2_ n3_ n4_ n5_ n6_ n7_ n8_ ⊢
      have HO630:=n0_
      have HO635:=n1_
      have BK626:=n2_
      have BK627:=n3_
      have BK632:=n4_
      have BK637:=n5_
      have HI0:=n6_
      have HK:=n7_
      have HB:=n8_
      clear n0_ n1_ n2_ n3_ n4_ n5_ n6_ n7_ n8_
      try go_wp2
      replace HO630:=am (Kd.jS HO630.out)
      replace HO635:=am (Kd.jS HO635.out)
      replace BK626:=am (jg BK626.out)
      replace BK627:=am (jg BK627.out)
      replace BK632:=am (jg BK632.out)
      replace BK637:=am (jg BK637.out)
      replace HI0:=am (jc.drew HI0.out)
      replace HK:=am (jV HK.out)
      replace HB:=am (jr HB.out)
      refine jLb (n:=4) (S:=fun w'=>w'.cell? ⟨gb632,0,none⟩=some (.slice Ao50 t628.length co50)∧w'.cell? ⟨gb637,0,none⟩=some (.slice (some ⟨go45,0,none⟩) t633.length co57)) (ds:=[]) #[false,false,false,false] (by kernel_rfl) rfl rfl ⟨(jG BK632.out 0).trans rfl,(jG BK637.out 0).trans rfl⟩ (fun hHeld=>?_)
      generalize w68.drew=w69 at HO630 HO635 BK626 BK627 BK632 BK637 HI0 HK HB hHeld ⊢
      refine jzb (i:=0) (N:=some 65) (v:=?_) (a':=?_) #[true,false,false,false] rfl rfl (by kernel_rfl) (fun _ _ _ h=>h) (Or.inl ⟨by rfl,?_⟩) hHeld ?_ ?_
      rotate_left
      ·rintro w' ⟨s0,s1⟩
       go_simp
       with_reducible rfl
      rotate_left
      ·exact sa
      refine jzb (i:=1) (N:=some 66) (v:=?_) (a':=?_) #[true,true,false,false] rfl rfl (by kernel_rfl) (fun _ _ _ h=>h) (Or.inl ⟨by rfl,?_⟩) hHeld ?_ ?_
      rotate_left
      ·rintro w' ⟨s0,s1⟩
       go_simp
       with_reducible rfl
      rotate_left
      ·exact sa
      refine one_ (i:=2) (N:=none) #[true,true,true,false] rfl rfl (by kernel_rfl) (by decide) (fun K hK=>?_)
      have hs70:w69.cell? ⟨gb626,0,none⟩=some (.slice none 0 0):=(jG BK626.out 0).trans rfl
      have hfs70:=jb BK626.out 0
      have hns70_1:=NB627_626.out
      have hns70_2:=NB632_626.out
      have hns70_3:=NB637_626.out
      have hms70_1:=NB626_627.out
      have hms70_2:=NB626_632.out
      have hms70_3:=NB626_637.out
      refine jPb (w1:=?_) (by rfl) rfl ?_ ?_
      rotate_left
      ·go_simp
       rfl
      refine hK.out _ _ ⟨((cell_far (p:=⟨gb626,_,none⟩) NB632_626.out _).trans (hHeld.1)),((cell_far (p:=⟨gb626,_,none⟩) NB637_626.out _).trans (hHeld.2))⟩ (fun hHeld=>?_)
      clear hK K
      refine one_ (i:=3) (N:=none) #[true,true,true,true] rfl rfl (by kernel_rfl) (by decide) (fun K hK=>?_)
      have hs71:w69.cell? ⟨gb627,0,none⟩=some (.slice none 0 0):=(jG BK627.out 0).trans rfl
      have hfs71:=jb BK627.out 0
      have hns71_0:=NB626_627.out
      have hns71_2:=NB632_627.out
      have hns71_3:=NB637_627.out
      have hms71_0:=NB627_626.out
      have hms71_2:=NB627_632.out
      have hms71_3:=NB627_637.out
      refine jPb (w1:=?_) (by rfl) rfl ?_ ?_
      rotate_left
      ·go_simp
       rfl
      refine hK.out _ _ ⟨((cell_far (p:=⟨gb627,_,none⟩) NB632_627.out _).trans (hHeld.1)),((cell_far (p:=⟨gb627,_,none⟩) NB637_627.out _).trans (hHeld.2))⟩ (fun hHeld=>?_)
      clear hK K
      refine done_ (by kernel_rfl) ?_
      try go_wp2
      refine bodyPost_ret (jMb rfl _ _ gb626 gb627 37 32 #[.slice Ao50 t628.length co50] #[.slice (some ⟨go45,0,none⟩) t633.length co57] (0,0) (0,0) _ _ rfl (Y73) Try.underlying37 rfl (by kernel_rfl) rfl (Y74) Try.underlying32 rfl (by kernel_rfl)) rfl ?_
      exact ⟨_,_,Y1,by (with_reducible repeat (first | apply Kd.jU | apply Kd.jW | apply Kd.jS));exact Kd.jH (Kd.jra (p:=⟨gb627,0,none⟩) (Kd.jra (p:=⟨gb626,0,none⟩) (Kd.jN (Kd.jN HO630.out BK626.out (by decide)) BK627.out (by decide)) (fun _ hk=>hk.1.2) (.slice Ao50 t628.length co50)) (fun _ hk=>hk.2) (.slice (some ⟨go45,0,none⟩) t633.length co57)) (fun _ hk=>trivial),by (with_reducible repeat (first | apply Kd.jU | apply Kd.jW | apply Kd.jS));exact Kd.jH (Kd.jra (p:=⟨gb627,0,none⟩) (Kd.jra (p:=⟨gb626,0,none⟩) (Kd.jN (Kd.jN HO635.out BK626.out (by decide)) BK627.out (by decide)) (fun _ hk=>hk.1.2) (.slice Ao50 t628.length co50)) (fun _ hk=>hk.2) (.slice (some ⟨go45,0,none⟩) t633.length co57)) (fun _ hk=>trivial),Y2,Y17,Y10⟩
     ·rw [if_neg c44] at H
      exact absurd H (by simp)
    ·rw [if_neg c43] at H
     exact absurd H (by simp)
   ·rw [if_neg c41] at H
    have c41b0:(t640 == 1)=false:=beq_eq_false_iff_ne.mpr c41
    have c41b1:(t640 != 1)=true:=bne_iff_ne.mpr c41
    by_cases c72:t640=2
    ·rw [if_pos c72] at H
     have c72b0:(t640 == 2)=true:=beq_iff_eq.mpr c72
     have c72b1:(t640 != 2)=false:=bne_eq_false_iff_eq.mpr c72
     clear c72
     obtain ⟨y651,hy651⟩:∃ y_:List Int,y_=(([(-1),100]:List Int)):=⟨_,rfl⟩
     replace H:((jv.f k s0_0 t641 y651).bind fun bt654=>(if 0≤t638 then (if t638<(t633.length:Int) then (some (t628,(t633.set (t638:Int).toNat (⟨(ja t633 t638).f0,bt654.1,(ja t633 t638).f2,(ja t633 t638).f3,(ja t633 t638).f4⟩:S54)),bt654.2)) else (none)) else (none)))=some (r1,r2,r3):=by first |(rw [hy651];with_reducible exact H) |(have H2_:=(Option.bind_some _ _).symm.trans H;rw [hy651];with_reducible exact H2_) |(have H2_:=(Option.bind_some _ _).symm.trans H;with_reducible exact H2_) | with_reducible exact H |(rw [hy651];exact H) | exact H
     have Ny651:=am hy651
     clear hy651
     replace H:=bzS H
     obtain ⟨⟨t654,t655⟩,A730,H⟩:=H
     replace H:(if 0≤t638 then (if t638<(t633.length:Int) then (some (t628,(t633.set (t638:Int).toNat (⟨(ja t633 t638).f0,t654,(ja t633 t638).f2,(ja t633 t638).f3,(ja t633 t638).f4⟩:S54)),t655)) else (none)) else (none))=some (r1,r2,r3):=H
     have A73:=am A730
     clear A730
     by_cases c74:0≤t638
     ·rw [if_pos c74] at H
      have c74b0:decide (0≤t638)=true:=dzT c74
      clear c74
      by_cases c75:t638<(t633.length:Int)
      ·rw [if_pos c75] at H
       have c75b0:decide (t638<(t633.length:Int))=true:=dzT c75
       clear c75
       obtain ⟨y656,hy656⟩:∃ y_:List (S54),y_=(t633.set (t638:Int).toNat (⟨(ja t633 t638).f0,t654,(ja t633 t638).f2,(ja t633 t638).f3,(ja t633 t638).f4⟩:S54)):=⟨_,rfl⟩
       replace H:(some (t628,y656,t655))=some (r1,r2,r3):=by first |(rw [hy656];with_reducible exact H) |(have H2_:=(Option.bind_some _ _).symm.trans H;rw [hy656];with_reducible exact H2_) |(have H2_:=(Option.bind_some _ _).symm.trans H;with_reducible exact H2_) | with_reducible exact H |(rw [hy656];exact H) | exact H
       have Ny656:=am hy656
       clear hy656
       simp only [Option.some.injEq,Prod.mk.injEq] at H
       obtain ⟨rfl,rfl,rfl⟩:=H
       go_enter Try.func61,Try.ntmps61
       try go_wp2_with (first |((with_reducible refine jD (N:=2) rfl ?_);refine bE (N:=2) (cs:=#[.slice none 0 0]) (t:=37) ?_;intro gb626 hg w77 hbox hb;have BK626:=am (hbox);have GW626:=am ((Y6:w.heap.size≤gb626));have GE626:=am ((Nat.le_trans HW0.out (Y6:w.heap.size≤gb626):w0.heap.size≤gb626));have NB0_626:=am ((Y24:g≠gb626));have NB626_0:=am ((Y25:gb626≠g));replace HK:=am (jd.trans (Y13) (jd.of_below hb g none) (.inl rfl));replace HB:=am (jf (Y14) hb);replace HI0:=am (jc.below (Y12) hb);clear hb hbox hg) |((with_reducible refine jD (N:=3) rfl ?_);refine bE (N:=3) (cs:=#[.slice none 0 0]) (t:=32) ?_;intro gb627 hg w78 hbox hb;have BK627:=am (hbox);have GW627:=am ((Y31:w.heap.size≤gb627));have GE627:=am ((Nat.le_trans HW0.out (Y31:w.heap.size≤gb627):w0.heap.size≤gb627));have NB626_627:=am ((Y20:gb626≠gb627));have NB627_626:=am ((Y21:gb627≠gb626));have NB0_627:=am ((Y61:g≠gb627));have NB627_0:=am ((Y62:gb627≠g));replace BK626:=am (je (g:=gb626) (o:=.cells #[.slice none 0 0] 37 (0,0)) (kq BK626.out) hb);replace HK:=am (jd.trans (Y63) (jd.of_below hb g none) (.inl rfl));replace HB:=am (jf (Y64) hb);replace HI0:=am (jc.below (Y65) hb);clear hb hbox hg) |((with_reducible refine jy (f:=87) rfl ?_);refine gL (some 8) Try.func87 #[.pointer (some ⟨g,0,none⟩)] ?_;(with_reducible refine (jY.calls k g s0_0 s0_1 t628 t631 w0 _ ?side1 ?side2 A2.out).mono ?_);(case side1=>exact Y32);(case side2=>exact Y33);rintro e w79 ⟨v629,rfl,ho0,hi,hb,hk⟩;refine ⟨_,rfl,?_⟩;have HO630:=am (Kd.jia ho0 (jba (w:=w) (g:=g) (row:=none) (Y22)));replace BK626:=am (jd.blk hk (g':=gb626) (o:=.cells #[.slice none 0 0] 37 (0,0)) (kq BK626.out) NB626_0.out (by simp));replace BK627:=am (jd.blk hk (g':=gb627) (o:=.cells #[.slice none 0 0] 32 (0,0)) (kq BK627.out) NB627_0.out (by simp));replace HK:=am (jd.trans (Y22) hk (.inl rfl));replace HB:=am (hb);replace HI0:=am (hi);(try clear hb);(try clear hb2);(try clear hk);(try clear hi);(try clear ho0)) |((with_reducible refine jD (N:=4) rfl ?_);refine bE (N:=4) (cs:=#[.slice none 0 0]) (t:=37) ?_;intro gb632 hg w80 hbox hb;have BK632:=am (hbox);have GW632:=am ((Y34:w.heap.size≤gb632));have GE632:=am ((Nat.le_trans HW0.out (Y34:w.heap.size≤gb632):w0.heap.size≤gb632));have NB626_632:=am ((Y20:gb626≠gb632));have NB632_626:=am ((Y21:gb632≠gb626));have NB627_632:=am ((Y35:gb627≠gb632));have NB632_627:=am ((Y36:gb632≠gb627));have NB0_632:=am ((Y66:g≠gb632));have NB632_0:=am ((Y67:gb632≠g));replace HO630:=am (Kd.jX (rq HO630.out) hb);replace BK626:=am (je (g:=gb626) (o:=.cells #[.slice none 0 0] 37 (0,0)) (kq BK626.out) hb);replace BK627:=am (je (g:=gb627) (o:=.cells #[.slice none 0 0] 32 (0,0)) (kq BK627.out) hb);replace HK:=am (jd.trans (Y22) (jd.of_below hb g none) (.inl rfl));replace HB:=am (jf (Y33) hb);replace HI0:=am (jc.below (Y32) hb);clear hb hbox hg;obtain ⟨Ao81,co81,eo81⟩:=Kd.jZ HO630.out;subst eo81;have hnb82:=NB632_626.out;have hnc82:=NB626_632.out;have hnb83:=NB632_627.out;have hnc83:=NB627_632.out;have hnb84:=NB632_0.out;have hnc84:=NB0_632.out;have hcz85_0:=bc0 BK632.out;have hfz85_0:=jb BK632.out 0) |((with_reducible refine jy (f:=62) rfl ?_);refine gL (some 11) Try.func62 #[.pointer (some ⟨g,0,none⟩), .agg #[.slice Ao81 t628.length co81]] ?_;(with_reducible refine (jq.calls k g s0_0 t631 _ _ t628 t633 t636 w0 _ ?side1 ?side2 ?side3 ?side4 A3.out).mono ?_);(case side1=>exact Y16);(case side2=>exact Y37);(case side3=>exact Kd.jEb (jc.apart (show jc w0 _ g s0_0 t631 from Y16) (Y153) (by decide)) (fun _ h_=>h_.2));(case side4=>exact (Kd.jB HO630.out).2.1);rintro e w86 ⟨v634,rfl,ho0,hi,hb,hk⟩;refine ⟨_,rfl,?_⟩;have HO635:=am (Kd.jia ho0 (jba (w:=w) (g:=g) (row:=none) (Y23)));replace BK626:=am (jd.blk hk (g':=gb626) (o:=.cells #[.slice none 0 0] 37 (0,0)) (Y68) NB626_0.out (by simp));replace BK627:=am (jd.blk hk (g':=gb627) (o:=.cells #[.slice none 0 0] 32 (0,0)) (Y69) NB627_0.out (by simp));replace HO630:=am (Kd.jH (Kd.jla (jc.apart (show jc w0 _ g s0_0 t631 from Y16) (Y153) (by decide)) hk (fun _ h=>h.2)) (fun _ h=>h.1));replace BK632:=am (jd.blk hk (g':=gb632) (o:=.cells #[.slice Ao81 t628.length co81] 37 (0,0)) (Y70) NB632_0.out (by simp));replace HK:=am (jd.trans (Y23) hk (.inl rfl));replace HB:=am (hb);replace HI0:=am (hi);(try clear hb);(try clear hb2);(try clear hk);(try clear hi);(try clear ho0)) |((with_reducible refine jD (N:=5) rfl ?_);refine bE (N:=5) (cs:=#[.slice none 0 0]) (t:=32) ?_;intro gb637 hg w87 hbox hb;have BK637:=am (hbox);have GW637:=am ((Y38:w.heap.size≤gb637));have GE637:=am ((Nat.le_trans HW0.out (Y38:w.heap.size≤gb637):w0.heap.size≤gb637));have NB626_637:=am ((Y20:gb626≠gb637));have NB637_626:=am ((Y21:gb637≠gb626));have NB627_637:=am ((Y35:gb627≠gb637));have NB637_627:=am ((Y36:gb637≠gb627));have NB632_637:=am ((by rw [hg];exact Nat.ne_of_lt (jca (g:=gb632) (o:=.cells #[.slice Ao81 t628.length co81] 37 (0,0)) (kq BK632.out)):gb632≠gb637));have NB637_632:=am ((by rw [hg];exact Nat.ne_of_gt (jca (g:=gb632) (o:=.cells #[.slice Ao81 t628.length co81] 37 (0,0)) (kq BK632.out)):gb637≠gb632));have NB0_637:=am ((Y71:g≠gb637));have NB637_0:=am ((Y72:gb637≠g));replace HO630:=am (Kd.jX (rq HO630.out) hb);replace HO635:=am (Kd.jX (rq HO635.out) hb);replace BK626:=am (je (g:=gb626) (o:=.cells #[.slice none 0 0] 37 (0,0)) (kq BK626.out) hb);replace BK627:=am (je (g:=gb627) (o:=.cells #[.slice none 0 0] 32 (0,0)) (kq BK627.out) hb);replace BK632:=am (je (g:=gb632) (o:=.cells #[.slice Ao81 t628.length co81] 37 (0,0)) (kq BK632.out) hb);replace HK:=am (jd.trans (Y23) (jd.of_below hb g none) (.inl rfl));replace HB:=am (jf (Y37) hb);replace HI0:=am (jc.below (Y16) hb);clear hb hbox hg;obtain ⟨Ao88,co88,eo88⟩:=Kd.jZ HO635.out;subst eo88;have hnb89:=NB637_626.out;have hnc89:=NB626_637.out;have hnb90:=NB637_627.out;have hnc90:=NB627_637.out;have hnb91:=NB637_632.out;have hnc91:=NB632_637.out;have hnb92:=NB637_0.out;have hnc92:=NB0_637.out;have hcz93_0:=bc0 BK637.out;have hfz93_0:=jb BK637.out 0) |((with_reducible refine jy (f:=88) rfl ?_);refine gL (some 20) Try.func88 #[.pointer (some ⟨g,0,none⟩), .int .i64 (t633.length:Int)] ?_;(with_reducible refine (jl.calls k g s0_0 t636 (t633.length:Int) t638 t639 w0 _ ?side1 ?side2 A5.out).mono ?_);(case side1=>exact Y2);(case side2=>exact Y17);rintro e w94 ⟨rfl,hi,hb,hk⟩;refine ⟨_,rfl,?_⟩;replace BK626:=am (jd.blk hk (g':=gb626) (o:=.cells #[.slice none 0 0] 37 (0,0)) (Y85) NB626_0.out (by simp));replace BK627:=am (jd.blk hk (g':=gb627) (o:=.cells #[.slice none 0 0] 32 (0,0)) (Y86) NB627_0.out (by simp));replace HO630:=am (Kd.jH (Kd.jla (jc.apart (show jc w0 _ g s0_0 t636 from Y2) (by (with_reducible repeat (first | apply Kd.jU | apply Kd.jW | apply Kd.jS));exact (Kd.jH (Kd.jra (p:=⟨gb637,0,none⟩) (Kd.jN HO630.out BK637.out (by decide)) (fun _ hk=>hk.2) (.slice Ao88 t633.length co88)) (fun _ h_=>h_.1))) (by decide)) hk (fun _ h=>h.2)) (fun _ h=>h.1));replace BK632:=am (jd.blk hk (g':=gb632) (o:=.cells #[.slice Ao81 t628.length co81] 37 (0,0)) (Y87) NB632_0.out (by simp));replace HO635:=am (Kd.jH (Kd.jla (jc.apart (show jc w0 _ g s0_0 t636 from Y2) (by (with_reducible repeat (first | apply Kd.jU | apply Kd.jW | apply Kd.jS));exact (Kd.jH (Kd.jra (p:=⟨gb637,0,none⟩) (Kd.jN HO635.out BK637.out (by decide)) (fun _ hk=>hk.2) (.slice Ao88 t633.length co88)) (fun _ h_=>h_.1))) (by decide)) hk (fun _ h=>h.2)) (fun _ h=>h.1));replace BK637:=am (jd.blk hk (g':=gb637) (o:=.cells #[.slice Ao88 t633.length co88] 32 (0,0)) (Y88) NB637_0.out (by simp));replace HK:=am (jd.trans (Y10) hk (.inl rfl));replace HB:=am (hb);replace HI0:=am (hi);(try clear hb);(try clear hb2);(try clear hk);(try clear hi)) |((with_reducible refine jy (f:=88) rfl ?_);refine gL (some 22) Try.func88 #[.pointer (some ⟨g,0,none⟩), .int .i64 24] ?_;(with_reducible refine (jl.calls k g s0_0 t639 24 t640 t641 w0 _ ?side1 ?side2 A6.out).mono ?_);(case side1=>exact Y2);(case side2=>exact Y17);rintro e w95 ⟨rfl,hi,hb,hk⟩;refine ⟨_,rfl,?_⟩;replace BK626:=am (jd.blk hk (g':=gb626) (o:=.cells #[.slice none 0 0] 37 (0,0)) (kq BK626.out) NB626_0.out (by simp));replace BK627:=am (jd.blk hk (g':=gb627) (o:=.cells #[.slice none 0 0] 32 (0,0)) (kq BK627.out) NB627_0.out (by simp));replace HO630:=am (Kd.jH (Kd.jla (jc.apart (show jc w0 _ g s0_0 t639 from Y2) (rq HO630.out) (by decide)) hk (fun _ h=>h.2)) (fun _ h=>h.1));replace BK632:=am (jd.blk hk (g':=gb632) (o:=.cells #[.slice Ao81 t628.length co81] 37 (0,0)) (kq BK632.out) NB632_0.out (by simp));replace HO635:=am (Kd.jH (Kd.jla (jc.apart (show jc w0 _ g s0_0 t639 from Y2) (rq HO635.out) (by decide)) hk (fun _ h=>h.2)) (fun _ h=>h.1));replace BK637:=am (jd.blk hk (g':=gb637) (o:=.cells #[.slice Ao88 t633.length co88] 32 (0,0)) (kq BK637.out) NB637_0.out (by simp));replace HK:=am (jd.trans (Y10) hk (.inl rfl));replace HB:=am (hb);replace HI0:=am (hi);(try clear hb);(try clear hb2);(try clear hk);(try clear hi)))
       replace HO630:=am (Kd.jS HO630.out)
       replace HO635:=am (Kd.jS HO635.out)
       replace BK626:=am (jg BK626.out)
       replace BK627:=am (jg BK627.out)
       replace BK632:=am (jg BK632.out)
       replace BK637:=am (jg BK637.out)
       replace HI0:=am (jc.drew HI0.out)
       replace HK:=am (jV HK.out)
       replace HB:=am (jr HB.out)
       refine jLb (n:=9) (S:=fun w'=>w'.cell? ⟨gb637,0,none⟩=some (.slice Ao88 t633.length co88)) (ds:=[8]) #[false,false,false,false,false,false,false,false,false] (by kernel_rfl) rfl rfl ((jG BK637.out 0).trans rfl) (fun hHeld=>?_);refine jyb jJ.tab11 jJ.bits11 (fun HT_ HW_=>?_)
       generalize w95.drew=w96 at HO630 HO635 BK626 BK627 BK632 BK637 HI0 HK HB hHeld ⊢
       refine pq (i:=0) (N:=some 46) #[true,false,false,false,false,false,false,false,false] ?_
       refine pq (i:=2) (N:=some 48) #[true,false,true,false,false,false,false,false,false] ?_
       refine pq (i:=3) (N:=some 49) #[true,false,true,true,false,false,false,false,false] ?_
       refine jzb (i:=1) (N:=some 47) (v:=?_) (a':=?_) #[true,true,true,true,false,false,false,false,false] rfl rfl (jgb HT_.out HW_.out (by kernel_rfl)) (fun _ _ _ h=>h) (Or.inl ⟨by rfl,?_⟩) hHeld ?_ ?_
       rotate_left
       ·intro w' s0
        go_simp
        with_reducible rfl
       rotate_left
       ·exact sa
       refine one_ (i:=4) (N:=some 50) #[true,true,true,true,true,false,false,false,false] rfl rfl (jbb HT_.out (by kernel_rfl)) (by decide) (fun K hK=>?_)
       refine Kd.jDb (Kd.int .i64) _ 3 ?hg (N:=50) ?hd (xs:=([(-1),100]:List Int)) (inner:=[.int .i64 (-1), .int .i64 100]) (ok:=fun _=>True) (okp:=fun _=>True) ?hr ?hp (fun _ hk=>hk) trivial (Below.refl _ _) (Nat.le_refl _) (by simp) ?_;(case hd=>rfl);(case hg=>rfl);(case hr=>exact Y4);(case hp=>exact (Reps.one (show Kd.M (Kd.int .i64) _ _ _ (-1) [.int .i64 (-1)] from rfl) (Reps.one (show Kd.M (Kd.int .i64) _ _ _ 100 [.int .i64 100] from rfl) (Reps.none _ _))))
       intro v652 w97 ho98 hb hg_ hnew_
       clear hg_ hnew_
       (first | rw [← Ny651.out] at ho98 |(simp only [Int.reduceToNat] at ho98;rw [← Ny651.out] at ho98))
       have HO653:=am (Kd.jia ho98 (jba (w:=w) (g:=g) (row:=none) (Y10)))
       replace HO630:=am (Kd.jX (rq HO630.out) hb)
       replace HO635:=am (Kd.jX (rq HO635.out) hb)
       replace BK626:=am (je (g:=gb626) (o:=.cells #[.slice none 0 0] 37 (0,0)) (kq BK626.out) hb)
       replace BK627:=am (je (g:=gb627) (o:=.cells #[.slice none 0 0] 32 (0,0)) (kq BK627.out) hb)
       replace BK632:=am (je (g:=gb632) (o:=.cells #[.slice Ao81 t628.length co81] 37 (0,0)) (kq BK632.out) hb)
       replace BK637:=am (je (g:=gb637) (o:=.cells #[.slice Ao88 t633.length co88] 32 (0,0)) (kq BK637.out) hb)
       replace HK:=am (jd.trans (Y10) (jd.of_below hb g none) (.inl rfl))
       replace HB:=am (jf (Y17) hb)
       replace HI0:=am (jc.below (Y2) hb)
       clear hb ho98
       obtain ⟨Ao99,co99,eo99⟩:=Kd.jZ HO653.out
       (first | subst eo99 |(injection eo99 with f1_ f2_ f3_;have f4_:=f1_.symm;have f5_:=f3_.symm;clear f1_ f2_ f3_;subst f4_;subst f5_))
       refine hK.out _ _ ((jG BK637.out 0).trans rfl) (fun hHeld=>?_)
       clear hK K
       refine jJb (a':=?_) ?_ ?_
       rotate_left
       ·show Act.put _ (some 50) _=_
        simp only [Act.put,List.setIfInBounds_toArray,List.set_cons_zero,List.set_cons_succ,job,jsb]
        rfl
       refine one_ (i:=5) (N:=some 51) #[true,true,true,true,true,true,false,false,false] rfl rfl (jbb HT_.out (by kernel_rfl)) (by decide) (fun K hK=>?_)
       refine goes_ Try.func89 (by kernel_rfl) rfl #[.pointer (some ⟨g,0,none⟩), .slice Ao99 y651.length co99] (by rfl) rfl rfl (aq) ?_
       with_reducible refine (jv.calls k g s0_0 t641 _ _ y651 t654 t655 w0 _ ?side1 ?side2 ?side3 ?side4 ?side5 A73.out).mono ?_
       (case side1=>exact Y2)
       (case side2=>exact Y17)
       (case side3=>exact cq (Kd.jB HO653.out).2.2)
       (case side4=>exact (Kd.jB HO653.out).2.1)
       (case side5=>exact jnb (jc.own_ne HI0.out HO653.out (by decide)))
       rintro e w100 ⟨rfl,hi,hb,hk⟩
       refine ⟨_,rfl,?_⟩
       replace BK626:=am (jd.blk hk (g':=gb626) (o:=.cells #[.slice none 0 0] 37 (0,0)) (kq BK626.out) NB626_0.out (by simp))
       replace BK627:=am (jd.blk hk (g':=gb627) (o:=.cells #[.slice none 0 0] 32 (0,0)) (kq BK627.out) NB627_0.out (by simp))
       replace HO630:=am (Kd.jH (Kd.jla (jc.apart (show jc w0 _ g s0_0 t641 from Y2) (rq HO630.out) (by decide)) hk (fun _ h=>h.2)) (fun _ h=>h.1))
       replace BK632:=am (jd.blk hk (g':=gb632) (o:=.cells #[.slice Ao81 t628.length co81] 37 (0,0)) (kq BK632.out) NB632_0.out (by simp))
       replace HO635:=am (Kd.jH (Kd.jla (jc.apart (show jc w0 _ g s0_0 t641 from Y2) (rq HO635.out) (by decide)) hk (fun _ h=>h.2)) (fun _ h=>h.1))
       replace BK637:=am (jd.blk hk (g':=gb637) (o:=.cells #[.slice Ao88 t633.length co88] 32 (0,0)) (kq BK637.out) NB637_0.out (by simp))
       replace HO653:=am (Kd.jH (Kd.jla (jc.apart (show jc w0 _ g s0_0 t641 from Y2) (rq HO653.out) (by decide)) hk (fun _ h=>h.2)) (fun _ h=>h.1))
       replace HK:=am (jd.trans (Y10) hk (.inl rfl))
       replace HB:=am (hb)
       replace HI0:=am (hi)
       (try clear hb)
       (try clear hb2)
       (try clear hk)
       (try clear hi)
       have p76:0≤(t638:Int):=ozD (uq)
       have q76:(t638:Int)<((t633.length:Int):Int):=ozD (uq)
       obtain ⟨go76,co76,eo76,gb76,gl76,cl76,HG76⟩:=Kd.R_form HO635.out (by omega)
       (first | cases eo76 |(injection eo76 with ea_ en_ ec_;(first | subst ea_ |(injection ea_ with ea_;subst ea_));subst ec_;clear en_))
       have GB76:=am gb76
       have GG76:=am HG76
       clear gb76 gl76 HG76
       obtain ⟨ce76,hcl76,hM76,hcc76,hfr76⟩:=Kd.jqb HO635.out z54 (t638:Int) p76 q76
       obtain rfl:=jQa hM76
       have hx76_0:World.cell? _ ⟨go76,(t638:Int).toNat * 5,none⟩=some (.int .i64 ((ja t633 t638).f0)):=hcc76 0 _ rfl
       have hx76_1:World.cell? _ ⟨go76,(t638:Int).toNat * 5+1,none⟩=some (.int .i64 ((ja t633 t638).f1)):=hcc76 1 _ rfl
       have hx76_2:World.cell? _ ⟨go76,(t638:Int).toNat * 5+2,none⟩=some (.int .i64 ((ja t633 t638).f2)):=hcc76 2 _ rfl
       have hx76_3:World.cell? _ ⟨go76,(t638:Int).toNat * 5+3,none⟩=some (.int .i64 ((ja t633 t638).f3)):=hcc76 3 _ rfl
       have hx76_4:World.cell? _ ⟨go76,(t638:Int).toNat * 5+4,none⟩=some (.bool ((ja t633 t638).f4)):=hcc76 4 _ rfl
       have hf76_0:World.frozen? _ ⟨go76,(t638:Int).toNat * 5,none⟩=false:=hfr76 0
       have hf76_1:World.frozen? _ ⟨go76,(t638:Int).toNat * 5+1,none⟩=false:=hfr76 1
       have hf76_2:World.frozen? _ ⟨go76,(t638:Int).toNat * 5+2,none⟩=false:=hfr76 2
       have hf76_3:World.frozen? _ ⟨go76,(t638:Int).toNat * 5+3,none⟩=false:=hfr76 3
       have hf76_4:World.frozen? _ ⟨go76,(t638:Int).toNat * 5+4,none⟩=false:=hfr76 4
       clear hcl76 hcc76 hfr76 hM76
       replace p76:=ezT p76
       replace q76:=ezT q76
       have HN0_go76:=am (show g≠go76 from by have h_:=jc.own_ne HI0.out HO635.out (by decide);intro e_;exact h_ (by rw [e_];rfl))
       obtain ⟨ce101,hcl101,hM101,hcc101,hfr101⟩:=Kd.jqb HO635.out z54 (t638:Int) (ozD (uq)) (by have h_:(t638:Int)<((t633.length:Int):Int):=ozD (uq);first | exact h_ |(have e_:=(Kd.jB HO635.out).1;omega) | simpa using h_)
       obtain rfl:=jQa hM101
       have HP101:=(Kd.R_seg HO635.out (t638:Int) (ozD (uq)) (by have h_:(t638:Int)<((t633.length:Int):Int):=ozD (uq);first | exact h_ |(have e_:=(Kd.jB HO635.out).1;omega) | simpa using h_) (seg:=[.int .i64 t654]) (j:=1) hcl101 hcc101 (show 2≤5 from by decide) (x':=(⟨(ja t633 t638).f0,t654,(ja t633 t638).f2,(ja t633 t638).f3,(ja t633 t638).f4⟩:S54)) (jQb _ _ _ (⟨(ja t633 t638).f0,t654,(ja t633 t638).f2,(ja t633 t638).f3,(ja t633 t638).f4⟩:S54) ) (fun _ hk=>hk)).1
       rw [← Ny656.out] at HP101
       have HQ101:=am HP101
       clear hcl101 hcc101 hfr101 hM101 HP101
       refine hK.out _ _ ((jG BK637.out 0).trans rfl) (fun hHeld=>?_)
       clear hK K
       refine jJb (a':=?_) ?_ ?_
       rotate_left
       ·show Act.put _ (some 51) _=_
        simp only [Act.put,List.setIfInBounds_toArray,List.set_cons_zero,List.set_cons_succ,job,jsb]
        rfl
       refine pq (i:=6) (N:=some 52) #[true,true,true,true,true,true,true,false,false] ?_
       refine pq (i:=7) (N:=some 53) #[true,true,true,true,true,true,true,true,false] ?_
       refine last_ (i:=8) (N:=none) #[true,true,true,true,true,true,true,true,true] rfl rfl (jbb HT_.out (by kernel_rfl)) (by decide) (fun K hK=>?_)
       refine jPb (w1:=?_) (by rfl) rfl ?_ ?_
       rotate_left
       ·go_simp
        rfl
       refine hK.out _ _ ?_
       clear hK K
       refine done_ (jUb HT_.out (by kernel_rfl)) ?_
       have n0_:jC (Kd.R k94 94 (w100.setCell ⟨go76,(t638:Int).toNat * 5+1,none⟩ (.int .i64 t654)) w.heap.size (fun _=>True) (.slice Ao81 t628.length co81) t628):=⟨by (with_reducible repeat (first | apply Kd.jU | apply Kd.jW | apply Kd.jS));exact Kd.jH (Kd.jra (p:=⟨go76,(t638:Int).toNat * 5+1,none⟩) (Kd.jN HO630.out GG76.out (by decide)) (fun _ hk=>hk.2) (.int .i64 t654)) (fun _ hk=>trivial)⟩
       have n1_:jC (Kd.R k54 54 (w100.setCell ⟨go76,(t638:Int).toNat * 5+1,none⟩ (.int .i64 t654)) w.heap.size (fun _=>True) (.slice (some ⟨go76,0,none⟩) t633.length co88) y656):=⟨rq HQ101.out⟩
       have n2_:jC (Kd.R (Kd.int .i64) 3 (w100.setCell ⟨go76,(t638:Int).toNat * 5+1,none⟩ (.int .i64 t654)) w.heap.size (fun _=>True) (.slice Ao99 y651.length co99) y651):=⟨by (with_reducible repeat (first | apply Kd.jU | apply Kd.jW | apply Kd.jS));exact Kd.jH (Kd.jra (p:=⟨go76,(t638:Int).toNat * 5+1,none⟩) (Kd.jN HO653.out GG76.out (by decide)) (fun _ hk=>hk.2) (.int .i64 t654)) (fun _ hk=>trivial)⟩
       have n3_:jC ((w100.setCell ⟨go76,(t638:Int).toNat * 5+1,none⟩ (.int .i64 t654)).heap[gb626]?=some (.cells #[.slice none 0 0] 37 (0,0))):=⟨by (with_reducible repeat (first | refine jh ?_ _ | refine jg ?_ | refine jk ?_ _));refine jO ?_ (by have h_:=Kd.R_ne HO635.out BK626.out (by decide);intro e_;exact h_ (by rw [e_];rfl)) _;(with_reducible repeat (first | refine jh ?_ _ | refine jg ?_ | refine jk ?_ _));exact BK626.out⟩
       have n4_:jC ((w100.setCell ⟨go76,(t638:Int).toNat * 5+1,none⟩ (.int .i64 t654)).heap[gb627]?=some (.cells #[.slice none 0 0] 32 (0,0))):=⟨by (with_reducible repeat (first | refine jh ?_ _ | refine jg ?_ | refine jk ?_ _));refine jO ?_ (by have h_:=Kd.R_ne HO635.out BK627.out (by decide);intro e_;exact h_ (by rw [e_];rfl)) _;(with_reducible repeat (first | refine jh ?_ _ | refine jg ?_ | refine jk ?_ _));exact BK627.out⟩
       have n5_:jC ((w100.setCell ⟨go76,(t638:Int).toNat * 5+1,none⟩ (.int .i64 t654)).heap[gb632]?=some (.cells #[.slice Ao81 t628.length co81] 37 (0,0))):=⟨by (with_reducible repeat (first | refine jh ?_ _ | refine jg ?_ | refine jk ?_ _));refine jO ?_ (by have h_:=Kd.R_ne HO635.out BK632.out (by decide);intro e_;exact h_ (by rw [e_];rfl)) _;(with_reducible repeat (first | refine jh ?_ _ | refine jg ?_ | refine jk ?_ _));exact BK632.out⟩
       have n6_:jC ((w100.setCell ⟨go76,(t638:Int).toNat * 5+1,none⟩ (.int .i64 t654)).heap[gb637]?=some (.cells #[.slice (some ⟨go76,0,none⟩) t633.length co88] 32 (0,0))):=⟨by (with_reducible repeat (first | refine jh ?_ _ | refine jg ?_ | refine jk ?_ _));refine jO ?_ (by have h_:=Kd.R_ne HO635.out BK637.out (by decide);intro e_;exact h_ (by rw [e_];rfl)) _;(with_reducible repeat (first | refine jh ?_ _ | refine jg ?_ | refine jk ?_ _));exact BK637.out⟩
       have n7_:jC (jc w0 (w100.setCell ⟨go76,(t638:Int).toNat * 5+1,none⟩ (.int .i64 t654)) g s0_0 t655):=⟨by repeat (first |(with_reducible first | exact HI0.out | apply jc.alloc | apply jc.drewN | apply jc.drew | apply jc.jeb | refine jc.far ?_ HN0_go76.out _ | refine jc.far ?_ NB0_626.out _ | refine jc.far ?_ NB0_627.out _ | refine jc.far ?_ NB0_632.out _ | refine jc.far ?_ NB0_637.out _) | exact HI0.out)⟩
       have n8_:jC (jd w (w100.setCell ⟨go76,(t638:Int).toNat * 5+1,none⟩ (.int .i64 t654)) g none):=⟨by repeat (first |(with_reducible first | exact HK.out | apply jd.set_ | apply jga | apply jV | apply jha | refine jK ?_ GB76.out _ | refine jK ?_ GW626.out _ | refine jK ?_ GW627.out _ | refine jK ?_ GW632.out _ | refine jK ?_ GW637.out _) | exact HK.out)⟩
       have n9_:jC (Below w0.heap.size w0 (w100.setCell ⟨go76,(t638:Int).toNat * 5+1,none⟩ (.int .i64 t654))):=⟨by repeat (first |(with_reducible first | exact HB.out | apply jw | apply jo | apply jr | refine jm ?_ (Nat.le_trans HL.out GB76.out) | refine jm ?_ (jc.ge HI0.out) | refine jm ?_ GE626.out | refine jm ?_ GE627.out | refine jm ?_ GE632.out | refine jm ?_ GE637.out) | exact HB.out)⟩
       (try clear HO630)
       (try clear HO635)
       (try clear HO653)
       (try clear BK626)
       (try clear BK627)
       (try clear BK632)
       (try clear BK637)
       (try clear HI0)
       (try clear HK)
       (try clear HB)
       generalize (w100.setCell ⟨go76,(t638:Int).toNat * 5+1,none⟩ (.int .i64 t654))=w102 at n0_ n1_ n2_ n3_ n4_ n5_ n6_ n7_ n8_ n9_ ⊢
       have HO630:=n0_
       have HO635:=n1_
       have HO653:=n2_
       have BK626:=n3_
       have BK627:=n4_
       have BK632:=n5_
       have BK637:=n6_
       have HI0:=n7_
       have HK:=n8_
       have HB:=n9_
       clear n0_ n1_ n2_ n3_ n4_ n5_ n6_ n7_ n8_ n9_
       try go_wp2
       replace HO630:=am (Kd.jS HO630.out)
       replace HO635:=am (Kd.jS HO635.out)
       replace HO653:=am (Kd.jS HO653.out)
       replace BK626:=am (jg BK626.out)
       replace BK627:=am (jg BK627.out)
       replace BK632:=am (jg BK632.out)
       replace BK637:=am (jg BK637.out)
       replace HI0:=am (jc.drew HI0.out)
       replace HK:=am (jV HK.out)
       replace HB:=am (jr HB.out)
       refine jLb (n:=4) (S:=fun w'=>w'.cell? ⟨gb632,0,none⟩=some (.slice Ao81 t628.length co81)∧w'.cell? ⟨gb637,0,none⟩=some (.slice (some ⟨go76,0,none⟩) t633.length co88)) (ds:=[]) #[false,false,false,false] (by kernel_rfl) rfl rfl ⟨(jG BK632.out 0).trans rfl,(jG BK637.out 0).trans rfl⟩ (fun hHeld=>?_)
       generalize w102.drew=w103 at HO630 HO635 HO653 BK626 BK627 BK632 BK637 HI0 HK HB hHeld ⊢
       refine jzb (i:=0) (N:=some 65) (v:=?_) (a':=?_) #[true,false,false,false] rfl rfl (by kernel_rfl) (fun _ _ _ h=>h) (Or.inl ⟨by rfl,?_⟩) hHeld ?_ ?_
       rotate_left
       ·rintro w' ⟨s0,s1⟩
        go_simp
        with_reducible rfl
       rotate_left
       ·exact sa
       refine jzb (i:=1) (N:=some 66) (v:=?_) (a':=?_) #[true,true,false,false] rfl rfl (by kernel_rfl) (fun _ _ _ h=>h) (Or.inl ⟨by rfl,?_⟩) hHeld ?_ ?_
       rotate_left
       ·rintro w' ⟨s0,s1⟩
        go_simp
        with_reducible rfl
       rotate_left
       ·exact sa
       refine one_ (i:=2) (N:=none) #[true,true,true,false] rfl rfl (by kernel_rfl) (by decide) (fun K hK=>?_)
       have hs104:w103.cell? ⟨gb626,0,none⟩=some (.slice none 0 0):=(jG BK626.out 0).trans rfl
       have hfs104:=jb BK626.out 0
       have hns104_1:=NB627_626.out
       have hns104_2:=NB632_626.out
       have hns104_3:=NB637_626.out
       have hms104_1:=NB626_627.out
       have hms104_2:=NB626_632.out
       have hms104_3:=NB626_637.out
       refine jPb (w1:=?_) (by rfl) rfl ?_ ?_
       rotate_left
       ·go_simp
        rfl
       refine hK.out _ _ ⟨((cell_far (p:=⟨gb626,_,none⟩) NB632_626.out _).trans (hHeld.1)),((cell_far (p:=⟨gb626,_,none⟩) NB637_626.out _).trans (hHeld.2))⟩ (fun hHeld=>?_)
       clear hK K
       refine one_ (i:=3) (N:=none) #[true,true,true,true] rfl rfl (by kernel_rfl) (by decide) (fun K hK=>?_)
       have hs105:w103.cell? ⟨gb627,0,none⟩=some (.slice none 0 0):=(jG BK627.out 0).trans rfl
       have hfs105:=jb BK627.out 0
       have hns105_0:=NB626_627.out
       have hns105_2:=NB632_627.out
       have hns105_3:=NB637_627.out
       have hms105_0:=NB627_626.out
       have hms105_2:=NB627_632.out
       have hms105_3:=NB627_637.out
       refine jPb (w1:=?_) (by rfl) rfl ?_ ?_
       rotate_left
       ·go_simp
        rfl
       refine hK.out _ _ ⟨((cell_far (p:=⟨gb627,_,none⟩) NB632_627.out _).trans (hHeld.1)),((cell_far (p:=⟨gb627,_,none⟩) NB637_627.out _).trans (hHeld.2))⟩ (fun hHeld=>?_)
       clear hK K
       refine done_ (by kernel_rfl) ?_
       try go_wp2
       refine bodyPost_ret (jMb rfl _ _ gb626 gb627 37 32 #[.slice Ao81 t628.length co81] #[.slice (some ⟨go76,0,none⟩) t633.length co88] (0,0) (0,0) _ _ rfl (Y73) Try.underlying37 rfl (by kernel_rfl) rfl (Y74) Try.underlying32 rfl (by kernel_rfl)) rfl ?_
       exact ⟨_,_,Y1,by (with_reducible repeat (first | apply Kd.jU | apply Kd.jW | apply Kd.jS));exact Kd.jH (Kd.jra (p:=⟨gb627,0,none⟩) (Kd.jra (p:=⟨gb626,0,none⟩) (Kd.jN (Kd.jN HO630.out BK626.out (by decide)) BK627.out (by decide)) (fun _ hk=>hk.1.2) (.slice Ao81 t628.length co81)) (fun _ hk=>hk.2) (.slice (some ⟨go76,0,none⟩) t633.length co88)) (fun _ hk=>trivial),by (with_reducible repeat (first | apply Kd.jU | apply Kd.jW | apply Kd.jS));exact Kd.jH (Kd.jra (p:=⟨gb627,0,none⟩) (Kd.jra (p:=⟨gb626,0,none⟩) (Kd.jN (Kd.jN HO635.out BK626.out (by decide)) BK627.out (by decide)) (fun _ hk=>hk.1.2) (.slice Ao81 t628.length co81)) (fun _ hk=>hk.2) (.slice (some ⟨go76,0,none⟩) t633.length co88)) (fun _ hk=>trivial),Y2,Y17,Y10⟩
      ·rw [if_neg c75] at H
       exact absurd H (by simp)
     ·rw [if_neg c74] at H
      exact absurd H (by simp)
    ·rw [if_neg c72] at H
     have c72b0:(t640 == 2)=false:=beq_eq_false_iff_ne.mpr c72
     have c72b1:(t640 != 2)=true:=bne_iff_ne.mpr c72
     by_cases c106:t640=3
     ·rw [if_pos c106] at H
      have c106b0:(t640 == 3)=true:=beq_iff_eq.mpr c106
      have c106b1:(t640 != 3)=false:=bne_eq_false_iff_eq.mpr c106
      clear c106
      obtain ⟨y657,hy657⟩:∃ y_:List Int,y_=(([t638,24,0]:List Int)):=⟨_,rfl⟩
      replace H:((jv.f k s0_0 t641 y657).bind fun bt660=>(if 0≤t638 then (if t638<(t633.length:Int) then (some (t628,(t633.set (t638:Int).toNat (⟨(ja t633 t638).f0,(ja t633 t638).f1,bt660.1,(ja t633 t638).f3,(ja t633 t638).f4⟩:S54)),bt660.2)) else (none)) else (none)))=some (r1,r2,r3):=by first |(rw [hy657];with_reducible exact H) |(have H2_:=(Option.bind_some _ _).symm.trans H;rw [hy657];with_reducible exact H2_) |(have H2_:=(Option.bind_some _ _).symm.trans H;with_reducible exact H2_) | with_reducible exact H |(rw [hy657];exact H) | exact H
      have Ny657:=am hy657
      clear hy657
      replace H:=bzS H
      obtain ⟨⟨t660,t661⟩,A1070,H⟩:=H
      replace H:(if 0≤t638 then (if t638<(t633.length:Int) then (some (t628,(t633.set (t638:Int).toNat (⟨(ja t633 t638).f0,(ja t633 t638).f1,t660,(ja t633 t638).f3,(ja t633 t638).f4⟩:S54)),t661)) else (none)) else (none))=some (r1,r2,r3):=H
      have A107:=am A1070
      clear A1070
      by_cases c108:0≤t638
      ·rw [if_pos c108] at H
       have c108b0:decide (0≤t638)=true:=dzT c108
       clear c108
       by_cases c109:t638<(t633.length:Int)
       ·rw [if_pos c109] at H
        have c109b0:decide (t638<(t633.length:Int))=true:=dzT c109
        clear c109
        obtain ⟨y662,hy662⟩:∃ y_:List (S54),y_=(t633.set (t638:Int).toNat (⟨(ja t633 t638).f0,(ja t633 t638).f1,t660,(ja t633 t638).f3,(ja t633 t638).f4⟩:S54)):=⟨_,rfl⟩
        replace H:(some (t628,y662,t661))=some (r1,r2,r3):=by first |(rw [hy662];with_reducible exact H) |(have H2_:=(Option.bind_some _ _).symm.trans H;rw [hy662];with_reducible exact H2_) |(have H2_:=(Option.bind_some _ _).symm.trans H;with_reducible exact H2_) | with_reducible exact H |(rw [hy662];exact H) | exact H
        have Ny662:=am hy662
        clear hy662
        simp only [Option.some.injEq,Prod.mk.injEq] at H
        obtain ⟨rfl,rfl,rfl⟩:=H
        go_enter Try.func61,Try.ntmps61
        try go_wp2_with (first |((with_reducible refine jD (N:=2) rfl ?_);refine bE (N:=2) (cs:=#[.slice none 0 0]) (t:=37) ?_;intro gb626 hg w111 hbox hb;have BK626:=am (hbox);have GW626:=am ((Y6:w.heap.size≤gb626));have GE626:=am ((Nat.le_trans HW0.out (Y6:w.heap.size≤gb626):w0.heap.size≤gb626));have NB0_626:=am ((Y24:g≠gb626));have NB626_0:=am ((Y25:gb626≠g));replace HK:=am (jd.trans (Y13) (jd.of_below hb g none) (.inl rfl));replace HB:=am (jf (Y14) hb);replace HI0:=am (jc.below (Y12) hb);clear hb hbox hg) |((with_reducible refine jD (N:=3) rfl ?_);refine bE (N:=3) (cs:=#[.slice none 0 0]) (t:=32) ?_;intro gb627 hg w112 hbox hb;have BK627:=am (hbox);have GW627:=am ((Y31:w.heap.size≤gb627));have GE627:=am ((Nat.le_trans HW0.out (Y31:w.heap.size≤gb627):w0.heap.size≤gb627));have NB626_627:=am ((Y20:gb626≠gb627));have NB627_626:=am ((Y21:gb627≠gb626));have NB0_627:=am ((Y61:g≠gb627));have NB627_0:=am ((Y62:gb627≠g));replace BK626:=am (je (g:=gb626) (o:=.cells #[.slice none 0 0] 37 (0,0)) (kq BK626.out) hb);replace HK:=am (jd.trans (Y63) (jd.of_below hb g none) (.inl rfl));replace HB:=am (jf (Y64) hb);replace HI0:=am (jc.below (Y65) hb);clear hb hbox hg) |((with_reducible refine jy (f:=87) rfl ?_);refine gL (some 8) Try.func87 #[.pointer (some ⟨g,0,none⟩)] ?_;(with_reducible refine (jY.calls k g s0_0 s0_1 t628 t631 w0 _ ?side1 ?side2 A2.out).mono ?_);(case side1=>exact Y32);(case side2=>exact Y33);rintro e w113 ⟨v629,rfl,ho0,hi,hb,hk⟩;refine ⟨_,rfl,?_⟩;have HO630:=am (Kd.jia ho0 (jba (w:=w) (g:=g) (row:=none) (Y22)));replace BK626:=am (jd.blk hk (g':=gb626) (o:=.cells #[.slice none 0 0] 37 (0,0)) (kq BK626.out) NB626_0.out (by simp));replace BK627:=am (jd.blk hk (g':=gb627) (o:=.cells #[.slice none 0 0] 32 (0,0)) (kq BK627.out) NB627_0.out (by simp));replace HK:=am (jd.trans (Y22) hk (.inl rfl));replace HB:=am (hb);replace HI0:=am (hi);(try clear hb);(try clear hb2);(try clear hk);(try clear hi);(try clear ho0)) |((with_reducible refine jD (N:=4) rfl ?_);refine bE (N:=4) (cs:=#[.slice none 0 0]) (t:=37) ?_;intro gb632 hg w114 hbox hb;have BK632:=am (hbox);have GW632:=am ((Y34:w.heap.size≤gb632));have GE632:=am ((Nat.le_trans HW0.out (Y34:w.heap.size≤gb632):w0.heap.size≤gb632));have NB626_632:=am ((Y20:gb626≠gb632));have NB632_626:=am ((Y21:gb632≠gb626));have NB627_632:=am ((Y35:gb627≠gb632));have NB632_627:=am ((Y36:gb632≠gb627));have NB0_632:=am ((Y66:g≠gb632));have NB632_0:=am ((Y67:gb632≠g));replace HO630:=am (Kd.jX (rq HO630.out) hb);replace BK626:=am (je (g:=gb626) (o:=.cells #[.slice none 0 0] 37 (0,0)) (kq BK626.out) hb);replace BK627:=am (je (g:=gb627) (o:=.cells #[.slice none 0 0] 32 (0,0)) (kq BK627.out) hb);replace HK:=am (jd.trans (Y22) (jd.of_below hb g none) (.inl rfl));replace HB:=am (jf (Y33) hb);replace HI0:=am (jc.below (Y32) hb);clear hb hbox hg;obtain ⟨Ao115,co115,eo115⟩:=Kd.jZ HO630.out;subst eo115;have hnb116:=NB632_626.out;have hnc116:=NB626_632.out;have hnb117:=NB632_627.out;have hnc117:=NB627_632.out;have hnb118:=NB632_0.out;have hnc118:=NB0_632.out;have hcz119_0:=bc0 BK632.out;have hfz119_0:=jb BK632.out 0) |((with_reducible refine jy (f:=62) rfl ?_);refine gL (some 11) Try.func62 #[.pointer (some ⟨g,0,none⟩), .agg #[.slice Ao115 t628.length co115]] ?_;(with_reducible refine (jq.calls k g s0_0 t631 _ _ t628 t633 t636 w0 _ ?side1 ?side2 ?side3 ?side4 A3.out).mono ?_);(case side1=>exact Y16);(case side2=>exact Y37);(case side3=>exact Kd.jEb (jc.apart (show jc w0 _ g s0_0 t631 from Y16) (Y154) (by decide)) (fun _ h_=>h_.2));(case side4=>exact (Kd.jB HO630.out).2.1);rintro e w120 ⟨v634,rfl,ho0,hi,hb,hk⟩;refine ⟨_,rfl,?_⟩;have HO635:=am (Kd.jia ho0 (jba (w:=w) (g:=g) (row:=none) (Y23)));replace BK626:=am (jd.blk hk (g':=gb626) (o:=.cells #[.slice none 0 0] 37 (0,0)) (Y68) NB626_0.out (by simp));replace BK627:=am (jd.blk hk (g':=gb627) (o:=.cells #[.slice none 0 0] 32 (0,0)) (Y69) NB627_0.out (by simp));replace HO630:=am (Kd.jH (Kd.jla (jc.apart (show jc w0 _ g s0_0 t631 from Y16) (Y154) (by decide)) hk (fun _ h=>h.2)) (fun _ h=>h.1));replace BK632:=am (jd.blk hk (g':=gb632) (o:=.cells #[.slice Ao115 t628.length co115] 37 (0,0)) (Y70) NB632_0.out (by simp));replace HK:=am (jd.trans (Y23) hk (.inl rfl));replace HB:=am (hb);replace HI0:=am (hi);(try clear hb);(try clear hb2);(try clear hk);(try clear hi);(try clear ho0)) |((with_reducible refine jD (N:=5) rfl ?_);refine bE (N:=5) (cs:=#[.slice none 0 0]) (t:=32) ?_;intro gb637 hg w121 hbox hb;have BK637:=am (hbox);have GW637:=am ((Y38:w.heap.size≤gb637));have GE637:=am ((Nat.le_trans HW0.out (Y38:w.heap.size≤gb637):w0.heap.size≤gb637));have NB626_637:=am ((Y20:gb626≠gb637));have NB637_626:=am ((Y21:gb637≠gb626));have NB627_637:=am ((Y35:gb627≠gb637));have NB637_627:=am ((Y36:gb637≠gb627));have NB632_637:=am ((by rw [hg];exact Nat.ne_of_lt (jca (g:=gb632) (o:=.cells #[.slice Ao115 t628.length co115] 37 (0,0)) (kq BK632.out)):gb632≠gb637));have NB637_632:=am ((by rw [hg];exact Nat.ne_of_gt (jca (g:=gb632) (o:=.cells #[.slice Ao115 t628.length co115] 37 (0,0)) (kq BK632.out)):gb637≠gb632));have NB0_637:=am ((Y71:g≠gb637));have NB637_0:=am ((Y72:gb637≠g));replace HO630:=am (Kd.jX (rq HO630.out) hb);replace HO635:=am (Kd.jX (rq HO635.out) hb);replace BK626:=am (je (g:=gb626) (o:=.cells #[.slice none 0 0] 37 (0,0)) (kq BK626.out) hb);replace BK627:=am (je (g:=gb627) (o:=.cells #[.slice none 0 0] 32 (0,0)) (kq BK627.out) hb);replace BK632:=am (je (g:=gb632) (o:=.cells #[.slice Ao115 t628.length co115] 37 (0,0)) (kq BK632.out) hb);replace HK:=am (jd.trans (Y23) (jd.of_below hb g none) (.inl rfl));replace HB:=am (jf (Y37) hb);replace HI0:=am (jc.below (Y16) hb);clear hb hbox hg;obtain ⟨Ao122,co122,eo122⟩:=Kd.jZ HO635.out;subst eo122;have hnb123:=NB637_626.out;have hnc123:=NB626_637.out;have hnb124:=NB637_627.out;have hnc124:=NB627_637.out;have hnb125:=NB637_632.out;have hnc125:=NB632_637.out;have hnb126:=NB637_0.out;have hnc126:=NB0_637.out;have hcz127_0:=bc0 BK637.out;have hfz127_0:=jb BK637.out 0) |((with_reducible refine jy (f:=88) rfl ?_);refine gL (some 20) Try.func88 #[.pointer (some ⟨g,0,none⟩), .int .i64 (t633.length:Int)] ?_;(with_reducible refine (jl.calls k g s0_0 t636 (t633.length:Int) t638 t639 w0 _ ?side1 ?side2 A5.out).mono ?_);(case side1=>exact Y2);(case side2=>exact Y17);rintro e w128 ⟨rfl,hi,hb,hk⟩;refine ⟨_,rfl,?_⟩;replace BK626:=am (jd.blk hk (g':=gb626) (o:=.cells #[.slice none 0 0] 37 (0,0)) (Y85) NB626_0.out (by simp));replace BK627:=am (jd.blk hk (g':=gb627) (o:=.cells #[.slice none 0 0] 32 (0,0)) (Y86) NB627_0.out (by simp));replace HO630:=am (Kd.jH (Kd.jla (jc.apart (show jc w0 _ g s0_0 t636 from Y2) (by (with_reducible repeat (first | apply Kd.jU | apply Kd.jW | apply Kd.jS));exact (Kd.jH (Kd.jra (p:=⟨gb637,0,none⟩) (Kd.jN HO630.out BK637.out (by decide)) (fun _ hk=>hk.2) (.slice Ao122 t633.length co122)) (fun _ h_=>h_.1))) (by decide)) hk (fun _ h=>h.2)) (fun _ h=>h.1));replace BK632:=am (jd.blk hk (g':=gb632) (o:=.cells #[.slice Ao115 t628.length co115] 37 (0,0)) (Y87) NB632_0.out (by simp));replace HO635:=am (Kd.jH (Kd.jla (jc.apart (show jc w0 _ g s0_0 t636 from Y2) (by (with_reducible repeat (first | apply Kd.jU | apply Kd.jW | apply Kd.jS));exact (Kd.jH (Kd.jra (p:=⟨gb637,0,none⟩) (Kd.jN HO635.out BK637.out (by decide)) (fun _ hk=>hk.2) (.slice Ao122 t633.length co122)) (fun _ h_=>h_.1))) (by decide)) hk (fun _ h=>h.2)) (fun _ h=>h.1));replace BK637:=am (jd.blk hk (g':=gb637) (o:=.cells #[.slice Ao122 t633.length co122] 32 (0,0)) (Y88) NB637_0.out (by simp));replace HK:=am (jd.trans (Y10) hk (.inl rfl));replace HB:=am (hb);replace HI0:=am (hi);(try clear hb);(try clear hb2);(try clear hk);(try clear hi)) |((with_reducible refine jy (f:=88) rfl ?_);refine gL (some 22) Try.func88 #[.pointer (some ⟨g,0,none⟩), .int .i64 24] ?_;(with_reducible refine (jl.calls k g s0_0 t639 24 t640 t641 w0 _ ?side1 ?side2 A6.out).mono ?_);(case side1=>exact Y2);(case side2=>exact Y17);rintro e w129 ⟨rfl,hi,hb,hk⟩;refine ⟨_,rfl,?_⟩;replace BK626:=am (jd.blk hk (g':=gb626) (o:=.cells #[.slice none 0 0] 37 (0,0)) (kq BK626.out) NB626_0.out (by simp));replace BK627:=am (jd.blk hk (g':=gb627) (o:=.cells #[.slice none 0 0] 32 (0,0)) (kq BK627.out) NB627_0.out (by simp));replace HO630:=am (Kd.jH (Kd.jla (jc.apart (show jc w0 _ g s0_0 t639 from Y2) (rq HO630.out) (by decide)) hk (fun _ h=>h.2)) (fun _ h=>h.1));replace BK632:=am (jd.blk hk (g':=gb632) (o:=.cells #[.slice Ao115 t628.length co115] 37 (0,0)) (kq BK632.out) NB632_0.out (by simp));replace HO635:=am (Kd.jH (Kd.jla (jc.apart (show jc w0 _ g s0_0 t639 from Y2) (rq HO635.out) (by decide)) hk (fun _ h=>h.2)) (fun _ h=>h.1));replace BK637:=am (jd.blk hk (g':=gb637) (o:=.cells #[.slice Ao122 t633.length co122] 32 (0,0)) (kq BK637.out) NB637_0.out (by simp));replace HK:=am (jd.trans (Y10) hk (.inl rfl));replace HB:=am (hb);replace HI0:=am (hi);(try clear hb);(try clear hb2);(try clear hk);(try clear hi)))
        replace HO630:=am (Kd.jS HO630.out)
        replace HO635:=am (Kd.jS HO635.out)
        replace BK626:=am (jg BK626.out)
        replace BK627:=am (jg BK627.out)
        replace BK632:=am (jg BK632.out)
        replace BK637:=am (jg BK637.out)
        replace HI0:=am (jc.drew HI0.out)
        replace HK:=am (jV HK.out)
        replace HB:=am (jr HB.out)
        refine jLb (n:=10) (S:=fun w'=>w'.cell? ⟨gb637,0,none⟩=some (.slice Ao122 t633.length co122)) (ds:=[9]) #[false,false,false,false,false,false,false,false,false,false] (by kernel_rfl) rfl rfl ((jG BK637.out 0).trans rfl) (fun hHeld=>?_);refine jyb jJ.tab13 jJ.bits13 (fun HT_ HW_=>?_)
        generalize w129.drew=w130 at HO630 HO635 BK626 BK627 BK632 BK637 HI0 HK HB hHeld ⊢
        refine pq (i:=0) (N:=some 56) #[true,false,false,false,false,false,false,false,false,false] ?_
        refine pq (i:=2) (N:=some 58) #[true,false,true,false,false,false,false,false,false,false] ?_
        refine pq (i:=3) (N:=some 59) #[true,false,true,true,false,false,false,false,false,false] ?_
        refine pq (i:=4) (N:=some 60) #[true,false,true,true,true,false,false,false,false,false] ?_
        refine jzb (i:=1) (N:=some 57) (v:=?_) (a':=?_) #[true,true,true,true,true,false,false,false,false,false] rfl rfl (jgb HT_.out HW_.out (by kernel_rfl)) (fun _ _ _ h=>h) (Or.inl ⟨by rfl,?_⟩) hHeld ?_ ?_
        rotate_left
        ·intro w' s0
         go_simp
         with_reducible rfl
        rotate_left
        ·exact sa
        refine one_ (i:=5) (N:=some 61) #[true,true,true,true,true,true,false,false,false,false] rfl rfl (jbb HT_.out (by kernel_rfl)) (by decide) (fun K hK=>?_)
        refine Kd.jDb (Kd.int .i64) _ 3 ?hg (N:=61) ?hd (xs:=([t638,24,0]:List Int)) (inner:=[.int .i64 t638, .int .i64 24, .int .i64 0]) (ok:=fun _=>True) (okp:=fun _=>True) ?hr ?hp (fun _ hk=>hk) trivial (Below.refl _ _) (Nat.le_refl _) (by simp) ?_;(case hd=>rfl);(case hg=>rfl);(case hr=>exact Y4);(case hp=>exact (Reps.one (show Kd.M (Kd.int .i64) _ _ _ t638 [.int .i64 t638] from rfl) (Reps.one (show Kd.M (Kd.int .i64) _ _ _ 24 [.int .i64 24] from rfl) (Reps.one (show Kd.M (Kd.int .i64) _ _ _ 0 [.int .i64 0] from rfl) (Reps.none _ _)))))
        intro v658 w131 ho132 hb hg_ hnew_
        clear hg_ hnew_
        (first | rw [← Ny657.out] at ho132 |(simp only [Int.reduceToNat] at ho132;rw [← Ny657.out] at ho132))
        have HO659:=am (Kd.jia ho132 (jba (w:=w) (g:=g) (row:=none) (Y10)))
        replace HO630:=am (Kd.jX (rq HO630.out) hb)
        replace HO635:=am (Kd.jX (rq HO635.out) hb)
        replace BK626:=am (je (g:=gb626) (o:=.cells #[.slice none 0 0] 37 (0,0)) (kq BK626.out) hb)
        replace BK627:=am (je (g:=gb627) (o:=.cells #[.slice none 0 0] 32 (0,0)) (kq BK627.out) hb)
        replace BK632:=am (je (g:=gb632) (o:=.cells #[.slice Ao115 t628.length co115] 37 (0,0)) (kq BK632.out) hb)
        replace BK637:=am (je (g:=gb637) (o:=.cells #[.slice Ao122 t633.length co122] 32 (0,0)) (kq BK637.out) hb)
        replace HK:=am (jd.trans (Y10) (jd.of_below hb g none) (.inl rfl))
        replace HB:=am (jf (Y17) hb)
        replace HI0:=am (jc.below (Y2) hb)
        clear hb ho132
        obtain ⟨Ao133,co133,eo133⟩:=Kd.jZ HO659.out
        (first | subst eo133 |(injection eo133 with f1_ f2_ f3_;have f4_:=f1_.symm;have f5_:=f3_.symm;clear f1_ f2_ f3_;subst f4_;subst f5_))
        refine hK.out _ _ ((jG BK637.out 0).trans rfl) (fun hHeld=>?_)
        clear hK K
        refine jJb (a':=?_) ?_ ?_
        rotate_left
        ·show Act.put _ (some 61) _=_
         simp only [Act.put,List.setIfInBounds_toArray,List.set_cons_zero,List.set_cons_succ,job,jsb]
         rfl
        refine one_ (i:=6) (N:=some 62) #[true,true,true,true,true,true,true,false,false,false] rfl rfl (jbb HT_.out (by kernel_rfl)) (by decide) (fun K hK=>?_)
        refine goes_ Try.func89 (by kernel_rfl) rfl #[.pointer (some ⟨g,0,none⟩), .slice Ao133 y657.length co133] (by rfl) rfl rfl (aq) ?_
        with_reducible refine (jv.calls k g s0_0 t641 _ _ y657 t660 t661 w0 _ ?side1 ?side2 ?side3 ?side4 ?side5 A107.out).mono ?_
        (case side1=>exact Y2)
        (case side2=>exact Y17)
        (case side3=>exact cq (Kd.jB HO659.out).2.2)
        (case side4=>exact (Kd.jB HO659.out).2.1)
        (case side5=>exact jnb (jc.own_ne HI0.out HO659.out (by decide)))
        rintro e w134 ⟨rfl,hi,hb,hk⟩
        refine ⟨_,rfl,?_⟩
        replace BK626:=am (jd.blk hk (g':=gb626) (o:=.cells #[.slice none 0 0] 37 (0,0)) (kq BK626.out) NB626_0.out (by simp))
        replace BK627:=am (jd.blk hk (g':=gb627) (o:=.cells #[.slice none 0 0] 32 (0,0)) (kq BK627.out) NB627_0.out (by simp))
        replace HO630:=am (Kd.jH (Kd.jla (jc.apart (show jc w0 _ g s0_0 t641 from Y2) (rq HO630.out) (by decide)) hk (fun _ h=>h.2)) (fun _ h=>h.1))
        replace BK632:=am (jd.blk hk (g':=gb632) (o:=.cells #[.slice Ao115 t628.length co115] 37 (0,0)) (kq BK632.out) NB632_0.out (by simp))
        replace HO635:=am (Kd.jH (Kd.jla (jc.apart (show jc w0 _ g s0_0 t641 from Y2) (rq HO635.out) (by decide)) hk (fun _ h=>h.2)) (fun _ h=>h.1))
        replace BK637:=am (jd.blk hk (g':=gb637) (o:=.cells #[.slice Ao122 t633.length co122] 32 (0,0)) (kq BK637.out) NB637_0.out (by simp))
        replace HO659:=am (Kd.jH (Kd.jla (jc.apart (show jc w0 _ g s0_0 t641 from Y2) (rq HO659.out) (by decide)) hk (fun _ h=>h.2)) (fun _ h=>h.1))
        replace HK:=am (jd.trans (Y10) hk (.inl rfl))
        replace HB:=am (hb)
        replace HI0:=am (hi)
        (try clear hb)
        (try clear hb2)
        (try clear hk)
        (try clear hi)
        have p110:0≤(t638:Int):=ozD (uq)
        have q110:(t638:Int)<((t633.length:Int):Int):=ozD (uq)
        obtain ⟨go110,co110,eo110,gb110,gl110,cl110,HG110⟩:=Kd.R_form HO635.out (by omega)
        (first | cases eo110 |(injection eo110 with ea_ en_ ec_;(first | subst ea_ |(injection ea_ with ea_;subst ea_));subst ec_;clear en_))
        have GB110:=am gb110
        have GG110:=am HG110
        clear gb110 gl110 HG110
        obtain ⟨ce110,hcl110,hM110,hcc110,hfr110⟩:=Kd.jqb HO635.out z54 (t638:Int) p110 q110
        obtain rfl:=jQa hM110
        have hx110_0:World.cell? _ ⟨go110,(t638:Int).toNat * 5,none⟩=some (.int .i64 ((ja t633 t638).f0)):=hcc110 0 _ rfl
        have hx110_1:World.cell? _ ⟨go110,(t638:Int).toNat * 5+1,none⟩=some (.int .i64 ((ja t633 t638).f1)):=hcc110 1 _ rfl
        have hx110_2:World.cell? _ ⟨go110,(t638:Int).toNat * 5+2,none⟩=some (.int .i64 ((ja t633 t638).f2)):=hcc110 2 _ rfl
        have hx110_3:World.cell? _ ⟨go110,(t638:Int).toNat * 5+3,none⟩=some (.int .i64 ((ja t633 t638).f3)):=hcc110 3 _ rfl
        have hx110_4:World.cell? _ ⟨go110,(t638:Int).toNat * 5+4,none⟩=some (.bool ((ja t633 t638).f4)):=hcc110 4 _ rfl
        have hf110_0:World.frozen? _ ⟨go110,(t638:Int).toNat * 5,none⟩=false:=hfr110 0
        have hf110_1:World.frozen? _ ⟨go110,(t638:Int).toNat * 5+1,none⟩=false:=hfr110 1
        have hf110_2:World.frozen? _ ⟨go110,(t638:Int).toNat * 5+2,none⟩=false:=hfr110 2
        have hf110_3:World.frozen? _ ⟨go110,(t638:Int).toNat * 5+3,none⟩=false:=hfr110 3
        have hf110_4:World.frozen? _ ⟨go110,(t638:Int).toNat * 5+4,none⟩=false:=hfr110 4
        clear hcl110 hcc110 hfr110 hM110
        replace p110:=ezT p110
        replace q110:=ezT q110
        have HN0_go110:=am (show g≠go110 from by have h_:=jc.own_ne HI0.out HO635.out (by decide);intro e_;exact h_ (by rw [e_];rfl))
        obtain ⟨ce135,hcl135,hM135,hcc135,hfr135⟩:=Kd.jqb HO635.out z54 (t638:Int) (ozD (uq)) (by have h_:(t638:Int)<((t633.length:Int):Int):=ozD (uq);first | exact h_ |(have e_:=(Kd.jB HO635.out).1;omega) | simpa using h_)
        obtain rfl:=jQa hM135
        have HP135:=(Kd.R_seg HO635.out (t638:Int) (ozD (uq)) (by have h_:(t638:Int)<((t633.length:Int):Int):=ozD (uq);first | exact h_ |(have e_:=(Kd.jB HO635.out).1;omega) | simpa using h_) (seg:=[.int .i64 t660]) (j:=2) hcl135 hcc135 (show 3≤5 from by decide) (x':=(⟨(ja t633 t638).f0,(ja t633 t638).f1,t660,(ja t633 t638).f3,(ja t633 t638).f4⟩:S54)) (jQb _ _ _ (⟨(ja t633 t638).f0,(ja t633 t638).f1,t660,(ja t633 t638).f3,(ja t633 t638).f4⟩:S54) ) (fun _ hk=>hk)).1
        rw [← Ny662.out] at HP135
        have HQ135:=am HP135
        clear hcl135 hcc135 hfr135 hM135 HP135
        refine hK.out _ _ ((jG BK637.out 0).trans rfl) (fun hHeld=>?_)
        clear hK K
        refine jJb (a':=?_) ?_ ?_
        rotate_left
        ·show Act.put _ (some 62) _=_
         simp only [Act.put,List.setIfInBounds_toArray,List.set_cons_zero,List.set_cons_succ,job,jsb]
         rfl
        refine pq (i:=7) (N:=some 63) #[true,true,true,true,true,true,true,true,false,false] ?_
        refine pq (i:=8) (N:=some 64) #[true,true,true,true,true,true,true,true,true,false] ?_
        refine last_ (i:=9) (N:=none) #[true,true,true,true,true,true,true,true,true,true] rfl rfl (jbb HT_.out (by kernel_rfl)) (by decide) (fun K hK=>?_)
        refine jPb (w1:=?_) (by rfl) rfl ?_ ?_
        rotate_left
        ·go_simp
         rfl
        refine hK.out _ _ ?_
        clear hK K
        refine done_ (jUb HT_.out (by kernel_rfl)) ?_
        have n0_:jC (Kd.R k94 94 (w134.setCell ⟨go110,(t638:Int).toNat * 5+2,none⟩ (.int .i64 t660)) w.heap.size (fun _=>True) (.slice Ao115 t628.length co115) t628):=⟨by (with_reducible repeat (first | apply Kd.jU | apply Kd.jW | apply Kd.jS));exact Kd.jH (Kd.jra (p:=⟨go110,(t638:Int).toNat * 5+2,none⟩) (Kd.jN HO630.out GG110.out (by decide)) (fun _ hk=>hk.2) (.int .i64 t660)) (fun _ hk=>trivial)⟩
        have n1_:jC (Kd.R k54 54 (w134.setCell ⟨go110,(t638:Int).toNat * 5+2,none⟩ (.int .i64 t660)) w.heap.size (fun _=>True) (.slice (some ⟨go110,0,none⟩) t633.length co122) y662):=⟨rq HQ135.out⟩
        have n2_:jC (Kd.R (Kd.int .i64) 3 (w134.setCell ⟨go110,(t638:Int).toNat * 5+2,none⟩ (.int .i64 t660)) w.heap.size (fun _=>True) (.slice Ao133 y657.length co133) y657):=⟨by (with_reducible repeat (first | apply Kd.jU | apply Kd.jW | apply Kd.jS));exact Kd.jH (Kd.jra (p:=⟨go110,(t638:Int).toNat * 5+2,none⟩) (Kd.jN HO659.out GG110.out (by decide)) (fun _ hk=>hk.2) (.int .i64 t660)) (fun _ hk=>trivial)⟩
        have n3_:jC ((w134.setCell ⟨go110,(t638:Int).toNat * 5+2,none⟩ (.int .i64 t660)).heap[gb626]?=some (.cells #[.slice none 0 0] 37 (0,0))):=⟨by (with_reducible repeat (first | refine jh ?_ _ | refine jg ?_ | refine jk ?_ _));refine jO ?_ (by have h_:=Kd.R_ne HO635.out BK626.out (by decide);intro e_;exact h_ (by rw [e_];rfl)) _;(with_reducible repeat (first | refine jh ?_ _ | refine jg ?_ | refine jk ?_ _));exact BK626.out⟩
        have n4_:jC ((w134.setCell ⟨go110,(t638:Int).toNat * 5+2,none⟩ (.int .i64 t660)).heap[gb627]?=some (.cells #[.slice none 0 0] 32 (0,0))):=⟨by (with_reducible repeat (first | refine jh ?_ _ | refine jg ?_ | refine jk ?_ _));refine jO ?_ (by have h_:=Kd.R_ne HO635.out BK627.out (by decide);intro e_;exact h_ (by rw [e_];rfl)) _;(with_reducible repeat (first | refine jh ?_ _ | refine jg ?_ | refine jk ?_ _));exact BK627.out⟩
        have n5_:jC ((w134.setCell ⟨go110,(t638:Int).toNat * 5+2,none⟩ (.int .i64 t660)).heap[gb632]?=some (.cells #[.slice Ao115 t628.length co115] 37 (0,0))):=⟨by (with_reducible repeat (first | refine jh ?_ _ | refine jg ?_ | refine jk ?_ _));refine jO ?_ (by have h_:=Kd.R_ne HO635.out BK632.out (by decide);intro e_;exact h_ (by rw [e_];rfl)) _;(with_reducible repeat (first | refine jh ?_ _ | refine jg ?_ | refine jk ?_ _));exact BK632.out⟩
        have n6_:jC ((w134.setCell ⟨go110,(t638:Int).toNat * 5+2,none⟩ (.int .i64 t660)).heap[gb637]?=some (.cells #[.slice (some ⟨go110,0,none⟩) t633.length co122] 32 (0,0))):=⟨by (with_reducible repeat (first | refine jh ?_ _ | refine jg ?_ | refine jk ?_ _));refine jO ?_ (by have h_:=Kd.R_ne HO635.out BK637.out (by decide);intro e_;exact h_ (by rw [e_];rfl)) _;(with_reducible repeat (first | refine jh ?_ _ | refine jg ?_ | refine jk ?_ _));exact BK637.out⟩
        have n7_:jC (jc w0 (w134.setCell ⟨go110,(t638:Int).toNat * 5+2,none⟩ (.int .i64 t660)) g s0_0 t661):=⟨by repeat (first |(with_reducible first | exact HI0.out | apply jc.alloc | apply jc.drewN | apply jc.drew | apply jc.jeb | refine jc.far ?_ HN0_go110.out _ | refine jc.far ?_ NB0_626.out _ | refine jc.far ?_ NB0_627.out _ | refine jc.far ?_ NB0_632.out _ | refine jc.far ?_ NB0_637.out _) | exact HI0.out)⟩
        have n8_:jC (jd w (w134.setCell ⟨go110,(t638:Int).toNat * 5+2,none⟩ (.int .i64 t660)) g none):=⟨by repeat (first |(with_reducible first | exact HK.out | apply jd.set_ | apply jga | apply jV | apply jha | refine jK ?_ GB110.out _ | refine jK ?_ GW626.out _ | refine jK ?_ GW627.out _ | refine jK ?_ GW632.out _ | refine jK ?_ GW637.out _) | exact HK.out)⟩
        have n9_:jC (Below w0.heap.size w0 (w134.setCell ⟨go110,(t638:Int).toNat * 5+2,none⟩ (.int .i64 t660))):=⟨by repeat (first |(with_reducible first | exact HB.out | apply jw | apply jo | apply jr | refine jm ?_ (Nat.le_trans HL.out GB110.out) | refine jm ?_ (jc.ge HI0.out) | refine jm ?_ GE626.out | refine jm ?_ GE627.out | refine jm ?_ GE632.out | refine jm ?_ GE637.out) | exact HB.out)⟩
        (try clear HO630)
        (try clear HO635)
        (try clear HO659)
        (try clear BK626)
        (try clear BK627)
        (try clear BK632)
        (try clear BK637)
        (try clear HI0)
        (try clear HK)
        (try clear HB)
        generalize (w134.setCell ⟨go110,(t638:Int).toNat * 5+2,none⟩ (.int .i64 t660))=w136 at n0_ n1_ n2_ n3_ n4_ n5_ n6_ n7_ n8_ n9_ ⊢
        have HO630:=n0_
        have HO635:=n1_
        have HO659:=n2_
        have BK626:=n3_
        have BK627:=n4_
        have BK632:=n5_
        have BK637:=n6_
        have HI0:=n7_
        have HK:=n8_
        have HB:=n9_
        clear n0_ n1_ n2_ n3_ n4_ n5_ n6_ n7_ n8_ n9_
        try go_wp2
        replace HO630:=am (Kd.jS HO630.out)
        replace HO635:=am (Kd.jS HO635.out)
        replace HO659:=am (Kd.jS HO659.out)
        replace BK626:=am (jg BK626.out)
        replace BK627:=am (jg BK627.out)
        replace BK632:=am (jg BK632.out)
        replace BK637:=am (jg BK637.out)
        replace HI0:=am (jc.drew HI0.out)
        replace HK:=am (jV HK.out)
        replace HB:=am (jr HB.out)
        refine jLb (n:=4) (S:=fun w'=>w'.cell? ⟨gb632,0,none⟩=some (.slice Ao115 t628.length co115)∧w'.cell? ⟨gb637,0,none⟩=some (.slice (some ⟨go110,0,none⟩) t633.length co122)) (ds:=[]) #[false,false,false,false] (by kernel_rfl) rfl rfl ⟨(jG BK632.out 0).trans rfl,(jG BK637.out 0).trans rfl⟩ (fun hHeld=>?_)
        generalize w136.drew=w137 at HO630 HO635 HO659 BK626 BK627 BK632 BK637 HI0 HK HB hHeld ⊢
        refine jzb (i:=0) (N:=some 65) (v:=?_) (a':=?_) #[true,false,false,false] rfl rfl (by kernel_rfl) (fun _ _ _ h=>h) (Or.inl ⟨by rfl,?_⟩) hHeld ?_ ?_
        rotate_left
        ·rintro w' ⟨s0,s1⟩
         go_simp
         with_reducible rfl
        rotate_left
        ·exact sa
        refine jzb (i:=1) (N:=some 66) (v:=?_) (a':=?_) #[true,true,false,false] rfl rfl (by kernel_rfl) (fun _ _ _ h=>h) (Or.inl ⟨by rfl,?_⟩) hHeld ?_ ?_
        rotate_left
        ·rintro w' ⟨s0,s1⟩
         go_simp
         with_reducible rfl
        rotate_left
        ·exact sa
        refine one_ (i:=2) (N:=none) #[true,true,true,false] rfl rfl (by kernel_rfl) (by decide) (fun K hK=>?_)
        have hs138:w137.cell? ⟨gb626,0,none⟩=some (.slice none 0 0):=(jG BK626.out 0).trans rfl
        have hfs138:=jb BK626.out 0
        have hns138_1:=NB627_626.out
        have hns138_2:=NB632_626.out
        have hns138_3:=NB637_626.out
        have hms138_1:=NB626_627.out
        have hms138_2:=NB626_632.out
        have hms138_3:=NB626_637.out
        refine jPb (w1:=?_) (by rfl) rfl ?_ ?_
        rotate_left
        ·go_simp
         rfl
        refine hK.out _ _ ⟨((cell_far (p:=⟨gb626,_,none⟩) NB632_626.out _).trans (hHeld.1)),((cell_far (p:=⟨gb626,_,none⟩) NB637_626.out _).trans (hHeld.2))⟩ (fun hHeld=>?_)
        clear hK K
        refine one_ (i:=3) (N:=none) #[true,true,true,true] rfl rfl (by kernel_rfl) (by decide) (fun K hK=>?_)
        have hs139:w137.cell? ⟨gb627,0,none⟩=some (.slice none 0 0):=(jG BK627.out 0).trans rfl
        have hfs139:=jb BK627.out 0
        have hns139_0:=NB626_627.out
        have hns139_2:=NB632_627.out
        have hns139_3:=NB637_627.out
        have hms139_0:=NB627_626.out
        have hms139_2:=NB627_632.out
        have hms139_3:=NB627_637.out
        refine jPb (w1:=?_) (by rfl) rfl ?_ ?_
        rotate_left
        ·go_simp
         rfl
        refine hK.out _ _ ⟨((cell_far (p:=⟨gb627,_,none⟩) NB632_627.out _).trans (hHeld.1)),((cell_far (p:=⟨gb627,_,none⟩) NB637_627.out _).trans (hHeld.2))⟩ (fun hHeld=>?_)
        clear hK K
        refine done_ (by kernel_rfl) ?_
        try go_wp2
        refine bodyPost_ret (jMb rfl _ _ gb626 gb627 37 32 #[.slice Ao115 t628.length co115] #[.slice (some ⟨go110,0,none⟩) t633.length co122] (0,0) (0,0) _ _ rfl (Y73) Try.underlying37 rfl (by kernel_rfl) rfl (Y74) Try.underlying32 rfl (by kernel_rfl)) rfl ?_
        exact ⟨_,_,Y1,by (with_reducible repeat (first | apply Kd.jU | apply Kd.jW | apply Kd.jS));exact Kd.jH (Kd.jra (p:=⟨gb627,0,none⟩) (Kd.jra (p:=⟨gb626,0,none⟩) (Kd.jN (Kd.jN HO630.out BK626.out (by decide)) BK627.out (by decide)) (fun _ hk=>hk.1.2) (.slice Ao115 t628.length co115)) (fun _ hk=>hk.2) (.slice (some ⟨go110,0,none⟩) t633.length co122)) (fun _ hk=>trivial),by (with_reducible repeat (first | apply Kd.jU | apply Kd.jW | apply Kd.jS));exact Kd.jH (Kd.jra (p:=⟨gb627,0,none⟩) (Kd.jra (p:=⟨gb626,0,none⟩) (Kd.jN (Kd.jN HO635.out BK626.out (by decide)) BK627.out (by decide)) (fun _ hk=>hk.1.2) (.slice Ao115 t628.length co115)) (fun _ hk=>hk.2) (.slice (some ⟨go110,0,none⟩) t633.length co122)) (fun _ hk=>trivial),Y2,Y17,Y10⟩
       ·rw [if_neg c109] at H
        exact absurd H (by simp)
      ·rw [if_neg c108] at H
       exact absurd H (by simp)
     ·rw [if_neg c106] at H
      have c106b0:(t640 == 3)=false:=beq_eq_false_iff_ne.mpr c106
      have c106b1:(t640 != 3)=true:=bne_iff_ne.mpr c106
      simp only [Option.some.injEq,Prod.mk.injEq] at H
      obtain ⟨rfl,rfl,rfl⟩:=H
      go_enter Try.func61,Try.ntmps61
      try go_wp2_with (first |((with_reducible refine jD (N:=2) rfl ?_);refine bE (N:=2) (cs:=#[.slice none 0 0]) (t:=37) ?_;intro gb626 hg w140 hbox hb;have BK626:=am (hbox);have GW626:=am ((Y6:w.heap.size≤gb626));have GE626:=am ((Nat.le_trans HW0.out (Y6:w.heap.size≤gb626):w0.heap.size≤gb626));have NB0_626:=am ((Y24:g≠gb626));have NB626_0:=am ((Y25:gb626≠g));replace HK:=am (jd.trans (Y13) (jd.of_below hb g none) (.inl rfl));replace HB:=am (jf (Y14) hb);replace HI0:=am (jc.below (Y12) hb);clear hb hbox hg) |((with_reducible refine jD (N:=3) rfl ?_);refine bE (N:=3) (cs:=#[.slice none 0 0]) (t:=32) ?_;intro gb627 hg w141 hbox hb;have BK627:=am (hbox);have GW627:=am ((Y31:w.heap.size≤gb627));have GE627:=am ((Nat.le_trans HW0.out (Y31:w.heap.size≤gb627):w0.heap.size≤gb627));have NB626_627:=am ((Y20:gb626≠gb627));have NB627_626:=am ((Y21:gb627≠gb626));have NB0_627:=am ((Y61:g≠gb627));have NB627_0:=am ((Y62:gb627≠g));replace BK626:=am (je (g:=gb626) (o:=.cells #[.slice none 0 0] 37 (0,0)) (kq BK626.out) hb);replace HK:=am (jd.trans (Y63) (jd.of_below hb g none) (.inl rfl));replace HB:=am (jf (Y64) hb);replace HI0:=am (jc.below (Y65) hb);clear hb hbox hg) |((with_reducible refine jy (f:=87) rfl ?_);refine gL (some 8) Try.func87 #[.pointer (some ⟨g,0,none⟩)] ?_;(with_reducible refine (jY.calls k g s0_0 s0_1 t628 t631 w0 _ ?side1 ?side2 A2.out).mono ?_);(case side1=>exact Y32);(case side2=>exact Y33);rintro e w142 ⟨v629,rfl,ho0,hi,hb,hk⟩;refine ⟨_,rfl,?_⟩;have HO630:=am (Kd.jia ho0 (jba (w:=w) (g:=g) (row:=none) (Y22)));replace BK626:=am (jd.blk hk (g':=gb626) (o:=.cells #[.slice none 0 0] 37 (0,0)) (kq BK626.out) NB626_0.out (by simp));replace BK627:=am (jd.blk hk (g':=gb627) (o:=.cells #[.slice none 0 0] 32 (0,0)) (kq BK627.out) NB627_0.out (by simp));replace HK:=am (jd.trans (Y22) hk (.inl rfl));replace HB:=am (hb);replace HI0:=am (hi);(try clear hb);(try clear hb2);(try clear hk);(try clear hi);(try clear ho0)) |((with_reducible refine jD (N:=4) rfl ?_);refine bE (N:=4) (cs:=#[.slice none 0 0]) (t:=37) ?_;intro gb632 hg w143 hbox hb;have BK632:=am (hbox);have GW632:=am ((Y34:w.heap.size≤gb632));have GE632:=am ((Nat.le_trans HW0.out (Y34:w.heap.size≤gb632):w0.heap.size≤gb632));have NB626_632:=am ((Y20:gb626≠gb632));have NB632_626:=am ((Y21:gb632≠gb626));have NB627_632:=am ((Y35:gb627≠gb632));have NB632_627:=am ((Y36:gb632≠gb627));have NB0_632:=am ((Y66:g≠gb632));have NB632_0:=am ((Y67:gb632≠g));replace HO630:=am (Kd.jX (rq HO630.out) hb);replace BK626:=am (je (g:=gb626) (o:=.cells #[.slice none 0 0] 37 (0,0)) (kq BK626.out) hb);replace BK627:=am (je (g:=gb627) (o:=.cells #[.slice none 0 0] 32 (0,0)) (kq BK627.out) hb);replace HK:=am (jd.trans (Y22) (jd.of_below hb g none) (.inl rfl));replace HB:=am (jf (Y33) hb);replace HI0:=am (jc.below (Y32) hb);clear hb hbox hg;obtain ⟨Ao144,co144,eo144⟩:=Kd.jZ HO630.out;subst eo144;have hnb145:=NB632_626.out;have hnc145:=NB626_632.out;have hnb146:=NB632_627.out;have hnc146:=NB627_632.out;have hnb147:=NB632_0.out;have hnc147:=NB0_632.out;have hcz148_0:=bc0 BK632.out;have hfz148_0:=jb BK632.out 0) |((with_reducible refine jy (f:=62) rfl ?_);refine gL (some 11) Try.func62 #[.pointer (some ⟨g,0,none⟩), .agg #[.slice Ao144 t628.length co144]] ?_;(with_reducible refine (jq.calls k g s0_0 t631 _ _ t628 t633 t636 w0 _ ?side1 ?side2 ?side3 ?side4 A3.out).mono ?_);(case side1=>exact Y16);(case side2=>exact Y37);(case side3=>exact Kd.jEb (jc.apart (show jc w0 _ g s0_0 t631 from Y16) (Y155) (by decide)) (fun _ h_=>h_.2));(case side4=>exact (Kd.jB HO630.out).2.1);rintro e w149 ⟨v634,rfl,ho0,hi,hb,hk⟩;refine ⟨_,rfl,?_⟩;have HO635:=am (Kd.jia ho0 (jba (w:=w) (g:=g) (row:=none) (Y23)));replace BK626:=am (jd.blk hk (g':=gb626) (o:=.cells #[.slice none 0 0] 37 (0,0)) (Y68) NB626_0.out (by simp));replace BK627:=am (jd.blk hk (g':=gb627) (o:=.cells #[.slice none 0 0] 32 (0,0)) (Y69) NB627_0.out (by simp));replace HO630:=am (Kd.jH (Kd.jla (jc.apart (show jc w0 _ g s0_0 t631 from Y16) (Y155) (by decide)) hk (fun _ h=>h.2)) (fun _ h=>h.1));replace BK632:=am (jd.blk hk (g':=gb632) (o:=.cells #[.slice Ao144 t628.length co144] 37 (0,0)) (Y70) NB632_0.out (by simp));replace HK:=am (jd.trans (Y23) hk (.inl rfl));replace HB:=am (hb);replace HI0:=am (hi);(try clear hb);(try clear hb2);(try clear hk);(try clear hi);(try clear ho0)) |((with_reducible refine jD (N:=5) rfl ?_);refine bE (N:=5) (cs:=#[.slice none 0 0]) (t:=32) ?_;intro gb637 hg w150 hbox hb;have BK637:=am (hbox);have GW637:=am ((Y38:w.heap.size≤gb637));have GE637:=am ((Nat.le_trans HW0.out (Y38:w.heap.size≤gb637):w0.heap.size≤gb637));have NB626_637:=am ((Y20:gb626≠gb637));have NB637_626:=am ((Y21:gb637≠gb626));have NB627_637:=am ((Y35:gb627≠gb637));have NB637_627:=am ((Y36:gb637≠gb627));have NB632_637:=am ((by rw [hg];exact Nat.ne_of_lt (jca (g:=gb632) (o:=.cells #[.slice Ao144 t628.length co144] 37 (0,0)) (kq BK632.out)):gb632≠gb637));have NB637_632:=am ((by rw [hg];exact Nat.ne_of_gt (jca (g:=gb632) (o:=.cells #[.slice Ao144 t628.length co144] 37 (0,0)) (kq BK632.out)):gb637≠gb632));have NB0_637:=am ((Y71:g≠gb637));have NB637_0:=am ((Y72:gb637≠g));replace HO630:=am (Kd.jX (rq HO630.out) hb);replace HO635:=am (Kd.jX (rq HO635.out) hb);replace BK626:=am (je (g:=gb626) (o:=.cells #[.slice none 0 0] 37 (0,0)) (kq BK626.out) hb);replace BK627:=am (je (g:=gb627) (o:=.cells #[.slice none 0 0] 32 (0,0)) (kq BK627.out) hb);replace BK632:=am (je (g:=gb632) (o:=.cells #[.slice Ao144 t628.length co144] 37 (0,0)) (kq BK632.out) hb);replace HK:=am (jd.trans (Y23) (jd.of_below hb g none) (.inl rfl));replace HB:=am (jf (Y37) hb);replace HI0:=am (jc.below (Y16) hb);clear hb hbox hg;obtain ⟨Ao151,co151,eo151⟩:=Kd.jZ HO635.out;subst eo151;have hnb152:=NB637_626.out;have hnc152:=NB626_637.out;have hnb153:=NB637_627.out;have hnc153:=NB627_637.out;have hnb154:=NB637_632.out;have hnc154:=NB632_637.out;have hnb155:=NB637_0.out;have hnc155:=NB0_637.out;have hcz156_0:=bc0 BK637.out;have hfz156_0:=jb BK637.out 0) |((with_reducible refine jy (f:=88) rfl ?_);refine gL (some 20) Try.func88 #[.pointer (some ⟨g,0,none⟩), .int .i64 (t633.length:Int)] ?_;(with_reducible refine (jl.calls k g s0_0 t636 (t633.length:Int) t638 t639 w0 _ ?side1 ?side2 A5.out).mono ?_);(case side1=>exact Y2);(case side2=>exact Y17);rintro e w157 ⟨rfl,hi,hb,hk⟩;refine ⟨_,rfl,?_⟩;replace BK626:=am (jd.blk hk (g':=gb626) (o:=.cells #[.slice none 0 0] 37 (0,0)) (Y85) NB626_0.out (by simp));replace BK627:=am (jd.blk hk (g':=gb627) (o:=.cells #[.slice none 0 0] 32 (0,0)) (Y86) NB627_0.out (by simp));replace HO630:=am (Kd.jH (Kd.jla (jc.apart (show jc w0 _ g s0_0 t636 from Y2) (by (with_reducible repeat (first | apply Kd.jU | apply Kd.jW | apply Kd.jS));exact (Kd.jH (Kd.jra (p:=⟨gb637,0,none⟩) (Kd.jN HO630.out BK637.out (by decide)) (fun _ hk=>hk.2) (.slice Ao151 t633.length co151)) (fun _ h_=>h_.1))) (by decide)) hk (fun _ h=>h.2)) (fun _ h=>h.1));replace BK632:=am (jd.blk hk (g':=gb632) (o:=.cells #[.slice Ao144 t628.length co144] 37 (0,0)) (Y87) NB632_0.out (by simp));replace HO635:=am (Kd.jH (Kd.jla (jc.apart (show jc w0 _ g s0_0 t636 from Y2) (by (with_reducible repeat (first | apply Kd.jU | apply Kd.jW | apply Kd.jS));exact (Kd.jH (Kd.jra (p:=⟨gb637,0,none⟩) (Kd.jN HO635.out BK637.out (by decide)) (fun _ hk=>hk.2) (.slice Ao151 t633.length co151)) (fun _ h_=>h_.1))) (by decide)) hk (fun _ h=>h.2)) (fun _ h=>h.1));replace BK637:=am (jd.blk hk (g':=gb637) (o:=.cells #[.slice Ao151 t633.length co151] 32 (0,0)) (Y88) NB637_0.out (by simp));replace HK:=am (jd.trans (Y10) hk (.inl rfl));replace HB:=am (hb);replace HI0:=am (hi);(try clear hb);(try clear hb2);(try clear hk);(try clear hi)) |((with_reducible refine jy (f:=88) rfl ?_);refine gL (some 22) Try.func88 #[.pointer (some ⟨g,0,none⟩), .int .i64 24] ?_;(with_reducible refine (jl.calls k g s0_0 t639 24 t640 t641 w0 _ ?side1 ?side2 A6.out).mono ?_);(case side1=>exact Y2);(case side2=>exact Y17);rintro e w158 ⟨rfl,hi,hb,hk⟩;refine ⟨_,rfl,?_⟩;replace BK626:=am (jd.blk hk (g':=gb626) (o:=.cells #[.slice none 0 0] 37 (0,0)) (kq BK626.out) NB626_0.out (by simp));replace BK627:=am (jd.blk hk (g':=gb627) (o:=.cells #[.slice none 0 0] 32 (0,0)) (kq BK627.out) NB627_0.out (by simp));replace HO630:=am (Kd.jH (Kd.jla (jc.apart (show jc w0 _ g s0_0 t639 from Y2) (rq HO630.out) (by decide)) hk (fun _ h=>h.2)) (fun _ h=>h.1));replace BK632:=am (jd.blk hk (g':=gb632) (o:=.cells #[.slice Ao144 t628.length co144] 37 (0,0)) (kq BK632.out) NB632_0.out (by simp));replace HO635:=am (Kd.jH (Kd.jla (jc.apart (show jc w0 _ g s0_0 t639 from Y2) (rq HO635.out) (by decide)) hk (fun _ h=>h.2)) (fun _ h=>h.1));replace BK637:=am (jd.blk hk (g':=gb637) (o:=.cells #[.slice Ao151 t633.length co151] 32 (0,0)) (kq BK637.out) NB637_0.out (by simp));replace HK:=am (jd.trans (Y10) hk (.inl rfl));replace HB:=am (hb);replace HI0:=am (hi);(try clear hb);(try clear hb2);(try clear hk);(try clear hi)))
      replace HO630:=am (Kd.jS HO630.out)
      replace HO635:=am (Kd.jS HO635.out)
      replace BK626:=am (jg BK626.out)
      replace BK627:=am (jg BK627.out)
      replace BK632:=am (jg BK632.out)
      replace BK637:=am (jg BK637.out)
      replace HI0:=am (jc.drew HI0.out)
      replace HK:=am (jV HK.out)
      replace HB:=am (jr HB.out)
      refine jLb (n:=4) (S:=fun w'=>w'.cell? ⟨gb632,0,none⟩=some (.slice Ao144 t628.length co144)∧w'.cell? ⟨gb637,0,none⟩=some (.slice Ao151 t633.length co151)) (ds:=[]) #[false,false,false,false] (by kernel_rfl) rfl rfl ⟨(jG BK632.out 0).trans rfl,(jG BK637.out 0).trans rfl⟩ (fun hHeld=>?_)
      generalize w158.drew=w159 at HO630 HO635 BK626 BK627 BK632 BK637 HI0 HK HB hHeld ⊢
      refine jzb (i:=0) (N:=some 65) (v:=?_) (a':=?_) #[true,false,false,false] rfl rfl (by kernel_rfl) (fun _ _ _ h=>h) (Or.inl ⟨by rfl,?_⟩) hHeld ?_ ?_
      rotate_left
      ·rintro w' ⟨s0,s1⟩
       go_simp
       with_reducible rfl
      rotate_left
      ·exact sa
      refine jzb (i:=1) (N:=some 66) (v:=?_) (a':=?_) #[true,true,false,false] rfl rfl (by kernel_rfl) (fun _ _ _ h=>h) (Or.inl ⟨by rfl,?_⟩) hHeld ?_ ?_
      rotate_left
      ·rintro w' ⟨s0,s1⟩
       go_simp
       with_reducible rfl
      rotate_left
      ·exact sa
      refine one_ (i:=2) (N:=none) #[true,true,true,false] rfl rfl (by kernel_rfl) (by decide) (fun K hK=>?_)
      have hs160:w159.cell? ⟨gb626,0,none⟩=some (.slice none 0 0):=(jG BK626.out 0).trans rfl
      have hfs160:=jb BK626.out 0
      have hns160_1:=NB627_626.out
      have hns160_2:=NB632_626.out
      have hns160_3:=NB637_626.out
      have hms160_1:=NB626_627.out
      have hms160_2:=NB626_632.out
      have hms160_3:=NB626_637.out
      refine jPb (w1:=?_) (by rfl) rfl ?_ ?_
      rotate_left
      ·go_simp
       rfl
      refine hK.out _ _ ⟨((cell_far (p:=⟨gb626,_,none⟩) NB632_626.out _).trans (hHeld.1)),((cell_far (p:=⟨gb626,_,none⟩) NB637_626.out _).trans (hHeld.2))⟩ (fun hHeld=>?_)
      clear hK K
      refine one_ (i:=3) (N:=none) #[true,true,true,true] rfl rfl (by kernel_rfl) (by decide) (fun K hK=>?_)
      have hs161:w159.cell? ⟨gb627,0,none⟩=some (.slice none 0 0):=(jG BK627.out 0).trans rfl
      have hfs161:=jb BK627.out 0
      have hns161_0:=NB626_627.out
      have hns161_2:=NB632_627.out
      have hns161_3:=NB637_627.out
      have hms161_0:=NB627_626.out
      have hms161_2:=NB627_632.out
      have hms161_3:=NB627_637.out
      refine jPb (w1:=?_) (by rfl) rfl ?_ ?_
      rotate_left
      ·go_simp
       rfl
      refine hK.out _ _ ⟨((cell_far (p:=⟨gb627,_,none⟩) NB632_627.out _).trans (hHeld.1)),((cell_far (p:=⟨gb627,_,none⟩) NB637_627.out _).trans (hHeld.2))⟩ (fun hHeld=>?_)
      clear hK K
      refine done_ (by kernel_rfl) ?_
      try go_wp2
      refine bodyPost_ret (jMb rfl _ _ gb626 gb627 37 32 #[.slice Ao144 t628.length co144] #[.slice Ao151 t633.length co151] (0,0) (0,0) _ _ rfl (Y73) Try.underlying37 rfl (by kernel_rfl) rfl (Y74) Try.underlying32 rfl (by kernel_rfl)) rfl ?_
      exact ⟨_,_,Y1,by (with_reducible repeat (first | apply Kd.jU | apply Kd.jW | apply Kd.jS));exact Kd.jH (Kd.jra (p:=⟨gb627,0,none⟩) (Kd.jra (p:=⟨gb626,0,none⟩) (Kd.jN (Kd.jN HO630.out BK626.out (by decide)) BK627.out (by decide)) (fun _ hk=>hk.1.2) (.slice Ao144 t628.length co144)) (fun _ hk=>hk.2) (.slice Ao151 t633.length co151)) (fun _ hk=>trivial),by (with_reducible repeat (first | apply Kd.jU | apply Kd.jW | apply Kd.jS));exact Kd.jH (Kd.jra (p:=⟨gb627,0,none⟩) (Kd.jra (p:=⟨gb626,0,none⟩) (Kd.jN (Kd.jN HO635.out BK626.out (by decide)) BK627.out (by decide)) (fun _ hk=>hk.1.2) (.slice Ao144 t628.length co144)) (fun _ hk=>hk.2) (.slice Ao151 t633.length co151)) (fun _ hk=>trivial),Y2,Y17,Y10⟩
 ·rw [if_neg c4] at H
  have c4b0:decide (0<(t633.length:Int))=false:=dzF c4
  have c4b1:decide (0<t633.length)=false:=dzF (by omega)
  clear c4
  simp only [Option.some.injEq,Prod.mk.injEq] at H
  obtain ⟨rfl,rfl,rfl⟩:=H
  go_enter Try.func61,Try.ntmps61
  try go_wp2_with (first |((with_reducible refine jD (N:=2) rfl ?_);refine bE (N:=2) (cs:=#[.slice none 0 0]) (t:=37) ?_;intro gb626 hg w162 hbox hb;have BK626:=am (hbox);have GW626:=am ((Y6:w.heap.size≤gb626));have GE626:=am ((Nat.le_trans HW0.out (Y6:w.heap.size≤gb626):w0.heap.size≤gb626));have NB0_626:=am ((Y24:g≠gb626));have NB626_0:=am ((Y25:gb626≠g));replace HK:=am (jd.trans (Y13) (jd.of_below hb g none) (.inl rfl));replace HB:=am (jf (Y14) hb);replace HI0:=am (jc.below (Y12) hb);clear hb hbox hg) |((with_reducible refine jD (N:=3) rfl ?_);refine bE (N:=3) (cs:=#[.slice none 0 0]) (t:=32) ?_;intro gb627 hg w163 hbox hb;have BK627:=am (hbox);have GW627:=am ((Y31:w.heap.size≤gb627));have GE627:=am ((Nat.le_trans HW0.out (Y31:w.heap.size≤gb627):w0.heap.size≤gb627));have NB626_627:=am ((Y20:gb626≠gb627));have NB627_626:=am ((Y21:gb627≠gb626));have NB0_627:=am ((Y61:g≠gb627));have NB627_0:=am ((Y62:gb627≠g));replace BK626:=am (je (g:=gb626) (o:=.cells #[.slice none 0 0] 37 (0,0)) (kq BK626.out) hb);replace HK:=am (jd.trans (Y63) (jd.of_below hb g none) (.inl rfl));replace HB:=am (jf (Y64) hb);replace HI0:=am (jc.below (Y65) hb);clear hb hbox hg) |((with_reducible refine jy (f:=87) rfl ?_);refine gL (some 8) Try.func87 #[.pointer (some ⟨g,0,none⟩)] ?_;(with_reducible refine (jY.calls k g s0_0 s0_1 t628 t631 w0 _ ?side1 ?side2 A2.out).mono ?_);(case side1=>exact Y32);(case side2=>exact Y33);rintro e w164 ⟨v629,rfl,ho0,hi,hb,hk⟩;refine ⟨_,rfl,?_⟩;have HO630:=am (Kd.jia ho0 (jba (w:=w) (g:=g) (row:=none) (Y22)));replace BK626:=am (jd.blk hk (g':=gb626) (o:=.cells #[.slice none 0 0] 37 (0,0)) (kq BK626.out) NB626_0.out (by simp));replace BK627:=am (jd.blk hk (g':=gb627) (o:=.cells #[.slice none 0 0] 32 (0,0)) (kq BK627.out) NB627_0.out (by simp));replace HK:=am (jd.trans (Y22) hk (.inl rfl));replace HB:=am (hb);replace HI0:=am (hi);(try clear hb);(try clear hb2);(try clear hk);(try clear hi);(try clear ho0)) |((with_reducible refine jD (N:=4) rfl ?_);refine bE (N:=4) (cs:=#[.slice none 0 0]) (t:=37) ?_;intro gb632 hg w165 hbox hb;have BK632:=am (hbox);have GW632:=am ((Y34:w.heap.size≤gb632));have GE632:=am ((Nat.le_trans HW0.out (Y34:w.heap.size≤gb632):w0.heap.size≤gb632));have NB626_632:=am ((Y20:gb626≠gb632));have NB632_626:=am ((Y21:gb632≠gb626));have NB627_632:=am ((Y35:gb627≠gb632));have NB632_627:=am ((Y36:gb632≠gb627));have NB0_632:=am ((Y66:g≠gb632));have NB632_0:=am ((Y67:gb632≠g));replace HO630:=am (Kd.jX (rq HO630.out) hb);replace BK626:=am (je (g:=gb626) (o:=.cells #[.slice none 0 0] 37 (0,0)) (kq BK626.out) hb);replace BK627:=am (je (g:=gb627) (o:=.cells #[.slice none 0 0] 32 (0,0)) (kq BK627.out) hb);replace HK:=am (jd.trans (Y22) (jd.of_below hb g none) (.inl rfl));replace HB:=am (jf (Y33) hb);replace HI0:=am (jc.below (Y32) hb);clear hb hbox hg;obtain ⟨Ao166,co166,eo166⟩:=Kd.jZ HO630.out;subst eo166;have hnb167:=NB632_626.out;have hnc167:=NB626_632.out;have hnb168:=NB632_627.out;have hnc168:=NB627_632.out;have hnb169:=NB632_0.out;have hnc169:=NB0_632.out;have hcz170_0:=bc0 BK632.out;have hfz170_0:=jb BK632.out 0) |((with_reducible refine jy (f:=62) rfl ?_);refine gL (some 11) Try.func62 #[.pointer (some ⟨g,0,none⟩), .agg #[.slice Ao166 t628.length co166]] ?_;(with_reducible refine (jq.calls k g s0_0 t631 _ _ t628 t633 t636 w0 _ ?side1 ?side2 ?side3 ?side4 A3.out).mono ?_);(case side1=>exact Y16);(case side2=>exact Y37);(case side3=>exact Kd.jEb (jc.apart (show jc w0 _ g s0_0 t631 from Y16) (Y156) (by decide)) (fun _ h_=>h_.2));(case side4=>exact (Kd.jB HO630.out).2.1);rintro e w171 ⟨v634,rfl,ho0,hi,hb,hk⟩;refine ⟨_,rfl,?_⟩;have HO635:=am (Kd.jia ho0 (jba (w:=w) (g:=g) (row:=none) (Y23)));replace BK626:=am (jd.blk hk (g':=gb626) (o:=.cells #[.slice none 0 0] 37 (0,0)) (Y68) NB626_0.out (by simp));replace BK627:=am (jd.blk hk (g':=gb627) (o:=.cells #[.slice none 0 0] 32 (0,0)) (Y69) NB627_0.out (by simp));replace HO630:=am (Kd.jH (Kd.jla (jc.apart (show jc w0 _ g s0_0 t631 from Y16) (Y156) (by decide)) hk (fun _ h=>h.2)) (fun _ h=>h.1));replace BK632:=am (jd.blk hk (g':=gb632) (o:=.cells #[.slice Ao166 t628.length co166] 37 (0,0)) (Y70) NB632_0.out (by simp));replace HK:=am (jd.trans (Y23) hk (.inl rfl));replace HB:=am (hb);replace HI0:=am (hi);(try clear hb);(try clear hb2);(try clear hk);(try clear hi);(try clear ho0)) |((with_reducible refine jD (N:=5) rfl ?_);refine bE (N:=5) (cs:=#[.slice none 0 0]) (t:=32) ?_;intro gb637 hg w172 hbox hb;have BK637:=am (hbox);have GW637:=am ((Y38:w.heap.size≤gb637));have GE637:=am ((Nat.le_trans HW0.out (Y38:w.heap.size≤gb637):w0.heap.size≤gb637));have NB626_637:=am ((Y20:gb626≠gb637));have NB637_626:=am ((Y21:gb637≠gb626));have NB627_637:=am ((Y35:gb627≠gb637));have NB637_627:=am ((Y36:gb637≠gb627));have NB632_637:=am ((by rw [hg];exact Nat.ne_of_lt (jca (g:=gb632) (o:=.cells #[.slice Ao166 t628.length co166] 37 (0,0)) (kq BK632.out)):gb632≠gb637));have NB637_632:=am ((by rw [hg];exact Nat.ne_of_gt (jca (g:=gb632) (o:=.cells #[.slice Ao166 t628.length co166] 37 (0,0)) (kq BK632.out)):gb637≠gb632));have NB0_637:=am ((Y71:g≠gb637));have NB637_0:=am ((Y72:gb637≠g));replace HO630:=am (Kd.jX (rq HO630.out) hb);replace HO635:=am (Kd.jX (rq HO635.out) hb);replace BK626:=am (je (g:=gb626) (o:=.cells #[.slice none 0 0] 37 (0,0)) (kq BK626.out) hb);replace BK627:=am (je (g:=gb627) (o:=.cells #[.slice none 0 0] 32 (0,0)) (kq BK627.out) hb);replace BK632:=am (je (g:=gb632) (o:=.cells #[.slice Ao166 t628.length co166] 37 (0,0)) (kq BK632.out) hb);replace HK:=am (jd.trans (Y23) (jd.of_below hb g none) (.inl rfl));replace HB:=am (jf (Y37) hb);replace HI0:=am (jc.below (Y16) hb);clear hb hbox hg;obtain ⟨Ao173,co173,eo173⟩:=Kd.jZ HO635.out;subst eo173;have hnb174:=NB637_626.out;have hnc174:=NB626_637.out;have hnb175:=NB637_627.out;have hnc175:=NB627_637.out;have hnb176:=NB637_632.out;have hnc176:=NB632_637.out;have hnb177:=NB637_0.out;have hnc177:=NB0_637.out;have hcz178_0:=bc0 BK637.out;have hfz178_0:=jb BK637.out 0))
  have n0_:jC (Kd.R k94 94 (w172.setCell ⟨gb637,0,none⟩ (.slice Ao173 t633.length co173)) w.heap.size (fun _=>True) (.slice Ao166 t628.length co166) t628):=⟨by (with_reducible repeat (first | apply Kd.jU | apply Kd.jW | apply Kd.jS));exact Kd.jH (Kd.jra (p:=⟨gb637,0,none⟩) (Kd.jN HO630.out BK637.out (by decide)) (fun _ hk=>hk.2) (.slice Ao173 t633.length co173)) (fun _ hk=>trivial)⟩
  have n1_:jC (Kd.R k54 54 (w172.setCell ⟨gb637,0,none⟩ (.slice Ao173 t633.length co173)) w.heap.size (fun _=>True) (.slice Ao173 t633.length co173) t633):=⟨by (with_reducible repeat (first | apply Kd.jU | apply Kd.jW | apply Kd.jS));exact Kd.jH (Kd.jra (p:=⟨gb637,0,none⟩) (Kd.jN HO635.out BK637.out (by decide)) (fun _ hk=>hk.2) (.slice Ao173 t633.length co173)) (fun _ hk=>trivial)⟩
  have n2_:jC ((w172.setCell ⟨gb637,0,none⟩ (.slice Ao173 t633.length co173)).heap[gb626]?=some (.cells #[.slice none 0 0] 37 (0,0))):=⟨by (with_reducible repeat (first | refine jh ?_ _ | refine jg ?_ | refine jk ?_ _));refine jO ?_ NB626_637.out _;(with_reducible repeat (first | refine jh ?_ _ | refine jg ?_ | refine jk ?_ _));exact BK626.out⟩
  have n3_:jC ((w172.setCell ⟨gb637,0,none⟩ (.slice Ao173 t633.length co173)).heap[gb627]?=some (.cells #[.slice none 0 0] 32 (0,0))):=⟨by (with_reducible repeat (first | refine jh ?_ _ | refine jg ?_ | refine jk ?_ _));refine jO ?_ NB627_637.out _;(with_reducible repeat (first | refine jh ?_ _ | refine jg ?_ | refine jk ?_ _));exact BK627.out⟩
  have n4_:jC ((w172.setCell ⟨gb637,0,none⟩ (.slice Ao173 t633.length co173)).heap[gb632]?=some (.cells #[.slice Ao166 t628.length co166] 37 (0,0))):=⟨by (with_reducible repeat (first | refine jh ?_ _ | refine jg ?_ | refine jk ?_ _));refine jO ?_ NB632_637.out _;(with_reducible repeat (first | refine jh ?_ _ | refine jg ?_ | refine jk ?_ _));exact BK632.out⟩
  have n5_:jC ((w172.setCell ⟨gb637,0,none⟩ (.slice Ao173 t633.length co173)).heap[gb637]?=some (.cells #[.slice Ao173 t633.length co173] 32 (0,0))):=⟨by (with_reducible repeat (first | refine jh ?_ _ | refine jg ?_ | refine jk ?_ _));refine jya (cs:=#[.slice none 0 0]) ?_ 0 _ rfl;(with_reducible repeat (first | refine jh ?_ _ | refine jg ?_ | refine jk ?_ _));exact BK637.out⟩
  have n6_:jC (jc w0 (w172.setCell ⟨gb637,0,none⟩ (.slice Ao173 t633.length co173)) g s0_0 t636):=⟨Y2⟩
  have n7_:jC (jd w (w172.setCell ⟨gb637,0,none⟩ (.slice Ao173 t633.length co173)) g none):=⟨Y10⟩
  have n8_:jC (Below w0.heap.size w0 (w172.setCell ⟨gb637,0,none⟩ (.slice Ao173 t633.length co173))):=⟨Y17⟩
  (try clear HO630)
  (try clear HO635)
  (try clear BK626)
  (try clear BK627)
  (try clear BK632)
  (try clear BK637)
  (try clear HI0)
  (try clear HK)
  (try clear HB)
  generalize (w172.setCell ⟨gb637,0,none⟩ (.slice Ao173 t633.length co173))=w179 at n0_ n1_ n2_ n3_ n4_ n5_ n6_ n7_ n8_ ⊢
  have HO630:=n0_
  have HO635:=n1_
  have BK626:=n2_
  have BK627:=n3_
  have BK632:=n4_
  have BK637:=n5_
  have HI0:=n6_
  have HK:=n7_
  have HB:=n8_
  clear n0_ n1_ n2_ n3_ n4_ n5_ n6_ n7_ n8_
  replace HO630:=am (Kd.jS HO630.out)
  replace HO635:=am (Kd.jS HO635.out)
  replace BK626:=am (jg BK626.out)
  replace BK627:=am (jg BK627.out)
  replace BK632:=am (jg BK632.out)
  replace BK637:=am (jg BK637.out)
  replace HI0:=am (jc.drew HI0.out)
  replace HK:=am (jV HK.out)
  replace HB:=am (jr HB.out)
  refine jLb (n:=4) (S:=fun w'=>w'.cell? ⟨gb632,0,none⟩=some (.slice Ao166 t628.length co166)∧w'.cell? ⟨gb637,0,none⟩=some (.slice Ao173 t633.length co173)) (ds:=[]) #[false,false,false,false] (by kernel_rfl) rfl rfl ⟨(jG BK632.out 0).trans rfl,(jG BK637.out 0).trans rfl⟩ (fun hHeld=>?_)
  generalize w179.drew=w180 at HO630 HO635 BK626 BK627 BK632 BK637 HI0 HK HB hHeld ⊢
  refine jzb (i:=0) (N:=some 65) (v:=?_) (a':=?_) #[true,false,false,false] rfl rfl (by kernel_rfl) (fun _ _ _ h=>h) (Or.inl ⟨by rfl,?_⟩) hHeld ?_ ?_
  rotate_left
  ·rintro w' ⟨s0,s1⟩
   go_simp
   with_reducible rfl
  rotate_left
  ·exact sa
  refine jzb (i:=1) (N:=some 66) (v:=?_) (a':=?_) #[true,true,false,false] rfl rfl (by kernel_rfl) (fun _ _ _ h=>h) (Or.inl ⟨by rfl,?_⟩) hHeld ?_ ?_
  rotate_left
  ·rintro w' ⟨s0,s1⟩
   go_simp
   with_reducible rfl
  rotate_left
  ·exact sa
  refine one_ (i:=2) (N:=none) #[true,true,true,false] rfl rfl (by kernel_rfl) (by decide) (fun K hK=>?_)
  have hs181:w180.cell? ⟨gb626,0,none⟩=some (.slice none 0 0):=(jG BK626.out 0).trans rfl
  have hfs181:=jb BK626.out 0
  have hns181_1:=NB627_626.out
  have hns181_2:=NB632_626.out
  have hns181_3:=NB637_626.out
  have hms181_1:=NB626_627.out
  have hms181_2:=NB626_632.out
  have hms181_3:=NB626_637.out
  refine jPb (w1:=?_) (by rfl) rfl ?_ ?_
  rotate_left
  ·go_simp
   rfl
  refine hK.out _ _ ⟨((cell_far (p:=⟨gb626,_,none⟩) NB632_626.out _).trans (hHeld.1)),((cell_far (p:=⟨gb626,_,none⟩) NB637_626.out _).trans (hHeld.2))⟩ (fun hHeld=>?_)
  clear hK K
  refine one_ (i:=3) (N:=none) #[true,true,true,true] rfl rfl (by kernel_rfl) (by decide) (fun K hK=>?_)
  have hs182:w180.cell? ⟨gb627,0,none⟩=some (.slice none 0 0):=(jG BK627.out 0).trans rfl
  have hfs182:=jb BK627.out 0
  have hns182_0:=NB626_627.out
  have hns182_2:=NB632_627.out
  have hns182_3:=NB637_627.out
  have hms182_0:=NB627_626.out
  have hms182_2:=NB627_632.out
  have hms182_3:=NB627_637.out
  refine jPb (w1:=?_) (by rfl) rfl ?_ ?_
  rotate_left
  ·go_simp
   rfl
  refine hK.out _ _ ⟨((cell_far (p:=⟨gb627,_,none⟩) NB632_627.out _).trans (hHeld.1)),((cell_far (p:=⟨gb627,_,none⟩) NB637_627.out _).trans (hHeld.2))⟩ (fun hHeld=>?_)
  clear hK K
  refine done_ (by kernel_rfl) ?_
  try go_wp2
  refine bodyPost_ret (jMb rfl _ _ gb626 gb627 37 32 #[.slice Ao166 t628.length co166] #[.slice Ao173 t633.length co173] (0,0) (0,0) _ _ rfl (Y73) Try.underlying37 rfl (by kernel_rfl) rfl (Y74) Try.underlying32 rfl (by kernel_rfl)) rfl ?_
  exact ⟨_,_,Y1,by (with_reducible repeat (first | apply Kd.jU | apply Kd.jW | apply Kd.jS));exact Kd.jH (Kd.jra (p:=⟨gb627,0,none⟩) (Kd.jra (p:=⟨gb626,0,none⟩) (Kd.jN (Kd.jN HO630.out BK626.out (by decide)) BK627.out (by decide)) (fun _ hk=>hk.1.2) (.slice Ao166 t628.length co166)) (fun _ hk=>hk.2) (.slice Ao173 t633.length co173)) (fun _ hk=>trivial),by (with_reducible repeat (first | apply Kd.jU | apply Kd.jW | apply Kd.jS));exact Kd.jH (Kd.jra (p:=⟨gb627,0,none⟩) (Kd.jra (p:=⟨gb626,0,none⟩) (Kd.jN (Kd.jN HO635.out BK626.out (by decide)) BK627.out (by decide)) (fun _ hk=>hk.1.2) (.slice Ao166 t628.length co166)) (fun _ hk=>hk.2) (.slice Ao173 t633.length co173)) (fun _ hk=>trivial),Y2,Y17,Y10⟩
end Go.Proofs.Ytecdfgejmbpclaa.P
end
