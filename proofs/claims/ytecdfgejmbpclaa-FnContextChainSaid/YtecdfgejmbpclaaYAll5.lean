/- One part of the proofs on this program: functions of the program as plain functions, that the code comes to them, and facts on them. -/
import Derived.Test.YtecdfgejmbpclaaYAll1
import Derived.Test.YtecdfgejmbpclaaYAll2
import Derived.Test.YtecdfgejmbpclaaYAll3
import Derived.Test.YtecdfgejmbpclaaYAll4
import Derived.Test.YtecdfgejmbpclaaYWAuto
section
namespace Go.Proofs.Ytecdfgejmbpclaa.P
open Go.RowKit Go.Proofs.YtecdfgejmbpclaaW.PrintWords Go.Proofs.YtecdfgejmbpclaaW.PrintLast Go.Proofs.YtecdfgejmbpclaaW.PrintMore
attribute [local go_sem] jxa jva jGa jFa jna jma jwa jua jD
set_option linter.unusedVariables false
set_option linter.unusedSimpArgs false
def jL.f (k : Nat) (s0_0 : List Int) (s0_1 : Int) : Option ((List (S94)) × (List (S54)) × Int) := (jba.f k s0_0 s0_1).bind fun bt431 => ((jv.f k s0_0 bt431.2 bt431.1).bind fun bt436 => (if (bt436.1.length : Int) > 0 then ((jl.f k s0_0 bt436.2 (bt436.1.length : Int)).bind fun bt441 => ((jl.f k s0_0 bt441.2 24).bind fun bt443 => (if bt443.1 = 0 then ((jw.f k s0_0 bt443.2 (([bt441.1, 9, (-2)] : List Int))).bind fun bt448 => (if 0 ≤ bt441.1 then (if bt441.1 < (bt436.1.length : Int) then (some (bt431.1, (bt436.1.set (bt441.1 : Int).toNat (⟨(jb bt436.1 bt441.1).f0, (jb bt436.1 bt441.1).f1, (jb bt436.1 bt441.1).f2, bt448.1, (jb bt436.1 bt441.1).f4⟩ : S54)), bt448.2)) else (none)) else (none))) else (if bt443.1 = 1 then ((jeb.f k s0_0 bt443.2 bt431.1).bind fun bt451 => (if 0 ≤ bt441.1 then (if bt441.1 < (bt436.1.length : Int) then (some (bt431.1, (bt436.1.set (bt441.1 : Int).toNat (⟨bt451.1, (jb bt436.1 bt441.1).f1, (jb bt436.1 bt441.1).f2, (jb bt436.1 bt441.1).f3, (jb bt436.1 bt441.1).f4⟩ : S54)), bt451.2)) else (none)) else (none))) else (if bt443.1 = 2 then ((jw.f k s0_0 bt443.2 (([(-1), 100] : List Int))).bind fun bt457 => (if 0 ≤ bt441.1 then (if bt441.1 < (bt436.1.length : Int) then (some (bt431.1, (bt436.1.set (bt441.1 : Int).toNat (⟨(jb bt436.1 bt441.1).f0, bt457.1, (jb bt436.1 bt441.1).f2, (jb bt436.1 bt441.1).f3, (jb bt436.1 bt441.1).f4⟩ : S54)), bt457.2)) else (none)) else (none))) else (if bt443.1 = 3 then ((jw.f k s0_0 bt443.2 (([bt441.1, 24, 0] : List Int))).bind fun bt463 => (if 0 ≤ bt441.1 then (if bt441.1 < (bt436.1.length : Int) then (some (bt431.1, (bt436.1.set (bt441.1 : Int).toNat (⟨(jb bt436.1 bt441.1).f0, (jb bt436.1 bt441.1).f1, bt463.1, (jb bt436.1 bt441.1).f3, (jb bt436.1 bt441.1).f4⟩ : S54)), bt463.2)) else (none)) else (none))) else (some (bt431.1, bt436.1, bt443.2)))))))) else (some (bt431.1, bt436.1, bt436.2))))
def jL.T7 : Bool × List (List Nat × List Nat) := (true, [([], []), ([0], [0]), ([], []), ([], []), ([], []), ([4], [4]), ([3, 5], [3, 5]), ([1, 2, 0, 1, 2, 3, 4, 5, 6], [1, 2]), ([7, 0, 1, 2, 3, 4, 5, 6], [7]), ([8, 6, 6, 0, 1, 2, 3, 4, 5, 6], [6, 8])])
def jL.B7 : List Nat := [0, 1, 0, 0, 0, 16, 56, 127, 255, 511]
theorem jL.tab7 : rtab .any (opsOf Try.f61 7) = jL.T7 := by kernel_rfl
theorem jL.bits7 : jGb jL.T7.2 jL.B7 = true := by kernel_rfl
def jL.T9 : Bool × List (List Nat × List Nat) := (true, [([], []), ([0], [0]), ([], []), ([], []), ([], []), ([3, 4], [3, 4]), ([1, 2, 0, 1, 2, 3, 4, 5], [1, 2]), ([6, 0, 1, 2, 3, 4, 5], [6]), ([7, 5, 5, 0, 1, 2, 3, 4, 5], [5, 7])])
def jL.B9 : List Nat := [0, 1, 0, 0, 0, 24, 63, 127, 255]
theorem jL.tab9 : rtab .any (opsOf Try.f61 9) = jL.T9 := by kernel_rfl
theorem jL.bits9 : jGb jL.T9.2 jL.B9 = true := by kernel_rfl
def jL.T11 : Bool × List (List Nat × List Nat) := (true, [([], []), ([0], [0]), ([], []), ([], []), ([], []), ([3, 4], [3, 4]), ([1, 2, 0, 1, 2, 3, 4, 5], [1, 2]), ([6, 0, 1, 2, 3, 4, 5], [6]), ([7, 5, 5, 0, 1, 2, 3, 4, 5], [5, 7])])
def jL.B11 : List Nat := [0, 1, 0, 0, 0, 24, 63, 127, 255]
theorem jL.tab11 : rtab .any (opsOf Try.f61 11) = jL.T11 := by kernel_rfl
theorem jL.bits11 : jGb jL.T11.2 jL.B11 = true := by kernel_rfl
def jL.T13 : Bool × List (List Nat × List Nat) := (true, [([], []), ([0], [0]), ([], []), ([], []), ([], []), ([4], [4]), ([3, 5], [3, 5]), ([1, 2, 0, 1, 2, 3, 4, 5, 6], [1, 2]), ([7, 0, 1, 2, 3, 4, 5, 6], [7]), ([8, 6, 6, 0, 1, 2, 3, 4, 5, 6], [6, 8])])
def jL.B13 : List Nat := [0, 1, 0, 0, 0, 16, 56, 127, 255, 511]
theorem jL.tab13 : rtab .any (opsOf Try.f61 13) = jL.T13 := by kernel_rfl
theorem jL.bits13 : jGb jL.T13.2 jL.B13 = true := by kernel_rfl
set_option maxHeartbeats 8000000 in
set_option maxRecDepth 100000 in
theorem jL.calls (k : Nat) (g : Nat) (s0_0 : List Int) (s0_1 : Int) (r1 : List (S94)) (r2 : List (S54)) (r3 : Int) (w0 w : World) (hI : ja w0 w g s0_0 s0_1) (hB : Below w0.heap.size w0 w) (h : jL.f k s0_0 s0_1 = some (r1, r2, r3)) :
  Calls Try.prog 61 #[.pointer (some ⟨g,0,none⟩)] w fun e w'=>∃ v0_ v1_:Value,e=.returned (.tuple #[.agg #[v0_], .agg #[v1_]])∧Kd.R k94 94 w' w.heap.size (fun _=>True) v0_ r1∧Kd.R k54 54 w' w.heap.size (fun _=>True) v1_ r2∧ja w0 w' g s0_0 r3∧Below w0.heap.size w0 w'∧jd w w' g none:=by
 have hu37:=Try.underlying37
 have hu32:=Try.underlying32
 have HI0:=am hI
 have HK:=am (jd.refl w g none)
 have HL:=am hB.size
 clear hI
 have HW0:=am hB.size
 have HB:=am hB
 clear hB
 have H:((jba.f k s0_0 s0_1).bind fun bt431=>((jv.f k s0_0 bt431.2 bt431.1).bind fun bt436=>(if (bt436.1.length:Int) > 0 then ((jl.f k s0_0 bt436.2 (bt436.1.length:Int)).bind fun bt441=>((jl.f k s0_0 bt441.2 24).bind fun bt443=>(if bt443.1=0 then ((jw.f k s0_0 bt443.2 (([bt441.1,9,(-2)]:List Int))).bind fun bt448=>(if 0≤bt441.1 then (if bt441.1<(bt436.1.length:Int) then (some (bt431.1,(bt436.1.set (bt441.1:Int).toNat (⟨(jb bt436.1 bt441.1).f0,(jb bt436.1 bt441.1).f1,(jb bt436.1 bt441.1).f2,bt448.1,(jb bt436.1 bt441.1).f4⟩:S54)),bt448.2)) else (none)) else (none))) else (if bt443.1=1 then ((jeb.f k s0_0 bt443.2 bt431.1).bind fun bt451=>(if 0≤bt441.1 then (if bt441.1<(bt436.1.length:Int) then (some (bt431.1,(bt436.1.set (bt441.1:Int).toNat (⟨bt451.1,(jb bt436.1 bt441.1).f1,(jb bt436.1 bt441.1).f2,(jb bt436.1 bt441.1).f3,(jb bt436.1 bt441.1).f4⟩:S54)),bt451.2)) else (none)) else (none))) else (if bt443.1=2 then ((jw.f k s0_0 bt443.2 (([(-1),100]:List Int))).bind fun bt457=>(if 0≤bt441.1 then (if bt441.1<(bt436.1.length:Int) then (some (bt431.1,(bt436.1.set (bt441.1:Int).toNat (⟨(jb bt436.1 bt441.1).f0,bt457.1,(jb bt436.1 bt441.1).f2,(jb bt436.1 bt441.1).f3,(jb bt436.1 bt441.1).f4⟩:S54)),bt457.2)) else (none)) else (none))) else (if bt443.1=3 then ((jw.f k s0_0 bt443.2 (([bt441.1,24,0]:List Int))).bind fun bt463=>(if 0≤bt441.1 then (if bt441.1<(bt436.1.length:Int) then (some (bt431.1,(bt436.1.set (bt441.1:Int).toNat (⟨(jb bt436.1 bt441.1).f0,(jb bt436.1 bt441.1).f1,bt463.1,(jb bt436.1 bt441.1).f3,(jb bt436.1 bt441.1).f4⟩:S54)),bt463.2)) else (none)) else (none))) else (some (bt431.1,bt436.1,bt443.2)))))))) else (some (bt431.1,bt436.1,bt436.2)))))=some (r1,r2,r3):=h
 clear h
 replace H:=bzS H
 obtain ⟨⟨t431,t434⟩,A20,H⟩:=H
 replace H:((jv.f k s0_0 t434 t431).bind fun bt436=>(if (bt436.1.length:Int) > 0 then ((jl.f k s0_0 bt436.2 (bt436.1.length:Int)).bind fun bt441=>((jl.f k s0_0 bt441.2 24).bind fun bt443=>(if bt443.1=0 then ((jw.f k s0_0 bt443.2 (([bt441.1,9,(-2)]:List Int))).bind fun bt448=>(if 0≤bt441.1 then (if bt441.1<(bt436.1.length:Int) then (some (t431,(bt436.1.set (bt441.1:Int).toNat (⟨(jb bt436.1 bt441.1).f0,(jb bt436.1 bt441.1).f1,(jb bt436.1 bt441.1).f2,bt448.1,(jb bt436.1 bt441.1).f4⟩:S54)),bt448.2)) else (none)) else (none))) else (if bt443.1=1 then ((jeb.f k s0_0 bt443.2 t431).bind fun bt451=>(if 0≤bt441.1 then (if bt441.1<(bt436.1.length:Int) then (some (t431,(bt436.1.set (bt441.1:Int).toNat (⟨bt451.1,(jb bt436.1 bt441.1).f1,(jb bt436.1 bt441.1).f2,(jb bt436.1 bt441.1).f3,(jb bt436.1 bt441.1).f4⟩:S54)),bt451.2)) else (none)) else (none))) else (if bt443.1=2 then ((jw.f k s0_0 bt443.2 (([(-1),100]:List Int))).bind fun bt457=>(if 0≤bt441.1 then (if bt441.1<(bt436.1.length:Int) then (some (t431,(bt436.1.set (bt441.1:Int).toNat (⟨(jb bt436.1 bt441.1).f0,bt457.1,(jb bt436.1 bt441.1).f2,(jb bt436.1 bt441.1).f3,(jb bt436.1 bt441.1).f4⟩:S54)),bt457.2)) else (none)) else (none))) else (if bt443.1=3 then ((jw.f k s0_0 bt443.2 (([bt441.1,24,0]:List Int))).bind fun bt463=>(if 0≤bt441.1 then (if bt441.1<(bt436.1.length:Int) then (some (t431,(bt436.1.set (bt441.1:Int).toNat (⟨(jb bt436.1 bt441.1).f0,(jb bt436.1 bt441.1).f1,bt463.1,(jb bt436.1 bt441.1).f3,(jb bt436.1 bt441.1).f4⟩:S54)),bt463.2)) else (none)) else (none))) else (some (t431,bt436.1,bt443.2)))))))) else (some (t431,bt436.1,bt436.2))))=some (r1,r2,r3):=H
 have A2:=am A20
 clear A20
 replace H:=bzS H
 obtain ⟨⟨t436,t439⟩,A30,H⟩:=H
 replace H:(if (t436.length:Int) > 0 then ((jl.f k s0_0 t439 (t436.length:Int)).bind fun bt441=>((jl.f k s0_0 bt441.2 24).bind fun bt443=>(if bt443.1=0 then ((jw.f k s0_0 bt443.2 (([bt441.1,9,(-2)]:List Int))).bind fun bt448=>(if 0≤bt441.1 then (if bt441.1<(t436.length:Int) then (some (t431,(t436.set (bt441.1:Int).toNat (⟨(jb t436 bt441.1).f0,(jb t436 bt441.1).f1,(jb t436 bt441.1).f2,bt448.1,(jb t436 bt441.1).f4⟩:S54)),bt448.2)) else (none)) else (none))) else (if bt443.1=1 then ((jeb.f k s0_0 bt443.2 t431).bind fun bt451=>(if 0≤bt441.1 then (if bt441.1<(t436.length:Int) then (some (t431,(t436.set (bt441.1:Int).toNat (⟨bt451.1,(jb t436 bt441.1).f1,(jb t436 bt441.1).f2,(jb t436 bt441.1).f3,(jb t436 bt441.1).f4⟩:S54)),bt451.2)) else (none)) else (none))) else (if bt443.1=2 then ((jw.f k s0_0 bt443.2 (([(-1),100]:List Int))).bind fun bt457=>(if 0≤bt441.1 then (if bt441.1<(t436.length:Int) then (some (t431,(t436.set (bt441.1:Int).toNat (⟨(jb t436 bt441.1).f0,bt457.1,(jb t436 bt441.1).f2,(jb t436 bt441.1).f3,(jb t436 bt441.1).f4⟩:S54)),bt457.2)) else (none)) else (none))) else (if bt443.1=3 then ((jw.f k s0_0 bt443.2 (([bt441.1,24,0]:List Int))).bind fun bt463=>(if 0≤bt441.1 then (if bt441.1<(t436.length:Int) then (some (t431,(t436.set (bt441.1:Int).toNat (⟨(jb t436 bt441.1).f0,(jb t436 bt441.1).f1,bt463.1,(jb t436 bt441.1).f3,(jb t436 bt441.1).f4⟩:S54)),bt463.2)) else (none)) else (none))) else (some (t431,t436,bt443.2)))))))) else (some (t431,t436,t439)))=some (r1,r2,r3):=H
 have A3:=am A30
 clear A30
 by_cases c4:(t436.length:Int) > 0
 ·rw [if_pos c4] at H
  have c4b0:decide (0<(t436.length:Int))=true:=dzT c4
  have c4b1:decide (0<t436.length)=true:=dzT (by omega)
  clear c4
  replace H:=bzS H
  obtain ⟨⟨t441,t442⟩,A50,H⟩:=H
  replace H:((jl.f k s0_0 t442 24).bind fun bt443=>(if bt443.1=0 then ((jw.f k s0_0 bt443.2 (([t441,9,(-2)]:List Int))).bind fun bt448=>(if 0≤t441 then (if t441<(t436.length:Int) then (some (t431,(t436.set (t441:Int).toNat (⟨(jb t436 t441).f0,(jb t436 t441).f1,(jb t436 t441).f2,bt448.1,(jb t436 t441).f4⟩:S54)),bt448.2)) else (none)) else (none))) else (if bt443.1=1 then ((jeb.f k s0_0 bt443.2 t431).bind fun bt451=>(if 0≤t441 then (if t441<(t436.length:Int) then (some (t431,(t436.set (t441:Int).toNat (⟨bt451.1,(jb t436 t441).f1,(jb t436 t441).f2,(jb t436 t441).f3,(jb t436 t441).f4⟩:S54)),bt451.2)) else (none)) else (none))) else (if bt443.1=2 then ((jw.f k s0_0 bt443.2 (([(-1),100]:List Int))).bind fun bt457=>(if 0≤t441 then (if t441<(t436.length:Int) then (some (t431,(t436.set (t441:Int).toNat (⟨(jb t436 t441).f0,bt457.1,(jb t436 t441).f2,(jb t436 t441).f3,(jb t436 t441).f4⟩:S54)),bt457.2)) else (none)) else (none))) else (if bt443.1=3 then ((jw.f k s0_0 bt443.2 (([t441,24,0]:List Int))).bind fun bt463=>(if 0≤t441 then (if t441<(t436.length:Int) then (some (t431,(t436.set (t441:Int).toNat (⟨(jb t436 t441).f0,(jb t436 t441).f1,bt463.1,(jb t436 t441).f3,(jb t436 t441).f4⟩:S54)),bt463.2)) else (none)) else (none))) else (some (t431,t436,bt443.2)))))))=some (r1,r2,r3):=H
  have A5:=am A50
  clear A50
  replace H:=bzS H
  obtain ⟨⟨t443,t444⟩,A60,H⟩:=H
  replace H:(if t443=0 then ((jw.f k s0_0 t444 (([t441,9,(-2)]:List Int))).bind fun bt448=>(if 0≤t441 then (if t441<(t436.length:Int) then (some (t431,(t436.set (t441:Int).toNat (⟨(jb t436 t441).f0,(jb t436 t441).f1,(jb t436 t441).f2,bt448.1,(jb t436 t441).f4⟩:S54)),bt448.2)) else (none)) else (none))) else (if t443=1 then ((jeb.f k s0_0 t444 t431).bind fun bt451=>(if 0≤t441 then (if t441<(t436.length:Int) then (some (t431,(t436.set (t441:Int).toNat (⟨bt451.1,(jb t436 t441).f1,(jb t436 t441).f2,(jb t436 t441).f3,(jb t436 t441).f4⟩:S54)),bt451.2)) else (none)) else (none))) else (if t443=2 then ((jw.f k s0_0 t444 (([(-1),100]:List Int))).bind fun bt457=>(if 0≤t441 then (if t441<(t436.length:Int) then (some (t431,(t436.set (t441:Int).toNat (⟨(jb t436 t441).f0,bt457.1,(jb t436 t441).f2,(jb t436 t441).f3,(jb t436 t441).f4⟩:S54)),bt457.2)) else (none)) else (none))) else (if t443=3 then ((jw.f k s0_0 t444 (([t441,24,0]:List Int))).bind fun bt463=>(if 0≤t441 then (if t441<(t436.length:Int) then (some (t431,(t436.set (t441:Int).toNat (⟨(jb t436 t441).f0,(jb t436 t441).f1,bt463.1,(jb t436 t441).f3,(jb t436 t441).f4⟩:S54)),bt463.2)) else (none)) else (none))) else (some (t431,t436,t444))))))=some (r1,r2,r3):=H
  have A6:=am A60
  clear A60
  by_cases c7:t443=0
  ·rw [if_pos c7] at H
   have c7b0:(t443 == 0)=true:=beq_iff_eq.mpr c7
   have c7b1:(t443 != 0)=false:=bne_eq_false_iff_eq.mpr c7
   clear c7
   obtain ⟨y445,hy445⟩:∃ y_:List Int,y_=(([t441,9,(-2)]:List Int)):=⟨_,rfl⟩
   replace H:((jw.f k s0_0 t444 y445).bind fun bt448=>(if 0≤t441 then (if t441<(t436.length:Int) then (some (t431,(t436.set (t441:Int).toNat (⟨(jb t436 t441).f0,(jb t436 t441).f1,(jb t436 t441).f2,bt448.1,(jb t436 t441).f4⟩:S54)),bt448.2)) else (none)) else (none)))=some (r1,r2,r3):=by first |(rw [hy445];with_reducible exact H) |(have H2_:=(Option.bind_some _ _).symm.trans H;rw [hy445];with_reducible exact H2_) |(have H2_:=(Option.bind_some _ _).symm.trans H;with_reducible exact H2_) | with_reducible exact H |(rw [hy445];exact H) | exact H
   have Ny445:=am hy445
   clear hy445
   replace H:=bzS H
   obtain ⟨⟨t448,t449⟩,A80,H⟩:=H
   replace H:(if 0≤t441 then (if t441<(t436.length:Int) then (some (t431,(t436.set (t441:Int).toNat (⟨(jb t436 t441).f0,(jb t436 t441).f1,(jb t436 t441).f2,t448,(jb t436 t441).f4⟩:S54)),t449)) else (none)) else (none))=some (r1,r2,r3):=H
   have A8:=am A80
   clear A80
   by_cases c9:0≤t441
   ·rw [if_pos c9] at H
    have c9b0:decide (0≤t441)=true:=dzT c9
    clear c9
    by_cases c10:t441<(t436.length:Int)
    ·rw [if_pos c10] at H
     have c10b0:decide (t441<(t436.length:Int))=true:=dzT c10
     clear c10
     obtain ⟨y450,hy450⟩:∃ y_:List (S54),y_=(t436.set (t441:Int).toNat (⟨(jb t436 t441).f0,(jb t436 t441).f1,(jb t436 t441).f2,t448,(jb t436 t441).f4⟩:S54)):=⟨_,rfl⟩
     replace H:(some (t431,y450,t449))=some (r1,r2,r3):=by first |(rw [hy450];with_reducible exact H) |(have H2_:=(Option.bind_some _ _).symm.trans H;rw [hy450];with_reducible exact H2_) |(have H2_:=(Option.bind_some _ _).symm.trans H;with_reducible exact H2_) | with_reducible exact H |(rw [hy450];exact H) | exact H
     have Ny450:=am hy450
     clear hy450
     simp only [Option.some.injEq,Prod.mk.injEq] at H
     obtain ⟨rfl,rfl,rfl⟩:=H
     go_enter Try.func61,Try.ntmps61
     try go_wp2_with (first |((with_reducible refine jG (N:=2) rfl ?_);refine bE (N:=2) (cs:=#[.slice none 0 0]) (t:=37) ?_;intro gb429 hg w12 hbox hb;have BK429:=am (hbox);have GW429:=am ((Y8:w.heap.size≤gb429));have GE429:=am ((Nat.le_trans HW0.out (Y8:w.heap.size≤gb429):w0.heap.size≤gb429));have NB0_429:=am ((Y25:g≠gb429));have NB429_0:=am ((Y26:gb429≠g));replace HK:=am (jd.trans (Y14) (jd.of_below hb g none) (.inl rfl));replace HB:=am (jf (Y15) hb);replace HI0:=am (ja.below (Y13) hb);clear hb hbox hg) |((with_reducible refine jG (N:=3) rfl ?_);refine bE (N:=3) (cs:=#[.slice none 0 0]) (t:=32) ?_;intro gb430 hg w13 hbox hb;have BK430:=am (hbox);have GW430:=am ((Y32:w.heap.size≤gb430));have GE430:=am ((Nat.le_trans HW0.out (Y32:w.heap.size≤gb430):w0.heap.size≤gb430));have NB429_430:=am ((Y21:gb429≠gb430));have NB430_429:=am ((Y22:gb430≠gb429));have NB0_430:=am ((Y62:g≠gb430));have NB430_0:=am ((Y63:gb430≠g));replace BK429:=am (jc (g:=gb429) (o:=.cells #[.slice none 0 0] 37 (0,0)) (kq BK429.out) hb);replace HK:=am (jd.trans (Y64) (jd.of_below hb g none) (.inl rfl));replace HB:=am (jf (Y65) hb);replace HI0:=am (ja.below (Y66) hb);clear hb hbox hg) |((with_reducible refine jA (f:=87) rfl ?_);refine gL (some 8) Try.func87 #[.pointer (some ⟨g,0,none⟩)] ?_;(with_reducible refine (jba.calls k g s0_0 s0_1 t431 t434 w0 _ ?side1 ?side2 A2.out).mono ?_);(case side1=>exact Y33);(case side2=>exact Y34);rintro e w14 ⟨v432,rfl,ho0,hi,hb,hk⟩;refine ⟨_,rfl,?_⟩;have HO433:=am (Kd.jV ho0 (jda (w:=w) (g:=g) (row:=none) (Y23)));replace BK429:=am (jd.blk hk (g':=gb429) (o:=.cells #[.slice none 0 0] 37 (0,0)) (kq BK429.out) NB429_0.out (by simp));replace BK430:=am (jd.blk hk (g':=gb430) (o:=.cells #[.slice none 0 0] 32 (0,0)) (kq BK430.out) NB430_0.out (by simp));replace HK:=am (jd.trans (Y23) hk (.inl rfl));replace HB:=am (hb);replace HI0:=am (hi);(try clear hb);(try clear hb2);(try clear hk);(try clear hi);(try clear ho0)) |((with_reducible refine jG (N:=4) rfl ?_);refine bE (N:=4) (cs:=#[.slice none 0 0]) (t:=37) ?_;intro gb435 hg w15 hbox hb;have BK435:=am (hbox);have GW435:=am ((Y35:w.heap.size≤gb435));have GE435:=am ((Nat.le_trans HW0.out (Y35:w.heap.size≤gb435):w0.heap.size≤gb435));have NB429_435:=am ((Y21:gb429≠gb435));have NB435_429:=am ((Y22:gb435≠gb429));have NB430_435:=am ((Y36:gb430≠gb435));have NB435_430:=am ((Y37:gb435≠gb430));have NB0_435:=am ((Y67:g≠gb435));have NB435_0:=am ((Y68:gb435≠g));replace HO433:=am (Kd.jO (rq HO433.out) hb);replace BK429:=am (jc (g:=gb429) (o:=.cells #[.slice none 0 0] 37 (0,0)) (kq BK429.out) hb);replace BK430:=am (jc (g:=gb430) (o:=.cells #[.slice none 0 0] 32 (0,0)) (kq BK430.out) hb);replace HK:=am (jd.trans (Y23) (jd.of_below hb g none) (.inl rfl));replace HB:=am (jf (Y34) hb);replace HI0:=am (ja.below (Y33) hb);clear hb hbox hg;obtain ⟨Ao16,co16,eo16⟩:=Kd.jN HO433.out;subst eo16;have hnb17:=NB435_429.out;have hnc17:=NB429_435.out;have hnb18:=NB435_430.out;have hnc18:=NB430_435.out;have hnb19:=NB435_0.out;have hnc19:=NB0_435.out;have hcz20_0:=bc0 BK435.out;have hfz20_0:=je BK435.out 0) |((with_reducible refine jA (f:=62) rfl ?_);refine gL (some 11) Try.func62 #[.pointer (some ⟨g,0,none⟩), .agg #[.slice Ao16 t431.length co16]] ?_;(with_reducible refine (jv.calls k g s0_0 t434 _ _ t431 t436 t439 w0 _ ?side1 ?side2 ?side3 ?side4 A3.out).mono ?_);(case side1=>exact Y17);(case side2=>exact Y38);(case side3=>exact Kd.jFb (ja.apart (show ja w0 _ g s0_0 t434 from Y17) (Y148) (by decide)) (fun _ h_=>h_.2));(case side4=>exact (Kd.jm HO433.out).2.1);rintro e w21 ⟨v437,rfl,ho0,hi,hb,hk⟩;refine ⟨_,rfl,?_⟩;have HO438:=am (Kd.jV ho0 (jda (w:=w) (g:=g) (row:=none) (Y24)));replace BK429:=am (jd.blk hk (g':=gb429) (o:=.cells #[.slice none 0 0] 37 (0,0)) (Y69) NB429_0.out (by simp));replace BK430:=am (jd.blk hk (g':=gb430) (o:=.cells #[.slice none 0 0] 32 (0,0)) (Y70) NB430_0.out (by simp));replace HO433:=am (Kd.jH (Kd.joa (ja.apart (show ja w0 _ g s0_0 t434 from Y17) (Y148) (by decide)) hk (fun _ h=>h.2)) (fun _ h=>h.1));replace BK435:=am (jd.blk hk (g':=gb435) (o:=.cells #[.slice Ao16 t431.length co16] 37 (0,0)) (Y71) NB435_0.out (by simp));replace HK:=am (jd.trans (Y24) hk (.inl rfl));replace HB:=am (hb);replace HI0:=am (hi);(try clear hb);(try clear hb2);(try clear hk);(try clear hi);(try clear ho0)) |((with_reducible refine jG (N:=5) rfl ?_);refine bE (N:=5) (cs:=#[.slice none 0 0]) (t:=32) ?_;intro gb440 hg w22 hbox hb;have BK440:=am (hbox);have GW440:=am ((Y39:w.heap.size≤gb440));have GE440:=am ((Nat.le_trans HW0.out (Y39:w.heap.size≤gb440):w0.heap.size≤gb440));have NB429_440:=am ((Y21:gb429≠gb440));have NB440_429:=am ((Y22:gb440≠gb429));have NB430_440:=am ((Y36:gb430≠gb440));have NB440_430:=am ((Y37:gb440≠gb430));have NB435_440:=am ((by rw [hg];exact Nat.ne_of_lt (jha (g:=gb435) (o:=.cells #[.slice Ao16 t431.length co16] 37 (0,0)) (kq BK435.out)):gb435≠gb440));have NB440_435:=am ((by rw [hg];exact Nat.ne_of_gt (jha (g:=gb435) (o:=.cells #[.slice Ao16 t431.length co16] 37 (0,0)) (kq BK435.out)):gb440≠gb435));have NB0_440:=am ((Y72:g≠gb440));have NB440_0:=am ((Y73:gb440≠g));replace HO433:=am (Kd.jO (rq HO433.out) hb);replace HO438:=am (Kd.jO (rq HO438.out) hb);replace BK429:=am (jc (g:=gb429) (o:=.cells #[.slice none 0 0] 37 (0,0)) (kq BK429.out) hb);replace BK430:=am (jc (g:=gb430) (o:=.cells #[.slice none 0 0] 32 (0,0)) (kq BK430.out) hb);replace BK435:=am (jc (g:=gb435) (o:=.cells #[.slice Ao16 t431.length co16] 37 (0,0)) (kq BK435.out) hb);replace HK:=am (jd.trans (Y24) (jd.of_below hb g none) (.inl rfl));replace HB:=am (jf (Y38) hb);replace HI0:=am (ja.below (Y17) hb);clear hb hbox hg;obtain ⟨Ao23,co23,eo23⟩:=Kd.jN HO438.out;subst eo23;have hnb24:=NB440_429.out;have hnc24:=NB429_440.out;have hnb25:=NB440_430.out;have hnc25:=NB430_440.out;have hnb26:=NB440_435.out;have hnc26:=NB435_440.out;have hnb27:=NB440_0.out;have hnc27:=NB0_440.out;have hcz28_0:=bc0 BK440.out;have hfz28_0:=je BK440.out 0) |((with_reducible refine jA (f:=88) rfl ?_);refine gL (some 20) Try.func88 #[.pointer (some ⟨g,0,none⟩), .int .i64 (t436.length:Int)] ?_;(with_reducible refine (jl.calls k g s0_0 t439 (t436.length:Int) t441 t442 w0 _ ?side1 ?side2 A5.out).mono ?_);(case side1=>exact Y1);(case side2=>exact Y18);rintro e w29 ⟨rfl,hi,hb,hk⟩;refine ⟨_,rfl,?_⟩;replace BK429:=am (jd.blk hk (g':=gb429) (o:=.cells #[.slice none 0 0] 37 (0,0)) (Y87) NB429_0.out (by simp));replace BK430:=am (jd.blk hk (g':=gb430) (o:=.cells #[.slice none 0 0] 32 (0,0)) (Y88) NB430_0.out (by simp));replace HO433:=am (Kd.jH (Kd.joa (ja.apart (show ja w0 _ g s0_0 t439 from Y1) (by (with_reducible repeat (first | apply Kd.jW | apply Kd.jY | apply Kd.jU));exact (Kd.jH (Kd.jya (p:=⟨gb440,0,none⟩) (Kd.jR HO433.out BK440.out (by decide)) (fun _ hk=>hk.2) (.slice Ao23 t436.length co23)) (fun _ h_=>h_.1))) (by decide)) hk (fun _ h=>h.2)) (fun _ h=>h.1));replace BK435:=am (jd.blk hk (g':=gb435) (o:=.cells #[.slice Ao16 t431.length co16] 37 (0,0)) (Y89) NB435_0.out (by simp));replace HO438:=am (Kd.jH (Kd.joa (ja.apart (show ja w0 _ g s0_0 t439 from Y1) (by (with_reducible repeat (first | apply Kd.jW | apply Kd.jY | apply Kd.jU));exact (Kd.jH (Kd.jya (p:=⟨gb440,0,none⟩) (Kd.jR HO438.out BK440.out (by decide)) (fun _ hk=>hk.2) (.slice Ao23 t436.length co23)) (fun _ h_=>h_.1))) (by decide)) hk (fun _ h=>h.2)) (fun _ h=>h.1));replace BK440:=am (jd.blk hk (g':=gb440) (o:=.cells #[.slice Ao23 t436.length co23] 32 (0,0)) (Y90) NB440_0.out (by simp));replace HK:=am (jd.trans (Y11) hk (.inl rfl));replace HB:=am (hb);replace HI0:=am (hi);(try clear hb);(try clear hb2);(try clear hk);(try clear hi)) |((with_reducible refine jA (f:=88) rfl ?_);refine gL (some 22) Try.func88 #[.pointer (some ⟨g,0,none⟩), .int .i64 24] ?_;(with_reducible refine (jl.calls k g s0_0 t442 24 t443 t444 w0 _ ?side1 ?side2 A6.out).mono ?_);(case side1=>exact Y1);(case side2=>exact Y18);rintro e w30 ⟨rfl,hi,hb,hk⟩;refine ⟨_,rfl,?_⟩;replace BK429:=am (jd.blk hk (g':=gb429) (o:=.cells #[.slice none 0 0] 37 (0,0)) (kq BK429.out) NB429_0.out (by simp));replace BK430:=am (jd.blk hk (g':=gb430) (o:=.cells #[.slice none 0 0] 32 (0,0)) (kq BK430.out) NB430_0.out (by simp));replace HO433:=am (Kd.jH (Kd.joa (ja.apart (show ja w0 _ g s0_0 t442 from Y1) (rq HO433.out) (by decide)) hk (fun _ h=>h.2)) (fun _ h=>h.1));replace BK435:=am (jd.blk hk (g':=gb435) (o:=.cells #[.slice Ao16 t431.length co16] 37 (0,0)) (kq BK435.out) NB435_0.out (by simp));replace HO438:=am (Kd.jH (Kd.joa (ja.apart (show ja w0 _ g s0_0 t442 from Y1) (rq HO438.out) (by decide)) hk (fun _ h=>h.2)) (fun _ h=>h.1));replace BK440:=am (jd.blk hk (g':=gb440) (o:=.cells #[.slice Ao23 t436.length co23] 32 (0,0)) (kq BK440.out) NB440_0.out (by simp));replace HK:=am (jd.trans (Y11) hk (.inl rfl));replace HB:=am (hb);replace HI0:=am (hi);(try clear hb);(try clear hb2);(try clear hk);(try clear hi)))
     replace HO433:=am (Kd.jU HO433.out)
     replace HO438:=am (Kd.jU HO438.out)
     replace BK429:=am (jg BK429.out)
     replace BK430:=am (jg BK430.out)
     replace BK435:=am (jg BK435.out)
     replace BK440:=am (jg BK440.out)
     replace HI0:=am (ja.drew HI0.out)
     replace HK:=am (jZ HK.out)
     replace HB:=am (jy HB.out)
     refine jLb (n:=10) (S:=fun w'=>w'.cell? ⟨gb440,0,none⟩=some (.slice Ao23 t436.length co23)) (ds:=[9]) #[false,false,false,false,false,false,false,false,false,false] (by kernel_rfl) rfl rfl ((jI BK440.out 0).trans rfl) (fun hHeld=>?_);refine jAb jL.tab7 jL.bits7 (fun HT_ HW_=>?_)
     generalize w30.drew=w31 at HO433 HO438 BK429 BK430 BK435 BK440 HI0 HK HB hHeld ⊢
     refine pq (i:=0) (N:=some 25) #[true,false,false,false,false,false,false,false,false,false] ?_
     refine pq (i:=2) (N:=some 27) #[true,false,true,false,false,false,false,false,false,false] ?_
     refine pq (i:=3) (N:=some 28) #[true,false,true,true,false,false,false,false,false,false] ?_
     refine pq (i:=4) (N:=some 29) #[true,false,true,true,true,false,false,false,false,false] ?_
     refine jBb (i:=1) (N:=some 26) (v:=?_) (a':=?_) #[true,true,true,true,true,false,false,false,false,false] rfl rfl (jgb HT_.out HW_.out (by kernel_rfl)) (fun _ _ _ h=>h) (Or.inl ⟨by rfl,?_⟩) hHeld ?_ ?_
     rotate_left
     ·intro w' s0
      go_simp
      with_reducible rfl
     rotate_left
     ·exact sa
     refine one_ (i:=5) (N:=some 30) #[true,true,true,true,true,true,false,false,false,false] rfl rfl (jcb HT_.out (by kernel_rfl)) (by decide) (fun K hK=>?_)
     refine Kd.jEb (Kd.int .i64) _ 3 ?hg (N:=30) ?hd (xs:=([t441,9,(-2)]:List Int)) (inner:=[.int .i64 t441, .int .i64 9, .int .i64 (-2)]) (ok:=fun _=>True) (okp:=fun _=>True) ?hr ?hp (fun _ hk=>hk) trivial (Below.refl _ _) (Nat.le_refl _) (by simp) ?_;(case hd=>rfl);(case hg=>rfl);(case hr=>exact Y3);(case hp=>exact (Reps.one (show Kd.M (Kd.int .i64) _ _ _ t441 [.int .i64 t441] from rfl) (Reps.one (show Kd.M (Kd.int .i64) _ _ _ 9 [.int .i64 9] from rfl) (Reps.one (show Kd.M (Kd.int .i64) _ _ _ (-2) [.int .i64 (-2)] from rfl) (Reps.none _ _)))))
     intro v446 w32 ho33 hb hg_ hnew_
     clear hg_ hnew_
     (first | rw [← Ny445.out] at ho33 |(simp only [Int.reduceToNat] at ho33;rw [← Ny445.out] at ho33))
     have HO447:=am (Kd.jV ho33 (jda (w:=w) (g:=g) (row:=none) (Y11)))
     replace HO433:=am (Kd.jO (rq HO433.out) hb)
     replace HO438:=am (Kd.jO (rq HO438.out) hb)
     replace BK429:=am (jc (g:=gb429) (o:=.cells #[.slice none 0 0] 37 (0,0)) (kq BK429.out) hb)
     replace BK430:=am (jc (g:=gb430) (o:=.cells #[.slice none 0 0] 32 (0,0)) (kq BK430.out) hb)
     replace BK435:=am (jc (g:=gb435) (o:=.cells #[.slice Ao16 t431.length co16] 37 (0,0)) (kq BK435.out) hb)
     replace BK440:=am (jc (g:=gb440) (o:=.cells #[.slice Ao23 t436.length co23] 32 (0,0)) (kq BK440.out) hb)
     replace HK:=am (jd.trans (Y11) (jd.of_below hb g none) (.inl rfl))
     replace HB:=am (jf (Y18) hb)
     replace HI0:=am (ja.below (Y1) hb)
     clear hb ho33
     obtain ⟨Ao34,co34,eo34⟩:=Kd.jN HO447.out
     (first | subst eo34 |(injection eo34 with f1_ f2_ f3_;have f4_:=f1_.symm;have f5_:=f3_.symm;clear f1_ f2_ f3_;subst f4_;subst f5_))
     refine hK.out _ _ ((jI BK440.out 0).trans rfl) (fun hHeld=>?_)
     clear hK K
     refine jJb (a':=?_) ?_ ?_
     rotate_left
     ·show Act.put _ (some 30) _=_
      simp only [Act.put,List.setIfInBounds_toArray,List.set_cons_zero,List.set_cons_succ,jqb,jwb]
      rfl
     refine one_ (i:=6) (N:=some 31) #[true,true,true,true,true,true,true,false,false,false] rfl rfl (jcb HT_.out (by kernel_rfl)) (by decide) (fun K hK=>?_)
     refine goes_ Try.func89 (by kernel_rfl) rfl #[.pointer (some ⟨g,0,none⟩), .slice Ao34 y445.length co34] (by rfl) rfl rfl (aq) ?_
     with_reducible refine (jw.calls k g s0_0 t444 _ _ y445 t448 t449 w0 _ ?side1 ?side2 ?side3 ?side4 ?side5 A8.out).mono ?_
     (case side1=>exact Y1)
     (case side2=>exact Y18)
     (case side3=>exact cq (Kd.jm HO447.out).2.2)
     (case side4=>exact (Kd.jm HO447.out).2.1)
     (case side5=>exact jsb (ja.own_ne HI0.out HO447.out (by decide)))
     rintro e w35 ⟨rfl,hi,hb,hk⟩
     refine ⟨_,rfl,?_⟩
     replace BK429:=am (jd.blk hk (g':=gb429) (o:=.cells #[.slice none 0 0] 37 (0,0)) (kq BK429.out) NB429_0.out (by simp))
     replace BK430:=am (jd.blk hk (g':=gb430) (o:=.cells #[.slice none 0 0] 32 (0,0)) (kq BK430.out) NB430_0.out (by simp))
     replace HO433:=am (Kd.jH (Kd.joa (ja.apart (show ja w0 _ g s0_0 t444 from Y1) (rq HO433.out) (by decide)) hk (fun _ h=>h.2)) (fun _ h=>h.1))
     replace BK435:=am (jd.blk hk (g':=gb435) (o:=.cells #[.slice Ao16 t431.length co16] 37 (0,0)) (kq BK435.out) NB435_0.out (by simp))
     replace HO438:=am (Kd.jH (Kd.joa (ja.apart (show ja w0 _ g s0_0 t444 from Y1) (rq HO438.out) (by decide)) hk (fun _ h=>h.2)) (fun _ h=>h.1))
     replace BK440:=am (jd.blk hk (g':=gb440) (o:=.cells #[.slice Ao23 t436.length co23] 32 (0,0)) (kq BK440.out) NB440_0.out (by simp))
     replace HO447:=am (Kd.jH (Kd.joa (ja.apart (show ja w0 _ g s0_0 t444 from Y1) (rq HO447.out) (by decide)) hk (fun _ h=>h.2)) (fun _ h=>h.1))
     replace HK:=am (jd.trans (Y11) hk (.inl rfl))
     replace HB:=am (hb)
     replace HI0:=am (hi)
     (try clear hb)
     (try clear hb2)
     (try clear hk)
     (try clear hi)
     have p11:0≤(t441:Int):=ozD (uq)
     have q11:(t441:Int)<((t436.length:Int):Int):=ozD (uq)
     obtain ⟨go11,co11,eo11,gb11,gl11,cl11,HG11⟩:=Kd.R_form HO438.out (by omega)
     (first | cases eo11 |(injection eo11 with ea_ en_ ec_;(first | subst ea_ |(injection ea_ with ea_;subst ea_));subst ec_;clear en_))
     have GB11:=am gb11
     have GG11:=am HG11
     clear gb11 gl11 HG11
     obtain ⟨ce11,hcl11,hM11,hcc11,hfr11⟩:=Kd.jub HO438.out z54 (t441:Int) p11 q11
     obtain rfl:=jUa hM11
     have hx11_0:World.cell? _ ⟨go11,(t441:Int).toNat * 5,none⟩=some (.int .i64 ((jb t436 t441).f0)):=hcc11 0 _ rfl
     have hx11_1:World.cell? _ ⟨go11,(t441:Int).toNat * 5+1,none⟩=some (.int .i64 ((jb t436 t441).f1)):=hcc11 1 _ rfl
     have hx11_2:World.cell? _ ⟨go11,(t441:Int).toNat * 5+2,none⟩=some (.int .i64 ((jb t436 t441).f2)):=hcc11 2 _ rfl
     have hx11_3:World.cell? _ ⟨go11,(t441:Int).toNat * 5+3,none⟩=some (.int .i64 ((jb t436 t441).f3)):=hcc11 3 _ rfl
     have hx11_4:World.cell? _ ⟨go11,(t441:Int).toNat * 5+4,none⟩=some (.bool ((jb t436 t441).f4)):=hcc11 4 _ rfl
     have hf11_0:World.frozen? _ ⟨go11,(t441:Int).toNat * 5,none⟩=false:=hfr11 0
     have hf11_1:World.frozen? _ ⟨go11,(t441:Int).toNat * 5+1,none⟩=false:=hfr11 1
     have hf11_2:World.frozen? _ ⟨go11,(t441:Int).toNat * 5+2,none⟩=false:=hfr11 2
     have hf11_3:World.frozen? _ ⟨go11,(t441:Int).toNat * 5+3,none⟩=false:=hfr11 3
     have hf11_4:World.frozen? _ ⟨go11,(t441:Int).toNat * 5+4,none⟩=false:=hfr11 4
     clear hcl11 hcc11 hfr11 hM11
     replace p11:=ezT p11
     replace q11:=ezT q11
     have HN0_go11:=am (show g≠go11 from by have h_:=ja.own_ne HI0.out HO438.out (by decide);intro e_;exact h_ (by rw [e_];rfl))
     obtain ⟨ce36,hcl36,hM36,hcc36,hfr36⟩:=Kd.jub HO438.out z54 (t441:Int) (ozD (uq)) (by have h_:(t441:Int)<((t436.length:Int):Int):=ozD (uq);first | exact h_ |(have e_:=(Kd.jm HO438.out).1;omega) | simpa using h_)
     obtain rfl:=jUa hM36
     have HP36:=(Kd.R_seg HO438.out (t441:Int) (ozD (uq)) (by have h_:(t441:Int)<((t436.length:Int):Int):=ozD (uq);first | exact h_ |(have e_:=(Kd.jm HO438.out).1;omega) | simpa using h_) (seg:=[.int .i64 t448]) (j:=3) hcl36 hcc36 (show 4≤5 from by decide) (x':=(⟨(jb t436 t441).f0,(jb t436 t441).f1,(jb t436 t441).f2,t448,(jb t436 t441).f4⟩:S54)) (jSb _ _ _ (⟨(jb t436 t441).f0,(jb t436 t441).f1,(jb t436 t441).f2,t448,(jb t436 t441).f4⟩:S54) ) (fun _ hk=>hk)).1
     rw [← Ny450.out] at HP36
     have HQ36:=am HP36
     clear hcl36 hcc36 hfr36 hM36 HP36
     refine hK.out _ _ ((jI BK440.out 0).trans rfl) (fun hHeld=>?_)
     clear hK K
     refine jJb (a':=?_) ?_ ?_
     rotate_left
     ·show Act.put _ (some 31) _=_
      simp only [Act.put,List.setIfInBounds_toArray,List.set_cons_zero,List.set_cons_succ,jqb,jwb]
      rfl
     refine pq (i:=7) (N:=some 32) #[true,true,true,true,true,true,true,true,false,false] ?_
     refine pq (i:=8) (N:=some 33) #[true,true,true,true,true,true,true,true,true,false] ?_
     refine last_ (i:=9) (N:=none) #[true,true,true,true,true,true,true,true,true,true] rfl rfl (jcb HT_.out (by kernel_rfl)) (by decide) (fun K hK=>?_)
     refine jRb (w1:=?_) (by rfl) rfl ?_ ?_
     rotate_left
     ·go_simp
      rfl
     refine hK.out _ _ ?_
     clear hK K
     refine done_ (jXb HT_.out (by kernel_rfl)) ?_
     have n0_:jB (Kd.R k94 94 (w35.setCell ⟨go11,(t441:Int).toNat * 5+3,none⟩ (.int .i64 t448)) w.heap.size (fun _=>True) (.slice Ao16 t431.length co16) t431):=⟨by (with_reducible repeat (first | apply Kd.jW | apply Kd.jY | apply Kd.jU));exact Kd.jH (Kd.jya (p:=⟨go11,(t441:Int).toNat * 5+3,none⟩) (Kd.jR HO433.out GG11.out (by decide)) (fun _ hk=>hk.2) (.int .i64 t448)) (fun _ hk=>trivial)⟩
     have n1_:jB (Kd.R k54 54 (w35.setCell ⟨go11,(t441:Int).toNat * 5+3,none⟩ (.int .i64 t448)) w.heap.size (fun _=>True) (.slice (some ⟨go11,0,none⟩) t436.length co23) y450):=⟨rq HQ36.out⟩
     have n2_:jB (Kd.R (Kd.int .i64) 3 (w35.setCell ⟨go11,(t441:Int).toNat * 5+3,none⟩ (.int .i64 t448)) w.heap.size (fun _=>True) (.slice Ao34 y445.length co34) y445):=⟨by (with_reducible repeat (first | apply Kd.jW | apply Kd.jY | apply Kd.jU));exact Kd.jH (Kd.jya (p:=⟨go11,(t441:Int).toNat * 5+3,none⟩) (Kd.jR HO447.out GG11.out (by decide)) (fun _ hk=>hk.2) (.int .i64 t448)) (fun _ hk=>trivial)⟩
     have n3_:jB ((w35.setCell ⟨go11,(t441:Int).toNat * 5+3,none⟩ (.int .i64 t448)).heap[gb429]?=some (.cells #[.slice none 0 0] 37 (0,0))):=⟨by (with_reducible repeat (first | refine jh ?_ _ | refine jg ?_ | refine jk ?_ _));refine jaa ?_ (by have h_:=Kd.R_ne HO438.out BK429.out (by decide);intro e_;exact h_ (by rw [e_];rfl)) _;(with_reducible repeat (first | refine jh ?_ _ | refine jg ?_ | refine jk ?_ _));exact BK429.out⟩
     have n4_:jB ((w35.setCell ⟨go11,(t441:Int).toNat * 5+3,none⟩ (.int .i64 t448)).heap[gb430]?=some (.cells #[.slice none 0 0] 32 (0,0))):=⟨by (with_reducible repeat (first | refine jh ?_ _ | refine jg ?_ | refine jk ?_ _));refine jaa ?_ (by have h_:=Kd.R_ne HO438.out BK430.out (by decide);intro e_;exact h_ (by rw [e_];rfl)) _;(with_reducible repeat (first | refine jh ?_ _ | refine jg ?_ | refine jk ?_ _));exact BK430.out⟩
     have n5_:jB ((w35.setCell ⟨go11,(t441:Int).toNat * 5+3,none⟩ (.int .i64 t448)).heap[gb435]?=some (.cells #[.slice Ao16 t431.length co16] 37 (0,0))):=⟨by (with_reducible repeat (first | refine jh ?_ _ | refine jg ?_ | refine jk ?_ _));refine jaa ?_ (by have h_:=Kd.R_ne HO438.out BK435.out (by decide);intro e_;exact h_ (by rw [e_];rfl)) _;(with_reducible repeat (first | refine jh ?_ _ | refine jg ?_ | refine jk ?_ _));exact BK435.out⟩
     have n6_:jB ((w35.setCell ⟨go11,(t441:Int).toNat * 5+3,none⟩ (.int .i64 t448)).heap[gb440]?=some (.cells #[.slice (some ⟨go11,0,none⟩) t436.length co23] 32 (0,0))):=⟨by (with_reducible repeat (first | refine jh ?_ _ | refine jg ?_ | refine jk ?_ _));refine jaa ?_ (by have h_:=Kd.R_ne HO438.out BK440.out (by decide);intro e_;exact h_ (by rw [e_];rfl)) _;(with_reducible repeat (first | refine jh ?_ _ | refine jg ?_ | refine jk ?_ _));exact BK440.out⟩
     have n7_:jB (ja w0 (w35.setCell ⟨go11,(t441:Int).toNat * 5+3,none⟩ (.int .i64 t448)) g s0_0 t449):=⟨by repeat (first |(with_reducible first | exact HI0.out | apply ja.alloc | apply ja.drewN | apply ja.drew | apply ja.jdb | refine ja.far ?_ HN0_go11.out _ | refine ja.far ?_ NB0_429.out _ | refine ja.far ?_ NB0_430.out _ | refine ja.far ?_ NB0_435.out _ | refine ja.far ?_ NB0_440.out _) | exact HI0.out)⟩
     have n8_:jB (jd w (w35.setCell ⟨go11,(t441:Int).toNat * 5+3,none⟩ (.int .i64 t448)) g none):=⟨by repeat (first |(with_reducible first | exact HK.out | apply jd.set_ | apply jia | apply jZ | apply jja | refine jM ?_ GB11.out _ | refine jM ?_ GW429.out _ | refine jM ?_ GW430.out _ | refine jM ?_ GW435.out _ | refine jM ?_ GW440.out _) | exact HK.out)⟩
     have n9_:jB (Below w0.heap.size w0 (w35.setCell ⟨go11,(t441:Int).toNat * 5+3,none⟩ (.int .i64 t448))):=⟨by repeat (first |(with_reducible first | exact HB.out | apply jC | apply jr | apply jy | refine jq ?_ (Nat.le_trans HL.out GB11.out) | refine jq ?_ (ja.ge HI0.out) | refine jq ?_ GE429.out | refine jq ?_ GE430.out | refine jq ?_ GE435.out | refine jq ?_ GE440.out) | exact HB.out)⟩
     (try clear HO433)
     (try clear HO438)
     (try clear HO447)
     (try clear BK429)
     (try clear BK430)
     (try clear BK435)
     (try clear BK440)
     (try clear HI0)
     (try clear HK)
     (try clear HB)
     generalize (w35.setCell ⟨go11,(t441:Int).toNat * 5+3,none⟩ (.int .i64 t448))=w37 at n0_ n1_ n2_ n3_ n4_ n5_ n6_ n7_ n8_ n9_ ⊢
     have HO433:=n0_
     have HO438:=n1_
     have HO447:=n2_
     have BK429:=n3_
     have BK430:=n4_
     have BK435:=n5_
     have BK440:=n6_
     have HI0:=n7_
     have HK:=n8_
     have HB:=n9_
     clear n0_ n1_ n2_ n3_ n4_ n5_ n6_ n7_ n8_ n9_
     try go_wp2
     replace HO433:=am (Kd.jU HO433.out)
     replace HO438:=am (Kd.jU HO438.out)
     replace HO447:=am (Kd.jU HO447.out)
     replace BK429:=am (jg BK429.out)
     replace BK430:=am (jg BK430.out)
     replace BK435:=am (jg BK435.out)
     replace BK440:=am (jg BK440.out)
     replace HI0:=am (ja.drew HI0.out)
     replace HK:=am (jZ HK.out)
     replace HB:=am (jy HB.out)
     refine jLb (n:=4) (S:=fun w'=>w'.cell? ⟨gb435,0,none⟩=some (.slice Ao16 t431.length co16)∧w'.cell? ⟨gb440,0,none⟩=some (.slice (some ⟨go11,0,none⟩) t436.length co23)) (ds:=[]) #[false,false,false,false] (by kernel_rfl) rfl rfl ⟨(jI BK435.out 0).trans rfl,(jI BK440.out 0).trans rfl⟩ (fun hHeld=>?_)
     generalize w37.drew=w38 at HO433 HO438 HO447 BK429 BK430 BK435 BK440 HI0 HK HB hHeld ⊢
     refine jBb (i:=0) (N:=some 65) (v:=?_) (a':=?_) #[true,false,false,false] rfl rfl (by kernel_rfl) (fun _ _ _ h=>h) (Or.inl ⟨by rfl,?_⟩) hHeld ?_ ?_
     rotate_left
     ·rintro w' ⟨s0,s1⟩
      go_simp
      with_reducible rfl
     rotate_left
     ·exact sa
     refine jBb (i:=1) (N:=some 66) (v:=?_) (a':=?_) #[true,true,false,false] rfl rfl (by kernel_rfl) (fun _ _ _ h=>h) (Or.inl ⟨by rfl,?_⟩) hHeld ?_ ?_
     rotate_left
     ·rintro w' ⟨s0,s1⟩
      go_simp
      with_reducible rfl
     rotate_left
     ·exact sa
     refine one_ (i:=2) (N:=none) #[true,true,true,false] rfl rfl (by kernel_rfl) (by decide) (fun K hK=>?_)
     have hs39:w38.cell? ⟨gb429,0,none⟩=some (.slice none 0 0):=(jI BK429.out 0).trans rfl
     have hfs39:=je BK429.out 0
     have hns39_1:=NB430_429.out
     have hns39_2:=NB435_429.out
     have hns39_3:=NB440_429.out
     have hms39_1:=NB429_430.out
     have hms39_2:=NB429_435.out
     have hms39_3:=NB429_440.out
     refine jRb (w1:=?_) (by rfl) rfl ?_ ?_
     rotate_left
     ·go_simp
      rfl
     refine hK.out _ _ ⟨((cell_far (p:=⟨gb429,_,none⟩) NB435_429.out _).trans (hHeld.1)),((cell_far (p:=⟨gb429,_,none⟩) NB440_429.out _).trans (hHeld.2))⟩ (fun hHeld=>?_)
     clear hK K
     refine one_ (i:=3) (N:=none) #[true,true,true,true] rfl rfl (by kernel_rfl) (by decide) (fun K hK=>?_)
     have hs40:w38.cell? ⟨gb430,0,none⟩=some (.slice none 0 0):=(jI BK430.out 0).trans rfl
     have hfs40:=je BK430.out 0
     have hns40_0:=NB429_430.out
     have hns40_2:=NB435_430.out
     have hns40_3:=NB440_430.out
     have hms40_0:=NB430_429.out
     have hms40_2:=NB430_435.out
     have hms40_3:=NB430_440.out
     refine jRb (w1:=?_) (by rfl) rfl ?_ ?_
     rotate_left
     ·go_simp
      rfl
     refine hK.out _ _ ⟨((cell_far (p:=⟨gb430,_,none⟩) NB435_430.out _).trans (hHeld.1)),((cell_far (p:=⟨gb430,_,none⟩) NB440_430.out _).trans (hHeld.2))⟩ (fun hHeld=>?_)
     clear hK K
     refine done_ (by kernel_rfl) ?_
     try go_wp2
     refine bodyPost_ret (jOb rfl _ _ gb429 gb430 37 32 #[.slice Ao16 t431.length co16] #[.slice (some ⟨go11,0,none⟩) t436.length co23] (0,0) (0,0) _ _ rfl (Y74) Try.underlying37 rfl (by kernel_rfl) rfl (Y75) Try.underlying32 rfl (by kernel_rfl)) rfl ?_
     exact ⟨_,_,Y2,by (with_reducible repeat (first | apply Kd.jW | apply Kd.jY | apply Kd.jU));exact Kd.jH (Kd.jya (p:=⟨gb430,0,none⟩) (Kd.jya (p:=⟨gb429,0,none⟩) (Kd.jR (Kd.jR HO433.out BK429.out (by decide)) BK430.out (by decide)) (fun _ hk=>hk.1.2) (.slice Ao16 t431.length co16)) (fun _ hk=>hk.2) (.slice (some ⟨go11,0,none⟩) t436.length co23)) (fun _ hk=>trivial),by (with_reducible repeat (first | apply Kd.jW | apply Kd.jY | apply Kd.jU));exact Kd.jH (Kd.jya (p:=⟨gb430,0,none⟩) (Kd.jya (p:=⟨gb429,0,none⟩) (Kd.jR (Kd.jR HO438.out BK429.out (by decide)) BK430.out (by decide)) (fun _ hk=>hk.1.2) (.slice Ao16 t431.length co16)) (fun _ hk=>hk.2) (.slice (some ⟨go11,0,none⟩) t436.length co23)) (fun _ hk=>trivial),Y1,Y18,Y11⟩
    ·rw [if_neg c10] at H
     exact absurd H (by simp)
   ·rw [if_neg c9] at H
    exact absurd H (by simp)
  ·rw [if_neg c7] at H
   have c7b0:(t443 == 0)=false:=beq_eq_false_iff_ne.mpr c7
   have c7b1:(t443 != 0)=true:=bne_iff_ne.mpr c7
   by_cases c41:t443=1
   ·rw [if_pos c41] at H
    have c41b0:(t443 == 1)=true:=beq_iff_eq.mpr c41
    have c41b1:(t443 != 1)=false:=bne_eq_false_iff_eq.mpr c41
    clear c41
    replace H:=bzS H
    obtain ⟨⟨t451,t452⟩,A420,H⟩:=H
    replace H:(if 0≤t441 then (if t441<(t436.length:Int) then (some (t431,(t436.set (t441:Int).toNat (⟨t451,(jb t436 t441).f1,(jb t436 t441).f2,(jb t436 t441).f3,(jb t436 t441).f4⟩:S54)),t452)) else (none)) else (none))=some (r1,r2,r3):=H
    have A42:=am A420
    clear A420
    by_cases c43:0≤t441
    ·rw [if_pos c43] at H
     have c43b0:decide (0≤t441)=true:=dzT c43
     clear c43
     by_cases c44:t441<(t436.length:Int)
     ·rw [if_pos c44] at H
      have c44b0:decide (t441<(t436.length:Int))=true:=dzT c44
      clear c44
      obtain ⟨y453,hy453⟩:∃ y_:List (S54),y_=(t436.set (t441:Int).toNat (⟨t451,(jb t436 t441).f1,(jb t436 t441).f2,(jb t436 t441).f3,(jb t436 t441).f4⟩:S54)):=⟨_,rfl⟩
      replace H:(some (t431,y453,t452))=some (r1,r2,r3):=by first |(rw [hy453];with_reducible exact H) |(have H2_:=(Option.bind_some _ _).symm.trans H;rw [hy453];with_reducible exact H2_) |(have H2_:=(Option.bind_some _ _).symm.trans H;with_reducible exact H2_) | with_reducible exact H |(rw [hy453];exact H) | exact H
      have Ny453:=am hy453
      clear hy453
      simp only [Option.some.injEq,Prod.mk.injEq] at H
      obtain ⟨rfl,rfl,rfl⟩:=H
      go_enter Try.func61,Try.ntmps61
      try go_wp2_with (first |((with_reducible refine jG (N:=2) rfl ?_);refine bE (N:=2) (cs:=#[.slice none 0 0]) (t:=37) ?_;intro gb429 hg w46 hbox hb;have BK429:=am (hbox);have GW429:=am ((Y8:w.heap.size≤gb429));have GE429:=am ((Nat.le_trans HW0.out (Y8:w.heap.size≤gb429):w0.heap.size≤gb429));have NB0_429:=am ((Y25:g≠gb429));have NB429_0:=am ((Y26:gb429≠g));replace HK:=am (jd.trans (Y14) (jd.of_below hb g none) (.inl rfl));replace HB:=am (jf (Y15) hb);replace HI0:=am (ja.below (Y13) hb);clear hb hbox hg) |((with_reducible refine jG (N:=3) rfl ?_);refine bE (N:=3) (cs:=#[.slice none 0 0]) (t:=32) ?_;intro gb430 hg w47 hbox hb;have BK430:=am (hbox);have GW430:=am ((Y32:w.heap.size≤gb430));have GE430:=am ((Nat.le_trans HW0.out (Y32:w.heap.size≤gb430):w0.heap.size≤gb430));have NB429_430:=am ((Y21:gb429≠gb430));have NB430_429:=am ((Y22:gb430≠gb429));have NB0_430:=am ((Y62:g≠gb430));have NB430_0:=am ((Y63:gb430≠g));replace BK429:=am (jc (g:=gb429) (o:=.cells #[.slice none 0 0] 37 (0,0)) (kq BK429.out) hb);replace HK:=am (jd.trans (Y64) (jd.of_below hb g none) (.inl rfl));replace HB:=am (jf (Y65) hb);replace HI0:=am (ja.below (Y66) hb);clear hb hbox hg) |((with_reducible refine jA (f:=87) rfl ?_);refine gL (some 8) Try.func87 #[.pointer (some ⟨g,0,none⟩)] ?_;(with_reducible refine (jba.calls k g s0_0 s0_1 t431 t434 w0 _ ?side1 ?side2 A2.out).mono ?_);(case side1=>exact Y33);(case side2=>exact Y34);rintro e w48 ⟨v432,rfl,ho0,hi,hb,hk⟩;refine ⟨_,rfl,?_⟩;have HO433:=am (Kd.jV ho0 (jda (w:=w) (g:=g) (row:=none) (Y23)));replace BK429:=am (jd.blk hk (g':=gb429) (o:=.cells #[.slice none 0 0] 37 (0,0)) (kq BK429.out) NB429_0.out (by simp));replace BK430:=am (jd.blk hk (g':=gb430) (o:=.cells #[.slice none 0 0] 32 (0,0)) (kq BK430.out) NB430_0.out (by simp));replace HK:=am (jd.trans (Y23) hk (.inl rfl));replace HB:=am (hb);replace HI0:=am (hi);(try clear hb);(try clear hb2);(try clear hk);(try clear hi);(try clear ho0)) |((with_reducible refine jG (N:=4) rfl ?_);refine bE (N:=4) (cs:=#[.slice none 0 0]) (t:=37) ?_;intro gb435 hg w49 hbox hb;have BK435:=am (hbox);have GW435:=am ((Y35:w.heap.size≤gb435));have GE435:=am ((Nat.le_trans HW0.out (Y35:w.heap.size≤gb435):w0.heap.size≤gb435));have NB429_435:=am ((Y21:gb429≠gb435));have NB435_429:=am ((Y22:gb435≠gb429));have NB430_435:=am ((Y36:gb430≠gb435));have NB435_430:=am ((Y37:gb435≠gb430));have NB0_435:=am ((Y67:g≠gb435));have NB435_0:=am ((Y68:gb435≠g));replace HO433:=am (Kd.jO (rq HO433.out) hb);replace BK429:=am (jc (g:=gb429) (o:=.cells #[.slice none 0 0] 37 (0,0)) (kq BK429.out) hb);replace BK430:=am (jc (g:=gb430) (o:=.cells #[.slice none 0 0] 32 (0,0)) (kq BK430.out) hb);replace HK:=am (jd.trans (Y23) (jd.of_below hb g none) (.inl rfl));replace HB:=am (jf (Y34) hb);replace HI0:=am (ja.below (Y33) hb);clear hb hbox hg;obtain ⟨Ao50,co50,eo50⟩:=Kd.jN HO433.out;subst eo50;have hnb51:=NB435_429.out;have hnc51:=NB429_435.out;have hnb52:=NB435_430.out;have hnc52:=NB430_435.out;have hnb53:=NB435_0.out;have hnc53:=NB0_435.out;have hcz54_0:=bc0 BK435.out;have hfz54_0:=je BK435.out 0) |((with_reducible refine jA (f:=62) rfl ?_);refine gL (some 11) Try.func62 #[.pointer (some ⟨g,0,none⟩), .agg #[.slice Ao50 t431.length co50]] ?_;(with_reducible refine (jv.calls k g s0_0 t434 _ _ t431 t436 t439 w0 _ ?side1 ?side2 ?side3 ?side4 A3.out).mono ?_);(case side1=>exact Y17);(case side2=>exact Y38);(case side3=>exact Kd.jFb (ja.apart (show ja w0 _ g s0_0 t434 from Y17) (Y149) (by decide)) (fun _ h_=>h_.2));(case side4=>exact (Kd.jm HO433.out).2.1);rintro e w55 ⟨v437,rfl,ho0,hi,hb,hk⟩;refine ⟨_,rfl,?_⟩;have HO438:=am (Kd.jV ho0 (jda (w:=w) (g:=g) (row:=none) (Y24)));replace BK429:=am (jd.blk hk (g':=gb429) (o:=.cells #[.slice none 0 0] 37 (0,0)) (Y69) NB429_0.out (by simp));replace BK430:=am (jd.blk hk (g':=gb430) (o:=.cells #[.slice none 0 0] 32 (0,0)) (Y70) NB430_0.out (by simp));replace HO433:=am (Kd.jH (Kd.joa (ja.apart (show ja w0 _ g s0_0 t434 from Y17) (Y149) (by decide)) hk (fun _ h=>h.2)) (fun _ h=>h.1));replace BK435:=am (jd.blk hk (g':=gb435) (o:=.cells #[.slice Ao50 t431.length co50] 37 (0,0)) (Y71) NB435_0.out (by simp));replace HK:=am (jd.trans (Y24) hk (.inl rfl));replace HB:=am (hb);replace HI0:=am (hi);(try clear hb);(try clear hb2);(try clear hk);(try clear hi);(try clear ho0)) |((with_reducible refine jG (N:=5) rfl ?_);refine bE (N:=5) (cs:=#[.slice none 0 0]) (t:=32) ?_;intro gb440 hg w56 hbox hb;have BK440:=am (hbox);have GW440:=am ((Y39:w.heap.size≤gb440));have GE440:=am ((Nat.le_trans HW0.out (Y39:w.heap.size≤gb440):w0.heap.size≤gb440));have NB429_440:=am ((Y21:gb429≠gb440));have NB440_429:=am ((Y22:gb440≠gb429));have NB430_440:=am ((Y36:gb430≠gb440));have NB440_430:=am ((Y37:gb440≠gb430));have NB435_440:=am ((by rw [hg];exact Nat.ne_of_lt (jha (g:=gb435) (o:=.cells #[.slice Ao50 t431.length co50] 37 (0,0)) (kq BK435.out)):gb435≠gb440));have NB440_435:=am ((by rw [hg];exact Nat.ne_of_gt (jha (g:=gb435) (o:=.cells #[.slice Ao50 t431.length co50] 37 (0,0)) (kq BK435.out)):gb440≠gb435));have NB0_440:=am ((Y72:g≠gb440));have NB440_0:=am ((Y73:gb440≠g));replace HO433:=am (Kd.jO (rq HO433.out) hb);replace HO438:=am (Kd.jO (rq HO438.out) hb);replace BK429:=am (jc (g:=gb429) (o:=.cells #[.slice none 0 0] 37 (0,0)) (kq BK429.out) hb);replace BK430:=am (jc (g:=gb430) (o:=.cells #[.slice none 0 0] 32 (0,0)) (kq BK430.out) hb);replace BK435:=am (jc (g:=gb435) (o:=.cells #[.slice Ao50 t431.length co50] 37 (0,0)) (kq BK435.out) hb);replace HK:=am (jd.trans (Y24) (jd.of_below hb g none) (.inl rfl));replace HB:=am (jf (Y38) hb);replace HI0:=am (ja.below (Y17) hb);clear hb hbox hg;obtain ⟨Ao57,co57,eo57⟩:=Kd.jN HO438.out;subst eo57;have hnb58:=NB440_429.out;have hnc58:=NB429_440.out;have hnb59:=NB440_430.out;have hnc59:=NB430_440.out;have hnb60:=NB440_435.out;have hnc60:=NB435_440.out;have hnb61:=NB440_0.out;have hnc61:=NB0_440.out;have hcz62_0:=bc0 BK440.out;have hfz62_0:=je BK440.out 0) |((with_reducible refine jA (f:=88) rfl ?_);refine gL (some 20) Try.func88 #[.pointer (some ⟨g,0,none⟩), .int .i64 (t436.length:Int)] ?_;(with_reducible refine (jl.calls k g s0_0 t439 (t436.length:Int) t441 t442 w0 _ ?side1 ?side2 A5.out).mono ?_);(case side1=>exact Y1);(case side2=>exact Y18);rintro e w63 ⟨rfl,hi,hb,hk⟩;refine ⟨_,rfl,?_⟩;replace BK429:=am (jd.blk hk (g':=gb429) (o:=.cells #[.slice none 0 0] 37 (0,0)) (Y87) NB429_0.out (by simp));replace BK430:=am (jd.blk hk (g':=gb430) (o:=.cells #[.slice none 0 0] 32 (0,0)) (Y88) NB430_0.out (by simp));replace HO433:=am (Kd.jH (Kd.joa (ja.apart (show ja w0 _ g s0_0 t439 from Y1) (by (with_reducible repeat (first | apply Kd.jW | apply Kd.jY | apply Kd.jU));exact (Kd.jH (Kd.jya (p:=⟨gb440,0,none⟩) (Kd.jR HO433.out BK440.out (by decide)) (fun _ hk=>hk.2) (.slice Ao57 t436.length co57)) (fun _ h_=>h_.1))) (by decide)) hk (fun _ h=>h.2)) (fun _ h=>h.1));replace BK435:=am (jd.blk hk (g':=gb435) (o:=.cells #[.slice Ao50 t431.length co50] 37 (0,0)) (Y89) NB435_0.out (by simp));replace HO438:=am (Kd.jH (Kd.joa (ja.apart (show ja w0 _ g s0_0 t439 from Y1) (by (with_reducible repeat (first | apply Kd.jW | apply Kd.jY | apply Kd.jU));exact (Kd.jH (Kd.jya (p:=⟨gb440,0,none⟩) (Kd.jR HO438.out BK440.out (by decide)) (fun _ hk=>hk.2) (.slice Ao57 t436.length co57)) (fun _ h_=>h_.1))) (by decide)) hk (fun _ h=>h.2)) (fun _ h=>h.1));replace BK440:=am (jd.blk hk (g':=gb440) (o:=.cells #[.slice Ao57 t436.length co57] 32 (0,0)) (Y90) NB440_0.out (by simp));replace HK:=am (jd.trans (Y11) hk (.inl rfl));replace HB:=am (hb);replace HI0:=am (hi);(try clear hb);(try clear hb2);(try clear hk);(try clear hi)) |((with_reducible refine jA (f:=88) rfl ?_);refine gL (some 22) Try.func88 #[.pointer (some ⟨g,0,none⟩), .int .i64 24] ?_;(with_reducible refine (jl.calls k g s0_0 t442 24 t443 t444 w0 _ ?side1 ?side2 A6.out).mono ?_);(case side1=>exact Y1);(case side2=>exact Y18);rintro e w64 ⟨rfl,hi,hb,hk⟩;refine ⟨_,rfl,?_⟩;replace BK429:=am (jd.blk hk (g':=gb429) (o:=.cells #[.slice none 0 0] 37 (0,0)) (kq BK429.out) NB429_0.out (by simp));replace BK430:=am (jd.blk hk (g':=gb430) (o:=.cells #[.slice none 0 0] 32 (0,0)) (kq BK430.out) NB430_0.out (by simp));replace HO433:=am (Kd.jH (Kd.joa (ja.apart (show ja w0 _ g s0_0 t442 from Y1) (rq HO433.out) (by decide)) hk (fun _ h=>h.2)) (fun _ h=>h.1));replace BK435:=am (jd.blk hk (g':=gb435) (o:=.cells #[.slice Ao50 t431.length co50] 37 (0,0)) (kq BK435.out) NB435_0.out (by simp));replace HO438:=am (Kd.jH (Kd.joa (ja.apart (show ja w0 _ g s0_0 t442 from Y1) (rq HO438.out) (by decide)) hk (fun _ h=>h.2)) (fun _ h=>h.1));replace BK440:=am (jd.blk hk (g':=gb440) (o:=.cells #[.slice Ao57 t436.length co57] 32 (0,0)) (kq BK440.out) NB440_0.out (by simp));replace HK:=am (jd.trans (Y11) hk (.inl rfl));replace HB:=am (hb);replace HI0:=am (hi);(try clear hb);(try clear hb2);(try clear hk);(try clear hi)))
      replace HO433:=am (Kd.jU HO433.out)
      replace HO438:=am (Kd.jU HO438.out)
      replace BK429:=am (jg BK429.out)
      replace BK430:=am (jg BK430.out)
      replace BK435:=am (jg BK435.out)
      replace BK440:=am (jg BK440.out)
      replace HI0:=am (ja.drew HI0.out)
      replace HK:=am (jZ HK.out)
      replace HB:=am (jy HB.out)
      refine jLb (n:=9) (S:=fun w'=>w'.cell? ⟨gb440,0,none⟩=some (.slice Ao57 t436.length co57)∧w'.cell? ⟨gb435,0,none⟩=some (.slice Ao50 t431.length co50)) (ds:=[8]) #[false,false,false,false,false,false,false,false,false] (by kernel_rfl) rfl rfl ⟨(jI BK440.out 0).trans rfl,(jI BK435.out 0).trans rfl⟩ (fun hHeld=>?_);refine jAb jL.tab9 jL.bits9 (fun HT_ HW_=>?_)
      generalize w64.drew=w65 at HO433 HO438 BK429 BK430 BK435 BK440 HI0 HK HB hHeld ⊢
      refine pq (i:=0) (N:=some 36) #[true,false,false,false,false,false,false,false,false] ?_
      refine pq (i:=2) (N:=some 38) #[true,false,true,false,false,false,false,false,false] ?_
      refine pq (i:=3) (N:=some 39) #[true,false,true,true,false,false,false,false,false] ?_
      refine jBb (i:=1) (N:=some 37) (v:=?_) (a':=?_) #[true,true,true,true,false,false,false,false,false] rfl rfl (jgb HT_.out HW_.out (by kernel_rfl)) (fun _ _ _ h=>h) (Or.inl ⟨by rfl,?_⟩) hHeld ?_ ?_
      rotate_left
      ·rintro w' ⟨s0,s1⟩
       go_simp
       with_reducible rfl
      rotate_left
      ·exact sa
      refine jBb (i:=4) (N:=some 40) (v:=?_) (a':=?_) #[true,true,true,true,true,false,false,false,false] rfl rfl (jgb HT_.out HW_.out (by kernel_rfl)) (fun _ _ _ h=>h) (Or.inl ⟨by rfl,?_⟩) hHeld ?_ ?_
      rotate_left
      ·rintro w' ⟨s0,s1⟩
       go_simp
       with_reducible rfl
      rotate_left
      ·exact sa
      refine one_ (i:=5) (N:=some 41) #[true,true,true,true,true,true,false,false,false] rfl rfl (jcb HT_.out (by kernel_rfl)) (by decide) (fun K hK=>?_)
      refine goes_ Try.func90 (by kernel_rfl) rfl #[.pointer (some ⟨g,0,none⟩), .agg #[.slice Ao50 t431.length co50]] (by rfl) rfl rfl (aq) ?_
      with_reducible refine (jeb.calls k g s0_0 t444 _ _ t431 t451 t452 w0 _ ?side1 ?side2 ?side3 ?side4 A42.out).mono ?_
      (case side1=>exact Y1)
      (case side2=>exact Y18)
      (case side3=>exact Kd.jFb (ja.apart (show ja w0 _ g s0_0 t444 from Y1) (rq HO433.out) (by decide)) (fun _ h_=>h_.2))
      (case side4=>exact (Kd.jm HO433.out).2.1)
      rintro e w66 ⟨rfl,hi,hb,hk⟩
      refine ⟨_,rfl,?_⟩
      replace BK429:=am (jd.blk hk (g':=gb429) (o:=.cells #[.slice none 0 0] 37 (0,0)) (kq BK429.out) NB429_0.out (by simp))
      replace BK430:=am (jd.blk hk (g':=gb430) (o:=.cells #[.slice none 0 0] 32 (0,0)) (kq BK430.out) NB430_0.out (by simp))
      replace HO433:=am (Kd.jH (Kd.joa (ja.apart (show ja w0 _ g s0_0 t444 from Y1) (rq HO433.out) (by decide)) hk (fun _ h=>h.2)) (fun _ h=>h.1))
      replace BK435:=am (jd.blk hk (g':=gb435) (o:=.cells #[.slice Ao50 t431.length co50] 37 (0,0)) (kq BK435.out) NB435_0.out (by simp))
      replace HO438:=am (Kd.jH (Kd.joa (ja.apart (show ja w0 _ g s0_0 t444 from Y1) (rq HO438.out) (by decide)) hk (fun _ h=>h.2)) (fun _ h=>h.1))
      replace BK440:=am (jd.blk hk (g':=gb440) (o:=.cells #[.slice Ao57 t436.length co57] 32 (0,0)) (kq BK440.out) NB440_0.out (by simp))
      replace HK:=am (jd.trans (Y11) hk (.inl rfl))
      replace HB:=am (hb)
      replace HI0:=am (hi)
      (try clear hb)
      (try clear hb2)
      (try clear hk)
      (try clear hi)
      have p45:0≤(t441:Int):=ozD (uq)
      have q45:(t441:Int)<((t436.length:Int):Int):=ozD (uq)
      obtain ⟨go45,co45,eo45,gb45,gl45,cl45,HG45⟩:=Kd.R_form HO438.out (by omega)
      (first | cases eo45 |(injection eo45 with ea_ en_ ec_;(first | subst ea_ |(injection ea_ with ea_;subst ea_));subst ec_;clear en_))
      have GB45:=am gb45
      have GG45:=am HG45
      clear gb45 gl45 HG45
      obtain ⟨ce45,hcl45,hM45,hcc45,hfr45⟩:=Kd.jub HO438.out z54 (t441:Int) p45 q45
      obtain rfl:=jUa hM45
      have hx45_0:World.cell? _ ⟨go45,(t441:Int).toNat * 5,none⟩=some (.int .i64 ((jb t436 t441).f0)):=hcc45 0 _ rfl
      have hx45_1:World.cell? _ ⟨go45,(t441:Int).toNat * 5+1,none⟩=some (.int .i64 ((jb t436 t441).f1)):=hcc45 1 _ rfl
      have hx45_2:World.cell? _ ⟨go45,(t441:Int).toNat * 5+2,none⟩=some (.int .i64 ((jb t436 t441).f2)):=hcc45 2 _ rfl
      have hx45_3:World.cell? _ ⟨go45,(t441:Int).toNat * 5+3,none⟩=some (.int .i64 ((jb t436 t441).f3)):=hcc45 3 _ rfl
      have hx45_4:World.cell? _ ⟨go45,(t441:Int).toNat * 5+4,none⟩=some (.bool ((jb t436 t441).f4)):=hcc45 4 _ rfl
      have hf45_0:World.frozen? _ ⟨go45,(t441:Int).toNat * 5,none⟩=false:=hfr45 0
      have hf45_1:World.frozen? _ ⟨go45,(t441:Int).toNat * 5+1,none⟩=false:=hfr45 1
      have hf45_2:World.frozen? _ ⟨go45,(t441:Int).toNat * 5+2,none⟩=false:=hfr45 2
      have hf45_3:World.frozen? _ ⟨go45,(t441:Int).toNat * 5+3,none⟩=false:=hfr45 3
      have hf45_4:World.frozen? _ ⟨go45,(t441:Int).toNat * 5+4,none⟩=false:=hfr45 4
      clear hcl45 hcc45 hfr45 hM45
      replace p45:=ezT p45
      replace q45:=ezT q45
      have HN0_go45:=am (show g≠go45 from by have h_:=ja.own_ne HI0.out HO438.out (by decide);intro e_;exact h_ (by rw [e_];rfl))
      obtain ⟨ce67,hcl67,hM67,hcc67,hfr67⟩:=Kd.jub HO438.out z54 (t441:Int) (ozD (uq)) (by have h_:(t441:Int)<((t436.length:Int):Int):=ozD (uq);first | exact h_ |(have e_:=(Kd.jm HO438.out).1;omega) | simpa using h_)
      obtain rfl:=jUa hM67
      have HP67:=(Kd.R_seg HO438.out (t441:Int) (ozD (uq)) (by have h_:(t441:Int)<((t436.length:Int):Int):=ozD (uq);first | exact h_ |(have e_:=(Kd.jm HO438.out).1;omega) | simpa using h_) (seg:=[.int .i64 t451]) (j:=0) hcl67 hcc67 (show 1≤5 from by decide) (x':=(⟨t451,(jb t436 t441).f1,(jb t436 t441).f2,(jb t436 t441).f3,(jb t436 t441).f4⟩:S54)) (jSb _ _ _ (⟨t451,(jb t436 t441).f1,(jb t436 t441).f2,(jb t436 t441).f3,(jb t436 t441).f4⟩:S54) ) (fun _ hk=>hk)).1
      rw [← Ny453.out] at HP67
      have HQ67:=am HP67
      clear hcl67 hcc67 hfr67 hM67 HP67
      refine hK.out _ _ ⟨(jI BK440.out 0).trans rfl,(jI BK435.out 0).trans rfl⟩ (fun hHeld=>?_)
      clear hK K
      refine jJb (a':=?_) ?_ ?_
      rotate_left
      ·show Act.put _ (some 41) _=_
       simp only [Act.put,List.setIfInBounds_toArray,List.set_cons_zero,List.set_cons_succ,jqb,jwb]
       rfl
      refine pq (i:=6) (N:=some 42) #[true,true,true,true,true,true,true,false,false] ?_
      refine pq (i:=7) (N:=some 43) #[true,true,true,true,true,true,true,true,false] ?_
      refine last_ (i:=8) (N:=none) #[true,true,true,true,true,true,true,true,true] rfl rfl (jcb HT_.out (by kernel_rfl)) (by decide) (fun K hK=>?_)
      refine jRb (w1:=?_) (by rfl) rfl ?_ ?_
      rotate_left
      ·go_simp
       rfl
      refine hK.out _ _ ?_
      clear hK K
      refine done_ (jXb HT_.out (by kernel_rfl)) ?_
      have n0_:jB (Kd.R k94 94 (w66.setCell ⟨go45,(t441:Int).toNat * 5,none⟩ (.int .i64 t451)) w.heap.size (fun _=>True) (.slice Ao50 t431.length co50) t431):=⟨by (with_reducible repeat (first | apply Kd.jW | apply Kd.jY | apply Kd.jU));exact Kd.jH (Kd.jya (p:=⟨go45,(t441:Int).toNat * 5,none⟩) (Kd.jR HO433.out GG45.out (by decide)) (fun _ hk=>hk.2) (.int .i64 t451)) (fun _ hk=>trivial)⟩
      have n1_:jB (Kd.R k54 54 (w66.setCell ⟨go45,(t441:Int).toNat * 5,none⟩ (.int .i64 t451)) w.heap.size (fun _=>True) (.slice (some ⟨go45,0,none⟩) t436.length co57) y453):=⟨rq HQ67.out⟩
      have n2_:jB ((w66.setCell ⟨go45,(t441:Int).toNat * 5,none⟩ (.int .i64 t451)).heap[gb429]?=some (.cells #[.slice none 0 0] 37 (0,0))):=⟨by (with_reducible repeat (first | refine jh ?_ _ | refine jg ?_ | refine jk ?_ _));refine jaa ?_ (by have h_:=Kd.R_ne HO438.out BK429.out (by decide);intro e_;exact h_ (by rw [e_];rfl)) _;(with_reducible repeat (first | refine jh ?_ _ | refine jg ?_ | refine jk ?_ _));exact BK429.out⟩
      have n3_:jB ((w66.setCell ⟨go45,(t441:Int).toNat * 5,none⟩ (.int .i64 t451)).heap[gb430]?=some (.cells #[.slice none 0 0] 32 (0,0))):=⟨by (with_reducible repeat (first | refine jh ?_ _ | refine jg ?_ | refine jk ?_ _));refine jaa ?_ (by have h_:=Kd.R_ne HO438.out BK430.out (by decide);intro e_;exact h_ (by rw [e_];rfl)) _;(with_reducible repeat (first | refine jh ?_ _ | refine jg ?_ | refine jk ?_ _));exact BK430.out⟩
      have n4_:jB ((w66.setCell ⟨go45,(t441:Int).toNat * 5,none⟩ (.int .i64 t451)).heap[gb435]?=some (.cells #[.slice Ao50 t431.length co50] 37 (0,0))):=⟨by (with_reducible repeat (first | refine jh ?_ _ | refine jg ?_ | refine jk ?_ _));refine jaa ?_ (by have h_:=Kd.R_ne HO438.out BK435.out (by decide);intro e_;exact h_ (by rw [e_];rfl)) _;(with_reducible repeat (first | refine jh ?_ _ | refine jg ?_ | refine jk ?_ _));exact BK435.out⟩
      have n5_:jB ((w66.setCell ⟨go45,(t441:Int).toNat * 5,none⟩ (.int .i64 t451)).heap[gb440]?=some (.cells #[.slice (some ⟨go45,0,none⟩) t436.length co57] 32 (0,0))):=⟨by (with_reducible repeat (first | refine jh ?_ _ | refine jg ?_ | refine jk ?_ _));refine jaa ?_ (by have h_:=Kd.R_ne HO438.out BK440.out (by decide);intro e_;exact h_ (by rw [e_];rfl)) _;(with_reducible repeat (first | refine jh ?_ _ | refine jg ?_ | refine jk ?_ _));exact BK440.out⟩
      have n6_:jB (ja w0 (w66.setCell ⟨go45,(t441:Int).toNat * 5,none⟩ (.int .i64 t451)) g s0_0 t452):=⟨by repeat (first |(with_reducible first | exact HI0.out | apply ja.alloc | apply ja.drewN | apply ja.drew | apply ja.jdb | refine ja.far ?_ HN0_go45.out _ | refine ja.far ?_ NB0_429.out _ | refine ja.far ?_ NB0_430.out _ | refine ja.far ?_ NB0_435.out _ | refine ja.far ?_ NB0_440.out _) | exact HI0.out)⟩
      have n7_:jB (jd w (w66.setCell ⟨go45,(t441:Int).toNat * 5,none⟩ (.int .i64 t451)) g none):=⟨by repeat (first |(with_reducible first | exact HK.out | apply jd.set_ | apply jia | apply jZ | apply jja | refine jM ?_ GB45.out _ | refine jM ?_ GW429.out _ | refine jM ?_ GW430.out _ | refine jM ?_ GW435.out _ | refine jM ?_ GW440.out _) | exact HK.out)⟩
      have n8_:jB (Below w0.heap.size w0 (w66.setCell ⟨go45,(t441:Int).toNat * 5,none⟩ (.int .i64 t451))):=⟨by repeat (first |(with_reducible first | exact HB.out | apply jC | apply jr | apply jy | refine jq ?_ (Nat.le_trans HL.out GB45.out) | refine jq ?_ (ja.ge HI0.out) | refine jq ?_ GE429.out | refine jq ?_ GE430.out | refine jq ?_ GE435.out | refine jq ?_ GE440.out) | exact HB.out)⟩
      (try clear HO433)
      (try clear HO438)
      (try clear BK429)
      (try clear BK430)
      (try clear BK435)
      (try clear BK440)
      (try clear HI0)
      (try clear HK)
      (try clear HB)
      generalize (w66.setCell ⟨go45,(t441:Int).toNat * 5,none⟩ (.int .i64 t451))=w68 at n0_ n1_ n2_ n3_ n4_ n5_ n6_ n7_ n8_ ⊢
      have HO433:=n0_
      have HO438:=n1_
      have BK429:=n2_
      have BK430:=n3_
      have BK435:=n4_
      have BK440:=n5_
      have HI0:=n6_
      have HK:=n7_
      have HB:=n8_
      clear n0_ n1_ n2_ n3_ n4_ n5_ n6_ n7_ n8_
      try go_wp2
      replace HO433:=am (Kd.jU HO433.out)
      replace HO438:=am (Kd.jU HO438.out)
      replace BK429:=am (jg BK429.out)
      replace BK430:=am (jg BK430.out)
      replace BK435:=am (jg BK435.out)
      replace BK440:=am (jg BK440.out)
      replace HI0:=am (ja.drew HI0.out)
      replace HK:=am (jZ HK.out)
      replace HB:=am (jy HB.out)
      refine jLb (n:=4) (S:=fun w'=>w'.cell? ⟨gb435,0,none⟩=some (.slice Ao50 t431.length co50)∧w'.cell? ⟨gb440,0,none⟩=some (.slice (some ⟨go45,0,none⟩) t436.length co57)) (ds:=[]) #[false,false,false,false] (by kernel_rfl) rfl rfl ⟨(jI BK435.out 0).trans rfl,(jI BK440.out 0).trans rfl⟩ (fun hHeld=>?_)
      generalize w68.drew=w69 at HO433 HO438 BK429 BK430 BK435 BK440 HI0 HK HB hHeld ⊢
      refine jBb (i:=0) (N:=some 65) (v:=?_) (a':=?_) #[true,false,false,false] rfl rfl (by kernel_rfl) (fun _ _ _ h=>h) (Or.inl ⟨by rfl,?_⟩) hHeld ?_ ?_
      rotate_left
      ·rintro w' ⟨s0,s1⟩
       go_simp
       with_reducible rfl
      rotate_left
      ·exact sa
      refine jBb (i:=1) (N:=some 66) (v:=?_) (a':=?_) #[true,true,false,false] rfl rfl (by kernel_rfl) (fun _ _ _ h=>h) (Or.inl ⟨by rfl,?_⟩) hHeld ?_ ?_
      rotate_left
      ·rintro w' ⟨s0,s1⟩
       go_simp
       with_reducible rfl
      rotate_left
      ·exact sa
      refine one_ (i:=2) (N:=none) #[true,true,true,false] rfl rfl (by kernel_rfl) (by decide) (fun K hK=>?_)
      have hs70:w69.cell? ⟨gb429,0,none⟩=some (.slice none 0 0):=(jI BK429.out 0).trans rfl
      have hfs70:=je BK429.out 0
      have hns70_1:=NB430_429.out
      have hns70_2:=NB435_429.out
      have hns70_3:=NB440_429.out
      have hms70_1:=NB429_430.out
      have hms70_2:=NB429_435.out
      have hms70_3:=NB429_440.out
      refine jRb (w1:=?_) (by rfl) rfl ?_ ?_
      rotate_left
      ·go_simp
       rfl
      refine hK.out _ _ ⟨((cell_far (p:=⟨gb429,_,none⟩) NB435_429.out _).trans (hHeld.1)),((cell_far (p:=⟨gb429,_,none⟩) NB440_429.out _).trans (hHeld.2))⟩ (fun hHeld=>?_)
      clear hK K
      refine one_ (i:=3) (N:=none) #[true,true,true,true] rfl rfl (by kernel_rfl) (by decide) (fun K hK=>?_)
      have hs71:w69.cell? ⟨gb430,0,none⟩=some (.slice none 0 0):=(jI BK430.out 0).trans rfl
      have hfs71:=je BK430.out 0
      have hns71_0:=NB429_430.out
      have hns71_2:=NB435_430.out
      have hns71_3:=NB440_430.out
      have hms71_0:=NB430_429.out
      have hms71_2:=NB430_435.out
      have hms71_3:=NB430_440.out
      refine jRb (w1:=?_) (by rfl) rfl ?_ ?_
      rotate_left
      ·go_simp
       rfl
      refine hK.out _ _ ⟨((cell_far (p:=⟨gb430,_,none⟩) NB435_430.out _).trans (hHeld.1)),((cell_far (p:=⟨gb430,_,none⟩) NB440_430.out _).trans (hHeld.2))⟩ (fun hHeld=>?_)
      clear hK K
      refine done_ (by kernel_rfl) ?_
      try go_wp2
      refine bodyPost_ret (jOb rfl _ _ gb429 gb430 37 32 #[.slice Ao50 t431.length co50] #[.slice (some ⟨go45,0,none⟩) t436.length co57] (0,0) (0,0) _ _ rfl (Y74) Try.underlying37 rfl (by kernel_rfl) rfl (Y75) Try.underlying32 rfl (by kernel_rfl)) rfl ?_
      exact ⟨_,_,Y2,by (with_reducible repeat (first | apply Kd.jW | apply Kd.jY | apply Kd.jU));exact Kd.jH (Kd.jya (p:=⟨gb430,0,none⟩) (Kd.jya (p:=⟨gb429,0,none⟩) (Kd.jR (Kd.jR HO433.out BK429.out (by decide)) BK430.out (by decide)) (fun _ hk=>hk.1.2) (.slice Ao50 t431.length co50)) (fun _ hk=>hk.2) (.slice (some ⟨go45,0,none⟩) t436.length co57)) (fun _ hk=>trivial),by (with_reducible repeat (first | apply Kd.jW | apply Kd.jY | apply Kd.jU));exact Kd.jH (Kd.jya (p:=⟨gb430,0,none⟩) (Kd.jya (p:=⟨gb429,0,none⟩) (Kd.jR (Kd.jR HO438.out BK429.out (by decide)) BK430.out (by decide)) (fun _ hk=>hk.1.2) (.slice Ao50 t431.length co50)) (fun _ hk=>hk.2) (.slice (some ⟨go45,0,none⟩) t436.length co57)) (fun _ hk=>trivial),Y1,Y18,Y11⟩
     ·rw [if_neg c44] at H
      exact absurd H (by simp)
    ·rw [if_neg c43] at H
     exact absurd H (by simp)
   ·rw [if_neg c41] at H
    have c41b0:(t443 == 1)=false:=beq_eq_false_iff_ne.mpr c41
    have c41b1:(t443 != 1)=true:=bne_iff_ne.mpr c41
    by_cases c72:t443=2
    ·rw [if_pos c72] at H
     have c72b0:(t443 == 2)=true:=beq_iff_eq.mpr c72
     have c72b1:(t443 != 2)=false:=bne_eq_false_iff_eq.mpr c72
     clear c72
     obtain ⟨y454,hy454⟩:∃ y_:List Int,y_=(([(-1),100]:List Int)):=⟨_,rfl⟩
     replace H:((jw.f k s0_0 t444 y454).bind fun bt457=>(if 0≤t441 then (if t441<(t436.length:Int) then (some (t431,(t436.set (t441:Int).toNat (⟨(jb t436 t441).f0,bt457.1,(jb t436 t441).f2,(jb t436 t441).f3,(jb t436 t441).f4⟩:S54)),bt457.2)) else (none)) else (none)))=some (r1,r2,r3):=by first |(rw [hy454];with_reducible exact H) |(have H2_:=(Option.bind_some _ _).symm.trans H;rw [hy454];with_reducible exact H2_) |(have H2_:=(Option.bind_some _ _).symm.trans H;with_reducible exact H2_) | with_reducible exact H |(rw [hy454];exact H) | exact H
     have Ny454:=am hy454
     clear hy454
     replace H:=bzS H
     obtain ⟨⟨t457,t458⟩,A730,H⟩:=H
     replace H:(if 0≤t441 then (if t441<(t436.length:Int) then (some (t431,(t436.set (t441:Int).toNat (⟨(jb t436 t441).f0,t457,(jb t436 t441).f2,(jb t436 t441).f3,(jb t436 t441).f4⟩:S54)),t458)) else (none)) else (none))=some (r1,r2,r3):=H
     have A73:=am A730
     clear A730
     by_cases c74:0≤t441
     ·rw [if_pos c74] at H
      have c74b0:decide (0≤t441)=true:=dzT c74
      clear c74
      by_cases c75:t441<(t436.length:Int)
      ·rw [if_pos c75] at H
       have c75b0:decide (t441<(t436.length:Int))=true:=dzT c75
       clear c75
       obtain ⟨y459,hy459⟩:∃ y_:List (S54),y_=(t436.set (t441:Int).toNat (⟨(jb t436 t441).f0,t457,(jb t436 t441).f2,(jb t436 t441).f3,(jb t436 t441).f4⟩:S54)):=⟨_,rfl⟩
       replace H:(some (t431,y459,t458))=some (r1,r2,r3):=by first |(rw [hy459];with_reducible exact H) |(have H2_:=(Option.bind_some _ _).symm.trans H;rw [hy459];with_reducible exact H2_) |(have H2_:=(Option.bind_some _ _).symm.trans H;with_reducible exact H2_) | with_reducible exact H |(rw [hy459];exact H) | exact H
       have Ny459:=am hy459
       clear hy459
       simp only [Option.some.injEq,Prod.mk.injEq] at H
       obtain ⟨rfl,rfl,rfl⟩:=H
       go_enter Try.func61,Try.ntmps61
       try go_wp2_with (first |((with_reducible refine jG (N:=2) rfl ?_);refine bE (N:=2) (cs:=#[.slice none 0 0]) (t:=37) ?_;intro gb429 hg w77 hbox hb;have BK429:=am (hbox);have GW429:=am ((Y8:w.heap.size≤gb429));have GE429:=am ((Nat.le_trans HW0.out (Y8:w.heap.size≤gb429):w0.heap.size≤gb429));have NB0_429:=am ((Y25:g≠gb429));have NB429_0:=am ((Y26:gb429≠g));replace HK:=am (jd.trans (Y14) (jd.of_below hb g none) (.inl rfl));replace HB:=am (jf (Y15) hb);replace HI0:=am (ja.below (Y13) hb);clear hb hbox hg) |((with_reducible refine jG (N:=3) rfl ?_);refine bE (N:=3) (cs:=#[.slice none 0 0]) (t:=32) ?_;intro gb430 hg w78 hbox hb;have BK430:=am (hbox);have GW430:=am ((Y32:w.heap.size≤gb430));have GE430:=am ((Nat.le_trans HW0.out (Y32:w.heap.size≤gb430):w0.heap.size≤gb430));have NB429_430:=am ((Y21:gb429≠gb430));have NB430_429:=am ((Y22:gb430≠gb429));have NB0_430:=am ((Y62:g≠gb430));have NB430_0:=am ((Y63:gb430≠g));replace BK429:=am (jc (g:=gb429) (o:=.cells #[.slice none 0 0] 37 (0,0)) (kq BK429.out) hb);replace HK:=am (jd.trans (Y64) (jd.of_below hb g none) (.inl rfl));replace HB:=am (jf (Y65) hb);replace HI0:=am (ja.below (Y66) hb);clear hb hbox hg) |((with_reducible refine jA (f:=87) rfl ?_);refine gL (some 8) Try.func87 #[.pointer (some ⟨g,0,none⟩)] ?_;(with_reducible refine (jba.calls k g s0_0 s0_1 t431 t434 w0 _ ?side1 ?side2 A2.out).mono ?_);(case side1=>exact Y33);(case side2=>exact Y34);rintro e w79 ⟨v432,rfl,ho0,hi,hb,hk⟩;refine ⟨_,rfl,?_⟩;have HO433:=am (Kd.jV ho0 (jda (w:=w) (g:=g) (row:=none) (Y23)));replace BK429:=am (jd.blk hk (g':=gb429) (o:=.cells #[.slice none 0 0] 37 (0,0)) (kq BK429.out) NB429_0.out (by simp));replace BK430:=am (jd.blk hk (g':=gb430) (o:=.cells #[.slice none 0 0] 32 (0,0)) (kq BK430.out) NB430_0.out (by simp));replace HK:=am (jd.trans (Y23) hk (.inl rfl));replace HB:=am (hb);replace HI0:=am (hi);(try clear hb);(try clear hb2);(try clear hk);(try clear hi);(try clear ho0)) |((with_reducible refine jG (N:=4) rfl ?_);refine bE (N:=4) (cs:=#[.slice none 0 0]) (t:=37) ?_;intro gb435 hg w80 hbox hb;have BK435:=am (hbox);have GW435:=am ((Y35:w.heap.size≤gb435));have GE435:=am ((Nat.le_trans HW0.out (Y35:w.heap.size≤gb435):w0.heap.size≤gb435));have NB429_435:=am ((Y21:gb429≠gb435));have NB435_429:=am ((Y22:gb435≠gb429));have NB430_435:=am ((Y36:gb430≠gb435));have NB435_430:=am ((Y37:gb435≠gb430));have NB0_435:=am ((Y67:g≠gb435));have NB435_0:=am ((Y68:gb435≠g));replace HO433:=am (Kd.jO (rq HO433.out) hb);replace BK429:=am (jc (g:=gb429) (o:=.cells #[.slice none 0 0] 37 (0,0)) (kq BK429.out) hb);replace BK430:=am (jc (g:=gb430) (o:=.cells #[.slice none 0 0] 32 (0,0)) (kq BK430.out) hb);replace HK:=am (jd.trans (Y23) (jd.of_below hb g none) (.inl rfl));replace HB:=am (jf (Y34) hb);replace HI0:=am (ja.below (Y33) hb);clear hb hbox hg;obtain ⟨Ao81,co81,eo81⟩:=Kd.jN HO433.out;subst eo81;have hnb82:=NB435_429.out;have hnc82:=NB429_435.out;have hnb83:=NB435_430.out;have hnc83:=NB430_435.out;have hnb84:=NB435_0.out;have hnc84:=NB0_435.out;have hcz85_0:=bc0 BK435.out;have hfz85_0:=je BK435.out 0) |((with_reducible refine jA (f:=62) rfl ?_);refine gL (some 11) Try.func62 #[.pointer (some ⟨g,0,none⟩), .agg #[.slice Ao81 t431.length co81]] ?_;(with_reducible refine (jv.calls k g s0_0 t434 _ _ t431 t436 t439 w0 _ ?side1 ?side2 ?side3 ?side4 A3.out).mono ?_);(case side1=>exact Y17);(case side2=>exact Y38);(case side3=>exact Kd.jFb (ja.apart (show ja w0 _ g s0_0 t434 from Y17) (Y150) (by decide)) (fun _ h_=>h_.2));(case side4=>exact (Kd.jm HO433.out).2.1);rintro e w86 ⟨v437,rfl,ho0,hi,hb,hk⟩;refine ⟨_,rfl,?_⟩;have HO438:=am (Kd.jV ho0 (jda (w:=w) (g:=g) (row:=none) (Y24)));replace BK429:=am (jd.blk hk (g':=gb429) (o:=.cells #[.slice none 0 0] 37 (0,0)) (Y69) NB429_0.out (by simp));replace BK430:=am (jd.blk hk (g':=gb430) (o:=.cells #[.slice none 0 0] 32 (0,0)) (Y70) NB430_0.out (by simp));replace HO433:=am (Kd.jH (Kd.joa (ja.apart (show ja w0 _ g s0_0 t434 from Y17) (Y150) (by decide)) hk (fun _ h=>h.2)) (fun _ h=>h.1));replace BK435:=am (jd.blk hk (g':=gb435) (o:=.cells #[.slice Ao81 t431.length co81] 37 (0,0)) (Y71) NB435_0.out (by simp));replace HK:=am (jd.trans (Y24) hk (.inl rfl));replace HB:=am (hb);replace HI0:=am (hi);(try clear hb);(try clear hb2);(try clear hk);(try clear hi);(try clear ho0)) |((with_reducible refine jG (N:=5) rfl ?_);refine bE (N:=5) (cs:=#[.slice none 0 0]) (t:=32) ?_;intro gb440 hg w87 hbox hb;have BK440:=am (hbox);have GW440:=am ((Y39:w.heap.size≤gb440));have GE440:=am ((Nat.le_trans HW0.out (Y39:w.heap.size≤gb440):w0.heap.size≤gb440));have NB429_440:=am ((Y21:gb429≠gb440));have NB440_429:=am ((Y22:gb440≠gb429));have NB430_440:=am ((Y36:gb430≠gb440));have NB440_430:=am ((Y37:gb440≠gb430));have NB435_440:=am ((by rw [hg];exact Nat.ne_of_lt (jha (g:=gb435) (o:=.cells #[.slice Ao81 t431.length co81] 37 (0,0)) (kq BK435.out)):gb435≠gb440));have NB440_435:=am ((by rw [hg];exact Nat.ne_of_gt (jha (g:=gb435) (o:=.cells #[.slice Ao81 t431.length co81] 37 (0,0)) (kq BK435.out)):gb440≠gb435));have NB0_440:=am ((Y72:g≠gb440));have NB440_0:=am ((Y73:gb440≠g));replace HO433:=am (Kd.jO (rq HO433.out) hb);replace HO438:=am (Kd.jO (rq HO438.out) hb);replace BK429:=am (jc (g:=gb429) (o:=.cells #[.slice none 0 0] 37 (0,0)) (kq BK429.out) hb);replace BK430:=am (jc (g:=gb430) (o:=.cells #[.slice none 0 0] 32 (0,0)) (kq BK430.out) hb);replace BK435:=am (jc (g:=gb435) (o:=.cells #[.slice Ao81 t431.length co81] 37 (0,0)) (kq BK435.out) hb);replace HK:=am (jd.trans (Y24) (jd.of_below hb g none) (.inl rfl));replace HB:=am (jf (Y38) hb);replace HI0:=am (ja.below (Y17) hb);clear hb hbox hg;obtain ⟨Ao88,co88,eo88⟩:=Kd.jN HO438.out;subst eo88;have hnb89:=NB440_429.out;have hnc89:=NB429_440.out;have hnb90:=NB440_430.out;have hnc90:=NB430_440.out;have hnb91:=NB440_435.out;have hnc91:=NB435_440.out;have hnb92:=NB440_0.out;have hnc92:=NB0_440.out;have hcz93_0:=bc0 BK440.out;have hfz93_0:=je BK440.out 0) |((with_reducible refine jA (f:=88) rfl ?_);refine gL (some 20) Try.func88 #[.pointer (some ⟨g,0,none⟩), .int .i64 (t436.length:Int)] ?_;(with_reducible refine (jl.calls k g s0_0 t439 (t436.length:Int) t441 t442 w0 _ ?side1 ?side2 A5.out).mono ?_);(case side1=>exact Y1);(case side2=>exact Y18);rintro e w94 ⟨rfl,hi,hb,hk⟩;refine ⟨_,rfl,?_⟩;replace BK429:=am (jd.blk hk (g':=gb429) (o:=.cells #[.slice none 0 0] 37 (0,0)) (Y87) NB429_0.out (by simp));replace BK430:=am (jd.blk hk (g':=gb430) (o:=.cells #[.slice none 0 0] 32 (0,0)) (Y88) NB430_0.out (by simp));replace HO433:=am (Kd.jH (Kd.joa (ja.apart (show ja w0 _ g s0_0 t439 from Y1) (by (with_reducible repeat (first | apply Kd.jW | apply Kd.jY | apply Kd.jU));exact (Kd.jH (Kd.jya (p:=⟨gb440,0,none⟩) (Kd.jR HO433.out BK440.out (by decide)) (fun _ hk=>hk.2) (.slice Ao88 t436.length co88)) (fun _ h_=>h_.1))) (by decide)) hk (fun _ h=>h.2)) (fun _ h=>h.1));replace BK435:=am (jd.blk hk (g':=gb435) (o:=.cells #[.slice Ao81 t431.length co81] 37 (0,0)) (Y89) NB435_0.out (by simp));replace HO438:=am (Kd.jH (Kd.joa (ja.apart (show ja w0 _ g s0_0 t439 from Y1) (by (with_reducible repeat (first | apply Kd.jW | apply Kd.jY | apply Kd.jU));exact (Kd.jH (Kd.jya (p:=⟨gb440,0,none⟩) (Kd.jR HO438.out BK440.out (by decide)) (fun _ hk=>hk.2) (.slice Ao88 t436.length co88)) (fun _ h_=>h_.1))) (by decide)) hk (fun _ h=>h.2)) (fun _ h=>h.1));replace BK440:=am (jd.blk hk (g':=gb440) (o:=.cells #[.slice Ao88 t436.length co88] 32 (0,0)) (Y90) NB440_0.out (by simp));replace HK:=am (jd.trans (Y11) hk (.inl rfl));replace HB:=am (hb);replace HI0:=am (hi);(try clear hb);(try clear hb2);(try clear hk);(try clear hi)) |((with_reducible refine jA (f:=88) rfl ?_);refine gL (some 22) Try.func88 #[.pointer (some ⟨g,0,none⟩), .int .i64 24] ?_;(with_reducible refine (jl.calls k g s0_0 t442 24 t443 t444 w0 _ ?side1 ?side2 A6.out).mono ?_);(case side1=>exact Y1);(case side2=>exact Y18);rintro e w95 ⟨rfl,hi,hb,hk⟩;refine ⟨_,rfl,?_⟩;replace BK429:=am (jd.blk hk (g':=gb429) (o:=.cells #[.slice none 0 0] 37 (0,0)) (kq BK429.out) NB429_0.out (by simp));replace BK430:=am (jd.blk hk (g':=gb430) (o:=.cells #[.slice none 0 0] 32 (0,0)) (kq BK430.out) NB430_0.out (by simp));replace HO433:=am (Kd.jH (Kd.joa (ja.apart (show ja w0 _ g s0_0 t442 from Y1) (rq HO433.out) (by decide)) hk (fun _ h=>h.2)) (fun _ h=>h.1));replace BK435:=am (jd.blk hk (g':=gb435) (o:=.cells #[.slice Ao81 t431.length co81] 37 (0,0)) (kq BK435.out) NB435_0.out (by simp));replace HO438:=am (Kd.jH (Kd.joa (ja.apart (show ja w0 _ g s0_0 t442 from Y1) (rq HO438.out) (by decide)) hk (fun _ h=>h.2)) (fun _ h=>h.1));replace BK440:=am (jd.blk hk (g':=gb440) (o:=.cells #[.slice Ao88 t436.length co88] 32 (0,0)) (kq BK440.out) NB440_0.out (by simp));replace HK:=am (jd.trans (Y11) hk (.inl rfl));replace HB:=am (hb);replace HI0:=am (hi);(try clear hb);(try clear hb2);(try clear hk);(try clear hi)))
       replace HO433:=am (Kd.jU HO433.out)
       replace HO438:=am (Kd.jU HO438.out)
       replace BK429:=am (jg BK429.out)
       replace BK430:=am (jg BK430.out)
       replace BK435:=am (jg BK435.out)
       replace BK440:=am (jg BK440.out)
       replace HI0:=am (ja.drew HI0.out)
       replace HK:=am (jZ HK.out)
       replace HB:=am (jy HB.out)
       refine jLb (n:=9) (S:=fun w'=>w'.cell? ⟨gb440,0,none⟩=some (.slice Ao88 t436.length co88)) (ds:=[8]) #[false,false,false,false,false,false,false,false,false] (by kernel_rfl) rfl rfl ((jI BK440.out 0).trans rfl) (fun hHeld=>?_);refine jAb jL.tab11 jL.bits11 (fun HT_ HW_=>?_)
       generalize w95.drew=w96 at HO433 HO438 BK429 BK430 BK435 BK440 HI0 HK HB hHeld ⊢
       refine pq (i:=0) (N:=some 46) #[true,false,false,false,false,false,false,false,false] ?_
       refine pq (i:=2) (N:=some 48) #[true,false,true,false,false,false,false,false,false] ?_
       refine pq (i:=3) (N:=some 49) #[true,false,true,true,false,false,false,false,false] ?_
       refine jBb (i:=1) (N:=some 47) (v:=?_) (a':=?_) #[true,true,true,true,false,false,false,false,false] rfl rfl (jgb HT_.out HW_.out (by kernel_rfl)) (fun _ _ _ h=>h) (Or.inl ⟨by rfl,?_⟩) hHeld ?_ ?_
       rotate_left
       ·intro w' s0
        go_simp
        with_reducible rfl
       rotate_left
       ·exact sa
       refine one_ (i:=4) (N:=some 50) #[true,true,true,true,true,false,false,false,false] rfl rfl (jcb HT_.out (by kernel_rfl)) (by decide) (fun K hK=>?_)
       refine Kd.jEb (Kd.int .i64) _ 3 ?hg (N:=50) ?hd (xs:=([(-1),100]:List Int)) (inner:=[.int .i64 (-1), .int .i64 100]) (ok:=fun _=>True) (okp:=fun _=>True) ?hr ?hp (fun _ hk=>hk) trivial (Below.refl _ _) (Nat.le_refl _) (by simp) ?_;(case hd=>rfl);(case hg=>rfl);(case hr=>exact Y3);(case hp=>exact (Reps.one (show Kd.M (Kd.int .i64) _ _ _ (-1) [.int .i64 (-1)] from rfl) (Reps.one (show Kd.M (Kd.int .i64) _ _ _ 100 [.int .i64 100] from rfl) (Reps.none _ _))))
       intro v455 w97 ho98 hb hg_ hnew_
       clear hg_ hnew_
       (first | rw [← Ny454.out] at ho98 |(simp only [Int.reduceToNat] at ho98;rw [← Ny454.out] at ho98))
       have HO456:=am (Kd.jV ho98 (jda (w:=w) (g:=g) (row:=none) (Y11)))
       replace HO433:=am (Kd.jO (rq HO433.out) hb)
       replace HO438:=am (Kd.jO (rq HO438.out) hb)
       replace BK429:=am (jc (g:=gb429) (o:=.cells #[.slice none 0 0] 37 (0,0)) (kq BK429.out) hb)
       replace BK430:=am (jc (g:=gb430) (o:=.cells #[.slice none 0 0] 32 (0,0)) (kq BK430.out) hb)
       replace BK435:=am (jc (g:=gb435) (o:=.cells #[.slice Ao81 t431.length co81] 37 (0,0)) (kq BK435.out) hb)
       replace BK440:=am (jc (g:=gb440) (o:=.cells #[.slice Ao88 t436.length co88] 32 (0,0)) (kq BK440.out) hb)
       replace HK:=am (jd.trans (Y11) (jd.of_below hb g none) (.inl rfl))
       replace HB:=am (jf (Y18) hb)
       replace HI0:=am (ja.below (Y1) hb)
       clear hb ho98
       obtain ⟨Ao99,co99,eo99⟩:=Kd.jN HO456.out
       (first | subst eo99 |(injection eo99 with f1_ f2_ f3_;have f4_:=f1_.symm;have f5_:=f3_.symm;clear f1_ f2_ f3_;subst f4_;subst f5_))
       refine hK.out _ _ ((jI BK440.out 0).trans rfl) (fun hHeld=>?_)
       clear hK K
       refine jJb (a':=?_) ?_ ?_
       rotate_left
       ·show Act.put _ (some 50) _=_
        simp only [Act.put,List.setIfInBounds_toArray,List.set_cons_zero,List.set_cons_succ,jqb,jwb]
        rfl
       refine one_ (i:=5) (N:=some 51) #[true,true,true,true,true,true,false,false,false] rfl rfl (jcb HT_.out (by kernel_rfl)) (by decide) (fun K hK=>?_)
       refine goes_ Try.func89 (by kernel_rfl) rfl #[.pointer (some ⟨g,0,none⟩), .slice Ao99 y454.length co99] (by rfl) rfl rfl (aq) ?_
       with_reducible refine (jw.calls k g s0_0 t444 _ _ y454 t457 t458 w0 _ ?side1 ?side2 ?side3 ?side4 ?side5 A73.out).mono ?_
       (case side1=>exact Y1)
       (case side2=>exact Y18)
       (case side3=>exact cq (Kd.jm HO456.out).2.2)
       (case side4=>exact (Kd.jm HO456.out).2.1)
       (case side5=>exact jsb (ja.own_ne HI0.out HO456.out (by decide)))
       rintro e w100 ⟨rfl,hi,hb,hk⟩
       refine ⟨_,rfl,?_⟩
       replace BK429:=am (jd.blk hk (g':=gb429) (o:=.cells #[.slice none 0 0] 37 (0,0)) (kq BK429.out) NB429_0.out (by simp))
       replace BK430:=am (jd.blk hk (g':=gb430) (o:=.cells #[.slice none 0 0] 32 (0,0)) (kq BK430.out) NB430_0.out (by simp))
       replace HO433:=am (Kd.jH (Kd.joa (ja.apart (show ja w0 _ g s0_0 t444 from Y1) (rq HO433.out) (by decide)) hk (fun _ h=>h.2)) (fun _ h=>h.1))
       replace BK435:=am (jd.blk hk (g':=gb435) (o:=.cells #[.slice Ao81 t431.length co81] 37 (0,0)) (kq BK435.out) NB435_0.out (by simp))
       replace HO438:=am (Kd.jH (Kd.joa (ja.apart (show ja w0 _ g s0_0 t444 from Y1) (rq HO438.out) (by decide)) hk (fun _ h=>h.2)) (fun _ h=>h.1))
       replace BK440:=am (jd.blk hk (g':=gb440) (o:=.cells #[.slice Ao88 t436.length co88] 32 (0,0)) (kq BK440.out) NB440_0.out (by simp))
       replace HO456:=am (Kd.jH (Kd.joa (ja.apart (show ja w0 _ g s0_0 t444 from Y1) (rq HO456.out) (by decide)) hk (fun _ h=>h.2)) (fun _ h=>h.1))
       replace HK:=am (jd.trans (Y11) hk (.inl rfl))
       replace HB:=am (hb)
       replace HI0:=am (hi)
       (try clear hb)
       (try clear hb2)
       (try clear hk)
       (try clear hi)
       have p76:0≤(t441:Int):=ozD (uq)
       have q76:(t441:Int)<((t436.length:Int):Int):=ozD (uq)
       obtain ⟨go76,co76,eo76,gb76,gl76,cl76,HG76⟩:=Kd.R_form HO438.out (by omega)
       (first | cases eo76 |(injection eo76 with ea_ en_ ec_;(first | subst ea_ |(injection ea_ with ea_;subst ea_));subst ec_;clear en_))
       have GB76:=am gb76
       have GG76:=am HG76
       clear gb76 gl76 HG76
       obtain ⟨ce76,hcl76,hM76,hcc76,hfr76⟩:=Kd.jub HO438.out z54 (t441:Int) p76 q76
       obtain rfl:=jUa hM76
       have hx76_0:World.cell? _ ⟨go76,(t441:Int).toNat * 5,none⟩=some (.int .i64 ((jb t436 t441).f0)):=hcc76 0 _ rfl
       have hx76_1:World.cell? _ ⟨go76,(t441:Int).toNat * 5+1,none⟩=some (.int .i64 ((jb t436 t441).f1)):=hcc76 1 _ rfl
       have hx76_2:World.cell? _ ⟨go76,(t441:Int).toNat * 5+2,none⟩=some (.int .i64 ((jb t436 t441).f2)):=hcc76 2 _ rfl
       have hx76_3:World.cell? _ ⟨go76,(t441:Int).toNat * 5+3,none⟩=some (.int .i64 ((jb t436 t441).f3)):=hcc76 3 _ rfl
       have hx76_4:World.cell? _ ⟨go76,(t441:Int).toNat * 5+4,none⟩=some (.bool ((jb t436 t441).f4)):=hcc76 4 _ rfl
       have hf76_0:World.frozen? _ ⟨go76,(t441:Int).toNat * 5,none⟩=false:=hfr76 0
       have hf76_1:World.frozen? _ ⟨go76,(t441:Int).toNat * 5+1,none⟩=false:=hfr76 1
       have hf76_2:World.frozen? _ ⟨go76,(t441:Int).toNat * 5+2,none⟩=false:=hfr76 2
       have hf76_3:World.frozen? _ ⟨go76,(t441:Int).toNat * 5+3,none⟩=false:=hfr76 3
       have hf76_4:World.frozen? _ ⟨go76,(t441:Int).toNat * 5+4,none⟩=false:=hfr76 4
       clear hcl76 hcc76 hfr76 hM76
       replace p76:=ezT p76
       replace q76:=ezT q76
       have HN0_go76:=am (show g≠go76 from by have h_:=ja.own_ne HI0.out HO438.out (by decide);intro e_;exact h_ (by rw [e_];rfl))
       obtain ⟨ce101,hcl101,hM101,hcc101,hfr101⟩:=Kd.jub HO438.out z54 (t441:Int) (ozD (uq)) (by have h_:(t441:Int)<((t436.length:Int):Int):=ozD (uq);first | exact h_ |(have e_:=(Kd.jm HO438.out).1;omega) | simpa using h_)
       obtain rfl:=jUa hM101
       have HP101:=(Kd.R_seg HO438.out (t441:Int) (ozD (uq)) (by have h_:(t441:Int)<((t436.length:Int):Int):=ozD (uq);first | exact h_ |(have e_:=(Kd.jm HO438.out).1;omega) | simpa using h_) (seg:=[.int .i64 t457]) (j:=1) hcl101 hcc101 (show 2≤5 from by decide) (x':=(⟨(jb t436 t441).f0,t457,(jb t436 t441).f2,(jb t436 t441).f3,(jb t436 t441).f4⟩:S54)) (jSb _ _ _ (⟨(jb t436 t441).f0,t457,(jb t436 t441).f2,(jb t436 t441).f3,(jb t436 t441).f4⟩:S54) ) (fun _ hk=>hk)).1
       rw [← Ny459.out] at HP101
       have HQ101:=am HP101
       clear hcl101 hcc101 hfr101 hM101 HP101
       refine hK.out _ _ ((jI BK440.out 0).trans rfl) (fun hHeld=>?_)
       clear hK K
       refine jJb (a':=?_) ?_ ?_
       rotate_left
       ·show Act.put _ (some 51) _=_
        simp only [Act.put,List.setIfInBounds_toArray,List.set_cons_zero,List.set_cons_succ,jqb,jwb]
        rfl
       refine pq (i:=6) (N:=some 52) #[true,true,true,true,true,true,true,false,false] ?_
       refine pq (i:=7) (N:=some 53) #[true,true,true,true,true,true,true,true,false] ?_
       refine last_ (i:=8) (N:=none) #[true,true,true,true,true,true,true,true,true] rfl rfl (jcb HT_.out (by kernel_rfl)) (by decide) (fun K hK=>?_)
       refine jRb (w1:=?_) (by rfl) rfl ?_ ?_
       rotate_left
       ·go_simp
        rfl
       refine hK.out _ _ ?_
       clear hK K
       refine done_ (jXb HT_.out (by kernel_rfl)) ?_
       have n0_:jB (Kd.R k94 94 (w100.setCell ⟨go76,(t441:Int).toNat * 5+1,none⟩ (.int .i64 t457)) w.heap.size (fun _=>True) (.slice Ao81 t431.length co81) t431):=⟨by (with_reducible repeat (first | apply Kd.jW | apply Kd.jY | apply Kd.jU));exact Kd.jH (Kd.jya (p:=⟨go76,(t441:Int).toNat * 5+1,none⟩) (Kd.jR HO433.out GG76.out (by decide)) (fun _ hk=>hk.2) (.int .i64 t457)) (fun _ hk=>trivial)⟩
       have n1_:jB (Kd.R k54 54 (w100.setCell ⟨go76,(t441:Int).toNat * 5+1,none⟩ (.int .i64 t457)) w.heap.size (fun _=>True) (.slice (some ⟨go76,0,none⟩) t436.length co88) y459):=⟨rq HQ101.out⟩
       have n2_:jB (Kd.R (Kd.int .i64) 3 (w100.setCell ⟨go76,(t441:Int).toNat * 5+1,none⟩ (.int .i64 t457)) w.heap.size (fun _=>True) (.slice Ao99 y454.length co99) y454):=⟨by (with_reducible repeat (first | apply Kd.jW | apply Kd.jY | apply Kd.jU));exact Kd.jH (Kd.jya (p:=⟨go76,(t441:Int).toNat * 5+1,none⟩) (Kd.jR HO456.out GG76.out (by decide)) (fun _ hk=>hk.2) (.int .i64 t457)) (fun _ hk=>trivial)⟩
       have n3_:jB ((w100.setCell ⟨go76,(t441:Int).toNat * 5+1,none⟩ (.int .i64 t457)).heap[gb429]?=some (.cells #[.slice none 0 0] 37 (0,0))):=⟨by (with_reducible repeat (first | refine jh ?_ _ | refine jg ?_ | refine jk ?_ _));refine jaa ?_ (by have h_:=Kd.R_ne HO438.out BK429.out (by decide);intro e_;exact h_ (by rw [e_];rfl)) _;(with_reducible repeat (first | refine jh ?_ _ | refine jg ?_ | refine jk ?_ _));exact BK429.out⟩
       have n4_:jB ((w100.setCell ⟨go76,(t441:Int).toNat * 5+1,none⟩ (.int .i64 t457)).heap[gb430]?=some (.cells #[.slice none 0 0] 32 (0,0))):=⟨by (with_reducible repeat (first | refine jh ?_ _ | refine jg ?_ | refine jk ?_ _));refine jaa ?_ (by have h_:=Kd.R_ne HO438.out BK430.out (by decide);intro e_;exact h_ (by rw [e_];rfl)) _;(with_reducible repeat (first | refine jh ?_ _ | refine jg ?_ | refine jk ?_ _));exact BK430.out⟩
       have n5_:jB ((w100.setCell ⟨go76,(t441:Int).toNat * 5+1,none⟩ (.int .i64 t457)).heap[gb435]?=some (.cells #[.slice Ao81 t431.length co81] 37 (0,0))):=⟨by (with_reducible repeat (first | refine jh ?_ _ | refine jg ?_ | refine jk ?_ _));refine jaa ?_ (by have h_:=Kd.R_ne HO438.out BK435.out (by decide);intro e_;exact h_ (by rw [e_];rfl)) _;(with_reducible repeat (first | refine jh ?_ _ | refine jg ?_ | refine jk ?_ _));exact BK435.out⟩
       have n6_:jB ((w100.setCell ⟨go76,(t441:Int).toNat * 5+1,none⟩ (.int .i64 t457)).heap[gb440]?=some (.cells #[.slice (some ⟨go76,0,none⟩) t436.length co88] 32 (0,0))):=⟨by (with_reducible repeat (first | refine jh ?_ _ | refine jg ?_ | refine jk ?_ _));refine jaa ?_ (by have h_:=Kd.R_ne HO438.out BK440.out (by decide);intro e_;exact h_ (by rw [e_];rfl)) _;(with_reducible repeat (first | refine jh ?_ _ | refine jg ?_ | refine jk ?_ _));exact BK440.out⟩
       have n7_:jB (ja w0 (w100.setCell ⟨go76,(t441:Int).toNat * 5+1,none⟩ (.int .i64 t457)) g s0_0 t458):=⟨by repeat (first |(with_reducible first | exact HI0.out | apply ja.alloc | apply ja.drewN | apply ja.drew | apply ja.jdb | refine ja.far ?_ HN0_go76.out _ | refine ja.far ?_ NB0_429.out _ | refine ja.far ?_ NB0_430.out _ | refine ja.far ?_ NB0_435.out _ | refine ja.far ?_ NB0_440.out _) | exact HI0.out)⟩
       have n8_:jB (jd w (w100.setCell ⟨go76,(t441:Int).toNat * 5+1,none⟩ (.int .i64 t457)) g none):=⟨by repeat (first |(with_reducible first | exact HK.out | apply jd.set_ | apply jia | apply jZ | apply jja | refine jM ?_ GB76.out _ | refine jM ?_ GW429.out _ | refine jM ?_ GW430.out _ | refine jM ?_ GW435.out _ | refine jM ?_ GW440.out _) | exact HK.out)⟩
       have n9_:jB (Below w0.heap.size w0 (w100.setCell ⟨go76,(t441:Int).toNat * 5+1,none⟩ (.int .i64 t457))):=⟨by repeat (first |(with_reducible first | exact HB.out | apply jC | apply jr | apply jy | refine jq ?_ (Nat.le_trans HL.out GB76.out) | refine jq ?_ (ja.ge HI0.out) | refine jq ?_ GE429.out | refine jq ?_ GE430.out | refine jq ?_ GE435.out | refine jq ?_ GE440.out) | exact HB.out)⟩
       (try clear HO433)
       (try clear HO438)
       (try clear HO456)
       (try clear BK429)
       (try clear BK430)
       (try clear BK435)
       (try clear BK440)
       (try clear HI0)
       (try clear HK)
       (try clear HB)
       generalize (w100.setCell ⟨go76,(t441:Int).toNat * 5+1,none⟩ (.int .i64 t457))=w102 at n0_ n1_ n2_ n3_ n4_ n5_ n6_ n7_ n8_ n9_ ⊢
       have HO433:=n0_
       have HO438:=n1_
       have HO456:=n2_
       have BK429:=n3_
       have BK430:=n4_
       have BK435:=n5_
       have BK440:=n6_
       have HI0:=n7_
       have HK:=n8_
       have HB:=n9_
       clear n0_ n1_ n2_ n3_ n4_ n5_ n6_ n7_ n8_ n9_
       try go_wp2
       replace HO433:=am (Kd.jU HO433.out)
       replace HO438:=am (Kd.jU HO438.out)
       replace HO456:=am (Kd.jU HO456.out)
       replace BK429:=am (jg BK429.out)
       replace BK430:=am (jg BK430.out)
       replace BK435:=am (jg BK435.out)
       replace BK440:=am (jg BK440.out)
       replace HI0:=am (ja.drew HI0.out)
       replace HK:=am (jZ HK.out)
       replace HB:=am (jy HB.out)
       refine jLb (n:=4) (S:=fun w'=>w'.cell? ⟨gb435,0,none⟩=some (.slice Ao81 t431.length co81)∧w'.cell? ⟨gb440,0,none⟩=some (.slice (some ⟨go76,0,none⟩) t436.length co88)) (ds:=[]) #[false,false,false,false] (by kernel_rfl) rfl rfl ⟨(jI BK435.out 0).trans rfl,(jI BK440.out 0).trans rfl⟩ (fun hHeld=>?_)
       generalize w102.drew=w103 at HO433 HO438 HO456 BK429 BK430 BK435 BK440 HI0 HK HB hHeld ⊢
       refine jBb (i:=0) (N:=some 65) (v:=?_) (a':=?_) #[true,false,false,false] rfl rfl (by kernel_rfl) (fun _ _ _ h=>h) (Or.inl ⟨by rfl,?_⟩) hHeld ?_ ?_
       rotate_left
       ·rintro w' ⟨s0,s1⟩
        go_simp
        with_reducible rfl
       rotate_left
       ·exact sa
       refine jBb (i:=1) (N:=some 66) (v:=?_) (a':=?_) #[true,true,false,false] rfl rfl (by kernel_rfl) (fun _ _ _ h=>h) (Or.inl ⟨by rfl,?_⟩) hHeld ?_ ?_
       rotate_left
       ·rintro w' ⟨s0,s1⟩
        go_simp
        with_reducible rfl
       rotate_left
       ·exact sa
       refine one_ (i:=2) (N:=none) #[true,true,true,false] rfl rfl (by kernel_rfl) (by decide) (fun K hK=>?_)
       have hs104:w103.cell? ⟨gb429,0,none⟩=some (.slice none 0 0):=(jI BK429.out 0).trans rfl
       have hfs104:=je BK429.out 0
       have hns104_1:=NB430_429.out
       have hns104_2:=NB435_429.out
       have hns104_3:=NB440_429.out
       have hms104_1:=NB429_430.out
       have hms104_2:=NB429_435.out
       have hms104_3:=NB429_440.out
       refine jRb (w1:=?_) (by rfl) rfl ?_ ?_
       rotate_left
       ·go_simp
        rfl
       refine hK.out _ _ ⟨((cell_far (p:=⟨gb429,_,none⟩) NB435_429.out _).trans (hHeld.1)),((cell_far (p:=⟨gb429,_,none⟩) NB440_429.out _).trans (hHeld.2))⟩ (fun hHeld=>?_)
       clear hK K
       refine one_ (i:=3) (N:=none) #[true,true,true,true] rfl rfl (by kernel_rfl) (by decide) (fun K hK=>?_)
       have hs105:w103.cell? ⟨gb430,0,none⟩=some (.slice none 0 0):=(jI BK430.out 0).trans rfl
       have hfs105:=je BK430.out 0
       have hns105_0:=NB429_430.out
       have hns105_2:=NB435_430.out
       have hns105_3:=NB440_430.out
       have hms105_0:=NB430_429.out
       have hms105_2:=NB430_435.out
       have hms105_3:=NB430_440.out
       refine jRb (w1:=?_) (by rfl) rfl ?_ ?_
       rotate_left
       ·go_simp
        rfl
       refine hK.out _ _ ⟨((cell_far (p:=⟨gb430,_,none⟩) NB435_430.out _).trans (hHeld.1)),((cell_far (p:=⟨gb430,_,none⟩) NB440_430.out _).trans (hHeld.2))⟩ (fun hHeld=>?_)
       clear hK K
       refine done_ (by kernel_rfl) ?_
       try go_wp2
       refine bodyPost_ret (jOb rfl _ _ gb429 gb430 37 32 #[.slice Ao81 t431.length co81] #[.slice (some ⟨go76,0,none⟩) t436.length co88] (0,0) (0,0) _ _ rfl (Y74) Try.underlying37 rfl (by kernel_rfl) rfl (Y75) Try.underlying32 rfl (by kernel_rfl)) rfl ?_
       exact ⟨_,_,Y2,by (with_reducible repeat (first | apply Kd.jW | apply Kd.jY | apply Kd.jU));exact Kd.jH (Kd.jya (p:=⟨gb430,0,none⟩) (Kd.jya (p:=⟨gb429,0,none⟩) (Kd.jR (Kd.jR HO433.out BK429.out (by decide)) BK430.out (by decide)) (fun _ hk=>hk.1.2) (.slice Ao81 t431.length co81)) (fun _ hk=>hk.2) (.slice (some ⟨go76,0,none⟩) t436.length co88)) (fun _ hk=>trivial),by (with_reducible repeat (first | apply Kd.jW | apply Kd.jY | apply Kd.jU));exact Kd.jH (Kd.jya (p:=⟨gb430,0,none⟩) (Kd.jya (p:=⟨gb429,0,none⟩) (Kd.jR (Kd.jR HO438.out BK429.out (by decide)) BK430.out (by decide)) (fun _ hk=>hk.1.2) (.slice Ao81 t431.length co81)) (fun _ hk=>hk.2) (.slice (some ⟨go76,0,none⟩) t436.length co88)) (fun _ hk=>trivial),Y1,Y18,Y11⟩
      ·rw [if_neg c75] at H
       exact absurd H (by simp)
     ·rw [if_neg c74] at H
      exact absurd H (by simp)
    ·rw [if_neg c72] at H
     have c72b0:(t443 == 2)=false:=beq_eq_false_iff_ne.mpr c72
     have c72b1:(t443 != 2)=true:=bne_iff_ne.mpr c72
     by_cases c106:t443=3
     ·rw [if_pos c106] at H
      have c106b0:(t443 == 3)=true:=beq_iff_eq.mpr c106
      have c106b1:(t443 != 3)=false:=bne_eq_false_iff_eq.mpr c106
      clear c106
      obtain ⟨y460,hy460⟩:∃ y_:List Int,y_=(([t441,24,0]:List Int)):=⟨_,rfl⟩
      replace H:((jw.f k s0_0 t444 y460).bind fun bt463=>(if 0≤t441 then (if t441<(t436.length:Int) then (some (t431,(t436.set (t441:Int).toNat (⟨(jb t436 t441).f0,(jb t436 t441).f1,bt463.1,(jb t436 t441).f3,(jb t436 t441).f4⟩:S54)),bt463.2)) else (none)) else (none)))=some (r1,r2,r3):=by first |(rw [hy460];with_reducible exact H) |(have H2_:=(Option.bind_some _ _).symm.trans H;rw [hy460];with_reducible exact H2_) |(have H2_:=(Option.bind_some _ _).symm.trans H;with_reducible exact H2_) | with_reducible exact H |(rw [hy460];exact H) | exact H
      have Ny460:=am hy460
      clear hy460
      replace H:=bzS H
      obtain ⟨⟨t463,t464⟩,A1070,H⟩:=H
      replace H:(if 0≤t441 then (if t441<(t436.length:Int) then (some (t431,(t436.set (t441:Int).toNat (⟨(jb t436 t441).f0,(jb t436 t441).f1,t463,(jb t436 t441).f3,(jb t436 t441).f4⟩:S54)),t464)) else (none)) else (none))=some (r1,r2,r3):=H
      have A107:=am A1070
      clear A1070
      by_cases c108:0≤t441
      ·rw [if_pos c108] at H
       have c108b0:decide (0≤t441)=true:=dzT c108
       clear c108
       by_cases c109:t441<(t436.length:Int)
       ·rw [if_pos c109] at H
        have c109b0:decide (t441<(t436.length:Int))=true:=dzT c109
        clear c109
        obtain ⟨y465,hy465⟩:∃ y_:List (S54),y_=(t436.set (t441:Int).toNat (⟨(jb t436 t441).f0,(jb t436 t441).f1,t463,(jb t436 t441).f3,(jb t436 t441).f4⟩:S54)):=⟨_,rfl⟩
        replace H:(some (t431,y465,t464))=some (r1,r2,r3):=by first |(rw [hy465];with_reducible exact H) |(have H2_:=(Option.bind_some _ _).symm.trans H;rw [hy465];with_reducible exact H2_) |(have H2_:=(Option.bind_some _ _).symm.trans H;with_reducible exact H2_) | with_reducible exact H |(rw [hy465];exact H) | exact H
        have Ny465:=am hy465
        clear hy465
        simp only [Option.some.injEq,Prod.mk.injEq] at H
        obtain ⟨rfl,rfl,rfl⟩:=H
        go_enter Try.func61,Try.ntmps61
        try go_wp2_with (first |((with_reducible refine jG (N:=2) rfl ?_);refine bE (N:=2) (cs:=#[.slice none 0 0]) (t:=37) ?_;intro gb429 hg w111 hbox hb;have BK429:=am (hbox);have GW429:=am ((Y8:w.heap.size≤gb429));have GE429:=am ((Nat.le_trans HW0.out (Y8:w.heap.size≤gb429):w0.heap.size≤gb429));have NB0_429:=am ((Y25:g≠gb429));have NB429_0:=am ((Y26:gb429≠g));replace HK:=am (jd.trans (Y14) (jd.of_below hb g none) (.inl rfl));replace HB:=am (jf (Y15) hb);replace HI0:=am (ja.below (Y13) hb);clear hb hbox hg) |((with_reducible refine jG (N:=3) rfl ?_);refine bE (N:=3) (cs:=#[.slice none 0 0]) (t:=32) ?_;intro gb430 hg w112 hbox hb;have BK430:=am (hbox);have GW430:=am ((Y32:w.heap.size≤gb430));have GE430:=am ((Nat.le_trans HW0.out (Y32:w.heap.size≤gb430):w0.heap.size≤gb430));have NB429_430:=am ((Y21:gb429≠gb430));have NB430_429:=am ((Y22:gb430≠gb429));have NB0_430:=am ((Y62:g≠gb430));have NB430_0:=am ((Y63:gb430≠g));replace BK429:=am (jc (g:=gb429) (o:=.cells #[.slice none 0 0] 37 (0,0)) (kq BK429.out) hb);replace HK:=am (jd.trans (Y64) (jd.of_below hb g none) (.inl rfl));replace HB:=am (jf (Y65) hb);replace HI0:=am (ja.below (Y66) hb);clear hb hbox hg) |((with_reducible refine jA (f:=87) rfl ?_);refine gL (some 8) Try.func87 #[.pointer (some ⟨g,0,none⟩)] ?_;(with_reducible refine (jba.calls k g s0_0 s0_1 t431 t434 w0 _ ?side1 ?side2 A2.out).mono ?_);(case side1=>exact Y33);(case side2=>exact Y34);rintro e w113 ⟨v432,rfl,ho0,hi,hb,hk⟩;refine ⟨_,rfl,?_⟩;have HO433:=am (Kd.jV ho0 (jda (w:=w) (g:=g) (row:=none) (Y23)));replace BK429:=am (jd.blk hk (g':=gb429) (o:=.cells #[.slice none 0 0] 37 (0,0)) (kq BK429.out) NB429_0.out (by simp));replace BK430:=am (jd.blk hk (g':=gb430) (o:=.cells #[.slice none 0 0] 32 (0,0)) (kq BK430.out) NB430_0.out (by simp));replace HK:=am (jd.trans (Y23) hk (.inl rfl));replace HB:=am (hb);replace HI0:=am (hi);(try clear hb);(try clear hb2);(try clear hk);(try clear hi);(try clear ho0)) |((with_reducible refine jG (N:=4) rfl ?_);refine bE (N:=4) (cs:=#[.slice none 0 0]) (t:=37) ?_;intro gb435 hg w114 hbox hb;have BK435:=am (hbox);have GW435:=am ((Y35:w.heap.size≤gb435));have GE435:=am ((Nat.le_trans HW0.out (Y35:w.heap.size≤gb435):w0.heap.size≤gb435));have NB429_435:=am ((Y21:gb429≠gb435));have NB435_429:=am ((Y22:gb435≠gb429));have NB430_435:=am ((Y36:gb430≠gb435));have NB435_430:=am ((Y37:gb435≠gb430));have NB0_435:=am ((Y67:g≠gb435));have NB435_0:=am ((Y68:gb435≠g));replace HO433:=am (Kd.jO (rq HO433.out) hb);replace BK429:=am (jc (g:=gb429) (o:=.cells #[.slice none 0 0] 37 (0,0)) (kq BK429.out) hb);replace BK430:=am (jc (g:=gb430) (o:=.cells #[.slice none 0 0] 32 (0,0)) (kq BK430.out) hb);replace HK:=am (jd.trans (Y23) (jd.of_below hb g none) (.inl rfl));replace HB:=am (jf (Y34) hb);replace HI0:=am (ja.below (Y33) hb);clear hb hbox hg;obtain ⟨Ao115,co115,eo115⟩:=Kd.jN HO433.out;subst eo115;have hnb116:=NB435_429.out;have hnc116:=NB429_435.out;have hnb117:=NB435_430.out;have hnc117:=NB430_435.out;have hnb118:=NB435_0.out;have hnc118:=NB0_435.out;have hcz119_0:=bc0 BK435.out;have hfz119_0:=je BK435.out 0) |((with_reducible refine jA (f:=62) rfl ?_);refine gL (some 11) Try.func62 #[.pointer (some ⟨g,0,none⟩), .agg #[.slice Ao115 t431.length co115]] ?_;(with_reducible refine (jv.calls k g s0_0 t434 _ _ t431 t436 t439 w0 _ ?side1 ?side2 ?side3 ?side4 A3.out).mono ?_);(case side1=>exact Y17);(case side2=>exact Y38);(case side3=>exact Kd.jFb (ja.apart (show ja w0 _ g s0_0 t434 from Y17) (Y151) (by decide)) (fun _ h_=>h_.2));(case side4=>exact (Kd.jm HO433.out).2.1);rintro e w120 ⟨v437,rfl,ho0,hi,hb,hk⟩;refine ⟨_,rfl,?_⟩;have HO438:=am (Kd.jV ho0 (jda (w:=w) (g:=g) (row:=none) (Y24)));replace BK429:=am (jd.blk hk (g':=gb429) (o:=.cells #[.slice none 0 0] 37 (0,0)) (Y69) NB429_0.out (by simp));replace BK430:=am (jd.blk hk (g':=gb430) (o:=.cells #[.slice none 0 0] 32 (0,0)) (Y70) NB430_0.out (by simp));replace HO433:=am (Kd.jH (Kd.joa (ja.apart (show ja w0 _ g s0_0 t434 from Y17) (Y151) (by decide)) hk (fun _ h=>h.2)) (fun _ h=>h.1));replace BK435:=am (jd.blk hk (g':=gb435) (o:=.cells #[.slice Ao115 t431.length co115] 37 (0,0)) (Y71) NB435_0.out (by simp));replace HK:=am (jd.trans (Y24) hk (.inl rfl));replace HB:=am (hb);replace HI0:=am (hi);(try clear hb);(try clear hb2);(try clear hk);(try clear hi);(try clear ho0)) |((with_reducible refine jG (N:=5) rfl ?_);refine bE (N:=5) (cs:=#[.slice none 0 0]) (t:=32) ?_;intro gb440 hg w121 hbox hb;have BK440:=am (hbox);have GW440:=am ((Y39:w.heap.size≤gb440));have GE440:=am ((Nat.le_trans HW0.out (Y39:w.heap.size≤gb440):w0.heap.size≤gb440));have NB429_440:=am ((Y21:gb429≠gb440));have NB440_429:=am ((Y22:gb440≠gb429));have NB430_440:=am ((Y36:gb430≠gb440));have NB440_430:=am ((Y37:gb440≠gb430));have NB435_440:=am ((by rw [hg];exact Nat.ne_of_lt (jha (g:=gb435) (o:=.cells #[.slice Ao115 t431.length co115] 37 (0,0)) (kq BK435.out)):gb435≠gb440));have NB440_435:=am ((by rw [hg];exact Nat.ne_of_gt (jha (g:=gb435) (o:=.cells #[.slice Ao115 t431.length co115] 37 (0,0)) (kq BK435.out)):gb440≠gb435));have NB0_440:=am ((Y72:g≠gb440));have NB440_0:=am ((Y73:gb440≠g));replace HO433:=am (Kd.jO (rq HO433.out) hb);replace HO438:=am (Kd.jO (rq HO438.out) hb);replace BK429:=am (jc (g:=gb429) (o:=.cells #[.slice none 0 0] 37 (0,0)) (kq BK429.out) hb);replace BK430:=am (jc (g:=gb430) (o:=.cells #[.slice none 0 0] 32 (0,0)) (kq BK430.out) hb);replace BK435:=am (jc (g:=gb435) (o:=.cells #[.slice Ao115 t431.length co115] 37 (0,0)) (kq BK435.out) hb);replace HK:=am (jd.trans (Y24) (jd.of_below hb g none) (.inl rfl));replace HB:=am (jf (Y38) hb);replace HI0:=am (ja.below (Y17) hb);clear hb hbox hg;obtain ⟨Ao122,co122,eo122⟩:=Kd.jN HO438.out;subst eo122;have hnb123:=NB440_429.out;have hnc123:=NB429_440.out;have hnb124:=NB440_430.out;have hnc124:=NB430_440.out;have hnb125:=NB440_435.out;have hnc125:=NB435_440.out;have hnb126:=NB440_0.out;have hnc126:=NB0_440.out;have hcz127_0:=bc0 BK440.out;have hfz127_0:=je BK440.out 0) |((with_reducible refine jA (f:=88) rfl ?_);refine gL (some 20) Try.func88 #[.pointer (some ⟨g,0,none⟩), .int .i64 (t436.length:Int)] ?_;(with_reducible refine (jl.calls k g s0_0 t439 (t436.length:Int) t441 t442 w0 _ ?side1 ?side2 A5.out).mono ?_);(case side1=>exact Y1);(case side2=>exact Y18);rintro e w128 ⟨rfl,hi,hb,hk⟩;refine ⟨_,rfl,?_⟩;replace BK429:=am (jd.blk hk (g':=gb429) (o:=.cells #[.slice none 0 0] 37 (0,0)) (Y87) NB429_0.out (by simp));replace BK430:=am (jd.blk hk (g':=gb430) (o:=.cells #[.slice none 0 0] 32 (0,0)) (Y88) NB430_0.out (by simp));replace HO433:=am (Kd.jH (Kd.joa (ja.apart (show ja w0 _ g s0_0 t439 from Y1) (by (with_reducible repeat (first | apply Kd.jW | apply Kd.jY | apply Kd.jU));exact (Kd.jH (Kd.jya (p:=⟨gb440,0,none⟩) (Kd.jR HO433.out BK440.out (by decide)) (fun _ hk=>hk.2) (.slice Ao122 t436.length co122)) (fun _ h_=>h_.1))) (by decide)) hk (fun _ h=>h.2)) (fun _ h=>h.1));replace BK435:=am (jd.blk hk (g':=gb435) (o:=.cells #[.slice Ao115 t431.length co115] 37 (0,0)) (Y89) NB435_0.out (by simp));replace HO438:=am (Kd.jH (Kd.joa (ja.apart (show ja w0 _ g s0_0 t439 from Y1) (by (with_reducible repeat (first | apply Kd.jW | apply Kd.jY | apply Kd.jU));exact (Kd.jH (Kd.jya (p:=⟨gb440,0,none⟩) (Kd.jR HO438.out BK440.out (by decide)) (fun _ hk=>hk.2) (.slice Ao122 t436.length co122)) (fun _ h_=>h_.1))) (by decide)) hk (fun _ h=>h.2)) (fun _ h=>h.1));replace BK440:=am (jd.blk hk (g':=gb440) (o:=.cells #[.slice Ao122 t436.length co122] 32 (0,0)) (Y90) NB440_0.out (by simp));replace HK:=am (jd.trans (Y11) hk (.inl rfl));replace HB:=am (hb);replace HI0:=am (hi);(try clear hb);(try clear hb2);(try clear hk);(try clear hi)) |((with_reducible refine jA (f:=88) rfl ?_);refine gL (some 22) Try.func88 #[.pointer (some ⟨g,0,none⟩), .int .i64 24] ?_;(with_reducible refine (jl.calls k g s0_0 t442 24 t443 t444 w0 _ ?side1 ?side2 A6.out).mono ?_);(case side1=>exact Y1);(case side2=>exact Y18);rintro e w129 ⟨rfl,hi,hb,hk⟩;refine ⟨_,rfl,?_⟩;replace BK429:=am (jd.blk hk (g':=gb429) (o:=.cells #[.slice none 0 0] 37 (0,0)) (kq BK429.out) NB429_0.out (by simp));replace BK430:=am (jd.blk hk (g':=gb430) (o:=.cells #[.slice none 0 0] 32 (0,0)) (kq BK430.out) NB430_0.out (by simp));replace HO433:=am (Kd.jH (Kd.joa (ja.apart (show ja w0 _ g s0_0 t442 from Y1) (rq HO433.out) (by decide)) hk (fun _ h=>h.2)) (fun _ h=>h.1));replace BK435:=am (jd.blk hk (g':=gb435) (o:=.cells #[.slice Ao115 t431.length co115] 37 (0,0)) (kq BK435.out) NB435_0.out (by simp));replace HO438:=am (Kd.jH (Kd.joa (ja.apart (show ja w0 _ g s0_0 t442 from Y1) (rq HO438.out) (by decide)) hk (fun _ h=>h.2)) (fun _ h=>h.1));replace BK440:=am (jd.blk hk (g':=gb440) (o:=.cells #[.slice Ao122 t436.length co122] 32 (0,0)) (kq BK440.out) NB440_0.out (by simp));replace HK:=am (jd.trans (Y11) hk (.inl rfl));replace HB:=am (hb);replace HI0:=am (hi);(try clear hb);(try clear hb2);(try clear hk);(try clear hi)))
        replace HO433:=am (Kd.jU HO433.out)
        replace HO438:=am (Kd.jU HO438.out)
        replace BK429:=am (jg BK429.out)
        replace BK430:=am (jg BK430.out)
        replace BK435:=am (jg BK435.out)
        replace BK440:=am (jg BK440.out)
        replace HI0:=am (ja.drew HI0.out)
        replace HK:=am (jZ HK.out)
        replace HB:=am (jy HB.out)
        refine jLb (n:=10) (S:=fun w'=>w'.cell? ⟨gb440,0,none⟩=some (.slice Ao122 t436.length co122)) (ds:=[9]) #[false,false,false,false,false,false,false,false,false,false] (by kernel_rfl) rfl rfl ((jI BK440.out 0).trans rfl) (fun hHeld=>?_);refine jAb jL.tab13 jL.bits13 (fun HT_ HW_=>?_)
        generalize w129.drew=w130 at HO433 HO438 BK429 BK430 BK435 BK440 HI0 HK HB hHeld ⊢
        refine pq (i:=0) (N:=some 56) #[true,false,false,false,false,false,false,false,false,false] ?_
        refine pq (i:=2) (N:=some 58) #[true,false,true,false,false,false,false,false,false,false] ?_
        refine pq (i:=3) (N:=some 59) #[true,false,true,true,false,false,false,false,false,false] ?_
        refine pq (i:=4) (N:=some 60) #[true,false,true,true,true,false,false,false,false,false] ?_
        refine jBb (i:=1) (N:=some 57) (v:=?_) (a':=?_) #[true,true,true,true,true,false,false,false,false,false] rfl rfl (jgb HT_.out HW_.out (by kernel_rfl)) (fun _ _ _ h=>h) (Or.inl ⟨by rfl,?_⟩) hHeld ?_ ?_
        rotate_left
        ·intro w' s0
         go_simp
         with_reducible rfl
        rotate_left
        ·exact sa
        refine one_ (i:=5) (N:=some 61) #[true,true,true,true,true,true,false,false,false,false] rfl rfl (jcb HT_.out (by kernel_rfl)) (by decide) (fun K hK=>?_)
        refine Kd.jEb (Kd.int .i64) _ 3 ?hg (N:=61) ?hd (xs:=([t441,24,0]:List Int)) (inner:=[.int .i64 t441, .int .i64 24, .int .i64 0]) (ok:=fun _=>True) (okp:=fun _=>True) ?hr ?hp (fun _ hk=>hk) trivial (Below.refl _ _) (Nat.le_refl _) (by simp) ?_;(case hd=>rfl);(case hg=>rfl);(case hr=>exact Y3);(case hp=>exact (Reps.one (show Kd.M (Kd.int .i64) _ _ _ t441 [.int .i64 t441] from rfl) (Reps.one (show Kd.M (Kd.int .i64) _ _ _ 24 [.int .i64 24] from rfl) (Reps.one (show Kd.M (Kd.int .i64) _ _ _ 0 [.int .i64 0] from rfl) (Reps.none _ _)))))
        intro v461 w131 ho132 hb hg_ hnew_
        clear hg_ hnew_
        (first | rw [← Ny460.out] at ho132 |(simp only [Int.reduceToNat] at ho132;rw [← Ny460.out] at ho132))
        have HO462:=am (Kd.jV ho132 (jda (w:=w) (g:=g) (row:=none) (Y11)))
        replace HO433:=am (Kd.jO (rq HO433.out) hb)
        replace HO438:=am (Kd.jO (rq HO438.out) hb)
        replace BK429:=am (jc (g:=gb429) (o:=.cells #[.slice none 0 0] 37 (0,0)) (kq BK429.out) hb)
        replace BK430:=am (jc (g:=gb430) (o:=.cells #[.slice none 0 0] 32 (0,0)) (kq BK430.out) hb)
        replace BK435:=am (jc (g:=gb435) (o:=.cells #[.slice Ao115 t431.length co115] 37 (0,0)) (kq BK435.out) hb)
        replace BK440:=am (jc (g:=gb440) (o:=.cells #[.slice Ao122 t436.length co122] 32 (0,0)) (kq BK440.out) hb)
        replace HK:=am (jd.trans (Y11) (jd.of_below hb g none) (.inl rfl))
        replace HB:=am (jf (Y18) hb)
        replace HI0:=am (ja.below (Y1) hb)
        clear hb ho132
        obtain ⟨Ao133,co133,eo133⟩:=Kd.jN HO462.out
        (first | subst eo133 |(injection eo133 with f1_ f2_ f3_;have f4_:=f1_.symm;have f5_:=f3_.symm;clear f1_ f2_ f3_;subst f4_;subst f5_))
        refine hK.out _ _ ((jI BK440.out 0).trans rfl) (fun hHeld=>?_)
        clear hK K
        refine jJb (a':=?_) ?_ ?_
        rotate_left
        ·show Act.put _ (some 61) _=_
         simp only [Act.put,List.setIfInBounds_toArray,List.set_cons_zero,List.set_cons_succ,jqb,jwb]
         rfl
        refine one_ (i:=6) (N:=some 62) #[true,true,true,true,true,true,true,false,false,false] rfl rfl (jcb HT_.out (by kernel_rfl)) (by decide) (fun K hK=>?_)
        refine goes_ Try.func89 (by kernel_rfl) rfl #[.pointer (some ⟨g,0,none⟩), .slice Ao133 y460.length co133] (by rfl) rfl rfl (aq) ?_
        with_reducible refine (jw.calls k g s0_0 t444 _ _ y460 t463 t464 w0 _ ?side1 ?side2 ?side3 ?side4 ?side5 A107.out).mono ?_
        (case side1=>exact Y1)
        (case side2=>exact Y18)
        (case side3=>exact cq (Kd.jm HO462.out).2.2)
        (case side4=>exact (Kd.jm HO462.out).2.1)
        (case side5=>exact jsb (ja.own_ne HI0.out HO462.out (by decide)))
        rintro e w134 ⟨rfl,hi,hb,hk⟩
        refine ⟨_,rfl,?_⟩
        replace BK429:=am (jd.blk hk (g':=gb429) (o:=.cells #[.slice none 0 0] 37 (0,0)) (kq BK429.out) NB429_0.out (by simp))
        replace BK430:=am (jd.blk hk (g':=gb430) (o:=.cells #[.slice none 0 0] 32 (0,0)) (kq BK430.out) NB430_0.out (by simp))
        replace HO433:=am (Kd.jH (Kd.joa (ja.apart (show ja w0 _ g s0_0 t444 from Y1) (rq HO433.out) (by decide)) hk (fun _ h=>h.2)) (fun _ h=>h.1))
        replace BK435:=am (jd.blk hk (g':=gb435) (o:=.cells #[.slice Ao115 t431.length co115] 37 (0,0)) (kq BK435.out) NB435_0.out (by simp))
        replace HO438:=am (Kd.jH (Kd.joa (ja.apart (show ja w0 _ g s0_0 t444 from Y1) (rq HO438.out) (by decide)) hk (fun _ h=>h.2)) (fun _ h=>h.1))
        replace BK440:=am (jd.blk hk (g':=gb440) (o:=.cells #[.slice Ao122 t436.length co122] 32 (0,0)) (kq BK440.out) NB440_0.out (by simp))
        replace HO462:=am (Kd.jH (Kd.joa (ja.apart (show ja w0 _ g s0_0 t444 from Y1) (rq HO462.out) (by decide)) hk (fun _ h=>h.2)) (fun _ h=>h.1))
        replace HK:=am (jd.trans (Y11) hk (.inl rfl))
        replace HB:=am (hb)
        replace HI0:=am (hi)
        (try clear hb)
        (try clear hb2)
        (try clear hk)
        (try clear hi)
        have p110:0≤(t441:Int):=ozD (uq)
        have q110:(t441:Int)<((t436.length:Int):Int):=ozD (uq)
        obtain ⟨go110,co110,eo110,gb110,gl110,cl110,HG110⟩:=Kd.R_form HO438.out (by omega)
        (first | cases eo110 |(injection eo110 with ea_ en_ ec_;(first | subst ea_ |(injection ea_ with ea_;subst ea_));subst ec_;clear en_))
        have GB110:=am gb110
        have GG110:=am HG110
        clear gb110 gl110 HG110
        obtain ⟨ce110,hcl110,hM110,hcc110,hfr110⟩:=Kd.jub HO438.out z54 (t441:Int) p110 q110
        obtain rfl:=jUa hM110
        have hx110_0:World.cell? _ ⟨go110,(t441:Int).toNat * 5,none⟩=some (.int .i64 ((jb t436 t441).f0)):=hcc110 0 _ rfl
        have hx110_1:World.cell? _ ⟨go110,(t441:Int).toNat * 5+1,none⟩=some (.int .i64 ((jb t436 t441).f1)):=hcc110 1 _ rfl
        have hx110_2:World.cell? _ ⟨go110,(t441:Int).toNat * 5+2,none⟩=some (.int .i64 ((jb t436 t441).f2)):=hcc110 2 _ rfl
        have hx110_3:World.cell? _ ⟨go110,(t441:Int).toNat * 5+3,none⟩=some (.int .i64 ((jb t436 t441).f3)):=hcc110 3 _ rfl
        have hx110_4:World.cell? _ ⟨go110,(t441:Int).toNat * 5+4,none⟩=some (.bool ((jb t436 t441).f4)):=hcc110 4 _ rfl
        have hf110_0:World.frozen? _ ⟨go110,(t441:Int).toNat * 5,none⟩=false:=hfr110 0
        have hf110_1:World.frozen? _ ⟨go110,(t441:Int).toNat * 5+1,none⟩=false:=hfr110 1
        have hf110_2:World.frozen? _ ⟨go110,(t441:Int).toNat * 5+2,none⟩=false:=hfr110 2
        have hf110_3:World.frozen? _ ⟨go110,(t441:Int).toNat * 5+3,none⟩=false:=hfr110 3
        have hf110_4:World.frozen? _ ⟨go110,(t441:Int).toNat * 5+4,none⟩=false:=hfr110 4
        clear hcl110 hcc110 hfr110 hM110
        replace p110:=ezT p110
        replace q110:=ezT q110
        have HN0_go110:=am (show g≠go110 from by have h_:=ja.own_ne HI0.out HO438.out (by decide);intro e_;exact h_ (by rw [e_];rfl))
        obtain ⟨ce135,hcl135,hM135,hcc135,hfr135⟩:=Kd.jub HO438.out z54 (t441:Int) (ozD (uq)) (by have h_:(t441:Int)<((t436.length:Int):Int):=ozD (uq);first | exact h_ |(have e_:=(Kd.jm HO438.out).1;omega) | simpa using h_)
        obtain rfl:=jUa hM135
        have HP135:=(Kd.R_seg HO438.out (t441:Int) (ozD (uq)) (by have h_:(t441:Int)<((t436.length:Int):Int):=ozD (uq);first | exact h_ |(have e_:=(Kd.jm HO438.out).1;omega) | simpa using h_) (seg:=[.int .i64 t463]) (j:=2) hcl135 hcc135 (show 3≤5 from by decide) (x':=(⟨(jb t436 t441).f0,(jb t436 t441).f1,t463,(jb t436 t441).f3,(jb t436 t441).f4⟩:S54)) (jSb _ _ _ (⟨(jb t436 t441).f0,(jb t436 t441).f1,t463,(jb t436 t441).f3,(jb t436 t441).f4⟩:S54) ) (fun _ hk=>hk)).1
        rw [← Ny465.out] at HP135
        have HQ135:=am HP135
        clear hcl135 hcc135 hfr135 hM135 HP135
        refine hK.out _ _ ((jI BK440.out 0).trans rfl) (fun hHeld=>?_)
        clear hK K
        refine jJb (a':=?_) ?_ ?_
        rotate_left
        ·show Act.put _ (some 62) _=_
         simp only [Act.put,List.setIfInBounds_toArray,List.set_cons_zero,List.set_cons_succ,jqb,jwb]
         rfl
        refine pq (i:=7) (N:=some 63) #[true,true,true,true,true,true,true,true,false,false] ?_
        refine pq (i:=8) (N:=some 64) #[true,true,true,true,true,true,true,true,true,false] ?_
        refine last_ (i:=9) (N:=none) #[true,true,true,true,true,true,true,true,true,true] rfl rfl (jcb HT_.out (by kernel_rfl)) (by decide) (fun K hK=>?_)
        refine jRb (w1:=?_) (by rfl) rfl ?_ ?_
        rotate_left
        ·go_simp
         rfl
        refine hK.out _ _ ?_
        clear hK K
        refine done_ (jXb HT_.out (by kernel_rfl)) ?_
        have n0_:jB (Kd.R k94 94 (w134.setCell ⟨go110,(t441:Int).toNat * 5+2,none⟩ (.int .i64 t463)) w.heap.size (fun _=>True) (.slice Ao115 t431.length co115) t431):=⟨by (with_reducible repeat (first | apply Kd.jW | apply Kd.jY | apply Kd.jU));exact Kd.jH (Kd.jya (p:=⟨go110,(t441:Int).toNat * 5+2,none⟩) (Kd.jR HO433.out GG110.out (by decide)) (fun _ hk=>hk.2) (.int .i64 t463)) (fun _ hk=>trivial)⟩
        have n1_:jB (Kd.R k54 54 (w134.setCell ⟨go110,(t441:Int).toNat * 5+2,none⟩ (.int .i64 t463)) w.heap.size (fun _=>True) (.slice (some ⟨go110,0,none⟩) t436.length co122) y465):=⟨rq HQ135.out⟩
        have n2_:jB (Kd.R (Kd.int .i64) 3 (w134.setCell ⟨go110,(t441:Int).toNat * 5+2,none⟩ (.int .i64 t463)) w.heap.size (fun _=>True) (.slice Ao133 y460.length co133) y460):=⟨by (with_reducible repeat (first | apply Kd.jW | apply Kd.jY | apply Kd.jU));exact Kd.jH (Kd.jya (p:=⟨go110,(t441:Int).toNat * 5+2,none⟩) (Kd.jR HO462.out GG110.out (by decide)) (fun _ hk=>hk.2) (.int .i64 t463)) (fun _ hk=>trivial)⟩
        have n3_:jB ((w134.setCell ⟨go110,(t441:Int).toNat * 5+2,none⟩ (.int .i64 t463)).heap[gb429]?=some (.cells #[.slice none 0 0] 37 (0,0))):=⟨by (with_reducible repeat (first | refine jh ?_ _ | refine jg ?_ | refine jk ?_ _));refine jaa ?_ (by have h_:=Kd.R_ne HO438.out BK429.out (by decide);intro e_;exact h_ (by rw [e_];rfl)) _;(with_reducible repeat (first | refine jh ?_ _ | refine jg ?_ | refine jk ?_ _));exact BK429.out⟩
        have n4_:jB ((w134.setCell ⟨go110,(t441:Int).toNat * 5+2,none⟩ (.int .i64 t463)).heap[gb430]?=some (.cells #[.slice none 0 0] 32 (0,0))):=⟨by (with_reducible repeat (first | refine jh ?_ _ | refine jg ?_ | refine jk ?_ _));refine jaa ?_ (by have h_:=Kd.R_ne HO438.out BK430.out (by decide);intro e_;exact h_ (by rw [e_];rfl)) _;(with_reducible repeat (first | refine jh ?_ _ | refine jg ?_ | refine jk ?_ _));exact BK430.out⟩
        have n5_:jB ((w134.setCell ⟨go110,(t441:Int).toNat * 5+2,none⟩ (.int .i64 t463)).heap[gb435]?=some (.cells #[.slice Ao115 t431.length co115] 37 (0,0))):=⟨by (with_reducible repeat (first | refine jh ?_ _ | refine jg ?_ | refine jk ?_ _));refine jaa ?_ (by have h_:=Kd.R_ne HO438.out BK435.out (by decide);intro e_;exact h_ (by rw [e_];rfl)) _;(with_reducible repeat (first | refine jh ?_ _ | refine jg ?_ | refine jk ?_ _));exact BK435.out⟩
        have n6_:jB ((w134.setCell ⟨go110,(t441:Int).toNat * 5+2,none⟩ (.int .i64 t463)).heap[gb440]?=some (.cells #[.slice (some ⟨go110,0,none⟩) t436.length co122] 32 (0,0))):=⟨by (with_reducible repeat (first | refine jh ?_ _ | refine jg ?_ | refine jk ?_ _));refine jaa ?_ (by have h_:=Kd.R_ne HO438.out BK440.out (by decide);intro e_;exact h_ (by rw [e_];rfl)) _;(with_reducible repeat (first | refine jh ?_ _ | refine jg ?_ | refine jk ?_ _));exact BK440.out⟩
        have n7_:jB (ja w0 (w134.setCell ⟨go110,(t441:Int).toNat * 5+2,none⟩ (.int .i64 t463)) g s0_0 t464):=⟨by repeat (first |(with_reducible first | exact HI0.out | apply ja.alloc | apply ja.drewN | apply ja.drew | apply ja.jdb | refine ja.far ?_ HN0_go110.out _ | refine ja.far ?_ NB0_429.out _ | refine ja.far ?_ NB0_430.out _ | refine ja.far ?_ NB0_435.out _ | refine ja.far ?_ NB0_440.out _) | exact HI0.out)⟩
        have n8_:jB (jd w (w134.setCell ⟨go110,(t441:Int).toNat * 5+2,none⟩ (.int .i64 t463)) g none):=⟨by repeat (first |(with_reducible first | exact HK.out | apply jd.set_ | apply jia | apply jZ | apply jja | refine jM ?_ GB110.out _ | refine jM ?_ GW429.out _ | refine jM ?_ GW430.out _ | refine jM ?_ GW435.out _ | refine jM ?_ GW440.out _) | exact HK.out)⟩
        have n9_:jB (Below w0.heap.size w0 (w134.setCell ⟨go110,(t441:Int).toNat * 5+2,none⟩ (.int .i64 t463))):=⟨by repeat (first |(with_reducible first | exact HB.out | apply jC | apply jr | apply jy | refine jq ?_ (Nat.le_trans HL.out GB110.out) | refine jq ?_ (ja.ge HI0.out) | refine jq ?_ GE429.out | refine jq ?_ GE430.out | refine jq ?_ GE435.out | refine jq ?_ GE440.out) | exact HB.out)⟩
        (try clear HO433)
        (try clear HO438)
        (try clear HO462)
        (try clear BK429)
        (try clear BK430)
        (try clear BK435)
        (try clear BK440)
        (try clear HI0)
        (try clear HK)
        (try clear HB)
        generalize (w134.setCell ⟨go110,(t441:Int).toNat * 5+2,none⟩ (.int .i64 t463))=w136 at n0_ n1_ n2_ n3_ n4_ n5_ n6_ n7_ n8_ n9_ ⊢
        have HO433:=n0_
        have HO438:=n1_
        have HO462:=n2_
        have BK429:=n3_
        have BK430:=n4_
        have BK435:=n5_
        have BK440:=n6_
        have HI0:=n7_
        have HK:=n8_
        have HB:=n9_
        clear n0_ n1_ n2_ n3_ n4_ n5_ n6_ n7_ n8_ n9_
        try go_wp2
        replace HO433:=am (Kd.jU HO433.out)
        replace HO438:=am (Kd.jU HO438.out)
        replace HO462:=am (Kd.jU HO462.out)
        replace BK429:=am (jg BK429.out)
        replace BK430:=am (jg BK430.out)
        replace BK435:=am (jg BK435.out)
        replace BK440:=am (jg BK440.out)
        replace HI0:=am (ja.drew HI0.out)
        replace HK:=am (jZ HK.out)
        replace HB:=am (jy HB.out)
        refine jLb (n:=4) (S:=fun w'=>w'.cell? ⟨gb435,0,none⟩=some (.slice Ao115 t431.length co115)∧w'.cell? ⟨gb440,0,none⟩=some (.slice (some ⟨go110,0,none⟩) t436.length co122)) (ds:=[]) #[false,false,false,false] (by kernel_rfl) rfl rfl ⟨(jI BK435.out 0).trans rfl,(jI BK440.out 0).trans rfl⟩ (fun hHeld=>?_)
        generalize w136.drew=w137 at HO433 HO438 HO462 BK429 BK430 BK435 BK440 HI0 HK HB hHeld ⊢
        refine jBb (i:=0) (N:=some 65) (v:=?_) (a':=?_) #[true,false,false,false] rfl rfl (by kernel_rfl) (fun _ _ _ h=>h) (Or.inl ⟨by rfl,?_⟩) hHeld ?_ ?_
        rotate_left
        ·rintro w' ⟨s0,s1⟩
         go_simp
         with_reducible rfl
        rotate_left
        ·exact sa
        refine jBb (i:=1) (N:=some 66) (v:=?_) (a':=?_) #[true,true,false,false] rfl rfl (by kernel_rfl) (fun _ _ _ h=>h) (Or.inl ⟨by rfl,?_⟩) hHeld ?_ ?_
        rotate_left
        ·rintro w' ⟨s0,s1⟩
         go_simp
         with_reducible rfl
        rotate_left
        ·exact sa
        refine one_ (i:=2) (N:=none) #[true,true,true,false] rfl rfl (by kernel_rfl) (by decide) (fun K hK=>?_)
        have hs138:w137.cell? ⟨gb429,0,none⟩=some (.slice none 0 0):=(jI BK429.out 0).trans rfl
        have hfs138:=je BK429.out 0
        have hns138_1:=NB430_429.out
        have hns138_2:=NB435_429.out
        have hns138_3:=NB440_429.out
        have hms138_1:=NB429_430.out
        have hms138_2:=NB429_435.out
        have hms138_3:=NB429_440.out
        refine jRb (w1:=?_) (by rfl) rfl ?_ ?_
        rotate_left
        ·go_simp
         rfl
        refine hK.out _ _ ⟨((cell_far (p:=⟨gb429,_,none⟩) NB435_429.out _).trans (hHeld.1)),((cell_far (p:=⟨gb429,_,none⟩) NB440_429.out _).trans (hHeld.2))⟩ (fun hHeld=>?_)
        clear hK K
        refine one_ (i:=3) (N:=none) #[true,true,true,true] rfl rfl (by kernel_rfl) (by decide) (fun K hK=>?_)
        have hs139:w137.cell? ⟨gb430,0,none⟩=some (.slice none 0 0):=(jI BK430.out 0).trans rfl
        have hfs139:=je BK430.out 0
        have hns139_0:=NB429_430.out
        have hns139_2:=NB435_430.out
        have hns139_3:=NB440_430.out
        have hms139_0:=NB430_429.out
        have hms139_2:=NB430_435.out
        have hms139_3:=NB430_440.out
        refine jRb (w1:=?_) (by rfl) rfl ?_ ?_
        rotate_left
        ·go_simp
         rfl
        refine hK.out _ _ ⟨((cell_far (p:=⟨gb430,_,none⟩) NB435_430.out _).trans (hHeld.1)),((cell_far (p:=⟨gb430,_,none⟩) NB440_430.out _).trans (hHeld.2))⟩ (fun hHeld=>?_)
        clear hK K
        refine done_ (by kernel_rfl) ?_
        try go_wp2
        refine bodyPost_ret (jOb rfl _ _ gb429 gb430 37 32 #[.slice Ao115 t431.length co115] #[.slice (some ⟨go110,0,none⟩) t436.length co122] (0,0) (0,0) _ _ rfl (Y74) Try.underlying37 rfl (by kernel_rfl) rfl (Y75) Try.underlying32 rfl (by kernel_rfl)) rfl ?_
        exact ⟨_,_,Y2,by (with_reducible repeat (first | apply Kd.jW | apply Kd.jY | apply Kd.jU));exact Kd.jH (Kd.jya (p:=⟨gb430,0,none⟩) (Kd.jya (p:=⟨gb429,0,none⟩) (Kd.jR (Kd.jR HO433.out BK429.out (by decide)) BK430.out (by decide)) (fun _ hk=>hk.1.2) (.slice Ao115 t431.length co115)) (fun _ hk=>hk.2) (.slice (some ⟨go110,0,none⟩) t436.length co122)) (fun _ hk=>trivial),by (with_reducible repeat (first | apply Kd.jW | apply Kd.jY | apply Kd.jU));exact Kd.jH (Kd.jya (p:=⟨gb430,0,none⟩) (Kd.jya (p:=⟨gb429,0,none⟩) (Kd.jR (Kd.jR HO438.out BK429.out (by decide)) BK430.out (by decide)) (fun _ hk=>hk.1.2) (.slice Ao115 t431.length co115)) (fun _ hk=>hk.2) (.slice (some ⟨go110,0,none⟩) t436.length co122)) (fun _ hk=>trivial),Y1,Y18,Y11⟩
       ·rw [if_neg c109] at H
        exact absurd H (by simp)
      ·rw [if_neg c108] at H
       exact absurd H (by simp)
     ·rw [if_neg c106] at H
      have c106b0:(t443 == 3)=false:=beq_eq_false_iff_ne.mpr c106
      have c106b1:(t443 != 3)=true:=bne_iff_ne.mpr c106
      simp only [Option.some.injEq,Prod.mk.injEq] at H
      obtain ⟨rfl,rfl,rfl⟩:=H
      go_enter Try.func61,Try.ntmps61
      try go_wp2_with (first |((with_reducible refine jG (N:=2) rfl ?_);refine bE (N:=2) (cs:=#[.slice none 0 0]) (t:=37) ?_;intro gb429 hg w140 hbox hb;have BK429:=am (hbox);have GW429:=am ((Y8:w.heap.size≤gb429));have GE429:=am ((Nat.le_trans HW0.out (Y8:w.heap.size≤gb429):w0.heap.size≤gb429));have NB0_429:=am ((Y25:g≠gb429));have NB429_0:=am ((Y26:gb429≠g));replace HK:=am (jd.trans (Y14) (jd.of_below hb g none) (.inl rfl));replace HB:=am (jf (Y15) hb);replace HI0:=am (ja.below (Y13) hb);clear hb hbox hg) |((with_reducible refine jG (N:=3) rfl ?_);refine bE (N:=3) (cs:=#[.slice none 0 0]) (t:=32) ?_;intro gb430 hg w141 hbox hb;have BK430:=am (hbox);have GW430:=am ((Y32:w.heap.size≤gb430));have GE430:=am ((Nat.le_trans HW0.out (Y32:w.heap.size≤gb430):w0.heap.size≤gb430));have NB429_430:=am ((Y21:gb429≠gb430));have NB430_429:=am ((Y22:gb430≠gb429));have NB0_430:=am ((Y62:g≠gb430));have NB430_0:=am ((Y63:gb430≠g));replace BK429:=am (jc (g:=gb429) (o:=.cells #[.slice none 0 0] 37 (0,0)) (kq BK429.out) hb);replace HK:=am (jd.trans (Y64) (jd.of_below hb g none) (.inl rfl));replace HB:=am (jf (Y65) hb);replace HI0:=am (ja.below (Y66) hb);clear hb hbox hg) |((with_reducible refine jA (f:=87) rfl ?_);refine gL (some 8) Try.func87 #[.pointer (some ⟨g,0,none⟩)] ?_;(with_reducible refine (jba.calls k g s0_0 s0_1 t431 t434 w0 _ ?side1 ?side2 A2.out).mono ?_);(case side1=>exact Y33);(case side2=>exact Y34);rintro e w142 ⟨v432,rfl,ho0,hi,hb,hk⟩;refine ⟨_,rfl,?_⟩;have HO433:=am (Kd.jV ho0 (jda (w:=w) (g:=g) (row:=none) (Y23)));replace BK429:=am (jd.blk hk (g':=gb429) (o:=.cells #[.slice none 0 0] 37 (0,0)) (kq BK429.out) NB429_0.out (by simp));replace BK430:=am (jd.blk hk (g':=gb430) (o:=.cells #[.slice none 0 0] 32 (0,0)) (kq BK430.out) NB430_0.out (by simp));replace HK:=am (jd.trans (Y23) hk (.inl rfl));replace HB:=am (hb);replace HI0:=am (hi);(try clear hb);(try clear hb2);(try clear hk);(try clear hi);(try clear ho0)) |((with_reducible refine jG (N:=4) rfl ?_);refine bE (N:=4) (cs:=#[.slice none 0 0]) (t:=37) ?_;intro gb435 hg w143 hbox hb;have BK435:=am (hbox);have GW435:=am ((Y35:w.heap.size≤gb435));have GE435:=am ((Nat.le_trans HW0.out (Y35:w.heap.size≤gb435):w0.heap.size≤gb435));have NB429_435:=am ((Y21:gb429≠gb435));have NB435_429:=am ((Y22:gb435≠gb429));have NB430_435:=am ((Y36:gb430≠gb435));have NB435_430:=am ((Y37:gb435≠gb430));have NB0_435:=am ((Y67:g≠gb435));have NB435_0:=am ((Y68:gb435≠g));replace HO433:=am (Kd.jO (rq HO433.out) hb);replace BK429:=am (jc (g:=gb429) (o:=.cells #[.slice none 0 0] 37 (0,0)) (kq BK429.out) hb);replace BK430:=am (jc (g:=gb430) (o:=.cells #[.slice none 0 0] 32 (0,0)) (kq BK430.out) hb);replace HK:=am (jd.trans (Y23) (jd.of_below hb g none) (.inl rfl));replace HB:=am (jf (Y34) hb);replace HI0:=am (ja.below (Y33) hb);clear hb hbox hg;obtain ⟨Ao144,co144,eo144⟩:=Kd.jN HO433.out;subst eo144;have hnb145:=NB435_429.out;have hnc145:=NB429_435.out;have hnb146:=NB435_430.out;have hnc146:=NB430_435.out;have hnb147:=NB435_0.out;have hnc147:=NB0_435.out;have hcz148_0:=bc0 BK435.out;have hfz148_0:=je BK435.out 0) |((with_reducible refine jA (f:=62) rfl ?_);refine gL (some 11) Try.func62 #[.pointer (some ⟨g,0,none⟩), .agg #[.slice Ao144 t431.length co144]] ?_;(with_reducible refine (jv.calls k g s0_0 t434 _ _ t431 t436 t439 w0 _ ?side1 ?side2 ?side3 ?side4 A3.out).mono ?_);(case side1=>exact Y17);(case side2=>exact Y38);(case side3=>exact Kd.jFb (ja.apart (show ja w0 _ g s0_0 t434 from Y17) (Y152) (by decide)) (fun _ h_=>h_.2));(case side4=>exact (Kd.jm HO433.out).2.1);rintro e w149 ⟨v437,rfl,ho0,hi,hb,hk⟩;refine ⟨_,rfl,?_⟩;have HO438:=am (Kd.jV ho0 (jda (w:=w) (g:=g) (row:=none) (Y24)));replace BK429:=am (jd.blk hk (g':=gb429) (o:=.cells #[.slice none 0 0] 37 (0,0)) (Y69) NB429_0.out (by simp));replace BK430:=am (jd.blk hk (g':=gb430) (o:=.cells #[.slice none 0 0] 32 (0,0)) (Y70) NB430_0.out (by simp));replace HO433:=am (Kd.jH (Kd.joa (ja.apart (show ja w0 _ g s0_0 t434 from Y17) (Y152) (by decide)) hk (fun _ h=>h.2)) (fun _ h=>h.1));replace BK435:=am (jd.blk hk (g':=gb435) (o:=.cells #[.slice Ao144 t431.length co144] 37 (0,0)) (Y71) NB435_0.out (by simp));replace HK:=am (jd.trans (Y24) hk (.inl rfl));replace HB:=am (hb);replace HI0:=am (hi);(try clear hb);(try clear hb2);(try clear hk);(try clear hi);(try clear ho0)) |((with_reducible refine jG (N:=5) rfl ?_);refine bE (N:=5) (cs:=#[.slice none 0 0]) (t:=32) ?_;intro gb440 hg w150 hbox hb;have BK440:=am (hbox);have GW440:=am ((Y39:w.heap.size≤gb440));have GE440:=am ((Nat.le_trans HW0.out (Y39:w.heap.size≤gb440):w0.heap.size≤gb440));have NB429_440:=am ((Y21:gb429≠gb440));have NB440_429:=am ((Y22:gb440≠gb429));have NB430_440:=am ((Y36:gb430≠gb440));have NB440_430:=am ((Y37:gb440≠gb430));have NB435_440:=am ((by rw [hg];exact Nat.ne_of_lt (jha (g:=gb435) (o:=.cells #[.slice Ao144 t431.length co144] 37 (0,0)) (kq BK435.out)):gb435≠gb440));have NB440_435:=am ((by rw [hg];exact Nat.ne_of_gt (jha (g:=gb435) (o:=.cells #[.slice Ao144 t431.length co144] 37 (0,0)) (kq BK435.out)):gb440≠gb435));have NB0_440:=am ((Y72:g≠gb440));have NB440_0:=am ((Y73:gb440≠g));replace HO433:=am (Kd.jO (rq HO433.out) hb);replace HO438:=am (Kd.jO (rq HO438.out) hb);replace BK429:=am (jc (g:=gb429) (o:=.cells #[.slice none 0 0] 37 (0,0)) (kq BK429.out) hb);replace BK430:=am (jc (g:=gb430) (o:=.cells #[.slice none 0 0] 32 (0,0)) (kq BK430.out) hb);replace BK435:=am (jc (g:=gb435) (o:=.cells #[.slice Ao144 t431.length co144] 37 (0,0)) (kq BK435.out) hb);replace HK:=am (jd.trans (Y24) (jd.of_below hb g none) (.inl rfl));replace HB:=am (jf (Y38) hb);replace HI0:=am (ja.below (Y17) hb);clear hb hbox hg;obtain ⟨Ao151,co151,eo151⟩:=Kd.jN HO438.out;subst eo151;have hnb152:=NB440_429.out;have hnc152:=NB429_440.out;have hnb153:=NB440_430.out;have hnc153:=NB430_440.out;have hnb154:=NB440_435.out;have hnc154:=NB435_440.out;have hnb155:=NB440_0.out;have hnc155:=NB0_440.out;have hcz156_0:=bc0 BK440.out;have hfz156_0:=je BK440.out 0) |((with_reducible refine jA (f:=88) rfl ?_);refine gL (some 20) Try.func88 #[.pointer (some ⟨g,0,none⟩), .int .i64 (t436.length:Int)] ?_;(with_reducible refine (jl.calls k g s0_0 t439 (t436.length:Int) t441 t442 w0 _ ?side1 ?side2 A5.out).mono ?_);(case side1=>exact Y1);(case side2=>exact Y18);rintro e w157 ⟨rfl,hi,hb,hk⟩;refine ⟨_,rfl,?_⟩;replace BK429:=am (jd.blk hk (g':=gb429) (o:=.cells #[.slice none 0 0] 37 (0,0)) (Y87) NB429_0.out (by simp));replace BK430:=am (jd.blk hk (g':=gb430) (o:=.cells #[.slice none 0 0] 32 (0,0)) (Y88) NB430_0.out (by simp));replace HO433:=am (Kd.jH (Kd.joa (ja.apart (show ja w0 _ g s0_0 t439 from Y1) (by (with_reducible repeat (first | apply Kd.jW | apply Kd.jY | apply Kd.jU));exact (Kd.jH (Kd.jya (p:=⟨gb440,0,none⟩) (Kd.jR HO433.out BK440.out (by decide)) (fun _ hk=>hk.2) (.slice Ao151 t436.length co151)) (fun _ h_=>h_.1))) (by decide)) hk (fun _ h=>h.2)) (fun _ h=>h.1));replace BK435:=am (jd.blk hk (g':=gb435) (o:=.cells #[.slice Ao144 t431.length co144] 37 (0,0)) (Y89) NB435_0.out (by simp));replace HO438:=am (Kd.jH (Kd.joa (ja.apart (show ja w0 _ g s0_0 t439 from Y1) (by (with_reducible repeat (first | apply Kd.jW | apply Kd.jY | apply Kd.jU));exact (Kd.jH (Kd.jya (p:=⟨gb440,0,none⟩) (Kd.jR HO438.out BK440.out (by decide)) (fun _ hk=>hk.2) (.slice Ao151 t436.length co151)) (fun _ h_=>h_.1))) (by decide)) hk (fun _ h=>h.2)) (fun _ h=>h.1));replace BK440:=am (jd.blk hk (g':=gb440) (o:=.cells #[.slice Ao151 t436.length co151] 32 (0,0)) (Y90) NB440_0.out (by simp));replace HK:=am (jd.trans (Y11) hk (.inl rfl));replace HB:=am (hb);replace HI0:=am (hi);(try clear hb);(try clear hb2);(try clear hk);(try clear hi)) |((with_reducible refine jA (f:=88) rfl ?_);refine gL (some 22) Try.func88 #[.pointer (some ⟨g,0,none⟩), .int .i64 24] ?_;(with_reducible refine (jl.calls k g s0_0 t442 24 t443 t444 w0 _ ?side1 ?side2 A6.out).mono ?_);(case side1=>exact Y1);(case side2=>exact Y18);rintro e w158 ⟨rfl,hi,hb,hk⟩;refine ⟨_,rfl,?_⟩;replace BK429:=am (jd.blk hk (g':=gb429) (o:=.cells #[.slice none 0 0] 37 (0,0)) (kq BK429.out) NB429_0.out (by simp));replace BK430:=am (jd.blk hk (g':=gb430) (o:=.cells #[.slice none 0 0] 32 (0,0)) (kq BK430.out) NB430_0.out (by simp));replace HO433:=am (Kd.jH (Kd.joa (ja.apart (show ja w0 _ g s0_0 t442 from Y1) (rq HO433.out) (by decide)) hk (fun _ h=>h.2)) (fun _ h=>h.1));replace BK435:=am (jd.blk hk (g':=gb435) (o:=.cells #[.slice Ao144 t431.length co144] 37 (0,0)) (kq BK435.out) NB435_0.out (by simp));replace HO438:=am (Kd.jH (Kd.joa (ja.apart (show ja w0 _ g s0_0 t442 from Y1) (rq HO438.out) (by decide)) hk (fun _ h=>h.2)) (fun _ h=>h.1));replace BK440:=am (jd.blk hk (g':=gb440) (o:=.cells #[.slice Ao151 t436.length co151] 32 (0,0)) (kq BK440.out) NB440_0.out (by simp));replace HK:=am (jd.trans (Y11) hk (.inl rfl));replace HB:=am (hb);replace HI0:=am (hi);(try clear hb);(try clear hb2);(try clear hk);(try clear hi)))
      replace HO433:=am (Kd.jU HO433.out)
      replace HO438:=am (Kd.jU HO438.out)
      replace BK429:=am (jg BK429.out)
      replace BK430:=am (jg BK430.out)
      replace BK435:=am (jg BK435.out)
      replace BK440:=am (jg BK440.out)
      replace HI0:=am (ja.drew HI0.out)
      replace HK:=am (jZ HK.out)
      replace HB:=am (jy HB.out)
      refine jLb (n:=4) (S:=fun w'=>w'.cell? ⟨gb435,0,none⟩=some (.slice Ao144 t431.length co144)∧w'.cell? ⟨gb440,0,none⟩=some (.slice Ao151 t436.length co151)) (ds:=[]) #[false,false,false,false] (by kernel_rfl) rfl rfl ⟨(jI BK435.out 0).trans rfl,(jI BK440.out 0).trans rfl⟩ (fun hHeld=>?_)
      generalize w158.drew=w159 at HO433 HO438 BK429 BK430 BK435 BK440 HI0 HK HB hHeld ⊢
      refine jBb (i:=0) (N:=some 65) (v:=?_) (a':=?_) #[true,false,false,false] rfl rfl (by kernel_rfl) (fun _ _ _ h=>h) (Or.inl ⟨by rfl,?_⟩) hHeld ?_ ?_
      rotate_left
      ·rintro w' ⟨s0,s1⟩
       go_simp
       with_reducible rfl
      rotate_left
      ·exact sa
      refine jBb (i:=1) (N:=some 66) (v:=?_) (a':=?_) #[true,true,false,false] rfl rfl (by kernel_rfl) (fun _ _ _ h=>h) (Or.inl ⟨by rfl,?_⟩) hHeld ?_ ?_
      rotate_left
      ·rintro w' ⟨s0,s1⟩
       go_simp
       with_reducible rfl
      rotate_left
      ·exact sa
      refine one_ (i:=2) (N:=none) #[true,true,true,false] rfl rfl (by kernel_rfl) (by decide) (fun K hK=>?_)
      have hs160:w159.cell? ⟨gb429,0,none⟩=some (.slice none 0 0):=(jI BK429.out 0).trans rfl
      have hfs160:=je BK429.out 0
      have hns160_1:=NB430_429.out
      have hns160_2:=NB435_429.out
      have hns160_3:=NB440_429.out
      have hms160_1:=NB429_430.out
      have hms160_2:=NB429_435.out
      have hms160_3:=NB429_440.out
      refine jRb (w1:=?_) (by rfl) rfl ?_ ?_
      rotate_left
      ·go_simp
       rfl
      refine hK.out _ _ ⟨((cell_far (p:=⟨gb429,_,none⟩) NB435_429.out _).trans (hHeld.1)),((cell_far (p:=⟨gb429,_,none⟩) NB440_429.out _).trans (hHeld.2))⟩ (fun hHeld=>?_)
      clear hK K
      refine one_ (i:=3) (N:=none) #[true,true,true,true] rfl rfl (by kernel_rfl) (by decide) (fun K hK=>?_)
      have hs161:w159.cell? ⟨gb430,0,none⟩=some (.slice none 0 0):=(jI BK430.out 0).trans rfl
      have hfs161:=je BK430.out 0
      have hns161_0:=NB429_430.out
      have hns161_2:=NB435_430.out
      have hns161_3:=NB440_430.out
      have hms161_0:=NB430_429.out
      have hms161_2:=NB430_435.out
      have hms161_3:=NB430_440.out
      refine jRb (w1:=?_) (by rfl) rfl ?_ ?_
      rotate_left
      ·go_simp
       rfl
      refine hK.out _ _ ⟨((cell_far (p:=⟨gb430,_,none⟩) NB435_430.out _).trans (hHeld.1)),((cell_far (p:=⟨gb430,_,none⟩) NB440_430.out _).trans (hHeld.2))⟩ (fun hHeld=>?_)
      clear hK K
      refine done_ (by kernel_rfl) ?_
      try go_wp2
      refine bodyPost_ret (jOb rfl _ _ gb429 gb430 37 32 #[.slice Ao144 t431.length co144] #[.slice Ao151 t436.length co151] (0,0) (0,0) _ _ rfl (Y74) Try.underlying37 rfl (by kernel_rfl) rfl (Y75) Try.underlying32 rfl (by kernel_rfl)) rfl ?_
      exact ⟨_,_,Y2,by (with_reducible repeat (first | apply Kd.jW | apply Kd.jY | apply Kd.jU));exact Kd.jH (Kd.jya (p:=⟨gb430,0,none⟩) (Kd.jya (p:=⟨gb429,0,none⟩) (Kd.jR (Kd.jR HO433.out BK429.out (by decide)) BK430.out (by decide)) (fun _ hk=>hk.1.2) (.slice Ao144 t431.length co144)) (fun _ hk=>hk.2) (.slice Ao151 t436.length co151)) (fun _ hk=>trivial),by (with_reducible repeat (first | apply Kd.jW | apply Kd.jY | apply Kd.jU));exact Kd.jH (Kd.jya (p:=⟨gb430,0,none⟩) (Kd.jya (p:=⟨gb429,0,none⟩) (Kd.jR (Kd.jR HO438.out BK429.out (by decide)) BK430.out (by decide)) (fun _ hk=>hk.1.2) (.slice Ao144 t431.length co144)) (fun _ hk=>hk.2) (.slice Ao151 t436.length co151)) (fun _ hk=>trivial),Y1,Y18,Y11⟩
 ·rw [if_neg c4] at H
  have c4b0:decide (0<(t436.length:Int))=false:=dzF c4
  have c4b1:decide (0<t436.length)=false:=dzF (by omega)
  clear c4
  simp only [Option.some.injEq,Prod.mk.injEq] at H
  obtain ⟨rfl,rfl,rfl⟩:=H
  go_enter Try.func61,Try.ntmps61
  try go_wp2_with (first |((with_reducible refine jG (N:=2) rfl ?_);refine bE (N:=2) (cs:=#[.slice none 0 0]) (t:=37) ?_;intro gb429 hg w162 hbox hb;have BK429:=am (hbox);have GW429:=am ((Y8:w.heap.size≤gb429));have GE429:=am ((Nat.le_trans HW0.out (Y8:w.heap.size≤gb429):w0.heap.size≤gb429));have NB0_429:=am ((Y25:g≠gb429));have NB429_0:=am ((Y26:gb429≠g));replace HK:=am (jd.trans (Y14) (jd.of_below hb g none) (.inl rfl));replace HB:=am (jf (Y15) hb);replace HI0:=am (ja.below (Y13) hb);clear hb hbox hg) |((with_reducible refine jG (N:=3) rfl ?_);refine bE (N:=3) (cs:=#[.slice none 0 0]) (t:=32) ?_;intro gb430 hg w163 hbox hb;have BK430:=am (hbox);have GW430:=am ((Y32:w.heap.size≤gb430));have GE430:=am ((Nat.le_trans HW0.out (Y32:w.heap.size≤gb430):w0.heap.size≤gb430));have NB429_430:=am ((Y21:gb429≠gb430));have NB430_429:=am ((Y22:gb430≠gb429));have NB0_430:=am ((Y62:g≠gb430));have NB430_0:=am ((Y63:gb430≠g));replace BK429:=am (jc (g:=gb429) (o:=.cells #[.slice none 0 0] 37 (0,0)) (kq BK429.out) hb);replace HK:=am (jd.trans (Y64) (jd.of_below hb g none) (.inl rfl));replace HB:=am (jf (Y65) hb);replace HI0:=am (ja.below (Y66) hb);clear hb hbox hg) |((with_reducible refine jA (f:=87) rfl ?_);refine gL (some 8) Try.func87 #[.pointer (some ⟨g,0,none⟩)] ?_;(with_reducible refine (jba.calls k g s0_0 s0_1 t431 t434 w0 _ ?side1 ?side2 A2.out).mono ?_);(case side1=>exact Y33);(case side2=>exact Y34);rintro e w164 ⟨v432,rfl,ho0,hi,hb,hk⟩;refine ⟨_,rfl,?_⟩;have HO433:=am (Kd.jV ho0 (jda (w:=w) (g:=g) (row:=none) (Y23)));replace BK429:=am (jd.blk hk (g':=gb429) (o:=.cells #[.slice none 0 0] 37 (0,0)) (kq BK429.out) NB429_0.out (by simp));replace BK430:=am (jd.blk hk (g':=gb430) (o:=.cells #[.slice none 0 0] 32 (0,0)) (kq BK430.out) NB430_0.out (by simp));replace HK:=am (jd.trans (Y23) hk (.inl rfl));replace HB:=am (hb);replace HI0:=am (hi);(try clear hb);(try clear hb2);(try clear hk);(try clear hi);(try clear ho0)) |((with_reducible refine jG (N:=4) rfl ?_);refine bE (N:=4) (cs:=#[.slice none 0 0]) (t:=37) ?_;intro gb435 hg w165 hbox hb;have BK435:=am (hbox);have GW435:=am ((Y35:w.heap.size≤gb435));have GE435:=am ((Nat.le_trans HW0.out (Y35:w.heap.size≤gb435):w0.heap.size≤gb435));have NB429_435:=am ((Y21:gb429≠gb435));have NB435_429:=am ((Y22:gb435≠gb429));have NB430_435:=am ((Y36:gb430≠gb435));have NB435_430:=am ((Y37:gb435≠gb430));have NB0_435:=am ((Y67:g≠gb435));have NB435_0:=am ((Y68:gb435≠g));replace HO433:=am (Kd.jO (rq HO433.out) hb);replace BK429:=am (jc (g:=gb429) (o:=.cells #[.slice none 0 0] 37 (0,0)) (kq BK429.out) hb);replace BK430:=am (jc (g:=gb430) (o:=.cells #[.slice none 0 0] 32 (0,0)) (kq BK430.out) hb);replace HK:=am (jd.trans (Y23) (jd.of_below hb g none) (.inl rfl));replace HB:=am (jf (Y34) hb);replace HI0:=am (ja.below (Y33) hb);clear hb hbox hg;obtain ⟨Ao166,co166,eo166⟩:=Kd.jN HO433.out;subst eo166;have hnb167:=NB435_429.out;have hnc167:=NB429_435.out;have hnb168:=NB435_430.out;have hnc168:=NB430_435.out;have hnb169:=NB435_0.out;have hnc169:=NB0_435.out;have hcz170_0:=bc0 BK435.out;have hfz170_0:=je BK435.out 0) |((with_reducible refine jA (f:=62) rfl ?_);refine gL (some 11) Try.func62 #[.pointer (some ⟨g,0,none⟩), .agg #[.slice Ao166 t431.length co166]] ?_;(with_reducible refine (jv.calls k g s0_0 t434 _ _ t431 t436 t439 w0 _ ?side1 ?side2 ?side3 ?side4 A3.out).mono ?_);(case side1=>exact Y17);(case side2=>exact Y38);(case side3=>exact Kd.jFb (ja.apart (show ja w0 _ g s0_0 t434 from Y17) (Y153) (by decide)) (fun _ h_=>h_.2));(case side4=>exact (Kd.jm HO433.out).2.1);rintro e w171 ⟨v437,rfl,ho0,hi,hb,hk⟩;refine ⟨_,rfl,?_⟩;have HO438:=am (Kd.jV ho0 (jda (w:=w) (g:=g) (row:=none) (Y24)));replace BK429:=am (jd.blk hk (g':=gb429) (o:=.cells #[.slice none 0 0] 37 (0,0)) (Y69) NB429_0.out (by simp));replace BK430:=am (jd.blk hk (g':=gb430) (o:=.cells #[.slice none 0 0] 32 (0,0)) (Y70) NB430_0.out (by simp));replace HO433:=am (Kd.jH (Kd.joa (ja.apart (show ja w0 _ g s0_0 t434 from Y17) (Y153) (by decide)) hk (fun _ h=>h.2)) (fun _ h=>h.1));replace BK435:=am (jd.blk hk (g':=gb435) (o:=.cells #[.slice Ao166 t431.length co166] 37 (0,0)) (Y71) NB435_0.out (by simp));replace HK:=am (jd.trans (Y24) hk (.inl rfl));replace HB:=am (hb);replace HI0:=am (hi);(try clear hb);(try clear hb2);(try clear hk);(try clear hi);(try clear ho0)) |((with_reducible refine jG (N:=5) rfl ?_);refine bE (N:=5) (cs:=#[.slice none 0 0]) (t:=32) ?_;intro gb440 hg w172 hbox hb;have BK440:=am (hbox);have GW440:=am ((Y39:w.heap.size≤gb440));have GE440:=am ((Nat.le_trans HW0.out (Y39:w.heap.size≤gb440):w0.heap.size≤gb440));have NB429_440:=am ((Y21:gb429≠gb440));have NB440_429:=am ((Y22:gb440≠gb429));have NB430_440:=am ((Y36:gb430≠gb440));have NB440_430:=am ((Y37:gb440≠gb430));have NB435_440:=am ((by rw [hg];exact Nat.ne_of_lt (jha (g:=gb435) (o:=.cells #[.slice Ao166 t431.length co166] 37 (0,0)) (kq BK435.out)):gb435≠gb440));have NB440_435:=am ((by rw [hg];exact Nat.ne_of_gt (jha (g:=gb435) (o:=.cells #[.slice Ao166 t431.length co166] 37 (0,0)) (kq BK435.out)):gb440≠gb435));have NB0_440:=am ((Y72:g≠gb440));have NB440_0:=am ((Y73:gb440≠g));replace HO433:=am (Kd.jO (rq HO433.out) hb);replace HO438:=am (Kd.jO (rq HO438.out) hb);replace BK429:=am (jc (g:=gb429) (o:=.cells #[.slice none 0 0] 37 (0,0)) (kq BK429.out) hb);replace BK430:=am (jc (g:=gb430) (o:=.cells #[.slice none 0 0] 32 (0,0)) (kq BK430.out) hb);replace BK435:=am (jc (g:=gb435) (o:=.cells #[.slice Ao166 t431.length co166] 37 (0,0)) (kq BK435.out) hb);replace HK:=am (jd.trans (Y24) (jd.of_below hb g none) (.inl rfl));replace HB:=am (jf (Y38) hb);replace HI0:=am (ja.below (Y17) hb);clear hb hbox hg;obtain ⟨Ao173,co173,eo173⟩:=Kd.jN HO438.out;subst eo173;have hnb174:=NB440_429.out;have hnc174:=NB429_440.out;have hnb175:=NB440_430.out;have hnc175:=NB430_440.out;have hnb176:=NB440_435.out;have hnc176:=NB435_440.out;have hnb177:=NB440_0.out;have hnc177:=NB0_440.out;have hcz178_0:=bc0 BK440.out;have hfz178_0:=je BK440.out 0))
  have n0_:jB (Kd.R k94 94 (w172.setCell ⟨gb440,0,none⟩ (.slice Ao173 t436.length co173)) w.heap.size (fun _=>True) (.slice Ao166 t431.length co166) t431):=⟨by (with_reducible repeat (first | apply Kd.jW | apply Kd.jY | apply Kd.jU));exact Kd.jH (Kd.jya (p:=⟨gb440,0,none⟩) (Kd.jR HO433.out BK440.out (by decide)) (fun _ hk=>hk.2) (.slice Ao173 t436.length co173)) (fun _ hk=>trivial)⟩
  have n1_:jB (Kd.R k54 54 (w172.setCell ⟨gb440,0,none⟩ (.slice Ao173 t436.length co173)) w.heap.size (fun _=>True) (.slice Ao173 t436.length co173) t436):=⟨by (with_reducible repeat (first | apply Kd.jW | apply Kd.jY | apply Kd.jU));exact Kd.jH (Kd.jya (p:=⟨gb440,0,none⟩) (Kd.jR HO438.out BK440.out (by decide)) (fun _ hk=>hk.2) (.slice Ao173 t436.length co173)) (fun _ hk=>trivial)⟩
  have n2_:jB ((w172.setCell ⟨gb440,0,none⟩ (.slice Ao173 t436.length co173)).heap[gb429]?=some (.cells #[.slice none 0 0] 37 (0,0))):=⟨by (with_reducible repeat (first | refine jh ?_ _ | refine jg ?_ | refine jk ?_ _));refine jaa ?_ NB429_440.out _;(with_reducible repeat (first | refine jh ?_ _ | refine jg ?_ | refine jk ?_ _));exact BK429.out⟩
  have n3_:jB ((w172.setCell ⟨gb440,0,none⟩ (.slice Ao173 t436.length co173)).heap[gb430]?=some (.cells #[.slice none 0 0] 32 (0,0))):=⟨by (with_reducible repeat (first | refine jh ?_ _ | refine jg ?_ | refine jk ?_ _));refine jaa ?_ NB430_440.out _;(with_reducible repeat (first | refine jh ?_ _ | refine jg ?_ | refine jk ?_ _));exact BK430.out⟩
  have n4_:jB ((w172.setCell ⟨gb440,0,none⟩ (.slice Ao173 t436.length co173)).heap[gb435]?=some (.cells #[.slice Ao166 t431.length co166] 37 (0,0))):=⟨by (with_reducible repeat (first | refine jh ?_ _ | refine jg ?_ | refine jk ?_ _));refine jaa ?_ NB435_440.out _;(with_reducible repeat (first | refine jh ?_ _ | refine jg ?_ | refine jk ?_ _));exact BK435.out⟩
  have n5_:jB ((w172.setCell ⟨gb440,0,none⟩ (.slice Ao173 t436.length co173)).heap[gb440]?=some (.cells #[.slice Ao173 t436.length co173] 32 (0,0))):=⟨by (with_reducible repeat (first | refine jh ?_ _ | refine jg ?_ | refine jk ?_ _));refine jHa (cs:=#[.slice none 0 0]) ?_ 0 _ rfl;(with_reducible repeat (first | refine jh ?_ _ | refine jg ?_ | refine jk ?_ _));exact BK440.out⟩
  have n6_:jB (ja w0 (w172.setCell ⟨gb440,0,none⟩ (.slice Ao173 t436.length co173)) g s0_0 t439):=⟨Y1⟩
  have n7_:jB (jd w (w172.setCell ⟨gb440,0,none⟩ (.slice Ao173 t436.length co173)) g none):=⟨Y11⟩
  have n8_:jB (Below w0.heap.size w0 (w172.setCell ⟨gb440,0,none⟩ (.slice Ao173 t436.length co173))):=⟨Y18⟩
  (try clear HO433)
  (try clear HO438)
  (try clear BK429)
  (try clear BK430)
  (try clear BK435)
  (try clear BK440)
  (try clear HI0)
  (try clear HK)
  (try clear HB)
  generalize (w172.setCell ⟨gb440,0,none⟩ (.slice Ao173 t436.length co173))=w179 at n0_ n1_ n2_ n3_ n4_ n5_ n6_ n7_ n8_ ⊢
  have HO433:=n0_
  have HO438:=n1_
  have BK429:=n2_
  have BK430:=n3_
  have BK435:=n4_
  have BK440:=n5_
  have HI0:=n6_
  have HK:=n7_
  have HB:=n8_
  clear n0_ n1_ n2_ n3_ n4_ n5_ n6_ n7_ n8_
  replace HO433:=am (Kd.jU HO433.out)
  replace HO438:=am (Kd.jU HO438.out)
  replace BK429:=am (jg BK429.out)
  replace BK430:=am (jg BK430.out)
  replace BK435:=am (jg BK435.out)
  replace BK440:=am (jg BK440.out)
  replace HI0:=am (ja.drew HI0.out)
  replace HK:=am (jZ HK.out)
  replace HB:=am (jy HB.out)
  refine jLb (n:=4) (S:=fun w'=>w'.cell? ⟨gb435,0,none⟩=some (.slice Ao166 t431.length co166)∧w'.cell? ⟨gb440,0,none⟩=some (.slice Ao173 t436.length co173)) (ds:=[]) #[false,false,false,false] (by kernel_rfl) rfl rfl ⟨(jI BK435.out 0).trans rfl,(jI BK440.out 0).trans rfl⟩ (fun hHeld=>?_)
  generalize w179.drew=w180 at HO433 HO438 BK429 BK430 BK435 BK440 HI0 HK HB hHeld ⊢
  refine jBb (i:=0) (N:=some 65) (v:=?_) (a':=?_) #[true,false,false,false] rfl rfl (by kernel_rfl) (fun _ _ _ h=>h) (Or.inl ⟨by rfl,?_⟩) hHeld ?_ ?_
  rotate_left
  ·rintro w' ⟨s0,s1⟩
   go_simp
   with_reducible rfl
  rotate_left
  ·exact sa
  refine jBb (i:=1) (N:=some 66) (v:=?_) (a':=?_) #[true,true,false,false] rfl rfl (by kernel_rfl) (fun _ _ _ h=>h) (Or.inl ⟨by rfl,?_⟩) hHeld ?_ ?_
  rotate_left
  ·rintro w' ⟨s0,s1⟩
   go_simp
   with_reducible rfl
  rotate_left
  ·exact sa
  refine one_ (i:=2) (N:=none) #[true,true,true,false] rfl rfl (by kernel_rfl) (by decide) (fun K hK=>?_)
  have hs181:w180.cell? ⟨gb429,0,none⟩=some (.slice none 0 0):=(jI BK429.out 0).trans rfl
  have hfs181:=je BK429.out 0
  have hns181_1:=NB430_429.out
  have hns181_2:=NB435_429.out
  have hns181_3:=NB440_429.out
  have hms181_1:=NB429_430.out
  have hms181_2:=NB429_435.out
  have hms181_3:=NB429_440.out
  refine jRb (w1:=?_) (by rfl) rfl ?_ ?_
  rotate_left
  ·go_simp
   rfl
  refine hK.out _ _ ⟨((cell_far (p:=⟨gb429,_,none⟩) NB435_429.out _).trans (hHeld.1)),((cell_far (p:=⟨gb429,_,none⟩) NB440_429.out _).trans (hHeld.2))⟩ (fun hHeld=>?_)
  clear hK K
  refine one_ (i:=3) (N:=none) #[true,true,true,true] rfl rfl (by kernel_rfl) (by decide) (fun K hK=>?_)
  have hs182:w180.cell? ⟨gb430,0,none⟩=some (.slice none 0 0):=(jI BK430.out 0).trans rfl
  have hfs182:=je BK430.out 0
  have hns182_0:=NB429_430.out
  have hns182_2:=NB435_430.out
  have hns182_3:=NB440_430.out
  have hms182_0:=NB430_429.out
  have hms182_2:=NB430_435.out
  have hms182_3:=NB430_440.out
  refine jRb (w1:=?_) (by rfl) rfl ?_ ?_
  rotate_left
  ·go_simp
   rfl
  refine hK.out _ _ ⟨((cell_far (p:=⟨gb430,_,none⟩) NB435_430.out _).trans (hHeld.1)),((cell_far (p:=⟨gb430,_,none⟩) NB440_430.out _).trans (hHeld.2))⟩ (fun hHeld=>?_)
  clear hK K
  refine done_ (by kernel_rfl) ?_
  try go_wp2
  refine bodyPost_ret (jOb rfl _ _ gb429 gb430 37 32 #[.slice Ao166 t431.length co166] #[.slice Ao173 t436.length co173] (0,0) (0,0) _ _ rfl (Y74) Try.underlying37 rfl (by kernel_rfl) rfl (Y75) Try.underlying32 rfl (by kernel_rfl)) rfl ?_
  exact ⟨_,_,Y2,by (with_reducible repeat (first | apply Kd.jW | apply Kd.jY | apply Kd.jU));exact Kd.jH (Kd.jya (p:=⟨gb430,0,none⟩) (Kd.jya (p:=⟨gb429,0,none⟩) (Kd.jR (Kd.jR HO433.out BK429.out (by decide)) BK430.out (by decide)) (fun _ hk=>hk.1.2) (.slice Ao166 t431.length co166)) (fun _ hk=>hk.2) (.slice Ao173 t436.length co173)) (fun _ hk=>trivial),by (with_reducible repeat (first | apply Kd.jW | apply Kd.jY | apply Kd.jU));exact Kd.jH (Kd.jya (p:=⟨gb430,0,none⟩) (Kd.jya (p:=⟨gb429,0,none⟩) (Kd.jR (Kd.jR HO438.out BK429.out (by decide)) BK430.out (by decide)) (fun _ hk=>hk.1.2) (.slice Ao166 t431.length co166)) (fun _ hk=>hk.2) (.slice Ao173 t436.length co173)) (fun _ hk=>trivial),Y1,Y18,Y11⟩
end Go.Proofs.Ytecdfgejmbpclaa.P
end
