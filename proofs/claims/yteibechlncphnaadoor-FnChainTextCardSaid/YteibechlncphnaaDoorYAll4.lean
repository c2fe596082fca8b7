/- One part of the proofs on this program: functions of the program as plain functions, that the code comes to them, and facts on them. -/
import Derived.Test.YteibechlncphnaaDoorYAll1
import Derived.Test.YteibechlncphnaaDoorYAll2
import Derived.Test.YteibechlncphnaaDoorYAll3
import Derived.Test.YteibechlncphnaaDoorYWAuto
section
namespace Go.Proofs.YteibechlncphnaaDoor.P
open Go.RowKit Go.Proofs.YteibechlncphnaaDoorW.PrintWords Go.Proofs.YteibechlncphnaaDoorW.PrintLast Go.Proofs.YteibechlncphnaaDoorW.PrintMore
attribute [local go_sem] jva jta jAa jza jga jfa jua jsa jA
set_option linter.unusedVariables false
set_option linter.unusedSimpArgs false
def jN.f (k : Nat) (s0_0 : List Int) (s0_1 : Int) : Option ((List (S99)) × (List (S66)) × Int) := (jca.f k s0_0 s0_1).bind fun bt236 => ((jr.f k s0_0 bt236.2 bt236.1).bind fun bt241 => (if (bt241.1.length : Int) > 0 then ((jm.f k s0_0 bt241.2 (bt241.1.length : Int)).bind fun bt246 => ((jm.f k s0_0 bt246.2 24).bind fun bt248 => (if bt248.1 = 0 then ((jy.f k s0_0 bt248.2 (([bt246.1, 9, (-2)] : List Int))).bind fun bt253 => (if 0 ≤ bt246.1 then (if bt246.1 < (bt241.1.length : Int) then (some (bt236.1, (bt241.1.set (bt246.1 : Int).toNat (⟨(ja bt241.1 bt246.1).f0, (ja bt241.1 bt246.1).f1, (ja bt241.1 bt246.1).f2, bt253.1, (ja bt241.1 bt246.1).f4⟩ : S66)), bt253.2)) else (none)) else (none))) else (if bt248.1 = 1 then ((job.f k s0_0 bt248.2 bt236.1).bind fun bt256 => (if 0 ≤ bt246.1 then (if bt246.1 < (bt241.1.length : Int) then (some (bt236.1, (bt241.1.set (bt246.1 : Int).toNat (⟨bt256.1, (ja bt241.1 bt246.1).f1, (ja bt241.1 bt246.1).f2, (ja bt241.1 bt246.1).f3, (ja bt241.1 bt246.1).f4⟩ : S66)), bt256.2)) else (none)) else (none))) else (if bt248.1 = 2 then ((jy.f k s0_0 bt248.2 (([(-1), 100] : List Int))).bind fun bt262 => (if 0 ≤ bt246.1 then (if bt246.1 < (bt241.1.length : Int) then (some (bt236.1, (bt241.1.set (bt246.1 : Int).toNat (⟨(ja bt241.1 bt246.1).f0, bt262.1, (ja bt241.1 bt246.1).f2, (ja bt241.1 bt246.1).f3, (ja bt241.1 bt246.1).f4⟩ : S66)), bt262.2)) else (none)) else (none))) else (if bt248.1 = 3 then ((jy.f k s0_0 bt248.2 (([bt246.1, 24, 0] : List Int))).bind fun bt268 => (if 0 ≤ bt246.1 then (if bt246.1 < (bt241.1.length : Int) then (some (bt236.1, (bt241.1.set (bt246.1 : Int).toNat (⟨(ja bt241.1 bt246.1).f0, (ja bt241.1 bt246.1).f1, bt268.1, (ja bt241.1 bt246.1).f3, (ja bt241.1 bt246.1).f4⟩ : S66)), bt268.2)) else (none)) else (none))) else (some (bt236.1, bt241.1, bt248.2)))))))) else (some (bt236.1, bt241.1, bt241.2))))
def jN.T7 : Bool × List (List Nat × List Nat) := (true, [([], []), ([0], [0]), ([], []), ([], []), ([], []), ([4], [4]), ([3, 5], [3, 5]), ([1, 2, 0, 1, 2, 3, 4, 5, 6], [1, 2]), ([7, 0, 1, 2, 3, 4, 5, 6], [7]), ([8, 6, 6, 0, 1, 2, 3, 4, 5, 6], [6, 8])])
def jN.B7 : List Nat := [0, 1, 0, 0, 0, 16, 56, 127, 255, 511]
theorem jN.tab7 : rtab .any (opsOf Tryd.f43 7) = jN.T7 := by kernel_rfl
theorem jN.bits7 : jLb jN.T7.2 jN.B7 = true := by kernel_rfl
def jN.T9 : Bool × List (List Nat × List Nat) := (true, [([], []), ([0], [0]), ([], []), ([], []), ([], []), ([3, 4], [3, 4]), ([1, 2, 0, 1, 2, 3, 4, 5], [1, 2]), ([6, 0, 1, 2, 3, 4, 5], [6]), ([7, 5, 5, 0, 1, 2, 3, 4, 5], [5, 7])])
def jN.B9 : List Nat := [0, 1, 0, 0, 0, 24, 63, 127, 255]
theorem jN.tab9 : rtab .any (opsOf Tryd.f43 9) = jN.T9 := by kernel_rfl
theorem jN.bits9 : jLb jN.T9.2 jN.B9 = true := by kernel_rfl
def jN.T11 : Bool × List (List Nat × List Nat) := (true, [([], []), ([0], [0]), ([], []), ([], []), ([], []), ([3, 4], [3, 4]), ([1, 2, 0, 1, 2, 3, 4, 5], [1, 2]), ([6, 0, 1, 2, 3, 4, 5], [6]), ([7, 5, 5, 0, 1, 2, 3, 4, 5], [5, 7])])
def jN.B11 : List Nat := [0, 1, 0, 0, 0, 24, 63, 127, 255]
theorem jN.tab11 : rtab .any (opsOf Tryd.f43 11) = jN.T11 := by kernel_rfl
theorem jN.bits11 : jLb jN.T11.2 jN.B11 = true := by kernel_rfl
def jN.T13 : Bool × List (List Nat × List Nat) := (true, [([], []), ([0], [0]), ([], []), ([], []), ([], []), ([4], [4]), ([3, 5], [3, 5]), ([1, 2, 0, 1, 2, 3, 4, 5, 6], [1, 2]), ([7, 0, 1, 2, 3, 4, 5, 6], [7]), ([8, 6, 6, 0, 1, 2, 3, 4, 5, 6], [6, 8])])
def jN.B13 : List Nat := [0, 1, 0, 0, 0, 16, 56, 127, 255, 511]
theorem jN.tab13 : rtab .any (opsOf Tryd.f43 13) = jN.T13 := by kernel_rfl
theorem jN.bits13 : jLb jN.T13.2 jN.B13 = true := by kernel_rfl
set_option maxHeartbeats 8000000 in
set_option maxRecDepth 100000 in
theorem jN.calls (k : Nat) (g : Nat) (s0_0 : List Int) (s0_1 : Int) (r1 : List (S99)) (r2 : List (S66)) (r3 : Int) (w0 w : World) (hI : jk w0 w g s0_0 s0_1) (hB : Below w0.heap.size w0 w) (h : jN.f k s0_0 s0_1 = some (r1, r2, r3)) :
  Calls Tryd.prog 43 #[.pointer (some ⟨g,0,none⟩)] w fun e w'=>∃ v0_ v1_:Value,e=.returned (.tuple #[.agg #[v0_], .agg #[v1_]])∧Kd.R k99 99 w' w.heap.size (fun _=>True) v0_ r1∧Kd.R k66 66 w' w.heap.size (fun _=>True) v1_ r2∧jk w0 w' g s0_0 r3∧Below w0.heap.size w0 w'∧jd w w' g none:=by
 have hu25:=Tryd.underlying25
 have hu28:=Tryd.underlying28
 have HI0:=am hI
 have HK:=am (jd.refl w g none)
 have HL:=am hB.size
 clear hI
 have HW0:=am hB.size
 have HB:=am hB
 clear hB
 have H:((jca.f k s0_0 s0_1).bind fun bt236=>((jr.f k s0_0 bt236.2 bt236.1).bind fun bt241=>(if (bt241.1.length:Int) > 0 then ((jm.f k s0_0 bt241.2 (bt241.1.length:Int)).bind fun bt246=>((jm.f k s0_0 bt246.2 24).bind fun bt248=>(if bt248.1=0 then ((jy.f k s0_0 bt248.2 (([bt246.1,9,(-2)]:List Int))).bind fun bt253=>(if 0≤bt246.1 then (if bt246.1<(bt241.1.length:Int) then (some (bt236.1,(bt241.1.set (bt246.1:Int).toNat (⟨(ja bt241.1 bt246.1).f0,(ja bt241.1 bt246.1).f1,(ja bt241.1 bt246.1).f2,bt253.1,(ja bt241.1 bt246.1).f4⟩:S66)),bt253.2)) else (none)) else (none))) else (if bt248.1=1 then ((job.f k s0_0 bt248.2 bt236.1).bind fun bt256=>(if 0≤bt246.1 then (if bt246.1<(bt241.1.length:Int) then (some (bt236.1,(bt241.1.set (bt246.1:Int).toNat (⟨bt256.1,(ja bt241.1 bt246.1).f1,(ja bt241.1 bt246.1).f2,(ja bt241.1 bt246.1).f3,(ja bt241.1 bt246.1).f4⟩:S66)),bt256.2)) else (none)) else (none))) else (if bt248.1=2 then ((jy.f k s0_0 bt248.2 (([(-1),100]:List Int))).bind fun bt262=>(if 0≤bt246.1 then (if bt246.1<(bt241.1.length:Int) then (some (bt236.1,(bt241.1.set (bt246.1:Int).toNat (⟨(ja bt241.1 bt246.1).f0,bt262.1,(ja bt241.1 bt246.1).f2,(ja bt241.1 bt246.1).f3,(ja bt241.1 bt246.1).f4⟩:S66)),bt262.2)) else (none)) else (none))) else (if bt248.1=3 then ((jy.f k s0_0 bt248.2 (([bt246.1,24,0]:List Int))).bind fun bt268=>(if 0≤bt246.1 then (if bt246.1<(bt241.1.length:Int) then (some (bt236.1,(bt241.1.set (bt246.1:Int).toNat (⟨(ja bt241.1 bt246.1).f0,(ja bt241.1 bt246.1).f1,bt268.1,(ja bt241.1 bt246.1).f3,(ja bt241.1 bt246.1).f4⟩:S66)),bt268.2)) else (none)) else (none))) else (some (bt236.1,bt241.1,bt248.2)))))))) else (some (bt236.1,bt241.1,bt241.2)))))=some (r1,r2,r3):=h
 clear h
 replace H:=bzS H
 obtain ⟨⟨t236,t239⟩,A20,H⟩:=H
 replace H:((jr.f k s0_0 t239 t236).bind fun bt241=>(if (bt241.1.length:Int) > 0 then ((jm.f k s0_0 bt241.2 (bt241.1.length:Int)).bind fun bt246=>((jm.f k s0_0 bt246.2 24).bind fun bt248=>(if bt248.1=0 then ((jy.f k s0_0 bt248.2 (([bt246.1,9,(-2)]:List Int))).bind fun bt253=>(if 0≤bt246.1 then (if bt246.1<(bt241.1.length:Int) then (some (t236,(bt241.1.set (bt246.1:Int).toNat (⟨(ja bt241.1 bt246.1).f0,(ja bt241.1 bt246.1).f1,(ja bt241.1 bt246.1).f2,bt253.1,(ja bt241.1 bt246.1).f4⟩:S66)),bt253.2)) else (none)) else (none))) else (if bt248.1=1 then ((job.f k s0_0 bt248.2 t236).bind fun bt256=>(if 0≤bt246.1 then (if bt246.1<(bt241.1.length:Int) then (some (t236,(bt241.1.set (bt246.1:Int).toNat (⟨bt256.1,(ja bt241.1 bt246.1).f1,(ja bt241.1 bt246.1).f2,(ja bt241.1 bt246.1).f3,(ja bt241.1 bt246.1).f4⟩:S66)),bt256.2)) else (none)) else (none))) else (if bt248.1=2 then ((jy.f k s0_0 bt248.2 (([(-1),100]:List Int))).bind fun bt262=>(if 0≤bt246.1 then (if bt246.1<(bt241.1.length:Int) then (some (t236,(bt241.1.set (bt246.1:Int).toNat (⟨(ja bt241.1 bt246.1).f0,bt262.1,(ja bt241.1 bt246.1).f2,(ja bt241.1 bt246.1).f3,(ja bt241.1 bt246.1).f4⟩:S66)),bt262.2)) else (none)) else (none))) else (if bt248.1=3 then ((jy.f k s0_0 bt248.2 (([bt246.1,24,0]:List Int))).bind fun bt268=>(if 0≤bt246.1 then (if bt246.1<(bt241.1.length:Int) then (some (t236,(bt241.1.set (bt246.1:Int).toNat (⟨(ja bt241.1 bt246.1).f0,(ja bt241.1 bt246.1).f1,bt268.1,(ja bt241.1 bt246.1).f3,(ja bt241.1 bt246.1).f4⟩:S66)),bt268.2)) else (none)) else (none))) else (some (t236,bt241.1,bt248.2)))))))) else (some (t236,bt241.1,bt241.2))))=some (r1,r2,r3):=H
 have A2:=am A20
 clear A20
 replace H:=bzS H
 obtain ⟨⟨t241,t244⟩,A30,H⟩:=H
 replace H:(if (t241.length:Int) > 0 then ((jm.f k s0_0 t244 (t241.length:Int)).bind fun bt246=>((jm.f k s0_0 bt246.2 24).bind fun bt248=>(if bt248.1=0 then ((jy.f k s0_0 bt248.2 (([bt246.1,9,(-2)]:List Int))).bind fun bt253=>(if 0≤bt246.1 then (if bt246.1<(t241.length:Int) then (some (t236,(t241.set (bt246.1:Int).toNat (⟨(ja t241 bt246.1).f0,(ja t241 bt246.1).f1,(ja t241 bt246.1).f2,bt253.1,(ja t241 bt246.1).f4⟩:S66)),bt253.2)) else (none)) else (none))) else (if bt248.1=1 then ((job.f k s0_0 bt248.2 t236).bind fun bt256=>(if 0≤bt246.1 then (if bt246.1<(t241.length:Int) then (some (t236,(t241.set (bt246.1:Int).toNat (⟨bt256.1,(ja t241 bt246.1).f1,(ja t241 bt246.1).f2,(ja t241 bt246.1).f3,(ja t241 bt246.1).f4⟩:S66)),bt256.2)) else (none)) else (none))) else (if bt248.1=2 then ((jy.f k s0_0 bt248.2 (([(-1),100]:List Int))).bind fun bt262=>(if 0≤bt246.1 then (if bt246.1<(t241.length:Int) then (some (t236,(t241.set (bt246.1:Int).toNat (⟨(ja t241 bt246.1).f0,bt262.1,(ja t241 bt246.1).f2,(ja t241 bt246.1).f3,(ja t241 bt246.1).f4⟩:S66)),bt262.2)) else (none)) else (none))) else (if bt248.1=3 then ((jy.f k s0_0 bt248.2 (([bt246.1,24,0]:List Int))).bind fun bt268=>(if 0≤bt246.1 then (if bt246.1<(t241.length:Int) then (some (t236,(t241.set (bt246.1:Int).toNat (⟨(ja t241 bt246.1).f0,(ja t241 bt246.1).f1,bt268.1,(ja t241 bt246.1).f3,(ja t241 bt246.1).f4⟩:S66)),bt268.2)) else (none)) else (none))) else (some (t236,t241,bt248.2)))))))) else (some (t236,t241,t244)))=some (r1,r2,r3):=H
 have A3:=am A30
 clear A30
 by_cases c4:(t241.length:Int) > 0
 ·rw [if_pos c4] at H
  have c4b0:decide (0<(t241.length:Int))=true:=dzT c4
  have c4b1:decide (0<t241.length)=true:=dzT (by omega)
  clear c4
  replace H:=bzS H
  obtain ⟨⟨t246,t247⟩,A50,H⟩:=H
  replace H:((jm.f k s0_0 t247 24).bind fun bt248=>(if bt248.1=0 then ((jy.f k s0_0 bt248.2 (([t246,9,(-2)]:List Int))).bind fun bt253=>(if 0≤t246 then (if t246<(t241.length:Int) then (some (t236,(t241.set (t246:Int).toNat (⟨(ja t241 t246).f0,(ja t241 t246).f1,(ja t241 t246).f2,bt253.1,(ja t241 t246).f4⟩:S66)),bt253.2)) else (none)) else (none))) else (if bt248.1=1 then ((job.f k s0_0 bt248.2 t236).bind fun bt256=>(if 0≤t246 then (if t246<(t241.length:Int) then (some (t236,(t241.set (t246:Int).toNat (⟨bt256.1,(ja t241 t246).f1,(ja t241 t246).f2,(ja t241 t246).f3,(ja t241 t246).f4⟩:S66)),bt256.2)) else (none)) else (none))) else (if bt248.1=2 then ((jy.f k s0_0 bt248.2 (([(-1),100]:List Int))).bind fun bt262=>(if 0≤t246 then (if t246<(t241.length:Int) then (some (t236,(t241.set (t246:Int).toNat (⟨(ja t241 t246).f0,bt262.1,(ja t241 t246).f2,(ja t241 t246).f3,(ja t241 t246).f4⟩:S66)),bt262.2)) else (none)) else (none))) else (if bt248.1=3 then ((jy.f k s0_0 bt248.2 (([t246,24,0]:List Int))).bind fun bt268=>(if 0≤t246 then (if t246<(t241.length:Int) then (some (t236,(t241.set (t246:Int).toNat (⟨(ja t241 t246).f0,(ja t241 t246).f1,bt268.1,(ja t241 t246).f3,(ja t241 t246).f4⟩:S66)),bt268.2)) else (none)) else (none))) else (some (t236,t241,bt248.2)))))))=some (r1,r2,r3):=H
  have A5:=am A50
  clear A50
  replace H:=bzS H
  obtain ⟨⟨t248,t249⟩,A60,H⟩:=H
  replace H:(if t248=0 then ((jy.f k s0_0 t249 (([t246,9,(-2)]:List Int))).bind fun bt253=>(if 0≤t246 then (if t246<(t241.length:Int) then (some (t236,(t241.set (t246:Int).toNat (⟨(ja t241 t246).f0,(ja t241 t246).f1,(ja t241 t246).f2,bt253.1,(ja t241 t246).f4⟩:S66)),bt253.2)) else (none)) else (none))) else (if t248=1 then ((job.f k s0_0 t249 t236).bind fun bt256=>(if 0≤t246 then (if t246<(t241.length:Int) then (some (t236,(t241.set (t246:Int).toNat (⟨bt256.1,(ja t241 t246).f1,(ja t241 t246).f2,(ja t241 t246).f3,(ja t241 t246).f4⟩:S66)),bt256.2)) else (none)) else (none))) else (if t248=2 then ((jy.f k s0_0 t249 (([(-1),100]:List Int))).bind fun bt262=>(if 0≤t246 then (if t246<(t241.length:Int) then (some (t236,(t241.set (t246:Int).toNat (⟨(ja t241 t246).f0,bt262.1,(ja t241 t246).f2,(ja t241 t246).f3,(ja t241 t246).f4⟩:S66)),bt262.2)) else (none)) else (none))) else (if t248=3 then ((jy.f k s0_0 t249 (([t246,24,0]:List Int))).bind fun bt268=>(if 0≤t246 then (if t246<(t241.length:Int) then (some (t236,(t241.set (t246:Int).toNat (⟨(ja t241 t246).f0,(ja t241 t246).f1,bt268.1,(ja t241 t246).f3,(ja t241 t246).f4⟩:S66)),bt268.2)) else (none)) else (none))) else (some (t236,t241,t249))))))=some (r1,r2,r3):=H
  have A6:=am A60
  clear A60
  by_cases c7:t248=0
  ·rw [if_pos c7] at H
   have c7b0:(t248 == 0)=true:=beq_iff_eq.mpr c7
   have c7b1:(t248 != 0)=false:=bne_eq_false_iff_eq.mpr c7
   clear c7
   obtain ⟨y250,hy250⟩:∃ y_:List Int,y_=(([t246,9,(-2)]:List Int)):=⟨_,rfl⟩
   replace H:((jy.f k s0_0 t249 y250).bind fun bt253=>(if 0≤t246 then (if t246<(t241.length:Int) then (some (t236,(t241.set (t246:Int).toNat (⟨(ja t241 t246).f0,(ja t241 t246).f1,(ja t241 t246).f2,bt253.1,(ja t241 t246).f4⟩:S66)),bt253.2)) else (none)) else (none)))=some (r1,r2,r3):=by first |(rw [hy250];with_reducible exact H) |(have H2_:=(Option.bind_some _ _).symm.trans H;rw [hy250];with_reducible exact H2_) |(have H2_:=(Option.bind_some _ _).symm.trans H;with_reducible exact H2_) | with_reducible exact H |(rw [hy250];exact H) | exact H
   have Ny250:=am hy250
   clear hy250
   replace H:=bzS H
   obtain ⟨⟨t253,t254⟩,A80,H⟩:=H
   replace H:(if 0≤t246 then (if t246<(t241.length:Int) then (some (t236,(t241.set (t246:Int).toNat (⟨(ja t241 t246).f0,(ja t241 t246).f1,(ja t241 t246).f2,t253,(ja t241 t246).f4⟩:S66)),t254)) else (none)) else (none))=some (r1,r2,r3):=H
   have A8:=am A80
   clear A80
   by_cases c9:0≤t246
   ·rw [if_pos c9] at H
    have c9b0:decide (0≤t246)=true:=dzT c9
    clear c9
    by_cases c10:t246<(t241.length:Int)
    ·rw [if_pos c10] at H
     have c10b0:decide (t246<(t241.length:Int))=true:=dzT c10
     clear c10
     obtain ⟨y255,hy255⟩:∃ y_:List (S66),y_=(t241.set (t246:Int).toNat (⟨(ja t241 t246).f0,(ja t241 t246).f1,(ja t241 t246).f2,t253,(ja t241 t246).f4⟩:S66)):=⟨_,rfl⟩
     replace H:(some (t236,y255,t254))=some (r1,r2,r3):=by first |(rw [hy255];with_reducible exact H) |(have H2_:=(Option.bind_some _ _).symm.trans H;rw [hy255];with_reducible exact H2_) |(have H2_:=(Option.bind_some _ _).symm.trans H;with_reducible exact H2_) | with_reducible exact H |(rw [hy255];exact H) | exact H
     have Ny255:=am hy255
     clear hy255
     simp only [Option.some.injEq,Prod.mk.injEq] at H
     obtain ⟨rfl,rfl,rfl⟩:=H
     go_enter Tryd.func43,Tryd.ntmps43
     try go_wp2_with (first |((with_reducible refine jD (N:=2) rfl ?_);refine bE (N:=2) (cs:=#[.slice none 0 0]) (t:=25) ?_;intro gb234 hg w12 hbox hb;have BK234:=am (hbox);have GW234:=am ((Y6:w.heap.size≤gb234));have GE234:=am ((Nat.le_trans HW0.out (Y6:w.heap.size≤gb234):w0.heap.size≤gb234));have NB0_234:=am ((Y24:g≠gb234));have NB234_0:=am ((Y25:gb234≠g));replace HK:=am (jd.trans (Y13) (jd.of_below hb g none) (.inl rfl));replace HB:=am (je (Y14) hb);replace HI0:=am (jk.below (Y12) hb);clear hb hbox hg) |((with_reducible refine jD (N:=3) rfl ?_);refine bE (N:=3) (cs:=#[.slice none 0 0]) (t:=28) ?_;intro gb235 hg w13 hbox hb;have BK235:=am (hbox);have GW235:=am ((Y31:w.heap.size≤gb235));have GE235:=am ((Nat.le_trans HW0.out (Y31:w.heap.size≤gb235):w0.heap.size≤gb235));have NB234_235:=am ((Y20:gb234≠gb235));have NB235_234:=am ((Y21:gb235≠gb234));have NB0_235:=am ((Y64:g≠gb235));have NB235_0:=am ((Y65:gb235≠g));replace BK234:=am (jc (g:=gb234) (o:=.cells #[.slice none 0 0] 25 (0,0)) (kq BK234.out) hb);replace HK:=am (jd.trans (Y66) (jd.of_below hb g none) (.inl rfl));replace HB:=am (je (Y67) hb);replace HI0:=am (jk.below (Y68) hb);clear hb hbox hg) |((with_reducible refine jw (f:=67) rfl ?_);refine gL (some 8) Tryd.func67 #[.pointer (some ⟨g,0,none⟩)] ?_;(with_reducible refine (jca.calls k g s0_0 s0_1 t236 t239 w0 _ ?side1 ?side2 A2.out).mono ?_);(case side1=>exact Y32);(case side2=>exact Y33);rintro e w14 ⟨v237,rfl,ho0,hi,hb,hk⟩;refine ⟨_,rfl,?_⟩;have HO238:=am (Kd.jia ho0 (jea (w:=w) (g:=g) (row:=none) (Y22)));replace BK234:=am (jd.blk hk (g':=gb234) (o:=.cells #[.slice none 0 0] 25 (0,0)) (kq BK234.out) NB234_0.out (by simp));replace BK235:=am (jd.blk hk (g':=gb235) (o:=.cells #[.slice none 0 0] 28 (0,0)) (kq BK235.out) NB235_0.out (by simp));replace HK:=am (jd.trans (Y22) hk (.inl rfl));replace HB:=am (hb);replace HI0:=am (hi);(try clear hb);(try clear hb2);(try clear hk);(try clear hi);(try clear ho0)) |((with_reducible refine jD (N:=4) rfl ?_);refine bE (N:=4) (cs:=#[.slice none 0 0]) (t:=25) ?_;intro gb240 hg w15 hbox hb;have BK240:=am (hbox);have GW240:=am ((Y34:w.heap.size≤gb240));have GE240:=am ((Nat.le_trans HW0.out (Y34:w.heap.size≤gb240):w0.heap.size≤gb240));have NB234_240:=am ((Y20:gb234≠gb240));have NB240_234:=am ((Y21:gb240≠gb234));have NB235_240:=am ((Y35:gb235≠gb240));have NB240_235:=am ((Y36:gb240≠gb235));have NB0_240:=am ((Y69:g≠gb240));have NB240_0:=am ((Y70:gb240≠g));replace HO238:=am (Kd.jW (rq HO238.out) hb);replace BK234:=am (jc (g:=gb234) (o:=.cells #[.slice none 0 0] 25 (0,0)) (kq BK234.out) hb);replace BK235:=am (jc (g:=gb235) (o:=.cells #[.slice none 0 0] 28 (0,0)) (kq BK235.out) hb);replace HK:=am (jd.trans (Y22) (jd.of_below hb g none) (.inl rfl));replace HB:=am (je (Y33) hb);replace HI0:=am (jk.below (Y32) hb);clear hb hbox hg;obtain ⟨Ao16,co16,eo16⟩:=Kd.jZ HO238.out;subst eo16;have hnb17:=NB240_234.out;have hnc17:=NB234_240.out;have hnb18:=NB240_235.out;have hnc18:=NB235_240.out;have hnb19:=NB240_0.out;have hnc19:=NB0_240.out;have hcz20_0:=bc0 BK240.out;have hfz20_0:=jb BK240.out 0) |((with_reducible refine jw (f:=44) rfl ?_);refine gL (some 11) Tryd.func44 #[.pointer (some ⟨g,0,none⟩), .agg #[.slice Ao16 t236.length co16]] ?_;(with_reducible refine (jr.calls k g s0_0 t239 _ _ t236 t241 t244 w0 _ ?side1 ?side2 ?side3 ?side4 A3.out).mono ?_);(case side1=>exact Y16);(case side2=>exact Y37);(case side3=>exact Kd.jUb (jk.apart (show jk w0 _ g s0_0 t239 from Y16) (Y162) (by decide)) (fun _ h_=>h_.2));(case side4=>exact (Kd.jC HO238.out).2.1);rintro e w21 ⟨v242,rfl,ho0,hi,hb,hk⟩;refine ⟨_,rfl,?_⟩;have HO243:=am (Kd.jia ho0 (jea (w:=w) (g:=g) (row:=none) (Y23)));replace BK234:=am (jd.blk hk (g':=gb234) (o:=.cells #[.slice none 0 0] 25 (0,0)) (Y71) NB234_0.out (by simp));replace BK235:=am (jd.blk hk (g':=gb235) (o:=.cells #[.slice none 0 0] 28 (0,0)) (Y72) NB235_0.out (by simp));replace HO238:=am (Kd.jI (Kd.jqa (jk.apart (show jk w0 _ g s0_0 t239 from Y16) (Y162) (by decide)) hk (fun _ h=>h.2)) (fun _ h=>h.1));replace BK240:=am (jd.blk hk (g':=gb240) (o:=.cells #[.slice Ao16 t236.length co16] 25 (0,0)) (Y73) NB240_0.out (by simp));replace HK:=am (jd.trans (Y23) hk (.inl rfl));replace HB:=am (hb);replace HI0:=am (hi);(try clear hb);(try clear hb2);(try clear hk);(try clear hi);(try clear ho0)) |((with_reducible refine jD (N:=5) rfl ?_);refine bE (N:=5) (cs:=#[.slice none 0 0]) (t:=28) ?_;intro gb245 hg w22 hbox hb;have BK245:=am (hbox);have GW245:=am ((Y38:w.heap.size≤gb245));have GE245:=am ((Nat.le_trans HW0.out (Y38:w.heap.size≤gb245):w0.heap.size≤gb245));have NB234_245:=am ((Y20:gb234≠gb245));have NB245_234:=am ((Y21:gb245≠gb234));have NB235_245:=am ((Y35:gb235≠gb245));have NB245_235:=am ((Y36:gb245≠gb235));have NB240_245:=am ((by rw [hg];exact Nat.ne_of_lt (jda (g:=gb240) (o:=.cells #[.slice Ao16 t236.length co16] 25 (0,0)) (kq BK240.out)):gb240≠gb245));have NB245_240:=am ((by rw [hg];exact Nat.ne_of_gt (jda (g:=gb240) (o:=.cells #[.slice Ao16 t236.length co16] 25 (0,0)) (kq BK240.out)):gb245≠gb240));have NB0_245:=am ((Y74:g≠gb245));have NB245_0:=am ((Y75:gb245≠g));replace HO238:=am (Kd.jW (rq HO238.out) hb);replace HO243:=am (Kd.jW (rq HO243.out) hb);replace BK234:=am (jc (g:=gb234) (o:=.cells #[.slice none 0 0] 25 (0,0)) (kq BK234.out) hb);replace BK235:=am (jc (g:=gb235) (o:=.cells #[.slice none 0 0] 28 (0,0)) (kq BK235.out) hb);replace BK240:=am (jc (g:=gb240) (o:=.cells #[.slice Ao16 t236.length co16] 25 (0,0)) (kq BK240.out) hb);replace HK:=am (jd.trans (Y23) (jd.of_below hb g none) (.inl rfl));replace HB:=am (je (Y37) hb);replace HI0:=am (jk.below (Y16) hb);clear hb hbox hg;obtain ⟨Ao23,co23,eo23⟩:=Kd.jZ HO243.out;subst eo23;have hnb24:=NB245_234.out;have hnc24:=NB234_245.out;have hnb25:=NB245_235.out;have hnc25:=NB235_245.out;have hnb26:=NB245_240.out;have hnc26:=NB240_245.out;have hnb27:=NB245_0.out;have hnc27:=NB0_245.out;have hcz28_0:=bc0 BK245.out;have hfz28_0:=jb BK245.out 0) |((with_reducible refine jw (f:=68) rfl ?_);refine gL (some 20) Tryd.func68 #[.pointer (some ⟨g,0,none⟩), .int .i64 (t241.length:Int)] ?_;(with_reducible refine (jm.calls k g s0_0 t244 (t241.length:Int) t246 t247 w0 _ ?side1 ?side2 A5.out).mono ?_);(case side1=>exact Y2);(case side2=>exact Y17);rintro e w29 ⟨rfl,hi,hb,hk⟩;refine ⟨_,rfl,?_⟩;replace BK234:=am (jd.blk hk (g':=gb234) (o:=.cells #[.slice none 0 0] 25 (0,0)) (Y89) NB234_0.out (by simp));replace BK235:=am (jd.blk hk (g':=gb235) (o:=.cells #[.slice none 0 0] 28 (0,0)) (Y90) NB235_0.out (by simp));replace HO238:=am (Kd.jI (Kd.jqa (jk.apart (show jk w0 _ g s0_0 t244 from Y2) (by (with_reducible repeat (first | apply Kd.jX | apply Kd.jba | apply Kd.jV));exact (Kd.jI (Kd.jwa (p:=⟨gb245,0,none⟩) (Kd.jP HO238.out BK245.out (by decide)) (fun _ hk=>hk.2) (.slice Ao23 t241.length co23)) (fun _ h_=>h_.1))) (by decide)) hk (fun _ h=>h.2)) (fun _ h=>h.1));replace BK240:=am (jd.blk hk (g':=gb240) (o:=.cells #[.slice Ao16 t236.length co16] 25 (0,0)) (Y91) NB240_0.out (by simp));replace HO243:=am (Kd.jI (Kd.jqa (jk.apart (show jk w0 _ g s0_0 t244 from Y2) (by (with_reducible repeat (first | apply Kd.jX | apply Kd.jba | apply Kd.jV));exact (Kd.jI (Kd.jwa (p:=⟨gb245,0,none⟩) (Kd.jP HO243.out BK245.out (by decide)) (fun _ hk=>hk.2) (.slice Ao23 t241.length co23)) (fun _ h_=>h_.1))) (by decide)) hk (fun _ h=>h.2)) (fun _ h=>h.1));replace BK245:=am (jd.blk hk (g':=gb245) (o:=.cells #[.slice Ao23 t241.length co23] 28 (0,0)) (Y92) NB245_0.out (by simp));replace HK:=am (jd.trans (Y10) hk (.inl rfl));replace HB:=am (hb);replace HI0:=am (hi);(try clear hb);(try clear hb2);(try clear hk);(try clear hi)) |((with_reducible refine jw (f:=68) rfl ?_);refine gL (some 22) Tryd.func68 #[.pointer (some ⟨g,0,none⟩), .int .i64 24] ?_;(with_reducible refine (jm.calls k g s0_0 t247 24 t248 t249 w0 _ ?side1 ?side2 A6.out).mono ?_);(case side1=>exact Y2);(case side2=>exact Y17);rintro e w30 ⟨rfl,hi,hb,hk⟩;refine ⟨_,rfl,?_⟩;replace BK234:=am (jd.blk hk (g':=gb234) (o:=.cells #[.slice none 0 0] 25 (0,0)) (kq BK234.out) NB234_0.out (by simp));replace BK235:=am (jd.blk hk (g':=gb235) (o:=.cells #[.slice none 0 0] 28 (0,0)) (kq BK235.out) NB235_0.out (by simp));replace HO238:=am (Kd.jI (Kd.jqa (jk.apart (show jk w0 _ g s0_0 t247 from Y2) (rq HO238.out) (by decide)) hk (fun _ h=>h.2)) (fun _ h=>h.1));replace BK240:=am (jd.blk hk (g':=gb240) (o:=.cells #[.slice Ao16 t236.length co16] 25 (0,0)) (kq BK240.out) NB240_0.out (by simp));replace HO243:=am (Kd.jI (Kd.jqa (jk.apart (show jk w0 _ g s0_0 t247 from Y2) (rq HO243.out) (by decide)) hk (fun _ h=>h.2)) (fun _ h=>h.1));replace BK245:=am (jd.blk hk (g':=gb245) (o:=.cells #[.slice Ao23 t241.length co23] 28 (0,0)) (kq BK245.out) NB245_0.out (by simp));replace HK:=am (jd.trans (Y10) hk (.inl rfl));replace HB:=am (hb);replace HI0:=am (hi);(try clear hb);(try clear hb2);(try clear hk);(try clear hi)))
     replace HO238:=am (Kd.jV HO238.out)
     replace HO243:=am (Kd.jV HO243.out)
     replace BK234:=am (jf BK234.out)
     replace BK235:=am (jf BK235.out)
     replace BK240:=am (jf BK240.out)
     replace BK245:=am (jf BK245.out)
     replace HI0:=am (jk.drew HI0.out)
     replace HK:=am (jaa HK.out)
     replace HB:=am (jq HB.out)
     refine jVb (n:=10) (S:=fun w'=>w'.cell? ⟨gb245,0,none⟩=some (.slice Ao23 t241.length co23)) (ds:=[9]) #[false,false,false,false,false,false,false,false,false,false] (by kernel_rfl) rfl rfl ((jH BK245.out 0).trans rfl) (fun hHeld=>?_);refine jxb jN.tab7 jN.bits7 (fun HT_ HW_=>?_)
     generalize w30.drew=w31 at HO238 HO243 BK234 BK235 BK240 BK245 HI0 HK HB hHeld ⊢
     refine pq (i:=0) (N:=some 25) #[true,false,false,false,false,false,false,false,false,false] ?_
     refine pq (i:=2) (N:=some 27) #[true,false,true,false,false,false,false,false,false,false] ?_
     refine pq (i:=3) (N:=some 28) #[true,false,true,true,false,false,false,false,false,false] ?_
     refine pq (i:=4) (N:=some 29) #[true,false,true,true,true,false,false,false,false,false] ?_
     refine jAb (i:=1) (N:=some 26) (v:=?_) (a':=?_) #[true,true,true,true,true,false,false,false,false,false] rfl rfl (jWa HT_.out HW_.out (by kernel_rfl)) (fun _ _ _ h=>h) (Or.inl ⟨by rfl,?_⟩) hHeld ?_ ?_
     rotate_left
     ·intro w' s0
      go_simp
      with_reducible rfl
     rotate_left
     ·exact sa
     refine one_ (i:=5) (N:=some 30) #[true,true,true,true,true,true,false,false,false,false] rfl rfl (jeb HT_.out (by kernel_rfl)) (by decide) (fun K hK=>?_)
     refine Kd.jTb (Kd.int .i64) _ 3 ?hg (N:=30) ?hd (xs:=([t246,9,(-2)]:List Int)) (inner:=[.int .i64 t246, .int .i64 9, .int .i64 (-2)]) (ok:=fun _=>True) (okp:=fun _=>True) ?hr ?hp (fun _ hk=>hk) trivial (Below.refl _ _) (Nat.le_refl _) (by simp) ?_;(case hd=>rfl);(case hg=>rfl);(case hr=>exact Y4);(case hp=>exact (Reps.one (show Kd.M (Kd.int .i64) _ _ _ t246 [.int .i64 t246] from rfl) (Reps.one (show Kd.M (Kd.int .i64) _ _ _ 9 [.int .i64 9] from rfl) (Reps.one (show Kd.M (Kd.int .i64) _ _ _ (-2) [.int .i64 (-2)] from rfl) (Reps.none _ _)))))
     intro v251 w32 ho33 hb hg_ hnew_
     clear hg_ hnew_
     (first | rw [← Ny250.out] at ho33 |(simp only [Int.reduceToNat] at ho33;rw [← Ny250.out] at ho33))
     have HO252:=am (Kd.jia ho33 (jea (w:=w) (g:=g) (row:=none) (Y10)))
     replace HO238:=am (Kd.jW (rq HO238.out) hb)
     replace HO243:=am (Kd.jW (rq HO243.out) hb)
     replace BK234:=am (jc (g:=gb234) (o:=.cells #[.slice none 0 0] 25 (0,0)) (kq BK234.out) hb)
     replace BK235:=am (jc (g:=gb235) (o:=.cells #[.slice none 0 0] 28 (0,0)) (kq BK235.out) hb)
     replace BK240:=am (jc (g:=gb240) (o:=.cells #[.slice Ao16 t236.length co16] 25 (0,0)) (kq BK240.out) hb)
     replace BK245:=am (jc (g:=gb245) (o:=.cells #[.slice Ao23 t241.length co23] 28 (0,0)) (kq BK245.out) hb)
     replace HK:=am (jd.trans (Y10) (jd.of_below hb g none) (.inl rfl))
     replace HB:=am (je (Y17) hb)
     replace HI0:=am (jk.below (Y2) hb)
     clear hb ho33
     obtain ⟨Ao34,co34,eo34⟩:=Kd.jZ HO252.out
     (first | subst eo34 |(injection eo34 with f1_ f2_ f3_;have f4_:=f1_.symm;have f5_:=f3_.symm;clear f1_ f2_ f3_;subst f4_;subst f5_))
     refine hK.out _ _ ((jH BK245.out 0).trans rfl) (fun hHeld=>?_)
     clear hK K
     refine jZb (a':=?_) ?_ ?_
     rotate_left
     ·show Act.put _ (some 30) _=_
      simp only [Act.put,List.setIfInBounds_toArray,List.set_cons_zero,List.set_cons_succ,jwb,jBb]
      rfl
     refine one_ (i:=6) (N:=some 31) #[true,true,true,true,true,true,true,false,false,false] rfl rfl (jeb HT_.out (by kernel_rfl)) (by decide) (fun K hK=>?_)
     refine goes_ Tryd.func69 (by kernel_rfl) rfl #[.pointer (some ⟨g,0,none⟩), .slice Ao34 y250.length co34] (by rfl) rfl rfl (aq) ?_
     with_reducible refine (jy.calls k g s0_0 t249 _ _ y250 t253 t254 w0 _ ?side1 ?side2 ?side3 ?side4 ?side5 A8.out).mono ?_
     (case side1=>exact Y2)
     (case side2=>exact Y17)
     (case side3=>exact cq (Kd.jC HO252.out).2.2)
     (case side4=>exact (Kd.jC HO252.out).2.1)
     (case side5=>exact jCb (jk.own_ne HI0.out HO252.out (by decide)))
     rintro e w35 ⟨rfl,hi,hb,hk⟩
     refine ⟨_,rfl,?_⟩
     replace BK234:=am (jd.blk hk (g':=gb234) (o:=.cells #[.slice none 0 0] 25 (0,0)) (kq BK234.out) NB234_0.out (by simp))
     replace BK235:=am (jd.blk hk (g':=gb235) (o:=.cells #[.slice none 0 0] 28 (0,0)) (kq BK235.out) NB235_0.out (by simp))
     replace HO238:=am (Kd.jI (Kd.jqa (jk.apart (show jk w0 _ g s0_0 t249 from Y2) (rq HO238.out) (by decide)) hk (fun _ h=>h.2)) (fun _ h=>h.1))
     replace BK240:=am (jd.blk hk (g':=gb240) (o:=.cells #[.slice Ao16 t236.length co16] 25 (0,0)) (kq BK240.out) NB240_0.out (by simp))
     replace HO243:=am (Kd.jI (Kd.jqa (jk.apart (show jk w0 _ g s0_0 t249 from Y2) (rq HO243.out) (by decide)) hk (fun _ h=>h.2)) (fun _ h=>h.1))
     replace BK245:=am (jd.blk hk (g':=gb245) (o:=.cells #[.slice Ao23 t241.length co23] 28 (0,0)) (kq BK245.out) NB245_0.out (by simp))
     replace HO252:=am (Kd.jI (Kd.jqa (jk.apart (show jk w0 _ g s0_0 t249 from Y2) (rq HO252.out) (by decide)) hk (fun _ h=>h.2)) (fun _ h=>h.1))
     replace HK:=am (jd.trans (Y10) hk (.inl rfl))
     replace HB:=am (hb)
     replace HI0:=am (hi)
     (try clear hb)
     (try clear hb2)
     (try clear hk)
     (try clear hi)
     have p11:0≤(t246:Int):=ozD (uq)
     have q11:(t246:Int)<((t241.length:Int):Int):=ozD (uq)
     obtain ⟨go11,co11,eo11,gb11,gl11,cl11,HG11⟩:=Kd.R_form HO243.out (by omega)
     (first | cases eo11 |(injection eo11 with ea_ en_ ec_;(first | subst ea_ |(injection ea_ with ea_;subst ea_));subst ec_;clear en_))
     have GB11:=am gb11
     have GG11:=am HG11
     clear gb11 gl11 HG11
     obtain ⟨ce11,hcl11,hM11,hcc11,hfr11⟩:=Kd.jyb HO243.out z66 (t246:Int) p11 q11
     obtain rfl:=jRa hM11
     have hx11_0:World.cell? _ ⟨go11,(t246:Int).toNat * 5,none⟩=some (.int .i64 ((ja t241 t246).f0)):=hcc11 0 _ rfl
     have hx11_1:World.cell? _ ⟨go11,(t246:Int).toNat * 5+1,none⟩=some (.int .i64 ((ja t241 t246).f1)):=hcc11 1 _ rfl
     have hx11_2:World.cell? _ ⟨go11,(t246:Int).toNat * 5+2,none⟩=some (.int .i64 ((ja t241 t246).f2)):=hcc11 2 _ rfl
     have hx11_3:World.cell? _ ⟨go11,(t246:Int).toNat * 5+3,none⟩=some (.int .i64 ((ja t241 t246).f3)):=hcc11 3 _ rfl
     have hx11_4:World.cell? _ ⟨go11,(t246:Int).toNat * 5+4,none⟩=some (.bool ((ja t241 t246).f4)):=hcc11 4 _ rfl
     have hf11_0:World.frozen? _ ⟨go11,(t246:Int).toNat * 5,none⟩=false:=hfr11 0
     have hf11_1:World.frozen? _ ⟨go11,(t246:Int).toNat * 5+1,none⟩=false:=hfr11 1
     have hf11_2:World.frozen? _ ⟨go11,(t246:Int).toNat * 5+2,none⟩=false:=hfr11 2
     have hf11_3:World.frozen? _ ⟨go11,(t246:Int).toNat * 5+3,none⟩=false:=hfr11 3
     have hf11_4:World.frozen? _ ⟨go11,(t246:Int).toNat * 5+4,none⟩=false:=hfr11 4
     clear hcl11 hcc11 hfr11 hM11
     replace p11:=ezT p11
     replace q11:=ezT q11
     have HN0_go11:=am (show g≠go11 from by have h_:=jk.own_ne HI0.out HO243.out (by decide);intro e_;exact h_ (by rw [e_];rfl))
     obtain ⟨ce36,hcl36,hM36,hcc36,hfr36⟩:=Kd.jyb HO243.out z66 (t246:Int) (ozD (uq)) (by have h_:(t246:Int)<((t241.length:Int):Int):=ozD (uq);first | exact h_ |(have e_:=(Kd.jC HO243.out).1;omega) | simpa using h_)
     obtain rfl:=jRa hM36
     have HP36:=(Kd.R_seg HO243.out (t246:Int) (ozD (uq)) (by have h_:(t246:Int)<((t241.length:Int):Int):=ozD (uq);first | exact h_ |(have e_:=(Kd.jC HO243.out).1;omega) | simpa using h_) (seg:=[.int .i64 t253]) (j:=3) hcl36 hcc36 (show 4≤5 from by decide) (x':=(⟨(ja t241 t246).f0,(ja t241 t246).f1,(ja t241 t246).f2,t253,(ja t241 t246).f4⟩:S66)) (jac _ _ _ (⟨(ja t241 t246).f0,(ja t241 t246).f1,(ja t241 t246).f2,t253,(ja t241 t246).f4⟩:S66) ) (fun _ hk=>hk)).1
     rw [← Ny255.out] at HP36
     have HQ36:=am HP36
     clear hcl36 hcc36 hfr36 hM36 HP36
     refine hK.out _ _ ((jH BK245.out 0).trans rfl) (fun hHeld=>?_)
     clear hK K
     refine jZb (a':=?_) ?_ ?_
     rotate_left
     ·show Act.put _ (some 31) _=_
      simp only [Act.put,List.setIfInBounds_toArray,List.set_cons_zero,List.set_cons_succ,jwb,jBb]
      rfl
     refine pq (i:=7) (N:=some 32) #[true,true,true,true,true,true,true,true,false,false] ?_
     refine pq (i:=8) (N:=some 33) #[true,true,true,true,true,true,true,true,true,false] ?_
     refine last_ (i:=9) (N:=none) #[true,true,true,true,true,true,true,true,true,true] rfl rfl (jeb HT_.out (by kernel_rfl)) (by decide) (fun K hK=>?_)
     refine jcc (w1:=?_) (by rfl) rfl ?_ ?_
     rotate_left
     ·go_simp
      rfl
     refine hK.out _ _ ?_
     clear hK K
     refine jqc (jbc HT_.out (by kernel_rfl)) ?_
     have n0_:jB (Kd.R k99 99 (w35.setCell ⟨go11,(t246:Int).toNat * 5+3,none⟩ (.int .i64 t253)) w.heap.size (fun _=>True) (.slice Ao16 t236.length co16) t236):=⟨by (with_reducible repeat (first | apply Kd.jX | apply Kd.jba | apply Kd.jV));exact Kd.jI (Kd.jwa (p:=⟨go11,(t246:Int).toNat * 5+3,none⟩) (Kd.jP HO238.out GG11.out (by decide)) (fun _ hk=>hk.2) (.int .i64 t253)) (fun _ hk=>trivial)⟩
     have n1_:jB (Kd.R k66 66 (w35.setCell ⟨go11,(t246:Int).toNat * 5+3,none⟩ (.int .i64 t253)) w.heap.size (fun _=>True) (.slice (some ⟨go11,0,none⟩) t241.length co23) y255):=⟨rq HQ36.out⟩
     have n2_:jB (Kd.R (Kd.int .i64) 3 (w35.setCell ⟨go11,(t246:Int).toNat * 5+3,none⟩ (.int .i64 t253)) w.heap.size (fun _=>True) (.slice Ao34 y250.length co34) y250):=⟨by (with_reducible repeat (first | apply Kd.jX | apply Kd.jba | apply Kd.jV));exact Kd.jI (Kd.jwa (p:=⟨go11,(t246:Int).toNat * 5+3,none⟩) (Kd.jP HO252.out GG11.out (by decide)) (fun _ hk=>hk.2) (.int .i64 t253)) (fun _ hk=>trivial)⟩
     have n3_:jB ((w35.setCell ⟨go11,(t246:Int).toNat * 5+3,none⟩ (.int .i64 t253)).heap[gb234]?=some (.cells #[.slice none 0 0] 25 (0,0))):=⟨by (with_reducible repeat (first | refine jg ?_ _ | refine jf ?_ | refine jh ?_ _));refine jT ?_ (by have h_:=Kd.R_ne HO243.out BK234.out (by decide);intro e_;exact h_ (by rw [e_];rfl)) _;(with_reducible repeat (first | refine jg ?_ _ | refine jf ?_ | refine jh ?_ _));exact BK234.out⟩
     have n4_:jB ((w35.setCell ⟨go11,(t246:Int).toNat * 5+3,none⟩ (.int .i64 t253)).heap[gb235]?=some (.cells #[.slice none 0 0] 28 (0,0))):=⟨by (with_reducible repeat (first | refine jg ?_ _ | refine jf ?_ | refine jh ?_ _));refine jT ?_ (by have h_:=Kd.R_ne HO243.out BK235.out (by decide);intro e_;exact h_ (by rw [e_];rfl)) _;(with_reducible repeat (first | refine jg ?_ _ | refine jf ?_ | refine jh ?_ _));exact BK235.out⟩
     have n5_:jB ((w35.setCell ⟨go11,(t246:Int).toNat * 5+3,none⟩ (.int .i64 t253)).heap[gb240]?=some (.cells #[.slice Ao16 t236.length co16] 25 (0,0))):=⟨by (with_reducible repeat (first | refine jg ?_ _ | refine jf ?_ | refine jh ?_ _));refine jT ?_ (by have h_:=Kd.R_ne HO243.out BK240.out (by decide);intro e_;exact h_ (by rw [e_];rfl)) _;(with_reducible repeat (first | refine jg ?_ _ | refine jf ?_ | refine jh ?_ _));exact BK240.out⟩
     have n6_:jB ((w35.setCell ⟨go11,(t246:Int).toNat * 5+3,none⟩ (.int .i64 t253)).heap[gb245]?=some (.cells #[.slice (some ⟨go11,0,none⟩) t241.length co23] 28 (0,0))):=⟨by (with_reducible repeat (first | refine jg ?_ _ | refine jf ?_ | refine jh ?_ _));refine jT ?_ (by have h_:=Kd.R_ne HO243.out BK245.out (by decide);intro e_;exact h_ (by rw [e_];rfl)) _;(with_reducible repeat (first | refine jg ?_ _ | refine jf ?_ | refine jh ?_ _));exact BK245.out⟩
     have n7_:jB (jk w0 (w35.setCell ⟨go11,(t246:Int).toNat * 5+3,none⟩ (.int .i64 t253)) g s0_0 t254):=⟨by repeat (first |(with_reducible first | exact HI0.out | apply jk.alloc | apply jk.drewN | apply jk.drew | apply jk.jmb | refine jk.far ?_ HN0_go11.out _ | refine jk.far ?_ NB0_234.out _ | refine jk.far ?_ NB0_235.out _ | refine jk.far ?_ NB0_240.out _ | refine jk.far ?_ NB0_245.out _) | exact HI0.out)⟩
     have n8_:jB (jd w (w35.setCell ⟨go11,(t246:Int).toNat * 5+3,none⟩ (.int .i64 t253)) g none):=⟨by repeat (first |(with_reducible first | exact HK.out | apply jd.set_ | apply jja | apply jaa | apply jka | refine jO ?_ GB11.out _ | refine jO ?_ GW234.out _ | refine jO ?_ GW235.out _ | refine jO ?_ GW240.out _ | refine jO ?_ GW245.out _) | exact HK.out)⟩
     have n9_:jB (Below w0.heap.size w0 (w35.setCell ⟨go11,(t246:Int).toNat * 5+3,none⟩ (.int .i64 t253))):=⟨by repeat (first |(with_reducible first | exact HB.out | apply jv | apply jo | apply jq | refine jl ?_ (Nat.le_trans HL.out GB11.out) | refine jl ?_ (jk.ge HI0.out) | refine jl ?_ GE234.out | refine jl ?_ GE235.out | refine jl ?_ GE240.out | refine jl ?_ GE245.out) | exact HB.out)⟩
     (try clear HO238)
     (try clear HO243)
     (try clear HO252)
     (try clear BK234)
     (try clear BK235)
     (try clear BK240)
     (try clear BK245)
     (try clear HI0)
     (try clear HK)
     (try clear HB)
     generalize (w35.setCell ⟨go11,(t246:Int).toNat * 5+3,none⟩ (.int .i64 t253))=w37 at n0_ n1_ n2_ n3_ n4_ n5_ n6_ n7_ n8_ n9_ ⊢
     have HO238:=n0_
     have HO243:=n1_
     have HO252:=n2_
     have BK234:=n3_
     have BK235:=n4_
     have BK240:=n5_
     have BK245:=n6_
     have HI0:=n7_
     have HK:=n8_
     have HB:=n9_
     clear n0_ n1_ n2_ n3_ n4_ n5_ n6_ n7_ n8_ n9_
     try go_wp2
     replace HO238:=am (Kd.jV HO238.out)
     replace HO243:=am (Kd.jV HO243.out)
     replace HO252:=am (Kd.jV HO252.out)
     replace BK234:=am (jf BK234.out)
     replace BK235:=am (jf BK235.out)
     replace BK240:=am (jf BK240.out)
     replace BK245:=am (jf BK245.out)
     replace HI0:=am (jk.drew HI0.out)
     replace HK:=am (jaa HK.out)
     replace HB:=am (jq HB.out)
     refine jVb (n:=4) (S:=fun w'=>w'.cell? ⟨gb240,0,none⟩=some (.slice Ao16 t236.length co16)∧w'.cell? ⟨gb245,0,none⟩=some (.slice (some ⟨go11,0,none⟩) t241.length co23)) (ds:=[]) #[false,false,false,false] (by kernel_rfl) rfl rfl ⟨(jH BK240.out 0).trans rfl,(jH BK245.out 0).trans rfl⟩ (fun hHeld=>?_)
     generalize w37.drew=w38 at HO238 HO243 HO252 BK234 BK235 BK240 BK245 HI0 HK HB hHeld ⊢
     refine jAb (i:=0) (N:=some 65) (v:=?_) (a':=?_) #[true,false,false,false] rfl rfl (by kernel_rfl) (fun _ _ _ h=>h) (Or.inl ⟨by rfl,?_⟩) hHeld ?_ ?_
     rotate_left
     ·rintro w' ⟨s0,s1⟩
      go_simp
      with_reducible rfl
     rotate_left
     ·exact sa
     refine jAb (i:=1) (N:=some 66) (v:=?_) (a':=?_) #[true,true,false,false] rfl rfl (by kernel_rfl) (fun _ _ _ h=>h) (Or.inl ⟨by rfl,?_⟩) hHeld ?_ ?_
     rotate_left
     ·rintro w' ⟨s0,s1⟩
      go_simp
      with_reducible rfl
     rotate_left
     ·exact sa
     refine one_ (i:=2) (N:=none) #[true,true,true,false] rfl rfl (by kernel_rfl) (by decide) (fun K hK=>?_)
     have hs39:w38.cell? ⟨gb234,0,none⟩=some (.slice none 0 0):=(jH BK234.out 0).trans rfl
     have hfs39:=jb BK234.out 0
     have hns39_1:=NB235_234.out
     have hns39_2:=NB240_234.out
     have hns39_3:=NB245_234.out
     have hms39_1:=NB234_235.out
     have hms39_2:=NB234_240.out
     have hms39_3:=NB234_245.out
     refine jcc (w1:=?_) (by rfl) rfl ?_ ?_
     rotate_left
     ·go_simp
      rfl
     refine hK.out _ _ ⟨((cell_far (p:=⟨gb234,_,none⟩) NB240_234.out _).trans (hHeld.1)),((cell_far (p:=⟨gb234,_,none⟩) NB245_234.out _).trans (hHeld.2))⟩ (fun hHeld=>?_)
     clear hK K
     refine one_ (i:=3) (N:=none) #[true,true,true,true] rfl rfl (by kernel_rfl) (by decide) (fun K hK=>?_)
     have hs40:w38.cell? ⟨gb235,0,none⟩=some (.slice none 0 0):=(jH BK235.out 0).trans rfl
     have hfs40:=jb BK235.out 0
     have hns40_0:=NB234_235.out
     have hns40_2:=NB240_235.out
     have hns40_3:=NB245_235.out
     have hms40_0:=NB235_234.out
     have hms40_2:=NB235_240.out
     have hms40_3:=NB235_245.out
     refine jcc (w1:=?_) (by rfl) rfl ?_ ?_
     rotate_left
     ·go_simp
      rfl
     refine hK.out _ _ ⟨((cell_far (p:=⟨gb235,_,none⟩) NB240_235.out _).trans (hHeld.1)),((cell_far (p:=⟨gb235,_,none⟩) NB245_235.out _).trans (hHeld.2))⟩ (fun hHeld=>?_)
     clear hK K
     refine jqc (by kernel_rfl) ?_
     try go_wp2
     refine bodyPost_ret (jdc rfl _ _ gb234 gb235 25 28 #[.slice Ao16 t236.length co16] #[.slice (some ⟨go11,0,none⟩) t241.length co23] (0,0) (0,0) _ _ rfl (Y76) Tryd.underlying25 rfl (by kernel_rfl) rfl (Y77) Tryd.underlying28 rfl (by kernel_rfl)) rfl ?_
     exact ⟨_,_,Y1,by (with_reducible repeat (first | apply Kd.jX | apply Kd.jba | apply Kd.jV));exact Kd.jI (Kd.jwa (p:=⟨gb235,0,none⟩) (Kd.jwa (p:=⟨gb234,0,none⟩) (Kd.jP (Kd.jP HO238.out BK234.out (by decide)) BK235.out (by decide)) (fun _ hk=>hk.1.2) (.slice Ao16 t236.length co16)) (fun _ hk=>hk.2) (.slice (some ⟨go11,0,none⟩) t241.length co23)) (fun _ hk=>trivial),by (with_reducible repeat (first | apply Kd.jX | apply Kd.jba | apply Kd.jV));exact Kd.jI (Kd.jwa (p:=⟨gb235,0,none⟩) (Kd.jwa (p:=⟨gb234,0,none⟩) (Kd.jP (Kd.jP HO243.out BK234.out (by decide)) BK235.out (by decide)) (fun _ hk=>hk.1.2) (.slice Ao16 t236.length co16)) (fun _ hk=>hk.2) (.slice (some ⟨go11,0,none⟩) t241.length co23)) (fun _ hk=>trivial),Y2,Y17,Y10⟩
    ·rw [if_neg c10] at H
     exact absurd H (by simp)
   ·rw [if_neg c9] at H
    exact absurd H (by simp)
  ·rw [if_neg c7] at H
   have c7b0:(t248 == 0)=false:=beq_eq_false_iff_ne.mpr c7
   have c7b1:(t248 != 0)=true:=bne_iff_ne.mpr c7
   by_cases c41:t248=1
   ·rw [if_pos c41] at H
    have c41b0:(t248 == 1)=true:=beq_iff_eq.mpr c41
    have c41b1:(t248 != 1)=false:=bne_eq_false_iff_eq.mpr c41
    clear c41
    replace H:=bzS H
    obtain ⟨⟨t256,t257⟩,A420,H⟩:=H
    replace H:(if 0≤t246 then (if t246<(t241.length:Int) then (some (t236,(t241.set (t246:Int).toNat (⟨t256,(ja t241 t246).f1,(ja t241 t246).f2,(ja t241 t246).f3,(ja t241 t246).f4⟩:S66)),t257)) else (none)) else (none))=some (r1,r2,r3):=H
    have A42:=am A420
    clear A420
    by_cases c43:0≤t246
    ·rw [if_pos c43] at H
     have c43b0:decide (0≤t246)=true:=dzT c43
     clear c43
     by_cases c44:t246<(t241.length:Int)
     ·rw [if_pos c44] at H
      have c44b0:decide (t246<(t241.length:Int))=true:=dzT c44
      clear c44
      obtain ⟨y258,hy258⟩:∃ y_:List (S66),y_=(t241.set (t246:Int).toNat (⟨t256,(ja t241 t246).f1,(ja t241 t246).f2,(ja t241 t246).f3,(ja t241 t246).f4⟩:S66)):=⟨_,rfl⟩
      replace H:(some (t236,y258,t257))=some (r1,r2,r3):=by first |(rw [hy258];with_reducible exact H) |(have H2_:=(Option.bind_some _ _).symm.trans H;rw [hy258];with_reducible exact H2_) |(have H2_:=(Option.bind_some _ _).symm.trans H;with_reducible exact H2_) | with_reducible exact H |(rw [hy258];exact H) | exact H
      have Ny258:=am hy258
      clear hy258
      simp only [Option.some.injEq,Prod.mk.injEq] at H
      obtain ⟨rfl,rfl,rfl⟩:=H
      go_enter Tryd.func43,Tryd.ntmps43
      try go_wp2_with (first |((with_reducible refine jD (N:=2) rfl ?_);refine bE (N:=2) (cs:=#[.slice none 0 0]) (t:=25) ?_;intro gb234 hg w46 hbox hb;have BK234:=am (hbox);have GW234:=am ((Y6:w.heap.size≤gb234));have GE234:=am ((Nat.le_trans HW0.out (Y6:w.heap.size≤gb234):w0.heap.size≤gb234));have NB0_234:=am ((Y24:g≠gb234));have NB234_0:=am ((Y25:gb234≠g));replace HK:=am (jd.trans (Y13) (jd.of_below hb g none) (.inl rfl));replace HB:=am (je (Y14) hb);replace HI0:=am (jk.below (Y12) hb);clear hb hbox hg) |((with_reducible refine jD (N:=3) rfl ?_);refine bE (N:=3) (cs:=#[.slice none 0 0]) (t:=28) ?_;intro gb235 hg w47 hbox hb;have BK235:=am (hbox);have GW235:=am ((Y31:w.heap.size≤gb235));have GE235:=am ((Nat.le_trans HW0.out (Y31:w.heap.size≤gb235):w0.heap.size≤gb235));have NB234_235:=am ((Y20:gb234≠gb235));have NB235_234:=am ((Y21:gb235≠gb234));have NB0_235:=am ((Y64:g≠gb235));have NB235_0:=am ((Y65:gb235≠g));replace BK234:=am (jc (g:=gb234) (o:=.cells #[.slice none 0 0] 25 (0,0)) (kq BK234.out) hb);replace HK:=am (jd.trans (Y66) (jd.of_below hb g none) (.inl rfl));replace HB:=am (je (Y67) hb);replace HI0:=am (jk.below (Y68) hb);clear hb hbox hg) |((with_reducible refine jw (f:=67) rfl ?_);refine gL (some 8) Tryd.func67 #[.pointer (some ⟨g,0,none⟩)] ?_;(with_reducible refine (jca.calls k g s0_0 s0_1 t236 t239 w0 _ ?side1 ?side2 A2.out).mono ?_);(case side1=>exact Y32);(case side2=>exact Y33);rintro e w48 ⟨v237,rfl,ho0,hi,hb,hk⟩;refine ⟨_,rfl,?_⟩;have HO238:=am (Kd.jia ho0 (jea (w:=w) (g:=g) (row:=none) (Y22)));replace BK234:=am (jd.blk hk (g':=gb234) (o:=.cells #[.slice none 0 0] 25 (0,0)) (kq BK234.out) NB234_0.out (by simp));replace BK235:=am (jd.blk hk (g':=gb235) (o:=.cells #[.slice none 0 0] 28 (0,0)) (kq BK235.out) NB235_0.out (by simp));replace HK:=am (jd.trans (Y22) hk (.inl rfl));replace HB:=am (hb);replace HI0:=am (hi);(try clear hb);(try clear hb2);(try clear hk);(try clear hi);(try clear ho0)) |((with_reducible refine jD (N:=4) rfl ?_);refine bE (N:=4) (cs:=#[.slice none 0 0]) (t:=25) ?_;intro gb240 hg w49 hbox hb;have BK240:=am (hbox);have GW240:=am ((Y34:w.heap.size≤gb240));have GE240:=am ((Nat.le_trans HW0.out (Y34:w.heap.size≤gb240):w0.heap.size≤gb240));have NB234_240:=am ((Y20:gb234≠gb240));have NB240_234:=am ((Y21:gb240≠gb234));have NB235_240:=am ((Y35:gb235≠gb240));have NB240_235:=am ((Y36:gb240≠gb235));have NB0_240:=am ((Y69:g≠gb240));have NB240_0:=am ((Y70:gb240≠g));replace HO238:=am (Kd.jW (rq HO238.out) hb);replace BK234:=am (jc (g:=gb234) (o:=.cells #[.slice none 0 0] 25 (0,0)) (kq BK234.out) hb);replace BK235:=am (jc (g:=gb235) (o:=.cells #[.slice none 0 0] 28 (0,0)) (kq BK235.out) hb);replace HK:=am (jd.trans (Y22) (jd.of_below hb g none) (.inl rfl));replace HB:=am (je (Y33) hb);replace HI0:=am (jk.below (Y32) hb);clear hb hbox hg;obtain ⟨Ao50,co50,eo50⟩:=Kd.jZ HO238.out;subst eo50;have hnb51:=NB240_234.out;have hnc51:=NB234_240.out;have hnb52:=NB240_235.out;have hnc52:=NB235_240.out;have hnb53:=NB240_0.out;have hnc53:=NB0_240.out;have hcz54_0:=bc0 BK240.out;have hfz54_0:=jb BK240.out 0) |((with_reducible refine jw (f:=44) rfl ?_);refine gL (some 11) Tryd.func44 #[.pointer (some ⟨g,0,none⟩), .agg #[.slice Ao50 t236.length co50]] ?_;(with_reducible refine (jr.calls k g s0_0 t239 _ _ t236 t241 t244 w0 _ ?side1 ?side2 ?side3 ?side4 A3.out).mono ?_);(case side1=>exact Y16);(case side2=>exact Y37);(case side3=>exact Kd.jUb (jk.apart (show jk w0 _ g s0_0 t239 from Y16) (Y163) (by decide)) (fun _ h_=>h_.2));(case side4=>exact (Kd.jC HO238.out).2.1);rintro e w55 ⟨v242,rfl,ho0,hi,hb,hk⟩;refine ⟨_,rfl,?_⟩;have HO243:=am (Kd.jia ho0 (jea (w:=w) (g:=g) (row:=none) (Y23)));replace BK234:=am (jd.blk hk (g':=gb234) (o:=.cells #[.slice none 0 0] 25 (0,0)) (Y71) NB234_0.out (by simp));replace BK235:=am (jd.blk hk (g':=gb235) (o:=.cells #[.slice none 0 0] 28 (0,0)) (Y72) NB235_0.out (by simp));replace HO238:=am (Kd.jI (Kd.jqa (jk.apart (show jk w0 _ g s0_0 t239 from Y16) (Y163) (by decide)) hk (fun _ h=>h.2)) (fun _ h=>h.1));replace BK240:=am (jd.blk hk (g':=gb240) (o:=.cells #[.slice Ao50 t236.length co50] 25 (0,0)) (Y73) NB240_0.out (by simp));replace HK:=am (jd.trans (Y23) hk (.inl rfl));replace HB:=am (hb);replace HI0:=am (hi);(try clear hb);(try clear hb2);(try clear hk);(try clear hi);(try clear ho0)) |((with_reducible refine jD (N:=5) rfl ?_);refine bE (N:=5) (cs:=#[.slice none 0 0]) (t:=28) ?_;intro gb245 hg w56 hbox hb;have BK245:=am (hbox);have GW245:=am ((Y38:w.heap.size≤gb245));have GE245:=am ((Nat.le_trans HW0.out (Y38:w.heap.size≤gb245):w0.heap.size≤gb245));have NB234_245:=am ((Y20:gb234≠gb245));have NB245_234:=am ((Y21:gb245≠gb234));have NB235_245:=am ((Y35:gb235≠gb245));have NB245_235:=am ((Y36:gb245≠gb235));have NB240_245:=am ((by rw [hg];exact Nat.ne_of_lt (jda (g:=gb240) (o:=.cells #[.slice Ao50 t236.length co50] 25 (0,0)) (kq BK240.out)):gb240≠gb245));have NB245_240:=am ((by rw [hg];exact Nat.ne_of_gt (jda (g:=gb240) (o:=.cells #[.slice Ao50 t236.length co50] 25 (0,0)) (kq BK240.out)):gb245≠gb240));have NB0_245:=am ((Y74:g≠gb245));have NB245_0:=am ((Y75:gb245≠g));replace HO238:=am (Kd.jW (rq HO238.out) hb);replace HO243:=am (Kd.jW (rq HO243.out) hb);replace BK234:=am (jc (g:=gb234) (o:=.cells #[.slice none 0 0] 25 (0,0)) (kq BK234.out) hb);replace BK235:=am (jc (g:=gb235) (o:=.cells #[.slice none 0 0] 28 (0,0)) (kq BK235.out) hb);replace BK240:=am (jc (g:=gb240) (o:=.cells #[.slice Ao50 t236.length co50] 25 (0,0)) (kq BK240.out) hb);replace HK:=am (jd.trans (Y23) (jd.of_below hb g none) (.inl rfl));replace HB:=am (je (Y37) hb);replace HI0:=am (jk.below (Y16) hb);clear hb hbox hg;obtain ⟨Ao57,co57,eo57⟩:=Kd.jZ HO243.out;subst eo57;have hnb58:=NB245_234.out;have hnc58:=NB234_245.out;have hnb59:=NB245_235.out;have hnc59:=NB235_245.out;have hnb60:=NB245_240.out;have hnc60:=NB240_245.out;have hnb61:=NB245_0.out;have hnc61:=NB0_245.out;have hcz62_0:=bc0 BK245.out;have hfz62_0:=jb BK245.out 0) |((with_reducible refine jw (f:=68) rfl ?_);refine gL (some 20) Tryd.func68 #[.pointer (some ⟨g,0,none⟩), .int .i64 (t241.length:Int)] ?_;(with_reducible refine (jm.calls k g s0_0 t244 (t241.length:Int) t246 t247 w0 _ ?side1 ?side2 A5.out).mono ?_);(case side1=>exact Y2);(case side2=>exact Y17);rintro e w63 ⟨rfl,hi,hb,hk⟩;refine ⟨_,rfl,?_⟩;replace BK234:=am (jd.blk hk (g':=gb234) (o:=.cells #[.slice none 0 0] 25 (0,0)) (Y89) NB234_0.out (by simp));replace BK235:=am (jd.blk hk (g':=gb235) (o:=.cells #[.slice none 0 0] 28 (0,0)) (Y90) NB235_0.out (by simp));replace HO238:=am (Kd.jI (Kd.jqa (jk.apart (show jk w0 _ g s0_0 t244 from Y2) (by (with_reducible repeat (first | apply Kd.jX | apply Kd.jba | apply Kd.jV));exact (Kd.jI (Kd.jwa (p:=⟨gb245,0,none⟩) (Kd.jP HO238.out BK245.out (by decide)) (fun _ hk=>hk.2) (.slice Ao57 t241.length co57)) (fun _ h_=>h_.1))) (by decide)) hk (fun _ h=>h.2)) (fun _ h=>h.1));replace BK240:=am (jd.blk hk (g':=gb240) (o:=.cells #[.slice Ao50 t236.length co50] 25 (0,0)) (Y91) NB240_0.out (by simp));replace HO243:=am (Kd.jI (Kd.jqa (jk.apart (show jk w0 _ g s0_0 t244 from Y2) (by (with_reducible repeat (first | apply Kd.jX | apply Kd.jba | apply Kd.jV));exact (Kd.jI (Kd.jwa (p:=⟨gb245,0,none⟩) (Kd.jP HO243.out BK245.out (by decide)) (fun _ hk=>hk.2) (.slice Ao57 t241.length co57)) (fun _ h_=>h_.1))) (by decide)) hk (fun _ h=>h.2)) (fun _ h=>h.1));replace BK245:=am (jd.blk hk (g':=gb245) (o:=.cells #[.slice Ao57 t241.length co57] 28 (0,0)) (Y92) NB245_0.out (by simp));replace HK:=am (jd.trans (Y10) hk (.inl rfl));replace HB:=am (hb);replace HI0:=am (hi);(try clear hb);(try clear hb2);(try clear hk);(try clear hi)) |((with_reducible refine jw (f:=68) rfl ?_);refine gL (some 22) Tryd.func68 #[.pointer (some ⟨g,0,none⟩), .int .i64 24] ?_;(with_reducible refine (jm.calls k g s0_0 t247 24 t248 t249 w0 _ ?side1 ?side2 A6.out).mono ?_);(case side1=>exact Y2);(case side2=>exact Y17);rintro e w64 ⟨rfl,hi,hb,hk⟩;refine ⟨_,rfl,?_⟩;replace BK234:=am (jd.blk hk (g':=gb234) (o:=.cells #[.slice none 0 0] 25 (0,0)) (kq BK234.out) NB234_0.out (by simp));replace BK235:=am (jd.blk hk (g':=gb235) (o:=.cells #[.slice none 0 0] 28 (0,0)) (kq BK235.out) NB235_0.out (by simp));replace HO238:=am (Kd.jI (Kd.jqa (jk.apart (show jk w0 _ g s0_0 t247 from Y2) (rq HO238.out) (by decide)) hk (fun _ h=>h.2)) (fun _ h=>h.1));replace BK240:=am (jd.blk hk (g':=gb240) (o:=.cells #[.slice Ao50 t236.length co50] 25 (0,0)) (kq BK240.out) NB240_0.out (by simp));replace HO243:=am (Kd.jI (Kd.jqa (jk.apart (show jk w0 _ g s0_0 t247 from Y2) (rq HO243.out) (by decide)) hk (fun _ h=>h.2)) (fun _ h=>h.1));replace BK245:=am (jd.blk hk (g':=gb245) (o:=.cells #[.slice Ao57 t241.length co57] 28 (0,0)) (kq BK245.out) NB245_0.out (by simp));replace HK:=am (jd.trans (Y10) hk (.inl rfl));replace HB:=am (hb);replace HI0:=am (hi);(try clear hb);(try clear hb2);(try clear hk);(try clear hi)))
      replace HO238:=am (Kd.jV HO238.out)
      replace HO243:=am (Kd.jV HO243.out)
      replace BK234:=am (jf BK234.out)
      replace BK235:=am (jf BK235.out)
      replace BK240:=am (jf BK240.out)
      replace BK245:=am (jf BK245.out)
      replace HI0:=am (jk.drew HI0.out)
      replace HK:=am (jaa HK.out)
      replace HB:=am (jq HB.out)
      refine jVb (n:=9) (S:=fun w'=>w'.cell? ⟨gb245,0,none⟩=some (.slice Ao57 t241.length co57)∧w'.cell? ⟨gb240,0,none⟩=some (.slice Ao50 t236.length co50)) (ds:=[8]) #[false,false,false,false,false,false,false,false,false] (by kernel_rfl) rfl rfl ⟨(jH BK245.out 0).trans rfl,(jH BK240.out 0).trans rfl⟩ (fun hHeld=>?_);refine jxb jN.tab9 jN.bits9 (fun HT_ HW_=>?_)
      generalize w64.drew=w65 at HO238 HO243 BK234 BK235 BK240 BK245 HI0 HK HB hHeld ⊢
      refine pq (i:=0) (N:=some 36) #[true,false,false,false,false,false,false,false,false] ?_
      refine pq (i:=2) (N:=some 38) #[true,false,true,false,false,false,false,false,false] ?_
      refine pq (i:=3) (N:=some 39) #[true,false,true,true,false,false,false,false,false] ?_
      refine jAb (i:=1) (N:=some 37) (v:=?_) (a':=?_) #[true,true,true,true,false,false,false,false,false] rfl rfl (jWa HT_.out HW_.out (by kernel_rfl)) (fun _ _ _ h=>h) (Or.inl ⟨by rfl,?_⟩) hHeld ?_ ?_
      rotate_left
      ·rintro w' ⟨s0,s1⟩
       go_simp
       with_reducible rfl
      rotate_left
      ·exact sa
      refine jAb (i:=4) (N:=some 40) (v:=?_) (a':=?_) #[true,true,true,true,true,false,false,false,false] rfl rfl (jWa HT_.out HW_.out (by kernel_rfl)) (fun _ _ _ h=>h) (Or.inl ⟨by rfl,?_⟩) hHeld ?_ ?_
      rotate_left
      ·rintro w' ⟨s0,s1⟩
       go_simp
       with_reducible rfl
      rotate_left
      ·exact sa
      refine one_ (i:=5) (N:=some 41) #[true,true,true,true,true,true,false,false,false] rfl rfl (jeb HT_.out (by kernel_rfl)) (by decide) (fun K hK=>?_)
      refine goes_ Tryd.func70 (by kernel_rfl) rfl #[.pointer (some ⟨g,0,none⟩), .agg #[.slice Ao50 t236.length co50]] (by rfl) rfl rfl (aq) ?_
      with_reducible refine (job.calls k g s0_0 t249 _ _ t236 t256 t257 w0 _ ?side1 ?side2 ?side3 ?side4 A42.out).mono ?_
      (case side1=>exact Y2)
      (case side2=>exact Y17)
      (case side3=>exact Kd.jUb (jk.apart (show jk w0 _ g s0_0 t249 from Y2) (rq HO238.out) (by decide)) (fun _ h_=>h_.2))
      (case side4=>exact (Kd.jC HO238.out).2.1)
      rintro e w66 ⟨rfl,hi,hb,hk⟩
      refine ⟨_,rfl,?_⟩
      replace BK234:=am (jd.blk hk (g':=gb234) (o:=.cells #[.slice none 0 0] 25 (0,0)) (kq BK234.out) NB234_0.out (by simp))
      replace BK235:=am (jd.blk hk (g':=gb235) (o:=.cells #[.slice none 0 0] 28 (0,0)) (kq BK235.out) NB235_0.out (by simp))
      replace HO238:=am (Kd.jI (Kd.jqa (jk.apart (show jk w0 _ g s0_0 t249 from Y2) (rq HO238.out) (by decide)) hk (fun _ h=>h.2)) (fun _ h=>h.1))
      replace BK240:=am (jd.blk hk (g':=gb240) (o:=.cells #[.slice Ao50 t236.length co50] 25 (0,0)) (kq BK240.out) NB240_0.out (by simp))
      replace HO243:=am (Kd.jI (Kd.jqa (jk.apart (show jk w0 _ g s0_0 t249 from Y2) (rq HO243.out) (by decide)) hk (fun _ h=>h.2)) (fun _ h=>h.1))
      replace BK245:=am (jd.blk hk (g':=gb245) (o:=.cells #[.slice Ao57 t241.length co57] 28 (0,0)) (kq BK245.out) NB245_0.out (by simp))
      replace HK:=am (jd.trans (Y10) hk (.inl rfl))
      replace HB:=am (hb)
      replace HI0:=am (hi)
      (try clear hb)
      (try clear hb2)
      (try clear hk)
      (try clear hi)
      have p45:0≤(t246:Int):=ozD (uq)
      have q45:(t246:Int)<((t241.length:Int):Int):=ozD (uq)
      obtain ⟨go45,co45,eo45,gb45,gl45,cl45,HG45⟩:=Kd.R_form HO243.out (by omega)
      (first | cases eo45 |(injection eo45 with ea_ en_ ec_;(first | subst ea_ |(injection ea_ with ea_;subst ea_));subst ec_;clear en_))
      have GB45:=am gb45
      have GG45:=am HG45
      clear gb45 gl45 HG45
      obtain ⟨ce45,hcl45,hM45,hcc45,hfr45⟩:=Kd.jyb HO243.out z66 (t246:Int) p45 q45
      obtain rfl:=jRa hM45
      have hx45_0:World.cell? _ ⟨go45,(t246:Int).toNat * 5,none⟩=some (.int .i64 ((ja t241 t246).f0)):=hcc45 0 _ rfl
      have hx45_1:World.cell? _ ⟨go45,(t246:Int).toNat * 5+1,none⟩=some (.int .i64 ((ja t241 t246).f1)):=hcc45 1 _ rfl
      have hx45_2:World.cell? _ ⟨go45,(t246:Int).toNat * 5+2,none⟩=some (.int .i64 ((ja t241 t246).f2)):=hcc45 2 _ rfl
      have hx45_3:World.cell? _ ⟨go45,(t246:Int).toNat * 5+3,none⟩=some (.int .i64 ((ja t241 t246).f3)):=hcc45 3 _ rfl
      have hx45_4:World.cell? _ ⟨go45,(t246:Int).toNat * 5+4,none⟩=some (.bool ((ja t241 t246).f4)):=hcc45 4 _ rfl
      have hf45_0:World.frozen? _ ⟨go45,(t246:Int).toNat * 5,none⟩=false:=hfr45 0
      have hf45_1:World.frozen? _ ⟨go45,(t246:Int).toNat * 5+1,none⟩=false:=hfr45 1
      have hf45_2:World.frozen? _ ⟨go45,(t246:Int).toNat * 5+2,none⟩=false:=hfr45 2
      have hf45_3:World.frozen? _ ⟨go45,(t246:Int).toNat * 5+3,none⟩=false:=hfr45 3
      have hf45_4:World.frozen? _ ⟨go45,(t246:Int).toNat * 5+4,none⟩=false:=hfr45 4
      clear hcl45 hcc45 hfr45 hM45
      replace p45:=ezT p45
      replace q45:=ezT q45
      have HN0_go45:=am (show g≠go45 from by have h_:=jk.own_ne HI0.out HO243.out (by decide);intro e_;exact h_ (by rw [e_];rfl))
      obtain ⟨ce67,hcl67,hM67,hcc67,hfr67⟩:=Kd.jyb HO243.out z66 (t246:Int) (ozD (uq)) (by have h_:(t246:Int)<((t241.length:Int):Int):=ozD (uq);first | exact h_ |(have e_:=(Kd.jC HO243.out).1;omega) | simpa using h_)
      obtain rfl:=jRa hM67
      have HP67:=(Kd.R_seg HO243.out (t246:Int) (ozD (uq)) (by have h_:(t246:Int)<((t241.length:Int):Int):=ozD (uq);first | exact h_ |(have e_:=(Kd.jC HO243.out).1;omega) | simpa using h_) (seg:=[.int .i64 t256]) (j:=0) hcl67 hcc67 (show 1≤5 from by decide) (x':=(⟨t256,(ja t241 t246).f1,(ja t241 t246).f2,(ja t241 t246).f3,(ja t241 t246).f4⟩:S66)) (jac _ _ _ (⟨t256,(ja t241 t246).f1,(ja t241 t246).f2,(ja t241 t246).f3,(ja t241 t246).f4⟩:S66) ) (fun _ hk=>hk)).1
      rw [← Ny258.out] at HP67
      have HQ67:=am HP67
      clear hcl67 hcc67 hfr67 hM67 HP67
      refine hK.out _ _ ⟨(jH BK245.out 0).trans rfl,(jH BK240.out 0).trans rfl⟩ (fun hHeld=>?_)
      clear hK K
      refine jZb (a':=?_) ?_ ?_
      rotate_left
      ·show Act.put _ (some 41) _=_
       simp only [Act.put,List.setIfInBounds_toArray,List.set_cons_zero,List.set_cons_succ,jwb,jBb]
       rfl
      refine pq (i:=6) (N:=some 42) #[true,true,true,true,true,true,true,false,false] ?_
      refine pq (i:=7) (N:=some 43) #[true,true,true,true,true,true,true,true,false] ?_
      refine last_ (i:=8) (N:=none) #[true,true,true,true,true,true,true,true,true] rfl rfl (jeb HT_.out (by kernel_rfl)) (by decide) (fun K hK=>?_)
      refine jcc (w1:=?_) (by rfl) rfl ?_ ?_
      rotate_left
      ·go_simp
       rfl
      refine hK.out _ _ ?_
      clear hK K
      refine jqc (jbc HT_.out (by kernel_rfl)) ?_
      have n0_:jB (Kd.R k99 99 (w66.setCell ⟨go45,(t246:Int).toNat * 5,none⟩ (.int .i64 t256)) w.heap.size (fun _=>True) (.slice Ao50 t236.length co50) t236):=⟨by (with_reducible repeat (first | apply Kd.jX | apply Kd.jba | apply Kd.jV));exact Kd.jI (Kd.jwa (p:=⟨go45,(t246:Int).toNat * 5,none⟩) (Kd.jP HO238.out GG45.out (by decide)) (fun _ hk=>hk.2) (.int .i64 t256)) (fun _ hk=>trivial)⟩
      have n1_:jB (Kd.R k66 66 (w66.setCell ⟨go45,(t246:Int).toNat * 5,none⟩ (.int .i64 t256)) w.heap.size (fun _=>True) (.slice (some ⟨go45,0,none⟩) t241.length co57) y258):=⟨rq HQ67.out⟩
      have n2_:jB ((w66.setCell ⟨go45,(t246:Int).toNat * 5,none⟩ (.int .i64 t256)).heap[gb234]?=some (.cells #[.slice none 0 0] 25 (0,0))):=⟨by (with_reducible repeat (first | refine jg ?_ _ | refine jf ?_ | refine jh ?_ _));refine jT ?_ (by have h_:=Kd.R_ne HO243.out BK234.out (by decide);intro e_;exact h_ (by rw [e_];rfl)) _;(with_reducible repeat (first | refine jg ?_ _ | refine jf ?_ | refine jh ?_ _));exact BK234.out⟩
      have n3_:jB ((w66.setCell ⟨go45,(t246:Int).toNat * 5,none⟩ (.int .i64 t256)).heap[gb235]?=some (.cells #[.slice none 0 0] 28 (0,0))):=⟨by (with_reducible repeat (first | refine jg ?_ _ | refine jf ?_ | refine jh ?_ _));refine jT ?_ (by have h_:=Kd.R_ne HO243.out BK235.out (by decide);intro e_;exact h_ (by rw [e_];rfl)) _;(with_reducible repeat (first | refine jg ?_ _ | refine jf ?_ | refine jh ?_ _));exact BK235.out⟩
      have n4_:jB ((w66.setCell ⟨go45,(t246:Int).toNat * 5,none⟩ (.int .i64 t256)).heap[gb240]?=some (.cells #[.slice Ao50 t236.length co50] 25 (0,0))):=⟨by (with_reducible repeat (first | refine jg ?_ _ | refine jf ?_ | refine jh ?_ _));refine jT ?_ (by have h_:=Kd.R_ne HO243.out BK240.out (by decide);intro e_;exact h_ (by rw [e_];rfl)) _;(with_reducible repeat (first | refine jg ?_ _ | refine jf ?_ | refine jh ?_ _));exact BK240.out⟩
      have n5_:jB ((w66.setCell ⟨go45,(t246:Int).toNat * 5,none⟩ (.int .i64 t256)).heap[gb245]?=some (.cells #[.slice (some ⟨go45,0,none⟩) t241.length co57] 28 (0,0))):=⟨by (with_reducible repeat (first | refine jg ?_ _ | refine jf ?_ | refine jh ?_ _));refine jT ?_ (by have h_:=Kd.R_ne HO243.out BK245.out (by decide);intro e_;exact h_ (by rw [e_];rfl)) _;(with_reducible repeat (first | refine jg ?_ _ | refine jf ?_ | refine jh ?_ _));exact BK245.out⟩
      have n6_:jB (jk w0 (w66.setCell ⟨go45,(t246:Int).toNat * 5,none⟩ (.int .i64 t256)) g s0_0 t257):=⟨by repeat (first |(with_reducible first | exact HI0.out | apply jk.alloc | apply jk.drewN | apply jk.drew | apply jk.jmb | refine jk.far ?_ HN0_go45.out _ | refine jk.far ?_ NB0_234.out _ | refine jk.far ?_ NB0_235.out _ | refine jk.far ?_ NB0_240.out _ | refine jk.far ?_ NB0_245.out _) | exact HI0.out)⟩
      have n7_:jB (jd w (w66.setCell ⟨go45,(t246:Int).toNat * 5,none⟩ (.int .i64 t256)) g none):=⟨by repeat (first |(with_reducible first | exact HK.out | apply jd.set_ | apply jja | apply jaa | apply jka | refine jO ?_ GB45.out _ | refine jO ?_ GW234.out _ | refine jO ?_ GW235.out _ | refine jO ?_ GW240.out _ | refine jO ?_ GW245.out _) | exact HK.out)⟩
      have n8_:jB (Below w0.heap.size w0 (w66.setCell ⟨go45,(t246:Int).toNat * 5,none⟩ (.int .i64 t256))):=⟨by repeat (first |(with_reducible first | exact HB.out | apply jv | apply jo | apply jq | refine jl ?_ (Nat.le_trans HL.out GB45.out) | refine jl ?_ (jk.ge HI0.out) | refine jl ?_ GE234.out | refine jl ?_ GE235.out | refine jl ?_ GE240.out | refine jl ?_ GE245.out) | exact HB.out)⟩
      (try clear HO238)
      (try clear HO243)
      (try clear BK234)
      (try clear BK235)
      (try clear BK240)
      (try clear BK245)
      (try clear HI0)
      (try clear HK)
      (try clear HB)
      generalize (w66.setCell ⟨go45,(t246:Int).toNat * 5,none⟩ (.int .i64 t256))=w68 at n0_ n1_ n2_ n3_ n4_ n5_ n6_ n7_ n8_ ⊢
      have HO238:=n0_
      have HO243:=n1_
      have BK234:=n2_
      have BK235:=n3_
      have BK240:=n4_
      have BK245:=n5_
      have HI0:=n6_
      have HK:=n7_
      have HB:=n8_
      clear n0_ n1_ n2_ n3_ n4_ n5_ n6_ n7_ n8_
      try go_wp2
      replace HO238:=am (Kd.jV HO238.out)
      replace HO243:=am (Kd.jV HO243.out)
      replace BK234:=am (jf BK234.out)
      replace BK235:=am (jf BK235.out)
      replace BK240:=am (jf BK240.out)
      replace BK245:=am (jf BK245.out)
      replace HI0:=am (jk.drew HI0.out)
      replace HK:=am (jaa HK.out)
      replace HB:=am (jq HB.out)
      refine jVb (n:=4) (S:=fun w'=>w'.cell? ⟨gb240,0,none⟩=some (.slice Ao50 t236.length co50)∧w'.cell? ⟨gb245,0,none⟩=some (.slice (some ⟨go45,0,none⟩) t241.length co57)) (ds:=[]) #[false,false,false,false] (by kernel_rfl) rfl rfl ⟨(jH BK240.out 0).trans rfl,(jH BK245.out 0).trans rfl⟩ (fun hHeld=>?_)
      generalize w68.drew=w69 at HO238 HO243 BK234 BK235 BK240 BK245 HI0 HK HB hHeld ⊢
      refine jAb (i:=0) (N:=some 65) (v:=?_) (a':=?_) #[true,false,false,false] rfl rfl (by kernel_rfl) (fun _ _ _ h=>h) (Or.inl ⟨by rfl,?_⟩) hHeld ?_ ?_
      rotate_left
      ·rintro w' ⟨s0,s1⟩
       go_simp
       with_reducible rfl
      rotate_left
      ·exact sa
      refine jAb (i:=1) (N:=some 66) (v:=?_) (a':=?_) #[true,true,false,false] rfl rfl (by kernel_rfl) (fun _ _ _ h=>h) (Or.inl ⟨by rfl,?_⟩) hHeld ?_ ?_
      rotate_left
      ·rintro w' ⟨s0,s1⟩
       go_simp
       with_reducible rfl
      rotate_left
      ·exact sa
      refine one_ (i:=2) (N:=none) #[true,true,true,false] rfl rfl (by kernel_rfl) (by decide) (fun K hK=>?_)
      have hs70:w69.cell? ⟨gb234,0,none⟩=some (.slice none 0 0):=(jH BK234.out 0).trans rfl
      have hfs70:=jb BK234.out 0
      have hns70_1:=NB235_234.out
      have hns70_2:=NB240_234.out
      have hns70_3:=NB245_234.out
      have hms70_1:=NB234_235.out
      have hms70_2:=NB234_240.out
      have hms70_3:=NB234_245.out
      refine jcc (w1:=?_) (by rfl) rfl ?_ ?_
      rotate_left
      ·go_simp
       rfl
      refine hK.out _ _ ⟨((cell_far (p:=⟨gb234,_,none⟩) NB240_234.out _).trans (hHeld.1)),((cell_far (p:=⟨gb234,_,none⟩) NB245_234.out _).trans (hHeld.2))⟩ (fun hHeld=>?_)
      clear hK K
      refine one_ (i:=3) (N:=none) #[true,true,true,true] rfl rfl (by kernel_rfl) (by decide) (fun K hK=>?_)
      have hs71:w69.cell? ⟨gb235,0,none⟩=some (.slice none 0 0):=(jH BK235.out 0).trans rfl
      have hfs71:=jb BK235.out 0
      have hns71_0:=NB234_235.out
      have hns71_2:=NB240_235.out
      have hns71_3:=NB245_235.out
      have hms71_0:=NB235_234.out
      have hms71_2:=NB235_240.out
      have hms71_3:=NB235_245.out
      refine jcc (w1:=?_) (by rfl) rfl ?_ ?_
      rotate_left
      ·go_simp
       rfl
      refine hK.out _ _ ⟨((cell_far (p:=⟨gb235,_,none⟩) NB240_235.out _).trans (hHeld.1)),((cell_far (p:=⟨gb235,_,none⟩) NB245_235.out _).trans (hHeld.2))⟩ (fun hHeld=>?_)
      clear hK K
      refine jqc (by kernel_rfl) ?_
      try go_wp2
      refine bodyPost_ret (jdc rfl _ _ gb234 gb235 25 28 #[.slice Ao50 t236.length co50] #[.slice (some ⟨go45,0,none⟩) t241.length co57] (0,0) (0,0) _ _ rfl (Y76) Tryd.underlying25 rfl (by kernel_rfl) rfl (Y77) Tryd.underlying28 rfl (by kernel_rfl)) rfl ?_
      exact ⟨_,_,Y1,by (with_reducible repeat (first | apply Kd.jX | apply Kd.jba | apply Kd.jV));exact Kd.jI (Kd.jwa (p:=⟨gb235,0,none⟩) (Kd.jwa (p:=⟨gb234,0,none⟩) (Kd.jP (Kd.jP HO238.out BK234.out (by decide)) BK235.out (by decide)) (fun _ hk=>hk.1.2) (.slice Ao50 t236.length co50)) (fun _ hk=>hk.2) (.slice (some ⟨go45,0,none⟩) t241.length co57)) (fun _ hk=>trivial),by (with_reducible repeat (first | apply Kd.jX | apply Kd.jba | apply Kd.jV));exact Kd.jI (Kd.jwa (p:=⟨gb235,0,none⟩) (Kd.jwa (p:=⟨gb234,0,none⟩) (Kd.jP (Kd.jP HO243.out BK234.out (by decide)) BK235.out (by decide)) (fun _ hk=>hk.1.2) (.slice Ao50 t236.length co50)) (fun _ hk=>hk.2) (.slice (some ⟨go45,0,none⟩) t241.length co57)) (fun _ hk=>trivial),Y2,Y17,Y10⟩
     ·rw [if_neg c44] at H
      exact absurd H (by simp)
    ·rw [if_neg c43] at H
     exact absurd H (by simp)
   ·rw [if_neg c41] at H
    have c41b0:(t248 == 1)=false:=beq_eq_false_iff_ne.mpr c41
    have c41b1:(t248 != 1)=true:=bne_iff_ne.mpr c41
    by_cases c72:t248=2
    ·rw [if_pos c72] at H
     have c72b0:(t248 == 2)=true:=beq_iff_eq.mpr c72
     have c72b1:(t248 != 2)=false:=bne_eq_false_iff_eq.mpr c72
     clear c72
     obtain ⟨y259,hy259⟩:∃ y_:List Int,y_=(([(-1),100]:List Int)):=⟨_,rfl⟩
     replace H:((jy.f k s0_0 t249 y259).bind fun bt262=>(if 0≤t246 then (if t246<(t241.length:Int) then (some (t236,(t241.set (t246:Int).toNat (⟨(ja t241 t246).f0,bt262.1,(ja t241 t246).f2,(ja t241 t246).f3,(ja t241 t246).f4⟩:S66)),bt262.2)) else (none)) else (none)))=some (r1,r2,r3):=by first |(rw [hy259];with_reducible exact H) |(have H2_:=(Option.bind_some _ _).symm.trans H;rw [hy259];with_reducible exact H2_) |(have H2_:=(Option.bind_some _ _).symm.trans H;with_reducible exact H2_) | with_reducible exact H |(rw [hy259];exact H) | exact H
     have Ny259:=am hy259
     clear hy259
     replace H:=bzS H
     obtain ⟨⟨t262,t263⟩,A730,H⟩:=H
     replace H:(if 0≤t246 then (if t246<(t241.length:Int) then (some (t236,(t241.set (t246:Int).toNat (⟨(ja t241 t246).f0,t262,(ja t241 t246).f2,(ja t241 t246).f3,(ja t241 t246).f4⟩:S66)),t263)) else (none)) else (none))=some (r1,r2,r3):=H
     have A73:=am A730
     clear A730
     by_cases c74:0≤t246
     ·rw [if_pos c74] at H
      have c74b0:decide (0≤t246)=true:=dzT c74
      clear c74
      by_cases c75:t246<(t241.length:Int)
      ·rw [if_pos c75] at H
       have c75b0:decide (t246<(t241.length:Int))=true:=dzT c75
       clear c75
       obtain ⟨y264,hy264⟩:∃ y_:List (S66),y_=(t241.set (t246:Int).toNat (⟨(ja t241 t246).f0,t262,(ja t241 t246).f2,(ja t241 t246).f3,(ja t241 t246).f4⟩:S66)):=⟨_,rfl⟩
       replace H:(some (t236,y264,t263))=some (r1,r2,r3):=by first |(rw [hy264];with_reducible exact H) |(have H2_:=(Option.bind_some _ _).symm.trans H;rw [hy264];with_reducible exact H2_) |(have H2_:=(Option.bind_some _ _).symm.trans H;with_reducible exact H2_) | with_reducible exact H |(rw [hy264];exact H) | exact H
       have Ny264:=am hy264
       clear hy264
       simp only [Option.some.injEq,Prod.mk.injEq] at H
       obtain ⟨rfl,rfl,rfl⟩:=H
       go_enter Tryd.func43,Tryd.ntmps43
       try go_wp2_with (first |((with_reducible refine jD (N:=2) rfl ?_);refine bE (N:=2) (cs:=#[.slice none 0 0]) (t:=25) ?_;intro gb234 hg w77 hbox hb;have BK234:=am (hbox);have GW234:=am ((Y6:w.heap.size≤gb234));have GE234:=am ((Nat.le_trans HW0.out (Y6:w.heap.size≤gb234):w0.heap.size≤gb234));have NB0_234:=am ((Y24:g≠gb234));have NB234_0:=am ((Y25:gb234≠g));replace HK:=am (jd.trans (Y13) (jd.of_below hb g none) (.inl rfl));replace HB:=am (je (Y14) hb);replace HI0:=am (jk.below (Y12) hb);clear hb hbox hg) |((with_reducible refine jD (N:=3) rfl ?_);refine bE (N:=3) (cs:=#[.slice none 0 0]) (t:=28) ?_;intro gb235 hg w78 hbox hb;have BK235:=am (hbox);have GW235:=am ((Y31:w.heap.size≤gb235));have GE235:=am ((Nat.le_trans HW0.out (Y31:w.heap.size≤gb235):w0.heap.size≤gb235));have NB234_235:=am ((Y20:gb234≠gb235));have NB235_234:=am ((Y21:gb235≠gb234));have NB0_235:=am ((Y64:g≠gb235));have NB235_0:=am ((Y65:gb235≠g));replace BK234:=am (jc (g:=gb234) (o:=.cells #[.slice none 0 0] 25 (0,0)) (kq BK234.out) hb);replace HK:=am (jd.trans (Y66) (jd.of_below hb g none) (.inl rfl));replace HB:=am (je (Y67) hb);replace HI0:=am (jk.below (Y68) hb);clear hb hbox hg) |((with_reducible refine jw (f:=67) rfl ?_);refine gL (some 8) Tryd.func67 #[.pointer (some ⟨g,0,none⟩)] ?_;(with_reducible refine (jca.calls k g s0_0 s0_1 t236 t239 w0 _ ?side1 ?side2 A2.out).mono ?_);(case side1=>exact Y32);(case side2=>exact Y33);rintro e w79 ⟨v237,rfl,ho0,hi,hb,hk⟩;refine ⟨_,rfl,?_⟩;have HO238:=am (Kd.jia ho0 (jea (w:=w) (g:=g) (row:=none) (Y22)));replace BK234:=am (jd.blk hk (g':=gb234) (o:=.cells #[.slice none 0 0] 25 (0,0)) (kq BK234.out) NB234_0.out (by simp));replace BK235:=am (jd.blk hk (g':=gb235) (o:=.cells #[.slice none 0 0] 28 (0,0)) (kq BK235.out) NB235_0.out (by simp));replace HK:=am (jd.trans (Y22) hk (.inl rfl));replace HB:=am (hb);replace HI0:=am (hi);(try clear hb);(try clear hb2);(try clear hk);(try clear hi);(try clear ho0)) |((with_reducible refine jD (N:=4) rfl ?_);refine bE (N:=4) (cs:=#[.slice none 0 0]) (t:=25) ?_;intro gb240 hg w80 hbox hb;have BK240:=am (hbox);have GW240:=am ((Y34:w.heap.size≤gb240));have GE240:=am ((Nat.le_trans HW0.out (Y34:w.heap.size≤gb240):w0.heap.size≤gb240));have NB234_240:=am ((Y20:gb234≠gb240));have NB240_234:=am ((Y21:gb240≠gb234));have NB235_240:=am ((Y35:gb235≠gb240));have NB240_235:=am ((Y36:gb240≠gb235));have NB0_240:=am ((Y69:g≠gb240));have NB240_0:=am ((Y70:gb240≠g));replace HO238:=am (Kd.jW (rq HO238.out) hb);replace BK234:=am (jc (g:=gb234) (o:=.cells #[.slice none 0 0] 25 (0,0)) (kq BK234.out) hb);replace BK235:=am (jc (g:=gb235) (o:=.cells #[.slice none 0 0] 28 (0,0)) (kq BK235.out) hb);replace HK:=am (jd.trans (Y22) (jd.of_below hb g none) (.inl rfl));replace HB:=am (je (Y33) hb);replace HI0:=am (jk.below (Y32) hb);clear hb hbox hg;obtain ⟨Ao81,co81,eo81⟩:=Kd.jZ HO238.out;subst eo81;have hnb82:=NB240_234.out;have hnc82:=NB234_240.out;have hnb83:=NB240_235.out;have hnc83:=NB235_240.out;have hnb84:=NB240_0.out;have hnc84:=NB0_240.out;have hcz85_0:=bc0 BK240.out;have hfz85_0:=jb BK240.out 0) |((with_reducible refine jw (f:=44) rfl ?_);refine gL (some 11) Tryd.func44 #[.pointer (some ⟨g,0,none⟩), .agg #[.slice Ao81 t236.length co81]] ?_;(with_reducible refine (jr.calls k g s0_0 t239 _ _ t236 t241 t244 w0 _ ?side1 ?side2 ?side3 ?side4 A3.out).mono ?_);(case side1=>exact Y16);(case side2=>exact Y37);(case side3=>exact Kd.jUb (jk.apart (show jk w0 _ g s0_0 t239 from Y16) (Y164) (by decide)) (fun _ h_=>h_.2));(case side4=>exact (Kd.jC HO238.out).2.1);rintro e w86 ⟨v242,rfl,ho0,hi,hb,hk⟩;refine ⟨_,rfl,?_⟩;have HO243:=am (Kd.jia ho0 (jea (w:=w) (g:=g) (row:=none) (Y23)));replace BK234:=am (jd.blk hk (g':=gb234) (o:=.cells #[.slice none 0 0] 25 (0,0)) (Y71) NB234_0.out (by simp));replace BK235:=am (jd.blk hk (g':=gb235) (o:=.cells #[.slice none 0 0] 28 (0,0)) (Y72) NB235_0.out (by simp));replace HO238:=am (Kd.jI (Kd.jqa (jk.apart (show jk w0 _ g s0_0 t239 from Y16) (Y164) (by decide)) hk (fun _ h=>h.2)) (fun _ h=>h.1));replace BK240:=am (jd.blk hk (g':=gb240) (o:=.cells #[.slice Ao81 t236.length co81] 25 (0,0)) (Y73) NB240_0.out (by simp));replace HK:=am (jd.trans (Y23) hk (.inl rfl));replace HB:=am (hb);replace HI0:=am (hi);(try clear hb);(try clear hb2);(try clear hk);(try clear hi);(try clear ho0)) |((with_reducible refine jD (N:=5) rfl ?_);refine bE (N:=5) (cs:=#[.slice none 0 0]) (t:=28) ?_;intro gb245 hg w87 hbox hb;have BK245:=am (hbox);have GW245:=am ((Y38:w.heap.size≤gb245));have GE245:=am ((Nat.le_trans HW0.out (Y38:w.heap.size≤gb245):w0.heap.size≤gb245));have NB234_245:=am ((Y20:gb234≠gb245));have NB245_234:=am ((Y21:gb245≠gb234));have NB235_245:=am ((Y35:gb235≠gb245));have NB245_235:=am ((Y36:gb245≠gb235));have NB240_245:=am ((by rw [hg];exact Nat.ne_of_lt (jda (g:=gb240) (o:=.cells #[.slice Ao81 t236.length co81] 25 (0,0)) (kq BK240.out)):gb240≠gb245));have NB245_240:=am ((by rw [hg];exact Nat.ne_of_gt (jda (g:=gb240) (o:=.cells #[.slice Ao81 t236.length co81] 25 (0,0)) (kq BK240.out)):gb245≠gb240));have NB0_245:=am ((Y74:g≠gb245));have NB245_0:=am ((Y75:gb245≠g));replace HO238:=am (Kd.jW (rq HO238.out) hb);replace HO243:=am (Kd.jW (rq HO243.out) hb);replace BK234:=am (jc (g:=gb234) (o:=.cells #[.slice none 0 0] 25 (0,0)) (kq BK234.out) hb);replace BK235:=am (jc (g:=gb235) (o:=.cells #[.slice none 0 0] 28 (0,0)) (kq BK235.out) hb);replace BK240:=am (jc (g:=gb240) (o:=.cells #[.slice Ao81 t236.length co81] 25 (0,0)) (kq BK240.out) hb);replace HK:=am (jd.trans (Y23) (jd.of_below hb g none) (.inl rfl));replace HB:=am (je (Y37) hb);replace HI0:=am (jk.below (Y16) hb);clear hb hbox hg;obtain ⟨Ao88,co88,eo88⟩:=Kd.jZ HO243.out;subst eo88;have hnb89:=NB245_234.out;have hnc89:=NB234_245.out;have hnb90:=NB245_235.out;have hnc90:=NB235_245.out;have hnb91:=NB245_240.out;have hnc91:=NB240_245.out;have hnb92:=NB245_0.out;have hnc92:=NB0_245.out;have hcz93_0:=bc0 BK245.out;have hfz93_0:=jb BK245.out 0) |((with_reducible refine jw (f:=68) rfl ?_);refine gL (some 20) Tryd.func68 #[.pointer (some ⟨g,0,none⟩), .int .i64 (t241.length:Int)] ?_;(with_reducible refine (jm.calls k g s0_0 t244 (t241.length:Int) t246 t247 w0 _ ?side1 ?side2 A5.out).mono ?_);(case side1=>exact Y2);(case side2=>exact Y17);rintro e w94 ⟨rfl,hi,hb,hk⟩;refine ⟨_,rfl,?_⟩;replace BK234:=am (jd.blk hk (g':=gb234) (o:=.cells #[.slice none 0 0] 25 (0,0)) (Y89) NB234_0.out (by simp));replace BK235:=am (jd.blk hk (g':=gb235) (o:=.cells #[.slice none 0 0] 28 (0,0)) (Y90) NB235_0.out (by simp));replace HO238:=am (Kd.jI (Kd.jqa (jk.apart (show jk w0 _ g s0_0 t244 from Y2) (by (with_reducible repeat (first | apply Kd.jX | apply Kd.jba | apply Kd.jV));exact (Kd.jI (Kd.jwa (p:=⟨gb245,0,none⟩) (Kd.jP HO238.out BK245.out (by decide)) (fun _ hk=>hk.2) (.slice Ao88 t241.length co88)) (fun _ h_=>h_.1))) (by decide)) hk (fun _ h=>h.2)) (fun _ h=>h.1));replace BK240:=am (jd.blk hk (g':=gb240) (o:=.cells #[.slice Ao81 t236.length co81] 25 (0,0)) (Y91) NB240_0.out (by simp));replace HO243:=am (Kd.jI (Kd.jqa (jk.apart (show jk w0 _ g s0_0 t244 from Y2) (by (with_reducible repeat (first | apply Kd.jX | apply Kd.jba | apply Kd.jV));exact (Kd.jI (Kd.jwa (p:=⟨gb245,0,none⟩) (Kd.jP HO243.out BK245.out (by decide)) (fun _ hk=>hk.2) (.slice Ao88 t241.length co88)) (fun _ h_=>h_.1))) (by decide)) hk (fun _ h=>h.2)) (fun _ h=>h.1));replace BK245:=am (jd.blk hk (g':=gb245) (o:=.cells #[.slice Ao88 t241.length co88] 28 (0,0)) (Y92) NB245_0.out (by simp));replace HK:=am (jd.trans (Y10) hk (.inl rfl));replace HB:=am (hb);replace HI0:=am (hi);(try clear hb);(try clear hb2);(try clear hk);(try clear hi)) |((with_reducible refine jw (f:=68) rfl ?_);refine gL (some 22) Tryd.func68 #[.pointer (some ⟨g,0,none⟩), .int .i64 24] ?_;(with_reducible refine (jm.calls k g s0_0 t247 24 t248 t249 w0 _ ?side1 ?side2 A6.out).mono ?_);(case side1=>exact Y2);(case side2=>exact Y17);rintro e w95 ⟨rfl,hi,hb,hk⟩;refine ⟨_,rfl,?_⟩;replace BK234:=am (jd.blk hk (g':=gb234) (o:=.cells #[.slice none 0 0] 25 (0,0)) (kq BK234.out) NB234_0.out (by simp));replace BK235:=am (jd.blk hk (g':=gb235) (o:=.cells #[.slice none 0 0] 28 (0,0)) (kq BK235.out) NB235_0.out (by simp));replace HO238:=am (Kd.jI (Kd.jqa (jk.apart (show jk w0 _ g s0_0 t247 from Y2) (rq HO238.out) (by decide)) hk (fun _ h=>h.2)) (fun _ h=>h.1));replace BK240:=am (jd.blk hk (g':=gb240) (o:=.cells #[.slice Ao81 t236.length co81] 25 (0,0)) (kq BK240.out) NB240_0.out (by simp));replace HO243:=am (Kd.jI (Kd.jqa (jk.apart (show jk w0 _ g s0_0 t247 from Y2) (rq HO243.out) (by decide)) hk (fun _ h=>h.2)) (fun _ h=>h.1));replace BK245:=am (jd.blk hk (g':=gb245) (o:=.cells #[.slice Ao88 t241.length co88] 28 (0,0)) (kq BK245.out) NB245_0.out (by simp));replace HK:=am (jd.trans (Y10) hk (.inl rfl));replace HB:=am (hb);replace HI0:=am (hi);(try clear hb);(try clear hb2);(try clear hk);(try clear hi)))
       replace HO238:=am (Kd.jV HO238.out)
       replace HO243:=am (Kd.jV HO243.out)
       replace BK234:=am (jf BK234.out)
       replace BK235:=am (jf BK235.out)
       replace BK240:=am (jf BK240.out)
       replace BK245:=am (jf BK245.out)
       replace HI0:=am (jk.drew HI0.out)
       replace HK:=am (jaa HK.out)
       replace HB:=am (jq HB.out)
       refine jVb (n:=9) (S:=fun w'=>w'.cell? ⟨gb245,0,none⟩=some (.slice Ao88 t241.length co88)) (ds:=[8]) #[false,false,false,false,false,false,false,false,false] (by kernel_rfl) rfl rfl ((jH BK245.out 0).trans rfl) (fun hHeld=>?_);refine jxb jN.tab11 jN.bits11 (fun HT_ HW_=>?_)
       generalize w95.drew=w96 at HO238 HO243 BK234 BK235 BK240 BK245 HI0 HK HB hHeld ⊢
       refine pq (i:=0) (N:=some 46) #[true,false,false,false,false,false,false,false,false] ?_
       refine pq (i:=2) (N:=some 48) #[true,false,true,false,false,false,false,false,false] ?_
       refine pq (i:=3) (N:=some 49) #[true,false,true,true,false,false,false,false,false] ?_
       refine jAb (i:=1) (N:=some 47) (v:=?_) (a':=?_) #[true,true,true,true,false,false,false,false,false] rfl rfl (jWa HT_.out HW_.out (by kernel_rfl)) (fun _ _ _ h=>h) (Or.inl ⟨by rfl,?_⟩) hHeld ?_ ?_
       rotate_left
       ·intro w' s0
        go_simp
        with_reducible rfl
       rotate_left
       ·exact sa
       refine one_ (i:=4) (N:=some 50) #[true,true,true,true,true,false,false,false,false] rfl rfl (jeb HT_.out (by kernel_rfl)) (by decide) (fun K hK=>?_)
       refine Kd.jTb (Kd.int .i64) _ 3 ?hg (N:=50) ?hd (xs:=([(-1),100]:List Int)) (inner:=[.int .i64 (-1), .int .i64 100]) (ok:=fun _=>True) (okp:=fun _=>True) ?hr ?hp (fun _ hk=>hk) trivial (Below.refl _ _) (Nat.le_refl _) (by simp) ?_;(case hd=>rfl);(case hg=>rfl);(case hr=>exact Y4);(case hp=>exact (Reps.one (show Kd.M (Kd.int .i64) _ _ _ (-1) [.int .i64 (-1)] from rfl) (Reps.one (show Kd.M (Kd.int .i64) _ _ _ 100 [.int .i64 100] from rfl) (Reps.none _ _))))
       intro v260 w97 ho98 hb hg_ hnew_
       clear hg_ hnew_
       (first | rw [← Ny259.out] at ho98 |(simp only [Int.reduceToNat] at ho98;rw [← Ny259.out] at ho98))
       have HO261:=am (Kd.jia ho98 (jea (w:=w) (g:=g) (row:=none) (Y10)))
       replace HO238:=am (Kd.jW (rq HO238.out) hb)
       replace HO243:=am (Kd.jW (rq HO243.out) hb)
       replace BK234:=am (jc (g:=gb234) (o:=.cells #[.slice none 0 0] 25 (0,0)) (kq BK234.out) hb)
       replace BK235:=am (jc (g:=gb235) (o:=.cells #[.slice none 0 0] 28 (0,0)) (kq BK235.out) hb)
       replace BK240:=am (jc (g:=gb240) (o:=.cells #[.slice Ao81 t236.length co81] 25 (0,0)) (kq BK240.out) hb)
       replace BK245:=am (jc (g:=gb245) (o:=.cells #[.slice Ao88 t241.length co88] 28 (0,0)) (kq BK245.out) hb)
       replace HK:=am (jd.trans (Y10) (jd.of_below hb g none) (.inl rfl))
       replace HB:=am (je (Y17) hb)
       replace HI0:=am (jk.below (Y2) hb)
       clear hb ho98
       obtain ⟨Ao99,co99,eo99⟩:=Kd.jZ HO261.out
       (first | subst eo99 |(injection eo99 with f1_ f2_ f3_;have f4_:=f1_.symm;have f5_:=f3_.symm;clear f1_ f2_ f3_;subst f4_;subst f5_))
       refine hK.out _ _ ((jH BK245.out 0).trans rfl) (fun hHeld=>?_)
       clear hK K
       refine jZb (a':=?_) ?_ ?_
       rotate_left
       ·show Act.put _ (some 50) _=_
        simp only [Act.put,List.setIfInBounds_toArray,List.set_cons_zero,List.set_cons_succ,jwb,jBb]
        rfl
       refine one_ (i:=5) (N:=some 51) #[true,true,true,true,true,true,false,false,false] rfl rfl (jeb HT_.out (by kernel_rfl)) (by decide) (fun K hK=>?_)
       refine goes_ Tryd.func69 (by kernel_rfl) rfl #[.pointer (some ⟨g,0,none⟩), .slice Ao99 y259.length co99] (by rfl) rfl rfl (aq) ?_
       with_reducible refine (jy.calls k g s0_0 t249 _ _ y259 t262 t263 w0 _ ?side1 ?side2 ?side3 ?side4 ?side5 A73.out).mono ?_
       (case side1=>exact Y2)
       (case side2=>exact Y17)
       (case side3=>exact cq (Kd.jC HO261.out).2.2)
       (case side4=>exact (Kd.jC HO261.out).2.1)
       (case side5=>exact jCb (jk.own_ne HI0.out HO261.out (by decide)))
       rintro e w100 ⟨rfl,hi,hb,hk⟩
       refine ⟨_,rfl,?_⟩
       replace BK234:=am (jd.blk hk (g':=gb234) (o:=.cells #[.slice none 0 0] 25 (0,0)) (kq BK234.out) NB234_0.out (by simp))
       replace BK235:=am (jd.blk hk (g':=gb235) (o:=.cells #[.slice none 0 0] 28 (0,0)) (kq BK235.out) NB235_0.out (by simp))
       replace HO238:=am (Kd.jI (Kd.jqa (jk.apart (show jk w0 _ g s0_0 t249 from Y2) (rq HO238.out) (by decide)) hk (fun _ h=>h.2)) (fun _ h=>h.1))
       replace BK240:=am (jd.blk hk (g':=gb240) (o:=.cells #[.slice Ao81 t236.length co81] 25 (0,0)) (kq BK240.out) NB240_0.out (by simp))
       replace HO243:=am (Kd.jI (Kd.jqa (jk.apart (show jk w0 _ g s0_0 t249 from Y2) (rq HO243.out) (by decide)) hk (fun _ h=>h.2)) (fun _ h=>h.1))
       replace BK245:=am (jd.blk hk (g':=gb245) (o:=.cells #[.slice Ao88 t241.length co88] 28 (0,0)) (kq BK245.out) NB245_0.out (by simp))
       replace HO261:=am (Kd.jI (Kd.jqa (jk.apart (show jk w0 _ g s0_0 t249 from Y2) (rq HO261.out) (by decide)) hk (fun _ h=>h.2)) (fun _ h=>h.1))
       replace HK:=am (jd.trans (Y10) hk (.inl rfl))
       replace HB:=am (hb)
       replace HI0:=am (hi)
       (try clear hb)
       (try clear hb2)
       (try clear hk)
       (try clear hi)
       have p76:0≤(t246:Int):=ozD (uq)
       have q76:(t246:Int)<((t241.length:Int):Int):=ozD (uq)
       obtain ⟨go76,co76,eo76,gb76,gl76,cl76,HG76⟩:=Kd.R_form HO243.out (by omega)
       (first | cases eo76 |(injection eo76 with ea_ en_ ec_;(first | subst ea_ |(injection ea_ with ea_;subst ea_));subst ec_;clear en_))
       have GB76:=am gb76
       have GG76:=am HG76
       clear gb76 gl76 HG76
       obtain ⟨ce76,hcl76,hM76,hcc76,hfr76⟩:=Kd.jyb HO243.out z66 (t246:Int) p76 q76
       obtain rfl:=jRa hM76
       have hx76_0:World.cell? _ ⟨go76,(t246:Int).toNat * 5,none⟩=some (.int .i64 ((ja t241 t246).f0)):=hcc76 0 _ rfl
       have hx76_1:World.cell? _ ⟨go76,(t246:Int).toNat * 5+1,none⟩=some (.int .i64 ((ja t241 t246).f1)):=hcc76 1 _ rfl
       have hx76_2:World.cell? _ ⟨go76,(t246:Int).toNat * 5+2,none⟩=some (.int .i64 ((ja t241 t246).f2)):=hcc76 2 _ rfl
       have hx76_3:World.cell? _ ⟨go76,(t246:Int).toNat * 5+3,none⟩=some (.int .i64 ((ja t241 t246).f3)):=hcc76 3 _ rfl
       have hx76_4:World.cell? _ ⟨go76,(t246:Int).toNat * 5+4,none⟩=some (.bool ((ja t241 t246).f4)):=hcc76 4 _ rfl
       have hf76_0:World.frozen? _ ⟨go76,(t246:Int).toNat * 5,none⟩=false:=hfr76 0
       have hf76_1:World.frozen? _ ⟨go76,(t246:Int).toNat * 5+1,none⟩=false:=hfr76 1
       have hf76_2:World.frozen? _ ⟨go76,(t246:Int).toNat * 5+2,none⟩=false:=hfr76 2
       have hf76_3:World.frozen? _ ⟨go76,(t246:Int).toNat * 5+3,none⟩=false:=hfr76 3
       have hf76_4:World.frozen? _ ⟨go76,(t246:Int).toNat * 5+4,none⟩=false:=hfr76 4
       clear hcl76 hcc76 hfr76 hM76
       replace p76:=ezT p76
       replace q76:=ezT q76
       have HN0_go76:=am (show g≠go76 from by have h_:=jk.own_ne HI0.out HO243.out (by decide);intro e_;exact h_ (by rw [e_];rfl))
       obtain ⟨ce101,hcl101,hM101,hcc101,hfr101⟩:=Kd.jyb HO243.out z66 (t246:Int) (ozD (uq)) (by have h_:(t246:Int)<((t241.length:Int):Int):=ozD (uq);first | exact h_ |(have e_:=(Kd.jC HO243.out).1;omega) | simpa using h_)
       obtain rfl:=jRa hM101
       have HP101:=(Kd.R_seg HO243.out (t246:Int) (ozD (uq)) (by have h_:(t246:Int)<((t241.length:Int):Int):=ozD (uq);first | exact h_ |(have e_:=(Kd.jC HO243.out).1;omega) | simpa using h_) (seg:=[.int .i64 t262]) (j:=1) hcl101 hcc101 (show 2≤5 from by decide) (x':=(⟨(ja t241 t246).f0,t262,(ja t241 t246).f2,(ja t241 t246).f3,(ja t241 t246).f4⟩:S66)) (jac _ _ _ (⟨(ja t241 t246).f0,t262,(ja t241 t246).f2,(ja t241 t246).f3,(ja t241 t246).f4⟩:S66) ) (fun _ hk=>hk)).1
       rw [← Ny264.out] at HP101
       have HQ101:=am HP101
       clear hcl101 hcc101 hfr101 hM101 HP101
       refine hK.out _ _ ((jH BK245.out 0).trans rfl) (fun hHeld=>?_)
       clear hK K
       refine jZb (a':=?_) ?_ ?_
       rotate_left
       ·show Act.put _ (some 51) _=_
        simp only [Act.put,List.setIfInBounds_toArray,List.set_cons_zero,List.set_cons_succ,jwb,jBb]
        rfl
       refine pq (i:=6) (N:=some 52) #[true,true,true,true,true,true,true,false,false] ?_
       refine pq (i:=7) (N:=some 53) #[true,true,true,true,true,true,true,true,false] ?_
       refine last_ (i:=8) (N:=none) #[true,true,true,true,true,true,true,true,true] rfl rfl (jeb HT_.out (by kernel_rfl)) (by decide) (fun K hK=>?_)
       refine jcc (w1:=?_) (by rfl) rfl ?_ ?_
       rotate_left
       ·go_simp
        rfl
       refine hK.out _ _ ?_
       clear hK K
       refine jqc (jbc HT_.out (by kernel_rfl)) ?_
       have n0_:jB (Kd.R k99 99 (w100.setCell ⟨go76,(t246:Int).toNat * 5+1,none⟩ (.int .i64 t262)) w.heap.size (fun _=>True) (.slice Ao81 t236.length co81) t236):=⟨by (with_reducible repeat (first | apply Kd.jX | apply Kd.jba | apply Kd.jV));exact Kd.jI (Kd.jwa (p:=⟨go76,(t246:Int).toNat * 5+1,none⟩) (Kd.jP HO238.out GG76.out (by decide)) (fun _ hk=>hk.2) (.int .i64 t262)) (fun _ hk=>trivial)⟩
       have n1_:jB (Kd.R k66 66 (w100.setCell ⟨go76,(t246:Int).toNat * 5+1,none⟩ (.int .i64 t262)) w.heap.size (fun _=>True) (.slice (some ⟨go76,0,none⟩) t241.length co88) y264):=⟨rq HQ101.out⟩
       have n2_:jB (Kd.R (Kd.int .i64) 3 (w100.setCell ⟨go76,(t246:Int).toNat * 5+1,none⟩ (.int .i64 t262)) w.heap.size (fun _=>True) (.slice Ao99 y259.length co99) y259):=⟨by (with_reducible repeat (first | apply Kd.jX | apply Kd.jba | apply Kd.jV));exact Kd.jI (Kd.jwa (p:=⟨go76,(t246:Int).toNat * 5+1,none⟩) (Kd.jP HO261.out GG76.out (by decide)) (fun _ hk=>hk.2) (.int .i64 t262)) (fun _ hk=>trivial)⟩
       have n3_:jB ((w100.setCell ⟨go76,(t246:Int).toNat * 5+1,none⟩ (.int .i64 t262)).heap[gb234]?=some (.cells #[.slice none 0 0] 25 (0,0))):=⟨by (with_reducible repeat (first | refine jg ?_ _ | refine jf ?_ | refine jh ?_ _));refine jT ?_ (by have h_:=Kd.R_ne HO243.out BK234.out (by decide);intro e_;exact h_ (by rw [e_];rfl)) _;(with_reducible repeat (first | refine jg ?_ _ | refine jf ?_ | refine jh ?_ _));exact BK234.out⟩
       have n4_:jB ((w100.setCell ⟨go76,(t246:Int).toNat * 5+1,none⟩ (.int .i64 t262)).heap[gb235]?=some (.cells #[.slice none 0 0] 28 (0,0))):=⟨by (with_reducible repeat (first | refine jg ?_ _ | refine jf ?_ | refine jh ?_ _));refine jT ?_ (by have h_:=Kd.R_ne HO243.out BK235.out (by decide);intro e_;exact h_ (by rw [e_];rfl)) _;(with_reducible repeat (first | refine jg ?_ _ | refine jf ?_ | refine jh ?_ _));exact BK235.out⟩
       have n5_:jB ((w100.setCell ⟨go76,(t246:Int).toNat * 5+1,none⟩ (.int .i64 t262)).heap[gb240]?=some (.cells #[.slice Ao81 t236.length co81] 25 (0,0))):=⟨by (with_reducible repeat (first | refine jg ?_ _ | refine jf ?_ | refine jh ?_ _));refine jT ?_ (by have h_:=Kd.R_ne HO243.out BK240.out (by decide);intro e_;exact h_ (by rw [e_];rfl)) _;(with_reducible repeat (first | refine jg ?_ _ | refine jf ?_ | refine jh ?_ _));exact BK240.out⟩
       have n6_:jB ((w100.setCell ⟨go76,(t246:Int).toNat * 5+1,none⟩ (.int .i64 t262)).heap[gb245]?=some (.cells #[.slice (some ⟨go76,0,none⟩) t241.length co88] 28 (0,0))):=⟨by (with_reducible repeat (first | refine jg ?_ _ | refine jf ?_ | refine jh ?_ _));refine jT ?_ (by have h_:=Kd.R_ne HO243.out BK245.out (by decide);intro e_;exact h_ (by rw [e_];rfl)) _;(with_reducible repeat (first | refine jg ?_ _ | refine jf ?_ | refine jh ?_ _));exact BK245.out⟩
       have n7_:jB (jk w0 (w100.setCell ⟨go76,(t246:Int).toNat * 5+1,none⟩ (.int .i64 t262)) g s0_0 t263):=⟨by repeat (first |(with_reducible first | exact HI0.out | apply jk.alloc | apply jk.drewN | apply jk.drew | apply jk.jmb | refine jk.far ?_ HN0_go76.out _ | refine jk.far ?_ NB0_234.out _ | refine jk.far ?_ NB0_235.out _ | refine jk.far ?_ NB0_240.out _ | refine jk.far ?_ NB0_245.out _) | exact HI0.out)⟩
       have n8_:jB (jd w (w100.setCell ⟨go76,(t246:Int).toNat * 5+1,none⟩ (.int .i64 t262)) g none):=⟨by repeat (first |(with_reducible first | exact HK.out | apply jd.set_ | apply jja | apply jaa | apply jka | refine jO ?_ GB76.out _ | refine jO ?_ GW234.out _ | refine jO ?_ GW235.out _ | refine jO ?_ GW240.out _ | refine jO ?_ GW245.out _) | exact HK.out)⟩
       have n9_:jB (Below w0.heap.size w0 (w100.setCell ⟨go76,(t246:Int).toNat * 5+1,none⟩ (.int .i64 t262))):=⟨by repeat (first |(with_reducible first | exact HB.out | apply jv | apply jo | apply jq | refine jl ?_ (Nat.le_trans HL.out GB76.out) | refine jl ?_ (jk.ge HI0.out) | refine jl ?_ GE234.out | refine jl ?_ GE235.out | refine jl ?_ GE240.out | refine jl ?_ GE245.out) | exact HB.out)⟩
       (try clear HO238)
       (try clear HO243)
       (try clear HO261)
       (try clear BK234)
       (try clear BK235)
       (try clear BK240)
       (try clear BK245)
       (try clear HI0)
       (try clear HK)
       (try clear HB)
       generalize (w100.setCell ⟨go76,(t246:Int).toNat * 5+1,none⟩ (.int .i64 t262))=w102 at n0_ n1_ n2_ n3_ n4_ n5_ n6_ n7_ n8_ n9_ ⊢
       have HO238:=n0_
       have HO243:=n1_
       have HO261:=n2_
       have BK234:=n3_
       have BK235:=n4_
       have BK240:=n5_
       have BK245:=n6_
       have HI0:=n7_
       have HK:=n8_
       have HB:=n9_
       clear n0_ n1_ n2_ n3_ n4_ n5_ n6_ n7_ n8_ n9_
       try go_wp2
       replace HO238:=am (Kd.jV HO238.out)
       replace HO243:=am (Kd.jV HO243.out)
       replace HO261:=am (Kd.jV HO261.out)
       replace BK234:=am (jf BK234.out)
       replace BK235:=am (jf BK235.out)
       replace BK240:=am (jf BK240.out)
       replace BK245:=am (jf BK245.out)
       replace HI0:=am (jk.drew HI0.out)
       replace HK:=am (jaa HK.out)
       replace HB:=am (jq HB.out)
       refine jVb (n:=4) (S:=fun w'=>w'.cell? ⟨gb240,0,none⟩=some (.slice Ao81 t236.length co81)∧w'.cell? ⟨gb245,0,none⟩=some (.slice (some ⟨go76,0,none⟩) t241.length co88)) (ds:=[]) #[false,false,false,false] (by kernel_rfl) rfl rfl ⟨(jH BK240.out 0).trans rfl,(jH BK245.out 0).trans rfl⟩ (fun hHeld=>?_)
       generalize w102.drew=w103 at HO238 HO243 HO261 BK234 BK235 BK240 BK245 HI0 HK HB hHeld ⊢
       refine jAb (i:=0) (N:=some 65) (v:=?_) (a':=?_) #[true,false,false,false] rfl rfl (by kernel_rfl) (fun _ _ _ h=>h) (Or.inl ⟨by rfl,?_⟩) hHeld ?_ ?_
       rotate_left
       ·rintro w' ⟨s0,s1⟩
        go_simp
        with_reducible rfl
       rotate_left
       ·exact sa
       refine jAb (i:=1) (N:=some 66) (v:=?_) (a':=?_) #[true,true,false,false] rfl rfl (by kernel_rfl) (fun _ _ _ h=>h) (Or.inl ⟨by rfl,?_⟩) hHeld ?_ ?_
       rotate_left
       ·rintro w' ⟨s0,s1⟩
        go_simp
        with_reducible rfl
       rotate_left
       ·exact sa
       refine one_ (i:=2) (N:=none) #[true,true,true,false] rfl rfl (by kernel_rfl) (by decide) (fun K hK=>?_)
       have hs104:w103.cell? ⟨gb234,0,none⟩=some (.slice none 0 0):=(jH BK234.out 0).trans rfl
       have hfs104:=jb BK234.out 0
       have hns104_1:=NB235_234.out
       have hns104_2:=NB240_234.out
       have hns104_3:=NB245_234.out
       have hms104_1:=NB234_235.out
       have hms104_2:=NB234_240.out
       have hms104_3:=NB234_245.out
       refine jcc (w1:=?_) (by rfl) rfl ?_ ?_
       rotate_left
       ·go_simp
        rfl
       refine hK.out _ _ ⟨((cell_far (p:=⟨gb234,_,none⟩) NB240_234.out _).trans (hHeld.1)),((cell_far (p:=⟨gb234,_,none⟩) NB245_234.out _).trans (hHeld.2))⟩ (fun hHeld=>?_)
       clear hK K
       refine one_ (i:=3) (N:=none) #[true,true,true,true] rfl rfl (by kernel_rfl) (by decide) (fun K hK=>?_)
       have hs105:w103.cell? ⟨gb235,0,none⟩=some (.slice none 0 0):=(jH BK235.out 0).trans rfl
       have hfs105:=jb BK235.out 0
       have hns105_0:=NB234_235.out
       have hns105_2:=NB240_235.out
       have hns105_3:=NB245_235.out
       have hms105_0:=NB235_234.out
       have hms105_2:=NB235_240.out
       have hms105_3:=NB235_245.out
       refine jcc (w1:=?_) (by rfl) rfl ?_ ?_
       rotate_left
       ·go_simp
        rfl
       refine hK.out _ _ ⟨((cell_far (p:=⟨gb235,_,none⟩) NB240_235.out _).trans (hHeld.1)),((cell_far (p:=⟨gb235,_,none⟩) NB245_235.out _).trans (hHeld.2))⟩ (fun hHeld=>?_)
       clear hK K
       refine jqc (by kernel_rfl) ?_
       try go_wp2
       refine bodyPost_ret (jdc rfl _ _ gb234 gb235 25 28 #[.slice Ao81 t236.length co81] #[.slice (some ⟨go76,0,none⟩) t241.length co88] (0,0) (0,0) _ _ rfl (Y76) Tryd.underlying25 rfl (by kernel_rfl) rfl (Y77) Tryd.underlying28 rfl (by kernel_rfl)) rfl ?_
       exact ⟨_,_,Y1,by (with_reducible repeat (first | apply Kd.jX | apply Kd.jba | apply Kd.jV));exact Kd.jI (Kd.jwa (p:=⟨gb235,0,none⟩) (Kd.jwa (p:=⟨gb234,0,none⟩) (Kd.jP (Kd.jP HO238.out BK234.out (by decide)) BK235.out (by decide)) (fun _ hk=>hk.1.2) (.slice Ao81 t236.length co81)) (fun _ hk=>hk.2) (.slice (some ⟨go76,0,none⟩) t241.length co88)) (fun _ hk=>trivial),by (with_reducible repeat (first | apply Kd.jX | apply Kd.jba | apply Kd.jV));exact Kd.jI (Kd.jwa (p:=⟨gb235,0,none⟩) (Kd.jwa (p:=⟨gb234,0,none⟩) (Kd.jP (Kd.jP HO243.out BK234.out (by decide)) BK235.out (by decide)) (fun _ hk=>hk.1.2) (.slice Ao81 t236.length co81)) (fun _ hk=>hk.2) (.slice (some ⟨go76,0,none⟩) t241.length co88)) (fun _ hk=>trivial),Y2,Y17,Y10⟩
      ·rw [if_neg c75] at H
       exact absurd H (by simp)
     ·rw [if_neg c74] at H
      exact absurd H (by simp)
    ·rw [if_neg c72] at H
     have c72b0:(t248 == 2)=false:=beq_eq_false_iff_ne.mpr c72
     have c72b1:(t248 != 2)=true:=bne_iff_ne.mpr c72
     by_cases c106:t248=3
     ·rw [if_pos c106] at H
      have c106b0:(t248 == 3)=true:=beq_iff_eq.mpr c106
      have c106b1:(t248 != 3)=false:=bne_eq_false_iff_eq.mpr c106
      clear c106
      obtain ⟨y265,hy265⟩:∃ y_:List Int,y_=(([t246,24,0]:List Int)):=⟨_,rfl⟩
      replace H:((jy.f k s0_0 t249 y265).bind fun bt268=>(if 0≤t246 then (if t246<(t241.length:Int) then (some (t236,(t241.set (t246:Int).toNat (⟨(ja t241 t246).f0,(ja t241 t246).f1,bt268.1,(ja t241 t246).f3,(ja t241 t246).f4⟩:S66)),bt268.2)) else (none)) else (none)))=some (r1,r2,r3):=by first |(rw [hy265];with_reducible exact H) |(have H2_:=(Option.bind_some _ _).symm.trans H;rw [hy265];with_reducible exact H2_) |(have H2_:=(Option.bind_some _ _).symm.trans H;with_reducible exact H2_) | with_reducible exact H |(rw [hy265];exact H) | exact H
      have Ny265:=am hy265
      clear hy265
      replace H:=bzS H
      obtain ⟨⟨t268,t269⟩,A1070,H⟩:=H
      replace H:(if 0≤t246 then (if t246<(t241.length:Int) then (some (t236,(t241.set (t246:Int).toNat (⟨(ja t241 t246).f0,(ja t241 t246).f1,t268,(ja t241 t246).f3,(ja t241 t246).f4⟩:S66)),t269)) else (none)) else (none))=some (r1,r2,r3):=H
      have A107:=am A1070
      clear A1070
      by_cases c108:0≤t246
      ·rw [if_pos c108] at H
       have c108b0:decide (0≤t246)=true:=dzT c108
       clear c108
       by_cases c109:t246<(t241.length:Int)
       ·rw [if_pos c109] at H
        have c109b0:decide (t246<(t241.length:Int))=true:=dzT c109
        clear c109
        obtain ⟨y270,hy270⟩:∃ y_:List (S66),y_=(t241.set (t246:Int).toNat (⟨(ja t241 t246).f0,(ja t241 t246).f1,t268,(ja t241 t246).f3,(ja t241 t246).f4⟩:S66)):=⟨_,rfl⟩
        replace H:(some (t236,y270,t269))=some (r1,r2,r3):=by first |(rw [hy270];with_reducible exact H) |(have H2_:=(Option.bind_some _ _).symm.trans H;rw [hy270];with_reducible exact H2_) |(have H2_:=(Option.bind_some _ _).symm.trans H;with_reducible exact H2_) | with_reducible exact H |(rw [hy270];exact H) | exact H
        have Ny270:=am hy270
        clear hy270
        simp only [Option.some.injEq,Prod.mk.injEq] at H
        obtain ⟨rfl,rfl,rfl⟩:=H
        go_enter Tryd.func43,Tryd.ntmps43
        try go_wp2_with (first |((with_reducible refine jD (N:=2) rfl ?_);refine bE (N:=2) (cs:=#[.slice none 0 0]) (t:=25) ?_;intro gb234 hg w111 hbox hb;have BK234:=am (hbox);have GW234:=am ((Y6:w.heap.size≤gb234));have GE234:=am ((Nat.le_trans HW0.out (Y6:w.heap.size≤gb234):w0.heap.size≤gb234));have NB0_234:=am ((Y24:g≠gb234));have NB234_0:=am ((Y25:gb234≠g));replace HK:=am (jd.trans (Y13) (jd.of_below hb g none) (.inl rfl));replace HB:=am (je (Y14) hb);replace HI0:=am (jk.below (Y12) hb);clear hb hbox hg) |((with_reducible refine jD (N:=3) rfl ?_);refine bE (N:=3) (cs:=#[.slice none 0 0]) (t:=28) ?_;intro gb235 hg w112 hbox hb;have BK235:=am (hbox);have GW235:=am ((Y31:w.heap.size≤gb235));have GE235:=am ((Nat.le_trans HW0.out (Y31:w.heap.size≤gb235):w0.heap.size≤gb235));have NB234_235:=am ((Y20:gb234≠gb235));have NB235_234:=am ((Y21:gb235≠gb234));have NB0_235:=am ((Y64:g≠gb235));have NB235_0:=am ((Y65:gb235≠g));replace BK234:=am (jc (g:=gb234) (o:=.cells #[.slice none 0 0] 25 (0,0)) (kq BK234.out) hb);replace HK:=am (jd.trans (Y66) (jd.of_below hb g none) (.inl rfl));replace HB:=am (je (Y67) hb);replace HI0:=am (jk.below (Y68) hb);clear hb hbox hg) |((with_reducible refine jw (f:=67) rfl ?_);refine gL (some 8) Tryd.func67 #[.pointer (some ⟨g,0,none⟩)] ?_;(with_reducible refine (jca.calls k g s0_0 s0_1 t236 t239 w0 _ ?side1 ?side2 A2.out).mono ?_);(case side1=>exact Y32);(case side2=>exact Y33);rintro e w113 ⟨v237,rfl,ho0,hi,hb,hk⟩;refine ⟨_,rfl,?_⟩;have HO238:=am (Kd.jia ho0 (jea (w:=w) (g:=g) (row:=none) (Y22)));replace BK234:=am (jd.blk hk (g':=gb234) (o:=.cells #[.slice none 0 0] 25 (0,0)) (kq BK234.out) NB234_0.out (by simp));replace BK235:=am (jd.blk hk (g':=gb235) (o:=.cells #[.slice none 0 0] 28 (0,0)) (kq BK235.out) NB235_0.out (by simp));replace HK:=am (jd.trans (Y22) hk (.inl rfl));replace HB:=am (hb);replace HI0:=am (hi);(try clear hb);(try clear hb2);(try clear hk);(try clear hi);(try clear ho0)) |((with_reducible refine jD (N:=4) rfl ?_);refine bE (N:=4) (cs:=#[.slice none 0 0]) (t:=25) ?_;intro gb240 hg w114 hbox hb;have BK240:=am (hbox);have GW240:=am ((Y34:w.heap.size≤gb240));have GE240:=am ((Nat.le_trans HW0.out (Y34:w.heap.size≤gb240):w0.heap.size≤gb240));have NB234_240:=am ((Y20:gb234≠gb240));have NB240_234:=am ((Y21:gb240≠gb234));have NB235_240:=am ((Y35:gb235≠gb240));have NB240_235:=am ((Y36:gb240≠gb235));have NB0_240:=am ((Y69:g≠gb240));have NB240_0:=am ((Y70:gb240≠g));replace HO238:=am (Kd.jW (rq HO238.out) hb);replace BK234:=am (jc (g:=gb234) (o:=.cells #[.slice none 0 0] 25 (0,0)) (kq BK234.out) hb);replace BK235:=am (jc (g:=gb235) (o:=.cells #[.slice none 0 0] 28 (0,0)) (kq BK235.out) hb);replace HK:=am (jd.trans (Y22) (jd.of_below hb g none) (.inl rfl));replace HB:=am (je (Y33) hb);replace HI0:=am (jk.below (Y32) hb);clear hb hbox hg;obtain ⟨Ao115,co115,eo115⟩:=Kd.jZ HO238.out;subst eo115;have hnb116:=NB240_234.out;have hnc116:=NB234_240.out;have hnb117:=NB240_235.out;have hnc117:=NB235_240.out;have hnb118:=NB240_0.out;have hnc118:=NB0_240.out;have hcz119_0:=bc0 BK240.out;have hfz119_0:=jb BK240.out 0) |((with_reducible refine jw (f:=44) rfl ?_);refine gL (some 11) Tryd.func44 #[.pointer (some ⟨g,0,none⟩), .agg #[.slice Ao115 t236.length co115]] ?_;(with_reducible refine (jr.calls k g s0_0 t239 _ _ t236 t241 t244 w0 _ ?side1 ?side2 ?side3 ?side4 A3.out).mono ?_);(case side1=>exact Y16);(case side2=>exact Y37);(case side3=>exact Kd.jUb (jk.apart (show jk w0 _ g s0_0 t239 from Y16) (Y165) (by decide)) (fun _ h_=>h_.2));(case side4=>exact (Kd.jC HO238.out).2.1);rintro e w120 ⟨v242,rfl,ho0,hi,hb,hk⟩;refine ⟨_,rfl,?_⟩;have HO243:=am (Kd.jia ho0 (jea (w:=w) (g:=g) (row:=none) (Y23)));replace BK234:=am (jd.blk hk (g':=gb234) (o:=.cells #[.slice none 0 0] 25 (0,0)) (Y71) NB234_0.out (by simp));replace BK235:=am (jd.blk hk (g':=gb235) (o:=.cells #[.slice none 0 0] 28 (0,0)) (Y72) NB235_0.out (by simp));replace HO238:=am (Kd.jI (Kd.jqa (jk.apart (show jk w0 _ g s0_0 t239 from Y16) (Y165) (by decide)) hk (fun _ h=>h.2)) (fun _ h=>h.1));replace BK240:=am (jd.blk hk (g':=gb240) (o:=.cells #[.slice Ao115 t236.length co115] 25 (0,0)) (Y73) NB240_0.out (by simp));replace HK:=am (jd.trans (Y23) hk (.inl rfl));replace HB:=am (hb);replace HI0:=am (hi);(try clear hb);(try clear hb2);(try clear hk);(try clear hi);(try clear ho0)) |((with_reducible refine jD (N:=5) rfl ?_);refine bE (N:=5) (cs:=#[.slice none 0 0]) (t:=28) ?_;intro gb245 hg w121 hbox hb;have BK245:=am (hbox);have GW245:=am ((Y38:w.heap.size≤gb245));have GE245:=am ((Nat.le_trans HW0.out (Y38:w.heap.size≤gb245):w0.heap.size≤gb245));have NB234_245:=am ((Y20:gb234≠gb245));have NB245_234:=am ((Y21:gb245≠gb234));have NB235_245:=am ((Y35:gb235≠gb245));have NB245_235:=am ((Y36:gb245≠gb235));have NB240_245:=am ((by rw [hg];exact Nat.ne_of_lt (jda (g:=gb240) (o:=.cells #[.slice Ao115 t236.length co115] 25 (0,0)) (kq BK240.out)):gb240≠gb245));have NB245_240:=am ((by rw [hg];exact Nat.ne_of_gt (jda (g:=gb240) (o:=.cells #[.slice Ao115 t236.length co115] 25 (0,0)) (kq BK240.out)):gb245≠gb240));have NB0_245:=am ((Y74:g≠gb245));have NB245_0:=am ((Y75:gb245≠g));replace HO238:=am (Kd.jW (rq HO238.out) hb);replace HO243:=am (Kd.jW (rq HO243.out) hb);replace BK234:=am (jc (g:=gb234) (o:=.cells #[.slice none 0 0] 25 (0,0)) (kq BK234.out) hb);replace BK235:=am (jc (g:=gb235) (o:=.cells #[.slice none 0 0] 28 (0,0)) (kq BK235.out) hb);replace BK240:=am (jc (g:=gb240) (o:=.cells #[.slice Ao115 t236.length co115] 25 (0,0)) (kq BK240.out) hb);replace HK:=am (jd.trans (Y23) (jd.of_below hb g none) (.inl rfl));replace HB:=am (je (Y37) hb);replace HI0:=am (jk.below (Y16) hb);clear hb hbox hg;obtain ⟨Ao122,co122,eo122⟩:=Kd.jZ HO243.out;subst eo122;have hnb123:=NB245_234.out;have hnc123:=NB234_245.out;have hnb124:=NB245_235.out;have hnc124:=NB235_245.out;have hnb125:=NB245_240.out;have hnc125:=NB240_245.out;have hnb126:=NB245_0.out;have hnc126:=NB0_245.out;have hcz127_0:=bc0 BK245.out;have hfz127_0:=jb BK245.out 0) |((with_reducible refine jw (f:=68) rfl ?_);refine gL (some 20) Tryd.func68 #[.pointer (some ⟨g,0,none⟩), .int .i64 (t241.length:Int)] ?_;(with_reducible refine (jm.calls k g s0_0 t244 (t241.length:Int) t246 t247 w0 _ ?side1 ?side2 A5.out).mono ?_);(case side1=>exact Y2);(case side2=>exact Y17);rintro e w128 ⟨rfl,hi,hb,hk⟩;refine ⟨_,rfl,?_⟩;replace BK234:=am (jd.blk hk (g':=gb234) (o:=.cells #[.slice none 0 0] 25 (0,0)) (Y89) NB234_0.out (by simp));replace BK235:=am (jd.blk hk (g':=gb235) (o:=.cells #[.slice none 0 0] 28 (0,0)) (Y90) NB235_0.out (by simp));replace HO238:=am (Kd.jI (Kd.jqa (jk.apart (show jk w0 _ g s0_0 t244 from Y2) (by (with_reducible repeat (first | apply Kd.jX | apply Kd.jba | apply Kd.jV));exact (Kd.jI (Kd.jwa (p:=⟨gb245,0,none⟩) (Kd.jP HO238.out BK245.out (by decide)) (fun _ hk=>hk.2) (.slice Ao122 t241.length co122)) (fun _ h_=>h_.1))) (by decide)) hk (fun _ h=>h.2)) (fun _ h=>h.1));replace BK240:=am (jd.blk hk (g':=gb240) (o:=.cells #[.slice Ao115 t236.length co115] 25 (0,0)) (Y91) NB240_0.out (by simp));replace HO243:=am (Kd.jI (Kd.jqa (jk.apart (show jk w0 _ g s0_0 t244 from Y2) (by (with_reducible repeat (first | apply Kd.jX | apply Kd.jba | apply Kd.jV));exact (Kd.jI (Kd.jwa (p:=⟨gb245,0,none⟩) (Kd.jP HO243.out BK245.out (by decide)) (fun _ hk=>hk.2) (.slice Ao122 t241.length co122)) (fun _ h_=>h_.1))) (by decide)) hk (fun _ h=>h.2)) (fun _ h=>h.1));replace BK245:=am (jd.blk hk (g':=gb245) (o:=.cells #[.slice Ao122 t241.length co122] 28 (0,0)) (Y92) NB245_0.out (by simp));replace HK:=am (jd.trans (Y10) hk (.inl rfl));replace HB:=am (hb);replace HI0:=am (hi);(try clear hb);(try clear hb2);(try clear hk);(try clear hi)) |((with_reducible refine jw (f:=68) rfl ?_);refine gL (some 22) Tryd.func68 #[.pointer (some ⟨g,0,none⟩), .int .i64 24] ?_;(with_reducible refine (jm.calls k g s0_0 t247 24 t248 t249 w0 _ ?side1 ?side2 A6.out).mono ?_);(case side1=>exact Y2);(case side2=>exact Y17);rintro e w129 ⟨rfl,hi,hb,hk⟩;refine ⟨_,rfl,?_⟩;replace BK234:=am (jd.blk hk (g':=gb234) (o:=.cells #[.slice none 0 0] 25 (0,0)) (kq BK234.out) NB234_0.out (by simp));replace BK235:=am (jd.blk hk (g':=gb235) (o:=.cells #[.slice none 0 0] 28 (0,0)) (kq BK235.out) NB235_0.out (by simp));replace HO238:=am (Kd.jI (Kd.jqa (jk.apart (show jk w0 _ g s0_0 t247 from Y2) (rq HO238.out) (by decide)) hk (fun _ h=>h.2)) (fun _ h=>h.1));replace BK240:=am (jd.blk hk (g':=gb240) (o:=.cells #[.slice Ao115 t236.length co115] 25 (0,0)) (kq BK240.out) NB240_0.out (by simp));replace HO243:=am (Kd.jI (Kd.jqa (jk.apart (show jk w0 _ g s0_0 t247 from Y2) (rq HO243.out) (by decide)) hk (fun _ h=>h.2)) (fun _ h=>h.1));replace BK245:=am (jd.blk hk (g':=gb245) (o:=.cells #[.slice Ao122 t241.length co122] 28 (0,0)) (kq BK245.out) NB245_0.out (by simp));replace HK:=am (jd.trans (Y10) hk (.inl rfl));replace HB:=am (hb);replace HI0:=am (hi);(try clear hb);(try clear hb2);(try clear hk);(try clear hi)))
        replace HO238:=am (Kd.jV HO238.out)
        replace HO243:=am (Kd.jV HO243.out)
        replace BK234:=am (jf BK234.out)
        replace BK235:=am (jf BK235.out)
        replace BK240:=am (jf BK240.out)
        replace BK245:=am (jf BK245.out)
        replace HI0:=am (jk.drew HI0.out)
        replace HK:=am (jaa HK.out)
        replace HB:=am (jq HB.out)
        refine jVb (n:=10) (S:=fun w'=>w'.cell? ⟨gb245,0,none⟩=some (.slice Ao122 t241.length co122)) (ds:=[9]) #[false,false,false,false,false,false,false,false,false,false] (by kernel_rfl) rfl rfl ((jH BK245.out 0).trans rfl) (fun hHeld=>?_);refine jxb jN.tab13 jN.bits13 (fun HT_ HW_=>?_)
        generalize w129.drew=w130 at HO238 HO243 BK234 BK235 BK240 BK245 HI0 HK HB hHeld ⊢
        refine pq (i:=0) (N:=some 56) #[true,false,false,false,false,false,false,false,false,false] ?_
        refine pq (i:=2) (N:=some 58) #[true,false,true,false,false,false,false,false,false,false] ?_
        refine pq (i:=3) (N:=some 59) #[true,false,true,true,false,false,false,false,false,false] ?_
        refine pq (i:=4) (N:=some 60) #[true,false,true,true,true,false,false,false,false,false] ?_
        refine jAb (i:=1) (N:=some 57) (v:=?_) (a':=?_) #[true,true,true,true,true,false,false,false,false,false] rfl rfl (jWa HT_.out HW_.out (by kernel_rfl)) (fun _ _ _ h=>h) (Or.inl ⟨by rfl,?_⟩) hHeld ?_ ?_
        rotate_left
        ·intro w' s0
         go_simp
         with_reducible rfl
        rotate_left
        ·exact sa
        refine one_ (i:=5) (N:=some 61) #[true,true,true,true,true,true,false,false,false,false] rfl rfl (jeb HT_.out (by kernel_rfl)) (by decide) (fun K hK=>?_)
        refine Kd.jTb (Kd.int .i64) _ 3 ?hg (N:=61) ?hd (xs:=([t246,24,0]:List Int)) (inner:=[.int .i64 t246, .int .i64 24, .int .i64 0]) (ok:=fun _=>True) (okp:=fun _=>True) ?hr ?hp (fun _ hk=>hk) trivial (Below.refl _ _) (Nat.le_refl _) (by simp) ?_;(case hd=>rfl);(case hg=>rfl);(case hr=>exact Y4);(case hp=>exact (Reps.one (show Kd.M (Kd.int .i64) _ _ _ t246 [.int .i64 t246] from rfl) (Reps.one (show Kd.M (Kd.int .i64) _ _ _ 24 [.int .i64 24] from rfl) (Reps.one (show Kd.M (Kd.int .i64) _ _ _ 0 [.int .i64 0] from rfl) (Reps.none _ _)))))
        intro v266 w131 ho132 hb hg_ hnew_
        clear hg_ hnew_
        (first | rw [← Ny265.out] at ho132 |(simp only [Int.reduceToNat] at ho132;rw [← Ny265.out] at ho132))
        have HO267:=am (Kd.jia ho132 (jea (w:=w) (g:=g) (row:=none) (Y10)))
        replace HO238:=am (Kd.jW (rq HO238.out) hb)
        replace HO243:=am (Kd.jW (rq HO243.out) hb)
        replace BK234:=am (jc (g:=gb234) (o:=.cells #[.slice none 0 0] 25 (0,0)) (kq BK234.out) hb)
        replace BK235:=am (jc (g:=gb235) (o:=.cells #[.slice none 0 0] 28 (0,0)) (kq BK235.out) hb)
        replace BK240:=am (jc (g:=gb240) (o:=.cells #[.slice Ao115 t236.length co115] 25 (0,0)) (kq BK240.out) hb)
        replace BK245:=am (jc (g:=gb245) (o:=.cells #[.slice Ao122 t241.length co122] 28 (0,0)) (kq BK245.out) hb)
        replace HK:=am (jd.trans (Y10) (jd.of_below hb g none) (.inl rfl))
        replace HB:=am (je (Y17) hb)
        replace HI0:=am (jk.below (Y2) hb)
        clear hb ho132
        obtain ⟨Ao133,co133,eo133⟩:=Kd.jZ HO267.out
        (first | subst eo133 |(injection eo133 with f1_ f2_ f3_;have f4_:=f1_.symm;have f5_:=f3_.symm;clear f1_ f2_ f3_;subst f4_;subst f5_))
        refine hK.out _ _ ((jH BK245.out 0).trans rfl) (fun hHeld=>?_)
        clear hK K
        refine jZb (a':=?_) ?_ ?_
        rotate_left
        ·show Act.put _ (some 61) _=_
         simp only [Act.put,List.setIfInBounds_toArray,List.set_cons_zero,List.set_cons_succ,jwb,jBb]
         rfl
        refine one_ (i:=6) (N:=some 62) #[true,true,true,true,true,true,true,false,false,false] rfl rfl (jeb HT_.out (by kernel_rfl)) (by decide) (fun K hK=>?_)
        refine goes_ Tryd.func69 (by kernel_rfl) rfl #[.pointer (some ⟨g,0,none⟩), .slice Ao133 y265.length co133] (by rfl) rfl rfl (aq) ?_
        with_reducible refine (jy.calls k g s0_0 t249 _ _ y265 t268 t269 w0 _ ?side1 ?side2 ?side3 ?side4 ?side5 A107.out).mono ?_
        (case side1=>exact Y2)
        (case side2=>exact Y17)
        (case side3=>exact cq (Kd.jC HO267.out).2.2)
        (case side4=>exact (Kd.jC HO267.out).2.1)
        (case side5=>exact jCb (jk.own_ne HI0.out HO267.out (by decide)))
        rintro e w134 ⟨rfl,hi,hb,hk⟩
        refine ⟨_,rfl,?_⟩
        replace BK234:=am (jd.blk hk (g':=gb234) (o:=.cells #[.slice none 0 0] 25 (0,0)) (kq BK234.out) NB234_0.out (by simp))
        replace BK235:=am (jd.blk hk (g':=gb235) (o:=.cells #[.slice none 0 0] 28 (0,0)) (kq BK235.out) NB235_0.out (by simp))
        replace HO238:=am (Kd.jI (Kd.jqa (jk.apart (show jk w0 _ g s0_0 t249 from Y2) (rq HO238.out) (by decide)) hk (fun _ h=>h.2)) (fun _ h=>h.1))
        replace BK240:=am (jd.blk hk (g':=gb240) (o:=.cells #[.slice Ao115 t236.length co115] 25 (0,0)) (kq BK240.out) NB240_0.out (by simp))
        replace HO243:=am (Kd.jI (Kd.jqa (jk.apart (show jk w0 _ g s0_0 t249 from Y2) (rq HO243.out) (by decide)) hk (fun _ h=>h.2)) (fun _ h=>h.1))
        replace BK245:=am (jd.blk hk (g':=gb245) (o:=.cells #[.slice Ao122 t241.length co122] 28 (0,0)) (kq BK245.out) NB245_0.out (by simp))
        replace HO267:=am (Kd.jI (Kd.jqa (jk.apart (show jk w0 _ g s0_0 t249 from Y2) (rq HO267.out) (by decide)) hk (fun _ h=>h.2)) (fun _ h=>h.1))
        replace HK:=am (jd.trans (Y10) hk (.inl rfl))
        replace HB:=am (hb)
        replace HI0:=am (hi)
        (try clear hb)
        (try clear hb2)
        (try clear hk)
        (try clear hi)
        have p110:0≤(t246:Int):=ozD (uq)
        have q110:(t246:Int)<((t241.length:Int):Int):=ozD (uq)
        obtain ⟨go110,co110,eo110,gb110,gl110,cl110,HG110⟩:=Kd.R_form HO243.out (by omega)
        (first | cases eo110 |(injection eo110 with ea_ en_ ec_;(first | subst ea_ |(injection ea_ with ea_;subst ea_));subst ec_;clear en_))
        have GB110:=am gb110
        have GG110:=am HG110
        clear gb110 gl110 HG110
        obtain ⟨ce110,hcl110,hM110,hcc110,hfr110⟩:=Kd.jyb HO243.out z66 (t246:Int) p110 q110
        obtain rfl:=jRa hM110
        have hx110_0:World.cell? _ ⟨go110,(t246:Int).toNat * 5,none⟩=some (.int .i64 ((ja t241 t246).f0)):=hcc110 0 _ rfl
        have hx110_1:World.cell? _ ⟨go110,(t246:Int).toNat * 5+1,none⟩=some (.int .i64 ((ja t241 t246).f1)):=hcc110 1 _ rfl
        have hx110_2:World.cell? _ ⟨go110,(t246:Int).toNat * 5+2,none⟩=some (.int .i64 ((ja t241 t246).f2)):=hcc110 2 _ rfl
        have hx110_3:World.cell? _ ⟨go110,(t246:Int).toNat * 5+3,none⟩=some (.int .i64 ((ja t241 t246).f3)):=hcc110 3 _ rfl
        have hx110_4:World.cell? _ ⟨go110,(t246:Int).toNat * 5+4,none⟩=some (.bool ((ja t241 t246).f4)):=hcc110 4 _ rfl
        have hf110_0:World.frozen? _ ⟨go110,(t246:Int).toNat * 5,none⟩=false:=hfr110 0
        have hf110_1:World.frozen? _ ⟨go110,(t246:Int).toNat * 5+1,none⟩=false:=hfr110 1
        have hf110_2:World.frozen? _ ⟨go110,(t246:Int).toNat * 5+2,none⟩=false:=hfr110 2
        have hf110_3:World.frozen? _ ⟨go110,(t246:Int).toNat * 5+3,none⟩=false:=hfr110 3
        have hf110_4:World.frozen? _ ⟨go110,(t246:Int).toNat * 5+4,none⟩=false:=hfr110 4
        clear hcl110 hcc110 hfr110 hM110
        replace p110:=ezT p110
        replace q110:=ezT q110
        have HN0_go110:=am (show g≠go110 from by have h_:=jk.own_ne HI0.out HO243.out (by decide);intro e_;exact h_ (by rw [e_];rfl))
        obtain ⟨ce135,hcl135,hM135,hcc135,hfr135⟩:=Kd.jyb HO243.out z66 (t246:Int) (ozD (uq)) (by have h_:(t246:Int)<((t241.length:Int):Int):=ozD (uq);first | exact h_ |(have e_:=(Kd.jC HO243.out).1;omega) | simpa using h_)
        obtain rfl:=jRa hM135
        have HP135:=(Kd.R_seg HO243.out (t246:Int) (ozD (uq)) (by have h_:(t246:Int)<((t241.length:Int):Int):=ozD (uq);first | exact h_ |(have e_:=(Kd.jC HO243.out).1;omega) | simpa using h_) (seg:=[.int .i64 t268]) (j:=2) hcl135 hcc135 (show 3≤5 from by decide) (x':=(⟨(ja t241 t246).f0,(ja t241 t246).f1,t268,(ja t241 t246).f3,(ja t241 t246).f4⟩:S66)) (jac _ _ _ (⟨(ja t241 t246).f0,(ja t241 t246).f1,t268,(ja t241 t246).f3,(ja t241 t246).f4⟩:S66) ) (fun _ hk=>hk)).1
        rw [← Ny270.out] at HP135
        have HQ135:=am HP135
        clear hcl135 hcc135 hfr135 hM135 HP135
        refine hK.out _ _ ((jH BK245.out 0).trans rfl) (fun hHeld=>?_)
        clear hK K
        refine jZb (a':=?_) ?_ ?_
        rotate_left
        ·show Act.put _ (some 62) _=_
         simp only [Act.put,List.setIfInBounds_toArray,List.set_cons_zero,List.set_cons_succ,jwb,jBb]
         rfl
        refine pq (i:=7) (N:=some 63) #[true,true,true,true,true,true,true,true,false,false] ?_
        refine pq (i:=8) (N:=some 64) #[true,true,true,true,true,true,true,true,true,false] ?_
        refine last_ (i:=9) (N:=none) #[true,true,true,true,true,true,true,true,true,true] rfl rfl (jeb HT_.out (by kernel_rfl)) (by decide) (fun K hK=>?_)
        refine jcc (w1:=?_) (by rfl) rfl ?_ ?_
        rotate_left
        ·go_simp
         rfl
        refine hK.out _ _ ?_
        clear hK K
        refine jqc (jbc HT_.out (by kernel_rfl)) ?_
        have n0_:jB (Kd.R k99 99 (w134.setCell ⟨go110,(t246:Int).toNat * 5+2,none⟩ (.int .i64 t268)) w.heap.size (fun _=>True) (.slice Ao115 t236.length co115) t236):=⟨by (with_reducible repeat (first | apply Kd.jX | apply Kd.jba | apply Kd.jV));exact Kd.jI (Kd.jwa (p:=⟨go110,(t246:Int).toNat * 5+2,none⟩) (Kd.jP HO238.out GG110.out (by decide)) (fun _ hk=>hk.2) (.int .i64 t268)) (fun _ hk=>trivial)⟩
        have n1_:jB (Kd.R k66 66 (w134.setCell ⟨go110,(t246:Int).toNat * 5+2,none⟩ (.int .i64 t268)) w.heap.size (fun _=>True) (.slice (some ⟨go110,0,none⟩) t241.length co122) y270):=⟨rq HQ135.out⟩
        have n2_:jB (Kd.R (Kd.int .i64) 3 (w134.setCell ⟨go110,(t246:Int).toNat * 5+2,none⟩ (.int .i64 t268)) w.heap.size (fun _=>True) (.slice Ao133 y265.length co133) y265):=⟨by (with_reducible repeat (first | apply Kd.jX | apply Kd.jba | apply Kd.jV));exact Kd.jI (Kd.jwa (p:=⟨go110,(t246:Int).toNat * 5+2,none⟩) (Kd.jP HO267.out GG110.out (by decide)) (fun _ hk=>hk.2) (.int .i64 t268)) (fun _ hk=>trivial)⟩
        have n3_:jB ((w134.setCell ⟨go110,(t246:Int).toNat * 5+2,none⟩ (.int .i64 t268)).heap[gb234]?=some (.cells #[.slice none 0 0] 25 (0,0))):=⟨by (with_reducible repeat (first | refine jg ?_ _ | refine jf ?_ | refine jh ?_ _));refine jT ?_ (by have h_:=Kd.R_ne HO243.out BK234.out (by decide);intro e_;exact h_ (by rw [e_];rfl)) _;(with_reducible repeat (first | refine jg ?_ _ | refine jf ?_ | refine jh ?_ _));exact BK234.out⟩
        have n4_:jB ((w134.setCell ⟨go110,(t246:Int).toNat * 5+2,none⟩ (.int .i64 t268)).heap[gb235]?=some (.cells #[.slice none 0 0] 28 (0,0))):=⟨by (with_reducible repeat (first | refine jg ?_ _ | refine jf ?_ | refine jh ?_ _));refine jT ?_ (by have h_:=Kd.R_ne HO243.out BK235.out (by decide);intro e_;exact h_ (by rw [e_];rfl)) _;(with_reducible repeat (first | refine jg ?_ _ | refine jf ?_ | refine jh ?_ _));exact BK235.out⟩
        have n5_:jB ((w134.setCell ⟨go110,(t246:Int).toNat * 5+2,none⟩ (.int .i64 t268)).heap[gb240]?=some (.cells #[.slice Ao115 t236.length co115] 25 (0,0))):=⟨by (with_reducible repeat (first | refine jg ?_ _ | refine jf ?_ | refine jh ?_ _));refine jT ?_ (by have h_:=Kd.R_ne HO243.out BK240.out (by decide);intro e_;exact h_ (by rw [e_];rfl)) _;(with_reducible repeat (first | refine jg ?_ _ | refine jf ?_ | refine jh ?_ _));exact BK240.out⟩
        have n6_:jB ((w134.setCell ⟨go110,(t246:Int).toNat * 5+2,none⟩ (.int .i64 t268)).heap[gb245]?=some (.cells #[.slice (some ⟨go110,0,none⟩) t241.length co122] 28 (0,0))):=⟨by (with_reducible repeat (first | refine jg ?_ _ | refine jf ?_ | refine jh ?_ _));refine jT ?_ (by have h_:=Kd.R_ne HO243.out BK245.out (by decide);intro e_;exact h_ (by rw [e_];rfl)) _;(with_reducible repeat (first | refine jg ?_ _ | refine jf ?_ | refine jh ?_ _));exact BK245.out⟩
        have n7_:jB (jk w0 (w134.setCell ⟨go110,(t246:Int).toNat * 5+2,none⟩ (.int .i64 t268)) g s0_0 t269):=⟨by repeat (first |(with_reducible first | exact HI0.out | apply jk.alloc | apply jk.drewN | apply jk.drew | apply jk.jmb | refine jk.far ?_ HN0_go110.out _ | refine jk.far ?_ NB0_234.out _ | refine jk.far ?_ NB0_235.out _ | refine jk.far ?_ NB0_240.out _ | refine jk.far ?_ NB0_245.out _) | exact HI0.out)⟩
        have n8_:jB (jd w (w134.setCell ⟨go110,(t246:Int).toNat * 5+2,none⟩ (.int .i64 t268)) g none):=⟨by repeat (first |(with_reducible first | exact HK.out | apply jd.set_ | apply jja | apply jaa | apply jka | refine jO ?_ GB110.out _ | refine jO ?_ GW234.out _ | refine jO ?_ GW235.out _ | refine jO ?_ GW240.out _ | refine jO ?_ GW245.out _) | exact HK.out)⟩
        have n9_:jB (Below w0.heap.size w0 (w134.setCell ⟨go110,(t246:Int).toNat * 5+2,none⟩ (.int .i64 t268))):=⟨by repeat (first |(with_reducible first | exact HB.out | apply jv | apply jo | apply jq | refine jl ?_ (Nat.le_trans HL.out GB110.out) | refine jl ?_ (jk.ge HI0.out) | refine jl ?_ GE234.out | refine jl ?_ GE235.out | refine jl ?_ GE240.out | refine jl ?_ GE245.out) | exact HB.out)⟩
        (try clear HO238)
        (try clear HO243)
        (try clear HO267)
        (try clear BK234)
        (try clear BK235)
        (try clear BK240)
        (try clear BK245)
        (try clear HI0)
        (try clear HK)
        (try clear HB)
        generalize (w134.setCell ⟨go110,(t246:Int).toNat * 5+2,none⟩ (.int .i64 t268))=w136 at n0_ n1_ n2_ n3_ n4_ n5_ n6_ n7_ n8_ n9_ ⊢
        have HO238:=n0_
        have HO243:=n1_
        have HO267:=n2_
        have BK234:=n3_
        have BK235:=n4_
        have BK240:=n5_
        have BK245:=n6_
        have HI0:=n7_
        have HK:=n8_
        have HB:=n9_
        clear n0_ n1_ n2_ n3_ n4_ n5_ n6_ n7_ n8_ n9_
        try go_wp2
        replace HO238:=am (Kd.jV HO238.out)
        replace HO243:=am (Kd.jV HO243.out)
        replace HO267:=am (Kd.jV HO267.out)
        replace BK234:=am (jf BK234.out)
        replace BK235:=am (jf BK235.out)
        replace BK240:=am (jf BK240.out)
        replace BK245:=am (jf BK245.out)
        replace HI0:=am (jk.drew HI0.out)
        replace HK:=am (jaa HK.out)
        replace HB:=am (jq HB.out)
        refine jVb (n:=4) (S:=fun w'=>w'.cell? ⟨gb240,0,none⟩=some (.slice Ao115 t236.length co115)∧w'.cell? ⟨gb245,0,none⟩=some (.slice (some ⟨go110,0,none⟩) t241.length co122)) (ds:=[]) #[false,false,false,false] (by kernel_rfl) rfl rfl ⟨(jH BK240.out 0).trans rfl,(jH BK245.out 0).trans rfl⟩ (fun hHeld=>?_)
        generalize w136.drew=w137 at HO238 HO243 HO267 BK234 BK235 BK240 BK245 HI0 HK HB hHeld ⊢
        refine jAb (i:=0) (N:=some 65) (v:=?_) (a':=?_) #[true,false,false,false] rfl rfl (by kernel_rfl) (fun _ _ _ h=>h) (Or.inl ⟨by rfl,?_⟩) hHeld ?_ ?_
        rotate_left
        ·rintro w' ⟨s0,s1⟩
         go_simp
         with_reducible rfl
        rotate_left
        ·exact sa
        refine jAb (i:=1) (N:=some 66) (v:=?_) (a':=?_) #[true,true,false,false] rfl rfl (by kernel_rfl) (fun _ _ _ h=>h) (Or.inl ⟨by rfl,?_⟩) hHeld ?_ ?_
        rotate_left
        ·rintro w' ⟨s0,s1⟩
         go_simp
         with_reducible rfl
        rotate_left
        ·exact sa
        refine one_ (i:=2) (N:=none) #[true,true,true,false] rfl rfl (by kernel_rfl) (by decide) (fun K hK=>?_)
        have hs138:w137.cell? ⟨gb234,0,none⟩=some (.slice none 0 0):=(jH BK234.out 0).trans rfl
        have hfs138:=jb BK234.out 0
        have hns138_1:=NB235_234.out
        have hns138_2:=NB240_234.out
        have hns138_3:=NB245_234.out
        have hms138_1:=NB234_235.out
        have hms138_2:=NB234_240.out
        have hms138_3:=NB234_245.out
        refine jcc (w1:=?_) (by rfl) rfl ?_ ?_
        rotate_left
        ·go_simp
         rfl
        refine hK.out _ _ ⟨((cell_far (p:=⟨gb234,_,none⟩) NB240_234.out _).trans (hHeld.1)),((cell_far (p:=⟨gb234,_,none⟩) NB245_234.out _).trans (hHeld.2))⟩ (fun hHeld=>?_)
        clear hK K
        refine one_ (i:=3) (N:=none) #[true,true,true,true] rfl rfl (by kernel_rfl) (by decide) (fun K hK=>?_)
        have hs139:w137.cell? ⟨gb235,0,none⟩=some (.slice none 0 0):=(jH BK235.out 0).trans rfl
        have hfs139:=jb BK235.out 0
        have hns139_0:=NB234_235.out
        have hns139_2:=NB240_235.out
        have hns139_3:=NB245_235.out
        have hms139_0:=NB235_234.out
        have hms139_2:=NB235_240.out
        have hms139_3:=NB235_245.out
        refine jcc (w1:=?_) (by rfl) rfl ?_ ?_
        rotate_left
        ·go_simp
         rfl
        refine hK.out _ _ ⟨((cell_far (p:=⟨gb235,_,none⟩) NB240_235.out _).trans (hHeld.1)),((cell_far (p:=⟨gb235,_,none⟩) NB245_235.out _).trans (hHeld.2))⟩ (fun hHeld=>?_)
        clear hK K
        refine jqc (by kernel_rfl) ?_
        try go_wp2
        refine bodyPost_ret (jdc rfl _ _ gb234 gb235 25 28 #[.slice Ao115 t236.length co115] #[.slice (some ⟨go110,0,none⟩) t241.length co122] (0,0) (0,0) _ _ rfl (Y76) Tryd.underlying25 rfl (by kernel_rfl) rfl (Y77) Tryd.underlying28 rfl (by kernel_rfl)) rfl ?_
        exact ⟨_,_,Y1,by (with_reducible repeat (first | apply Kd.jX | apply Kd.jba | apply Kd.jV));exact Kd.jI (Kd.jwa (p:=⟨gb235,0,none⟩) (Kd.jwa (p:=⟨gb234,0,none⟩) (Kd.jP (Kd.jP HO238.out BK234.out (by decide)) BK235.out (by decide)) (fun _ hk=>hk.1.2) (.slice Ao115 t236.length co115)) (fun _ hk=>hk.2) (.slice (some ⟨go110,0,none⟩) t241.length co122)) (fun _ hk=>trivial),by (with_reducible repeat (first | apply Kd.jX | apply Kd.jba | apply Kd.jV));exact Kd.jI (Kd.jwa (p:=⟨gb235,0,none⟩) (Kd.jwa (p:=⟨gb234,0,none⟩) (Kd.jP (Kd.jP HO243.out BK234.out (by decide)) BK235.out (by decide)) (fun _ hk=>hk.1.2) (.slice Ao115 t236.length co115)) (fun _ hk=>hk.2) (.slice (some ⟨go110,0,none⟩) t241.length co122)) (fun _ hk=>trivial),Y2,Y17,Y10⟩
       ·rw [if_neg c109] at H
        exact absurd H (by simp)
      ·rw [if_neg c108] at H
       exact absurd H (by simp)
     ·rw [if_neg c106] at H
      have c106b0:(t248 == 3)=false:=beq_eq_false_iff_ne.mpr c106
      have c106b1:(t248 != 3)=true:=bne_iff_ne.mpr c106
      simp only [Option.some.injEq,Prod.mk.injEq] at H
      obtain ⟨rfl,rfl,rfl⟩:=H
      go_enter Tryd.func43,Tryd.ntmps43
      try go_wp2_with (first |((with_reducible refine jD (N:=2) rfl ?_);refine bE (N:=2) (cs:=#[.slice none 0 0]) (t:=25) ?_;intro gb234 hg w140 hbox hb;have BK234:=am (hbox);have GW234:=am ((Y6:w.heap.size≤gb234));have GE234:=am ((Nat.le_trans HW0.out (Y6:w.heap.size≤gb234):w0.heap.size≤gb234));have NB0_234:=am ((Y24:g≠gb234));have NB234_0:=am ((Y25:gb234≠g));replace HK:=am (jd.trans (Y13) (jd.of_below hb g none) (.inl rfl));replace HB:=am (je (Y14) hb);replace HI0:=am (jk.below (Y12) hb);clear hb hbox hg) |((with_reducible refine jD (N:=3) rfl ?_);refine bE (N:=3) (cs:=#[.slice none 0 0]) (t:=28) ?_;intro gb235 hg w141 hbox hb;have BK235:=am (hbox);have GW235:=am ((Y31:w.heap.size≤gb235));have GE235:=am ((Nat.le_trans HW0.out (Y31:w.heap.size≤gb235):w0.heap.size≤gb235));have NB234_235:=am ((Y20:gb234≠gb235));have NB235_234:=am ((Y21:gb235≠gb234));have NB0_235:=am ((Y64:g≠gb235));have NB235_0:=am ((Y65:gb235≠g));replace BK234:=am (jc (g:=gb234) (o:=.cells #[.slice none 0 0] 25 (0,0)) (kq BK234.out) hb);replace HK:=am (jd.trans (Y66) (jd.of_below hb g none) (.inl rfl));replace HB:=am (je (Y67) hb);replace HI0:=am (jk.below (Y68) hb);clear hb hbox hg) |((with_reducible refine jw (f:=67) rfl ?_);refine gL (some 8) Tryd.func67 #[.pointer (some ⟨g,0,none⟩)] ?_;(with_reducible refine (jca.calls k g s0_0 s0_1 t236 t239 w0 _ ?side1 ?side2 A2.out).mono ?_);(case side1=>exact Y32);(case side2=>exact Y33);rintro e w142 ⟨v237,rfl,ho0,hi,hb,hk⟩;refine ⟨_,rfl,?_⟩;have HO238:=am (Kd.jia ho0 (jea (w:=w) (g:=g) (row:=none) (Y22)));replace BK234:=am (jd.blk hk (g':=gb234) (o:=.cells #[.slice none 0 0] 25 (0,0)) (kq BK234.out) NB234_0.out (by simp));replace BK235:=am (jd.blk hk (g':=gb235) (o:=.cells #[.slice none 0 0] 28 (0,0)) (kq BK235.out) NB235_0.out (by simp));replace HK:=am (jd.trans (Y22) hk (.inl rfl));replace HB:=am (hb);replace HI0:=am (hi);(try clear hb);(try clear hb2);(try clear hk);(try clear hi);(try clear ho0)) |((with_reducible refine jD (N:=4) rfl ?_);refine bE (N:=4) (cs:=#[.slice none 0 0]) (t:=25) ?_;intro gb240 hg w143 hbox hb;have BK240:=am (hbox);have GW240:=am ((Y34:w.heap.size≤gb240));have GE240:=am ((Nat.le_trans HW0.out (Y34:w.heap.size≤gb240):w0.heap.size≤gb240));have NB234_240:=am ((Y20:gb234≠gb240));have NB240_234:=am ((Y21:gb240≠gb234));have NB235_240:=am ((Y35:gb235≠gb240));have NB240_235:=am ((Y36:gb240≠gb235));have NB0_240:=am ((Y69:g≠gb240));have NB240_0:=am ((Y70:gb240≠g));replace HO238:=am (Kd.jW (rq HO238.out) hb);replace BK234:=am (jc (g:=gb234) (o:=.cells #[.slice none 0 0] 25 (0,0)) (kq BK234.out) hb);replace BK235:=am (jc (g:=gb235) (o:=.cells #[.slice none 0 0] 28 (0,0)) (kq BK235.out) hb);replace HK:=am (jd.trans (Y22) (jd.of_below hb g none) (.inl rfl));replace HB:=am (je (Y33) hb);replace HI0:=am (jk.below (Y32) hb);clear hb hbox hg;obtain ⟨Ao144,co144,eo144⟩:=Kd.jZ HO238.out;subst eo144;have hnb145:=NB240_234.out;have hnc145:=NB234_240.out;have hnb146:=NB240_235.out;have hnc146:=NB235_240.out;have hnb147:=NB240_0.out;have hnc147:=NB0_240.out;have hcz148_0:=bc0 BK240.out;have hfz148_0:=jb BK240.out 0) |((with_reducible refine jw (f:=44) rfl ?_);refine gL (some 11) Tryd.func44 #[.pointer (some ⟨g,0,none⟩), .agg #[.slice Ao144 t236.length co144]] ?_;(with_reducible refine (jr.calls k g s0_0 t239 _ _ t236 t241 t244 w0 _ ?side1 ?side2 ?side3 ?side4 A3.out).mono ?_);(case side1=>exact Y16);(case side2=>exact Y37);(case side3=>exact Kd.jUb (jk.apart (show jk w0 _ g s0_0 t239 from Y16) (Y166) (by decide)) (fun _ h_=>h_.2));(case side4=>exact (Kd.jC HO238.out).2.1);rintro e w149 ⟨v242,rfl,ho0,hi,hb,hk⟩;refine ⟨_,rfl,?_⟩;have HO243:=am (Kd.jia ho0 (jea (w:=w) (g:=g) (row:=none) (Y23)));replace BK234:=am (jd.blk hk (g':=gb234) (o:=.cells #[.slice none 0 0] 25 (0,0)) (Y71) NB234_0.out (by simp));replace BK235:=am (jd.blk hk (g':=gb235) (o:=.cells #[.slice none 0 0] 28 (0,0)) (Y72) NB235_0.out (by simp));replace HO238:=am (Kd.jI (Kd.jqa (jk.apart (show jk w0 _ g s0_0 t239 from Y16) (Y166) (by decide)) hk (fun _ h=>h.2)) (fun _ h=>h.1));replace BK240:=am (jd.blk hk (g':=gb240) (o:=.cells #[.slice Ao144 t236.length co144] 25 (0,0)) (Y73) NB240_0.out (by simp));replace HK:=am (jd.trans (Y23) hk (.inl rfl));replace HB:=am (hb);replace HI0:=am (hi);(try clear hb);(try clear hb2);(try clear hk);(try clear hi);(try clear ho0)) |((with_reducible refine jD (N:=5) rfl ?_);refine bE (N:=5) (cs:=#[.slice none 0 0]) (t:=28) ?_;intro gb245 hg w150 hbox hb;have BK245:=am (hbox);have GW245:=am ((Y38:w.heap.size≤gb245));have GE245:=am ((Nat.le_trans HW0.out (Y38:w.heap.size≤gb245):w0.heap.size≤gb245));have NB234_245:=am ((Y20:gb234≠gb245));have NB245_234:=am ((Y21:gb245≠gb234));have NB235_245:=am ((Y35:gb235≠gb245));have NB245_235:=am ((Y36:gb245≠gb235));have NB240_245:=am ((by rw [hg];exact Nat.ne_of_lt (jda (g:=gb240) (o:=.cells #[.slice Ao144 t236.length co144] 25 (0,0)) (kq BK240.out)):gb240≠gb245));have NB245_240:=am ((by rw [hg];exact Nat.ne_of_gt (jda (g:=gb240) (o:=.cells #[.slice Ao144 t236.length co144] 25 (0,0)) (kq BK240.out)):gb245≠gb240));have NB0_245:=am ((Y74:g≠gb245));have NB245_0:=am ((Y75:gb245≠g));replace HO238:=am (Kd.jW (rq HO238.out) hb);replace HO243:=am (Kd.jW (rq HO243.out) hb);replace BK234:=am (jc (g:=gb234) (o:=.cells #[.slice none 0 0] 25 (0,0)) (kq BK234.out) hb);replace BK235:=am (jc (g:=gb235) (o:=.cells #[.slice none 0 0] 28 (0,0)) (kq BK235.out) hb);replace BK240:=am (jc (g:=gb240) (o:=.cells #[.slice Ao144 t236.length co144] 25 (0,0)) (kq BK240.out) hb);replace HK:=am (jd.trans (Y23) (jd.of_below hb g none) (.inl rfl));replace HB:=am (je (Y37) hb);replace HI0:=am (jk.below (Y16) hb);clear hb hbox hg;obtain ⟨Ao151,co151,eo151⟩:=Kd.jZ HO243.out;subst eo151;have hnb152:=NB245_234.out;have hnc152:=NB234_245.out;have hnb153:=NB245_235.out;have hnc153:=NB235_245.out;have hnb154:=NB245_240.out;have hnc154:=NB240_245.out;have hnb155:=NB245_0.out;have hnc155:=NB0_245.out;have hcz156_0:=bc0 BK245.out;have hfz156_0:=jb BK245.out 0) |((with_reducible refine jw (f:=68) rfl ?_);refine gL (some 20) Tryd.func68 #[.pointer (some ⟨g,0,none⟩), .int .i64 (t241.length:Int)] ?_;(with_reducible refine (jm.calls k g s0_0 t244 (t241.length:Int) t246 t247 w0 _ ?side1 ?side2 A5.out).mono ?_);(case side1=>exact Y2);(case side2=>exact Y17);rintro e w157 ⟨rfl,hi,hb,hk⟩;refine ⟨_,rfl,?_⟩;replace BK234:=am (jd.blk hk (g':=gb234) (o:=.cells #[.slice none 0 0] 25 (0,0)) (Y89) NB234_0.out (by simp));replace BK235:=am (jd.blk hk (g':=gb235) (o:=.cells #[.slice none 0 0] 28 (0,0)) (Y90) NB235_0.out (by simp));replace HO238:=am (Kd.jI (Kd.jqa (jk.apart (show jk w0 _ g s0_0 t244 from Y2) (by (with_reducible repeat (first | apply Kd.jX | apply Kd.jba | apply Kd.jV));exact (Kd.jI (Kd.jwa (p:=⟨gb245,0,none⟩) (Kd.jP HO238.out BK245.out (by decide)) (fun _ hk=>hk.2) (.slice Ao151 t241.length co151)) (fun _ h_=>h_.1))) (by decide)) hk (fun _ h=>h.2)) (fun _ h=>h.1));replace BK240:=am (jd.blk hk (g':=gb240) (o:=.cells #[.slice Ao144 t236.length co144] 25 (0,0)) (Y91) NB240_0.out (by simp));replace HO243:=am (Kd.jI (Kd.jqa (jk.apart (show jk w0 _ g s0_0 t244 from Y2) (by (with_reducible repeat (first | apply Kd.jX | apply Kd.jba | apply Kd.jV));exact (Kd.jI (Kd.jwa (p:=⟨gb245,0,none⟩) (Kd.jP HO243.out BK245.out (by decide)) (fun _ hk=>hk.2) (.slice Ao151 t241.length co151)) (fun _ h_=>h_.1))) (by decide)) hk (fun _ h=>h.2)) (fun _ h=>h.1));replace BK245:=am (jd.blk hk (g':=gb245) (o:=.cells #[.slice Ao151 t241.length co151] 28 (0,0)) (Y92) NB245_0.out (by simp));replace HK:=am (jd.trans (Y10) hk (.inl rfl));replace HB:=am (hb);replace HI0:=am (hi);(try clear hb);(try clear hb2);(try clear hk);(try clear hi)) |((with_reducible refine jw (f:=68) rfl ?_);refine gL (some 22) Tryd.func68 #[.pointer (some ⟨g,0,none⟩), .int .i64 24] ?_;(with_reducible refine (jm.calls k g s0_0 t247 24 t248 t249 w0 _ ?side1 ?side2 A6.out).mono ?_);(case side1=>exact Y2);(case side2=>exact Y17);rintro e w158 ⟨rfl,hi,hb,hk⟩;refine ⟨_,rfl,?_⟩;replace BK234:=am (jd.blk hk (g':=gb234) (o:=.cells #[.slice none 0 0] 25 (0,0)) (kq BK234.out) NB234_0.out (by simp));replace BK235:=am (jd.blk hk (g':=gb235) (o:=.cells #[.slice none 0 0] 28 (0,0)) (kq BK235.out) NB235_0.out (by simp));replace HO238:=am (Kd.jI (Kd.jqa (jk.apart (show jk w0 _ g s0_0 t247 from Y2) (rq HO238.out) (by decide)) hk (fun _ h=>h.2)) (fun _ h=>h.1));replace BK240:=am (jd.blk hk (g':=gb240) (o:=.cells #[.slice Ao144 t236.length co144] 25 (0,0)) (kq BK240.out) NB240_0.out (by simp));replace HO243:=am (Kd.jI (Kd.jqa (jk.apart (show jk w0 _ g s0_0 t247 from Y2) (rq HO243.out) (by decide)) hk (fun _ h=>h.2)) (fun _ h=>h.1));replace BK245:=am (jd.blk hk (g':=gb245) (o:=.cells #[.slice Ao151 t241.length co151] 28 (0,0)) (kq BK245.out) NB245_0.out (by simp));replace HK:=am (jd.trans (Y10) hk (.inl rfl));replace HB:=am (hb);replace HI0:=am (hi);(try clear hb);(try clear hb2);(try clear hk);(try clear hi)))
      replace HO238:=am (Kd.jV HO238.out)
      replace HO243:=am (Kd.jV HO243.out)
      replace BK234:=am (jf BK234.out)
      replace BK235:=am (jf BK235.out)
      replace BK240:=am (jf BK240.out)
      replace BK245:=am (jf BK245.out)
      replace HI0:=am (jk.drew HI0.out)
      replace HK:=am (jaa HK.out)
      replace HB:=am (jq HB.out)
      refine jVb (n:=4) (S:=fun w'=>w'.cell? ⟨gb240,0,none⟩=some (.slice Ao144 t236.length co144)∧w'.cell? ⟨gb245,0,none⟩=some (.slice Ao151 t241.length co151)) (ds:=[]) #[false,false,false,false] (by kernel_rfl) rfl rfl ⟨(jH BK240.out 0).trans rfl,(jH BK245.out 0).trans rfl⟩ (fun hHeld=>?_)
      generalize w158.drew=w159 at HO238 HO243 BK234 BK235 BK240 BK245 HI0 HK HB hHeld ⊢
      refine jAb (i:=0) (N:=some 65) (v:=?_) (a':=?_) #[true,false,false,false] rfl rfl (by kernel_rfl) (fun _ _ _ h=>h) (Or.inl ⟨by rfl,?_⟩) hHeld ?_ ?_
      rotate_left
      ·rintro w' ⟨s0,s1⟩
       go_simp
       with_reducible rfl
      rotate_left
      ·exact sa
      refine jAb (i:=1) (N:=some 66) (v:=?_) (a':=?_) #[true,true,false,false] rfl rfl (by kernel_rfl) (fun _ _ _ h=>h) (Or.inl ⟨by rfl,?_⟩) hHeld ?_ ?_
      rotate_left
      ·rintro w' ⟨s0,s1⟩
       go_simp
       with_reducible rfl
      rotate_left
      ·exact sa
      refine one_ (i:=2) (N:=none) #[true,true,true,false] rfl rfl (by kernel_rfl) (by decide) (fun K hK=>?_)
      have hs160:w159.cell? ⟨gb234,0,none⟩=some (.slice none 0 0):=(jH BK234.out 0).trans rfl
      have hfs160:=jb BK234.out 0
      have hns160_1:=NB235_234.out
      have hns160_2:=NB240_234.out
      have hns160_3:=NB245_234.out
      have hms160_1:=NB234_235.out
      have hms160_2:=NB234_240.out
      have hms160_3:=NB234_245.out
      refine jcc (w1:=?_) (by rfl) rfl ?_ ?_
      rotate_left
      ·go_simp
       rfl
      refine hK.out _ _ ⟨((cell_far (p:=⟨gb234,_,none⟩) NB240_234.out _).trans (hHeld.1)),((cell_far (p:=⟨gb234,_,none⟩) NB245_234.out _).trans (hHeld.2))⟩ (fun hHeld=>?_)
      clear hK K
      refine one_ (i:=3) (N:=none) #[true,true,true,true] rfl rfl (by kernel_rfl) (by decide) (fun K hK=>?_)
      have hs161:w159.cell? ⟨gb235,0,none⟩=some (.slice none 0 0):=(jH BK235.out 0).trans rfl
      have hfs161:=jb BK235.out 0
      have hns161_0:=NB234_235.out
      have hns161_2:=NB240_235.out
      have hns161_3:=NB245_235.out
      have hms161_0:=NB235_234.out
      have hms161_2:=NB235_240.out
      have hms161_3:=NB235_245.out
      refine jcc (w1:=?_) (by rfl) rfl ?_ ?_
      rotate_left
      ·go_simp
       rfl
      refine hK.out _ _ ⟨((cell_far (p:=⟨gb235,_,none⟩) NB240_235.out _).trans (hHeld.1)),((cell_far (p:=⟨gb235,_,none⟩) NB245_235.out _).trans (hHeld.2))⟩ (fun hHeld=>?_)
      clear hK K
      refine jqc (by kernel_rfl) ?_
      try go_wp2
      refine bodyPost_ret (jdc rfl _ _ gb234 gb235 25 28 #[.slice Ao144 t236.length co144] #[.slice Ao151 t241.length co151] (0,0) (0,0) _ _ rfl (Y76) Tryd.underlying25 rfl (by kernel_rfl) rfl (Y77) Tryd.underlying28 rfl (by kernel_rfl)) rfl ?_
      exact ⟨_,_,Y1,by (with_reducible repeat (first | apply Kd.jX | apply Kd.jba | apply Kd.jV));exact Kd.jI (Kd.jwa (p:=⟨gb235,0,none⟩) (Kd.jwa (p:=⟨gb234,0,none⟩) (Kd.jP (Kd.jP HO238.out BK234.out (by decide)) BK235.out (by decide)) (fun _ hk=>hk.1.2) (.slice Ao144 t236.length co144)) (fun _ hk=>hk.2) (.slice Ao151 t241.length co151)) (fun _ hk=>trivial),by (with_reducible repeat (first | apply Kd.jX | apply Kd.jba | apply Kd.jV));exact Kd.jI (Kd.jwa (p:=⟨gb235,0,none⟩) (Kd.jwa (p:=⟨gb234,0,none⟩) (Kd.jP (Kd.jP HO243.out BK234.out (by decide)) BK235.out (by decide)) (fun _ hk=>hk.1.2) (.slice Ao144 t236.length co144)) (fun _ hk=>hk.2) (.slice Ao151 t241.length co151)) (fun _ hk=>trivial),Y2,Y17,Y10⟩
 ·rw [if_neg c4] at H
  have c4b0:decide (0<(t241.length:Int))=false:=dzF c4
  have c4b1:decide (0<t241.length)=false:=dzF (by omega)
  clear c4
  simp only [Option.some.injEq,Prod.mk.injEq] at H
  obtain ⟨rfl,rfl,rfl⟩:=H
  go_enter Tryd.func43,Tryd.ntmps43
  try go_wp2_with (first |((with_reducible refine jD (N:=2) rfl ?_);refine bE (N:=2) (cs:=#[.slice none 0 0]) (t:=25) ?_;intro gb234 hg w162 hbox hb;have BK234:=am (hbox);have GW234:=am ((Y6:w.heap.size≤gb234));have GE234:=am ((Nat.le_trans HW0.out (Y6:w.heap.size≤gb234):w0.heap.size≤gb234));have NB0_234:=am ((Y24:g≠gb234));have NB234_0:=am ((Y25:gb234≠g));replace HK:=am (jd.trans (Y13) (jd.of_below hb g none) (.inl rfl));replace HB:=am (je (Y14) hb);replace HI0:=am (jk.below (Y12) hb);clear hb hbox hg) |((with_reducible refine jD (N:=3) rfl ?_);refine bE (N:=3) (cs:=#[.slice none 0 0]) (t:=28) ?_;intro gb235 hg w163 hbox hb;have BK235:=am (hbox);have GW235:=am ((Y31:w.heap.size≤gb235));have GE235:=am ((Nat.le_trans HW0.out (Y31:w.heap.size≤gb235):w0.heap.size≤gb235));have NB234_235:=am ((Y20:gb234≠gb235));have NB235_234:=am ((Y21:gb235≠gb234));have NB0_235:=am ((Y64:g≠gb235));have NB235_0:=am ((Y65:gb235≠g));replace BK234:=am (jc (g:=gb234) (o:=.cells #[.slice none 0 0] 25 (0,0)) (kq BK234.out) hb);replace HK:=am (jd.trans (Y66) (jd.of_below hb g none) (.inl rfl));replace HB:=am (je (Y67) hb);replace HI0:=am (jk.below (Y68) hb);clear hb hbox hg) |((with_reducible refine jw (f:=67) rfl ?_);refine gL (some 8) Tryd.func67 #[.pointer (some ⟨g,0,none⟩)] ?_;(with_reducible refine (jca.calls k g s0_0 s0_1 t236 t239 w0 _ ?side1 ?side2 A2.out).mono ?_);(case side1=>exact Y32);(case side2=>exact Y33);rintro e w164 ⟨v237,rfl,ho0,hi,hb,hk⟩;refine ⟨_,rfl,?_⟩;have HO238:=am (Kd.jia ho0 (jea (w:=w) (g:=g) (row:=none) (Y22)));replace BK234:=am (jd.blk hk (g':=gb234) (o:=.cells #[.slice none 0 0] 25 (0,0)) (kq BK234.out) NB234_0.out (by simp));replace BK235:=am (jd.blk hk (g':=gb235) (o:=.cells #[.slice none 0 0] 28 (0,0)) (kq BK235.out) NB235_0.out (by simp));replace HK:=am (jd.trans (Y22) hk (.inl rfl));replace HB:=am (hb);replace HI0:=am (hi);(try clear hb);(try clear hb2);(try clear hk);(try clear hi);(try clear ho0)) |((with_reducible refine jD (N:=4) rfl ?_);refine bE (N:=4) (cs:=#[.slice none 0 0]) (t:=25) ?_;intro gb240 hg w165 hbox hb;have BK240:=am (hbox);have GW240:=am ((Y34:w.heap.size≤gb240));have GE240:=am ((Nat.le_trans HW0.out (Y34:w.heap.size≤gb240):w0.heap.size≤gb240));have NB234_240:=am ((Y20:gb234≠gb240));have NB240_234:=am ((Y21:gb240≠gb234));have NB235_240:=am ((Y35:gb235≠gb240));have NB240_235:=am ((Y36:gb240≠gb235));have NB0_240:=am ((Y69:g≠gb240));have NB240_0:=am ((Y70:gb240≠g));replace HO238:=am (Kd.jW (rq HO238.out) hb);replace BK234:=am (jc (g:=gb234) (o:=.cells #[.slice none 0 0] 25 (0,0)) (kq BK234.out) hb);replace BK235:=am (jc (g:=gb235) (o:=.cells #[.slice none 0 0] 28 (0,0)) (kq BK235.out) hb);replace HK:=am (jd.trans (Y22) (jd.of_below hb g none) (.inl rfl));replace HB:=am (je (Y33) hb);replace HI0:=am (jk.below (Y32) hb);clear hb hbox hg;obtain ⟨Ao166,co166,eo166⟩:=Kd.jZ HO238.out;subst eo166;have hnb167:=NB240_234.out;have hnc167:=NB234_240.out;have hnb168:=NB240_235.out;have hnc168:=NB235_240.out;have hnb169:=NB240_0.out;have hnc169:=NB0_240.out;have hcz170_0:=bc0 BK240.out;have hfz170_0:=jb BK240.out 0) |((with_reducible refine jw (f:=44) rfl ?_);refine gL (some 11) Tryd.func44 #[.pointer (some ⟨g,0,none⟩), .agg #[.slice Ao166 t236.length co166]] ?_;(with_reducible refine (jr.calls k g s0_0 t239 _ _ t236 t241 t244 w0 _ ?side1 ?side2 ?side3 ?side4 A3.out).mono ?_);(case side1=>exact Y16);(case side2=>exact Y37);(case side3=>exact Kd.jUb (jk.apart (show jk w0 _ g s0_0 t239 from Y16) (Y167) (by decide)) (fun _ h_=>h_.2));(case side4=>exact (Kd.jC HO238.out).2.1);rintro e w171 ⟨v242,rfl,ho0,hi,hb,hk⟩;refine ⟨_,rfl,?_⟩;have HO243:=am (Kd.jia ho0 (jea (w:=w) (g:=g) (row:=none) (Y23)));replace BK234:=am (jd.blk hk (g':=gb234) (o:=.cells #[.slice none 0 0] 25 (0,0)) (Y71) NB234_0.out (by simp));replace BK235:=am (jd.blk hk (g':=gb235) (o:=.cells #[.slice none 0 0] 28 (0,0)) (Y72) NB235_0.out (by simp));replace HO238:=am (Kd.jI (Kd.jqa (jk.apart (show jk w0 _ g s0_0 t239 from Y16) (Y167) (by decide)) hk (fun _ h=>h.2)) (fun _ h=>h.1));replace BK240:=am (jd.blk hk (g':=gb240) (o:=.cells #[.slice Ao166 t236.length co166] 25 (0,0)) (Y73) NB240_0.out (by simp));replace HK:=am (jd.trans (Y23) hk (.inl rfl));replace HB:=am (hb);replace HI0:=am (hi);(try clear hb);(try clear hb2);(try clear hk);(try clear hi);(try clear ho0)) |((with_reducible refine jD (N:=5) rfl ?_);refine bE (N:=5) (cs:=#[.slice none 0 0]) (t:=28) ?_;intro gb245 hg w172 hbox hb;have BK245:=am (hbox);have GW245:=am ((Y38:w.heap.size≤gb245));have GE245:=am ((Nat.le_trans HW0.out (Y38:w.heap.size≤gb245):w0.heap.size≤gb245));have NB234_245:=am ((Y20:gb234≠gb245));have NB245_234:=am ((Y21:gb245≠gb234));have NB235_245:=am ((Y35:gb235≠gb245));have NB245_235:=am ((Y36:gb245≠gb235));have NB240_245:=am ((by rw [hg];exact Nat.ne_of_lt (jda (g:=gb240) (o:=.cells #[.slice Ao166 t236.length co166] 25 (0,0)) (kq BK240.out)):gb240≠gb245));have NB245_240:=am ((by rw [hg];exact Nat.ne_of_gt (jda (g:=gb240) (o:=.cells #[.slice Ao166 t236.length co166] 25 (0,0)) (kq BK240.out)):gb245≠gb240));have NB0_245:=am ((Y74:g≠gb245));have NB245_0:=am ((Y75:gb245≠g));replace HO238:=am (Kd.jW (rq HO238.out) hb);replace HO243:=am (Kd.jW (rq HO243.out) hb);replace BK234:=am (jc (g:=gb234) (o:=.cells #[.slice none 0 0] 25 (0,0)) (kq BK234.out) hb);replace BK235:=am (jc (g:=gb235) (o:=.cells #[.slice none 0 0] 28 (0,0)) (kq BK235.out) hb);replace BK240:=am (jc (g:=gb240) (o:=.cells #[.slice Ao166 t236.length co166] 25 (0,0)) (kq BK240.out) hb);replace HK:=am (jd.trans (Y23) (jd.of_below hb g none) (.inl rfl));replace HB:=am (je (Y37) hb);replace HI0:=am (jk.below (Y16) hb);clear hb hbox hg;obtain ⟨Ao173,co173,eo173⟩:=Kd.jZ HO243.out;subst eo173;have hnb174:=NB245_234.out;have hnc174:=NB234_245.out;have hnb175:=NB245_235.out;have hnc175:=NB235_245.out;have hnb176:=NB245_240.out;have hnc176:=NB240_245.out;have hnb177:=NB245_0.out;have hnc177:=NB0_245.out;have hcz178_0:=bc0 BK245.out;have hfz178_0:=jb BK245.out 0))
  have n0_:jB (Kd.R k99 99 (w172.setCell ⟨gb245,0,none⟩ (.slice Ao173 t241.length co173)) w.heap.size (fun _=>True) (.slice Ao166 t236.length co166) t236):=⟨by (with_reducible repeat (first | apply Kd.jX | apply Kd.jba | apply Kd.jV));exact Kd.jI (Kd.jwa (p:=⟨gb245,0,none⟩) (Kd.jP HO238.out BK245.out (by decide)) (fun _ hk=>hk.2) (.slice Ao173 t241.length co173)) (fun _ hk=>trivial)⟩
  have n1_:jB (Kd.R k66 66 (w172.setCell ⟨gb245,0,none⟩ (.slice Ao173 t241.length co173)) w.heap.size (fun _=>True) (.slice Ao173 t241.length co173) t241):=⟨by (with_reducible repeat (first | apply Kd.jX | apply Kd.jba | apply Kd.jV));exact Kd.jI (Kd.jwa (p:=⟨gb245,0,none⟩) (Kd.jP HO243.out BK245.out (by decide)) (fun _ hk=>hk.2) (.slice Ao173 t241.length co173)) (fun _ hk=>trivial)⟩
  have n2_:jB ((w172.setCell ⟨gb245,0,none⟩ (.slice Ao173 t241.length co173)).heap[gb234]?=some (.cells #[.slice none 0 0] 25 (0,0))):=⟨by (with_reducible repeat (first | refine jg ?_ _ | refine jf ?_ | refine jh ?_ _));refine jT ?_ NB234_245.out _;(with_reducible repeat (first | refine jg ?_ _ | refine jf ?_ | refine jh ?_ _));exact BK234.out⟩
  have n3_:jB ((w172.setCell ⟨gb245,0,none⟩ (.slice Ao173 t241.length co173)).heap[gb235]?=some (.cells #[.slice none 0 0] 28 (0,0))):=⟨by (with_reducible repeat (first | refine jg ?_ _ | refine jf ?_ | refine jh ?_ _));refine jT ?_ NB235_245.out _;(with_reducible repeat (first | refine jg ?_ _ | refine jf ?_ | refine jh ?_ _));exact BK235.out⟩
  have n4_:jB ((w172.setCell ⟨gb245,0,none⟩ (.slice Ao173 t241.length co173)).heap[gb240]?=some (.cells #[.slice Ao166 t236.length co166] 25 (0,0))):=⟨by (with_reducible repeat (first | refine jg ?_ _ | refine jf ?_ | refine jh ?_ _));refine jT ?_ NB240_245.out _;(with_reducible repeat (first | refine jg ?_ _ | refine jf ?_ | refine jh ?_ _));exact BK240.out⟩
  have n5_:jB ((w172.setCell ⟨gb245,0,none⟩ (.slice Ao173 t241.length co173)).heap[gb245]?=some (.cells #[.slice Ao173 t241.length co173] 28 (0,0))):=⟨by (with_reducible repeat (first | refine jg ?_ _ | refine jf ?_ | refine jh ?_ _));refine jya (cs:=#[.slice none 0 0]) ?_ 0 _ rfl;(with_reducible repeat (first | refine jg ?_ _ | refine jf ?_ | refine jh ?_ _));exact BK245.out⟩
  have n6_:jB (jk w0 (w172.setCell ⟨gb245,0,none⟩ (.slice Ao173 t241.length co173)) g s0_0 t244):=⟨Y2⟩
  have n7_:jB (jd w (w172.setCell ⟨gb245,0,none⟩ (.slice Ao173 t241.length co173)) g none):=⟨Y10⟩
  have n8_:jB (Below w0.heap.size w0 (w172.setCell ⟨gb245,0,none⟩ (.slice Ao173 t241.length co173))):=⟨Y17⟩
  (try clear HO238)
  (try clear HO243)
  (try clear BK234)
  (try clear BK235)
  (try clear BK240)
  (try clear BK245)
  (try clear HI0)
  (try clear HK)
  (try clear HB)
  generalize (w172.setCell ⟨gb245,0,none⟩ (.slice Ao173 t241.length co173))=w179 at n0_ n1_ n2_ n3_ n4_ n5_ n6_ n7_ n8_ ⊢
  have HO238:=n0_
  have HO243:=n1_
  have BK234:=n2_
  have BK235:=n3_
  have BK240:=n4_
  have BK245:=n5_
  have HI0:=n6_
  have HK:=n7_
  have HB:=n8_
  clear n0_ n1_ n2_ n3_ n4_ n5_ n6_ n7_ n8_
  replace HO238:=am (Kd.jV HO238.out)
  replace HO243:=am (Kd.jV HO243.out)
  replace BK234:=am (jf BK234.out)
  replace BK235:=am (jf BK235.out)
  replace BK240:=am (jf BK240.out)
  replace BK245:=am (jf BK245.out)
  replace HI0:=am (jk.drew HI0.out)
  replace HK:=am (jaa HK.out)
  replace HB:=am (jq HB.out)
  refine jVb (n:=4) (S:=fun w'=>w'.cell? ⟨gb240,0,none⟩=some (.slice Ao166 t236.length co166)∧w'.cell? ⟨gb245,0,none⟩=some (.slice Ao173 t241.length co173)) (ds:=[]) #[false,false,false,false] (by kernel_rfl) rfl rfl ⟨(jH BK240.out 0).trans rfl,(jH BK245.out 0).trans rfl⟩ (fun hHeld=>?_)
  generalize w179.drew=w180 at HO238 HO243 BK234 BK235 BK240 BK245 HI0 HK HB hHeld ⊢
  refine jAb (i:=0) (N:=some 65) (v:=?_) (a':=?_) #[true,false,false,false] rfl rfl (by kernel_rfl) (fun _ _ _ h=>h) (Or.inl ⟨by rfl,?_⟩) hHeld ?_ ?_
  rotate_left
  ·rintro w' ⟨s0,s1⟩
   go_simp
   with_reducible rfl
  rotate_left
  ·exact sa
  refine jAb (i:=1) (N:=some 66) (v:=?_) (a':=?_) #[true,true,false,false] rfl rfl (by kernel_rfl) (fun _ _ _ h=>h) (Or.inl ⟨by rfl,?_⟩) hHeld ?_ ?_
  rotate_left
  ·rintro w' ⟨s0,s1⟩
   go_simp
   with_reducible rfl
  rotate_left
  ·exact sa
  refine one_ (i:=2) (N:=none) #[true,true,true,false] rfl rfl (by kernel_rfl) (by decide) (fun K hK=>?_)
  have hs181:w180.cell? ⟨gb234,0,none⟩=some (.slice none 0 0):=(jH BK234.out 0).trans rfl
  have hfs181:=jb BK234.out 0
  have hns181_1:=NB235_234.out
  have hns181_2:=NB240_234.out
  have hns181_3:=NB245_234.out
  have hms181_1:=NB234_235.out
  have hms181_2:=NB234_240.out
  have hms181_3:=NB234_245.out
  refine jcc (w1:=?_) (by rfl) rfl ?_ ?_
  rotate_left
  ·go_simp
   rfl
  refine hK.out _ _ ⟨((cell_far (p:=⟨gb234,_,none⟩) NB240_234.out _).trans (hHeld.1)),((cell_far (p:=⟨gb234,_,none⟩) NB245_234.out _).trans (hHeld.2))⟩ (fun hHeld=>?_)
  clear hK K
  refine one_ (i:=3) (N:=none) #[true,true,true,true] rfl rfl (by kernel_rfl) (by decide) (fun K hK=>?_)
  have hs182:w180.cell? ⟨gb235,0,none⟩=some (.slice none 0 0):=(jH BK235.out 0).trans rfl
  have hfs182:=jb BK235.out 0
  have hns182_0:=NB234_235.out
  have hns182_2:=NB240_235.out
  have hns182_3:=NB245_235.out
  have hms182_0:=NB235_234.out
  have hms182_2:=NB235_240.out
  have hms182_3:=NB235_245.out
  refine jcc (w1:=?_) (by rfl) rfl ?_ ?_
  rotate_left
  ·go_simp
   rfl
  refine hK.out _ _ ⟨((cell_far (p:=⟨gb235,_,none⟩) NB240_235.out _).trans (hHeld.1)),((cell_far (p:=⟨gb235,_,none⟩) NB245_235.out _).trans (hHeld.2))⟩ (fun hHeld=>?_)
  clear hK K
  refine jqc (by kernel_rfl) ?_
  try go_wp2
  refine bodyPost_ret (jdc rfl _ _ gb234 gb235 25 28 #[.slice Ao166 t236.length co166] #[.slice Ao173 t241.length co173] (0,0) (0,0) _ _ rfl (Y76) Tryd.underlying25 rfl (by kernel_rfl) rfl (Y77) Tryd.underlying28 rfl (by kernel_rfl)) rfl ?_
  exact ⟨_,_,Y1,by (with_reducible repeat (first | apply Kd.jX | apply Kd.jba | apply Kd.jV));exact Kd.jI (Kd.jwa (p:=⟨gb235,0,none⟩) (Kd.jwa (p:=⟨gb234,0,none⟩) (Kd.jP (Kd.jP HO238.out BK234.out (by decide)) BK235.out (by decide)) (fun _ hk=>hk.1.2) (.slice Ao166 t236.length co166)) (fun _ hk=>hk.2) (.slice Ao173 t241.length co173)) (fun _ hk=>trivial),by (with_reducible repeat (first | apply Kd.jX | apply Kd.jba | apply Kd.jV));exact Kd.jI (Kd.jwa (p:=⟨gb235,0,none⟩) (Kd.jwa (p:=⟨gb234,0,none⟩) (Kd.jP (Kd.jP HO243.out BK234.out (by decide)) BK235.out (by decide)) (fun _ hk=>hk.1.2) (.slice Ao166 t236.length co166)) (fun _ hk=>hk.2) (.slice Ao173 t241.length co173)) (fun _ hk=>trivial),Y2,Y17,Y10⟩
end Go.Proofs.YteibechlncphnaaDoor.P
end
