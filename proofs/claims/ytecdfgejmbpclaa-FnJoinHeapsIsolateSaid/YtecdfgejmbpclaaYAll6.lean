/- One part of the proofs on this program: functions of the program as plain functions, that the code comes to them, and facts on them. -/
import Derived.Test.YtecdfgejmbpclaaYAll1
import Derived.Test.YtecdfgejmbpclaaYAll3
import Derived.Test.YtecdfgejmbpclaaYAll4
import Derived.Test.YtecdfgejmbpclaaYAll5
import Derived.Test.YtecdfgejmbpclaaYWAuto
section
namespace Go.Proofs.Ytecdfgejmbpclaa.P
open Go.RowKit Go.Proofs.YtecdfgejmbpclaaW.PrintWords Go.Proofs.YtecdfgejmbpclaaW.PrintLast Go.Proofs.YtecdfgejmbpclaaW.PrintMore
attribute [local go_sem] jva jta jFa jEa jha jga jua jsa jF
set_option linter.unusedVariables false
set_option linter.unusedSimpArgs false
def jU.f (k : Nat) (s0_0 : List Int) (s0_1 : Int) : Option ((List (S94)) × (List (S54)) × Int) := (jca.f k s0_0 s0_1).bind fun bt612 => ((jv.f k s0_0 bt612.2 bt612.1).bind fun bt617 => (if (bt617.1.length : Int) > 0 then ((jq.f k s0_0 bt617.2 (bt617.1.length : Int)).bind fun bt622 => ((jq.f k s0_0 bt622.2 24).bind fun bt624 => (if bt624.1 = 0 then ((jE.f k s0_0 bt624.2 (([bt622.1, 9, (-2)] : List Int))).bind fun bt629 => (if 0 ≤ bt622.1 then (if bt622.1 < (bt617.1.length : Int) then (some (bt612.1, (bt617.1.set (bt622.1 : Int).toNat (⟨(ja bt617.1 bt622.1).f0, (ja bt617.1 bt622.1).f1, (ja bt617.1 bt622.1).f2, bt629.1, (ja bt617.1 bt622.1).f4⟩ : S54)), bt629.2)) else (none)) else (none))) else (if bt624.1 = 1 then ((jdb.f k s0_0 bt624.2 bt612.1).bind fun bt632 => (if 0 ≤ bt622.1 then (if bt622.1 < (bt617.1.length : Int) then (some (bt612.1, (bt617.1.set (bt622.1 : Int).toNat (⟨bt632.1, (ja bt617.1 bt622.1).f1, (ja bt617.1 bt622.1).f2, (ja bt617.1 bt622.1).f3, (ja bt617.1 bt622.1).f4⟩ : S54)), bt632.2)) else (none)) else (none))) else (if bt624.1 = 2 then ((jE.f k s0_0 bt624.2 (([(-1), 100] : List Int))).bind fun bt638 => (if 0 ≤ bt622.1 then (if bt622.1 < (bt617.1.length : Int) then (some (bt612.1, (bt617.1.set (bt622.1 : Int).toNat (⟨(ja bt617.1 bt622.1).f0, bt638.1, (ja bt617.1 bt622.1).f2, (ja bt617.1 bt622.1).f3, (ja bt617.1 bt622.1).f4⟩ : S54)), bt638.2)) else (none)) else (none))) else (if bt624.1 = 3 then ((jE.f k s0_0 bt624.2 (([bt622.1, 24, 0] : List Int))).bind fun bt644 => (if 0 ≤ bt622.1 then (if bt622.1 < (bt617.1.length : Int) then (some (bt612.1, (bt617.1.set (bt622.1 : Int).toNat (⟨(ja bt617.1 bt622.1).f0, (ja bt617.1 bt622.1).f1, bt644.1, (ja bt617.1 bt622.1).f3, (ja bt617.1 bt622.1).f4⟩ : S54)), bt644.2)) else (none)) else (none))) else (some (bt612.1, bt617.1, bt624.2)))))))) else (some (bt612.1, bt617.1, bt617.2))))
def jU.T7 : Bool × List (List Nat × List Nat) := (true, [([], []), ([0], [0]), ([], []), ([], []), ([], []), ([4], [4]), ([3, 5], [3, 5]), ([1, 2, 0, 1, 2, 3, 4, 5, 6], [1, 2]), ([7, 0, 1, 2, 3, 4, 5, 6], [7]), ([8, 6, 6, 0, 1, 2, 3, 4, 5, 6], [6, 8])])
def jU.B7 : List Nat := [0, 1, 0, 0, 0, 16, 56, 127, 255, 511]
theorem jU.tab7 : rtab .any (opsOf Try.f61 7) = jU.T7 := by kernel_rfl
theorem jU.bits7 : jFb jU.T7.2 jU.B7 = true := by kernel_rfl
def jU.T9 : Bool × List (List Nat × List Nat) := (true, [([], []), ([0], [0]), ([], []), ([], []), ([], []), ([3, 4], [3, 4]), ([1, 2, 0, 1, 2, 3, 4, 5], [1, 2]), ([6, 0, 1, 2, 3, 4, 5], [6]), ([7, 5, 5, 0, 1, 2, 3, 4, 5], [5, 7])])
def jU.B9 : List Nat := [0, 1, 0, 0, 0, 24, 63, 127, 255]
theorem jU.tab9 : rtab .any (opsOf Try.f61 9) = jU.T9 := by kernel_rfl
theorem jU.bits9 : jFb jU.T9.2 jU.B9 = true := by kernel_rfl
def jU.T11 : Bool × List (List Nat × List Nat) := (true, [([], []), ([0], [0]), ([], []), ([], []), ([], []), ([3, 4], [3, 4]), ([1, 2, 0, 1, 2, 3, 4, 5], [1, 2]), ([6, 0, 1, 2, 3, 4, 5], [6]), ([7, 5, 5, 0, 1, 2, 3, 4, 5], [5, 7])])
def jU.B11 : List Nat := [0, 1, 0, 0, 0, 24, 63, 127, 255]
theorem jU.tab11 : rtab .any (opsOf Try.f61 11) = jU.T11 := by kernel_rfl
theorem jU.bits11 : jFb jU.T11.2 jU.B11 = true := by kernel_rfl
def jU.T13 : Bool × List (List Nat × List Nat) := (true, [([], []), ([0], [0]), ([], []), ([], []), ([], []), ([4], [4]), ([3, 5], [3, 5]), ([1, 2, 0, 1, 2, 3, 4, 5, 6], [1, 2]), ([7, 0, 1, 2, 3, 4, 5, 6], [7]), ([8, 6, 6, 0, 1, 2, 3, 4, 5, 6], [6, 8])])
def jU.B13 : List Nat := [0, 1, 0, 0, 0, 16, 56, 127, 255, 511]
theorem jU.tab13 : rtab .any (opsOf Try.f61 13) = jU.T13 := by kernel_rfl
theorem jU.bits13 : jFb jU.T13.2 jU.B13 = true := by kernel_rfl
set_option maxHeartbeats 8000000 in
set_option maxRecDepth 100000 in
theorem jU.calls (k : Nat) (g : Nat) (s0_0 : List Int) (s0_1 : Int) (r1 : List (S94)) (r2 : List (S54)) (r3 : Int) (w0 w : World) (hI : jg w0 w g s0_0 s0_1) (hB : Below w0.heap.size w0 w) (h : jU.f k s0_0 s0_1 = some (r1, r2, r3)) :
  Calls Try.prog 61 #[.pointer (some ⟨g,0,none⟩)] w fun e w'=>∃ v0_ v1_:Value,e=.returned (.tuple #[.agg #[v0_], .agg #[v1_]])∧Kd.R k94 94 w' w.heap.size (fun _=>True) v0_ r1∧Kd.R k54 54 w' w.heap.size (fun _=>True) v1_ r2∧jg w0 w' g s0_0 r3∧Below w0.heap.size w0 w'∧jh w w' g none:=by
 have hu37:=Try.underlying37
 have hu32:=Try.underlying32
 have HI0:=am hI
 have HK:=am (jh.refl w g none)
 have HL:=am hB.size
 clear hI
 have HW0:=am hB.size
 have HB:=am hB
 clear hB
 have H:((jca.f k s0_0 s0_1).bind fun bt612=>((jv.f k s0_0 bt612.2 bt612.1).bind fun bt617=>(if (bt617.1.length:Int) > 0 then ((jq.f k s0_0 bt617.2 (bt617.1.length:Int)).bind fun bt622=>((jq.f k s0_0 bt622.2 24).bind fun bt624=>(if bt624.1=0 then ((jE.f k s0_0 bt624.2 (([bt622.1,9,(-2)]:List Int))).bind fun bt629=>(if 0≤bt622.1 then (if bt622.1<(bt617.1.length:Int) then (some (bt612.1,(bt617.1.set (bt622.1:Int).toNat (⟨(ja bt617.1 bt622.1).f0,(ja bt617.1 bt622.1).f1,(ja bt617.1 bt622.1).f2,bt629.1,(ja bt617.1 bt622.1).f4⟩:S54)),bt629.2)) else (none)) else (none))) else (if bt624.1=1 then ((jdb.f k s0_0 bt624.2 bt612.1).bind fun bt632=>(if 0≤bt622.1 then (if bt622.1<(bt617.1.length:Int) then (some (bt612.1,(bt617.1.set (bt622.1:Int).toNat (⟨bt632.1,(ja bt617.1 bt622.1).f1,(ja bt617.1 bt622.1).f2,(ja bt617.1 bt622.1).f3,(ja bt617.1 bt622.1).f4⟩:S54)),bt632.2)) else (none)) else (none))) else (if bt624.1=2 then ((jE.f k s0_0 bt624.2 (([(-1),100]:List Int))).bind fun bt638=>(if 0≤bt622.1 then (if bt622.1<(bt617.1.length:Int) then (some (bt612.1,(bt617.1.set (bt622.1:Int).toNat (⟨(ja bt617.1 bt622.1).f0,bt638.1,(ja bt617.1 bt622.1).f2,(ja bt617.1 bt622.1).f3,(ja bt617.1 bt622.1).f4⟩:S54)),bt638.2)) else (none)) else (none))) else (if bt624.1=3 then ((jE.f k s0_0 bt624.2 (([bt622.1,24,0]:List Int))).bind fun bt644=>(if 0≤bt622.1 then (if bt622.1<(bt617.1.length:Int) then (some (bt612.1,(bt617.1.set (bt622.1:Int).toNat (⟨(ja bt617.1 bt622.1).f0,(ja bt617.1 bt622.1).f1,bt644.1,(ja bt617.1 bt622.1).f3,(ja bt617.1 bt622.1).f4⟩:S54)),bt644.2)) else (none)) else (none))) else (some (bt612.1,bt617.1,bt624.2)))))))) else (some (bt612.1,bt617.1,bt617.2)))))=some (r1,r2,r3):=h
 clear h
 replace H:=bzS H
 obtain ⟨⟨t612,t615⟩,A20,H⟩:=H
 replace H:((jv.f k s0_0 t615 t612).bind fun bt617=>(if (bt617.1.length:Int) > 0 then ((jq.f k s0_0 bt617.2 (bt617.1.length:Int)).bind fun bt622=>((jq.f k s0_0 bt622.2 24).bind fun bt624=>(if bt624.1=0 then ((jE.f k s0_0 bt624.2 (([bt622.1,9,(-2)]:List Int))).bind fun bt629=>(if 0≤bt622.1 then (if bt622.1<(bt617.1.length:Int) then (some (t612,(bt617.1.set (bt622.1:Int).toNat (⟨(ja bt617.1 bt622.1).f0,(ja bt617.1 bt622.1).f1,(ja bt617.1 bt622.1).f2,bt629.1,(ja bt617.1 bt622.1).f4⟩:S54)),bt629.2)) else (none)) else (none))) else (if bt624.1=1 then ((jdb.f k s0_0 bt624.2 t612).bind fun bt632=>(if 0≤bt622.1 then (if bt622.1<(bt617.1.length:Int) then (some (t612,(bt617.1.set (bt622.1:Int).toNat (⟨bt632.1,(ja bt617.1 bt622.1).f1,(ja bt617.1 bt622.1).f2,(ja bt617.1 bt622.1).f3,(ja bt617.1 bt622.1).f4⟩:S54)),bt632.2)) else (none)) else (none))) else (if bt624.1=2 then ((jE.f k s0_0 bt624.2 (([(-1),100]:List Int))).bind fun bt638=>(if 0≤bt622.1 then (if bt622.1<(bt617.1.length:Int) then (some (t612,(bt617.1.set (bt622.1:Int).toNat (⟨(ja bt617.1 bt622.1).f0,bt638.1,(ja bt617.1 bt622.1).f2,(ja bt617.1 bt622.1).f3,(ja bt617.1 bt622.1).f4⟩:S54)),bt638.2)) else (none)) else (none))) else (if bt624.1=3 then ((jE.f k s0_0 bt624.2 (([bt622.1,24,0]:List Int))).bind fun bt644=>(if 0≤bt622.1 then (if bt622.1<(bt617.1.length:Int) then (some (t612,(bt617.1.set (bt622.1:Int).toNat (⟨(ja bt617.1 bt622.1).f0,(ja bt617.1 bt622.1).f1,bt644.1,(ja bt617.1 bt622.1).f3,(ja bt617.1 bt622.1).f4⟩:S54)),bt644.2)) else (none)) else (none))) else (some (t612,bt617.1,bt624.2)))))))) else (some (t612,bt617.1,bt617.2))))=some (r1,r2,r3):=H
 have A2:=am A20
 clear A20
 replace H:=bzS H
 obtain ⟨⟨t617,t620⟩,A30,H⟩:=H
 replace H:(if (t617.length:Int) > 0 then ((jq.f k s0_0 t620 (t617.length:Int)).bind fun bt622=>((jq.f k s0_0 bt622.2 24).bind fun bt624=>(if bt624.1=0 then ((jE.f k s0_0 bt624.2 (([bt622.1,9,(-2)]:List Int))).bind fun bt629=>(if 0≤bt622.1 then (if bt622.1<(t617.length:Int) then (some (t612,(t617.set (bt622.1:Int).toNat (⟨(ja t617 bt622.1).f0,(ja t617 bt622.1).f1,(ja t617 bt622.1).f2,bt629.1,(ja t617 bt622.1).f4⟩:S54)),bt629.2)) else (none)) else (none))) else (if bt624.1=1 then ((jdb.f k s0_0 bt624.2 t612).bind fun bt632=>(if 0≤bt622.1 then (if bt622.1<(t617.length:Int) then (some (t612,(t617.set (bt622.1:Int).toNat (⟨bt632.1,(ja t617 bt622.1).f1,(ja t617 bt622.1).f2,(ja t617 bt622.1).f3,(ja t617 bt622.1).f4⟩:S54)),bt632.2)) else (none)) else (none))) else (if bt624.1=2 then ((jE.f k s0_0 bt624.2 (([(-1),100]:List Int))).bind fun bt638=>(if 0≤bt622.1 then (if bt622.1<(t617.length:Int) then (some (t612,(t617.set (bt622.1:Int).toNat (⟨(ja t617 bt622.1).f0,bt638.1,(ja t617 bt622.1).f2,(ja t617 bt622.1).f3,(ja t617 bt622.1).f4⟩:S54)),bt638.2)) else (none)) else (none))) else (if bt624.1=3 then ((jE.f k s0_0 bt624.2 (([bt622.1,24,0]:List Int))).bind fun bt644=>(if 0≤bt622.1 then (if bt622.1<(t617.length:Int) then (some (t612,(t617.set (bt622.1:Int).toNat (⟨(ja t617 bt622.1).f0,(ja t617 bt622.1).f1,bt644.1,(ja t617 bt622.1).f3,(ja t617 bt622.1).f4⟩:S54)),bt644.2)) else (none)) else (none))) else (some (t612,t617,bt624.2)))))))) else (some (t612,t617,t620)))=some (r1,r2,r3):=H
 have A3:=am A30
 clear A30
 by_cases c4:(t617.length:Int) > 0
 ·rw [if_pos c4] at H
  have c4b0:decide (0<(t617.length:Int))=true:=dzT c4
  have c4b1:decide (0<t617.length)=true:=dzT (by omega)
  clear c4
  replace H:=bzS H
  obtain ⟨⟨t622,t623⟩,A50,H⟩:=H
  replace H:((jq.f k s0_0 t623 24).bind fun bt624=>(if bt624.1=0 then ((jE.f k s0_0 bt624.2 (([t622,9,(-2)]:List Int))).bind fun bt629=>(if 0≤t622 then (if t622<(t617.length:Int) then (some (t612,(t617.set (t622:Int).toNat (⟨(ja t617 t622).f0,(ja t617 t622).f1,(ja t617 t622).f2,bt629.1,(ja t617 t622).f4⟩:S54)),bt629.2)) else (none)) else (none))) else (if bt624.1=1 then ((jdb.f k s0_0 bt624.2 t612).bind fun bt632=>(if 0≤t622 then (if t622<(t617.length:Int) then (some (t612,(t617.set (t622:Int).toNat (⟨bt632.1,(ja t617 t622).f1,(ja t617 t622).f2,(ja t617 t622).f3,(ja t617 t622).f4⟩:S54)),bt632.2)) else (none)) else (none))) else (if bt624.1=2 then ((jE.f k s0_0 bt624.2 (([(-1),100]:List Int))).bind fun bt638=>(if 0≤t622 then (if t622<(t617.length:Int) then (some (t612,(t617.set (t622:Int).toNat (⟨(ja t617 t622).f0,bt638.1,(ja t617 t622).f2,(ja t617 t622).f3,(ja t617 t622).f4⟩:S54)),bt638.2)) else (none)) else (none))) else (if bt624.1=3 then ((jE.f k s0_0 bt624.2 (([t622,24,0]:List Int))).bind fun bt644=>(if 0≤t622 then (if t622<(t617.length:Int) then (some (t612,(t617.set (t622:Int).toNat (⟨(ja t617 t622).f0,(ja t617 t622).f1,bt644.1,(ja t617 t622).f3,(ja t617 t622).f4⟩:S54)),bt644.2)) else (none)) else (none))) else (some (t612,t617,bt624.2)))))))=some (r1,r2,r3):=H
  have A5:=am A50
  clear A50
  replace H:=bzS H
  obtain ⟨⟨t624,t625⟩,A60,H⟩:=H
  replace H:(if t624=0 then ((jE.f k s0_0 t625 (([t622,9,(-2)]:List Int))).bind fun bt629=>(if 0≤t622 then (if t622<(t617.length:Int) then (some (t612,(t617.set (t622:Int).toNat (⟨(ja t617 t622).f0,(ja t617 t622).f1,(ja t617 t622).f2,bt629.1,(ja t617 t622).f4⟩:S54)),bt629.2)) else (none)) else (none))) else (if t624=1 then ((jdb.f k s0_0 t625 t612).bind fun bt632=>(if 0≤t622 then (if t622<(t617.length:Int) then (some (t612,(t617.set (t622:Int).toNat (⟨bt632.1,(ja t617 t622).f1,(ja t617 t622).f2,(ja t617 t622).f3,(ja t617 t622).f4⟩:S54)),bt632.2)) else (none)) else (none))) else (if t624=2 then ((jE.f k s0_0 t625 (([(-1),100]:List Int))).bind fun bt638=>(if 0≤t622 then (if t622<(t617.length:Int) then (some (t612,(t617.set (t622:Int).toNat (⟨(ja t617 t622).f0,bt638.1,(ja t617 t622).f2,(ja t617 t622).f3,(ja t617 t622).f4⟩:S54)),bt638.2)) else (none)) else (none))) else (if t624=3 then ((jE.f k s0_0 t625 (([t622,24,0]:List Int))).bind fun bt644=>(if 0≤t622 then (if t622<(t617.length:Int) then (some (t612,(t617.set (t622:Int).toNat (⟨(ja t617 t622).f0,(ja t617 t622).f1,bt644.1,(ja t617 t622).f3,(ja t617 t622).f4⟩:S54)),bt644.2)) else (none)) else (none))) else (some (t612,t617,t625))))))=some (r1,r2,r3):=H
  have A6:=am A60
  clear A60
  by_cases c7:t624=0
  ·rw [if_pos c7] at H
   have c7b0:(t624 == 0)=true:=beq_iff_eq.mpr c7
   have c7b1:(t624 != 0)=false:=bne_eq_false_iff_eq.mpr c7
   clear c7
   obtain ⟨y626,hy626⟩:∃ y_:List Int,y_=(([t622,9,(-2)]:List Int)):=⟨_,rfl⟩
   replace H:((jE.f k s0_0 t625 y626).bind fun bt629=>(if 0≤t622 then (if t622<(t617.length:Int) then (some (t612,(t617.set (t622:Int).toNat (⟨(ja t617 t622).f0,(ja t617 t622).f1,(ja t617 t622).f2,bt629.1,(ja t617 t622).f4⟩:S54)),bt629.2)) else (none)) else (none)))=some (r1,r2,r3):=by first |(rw [hy626];with_reducible exact H) |(have H2_:=(Option.bind_some _ _).symm.trans H;rw [hy626];with_reducible exact H2_) |(have H2_:=(Option.bind_some _ _).symm.trans H;with_reducible exact H2_) | with_reducible exact H |(rw [hy626];exact H) | exact H
   have Ny626:=am hy626
   clear hy626
   replace H:=bzS H
   obtain ⟨⟨t629,t630⟩,A80,H⟩:=H
   replace H:(if 0≤t622 then (if t622<(t617.length:Int) then (some (t612,(t617.set (t622:Int).toNat (⟨(ja t617 t622).f0,(ja t617 t622).f1,(ja t617 t622).f2,t629,(ja t617 t622).f4⟩:S54)),t630)) else (none)) else (none))=some (r1,r2,r3):=H
   have A8:=am A80
   clear A80
   by_cases c9:0≤t622
   ·rw [if_pos c9] at H
    have c9b0:decide (0≤t622)=true:=dzT c9
    clear c9
    by_cases c10:t622<(t617.length:Int)
    ·rw [if_pos c10] at H
     have c10b0:decide (t622<(t617.length:Int))=true:=dzT c10
     clear c10
     obtain ⟨y631,hy631⟩:∃ y_:List (S54),y_=(t617.set (t622:Int).toNat (⟨(ja t617 t622).f0,(ja t617 t622).f1,(ja t617 t622).f2,t629,(ja t617 t622).f4⟩:S54)):=⟨_,rfl⟩
     replace H:(some (t612,y631,t630))=some (r1,r2,r3):=by first |(rw [hy631];with_reducible exact H) |(have H2_:=(Option.bind_some _ _).symm.trans H;rw [hy631];with_reducible exact H2_) |(have H2_:=(Option.bind_some _ _).symm.trans H;with_reducible exact H2_) | with_reducible exact H |(rw [hy631];exact H) | exact H
     have Ny631:=am hy631
     clear hy631
     simp only [Option.some.injEq,Prod.mk.injEq] at H
     obtain ⟨rfl,rfl,rfl⟩:=H
     go_enter Try.func61,Try.ntmps61
     try go_wp2_with (first |((with_reducible refine jI (N:=2) rfl ?_);refine bE (N:=2) (cs:=#[.slice none 0 0]) (t:=37) ?_;intro gb610 hg w12 hbox hb;have BK610:=am (hbox);have GW610:=am ((Y8:w.heap.size≤gb610));have GE610:=am ((Nat.le_trans HW0.out (Y8:w.heap.size≤gb610):w0.heap.size≤gb610));have NB0_610:=am ((Y26:g≠gb610));have NB610_0:=am ((Y27:gb610≠g));replace HK:=am (jh.trans (Y16) (jh.of_below hb g none) (.inl rfl));replace HB:=am (jl (Y17) hb);replace HI0:=am (jg.below (Y15) hb);clear hb hbox hg) |((with_reducible refine jI (N:=3) rfl ?_);refine bE (N:=3) (cs:=#[.slice none 0 0]) (t:=32) ?_;intro gb611 hg w13 hbox hb;have BK611:=am (hbox);have GW611:=am ((Y32:w.heap.size≤gb611));have GE611:=am ((Nat.le_trans HW0.out (Y32:w.heap.size≤gb611):w0.heap.size≤gb611));have NB610_611:=am ((Y20:gb610≠gb611));have NB611_610:=am ((Y21:gb611≠gb610));have NB0_611:=am ((Y65:g≠gb611));have NB611_0:=am ((Y66:gb611≠g));replace BK610:=am (je (g:=gb610) (o:=.cells #[.slice none 0 0] 37 (0,0)) (kq BK610.out) hb);replace HK:=am (jh.trans (Y67) (jh.of_below hb g none) (.inl rfl));replace HB:=am (jl (Y68) hb);replace HI0:=am (jg.below (Y69) hb);clear hb hbox hg) |((with_reducible refine jC (f:=87) rfl ?_);refine gL (some 8) Try.func87 #[.pointer (some ⟨g,0,none⟩)] ?_;(with_reducible refine (jca.calls k g s0_0 s0_1 t612 t615 w0 _ ?side1 ?side2 A2.out).mono ?_);(case side1=>exact Y33);(case side2=>exact Y34);rintro e w14 ⟨v613,rfl,ho0,hi,hb,hk⟩;refine ⟨_,rfl,?_⟩;have HO614:=am (Kd.jla ho0 (jma (w:=w) (g:=g) (row:=none) (Y22)));replace BK610:=am (jh.blk hk (g':=gb610) (o:=.cells #[.slice none 0 0] 37 (0,0)) (kq BK610.out) NB610_0.out (by simp));replace BK611:=am (jh.blk hk (g':=gb611) (o:=.cells #[.slice none 0 0] 32 (0,0)) (kq BK611.out) NB611_0.out (by simp));replace HK:=am (jh.trans (Y22) hk (.inl rfl));replace HB:=am (hb);replace HI0:=am (hi);(try clear hb);(try clear hb2);(try clear hk);(try clear hi);(try clear ho0)) |((with_reducible refine jI (N:=4) rfl ?_);refine bE (N:=4) (cs:=#[.slice none 0 0]) (t:=37) ?_;intro gb616 hg w15 hbox hb;have BK616:=am (hbox);have GW616:=am ((Y35:w.heap.size≤gb616));have GE616:=am ((Nat.le_trans HW0.out (Y35:w.heap.size≤gb616):w0.heap.size≤gb616));have NB610_616:=am ((Y20:gb610≠gb616));have NB616_610:=am ((Y21:gb616≠gb610));have NB611_616:=am ((Y36:gb611≠gb616));have NB616_611:=am ((Y37:gb616≠gb611));have NB0_616:=am ((Y70:g≠gb616));have NB616_0:=am ((Y71:gb616≠g));replace HO614:=am (Kd.jP (rq HO614.out) hb);replace BK610:=am (je (g:=gb610) (o:=.cells #[.slice none 0 0] 37 (0,0)) (kq BK610.out) hb);replace BK611:=am (je (g:=gb611) (o:=.cells #[.slice none 0 0] 32 (0,0)) (kq BK611.out) hb);replace HK:=am (jh.trans (Y22) (jh.of_below hb g none) (.inl rfl));replace HB:=am (jl (Y34) hb);replace HI0:=am (jg.below (Y33) hb);clear hb hbox hg;obtain ⟨Ao16,co16,eo16⟩:=Kd.jaa HO614.out;subst eo16;have hnb17:=NB616_610.out;have hnc17:=NB610_616.out;have hnb18:=NB616_611.out;have hnc18:=NB611_616.out;have hnb19:=NB616_0.out;have hnc19:=NB0_616.out;have hcz20_0:=bc0 BK616.out;have hfz20_0:=jf BK616.out 0) |((with_reducible refine jC (f:=62) rfl ?_);refine gL (some 11) Try.func62 #[.pointer (some ⟨g,0,none⟩), .agg #[.slice Ao16 t612.length co16]] ?_;(with_reducible refine (jv.calls k g s0_0 t615 _ _ t612 t617 t620 w0 _ ?side1 ?side2 ?side3 ?side4 A3.out).mono ?_);(case side1=>exact Y13);(case side2=>exact Y38);(case side3=>exact Kd.jJb (jg.apart (show jg w0 _ g s0_0 t615 from Y13) (Y192) (by decide)) (fun _ h_=>h_.2));(case side4=>exact (Kd.jB HO614.out).2.1);rintro e w21 ⟨v618,rfl,ho0,hi,hb,hk⟩;refine ⟨_,rfl,?_⟩;have HO619:=am (Kd.jla ho0 (jma (w:=w) (g:=g) (row:=none) (Y23)));replace BK610:=am (jh.blk hk (g':=gb610) (o:=.cells #[.slice none 0 0] 37 (0,0)) (Y72) NB610_0.out (by simp));replace BK611:=am (jh.blk hk (g':=gb611) (o:=.cells #[.slice none 0 0] 32 (0,0)) (Y73) NB611_0.out (by simp));replace HO614:=am (Kd.jD (Kd.jqa (jg.apart (show jg w0 _ g s0_0 t615 from Y13) (Y192) (by decide)) hk (fun _ h=>h.2)) (fun _ h=>h.1));replace BK616:=am (jh.blk hk (g':=gb616) (o:=.cells #[.slice Ao16 t612.length co16] 37 (0,0)) (Y74) NB616_0.out (by simp));replace HK:=am (jh.trans (Y23) hk (.inl rfl));replace HB:=am (hb);replace HI0:=am (hi);(try clear hb);(try clear hb2);(try clear hk);(try clear hi);(try clear ho0)) |((with_reducible refine jI (N:=5) rfl ?_);refine bE (N:=5) (cs:=#[.slice none 0 0]) (t:=32) ?_;intro gb621 hg w22 hbox hb;have BK621:=am (hbox);have GW621:=am ((Y39:w.heap.size≤gb621));have GE621:=am ((Nat.le_trans HW0.out (Y39:w.heap.size≤gb621):w0.heap.size≤gb621));have NB610_621:=am ((Y20:gb610≠gb621));have NB621_610:=am ((Y21:gb621≠gb610));have NB611_621:=am ((Y36:gb611≠gb621));have NB621_611:=am ((Y37:gb621≠gb611));have NB616_621:=am ((by rw [hg];exact Nat.ne_of_lt (jV (g:=gb616) (o:=.cells #[.slice Ao16 t612.length co16] 37 (0,0)) (kq BK616.out)):gb616≠gb621));have NB621_616:=am ((by rw [hg];exact Nat.ne_of_gt (jV (g:=gb616) (o:=.cells #[.slice Ao16 t612.length co16] 37 (0,0)) (kq BK616.out)):gb621≠gb616));have NB0_621:=am ((Y75:g≠gb621));have NB621_0:=am ((Y76:gb621≠g));replace HO614:=am (Kd.jP (rq HO614.out) hb);replace HO619:=am (Kd.jP (rq HO619.out) hb);replace BK610:=am (je (g:=gb610) (o:=.cells #[.slice none 0 0] 37 (0,0)) (kq BK610.out) hb);replace BK611:=am (je (g:=gb611) (o:=.cells #[.slice none 0 0] 32 (0,0)) (kq BK611.out) hb);replace BK616:=am (je (g:=gb616) (o:=.cells #[.slice Ao16 t612.length co16] 37 (0,0)) (kq BK616.out) hb);replace HK:=am (jh.trans (Y23) (jh.of_below hb g none) (.inl rfl));replace HB:=am (jl (Y38) hb);replace HI0:=am (jg.below (Y13) hb);clear hb hbox hg;obtain ⟨Ao23,co23,eo23⟩:=Kd.jaa HO619.out;subst eo23;have hnb24:=NB621_610.out;have hnc24:=NB610_621.out;have hnb25:=NB621_611.out;have hnc25:=NB611_621.out;have hnb26:=NB621_616.out;have hnc26:=NB616_621.out;have hnb27:=NB621_0.out;have hnc27:=NB0_621.out;have hcz28_0:=bc0 BK621.out;have hfz28_0:=jf BK621.out 0) |((with_reducible refine jC (f:=88) rfl ?_);refine gL (some 20) Try.func88 #[.pointer (some ⟨g,0,none⟩), .int .i64 (t617.length:Int)] ?_;(with_reducible refine (jq.calls k g s0_0 t620 (t617.length:Int) t622 t623 w0 _ ?side1 ?side2 A5.out).mono ?_);(case side1=>exact Y0);(case side2=>exact Y14);rintro e w29 ⟨rfl,hi,hb,hk⟩;refine ⟨_,rfl,?_⟩;replace BK610:=am (jh.blk hk (g':=gb610) (o:=.cells #[.slice none 0 0] 37 (0,0)) (Y93) NB610_0.out (by simp));replace BK611:=am (jh.blk hk (g':=gb611) (o:=.cells #[.slice none 0 0] 32 (0,0)) (Y94) NB611_0.out (by simp));replace HO614:=am (Kd.jD (Kd.jqa (jg.apart (show jg w0 _ g s0_0 t620 from Y0) (by (with_reducible repeat (first | apply Kd.jL | apply Kd.jM | apply Kd.jN));exact (Kd.jD (Kd.jX (p:=⟨gb621,0,none⟩) (Kd.jJ HO614.out BK621.out (by decide)) (fun _ hk=>hk.2) (.slice Ao23 t617.length co23)) (fun _ h_=>h_.1))) (by decide)) hk (fun _ h=>h.2)) (fun _ h=>h.1));replace BK616:=am (jh.blk hk (g':=gb616) (o:=.cells #[.slice Ao16 t612.length co16] 37 (0,0)) (Y95) NB616_0.out (by simp));replace HO619:=am (Kd.jD (Kd.jqa (jg.apart (show jg w0 _ g s0_0 t620 from Y0) (by (with_reducible repeat (first | apply Kd.jL | apply Kd.jM | apply Kd.jN));exact (Kd.jD (Kd.jX (p:=⟨gb621,0,none⟩) (Kd.jJ HO619.out BK621.out (by decide)) (fun _ hk=>hk.2) (.slice Ao23 t617.length co23)) (fun _ h_=>h_.1))) (by decide)) hk (fun _ h=>h.2)) (fun _ h=>h.1));replace BK621:=am (jh.blk hk (g':=gb621) (o:=.cells #[.slice Ao23 t617.length co23] 32 (0,0)) (Y96) NB621_0.out (by simp));replace HK:=am (jh.trans (Y11) hk (.inl rfl));replace HB:=am (hb);replace HI0:=am (hi);(try clear hb);(try clear hb2);(try clear hk);(try clear hi)) |((with_reducible refine jC (f:=88) rfl ?_);refine gL (some 22) Try.func88 #[.pointer (some ⟨g,0,none⟩), .int .i64 24] ?_;(with_reducible refine (jq.calls k g s0_0 t623 24 t624 t625 w0 _ ?side1 ?side2 A6.out).mono ?_);(case side1=>exact Y0);(case side2=>exact Y14);rintro e w30 ⟨rfl,hi,hb,hk⟩;refine ⟨_,rfl,?_⟩;replace BK610:=am (jh.blk hk (g':=gb610) (o:=.cells #[.slice none 0 0] 37 (0,0)) (kq BK610.out) NB610_0.out (by simp));replace BK611:=am (jh.blk hk (g':=gb611) (o:=.cells #[.slice none 0 0] 32 (0,0)) (kq BK611.out) NB611_0.out (by simp));replace HO614:=am (Kd.jD (Kd.jqa (jg.apart (show jg w0 _ g s0_0 t623 from Y0) (rq HO614.out) (by decide)) hk (fun _ h=>h.2)) (fun _ h=>h.1));replace BK616:=am (jh.blk hk (g':=gb616) (o:=.cells #[.slice Ao16 t612.length co16] 37 (0,0)) (kq BK616.out) NB616_0.out (by simp));replace HO619:=am (Kd.jD (Kd.jqa (jg.apart (show jg w0 _ g s0_0 t623 from Y0) (rq HO619.out) (by decide)) hk (fun _ h=>h.2)) (fun _ h=>h.1));replace BK621:=am (jh.blk hk (g':=gb621) (o:=.cells #[.slice Ao23 t617.length co23] 32 (0,0)) (kq BK621.out) NB621_0.out (by simp));replace HK:=am (jh.trans (Y11) hk (.inl rfl));replace HB:=am (hb);replace HI0:=am (hi);(try clear hb);(try clear hb2);(try clear hk);(try clear hi)))
     replace HO614:=am (Kd.jN HO614.out)
     replace HO619:=am (Kd.jN HO619.out)
     replace BK610:=am (jd BK610.out)
     replace BK611:=am (jd BK611.out)
     replace BK616:=am (jd BK616.out)
     replace BK621:=am (jd BK621.out)
     replace HI0:=am (jg.drew HI0.out)
     replace HK:=am (jka HK.out)
     replace HB:=am (jr HB.out)
     refine jPb (n:=10) (S:=fun w'=>w'.cell? ⟨gb621,0,none⟩=some (.slice Ao23 t617.length co23)) (ds:=[9]) #[false,false,false,false,false,false,false,false,false,false] (by kernel_rfl) rfl rfl ((jH BK621.out 0).trans rfl) (fun hHeld=>?_);refine jvb jU.tab7 jU.bits7 (fun HT_ HW_=>?_)
     generalize w30.drew=w31 at HO614 HO619 BK610 BK611 BK616 BK621 HI0 HK HB hHeld ⊢
     refine pq (i:=0) (N:=some 25) #[true,false,false,false,false,false,false,false,false,false] ?_
     refine pq (i:=2) (N:=some 27) #[true,false,true,false,false,false,false,false,false,false] ?_
     refine pq (i:=3) (N:=some 28) #[true,false,true,true,false,false,false,false,false,false] ?_
     refine pq (i:=4) (N:=some 29) #[true,false,true,true,true,false,false,false,false,false] ?_
     refine jwb (i:=1) (N:=some 26) (v:=?_) (a':=?_) #[true,true,true,true,true,false,false,false,false,false] rfl rfl (jZa HT_.out HW_.out (by kernel_rfl)) (fun _ _ _ h=>h) (Or.inl ⟨by rfl,?_⟩) hHeld ?_ ?_
     rotate_left
     ·intro w' s0
      go_simp
      with_reducible rfl
     rotate_left
     ·exact sa
     refine one_ (i:=5) (N:=some 30) #[true,true,true,true,true,true,false,false,false,false] rfl rfl (jUa HT_.out (by kernel_rfl)) (by decide) (fun K hK=>?_)
     refine Kd.jIb (Kd.int .i64) _ 3 ?hg (N:=30) ?hd (xs:=([t622,9,(-2)]:List Int)) (inner:=[.int .i64 t622, .int .i64 9, .int .i64 (-2)]) (ok:=fun _=>True) (okp:=fun _=>True) ?hr ?hp (fun _ hk=>hk) trivial (Below.refl _ _) (Nat.le_refl _) (by simp) ?_;(case hd=>rfl);(case hg=>rfl);(case hr=>exact Y4);(case hp=>exact (Reps.one (show Kd.M (Kd.int .i64) _ _ _ t622 [.int .i64 t622] from rfl) (Reps.one (show Kd.M (Kd.int .i64) _ _ _ 9 [.int .i64 9] from rfl) (Reps.one (show Kd.M (Kd.int .i64) _ _ _ (-2) [.int .i64 (-2)] from rfl) (Reps.none _ _)))))
     intro v627 w32 ho33 hb hg_ hnew_
     clear hg_ hnew_
     (first | rw [← Ny626.out] at ho33 |(simp only [Int.reduceToNat] at ho33;rw [← Ny626.out] at ho33))
     have HO628:=am (Kd.jla ho33 (jma (w:=w) (g:=g) (row:=none) (Y11)))
     replace HO614:=am (Kd.jP (rq HO614.out) hb)
     replace HO619:=am (Kd.jP (rq HO619.out) hb)
     replace BK610:=am (je (g:=gb610) (o:=.cells #[.slice none 0 0] 37 (0,0)) (kq BK610.out) hb)
     replace BK611:=am (je (g:=gb611) (o:=.cells #[.slice none 0 0] 32 (0,0)) (kq BK611.out) hb)
     replace BK616:=am (je (g:=gb616) (o:=.cells #[.slice Ao16 t612.length co16] 37 (0,0)) (kq BK616.out) hb)
     replace BK621:=am (je (g:=gb621) (o:=.cells #[.slice Ao23 t617.length co23] 32 (0,0)) (kq BK621.out) hb)
     replace HK:=am (jh.trans (Y11) (jh.of_below hb g none) (.inl rfl))
     replace HB:=am (jl (Y14) hb)
     replace HI0:=am (jg.below (Y0) hb)
     clear hb ho33
     obtain ⟨Ao34,co34,eo34⟩:=Kd.jaa HO628.out
     (first | subst eo34 |(injection eo34 with f1_ f2_ f3_;have f4_:=f1_.symm;have f5_:=f3_.symm;clear f1_ f2_ f3_;subst f4_;subst f5_))
     refine hK.out _ _ ((jH BK621.out 0).trans rfl) (fun hHeld=>?_)
     clear hK K
     refine jLb (a':=?_) ?_ ?_
     rotate_left
     ·show Act.put _ (some 30) _=_
      simp only [Act.put,List.setIfInBounds_toArray,List.set_cons_zero,List.set_cons_succ,jjb,job]
      rfl
     refine one_ (i:=6) (N:=some 31) #[true,true,true,true,true,true,true,false,false,false] rfl rfl (jUa HT_.out (by kernel_rfl)) (by decide) (fun K hK=>?_)
     refine goes_ Try.func89 (by kernel_rfl) rfl #[.pointer (some ⟨g,0,none⟩), .slice Ao34 y626.length co34] (by rfl) rfl rfl (aq) ?_
     with_reducible refine (jE.calls k g s0_0 t625 _ _ y626 t629 t630 w0 _ ?side1 ?side2 ?side3 ?side4 ?side5 A8.out).mono ?_
     (case side1=>exact Y0)
     (case side2=>exact Y14)
     (case side3=>exact cq (Kd.jB HO628.out).2.2)
     (case side4=>exact (Kd.jB HO628.out).2.1)
     (case side5=>exact jxb (jg.own_ne HI0.out HO628.out (by decide)))
     rintro e w35 ⟨rfl,hi,hb,hk⟩
     refine ⟨_,rfl,?_⟩
     replace BK610:=am (jh.blk hk (g':=gb610) (o:=.cells #[.slice none 0 0] 37 (0,0)) (kq BK610.out) NB610_0.out (by simp))
     replace BK611:=am (jh.blk hk (g':=gb611) (o:=.cells #[.slice none 0 0] 32 (0,0)) (kq BK611.out) NB611_0.out (by simp))
     replace HO614:=am (Kd.jD (Kd.jqa (jg.apart (show jg w0 _ g s0_0 t625 from Y0) (rq HO614.out) (by decide)) hk (fun _ h=>h.2)) (fun _ h=>h.1))
     replace BK616:=am (jh.blk hk (g':=gb616) (o:=.cells #[.slice Ao16 t612.length co16] 37 (0,0)) (kq BK616.out) NB616_0.out (by simp))
     replace HO619:=am (Kd.jD (Kd.jqa (jg.apart (show jg w0 _ g s0_0 t625 from Y0) (rq HO619.out) (by decide)) hk (fun _ h=>h.2)) (fun _ h=>h.1))
     replace BK621:=am (jh.blk hk (g':=gb621) (o:=.cells #[.slice Ao23 t617.length co23] 32 (0,0)) (kq BK621.out) NB621_0.out (by simp))
     replace HO628:=am (Kd.jD (Kd.jqa (jg.apart (show jg w0 _ g s0_0 t625 from Y0) (rq HO628.out) (by decide)) hk (fun _ h=>h.2)) (fun _ h=>h.1))
     replace HK:=am (jh.trans (Y11) hk (.inl rfl))
     replace HB:=am (hb)
     replace HI0:=am (hi)
     (try clear hb)
     (try clear hb2)
     (try clear hk)
     (try clear hi)
     have p11:0≤(t622:Int):=ozD (uq)
     have q11:(t622:Int)<((t617.length:Int):Int):=ozD (uq)
     obtain ⟨go11,co11,eo11,gb11,gl11,cl11,HG11⟩:=Kd.R_form HO619.out (by omega)
     (first | cases eo11 |(injection eo11 with ea_ en_ ec_;(first | subst ea_ |(injection ea_ with ea_;subst ea_));subst ec_;clear en_))
     have GB11:=am gb11
     have GG11:=am HG11
     clear gb11 gl11 HG11
     obtain ⟨ce11,hcl11,hM11,hcc11,hfr11⟩:=Kd.jub HO619.out z54 (t622:Int) p11 q11
     obtain rfl:=jQa hM11
     have hx11_0:World.cell? _ ⟨go11,(t622:Int).toNat * 5,none⟩=some (.int .i64 ((ja t617 t622).f0)):=hcc11 0 _ rfl
     have hx11_1:World.cell? _ ⟨go11,(t622:Int).toNat * 5+1,none⟩=some (.int .i64 ((ja t617 t622).f1)):=hcc11 1 _ rfl
     have hx11_2:World.cell? _ ⟨go11,(t622:Int).toNat * 5+2,none⟩=some (.int .i64 ((ja t617 t622).f2)):=hcc11 2 _ rfl
     have hx11_3:World.cell? _ ⟨go11,(t622:Int).toNat * 5+3,none⟩=some (.int .i64 ((ja t617 t622).f3)):=hcc11 3 _ rfl
     have hx11_4:World.cell? _ ⟨go11,(t622:Int).toNat * 5+4,none⟩=some (.bool ((ja t617 t622).f4)):=hcc11 4 _ rfl
     have hf11_0:World.frozen? _ ⟨go11,(t622:Int).toNat * 5,none⟩=false:=hfr11 0
     have hf11_1:World.frozen? _ ⟨go11,(t622:Int).toNat * 5+1,none⟩=false:=hfr11 1
     have hf11_2:World.frozen? _ ⟨go11,(t622:Int).toNat * 5+2,none⟩=false:=hfr11 2
     have hf11_3:World.frozen? _ ⟨go11,(t622:Int).toNat * 5+3,none⟩=false:=hfr11 3
     have hf11_4:World.frozen? _ ⟨go11,(t622:Int).toNat * 5+4,none⟩=false:=hfr11 4
     clear hcl11 hcc11 hfr11 hM11
     replace p11:=ezT p11
     replace q11:=ezT q11
     have HN0_go11:=am (show g≠go11 from by have h_:=jg.own_ne HI0.out HO619.out (by decide);intro e_;exact h_ (by rw [e_];rfl))
     obtain ⟨ce36,hcl36,hM36,hcc36,hfr36⟩:=Kd.jub HO619.out z54 (t622:Int) (ozD (uq)) (by have h_:(t622:Int)<((t617.length:Int):Int):=ozD (uq);first | exact h_ |(have e_:=(Kd.jB HO619.out).1;omega) | simpa using h_)
     obtain rfl:=jQa hM36
     have HP36:=(Kd.R_seg HO619.out (t622:Int) (ozD (uq)) (by have h_:(t622:Int)<((t617.length:Int):Int):=ozD (uq);first | exact h_ |(have e_:=(Kd.jB HO619.out).1;omega) | simpa using h_) (seg:=[.int .i64 t629]) (j:=3) hcl36 hcc36 (show 4≤5 from by decide) (x':=(⟨(ja t617 t622).f0,(ja t617 t622).f1,(ja t617 t622).f2,t629,(ja t617 t622).f4⟩:S54)) (jGb _ _ _ (⟨(ja t617 t622).f0,(ja t617 t622).f1,(ja t617 t622).f2,t629,(ja t617 t622).f4⟩:S54) ) (fun _ hk=>hk)).1
     rw [← Ny631.out] at HP36
     have HQ36:=am HP36
     clear hcl36 hcc36 hfr36 hM36 HP36
     refine hK.out _ _ ((jH BK621.out 0).trans rfl) (fun hHeld=>?_)
     clear hK K
     refine jLb (a':=?_) ?_ ?_
     rotate_left
     ·show Act.put _ (some 31) _=_
      simp only [Act.put,List.setIfInBounds_toArray,List.set_cons_zero,List.set_cons_succ,jjb,job]
      rfl
     refine pq (i:=7) (N:=some 32) #[true,true,true,true,true,true,true,true,false,false] ?_
     refine pq (i:=8) (N:=some 33) #[true,true,true,true,true,true,true,true,true,false] ?_
     refine last_ (i:=9) (N:=none) #[true,true,true,true,true,true,true,true,true,true] rfl rfl (jUa HT_.out (by kernel_rfl)) (by decide) (fun K hK=>?_)
     refine jQb (w1:=?_) (by rfl) rfl ?_ ?_
     rotate_left
     ·go_simp
      rfl
     refine hK.out _ _ ?_
     clear hK K
     refine done_ (jWb HT_.out (by kernel_rfl)) ?_
     have n0_:jw (Kd.R k94 94 (w35.setCell ⟨go11,(t622:Int).toNat * 5+3,none⟩ (.int .i64 t629)) w.heap.size (fun _=>True) (.slice Ao16 t612.length co16) t612):=⟨by (with_reducible repeat (first | apply Kd.jL | apply Kd.jM | apply Kd.jN));exact Kd.jD (Kd.jX (p:=⟨go11,(t622:Int).toNat * 5+3,none⟩) (Kd.jJ HO614.out GG11.out (by decide)) (fun _ hk=>hk.2) (.int .i64 t629)) (fun _ hk=>trivial)⟩
     have n1_:jw (Kd.R k54 54 (w35.setCell ⟨go11,(t622:Int).toNat * 5+3,none⟩ (.int .i64 t629)) w.heap.size (fun _=>True) (.slice (some ⟨go11,0,none⟩) t617.length co23) y631):=⟨rq HQ36.out⟩
     have n2_:jw (Kd.R (Kd.int .i64) 3 (w35.setCell ⟨go11,(t622:Int).toNat * 5+3,none⟩ (.int .i64 t629)) w.heap.size (fun _=>True) (.slice Ao34 y626.length co34) y626):=⟨by (with_reducible repeat (first | apply Kd.jL | apply Kd.jM | apply Kd.jN));exact Kd.jD (Kd.jX (p:=⟨go11,(t622:Int).toNat * 5+3,none⟩) (Kd.jJ HO628.out GG11.out (by decide)) (fun _ hk=>hk.2) (.int .i64 t629)) (fun _ hk=>trivial)⟩
     have n3_:jw ((w35.setCell ⟨go11,(t622:Int).toNat * 5+3,none⟩ (.int .i64 t629)).heap[gb610]?=some (.cells #[.slice none 0 0] 37 (0,0))):=⟨by (with_reducible repeat (first | refine jb ?_ _ | refine jd ?_ | refine jc ?_ _));refine jA ?_ (by have h_:=Kd.R_ne HO619.out BK610.out (by decide);intro e_;exact h_ (by rw [e_];rfl)) _;(with_reducible repeat (first | refine jb ?_ _ | refine jd ?_ | refine jc ?_ _));exact BK610.out⟩
     have n4_:jw ((w35.setCell ⟨go11,(t622:Int).toNat * 5+3,none⟩ (.int .i64 t629)).heap[gb611]?=some (.cells #[.slice none 0 0] 32 (0,0))):=⟨by (with_reducible repeat (first | refine jb ?_ _ | refine jd ?_ | refine jc ?_ _));refine jA ?_ (by have h_:=Kd.R_ne HO619.out BK611.out (by decide);intro e_;exact h_ (by rw [e_];rfl)) _;(with_reducible repeat (first | refine jb ?_ _ | refine jd ?_ | refine jc ?_ _));exact BK611.out⟩
     have n5_:jw ((w35.setCell ⟨go11,(t622:Int).toNat * 5+3,none⟩ (.int .i64 t629)).heap[gb616]?=some (.cells #[.slice Ao16 t612.length co16] 37 (0,0))):=⟨by (with_reducible repeat (first | refine jb ?_ _ | refine jd ?_ | refine jc ?_ _));refine jA ?_ (by have h_:=Kd.R_ne HO619.out BK616.out (by decide);intro e_;exact h_ (by rw [e_];rfl)) _;(with_reducible repeat (first | refine jb ?_ _ | refine jd ?_ | refine jc ?_ _));exact BK616.out⟩
     have n6_:jw ((w35.setCell ⟨go11,(t622:Int).toNat * 5+3,none⟩ (.int .i64 t629)).heap[gb621]?=some (.cells #[.slice (some ⟨go11,0,none⟩) t617.length co23] 32 (0,0))):=⟨by (with_reducible repeat (first | refine jb ?_ _ | refine jd ?_ | refine jc ?_ _));refine jA ?_ (by have h_:=Kd.R_ne HO619.out BK621.out (by decide);intro e_;exact h_ (by rw [e_];rfl)) _;(with_reducible repeat (first | refine jb ?_ _ | refine jd ?_ | refine jc ?_ _));exact BK621.out⟩
     have n7_:jw (jg w0 (w35.setCell ⟨go11,(t622:Int).toNat * 5+3,none⟩ (.int .i64 t629)) g s0_0 t630):=⟨by repeat (first |(with_reducible first | exact HI0.out | apply jg.alloc | apply jg.drewN | apply jg.drew | apply jg.jmb | refine jg.far ?_ HN0_go11.out _ | refine jg.far ?_ NB0_610.out _ | refine jg.far ?_ NB0_611.out _ | refine jg.far ?_ NB0_616.out _ | refine jg.far ?_ NB0_621.out _) | exact HI0.out)⟩
     have n8_:jw (jh w (w35.setCell ⟨go11,(t622:Int).toNat * 5+3,none⟩ (.int .i64 t629)) g none):=⟨by repeat (first |(with_reducible first | exact HK.out | apply jh.set_ | apply jAa | apply jka | apply jBa | refine jba ?_ GB11.out _ | refine jba ?_ GW610.out _ | refine jba ?_ GW611.out _ | refine jba ?_ GW616.out _ | refine jba ?_ GW621.out _) | exact HK.out)⟩
     have n9_:jw (Below w0.heap.size w0 (w35.setCell ⟨go11,(t622:Int).toNat * 5+3,none⟩ (.int .i64 t629))):=⟨by repeat (first |(with_reducible first | exact HB.out | apply jy | apply jo | apply jr | refine jk ?_ (Nat.le_trans HL.out GB11.out) | refine jk ?_ (jg.ge HI0.out) | refine jk ?_ GE610.out | refine jk ?_ GE611.out | refine jk ?_ GE616.out | refine jk ?_ GE621.out) | exact HB.out)⟩
     (try clear HO614)
     (try clear HO619)
     (try clear HO628)
     (try clear BK610)
     (try clear BK611)
     (try clear BK616)
     (try clear BK621)
     (try clear HI0)
     (try clear HK)
     (try clear HB)
     generalize (w35.setCell ⟨go11,(t622:Int).toNat * 5+3,none⟩ (.int .i64 t629))=w37 at n0_ n1_ n2_ n3_ n4_ n5_ n6_ n7_ n8_ n9_ ⊢
     have HO614:=n0_
     have HO619:=n1_
     have HO628:=n2_
     have BK610:=n3_
     have BK611:=n4_
     have BK616:=n5_
     have BK621:=n6_
     have HI0:=n7_
     have HK:=n8_
     have HB:=n9_
     clear n0_ n1_ n2_ n3_ n4_ n5_ n6_ n7_ n8_ n9_
     try go_wp2
     replace HO614:=am (Kd.jN HO614.out)
     replace HO619:=am (Kd.jN HO619.out)
     replace HO628:=am (Kd.jN HO628.out)
     replace BK610:=am (jd BK610.out)
     replace BK611:=am (jd BK611.out)
     replace BK616:=am (jd BK616.out)
     replace BK621:=am (jd BK621.out)
     replace HI0:=am (jg.drew HI0.out)
     replace HK:=am (jka HK.out)
     replace HB:=am (jr HB.out)
     refine jPb (n:=4) (S:=fun w'=>w'.cell? ⟨gb616,0,none⟩=some (.slice Ao16 t612.length co16)∧w'.cell? ⟨gb621,0,none⟩=some (.slice (some ⟨go11,0,none⟩) t617.length co23)) (ds:=[]) #[false,false,false,false] (by kernel_rfl) rfl rfl ⟨(jH BK616.out 0).trans rfl,(jH BK621.out 0).trans rfl⟩ (fun hHeld=>?_)
     generalize w37.drew=w38 at HO614 HO619 HO628 BK610 BK611 BK616 BK621 HI0 HK HB hHeld ⊢
     refine jwb (i:=0) (N:=some 65) (v:=?_) (a':=?_) #[true,false,false,false] rfl rfl (by kernel_rfl) (fun _ _ _ h=>h) (Or.inl ⟨by rfl,?_⟩) hHeld ?_ ?_
     rotate_left
     ·rintro w' ⟨s0,s1⟩
      go_simp
      with_reducible rfl
     rotate_left
     ·exact sa
     refine jwb (i:=1) (N:=some 66) (v:=?_) (a':=?_) #[true,true,false,false] rfl rfl (by kernel_rfl) (fun _ _ _ h=>h) (Or.inl ⟨by rfl,?_⟩) hHeld ?_ ?_
     rotate_left
     ·rintro w' ⟨s0,s1⟩
      go_simp
      with_reducible rfl
     rotate_left
     ·exact sa
     refine one_ (i:=2) (N:=none) #[true,true,true,false] rfl rfl (by kernel_rfl) (by decide) (fun K hK=>?_)
     have hs39:w38.cell? ⟨gb610,0,none⟩=some (.slice none 0 0):=(jH BK610.out 0).trans rfl
     have hfs39:=jf BK610.out 0
     have hns39_1:=NB611_610.out
     have hns39_2:=NB616_610.out
     have hns39_3:=NB621_610.out
     have hms39_1:=NB610_611.out
     have hms39_2:=NB610_616.out
     have hms39_3:=NB610_621.out
     refine jQb (w1:=?_) (by rfl) rfl ?_ ?_
     rotate_left
     ·go_simp
      rfl
     refine hK.out _ _ ⟨((cell_far (p:=⟨gb610,_,none⟩) NB616_610.out _).trans (hHeld.1)),((cell_far (p:=⟨gb610,_,none⟩) NB621_610.out _).trans (hHeld.2))⟩ (fun hHeld=>?_)
     clear hK K
     refine one_ (i:=3) (N:=none) #[true,true,true,true] rfl rfl (by kernel_rfl) (by decide) (fun K hK=>?_)
     have hs40:w38.cell? ⟨gb611,0,none⟩=some (.slice none 0 0):=(jH BK611.out 0).trans rfl
     have hfs40:=jf BK611.out 0
     have hns40_0:=NB610_611.out
     have hns40_2:=NB616_611.out
     have hns40_3:=NB621_611.out
     have hms40_0:=NB611_610.out
     have hms40_2:=NB611_616.out
     have hms40_3:=NB611_621.out
     refine jQb (w1:=?_) (by rfl) rfl ?_ ?_
     rotate_left
     ·go_simp
      rfl
     refine hK.out _ _ ⟨((cell_far (p:=⟨gb611,_,none⟩) NB616_611.out _).trans (hHeld.1)),((cell_far (p:=⟨gb611,_,none⟩) NB621_611.out _).trans (hHeld.2))⟩ (fun hHeld=>?_)
     clear hK K
     refine done_ (by kernel_rfl) ?_
     try go_wp2
     refine bodyPost_ret (jTb rfl _ _ gb610 gb611 37 32 #[.slice Ao16 t612.length co16] #[.slice (some ⟨go11,0,none⟩) t617.length co23] (0,0) (0,0) _ _ rfl (Y77) Try.underlying37 rfl (by kernel_rfl) rfl (Y78) Try.underlying32 rfl (by kernel_rfl)) rfl ?_
     exact ⟨_,_,Y2,by (with_reducible repeat (first | apply Kd.jL | apply Kd.jM | apply Kd.jN));exact Kd.jD (Kd.jX (p:=⟨gb611,0,none⟩) (Kd.jX (p:=⟨gb610,0,none⟩) (Kd.jJ (Kd.jJ HO614.out BK610.out (by decide)) BK611.out (by decide)) (fun _ hk=>hk.1.2) (.slice Ao16 t612.length co16)) (fun _ hk=>hk.2) (.slice (some ⟨go11,0,none⟩) t617.length co23)) (fun _ hk=>trivial),by (with_reducible repeat (first | apply Kd.jL | apply Kd.jM | apply Kd.jN));exact Kd.jD (Kd.jX (p:=⟨gb611,0,none⟩) (Kd.jX (p:=⟨gb610,0,none⟩) (Kd.jJ (Kd.jJ HO619.out BK610.out (by decide)) BK611.out (by decide)) (fun _ hk=>hk.1.2) (.slice Ao16 t612.length co16)) (fun _ hk=>hk.2) (.slice (some ⟨go11,0,none⟩) t617.length co23)) (fun _ hk=>trivial),Y0,Y14,Y11⟩
    ·rw [if_neg c10] at H
     exact absurd H (by simp)
   ·rw [if_neg c9] at H
    exact absurd H (by simp)
  ·rw [if_neg c7] at H
   have c7b0:(t624 == 0)=false:=beq_eq_false_iff_ne.mpr c7
   have c7b1:(t624 != 0)=true:=bne_iff_ne.mpr c7
   by_cases c41:t624=1
   ·rw [if_pos c41] at H
    have c41b0:(t624 == 1)=true:=beq_iff_eq.mpr c41
    have c41b1:(t624 != 1)=false:=bne_eq_false_iff_eq.mpr c41
    clear c41
    replace H:=bzS H
    obtain ⟨⟨t632,t633⟩,A420,H⟩:=H
    replace H:(if 0≤t622 then (if t622<(t617.length:Int) then (some (t612,(t617.set (t622:Int).toNat (⟨t632,(ja t617 t622).f1,(ja t617 t622).f2,(ja t617 t622).f3,(ja t617 t622).f4⟩:S54)),t633)) else (none)) else (none))=some (r1,r2,r3):=H
    have A42:=am A420
    clear A420
    by_cases c43:0≤t622
    ·rw [if_pos c43] at H
     have c43b0:decide (0≤t622)=true:=dzT c43
     clear c43
     by_cases c44:t622<(t617.length:Int)
     ·rw [if_pos c44] at H
      have c44b0:decide (t622<(t617.length:Int))=true:=dzT c44
      clear c44
      obtain ⟨y634,hy634⟩:∃ y_:List (S54),y_=(t617.set (t622:Int).toNat (⟨t632,(ja t617 t622).f1,(ja t617 t622).f2,(ja t617 t622).f3,(ja t617 t622).f4⟩:S54)):=⟨_,rfl⟩
      replace H:(some (t612,y634,t633))=some (r1,r2,r3):=by first |(rw [hy634];with_reducible exact H) |(have H2_:=(Option.bind_some _ _).symm.trans H;rw [hy634];with_reducible exact H2_) |(have H2_:=(Option.bind_some _ _).symm.trans H;with_reducible exact H2_) | with_reducible exact H |(rw [hy634];exact H) | exact H
      have Ny634:=am hy634
      clear hy634
      simp only [Option.some.injEq,Prod.mk.injEq] at H
      obtain ⟨rfl,rfl,rfl⟩:=H
      go_enter Try.func61,Try.ntmps61
      try go_wp2_with (first |((with_reducible refine jI (N:=2) rfl ?_);refine bE (N:=2) (cs:=#[.slice none 0 0]) (t:=37) ?_;intro gb610 hg w46 hbox hb;have BK610:=am (hbox);have GW610:=am ((Y8:w.heap.size≤gb610));have GE610:=am ((Nat.le_trans HW0.out (Y8:w.heap.size≤gb610):w0.heap.size≤gb610));have NB0_610:=am ((Y26:g≠gb610));have NB610_0:=am ((Y27:gb610≠g));replace HK:=am (jh.trans (Y16) (jh.of_below hb g none) (.inl rfl));replace HB:=am (jl (Y17) hb);replace HI0:=am (jg.below (Y15) hb);clear hb hbox hg) |((with_reducible refine jI (N:=3) rfl ?_);refine bE (N:=3) (cs:=#[.slice none 0 0]) (t:=32) ?_;intro gb611 hg w47 hbox hb;have BK611:=am (hbox);have GW611:=am ((Y32:w.heap.size≤gb611));have GE611:=am ((Nat.le_trans HW0.out (Y32:w.heap.size≤gb611):w0.heap.size≤gb611));have NB610_611:=am ((Y20:gb610≠gb611));have NB611_610:=am ((Y21:gb611≠gb610));have NB0_611:=am ((Y65:g≠gb611));have NB611_0:=am ((Y66:gb611≠g));replace BK610:=am (je (g:=gb610) (o:=.cells #[.slice none 0 0] 37 (0,0)) (kq BK610.out) hb);replace HK:=am (jh.trans (Y67) (jh.of_below hb g none) (.inl rfl));replace HB:=am (jl (Y68) hb);replace HI0:=am (jg.below (Y69) hb);clear hb hbox hg) |((with_reducible refine jC (f:=87) rfl ?_);refine gL (some 8) Try.func87 #[.pointer (some ⟨g,0,none⟩)] ?_;(with_reducible refine (jca.calls k g s0_0 s0_1 t612 t615 w0 _ ?side1 ?side2 A2.out).mono ?_);(case side1=>exact Y33);(case side2=>exact Y34);rintro e w48 ⟨v613,rfl,ho0,hi,hb,hk⟩;refine ⟨_,rfl,?_⟩;have HO614:=am (Kd.jla ho0 (jma (w:=w) (g:=g) (row:=none) (Y22)));replace BK610:=am (jh.blk hk (g':=gb610) (o:=.cells #[.slice none 0 0] 37 (0,0)) (kq BK610.out) NB610_0.out (by simp));replace BK611:=am (jh.blk hk (g':=gb611) (o:=.cells #[.slice none 0 0] 32 (0,0)) (kq BK611.out) NB611_0.out (by simp));replace HK:=am (jh.trans (Y22) hk (.inl rfl));replace HB:=am (hb);replace HI0:=am (hi);(try clear hb);(try clear hb2);(try clear hk);(try clear hi);(try clear ho0)) |((with_reducible refine jI (N:=4) rfl ?_);refine bE (N:=4) (cs:=#[.slice none 0 0]) (t:=37) ?_;intro gb616 hg w49 hbox hb;have BK616:=am (hbox);have GW616:=am ((Y35:w.heap.size≤gb616));have GE616:=am ((Nat.le_trans HW0.out (Y35:w.heap.size≤gb616):w0.heap.size≤gb616));have NB610_616:=am ((Y20:gb610≠gb616));have NB616_610:=am ((Y21:gb616≠gb610));have NB611_616:=am ((Y36:gb611≠gb616));have NB616_611:=am ((Y37:gb616≠gb611));have NB0_616:=am ((Y70:g≠gb616));have NB616_0:=am ((Y71:gb616≠g));replace HO614:=am (Kd.jP (rq HO614.out) hb);replace BK610:=am (je (g:=gb610) (o:=.cells #[.slice none 0 0] 37 (0,0)) (kq BK610.out) hb);replace BK611:=am (je (g:=gb611) (o:=.cells #[.slice none 0 0] 32 (0,0)) (kq BK611.out) hb);replace HK:=am (jh.trans (Y22) (jh.of_below hb g none) (.inl rfl));replace HB:=am (jl (Y34) hb);replace HI0:=am (jg.below (Y33) hb);clear hb hbox hg;obtain ⟨Ao50,co50,eo50⟩:=Kd.jaa HO614.out;subst eo50;have hnb51:=NB616_610.out;have hnc51:=NB610_616.out;have hnb52:=NB616_611.out;have hnc52:=NB611_616.out;have hnb53:=NB616_0.out;have hnc53:=NB0_616.out;have hcz54_0:=bc0 BK616.out;have hfz54_0:=jf BK616.out 0) |((with_reducible refine jC (f:=62) rfl ?_);refine gL (some 11) Try.func62 #[.pointer (some ⟨g,0,none⟩), .agg #[.slice Ao50 t612.length co50]] ?_;(with_reducible refine (jv.calls k g s0_0 t615 _ _ t612 t617 t620 w0 _ ?side1 ?side2 ?side3 ?side4 A3.out).mono ?_);(case side1=>exact Y13);(case side2=>exact Y38);(case side3=>exact Kd.jJb (jg.apart (show jg w0 _ g s0_0 t615 from Y13) (Y193) (by decide)) (fun _ h_=>h_.2));(case side4=>exact (Kd.jB HO614.out).2.1);rintro e w55 ⟨v618,rfl,ho0,hi,hb,hk⟩;refine ⟨_,rfl,?_⟩;have HO619:=am (Kd.jla ho0 (jma (w:=w) (g:=g) (row:=none) (Y23)));replace BK610:=am (jh.blk hk (g':=gb610) (o:=.cells #[.slice none 0 0] 37 (0,0)) (Y72) NB610_0.out (by simp));replace BK611:=am (jh.blk hk (g':=gb611) (o:=.cells #[.slice none 0 0] 32 (0,0)) (Y73) NB611_0.out (by simp));replace HO614:=am (Kd.jD (Kd.jqa (jg.apart (show jg w0 _ g s0_0 t615 from Y13) (Y193) (by decide)) hk (fun _ h=>h.2)) (fun _ h=>h.1));replace BK616:=am (jh.blk hk (g':=gb616) (o:=.cells #[.slice Ao50 t612.length co50] 37 (0,0)) (Y74) NB616_0.out (by simp));replace HK:=am (jh.trans (Y23) hk (.inl rfl));replace HB:=am (hb);replace HI0:=am (hi);(try clear hb);(try clear hb2);(try clear hk);(try clear hi);(try clear ho0)) |((with_reducible refine jI (N:=5) rfl ?_);refine bE (N:=5) (cs:=#[.slice none 0 0]) (t:=32) ?_;intro gb621 hg w56 hbox hb;have BK621:=am (hbox);have GW621:=am ((Y39:w.heap.size≤gb621));have GE621:=am ((Nat.le_trans HW0.out (Y39:w.heap.size≤gb621):w0.heap.size≤gb621));have NB610_621:=am ((Y20:gb610≠gb621));have NB621_610:=am ((Y21:gb621≠gb610));have NB611_621:=am ((Y36:gb611≠gb621));have NB621_611:=am ((Y37:gb621≠gb611));have NB616_621:=am ((by rw [hg];exact Nat.ne_of_lt (jV (g:=gb616) (o:=.cells #[.slice Ao50 t612.length co50] 37 (0,0)) (kq BK616.out)):gb616≠gb621));have NB621_616:=am ((by rw [hg];exact Nat.ne_of_gt (jV (g:=gb616) (o:=.cells #[.slice Ao50 t612.length co50] 37 (0,0)) (kq BK616.out)):gb621≠gb616));have NB0_621:=am ((Y75:g≠gb621));have NB621_0:=am ((Y76:gb621≠g));replace HO614:=am (Kd.jP (rq HO614.out) hb);replace HO619:=am (Kd.jP (rq HO619.out) hb);replace BK610:=am (je (g:=gb610) (o:=.cells #[.slice none 0 0] 37 (0,0)) (kq BK610.out) hb);replace BK611:=am (je (g:=gb611) (o:=.cells #[.slice none 0 0] 32 (0,0)) (kq BK611.out) hb);replace BK616:=am (je (g:=gb616) (o:=.cells #[.slice Ao50 t612.length co50] 37 (0,0)) (kq BK616.out) hb);replace HK:=am (jh.trans (Y23) (jh.of_below hb g none) (.inl rfl));replace HB:=am (jl (Y38) hb);replace HI0:=am (jg.below (Y13) hb);clear hb hbox hg;obtain ⟨Ao57,co57,eo57⟩:=Kd.jaa HO619.out;subst eo57;have hnb58:=NB621_610.out;have hnc58:=NB610_621.out;have hnb59:=NB621_611.out;have hnc59:=NB611_621.out;have hnb60:=NB621_616.out;have hnc60:=NB616_621.out;have hnb61:=NB621_0.out;have hnc61:=NB0_621.out;have hcz62_0:=bc0 BK621.out;have hfz62_0:=jf BK621.out 0) |((with_reducible refine jC (f:=88) rfl ?_);refine gL (some 20) Try.func88 #[.pointer (some ⟨g,0,none⟩), .int .i64 (t617.length:Int)] ?_;(with_reducible refine (jq.calls k g s0_0 t620 (t617.length:Int) t622 t623 w0 _ ?side1 ?side2 A5.out).mono ?_);(case side1=>exact Y0);(case side2=>exact Y14);rintro e w63 ⟨rfl,hi,hb,hk⟩;refine ⟨_,rfl,?_⟩;replace BK610:=am (jh.blk hk (g':=gb610) (o:=.cells #[.slice none 0 0] 37 (0,0)) (Y93) NB610_0.out (by simp));replace BK611:=am (jh.blk hk (g':=gb611) (o:=.cells #[.slice none 0 0] 32 (0,0)) (Y94) NB611_0.out (by simp));replace HO614:=am (Kd.jD (Kd.jqa (jg.apart (show jg w0 _ g s0_0 t620 from Y0) (by (with_reducible repeat (first | apply Kd.jL | apply Kd.jM | apply Kd.jN));exact (Kd.jD (Kd.jX (p:=⟨gb621,0,none⟩) (Kd.jJ HO614.out BK621.out (by decide)) (fun _ hk=>hk.2) (.slice Ao57 t617.length co57)) (fun _ h_=>h_.1))) (by decide)) hk (fun _ h=>h.2)) (fun _ h=>h.1));replace BK616:=am (jh.blk hk (g':=gb616) (o:=.cells #[.slice Ao50 t612.length co50] 37 (0,0)) (Y95) NB616_0.out (by simp));replace HO619:=am (Kd.jD (Kd.jqa (jg.apart (show jg w0 _ g s0_0 t620 from Y0) (by (with_reducible repeat (first | apply Kd.jL | apply Kd.jM | apply Kd.jN));exact (Kd.jD (Kd.jX (p:=⟨gb621,0,none⟩) (Kd.jJ HO619.out BK621.out (by decide)) (fun _ hk=>hk.2) (.slice Ao57 t617.length co57)) (fun _ h_=>h_.1))) (by decide)) hk (fun _ h=>h.2)) (fun _ h=>h.1));replace BK621:=am (jh.blk hk (g':=gb621) (o:=.cells #[.slice Ao57 t617.length co57] 32 (0,0)) (Y96) NB621_0.out (by simp));replace HK:=am (jh.trans (Y11) hk (.inl rfl));replace HB:=am (hb);replace HI0:=am (hi);(try clear hb);(try clear hb2);(try clear hk);(try clear hi)) |((with_reducible refine jC (f:=88) rfl ?_);refine gL (some 22) Try.func88 #[.pointer (some ⟨g,0,none⟩), .int .i64 24] ?_;(with_reducible refine (jq.calls k g s0_0 t623 24 t624 t625 w0 _ ?side1 ?side2 A6.out).mono ?_);(case side1=>exact Y0);(case side2=>exact Y14);rintro e w64 ⟨rfl,hi,hb,hk⟩;refine ⟨_,rfl,?_⟩;replace BK610:=am (jh.blk hk (g':=gb610) (o:=.cells #[.slice none 0 0] 37 (0,0)) (kq BK610.out) NB610_0.out (by simp));replace BK611:=am (jh.blk hk (g':=gb611) (o:=.cells #[.slice none 0 0] 32 (0,0)) (kq BK611.out) NB611_0.out (by simp));replace HO614:=am (Kd.jD (Kd.jqa (jg.apart (show jg w0 _ g s0_0 t623 from Y0) (rq HO614.out) (by decide)) hk (fun _ h=>h.2)) (fun _ h=>h.1));replace BK616:=am (jh.blk hk (g':=gb616) (o:=.cells #[.slice Ao50 t612.length co50] 37 (0,0)) (kq BK616.out) NB616_0.out (by simp));replace HO619:=am (Kd.jD (Kd.jqa (jg.apart (show jg w0 _ g s0_0 t623 from Y0) (rq HO619.out) (by decide)) hk (fun _ h=>h.2)) (fun _ h=>h.1));replace BK621:=am (jh.blk hk (g':=gb621) (o:=.cells #[.slice Ao57 t617.length co57] 32 (0,0)) (kq BK621.out) NB621_0.out (by simp));replace HK:=am (jh.trans (Y11) hk (.inl rfl));replace HB:=am (hb);replace HI0:=am (hi);(try clear hb);(try clear hb2);(try clear hk);(try clear hi)))
      replace HO614:=am (Kd.jN HO614.out)
      replace HO619:=am (Kd.jN HO619.out)
      replace BK610:=am (jd BK610.out)
      replace BK611:=am (jd BK611.out)
      replace BK616:=am (jd BK616.out)
      replace BK621:=am (jd BK621.out)
      replace HI0:=am (jg.drew HI0.out)
      replace HK:=am (jka HK.out)
      replace HB:=am (jr HB.out)
      refine jPb (n:=9) (S:=fun w'=>w'.cell? ⟨gb621,0,none⟩=some (.slice Ao57 t617.length co57)∧w'.cell? ⟨gb616,0,none⟩=some (.slice Ao50 t612.length co50)) (ds:=[8]) #[false,false,false,false,false,false,false,false,false] (by kernel_rfl) rfl rfl ⟨(jH BK621.out 0).trans rfl,(jH BK616.out 0).trans rfl⟩ (fun hHeld=>?_);refine jvb jU.tab9 jU.bits9 (fun HT_ HW_=>?_)
      generalize w64.drew=w65 at HO614 HO619 BK610 BK611 BK616 BK621 HI0 HK HB hHeld ⊢
      refine pq (i:=0) (N:=some 36) #[true,false,false,false,false,false,false,false,false] ?_
      refine pq (i:=2) (N:=some 38) #[true,false,true,false,false,false,false,false,false] ?_
      refine pq (i:=3) (N:=some 39) #[true,false,true,true,false,false,false,false,false] ?_
      refine jwb (i:=1) (N:=some 37) (v:=?_) (a':=?_) #[true,true,true,true,false,false,false,false,false] rfl rfl (jZa HT_.out HW_.out (by kernel_rfl)) (fun _ _ _ h=>h) (Or.inl ⟨by rfl,?_⟩) hHeld ?_ ?_
      rotate_left
      ·rintro w' ⟨s0,s1⟩
       go_simp
       with_reducible rfl
      rotate_left
      ·exact sa
      refine jwb (i:=4) (N:=some 40) (v:=?_) (a':=?_) #[true,true,true,true,true,false,false,false,false] rfl rfl (jZa HT_.out HW_.out (by kernel_rfl)) (fun _ _ _ h=>h) (Or.inl ⟨by rfl,?_⟩) hHeld ?_ ?_
      rotate_left
      ·rintro w' ⟨s0,s1⟩
       go_simp
       with_reducible rfl
      rotate_left
      ·exact sa
      refine one_ (i:=5) (N:=some 41) #[true,true,true,true,true,true,false,false,false] rfl rfl (jUa HT_.out (by kernel_rfl)) (by decide) (fun K hK=>?_)
      refine goes_ Try.func90 (by kernel_rfl) rfl #[.pointer (some ⟨g,0,none⟩), .agg #[.slice Ao50 t612.length co50]] (by rfl) rfl rfl (aq) ?_
      with_reducible refine (jdb.calls k g s0_0 t625 _ _ t612 t632 t633 w0 _ ?side1 ?side2 ?side3 ?side4 A42.out).mono ?_
      (case side1=>exact Y0)
      (case side2=>exact Y14)
      (case side3=>exact Kd.jJb (jg.apart (show jg w0 _ g s0_0 t625 from Y0) (rq HO614.out) (by decide)) (fun _ h_=>h_.2))
      (case side4=>exact (Kd.jB HO614.out).2.1)
      rintro e w66 ⟨rfl,hi,hb,hk⟩
      refine ⟨_,rfl,?_⟩
      replace BK610:=am (jh.blk hk (g':=gb610) (o:=.cells #[.slice none 0 0] 37 (0,0)) (kq BK610.out) NB610_0.out (by simp))
      replace BK611:=am (jh.blk hk (g':=gb611) (o:=.cells #[.slice none 0 0] 32 (0,0)) (kq BK611.out) NB611_0.out (by simp))
      replace HO614:=am (Kd.jD (Kd.jqa (jg.apart (show jg w0 _ g s0_0 t625 from Y0) (rq HO614.out) (by decide)) hk (fun _ h=>h.2)) (fun _ h=>h.1))
      replace BK616:=am (jh.blk hk (g':=gb616) (o:=.cells #[.slice Ao50 t612.length co50] 37 (0,0)) (kq BK616.out) NB616_0.out (by simp))
      replace HO619:=am (Kd.jD (Kd.jqa (jg.apart (show jg w0 _ g s0_0 t625 from Y0) (rq HO619.out) (by decide)) hk (fun _ h=>h.2)) (fun _ h=>h.1))
      replace BK621:=am (jh.blk hk (g':=gb621) (o:=.cells #[.slice Ao57 t617.length co57] 32 (0,0)) (kq BK621.out) NB621_0.out (by simp))
      replace HK:=am (jh.trans (Y11) hk (.inl rfl))
      replace HB:=am (hb)
      replace HI0:=am (hi)
      (try clear hb)
      (try clear hb2)
      (try clear hk)
      (try clear hi)
      have p45:0≤(t622:Int):=ozD (uq)
      have q45:(t622:Int)<((t617.length:Int):Int):=ozD (uq)
      obtain ⟨go45,co45,eo45,gb45,gl45,cl45,HG45⟩:=Kd.R_form HO619.out (by omega)
      (first | cases eo45 |(injection eo45 with ea_ en_ ec_;(first | subst ea_ |(injection ea_ with ea_;subst ea_));subst ec_;clear en_))
      have GB45:=am gb45
      have GG45:=am HG45
      clear gb45 gl45 HG45
      obtain ⟨ce45,hcl45,hM45,hcc45,hfr45⟩:=Kd.jub HO619.out z54 (t622:Int) p45 q45
      obtain rfl:=jQa hM45
      have hx45_0:World.cell? _ ⟨go45,(t622:Int).toNat * 5,none⟩=some (.int .i64 ((ja t617 t622).f0)):=hcc45 0 _ rfl
      have hx45_1:World.cell? _ ⟨go45,(t622:Int).toNat * 5+1,none⟩=some (.int .i64 ((ja t617 t622).f1)):=hcc45 1 _ rfl
      have hx45_2:World.cell? _ ⟨go45,(t622:Int).toNat * 5+2,none⟩=some (.int .i64 ((ja t617 t622).f2)):=hcc45 2 _ rfl
      have hx45_3:World.cell? _ ⟨go45,(t622:Int).toNat * 5+3,none⟩=some (.int .i64 ((ja t617 t622).f3)):=hcc45 3 _ rfl
      have hx45_4:World.cell? _ ⟨go45,(t622:Int).toNat * 5+4,none⟩=some (.bool ((ja t617 t622).f4)):=hcc45 4 _ rfl
      have hf45_0:World.frozen? _ ⟨go45,(t622:Int).toNat * 5,none⟩=false:=hfr45 0
      have hf45_1:World.frozen? _ ⟨go45,(t622:Int).toNat * 5+1,none⟩=false:=hfr45 1
      have hf45_2:World.frozen? _ ⟨go45,(t622:Int).toNat * 5+2,none⟩=false:=hfr45 2
      have hf45_3:World.frozen? _ ⟨go45,(t622:Int).toNat * 5+3,none⟩=false:=hfr45 3
      have hf45_4:World.frozen? _ ⟨go45,(t622:Int).toNat * 5+4,none⟩=false:=hfr45 4
      clear hcl45 hcc45 hfr45 hM45
      replace p45:=ezT p45
      replace q45:=ezT q45
      have HN0_go45:=am (show g≠go45 from by have h_:=jg.own_ne HI0.out HO619.out (by decide);intro e_;exact h_ (by rw [e_];rfl))
      obtain ⟨ce67,hcl67,hM67,hcc67,hfr67⟩:=Kd.jub HO619.out z54 (t622:Int) (ozD (uq)) (by have h_:(t622:Int)<((t617.length:Int):Int):=ozD (uq);first | exact h_ |(have e_:=(Kd.jB HO619.out).1;omega) | simpa using h_)
      obtain rfl:=jQa hM67
      have HP67:=(Kd.R_seg HO619.out (t622:Int) (ozD (uq)) (by have h_:(t622:Int)<((t617.length:Int):Int):=ozD (uq);first | exact h_ |(have e_:=(Kd.jB HO619.out).1;omega) | simpa using h_) (seg:=[.int .i64 t632]) (j:=0) hcl67 hcc67 (show 1≤5 from by decide) (x':=(⟨t632,(ja t617 t622).f1,(ja t617 t622).f2,(ja t617 t622).f3,(ja t617 t622).f4⟩:S54)) (jGb _ _ _ (⟨t632,(ja t617 t622).f1,(ja t617 t622).f2,(ja t617 t622).f3,(ja t617 t622).f4⟩:S54) ) (fun _ hk=>hk)).1
      rw [← Ny634.out] at HP67
      have HQ67:=am HP67
      clear hcl67 hcc67 hfr67 hM67 HP67
      refine hK.out _ _ ⟨(jH BK621.out 0).trans rfl,(jH BK616.out 0).trans rfl⟩ (fun hHeld=>?_)
      clear hK K
      refine jLb (a':=?_) ?_ ?_
      rotate_left
      ·show Act.put _ (some 41) _=_
       simp only [Act.put,List.setIfInBounds_toArray,List.set_cons_zero,List.set_cons_succ,jjb,job]
       rfl
      refine pq (i:=6) (N:=some 42) #[true,true,true,true,true,true,true,false,false] ?_
      refine pq (i:=7) (N:=some 43) #[true,true,true,true,true,true,true,true,false] ?_
      refine last_ (i:=8) (N:=none) #[true,true,true,true,true,true,true,true,true] rfl rfl (jUa HT_.out (by kernel_rfl)) (by decide) (fun K hK=>?_)
      refine jQb (w1:=?_) (by rfl) rfl ?_ ?_
      rotate_left
      ·go_simp
       rfl
      refine hK.out _ _ ?_
      clear hK K
      refine done_ (jWb HT_.out (by kernel_rfl)) ?_
      have n0_:jw (Kd.R k94 94 (w66.setCell ⟨go45,(t622:Int).toNat * 5,none⟩ (.int .i64 t632)) w.heap.size (fun _=>True) (.slice Ao50 t612.length co50) t612):=⟨by (with_reducible repeat (first | apply Kd.jL | apply Kd.jM | apply Kd.jN));exact Kd.jD (Kd.jX (p:=⟨go45,(t622:Int).toNat * 5,none⟩) (Kd.jJ HO614.out GG45.out (by decide)) (fun _ hk=>hk.2) (.int .i64 t632)) (fun _ hk=>trivial)⟩
      have n1_:jw (Kd.R k54 54 (w66.setCell ⟨go45,(t622:Int).toNat * 5,none⟩ (.int .i64 t632)) w.heap.size (fun _=>True) (.slice (some ⟨go45,0,none⟩) t617.length co57) y634):=⟨rq HQ67.out⟩
      have n2_:jw ((w66.setCell ⟨go45,(t622:Int).toNat * 5,none⟩ (.int .i64 t632)).heap[gb610]?=some (.cells #[.slice none 0 0] 37 (0,0))):=⟨by (with_reducible repeat (first | refine jb ?_ _ | refine jd ?_ | refine jc ?_ _));refine jA ?_ (by have h_:=Kd.R_ne HO619.out BK610.out (by decide);intro e_;exact h_ (by rw [e_];rfl)) _;(with_reducible repeat (first | refine jb ?_ _ | refine jd ?_ | refine jc ?_ _));exact BK610.out⟩
      have n3_:jw ((w66.setCell ⟨go45,(t622:Int).toNat * 5,none⟩ (.int .i64 t632)).heap[gb611]?=some (.cells #[.slice none 0 0] 32 (0,0))):=⟨by (with_reducible repeat (first | refine jb ?_ _ | refine jd ?_ | refine jc ?_ _));refine jA ?_ (by have h_:=Kd.R_ne HO619.out BK611.out (by decide);intro e_;exact h_ (by rw [e_];rfl)) _;(with_reducible repeat (first | refine jb ?_ _ | refine jd ?_ | refine jc ?_ _));exact BK611.out⟩
      have n4_:jw ((w66.setCell ⟨go45,(t622:Int).toNat * 5,none⟩ (.int .i64 t632)).heap[gb616]?=some (.cells #[.slice Ao50 t612.length co50] 37 (0,0))):=⟨by (with_reducible repeat (first | refine jb ?_ _ | refine jd ?_ | refine jc ?_ _));refine jA ?_ (by have h_:=Kd.R_ne HO619.out BK616.out (by decide);intro e_;exact h_ (by rw [e_];rfl)) _;(with_reducible repeat (first | refine jb ?_ _ | refine jd ?_ | refine jc ?_ _));exact BK616.out⟩
      have n5_:jw ((w66.setCell ⟨go45,(t622:Int).toNat * 5,none⟩ (.int .i64 t632)).heap[gb621]?=some (.cells #[.slice (some ⟨go45,0,none⟩) t617.length co57] 32 (0,0))):=⟨by (with_reducible repeat (first | refine jb ?_ _ | refine jd ?_ | refine jc ?_ _));refine jA ?_ (by have h_:=Kd.R_ne HO619.out BK621.out (by decide);intro e_;exact h_ (by rw [e_];rfl)) _;(with_reducible repeat (first | refine jb ?_ _ | refine jd ?_ | refine jc ?_ _));exact BK621.out⟩
      have n6_:jw (jg w0 (w66.setCell ⟨go45,(t622:Int).toNat * 5,none⟩ (.int .i64 t632)) g s0_0 t633):=⟨by repeat (first |(with_reducible first | exact HI0.out | apply jg.alloc | apply jg.drewN | apply jg.drew | apply jg.jmb | refine jg.far ?_ HN0_go45.out _ | refine jg.far ?_ NB0_610.out _ | refine jg.far ?_ NB0_611.out _ | refine jg.far ?_ NB0_616.out _ | refine jg.far ?_ NB0_621.out _) | exact HI0.out)⟩
      have n7_:jw (jh w (w66.setCell ⟨go45,(t622:Int).toNat * 5,none⟩ (.int .i64 t632)) g none):=⟨by repeat (first |(with_reducible first | exact HK.out | apply jh.set_ | apply jAa | apply jka | apply jBa | refine jba ?_ GB45.out _ | refine jba ?_ GW610.out _ | refine jba ?_ GW611.out _ | refine jba ?_ GW616.out _ | refine jba ?_ GW621.out _) | exact HK.out)⟩
      have n8_:jw (Below w0.heap.size w0 (w66.setCell ⟨go45,(t622:Int).toNat * 5,none⟩ (.int .i64 t632))):=⟨by repeat (first |(with_reducible first | exact HB.out | apply jy | apply jo | apply jr | refine jk ?_ (Nat.le_trans HL.out GB45.out) | refine jk ?_ (jg.ge HI0.out) | refine jk ?_ GE610.out | refine jk ?_ GE611.out | refine jk ?_ GE616.out | refine jk ?_ GE621.out) | exact HB.out)⟩
      (try clear HO614)
      (try clear HO619)
      (try clear BK610)
      (try clear BK611)
      (try clear BK616)
      (try clear BK621)
      (try clear HI0)
      (try clear HK)
      (try clear HB)
      generalize (w66.setCell ⟨go45,(t622:Int).toNat * 5,none⟩ (.int .i64 t632))=w68 at n0_ n1_ n2_ n3_ n4_ n5_ n6_ n7_ n8_ ⊢
      have HO614:=n0_
      have HO619:=n1_
      have BK610:=n2_
      have BK611:=n3_
      have BK616:=n4_
      have BK621:=n5_
      have HI0:=n6_
      have HK:=n7_
      have HB:=n8_
      clear n0_ n1_ n2_ n3_ n4_ n5_ n6_ n7_ n8_
      try go_wp2
      replace HO614:=am (Kd.jN HO614.out)
      replace HO619:=am (Kd.jN HO619.out)
      replace BK610:=am (jd BK610.out)
      replace BK611:=am (jd BK611.out)
      replace BK616:=am (jd BK616.out)
      replace BK621:=am (jd BK621.out)
      replace HI0:=am (jg.drew HI0.out)
      replace HK:=am (jka HK.out)
      replace HB:=am (jr HB.out)
      refine jPb (n:=4) (S:=fun w'=>w'.cell? ⟨gb616,0,none⟩=some (.slice Ao50 t612.length co50)∧w'.cell? ⟨gb621,0,none⟩=some (.slice (some ⟨go45,0,none⟩) t617.length co57)) (ds:=[]) #[false,false,false,false] (by kernel_rfl) rfl rfl ⟨(jH BK616.out 0).trans rfl,(jH BK621.out 0).trans rfl⟩ (fun hHeld=>?_)
      generalize w68.drew=w69 at HO614 HO619 BK610 BK611 BK616 BK621 HI0 HK HB hHeld ⊢
      refine jwb (i:=0) (N:=some 65) (v:=?_) (a':=?_) #[true,false,false,false] rfl rfl (by kernel_rfl) (fun _ _ _ h=>h) (Or.inl ⟨by rfl,?_⟩) hHeld ?_ ?_
      rotate_left
      ·rintro w' ⟨s0,s1⟩
       go_simp
       with_reducible rfl
      rotate_left
      ·exact sa
      refine jwb (i:=1) (N:=some 66) (v:=?_) (a':=?_) #[true,true,false,false] rfl rfl (by kernel_rfl) (fun _ _ _ h=>h) (Or.inl ⟨by rfl,?_⟩) hHeld ?_ ?_
      rotate_left
      ·rintro w' ⟨s0,s1⟩
       go_simp
       with_reducible rfl
      rotate_left
      ·exact sa
      refine one_ (i:=2) (N:=none) #[true,true,true,false] rfl rfl (by kernel_rfl) (by decide) (fun K hK=>?_)
      have hs70:w69.cell? ⟨gb610,0,none⟩=some (.slice none 0 0):=(jH BK610.out 0).trans rfl
      have hfs70:=jf BK610.out 0
      have hns70_1:=NB611_610.out
      have hns70_2:=NB616_610.out
      have hns70_3:=NB621_610.out
      have hms70_1:=NB610_611.out
      have hms70_2:=NB610_616.out
      have hms70_3:=NB610_621.out
      refine jQb (w1:=?_) (by rfl) rfl ?_ ?_
      rotate_left
      ·go_simp
       rfl
      refine hK.out _ _ ⟨((cell_far (p:=⟨gb610,_,none⟩) NB616_610.out _).trans (hHeld.1)),((cell_far (p:=⟨gb610,_,none⟩) NB621_610.out _).trans (hHeld.2))⟩ (fun hHeld=>?_)
      clear hK K
      refine one_ (i:=3) (N:=none) #[true,true,true,true] rfl rfl (by kernel_rfl) (by decide) (fun K hK=>?_)
      have hs71:w69.cell? ⟨gb611,0,none⟩=some (.slice none 0 0):=(jH BK611.out 0).trans rfl
      have hfs71:=jf BK611.out 0
      have hns71_0:=NB610_611.out
      have hns71_2:=NB616_611.out
      have hns71_3:=NB621_611.out
      have hms71_0:=NB611_610.out
      have hms71_2:=NB611_616.out
      have hms71_3:=NB611_621.out
      refine jQb (w1:=?_) (by rfl) rfl ?_ ?_
      rotate_left
      ·go_simp
       rfl
      refine hK.out _ _ ⟨((cell_far (p:=⟨gb611,_,none⟩) NB616_611.out _).trans (hHeld.1)),((cell_far (p:=⟨gb611,_,none⟩) NB621_611.out _).trans (hHeld.2))⟩ (fun hHeld=>?_)
      clear hK K
      refine done_ (by kernel_rfl) ?_
      try go_wp2
      refine bodyPost_ret (jTb rfl _ _ gb610 gb611 37 32 #[.slice Ao50 t612.length co50] #[.slice (some ⟨go45,0,none⟩) t617.length co57] (0,0) (0,0) _ _ rfl (Y77) Try.underlying37 rfl (by kernel_rfl) rfl (Y78) Try.underlying32 rfl (by kernel_rfl)) rfl ?_
      exact ⟨_,_,Y2,by (with_reducible repeat (first | apply Kd.jL | apply Kd.jM | apply Kd.jN));exact Kd.jD (Kd.jX (p:=⟨gb611,0,none⟩) (Kd.jX (p:=⟨gb610,0,none⟩) (Kd.jJ (Kd.jJ HO614.out BK610.out (by decide)) BK611.out (by decide)) (fun _ hk=>hk.1.2) (.slice Ao50 t612.length co50)) (fun _ hk=>hk.2) (.slice (some ⟨go45,0,none⟩) t617.length co57)) (fun _ hk=>trivial),by (with_reducible repeat (first | apply Kd.jL | apply Kd.jM | apply Kd.jN));exact Kd.jD (Kd.jX (p:=⟨gb611,0,none⟩) (Kd.jX (p:=⟨gb610,0,none⟩) (Kd.jJ (Kd.jJ HO619.out BK610.out (by decide)) BK611.out (by decide)) (fun _ hk=>hk.1.2) (.slice Ao50 t612.length co50)) (fun _ hk=>hk.2) (.slice (some ⟨go45,0,none⟩) t617.length co57)) (fun _ hk=>trivial),Y0,Y14,Y11⟩
     ·rw [if_neg c44] at H
      exact absurd H (by simp)
    ·rw [if_neg c43] at H
     exact absurd H (by simp)
   ·rw [if_neg c41] at H
    have c41b0:(t624 == 1)=false:=beq_eq_false_iff_ne.mpr c41
    have c41b1:(t624 != 1)=true:=bne_iff_ne.mpr c41
    by_cases c72:t624=2
    ·rw [if_pos c72] at H
     have c72b0:(t624 == 2)=true:=beq_iff_eq.mpr c72
     have c72b1:(t624 != 2)=false:=bne_eq_false_iff_eq.mpr c72
     clear c72
     obtain ⟨y635,hy635⟩:∃ y_:List Int,y_=(([(-1),100]:List Int)):=⟨_,rfl⟩
     replace H:((jE.f k s0_0 t625 y635).bind fun bt638=>(if 0≤t622 then (if t622<(t617.length:Int) then (some (t612,(t617.set (t622:Int).toNat (⟨(ja t617 t622).f0,bt638.1,(ja t617 t622).f2,(ja t617 t622).f3,(ja t617 t622).f4⟩:S54)),bt638.2)) else (none)) else (none)))=some (r1,r2,r3):=by first |(rw [hy635];with_reducible exact H) |(have H2_:=(Option.bind_some _ _).symm.trans H;rw [hy635];with_reducible exact H2_) |(have H2_:=(Option.bind_some _ _).symm.trans H;with_reducible exact H2_) | with_reducible exact H |(rw [hy635];exact H) | exact H
     have Ny635:=am hy635
     clear hy635
     replace H:=bzS H
     obtain ⟨⟨t638,t639⟩,A730,H⟩:=H
     replace H:(if 0≤t622 then (if t622<(t617.length:Int) then (some (t612,(t617.set (t622:Int).toNat (⟨(ja t617 t622).f0,t638,(ja t617 t622).f2,(ja t617 t622).f3,(ja t617 t622).f4⟩:S54)),t639)) else (none)) else (none))=some (r1,r2,r3):=H
     have A73:=am A730
     clear A730
     by_cases c74:0≤t622
     ·rw [if_pos c74] at H
      have c74b0:decide (0≤t622)=true:=dzT c74
      clear c74
      by_cases c75:t622<(t617.length:Int)
      ·rw [if_pos c75] at H
       have c75b0:decide (t622<(t617.length:Int))=true:=dzT c75
       clear c75
       obtain ⟨y640,hy640⟩:∃ y_:List (S54),y_=(t617.set (t622:Int).toNat (⟨(ja t617 t622).f0,t638,(ja t617 t622).f2,(ja t617 t622).f3,(ja t617 t622).f4⟩:S54)):=⟨_,rfl⟩
       replace H:(some (t612,y640,t639))=some (r1,r2,r3):=by first |(rw [hy640];with_reducible exact H) |(have H2_:=(Option.bind_some _ _).symm.trans H;rw [hy640];with_reducible exact H2_) |(have H2_:=(Option.bind_some _ _).symm.trans H;with_reducible exact H2_) | with_reducible exact H |(rw [hy640];exact H) | exact H
       have Ny640:=am hy640
       clear hy640
       simp only [Option.some.injEq,Prod.mk.injEq] at H
       obtain ⟨rfl,rfl,rfl⟩:=H
       go_enter Try.func61,Try.ntmps61
       try go_wp2_with (first |((with_reducible refine jI (N:=2) rfl ?_);refine bE (N:=2) (cs:=#[.slice none 0 0]) (t:=37) ?_;intro gb610 hg w77 hbox hb;have BK610:=am (hbox);have GW610:=am ((Y8:w.heap.size≤gb610));have GE610:=am ((Nat.le_trans HW0.out (Y8:w.heap.size≤gb610):w0.heap.size≤gb610));have NB0_610:=am ((Y26:g≠gb610));have NB610_0:=am ((Y27:gb610≠g));replace HK:=am (jh.trans (Y16) (jh.of_below hb g none) (.inl rfl));replace HB:=am (jl (Y17) hb);replace HI0:=am (jg.below (Y15) hb);clear hb hbox hg) |((with_reducible refine jI (N:=3) rfl ?_);refine bE (N:=3) (cs:=#[.slice none 0 0]) (t:=32) ?_;intro gb611 hg w78 hbox hb;have BK611:=am (hbox);have GW611:=am ((Y32:w.heap.size≤gb611));have GE611:=am ((Nat.le_trans HW0.out (Y32:w.heap.size≤gb611):w0.heap.size≤gb611));have NB610_611:=am ((Y20:gb610≠gb611));have NB611_610:=am ((Y21:gb611≠gb610));have NB0_611:=am ((Y65:g≠gb611));have NB611_0:=am ((Y66:gb611≠g));replace BK610:=am (je (g:=gb610) (o:=.cells #[.slice none 0 0] 37 (0,0)) (kq BK610.out) hb);replace HK:=am (jh.trans (Y67) (jh.of_below hb g none) (.inl rfl));replace HB:=am (jl (Y68) hb);replace HI0:=am (jg.below (Y69) hb);clear hb hbox hg) |((with_reducible refine jC (f:=87) rfl ?_);refine gL (some 8) Try.func87 #[.pointer (some ⟨g,0,none⟩)] ?_;(with_reducible refine (jca.calls k g s0_0 s0_1 t612 t615 w0 _ ?side1 ?side2 A2.out).mono ?_);(case side1=>exact Y33);(case side2=>exact Y34);rintro e w79 ⟨v613,rfl,ho0,hi,hb,hk⟩;refine ⟨_,rfl,?_⟩;have HO614:=am (Kd.jla ho0 (jma (w:=w) (g:=g) (row:=none) (Y22)));replace BK610:=am (jh.blk hk (g':=gb610) (o:=.cells #[.slice none 0 0] 37 (0,0)) (kq BK610.out) NB610_0.out (by simp));replace BK611:=am (jh.blk hk (g':=gb611) (o:=.cells #[.slice none 0 0] 32 (0,0)) (kq BK611.out) NB611_0.out (by simp));replace HK:=am (jh.trans (Y22) hk (.inl rfl));replace HB:=am (hb);replace HI0:=am (hi);(try clear hb);(try clear hb2);(try clear hk);(try clear hi);(try clear ho0)) |((with_reducible refine jI (N:=4) rfl ?_);refine bE (N:=4) (cs:=#[.slice none 0 0]) (t:=37) ?_;intro gb616 hg w80 hbox hb;have BK616:=am (hbox);have GW616:=am ((Y35:w.heap.size≤gb616));have GE616:=am ((Nat.le_trans HW0.out (Y35:w.heap.size≤gb616):w0.heap.size≤gb616));have NB610_616:=am ((Y20:gb610≠gb616));have NB616_610:=am ((Y21:gb616≠gb610));have NB611_616:=am ((Y36:gb611≠gb616));have NB616_611:=am ((Y37:gb616≠gb611));have NB0_616:=am ((Y70:g≠gb616));have NB616_0:=am ((Y71:gb616≠g));replace HO614:=am (Kd.jP (rq HO614.out) hb);replace BK610:=am (je (g:=gb610) (o:=.cells #[.slice none 0 0] 37 (0,0)) (kq BK610.out) hb);replace BK611:=am (je (g:=gb611) (o:=.cells #[.slice none 0 0] 32 (0,0)) (kq BK611.out) hb);replace HK:=am (jh.trans (Y22) (jh.of_below hb g none) (.inl rfl));replace HB:=am (jl (Y34) hb);replace HI0:=am (jg.below (Y33) hb);clear hb hbox hg;obtain ⟨Ao81,co81,eo81⟩:=Kd.jaa HO614.out;subst eo81;have hnb82:=NB616_610.out;have hnc82:=NB610_616.out;have hnb83:=NB616_611.out;have hnc83:=NB611_616.out;have hnb84:=NB616_0.out;have hnc84:=NB0_616.out;have hcz85_0:=bc0 BK616.out;have hfz85_0:=jf BK616.out 0) |((with_reducible refine jC (f:=62) rfl ?_);refine gL (some 11) Try.func62 #[.pointer (some ⟨g,0,none⟩), .agg #[.slice Ao81 t612.length co81]] ?_;(with_reducible refine (jv.calls k g s0_0 t615 _ _ t612 t617 t620 w0 _ ?side1 ?side2 ?side3 ?side4 A3.out).mono ?_);(case side1=>exact Y13);(case side2=>exact Y38);(case side3=>exact Kd.jJb (jg.apart (show jg w0 _ g s0_0 t615 from Y13) (Y194) (by decide)) (fun _ h_=>h_.2));(case side4=>exact (Kd.jB HO614.out).2.1);rintro e w86 ⟨v618,rfl,ho0,hi,hb,hk⟩;refine ⟨_,rfl,?_⟩;have HO619:=am (Kd.jla ho0 (jma (w:=w) (g:=g) (row:=none) (Y23)));replace BK610:=am (jh.blk hk (g':=gb610) (o:=.cells #[.slice none 0 0] 37 (0,0)) (Y72) NB610_0.out (by simp));replace BK611:=am (jh.blk hk (g':=gb611) (o:=.cells #[.slice none 0 0] 32 (0,0)) (Y73) NB611_0.out (by simp));replace HO614:=am (Kd.jD (Kd.jqa (jg.apart (show jg w0 _ g s0_0 t615 from Y13) (Y194) (by decide)) hk (fun _ h=>h.2)) (fun _ h=>h.1));replace BK616:=am (jh.blk hk (g':=gb616) (o:=.cells #[.slice Ao81 t612.length co81] 37 (0,0)) (Y74) NB616_0.out (by simp));replace HK:=am (jh.trans (Y23) hk (.inl rfl));replace HB:=am (hb);replace HI0:=am (hi);(try clear hb);(try clear hb2);(try clear hk);(try clear hi);(try clear ho0)) |((with_reducible refine jI (N:=5) rfl ?_);refine bE (N:=5) (cs:=#[.slice none 0 0]) (t:=32) ?_;intro gb621 hg w87 hbox hb;have BK621:=am (hbox);have GW621:=am ((Y39:w.heap.size≤gb621));have GE621:=am ((Nat.le_trans HW0.out (Y39:w.heap.size≤gb621):w0.heap.size≤gb621));have NB610_621:=am ((Y20:gb610≠gb621));have NB621_610:=am ((Y21:gb621≠gb610));have NB611_621:=am ((Y36:gb611≠gb621));have NB621_611:=am ((Y37:gb621≠gb611));have NB616_621:=am ((by rw [hg];exact Nat.ne_of_lt (jV (g:=gb616) (o:=.cells #[.slice Ao81 t612.length co81] 37 (0,0)) (kq BK616.out)):gb616≠gb621));have NB621_616:=am ((by rw [hg];exact Nat.ne_of_gt (jV (g:=gb616) (o:=.cells #[.slice Ao81 t612.length co81] 37 (0,0)) (kq BK616.out)):gb621≠gb616));have NB0_621:=am ((Y75:g≠gb621));have NB621_0:=am ((Y76:gb621≠g));replace HO614:=am (Kd.jP (rq HO614.out) hb);replace HO619:=am (Kd.jP (rq HO619.out) hb);replace BK610:=am (je (g:=gb610) (o:=.cells #[.slice none 0 0] 37 (0,0)) (kq BK610.out) hb);replace BK611:=am (je (g:=gb611) (o:=.cells #[.slice none 0 0] 32 (0,0)) (kq BK611.out) hb);replace BK616:=am (je (g:=gb616) (o:=.cells #[.slice Ao81 t612.length co81] 37 (0,0)) (kq BK616.out) hb);replace HK:=am (jh.trans (Y23) (jh.of_below hb g none) (.inl rfl));replace HB:=am (jl (Y38) hb);replace HI0:=am (jg.below (Y13) hb);clear hb hbox hg;obtain ⟨Ao88,co88,eo88⟩:=Kd.jaa HO619.out;subst eo88;have hnb89:=NB621_610.out;have hnc89:=NB610_621.out;have hnb90:=NB621_611.out;have hnc90:=NB611_621.out;have hnb91:=NB621_616.out;have hnc91:=NB616_621.out;have hnb92:=NB621_0.out;have hnc92:=NB0_621.out;have hcz93_0:=bc0 BK621.out;have hfz93_0:=jf BK621.out 0) |((with_reducible refine jC (f:=88) rfl ?_);refine gL (some 20) Try.func88 #[.pointer (some ⟨g,0,none⟩), .int .i64 (t617.length:Int)] ?_;(with_reducible refine (jq.calls k g s0_0 t620 (t617.length:Int) t622 t623 w0 _ ?side1 ?side2 A5.out).mono ?_);(case side1=>exact Y0);(case side2=>exact Y14);rintro e w94 ⟨rfl,hi,hb,hk⟩;refine ⟨_,rfl,?_⟩;replace BK610:=am (jh.blk hk (g':=gb610) (o:=.cells #[.slice none 0 0] 37 (0,0)) (Y93) NB610_0.out (by simp));replace BK611:=am (jh.blk hk (g':=gb611) (o:=.cells #[.slice none 0 0] 32 (0,0)) (Y94) NB611_0.out (by simp));replace HO614:=am (Kd.jD (Kd.jqa (jg.apart (show jg w0 _ g s0_0 t620 from Y0) (by (with_reducible repeat (first | apply Kd.jL | apply Kd.jM | apply Kd.jN));exact (Kd.jD (Kd.jX (p:=⟨gb621,0,none⟩) (Kd.jJ HO614.out BK621.out (by decide)) (fun _ hk=>hk.2) (.slice Ao88 t617.length co88)) (fun _ h_=>h_.1))) (by decide)) hk (fun _ h=>h.2)) (fun _ h=>h.1));replace BK616:=am (jh.blk hk (g':=gb616) (o:=.cells #[.slice Ao81 t612.length co81] 37 (0,0)) (Y95) NB616_0.out (by simp));replace HO619:=am (Kd.jD (Kd.jqa (jg.apart (show jg w0 _ g s0_0 t620 from Y0) (by (with_reducible repeat (first | apply Kd.jL | apply Kd.jM | apply Kd.jN));exact (Kd.jD (Kd.jX (p:=⟨gb621,0,none⟩) (Kd.jJ HO619.out BK621.out (by decide)) (fun _ hk=>hk.2) (.slice Ao88 t617.length co88)) (fun _ h_=>h_.1))) (by decide)) hk (fun _ h=>h.2)) (fun _ h=>h.1));replace BK621:=am (jh.blk hk (g':=gb621) (o:=.cells #[.slice Ao88 t617.length co88] 32 (0,0)) (Y96) NB621_0.out (by simp));replace HK:=am (jh.trans (Y11) hk (.inl rfl));replace HB:=am (hb);replace HI0:=am (hi);(try clear hb);(try clear hb2);(try clear hk);(try clear hi)) |((with_reducible refine jC (f:=88) rfl ?_);refine gL (some 22) Try.func88 #[.pointer (some ⟨g,0,none⟩), .int .i64 24] ?_;(with_reducible refine (jq.calls k g s0_0 t623 24 t624 t625 w0 _ ?side1 ?side2 A6.out).mono ?_);(case side1=>exact Y0);(case side2=>exact Y14);rintro e w95 ⟨rfl,hi,hb,hk⟩;refine ⟨_,rfl,?_⟩;replace BK610:=am (jh.blk hk (g':=gb610) (o:=.cells #[.slice none 0 0] 37 (0,0)) (kq BK610.out) NB610_0.out (by simp));replace BK611:=am (jh.blk hk (g':=gb611) (o:=.cells #[.slice none 0 0] 32 (0,0)) (kq BK611.out) NB611_0.out (by simp));replace HO614:=am (Kd.jD (Kd.jqa (jg.apart (show jg w0 _ g s0_0 t623 from Y0) (rq HO614.out) (by decide)) hk (fun _ h=>h.2)) (fun _ h=>h.1));replace BK616:=am (jh.blk hk (g':=gb616) (o:=.cells #[.slice Ao81 t612.length co81] 37 (0,0)) (kq BK616.out) NB616_0.out (by simp));replace HO619:=am (Kd.jD (Kd.jqa (jg.apart (show jg w0 _ g s0_0 t623 from Y0) (rq HO619.out) (by decide)) hk (fun _ h=>h.2)) (fun _ h=>h.1));replace BK621:=am (jh.blk hk (g':=gb621) (o:=.cells #[.slice Ao88 t617.length co88] 32 (0,0)) (kq BK621.out) NB621_0.out (by simp));replace HK:=am (jh.trans (Y11) hk (.inl rfl));replace HB:=am (hb);replace HI0:=am (hi);(try clear hb);(try clear hb2);(try clear hk);(try clear hi)))
       replace HO614:=am (Kd.jN HO614.out)
       replace HO619:=am (Kd.jN HO619.out)
       replace BK610:=am (jd BK610.out)
       replace BK611:=am (jd BK611.out)
       replace BK616:=am (jd BK616.out)
       replace BK621:=am (jd BK621.out)
       replace HI0:=am (jg.drew HI0.out)
       replace HK:=am (jka HK.out)
       replace HB:=am (jr HB.out)
       refine jPb (n:=9) (S:=fun w'=>w'.cell? ⟨gb621,0,none⟩=some (.slice Ao88 t617.length co88)) (ds:=[8]) #[false,false,false,false,false,false,false,false,false] (by kernel_rfl) rfl rfl ((jH BK621.out 0).trans rfl) (fun hHeld=>?_);refine jvb jU.tab11 jU.bits11 (fun HT_ HW_=>?_)
       generalize w95.drew=w96 at HO614 HO619 BK610 BK611 BK616 BK621 HI0 HK HB hHeld ⊢
       refine pq (i:=0) (N:=some 46) #[true,false,false,false,false,false,false,false,false] ?_
       refine pq (i:=2) (N:=some 48) #[true,false,true,false,false,false,false,false,false] ?_
       refine pq (i:=3) (N:=some 49) #[true,false,true,true,false,false,false,false,false] ?_
       refine jwb (i:=1) (N:=some 47) (v:=?_) (a':=?_) #[true,true,true,true,false,false,false,false,false] rfl rfl (jZa HT_.out HW_.out (by kernel_rfl)) (fun _ _ _ h=>h) (Or.inl ⟨by rfl,?_⟩) hHeld ?_ ?_
       rotate_left
       ·intro w' s0
        go_simp
        with_reducible rfl
       rotate_left
       ·exact sa
       refine one_ (i:=4) (N:=some 50) #[true,true,true,true,true,false,false,false,false] rfl rfl (jUa HT_.out (by kernel_rfl)) (by decide) (fun K hK=>?_)
       refine Kd.jIb (Kd.int .i64) _ 3 ?hg (N:=50) ?hd (xs:=([(-1),100]:List Int)) (inner:=[.int .i64 (-1), .int .i64 100]) (ok:=fun _=>True) (okp:=fun _=>True) ?hr ?hp (fun _ hk=>hk) trivial (Below.refl _ _) (Nat.le_refl _) (by simp) ?_;(case hd=>rfl);(case hg=>rfl);(case hr=>exact Y4);(case hp=>exact (Reps.one (show Kd.M (Kd.int .i64) _ _ _ (-1) [.int .i64 (-1)] from rfl) (Reps.one (show Kd.M (Kd.int .i64) _ _ _ 100 [.int .i64 100] from rfl) (Reps.none _ _))))
       intro v636 w97 ho98 hb hg_ hnew_
       clear hg_ hnew_
       (first | rw [← Ny635.out] at ho98 |(simp only [Int.reduceToNat] at ho98;rw [← Ny635.out] at ho98))
       have HO637:=am (Kd.jla ho98 (jma (w:=w) (g:=g) (row:=none) (Y11)))
       replace HO614:=am (Kd.jP (rq HO614.out) hb)
       replace HO619:=am (Kd.jP (rq HO619.out) hb)
       replace BK610:=am (je (g:=gb610) (o:=.cells #[.slice none 0 0] 37 (0,0)) (kq BK610.out) hb)
       replace BK611:=am (je (g:=gb611) (o:=.cells #[.slice none 0 0] 32 (0,0)) (kq BK611.out) hb)
       replace BK616:=am (je (g:=gb616) (o:=.cells #[.slice Ao81 t612.length co81] 37 (0,0)) (kq BK616.out) hb)
       replace BK621:=am (je (g:=gb621) (o:=.cells #[.slice Ao88 t617.length co88] 32 (0,0)) (kq BK621.out) hb)
       replace HK:=am (jh.trans (Y11) (jh.of_below hb g none) (.inl rfl))
       replace HB:=am (jl (Y14) hb)
       replace HI0:=am (jg.below (Y0) hb)
       clear hb ho98
       obtain ⟨Ao99,co99,eo99⟩:=Kd.jaa HO637.out
       (first | subst eo99 |(injection eo99 with f1_ f2_ f3_;have f4_:=f1_.symm;have f5_:=f3_.symm;clear f1_ f2_ f3_;subst f4_;subst f5_))
       refine hK.out _ _ ((jH BK621.out 0).trans rfl) (fun hHeld=>?_)
       clear hK K
       refine jLb (a':=?_) ?_ ?_
       rotate_left
       ·show Act.put _ (some 50) _=_
        simp only [Act.put,List.setIfInBounds_toArray,List.set_cons_zero,List.set_cons_succ,jjb,job]
        rfl
       refine one_ (i:=5) (N:=some 51) #[true,true,true,true,true,true,false,false,false] rfl rfl (jUa HT_.out (by kernel_rfl)) (by decide) (fun K hK=>?_)
       refine goes_ Try.func89 (by kernel_rfl) rfl #[.pointer (some ⟨g,0,none⟩), .slice Ao99 y635.length co99] (by rfl) rfl rfl (aq) ?_
       with_reducible refine (jE.calls k g s0_0 t625 _ _ y635 t638 t639 w0 _ ?side1 ?side2 ?side3 ?side4 ?side5 A73.out).mono ?_
       (case side1=>exact Y0)
       (case side2=>exact Y14)
       (case side3=>exact cq (Kd.jB HO637.out).2.2)
       (case side4=>exact (Kd.jB HO637.out).2.1)
       (case side5=>exact jxb (jg.own_ne HI0.out HO637.out (by decide)))
       rintro e w100 ⟨rfl,hi,hb,hk⟩
       refine ⟨_,rfl,?_⟩
       replace BK610:=am (jh.blk hk (g':=gb610) (o:=.cells #[.slice none 0 0] 37 (0,0)) (kq BK610.out) NB610_0.out (by simp))
       replace BK611:=am (jh.blk hk (g':=gb611) (o:=.cells #[.slice none 0 0] 32 (0,0)) (kq BK611.out) NB611_0.out (by simp))
       replace HO614:=am (Kd.jD (Kd.jqa (jg.apart (show jg w0 _ g s0_0 t625 from Y0) (rq HO614.out) (by decide)) hk (fun _ h=>h.2)) (fun _ h=>h.1))
       replace BK616:=am (jh.blk hk (g':=gb616) (o:=.cells #[.slice Ao81 t612.length co81] 37 (0,0)) (kq BK616.out) NB616_0.out (by simp))
       replace HO619:=am (Kd.jD (Kd.jqa (jg.apart (show jg w0 _ g s0_0 t625 from Y0) (rq HO619.out) (by decide)) hk (fun _ h=>h.2)) (fun _ h=>h.1))
       replace BK621:=am (jh.blk hk (g':=gb621) (o:=.cells #[.slice Ao88 t617.length co88] 32 (0,0)) (kq BK621.out) NB621_0.out (by simp))
       replace HO637:=am (Kd.jD (Kd.jqa (jg.apart (show jg w0 _ g s0_0 t625 from Y0) (rq HO637.out) (by decide)) hk (fun _ h=>h.2)) (fun _ h=>h.1))
       replace HK:=am (jh.trans (Y11) hk (.inl rfl))
       replace HB:=am (hb)
       replace HI0:=am (hi)
       (try clear hb)
       (try clear hb2)
       (try clear hk)
       (try clear hi)
       have p76:0≤(t622:Int):=ozD (uq)
       have q76:(t622:Int)<((t617.length:Int):Int):=ozD (uq)
       obtain ⟨go76,co76,eo76,gb76,gl76,cl76,HG76⟩:=Kd.R_form HO619.out (by omega)
       (first | cases eo76 |(injection eo76 with ea_ en_ ec_;(first | subst ea_ |(injection ea_ with ea_;subst ea_));subst ec_;clear en_))
       have GB76:=am gb76
       have GG76:=am HG76
       clear gb76 gl76 HG76
       obtain ⟨ce76,hcl76,hM76,hcc76,hfr76⟩:=Kd.jub HO619.out z54 (t622:Int) p76 q76
       obtain rfl:=jQa hM76
       have hx76_0:World.cell? _ ⟨go76,(t622:Int).toNat * 5,none⟩=some (.int .i64 ((ja t617 t622).f0)):=hcc76 0 _ rfl
       have hx76_1:World.cell? _ ⟨go76,(t622:Int).toNat * 5+1,none⟩=some (.int .i64 ((ja t617 t622).f1)):=hcc76 1 _ rfl
       have hx76_2:World.cell? _ ⟨go76,(t622:Int).toNat * 5+2,none⟩=some (.int .i64 ((ja t617 t622).f2)):=hcc76 2 _ rfl
       have hx76_3:World.cell? _ ⟨go76,(t622:Int).toNat * 5+3,none⟩=some (.int .i64 ((ja t617 t622).f3)):=hcc76 3 _ rfl
       have hx76_4:World.cell? _ ⟨go76,(t622:Int).toNat * 5+4,none⟩=some (.bool ((ja t617 t622).f4)):=hcc76 4 _ rfl
       have hf76_0:World.frozen? _ ⟨go76,(t622:Int).toNat * 5,none⟩=false:=hfr76 0
       have hf76_1:World.frozen? _ ⟨go76,(t622:Int).toNat * 5+1,none⟩=false:=hfr76 1
       have hf76_2:World.frozen? _ ⟨go76,(t622:Int).toNat * 5+2,none⟩=false:=hfr76 2
       have hf76_3:World.frozen? _ ⟨go76,(t622:Int).toNat * 5+3,none⟩=false:=hfr76 3
       have hf76_4:World.frozen? _ ⟨go76,(t622:Int).toNat * 5+4,none⟩=false:=hfr76 4
       clear hcl76 hcc76 hfr76 hM76
       replace p76:=ezT p76
       replace q76:=ezT q76
       have HN0_go76:=am (show g≠go76 from by have h_:=jg.own_ne HI0.out HO619.out (by decide);intro e_;exact h_ (by rw [e_];rfl))
       obtain ⟨ce101,hcl101,hM101,hcc101,hfr101⟩:=Kd.jub HO619.out z54 (t622:Int) (ozD (uq)) (by have h_:(t622:Int)<((t617.length:Int):Int):=ozD (uq);first | exact h_ |(have e_:=(Kd.jB HO619.out).1;omega) | simpa using h_)
       obtain rfl:=jQa hM101
       have HP101:=(Kd.R_seg HO619.out (t622:Int) (ozD (uq)) (by have h_:(t622:Int)<((t617.length:Int):Int):=ozD (uq);first | exact h_ |(have e_:=(Kd.jB HO619.out).1;omega) | simpa using h_) (seg:=[.int .i64 t638]) (j:=1) hcl101 hcc101 (show 2≤5 from by decide) (x':=(⟨(ja t617 t622).f0,t638,(ja t617 t622).f2,(ja t617 t622).f3,(ja t617 t622).f4⟩:S54)) (jGb _ _ _ (⟨(ja t617 t622).f0,t638,(ja t617 t622).f2,(ja t617 t622).f3,(ja t617 t622).f4⟩:S54) ) (fun _ hk=>hk)).1
       rw [← Ny640.out] at HP101
       have HQ101:=am HP101
       clear hcl101 hcc101 hfr101 hM101 HP101
       refine hK.out _ _ ((jH BK621.out 0).trans rfl) (fun hHeld=>?_)
       clear hK K
       refine jLb (a':=?_) ?_ ?_
       rotate_left
       ·show Act.put _ (some 51) _=_
        simp only [Act.put,List.setIfInBounds_toArray,List.set_cons_zero,List.set_cons_succ,jjb,job]
        rfl
       refine pq (i:=6) (N:=some 52) #[true,true,true,true,true,true,true,false,false] ?_
       refine pq (i:=7) (N:=some 53) #[true,true,true,true,true,true,true,true,false] ?_
       refine last_ (i:=8) (N:=none) #[true,true,true,true,true,true,true,true,true] rfl rfl (jUa HT_.out (by kernel_rfl)) (by decide) (fun K hK=>?_)
       refine jQb (w1:=?_) (by rfl) rfl ?_ ?_
       rotate_left
       ·go_simp
        rfl
       refine hK.out _ _ ?_
       clear hK K
       refine done_ (jWb HT_.out (by kernel_rfl)) ?_
       have n0_:jw (Kd.R k94 94 (w100.setCell ⟨go76,(t622:Int).toNat * 5+1,none⟩ (.int .i64 t638)) w.heap.size (fun _=>True) (.slice Ao81 t612.length co81) t612):=⟨by (with_reducible repeat (first | apply Kd.jL | apply Kd.jM | apply Kd.jN));exact Kd.jD (Kd.jX (p:=⟨go76,(t622:Int).toNat * 5+1,none⟩) (Kd.jJ HO614.out GG76.out (by decide)) (fun _ hk=>hk.2) (.int .i64 t638)) (fun _ hk=>trivial)⟩
       have n1_:jw (Kd.R k54 54 (w100.setCell ⟨go76,(t622:Int).toNat * 5+1,none⟩ (.int .i64 t638)) w.heap.size (fun _=>True) (.slice (some ⟨go76,0,none⟩) t617.length co88) y640):=⟨rq HQ101.out⟩
       have n2_:jw (Kd.R (Kd.int .i64) 3 (w100.setCell ⟨go76,(t622:Int).toNat * 5+1,none⟩ (.int .i64 t638)) w.heap.size (fun _=>True) (.slice Ao99 y635.length co99) y635):=⟨by (with_reducible repeat (first | apply Kd.jL | apply Kd.jM | apply Kd.jN));exact Kd.jD (Kd.jX (p:=⟨go76,(t622:Int).toNat * 5+1,none⟩) (Kd.jJ HO637.out GG76.out (by decide)) (fun _ hk=>hk.2) (.int .i64 t638)) (fun _ hk=>trivial)⟩
       have n3_:jw ((w100.setCell ⟨go76,(t622:Int).toNat * 5+1,none⟩ (.int .i64 t638)).heap[gb610]?=some (.cells #[.slice none 0 0] 37 (0,0))):=⟨by (with_reducible repeat (first | refine jb ?_ _ | refine jd ?_ | refine jc ?_ _));refine jA ?_ (by have h_:=Kd.R_ne HO619.out BK610.out (by decide);intro e_;exact h_ (by rw [e_];rfl)) _;(with_reducible repeat (first | refine jb ?_ _ | refine jd ?_ | refine jc ?_ _));exact BK610.out⟩
       have n4_:jw ((w100.setCell ⟨go76,(t622:Int).toNat * 5+1,none⟩ (.int .i64 t638)).heap[gb611]?=some (.cells #[.slice none 0 0] 32 (0,0))):=⟨by (with_reducible repeat (first | refine jb ?_ _ | refine jd ?_ | refine jc ?_ _));refine jA ?_ (by have h_:=Kd.R_ne HO619.out BK611.out (by decide);intro e_;exact h_ (by rw [e_];rfl)) _;(with_reducible repeat (first | refine jb ?_ _ | refine jd ?_ | refine jc ?_ _));exact BK611.out⟩
       have n5_:jw ((w100.setCell ⟨go76,(t622:Int).toNat * 5+1,none⟩ (.int .i64 t638)).heap[gb616]?=some (.cells #[.slice Ao81 t612.length co81] 37 (0,0))):=⟨by (with_reducible repeat (first | refine jb ?_ _ | refine jd ?_ | refine jc ?_ _));refine jA ?_ (by have h_:=Kd.R_ne HO619.out BK616.out (by decide);intro e_;exact h_ (by rw [e_];rfl)) _;(with_reducible repeat (first | refine jb ?_ _ | refine jd ?_ | refine jc ?_ _));exact BK616.out⟩
       have n6_:jw ((w100.setCell ⟨go76,(t622:Int).toNat * 5+1,none⟩ (.int .i64 t638)).heap[gb621]?=some (.cells #[.slice (some ⟨go76,0,none⟩) t617.length co88] 32 (0,0))):=⟨by (with_reducible repeat (first | refine jb ?_ _ | refine jd ?_ | refine jc ?_ _));refine jA ?_ (by have h_:=Kd.R_ne HO619.out BK621.out (by decide);intro e_;exact h_ (by rw [e_];rfl)) _;(with_reducible repeat (first | refine jb ?_ _ | refine jd ?_ | refine jc ?_ _));exact BK621.out⟩
       have n7_:jw (jg w0 (w100.setCell ⟨go76,(t622:Int).toNat * 5+1,none⟩ (.int .i64 t638)) g s0_0 t639):=⟨by repeat (first |(with_reducible first | exact HI0.out | apply jg.alloc | apply jg.drewN | apply jg.drew | apply jg.jmb | refine jg.far ?_ HN0_go76.out _ | refine jg.far ?_ NB0_610.out _ | refine jg.far ?_ NB0_611.out _ | refine jg.far ?_ NB0_616.out _ | refine jg.far ?_ NB0_621.out _) | exact HI0.out)⟩
       have n8_:jw (jh w (w100.setCell ⟨go76,(t622:Int).toNat * 5+1,none⟩ (.int .i64 t638)) g none):=⟨by repeat (first |(with_reducible first | exact HK.out | apply jh.set_ | apply jAa | apply jka | apply jBa | refine jba ?_ GB76.out _ | refine jba ?_ GW610.out _ | refine jba ?_ GW611.out _ | refine jba ?_ GW616.out _ | refine jba ?_ GW621.out _) | exact HK.out)⟩
       have n9_:jw (Below w0.heap.size w0 (w100.setCell ⟨go76,(t622:Int).toNat * 5+1,none⟩ (.int .i64 t638))):=⟨by repeat (first |(with_reducible first | exact HB.out | apply jy | apply jo | apply jr | refine jk ?_ (Nat.le_trans HL.out GB76.out) | refine jk ?_ (jg.ge HI0.out) | refine jk ?_ GE610.out | refine jk ?_ GE611.out | refine jk ?_ GE616.out | refine jk ?_ GE621.out) | exact HB.out)⟩
       (try clear HO614)
       (try clear HO619)
       (try clear HO637)
       (try clear BK610)
       (try clear BK611)
       (try clear BK616)
       (try clear BK621)
       (try clear HI0)
       (try clear HK)
       (try clear HB)
       generalize (w100.setCell ⟨go76,(t622:Int).toNat * 5+1,none⟩ (.int .i64 t638))=w102 at n0_ n1_ n2_ n3_ n4_ n5_ n6_ n7_ n8_ n9_ ⊢
       have HO614:=n0_
       have HO619:=n1_
       have HO637:=n2_
       have BK610:=n3_
       have BK611:=n4_
       have BK616:=n5_
       have BK621:=n6_
       have HI0:=n7_
       have HK:=n8_
       have HB:=n9_
       clear n0_ n1_ n2_ n3_ n4_ n5_ n6_ n7_ n8_ n9_
       try go_wp2
       replace HO614:=am (Kd.jN HO614.out)
       replace HO619:=am (Kd.jN HO619.out)
       replace HO637:=am (Kd.jN HO637.out)
       replace BK610:=am (jd BK610.out)
       replace BK611:=am (jd BK611.out)
       replace BK616:=am (jd BK616.out)
       replace BK621:=am (jd BK621.out)
       replace HI0:=am (jg.drew HI0.out)
       replace HK:=am (jka HK.out)
       replace HB:=am (jr HB.out)
       refine jPb (n:=4) (S:=fun w'=>w'.cell? ⟨gb616,0,none⟩=some (.slice Ao81 t612.length co81)∧w'.cell? ⟨gb621,0,none⟩=some (.slice (some ⟨go76,0,none⟩) t617.length co88)) (ds:=[]) #[false,false,false,false] (by kernel_rfl) rfl rfl ⟨(jH BK616.out 0).trans rfl,(jH BK621.out 0).trans rfl⟩ (fun hHeld=>?_)
       generalize w102.drew=w103 at HO614 HO619 HO637 BK610 BK611 BK616 BK621 HI0 HK HB hHeld ⊢
       refine jwb (i:=0) (N:=some 65) (v:=?_) (a':=?_) #[true,false,false,false] rfl rfl (by kernel_rfl) (fun _ _ _ h=>h) (Or.inl ⟨by rfl,?_⟩) hHeld ?_ ?_
       rotate_left
       ·rintro w' ⟨s0,s1⟩
        go_simp
        with_reducible rfl
       rotate_left
       ·exact sa
       refine jwb (i:=1) (N:=some 66) (v:=?_) (a':=?_) #[true,true,false,false] rfl rfl (by kernel_rfl) (fun _ _ _ h=>h) (Or.inl ⟨by rfl,?_⟩) hHeld ?_ ?_
       rotate_left
       ·rintro w' ⟨s0,s1⟩
        go_simp
        with_reducible rfl
       rotate_left
       ·exact sa
       refine one_ (i:=2) (N:=none) #[true,true,true,false] rfl rfl (by kernel_rfl) (by decide) (fun K hK=>?_)
       have hs104:w103.cell? ⟨gb610,0,none⟩=some (.slice none 0 0):=(jH BK610.out 0).trans rfl
       have hfs104:=jf BK610.out 0
       have hns104_1:=NB611_610.out
       have hns104_2:=NB616_610.out
       have hns104_3:=NB621_610.out
       have hms104_1:=NB610_611.out
       have hms104_2:=NB610_616.out
       have hms104_3:=NB610_621.out
       refine jQb (w1:=?_) (by rfl) rfl ?_ ?_
       rotate_left
       ·go_simp
        rfl
       refine hK.out _ _ ⟨((cell_far (p:=⟨gb610,_,none⟩) NB616_610.out _).trans (hHeld.1)),((cell_far (p:=⟨gb610,_,none⟩) NB621_610.out _).trans (hHeld.2))⟩ (fun hHeld=>?_)
       clear hK K
       refine one_ (i:=3) (N:=none) #[true,true,true,true] rfl rfl (by kernel_rfl) (by decide) (fun K hK=>?_)
       have hs105:w103.cell? ⟨gb611,0,none⟩=some (.slice none 0 0):=(jH BK611.out 0).trans rfl
       have hfs105:=jf BK611.out 0
       have hns105_0:=NB610_611.out
       have hns105_2:=NB616_611.out
       have hns105_3:=NB621_611.out
       have hms105_0:=NB611_610.out
       have hms105_2:=NB611_616.out
       have hms105_3:=NB611_621.out
       refine jQb (w1:=?_) (by rfl) rfl ?_ ?_
       rotate_left
       ·go_simp
        rfl
       refine hK.out _ _ ⟨((cell_far (p:=⟨gb611,_,none⟩) NB616_611.out _).trans (hHeld.1)),((cell_far (p:=⟨gb611,_,none⟩) NB621_611.out _).trans (hHeld.2))⟩ (fun hHeld=>?_)
       clear hK K
       refine done_ (by kernel_rfl) ?_
       try go_wp2
       refine bodyPost_ret (jTb rfl _ _ gb610 gb611 37 32 #[.slice Ao81 t612.length co81] #[.slice (some ⟨go76,0,none⟩) t617.length co88] (0,0) (0,0) _ _ rfl (Y77) Try.underlying37 rfl (by kernel_rfl) rfl (Y78) Try.underlying32 rfl (by kernel_rfl)) rfl ?_
       exact ⟨_,_,Y2,by (with_reducible repeat (first | apply Kd.jL | apply Kd.jM | apply Kd.jN));exact Kd.jD (Kd.jX (p:=⟨gb611,0,none⟩) (Kd.jX (p:=⟨gb610,0,none⟩) (Kd.jJ (Kd.jJ HO614.out BK610.out (by decide)) BK611.out (by decide)) (fun _ hk=>hk.1.2) (.slice Ao81 t612.length co81)) (fun _ hk=>hk.2) (.slice (some ⟨go76,0,none⟩) t617.length co88)) (fun _ hk=>trivial),by (with_reducible repeat (first | apply Kd.jL | apply Kd.jM | apply Kd.jN));exact Kd.jD (Kd.jX (p:=⟨gb611,0,none⟩) (Kd.jX (p:=⟨gb610,0,none⟩) (Kd.jJ (Kd.jJ HO619.out BK610.out (by decide)) BK611.out (by decide)) (fun _ hk=>hk.1.2) (.slice Ao81 t612.length co81)) (fun _ hk=>hk.2) (.slice (some ⟨go76,0,none⟩) t617.length co88)) (fun _ hk=>trivial),Y0,Y14,Y11⟩
      ·rw [if_neg c75] at H
       exact absurd H (by simp)
     ·rw [if_neg c74] at H
      exact absurd H (by simp)
    ·rw [if_neg c72] at H
     have c72b0:(t624 == 2)=false:=beq_eq_false_iff_ne.mpr c72
     have c72b1:(t624 != 2)=true:=bne_iff_ne.mpr c72
     by_cases c106:t624=3
     ·rw [if_pos c106] at H
      have c106b0:(t624 == 3)=true:=beq_iff_eq.mpr c106
      have c106b1:(t624 != 3)=false:=bne_eq_false_iff_eq.mpr c106
      clear c106
      obtain ⟨y641,hy641⟩:∃ y_:List Int,y_=(([t622,24,0]:List Int)):=⟨_,rfl⟩
      replace H:((jE.f k s0_0 t625 y641).bind fun bt644=>(if 0≤t622 then (if t622<(t617.length:Int) then (some (t612,(t617.set (t622:Int).toNat (⟨(ja t617 t622).f0,(ja t617 t622).f1,bt644.1,(ja t617 t622).f3,(ja t617 t622).f4⟩:S54)),bt644.2)) else (none)) else (none)))=some (r1,r2,r3):=by first |(rw [hy641];with_reducible exact H) |(have H2_:=(Option.bind_some _ _).symm.trans H;rw [hy641];with_reducible exact H2_) |(have H2_:=(Option.bind_some _ _).symm.trans H;with_reducible exact H2_) | with_reducible exact H |(rw [hy641];exact H) | exact H
      have Ny641:=am hy641
      clear hy641
      replace H:=bzS H
      obtain ⟨⟨t644,t645⟩,A1070,H⟩:=H
      replace H:(if 0≤t622 then (if t622<(t617.length:Int) then (some (t612,(t617.set (t622:Int).toNat (⟨(ja t617 t622).f0,(ja t617 t622).f1,t644,(ja t617 t622).f3,(ja t617 t622).f4⟩:S54)),t645)) else (none)) else (none))=some (r1,r2,r3):=H
      have A107:=am A1070
      clear A1070
      by_cases c108:0≤t622
      ·rw [if_pos c108] at H
       have c108b0:decide (0≤t622)=true:=dzT c108
       clear c108
       by_cases c109:t622<(t617.length:Int)
       ·rw [if_pos c109] at H
        have c109b0:decide (t622<(t617.length:Int))=true:=dzT c109
        clear c109
        obtain ⟨y646,hy646⟩:∃ y_:List (S54),y_=(t617.set (t622:Int).toNat (⟨(ja t617 t622).f0,(ja t617 t622).f1,t644,(ja t617 t622).f3,(ja t617 t622).f4⟩:S54)):=⟨_,rfl⟩
        replace H:(some (t612,y646,t645))=some (r1,r2,r3):=by first |(rw [hy646];with_reducible exact H) |(have H2_:=(Option.bind_some _ _).symm.trans H;rw [hy646];with_reducible exact H2_) |(have H2_:=(Option.bind_some _ _).symm.trans H;with_reducible exact H2_) | with_reducible exact H |(rw [hy646];exact H) | exact H
        have Ny646:=am hy646
        clear hy646
        simp only [Option.some.injEq,Prod.mk.injEq] at H
        obtain ⟨rfl,rfl,rfl⟩:=H
        go_enter Try.func61,Try.ntmps61
        try go_wp2_with (first |((with_reducible refine jI (N:=2) rfl ?_);refine bE (N:=2) (cs:=#[.slice none 0 0]) (t:=37) ?_;intro gb610 hg w111 hbox hb;have BK610:=am (hbox);have GW610:=am ((Y8:w.heap.size≤gb610));have GE610:=am ((Nat.le_trans HW0.out (Y8:w.heap.size≤gb610):w0.heap.size≤gb610));have NB0_610:=am ((Y26:g≠gb610));have NB610_0:=am ((Y27:gb610≠g));replace HK:=am (jh.trans (Y16) (jh.of_below hb g none) (.inl rfl));replace HB:=am (jl (Y17) hb);replace HI0:=am (jg.below (Y15) hb);clear hb hbox hg) |((with_reducible refine jI (N:=3) rfl ?_);refine bE (N:=3) (cs:=#[.slice none 0 0]) (t:=32) ?_;intro gb611 hg w112 hbox hb;have BK611:=am (hbox);have GW611:=am ((Y32:w.heap.size≤gb611));have GE611:=am ((Nat.le_trans HW0.out (Y32:w.heap.size≤gb611):w0.heap.size≤gb611));have NB610_611:=am ((Y20:gb610≠gb611));have NB611_610:=am ((Y21:gb611≠gb610));have NB0_611:=am ((Y65:g≠gb611));have NB611_0:=am ((Y66:gb611≠g));replace BK610:=am (je (g:=gb610) (o:=.cells #[.slice none 0 0] 37 (0,0)) (kq BK610.out) hb);replace HK:=am (jh.trans (Y67) (jh.of_below hb g none) (.inl rfl));replace HB:=am (jl (Y68) hb);replace HI0:=am (jg.below (Y69) hb);clear hb hbox hg) |((with_reducible refine jC (f:=87) rfl ?_);refine gL (some 8) Try.func87 #[.pointer (some ⟨g,0,none⟩)] ?_;(with_reducible refine (jca.calls k g s0_0 s0_1 t612 t615 w0 _ ?side1 ?side2 A2.out).mono ?_);(case side1=>exact Y33);(case side2=>exact Y34);rintro e w113 ⟨v613,rfl,ho0,hi,hb,hk⟩;refine ⟨_,rfl,?_⟩;have HO614:=am (Kd.jla ho0 (jma (w:=w) (g:=g) (row:=none) (Y22)));replace BK610:=am (jh.blk hk (g':=gb610) (o:=.cells #[.slice none 0 0] 37 (0,0)) (kq BK610.out) NB610_0.out (by simp));replace BK611:=am (jh.blk hk (g':=gb611) (o:=.cells #[.slice none 0 0] 32 (0,0)) (kq BK611.out) NB611_0.out (by simp));replace HK:=am (jh.trans (Y22) hk (.inl rfl));replace HB:=am (hb);replace HI0:=am (hi);(try clear hb);(try clear hb2);(try clear hk);(try clear hi);(try clear ho0)) |((with_reducible refine jI (N:=4) rfl ?_);refine bE (N:=4) (cs:=#[.slice none 0 0]) (t:=37) ?_;intro gb616 hg w114 hbox hb;have BK616:=am (hbox);have GW616:=am ((Y35:w.heap.size≤gb616));have GE616:=am ((Nat.le_trans HW0.out (Y35:w.heap.size≤gb616):w0.heap.size≤gb616));have NB610_616:=am ((Y20:gb610≠gb616));have NB616_610:=am ((Y21:gb616≠gb610));have NB611_616:=am ((Y36:gb611≠gb616));have NB616_611:=am ((Y37:gb616≠gb611));have NB0_616:=am ((Y70:g≠gb616));have NB616_0:=am ((Y71:gb616≠g));replace HO614:=am (Kd.jP (rq HO614.out) hb);replace BK610:=am (je (g:=gb610) (o:=.cells #[.slice none 0 0] 37 (0,0)) (kq BK610.out) hb);replace BK611:=am (je (g:=gb611) (o:=.cells #[.slice none 0 0] 32 (0,0)) (kq BK611.out) hb);replace HK:=am (jh.trans (Y22) (jh.of_below hb g none) (.inl rfl));replace HB:=am (jl (Y34) hb);replace HI0:=am (jg.below (Y33) hb);clear hb hbox hg;obtain ⟨Ao115,co115,eo115⟩:=Kd.jaa HO614.out;subst eo115;have hnb116:=NB616_610.out;have hnc116:=NB610_616.out;have hnb117:=NB616_611.out;have hnc117:=NB611_616.out;have hnb118:=NB616_0.out;have hnc118:=NB0_616.out;have hcz119_0:=bc0 BK616.out;have hfz119_0:=jf BK616.out 0) |((with_reducible refine jC (f:=62) rfl ?_);refine gL (some 11) Try.func62 #[.pointer (some ⟨g,0,none⟩), .agg #[.slice Ao115 t612.length co115]] ?_;(with_reducible refine (jv.calls k g s0_0 t615 _ _ t612 t617 t620 w0 _ ?side1 ?side2 ?side3 ?side4 A3.out).mono ?_);(case side1=>exact Y13);(case side2=>exact Y38);(case side3=>exact Kd.jJb (jg.apart (show jg w0 _ g s0_0 t615 from Y13) (Y195) (by decide)) (fun _ h_=>h_.2));(case side4=>exact (Kd.jB HO614.out).2.1);rintro e w120 ⟨v618,rfl,ho0,hi,hb,hk⟩;refine ⟨_,rfl,?_⟩;have HO619:=am (Kd.jla ho0 (jma (w:=w) (g:=g) (row:=none) (Y23)));replace BK610:=am (jh.blk hk (g':=gb610) (o:=.cells #[.slice none 0 0] 37 (0,0)) (Y72) NB610_0.out (by simp));replace BK611:=am (jh.blk hk (g':=gb611) (o:=.cells #[.slice none 0 0] 32 (0,0)) (Y73) NB611_0.out (by simp));replace HO614:=am (Kd.jD (Kd.jqa (jg.apart (show jg w0 _ g s0_0 t615 from Y13) (Y195) (by decide)) hk (fun _ h=>h.2)) (fun _ h=>h.1));replace BK616:=am (jh.blk hk (g':=gb616) (o:=.cells #[.slice Ao115 t612.length co115] 37 (0,0)) (Y74) NB616_0.out (by simp));replace HK:=am (jh.trans (Y23) hk (.inl rfl));replace HB:=am (hb);replace HI0:=am (hi);(try clear hb);(try clear hb2);(try clear hk);(try clear hi);(try clear ho0)) |((with_reducible refine jI (N:=5) rfl ?_);refine bE (N:=5) (cs:=#[.slice none 0 0]) (t:=32) ?_;intro gb621 hg w121 hbox hb;have BK621:=am (hbox);have GW621:=am ((Y39:w.heap.size≤gb621));have GE621:=am ((Nat.le_trans HW0.out (Y39:w.heap.size≤gb621):w0.heap.size≤gb621));have NB610_621:=am ((Y20:gb610≠gb621));have NB621_610:=am ((Y21:gb621≠gb610));have NB611_621:=am ((Y36:gb611≠gb621));have NB621_611:=am ((Y37:gb621≠gb611));have NB616_621:=am ((by rw [hg];exact Nat.ne_of_lt (jV (g:=gb616) (o:=.cells #[.slice Ao115 t612.length co115] 37 (0,0)) (kq BK616.out)):gb616≠gb621));have NB621_616:=am ((by rw [hg];exact Nat.ne_of_gt (jV (g:=gb616) (o:=.cells #[.slice Ao115 t612.length co115] 37 (0,0)) (kq BK616.out)):gb621≠gb616));have NB0_621:=am ((Y75:g≠gb621));have NB621_0:=am ((Y76:gb621≠g));replace HO614:=am (Kd.jP (rq HO614.out) hb);replace HO619:=am (Kd.jP (rq HO619.out) hb);replace BK610:=am (je (g:=gb610) (o:=.cells #[.slice none 0 0] 37 (0,0)) (kq BK610.out) hb);replace BK611:=am (je (g:=gb611) (o:=.cells #[.slice none 0 0] 32 (0,0)) (kq BK611.out) hb);replace BK616:=am (je (g:=gb616) (o:=.cells #[.slice Ao115 t612.length co115] 37 (0,0)) (kq BK616.out) hb);replace HK:=am (jh.trans (Y23) (jh.of_below hb g none) (.inl rfl));replace HB:=am (jl (Y38) hb);replace HI0:=am (jg.below (Y13) hb);clear hb hbox hg;obtain ⟨Ao122,co122,eo122⟩:=Kd.jaa HO619.out;subst eo122;have hnb123:=NB621_610.out;have hnc123:=NB610_621.out;have hnb124:=NB621_611.out;have hnc124:=NB611_621.out;have hnb125:=NB621_616.out;have hnc125:=NB616_621.out;have hnb126:=NB621_0.out;have hnc126:=NB0_621.out;have hcz127_0:=bc0 BK621.out;have hfz127_0:=jf BK621.out 0) |((with_reducible refine jC (f:=88) rfl ?_);refine gL (some 20) Try.func88 #[.pointer (some ⟨g,0,none⟩), .int .i64 (t617.length:Int)] ?_;(with_reducible refine (jq.calls k g s0_0 t620 (t617.length:Int) t622 t623 w0 _ ?side1 ?side2 A5.out).mono ?_);(case side1=>exact Y0);(case side2=>exact Y14);rintro e w128 ⟨rfl,hi,hb,hk⟩;refine ⟨_,rfl,?_⟩;replace BK610:=am (jh.blk hk (g':=gb610) (o:=.cells #[.slice none 0 0] 37 (0,0)) (Y93) NB610_0.out (by simp));replace BK611:=am (jh.blk hk (g':=gb611) (o:=.cells #[.slice none 0 0] 32 (0,0)) (Y94) NB611_0.out (by simp));replace HO614:=am (Kd.jD (Kd.jqa (jg.apart (show jg w0 _ g s0_0 t620 from Y0) (by (with_reducible repeat (first | apply Kd.jL | apply Kd.jM | apply Kd.jN));exact (Kd.jD (Kd.jX (p:=⟨gb621,0,none⟩) (Kd.jJ HO614.out BK621.out (by decide)) (fun _ hk=>hk.2) (.slice Ao122 t617.length co122)) (fun _ h_=>h_.1))) (by decide)) hk (fun _ h=>h.2)) (fun _ h=>h.1));replace BK616:=am (jh.blk hk (g':=gb616) (o:=.cells #[.slice Ao115 t612.length co115] 37 (0,0)) (Y95) NB616_0.out (by simp));replace HO619:=am (Kd.jD (Kd.jqa (jg.apart (show jg w0 _ g s0_0 t620 from Y0) (by (with_reducible repeat (first | apply Kd.jL | apply Kd.jM | apply Kd.jN));exact (Kd.jD (Kd.jX (p:=⟨gb621,0,none⟩) (Kd.jJ HO619.out BK621.out (by decide)) (fun _ hk=>hk.2) (.slice Ao122 t617.length co122)) (fun _ h_=>h_.1))) (by decide)) hk (fun _ h=>h.2)) (fun _ h=>h.1));replace BK621:=am (jh.blk hk (g':=gb621) (o:=.cells #[.slice Ao122 t617.length co122] 32 (0,0)) (Y96) NB621_0.out (by simp));replace HK:=am (jh.trans (Y11) hk (.inl rfl));replace HB:=am (hb);replace HI0:=am (hi);(try clear hb);(try clear hb2);(try clear hk);(try clear hi)) |((with_reducible refine jC (f:=88) rfl ?_);refine gL (some 22) Try.func88 #[.pointer (some ⟨g,0,none⟩), .int .i64 24] ?_;(with_reducible refine (jq.calls k g s0_0 t623 24 t624 t625 w0 _ ?side1 ?side2 A6.out).mono ?_);(case side1=>exact Y0);(case side2=>exact Y14);rintro e w129 ⟨rfl,hi,hb,hk⟩;refine ⟨_,rfl,?_⟩;replace BK610:=am (jh.blk hk (g':=gb610) (o:=.cells #[.slice none 0 0] 37 (0,0)) (kq BK610.out) NB610_0.out (by simp));replace BK611:=am (jh.blk hk (g':=gb611) (o:=.cells #[.slice none 0 0] 32 (0,0)) (kq BK611.out) NB611_0.out (by simp));replace HO614:=am (Kd.jD (Kd.jqa (jg.apart (show jg w0 _ g s0_0 t623 from Y0) (rq HO614.out) (by decide)) hk (fun _ h=>h.2)) (fun _ h=>h.1));replace BK616:=am (jh.blk hk (g':=gb616) (o:=.cells #[.slice Ao115 t612.length co115] 37 (0,0)) (kq BK616.out) NB616_0.out (by simp));replace HO619:=am (Kd.jD (Kd.jqa (jg.apart (show jg w0 _ g s0_0 t623 from Y0) (rq HO619.out) (by decide)) hk (fun _ h=>h.2)) (fun _ h=>h.1));replace BK621:=am (jh.blk hk (g':=gb621) (o:=.cells #[.slice Ao122 t617.length co122] 32 (0,0)) (kq BK621.out) NB621_0.out (by simp));replace HK:=am (jh.trans (Y11) hk (.inl rfl));replace HB:=am (hb);replace HI0:=am (hi);(try clear hb);(try clear hb2);(try clear hk);(try clear hi)))
        replace HO614:=am (Kd.jN HO614.out)
        replace HO619:=am (Kd.jN HO619.out)
        replace BK610:=am (jd BK610.out)
        replace BK611:=am (jd BK611.out)
        replace BK616:=am (jd BK616.out)
        replace BK621:=am (jd BK621.out)
        replace HI0:=am (jg.drew HI0.out)
        replace HK:=am (jka HK.out)
        replace HB:=am (jr HB.out)
        refine jPb (n:=10) (S:=fun w'=>w'.cell? ⟨gb621,0,none⟩=some (.slice Ao122 t617.length co122)) (ds:=[9]) #[false,false,false,false,false,false,false,false,false,false] (by kernel_rfl) rfl rfl ((jH BK621.out 0).trans rfl) (fun hHeld=>?_);refine jvb jU.tab13 jU.bits13 (fun HT_ HW_=>?_)
        generalize w129.drew=w130 at HO614 HO619 BK610 BK611 BK616 BK621 HI0 HK HB hHeld ⊢
        refine pq (i:=0) (N:=some 56) #[true,false,false,false,false,false,false,false,false,false] ?_
        refine pq (i:=2) (N:=some 58) #[true,false,true,false,false,false,false,false,false,false] ?_
        refine pq (i:=3) (N:=some 59) #[true,false,true,true,false,false,false,false,false,false] ?_
        refine pq (i:=4) (N:=some 60) #[true,false,true,true,true,false,false,false,false,false] ?_
        refine jwb (i:=1) (N:=some 57) (v:=?_) (a':=?_) #[true,true,true,true,true,false,false,false,false,false] rfl rfl (jZa HT_.out HW_.out (by kernel_rfl)) (fun _ _ _ h=>h) (Or.inl ⟨by rfl,?_⟩) hHeld ?_ ?_
        rotate_left
        ·intro w' s0
         go_simp
         with_reducible rfl
        rotate_left
        ·exact sa
        refine one_ (i:=5) (N:=some 61) #[true,true,true,true,true,true,false,false,false,false] rfl rfl (jUa HT_.out (by kernel_rfl)) (by decide) (fun K hK=>?_)
        refine Kd.jIb (Kd.int .i64) _ 3 ?hg (N:=61) ?hd (xs:=([t622,24,0]:List Int)) (inner:=[.int .i64 t622, .int .i64 24, .int .i64 0]) (ok:=fun _=>True) (okp:=fun _=>True) ?hr ?hp (fun _ hk=>hk) trivial (Below.refl _ _) (Nat.le_refl _) (by simp) ?_;(case hd=>rfl);(case hg=>rfl);(case hr=>exact Y4);(case hp=>exact (Reps.one (show Kd.M (Kd.int .i64) _ _ _ t622 [.int .i64 t622] from rfl) (Reps.one (show Kd.M (Kd.int .i64) _ _ _ 24 [.int .i64 24] from rfl) (Reps.one (show Kd.M (Kd.int .i64) _ _ _ 0 [.int .i64 0] from rfl) (Reps.none _ _)))))
        intro v642 w131 ho132 hb hg_ hnew_
        clear hg_ hnew_
        (first | rw [← Ny641.out] at ho132 |(simp only [Int.reduceToNat] at ho132;rw [← Ny641.out] at ho132))
        have HO643:=am (Kd.jla ho132 (jma (w:=w) (g:=g) (row:=none) (Y11)))
        replace HO614:=am (Kd.jP (rq HO614.out) hb)
        replace HO619:=am (Kd.jP (rq HO619.out) hb)
        replace BK610:=am (je (g:=gb610) (o:=.cells #[.slice none 0 0] 37 (0,0)) (kq BK610.out) hb)
        replace BK611:=am (je (g:=gb611) (o:=.cells #[.slice none 0 0] 32 (0,0)) (kq BK611.out) hb)
        replace BK616:=am (je (g:=gb616) (o:=.cells #[.slice Ao115 t612.length co115] 37 (0,0)) (kq BK616.out) hb)
        replace BK621:=am (je (g:=gb621) (o:=.cells #[.slice Ao122 t617.length co122] 32 (0,0)) (kq BK621.out) hb)
        replace HK:=am (jh.trans (Y11) (jh.of_below hb g none) (.inl rfl))
        replace HB:=am (jl (Y14) hb)
        replace HI0:=am (jg.below (Y0) hb)
        clear hb ho132
        obtain ⟨Ao133,co133,eo133⟩:=Kd.jaa HO643.out
        (first | subst eo133 |(injection eo133 with f1_ f2_ f3_;have f4_:=f1_.symm;have f5_:=f3_.symm;clear f1_ f2_ f3_;subst f4_;subst f5_))
        refine hK.out _ _ ((jH BK621.out 0).trans rfl) (fun hHeld=>?_)
        clear hK K
        refine jLb (a':=?_) ?_ ?_
        rotate_left
        ·show Act.put _ (some 61) _=_
         simp only [Act.put,List.setIfInBounds_toArray,List.set_cons_zero,List.set_cons_succ,jjb,job]
         rfl
        refine one_ (i:=6) (N:=some 62) #[true,true,true,true,true,true,true,false,false,false] rfl rfl (jUa HT_.out (by kernel_rfl)) (by decide) (fun K hK=>?_)
        refine goes_ Try.func89 (by kernel_rfl) rfl #[.pointer (some ⟨g,0,none⟩), .slice Ao133 y641.length co133] (by rfl) rfl rfl (aq) ?_
        with_reducible refine (jE.calls k g s0_0 t625 _ _ y641 t644 t645 w0 _ ?side1 ?side2 ?side3 ?side4 ?side5 A107.out).mono ?_
        (case side1=>exact Y0)
        (case side2=>exact Y14)
        (case side3=>exact cq (Kd.jB HO643.out).2.2)
        (case side4=>exact (Kd.jB HO643.out).2.1)
        (case side5=>exact jxb (jg.own_ne HI0.out HO643.out (by decide)))
        rintro e w134 ⟨rfl,hi,hb,hk⟩
        refine ⟨_,rfl,?_⟩
        replace BK610:=am (jh.blk hk (g':=gb610) (o:=.cells #[.slice none 0 0] 37 (0,0)) (kq BK610.out) NB610_0.out (by simp))
        replace BK611:=am (jh.blk hk (g':=gb611) (o:=.cells #[.slice none 0 0] 32 (0,0)) (kq BK611.out) NB611_0.out (by simp))
        replace HO614:=am (Kd.jD (Kd.jqa (jg.apart (show jg w0 _ g s0_0 t625 from Y0) (rq HO614.out) (by decide)) hk (fun _ h=>h.2)) (fun _ h=>h.1))
        replace BK616:=am (jh.blk hk (g':=gb616) (o:=.cells #[.slice Ao115 t612.length co115] 37 (0,0)) (kq BK616.out) NB616_0.out (by simp))
        replace HO619:=am (Kd.jD (Kd.jqa (jg.apart (show jg w0 _ g s0_0 t625 from Y0) (rq HO619.out) (by decide)) hk (fun _ h=>h.2)) (fun _ h=>h.1))
        replace BK621:=am (jh.blk hk (g':=gb621) (o:=.cells #[.slice Ao122 t617.length co122] 32 (0,0)) (kq BK621.out) NB621_0.out (by simp))
        replace HO643:=am (Kd.jD (Kd.jqa (jg.apart (show jg w0 _ g s0_0 t625 from Y0) (rq HO643.out) (by decide)) hk (fun _ h=>h.2)) (fun _ h=>h.1))
        replace HK:=am (jh.trans (Y11) hk (.inl rfl))
        replace HB:=am (hb)
        replace HI0:=am (hi)
        (try clear hb)
        (try clear hb2)
        (try clear hk)
        (try clear hi)
        have p110:0≤(t622:Int):=ozD (uq)
        have q110:(t622:Int)<((t617.length:Int):Int):=ozD (uq)
        obtain ⟨go110,co110,eo110,gb110,gl110,cl110,HG110⟩:=Kd.R_form HO619.out (by omega)
        (first | cases eo110 |(injection eo110 with ea_ en_ ec_;(first | subst ea_ |(injection ea_ with ea_;subst ea_));subst ec_;clear en_))
        have GB110:=am gb110
        have GG110:=am HG110
        clear gb110 gl110 HG110
        obtain ⟨ce110,hcl110,hM110,hcc110,hfr110⟩:=Kd.jub HO619.out z54 (t622:Int) p110 q110
        obtain rfl:=jQa hM110
        have hx110_0:World.cell? _ ⟨go110,(t622:Int).toNat * 5,none⟩=some (.int .i64 ((ja t617 t622).f0)):=hcc110 0 _ rfl
        have hx110_1:World.cell? _ ⟨go110,(t622:Int).toNat * 5+1,none⟩=some (.int .i64 ((ja t617 t622).f1)):=hcc110 1 _ rfl
        have hx110_2:World.cell? _ ⟨go110,(t622:Int).toNat * 5+2,none⟩=some (.int .i64 ((ja t617 t622).f2)):=hcc110 2 _ rfl
        have hx110_3:World.cell? _ ⟨go110,(t622:Int).toNat * 5+3,none⟩=some (.int .i64 ((ja t617 t622).f3)):=hcc110 3 _ rfl
        have hx110_4:World.cell? _ ⟨go110,(t622:Int).toNat * 5+4,none⟩=some (.bool ((ja t617 t622).f4)):=hcc110 4 _ rfl
        have hf110_0:World.frozen? _ ⟨go110,(t622:Int).toNat * 5,none⟩=false:=hfr110 0
        have hf110_1:World.frozen? _ ⟨go110,(t622:Int).toNat * 5+1,none⟩=false:=hfr110 1
        have hf110_2:World.frozen? _ ⟨go110,(t622:Int).toNat * 5+2,none⟩=false:=hfr110 2
        have hf110_3:World.frozen? _ ⟨go110,(t622:Int).toNat * 5+3,none⟩=false:=hfr110 3
        have hf110_4:World.frozen? _ ⟨go110,(t622:Int).toNat * 5+4,none⟩=false:=hfr110 4
        clear hcl110 hcc110 hfr110 hM110
        replace p110:=ezT p110
        replace q110:=ezT q110
        have HN0_go110:=am (show g≠go110 from by have h_:=jg.own_ne HI0.out HO619.out (by decide);intro e_;exact h_ (by rw [e_];rfl))
        obtain ⟨ce135,hcl135,hM135,hcc135,hfr135⟩:=Kd.jub HO619.out z54 (t622:Int) (ozD (uq)) (by have h_:(t622:Int)<((t617.length:Int):Int):=ozD (uq);first | exact h_ |(have e_:=(Kd.jB HO619.out).1;omega) | simpa using h_)
        obtain rfl:=jQa hM135
        have HP135:=(Kd.R_seg HO619.out (t622:Int) (ozD (uq)) (by have h_:(t622:Int)<((t617.length:Int):Int):=ozD (uq);first | exact h_ |(have e_:=(Kd.jB HO619.out).1;omega) | simpa using h_) (seg:=[.int .i64 t644]) (j:=2) hcl135 hcc135 (show 3≤5 from by decide) (x':=(⟨(ja t617 t622).f0,(ja t617 t622).f1,t644,(ja t617 t622).f3,(ja t617 t622).f4⟩:S54)) (jGb _ _ _ (⟨(ja t617 t622).f0,(ja t617 t622).f1,t644,(ja t617 t622).f3,(ja t617 t622).f4⟩:S54) ) (fun _ hk=>hk)).1
        rw [← Ny646.out] at HP135
        have HQ135:=am HP135
        clear hcl135 hcc135 hfr135 hM135 HP135
        refine hK.out _ _ ((jH BK621.out 0).trans rfl) (fun hHeld=>?_)
        clear hK K
        refine jLb (a':=?_) ?_ ?_
        rotate_left
        ·show Act.put _ (some 62) _=_
         simp only [Act.put,List.setIfInBounds_toArray,List.set_cons_zero,List.set_cons_succ,jjb,job]
         rfl
        refine pq (i:=7) (N:=some 63) #[true,true,true,true,true,true,true,true,false,false] ?_
        refine pq (i:=8) (N:=some 64) #[true,true,true,true,true,true,true,true,true,false] ?_
        refine last_ (i:=9) (N:=none) #[true,true,true,true,true,true,true,true,true,true] rfl rfl (jUa HT_.out (by kernel_rfl)) (by decide) (fun K hK=>?_)
        refine jQb (w1:=?_) (by rfl) rfl ?_ ?_
        rotate_left
        ·go_simp
         rfl
        refine hK.out _ _ ?_
        clear hK K
        refine done_ (jWb HT_.out (by kernel_rfl)) ?_
        have n0_:jw (Kd.R k94 94 (w134.setCell ⟨go110,(t622:Int).toNat * 5+2,none⟩ (.int .i64 t644)) w.heap.size (fun _=>True) (.slice Ao115 t612.length co115) t612):=⟨by (with_reducible repeat (first | apply Kd.jL | apply Kd.jM | apply Kd.jN));exact Kd.jD (Kd.jX (p:=⟨go110,(t622:Int).toNat * 5+2,none⟩) (Kd.jJ HO614.out GG110.out (by decide)) (fun _ hk=>hk.2) (.int .i64 t644)) (fun _ hk=>trivial)⟩
        have n1_:jw (Kd.R k54 54 (w134.setCell ⟨go110,(t622:Int).toNat * 5+2,none⟩ (.int .i64 t644)) w.heap.size (fun _=>True) (.slice (some ⟨go110,0,none⟩) t617.length co122) y646):=⟨rq HQ135.out⟩
        have n2_:jw (Kd.R (Kd.int .i64) 3 (w134.setCell ⟨go110,(t622:Int).toNat * 5+2,none⟩ (.int .i64 t644)) w.heap.size (fun _=>True) (.slice Ao133 y641.length co133) y641):=⟨by (with_reducible repeat (first | apply Kd.jL | apply Kd.jM | apply Kd.jN));exact Kd.jD (Kd.jX (p:=⟨go110,(t622:Int).toNat * 5+2,none⟩) (Kd.jJ HO643.out GG110.out (by decide)) (fun _ hk=>hk.2) (.int .i64 t644)) (fun _ hk=>trivial)⟩
        have n3_:jw ((w134.setCell ⟨go110,(t622:Int).toNat * 5+2,none⟩ (.int .i64 t644)).heap[gb610]?=some (.cells #[.slice none 0 0] 37 (0,0))):=⟨by (with_reducible repeat (first | refine jb ?_ _ | refine jd ?_ | refine jc ?_ _));refine jA ?_ (by have h_:=Kd.R_ne HO619.out BK610.out (by decide);intro e_;exact h_ (by rw [e_];rfl)) _;(with_reducible repeat (first | refine jb ?_ _ | refine jd ?_ | refine jc ?_ _));exact BK610.out⟩
        have n4_:jw ((w134.setCell ⟨go110,(t622:Int).toNat * 5+2,none⟩ (.int .i64 t644)).heap[gb611]?=some (.cells #[.slice none 0 0] 32 (0,0))):=⟨by (with_reducible repeat (first | refine jb ?_ _ | refine jd ?_ | refine jc ?_ _));refine jA ?_ (by have h_:=Kd.R_ne HO619.out BK611.out (by decide);intro e_;exact h_ (by rw [e_];rfl)) _;(with_reducible repeat (first | refine jb ?_ _ | refine jd ?_ | refine jc ?_ _));exact BK611.out⟩
        have n5_:jw ((w134.setCell ⟨go110,(t622:Int).toNat * 5+2,none⟩ (.int .i64 t644)).heap[gb616]?=some (.cells #[.slice Ao115 t612.length co115] 37 (0,0))):=⟨by (with_reducible repeat (first | refine jb ?_ _ | refine jd ?_ | refine jc ?_ _));refine jA ?_ (by have h_:=Kd.R_ne HO619.out BK616.out (by decide);intro e_;exact h_ (by rw [e_];rfl)) _;(with_reducible repeat (first | refine jb ?_ _ | refine jd ?_ | refine jc ?_ _));exact BK616.out⟩
        have n6_:jw ((w134.setCell ⟨go110,(t622:Int).toNat * 5+2,none⟩ (.int .i64 t644)).heap[gb621]?=some (.cells #[.slice (some ⟨go110,0,none⟩) t617.length co122] 32 (0,0))):=⟨by (with_reducible repeat (first | refine jb ?_ _ | refine jd ?_ | refine jc ?_ _));refine jA ?_ (by have h_:=Kd.R_ne HO619.out BK621.out (by decide);intro e_;exact h_ (by rw [e_];rfl)) _;(with_reducible repeat (first | refine jb ?_ _ | refine jd ?_ | refine jc ?_ _));exact BK621.out⟩
        have n7_:jw (jg w0 (w134.setCell ⟨go110,(t622:Int).toNat * 5+2,none⟩ (.int .i64 t644)) g s0_0 t645):=⟨by repeat (first |(with_reducible first | exact HI0.out | apply jg.alloc | apply jg.drewN | apply jg.drew | apply jg.jmb | refine jg.far ?_ HN0_go110.out _ | refine jg.far ?_ NB0_610.out _ | refine jg.far ?_ NB0_611.out _ | refine jg.far ?_ NB0_616.out _ | refine jg.far ?_ NB0_621.out _) | exact HI0.out)⟩
        have n8_:jw (jh w (w134.setCell ⟨go110,(t622:Int).toNat * 5+2,none⟩ (.int .i64 t644)) g none):=⟨by repeat (first |(with_reducible first | exact HK.out | apply jh.set_ | apply jAa | apply jka | apply jBa | refine jba ?_ GB110.out _ | refine jba ?_ GW610.out _ | refine jba ?_ GW611.out _ | refine jba ?_ GW616.out _ | refine jba ?_ GW621.out _) | exact HK.out)⟩
        have n9_:jw (Below w0.heap.size w0 (w134.setCell ⟨go110,(t622:Int).toNat * 5+2,none⟩ (.int .i64 t644))):=⟨by repeat (first |(with_reducible first | exact HB.out | apply jy | apply jo | apply jr | refine jk ?_ (Nat.le_trans HL.out GB110.out) | refine jk ?_ (jg.ge HI0.out) | refine jk ?_ GE610.out | refine jk ?_ GE611.out | refine jk ?_ GE616.out | refine jk ?_ GE621.out) | exact HB.out)⟩
        (try clear HO614)
        (try clear HO619)
        (try clear HO643)
        (try clear BK610)
        (try clear BK611)
        (try clear BK616)
        (try clear BK621)
        (try clear HI0)
        (try clear HK)
        (try clear HB)
        generalize (w134.setCell ⟨go110,(t622:Int).toNat * 5+2,none⟩ (.int .i64 t644))=w136 at n0_ n1_ n2_ n3_ n4_ n5_ n6_ n7_ n8_ n9_ ⊢
        have HO614:=n0_
        have HO619:=n1_
        have HO643:=n2_
        have BK610:=n3_
        have BK611:=n4_
        have BK616:=n5_
        have BK621:=n6_
        have HI0:=n7_
        have HK:=n8_
        have HB:=n9_
        clear n0_ n1_ n2_ n3_ n4_ n5_ n6_ n7_ n8_ n9_
        try go_wp2
        replace HO614:=am (Kd.jN HO614.out)
        replace HO619:=am (Kd.jN HO619.out)
        replace HO643:=am (Kd.jN HO643.out)
        replace BK610:=am (jd BK610.out)
        replace BK611:=am (jd BK611.out)
        replace BK616:=am (jd BK616.out)
        replace BK621:=am (jd BK621.out)
        replace HI0:=am (jg.drew HI0.out)
        replace HK:=am (jka HK.out)
        replace HB:=am (jr HB.out)
        refine jPb (n:=4) (S:=fun w'=>w'.cell? ⟨gb616,0,none⟩=some (.slice Ao115 t612.length co115)∧w'.cell? ⟨gb621,0,none⟩=some (.slice (some ⟨go110,0,none⟩) t617.length co122)) (ds:=[]) #[false,false,false,false] (by kernel_rfl) rfl rfl ⟨(jH BK616.out 0).trans rfl,(jH BK621.out 0).trans rfl⟩ (fun hHeld=>?_)
        generalize w136.drew=w137 at HO614 HO619 HO643 BK610 BK611 BK616 BK621 HI0 HK HB hHeld ⊢
        refine jwb (i:=0) (N:=some 65) (v:=?_) (a':=?_) #[true,false,false,false] rfl rfl (by kernel_rfl) (fun _ _ _ h=>h) (Or.inl ⟨by rfl,?_⟩) hHeld ?_ ?_
        rotate_left
        ·rintro w' ⟨s0,s1⟩
         go_simp
         with_reducible rfl
        rotate_left
        ·exact sa
        refine jwb (i:=1) (N:=some 66) (v:=?_) (a':=?_) #[true,true,false,false] rfl rfl (by kernel_rfl) (fun _ _ _ h=>h) (Or.inl ⟨by rfl,?_⟩) hHeld ?_ ?_
        rotate_left
        ·rintro w' ⟨s0,s1⟩
         go_simp
         with_reducible rfl
        rotate_left
        ·exact sa
        refine one_ (i:=2) (N:=none) #[true,true,true,false] rfl rfl (by kernel_rfl) (by decide) (fun K hK=>?_)
        have hs138:w137.cell? ⟨gb610,0,none⟩=some (.slice none 0 0):=(jH BK610.out 0).trans rfl
        have hfs138:=jf BK610.out 0
        have hns138_1:=NB611_610.out
        have hns138_2:=NB616_610.out
        have hns138_3:=NB621_610.out
        have hms138_1:=NB610_611.out
        have hms138_2:=NB610_616.out
        have hms138_3:=NB610_621.out
        refine jQb (w1:=?_) (by rfl) rfl ?_ ?_
        rotate_left
        ·go_simp
         rfl
        refine hK.out _ _ ⟨((cell_far (p:=⟨gb610,_,none⟩) NB616_610.out _).trans (hHeld.1)),((cell_far (p:=⟨gb610,_,none⟩) NB621_610.out _).trans (hHeld.2))⟩ (fun hHeld=>?_)
        clear hK K
        refine one_ (i:=3) (N:=none) #[true,true,true,true] rfl rfl (by kernel_rfl) (by decide) (fun K hK=>?_)
        have hs139:w137.cell? ⟨gb611,0,none⟩=some (.slice none 0 0):=(jH BK611.out 0).trans rfl
        have hfs139:=jf BK611.out 0
        have hns139_0:=NB610_611.out
        have hns139_2:=NB616_611.out
        have hns139_3:=NB621_611.out
        have hms139_0:=NB611_610.out
        have hms139_2:=NB611_616.out
        have hms139_3:=NB611_621.out
        refine jQb (w1:=?_) (by rfl) rfl ?_ ?_
        rotate_left
        ·go_simp
         rfl
        refine hK.out _ _ ⟨((cell_far (p:=⟨gb611,_,none⟩) NB616_611.out _).trans (hHeld.1)),((cell_far (p:=⟨gb611,_,none⟩) NB621_611.out _).trans (hHeld.2))⟩ (fun hHeld=>?_)
        clear hK K
        refine done_ (by kernel_rfl) ?_
        try go_wp2
        refine bodyPost_ret (jTb rfl _ _ gb610 gb611 37 32 #[.slice Ao115 t612.length co115] #[.slice (some ⟨go110,0,none⟩) t617.length co122] (0,0) (0,0) _ _ rfl (Y77) Try.underlying37 rfl (by kernel_rfl) rfl (Y78) Try.underlying32 rfl (by kernel_rfl)) rfl ?_
        exact ⟨_,_,Y2,by (with_reducible repeat (first | apply Kd.jL | apply Kd.jM | apply Kd.jN));exact Kd.jD (Kd.jX (p:=⟨gb611,0,none⟩) (Kd.jX (p:=⟨gb610,0,none⟩) (Kd.jJ (Kd.jJ HO614.out BK610.out (by decide)) BK611.out (by decide)) (fun _ hk=>hk.1.2) (.slice Ao115 t612.length co115)) (fun _ hk=>hk.2) (.slice (some ⟨go110,0,none⟩) t617.length co122)) (fun _ hk=>trivial),by (with_reducible repeat (first | apply Kd.jL | apply Kd.jM | apply Kd.jN));exact Kd.jD (Kd.jX (p:=⟨gb611,0,none⟩) (Kd.jX (p:=⟨gb610,0,none⟩) (Kd.jJ (Kd.jJ HO619.out BK610.out (by decide)) BK611.out (by decide)) (fun _ hk=>hk.1.2) (.slice Ao115 t612.length co115)) (fun _ hk=>hk.2) (.slice (some ⟨go110,0,none⟩) t617.length co122)) (fun _ hk=>trivial),Y0,Y14,Y11⟩
       ·rw [if_neg c109] at H
        exact absurd H (by simp)
      ·rw [if_neg c108] at H
       exact absurd H (by simp)
     ·rw [if_neg c106] at H
      have c106b0:(t624 == 3)=false:=beq_eq_false_iff_ne.mpr c106
      have c106b1:(t624 != 3)=true:=bne_iff_ne.mpr c106
      simp only [Option.some.injEq,Prod.mk.injEq] at H
      obtain ⟨rfl,rfl,rfl⟩:=H
      go_enter Try.func61,Try.ntmps61
      try go_wp2_with (first |((with_reducible refine jI (N:=2) rfl ?_);refine bE (N:=2) (cs:=#[.slice none 0 0]) (t:=37) ?_;intro gb610 hg w140 hbox hb;have BK610:=am (hbox);have GW610:=am ((Y8:w.heap.size≤gb610));have GE610:=am ((Nat.le_trans HW0.out (Y8:w.heap.size≤gb610):w0.heap.size≤gb610));have NB0_610:=am ((Y26:g≠gb610));have NB610_0:=am ((Y27:gb610≠g));replace HK:=am (jh.trans (Y16) (jh.of_below hb g none) (.inl rfl));replace HB:=am (jl (Y17) hb);replace HI0:=am (jg.below (Y15) hb);clear hb hbox hg) |((with_reducible refine jI (N:=3) rfl ?_);refine bE (N:=3) (cs:=#[.slice none 0 0]) (t:=32) ?_;intro gb611 hg w141 hbox hb;have BK611:=am (hbox);have GW611:=am ((Y32:w.heap.size≤gb611));have GE611:=am ((Nat.le_trans HW0.out (Y32:w.heap.size≤gb611):w0.heap.size≤gb611));have NB610_611:=am ((Y20:gb610≠gb611));have NB611_610:=am ((Y21:gb611≠gb610));have NB0_611:=am ((Y65:g≠gb611));have NB611_0:=am ((Y66:gb611≠g));replace BK610:=am (je (g:=gb610) (o:=.cells #[.slice none 0 0] 37 (0,0)) (kq BK610.out) hb);replace HK:=am (jh.trans (Y67) (jh.of_below hb g none) (.inl rfl));replace HB:=am (jl (Y68) hb);replace HI0:=am (jg.below (Y69) hb);clear hb hbox hg) |((with_reducible refine jC (f:=87) rfl ?_);refine gL (some 8) Try.func87 #[.pointer (some ⟨g,0,none⟩)] ?_;(with_reducible refine (jca.calls k g s0_0 s0_1 t612 t615 w0 _ ?side1 ?side2 A2.out).mono ?_);(case side1=>exact Y33);(case side2=>exact Y34);rintro e w142 ⟨v613,rfl,ho0,hi,hb,hk⟩;refine ⟨_,rfl,?_⟩;have HO614:=am (Kd.jla ho0 (jma (w:=w) (g:=g) (row:=none) (Y22)));replace BK610:=am (jh.blk hk (g':=gb610) (o:=.cells #[.slice none 0 0] 37 (0,0)) (kq BK610.out) NB610_0.out (by simp));replace BK611:=am (jh.blk hk (g':=gb611) (o:=.cells #[.slice none 0 0] 32 (0,0)) (kq BK611.out) NB611_0.out (by simp));replace HK:=am (jh.trans (Y22) hk (.inl rfl));replace HB:=am (hb);replace HI0:=am (hi);(try clear hb);(try clear hb2);(try clear hk);(try clear hi);(try clear ho0)) |((with_reducible refine jI (N:=4) rfl ?_);refine bE (N:=4) (cs:=#[.slice none 0 0]) (t:=37) ?_;intro gb616 hg w143 hbox hb;have BK616:=am (hbox);have GW616:=am ((Y35:w.heap.size≤gb616));have GE616:=am ((Nat.le_trans HW0.out (Y35:w.heap.size≤gb616):w0.heap.size≤gb616));have NB610_616:=am ((Y20:gb610≠gb616));have NB616_610:=am ((Y21:gb616≠gb610));have NB611_616:=am ((Y36:gb611≠gb616));have NB616_611:=am ((Y37:gb616≠gb611));have NB0_616:=am ((Y70:g≠gb616));have NB616_0:=am ((Y71:gb616≠g));replace HO614:=am (Kd.jP (rq HO614.out) hb);replace BK610:=am (je (g:=gb610) (o:=.cells #[.slice none 0 0] 37 (0,0)) (kq BK610.out) hb);replace BK611:=am (je (g:=gb611) (o:=.cells #[.slice none 0 0] 32 (0,0)) (kq BK611.out) hb);replace HK:=am (jh.trans (Y22) (jh.of_below hb g none) (.inl rfl));replace HB:=am (jl (Y34) hb);replace HI0:=am (jg.below (Y33) hb);clear hb hbox hg;obtain ⟨Ao144,co144,eo144⟩:=Kd.jaa HO614.out;subst eo144;have hnb145:=NB616_610.out;have hnc145:=NB610_616.out;have hnb146:=NB616_611.out;have hnc146:=NB611_616.out;have hnb147:=NB616_0.out;have hnc147:=NB0_616.out;have hcz148_0:=bc0 BK616.out;have hfz148_0:=jf BK616.out 0) |((with_reducible refine jC (f:=62) rfl ?_);refine gL (some 11) Try.func62 #[.pointer (some ⟨g,0,none⟩), .agg #[.slice Ao144 t612.length co144]] ?_;(with_reducible refine (jv.calls k g s0_0 t615 _ _ t612 t617 t620 w0 _ ?side1 ?side2 ?side3 ?side4 A3.out).mono ?_);(case side1=>exact Y13);(case side2=>exact Y38);(case side3=>exact Kd.jJb (jg.apart (show jg w0 _ g s0_0 t615 from Y13) (Y196) (by decide)) (fun _ h_=>h_.2));(case side4=>exact (Kd.jB HO614.out).2.1);rintro e w149 ⟨v618,rfl,ho0,hi,hb,hk⟩;refine ⟨_,rfl,?_⟩;have HO619:=am (Kd.jla ho0 (jma (w:=w) (g:=g) (row:=none) (Y23)));replace BK610:=am (jh.blk hk (g':=gb610) (o:=.cells #[.slice none 0 0] 37 (0,0)) (Y72) NB610_0.out (by simp));replace BK611:=am (jh.blk hk (g':=gb611) (o:=.cells #[.slice none 0 0] 32 (0,0)) (Y73) NB611_0.out (by simp));replace HO614:=am (Kd.jD (Kd.jqa (jg.apart (show jg w0 _ g s0_0 t615 from Y13) (Y196) (by decide)) hk (fun _ h=>h.2)) (fun _ h=>h.1));replace BK616:=am (jh.blk hk (g':=gb616) (o:=.cells #[.slice Ao144 t612.length co144] 37 (0,0)) (Y74) NB616_0.out (by simp));replace HK:=am (jh.trans (Y23) hk (.inl rfl));replace HB:=am (hb);replace HI0:=am (hi);(try clear hb);(try clear hb2);(try clear hk);(try clear hi);(try clear ho0)) |((with_reducible refine jI (N:=5) rfl ?_);refine bE (N:=5) (cs:=#[.slice none 0 0]) (t:=32) ?_;intro gb621 hg w150 hbox hb;have BK621:=am (hbox);have GW621:=am ((Y39:w.heap.size≤gb621));have GE621:=am ((Nat.le_trans HW0.out (Y39:w.heap.size≤gb621):w0.heap.size≤gb621));have NB610_621:=am ((Y20:gb610≠gb621));have NB621_610:=am ((Y21:gb621≠gb610));have NB611_621:=am ((Y36:gb611≠gb621));have NB621_611:=am ((Y37:gb621≠gb611));have NB616_621:=am ((by rw [hg];exact Nat.ne_of_lt (jV (g:=gb616) (o:=.cells #[.slice Ao144 t612.length co144] 37 (0,0)) (kq BK616.out)):gb616≠gb621));have NB621_616:=am ((by rw [hg];exact Nat.ne_of_gt (jV (g:=gb616) (o:=.cells #[.slice Ao144 t612.length co144] 37 (0,0)) (kq BK616.out)):gb621≠gb616));have NB0_621:=am ((Y75:g≠gb621));have NB621_0:=am ((Y76:gb621≠g));replace HO614:=am (Kd.jP (rq HO614.out) hb);replace HO619:=am (Kd.jP (rq HO619.out) hb);replace BK610:=am (je (g:=gb610) (o:=.cells #[.slice none 0 0] 37 (0,0)) (kq BK610.out) hb);replace BK611:=am (je (g:=gb611) (o:=.cells #[.slice none 0 0] 32 (0,0)) (kq BK611.out) hb);replace BK616:=am (je (g:=gb616) (o:=.cells #[.slice Ao144 t612.length co144] 37 (0,0)) (kq BK616.out) hb);replace HK:=am (jh.trans (Y23) (jh.of_below hb g none) (.inl rfl));replace HB:=am (jl (Y38) hb);replace HI0:=am (jg.below (Y13) hb);clear hb hbox hg;obtain ⟨Ao151,co151,eo151⟩:=Kd.jaa HO619.out;subst eo151;have hnb152:=NB621_610.out;have hnc152:=NB610_621.out;have hnb153:=NB621_611.out;have hnc153:=NB611_621.out;have hnb154:=NB621_616.out;have hnc154:=NB616_621.out;have hnb155:=NB621_0.out;have hnc155:=NB0_621.out;have hcz156_0:=bc0 BK621.out;have hfz156_0:=jf BK621.out 0) |((with_reducible refine jC (f:=88) rfl ?_);refine gL (some 20) Try.func88 #[.pointer (some ⟨g,0,none⟩), .int .i64 (t617.length:Int)] ?_;(with_reducible refine (jq.calls k g s0_0 t620 (t617.length:Int) t622 t623 w0 _ ?side1 ?side2 A5.out).mono ?_);(case side1=>exact Y0);(case side2=>exact Y14);rintro e w157 ⟨rfl,hi,hb,hk⟩;refine ⟨_,rfl,?_⟩;replace BK610:=am (jh.blk hk (g':=gb610) (o:=.cells #[.slice none 0 0] 37 (0,0)) (Y93) NB610_0.out (by simp));replace BK611:=am (jh.blk hk (g':=gb611) (o:=.cells #[.slice none 0 0] 32 (0,0)) (Y94) NB611_0.out (by simp));replace HO614:=am (Kd.jD (Kd.jqa (jg.apart (show jg w0 _ g s0_0 t620 from Y0) (by (with_reducible repeat (first | apply Kd.jL | apply Kd.jM | apply Kd.jN));exact (Kd.jD (Kd.jX (p:=⟨gb621,0,none⟩) (Kd.jJ HO614.out BK621.out (by decide)) (fun _ hk=>hk.2) (.slice Ao151 t617.length co151)) (fun _ h_=>h_.1))) (by decide)) hk (fun _ h=>h.2)) (fun _ h=>h.1));replace BK616:=am (jh.blk hk (g':=gb616) (o:=.cells #[.slice Ao144 t612.length co144] 37 (0,0)) (Y95) NB616_0.out (by simp));replace HO619:=am (Kd.jD (Kd.jqa (jg.apart (show jg w0 _ g s0_0 t620 from Y0) (by (with_reducible repeat (first | apply Kd.jL | apply Kd.jM | apply Kd.jN));exact (Kd.jD (Kd.jX (p:=⟨gb621,0,none⟩) (Kd.jJ HO619.out BK621.out (by decide)) (fun _ hk=>hk.2) (.slice Ao151 t617.length co151)) (fun _ h_=>h_.1))) (by decide)) hk (fun _ h=>h.2)) (fun _ h=>h.1));replace BK621:=am (jh.blk hk (g':=gb621) (o:=.cells #[.slice Ao151 t617.length co151] 32 (0,0)) (Y96) NB621_0.out (by simp));replace HK:=am (jh.trans (Y11) hk (.inl rfl));replace HB:=am (hb);replace HI0:=am (hi);(try clear hb);(try clear hb2);(try clear hk);(try clear hi)) |((with_reducible refine jC (f:=88) rfl ?_);refine gL (some 22) Try.func88 #[.pointer (some ⟨g,0,none⟩), .int .i64 24] ?_;(with_reducible refine (jq.calls k g s0_0 t623 24 t624 t625 w0 _ ?side1 ?side2 A6.out).mono ?_);(case side1=>exact Y0);(case side2=>exact Y14);rintro e w158 ⟨rfl,hi,hb,hk⟩;refine ⟨_,rfl,?_⟩;replace BK610:=am (jh.blk hk (g':=gb610) (o:=.cells #[.slice none 0 0] 37 (0,0)) (kq BK610.out) NB610_0.out (by simp));replace BK611:=am (jh.blk hk (g':=gb611) (o:=.cells #[.slice none 0 0] 32 (0,0)) (kq BK611.out) NB611_0.out (by simp));replace HO614:=am (Kd.jD (Kd.jqa (jg.apart (show jg w0 _ g s0_0 t623 from Y0) (rq HO614.out) (by decide)) hk (fun _ h=>h.2)) (fun _ h=>h.1));replace BK616:=am (jh.blk hk (g':=gb616) (o:=.cells #[.slice Ao144 t612.length co144] 37 (0,0)) (kq BK616.out) NB616_0.out (by simp));replace HO619:=am (Kd.jD (Kd.jqa (jg.apart (show jg w0 _ g s0_0 t623 from Y0) (rq HO619.out) (by decide)) hk (fun _ h=>h.2)) (fun _ h=>h.1));replace BK621:=am (jh.blk hk (g':=gb621) (o:=.cells #[.slice Ao151 t617.length co151] 32 (0,0)) (kq BK621.out) NB621_0.out (by simp));replace HK:=am (jh.trans (Y11) hk (.inl rfl));replace HB:=am (hb);replace HI0:=am (hi);(try clear hb);(try clear hb2);(try clear hk);(try clear hi)))
      replace HO614:=am (Kd.jN HO614.out)
      replace HO619:=am (Kd.jN HO619.out)
      replace BK610:=am (jd BK610.out)
      replace BK611:=am (jd BK611.out)
      replace BK616:=am (jd BK616.out)
      replace BK621:=am (jd BK621.out)
      replace HI0:=am (jg.drew HI0.out)
      replace HK:=am (jka HK.out)
      replace HB:=am (jr HB.out)
      refine jPb (n:=4) (S:=fun w'=>w'.cell? ⟨gb616,0,none⟩=some (.slice Ao144 t612.length co144)∧w'.cell? ⟨gb621,0,none⟩=some (.slice Ao151 t617.length co151)) (ds:=[]) #[false,false,false,false] (by kernel_rfl) rfl rfl ⟨(jH BK616.out 0).trans rfl,(jH BK621.out 0).trans rfl⟩ (fun hHeld=>?_)
      generalize w158.drew=w159 at HO614 HO619 BK610 BK611 BK616 BK621 HI0 HK HB hHeld ⊢
      refine jwb (i:=0) (N:=some 65) (v:=?_) (a':=?_) #[true,false,false,false] rfl rfl (by kernel_rfl) (fun _ _ _ h=>h) (Or.inl ⟨by rfl,?_⟩) hHeld ?_ ?_
      rotate_left
      ·rintro w' ⟨s0,s1⟩
       go_simp
       with_reducible rfl
      rotate_left
      ·exact sa
      refine jwb (i:=1) (N:=some 66) (v:=?_) (a':=?_) #[true,true,false,false] rfl rfl (by kernel_rfl) (fun _ _ _ h=>h) (Or.inl ⟨by rfl,?_⟩) hHeld ?_ ?_
      rotate_left
      ·rintro w' ⟨s0,s1⟩
       go_simp
       with_reducible rfl
      rotate_left
      ·exact sa
      refine one_ (i:=2) (N:=none) #[true,true,true,false] rfl rfl (by kernel_rfl) (by decide) (fun K hK=>?_)
      have hs160:w159.cell? ⟨gb610,0,none⟩=some (.slice none 0 0):=(jH BK610.out 0).trans rfl
      have hfs160:=jf BK610.out 0
      have hns160_1:=NB611_610.out
      have hns160_2:=NB616_610.out
      have hns160_3:=NB621_610.out
      have hms160_1:=NB610_611.out
      have hms160_2:=NB610_616.out
      have hms160_3:=NB610_621.out
      refine jQb (w1:=?_) (by rfl) rfl ?_ ?_
      rotate_left
      ·go_simp
       rfl
      refine hK.out _ _ ⟨((cell_far (p:=⟨gb610,_,none⟩) NB616_610.out _).trans (hHeld.1)),((cell_far (p:=⟨gb610,_,none⟩) NB621_610.out _).trans (hHeld.2))⟩ (fun hHeld=>?_)
      clear hK K
      refine one_ (i:=3) (N:=none) #[true,true,true,true] rfl rfl (by kernel_rfl) (by decide) (fun K hK=>?_)
      have hs161:w159.cell? ⟨gb611,0,none⟩=some (.slice none 0 0):=(jH BK611.out 0).trans rfl
      have hfs161:=jf BK611.out 0
      have hns161_0:=NB610_611.out
      have hns161_2:=NB616_611.out
      have hns161_3:=NB621_611.out
      have hms161_0:=NB611_610.out
      have hms161_2:=NB611_616.out
      have hms161_3:=NB611_621.out
      refine jQb (w1:=?_) (by rfl) rfl ?_ ?_
      rotate_left
      ·go_simp
       rfl
      refine hK.out _ _ ⟨((cell_far (p:=⟨gb611,_,none⟩) NB616_611.out _).trans (hHeld.1)),((cell_far (p:=⟨gb611,_,none⟩) NB621_611.out _).trans (hHeld.2))⟩ (fun hHeld=>?_)
      clear hK K
      refine done_ (by kernel_rfl) ?_
      try go_wp2
      refine bodyPost_ret (jTb rfl _ _ gb610 gb611 37 32 #[.slice Ao144 t612.length co144] #[.slice Ao151 t617.length co151] (0,0) (0,0) _ _ rfl (Y77) Try.underlying37 rfl (by kernel_rfl) rfl (Y78) Try.underlying32 rfl (by kernel_rfl)) rfl ?_
      exact ⟨_,_,Y2,by (with_reducible repeat (first | apply Kd.jL | apply Kd.jM | apply Kd.jN));exact Kd.jD (Kd.jX (p:=⟨gb611,0,none⟩) (Kd.jX (p:=⟨gb610,0,none⟩) (Kd.jJ (Kd.jJ HO614.out BK610.out (by decide)) BK611.out (by decide)) (fun _ hk=>hk.1.2) (.slice Ao144 t612.length co144)) (fun _ hk=>hk.2) (.slice Ao151 t617.length co151)) (fun _ hk=>trivial),by (with_reducible repeat (first | apply Kd.jL | apply Kd.jM | apply Kd.jN));exact Kd.jD (Kd.jX (p:=⟨gb611,0,none⟩) (Kd.jX (p:=⟨gb610,0,none⟩) (Kd.jJ (Kd.jJ HO619.out BK610.out (by decide)) BK611.out (by decide)) (fun _ hk=>hk.1.2) (.slice Ao144 t612.length co144)) (fun _ hk=>hk.2) (.slice Ao151 t617.length co151)) (fun _ hk=>trivial),Y0,Y14,Y11⟩
 ·rw [if_neg c4] at H
  have c4b0:decide (0<(t617.length:Int))=false:=dzF c4
  have c4b1:decide (0<t617.length)=false:=dzF (by omega)
  clear c4
  simp only [Option.some.injEq,Prod.mk.injEq] at H
  obtain ⟨rfl,rfl,rfl⟩:=H
  go_enter Try.func61,Try.ntmps61
  try go_wp2_with (first |((with_reducible refine jI (N:=2) rfl ?_);refine bE (N:=2) (cs:=#[.slice none 0 0]) (t:=37) ?_;intro gb610 hg w162 hbox hb;have BK610:=am (hbox);have GW610:=am ((Y8:w.heap.size≤gb610));have GE610:=am ((Nat.le_trans HW0.out (Y8:w.heap.size≤gb610):w0.heap.size≤gb610));have NB0_610:=am ((Y26:g≠gb610));have NB610_0:=am ((Y27:gb610≠g));replace HK:=am (jh.trans (Y16) (jh.of_below hb g none) (.inl rfl));replace HB:=am (jl (Y17) hb);replace HI0:=am (jg.below (Y15) hb);clear hb hbox hg) |((with_reducible refine jI (N:=3) rfl ?_);refine bE (N:=3) (cs:=#[.slice none 0 0]) (t:=32) ?_;intro gb611 hg w163 hbox hb;have BK611:=am (hbox);have GW611:=am ((Y32:w.heap.size≤gb611));have GE611:=am ((Nat.le_trans HW0.out (Y32:w.heap.size≤gb611):w0.heap.size≤gb611));have NB610_611:=am ((Y20:gb610≠gb611));have NB611_610:=am ((Y21:gb611≠gb610));have NB0_611:=am ((Y65:g≠gb611));have NB611_0:=am ((Y66:gb611≠g));replace BK610:=am (je (g:=gb610) (o:=.cells #[.slice none 0 0] 37 (0,0)) (kq BK610.out) hb);replace HK:=am (jh.trans (Y67) (jh.of_below hb g none) (.inl rfl));replace HB:=am (jl (Y68) hb);replace HI0:=am (jg.below (Y69) hb);clear hb hbox hg) |((with_reducible refine jC (f:=87) rfl ?_);refine gL (some 8) Try.func87 #[.pointer (some ⟨g,0,none⟩)] ?_;(with_reducible refine (jca.calls k g s0_0 s0_1 t612 t615 w0 _ ?side1 ?side2 A2.out).mono ?_);(case side1=>exact Y33);(case side2=>exact Y34);rintro e w164 ⟨v613,rfl,ho0,hi,hb,hk⟩;refine ⟨_,rfl,?_⟩;have HO614:=am (Kd.jla ho0 (jma (w:=w) (g:=g) (row:=none) (Y22)));replace BK610:=am (jh.blk hk (g':=gb610) (o:=.cells #[.slice none 0 0] 37 (0,0)) (kq BK610.out) NB610_0.out (by simp));replace BK611:=am (jh.blk hk (g':=gb611) (o:=.cells #[.slice none 0 0] 32 (0,0)) (kq BK611.out) NB611_0.out (by simp));replace HK:=am (jh.trans (Y22) hk (.inl rfl));replace HB:=am (hb);replace HI0:=am (hi);(try clear hb);(try clear hb2);(try clear hk);(try clear hi);(try clear ho0)) |((with_reducible refine jI (N:=4) rfl ?_);refine bE (N:=4) (cs:=#[.slice none 0 0]) (t:=37) ?_;intro gb616 hg w165 hbox hb;have BK616:=am (hbox);have GW616:=am ((Y35:w.heap.size≤gb616));have GE616:=am ((Nat.le_trans HW0.out (Y35:w.heap.size≤gb616):w0.heap.size≤gb616));have NB610_616:=am ((Y20:gb610≠gb616));have NB616_610:=am ((Y21:gb616≠gb610));have NB611_616:=am ((Y36:gb611≠gb616));have NB616_611:=am ((Y37:gb616≠gb611));have NB0_616:=am ((Y70:g≠gb616));have NB616_0:=am ((Y71:gb616≠g));replace HO614:=am (Kd.jP (rq HO614.out) hb);replace BK610:=am (je (g:=gb610) (o:=.cells #[.slice none 0 0] 37 (0,0)) (kq BK610.out) hb);replace BK611:=am (je (g:=gb611) (o:=.cells #[.slice none 0 0] 32 (0,0)) (kq BK611.out) hb);replace HK:=am (jh.trans (Y22) (jh.of_below hb g none) (.inl rfl));replace HB:=am (jl (Y34) hb);replace HI0:=am (jg.below (Y33) hb);clear hb hbox hg;obtain ⟨Ao166,co166,eo166⟩:=Kd.jaa HO614.out;subst eo166;have hnb167:=NB616_610.out;have hnc167:=NB610_616.out;have hnb168:=NB616_611.out;have hnc168:=NB611_616.out;have hnb169:=NB616_0.out;have hnc169:=NB0_616.out;have hcz170_0:=bc0 BK616.out;have hfz170_0:=jf BK616.out 0) |((with_reducible refine jC (f:=62) rfl ?_);refine gL (some 11) Try.func62 #[.pointer (some ⟨g,0,none⟩), .agg #[.slice Ao166 t612.length co166]] ?_;(with_reducible refine (jv.calls k g s0_0 t615 _ _ t612 t617 t620 w0 _ ?side1 ?side2 ?side3 ?side4 A3.out).mono ?_);(case side1=>exact Y13);(case side2=>exact Y38);(case side3=>exact Kd.jJb (jg.apart (show jg w0 _ g s0_0 t615 from Y13) (Y197) (by decide)) (fun _ h_=>h_.2));(case side4=>exact (Kd.jB HO614.out).2.1);rintro e w171 ⟨v618,rfl,ho0,hi,hb,hk⟩;refine ⟨_,rfl,?_⟩;have HO619:=am (Kd.jla ho0 (jma (w:=w) (g:=g) (row:=none) (Y23)));replace BK610:=am (jh.blk hk (g':=gb610) (o:=.cells #[.slice none 0 0] 37 (0,0)) (Y72) NB610_0.out (by simp));replace BK611:=am (jh.blk hk (g':=gb611) (o:=.cells #[.slice none 0 0] 32 (0,0)) (Y73) NB611_0.out (by simp));replace HO614:=am (Kd.jD (Kd.jqa (jg.apart (show jg w0 _ g s0_0 t615 from Y13) (Y197) (by decide)) hk (fun _ h=>h.2)) (fun _ h=>h.1));replace BK616:=am (jh.blk hk (g':=gb616) (o:=.cells #[.slice Ao166 t612.length co166] 37 (0,0)) (Y74) NB616_0.out (by simp));replace HK:=am (jh.trans (Y23) hk (.inl rfl));replace HB:=am (hb);replace HI0:=am (hi);(try clear hb);(try clear hb2);(try clear hk);(try clear hi);(try clear ho0)) |((with_reducible refine jI (N:=5) rfl ?_);refine bE (N:=5) (cs:=#[.slice none 0 0]) (t:=32) ?_;intro gb621 hg w172 hbox hb;have BK621:=am (hbox);have GW621:=am ((Y39:w.heap.size≤gb621));have GE621:=am ((Nat.le_trans HW0.out (Y39:w.heap.size≤gb621):w0.heap.size≤gb621));have NB610_621:=am ((Y20:gb610≠gb621));have NB621_610:=am ((Y21:gb621≠gb610));have NB611_621:=am ((Y36:gb611≠gb621));have NB621_611:=am ((Y37:gb621≠gb611));have NB616_621:=am ((by rw [hg];exact Nat.ne_of_lt (jV (g:=gb616) (o:=.cells #[.slice Ao166 t612.length co166] 37 (0,0)) (kq BK616.out)):gb616≠gb621));have NB621_616:=am ((by rw [hg];exact Nat.ne_of_gt (jV (g:=gb616) (o:=.cells #[.slice Ao166 t612.length co166] 37 (0,0)) (kq BK616.out)):gb621≠gb616));have NB0_621:=am ((Y75:g≠gb621));have NB621_0:=am ((Y76:gb621≠g));replace HO614:=am (Kd.jP (rq HO614.out) hb);replace HO619:=am (Kd.jP (rq HO619.out) hb);replace BK610:=am (je (g:=gb610) (o:=.cells #[.slice none 0 0] 37 (0,0)) (kq BK610.out) hb);replace BK611:=am (je (g:=gb611) (o:=.cells #[.slice none 0 0] 32 (0,0)) (kq BK611.out) hb);replace BK616:=am (je (g:=gb616) (o:=.cells #[.slice Ao166 t612.length co166] 37 (0,0)) (kq BK616.out) hb);replace HK:=am (jh.trans (Y23) (jh.of_below hb g none) (.inl rfl));replace HB:=am (jl (Y38) hb);replace HI0:=am (jg.below (Y13) hb);clear hb hbox hg;obtain ⟨Ao173,co173,eo173⟩:=Kd.jaa HO619.out;subst eo173;have hnb174:=NB621_610.out;have hnc174:=NB610_621.out;have hnb175:=NB621_611.out;have hnc175:=NB611_621.out;have hnb176:=NB621_616.out;have hnc176:=NB616_621.out;have hnb177:=NB621_0.out;have hnc177:=NB0_621.out;have hcz178_0:=bc0 BK621.out;have hfz178_0:=jf BK621.out 0))
  have n0_:jw (Kd.R k94 94 (w172.setCell ⟨gb621,0,none⟩ (.slice Ao173 t617.length co173)) w.heap.size (fun _=>True) (.slice Ao166 t612.length co166) t612):=⟨by (with_reducible repeat (first | apply Kd.jL | apply Kd.jM | apply Kd.jN));exact Kd.jD (Kd.jX (p:=⟨gb621,0,none⟩) (Kd.jJ HO614.out BK621.out (by decide)) (fun _ hk=>hk.2) (.slice Ao173 t617.length co173)) (fun _ hk=>trivial)⟩
  have n1_:jw (Kd.R k54 54 (w172.setCell ⟨gb621,0,none⟩ (.slice Ao173 t617.length co173)) w.heap.size (fun _=>True) (.slice Ao173 t617.length co173) t617):=⟨by (with_reducible repeat (first | apply Kd.jL | apply Kd.jM | apply Kd.jN));exact Kd.jD (Kd.jX (p:=⟨gb621,0,none⟩) (Kd.jJ HO619.out BK621.out (by decide)) (fun _ hk=>hk.2) (.slice Ao173 t617.length co173)) (fun _ hk=>trivial)⟩
  have n2_:jw ((w172.setCell ⟨gb621,0,none⟩ (.slice Ao173 t617.length co173)).heap[gb610]?=some (.cells #[.slice none 0 0] 37 (0,0))):=⟨by (with_reducible repeat (first | refine jb ?_ _ | refine jd ?_ | refine jc ?_ _));refine jA ?_ NB610_621.out _;(with_reducible repeat (first | refine jb ?_ _ | refine jd ?_ | refine jc ?_ _));exact BK610.out⟩
  have n3_:jw ((w172.setCell ⟨gb621,0,none⟩ (.slice Ao173 t617.length co173)).heap[gb611]?=some (.cells #[.slice none 0 0] 32 (0,0))):=⟨by (with_reducible repeat (first | refine jb ?_ _ | refine jd ?_ | refine jc ?_ _));refine jA ?_ NB611_621.out _;(with_reducible repeat (first | refine jb ?_ _ | refine jd ?_ | refine jc ?_ _));exact BK611.out⟩
  have n4_:jw ((w172.setCell ⟨gb621,0,none⟩ (.slice Ao173 t617.length co173)).heap[gb616]?=some (.cells #[.slice Ao166 t612.length co166] 37 (0,0))):=⟨by (with_reducible repeat (first | refine jb ?_ _ | refine jd ?_ | refine jc ?_ _));refine jA ?_ NB616_621.out _;(with_reducible repeat (first | refine jb ?_ _ | refine jd ?_ | refine jc ?_ _));exact BK616.out⟩
  have n5_:jw ((w172.setCell ⟨gb621,0,none⟩ (.slice Ao173 t617.length co173)).heap[gb621]?=some (.cells #[.slice Ao173 t617.length co173] 32 (0,0))):=⟨by (with_reducible repeat (first | refine jb ?_ _ | refine jd ?_ | refine jc ?_ _));refine jfa (cs:=#[.slice none 0 0]) ?_ 0 _ rfl;(with_reducible repeat (first | refine jb ?_ _ | refine jd ?_ | refine jc ?_ _));exact BK621.out⟩
  have n6_:jw (jg w0 (w172.setCell ⟨gb621,0,none⟩ (.slice Ao173 t617.length co173)) g s0_0 t620):=⟨Y0⟩
  have n7_:jw (jh w (w172.setCell ⟨gb621,0,none⟩ (.slice Ao173 t617.length co173)) g none):=⟨Y11⟩
  have n8_:jw (Below w0.heap.size w0 (w172.setCell ⟨gb621,0,none⟩ (.slice Ao173 t617.length co173))):=⟨Y14⟩
  (try clear HO614)
  (try clear HO619)
  (try clear BK610)
  (try clear BK611)
  (try clear BK616)
  (try clear BK621)
  (try clear HI0)
  (try clear HK)
  (try clear HB)
  generalize (w172.setCell ⟨gb621,0,none⟩ (.slice Ao173 t617.length co173))=w179 at n0_ n1_ n2_ n3_ n4_ n5_ n6_ n7_ n8_ ⊢
  have HO614:=n0_
  have HO619:=n1_
  have BK610:=n2_
  have BK611:=n3_
  have BK616:=n4_
  have BK621:=n5_
  have HI0:=n6_
  have HK:=n7_
  have HB:=n8_
  clear n0_ n1_ n2_ n3_ n4_ n5_ n6_ n7_ n8_
  replace HO614:=am (Kd.jN HO614.out)
  replace HO619:=am (Kd.jN HO619.out)
  replace BK610:=am (jd BK610.out)
  replace BK611:=am (jd BK611.out)
  replace BK616:=am (jd BK616.out)
  replace BK621:=am (jd BK621.out)
  replace HI0:=am (jg.drew HI0.out)
  replace HK:=am (jka HK.out)
  replace HB:=am (jr HB.out)
  refine jPb (n:=4) (S:=fun w'=>w'.cell? ⟨gb616,0,none⟩=some (.slice Ao166 t612.length co166)∧w'.cell? ⟨gb621,0,none⟩=some (.slice Ao173 t617.length co173)) (ds:=[]) #[false,false,false,false] (by kernel_rfl) rfl rfl ⟨(jH BK616.out 0).trans rfl,(jH BK621.out 0).trans rfl⟩ (fun hHeld=>?_)
  generalize w179.drew=w180 at HO614 HO619 BK610 BK611 BK616 BK621 HI0 HK HB hHeld ⊢
  refine jwb (i:=0) (N:=some 65) (v:=?_) (a':=?_) #[true,false,false,false] rfl rfl (by kernel_rfl) (fun _ _ _ h=>h) (Or.inl ⟨by rfl,?_⟩) hHeld ?_ ?_
  rotate_left
  ·rintro w' ⟨s0,s1⟩
   go_simp
   with_reducible rfl
  rotate_left
  ·exact sa
  refine jwb (i:=1) (N:=some 66) (v:=?_) (a':=?_) #[true,true,false,false] rfl rfl (by kernel_rfl) (fun _ _ _ h=>h) (Or.inl ⟨by rfl,?_⟩) hHeld ?_ ?_
  rotate_left
  ·rintro w' ⟨s0,s1⟩
   go_simp
   with_reducible rfl
  rotate_left
  ·exact sa
  refine one_ (i:=2) (N:=none) #[true,true,true,false] rfl rfl (by kernel_rfl) (by decide) (fun K hK=>?_)
  have hs181:w180.cell? ⟨gb610,0,none⟩=some (.slice none 0 0):=(jH BK610.out 0).trans rfl
  have hfs181:=jf BK610.out 0
  have hns181_1:=NB611_610.out
  have hns181_2:=NB616_610.out
  have hns181_3:=NB621_610.out
  have hms181_1:=NB610_611.out
  have hms181_2:=NB610_616.out
  have hms181_3:=NB610_621.out
  refine jQb (w1:=?_) (by rfl) rfl ?_ ?_
  rotate_left
  ·go_simp
   rfl
  refine hK.out _ _ ⟨((cell_far (p:=⟨gb610,_,none⟩) NB616_610.out _).trans (hHeld.1)),((cell_far (p:=⟨gb610,_,none⟩) NB621_610.out _).trans (hHeld.2))⟩ (fun hHeld=>?_)
  clear hK K
  refine one_ (i:=3) (N:=none) #[true,true,true,true] rfl rfl (by kernel_rfl) (by decide) (fun K hK=>?_)
  have hs182:w180.cell? ⟨gb611,0,none⟩=some (.slice none 0 0):=(jH BK611.out 0).trans rfl
  have hfs182:=jf BK611.out 0
  have hns182_0:=NB610_611.out
  have hns182_2:=NB616_611.out
  have hns182_3:=NB621_611.out
  have hms182_0:=NB611_610.out
  have hms182_2:=NB611_616.out
  have hms182_3:=NB611_621.out
  refine jQb (w1:=?_) (by rfl) rfl ?_ ?_
  rotate_left
  ·go_simp
   rfl
  refine hK.out _ _ ⟨((cell_far (p:=⟨gb611,_,none⟩) NB616_611.out _).trans (hHeld.1)),((cell_far (p:=⟨gb611,_,none⟩) NB621_611.out _).trans (hHeld.2))⟩ (fun hHeld=>?_)
  clear hK K
  refine done_ (by kernel_rfl) ?_
  try go_wp2
  refine bodyPost_ret (jTb rfl _ _ gb610 gb611 37 32 #[.slice Ao166 t612.length co166] #[.slice Ao173 t617.length co173] (0,0) (0,0) _ _ rfl (Y77) Try.underlying37 rfl (by kernel_rfl) rfl (Y78) Try.underlying32 rfl (by kernel_rfl)) rfl ?_
  exact ⟨_,_,Y2,by (with_reducible repeat (first | apply Kd.jL | apply Kd.jM | apply Kd.jN));exact Kd.jD (Kd.jX (p:=⟨gb611,0,none⟩) (Kd.jX (p:=⟨gb610,0,none⟩) (Kd.jJ (Kd.jJ HO614.out BK610.out (by decide)) BK611.out (by decide)) (fun _ hk=>hk.1.2) (.slice Ao166 t612.length co166)) (fun _ hk=>hk.2) (.slice Ao173 t617.length co173)) (fun _ hk=>trivial),by (with_reducible repeat (first | apply Kd.jL | apply Kd.jM | apply Kd.jN));exact Kd.jD (Kd.jX (p:=⟨gb611,0,none⟩) (Kd.jX (p:=⟨gb610,0,none⟩) (Kd.jJ (Kd.jJ HO619.out BK610.out (by decide)) BK611.out (by decide)) (fun _ hk=>hk.1.2) (.slice Ao166 t612.length co166)) (fun _ hk=>hk.2) (.slice Ao173 t617.length co173)) (fun _ hk=>trivial),Y0,Y14,Y11⟩
end Go.Proofs.Ytecdfgejmbpclaa.P
end
