/- One part of the proofs on this program: functions of the program as plain functions, that the code comes to them, and facts on them. -/
import Derived.Test.YteibechlncphnaaDoorYAll1
import Derived.Test.YteibechlncphnaaDoorYAll5
import Derived.Test.YteibechlncphnaaDoorYAll6
import Derived.Test.YteibechlncphnaaDoorYAll7
import Derived.Test.YteibechlncphnaaDoorYWAuto
section
namespace Go.Proofs.YteibechlncphnaaDoor.P
open Go.RowKit Go.Proofs.YteibechlncphnaaDoorW.PrintWords Go.Proofs.YteibechlncphnaaDoorW.PrintLast Go.Proofs.YteibechlncphnaaDoorW.PrintMore
attribute [local go_sem] jva jta jAa jza jga jfa jua jsa jA
set_option linter.unusedVariables false
set_option linter.unusedSimpArgs false
def jtb.f (k : Nat) (l0_0 : List (S99)) (a1 : Int) (a2 : Int) : Option (ByteArray) := if 0 ≤ a1 then (if a1 < (l0_0.length : Int) then (if ((jL l0_0 a1).f0).size + 1 ≤ 9223372036854775807 then ((jSa.f k a2).bind fun t485 => (if (((jL l0_0 a1).f0) ++ (⟨#[58]⟩ : ByteArray)).size + t485.size ≤ 9223372036854775807 then (some ((((jL l0_0 a1).f0) ++ (⟨#[58]⟩ : ByteArray)) ++ t485)) else (none))) else (none)) else (none)) else (none)
set_option maxHeartbeats 8000000 in
set_option maxRecDepth 100000 in
theorem jtb.calls (k : Nat) (A0_0 : Option Addr) (c0_0 : Nat) (l0_0 : List (S99)) (a1 : Int) (a2 : Int) (r : ByteArray) (w : World) (hr0_0 : Kd.C k99 w A0_0 l0_0.length l0_0) (hc0_0 : l0_0.length ≤ c0_0) (h : jtb.f k l0_0 a1 a2 = some r) :
  Calls Tryd.prog 61 #[.agg #[.slice A0_0 l0_0.length c0_0], .int .i64 a1, .int .i64 a2] w fun e w'=>e=.returned (.string r)∧Below w.heap.size w w':=by
 have hu25:=Tryd.underlying25
 have HR0_0:=am hr0_0
 have HC0_0:=am hc0_0
 clear hr0_0 hc0_0
 have HB:=am (Below.refl w.heap.size w)
 have H:(if 0≤a1 then (if a1<(l0_0.length:Int) then (if ((jL l0_0 a1).f0).size+1≤9223372036854775807 then ((jSa.f k a2).bind fun t485=>(if (((jL l0_0 a1).f0) ++ (⟨#[58]⟩:ByteArray)).size+t485.size≤9223372036854775807 then (some ((((jL l0_0 a1).f0) ++ (⟨#[58]⟩:ByteArray)) ++ t485)) else (none))) else (none)) else (none)) else (none))=some r:=h
 clear h
 by_cases c4:0≤a1
 ·rw [if_pos c4] at H
  have c4b0:decide (0≤a1)=true:=dzT c4
  clear c4
  by_cases c5:a1<(l0_0.length:Int)
  ·rw [if_pos c5] at H
   have c5b0:decide (a1<(l0_0.length:Int))=true:=dzT c5
   clear c5
   by_cases c6:((jL l0_0 a1).f0).size+1≤9223372036854775807
   ·rw [if_pos c6] at H
    have c6b0:=ezT c6
    have c6b1:decide (((jL l0_0 a1).f0).size+1≤9223372036854775807)=true:=dzT c6
    try have c6b2:(9223372036854775807<((jL l0_0 a1).f0).size+1)=False:=eq_false (Nat.not_lt.2 c6)
    replace H:=bzS H
    obtain ⟨t485,A70,H⟩:=H
    replace H:(if (((jL l0_0 a1).f0) ++ (⟨#[58]⟩:ByteArray)).size+t485.size≤9223372036854775807 then (some ((((jL l0_0 a1).f0) ++ (⟨#[58]⟩:ByteArray)) ++ t485)) else (none))=some r:=H
    have A7:=am A70
    clear A70
    by_cases c8:(((jL l0_0 a1).f0) ++ (⟨#[58]⟩:ByteArray)).size+t485.size≤9223372036854775807
    ·rw [if_pos c8] at H
     have c8b0:=ezT c8
     have c8b1:decide ((((jL l0_0 a1).f0) ++ (⟨#[58]⟩:ByteArray)).size+t485.size≤9223372036854775807)=true:=dzT c8
     try have c8b2:(9223372036854775807<(((jL l0_0 a1).f0) ++ (⟨#[58]⟩:ByteArray)).size+t485.size)=False:=eq_false (Nat.not_lt.2 c8)
     try have c8s:(9223372036854775807<((jL l0_0 a1).f0).size+1+t485.size)=False:=eq_false (Nat.not_lt.2 (by have h_:=c8;simp only [ByteArray.size_append] at h_;exact h_))
     obtain rfl:=Option.some.inj H
     go_enter Tryd.func61,Tryd.ntmps61
     go_wp2_with (first |((with_reducible refine jD (N:=3) rfl ?_);refine bE (N:=3) (cs:=#[.slice A0_0 l0_0.length c0_0]) (t:=25) ?_;intro gb483 hg w9 hbox hb;have BK483:=am (hbox);have GW483:=am ((Y0:w.heap.size≤gb483));have GE483:=am ((Y0:w.heap.size≤gb483));replace HB:=am (je (bq) hb);clear hb hbox hg;have hcz10_0:=bc0 BK483.out;have hfz10_0:=jb BK483.out 0;have p484:0≤(a1:Int):=ozD (uq);have q484:a1<(l0_0.length:Int):=ozD (uq);obtain ⟨ad484,e484,hx484_0,hx484_1⟩:=at_T99 HR0_0.out a1 p484 q484;cases e484;replace hx484_0:=cb HB.out hx484_0;replace hx484_1:=cb HB.out hx484_1;replace p484:=ezT p484;replace q484:=ezT q484) |(go_at_call 87;(with_reducible refine (jSa.calls k a2 t485 _ A7.out).mono ?_);rintro e w' ⟨rfl,⟨nd,rfl⟩⟩;(try first | exact ⟨rfl,_,World.drewN_drewN _ _ _⟩ | exact ⟨rfl,_,Eq.trans (World.drewN_drewN _ _ _) (congrArg (World.drewN _) (Nat.add_assoc _ _ _))⟩)))
     repeat (go_quiet (first |((with_reducible refine jD (N:=3) rfl ?_);refine bE (N:=3) (cs:=#[.slice A0_0 l0_0.length c0_0]) (t:=25) ?_;intro gb483 hg w9 hbox hb;have BK483:=am (hbox);have GW483:=am ((Y0:w.heap.size≤gb483));have GE483:=am ((Y0:w.heap.size≤gb483));replace HB:=am (je (bq) hb);clear hb hbox hg;have hcz10_0:=bc0 BK483.out;have hfz10_0:=jb BK483.out 0;have p484:0≤(a1:Int):=ozD (uq);have q484:a1<(l0_0.length:Int):=ozD (uq);obtain ⟨ad484,e484,hx484_0,hx484_1⟩:=at_T99 HR0_0.out a1 p484 q484;cases e484;replace hx484_0:=cb HB.out hx484_0;replace hx484_1:=cb HB.out hx484_1;replace p484:=ezT p484;replace q484:=ezT q484) |(go_at_call 87;(with_reducible refine (jSa.calls k a2 t485 _ A7.out).mono ?_);rintro e w' ⟨rfl,⟨nd,rfl⟩⟩;(try first | exact ⟨rfl,_,World.drewN_drewN _ _ _⟩ | exact ⟨rfl,_,Eq.trans (World.drewN_drewN _ _ _) (congrArg (World.drewN _) (Nat.add_assoc _ _ _))⟩)));try go_wp2_with (first |((with_reducible refine jD (N:=3) rfl ?_);refine bE (N:=3) (cs:=#[.slice A0_0 l0_0.length c0_0]) (t:=25) ?_;intro gb483 hg w9 hbox hb;have BK483:=am (hbox);have GW483:=am ((Y0:w.heap.size≤gb483));have GE483:=am ((Y0:w.heap.size≤gb483));replace HB:=am (je (bq) hb);clear hb hbox hg;have hcz10_0:=bc0 BK483.out;have hfz10_0:=jb BK483.out 0;have p484:0≤(a1:Int):=ozD (uq);have q484:a1<(l0_0.length:Int):=ozD (uq);obtain ⟨ad484,e484,hx484_0,hx484_1⟩:=at_T99 HR0_0.out a1 p484 q484;cases e484;replace hx484_0:=cb HB.out hx484_0;replace hx484_1:=cb HB.out hx484_1;replace p484:=ezT p484;replace q484:=ezT q484) |(go_at_call 87;(with_reducible refine (jSa.calls k a2 t485 _ A7.out).mono ?_);rintro e w' ⟨rfl,⟨nd,rfl⟩⟩;(try first | exact ⟨rfl,_,World.drewN_drewN _ _ _⟩ | exact ⟨rfl,_,Eq.trans (World.drewN_drewN _ _ _) (congrArg (World.drewN _) (Nat.add_assoc _ _ _))⟩))))
     go_ret
     exact ⟨Y1,by repeat (first |(with_reducible first | exact HB.out | apply jv | apply jo | apply jq | refine jl ?_ GE483.out) | exact HB.out)⟩
    ·rw [if_neg c8] at H
     exact absurd H (by simp)
   ·rw [if_neg c6] at H
    exact absurd H (by simp)
  ·rw [if_neg c5] at H
   exact absurd H (by simp)
 ·rw [if_neg c4] at H
  exact absurd H (by simp)
mutual
def jE.l0 : Nat → List Int → ByteArray → Int → List (S99) → List (S66) → Option (ByteArray)
 | 0,_,_,_,_,_=>none
 | k+1,x7,x8,x9,x487000,x488000=>if x9≥0 then (if 0≤x9 then (if x9<(x7.length:Int) then (if 0≤(rd x7 x9) then (if (rd x7 x9)<(x488000.length:Int) then ((jtb.f k x487000 ((ja x488000 (rd x7 x9)).f0) ((ja x488000 (rd x7 x9)).f1)).bind fun t494=>(if x8.size+t494.size≤9223372036854775807 then (if x9 > 0 then (if 0≤(wrap64 (x9 - 1)) then (if (wrap64 (x9 - 1))<(x7.length:Int) then (if 0≤(rd x7 (wrap64 (x9 - 1))) then (if (rd x7 (wrap64 (x9 - 1)))<(x488000.length:Int) then (jE.j1 k x7 (x8 ++ t494) x9 (decide (((ja x488000 (rd x7 (wrap64 (x9 - 1)))).f2)≥0)) x487000 x488000) else (none)) else (none)) else (none)) else (none)) else (jE.j1 k x7 (x8 ++ t494) x9 false x487000 x488000)) else (none))) else (none)) else (none)) else (none)) else (none)) else (some x8)
def jE.j1 : Nat → List Int → ByteArray → Int → Bool → List (S99) → List (S66) → Option (ByteArray)
 | 0,_,_,_,_,_,_=>none
 | k+1,x7,x8,x9,x51,x487000,x488000=>if x51=true then (if x8.size+3≤9223372036854775807 then (jE.l0 k x7 (x8 ++ (⟨#[32,62,32]⟩:ByteArray)) (wrap64 (x9 - 1)) x487000 x488000) else (none)) else (if x9 > 0 then (if x8.size+3≤9223372036854775807 then (jE.l0 k x7 (x8 ++ (⟨#[32,126,32]⟩:ByteArray)) (wrap64 (x9 - 1)) x487000 x488000) else (none)) else (jE.l0 k x7 x8 (wrap64 (x9 - 1)) x487000 x488000))
end
def jE.f (k : Nat) (l0_0 : List (S99)) (l1_0 : List (S66)) (a2 : Int) : Option (ByteArray) := (jNa.f k l1_0 a2).bind fun t488 => (jE.l0 k t488 (⟨#[]⟩ : ByteArray) (wrap64 ((t488.length : Int) - 1)) l0_0 l1_0)
def jE.T6 : Bool × List (List Nat × List Nat) := (true, [([], []), ([0], [0]), ([], []), ([], []), ([2, 3], [2, 3]), ([4], [4]), ([1, 5], [1, 5]), ([6], [6]), ([], []), ([8, 7, 0, 1, 2, 3, 4, 5, 6, 7, 8], [7, 8])])
def jE.B6 : List Nat := [0, 1, 0, 0, 12, 28, 63, 127, 0, 511]
theorem jE.tab6 : rtab .any (opsOf Tryd.f36 6) = jE.T6 := by kernel_rfl
theorem jE.bits6 : jLb jE.T6.2 jE.B6 = true := by kernel_rfl
def jE.T8 : Bool × List (List Nat × List Nat) := (true, [([], []), ([0], [0]), ([1], [1]), ([2], [2]), ([3, 2], [2, 3]), ([2], [2]), ([2], [2]), ([6, 2], [2, 6]), ([5, 7, 2], [2, 5, 7]), ([8, 2], [2, 8]), ([4, 9, 2], [2, 4, 9]), ([10, 2], [2, 10]), ([11, 2], [2, 11]), ([12, 2], [2, 12]), ([2, 13], [2, 13])])
def jE.B8 : List Nat := [0, 1, 3, 7, 15, 7, 7, 71, 231, 487, 1023, 2047, 4095, 8191, 16383]
theorem jE.tab8 : rtab .any (opsOf Tryd.f36 8) = jE.T8 := by kernel_rfl
theorem jE.bits8 : jLb jE.T8.2 jE.B8 = true := by kernel_rfl
set_option maxHeartbeats 8000000 in
set_option maxRecDepth 100000 in
theorem jE.calls (k : Nat) (A0_0 : Option Addr) (c0_0 : Nat) (l0_0 : List (S99)) (A1_0 : Option Addr) (c1_0 : Nat) (l1_0 : List (S66)) (a2 : Int) (r : ByteArray) (w : World) (hr0_0 : Kd.C k99 w A0_0 l0_0.length l0_0) (hc0_0 : l0_0.length ≤ c0_0) (hr1_0 : Kd.C k66 w A1_0 l1_0.length l1_0) (hc1_0 : l1_0.length ≤ c1_0) (h : jE.f k l0_0 l1_0 a2 = some r) :
  Calls Tryd.prog 36 #[.agg #[.slice A0_0 l0_0.length c0_0], .agg #[.slice A1_0 l1_0.length c1_0], .int .i64 a2] w fun e w'=>e=.returned (.string r)∧Below w.heap.size w w':=by
 have hu25:=Tryd.underlying25
 have hu28:=Tryd.underlying28
 have hu66:=Tryd.underlying66
 have HR0_0:=am hr0_0
 have HC0_0:=am hc0_0
 clear hr0_0 hc0_0
 have HR1_0:=am hr1_0
 have HC1_0:=am hc1_0
 clear hr1_0 hc1_0
 have HB:=am (Below.refl w.heap.size w)
 have H:((jNa.f k l1_0 a2).bind fun t488=>(jE.l0 k t488 (⟨#[]⟩:ByteArray) (wrap64 ((t488.length:Int) - 1)) l0_0 l1_0))=some r:=h
 clear h
 replace H:=bzS H
 obtain ⟨t488,A40,H⟩:=H
 replace H:(jE.l0 k t488 (⟨#[]⟩:ByteArray) (wrap64 ((t488.length:Int) - 1)) l0_0 l1_0)=some r:=H
 have A4:=am A40
 clear A40
 have H':=am H
 clear H
 go_enter Tryd.func36,Tryd.ntmps36
 go_wp2_with (first |((with_reducible refine jD (N:=3) rfl ?_);refine bE (N:=3) (cs:=#[.slice A0_0 l0_0.length c0_0]) (t:=25) ?_;intro gb486 hg w5 hbox hb;have BK486:=am (hbox);have GW486:=am ((Y0:w.heap.size≤gb486));have GE486:=am ((Y0:w.heap.size≤gb486));replace HB:=am (je (bq) hb);clear hb hbox hg) |((with_reducible refine jD (N:=4) rfl ?_);refine bE (N:=4) (cs:=#[.slice A1_0 l1_0.length c1_0]) (t:=28) ?_;intro gb487 hg w6 hbox hb;have BK487:=am (hbox);have GW487:=am ((Y179:w.heap.size≤gb487));have GE487:=am ((Y179:w.heap.size≤gb487));have NB486_487:=am ((by rw [hg];exact Nat.ne_of_lt (jda (g:=gb486) (o:=.cells #[.slice A0_0 l0_0.length c0_0] 25 (0,0)) (kq BK486.out)):gb486≠gb487));have NB487_486:=am ((by rw [hg];exact Nat.ne_of_gt (jda (g:=gb486) (o:=.cells #[.slice A0_0 l0_0.length c0_0] 25 (0,0)) (kq BK486.out)):gb487≠gb486));replace BK486:=am (jc (g:=gb486) (o:=.cells #[.slice A0_0 l0_0.length c0_0] 25 (0,0)) (kq BK486.out) hb);replace HB:=am (je (by repeat (first |(with_reducible first | exact HB.out | apply jv | apply jo | apply jq | refine jl ?_ GE486.out) | exact HB.out)) hb);clear hb hbox hg;have hnb7:=NB487_486.out;have hnc7:=NB486_487.out;have hcz8_0:=bc0 BK487.out;have hfz8_0:=jb BK487.out 0) |((with_reducible refine jw (f:=32) rfl ?_);refine gL (some 13) Tryd.func32 #[.agg #[.slice A1_0 l1_0.length c1_0], .int .i64 a2] ?_;(with_reducible refine (jNa.calls k _ _ l1_0 a2 t488 _ ?side1 ?side2 A4.out).mono ?_);(case side1=>exact cq (Kd.jU HR1_0.out HB.out));(case side2=>exact HC1_0.out);rintro e w9 ⟨v489,rfl,ho0,hb⟩;refine ⟨_,rfl,?_⟩;have HO490:=am (Kd.jia ho0 (jM (Y94)));replace BK486:=am (jc (g:=gb486) (o:=.cells #[.slice A0_0 l0_0.length c0_0] 25 (0,0)) (kq BK486.out) hb);replace BK487:=am (jc (g:=gb487) (o:=.cells #[.slice A1_0 l1_0.length c1_0] 28 (0,0)) (kq BK487.out) hb);replace HB:=am (je (Y94) hb);(try clear hb);(try clear hb2);(try clear hk);(try clear hi);(try clear ho0);obtain ⟨Ao10,co10,eo10⟩:=Kd.jZ HO490.out;subst eo10))
 go_loopg [8,9] k (fun kq v8 v9 w'=>∃ (x8_1:ByteArray) (x9_1:Int),v8=.string x8_1∧v9=.int .i64 x9_1∧jB (jE.l0 kq t488 x8_1 x9_1 l0_0 l1_0=some r)∧jB (kq≤k)∧jB (Kd.R (Kd.int .i64) 3 w' w.heap.size (fun _=>True) (.slice Ao10 t488.length co10) t488)∧jB (w'.heap[gb486]?=some (.cells #[(.slice A0_0 l0_0.length c0_0)] 25 (0,0)))∧jB (w'.heap[gb487]?=some (.cells #[(.slice A1_0 l1_0.length c1_0)] 28 (0,0)))∧jB (Below w.heap.size w w'))
 case atStart=>exact ⟨((⟨#[]⟩:ByteArray)),(wrap64 ((t488.length:Int) - 1)),(sq),(sq),H',⟨Nat.le_refl _⟩,⟨rq HO490.out⟩,⟨kq BK486.out⟩,⟨kq BK487.out⟩,⟨Y94⟩⟩
 case round =>
  clear H'
  try clear c1
  try clear p2
  try clear c3
  try clear p6
  try clear c7
  try clear hcz8_0
  try clear hfz8_0
  obtain ⟨x8_1,x9_1,rfl,rfl,HA,HK1,HO_7,BK486,BK487,HB⟩:=hrel
  cases gk with
  | zero=>exact absurd HA.out (by simp [jE.l0])
  | succ k1 =>
   have H:=HA.out
   clear HA
   simp only [jE.l0] at H
   by_cases c11:x9_1≥0
   ·rw [if_pos c11] at H
    have c11b0:decide (0≤x9_1)=true:=dzT c11
    clear c11
    by_cases c12:0≤x9_1
    ·rw [if_pos c12] at H
     have c12b0:decide (0≤x9_1)=true:=dzT c12
     clear c12
     by_cases c13:x9_1<(t488.length:Int)
     ·rw [if_pos c13] at H
      have c13b0:decide (x9_1<(t488.length:Int))=true:=dzT c13
      clear c13
      by_cases c14:0≤(rd t488 x9_1)
      ·rw [if_pos c14] at H
       have c14b0:decide (0≤(rd t488 x9_1))=true:=dzT c14
       clear c14
       by_cases c15:(rd t488 x9_1)<(l1_0.length:Int)
       ·rw [if_pos c15] at H
        have c15b0:decide ((rd t488 x9_1)<(l1_0.length:Int))=true:=dzT c15
        clear c15
        replace H:=bzS H
        obtain ⟨t494,A160,H⟩:=H
        replace H:(if x8_1.size+t494.size≤9223372036854775807 then (if x9_1 > 0 then (if 0≤(wrap64 (x9_1 - 1)) then (if (wrap64 (x9_1 - 1))<(t488.length:Int) then (if 0≤(rd t488 (wrap64 (x9_1 - 1))) then (if (rd t488 (wrap64 (x9_1 - 1)))<(l1_0.length:Int) then (jE.j1 k1 t488 (x8_1 ++ t494) x9_1 (decide (((ja l1_0 (rd t488 (wrap64 (x9_1 - 1)))).f2)≥0)) l0_0 l1_0) else (none)) else (none)) else (none)) else (none)) else (jE.j1 k1 t488 (x8_1 ++ t494) x9_1 false l0_0 l1_0)) else (none))=some r:=H
        have A16:=am A160
        clear A160
        by_cases c17:x8_1.size+t494.size≤9223372036854775807
        ·rw [if_pos c17] at H
         have c17b0:=ezT c17
         have c17b1:decide (x8_1.size+t494.size≤9223372036854775807)=true:=dzT c17
         try have c17b2:(9223372036854775807<x8_1.size+t494.size)=False:=eq_false (Nat.not_lt.2 c17)
         have HC18:=am H
         clear H
         try go_wp2
         replace HO_7:=am (Kd.jV HO_7.out)
         replace BK486:=am (jf BK486.out)
         replace BK487:=am (jf BK487.out)
         replace HB:=am (jq HB.out)
         have p491:0≤(x9_1:Int):=ozD (uq)
         have q491:x9_1<(t488.length:Int):=ozD (uq)
         obtain ⟨ad491,e491,hx491_0⟩:=Kd.jNb (Kd.jC HO_7.out).2.2 x9_1 p491 q491
         cases e491
         replace p491:=ezT p491
         replace q491:=ezT q491
         have p492:0≤((rd t488 x9_1):Int):=ozD (uq)
         have q492:(rd t488 x9_1)<(l1_0.length:Int):=ozD (uq)
         obtain ⟨ad492,e492,hx492_0,hx492_1,hx492_2,hx492_3,hx492_4⟩:=jlb HR1_0.out (rd t488 x9_1) p492 q492
         have hw492_4:=hx492_4
         have hw492_3:=hx492_3
         have hw492_2:=hx492_2
         have hw492_1:=hx492_1
         have hw492_0:=hx492_0
         cases e492
         replace hx492_0:=cb HB.out hx492_0
         replace hx492_1:=cb HB.out hx492_1
         replace hx492_2:=cb HB.out hx492_2
         replace hx492_3:=cb HB.out hx492_3
         replace hx492_4:=cb HB.out hx492_4
         replace p492:=ezT p492
         replace q492:=ezT q492
         refine jVb (n:=10) (S:=fun w'=>w'.cell? ⟨gb487,0,none⟩=some (.slice (some ad492) l1_0.length c1_0)∧w'.cell? (ad491.add (x9_1).toNat)=some (.int .i64 (rd t488 x9_1))∧w'.cell? (ad492.add (((rd t488 x9_1)).toNat * 5))=some (.int .i64 ((ja l1_0 (rd t488 x9_1)).f0))∧w'.cell? ⟨(ad492.add (((rd t488 x9_1)).toNat * 5)).block,(ad492.add (((rd t488 x9_1)).toNat * 5)).off+1,none⟩=some (.int .i64 ((ja l1_0 (rd t488 x9_1)).f1))∧w'.cell? ⟨(ad492.add (((rd t488 x9_1)).toNat * 5)).block,(ad492.add (((rd t488 x9_1)).toNat * 5)).off+2,none⟩=some (.int .i64 ((ja l1_0 (rd t488 x9_1)).f2))∧w'.cell? ⟨(ad492.add (((rd t488 x9_1)).toNat * 5)).block,(ad492.add (((rd t488 x9_1)).toNat * 5)).off+3,none⟩=some (.int .i64 ((ja l1_0 (rd t488 x9_1)).f3))∧w'.cell? ⟨(ad492.add (((rd t488 x9_1)).toNat * 5)).block,(ad492.add (((rd t488 x9_1)).toNat * 5)).off+4,none⟩=some (.bool ((ja l1_0 (rd t488 x9_1)).f4))) (ds:=[]) #[false,false,false,false,false,false,false,false,false,false] (by kernel_rfl) rfl rfl ⟨(jH BK487.out 0).trans rfl,hx491_0,((HB.out.cell (World.block_lt_of_cell? w _ hw492_0)).trans hw492_0),((HB.out.cell (World.block_lt_of_cell? w _ hw492_1)).trans hw492_1),((HB.out.cell (World.block_lt_of_cell? w _ hw492_2)).trans hw492_2),((HB.out.cell (World.block_lt_of_cell? w _ hw492_3)).trans hw492_3),((HB.out.cell (World.block_lt_of_cell? w _ hw492_4)).trans hw492_4)⟩ (fun hHeld=>?_);refine jxb jE.tab6 jE.bits6 (fun HT_ HW_=>?_)
         generalize wr.drew=w19 at HO_7 BK486 BK487 HB hx491_0 hx492_0 hx492_1 hx492_2 hx492_3 hx492_4 hHeld ⊢
         refine pq (i:=0) (N:=some 21) #[true,false,false,false,false,false,false,false,false,false] ?_
         refine pq (i:=2) (N:=some 23) #[true,false,true,false,false,false,false,false,false,false] ?_
         refine pq (i:=3) (N:=some 24) #[true,false,true,true,false,false,false,false,false,false] ?_
         refine pq (i:=4) (N:=some 25) #[true,false,true,true,true,false,false,false,false,false] ?_
         refine jAb (i:=1) (N:=some 22) (v:=?_) (a':=?_) #[true,true,true,true,true,false,false,false,false,false] rfl rfl (jWa HT_.out HW_.out (by kernel_rfl)) (fun _ _ _ h=>h) (Or.inl ⟨by rfl,?_⟩) hHeld ?_ ?_
         rotate_left
         ·rintro w' ⟨s0,s1,s2,s3,s4,s5,s6⟩
          go_simp
          with_reducible rfl
         rotate_left
         ·exact sa
         refine jAb (i:=5) (N:=some 26) (v:=?_) (a':=?_) #[true,true,true,true,true,true,false,false,false,false] rfl rfl (jWa HT_.out HW_.out (by kernel_rfl)) (fun _ _ _ h=>h) (Or.inl ⟨by rfl,?_⟩) hHeld ?_ ?_
         rotate_left
         ·rintro w' ⟨s0,s1,s2,s3,s4,s5,s6⟩
          go_simp
          with_reducible rfl
         rotate_left
         ·exact sa
         refine pq (i:=6) (N:=some 27) #[true,true,true,true,true,true,true,false,false,false] ?_
         refine jAb (i:=7) (N:=some 28) (v:=?_) (a':=?_) #[true,true,true,true,true,true,true,true,false,false] rfl rfl (jWa HT_.out HW_.out (by kernel_rfl)) (fun _ _ _ h=>h) (Or.inl ⟨by rfl,?_⟩) hHeld ?_ ?_
         rotate_left
         ·rintro w' ⟨s0,s1,s2,s3,s4,s5,s6⟩
          go_simp
          with_reducible rfl
         rotate_left
         ·exact sa
         refine one_ (i:=8) (N:=some 10) #[true,true,true,true,true,true,true,true,true,false] rfl rfl (jeb HT_.out (by kernel_rfl)) (by decide) (fun K hK=>?_)
         refine box_step ?hg (N:=10) ?hd (cs:=#[.int .i64 0, .int .i64 0, .int .i64 0, .int .i64 0, .bool false]) (t:=66) ?hr ?_;(case hd=>rfl);(case hg=>rfl);(case hr=>exact Y4)
         intro gb493 hg w20 hbox hb
         have HS1_:=(hb.cell (World.block_lt_of_cell? _ _ (hHeld.2.1))).trans (hHeld.2.1)
         have BK493:=am (hbox)
         have GW493:=am ((Y180:w.heap.size≤gb493))
         have GE493:=am ((Y180:w.heap.size≤gb493))
         have NB486_493:=am ((by rw [hg];exact Nat.ne_of_lt (jda (g:=gb486) (o:=.cells #[.slice A0_0 l0_0.length c0_0] 25 (0,0)) (kq BK486.out)):gb486≠gb493))
         have NB493_486:=am ((by rw [hg];exact Nat.ne_of_gt (jda (g:=gb486) (o:=.cells #[.slice A0_0 l0_0.length c0_0] 25 (0,0)) (kq BK486.out)):gb493≠gb486))
         have NB487_493:=am ((by rw [hg];exact Nat.ne_of_lt (jda (g:=gb487) (o:=.cells #[.slice (some ad492) l1_0.length c1_0] 28 (0,0)) (kq BK487.out)):gb487≠gb493))
         have NB493_487:=am ((by rw [hg];exact Nat.ne_of_gt (jda (g:=gb487) (o:=.cells #[.slice (some ad492) l1_0.length c1_0] 28 (0,0)) (kq BK487.out)):gb493≠gb487))
         replace HO_7:=am (Kd.jW (rq HO_7.out) hb)
         replace BK486:=am (jc (g:=gb486) (o:=.cells #[.slice A0_0 l0_0.length c0_0] 25 (0,0)) (kq BK486.out) hb)
         replace BK487:=am (jc (g:=gb487) (o:=.cells #[.slice (some ad492) l1_0.length c1_0] 28 (0,0)) (kq BK487.out) hb)
         replace HB:=am (je (Y94) hb)
         clear hb hbox hg
         refine hK.out _ _ ⟨(jH BK487.out 0).trans rfl,HS1_,((HB.out.cell (World.block_lt_of_cell? w _ hw492_0)).trans hw492_0),((HB.out.cell (World.block_lt_of_cell? w _ hw492_1)).trans hw492_1),((HB.out.cell (World.block_lt_of_cell? w _ hw492_2)).trans hw492_2),((HB.out.cell (World.block_lt_of_cell? w _ hw492_3)).trans hw492_3),((HB.out.cell (World.block_lt_of_cell? w _ hw492_4)).trans hw492_4)⟩ (fun hHeld=>?_)
         clear hK K
         refine jZb (a':=?_) ?_ ?_
         rotate_left
         ·show Act.put _ (some 10) _=_
          simp only [Act.put,List.setIfInBounds_toArray,List.set_cons_zero,List.set_cons_succ,jwb,jBb]
          rfl
         refine one_ (i:=9) (N:=none) #[true,true,true,true,true,true,true,true,true,true] rfl rfl (jeb HT_.out (by kernel_rfl)) (by decide) (fun K hK=>?_)
         have hs21:w20.cell? ⟨gb493,0,none⟩=some (.int .i64 0):=(jH BK493.out 0).trans rfl
         have hfs21:=jb BK493.out 0
         have hns21_0:=NB486_493.out
         have hns21_1:=NB487_493.out
         have hms21_0:=NB493_486.out
         have hms21_1:=NB493_487.out
         have hs22:w20.cell? ⟨gb493,1,none⟩=some (.int .i64 0):=(jH BK493.out 1).trans rfl
         have hfs22:=jb BK493.out 1
         have hns22_0:=NB486_493.out
         have hns22_1:=NB487_493.out
         have hms22_0:=NB493_486.out
         have hms22_1:=NB493_487.out
         have hs23:w20.cell? ⟨gb493,2,none⟩=some (.int .i64 0):=(jH BK493.out 2).trans rfl
         have hfs23:=jb BK493.out 2
         have hns23_0:=NB486_493.out
         have hns23_1:=NB487_493.out
         have hms23_0:=NB493_486.out
         have hms23_1:=NB493_487.out
         have hs24:w20.cell? ⟨gb493,3,none⟩=some (.int .i64 0):=(jH BK493.out 3).trans rfl
         have hfs24:=jb BK493.out 3
         have hns24_0:=NB486_493.out
         have hns24_1:=NB487_493.out
         have hms24_0:=NB493_486.out
         have hms24_1:=NB493_487.out
         have hs25:w20.cell? ⟨gb493,4,none⟩=some (.bool false):=(jH BK493.out 4).trans rfl
         have hfs25:=jb BK493.out 4
         have hns25_0:=NB486_493.out
         have hns25_1:=NB487_493.out
         have hms25_0:=NB493_486.out
         have hms25_1:=NB493_487.out
         refine jcc (w1:=?_) (by rfl) rfl ?_ ?_
         rotate_left
         ·go_simp
          rfl
         refine hK.out _ _ ⟨((cell_far (p:=⟨gb493,_,none⟩) NB487_493.out _).trans (((cell_far (p:=⟨gb493,_,none⟩) NB487_493.out _).trans (((cell_far (p:=⟨gb493,_,none⟩) NB487_493.out _).trans (((cell_far (p:=⟨gb493,_,none⟩) NB487_493.out _).trans (((cell_far (p:=⟨gb493,_,none⟩) NB487_493.out _).trans (hHeld.1)))))))))),((cell_far (p:=⟨gb493,_,none⟩) (Y95) _).trans (((cell_far (p:=⟨gb493,_,none⟩) (Y95) _).trans (((cell_far (p:=⟨gb493,_,none⟩) (Y95) _).trans (((cell_far (p:=⟨gb493,_,none⟩) (Y95) _).trans (((cell_far (p:=⟨gb493,_,none⟩) (Y95) _).trans (hHeld.2.1)))))))))),((cell_far (p:=⟨gb493,_,none⟩) (Y96) _).trans (((cell_far (p:=⟨gb493,_,none⟩) (Y96) _).trans (((cell_far (p:=⟨gb493,_,none⟩) (Y96) _).trans (((cell_far (p:=⟨gb493,_,none⟩) (Y96) _).trans (((cell_far (p:=⟨gb493,_,none⟩) (Y96) _).trans (hHeld.2.2.1)))))))))),((cell_far (p:=⟨gb493,_,none⟩) (Y97) _).trans (((cell_far (p:=⟨gb493,_,none⟩) (Y97) _).trans (((cell_far (p:=⟨gb493,_,none⟩) (Y97) _).trans (((cell_far (p:=⟨gb493,_,none⟩) (Y97) _).trans (((cell_far (p:=⟨gb493,_,none⟩) (Y97) _).trans (hHeld.2.2.2.1)))))))))),((cell_far (p:=⟨gb493,_,none⟩) (Y98) _).trans (((cell_far (p:=⟨gb493,_,none⟩) (Y98) _).trans (((cell_far (p:=⟨gb493,_,none⟩) (Y98) _).trans (((cell_far (p:=⟨gb493,_,none⟩) (Y98) _).trans (((cell_far (p:=⟨gb493,_,none⟩) (Y98) _).trans (hHeld.2.2.2.2.1)))))))))),((cell_far (p:=⟨gb493,_,none⟩) (Y99) _).trans (((cell_far (p:=⟨gb493,_,none⟩) (Y99) _).trans (((cell_far (p:=⟨gb493,_,none⟩) (Y99) _).trans (((cell_far (p:=⟨gb493,_,none⟩) (Y99) _).trans (((cell_far (p:=⟨gb493,_,none⟩) (Y99) _).trans (hHeld.2.2.2.2.2.1)))))))))),((cell_far (p:=⟨gb493,_,none⟩) (Y100) _).trans (((cell_far (p:=⟨gb493,_,none⟩) (Y100) _).trans (((cell_far (p:=⟨gb493,_,none⟩) (Y100) _).trans (((cell_far (p:=⟨gb493,_,none⟩) (Y100) _).trans (((cell_far (p:=⟨gb493,_,none⟩) (Y100) _).trans (hHeld.2.2.2.2.2.2))))))))))⟩ (fun hHeld=>?_)
         clear hK K
         refine jqc (jbc HT_.out (by kernel_rfl)) ?_
         have hnb26:=NB486_487.out
         have hnc26:=NB487_486.out
         have hnb27:=NB486_493.out
         have hnc27:=NB493_486.out
         have hcz28_0:=bc0 BK486.out
         have hfz28_0:=jb BK486.out 0
         have hnb29:=NB493_487.out
         have hnc29:=NB487_493.out
         have hcz30_0:=bc0 BK493.out
         have hcz30_1:=bc1 BK493.out
         have hcz30_2:=bc2 BK493.out
         have hcz30_3:=bc3 BK493.out
         have hcz30_4:w20.cell? ⟨gb493,4,none⟩=some (.bool false):=(jH BK493.out 4).trans rfl
         have hfz30_0:=jb BK493.out 0
         have hfz30_1:=jb BK493.out 1
         have hfz30_2:=jb BK493.out 2
         have hfz30_3:=jb BK493.out 3
         have hfz30_4:=jb BK493.out 4
         go_upto_region 8 with (first |((with_reducible refine jw (f:=61) rfl ?_);refine gL (some 35) Tryd.func61 #[.agg #[.slice A0_0 l0_0.length c0_0], .int .i64 ((ja l1_0 (rd t488 x9_1)).f0), .int .i64 ((ja l1_0 (rd t488 x9_1)).f1)] ?_;(with_reducible refine (jtb.calls k1 _ _ l0_0 ((ja l1_0 (rd t488 x9_1)).f0) ((ja l1_0 (rd t488 x9_1)).f1) t494 _ ?side1 ?side2 A16.out).mono ?_);(case side1=>exact Kd.jU HR0_0.out (Y62));(case side2=>exact HC0_0.out);rintro e w31 ⟨rfl,hb⟩;refine ⟨_,rfl,?_⟩;replace HO_7:=am (Kd.jW (by (with_reducible repeat (first | apply Kd.jX | apply Kd.jba | apply Kd.jV));exact (Kd.jI (Kd.jwa (p:=⟨gb493,4,none⟩) (Kd.jwa (p:=⟨gb493,3,none⟩) (Kd.jwa (p:=⟨gb493,2,none⟩) (Kd.jwa (p:=⟨gb493,1,none⟩) (Kd.jwa (p:=⟨gb493,0,none⟩) (Kd.jP HO_7.out BK493.out (by decide)) (fun _ hk=>hk.2) (.int .i64 ((ja l1_0 (rd t488 x9_1)).f0))) (fun _ hk=>hk.2) (.int .i64 ((ja l1_0 (rd t488 x9_1)).f1))) (fun _ hk=>hk.2) (.int .i64 ((ja l1_0 (rd t488 x9_1)).f2))) (fun _ hk=>hk.2) (.int .i64 ((ja l1_0 (rd t488 x9_1)).f3))) (fun _ hk=>hk.2) (.bool ((ja l1_0 (rd t488 x9_1)).f4))) (fun _ h_=>h_.1))) hb);replace BK486:=am (jc (g:=gb486) (o:=.cells #[.slice A0_0 l0_0.length c0_0] 25 (0,0)) (by (with_reducible repeat (first | refine jg ?_ _ | refine jf ?_ | refine jh ?_ _));refine jT ?_ NB486_493.out _;(with_reducible repeat (first | refine jg ?_ _ | refine jf ?_ | refine jh ?_ _));refine jT ?_ NB486_493.out _;(with_reducible repeat (first | refine jg ?_ _ | refine jf ?_ | refine jh ?_ _));refine jT ?_ NB486_493.out _;(with_reducible repeat (first | refine jg ?_ _ | refine jf ?_ | refine jh ?_ _));refine jT ?_ NB486_493.out _;(with_reducible repeat (first | refine jg ?_ _ | refine jf ?_ | refine jh ?_ _));refine jT ?_ NB486_493.out _;(with_reducible repeat (first | refine jg ?_ _ | refine jf ?_ | refine jh ?_ _));exact BK486.out) hb);replace BK487:=am (jc (g:=gb487) (o:=.cells #[.slice (some ad492) l1_0.length c1_0] 28 (0,0)) (by (with_reducible repeat (first | refine jg ?_ _ | refine jf ?_ | refine jh ?_ _));refine jT ?_ NB487_493.out _;(with_reducible repeat (first | refine jg ?_ _ | refine jf ?_ | refine jh ?_ _));refine jT ?_ NB487_493.out _;(with_reducible repeat (first | refine jg ?_ _ | refine jf ?_ | refine jh ?_ _));refine jT ?_ NB487_493.out _;(with_reducible repeat (first | refine jg ?_ _ | refine jf ?_ | refine jh ?_ _));refine jT ?_ NB487_493.out _;(with_reducible repeat (first | refine jg ?_ _ | refine jf ?_ | refine jh ?_ _));refine jT ?_ NB487_493.out _;(with_reducible repeat (first | refine jg ?_ _ | refine jf ?_ | refine jh ?_ _));exact BK487.out) hb);replace BK493:=am (jc (g:=gb493) (o:=.cells #[.int .i64 ((ja l1_0 (rd t488 x9_1)).f0), .int .i64 ((ja l1_0 (rd t488 x9_1)).f1), .int .i64 ((ja l1_0 (rd t488 x9_1)).f2), .int .i64 ((ja l1_0 (rd t488 x9_1)).f3), .bool ((ja l1_0 (rd t488 x9_1)).f4)] 66 (0,0)) (by (with_reducible repeat (first | refine jg ?_ _ | refine jf ?_ | refine jh ?_ _));refine jya (cs:=#[.int .i64 ((ja l1_0 (rd t488 x9_1)).f0), .int .i64 ((ja l1_0 (rd t488 x9_1)).f1), .int .i64 ((ja l1_0 (rd t488 x9_1)).f2), .int .i64 ((ja l1_0 (rd t488 x9_1)).f3), .bool false]) ?_ 4 _ rfl;(with_reducible repeat (first | refine jg ?_ _ | refine jf ?_ | refine jh ?_ _));refine jya (cs:=#[.int .i64 ((ja l1_0 (rd t488 x9_1)).f0), .int .i64 ((ja l1_0 (rd t488 x9_1)).f1), .int .i64 ((ja l1_0 (rd t488 x9_1)).f2), .int .i64 0, .bool false]) ?_ 3 _ rfl;(with_reducible repeat (first | refine jg ?_ _ | refine jf ?_ | refine jh ?_ _));refine jya (cs:=#[.int .i64 ((ja l1_0 (rd t488 x9_1)).f0), .int .i64 ((ja l1_0 (rd t488 x9_1)).f1), .int .i64 0, .int .i64 0, .bool false]) ?_ 2 _ rfl;(with_reducible repeat (first | refine jg ?_ _ | refine jf ?_ | refine jh ?_ _));refine jya (cs:=#[.int .i64 ((ja l1_0 (rd t488 x9_1)).f0), .int .i64 0, .int .i64 0, .int .i64 0, .bool false]) ?_ 1 _ rfl;(with_reducible repeat (first | refine jg ?_ _ | refine jf ?_ | refine jh ?_ _));refine jya (cs:=#[.int .i64 0, .int .i64 0, .int .i64 0, .int .i64 0, .bool false]) ?_ 0 _ rfl;(with_reducible repeat (first | refine jg ?_ _ | refine jf ?_ | refine jh ?_ _));exact BK493.out) hb);replace HB:=am (je (Y62) hb);(try clear hb);(try clear hb2);(try clear hk);(try clear hi)))
         (try simp only [Act.put,List.setIfInBounds_toArray,List.set_cons_zero,List.set_cons_succ])
         go_cut [51] (fun v51 wc=>∃ (kq:Nat) (x51_17:Bool),v51=.bool x51_17∧jB (jE.j1 kq t488 (x8_1 ++ t494) x9_1 x51_17 l0_0 l1_0=some r)∧jB (kq≤k1)∧jB (Kd.R (Kd.int .i64) 3 wc w.heap.size (fun _=>True) (.slice (some ad491) t488.length co10) t488)∧jB (wc.heap[gb486]?=some (.cells #[(.slice A0_0 l0_0.length c0_0)] 25 (0,0)))∧jB (wc.heap[gb487]?=some (.cells #[(.slice (some ad492) l1_0.length c1_0)] 28 (0,0)))∧jB (wc.heap[gb493]?=some (.cells #[.int .i64 ((ja l1_0 (rd t488 x9_1)).f0), .int .i64 ((ja l1_0 (rd t488 x9_1)).f1), .int .i64 ((ja l1_0 (rd t488 x9_1)).f2), .int .i64 ((ja l1_0 (rd t488 x9_1)).f3), .bool ((ja l1_0 (rd t488 x9_1)).f4)] 66 (0,0)))∧jB (Below w.heap.size w wc))
         case first =>
          have H:=HC18.out
          clear HC18
          by_cases c32:x9_1 > 0
          ·rw [if_pos c32] at H
           have c32b0:decide (0<x9_1)=true:=dzT c32
           clear c32
           (first | rw [c32b0] |(simp only [jwb,jBb];rw [c32b0]) | skip)
           obtain ⟨ji33,hji33⟩:∃ j_:Int,(wrap64 (x9_1 - 1))=j_:=⟨_,rfl⟩
           replace H:(if 0≤(ji33) then (if (ji33)<(t488.length:Int) then (if 0≤(rd t488 (ji33)) then (if (rd t488 (ji33))<(l1_0.length:Int) then (jE.j1 k1 t488 (x8_1 ++ t494) x9_1 (decide (((ja l1_0 (rd t488 (ji33))).f2)≥0)) l0_0 l1_0) else (none)) else (none)) else (none)) else (none))=some r:=by first |(rw [hji33] at H;exact H) |(simp only [hji33] at H ⊢;exact H)
           have hji33w:(IntKind.i64.wrap (x9_1 - 1))=ji33:=(jwb _).trans hji33
           by_cases c34:0≤(ji33)
           ·rw [if_pos c34] at H
            have c34b0:decide (0≤(ji33))=true:=dzT c34
            clear c34
            by_cases c35:(ji33)<(t488.length:Int)
            ·rw [if_pos c35] at H
             have c35b0:decide ((ji33)<(t488.length:Int))=true:=dzT c35
             clear c35
             by_cases c36:0≤(rd t488 (ji33))
             ·rw [if_pos c36] at H
              have c36b0:decide (0≤(rd t488 (ji33)))=true:=dzT c36
              clear c36
              by_cases c37:(rd t488 (ji33))<(l1_0.length:Int)
              ·rw [if_pos c37] at H
               have c37b0:decide ((rd t488 (ji33))<(l1_0.length:Int))=true:=dzT c37
               clear c37
               have H':=am H
               clear H
               try go_wp2
               replace HO_7:=am (Kd.jV HO_7.out)
               replace BK486:=am (jf BK486.out)
               replace BK487:=am (jf BK487.out)
               replace BK493:=am (jf BK493.out)
               replace HB:=am (jq HB.out)
               have p495:0≤((ji33):Int):=ozD (uq)
               have q495:(ji33)<(t488.length:Int):=ozD (uq)
               obtain ⟨ad495,e495,hx495_0⟩:=Kd.jNb (Kd.jC HO_7.out).2.2 (ji33) p495 q495
               obtain rfl:ad491=ad495:=(by injection e495)
               replace p495:=ezT p495
               replace q495:=ezT q495
               have p496:0≤((rd t488 (ji33)):Int):=ozD (uq)
               have q496:(rd t488 (ji33))<(l1_0.length:Int):=ozD (uq)
               obtain ⟨ad496,e496,hx496_0,hx496_1,hx496_2,hx496_3,hx496_4⟩:=jlb HR1_0.out (rd t488 (ji33)) p496 q496
               have hw496_4:=hx496_4
               have hw496_3:=hx496_3
               have hw496_2:=hx496_2
               have hw496_1:=hx496_1
               have hw496_0:=hx496_0
               obtain rfl:ad492=ad496:=(by injection e496)
               replace hx496_0:=cb HB.out hx496_0
               replace hx496_1:=cb HB.out hx496_1
               replace hx496_2:=cb HB.out hx496_2
               replace hx496_3:=cb HB.out hx496_3
               replace hx496_4:=cb HB.out hx496_4
               replace p496:=ezT p496
               replace q496:=ezT q496
               refine jVb (n:=15) (S:=fun w'=>w'.cell? ⟨gb487,0,none⟩=some (.slice (some ad492) l1_0.length c1_0)∧w'.cell? (ad491.add ((ji33)).toNat)=some (.int .i64 (rd t488 (ji33)))∧w'.cell? (ad492.add (((rd t488 (ji33))).toNat * 5))=some (.int .i64 ((ja l1_0 (rd t488 (ji33))).f0))∧w'.cell? ⟨(ad492.add (((rd t488 (ji33))).toNat * 5)).block,(ad492.add (((rd t488 (ji33))).toNat * 5)).off+1,none⟩=some (.int .i64 ((ja l1_0 (rd t488 (ji33))).f1))∧w'.cell? ⟨(ad492.add (((rd t488 (ji33))).toNat * 5)).block,(ad492.add (((rd t488 (ji33))).toNat * 5)).off+2,none⟩=some (.int .i64 ((ja l1_0 (rd t488 (ji33))).f2))∧w'.cell? ⟨(ad492.add (((rd t488 (ji33))).toNat * 5)).block,(ad492.add (((rd t488 (ji33))).toNat * 5)).off+3,none⟩=some (.int .i64 ((ja l1_0 (rd t488 (ji33))).f3))∧w'.cell? ⟨(ad492.add (((rd t488 (ji33))).toNat * 5)).block,(ad492.add (((rd t488 (ji33))).toNat * 5)).off+4,none⟩=some (.bool ((ja l1_0 (rd t488 (ji33))).f4))) (ds:=[]) #[false,false,false,false,false,false,false,false,false,false,false,false,false,false,false] (by kernel_rfl) rfl rfl ⟨(jH BK487.out 0).trans rfl,hx495_0,((HB.out.cell (World.block_lt_of_cell? w _ hw496_0)).trans hw496_0),((HB.out.cell (World.block_lt_of_cell? w _ hw496_1)).trans hw496_1),((HB.out.cell (World.block_lt_of_cell? w _ hw496_2)).trans hw496_2),((HB.out.cell (World.block_lt_of_cell? w _ hw496_3)).trans hw496_3),((HB.out.cell (World.block_lt_of_cell? w _ hw496_4)).trans hw496_4)⟩ (fun hHeld=>?_);refine jxb jE.tab8 jE.bits8 (fun HT_ HW_=>?_)
               generalize w31.drew=w38 at HO_7 BK486 BK487 BK493 HB hx495_0 hx496_0 hx496_1 hx496_2 hx496_3 hx496_4 hHeld ⊢
               refine pq (i:=0) (N:=some 37) #[true,false,false,false,false,false,false,false,false,false,false,false,false,false,false] ?_
               refine pq (i:=1) (N:=some 38) #[true,true,false,false,false,false,false,false,false,false,false,false,false,false,false] ?_
               refine pq (i:=2) (N:=some 39) #[true,true,true,false,false,false,false,false,false,false,false,false,false,false,false] ?_
               refine pq (i:=3) (N:=some 40) #[true,true,true,true,false,false,false,false,false,false,false,false,false,false,false] ?_
               refine pq (i:=5) (N:=some 42) #[true,true,true,true,false,true,false,false,false,false,false,false,false,false,false] ?_
               refine pq (i:=6) (N:=some 43) #[true,true,true,true,false,true,true,false,false,false,false,false,false,false,false] ?_
               refine pq (i:=7) (N:=some 44) #[true,true,true,true,false,true,true,true,false,false,false,false,false,false,false] ?_
               refine pq (i:=8) (N:=some 45) #[true,true,true,true,false,true,true,true,true,false,false,false,false,false,false] ?_
               refine jAb (i:=4) (N:=some 41) (v:=?_) (a':=?_) #[true,true,true,true,true,true,true,true,true,false,false,false,false,false,false] rfl rfl (jWa HT_.out HW_.out (by kernel_rfl)) (fun _ _ _ h=>h) (Or.inl ⟨by rfl,?_⟩) hHeld ?_ ?_
               rotate_left
               ·rintro w' ⟨s0,s1,s2,s3,s4,s5,s6⟩
                go_simp
                with_reducible rfl
               rotate_left
               ·exact sa
               refine jAb (i:=9) (N:=some 46) (v:=?_) (a':=?_) #[true,true,true,true,true,true,true,true,true,true,false,false,false,false,false] rfl rfl (jWa HT_.out HW_.out (by kernel_rfl)) (fun _ _ _ h=>h) (Or.inl ⟨by rfl,?_⟩) hHeld ?_ ?_
               rotate_left
               ·rintro w' ⟨s0,s1,s2,s3,s4,s5,s6⟩
                go_simp
                with_reducible rfl
               rotate_left
               ·exact sa
               refine pq (i:=10) (N:=some 47) #[true,true,true,true,true,true,true,true,true,true,true,false,false,false,false] ?_
               refine pq (i:=11) (N:=some 48) #[true,true,true,true,true,true,true,true,true,true,true,true,false,false,false] ?_
               refine jAb (i:=12) (N:=some 49) (v:=?_) (a':=?_) #[true,true,true,true,true,true,true,true,true,true,true,true,true,false,false] rfl rfl (jWa HT_.out HW_.out (by kernel_rfl)) (fun _ _ _ h=>h) (Or.inl ⟨by rfl,?_⟩) hHeld ?_ ?_
               rotate_left
               ·rintro w' ⟨s0,s1,s2,s3,s4,s5,s6⟩
                go_simp
                with_reducible rfl
               rotate_left
               ·exact sa
               refine pq (i:=13) (N:=some 50) #[true,true,true,true,true,true,true,true,true,true,true,true,true,true,false] ?_
               refine pq (i:=14) (N:=some 51) #[true,true,true,true,true,true,true,true,true,true,true,true,true,true,true] ?_
               refine jqc (jbc HT_.out (by kernel_rfl)) ?_
               try go_wp2
               go_meet
               case rel=>exact ⟨_,(decide (((ja l1_0 (rd t488 (ji33))).f2)≥0)),(by first | rfl |(simp;done) |(simp only [← hji33] <;> (first | rfl | simp)) |(simp [*];done)),H',⟨by have:=HK1.out;first | omega | exact Nat.le_refl _⟩,⟨rq HO_7.out⟩,⟨kq BK486.out⟩,⟨kq BK487.out⟩,⟨kq BK493.out⟩,⟨Y62⟩⟩
              ·rw [if_neg c37] at H
               exact absurd H (by simp)
             ·rw [if_neg c36] at H
              exact absurd H (by simp)
            ·rw [if_neg c35] at H
             exact absurd H (by simp)
           ·rw [if_neg c34] at H
            exact absurd H (by simp)
          ·rw [if_neg c32] at H
           have c32b0:decide (0<x9_1)=false:=dzF c32
           clear c32
           (first | rw [c32b0] |(simp only [jwb,jBb];rw [c32b0]) | skip)
           have H':=am H
           clear H
           try go_wp2
           replace HO_7:=am (Kd.jV HO_7.out)
           replace BK486:=am (jf BK486.out)
           replace BK487:=am (jf BK487.out)
           replace BK493:=am (jf BK493.out)
           replace HB:=am (jq HB.out)
           refine jVb (n:=15) (S:=fun w'=>True) (ds:=[]) #[false,false,false,false,false,false,false,false,false,false,false,false,false,false,false] (by kernel_rfl) rfl rfl trivial (fun hHeld=>?_);refine jxb jE.tab8 jE.bits8 (fun HT_ HW_=>?_)
           generalize w31.drew=w39 at HO_7 BK486 BK487 BK493 HB hHeld ⊢
           refine pq (i:=0) (N:=some 37) #[true,false,false,false,false,false,false,false,false,false,false,false,false,false,false] ?_
           refine pq (i:=1) (N:=some 38) #[true,true,false,false,false,false,false,false,false,false,false,false,false,false,false] ?_
           refine pq (i:=2) (N:=some 39) #[true,true,true,false,false,false,false,false,false,false,false,false,false,false,false] ?_
           refine pure_ (i:=3) (N:=some 40) (v:=undef) (a':=?_) #[true,true,true,true,false,false,false,false,false,false,false,false,false,false,false] rfl rfl (any_of HT_.out (by kernel_rfl)) (fun _ _ _ h=>h) (Or.inr ⟨by rfl,rfl⟩) ?_ ?_
           rotate_left
           ·exact sa
           refine pure_ (i:=4) (N:=some 41) (v:=undef) (a':=?_) #[true,true,true,true,true,false,false,false,false,false,false,false,false,false,false] rfl rfl (any_of HT_.out (by kernel_rfl)) (fun _ _ _ h=>h) (Or.inr ⟨by rfl,rfl⟩) ?_ ?_
           rotate_left
           ·exact sa
           refine pure_ (i:=5) (N:=some 42) (v:=undef) (a':=?_) #[true,true,true,true,true,true,false,false,false,false,false,false,false,false,false] rfl rfl (any_of HT_.out (by kernel_rfl)) (fun _ _ _ h=>h) (Or.inr ⟨by rfl,rfl⟩) ?_ ?_
           rotate_left
           ·exact sa
           refine pure_ (i:=6) (N:=some 43) (v:=undef) (a':=?_) #[true,true,true,true,true,true,true,false,false,false,false,false,false,false,false] rfl rfl (any_of HT_.out (by kernel_rfl)) (fun _ _ _ h=>h) (Or.inr ⟨by rfl,rfl⟩) ?_ ?_
           rotate_left
           ·exact sa
           refine pure_ (i:=7) (N:=some 44) (v:=undef) (a':=?_) #[true,true,true,true,true,true,true,true,false,false,false,false,false,false,false] rfl rfl (any_of HT_.out (by kernel_rfl)) (fun _ _ _ h=>h) (Or.inr ⟨by rfl,rfl⟩) ?_ ?_
           rotate_left
           ·exact sa
           refine pure_ (i:=8) (N:=some 45) (v:=undef) (a':=?_) #[true,true,true,true,true,true,true,true,true,false,false,false,false,false,false] rfl rfl (any_of HT_.out (by kernel_rfl)) (fun _ _ _ h=>h) (Or.inr ⟨by rfl,rfl⟩) ?_ ?_
           rotate_left
           ·exact sa
           refine pure_ (i:=9) (N:=some 46) (v:=undef) (a':=?_) #[true,true,true,true,true,true,true,true,true,true,false,false,false,false,false] rfl rfl (any_of HT_.out (by kernel_rfl)) (fun _ _ _ h=>h) (Or.inr ⟨by rfl,rfl⟩) ?_ ?_
           rotate_left
           ·exact sa
           refine pure_ (i:=10) (N:=some 47) (v:=undef) (a':=?_) #[true,true,true,true,true,true,true,true,true,true,true,false,false,false,false] rfl rfl (any_of HT_.out (by kernel_rfl)) (fun _ _ _ h=>h) (Or.inr ⟨by rfl,rfl⟩) ?_ ?_
           rotate_left
           ·exact sa
           refine pure_ (i:=11) (N:=some 48) (v:=undef) (a':=?_) #[true,true,true,true,true,true,true,true,true,true,true,true,false,false,false] rfl rfl (any_of HT_.out (by kernel_rfl)) (fun _ _ _ h=>h) (Or.inr ⟨by rfl,rfl⟩) ?_ ?_
           rotate_left
           ·exact sa
           refine pure_ (i:=12) (N:=some 49) (v:=undef) (a':=?_) #[true,true,true,true,true,true,true,true,true,true,true,true,true,false,false] rfl rfl (any_of HT_.out (by kernel_rfl)) (fun _ _ _ h=>h) (Or.inr ⟨by rfl,rfl⟩) ?_ ?_
           rotate_left
           ·exact sa
           refine pure_ (i:=13) (N:=some 50) (v:=undef) (a':=?_) #[true,true,true,true,true,true,true,true,true,true,true,true,true,true,false] rfl rfl (any_of HT_.out (by kernel_rfl)) (fun _ _ _ h=>h) (Or.inr ⟨by rfl,rfl⟩) ?_ ?_
           rotate_left
           ·exact sa
           refine pq (i:=14) (N:=some 51) #[true,true,true,true,true,true,true,true,true,true,true,true,true,true,true] ?_
           refine jqc (jbc HT_.out (by kernel_rfl)) ?_
           try go_wp2
           go_meet
           case rel=>exact ⟨_,(false),(sq),H',⟨by have:=HK1.out;first | omega | exact Nat.le_refl _⟩,⟨rq HO_7.out⟩,⟨kq BK486.out⟩,⟨kq BK487.out⟩,⟨kq BK493.out⟩,⟨Y62⟩⟩
         case rest =>
          clear HC18
          try clear c1
          try clear c2
          try clear p2
          try clear c3
          try clear p4
          try clear q4
          try clear hx4
          try clear c6
          try clear p6
          try clear c7
          try clear c11
          try clear c11b0
          try clear c12
          try clear c12b0
          try clear c13
          try clear c13b0
          try clear c14
          try clear c14b0
          try clear c15
          try clear c15b0
          try clear c17
          try clear c17b0
          try clear c17b1
          try clear c17b2
          try clear c26
          try clear c27
          try clear c29
          try clear c32
          try clear c32b0
          try clear c34
          try clear c34b0
          try clear c35
          try clear c35b0
          try clear c36
          try clear c36b0
          try clear c37
          try clear c37b0
          try clear hcz28_0
          try clear hcz30_0
          try clear hcz30_1
          try clear hcz30_2
          try clear hcz30_3
          try clear hcz30_4
          try clear hcz8_0
          try clear hfz28_0
          try clear hfz30_0
          try clear hfz30_1
          try clear hfz30_2
          try clear hfz30_3
          try clear hfz30_4
          try clear hfz8_0
          try clear hx491_0
          try clear hx492_0
          try clear hx492_1
          try clear hx492_2
          try clear hx492_3
          try clear hx492_4
          try clear hx495_0
          try clear hx496_0
          try clear hx496_1
          try clear hx496_2
          try clear hx496_3
          try clear hx496_4
          try clear p2
          try clear p491
          try clear p492
          try clear p495
          try clear p496
          try clear p6
          try clear q491
          try clear q492
          try clear q495
          try clear q496
          obtain ⟨kq,x51_17,rfl,HA,HJ17,HO_7,BK486,BK487,BK493,HB⟩:=hcut
          cases kq with
          | zero=>exact absurd HA.out (by simp [jE.j1])
          | succ kj17 =>
           have H:=HA.out
           clear HA
           simp only [jE.j1] at H
           by_cases c40:x51_17=true
           ·subst c40
            have H1:(if (x8_1 ++ t494).size+3≤9223372036854775807 then (jE.l0 kj17 t488 ((x8_1 ++ t494) ++ (⟨#[32,62,32]⟩:ByteArray)) (wrap64 (x9_1 - 1)) l0_0 l1_0) else (none))=some r:=by rw [if_pos rfl] at H;exact H
            clear H
            have H:=H1
            clear H1
            by_cases c41:(x8_1 ++ t494).size+3≤9223372036854775807
            ·rw [if_pos c41] at H
             have c41b0:=ezT c41
             have c41b1:decide ((x8_1 ++ t494).size+3≤9223372036854775807)=true:=dzT c41
             try have c41b2:(9223372036854775807<(x8_1 ++ t494).size+3)=False:=eq_false (Nat.not_lt.2 c41)
             try have c41s:(9223372036854775807<x8_1.size+t494.size+3)=False:=eq_false (Nat.not_lt.2 (by have h_:=c41;simp only [ByteArray.size_append] at h_;exact h_))
             have H':=am H
             clear H
             go_wp2
             go_roundg kj17
             case measure=>have:=HK1.out;have:=HJ17.out;omega
             case rel=>exact ⟨((x8_1 ++ t494) ++ (⟨#[32,62,32]⟩:ByteArray)),(wrap64 (x9_1 - 1)),(sq),(sq),H',⟨by have:=HK1.out;have:=HJ17.out;omega⟩,⟨rq HO_7.out⟩,⟨kq BK486.out⟩,⟨kq BK487.out⟩,⟨Y62⟩⟩
            ·rw [if_neg c41] at H
             exact absurd H (by simp)
           ·replace c40:=Bool.eq_false_iff.mpr c40
            subst c40
            have H1:(if x9_1 > 0 then (if (x8_1 ++ t494).size+3≤9223372036854775807 then (jE.l0 kj17 t488 ((x8_1 ++ t494) ++ (⟨#[32,126,32]⟩:ByteArray)) (wrap64 (x9_1 - 1)) l0_0 l1_0) else (none)) else (jE.l0 kj17 t488 (x8_1 ++ t494) (wrap64 (x9_1 - 1)) l0_0 l1_0))=some r:=by rw [if_neg (show ¬ (false=true) by decide)] at H;exact H
            clear H
            have H:=H1
            clear H1
            by_cases c42:x9_1 > 0
            ·rw [if_pos c42] at H
             have c42b0:decide (0<x9_1)=true:=dzT c42
             clear c42
             by_cases c43:(x8_1 ++ t494).size+3≤9223372036854775807
             ·rw [if_pos c43] at H
              have c43b0:=ezT c43
              have c43b1:decide ((x8_1 ++ t494).size+3≤9223372036854775807)=true:=dzT c43
              try have c43b2:(9223372036854775807<(x8_1 ++ t494).size+3)=False:=eq_false (Nat.not_lt.2 c43)
              try have c43s:(9223372036854775807<x8_1.size+t494.size+3)=False:=eq_false (Nat.not_lt.2 (by have h_:=c43;simp only [ByteArray.size_append] at h_;exact h_))
              have H':=am H
              clear H
              go_wp2
              go_roundg kj17
              case measure=>have:=HK1.out;have:=HJ17.out;omega
              case rel=>exact ⟨((x8_1 ++ t494) ++ (⟨#[32,126,32]⟩:ByteArray)),(wrap64 (x9_1 - 1)),(sq),(sq),H',⟨by have:=HK1.out;have:=HJ17.out;omega⟩,⟨rq HO_7.out⟩,⟨kq BK486.out⟩,⟨kq BK487.out⟩,⟨Y62⟩⟩
             ·rw [if_neg c43] at H
              exact absurd H (by simp)
            ·rw [if_neg c42] at H
             have c42b0:decide (0<x9_1)=false:=dzF c42
             clear c42
             have H':=am H
             clear H
             go_wp2
             go_roundg kj17
             case measure=>have:=HK1.out;have:=HJ17.out;omega
             case rel=>exact ⟨((x8_1 ++ t494)),(wrap64 (x9_1 - 1)),(sq),(sq),H',⟨by have:=HK1.out;have:=HJ17.out;omega⟩,⟨rq HO_7.out⟩,⟨kq BK486.out⟩,⟨kq BK487.out⟩,⟨Y62⟩⟩
        ·rw [if_neg c17] at H
         exact absurd H (by simp)
       ·rw [if_neg c15] at H
        exact absurd H (by simp)
      ·rw [if_neg c14] at H
       exact absurd H (by simp)
     ·rw [if_neg c13] at H
      exact absurd H (by simp)
    ·rw [if_neg c12] at H
     exact absurd H (by simp)
   ·rw [if_neg c11] at H
    have c11b0:decide (0≤x9_1)=false:=dzF c11
    clear c11
    obtain rfl:=Option.some.inj H
    go_wp2
    go_ret
    exact ⟨Y1,Y94⟩
def jLa.f (k : Nat) (l0_0 : List (S99)) (l1_0 : List (S66)) (a2 : Int) : Option (ByteArray) := (jkb.f k l0_0 l1_0 a2).bind fun t499 => (if t499 = true then ((jE.f k l0_0 l1_0 a2).bind fun t500 => (some t500)) else (some (⟨#[]⟩ : ByteArray)))
set_option maxHeartbeats 8000000 in
set_option maxRecDepth 100000 in
theorem jLa.calls (k : Nat) (A0_0 : Option Addr) (c0_0 : Nat) (l0_0 : List (S99)) (A1_0 : Option Addr) (c1_0 : Nat) (l1_0 : List (S66)) (a2 : Int) (r : ByteArray) (w : World) (hr0_0 : Kd.C k99 w A0_0 l0_0.length l0_0) (hc0_0 : l0_0.length ≤ c0_0) (hr1_0 : Kd.C k66 w A1_0 l1_0.length l1_0) (hc1_0 : l1_0.length ≤ c1_0) (h : jLa.f k l0_0 l1_0 a2 = some r) :
  Calls Tryd.prog 15 #[.agg #[.slice A0_0 l0_0.length c0_0], .agg #[.slice A1_0 l1_0.length c1_0], .int .i64 a2] w fun e w'=>e=.returned (.string r)∧Below w.heap.size w w':=by
 have hu25:=Tryd.underlying25
 have hu28:=Tryd.underlying28
 have HR0_0:=am hr0_0
 have HC0_0:=am hc0_0
 clear hr0_0 hc0_0
 have HR1_0:=am hr1_0
 have HC1_0:=am hc1_0
 clear hr1_0 hc1_0
 have HB:=am (Below.refl w.heap.size w)
 have H:((jkb.f k l0_0 l1_0 a2).bind fun t499=>(if t499=true then ((jE.f k l0_0 l1_0 a2).bind fun t500=>(some t500)) else (some (⟨#[]⟩:ByteArray))))=some r:=h
 clear h
 replace H:=bzS H
 obtain ⟨t499,A40,H⟩:=H
 replace H:(if t499=true then ((jE.f k l0_0 l1_0 a2).bind fun t500=>(some t500)) else (some (⟨#[]⟩:ByteArray)))=some r:=H
 have A4:=am A40
 clear A40
 by_cases c5:t499=true
 ·subst c5
  have H1:((jE.f k l0_0 l1_0 a2).bind fun t500=>(some t500))=some r:=by rw [if_pos rfl] at H;exact H
  clear H
  have H:=H1
  clear H1
  replace H:=bzS H
  obtain ⟨t500,A60,H⟩:=H
  replace H:(some t500)=some r:=H
  have A6:=am A60
  clear A60
  obtain rfl:=Option.some.inj H
  go_enter Tryd.func15,Tryd.ntmps15
  go_wp2_with (first |((with_reducible refine jD (N:=3) rfl ?_);refine bE (N:=3) (cs:=#[.slice A0_0 l0_0.length c0_0]) (t:=25) ?_;intro gb497 hg w7 hbox hb;have BK497:=am (hbox);have GW497:=am ((Y0:w.heap.size≤gb497));have GE497:=am ((Y0:w.heap.size≤gb497));replace HB:=am (je (bq) hb);clear hb hbox hg) |((with_reducible refine jD (N:=4) rfl ?_);refine bE (N:=4) (cs:=#[.slice A1_0 l1_0.length c1_0]) (t:=28) ?_;intro gb498 hg w8 hbox hb;have BK498:=am (hbox);have GW498:=am ((Y119:w.heap.size≤gb498));have GE498:=am ((Y119:w.heap.size≤gb498));have NB497_498:=am ((by rw [hg];exact Nat.ne_of_lt (jda (g:=gb497) (o:=.cells #[.slice A0_0 l0_0.length c0_0] 25 (0,0)) (kq BK497.out)):gb497≠gb498));have NB498_497:=am ((by rw [hg];exact Nat.ne_of_gt (jda (g:=gb497) (o:=.cells #[.slice A0_0 l0_0.length c0_0] 25 (0,0)) (kq BK497.out)):gb498≠gb497));replace BK497:=am (jc (g:=gb497) (o:=.cells #[.slice A0_0 l0_0.length c0_0] 25 (0,0)) (kq BK497.out) hb);replace HB:=am (je (Y181) hb);clear hb hbox hg;have hnb9:=NB497_498.out;have hnc9:=NB498_497.out;have hcz10_0:=bc0 BK497.out;have hfz10_0:=jb BK497.out 0;have hcz11_0:=bc0 BK498.out;have hfz11_0:=jb BK498.out 0) |((with_reducible refine jw (f:=31) rfl ?_);refine gL (some 10) Tryd.func31 #[.agg #[.slice A0_0 l0_0.length c0_0], .agg #[.slice A1_0 l1_0.length c1_0], .int .i64 a2] ?_;(with_reducible refine (jkb.calls k _ _ l0_0 _ _ l1_0 a2 true _ ?side1 ?side2 ?side3 ?side4 A4.out).mono ?_);(case side1=>exact cq (Kd.jU HR0_0.out HB.out));(case side2=>exact HC0_0.out);(case side3=>exact cq (Kd.jU HR1_0.out HB.out));(case side4=>exact HC1_0.out);rintro e w12 ⟨rfl,hb⟩;refine ⟨_,rfl,?_⟩;replace BK497:=am (jc (g:=gb497) (o:=.cells #[.slice A0_0 l0_0.length c0_0] 25 (0,0)) (kq BK497.out) hb);replace BK498:=am (jc (g:=gb498) (o:=.cells #[.slice A1_0 l1_0.length c1_0] 28 (0,0)) (kq BK498.out) hb);replace HB:=am (je (Y101) hb);(try clear hb);(try clear hb2);(try clear hk);(try clear hi);have hcz13_0:=bc0 BK497.out;have hfz13_0:=jb BK497.out 0;have hcz14_0:=bc0 BK498.out;have hfz14_0:=jb BK498.out 0) |((with_reducible refine jw (f:=36) rfl ?_);refine gL (some 15) Tryd.func36 #[.agg #[.slice A0_0 l0_0.length c0_0], .agg #[.slice A1_0 l1_0.length c1_0], .int .i64 a2] ?_;(with_reducible refine (jE.calls k _ _ l0_0 _ _ l1_0 a2 t500 _ ?side1 ?side2 ?side3 ?side4 A6.out).mono ?_);(case side1=>exact cq (Kd.jU HR0_0.out HB.out));(case side2=>exact HC0_0.out);(case side3=>exact cq (Kd.jU HR1_0.out HB.out));(case side4=>exact HC1_0.out);rintro e w15 ⟨rfl,hb⟩;refine ⟨_,rfl,?_⟩;replace BK497:=am (jc (g:=gb497) (o:=.cells #[.slice A0_0 l0_0.length c0_0] 25 (0,0)) (kq BK497.out) hb);replace BK498:=am (jc (g:=gb498) (o:=.cells #[.slice A1_0 l1_0.length c1_0] 28 (0,0)) (kq BK498.out) hb);replace HB:=am (je (Y101) hb);(try clear hb);(try clear hb2);(try clear hk);(try clear hi)))
  go_ret
  exact ⟨Y1,Y101⟩
 ·replace c5:=Bool.eq_false_iff.mpr c5
  subst c5
  have H1:(some (⟨#[]⟩:ByteArray))=some r:=by rw [if_neg (show ¬ (false=true) by decide)] at H;exact H
  clear H
  have H:=H1
  clear H1
  obtain rfl:=Option.some.inj H
  go_enter Tryd.func15,Tryd.ntmps15
  go_wp2_with (first |((with_reducible refine jD (N:=3) rfl ?_);refine bE (N:=3) (cs:=#[.slice A0_0 l0_0.length c0_0]) (t:=25) ?_;intro gb497 hg w16 hbox hb;have BK497:=am (hbox);have GW497:=am ((Y0:w.heap.size≤gb497));have GE497:=am ((Y0:w.heap.size≤gb497));replace HB:=am (je (bq) hb);clear hb hbox hg) |((with_reducible refine jD (N:=4) rfl ?_);refine bE (N:=4) (cs:=#[.slice A1_0 l1_0.length c1_0]) (t:=28) ?_;intro gb498 hg w17 hbox hb;have BK498:=am (hbox);have GW498:=am ((Y119:w.heap.size≤gb498));have GE498:=am ((Y119:w.heap.size≤gb498));have NB497_498:=am ((by rw [hg];exact Nat.ne_of_lt (jda (g:=gb497) (o:=.cells #[.slice A0_0 l0_0.length c0_0] 25 (0,0)) (kq BK497.out)):gb497≠gb498));have NB498_497:=am ((by rw [hg];exact Nat.ne_of_gt (jda (g:=gb497) (o:=.cells #[.slice A0_0 l0_0.length c0_0] 25 (0,0)) (kq BK497.out)):gb498≠gb497));replace BK497:=am (jc (g:=gb497) (o:=.cells #[.slice A0_0 l0_0.length c0_0] 25 (0,0)) (kq BK497.out) hb);replace HB:=am (je (Y181) hb);clear hb hbox hg;have hnb18:=NB497_498.out;have hnc18:=NB498_497.out;have hcz19_0:=bc0 BK497.out;have hfz19_0:=jb BK497.out 0;have hcz20_0:=bc0 BK498.out;have hfz20_0:=jb BK498.out 0) |((with_reducible refine jw (f:=31) rfl ?_);refine gL (some 10) Tryd.func31 #[.agg #[.slice A0_0 l0_0.length c0_0], .agg #[.slice A1_0 l1_0.length c1_0], .int .i64 a2] ?_;(with_reducible refine (jkb.calls k _ _ l0_0 _ _ l1_0 a2 false _ ?side1 ?side2 ?side3 ?side4 A4.out).mono ?_);(case side1=>exact cq (Kd.jU HR0_0.out HB.out));(case side2=>exact HC0_0.out);(case side3=>exact cq (Kd.jU HR1_0.out HB.out));(case side4=>exact HC1_0.out);rintro e w21 ⟨rfl,hb⟩;refine ⟨_,rfl,?_⟩;replace BK497:=am (jc (g:=gb497) (o:=.cells #[.slice A0_0 l0_0.length c0_0] 25 (0,0)) (kq BK497.out) hb);replace BK498:=am (jc (g:=gb498) (o:=.cells #[.slice A1_0 l1_0.length c1_0] 28 (0,0)) (kq BK498.out) hb);replace HB:=am (je (Y101) hb);(try clear hb);(try clear hb2);(try clear hk);(try clear hi)))
  go_ret
  exact ⟨Y1,Y101⟩
mutual
def jJ.j0 : Nat → Int → ByteArray → Bool → List (S99) → List (S66) → Option (Bool)
 | 0,_,_,_,_,_=>none
 | k+1,x5,x6,x34,x509000,x510000=>if x34=true then ((jLa.f k x509000 x510000 x5).bind fun t512=>(some (x6.toList == t512.toList))) else (jJ.l0 k x5 x6 0 0 x509000 x510000)
def jJ.l0 : Nat → Int → ByteArray → Int → Int → List (S99) → List (S66) → Option (Bool)
 | 0,_,_,_,_,_,_=>none
 | k+1,x5,x6,x7,x8,x509000,x510000=>if x8<(x6.size:Int) then (if 0≤x8 then (if (bt x6 x8)=58 then (jJ.l0 k x5 x6 (wrap64 (x7+1)) (wrap64 (x8+1)) x509000 x510000) else (jJ.l0 k x5 x6 x7 (wrap64 (x8+1)) x509000 x510000)) else (none)) else ((jJb.f k x509000 x510000 x5 (-1)).bind fun bt513=>((jPa.f k x509000 bt513.1 x5).bind fun t518=>(if bt513.2=true then ((jab.f k x509000 x510000 x5).bind fun t519=>(if x7=(t519.length:Int) then (if (t518.size:Int)≤(x6.size:Int) then (if 0≤(wrap64 ((x6.size:Int) - (t518.size:Int))) then (if (wrap64 ((x6.size:Int) - (t518.size:Int)))≤(x6.size:Int) then (some ((x6.extract ((wrap64 ((x6.size:Int) - (t518.size:Int))):Int).toNat x6.size).toList == t518.toList)) else (none)) else (none)) else (some false)) else (some false))) else (some false))))
end
def jJ.f (k : Nat) (l0 : List Int) : Option (Bool) := if (l0.length : Int) > 1048576 then (some true) else ((jXa.f k l0).bind fun bt501 => ((jPa.f k bt501.1 bt501.2.1 bt501.2.2).bind fun t510 => ((jLa.f k bt501.1 bt501.2.1 bt501.2.2).bind fun t511 => (if t510.toList = t511.toList then (jJ.j0 k bt501.2.2 t510 (t510.toList == ([] : List UInt8)) bt501.1 bt501.2.1) else (jJ.j0 k bt501.2.2 t510 true bt501.1 bt501.2.1)))))
set_option maxHeartbeats 8000000 in
set_option maxRecDepth 100000 in
theorem jJ.calls (k : Nat) (A0 : Option Addr) (c0 : Nat) (l0 : List Int) (r : Bool) (w : World) (hr0 : Kd.C (Kd.int .u8) w A0 l0.length l0) (hc0 : l0.length ≤ c0) (hT : r = true) (h : jJ.f k l0 = some r) :
  Calls Tryd.prog 4 #[.slice A0 l0.length c0] w fun e w'=>e=.returned (.bool r)∧Below w.heap.size w w':=by
 have hu25:=Tryd.underlying25
 have hu28:=Tryd.underlying28
 have HR0:=am hr0
 have HC0:=am hc0
 clear hr0 hc0
 have HB:=am (Below.refl w.heap.size w)
 have H:(if (l0.length:Int) > 1048576 then (some true) else ((jXa.f k l0).bind fun bt501=>((jPa.f k bt501.1 bt501.2.1 bt501.2.2).bind fun t510=>((jLa.f k bt501.1 bt501.2.1 bt501.2.2).bind fun t511=>(if t510.toList=t511.toList then (jJ.j0 k bt501.2.2 t510 (t510.toList == ([]:List UInt8)) bt501.1 bt501.2.1) else (jJ.j0 k bt501.2.2 t510 true bt501.1 bt501.2.1))))))=some r:=h
 clear h
 by_cases c2:(l0.length:Int) > 1048576
 ·rw [if_pos c2] at H
  have c2b0:decide (1048576<(l0.length:Int))=true:=dzT c2
  have c2b1:decide (1048576<l0.length)=true:=dzT (by omega)
  clear c2
  obtain rfl:=Option.some.inj H
  go_enter Tryd.func4,Tryd.ntmps4
  go_wp2
  go_ret
  exact ⟨Y1,bq⟩
 ·rw [if_neg c2] at H
  have c2b0:decide (1048576<(l0.length:Int))=false:=dzF c2
  have c2b1:decide (1048576<l0.length)=false:=dzF (by omega)
  clear c2
  replace H:=bzS H
  obtain ⟨⟨t501,t504,t507⟩,A30,H⟩:=H
  replace H:((jPa.f k t501 t504 t507).bind fun t510=>((jLa.f k t501 t504 t507).bind fun t511=>(if t510.toList=t511.toList then (jJ.j0 k t507 t510 (t510.toList == ([]:List UInt8)) t501 t504) else (jJ.j0 k t507 t510 true t501 t504))))=some r:=H
  have A3:=am A30
  clear A30
  replace H:=bzS H
  obtain ⟨t510,A40,H⟩:=H
  replace H:((jLa.f k t501 t504 t507).bind fun t511=>(if t510.toList=t511.toList then (jJ.j0 k t507 t510 (t510.toList == ([]:List UInt8)) t501 t504) else (jJ.j0 k t507 t510 true t501 t504)))=some r:=H
  have A4:=am A40
  clear A40
  have HC5:=am H
  clear H
  go_enter Tryd.func4,Tryd.ntmps4
  go_upto_region 5 with (first |((with_reducible refine jw (f:=14) rfl ?_);refine gL (some 17) Tryd.func14 #[.slice A0 l0.length c0] ?_;(with_reducible refine (jXa.calls k _ _ l0 t501 t504 t507 _ ?side1 ?side2 A3.out).mono ?_);(case side1=>exact Y149);(case side2=>exact HC0.out);rintro e w6 ⟨v502,v505,rfl,ho0,ho1,hb⟩;refine ⟨_,rfl,?_⟩;have HO503:=am (Kd.jia ho0 (jM (bq)));have HO506:=am (Kd.jia ho1 (jM (bq)));replace HB:=am (je (bq) hb);(try clear hb);(try clear hb2);(try clear hk);(try clear hi);(try clear ho0);(try clear ho1)) |((with_reducible refine jD (N:=3) rfl ?_);(try (refine jTa (by rfl) ?_;dsimp only));refine jgb ?hg (N:=3) ?hd (cs:=#[.slice none 0 0]) (t:=25) ?hr ?_;(case hd=>rfl);(case hg=>rfl);(case hr=>exact Y4);intro gb508 hg w7 hbox hb;have BK508:=am (hbox);have GW508:=am ((Y0:w.heap.size≤gb508));have GE508:=am ((Y0:w.heap.size≤gb508));replace HO503:=am (Kd.jW (rq HO503.out) hb);replace HO506:=am (Kd.jW (rq HO506.out) hb);replace HB:=am (je (bq) hb);clear hb hbox hg) |((with_reducible refine jD (N:=4) rfl ?_);(try (refine jTa (by rfl) ?_;dsimp only));refine jgb ?hg (N:=4) ?hd (cs:=#[.slice none 0 0]) (t:=28) ?hr ?_;(case hd=>rfl);(case hg=>rfl);(case hr=>exact Y4);intro gb509 hg w8 hbox hb;have BK509:=am (hbox);have GW509:=am ((Y182:w.heap.size≤gb509));have GE509:=am ((Y182:w.heap.size≤gb509));have NB508_509:=am ((by rw [hg];exact Nat.ne_of_lt (jda (g:=gb508) (o:=.cells #[.slice none 0 0] 25 (0,0)) (kq BK508.out)):gb508≠gb509));have NB509_508:=am ((by rw [hg];exact Nat.ne_of_gt (jda (g:=gb508) (o:=.cells #[.slice none 0 0] 25 (0,0)) (kq BK508.out)):gb509≠gb508));replace HO503:=am (Kd.jW (rq HO503.out) hb);replace HO506:=am (Kd.jW (rq HO506.out) hb);replace BK508:=am (jc (g:=gb508) (o:=.cells #[.slice none 0 0] 25 (0,0)) (kq BK508.out) hb);replace HB:=am (je (by repeat (first |(with_reducible first | exact HB.out | apply jv | apply jo | apply jq | refine jl ?_ GE508.out) | exact HB.out)) hb);clear hb hbox hg;obtain ⟨Ao9,co9,eo9⟩:=Kd.jZ HO503.out;subst eo9;have hnb10:=NB508_509.out;have hnc10:=NB509_508.out;have hcz11_0:=bc0 BK508.out;have hfz11_0:=jb BK508.out 0;obtain ⟨Ao12,co12,eo12⟩:=Kd.jZ HO506.out;subst eo12;have hcz13_0:=bc0 BK509.out;have hfz13_0:=jb BK509.out 0) |((with_reducible refine jw (f:=11) rfl ?_);refine gL (some 24) Tryd.func11 #[.agg #[.slice Ao9 t501.length co9], .agg #[.slice Ao12 t504.length co12], .int .i64 t507] ?_;(with_reducible refine (jPa.calls k _ _ t501 _ _ t504 t507 t510 _ ?side1 ?side2 ?side3 ?side4 A4.out).mono ?_);(case side1=>refine (Kd.jC (e:=99) (base:=w.heap.size) (ok:=fun k_=>True) (n:=t501.length) (c:=co9) ?_).2.2;exact (Y183));(case side2=>exact (Kd.jC HO503.out).2.1);(case side3=>refine (Kd.jC (e:=66) (base:=w.heap.size) (ok:=fun k_=>True) (n:=t504.length) (c:=co12) ?_).2.2;exact (Y184));(case side4=>exact (Kd.jC HO506.out).2.1);rintro e w14 ⟨rfl,hb⟩;refine ⟨_,rfl,?_⟩;replace HO503:=am (Kd.jW (Y183) hb);replace HO506:=am (Kd.jW (Y184) hb);replace BK508:=am (jc (g:=gb508) (o:=.cells #[.slice Ao9 t501.length co9] 25 (0,0)) (by (with_reducible repeat (first | refine jg ?_ _ | refine jf ?_ | refine jh ?_ _));refine jT ?_ NB508_509.out _;(with_reducible repeat (first | refine jg ?_ _ | refine jf ?_ | refine jh ?_ _));refine jya (cs:=#[.slice none 0 0]) ?_ 0 _ rfl;(with_reducible repeat (first | refine jg ?_ _ | refine jf ?_ | refine jh ?_ _));exact BK508.out) hb);replace BK509:=am (jc (g:=gb509) (o:=.cells #[.slice Ao12 t504.length co12] 28 (0,0)) (by (with_reducible repeat (first | refine jg ?_ _ | refine jf ?_ | refine jh ?_ _));refine jya (cs:=#[.slice none 0 0]) ?_ 0 _ rfl;(with_reducible repeat (first | refine jg ?_ _ | refine jf ?_ | refine jh ?_ _));refine jT ?_ NB509_508.out _;(with_reducible repeat (first | refine jg ?_ _ | refine jf ?_ | refine jh ?_ _));exact BK509.out) hb);replace HB:=am (je (Y28) hb);(try clear hb);(try clear hb2);(try clear hk);(try clear hi)))
  (try simp only [Act.put,List.setIfInBounds_toArray,List.set_cons_zero,List.set_cons_succ])
  go_cut [34] (fun v34 wc=>∃ (kq:Nat) (x34_4:Bool),v34=.bool x34_4∧jB (jJ.j0 kq t507 t510 x34_4 t501 t504=some r)∧jB (kq≤k)∧jB (Kd.R k99 99 wc w.heap.size (fun _=>True) (.slice Ao9 t501.length co9) t501)∧jB (Kd.R k66 66 wc w.heap.size (fun _=>True) (.slice Ao12 t504.length co12) t504)∧jB (wc.heap[gb508]?=some (.cells #[(.slice Ao9 t501.length co9)] 25 (0,0)))∧jB (wc.heap[gb509]?=some (.cells #[(.slice Ao12 t504.length co12)] 28 (0,0)))∧jB (Below w.heap.size w wc))
  case first =>
   have H:=HC5.out
   clear HC5
   replace H:=bzS H
   obtain ⟨t511,A150,H⟩:=H
   replace H:(if t510.toList=t511.toList then (jJ.j0 k t507 t510 (t510.toList == ([]:List UInt8)) t501 t504) else (jJ.j0 k t507 t510 true t501 t504))=some r:=H
   have A15:=am A150
   clear A150
   by_cases c16:t510.toList=t511.toList
   ·rw [if_pos c16] at H
    have c16b0:(t510.toList == t511.toList)=true:=beq_iff_eq.mpr c16
    have c16b1:(t510.toList != t511.toList)=false:=bne_eq_false_iff_eq.mpr c16
    clear c16
    (first | rw [c16b0] |(simp only [jwb,jBb];rw [c16b0]) | skip)
    have H':=am H
    clear H
    have hnb17:=NB508_509.out
    have hnc17:=NB509_508.out
    have hcz18_0:=bc0 BK508.out
    have hfz18_0:=jb BK508.out 0
    have hcz19_0:=bc0 BK509.out
    have hfz19_0:=jb BK509.out 0
    go_wp2_with (first |((with_reducible refine jw (f:=15) rfl ?_);refine gL (some 29) Tryd.func15 #[.agg #[.slice Ao9 t501.length co9], .agg #[.slice Ao12 t504.length co12], .int .i64 t507] ?_;(with_reducible refine (jLa.calls k _ _ t501 _ _ t504 t507 t511 _ ?side1 ?side2 ?side3 ?side4 A15.out).mono ?_);(case side1=>exact cq (Kd.jC HO503.out).2.2);(case side2=>exact (Kd.jC HO503.out).2.1);(case side3=>exact cq (Kd.jC HO506.out).2.2);(case side4=>exact (Kd.jC HO506.out).2.1);rintro e w20 ⟨rfl,hb⟩;refine ⟨_,rfl,?_⟩;replace HO503:=am (Kd.jW (rq HO503.out) hb);replace HO506:=am (Kd.jW (rq HO506.out) hb);replace BK508:=am (jc (g:=gb508) (o:=.cells #[.slice Ao9 t501.length co9] 25 (0,0)) (kq BK508.out) hb);replace BK509:=am (jc (g:=gb509) (o:=.cells #[.slice Ao12 t504.length co12] 28 (0,0)) (kq BK509.out) hb);replace HB:=am (je (Y28) hb);(try clear hb);(try clear hb2);(try clear hk);(try clear hi)))
    go_meet
    case rel=>exact ⟨_,((t510.toList == ([]:List UInt8))),(sq),H',⟨Y63⟩,⟨rq HO503.out⟩,⟨rq HO506.out⟩,⟨kq BK508.out⟩,⟨kq BK509.out⟩,⟨Y28⟩⟩
   ·rw [if_neg c16] at H
    have c16b0:(t510.toList == t511.toList)=false:=beq_eq_false_iff_ne.mpr c16
    have c16b1:(t510.toList != t511.toList)=true:=bne_iff_ne.mpr c16
    (first | rw [c16b0] |(simp only [jwb,jBb];rw [c16b0]) | skip)
    have H':=am H
    clear H
    have hnb21:=NB508_509.out
    have hnc21:=NB509_508.out
    have hcz22_0:=bc0 BK508.out
    have hfz22_0:=jb BK508.out 0
    have hcz23_0:=bc0 BK509.out
    have hfz23_0:=jb BK509.out 0
    go_wp2_with (first |((with_reducible refine jw (f:=15) rfl ?_);refine gL (some 29) Tryd.func15 #[.agg #[.slice Ao9 t501.length co9], .agg #[.slice Ao12 t504.length co12], .int .i64 t507] ?_;(with_reducible refine (jLa.calls k _ _ t501 _ _ t504 t507 t511 _ ?side1 ?side2 ?side3 ?side4 A15.out).mono ?_);(case side1=>exact cq (Kd.jC HO503.out).2.2);(case side2=>exact (Kd.jC HO503.out).2.1);(case side3=>exact cq (Kd.jC HO506.out).2.2);(case side4=>exact (Kd.jC HO506.out).2.1);rintro e w24 ⟨rfl,hb⟩;refine ⟨_,rfl,?_⟩;replace HO503:=am (Kd.jW (rq HO503.out) hb);replace HO506:=am (Kd.jW (rq HO506.out) hb);replace BK508:=am (jc (g:=gb508) (o:=.cells #[.slice Ao9 t501.length co9] 25 (0,0)) (kq BK508.out) hb);replace BK509:=am (jc (g:=gb509) (o:=.cells #[.slice Ao12 t504.length co12] 28 (0,0)) (kq BK509.out) hb);replace HB:=am (je (Y28) hb);(try clear hb);(try clear hb2);(try clear hk);(try clear hi)))
    go_meet
    case rel=>exact ⟨_,(true),(sq),H',⟨Y63⟩,⟨rq HO503.out⟩,⟨rq HO506.out⟩,⟨kq BK508.out⟩,⟨kq BK509.out⟩,⟨Y28⟩⟩
  case rest =>
   clear HC5
   try clear c1
   try clear c2
   try clear c2b0
   try clear c2b1
   try clear p2
   try clear c4
   try clear c10
   try clear c11
   try clear c14
   try clear c15
   try clear c16
   try clear c16b0
   try clear c16b1
   try clear c17
   try clear c21
   try clear hcz11_0
   try clear hcz13_0
   try clear hcz18_0
   try clear hcz19_0
   try clear hcz22_0
   try clear hcz23_0
   try clear hfz11_0
   try clear hfz13_0
   try clear hfz18_0
   try clear hfz19_0
   try clear hfz22_0
   try clear hfz23_0
   obtain ⟨kq,x34_4,rfl,HA,HJ4,HO_509000,HO_510000,BK508,BK509,HB⟩:=hcut
   cases kq with
   | zero=>exact absurd HA.out (by simp [jJ.j0])
   | succ kj4 =>
    have H:=HA.out
    clear HA
    simp only [jJ.j0] at H
    by_cases c25:x34_4=true
    ·subst c25
     have H1:((jLa.f kj4 t501 t504 t507).bind fun t512=>(some (t510.toList == t512.toList)))=some r:=by rw [if_pos rfl] at H;exact H
     clear H
     have H:=H1
     clear H1
     replace H:=bzS H
     obtain ⟨t512,A260,H⟩:=H
     replace H:(some (t510.toList == t512.toList))=some r:=H
     have A26:=am A260
     clear A260
     obtain rfl:=Option.some.inj H
     have hnb27:=NB508_509.out
     have hnc27:=NB509_508.out
     have hcz28_0:=bc0 BK508.out
     have hfz28_0:=jb BK508.out 0
     have hcz29_0:=bc0 BK509.out
     have hfz29_0:=jb BK509.out 0
     go_wp2_with (first |((with_reducible refine jw (f:=15) rfl ?_);refine gL (some 39) Tryd.func15 #[.agg #[.slice Ao9 t501.length co9], .agg #[.slice Ao12 t504.length co12], .int .i64 t507] ?_;(with_reducible refine (jLa.calls kj4 _ _ t501 _ _ t504 t507 t512 _ ?side1 ?side2 ?side3 ?side4 A26.out).mono ?_);(case side1=>exact cq (Kd.jC HO_509000.out).2.2);(case side2=>exact (Kd.jC HO_509000.out).2.1);(case side3=>exact cq (Kd.jC HO_510000.out).2.2);(case side4=>exact (Kd.jC HO_510000.out).2.1);rintro e w30 ⟨rfl,hb⟩;refine ⟨_,rfl,?_⟩;replace HO_509000:=am (Kd.jW (rq HO_509000.out) hb);replace HO_510000:=am (Kd.jW (rq HO_510000.out) hb);replace BK508:=am (jc (g:=gb508) (o:=.cells #[.slice Ao9 t501.length co9] 25 (0,0)) (kq BK508.out) hb);replace BK509:=am (jc (g:=gb509) (o:=.cells #[.slice Ao12 t504.length co12] 28 (0,0)) (kq BK509.out) hb);replace HB:=am (je (Y28) hb);(try clear hb);(try clear hb2);(try clear hk);(try clear hi)))
     go_ret
     exact ⟨Y1,Y28⟩
    ·replace c25:=Bool.eq_false_iff.mpr c25
     subst c25
     have H1:(jJ.l0 kj4 t507 t510 0 0 t501 t504)=some r:=by rw [if_neg (show ¬ (false=true) by decide)] at H;exact H
     clear H
     have H:=H1
     clear H1
     have H':=am H
     clear H
     go_wp2
     go_loopg [7,8] kj4 (fun kq v7 v8 w'=>∃ (x7_2:Int) (x8_2:Int),v7=.int .i64 x7_2∧v8=.int .i64 x8_2∧jB (jJ.l0 kq t507 t510 x7_2 x8_2 t501 t504=some r)∧jB (kq≤kj4)∧jB (Kd.R k99 99 w' w.heap.size (fun _=>True) (.slice Ao9 t501.length co9) t501)∧jB (Kd.R k66 66 w' w.heap.size (fun _=>True) (.slice Ao12 t504.length co12) t504)∧jB (w'.heap[gb508]?=some (.cells #[(.slice Ao9 t501.length co9)] 25 (0,0)))∧jB (w'.heap[gb509]?=some (.cells #[(.slice Ao12 t504.length co12)] 28 (0,0)))∧jB (Below w.heap.size w w'))
     case atStart=>exact ⟨(0),(0),(sq),(sq),H',⟨Nat.le_refl _⟩,⟨rq HO_509000.out⟩,⟨rq HO_510000.out⟩,⟨kq BK508.out⟩,⟨kq BK509.out⟩,⟨Y28⟩⟩
     case round =>
      clear H'
      try clear c1
      try clear c2
      try clear c2b0
      try clear c2b1
      try clear p2
      try clear c4
      try clear c10
      try clear c11
      try clear c14
      try clear c15
      try clear c16
      try clear c16b0
      try clear c16b1
      try clear c17
      try clear c21
      try clear c25
      try clear c27
      try clear hcz11_0
      try clear hcz13_0
      try clear hcz18_0
      try clear hcz19_0
      try clear hcz22_0
      try clear hcz23_0
      try clear hcz28_0
      try clear hcz29_0
      try clear hfz11_0
      try clear hfz13_0
      try clear hfz18_0
      try clear hfz19_0
      try clear hfz22_0
      try clear hfz23_0
      try clear hfz28_0
      try clear hfz29_0
      try clear p2
      obtain ⟨x7_2,x8_2,rfl,rfl,HA,HK2,HO_509000,HO_510000,BK508,BK509,HB⟩:=hrel
      cases gk with
      | zero=>exact absurd HA.out (by simp [jJ.l0])
      | succ k2 =>
       have H:=HA.out
       clear HA
       simp only [jJ.l0] at H
       by_cases c31:x8_2<(t510.size:Int)
       ·rw [if_pos c31] at H
        have c31b0:decide (x8_2<(t510.size:Int))=true:=dzT c31
        clear c31
        by_cases c32:0≤x8_2
        ·rw [if_pos c32] at H
         have c32b0:decide (0≤x8_2)=true:=dzT c32
         clear c32
         by_cases c34:(bt t510 x8_2)=58
         ·rw [if_pos c34] at H
          have c34b0:((bt t510 x8_2) == 58)=true:=beq_iff_eq.mpr c34
          have c34b1:((bt t510 x8_2) != 58)=false:=bne_eq_false_iff_eq.mpr c34
          clear c34
          have H':=am H
          clear H
          have p33:0≤(x8_2:Int):=ozD (uq)
          have q33:x8_2<(t510.size:Int):=ozD (uq)
          have hx33:=bt_at t510 x8_2
          replace p33:=ezT p33
          replace q33:=ezT q33
          go_wp2
          go_roundg k2
          case measure=>have:=HJ4.out;have:=HK2.out;omega
          case rel=>exact ⟨(wrap64 (x7_2+1)),(wrap64 (x8_2+1)),(sq),(sq),H',⟨by have:=HJ4.out;have:=HK2.out;omega⟩,⟨rq HO_509000.out⟩,⟨rq HO_510000.out⟩,⟨kq BK508.out⟩,⟨kq BK509.out⟩,⟨Y28⟩⟩
         ·rw [if_neg c34] at H
          have c34b0:((bt t510 x8_2) == 58)=false:=beq_eq_false_iff_ne.mpr c34
          have c34b1:((bt t510 x8_2) != 58)=true:=bne_iff_ne.mpr c34
          have H':=am H
          clear H
          have p33:0≤(x8_2:Int):=ozD (uq)
          have q33:x8_2<(t510.size:Int):=ozD (uq)
          have hx33:=bt_at t510 x8_2
          replace p33:=ezT p33
          replace q33:=ezT q33
          go_wp2
          go_roundg k2
          case measure=>have:=HJ4.out;have:=HK2.out;omega
          case rel=>exact ⟨(x7_2),(wrap64 (x8_2+1)),(sq),(sq),H',⟨by have:=HJ4.out;have:=HK2.out;omega⟩,⟨rq HO_509000.out⟩,⟨rq HO_510000.out⟩,⟨kq BK508.out⟩,⟨kq BK509.out⟩,⟨Y28⟩⟩
        ·rw [if_neg c32] at H
         exact absurd H (by simp)
       ·rw [if_neg c31] at H
        have c31b0:decide (x8_2<(t510.size:Int))=false:=dzF c31
        clear c31
        replace H:=bzS H
        obtain ⟨⟨t513,t516⟩,A350,H⟩:=H
        replace H:((jPa.f k2 t501 t513 t507).bind fun t518=>(if t516=true then ((jab.f k2 t501 t504 t507).bind fun t519=>(if x7_2=(t519.length:Int) then (if (t518.size:Int)≤(t510.size:Int) then (if 0≤(wrap64 ((t510.size:Int) - (t518.size:Int))) then (if (wrap64 ((t510.size:Int) - (t518.size:Int)))≤(t510.size:Int) then (some ((t510.extract ((wrap64 ((t510.size:Int) - (t518.size:Int))):Int).toNat t510.size).toList == t518.toList)) else (none)) else (none)) else (some false)) else (some false))) else (some false)))=some r:=H
        have A35:=am A350
        clear A350
        replace H:=bzS H
        obtain ⟨t518,A360,H⟩:=H
        replace H:(if t516=true then ((jab.f k2 t501 t504 t507).bind fun t519=>(if x7_2=(t519.length:Int) then (if (t518.size:Int)≤(t510.size:Int) then (if 0≤(wrap64 ((t510.size:Int) - (t518.size:Int))) then (if (wrap64 ((t510.size:Int) - (t518.size:Int)))≤(t510.size:Int) then (some ((t510.extract ((wrap64 ((t510.size:Int) - (t518.size:Int))):Int).toNat t510.size).toList == t518.toList)) else (none)) else (none)) else (some false)) else (some false))) else (some false))=some r:=H
        have A36:=am A360
        clear A360
        by_cases c37:t516=true
        ·subst c37
         have H1:((jab.f k2 t501 t504 t507).bind fun t519=>(if x7_2=(t519.length:Int) then (if (t518.size:Int)≤(t510.size:Int) then (if 0≤(wrap64 ((t510.size:Int) - (t518.size:Int))) then (if (wrap64 ((t510.size:Int) - (t518.size:Int)))≤(t510.size:Int) then (some ((t510.extract ((wrap64 ((t510.size:Int) - (t518.size:Int))):Int).toNat t510.size).toList == t518.toList)) else (none)) else (none)) else (some false)) else (some false)))=some r:=by rw [if_pos rfl] at H;exact H
         clear H
         have H:=H1
         clear H1
         replace H:=bzS H
         obtain ⟨t519,A380,H⟩:=H
         replace H:(if x7_2=(t519.length:Int) then (if (t518.size:Int)≤(t510.size:Int) then (if 0≤(wrap64 ((t510.size:Int) - (t518.size:Int))) then (if (wrap64 ((t510.size:Int) - (t518.size:Int)))≤(t510.size:Int) then (some ((t510.extract ((wrap64 ((t510.size:Int) - (t518.size:Int))):Int).toNat t510.size).toList == t518.toList)) else (none)) else (none)) else (some false)) else (some false))=some r:=H
         have A38:=am A380
         clear A380
         by_cases c39:x7_2=(t519.length:Int)
         ·rw [if_pos c39] at H
          have c39b0:(x7_2 == (t519.length:Int))=true:=beq_iff_eq.mpr c39
          have c39b1:(x7_2 != (t519.length:Int))=false:=bne_eq_false_iff_eq.mpr c39
          clear c39
          by_cases c40:(t518.size:Int)≤(t510.size:Int)
          ·rw [if_pos c40] at H
           have c40b0:decide ((t518.size:Int)≤(t510.size:Int))=true:=dzT c40
           have c40b1:decide (t518.size≤t510.size)=true:=dzT (Int.ofNat_le.mp c40)
           clear c40
           obtain ⟨ji41,hji41⟩:∃ j_:Int,(wrap64 ((t510.size:Int) - (t518.size:Int)))=j_:=⟨_,rfl⟩
           replace H:(if 0≤(ji41) then (if (ji41)≤(t510.size:Int) then (some ((t510.extract ((ji41):Int).toNat t510.size).toList == t518.toList)) else (none)) else (none))=some r:=by first |(rw [hji41] at H;exact H) |(simp only [hji41] at H ⊢;exact H)
           (try rw [hji41] at A35)
           (try rw [hji41] at A36)
           (try rw [hji41] at A38)
           have hji41w:(IntKind.i64.wrap ((t510.size:Int) - (t518.size:Int)))=ji41:=(jwb _).trans hji41
           by_cases c42:0≤(ji41)
           ·rw [if_pos c42] at H
            have c42b0:=ezT c42
            have c42b1:decide (0≤(ji41))=true:=dzT c42
            clear c42
            by_cases c43:(ji41)≤(t510.size:Int)
            ·rw [if_pos c43] at H
             have c43b0:=ezT c43
             have c43b1:decide ((ji41)≤(t510.size:Int))=true:=dzT c43
             clear c43
             obtain rfl:=Option.some.inj H
             have hnb44:=NB508_509.out
             have hnc44:=NB509_508.out
             have hcz45_0:=bc0 BK508.out
             have hfz45_0:=jb BK508.out 0
             have hcz46_0:=bc0 BK509.out
             have hfz46_0:=jb BK509.out 0
             go_wp2_with (first |((with_reducible refine jw (f:=13) rfl ?_);refine gL (some 57) Tryd.func13 #[.agg #[.slice Ao9 t501.length co9], .agg #[.slice Ao12 t504.length co12], .int .i64 t507, .int .i64 (-1)] ?_;(with_reducible refine (jJb.calls k2 _ _ t501 _ _ t504 t507 (-1) t513 true _ ?side1 ?side2 ?side3 ?side4 A35.out).mono ?_);(case side1=>exact cq (Kd.jC HO_509000.out).2.2);(case side2=>exact (Kd.jC HO_509000.out).2.1);(case side3=>exact cq (Kd.jC HO_510000.out).2.2);(case side4=>exact (Kd.jC HO_510000.out).2.1);rintro e w47 ⟨v514,rfl,ho0,hb⟩;refine ⟨_,rfl,?_⟩;have HO515:=am (Kd.jia (Kd.R_new' ho0 (Kd.R_lt (rq HO_510000.out))) (jM (Y28)));replace HO_509000:=am (Kd.jW (rq HO_509000.out) hb);replace HO_510000:=am (Kd.R_elder' (rq HO_510000.out) (Kd.R_base ho0) hb);replace BK508:=am (jc (g:=gb508) (o:=.cells #[.slice Ao9 t501.length co9] 25 (0,0)) (kq BK508.out) hb);replace BK509:=am (jc (g:=gb509) (o:=.cells #[.slice Ao12 t504.length co12] 28 (0,0)) (kq BK509.out) hb);replace HB:=am (je (Y28) hb);(try clear hb);(try clear hb2);(try clear hk);(try clear hi);(try clear ho0)) |((with_reducible refine jD (N:=9) rfl ?_);(try (refine jTa (by rfl) ?_;dsimp only));refine jgb ?hg (N:=9) ?hd (cs:=#[.slice none 0 0]) (t:=28) ?hr ?_;(case hd=>rfl);(case hg=>rfl);(case hr=>exact Y4);intro gb517 hg w48 hbox hb;have BK517:=am (hbox);have GW517:=am ((Y185:w.heap.size≤gb517));have GE517:=am ((Y185:w.heap.size≤gb517));have NB508_517:=am ((by rw [hg];exact Nat.ne_of_lt (jda (g:=gb508) (o:=.cells #[.slice Ao9 t501.length co9] 25 (0,0)) (kq BK508.out)):gb508≠gb517));have NB517_508:=am ((by rw [hg];exact Nat.ne_of_gt (jda (g:=gb508) (o:=.cells #[.slice Ao9 t501.length co9] 25 (0,0)) (kq BK508.out)):gb517≠gb508));have NB509_517:=am ((by rw [hg];exact Nat.ne_of_lt (jda (g:=gb509) (o:=.cells #[.slice Ao12 t504.length co12] 28 (0,0)) (kq BK509.out)):gb509≠gb517));have NB517_509:=am ((by rw [hg];exact Nat.ne_of_gt (jda (g:=gb509) (o:=.cells #[.slice Ao12 t504.length co12] 28 (0,0)) (kq BK509.out)):gb517≠gb509));replace HO_509000:=am (Kd.jW (rq HO_509000.out) hb);replace HO_510000:=am (Kd.jW (rq HO_510000.out) hb);replace HO515:=am (Kd.jW (rq HO515.out) hb);replace BK508:=am (jc (g:=gb508) (o:=.cells #[.slice Ao9 t501.length co9] 25 (0,0)) (kq BK508.out) hb);replace BK509:=am (jc (g:=gb509) (o:=.cells #[.slice Ao12 t504.length co12] 28 (0,0)) (kq BK509.out) hb);replace HB:=am (je (Y28) hb);clear hb hbox hg;obtain ⟨Ao49,co49,eo49⟩:=Kd.jZ HO515.out;subst eo49;have hnb50:=NB517_508.out;have hnc50:=NB508_517.out;have hnb51:=NB517_509.out;have hnc51:=NB509_517.out;have hcz52_0:=bc0 BK517.out;have hfz52_0:=jb BK517.out 0;have hcz53_0:=bc0 BK508.out;have hfz53_0:=jb BK508.out 0) |((with_reducible refine jw (f:=11) rfl ?_);refine gL (some 63) Tryd.func11 #[.agg #[.slice Ao9 t501.length co9], .agg #[.slice Ao49 t513.length co49], .int .i64 t507] ?_;(with_reducible refine (jPa.calls k2 _ _ t501 _ _ t513 t507 t518 _ ?side1 ?side2 ?side3 ?side4 A36.out).mono ?_);(case side1=>refine (Kd.jC (e:=99) (base:=w.heap.size) (ok:=fun k_=>True) (n:=t501.length) (c:=co9) ?_).2.2;exact (Y186));(case side2=>exact (Kd.jC HO_509000.out).2.1);(case side3=>refine (Kd.jC (e:=66) (base:=w.heap.size) (ok:=fun k_=>(True∧some k_≠(.slice Ao12 t504.length co12:Value).ownBlock)) (n:=t513.length) (c:=co49) ?_).2.2;exact (Y187));(case side4=>exact (Kd.jC HO515.out).2.1);rintro e w54 ⟨rfl,hb⟩;refine ⟨_,rfl,?_⟩;replace HO_509000:=am (Kd.jW (Y186) hb);replace HO_510000:=am (Kd.jW (by (with_reducible repeat (first | apply Kd.jX | apply Kd.jba | apply Kd.jV));exact (Kd.jI (Kd.jwa (p:=⟨gb517,0,none⟩) (Kd.jP HO_510000.out BK517.out (by decide)) (fun _ hk=>hk.2) (.slice Ao49 t513.length co49)) (fun _ h_=>h_.1))) hb);replace HO515:=am (Kd.jW (Y187) hb);replace BK508:=am (jc (g:=gb508) (o:=.cells #[.slice Ao9 t501.length co9] 25 (0,0)) (by (with_reducible repeat (first | refine jg ?_ _ | refine jf ?_ | refine jh ?_ _));refine jT ?_ NB508_517.out _;(with_reducible repeat (first | refine jg ?_ _ | refine jf ?_ | refine jh ?_ _));exact BK508.out) hb);replace BK509:=am (jc (g:=gb509) (o:=.cells #[.slice Ao12 t504.length co12] 28 (0,0)) (by (with_reducible repeat (first | refine jg ?_ _ | refine jf ?_ | refine jh ?_ _));refine jT ?_ NB509_517.out _;(with_reducible repeat (first | refine jg ?_ _ | refine jf ?_ | refine jh ?_ _));exact BK509.out) hb);replace BK517:=am (jc (g:=gb517) (o:=.cells #[.slice Ao49 t513.length co49] 28 (0,0)) (by (with_reducible repeat (first | refine jg ?_ _ | refine jf ?_ | refine jh ?_ _));refine jya (cs:=#[.slice none 0 0]) ?_ 0 _ rfl;(with_reducible repeat (first | refine jg ?_ _ | refine jf ?_ | refine jh ?_ _));exact BK517.out) hb);replace HB:=am (je (Y120) hb);(try clear hb);(try clear hb2);(try clear hk);(try clear hi);have hcz55_0:=bc0 BK508.out;have hfz55_0:=jb BK508.out 0;have hcz56_0:=bc0 BK509.out;have hfz56_0:=jb BK509.out 0) |(go_at_call 10;(with_reducible refine (jab.calls k2 _ _ t501 _ _ t504 t507 t519 _ ?side1 ?side2 ?side3 ?side4 A38.out).mono ?_);(case side1=>exact cq (Kd.jC HO_509000.out).2.2);(case side2=>exact (Kd.jC HO_509000.out).2.1);(case side3=>exact cq (Kd.jC HO_510000.out).2.2);(case side4=>exact (Kd.jC HO_510000.out).2.1);rintro e w57 ⟨v520,rfl,ho0,hb⟩;have HO521:=am (Kd.jia ho0 (jM (Y120)));replace HO_509000:=am (Kd.jW (rq HO_509000.out) hb);replace HO_510000:=am (Kd.jW (rq HO_510000.out) hb);replace HO515:=am (Kd.jW (rq HO515.out) hb);replace BK508:=am (jc (g:=gb508) (o:=.cells #[.slice Ao9 t501.length co9] 25 (0,0)) (kq BK508.out) hb);replace BK509:=am (jc (g:=gb509) (o:=.cells #[.slice Ao12 t504.length co12] 28 (0,0)) (kq BK509.out) hb);replace BK517:=am (jc (g:=gb517) (o:=.cells #[.slice Ao49 t513.length co49] 28 (0,0)) (kq BK517.out) hb);replace HB:=am (je (Y120) hb);(try clear hb);(try clear hb2);(try clear hk);(try clear hi);(try clear ho0);obtain ⟨Ao58,co58,eo58⟩:=Kd.jZ HO521.out;subst eo58))
             go_ret
             exact ⟨by first | rfl |(simp [jrb,jqb] <;> rfl) |(simp only [← hji41];first | rfl |(simp [jrb,jqb] <;> rfl)) |(simp [*,jrb,jqb] <;> rfl),Y120⟩
            ·rw [if_neg c43] at H
             exact absurd H (by simp)
           ·rw [if_neg c42] at H
            exact absurd H (by simp)
          ·rw [if_neg c40] at H
           have c40b0:decide ((t518.size:Int)≤(t510.size:Int))=false:=dzF c40
           have c40b1:decide (t518.size≤t510.size)=false:=dzF (fun h=>c40 (Int.ofNat_le.mpr h))
           clear c40
           exact absurd ((Option.some.inj H).trans hT) Bool.false_ne_true
         ·rw [if_neg c39] at H
          have c39b0:(x7_2 == (t519.length:Int))=false:=beq_eq_false_iff_ne.mpr c39
          have c39b1:(x7_2 != (t519.length:Int))=true:=bne_iff_ne.mpr c39
          exact absurd ((Option.some.inj H).trans hT) Bool.false_ne_true
        ·replace c37:=Bool.eq_false_iff.mpr c37
         subst c37
         have H1:(some false)=some r:=by rw [if_neg (show ¬ (false=true) by decide)] at H;exact H
         clear H
         have H:=H1
         clear H1
         exact absurd ((Option.some.inj H).trans hT) Bool.false_ne_true
def jJ.Pure : Prop := ∀ (l0 : List Int), l0.length ≤ maxLen → l0.length * 1 ≤ 140737488351232 → (∀ x ∈ l0, (Lit.int .u8 x).wf = true) → ∃ k, jJ.f k l0 = some true
theorem jJ.walk (P : jJ.Pure) (a0 : Option Addr) (len0 cap0 : Nat) (z0 : List Int) (w : World) (w0 : (a0 = none ∧ len0 = 0 ∧ cap0 = 0 ∧ z0 = []) ∨ ∃ x, a0 = some x ∧ len0 ≤ cap0 ∧ cap0 ≤ maxLen ∧ z0.length = cap0 ∧ (∀ i, i < z0.length → w.cell? (x.add i) = some (.int .u8 (z0.getD i 0))) ∧ ∀ n ∈ z0, (Lit.int .u8 n).wf = true) (y0 : len0 * 1 ≤ 140737488351232) :
  Calls Tryd.prog 4 #[.slice a0 len0 cap0] w fun e w'=>e=.returned (.bool true)∧Below w.heap.size w w':=by
 obtain ⟨l0,rfl,hr0,hm0,hw0,hc0⟩:=jfb.ofRowC w0
 obtain ⟨k,h⟩:=P l0 hm0 y0 hw0
 refine (jJ.calls k _ _ l0 true w (Kd.C_of_reads (d:=(0:Int)) (h1:=fun _=>rfl) hr0) hc0 rfl h).mono ?_
 rintro e w' ⟨rfl,hd⟩
 exact ⟨rfl,hd⟩
end Go.Proofs.YteibechlncphnaaDoor.P
end
