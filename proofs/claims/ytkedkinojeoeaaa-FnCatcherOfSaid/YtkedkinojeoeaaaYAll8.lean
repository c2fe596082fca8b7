/- One part of the proofs on this program: functions of the program as plain functions, that the code comes to them, and facts on them. -/
import Derived.Test.YtkedkinojeoeaaaYAll1
import Derived.Test.YtkedkinojeoeaaaYAll5
import Derived.Test.YtkedkinojeoeaaaYAll6
import Derived.Test.YtkedkinojeoeaaaYAll7
import Derived.Test.YtkedkinojeoeaaaYWAuto
section
namespace Go.Proofs.Ytkedkinojeoeaaa.P
open Go.RowKit Go.Proofs.YtkedkinojeoeaaaW.PrintWords Go.Proofs.YtkedkinojeoeaaaW.PrintLast Go.Proofs.YtkedkinojeoeaaaW.PrintMore
attribute [local go_sem] jta jra jBa jAa jca jba jsa jqa jl
set_option linter.unusedVariables false
set_option linter.unusedSimpArgs false
mutual
def jQ.l0 : Nat → List (S36) → Int → List Int → Int → Int → List (S75) → Option (Int × Int)
 | 0,_,_,_,_,_,_=>none
 | k+1,x1,x3,x16,x17,x18,x802000=>if x18<x17 then (if 0≤x18 then (if x18<(x16.length:Int) then (if 0≤(rd x16 x18) then (if (rd x16 x18)<(x1.length:Int) then (if ((jc x1 (rd x16 x18)).f1)=11 then (if ((jc x1 (rd x16 x18)).f3)=1 then (some (rd x16 x18,rd x16 x18)) else (jQ.l0 k x1 x3 x16 x17 (wrap64 (x18+1)) x802000)) else (if ((jc x1 (rd x16 x18)).f1)=7 then ((jha.f k x1 (rd x16 x18)).bind fun t808=>(jQ.l1 k x1 x3 (rd x16 x18) x16 x17 x18 t808 (t808.length:Int) 0 x802000)) else (jQ.l0 k x1 x3 x16 x17 (wrap64 (x18+1)) x802000))) else (none)) else (none)) else (none)) else (none)) else (some ((-1),(-1)))
def jQ.l1 : Nat → List (S36) → Int → Int → List Int → Int → Int → List Int → Int → Int → List (S75) → Option (Int × Int)
 | 0,_,_,_,_,_,_,_,_,_,_=>none
 | k+1,x1,x3,x11,x16,x17,x18,x41,x42,x43,x802000=>if x43<x42 then (if 0≤x43 then (if x43<(x41.length:Int) then (if 0≤(rd x41 x43) then (if (rd x41 x43)<(x1.length:Int) then (if ((jc x1 (rd x41 x43)).f1)=8 then ((jUa.f k x802000 x3 ((jc x1 (rd x41 x43)).f2)).bind fun t814=>(if t814=true then (some (x11,rd x41 x43)) else (jQ.l1 k x1 x3 x11 x16 x17 x18 x41 x42 (wrap64 (x43+1)) x802000))) else (jQ.l1 k x1 x3 x11 x16 x17 x18 x41 x42 (wrap64 (x43+1)) x802000)) else (none)) else (none)) else (none)) else (none)) else (jQ.l0 k x1 x3 x16 x17 (wrap64 (x18+1)) x802000)
end
def jQ.f (k : Nat) (l0_0 : List (S75)) (l1 : List (S36)) (a2 : Int) (a3 : Int) : Option (Int × Int) := (jja.f k l1 a2).bind fun t802 => (jQ.l0 k l1 a3 t802 (t802.length : Int) 0 l0_0)
def jQ.T12 : Bool × List (List Nat × List Nat) := (true, [([], []), ([], []), ([0, 1], [0, 1]), ([2], [2]), ([3], [3]), ([4], [4]), ([5], [5]), ([6], [6]), ([6], [6]), ([6], [6]), ([6], [6]), ([9, 10, 6], [6, 9, 10]), ([11, 6], [6, 11]), ([12, 6], [6, 12]), ([7, 8, 13, 6, 6], [6, 7, 8, 13]), ([6, 14], [6, 14])])
def jQ.B12 : List Nat := [0, 0, 3, 7, 15, 31, 63, 127, 127, 127, 127, 1663, 3711, 7807, 16383, 32767]
theorem jQ.tab12 : rtab .any (opsOf Try.f49 12) = jQ.T12 := by kernel_rfl
theorem jQ.bits12 : jdc jQ.T12.2 jQ.B12 = true := by kernel_rfl
set_option maxHeartbeats 8000000 in
set_option maxRecDepth 100000 in
theorem jQ.calls (k : Nat) (A0_0 : Option Addr) (c0_0 : Nat) (l0_0 : List (S75)) (A1 : Option Addr) (c1 : Nat) (l1 : List (S36)) (a2 : Int) (a3 : Int) (r1 : Int) (r2 : Int) (w : World) (hr0_0 : Kd.C k75 w A0_0 l0_0.length l0_0) (hc0_0 : l0_0.length ≤ c0_0) (hr1 : Kd.C k36 w A1 l1.length l1) (hc1 : l1.length ≤ c1) (h : jQ.f k l0_0 l1 a2 a3 = some (r1, r2)) :
  Calls Try.prog 49 #[.agg #[.slice A0_0 l0_0.length c0_0], .slice A1 l1.length c1, .int .i64 a2, .int .i64 a3] w fun e w'=>e=.returned (.tuple #[.int .i64 r1, .int .i64 r2])∧Below w.heap.size w w':=by
 have hu25:=Try.underlying25
 have HR0_0:=am hr0_0
 have HC0_0:=am hc0_0
 clear hr0_0 hc0_0
 have HR1:=am hr1
 have HC1:=am hc1
 clear hr1 hc1
 have HB:=am (Below.refl w.heap.size w)
 have H:((jja.f k l1 a2).bind fun t802=>(jQ.l0 k l1 a3 t802 (t802.length:Int) 0 l0_0))=some (r1,r2):=h
 clear h
 replace H:=bzS H
 obtain ⟨t802,A50,H⟩:=H
 replace H:(jQ.l0 k l1 a3 t802 (t802.length:Int) 0 l0_0)=some (r1,r2):=H
 have A5:=am A50
 clear A50
 have H':=am H
 clear H
 go_enter Try.func49,Try.ntmps49
 go_wp2_with (first |((with_reducible refine jJ (N:=4) rfl ?_);refine bE (N:=4) (cs:=#[.slice A0_0 l0_0.length c0_0]) (t:=25) ?_;intro gb801 hg w6 hbox hb;have BK801:=am (hbox);have GW801:=am ((Y3:w.heap.size≤gb801));have GE801:=am ((Y3:w.heap.size≤gb801));replace HB:=am (je (bq) hb);clear hb hbox hg) |((with_reducible refine jd (f:=41) rfl ?_);refine gL (some 16) Try.func41 #[.slice A1 l1.length c1, .int .i64 a2] ?_;(with_reducible refine (jja.calls k _ _ l1 a2 t802 _ ?side1 ?side2 A5.out).mono ?_);(case side1=>exact cq (Kd.jT HR1.out HB.out));(case side2=>exact HC1.out);rintro e w7 ⟨v803,rfl,ho0,hb⟩;refine ⟨_,rfl,?_⟩;have HO804:=am (Kd.jaa ho0 (jma (Y31)));replace BK801:=am (jk (g:=gb801) (o:=.cells #[.slice A0_0 l0_0.length c0_0] 25 (0,0)) (kq BK801.out) hb);replace HB:=am (je (Y31) hb);(try clear hb);(try clear hb2);(try clear hk);(try clear hi);(try clear ho0);obtain ⟨Ao8,co8,eo8⟩:=Kd.jka HO804.out;subst eo8))
 go_loopg [18] k (fun kq v18 w'=>∃ (x18_1:Int),v18=.int .i64 x18_1∧jq (jQ.l0 kq l1 a3 t802 (t802.length:Int) x18_1 l0_0=some (r1,r2))∧jq (kq≤k)∧jq (Kd.R (Kd.int .i64) 3 w' w.heap.size (fun _=>True) (.slice Ao8 t802.length co8) t802)∧jq (w'.heap[gb801]?=some (.cells #[(.slice A0_0 l0_0.length c0_0)] 25 (0,0)))∧jq (Below w.heap.size w w'))
 case atStart=>exact ⟨(0),(sq),H',⟨Nat.le_refl _⟩,⟨rq HO804.out⟩,⟨kq BK801.out⟩,⟨Y31⟩⟩
 case round =>
  clear H'
  try clear c1
  try clear p2
  try clear c4
  obtain ⟨x18_1,rfl,HA,HK1,HO_16,BK801,HB⟩:=hrel
  cases gk with
  | zero=>exact absurd HA.out (by simp [jQ.l0])
  | succ k1 =>
   have H:=HA.out
   clear HA
   simp only [jQ.l0] at H
   by_cases c9:x18_1<(t802.length:Int)
   ·rw [if_pos c9] at H
    have c9b0:decide (x18_1<(t802.length:Int))=true:=dzT c9
    clear c9
    by_cases c10:0≤x18_1
    ·rw [if_pos c10] at H
     have c10b0:decide (0≤x18_1)=true:=dzT c10
     clear c10
     by_cases c11:x18_1<(t802.length:Int)
     ·rw [if_pos c11] at H
      have c11b0:decide (x18_1<(t802.length:Int))=true:=dzT c11
      clear c11
      by_cases c12:0≤(rd t802 x18_1)
      ·rw [if_pos c12] at H
       have c12b0:decide (0≤(rd t802 x18_1))=true:=dzT c12
       clear c12
       by_cases c13:(rd t802 x18_1)<(l1.length:Int)
       ·rw [if_pos c13] at H
        have c13b0:decide ((rd t802 x18_1)<(l1.length:Int))=true:=dzT c13
        clear c13
        by_cases c14:((jc l1 (rd t802 x18_1)).f1)=11
        ·rw [if_pos c14] at H
         have c14b0:(((jc l1 (rd t802 x18_1)).f1) == 11)=true:=beq_iff_eq.mpr c14
         have c14b1:(((jc l1 (rd t802 x18_1)).f1) != 11)=false:=bne_eq_false_iff_eq.mpr c14
         clear c14
         by_cases c15:((jc l1 (rd t802 x18_1)).f3)=1
         ·rw [if_pos c15] at H
          have c15b0:(((jc l1 (rd t802 x18_1)).f3) == 1)=true:=beq_iff_eq.mpr c15
          have c15b1:(((jc l1 (rd t802 x18_1)).f3) != 1)=false:=bne_eq_false_iff_eq.mpr c15
          clear c15
          simp only [Option.some.injEq,Prod.mk.injEq] at H
          obtain ⟨rfl,rfl⟩:=H
          have p805:0≤(x18_1:Int):=ozD (uq)
          have q805:x18_1<(t802.length:Int):=ozD (uq)
          obtain ⟨ad805,e805,hx805_0⟩:=Kd.jtb (Kd.jy HO_16.out).2.2 x18_1 p805 q805
          cases e805
          replace p805:=ezT p805
          replace q805:=ezT q805
          have p806:0≤((rd t802 x18_1):Int):=ozD (uq)
          have q806:(rd t802 x18_1)<(l1.length:Int):=ozD (uq)
          obtain ⟨ad806,e806,hx806_0,hx806_1,hx806_2,hx806_3⟩:=jna HR1.out (rd t802 x18_1) p806 q806
          cases e806
          replace hx806_0:=cb HB.out hx806_0
          replace hx806_1:=cb HB.out hx806_1
          replace hx806_2:=cb HB.out hx806_2
          replace hx806_3:=cb HB.out hx806_3
          replace p806:=ezT p806
          replace q806:=ezT q806
          have p807:0≤((rd t802 x18_1):Int):=ozD (uq)
          have q807:(rd t802 x18_1)<(l1.length:Int):=ozD (uq)
          obtain ⟨ad807,e807,hx807_0,hx807_1,hx807_2,hx807_3⟩:=jna HR1.out (rd t802 x18_1) p807 q807
          obtain rfl:ad806=ad807:=(by injection e807)
          replace hx807_0:=cb HB.out hx807_0
          replace hx807_1:=cb HB.out hx807_1
          replace hx807_2:=cb HB.out hx807_2
          replace hx807_3:=cb HB.out hx807_3
          replace p807:=ezT p807
          replace q807:=ezT q807
          go_wp2
          go_ret2
          exact ⟨Y0,Y31⟩
         ·rw [if_neg c15] at H
          have c15b0:(((jc l1 (rd t802 x18_1)).f3) == 1)=false:=beq_eq_false_iff_ne.mpr c15
          have c15b1:(((jc l1 (rd t802 x18_1)).f3) != 1)=true:=bne_iff_ne.mpr c15
          have H':=am H
          clear H
          have p805:0≤(x18_1:Int):=ozD (uq)
          have q805:x18_1<(t802.length:Int):=ozD (uq)
          obtain ⟨ad805,e805,hx805_0⟩:=Kd.jtb (Kd.jy HO_16.out).2.2 x18_1 p805 q805
          cases e805
          replace p805:=ezT p805
          replace q805:=ezT q805
          have p806:0≤((rd t802 x18_1):Int):=ozD (uq)
          have q806:(rd t802 x18_1)<(l1.length:Int):=ozD (uq)
          obtain ⟨ad806,e806,hx806_0,hx806_1,hx806_2,hx806_3⟩:=jna HR1.out (rd t802 x18_1) p806 q806
          cases e806
          replace hx806_0:=cb HB.out hx806_0
          replace hx806_1:=cb HB.out hx806_1
          replace hx806_2:=cb HB.out hx806_2
          replace hx806_3:=cb HB.out hx806_3
          replace p806:=ezT p806
          replace q806:=ezT q806
          have p807:0≤((rd t802 x18_1):Int):=ozD (uq)
          have q807:(rd t802 x18_1)<(l1.length:Int):=ozD (uq)
          obtain ⟨ad807,e807,hx807_0,hx807_1,hx807_2,hx807_3⟩:=jna HR1.out (rd t802 x18_1) p807 q807
          obtain rfl:ad806=ad807:=(by injection e807)
          replace hx807_0:=cb HB.out hx807_0
          replace hx807_1:=cb HB.out hx807_1
          replace hx807_2:=cb HB.out hx807_2
          replace hx807_3:=cb HB.out hx807_3
          replace p807:=ezT p807
          replace q807:=ezT q807
          go_wp2
          go_roundg k1
          case measure=>have:=HK1.out;omega
          case rel=>exact ⟨(wrap64 (x18_1+1)),(sq),H',⟨by have:=HK1.out;omega⟩,⟨rq HO_16.out⟩,⟨kq BK801.out⟩,⟨Y31⟩⟩
        ·rw [if_neg c14] at H
         have c14b0:(((jc l1 (rd t802 x18_1)).f1) == 11)=false:=beq_eq_false_iff_ne.mpr c14
         have c14b1:(((jc l1 (rd t802 x18_1)).f1) != 11)=true:=bne_iff_ne.mpr c14
         by_cases c16:((jc l1 (rd t802 x18_1)).f1)=7
         ·rw [if_pos c16] at H
          have c16b0:(((jc l1 (rd t802 x18_1)).f1) == 7)=true:=beq_iff_eq.mpr c16
          have c16b1:(((jc l1 (rd t802 x18_1)).f1) != 7)=false:=bne_eq_false_iff_eq.mpr c16
          clear c16
          replace H:=bzS H
          obtain ⟨t808,A170,H⟩:=H
          replace H:(jQ.l1 k1 l1 a3 (rd t802 x18_1) t802 (t802.length:Int) x18_1 t808 (t808.length:Int) 0 l0_0)=some (r1,r2):=H
          have A17:=am A170
          clear A170
          have H':=am H
          clear H
          have p805:0≤(x18_1:Int):=ozD (uq)
          have q805:x18_1<(t802.length:Int):=ozD (uq)
          obtain ⟨ad805,e805,hx805_0⟩:=Kd.jtb (Kd.jy HO_16.out).2.2 x18_1 p805 q805
          cases e805
          replace p805:=ezT p805
          replace q805:=ezT q805
          have p806:0≤((rd t802 x18_1):Int):=ozD (uq)
          have q806:(rd t802 x18_1)<(l1.length:Int):=ozD (uq)
          obtain ⟨ad806,e806,hx806_0,hx806_1,hx806_2,hx806_3⟩:=jna HR1.out (rd t802 x18_1) p806 q806
          cases e806
          replace hx806_0:=cb HB.out hx806_0
          replace hx806_1:=cb HB.out hx806_1
          replace hx806_2:=cb HB.out hx806_2
          replace hx806_3:=cb HB.out hx806_3
          replace p806:=ezT p806
          replace q806:=ezT q806
          go_wp2_with (first |((with_reducible refine jd (f:=67) rfl ?_);refine gL (some 41) Try.func67 #[.slice (some ad806) l1.length c1, .int .i64 (rd t802 x18_1)] ?_;(with_reducible refine (jha.calls k1 _ _ l1 (rd t802 x18_1) t808 _ ?side1 ?side2 A17.out).mono ?_);(case side1=>exact cq (Kd.jT HR1.out HB.out));(case side2=>exact HC1.out);rintro e w18 ⟨v809,rfl,ho0,hb⟩;refine ⟨_,rfl,?_⟩;have HO810:=am (Kd.jaa (Kd.jFc ho0 (Kd.R_lt (rq HO_16.out))) (jma (Y31)));replace HO_16:=am (Kd.R_elder' (rq HO_16.out) (Kd.jGc ho0) hb);replace BK801:=am (jk (g:=gb801) (o:=.cells #[.slice A0_0 l0_0.length c0_0] 25 (0,0)) (kq BK801.out) hb);replace HB:=am (je (Y31) hb);(try clear hb);(try clear hb2);(try clear hk);(try clear hi);(try clear ho0);obtain ⟨Ao19,co19,eo19⟩:=Kd.jka HO810.out;subst eo19))
          go_loopg [43] k1 (fun kq v43 w'=>∃ (x43_2:Int),v43=.int .i64 x43_2∧jq (jQ.l1 kq l1 a3 (rd t802 x18_1) t802 (t802.length:Int) x18_1 t808 (t808.length:Int) x43_2 l0_0=some (r1,r2))∧jq (kq≤k1)∧jq (Kd.R (Kd.int .i64) 3 w' w.heap.size (fun k_=>some k_≠((.slice Ao19 t808.length co19):Value).ownBlock) (.slice (some ad805) t802.length co8) t802)∧jq (Kd.R (Kd.int .i64) 3 w' w.heap.size (fun k_=>some k_≠((.slice (some ad805) t802.length co8):Value).ownBlock) (.slice Ao19 t808.length co19) t808)∧jq (w'.heap[gb801]?=some (.cells #[(.slice A0_0 l0_0.length c0_0)] 25 (0,0)))∧jq (Below w.heap.size w w'))
          case atStart=>exact ⟨(0),(sq),H',⟨Nat.le_refl _⟩,⟨by (with_reducible repeat (first | apply Kd.jga | apply Kd.jfa | apply Kd.jea));exact Kd.jI HO_16.out (fun _ hk=>hk.2)⟩,⟨by (with_reducible repeat (first | apply Kd.jga | apply Kd.jfa | apply Kd.jea));exact Kd.jI HO810.out (fun _ hk=>hk.2)⟩,⟨kq BK801.out⟩,⟨Y31⟩⟩
          case round =>
           clear H'
           try clear c1
           try clear p2
           try clear c4
           try clear c6
           try clear p6
           try clear p8
           try clear q8
           try clear hx8
           try clear c9
           try clear c9b0
           try clear c10
           try clear c10b0
           try clear c11
           try clear c11b0
           try clear c12
           try clear c12b0
           try clear c13
           try clear c13b0
           try clear c14
           try clear c14b0
           try clear c14b1
           try clear c15
           try clear c15b0
           try clear c15b1
           try clear c16
           try clear c16b0
           try clear c16b1
           try clear hx805_0
           try clear hx806_0
           try clear hx806_1
           try clear hx806_2
           try clear hx806_3
           try clear hx807_0
           try clear hx807_1
           try clear hx807_2
           try clear hx807_3
           try clear p2
           try clear p805
           try clear p806
           try clear p807
           try clear q805
           try clear q806
           try clear q807
           obtain ⟨x43_2,rfl,HA,HK2,HO_16,HO_41,BK801,HB⟩:=hrel
           cases gk with
           | zero=>exact absurd HA.out (by simp [jQ.l1])
           | succ k2 =>
            have H:=HA.out
            clear HA
            simp only [jQ.l1] at H
            by_cases c20:x43_2<(t808.length:Int)
            ·rw [if_pos c20] at H
             have c20b0:decide (x43_2<(t808.length:Int))=true:=dzT c20
             clear c20
             by_cases c21:0≤x43_2
             ·rw [if_pos c21] at H
              have c21b0:decide (0≤x43_2)=true:=dzT c21
              clear c21
              by_cases c22:x43_2<(t808.length:Int)
              ·rw [if_pos c22] at H
               have c22b0:decide (x43_2<(t808.length:Int))=true:=dzT c22
               clear c22
               by_cases c23:0≤(rd t808 x43_2)
               ·rw [if_pos c23] at H
                have c23b0:decide (0≤(rd t808 x43_2))=true:=dzT c23
                clear c23
                by_cases c24:(rd t808 x43_2)<(l1.length:Int)
                ·rw [if_pos c24] at H
                 have c24b0:decide ((rd t808 x43_2)<(l1.length:Int))=true:=dzT c24
                 clear c24
                 by_cases c25:((jc l1 (rd t808 x43_2)).f1)=8
                 ·rw [if_pos c25] at H
                  have c25b0:(((jc l1 (rd t808 x43_2)).f1) == 8)=true:=beq_iff_eq.mpr c25
                  have c25b1:(((jc l1 (rd t808 x43_2)).f1) != 8)=false:=bne_eq_false_iff_eq.mpr c25
                  clear c25
                  replace H:=bzS H
                  obtain ⟨t814,A260,H⟩:=H
                  replace H:(if t814=true then (some ((rd t802 x18_1),rd t808 x43_2)) else (jQ.l1 k2 l1 a3 (rd t802 x18_1) t802 (t802.length:Int) x18_1 t808 (t808.length:Int) (wrap64 (x43_2+1)) l0_0))=some (r1,r2):=H
                  have A26:=am A260
                  clear A260
                  by_cases c27:t814=true
                  ·subst c27
                   have H1:(some ((rd t802 x18_1),rd t808 x43_2))=some (r1,r2):=by rw [if_pos rfl] at H;exact H
                   clear H
                   have H:=H1
                   clear H1
                   simp only [Option.some.injEq,Prod.mk.injEq] at H
                   obtain ⟨rfl,rfl⟩:=H
                   have p811:0≤(x43_2:Int):=ozD (uq)
                   have q811:x43_2<(t808.length:Int):=ozD (uq)
                   obtain ⟨ad811,e811,hx811_0⟩:=Kd.jtb (Kd.jy HO_41.out).2.2 x43_2 p811 q811
                   cases e811
                   replace p811:=ezT p811
                   replace q811:=ezT q811
                   try go_wp2
                   replace HO_16:=am (Kd.jea HO_16.out)
                   replace HO_41:=am (Kd.jea HO_41.out)
                   replace BK801:=am (jw BK801.out)
                   replace HB:=am (jE HB.out)
                   have p812:0≤((rd t808 x43_2):Int):=ozD (uq)
                   have q812:(rd t808 x43_2)<(l1.length:Int):=ozD (uq)
                   obtain ⟨ad812,e812,hx812_0,hx812_1,hx812_2,hx812_3⟩:=jna HR1.out (rd t808 x43_2) p812 q812
                   have hw812_3:=hx812_3
                   have hw812_2:=hx812_2
                   have hw812_1:=hx812_1
                   have hw812_0:=hx812_0
                   obtain rfl:ad806=ad812:=(by injection e812)
                   replace hx812_0:=cb HB.out hx812_0
                   replace hx812_1:=cb HB.out hx812_1
                   replace hx812_2:=cb HB.out hx812_2
                   replace hx812_3:=cb HB.out hx812_3
                   replace p812:=ezT p812
                   replace q812:=ezT q812
                   have p813:0≤((rd t808 x43_2):Int):=ozD (uq)
                   have q813:(rd t808 x43_2)<(l1.length:Int):=ozD (uq)
                   obtain ⟨ad813,e813,hx813_0,hx813_1,hx813_2,hx813_3⟩:=jna HR1.out (rd t808 x43_2) p813 q813
                   have hw813_3:=hx813_3
                   have hw813_2:=hx813_2
                   have hw813_1:=hx813_1
                   have hw813_0:=hx813_0
                   obtain rfl:ad806=ad813:=(by injection e813)
                   replace hx813_0:=cb HB.out hx813_0
                   replace hx813_1:=cb HB.out hx813_1
                   replace hx813_2:=cb HB.out hx813_2
                   replace hx813_3:=cb HB.out hx813_3
                   replace p813:=ezT p813
                   replace q813:=ezT q813
                   refine jlc (n:=16) (S:=fun w'=>w'.cell? ⟨gb801,0,none⟩=some (.slice A0_0 l0_0.length c0_0)∧w'.cell? (ad806.add (((rd t808 x43_2)).toNat * 4))=some (.int .i64 ((jc l1 (rd t808 x43_2)).f0))∧w'.cell? ⟨(ad806.add (((rd t808 x43_2)).toNat * 4)).block,(ad806.add (((rd t808 x43_2)).toNat * 4)).off+1,none⟩=some (.int .i64 ((jc l1 (rd t808 x43_2)).f1))∧w'.cell? ⟨(ad806.add (((rd t808 x43_2)).toNat * 4)).block,(ad806.add (((rd t808 x43_2)).toNat * 4)).off+2,none⟩=some (.int .i64 ((jc l1 (rd t808 x43_2)).f2))∧w'.cell? ⟨(ad806.add (((rd t808 x43_2)).toNat * 4)).block,(ad806.add (((rd t808 x43_2)).toNat * 4)).off+3,none⟩=some (.int .i64 ((jc l1 (rd t808 x43_2)).f3))∧w'.cell? (ad806.add (((rd t808 x43_2)).toNat * 4))=some (.int .i64 ((jc l1 (rd t808 x43_2)).f0))∧w'.cell? ⟨(ad806.add (((rd t808 x43_2)).toNat * 4)).block,(ad806.add (((rd t808 x43_2)).toNat * 4)).off+1,none⟩=some (.int .i64 ((jc l1 (rd t808 x43_2)).f1))∧w'.cell? ⟨(ad806.add (((rd t808 x43_2)).toNat * 4)).block,(ad806.add (((rd t808 x43_2)).toNat * 4)).off+2,none⟩=some (.int .i64 ((jc l1 (rd t808 x43_2)).f2))∧w'.cell? ⟨(ad806.add (((rd t808 x43_2)).toNat * 4)).block,(ad806.add (((rd t808 x43_2)).toNat * 4)).off+3,none⟩=some (.int .i64 ((jc l1 (rd t808 x43_2)).f3))) (ds:=[]) #[false,false,false,false,false,false,false,false,false,false,false,false,false,false,false,false] (by kernel_rfl) rfl rfl ⟨(jF BK801.out 0).trans rfl,((HB.out.cell (World.block_lt_of_cell? w _ hw812_0)).trans hw812_0),((HB.out.cell (World.block_lt_of_cell? w _ hw812_1)).trans hw812_1),((HB.out.cell (World.block_lt_of_cell? w _ hw812_2)).trans hw812_2),((HB.out.cell (World.block_lt_of_cell? w _ hw812_3)).trans hw812_3),((HB.out.cell (World.block_lt_of_cell? w _ hw813_0)).trans hw813_0),((HB.out.cell (World.block_lt_of_cell? w _ hw813_1)).trans hw813_1),((HB.out.cell (World.block_lt_of_cell? w _ hw813_2)).trans hw813_2),((HB.out.cell (World.block_lt_of_cell? w _ hw813_3)).trans hw813_3)⟩ (fun hHeld=>?_);refine jqb jQ.tab12 jQ.bits12 (fun HT_ HW_=>?_)
                   generalize wr.drew=w28 at HO_16 HO_41 BK801 HB hx812_0 hx812_1 hx812_2 hx812_3 hx813_0 hx813_1 hx813_2 hx813_3 hHeld ⊢
                   refine pq (i:=0) (N:=some 47) #[true,false,false,false,false,false,false,false,false,false,false,false,false,false,false,false] ?_
                   refine pq (i:=1) (N:=some 48) #[true,true,false,false,false,false,false,false,false,false,false,false,false,false,false,false] ?_
                   refine pq (i:=2) (N:=some 49) #[true,true,true,false,false,false,false,false,false,false,false,false,false,false,false,false] ?_
                   refine pq (i:=3) (N:=some 50) #[true,true,true,true,false,false,false,false,false,false,false,false,false,false,false,false] ?_
                   refine jwb (i:=4) (N:=some 51) (v:=?_) (a':=?_) #[true,true,true,true,true,false,false,false,false,false,false,false,false,false,false,false] rfl rfl (jua HT_.out HW_.out (by kernel_rfl)) (fun _ _ _ h=>h) (Or.inl ⟨by rfl,?_⟩) hHeld ?_ ?_
                   rotate_left
                   ·rintro w' ⟨s0,s1,s2,s3,s4,s5,s6,s7,s8⟩
                    go_simp
                    with_reducible rfl
                   rotate_left
                   ·exact sa
                   refine pq (i:=5) (N:=some 52) #[true,true,true,true,true,true,false,false,false,false,false,false,false,false,false,false] ?_
                   refine pq (i:=6) (N:=some 53) #[true,true,true,true,true,true,true,false,false,false,false,false,false,false,false,false] ?_
                   refine pq (i:=8) (N:=some 55) #[true,true,true,true,true,true,true,false,true,false,false,false,false,false,false,false] ?_
                   refine pq (i:=9) (N:=some 56) #[true,true,true,true,true,true,true,false,true,true,false,false,false,false,false,false] ?_
                   refine pq (i:=10) (N:=some 57) #[true,true,true,true,true,true,true,false,true,true,true,false,false,false,false,false] ?_
                   refine pq (i:=11) (N:=some 58) #[true,true,true,true,true,true,true,false,true,true,true,true,false,false,false,false] ?_
                   refine pq (i:=12) (N:=some 59) #[true,true,true,true,true,true,true,false,true,true,true,true,true,false,false,false] ?_
                   refine jwb (i:=7) (N:=some 54) (v:=?_) (a':=?_) #[true,true,true,true,true,true,true,true,true,true,true,true,true,false,false,false] rfl rfl (jua HT_.out HW_.out (by kernel_rfl)) (fun _ _ _ h=>h) (Or.inl ⟨by rfl,?_⟩) hHeld ?_ ?_
                   rotate_left
                   ·rintro w' ⟨s0,s1,s2,s3,s4,s5,s6,s7,s8⟩
                    go_simp
                    with_reducible rfl
                   rotate_left
                   ·exact sa
                   refine jwb (i:=13) (N:=some 60) (v:=?_) (a':=?_) #[true,true,true,true,true,true,true,true,true,true,true,true,true,true,false,false] rfl rfl (jua HT_.out HW_.out (by kernel_rfl)) (fun _ _ _ h=>h) (Or.inl ⟨by rfl,?_⟩) hHeld ?_ ?_
                   rotate_left
                   ·rintro w' ⟨s0,s1,s2,s3,s4,s5,s6,s7,s8⟩
                    go_simp
                    with_reducible rfl
                   rotate_left
                   ·exact sa
                   refine one_ (i:=14) (N:=some 61) #[true,true,true,true,true,true,true,true,true,true,true,true,true,true,true,false] rfl rfl (jyb HT_.out (by kernel_rfl)) (by decide) (fun K hK=>?_)
                   refine jPc Try.func55 (by kernel_rfl) rfl #[.agg #[.slice A0_0 l0_0.length c0_0], .int .i64 a3, .int .i64 ((jc l1 (rd t808 x43_2)).f2)] (by rfl) rfl rfl (aq) ?_
                   with_reducible refine (jUa.calls k2 _ _ l0_0 a3 ((jc l1 (rd t808 x43_2)).f2) true _ ?side1 ?side2 A26.out).mono ?_
                   (case side1=>exact cq (Kd.jT HR0_0.out HB.out))
                   (case side2=>exact HC0_0.out)
                   rintro e w29 ⟨rfl,hb⟩
                   refine ⟨_,rfl,?_⟩
                   replace HO_16:=am (Kd.jZ (rq HO_16.out) hb)
                   replace HO_41:=am (Kd.jZ (rq HO_41.out) hb)
                   replace BK801:=am (jk (g:=gb801) (o:=.cells #[.slice A0_0 l0_0.length c0_0] 25 (0,0)) (kq BK801.out) hb)
                   replace HB:=am (je (Y31) hb)
                   (try clear hb)
                   (try clear hb2)
                   (try clear hk)
                   (try clear hi)
                   refine hK.out _ _ ⟨(jF BK801.out 0).trans rfl,((HB.out.cell (World.block_lt_of_cell? w _ hw812_0)).trans hw812_0),((HB.out.cell (World.block_lt_of_cell? w _ hw812_1)).trans hw812_1),((HB.out.cell (World.block_lt_of_cell? w _ hw812_2)).trans hw812_2),((HB.out.cell (World.block_lt_of_cell? w _ hw812_3)).trans hw812_3),((HB.out.cell (World.block_lt_of_cell? w _ hw813_0)).trans hw813_0),((HB.out.cell (World.block_lt_of_cell? w _ hw813_1)).trans hw813_1),((HB.out.cell (World.block_lt_of_cell? w _ hw813_2)).trans hw813_2),((HB.out.cell (World.block_lt_of_cell? w _ hw813_3)).trans hw813_3)⟩ (fun hHeld=>?_)
                   clear hK K
                   refine jWb (a':=?_) ?_ ?_
                   rotate_left
                   ·show Act.put _ (some 61) _=_
                    simp only [Act.put,List.setIfInBounds_toArray,List.set_cons_zero,List.set_cons_succ,jkb,jmb]
                    rfl
                   refine pq (i:=15) (N:=some 62) #[true,true,true,true,true,true,true,true,true,true,true,true,true,true,true,true] ?_
                   refine jQc (jPb HT_.out (by kernel_rfl)) ?_
                   try go_wp2
                   go_ret2
                   exact ⟨Y0,Y31⟩
                  ·replace c27:=Bool.eq_false_iff.mpr c27
                   subst c27
                   have H1:(jQ.l1 k2 l1 a3 (rd t802 x18_1) t802 (t802.length:Int) x18_1 t808 (t808.length:Int) (wrap64 (x43_2+1)) l0_0)=some (r1,r2):=by rw [if_neg (show ¬ (false=true) by decide)] at H;exact H
                   clear H
                   have H:=H1
                   clear H1
                   have H':=am H
                   clear H
                   have p811:0≤(x43_2:Int):=ozD (uq)
                   have q811:x43_2<(t808.length:Int):=ozD (uq)
                   obtain ⟨ad811,e811,hx811_0⟩:=Kd.jtb (Kd.jy HO_41.out).2.2 x43_2 p811 q811
                   cases e811
                   replace p811:=ezT p811
                   replace q811:=ezT q811
                   try go_wp2
                   replace HO_16:=am (Kd.jea HO_16.out)
                   replace HO_41:=am (Kd.jea HO_41.out)
                   replace BK801:=am (jw BK801.out)
                   replace HB:=am (jE HB.out)
                   have p812:0≤((rd t808 x43_2):Int):=ozD (uq)
                   have q812:(rd t808 x43_2)<(l1.length:Int):=ozD (uq)
                   obtain ⟨ad812,e812,hx812_0,hx812_1,hx812_2,hx812_3⟩:=jna HR1.out (rd t808 x43_2) p812 q812
                   have hw812_3:=hx812_3
                   have hw812_2:=hx812_2
                   have hw812_1:=hx812_1
                   have hw812_0:=hx812_0
                   obtain rfl:ad806=ad812:=(by injection e812)
                   replace hx812_0:=cb HB.out hx812_0
                   replace hx812_1:=cb HB.out hx812_1
                   replace hx812_2:=cb HB.out hx812_2
                   replace hx812_3:=cb HB.out hx812_3
                   replace p812:=ezT p812
                   replace q812:=ezT q812
                   have p813:0≤((rd t808 x43_2):Int):=ozD (uq)
                   have q813:(rd t808 x43_2)<(l1.length:Int):=ozD (uq)
                   obtain ⟨ad813,e813,hx813_0,hx813_1,hx813_2,hx813_3⟩:=jna HR1.out (rd t808 x43_2) p813 q813
                   have hw813_3:=hx813_3
                   have hw813_2:=hx813_2
                   have hw813_1:=hx813_1
                   have hw813_0:=hx813_0
                   obtain rfl:ad806=ad813:=(by injection e813)
                   replace hx813_0:=cb HB.out hx813_0
                   replace hx813_1:=cb HB.out hx813_1
                   replace hx813_2:=cb HB.out hx813_2
                   replace hx813_3:=cb HB.out hx813_3
                   replace p813:=ezT p813
                   replace q813:=ezT q813
                   refine jlc (n:=16) (S:=fun w'=>w'.cell? ⟨gb801,0,none⟩=some (.slice A0_0 l0_0.length c0_0)∧w'.cell? (ad806.add (((rd t808 x43_2)).toNat * 4))=some (.int .i64 ((jc l1 (rd t808 x43_2)).f0))∧w'.cell? ⟨(ad806.add (((rd t808 x43_2)).toNat * 4)).block,(ad806.add (((rd t808 x43_2)).toNat * 4)).off+1,none⟩=some (.int .i64 ((jc l1 (rd t808 x43_2)).f1))∧w'.cell? ⟨(ad806.add (((rd t808 x43_2)).toNat * 4)).block,(ad806.add (((rd t808 x43_2)).toNat * 4)).off+2,none⟩=some (.int .i64 ((jc l1 (rd t808 x43_2)).f2))∧w'.cell? ⟨(ad806.add (((rd t808 x43_2)).toNat * 4)).block,(ad806.add (((rd t808 x43_2)).toNat * 4)).off+3,none⟩=some (.int .i64 ((jc l1 (rd t808 x43_2)).f3))∧w'.cell? (ad806.add (((rd t808 x43_2)).toNat * 4))=some (.int .i64 ((jc l1 (rd t808 x43_2)).f0))∧w'.cell? ⟨(ad806.add (((rd t808 x43_2)).toNat * 4)).block,(ad806.add (((rd t808 x43_2)).toNat * 4)).off+1,none⟩=some (.int .i64 ((jc l1 (rd t808 x43_2)).f1))∧w'.cell? ⟨(ad806.add (((rd t808 x43_2)).toNat * 4)).block,(ad806.add (((rd t808 x43_2)).toNat * 4)).off+2,none⟩=some (.int .i64 ((jc l1 (rd t808 x43_2)).f2))∧w'.cell? ⟨(ad806.add (((rd t808 x43_2)).toNat * 4)).block,(ad806.add (((rd t808 x43_2)).toNat * 4)).off+3,none⟩=some (.int .i64 ((jc l1 (rd t808 x43_2)).f3))) (ds:=[]) #[false,false,false,false,false,false,false,false,false,false,false,false,false,false,false,false] (by kernel_rfl) rfl rfl ⟨(jF BK801.out 0).trans rfl,((HB.out.cell (World.block_lt_of_cell? w _ hw812_0)).trans hw812_0),((HB.out.cell (World.block_lt_of_cell? w _ hw812_1)).trans hw812_1),((HB.out.cell (World.block_lt_of_cell? w _ hw812_2)).trans hw812_2),((HB.out.cell (World.block_lt_of_cell? w _ hw812_3)).trans hw812_3),((HB.out.cell (World.block_lt_of_cell? w _ hw813_0)).trans hw813_0),((HB.out.cell (World.block_lt_of_cell? w _ hw813_1)).trans hw813_1),((HB.out.cell (World.block_lt_of_cell? w _ hw813_2)).trans hw813_2),((HB.out.cell (World.block_lt_of_cell? w _ hw813_3)).trans hw813_3)⟩ (fun hHeld=>?_);refine jqb jQ.tab12 jQ.bits12 (fun HT_ HW_=>?_)
                   generalize wr.drew=w30 at HO_16 HO_41 BK801 HB hx812_0 hx812_1 hx812_2 hx812_3 hx813_0 hx813_1 hx813_2 hx813_3 hHeld ⊢
                   refine pq (i:=0) (N:=some 47) #[true,false,false,false,false,false,false,false,false,false,false,false,false,false,false,false] ?_
                   refine pq (i:=1) (N:=some 48) #[true,true,false,false,false,false,false,false,false,false,false,false,false,false,false,false] ?_
                   refine pq (i:=2) (N:=some 49) #[true,true,true,false,false,false,false,false,false,false,false,false,false,false,false,false] ?_
                   refine pq (i:=3) (N:=some 50) #[true,true,true,true,false,false,false,false,false,false,false,false,false,false,false,false] ?_
                   refine jwb (i:=4) (N:=some 51) (v:=?_) (a':=?_) #[true,true,true,true,true,false,false,false,false,false,false,false,false,false,false,false] rfl rfl (jua HT_.out HW_.out (by kernel_rfl)) (fun _ _ _ h=>h) (Or.inl ⟨by rfl,?_⟩) hHeld ?_ ?_
                   rotate_left
                   ·rintro w' ⟨s0,s1,s2,s3,s4,s5,s6,s7,s8⟩
                    go_simp
                    with_reducible rfl
                   rotate_left
                   ·exact sa
                   refine pq (i:=5) (N:=some 52) #[true,true,true,true,true,true,false,false,false,false,false,false,false,false,false,false] ?_
                   refine pq (i:=6) (N:=some 53) #[true,true,true,true,true,true,true,false,false,false,false,false,false,false,false,false] ?_
                   refine pq (i:=8) (N:=some 55) #[true,true,true,true,true,true,true,false,true,false,false,false,false,false,false,false] ?_
                   refine pq (i:=9) (N:=some 56) #[true,true,true,true,true,true,true,false,true,true,false,false,false,false,false,false] ?_
                   refine pq (i:=10) (N:=some 57) #[true,true,true,true,true,true,true,false,true,true,true,false,false,false,false,false] ?_
                   refine pq (i:=11) (N:=some 58) #[true,true,true,true,true,true,true,false,true,true,true,true,false,false,false,false] ?_
                   refine pq (i:=12) (N:=some 59) #[true,true,true,true,true,true,true,false,true,true,true,true,true,false,false,false] ?_
                   refine jwb (i:=7) (N:=some 54) (v:=?_) (a':=?_) #[true,true,true,true,true,true,true,true,true,true,true,true,true,false,false,false] rfl rfl (jua HT_.out HW_.out (by kernel_rfl)) (fun _ _ _ h=>h) (Or.inl ⟨by rfl,?_⟩) hHeld ?_ ?_
                   rotate_left
                   ·rintro w' ⟨s0,s1,s2,s3,s4,s5,s6,s7,s8⟩
                    go_simp
                    with_reducible rfl
                   rotate_left
                   ·exact sa
                   refine jwb (i:=13) (N:=some 60) (v:=?_) (a':=?_) #[true,true,true,true,true,true,true,true,true,true,true,true,true,true,false,false] rfl rfl (jua HT_.out HW_.out (by kernel_rfl)) (fun _ _ _ h=>h) (Or.inl ⟨by rfl,?_⟩) hHeld ?_ ?_
                   rotate_left
                   ·rintro w' ⟨s0,s1,s2,s3,s4,s5,s6,s7,s8⟩
                    go_simp
                    with_reducible rfl
                   rotate_left
                   ·exact sa
                   refine one_ (i:=14) (N:=some 61) #[true,true,true,true,true,true,true,true,true,true,true,true,true,true,true,false] rfl rfl (jyb HT_.out (by kernel_rfl)) (by decide) (fun K hK=>?_)
                   refine jPc Try.func55 (by kernel_rfl) rfl #[.agg #[.slice A0_0 l0_0.length c0_0], .int .i64 a3, .int .i64 ((jc l1 (rd t808 x43_2)).f2)] (by rfl) rfl rfl (aq) ?_
                   with_reducible refine (jUa.calls k2 _ _ l0_0 a3 ((jc l1 (rd t808 x43_2)).f2) false _ ?side1 ?side2 A26.out).mono ?_
                   (case side1=>exact cq (Kd.jT HR0_0.out HB.out))
                   (case side2=>exact HC0_0.out)
                   rintro e w31 ⟨rfl,hb⟩
                   refine ⟨_,rfl,?_⟩
                   replace HO_16:=am (Kd.jZ (rq HO_16.out) hb)
                   replace HO_41:=am (Kd.jZ (rq HO_41.out) hb)
                   replace BK801:=am (jk (g:=gb801) (o:=.cells #[.slice A0_0 l0_0.length c0_0] 25 (0,0)) (kq BK801.out) hb)
                   replace HB:=am (je (Y31) hb)
                   (try clear hb)
                   (try clear hb2)
                   (try clear hk)
                   (try clear hi)
                   refine hK.out _ _ ⟨(jF BK801.out 0).trans rfl,((HB.out.cell (World.block_lt_of_cell? w _ hw812_0)).trans hw812_0),((HB.out.cell (World.block_lt_of_cell? w _ hw812_1)).trans hw812_1),((HB.out.cell (World.block_lt_of_cell? w _ hw812_2)).trans hw812_2),((HB.out.cell (World.block_lt_of_cell? w _ hw812_3)).trans hw812_3),((HB.out.cell (World.block_lt_of_cell? w _ hw813_0)).trans hw813_0),((HB.out.cell (World.block_lt_of_cell? w _ hw813_1)).trans hw813_1),((HB.out.cell (World.block_lt_of_cell? w _ hw813_2)).trans hw813_2),((HB.out.cell (World.block_lt_of_cell? w _ hw813_3)).trans hw813_3)⟩ (fun hHeld=>?_)
                   clear hK K
                   refine jWb (a':=?_) ?_ ?_
                   rotate_left
                   ·show Act.put _ (some 61) _=_
                    simp only [Act.put,List.setIfInBounds_toArray,List.set_cons_zero,List.set_cons_succ,jkb,jmb]
                    rfl
                   refine pq (i:=15) (N:=some 62) #[true,true,true,true,true,true,true,true,true,true,true,true,true,true,true,true] ?_
                   refine jQc (jPb HT_.out (by kernel_rfl)) ?_
                   try go_wp2
                   go_roundg k2
                   case measure=>have:=HK1.out;have:=HK2.out;omega
                   case rel=>exact ⟨(wrap64 (x43_2+1)),(sq),H',⟨by have:=HK1.out;have:=HK2.out;omega⟩,⟨rq HO_16.out⟩,⟨rq HO_41.out⟩,⟨kq BK801.out⟩,⟨Y31⟩⟩
                 ·rw [if_neg c25] at H
                  have c25b0:(((jc l1 (rd t808 x43_2)).f1) == 8)=false:=beq_eq_false_iff_ne.mpr c25
                  have c25b1:(((jc l1 (rd t808 x43_2)).f1) != 8)=true:=bne_iff_ne.mpr c25
                  have H':=am H
                  clear H
                  have p811:0≤(x43_2:Int):=ozD (uq)
                  have q811:x43_2<(t808.length:Int):=ozD (uq)
                  obtain ⟨ad811,e811,hx811_0⟩:=Kd.jtb (Kd.jy HO_41.out).2.2 x43_2 p811 q811
                  cases e811
                  replace p811:=ezT p811
                  replace q811:=ezT q811
                  try go_wp2
                  replace HO_16:=am (Kd.jea HO_16.out)
                  replace HO_41:=am (Kd.jea HO_41.out)
                  replace BK801:=am (jw BK801.out)
                  replace HB:=am (jE HB.out)
                  have p812:0≤((rd t808 x43_2):Int):=ozD (uq)
                  have q812:(rd t808 x43_2)<(l1.length:Int):=ozD (uq)
                  obtain ⟨ad812,e812,hx812_0,hx812_1,hx812_2,hx812_3⟩:=jna HR1.out (rd t808 x43_2) p812 q812
                  have hw812_3:=hx812_3
                  have hw812_2:=hx812_2
                  have hw812_1:=hx812_1
                  have hw812_0:=hx812_0
                  obtain rfl:ad806=ad812:=(by injection e812)
                  replace hx812_0:=cb HB.out hx812_0
                  replace hx812_1:=cb HB.out hx812_1
                  replace hx812_2:=cb HB.out hx812_2
                  replace hx812_3:=cb HB.out hx812_3
                  replace p812:=ezT p812
                  replace q812:=ezT q812
                  refine jlc (n:=16) (S:=fun w'=>w'.cell? (ad806.add (((rd t808 x43_2)).toNat * 4))=some (.int .i64 ((jc l1 (rd t808 x43_2)).f0))∧w'.cell? ⟨(ad806.add (((rd t808 x43_2)).toNat * 4)).block,(ad806.add (((rd t808 x43_2)).toNat * 4)).off+1,none⟩=some (.int .i64 ((jc l1 (rd t808 x43_2)).f1))∧w'.cell? ⟨(ad806.add (((rd t808 x43_2)).toNat * 4)).block,(ad806.add (((rd t808 x43_2)).toNat * 4)).off+2,none⟩=some (.int .i64 ((jc l1 (rd t808 x43_2)).f2))∧w'.cell? ⟨(ad806.add (((rd t808 x43_2)).toNat * 4)).block,(ad806.add (((rd t808 x43_2)).toNat * 4)).off+3,none⟩=some (.int .i64 ((jc l1 (rd t808 x43_2)).f3))) (ds:=[]) #[false,false,false,false,false,false,false,false,false,false,false,false,false,false,false,false] (by kernel_rfl) rfl rfl ⟨((HB.out.cell (World.block_lt_of_cell? w _ hw812_0)).trans hw812_0),((HB.out.cell (World.block_lt_of_cell? w _ hw812_1)).trans hw812_1),((HB.out.cell (World.block_lt_of_cell? w _ hw812_2)).trans hw812_2),((HB.out.cell (World.block_lt_of_cell? w _ hw812_3)).trans hw812_3)⟩ (fun hHeld=>?_);refine jqb jQ.tab12 jQ.bits12 (fun HT_ HW_=>?_)
                  generalize wr.drew=w32 at HO_16 HO_41 BK801 HB hx812_0 hx812_1 hx812_2 hx812_3 hHeld ⊢
                  refine pq (i:=0) (N:=some 47) #[true,false,false,false,false,false,false,false,false,false,false,false,false,false,false,false] ?_
                  refine pq (i:=1) (N:=some 48) #[true,true,false,false,false,false,false,false,false,false,false,false,false,false,false,false] ?_
                  refine pq (i:=2) (N:=some 49) #[true,true,true,false,false,false,false,false,false,false,false,false,false,false,false,false] ?_
                  refine pq (i:=3) (N:=some 50) #[true,true,true,true,false,false,false,false,false,false,false,false,false,false,false,false] ?_
                  refine jwb (i:=4) (N:=some 51) (v:=?_) (a':=?_) #[true,true,true,true,true,false,false,false,false,false,false,false,false,false,false,false] rfl rfl (jua HT_.out HW_.out (by kernel_rfl)) (fun _ _ _ h=>h) (Or.inl ⟨by rfl,?_⟩) hHeld ?_ ?_
                  rotate_left
                  ·rintro w' ⟨s0,s1,s2,s3⟩
                   go_simp
                   with_reducible rfl
                  rotate_left
                  ·exact sa
                  refine pq (i:=5) (N:=some 52) #[true,true,true,true,true,true,false,false,false,false,false,false,false,false,false,false] ?_
                  refine pq (i:=6) (N:=some 53) #[true,true,true,true,true,true,true,false,false,false,false,false,false,false,false,false] ?_
                  refine jLb (i:=7) (N:=some 54) (v:=undef) (a':=?_) #[true,true,true,true,true,true,true,true,false,false,false,false,false,false,false,false] rfl rfl (jhb HT_.out (by kernel_rfl)) (fun _ _ _ h=>h) (Or.inr ⟨by rfl,rfl⟩) ?_ ?_
                  rotate_left
                  ·exact sa
                  refine jLb (i:=8) (N:=some 55) (v:=undef) (a':=?_) #[true,true,true,true,true,true,true,true,true,false,false,false,false,false,false,false] rfl rfl (jhb HT_.out (by kernel_rfl)) (fun _ _ _ h=>h) (Or.inr ⟨by rfl,rfl⟩) ?_ ?_
                  rotate_left
                  ·exact sa
                  refine jLb (i:=9) (N:=some 56) (v:=undef) (a':=?_) #[true,true,true,true,true,true,true,true,true,true,false,false,false,false,false,false] rfl rfl (jhb HT_.out (by kernel_rfl)) (fun _ _ _ h=>h) (Or.inr ⟨by rfl,rfl⟩) ?_ ?_
                  rotate_left
                  ·exact sa
                  refine jLb (i:=10) (N:=some 57) (v:=undef) (a':=?_) #[true,true,true,true,true,true,true,true,true,true,true,false,false,false,false,false] rfl rfl (jhb HT_.out (by kernel_rfl)) (fun _ _ _ h=>h) (Or.inr ⟨by rfl,rfl⟩) ?_ ?_
                  rotate_left
                  ·exact sa
                  refine jLb (i:=11) (N:=some 58) (v:=undef) (a':=?_) #[true,true,true,true,true,true,true,true,true,true,true,true,false,false,false,false] rfl rfl (jhb HT_.out (by kernel_rfl)) (fun _ _ _ h=>h) (Or.inr ⟨by rfl,rfl⟩) ?_ ?_
                  rotate_left
                  ·exact sa
                  refine jLb (i:=12) (N:=some 59) (v:=undef) (a':=?_) #[true,true,true,true,true,true,true,true,true,true,true,true,true,false,false,false] rfl rfl (jhb HT_.out (by kernel_rfl)) (fun _ _ _ h=>h) (Or.inr ⟨by rfl,rfl⟩) ?_ ?_
                  rotate_left
                  ·exact sa
                  refine jLb (i:=13) (N:=some 60) (v:=undef) (a':=?_) #[true,true,true,true,true,true,true,true,true,true,true,true,true,true,false,false] rfl rfl (jhb HT_.out (by kernel_rfl)) (fun _ _ _ h=>h) (Or.inr ⟨by rfl,rfl⟩) ?_ ?_
                  rotate_left
                  ·exact sa
                  refine jLb (i:=14) (N:=some 61) (v:=undef) (a':=?_) #[true,true,true,true,true,true,true,true,true,true,true,true,true,true,true,false] rfl rfl (jhb HT_.out (by kernel_rfl)) (fun _ _ _ h=>h) (Or.inr ⟨by rfl,rfl⟩) ?_ ?_
                  rotate_left
                  ·exact sa
                  refine pq (i:=15) (N:=some 62) #[true,true,true,true,true,true,true,true,true,true,true,true,true,true,true,true] ?_
                  refine jQc (jPb HT_.out (by kernel_rfl)) ?_
                  try go_wp2
                  go_roundg k2
                  case measure=>have:=HK1.out;have:=HK2.out;omega
                  case rel=>exact ⟨(wrap64 (x43_2+1)),(sq),H',⟨by have:=HK1.out;have:=HK2.out;omega⟩,⟨rq HO_16.out⟩,⟨rq HO_41.out⟩,⟨kq BK801.out⟩,⟨Y31⟩⟩
                ·rw [if_neg c24] at H
                 exact absurd H (by simp)
               ·rw [if_neg c23] at H
                exact absurd H (by simp)
              ·rw [if_neg c22] at H
               exact absurd H (by simp)
             ·rw [if_neg c21] at H
              exact absurd H (by simp)
            ·rw [if_neg c20] at H
             have c20b0:decide (x43_2<(t808.length:Int))=false:=dzF c20
             clear c20
             have H':=am H
             clear H
             go_wp2
             go_roundg k2
             case measure=>have:=HK1.out;have:=HK2.out;omega
             case rel=>exact ⟨(wrap64 (x18_1+1)),(sq),H',⟨by have:=HK1.out;have:=HK2.out;omega⟩,⟨by (with_reducible repeat (first | apply Kd.jga | apply Kd.jfa | apply Kd.jea));exact Kd.jI HO_16.out (fun _ hk=>trivial)⟩,⟨kq BK801.out⟩,⟨Y31⟩⟩
         ·rw [if_neg c16] at H
          have c16b0:(((jc l1 (rd t802 x18_1)).f1) == 7)=false:=beq_eq_false_iff_ne.mpr c16
          have c16b1:(((jc l1 (rd t802 x18_1)).f1) != 7)=true:=bne_iff_ne.mpr c16
          have H':=am H
          clear H
          have p805:0≤(x18_1:Int):=ozD (uq)
          have q805:x18_1<(t802.length:Int):=ozD (uq)
          obtain ⟨ad805,e805,hx805_0⟩:=Kd.jtb (Kd.jy HO_16.out).2.2 x18_1 p805 q805
          cases e805
          replace p805:=ezT p805
          replace q805:=ezT q805
          have p806:0≤((rd t802 x18_1):Int):=ozD (uq)
          have q806:(rd t802 x18_1)<(l1.length:Int):=ozD (uq)
          obtain ⟨ad806,e806,hx806_0,hx806_1,hx806_2,hx806_3⟩:=jna HR1.out (rd t802 x18_1) p806 q806
          cases e806
          replace hx806_0:=cb HB.out hx806_0
          replace hx806_1:=cb HB.out hx806_1
          replace hx806_2:=cb HB.out hx806_2
          replace hx806_3:=cb HB.out hx806_3
          replace p806:=ezT p806
          replace q806:=ezT q806
          go_wp2
          go_roundg k1
          case measure=>have:=HK1.out;omega
          case rel=>exact ⟨(wrap64 (x18_1+1)),(sq),H',⟨by have:=HK1.out;omega⟩,⟨rq HO_16.out⟩,⟨kq BK801.out⟩,⟨Y31⟩⟩
       ·rw [if_neg c13] at H
        exact absurd H (by simp)
      ·rw [if_neg c12] at H
       exact absurd H (by simp)
     ·rw [if_neg c11] at H
      exact absurd H (by simp)
    ·rw [if_neg c10] at H
     exact absurd H (by simp)
   ·rw [if_neg c9] at H
    have c9b0:decide (x18_1<(t802.length:Int))=false:=dzF c9
    clear c9
    simp only [Option.some.injEq,Prod.mk.injEq] at H
    obtain ⟨rfl,rfl⟩:=H
    go_wp2
    go_ret2
    exact ⟨Y0,Y31⟩
def jYa.f (k : Nat) (l0_0 : List (S75)) (l1 : List (S36)) (a2 : Int) (a3 : Int) : Option (Int) := (jXb.f k l0_0 l1 a2).bind fun t816 => (if t816 = true then ((jGa.f l0_0 a3).bind fun t817 => (if t817 = true then ((jQ.f k l0_0 l1 a2 a3).bind fun bt818 => (some bt818.2)) else (some (-1)))) else (some (-1)))
set_option maxHeartbeats 8000000 in
set_option maxRecDepth 100000 in
theorem jYa.calls (k : Nat) (A0_0 : Option Addr) (c0_0 : Nat) (l0_0 : List (S75)) (A1 : Option Addr) (c1 : Nat) (l1 : List (S36)) (a2 : Int) (a3 : Int) (r : Int) (w : World) (hr0_0 : Kd.C k75 w A0_0 l0_0.length l0_0) (hc0_0 : l0_0.length ≤ c0_0) (hr1 : Kd.C k36 w A1 l1.length l1) (hc1 : l1.length ≤ c1) (h : jYa.f k l0_0 l1 a2 a3 = some r) :
  Calls Try.prog 19 #[.agg #[.slice A0_0 l0_0.length c0_0], .slice A1 l1.length c1, .int .i64 a2, .int .i64 a3] w fun e w'=>e=.returned (.int .i64 r)∧Below w.heap.size w w':=by
 have hu25:=Try.underlying25
 have HR0_0:=am hr0_0
 have HC0_0:=am hc0_0
 clear hr0_0 hc0_0
 have HR1:=am hr1
 have HC1:=am hc1
 clear hr1 hc1
 have HB:=am (Below.refl w.heap.size w)
 have H:((jXb.f k l0_0 l1 a2).bind fun t816=>(if t816=true then ((jGa.f l0_0 a3).bind fun t817=>(if t817=true then ((jQ.f k l0_0 l1 a2 a3).bind fun bt818=>(some bt818.2)) else (some (-1)))) else (some (-1))))=some r:=h
 clear h
 replace H:=bzS H
 obtain ⟨t816,A50,H⟩:=H
 replace H:(if t816=true then ((jGa.f l0_0 a3).bind fun t817=>(if t817=true then ((jQ.f k l0_0 l1 a2 a3).bind fun bt818=>(some bt818.2)) else (some (-1)))) else (some (-1)))=some r:=H
 have A5:=am A50
 clear A50
 by_cases c6:t816=true
 ·subst c6
  have H1:((jGa.f l0_0 a3).bind fun t817=>(if t817=true then ((jQ.f k l0_0 l1 a2 a3).bind fun bt818=>(some bt818.2)) else (some (-1))))=some r:=by rw [if_pos rfl] at H;exact H
  clear H
  have H:=H1
  clear H1
  replace H:=bzS H
  obtain ⟨t817,A70,H⟩:=H
  replace H:(if t817=true then ((jQ.f k l0_0 l1 a2 a3).bind fun bt818=>(some bt818.2)) else (some (-1)))=some r:=H
  have A7:=am A70
  clear A70
  by_cases c8:t817=true
  ·subst c8
   have H1:((jQ.f k l0_0 l1 a2 a3).bind fun bt818=>(some bt818.2))=some r:=by rw [if_pos rfl] at H;exact H
   clear H
   have H:=H1
   clear H1
   replace H:=bzS H
   obtain ⟨⟨t818,t819⟩,A90,H⟩:=H
   replace H:(some t819)=some r:=H
   have A9:=am A90
   clear A90
   obtain rfl:=Option.some.inj H
   go_enter Try.func19,Try.ntmps19
   go_wp2_with (first |((with_reducible refine jJ (N:=4) rfl ?_);refine bE (N:=4) (cs:=#[.slice A0_0 l0_0.length c0_0]) (t:=25) ?_;intro gb815 hg w10 hbox hb;have BK815:=am (hbox);have GW815:=am ((Y3:w.heap.size≤gb815));have GE815:=am ((Y3:w.heap.size≤gb815));replace HB:=am (je (bq) hb);clear hb hbox hg;have hcz11_0:=bc0 BK815.out;have hfz11_0:=ja BK815.out 0) |((with_reducible refine jd (f:=31) rfl ?_);refine gL (some 14) Try.func31 #[.agg #[.slice A0_0 l0_0.length c0_0], .slice A1 l1.length c1, .int .i64 a2] ?_;(with_reducible refine (jXb.calls k _ _ l0_0 _ _ l1 a2 true _ ?side1 ?side2 ?side3 ?side4 A5.out).mono ?_);(case side1=>exact cq (Kd.jT HR0_0.out HB.out));(case side2=>exact HC0_0.out);(case side3=>exact cq (Kd.jT HR1.out HB.out));(case side4=>exact HC1.out);rintro e w12 ⟨rfl,hb⟩;refine ⟨_,rfl,?_⟩;replace BK815:=am (jk (g:=gb815) (o:=.cells #[.slice A0_0 l0_0.length c0_0] 25 (0,0)) (kq BK815.out) hb);replace HB:=am (je (Y49) hb);(try clear hb);(try clear hb2);(try clear hk);(try clear hi);have hcz13_0:=bc0 BK815.out;have hfz13_0:=ja BK815.out 0) |(go_at_call 48;(with_reducible refine (jGa.calls _ _ l0_0 a3 true _ ?side1 ?side2 A7.out).mono ?_);(case side1=>exact cq (Kd.jT HR0_0.out HB.out));(case side2=>exact HC0_0.out);rintro e w14 ⟨rfl,hb⟩;replace BK815:=am (jk (g:=gb815) (o:=.cells #[.slice A0_0 l0_0.length c0_0] 25 (0,0)) (kq BK815.out) hb);replace HB:=am (je (Y49) hb);(try clear hb);(try clear hb2);(try clear hk);(try clear hi);have hcz15_0:=bc0 BK815.out;have hfz15_0:=ja BK815.out 0) |((with_reducible refine jd (f:=49) rfl ?_);refine gL (some 27) Try.func49 #[.agg #[.slice A0_0 l0_0.length c0_0], .slice A1 l1.length c1, .int .i64 a2, .int .i64 a3] ?_;(with_reducible refine (jQ.calls k _ _ l0_0 _ _ l1 a2 a3 t818 t819 _ ?side1 ?side2 ?side3 ?side4 A9.out).mono ?_);(case side1=>exact cq (Kd.jT HR0_0.out HB.out));(case side2=>exact HC0_0.out);(case side3=>exact cq (Kd.jT HR1.out HB.out));(case side4=>exact HC1.out);rintro e w16 ⟨rfl,hb⟩;refine ⟨_,rfl,?_⟩;replace BK815:=am (jk (g:=gb815) (o:=.cells #[.slice A0_0 l0_0.length c0_0] 25 (0,0)) (kq BK815.out) hb);replace HB:=am (je (Y49) hb);(try clear hb);(try clear hb2);(try clear hk);(try clear hi)))
   go_ret
   exact ⟨Y0,Y49⟩
  ·replace c8:=Bool.eq_false_iff.mpr c8
   subst c8
   have H1:(some (-1))=some r:=by rw [if_neg (show ¬ (false=true) by decide)] at H;exact H
   clear H
   have H:=H1
   clear H1
   obtain rfl:=Option.some.inj H
   go_enter Try.func19,Try.ntmps19
   go_wp2_with (first |((with_reducible refine jJ (N:=4) rfl ?_);refine bE (N:=4) (cs:=#[.slice A0_0 l0_0.length c0_0]) (t:=25) ?_;intro gb815 hg w17 hbox hb;have BK815:=am (hbox);have GW815:=am ((Y3:w.heap.size≤gb815));have GE815:=am ((Y3:w.heap.size≤gb815));replace HB:=am (je (bq) hb);clear hb hbox hg;have hcz18_0:=bc0 BK815.out;have hfz18_0:=ja BK815.out 0) |((with_reducible refine jd (f:=31) rfl ?_);refine gL (some 14) Try.func31 #[.agg #[.slice A0_0 l0_0.length c0_0], .slice A1 l1.length c1, .int .i64 a2] ?_;(with_reducible refine (jXb.calls k _ _ l0_0 _ _ l1 a2 true _ ?side1 ?side2 ?side3 ?side4 A5.out).mono ?_);(case side1=>exact cq (Kd.jT HR0_0.out HB.out));(case side2=>exact HC0_0.out);(case side3=>exact cq (Kd.jT HR1.out HB.out));(case side4=>exact HC1.out);rintro e w19 ⟨rfl,hb⟩;refine ⟨_,rfl,?_⟩;replace BK815:=am (jk (g:=gb815) (o:=.cells #[.slice A0_0 l0_0.length c0_0] 25 (0,0)) (kq BK815.out) hb);replace HB:=am (je (Y49) hb);(try clear hb);(try clear hb2);(try clear hk);(try clear hi);have hcz20_0:=bc0 BK815.out;have hfz20_0:=ja BK815.out 0) |(go_at_call 48;(with_reducible refine (jGa.calls _ _ l0_0 a3 false _ ?side1 ?side2 A7.out).mono ?_);(case side1=>exact cq (Kd.jT HR0_0.out HB.out));(case side2=>exact HC0_0.out);rintro e w21 ⟨rfl,hb⟩;replace BK815:=am (jk (g:=gb815) (o:=.cells #[.slice A0_0 l0_0.length c0_0] 25 (0,0)) (kq BK815.out) hb);replace HB:=am (je (Y49) hb);(try clear hb);(try clear hb2);(try clear hk);(try clear hi)))
   go_ret
   exact ⟨Y0,Y49⟩
 ·replace c6:=Bool.eq_false_iff.mpr c6
  subst c6
  have H1:(some (-1))=some r:=by rw [if_neg (show ¬ (false=true) by decide)] at H;exact H
  clear H
  have H:=H1
  clear H1
  obtain rfl:=Option.some.inj H
  go_enter Try.func19,Try.ntmps19
  go_wp2_with (first |((with_reducible refine jJ (N:=4) rfl ?_);refine bE (N:=4) (cs:=#[.slice A0_0 l0_0.length c0_0]) (t:=25) ?_;intro gb815 hg w22 hbox hb;have BK815:=am (hbox);have GW815:=am ((Y3:w.heap.size≤gb815));have GE815:=am ((Y3:w.heap.size≤gb815));replace HB:=am (je (bq) hb);clear hb hbox hg;have hcz23_0:=bc0 BK815.out;have hfz23_0:=ja BK815.out 0) |((with_reducible refine jd (f:=31) rfl ?_);refine gL (some 14) Try.func31 #[.agg #[.slice A0_0 l0_0.length c0_0], .slice A1 l1.length c1, .int .i64 a2] ?_;(with_reducible refine (jXb.calls k _ _ l0_0 _ _ l1 a2 false _ ?side1 ?side2 ?side3 ?side4 A5.out).mono ?_);(case side1=>exact cq (Kd.jT HR0_0.out HB.out));(case side2=>exact HC0_0.out);(case side3=>exact cq (Kd.jT HR1.out HB.out));(case side4=>exact HC1.out);rintro e w24 ⟨rfl,hb⟩;refine ⟨_,rfl,?_⟩;replace BK815:=am (jk (g:=gb815) (o:=.cells #[.slice A0_0 l0_0.length c0_0] 25 (0,0)) (kq BK815.out) hb);replace HB:=am (je (Y49) hb);(try clear hb);(try clear hb2);(try clear hk);(try clear hi)))
  go_ret
  exact ⟨Y0,Y49⟩
def jIb.f (k : Nat) (l0_0 : List (S75)) (l1 : List (S36)) (a2 : Int) (a3 : Int) : Option (Bool) := (jGb.f k l0_0 l1 a2).bind fun t821 => (if t821 = true then ((jOa.f l0_0 a3).bind fun t822 => (some t822)) else (some false))
set_option maxHeartbeats 8000000 in
set_option maxRecDepth 100000 in
theorem jIb.calls (k : Nat) (A0_0 : Option Addr) (c0_0 : Nat) (l0_0 : List (S75)) (A1 : Option Addr) (c1 : Nat) (l1 : List (S36)) (a2 : Int) (a3 : Int) (r : Bool) (w : World) (hr0_0 : Kd.C k75 w A0_0 l0_0.length l0_0) (hc0_0 : l0_0.length ≤ c0_0) (hr1 : Kd.C k36 w A1 l1.length l1) (hc1 : l1.length ≤ c1) (h : jIb.f k l0_0 l1 a2 a3 = some r) :
  Calls Try.prog 50 #[.agg #[.slice A0_0 l0_0.length c0_0], .slice A1 l1.length c1, .int .i64 a2, .int .i64 a3] w fun e w'=>e=.returned (.bool r)∧Below w.heap.size w w':=by
 have hu25:=Try.underlying25
 have HR0_0:=am hr0_0
 have HC0_0:=am hc0_0
 clear hr0_0 hc0_0
 have HR1:=am hr1
 have HC1:=am hc1
 clear hr1 hc1
 have HB:=am (Below.refl w.heap.size w)
 have H:((jGb.f k l0_0 l1 a2).bind fun t821=>(if t821=true then ((jOa.f l0_0 a3).bind fun t822=>(some t822)) else (some false)))=some r:=h
 clear h
 replace H:=bzS H
 obtain ⟨t821,A50,H⟩:=H
 replace H:(if t821=true then ((jOa.f l0_0 a3).bind fun t822=>(some t822)) else (some false))=some r:=H
 have A5:=am A50
 clear A50
 by_cases c6:t821=true
 ·subst c6
  have H1:((jOa.f l0_0 a3).bind fun t822=>(some t822))=some r:=by rw [if_pos rfl] at H;exact H
  clear H
  have H:=H1
  clear H1
  replace H:=bzS H
  obtain ⟨t822,A70,H⟩:=H
  replace H:(some t822)=some r:=H
  have A7:=am A70
  clear A70
  obtain rfl:=Option.some.inj H
  go_enter Try.func50,Try.ntmps50
  go_wp2_with (first |((with_reducible refine jJ (N:=4) rfl ?_);refine bE (N:=4) (cs:=#[.slice A0_0 l0_0.length c0_0]) (t:=25) ?_;intro gb820 hg w8 hbox hb;have BK820:=am (hbox);have GW820:=am ((Y3:w.heap.size≤gb820));have GE820:=am ((Y3:w.heap.size≤gb820));replace HB:=am (je (bq) hb);clear hb hbox hg;have hcz9_0:=bc0 BK820.out;have hfz9_0:=ja BK820.out 0) |((with_reducible refine jd (f:=33) rfl ?_);refine gL (some 12) Try.func33 #[.agg #[.slice A0_0 l0_0.length c0_0], .slice A1 l1.length c1, .int .i64 a2] ?_;(with_reducible refine (jGb.calls k _ _ l0_0 _ _ l1 a2 true _ ?side1 ?side2 ?side3 ?side4 A5.out).mono ?_);(case side1=>exact cq (Kd.jT HR0_0.out HB.out));(case side2=>exact HC0_0.out);(case side3=>exact cq (Kd.jT HR1.out HB.out));(case side4=>exact HC1.out);rintro e w10 ⟨rfl,hb⟩;refine ⟨_,rfl,?_⟩;replace BK820:=am (jk (g:=gb820) (o:=.cells #[.slice A0_0 l0_0.length c0_0] 25 (0,0)) (kq BK820.out) hb);replace HB:=am (je (Y81) hb);(try clear hb);(try clear hb2);(try clear hk);(try clear hi);have hcz11_0:=bc0 BK820.out;have hfz11_0:=ja BK820.out 0) |(go_at_call 70;(with_reducible refine (jOa.calls _ _ l0_0 a3 t822 _ ?side1 ?side2 A7.out).mono ?_);(case side1=>exact cq (Kd.jT HR0_0.out HB.out));(case side2=>exact HC0_0.out);rintro e w12 ⟨rfl,hb⟩;replace BK820:=am (jk (g:=gb820) (o:=.cells #[.slice A0_0 l0_0.length c0_0] 25 (0,0)) (kq BK820.out) hb);replace HB:=am (je (Y81) hb);(try clear hb);(try clear hb2);(try clear hk);(try clear hi)))
  go_ret
  exact ⟨Y0,Y81⟩
 ·replace c6:=Bool.eq_false_iff.mpr c6
  subst c6
  have H1:(some false)=some r:=by rw [if_neg (show ¬ (false=true) by decide)] at H;exact H
  clear H
  have H:=H1
  clear H1
  obtain rfl:=Option.some.inj H
  go_enter Try.func50,Try.ntmps50
  go_wp2_with (first |((with_reducible refine jJ (N:=4) rfl ?_);refine bE (N:=4) (cs:=#[.slice A0_0 l0_0.length c0_0]) (t:=25) ?_;intro gb820 hg w13 hbox hb;have BK820:=am (hbox);have GW820:=am ((Y3:w.heap.size≤gb820));have GE820:=am ((Y3:w.heap.size≤gb820));replace HB:=am (je (bq) hb);clear hb hbox hg;have hcz14_0:=bc0 BK820.out;have hfz14_0:=ja BK820.out 0) |((with_reducible refine jd (f:=33) rfl ?_);refine gL (some 12) Try.func33 #[.agg #[.slice A0_0 l0_0.length c0_0], .slice A1 l1.length c1, .int .i64 a2] ?_;(with_reducible refine (jGb.calls k _ _ l0_0 _ _ l1 a2 false _ ?side1 ?side2 ?side3 ?side4 A5.out).mono ?_);(case side1=>exact cq (Kd.jT HR0_0.out HB.out));(case side2=>exact HC0_0.out);(case side3=>exact cq (Kd.jT HR1.out HB.out));(case side4=>exact HC1.out);rintro e w15 ⟨rfl,hb⟩;refine ⟨_,rfl,?_⟩;replace BK820:=am (jk (g:=gb820) (o:=.cells #[.slice A0_0 l0_0.length c0_0] 25 (0,0)) (kq BK820.out) hb);replace HB:=am (je (Y81) hb);(try clear hb);(try clear hb2);(try clear hk);(try clear hi)))
  go_ret
  exact ⟨Y0,Y81⟩
def jya.l0 : Nat → List (S36) → List Int → Int → Int → Option (List Int)
 | 0,_,_,_,_=>none
 | k+1,x0,x5,x6,x7=>if x7≥0 then (if 0≤x7 then (if x7<(x0.length:Int) then (if ((jc x0 x7).f0)<x6 then (if x5.length<17592186044416 then (jya.l0 k x0 (x5 ++ [x7]) ((jc x0 x7).f0) (wrap64 (x7 - 1))) else (none)) else (jya.l0 k x0 x5 x6 (wrap64 (x7 - 1)))) else (none)) else (none)) else (some x5)
def jya.f (k : Nat) (l0 : List (S36)) (a1 : Int) : Option (List Int) := if 0 ≤ a1 then (if a1 < (l0.length : Int) then (jya.l0 k l0 (([] : List Int)) ((jc l0 a1).f0) (wrap64 (a1 - 1))) else (none)) else (none)
set_option maxHeartbeats 8000000 in
set_option maxRecDepth 100000 in
theorem jya.calls (k : Nat) (A0 : Option Addr) (c0 : Nat) (l0 : List (S36)) (a1 : Int) (r : List Int) (w : World) (hr0 : Kd.C k36 w A0 l0.length l0) (hc0 : l0.length ≤ c0) (h : jya.f k l0 a1 = some r) :
  Calls Try.prog 35 #[.slice A0 l0.length c0, .int .i64 a1] w fun e w'=>∃ v0_:Value,e=.returned (v0_)∧Kd.R (Kd.int .i64) 3 w' w.heap.size (fun _=>True) v0_ r∧Below w.heap.size w w':=by
 have HR0:=am hr0
 have HC0:=am hc0
 clear hr0 hc0
 have HB:=am (Below.refl w.heap.size w)
 have H:(if 0≤a1 then (if a1<(l0.length:Int) then (jya.l0 k l0 (([]:List Int)) ((jc l0 a1).f0) (wrap64 (a1 - 1))) else (none)) else (none))=some r:=h
 clear h
 obtain ⟨y604,hy604⟩:∃ y_:List Int,y_=(([]:List Int)):=⟨_,rfl⟩
 replace H:(if 0≤a1 then (if a1<(l0.length:Int) then (jya.l0 k l0 y604 ((jc l0 a1).f0) (wrap64 (a1 - 1))) else (none)) else (none))=some r:=by first |(rw [hy604];with_reducible exact H) |(have H2_:=(Option.bind_some _ _).symm.trans H;rw [hy604];with_reducible exact H2_) |(have H2_:=(Option.bind_some _ _).symm.trans H;with_reducible exact H2_) | with_reducible exact H |(rw [hy604];exact H) | exact H
 have Ny604:=am hy604
 clear hy604
 by_cases c3:0≤a1
 ·rw [if_pos c3] at H
  have c3b0:decide (0≤a1)=true:=dzT c3
  clear c3
  by_cases c4:a1<(l0.length:Int)
  ·rw [if_pos c4] at H
   have c4b0:decide (a1<(l0.length:Int))=true:=dzT c4
   clear c4
   have H':=am H
   clear H
   go_enter Try.func35,Try.ntmps35
   go_wp2_with (first |((with_reducible refine jJ (N:=8) rfl ?_);refine Kd.jfc (Kd.int .i64) _ 3 ?hg (N:=8) ?hd (xs:=([]:List Int)) (inner:=[]) (ok:=fun _=>True) (okp:=fun _=>True) ?hr ?hp (fun _ hk=>hk) trivial (Below.refl _ _) (Nat.le_refl _) (by simp) ?_;(case hd=>rfl);(case hg=>rfl);(case hr=>exact Y5);(case hp=>exact (Reps.none _ _));intro v605 w5 ho6 hb hg_ hnew_;clear hg_ hnew_;(first | rw [← Ny604.out] at ho6 |(simp only [Int.reduceToNat] at ho6;rw [← Ny604.out] at ho6));have HO606:=am (Kd.jaa ho6 (jma (bq)));replace HB:=am (je (bq) hb);clear hb ho6;have p607:0≤(a1:Int):=ozD (uq);have q607:a1<(l0.length:Int):=ozD (uq);obtain ⟨ad607,e607,hx607_0,hx607_1,hx607_2,hx607_3⟩:=jna HR0.out a1 p607 q607;cases e607;replace hx607_0:=cb HB.out hx607_0;replace hx607_1:=cb HB.out hx607_1;replace hx607_2:=cb HB.out hx607_2;replace hx607_3:=cb HB.out hx607_3;replace p607:=ezT p607;replace q607:=ezT q607))
   go_loopg [5,6,7] k (fun kq v5 v6 v7 w'=>∃ (x5_1:List Int) (x6_1:Int) (x7_1:Int),v6=.int .i64 x6_1∧v7=.int .i64 x7_1∧jq (jya.l0 kq l0 x5_1 x6_1 x7_1=some r)∧jq (kq≤k)∧jq (Kd.R (Kd.int .i64) 3 w' w.heap.size (fun _=>True) v5 x5_1)∧jq (Below w.heap.size w w'))
   case atStart=>exact ⟨(y604),((jc l0 a1).f0),(wrap64 (a1 - 1)),(sq),(sq),H',⟨Nat.le_refl _⟩,⟨rq HO606.out⟩,⟨bq⟩⟩
   case round =>
    clear H'
    try clear p2
    try clear c3
    try clear c3b0
    try clear c4
    try clear c4b0
    try clear p6
    try clear q6
    try clear hx6
    try clear hx607_0
    try clear hx607_1
    try clear hx607_2
    try clear hx607_3
    try clear p607
    try clear q607
    obtain ⟨x5_1,x6_1,x7_1,rfl,rfl,HA,HK1,HO_5,HB⟩:=hrel
    cases gk with
    | zero=>exact absurd HA.out (by simp [jya.l0])
    | succ k1 =>
     have H:=HA.out
     clear HA
     simp only [jya.l0] at H
     by_cases c7:x7_1≥0
     ·rw [if_pos c7] at H
      have c7b0:decide (0≤x7_1)=true:=dzT c7
      clear c7
      by_cases c8:0≤x7_1
      ·rw [if_pos c8] at H
       have c8b0:decide (0≤x7_1)=true:=dzT c8
       clear c8
       by_cases c9:x7_1<(l0.length:Int)
       ·rw [if_pos c9] at H
        have c9b0:decide (x7_1<(l0.length:Int))=true:=dzT c9
        clear c9
        by_cases c10:((jc l0 x7_1).f0)<x6_1
        ·rw [if_pos c10] at H
         have c10b0:decide (((jc l0 x7_1).f0)<x6_1)=true:=dzT c10
         clear c10
         by_cases c11:x5_1.length<17592186044416
         ·rw [if_pos c11] at H
          have LMc11:=am c11
          clear c11
          obtain ⟨y610,hy610⟩:∃ y_:List Int,y_=(x5_1 ++ [x7_1]):=⟨_,rfl⟩
          replace H:(jya.l0 k1 l0 y610 ((jc l0 x7_1).f0) (wrap64 (x7_1 - 1)))=some r:=by first |(rw [hy610];with_reducible exact H) |(have H2_:=(Option.bind_some _ _).symm.trans H;rw [hy610];with_reducible exact H2_) |(have H2_:=(Option.bind_some _ _).symm.trans H;with_reducible exact H2_) | with_reducible exact H |(rw [hy610];exact H) | exact H
          have Ny610:=am hy610
          clear hy610
          have H':=am H
          clear H
          have p608:0≤(x7_1:Int):=ozD (uq)
          have q608:x7_1<(l0.length:Int):=ozD (uq)
          obtain ⟨ad608,e608,hx608_0,hx608_1,hx608_2,hx608_3⟩:=jna HR0.out x7_1 p608 q608
          obtain rfl:ad607=ad608:=(by injection e608)
          replace hx608_0:=cb HB.out hx608_0
          replace hx608_1:=cb HB.out hx608_1
          replace hx608_2:=cb HB.out hx608_2
          replace hx608_3:=cb HB.out hx608_3
          replace p608:=ezT p608
          replace q608:=ezT q608
          have p609:0≤(x7_1:Int):=ozD (uq)
          have q609:x7_1<(l0.length:Int):=ozD (uq)
          obtain ⟨ad609,e609,hx609_0,hx609_1,hx609_2,hx609_3⟩:=jna HR0.out x7_1 p609 q609
          obtain rfl:ad607=ad609:=(by injection e609)
          replace hx609_0:=cb HB.out hx609_0
          replace hx609_1:=cb HB.out hx609_1
          replace hx609_2:=cb HB.out hx609_2
          replace hx609_3:=cb HB.out hx609_3
          replace p609:=ezT p609
          replace q609:=ezT q609
          go_wp2_with (first |((with_reducible refine jMa (b:=.append) (xs:=#[.tmp 32, .tmp 34]) rfl ?_);at_builtin;refine Kd.jcc (Kd.int .i64) (w0:=w) w.heap.size rfl (.tmp 32) (.tmp 34) 29 3 (.int .i64 0) 8 rfl Try.underlying29 info3 rfl (by decide) (by omega) u5 x5_1 x7_1 [.int .i64 x7_1] (fun _=>True) (fun _=>False) rfl rfl ?aP (fun _ hk=>hk.elim) ?aF ?aO ?aB ?aS ?aL ?_;(case aP=>exact rfl);(case aB=>exact (bq));(case aF=>exact (fun _ _=>trivial));(case aO=>exact (rq HO_5.out));(case aS=>exact (jma (bq)));(case aL=>have:=LMc11.out;omega);intro v611 w12 ho hb hg hat;rw [← Ny610.out] at ho;have n0_:=am (hb);have n1_:=am (ho);clear HB HO_5;have HB:=n0_;have HO612:=n1_;clear n0_ n1_ ho hb hg hat))
          go_roundg k1
          case measure=>have:=HK1.out;omega
          case rel=>exact ⟨(y610),((jc l0 x7_1).f0),(wrap64 (x7_1 - 1)),(sq),(sq),H',⟨by have:=HK1.out;omega⟩,⟨rq HO612.out⟩,⟨bq⟩⟩
         ·rw [if_neg c11] at H
          exact absurd H (by simp)
        ·rw [if_neg c10] at H
         have c10b0:decide (((jc l0 x7_1).f0)<x6_1)=false:=dzF c10
         clear c10
         have H':=am H
         clear H
         have p608:0≤(x7_1:Int):=ozD (uq)
         have q608:x7_1<(l0.length:Int):=ozD (uq)
         obtain ⟨ad608,e608,hx608_0,hx608_1,hx608_2,hx608_3⟩:=jna HR0.out x7_1 p608 q608
         obtain rfl:ad607=ad608:=(by injection e608)
         replace hx608_0:=cb HB.out hx608_0
         replace hx608_1:=cb HB.out hx608_1
         replace hx608_2:=cb HB.out hx608_2
         replace hx608_3:=cb HB.out hx608_3
         replace p608:=ezT p608
         replace q608:=ezT q608
         go_wp2
         go_roundg k1
         case measure=>have:=HK1.out;omega
         case rel=>exact ⟨(x5_1),(x6_1),(wrap64 (x7_1 - 1)),(sq),(sq),H',⟨by have:=HK1.out;omega⟩,⟨rq HO_5.out⟩,⟨bq⟩⟩
       ·rw [if_neg c9] at H
        exact absurd H (by simp)
      ·rw [if_neg c8] at H
       exact absurd H (by simp)
     ·rw [if_neg c7] at H
      have c7b0:decide (0≤x7_1)=false:=dzF c7
      clear c7
      obtain rfl:=Option.some.inj H
      go_wp2
      go_ret
      exact ⟨_,Y0,rq HO_5.out,bq⟩
  ·rw [if_neg c4] at H
   exact absurd H (by simp)
 ·rw [if_neg c3] at H
  exact absurd H (by simp)
def jjb.l0 : Nat → List Int → Int → Int → Option (Bool)
 | 0,_,_,_=>none
 | k+1,x0,x1,x5=>if x5<(x0.length:Int) then (if 0≤x5 then (if (rd x0 x5)=x1 then (some true) else (jjb.l0 k x0 x1 (wrap64 (x5+1)))) else (none)) else (some false)
def jjb.f (k : Nat) (l0 : List Int) (a1 : Int) : Option (Bool) := jjb.l0 k l0 a1 0
set_option maxHeartbeats 8000000 in
set_option maxRecDepth 100000 in
theorem jjb.calls (k : Nat) (A0 : Option Addr) (c0 : Nat) (l0 : List Int) (a1 : Int) (r : Bool) (w : World) (hr0 : Kd.C (Kd.int .i64) w A0 l0.length l0) (hc0 : l0.length ≤ c0) (h : jjb.f k l0 a1 = some r) :
  Calls Try.prog 86 #[.slice A0 l0.length c0, .int .i64 a1] w fun e w'=>e=.returned (.bool r)∧jsb w w':=by
 have HR0:=am hr0
 have HC0:=am hc0
 clear hr0 hc0
 have H:(jjb.l0 k l0 a1 0)=some r:=h
 clear h
 have H':=am H
 clear H
 go_enter Try.func86,Try.ntmps86
 go_wp2
 go_loopg [5] k (fun kq v5 w'=>∃ (x5_1:Int),v5=.int .i64 x5_1∧jq (jjb.l0 kq l0 a1 x5_1=some r)∧jq (kq≤k)∧jsb w w')
 case atStart=>exact ⟨(0),(sq),H',⟨Nat.le_refl _⟩,Y7⟩
 case round =>
  clear H'
  try clear p2
  obtain ⟨x5_1,rfl,HA,HK1,⟨m1,rfl⟩⟩:=hrel
  cases gk with
  | zero=>exact absurd HA.out (by simp [jjb.l0])
  | succ k1 =>
   have H:=HA.out
   clear HA
   simp only [jjb.l0] at H
   by_cases c3:x5_1<(l0.length:Int)
   ·rw [if_pos c3] at H
    have c3b0:decide (x5_1<(l0.length:Int))=true:=dzT c3
    clear c3
    by_cases c4:0≤x5_1
    ·rw [if_pos c4] at H
     have c4b0:decide (0≤x5_1)=true:=dzT c4
     clear c4
     by_cases c5:(rd l0 x5_1)=a1
     ·rw [if_pos c5] at H
      have c5b0:((rd l0 x5_1) == a1)=true:=beq_iff_eq.mpr c5
      have c5b1:((rd l0 x5_1) != a1)=false:=bne_eq_false_iff_eq.mpr c5
      clear c5
      obtain rfl:=Option.some.inj H
      have p823:0≤(x5_1:Int):=ozD (uq)
      have q823:x5_1<(l0.length:Int):=ozD (uq)
      obtain ⟨ad823,e823,hx823_0⟩:=Kd.jtb HR0.out x5_1 p823 q823
      cases e823
      replace p823:=ezT p823
      replace q823:=ezT q823
      go_wp2
      go_ret
      exact ⟨sq,Y7⟩
     ·rw [if_neg c5] at H
      have c5b0:((rd l0 x5_1) == a1)=false:=beq_eq_false_iff_ne.mpr c5
      have c5b1:((rd l0 x5_1) != a1)=true:=bne_iff_ne.mpr c5
      have H':=am H
      clear H
      have p823:0≤(x5_1:Int):=ozD (uq)
      have q823:x5_1<(l0.length:Int):=ozD (uq)
      obtain ⟨ad823,e823,hx823_0⟩:=Kd.jtb HR0.out x5_1 p823 q823
      cases e823
      replace p823:=ezT p823
      replace q823:=ezT q823
      go_wp2
      go_roundg k1
      case measure=>have:=HK1.out;omega
      case rel=>exact ⟨(wrap64 (x5_1+1)),(sq),H',⟨by have:=HK1.out;omega⟩,Y7⟩
    ·rw [if_neg c4] at H
     exact absurd H (by simp)
   ·rw [if_neg c3] at H
    have c3b0:decide (x5_1<(l0.length:Int))=false:=dzF c3
    clear c3
    obtain rfl:=Option.some.inj H
    go_wp2
    go_ret
    exact ⟨sq,Y7⟩
def jpb.l0 : Nat → Int → List Int → List (S75) → Option (List Int)
 | 0,_,_,_=>none
 | k+1,x1,x5,x825000=>if x1≥0 then (if x5.length<17592186044416 then (if 0≤x1 then (if x1<(x825000.length:Int) then (jpb.l0 k ((jY x825000 x1).f1) (x5 ++ [x1]) x825000) else (none)) else (none)) else (none)) else (some x5)
def jpb.f (k : Nat) (l0_0 : List (S75)) (a1 : Int) : Option (List Int) := jpb.l0 k a1 (([] : List Int)) l0_0
set_option maxHeartbeats 8000000 in
set_option maxRecDepth 100000 in
theorem jpb.calls (k : Nat) (A0_0 : Option Addr) (c0_0 : Nat) (l0_0 : List (S75)) (a1 : Int) (r : List Int) (w : World) (hr0_0 : Kd.C k75 w A0_0 l0_0.length l0_0) (hc0_0 : l0_0.length ≤ c0_0) (h : jpb.f k l0_0 a1 = some r) :
  Calls Try.prog 87 #[.agg #[.slice A0_0 l0_0.length c0_0], .int .i64 a1] w fun e w'=>∃ v0_:Value,e=.returned (v0_)∧Kd.R (Kd.int .i64) 3 w' w.heap.size (fun _=>True) v0_ r∧Below w.heap.size w w':=by
 have hu25:=Try.underlying25
 have HR0_0:=am hr0_0
 have HC0_0:=am hc0_0
 clear hr0_0 hc0_0
 have HB:=am (Below.refl w.heap.size w)
 have H:(jpb.l0 k a1 (([]:List Int)) l0_0)=some r:=h
 clear h
 obtain ⟨y825,hy825⟩:∃ y_:List Int,y_=(([]:List Int)):=⟨_,rfl⟩
 replace H:(jpb.l0 k a1 y825 l0_0)=some r:=by first |(rw [hy825];with_reducible exact H) |(have H2_:=(Option.bind_some _ _).symm.trans H;rw [hy825];with_reducible exact H2_) |(have H2_:=(Option.bind_some _ _).symm.trans H;with_reducible exact H2_) | with_reducible exact H |(rw [hy825];exact H) | exact H
 have Ny825:=am hy825
 clear hy825
 have H':=am H
 clear H
 go_enter Try.func87,Try.ntmps87
 go_wp2_with (first |((with_reducible refine jJ (N:=2) rfl ?_);refine bE (N:=2) (cs:=#[.slice A0_0 l0_0.length c0_0]) (t:=25) ?_;intro gb824 hg w3 hbox hb;have BK824:=am (hbox);have GW824:=am ((Y3:w.heap.size≤gb824));have GE824:=am ((Y3:w.heap.size≤gb824));replace HB:=am (je (bq) hb);clear hb hbox hg) |((with_reducible refine jJ (N:=6) rfl ?_);refine Kd.jfc (Kd.int .i64) _ 3 ?hg (N:=6) ?hd (xs:=([]:List Int)) (inner:=[]) (ok:=fun _=>True) (okp:=fun _=>True) ?hr ?hp (fun _ hk=>hk) trivial (Below.refl _ _) (Nat.le_refl _) (by simp) ?_;(case hd=>rfl);(case hg=>rfl);(case hr=>exact Y5);(case hp=>exact (Reps.none _ _));intro v826 w4 ho5 hb hg_ hnew_;clear hg_ hnew_;(first | rw [← Ny825.out] at ho5 |(simp only [Int.reduceToNat] at ho5;rw [← Ny825.out] at ho5));have HO827:=am (Kd.jaa ho5 (jma (Y67)));replace BK824:=am (jk (g:=gb824) (o:=.cells #[.slice A0_0 l0_0.length c0_0] 25 (0,0)) (kq BK824.out) hb);replace HB:=am (je (Y67) hb);clear hb ho5))
 go_loopg [1,5] k (fun kq v1 v5 w'=>∃ (x1_1:Int) (x5_1:List Int),v1=.int .i64 x1_1∧jq (jpb.l0 kq x1_1 x5_1 l0_0=some r)∧jq (kq≤k)∧jq (Kd.R (Kd.int .i64) 3 w' w.heap.size (fun _=>True) v5 x5_1)∧jq (w'.heap[gb824]?=some (.cells #[(.slice A0_0 l0_0.length c0_0)] 25 (0,0)))∧jq (Below w.heap.size w w'))
 case atStart=>exact ⟨(a1),(y825),(sq),H',⟨Nat.le_refl _⟩,⟨rq HO827.out⟩,⟨kq BK824.out⟩,⟨Y67⟩⟩
 case round =>
  clear H'
  try clear p2
  obtain ⟨x1_1,x5_1,rfl,HA,HK1,HO_5,BK824,HB⟩:=hrel
  cases gk with
  | zero=>exact absurd HA.out (by simp [jpb.l0])
  | succ k1 =>
   have H:=HA.out
   clear HA
   simp only [jpb.l0] at H
   by_cases c6:x1_1≥0
   ·rw [if_pos c6] at H
    have c6b0:decide (0≤x1_1)=true:=dzT c6
    clear c6
    by_cases c7:x5_1.length<17592186044416
    ·rw [if_pos c7] at H
     have LMc7:=am c7
     clear c7
     obtain ⟨y828,hy828⟩:∃ y_:List Int,y_=(x5_1 ++ [x1_1]):=⟨_,rfl⟩
     replace H:(if 0≤x1_1 then (if x1_1<(l0_0.length:Int) then (jpb.l0 k1 ((jY l0_0 x1_1).f1) y828 l0_0) else (none)) else (none))=some r:=by first |(rw [hy828];with_reducible exact H) |(have H2_:=(Option.bind_some _ _).symm.trans H;rw [hy828];with_reducible exact H2_) |(have H2_:=(Option.bind_some _ _).symm.trans H;with_reducible exact H2_) | with_reducible exact H |(rw [hy828];exact H) | exact H
     have Ny828:=am hy828
     clear hy828
     by_cases c8:0≤x1_1
     ·rw [if_pos c8] at H
      have c8b0:decide (0≤x1_1)=true:=dzT c8
      clear c8
      by_cases c9:x1_1<(l0_0.length:Int)
      ·rw [if_pos c9] at H
       have c9b0:decide (x1_1<(l0_0.length:Int))=true:=dzT c9
       clear c9
       have H':=am H
       clear H
       go_wp2_with (first |((with_reducible refine jMa (b:=.append) (xs:=#[.tmp 15, .tmp 17]) rfl ?_);at_builtin;refine Kd.jcc (Kd.int .i64) (w0:=w) w.heap.size rfl (.tmp 15) (.tmp 17) 29 3 (.int .i64 0) 8 rfl Try.underlying29 info3 rfl (by decide) (by omega) u5 x5_1 x1_1 [.int .i64 x1_1] (fun _=>True) (fun _=>False) rfl rfl ?aP (fun _ hk=>hk.elim) ?aF ?aO ?aB ?aS ?aL ?_;(case aP=>exact rfl);(case aB=>exact (Y67));(case aF=>exact (fun _ _=>trivial));(case aO=>exact (rq HO_5.out));(case aS=>exact (jma (Y67)));(case aL=>have:=LMc7.out;omega);intro v829 w10 ho hb hg hat;rw [← Ny828.out] at ho;have n0_:=am (jXa (g:=gb824) (o:=.cells #[.slice A0_0 l0_0.length c0_0] 25 (0,0)) (kq BK824.out) hg (Kd.R_ne HO_5.out BK824.out (by decide)));have n1_:=am (hb);have n2_:=am (ho);clear BK824 HB HO_5;have BK824:=n0_;have HB:=n1_;have HO830:=n2_;clear n0_ n1_ n2_ ho hb hg hat;have hcz11_0:=bc0 BK824.out;have hfz11_0:=ja BK824.out 0;have p831:0≤(x1_1:Int):=ozD (uq);have q831:x1_1<(l0_0.length:Int):=ozD (uq);obtain ⟨ad831,e831,hx831_0,hx831_1⟩:=at_T75 HR0_0.out x1_1 p831 q831;cases e831;replace hx831_0:=cb HB.out hx831_0;replace hx831_1:=cb HB.out hx831_1;replace p831:=ezT p831;replace q831:=ezT q831))
       go_roundg k1
       case measure=>have:=HK1.out;omega
       case rel=>exact ⟨((jY l0_0 x1_1).f1),(y828),(sq),H',⟨by have:=HK1.out;omega⟩,⟨rq HO830.out⟩,⟨kq BK824.out⟩,⟨Y67⟩⟩
      ·rw [if_neg c9] at H
       exact absurd H (by simp)
     ·rw [if_neg c8] at H
      exact absurd H (by simp)
    ·rw [if_neg c7] at H
     exact absurd H (by simp)
   ·rw [if_neg c6] at H
    have c6b0:decide (0≤x1_1)=false:=dzF c6
    clear c6
    obtain rfl:=Option.some.inj H
    go_wp2
    go_ret
    exact ⟨_,Y0,rq HO_5.out,Y67⟩
def jUc.f (k : Nat) (l0_0 : List (S75)) (a1 : Int) (a2 : Int) : Option (Bool) := (jpb.f k l0_0 a1).bind fun t833 => ((jjb.f k t833 a2).bind fun t836 => (some t836))
set_option maxHeartbeats 8000000 in
set_option maxRecDepth 100000 in
theorem jUc.calls (k : Nat) (A0_0 : Option Addr) (c0_0 : Nat) (l0_0 : List (S75)) (a1 : Int) (a2 : Int) (r : Bool) (w : World) (hr0_0 : Kd.C k75 w A0_0 l0_0.length l0_0) (hc0_0 : l0_0.length ≤ c0_0) (h : jUc.f k l0_0 a1 a2 = some r) :
  Calls Try.prog 72 #[.agg #[.slice A0_0 l0_0.length c0_0], .int .i64 a1, .int .i64 a2] w fun e w'=>e=.returned (.bool r)∧Below w.heap.size w w':=by
 have hu25:=Try.underlying25
 have HR0_0:=am hr0_0
 have HC0_0:=am hc0_0
 clear hr0_0 hc0_0
 have HB:=am (Below.refl w.heap.size w)
 have H:((jpb.f k l0_0 a1).bind fun t833=>((jjb.f k t833 a2).bind fun t836=>(some t836)))=some r:=h
 clear h
 replace H:=bzS H
 obtain ⟨t833,A40,H⟩:=H
 replace H:((jjb.f k t833 a2).bind fun t836=>(some t836))=some r:=H
 have A4:=am A40
 clear A40
 replace H:=bzS H
 obtain ⟨t836,A50,H⟩:=H
 replace H:(some t836)=some r:=H
 have A5:=am A50
 clear A50
 obtain rfl:=Option.some.inj H
 go_enter Try.func72,Try.ntmps72
 go_wp2_with (first |((with_reducible refine jJ (N:=3) rfl ?_);refine bE (N:=3) (cs:=#[.slice A0_0 l0_0.length c0_0]) (t:=25) ?_;intro gb832 hg w6 hbox hb;have BK832:=am (hbox);have GW832:=am ((Y3:w.heap.size≤gb832));have GE832:=am ((Y3:w.heap.size≤gb832));replace HB:=am (je (bq) hb);clear hb hbox hg;have hcz7_0:=bc0 BK832.out;have hfz7_0:=ja BK832.out 0) |((with_reducible refine jd (f:=87) rfl ?_);refine gL (some 9) Try.func87 #[.agg #[.slice A0_0 l0_0.length c0_0], .int .i64 a1] ?_;(with_reducible refine (jpb.calls k _ _ l0_0 a1 t833 _ ?side1 ?side2 A4.out).mono ?_);(case side1=>exact cq (Kd.jT HR0_0.out HB.out));(case side2=>exact HC0_0.out);rintro e w8 ⟨v834,rfl,ho0,hb⟩;refine ⟨_,rfl,?_⟩;have HO835:=am (Kd.jaa ho0 (jma (Y109)));replace BK832:=am (jk (g:=gb832) (o:=.cells #[.slice A0_0 l0_0.length c0_0] 25 (0,0)) (kq BK832.out) hb);replace HB:=am (je (Y109) hb);(try clear hb);(try clear hb2);(try clear hk);(try clear hi);(try clear ho0);obtain ⟨Ao9,co9,eo9⟩:=Kd.jka HO835.out;subst eo9) |((with_reducible refine jd (f:=86) rfl ?_);refine gL (some 11) Try.func86 #[.slice Ao9 t833.length co9, .int .i64 a2] ?_;(with_reducible refine (jjb.calls k _ _ t833 a2 t836 _ ?side1 ?side2 A5.out).mono ?_);(case side1=>exact cq (Kd.jy HO835.out).2.2);(case side2=>exact (Kd.jy HO835.out).2.1);rintro e w' ⟨rfl,⟨nd,rfl⟩⟩;refine ⟨_,rfl,?_⟩))
 go_ret
 exact ⟨Y0,Y109⟩
mutual
def jU.j0 : Nat → List (S36) → Int → Int → Bool → List (S75) → Option (Int)
 | 0,_,_,_,_,_=>none
 | k+1,x1,x2,x3,x24,x838000=>if x24=true then (some x2) else (if 0≤x2 then (if x2<(x1.length:Int) then (if ((jc x1 x2).f1)=7 then ((jCa.f k x1 x2).bind fun t841=>(jU.l0 k x1 x3 t841 1 x838000)) else (some (-1))) else (none)) else (none))
def jU.l0 : Nat → List (S36) → Int → List Int → Int → List (S75) → Option (Int)
 | 0,_,_,_,_,_=>none
 | k+1,x1,x3,x9,x10,x838000=>if x10<(x9.length:Int) then (if 0≤x10 then (if 0≤(rd x9 x10) then (if (rd x9 x10)<(x1.length:Int) then (if ((jc x1 (rd x9 x10)).f1)=8 then ((jUc.f k x838000 x3 ((jc x1 (rd x9 x10)).f2)).bind fun t848=>(if t848=true then (some (rd x9 x10)) else (jU.l0 k x1 x3 x9 (wrap64 (x10+1)) x838000))) else (jU.l0 k x1 x3 x9 (wrap64 (x10+1)) x838000)) else (none)) else (none)) else (none)) else (some (-1))
end
def jU.f (k : Nat) (l0_0 : List (S75)) (l1 : List (S36)) (a2 : Int) (a3 : Int) : Option (Int) := if 0 ≤ a2 then (if a2 < (l1.length : Int) then (if ((jc l1 a2).f1) = 11 then (jU.j0 k l1 a2 a3 (((jc l1 a2).f3) == 1) l0_0) else (jU.j0 k l1 a2 a3 false l0_0)) else (none)) else (none)
def jU.T9 : Bool × List (List Nat × List Nat) := (true, [([], []), ([], []), ([], []), ([1, 2], [1, 2]), ([3], [3]), ([0, 4], [0, 4]), ([5], [5]), ([6], [6]), ([7], [7]), ([8], [8]), ([9], [9]), ([9], [9]), ([9], [9]), ([9], [9]), ([9], [9]), ([13, 14, 9], [9, 13, 14]), ([15, 9], [9, 15]), ([12, 16, 9], [9, 12, 16]), ([17, 9], [9, 17]), ([18, 9], [9, 18]), ([10, 11, 19, 9, 9], [9, 10, 11, 19]), ([9, 20], [9, 20])])
def jU.B9 : List Nat := [0, 0, 0, 6, 14, 31, 63, 127, 255, 511, 1023, 1023, 1023, 1023, 1023, 25599, 58367, 127999, 259071, 521215, 1048575, 2097151]
theorem jU.tab9 : rtab .any (opsOf Try.f51 9) = jU.T9 := by kernel_rfl
theorem jU.bits9 : jdc jU.T9.2 jU.B9 = true := by kernel_rfl
set_option maxHeartbeats 8000000 in
set_option maxRecDepth 100000 in
theorem jU.calls (k : Nat) (A0_0 : Option Addr) (c0_0 : Nat) (l0_0 : List (S75)) (A1 : Option Addr) (c1 : Nat) (l1 : List (S36)) (a2 : Int) (a3 : Int) (r : Int) (w : World) (hr0_0 : Kd.C k75 w A0_0 l0_0.length l0_0) (hc0_0 : l0_0.length ≤ c0_0) (hr1 : Kd.C k36 w A1 l1.length l1) (hc1 : l1.length ≤ c1) (h : jU.f k l0_0 l1 a2 a3 = some r) :
  Calls Try.prog 51 #[.agg #[.slice A0_0 l0_0.length c0_0], .slice A1 l1.length c1, .int .i64 a2, .int .i64 a3] w fun e w'=>e=.returned (.int .i64 r)∧Below w.heap.size w w':=by
 have hu25:=Try.underlying25
 have HR0_0:=am hr0_0
 have HC0_0:=am hc0_0
 clear hr0_0 hc0_0
 have HR1:=am hr1
 have HC1:=am hc1
 clear hr1 hc1
 have HB:=am (Below.refl w.heap.size w)
 have H:(if 0≤a2 then (if a2<(l1.length:Int) then (if ((jc l1 a2).f1)=11 then (jU.j0 k l1 a2 a3 (((jc l1 a2).f3) == 1) l0_0) else (jU.j0 k l1 a2 a3 false l0_0)) else (none)) else (none))=some r:=h
 clear h
 have HC5:=am H
 clear H
 go_enter Try.func51,Try.ntmps51
 go_upto_region 1 with (first |((with_reducible refine jJ (N:=4) rfl ?_);refine bE (N:=4) (cs:=#[.slice A0_0 l0_0.length c0_0]) (t:=25) ?_;intro gb837 hg w6 hbox hb;have BK837:=am (hbox);have GW837:=am ((Y3:w.heap.size≤gb837));have GE837:=am ((Y3:w.heap.size≤gb837));replace HB:=am (je (bq) hb);clear hb hbox hg))
 (try simp only [Act.put,List.setIfInBounds_toArray,List.set_cons_zero,List.set_cons_succ])
 go_cut [24] (fun v24 wc=>∃ (kq:Nat) (x24_4:Bool),v24=.bool x24_4∧jq (jU.j0 kq l1 a2 a3 x24_4 l0_0=some r)∧jq (kq≤k)∧jq (wc.heap[gb837]?=some (.cells #[(.slice A0_0 l0_0.length c0_0)] 25 (0,0)))∧jq (Below w.heap.size w wc))
 case first =>
  have H:=HC5.out
  clear HC5
  by_cases c7:0≤a2
  ·rw [if_pos c7] at H
   have c7b0:decide (0≤a2)=true:=dzT c7
   clear c7
   (first | rw [c7b0] |(simp only [jkb,jmb];rw [c7b0]) | skip)
   by_cases c8:a2<(l1.length:Int)
   ·rw [if_pos c8] at H
    have c8b0:decide (a2<(l1.length:Int))=true:=dzT c8
    clear c8
    by_cases c9:((jc l1 a2).f1)=11
    ·rw [if_pos c9] at H
     have c9b0:(((jc l1 a2).f1) == 11)=true:=beq_iff_eq.mpr c9
     have c9b1:(((jc l1 a2).f1) != 11)=false:=bne_eq_false_iff_eq.mpr c9
     clear c9
     have H':=am H
     clear H
     have p838:0≤(a2:Int):=ozD (uq)
     have q838:a2<(l1.length:Int):=ozD (uq)
     obtain ⟨ad838,e838,hx838_0,hx838_1,hx838_2,hx838_3⟩:=jna HR1.out a2 p838 q838
     cases e838
     replace hx838_0:=cb HB.out hx838_0
     replace hx838_1:=cb HB.out hx838_1
     replace hx838_2:=cb HB.out hx838_2
     replace hx838_3:=cb HB.out hx838_3
     replace p838:=ezT p838
     replace q838:=ezT q838
     have p839:0≤(a2:Int):=ozD (uq)
     have q839:a2<(l1.length:Int):=ozD (uq)
     obtain ⟨ad839,e839,hx839_0,hx839_1,hx839_2,hx839_3⟩:=jna HR1.out a2 p839 q839
     obtain rfl:ad838=ad839:=(by injection e839)
     replace hx839_0:=cb HB.out hx839_0
     replace hx839_1:=cb HB.out hx839_1
     replace hx839_2:=cb HB.out hx839_2
     replace hx839_3:=cb HB.out hx839_3
     replace p839:=ezT p839
     replace q839:=ezT q839
     go_wp2
     go_meet
     case rel=>exact ⟨_,((((jc l1 a2).f3) == 1)),(sq),H',⟨Y32⟩,⟨kq BK837.out⟩,⟨Y36⟩⟩
    ·rw [if_neg c9] at H
     have c9b0:(((jc l1 a2).f1) == 11)=false:=beq_eq_false_iff_ne.mpr c9
     have c9b1:(((jc l1 a2).f1) != 11)=true:=bne_iff_ne.mpr c9
     have H':=am H
     clear H
     have p838:0≤(a2:Int):=ozD (uq)
     have q838:a2<(l1.length:Int):=ozD (uq)
     obtain ⟨ad838,e838,hx838_0,hx838_1,hx838_2,hx838_3⟩:=jna HR1.out a2 p838 q838
     cases e838
     replace hx838_0:=cb HB.out hx838_0
     replace hx838_1:=cb HB.out hx838_1
     replace hx838_2:=cb HB.out hx838_2
     replace hx838_3:=cb HB.out hx838_3
     replace p838:=ezT p838
     replace q838:=ezT q838
     go_wp2
     go_meet
     case rel=>exact ⟨_,(false),(sq),H',⟨Y32⟩,⟨kq BK837.out⟩,⟨Y36⟩⟩
   ·rw [if_neg c8] at H
    exact absurd H (by simp)
  ·rw [if_neg c7] at H
   exact absurd H (by simp)
 case rest =>
  clear HC5
  try clear c1
  try clear p2
  try clear c5
  try clear c7
  try clear c7b0
  try clear c8
  try clear c8b0
  try clear p8
  try clear q8
  try clear hx8
  try clear c9
  try clear c9b0
  try clear c9b1
  try clear hx838_0
  try clear hx838_1
  try clear hx838_2
  try clear hx838_3
  try clear hx839_0
  try clear hx839_1
  try clear hx839_2
  try clear hx839_3
  try clear p838
  try clear p839
  try clear q838
  try clear q839
  obtain ⟨kq,x24_4,rfl,HA,HJ4,BK837,HB⟩:=hcut
  cases kq with
  | zero=>exact absurd HA.out (by simp [jU.j0])
  | succ kj4 =>
   have H:=HA.out
   clear HA
   simp only [jU.j0] at H
   by_cases c10:x24_4=true
   ·subst c10
    have H1:(some a2)=some r:=by rw [if_pos rfl] at H;exact H
    clear H
    have H:=H1
    clear H1
    obtain rfl:=Option.some.inj H
    go_wp2
    go_ret
    exact ⟨Y0,Y36⟩
   ·replace c10:=Bool.eq_false_iff.mpr c10
    subst c10
    have H1:(if 0≤a2 then (if a2<(l1.length:Int) then (if ((jc l1 a2).f1)=7 then ((jCa.f kj4 l1 a2).bind fun t841=>(jU.l0 kj4 l1 a3 t841 1 l0_0)) else (some (-1))) else (none)) else (none))=some r:=by rw [if_neg (show ¬ (false=true) by decide)] at H;exact H
    clear H
    have H:=H1
    clear H1
    by_cases c11:0≤a2
    ·rw [if_pos c11] at H
     have c11b0:decide (0≤a2)=true:=dzT c11
     clear c11
     by_cases c12:a2<(l1.length:Int)
     ·rw [if_pos c12] at H
      have c12b0:decide (a2<(l1.length:Int))=true:=dzT c12
      clear c12
      by_cases c13:((jc l1 a2).f1)=7
      ·rw [if_pos c13] at H
       have c13b0:(((jc l1 a2).f1) == 7)=true:=beq_iff_eq.mpr c13
       have c13b1:(((jc l1 a2).f1) != 7)=false:=bne_eq_false_iff_eq.mpr c13
       clear c13
       replace H:=bzS H
       obtain ⟨t841,A140,H⟩:=H
       replace H:(jU.l0 kj4 l1 a3 t841 1 l0_0)=some r:=H
       have A14:=am A140
       clear A140
       have H':=am H
       clear H
       have p840:0≤(a2:Int):=ozD (uq)
       have q840:a2<(l1.length:Int):=ozD (uq)
       obtain ⟨ad840,e840,hx840_0,hx840_1,hx840_2,hx840_3⟩:=jna HR1.out a2 p840 q840
       cases e840
       replace hx840_0:=cb HB.out hx840_0
       replace hx840_1:=cb HB.out hx840_1
       replace hx840_2:=cb HB.out hx840_2
       replace hx840_3:=cb HB.out hx840_3
       replace p840:=ezT p840
       replace q840:=ezT q840
       go_wp2_with (first |((with_reducible refine jd (f:=71) rfl ?_);refine gL (some 34) Try.func71 #[.slice (some ad840) l1.length c1, .int .i64 a2] ?_;(with_reducible refine (jCa.calls kj4 _ _ l1 a2 t841 _ ?side1 ?side2 A14.out).mono ?_);(case side1=>exact cq (Kd.jT HR1.out HB.out));(case side2=>exact HC1.out);rintro e w15 ⟨v842,rfl,ho0,hb⟩;refine ⟨_,rfl,?_⟩;have HO843:=am (Kd.jaa ho0 (jma (Y36)));replace BK837:=am (jk (g:=gb837) (o:=.cells #[.slice A0_0 l0_0.length c0_0] 25 (0,0)) (kq BK837.out) hb);replace HB:=am (je (Y36) hb);(try clear hb);(try clear hb2);(try clear hk);(try clear hi);(try clear ho0)))
       go_loopg [10] kj4 (fun kq v10 w'=>∃ (x10_2:Int),v10=.int .i64 x10_2∧jq (jU.l0 kq l1 a3 t841 x10_2 l0_0=some r)∧jq (kq≤kj4)∧jq (Kd.R (Kd.int .i64) 3 w' w.heap.size (fun _=>True) v842 t841)∧jq (w'.heap[gb837]?=some (.cells #[(.slice A0_0 l0_0.length c0_0)] 25 (0,0)))∧jq (Below w.heap.size w w'))
       case atStart=>exact ⟨(1),(sq),H',⟨Nat.le_refl _⟩,⟨rq HO843.out⟩,⟨kq BK837.out⟩,⟨Y36⟩⟩
       case round =>
        clear H'
        try clear c1
        try clear p2
        try clear c5
        try clear c7
        try clear c7b0
        try clear c8
        try clear c8b0
        try clear p8
        try clear q8
        try clear hx8
        try clear c9
        try clear c9b0
        try clear c9b1
        try clear c10
        try clear c11
        try clear c11b0
        try clear c12
        try clear c12b0
        try clear c13
        try clear c13b0
        try clear c13b1
        try clear hx838_0
        try clear hx838_1
        try clear hx838_2
        try clear hx838_3
        try clear hx839_0
        try clear hx839_1
        try clear hx839_2
        try clear hx839_3
        try clear hx840_0
        try clear hx840_1
        try clear hx840_2
        try clear hx840_3
        try clear p2
        try clear p8
        try clear p838
        try clear p839
        try clear p840
        try clear q8
        try clear q838
        try clear q839
        try clear q840
        obtain ⟨x10_2,rfl,HA,HK2,HO_9,BK837,HB⟩:=hrel
        cases gk with
        | zero=>exact absurd HA.out (by simp [jU.l0])
        | succ k2 =>
         have H:=HA.out
         clear HA
         simp only [jU.l0] at H
         by_cases c16:x10_2<(t841.length:Int)
         ·rw [if_pos c16] at H
          have c16b0:decide (x10_2<(t841.length:Int))=true:=dzT c16
          clear c16
          by_cases c17:0≤x10_2
          ·rw [if_pos c17] at H
           have c17b0:decide (0≤x10_2)=true:=dzT c17
           clear c17
           by_cases c18:0≤(rd t841 x10_2)
           ·rw [if_pos c18] at H
            have c18b0:decide (0≤(rd t841 x10_2))=true:=dzT c18
            clear c18
            by_cases c19:(rd t841 x10_2)<(l1.length:Int)
            ·rw [if_pos c19] at H
             have c19b0:decide ((rd t841 x10_2)<(l1.length:Int))=true:=dzT c19
             clear c19
             by_cases c20:((jc l1 (rd t841 x10_2)).f1)=8
             ·rw [if_pos c20] at H
              have c20b0:(((jc l1 (rd t841 x10_2)).f1) == 8)=true:=beq_iff_eq.mpr c20
              have c20b1:(((jc l1 (rd t841 x10_2)).f1) != 8)=false:=bne_eq_false_iff_eq.mpr c20
              clear c20
              replace H:=bzS H
              obtain ⟨t848,A210,H⟩:=H
              replace H:(if t848=true then (some (rd t841 x10_2)) else (jU.l0 k2 l1 a3 t841 (wrap64 (x10_2+1)) l0_0))=some r:=H
              have A21:=am A210
              clear A210
              by_cases c22:t848=true
              ·subst c22
               have H1:(some (rd t841 x10_2))=some r:=by rw [if_pos rfl] at H;exact H
               clear H
               have H:=H1
               clear H1
               obtain rfl:=Option.some.inj H
               obtain ⟨Ao23,co23,eo23⟩:=Kd.jka HO_9.out
               subst eo23
               try go_wp2
               replace HO_9:=am (Kd.jea HO_9.out)
               replace BK837:=am (jw BK837.out)
               replace HB:=am (jE HB.out)
               have p844:0≤(x10_2:Int):=ozD (uq)
               have q844:x10_2<(t841.length:Int):=ozD (uq)
               obtain ⟨ad844,e844,hx844_0⟩:=Kd.jtb (Kd.jy HO_9.out).2.2 x10_2 p844 q844
               cases e844
               replace p844:=ezT p844
               replace q844:=ezT q844
               have p845:0≤((rd t841 x10_2):Int):=ozD (uq)
               have q845:(rd t841 x10_2)<(l1.length:Int):=ozD (uq)
               obtain ⟨ad845,e845,hx845_0,hx845_1,hx845_2,hx845_3⟩:=jna HR1.out (rd t841 x10_2) p845 q845
               have hw845_3:=hx845_3
               have hw845_2:=hx845_2
               have hw845_1:=hx845_1
               have hw845_0:=hx845_0
               obtain rfl:ad840=ad845:=(by injection e845)
               replace hx845_0:=cb HB.out hx845_0
               replace hx845_1:=cb HB.out hx845_1
               replace hx845_2:=cb HB.out hx845_2
               replace hx845_3:=cb HB.out hx845_3
               replace p845:=ezT p845
               replace q845:=ezT q845
               have p846:0≤(x10_2:Int):=ozD (uq)
               have q846:x10_2<(t841.length:Int):=ozD (uq)
               obtain ⟨ad846,e846,hx846_0⟩:=Kd.jtb (Kd.jy HO_9.out).2.2 x10_2 p846 q846
               obtain rfl:ad844=ad846:=(by injection e846)
               replace p846:=ezT p846
               replace q846:=ezT q846
               have p847:0≤((rd t841 x10_2):Int):=ozD (uq)
               have q847:(rd t841 x10_2)<(l1.length:Int):=ozD (uq)
               obtain ⟨ad847,e847,hx847_0,hx847_1,hx847_2,hx847_3⟩:=jna HR1.out (rd t841 x10_2) p847 q847
               have hw847_3:=hx847_3
               have hw847_2:=hx847_2
               have hw847_1:=hx847_1
               have hw847_0:=hx847_0
               obtain rfl:ad840=ad847:=(by injection e847)
               replace hx847_0:=cb HB.out hx847_0
               replace hx847_1:=cb HB.out hx847_1
               replace hx847_2:=cb HB.out hx847_2
               replace hx847_3:=cb HB.out hx847_3
               replace p847:=ezT p847
               replace q847:=ezT q847
               refine jlc (n:=22) (S:=fun w'=>w'.cell? ⟨gb837,0,none⟩=some (.slice A0_0 l0_0.length c0_0)∧w'.cell? (ad844.add (x10_2).toNat)=some (.int .i64 (rd t841 x10_2))∧w'.cell? (ad840.add (((rd t841 x10_2)).toNat * 4))=some (.int .i64 ((jc l1 (rd t841 x10_2)).f0))∧w'.cell? ⟨(ad840.add (((rd t841 x10_2)).toNat * 4)).block,(ad840.add (((rd t841 x10_2)).toNat * 4)).off+1,none⟩=some (.int .i64 ((jc l1 (rd t841 x10_2)).f1))∧w'.cell? ⟨(ad840.add (((rd t841 x10_2)).toNat * 4)).block,(ad840.add (((rd t841 x10_2)).toNat * 4)).off+2,none⟩=some (.int .i64 ((jc l1 (rd t841 x10_2)).f2))∧w'.cell? ⟨(ad840.add (((rd t841 x10_2)).toNat * 4)).block,(ad840.add (((rd t841 x10_2)).toNat * 4)).off+3,none⟩=some (.int .i64 ((jc l1 (rd t841 x10_2)).f3))∧w'.cell? (ad844.add (x10_2).toNat)=some (.int .i64 (rd t841 x10_2))∧w'.cell? (ad840.add (((rd t841 x10_2)).toNat * 4))=some (.int .i64 ((jc l1 (rd t841 x10_2)).f0))∧w'.cell? ⟨(ad840.add (((rd t841 x10_2)).toNat * 4)).block,(ad840.add (((rd t841 x10_2)).toNat * 4)).off+1,none⟩=some (.int .i64 ((jc l1 (rd t841 x10_2)).f1))∧w'.cell? ⟨(ad840.add (((rd t841 x10_2)).toNat * 4)).block,(ad840.add (((rd t841 x10_2)).toNat * 4)).off+2,none⟩=some (.int .i64 ((jc l1 (rd t841 x10_2)).f2))∧w'.cell? ⟨(ad840.add (((rd t841 x10_2)).toNat * 4)).block,(ad840.add (((rd t841 x10_2)).toNat * 4)).off+3,none⟩=some (.int .i64 ((jc l1 (rd t841 x10_2)).f3))) (ds:=[]) #[false,false,false,false,false,false,false,false,false,false,false,false,false,false,false,false,false,false,false,false,false,false] (by kernel_rfl) rfl rfl ⟨(jF BK837.out 0).trans rfl,hx844_0,((HB.out.cell (World.block_lt_of_cell? w _ hw845_0)).trans hw845_0),((HB.out.cell (World.block_lt_of_cell? w _ hw845_1)).trans hw845_1),((HB.out.cell (World.block_lt_of_cell? w _ hw845_2)).trans hw845_2),((HB.out.cell (World.block_lt_of_cell? w _ hw845_3)).trans hw845_3),hx846_0,((HB.out.cell (World.block_lt_of_cell? w _ hw847_0)).trans hw847_0),((HB.out.cell (World.block_lt_of_cell? w _ hw847_1)).trans hw847_1),((HB.out.cell (World.block_lt_of_cell? w _ hw847_2)).trans hw847_2),((HB.out.cell (World.block_lt_of_cell? w _ hw847_3)).trans hw847_3)⟩ (fun hHeld=>?_);refine jqb jU.tab9 jU.bits9 (fun HT_ HW_=>?_)
               generalize wr.drew=w24 at HO_9 BK837 HB hx844_0 hx845_0 hx845_1 hx845_2 hx845_3 hx846_0 hx847_0 hx847_1 hx847_2 hx847_3 hHeld ⊢
               refine pq (i:=0) (N:=some 41) #[true,false,false,false,false,false,false,false,false,false,false,false,false,false,false,false,false,false,false,false,false,false] ?_
               refine pq (i:=1) (N:=some 42) #[true,true,false,false,false,false,false,false,false,false,false,false,false,false,false,false,false,false,false,false,false,false] ?_
               refine pq (i:=2) (N:=some 43) #[true,true,true,false,false,false,false,false,false,false,false,false,false,false,false,false,false,false,false,false,false,false] ?_
               refine pq (i:=3) (N:=some 44) #[true,true,true,true,false,false,false,false,false,false,false,false,false,false,false,false,false,false,false,false,false,false] ?_
               refine jwb (i:=4) (N:=some 45) (v:=?_) (a':=?_) #[true,true,true,true,true,false,false,false,false,false,false,false,false,false,false,false,false,false,false,false,false,false] rfl rfl (jua HT_.out HW_.out (by kernel_rfl)) (fun _ _ _ h=>h) (Or.inl ⟨by rfl,?_⟩) hHeld ?_ ?_
               rotate_left
               ·rintro w' ⟨s0,s1,s2,s3,s4,s5,s6,s7,s8,s9,s10⟩
                go_simp
                with_reducible rfl
               rotate_left
               ·exact sa
               refine pq (i:=5) (N:=some 46) #[true,true,true,true,true,true,false,false,false,false,false,false,false,false,false,false,false,false,false,false,false,false] ?_
               refine pq (i:=6) (N:=some 47) #[true,true,true,true,true,true,true,false,false,false,false,false,false,false,false,false,false,false,false,false,false,false] ?_
               refine jwb (i:=7) (N:=some 48) (v:=?_) (a':=?_) #[true,true,true,true,true,true,true,true,false,false,false,false,false,false,false,false,false,false,false,false,false,false] rfl rfl (jua HT_.out HW_.out (by kernel_rfl)) (fun _ _ _ h=>h) (Or.inl ⟨by rfl,?_⟩) hHeld ?_ ?_
               rotate_left
               ·rintro w' ⟨s0,s1,s2,s3,s4,s5,s6,s7,s8,s9,s10⟩
                go_simp
                with_reducible rfl
               rotate_left
               ·exact sa
               refine pq (i:=8) (N:=some 49) #[true,true,true,true,true,true,true,true,true,false,false,false,false,false,false,false,false,false,false,false,false,false] ?_
               refine pq (i:=9) (N:=some 50) #[true,true,true,true,true,true,true,true,true,true,false,false,false,false,false,false,false,false,false,false,false,false] ?_
               refine pq (i:=11) (N:=some 52) #[true,true,true,true,true,true,true,true,true,true,false,true,false,false,false,false,false,false,false,false,false,false] ?_
               refine pq (i:=12) (N:=some 53) #[true,true,true,true,true,true,true,true,true,true,false,true,true,false,false,false,false,false,false,false,false,false] ?_
               refine pq (i:=13) (N:=some 54) #[true,true,true,true,true,true,true,true,true,true,false,true,true,true,false,false,false,false,false,false,false,false] ?_
               refine pq (i:=14) (N:=some 55) #[true,true,true,true,true,true,true,true,true,true,false,true,true,true,true,false,false,false,false,false,false,false] ?_
               refine pq (i:=15) (N:=some 56) #[true,true,true,true,true,true,true,true,true,true,false,true,true,true,true,true,false,false,false,false,false,false] ?_
               refine jwb (i:=10) (N:=some 51) (v:=?_) (a':=?_) #[true,true,true,true,true,true,true,true,true,true,true,true,true,true,true,true,false,false,false,false,false,false] rfl rfl (jua HT_.out HW_.out (by kernel_rfl)) (fun _ _ _ h=>h) (Or.inl ⟨by rfl,?_⟩) hHeld ?_ ?_
               rotate_left
               ·rintro w' ⟨s0,s1,s2,s3,s4,s5,s6,s7,s8,s9,s10⟩
                go_simp
                with_reducible rfl
               rotate_left
               ·exact sa
               refine jwb (i:=16) (N:=some 57) (v:=?_) (a':=?_) #[true,true,true,true,true,true,true,true,true,true,true,true,true,true,true,true,true,false,false,false,false,false] rfl rfl (jua HT_.out HW_.out (by kernel_rfl)) (fun _ _ _ h=>h) (Or.inl ⟨by rfl,?_⟩) hHeld ?_ ?_
               rotate_left
               ·rintro w' ⟨s0,s1,s2,s3,s4,s5,s6,s7,s8,s9,s10⟩
                go_simp
                with_reducible rfl
               rotate_left
               ·exact sa
               refine pq (i:=17) (N:=some 58) #[true,true,true,true,true,true,true,true,true,true,true,true,true,true,true,true,true,true,false,false,false,false] ?_
               refine pq (i:=18) (N:=some 59) #[true,true,true,true,true,true,true,true,true,true,true,true,true,true,true,true,true,true,true,false,false,false] ?_
               refine jwb (i:=19) (N:=some 60) (v:=?_) (a':=?_) #[true,true,true,true,true,true,true,true,true,true,true,true,true,true,true,true,true,true,true,true,false,false] rfl rfl (jua HT_.out HW_.out (by kernel_rfl)) (fun _ _ _ h=>h) (Or.inl ⟨by rfl,?_⟩) hHeld ?_ ?_
               rotate_left
               ·rintro w' ⟨s0,s1,s2,s3,s4,s5,s6,s7,s8,s9,s10⟩
                go_simp
                with_reducible rfl
               rotate_left
               ·exact sa
               refine one_ (i:=20) (N:=some 61) #[true,true,true,true,true,true,true,true,true,true,true,true,true,true,true,true,true,true,true,true,true,false] rfl rfl (jyb HT_.out (by kernel_rfl)) (by decide) (fun K hK=>?_)
               refine jPc Try.func72 (by kernel_rfl) rfl #[.agg #[.slice A0_0 l0_0.length c0_0], .int .i64 a3, .int .i64 ((jc l1 (rd t841 x10_2)).f2)] (by rfl) rfl rfl (aq) ?_
               with_reducible refine (jUc.calls k2 _ _ l0_0 a3 ((jc l1 (rd t841 x10_2)).f2) true _ ?side1 ?side2 A21.out).mono ?_
               (case side1=>exact cq (Kd.jT HR0_0.out HB.out))
               (case side2=>exact HC0_0.out)
               rintro e w25 ⟨rfl,hb⟩
               have HS1_:=(hb.cell (World.block_lt_of_cell? _ _ (hHeld.2.1))).trans (hHeld.2.1)
               have HS6_:=(hb.cell (World.block_lt_of_cell? _ _ (hHeld.2.2.2.2.2.2.1))).trans (hHeld.2.2.2.2.2.2.1)
               refine ⟨_,rfl,?_⟩
               replace HO_9:=am (Kd.jZ (rq HO_9.out) hb)
               replace BK837:=am (jk (g:=gb837) (o:=.cells #[.slice A0_0 l0_0.length c0_0] 25 (0,0)) (kq BK837.out) hb)
               replace HB:=am (je (Y36) hb)
               (try clear hb)
               (try clear hb2)
               (try clear hk)
               (try clear hi)
               refine hK.out _ _ ⟨(jF BK837.out 0).trans rfl,HS1_,((HB.out.cell (World.block_lt_of_cell? w _ hw845_0)).trans hw845_0),((HB.out.cell (World.block_lt_of_cell? w _ hw845_1)).trans hw845_1),((HB.out.cell (World.block_lt_of_cell? w _ hw845_2)).trans hw845_2),((HB.out.cell (World.block_lt_of_cell? w _ hw845_3)).trans hw845_3),HS6_,((HB.out.cell (World.block_lt_of_cell? w _ hw847_0)).trans hw847_0),((HB.out.cell (World.block_lt_of_cell? w _ hw847_1)).trans hw847_1),((HB.out.cell (World.block_lt_of_cell? w _ hw847_2)).trans hw847_2),((HB.out.cell (World.block_lt_of_cell? w _ hw847_3)).trans hw847_3)⟩ (fun hHeld=>?_)
               clear hK K
               refine jWb (a':=?_) ?_ ?_
               rotate_left
               ·show Act.put _ (some 61) _=_
                simp only [Act.put,List.setIfInBounds_toArray,List.set_cons_zero,List.set_cons_succ,jkb,jmb]
                rfl
               refine pq (i:=21) (N:=some 62) #[true,true,true,true,true,true,true,true,true,true,true,true,true,true,true,true,true,true,true,true,true,true] ?_
               refine jQc (jPb HT_.out (by kernel_rfl)) ?_
               have p849:0≤(x10_2:Int):=ozD (uq)
               have q849:x10_2<(t841.length:Int):=ozD (uq)
               obtain ⟨ad849,e849,hx849_0⟩:=Kd.jtb (Kd.jy HO_9.out).2.2 x10_2 p849 q849
               obtain rfl:ad844=ad849:=(by injection e849)
               replace p849:=ezT p849
               replace q849:=ezT q849
               try go_wp2
               go_ret
               exact ⟨Y0,Y36⟩
              ·replace c22:=Bool.eq_false_iff.mpr c22
               subst c22
               have H1:(jU.l0 k2 l1 a3 t841 (wrap64 (x10_2+1)) l0_0)=some r:=by rw [if_neg (show ¬ (false=true) by decide)] at H;exact H
               clear H
               have H:=H1
               clear H1
               have H':=am H
               clear H
               obtain ⟨Ao26,co26,eo26⟩:=Kd.jka HO_9.out
               subst eo26
               try go_wp2
               replace HO_9:=am (Kd.jea HO_9.out)
               replace BK837:=am (jw BK837.out)
               replace HB:=am (jE HB.out)
               have p844:0≤(x10_2:Int):=ozD (uq)
               have q844:x10_2<(t841.length:Int):=ozD (uq)
               obtain ⟨ad844,e844,hx844_0⟩:=Kd.jtb (Kd.jy HO_9.out).2.2 x10_2 p844 q844
               cases e844
               replace p844:=ezT p844
               replace q844:=ezT q844
               have p845:0≤((rd t841 x10_2):Int):=ozD (uq)
               have q845:(rd t841 x10_2)<(l1.length:Int):=ozD (uq)
               obtain ⟨ad845,e845,hx845_0,hx845_1,hx845_2,hx845_3⟩:=jna HR1.out (rd t841 x10_2) p845 q845
               have hw845_3:=hx845_3
               have hw845_2:=hx845_2
               have hw845_1:=hx845_1
               have hw845_0:=hx845_0
               obtain rfl:ad840=ad845:=(by injection e845)
               replace hx845_0:=cb HB.out hx845_0
               replace hx845_1:=cb HB.out hx845_1
               replace hx845_2:=cb HB.out hx845_2
               replace hx845_3:=cb HB.out hx845_3
               replace p845:=ezT p845
               replace q845:=ezT q845
               have p846:0≤(x10_2:Int):=ozD (uq)
               have q846:x10_2<(t841.length:Int):=ozD (uq)
               obtain ⟨ad846,e846,hx846_0⟩:=Kd.jtb (Kd.jy HO_9.out).2.2 x10_2 p846 q846
               obtain rfl:ad844=ad846:=(by injection e846)
               replace p846:=ezT p846
               replace q846:=ezT q846
               have p847:0≤((rd t841 x10_2):Int):=ozD (uq)
               have q847:(rd t841 x10_2)<(l1.length:Int):=ozD (uq)
               obtain ⟨ad847,e847,hx847_0,hx847_1,hx847_2,hx847_3⟩:=jna HR1.out (rd t841 x10_2) p847 q847
               have hw847_3:=hx847_3
               have hw847_2:=hx847_2
               have hw847_1:=hx847_1
               have hw847_0:=hx847_0
               obtain rfl:ad840=ad847:=(by injection e847)
               replace hx847_0:=cb HB.out hx847_0
               replace hx847_1:=cb HB.out hx847_1
               replace hx847_2:=cb HB.out hx847_2
               replace hx847_3:=cb HB.out hx847_3
               replace p847:=ezT p847
               replace q847:=ezT q847
               refine jlc (n:=22) (S:=fun w'=>w'.cell? ⟨gb837,0,none⟩=some (.slice A0_0 l0_0.length c0_0)∧w'.cell? (ad844.add (x10_2).toNat)=some (.int .i64 (rd t841 x10_2))∧w'.cell? (ad840.add (((rd t841 x10_2)).toNat * 4))=some (.int .i64 ((jc l1 (rd t841 x10_2)).f0))∧w'.cell? ⟨(ad840.add (((rd t841 x10_2)).toNat * 4)).block,(ad840.add (((rd t841 x10_2)).toNat * 4)).off+1,none⟩=some (.int .i64 ((jc l1 (rd t841 x10_2)).f1))∧w'.cell? ⟨(ad840.add (((rd t841 x10_2)).toNat * 4)).block,(ad840.add (((rd t841 x10_2)).toNat * 4)).off+2,none⟩=some (.int .i64 ((jc l1 (rd t841 x10_2)).f2))∧w'.cell? ⟨(ad840.add (((rd t841 x10_2)).toNat * 4)).block,(ad840.add (((rd t841 x10_2)).toNat * 4)).off+3,none⟩=some (.int .i64 ((jc l1 (rd t841 x10_2)).f3))∧w'.cell? (ad844.add (x10_2).toNat)=some (.int .i64 (rd t841 x10_2))∧w'.cell? (ad840.add (((rd t841 x10_2)).toNat * 4))=some (.int .i64 ((jc l1 (rd t841 x10_2)).f0))∧w'.cell? ⟨(ad840.add (((rd t841 x10_2)).toNat * 4)).block,(ad840.add (((rd t841 x10_2)).toNat * 4)).off+1,none⟩=some (.int .i64 ((jc l1 (rd t841 x10_2)).f1))∧w'.cell? ⟨(ad840.add (((rd t841 x10_2)).toNat * 4)).block,(ad840.add (((rd t841 x10_2)).toNat * 4)).off+2,none⟩=some (.int .i64 ((jc l1 (rd t841 x10_2)).f2))∧w'.cell? ⟨(ad840.add (((rd t841 x10_2)).toNat * 4)).block,(ad840.add (((rd t841 x10_2)).toNat * 4)).off+3,none⟩=some (.int .i64 ((jc l1 (rd t841 x10_2)).f3))) (ds:=[]) #[false,false,false,false,false,false,false,false,false,false,false,false,false,false,false,false,false,false,false,false,false,false] (by kernel_rfl) rfl rfl ⟨(jF BK837.out 0).trans rfl,hx844_0,((HB.out.cell (World.block_lt_of_cell? w _ hw845_0)).trans hw845_0),((HB.out.cell (World.block_lt_of_cell? w _ hw845_1)).trans hw845_1),((HB.out.cell (World.block_lt_of_cell? w _ hw845_2)).trans hw845_2),((HB.out.cell (World.block_lt_of_cell? w _ hw845_3)).trans hw845_3),hx846_0,((HB.out.cell (World.block_lt_of_cell? w _ hw847_0)).trans hw847_0),((HB.out.cell (World.block_lt_of_cell? w _ hw847_1)).trans hw847_1),((HB.out.cell (World.block_lt_of_cell? w _ hw847_2)).trans hw847_2),((HB.out.cell (World.block_lt_of_cell? w _ hw847_3)).trans hw847_3)⟩ (fun hHeld=>?_);refine jqb jU.tab9 jU.bits9 (fun HT_ HW_=>?_)
               generalize wr.drew=w27 at HO_9 BK837 HB hx844_0 hx845_0 hx845_1 hx845_2 hx845_3 hx846_0 hx847_0 hx847_1 hx847_2 hx847_3 hHeld ⊢
               refine pq (i:=0) (N:=some 41) #[true,false,false,false,false,false,false,false,false,false,false,false,false,false,false,false,false,false,false,false,false,false] ?_
               refine pq (i:=1) (N:=some 42) #[true,true,false,false,false,false,false,false,false,false,false,false,false,false,false,false,false,false,false,false,false,false] ?_
               refine pq (i:=2) (N:=some 43) #[true,true,true,false,false,false,false,false,false,false,false,false,false,false,false,false,false,false,false,false,false,false] ?_
               refine pq (i:=3) (N:=some 44) #[true,true,true,true,false,false,false,false,false,false,false,false,false,false,false,false,false,false,false,false,false,false] ?_
               refine jwb (i:=4) (N:=some 45) (v:=?_) (a':=?_) #[true,true,true,true,true,false,false,false,false,false,false,false,false,false,false,false,false,false,false,false,false,false] rfl rfl (jua HT_.out HW_.out (by kernel_rfl)) (fun _ _ _ h=>h) (Or.inl ⟨by rfl,?_⟩) hHeld ?_ ?_
               rotate_left
               ·rintro w' ⟨s0,s1,s2,s3,s4,s5,s6,s7,s8,s9,s10⟩
                go_simp
                with_reducible rfl
               rotate_left
               ·exact sa
               refine pq (i:=5) (N:=some 46) #[true,true,true,true,true,true,false,false,false,false,false,false,false,false,false,false,false,false,false,false,false,false] ?_
               refine pq (i:=6) (N:=some 47) #[true,true,true,true,true,true,true,false,false,false,false,false,false,false,false,false,false,false,false,false,false,false] ?_
               refine jwb (i:=7) (N:=some 48) (v:=?_) (a':=?_) #[true,true,true,true,true,true,true,true,false,false,false,false,false,false,false,false,false,false,false,false,false,false] rfl rfl (jua HT_.out HW_.out (by kernel_rfl)) (fun _ _ _ h=>h) (Or.inl ⟨by rfl,?_⟩) hHeld ?_ ?_
               rotate_left
               ·rintro w' ⟨s0,s1,s2,s3,s4,s5,s6,s7,s8,s9,s10⟩
                go_simp
                with_reducible rfl
               rotate_left
               ·exact sa
               refine pq (i:=8) (N:=some 49) #[true,true,true,true,true,true,true,true,true,false,false,false,false,false,false,false,false,false,false,false,false,false] ?_
               refine pq (i:=9) (N:=some 50) #[true,true,true,true,true,true,true,true,true,true,false,false,false,false,false,false,false,false,false,false,false,false] ?_
               refine pq (i:=11) (N:=some 52) #[true,true,true,true,true,true,true,true,true,true,false,true,false,false,false,false,false,false,false,false,false,false] ?_
               refine pq (i:=12) (N:=some 53) #[true,true,true,true,true,true,true,true,true,true,false,true,true,false,false,false,false,false,false,false,false,false] ?_
               refine pq (i:=13) (N:=some 54) #[true,true,true,true,true,true,true,true,true,true,false,true,true,true,false,false,false,false,false,false,false,false] ?_
               refine pq (i:=14) (N:=some 55) #[true,true,true,true,true,true,true,true,true,true,false,true,true,true,true,false,false,false,false,false,false,false] ?_
               refine pq (i:=15) (N:=some 56) #[true,true,true,true,true,true,true,true,true,true,false,true,true,true,true,true,false,false,false,false,false,false] ?_
               refine jwb (i:=10) (N:=some 51) (v:=?_) (a':=?_) #[true,true,true,true,true,true,true,true,true,true,true,true,true,true,true,true,false,false,false,false,false,false] rfl rfl (jua HT_.out HW_.out (by kernel_rfl)) (fun _ _ _ h=>h) (Or.inl ⟨by rfl,?_⟩) hHeld ?_ ?_
               rotate_left
               ·rintro w' ⟨s0,s1,s2,s3,s4,s5,s6,s7,s8,s9,s10⟩
                go_simp
                with_reducible rfl
               rotate_left
               ·exact sa
               refine jwb (i:=16) (N:=some 57) (v:=?_) (a':=?_) #[true,true,true,true,true,true,true,true,true,true,true,true,true,true,true,true,true,false,false,false,false,false] rfl rfl (jua HT_.out HW_.out (by kernel_rfl)) (fun _ _ _ h=>h) (Or.inl ⟨by rfl,?_⟩) hHeld ?_ ?_
               rotate_left
               ·rintro w' ⟨s0,s1,s2,s3,s4,s5,s6,s7,s8,s9,s10⟩
                go_simp
                with_reducible rfl
               rotate_left
               ·exact sa
               refine pq (i:=17) (N:=some 58) #[true,true,true,true,true,true,true,true,true,true,true,true,true,true,true,true,true,true,false,false,false,false] ?_
               refine pq (i:=18) (N:=some 59) #[true,true,true,true,true,true,true,true,true,true,true,true,true,true,true,true,true,true,true,false,false,false] ?_
               refine jwb (i:=19) (N:=some 60) (v:=?_) (a':=?_) #[true,true,true,true,true,true,true,true,true,true,true,true,true,true,true,true,true,true,true,true,false,false] rfl rfl (jua HT_.out HW_.out (by kernel_rfl)) (fun _ _ _ h=>h) (Or.inl ⟨by rfl,?_⟩) hHeld ?_ ?_
               rotate_left
               ·rintro w' ⟨s0,s1,s2,s3,s4,s5,s6,s7,s8,s9,s10⟩
                go_simp
                with_reducible rfl
               rotate_left
               ·exact sa
               refine one_ (i:=20) (N:=some 61) #[true,true,true,true,true,true,true,true,true,true,true,true,true,true,true,true,true,true,true,true,true,false] rfl rfl (jyb HT_.out (by kernel_rfl)) (by decide) (fun K hK=>?_)
               refine jPc Try.func72 (by kernel_rfl) rfl #[.agg #[.slice A0_0 l0_0.length c0_0], .int .i64 a3, .int .i64 ((jc l1 (rd t841 x10_2)).f2)] (by rfl) rfl rfl (aq) ?_
               with_reducible refine (jUc.calls k2 _ _ l0_0 a3 ((jc l1 (rd t841 x10_2)).f2) false _ ?side1 ?side2 A21.out).mono ?_
               (case side1=>exact cq (Kd.jT HR0_0.out HB.out))
               (case side2=>exact HC0_0.out)
               rintro e w28 ⟨rfl,hb⟩
               have HS1_:=(hb.cell (World.block_lt_of_cell? _ _ (hHeld.2.1))).trans (hHeld.2.1)
               have HS6_:=(hb.cell (World.block_lt_of_cell? _ _ (hHeld.2.2.2.2.2.2.1))).trans (hHeld.2.2.2.2.2.2.1)
               refine ⟨_,rfl,?_⟩
               replace HO_9:=am (Kd.jZ (rq HO_9.out) hb)
               replace BK837:=am (jk (g:=gb837) (o:=.cells #[.slice A0_0 l0_0.length c0_0] 25 (0,0)) (kq BK837.out) hb)
               replace HB:=am (je (Y36) hb)
               (try clear hb)
               (try clear hb2)
               (try clear hk)
               (try clear hi)
               refine hK.out _ _ ⟨(jF BK837.out 0).trans rfl,HS1_,((HB.out.cell (World.block_lt_of_cell? w _ hw845_0)).trans hw845_0),((HB.out.cell (World.block_lt_of_cell? w _ hw845_1)).trans hw845_1),((HB.out.cell (World.block_lt_of_cell? w _ hw845_2)).trans hw845_2),((HB.out.cell (World.block_lt_of_cell? w _ hw845_3)).trans hw845_3),HS6_,((HB.out.cell (World.block_lt_of_cell? w _ hw847_0)).trans hw847_0),((HB.out.cell (World.block_lt_of_cell? w _ hw847_1)).trans hw847_1),((HB.out.cell (World.block_lt_of_cell? w _ hw847_2)).trans hw847_2),((HB.out.cell (World.block_lt_of_cell? w _ hw847_3)).trans hw847_3)⟩ (fun hHeld=>?_)
               clear hK K
               refine jWb (a':=?_) ?_ ?_
               rotate_left
               ·show Act.put _ (some 61) _=_
                simp only [Act.put,List.setIfInBounds_toArray,List.set_cons_zero,List.set_cons_succ,jkb,jmb]
                rfl
               refine pq (i:=21) (N:=some 62) #[true,true,true,true,true,true,true,true,true,true,true,true,true,true,true,true,true,true,true,true,true,true] ?_
               refine jQc (jPb HT_.out (by kernel_rfl)) ?_
               try go_wp2
               go_roundg k2
               case measure=>have:=HJ4.out;have:=HK2.out;omega
               case rel=>exact ⟨(wrap64 (x10_2+1)),(sq),H',⟨by have:=HJ4.out;have:=HK2.out;omega⟩,⟨rq HO_9.out⟩,⟨kq BK837.out⟩,⟨Y36⟩⟩
             ·rw [if_neg c20] at H
              have c20b0:(((jc l1 (rd t841 x10_2)).f1) == 8)=false:=beq_eq_false_iff_ne.mpr c20
              have c20b1:(((jc l1 (rd t841 x10_2)).f1) != 8)=true:=bne_iff_ne.mpr c20
              have H':=am H
              clear H
              obtain ⟨Ao29,co29,eo29⟩:=Kd.jka HO_9.out
              subst eo29
              try go_wp2
              replace HO_9:=am (Kd.jea HO_9.out)
              replace BK837:=am (jw BK837.out)
              replace HB:=am (jE HB.out)
              have p844:0≤(x10_2:Int):=ozD (uq)
              have q844:x10_2<(t841.length:Int):=ozD (uq)
              obtain ⟨ad844,e844,hx844_0⟩:=Kd.jtb (Kd.jy HO_9.out).2.2 x10_2 p844 q844
              cases e844
              replace p844:=ezT p844
              replace q844:=ezT q844
              have p845:0≤((rd t841 x10_2):Int):=ozD (uq)
              have q845:(rd t841 x10_2)<(l1.length:Int):=ozD (uq)
              obtain ⟨ad845,e845,hx845_0,hx845_1,hx845_2,hx845_3⟩:=jna HR1.out (rd t841 x10_2) p845 q845
              have hw845_3:=hx845_3
              have hw845_2:=hx845_2
              have hw845_1:=hx845_1
              have hw845_0:=hx845_0
              obtain rfl:ad840=ad845:=(by injection e845)
              replace hx845_0:=cb HB.out hx845_0
              replace hx845_1:=cb HB.out hx845_1
              replace hx845_2:=cb HB.out hx845_2
              replace hx845_3:=cb HB.out hx845_3
              replace p845:=ezT p845
              replace q845:=ezT q845
              refine jlc (n:=22) (S:=fun w'=>w'.cell? (ad844.add (x10_2).toNat)=some (.int .i64 (rd t841 x10_2))∧w'.cell? (ad840.add (((rd t841 x10_2)).toNat * 4))=some (.int .i64 ((jc l1 (rd t841 x10_2)).f0))∧w'.cell? ⟨(ad840.add (((rd t841 x10_2)).toNat * 4)).block,(ad840.add (((rd t841 x10_2)).toNat * 4)).off+1,none⟩=some (.int .i64 ((jc l1 (rd t841 x10_2)).f1))∧w'.cell? ⟨(ad840.add (((rd t841 x10_2)).toNat * 4)).block,(ad840.add (((rd t841 x10_2)).toNat * 4)).off+2,none⟩=some (.int .i64 ((jc l1 (rd t841 x10_2)).f2))∧w'.cell? ⟨(ad840.add (((rd t841 x10_2)).toNat * 4)).block,(ad840.add (((rd t841 x10_2)).toNat * 4)).off+3,none⟩=some (.int .i64 ((jc l1 (rd t841 x10_2)).f3))) (ds:=[]) #[false,false,false,false,false,false,false,false,false,false,false,false,false,false,false,false,false,false,false,false,false,false] (by kernel_rfl) rfl rfl ⟨hx844_0,((HB.out.cell (World.block_lt_of_cell? w _ hw845_0)).trans hw845_0),((HB.out.cell (World.block_lt_of_cell? w _ hw845_1)).trans hw845_1),((HB.out.cell (World.block_lt_of_cell? w _ hw845_2)).trans hw845_2),((HB.out.cell (World.block_lt_of_cell? w _ hw845_3)).trans hw845_3)⟩ (fun hHeld=>?_);refine jqb jU.tab9 jU.bits9 (fun HT_ HW_=>?_)
              generalize wr.drew=w30 at HO_9 BK837 HB hx844_0 hx845_0 hx845_1 hx845_2 hx845_3 hHeld ⊢
              refine pq (i:=0) (N:=some 41) #[true,false,false,false,false,false,false,false,false,false,false,false,false,false,false,false,false,false,false,false,false,false] ?_
              refine pq (i:=1) (N:=some 42) #[true,true,false,false,false,false,false,false,false,false,false,false,false,false,false,false,false,false,false,false,false,false] ?_
              refine pq (i:=2) (N:=some 43) #[true,true,true,false,false,false,false,false,false,false,false,false,false,false,false,false,false,false,false,false,false,false] ?_
              refine pq (i:=3) (N:=some 44) #[true,true,true,true,false,false,false,false,false,false,false,false,false,false,false,false,false,false,false,false,false,false] ?_
              refine jwb (i:=4) (N:=some 45) (v:=?_) (a':=?_) #[true,true,true,true,true,false,false,false,false,false,false,false,false,false,false,false,false,false,false,false,false,false] rfl rfl (jua HT_.out HW_.out (by kernel_rfl)) (fun _ _ _ h=>h) (Or.inl ⟨by rfl,?_⟩) hHeld ?_ ?_
              rotate_left
              ·rintro w' ⟨s0,s1,s2,s3,s4⟩
               go_simp
               with_reducible rfl
              rotate_left
              ·exact sa
              refine pq (i:=5) (N:=some 46) #[true,true,true,true,true,true,false,false,false,false,false,false,false,false,false,false,false,false,false,false,false,false] ?_
              refine pq (i:=6) (N:=some 47) #[true,true,true,true,true,true,true,false,false,false,false,false,false,false,false,false,false,false,false,false,false,false] ?_
              refine jwb (i:=7) (N:=some 48) (v:=?_) (a':=?_) #[true,true,true,true,true,true,true,true,false,false,false,false,false,false,false,false,false,false,false,false,false,false] rfl rfl (jua HT_.out HW_.out (by kernel_rfl)) (fun _ _ _ h=>h) (Or.inl ⟨by rfl,?_⟩) hHeld ?_ ?_
              rotate_left
              ·rintro w' ⟨s0,s1,s2,s3,s4⟩
               go_simp
               with_reducible rfl
              rotate_left
              ·exact sa
              refine pq (i:=8) (N:=some 49) #[true,true,true,true,true,true,true,true,true,false,false,false,false,false,false,false,false,false,false,false,false,false] ?_
              refine pq (i:=9) (N:=some 50) #[true,true,true,true,true,true,true,true,true,true,false,false,false,false,false,false,false,false,false,false,false,false] ?_
              refine jLb (i:=10) (N:=some 51) (v:=undef) (a':=?_) #[true,true,true,true,true,true,true,true,true,true,true,false,false,false,false,false,false,false,false,false,false,false] rfl rfl (jhb HT_.out (by kernel_rfl)) (fun _ _ _ h=>h) (Or.inr ⟨by rfl,rfl⟩) ?_ ?_
              rotate_left
              ·exact sa
              refine jLb (i:=11) (N:=some 52) (v:=undef) (a':=?_) #[true,true,true,true,true,true,true,true,true,true,true,true,false,false,false,false,false,false,false,false,false,false] rfl rfl (jhb HT_.out (by kernel_rfl)) (fun _ _ _ h=>h) (Or.inr ⟨by rfl,rfl⟩) ?_ ?_
              rotate_left
              ·exact sa
              refine jLb (i:=12) (N:=some 53) (v:=undef) (a':=?_) #[true,true,true,true,true,true,true,true,true,true,true,true,true,false,false,false,false,false,false,false,false,false] rfl rfl (jhb HT_.out (by kernel_rfl)) (fun _ _ _ h=>h) (Or.inr ⟨by rfl,rfl⟩) ?_ ?_
              rotate_left
              ·exact sa
              refine jLb (i:=13) (N:=some 54) (v:=undef) (a':=?_) #[true,true,true,true,true,true,true,true,true,true,true,true,true,true,false,false,false,false,false,false,false,false] rfl rfl (jhb HT_.out (by kernel_rfl)) (fun _ _ _ h=>h) (Or.inr ⟨by rfl,rfl⟩) ?_ ?_
              rotate_left
              ·exact sa
              refine jLb (i:=14) (N:=some 55) (v:=undef) (a':=?_) #[true,true,true,true,true,true,true,true,true,true,true,true,true,true,true,false,false,false,false,false,false,false] rfl rfl (jhb HT_.out (by kernel_rfl)) (fun _ _ _ h=>h) (Or.inr ⟨by rfl,rfl⟩) ?_ ?_
              rotate_left
              ·exact sa
              refine jLb (i:=15) (N:=some 56) (v:=undef) (a':=?_) #[true,true,true,true,true,true,true,true,true,true,true,true,true,true,true,true,false,false,false,false,false,false] rfl rfl (jhb HT_.out (by kernel_rfl)) (fun _ _ _ h=>h) (Or.inr ⟨by rfl,rfl⟩) ?_ ?_
              rotate_left
              ·exact sa
              refine jLb (i:=16) (N:=some 57) (v:=undef) (a':=?_) #[true,true,true,true,true,true,true,true,true,true,true,true,true,true,true,true,true,false,false,false,false,false] rfl rfl (jhb HT_.out (by kernel_rfl)) (fun _ _ _ h=>h) (Or.inr ⟨by rfl,rfl⟩) ?_ ?_
              rotate_left
              ·exact sa
              refine jLb (i:=17) (N:=some 58) (v:=undef) (a':=?_) #[true,true,true,true,true,true,true,true,true,true,true,true,true,true,true,true,true,true,false,false,false,false] rfl rfl (jhb HT_.out (by kernel_rfl)) (fun _ _ _ h=>h) (Or.inr ⟨by rfl,rfl⟩) ?_ ?_
              rotate_left
              ·exact sa
              refine jLb (i:=18) (N:=some 59) (v:=undef) (a':=?_) #[true,true,true,true,true,true,true,true,true,true,true,true,true,true,true,true,true,true,true,false,false,false] rfl rfl (jhb HT_.out (by kernel_rfl)) (fun _ _ _ h=>h) (Or.inr ⟨by rfl,rfl⟩) ?_ ?_
              rotate_left
              ·exact sa
              refine jLb (i:=19) (N:=some 60) (v:=undef) (a':=?_) #[true,true,true,true,true,true,true,true,true,true,true,true,true,true,true,true,true,true,true,true,false,false] rfl rfl (jhb HT_.out (by kernel_rfl)) (fun _ _ _ h=>h) (Or.inr ⟨by rfl,rfl⟩) ?_ ?_
              rotate_left
              ·exact sa
              refine jLb (i:=20) (N:=some 61) (v:=undef) (a':=?_) #[true,true,true,true,true,true,true,true,true,true,true,true,true,true,true,true,true,true,true,true,true,false] rfl rfl (jhb HT_.out (by kernel_rfl)) (fun _ _ _ h=>h) (Or.inr ⟨by rfl,rfl⟩) ?_ ?_
              rotate_left
              ·exact sa
              refine pq (i:=21) (N:=some 62) #[true,true,true,true,true,true,true,true,true,true,true,true,true,true,true,true,true,true,true,true,true,true] ?_
              refine jQc (jPb HT_.out (by kernel_rfl)) ?_
              try go_wp2
              go_roundg k2
              case measure=>have:=HJ4.out;have:=HK2.out;omega
              case rel=>exact ⟨(wrap64 (x10_2+1)),(sq),H',⟨by have:=HJ4.out;have:=HK2.out;omega⟩,⟨rq HO_9.out⟩,⟨kq BK837.out⟩,⟨Y36⟩⟩
            ·rw [if_neg c19] at H
             exact absurd H (by simp)
           ·rw [if_neg c18] at H
            exact absurd H (by simp)
          ·rw [if_neg c17] at H
           exact absurd H (by simp)
         ·rw [if_neg c16] at H
          have c16b0:decide (x10_2<(t841.length:Int))=false:=dzF c16
          clear c16
          obtain rfl:=Option.some.inj H
          obtain ⟨Ao31,co31,eo31⟩:=Kd.jka HO_9.out
          subst eo31
          go_wp2
          go_ret
          exact ⟨Y0,Y36⟩
      ·rw [if_neg c13] at H
       have c13b0:(((jc l1 a2).f1) == 7)=false:=beq_eq_false_iff_ne.mpr c13
       have c13b1:(((jc l1 a2).f1) != 7)=true:=bne_iff_ne.mpr c13
       obtain rfl:=Option.some.inj H
       have p840:0≤(a2:Int):=ozD (uq)
       have q840:a2<(l1.length:Int):=ozD (uq)
       obtain ⟨ad840,e840,hx840_0,hx840_1,hx840_2,hx840_3⟩:=jna HR1.out a2 p840 q840
       cases e840
       replace hx840_0:=cb HB.out hx840_0
       replace hx840_1:=cb HB.out hx840_1
       replace hx840_2:=cb HB.out hx840_2
       replace hx840_3:=cb HB.out hx840_3
       replace p840:=ezT p840
       replace q840:=ezT q840
       go_wp2
       go_ret
       exact ⟨Y0,Y36⟩
     ·rw [if_neg c12] at H
      exact absurd H (by simp)
    ·rw [if_neg c11] at H
     exact absurd H (by simp)
end Go.Proofs.Ytkedkinojeoeaaa.P
end
