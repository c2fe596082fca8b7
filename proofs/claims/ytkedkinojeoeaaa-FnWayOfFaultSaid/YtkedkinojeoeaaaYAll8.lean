/- One part of the proofs on this program: functions of the program as plain functions, that the code comes to them, and facts on them. -/
import Derived.Test.YtkedkinojeoeaaaYAll1
import Derived.Test.YtkedkinojeoeaaaYAll4
import Derived.Test.YtkedkinojeoeaaaYAll5
import Derived.Test.YtkedkinojeoeaaaYAll6
import Derived.Test.YtkedkinojeoeaaaYAll7
import Derived.Test.YtkedkinojeoeaaaYWAuto
section
namespace Go.Proofs.Ytkedkinojeoeaaa.P
open Go.RowKit Go.Proofs.YtkedkinojeoeaaaW.PrintWords Go.Proofs.YtkedkinojeoeaaaW.PrintLast Go.Proofs.YtkedkinojeoeaaaW.PrintMore
attribute [local go_sem] joa jma jya jxa jZ jY jna jla ji
set_option linter.unusedVariables false
set_option linter.unusedSimpArgs false
mutual
def jS.l0 : Nat → List (S36) → Int → List Int → Int → Int → List (S75) → Option (Int × Int)
 | 0,_,_,_,_,_,_=>none
 | k+1,x1,x3,x16,x17,x18,x802000=>if x18<x17 then (if 0≤x18 then (if x18<(x16.length:Int) then (if 0≤(rd x16 x18) then (if (rd x16 x18)<(x1.length:Int) then (if ((jc x1 (rd x16 x18)).f1)=11 then (if ((jc x1 (rd x16 x18)).f3)=1 then (some (rd x16 x18,rd x16 x18)) else (jS.l0 k x1 x3 x16 x17 (wrap64 (x18+1)) x802000)) else (if ((jc x1 (rd x16 x18)).f1)=7 then ((jfa.f k x1 (rd x16 x18)).bind fun t808=>(jS.l1 k x1 x3 (rd x16 x18) x16 x17 x18 t808 (t808.length:Int) 0 x802000)) else (jS.l0 k x1 x3 x16 x17 (wrap64 (x18+1)) x802000))) else (none)) else (none)) else (none)) else (none)) else (some ((-1),(-1)))
def jS.l1 : Nat → List (S36) → Int → Int → List Int → Int → Int → List Int → Int → Int → List (S75) → Option (Int × Int)
 | 0,_,_,_,_,_,_,_,_,_,_=>none
 | k+1,x1,x3,x11,x16,x17,x18,x41,x42,x43,x802000=>if x43<x42 then (if 0≤x43 then (if x43<(x41.length:Int) then (if 0≤(rd x41 x43) then (if (rd x41 x43)<(x1.length:Int) then (if ((jc x1 (rd x41 x43)).f1)=8 then ((jpc.f k x802000 x3 ((jc x1 (rd x41 x43)).f2)).bind fun t814=>(if t814=true then (some (x11,rd x41 x43)) else (jS.l1 k x1 x3 x11 x16 x17 x18 x41 x42 (wrap64 (x43+1)) x802000))) else (jS.l1 k x1 x3 x11 x16 x17 x18 x41 x42 (wrap64 (x43+1)) x802000)) else (none)) else (none)) else (none)) else (none)) else (jS.l0 k x1 x3 x16 x17 (wrap64 (x18+1)) x802000)
end
def jS.f (k : Nat) (l0_0 : List (S75)) (l1 : List (S36)) (a2 : Int) (a3 : Int) : Option (Int × Int) := (jja.f k l1 a2).bind fun t802 => (jS.l0 k l1 a3 t802 (t802.length : Int) 0 l0_0)
def jS.T12 : Bool × List (List Nat × List Nat) := (true, [([], []), ([], []), ([0, 1], [0, 1]), ([2], [2]), ([3], [3]), ([4], [4]), ([5], [5]), ([6], [6]), ([6], [6]), ([6], [6]), ([6], [6]), ([9, 10, 6], [6, 9, 10]), ([11, 6], [6, 11]), ([12, 6], [6, 12]), ([7, 8, 13, 6, 6], [6, 7, 8, 13]), ([6, 14], [6, 14])])
def jS.B12 : List Nat := [0, 0, 3, 7, 15, 31, 63, 127, 127, 127, 127, 1663, 3711, 7807, 16383, 32767]
theorem jS.tab12 : rtab .any (opsOf Try.f49 12) = jS.T12 := by kernel_rfl
theorem jS.bits12 : jzc jS.T12.2 jS.B12 = true := by kernel_rfl
set_option maxHeartbeats 8000000 in
set_option maxRecDepth 100000 in
theorem jS.calls (k : Nat) (A0_0 : Option Addr) (c0_0 : Nat) (l0_0 : List (S75)) (A1 : Option Addr) (c1 : Nat) (l1 : List (S36)) (a2 : Int) (a3 : Int) (r1 : Int) (r2 : Int) (w : World) (hr0_0 : Kd.C k75 w A0_0 l0_0.length l0_0) (hc0_0 : l0_0.length ≤ c0_0) (hr1 : Kd.C k36 w A1 l1.length l1) (hc1 : l1.length ≤ c1) (h : jS.f k l0_0 l1 a2 a3 = some (r1, r2)) :
  Calls Try.prog 49 #[.agg #[.slice A0_0 l0_0.length c0_0], .slice A1 l1.length c1, .int .i64 a2, .int .i64 a3] w fun e w'=>e=.returned (.tuple #[.int .i64 r1, .int .i64 r2])∧Below w.heap.size w w':=by
 have hu25:=Try.underlying25
 have HR0_0:=am hr0_0
 have HC0_0:=am hc0_0
 clear hr0_0 hc0_0
 have HR1:=am hr1
 have HC1:=am hc1
 clear hr1 hc1
 have HB:=am (Below.refl w.heap.size w)
 have H:((jja.f k l1 a2).bind fun t802=>(jS.l0 k l1 a3 t802 (t802.length:Int) 0 l0_0))=some (r1,r2):=h
 clear h
 replace H:=bzS H
 obtain ⟨t802,A50,H⟩:=H
 replace H:(jS.l0 k l1 a3 t802 (t802.length:Int) 0 l0_0)=some (r1,r2):=H
 have A5:=am A50
 clear A50
 have H':=am H
 clear H
 go_enter Try.func49,Try.ntmps49
 go_wp2_with (first |((with_reducible refine jJ (N:=4) rfl ?_);refine bE (N:=4) (cs:=#[.slice A0_0 l0_0.length c0_0]) (t:=25) ?_;intro gb801 hg w6 hbox hb;have BK801:=am (hbox);have GW801:=am ((Y3:w.heap.size≤gb801));have GE801:=am ((Y3:w.heap.size≤gb801));replace HB:=am (je (bq) hb);clear hb hbox hg) |((with_reducible refine jd (f:=41) rfl ?_);refine gL (some 16) Try.func41 #[.slice A1 l1.length c1, .int .i64 a2] ?_;(with_reducible refine (jja.calls k _ _ l1 a2 t802 _ ?side1 ?side2 A5.out).mono ?_);(case side1=>exact cq (Kd.jN HR1.out HB.out));(case side2=>exact HC1.out);rintro e w7 ⟨v803,rfl,ho0,hb⟩;refine ⟨_,rfl,?_⟩;have HO804:=am (Kd.jV ho0 (jT (Y32)));replace BK801:=am (jk (g:=gb801) (o:=.cells #[.slice A0_0 l0_0.length c0_0] 25 (0,0)) (kq BK801.out) hb);replace HB:=am (je (Y32) hb);(try clear hb);(try clear hb2);(try clear hk);(try clear hi);(try clear ho0);obtain ⟨Ao8,co8,eo8⟩:=Kd.jca HO804.out;subst eo8))
 go_loopg [18] k (fun kq v18 w'=>∃ (x18_1:Int),v18=.int .i64 x18_1∧jl (jS.l0 kq l1 a3 t802 (t802.length:Int) x18_1 l0_0=some (r1,r2))∧jl (kq≤k)∧jl (Kd.R (Kd.int .i64) 3 w' w.heap.size (fun _=>True) (.slice Ao8 t802.length co8) t802)∧jl (w'.heap[gb801]?=some (.cells #[(.slice A0_0 l0_0.length c0_0)] 25 (0,0)))∧jl (Below w.heap.size w w'))
 case atStart=>exact ⟨(0),(sq),H',⟨Nat.le_refl _⟩,⟨rq HO804.out⟩,⟨kq BK801.out⟩,⟨Y32⟩⟩
 case round =>
  clear H'
  try clear c1
  try clear p2
  try clear c4
  obtain ⟨x18_1,rfl,HA,HK1,HO_16,BK801,HB⟩:=hrel
  cases gk with
  | zero=>exact absurd HA.out (by simp [jS.l0])
  | succ k1 =>
   have H:=HA.out
   clear HA
   simp only [jS.l0] at H
   by_cases c9:x18_1<(t802.length:Int)
   ·rw [if_pos c9] at H
    have c9b0:decide (x18_1<(t802.length:Int))=true:=dzT c9
    clear c9
    by_cases c10:0≤x18_1
    ·rw [if_pos c10] at H
     have c10b0:decide (0≤x18_1)=true:=dzT c10
     clear c10
     by_cases c11:x18_1<(t802.length:Int)
     ·rw [if_pos c11] at H
      have c11b0:decide (x18_1<(t802.length:Int))=true:=dzT c11
      clear c11
      by_cases c12:0≤(rd t802 x18_1)
      ·rw [if_pos c12] at H
       have c12b0:decide (0≤(rd t802 x18_1))=true:=dzT c12
       clear c12
       by_cases c13:(rd t802 x18_1)<(l1.length:Int)
       ·rw [if_pos c13] at H
        have c13b0:decide ((rd t802 x18_1)<(l1.length:Int))=true:=dzT c13
        clear c13
        by_cases c14:((jc l1 (rd t802 x18_1)).f1)=11
        ·rw [if_pos c14] at H
         have c14b0:(((jc l1 (rd t802 x18_1)).f1) == 11)=true:=beq_iff_eq.mpr c14
         have c14b1:(((jc l1 (rd t802 x18_1)).f1) != 11)=false:=bne_eq_false_iff_eq.mpr c14
         clear c14
         by_cases c15:((jc l1 (rd t802 x18_1)).f3)=1
         ·rw [if_pos c15] at H
          have c15b0:(((jc l1 (rd t802 x18_1)).f3) == 1)=true:=beq_iff_eq.mpr c15
          have c15b1:(((jc l1 (rd t802 x18_1)).f3) != 1)=false:=bne_eq_false_iff_eq.mpr c15
          clear c15
          simp only [Option.some.injEq,Prod.mk.injEq] at H
          obtain ⟨rfl,rfl⟩:=H
          have p805:0≤(x18_1:Int):=ozD (uq)
          have q805:x18_1<(t802.length:Int):=ozD (uq)
          obtain ⟨ad805,e805,hx805_0⟩:=Kd.jhb (Kd.jq HO_16.out).2.2 x18_1 p805 q805
          cases e805
          replace p805:=ezT p805
          replace q805:=ezT q805
          have p806:0≤((rd t802 x18_1):Int):=ozD (uq)
          have q806:(rd t802 x18_1)<(l1.length:Int):=ozD (uq)
          obtain ⟨ad806,e806,hx806_0,hx806_1,hx806_2,hx806_3⟩:=jpa HR1.out (rd t802 x18_1) p806 q806
          cases e806
          replace hx806_0:=cb HB.out hx806_0
          replace hx806_1:=cb HB.out hx806_1
          replace hx806_2:=cb HB.out hx806_2
          replace hx806_3:=cb HB.out hx806_3
          replace p806:=ezT p806
          replace q806:=ezT q806
          have p807:0≤((rd t802 x18_1):Int):=ozD (uq)
          have q807:(rd t802 x18_1)<(l1.length:Int):=ozD (uq)
          obtain ⟨ad807,e807,hx807_0,hx807_1,hx807_2,hx807_3⟩:=jpa HR1.out (rd t802 x18_1) p807 q807
          obtain rfl:ad806=ad807:=(by injection e807)
          replace hx807_0:=cb HB.out hx807_0
          replace hx807_1:=cb HB.out hx807_1
          replace hx807_2:=cb HB.out hx807_2
          replace hx807_3:=cb HB.out hx807_3
          replace p807:=ezT p807
          replace q807:=ezT q807
          go_wp2
          go_ret2
          exact ⟨Y0,Y32⟩
         ·rw [if_neg c15] at H
          have c15b0:(((jc l1 (rd t802 x18_1)).f3) == 1)=false:=beq_eq_false_iff_ne.mpr c15
          have c15b1:(((jc l1 (rd t802 x18_1)).f3) != 1)=true:=bne_iff_ne.mpr c15
          have H':=am H
          clear H
          have p805:0≤(x18_1:Int):=ozD (uq)
          have q805:x18_1<(t802.length:Int):=ozD (uq)
          obtain ⟨ad805,e805,hx805_0⟩:=Kd.jhb (Kd.jq HO_16.out).2.2 x18_1 p805 q805
          cases e805
          replace p805:=ezT p805
          replace q805:=ezT q805
          have p806:0≤((rd t802 x18_1):Int):=ozD (uq)
          have q806:(rd t802 x18_1)<(l1.length:Int):=ozD (uq)
          obtain ⟨ad806,e806,hx806_0,hx806_1,hx806_2,hx806_3⟩:=jpa HR1.out (rd t802 x18_1) p806 q806
          cases e806
          replace hx806_0:=cb HB.out hx806_0
          replace hx806_1:=cb HB.out hx806_1
          replace hx806_2:=cb HB.out hx806_2
          replace hx806_3:=cb HB.out hx806_3
          replace p806:=ezT p806
          replace q806:=ezT q806
          have p807:0≤((rd t802 x18_1):Int):=ozD (uq)
          have q807:(rd t802 x18_1)<(l1.length:Int):=ozD (uq)
          obtain ⟨ad807,e807,hx807_0,hx807_1,hx807_2,hx807_3⟩:=jpa HR1.out (rd t802 x18_1) p807 q807
          obtain rfl:ad806=ad807:=(by injection e807)
          replace hx807_0:=cb HB.out hx807_0
          replace hx807_1:=cb HB.out hx807_1
          replace hx807_2:=cb HB.out hx807_2
          replace hx807_3:=cb HB.out hx807_3
          replace p807:=ezT p807
          replace q807:=ezT q807
          go_wp2
          go_roundg k1
          case measure=>have:=HK1.out;omega
          case rel=>exact ⟨(wrap64 (x18_1+1)),(sq),H',⟨by have:=HK1.out;omega⟩,⟨rq HO_16.out⟩,⟨kq BK801.out⟩,⟨Y32⟩⟩
        ·rw [if_neg c14] at H
         have c14b0:(((jc l1 (rd t802 x18_1)).f1) == 11)=false:=beq_eq_false_iff_ne.mpr c14
         have c14b1:(((jc l1 (rd t802 x18_1)).f1) != 11)=true:=bne_iff_ne.mpr c14
         by_cases c16:((jc l1 (rd t802 x18_1)).f1)=7
         ·rw [if_pos c16] at H
          have c16b0:(((jc l1 (rd t802 x18_1)).f1) == 7)=true:=beq_iff_eq.mpr c16
          have c16b1:(((jc l1 (rd t802 x18_1)).f1) != 7)=false:=bne_eq_false_iff_eq.mpr c16
          clear c16
          replace H:=bzS H
          obtain ⟨t808,A170,H⟩:=H
          replace H:(jS.l1 k1 l1 a3 (rd t802 x18_1) t802 (t802.length:Int) x18_1 t808 (t808.length:Int) 0 l0_0)=some (r1,r2):=H
          have A17:=am A170
          clear A170
          have H':=am H
          clear H
          have p805:0≤(x18_1:Int):=ozD (uq)
          have q805:x18_1<(t802.length:Int):=ozD (uq)
          obtain ⟨ad805,e805,hx805_0⟩:=Kd.jhb (Kd.jq HO_16.out).2.2 x18_1 p805 q805
          cases e805
          replace p805:=ezT p805
          replace q805:=ezT q805
          have p806:0≤((rd t802 x18_1):Int):=ozD (uq)
          have q806:(rd t802 x18_1)<(l1.length:Int):=ozD (uq)
          obtain ⟨ad806,e806,hx806_0,hx806_1,hx806_2,hx806_3⟩:=jpa HR1.out (rd t802 x18_1) p806 q806
          cases e806
          replace hx806_0:=cb HB.out hx806_0
          replace hx806_1:=cb HB.out hx806_1
          replace hx806_2:=cb HB.out hx806_2
          replace hx806_3:=cb HB.out hx806_3
          replace p806:=ezT p806
          replace q806:=ezT q806
          go_wp2_with (first |((with_reducible refine jd (f:=67) rfl ?_);refine gL (some 41) Try.func67 #[.slice (some ad806) l1.length c1, .int .i64 (rd t802 x18_1)] ?_;(with_reducible refine (jfa.calls k1 _ _ l1 (rd t802 x18_1) t808 _ ?side1 ?side2 A17.out).mono ?_);(case side1=>exact cq (Kd.jN HR1.out HB.out));(case side2=>exact HC1.out);rintro e w18 ⟨v809,rfl,ho0,hb⟩;refine ⟨_,rfl,?_⟩;have HO810:=am (Kd.jV (Kd.jUb ho0 (Kd.R_lt (rq HO_16.out))) (jT (Y32)));replace HO_16:=am (Kd.jMb (rq HO_16.out) (Kd.jVb ho0) hb);replace BK801:=am (jk (g:=gb801) (o:=.cells #[.slice A0_0 l0_0.length c0_0] 25 (0,0)) (kq BK801.out) hb);replace HB:=am (je (Y32) hb);(try clear hb);(try clear hb2);(try clear hk);(try clear hi);(try clear ho0);obtain ⟨Ao19,co19,eo19⟩:=Kd.jca HO810.out;subst eo19))
          go_loopg [43] k1 (fun kq v43 w'=>∃ (x43_2:Int),v43=.int .i64 x43_2∧jl (jS.l1 kq l1 a3 (rd t802 x18_1) t802 (t802.length:Int) x18_1 t808 (t808.length:Int) x43_2 l0_0=some (r1,r2))∧jl (kq≤k1)∧jl (Kd.R (Kd.int .i64) 3 w' w.heap.size (fun k_=>some k_≠((.slice Ao19 t808.length co19):Value).ownBlock) (.slice (some ad805) t802.length co8) t802)∧jl (Kd.R (Kd.int .i64) 3 w' w.heap.size (fun k_=>some k_≠((.slice (some ad805) t802.length co8):Value).ownBlock) (.slice Ao19 t808.length co19) t808)∧jl (w'.heap[gb801]?=some (.cells #[(.slice A0_0 l0_0.length c0_0)] 25 (0,0)))∧jl (Below w.heap.size w w'))
          case atStart=>exact ⟨(0),(sq),H',⟨Nat.le_refl _⟩,⟨by (with_reducible repeat (first | apply Kd.jX | apply Kd.jW | apply Kd.jia));exact Kd.jD HO_16.out (fun _ hk=>hk.2)⟩,⟨by (with_reducible repeat (first | apply Kd.jX | apply Kd.jW | apply Kd.jia));exact Kd.jD HO810.out (fun _ hk=>hk.2)⟩,⟨kq BK801.out⟩,⟨Y32⟩⟩
          case round =>
           clear H'
           try clear c1
           try clear p2
           try clear c4
           try clear c6
           try clear p6
           try clear p8
           try clear q8
           try clear hx8
           try clear c9
           try clear c9b0
           try clear c10
           try clear c10b0
           try clear c11
           try clear c11b0
           try clear c12
           try clear c12b0
           try clear c13
           try clear c13b0
           try clear c14
           try clear c14b0
           try clear c14b1
           try clear c15
           try clear c15b0
           try clear c15b1
           try clear c16
           try clear c16b0
           try clear c16b1
           try clear hx805_0
           try clear hx806_0
           try clear hx806_1
           try clear hx806_2
           try clear hx806_3
           try clear hx807_0
           try clear hx807_1
           try clear hx807_2
           try clear hx807_3
           try clear p2
           try clear p805
           try clear p806
           try clear p807
           try clear q805
           try clear q806
           try clear q807
           obtain ⟨x43_2,rfl,HA,HK2,HO_16,HO_41,BK801,HB⟩:=hrel
           cases gk with
           | zero=>exact absurd HA.out (by simp [jS.l1])
           | succ k2 =>
            have H:=HA.out
            clear HA
            simp only [jS.l1] at H
            by_cases c20:x43_2<(t808.length:Int)
            ·rw [if_pos c20] at H
             have c20b0:decide (x43_2<(t808.length:Int))=true:=dzT c20
             clear c20
             by_cases c21:0≤x43_2
             ·rw [if_pos c21] at H
              have c21b0:decide (0≤x43_2)=true:=dzT c21
              clear c21
              by_cases c22:x43_2<(t808.length:Int)
              ·rw [if_pos c22] at H
               have c22b0:decide (x43_2<(t808.length:Int))=true:=dzT c22
               clear c22
               by_cases c23:0≤(rd t808 x43_2)
               ·rw [if_pos c23] at H
                have c23b0:decide (0≤(rd t808 x43_2))=true:=dzT c23
                clear c23
                by_cases c24:(rd t808 x43_2)<(l1.length:Int)
                ·rw [if_pos c24] at H
                 have c24b0:decide ((rd t808 x43_2)<(l1.length:Int))=true:=dzT c24
                 clear c24
                 by_cases c25:((jc l1 (rd t808 x43_2)).f1)=8
                 ·rw [if_pos c25] at H
                  have c25b0:(((jc l1 (rd t808 x43_2)).f1) == 8)=true:=beq_iff_eq.mpr c25
                  have c25b1:(((jc l1 (rd t808 x43_2)).f1) != 8)=false:=bne_eq_false_iff_eq.mpr c25
                  clear c25
                  replace H:=bzS H
                  obtain ⟨t814,A260,H⟩:=H
                  replace H:(if t814=true then (some ((rd t802 x18_1),rd t808 x43_2)) else (jS.l1 k2 l1 a3 (rd t802 x18_1) t802 (t802.length:Int) x18_1 t808 (t808.length:Int) (wrap64 (x43_2+1)) l0_0))=some (r1,r2):=H
                  have A26:=am A260
                  clear A260
                  by_cases c27:t814=true
                  ·subst c27
                   have H1:(some ((rd t802 x18_1),rd t808 x43_2))=some (r1,r2):=by rw [if_pos rfl] at H;exact H
                   clear H
                   have H:=H1
                   clear H1
                   simp only [Option.some.injEq,Prod.mk.injEq] at H
                   obtain ⟨rfl,rfl⟩:=H
                   have p811:0≤(x43_2:Int):=ozD (uq)
                   have q811:x43_2<(t808.length:Int):=ozD (uq)
                   obtain ⟨ad811,e811,hx811_0⟩:=Kd.jhb (Kd.jq HO_41.out).2.2 x43_2 p811 q811
                   cases e811
                   replace p811:=ezT p811
                   replace q811:=ezT q811
                   try go_wp2
                   replace HO_16:=am (Kd.jia HO_16.out)
                   replace HO_41:=am (Kd.jia HO_41.out)
                   replace BK801:=am (jA BK801.out)
                   replace HB:=am (jF HB.out)
                   have p812:0≤((rd t808 x43_2):Int):=ozD (uq)
                   have q812:(rd t808 x43_2)<(l1.length:Int):=ozD (uq)
                   obtain ⟨ad812,e812,hx812_0,hx812_1,hx812_2,hx812_3⟩:=jpa HR1.out (rd t808 x43_2) p812 q812
                   have hw812_3:=hx812_3
                   have hw812_2:=hx812_2
                   have hw812_1:=hx812_1
                   have hw812_0:=hx812_0
                   obtain rfl:ad806=ad812:=(by injection e812)
                   replace hx812_0:=cb HB.out hx812_0
                   replace hx812_1:=cb HB.out hx812_1
                   replace hx812_2:=cb HB.out hx812_2
                   replace hx812_3:=cb HB.out hx812_3
                   replace p812:=ezT p812
                   replace q812:=ezT q812
                   have p813:0≤((rd t808 x43_2):Int):=ozD (uq)
                   have q813:(rd t808 x43_2)<(l1.length:Int):=ozD (uq)
                   obtain ⟨ad813,e813,hx813_0,hx813_1,hx813_2,hx813_3⟩:=jpa HR1.out (rd t808 x43_2) p813 q813
                   have hw813_3:=hx813_3
                   have hw813_2:=hx813_2
                   have hw813_1:=hx813_1
                   have hw813_0:=hx813_0
                   obtain rfl:ad806=ad813:=(by injection e813)
                   replace hx813_0:=cb HB.out hx813_0
                   replace hx813_1:=cb HB.out hx813_1
                   replace hx813_2:=cb HB.out hx813_2
                   replace hx813_3:=cb HB.out hx813_3
                   replace p813:=ezT p813
                   replace q813:=ezT q813
                   refine jHc (n:=16) (S:=fun w'=>w'.cell? ⟨gb801,0,none⟩=some (.slice A0_0 l0_0.length c0_0)∧w'.cell? (ad806.add (((rd t808 x43_2)).toNat * 4))=some (.int .i64 ((jc l1 (rd t808 x43_2)).f0))∧w'.cell? ⟨(ad806.add (((rd t808 x43_2)).toNat * 4)).block,(ad806.add (((rd t808 x43_2)).toNat * 4)).off+1,none⟩=some (.int .i64 ((jc l1 (rd t808 x43_2)).f1))∧w'.cell? ⟨(ad806.add (((rd t808 x43_2)).toNat * 4)).block,(ad806.add (((rd t808 x43_2)).toNat * 4)).off+2,none⟩=some (.int .i64 ((jc l1 (rd t808 x43_2)).f2))∧w'.cell? ⟨(ad806.add (((rd t808 x43_2)).toNat * 4)).block,(ad806.add (((rd t808 x43_2)).toNat * 4)).off+3,none⟩=some (.int .i64 ((jc l1 (rd t808 x43_2)).f3))∧w'.cell? (ad806.add (((rd t808 x43_2)).toNat * 4))=some (.int .i64 ((jc l1 (rd t808 x43_2)).f0))∧w'.cell? ⟨(ad806.add (((rd t808 x43_2)).toNat * 4)).block,(ad806.add (((rd t808 x43_2)).toNat * 4)).off+1,none⟩=some (.int .i64 ((jc l1 (rd t808 x43_2)).f1))∧w'.cell? ⟨(ad806.add (((rd t808 x43_2)).toNat * 4)).block,(ad806.add (((rd t808 x43_2)).toNat * 4)).off+2,none⟩=some (.int .i64 ((jc l1 (rd t808 x43_2)).f2))∧w'.cell? ⟨(ad806.add (((rd t808 x43_2)).toNat * 4)).block,(ad806.add (((rd t808 x43_2)).toNat * 4)).off+3,none⟩=some (.int .i64 ((jc l1 (rd t808 x43_2)).f3))) (ds:=[]) #[false,false,false,false,false,false,false,false,false,false,false,false,false,false,false,false] (by kernel_rfl) rfl rfl ⟨(jI BK801.out 0).trans rfl,((HB.out.cell (World.block_lt_of_cell? w _ hw812_0)).trans hw812_0),((HB.out.cell (World.block_lt_of_cell? w _ hw812_1)).trans hw812_1),((HB.out.cell (World.block_lt_of_cell? w _ hw812_2)).trans hw812_2),((HB.out.cell (World.block_lt_of_cell? w _ hw812_3)).trans hw812_3),((HB.out.cell (World.block_lt_of_cell? w _ hw813_0)).trans hw813_0),((HB.out.cell (World.block_lt_of_cell? w _ hw813_1)).trans hw813_1),((HB.out.cell (World.block_lt_of_cell? w _ hw813_2)).trans hw813_2),((HB.out.cell (World.block_lt_of_cell? w _ hw813_3)).trans hw813_3)⟩ (fun hHeld=>?_);refine jIb jS.tab12 jS.bits12 (fun HT_ HW_=>?_)
                   generalize wr.drew=w28 at HO_16 HO_41 BK801 HB hx812_0 hx812_1 hx812_2 hx812_3 hx813_0 hx813_1 hx813_2 hx813_3 hHeld ⊢
                   refine pq (i:=0) (N:=some 47) #[true,false,false,false,false,false,false,false,false,false,false,false,false,false,false,false] ?_
                   refine pq (i:=1) (N:=some 48) #[true,true,false,false,false,false,false,false,false,false,false,false,false,false,false,false] ?_
                   refine pq (i:=2) (N:=some 49) #[true,true,true,false,false,false,false,false,false,false,false,false,false,false,false,false] ?_
                   refine pq (i:=3) (N:=some 50) #[true,true,true,true,false,false,false,false,false,false,false,false,false,false,false,false] ?_
                   refine jhc (i:=4) (N:=some 51) (v:=?_) (a':=?_) #[true,true,true,true,true,false,false,false,false,false,false,false,false,false,false,false] rfl rfl (jTa HT_.out HW_.out (by kernel_rfl)) (fun _ _ _ h=>h) (Or.inl ⟨by rfl,?_⟩) hHeld ?_ ?_
                   rotate_left
                   ·rintro w' ⟨s0,s1,s2,s3,s4,s5,s6,s7,s8⟩
                    go_simp
                    with_reducible rfl
                   rotate_left
                   ·exact sa
                   refine pq (i:=5) (N:=some 52) #[true,true,true,true,true,true,false,false,false,false,false,false,false,false,false,false] ?_
                   refine pq (i:=6) (N:=some 53) #[true,true,true,true,true,true,true,false,false,false,false,false,false,false,false,false] ?_
                   refine pq (i:=8) (N:=some 55) #[true,true,true,true,true,true,true,false,true,false,false,false,false,false,false,false] ?_
                   refine pq (i:=9) (N:=some 56) #[true,true,true,true,true,true,true,false,true,true,false,false,false,false,false,false] ?_
                   refine pq (i:=10) (N:=some 57) #[true,true,true,true,true,true,true,false,true,true,true,false,false,false,false,false] ?_
                   refine pq (i:=11) (N:=some 58) #[true,true,true,true,true,true,true,false,true,true,true,true,false,false,false,false] ?_
                   refine pq (i:=12) (N:=some 59) #[true,true,true,true,true,true,true,false,true,true,true,true,true,false,false,false] ?_
                   refine jhc (i:=7) (N:=some 54) (v:=?_) (a':=?_) #[true,true,true,true,true,true,true,true,true,true,true,true,true,false,false,false] rfl rfl (jTa HT_.out HW_.out (by kernel_rfl)) (fun _ _ _ h=>h) (Or.inl ⟨by rfl,?_⟩) hHeld ?_ ?_
                   rotate_left
                   ·rintro w' ⟨s0,s1,s2,s3,s4,s5,s6,s7,s8⟩
                    go_simp
                    with_reducible rfl
                   rotate_left
                   ·exact sa
                   refine jhc (i:=13) (N:=some 60) (v:=?_) (a':=?_) #[true,true,true,true,true,true,true,true,true,true,true,true,true,true,false,false] rfl rfl (jTa HT_.out HW_.out (by kernel_rfl)) (fun _ _ _ h=>h) (Or.inl ⟨by rfl,?_⟩) hHeld ?_ ?_
                   rotate_left
                   ·rintro w' ⟨s0,s1,s2,s3,s4,s5,s6,s7,s8⟩
                    go_simp
                    with_reducible rfl
                   rotate_left
                   ·exact sa
                   refine one_ (i:=14) (N:=some 61) #[true,true,true,true,true,true,true,true,true,true,true,true,true,true,true,false] rfl rfl (jSb HT_.out (by kernel_rfl)) (by decide) (fun K hK=>?_)
                   refine goes_ Try.func55 (by kernel_rfl) rfl #[.agg #[.slice A0_0 l0_0.length c0_0], .int .i64 a3, .int .i64 ((jc l1 (rd t808 x43_2)).f2)] (by rfl) rfl rfl (aq) ?_
                   with_reducible refine (jpc.calls k2 _ _ l0_0 a3 ((jc l1 (rd t808 x43_2)).f2) true _ ?side1 ?side2 A26.out).mono ?_
                   (case side1=>exact cq (Kd.jN HR0_0.out HB.out))
                   (case side2=>exact HC0_0.out)
                   rintro e w29 ⟨rfl,hb⟩
                   refine ⟨_,rfl,?_⟩
                   replace HO_16:=am (Kd.jda (rq HO_16.out) hb)
                   replace HO_41:=am (Kd.jda (rq HO_41.out) hb)
                   replace BK801:=am (jk (g:=gb801) (o:=.cells #[.slice A0_0 l0_0.length c0_0] 25 (0,0)) (kq BK801.out) hb)
                   replace HB:=am (je (Y32) hb)
                   (try clear hb)
                   (try clear hb2)
                   (try clear hk)
                   (try clear hi)
                   refine hK.out _ _ ⟨(jI BK801.out 0).trans rfl,((HB.out.cell (World.block_lt_of_cell? w _ hw812_0)).trans hw812_0),((HB.out.cell (World.block_lt_of_cell? w _ hw812_1)).trans hw812_1),((HB.out.cell (World.block_lt_of_cell? w _ hw812_2)).trans hw812_2),((HB.out.cell (World.block_lt_of_cell? w _ hw812_3)).trans hw812_3),((HB.out.cell (World.block_lt_of_cell? w _ hw813_0)).trans hw813_0),((HB.out.cell (World.block_lt_of_cell? w _ hw813_1)).trans hw813_1),((HB.out.cell (World.block_lt_of_cell? w _ hw813_2)).trans hw813_2),((HB.out.cell (World.block_lt_of_cell? w _ hw813_3)).trans hw813_3)⟩ (fun hHeld=>?_)
                   clear hK K
                   refine jnc (a':=?_) ?_ ?_
                   rotate_left
                   ·show Act.put _ (some 61) _=_
                    simp only [Act.put,List.setIfInBounds_toArray,List.set_cons_zero,List.set_cons_succ,jmb,jub]
                    rfl
                   refine pq (i:=15) (N:=some 62) #[true,true,true,true,true,true,true,true,true,true,true,true,true,true,true,true] ?_
                   refine done_ (jsc HT_.out (by kernel_rfl)) ?_
                   try go_wp2
                   go_ret2
                   exact ⟨Y0,Y32⟩
                  ·replace c27:=Bool.eq_false_iff.mpr c27
                   subst c27
                   have H1:(jS.l1 k2 l1 a3 (rd t802 x18_1) t802 (t802.length:Int) x18_1 t808 (t808.length:Int) (wrap64 (x43_2+1)) l0_0)=some (r1,r2):=by rw [if_neg (show ¬ (false=true) by decide)] at H;exact H
                   clear H
                   have H:=H1
                   clear H1
                   have H':=am H
                   clear H
                   have p811:0≤(x43_2:Int):=ozD (uq)
                   have q811:x43_2<(t808.length:Int):=ozD (uq)
                   obtain ⟨ad811,e811,hx811_0⟩:=Kd.jhb (Kd.jq HO_41.out).2.2 x43_2 p811 q811
                   cases e811
                   replace p811:=ezT p811
                   replace q811:=ezT q811
                   try go_wp2
                   replace HO_16:=am (Kd.jia HO_16.out)
                   replace HO_41:=am (Kd.jia HO_41.out)
                   replace BK801:=am (jA BK801.out)
                   replace HB:=am (jF HB.out)
                   have p812:0≤((rd t808 x43_2):Int):=ozD (uq)
                   have q812:(rd t808 x43_2)<(l1.length:Int):=ozD (uq)
                   obtain ⟨ad812,e812,hx812_0,hx812_1,hx812_2,hx812_3⟩:=jpa HR1.out (rd t808 x43_2) p812 q812
                   have hw812_3:=hx812_3
                   have hw812_2:=hx812_2
                   have hw812_1:=hx812_1
                   have hw812_0:=hx812_0
                   obtain rfl:ad806=ad812:=(by injection e812)
                   replace hx812_0:=cb HB.out hx812_0
                   replace hx812_1:=cb HB.out hx812_1
                   replace hx812_2:=cb HB.out hx812_2
                   replace hx812_3:=cb HB.out hx812_3
                   replace p812:=ezT p812
                   replace q812:=ezT q812
                   have p813:0≤((rd t808 x43_2):Int):=ozD (uq)
                   have q813:(rd t808 x43_2)<(l1.length:Int):=ozD (uq)
                   obtain ⟨ad813,e813,hx813_0,hx813_1,hx813_2,hx813_3⟩:=jpa HR1.out (rd t808 x43_2) p813 q813
                   have hw813_3:=hx813_3
                   have hw813_2:=hx813_2
                   have hw813_1:=hx813_1
                   have hw813_0:=hx813_0
                   obtain rfl:ad806=ad813:=(by injection e813)
                   replace hx813_0:=cb HB.out hx813_0
                   replace hx813_1:=cb HB.out hx813_1
                   replace hx813_2:=cb HB.out hx813_2
                   replace hx813_3:=cb HB.out hx813_3
                   replace p813:=ezT p813
                   replace q813:=ezT q813
                   refine jHc (n:=16) (S:=fun w'=>w'.cell? ⟨gb801,0,none⟩=some (.slice A0_0 l0_0.length c0_0)∧w'.cell? (ad806.add (((rd t808 x43_2)).toNat * 4))=some (.int .i64 ((jc l1 (rd t808 x43_2)).f0))∧w'.cell? ⟨(ad806.add (((rd t808 x43_2)).toNat * 4)).block,(ad806.add (((rd t808 x43_2)).toNat * 4)).off+1,none⟩=some (.int .i64 ((jc l1 (rd t808 x43_2)).f1))∧w'.cell? ⟨(ad806.add (((rd t808 x43_2)).toNat * 4)).block,(ad806.add (((rd t808 x43_2)).toNat * 4)).off+2,none⟩=some (.int .i64 ((jc l1 (rd t808 x43_2)).f2))∧w'.cell? ⟨(ad806.add (((rd t808 x43_2)).toNat * 4)).block,(ad806.add (((rd t808 x43_2)).toNat * 4)).off+3,none⟩=some (.int .i64 ((jc l1 (rd t808 x43_2)).f3))∧w'.cell? (ad806.add (((rd t808 x43_2)).toNat * 4))=some (.int .i64 ((jc l1 (rd t808 x43_2)).f0))∧w'.cell? ⟨(ad806.add (((rd t808 x43_2)).toNat * 4)).block,(ad806.add (((rd t808 x43_2)).toNat * 4)).off+1,none⟩=some (.int .i64 ((jc l1 (rd t808 x43_2)).f1))∧w'.cell? ⟨(ad806.add (((rd t808 x43_2)).toNat * 4)).block,(ad806.add (((rd t808 x43_2)).toNat * 4)).off+2,none⟩=some (.int .i64 ((jc l1 (rd t808 x43_2)).f2))∧w'.cell? ⟨(ad806.add (((rd t808 x43_2)).toNat * 4)).block,(ad806.add (((rd t808 x43_2)).toNat * 4)).off+3,none⟩=some (.int .i64 ((jc l1 (rd t808 x43_2)).f3))) (ds:=[]) #[false,false,false,false,false,false,false,false,false,false,false,false,false,false,false,false] (by kernel_rfl) rfl rfl ⟨(jI BK801.out 0).trans rfl,((HB.out.cell (World.block_lt_of_cell? w _ hw812_0)).trans hw812_0),((HB.out.cell (World.block_lt_of_cell? w _ hw812_1)).trans hw812_1),((HB.out.cell (World.block_lt_of_cell? w _ hw812_2)).trans hw812_2),((HB.out.cell (World.block_lt_of_cell? w _ hw812_3)).trans hw812_3),((HB.out.cell (World.block_lt_of_cell? w _ hw813_0)).trans hw813_0),((HB.out.cell (World.block_lt_of_cell? w _ hw813_1)).trans hw813_1),((HB.out.cell (World.block_lt_of_cell? w _ hw813_2)).trans hw813_2),((HB.out.cell (World.block_lt_of_cell? w _ hw813_3)).trans hw813_3)⟩ (fun hHeld=>?_);refine jIb jS.tab12 jS.bits12 (fun HT_ HW_=>?_)
                   generalize wr.drew=w30 at HO_16 HO_41 BK801 HB hx812_0 hx812_1 hx812_2 hx812_3 hx813_0 hx813_1 hx813_2 hx813_3 hHeld ⊢
                   refine pq (i:=0) (N:=some 47) #[true,false,false,false,false,false,false,false,false,false,false,false,false,false,false,false] ?_
                   refine pq (i:=1) (N:=some 48) #[true,true,false,false,false,false,false,false,false,false,false,false,false,false,false,false] ?_
                   refine pq (i:=2) (N:=some 49) #[true,true,true,false,false,false,false,false,false,false,false,false,false,false,false,false] ?_
                   refine pq (i:=3) (N:=some 50) #[true,true,true,true,false,false,false,false,false,false,false,false,false,false,false,false] ?_
                   refine jhc (i:=4) (N:=some 51) (v:=?_) (a':=?_) #[true,true,true,true,true,false,false,false,false,false,false,false,false,false,false,false] rfl rfl (jTa HT_.out HW_.out (by kernel_rfl)) (fun _ _ _ h=>h) (Or.inl ⟨by rfl,?_⟩) hHeld ?_ ?_
                   rotate_left
                   ·rintro w' ⟨s0,s1,s2,s3,s4,s5,s6,s7,s8⟩
                    go_simp
                    with_reducible rfl
                   rotate_left
                   ·exact sa
                   refine pq (i:=5) (N:=some 52) #[true,true,true,true,true,true,false,false,false,false,false,false,false,false,false,false] ?_
                   refine pq (i:=6) (N:=some 53) #[true,true,true,true,true,true,true,false,false,false,false,false,false,false,false,false] ?_
                   refine pq (i:=8) (N:=some 55) #[true,true,true,true,true,true,true,false,true,false,false,false,false,false,false,false] ?_
                   refine pq (i:=9) (N:=some 56) #[true,true,true,true,true,true,true,false,true,true,false,false,false,false,false,false] ?_
                   refine pq (i:=10) (N:=some 57) #[true,true,true,true,true,true,true,false,true,true,true,false,false,false,false,false] ?_
                   refine pq (i:=11) (N:=some 58) #[true,true,true,true,true,true,true,false,true,true,true,true,false,false,false,false] ?_
                   refine pq (i:=12) (N:=some 59) #[true,true,true,true,true,true,true,false,true,true,true,true,true,false,false,false] ?_
                   refine jhc (i:=7) (N:=some 54) (v:=?_) (a':=?_) #[true,true,true,true,true,true,true,true,true,true,true,true,true,false,false,false] rfl rfl (jTa HT_.out HW_.out (by kernel_rfl)) (fun _ _ _ h=>h) (Or.inl ⟨by rfl,?_⟩) hHeld ?_ ?_
                   rotate_left
                   ·rintro w' ⟨s0,s1,s2,s3,s4,s5,s6,s7,s8⟩
                    go_simp
                    with_reducible rfl
                   rotate_left
                   ·exact sa
                   refine jhc (i:=13) (N:=some 60) (v:=?_) (a':=?_) #[true,true,true,true,true,true,true,true,true,true,true,true,true,true,false,false] rfl rfl (jTa HT_.out HW_.out (by kernel_rfl)) (fun _ _ _ h=>h) (Or.inl ⟨by rfl,?_⟩) hHeld ?_ ?_
                   rotate_left
                   ·rintro w' ⟨s0,s1,s2,s3,s4,s5,s6,s7,s8⟩
                    go_simp
                    with_reducible rfl
                   rotate_left
                   ·exact sa
                   refine one_ (i:=14) (N:=some 61) #[true,true,true,true,true,true,true,true,true,true,true,true,true,true,true,false] rfl rfl (jSb HT_.out (by kernel_rfl)) (by decide) (fun K hK=>?_)
                   refine goes_ Try.func55 (by kernel_rfl) rfl #[.agg #[.slice A0_0 l0_0.length c0_0], .int .i64 a3, .int .i64 ((jc l1 (rd t808 x43_2)).f2)] (by rfl) rfl rfl (aq) ?_
                   with_reducible refine (jpc.calls k2 _ _ l0_0 a3 ((jc l1 (rd t808 x43_2)).f2) false _ ?side1 ?side2 A26.out).mono ?_
                   (case side1=>exact cq (Kd.jN HR0_0.out HB.out))
                   (case side2=>exact HC0_0.out)
                   rintro e w31 ⟨rfl,hb⟩
                   refine ⟨_,rfl,?_⟩
                   replace HO_16:=am (Kd.jda (rq HO_16.out) hb)
                   replace HO_41:=am (Kd.jda (rq HO_41.out) hb)
                   replace BK801:=am (jk (g:=gb801) (o:=.cells #[.slice A0_0 l0_0.length c0_0] 25 (0,0)) (kq BK801.out) hb)
                   replace HB:=am (je (Y32) hb)
                   (try clear hb)
                   (try clear hb2)
                   (try clear hk)
                   (try clear hi)
                   refine hK.out _ _ ⟨(jI BK801.out 0).trans rfl,((HB.out.cell (World.block_lt_of_cell? w _ hw812_0)).trans hw812_0),((HB.out.cell (World.block_lt_of_cell? w _ hw812_1)).trans hw812_1),((HB.out.cell (World.block_lt_of_cell? w _ hw812_2)).trans hw812_2),((HB.out.cell (World.block_lt_of_cell? w _ hw812_3)).trans hw812_3),((HB.out.cell (World.block_lt_of_cell? w _ hw813_0)).trans hw813_0),((HB.out.cell (World.block_lt_of_cell? w _ hw813_1)).trans hw813_1),((HB.out.cell (World.block_lt_of_cell? w _ hw813_2)).trans hw813_2),((HB.out.cell (World.block_lt_of_cell? w _ hw813_3)).trans hw813_3)⟩ (fun hHeld=>?_)
                   clear hK K
                   refine jnc (a':=?_) ?_ ?_
                   rotate_left
                   ·show Act.put _ (some 61) _=_
                    simp only [Act.put,List.setIfInBounds_toArray,List.set_cons_zero,List.set_cons_succ,jmb,jub]
                    rfl
                   refine pq (i:=15) (N:=some 62) #[true,true,true,true,true,true,true,true,true,true,true,true,true,true,true,true] ?_
                   refine done_ (jsc HT_.out (by kernel_rfl)) ?_
                   try go_wp2
                   go_roundg k2
                   case measure=>have:=HK1.out;have:=HK2.out;omega
                   case rel=>exact ⟨(wrap64 (x43_2+1)),(sq),H',⟨by have:=HK1.out;have:=HK2.out;omega⟩,⟨rq HO_16.out⟩,⟨rq HO_41.out⟩,⟨kq BK801.out⟩,⟨Y32⟩⟩
                 ·rw [if_neg c25] at H
                  have c25b0:(((jc l1 (rd t808 x43_2)).f1) == 8)=false:=beq_eq_false_iff_ne.mpr c25
                  have c25b1:(((jc l1 (rd t808 x43_2)).f1) != 8)=true:=bne_iff_ne.mpr c25
                  have H':=am H
                  clear H
                  have p811:0≤(x43_2:Int):=ozD (uq)
                  have q811:x43_2<(t808.length:Int):=ozD (uq)
                  obtain ⟨ad811,e811,hx811_0⟩:=Kd.jhb (Kd.jq HO_41.out).2.2 x43_2 p811 q811
                  cases e811
                  replace p811:=ezT p811
                  replace q811:=ezT q811
                  try go_wp2
                  replace HO_16:=am (Kd.jia HO_16.out)
                  replace HO_41:=am (Kd.jia HO_41.out)
                  replace BK801:=am (jA BK801.out)
                  replace HB:=am (jF HB.out)
                  have p812:0≤((rd t808 x43_2):Int):=ozD (uq)
                  have q812:(rd t808 x43_2)<(l1.length:Int):=ozD (uq)
                  obtain ⟨ad812,e812,hx812_0,hx812_1,hx812_2,hx812_3⟩:=jpa HR1.out (rd t808 x43_2) p812 q812
                  have hw812_3:=hx812_3
                  have hw812_2:=hx812_2
                  have hw812_1:=hx812_1
                  have hw812_0:=hx812_0
                  obtain rfl:ad806=ad812:=(by injection e812)
                  replace hx812_0:=cb HB.out hx812_0
                  replace hx812_1:=cb HB.out hx812_1
                  replace hx812_2:=cb HB.out hx812_2
                  replace hx812_3:=cb HB.out hx812_3
                  replace p812:=ezT p812
                  replace q812:=ezT q812
                  refine jHc (n:=16) (S:=fun w'=>w'.cell? (ad806.add (((rd t808 x43_2)).toNat * 4))=some (.int .i64 ((jc l1 (rd t808 x43_2)).f0))∧w'.cell? ⟨(ad806.add (((rd t808 x43_2)).toNat * 4)).block,(ad806.add (((rd t808 x43_2)).toNat * 4)).off+1,none⟩=some (.int .i64 ((jc l1 (rd t808 x43_2)).f1))∧w'.cell? ⟨(ad806.add (((rd t808 x43_2)).toNat * 4)).block,(ad806.add (((rd t808 x43_2)).toNat * 4)).off+2,none⟩=some (.int .i64 ((jc l1 (rd t808 x43_2)).f2))∧w'.cell? ⟨(ad806.add (((rd t808 x43_2)).toNat * 4)).block,(ad806.add (((rd t808 x43_2)).toNat * 4)).off+3,none⟩=some (.int .i64 ((jc l1 (rd t808 x43_2)).f3))) (ds:=[]) #[false,false,false,false,false,false,false,false,false,false,false,false,false,false,false,false] (by kernel_rfl) rfl rfl ⟨((HB.out.cell (World.block_lt_of_cell? w _ hw812_0)).trans hw812_0),((HB.out.cell (World.block_lt_of_cell? w _ hw812_1)).trans hw812_1),((HB.out.cell (World.block_lt_of_cell? w _ hw812_2)).trans hw812_2),((HB.out.cell (World.block_lt_of_cell? w _ hw812_3)).trans hw812_3)⟩ (fun hHeld=>?_);refine jIb jS.tab12 jS.bits12 (fun HT_ HW_=>?_)
                  generalize wr.drew=w32 at HO_16 HO_41 BK801 HB hx812_0 hx812_1 hx812_2 hx812_3 hHeld ⊢
                  refine pq (i:=0) (N:=some 47) #[true,false,false,false,false,false,false,false,false,false,false,false,false,false,false,false] ?_
                  refine pq (i:=1) (N:=some 48) #[true,true,false,false,false,false,false,false,false,false,false,false,false,false,false,false] ?_
                  refine pq (i:=2) (N:=some 49) #[true,true,true,false,false,false,false,false,false,false,false,false,false,false,false,false] ?_
                  refine pq (i:=3) (N:=some 50) #[true,true,true,true,false,false,false,false,false,false,false,false,false,false,false,false] ?_
                  refine jhc (i:=4) (N:=some 51) (v:=?_) (a':=?_) #[true,true,true,true,true,false,false,false,false,false,false,false,false,false,false,false] rfl rfl (jTa HT_.out HW_.out (by kernel_rfl)) (fun _ _ _ h=>h) (Or.inl ⟨by rfl,?_⟩) hHeld ?_ ?_
                  rotate_left
                  ·rintro w' ⟨s0,s1,s2,s3⟩
                   go_simp
                   with_reducible rfl
                  rotate_left
                  ·exact sa
                  refine pq (i:=5) (N:=some 52) #[true,true,true,true,true,true,false,false,false,false,false,false,false,false,false,false] ?_
                  refine pq (i:=6) (N:=some 53) #[true,true,true,true,true,true,true,false,false,false,false,false,false,false,false,false] ?_
                  refine jEc (i:=7) (N:=some 54) (v:=undef) (a':=?_) #[true,true,true,true,true,true,true,true,false,false,false,false,false,false,false,false] rfl rfl (jWb HT_.out (by kernel_rfl)) (fun _ _ _ h=>h) (Or.inr ⟨by rfl,rfl⟩) ?_ ?_
                  rotate_left
                  ·exact sa
                  refine jEc (i:=8) (N:=some 55) (v:=undef) (a':=?_) #[true,true,true,true,true,true,true,true,true,false,false,false,false,false,false,false] rfl rfl (jWb HT_.out (by kernel_rfl)) (fun _ _ _ h=>h) (Or.inr ⟨by rfl,rfl⟩) ?_ ?_
                  rotate_left
                  ·exact sa
                  refine jEc (i:=9) (N:=some 56) (v:=undef) (a':=?_) #[true,true,true,true,true,true,true,true,true,true,false,false,false,false,false,false] rfl rfl (jWb HT_.out (by kernel_rfl)) (fun _ _ _ h=>h) (Or.inr ⟨by rfl,rfl⟩) ?_ ?_
                  rotate_left
                  ·exact sa
                  refine jEc (i:=10) (N:=some 57) (v:=undef) (a':=?_) #[true,true,true,true,true,true,true,true,true,true,true,false,false,false,false,false] rfl rfl (jWb HT_.out (by kernel_rfl)) (fun _ _ _ h=>h) (Or.inr ⟨by rfl,rfl⟩) ?_ ?_
                  rotate_left
                  ·exact sa
                  refine jEc (i:=11) (N:=some 58) (v:=undef) (a':=?_) #[true,true,true,true,true,true,true,true,true,true,true,true,false,false,false,false] rfl rfl (jWb HT_.out (by kernel_rfl)) (fun _ _ _ h=>h) (Or.inr ⟨by rfl,rfl⟩) ?_ ?_
                  rotate_left
                  ·exact sa
                  refine jEc (i:=12) (N:=some 59) (v:=undef) (a':=?_) #[true,true,true,true,true,true,true,true,true,true,true,true,true,false,false,false] rfl rfl (jWb HT_.out (by kernel_rfl)) (fun _ _ _ h=>h) (Or.inr ⟨by rfl,rfl⟩) ?_ ?_
                  rotate_left
                  ·exact sa
                  refine jEc (i:=13) (N:=some 60) (v:=undef) (a':=?_) #[true,true,true,true,true,true,true,true,true,true,true,true,true,true,false,false] rfl rfl (jWb HT_.out (by kernel_rfl)) (fun _ _ _ h=>h) (Or.inr ⟨by rfl,rfl⟩) ?_ ?_
                  rotate_left
                  ·exact sa
                  refine jEc (i:=14) (N:=some 61) (v:=undef) (a':=?_) #[true,true,true,true,true,true,true,true,true,true,true,true,true,true,true,false] rfl rfl (jWb HT_.out (by kernel_rfl)) (fun _ _ _ h=>h) (Or.inr ⟨by rfl,rfl⟩) ?_ ?_
                  rotate_left
                  ·exact sa
                  refine pq (i:=15) (N:=some 62) #[true,true,true,true,true,true,true,true,true,true,true,true,true,true,true,true] ?_
                  refine done_ (jsc HT_.out (by kernel_rfl)) ?_
                  try go_wp2
                  go_roundg k2
                  case measure=>have:=HK1.out;have:=HK2.out;omega
                  case rel=>exact ⟨(wrap64 (x43_2+1)),(sq),H',⟨by have:=HK1.out;have:=HK2.out;omega⟩,⟨rq HO_16.out⟩,⟨rq HO_41.out⟩,⟨kq BK801.out⟩,⟨Y32⟩⟩
                ·rw [if_neg c24] at H
                 exact absurd H (by simp)
               ·rw [if_neg c23] at H
                exact absurd H (by simp)
              ·rw [if_neg c22] at H
               exact absurd H (by simp)
             ·rw [if_neg c21] at H
              exact absurd H (by simp)
            ·rw [if_neg c20] at H
             have c20b0:decide (x43_2<(t808.length:Int))=false:=dzF c20
             clear c20
             have H':=am H
             clear H
             go_wp2
             go_roundg k2
             case measure=>have:=HK1.out;have:=HK2.out;omega
             case rel=>exact ⟨(wrap64 (x18_1+1)),(sq),H',⟨by have:=HK1.out;have:=HK2.out;omega⟩,⟨by (with_reducible repeat (first | apply Kd.jX | apply Kd.jW | apply Kd.jia));exact Kd.jD HO_16.out (fun _ hk=>trivial)⟩,⟨kq BK801.out⟩,⟨Y32⟩⟩
         ·rw [if_neg c16] at H
          have c16b0:(((jc l1 (rd t802 x18_1)).f1) == 7)=false:=beq_eq_false_iff_ne.mpr c16
          have c16b1:(((jc l1 (rd t802 x18_1)).f1) != 7)=true:=bne_iff_ne.mpr c16
          have H':=am H
          clear H
          have p805:0≤(x18_1:Int):=ozD (uq)
          have q805:x18_1<(t802.length:Int):=ozD (uq)
          obtain ⟨ad805,e805,hx805_0⟩:=Kd.jhb (Kd.jq HO_16.out).2.2 x18_1 p805 q805
          cases e805
          replace p805:=ezT p805
          replace q805:=ezT q805
          have p806:0≤((rd t802 x18_1):Int):=ozD (uq)
          have q806:(rd t802 x18_1)<(l1.length:Int):=ozD (uq)
          obtain ⟨ad806,e806,hx806_0,hx806_1,hx806_2,hx806_3⟩:=jpa HR1.out (rd t802 x18_1) p806 q806
          cases e806
          replace hx806_0:=cb HB.out hx806_0
          replace hx806_1:=cb HB.out hx806_1
          replace hx806_2:=cb HB.out hx806_2
          replace hx806_3:=cb HB.out hx806_3
          replace p806:=ezT p806
          replace q806:=ezT q806
          go_wp2
          go_roundg k1
          case measure=>have:=HK1.out;omega
          case rel=>exact ⟨(wrap64 (x18_1+1)),(sq),H',⟨by have:=HK1.out;omega⟩,⟨rq HO_16.out⟩,⟨kq BK801.out⟩,⟨Y32⟩⟩
       ·rw [if_neg c13] at H
        exact absurd H (by simp)
      ·rw [if_neg c12] at H
       exact absurd H (by simp)
     ·rw [if_neg c11] at H
      exact absurd H (by simp)
    ·rw [if_neg c10] at H
     exact absurd H (by simp)
   ·rw [if_neg c9] at H
    have c9b0:decide (x18_1<(t802.length:Int))=false:=dzF c9
    clear c9
    simp only [Option.some.injEq,Prod.mk.injEq] at H
    obtain ⟨rfl,rfl⟩:=H
    go_wp2
    go_ret2
    exact ⟨Y0,Y32⟩
def jsb.f (k : Nat) (l0_0 : List (S75)) (l1 : List (S36)) (a2 : Int) (a3 : Int) : Option (Int) := (jpb.f k l0_0 l1 a2).bind fun t816 => (if t816 = true then ((jHa.f l0_0 a3).bind fun t817 => (if t817 = true then ((jS.f k l0_0 l1 a2 a3).bind fun bt818 => (some bt818.2)) else (some (-1)))) else (some (-1)))
set_option maxHeartbeats 8000000 in
set_option maxRecDepth 100000 in
theorem jsb.calls (k : Nat) (A0_0 : Option Addr) (c0_0 : Nat) (l0_0 : List (S75)) (A1 : Option Addr) (c1 : Nat) (l1 : List (S36)) (a2 : Int) (a3 : Int) (r : Int) (w : World) (hr0_0 : Kd.C k75 w A0_0 l0_0.length l0_0) (hc0_0 : l0_0.length ≤ c0_0) (hr1 : Kd.C k36 w A1 l1.length l1) (hc1 : l1.length ≤ c1) (h : jsb.f k l0_0 l1 a2 a3 = some r) :
  Calls Try.prog 19 #[.agg #[.slice A0_0 l0_0.length c0_0], .slice A1 l1.length c1, .int .i64 a2, .int .i64 a3] w fun e w'=>e=.returned (.int .i64 r)∧Below w.heap.size w w':=by
 have hu25:=Try.underlying25
 have HR0_0:=am hr0_0
 have HC0_0:=am hc0_0
 clear hr0_0 hc0_0
 have HR1:=am hr1
 have HC1:=am hc1
 clear hr1 hc1
 have HB:=am (Below.refl w.heap.size w)
 have H:((jpb.f k l0_0 l1 a2).bind fun t816=>(if t816=true then ((jHa.f l0_0 a3).bind fun t817=>(if t817=true then ((jS.f k l0_0 l1 a2 a3).bind fun bt818=>(some bt818.2)) else (some (-1)))) else (some (-1))))=some r:=h
 clear h
 replace H:=bzS H
 obtain ⟨t816,A50,H⟩:=H
 replace H:(if t816=true then ((jHa.f l0_0 a3).bind fun t817=>(if t817=true then ((jS.f k l0_0 l1 a2 a3).bind fun bt818=>(some bt818.2)) else (some (-1)))) else (some (-1)))=some r:=H
 have A5:=am A50
 clear A50
 by_cases c6:t816=true
 ·subst c6
  have H1:((jHa.f l0_0 a3).bind fun t817=>(if t817=true then ((jS.f k l0_0 l1 a2 a3).bind fun bt818=>(some bt818.2)) else (some (-1))))=some r:=by rw [if_pos rfl] at H;exact H
  clear H
  have H:=H1
  clear H1
  replace H:=bzS H
  obtain ⟨t817,A70,H⟩:=H
  replace H:(if t817=true then ((jS.f k l0_0 l1 a2 a3).bind fun bt818=>(some bt818.2)) else (some (-1)))=some r:=H
  have A7:=am A70
  clear A70
  by_cases c8:t817=true
  ·subst c8
   have H1:((jS.f k l0_0 l1 a2 a3).bind fun bt818=>(some bt818.2))=some r:=by rw [if_pos rfl] at H;exact H
   clear H
   have H:=H1
   clear H1
   replace H:=bzS H
   obtain ⟨⟨t818,t819⟩,A90,H⟩:=H
   replace H:(some t819)=some r:=H
   have A9:=am A90
   clear A90
   obtain rfl:=Option.some.inj H
   go_enter Try.func19,Try.ntmps19
   go_wp2_with (first |((with_reducible refine jJ (N:=4) rfl ?_);refine bE (N:=4) (cs:=#[.slice A0_0 l0_0.length c0_0]) (t:=25) ?_;intro gb815 hg w10 hbox hb;have BK815:=am (hbox);have GW815:=am ((Y3:w.heap.size≤gb815));have GE815:=am ((Y3:w.heap.size≤gb815));replace HB:=am (je (bq) hb);clear hb hbox hg;have hcz11_0:=bc0 BK815.out;have hfz11_0:=ja BK815.out 0) |((with_reducible refine jd (f:=31) rfl ?_);refine gL (some 14) Try.func31 #[.agg #[.slice A0_0 l0_0.length c0_0], .slice A1 l1.length c1, .int .i64 a2] ?_;(with_reducible refine (jpb.calls k _ _ l0_0 _ _ l1 a2 true _ ?side1 ?side2 ?side3 ?side4 A5.out).mono ?_);(case side1=>exact cq (Kd.jN HR0_0.out HB.out));(case side2=>exact HC0_0.out);(case side3=>exact cq (Kd.jN HR1.out HB.out));(case side4=>exact HC1.out);rintro e w12 ⟨rfl,hb⟩;refine ⟨_,rfl,?_⟩;replace BK815:=am (jk (g:=gb815) (o:=.cells #[.slice A0_0 l0_0.length c0_0] 25 (0,0)) (kq BK815.out) hb);replace HB:=am (je (Y49) hb);(try clear hb);(try clear hb2);(try clear hk);(try clear hi);have hcz13_0:=bc0 BK815.out;have hfz13_0:=ja BK815.out 0) |(go_at_call 48;(with_reducible refine (jHa.calls _ _ l0_0 a3 true _ ?side1 ?side2 A7.out).mono ?_);(case side1=>exact cq (Kd.jN HR0_0.out HB.out));(case side2=>exact HC0_0.out);rintro e w14 ⟨rfl,hb⟩;replace BK815:=am (jk (g:=gb815) (o:=.cells #[.slice A0_0 l0_0.length c0_0] 25 (0,0)) (kq BK815.out) hb);replace HB:=am (je (Y49) hb);(try clear hb);(try clear hb2);(try clear hk);(try clear hi);have hcz15_0:=bc0 BK815.out;have hfz15_0:=ja BK815.out 0) |((with_reducible refine jd (f:=49) rfl ?_);refine gL (some 27) Try.func49 #[.agg #[.slice A0_0 l0_0.length c0_0], .slice A1 l1.length c1, .int .i64 a2, .int .i64 a3] ?_;(with_reducible refine (jS.calls k _ _ l0_0 _ _ l1 a2 a3 t818 t819 _ ?side1 ?side2 ?side3 ?side4 A9.out).mono ?_);(case side1=>exact cq (Kd.jN HR0_0.out HB.out));(case side2=>exact HC0_0.out);(case side3=>exact cq (Kd.jN HR1.out HB.out));(case side4=>exact HC1.out);rintro e w16 ⟨rfl,hb⟩;refine ⟨_,rfl,?_⟩;replace BK815:=am (jk (g:=gb815) (o:=.cells #[.slice A0_0 l0_0.length c0_0] 25 (0,0)) (kq BK815.out) hb);replace HB:=am (je (Y49) hb);(try clear hb);(try clear hb2);(try clear hk);(try clear hi)))
   go_ret
   exact ⟨Y0,Y49⟩
  ·replace c8:=Bool.eq_false_iff.mpr c8
   subst c8
   have H1:(some (-1))=some r:=by rw [if_neg (show ¬ (false=true) by decide)] at H;exact H
   clear H
   have H:=H1
   clear H1
   obtain rfl:=Option.some.inj H
   go_enter Try.func19,Try.ntmps19
   go_wp2_with (first |((with_reducible refine jJ (N:=4) rfl ?_);refine bE (N:=4) (cs:=#[.slice A0_0 l0_0.length c0_0]) (t:=25) ?_;intro gb815 hg w17 hbox hb;have BK815:=am (hbox);have GW815:=am ((Y3:w.heap.size≤gb815));have GE815:=am ((Y3:w.heap.size≤gb815));replace HB:=am (je (bq) hb);clear hb hbox hg;have hcz18_0:=bc0 BK815.out;have hfz18_0:=ja BK815.out 0) |((with_reducible refine jd (f:=31) rfl ?_);refine gL (some 14) Try.func31 #[.agg #[.slice A0_0 l0_0.length c0_0], .slice A1 l1.length c1, .int .i64 a2] ?_;(with_reducible refine (jpb.calls k _ _ l0_0 _ _ l1 a2 true _ ?side1 ?side2 ?side3 ?side4 A5.out).mono ?_);(case side1=>exact cq (Kd.jN HR0_0.out HB.out));(case side2=>exact HC0_0.out);(case side3=>exact cq (Kd.jN HR1.out HB.out));(case side4=>exact HC1.out);rintro e w19 ⟨rfl,hb⟩;refine ⟨_,rfl,?_⟩;replace BK815:=am (jk (g:=gb815) (o:=.cells #[.slice A0_0 l0_0.length c0_0] 25 (0,0)) (kq BK815.out) hb);replace HB:=am (je (Y49) hb);(try clear hb);(try clear hb2);(try clear hk);(try clear hi);have hcz20_0:=bc0 BK815.out;have hfz20_0:=ja BK815.out 0) |(go_at_call 48;(with_reducible refine (jHa.calls _ _ l0_0 a3 false _ ?side1 ?side2 A7.out).mono ?_);(case side1=>exact cq (Kd.jN HR0_0.out HB.out));(case side2=>exact HC0_0.out);rintro e w21 ⟨rfl,hb⟩;replace BK815:=am (jk (g:=gb815) (o:=.cells #[.slice A0_0 l0_0.length c0_0] 25 (0,0)) (kq BK815.out) hb);replace HB:=am (je (Y49) hb);(try clear hb);(try clear hb2);(try clear hk);(try clear hi)))
   go_ret
   exact ⟨Y0,Y49⟩
 ·replace c6:=Bool.eq_false_iff.mpr c6
  subst c6
  have H1:(some (-1))=some r:=by rw [if_neg (show ¬ (false=true) by decide)] at H;exact H
  clear H
  have H:=H1
  clear H1
  obtain rfl:=Option.some.inj H
  go_enter Try.func19,Try.ntmps19
  go_wp2_with (first |((with_reducible refine jJ (N:=4) rfl ?_);refine bE (N:=4) (cs:=#[.slice A0_0 l0_0.length c0_0]) (t:=25) ?_;intro gb815 hg w22 hbox hb;have BK815:=am (hbox);have GW815:=am ((Y3:w.heap.size≤gb815));have GE815:=am ((Y3:w.heap.size≤gb815));replace HB:=am (je (bq) hb);clear hb hbox hg;have hcz23_0:=bc0 BK815.out;have hfz23_0:=ja BK815.out 0) |((with_reducible refine jd (f:=31) rfl ?_);refine gL (some 14) Try.func31 #[.agg #[.slice A0_0 l0_0.length c0_0], .slice A1 l1.length c1, .int .i64 a2] ?_;(with_reducible refine (jpb.calls k _ _ l0_0 _ _ l1 a2 false _ ?side1 ?side2 ?side3 ?side4 A5.out).mono ?_);(case side1=>exact cq (Kd.jN HR0_0.out HB.out));(case side2=>exact HC0_0.out);(case side3=>exact cq (Kd.jN HR1.out HB.out));(case side4=>exact HC1.out);rintro e w24 ⟨rfl,hb⟩;refine ⟨_,rfl,?_⟩;replace BK815:=am (jk (g:=gb815) (o:=.cells #[.slice A0_0 l0_0.length c0_0] 25 (0,0)) (kq BK815.out) hb);replace HB:=am (je (Y49) hb);(try clear hb);(try clear hb2);(try clear hk);(try clear hi)))
  go_ret
  exact ⟨Y0,Y49⟩
def jGb.f (k : Nat) (l0_0 : List (S75)) (l1 : List (S36)) (a2 : Int) (a3 : Int) : Option (Bool) := (jHb.f k l0_0 l1 a2).bind fun t821 => (if t821 = true then ((jUa.f l0_0 a3).bind fun t822 => (some t822)) else (some false))
set_option maxHeartbeats 8000000 in
set_option maxRecDepth 100000 in
theorem jGb.calls (k : Nat) (A0_0 : Option Addr) (c0_0 : Nat) (l0_0 : List (S75)) (A1 : Option Addr) (c1 : Nat) (l1 : List (S36)) (a2 : Int) (a3 : Int) (r : Bool) (w : World) (hr0_0 : Kd.C k75 w A0_0 l0_0.length l0_0) (hc0_0 : l0_0.length ≤ c0_0) (hr1 : Kd.C k36 w A1 l1.length l1) (hc1 : l1.length ≤ c1) (h : jGb.f k l0_0 l1 a2 a3 = some r) :
  Calls Try.prog 50 #[.agg #[.slice A0_0 l0_0.length c0_0], .slice A1 l1.length c1, .int .i64 a2, .int .i64 a3] w fun e w'=>e=.returned (.bool r)∧Below w.heap.size w w':=by
 have hu25:=Try.underlying25
 have HR0_0:=am hr0_0
 have HC0_0:=am hc0_0
 clear hr0_0 hc0_0
 have HR1:=am hr1
 have HC1:=am hc1
 clear hr1 hc1
 have HB:=am (Below.refl w.heap.size w)
 have H:((jHb.f k l0_0 l1 a2).bind fun t821=>(if t821=true then ((jUa.f l0_0 a3).bind fun t822=>(some t822)) else (some false)))=some r:=h
 clear h
 replace H:=bzS H
 obtain ⟨t821,A50,H⟩:=H
 replace H:(if t821=true then ((jUa.f l0_0 a3).bind fun t822=>(some t822)) else (some false))=some r:=H
 have A5:=am A50
 clear A50
 by_cases c6:t821=true
 ·subst c6
  have H1:((jUa.f l0_0 a3).bind fun t822=>(some t822))=some r:=by rw [if_pos rfl] at H;exact H
  clear H
  have H:=H1
  clear H1
  replace H:=bzS H
  obtain ⟨t822,A70,H⟩:=H
  replace H:(some t822)=some r:=H
  have A7:=am A70
  clear A70
  obtain rfl:=Option.some.inj H
  go_enter Try.func50,Try.ntmps50
  go_wp2_with (first |((with_reducible refine jJ (N:=4) rfl ?_);refine bE (N:=4) (cs:=#[.slice A0_0 l0_0.length c0_0]) (t:=25) ?_;intro gb820 hg w8 hbox hb;have BK820:=am (hbox);have GW820:=am ((Y3:w.heap.size≤gb820));have GE820:=am ((Y3:w.heap.size≤gb820));replace HB:=am (je (bq) hb);clear hb hbox hg;have hcz9_0:=bc0 BK820.out;have hfz9_0:=ja BK820.out 0) |((with_reducible refine jd (f:=33) rfl ?_);refine gL (some 12) Try.func33 #[.agg #[.slice A0_0 l0_0.length c0_0], .slice A1 l1.length c1, .int .i64 a2] ?_;(with_reducible refine (jHb.calls k _ _ l0_0 _ _ l1 a2 true _ ?side1 ?side2 ?side3 ?side4 A5.out).mono ?_);(case side1=>exact cq (Kd.jN HR0_0.out HB.out));(case side2=>exact HC0_0.out);(case side3=>exact cq (Kd.jN HR1.out HB.out));(case side4=>exact HC1.out);rintro e w10 ⟨rfl,hb⟩;refine ⟨_,rfl,?_⟩;replace BK820:=am (jk (g:=gb820) (o:=.cells #[.slice A0_0 l0_0.length c0_0] 25 (0,0)) (kq BK820.out) hb);replace HB:=am (je (Y81) hb);(try clear hb);(try clear hb2);(try clear hk);(try clear hi);have hcz11_0:=bc0 BK820.out;have hfz11_0:=ja BK820.out 0) |(go_at_call 70;(with_reducible refine (jUa.calls _ _ l0_0 a3 t822 _ ?side1 ?side2 A7.out).mono ?_);(case side1=>exact cq (Kd.jN HR0_0.out HB.out));(case side2=>exact HC0_0.out);rintro e w12 ⟨rfl,hb⟩;replace BK820:=am (jk (g:=gb820) (o:=.cells #[.slice A0_0 l0_0.length c0_0] 25 (0,0)) (kq BK820.out) hb);replace HB:=am (je (Y81) hb);(try clear hb);(try clear hb2);(try clear hk);(try clear hi)))
  go_ret
  exact ⟨Y0,Y81⟩
 ·replace c6:=Bool.eq_false_iff.mpr c6
  subst c6
  have H1:(some false)=some r:=by rw [if_neg (show ¬ (false=true) by decide)] at H;exact H
  clear H
  have H:=H1
  clear H1
  obtain rfl:=Option.some.inj H
  go_enter Try.func50,Try.ntmps50
  go_wp2_with (first |((with_reducible refine jJ (N:=4) rfl ?_);refine bE (N:=4) (cs:=#[.slice A0_0 l0_0.length c0_0]) (t:=25) ?_;intro gb820 hg w13 hbox hb;have BK820:=am (hbox);have GW820:=am ((Y3:w.heap.size≤gb820));have GE820:=am ((Y3:w.heap.size≤gb820));replace HB:=am (je (bq) hb);clear hb hbox hg;have hcz14_0:=bc0 BK820.out;have hfz14_0:=ja BK820.out 0) |((with_reducible refine jd (f:=33) rfl ?_);refine gL (some 12) Try.func33 #[.agg #[.slice A0_0 l0_0.length c0_0], .slice A1 l1.length c1, .int .i64 a2] ?_;(with_reducible refine (jHb.calls k _ _ l0_0 _ _ l1 a2 false _ ?side1 ?side2 ?side3 ?side4 A5.out).mono ?_);(case side1=>exact cq (Kd.jN HR0_0.out HB.out));(case side2=>exact HC0_0.out);(case side3=>exact cq (Kd.jN HR1.out HB.out));(case side4=>exact HC1.out);rintro e w15 ⟨rfl,hb⟩;refine ⟨_,rfl,?_⟩;replace BK820:=am (jk (g:=gb820) (o:=.cells #[.slice A0_0 l0_0.length c0_0] 25 (0,0)) (kq BK820.out) hb);replace HB:=am (je (Y81) hb);(try clear hb);(try clear hb2);(try clear hk);(try clear hi)))
  go_ret
  exact ⟨Y0,Y81⟩
def jlc.f (l0_0 : List (S75)) (a1 : Int) : Option (Bool) := if a1 ≥ 0 then (some (decide (a1 < (l0_0.length : Int)))) else (some false)
set_option maxHeartbeats 8000000 in
set_option maxRecDepth 100000 in
theorem jlc.calls (A0_0 : Option Addr) (c0_0 : Nat) (l0_0 : List (S75)) (a1 : Int) (r : Bool) (w : World) (hr0_0 : Kd.C k75 w A0_0 l0_0.length l0_0) (hc0_0 : l0_0.length ≤ c0_0) (h : jlc.f l0_0 a1 = some r) :
  Calls Try.prog 21 #[.agg #[.slice A0_0 l0_0.length c0_0], .int .i64 a1] w fun e w'=>e=.returned (.bool r)∧Below w.heap.size w w':=by
 have hu25:=Try.underlying25
 have HR0_0:=am hr0_0
 have HC0_0:=am hc0_0
 clear hr0_0 hc0_0
 have HB:=am (Below.refl w.heap.size w)
 have H:(if a1≥0 then (some (decide (a1<(l0_0.length:Int)))) else (some false))=some r:=h
 clear h
 by_cases c3:a1≥0
 ·rw [if_pos c3] at H
  have c3b0:decide (0≤a1)=true:=dzT c3
  clear c3
  obtain rfl:=Option.some.inj H
  go_enter Try.func21,Try.ntmps21
  go_wp2_with (first |((with_reducible refine jJ (N:=2) rfl ?_);(try (refine jAc (by rfl) ?_;dsimp only));refine jGc ?hg (N:=2) ?hd (cs:=#[.slice A0_0 l0_0.length c0_0]) (t:=25) ?hr ?_;(case hd=>rfl);(case hg=>rfl);(case hr=>exact Y6);intro gb857 hg w4 hbox hb;have BK857:=am (hbox);have GW857:=am ((Y3:w.heap.size≤gb857));have GE857:=am ((Y3:w.heap.size≤gb857));replace HB:=am (je (bq) hb);clear hb hbox hg;have hcz5_0:=bc0 BK857.out;have hfz5_0:=ja BK857.out 0))
  go_ret
  exact ⟨Y0,Y132⟩
 ·rw [if_neg c3] at H
  have c3b0:decide (0≤a1)=false:=dzF c3
  clear c3
  obtain rfl:=Option.some.inj H
  go_enter Try.func21,Try.ntmps21
  go_wp2_with (first |((with_reducible refine jJ (N:=2) rfl ?_);(try (refine jAc (by rfl) ?_;dsimp only));refine jGc ?hg (N:=2) ?hd (cs:=#[.slice A0_0 l0_0.length c0_0]) (t:=25) ?hr ?_;(case hd=>rfl);(case hg=>rfl);(case hr=>exact Y6);intro gb857 hg w6 hbox hb;have BK857:=am (hbox);have GW857:=am ((Y3:w.heap.size≤gb857));have GE857:=am ((Y3:w.heap.size≤gb857));replace HB:=am (je (bq) hb);clear hb hbox hg))
  go_ret
  exact ⟨Y0,Y132⟩

def jdc.f (k : Nat) (s0_0 : List Int) (s0_1 : Int) (l1_0 : List (S75)) : Option (Int × Int) := (jg.f k s0_0 s0_1 16).bind fun bt759 => (if bt759.1 = 0 then ((jh.f k s0_0 bt759.2 (([(-1), (l1_0.length : Int), 8] : List Int))).bind fun bt764 => (some (bt764.1, bt764.2))) else ((jg.f k s0_0 bt759.2 (l1_0.length : Int)).bind fun bt766 => (some (bt766.1, bt766.2))))
set_option maxHeartbeats 8000000 in
set_option maxRecDepth 100000 in
theorem jdc.calls (k : Nat) (g : Nat) (s0_0 : List Int) (s0_1 : Int) (A1_0 : Option Addr) (c1_0 : Nat) (l1_0 : List (S75)) (r1 : Int) (r2 : Int) (w0 w : World) (hI : jf w0 w g s0_0 s0_1) (hB : Below w0.heap.size w0 w) (hr1_0 : ∀ W_, jb w W_ g none → Kd.C k75 W_ A1_0 l1_0.length l1_0) (hc1_0 : l1_0.length ≤ c1_0) (h : jdc.f k s0_0 s0_1 l1_0 = some (r1, r2)) :
  Calls Try.prog 47 #[.pointer (some ⟨g,0,none⟩), .agg #[.slice A1_0 l1_0.length c1_0]] w fun e w'=>e=.returned (.int .i64 r1)∧jf w0 w' g s0_0 r2∧Below w0.heap.size w0 w'∧jb w w' g none:=by
 have hu25:=Try.underlying25
 have HR1_0:=am hr1_0
 have HC1_0:=am hc1_0
 clear hr1_0 hc1_0
 have HI0:=am hI
 have HK:=am (jb.refl w g none)
 have HL:=am hB.size
 clear hI
 have HW0:=am hB.size
 have HB:=am hB
 clear hB
 have H:((jg.f k s0_0 s0_1 16).bind fun bt759=>(if bt759.1=0 then ((jh.f k s0_0 bt759.2 (([(-1),(l1_0.length:Int),8]:List Int))).bind fun bt764=>(some (bt764.1,bt764.2))) else ((jg.f k s0_0 bt759.2 (l1_0.length:Int)).bind fun bt766=>(some (bt766.1,bt766.2)))))=some (r1,r2):=h
 clear h
 replace H:=bzS H
 obtain ⟨⟨t759,t760⟩,A30,H⟩:=H
 replace H:(if t759=0 then ((jh.f k s0_0 t760 (([(-1),(l1_0.length:Int),8]:List Int))).bind fun bt764=>(some (bt764.1,bt764.2))) else ((jg.f k s0_0 t760 (l1_0.length:Int)).bind fun bt766=>(some (bt766.1,bt766.2))))=some (r1,r2):=H
 have A3:=am A30
 clear A30
 by_cases c4:t759=0
 ·rw [if_pos c4] at H
  have c4b0:(t759 == 0)=true:=beq_iff_eq.mpr c4
  have c4b1:(t759 != 0)=false:=bne_eq_false_iff_eq.mpr c4
  clear c4
  obtain ⟨y761,hy761⟩:∃ y_:List Int,y_=(([(-1),(l1_0.length:Int),8]:List Int)):=⟨_,rfl⟩
  replace H:((jh.f k s0_0 t760 y761).bind fun bt764=>(some (bt764.1,bt764.2)))=some (r1,r2):=by first |(rw [hy761];with_reducible exact H) |(have H2_:=(Option.bind_some _ _).symm.trans H;rw [hy761];with_reducible exact H2_) |(have H2_:=(Option.bind_some _ _).symm.trans H;with_reducible exact H2_) | with_reducible exact H |(rw [hy761];exact H) | exact H
  have Ny761:=am hy761
  clear hy761
  replace H:=bzS H
  obtain ⟨⟨t764,t765⟩,A50,H⟩:=H
  replace H:(some (t764,t765))=some (r1,r2):=H
  have A5:=am A50
  clear A50
  simp only [Option.some.injEq,Prod.mk.injEq] at H
  obtain ⟨rfl,rfl⟩:=H
  go_enter Try.func47,Try.ntmps47
  go_wp2_with (first |((with_reducible refine jJ (N:=3) rfl ?_);refine bE (N:=3) (cs:=#[.slice A1_0 l1_0.length c1_0]) (t:=25) ?_;intro gb758 hg w6 hbox hb;have BK758:=am (hbox);have GW758:=am ((Y11:w.heap.size≤gb758));have GE758:=am ((Nat.le_trans HW0.out (Y11:w.heap.size≤gb758):w0.heap.size≤gb758));have NB0_758:=am ((Y22:g≠gb758));have NB758_0:=am ((Y23:gb758≠g));replace HK:=am (jb.trans (Y15) (jb.of_below hb g none) (.inl rfl));replace HB:=am (je (Y16) hb);replace HI0:=am (jf.below (Y14) hb);clear hb hbox hg) |((with_reducible refine jd (f:=42) rfl ?_);refine gL (some 6) Try.func42 #[.pointer (some ⟨g,0,none⟩), .int .i64 16] ?_;(with_reducible refine (jg.calls k g s0_0 s0_1 16 t759 t760 w0 _ ?side1 ?side2 A3.out).mono ?_);(case side1=>exact Y60);(case side2=>exact Y65);rintro e w7 ⟨rfl,hi,hb,hk⟩;refine ⟨_,rfl,?_⟩;replace BK758:=am (jb.blk hk (g':=gb758) (o:=.cells #[.slice A1_0 l1_0.length c1_0] 25 (0,0)) (kq BK758.out) NB758_0.out (by simp));replace HK:=am (jb.trans (Y61) hk (.inl rfl));replace HB:=am (hb);replace HI0:=am (hi);(try clear hb);(try clear hb2);(try clear hk);(try clear hi);have hnb8:=NB758_0.out;have hnc8:=NB0_758.out;have hcz9_0:=bc0 BK758.out;have hfz9_0:=ja BK758.out 0) |((with_reducible refine jJ (N:=12) rfl ?_);refine Kd.jtc (Kd.int .i64) _ 3 ?hg (N:=12) ?hd (xs:=([(-1),(l1_0.length:Int),8]:List Int)) (inner:=[.int .i64 (-1), .int .i64 (l1_0.length:Int), .int .i64 8]) (ok:=fun _=>True) (okp:=fun _=>True) ?hr ?hp (fun _ hk=>hk) trivial (Below.refl _ _) (Nat.le_refl _) (by simp) ?_;(case hd=>rfl);(case hg=>rfl);(case hr=>exact Y6);(case hp=>exact (Reps.one (show Kd.M (Kd.int .i64) _ _ _ (-1) [.int .i64 (-1)] from rfl) (Reps.one (show Kd.M (Kd.int .i64) _ _ _ (l1_0.length:Int) [.int .i64 (l1_0.length:Int)] from rfl) (Reps.one (show Kd.M (Kd.int .i64) _ _ _ 8 [.int .i64 8] from rfl) (Reps.none _ _)))));intro v762 w10 ho11 hb hg_ hnew_;clear hg_ hnew_;(first | rw [← Ny761.out] at ho11 |(simp only [Int.reduceToNat] at ho11;rw [← Ny761.out] at ho11));have HO763:=am (Kd.jV ho11 (jP (w:=w) (g:=g) (row:=none) (Y61)));replace BK758:=am (jk (g:=gb758) (o:=.cells #[.slice A1_0 l1_0.length c1_0] 25 (0,0)) (kq BK758.out) hb);replace HK:=am (jb.trans (Y61) (jb.of_below hb g none) (.inl rfl));replace HB:=am (je (Y65) hb);replace HI0:=am (jf.below (Y60) hb);clear hb ho11;obtain ⟨Ao12,co12,eo12⟩:=Kd.jca HO763.out;subst eo12) |((with_reducible refine jd (f:=58) rfl ?_);refine gL (some 13) Try.func58 #[.pointer (some ⟨g,0,none⟩), .slice Ao12 y761.length co12] ?_;(with_reducible refine (jh.calls k g s0_0 t760 _ _ y761 t764 t765 w0 _ ?side1 ?side2 ?side3 ?side4 ?side5 A5.out).mono ?_);(case side1=>exact Y60);(case side2=>exact Y65);(case side3=>exact cq (Kd.jq HO763.out).2.2);(case side4=>exact (Kd.jq HO763.out).2.1);(case side5=>exact jJb (jf.own_ne HI0.out HO763.out (by decide)));rintro e w13 ⟨rfl,hi,hb,hk⟩;refine ⟨_,rfl,?_⟩;replace BK758:=am (jb.blk hk (g':=gb758) (o:=.cells #[.slice A1_0 l1_0.length c1_0] 25 (0,0)) (kq BK758.out) NB758_0.out (by simp));replace HO763:=am (Kd.jD (Kd.jCa (jf.apart (show jf w0 _ g s0_0 t760 from Y60) (rq HO763.out) (by decide)) hk (fun _ h=>h.2)) (fun _ h=>h.1));replace HK:=am (jb.trans (Y61) hk (.inl rfl));replace HB:=am (hb);replace HI0:=am (hi);(try clear hb);(try clear hb2);(try clear hk);(try clear hi)))
  go_ret
  exact ⟨Y0,Y60,Y65,Y61⟩
 ·rw [if_neg c4] at H
  have c4b0:(t759 == 0)=false:=beq_eq_false_iff_ne.mpr c4
  have c4b1:(t759 != 0)=true:=bne_iff_ne.mpr c4
  replace H:=bzS H
  obtain ⟨⟨t766,t767⟩,A140,H⟩:=H
  replace H:(some (t766,t767))=some (r1,r2):=H
  have A14:=am A140
  clear A140
  simp only [Option.some.injEq,Prod.mk.injEq] at H
  obtain ⟨rfl,rfl⟩:=H
  go_enter Try.func47,Try.ntmps47
  go_wp2_with (first |((with_reducible refine jJ (N:=3) rfl ?_);refine bE (N:=3) (cs:=#[.slice A1_0 l1_0.length c1_0]) (t:=25) ?_;intro gb758 hg w15 hbox hb;have BK758:=am (hbox);have GW758:=am ((Y11:w.heap.size≤gb758));have GE758:=am ((Nat.le_trans HW0.out (Y11:w.heap.size≤gb758):w0.heap.size≤gb758));have NB0_758:=am ((Y22:g≠gb758));have NB758_0:=am ((Y23:gb758≠g));replace HK:=am (jb.trans (Y15) (jb.of_below hb g none) (.inl rfl));replace HB:=am (je (Y16) hb);replace HI0:=am (jf.below (Y14) hb);clear hb hbox hg) |((with_reducible refine jd (f:=42) rfl ?_);refine gL (some 6) Try.func42 #[.pointer (some ⟨g,0,none⟩), .int .i64 16] ?_;(with_reducible refine (jg.calls k g s0_0 s0_1 16 t759 t760 w0 _ ?side1 ?side2 A3.out).mono ?_);(case side1=>exact Y60);(case side2=>exact Y65);rintro e w16 ⟨rfl,hi,hb,hk⟩;refine ⟨_,rfl,?_⟩;replace BK758:=am (jb.blk hk (g':=gb758) (o:=.cells #[.slice A1_0 l1_0.length c1_0] 25 (0,0)) (kq BK758.out) NB758_0.out (by simp));replace HK:=am (jb.trans (Y61) hk (.inl rfl));replace HB:=am (hb);replace HI0:=am (hi);(try clear hb);(try clear hb2);(try clear hk);(try clear hi);have hnb17:=NB758_0.out;have hnc17:=NB0_758.out;have hcz18_0:=bc0 BK758.out;have hfz18_0:=ja BK758.out 0) |((with_reducible refine jd (f:=42) rfl ?_);refine gL (some 18) Try.func42 #[.pointer (some ⟨g,0,none⟩), .int .i64 (l1_0.length:Int)] ?_;(with_reducible refine (jg.calls k g s0_0 t760 (l1_0.length:Int) t766 t767 w0 _ ?side1 ?side2 A14.out).mono ?_);(case side1=>exact Y60);(case side2=>exact Y65);rintro e w19 ⟨rfl,hi,hb,hk⟩;refine ⟨_,rfl,?_⟩;replace BK758:=am (jb.blk hk (g':=gb758) (o:=.cells #[.slice A1_0 l1_0.length c1_0] 25 (0,0)) (kq BK758.out) NB758_0.out (by simp));replace HK:=am (jb.trans (Y61) hk (.inl rfl));replace HB:=am (hb);replace HI0:=am (hi);(try clear hb);(try clear hb2);(try clear hk);(try clear hi)))
  go_ret
  exact ⟨Y0,Y60,Y65,Y61⟩
def jBa.f (k : Nat) (l0 : List Int) : Option ((List (S75)) × (List (S36)) × Int × Int) := (jYb.f l0).bind fun bt769 => ((jMa.f k bt769.1 bt769.2).bind fun bt772 => ((jdc.f k bt769.1 bt772.2.2.2 bt772.1).bind fun bt781 => (some (bt772.1, bt772.2.1, bt772.2.2.1, bt781.1))))
def jBa.T3 : Bool × List (List Nat × List Nat) := (true, [([], []), ([], []), ([], []), ([], []), ([], []), ([3, 4], [3, 4]), ([0, 5, 0], [0]), ([1, 6, 0, 1, 6], [1]), ([2, 7, 0, 1, 2, 6, 7], [2]), ([5, 8, 0, 1, 2, 3, 4, 5, 6, 7, 8], [5])])
def jBa.B3 : List Nat := [0, 0, 0, 0, 0, 24, 57, 123, 255, 511]
theorem jBa.tab3 : rtab .any (opsOf Try.f18 3) = jBa.T3 := by kernel_rfl
theorem jBa.bits3 : jzc jBa.T3.2 jBa.B3 = true := by kernel_rfl
set_option maxHeartbeats 8000000 in
set_option maxRecDepth 100000 in
theorem jBa.calls (k : Nat) (A0 : Option Addr) (c0 : Nat) (l0 : List Int) (r1 : List (S75)) (r2 : List (S36)) (r3 : Int) (r4 : Int) (w : World) (hr0 : Kd.C (Kd.int .u8) w A0 l0.length l0) (hc0 : l0.length ≤ c0) (h : jBa.f k l0 = some (r1, r2, r3, r4)) :
  Calls Try.prog 18 #[.slice A0 l0.length c0] w fun e w'=>∃ v0_ v1_:Value,e=.returned (.tuple #[.agg #[v0_],v1_, .int .i64 r3, .int .i64 r4])∧Kd.R k75 75 w' w.heap.size (fun _=>True) v0_ r1∧Kd.Q k36 36 w' w.heap.size (fun _=>True) v1_ r2∧Below w.heap.size w w':=by
 have hu25:=Try.underlying25
 have HR0:=am hr0
 have HC0:=am hc0
 clear hr0 hc0
 have HB:=am (Below.refl w.heap.size w)
 have H:((jYb.f l0).bind fun bt769=>((jMa.f k bt769.1 bt769.2).bind fun bt772=>((jdc.f k bt769.1 bt772.2.2.2 bt772.1).bind fun bt781=>(some (bt772.1,bt772.2.1,bt772.2.2.1,bt781.1)))))=some (r1,r2,r3,r4):=h
 clear h
 replace H:=bzS H
 obtain ⟨⟨t769,t770⟩,A20,H⟩:=H
 replace H:((jMa.f k t769 t770).bind fun bt772=>((jdc.f k t769 bt772.2.2.2 bt772.1).bind fun bt781=>(some (bt772.1,bt772.2.1,bt772.2.2.1,bt781.1))))=some (r1,r2,r3,r4):=H
 have A2:=am A20
 clear A20
 replace H:=bzS H
 obtain ⟨⟨t772,t775,t778,t779⟩,A30,H⟩:=H
 replace H:((jdc.f k t769 t779 t772).bind fun bt781=>(some (t772,t775,t778,bt781.1)))=some (r1,r2,r3,r4):=H
 have A3:=am A30
 clear A30
 replace H:=bzS H
 obtain ⟨⟨t781,t782⟩,A40,H⟩:=H
 replace H:(some (t772,t775,t778,t781))=some (r1,r2,r3,r4):=H
 have A4:=am A40
 clear A40
 simp only [Option.some.injEq,Prod.mk.injEq] at H
 obtain ⟨rfl,rfl,rfl,rfl⟩:=H
 go_enter Try.func18,Try.ntmps18
 try go_wp2_with (first |((with_reducible refine jJ (N:=2) rfl ?_);refine bE (N:=2) (cs:=#[.slice none 0 0]) (t:=25) ?_;intro gb768 hg w5 hbox hb;have BK768:=am (hbox);have GW768:=am ((Y3:w.heap.size≤gb768));have GE768:=am ((Y3:w.heap.size≤gb768));replace HB:=am (je (bq) hb);clear hb hbox hg) |((with_reducible refine jd (f:=30) rfl ?_);refine gL (some 11) Try.func30 #[.slice A0 l0.length c0] ?_;(with_reducible refine (jYb.calls _ _ l0 t769 t770 w _ ?side1 ?side2 ?side3 A2.out).mono ?_);(case side1=>repeat (first |(with_reducible first | exact HB.out | apply jL | apply jm | apply jF | refine jK ?_ GE768.out) | exact HB.out));(case side2=>exact HR0.out);(case side3=>exact HC0.out);rintro e w6 ⟨g771,rfl,hi,hb,hb2⟩;refine ⟨_,rfl,?_⟩;have HI771:=am (hi);have NB771_768:=am (jf.ne_blk hi (jk (g:=gb768) (o:=.cells #[.slice none 0 0] 25 (0,0)) (kq BK768.out) hb2) (by decide));have NB768_771:=am (Ne.symm (jf.ne_blk hi (jk (g:=gb768) (o:=.cells #[.slice none 0 0] 25 (0,0)) (kq BK768.out) hb2) (by decide)));replace BK768:=am (jk (g:=gb768) (o:=.cells #[.slice none 0 0] 25 (0,0)) (kq BK768.out) hb2);replace HB:=am (hb);(try clear hb);(try clear hb2);(try clear hk);(try clear hi)) |((with_reducible refine jd (f:=29) rfl ?_);refine gL (some 14) Try.func29 #[.pointer (some ⟨g771,0,none⟩)] ?_;(with_reducible refine (jMa.calls k g771 t769 t770 t772 t775 t778 t779 w _ ?side1 ?side2 A3.out).mono ?_);(case side1=>exact Y133);(case side2=>exact Y102);rintro e w7 ⟨v773,v776,rfl,ho0,ho1,hi,hb,hk⟩;refine ⟨_,rfl,?_⟩;have HO774:=am (Kd.jV ho0 (jT (Y102)));have HO777:=am (Kd.Q_lower ho1 (jT (Y102)));replace BK768:=am (jb.blk hk (g':=gb768) (o:=.cells #[.slice none 0 0] 25 (0,0)) (kq BK768.out) NB768_771.out (by simp));replace HB:=am (hb);replace HI771:=am (hi);(try clear hb);(try clear hb2);(try clear hk);(try clear hi);(try clear ho0);(try clear ho1)) |((with_reducible refine jJ (N:=7) rfl ?_);refine bE (N:=7) (cs:=#[.slice none 0 0]) (t:=25) ?_;intro gb780 hg w8 hbox hb;have BK780:=am (hbox);have GW780:=am ((Y134:w.heap.size≤gb780));have GE780:=am ((Y134:w.heap.size≤gb780));have NB768_780:=am ((by rw [hg];exact Nat.ne_of_lt (jLb (g:=gb768) (o:=.cells #[.slice none 0 0] 25 (0,0)) (kq BK768.out)):gb768≠gb780));have NB780_768:=am ((by rw [hg];exact Nat.ne_of_gt (jLb (g:=gb768) (o:=.cells #[.slice none 0 0] 25 (0,0)) (kq BK768.out)):gb780≠gb768));have NB771_780:=am ((by rw [hg];exact Nat.ne_of_lt (jf.lt (show jf w _ g771 t769 t779 from by repeat (first |(with_reducible first | exact HI771.out | apply jf.alloc | apply jf.drewN | apply jf.drew | apply jf.jyc | refine jf.far ?_ NB771_768.out _) | exact HI771.out))):g771≠gb780));have NB780_771:=am ((by rw [hg];exact Nat.ne_of_gt (jf.lt (show jf w _ g771 t769 t779 from by repeat (first |(with_reducible first | exact HI771.out | apply jf.alloc | apply jf.drewN | apply jf.drew | apply jf.jyc | refine jf.far ?_ NB771_768.out _) | exact HI771.out))):gb780≠g771));replace HO774:=am (Kd.jda (rq HO774.out) hb);replace HO777:=am (Kd.jPb (by (with_reducible repeat (first | apply Kd.jgc | apply Kd.jfc | apply Kd.jwc));exact HO777.out) hb);replace BK768:=am (jk (g:=gb768) (o:=.cells #[.slice none 0 0] 25 (0,0)) (kq BK768.out) hb);replace HB:=am (je (Y102) hb);replace HI771:=am (jf.below (Y133) hb);clear hb hbox hg;obtain ⟨Ao9,co9,eo9⟩:=Kd.jca HO774.out;subst eo9;have hnb10:=NB780_768.out;have hnc10:=NB768_780.out;have hnb11:=NB780_771.out;have hnc11:=NB771_780.out;have hcz12_0:=bc0 BK780.out;have hfz12_0:=ja BK780.out 0))
 have n0_:jl (Kd.R k75 75 (w8.setCell ⟨gb780,0,none⟩ (.slice Ao9 t772.length co9)) w.heap.size (fun _=>True) (.slice Ao9 t772.length co9) t772):=⟨by (with_reducible repeat (first | apply Kd.jX | apply Kd.jW | apply Kd.jia));exact Kd.jD (Kd.jXb (p:=⟨gb780,0,none⟩) (Kd.jSa HO774.out BK780.out (by decide)) (fun _ hk=>hk.2) (.slice Ao9 t772.length co9)) (fun _ hk=>trivial)⟩
 have n1_:jl (Kd.Q k36 36 (w8.setCell ⟨gb780,0,none⟩ (.slice Ao9 t772.length co9)) w.heap.size (fun _=>True) v776 t775):=⟨by (with_reducible repeat (first | apply Kd.jgc | apply Kd.jfc | apply Kd.jwc));exact Kd.jLc (Kd.Q_far (p:=⟨gb780,0,none⟩) (Kd.jcd HO777.out BK780.out (by decide)) (fun _ hk=>hk.2) (.slice Ao9 t772.length co9)) (fun _ hk=>trivial)⟩
 have n2_:jl ((w8.setCell ⟨gb780,0,none⟩ (.slice Ao9 t772.length co9)).heap[gb768]?=some (.cells #[.slice none 0 0] 25 (0,0))):=⟨by (with_reducible repeat (first | refine jv ?_ _ | refine jA ?_ | refine jy ?_ _));refine jvb ?_ NB768_780.out _;(with_reducible repeat (first | refine jv ?_ _ | refine jA ?_ | refine jy ?_ _));exact BK768.out⟩
 have n3_:jl ((w8.setCell ⟨gb780,0,none⟩ (.slice Ao9 t772.length co9)).heap[gb780]?=some (.cells #[.slice Ao9 t772.length co9] 25 (0,0))):=⟨by (with_reducible repeat (first | refine jv ?_ _ | refine jA ?_ | refine jy ?_ _));refine jcb (cs:=#[.slice none 0 0]) ?_ 0 _ rfl;(with_reducible repeat (first | refine jv ?_ _ | refine jA ?_ | refine jy ?_ _));exact BK780.out⟩
 have n4_:jl (jf w (w8.setCell ⟨gb780,0,none⟩ (.slice Ao9 t772.length co9)) g771 t769 t779):=⟨Y82⟩
 have n5_:jl (Below w.heap.size w (w8.setCell ⟨gb780,0,none⟩ (.slice Ao9 t772.length co9))):=⟨Y111⟩
 (try clear HO774)
 (try clear HO777)
 (try clear BK768)
 (try clear BK780)
 (try clear HI771)
 (try clear HB)
 generalize (w8.setCell ⟨gb780,0,none⟩ (.slice Ao9 t772.length co9))=w13 at n0_ n1_ n2_ n3_ n4_ n5_ ⊢
 have HO774:=n0_
 have HO777:=n1_
 have BK768:=n2_
 have BK780:=n3_
 have HI771:=n4_
 have HB:=n5_
 clear n0_ n1_ n2_ n3_ n4_ n5_
 replace HO774:=am (Kd.jia HO774.out)
 replace HO777:=am (Kd.jwc HO777.out)
 replace BK768:=am (jA BK768.out)
 replace BK780:=am (jA BK780.out)
 replace HI771:=am (jf.drew HI771.out)
 replace HB:=am (jF HB.out)
 refine jHc (n:=10) (S:=fun w'=>w'.cell? ⟨gb780,0,none⟩=some (.slice Ao9 t772.length co9)) (ds:=[]) #[false,false,false,false,false,false,false,false,false,false] (by kernel_rfl) rfl rfl ((jI BK780.out 0).trans rfl) (fun hHeld=>?_);refine jIb jBa.tab3 jBa.bits3 (fun HT_ HW_=>?_)
 generalize w13.drew=w14 at HO774 HO777 BK768 BK780 HI771 HB hHeld ⊢
 refine pq (i:=1) (N:=some 19) #[false,true,false,false,false,false,false,false,false,false] ?_
 refine pq (i:=2) (N:=some 20) #[false,true,true,false,false,false,false,false,false,false] ?_
 refine pq (i:=3) (N:=some 21) #[false,true,true,true,false,false,false,false,false,false] ?_
 refine jhc (i:=0) (N:=some 18) (v:=?_) (a':=?_) #[true,true,true,true,false,false,false,false,false,false] rfl rfl (jTa HT_.out HW_.out (by kernel_rfl)) (fun _ _ _ h=>h) (Or.inl ⟨by rfl,?_⟩) hHeld ?_ ?_
 rotate_left
 ·intro w' s0
  go_simp
  with_reducible rfl
 rotate_left
 ·exact sa
 refine jhc (i:=4) (N:=some 22) (v:=?_) (a':=?_) #[true,true,true,true,true,false,false,false,false,false] rfl rfl (jTa HT_.out HW_.out (by kernel_rfl)) (fun _ _ _ h=>h) (Or.inl ⟨by rfl,?_⟩) hHeld ?_ ?_
 rotate_left
 ·intro w' s0
  go_simp
  with_reducible rfl
 rotate_left
 ·exact sa
 refine one_ (i:=5) (N:=some 23) #[true,true,true,true,true,true,false,false,false,false] rfl rfl (jSb HT_.out (by kernel_rfl)) (by decide) (fun K hK=>?_)
 refine goes_ Try.func47 (by kernel_rfl) rfl #[.pointer (some ⟨g771,0,none⟩), .agg #[.slice Ao9 t772.length co9]] (by rfl) rfl rfl (aq) ?_
 with_reducible refine (jdc.calls k g771 t769 t779 _ _ t772 t781 t782 w _ ?side1 ?side2 ?side3 ?side4 A4.out).mono ?_
 (case side1=>exact Y82)
 (case side2=>exact Y111)
 (case side3=>exact Kd.jOc (jf.apart (show jf w _ g771 t769 t779 from Y82) (rq HO774.out) (by decide)) (fun _ h_=>h_.2))
 (case side4=>exact (Kd.jq HO774.out).2.1)
 rintro e w15 ⟨rfl,hi,hb,hk⟩
 refine ⟨_,rfl,?_⟩
 replace BK768:=am (jb.blk hk (g':=gb768) (o:=.cells #[.slice none 0 0] 25 (0,0)) (kq BK768.out) NB768_771.out (by simp))
 replace HO774:=am (Kd.jD (Kd.jCa (jf.apart (show jf w _ g771 t769 t779 from Y82) (rq HO774.out) (by decide)) hk (fun _ h=>h.2)) (fun _ h=>h.1))
 replace HO777:=am (Kd.jLc (Kd.Q_keep (jf.apartQ (show jf w _ g771 t769 t779 from Y82) (by (with_reducible repeat (first | apply Kd.jgc | apply Kd.jfc | apply Kd.jwc));exact HO777.out) (by decide)) hk (fun _ h=>h.2)) (fun _ h=>h.1))
 replace BK780:=am (jb.blk hk (g':=gb780) (o:=.cells #[.slice Ao9 t772.length co9] 25 (0,0)) (kq BK780.out) NB780_771.out (by simp))
 replace HB:=am (hb)
 replace HI771:=am (hi)
 (try clear hb)
 (try clear hb2)
 (try clear hk)
 (try clear hi)
 refine hK.out _ _ ((jI BK780.out 0).trans rfl) (fun hHeld=>?_)
 clear hK K
 refine jnc (a':=?_) ?_ ?_
 rotate_left
 ·show Act.put _ (some 23) _=_
  simp only [Act.put,List.setIfInBounds_toArray,List.set_cons_zero,List.set_cons_succ,jmb,jub]
  rfl
 refine one_ (i:=6) (N:=none) #[true,true,true,true,true,true,true,false,false,false] rfl rfl (jSb HT_.out (by kernel_rfl)) (by decide) (fun K hK=>?_)
 have hs16:w15.cell? ⟨gb768,0,none⟩=some (.slice none 0 0):=(jI BK768.out 0).trans rfl
 have hfs16:=ja BK768.out 0
 have hns16_1:=NB780_768.out
 have hms16_1:=NB768_780.out
 refine skip_ (w1:=?_) (by rfl) rfl ?_ ?_
 rotate_left
 ·go_simp
  rfl
 refine hK.out _ _ (((cell_far (p:=⟨gb768,_,none⟩) NB780_768.out _).trans (hHeld))) (fun hHeld=>?_)
 clear hK K
 refine pq (i:=7) (N:=some 3) #[true,true,true,true,true,true,true,true,false,false] ?_
 refine pq (i:=8) (N:=some 4) #[true,true,true,true,true,true,true,true,true,false] ?_
 refine pq (i:=9) (N:=some 5) #[true,true,true,true,true,true,true,true,true,true] ?_
 refine done_ (jsc HT_.out (by kernel_rfl)) ?_
 try go_wp2
 refine bodyPost_ret (results_list (rs:=[.cell 2 25, .tmp 3, .tmp 4, .tmp 5]) rfl (by simp) (.cell gb768 25 #[.slice Ao9 t772.length co9] (0,0) _ rfl (by (with_reducible repeat (first | refine jv ?_ _ | refine jA ?_ | refine jy ?_ _));refine jcb (cs:=#[.slice none 0 0]) ?_ 0 _ rfl;(with_reducible repeat (first | refine jv ?_ _ | refine jA ?_ | refine jy ?_ _));exact BK768.out) Try.underlying25 rfl (by kernel_rfl) (.tmp (.tmp (.tmp .nil))))) rfl ?_
 exact ⟨_,_,Y0,by (with_reducible repeat (first | apply Kd.jX | apply Kd.jW | apply Kd.jia));exact Kd.jD (Kd.jXb (p:=⟨gb768,0,none⟩) (Kd.jSa HO774.out BK768.out (by decide)) (fun _ hk=>hk.2) (.slice Ao9 t772.length co9)) (fun _ hk=>trivial),by (with_reducible repeat (first | apply Kd.jgc | apply Kd.jfc | apply Kd.jwc));exact Kd.jLc (Kd.Q_far (p:=⟨gb768,0,none⟩) (Kd.jcd HO777.out BK768.out (by decide)) (fun _ hk=>hk.2) (.slice Ao9 t772.length co9)) (fun _ hk=>trivial),Y111⟩
def jAb.f (k : Nat) (l0 : List Int) : Option ((List (S75)) × (List (S36)) × Int × Int) := (jBa.f k l0).bind fun bt914 => (some (bt914.1, bt914.2.1, bt914.2.2.1, bt914.2.2.2))
set_option maxHeartbeats 8000000 in
set_option maxRecDepth 100000 in
theorem jAb.calls (k : Nat) (A0 : Option Addr) (c0 : Nat) (l0 : List Int) (r1 : List (S75)) (r2 : List (S36)) (r3 : Int) (r4 : Int) (w : World) (hr0 : Kd.C (Kd.int .u8) w A0 l0.length l0) (hc0 : l0.length ≤ c0) (h : jAb.f k l0 = some (r1, r2, r3, r4)) :
  Calls Try.prog 26 #[.slice A0 l0.length c0] w fun e w'=>∃ v0_ v1_:Value,e=.returned (.tuple #[.agg #[v0_],v1_, .int .i64 r3, .int .i64 r4])∧Kd.R k75 75 w' w.heap.size (fun _=>True) v0_ r1∧Kd.Q k36 36 w' w.heap.size (fun _=>True) v1_ r2∧Below w.heap.size w w':=by
 have hu25:=Try.underlying25
 have HR0:=am hr0
 have HC0:=am hc0
 clear hr0 hc0
 have HB:=am (Below.refl w.heap.size w)
 have H:((jBa.f k l0).bind fun bt914=>(some (bt914.1,bt914.2.1,bt914.2.2.1,bt914.2.2.2)))=some (r1,r2,r3,r4):=h
 clear h
 replace H:=bzS H
 obtain ⟨⟨t914,t917,t920,t921⟩,A20,H⟩:=H
 replace H:(some (t914,t917,t920,t921))=some (r1,r2,r3,r4):=H
 have A2:=am A20
 clear A20
 simp only [Option.some.injEq,Prod.mk.injEq] at H
 obtain ⟨rfl,rfl,rfl,rfl⟩:=H
 go_enter Try.func26,Try.ntmps26
 go_wp2_with (first |((with_reducible refine jJ (N:=2) rfl ?_);refine bE (N:=2) (cs:=#[.slice none 0 0]) (t:=25) ?_;intro gb913 hg w3 hbox hb;have BK913:=am (hbox);have GW913:=am ((Y3:w.heap.size≤gb913));have GE913:=am ((Y3:w.heap.size≤gb913));replace HB:=am (je (bq) hb);clear hb hbox hg) |((with_reducible refine jd (f:=18) rfl ?_);refine gL (some 7) Try.func18 #[.slice A0 l0.length c0] ?_;(with_reducible refine (jBa.calls k _ _ l0 t914 t917 t920 t921 _ ?side1 ?side2 A2.out).mono ?_);(case side1=>exact cq (Kd.jN HR0.out HB.out));(case side2=>exact HC0.out);rintro e w4 ⟨v915,v918,rfl,ho0,ho1,hb⟩;refine ⟨_,rfl,?_⟩;have HO916:=am (Kd.jV ho0 (jT (Y103)));have HO919:=am (Kd.Q_lower ho1 (jT (Y103)));replace BK913:=am (jk (g:=gb913) (o:=.cells #[.slice none 0 0] 25 (0,0)) (kq BK913.out) hb);replace HB:=am (je (Y103) hb);(try clear hb);(try clear hb2);(try clear hk);(try clear hi);(try clear ho0);(try clear ho1);obtain ⟨Ao5,co5,eo5⟩:=Kd.jca HO916.out;subst eo5;have hcz6_0:=bc0 BK913.out;have hfz6_0:=ja BK913.out 0))
 refine bodyPost_ret (results_list (rs:=[.cell 2 25, .tmp 3, .tmp 4, .tmp 5]) rfl (by simp) (.cell gb913 25 #[.slice Ao5 t914.length co5] (0,0) _ rfl (by (with_reducible repeat (first | refine jv ?_ _ | refine jA ?_ | refine jy ?_ _));refine jcb (cs:=#[.slice none 0 0]) ?_ 0 _ rfl;(with_reducible repeat (first | refine jv ?_ _ | refine jA ?_ | refine jy ?_ _));exact BK913.out) Try.underlying25 rfl (by kernel_rfl) (.tmp (.tmp (.tmp .nil))))) rfl ?_
 exact ⟨_,_,Y0,by (with_reducible repeat (first | apply Kd.jX | apply Kd.jW | apply Kd.jia));exact Kd.jD (Kd.jXb (p:=⟨gb913,0,none⟩) (Kd.jSa HO916.out BK913.out (by decide)) (fun _ hk=>hk.2) (.slice Ao5 t914.length co5)) (fun _ hk=>trivial),by (with_reducible repeat (first | apply Kd.jgc | apply Kd.jfc | apply Kd.jwc));exact Kd.jLc (Kd.Q_far (p:=⟨gb913,0,none⟩) (Kd.jcd HO919.out BK913.out (by decide)) (fun _ hk=>hk.2) (.slice Ao5 t914.length co5)) (fun _ hk=>trivial),Y103⟩
def jva.j0 : Nat → List (S36) → Int → Int → Bool → List (S75) → Option (List Int)
 | 0,_,_,_,_,_=>none
 | k+1,x1,x2,x3,x21,x923000=>if x21=true then (some ([]:List Int)) else ((jS.f k x923000 x1 x2 x3).bind fun bt925=>((jFa.f k x1 x2 bt925.1).bind fun t927=>(some t927)))
def jva.f (k : Nat) (l0_0 : List (S75)) (l1 : List (S36)) (a2 : Int) (a3 : Int) : Option (List Int) := (jpb.f k l0_0 l1 a2).bind fun t923 => (if t923 = true then ((jHa.f l0_0 a3).bind fun t924 => (jva.j0 k l1 a2 a3 (!t924) l0_0)) else (jva.j0 k l1 a2 a3 true l0_0))
set_option maxHeartbeats 8000000 in
set_option maxRecDepth 100000 in
theorem jva.calls (k : Nat) (A0_0 : Option Addr) (c0_0 : Nat) (l0_0 : List (S75)) (A1 : Option Addr) (c1 : Nat) (l1 : List (S36)) (a2 : Int) (a3 : Int) (r : List Int) (w : World) (hr0_0 : Kd.C k75 w A0_0 l0_0.length l0_0) (hc0_0 : l0_0.length ≤ c0_0) (hr1 : Kd.C k36 w A1 l1.length l1) (hc1 : l1.length ≤ c1) (h : jva.f k l0_0 l1 a2 a3 = some r) :
  Calls Try.prog 27 #[.agg #[.slice A0_0 l0_0.length c0_0], .slice A1 l1.length c1, .int .i64 a2, .int .i64 a3] w fun e w'=>∃ v0_:Value,e=.returned (v0_)∧Kd.R (Kd.int .i64) 3 w' w.heap.size (fun _=>True) v0_ r∧Below w.heap.size w w':=by
 have hu25:=Try.underlying25
 have HR0_0:=am hr0_0
 have HC0_0:=am hc0_0
 clear hr0_0 hc0_0
 have HR1:=am hr1
 have HC1:=am hc1
 clear hr1 hc1
 have HB:=am (Below.refl w.heap.size w)
 have H:((jpb.f k l0_0 l1 a2).bind fun t923=>(if t923=true then ((jHa.f l0_0 a3).bind fun t924=>(jva.j0 k l1 a2 a3 (!t924) l0_0)) else (jva.j0 k l1 a2 a3 true l0_0)))=some r:=h
 clear h
 have HC5:=am H
 clear H
 go_enter Try.func27,Try.ntmps27
 go_upto_region 1 with (first |((with_reducible refine jJ (N:=4) rfl ?_);refine bE (N:=4) (cs:=#[.slice A0_0 l0_0.length c0_0]) (t:=25) ?_;intro gb922 hg w6 hbox hb;have BK922:=am (hbox);have GW922:=am ((Y3:w.heap.size≤gb922));have GE922:=am ((Y3:w.heap.size≤gb922));replace HB:=am (je (bq) hb);clear hb hbox hg))
 (try simp only [Act.put,List.setIfInBounds_toArray,List.set_cons_zero,List.set_cons_succ])
 go_cut [21] (fun v21 wc=>∃ (kq:Nat) (x21_4:Bool),v21=.bool x21_4∧jl (jva.j0 kq l1 a2 a3 x21_4 l0_0=some r)∧jl (kq≤k)∧jl (wc.heap[gb922]?=some (.cells #[(.slice A0_0 l0_0.length c0_0)] 25 (0,0)))∧jl (Below w.heap.size w wc))
 case first =>
  have H:=HC5.out
  clear HC5
  replace H:=bzS H
  obtain ⟨t923,A70,H⟩:=H
  replace H:(if t923=true then ((jHa.f l0_0 a3).bind fun t924=>(jva.j0 k l1 a2 a3 (!t924) l0_0)) else (jva.j0 k l1 a2 a3 true l0_0))=some r:=H
  have A7:=am A70
  clear A70
  by_cases c8:t923=true
  ·subst c8
   have H1:((jHa.f l0_0 a3).bind fun t924=>(jva.j0 k l1 a2 a3 (!t924) l0_0))=some r:=by rw [if_pos rfl] at H;exact H
   clear H
   have H:=H1
   clear H1
   replace H:=bzS H
   obtain ⟨t924,A90,H⟩:=H
   replace H:(jva.j0 k l1 a2 a3 (!t924) l0_0)=some r:=H
   have A9:=am A90
   clear A90
   have H':=am H
   clear H
   have hcz10_0:=bc0 BK922.out
   have hfz10_0:=ja BK922.out 0
   go_wp2_with (first |((with_reducible refine jd (f:=31) rfl ?_);refine gL (some 14) Try.func31 #[.agg #[.slice A0_0 l0_0.length c0_0], .slice A1 l1.length c1, .int .i64 a2] ?_;(with_reducible refine (jpb.calls k _ _ l0_0 _ _ l1 a2 true _ ?side1 ?side2 ?side3 ?side4 A7.out).mono ?_);(case side1=>exact cq (Kd.jN HR0_0.out HB.out));(case side2=>exact HC0_0.out);(case side3=>exact cq (Kd.jN HR1.out HB.out));(case side4=>exact HC1.out);rintro e w11 ⟨rfl,hb⟩;refine ⟨_,rfl,?_⟩;replace BK922:=am (jk (g:=gb922) (o:=.cells #[.slice A0_0 l0_0.length c0_0] 25 (0,0)) (kq BK922.out) hb);replace HB:=am (je (Y46) hb);(try clear hb);(try clear hb2);(try clear hk);(try clear hi);have hcz12_0:=bc0 BK922.out;have hfz12_0:=ja BK922.out 0) |(go_at_call 48;(with_reducible refine (jHa.calls _ _ l0_0 a3 t924 _ ?side1 ?side2 A9.out).mono ?_);(case side1=>exact cq (Kd.jN HR0_0.out HB.out));(case side2=>exact HC0_0.out);rintro e w13 ⟨rfl,hb⟩;replace BK922:=am (jk (g:=gb922) (o:=.cells #[.slice A0_0 l0_0.length c0_0] 25 (0,0)) (kq BK922.out) hb);replace HB:=am (je (Y46) hb);(try clear hb);(try clear hb2);(try clear hk);(try clear hi)))
   go_meet
   case rel=>exact ⟨_,(!t924),(sq),H',⟨Y21⟩,⟨kq BK922.out⟩,⟨Y46⟩⟩
  ·replace c8:=Bool.eq_false_iff.mpr c8
   subst c8
   have H1:(jva.j0 k l1 a2 a3 true l0_0)=some r:=by rw [if_neg (show ¬ (false=true) by decide)] at H;exact H
   clear H
   have H:=H1
   clear H1
   have H':=am H
   clear H
   have hcz14_0:=bc0 BK922.out
   have hfz14_0:=ja BK922.out 0
   go_wp2_with (first |((with_reducible refine jd (f:=31) rfl ?_);refine gL (some 14) Try.func31 #[.agg #[.slice A0_0 l0_0.length c0_0], .slice A1 l1.length c1, .int .i64 a2] ?_;(with_reducible refine (jpb.calls k _ _ l0_0 _ _ l1 a2 false _ ?side1 ?side2 ?side3 ?side4 A7.out).mono ?_);(case side1=>exact cq (Kd.jN HR0_0.out HB.out));(case side2=>exact HC0_0.out);(case side3=>exact cq (Kd.jN HR1.out HB.out));(case side4=>exact HC1.out);rintro e w15 ⟨rfl,hb⟩;refine ⟨_,rfl,?_⟩;replace BK922:=am (jk (g:=gb922) (o:=.cells #[.slice A0_0 l0_0.length c0_0] 25 (0,0)) (kq BK922.out) hb);replace HB:=am (je (Y46) hb);(try clear hb);(try clear hb2);(try clear hk);(try clear hi)))
   go_meet
   case rel=>exact ⟨_,(true),(sq),H',⟨Y21⟩,⟨kq BK922.out⟩,⟨Y46⟩⟩
 case rest =>
  clear HC5
  try clear c1
  try clear c2
  try clear p2
  try clear c3
  try clear c8
  try clear hcz10_0
  try clear hcz12_0
  try clear hcz14_0
  try clear hfz10_0
  try clear hfz12_0
  try clear hfz14_0
  obtain ⟨kq,x21_4,rfl,HA,HJ4,BK922,HB⟩:=hcut
  cases kq with
  | zero=>exact absurd HA.out (by simp [jva.j0])
  | succ kj4 =>
   have H:=HA.out
   clear HA
   simp only [jva.j0] at H
   by_cases c16:x21_4=true
   ·subst c16
    have H1:(some ([]:List Int))=some r:=by rw [if_pos rfl] at H;exact H
    clear H
    have H:=H1
    clear H1
    obtain rfl:=Option.some.inj H
    go_wp2
    go_ret
    exact ⟨_,Y0,Y79,Y46⟩
   ·replace c16:=Bool.eq_false_iff.mpr c16
    subst c16
    have H1:((jS.f kj4 l0_0 l1 a2 a3).bind fun bt925=>((jFa.f kj4 l1 a2 bt925.1).bind fun t927=>(some t927)))=some r:=by rw [if_neg (show ¬ (false=true) by decide)] at H;exact H
    clear H
    have H:=H1
    clear H1
    replace H:=bzS H
    obtain ⟨⟨t925,t926⟩,A170,H⟩:=H
    replace H:((jFa.f kj4 l1 a2 t925).bind fun t927=>(some t927))=some r:=H
    have A17:=am A170
    clear A170
    replace H:=bzS H
    obtain ⟨t927,A180,H⟩:=H
    replace H:(some t927)=some r:=H
    have A18:=am A180
    clear A180
    obtain rfl:=Option.some.inj H
    have hcz19_0:=bc0 BK922.out
    have hfz19_0:=ja BK922.out 0
    go_wp2_with (first |((with_reducible refine jd (f:=49) rfl ?_);refine gL (some 27) Try.func49 #[.agg #[.slice A0_0 l0_0.length c0_0], .slice A1 l1.length c1, .int .i64 a2, .int .i64 a3] ?_;(with_reducible refine (jS.calls kj4 _ _ l0_0 _ _ l1 a2 a3 t925 t926 _ ?side1 ?side2 ?side3 ?side4 A17.out).mono ?_);(case side1=>exact cq (Kd.jN HR0_0.out HB.out));(case side2=>exact HC0_0.out);(case side3=>exact cq (Kd.jN HR1.out HB.out));(case side4=>exact HC1.out);rintro e w20 ⟨rfl,hb⟩;refine ⟨_,rfl,?_⟩;replace BK922:=am (jk (g:=gb922) (o:=.cells #[.slice A0_0 l0_0.length c0_0] 25 (0,0)) (kq BK922.out) hb);replace HB:=am (je (Y46) hb);(try clear hb);(try clear hb2);(try clear hk);(try clear hi)) |((with_reducible refine jd (f:=32) rfl ?_);refine gL (some 33) Try.func32 #[.slice A1 l1.length c1, .int .i64 a2, .int .i64 t925] ?_;(with_reducible refine (jFa.calls kj4 _ _ l1 a2 t925 t927 _ ?side1 ?side2 A18.out).mono ?_);(case side1=>exact cq (Kd.jN HR1.out HB.out));(case side2=>exact HC1.out);rintro e w21 ⟨v928,rfl,ho0,hb⟩;refine ⟨_,rfl,?_⟩;have HO929:=am (Kd.jV ho0 (jT (Y46)));replace BK922:=am (jk (g:=gb922) (o:=.cells #[.slice A0_0 l0_0.length c0_0] 25 (0,0)) (kq BK922.out) hb);replace HB:=am (je (Y46) hb);(try clear hb);(try clear hb2);(try clear hk);(try clear hi);(try clear ho0)))
    go_ret
    exact ⟨_,Y0,rq HO929.out,Y46⟩
def jBb.l0 : Nat → List (S36) → Int → Option (Int)
 | 0,_,_=>none
 | k+1,x0,x1=>if 0≤x1 then (if x1<(x0.length:Int) then (if ((jc x0 x1).f1)=7 then (some x1) else ((jfb.f k x0 x1).bind fun t586=>(jBb.l0 k x0 t586))) else (none)) else (none)
def jBb.f (k : Nat) (l0 : List (S36)) (a1 : Int) : Option (Int) := jBb.l0 k l0 a1
set_option maxHeartbeats 8000000 in
set_option maxRecDepth 100000 in
theorem jBb.calls (k : Nat) (A0 : Option Addr) (c0 : Nat) (l0 : List (S36)) (a1 : Int) (r : Int) (w : World) (hr0 : Kd.C k36 w A0 l0.length l0) (hc0 : l0.length ≤ c0) (h : jBb.f k l0 a1 = some r) :
  Calls Try.prog 81 #[.slice A0 l0.length c0, .int .i64 a1] w fun e w'=>e=.returned (.int .i64 r)∧jrb w w':=by
 have HR0:=am hr0
 have HC0:=am hc0
 clear hr0 hc0
 have H:(jBb.l0 k l0 a1)=some r:=h
 clear h
 have H':=am H
 clear H
 go_enter Try.func81,Try.ntmps81
 go_wp2
 go_loopg [1] k (fun kq v1 w'=>∃ (x1_1:Int),v1=.int .i64 x1_1∧jl (jBb.l0 kq l0 x1_1=some r)∧jl (kq≤k)∧jrb w w')
 case atStart=>exact ⟨(a1),(sq),H',⟨Nat.le_refl _⟩,Y4⟩
 case round =>
  clear H'
  try clear p2
  obtain ⟨x1_1,rfl,HA,HK1,⟨m1,rfl⟩⟩:=hrel
  cases gk with
  | zero=>exact absurd HA.out (by simp [jBb.l0])
  | succ k1 =>
   have H:=HA.out
   clear HA
   simp only [jBb.l0] at H
   by_cases c3:0≤x1_1
   ·rw [if_pos c3] at H
    have c3b0:decide (0≤x1_1)=true:=dzT c3
    clear c3
    by_cases c4:x1_1<(l0.length:Int)
    ·rw [if_pos c4] at H
     have c4b0:decide (x1_1<(l0.length:Int))=true:=dzT c4
     clear c4
     by_cases c5:((jc l0 x1_1).f1)=7
     ·rw [if_pos c5] at H
      have c5b0:(((jc l0 x1_1).f1) == 7)=true:=beq_iff_eq.mpr c5
      have c5b1:(((jc l0 x1_1).f1) != 7)=false:=bne_eq_false_iff_eq.mpr c5
      clear c5
      obtain rfl:=Option.some.inj H
      have p585:0≤(x1_1:Int):=ozD (uq)
      have q585:x1_1<(l0.length:Int):=ozD (uq)
      obtain ⟨ad585,e585,hx585_0,hx585_1,hx585_2,hx585_3⟩:=jpa HR0.out x1_1 p585 q585
      cases e585
      replace p585:=ezT p585
      replace q585:=ezT q585
      go_wp2
      go_ret
      exact ⟨sq,Y4⟩
     ·rw [if_neg c5] at H
      have c5b0:(((jc l0 x1_1).f1) == 7)=false:=beq_eq_false_iff_ne.mpr c5
      have c5b1:(((jc l0 x1_1).f1) != 7)=true:=bne_iff_ne.mpr c5
      replace H:=bzS H
      obtain ⟨t586,A60,H⟩:=H
      replace H:(jBb.l0 k1 l0 t586)=some r:=H
      have A6:=am A60
      clear A60
      have H':=am H
      clear H
      have p585:0≤(x1_1:Int):=ozD (uq)
      have q585:x1_1<(l0.length:Int):=ozD (uq)
      obtain ⟨ad585,e585,hx585_0,hx585_1,hx585_2,hx585_3⟩:=jpa HR0.out x1_1 p585 q585
      cases e585
      replace p585:=ezT p585
      replace q585:=ezT q585
      go_wp2_with (first |((with_reducible refine jd (f:=97) rfl ?_);refine gL (some 13) Try.func97 #[.slice (some ad585) l0.length c0, .int .i64 x1_1] ?_;(with_reducible refine (jfb.calls k1 _ _ l0 x1_1 t586 _ ?side1 ?side2 A6.out).mono ?_);(case side1=>exact Y35);(case side2=>exact HC0.out);rintro e w' ⟨rfl,⟨nd,rfl⟩⟩;refine ⟨_,rfl,?_⟩))
      go_roundg k1
      case measure=>have:=HK1.out;omega
      case rel=>exact ⟨(t586),(sq),H',⟨by have:=HK1.out;omega⟩,Y4⟩
    ·rw [if_neg c4] at H
     exact absurd H (by simp)
   ·rw [if_neg c3] at H
    exact absurd H (by simp)
def jnb.j0 : Nat → List (S36) → Int → Bool → Option (Int)
 | 0,_,_,_=>none
 | k+1,x0,x1,x27=>if x27=true then (some (-1)) else ((jBb.f k x0 x1).bind fun t590=>((jwa.f k x0 t590).bind fun t591=>(if 0≤(wrap64 ((t591.length:Int) - 1)) then (if (wrap64 ((t591.length:Int) - 1))<(t591.length:Int) then (if 0≤(rd t591 (wrap64 ((t591.length:Int) - 1))) then (if (rd t591 (wrap64 ((t591.length:Int) - 1)))<(x0.length:Int) then (if ((jc x0 (rd t591 (wrap64 ((t591.length:Int) - 1)))).f1)=10 then (some (rd t591 (wrap64 ((t591.length:Int) - 1)))) else (some (-1))) else (none)) else (none)) else (none)) else (none))))
def jnb.f (k : Nat) (l0 : List (S36)) (a1 : Int) : Option (Int) := if 0 ≤ a1 then (if a1 < (l0.length : Int) then (if ((jc l0 a1).f1) = 11 then (some a1) else (if ((jc l0 a1).f1) = 12 then (jnb.j0 k l0 a1 true) else (jnb.j0 k l0 a1 (((jc l0 a1).f1) == 10)))) else (none)) else (none)
set_option maxHeartbeats 8000000 in
set_option maxRecDepth 100000 in
theorem jnb.calls (k : Nat) (A0 : Option Addr) (c0 : Nat) (l0 : List (S36)) (a1 : Int) (r : Int) (w : World) (hr0 : Kd.C k36 w A0 l0.length l0) (hc0 : l0.length ≤ c0) (h : jnb.f k l0 a1 = some r) :
  Calls Try.prog 62 #[.slice A0 l0.length c0, .int .i64 a1] w fun e w'=>e=.returned (.int .i64 r)∧Below w.heap.size w w':=by
 have HR0:=am hr0
 have HC0:=am hc0
 clear hr0 hc0
 have HB:=am (Below.refl w.heap.size w)
 have H:(if 0≤a1 then (if a1<(l0.length:Int) then (if ((jc l0 a1).f1)=11 then (some a1) else (if ((jc l0 a1).f1)=12 then (jnb.j0 k l0 a1 true) else (jnb.j0 k l0 a1 (((jc l0 a1).f1) == 10)))) else (none)) else (none))=some r:=h
 clear h
 by_cases c3:0≤a1
 ·rw [if_pos c3] at H
  have c3b0:decide (0≤a1)=true:=dzT c3
  clear c3
  by_cases c4:a1<(l0.length:Int)
  ·rw [if_pos c4] at H
   have c4b0:decide (a1<(l0.length:Int))=true:=dzT c4
   clear c4
   by_cases c5:((jc l0 a1).f1)=11
   ·rw [if_pos c5] at H
    have c5b0:(((jc l0 a1).f1) == 11)=true:=beq_iff_eq.mpr c5
    have c5b1:(((jc l0 a1).f1) != 11)=false:=bne_eq_false_iff_eq.mpr c5
    clear c5
    obtain rfl:=Option.some.inj H
    have p587:0≤(a1:Int):=ozD (uq)
    have q587:a1<(l0.length:Int):=ozD (uq)
    obtain ⟨ad587,e587,hx587_0,hx587_1,hx587_2,hx587_3⟩:=jpa HR0.out a1 p587 q587
    cases e587
    replace p587:=ezT p587
    replace q587:=ezT q587
    go_enter Try.func62,Try.ntmps62
    go_wp2
    go_ret
    exact ⟨Y0,bq⟩
   ·rw [if_neg c5] at H
    have c5b0:(((jc l0 a1).f1) == 11)=false:=beq_eq_false_iff_ne.mpr c5
    have c5b1:(((jc l0 a1).f1) != 11)=true:=bne_iff_ne.mpr c5
    have HC6:=am H
    clear H
    have p587:0≤(a1:Int):=ozD (uq)
    have q587:a1<(l0.length:Int):=ozD (uq)
    obtain ⟨ad587,e587,hx587_0,hx587_1,hx587_2,hx587_3⟩:=jpa HR0.out a1 p587 q587
    cases e587
    replace p587:=ezT p587
    replace q587:=ezT q587
    go_enter Try.func62,Try.ntmps62
    go_upto_region 3 with (fail)
    go_cut [27] (fun v27 wc=>∃ (kq:Nat) (x27_5:Bool),v27=.bool x27_5∧jl (jnb.j0 kq l0 a1 x27_5=some r)∧jl (kq≤k)∧jl (Below w.heap.size w wc))
    case first =>
     have H:=HC6.out
     clear HC6
     by_cases c7:((jc l0 a1).f1)=12
     ·rw [if_pos c7] at H
      have c7b0:(((jc l0 a1).f1) == 12)=true:=beq_iff_eq.mpr c7
      have c7b1:(((jc l0 a1).f1) != 12)=false:=bne_eq_false_iff_eq.mpr c7
      clear c7
      (first | rw [c7b0] |(simp only [jmb,jub];rw [c7b0]) | skip)
      have H':=am H
      clear H
      have p588:0≤(a1:Int):=ozD (uq)
      have q588:a1<(l0.length:Int):=ozD (uq)
      obtain ⟨ad588,e588,hx588_0,hx588_1,hx588_2,hx588_3⟩:=jpa HR0.out a1 p588 q588
      obtain rfl:ad587=ad588:=(by injection e588)
      replace hx588_0:=cb HB.out hx588_0
      replace hx588_1:=cb HB.out hx588_1
      replace hx588_2:=cb HB.out hx588_2
      replace hx588_3:=cb HB.out hx588_3
      replace p588:=ezT p588
      replace q588:=ezT q588
      go_wp2
      go_meet
      case rel=>exact ⟨_,(true),(sq),H',⟨Y21⟩,⟨bq⟩⟩
     ·rw [if_neg c7] at H
      have c7b0:(((jc l0 a1).f1) == 12)=false:=beq_eq_false_iff_ne.mpr c7
      have c7b1:(((jc l0 a1).f1) != 12)=true:=bne_iff_ne.mpr c7
      (first | rw [c7b0] |(simp only [jmb,jub];rw [c7b0]) | skip)
      have H':=am H
      clear H
      have p588:0≤(a1:Int):=ozD (uq)
      have q588:a1<(l0.length:Int):=ozD (uq)
      obtain ⟨ad588,e588,hx588_0,hx588_1,hx588_2,hx588_3⟩:=jpa HR0.out a1 p588 q588
      obtain rfl:ad587=ad588:=(by injection e588)
      replace hx588_0:=cb HB.out hx588_0
      replace hx588_1:=cb HB.out hx588_1
      replace hx588_2:=cb HB.out hx588_2
      replace hx588_3:=cb HB.out hx588_3
      replace p588:=ezT p588
      replace q588:=ezT q588
      have p589:0≤(a1:Int):=ozD (uq)
      have q589:a1<(l0.length:Int):=ozD (uq)
      obtain ⟨ad589,e589,hx589_0,hx589_1,hx589_2,hx589_3⟩:=jpa HR0.out a1 p589 q589
      obtain rfl:ad587=ad589:=(by injection e589)
      replace hx589_0:=cb HB.out hx589_0
      replace hx589_1:=cb HB.out hx589_1
      replace hx589_2:=cb HB.out hx589_2
      replace hx589_3:=cb HB.out hx589_3
      replace p589:=ezT p589
      replace q589:=ezT q589
      go_wp2
      go_meet
      case rel=>exact ⟨_,((((jc l0 a1).f1) == 10)),(sq),H',⟨Y21⟩,⟨bq⟩⟩
    case rest =>
     clear HC6
     try clear p2
     try clear c3
     try clear c3b0
     try clear c4
     try clear c4b0
     try clear c5
     try clear c5b0
     try clear c5b1
     try clear p5
     try clear q5
     try clear hx5
     try clear c6
     try clear c7
     try clear c7b0
     try clear c7b1
     try clear hx587_0
     try clear hx587_1
     try clear hx587_2
     try clear hx587_3
     try clear hx588_0
     try clear hx588_1
     try clear hx588_2
     try clear hx588_3
     try clear hx589_0
     try clear hx589_1
     try clear hx589_2
     try clear hx589_3
     try clear p587
     try clear p588
     try clear p589
     try clear q587
     try clear q588
     try clear q589
     obtain ⟨kq,x27_5,rfl,HA,HJ5,HB⟩:=hcut
     cases kq with
     | zero=>exact absurd HA.out (by simp [jnb.j0])
     | succ kj5 =>
      have H:=HA.out
      clear HA
      simp only [jnb.j0] at H
      by_cases c8:x27_5=true
      ·subst c8
       have H1:(some (-1))=some r:=by rw [if_pos rfl] at H;exact H
       clear H
       have H:=H1
       clear H1
       obtain rfl:=Option.some.inj H
       go_wp2
       go_ret
       exact ⟨Y0,bq⟩
      ·replace c8:=Bool.eq_false_iff.mpr c8
       subst c8
       have H1:((jBb.f kj5 l0 a1).bind fun t590=>((jwa.f kj5 l0 t590).bind fun t591=>(if 0≤(wrap64 ((t591.length:Int) - 1)) then (if (wrap64 ((t591.length:Int) - 1))<(t591.length:Int) then (if 0≤(rd t591 (wrap64 ((t591.length:Int) - 1))) then (if (rd t591 (wrap64 ((t591.length:Int) - 1)))<(l0.length:Int) then (if ((jc l0 (rd t591 (wrap64 ((t591.length:Int) - 1)))).f1)=10 then (some (rd t591 (wrap64 ((t591.length:Int) - 1)))) else (some (-1))) else (none)) else (none)) else (none)) else (none))))=some r:=by rw [if_neg (show ¬ (false=true) by decide)] at H;exact H
       clear H
       have H:=H1
       clear H1
       replace H:=bzS H
       obtain ⟨t590,A90,H⟩:=H
       replace H:((jwa.f kj5 l0 t590).bind fun t591=>(if 0≤(wrap64 ((t591.length:Int) - 1)) then (if (wrap64 ((t591.length:Int) - 1))<(t591.length:Int) then (if 0≤(rd t591 (wrap64 ((t591.length:Int) - 1))) then (if (rd t591 (wrap64 ((t591.length:Int) - 1)))<(l0.length:Int) then (if ((jc l0 (rd t591 (wrap64 ((t591.length:Int) - 1)))).f1)=10 then (some (rd t591 (wrap64 ((t591.length:Int) - 1)))) else (some (-1))) else (none)) else (none)) else (none)) else (none)))=some r:=H
       have A9:=am A90
       clear A90
       replace H:=bzS H
       obtain ⟨t591,A100,H⟩:=H
       replace H:(if 0≤(wrap64 ((t591.length:Int) - 1)) then (if (wrap64 ((t591.length:Int) - 1))<(t591.length:Int) then (if 0≤(rd t591 (wrap64 ((t591.length:Int) - 1))) then (if (rd t591 (wrap64 ((t591.length:Int) - 1)))<(l0.length:Int) then (if ((jc l0 (rd t591 (wrap64 ((t591.length:Int) - 1)))).f1)=10 then (some (rd t591 (wrap64 ((t591.length:Int) - 1)))) else (some (-1))) else (none)) else (none)) else (none)) else (none))=some r:=H
       have A10:=am A100
       clear A100
       obtain ⟨ji11,hji11⟩:∃ j_:Int,(wrap64 ((t591.length:Int) - 1))=j_:=⟨_,rfl⟩
       replace H:(if 0≤(ji11) then (if (ji11)<(t591.length:Int) then (if 0≤(rd t591 (ji11)) then (if (rd t591 (ji11))<(l0.length:Int) then (if ((jc l0 (rd t591 (ji11))).f1)=10 then (some (rd t591 (ji11))) else (some (-1))) else (none)) else (none)) else (none)) else (none))=some r:=by first |(rw [hji11] at H;exact H) |(simp only [hji11] at H ⊢;exact H)
       (try rw [hji11] at A9)
       (try rw [hji11] at A10)
       have hji11w:(IntKind.i64.wrap ((t591.length:Int) - 1))=ji11:=(jmb _).trans hji11
       by_cases c12:0≤(ji11)
       ·rw [if_pos c12] at H
        have c12b0:decide (0≤(ji11))=true:=dzT c12
        clear c12
        by_cases c13:(ji11)<(t591.length:Int)
        ·rw [if_pos c13] at H
         have c13b0:decide ((ji11)<(t591.length:Int))=true:=dzT c13
         clear c13
         by_cases c14:0≤(rd t591 (ji11))
         ·rw [if_pos c14] at H
          have c14b0:decide (0≤(rd t591 (ji11)))=true:=dzT c14
          clear c14
          by_cases c15:(rd t591 (ji11))<(l0.length:Int)
          ·rw [if_pos c15] at H
           have c15b0:decide ((rd t591 (ji11))<(l0.length:Int))=true:=dzT c15
           clear c15
           by_cases c16:((jc l0 (rd t591 (ji11))).f1)=10
           ·rw [if_pos c16] at H
            have c16b0:(((jc l0 (rd t591 (ji11))).f1) == 10)=true:=beq_iff_eq.mpr c16
            have c16b1:(((jc l0 (rd t591 (ji11))).f1) != 10)=false:=bne_eq_false_iff_eq.mpr c16
            clear c16
            obtain rfl:=Option.some.inj H
            go_wp2_with (first |((with_reducible refine jd (f:=81) rfl ?_);refine gL (some 31) Try.func81 #[.slice (some ad587) l0.length c0, .int .i64 a1] ?_;(with_reducible refine (jBb.calls kj5 _ _ l0 a1 t590 _ ?side1 ?side2 A9.out).mono ?_);(case side1=>exact cq (Kd.jN HR0.out HB.out));(case side2=>exact HC0.out);rintro e w' ⟨rfl,⟨nd,rfl⟩⟩;refine ⟨_,rfl,?_⟩) |((with_reducible refine jd (f:=71) rfl ?_);refine gL (some 32) Try.func71 #[.slice (some ad587) l0.length c0, .int .i64 t590] ?_;(with_reducible refine (jwa.calls kj5 _ _ l0 t590 t591 _ ?side1 ?side2 A10.out).mono ?_);(case side1=>exact cq (Kd.jN HR0.out (bq)));(case side2=>exact HC0.out);rintro e w17 ⟨v592,rfl,ho0,hb⟩;refine ⟨_,rfl,?_⟩;have HO593:=am (Kd.jV ho0 (jT (bq)));replace HB:=am (je (bq) hb);(try clear hb);(try clear hb2);(try clear hk);(try clear hi);(try clear ho0);obtain ⟨Ao18,co18,eo18⟩:=Kd.jca HO593.out;subst eo18;have p594:0≤((ji11):Int):=ozD (uq);have q594:(ji11)<(t591.length:Int):=ozD (uq);obtain ⟨ad594,e594,hx594_0⟩:=Kd.jhb (Kd.jq HO593.out).2.2 (ji11) p594 q594;cases e594;replace p594:=ezT p594;replace q594:=ezT q594;have p595:0≤((rd t591 (ji11)):Int):=ozD (uq);have q595:(rd t591 (ji11))<(l0.length:Int):=ozD (uq);obtain ⟨ad595,e595,hx595_0,hx595_1,hx595_2,hx595_3⟩:=jpa HR0.out (rd t591 (ji11)) p595 q595;obtain rfl:ad587=ad595:=(by injection e595);replace hx595_0:=cb HB.out hx595_0;replace hx595_1:=cb HB.out hx595_1;replace hx595_2:=cb HB.out hx595_2;replace hx595_3:=cb HB.out hx595_3;replace p595:=ezT p595;replace q595:=ezT q595))
            go_ret
            exact ⟨Y135,bq⟩
           ·rw [if_neg c16] at H
            have c16b0:(((jc l0 (rd t591 (ji11))).f1) == 10)=false:=beq_eq_false_iff_ne.mpr c16
            have c16b1:(((jc l0 (rd t591 (ji11))).f1) != 10)=true:=bne_iff_ne.mpr c16
            obtain rfl:=Option.some.inj H
            go_wp2_with (first |((with_reducible refine jd (f:=81) rfl ?_);refine gL (some 31) Try.func81 #[.slice (some ad587) l0.length c0, .int .i64 a1] ?_;(with_reducible refine (jBb.calls kj5 _ _ l0 a1 t590 _ ?side1 ?side2 A9.out).mono ?_);(case side1=>exact cq (Kd.jN HR0.out HB.out));(case side2=>exact HC0.out);rintro e w' ⟨rfl,⟨nd,rfl⟩⟩;refine ⟨_,rfl,?_⟩) |((with_reducible refine jd (f:=71) rfl ?_);refine gL (some 32) Try.func71 #[.slice (some ad587) l0.length c0, .int .i64 t590] ?_;(with_reducible refine (jwa.calls kj5 _ _ l0 t590 t591 _ ?side1 ?side2 A10.out).mono ?_);(case side1=>exact cq (Kd.jN HR0.out (bq)));(case side2=>exact HC0.out);rintro e w19 ⟨v592,rfl,ho0,hb⟩;refine ⟨_,rfl,?_⟩;have HO593:=am (Kd.jV ho0 (jT (bq)));replace HB:=am (je (bq) hb);(try clear hb);(try clear hb2);(try clear hk);(try clear hi);(try clear ho0);obtain ⟨Ao20,co20,eo20⟩:=Kd.jca HO593.out;subst eo20;have p594:0≤((ji11):Int):=ozD (uq);have q594:(ji11)<(t591.length:Int):=ozD (uq);obtain ⟨ad594,e594,hx594_0⟩:=Kd.jhb (Kd.jq HO593.out).2.2 (ji11) p594 q594;cases e594;replace p594:=ezT p594;replace q594:=ezT q594;have p595:0≤((rd t591 (ji11)):Int):=ozD (uq);have q595:(rd t591 (ji11))<(l0.length:Int):=ozD (uq);obtain ⟨ad595,e595,hx595_0,hx595_1,hx595_2,hx595_3⟩:=jpa HR0.out (rd t591 (ji11)) p595 q595;obtain rfl:ad587=ad595:=(by injection e595);replace hx595_0:=cb HB.out hx595_0;replace hx595_1:=cb HB.out hx595_1;replace hx595_2:=cb HB.out hx595_2;replace hx595_3:=cb HB.out hx595_3;replace p595:=ezT p595;replace q595:=ezT q595))
            go_ret
            exact ⟨Y135,bq⟩
          ·rw [if_neg c15] at H
           exact absurd H (by simp)
         ·rw [if_neg c14] at H
          exact absurd H (by simp)
        ·rw [if_neg c13] at H
         exact absurd H (by simp)
       ·rw [if_neg c12] at H
        exact absurd H (by simp)
  ·rw [if_neg c4] at H
   exact absurd H (by simp)
 ·rw [if_neg c3] at H
  exact absurd H (by simp)
def jLa.l0 : Nat → List (S36) → List Int → List Int → Int → Option (List Int)
 | 0,_,_,_,_=>none
 | k+1,x0,x1,x5,x6=>if x6<(x1.length:Int) then (if 0≤x6 then ((jnb.f k x0 (rd x1 x6)).bind fun t600=>(if t600≥0 then (if x5.length<17592186044416 then (jLa.l0 k x0 x1 (x5 ++ [t600]) (wrap64 (x6+1))) else (none)) else (jLa.l0 k x0 x1 x5 (wrap64 (x6+1))))) else (none)) else (some x5)
def jLa.f (k : Nat) (l0 : List (S36)) (l1 : List Int) : Option (List Int) := jLa.l0 k l0 l1 (([] : List Int)) 0
set_option maxHeartbeats 8000000 in
set_option maxRecDepth 100000 in
theorem jLa.calls (k : Nat) (A0 : Option Addr) (c0 : Nat) (l0 : List (S36)) (A1 : Option Addr) (c1 : Nat) (l1 : List Int) (r : List Int) (w : World) (hr0 : Kd.C k36 w A0 l0.length l0) (hc0 : l0.length ≤ c0) (hr1 : Kd.C (Kd.int .i64) w A1 l1.length l1) (hc1 : l1.length ≤ c1) (h : jLa.f k l0 l1 = some r) :
  Calls Try.prog 34 #[.slice A0 l0.length c0, .slice A1 l1.length c1] w fun e w'=>∃ v0_:Value,e=.returned (v0_)∧Kd.R (Kd.int .i64) 3 w' w.heap.size (fun _=>True) v0_ r∧Below w.heap.size w w':=by
 have HR0:=am hr0
 have HC0:=am hc0
 clear hr0 hc0
 have HR1:=am hr1
 have HC1:=am hc1
 clear hr1 hc1
 have HB:=am (Below.refl w.heap.size w)
 have H:(jLa.l0 k l0 l1 (([]:List Int)) 0)=some r:=h
 clear h
 obtain ⟨y596,hy596⟩:∃ y_:List Int,y_=(([]:List Int)):=⟨_,rfl⟩
 replace H:(jLa.l0 k l0 l1 y596 0)=some r:=by first |(rw [hy596];with_reducible exact H) |(have H2_:=(Option.bind_some _ _).symm.trans H;rw [hy596];with_reducible exact H2_) |(have H2_:=(Option.bind_some _ _).symm.trans H;with_reducible exact H2_) | with_reducible exact H |(rw [hy596];exact H) | exact H
 have Ny596:=am hy596
 clear hy596
 have H':=am H
 clear H
 go_enter Try.func34,Try.ntmps34
 go_wp2_with (first |((with_reducible refine jJ (N:=8) rfl ?_);refine Kd.jtc (Kd.int .i64) _ 3 ?hg (N:=8) ?hd (xs:=([]:List Int)) (inner:=[]) (ok:=fun _=>True) (okp:=fun _=>True) ?hr ?hp (fun _ hk=>hk) trivial (Below.refl _ _) (Nat.le_refl _) (by simp) ?_;(case hd=>rfl);(case hg=>rfl);(case hr=>exact Y6);(case hp=>exact (Reps.none _ _));intro v597 w3 ho4 hb hg_ hnew_;clear hg_ hnew_;(first | rw [← Ny596.out] at ho4 |(simp only [Int.reduceToNat] at ho4;rw [← Ny596.out] at ho4));have HO598:=am (Kd.jV ho4 (jT (bq)));replace HB:=am (je (bq) hb);clear hb ho4))
 go_loopg [5,6] k (fun kq v5 v6 w'=>∃ (x5_1:List Int) (x6_1:Int),v6=.int .i64 x6_1∧jl (jLa.l0 kq l0 l1 x5_1 x6_1=some r)∧jl (kq≤k)∧jl (Kd.R (Kd.int .i64) 3 w' w.heap.size (fun _=>True) v5 x5_1)∧jl (Below w.heap.size w w'))
 case atStart=>exact ⟨(y596),(0),(sq),H',⟨Nat.le_refl _⟩,⟨rq HO598.out⟩,⟨bq⟩⟩
 case round =>
  clear H'
  try clear c1
  try clear p2
  try clear c3
  obtain ⟨x5_1,x6_1,rfl,HA,HK1,HO_5,HB⟩:=hrel
  cases gk with
  | zero=>exact absurd HA.out (by simp [jLa.l0])
  | succ k1 =>
   have H:=HA.out
   clear HA
   simp only [jLa.l0] at H
   by_cases c5:x6_1<(l1.length:Int)
   ·rw [if_pos c5] at H
    have c5b0:decide (x6_1<(l1.length:Int))=true:=dzT c5
    clear c5
    by_cases c6:0≤x6_1
    ·rw [if_pos c6] at H
     have c6b0:decide (0≤x6_1)=true:=dzT c6
     clear c6
     replace H:=bzS H
     obtain ⟨t600,A70,H⟩:=H
     replace H:(if t600≥0 then (if x5_1.length<17592186044416 then (jLa.l0 k1 l0 l1 (x5_1 ++ [t600]) (wrap64 (x6_1+1))) else (none)) else (jLa.l0 k1 l0 l1 x5_1 (wrap64 (x6_1+1))))=some r:=H
     have A7:=am A70
     clear A70
     by_cases c8:t600≥0
     ·rw [if_pos c8] at H
      have c8b0:decide (0≤t600)=true:=dzT c8
      clear c8
      by_cases c9:x5_1.length<17592186044416
      ·rw [if_pos c9] at H
       have LMc9:=am c9
       clear c9
       obtain ⟨y601,hy601⟩:∃ y_:List Int,y_=(x5_1 ++ [t600]):=⟨_,rfl⟩
       replace H:(jLa.l0 k1 l0 l1 y601 (wrap64 (x6_1+1)))=some r:=by first |(rw [hy601];with_reducible exact H) |(have H2_:=(Option.bind_some _ _).symm.trans H;rw [hy601];with_reducible exact H2_) |(have H2_:=(Option.bind_some _ _).symm.trans H;with_reducible exact H2_) | with_reducible exact H |(rw [hy601];exact H) | exact H
       have Ny601:=am hy601
       clear hy601
       have H':=am H
       clear H
       have p599:0≤(x6_1:Int):=ozD (uq)
       have q599:x6_1<(l1.length:Int):=ozD (uq)
       obtain ⟨ad599,e599,hx599_0⟩:=Kd.jhb HR1.out x6_1 p599 q599
       cases e599
       replace hx599_0:=cb HB.out hx599_0
       replace p599:=ezT p599
       replace q599:=ezT q599
       go_wp2_with (first |((with_reducible refine jd (f:=62) rfl ?_);refine gL (some 20) Try.func62 #[.slice A0 l0.length c0, .int .i64 (rd l1 x6_1)] ?_;(with_reducible refine (jnb.calls k1 _ _ l0 (rd l1 x6_1) t600 _ ?side1 ?side2 A7.out).mono ?_);(case side1=>exact cq (Kd.jN HR0.out HB.out));(case side2=>exact HC0.out);rintro e w10 ⟨rfl,hb⟩;refine ⟨_,rfl,?_⟩;replace HO_5:=am (Kd.jda (rq HO_5.out) hb);replace HB:=am (je (bq) hb);(try clear hb);(try clear hb2);(try clear hk);(try clear hi)) |((with_reducible refine jNa (b:=.append) (xs:=#[.tmp 23, .tmp 25]) rfl ?_);at_builtin;refine Kd.jbc (Kd.int .i64) (w0:=w) w.heap.size rfl (.tmp 23) (.tmp 25) 29 3 (.int .i64 0) 8 rfl Try.underlying29 info3 rfl (by decide) (by omega) u5 x5_1 t600 [.int .i64 t600] (fun _=>True) (fun _=>False) rfl rfl ?aP (fun _ hk=>hk.elim) ?aF ?aO ?aB ?aS ?aL ?_;(case aP=>exact rfl);(case aB=>exact (bq));(case aF=>exact (fun _ _=>trivial));(case aO=>exact (rq HO_5.out));(case aS=>exact (jT (bq)));(case aL=>have:=LMc9.out;omega);intro v602 w11 ho hb hg hat;rw [← Ny601.out] at ho;have n0_:=am (hb);have n1_:=am (ho);clear HB HO_5;have HB:=n0_;have HO603:=n1_;clear n0_ n1_ ho hb hg hat))
       go_roundg k1
       case measure=>have:=HK1.out;omega
       case rel=>exact ⟨(y601),(wrap64 (x6_1+1)),(sq),H',⟨by have:=HK1.out;omega⟩,⟨rq HO603.out⟩,⟨bq⟩⟩
      ·rw [if_neg c9] at H
       exact absurd H (by simp)
     ·rw [if_neg c8] at H
      have c8b0:decide (0≤t600)=false:=dzF c8
      clear c8
      have H':=am H
      clear H
      have p599:0≤(x6_1:Int):=ozD (uq)
      have q599:x6_1<(l1.length:Int):=ozD (uq)
      obtain ⟨ad599,e599,hx599_0⟩:=Kd.jhb HR1.out x6_1 p599 q599
      cases e599
      replace hx599_0:=cb HB.out hx599_0
      replace p599:=ezT p599
      replace q599:=ezT q599
      go_wp2_with (first |((with_reducible refine jd (f:=62) rfl ?_);refine gL (some 20) Try.func62 #[.slice A0 l0.length c0, .int .i64 (rd l1 x6_1)] ?_;(with_reducible refine (jnb.calls k1 _ _ l0 (rd l1 x6_1) t600 _ ?side1 ?side2 A7.out).mono ?_);(case side1=>exact cq (Kd.jN HR0.out HB.out));(case side2=>exact HC0.out);rintro e w12 ⟨rfl,hb⟩;refine ⟨_,rfl,?_⟩;replace HO_5:=am (Kd.jda (rq HO_5.out) hb);replace HB:=am (je (bq) hb);(try clear hb);(try clear hb2);(try clear hk);(try clear hi)))
      go_roundg k1
      case measure=>have:=HK1.out;omega
      case rel=>exact ⟨(x5_1),(wrap64 (x6_1+1)),(sq),H',⟨by have:=HK1.out;omega⟩,⟨rq HO_5.out⟩,⟨bq⟩⟩
    ·rw [if_neg c6] at H
     exact absurd H (by simp)
   ·rw [if_neg c5] at H
    have c5b0:decide (x6_1<(l1.length:Int))=false:=dzF c5
    clear c5
    obtain rfl:=Option.some.inj H
    go_wp2
    go_ret
    exact ⟨_,Y0,rq HO_5.out,bq⟩
def jza.l0 : Nat → List (S36) → List Int → Int → Int → Option (List Int)
 | 0,_,_,_,_=>none
 | k+1,x0,x5,x6,x7=>if x7≥0 then (if 0≤x7 then (if x7<(x0.length:Int) then (if ((jc x0 x7).f0)<x6 then (if x5.length<17592186044416 then (jza.l0 k x0 (x5 ++ [x7]) ((jc x0 x7).f0) (wrap64 (x7 - 1))) else (none)) else (jza.l0 k x0 x5 x6 (wrap64 (x7 - 1)))) else (none)) else (none)) else (some x5)
def jza.f (k : Nat) (l0 : List (S36)) (a1 : Int) : Option (List Int) := if 0 ≤ a1 then (if a1 < (l0.length : Int) then (jza.l0 k l0 (([] : List Int)) ((jc l0 a1).f0) (wrap64 (a1 - 1))) else (none)) else (none)
set_option maxHeartbeats 8000000 in
set_option maxRecDepth 100000 in
theorem jza.calls (k : Nat) (A0 : Option Addr) (c0 : Nat) (l0 : List (S36)) (a1 : Int) (r : List Int) (w : World) (hr0 : Kd.C k36 w A0 l0.length l0) (hc0 : l0.length ≤ c0) (h : jza.f k l0 a1 = some r) :
  Calls Try.prog 35 #[.slice A0 l0.length c0, .int .i64 a1] w fun e w'=>∃ v0_:Value,e=.returned (v0_)∧Kd.R (Kd.int .i64) 3 w' w.heap.size (fun _=>True) v0_ r∧Below w.heap.size w w':=by
 have HR0:=am hr0
 have HC0:=am hc0
 clear hr0 hc0
 have HB:=am (Below.refl w.heap.size w)
 have H:(if 0≤a1 then (if a1<(l0.length:Int) then (jza.l0 k l0 (([]:List Int)) ((jc l0 a1).f0) (wrap64 (a1 - 1))) else (none)) else (none))=some r:=h
 clear h
 obtain ⟨y604,hy604⟩:∃ y_:List Int,y_=(([]:List Int)):=⟨_,rfl⟩
 replace H:(if 0≤a1 then (if a1<(l0.length:Int) then (jza.l0 k l0 y604 ((jc l0 a1).f0) (wrap64 (a1 - 1))) else (none)) else (none))=some r:=by first |(rw [hy604];with_reducible exact H) |(have H2_:=(Option.bind_some _ _).symm.trans H;rw [hy604];with_reducible exact H2_) |(have H2_:=(Option.bind_some _ _).symm.trans H;with_reducible exact H2_) | with_reducible exact H |(rw [hy604];exact H) | exact H
 have Ny604:=am hy604
 clear hy604
 by_cases c3:0≤a1
 ·rw [if_pos c3] at H
  have c3b0:decide (0≤a1)=true:=dzT c3
  clear c3
  by_cases c4:a1<(l0.length:Int)
  ·rw [if_pos c4] at H
   have c4b0:decide (a1<(l0.length:Int))=true:=dzT c4
   clear c4
   have H':=am H
   clear H
   go_enter Try.func35,Try.ntmps35
   go_wp2_with (first |((with_reducible refine jJ (N:=8) rfl ?_);refine Kd.jtc (Kd.int .i64) _ 3 ?hg (N:=8) ?hd (xs:=([]:List Int)) (inner:=[]) (ok:=fun _=>True) (okp:=fun _=>True) ?hr ?hp (fun _ hk=>hk) trivial (Below.refl _ _) (Nat.le_refl _) (by simp) ?_;(case hd=>rfl);(case hg=>rfl);(case hr=>exact Y6);(case hp=>exact (Reps.none _ _));intro v605 w5 ho6 hb hg_ hnew_;clear hg_ hnew_;(first | rw [← Ny604.out] at ho6 |(simp only [Int.reduceToNat] at ho6;rw [← Ny604.out] at ho6));have HO606:=am (Kd.jV ho6 (jT (bq)));replace HB:=am (je (bq) hb);clear hb ho6;have p607:0≤(a1:Int):=ozD (uq);have q607:a1<(l0.length:Int):=ozD (uq);obtain ⟨ad607,e607,hx607_0,hx607_1,hx607_2,hx607_3⟩:=jpa HR0.out a1 p607 q607;cases e607;replace hx607_0:=cb HB.out hx607_0;replace hx607_1:=cb HB.out hx607_1;replace hx607_2:=cb HB.out hx607_2;replace hx607_3:=cb HB.out hx607_3;replace p607:=ezT p607;replace q607:=ezT q607))
   go_loopg [5,6,7] k (fun kq v5 v6 v7 w'=>∃ (x5_1:List Int) (x6_1:Int) (x7_1:Int),v6=.int .i64 x6_1∧v7=.int .i64 x7_1∧jl (jza.l0 kq l0 x5_1 x6_1 x7_1=some r)∧jl (kq≤k)∧jl (Kd.R (Kd.int .i64) 3 w' w.heap.size (fun _=>True) v5 x5_1)∧jl (Below w.heap.size w w'))
   case atStart=>exact ⟨(y604),((jc l0 a1).f0),(wrap64 (a1 - 1)),(sq),(sq),H',⟨Nat.le_refl _⟩,⟨rq HO606.out⟩,⟨bq⟩⟩
   case round =>
    clear H'
    try clear p2
    try clear c3
    try clear c3b0
    try clear c4
    try clear c4b0
    try clear p6
    try clear q6
    try clear hx6
    try clear hx607_0
    try clear hx607_1
    try clear hx607_2
    try clear hx607_3
    try clear p607
    try clear q607
    obtain ⟨x5_1,x6_1,x7_1,rfl,rfl,HA,HK1,HO_5,HB⟩:=hrel
    cases gk with
    | zero=>exact absurd HA.out (by simp [jza.l0])
    | succ k1 =>
     have H:=HA.out
     clear HA
     simp only [jza.l0] at H
     by_cases c7:x7_1≥0
     ·rw [if_pos c7] at H
      have c7b0:decide (0≤x7_1)=true:=dzT c7
      clear c7
      by_cases c8:0≤x7_1
      ·rw [if_pos c8] at H
       have c8b0:decide (0≤x7_1)=true:=dzT c8
       clear c8
       by_cases c9:x7_1<(l0.length:Int)
       ·rw [if_pos c9] at H
        have c9b0:decide (x7_1<(l0.length:Int))=true:=dzT c9
        clear c9
        by_cases c10:((jc l0 x7_1).f0)<x6_1
        ·rw [if_pos c10] at H
         have c10b0:decide (((jc l0 x7_1).f0)<x6_1)=true:=dzT c10
         clear c10
         by_cases c11:x5_1.length<17592186044416
         ·rw [if_pos c11] at H
          have LMc11:=am c11
          clear c11
          obtain ⟨y610,hy610⟩:∃ y_:List Int,y_=(x5_1 ++ [x7_1]):=⟨_,rfl⟩
          replace H:(jza.l0 k1 l0 y610 ((jc l0 x7_1).f0) (wrap64 (x7_1 - 1)))=some r:=by first |(rw [hy610];with_reducible exact H) |(have H2_:=(Option.bind_some _ _).symm.trans H;rw [hy610];with_reducible exact H2_) |(have H2_:=(Option.bind_some _ _).symm.trans H;with_reducible exact H2_) | with_reducible exact H |(rw [hy610];exact H) | exact H
          have Ny610:=am hy610
          clear hy610
          have H':=am H
          clear H
          have p608:0≤(x7_1:Int):=ozD (uq)
          have q608:x7_1<(l0.length:Int):=ozD (uq)
          obtain ⟨ad608,e608,hx608_0,hx608_1,hx608_2,hx608_3⟩:=jpa HR0.out x7_1 p608 q608
          obtain rfl:ad607=ad608:=(by injection e608)
          replace hx608_0:=cb HB.out hx608_0
          replace hx608_1:=cb HB.out hx608_1
          replace hx608_2:=cb HB.out hx608_2
          replace hx608_3:=cb HB.out hx608_3
          replace p608:=ezT p608
          replace q608:=ezT q608
          have p609:0≤(x7_1:Int):=ozD (uq)
          have q609:x7_1<(l0.length:Int):=ozD (uq)
          obtain ⟨ad609,e609,hx609_0,hx609_1,hx609_2,hx609_3⟩:=jpa HR0.out x7_1 p609 q609
          obtain rfl:ad607=ad609:=(by injection e609)
          replace hx609_0:=cb HB.out hx609_0
          replace hx609_1:=cb HB.out hx609_1
          replace hx609_2:=cb HB.out hx609_2
          replace hx609_3:=cb HB.out hx609_3
          replace p609:=ezT p609
          replace q609:=ezT q609
          go_wp2_with (first |((with_reducible refine jNa (b:=.append) (xs:=#[.tmp 32, .tmp 34]) rfl ?_);at_builtin;refine Kd.jbc (Kd.int .i64) (w0:=w) w.heap.size rfl (.tmp 32) (.tmp 34) 29 3 (.int .i64 0) 8 rfl Try.underlying29 info3 rfl (by decide) (by omega) u5 x5_1 x7_1 [.int .i64 x7_1] (fun _=>True) (fun _=>False) rfl rfl ?aP (fun _ hk=>hk.elim) ?aF ?aO ?aB ?aS ?aL ?_;(case aP=>exact rfl);(case aB=>exact (bq));(case aF=>exact (fun _ _=>trivial));(case aO=>exact (rq HO_5.out));(case aS=>exact (jT (bq)));(case aL=>have:=LMc11.out;omega);intro v611 w12 ho hb hg hat;rw [← Ny610.out] at ho;have n0_:=am (hb);have n1_:=am (ho);clear HB HO_5;have HB:=n0_;have HO612:=n1_;clear n0_ n1_ ho hb hg hat))
          go_roundg k1
          case measure=>have:=HK1.out;omega
          case rel=>exact ⟨(y610),((jc l0 x7_1).f0),(wrap64 (x7_1 - 1)),(sq),(sq),H',⟨by have:=HK1.out;omega⟩,⟨rq HO612.out⟩,⟨bq⟩⟩
         ·rw [if_neg c11] at H
          exact absurd H (by simp)
        ·rw [if_neg c10] at H
         have c10b0:decide (((jc l0 x7_1).f0)<x6_1)=false:=dzF c10
         clear c10
         have H':=am H
         clear H
         have p608:0≤(x7_1:Int):=ozD (uq)
         have q608:x7_1<(l0.length:Int):=ozD (uq)
         obtain ⟨ad608,e608,hx608_0,hx608_1,hx608_2,hx608_3⟩:=jpa HR0.out x7_1 p608 q608
         obtain rfl:ad607=ad608:=(by injection e608)
         replace hx608_0:=cb HB.out hx608_0
         replace hx608_1:=cb HB.out hx608_1
         replace hx608_2:=cb HB.out hx608_2
         replace hx608_3:=cb HB.out hx608_3
         replace p608:=ezT p608
         replace q608:=ezT q608
         go_wp2
         go_roundg k1
         case measure=>have:=HK1.out;omega
         case rel=>exact ⟨(x5_1),(x6_1),(wrap64 (x7_1 - 1)),(sq),(sq),H',⟨by have:=HK1.out;omega⟩,⟨rq HO_5.out⟩,⟨bq⟩⟩
       ·rw [if_neg c9] at H
        exact absurd H (by simp)
      ·rw [if_neg c8] at H
       exact absurd H (by simp)
     ·rw [if_neg c7] at H
      have c7b0:decide (0≤x7_1)=false:=dzF c7
      clear c7
      obtain rfl:=Option.some.inj H
      go_wp2
      go_ret
      exact ⟨_,Y0,rq HO_5.out,bq⟩
  ·rw [if_neg c4] at H
   exact absurd H (by simp)
 ·rw [if_neg c3] at H
  exact absurd H (by simp)
def job.l0 : Nat → List Int → Int → Int → Option (Bool)
 | 0,_,_,_=>none
 | k+1,x0,x1,x5=>if x5<(x0.length:Int) then (if 0≤x5 then (if (rd x0 x5)=x1 then (some true) else (job.l0 k x0 x1 (wrap64 (x5+1)))) else (none)) else (some false)
def job.f (k : Nat) (l0 : List Int) (a1 : Int) : Option (Bool) := job.l0 k l0 a1 0
set_option maxHeartbeats 8000000 in
set_option maxRecDepth 100000 in
theorem job.calls (k : Nat) (A0 : Option Addr) (c0 : Nat) (l0 : List Int) (a1 : Int) (r : Bool) (w : World) (hr0 : Kd.C (Kd.int .i64) w A0 l0.length l0) (hc0 : l0.length ≤ c0) (h : job.f k l0 a1 = some r) :
  Calls Try.prog 86 #[.slice A0 l0.length c0, .int .i64 a1] w fun e w'=>e=.returned (.bool r)∧jrb w w':=by
 have HR0:=am hr0
 have HC0:=am hc0
 clear hr0 hc0
 have H:(job.l0 k l0 a1 0)=some r:=h
 clear h
 have H':=am H
 clear H
 go_enter Try.func86,Try.ntmps86
 go_wp2
 go_loopg [5] k (fun kq v5 w'=>∃ (x5_1:Int),v5=.int .i64 x5_1∧jl (job.l0 kq l0 a1 x5_1=some r)∧jl (kq≤k)∧jrb w w')
 case atStart=>exact ⟨(0),(sq),H',⟨Nat.le_refl _⟩,Y4⟩
 case round =>
  clear H'
  try clear p2
  obtain ⟨x5_1,rfl,HA,HK1,⟨m1,rfl⟩⟩:=hrel
  cases gk with
  | zero=>exact absurd HA.out (by simp [job.l0])
  | succ k1 =>
   have H:=HA.out
   clear HA
   simp only [job.l0] at H
   by_cases c3:x5_1<(l0.length:Int)
   ·rw [if_pos c3] at H
    have c3b0:decide (x5_1<(l0.length:Int))=true:=dzT c3
    clear c3
    by_cases c4:0≤x5_1
    ·rw [if_pos c4] at H
     have c4b0:decide (0≤x5_1)=true:=dzT c4
     clear c4
     by_cases c5:(rd l0 x5_1)=a1
     ·rw [if_pos c5] at H
      have c5b0:((rd l0 x5_1) == a1)=true:=beq_iff_eq.mpr c5
      have c5b1:((rd l0 x5_1) != a1)=false:=bne_eq_false_iff_eq.mpr c5
      clear c5
      obtain rfl:=Option.some.inj H
      have p823:0≤(x5_1:Int):=ozD (uq)
      have q823:x5_1<(l0.length:Int):=ozD (uq)
      obtain ⟨ad823,e823,hx823_0⟩:=Kd.jhb HR0.out x5_1 p823 q823
      cases e823
      replace p823:=ezT p823
      replace q823:=ezT q823
      go_wp2
      go_ret
      exact ⟨sq,Y4⟩
     ·rw [if_neg c5] at H
      have c5b0:((rd l0 x5_1) == a1)=false:=beq_eq_false_iff_ne.mpr c5
      have c5b1:((rd l0 x5_1) != a1)=true:=bne_iff_ne.mpr c5
      have H':=am H
      clear H
      have p823:0≤(x5_1:Int):=ozD (uq)
      have q823:x5_1<(l0.length:Int):=ozD (uq)
      obtain ⟨ad823,e823,hx823_0⟩:=Kd.jhb HR0.out x5_1 p823 q823
      cases e823
      replace p823:=ezT p823
      replace q823:=ezT q823
      go_wp2
      go_roundg k1
      case measure=>have:=HK1.out;omega
      case rel=>exact ⟨(wrap64 (x5_1+1)),(sq),H',⟨by have:=HK1.out;omega⟩,Y4⟩
    ·rw [if_neg c4] at H
     exact absurd H (by simp)
   ·rw [if_neg c3] at H
    have c3b0:decide (x5_1<(l0.length:Int))=false:=dzF c3
    clear c3
    obtain rfl:=Option.some.inj H
    go_wp2
    go_ret
    exact ⟨sq,Y4⟩
end Go.Proofs.Ytkedkinojeoeaaa.P
end
