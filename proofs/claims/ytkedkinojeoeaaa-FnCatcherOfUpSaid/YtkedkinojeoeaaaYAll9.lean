/- One part of the proofs on this program: functions of the program as plain functions, that the code comes to them, and facts on them. -/
import Derived.Test.YtkedkinojeoeaaaYAll1
import Derived.Test.YtkedkinojeoeaaaYAll5
import Derived.Test.YtkedkinojeoeaaaYAll6
import Derived.Test.YtkedkinojeoeaaaYAll7
import Derived.Test.YtkedkinojeoeaaaYAll8
import Derived.Test.YtkedkinojeoeaaaYWAuto
section
namespace Go.Proofs.Ytkedkinojeoeaaa.P
open Go.RowKit Go.Proofs.YtkedkinojeoeaaaW.PrintWords Go.Proofs.YtkedkinojeoeaaaW.PrintLast Go.Proofs.YtkedkinojeoeaaaW.PrintMore
attribute [local go_sem] jqa joa jCa jBa jaa jZ jpa jna jk
set_option linter.unusedVariables false
set_option linter.unusedSimpArgs false
def jY.l0 : Nat → List (S36) → Int → List Int → Int → List (S75) → Option (Int)
 | 0,_,_,_,_,_=>none
 | k+1,x1,x3,x9,x10,x851000=>if x10<(x9.length:Int) then (if 0≤x10 then ((jca.f k x851000 x1 (rd x9 x10) x3).bind fun t856=>(if t856≥0 then (some t856) else (jY.l0 k x1 x3 x9 (wrap64 (x10+1)) x851000))) else (none)) else (some (-1))
def jY.f (k : Nat) (l0_0 : List (S75)) (l1 : List (S36)) (a2 : Int) (a3 : Int) : Option (Int) := (jAb.f k l0_0 l1 a2 a3).bind fun t851 => (if t851 = true then ((jva.f k l1 a2).bind fun t852 => (jY.l0 k l1 a3 t852 0 l0_0)) else (some (-1)))
def jY.T7 : Bool × List (List Nat × List Nat) := (true, [([], []), ([], []), ([], []), ([], []), ([2, 3], [2, 3]), ([4], [4]), ([], []), ([0, 1, 5, 6], [0, 1, 5, 6]), ([7, 7, 0, 1, 2, 3, 4, 5, 6, 7], [7])])
def jY.B7 : List Nat := [0, 0, 0, 0, 12, 28, 0, 127, 255]
theorem jY.tab7 : rtab .any (opsOf Try.f20 7) = jY.T7 := by kernel_rfl
theorem jY.bits7 : juc jY.T7.2 jY.B7 = true := by kernel_rfl
set_option maxHeartbeats 8000000 in
set_option maxRecDepth 100000 in
theorem jY.calls (k : Nat) (A0_0 : Option Addr) (c0_0 : Nat) (l0_0 : List (S75)) (A1 : Option Addr) (c1 : Nat) (l1 : List (S36)) (a2 : Int) (a3 : Int) (r : Int) (w : World) (hr0_0 : Kd.C k75 w A0_0 l0_0.length l0_0) (hc0_0 : l0_0.length ≤ c0_0) (hr1 : Kd.C k36 w A1 l1.length l1) (hc1 : l1.length ≤ c1) (h : jY.f k l0_0 l1 a2 a3 = some r) :
  Calls Try.prog 20 #[.agg #[.slice A0_0 l0_0.length c0_0], .slice A1 l1.length c1, .int .i64 a2, .int .i64 a3] w fun e w'=>e=.returned (.int .i64 r)∧Below w.heap.size w w':=by
 have hu25:=Try.underlying25
 have HR0_0:=am hr0_0
 have HC0_0:=am hc0_0
 clear hr0_0 hc0_0
 have HR1:=am hr1
 have HC1:=am hc1
 clear hr1 hc1
 have HB:=am (Below.refl w.heap.size w)
 have H:((jAb.f k l0_0 l1 a2 a3).bind fun t851=>(if t851=true then ((jva.f k l1 a2).bind fun t852=>(jY.l0 k l1 a3 t852 0 l0_0)) else (some (-1))))=some r:=h
 clear h
 replace H:=bzS H
 obtain ⟨t851,A50,H⟩:=H
 replace H:(if t851=true then ((jva.f k l1 a2).bind fun t852=>(jY.l0 k l1 a3 t852 0 l0_0)) else (some (-1)))=some r:=H
 have A5:=am A50
 clear A50
 by_cases c6:t851=true
 ·subst c6
  have H1:((jva.f k l1 a2).bind fun t852=>(jY.l0 k l1 a3 t852 0 l0_0))=some r:=by rw [if_pos rfl] at H;exact H
  clear H
  have H:=H1
  clear H1
  replace H:=bzS H
  obtain ⟨t852,A70,H⟩:=H
  replace H:(jY.l0 k l1 a3 t852 0 l0_0)=some r:=H
  have A7:=am A70
  clear A70
  have H':=am H
  clear H
  go_enter Try.func20,Try.ntmps20
  go_wp2_with (first |((with_reducible refine jJ (N:=4) rfl ?_);refine bE (N:=4) (cs:=#[.slice A0_0 l0_0.length c0_0]) (t:=25) ?_;intro gb850 hg w8 hbox hb;have BK850:=am (hbox);have GW850:=am ((Y1:w.heap.size≤gb850));have GE850:=am ((Y1:w.heap.size≤gb850));replace HB:=am (jd (bq) hb);clear hb hbox hg;have hcz9_0:=bc0 BK850.out;have hfz9_0:=ja BK850.out 0) |((with_reducible refine jc (f:=50) rfl ?_);refine gL (some 16) Try.func50 #[.agg #[.slice A0_0 l0_0.length c0_0], .slice A1 l1.length c1, .int .i64 a2, .int .i64 a3] ?_;(with_reducible refine (jAb.calls k _ _ l0_0 _ _ l1 a2 a3 true _ ?side1 ?side2 ?side3 ?side4 A5.out).mono ?_);(case side1=>exact cq (Kd.jI HR0_0.out HB.out));(case side2=>exact HC0_0.out);(case side3=>exact cq (Kd.jI HR1.out HB.out));(case side4=>exact HC1.out);rintro e w10 ⟨rfl,hb⟩;refine ⟨_,rfl,?_⟩;replace BK850:=am (jh (g:=gb850) (o:=.cells #[.slice A0_0 l0_0.length c0_0] 25 (0,0)) (kq BK850.out) hb);replace HB:=am (jd (Y46) hb);(try clear hb);(try clear hb2);(try clear hk);(try clear hi)) |((with_reducible refine jc (f:=35) rfl ?_);refine gL (some 20) Try.func35 #[.slice A1 l1.length c1, .int .i64 a2] ?_;(with_reducible refine (jva.calls k _ _ l1 a2 t852 _ ?side1 ?side2 A7.out).mono ?_);(case side1=>exact cq (Kd.jI HR1.out HB.out));(case side2=>exact HC1.out);rintro e w11 ⟨v853,rfl,ho0,hb⟩;refine ⟨_,rfl,?_⟩;have HO854:=am (Kd.jW ho0 (jP (Y46)));replace BK850:=am (jh (g:=gb850) (o:=.cells #[.slice A0_0 l0_0.length c0_0] 25 (0,0)) (kq BK850.out) hb);replace HB:=am (jd (Y46) hb);(try clear hb);(try clear hb2);(try clear hk);(try clear hi);(try clear ho0)))
  go_loopg [10] k (fun kq v10 w'=>∃ (x10_1:Int),v10=.int .i64 x10_1∧jo (jY.l0 kq l1 a3 t852 x10_1 l0_0=some r)∧jo (kq≤k)∧jo (Kd.R (Kd.int .i64) 3 w' w.heap.size (fun _=>True) v853 t852)∧jo (w'.heap[gb850]?=some (.cells #[(.slice A0_0 l0_0.length c0_0)] 25 (0,0)))∧jo (Below w.heap.size w w'))
  case atStart=>exact ⟨(0),(sq),H',⟨Nat.le_refl _⟩,⟨rq HO854.out⟩,⟨kq BK850.out⟩,⟨Y46⟩⟩
  case round =>
   clear H'
   try clear c1
   try clear c2
   try clear p2
   try clear c3
   try clear c5
   try clear c6
   try clear hcz9_0
   try clear hfz9_0
   obtain ⟨x10_1,rfl,HA,HK1,HO_9,BK850,HB⟩:=hrel
   cases gk with
   | zero=>exact absurd HA.out (by simp [jY.l0])
   | succ k1 =>
    have H:=HA.out
    clear HA
    simp only [jY.l0] at H
    by_cases c12:x10_1<(t852.length:Int)
    ·rw [if_pos c12] at H
     have c12b0:decide (x10_1<(t852.length:Int))=true:=dzT c12
     clear c12
     by_cases c13:0≤x10_1
     ·rw [if_pos c13] at H
      have c13b0:decide (0≤x10_1)=true:=dzT c13
      clear c13
      replace H:=bzS H
      obtain ⟨t856,A140,H⟩:=H
      replace H:(if t856≥0 then (some t856) else (jY.l0 k1 l1 a3 t852 (wrap64 (x10_1+1)) l0_0))=some r:=H
      have A14:=am A140
      clear A140
      by_cases c15:t856≥0
      ·rw [if_pos c15] at H
       have c15b0:decide (0≤t856)=true:=dzT c15
       clear c15
       obtain rfl:=Option.some.inj H
       obtain ⟨Ao16,co16,eo16⟩:=Kd.jba HO_9.out
       subst eo16
       try go_wp2
       replace HO_9:=am (Kd.jga HO_9.out)
       replace BK850:=am (jA BK850.out)
       replace HB:=am (jD HB.out)
       have p855:0≤(x10_1:Int):=ozD (uq)
       have q855:x10_1<(t852.length:Int):=ozD (uq)
       obtain ⟨ad855,e855,hx855_0⟩:=Kd.jXa (Kd.jm HO_9.out).2.2 x10_1 p855 q855
       cases e855
       replace p855:=ezT p855
       replace q855:=ezT q855
       refine jrc (n:=9) (S:=fun w'=>w'.cell? ⟨gb850,0,none⟩=some (.slice A0_0 l0_0.length c0_0)∧w'.cell? (ad855.add (x10_1).toNat)=some (.int .i64 (rd t852 x10_1))) (ds:=[]) #[false,false,false,false,false,false,false,false,false] (by kernel_rfl) rfl rfl ⟨(jH BK850.out 0).trans rfl,hx855_0⟩ (fun hHeld=>?_);refine jpb jY.tab7 jY.bits7 (fun HT_ HW_=>?_)
       generalize wr.drew=w17 at HO_9 BK850 HB hx855_0 hHeld ⊢
       refine pq (i:=1) (N:=some 28) #[false,true,false,false,false,false,false,false,false] ?_
       refine pq (i:=2) (N:=some 29) #[false,true,true,false,false,false,false,false,false] ?_
       refine pq (i:=3) (N:=some 30) #[false,true,true,true,false,false,false,false,false] ?_
       refine pq (i:=4) (N:=some 31) #[false,true,true,true,true,false,false,false,false] ?_
       refine pq (i:=6) (N:=some 33) #[false,true,true,true,true,false,true,false,false] ?_
       refine jXb (i:=0) (N:=some 27) (v:=?_) (a':=?_) #[true,true,true,true,true,false,true,false,false] rfl rfl (jIa HT_.out HW_.out (by kernel_rfl)) (fun _ _ _ h=>h) (Or.inl ⟨by rfl,?_⟩) hHeld ?_ ?_
       rotate_left
       ·rintro w' ⟨s0,s1⟩
        go_simp
        with_reducible rfl
       rotate_left
       ·exact sa
       refine jXb (i:=5) (N:=some 32) (v:=?_) (a':=?_) #[true,true,true,true,true,true,true,false,false] rfl rfl (jIa HT_.out HW_.out (by kernel_rfl)) (fun _ _ _ h=>h) (Or.inl ⟨by rfl,?_⟩) hHeld ?_ ?_
       rotate_left
       ·rintro w' ⟨s0,s1⟩
        go_simp
        with_reducible rfl
       rotate_left
       ·exact sa
       refine one_ (i:=7) (N:=some 34) #[true,true,true,true,true,true,true,true,false] rfl rfl (jNb HT_.out (by kernel_rfl)) (by decide) (fun K hK=>?_)
       refine jSc Try.func51 (by kernel_rfl) rfl #[.agg #[.slice A0_0 l0_0.length c0_0], .slice A1 l1.length c1, .int .i64 (rd t852 x10_1), .int .i64 a3] (by rfl) rfl rfl (aq) ?_
       with_reducible refine (jca.calls k1 _ _ l0_0 _ _ l1 (rd t852 x10_1) a3 t856 _ ?side1 ?side2 ?side3 ?side4 A14.out).mono ?_
       (case side1=>exact cq (Kd.jI HR0_0.out HB.out))
       (case side2=>exact HC0_0.out)
       (case side3=>exact cq (Kd.jI HR1.out HB.out))
       (case side4=>exact HC1.out)
       rintro e w18 ⟨rfl,hb⟩
       have HS1_:=(hb.cell (World.block_lt_of_cell? _ _ (hHeld.2))).trans (hHeld.2)
       refine ⟨_,rfl,?_⟩
       replace HO_9:=am (Kd.jU (rq HO_9.out) hb)
       replace BK850:=am (jh (g:=gb850) (o:=.cells #[.slice A0_0 l0_0.length c0_0] 25 (0,0)) (kq BK850.out) hb)
       replace HB:=am (jd (Y46) hb)
       (try clear hb)
       (try clear hb2)
       (try clear hk)
       (try clear hi)
       refine hK.out _ _ ⟨(jH BK850.out 0).trans rfl,HS1_⟩ (fun hHeld=>?_)
       clear hK K
       refine jmc (a':=?_) ?_ ?_
       rotate_left
       ·show Act.put _ (some 34) _=_
        simp only [Act.put,List.setIfInBounds_toArray,List.set_cons_zero,List.set_cons_succ,jkb,job]
        rfl
       refine pq (i:=8) (N:=some 11) #[true,true,true,true,true,true,true,true,true] ?_
       refine jQc (jZb HT_.out (by kernel_rfl)) ?_
       try go_wp2
       go_ret
       exact ⟨Y0,Y46⟩
      ·rw [if_neg c15] at H
       have c15b0:decide (0≤t856)=false:=dzF c15
       clear c15
       have H':=am H
       clear H
       obtain ⟨Ao19,co19,eo19⟩:=Kd.jba HO_9.out
       subst eo19
       try go_wp2
       replace HO_9:=am (Kd.jga HO_9.out)
       replace BK850:=am (jA BK850.out)
       replace HB:=am (jD HB.out)
       have p855:0≤(x10_1:Int):=ozD (uq)
       have q855:x10_1<(t852.length:Int):=ozD (uq)
       obtain ⟨ad855,e855,hx855_0⟩:=Kd.jXa (Kd.jm HO_9.out).2.2 x10_1 p855 q855
       cases e855
       replace p855:=ezT p855
       replace q855:=ezT q855
       refine jrc (n:=9) (S:=fun w'=>w'.cell? ⟨gb850,0,none⟩=some (.slice A0_0 l0_0.length c0_0)∧w'.cell? (ad855.add (x10_1).toNat)=some (.int .i64 (rd t852 x10_1))) (ds:=[]) #[false,false,false,false,false,false,false,false,false] (by kernel_rfl) rfl rfl ⟨(jH BK850.out 0).trans rfl,hx855_0⟩ (fun hHeld=>?_);refine jpb jY.tab7 jY.bits7 (fun HT_ HW_=>?_)
       generalize wr.drew=w20 at HO_9 BK850 HB hx855_0 hHeld ⊢
       refine pq (i:=1) (N:=some 28) #[false,true,false,false,false,false,false,false,false] ?_
       refine pq (i:=2) (N:=some 29) #[false,true,true,false,false,false,false,false,false] ?_
       refine pq (i:=3) (N:=some 30) #[false,true,true,true,false,false,false,false,false] ?_
       refine pq (i:=4) (N:=some 31) #[false,true,true,true,true,false,false,false,false] ?_
       refine pq (i:=6) (N:=some 33) #[false,true,true,true,true,false,true,false,false] ?_
       refine jXb (i:=0) (N:=some 27) (v:=?_) (a':=?_) #[true,true,true,true,true,false,true,false,false] rfl rfl (jIa HT_.out HW_.out (by kernel_rfl)) (fun _ _ _ h=>h) (Or.inl ⟨by rfl,?_⟩) hHeld ?_ ?_
       rotate_left
       ·rintro w' ⟨s0,s1⟩
        go_simp
        with_reducible rfl
       rotate_left
       ·exact sa
       refine jXb (i:=5) (N:=some 32) (v:=?_) (a':=?_) #[true,true,true,true,true,true,true,false,false] rfl rfl (jIa HT_.out HW_.out (by kernel_rfl)) (fun _ _ _ h=>h) (Or.inl ⟨by rfl,?_⟩) hHeld ?_ ?_
       rotate_left
       ·rintro w' ⟨s0,s1⟩
        go_simp
        with_reducible rfl
       rotate_left
       ·exact sa
       refine one_ (i:=7) (N:=some 34) #[true,true,true,true,true,true,true,true,false] rfl rfl (jNb HT_.out (by kernel_rfl)) (by decide) (fun K hK=>?_)
       refine jSc Try.func51 (by kernel_rfl) rfl #[.agg #[.slice A0_0 l0_0.length c0_0], .slice A1 l1.length c1, .int .i64 (rd t852 x10_1), .int .i64 a3] (by rfl) rfl rfl (aq) ?_
       with_reducible refine (jca.calls k1 _ _ l0_0 _ _ l1 (rd t852 x10_1) a3 t856 _ ?side1 ?side2 ?side3 ?side4 A14.out).mono ?_
       (case side1=>exact cq (Kd.jI HR0_0.out HB.out))
       (case side2=>exact HC0_0.out)
       (case side3=>exact cq (Kd.jI HR1.out HB.out))
       (case side4=>exact HC1.out)
       rintro e w21 ⟨rfl,hb⟩
       have HS1_:=(hb.cell (World.block_lt_of_cell? _ _ (hHeld.2))).trans (hHeld.2)
       refine ⟨_,rfl,?_⟩
       replace HO_9:=am (Kd.jU (rq HO_9.out) hb)
       replace BK850:=am (jh (g:=gb850) (o:=.cells #[.slice A0_0 l0_0.length c0_0] 25 (0,0)) (kq BK850.out) hb)
       replace HB:=am (jd (Y46) hb)
       (try clear hb)
       (try clear hb2)
       (try clear hk)
       (try clear hi)
       refine hK.out _ _ ⟨(jH BK850.out 0).trans rfl,HS1_⟩ (fun hHeld=>?_)
       clear hK K
       refine jmc (a':=?_) ?_ ?_
       rotate_left
       ·show Act.put _ (some 34) _=_
        simp only [Act.put,List.setIfInBounds_toArray,List.set_cons_zero,List.set_cons_succ,jkb,job]
        rfl
       refine pq (i:=8) (N:=some 11) #[true,true,true,true,true,true,true,true,true] ?_
       refine jQc (jZb HT_.out (by kernel_rfl)) ?_
       try go_wp2
       go_roundg k1
       case measure=>have:=HK1.out;omega
       case rel=>exact ⟨(wrap64 (x10_1+1)),(sq),H',⟨by have:=HK1.out;omega⟩,⟨rq HO_9.out⟩,⟨kq BK850.out⟩,⟨Y46⟩⟩
     ·rw [if_neg c13] at H
      exact absurd H (by simp)
    ·rw [if_neg c12] at H
     have c12b0:decide (x10_1<(t852.length:Int))=false:=dzF c12
     clear c12
     obtain rfl:=Option.some.inj H
     obtain ⟨Ao22,co22,eo22⟩:=Kd.jba HO_9.out
     subst eo22
     go_wp2
     go_ret
     exact ⟨Y0,Y46⟩
 ·replace c6:=Bool.eq_false_iff.mpr c6
  subst c6
  have H1:(some (-1))=some r:=by rw [if_neg (show ¬ (false=true) by decide)] at H;exact H
  clear H
  have H:=H1
  clear H1
  obtain rfl:=Option.some.inj H
  go_enter Try.func20,Try.ntmps20
  go_wp2_with (first |((with_reducible refine jJ (N:=4) rfl ?_);refine bE (N:=4) (cs:=#[.slice A0_0 l0_0.length c0_0]) (t:=25) ?_;intro gb850 hg w23 hbox hb;have BK850:=am (hbox);have GW850:=am ((Y1:w.heap.size≤gb850));have GE850:=am ((Y1:w.heap.size≤gb850));replace HB:=am (jd (bq) hb);clear hb hbox hg;have hcz24_0:=bc0 BK850.out;have hfz24_0:=ja BK850.out 0) |((with_reducible refine jc (f:=50) rfl ?_);refine gL (some 16) Try.func50 #[.agg #[.slice A0_0 l0_0.length c0_0], .slice A1 l1.length c1, .int .i64 a2, .int .i64 a3] ?_;(with_reducible refine (jAb.calls k _ _ l0_0 _ _ l1 a2 a3 false _ ?side1 ?side2 ?side3 ?side4 A5.out).mono ?_);(case side1=>exact cq (Kd.jI HR0_0.out HB.out));(case side2=>exact HC0_0.out);(case side3=>exact cq (Kd.jI HR1.out HB.out));(case side4=>exact HC1.out);rintro e w25 ⟨rfl,hb⟩;refine ⟨_,rfl,?_⟩;replace BK850:=am (jh (g:=gb850) (o:=.cells #[.slice A0_0 l0_0.length c0_0] 25 (0,0)) (kq BK850.out) hb);replace HB:=am (jd (Y46) hb);(try clear hb);(try clear hb2);(try clear hk);(try clear hi)))
  go_ret
  exact ⟨Y0,Y46⟩
def jOb.f (l0_0 : List (S75)) (a1 : Int) : Option (Bool) := if a1 ≥ 0 then (some (decide (a1 < (l0_0.length : Int)))) else (some false)
set_option maxHeartbeats 8000000 in
set_option maxRecDepth 100000 in
theorem jOb.calls (A0_0 : Option Addr) (c0_0 : Nat) (l0_0 : List (S75)) (a1 : Int) (r : Bool) (w : World) (hr0_0 : Kd.C k75 w A0_0 l0_0.length l0_0) (hc0_0 : l0_0.length ≤ c0_0) (h : jOb.f l0_0 a1 = some r) :
  Calls Try.prog 21 #[.agg #[.slice A0_0 l0_0.length c0_0], .int .i64 a1] w fun e w'=>e=.returned (.bool r)∧Below w.heap.size w w':=by
 have hu25:=Try.underlying25
 have HR0_0:=am hr0_0
 have HC0_0:=am hc0_0
 clear hr0_0 hc0_0
 have HB:=am (Below.refl w.heap.size w)
 have H:(if a1≥0 then (some (decide (a1<(l0_0.length:Int)))) else (some false))=some r:=h
 clear h
 by_cases c3:a1≥0
 ·rw [if_pos c3] at H
  have c3b0:decide (0≤a1)=true:=dzT c3
  clear c3
  obtain rfl:=Option.some.inj H
  go_enter Try.func21,Try.ntmps21
  go_wp2_with (first |((with_reducible refine jJ (N:=2) rfl ?_);(try (refine jEc (by rfl) ?_;dsimp only));refine jHc ?hg (N:=2) ?hd (cs:=#[.slice A0_0 l0_0.length c0_0]) (t:=25) ?hr ?_;(case hd=>rfl);(case hg=>rfl);(case hr=>exact Y6);intro gb857 hg w4 hbox hb;have BK857:=am (hbox);have GW857:=am ((Y1:w.heap.size≤gb857));have GE857:=am ((Y1:w.heap.size≤gb857));replace HB:=am (jd (bq) hb);clear hb hbox hg;have hcz5_0:=bc0 BK857.out;have hfz5_0:=ja BK857.out 0))
  go_ret
  exact ⟨Y0,Y140⟩
 ·rw [if_neg c3] at H
  have c3b0:decide (0≤a1)=false:=dzF c3
  clear c3
  obtain rfl:=Option.some.inj H
  go_enter Try.func21,Try.ntmps21
  go_wp2_with (first |((with_reducible refine jJ (N:=2) rfl ?_);(try (refine jEc (by rfl) ?_;dsimp only));refine jHc ?hg (N:=2) ?hd (cs:=#[.slice A0_0 l0_0.length c0_0]) (t:=25) ?hr ?_;(case hd=>rfl);(case hg=>rfl);(case hr=>exact Y6);intro gb857 hg w6 hbox hb;have BK857:=am (hbox);have GW857:=am ((Y1:w.heap.size≤gb857));have GE857:=am ((Y1:w.heap.size≤gb857));replace HB:=am (jd (bq) hb);clear hb hbox hg))
  go_ret
  exact ⟨Y0,Y140⟩

mutual
def jLa.l0 : Nat → List (S36) → Int → Int → Option (List Int)
 | 0,_,_,_=>none
 | k+1,x0,x1,x5=>if x5≥0 then (if 0≤x5 then (if x5<(x0.length:Int) then (if ((je x0 x5).f1)=7 then (if 0≤x1 then (if x1<(x0.length:Int) then (jLa.j1 k x0 x1 x5 (((je x0 x5).f0) == ((je x0 x1).f0))) else (none)) else (none)) else (jLa.j1 k x0 x1 x5 false)) else (none)) else (none)) else (some ([]:List Int))
def jLa.j1 : Nat → List (S36) → Int → Int → Bool → Option (List Int)
 | 0,_,_,_,_=>none
 | k+1,x0,x1,x5,x29=>if x29=true then ((jja.f k x0 x5).bind fun t493=>((jya.f t493).bind fun t496=>(some t496))) else (jLa.l0 k x0 x1 (wrap64 (x5 - 1)))
end
def jLa.f (k : Nat) (l0 : List (S36)) (a1 : Int) : Option (List Int) := jLa.l0 k l0 a1 a1
set_option maxHeartbeats 8000000 in
set_option maxRecDepth 100000 in
theorem jLa.calls (k : Nat) (A0 : Option Addr) (c0 : Nat) (l0 : List (S36)) (a1 : Int) (r : List Int) (w : World) (hr0 : Kd.C k36 w A0 l0.length l0) (hc0 : l0.length ≤ c0) (h : jLa.f k l0 a1 = some r) :
  Calls Try.prog 56 #[.slice A0 l0.length c0, .int .i64 a1] w fun e w'=>∃ v0_:Value,e=.returned (v0_)∧Kd.R (Kd.int .i64) 3 w' w.heap.size (fun _=>True) v0_ r∧Below w.heap.size w w':=by
 have HR0:=am hr0
 have HC0:=am hc0
 clear hr0 hc0
 have HB:=am (Below.refl w.heap.size w)
 have H:(jLa.l0 k l0 a1 a1)=some r:=h
 clear h
 have H':=am H
 clear H
 go_enter Try.func56,Try.ntmps56
 go_wp2
 repeat (go_quiet (fail);try go_wp2)
 go_loopg [5] k (fun kq v5 w'=>∃ (x5_1:Int),v5=.int .i64 x5_1∧jo (jLa.l0 kq l0 a1 x5_1=some r)∧jo (kq≤k)∧jo (Below w.heap.size w w'))
 case atStart=>exact ⟨(a1),(sq),H',⟨Nat.le_refl _⟩,⟨bq⟩⟩
 case round =>
  clear H'
  try clear p2
  obtain ⟨x5_1,rfl,HA,HK1,HB⟩:=hrel
  cases gk with
  | zero=>exact absurd HA.out (by simp [jLa.l0])
  | succ k1 =>
   have H:=HA.out
   clear HA
   simp only [jLa.l0] at H
   by_cases c3:x5_1≥0
   ·rw [if_pos c3] at H
    have c3b0:decide (0≤x5_1)=true:=dzT c3
    clear c3
    have HC4:=am H
    clear H
    go_upto_region 4 with (fail)
    repeat (go_quiet (fail);go_upto_region 4 with (fail))
    go_cut [29] (fun v29 wc=>∃ (kq:Nat) (x29_3:Bool),v29=.bool x29_3∧jo (jLa.j1 kq l0 a1 x5_1 x29_3=some r)∧jo (kq≤k1)∧jo (Below w.heap.size w wc))
    case first =>
     have H:=HC4.out
     clear HC4
     by_cases c5:0≤x5_1
     ·rw [if_pos c5] at H
      have c5b0:decide (0≤x5_1)=true:=dzT c5
      clear c5
      (first | rw [c5b0] |(simp only [jkb,job];rw [c5b0]) | skip)
      by_cases c6:x5_1<(l0.length:Int)
      ·rw [if_pos c6] at H
       have c6b0:decide (x5_1<(l0.length:Int))=true:=dzT c6
       clear c6
       by_cases c7:((je l0 x5_1).f1)=7
       ·rw [if_pos c7] at H
        have c7b0:(((je l0 x5_1).f1) == 7)=true:=beq_iff_eq.mpr c7
        have c7b1:(((je l0 x5_1).f1) != 7)=false:=bne_eq_false_iff_eq.mpr c7
        clear c7
        by_cases c8:0≤a1
        ·rw [if_pos c8] at H
         have c8b0:decide (0≤a1)=true:=dzT c8
         clear c8
         by_cases c9:a1<(l0.length:Int)
         ·rw [if_pos c9] at H
          have c9b0:decide (a1<(l0.length:Int))=true:=dzT c9
          clear c9
          have H':=am H
          clear H
          have p490:0≤(x5_1:Int):=ozD (uq)
          have q490:x5_1<(l0.length:Int):=ozD (uq)
          obtain ⟨ad490,e490,hx490_0,hx490_1,hx490_2,hx490_3⟩:=jsa HR0.out x5_1 p490 q490
          cases e490
          replace hx490_0:=cb HB.out hx490_0
          replace hx490_1:=cb HB.out hx490_1
          replace hx490_2:=cb HB.out hx490_2
          replace hx490_3:=cb HB.out hx490_3
          replace p490:=ezT p490
          replace q490:=ezT q490
          have p491:0≤(x5_1:Int):=ozD (uq)
          have q491:x5_1<(l0.length:Int):=ozD (uq)
          obtain ⟨ad491,e491,hx491_0,hx491_1,hx491_2,hx491_3⟩:=jsa HR0.out x5_1 p491 q491
          obtain rfl:ad490=ad491:=(by injection e491)
          replace hx491_0:=cb HB.out hx491_0
          replace hx491_1:=cb HB.out hx491_1
          replace hx491_2:=cb HB.out hx491_2
          replace hx491_3:=cb HB.out hx491_3
          replace p491:=ezT p491
          replace q491:=ezT q491
          have p492:0≤(a1:Int):=ozD (uq)
          have q492:a1<(l0.length:Int):=ozD (uq)
          obtain ⟨ad492,e492,hx492_0,hx492_1,hx492_2,hx492_3⟩:=jsa HR0.out a1 p492 q492
          obtain rfl:ad490=ad492:=(by injection e492)
          replace hx492_0:=cb HB.out hx492_0
          replace hx492_1:=cb HB.out hx492_1
          replace hx492_2:=cb HB.out hx492_2
          replace hx492_3:=cb HB.out hx492_3
          replace p492:=ezT p492
          replace q492:=ezT q492
          go_wp2
          repeat (go_quiet (fail);try go_wp2)
          go_meet
          case rel=>exact ⟨_,((((je l0 x5_1).f0) == ((je l0 a1).f0))),(sq),H',⟨by have:=HK1.out;first | omega | exact Nat.le_refl _⟩,⟨bq⟩⟩
         ·rw [if_neg c9] at H
          exact absurd H (by simp)
        ·rw [if_neg c8] at H
         exact absurd H (by simp)
       ·rw [if_neg c7] at H
        have c7b0:(((je l0 x5_1).f1) == 7)=false:=beq_eq_false_iff_ne.mpr c7
        have c7b1:(((je l0 x5_1).f1) != 7)=true:=bne_iff_ne.mpr c7
        have H':=am H
        clear H
        have p490:0≤(x5_1:Int):=ozD (uq)
        have q490:x5_1<(l0.length:Int):=ozD (uq)
        obtain ⟨ad490,e490,hx490_0,hx490_1,hx490_2,hx490_3⟩:=jsa HR0.out x5_1 p490 q490
        cases e490
        replace hx490_0:=cb HB.out hx490_0
        replace hx490_1:=cb HB.out hx490_1
        replace hx490_2:=cb HB.out hx490_2
        replace hx490_3:=cb HB.out hx490_3
        replace p490:=ezT p490
        replace q490:=ezT q490
        go_wp2
        repeat (go_quiet (fail);try go_wp2)
        go_meet
        case rel=>exact ⟨_,(false),(sq),H',⟨by have:=HK1.out;first | omega | exact Nat.le_refl _⟩,⟨bq⟩⟩
      ·rw [if_neg c6] at H
       exact absurd H (by simp)
     ·rw [if_neg c5] at H
      exact absurd H (by simp)
    case rest =>
     clear HC4
     try clear p2
     try clear c3
     try clear c3b0
     try clear p4
     try clear q4
     try clear hx4
     try clear c5
     try clear c5b0
     try clear c6
     try clear c6b0
     try clear c7
     try clear c7b0
     try clear c7b1
     try clear c8
     try clear c8b0
     try clear c9
     try clear c9b0
     try clear hx490_0
     try clear hx490_1
     try clear hx490_2
     try clear hx490_3
     try clear hx491_0
     try clear hx491_1
     try clear hx491_2
     try clear hx491_3
     try clear hx492_0
     try clear hx492_1
     try clear hx492_2
     try clear hx492_3
     try clear p2
     try clear p490
     try clear p491
     try clear p492
     try clear q490
     try clear q491
     try clear q492
     obtain ⟨kq,x29_3,rfl,HA,HJ3,HB⟩:=hcut
     cases kq with
     | zero=>exact absurd HA.out (by simp [jLa.j1])
     | succ kj3 =>
      have H:=HA.out
      clear HA
      simp only [jLa.j1] at H
      by_cases c10:x29_3=true
      ·subst c10
       have H1:((jja.f kj3 l0 x5_1).bind fun t493=>((jya.f t493).bind fun t496=>(some t496)))=some r:=by rw [if_pos rfl] at H;exact H
       clear H
       have H:=H1
       clear H1
       replace H:=bzS H
       obtain ⟨t493,A110,H⟩:=H
       replace H:((jya.f t493).bind fun t496=>(some t496))=some r:=H
       have A11:=am A110
       clear A110
       replace H:=bzS H
       obtain ⟨t496,A120,H⟩:=H
       replace H:(some t496)=some r:=H
       have A12:=am A120
       clear A120
       obtain rfl:=Option.some.inj H
       go_wp2_with (first |(go_at_call 67;(with_reducible refine (jja.calls kj3 _ _ l0 x5_1 t493 _ ?side1 ?side2 A11.out).mono ?_);(case side1=>exact cq (Kd.jI HR0.out HB.out));(case side2=>exact HC0.out);rintro e w13 ⟨v494,rfl,ho0,hb⟩;have HO495:=am (Kd.jW ho0 (jP (bq)));replace HB:=am (jd (bq) hb);(try clear hb);(try clear hb2);(try clear hk);(try clear hi);(try clear ho0);obtain ⟨Ao14,co14,eo14⟩:=Kd.jba HO495.out;subst eo14) |(go_at_call 59;(with_reducible refine (jya.calls (fun k_=>some k_=(.slice Ao14 t493.length co14:Value).ownBlock) (.slice Ao14 t493.length co14) t493 t496 w _ ?side1 ?side2 A12.out).mono ?_);(case side1=>exact Y82);(case side2=>exact Kd.R_tight rfl HO495.out);rintro e w15 ⟨v497,rfl,ho0,hb,hkp⟩;have n0_:=am (Kd.jF (ok':=fun k_=>True) ho0 (fun k_ hk_=>trivial));have n1_:=am (hb);clear HB HO495;have HO498:=n0_;have HB:=n1_;clear n0_ n1_;(try clear hb);(try clear hkp);(try clear ho0)))
       repeat (go_quiet (first |(go_at_call 67;(with_reducible refine (jja.calls kj3 _ _ l0 x5_1 t493 _ ?side1 ?side2 A11.out).mono ?_);(case side1=>exact cq (Kd.jI HR0.out HB.out));(case side2=>exact HC0.out);rintro e w13 ⟨v494,rfl,ho0,hb⟩;have HO495:=am (Kd.jW ho0 (jP (bq)));replace HB:=am (jd (bq) hb);(try clear hb);(try clear hb2);(try clear hk);(try clear hi);(try clear ho0);obtain ⟨Ao14,co14,eo14⟩:=Kd.jba HO495.out;subst eo14) |(go_at_call 59;(with_reducible refine (jya.calls (fun k_=>some k_=(.slice Ao14 t493.length co14:Value).ownBlock) (.slice Ao14 t493.length co14) t493 t496 w _ ?side1 ?side2 A12.out).mono ?_);(case side1=>exact Y82);(case side2=>exact Kd.R_tight rfl HO495.out);rintro e w15 ⟨v497,rfl,ho0,hb,hkp⟩;have n0_:=am (Kd.jF (ok':=fun k_=>True) ho0 (fun k_ hk_=>trivial));have n1_:=am (hb);clear HB HO495;have HO498:=n0_;have HB:=n1_;clear n0_ n1_;(try clear hb);(try clear hkp);(try clear ho0)));try go_wp2_with (first |(go_at_call 67;(with_reducible refine (jja.calls kj3 _ _ l0 x5_1 t493 _ ?side1 ?side2 A11.out).mono ?_);(case side1=>exact cq (Kd.jI HR0.out HB.out));(case side2=>exact HC0.out);rintro e w13 ⟨v494,rfl,ho0,hb⟩;have HO495:=am (Kd.jW ho0 (jP (bq)));replace HB:=am (jd (bq) hb);(try clear hb);(try clear hb2);(try clear hk);(try clear hi);(try clear ho0);obtain ⟨Ao14,co14,eo14⟩:=Kd.jba HO495.out;subst eo14) |(go_at_call 59;(with_reducible refine (jya.calls (fun k_=>some k_=(.slice Ao14 t493.length co14:Value).ownBlock) (.slice Ao14 t493.length co14) t493 t496 w _ ?side1 ?side2 A12.out).mono ?_);(case side1=>exact Y82);(case side2=>exact Kd.R_tight rfl HO495.out);rintro e w15 ⟨v497,rfl,ho0,hb,hkp⟩;have n0_:=am (Kd.jF (ok':=fun k_=>True) ho0 (fun k_ hk_=>trivial));have n1_:=am (hb);clear HB HO495;have HO498:=n0_;have HB:=n1_;clear n0_ n1_;(try clear hb);(try clear hkp);(try clear ho0))))
       go_ret
       exact ⟨_,Y0,rq HO498.out,bq⟩
      ·replace c10:=Bool.eq_false_iff.mpr c10
       subst c10
       have H1:(jLa.l0 kj3 l0 a1 (wrap64 (x5_1 - 1)))=some r:=by rw [if_neg (show ¬ (false=true) by decide)] at H;exact H
       clear H
       have H:=H1
       clear H1
       have H':=am H
       clear H
       go_wp2
       repeat (go_quiet (fail);try go_wp2)
       go_roundg kj3
       case measure=>have:=HK1.out;have:=HJ3.out;omega
       case rel=>exact ⟨(wrap64 (x5_1 - 1)),(sq),H',⟨by have:=HK1.out;have:=HJ3.out;omega⟩,⟨bq⟩⟩
   ·rw [if_neg c3] at H
    have c3b0:decide (0≤x5_1)=false:=dzF c3
    clear c3
    obtain rfl:=Option.some.inj H
    go_wp2
    repeat (go_quiet (fail);try go_wp2)
    go_ret
    exact ⟨_,Y0,Y57,bq⟩
end Go.Proofs.Ytkedkinojeoeaaa.P
end
