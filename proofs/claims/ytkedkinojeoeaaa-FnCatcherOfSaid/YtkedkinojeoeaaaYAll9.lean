/- One part of the proofs on this program: functions of the program as plain functions, that the code comes to them, and facts on them. -/
import Derived.Test.YtkedkinojeoeaaaYAll1
import Derived.Test.YtkedkinojeoeaaaYAll5
import Derived.Test.YtkedkinojeoeaaaYAll7
import Derived.Test.YtkedkinojeoeaaaYAll8
import Derived.Test.YtkedkinojeoeaaaYWAuto
section
namespace Go.Proofs.Ytkedkinojeoeaaa.P
open Go.RowKit Go.Proofs.YtkedkinojeoeaaaW.PrintWords Go.Proofs.YtkedkinojeoeaaaW.PrintLast Go.Proofs.YtkedkinojeoeaaaW.PrintMore
attribute [local go_sem] jta jra jBa jAa jca jba jsa jqa jl
set_option linter.unusedVariables false
set_option linter.unusedSimpArgs false
def jS.l0 : Nat → List (S36) → Int → List Int → Int → List (S75) → Option (Int)
 | 0,_,_,_,_,_=>none
 | k+1,x1,x3,x9,x10,x851000=>if x10<(x9.length:Int) then (if 0≤x10 then ((jU.f k x851000 x1 (rd x9 x10) x3).bind fun t856=>(if t856≥0 then (some t856) else (jS.l0 k x1 x3 x9 (wrap64 (x10+1)) x851000))) else (none)) else (some (-1))
def jS.f (k : Nat) (l0_0 : List (S75)) (l1 : List (S36)) (a2 : Int) (a3 : Int) : Option (Int) := (jIb.f k l0_0 l1 a2 a3).bind fun t851 => (if t851 = true then ((jya.f k l1 a2).bind fun t852 => (jS.l0 k l1 a3 t852 0 l0_0)) else (some (-1)))
def jS.T7 : Bool × List (List Nat × List Nat) := (true, [([], []), ([], []), ([], []), ([], []), ([2, 3], [2, 3]), ([4], [4]), ([], []), ([0, 1, 5, 6], [0, 1, 5, 6]), ([7, 7, 0, 1, 2, 3, 4, 5, 6, 7], [7])])
def jS.B7 : List Nat := [0, 0, 0, 0, 12, 28, 0, 127, 255]
theorem jS.tab7 : rtab .any (opsOf Try.f20 7) = jS.T7 := by kernel_rfl
theorem jS.bits7 : jdc jS.T7.2 jS.B7 = true := by kernel_rfl
set_option maxHeartbeats 8000000 in
set_option maxRecDepth 100000 in
theorem jS.calls (k : Nat) (A0_0 : Option Addr) (c0_0 : Nat) (l0_0 : List (S75)) (A1 : Option Addr) (c1 : Nat) (l1 : List (S36)) (a2 : Int) (a3 : Int) (r : Int) (w : World) (hr0_0 : Kd.C k75 w A0_0 l0_0.length l0_0) (hc0_0 : l0_0.length ≤ c0_0) (hr1 : Kd.C k36 w A1 l1.length l1) (hc1 : l1.length ≤ c1) (h : jS.f k l0_0 l1 a2 a3 = some r) :
  Calls Try.prog 20 #[.agg #[.slice A0_0 l0_0.length c0_0], .slice A1 l1.length c1, .int .i64 a2, .int .i64 a3] w fun e w'=>e=.returned (.int .i64 r)∧Below w.heap.size w w':=by
 have hu25:=Try.underlying25
 have HR0_0:=am hr0_0
 have HC0_0:=am hc0_0
 clear hr0_0 hc0_0
 have HR1:=am hr1
 have HC1:=am hc1
 clear hr1 hc1
 have HB:=am (Below.refl w.heap.size w)
 have H:((jIb.f k l0_0 l1 a2 a3).bind fun t851=>(if t851=true then ((jya.f k l1 a2).bind fun t852=>(jS.l0 k l1 a3 t852 0 l0_0)) else (some (-1))))=some r:=h
 clear h
 replace H:=bzS H
 obtain ⟨t851,A50,H⟩:=H
 replace H:(if t851=true then ((jya.f k l1 a2).bind fun t852=>(jS.l0 k l1 a3 t852 0 l0_0)) else (some (-1)))=some r:=H
 have A5:=am A50
 clear A50
 by_cases c6:t851=true
 ·subst c6
  have H1:((jya.f k l1 a2).bind fun t852=>(jS.l0 k l1 a3 t852 0 l0_0))=some r:=by rw [if_pos rfl] at H;exact H
  clear H
  have H:=H1
  clear H1
  replace H:=bzS H
  obtain ⟨t852,A70,H⟩:=H
  replace H:(jS.l0 k l1 a3 t852 0 l0_0)=some r:=H
  have A7:=am A70
  clear A70
  have H':=am H
  clear H
  go_enter Try.func20,Try.ntmps20
  go_wp2_with (first |((with_reducible refine jJ (N:=4) rfl ?_);refine bE (N:=4) (cs:=#[.slice A0_0 l0_0.length c0_0]) (t:=25) ?_;intro gb850 hg w8 hbox hb;have BK850:=am (hbox);have GW850:=am ((Y3:w.heap.size≤gb850));have GE850:=am ((Y3:w.heap.size≤gb850));replace HB:=am (je (bq) hb);clear hb hbox hg;have hcz9_0:=bc0 BK850.out;have hfz9_0:=ja BK850.out 0) |((with_reducible refine jd (f:=50) rfl ?_);refine gL (some 16) Try.func50 #[.agg #[.slice A0_0 l0_0.length c0_0], .slice A1 l1.length c1, .int .i64 a2, .int .i64 a3] ?_;(with_reducible refine (jIb.calls k _ _ l0_0 _ _ l1 a2 a3 true _ ?side1 ?side2 ?side3 ?side4 A5.out).mono ?_);(case side1=>exact cq (Kd.jT HR0_0.out HB.out));(case side2=>exact HC0_0.out);(case side3=>exact cq (Kd.jT HR1.out HB.out));(case side4=>exact HC1.out);rintro e w10 ⟨rfl,hb⟩;refine ⟨_,rfl,?_⟩;replace BK850:=am (jk (g:=gb850) (o:=.cells #[.slice A0_0 l0_0.length c0_0] 25 (0,0)) (kq BK850.out) hb);replace HB:=am (je (Y44) hb);(try clear hb);(try clear hb2);(try clear hk);(try clear hi)) |((with_reducible refine jd (f:=35) rfl ?_);refine gL (some 20) Try.func35 #[.slice A1 l1.length c1, .int .i64 a2] ?_;(with_reducible refine (jya.calls k _ _ l1 a2 t852 _ ?side1 ?side2 A7.out).mono ?_);(case side1=>exact cq (Kd.jT HR1.out HB.out));(case side2=>exact HC1.out);rintro e w11 ⟨v853,rfl,ho0,hb⟩;refine ⟨_,rfl,?_⟩;have HO854:=am (Kd.jaa ho0 (jma (Y44)));replace BK850:=am (jk (g:=gb850) (o:=.cells #[.slice A0_0 l0_0.length c0_0] 25 (0,0)) (kq BK850.out) hb);replace HB:=am (je (Y44) hb);(try clear hb);(try clear hb2);(try clear hk);(try clear hi);(try clear ho0)))
  go_loopg [10] k (fun kq v10 w'=>∃ (x10_1:Int),v10=.int .i64 x10_1∧jq (jS.l0 kq l1 a3 t852 x10_1 l0_0=some r)∧jq (kq≤k)∧jq (Kd.R (Kd.int .i64) 3 w' w.heap.size (fun _=>True) v853 t852)∧jq (w'.heap[gb850]?=some (.cells #[(.slice A0_0 l0_0.length c0_0)] 25 (0,0)))∧jq (Below w.heap.size w w'))
  case atStart=>exact ⟨(0),(sq),H',⟨Nat.le_refl _⟩,⟨rq HO854.out⟩,⟨kq BK850.out⟩,⟨Y44⟩⟩
  case round =>
   clear H'
   try clear c1
   try clear c2
   try clear p2
   try clear c3
   try clear c5
   try clear c6
   try clear hcz9_0
   try clear hfz9_0
   obtain ⟨x10_1,rfl,HA,HK1,HO_9,BK850,HB⟩:=hrel
   cases gk with
   | zero=>exact absurd HA.out (by simp [jS.l0])
   | succ k1 =>
    have H:=HA.out
    clear HA
    simp only [jS.l0] at H
    by_cases c12:x10_1<(t852.length:Int)
    ·rw [if_pos c12] at H
     have c12b0:decide (x10_1<(t852.length:Int))=true:=dzT c12
     clear c12
     by_cases c13:0≤x10_1
     ·rw [if_pos c13] at H
      have c13b0:decide (0≤x10_1)=true:=dzT c13
      clear c13
      replace H:=bzS H
      obtain ⟨t856,A140,H⟩:=H
      replace H:(if t856≥0 then (some t856) else (jS.l0 k1 l1 a3 t852 (wrap64 (x10_1+1)) l0_0))=some r:=H
      have A14:=am A140
      clear A140
      by_cases c15:t856≥0
      ·rw [if_pos c15] at H
       have c15b0:decide (0≤t856)=true:=dzT c15
       clear c15
       obtain rfl:=Option.some.inj H
       obtain ⟨Ao16,co16,eo16⟩:=Kd.jka HO_9.out
       subst eo16
       try go_wp2
       replace HO_9:=am (Kd.jea HO_9.out)
       replace BK850:=am (jw BK850.out)
       replace HB:=am (jE HB.out)
       have p855:0≤(x10_1:Int):=ozD (uq)
       have q855:x10_1<(t852.length:Int):=ozD (uq)
       obtain ⟨ad855,e855,hx855_0⟩:=Kd.jtb (Kd.jy HO_9.out).2.2 x10_1 p855 q855
       cases e855
       replace p855:=ezT p855
       replace q855:=ezT q855
       refine jlc (n:=9) (S:=fun w'=>w'.cell? ⟨gb850,0,none⟩=some (.slice A0_0 l0_0.length c0_0)∧w'.cell? (ad855.add (x10_1).toNat)=some (.int .i64 (rd t852 x10_1))) (ds:=[]) #[false,false,false,false,false,false,false,false,false] (by kernel_rfl) rfl rfl ⟨(jF BK850.out 0).trans rfl,hx855_0⟩ (fun hHeld=>?_);refine jqb jS.tab7 jS.bits7 (fun HT_ HW_=>?_)
       generalize wr.drew=w17 at HO_9 BK850 HB hx855_0 hHeld ⊢
       refine pq (i:=1) (N:=some 28) #[false,true,false,false,false,false,false,false,false] ?_
       refine pq (i:=2) (N:=some 29) #[false,true,true,false,false,false,false,false,false] ?_
       refine pq (i:=3) (N:=some 30) #[false,true,true,true,false,false,false,false,false] ?_
       refine pq (i:=4) (N:=some 31) #[false,true,true,true,true,false,false,false,false] ?_
       refine pq (i:=6) (N:=some 33) #[false,true,true,true,true,false,true,false,false] ?_
       refine jwb (i:=0) (N:=some 27) (v:=?_) (a':=?_) #[true,true,true,true,true,false,true,false,false] rfl rfl (jua HT_.out HW_.out (by kernel_rfl)) (fun _ _ _ h=>h) (Or.inl ⟨by rfl,?_⟩) hHeld ?_ ?_
       rotate_left
       ·rintro w' ⟨s0,s1⟩
        go_simp
        with_reducible rfl
       rotate_left
       ·exact sa
       refine jwb (i:=5) (N:=some 32) (v:=?_) (a':=?_) #[true,true,true,true,true,true,true,false,false] rfl rfl (jua HT_.out HW_.out (by kernel_rfl)) (fun _ _ _ h=>h) (Or.inl ⟨by rfl,?_⟩) hHeld ?_ ?_
       rotate_left
       ·rintro w' ⟨s0,s1⟩
        go_simp
        with_reducible rfl
       rotate_left
       ·exact sa
       refine one_ (i:=7) (N:=some 34) #[true,true,true,true,true,true,true,true,false] rfl rfl (jyb HT_.out (by kernel_rfl)) (by decide) (fun K hK=>?_)
       refine jPc Try.func51 (by kernel_rfl) rfl #[.agg #[.slice A0_0 l0_0.length c0_0], .slice A1 l1.length c1, .int .i64 (rd t852 x10_1), .int .i64 a3] (by rfl) rfl rfl (aq) ?_
       with_reducible refine (jU.calls k1 _ _ l0_0 _ _ l1 (rd t852 x10_1) a3 t856 _ ?side1 ?side2 ?side3 ?side4 A14.out).mono ?_
       (case side1=>exact cq (Kd.jT HR0_0.out HB.out))
       (case side2=>exact HC0_0.out)
       (case side3=>exact cq (Kd.jT HR1.out HB.out))
       (case side4=>exact HC1.out)
       rintro e w18 ⟨rfl,hb⟩
       have HS1_:=(hb.cell (World.block_lt_of_cell? _ _ (hHeld.2))).trans (hHeld.2)
       refine ⟨_,rfl,?_⟩
       replace HO_9:=am (Kd.jZ (rq HO_9.out) hb)
       replace BK850:=am (jk (g:=gb850) (o:=.cells #[.slice A0_0 l0_0.length c0_0] 25 (0,0)) (kq BK850.out) hb)
       replace HB:=am (je (Y44) hb)
       (try clear hb)
       (try clear hb2)
       (try clear hk)
       (try clear hi)
       refine hK.out _ _ ⟨(jF BK850.out 0).trans rfl,HS1_⟩ (fun hHeld=>?_)
       clear hK K
       refine jWb (a':=?_) ?_ ?_
       rotate_left
       ·show Act.put _ (some 34) _=_
        simp only [Act.put,List.setIfInBounds_toArray,List.set_cons_zero,List.set_cons_succ,jkb,jmb]
        rfl
       refine pq (i:=8) (N:=some 11) #[true,true,true,true,true,true,true,true,true] ?_
       refine jQc (jPb HT_.out (by kernel_rfl)) ?_
       try go_wp2
       go_ret
       exact ⟨Y0,Y44⟩
      ·rw [if_neg c15] at H
       have c15b0:decide (0≤t856)=false:=dzF c15
       clear c15
       have H':=am H
       clear H
       obtain ⟨Ao19,co19,eo19⟩:=Kd.jka HO_9.out
       subst eo19
       try go_wp2
       replace HO_9:=am (Kd.jea HO_9.out)
       replace BK850:=am (jw BK850.out)
       replace HB:=am (jE HB.out)
       have p855:0≤(x10_1:Int):=ozD (uq)
       have q855:x10_1<(t852.length:Int):=ozD (uq)
       obtain ⟨ad855,e855,hx855_0⟩:=Kd.jtb (Kd.jy HO_9.out).2.2 x10_1 p855 q855
       cases e855
       replace p855:=ezT p855
       replace q855:=ezT q855
       refine jlc (n:=9) (S:=fun w'=>w'.cell? ⟨gb850,0,none⟩=some (.slice A0_0 l0_0.length c0_0)∧w'.cell? (ad855.add (x10_1).toNat)=some (.int .i64 (rd t852 x10_1))) (ds:=[]) #[false,false,false,false,false,false,false,false,false] (by kernel_rfl) rfl rfl ⟨(jF BK850.out 0).trans rfl,hx855_0⟩ (fun hHeld=>?_);refine jqb jS.tab7 jS.bits7 (fun HT_ HW_=>?_)
       generalize wr.drew=w20 at HO_9 BK850 HB hx855_0 hHeld ⊢
       refine pq (i:=1) (N:=some 28) #[false,true,false,false,false,false,false,false,false] ?_
       refine pq (i:=2) (N:=some 29) #[false,true,true,false,false,false,false,false,false] ?_
       refine pq (i:=3) (N:=some 30) #[false,true,true,true,false,false,false,false,false] ?_
       refine pq (i:=4) (N:=some 31) #[false,true,true,true,true,false,false,false,false] ?_
       refine pq (i:=6) (N:=some 33) #[false,true,true,true,true,false,true,false,false] ?_
       refine jwb (i:=0) (N:=some 27) (v:=?_) (a':=?_) #[true,true,true,true,true,false,true,false,false] rfl rfl (jua HT_.out HW_.out (by kernel_rfl)) (fun _ _ _ h=>h) (Or.inl ⟨by rfl,?_⟩) hHeld ?_ ?_
       rotate_left
       ·rintro w' ⟨s0,s1⟩
        go_simp
        with_reducible rfl
       rotate_left
       ·exact sa
       refine jwb (i:=5) (N:=some 32) (v:=?_) (a':=?_) #[true,true,true,true,true,true,true,false,false] rfl rfl (jua HT_.out HW_.out (by kernel_rfl)) (fun _ _ _ h=>h) (Or.inl ⟨by rfl,?_⟩) hHeld ?_ ?_
       rotate_left
       ·rintro w' ⟨s0,s1⟩
        go_simp
        with_reducible rfl
       rotate_left
       ·exact sa
       refine one_ (i:=7) (N:=some 34) #[true,true,true,true,true,true,true,true,false] rfl rfl (jyb HT_.out (by kernel_rfl)) (by decide) (fun K hK=>?_)
       refine jPc Try.func51 (by kernel_rfl) rfl #[.agg #[.slice A0_0 l0_0.length c0_0], .slice A1 l1.length c1, .int .i64 (rd t852 x10_1), .int .i64 a3] (by rfl) rfl rfl (aq) ?_
       with_reducible refine (jU.calls k1 _ _ l0_0 _ _ l1 (rd t852 x10_1) a3 t856 _ ?side1 ?side2 ?side3 ?side4 A14.out).mono ?_
       (case side1=>exact cq (Kd.jT HR0_0.out HB.out))
       (case side2=>exact HC0_0.out)
       (case side3=>exact cq (Kd.jT HR1.out HB.out))
       (case side4=>exact HC1.out)
       rintro e w21 ⟨rfl,hb⟩
       have HS1_:=(hb.cell (World.block_lt_of_cell? _ _ (hHeld.2))).trans (hHeld.2)
       refine ⟨_,rfl,?_⟩
       replace HO_9:=am (Kd.jZ (rq HO_9.out) hb)
       replace BK850:=am (jk (g:=gb850) (o:=.cells #[.slice A0_0 l0_0.length c0_0] 25 (0,0)) (kq BK850.out) hb)
       replace HB:=am (je (Y44) hb)
       (try clear hb)
       (try clear hb2)
       (try clear hk)
       (try clear hi)
       refine hK.out _ _ ⟨(jF BK850.out 0).trans rfl,HS1_⟩ (fun hHeld=>?_)
       clear hK K
       refine jWb (a':=?_) ?_ ?_
       rotate_left
       ·show Act.put _ (some 34) _=_
        simp only [Act.put,List.setIfInBounds_toArray,List.set_cons_zero,List.set_cons_succ,jkb,jmb]
        rfl
       refine pq (i:=8) (N:=some 11) #[true,true,true,true,true,true,true,true,true] ?_
       refine jQc (jPb HT_.out (by kernel_rfl)) ?_
       try go_wp2
       go_roundg k1
       case measure=>have:=HK1.out;omega
       case rel=>exact ⟨(wrap64 (x10_1+1)),(sq),H',⟨by have:=HK1.out;omega⟩,⟨rq HO_9.out⟩,⟨kq BK850.out⟩,⟨Y44⟩⟩
     ·rw [if_neg c13] at H
      exact absurd H (by simp)
    ·rw [if_neg c12] at H
     have c12b0:decide (x10_1<(t852.length:Int))=false:=dzF c12
     clear c12
     obtain rfl:=Option.some.inj H
     obtain ⟨Ao22,co22,eo22⟩:=Kd.jka HO_9.out
     subst eo22
     go_wp2
     go_ret
     exact ⟨Y0,Y44⟩
 ·replace c6:=Bool.eq_false_iff.mpr c6
  subst c6
  have H1:(some (-1))=some r:=by rw [if_neg (show ¬ (false=true) by decide)] at H;exact H
  clear H
  have H:=H1
  clear H1
  obtain rfl:=Option.some.inj H
  go_enter Try.func20,Try.ntmps20
  go_wp2_with (first |((with_reducible refine jJ (N:=4) rfl ?_);refine bE (N:=4) (cs:=#[.slice A0_0 l0_0.length c0_0]) (t:=25) ?_;intro gb850 hg w23 hbox hb;have BK850:=am (hbox);have GW850:=am ((Y3:w.heap.size≤gb850));have GE850:=am ((Y3:w.heap.size≤gb850));replace HB:=am (je (bq) hb);clear hb hbox hg;have hcz24_0:=bc0 BK850.out;have hfz24_0:=ja BK850.out 0) |((with_reducible refine jd (f:=50) rfl ?_);refine gL (some 16) Try.func50 #[.agg #[.slice A0_0 l0_0.length c0_0], .slice A1 l1.length c1, .int .i64 a2, .int .i64 a3] ?_;(with_reducible refine (jIb.calls k _ _ l0_0 _ _ l1 a2 a3 false _ ?side1 ?side2 ?side3 ?side4 A5.out).mono ?_);(case side1=>exact cq (Kd.jT HR0_0.out HB.out));(case side2=>exact HC0_0.out);(case side3=>exact cq (Kd.jT HR1.out HB.out));(case side4=>exact HC1.out);rintro e w25 ⟨rfl,hb⟩;refine ⟨_,rfl,?_⟩;replace BK850:=am (jk (g:=gb850) (o:=.cells #[.slice A0_0 l0_0.length c0_0] 25 (0,0)) (kq BK850.out) hb);replace HB:=am (je (Y44) hb);(try clear hb);(try clear hb2);(try clear hk);(try clear hi)))
  go_ret
  exact ⟨Y0,Y44⟩
def jmc.f (l0_0 : List (S75)) (a1 : Int) : Option (Bool) := if a1 ≥ 0 then (some (decide (a1 < (l0_0.length : Int)))) else (some false)
set_option maxHeartbeats 8000000 in
set_option maxRecDepth 100000 in
theorem jmc.calls (A0_0 : Option Addr) (c0_0 : Nat) (l0_0 : List (S75)) (a1 : Int) (r : Bool) (w : World) (hr0_0 : Kd.C k75 w A0_0 l0_0.length l0_0) (hc0_0 : l0_0.length ≤ c0_0) (h : jmc.f l0_0 a1 = some r) :
  Calls Try.prog 21 #[.agg #[.slice A0_0 l0_0.length c0_0], .int .i64 a1] w fun e w'=>e=.returned (.bool r)∧Below w.heap.size w w':=by
 have hu25:=Try.underlying25
 have HR0_0:=am hr0_0
 have HC0_0:=am hc0_0
 clear hr0_0 hc0_0
 have HB:=am (Below.refl w.heap.size w)
 have H:(if a1≥0 then (some (decide (a1<(l0_0.length:Int)))) else (some false))=some r:=h
 clear h
 by_cases c3:a1≥0
 ·rw [if_pos c3] at H
  have c3b0:decide (0≤a1)=true:=dzT c3
  clear c3
  obtain rfl:=Option.some.inj H
  go_enter Try.func21,Try.ntmps21
  go_wp2_with (first |((with_reducible refine jJ (N:=2) rfl ?_);(try (refine joc (by rfl) ?_;dsimp only));refine jsc ?hg (N:=2) ?hd (cs:=#[.slice A0_0 l0_0.length c0_0]) (t:=25) ?hr ?_;(case hd=>rfl);(case hg=>rfl);(case hr=>exact Y5);intro gb857 hg w4 hbox hb;have BK857:=am (hbox);have GW857:=am ((Y3:w.heap.size≤gb857));have GE857:=am ((Y3:w.heap.size≤gb857));replace HB:=am (je (bq) hb);clear hb hbox hg;have hcz5_0:=bc0 BK857.out;have hfz5_0:=ja BK857.out 0))
  go_ret
  exact ⟨Y0,Y131⟩
 ·rw [if_neg c3] at H
  have c3b0:decide (0≤a1)=false:=dzF c3
  clear c3
  obtain rfl:=Option.some.inj H
  go_enter Try.func21,Try.ntmps21
  go_wp2_with (first |((with_reducible refine jJ (N:=2) rfl ?_);(try (refine joc (by rfl) ?_;dsimp only));refine jsc ?hg (N:=2) ?hd (cs:=#[.slice A0_0 l0_0.length c0_0]) (t:=25) ?hr ?_;(case hd=>rfl);(case hg=>rfl);(case hr=>exact Y5);intro gb857 hg w6 hbox hb;have BK857:=am (hbox);have GW857:=am ((Y3:w.heap.size≤gb857));have GE857:=am ((Y3:w.heap.size≤gb857));replace HB:=am (je (bq) hb);clear hb hbox hg))
  go_ret
  exact ⟨Y0,Y131⟩
theorem impl_classesIn1_calls (l : List S75) (A_ : Option Addr) (c_ : Nat) (x : Int) (b : Bool) (B : Nat) (w : World) (hr : Kd.C k75 w A_ l.length l) (hcc : l.length ≤ c_) (hB : B < w.heap.size) (hc : w.cell? ⟨B, 0, none⟩ = some (.slice A_ l.length c_)) (h : (jGa.f l x).map (!·) = some b) :
  Calls Try.prog 74 #[.int .i64 x, .pointer (some ⟨B,0,none⟩)] w fun e w'=>e=.returned (.bool b)∧Below w.heap.size w w':=by
 obtain ⟨b0,h0,rfl⟩:=Option.map_eq_some_iff.mp h
 have HF:=am (jGa.calls A_ c_ l x b0 w hr hcc h0)
 clear h h0 hr
 have hu25:=Try.underlying25
 go_enter Try.func74,Try.ntmps74
 go_wp2_with (go_at_call 48;refine HF.out.mono ?_;rintro e w' ⟨rfl,hb2⟩)
 go_ret
 exact ⟨rfl,hb2⟩
set_option maxHeartbeats 8000000 in
set_option maxRecDepth 100000 in
theorem impl_classesIn_idx (A_ : Option Addr) (c_ : Nat) (l : List (Int)) (B0_ : Nat) (p : Int → Option Bool) (r : Int) (w : World) (hr : Kd.C (Kd.int .i64) w A_ l.length l) (h : idxFrom p l 0 = some r)
  (hp:∀ W,Below w.heap.size w W→∀ (x:Int) (b:Bool),p x=some b→Calls Try.prog 74 #[.int .i64 x, .pointer (some ⟨B0_,0,none⟩)] W fun e w'=>e=.returned (.bool b)∧Below W.heap.size W w') :
  Calls Try.prog 88 #[.slice A_ l.length c_, .func (.func 74) #[] #[.pointer (some ⟨B0_,0,none⟩)]] w fun e w'=>e=.returned (.int .i64 r)∧Below w.heap.size w w':=by
 have hm:l.length≤9223372036854775807:=Kd.C_max hr
 have HR:=am hr
 have HP:=am hp
 have H0:=am h
 clear hr hp h
 go_enter Try.func88,Try.ntmps88
 go_wp2
 go_loopw [5,8] (fun i5 i8 wr=>∃ k:Nat,k≤l.length∧i8=.int .i64 k∧jq (idxFrom p (l.drop k) k=some r)∧Below w.heap.size w wr) (fun _ i8 _=>l.length - (intOf i8).toNat)
 case atStart=>exact ⟨0,Nat.zero_le _,rfl,H0,Below.refl _ _⟩
 case round =>
  clear H0
  obtain ⟨k,hk,rfl,HA,hb⟩:=hrel
  by_cases hlt:k<l.length
  ·have HB:=am (idxFrom_step hlt HA.out)
   clear HA
   obtain ⟨ad,rfl,hx0⟩:=Kd.jtb HR.out (k:Int) (by omega) (by omega)
   have hrd:rd l (k:Int)=l[k]:=by simp [rd,List.getD_eq_getElem?_getD,hlt]
   replace hx0:=jia hb hx0
   rw [hrd] at hx0
   simp only [Int.toNat_natCast] at hx0
   clear hrd
   obtain ⟨b,hb1,hb0⟩:=HB.out
   have HQ:=am hb1
   clear hb1 HB
   cases b with
   | true =>
    have HZ:=am (by simpa using hb0:(k:Int)=r)
    clear hb0
    go_wp2_with (go_at_call 74;refine (HP.out _ hb _ _ HQ.out).mono ?_;rintro e w' ⟨rfl,hb2⟩)
    go_ret
    exact ⟨by rw [← HZ.out];rfl,jda hb hb.size hb2⟩
   | false =>
    have HZ:=am (by simpa using hb0:idxFrom p (l.drop (k+1)) (k+1)=some r)
    clear hb0
    go_wp2_with (go_at_call 74;refine (HP.out _ hb _ _ HQ.out).mono ?_;rintro e w' ⟨rfl,hb2⟩)
    go_roundw
    case rel=>exact ⟨k+1,hlt,by go_num,HZ,jda hb hb.size hb2⟩
    case measure=>simp [intOf];omega
  ·have HZ:=am (idxFrom_end (by omega) HA.out)
   clear HA
   go_wp2
   go_ret
   exact ⟨by rw [HZ.out];rfl,hb⟩
set_option maxHeartbeats 8000000 in
set_option maxRecDepth 100000 in
theorem impl_classesIn_any (A_ : Option Addr) (c_ : Nat) (l : List Int) (B0_ : Nat) (p : Int → Option Bool) (r : Int) (w : World) (hr : Kd.C (Kd.int .i64) w A_ l.length l) (h : idxFrom p l 0 = some r)
  (hp:∀ W,Below w.heap.size w W→∀ (x:Int) (b:Bool),p x=some b→Calls Try.prog 74 #[.int .i64 x, .pointer (some ⟨B0_,0,none⟩)] W fun e w'=>e=.returned (.bool b)∧Below W.heap.size W w') :
  Calls Try.prog 73 #[.slice A_ l.length c_, .func (.func 74) #[] #[.pointer (some ⟨B0_,0,none⟩)]] w fun e w'=>e=.returned (.bool (decide (0≤r)))∧Below w.heap.size w w':=by
 have HF:=am (impl_classesIn_idx A_ c_ l B0_ p r w hr h hp)
 clear hr h hp
 go_enter Try.func73,Try.ntmps73
 go_wp2_with (go_at_call 88;refine HF.out.mono ?_;rintro e w' ⟨rfl,hb2⟩)
 go_ret
 exact ⟨rfl,hb2⟩
def jfb.f (k : Nat) (l0_0 : List S75) (l1 : List Int) : Option Bool := (jG.f k l0_0).bind fun v => if v then (idxFrom (fun x => (jGa.f l0_0 x).map (!·)) l1 0).bind fun r => some (!decide (0 ≤ r)) else some false
set_option maxHeartbeats 8000000 in
set_option maxRecDepth 100000 in
theorem jfb.calls (k : Nat) (A0_0 : Option Addr) (c0_0 : Nat) (l0_0 : List (S75)) (A1 : Option Addr) (c1 : Nat) (l1 : List Int) (r : Bool) (w : World) (hr0_0 : Kd.C k75 w A0_0 l0_0.length l0_0) (hc0_0 : l0_0.length ≤ c0_0) (hr1 : Kd.C (Kd.int .i64) w A1 l1.length l1) (hc1 : l1.length ≤ c1) (h : jfb.f k l0_0 l1 = some r) :
  Calls Try.prog 52 #[.agg #[.slice A0_0 l0_0.length c0_0], .slice A1 l1.length c1] w fun e w'=>e=.returned (.bool r)∧Below w.heap.size w w':=by
 obtain ⟨v,hv,h⟩:=bzS h
 have hu25:=Try.underlying25
 have HV:=am (fun W (hb:Below w.heap.size w W)=>jG.calls k A0_0 c0_0 l0_0 v W (Kd.jT hr0_0 hb) hc0_0 hv)
 cases v with
 | false =>
  obtain rfl:false=r:=by simpa using h
  clear hv h hr0_0 hr1
  go_enter Try.func52,Try.ntmps52
  go_wp2_with (go_at_call 36;refine (HV.out _ ((Below.refl _ _).alloc (Nat.le_refl _) _)).mono ?_;rintro e w' ⟨rfl,hb2⟩)
  go_ret
  exact ⟨rfl,((Below.refl _ _).alloc (Nat.le_refl _) _).trans (hb2.mono (by simp))⟩
 | true =>
  simp only [if_true] at h
  obtain ⟨q,hq,h⟩:=bzS h
  have HZ:=am (Option.some.inj h)
  have HF:=am (fun W (hb:Below w.heap.size w W) (B:Nat) (hB:B<W.heap.size) (hc:W.cell? ⟨B,0,none⟩=some (.slice A0_0 l0_0.length c0_0))=>impl_classesIn_any A1 c1 l1 B (fun x=>(jGa.f l0_0 x).map (!·)) q W (Kd.jT hr1 hb) hq (fun W' hb' x b hx=>
   impl_classesIn1_calls l0_0 A0_0 c0_0 x b B W' (Kd.jT (Kd.jT hr0_0 hb) hb') hc0_0 (Nat.lt_of_lt_of_le hB hb'.size) (jia hb' hc) hx))
  clear hv h hq hr0_0 hr1
  go_enter Try.func52,Try.ntmps52
  go_wp2_with (first |(go_at_call 36;refine (HV.out _ ((Below.refl _ _).alloc (Nat.le_refl _) _)).mono ?_;rintro e w1 ⟨rfl,hb2⟩;have hb1:=((Below.refl w.heap.size w).alloc (Nat.le_refl _) (.cells #[.slice A0_0 l0_0.length c0_0] 25)).trans (hb2.mono (by simp));have hcell:=jia hb2 (show (w.alloc (.cells #[.slice A0_0 l0_0.length c0_0] 25)).cell? ⟨w.heap.size,0,none⟩=some (.slice A0_0 l0_0.length c0_0) by simp);have hlt:w.heap.size<w1.heap.size:=Nat.lt_of_lt_of_le (by simp) hb2.size) |(go_at_call 73;refine (HF.out _ hb1 _ hlt hcell).mono ?_;rintro e w2 ⟨rfl,hb3⟩))
  go_ret
  exact ⟨by rw [← HZ.out];rfl,jda hb1 hb1.size hb3⟩

def jnc (p : Int → Option Bool) : Nat → Nat → Option (List Int)
 | 0,_=>some []
 | n+1,i=>(p (i:Int)).bind fun b=>(jnc p n (i+1)).bind fun r=>some (if b=true then (i:Int) :: r else r)
theorem filtFrom_step {p : Int → Option Bool} {n i : Nat} {r rest acc : List Int} (hi : i < n) (h : jnc p (n - i) i = some rest) (e : acc ++ rest = r) :
  ∃ b,p (i:Int)=some b∧∃ rest2,jnc p (n - (i+1)) (i+1)=some rest2∧(if b=true then acc ++ [(i:Int)] else acc) ++ rest2=r:=by
 rw [show n - i=(n - (i+1))+1 by omega] at h
 simp only [jnc] at h
 obtain ⟨b,h1,h⟩:=bzS h
 obtain ⟨r2,h2,h⟩:=bzS h
 obtain rfl:=Option.some.inj h
 refine ⟨b,h1,r2,h2,?_⟩
 cases b <;> simpa using e
theorem filtFrom_end {p : Int → Option Bool} {n : Nat} {r rest acc : List Int} (h : jnc p (n - n) n = some rest) (e : acc ++ rest = r) : acc = r := by
 rw [Nat.sub_self] at h
 obtain rfl:=Option.some.inj h
 simpa using e
theorem cell_newB (w : World) (v : Value) (t : TypeId) : (w.alloc (.cells #[v] t)).cell? ⟨w.heap.size, 0, none⟩ = some v := by simp
theorem cell_oldB {w : World} {B : Nat} {v : Value} (o : Obj) (h : w.cell? ⟨B, 0, none⟩ = some v) : (w.alloc o).cell? ⟨B, 0, none⟩ = some v := jia ((Below.refl _ _).alloc (Nat.le_refl _) _) h
theorem C_oneB {W : World} {b : Nat} {x : Int} (h : W.cell? ⟨b, 0, none⟩ = some (.int .i64 x)) : Kd.C (Kd.int .i64) W (some ⟨b, 0, none⟩) [x].length [x] :=
 Kd.C_of_reads (d:=0) (h1:=fun _=>rfl) ⟨rfl,by simp,fun _=>⟨_,rfl,fun j hj=>by
  obtain rfl:j=0:=by simpa using hj
  exact h⟩⟩
theorem impl_BelowOf1_calls (k : Nat) (l : List S75) (A_ : Option Addr) (c_ : Nat) (a x : Int) (b : Bool) (B0 B1 : Nat) (w : World) (hr : Kd.C k75 w A_ l.length l) (hcc : l.length ≤ c_) (hc : w.cell? ⟨B0, 0, none⟩ = some (.slice A_ l.length c_)) (ha : w.cell? ⟨B1, 0, none⟩ = some (.int .i64 a)) (h : jUa.f k l x a = some b) :
  Calls Try.prog 54 #[.int .i64 x, .pointer (some ⟨B0,0,none⟩), .pointer (some ⟨B1,0,none⟩)] w fun e w'=>e=.returned (.bool b)∧Below w.heap.size w w':=by
 have HF:=am (jUa.calls k A_ c_ l x a b w hr hcc h)
 clear h hr
 have hu25:=Try.underlying25
 go_enter Try.func54,Try.ntmps54
 go_wp2_with (go_at_call 55;refine HF.out.mono ?_;rintro e w' ⟨rfl,hb2⟩)
 go_ret
 exact ⟨rfl,hb2⟩
set_option maxHeartbeats 8000000 in
set_option maxRecDepth 100000 in
theorem impl_BelowOf_filt (A0_0 : Option Addr) (c0_0 : Nat) (l0_0 : List S75) (B0_ : Nat) (B1_ : Nat) (p : Int → Option Bool) (r : List Int) (w : World) (hr0_0 : Kd.C k75 w A0_0 l0_0.length l0_0) (hlen : l0_0.length ≤ 1000000000) (h : jnc p l0_0.length 0 = some r)
  (hp:∀ W,Below w.heap.size w W→∀ (x:Int) (b:Bool),p x=some b→Calls Try.prog 54 #[.int .i64 x, .pointer (some ⟨B0_,0,none⟩), .pointer (some ⟨B1_,0,none⟩)] W fun e w'=>e=.returned (.bool b)∧Below W.heap.size W w') :
  Calls Try.prog 53 #[.agg #[.slice A0_0 l0_0.length c0_0], .func (.func 54) #[] #[.pointer (some ⟨B0_,0,none⟩), .pointer (some ⟨B1_,0,none⟩)]] w fun e w'=>∃ v0_:Value,e=.returned v0_∧Kd.R (Kd.int .i64) 3 w' w.heap.size (fun _=>True) v0_ r∧Below w.heap.size w w':=by
 have hu25:=Try.underlying25
 have HP:=am hp
 have H0:=am h
 have HB:=am (Below.refl w.heap.size w)
 clear hr0_0 hp h
 go_enter Try.func53,Try.ntmps53
 go_wp2_with (first |((with_reducible refine jJ (N:=2) rfl ?_);refine bE (N:=2) (cs:=#[.slice A0_0 l0_0.length c0_0]) (t:=25) ?_;intro gb hg w5 hbox hb;have n0_:=am (je (bq) hb);have n1_:=am (hbox);have n3_:=am ((Y3:w.heap.size≤gb));clear HB;have HB:=n0_;have BK:=n1_;have GE:=n3_;clear n0_ n1_ n3_ hb hbox hg;have hcz6_0:=bc0 BK.out;have hfz6_0:=ja BK.out 0) |((with_reducible refine jJ (N:=10) rfl ?_);refine Kd.R_mkcap (Kd.int .i64) _ 3 rfl (N:=10) rfl 29 _ _ rfl (l0_0.length:Int) rfl rfl Try.underlying29 (.int .i64 0) 8 info3 rfl (by decide) (by omega) (ok:=fun _=>True) trivial (by omega) (by simp only [Int.toNat_natCast];omega) (Below.refl _ _) (Nat.le_refl _) ?_;intro v787 w7 ho8 hb hg_ hnew_;clear hg_ hnew_;have HO:=am (Kd.jaa ho8 (jma (Y42)));replace BK:=am (jk (g:=gb) (o:=.cells #[.slice A0_0 l0_0.length c0_0] 25 (0,0)) (kq BK.out) hb);replace HB:=am (je (Y42) hb);clear hb ho8;have hcz7_0:=bc0 BK.out;have hfz7_0:=ja BK.out 0))
 go_loopw [5,14] (fun v5 v14 w'=>∃ (i:Nat) (acc:List Int),i≤l0_0.length∧v14=.int .i64 i∧jq (∃ rest,jnc p (l0_0.length - i) i=some rest∧acc ++ rest=r)∧jq (acc.length≤i)∧jq (Kd.R (Kd.int .i64) 3 w' w.heap.size (fun _=>True) v5 acc)∧jq (w'.heap[gb]?=some (.cells #[.slice A0_0 l0_0.length c0_0] 25 (0,0)))∧jq (Below w.heap.size w w')) (fun _ v14 _=>l0_0.length - (intOf v14).toNat)
 case atStart=>exact ⟨0,[],Nat.zero_le _,rfl,⟨r,H0.out,rfl⟩,⟨Nat.le_refl _⟩,⟨rq HO.out⟩,⟨kq BK.out⟩,⟨(Y42)⟩⟩
 case round =>
  clear H0 HO BK HB
  try clear hcz6_0
  try clear hcz7_0
  try clear hfz6_0
  try clear hfz7_0
  obtain ⟨i,acc,hi,rfl,HA,HN,HO,BK,HB⟩:=hrel
  by_cases hlt:i<l0_0.length
  ·obtain ⟨rest,h1,h2⟩:=HA.out
   obtain ⟨b,hb1,rest2,h3,h4⟩:=filtFrom_step hlt h1 h2
   clear HA h1 h2
   have HQ:=am hb1
   clear hb1
   cases b with
   | true =>
    have HZ:=am (show ∃ rest,jnc p (l0_0.length - (i+1)) (i+1)=some rest∧(acc ++ [(i:Int)]) ++ rest=r from ⟨rest2,h3,by simpa using h4⟩)
    clear h3 h4
    go_wp2_with (first |(go_at_call 54;refine (HP.out _ (Y42) _ _ HQ.out).mono ?_;rintro e w2 ⟨rfl,hb2⟩;have n0_:=am (jk (g:=gb) (o:=.cells #[.slice A0_0 l0_0.length c0_0] 25 (0,0)) (kq BK.out) hb2);have n1_:=am (Kd.jZ (rq HO.out) hb2);have n2_:=am (je (Y42) hb2);clear BK HO HB;have BK:=n0_;have HO:=n1_;have HB:=n2_;clear n0_ n1_ n2_ hb2) |((with_reducible refine jMa (b:=.append) (xs:=#[.tmp 20, .tmp 22]) rfl ?_);at_builtin;refine Kd.jcc (Kd.int .i64) (w0:=w) w.heap.size rfl (.tmp 20) (.tmp 22) 29 3 (.int .i64 0) 8 rfl Try.underlying29 info3 rfl (by decide) (by omega) u5 acc (i:Int) [.int .i64 (i:Int)] (fun _=>True) (fun _=>False) rfl rfl ?aP (fun _ hk=>hk.elim) ?aF ?aO ?aB ?aS ?aL ?_;(case aP=>exact rfl);(case aB=>exact (Y42));(case aF=>exact (fun _ _=>trivial));(case aO=>exact (rq HO.out));(case aS=>exact (jma (Y42)));(case aL=>have:=HN.out;omega);intro v790 w13 ho hb hg hat;replace BK:=am (jXa (g:=gb) (o:=.cells #[.slice A0_0 l0_0.length c0_0] 25 (0,0)) (kq BK.out) hg (Kd.R_ne HO.out BK.out (by decide)));replace HB:=am (hb);replace HO:=am (ho);clear ho hb hg hat))
    go_roundw
    case rel=>exact ⟨i+1,acc ++ [(i:Int)],hlt,by go_num,HZ,⟨by have:=HN.out;simp;omega⟩,⟨rq HO.out⟩,⟨kq BK.out⟩,⟨(Y42)⟩⟩
    case measure=>simp [intOf];omega
   | false =>
    have HZ:=am (show ∃ rest,jnc p (l0_0.length - (i+1)) (i+1)=some rest∧acc ++ rest=r from ⟨rest2,h3,by simpa using h4⟩)
    clear h3 h4
    go_wp2_with (go_at_call 54;refine (HP.out _ (Y42) _ _ HQ.out).mono ?_;rintro e w2 ⟨rfl,hb2⟩;have n0_:=am (jk (g:=gb) (o:=.cells #[.slice A0_0 l0_0.length c0_0] 25 (0,0)) (kq BK.out) hb2);have n1_:=am (Kd.jZ (rq HO.out) hb2);have n2_:=am (je (Y42) hb2);clear BK HO HB;have BK:=n0_;have HO:=n1_;have HB:=n2_;clear n0_ n1_ n2_ hb2)
    go_roundw
    case rel=>exact ⟨i+1,acc,hlt,by go_num,HZ,⟨by have:=HN.out;omega⟩,⟨rq HO.out⟩,⟨kq BK.out⟩,⟨(Y42)⟩⟩
    case measure=>simp [intOf];omega
  ·obtain rfl:i=l0_0.length:=by omega
   obtain ⟨rest,h1,h2⟩:=HA.out
   have he:=filtFrom_end h1 h2
   clear HA h1 h2
   subst he
   obtain ⟨Ao15,co15,eo15⟩:=Kd.jka HO.out
   subst eo15
   obtain ⟨i016,hi016,_,hsz16,_⟩:=info_parts info3
   have hcut16:=cut_clip (P:=Try.prog) 29 3 Try.underlying29 hi016 Ao15 _ co15 _ (Kd.jy HO.out).2.1 rfl
   have hr16:=Kd.R_clip HO.out (rfl:acc=acc)
   clear hi016 hsz16 HO
   have HO795:=am hr16
   clear hr16
   go_wp2
   go_ret
   exact ⟨_,Y0,rq HO795.out,(Y42)⟩
def jec.f (k : Nat) (l0_0 : List S75) (a1 : Int) : Option (List Int) := (jfb.f k l0_0 [a1]).bind fun v => if v = true then (if l0_0.length ≤ 1000000000 then jnc (fun x => jUa.f k l0_0 x a1) l0_0.length 0 else none) else some []
set_option maxHeartbeats 8000000 in
set_option maxRecDepth 100000 in
theorem jec.calls (k : Nat) (A0_0 : Option Addr) (c0_0 : Nat) (l0_0 : List (S75)) (a1 : Int) (r : List Int) (w : World) (hr0_0 : Kd.C k75 w A0_0 l0_0.length l0_0) (hc0_0 : l0_0.length ≤ c0_0) (h : jec.f k l0_0 a1 = some r) :
  Calls Try.prog 22 #[.agg #[.slice A0_0 l0_0.length c0_0], .int .i64 a1] w fun e w'=>∃ v0_:Value,e=.returned v0_∧Kd.R (Kd.int .i64) 3 w' w.heap.size (fun _=>True) v0_ r∧Below w.heap.size w w':=by
 obtain ⟨v,hv,h⟩:=bzS h
 have hu25:=Try.underlying25
 have B3:=am ((((Below.refl w.heap.size w).alloc (Nat.le_refl _) (.cells #[.slice A0_0 l0_0.length c0_0] 25)).alloc (by simp) (.cells #[.int .i64 a1] 3)).alloc (by simp;omega) (.cells #[.int .i64 a1] 3))
 have KC0:=am (cell_oldB (.cells #[.int .i64 a1] 3) (cell_oldB (.cells #[.int .i64 a1] 3) (cell_newB w (.slice A0_0 l0_0.length c0_0) 25)))
 have KC1:=am (show (((w.alloc (.cells #[.slice A0_0 l0_0.length c0_0] 25)).alloc (.cells #[.int .i64 a1] 3)).alloc (.cells #[.int .i64 a1] 3)).cell? ⟨w.heap.size+1,0,none⟩=some (.int .i64 a1) from cell_oldB _ (by have h:=cell_newB (w.alloc (.cells #[.slice A0_0 l0_0.length c0_0] 25)) (.int .i64 a1) 3;simpa only [World.size_alloc] using h))
 have KC2:=am (show (((w.alloc (.cells #[.slice A0_0 l0_0.length c0_0] 25)).alloc (.cells #[.int .i64 a1] 3)).alloc (.cells #[.int .i64 a1] 3)).cell? ⟨w.heap.size+1+1,0,none⟩=some (.int .i64 a1) from (by have h:=cell_newB ((w.alloc (.cells #[.slice A0_0 l0_0.length c0_0] 25)).alloc (.cells #[.int .i64 a1] 3)) (.int .i64 a1) 3;simpa only [World.size_alloc] using h))
 have HV:=am (fun W (hb:Below w.heap.size w W) (B:Nat) (hB:W.cell? ⟨B,0,none⟩=some (.int .i64 a1))=>jfb.calls k A0_0 c0_0 l0_0 (some ⟨B,0,none⟩) 1 [a1] v W (Kd.jT hr0_0 hb) hc0_0 (C_oneB hB) (by simp) hv)
 cases v with
 | false =>
  obtain rfl:[]=r:=by simpa using h
  clear hv h hr0_0
  go_enter Try.func22,Try.ntmps22
  go_wp2_with (go_at_call 52;refine (HV.out _ B3.out (w.heap.size+1+1) KC2.out).mono ?_;rintro e w' ⟨rfl,hb2⟩)
  go_ret
  exact ⟨_,rfl,Kd.R_nil _ _ _ _ _,B3.out.trans (hb2.mono (by simp;omega))⟩
 | true =>
  simp only [if_true] at h
  by_cases hlen:l0_0.length≤1000000000
  case neg=>rw [if_neg hlen] at h;cases h
  rw [if_pos hlen] at h
  have HF:=am (fun W (hb:Below w.heap.size w W) (B0 B1:Nat) (hc:W.cell? ⟨B0,0,none⟩=some (.slice A0_0 l0_0.length c0_0)) (ha:W.cell? ⟨B1,0,none⟩=some (.int .i64 a1))=>impl_BelowOf_filt A0_0 c0_0 l0_0 B0 B1 (fun x=>jUa.f k l0_0 x a1) r W (Kd.jT hr0_0 hb) hlen h (fun W' hb' x b hx =>
   impl_BelowOf1_calls k l0_0 A0_0 c0_0 a1 x b B0 B1 W' (Kd.jT (Kd.jT hr0_0 hb) hb') hc0_0 (jia hb' hc) (jia hb' ha) hx))
  clear hv h hr0_0 hlen
  go_enter Try.func22,Try.ntmps22
  go_wp2_with (first |(go_at_call 52;refine (HV.out _ B3.out (w.heap.size+1+1) KC2.out).mono ?_;rintro e w1 ⟨rfl,hb2⟩;have hb1:=am (B3.out.trans (hb2.mono (by simp;omega)));have hcell:=jia hb2 KC0.out;have hcell2:=jia hb2 KC1.out;clear HV hb2) |(go_at_call 53;refine (HF.out _ hb1.out _ _ hcell hcell2).mono ?_;rintro e w2 ⟨v2,rfl,hr2,hb3⟩))
  go_ret
  exact ⟨_,rfl,Kd.jaa hr2 hb1.out.size,jda hb1.out hb1.out.size hb3⟩
def jic.f (k : Nat) (l0_0 : List (S75)) (a1 : Int) (a2 : Int) : Option (Bool) := (jfb.f k l0_0 (([a1, a2] : List Int))).bind fun t862 => (if t862 = true then ((jUa.f k l0_0 a1 a2).bind fun t863 => (some t863)) else (some false))
set_option maxHeartbeats 8000000 in
set_option maxRecDepth 100000 in
theorem jic.calls (k : Nat) (A0_0 : Option Addr) (c0_0 : Nat) (l0_0 : List (S75)) (a1 : Int) (a2 : Int) (r : Bool) (w : World) (hr0_0 : Kd.C k75 w A0_0 l0_0.length l0_0) (hc0_0 : l0_0.length ≤ c0_0) (h : jic.f k l0_0 a1 a2 = some r) :
  Calls Try.prog 23 #[.agg #[.slice A0_0 l0_0.length c0_0], .int .i64 a1, .int .i64 a2] w fun e w'=>e=.returned (.bool r)∧Below w.heap.size w w':=by
 have hu25:=Try.underlying25
 have HR0_0:=am hr0_0
 have HC0_0:=am hc0_0
 clear hr0_0 hc0_0
 have HB:=am (Below.refl w.heap.size w)
 have H:((jfb.f k l0_0 (([a1,a2]:List Int))).bind fun t862=>(if t862=true then ((jUa.f k l0_0 a1 a2).bind fun t863=>(some t863)) else (some false)))=some r:=h
 clear h
 obtain ⟨y859,hy859⟩:∃ y_:List Int,y_=(([a1,a2]:List Int)):=⟨_,rfl⟩
 replace H:((jfb.f k l0_0 y859).bind fun t862=>(if t862=true then ((jUa.f k l0_0 a1 a2).bind fun t863=>(some t863)) else (some false)))=some r:=by first |(rw [hy859];with_reducible exact H) |(have H2_:=(Option.bind_some _ _).symm.trans H;rw [hy859];with_reducible exact H2_) |(have H2_:=(Option.bind_some _ _).symm.trans H;with_reducible exact H2_) | with_reducible exact H |(rw [hy859];exact H) | exact H
 have Ny859:=am hy859
 clear hy859
 replace H:=bzS H
 obtain ⟨t862,A40,H⟩:=H
 replace H:(if t862=true then ((jUa.f k l0_0 a1 a2).bind fun t863=>(some t863)) else (some false))=some r:=H
 have A4:=am A40
 clear A40
 by_cases c5:t862=true
 ·subst c5
  have H1:((jUa.f k l0_0 a1 a2).bind fun t863=>(some t863))=some r:=by rw [if_pos rfl] at H;exact H
  clear H
  have H:=H1
  clear H1
  replace H:=bzS H
  obtain ⟨t863,A60,H⟩:=H
  replace H:(some t863)=some r:=H
  have A6:=am A60
  clear A60
  obtain rfl:=Option.some.inj H
  go_enter Try.func23,Try.ntmps23
  go_wp2_with (first |((with_reducible refine jJ (N:=3) rfl ?_);refine bE (N:=3) (cs:=#[.slice A0_0 l0_0.length c0_0]) (t:=25) ?_;intro gb858 hg w7 hbox hb;have BK858:=am (hbox);have GW858:=am ((Y3:w.heap.size≤gb858));have GE858:=am ((Y3:w.heap.size≤gb858));replace HB:=am (je (bq) hb);clear hb hbox hg;have hcz8_0:=bc0 BK858.out;have hfz8_0:=ja BK858.out 0) |((with_reducible refine jJ (N:=10) rfl ?_);refine Kd.jfc (Kd.int .i64) _ 3 ?hg (N:=10) ?hd (xs:=([a1,a2]:List Int)) (inner:=[.int .i64 a1, .int .i64 a2]) (ok:=fun _=>True) (okp:=fun _=>True) ?hr ?hp (fun _ hk=>hk) trivial (Below.refl _ _) (Nat.le_refl _) (by simp) ?_;(case hd=>rfl);(case hg=>rfl);(case hr=>exact Y5);(case hp=>exact (Reps.one (show Kd.M (Kd.int .i64) _ _ _ a1 [.int .i64 a1] from rfl) (Reps.one (show Kd.M (Kd.int .i64) _ _ _ a2 [.int .i64 a2] from rfl) (Reps.none _ _))));intro v860 w9 ho10 hb hg_ hnew_;clear hg_ hnew_;(first | rw [← Ny859.out] at ho10 |(simp only [Int.reduceToNat] at ho10;rw [← Ny859.out] at ho10));have HO861:=am (Kd.jaa ho10 (jma (Y50)));replace BK858:=am (jk (g:=gb858) (o:=.cells #[.slice A0_0 l0_0.length c0_0] 25 (0,0)) (kq BK858.out) hb);replace HB:=am (je (Y50) hb);clear hb ho10;obtain ⟨Ao11,co11,eo11⟩:=Kd.jka HO861.out;subst eo11) |((with_reducible refine jd (f:=52) rfl ?_);refine gL (some 11) Try.func52 #[.agg #[.slice A0_0 l0_0.length c0_0], .slice Ao11 y859.length co11] ?_;(with_reducible refine (jfb.calls k _ _ l0_0 _ _ y859 true _ ?side1 ?side2 ?side3 ?side4 A4.out).mono ?_);(case side1=>exact cq (Kd.jT HR0_0.out HB.out));(case side2=>exact HC0_0.out);(case side3=>exact cq (Kd.jy HO861.out).2.2);(case side4=>exact (Kd.jy HO861.out).2.1);rintro e w12 ⟨rfl,hb⟩;refine ⟨_,rfl,?_⟩;replace HO861:=am (Kd.jZ (rq HO861.out) hb);replace BK858:=am (jk (g:=gb858) (o:=.cells #[.slice A0_0 l0_0.length c0_0] 25 (0,0)) (kq BK858.out) hb);replace HB:=am (je (Y50) hb);(try clear hb);(try clear hb2);(try clear hk);(try clear hi);have hcz13_0:=bc0 BK858.out;have hfz13_0:=ja BK858.out 0) |(go_at_call 55;(with_reducible refine (jUa.calls k _ _ l0_0 a1 a2 t863 _ ?side1 ?side2 A6.out).mono ?_);(case side1=>exact cq (Kd.jT HR0_0.out HB.out));(case side2=>exact HC0_0.out);rintro e w14 ⟨rfl,hb⟩;replace HO861:=am (Kd.jZ (rq HO861.out) hb);replace BK858:=am (jk (g:=gb858) (o:=.cells #[.slice A0_0 l0_0.length c0_0] 25 (0,0)) (kq BK858.out) hb);replace HB:=am (je (Y50) hb);(try clear hb);(try clear hb2);(try clear hk);(try clear hi)))
  go_ret
  exact ⟨Y0,Y50⟩
 ·replace c5:=Bool.eq_false_iff.mpr c5
  subst c5
  have H1:(some false)=some r:=by rw [if_neg (show ¬ (false=true) by decide)] at H;exact H
  clear H
  have H:=H1
  clear H1
  obtain rfl:=Option.some.inj H
  go_enter Try.func23,Try.ntmps23
  go_wp2_with (first |((with_reducible refine jJ (N:=3) rfl ?_);refine bE (N:=3) (cs:=#[.slice A0_0 l0_0.length c0_0]) (t:=25) ?_;intro gb858 hg w15 hbox hb;have BK858:=am (hbox);have GW858:=am ((Y3:w.heap.size≤gb858));have GE858:=am ((Y3:w.heap.size≤gb858));replace HB:=am (je (bq) hb);clear hb hbox hg;have hcz16_0:=bc0 BK858.out;have hfz16_0:=ja BK858.out 0) |((with_reducible refine jJ (N:=10) rfl ?_);refine Kd.jfc (Kd.int .i64) _ 3 ?hg (N:=10) ?hd (xs:=([a1,a2]:List Int)) (inner:=[.int .i64 a1, .int .i64 a2]) (ok:=fun _=>True) (okp:=fun _=>True) ?hr ?hp (fun _ hk=>hk) trivial (Below.refl _ _) (Nat.le_refl _) (by simp) ?_;(case hd=>rfl);(case hg=>rfl);(case hr=>exact Y5);(case hp=>exact (Reps.one (show Kd.M (Kd.int .i64) _ _ _ a1 [.int .i64 a1] from rfl) (Reps.one (show Kd.M (Kd.int .i64) _ _ _ a2 [.int .i64 a2] from rfl) (Reps.none _ _))));intro v860 w17 ho18 hb hg_ hnew_;clear hg_ hnew_;(first | rw [← Ny859.out] at ho18 |(simp only [Int.reduceToNat] at ho18;rw [← Ny859.out] at ho18));have HO861:=am (Kd.jaa ho18 (jma (Y50)));replace BK858:=am (jk (g:=gb858) (o:=.cells #[.slice A0_0 l0_0.length c0_0] 25 (0,0)) (kq BK858.out) hb);replace HB:=am (je (Y50) hb);clear hb ho18;obtain ⟨Ao19,co19,eo19⟩:=Kd.jka HO861.out;subst eo19) |((with_reducible refine jd (f:=52) rfl ?_);refine gL (some 11) Try.func52 #[.agg #[.slice A0_0 l0_0.length c0_0], .slice Ao19 y859.length co19] ?_;(with_reducible refine (jfb.calls k _ _ l0_0 _ _ y859 false _ ?side1 ?side2 ?side3 ?side4 A4.out).mono ?_);(case side1=>exact cq (Kd.jT HR0_0.out HB.out));(case side2=>exact HC0_0.out);(case side3=>exact cq (Kd.jy HO861.out).2.2);(case side4=>exact (Kd.jy HO861.out).2.1);rintro e w20 ⟨rfl,hb⟩;refine ⟨_,rfl,?_⟩;replace HO861:=am (Kd.jZ (rq HO861.out) hb);replace BK858:=am (jk (g:=gb858) (o:=.cells #[.slice A0_0 l0_0.length c0_0] 25 (0,0)) (kq BK858.out) hb);replace HB:=am (je (Y50) hb);(try clear hb);(try clear hb2);(try clear hk);(try clear hi)))
  go_ret
  exact ⟨Y0,Y50⟩
end Go.Proofs.Ytkedkinojeoeaaa.P
end
