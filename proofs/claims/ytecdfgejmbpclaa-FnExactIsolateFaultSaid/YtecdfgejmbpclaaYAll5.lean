/- One part of the proofs on this program: functions of the program as plain functions, that the code comes to them, and facts on them. -/
import Derived.Test.YtecdfgejmbpclaaYAll1
import Derived.Test.YtecdfgejmbpclaaYAll4
import Derived.Test.YtecdfgejmbpclaaYWAuto
section
namespace Go.Proofs.Ytecdfgejmbpclaa.P
open Go.RowKit Go.Proofs.YtecdfgejmbpclaaW.PrintWords Go.Proofs.YtecdfgejmbpclaaW.PrintLast Go.Proofs.YtecdfgejmbpclaaW.PrintMore
attribute [local go_sem] jka jia jEa jDa jba jaa jja jha jv
set_option linter.unusedVariables false
set_option linter.unusedSimpArgs false
def jX.l0 : Nat → List (S94) → List (S94) → Int → Option (Bool)
 | 0,_,_,_=>none
 | k+1,x0,x1,x5=>if x5<(x0.length:Int) then (if 0≤x5 then (if x5<(x1.length:Int) then ((jIb.f ((jJ x0 x5).f0) ((jJ x0 x5).f1) ((jJ x1 x5).f0) ((jJ x1 x5).f1)).bind fun t388=>(if t388=true then (jX.l0 k x0 x1 (wrap64 (x5+1))) else (some false))) else (none)) else (none)) else (some true)
def jX.f (k : Nat) (l0 : List (S94)) (l1 : List (S94)) : Option (Bool) := if (l0.length : Int) = (l1.length : Int) then (jX.l0 k l0 l1 0) else (some false)
def jX.T6 : Bool × List (List Nat × List Nat) := (true, [([], []), ([], []), ([0, 1], [0, 1]), ([2], [2]), ([], []), ([], []), ([4, 5], [4, 5]), ([6], [6]), ([3, 7], [3, 7]), ([8], [8])])
def jX.B6 : List Nat := [0, 0, 3, 7, 0, 0, 48, 112, 255, 511]
theorem jX.tab6 : rtab .any (opsOf Try.f48 6) = jX.T6 := by kernel_rfl
theorem jX.bits6 : jWb jX.T6.2 jX.B6 = true := by kernel_rfl
set_option maxHeartbeats 8000000 in
set_option maxRecDepth 100000 in
theorem jX.calls (k : Nat) (A0 : Option Addr) (c0 : Nat) (l0 : List (S94)) (A1 : Option Addr) (c1 : Nat) (l1 : List (S94)) (r : Bool) (w : World) (hr0 : Kd.C k94 w A0 l0.length l0) (hc0 : l0.length ≤ c0) (hr1 : Kd.C k94 w A1 l1.length l1) (hc1 : l1.length ≤ c1) (h : jX.f k l0 l1 = some r) :
  Calls Try.prog 48 #[.slice A0 l0.length c0, .slice A1 l1.length c1] w fun e w'=>e=.returned (.bool r)∧Below w.heap.size w w':=by
 have hu94:=Try.underlying94
 have HR0:=am hr0
 have HC0:=am hc0
 clear hr0 hc0
 have HR1:=am hr1
 have HC1:=am hc1
 clear hr1 hc1
 have HB:=am (Below.refl w.heap.size w)
 have H:(if (l0.length:Int)=(l1.length:Int) then (jX.l0 k l0 l1 0) else (some false))=some r:=h
 clear h
 by_cases c3:(l0.length:Int)=(l1.length:Int)
 ·rw [if_pos c3] at H
  have c3b0:((l0.length:Int) == (l1.length:Int))=true:=beq_iff_eq.mpr c3
  have c3b1:((l0.length:Int) != (l1.length:Int))=false:=bne_eq_false_iff_eq.mpr c3
  have c3b2:(l0.length == l1.length)=true:=by first | simpa using c3 |(simp at c3 ⊢;omega)
  clear c3
  have H':=am H
  clear H
  go_enter Try.func48,Try.ntmps48
  go_wp2
  go_loopg [5] k (fun kq v5 w'=>∃ (x5_1:Int),v5=.int .i64 x5_1∧jw (jX.l0 kq l0 l1 x5_1=some r)∧jw (kq≤k)∧jw (Below w.heap.size w w'))
  case atStart=>exact ⟨(0),(sq),H',⟨Nat.le_refl _⟩,⟨bq⟩⟩
  case round =>
   clear H'
   try clear c1
   try clear p2
   try clear c3
   try clear c3b0
   try clear c3b1
   try clear c3b2
   obtain ⟨x5_1,rfl,HA,HK1,HB⟩:=hrel
   cases gk with
   | zero=>exact absurd HA.out (by simp [jX.l0])
   | succ k1 =>
    have H:=HA.out
    clear HA
    simp only [jX.l0] at H
    by_cases c4:x5_1<(l0.length:Int)
    ·rw [if_pos c4] at H
     have c4b0:decide (x5_1<(l0.length:Int))=true:=dzT c4
     clear c4
     by_cases c5:0≤x5_1
     ·rw [if_pos c5] at H
      have c5b0:decide (0≤x5_1)=true:=dzT c5
      clear c5
      by_cases c6:x5_1<(l1.length:Int)
      ·rw [if_pos c6] at H
       have c6b0:decide (x5_1<(l1.length:Int))=true:=dzT c6
       clear c6
       replace H:=bzS H
       obtain ⟨t388,A70,H⟩:=H
       replace H:(if t388=true then (jX.l0 k1 l0 l1 (wrap64 (x5_1+1))) else (some false))=some r:=H
       have A7:=am A70
       clear A70
       by_cases c8:t388=true
       ·subst c8
        have H1:(jX.l0 k1 l0 l1 (wrap64 (x5_1+1)))=some r:=by rw [if_pos rfl] at H;exact H
        clear H
        have H:=H1
        clear H1
        have H':=am H
        clear H
        try go_wp2
        replace HB:=am (jm HB.out)
        have p386:0≤(x5_1:Int):=ozD (uq)
        have q386:x5_1<(l0.length:Int):=ozD (uq)
        obtain ⟨ad386,e386,hx386_0,hx386_1⟩:=at_T94 HR0.out x5_1 p386 q386
        have hw386_1:=hx386_1
        have hw386_0:=hx386_0
        cases e386
        replace hx386_0:=cb HB.out hx386_0
        replace hx386_1:=cb HB.out hx386_1
        replace p386:=ezT p386
        replace q386:=ezT q386
        have p387:0≤(x5_1:Int):=ozD (uq)
        have q387:x5_1<(l1.length:Int):=ozD (uq)
        obtain ⟨ad387,e387,hx387_0,hx387_1⟩:=at_T94 HR1.out x5_1 p387 q387
        have hw387_1:=hx387_1
        have hw387_0:=hx387_0
        cases e387
        replace hx387_0:=cb HB.out hx387_0
        replace hx387_1:=cb HB.out hx387_1
        replace p387:=ezT p387
        replace q387:=ezT q387
        refine jdc (n:=10) (S:=fun w'=>w'.cell? (ad386.add ((x5_1).toNat * 2))=some (.string ((jJ l0 x5_1).f0))∧w'.cell? ⟨(ad386.add ((x5_1).toNat * 2)).block,(ad386.add ((x5_1).toNat * 2)).off+1,none⟩=some (.int .i64 ((jJ l0 x5_1).f1))∧w'.cell? (ad387.add ((x5_1).toNat * 2))=some (.string ((jJ l1 x5_1).f0))∧w'.cell? ⟨(ad387.add ((x5_1).toNat * 2)).block,(ad387.add ((x5_1).toNat * 2)).off+1,none⟩=some (.int .i64 ((jJ l1 x5_1).f1))) (ds:=[]) #[false,false,false,false,false,false,false,false,false,false] (by kernel_rfl) rfl rfl ⟨((HB.out.cell (World.block_lt_of_cell? w _ hw386_0)).trans hw386_0),((HB.out.cell (World.block_lt_of_cell? w _ hw386_1)).trans hw386_1),((HB.out.cell (World.block_lt_of_cell? w _ hw387_0)).trans hw387_0),((HB.out.cell (World.block_lt_of_cell? w _ hw387_1)).trans hw387_1)⟩ (fun hHeld=>?_);refine jBb jX.tab6 jX.bits6 (fun HT_ HW_=>?_)
        generalize wr.drew=w9 at HB hx386_0 hx386_1 hx387_0 hx387_1 hHeld ⊢
        refine pq (i:=0) (N:=some 17) #[true,false,false,false,false,false,false,false,false,false] ?_
        refine pq (i:=1) (N:=some 18) #[true,true,false,false,false,false,false,false,false,false] ?_
        refine pq (i:=2) (N:=some 19) #[true,true,true,false,false,false,false,false,false,false] ?_
        refine pq (i:=4) (N:=some 21) #[true,true,true,false,true,false,false,false,false,false] ?_
        refine pq (i:=5) (N:=some 22) #[true,true,true,false,true,true,false,false,false,false] ?_
        refine pq (i:=6) (N:=some 23) #[true,true,true,false,true,true,true,false,false,false] ?_
        refine jCb (i:=3) (N:=some 20) (v:=?_) (a':=?_) #[true,true,true,true,true,true,true,false,false,false] rfl rfl (jTa HT_.out HW_.out (by kernel_rfl)) (fun _ _ _ h=>h) (Or.inl ⟨by rfl,?_⟩) hHeld ?_ ?_
        rotate_left
        ·rintro w' ⟨s0,s1,s2,s3⟩
         go_simp
         with_reducible rfl
        rotate_left
        ·exact sa
        refine jCb (i:=7) (N:=some 24) (v:=?_) (a':=?_) #[true,true,true,true,true,true,true,true,false,false] rfl rfl (jTa HT_.out HW_.out (by kernel_rfl)) (fun _ _ _ h=>h) (Or.inl ⟨by rfl,?_⟩) hHeld ?_ ?_
        rotate_left
        ·rintro w' ⟨s0,s1,s2,s3⟩
         go_simp
         with_reducible rfl
        rotate_left
        ·exact sa
        refine one_ (i:=8) (N:=some 25) #[true,true,true,true,true,true,true,true,true,false] rfl rfl (jlb HT_.out (by kernel_rfl)) (by decide) (fun K hK=>?_)
        refine jDb Try.func78 (by kernel_rfl) rfl #[.agg #[.string ((jJ l0 x5_1).f0), .int .i64 ((jJ l0 x5_1).f1)], .agg #[.string ((jJ l1 x5_1).f0), .int .i64 ((jJ l1 x5_1).f1)]] (by rfl) rfl rfl (aq) ?_
        with_reducible refine (jIb.calls ((jJ l0 x5_1).f0) ((jJ l0 x5_1).f1) ((jJ l1 x5_1).f0) ((jJ l1 x5_1).f1) true _ A7.out).mono ?_
        rintro e w10 ⟨rfl,hb⟩
        refine ⟨_,rfl,?_⟩
        replace HB:=am (je (bq) hb)
        (try clear hb)
        (try clear hb2)
        (try clear hk)
        (try clear hi)
        refine hK.out _ _ ⟨((HB.out.cell (World.block_lt_of_cell? w _ hw386_0)).trans hw386_0),((HB.out.cell (World.block_lt_of_cell? w _ hw386_1)).trans hw386_1),((HB.out.cell (World.block_lt_of_cell? w _ hw387_0)).trans hw387_0),((HB.out.cell (World.block_lt_of_cell? w _ hw387_1)).trans hw387_1)⟩ (fun hHeld=>?_)
        clear hK K
        refine jYa (a':=?_) ?_ ?_
        rotate_left
        ·show Act.put _ (some 25) _=_
         simp only [Act.put,List.setIfInBounds_toArray,List.set_cons_zero,List.set_cons_succ,jZa,jdb]
         rfl
        refine pq (i:=9) (N:=some 26) #[true,true,true,true,true,true,true,true,true,true] ?_
        refine done_ (jic HT_.out (by kernel_rfl)) ?_
        try go_wp2
        go_roundg k1
        case measure=>have:=HK1.out;omega
        case rel=>exact ⟨(wrap64 (x5_1+1)),(sq),H',⟨by have:=HK1.out;omega⟩,⟨bq⟩⟩
       ·replace c8:=Bool.eq_false_iff.mpr c8
        subst c8
        have H1:(some false)=some r:=by rw [if_neg (show ¬ (false=true) by decide)] at H;exact H
        clear H
        have H:=H1
        clear H1
        obtain rfl:=Option.some.inj H
        try go_wp2
        replace HB:=am (jm HB.out)
        have p386:0≤(x5_1:Int):=ozD (uq)
        have q386:x5_1<(l0.length:Int):=ozD (uq)
        obtain ⟨ad386,e386,hx386_0,hx386_1⟩:=at_T94 HR0.out x5_1 p386 q386
        have hw386_1:=hx386_1
        have hw386_0:=hx386_0
        cases e386
        replace hx386_0:=cb HB.out hx386_0
        replace hx386_1:=cb HB.out hx386_1
        replace p386:=ezT p386
        replace q386:=ezT q386
        have p387:0≤(x5_1:Int):=ozD (uq)
        have q387:x5_1<(l1.length:Int):=ozD (uq)
        obtain ⟨ad387,e387,hx387_0,hx387_1⟩:=at_T94 HR1.out x5_1 p387 q387
        have hw387_1:=hx387_1
        have hw387_0:=hx387_0
        cases e387
        replace hx387_0:=cb HB.out hx387_0
        replace hx387_1:=cb HB.out hx387_1
        replace p387:=ezT p387
        replace q387:=ezT q387
        refine jdc (n:=10) (S:=fun w'=>w'.cell? (ad386.add ((x5_1).toNat * 2))=some (.string ((jJ l0 x5_1).f0))∧w'.cell? ⟨(ad386.add ((x5_1).toNat * 2)).block,(ad386.add ((x5_1).toNat * 2)).off+1,none⟩=some (.int .i64 ((jJ l0 x5_1).f1))∧w'.cell? (ad387.add ((x5_1).toNat * 2))=some (.string ((jJ l1 x5_1).f0))∧w'.cell? ⟨(ad387.add ((x5_1).toNat * 2)).block,(ad387.add ((x5_1).toNat * 2)).off+1,none⟩=some (.int .i64 ((jJ l1 x5_1).f1))) (ds:=[]) #[false,false,false,false,false,false,false,false,false,false] (by kernel_rfl) rfl rfl ⟨((HB.out.cell (World.block_lt_of_cell? w _ hw386_0)).trans hw386_0),((HB.out.cell (World.block_lt_of_cell? w _ hw386_1)).trans hw386_1),((HB.out.cell (World.block_lt_of_cell? w _ hw387_0)).trans hw387_0),((HB.out.cell (World.block_lt_of_cell? w _ hw387_1)).trans hw387_1)⟩ (fun hHeld=>?_);refine jBb jX.tab6 jX.bits6 (fun HT_ HW_=>?_)
        generalize wr.drew=w11 at HB hx386_0 hx386_1 hx387_0 hx387_1 hHeld ⊢
        refine pq (i:=0) (N:=some 17) #[true,false,false,false,false,false,false,false,false,false] ?_
        refine pq (i:=1) (N:=some 18) #[true,true,false,false,false,false,false,false,false,false] ?_
        refine pq (i:=2) (N:=some 19) #[true,true,true,false,false,false,false,false,false,false] ?_
        refine pq (i:=4) (N:=some 21) #[true,true,true,false,true,false,false,false,false,false] ?_
        refine pq (i:=5) (N:=some 22) #[true,true,true,false,true,true,false,false,false,false] ?_
        refine pq (i:=6) (N:=some 23) #[true,true,true,false,true,true,true,false,false,false] ?_
        refine jCb (i:=3) (N:=some 20) (v:=?_) (a':=?_) #[true,true,true,true,true,true,true,false,false,false] rfl rfl (jTa HT_.out HW_.out (by kernel_rfl)) (fun _ _ _ h=>h) (Or.inl ⟨by rfl,?_⟩) hHeld ?_ ?_
        rotate_left
        ·rintro w' ⟨s0,s1,s2,s3⟩
         go_simp
         with_reducible rfl
        rotate_left
        ·exact sa
        refine jCb (i:=7) (N:=some 24) (v:=?_) (a':=?_) #[true,true,true,true,true,true,true,true,false,false] rfl rfl (jTa HT_.out HW_.out (by kernel_rfl)) (fun _ _ _ h=>h) (Or.inl ⟨by rfl,?_⟩) hHeld ?_ ?_
        rotate_left
        ·rintro w' ⟨s0,s1,s2,s3⟩
         go_simp
         with_reducible rfl
        rotate_left
        ·exact sa
        refine one_ (i:=8) (N:=some 25) #[true,true,true,true,true,true,true,true,true,false] rfl rfl (jlb HT_.out (by kernel_rfl)) (by decide) (fun K hK=>?_)
        refine jDb Try.func78 (by kernel_rfl) rfl #[.agg #[.string ((jJ l0 x5_1).f0), .int .i64 ((jJ l0 x5_1).f1)], .agg #[.string ((jJ l1 x5_1).f0), .int .i64 ((jJ l1 x5_1).f1)]] (by rfl) rfl rfl (aq) ?_
        with_reducible refine (jIb.calls ((jJ l0 x5_1).f0) ((jJ l0 x5_1).f1) ((jJ l1 x5_1).f0) ((jJ l1 x5_1).f1) false _ A7.out).mono ?_
        rintro e w12 ⟨rfl,hb⟩
        refine ⟨_,rfl,?_⟩
        replace HB:=am (je (bq) hb)
        (try clear hb)
        (try clear hb2)
        (try clear hk)
        (try clear hi)
        refine hK.out _ _ ⟨((HB.out.cell (World.block_lt_of_cell? w _ hw386_0)).trans hw386_0),((HB.out.cell (World.block_lt_of_cell? w _ hw386_1)).trans hw386_1),((HB.out.cell (World.block_lt_of_cell? w _ hw387_0)).trans hw387_0),((HB.out.cell (World.block_lt_of_cell? w _ hw387_1)).trans hw387_1)⟩ (fun hHeld=>?_)
        clear hK K
        refine jYa (a':=?_) ?_ ?_
        rotate_left
        ·show Act.put _ (some 25) _=_
         simp only [Act.put,List.setIfInBounds_toArray,List.set_cons_zero,List.set_cons_succ,jZa,jdb]
         rfl
        refine pq (i:=9) (N:=some 26) #[true,true,true,true,true,true,true,true,true,true] ?_
        refine done_ (jic HT_.out (by kernel_rfl)) ?_
        try go_wp2
        go_ret
        exact ⟨Y1,bq⟩
      ·rw [if_neg c6] at H
       exact absurd H (by simp)
     ·rw [if_neg c5] at H
      exact absurd H (by simp)
    ·rw [if_neg c4] at H
     have c4b0:decide (x5_1<(l0.length:Int))=false:=dzF c4
     clear c4
     obtain rfl:=Option.some.inj H
     go_wp2
     go_ret
     exact ⟨Y1,bq⟩
 ·rw [if_neg c3] at H
  have c3b0:((l0.length:Int) == (l1.length:Int))=false:=beq_eq_false_iff_ne.mpr c3
  have c3b1:((l0.length:Int) != (l1.length:Int))=true:=bne_iff_ne.mpr c3
  have c3b2:(l0.length == l1.length)=false:=by first | simpa using c3 |(simp at c3 ⊢;omega)
  obtain rfl:=Option.some.inj H
  go_enter Try.func48,Try.ntmps48
  go_wp2
  go_ret
  exact ⟨Y1,bq⟩
def jub.f (k : Nat) (l0_0 : List (S94)) (l1_0 : List (S94)) : Option (Bool) := (jX.f k l0_0 l1_0).bind fun t391 => (if t391 = true then (some true) else (some false))
set_option maxHeartbeats 8000000 in
set_option maxRecDepth 100000 in
theorem jub.calls (k : Nat) (A0_0 : Option Addr) (c0_0 : Nat) (l0_0 : List (S94)) (A1_0 : Option Addr) (c1_0 : Nat) (l1_0 : List (S94)) (r : Bool) (w : World) (hr0_0 : Kd.C k94 w A0_0 l0_0.length l0_0) (hc0_0 : l0_0.length ≤ c0_0) (hr1_0 : Kd.C k94 w A1_0 l1_0.length l1_0) (hc1_0 : l1_0.length ≤ c1_0) (h : jub.f k l0_0 l1_0 = some r) :
  Calls Try.prog 16 #[.agg #[.slice A0_0 l0_0.length c0_0], .agg #[.slice A1_0 l1_0.length c1_0]] w fun e w'=>e=.returned (.bool r)∧Below w.heap.size w w':=by
 have hu37:=Try.underlying37
 have HR0_0:=am hr0_0
 have HC0_0:=am hc0_0
 clear hr0_0 hc0_0
 have HR1_0:=am hr1_0
 have HC1_0:=am hc1_0
 clear hr1_0 hc1_0
 have HB:=am (Below.refl w.heap.size w)
 have H:((jX.f k l0_0 l1_0).bind fun t391=>(if t391=true then (some true) else (some false)))=some r:=h
 clear h
 replace H:=bzS H
 obtain ⟨t391,A30,H⟩:=H
 replace H:(if t391=true then (some true) else (some false))=some r:=H
 have A3:=am A30
 clear A30
 by_cases c4:t391=true
 ·subst c4
  have H1:(some true)=some r:=by rw [if_pos rfl] at H;exact H
  clear H
  have H:=H1
  clear H1
  obtain rfl:=Option.some.inj H
  go_enter Try.func16,Try.ntmps16
  go_wp2_with (first |((with_reducible refine jD (N:=2) rfl ?_);refine bE (N:=2) (cs:=#[.slice A0_0 l0_0.length c0_0]) (t:=37) ?_;intro gb389 hg w5 hbox hb;have BK389:=am (hbox);have GW389:=am ((Y0:w.heap.size≤gb389));have GE389:=am ((Y0:w.heap.size≤gb389));replace HB:=am (je (bq) hb);clear hb hbox hg) |((with_reducible refine jD (N:=3) rfl ?_);refine bE (N:=3) (cs:=#[.slice A1_0 l1_0.length c1_0]) (t:=37) ?_;intro gb390 hg w6 hbox hb;have BK390:=am (hbox);have GW390:=am ((Y69:w.heap.size≤gb390));have GE390:=am ((Y69:w.heap.size≤gb390));have NB389_390:=am ((by rw [hg];exact Nat.ne_of_lt (jP (g:=gb389) (o:=.cells #[.slice A0_0 l0_0.length c0_0] 37 (0,0)) (kq BK389.out)):gb389≠gb390));have NB390_389:=am ((by rw [hg];exact Nat.ne_of_gt (jP (g:=gb389) (o:=.cells #[.slice A0_0 l0_0.length c0_0] 37 (0,0)) (kq BK389.out)):gb390≠gb389));replace BK389:=am (ja (g:=gb389) (o:=.cells #[.slice A0_0 l0_0.length c0_0] 37 (0,0)) (kq BK389.out) hb);replace HB:=am (je (Y143) hb);clear hb hbox hg;have hnb7:=NB389_390.out;have hnc7:=NB390_389.out;have hcz8_0:=bc0 BK389.out;have hfz8_0:=jb BK389.out 0;have hcz9_0:=bc0 BK390.out;have hfz9_0:=jb BK390.out 0) |((with_reducible refine jE (f:=48) rfl ?_);refine gL (some 9) Try.func48 #[.slice A0_0 l0_0.length c0_0, .slice A1_0 l1_0.length c1_0] ?_;(with_reducible refine (jX.calls k _ _ l0_0 _ _ l1_0 true _ ?side1 ?side2 ?side3 ?side4 A3.out).mono ?_);(case side1=>exact cq (Kd.jK HR0_0.out HB.out));(case side2=>exact HC0_0.out);(case side3=>exact cq (Kd.jK HR1_0.out HB.out));(case side4=>exact HC1_0.out);rintro e w10 ⟨rfl,hb⟩;refine ⟨_,rfl,?_⟩;replace BK389:=am (ja (g:=gb389) (o:=.cells #[.slice A0_0 l0_0.length c0_0] 37 (0,0)) (kq BK389.out) hb);replace BK390:=am (ja (g:=gb390) (o:=.cells #[.slice A1_0 l1_0.length c1_0] 37 (0,0)) (kq BK390.out) hb);replace HB:=am (je (Y70) hb);(try clear hb);(try clear hb2);(try clear hk);(try clear hi)))
  go_ret
  exact ⟨Y1,Y70⟩
 ·replace c4:=Bool.eq_false_iff.mpr c4
  subst c4
  have H1:(some false)=some r:=by rw [if_neg (show ¬ (false=true) by decide)] at H;exact H
  clear H
  have H:=H1
  clear H1
  obtain rfl:=Option.some.inj H
  go_enter Try.func16,Try.ntmps16
  go_wp2_with (first |((with_reducible refine jD (N:=2) rfl ?_);refine bE (N:=2) (cs:=#[.slice A0_0 l0_0.length c0_0]) (t:=37) ?_;intro gb389 hg w11 hbox hb;have BK389:=am (hbox);have GW389:=am ((Y0:w.heap.size≤gb389));have GE389:=am ((Y0:w.heap.size≤gb389));replace HB:=am (je (bq) hb);clear hb hbox hg) |((with_reducible refine jD (N:=3) rfl ?_);refine bE (N:=3) (cs:=#[.slice A1_0 l1_0.length c1_0]) (t:=37) ?_;intro gb390 hg w12 hbox hb;have BK390:=am (hbox);have GW390:=am ((Y69:w.heap.size≤gb390));have GE390:=am ((Y69:w.heap.size≤gb390));have NB389_390:=am ((by rw [hg];exact Nat.ne_of_lt (jP (g:=gb389) (o:=.cells #[.slice A0_0 l0_0.length c0_0] 37 (0,0)) (kq BK389.out)):gb389≠gb390));have NB390_389:=am ((by rw [hg];exact Nat.ne_of_gt (jP (g:=gb389) (o:=.cells #[.slice A0_0 l0_0.length c0_0] 37 (0,0)) (kq BK389.out)):gb390≠gb389));replace BK389:=am (ja (g:=gb389) (o:=.cells #[.slice A0_0 l0_0.length c0_0] 37 (0,0)) (kq BK389.out) hb);replace HB:=am (je (Y143) hb);clear hb hbox hg;have hnb13:=NB389_390.out;have hnc13:=NB390_389.out;have hcz14_0:=bc0 BK389.out;have hfz14_0:=jb BK389.out 0;have hcz15_0:=bc0 BK390.out;have hfz15_0:=jb BK390.out 0) |((with_reducible refine jE (f:=48) rfl ?_);refine gL (some 9) Try.func48 #[.slice A0_0 l0_0.length c0_0, .slice A1_0 l1_0.length c1_0] ?_;(with_reducible refine (jX.calls k _ _ l0_0 _ _ l1_0 false _ ?side1 ?side2 ?side3 ?side4 A3.out).mono ?_);(case side1=>exact cq (Kd.jK HR0_0.out HB.out));(case side2=>exact HC0_0.out);(case side3=>exact cq (Kd.jK HR1_0.out HB.out));(case side4=>exact HC1_0.out);rintro e w16 ⟨rfl,hb⟩;refine ⟨_,rfl,?_⟩;replace BK389:=am (ja (g:=gb389) (o:=.cells #[.slice A0_0 l0_0.length c0_0] 37 (0,0)) (kq BK389.out) hb);replace BK390:=am (ja (g:=gb390) (o:=.cells #[.slice A1_0 l1_0.length c1_0] 37 (0,0)) (kq BK390.out) hb);replace HB:=am (je (Y70) hb);(try clear hb);(try clear hb2);(try clear hk);(try clear hi)))
  go_ret
  exact ⟨Y1,Y70⟩
def jAa.l0 : Nat → Int → ByteArray → Option (ByteArray)
 | 0,_,_=>none
 | k+1,x0,x3=>if x0 > 0 then ((some (([(wrap64 (48+(Int.tmod x0 10))) % 256]:List Int):List Int)).bind fun y392=>(if (strOfNums y392).size+x3.size≤9223372036854775807 then (jAa.l0 k (wrap64 (Int.tdiv x0 10)) ((strOfNums y392) ++ x3)) else (none))) else (if 1+x3.size≤9223372036854775807 then (some ((⟨#[109]⟩:ByteArray) ++ x3)) else (none))
def jAa.f (k : Nat) (a0 : Int) : Option (ByteArray) := if a0 ≤ 0 then (some (⟨#[109, 48]⟩ : ByteArray)) else (jAa.l0 k a0 (⟨#[]⟩ : ByteArray))
set_option maxHeartbeats 8000000 in
set_option maxRecDepth 100000 in
theorem jAa.calls (k : Nat) (a0 : Int) (r : ByteArray) (w : World) (h : jAa.f k a0 = some r) :
  Calls Try.prog 79 #[.int .i64 a0] w fun e w'=>e=.returned (.string r)∧Below w.heap.size w w':=by
 have HB:=am (Below.refl w.heap.size w)
 have H:(if a0≤0 then (some (⟨#[109,48]⟩:ByteArray)) else (jAa.l0 k a0 (⟨#[]⟩:ByteArray)))=some r:=h
 clear h
 by_cases c2:a0≤0
 ·rw [if_pos c2] at H
  have c2b0:decide (a0≤0)=true:=dzT c2
  clear c2
  obtain rfl:=Option.some.inj H
  go_enter Try.func79,Try.ntmps79
  go_wp2
  go_ret
  exact ⟨Y1,bq⟩
 ·rw [if_neg c2] at H
  have c2b0:decide (a0≤0)=false:=dzF c2
  clear c2
  have H':=am H
  clear H
  go_enter Try.func79,Try.ntmps79
  go_wp2
  go_loopg [0,3] k (fun kq v0 v3 w'=>∃ (x0_1:Int) (x3_1:ByteArray),v0=.int .i64 x0_1∧v3=.string x3_1∧jw (jAa.l0 kq x0_1 x3_1=some r)∧jw (kq≤k)∧jw (Below w.heap.size w w'))
  case atStart=>exact ⟨(a0),((⟨#[]⟩:ByteArray)),(sq),(sq),H',⟨Nat.le_refl _⟩,⟨bq⟩⟩
  case round =>
   clear H'
   try clear c2
   try clear c2b0
   try clear p2
   obtain ⟨x0_1,x3_1,rfl,rfl,HA,HK1,HB⟩:=hrel
   cases gk with
   | zero=>exact absurd HA.out (by simp [jAa.l0])
   | succ k1 =>
    have H:=HA.out
    clear HA
    simp only [jAa.l0] at H
    by_cases c3:x0_1 > 0
    ·rw [if_pos c3] at H
     have c3b0:decide (0<x0_1)=true:=dzT c3
     clear c3
     obtain ⟨y392,hy392⟩:∃ y_:List Int,y_=(([(wrap64 (48+(Int.tmod x0_1 10))) % 256]:List Int)):=⟨_,rfl⟩
     replace H:(if (strOfNums y392).size+x3_1.size≤9223372036854775807 then (jAa.l0 k1 (wrap64 (Int.tdiv x0_1 10)) ((strOfNums y392) ++ x3_1)) else (none))=some r:=by first |(rw [hy392];with_reducible exact H) |(have H2_:=(Option.bind_some _ _).symm.trans H;rw [hy392];with_reducible exact H2_) |(have H2_:=(Option.bind_some _ _).symm.trans H;with_reducible exact H2_) | with_reducible exact H |(rw [hy392];exact H) | exact H
     have Ny392:=am hy392
     clear hy392
     by_cases c4:(strOfNums y392).size+x3_1.size≤9223372036854775807
     ·rw [if_pos c4] at H
      have c4b0:=ezT c4
      have c4b1:decide ((strOfNums y392).size+x3_1.size≤9223372036854775807)=true:=dzT c4
      try have c4b2:(9223372036854775807<(strOfNums y392).size+x3_1.size)=False:=eq_false (Nat.not_lt.2 c4)
      have H':=am H
      clear H
      go_wp2_with (first |((with_reducible refine jD (N:=12) rfl ?_);refine Kd.R_lit (Kd.int .u8) _ 5 ?hg (N:=12) ?hd (xs:=([(wrap64 (48+(Int.tmod x0_1 10))) % 256]:List Int)) (inner:=[.int .u8 ((wrap64 (48+(Int.tmod x0_1 10))) % 256)]) (ok:=fun _=>True) (okp:=fun _=>True) ?hr ?hp (fun _ hk=>hk) trivial (Below.refl _ _) (Nat.le_refl _) (by simp) ?_;(case hd=>rfl);(case hg=>rfl);(case hr=>exact Y3);(case hp=>exact (Reps.one (show Kd.M (Kd.int .u8) _ _ _ ((wrap64 (48+(Int.tmod x0_1 10))) % 256) [.int .u8 ((wrap64 (48+(Int.tmod x0_1 10))) % 256)] from rfl) (Reps.none _ _)));intro v393 w5 ho6 hb hg_ hnew_;clear hg_ hnew_;(first | rw [← Ny392.out] at ho6 |(simp only [Int.reduceToNat] at ho6;rw [← Ny392.out] at ho6));have HO394:=am (Kd.jna ho6 (jA (bq)));replace HB:=am (je (bq) hb);clear hb ho6;have hcv7:=own_string (P:=Try.prog) Try.underlying49 Try.underlying5 Try.underlying9 (Kd.own_of_R HO394.out)))
      go_roundg k1
      case measure=>have:=HK1.out;omega
      case rel=>exact ⟨(wrap64 (Int.tdiv x0_1 10)),((strOfNums y392) ++ x3_1),(sq),(sq),H',⟨by have:=HK1.out;omega⟩,⟨bq⟩⟩
     ·rw [if_neg c4] at H
      exact absurd H (by simp)
    ·rw [if_neg c3] at H
     have c3b0:decide (0<x0_1)=false:=dzF c3
     clear c3
     by_cases c8:1+x3_1.size≤9223372036854775807
     ·rw [if_pos c8] at H
      have c8b0:=ezT c8
      have c8b1:decide (1+x3_1.size≤9223372036854775807)=true:=dzT c8
      try have c8b2:(9223372036854775807<1+x3_1.size)=False:=eq_false (Nat.not_lt.2 c8)
      obtain rfl:=Option.some.inj H
      go_wp2
      go_ret
      exact ⟨Y1,bq⟩
     ·rw [if_neg c8] at H
      exact absurd H (by simp)
def jda.l0 : Nat → List (S94) → Int → Int → Option (Int × (List (S94)))
 | 0,_,_,_=>none
 | k+1,x0,x1,x5=>if x5<(x0.length:Int) then ((jAa.f k x1).bind fun t395=>(if 0≤x5 then ((some (x0.set (x5:Int).toNat (⟨t395,(jJ x0 x5).f1⟩:S94):List (S94))).bind fun y396=>(jda.l0 k (y396.set (x5:Int).toNat (⟨(jJ y396 x5).f0,wrap64 (x1+1)⟩:S94)) (wrap64 ((wrap64 (x1+1))+1)) (wrap64 (x5+1)))) else (none))) else (some (x1,x0))
def jda.f (k : Nat) (l0 : List (S94)) (a1 : Int) : Option (Int × (List (S94))) := jda.l0 k l0 a1 0
set_option maxHeartbeats 8000000 in
set_option maxRecDepth 100000 in
theorem jda.calls (k : Nat) (P0_ : Nat → Prop) (u9000_ : Value) (l0 : List (S94)) (a1 : Int) (r1 : Int) (r2 : List (S94)) (w0 w : World) (hB : Below w0.heap.size w0 w) (ho0 : Kd.R k94 94 w w0.heap.size P0_ u9000_ l0) (h : jda.f k l0 a1 = some (r1, r2)) :
  Calls Try.prog 49 #[u9000_, .int .i64 a1] w fun e w'=>e=.returned (.int .i64 r1)∧Kd.R k94 94 w' w0.heap.size (fun k_=>(P0_ k_∨w.heap.size≤k_)) u9000_ r2∧Below w0.heap.size w0 w'∧Kept w w' (fun k_=>P0_ k_):=by
 have HO0:=am (show Kd.R k94 94 w w0.heap.size (fun k_=>(P0_ k_∨w.heap.size≤k_)) u9000_ l0 from Kd.jI ho0 (fun k_ hk=>(.inl hk)))
 have HK:=am (Kept.refl w (fun k_=>P0_ k_))
 have HW0:=am hB.size
 have HB:=am hB
 clear hB
 have H:(jda.l0 k l0 a1 0)=some (r1,r2):=h
 clear h
 have H':=am H
 clear H
 go_enter Try.func49,Try.ntmps49
 go_wp2
 go_loopg [1,5] k (fun kq v1 v5 w'=>∃ (x0_1:List (S94)) (x1_1:Int) (x5_1:Int),v1=.int .i64 x1_1∧v5=.int .i64 x5_1∧jw (jda.l0 kq x0_1 x1_1 x5_1=some (r1,r2))∧jw (kq≤k)∧jw (Kd.R k94 94 w' w0.heap.size (fun k_=>(P0_ k_∨w.heap.size≤k_)) u9000_ x0_1)∧jw (Kept w w' (fun k_=>P0_ k_))∧jw (Below w0.heap.size w0 w'))
 case atStart=>exact ⟨(l0),(a1),(0),(sq),(sq),H',⟨Nat.le_refl _⟩,⟨rq HO0.out⟩,⟨Y10⟩,⟨bq⟩⟩
 case round =>
  clear H'
  try clear p2
  obtain ⟨x0_1,x1_1,x5_1,rfl,rfl,HA,HK1,HO_0,HK,HB⟩:=hrel
  cases gk with
  | zero=>exact absurd HA.out (by simp [jda.l0])
  | succ k1 =>
   have H:=HA.out
   clear HA
   simp only [jda.l0] at H
   by_cases c3:x5_1<(x0_1.length:Int)
   ·rw [if_pos c3] at H
    have c3b0:decide (x5_1<(x0_1.length:Int))=true:=dzT c3
    clear c3
    replace H:=bzS H
    obtain ⟨t395,A40,H⟩:=H
    replace H:(if 0≤x5_1 then ((some (x0_1.set (x5_1:Int).toNat (⟨t395,(jJ x0_1 x5_1).f1⟩:S94):List (S94))).bind fun y396=>(jda.l0 k1 (y396.set (x5_1:Int).toNat (⟨(jJ y396 x5_1).f0,wrap64 (x1_1+1)⟩:S94)) (wrap64 ((wrap64 (x1_1+1))+1)) (wrap64 (x5_1+1)))) else (none))=some (r1,r2):=H
    have A4:=am A40
    clear A40
    by_cases c5:0≤x5_1
    ·rw [if_pos c5] at H
     have c5b0:decide (0≤x5_1)=true:=dzT c5
     clear c5
     obtain ⟨y396,hy396⟩:∃ y_:List (S94),y_=(x0_1.set (x5_1:Int).toNat (⟨t395,(jJ x0_1 x5_1).f1⟩:S94)):=⟨_,rfl⟩
     replace H:(jda.l0 k1 (y396.set (x5_1:Int).toNat (⟨(jJ y396 x5_1).f0,wrap64 (x1_1+1)⟩:S94)) (wrap64 ((wrap64 (x1_1+1))+1)) (wrap64 (x5_1+1)))=some (r1,r2):=by first |(rw [hy396];with_reducible exact H) |(have H2_:=(Option.bind_some _ _).symm.trans H;rw [hy396];with_reducible exact H2_) |(have H2_:=(Option.bind_some _ _).symm.trans H;with_reducible exact H2_) | with_reducible exact H |(rw [hy396];exact H) | exact H
     have Ny396:=am hy396
     clear hy396
     obtain ⟨y397,hy397⟩:∃ y_:List (S94),y_=(y396.set (x5_1:Int).toNat (⟨(jJ y396 x5_1).f0,wrap64 (x1_1+1)⟩:S94)):=⟨_,rfl⟩
     replace H:(jda.l0 k1 y397 (wrap64 ((wrap64 (x1_1+1))+1)) (wrap64 (x5_1+1)))=some (r1,r2):=by first |(rw [hy397];with_reducible exact H) |(have H2_:=(Option.bind_some _ _).symm.trans H;rw [hy397];with_reducible exact H2_) |(have H2_:=(Option.bind_some _ _).symm.trans H;with_reducible exact H2_) | with_reducible exact H |(rw [hy397];exact H) | exact H
     have Ny397:=am hy397
     clear hy397
     have H':=am H
     clear H
     obtain ⟨Ao8,co8,eo8⟩:=Kd.jca HO_0.out
     subst eo8
     go_wp2_with (first |((with_reducible refine jE (f:=79) rfl ?_);refine gL (some 15) Try.func79 #[.int .i64 x1_1] ?_;(with_reducible refine (jAa.calls k1 x1_1 t395 _ A4.out).mono ?_);rintro e w9 ⟨rfl,hb⟩;refine ⟨_,rfl,?_⟩;replace HO_0:=am (Kd.jy (rq HO_0.out) hb);replace HK:=am (Kept.below (S:=(fun k_=>P0_ k_)) (Y10) hb);replace HB:=am (je (bq) hb);(try clear hb);(try clear hb2);(try clear hk);(try clear hi);have p6:0≤(x5_1:Int):=ozD (uq);have q6:(x5_1:Int)<((x0_1.length:Int):Int):=ozD (uq);obtain ⟨go6,co6,eo6,gb6,gl6,cl6,HG6⟩:=Kd.R_form HO_0.out (by omega);(first | cases eo6 |(injection eo6 with ea_ en_ ec_;(first | subst ea_ |(injection ea_ with ea_;subst ea_));subst ec_;clear en_));have GB6:=am gb6;have GG6:=am HG6;clear gb6 gl6 HG6;have HMgo6:=am (show (P0_ go6∨w.heap.size≤go6) from (HO_0.out.1 _ rfl));obtain ⟨ce6,hcl6,hM6,hcc6,hfr6⟩:=Kd.jRb HO_0.out z94 (x5_1:Int) p6 q6;obtain rfl:=jmc hM6;have hx6_0:w9.cell? ⟨go6,(x5_1:Int).toNat * 2,none⟩=some (.string ((jJ x0_1 x5_1).f0)):=hcc6 0 _ rfl;have hx6_1:w9.cell? ⟨go6,(x5_1:Int).toNat * 2+1,none⟩=some (.int .i64 ((jJ x0_1 x5_1).f1)):=hcc6 1 _ rfl;have hf6_0:w9.frozen? ⟨go6,(x5_1:Int).toNat * 2,none⟩=false:=hfr6 0;have hf6_1:w9.frozen? ⟨go6,(x5_1:Int).toNat * 2+1,none⟩=false:=hfr6 1;clear hcl6 hcc6 hfr6 hM6;replace p6:=ezT p6;replace q6:=ezT q6;have HX10:=am (show Kd.R k94 94 w9 w0.heap.size (fun k_=>(P0_ k_∨w.heap.size≤k_)) (.slice (some ⟨go6,0,none⟩) x0_1.length co8) x0_1 from (rq HO_0.out));obtain ⟨ce10,hcl10,hM10,hcc10,hfr10⟩:=Kd.jRb HX10.out z94 (x5_1:Int) (ozD (uq)) (by have h_:(x5_1:Int)<((x0_1.length:Int):Int):=ozD (uq);first | exact h_ |(have e_:=(Kd.jq HO_0.out).1;omega) | simpa using h_);obtain rfl:=jmc hM10;have HP10:=Kd.R_seg HX10.out (x5_1:Int) (ozD (uq)) (by have h_:(x5_1:Int)<((x0_1.length:Int):Int):=ozD (uq);first | exact h_ |(have e_:=(Kd.jq HO_0.out).1;omega) | simpa using h_) (seg:=[.string t395]) (j:=0) hcl10 hcc10 (show 1≤2 from by decide) (x':=(⟨t395,(jJ x0_1 x5_1).f1⟩:S94)) (k94_mkM _ _ _ (⟨t395,(jJ x0_1 x5_1).f1⟩:S94) ) (fun _ hk=>hk);have hx10_0:=hcc10 0 _ rfl;(try simp only [show (k94).sz=2 from rfl,Nat.mul_one,Nat.add_zero] at hx10_0);have hf10_0:=hfr10 0;(try simp only [show (k94).sz=2 from rfl,Nat.mul_one,Nat.add_zero] at hf10_0);clear hcl10 hcc10 hfr10 hM10) |((with_reducible refine jwb (t:=9) (p:=17) rfl ?_);refine jmb (t:=9) (p:=17) (v:=?vo_w11) (w1:=(w9.setCell ⟨go6,(x5_1:Int).toNat * 2,none⟩ (.string t395))) ?hg ?ho ?hn ?hr ?_;(case ho=>rfl);(case hg=>rfl);(case hn=>rfl);(case hr=>exact Y3);intro w11 hw;have hg:w9.grownBy w11 (some go6):=(by rw [hw];exact HP10.2);have hp_:Kd.R k94 94 w11 w0.heap.size (fun k_=>(P0_ k_∨w.heap.size≤k_)) (.slice (some ⟨go6,0,none⟩) x0_1.length co8) y396:=(by rw [hw,Ny396.out];exact HP10.1);clear HP10;replace HB:=am ((by rw [hw];exact jk (HB.out) GB6.out:Below w0.heap.size w0 w11));replace HK:=am (Kept.jXb (S:=(fun k_=>P0_ k_)) hg (Y10) (fun k_ e_=>(HO_0.out.1 k_ e_)));replace HO_0:=am (hp_);clear hg hw hp_;have p7:0≤(x5_1:Int):=ozD (uq);have q7:(x5_1:Int)<((x0_1.length:Int):Int):=ozD (uq);obtain ⟨ce7,hcl7,hM7,hcc7,hfr7⟩:=Kd.jRb HO_0.out z94 (x5_1:Int) p7 q7;obtain rfl:=jmc hM7;have hx7_0:w11.cell? ⟨go6,(x5_1:Int).toNat * 2,none⟩=some (.string ((jJ y396 x5_1).f0)):=hcc7 0 _ rfl;have hx7_1:w11.cell? ⟨go6,(x5_1:Int).toNat * 2+1,none⟩=some (.int .i64 ((jJ y396 x5_1).f1)):=hcc7 1 _ rfl;have hf7_0:w11.frozen? ⟨go6,(x5_1:Int).toNat * 2,none⟩=false:=hfr7 0;have hf7_1:w11.frozen? ⟨go6,(x5_1:Int).toNat * 2+1,none⟩=false:=hfr7 1;clear hcl7 hcc7 hfr7 hM7;replace p7:=ezT p7;replace q7:=ezT q7;have HX12:=am (show Kd.R k94 94 w11 w0.heap.size (fun k_=>(P0_ k_∨w.heap.size≤k_)) (.slice (some ⟨go6,0,none⟩) x0_1.length co8) y396 from (rq HO_0.out));obtain ⟨ce12,hcl12,hM12,hcc12,hfr12⟩:=Kd.jRb HX12.out z94 (x5_1:Int) (ozD (uq)) (by have h_:(x5_1:Int)<((x0_1.length:Int):Int):=ozD (uq);first | exact h_ |(have e_:=(Kd.jq HO_0.out).1;omega) | simpa using h_);obtain rfl:=jmc hM12;have HP12:=Kd.R_seg HX12.out (x5_1:Int) (ozD (uq)) (by have h_:(x5_1:Int)<((x0_1.length:Int):Int):=ozD (uq);first | exact h_ |(have e_:=(Kd.jq HO_0.out).1;omega) | simpa using h_) (seg:=[.int .i64 (wrap64 (x1_1+1))]) (j:=1) hcl12 hcc12 (show 2≤2 from by decide) (x':=(⟨(jJ y396 x5_1).f0,wrap64 (x1_1+1)⟩:S94)) (k94_mkM _ _ _ (⟨(jJ y396 x5_1).f0,wrap64 (x1_1+1)⟩:S94) ) (fun _ hk=>hk);have hx12_1:=hcc12 1 _ rfl;(try simp only [show (k94).sz=2 from rfl,Nat.mul_one,Nat.add_zero] at hx12_1);have hf12_1:=hfr12 1;(try simp only [show (k94).sz=2 from rfl,Nat.mul_one,Nat.add_zero] at hf12_1);clear hcl12 hcc12 hfr12 hM12) |((with_reducible refine jwb (t:=3) (p:=24) rfl ?_);refine jmb (t:=3) (p:=24) (v:=?vo_w13) (w1:=(w11.setCell ⟨go6,(x5_1:Int).toNat * 2+1,none⟩ (.int .i64 (wrap64 (x1_1+1))))) ?hg ?ho ?hn ?hr ?_;(case ho=>rfl);(case hg=>rfl);(case hn=>rfl);(case hr=>exact Y3);intro w13 hw;have hg:w11.grownBy w13 (some go6):=(by rw [hw];exact HP12.2);have hp_:Kd.R k94 94 w13 w0.heap.size (fun k_=>(P0_ k_∨w.heap.size≤k_)) (.slice (some ⟨go6,0,none⟩) x0_1.length co8) y397:=(by rw [hw,Ny397.out];exact HP12.1);clear HP12;replace HB:=am ((by rw [hw];exact jk (HB.out) GB6.out:Below w0.heap.size w0 w13));replace HK:=am (Kept.jXb (S:=(fun k_=>P0_ k_)) hg (Y10) (fun k_ e_=>(HO_0.out.1 k_ e_)));replace HO_0:=am (hp_);clear hg hw hp_))
     go_roundg k1
     case measure=>have:=HK1.out;omega
     case rel=>exact ⟨(y397),(wrap64 ((wrap64 (x1_1+1))+1)),(wrap64 (x5_1+1)),(sq),(sq),H',⟨by have:=HK1.out;omega⟩,⟨rq HO_0.out⟩,⟨Y10⟩,⟨bq⟩⟩
    ·rw [if_neg c5] at H
     exact absurd H (by simp)
   ·rw [if_neg c3] at H
    have c3b0:decide (x5_1<(x0_1.length:Int))=false:=dzF c3
    clear c3
    simp only [Option.some.injEq,Prod.mk.injEq] at H
    obtain ⟨rfl,rfl⟩:=H
    obtain ⟨Ao14,co14,eo14⟩:=Kd.jca HO_0.out
    subst eo14
    go_wp2
    go_ret
    exact ⟨Y1,rq HO_0.out,bq,Y10⟩
def jNa.f (k : Nat) (l0_0 : List (S94)) (a1 : Int) : Option (Int × (List (S94))) := (jda.f k l0_0 a1).bind fun bt399 => (some (bt399.1, bt399.2))
set_option maxHeartbeats 8000000 in
set_option maxRecDepth 100000 in
theorem jNa.calls (k : Nat) (P0_0_ : Nat → Prop) (u9000_ : Value) (l0_0 : List (S94)) (a1 : Int) (r1 : Int) (r2 : List (S94)) (w0 w : World) (hB : Below w0.heap.size w0 w) (ho0_0 : Kd.R k94 94 w w0.heap.size P0_0_ u9000_ l0_0) (h : jNa.f k l0_0 a1 = some (r1, r2)) :
  Calls Try.prog 17 #[.agg #[u9000_], .int .i64 a1] w fun e w'=>e=.returned (.int .i64 r1)∧Kd.R k94 94 w' w0.heap.size (fun k_=>(P0_0_ k_∨w.heap.size≤k_)) u9000_ r2∧Below w0.heap.size w0 w'∧Kept w w' (fun k_=>P0_0_ k_):=by
 have hu37:=Try.underlying37
 have HO0_0:=am (show Kd.R k94 94 w w0.heap.size (fun k_=>(P0_0_ k_∨w.heap.size≤k_)) u9000_ l0_0 from Kd.jI ho0_0 (fun k_ hk=>(.inl hk)))
 have HK:=am (Kept.refl w (fun k_=>P0_0_ k_))
 have HW0:=am hB.size
 have HB:=am hB
 clear hB
 have H:((jda.f k l0_0 a1).bind fun bt399=>(some (bt399.1,bt399.2)))=some (r1,r2):=h
 clear h
 replace H:=bzS H
 obtain ⟨⟨t399,t400⟩,A30,H⟩:=H
 replace H:(some (t399,t400))=some (r1,r2):=H
 have A3:=am A30
 clear A30
 simp only [Option.some.injEq,Prod.mk.injEq] at H
 obtain ⟨rfl,rfl⟩:=H
 obtain ⟨Ao4,co4,eo4⟩:=Kd.jca HO0_0.out
 subst eo4
 go_enter Try.func17,Try.ntmps17
 go_wp2_with (first |((with_reducible refine jD (N:=2) rfl ?_);refine bE (N:=2) (cs:=#[.slice Ao4 l0_0.length co4]) (t:=37) ?_;intro gb398 hg w5 hbox hb;have BK398:=am (hbox);have GW398:=am ((Y144:w.heap.size≤gb398));have GE398:=am ((Y0:w0.heap.size≤gb398));replace HO0_0:=am (Kd.jy (rq HO0_0.out) hb);replace HK:=am (Kept.below (S:=(fun k_=>P0_0_ k_)) (Y10) hb);replace HB:=am (je (bq) hb);clear hb hbox hg;have hcz6_0:=bc0 BK398.out;have hfz6_0:=jb BK398.out 0) |((with_reducible refine jE (f:=49) rfl ?_);refine gL (some 8) Try.func49 #[.slice Ao4 l0_0.length co4, .int .i64 a1] ?_;(with_reducible refine (jda.calls k (fun k_=>some k_=(.slice Ao4 l0_0.length co4:Value).ownBlock) (.slice Ao4 l0_0.length co4) l0_0 a1 t399 t400 w0 _ ?side1 ?side2 A3.out).mono ?_);(case side1=>exact Y145);(case side2=>exact Kd.jqc rfl HO0_0.out);rintro e w7 ⟨rfl,hy0,hb,hkp⟩;refine ⟨_,rfl,?_⟩;replace BK398:=am (jSa (kq BK398.out) hkp (fun hs_=>(fun e_=>(Kd.R_ne HO0_0.out BK398.out (by decide)) e_) hs_));replace HK:=am (Kept.then_ (S:=(fun k_=>P0_0_ k_)) (Y146) hkp (fun k_ hs_=>(fun e_=>(HO0_0.out.1 k_ e_.symm)) hs_));replace HO0_0:=am (Kd.R_reok rfl hy0 (fun k_ e_=>HO0_0.out.1 k_ e_));replace HB:=am (hb);(try clear hb);(try clear hkp);(try clear hy0)))
 go_ret
 exact ⟨Y1,rq HO0_0.out,Y145,Y146⟩
def jV.l0 : Nat → List (S54) → Int → Int → Option (Int × (List (S54)))
 | 0,_,_,_=>none
 | k+1,x0,x1,x5=>if x5<(x0.length:Int) then (if 0≤x5 then ((some (x0.set (x5:Int).toNat (⟨x1,(jd x0 x5).f1,(jd x0 x5).f2,(jd x0 x5).f3,(jd x0 x5).f4⟩:S54):List (S54))).bind fun y401=>((some (y401.set (x5:Int).toNat (⟨(jd y401 x5).f0,wrap64 (x1+1),(jd y401 x5).f2,(jd y401 x5).f3,(jd y401 x5).f4⟩:S54):List (S54))).bind fun y402=>((some (y402.set (x5:Int).toNat (⟨(jd y402 x5).f0,(jd y402 x5).f1,wrap64 ((wrap64 (x1+1))+1),(jd y402 x5).f3,(jd y402 x5).f4⟩:S54):List (S54))).bind fun y403=>((some (y403.set (x5:Int).toNat (⟨(jd y403 x5).f0,(jd y403 x5).f1,(jd y403 x5).f2,wrap64 ((wrap64 ((wrap64 (x1+1))+1))+1),(jd y403 x5).f4⟩:S54):List (S54))).bind fun y404=>(jV.l0 k (y404.set (x5:Int).toNat (⟨(jd y404 x5).f0,(jd y404 x5).f1,(jd y404 x5).f2,(jd y404 x5).f3,((Int.tmod (wrap64 ((wrap64 ((wrap64 ((wrap64 (x1+1))+1))+1))+1)) 3) == 0)⟩:S54)) (wrap64 ((wrap64 ((wrap64 ((wrap64 ((wrap64 (x1+1))+1))+1))+1))+1)) (wrap64 (x5+1))))))) else (none)) else (some (x1,x0))
def jV.f (k : Nat) (l0 : List (S54)) (a1 : Int) : Option (Int × (List (S54))) := jV.l0 k l0 a1 0
set_option maxHeartbeats 8000000 in
set_option maxRecDepth 100000 in
theorem jV.calls (k : Nat) (P0_ : Nat → Prop) (u9000_ : Value) (l0 : List (S54)) (a1 : Int) (r1 : Int) (r2 : List (S54)) (w0 w : World) (hB : Below w0.heap.size w0 w) (ho0 : Kd.R k54 54 w w0.heap.size P0_ u9000_ l0) (h : jV.f k l0 a1 = some (r1, r2)) :
  Calls Try.prog 50 #[u9000_, .int .i64 a1] w fun e w'=>e=.returned (.int .i64 r1)∧Kd.R k54 54 w' w0.heap.size (fun k_=>(P0_ k_∨w.heap.size≤k_)) u9000_ r2∧Below w0.heap.size w0 w'∧Kept w w' (fun k_=>P0_ k_):=by
 have HO0:=am (show Kd.R k54 54 w w0.heap.size (fun k_=>(P0_ k_∨w.heap.size≤k_)) u9000_ l0 from Kd.jI ho0 (fun k_ hk=>(.inl hk)))
 have HK:=am (Kept.refl w (fun k_=>P0_ k_))
 have HW0:=am hB.size
 have HB:=am hB
 clear hB
 have H:(jV.l0 k l0 a1 0)=some (r1,r2):=h
 clear h
 have H':=am H
 clear H
 go_enter Try.func50,Try.ntmps50
 go_wp2
 go_loopg [1,5] k (fun kq v1 v5 w'=>∃ (x0_1:List (S54)) (x1_1:Int) (x5_1:Int),v1=.int .i64 x1_1∧v5=.int .i64 x5_1∧jw (jV.l0 kq x0_1 x1_1 x5_1=some (r1,r2))∧jw (kq≤k)∧jw (Kd.R k54 54 w' w0.heap.size (fun k_=>(P0_ k_∨w.heap.size≤k_)) u9000_ x0_1)∧jw (Kept w w' (fun k_=>P0_ k_))∧jw (Below w0.heap.size w0 w'))
 case atStart=>exact ⟨(l0),(a1),(0),(sq),(sq),H',⟨Nat.le_refl _⟩,⟨rq HO0.out⟩,⟨Y10⟩,⟨bq⟩⟩
 case round =>
  clear H'
  try clear p2
  obtain ⟨x0_1,x1_1,x5_1,rfl,rfl,HA,HK1,HO_0,HK,HB⟩:=hrel
  cases gk with
  | zero=>exact absurd HA.out (by simp [jV.l0])
  | succ k1 =>
   have H:=HA.out
   clear HA
   simp only [jV.l0] at H
   by_cases c3:x5_1<(x0_1.length:Int)
   ·rw [if_pos c3] at H
    have c3b0:decide (x5_1<(x0_1.length:Int))=true:=dzT c3
    clear c3
    by_cases c4:0≤x5_1
    ·rw [if_pos c4] at H
     have c4b0:decide (0≤x5_1)=true:=dzT c4
     clear c4
     obtain ⟨y401,hy401⟩:∃ y_:List (S54),y_=(x0_1.set (x5_1:Int).toNat (⟨x1_1,(jd x0_1 x5_1).f1,(jd x0_1 x5_1).f2,(jd x0_1 x5_1).f3,(jd x0_1 x5_1).f4⟩:S54)):=⟨_,rfl⟩
     replace H:((some (y401.set (x5_1:Int).toNat (⟨(jd y401 x5_1).f0,wrap64 (x1_1+1),(jd y401 x5_1).f2,(jd y401 x5_1).f3,(jd y401 x5_1).f4⟩:S54):List (S54))).bind fun y402=>((some (y402.set (x5_1:Int).toNat (⟨(jd y402 x5_1).f0,(jd y402 x5_1).f1,wrap64 ((wrap64 (x1_1+1))+1),(jd y402 x5_1).f3,(jd y402 x5_1).f4⟩:S54):List (S54))).bind fun y403=>((some (y403.set (x5_1:Int).toNat (⟨(jd y403 x5_1).f0,(jd y403 x5_1).f1,(jd y403 x5_1).f2,wrap64 ((wrap64 ((wrap64 (x1_1+1))+1))+1),(jd y403 x5_1).f4⟩:S54):List (S54))).bind fun y404=>(jV.l0 k1 (y404.set (x5_1:Int).toNat (⟨(jd y404 x5_1).f0,(jd y404 x5_1).f1,(jd y404 x5_1).f2,(jd y404 x5_1).f3,((Int.tmod (wrap64 ((wrap64 ((wrap64 ((wrap64 (x1_1+1))+1))+1))+1)) 3) == 0)⟩:S54)) (wrap64 ((wrap64 ((wrap64 ((wrap64 ((wrap64 (x1_1+1))+1))+1))+1))+1)) (wrap64 (x5_1+1))))))=some (r1,r2):=by first |(rw [hy401];with_reducible exact H) |(have H2_:=(Option.bind_some _ _).symm.trans H;rw [hy401];with_reducible exact H2_) |(have H2_:=(Option.bind_some _ _).symm.trans H;with_reducible exact H2_) | with_reducible exact H |(rw [hy401];exact H) | exact H
     have Ny401:=am hy401
     clear hy401
     obtain ⟨y402,hy402⟩:∃ y_:List (S54),y_=(y401.set (x5_1:Int).toNat (⟨(jd y401 x5_1).f0,wrap64 (x1_1+1),(jd y401 x5_1).f2,(jd y401 x5_1).f3,(jd y401 x5_1).f4⟩:S54)):=⟨_,rfl⟩
     replace H:((some (y402.set (x5_1:Int).toNat (⟨(jd y402 x5_1).f0,(jd y402 x5_1).f1,wrap64 ((wrap64 (x1_1+1))+1),(jd y402 x5_1).f3,(jd y402 x5_1).f4⟩:S54):List (S54))).bind fun y403=>((some (y403.set (x5_1:Int).toNat (⟨(jd y403 x5_1).f0,(jd y403 x5_1).f1,(jd y403 x5_1).f2,wrap64 ((wrap64 ((wrap64 (x1_1+1))+1))+1),(jd y403 x5_1).f4⟩:S54):List (S54))).bind fun y404=>(jV.l0 k1 (y404.set (x5_1:Int).toNat (⟨(jd y404 x5_1).f0,(jd y404 x5_1).f1,(jd y404 x5_1).f2,(jd y404 x5_1).f3,((Int.tmod (wrap64 ((wrap64 ((wrap64 ((wrap64 (x1_1+1))+1))+1))+1)) 3) == 0)⟩:S54)) (wrap64 ((wrap64 ((wrap64 ((wrap64 ((wrap64 (x1_1+1))+1))+1))+1))+1)) (wrap64 (x5_1+1)))))=some (r1,r2):=by first |(rw [hy402];with_reducible exact H) |(have H2_:=(Option.bind_some _ _).symm.trans H;rw [hy402];with_reducible exact H2_) |(have H2_:=(Option.bind_some _ _).symm.trans H;with_reducible exact H2_) | with_reducible exact H |(rw [hy402];exact H) | exact H
     have Ny402:=am hy402
     clear hy402
     obtain ⟨y403,hy403⟩:∃ y_:List (S54),y_=(y402.set (x5_1:Int).toNat (⟨(jd y402 x5_1).f0,(jd y402 x5_1).f1,wrap64 ((wrap64 (x1_1+1))+1),(jd y402 x5_1).f3,(jd y402 x5_1).f4⟩:S54)):=⟨_,rfl⟩
     replace H:((some (y403.set (x5_1:Int).toNat (⟨(jd y403 x5_1).f0,(jd y403 x5_1).f1,(jd y403 x5_1).f2,wrap64 ((wrap64 ((wrap64 (x1_1+1))+1))+1),(jd y403 x5_1).f4⟩:S54):List (S54))).bind fun y404=>(jV.l0 k1 (y404.set (x5_1:Int).toNat (⟨(jd y404 x5_1).f0,(jd y404 x5_1).f1,(jd y404 x5_1).f2,(jd y404 x5_1).f3,((Int.tmod (wrap64 ((wrap64 ((wrap64 ((wrap64 (x1_1+1))+1))+1))+1)) 3) == 0)⟩:S54)) (wrap64 ((wrap64 ((wrap64 ((wrap64 ((wrap64 (x1_1+1))+1))+1))+1))+1)) (wrap64 (x5_1+1))))=some (r1,r2):=by first |(rw [hy403];with_reducible exact H) |(have H2_:=(Option.bind_some _ _).symm.trans H;rw [hy403];with_reducible exact H2_) |(have H2_:=(Option.bind_some _ _).symm.trans H;with_reducible exact H2_) | with_reducible exact H |(rw [hy403];exact H) | exact H
     have Ny403:=am hy403
     clear hy403
     obtain ⟨y404,hy404⟩:∃ y_:List (S54),y_=(y403.set (x5_1:Int).toNat (⟨(jd y403 x5_1).f0,(jd y403 x5_1).f1,(jd y403 x5_1).f2,wrap64 ((wrap64 ((wrap64 (x1_1+1))+1))+1),(jd y403 x5_1).f4⟩:S54)):=⟨_,rfl⟩
     replace H:(jV.l0 k1 (y404.set (x5_1:Int).toNat (⟨(jd y404 x5_1).f0,(jd y404 x5_1).f1,(jd y404 x5_1).f2,(jd y404 x5_1).f3,((Int.tmod (wrap64 ((wrap64 ((wrap64 ((wrap64 (x1_1+1))+1))+1))+1)) 3) == 0)⟩:S54)) (wrap64 ((wrap64 ((wrap64 ((wrap64 ((wrap64 (x1_1+1))+1))+1))+1))+1)) (wrap64 (x5_1+1)))=some (r1,r2):=by first |(rw [hy404];with_reducible exact H) |(have H2_:=(Option.bind_some _ _).symm.trans H;rw [hy404];with_reducible exact H2_) |(have H2_:=(Option.bind_some _ _).symm.trans H;with_reducible exact H2_) | with_reducible exact H |(rw [hy404];exact H) | exact H
     have Ny404:=am hy404
     clear hy404
     obtain ⟨y405,hy405⟩:∃ y_:List (S54),y_=(y404.set (x5_1:Int).toNat (⟨(jd y404 x5_1).f0,(jd y404 x5_1).f1,(jd y404 x5_1).f2,(jd y404 x5_1).f3,((Int.tmod (wrap64 ((wrap64 ((wrap64 ((wrap64 (x1_1+1))+1))+1))+1)) 3) == 0)⟩:S54)):=⟨_,rfl⟩
     replace H:(jV.l0 k1 y405 (wrap64 ((wrap64 ((wrap64 ((wrap64 ((wrap64 (x1_1+1))+1))+1))+1))+1)) (wrap64 (x5_1+1)))=some (r1,r2):=by first |(rw [hy405];with_reducible exact H) |(have H2_:=(Option.bind_some _ _).symm.trans H;rw [hy405];with_reducible exact H2_) |(have H2_:=(Option.bind_some _ _).symm.trans H;with_reducible exact H2_) | with_reducible exact H |(rw [hy405];exact H) | exact H
     have Ny405:=am hy405
     clear hy405
     have H':=am H
     clear H
     obtain ⟨Ao10,co10,eo10⟩:=Kd.jca HO_0.out
     subst eo10
     have p5:0≤(x5_1:Int):=ozD (uq)
     have q5:(x5_1:Int)<((x0_1.length:Int):Int):=ozD (uq)
     obtain ⟨go5,co5,eo5,gb5,gl5,cl5,HG5⟩:=Kd.R_form HO_0.out (by omega)
     (first | cases eo5 |(injection eo5 with ea_ en_ ec_;(first | subst ea_ |(injection ea_ with ea_;subst ea_));subst ec_;clear en_))
     have GB5:=am gb5
     have GG5:=am HG5
     clear gb5 gl5 HG5
     have HMgo5:=am (show (P0_ go5∨w.heap.size≤go5) from (HO_0.out.1 _ rfl))
     obtain ⟨ce5,hcl5,hM5,hcc5,hfr5⟩:=Kd.jRb HO_0.out z54 (x5_1:Int) p5 q5
     obtain rfl:=jrb hM5
     have hx5_0:wr.cell? ⟨go5,(x5_1:Int).toNat * 5,none⟩=some (.int .i64 ((jd x0_1 x5_1).f0)):=hcc5 0 _ rfl
     have hx5_1:wr.cell? ⟨go5,(x5_1:Int).toNat * 5+1,none⟩=some (.int .i64 ((jd x0_1 x5_1).f1)):=hcc5 1 _ rfl
     have hx5_2:wr.cell? ⟨go5,(x5_1:Int).toNat * 5+2,none⟩=some (.int .i64 ((jd x0_1 x5_1).f2)):=hcc5 2 _ rfl
     have hx5_3:wr.cell? ⟨go5,(x5_1:Int).toNat * 5+3,none⟩=some (.int .i64 ((jd x0_1 x5_1).f3)):=hcc5 3 _ rfl
     have hx5_4:wr.cell? ⟨go5,(x5_1:Int).toNat * 5+4,none⟩=some (.bool ((jd x0_1 x5_1).f4)):=hcc5 4 _ rfl
     have hf5_0:wr.frozen? ⟨go5,(x5_1:Int).toNat * 5,none⟩=false:=hfr5 0
     have hf5_1:wr.frozen? ⟨go5,(x5_1:Int).toNat * 5+1,none⟩=false:=hfr5 1
     have hf5_2:wr.frozen? ⟨go5,(x5_1:Int).toNat * 5+2,none⟩=false:=hfr5 2
     have hf5_3:wr.frozen? ⟨go5,(x5_1:Int).toNat * 5+3,none⟩=false:=hfr5 3
     have hf5_4:wr.frozen? ⟨go5,(x5_1:Int).toNat * 5+4,none⟩=false:=hfr5 4
     clear hcl5 hcc5 hfr5 hM5
     replace p5:=ezT p5
     replace q5:=ezT q5
     have HX11:=am (show Kd.R k54 54 wr w0.heap.size (fun k_=>(P0_ k_∨w.heap.size≤k_)) (.slice (some ⟨go5,0,none⟩) x0_1.length co10) x0_1 from (rq HO_0.out))
     obtain ⟨ce11,hcl11,hM11,hcc11,hfr11⟩:=Kd.jRb HX11.out z54 (x5_1:Int) (ozD (uq)) (by have h_:(x5_1:Int)<((x0_1.length:Int):Int):=ozD (uq);first | exact h_ |(have e_:=(Kd.jq HO_0.out).1;omega) | simpa using h_)
     obtain rfl:=jrb hM11
     have HP11:=Kd.R_seg HX11.out (x5_1:Int) (ozD (uq)) (by have h_:(x5_1:Int)<((x0_1.length:Int):Int):=ozD (uq);first | exact h_ |(have e_:=(Kd.jq HO_0.out).1;omega) | simpa using h_) (seg:=[.int .i64 x1_1]) (j:=0) hcl11 hcc11 (show 1≤5 from by decide) (x':=(⟨x1_1,(jd x0_1 x5_1).f1,(jd x0_1 x5_1).f2,(jd x0_1 x5_1).f3,(jd x0_1 x5_1).f4⟩:S54)) (jpc _ _ _ (⟨x1_1,(jd x0_1 x5_1).f1,(jd x0_1 x5_1).f2,(jd x0_1 x5_1).f3,(jd x0_1 x5_1).f4⟩:S54) ) (fun _ hk=>hk)
     have hx11_0:=hcc11 0 _ rfl
     (try simp only [show (k54).sz=5 from rfl,Nat.mul_one,Nat.add_zero] at hx11_0)
     have hf11_0:=hfr11 0
     (try simp only [show (k54).sz=5 from rfl,Nat.mul_one,Nat.add_zero] at hf11_0)
     clear hcl11 hcc11 hfr11 hM11
     go_wp2_with (first |((with_reducible refine jwb (t:=3) (p:=16) rfl ?_);refine jmb (t:=3) (p:=16) (v:=?vo_w12) (w1:=(wr.setCell ⟨go5,(x5_1:Int).toNat * 5,none⟩ (.int .i64 x1_1))) ?hg ?ho ?hn ?hr ?_;(case ho=>rfl);(case hg=>rfl);(case hn=>rfl);(case hr=>exact Y3);intro w12 hw;have hg:wr.grownBy w12 (some go5):=(by rw [hw];exact HP11.2);have hp_:Kd.R k54 54 w12 w0.heap.size (fun k_=>(P0_ k_∨w.heap.size≤k_)) (.slice (some ⟨go5,0,none⟩) x0_1.length co10) y401:=(by rw [hw,Ny401.out];exact HP11.1);clear HP11;replace HB:=am ((by rw [hw];exact jk (HB.out) GB5.out:Below w0.heap.size w0 w12));replace HK:=am (Kept.jXb (S:=(fun k_=>P0_ k_)) hg (Y10) (fun k_ e_=>(HO_0.out.1 k_ e_)));replace HO_0:=am (hp_);clear hg hw hp_;have p6:0≤(x5_1:Int):=ozD (uq);have q6:(x5_1:Int)<((x0_1.length:Int):Int):=ozD (uq);obtain ⟨ce6,hcl6,hM6,hcc6,hfr6⟩:=Kd.jRb HO_0.out z54 (x5_1:Int) p6 q6;obtain rfl:=jrb hM6;have hx6_0:w12.cell? ⟨go5,(x5_1:Int).toNat * 5,none⟩=some (.int .i64 ((jd y401 x5_1).f0)):=hcc6 0 _ rfl;have hx6_1:w12.cell? ⟨go5,(x5_1:Int).toNat * 5+1,none⟩=some (.int .i64 ((jd y401 x5_1).f1)):=hcc6 1 _ rfl;have hx6_2:w12.cell? ⟨go5,(x5_1:Int).toNat * 5+2,none⟩=some (.int .i64 ((jd y401 x5_1).f2)):=hcc6 2 _ rfl;have hx6_3:w12.cell? ⟨go5,(x5_1:Int).toNat * 5+3,none⟩=some (.int .i64 ((jd y401 x5_1).f3)):=hcc6 3 _ rfl;have hx6_4:w12.cell? ⟨go5,(x5_1:Int).toNat * 5+4,none⟩=some (.bool ((jd y401 x5_1).f4)):=hcc6 4 _ rfl;have hf6_0:w12.frozen? ⟨go5,(x5_1:Int).toNat * 5,none⟩=false:=hfr6 0;have hf6_1:w12.frozen? ⟨go5,(x5_1:Int).toNat * 5+1,none⟩=false:=hfr6 1;have hf6_2:w12.frozen? ⟨go5,(x5_1:Int).toNat * 5+2,none⟩=false:=hfr6 2;have hf6_3:w12.frozen? ⟨go5,(x5_1:Int).toNat * 5+3,none⟩=false:=hfr6 3;have hf6_4:w12.frozen? ⟨go5,(x5_1:Int).toNat * 5+4,none⟩=false:=hfr6 4;clear hcl6 hcc6 hfr6 hM6;replace p6:=ezT p6;replace q6:=ezT q6;have HX13:=am (show Kd.R k54 54 w12 w0.heap.size (fun k_=>(P0_ k_∨w.heap.size≤k_)) (.slice (some ⟨go5,0,none⟩) x0_1.length co10) y401 from (rq HO_0.out));obtain ⟨ce13,hcl13,hM13,hcc13,hfr13⟩:=Kd.jRb HX13.out z54 (x5_1:Int) (ozD (uq)) (by have h_:(x5_1:Int)<((x0_1.length:Int):Int):=ozD (uq);first | exact h_ |(have e_:=(Kd.jq HO_0.out).1;omega) | simpa using h_);obtain rfl:=jrb hM13;have HP13:=Kd.R_seg HX13.out (x5_1:Int) (ozD (uq)) (by have h_:(x5_1:Int)<((x0_1.length:Int):Int):=ozD (uq);first | exact h_ |(have e_:=(Kd.jq HO_0.out).1;omega) | simpa using h_) (seg:=[.int .i64 (wrap64 (x1_1+1))]) (j:=1) hcl13 hcc13 (show 2≤5 from by decide) (x':=(⟨(jd y401 x5_1).f0,wrap64 (x1_1+1),(jd y401 x5_1).f2,(jd y401 x5_1).f3,(jd y401 x5_1).f4⟩:S54)) (jpc _ _ _ (⟨(jd y401 x5_1).f0,wrap64 (x1_1+1),(jd y401 x5_1).f2,(jd y401 x5_1).f3,(jd y401 x5_1).f4⟩:S54) ) (fun _ hk=>hk);have hx13_1:=hcc13 1 _ rfl;(try simp only [show (k54).sz=5 from rfl,Nat.mul_one,Nat.add_zero] at hx13_1);have hf13_1:=hfr13 1;(try simp only [show (k54).sz=5 from rfl,Nat.mul_one,Nat.add_zero] at hf13_1);clear hcl13 hcc13 hfr13 hM13) |((with_reducible refine jwb (t:=3) (p:=23) rfl ?_);refine jmb (t:=3) (p:=23) (v:=?vo_w14) (w1:=(w12.setCell ⟨go5,(x5_1:Int).toNat * 5+1,none⟩ (.int .i64 (wrap64 (x1_1+1))))) ?hg ?ho ?hn ?hr ?_;(case ho=>rfl);(case hg=>rfl);(case hn=>rfl);(case hr=>exact Y3);intro w14 hw;have hg:w12.grownBy w14 (some go5):=(by rw [hw];exact HP13.2);have hp_:Kd.R k54 54 w14 w0.heap.size (fun k_=>(P0_ k_∨w.heap.size≤k_)) (.slice (some ⟨go5,0,none⟩) x0_1.length co10) y402:=(by rw [hw,Ny402.out];exact HP13.1);clear HP13;replace HB:=am ((by rw [hw];exact jk (HB.out) GB5.out:Below w0.heap.size w0 w14));replace HK:=am (Kept.jXb (S:=(fun k_=>P0_ k_)) hg (Y10) (fun k_ e_=>(HO_0.out.1 k_ e_)));replace HO_0:=am (hp_);clear hg hw hp_;have p7:0≤(x5_1:Int):=ozD (uq);have q7:(x5_1:Int)<((x0_1.length:Int):Int):=ozD (uq);obtain ⟨ce7,hcl7,hM7,hcc7,hfr7⟩:=Kd.jRb HO_0.out z54 (x5_1:Int) p7 q7;obtain rfl:=jrb hM7;have hx7_0:w14.cell? ⟨go5,(x5_1:Int).toNat * 5,none⟩=some (.int .i64 ((jd y402 x5_1).f0)):=hcc7 0 _ rfl;have hx7_1:w14.cell? ⟨go5,(x5_1:Int).toNat * 5+1,none⟩=some (.int .i64 ((jd y402 x5_1).f1)):=hcc7 1 _ rfl;have hx7_2:w14.cell? ⟨go5,(x5_1:Int).toNat * 5+2,none⟩=some (.int .i64 ((jd y402 x5_1).f2)):=hcc7 2 _ rfl;have hx7_3:w14.cell? ⟨go5,(x5_1:Int).toNat * 5+3,none⟩=some (.int .i64 ((jd y402 x5_1).f3)):=hcc7 3 _ rfl;have hx7_4:w14.cell? ⟨go5,(x5_1:Int).toNat * 5+4,none⟩=some (.bool ((jd y402 x5_1).f4)):=hcc7 4 _ rfl;have hf7_0:w14.frozen? ⟨go5,(x5_1:Int).toNat * 5,none⟩=false:=hfr7 0;have hf7_1:w14.frozen? ⟨go5,(x5_1:Int).toNat * 5+1,none⟩=false:=hfr7 1;have hf7_2:w14.frozen? ⟨go5,(x5_1:Int).toNat * 5+2,none⟩=false:=hfr7 2;have hf7_3:w14.frozen? ⟨go5,(x5_1:Int).toNat * 5+3,none⟩=false:=hfr7 3;have hf7_4:w14.frozen? ⟨go5,(x5_1:Int).toNat * 5+4,none⟩=false:=hfr7 4;clear hcl7 hcc7 hfr7 hM7;replace p7:=ezT p7;replace q7:=ezT q7;have HX15:=am (show Kd.R k54 54 w14 w0.heap.size (fun k_=>(P0_ k_∨w.heap.size≤k_)) (.slice (some ⟨go5,0,none⟩) x0_1.length co10) y402 from (rq HO_0.out));obtain ⟨ce15,hcl15,hM15,hcc15,hfr15⟩:=Kd.jRb HX15.out z54 (x5_1:Int) (ozD (uq)) (by have h_:(x5_1:Int)<((x0_1.length:Int):Int):=ozD (uq);first | exact h_ |(have e_:=(Kd.jq HO_0.out).1;omega) | simpa using h_);obtain rfl:=jrb hM15;have HP15:=Kd.R_seg HX15.out (x5_1:Int) (ozD (uq)) (by have h_:(x5_1:Int)<((x0_1.length:Int):Int):=ozD (uq);first | exact h_ |(have e_:=(Kd.jq HO_0.out).1;omega) | simpa using h_) (seg:=[.int .i64 (wrap64 ((wrap64 (x1_1+1))+1))]) (j:=2) hcl15 hcc15 (show 3≤5 from by decide) (x':=(⟨(jd y402 x5_1).f0,(jd y402 x5_1).f1,wrap64 ((wrap64 (x1_1+1))+1),(jd y402 x5_1).f3,(jd y402 x5_1).f4⟩:S54)) (jpc _ _ _ (⟨(jd y402 x5_1).f0,(jd y402 x5_1).f1,wrap64 ((wrap64 (x1_1+1))+1),(jd y402 x5_1).f3,(jd y402 x5_1).f4⟩:S54) ) (fun _ hk=>hk);have hx15_2:=hcc15 2 _ rfl;(try simp only [show (k54).sz=5 from rfl,Nat.mul_one,Nat.add_zero] at hx15_2);have hf15_2:=hfr15 2;(try simp only [show (k54).sz=5 from rfl,Nat.mul_one,Nat.add_zero] at hf15_2);clear hcl15 hcc15 hfr15 hM15) |((with_reducible refine jwb (t:=3) (p:=30) rfl ?_);refine jmb (t:=3) (p:=30) (v:=?vo_w16) (w1:=(w14.setCell ⟨go5,(x5_1:Int).toNat * 5+2,none⟩ (.int .i64 (wrap64 ((wrap64 (x1_1+1))+1))))) ?hg ?ho ?hn ?hr ?_;(case ho=>rfl);(case hg=>rfl);(case hn=>rfl);(case hr=>exact Y3);intro w16 hw;have hg:w14.grownBy w16 (some go5):=(by rw [hw];exact HP15.2);have hp_:Kd.R k54 54 w16 w0.heap.size (fun k_=>(P0_ k_∨w.heap.size≤k_)) (.slice (some ⟨go5,0,none⟩) x0_1.length co10) y403:=(by rw [hw,Ny403.out];exact HP15.1);clear HP15;replace HB:=am ((by rw [hw];exact jk (HB.out) GB5.out:Below w0.heap.size w0 w16));replace HK:=am (Kept.jXb (S:=(fun k_=>P0_ k_)) hg (Y10) (fun k_ e_=>(HO_0.out.1 k_ e_)));replace HO_0:=am (hp_);clear hg hw hp_;have p8:0≤(x5_1:Int):=ozD (uq);have q8:(x5_1:Int)<((x0_1.length:Int):Int):=ozD (uq);obtain ⟨ce8,hcl8,hM8,hcc8,hfr8⟩:=Kd.jRb HO_0.out z54 (x5_1:Int) p8 q8;obtain rfl:=jrb hM8;have hx8_0:w16.cell? ⟨go5,(x5_1:Int).toNat * 5,none⟩=some (.int .i64 ((jd y403 x5_1).f0)):=hcc8 0 _ rfl;have hx8_1:w16.cell? ⟨go5,(x5_1:Int).toNat * 5+1,none⟩=some (.int .i64 ((jd y403 x5_1).f1)):=hcc8 1 _ rfl;have hx8_2:w16.cell? ⟨go5,(x5_1:Int).toNat * 5+2,none⟩=some (.int .i64 ((jd y403 x5_1).f2)):=hcc8 2 _ rfl;have hx8_3:w16.cell? ⟨go5,(x5_1:Int).toNat * 5+3,none⟩=some (.int .i64 ((jd y403 x5_1).f3)):=hcc8 3 _ rfl;have hx8_4:w16.cell? ⟨go5,(x5_1:Int).toNat * 5+4,none⟩=some (.bool ((jd y403 x5_1).f4)):=hcc8 4 _ rfl;have hf8_0:w16.frozen? ⟨go5,(x5_1:Int).toNat * 5,none⟩=false:=hfr8 0;have hf8_1:w16.frozen? ⟨go5,(x5_1:Int).toNat * 5+1,none⟩=false:=hfr8 1;have hf8_2:w16.frozen? ⟨go5,(x5_1:Int).toNat * 5+2,none⟩=false:=hfr8 2;have hf8_3:w16.frozen? ⟨go5,(x5_1:Int).toNat * 5+3,none⟩=false:=hfr8 3;have hf8_4:w16.frozen? ⟨go5,(x5_1:Int).toNat * 5+4,none⟩=false:=hfr8 4;clear hcl8 hcc8 hfr8 hM8;replace p8:=ezT p8;replace q8:=ezT q8;have HX17:=am (show Kd.R k54 54 w16 w0.heap.size (fun k_=>(P0_ k_∨w.heap.size≤k_)) (.slice (some ⟨go5,0,none⟩) x0_1.length co10) y403 from (rq HO_0.out));obtain ⟨ce17,hcl17,hM17,hcc17,hfr17⟩:=Kd.jRb HX17.out z54 (x5_1:Int) (ozD (uq)) (by have h_:(x5_1:Int)<((x0_1.length:Int):Int):=ozD (uq);first | exact h_ |(have e_:=(Kd.jq HO_0.out).1;omega) | simpa using h_);obtain rfl:=jrb hM17;have HP17:=Kd.R_seg HX17.out (x5_1:Int) (ozD (uq)) (by have h_:(x5_1:Int)<((x0_1.length:Int):Int):=ozD (uq);first | exact h_ |(have e_:=(Kd.jq HO_0.out).1;omega) | simpa using h_) (seg:=[.int .i64 (wrap64 ((wrap64 ((wrap64 (x1_1+1))+1))+1))]) (j:=3) hcl17 hcc17 (show 4≤5 from by decide) (x':=(⟨(jd y403 x5_1).f0,(jd y403 x5_1).f1,(jd y403 x5_1).f2,wrap64 ((wrap64 ((wrap64 (x1_1+1))+1))+1),(jd y403 x5_1).f4⟩:S54)) (jpc _ _ _ (⟨(jd y403 x5_1).f0,(jd y403 x5_1).f1,(jd y403 x5_1).f2,wrap64 ((wrap64 ((wrap64 (x1_1+1))+1))+1),(jd y403 x5_1).f4⟩:S54) ) (fun _ hk=>hk);have hx17_3:=hcc17 3 _ rfl;(try simp only [show (k54).sz=5 from rfl,Nat.mul_one,Nat.add_zero] at hx17_3);have hf17_3:=hfr17 3;(try simp only [show (k54).sz=5 from rfl,Nat.mul_one,Nat.add_zero] at hf17_3);clear hcl17 hcc17 hfr17 hM17) |((with_reducible refine jwb (t:=3) (p:=37) rfl ?_);refine jmb (t:=3) (p:=37) (v:=?vo_w18) (w1:=(w16.setCell ⟨go5,(x5_1:Int).toNat * 5+3,none⟩ (.int .i64 (wrap64 ((wrap64 ((wrap64 (x1_1+1))+1))+1))))) ?hg ?ho ?hn ?hr ?_;(case ho=>rfl);(case hg=>rfl);(case hn=>rfl);(case hr=>exact Y3);intro w18 hw;have hg:w16.grownBy w18 (some go5):=(by rw [hw];exact HP17.2);have hp_:Kd.R k54 54 w18 w0.heap.size (fun k_=>(P0_ k_∨w.heap.size≤k_)) (.slice (some ⟨go5,0,none⟩) x0_1.length co10) y404:=(by rw [hw,Ny404.out];exact HP17.1);clear HP17;replace HB:=am ((by rw [hw];exact jk (HB.out) GB5.out:Below w0.heap.size w0 w18));replace HK:=am (Kept.jXb (S:=(fun k_=>P0_ k_)) hg (Y10) (fun k_ e_=>(HO_0.out.1 k_ e_)));replace HO_0:=am (hp_);clear hg hw hp_;have p9:0≤(x5_1:Int):=ozD (uq);have q9:(x5_1:Int)<((x0_1.length:Int):Int):=ozD (uq);obtain ⟨ce9,hcl9,hM9,hcc9,hfr9⟩:=Kd.jRb HO_0.out z54 (x5_1:Int) p9 q9;obtain rfl:=jrb hM9;have hx9_0:w18.cell? ⟨go5,(x5_1:Int).toNat * 5,none⟩=some (.int .i64 ((jd y404 x5_1).f0)):=hcc9 0 _ rfl;have hx9_1:w18.cell? ⟨go5,(x5_1:Int).toNat * 5+1,none⟩=some (.int .i64 ((jd y404 x5_1).f1)):=hcc9 1 _ rfl;have hx9_2:w18.cell? ⟨go5,(x5_1:Int).toNat * 5+2,none⟩=some (.int .i64 ((jd y404 x5_1).f2)):=hcc9 2 _ rfl;have hx9_3:w18.cell? ⟨go5,(x5_1:Int).toNat * 5+3,none⟩=some (.int .i64 ((jd y404 x5_1).f3)):=hcc9 3 _ rfl;have hx9_4:w18.cell? ⟨go5,(x5_1:Int).toNat * 5+4,none⟩=some (.bool ((jd y404 x5_1).f4)):=hcc9 4 _ rfl;have hf9_0:w18.frozen? ⟨go5,(x5_1:Int).toNat * 5,none⟩=false:=hfr9 0;have hf9_1:w18.frozen? ⟨go5,(x5_1:Int).toNat * 5+1,none⟩=false:=hfr9 1;have hf9_2:w18.frozen? ⟨go5,(x5_1:Int).toNat * 5+2,none⟩=false:=hfr9 2;have hf9_3:w18.frozen? ⟨go5,(x5_1:Int).toNat * 5+3,none⟩=false:=hfr9 3;have hf9_4:w18.frozen? ⟨go5,(x5_1:Int).toNat * 5+4,none⟩=false:=hfr9 4;clear hcl9 hcc9 hfr9 hM9;replace p9:=ezT p9;replace q9:=ezT q9;have HX19:=am (show Kd.R k54 54 w18 w0.heap.size (fun k_=>(P0_ k_∨w.heap.size≤k_)) (.slice (some ⟨go5,0,none⟩) x0_1.length co10) y404 from (rq HO_0.out));obtain ⟨ce19,hcl19,hM19,hcc19,hfr19⟩:=Kd.jRb HX19.out z54 (x5_1:Int) (ozD (uq)) (by have h_:(x5_1:Int)<((x0_1.length:Int):Int):=ozD (uq);first | exact h_ |(have e_:=(Kd.jq HO_0.out).1;omega) | simpa using h_);obtain rfl:=jrb hM19;have HP19:=Kd.R_seg HX19.out (x5_1:Int) (ozD (uq)) (by have h_:(x5_1:Int)<((x0_1.length:Int):Int):=ozD (uq);first | exact h_ |(have e_:=(Kd.jq HO_0.out).1;omega) | simpa using h_) (seg:=[.bool ((Int.tmod (wrap64 ((wrap64 ((wrap64 ((wrap64 (x1_1+1))+1))+1))+1)) 3) == 0)]) (j:=4) hcl19 hcc19 (show 5≤5 from by decide) (x':=(⟨(jd y404 x5_1).f0,(jd y404 x5_1).f1,(jd y404 x5_1).f2,(jd y404 x5_1).f3,((Int.tmod (wrap64 ((wrap64 ((wrap64 ((wrap64 (x1_1+1))+1))+1))+1)) 3) == 0)⟩:S54)) (jpc _ _ _ (⟨(jd y404 x5_1).f0,(jd y404 x5_1).f1,(jd y404 x5_1).f2,(jd y404 x5_1).f3,((Int.tmod (wrap64 ((wrap64 ((wrap64 ((wrap64 (x1_1+1))+1))+1))+1)) 3) == 0)⟩:S54) ) (fun _ hk=>hk);have hx19_4:=hcc19 4 _ rfl;(try simp only [show (k54).sz=5 from rfl,Nat.mul_one,Nat.add_zero] at hx19_4);have hf19_4:=hfr19 4;(try simp only [show (k54).sz=5 from rfl,Nat.mul_one,Nat.add_zero] at hf19_4);clear hcl19 hcc19 hfr19 hM19) |((with_reducible refine jwb (t:=4) (p:=46) rfl ?_);refine jmb (t:=4) (p:=46) (v:=?vo_w20) (w1:=(w18.setCell ⟨go5,(x5_1:Int).toNat * 5+4,none⟩ (.bool ((Int.tmod (wrap64 ((wrap64 ((wrap64 ((wrap64 (x1_1+1))+1))+1))+1)) 3) == 0)))) ?hg ?ho ?hn ?hr ?_;(case ho=>rfl);(case hg=>rfl);(case hn=>rfl);(case hr=>exact Y3);intro w20 hw;have hg:w18.grownBy w20 (some go5):=(by rw [hw];exact HP19.2);have hp_:Kd.R k54 54 w20 w0.heap.size (fun k_=>(P0_ k_∨w.heap.size≤k_)) (.slice (some ⟨go5,0,none⟩) x0_1.length co10) y405:=(by rw [hw,Ny405.out];exact HP19.1);clear HP19;replace HB:=am ((by rw [hw];exact jk (HB.out) GB5.out:Below w0.heap.size w0 w20));replace HK:=am (Kept.jXb (S:=(fun k_=>P0_ k_)) hg (Y10) (fun k_ e_=>(HO_0.out.1 k_ e_)));replace HO_0:=am (hp_);clear hg hw hp_))
     go_roundg k1
     case measure=>have:=HK1.out;omega
     case rel=>exact ⟨(y405),(wrap64 ((wrap64 ((wrap64 ((wrap64 ((wrap64 (x1_1+1))+1))+1))+1))+1)),(wrap64 (x5_1+1)),(sq),(sq),H',⟨by have:=HK1.out;omega⟩,⟨rq HO_0.out⟩,⟨Y10⟩,⟨bq⟩⟩
    ·rw [if_neg c4] at H
     exact absurd H (by simp)
   ·rw [if_neg c3] at H
    have c3b0:decide (x5_1<(x0_1.length:Int))=false:=dzF c3
    clear c3
    simp only [Option.some.injEq,Prod.mk.injEq] at H
    obtain ⟨rfl,rfl⟩:=H
    obtain ⟨Ao21,co21,eo21⟩:=Kd.jca HO_0.out
    subst eo21
    go_wp2
    go_ret
    exact ⟨Y1,rq HO_0.out,bq,Y10⟩
def jxa.f (k : Nat) (l0_0 : List (S54)) (a1 : Int) : Option (Int × (List (S54))) := (jV.f k l0_0 a1).bind fun bt407 => (some (bt407.1, bt407.2))
set_option maxHeartbeats 8000000 in
set_option maxRecDepth 100000 in
theorem jxa.calls (k : Nat) (P0_0_ : Nat → Prop) (u9000_ : Value) (l0_0 : List (S54)) (a1 : Int) (r1 : Int) (r2 : List (S54)) (w0 w : World) (hB : Below w0.heap.size w0 w) (ho0_0 : Kd.R k54 54 w w0.heap.size P0_0_ u9000_ l0_0) (h : jxa.f k l0_0 a1 = some (r1, r2)) :
  Calls Try.prog 18 #[.agg #[u9000_], .int .i64 a1] w fun e w'=>e=.returned (.int .i64 r1)∧Kd.R k54 54 w' w0.heap.size (fun k_=>(P0_0_ k_∨w.heap.size≤k_)) u9000_ r2∧Below w0.heap.size w0 w'∧Kept w w' (fun k_=>P0_0_ k_):=by
 have hu32:=Try.underlying32
 have HO0_0:=am (show Kd.R k54 54 w w0.heap.size (fun k_=>(P0_0_ k_∨w.heap.size≤k_)) u9000_ l0_0 from Kd.jI ho0_0 (fun k_ hk=>(.inl hk)))
 have HK:=am (Kept.refl w (fun k_=>P0_0_ k_))
 have HW0:=am hB.size
 have HB:=am hB
 clear hB
 have H:((jV.f k l0_0 a1).bind fun bt407=>(some (bt407.1,bt407.2)))=some (r1,r2):=h
 clear h
 replace H:=bzS H
 obtain ⟨⟨t407,t408⟩,A30,H⟩:=H
 replace H:(some (t407,t408))=some (r1,r2):=H
 have A3:=am A30
 clear A30
 simp only [Option.some.injEq,Prod.mk.injEq] at H
 obtain ⟨rfl,rfl⟩:=H
 obtain ⟨Ao4,co4,eo4⟩:=Kd.jca HO0_0.out
 subst eo4
 go_enter Try.func18,Try.ntmps18
 go_wp2_with (first |((with_reducible refine jD (N:=2) rfl ?_);refine bE (N:=2) (cs:=#[.slice Ao4 l0_0.length co4]) (t:=32) ?_;intro gb406 hg w5 hbox hb;have BK406:=am (hbox);have GW406:=am ((Y144:w.heap.size≤gb406));have GE406:=am ((Y0:w0.heap.size≤gb406));replace HO0_0:=am (Kd.jy (rq HO0_0.out) hb);replace HK:=am (Kept.below (S:=(fun k_=>P0_0_ k_)) (Y10) hb);replace HB:=am (je (bq) hb);clear hb hbox hg;have hcz6_0:=bc0 BK406.out;have hfz6_0:=jb BK406.out 0) |((with_reducible refine jE (f:=50) rfl ?_);refine gL (some 8) Try.func50 #[.slice Ao4 l0_0.length co4, .int .i64 a1] ?_;(with_reducible refine (jV.calls k (fun k_=>some k_=(.slice Ao4 l0_0.length co4:Value).ownBlock) (.slice Ao4 l0_0.length co4) l0_0 a1 t407 t408 w0 _ ?side1 ?side2 A3.out).mono ?_);(case side1=>exact Y147);(case side2=>exact Kd.jqc rfl HO0_0.out);rintro e w7 ⟨rfl,hy0,hb,hkp⟩;refine ⟨_,rfl,?_⟩;replace BK406:=am (jSa (kq BK406.out) hkp (fun hs_=>(fun e_=>(Kd.R_ne HO0_0.out BK406.out (by decide)) e_) hs_));replace HK:=am (Kept.then_ (S:=(fun k_=>P0_0_ k_)) (Y148) hkp (fun k_ hs_=>(fun e_=>(HO0_0.out.1 k_ e_.symm)) hs_));replace HO0_0:=am (Kd.R_reok rfl hy0 (fun k_ e_=>HO0_0.out.1 k_ e_));replace HB:=am (hb);(try clear hb);(try clear hkp);(try clear hy0)))
 go_ret
 exact ⟨Y1,rq HO0_0.out,Y147,Y148⟩
def jga.l0 : Nat → List (S54) → Int → Int → Option (Int)
 | 0,_,_,_=>none
 | k+1,x0,x1,x5=>if x5<(x0.length:Int) then (if 0≤x5 then (if ((jd x0 x5).f0)=x1 then (if ((jd x0 x5).f1)=(wrap64 (x1+1)) then (if ((jd x0 x5).f2)=(wrap64 ((wrap64 (x1+1))+1)) then (if ((jd x0 x5).f3)=(wrap64 ((wrap64 ((wrap64 (x1+1))+1))+1)) then (if (((jd x0 x5).f4) != ((Int.tmod (wrap64 ((wrap64 ((wrap64 ((wrap64 (x1+1))+1))+1))+1)) 3) == 0))=true then (some (-1)) else (jga.l0 k x0 (wrap64 ((wrap64 ((wrap64 ((wrap64 ((wrap64 (x1+1))+1))+1))+1))+1)) (wrap64 (x5+1)))) else (some (-1))) else (some (-1))) else (some (-1))) else (some (-1))) else (none)) else (some x1)
def jga.f (k : Nat) (l0 : List (S54)) (a1 : Int) : Option (Int) := jga.l0 k l0 a1 0
set_option maxHeartbeats 8000000 in
set_option maxRecDepth 100000 in
theorem jga.calls (k : Nat) (A0 : Option Addr) (c0 : Nat) (l0 : List (S54)) (a1 : Int) (r : Int) (w : World) (hr0 : Kd.C k54 w A0 l0.length l0) (hc0 : l0.length ≤ c0) (h : jga.f k l0 a1 = some r) :
  Calls Try.prog 51 #[.slice A0 l0.length c0, .int .i64 a1] w fun e w'=>e=.returned (.int .i64 r)∧jgb w w':=by
 have HR0:=am hr0
 have HC0:=am hc0
 clear hr0 hc0
 have H:(jga.l0 k l0 a1 0)=some r:=h
 clear h
 have H':=am H
 clear H
 go_enter Try.func51,Try.ntmps51
 go_wp2
 go_loopg [1,5] k (fun kq v1 v5 w'=>∃ (x1_1:Int) (x5_1:Int),v1=.int .i64 x1_1∧v5=.int .i64 x5_1∧jw (jga.l0 kq l0 x1_1 x5_1=some r)∧jw (kq≤k)∧jgb w w')
 case atStart=>exact ⟨(a1),(0),(sq),(sq),H',⟨Nat.le_refl _⟩,Y2⟩
 case round =>
  clear H'
  try clear p2
  obtain ⟨x1_1,x5_1,rfl,rfl,HA,HK1,⟨m1,rfl⟩⟩:=hrel
  cases gk with
  | zero=>exact absurd HA.out (by simp [jga.l0])
  | succ k1 =>
   have H:=HA.out
   clear HA
   simp only [jga.l0] at H
   by_cases c3:x5_1<(l0.length:Int)
   ·rw [if_pos c3] at H
    have c3b0:decide (x5_1<(l0.length:Int))=true:=dzT c3
    clear c3
    by_cases c4:0≤x5_1
    ·rw [if_pos c4] at H
     have c4b0:decide (0≤x5_1)=true:=dzT c4
     clear c4
     by_cases c5:((jd l0 x5_1).f0)=x1_1
     ·rw [if_pos c5] at H
      have c5b0:(((jd l0 x5_1).f0) == x1_1)=true:=beq_iff_eq.mpr c5
      have c5b1:(((jd l0 x5_1).f0) != x1_1)=false:=bne_eq_false_iff_eq.mpr c5
      clear c5
      by_cases c6:((jd l0 x5_1).f1)=(wrap64 (x1_1+1))
      ·rw [if_pos c6] at H
       have c6b0:(((jd l0 x5_1).f1) == (wrap64 (x1_1+1)))=true:=beq_iff_eq.mpr c6
       have c6b1:(((jd l0 x5_1).f1) != (wrap64 (x1_1+1)))=false:=bne_eq_false_iff_eq.mpr c6
       clear c6
       by_cases c7:((jd l0 x5_1).f2)=(wrap64 ((wrap64 (x1_1+1))+1))
       ·rw [if_pos c7] at H
        have c7b0:(((jd l0 x5_1).f2) == (wrap64 ((wrap64 (x1_1+1))+1)))=true:=beq_iff_eq.mpr c7
        have c7b1:(((jd l0 x5_1).f2) != (wrap64 ((wrap64 (x1_1+1))+1)))=false:=bne_eq_false_iff_eq.mpr c7
        clear c7
        by_cases c8:((jd l0 x5_1).f3)=(wrap64 ((wrap64 ((wrap64 (x1_1+1))+1))+1))
        ·rw [if_pos c8] at H
         have c8b0:(((jd l0 x5_1).f3) == (wrap64 ((wrap64 ((wrap64 (x1_1+1))+1))+1)))=true:=beq_iff_eq.mpr c8
         have c8b1:(((jd l0 x5_1).f3) != (wrap64 ((wrap64 ((wrap64 (x1_1+1))+1))+1)))=false:=bne_eq_false_iff_eq.mpr c8
         clear c8
         by_cases c9:(((jd l0 x5_1).f4) != ((Int.tmod (wrap64 ((wrap64 ((wrap64 ((wrap64 (x1_1+1))+1))+1))+1)) 3) == 0))=true
         ·rw [if_pos c9] at H
          have c9b0:(((jd l0 x5_1).f4) != ((Int.tmod (wrap64 ((wrap64 ((wrap64 ((wrap64 (x1_1+1))+1))+1))+1)) 3) == 0))=true:=c9
          (try (have c9b1:decide (((jd l0 x5_1).f4)=((Int.tmod (wrap64 ((wrap64 ((wrap64 ((wrap64 (x1_1+1))+1))+1))+1)) 3) == 0))=false:=by simpa using c9))
          (try (have c9b2:(((jd l0 x5_1).f4) == ((Int.tmod (wrap64 ((wrap64 ((wrap64 ((wrap64 (x1_1+1))+1))+1))+1)) 3) == 0))=false:=by simpa using c9))
          (try (have c9b3:¬ (((jd l0 x5_1).f4)=((Int.tmod (wrap64 ((wrap64 ((wrap64 ((wrap64 (x1_1+1))+1))+1))+1)) 3) == 0)):=by simpa using c9))
          clear c9
          obtain rfl:=Option.some.inj H
          have p409:0≤(x5_1:Int):=ozD (uq)
          have q409:x5_1<(l0.length:Int):=ozD (uq)
          obtain ⟨ad409,e409,hx409_0,hx409_1,hx409_2,hx409_3,hx409_4⟩:=jOa HR0.out x5_1 p409 q409
          cases e409
          replace p409:=ezT p409
          replace q409:=ezT q409
          have p410:0≤(x5_1:Int):=ozD (uq)
          have q410:x5_1<(l0.length:Int):=ozD (uq)
          obtain ⟨ad410,e410,hx410_0,hx410_1,hx410_2,hx410_3,hx410_4⟩:=jOa HR0.out x5_1 p410 q410
          obtain rfl:ad409=ad410:=(by injection e410)
          replace p410:=ezT p410
          replace q410:=ezT q410
          have p411:0≤(x5_1:Int):=ozD (uq)
          have q411:x5_1<(l0.length:Int):=ozD (uq)
          obtain ⟨ad411,e411,hx411_0,hx411_1,hx411_2,hx411_3,hx411_4⟩:=jOa HR0.out x5_1 p411 q411
          obtain rfl:ad409=ad411:=(by injection e411)
          replace p411:=ezT p411
          replace q411:=ezT q411
          have p412:0≤(x5_1:Int):=ozD (uq)
          have q412:x5_1<(l0.length:Int):=ozD (uq)
          obtain ⟨ad412,e412,hx412_0,hx412_1,hx412_2,hx412_3,hx412_4⟩:=jOa HR0.out x5_1 p412 q412
          obtain rfl:ad409=ad412:=(by injection e412)
          replace p412:=ezT p412
          replace q412:=ezT q412
          have p413:0≤(x5_1:Int):=ozD (uq)
          have q413:x5_1<(l0.length:Int):=ozD (uq)
          obtain ⟨ad413,e413,hx413_0,hx413_1,hx413_2,hx413_3,hx413_4⟩:=jOa HR0.out x5_1 p413 q413
          obtain rfl:ad409=ad413:=(by injection e413)
          replace p413:=ezT p413
          replace q413:=ezT q413
          go_wp2
          go_ret
          exact ⟨sq,Y2⟩
         ·rw [if_neg c9] at H
          have c9b0:(((jd l0 x5_1).f4) != ((Int.tmod (wrap64 ((wrap64 ((wrap64 ((wrap64 (x1_1+1))+1))+1))+1)) 3) == 0))=false:=by simpa using c9
          (try (have c9b1:decide (((jd l0 x5_1).f4)=((Int.tmod (wrap64 ((wrap64 ((wrap64 ((wrap64 (x1_1+1))+1))+1))+1)) 3) == 0))=true:=by simpa using c9))
          (try (have c9b2:(((jd l0 x5_1).f4) == ((Int.tmod (wrap64 ((wrap64 ((wrap64 ((wrap64 (x1_1+1))+1))+1))+1)) 3) == 0))=true:=by simpa using c9))
          clear c9
          have H':=am H
          clear H
          have p409:0≤(x5_1:Int):=ozD (uq)
          have q409:x5_1<(l0.length:Int):=ozD (uq)
          obtain ⟨ad409,e409,hx409_0,hx409_1,hx409_2,hx409_3,hx409_4⟩:=jOa HR0.out x5_1 p409 q409
          cases e409
          replace p409:=ezT p409
          replace q409:=ezT q409
          have p410:0≤(x5_1:Int):=ozD (uq)
          have q410:x5_1<(l0.length:Int):=ozD (uq)
          obtain ⟨ad410,e410,hx410_0,hx410_1,hx410_2,hx410_3,hx410_4⟩:=jOa HR0.out x5_1 p410 q410
          obtain rfl:ad409=ad410:=(by injection e410)
          replace p410:=ezT p410
          replace q410:=ezT q410
          have p411:0≤(x5_1:Int):=ozD (uq)
          have q411:x5_1<(l0.length:Int):=ozD (uq)
          obtain ⟨ad411,e411,hx411_0,hx411_1,hx411_2,hx411_3,hx411_4⟩:=jOa HR0.out x5_1 p411 q411
          obtain rfl:ad409=ad411:=(by injection e411)
          replace p411:=ezT p411
          replace q411:=ezT q411
          have p412:0≤(x5_1:Int):=ozD (uq)
          have q412:x5_1<(l0.length:Int):=ozD (uq)
          obtain ⟨ad412,e412,hx412_0,hx412_1,hx412_2,hx412_3,hx412_4⟩:=jOa HR0.out x5_1 p412 q412
          obtain rfl:ad409=ad412:=(by injection e412)
          replace p412:=ezT p412
          replace q412:=ezT q412
          have p413:0≤(x5_1:Int):=ozD (uq)
          have q413:x5_1<(l0.length:Int):=ozD (uq)
          obtain ⟨ad413,e413,hx413_0,hx413_1,hx413_2,hx413_3,hx413_4⟩:=jOa HR0.out x5_1 p413 q413
          obtain rfl:ad409=ad413:=(by injection e413)
          replace p413:=ezT p413
          replace q413:=ezT q413
          go_wp2
          go_roundg k1
          case measure=>have:=HK1.out;omega
          case rel=>exact ⟨(wrap64 ((wrap64 ((wrap64 ((wrap64 ((wrap64 (x1_1+1))+1))+1))+1))+1)),(wrap64 (x5_1+1)),(sq),(sq),H',⟨by have:=HK1.out;omega⟩,Y2⟩
        ·rw [if_neg c8] at H
         have c8b0:(((jd l0 x5_1).f3) == (wrap64 ((wrap64 ((wrap64 (x1_1+1))+1))+1)))=false:=beq_eq_false_iff_ne.mpr c8
         have c8b1:(((jd l0 x5_1).f3) != (wrap64 ((wrap64 ((wrap64 (x1_1+1))+1))+1)))=true:=bne_iff_ne.mpr c8
         obtain rfl:=Option.some.inj H
         have p409:0≤(x5_1:Int):=ozD (uq)
         have q409:x5_1<(l0.length:Int):=ozD (uq)
         obtain ⟨ad409,e409,hx409_0,hx409_1,hx409_2,hx409_3,hx409_4⟩:=jOa HR0.out x5_1 p409 q409
         cases e409
         replace p409:=ezT p409
         replace q409:=ezT q409
         have p410:0≤(x5_1:Int):=ozD (uq)
         have q410:x5_1<(l0.length:Int):=ozD (uq)
         obtain ⟨ad410,e410,hx410_0,hx410_1,hx410_2,hx410_3,hx410_4⟩:=jOa HR0.out x5_1 p410 q410
         obtain rfl:ad409=ad410:=(by injection e410)
         replace p410:=ezT p410
         replace q410:=ezT q410
         have p411:0≤(x5_1:Int):=ozD (uq)
         have q411:x5_1<(l0.length:Int):=ozD (uq)
         obtain ⟨ad411,e411,hx411_0,hx411_1,hx411_2,hx411_3,hx411_4⟩:=jOa HR0.out x5_1 p411 q411
         obtain rfl:ad409=ad411:=(by injection e411)
         replace p411:=ezT p411
         replace q411:=ezT q411
         have p412:0≤(x5_1:Int):=ozD (uq)
         have q412:x5_1<(l0.length:Int):=ozD (uq)
         obtain ⟨ad412,e412,hx412_0,hx412_1,hx412_2,hx412_3,hx412_4⟩:=jOa HR0.out x5_1 p412 q412
         obtain rfl:ad409=ad412:=(by injection e412)
         replace p412:=ezT p412
         replace q412:=ezT q412
         go_wp2
         go_ret
         exact ⟨sq,Y2⟩
       ·rw [if_neg c7] at H
        have c7b0:(((jd l0 x5_1).f2) == (wrap64 ((wrap64 (x1_1+1))+1)))=false:=beq_eq_false_iff_ne.mpr c7
        have c7b1:(((jd l0 x5_1).f2) != (wrap64 ((wrap64 (x1_1+1))+1)))=true:=bne_iff_ne.mpr c7
        obtain rfl:=Option.some.inj H
        have p409:0≤(x5_1:Int):=ozD (uq)
        have q409:x5_1<(l0.length:Int):=ozD (uq)
        obtain ⟨ad409,e409,hx409_0,hx409_1,hx409_2,hx409_3,hx409_4⟩:=jOa HR0.out x5_1 p409 q409
        cases e409
        replace p409:=ezT p409
        replace q409:=ezT q409
        have p410:0≤(x5_1:Int):=ozD (uq)
        have q410:x5_1<(l0.length:Int):=ozD (uq)
        obtain ⟨ad410,e410,hx410_0,hx410_1,hx410_2,hx410_3,hx410_4⟩:=jOa HR0.out x5_1 p410 q410
        obtain rfl:ad409=ad410:=(by injection e410)
        replace p410:=ezT p410
        replace q410:=ezT q410
        have p411:0≤(x5_1:Int):=ozD (uq)
        have q411:x5_1<(l0.length:Int):=ozD (uq)
        obtain ⟨ad411,e411,hx411_0,hx411_1,hx411_2,hx411_3,hx411_4⟩:=jOa HR0.out x5_1 p411 q411
        obtain rfl:ad409=ad411:=(by injection e411)
        replace p411:=ezT p411
        replace q411:=ezT q411
        go_wp2
        go_ret
        exact ⟨sq,Y2⟩
      ·rw [if_neg c6] at H
       have c6b0:(((jd l0 x5_1).f1) == (wrap64 (x1_1+1)))=false:=beq_eq_false_iff_ne.mpr c6
       have c6b1:(((jd l0 x5_1).f1) != (wrap64 (x1_1+1)))=true:=bne_iff_ne.mpr c6
       obtain rfl:=Option.some.inj H
       have p409:0≤(x5_1:Int):=ozD (uq)
       have q409:x5_1<(l0.length:Int):=ozD (uq)
       obtain ⟨ad409,e409,hx409_0,hx409_1,hx409_2,hx409_3,hx409_4⟩:=jOa HR0.out x5_1 p409 q409
       cases e409
       replace p409:=ezT p409
       replace q409:=ezT q409
       have p410:0≤(x5_1:Int):=ozD (uq)
       have q410:x5_1<(l0.length:Int):=ozD (uq)
       obtain ⟨ad410,e410,hx410_0,hx410_1,hx410_2,hx410_3,hx410_4⟩:=jOa HR0.out x5_1 p410 q410
       obtain rfl:ad409=ad410:=(by injection e410)
       replace p410:=ezT p410
       replace q410:=ezT q410
       go_wp2
       go_ret
       exact ⟨sq,Y2⟩
     ·rw [if_neg c5] at H
      have c5b0:(((jd l0 x5_1).f0) == x1_1)=false:=beq_eq_false_iff_ne.mpr c5
      have c5b1:(((jd l0 x5_1).f0) != x1_1)=true:=bne_iff_ne.mpr c5
      obtain rfl:=Option.some.inj H
      have p409:0≤(x5_1:Int):=ozD (uq)
      have q409:x5_1<(l0.length:Int):=ozD (uq)
      obtain ⟨ad409,e409,hx409_0,hx409_1,hx409_2,hx409_3,hx409_4⟩:=jOa HR0.out x5_1 p409 q409
      cases e409
      replace p409:=ezT p409
      replace q409:=ezT q409
      go_wp2
      go_ret
      exact ⟨sq,Y2⟩
    ·rw [if_neg c4] at H
     exact absurd H (by simp)
   ·rw [if_neg c3] at H
    have c3b0:decide (x5_1<(l0.length:Int))=false:=dzF c3
    clear c3
    obtain rfl:=Option.some.inj H
    go_wp2
    go_ret
    exact ⟨sq,Y2⟩
def jUa.f (k : Nat) (l0_0 : List (S54)) (a1 : Int) : Option (Int) := (jga.f k l0_0 a1).bind fun t415 => (if t415 < 0 then (some (-1)) else (some t415))
set_option maxHeartbeats 8000000 in
set_option maxRecDepth 100000 in
theorem jUa.calls (k : Nat) (A0_0 : Option Addr) (c0_0 : Nat) (l0_0 : List (S54)) (a1 : Int) (r : Int) (w : World) (hr0_0 : Kd.C k54 w A0_0 l0_0.length l0_0) (hc0_0 : l0_0.length ≤ c0_0) (h : jUa.f k l0_0 a1 = some r) :
  Calls Try.prog 19 #[.agg #[.slice A0_0 l0_0.length c0_0], .int .i64 a1] w fun e w'=>e=.returned (.int .i64 r)∧Below w.heap.size w w':=by
 have hu32:=Try.underlying32
 have HR0_0:=am hr0_0
 have HC0_0:=am hc0_0
 clear hr0_0 hc0_0
 have HB:=am (Below.refl w.heap.size w)
 have H:((jga.f k l0_0 a1).bind fun t415=>(if t415<0 then (some (-1)) else (some t415)))=some r:=h
 clear h
 replace H:=bzS H
 obtain ⟨t415,A30,H⟩:=H
 replace H:(if t415<0 then (some (-1)) else (some t415))=some r:=H
 have A3:=am A30
 clear A30
 by_cases c4:t415<0
 ·rw [if_pos c4] at H
  have c4b0:decide (t415<0)=true:=dzT c4
  clear c4
  obtain rfl:=Option.some.inj H
  go_enter Try.func19,Try.ntmps19
  go_wp2_with (first |((with_reducible refine jD (N:=2) rfl ?_);refine bE (N:=2) (cs:=#[.slice A0_0 l0_0.length c0_0]) (t:=32) ?_;intro gb414 hg w5 hbox hb;have BK414:=am (hbox);have GW414:=am ((Y0:w.heap.size≤gb414));have GE414:=am ((Y0:w.heap.size≤gb414));replace HB:=am (je (bq) hb);clear hb hbox hg;have hcz6_0:=bc0 BK414.out;have hfz6_0:=jb BK414.out 0) |((with_reducible refine jE (f:=51) rfl ?_);refine gL (some 8) Try.func51 #[.slice A0_0 l0_0.length c0_0, .int .i64 a1] ?_;(with_reducible refine (jga.calls k _ _ l0_0 a1 t415 _ ?side1 ?side2 A3.out).mono ?_);(case side1=>exact cq (Kd.jK HR0_0.out HB.out));(case side2=>exact HC0_0.out);rintro e w' ⟨rfl,⟨nd,rfl⟩⟩;refine ⟨_,rfl,?_⟩))
  go_ret
  exact ⟨Y1,Y149⟩
 ·rw [if_neg c4] at H
  have c4b0:decide (t415<0)=false:=dzF c4
  clear c4
  obtain rfl:=Option.some.inj H
  go_enter Try.func19,Try.ntmps19
  go_wp2_with (first |((with_reducible refine jD (N:=2) rfl ?_);refine bE (N:=2) (cs:=#[.slice A0_0 l0_0.length c0_0]) (t:=32) ?_;intro gb414 hg w7 hbox hb;have BK414:=am (hbox);have GW414:=am ((Y0:w.heap.size≤gb414));have GE414:=am ((Y0:w.heap.size≤gb414));replace HB:=am (je (bq) hb);clear hb hbox hg;have hcz8_0:=bc0 BK414.out;have hfz8_0:=jb BK414.out 0) |((with_reducible refine jE (f:=51) rfl ?_);refine gL (some 8) Try.func51 #[.slice A0_0 l0_0.length c0_0, .int .i64 a1] ?_;(with_reducible refine (jga.calls k _ _ l0_0 a1 t415 _ ?side1 ?side2 A3.out).mono ?_);(case side1=>exact cq (Kd.jK HR0_0.out HB.out));(case side2=>exact HC0_0.out);rintro e w' ⟨rfl,⟨nd,rfl⟩⟩;refine ⟨_,rfl,?_⟩))
  go_ret
  exact ⟨Y1,Y149⟩
end Go.Proofs.Ytecdfgejmbpclaa.P
end
