/- One part of the proofs on this program: functions of the program as plain functions, that the code comes to them, and facts on them. -/
import Derived.Test.YtlkdlibbbekipaaDoorYAll1
import Derived.Test.YtlkdlibbbekipaaDoorYAll2
import Derived.Test.YtlkdlibbbekipaaDoorYWAuto
section
namespace Go.Proofs.YtlkdlibbbekipaaDoor.P
open Go.RowKit Go.Proofs.YtlkdlibbbekipaaDoorW.PrintWords Go.Proofs.YtlkdlibbbekipaaDoorW.PrintLast Go.Proofs.YtlkdlibbbekipaaDoorW.PrintMore
attribute [local go_sem] jaa jY jka jja jR jQ jZ jX jf
set_option linter.unusedVariables false
set_option linter.unusedSimpArgs false
def jw.l0 : Nat → List (S63) → List (S63) → Int → Option (Bool)
 | 0,_,_,_=>none
 | k+1,x0,x1,x5=>if x5<(x0.length:Int) then (if 0≤x5 then (if x5<(x1.length:Int) then ((jBa.f ((jg x0 x5).f0) ((jg x0 x5).f1) ((jg x1 x5).f0) ((jg x1 x5).f1)).bind fun t205=>(if t205=true then (jw.l0 k x0 x1 (wrap64 (x5+1))) else (some false))) else (none)) else (none)) else (some true)
def jw.f (k : Nat) (l0 : List (S63)) (l1 : List (S63)) : Option (Bool) := if (l0.length : Int) = (l1.length : Int) then (jw.l0 k l0 l1 0) else (some false)
def jw.T6 : Bool × List (List Nat × List Nat) := (true, [([], []), ([], []), ([0, 1], [0, 1]), ([2], [2]), ([], []), ([], []), ([4, 5], [4, 5]), ([6], [6]), ([3, 7], [3, 7]), ([8], [8])])
def jw.B6 : List Nat := [0, 0, 3, 7, 0, 0, 48, 112, 255, 511]
theorem jw.tab6 : rtab .any (opsOf Tryd.f21 6) = jw.T6 := by kernel_rfl
theorem jw.bits6 : waitsOk jw.T6.2 jw.B6 = true := by kernel_rfl
set_option maxHeartbeats 8000000 in
set_option maxRecDepth 100000 in
theorem jw.calls (k : Nat) (A0 : Option Addr) (c0 : Nat) (l0 : List (S63)) (A1 : Option Addr) (c1 : Nat) (l1 : List (S63)) (r : Bool) (w : World) (hr0 : Kd.C k63 w A0 l0.length l0) (hc0 : l0.length ≤ c0) (hr1 : Kd.C k63 w A1 l1.length l1) (hc1 : l1.length ≤ c1) (h : jw.f k l0 l1 = some r) :
  Calls Tryd.prog 21 #[.slice A0 l0.length c0, .slice A1 l1.length c1] w fun e w'=>e=.returned (.bool r)∧Below w.heap.size w w':=by
 have hu63:=Tryd.underlying63
 have HR0:=am hr0
 have HC0:=am hc0
 clear hr0 hc0
 have HR1:=am hr1
 have HC1:=am hc1
 clear hr1 hc1
 have HB:=am (Below.refl w.heap.size w)
 have H:(if (l0.length:Int)=(l1.length:Int) then (jw.l0 k l0 l1 0) else (some false))=some r:=h
 clear h
 by_cases c3:(l0.length:Int)=(l1.length:Int)
 ·rw [if_pos c3] at H
  have c3b0:((l0.length:Int) == (l1.length:Int))=true:=beq_iff_eq.mpr c3
  have c3b1:((l0.length:Int) != (l1.length:Int))=false:=bne_eq_false_iff_eq.mpr c3
  have c3b2:(l0.length == l1.length)=true:=by first | simpa using c3 |(simp at c3 ⊢;omega)
  clear c3
  have H':=am H
  clear H
  go_enter Tryd.func21,Tryd.ntmps21
  go_wp2
  go_loopg [5] k (fun kq v5 w'=>∃ (x5_1:Int),v5=.int .i64 x5_1∧jJ (jw.l0 kq l0 l1 x5_1=some r)∧jJ (kq≤k)∧jJ (Below w.heap.size w w'))
  case atStart=>exact ⟨(0),(sq),H',⟨Nat.le_refl _⟩,⟨bq⟩⟩
  case round =>
   clear H'
   try clear c1
   try clear c2
   try clear p2
   try clear c3
   try clear c3b0
   try clear c3b1
   try clear c3b2
   obtain ⟨x5_1,rfl,HA,HK1,HB⟩:=hrel
   cases gk with
   | zero=>exact absurd HA.out (by simp [jw.l0])
   | succ k1 =>
    have H:=HA.out
    clear HA
    simp only [jw.l0] at H
    by_cases c4:x5_1<(l0.length:Int)
    ·rw [if_pos c4] at H
     have c4b0:decide (x5_1<(l0.length:Int))=true:=dzT c4
     clear c4
     by_cases c5:0≤x5_1
     ·rw [if_pos c5] at H
      have c5b0:decide (0≤x5_1)=true:=dzT c5
      clear c5
      by_cases c6:x5_1<(l1.length:Int)
      ·rw [if_pos c6] at H
       have c6b0:decide (x5_1<(l1.length:Int))=true:=dzT c6
       clear c6
       replace H:=bzS H
       obtain ⟨t205,A70,H⟩:=H
       replace H:(if t205=true then (jw.l0 k1 l0 l1 (wrap64 (x5_1+1))) else (some false))=some r:=H
       have A7:=am A70
       clear A70
       by_cases c8:t205=true
       ·subst c8
        have H1:(jw.l0 k1 l0 l1 (wrap64 (x5_1+1)))=some r:=by rw [if_pos rfl] at H;exact H
        clear H
        have H:=H1
        clear H1
        have H':=am H
        clear H
        try go_wp2
        replace HB:=am (jh HB.out)
        have p203:0≤(x5_1:Int):=ozD (uq)
        have q203:x5_1<(l0.length:Int):=ozD (uq)
        obtain ⟨ad203,e203,hx203_0,hx203_1⟩:=jKa HR0.out x5_1 p203 q203
        have hw203_1:=hx203_1
        have hw203_0:=hx203_0
        cases e203
        replace hx203_0:=cb HB.out hx203_0
        replace hx203_1:=cb HB.out hx203_1
        replace p203:=ezT p203
        replace q203:=ezT q203
        have p204:0≤(x5_1:Int):=ozD (uq)
        have q204:x5_1<(l1.length:Int):=ozD (uq)
        obtain ⟨ad204,e204,hx204_0,hx204_1⟩:=jKa HR1.out x5_1 p204 q204
        have hw204_1:=hx204_1
        have hw204_0:=hx204_0
        cases e204
        replace hx204_0:=cb HB.out hx204_0
        replace hx204_1:=cb HB.out hx204_1
        replace p204:=ezT p204
        replace q204:=ezT q204
        refine start_ (n:=10) (S:=fun w'=>w'.cell? (ad203.add ((x5_1).toNat * 2))=some (.string ((jg l0 x5_1).f0))∧w'.cell? ⟨(ad203.add ((x5_1).toNat * 2)).block,(ad203.add ((x5_1).toNat * 2)).off+1,none⟩=some (.int .i64 ((jg l0 x5_1).f1))∧w'.cell? (ad204.add ((x5_1).toNat * 2))=some (.string ((jg l1 x5_1).f0))∧w'.cell? ⟨(ad204.add ((x5_1).toNat * 2)).block,(ad204.add ((x5_1).toNat * 2)).off+1,none⟩=some (.int .i64 ((jg l1 x5_1).f1))) (ds:=[]) #[false,false,false,false,false,false,false,false,false,false] (by kernel_rfl) rfl rfl ⟨((HB.out.cell (World.block_lt_of_cell? w _ hw203_0)).trans hw203_0),((HB.out.cell (World.block_lt_of_cell? w _ hw203_1)).trans hw203_1),((HB.out.cell (World.block_lt_of_cell? w _ hw204_0)).trans hw204_0),((HB.out.cell (World.block_lt_of_cell? w _ hw204_1)).trans hw204_1)⟩ (fun hHeld=>?_);refine with_tabW jw.tab6 jw.bits6 (fun HT_ HW_=>?_)
        generalize wr.drew=w9 at HB hx203_0 hx203_1 hx204_0 hx204_1 hHeld ⊢
        refine pq (i:=0) (N:=some 17) #[true,false,false,false,false,false,false,false,false,false] ?_
        refine pq (i:=1) (N:=some 18) #[true,true,false,false,false,false,false,false,false,false] ?_
        refine pq (i:=2) (N:=some 19) #[true,true,true,false,false,false,false,false,false,false] ?_
        refine pq (i:=4) (N:=some 21) #[true,true,true,false,true,false,false,false,false,false] ?_
        refine pq (i:=5) (N:=some 22) #[true,true,true,false,true,true,false,false,false,false] ?_
        refine pq (i:=6) (N:=some 23) #[true,true,true,false,true,true,true,false,false,false] ?_
        refine take_ (i:=3) (N:=some 20) (v:=?_) (a':=?_) #[true,true,true,true,true,true,true,false,false,false] rfl rfl (jGa HT_.out HW_.out (by kernel_rfl)) (fun _ _ _ h=>h) (Or.inl ⟨by rfl,?_⟩) hHeld ?_ ?_
        rotate_left
        ·rintro w' ⟨s0,s1,s2,s3⟩
         go_simp
         with_reducible rfl
        rotate_left
        ·exact sa
        refine take_ (i:=7) (N:=some 24) (v:=?_) (a':=?_) #[true,true,true,true,true,true,true,true,false,false] rfl rfl (jGa HT_.out HW_.out (by kernel_rfl)) (fun _ _ _ h=>h) (Or.inl ⟨by rfl,?_⟩) hHeld ?_ ?_
        rotate_left
        ·rintro w' ⟨s0,s1,s2,s3⟩
         go_simp
         with_reducible rfl
        rotate_left
        ·exact sa
        refine one_ (i:=8) (N:=some 25) #[true,true,true,true,true,true,true,true,true,false] rfl rfl (one_of HT_.out (by kernel_rfl)) (by decide) (fun K hK=>?_)
        refine goes_ Tryd.func35 (by kernel_rfl) rfl #[.agg #[.string ((jg l0 x5_1).f0), .int .i64 ((jg l0 x5_1).f1)], .agg #[.string ((jg l1 x5_1).f0), .int .i64 ((jg l1 x5_1).f1)]] (by rfl) rfl rfl (aq) ?_
        with_reducible refine (jBa.calls ((jg l0 x5_1).f0) ((jg l0 x5_1).f1) ((jg l1 x5_1).f0) ((jg l1 x5_1).f1) true _ A7.out).mono ?_
        rintro e w10 ⟨rfl,hb⟩
        refine ⟨_,rfl,?_⟩
        replace HB:=am (jb (bq) hb)
        (try clear hb)
        (try clear hb2)
        (try clear hk)
        (try clear hi)
        refine hK.out _ _ ⟨((HB.out.cell (World.block_lt_of_cell? w _ hw203_0)).trans hw203_0),((HB.out.cell (World.block_lt_of_cell? w _ hw203_1)).trans hw203_1),((HB.out.cell (World.block_lt_of_cell? w _ hw204_0)).trans hw204_0),((HB.out.cell (World.block_lt_of_cell? w _ hw204_1)).trans hw204_1)⟩ (fun hHeld=>?_)
        clear hK K
        refine norm_ (a':=?_) ?_ ?_
        rotate_left
        ·show Act.put _ (some 25) _=_
         simp only [Act.put,List.setIfInBounds_toArray,List.set_cons_zero,List.set_cons_succ,i64_w,i32_w]
         rfl
        refine pq (i:=9) (N:=some 26) #[true,true,true,true,true,true,true,true,true,true] ?_
        refine done_ (done_of HT_.out (by kernel_rfl)) ?_
        try go_wp2
        go_roundg k1
        case measure=>have:=HK1.out;omega
        case rel=>exact ⟨(wrap64 (x5_1+1)),(sq),H',⟨by have:=HK1.out;omega⟩,⟨bq⟩⟩
       ·replace c8:=Bool.eq_false_iff.mpr c8
        subst c8
        have H1:(some false)=some r:=by rw [if_neg (show ¬ (false=true) by decide)] at H;exact H
        clear H
        have H:=H1
        clear H1
        obtain rfl:=Option.some.inj H
        try go_wp2
        replace HB:=am (jh HB.out)
        have p203:0≤(x5_1:Int):=ozD (uq)
        have q203:x5_1<(l0.length:Int):=ozD (uq)
        obtain ⟨ad203,e203,hx203_0,hx203_1⟩:=jKa HR0.out x5_1 p203 q203
        have hw203_1:=hx203_1
        have hw203_0:=hx203_0
        cases e203
        replace hx203_0:=cb HB.out hx203_0
        replace hx203_1:=cb HB.out hx203_1
        replace p203:=ezT p203
        replace q203:=ezT q203
        have p204:0≤(x5_1:Int):=ozD (uq)
        have q204:x5_1<(l1.length:Int):=ozD (uq)
        obtain ⟨ad204,e204,hx204_0,hx204_1⟩:=jKa HR1.out x5_1 p204 q204
        have hw204_1:=hx204_1
        have hw204_0:=hx204_0
        cases e204
        replace hx204_0:=cb HB.out hx204_0
        replace hx204_1:=cb HB.out hx204_1
        replace p204:=ezT p204
        replace q204:=ezT q204
        refine start_ (n:=10) (S:=fun w'=>w'.cell? (ad203.add ((x5_1).toNat * 2))=some (.string ((jg l0 x5_1).f0))∧w'.cell? ⟨(ad203.add ((x5_1).toNat * 2)).block,(ad203.add ((x5_1).toNat * 2)).off+1,none⟩=some (.int .i64 ((jg l0 x5_1).f1))∧w'.cell? (ad204.add ((x5_1).toNat * 2))=some (.string ((jg l1 x5_1).f0))∧w'.cell? ⟨(ad204.add ((x5_1).toNat * 2)).block,(ad204.add ((x5_1).toNat * 2)).off+1,none⟩=some (.int .i64 ((jg l1 x5_1).f1))) (ds:=[]) #[false,false,false,false,false,false,false,false,false,false] (by kernel_rfl) rfl rfl ⟨((HB.out.cell (World.block_lt_of_cell? w _ hw203_0)).trans hw203_0),((HB.out.cell (World.block_lt_of_cell? w _ hw203_1)).trans hw203_1),((HB.out.cell (World.block_lt_of_cell? w _ hw204_0)).trans hw204_0),((HB.out.cell (World.block_lt_of_cell? w _ hw204_1)).trans hw204_1)⟩ (fun hHeld=>?_);refine with_tabW jw.tab6 jw.bits6 (fun HT_ HW_=>?_)
        generalize wr.drew=w11 at HB hx203_0 hx203_1 hx204_0 hx204_1 hHeld ⊢
        refine pq (i:=0) (N:=some 17) #[true,false,false,false,false,false,false,false,false,false] ?_
        refine pq (i:=1) (N:=some 18) #[true,true,false,false,false,false,false,false,false,false] ?_
        refine pq (i:=2) (N:=some 19) #[true,true,true,false,false,false,false,false,false,false] ?_
        refine pq (i:=4) (N:=some 21) #[true,true,true,false,true,false,false,false,false,false] ?_
        refine pq (i:=5) (N:=some 22) #[true,true,true,false,true,true,false,false,false,false] ?_
        refine pq (i:=6) (N:=some 23) #[true,true,true,false,true,true,true,false,false,false] ?_
        refine take_ (i:=3) (N:=some 20) (v:=?_) (a':=?_) #[true,true,true,true,true,true,true,false,false,false] rfl rfl (jGa HT_.out HW_.out (by kernel_rfl)) (fun _ _ _ h=>h) (Or.inl ⟨by rfl,?_⟩) hHeld ?_ ?_
        rotate_left
        ·rintro w' ⟨s0,s1,s2,s3⟩
         go_simp
         with_reducible rfl
        rotate_left
        ·exact sa
        refine take_ (i:=7) (N:=some 24) (v:=?_) (a':=?_) #[true,true,true,true,true,true,true,true,false,false] rfl rfl (jGa HT_.out HW_.out (by kernel_rfl)) (fun _ _ _ h=>h) (Or.inl ⟨by rfl,?_⟩) hHeld ?_ ?_
        rotate_left
        ·rintro w' ⟨s0,s1,s2,s3⟩
         go_simp
         with_reducible rfl
        rotate_left
        ·exact sa
        refine one_ (i:=8) (N:=some 25) #[true,true,true,true,true,true,true,true,true,false] rfl rfl (one_of HT_.out (by kernel_rfl)) (by decide) (fun K hK=>?_)
        refine goes_ Tryd.func35 (by kernel_rfl) rfl #[.agg #[.string ((jg l0 x5_1).f0), .int .i64 ((jg l0 x5_1).f1)], .agg #[.string ((jg l1 x5_1).f0), .int .i64 ((jg l1 x5_1).f1)]] (by rfl) rfl rfl (aq) ?_
        with_reducible refine (jBa.calls ((jg l0 x5_1).f0) ((jg l0 x5_1).f1) ((jg l1 x5_1).f0) ((jg l1 x5_1).f1) false _ A7.out).mono ?_
        rintro e w12 ⟨rfl,hb⟩
        refine ⟨_,rfl,?_⟩
        replace HB:=am (jb (bq) hb)
        (try clear hb)
        (try clear hb2)
        (try clear hk)
        (try clear hi)
        refine hK.out _ _ ⟨((HB.out.cell (World.block_lt_of_cell? w _ hw203_0)).trans hw203_0),((HB.out.cell (World.block_lt_of_cell? w _ hw203_1)).trans hw203_1),((HB.out.cell (World.block_lt_of_cell? w _ hw204_0)).trans hw204_0),((HB.out.cell (World.block_lt_of_cell? w _ hw204_1)).trans hw204_1)⟩ (fun hHeld=>?_)
        clear hK K
        refine norm_ (a':=?_) ?_ ?_
        rotate_left
        ·show Act.put _ (some 25) _=_
         simp only [Act.put,List.setIfInBounds_toArray,List.set_cons_zero,List.set_cons_succ,i64_w,i32_w]
         rfl
        refine pq (i:=9) (N:=some 26) #[true,true,true,true,true,true,true,true,true,true] ?_
        refine done_ (done_of HT_.out (by kernel_rfl)) ?_
        try go_wp2
        go_ret
        exact ⟨Y1,bq⟩
      ·rw [if_neg c6] at H
       exact absurd H (by simp)
     ·rw [if_neg c5] at H
      exact absurd H (by simp)
    ·rw [if_neg c4] at H
     have c4b0:decide (x5_1<(l0.length:Int))=false:=dzF c4
     clear c4
     obtain rfl:=Option.some.inj H
     go_wp2
     go_ret
     exact ⟨Y1,bq⟩
 ·rw [if_neg c3] at H
  have c3b0:((l0.length:Int) == (l1.length:Int))=false:=beq_eq_false_iff_ne.mpr c3
  have c3b1:((l0.length:Int) != (l1.length:Int))=true:=bne_iff_ne.mpr c3
  have c3b2:(l0.length == l1.length)=false:=by first | simpa using c3 |(simp at c3 ⊢;omega)
  obtain rfl:=Option.some.inj H
  go_enter Tryd.func21,Tryd.ntmps21
  go_wp2
  go_ret
  exact ⟨Y1,bq⟩
def jda.f (k : Nat) (l0_0 : List (S63)) (l1_0 : List (S63)) : Option (Bool) := (jw.f k l0_0 l1_0).bind fun t208 => (if t208 = true then (some true) else (some false))
set_option maxHeartbeats 8000000 in
set_option maxRecDepth 100000 in
theorem jda.calls (k : Nat) (A0_0 : Option Addr) (c0_0 : Nat) (l0_0 : List (S63)) (A1_0 : Option Addr) (c1_0 : Nat) (l1_0 : List (S63)) (r : Bool) (w : World) (hr0_0 : Kd.C k63 w A0_0 l0_0.length l0_0) (hc0_0 : l0_0.length ≤ c0_0) (hr1_0 : Kd.C k63 w A1_0 l1_0.length l1_0) (hc1_0 : l1_0.length ≤ c1_0) (h : jda.f k l0_0 l1_0 = some r) :
  Calls Tryd.prog 10 #[.agg #[.slice A0_0 l0_0.length c0_0], .agg #[.slice A1_0 l1_0.length c1_0]] w fun e w'=>e=.returned (.bool r)∧Below w.heap.size w w':=by
 have hu31:=Tryd.underlying31
 have HR0_0:=am hr0_0
 have HC0_0:=am hc0_0
 clear hr0_0 hc0_0
 have HR1_0:=am hr1_0
 have HC1_0:=am hc1_0
 clear hr1_0 hc1_0
 have HB:=am (Below.refl w.heap.size w)
 have H:((jw.f k l0_0 l1_0).bind fun t208=>(if t208=true then (some true) else (some false)))=some r:=h
 clear h
 replace H:=bzS H
 obtain ⟨t208,A30,H⟩:=H
 replace H:(if t208=true then (some true) else (some false))=some r:=H
 have A3:=am A30
 clear A30
 by_cases c4:t208=true
 ·subst c4
  have H1:(some true)=some r:=by rw [if_pos rfl] at H;exact H
  clear H
  have H:=H1
  clear H1
  obtain rfl:=Option.some.inj H
  go_enter Tryd.func10,Tryd.ntmps10
  go_wp2_with (first |((with_reducible refine jr (N:=2) rfl ?_);refine bE (N:=2) (cs:=#[.slice A0_0 l0_0.length c0_0]) (t:=31) ?_;intro gb206 hg w5 hbox hb;have BK206:=am (hbox);have GW206:=am ((Y0:w.heap.size≤gb206));have GE206:=am ((Y0:w.heap.size≤gb206));replace HB:=am (jb (bq) hb);clear hb hbox hg) |((with_reducible refine jr (N:=3) rfl ?_);refine bE (N:=3) (cs:=#[.slice A1_0 l1_0.length c1_0]) (t:=31) ?_;intro gb207 hg w6 hbox hb;have BK207:=am (hbox);have GW207:=am ((Y22:w.heap.size≤gb207));have GE207:=am ((Y22:w.heap.size≤gb207));have NB206_207:=am ((by rw [hg];exact Nat.ne_of_lt (jma (g:=gb206) (o:=.cells #[.slice A0_0 l0_0.length c0_0] 31 (0,0)) (kq BK206.out)):gb206≠gb207));have NB207_206:=am ((by rw [hg];exact Nat.ne_of_gt (jma (g:=gb206) (o:=.cells #[.slice A0_0 l0_0.length c0_0] 31 (0,0)) (kq BK206.out)):gb207≠gb206));replace BK206:=am (jc (g:=gb206) (o:=.cells #[.slice A0_0 l0_0.length c0_0] 31 (0,0)) (kq BK206.out) hb);replace HB:=am (jb (Y49) hb);clear hb hbox hg;have hnb7:=NB206_207.out;have hnc7:=NB207_206.out;have hcz8_0:=bc0 BK206.out;have hfz8_0:=ja BK206.out 0;have hcz9_0:=bc0 BK207.out;have hfz9_0:=ja BK207.out 0) |((with_reducible refine jl (f:=21) rfl ?_);refine gL (some 9) Tryd.func21 #[.slice A0_0 l0_0.length c0_0, .slice A1_0 l1_0.length c1_0] ?_;(with_reducible refine (jw.calls k _ _ l0_0 _ _ l1_0 true _ ?side1 ?side2 ?side3 ?side4 A3.out).mono ?_);(case side1=>exact cq (Kd.jD HR0_0.out HB.out));(case side2=>exact HC0_0.out);(case side3=>exact cq (Kd.jD HR1_0.out HB.out));(case side4=>exact HC1_0.out);rintro e w10 ⟨rfl,hb⟩;refine ⟨_,rfl,?_⟩;replace BK206:=am (jc (g:=gb206) (o:=.cells #[.slice A0_0 l0_0.length c0_0] 31 (0,0)) (kq BK206.out) hb);replace BK207:=am (jc (g:=gb207) (o:=.cells #[.slice A1_0 l1_0.length c1_0] 31 (0,0)) (kq BK207.out) hb);replace HB:=am (jb (Y23) hb);(try clear hb);(try clear hb2);(try clear hk);(try clear hi)))
  go_ret
  exact ⟨Y1,Y23⟩
 ·replace c4:=Bool.eq_false_iff.mpr c4
  subst c4
  have H1:(some false)=some r:=by rw [if_neg (show ¬ (false=true) by decide)] at H;exact H
  clear H
  have H:=H1
  clear H1
  obtain rfl:=Option.some.inj H
  go_enter Tryd.func10,Tryd.ntmps10
  go_wp2_with (first |((with_reducible refine jr (N:=2) rfl ?_);refine bE (N:=2) (cs:=#[.slice A0_0 l0_0.length c0_0]) (t:=31) ?_;intro gb206 hg w11 hbox hb;have BK206:=am (hbox);have GW206:=am ((Y0:w.heap.size≤gb206));have GE206:=am ((Y0:w.heap.size≤gb206));replace HB:=am (jb (bq) hb);clear hb hbox hg) |((with_reducible refine jr (N:=3) rfl ?_);refine bE (N:=3) (cs:=#[.slice A1_0 l1_0.length c1_0]) (t:=31) ?_;intro gb207 hg w12 hbox hb;have BK207:=am (hbox);have GW207:=am ((Y22:w.heap.size≤gb207));have GE207:=am ((Y22:w.heap.size≤gb207));have NB206_207:=am ((by rw [hg];exact Nat.ne_of_lt (jma (g:=gb206) (o:=.cells #[.slice A0_0 l0_0.length c0_0] 31 (0,0)) (kq BK206.out)):gb206≠gb207));have NB207_206:=am ((by rw [hg];exact Nat.ne_of_gt (jma (g:=gb206) (o:=.cells #[.slice A0_0 l0_0.length c0_0] 31 (0,0)) (kq BK206.out)):gb207≠gb206));replace BK206:=am (jc (g:=gb206) (o:=.cells #[.slice A0_0 l0_0.length c0_0] 31 (0,0)) (kq BK206.out) hb);replace HB:=am (jb (Y49) hb);clear hb hbox hg;have hnb13:=NB206_207.out;have hnc13:=NB207_206.out;have hcz14_0:=bc0 BK206.out;have hfz14_0:=ja BK206.out 0;have hcz15_0:=bc0 BK207.out;have hfz15_0:=ja BK207.out 0) |((with_reducible refine jl (f:=21) rfl ?_);refine gL (some 9) Tryd.func21 #[.slice A0_0 l0_0.length c0_0, .slice A1_0 l1_0.length c1_0] ?_;(with_reducible refine (jw.calls k _ _ l0_0 _ _ l1_0 false _ ?side1 ?side2 ?side3 ?side4 A3.out).mono ?_);(case side1=>exact cq (Kd.jD HR0_0.out HB.out));(case side2=>exact HC0_0.out);(case side3=>exact cq (Kd.jD HR1_0.out HB.out));(case side4=>exact HC1_0.out);rintro e w16 ⟨rfl,hb⟩;refine ⟨_,rfl,?_⟩;replace BK206:=am (jc (g:=gb206) (o:=.cells #[.slice A0_0 l0_0.length c0_0] 31 (0,0)) (kq BK206.out) hb);replace BK207:=am (jc (g:=gb207) (o:=.cells #[.slice A1_0 l1_0.length c1_0] 31 (0,0)) (kq BK207.out) hb);replace HB:=am (jb (Y23) hb);(try clear hb);(try clear hb2);(try clear hk);(try clear hi)))
  go_ret
  exact ⟨Y1,Y23⟩
def jCa.f (a0_0 : Int) (a0_1 : Int) (a0_2 : Int) (a1_0 : Int) (a1_1 : Int) (a1_2 : Int) : Option (Bool) := if a0_0 = a1_0 then (if a0_1 = a1_1 then (if a0_2 = a1_2 then (some true) else (some false)) else (some false)) else (some false)
set_option maxHeartbeats 8000000 in
set_option maxRecDepth 100000 in
theorem jCa.calls (a0_0 : Int) (a0_1 : Int) (a0_2 : Int) (a1_0 : Int) (a1_1 : Int) (a1_2 : Int) (r : Bool) (w : World) (h : jCa.f a0_0 a0_1 a0_2 a1_0 a1_1 a1_2 = some r) :
  Calls Tryd.prog 22 #[.agg #[.int .i64 a0_0, .int .i64 a0_1, .int .i64 a0_2], .agg #[.int .i64 a1_0, .int .i64 a1_1, .int .i64 a1_2]] w fun e w'=>e=.returned (.bool r)∧Below w.heap.size w w':=by
 have hu42:=Tryd.underlying42
 have HB:=am (Below.refl w.heap.size w)
 have H:(if a0_0=a1_0 then (if a0_1=a1_1 then (if a0_2=a1_2 then (some true) else (some false)) else (some false)) else (some false))=some r:=h
 clear h
 by_cases c3:a0_0=a1_0
 ·rw [if_pos c3] at H
  have c3b0:(a0_0 == a1_0)=true:=beq_iff_eq.mpr c3
  have c3b1:(a0_0 != a1_0)=false:=bne_eq_false_iff_eq.mpr c3
  clear c3
  by_cases c4:a0_1=a1_1
  ·rw [if_pos c4] at H
   have c4b0:(a0_1 == a1_1)=true:=beq_iff_eq.mpr c4
   have c4b1:(a0_1 != a1_1)=false:=bne_eq_false_iff_eq.mpr c4
   clear c4
   by_cases c5:a0_2=a1_2
   ·rw [if_pos c5] at H
    have c5b0:(a0_2 == a1_2)=true:=beq_iff_eq.mpr c5
    have c5b1:(a0_2 != a1_2)=false:=bne_eq_false_iff_eq.mpr c5
    clear c5
    obtain rfl:=Option.some.inj H
    go_enter Tryd.func22,Tryd.ntmps22
    go_wp2_with (first |((with_reducible refine jr (N:=2) rfl ?_);refine bE (N:=2) (cs:=#[.int .i64 a0_0, .int .i64 a0_1, .int .i64 a0_2]) (t:=42) ?_;intro gb209 hg w6 hbox hb;have BK209:=am (hbox);have GW209:=am ((Y0:w.heap.size≤gb209));have GE209:=am ((Y0:w.heap.size≤gb209));replace HB:=am (jb (bq) hb);clear hb hbox hg) |((with_reducible refine jr (N:=3) rfl ?_);refine bE (N:=3) (cs:=#[.int .i64 a1_0, .int .i64 a1_1, .int .i64 a1_2]) (t:=42) ?_;intro gb210 hg w7 hbox hb;have BK210:=am (hbox);have GW210:=am ((Y13:w.heap.size≤gb210));have GE210:=am ((Y13:w.heap.size≤gb210));have NB209_210:=am ((Y24:gb209≠gb210));have NB210_209:=am ((Y25:gb210≠gb209));replace BK209:=am (jc (g:=gb209) (o:=.cells #[.int .i64 a0_0, .int .i64 a0_1, .int .i64 a0_2] 42 (0,0)) (kq BK209.out) hb);replace HB:=am (jb (Y26) hb);clear hb hbox hg;have hnb8:=NB209_210.out;have hnc8:=NB210_209.out;have hcz9_0:=bc0 BK209.out;have hcz9_1:=bc1 BK209.out;have hcz9_2:=bc2 BK209.out;have hfz9_0:=ja BK209.out 0;have hfz9_1:=ja BK209.out 1;have hfz9_2:=ja BK209.out 2;have hcz10_0:=bc0 BK210.out;have hcz10_1:=bc1 BK210.out;have hcz10_2:=bc2 BK210.out;have hfz10_0:=ja BK210.out 0;have hfz10_1:=ja BK210.out 1;have hfz10_2:=ja BK210.out 2))
    go_ret
    exact ⟨Y1,Y27⟩
   ·rw [if_neg c5] at H
    have c5b0:(a0_2 == a1_2)=false:=beq_eq_false_iff_ne.mpr c5
    have c5b1:(a0_2 != a1_2)=true:=bne_iff_ne.mpr c5
    obtain rfl:=Option.some.inj H
    go_enter Tryd.func22,Tryd.ntmps22
    go_wp2_with (first |((with_reducible refine jr (N:=2) rfl ?_);refine bE (N:=2) (cs:=#[.int .i64 a0_0, .int .i64 a0_1, .int .i64 a0_2]) (t:=42) ?_;intro gb209 hg w11 hbox hb;have BK209:=am (hbox);have GW209:=am ((Y0:w.heap.size≤gb209));have GE209:=am ((Y0:w.heap.size≤gb209));replace HB:=am (jb (bq) hb);clear hb hbox hg) |((with_reducible refine jr (N:=3) rfl ?_);refine bE (N:=3) (cs:=#[.int .i64 a1_0, .int .i64 a1_1, .int .i64 a1_2]) (t:=42) ?_;intro gb210 hg w12 hbox hb;have BK210:=am (hbox);have GW210:=am ((Y13:w.heap.size≤gb210));have GE210:=am ((Y13:w.heap.size≤gb210));have NB209_210:=am ((Y24:gb209≠gb210));have NB210_209:=am ((Y25:gb210≠gb209));replace BK209:=am (jc (g:=gb209) (o:=.cells #[.int .i64 a0_0, .int .i64 a0_1, .int .i64 a0_2] 42 (0,0)) (kq BK209.out) hb);replace HB:=am (jb (Y26) hb);clear hb hbox hg;have hnb13:=NB209_210.out;have hnc13:=NB210_209.out;have hcz14_0:=bc0 BK209.out;have hcz14_1:=bc1 BK209.out;have hcz14_2:=bc2 BK209.out;have hfz14_0:=ja BK209.out 0;have hfz14_1:=ja BK209.out 1;have hfz14_2:=ja BK209.out 2;have hcz15_0:=bc0 BK210.out;have hcz15_1:=bc1 BK210.out;have hcz15_2:=bc2 BK210.out;have hfz15_0:=ja BK210.out 0;have hfz15_1:=ja BK210.out 1;have hfz15_2:=ja BK210.out 2))
    go_ret
    exact ⟨Y1,Y27⟩
  ·rw [if_neg c4] at H
   have c4b0:(a0_1 == a1_1)=false:=beq_eq_false_iff_ne.mpr c4
   have c4b1:(a0_1 != a1_1)=true:=bne_iff_ne.mpr c4
   obtain rfl:=Option.some.inj H
   go_enter Tryd.func22,Tryd.ntmps22
   go_wp2_with (first |((with_reducible refine jr (N:=2) rfl ?_);refine bE (N:=2) (cs:=#[.int .i64 a0_0, .int .i64 a0_1, .int .i64 a0_2]) (t:=42) ?_;intro gb209 hg w16 hbox hb;have BK209:=am (hbox);have GW209:=am ((Y0:w.heap.size≤gb209));have GE209:=am ((Y0:w.heap.size≤gb209));replace HB:=am (jb (bq) hb);clear hb hbox hg) |((with_reducible refine jr (N:=3) rfl ?_);refine bE (N:=3) (cs:=#[.int .i64 a1_0, .int .i64 a1_1, .int .i64 a1_2]) (t:=42) ?_;intro gb210 hg w17 hbox hb;have BK210:=am (hbox);have GW210:=am ((Y13:w.heap.size≤gb210));have GE210:=am ((Y13:w.heap.size≤gb210));have NB209_210:=am ((Y24:gb209≠gb210));have NB210_209:=am ((Y25:gb210≠gb209));replace BK209:=am (jc (g:=gb209) (o:=.cells #[.int .i64 a0_0, .int .i64 a0_1, .int .i64 a0_2] 42 (0,0)) (kq BK209.out) hb);replace HB:=am (jb (Y26) hb);clear hb hbox hg;have hnb18:=NB209_210.out;have hnc18:=NB210_209.out;have hcz19_0:=bc0 BK209.out;have hcz19_1:=bc1 BK209.out;have hcz19_2:=bc2 BK209.out;have hfz19_0:=ja BK209.out 0;have hfz19_1:=ja BK209.out 1;have hfz19_2:=ja BK209.out 2;have hcz20_0:=bc0 BK210.out;have hcz20_1:=bc1 BK210.out;have hcz20_2:=bc2 BK210.out;have hfz20_0:=ja BK210.out 0;have hfz20_1:=ja BK210.out 1;have hfz20_2:=ja BK210.out 2))
   go_ret
   exact ⟨Y1,Y27⟩
 ·rw [if_neg c3] at H
  have c3b0:(a0_0 == a1_0)=false:=beq_eq_false_iff_ne.mpr c3
  have c3b1:(a0_0 != a1_0)=true:=bne_iff_ne.mpr c3
  obtain rfl:=Option.some.inj H
  go_enter Tryd.func22,Tryd.ntmps22
  go_wp2_with (first |((with_reducible refine jr (N:=2) rfl ?_);refine bE (N:=2) (cs:=#[.int .i64 a0_0, .int .i64 a0_1, .int .i64 a0_2]) (t:=42) ?_;intro gb209 hg w21 hbox hb;have BK209:=am (hbox);have GW209:=am ((Y0:w.heap.size≤gb209));have GE209:=am ((Y0:w.heap.size≤gb209));replace HB:=am (jb (bq) hb);clear hb hbox hg) |((with_reducible refine jr (N:=3) rfl ?_);refine bE (N:=3) (cs:=#[.int .i64 a1_0, .int .i64 a1_1, .int .i64 a1_2]) (t:=42) ?_;intro gb210 hg w22 hbox hb;have BK210:=am (hbox);have GW210:=am ((Y13:w.heap.size≤gb210));have GE210:=am ((Y13:w.heap.size≤gb210));have NB209_210:=am ((Y24:gb209≠gb210));have NB210_209:=am ((Y25:gb210≠gb209));replace BK209:=am (jc (g:=gb209) (o:=.cells #[.int .i64 a0_0, .int .i64 a0_1, .int .i64 a0_2] 42 (0,0)) (kq BK209.out) hb);replace HB:=am (jb (Y26) hb);clear hb hbox hg;have hnb23:=NB209_210.out;have hnc23:=NB210_209.out;have hcz24_0:=bc0 BK209.out;have hcz24_1:=bc1 BK209.out;have hcz24_2:=bc2 BK209.out;have hfz24_0:=ja BK209.out 0;have hfz24_1:=ja BK209.out 1;have hfz24_2:=ja BK209.out 2;have hcz25_0:=bc0 BK210.out;have hcz25_1:=bc1 BK210.out;have hcz25_2:=bc2 BK210.out;have hfz25_0:=ja BK210.out 0;have hfz25_1:=ja BK210.out 1;have hfz25_2:=ja BK210.out 2))
  go_ret
  exact ⟨Y1,Y27⟩
def jq.l0 : Nat → List (S42) → List (S42) → Int → Option (Bool)
 | 0,_,_,_=>none
 | k+1,x0,x1,x5=>if x5<(x0.length:Int) then (if 0≤x5 then (if x5<(x1.length:Int) then ((jCa.f ((jy x0 x5).f0) ((jy x0 x5).f1) ((jy x0 x5).f2) ((jy x1 x5).f0) ((jy x1 x5).f1) ((jy x1 x5).f2)).bind fun t213=>(if t213=true then (jq.l0 k x0 x1 (wrap64 (x5+1))) else (some false))) else (none)) else (none)) else (some true)
def jq.f (k : Nat) (l0 : List (S42)) (l1 : List (S42)) : Option (Bool) := if (l0.length : Int) = (l1.length : Int) then (jq.l0 k l0 l1 0) else (some false)
def jq.T6 : Bool × List (List Nat × List Nat) := (true, [([], []), ([], []), ([0, 1], [0, 1]), ([2], [2]), ([], []), ([], []), ([4, 5], [4, 5]), ([6], [6]), ([3, 7], [3, 7]), ([8], [8])])
def jq.B6 : List Nat := [0, 0, 3, 7, 0, 0, 48, 112, 255, 511]
theorem jq.tab6 : rtab .any (opsOf Tryd.f11 6) = jq.T6 := by kernel_rfl
theorem jq.bits6 : waitsOk jq.T6.2 jq.B6 = true := by kernel_rfl
set_option maxHeartbeats 8000000 in
set_option maxRecDepth 100000 in
theorem jq.calls (k : Nat) (A0 : Option Addr) (c0 : Nat) (l0 : List (S42)) (A1 : Option Addr) (c1 : Nat) (l1 : List (S42)) (r : Bool) (w : World) (hr0 : Kd.C k42 w A0 l0.length l0) (hc0 : l0.length ≤ c0) (hr1 : Kd.C k42 w A1 l1.length l1) (hc1 : l1.length ≤ c1) (h : jq.f k l0 l1 = some r) :
  Calls Tryd.prog 11 #[.slice A0 l0.length c0, .slice A1 l1.length c1] w fun e w'=>e=.returned (.bool r)∧Below w.heap.size w w':=by
 have hu42:=Tryd.underlying42
 have HR0:=am hr0
 have HC0:=am hc0
 clear hr0 hc0
 have HR1:=am hr1
 have HC1:=am hc1
 clear hr1 hc1
 have HB:=am (Below.refl w.heap.size w)
 have H:(if (l0.length:Int)=(l1.length:Int) then (jq.l0 k l0 l1 0) else (some false))=some r:=h
 clear h
 by_cases c3:(l0.length:Int)=(l1.length:Int)
 ·rw [if_pos c3] at H
  have c3b0:((l0.length:Int) == (l1.length:Int))=true:=beq_iff_eq.mpr c3
  have c3b1:((l0.length:Int) != (l1.length:Int))=false:=bne_eq_false_iff_eq.mpr c3
  have c3b2:(l0.length == l1.length)=true:=by first | simpa using c3 |(simp at c3 ⊢;omega)
  clear c3
  have H':=am H
  clear H
  go_enter Tryd.func11,Tryd.ntmps11
  go_wp2
  go_loopg [5] k (fun kq v5 w'=>∃ (x5_1:Int),v5=.int .i64 x5_1∧jJ (jq.l0 kq l0 l1 x5_1=some r)∧jJ (kq≤k)∧jJ (Below w.heap.size w w'))
  case atStart=>exact ⟨(0),(sq),H',⟨Nat.le_refl _⟩,⟨bq⟩⟩
  case round =>
   clear H'
   try clear c1
   try clear p2
   try clear c3
   try clear c3b0
   try clear c3b1
   try clear c3b2
   obtain ⟨x5_1,rfl,HA,HK1,HB⟩:=hrel
   cases gk with
   | zero=>exact absurd HA.out (by simp [jq.l0])
   | succ k1 =>
    have H:=HA.out
    clear HA
    simp only [jq.l0] at H
    by_cases c4:x5_1<(l0.length:Int)
    ·rw [if_pos c4] at H
     have c4b0:decide (x5_1<(l0.length:Int))=true:=dzT c4
     clear c4
     by_cases c5:0≤x5_1
     ·rw [if_pos c5] at H
      have c5b0:decide (0≤x5_1)=true:=dzT c5
      clear c5
      by_cases c6:x5_1<(l1.length:Int)
      ·rw [if_pos c6] at H
       have c6b0:decide (x5_1<(l1.length:Int))=true:=dzT c6
       clear c6
       replace H:=bzS H
       obtain ⟨t213,A70,H⟩:=H
       replace H:(if t213=true then (jq.l0 k1 l0 l1 (wrap64 (x5_1+1))) else (some false))=some r:=H
       have A7:=am A70
       clear A70
       by_cases c8:t213=true
       ·subst c8
        have H1:(jq.l0 k1 l0 l1 (wrap64 (x5_1+1)))=some r:=by rw [if_pos rfl] at H;exact H
        clear H
        have H:=H1
        clear H1
        have H':=am H
        clear H
        try go_wp2
        replace HB:=am (jh HB.out)
        have p211:0≤(x5_1:Int):=ozD (uq)
        have q211:x5_1<(l0.length:Int):=ozD (uq)
        obtain ⟨ad211,e211,hx211_0,hx211_1,hx211_2⟩:=at_T42 HR0.out x5_1 p211 q211
        have hw211_2:=hx211_2
        have hw211_1:=hx211_1
        have hw211_0:=hx211_0
        cases e211
        replace hx211_0:=cb HB.out hx211_0
        replace hx211_1:=cb HB.out hx211_1
        replace hx211_2:=cb HB.out hx211_2
        replace p211:=ezT p211
        replace q211:=ezT q211
        have p212:0≤(x5_1:Int):=ozD (uq)
        have q212:x5_1<(l1.length:Int):=ozD (uq)
        obtain ⟨ad212,e212,hx212_0,hx212_1,hx212_2⟩:=at_T42 HR1.out x5_1 p212 q212
        have hw212_2:=hx212_2
        have hw212_1:=hx212_1
        have hw212_0:=hx212_0
        cases e212
        replace hx212_0:=cb HB.out hx212_0
        replace hx212_1:=cb HB.out hx212_1
        replace hx212_2:=cb HB.out hx212_2
        replace p212:=ezT p212
        replace q212:=ezT q212
        refine start_ (n:=10) (S:=fun w'=>w'.cell? (ad211.add ((x5_1).toNat * 3))=some (.int .i64 ((jy l0 x5_1).f0))∧w'.cell? ⟨(ad211.add ((x5_1).toNat * 3)).block,(ad211.add ((x5_1).toNat * 3)).off+1,none⟩=some (.int .i64 ((jy l0 x5_1).f1))∧w'.cell? ⟨(ad211.add ((x5_1).toNat * 3)).block,(ad211.add ((x5_1).toNat * 3)).off+2,none⟩=some (.int .i64 ((jy l0 x5_1).f2))∧w'.cell? (ad212.add ((x5_1).toNat * 3))=some (.int .i64 ((jy l1 x5_1).f0))∧w'.cell? ⟨(ad212.add ((x5_1).toNat * 3)).block,(ad212.add ((x5_1).toNat * 3)).off+1,none⟩=some (.int .i64 ((jy l1 x5_1).f1))∧w'.cell? ⟨(ad212.add ((x5_1).toNat * 3)).block,(ad212.add ((x5_1).toNat * 3)).off+2,none⟩=some (.int .i64 ((jy l1 x5_1).f2))) (ds:=[]) #[false,false,false,false,false,false,false,false,false,false] (by kernel_rfl) rfl rfl ⟨((HB.out.cell (World.block_lt_of_cell? w _ hw211_0)).trans hw211_0),((HB.out.cell (World.block_lt_of_cell? w _ hw211_1)).trans hw211_1),((HB.out.cell (World.block_lt_of_cell? w _ hw211_2)).trans hw211_2),((HB.out.cell (World.block_lt_of_cell? w _ hw212_0)).trans hw212_0),((HB.out.cell (World.block_lt_of_cell? w _ hw212_1)).trans hw212_1),((HB.out.cell (World.block_lt_of_cell? w _ hw212_2)).trans hw212_2)⟩ (fun hHeld=>?_);refine with_tabW jq.tab6 jq.bits6 (fun HT_ HW_=>?_)
        generalize wr.drew=w9 at HB hx211_0 hx211_1 hx211_2 hx212_0 hx212_1 hx212_2 hHeld ⊢
        refine pq (i:=0) (N:=some 17) #[true,false,false,false,false,false,false,false,false,false] ?_
        refine pq (i:=1) (N:=some 18) #[true,true,false,false,false,false,false,false,false,false] ?_
        refine pq (i:=2) (N:=some 19) #[true,true,true,false,false,false,false,false,false,false] ?_
        refine pq (i:=4) (N:=some 21) #[true,true,true,false,true,false,false,false,false,false] ?_
        refine pq (i:=5) (N:=some 22) #[true,true,true,false,true,true,false,false,false,false] ?_
        refine pq (i:=6) (N:=some 23) #[true,true,true,false,true,true,true,false,false,false] ?_
        refine take_ (i:=3) (N:=some 20) (v:=?_) (a':=?_) #[true,true,true,true,true,true,true,false,false,false] rfl rfl (jGa HT_.out HW_.out (by kernel_rfl)) (fun _ _ _ h=>h) (Or.inl ⟨by rfl,?_⟩) hHeld ?_ ?_
        rotate_left
        ·rintro w' ⟨s0,s1,s2,s3,s4,s5⟩
         go_simp
         with_reducible rfl
        rotate_left
        ·exact sa
        refine take_ (i:=7) (N:=some 24) (v:=?_) (a':=?_) #[true,true,true,true,true,true,true,true,false,false] rfl rfl (jGa HT_.out HW_.out (by kernel_rfl)) (fun _ _ _ h=>h) (Or.inl ⟨by rfl,?_⟩) hHeld ?_ ?_
        rotate_left
        ·rintro w' ⟨s0,s1,s2,s3,s4,s5⟩
         go_simp
         with_reducible rfl
        rotate_left
        ·exact sa
        refine one_ (i:=8) (N:=some 25) #[true,true,true,true,true,true,true,true,true,false] rfl rfl (one_of HT_.out (by kernel_rfl)) (by decide) (fun K hK=>?_)
        refine goes_ Tryd.func22 (by kernel_rfl) rfl #[.agg #[.int .i64 ((jy l0 x5_1).f0), .int .i64 ((jy l0 x5_1).f1), .int .i64 ((jy l0 x5_1).f2)], .agg #[.int .i64 ((jy l1 x5_1).f0), .int .i64 ((jy l1 x5_1).f1), .int .i64 ((jy l1 x5_1).f2)]] (by rfl) rfl rfl (aq) ?_
        with_reducible refine (jCa.calls ((jy l0 x5_1).f0) ((jy l0 x5_1).f1) ((jy l0 x5_1).f2) ((jy l1 x5_1).f0) ((jy l1 x5_1).f1) ((jy l1 x5_1).f2) true _ A7.out).mono ?_
        rintro e w10 ⟨rfl,hb⟩
        refine ⟨_,rfl,?_⟩
        replace HB:=am (jb (bq) hb)
        (try clear hb)
        (try clear hb2)
        (try clear hk)
        (try clear hi)
        refine hK.out _ _ ⟨((HB.out.cell (World.block_lt_of_cell? w _ hw211_0)).trans hw211_0),((HB.out.cell (World.block_lt_of_cell? w _ hw211_1)).trans hw211_1),((HB.out.cell (World.block_lt_of_cell? w _ hw211_2)).trans hw211_2),((HB.out.cell (World.block_lt_of_cell? w _ hw212_0)).trans hw212_0),((HB.out.cell (World.block_lt_of_cell? w _ hw212_1)).trans hw212_1),((HB.out.cell (World.block_lt_of_cell? w _ hw212_2)).trans hw212_2)⟩ (fun hHeld=>?_)
        clear hK K
        refine norm_ (a':=?_) ?_ ?_
        rotate_left
        ·show Act.put _ (some 25) _=_
         simp only [Act.put,List.setIfInBounds_toArray,List.set_cons_zero,List.set_cons_succ,i64_w,i32_w]
         rfl
        refine pq (i:=9) (N:=some 26) #[true,true,true,true,true,true,true,true,true,true] ?_
        refine done_ (done_of HT_.out (by kernel_rfl)) ?_
        try go_wp2
        go_roundg k1
        case measure=>have:=HK1.out;omega
        case rel=>exact ⟨(wrap64 (x5_1+1)),(sq),H',⟨by have:=HK1.out;omega⟩,⟨bq⟩⟩
       ·replace c8:=Bool.eq_false_iff.mpr c8
        subst c8
        have H1:(some false)=some r:=by rw [if_neg (show ¬ (false=true) by decide)] at H;exact H
        clear H
        have H:=H1
        clear H1
        obtain rfl:=Option.some.inj H
        try go_wp2
        replace HB:=am (jh HB.out)
        have p211:0≤(x5_1:Int):=ozD (uq)
        have q211:x5_1<(l0.length:Int):=ozD (uq)
        obtain ⟨ad211,e211,hx211_0,hx211_1,hx211_2⟩:=at_T42 HR0.out x5_1 p211 q211
        have hw211_2:=hx211_2
        have hw211_1:=hx211_1
        have hw211_0:=hx211_0
        cases e211
        replace hx211_0:=cb HB.out hx211_0
        replace hx211_1:=cb HB.out hx211_1
        replace hx211_2:=cb HB.out hx211_2
        replace p211:=ezT p211
        replace q211:=ezT q211
        have p212:0≤(x5_1:Int):=ozD (uq)
        have q212:x5_1<(l1.length:Int):=ozD (uq)
        obtain ⟨ad212,e212,hx212_0,hx212_1,hx212_2⟩:=at_T42 HR1.out x5_1 p212 q212
        have hw212_2:=hx212_2
        have hw212_1:=hx212_1
        have hw212_0:=hx212_0
        cases e212
        replace hx212_0:=cb HB.out hx212_0
        replace hx212_1:=cb HB.out hx212_1
        replace hx212_2:=cb HB.out hx212_2
        replace p212:=ezT p212
        replace q212:=ezT q212
        refine start_ (n:=10) (S:=fun w'=>w'.cell? (ad211.add ((x5_1).toNat * 3))=some (.int .i64 ((jy l0 x5_1).f0))∧w'.cell? ⟨(ad211.add ((x5_1).toNat * 3)).block,(ad211.add ((x5_1).toNat * 3)).off+1,none⟩=some (.int .i64 ((jy l0 x5_1).f1))∧w'.cell? ⟨(ad211.add ((x5_1).toNat * 3)).block,(ad211.add ((x5_1).toNat * 3)).off+2,none⟩=some (.int .i64 ((jy l0 x5_1).f2))∧w'.cell? (ad212.add ((x5_1).toNat * 3))=some (.int .i64 ((jy l1 x5_1).f0))∧w'.cell? ⟨(ad212.add ((x5_1).toNat * 3)).block,(ad212.add ((x5_1).toNat * 3)).off+1,none⟩=some (.int .i64 ((jy l1 x5_1).f1))∧w'.cell? ⟨(ad212.add ((x5_1).toNat * 3)).block,(ad212.add ((x5_1).toNat * 3)).off+2,none⟩=some (.int .i64 ((jy l1 x5_1).f2))) (ds:=[]) #[false,false,false,false,false,false,false,false,false,false] (by kernel_rfl) rfl rfl ⟨((HB.out.cell (World.block_lt_of_cell? w _ hw211_0)).trans hw211_0),((HB.out.cell (World.block_lt_of_cell? w _ hw211_1)).trans hw211_1),((HB.out.cell (World.block_lt_of_cell? w _ hw211_2)).trans hw211_2),((HB.out.cell (World.block_lt_of_cell? w _ hw212_0)).trans hw212_0),((HB.out.cell (World.block_lt_of_cell? w _ hw212_1)).trans hw212_1),((HB.out.cell (World.block_lt_of_cell? w _ hw212_2)).trans hw212_2)⟩ (fun hHeld=>?_);refine with_tabW jq.tab6 jq.bits6 (fun HT_ HW_=>?_)
        generalize wr.drew=w11 at HB hx211_0 hx211_1 hx211_2 hx212_0 hx212_1 hx212_2 hHeld ⊢
        refine pq (i:=0) (N:=some 17) #[true,false,false,false,false,false,false,false,false,false] ?_
        refine pq (i:=1) (N:=some 18) #[true,true,false,false,false,false,false,false,false,false] ?_
        refine pq (i:=2) (N:=some 19) #[true,true,true,false,false,false,false,false,false,false] ?_
        refine pq (i:=4) (N:=some 21) #[true,true,true,false,true,false,false,false,false,false] ?_
        refine pq (i:=5) (N:=some 22) #[true,true,true,false,true,true,false,false,false,false] ?_
        refine pq (i:=6) (N:=some 23) #[true,true,true,false,true,true,true,false,false,false] ?_
        refine take_ (i:=3) (N:=some 20) (v:=?_) (a':=?_) #[true,true,true,true,true,true,true,false,false,false] rfl rfl (jGa HT_.out HW_.out (by kernel_rfl)) (fun _ _ _ h=>h) (Or.inl ⟨by rfl,?_⟩) hHeld ?_ ?_
        rotate_left
        ·rintro w' ⟨s0,s1,s2,s3,s4,s5⟩
         go_simp
         with_reducible rfl
        rotate_left
        ·exact sa
        refine take_ (i:=7) (N:=some 24) (v:=?_) (a':=?_) #[true,true,true,true,true,true,true,true,false,false] rfl rfl (jGa HT_.out HW_.out (by kernel_rfl)) (fun _ _ _ h=>h) (Or.inl ⟨by rfl,?_⟩) hHeld ?_ ?_
        rotate_left
        ·rintro w' ⟨s0,s1,s2,s3,s4,s5⟩
         go_simp
         with_reducible rfl
        rotate_left
        ·exact sa
        refine one_ (i:=8) (N:=some 25) #[true,true,true,true,true,true,true,true,true,false] rfl rfl (one_of HT_.out (by kernel_rfl)) (by decide) (fun K hK=>?_)
        refine goes_ Tryd.func22 (by kernel_rfl) rfl #[.agg #[.int .i64 ((jy l0 x5_1).f0), .int .i64 ((jy l0 x5_1).f1), .int .i64 ((jy l0 x5_1).f2)], .agg #[.int .i64 ((jy l1 x5_1).f0), .int .i64 ((jy l1 x5_1).f1), .int .i64 ((jy l1 x5_1).f2)]] (by rfl) rfl rfl (aq) ?_
        with_reducible refine (jCa.calls ((jy l0 x5_1).f0) ((jy l0 x5_1).f1) ((jy l0 x5_1).f2) ((jy l1 x5_1).f0) ((jy l1 x5_1).f1) ((jy l1 x5_1).f2) false _ A7.out).mono ?_
        rintro e w12 ⟨rfl,hb⟩
        refine ⟨_,rfl,?_⟩
        replace HB:=am (jb (bq) hb)
        (try clear hb)
        (try clear hb2)
        (try clear hk)
        (try clear hi)
        refine hK.out _ _ ⟨((HB.out.cell (World.block_lt_of_cell? w _ hw211_0)).trans hw211_0),((HB.out.cell (World.block_lt_of_cell? w _ hw211_1)).trans hw211_1),((HB.out.cell (World.block_lt_of_cell? w _ hw211_2)).trans hw211_2),((HB.out.cell (World.block_lt_of_cell? w _ hw212_0)).trans hw212_0),((HB.out.cell (World.block_lt_of_cell? w _ hw212_1)).trans hw212_1),((HB.out.cell (World.block_lt_of_cell? w _ hw212_2)).trans hw212_2)⟩ (fun hHeld=>?_)
        clear hK K
        refine norm_ (a':=?_) ?_ ?_
        rotate_left
        ·show Act.put _ (some 25) _=_
         simp only [Act.put,List.setIfInBounds_toArray,List.set_cons_zero,List.set_cons_succ,i64_w,i32_w]
         rfl
        refine pq (i:=9) (N:=some 26) #[true,true,true,true,true,true,true,true,true,true] ?_
        refine done_ (done_of HT_.out (by kernel_rfl)) ?_
        try go_wp2
        go_ret
        exact ⟨Y1,bq⟩
      ·rw [if_neg c6] at H
       exact absurd H (by simp)
     ·rw [if_neg c5] at H
      exact absurd H (by simp)
    ·rw [if_neg c4] at H
     have c4b0:decide (x5_1<(l0.length:Int))=false:=dzF c4
     clear c4
     obtain rfl:=Option.some.inj H
     go_wp2
     go_ret
     exact ⟨Y1,bq⟩
 ·rw [if_neg c3] at H
  have c3b0:((l0.length:Int) == (l1.length:Int))=false:=beq_eq_false_iff_ne.mpr c3
  have c3b1:((l0.length:Int) != (l1.length:Int))=true:=bne_iff_ne.mpr c3
  have c3b2:(l0.length == l1.length)=false:=by first | simpa using c3 |(simp at c3 ⊢;omega)
  obtain rfl:=Option.some.inj H
  go_enter Tryd.func11,Tryd.ntmps11
  go_wp2
  go_ret
  exact ⟨Y1,bq⟩
def jla.f (k : Nat) (l0_0 : List (S59)) (l1 : List (S44)) : Option (Bool) := (jsa.f k l0_0 1048576).bind fun t215 => (if t215 < 0 then (some true) else ((jqa.f l1 t215).bind fun t216 => (if t216 < 0 then (some true) else ((jH.f k l0_0).bind fun t217 => ((jm.f k l1).bind fun t220 => ((jfa.f k t217 t220).bind fun t223 => ((jH.f k l0_0).bind fun t224 => ((jm.f k l1).bind fun t228 => ((jV.f k t224 t228).bind fun t231 => (if t231.toList = t223.toList then ((jH.f k l0_0).bind fun t232 => ((jda.f k t224 t232).bind fun t235 => (if t235 = true then ((jm.f k l1).bind fun t236 => ((jq.f k t228 t236).bind fun t239 => (if t239 = true then (some true) else (some false)))) else (some false)))) else (some false)))))))))))
set_option maxHeartbeats 8000000 in
set_option maxRecDepth 100000 in
theorem jla.calls (k : Nat) (A0_0 : Option Addr) (c0_0 : Nat) (l0_0 : List (S59)) (A1 : Option Addr) (c1 : Nat) (l1 : List (S44)) (r : Bool) (w : World) (hr0_0 : Kd.C k59 w A0_0 l0_0.length l0_0) (hc0_0 : l0_0.length ≤ c0_0) (hr1 : Kd.C k44 w A1 l1.length l1) (hc1 : l1.length ≤ c1) (hT : r = true) (h : jla.f k l0_0 l1 = some r) :
  Calls Tryd.prog 3 #[.agg #[.slice A0_0 l0_0.length c0_0], .slice A1 l1.length c1] w fun e w'=>e=.returned (.bool r)∧Below w.heap.size w w':=by
 have hu24:=Tryd.underlying24
 have hu31:=Tryd.underlying31
 have HR0_0:=am hr0_0
 have HC0_0:=am hc0_0
 clear hr0_0 hc0_0
 have HR1:=am hr1
 have HC1:=am hc1
 clear hr1 hc1
 have HB:=am (Below.refl w.heap.size w)
 have H:((jsa.f k l0_0 1048576).bind fun t215=>(if t215<0 then (some true) else ((jqa.f l1 t215).bind fun t216=>(if t216<0 then (some true) else ((jH.f k l0_0).bind fun t217=>((jm.f k l1).bind fun t220=>((jfa.f k t217 t220).bind fun t223=>((jH.f k l0_0).bind fun t224=>((jm.f k l1).bind fun t228=>((jV.f k t224 t228).bind fun t231=>(if t231.toList=t223.toList then ((jH.f k l0_0).bind fun t232=>((jda.f k t224 t232).bind fun t235=>(if t235=true then ((jm.f k l1).bind fun t236=>((jq.f k t228 t236).bind fun t239=>(if t239=true then (some true) else (some false)))) else (some false)))) else (some false))))))))))))=some r:=h
 clear h
 replace H:=bzS H
 obtain ⟨t215,A30,H⟩:=H
 replace H:(if t215<0 then (some true) else ((jqa.f l1 t215).bind fun t216=>(if t216<0 then (some true) else ((jH.f k l0_0).bind fun t217=>((jm.f k l1).bind fun t220=>((jfa.f k t217 t220).bind fun t223=>((jH.f k l0_0).bind fun t224=>((jm.f k l1).bind fun t228=>((jV.f k t224 t228).bind fun t231=>(if t231.toList=t223.toList then ((jH.f k l0_0).bind fun t232=>((jda.f k t224 t232).bind fun t235=>(if t235=true then ((jm.f k l1).bind fun t236=>((jq.f k t228 t236).bind fun t239=>(if t239=true then (some true) else (some false)))) else (some false)))) else (some false)))))))))))=some r:=H
 have A3:=am A30
 clear A30
 by_cases c4:t215<0
 ·rw [if_pos c4] at H
  have c4b0:decide (t215<0)=true:=dzT c4
  clear c4
  obtain rfl:=Option.some.inj H
  go_enter Tryd.func3,Tryd.ntmps3
  go_wp2_with (first |((with_reducible refine jr (N:=2) rfl ?_);refine bE (N:=2) (cs:=#[.slice A0_0 l0_0.length c0_0]) (t:=24) ?_;intro gb214 hg w5 hbox hb;have BK214:=am (hbox);have GW214:=am ((Y0:w.heap.size≤gb214));have GE214:=am ((Y0:w.heap.size≤gb214));replace HB:=am (jb (bq) hb);clear hb hbox hg;have hcz6_0:=bc0 BK214.out;have hfz6_0:=ja BK214.out 0) |((with_reducible refine jl (f:=4) rfl ?_);refine gL (some 12) Tryd.func4 #[.agg #[.slice A0_0 l0_0.length c0_0], .int .i64 1048576] ?_;(with_reducible refine (jsa.calls k _ _ l0_0 1048576 t215 _ ?side1 ?side2 A3.out).mono ?_);(case side1=>exact cq (Kd.jD HR0_0.out HB.out));(case side2=>exact HC0_0.out);rintro e w7 ⟨rfl,hb⟩;refine ⟨_,rfl,?_⟩;replace BK214:=am (jc (g:=gb214) (o:=.cells #[.slice A0_0 l0_0.length c0_0] 24 (0,0)) (kq BK214.out) hb);replace HB:=am (jb (Y5) hb);(try clear hb);(try clear hb2);(try clear hk);(try clear hi)))
  go_ret
  exact ⟨Y1,Y5⟩
 ·rw [if_neg c4] at H
  have c4b0:decide (t215<0)=false:=dzF c4
  clear c4
  replace H:=bzS H
  obtain ⟨t216,A80,H⟩:=H
  replace H:(if t216<0 then (some true) else ((jH.f k l0_0).bind fun t217=>((jm.f k l1).bind fun t220=>((jfa.f k t217 t220).bind fun t223=>((jH.f k l0_0).bind fun t224=>((jm.f k l1).bind fun t228=>((jV.f k t224 t228).bind fun t231=>(if t231.toList=t223.toList then ((jH.f k l0_0).bind fun t232=>((jda.f k t224 t232).bind fun t235=>(if t235=true then ((jm.f k l1).bind fun t236=>((jq.f k t228 t236).bind fun t239=>(if t239=true then (some true) else (some false)))) else (some false)))) else (some false)))))))))=some r:=H
  have A8:=am A80
  clear A80
  by_cases c9:t216<0
  ·rw [if_pos c9] at H
   have c9b0:decide (t216<0)=true:=dzT c9
   clear c9
   obtain rfl:=Option.some.inj H
   go_enter Tryd.func3,Tryd.ntmps3
   go_wp2_with (first |((with_reducible refine jr (N:=2) rfl ?_);refine bE (N:=2) (cs:=#[.slice A0_0 l0_0.length c0_0]) (t:=24) ?_;intro gb214 hg w10 hbox hb;have BK214:=am (hbox);have GW214:=am ((Y0:w.heap.size≤gb214));have GE214:=am ((Y0:w.heap.size≤gb214));replace HB:=am (jb (bq) hb);clear hb hbox hg;have hcz11_0:=bc0 BK214.out;have hfz11_0:=ja BK214.out 0) |((with_reducible refine jl (f:=4) rfl ?_);refine gL (some 12) Tryd.func4 #[.agg #[.slice A0_0 l0_0.length c0_0], .int .i64 1048576] ?_;(with_reducible refine (jsa.calls k _ _ l0_0 1048576 t215 _ ?side1 ?side2 A3.out).mono ?_);(case side1=>exact cq (Kd.jD HR0_0.out HB.out));(case side2=>exact HC0_0.out);rintro e w12 ⟨rfl,hb⟩;refine ⟨_,rfl,?_⟩;replace BK214:=am (jc (g:=gb214) (o:=.cells #[.slice A0_0 l0_0.length c0_0] 24 (0,0)) (kq BK214.out) hb);replace HB:=am (jb (Y5) hb);(try clear hb);(try clear hb2);(try clear hk);(try clear hi)) |((with_reducible refine jl (f:=5) rfl ?_);refine gL (some 17) Tryd.func5 #[.slice A1 l1.length c1, .int .i64 t215] ?_;(with_reducible refine (jqa.calls _ _ l1 t215 t216 _ ?side1 ?side2 A8.out).mono ?_);(case side1=>exact cq (Kd.jD HR1.out HB.out));(case side2=>exact HC1.out);rintro e w' ⟨rfl,⟨nd,rfl⟩⟩;refine ⟨_,rfl,?_⟩))
   go_ret
   exact ⟨Y1,Y5⟩
  ·rw [if_neg c9] at H
   have c9b0:decide (t216<0)=false:=dzF c9
   clear c9
   replace H:=bzS H
   obtain ⟨t217,A130,H⟩:=H
   replace H:((jm.f k l1).bind fun t220=>((jfa.f k t217 t220).bind fun t223=>((jH.f k l0_0).bind fun t224=>((jm.f k l1).bind fun t228=>((jV.f k t224 t228).bind fun t231=>(if t231.toList=t223.toList then ((jH.f k l0_0).bind fun t232=>((jda.f k t224 t232).bind fun t235=>(if t235=true then ((jm.f k l1).bind fun t236=>((jq.f k t228 t236).bind fun t239=>(if t239=true then (some true) else (some false)))) else (some false)))) else (some false)))))))=some r:=H
   have A13:=am A130
   clear A130
   replace H:=bzS H
   obtain ⟨t220,A140,H⟩:=H
   replace H:((jfa.f k t217 t220).bind fun t223=>((jH.f k l0_0).bind fun t224=>((jm.f k l1).bind fun t228=>((jV.f k t224 t228).bind fun t231=>(if t231.toList=t223.toList then ((jH.f k l0_0).bind fun t232=>((jda.f k t224 t232).bind fun t235=>(if t235=true then ((jm.f k l1).bind fun t236=>((jq.f k t228 t236).bind fun t239=>(if t239=true then (some true) else (some false)))) else (some false)))) else (some false))))))=some r:=H
   have A14:=am A140
   clear A140
   replace H:=bzS H
   obtain ⟨t223,A150,H⟩:=H
   replace H:((jH.f k l0_0).bind fun t224=>((jm.f k l1).bind fun t228=>((jV.f k t224 t228).bind fun t231=>(if t231.toList=t223.toList then ((jH.f k l0_0).bind fun t232=>((jda.f k t224 t232).bind fun t235=>(if t235=true then ((jm.f k l1).bind fun t236=>((jq.f k t228 t236).bind fun t239=>(if t239=true then (some true) else (some false)))) else (some false)))) else (some false)))))=some r:=H
   have A15:=am A150
   clear A150
   replace H:=bzS H
   obtain ⟨t224,A160,H⟩:=H
   replace H:((jm.f k l1).bind fun t228=>((jV.f k t224 t228).bind fun t231=>(if t231.toList=t223.toList then ((jH.f k l0_0).bind fun t232=>((jda.f k t224 t232).bind fun t235=>(if t235=true then ((jm.f k l1).bind fun t236=>((jq.f k t228 t236).bind fun t239=>(if t239=true then (some true) else (some false)))) else (some false)))) else (some false))))=some r:=H
   have A16:=am A160
   clear A160
   replace H:=bzS H
   obtain ⟨t228,A170,H⟩:=H
   replace H:((jV.f k t224 t228).bind fun t231=>(if t231.toList=t223.toList then ((jH.f k l0_0).bind fun t232=>((jda.f k t224 t232).bind fun t235=>(if t235=true then ((jm.f k l1).bind fun t236=>((jq.f k t228 t236).bind fun t239=>(if t239=true then (some true) else (some false)))) else (some false)))) else (some false)))=some r:=H
   have A17:=am A170
   clear A170
   replace H:=bzS H
   obtain ⟨t231,A180,H⟩:=H
   replace H:(if t231.toList=t223.toList then ((jH.f k l0_0).bind fun t232=>((jda.f k t224 t232).bind fun t235=>(if t235=true then ((jm.f k l1).bind fun t236=>((jq.f k t228 t236).bind fun t239=>(if t239=true then (some true) else (some false)))) else (some false)))) else (some false))=some r:=H
   have A18:=am A180
   clear A180
   by_cases c19:t231.toList=t223.toList
   ·rw [if_pos c19] at H
    have c19b0:(t231.toList == t223.toList)=true:=beq_iff_eq.mpr c19
    have c19b1:(t231.toList != t223.toList)=false:=bne_eq_false_iff_eq.mpr c19
    clear c19
    replace H:=bzS H
    obtain ⟨t232,A200,H⟩:=H
    replace H:((jda.f k t224 t232).bind fun t235=>(if t235=true then ((jm.f k l1).bind fun t236=>((jq.f k t228 t236).bind fun t239=>(if t239=true then (some true) else (some false)))) else (some false)))=some r:=H
    have A20:=am A200
    clear A200
    replace H:=bzS H
    obtain ⟨t235,A210,H⟩:=H
    replace H:(if t235=true then ((jm.f k l1).bind fun t236=>((jq.f k t228 t236).bind fun t239=>(if t239=true then (some true) else (some false)))) else (some false))=some r:=H
    have A21:=am A210
    clear A210
    by_cases c22:t235=true
    ·subst c22
     have H1:((jm.f k l1).bind fun t236=>((jq.f k t228 t236).bind fun t239=>(if t239=true then (some true) else (some false))))=some r:=by rw [if_pos rfl] at H;exact H
     clear H
     have H:=H1
     clear H1
     replace H:=bzS H
     obtain ⟨t236,A230,H⟩:=H
     replace H:((jq.f k t228 t236).bind fun t239=>(if t239=true then (some true) else (some false)))=some r:=H
     have A23:=am A230
     clear A230
     replace H:=bzS H
     obtain ⟨t239,A240,H⟩:=H
     replace H:(if t239=true then (some true) else (some false))=some r:=H
     have A24:=am A240
     clear A240
     by_cases c25:t239=true
     ·subst c25
      have H1:(some true)=some r:=by rw [if_pos rfl] at H;exact H
      clear H
      have H:=H1
      clear H1
      obtain rfl:=Option.some.inj H
      go_enter Tryd.func3,Tryd.ntmps3
      try go_wp2_with (first |((with_reducible refine jr (N:=2) rfl ?_);refine bE (N:=2) (cs:=#[.slice A0_0 l0_0.length c0_0]) (t:=24) ?_;intro gb214 hg w26 hbox hb;have BK214:=am (hbox);have GW214:=am ((Y0:w.heap.size≤gb214));have GE214:=am ((Y0:w.heap.size≤gb214));replace HB:=am (jb (bq) hb);clear hb hbox hg;have hcz27_0:=bc0 BK214.out;have hfz27_0:=ja BK214.out 0) |((with_reducible refine jl (f:=4) rfl ?_);refine gL (some 12) Tryd.func4 #[.agg #[.slice A0_0 l0_0.length c0_0], .int .i64 1048576] ?_;(with_reducible refine (jsa.calls k _ _ l0_0 1048576 t215 _ ?side1 ?side2 A3.out).mono ?_);(case side1=>exact cq (Kd.jD HR0_0.out HB.out));(case side2=>exact HC0_0.out);rintro e w28 ⟨rfl,hb⟩;refine ⟨_,rfl,?_⟩;replace BK214:=am (jc (g:=gb214) (o:=.cells #[.slice A0_0 l0_0.length c0_0] 24 (0,0)) (kq BK214.out) hb);replace HB:=am (jb (Y5) hb);(try clear hb);(try clear hb2);(try clear hk);(try clear hi)) |((with_reducible refine jl (f:=5) rfl ?_);refine gL (some 17) Tryd.func5 #[.slice A1 l1.length c1, .int .i64 t215] ?_;(with_reducible refine (jqa.calls _ _ l1 t215 t216 _ ?side1 ?side2 A8.out).mono ?_);(case side1=>exact cq (Kd.jD HR1.out HB.out));(case side2=>exact HC1.out);rintro e w' ⟨rfl,⟨nd,rfl⟩⟩;refine ⟨_,rfl,?_⟩;(try (rw [drewN_self w28];generalize hq_:World.drewN w28 _=w28;have n0_:jJ (w28.heap[gb214]?=some (.cells #[.slice A0_0 l0_0.length c0_0] 24 (0,0))):=⟨by rw [← hq_];exact (kq BK214.out)⟩;have n1_:jJ (Below w.heap.size w w28):=⟨by rw [← hq_];exact (Y5)⟩;clear BK214 HB hq_;have BK214:=n0_;have HB:=n1_;clear n0_ n1_));have hcz29_0:=bc0 BK214.out;have hfz29_0:=ja BK214.out 0) |((with_reducible refine jl (f:=7) rfl ?_);refine gL (some 21) Tryd.func7 #[.agg #[.slice A0_0 l0_0.length c0_0]] ?_;(with_reducible refine (jH.calls k _ _ l0_0 t217 _ ?side1 ?side2 A13.out).mono ?_);(case side1=>exact cq (Kd.jD HR0_0.out HB.out));(case side2=>exact HC0_0.out);rintro e w30 ⟨v218,rfl,ho0,hb⟩;refine ⟨_,rfl,?_⟩;have HO219:=am (Kd.jRa ho0 (jP (Y5)));replace BK214:=am (jc (g:=gb214) (o:=.cells #[.slice A0_0 l0_0.length c0_0] 24 (0,0)) (kq BK214.out) hb);replace HB:=am (jb (Y5) hb);(try clear hb);(try clear hb2);(try clear hk);(try clear hi);(try clear ho0)) |((with_reducible refine jl (f:=8) rfl ?_);refine gL (some 23) Tryd.func8 #[.slice A1 l1.length c1] ?_;(with_reducible refine (jm.calls k _ _ l1 t220 _ ?side1 ?side2 A14.out).mono ?_);(case side1=>exact cq (Kd.jD HR1.out HB.out));(case side2=>exact HC1.out);rintro e w31 ⟨v221,rfl,ho0,hb⟩;refine ⟨_,rfl,?_⟩;have HO222:=am (Kd.jRa ho0 (jP (Y5)));replace HO219:=am (Kd.jca (rq HO219.out) hb);replace BK214:=am (jc (g:=gb214) (o:=.cells #[.slice A0_0 l0_0.length c0_0] 24 (0,0)) (kq BK214.out) hb);replace HB:=am (jb (Y5) hb);(try clear hb);(try clear hb2);(try clear hk);(try clear hi);(try clear ho0);obtain ⟨Ao32,co32,eo32⟩:=Kd.jQa HO219.out;subst eo32;obtain ⟨Ao33,co33,eo33⟩:=Kd.jQa HO222.out;subst eo33) |((with_reducible refine jl (f:=6) rfl ?_);refine gL (some 24) Tryd.func6 #[.agg #[.slice Ao32 t217.length co32], .slice Ao33 t220.length co33] ?_;(with_reducible refine (jfa.calls k _ _ t217 _ _ t220 t223 _ ?side1 ?side2 ?side3 ?side4 A15.out).mono ?_);(case side1=>exact cq (Kd.jea HO219.out).2.2);(case side2=>exact (Kd.jea HO219.out).2.1);(case side3=>exact cq (Kd.jea HO222.out).2.2);(case side4=>exact (Kd.jea HO222.out).2.1);rintro e w34 ⟨rfl,hb⟩;refine ⟨_,rfl,?_⟩;replace HO219:=am (Kd.jca (rq HO219.out) hb);replace HO222:=am (Kd.jca (rq HO222.out) hb);replace BK214:=am (jc (g:=gb214) (o:=.cells #[.slice A0_0 l0_0.length c0_0] 24 (0,0)) (kq BK214.out) hb);replace HB:=am (jb (Y5) hb);(try clear hb);(try clear hb2);(try clear hk);(try clear hi);have hcz35_0:=bc0 BK214.out;have hfz35_0:=ja BK214.out 0) |((with_reducible refine jl (f:=7) rfl ?_);refine gL (some 26) Tryd.func7 #[.agg #[.slice A0_0 l0_0.length c0_0]] ?_;(with_reducible refine (jH.calls k _ _ l0_0 t224 _ ?side1 ?side2 A16.out).mono ?_);(case side1=>exact cq (Kd.jD HR0_0.out HB.out));(case side2=>exact HC0_0.out);rintro e w36 ⟨v225,rfl,ho0,hb⟩;refine ⟨_,rfl,?_⟩;have HO226:=am (Kd.jRa (Kd.R_new' ho0 (Kd.R_lt (rq HO219.out))) (jP (Y5)));replace HO219:=am (Kd.R_elder' (rq HO219.out) (Kd.R_base ho0) hb);replace HO222:=am (Kd.jca (rq HO222.out) hb);replace BK214:=am (jc (g:=gb214) (o:=.cells #[.slice A0_0 l0_0.length c0_0] 24 (0,0)) (kq BK214.out) hb);replace HB:=am (jb (Y5) hb);(try clear hb);(try clear hb2);(try clear hk);(try clear hi);(try clear ho0)) |((with_reducible refine jr (N:=7) rfl ?_);refine bE (N:=7) (cs:=#[.slice none 0 0]) (t:=31) ?_;intro gb227 hg w37 hbox hb;have BK227:=am (hbox);have GW227:=am ((Y50:w.heap.size≤gb227));have GE227:=am ((Y50:w.heap.size≤gb227));have NB214_227:=am ((by rw [hg];exact Nat.ne_of_lt (jma (g:=gb214) (o:=.cells #[.slice A0_0 l0_0.length c0_0] 24 (0,0)) (kq BK214.out)):gb214≠gb227));have NB227_214:=am ((by rw [hg];exact Nat.ne_of_gt (jma (g:=gb214) (o:=.cells #[.slice A0_0 l0_0.length c0_0] 24 (0,0)) (kq BK214.out)):gb227≠gb214));replace HO219:=am (Kd.jca (rq HO219.out) hb);replace HO222:=am (Kd.jca (rq HO222.out) hb);replace HO226:=am (Kd.jca (rq HO226.out) hb);replace BK214:=am (jc (g:=gb214) (o:=.cells #[.slice A0_0 l0_0.length c0_0] 24 (0,0)) (kq BK214.out) hb);replace HB:=am (jb (Y5) hb);clear hb hbox hg;obtain ⟨Ao38,co38,eo38⟩:=Kd.jQa HO226.out;subst eo38;have hnb39:=NB227_214.out;have hnc39:=NB214_227.out;have hcz40_0:=bc0 BK227.out;have hfz40_0:=ja BK227.out 0) |((with_reducible refine jl (f:=8) rfl ?_);refine gL (some 28) Tryd.func8 #[.slice A1 l1.length c1] ?_;(with_reducible refine (jm.calls k _ _ l1 t228 _ ?side1 ?side2 A17.out).mono ?_);(case side1=>exact Kd.jD HR1.out (Y11));(case side2=>exact HC1.out);rintro e w41 ⟨v229,rfl,ho0,hb⟩;refine ⟨_,rfl,?_⟩;have HO230:=am (Kd.jRa (Kd.R_new' ho0 (Kd.R_lt (Y51))) (jP (Y11)));replace HO219:=am (Kd.jca (by (with_reducible repeat (first | apply Kd.R_alloc | apply Kd.R_drewN | apply Kd.R_drew));exact (Kd.R_mono (Kd.R_far (p:=⟨gb227,0,none⟩) (Kd.R_types HO219.out BK227.out (by decide)) (fun _ hk=>hk.2) (.slice Ao38 t224.length co38)) (fun _ h_=>h_.1))) hb);replace HO222:=am (Kd.R_elder' (Y51) (Kd.R_base ho0) hb);replace HO226:=am (Kd.jca (by (with_reducible repeat (first | apply Kd.R_alloc | apply Kd.R_drewN | apply Kd.R_drew));exact (Kd.R_mono (Kd.R_far (p:=⟨gb227,0,none⟩) (Kd.R_types HO226.out BK227.out (by decide)) (fun _ hk=>hk.2) (.slice Ao38 t224.length co38)) (fun _ h_=>h_.1))) hb);replace BK214:=am (jc (g:=gb214) (o:=.cells #[.slice A0_0 l0_0.length c0_0] 24 (0,0)) (by (with_reducible repeat (first | refine jA ?_ _ | refine jC ?_ | refine jB ?_ _));refine jEa ?_ NB214_227.out _;(with_reducible repeat (first | refine jA ?_ _ | refine jC ?_ | refine jB ?_ _));exact BK214.out) hb);replace BK227:=am (jc (g:=gb227) (o:=.cells #[.slice Ao38 t224.length co38] 31 (0,0)) (by (with_reducible repeat (first | refine jA ?_ _ | refine jC ?_ | refine jB ?_ _));refine jDa (cs:=#[.slice none 0 0]) ?_ 0 _ rfl;(with_reducible repeat (first | refine jA ?_ _ | refine jC ?_ | refine jB ?_ _));exact BK227.out) hb);replace HB:=am (jb (Y11) hb);(try clear hb);(try clear hb2);(try clear hk);(try clear hi);(try clear ho0);have hcz42_0:=bc0 BK227.out;have hfz42_0:=ja BK227.out 0;obtain ⟨Ao43,co43,eo43⟩:=Kd.jQa HO230.out;subst eo43) |((with_reducible refine jl (f:=9) rfl ?_);refine gL (some 31) Tryd.func9 #[.agg #[.slice Ao38 t224.length co38], .slice Ao43 t228.length co43] ?_;(with_reducible refine (jV.calls k _ _ t224 _ _ t228 t231 _ ?side1 ?side2 ?side3 ?side4 A18.out).mono ?_);(case side1=>exact cq (Kd.jea HO226.out).2.2);(case side2=>exact (Kd.jea HO226.out).2.1);(case side3=>exact cq (Kd.jea HO230.out).2.2);(case side4=>exact (Kd.jea HO230.out).2.1);rintro e w44 ⟨rfl,hb⟩;refine ⟨_,rfl,?_⟩;replace HO219:=am (Kd.jca (rq HO219.out) hb);replace HO222:=am (Kd.jca (rq HO222.out) hb);replace HO226:=am (Kd.jca (rq HO226.out) hb);replace HO230:=am (Kd.jca (rq HO230.out) hb);replace BK214:=am (jc (g:=gb214) (o:=.cells #[.slice A0_0 l0_0.length c0_0] 24 (0,0)) (kq BK214.out) hb);replace BK227:=am (jc (g:=gb227) (o:=.cells #[.slice Ao38 t224.length co38] 31 (0,0)) (kq BK227.out) hb);replace HB:=am (jb (Y11) hb);(try clear hb);(try clear hb2);(try clear hk);(try clear hi)))
      replace HO219:=am (Kd.R_drew HO219.out)
      replace HO222:=am (Kd.R_drew HO222.out)
      replace HO226:=am (Kd.R_drew HO226.out)
      replace HO230:=am (Kd.R_drew HO230.out)
      replace BK214:=am (jC BK214.out)
      replace BK227:=am (jC BK227.out)
      replace HB:=am (jh HB.out)
      refine start_ (n:=5) (S:=fun w'=>w'.cell? ⟨gb227,0,none⟩=some (.slice Ao38 t224.length co38)∧w'.cell? ⟨gb214,0,none⟩=some (.slice A0_0 l0_0.length c0_0)) (ds:=[]) #[false,false,false,false,false] (by kernel_rfl) rfl rfl ⟨(joa BK227.out 0).trans rfl,(joa BK214.out 0).trans rfl⟩ (fun hHeld=>?_)
      generalize w44.drew=w45 at HO219 HO222 HO226 HO230 BK214 BK227 HB hHeld ⊢
      refine take_ (i:=0) (N:=some 35) (v:=?_) (a':=?_) #[true,false,false,false,false] rfl rfl (by kernel_rfl) (fun _ _ _ h=>h) (Or.inl ⟨by rfl,?_⟩) hHeld ?_ ?_
      rotate_left
      ·rintro w' ⟨s0,s1⟩
       go_simp
       with_reducible rfl
      rotate_left
      ·exact sa
      refine take_ (i:=1) (N:=some 36) (v:=?_) (a':=?_) #[true,true,false,false,false] rfl rfl (by kernel_rfl) (fun _ _ _ h=>h) (Or.inl ⟨by rfl,?_⟩) hHeld ?_ ?_
      rotate_left
      ·rintro w' ⟨s0,s1⟩
       go_simp
       with_reducible rfl
      rotate_left
      ·exact sa
      refine one_ (i:=2) (N:=some 37) #[true,true,true,false,false] rfl rfl (by kernel_rfl) (by decide) (fun K hK=>?_)
      refine goes_ Tryd.func7 (by kernel_rfl) rfl #[.agg #[.slice A0_0 l0_0.length c0_0]] (by rfl) rfl rfl (aq) ?_
      with_reducible refine (jH.calls k _ _ l0_0 t232 _ ?side1 ?side2 A20.out).mono ?_
      (case side1=>exact cq (Kd.jD HR0_0.out HB.out))
      (case side2=>exact HC0_0.out)
      rintro e w46 ⟨v233,rfl,ho0,hb⟩
      refine ⟨_,rfl,?_⟩
      have HO234:=am (Kd.jRa (Kd.R_new' (Kd.R_new' ho0 (Kd.R_lt (rq HO219.out))) (Kd.R_lt (rq HO226.out))) (jP (Y11)))
      replace HO219:=am (Kd.R_elder' (rq HO219.out) (Kd.R_base ho0) hb)
      replace HO222:=am (Kd.jca (rq HO222.out) hb)
      replace HO226:=am (Kd.R_elder' (rq HO226.out) (Kd.R_base ho0) hb)
      replace HO230:=am (Kd.jca (rq HO230.out) hb)
      replace BK214:=am (jc (g:=gb214) (o:=.cells #[.slice A0_0 l0_0.length c0_0] 24 (0,0)) (kq BK214.out) hb)
      replace BK227:=am (jc (g:=gb227) (o:=.cells #[.slice Ao38 t224.length co38] 31 (0,0)) (kq BK227.out) hb)
      replace HB:=am (jb (Y11) hb)
      (try clear hb)
      (try clear hb2)
      (try clear hk)
      (try clear hi)
      (try clear ho0)
      obtain ⟨Ao47,co47,eo47⟩:=Kd.jQa HO234.out
      (first | subst eo47 |(injection eo47 with f1_ f2_ f3_;have f4_:=f1_.symm;have f5_:=f3_.symm;clear f1_ f2_ f3_;subst f4_;subst f5_))
      refine hK.out _ _ ⟨(joa BK227.out 0).trans rfl,(joa BK214.out 0).trans rfl⟩ (fun hHeld=>?_)
      clear hK K
      refine norm_ (a':=?_) ?_ ?_
      rotate_left
      ·show Act.put _ (some 37) _=_
       simp only [Act.put,List.setIfInBounds_toArray,List.set_cons_zero,List.set_cons_succ,i64_w,i32_w]
       rfl
      refine one_ (i:=3) (N:=some 38) #[true,true,true,true,false] rfl rfl (by kernel_rfl) (by decide) (fun K hK=>?_)
      refine goes_ Tryd.func10 (by kernel_rfl) rfl #[.agg #[.slice Ao38 t224.length co38], .agg #[.slice Ao47 t232.length co47]] (by rfl) rfl rfl (aq) ?_
      with_reducible refine (jda.calls k _ _ t224 _ _ t232 true _ ?side1 ?side2 ?side3 ?side4 A21.out).mono ?_
      (case side1=>exact cq (Kd.jea HO226.out).2.2)
      (case side2=>exact (Kd.jea HO226.out).2.1)
      (case side3=>exact cq (Kd.jea HO234.out).2.2)
      (case side4=>exact (Kd.jea HO234.out).2.1)
      rintro e w48 ⟨rfl,hb⟩
      refine ⟨_,rfl,?_⟩
      replace HO219:=am (Kd.jca (rq HO219.out) hb)
      replace HO222:=am (Kd.jca (rq HO222.out) hb)
      replace HO226:=am (Kd.jca (rq HO226.out) hb)
      replace HO230:=am (Kd.jca (rq HO230.out) hb)
      replace HO234:=am (Kd.jca (rq HO234.out) hb)
      replace BK214:=am (jc (g:=gb214) (o:=.cells #[.slice A0_0 l0_0.length c0_0] 24 (0,0)) (kq BK214.out) hb)
      replace BK227:=am (jc (g:=gb227) (o:=.cells #[.slice Ao38 t224.length co38] 31 (0,0)) (kq BK227.out) hb)
      replace HB:=am (jb (Y11) hb)
      (try clear hb)
      (try clear hb2)
      (try clear hk)
      (try clear hi)
      refine hK.out _ _ ⟨(joa BK227.out 0).trans rfl,(joa BK214.out 0).trans rfl⟩ (fun hHeld=>?_)
      clear hK K
      refine norm_ (a':=?_) ?_ ?_
      rotate_left
      ·show Act.put _ (some 38) _=_
       simp only [Act.put,List.setIfInBounds_toArray,List.set_cons_zero,List.set_cons_succ,i64_w,i32_w]
       rfl
      refine pure_ (i:=4) (N:=some 39) (v:=?_) (a':=?_) #[true,true,true,true,true] rfl rfl (by kernel_rfl) (fun _ _ _ h=>h) (Or.inl ⟨by rfl,?_⟩) ?_ ?_
      rotate_left
      ·exact sb
      rotate_left
      ·exact sa
      refine done_ (by kernel_rfl) ?_
      try go_wp2_with (first |((with_reducible refine jl (f:=8) rfl ?_);refine gL (some 42) Tryd.func8 #[.slice A1 l1.length c1] ?_;(with_reducible refine (jm.calls k _ _ l1 t236 _ ?side1 ?side2 A23.out).mono ?_);(case side1=>exact cq (Kd.jD HR1.out HB.out));(case side2=>exact HC1.out);rintro e w49 ⟨v237,rfl,ho0,hb⟩;refine ⟨_,rfl,?_⟩;have HO238:=am (Kd.jRa (Kd.R_new' (Kd.R_new' ho0 (Kd.R_lt (rq HO222.out))) (Kd.R_lt (rq HO230.out))) (jP (Y11)));replace HO219:=am (Kd.jca (rq HO219.out) hb);replace HO222:=am (Kd.R_elder' (rq HO222.out) (Kd.R_base ho0) hb);replace HO226:=am (Kd.jca (rq HO226.out) hb);replace HO230:=am (Kd.R_elder' (rq HO230.out) (Kd.R_base ho0) hb);replace HO234:=am (Kd.jca (rq HO234.out) hb);replace BK214:=am (jc (g:=gb214) (o:=.cells #[.slice A0_0 l0_0.length c0_0] 24 (0,0)) (kq BK214.out) hb);replace BK227:=am (jc (g:=gb227) (o:=.cells #[.slice Ao38 t224.length co38] 31 (0,0)) (kq BK227.out) hb);replace HB:=am (jb (Y11) hb);(try clear hb);(try clear hb2);(try clear hk);(try clear hi);(try clear ho0);obtain ⟨Ao50,co50,eo50⟩:=Kd.jQa HO238.out;subst eo50) |((with_reducible refine jl (f:=11) rfl ?_);refine gL (some 43) Tryd.func11 #[.slice Ao43 t228.length co43, .slice Ao50 t236.length co50] ?_;(with_reducible refine (jq.calls k _ _ t228 _ _ t236 true _ ?side1 ?side2 ?side3 ?side4 A24.out).mono ?_);(case side1=>exact cq (Kd.jea HO230.out).2.2);(case side2=>exact (Kd.jea HO230.out).2.1);(case side3=>exact cq (Kd.jea HO238.out).2.2);(case side4=>exact (Kd.jea HO238.out).2.1);rintro e w51 ⟨rfl,hb⟩;refine ⟨_,rfl,?_⟩;replace HO219:=am (Kd.jca (rq HO219.out) hb);replace HO222:=am (Kd.jca (rq HO222.out) hb);replace HO226:=am (Kd.jca (rq HO226.out) hb);replace HO230:=am (Kd.jca (rq HO230.out) hb);replace HO234:=am (Kd.jca (rq HO234.out) hb);replace HO238:=am (Kd.jca (rq HO238.out) hb);replace BK214:=am (jc (g:=gb214) (o:=.cells #[.slice A0_0 l0_0.length c0_0] 24 (0,0)) (kq BK214.out) hb);replace BK227:=am (jc (g:=gb227) (o:=.cells #[.slice Ao38 t224.length co38] 31 (0,0)) (kq BK227.out) hb);replace HB:=am (jb (Y11) hb);(try clear hb);(try clear hb2);(try clear hk);(try clear hi)))
      go_ret
      exact ⟨Y1,Y11⟩
     ·replace c25:=Bool.eq_false_iff.mpr c25
      subst c25
      have H1:(some false)=some r:=by rw [if_neg (show ¬ (false=true) by decide)] at H;exact H
      clear H
      have H:=H1
      clear H1
      exact absurd ((Option.some.inj H).trans hT) Bool.false_ne_true
    ·replace c22:=Bool.eq_false_iff.mpr c22
     subst c22
     have H1:(some false)=some r:=by rw [if_neg (show ¬ (false=true) by decide)] at H;exact H
     clear H
     have H:=H1
     clear H1
     exact absurd ((Option.some.inj H).trans hT) Bool.false_ne_true
   ·rw [if_neg c19] at H
    have c19b0:(t231.toList == t223.toList)=false:=beq_eq_false_iff_ne.mpr c19
    have c19b1:(t231.toList != t223.toList)=true:=bne_iff_ne.mpr c19
    exact absurd ((Option.some.inj H).trans hT) Bool.false_ne_true
end Go.Proofs.YtlkdlibbbekipaaDoor.P
end
