/- One part of the proofs on this program: functions of the program as plain functions, that the code comes to them, and facts on them. -/
import Derived.Test.YtkokajljeebgdaaYAll1
import Derived.Test.YtkokajljeebgdaaYAll2
import Derived.Test.YtkokajljeebgdaaYAll3
import Derived.Test.YtkokajljeebgdaaYAll4
import Derived.Test.YtkokajljeebgdaaYWAuto
section
namespace Go.Proofs.Ytkokajljeebgdaa.P
open Go.RowKit Go.Proofs.YtkokajljeebgdaaW.PrintWords Go.Proofs.YtkokajljeebgdaaW.PrintLast Go.Proofs.YtkokajljeebgdaaW.PrintMore
attribute [local go_sem] jqa joa jBa jAa jfa jea jpa jna jk
set_option linter.unusedVariables false
set_option linter.unusedSimpArgs false
set_option maxHeartbeats 8000000 in
set_option maxRecDepth 100000 in
theorem jW.calls_of (k : Nat) (ih119 : ∀ k_, k_ < k → ∀ (g : Nat) (s0_0 : List Int) (s0_1 : Int) (A1_0 : Option Addr) (c1_0 : Nat) (l1_0 : List (S87)) (a2 : Int) (a3 : Bool) (r1 : List (S52)) (r2 : Int) (w0 w : World) (hI : jf w0 w g s0_0 s0_1) (hB : Below w0.heap.size w0 w) (hr1_0 : ∀ W_, jb w W_ g none → Kd.C k87 W_ A1_0 l1_0.length l1_0) (hc1_0 : l1_0.length ≤ c1_0) (h : jA.f k_ s0_0 s0_1 l1_0 a2 a3 = some (r1, r2)), Calls Try.prog 119 #[.pointer (some ⟨g, 0, none⟩), .agg #[.slice A1_0 l1_0.length c1_0], .int .i64 a2, .bool a3] w fun e w' => ∃ v0_ : Value, e = .returned (v0_) ∧ Kd.R k52 52 w' w.heap.size (fun _ => True) v0_ r1 ∧ jf w0 w' g s0_0 r2 ∧ Below w0.heap.size w0 w' ∧ jb w w' g none) (ih118 : ∀ k_, k_ < k → ∀ (g : Nat) (s0_0 : List Int) (s0_1 : Int) (A1_0 : Option Addr) (c1_0 : Nat) (l1_0 : List (S87)) (a2 : Int) (a3 : Bool) (r1 : List (S52)) (r2 : Int) (w0 w : World) (hI : jf w0 w g s0_0 s0_1) (hB : Below w0.heap.size w0 w) (hr1_0 : ∀ W_, jb w W_ g none → Kd.C k87 W_ A1_0 l1_0.length l1_0) (hc1_0 : l1_0.length ≤ c1_0) (h : jI.f k_ s0_0 s0_1 l1_0 a2 a3 = some (r1, r2)), Calls Try.prog 118 #[.pointer (some ⟨g, 0, none⟩), .agg #[.slice A1_0 l1_0.length c1_0], .int .i64 a2, .bool a3] w fun e w' => ∃ v0_ : Value, e = .returned (v0_) ∧ Kd.R k52 52 w' w.heap.size (fun _ => True) v0_ r1 ∧ jf w0 w' g s0_0 r2 ∧ Below w0.heap.size w0 w' ∧ jb w w' g none) (ih117 : ∀ k_, k_ < k → ∀ (g : Nat) (s0_0 : List Int) (s0_1 : Int) (A1_0 : Option Addr) (c1_0 : Nat) (l1_0 : List (S87)) (a2 : Int) (a3 : Bool) (r1 : List (S52)) (r2 : Int) (w0 w : World) (hI : jf w0 w g s0_0 s0_1) (hB : Below w0.heap.size w0 w) (hr1_0 : ∀ W_, jb w W_ g none → Kd.C k87 W_ A1_0 l1_0.length l1_0) (hc1_0 : l1_0.length ≤ c1_0) (h : jW.f k_ s0_0 s0_1 l1_0 a2 a3 = some (r1, r2)), Calls Try.prog 117 #[.pointer (some ⟨g, 0, none⟩), .agg #[.slice A1_0 l1_0.length c1_0], .int .i64 a2, .bool a3] w fun e w' => ∃ v0_ : Value, e = .returned (v0_) ∧ Kd.R k52 52 w' w.heap.size (fun _ => True) v0_ r1 ∧ jf w0 w' g s0_0 r2 ∧ Below w0.heap.size w0 w' ∧ jb w w' g none) : ∀ (g : Nat) (s0_0 : List Int) (s0_1 : Int) (A1_0 : Option Addr) (c1_0 : Nat) (l1_0 : List (S87)) (a2 : Int) (a3 : Bool) (r1 : List (S52)) (r2 : Int) (w0 w : World) (hI : jf w0 w g s0_0 s0_1) (hB : Below w0.heap.size w0 w) (hr1_0 : ∀ W_, jb w W_ g none → Kd.C k87 W_ A1_0 l1_0.length l1_0) (hc1_0 : l1_0.length ≤ c1_0) (h : jW.f k s0_0 s0_1 l1_0 a2 a3 = some (r1, r2)),
  Calls Try.prog 117 #[.pointer (some ⟨g,0,none⟩), .agg #[.slice A1_0 l1_0.length c1_0], .int .i64 a2, .bool a3] w fun e w'=>∃ v0_:Value,e=.returned (v0_)∧Kd.R k52 52 w' w.heap.size (fun _=>True) v0_ r1∧jf w0 w' g s0_0 r2∧Below w0.heap.size w0 w'∧jb w w' g none:=by
 intro g s0_0 s0_1 A1_0 c1_0 l1_0 a2 a3 r1 r2 w0 w hI hB hr1_0 hc1_0 h
 cases k with
 | zero=>exact absurd h (by simp [jW.f])
 | succ k =>
 simp only [jW.f] at h
 have hu32:=Try.underlying32
 have hu52:=Try.underlying52
 have HR1_0:=am hr1_0
 have HC1_0:=am hc1_0
 clear hr1_0 hc1_0
 have HI0:=am hI
 have HK:=am (jb.refl w g none)
 have HL:=am hB.size
 clear hI
 have HW0:=am hB.size
 have HB:=am hB
 clear hB
 have H:((some (([(⟨a2,7,0,0⟩:S52)]:List (S52)):List (S52))).bind fun y315=>((jI.f k s0_0 s0_1 l1_0 (wrap64 (a2+1)) a3).bind fun bt318=>(if y315.length+bt318.1.length<4398046511104 then ((ji.f k s0_0 bt318.2 (([1,2,0,1]:List Int))).bind fun bt328=>(jW.l0 k a2 a3 (y315 ++ bt318.1) bt328.1 bt328.1 s0_0 bt328.2 l1_0)) else (none))))=some (r1,r2):=h
 clear h
 obtain ⟨y315,hy315⟩:∃ y_:List (S52),y_=(([(⟨a2,7,0,0⟩:S52)]:List (S52))):=⟨_,rfl⟩
 replace H:((jI.f k s0_0 s0_1 l1_0 (wrap64 (a2+1)) a3).bind fun bt318=>(if y315.length+bt318.1.length<4398046511104 then ((ji.f k s0_0 bt318.2 (([1,2,0,1]:List Int))).bind fun bt328=>(jW.l0 k a2 a3 (y315 ++ bt318.1) bt328.1 bt328.1 s0_0 bt328.2 l1_0)) else (none)))=some (r1,r2):=by first |(rw [hy315];with_reducible exact H) |(have H2_:=(Option.bind_some _ _).symm.trans H;rw [hy315];with_reducible exact H2_) |(have H2_:=(Option.bind_some _ _).symm.trans H;with_reducible exact H2_) | with_reducible exact H |(rw [hy315];exact H) | exact H
 have Ny315:=am hy315
 clear hy315
 replace H:=bzS H
 obtain ⟨⟨t318,t321⟩,A50,H⟩:=H
 replace H:(if y315.length+t318.length<4398046511104 then ((ji.f k s0_0 t321 (([1,2,0,1]:List Int))).bind fun bt328=>(jW.l0 k a2 a3 (y315 ++ t318) bt328.1 bt328.1 s0_0 bt328.2 l1_0)) else (none))=some (r1,r2):=H
 have A5:=am A50
 clear A50
 by_cases c6:y315.length+t318.length<4398046511104
 ·rw [if_pos c6] at H
  have LMc6:=am c6
  clear c6
  obtain ⟨y322,hy322⟩:∃ y_:List (S52),y_=(y315 ++ t318):=⟨_,rfl⟩
  replace H:((ji.f k s0_0 t321 (([1,2,0,1]:List Int))).bind fun bt328=>(jW.l0 k a2 a3 y322 bt328.1 bt328.1 s0_0 bt328.2 l1_0))=some (r1,r2):=by first |(rw [hy322];with_reducible exact H) |(have H2_:=(Option.bind_some _ _).symm.trans H;rw [hy322];with_reducible exact H2_) |(have H2_:=(Option.bind_some _ _).symm.trans H;with_reducible exact H2_) | with_reducible exact H |(rw [hy322];exact H) | exact H
  have Ny322:=am hy322
  clear hy322
  obtain ⟨y325,hy325⟩:∃ y_:List Int,y_=(([1,2,0,1]:List Int)):=⟨_,rfl⟩
  replace H:((ji.f k s0_0 t321 y325).bind fun bt328=>(jW.l0 k a2 a3 y322 bt328.1 bt328.1 s0_0 bt328.2 l1_0))=some (r1,r2):=by first |(rw [hy325];with_reducible exact H) |(have H2_:=(Option.bind_some _ _).symm.trans H;rw [hy325];with_reducible exact H2_) |(have H2_:=(Option.bind_some _ _).symm.trans H;with_reducible exact H2_) | with_reducible exact H |(rw [hy325];exact H) | exact H
  have Ny325:=am hy325
  clear hy325
  replace H:=bzS H
  obtain ⟨⟨t328,t329⟩,A70,H⟩:=H
  replace H:(jW.l0 k a2 a3 y322 t328 t328 s0_0 t329 l1_0)=some (r1,r2):=H
  have A7:=am A70
  clear A70
  have H':=am H
  clear H
  go_enter Try.func117,Try.ntmps117
  go_wp2_with (first |((with_reducible refine jM (N:=5) rfl ?_);refine bE (N:=5) (cs:=#[.slice A1_0 l1_0.length c1_0]) (t:=32) ?_;intro gb314 hg w8 hbox hb;have BK314:=am (hbox);have GW314:=am ((Y12:w.heap.size≤gb314));have GE314:=am ((Nat.le_trans HW0.out (Y12:w.heap.size≤gb314):w0.heap.size≤gb314));have NB0_314:=am ((Y27:g≠gb314));have NB314_0:=am ((Y28:gb314≠g));replace HK:=am (jb.trans (Y17) (jb.of_below hb g none) (.inl rfl));replace HB:=am (je (Y18) hb);replace HI0:=am (jf.below (Y16) hb);clear hb hbox hg) |((with_reducible refine jM (N:=14) rfl ?_);refine Kd.jbc k52 _ 52 ?hg (N:=14) ?hd (xs:=([(⟨a2,7,0,0⟩:S52)]:List (S52))) (inner:=[.int .i64 a2, .int .i64 7, .int .i64 0, .int .i64 0]) (ok:=fun _=>True) (okp:=fun _=>True) ?hr ?hp (fun _ hk=>hk) trivial (Below.refl _ _) (Nat.le_refl _) (by simp) ?_;(case hd=>rfl);(case hg=>rfl);(case hr=>exact Y7);(case hp=>exact (Reps.c4 (show Kd.M k52 _ _ _ (⟨a2,7,0,0⟩:S52) [.int .i64 a2, .int .i64 7, .int .i64 0, .int .i64 0] from (jEb _ _ _ (⟨a2,7,0,0⟩:S52) )) (Reps.none _ _)));intro v316 w9 ho10 hb hg_ hnew_;clear hg_ hnew_;(first | rw [← Ny315.out] at ho10 |(simp only [Int.reduceToNat] at ho10;rw [← Ny315.out] at ho10));have HO317:=am (Kd.jQ ho10 (jJ (w:=w) (g:=g) (row:=none) (Y6)));replace BK314:=am (jm (g:=gb314) (o:=.cells #[.slice A1_0 l1_0.length c1_0] 32 (0,0)) (kq BK314.out) hb);replace HK:=am (jb.trans (Y6) (jb.of_below hb g none) (.inl rfl));replace HB:=am (je (Y13) hb);replace HI0:=am (jf.below (Y9) hb);clear hb ho10;have hnb11:=NB314_0.out;have hnc11:=NB0_314.out;have hcz12_0:=bc0 BK314.out;have hfz12_0:=ja BK314.out 0) |((with_reducible refine jd (f:=118) rfl ?_);refine gL (some 20) Try.func118 #[.pointer (some ⟨g,0,none⟩), .agg #[.slice A1_0 l1_0.length c1_0], .int .i64 (wrap64 (a2+1)), .bool a3] ?_;(with_reducible refine (ih118 k (by omega) g s0_0 s0_1 _ _ l1_0 (wrap64 (a2+1)) a3 t318 t321 w0 _ ?side1 ?side2 ?side3 ?side4 A5.out).mono ?_);(case side1=>exact Y9);(case side2=>exact Y13);(case side3=>exact Kd.jtb HR1_0.out (Y6));(case side4=>exact HC1_0.out);rintro e w13 ⟨v319,rfl,ho0,hi,hb,hk⟩;refine ⟨_,rfl,?_⟩;have HO320:=am (Kd.jQ (Kd.jxb ho0 (Kd.R_lt (rq HO317.out))) (jJ (w:=w) (g:=g) (row:=none) (Y6)));replace BK314:=am (jb.blk hk (g':=gb314) (o:=.cells #[.slice A1_0 l1_0.length c1_0] 32 (0,0)) (kq BK314.out) NB314_0.out (by simp));replace HO317:=am (Kd.jE (Kd.R_told (Kd.R_oldK (jf.apart (show jf w0 _ g s0_0 s0_1 from Y9) (rq HO317.out) (by decide)) hk) (Kd.jyb ho0)) (fun _ h_=>h_.1));replace HK:=am (jb.trans (Y6) hk (.inl rfl));replace HB:=am (hb);replace HI0:=am (hi);(try clear hb);(try clear hb2);(try clear hk);(try clear hi);(try clear ho0);obtain ⟨Ao15,co15,eo15⟩:=Kd.jU HO320.out;subst eo15) |((with_reducible refine jJa (b:=.append) (xs:=#[.tmp 14, .tmp 20]) rfl ?_);at_builtin;refine Kd.jOb k52 w.heap.size rfl (.tmp 14) (.tmp 20) 34 52 (.agg #[(.int .i64 0),(.int .i64 0),(.int .i64 0),(.int .i64 0)]) 32 rfl Try.underlying34 jyc rfl (by decide) (by omega) v316 y315 t318 _ _ _ (fun k_=>some k_≠(.slice Ao15 t318.length co15:Value).ownBlock) (fun _=>False) rfl rfl ?aO ?aR (fun _ _ h=>h) (fun _ h=>h.elim) ?aF (Below.refl _ _) ?aS ?aL ?_;(case aR=>repeat (first | exact (Kd.jh HO320.out).2.2 |(with_reducible refine Kd.jkc ?_ _) |(with_reducible refine Kd.jic ?_ _) |(with_reducible refine Kd.jIc ?_)));(case aF=>exact (fun k_ hk=>Kd.fresh' (Kd.R_lt (rq HO320.out)) k_ hk));(case aO=>exact (by (with_reducible repeat (first | apply Kd.jY | apply Kd.jX | apply Kd.jia));exact Kd.jE HO317.out (fun _ hk=>hk.2)));(case aS=>exact (jJ (w:=w) (g:=g) (row:=none) (Y6)));(case aL=>have:=LMc6.out;omega);intro v323 w14 ho hb hg hat;rw [← Ny322.out] at ho;have n0_:=am (jf.grown (Y9) hg (jf.own_ne HI0.out HO317.out (by decide)));have n1_:=am (jbb (g:=gb314) (o:=.cells #[.slice A1_0 l1_0.length c1_0] 32 (0,0)) (kq BK314.out) hg (Kd.R_ne HO317.out BK314.out (by decide)));have n2_:=am (Kd.jmc (ok:=(fun _=>True)) (rq HO320.out) hg hat);have n3_:=am (jib (Y13) HL.out hb);have n4_:=am (jb.trans (Y6) (jb.jBb hg g) (Kd.jXb HO317.out));have n5_:=am (ho);clear HI0 BK314 HO320 HB HK HO317;have HI0:=n0_;have BK314:=n1_;have HO320:=n2_;have HB:=n3_;have HK:=n4_;have HO324:=n5_;clear n0_ n1_ n2_ n3_ n4_ n5_ ho hb hg hat) |((with_reducible refine jM (N:=23) rfl ?_);refine Kd.jbc (Kd.int .i64) _ 3 ?hg (N:=23) ?hd (xs:=([1,2,0,1]:List Int)) (inner:=[.int .i64 1, .int .i64 2, .int .i64 0, .int .i64 1]) (ok:=fun _=>True) (okp:=fun _=>True) ?hr ?hp (fun _ hk=>hk) trivial (Below.refl _ _) (Nat.le_refl _) (by simp) ?_;(case hd=>rfl);(case hg=>rfl);(case hr=>exact Y7);(case hp=>exact (Reps.one (show Kd.M (Kd.int .i64) _ _ _ 1 [.int .i64 1] from rfl) (Reps.one (show Kd.M (Kd.int .i64) _ _ _ 2 [.int .i64 2] from rfl) (Reps.one (show Kd.M (Kd.int .i64) _ _ _ 0 [.int .i64 0] from rfl) (Reps.one (show Kd.M (Kd.int .i64) _ _ _ 1 [.int .i64 1] from rfl) (Reps.none _ _))))));intro v326 w16 ho17 hb hg_ hnew_;clear hg_ hnew_;(first | rw [← Ny325.out] at ho17 |(simp only [Int.reduceToNat] at ho17;rw [← Ny325.out] at ho17));have HO327:=am (Kd.jQ ho17 (jJ (w:=w) (g:=g) (row:=none) (Y6)));replace HO320:=am (Kd.jT (rq HO320.out) hb);replace HO324:=am (Kd.jT (rq HO324.out) hb);replace BK314:=am (jm (g:=gb314) (o:=.cells #[.slice A1_0 l1_0.length c1_0] 32 (0,0)) (kq BK314.out) hb);replace HK:=am (jb.trans (Y6) (jb.of_below hb g none) (.inl rfl));replace HB:=am (je (Y13) hb);replace HI0:=am (jf.below (Y9) hb);clear hb ho17;obtain ⟨Ao18,co18,eo18⟩:=Kd.jU HO327.out;subst eo18) |((with_reducible refine jd (f:=91) rfl ?_);refine gL (some 24) Try.func91 #[.pointer (some ⟨g,0,none⟩), .slice Ao18 y325.length co18] ?_;(with_reducible refine (ji.calls k g s0_0 t321 _ _ y325 t328 t329 w0 _ ?side1 ?side2 ?side3 ?side4 ?side5 A7.out).mono ?_);(case side1=>exact Y9);(case side2=>exact Y13);(case side3=>exact cq (Kd.jh HO327.out).2.2);(case side4=>exact (Kd.jh HO327.out).2.1);(case side5=>exact jzb (jf.own_ne HI0.out HO327.out (by decide)));rintro e w19 ⟨rfl,hi,hb,hk⟩;refine ⟨_,rfl,?_⟩;replace BK314:=am (jb.blk hk (g':=gb314) (o:=.cells #[.slice A1_0 l1_0.length c1_0] 32 (0,0)) (kq BK314.out) NB314_0.out (by simp));replace HO320:=am (Kd.jE (Kd.jxa (jf.apart (show jf w0 _ g s0_0 t321 from Y9) (rq HO320.out) (by decide)) hk (fun _ h=>h.2)) (fun _ h=>h.1));replace HO324:=am (Kd.jE (Kd.jxa (jf.apart (show jf w0 _ g s0_0 t321 from Y9) (rq HO324.out) (by decide)) hk (fun _ h=>h.2)) (fun _ h=>h.1));replace HO327:=am (Kd.jE (Kd.jxa (jf.apart (show jf w0 _ g s0_0 t321 from Y9) (rq HO327.out) (by decide)) hk (fun _ h=>h.2)) (fun _ h=>h.1));replace HK:=am (jb.trans (Y6) hk (.inl rfl));replace HB:=am (hb);replace HI0:=am (hi);(try clear hb);(try clear hb2);(try clear hk);(try clear hi)))
  go_loopg [9,11] k (fun kq v9 v11 w'=>∃ (x9_1:List (S52)) (x11_1:Int) (x1001_1:Int),v11=.int .i64 x11_1∧jq (jW.l0 kq a2 a3 x9_1 t328 x11_1 s0_0 x1001_1 l1_0=some (r1,r2))∧jq (kq≤k)∧jq (Kd.R k52 52 w' w.heap.size (fun _=>True) v9 x9_1)∧jq (w'.heap[gb314]?=some (.cells #[(.slice A1_0 l1_0.length c1_0)] 32 (0,0)))∧jq (jf w0 w' g s0_0 x1001_1)∧jq (jb w w' g none)∧jq (Below w0.heap.size w0 w'))
  case atStart=>exact ⟨(y322),(t328),(t329),(sq),H',⟨Nat.le_refl _⟩,⟨by (with_reducible repeat (first | apply Kd.jY | apply Kd.jX | apply Kd.jia));exact Kd.jE HO324.out (fun _ hk=>trivial)⟩,⟨kq BK314.out⟩,⟨Y9⟩,⟨Y6⟩,⟨Y13⟩⟩
  case round =>
   clear H'
   try clear c1
   try clear p2
   try clear c4
   try clear c6
   try clear p6
   try clear c9
   try clear c11
   try clear hcz12_0
   try clear hfz12_0
   obtain ⟨x9_1,x11_1,x1001_1,rfl,HA,HK1,HO_9,BK314,HI0,HK,HB⟩:=hrel
   cases gk with
   | zero=>exact absurd HA.out (by simp [jW.l0])
   | succ k1 =>
    have H:=HA.out
    clear HA
    simp only [jW.l0] at H
    by_cases c20:x11_1 > 0
    ·rw [if_pos c20] at H
     have c20b0:decide (0<x11_1)=true:=dzT c20
     clear c20
     replace H:=bzS H
     obtain ⟨⟨t330,t331⟩,A210,H⟩:=H
     replace H:((ji.f k1 s0_0 t331 (([t330,0]:List Int))).bind fun bt335=>(if x9_1.length<4398046511104 then ((some (x9_1 ++ [(⟨a2,8,bt335.1,0⟩:S52)]:List (S52))).bind fun y337=>((jI.f k1 s0_0 bt335.2 l1_0 (wrap64 (a2+1)) a3).bind fun bt340=>(if y337.length+bt340.1.length<4398046511104 then (jW.l0 k1 a2 a3 (y337 ++ bt340.1) t328 (wrap64 (x11_1 - 1)) s0_0 bt340.2 l1_0) else (none)))) else (none)))=some (r1,r2):=H
     have A21:=am A210
     clear A210
     obtain ⟨y332,hy332⟩:∃ y_:List Int,y_=(([t330,0]:List Int)):=⟨_,rfl⟩
     replace H:((ji.f k1 s0_0 t331 y332).bind fun bt335=>(if x9_1.length<4398046511104 then ((some (x9_1 ++ [(⟨a2,8,bt335.1,0⟩:S52)]:List (S52))).bind fun y337=>((jI.f k1 s0_0 bt335.2 l1_0 (wrap64 (a2+1)) a3).bind fun bt340=>(if y337.length+bt340.1.length<4398046511104 then (jW.l0 k1 a2 a3 (y337 ++ bt340.1) t328 (wrap64 (x11_1 - 1)) s0_0 bt340.2 l1_0) else (none)))) else (none)))=some (r1,r2):=by first |(rw [hy332];with_reducible exact H) |(have H2_:=(Option.bind_some _ _).symm.trans H;rw [hy332];with_reducible exact H2_) |(have H2_:=(Option.bind_some _ _).symm.trans H;with_reducible exact H2_) | with_reducible exact H |(rw [hy332];exact H) | exact H
     have Ny332:=am hy332
     clear hy332
     replace H:=bzS H
     obtain ⟨⟨t335,t336⟩,A220,H⟩:=H
     replace H:(if x9_1.length<4398046511104 then ((some (x9_1 ++ [(⟨a2,8,t335,0⟩:S52)]:List (S52))).bind fun y337=>((jI.f k1 s0_0 t336 l1_0 (wrap64 (a2+1)) a3).bind fun bt340=>(if y337.length+bt340.1.length<4398046511104 then (jW.l0 k1 a2 a3 (y337 ++ bt340.1) t328 (wrap64 (x11_1 - 1)) s0_0 bt340.2 l1_0) else (none)))) else (none))=some (r1,r2):=H
     have A22:=am A220
     clear A220
     by_cases c23:x9_1.length<4398046511104
     ·rw [if_pos c23] at H
      have LMc23:=am c23
      clear c23
      obtain ⟨y337,hy337⟩:∃ y_:List (S52),y_=(x9_1 ++ [(⟨a2,8,t335,0⟩:S52)]):=⟨_,rfl⟩
      replace H:((jI.f k1 s0_0 t336 l1_0 (wrap64 (a2+1)) a3).bind fun bt340=>(if y337.length+bt340.1.length<4398046511104 then (jW.l0 k1 a2 a3 (y337 ++ bt340.1) t328 (wrap64 (x11_1 - 1)) s0_0 bt340.2 l1_0) else (none)))=some (r1,r2):=by first |(rw [hy337];with_reducible exact H) |(have H2_:=(Option.bind_some _ _).symm.trans H;rw [hy337];with_reducible exact H2_) |(have H2_:=(Option.bind_some _ _).symm.trans H;with_reducible exact H2_) | with_reducible exact H |(rw [hy337];exact H) | exact H
      have Ny337:=am hy337
      clear hy337
      replace H:=bzS H
      obtain ⟨⟨t340,t343⟩,A240,H⟩:=H
      replace H:(if y337.length+t340.length<4398046511104 then (jW.l0 k1 a2 a3 (y337 ++ t340) t328 (wrap64 (x11_1 - 1)) s0_0 t343 l1_0) else (none))=some (r1,r2):=H
      have A24:=am A240
      clear A240
      by_cases c25:y337.length+t340.length<4398046511104
      ·rw [if_pos c25] at H
       have LMc25:=am c25
       clear c25
       obtain ⟨y344,hy344⟩:∃ y_:List (S52),y_=(y337 ++ t340):=⟨_,rfl⟩
       replace H:(jW.l0 k1 a2 a3 y344 t328 (wrap64 (x11_1 - 1)) s0_0 t343 l1_0)=some (r1,r2):=by first |(rw [hy344];with_reducible exact H) |(have H2_:=(Option.bind_some _ _).symm.trans H;rw [hy344];with_reducible exact H2_) |(have H2_:=(Option.bind_some _ _).symm.trans H;with_reducible exact H2_) | with_reducible exact H |(rw [hy344];exact H) | exact H
       have Ny344:=am hy344
       clear hy344
       have H':=am H
       clear H
       have hnb26:=NB314_0.out
       have hnc26:=NB0_314.out
       have hcz27_0:=bc0 BK314.out
       have hfz27_0:=ja BK314.out 0
       go_wp2_with (first |((with_reducible refine jd (f:=71) rfl ?_);refine gL (some 37) Try.func71 #[.pointer (some ⟨g,0,none⟩), .int .i64 (l1_0.length:Int)] ?_;(with_reducible refine (jg.calls k1 g s0_0 x1001_1 (l1_0.length:Int) t330 t331 w0 _ ?side1 ?side2 A21.out).mono ?_);(case side1=>exact Y9);(case side2=>exact Y13);rintro e w28 ⟨rfl,hi,hb,hk⟩;refine ⟨_,rfl,?_⟩;replace HO_9:=am (Kd.jE (Kd.jxa (jf.apart (show jf w0 _ g s0_0 x1001_1 from Y9) (rq HO_9.out) (by decide)) hk (fun _ h=>h.2)) (fun _ h=>h.1));replace BK314:=am (jb.blk hk (g':=gb314) (o:=.cells #[.slice A1_0 l1_0.length c1_0] 32 (0,0)) (kq BK314.out) NB314_0.out (by simp));replace HK:=am (jb.trans (Y6) hk (.inl rfl));replace HB:=am (hb);replace HI0:=am (hi);(try clear hb);(try clear hb2);(try clear hk);(try clear hi)) |((with_reducible refine jM (N:=38) rfl ?_);refine Kd.jbc (Kd.int .i64) _ 3 ?hg (N:=38) ?hd (xs:=([t330,0]:List Int)) (inner:=[.int .i64 t330, .int .i64 0]) (ok:=fun _=>True) (okp:=fun _=>True) ?hr ?hp (fun _ hk=>hk) trivial (Below.refl _ _) (Nat.le_refl _) (by simp) ?_;(case hd=>rfl);(case hg=>rfl);(case hr=>exact Y7);(case hp=>exact (Reps.one (show Kd.M (Kd.int .i64) _ _ _ t330 [.int .i64 t330] from rfl) (Reps.one (show Kd.M (Kd.int .i64) _ _ _ 0 [.int .i64 0] from rfl) (Reps.none _ _))));intro v333 w29 ho30 hb hg_ hnew_;clear hg_ hnew_;(first | rw [← Ny332.out] at ho30 |(simp only [Int.reduceToNat] at ho30;rw [← Ny332.out] at ho30));have HO334:=am (Kd.jQ ho30 (jJ (w:=w) (g:=g) (row:=none) (Y6)));replace HO_9:=am (Kd.jT (rq HO_9.out) hb);replace BK314:=am (jm (g:=gb314) (o:=.cells #[.slice A1_0 l1_0.length c1_0] 32 (0,0)) (kq BK314.out) hb);replace HK:=am (jb.trans (Y6) (jb.of_below hb g none) (.inl rfl));replace HB:=am (je (Y13) hb);replace HI0:=am (jf.below (Y9) hb);clear hb ho30;obtain ⟨Ao31,co31,eo31⟩:=Kd.jU HO334.out;subst eo31) |((with_reducible refine jd (f:=91) rfl ?_);refine gL (some 39) Try.func91 #[.pointer (some ⟨g,0,none⟩), .slice Ao31 y332.length co31] ?_;(with_reducible refine (ji.calls k1 g s0_0 t331 _ _ y332 t335 t336 w0 _ ?side1 ?side2 ?side3 ?side4 ?side5 A22.out).mono ?_);(case side1=>exact Y9);(case side2=>exact Y13);(case side3=>exact cq (Kd.jh HO334.out).2.2);(case side4=>exact (Kd.jh HO334.out).2.1);(case side5=>exact jzb (jf.own_ne HI0.out HO334.out (by decide)));rintro e w32 ⟨rfl,hi,hb,hk⟩;refine ⟨_,rfl,?_⟩;replace HO_9:=am (Kd.jE (Kd.jxa (jf.apart (show jf w0 _ g s0_0 t331 from Y9) (rq HO_9.out) (by decide)) hk (fun _ h=>h.2)) (fun _ h=>h.1));replace BK314:=am (jb.blk hk (g':=gb314) (o:=.cells #[.slice A1_0 l1_0.length c1_0] 32 (0,0)) (kq BK314.out) NB314_0.out (by simp));replace HO334:=am (Kd.jE (Kd.jxa (jf.apart (show jf w0 _ g s0_0 t331 from Y9) (rq HO334.out) (by decide)) hk (fun _ h=>h.2)) (fun _ h=>h.1));replace HK:=am (jb.trans (Y6) hk (.inl rfl));replace HB:=am (hb);replace HI0:=am (hi);(try clear hb);(try clear hb2);(try clear hk);(try clear hi)) |((with_reducible refine jJa (b:=.append) (xs:=#[.tmp 30, .tmp 41]) rfl ?_);at_builtin;refine Kd.jSb k52 w.heap.size rfl (.tmp 30) (.tmp 41) 34 52 (.agg #[(.int .i64 0),(.int .i64 0),(.int .i64 0),(.int .i64 0)]) 32 rfl Try.underlying34 jyc rfl (by decide) (by omega) u9 x9_1 (⟨a2,8,t335,0⟩:S52) [.int .i64 a2, .int .i64 8, .int .i64 t335, .int .i64 0] (fun _=>True) (fun _=>False) rfl rfl ?aP (fun _ hk=>hk.elim) ?aF ?aO (Below.refl _ _) ?aS ?aL ?_;(case aP=>exact jEb _ _ _ (⟨a2,8,t335,0⟩:S52));(case aF=>exact (fun _ _=>trivial));(case aO=>exact (rq HO_9.out));(case aS=>exact (jJ (w:=w) (g:=g) (row:=none) (Y6)));(case aL=>have:=LMc23.out;omega);intro v338 w33 ho hb hg hat;rw [← Ny337.out] at ho;have n0_:=am (jbb (g:=gb314) (o:=.cells #[.slice A1_0 l1_0.length c1_0] 32 (0,0)) (kq BK314.out) hg (Kd.R_ne HO_9.out BK314.out (by decide)));have n1_:=am (jf.grown (Y9) hg (jf.own_ne HI0.out HO_9.out (by decide)));have n2_:=am (Kd.juc (rq HO334.out) (Kd.jtc (rq HO_9.out)) (by decide) hg);have n3_:=am (jib (Y13) HL.out hb);have n4_:=am (jb.trans (Y6) (jb.jBb hg g) (Kd.jXb HO_9.out));have n5_:=am (ho);clear BK314 HI0 HO334 HB HK HO_9;have BK314:=n0_;have HI0:=n1_;have HO334:=n2_;have HB:=n3_;have HK:=n4_;have HO339:=n5_;clear n0_ n1_ n2_ n3_ n4_ n5_ ho hb hg hat;have hcz34_0:=bc0 BK314.out;have hfz34_0:=ja BK314.out 0) |((with_reducible refine jd (f:=118) rfl ?_);refine gL (some 49) Try.func118 #[.pointer (some ⟨g,0,none⟩), .agg #[.slice A1_0 l1_0.length c1_0], .int .i64 (wrap64 (a2+1)), .bool a3] ?_;(with_reducible refine (ih118 k1 (by have:=HK1.out;omega) g s0_0 t336 _ _ l1_0 (wrap64 (a2+1)) a3 t340 t343 w0 _ ?side1 ?side2 ?side3 ?side4 A24.out).mono ?_);(case side1=>exact Y9);(case side2=>exact Y13);(case side3=>exact Kd.jtb HR1_0.out (Y6));(case side4=>exact HC1_0.out);rintro e w35 ⟨v341,rfl,ho0,hi,hb,hk⟩;refine ⟨_,rfl,?_⟩;have HO342:=am (Kd.jQ (Kd.jxb ho0 (Kd.R_lt (rq HO339.out))) (jJ (w:=w) (g:=g) (row:=none) (Y6)));replace BK314:=am (jb.blk hk (g':=gb314) (o:=.cells #[.slice A1_0 l1_0.length c1_0] 32 (0,0)) (kq BK314.out) NB314_0.out (by simp));replace HO334:=am (Kd.jE (Kd.jxa (jf.apart (show jf w0 _ g s0_0 t336 from Y9) (rq HO334.out) (by decide)) hk (fun _ h=>h.2)) (fun _ h=>h.1));replace HO339:=am (Kd.jE (Kd.R_told (Kd.R_oldK (jf.apart (show jf w0 _ g s0_0 t336 from Y9) (rq HO339.out) (by decide)) hk) (Kd.jyb ho0)) (fun _ h_=>h_.1));replace HK:=am (jb.trans (Y6) hk (.inl rfl));replace HB:=am (hb);replace HI0:=am (hi);(try clear hb);(try clear hb2);(try clear hk);(try clear hi);(try clear ho0);obtain ⟨Ao37,co37,eo37⟩:=Kd.jU HO342.out;subst eo37) |((with_reducible refine jJa (b:=.append) (xs:=#[.tmp 43, .tmp 49]) rfl ?_);at_builtin;refine Kd.jOb k52 w.heap.size rfl (.tmp 43) (.tmp 49) 34 52 (.agg #[(.int .i64 0),(.int .i64 0),(.int .i64 0),(.int .i64 0)]) 32 rfl Try.underlying34 jyc rfl (by decide) (by omega) v338 y337 t340 _ _ _ (fun k_=>some k_≠(.slice Ao37 t340.length co37:Value).ownBlock) (fun _=>False) rfl rfl ?aO ?aR (fun _ _ h=>h) (fun _ h=>h.elim) ?aF (Below.refl _ _) ?aS ?aL ?_;(case aR=>repeat (first | exact (Kd.jh HO342.out).2.2 |(with_reducible refine Kd.jkc ?_ _) |(with_reducible refine Kd.jic ?_ _) |(with_reducible refine Kd.jIc ?_)));(case aF=>exact (fun k_ hk=>Kd.fresh' (Kd.R_lt (rq HO342.out)) k_ hk));(case aO=>exact (by (with_reducible repeat (first | apply Kd.jY | apply Kd.jX | apply Kd.jia));exact Kd.jE HO339.out (fun _ hk=>hk.2)));(case aS=>exact (jJ (w:=w) (g:=g) (row:=none) (Y6)));(case aL=>have:=LMc25.out;omega);intro v345 w36 ho hb hg hat;rw [← Ny344.out] at ho;have n0_:=am (jbb (g:=gb314) (o:=.cells #[.slice A1_0 l1_0.length c1_0] 32 (0,0)) (kq BK314.out) hg (Kd.R_ne HO339.out BK314.out (by decide)));have n1_:=am (jf.grown (Y9) hg (jf.own_ne HI0.out HO339.out (by decide)));have n2_:=am (Kd.juc (rq HO334.out) (Kd.jtc (rq HO339.out)) (by decide) hg);have n3_:=am (Kd.jmc (ok:=(fun _=>True)) (rq HO342.out) hg hat);have n4_:=am (jib (Y13) HL.out hb);have n5_:=am (jb.trans (Y6) (jb.jBb hg g) (Kd.jXb HO339.out));have n6_:=am (ho);clear BK314 HI0 HO334 HO342 HB HK HO339;have BK314:=n0_;have HI0:=n1_;have HO334:=n2_;have HO342:=n3_;have HB:=n4_;have HK:=n5_;have HO346:=n6_;clear n0_ n1_ n2_ n3_ n4_ n5_ n6_ ho hb hg hat))
       go_roundg k1
       case measure=>have:=HK1.out;omega
       case rel=>exact ⟨(y344),(wrap64 (x11_1 - 1)),(t343),(sq),H',⟨by have:=HK1.out;omega⟩,⟨by (with_reducible repeat (first | apply Kd.jY | apply Kd.jX | apply Kd.jia));exact Kd.jE HO346.out (fun _ hk=>trivial)⟩,⟨kq BK314.out⟩,⟨Y9⟩,⟨Y6⟩,⟨Y13⟩⟩
      ·rw [if_neg c25] at H
       exact absurd H (by simp)
     ·rw [if_neg c23] at H
      exact absurd H (by simp)
    ·rw [if_neg c20] at H
     have c20b0:decide (0<x11_1)=false:=dzF c20
     clear c20
     have HC38:=am H
     clear H
     go_upto_region 8 with (fail)
     go_cut [57] (fun v57 wc=>∃ (kq:Nat) (x57_37:Bool) (x1001_37:Int),v57=.bool x57_37∧jq (jW.j1 kq a2 a3 x9_1 t328 x57_37 s0_0 x1001_37 l1_0=some (r1,r2))∧jq (kq≤k1)∧jq (Kd.R k52 52 wc w.heap.size (fun _=>True) u9 x9_1)∧jq (wc.heap[gb314]?=some (.cells #[(.slice A1_0 l1_0.length c1_0)] 32 (0,0)))∧jq (jf w0 wc g s0_0 x1001_37)∧jq (jb w wc g none)∧jq (Below w0.heap.size w0 wc))
     case first =>
      have H:=HC38.out
      clear HC38
      by_cases c39:t328 > 0
      ·rw [if_pos c39] at H
       have c39b0:decide (0<t328)=true:=dzT c39
       clear c39
       (first | rw [c39b0] |(simp only [jhb,jpb];rw [c39b0]) | skip)
       replace H:=bzS H
       obtain ⟨⟨t347,t348⟩,A400,H⟩:=H
       replace H:(jW.j1 k1 a2 a3 x9_1 t328 (t347 == 0) s0_0 t348 l1_0)=some (r1,r2):=H
       have A40:=am A400
       clear A400
       have H':=am H
       clear H
       go_wp2_with (first |(go_at_call 71;(with_reducible refine (jg.calls k1 g s0_0 x1001_1 3 t347 t348 w0 _ ?side1 ?side2 A40.out).mono ?_);(case side1=>exact Y9);(case side2=>exact Y13);rintro e w41 ⟨rfl,hi,hb,hk⟩;replace HO_9:=am (Kd.jE (Kd.jxa (jf.apart (show jf w0 _ g s0_0 x1001_1 from Y9) (rq HO_9.out) (by decide)) hk (fun _ h=>h.2)) (fun _ h=>h.1));replace BK314:=am (jb.blk hk (g':=gb314) (o:=.cells #[.slice A1_0 l1_0.length c1_0] 32 (0,0)) (kq BK314.out) NB314_0.out (by simp));replace HK:=am (jb.trans (Y6) hk (.inl rfl));replace HB:=am (hb);replace HI0:=am (hi);(try clear hb);(try clear hb2);(try clear hk);(try clear hi)))
       go_meet
       case rel=>exact ⟨_,((t347 == 0)),(t348),(sq),H',⟨by have:=HK1.out;first | omega | exact Nat.le_refl _⟩,⟨rq HO_9.out⟩,⟨kq BK314.out⟩,⟨Y9⟩,⟨Y6⟩,⟨Y13⟩⟩
      ·rw [if_neg c39] at H
       have c39b0:decide (0<t328)=false:=dzF c39
       clear c39
       (first | rw [c39b0] |(simp only [jhb,jpb];rw [c39b0]) | skip)
       have H':=am H
       clear H
       go_wp2
       go_meet
       case rel=>exact ⟨_,(false),(x1001_1),(sq),H',⟨by have:=HK1.out;first | omega | exact Nat.le_refl _⟩,⟨rq HO_9.out⟩,⟨kq BK314.out⟩,⟨Y9⟩,⟨Y6⟩,⟨Y13⟩⟩
     case rest =>
      clear HC38
      try clear c1
      try clear c2
      try clear p2
      try clear c3
      try clear c4
      try clear c6
      try clear p6
      try clear c7
      try clear c9
      try clear c11
      try clear c20
      try clear c20b0
      try clear c23
      try clear c25
      try clear c26
      try clear c39
      try clear c39b0
      try clear hcz12_0
      try clear hcz27_0
      try clear hcz34_0
      try clear hfz12_0
      try clear hfz27_0
      try clear hfz34_0
      try clear p2
      try clear p6
      obtain ⟨kq,x57_37,x1001_37,rfl,HA,HJ37,HO_9,BK314,HI0,HK,HB⟩:=hcut
      cases kq with
      | zero=>exact absurd HA.out (by simp [jW.j1])
      | succ kj37 =>
       have H:=HA.out
       clear HA
       simp only [jW.j1] at H
       have HC42:=am H
       clear H
       go_upto_if 57 with (fail)
       go_cut [9] (fun v9 wc=>∃ (kq:Nat) (x9_41:List (S52)) (x1001_41:Int),jq (jW.j2 kq a2 a3 x9_41 t328 s0_0 x1001_41 l1_0=some (r1,r2))∧jq (kq≤kj37)∧jq (Kd.R k52 52 wc w.heap.size (fun _=>True) v9 x9_41)∧jq (wc.heap[gb314]?=some (.cells #[(.slice A1_0 l1_0.length c1_0)] 32 (0,0)))∧jq (jf w0 wc g s0_0 x1001_41)∧jq (jb w wc g none)∧jq (Below w0.heap.size w0 wc))
       case first =>
        have H:=HC42.out
        clear HC42
        by_cases c43:x57_37=true
        ·subst c43
         have H1:(if x9_1.length<4398046511104 then ((some (x9_1 ++ [(⟨a2,9,0,0⟩:S52)]:List (S52))).bind fun y349=>((jI.f kj37 s0_0 x1001_37 l1_0 (wrap64 (a2+1)) a3).bind fun bt352=>(if y349.length+bt352.1.length<4398046511104 then (jW.j2 kj37 a2 a3 (y349 ++ bt352.1) t328 s0_0 bt352.2 l1_0) else (none)))) else (none))=some (r1,r2):=by rw [if_pos rfl] at H;exact H
         clear H
         have H:=H1
         clear H1
         by_cases c44:x9_1.length<4398046511104
         ·rw [if_pos c44] at H
          have LMc44:=am c44
          clear c44
          obtain ⟨y349,hy349⟩:∃ y_:List (S52),y_=(x9_1 ++ [(⟨a2,9,0,0⟩:S52)]):=⟨_,rfl⟩
          replace H:((jI.f kj37 s0_0 x1001_37 l1_0 (wrap64 (a2+1)) a3).bind fun bt352=>(if y349.length+bt352.1.length<4398046511104 then (jW.j2 kj37 a2 a3 (y349 ++ bt352.1) t328 s0_0 bt352.2 l1_0) else (none)))=some (r1,r2):=by first |(rw [hy349];with_reducible exact H) |(have H2_:=(Option.bind_some _ _).symm.trans H;rw [hy349];with_reducible exact H2_) |(have H2_:=(Option.bind_some _ _).symm.trans H;with_reducible exact H2_) | with_reducible exact H |(rw [hy349];exact H) | exact H
          have Ny349:=am hy349
          clear hy349
          replace H:=bzS H
          obtain ⟨⟨t352,t355⟩,A450,H⟩:=H
          replace H:(if y349.length+t352.length<4398046511104 then (jW.j2 kj37 a2 a3 (y349 ++ t352) t328 s0_0 t355 l1_0) else (none))=some (r1,r2):=H
          have A45:=am A450
          clear A450
          by_cases c46:y349.length+t352.length<4398046511104
          ·rw [if_pos c46] at H
           have LMc46:=am c46
           clear c46
           obtain ⟨y356,hy356⟩:∃ y_:List (S52),y_=(y349 ++ t352):=⟨_,rfl⟩
           replace H:(jW.j2 kj37 a2 a3 y356 t328 s0_0 t355 l1_0)=some (r1,r2):=by first |(rw [hy356];with_reducible exact H) |(have H2_:=(Option.bind_some _ _).symm.trans H;rw [hy356];with_reducible exact H2_) |(have H2_:=(Option.bind_some _ _).symm.trans H;with_reducible exact H2_) | with_reducible exact H |(rw [hy356];exact H) | exact H
           have Ny356:=am hy356
           clear hy356
           have H':=am H
           clear H
           go_wp2_with (first |((with_reducible refine jJa (b:=.append) (xs:=#[.tmp 58, .tmp 61]) rfl ?_);at_builtin;refine Kd.jSb k52 w.heap.size rfl (.tmp 58) (.tmp 61) 34 52 (.agg #[(.int .i64 0),(.int .i64 0),(.int .i64 0),(.int .i64 0)]) 32 rfl Try.underlying34 jyc rfl (by decide) (by omega) u9 x9_1 (⟨a2,9,0,0⟩:S52) [.int .i64 a2, .int .i64 9, .int .i64 0, .int .i64 0] (fun _=>True) (fun _=>False) rfl rfl ?aP (fun _ hk=>hk.elim) ?aF ?aO (Below.refl _ _) ?aS ?aL ?_;(case aP=>exact jEb _ _ _ (⟨a2,9,0,0⟩:S52));(case aF=>exact (fun _ _=>trivial));(case aO=>exact (rq HO_9.out));(case aS=>exact (jJ (w:=w) (g:=g) (row:=none) (Y6)));(case aL=>have:=LMc44.out;omega);intro v350 w47 ho hb hg hat;rw [← Ny349.out] at ho;have n0_:=am (jbb (g:=gb314) (o:=.cells #[.slice A1_0 l1_0.length c1_0] 32 (0,0)) (kq BK314.out) hg (Kd.R_ne HO_9.out BK314.out (by decide)));have n1_:=am (jf.grown (Y9) hg (jf.own_ne HI0.out HO_9.out (by decide)));have n2_:=am (jib (Y13) HL.out hb);have n3_:=am (jb.trans (Y6) (jb.jBb hg g) (Kd.jXb HO_9.out));have n4_:=am (ho);clear BK314 HI0 HB HK HO_9;have BK314:=n0_;have HI0:=n1_;have HB:=n2_;have HK:=n3_;have HO351:=n4_;clear n0_ n1_ n2_ n3_ n4_ ho hb hg hat;have hnb48:=NB314_0.out;have hnc48:=NB0_314.out;have hcz49_0:=bc0 BK314.out;have hfz49_0:=ja BK314.out 0) |((with_reducible refine jd (f:=118) rfl ?_);refine gL (some 69) Try.func118 #[.pointer (some ⟨g,0,none⟩), .agg #[.slice A1_0 l1_0.length c1_0], .int .i64 (wrap64 (a2+1)), .bool a3] ?_;(with_reducible refine (ih118 kj37 (by have:=HK1.out;have:=HJ37.out;omega) g s0_0 x1001_37 _ _ l1_0 (wrap64 (a2+1)) a3 t352 t355 w0 _ ?side1 ?side2 ?side3 ?side4 A45.out).mono ?_);(case side1=>exact Y9);(case side2=>exact Y13);(case side3=>exact Kd.jtb HR1_0.out (Y6));(case side4=>exact HC1_0.out);rintro e w50 ⟨v353,rfl,ho0,hi,hb,hk⟩;refine ⟨_,rfl,?_⟩;have HO354:=am (Kd.jQ (Kd.jxb ho0 (Kd.R_lt (rq HO351.out))) (jJ (w:=w) (g:=g) (row:=none) (Y6)));replace BK314:=am (jb.blk hk (g':=gb314) (o:=.cells #[.slice A1_0 l1_0.length c1_0] 32 (0,0)) (kq BK314.out) NB314_0.out (by simp));replace HO351:=am (Kd.jE (Kd.R_told (Kd.R_oldK (jf.apart (show jf w0 _ g s0_0 x1001_37 from Y9) (rq HO351.out) (by decide)) hk) (Kd.jyb ho0)) (fun _ h_=>h_.1));replace HK:=am (jb.trans (Y6) hk (.inl rfl));replace HB:=am (hb);replace HI0:=am (hi);(try clear hb);(try clear hb2);(try clear hk);(try clear hi);(try clear ho0);obtain ⟨Ao52,co52,eo52⟩:=Kd.jU HO354.out;subst eo52) |((with_reducible refine jJa (b:=.append) (xs:=#[.tmp 63, .tmp 69]) rfl ?_);at_builtin;refine Kd.jOb k52 w.heap.size rfl (.tmp 63) (.tmp 69) 34 52 (.agg #[(.int .i64 0),(.int .i64 0),(.int .i64 0),(.int .i64 0)]) 32 rfl Try.underlying34 jyc rfl (by decide) (by omega) v350 y349 t352 _ _ _ (fun k_=>some k_≠(.slice Ao52 t352.length co52:Value).ownBlock) (fun _=>False) rfl rfl ?aO ?aR (fun _ _ h=>h) (fun _ h=>h.elim) ?aF (Below.refl _ _) ?aS ?aL ?_;(case aR=>repeat (first | exact (Kd.jh HO354.out).2.2 |(with_reducible refine Kd.jkc ?_ _) |(with_reducible refine Kd.jic ?_ _) |(with_reducible refine Kd.jIc ?_)));(case aF=>exact (fun k_ hk=>Kd.fresh' (Kd.R_lt (rq HO354.out)) k_ hk));(case aO=>exact (by (with_reducible repeat (first | apply Kd.jY | apply Kd.jX | apply Kd.jia));exact Kd.jE HO351.out (fun _ hk=>hk.2)));(case aS=>exact (jJ (w:=w) (g:=g) (row:=none) (Y6)));(case aL=>have:=LMc46.out;omega);intro v357 w51 ho hb hg hat;rw [← Ny356.out] at ho;have n0_:=am (jbb (g:=gb314) (o:=.cells #[.slice A1_0 l1_0.length c1_0] 32 (0,0)) (kq BK314.out) hg (Kd.R_ne HO351.out BK314.out (by decide)));have n1_:=am (jf.grown (Y9) hg (jf.own_ne HI0.out HO351.out (by decide)));have n2_:=am (Kd.jmc (ok:=(fun _=>True)) (rq HO354.out) hg hat);have n3_:=am (jib (Y13) HL.out hb);have n4_:=am (jb.trans (Y6) (jb.jBb hg g) (Kd.jXb HO351.out));have n5_:=am (ho);clear BK314 HI0 HO354 HB HK HO351;have BK314:=n0_;have HI0:=n1_;have HO354:=n2_;have HB:=n3_;have HK:=n4_;have HO358:=n5_;clear n0_ n1_ n2_ n3_ n4_ n5_ ho hb hg hat))
           go_meet
           case rel=>exact ⟨_,(y356),(t355),H',⟨by have:=HK1.out;have:=HJ37.out;first | omega | exact Nat.le_refl _⟩,⟨by (with_reducible repeat (first | apply Kd.jY | apply Kd.jX | apply Kd.jia));exact Kd.jE HO358.out (fun _ hk=>trivial)⟩,⟨kq BK314.out⟩,⟨Y9⟩,⟨Y6⟩,⟨Y13⟩⟩
          ·rw [if_neg c46] at H
           exact absurd H (by simp)
         ·rw [if_neg c44] at H
          exact absurd H (by simp)
        ·replace c43:=Bool.eq_false_iff.mpr c43
         subst c43
         have H1:(jW.j2 kj37 a2 a3 x9_1 t328 s0_0 x1001_37 l1_0)=some (r1,r2):=by rw [if_neg (show ¬ (false=true) by decide)] at H;exact H
         clear H
         have H:=H1
         clear H1
         have H':=am H
         clear H
         go_wp2
         go_meet
         case rel=>exact ⟨_,(x9_1),(x1001_37),H',⟨by have:=HK1.out;have:=HJ37.out;first | omega | exact Nat.le_refl _⟩,⟨rq HO_9.out⟩,⟨kq BK314.out⟩,⟨Y9⟩,⟨Y6⟩,⟨Y13⟩⟩
       case rest =>
        clear HC42
        try clear c1
        try clear c2
        try clear p2
        try clear c3
        try clear c4
        try clear c6
        try clear p6
        try clear c7
        try clear c9
        try clear c11
        try clear c20
        try clear c20b0
        try clear c23
        try clear c25
        try clear c26
        try clear c39
        try clear c39b0
        try clear c43
        try clear c44
        try clear c46
        try clear c48
        try clear hcz12_0
        try clear hcz27_0
        try clear hcz34_0
        try clear hcz49_0
        try clear hfz12_0
        try clear hfz27_0
        try clear hfz34_0
        try clear hfz49_0
        try clear p2
        try clear p6
        obtain ⟨kq,x9_41,x1001_41,HA,HJ41,HO_9,BK314,HI0,HK,HB⟩:=hcut
        cases kq with
        | zero=>exact absurd HA.out (by simp [jW.j2])
        | succ kj41 =>
         have H:=HA.out
         clear HA
         simp only [jW.j2] at H
         by_cases c53:t328=0
         ·rw [if_pos c53] at H
          have c53b0:(t328 == 0)=true:=beq_iff_eq.mpr c53
          have c53b1:(t328 != 0)=false:=bne_eq_false_iff_eq.mpr c53
          clear c53
          by_cases c54:x9_41.length<4398046511104
          ·rw [if_pos c54] at H
           have LMc54:=am c54
           clear c54
           obtain ⟨y361,hy361⟩:∃ y_:List (S52),y_=(x9_41 ++ [(⟨a2,10,0,0⟩:S52)]):=⟨_,rfl⟩
           replace H:((jI.f kj41 s0_0 x1001_41 l1_0 (wrap64 (a2+1)) a3).bind fun bt364=>(if y361.length+bt364.1.length<4398046511104 then (some ((y361 ++ bt364.1),bt364.2)) else (none)))=some (r1,r2):=by first |(rw [hy361];with_reducible exact H) |(have H2_:=(Option.bind_some _ _).symm.trans H;rw [hy361];with_reducible exact H2_) |(have H2_:=(Option.bind_some _ _).symm.trans H;with_reducible exact H2_) | with_reducible exact H |(rw [hy361];exact H) | exact H
           have Ny361:=am hy361
           clear hy361
           replace H:=bzS H
           obtain ⟨⟨t364,t367⟩,A550,H⟩:=H
           replace H:(if y361.length+t364.length<4398046511104 then (some ((y361 ++ t364),t367)) else (none))=some (r1,r2):=H
           have A55:=am A550
           clear A550
           by_cases c56:y361.length+t364.length<4398046511104
           ·rw [if_pos c56] at H
            have LMc56:=am c56
            clear c56
            obtain ⟨y368,hy368⟩:∃ y_:List (S52),y_=(y361 ++ t364):=⟨_,rfl⟩
            replace H:(some (y368,t367))=some (r1,r2):=by first |(rw [hy368];with_reducible exact H) |(have H2_:=(Option.bind_some _ _).symm.trans H;rw [hy368];with_reducible exact H2_) |(have H2_:=(Option.bind_some _ _).symm.trans H;with_reducible exact H2_) | with_reducible exact H |(rw [hy368];exact H) | exact H
            have Ny368:=am hy368
            clear hy368
            simp only [Option.some.injEq,Prod.mk.injEq] at H
            obtain ⟨rfl,rfl⟩:=H
            go_wp2_with (first |((with_reducible refine jJa (b:=.append) (xs:=#[.tmp 78, .tmp 81]) rfl ?_);at_builtin;refine Kd.jSb k52 w.heap.size rfl (.tmp 78) (.tmp 81) 34 52 (.agg #[(.int .i64 0),(.int .i64 0),(.int .i64 0),(.int .i64 0)]) 32 rfl Try.underlying34 jyc rfl (by decide) (by omega) u9 x9_41 (⟨a2,10,0,0⟩:S52) [.int .i64 a2, .int .i64 10, .int .i64 0, .int .i64 0] (fun _=>True) (fun _=>False) rfl rfl ?aP (fun _ hk=>hk.elim) ?aF ?aO (Below.refl _ _) ?aS ?aL ?_;(case aP=>exact jEb _ _ _ (⟨a2,10,0,0⟩:S52));(case aF=>exact (fun _ _=>trivial));(case aO=>exact (rq HO_9.out));(case aS=>exact (jJ (w:=w) (g:=g) (row:=none) (Y6)));(case aL=>have:=LMc54.out;omega);intro v362 w57 ho hb hg hat;rw [← Ny361.out] at ho;have n0_:=am (jbb (g:=gb314) (o:=.cells #[.slice A1_0 l1_0.length c1_0] 32 (0,0)) (kq BK314.out) hg (Kd.R_ne HO_9.out BK314.out (by decide)));have n1_:=am (jf.grown (Y9) hg (jf.own_ne HI0.out HO_9.out (by decide)));have n2_:=am (jib (Y13) HL.out hb);have n3_:=am (jb.trans (Y6) (jb.jBb hg g) (Kd.jXb HO_9.out));have n4_:=am (ho);clear BK314 HI0 HB HK HO_9;have BK314:=n0_;have HI0:=n1_;have HB:=n2_;have HK:=n3_;have HO363:=n4_;clear n0_ n1_ n2_ n3_ n4_ ho hb hg hat;have hnb58:=NB314_0.out;have hnc58:=NB0_314.out;have hcz59_0:=bc0 BK314.out;have hfz59_0:=ja BK314.out 0) |((with_reducible refine jd (f:=118) rfl ?_);refine gL (some 89) Try.func118 #[.pointer (some ⟨g,0,none⟩), .agg #[.slice A1_0 l1_0.length c1_0], .int .i64 (wrap64 (a2+1)), .bool a3] ?_;(with_reducible refine (ih118 kj41 (by have:=HK1.out;have:=HJ37.out;have:=HJ41.out;omega) g s0_0 x1001_41 _ _ l1_0 (wrap64 (a2+1)) a3 t364 t367 w0 _ ?side1 ?side2 ?side3 ?side4 A55.out).mono ?_);(case side1=>exact Y9);(case side2=>exact Y13);(case side3=>exact Kd.jtb HR1_0.out (Y6));(case side4=>exact HC1_0.out);rintro e w60 ⟨v365,rfl,ho0,hi,hb,hk⟩;refine ⟨_,rfl,?_⟩;have HO366:=am (Kd.jQ (Kd.jxb ho0 (Kd.R_lt (rq HO363.out))) (jJ (w:=w) (g:=g) (row:=none) (Y6)));replace BK314:=am (jb.blk hk (g':=gb314) (o:=.cells #[.slice A1_0 l1_0.length c1_0] 32 (0,0)) (kq BK314.out) NB314_0.out (by simp));replace HO363:=am (Kd.jE (Kd.R_told (Kd.R_oldK (jf.apart (show jf w0 _ g s0_0 x1001_41 from Y9) (rq HO363.out) (by decide)) hk) (Kd.jyb ho0)) (fun _ h_=>h_.1));replace HK:=am (jb.trans (Y6) hk (.inl rfl));replace HB:=am (hb);replace HI0:=am (hi);(try clear hb);(try clear hb2);(try clear hk);(try clear hi);(try clear ho0);obtain ⟨Ao62,co62,eo62⟩:=Kd.jU HO366.out;subst eo62) |((with_reducible refine jJa (b:=.append) (xs:=#[.tmp 83, .tmp 89]) rfl ?_);at_builtin;refine Kd.jOb k52 w.heap.size rfl (.tmp 83) (.tmp 89) 34 52 (.agg #[(.int .i64 0),(.int .i64 0),(.int .i64 0),(.int .i64 0)]) 32 rfl Try.underlying34 jyc rfl (by decide) (by omega) v362 y361 t364 _ _ _ (fun k_=>some k_≠(.slice Ao62 t364.length co62:Value).ownBlock) (fun _=>False) rfl rfl ?aO ?aR (fun _ _ h=>h) (fun _ h=>h.elim) ?aF (Below.refl _ _) ?aS ?aL ?_;(case aR=>repeat (first | exact (Kd.jh HO366.out).2.2 |(with_reducible refine Kd.jkc ?_ _) |(with_reducible refine Kd.jic ?_ _) |(with_reducible refine Kd.jIc ?_)));(case aF=>exact (fun k_ hk=>Kd.fresh' (Kd.R_lt (rq HO366.out)) k_ hk));(case aO=>exact (by (with_reducible repeat (first | apply Kd.jY | apply Kd.jX | apply Kd.jia));exact Kd.jE HO363.out (fun _ hk=>hk.2)));(case aS=>exact (jJ (w:=w) (g:=g) (row:=none) (Y6)));(case aL=>have:=LMc56.out;omega);intro v369 w61 ho hb hg hat;rw [← Ny368.out] at ho;have n0_:=am (jbb (g:=gb314) (o:=.cells #[.slice A1_0 l1_0.length c1_0] 32 (0,0)) (kq BK314.out) hg (Kd.R_ne HO363.out BK314.out (by decide)));have n1_:=am (jf.grown (Y9) hg (jf.own_ne HI0.out HO363.out (by decide)));have n2_:=am (Kd.jmc (ok:=(fun _=>True)) (rq HO366.out) hg hat);have n3_:=am (jib (Y13) HL.out hb);have n4_:=am (jb.trans (Y6) (jb.jBb hg g) (Kd.jXb HO363.out));have n5_:=am (ho);clear BK314 HI0 HO366 HB HK HO363;have BK314:=n0_;have HI0:=n1_;have HO366:=n2_;have HB:=n3_;have HK:=n4_;have HO370:=n5_;clear n0_ n1_ n2_ n3_ n4_ n5_ ho hb hg hat))
            go_ret
            exact ⟨_,Y0,by (with_reducible repeat (first | apply Kd.jY | apply Kd.jX | apply Kd.jia));exact Kd.jE HO370.out (fun _ hk=>trivial),Y9,Y13,Y6⟩
           ·rw [if_neg c56] at H
            exact absurd H (by simp)
          ·rw [if_neg c54] at H
           exact absurd H (by simp)
         ·rw [if_neg c53] at H
          have c53b0:(t328 == 0)=false:=beq_eq_false_iff_ne.mpr c53
          have c53b1:(t328 != 0)=true:=bne_iff_ne.mpr c53
          replace H:=bzS H
          obtain ⟨⟨t359,t360⟩,A630,H⟩:=H
          replace H:(if t359=0 then (if x9_41.length<4398046511104 then ((some (x9_41 ++ [(⟨a2,10,0,0⟩:S52)]:List (S52))).bind fun y371=>((jI.f kj41 s0_0 t360 l1_0 (wrap64 (a2+1)) a3).bind fun bt374=>(if y371.length+bt374.1.length<4398046511104 then (some ((y371 ++ bt374.1),bt374.2)) else (none)))) else (none)) else (some (x9_41,t360)))=some (r1,r2):=H
          have A63:=am A630
          clear A630
          by_cases c64:t359=0
          ·rw [if_pos c64] at H
           have c64b0:(t359 == 0)=true:=beq_iff_eq.mpr c64
           have c64b1:(t359 != 0)=false:=bne_eq_false_iff_eq.mpr c64
           clear c64
           by_cases c65:x9_41.length<4398046511104
           ·rw [if_pos c65] at H
            have LMc65:=am c65
            clear c65
            obtain ⟨y371,hy371⟩:∃ y_:List (S52),y_=(x9_41 ++ [(⟨a2,10,0,0⟩:S52)]):=⟨_,rfl⟩
            replace H:((jI.f kj41 s0_0 t360 l1_0 (wrap64 (a2+1)) a3).bind fun bt374=>(if y371.length+bt374.1.length<4398046511104 then (some ((y371 ++ bt374.1),bt374.2)) else (none)))=some (r1,r2):=by first |(rw [hy371];with_reducible exact H) |(have H2_:=(Option.bind_some _ _).symm.trans H;rw [hy371];with_reducible exact H2_) |(have H2_:=(Option.bind_some _ _).symm.trans H;with_reducible exact H2_) | with_reducible exact H |(rw [hy371];exact H) | exact H
            have Ny371:=am hy371
            clear hy371
            replace H:=bzS H
            obtain ⟨⟨t374,t377⟩,A660,H⟩:=H
            replace H:(if y371.length+t374.length<4398046511104 then (some ((y371 ++ t374),t377)) else (none))=some (r1,r2):=H
            have A66:=am A660
            clear A660
            by_cases c67:y371.length+t374.length<4398046511104
            ·rw [if_pos c67] at H
             have LMc67:=am c67
             clear c67
             obtain ⟨y378,hy378⟩:∃ y_:List (S52),y_=(y371 ++ t374):=⟨_,rfl⟩
             replace H:(some (y378,t377))=some (r1,r2):=by first |(rw [hy378];with_reducible exact H) |(have H2_:=(Option.bind_some _ _).symm.trans H;rw [hy378];with_reducible exact H2_) |(have H2_:=(Option.bind_some _ _).symm.trans H;with_reducible exact H2_) | with_reducible exact H |(rw [hy378];exact H) | exact H
             have Ny378:=am hy378
             clear hy378
             simp only [Option.some.injEq,Prod.mk.injEq] at H
             obtain ⟨rfl,rfl⟩:=H
             go_wp2_with (first |(go_at_call 71;(with_reducible refine (jg.calls kj41 g s0_0 x1001_41 2 t359 t360 w0 _ ?side1 ?side2 A63.out).mono ?_);(case side1=>exact Y9);(case side2=>exact Y13);rintro e w68 ⟨rfl,hi,hb,hk⟩;replace HO_9:=am (Kd.jE (Kd.jxa (jf.apart (show jf w0 _ g s0_0 x1001_41 from Y9) (rq HO_9.out) (by decide)) hk (fun _ h=>h.2)) (fun _ h=>h.1));replace BK314:=am (jb.blk hk (g':=gb314) (o:=.cells #[.slice A1_0 l1_0.length c1_0] 32 (0,0)) (kq BK314.out) NB314_0.out (by simp));replace HK:=am (jb.trans (Y6) hk (.inl rfl));replace HB:=am (hb);replace HI0:=am (hi);(try clear hb);(try clear hb2);(try clear hk);(try clear hi)) |((with_reducible refine jJa (b:=.append) (xs:=#[.tmp 78, .tmp 81]) rfl ?_);at_builtin;refine Kd.jSb k52 w.heap.size rfl (.tmp 78) (.tmp 81) 34 52 (.agg #[(.int .i64 0),(.int .i64 0),(.int .i64 0),(.int .i64 0)]) 32 rfl Try.underlying34 jyc rfl (by decide) (by omega) u9 x9_41 (⟨a2,10,0,0⟩:S52) [.int .i64 a2, .int .i64 10, .int .i64 0, .int .i64 0] (fun _=>True) (fun _=>False) rfl rfl ?aP (fun _ hk=>hk.elim) ?aF ?aO (Below.refl _ _) ?aS ?aL ?_;(case aP=>exact jEb _ _ _ (⟨a2,10,0,0⟩:S52));(case aF=>exact (fun _ _=>trivial));(case aO=>exact (rq HO_9.out));(case aS=>exact (jJ (w:=w) (g:=g) (row:=none) (Y6)));(case aL=>have:=LMc65.out;omega);intro v372 w69 ho hb hg hat;rw [← Ny371.out] at ho;have n0_:=am (jbb (g:=gb314) (o:=.cells #[.slice A1_0 l1_0.length c1_0] 32 (0,0)) (kq BK314.out) hg (Kd.R_ne HO_9.out BK314.out (by decide)));have n1_:=am (jf.grown (Y9) hg (jf.own_ne HI0.out HO_9.out (by decide)));have n2_:=am (jib (Y13) HL.out hb);have n3_:=am (jb.trans (Y6) (jb.jBb hg g) (Kd.jXb HO_9.out));have n4_:=am (ho);clear BK314 HI0 HB HK HO_9;have BK314:=n0_;have HI0:=n1_;have HB:=n2_;have HK:=n3_;have HO373:=n4_;clear n0_ n1_ n2_ n3_ n4_ ho hb hg hat;have hnb70:=NB314_0.out;have hnc70:=NB0_314.out;have hcz71_0:=bc0 BK314.out;have hfz71_0:=ja BK314.out 0) |((with_reducible refine jd (f:=118) rfl ?_);refine gL (some 89) Try.func118 #[.pointer (some ⟨g,0,none⟩), .agg #[.slice A1_0 l1_0.length c1_0], .int .i64 (wrap64 (a2+1)), .bool a3] ?_;(with_reducible refine (ih118 kj41 (by have:=HK1.out;have:=HJ37.out;have:=HJ41.out;omega) g s0_0 t360 _ _ l1_0 (wrap64 (a2+1)) a3 t374 t377 w0 _ ?side1 ?side2 ?side3 ?side4 A66.out).mono ?_);(case side1=>exact Y9);(case side2=>exact Y13);(case side3=>exact Kd.jtb HR1_0.out (Y6));(case side4=>exact HC1_0.out);rintro e w72 ⟨v375,rfl,ho0,hi,hb,hk⟩;refine ⟨_,rfl,?_⟩;have HO376:=am (Kd.jQ (Kd.jxb ho0 (Kd.R_lt (rq HO373.out))) (jJ (w:=w) (g:=g) (row:=none) (Y6)));replace BK314:=am (jb.blk hk (g':=gb314) (o:=.cells #[.slice A1_0 l1_0.length c1_0] 32 (0,0)) (kq BK314.out) NB314_0.out (by simp));replace HO373:=am (Kd.jE (Kd.R_told (Kd.R_oldK (jf.apart (show jf w0 _ g s0_0 t360 from Y9) (rq HO373.out) (by decide)) hk) (Kd.jyb ho0)) (fun _ h_=>h_.1));replace HK:=am (jb.trans (Y6) hk (.inl rfl));replace HB:=am (hb);replace HI0:=am (hi);(try clear hb);(try clear hb2);(try clear hk);(try clear hi);(try clear ho0);obtain ⟨Ao74,co74,eo74⟩:=Kd.jU HO376.out;subst eo74) |((with_reducible refine jJa (b:=.append) (xs:=#[.tmp 83, .tmp 89]) rfl ?_);at_builtin;refine Kd.jOb k52 w.heap.size rfl (.tmp 83) (.tmp 89) 34 52 (.agg #[(.int .i64 0),(.int .i64 0),(.int .i64 0),(.int .i64 0)]) 32 rfl Try.underlying34 jyc rfl (by decide) (by omega) v372 y371 t374 _ _ _ (fun k_=>some k_≠(.slice Ao74 t374.length co74:Value).ownBlock) (fun _=>False) rfl rfl ?aO ?aR (fun _ _ h=>h) (fun _ h=>h.elim) ?aF (Below.refl _ _) ?aS ?aL ?_;(case aR=>repeat (first | exact (Kd.jh HO376.out).2.2 |(with_reducible refine Kd.jkc ?_ _) |(with_reducible refine Kd.jic ?_ _) |(with_reducible refine Kd.jIc ?_)));(case aF=>exact (fun k_ hk=>Kd.fresh' (Kd.R_lt (rq HO376.out)) k_ hk));(case aO=>exact (by (with_reducible repeat (first | apply Kd.jY | apply Kd.jX | apply Kd.jia));exact Kd.jE HO373.out (fun _ hk=>hk.2)));(case aS=>exact (jJ (w:=w) (g:=g) (row:=none) (Y6)));(case aL=>have:=LMc67.out;omega);intro v379 w73 ho hb hg hat;rw [← Ny378.out] at ho;have n0_:=am (jbb (g:=gb314) (o:=.cells #[.slice A1_0 l1_0.length c1_0] 32 (0,0)) (kq BK314.out) hg (Kd.R_ne HO373.out BK314.out (by decide)));have n1_:=am (jf.grown (Y9) hg (jf.own_ne HI0.out HO373.out (by decide)));have n2_:=am (Kd.jmc (ok:=(fun _=>True)) (rq HO376.out) hg hat);have n3_:=am (jib (Y13) HL.out hb);have n4_:=am (jb.trans (Y6) (jb.jBb hg g) (Kd.jXb HO373.out));have n5_:=am (ho);clear BK314 HI0 HO376 HB HK HO373;have BK314:=n0_;have HI0:=n1_;have HO376:=n2_;have HB:=n3_;have HK:=n4_;have HO380:=n5_;clear n0_ n1_ n2_ n3_ n4_ n5_ ho hb hg hat))
             go_ret
             exact ⟨_,Y0,by (with_reducible repeat (first | apply Kd.jY | apply Kd.jX | apply Kd.jia));exact Kd.jE HO380.out (fun _ hk=>trivial),Y9,Y13,Y6⟩
            ·rw [if_neg c67] at H
             exact absurd H (by simp)
           ·rw [if_neg c65] at H
            exact absurd H (by simp)
          ·rw [if_neg c64] at H
           have c64b0:(t359 == 0)=false:=beq_eq_false_iff_ne.mpr c64
           have c64b1:(t359 != 0)=true:=bne_iff_ne.mpr c64
           simp only [Option.some.injEq,Prod.mk.injEq] at H
           obtain ⟨rfl,rfl⟩:=H
           go_wp2_with (first |(go_at_call 71;(with_reducible refine (jg.calls kj41 g s0_0 x1001_41 2 t359 t360 w0 _ ?side1 ?side2 A63.out).mono ?_);(case side1=>exact Y9);(case side2=>exact Y13);rintro e w75 ⟨rfl,hi,hb,hk⟩;replace HO_9:=am (Kd.jE (Kd.jxa (jf.apart (show jf w0 _ g s0_0 x1001_41 from Y9) (rq HO_9.out) (by decide)) hk (fun _ h=>h.2)) (fun _ h=>h.1));replace BK314:=am (jb.blk hk (g':=gb314) (o:=.cells #[.slice A1_0 l1_0.length c1_0] 32 (0,0)) (kq BK314.out) NB314_0.out (by simp));replace HK:=am (jb.trans (Y6) hk (.inl rfl));replace HB:=am (hb);replace HI0:=am (hi);(try clear hb);(try clear hb2);(try clear hk);(try clear hi)))
           go_ret
           exact ⟨_,Y0,rq HO_9.out,Y9,Y13,Y6⟩
 ·rw [if_neg c6] at H
  exact absurd H (by simp)
set_option maxHeartbeats 8000000 in
set_option maxRecDepth 100000 in
theorem jA.calls_all : ∀ k, (∀ (g : Nat) (s0_0 : List Int) (s0_1 : Int) (A1_0 : Option Addr) (c1_0 : Nat) (l1_0 : List (S87)) (a2 : Int) (a3 : Bool) (r1 : List (S52)) (r2 : Int) (w0 w : World) (hI : jf w0 w g s0_0 s0_1) (hB : Below w0.heap.size w0 w) (hr1_0 : ∀ W_, jb w W_ g none → Kd.C k87 W_ A1_0 l1_0.length l1_0) (hc1_0 : l1_0.length ≤ c1_0) (h : jA.f k s0_0 s0_1 l1_0 a2 a3 = some (r1, r2)), Calls Try.prog 119 #[.pointer (some ⟨g, 0, none⟩), .agg #[.slice A1_0 l1_0.length c1_0], .int .i64 a2, .bool a3] w fun e w' => ∃ v0_ : Value, e = .returned (v0_) ∧ Kd.R k52 52 w' w.heap.size (fun _ => True) v0_ r1 ∧ jf w0 w' g s0_0 r2 ∧ Below w0.heap.size w0 w' ∧ jb w w' g none) ∧ (∀ (g : Nat) (s0_0 : List Int) (s0_1 : Int) (A1_0 : Option Addr) (c1_0 : Nat) (l1_0 : List (S87)) (a2 : Int) (a3 : Bool) (r1 : List (S52)) (r2 : Int) (w0 w : World) (hI : jf w0 w g s0_0 s0_1) (hB : Below w0.heap.size w0 w) (hr1_0 : ∀ W_, jb w W_ g none → Kd.C k87 W_ A1_0 l1_0.length l1_0) (hc1_0 : l1_0.length ≤ c1_0) (h : jI.f k s0_0 s0_1 l1_0 a2 a3 = some (r1, r2)), Calls Try.prog 118 #[.pointer (some ⟨g, 0, none⟩), .agg #[.slice A1_0 l1_0.length c1_0], .int .i64 a2, .bool a3] w fun e w' => ∃ v0_ : Value, e = .returned (v0_) ∧ Kd.R k52 52 w' w.heap.size (fun _ => True) v0_ r1 ∧ jf w0 w' g s0_0 r2 ∧ Below w0.heap.size w0 w' ∧ jb w w' g none) ∧ (∀ (g : Nat) (s0_0 : List Int) (s0_1 : Int) (A1_0 : Option Addr) (c1_0 : Nat) (l1_0 : List (S87)) (a2 : Int) (a3 : Bool) (r1 : List (S52)) (r2 : Int) (w0 w : World) (hI : jf w0 w g s0_0 s0_1) (hB : Below w0.heap.size w0 w) (hr1_0 : ∀ W_, jb w W_ g none → Kd.C k87 W_ A1_0 l1_0.length l1_0) (hc1_0 : l1_0.length ≤ c1_0) (h : jW.f k s0_0 s0_1 l1_0 a2 a3 = some (r1, r2)), Calls Try.prog 117 #[.pointer (some ⟨g, 0, none⟩), .agg #[.slice A1_0 l1_0.length c1_0], .int .i64 a2, .bool a3] w fun e w' => ∃ v0_ : Value, e = .returned (v0_) ∧ Kd.R k52 52 w' w.heap.size (fun _ => True) v0_ r1 ∧ jf w0 w' g s0_0 r2 ∧ Below w0.heap.size w0 w' ∧ jb w w' g none) := by
 intro k
 induction k using Nat.strongRecOn with
 | _ k ih =>
 exact ⟨jA.calls_of k (fun k_ hk_=>(ih k_ hk_).1) (fun k_ hk_=>(ih k_ hk_).2.1) (fun k_ hk_=>(ih k_ hk_).2.2),jI.calls_of k (fun k_ hk_=>(ih k_ hk_).1) (fun k_ hk_=>(ih k_ hk_).2.1) (fun k_ hk_=>(ih k_ hk_).2.2),jW.calls_of k (fun k_ hk_=>(ih k_ hk_).1) (fun k_ hk_=>(ih k_ hk_).2.1) (fun k_ hk_=>(ih k_ hk_).2.2)⟩
theorem jI.calls (k : Nat) : ∀ (g : Nat) (s0_0 : List Int) (s0_1 : Int) (A1_0 : Option Addr) (c1_0 : Nat) (l1_0 : List (S87)) (a2 : Int) (a3 : Bool) (r1 : List (S52)) (r2 : Int) (w0 w : World) (hI : jf w0 w g s0_0 s0_1) (hB : Below w0.heap.size w0 w) (hr1_0 : ∀ W_, jb w W_ g none → Kd.C k87 W_ A1_0 l1_0.length l1_0) (hc1_0 : l1_0.length ≤ c1_0) (h : jI.f k s0_0 s0_1 l1_0 a2 a3 = some (r1, r2)), Calls Try.prog 118 #[.pointer (some ⟨g, 0, none⟩), .agg #[.slice A1_0 l1_0.length c1_0], .int .i64 a2, .bool a3] w fun e w' => ∃ v0_ : Value, e = .returned (v0_) ∧ Kd.R k52 52 w' w.heap.size (fun _ => True) v0_ r1 ∧ jf w0 w' g s0_0 r2 ∧ Below w0.heap.size w0 w' ∧ jb w w' g none := (jA.calls_all k).2.1
theorem jW.calls (k : Nat) : ∀ (g : Nat) (s0_0 : List Int) (s0_1 : Int) (A1_0 : Option Addr) (c1_0 : Nat) (l1_0 : List (S87)) (a2 : Int) (a3 : Bool) (r1 : List (S52)) (r2 : Int) (w0 w : World) (hI : jf w0 w g s0_0 s0_1) (hB : Below w0.heap.size w0 w) (hr1_0 : ∀ W_, jb w W_ g none → Kd.C k87 W_ A1_0 l1_0.length l1_0) (hc1_0 : l1_0.length ≤ c1_0) (h : jW.f k s0_0 s0_1 l1_0 a2 a3 = some (r1, r2)), Calls Try.prog 117 #[.pointer (some ⟨g, 0, none⟩), .agg #[.slice A1_0 l1_0.length c1_0], .int .i64 a2, .bool a3] w fun e w' => ∃ v0_ : Value, e = .returned (v0_) ∧ Kd.R k52 52 w' w.heap.size (fun _ => True) v0_ r1 ∧ jf w0 w' g s0_0 r2 ∧ Below w0.heap.size w0 w' ∧ jb w w' g none := (jA.calls_all k).2.2
mutual
def jC.l0 : Nat → Int → List Int → Int → List (S87) → Option ((List (S52)) × Int)
 | 0,_,_,_,_=>none
 | k+1,x5,x1000,x1001,x382000=>if x5<4 then ((jW.f k x1000 x1001 x382000 0 false).bind fun bt385=>((jg.f k x1000 bt385.2 3).bind fun bt389=>(if bt389.1=0 then ((jI.f k x1000 bt389.2 x382000 0 false).bind fun bt391=>(if bt385.1.length+bt391.1.length<4398046511104 then (jC.j1 k x5 (bt385.1 ++ bt391.1) x1000 bt391.2 x382000) else (none))) else (jC.j1 k x5 bt385.1 x1000 bt389.2 x382000)))) else (some ((([(⟨0,7,0,0⟩:S52),(⟨1,2,0,1⟩:S52),(⟨0,10,0,0⟩:S52),(⟨1,1,1,0⟩:S52)]:List (S52))),x1001))
def jC.j1 : Nat → Int → List (S52) → List Int → Int → List (S87) → Option ((List (S52)) × Int)
 | 0,_,_,_,_,_=>none
 | k+1,x5,x6,x1000,x1001,x382000=>(jg.f k x1000 x1001 4).bind fun bt398=>(if bt398.1=0 then ((jI.f k x1000 bt398.2 x382000 0 false).bind fun bt400=>(jC.j2 k x5 bt400.1 x1000 bt400.2 x382000)) else (jC.j2 k x5 x6 x1000 bt398.2 x382000))
def jC.j2 : Nat → Int → List (S52) → List Int → Int → List (S87) → Option ((List (S52)) × Int)
 | 0,_,_,_,_,_=>none
 | k+1,x5,x6,x1000,x1001,x382000=>if (x6.length:Int)≤24 then (some (x6,x1001)) else (jC.l0 k (wrap64 (x5+1)) x1000 x1001 x382000)
end
def jC.f (k : Nat) (s0_0 : List Int) (s0_1 : Int) (l1_0 : List (S87)) : Option ((List (S52)) × Int) := jC.l0 k 0 s0_0 s0_1 l1_0
set_option maxHeartbeats 8000000 in
set_option maxRecDepth 100000 in
theorem jC.calls (k : Nat) (g : Nat) (s0_0 : List Int) (s0_1 : Int) (A1_0 : Option Addr) (c1_0 : Nat) (l1_0 : List (S87)) (r1 : List (S52)) (r2 : Int) (w0 w : World) (hI : jf w0 w g s0_0 s0_1) (hB : Below w0.heap.size w0 w) (hr1_0 : ∀ W_, jb w W_ g none → Kd.C k87 W_ A1_0 l1_0.length l1_0) (hc1_0 : l1_0.length ≤ c1_0) (h : jC.f k s0_0 s0_1 l1_0 = some (r1, r2)) :
  Calls Try.prog 111 #[.pointer (some ⟨g,0,none⟩), .agg #[.slice A1_0 l1_0.length c1_0]] w fun e w'=>∃ v0_:Value,e=.returned (v0_)∧Kd.R k52 52 w' w.heap.size (fun _=>True) v0_ r1∧jf w0 w' g s0_0 r2∧Below w0.heap.size w0 w'∧jb w w' g none:=by
 have hu32:=Try.underlying32
 have hu52:=Try.underlying52
 have HR1_0:=am hr1_0
 have HC1_0:=am hc1_0
 clear hr1_0 hc1_0
 have HI0:=am hI
 have HK:=am (jb.refl w g none)
 have HL:=am hB.size
 clear hI
 have HW0:=am hB.size
 have HB:=am hB
 clear hB
 have H:(jC.l0 k 0 s0_0 s0_1 l1_0)=some (r1,r2):=h
 clear h
 have H':=am H
 clear H
 go_enter Try.func111,Try.ntmps111
 go_wp2_with (first |((with_reducible refine jM (N:=3) rfl ?_);refine bE (N:=3) (cs:=#[.slice A1_0 l1_0.length c1_0]) (t:=32) ?_;intro gb381 hg w3 hbox hb;have BK381:=am (hbox);have GW381:=am ((Y12:w.heap.size≤gb381));have GE381:=am ((Nat.le_trans HW0.out (Y12:w.heap.size≤gb381):w0.heap.size≤gb381));have NB0_381:=am ((Y27:g≠gb381));have NB381_0:=am ((Y28:gb381≠g));replace HK:=am (jb.trans (Y17) (jb.of_below hb g none) (.inl rfl));replace HB:=am (je (Y18) hb);replace HI0:=am (jf.below (Y16) hb);clear hb hbox hg))
 go_loopg [5] k (fun kq v5 w'=>∃ (x5_1:Int) (x1001_1:Int),v5=.int .i64 x5_1∧jq (jC.l0 kq x5_1 s0_0 x1001_1 l1_0=some (r1,r2))∧jq (kq≤k)∧jq (w'.heap[gb381]?=some (.cells #[(.slice A1_0 l1_0.length c1_0)] 32 (0,0)))∧jq (jf w0 w' g s0_0 x1001_1)∧jq (jb w w' g none)∧jq (Below w0.heap.size w0 w'))
 case atStart=>exact ⟨(0),(s0_1),(sq),H',⟨Nat.le_refl _⟩,⟨kq BK381.out⟩,⟨Y23⟩,⟨Y20⟩,⟨Y33⟩⟩
 case round =>
  clear H'
  try clear c1
  try clear p2
  obtain ⟨x5_1,x1001_1,rfl,HA,HK1,BK381,HI0,HK,HB⟩:=hrel
  cases gk with
  | zero=>exact absurd HA.out (by simp [jC.l0])
  | succ k1 =>
   have H:=HA.out
   clear HA
   simp only [jC.l0] at H
   by_cases c4:x5_1<4
   ·rw [if_pos c4] at H
    have c4b0:decide (x5_1<4)=true:=dzT c4
    clear c4
    replace H:=bzS H
    obtain ⟨⟨t385,t388⟩,A50,H⟩:=H
    replace H:((jg.f k1 s0_0 t388 3).bind fun bt389=>(if bt389.1=0 then ((jI.f k1 s0_0 bt389.2 l1_0 0 false).bind fun bt391=>(if t385.length+bt391.1.length<4398046511104 then (jC.j1 k1 x5_1 (t385 ++ bt391.1) s0_0 bt391.2 l1_0) else (none))) else (jC.j1 k1 x5_1 t385 s0_0 bt389.2 l1_0)))=some (r1,r2):=H
    have A5:=am A50
    clear A50
    replace H:=bzS H
    obtain ⟨⟨t389,t390⟩,A60,H⟩:=H
    replace H:(if t389=0 then ((jI.f k1 s0_0 t390 l1_0 0 false).bind fun bt391=>(if t385.length+bt391.1.length<4398046511104 then (jC.j1 k1 x5_1 (t385 ++ bt391.1) s0_0 bt391.2 l1_0) else (none))) else (jC.j1 k1 x5_1 t385 s0_0 t390 l1_0))=some (r1,r2):=H
    have A6:=am A60
    clear A60
    have HC7:=am H
    clear H
    have hnb8:=NB381_0.out
    have hnc8:=NB0_381.out
    have hcz9_0:=bc0 BK381.out
    have hfz9_0:=ja BK381.out 0
    go_upto_if 16 with (first |((with_reducible refine jd (f:=117) rfl ?_);refine gL (some 13) Try.func117 #[.pointer (some ⟨g,0,none⟩), .agg #[.slice A1_0 l1_0.length c1_0], .int .i64 0, .bool false] ?_;(with_reducible refine (jW.calls k1 g s0_0 x1001_1 _ _ l1_0 0 false t385 t388 w0 _ ?side1 ?side2 ?side3 ?side4 A5.out).mono ?_);(case side1=>exact Y23);(case side2=>exact Y33);(case side3=>exact Kd.jtb HR1_0.out (Y20));(case side4=>exact HC1_0.out);rintro e w10 ⟨v386,rfl,ho0,hi,hb,hk⟩;refine ⟨_,rfl,?_⟩;have HO387:=am (Kd.jQ ho0 (jJ (w:=w) (g:=g) (row:=none) (Y20)));replace BK381:=am (jb.blk hk (g':=gb381) (o:=.cells #[.slice A1_0 l1_0.length c1_0] 32 (0,0)) (kq BK381.out) NB381_0.out (by simp));replace HK:=am (jb.trans (Y20) hk (.inl rfl));replace HB:=am (hb);replace HI0:=am (hi);(try clear hb);(try clear hb2);(try clear hk);(try clear hi);(try clear ho0)) |((with_reducible refine jd (f:=71) rfl ?_);refine gL (some 15) Try.func71 #[.pointer (some ⟨g,0,none⟩), .int .i64 3] ?_;(with_reducible refine (jg.calls k1 g s0_0 t388 3 t389 t390 w0 _ ?side1 ?side2 A6.out).mono ?_);(case side1=>exact Y23);(case side2=>exact Y33);rintro e w11 ⟨rfl,hi,hb,hk⟩;refine ⟨_,rfl,?_⟩;replace BK381:=am (jb.blk hk (g':=gb381) (o:=.cells #[.slice A1_0 l1_0.length c1_0] 32 (0,0)) (kq BK381.out) NB381_0.out (by simp));replace HO387:=am (Kd.jE (Kd.jxa (jf.apart (show jf w0 _ g s0_0 t388 from Y23) (rq HO387.out) (by decide)) hk (fun _ h=>h.2)) (fun _ h=>h.1));replace HK:=am (jb.trans (Y20) hk (.inl rfl));replace HB:=am (hb);replace HI0:=am (hi);(try clear hb);(try clear hb2);(try clear hk);(try clear hi)))
    (try simp only [Act.put,List.setIfInBounds_toArray,List.set_cons_zero,List.set_cons_succ])
    go_cut [6] (fun v6 wc=>∃ (kq:Nat) (x6_6:List (S52)) (x1001_6:Int),jq (jC.j1 kq x5_1 x6_6 s0_0 x1001_6 l1_0=some (r1,r2))∧jq (kq≤k1)∧jq (Kd.R k52 52 wc w.heap.size (fun _=>True) v6 x6_6)∧jq (wc.heap[gb381]?=some (.cells #[(.slice A1_0 l1_0.length c1_0)] 32 (0,0)))∧jq (jf w0 wc g s0_0 x1001_6)∧jq (jb w wc g none)∧jq (Below w0.heap.size w0 wc))
    case first =>
     have H:=HC7.out
     clear HC7
     by_cases c12:t389=0
     ·rw [if_pos c12] at H
      have c12b0:(t389 == 0)=true:=beq_iff_eq.mpr c12
      have c12b1:(t389 != 0)=false:=bne_eq_false_iff_eq.mpr c12
      clear c12
      (first | rw [c12b0] |(simp only [jhb,jpb];rw [c12b0]) | skip)
      replace H:=bzS H
      obtain ⟨⟨t391,t394⟩,A130,H⟩:=H
      replace H:(if t385.length+t391.length<4398046511104 then (jC.j1 k1 x5_1 (t385 ++ t391) s0_0 t394 l1_0) else (none))=some (r1,r2):=H
      have A13:=am A130
      clear A130
      by_cases c14:t385.length+t391.length<4398046511104
      ·rw [if_pos c14] at H
       have LMc14:=am c14
       clear c14
       obtain ⟨y395,hy395⟩:∃ y_:List (S52),y_=(t385 ++ t391):=⟨_,rfl⟩
       replace H:(jC.j1 k1 x5_1 y395 s0_0 t394 l1_0)=some (r1,r2):=by first |(rw [hy395];with_reducible exact H) |(have H2_:=(Option.bind_some _ _).symm.trans H;rw [hy395];with_reducible exact H2_) |(have H2_:=(Option.bind_some _ _).symm.trans H;with_reducible exact H2_) | with_reducible exact H |(rw [hy395];exact H) | exact H
       have Ny395:=am hy395
       clear hy395
       have H':=am H
       clear H
       have hnb15:=NB381_0.out
       have hnc15:=NB0_381.out
       have hcz16_0:=bc0 BK381.out
       have hfz16_0:=ja BK381.out 0
       go_wp2_with (first |((with_reducible refine jd (f:=118) rfl ?_);refine gL (some 20) Try.func118 #[.pointer (some ⟨g,0,none⟩), .agg #[.slice A1_0 l1_0.length c1_0], .int .i64 0, .bool false] ?_;(with_reducible refine (jI.calls k1 g s0_0 t390 _ _ l1_0 0 false t391 t394 w0 _ ?side1 ?side2 ?side3 ?side4 A13.out).mono ?_);(case side1=>exact Y23);(case side2=>exact Y33);(case side3=>exact Kd.jtb HR1_0.out (Y20));(case side4=>exact HC1_0.out);rintro e w17 ⟨v392,rfl,ho0,hi,hb,hk⟩;refine ⟨_,rfl,?_⟩;have HO393:=am (Kd.jQ (Kd.jxb ho0 (Kd.R_lt (rq HO387.out))) (jJ (w:=w) (g:=g) (row:=none) (Y20)));replace BK381:=am (jb.blk hk (g':=gb381) (o:=.cells #[.slice A1_0 l1_0.length c1_0] 32 (0,0)) (kq BK381.out) NB381_0.out (by simp));replace HO387:=am (Kd.jE (Kd.R_told (Kd.R_oldK (jf.apart (show jf w0 _ g s0_0 t390 from Y23) (rq HO387.out) (by decide)) hk) (Kd.jyb ho0)) (fun _ h_=>h_.1));replace HK:=am (jb.trans (Y20) hk (.inl rfl));replace HB:=am (hb);replace HI0:=am (hi);(try clear hb);(try clear hb2);(try clear hk);(try clear hi);(try clear ho0);obtain ⟨Ao19,co19,eo19⟩:=Kd.jU HO393.out;subst eo19) |((with_reducible refine jJa (b:=.append) (xs:=#[.tmp 17, .tmp 20]) rfl ?_);at_builtin;refine Kd.jOb k52 w.heap.size rfl (.tmp 17) (.tmp 20) 34 52 (.agg #[(.int .i64 0),(.int .i64 0),(.int .i64 0),(.int .i64 0)]) 32 rfl Try.underlying34 jyc rfl (by decide) (by omega) v386 t385 t391 _ _ _ (fun k_=>some k_≠(.slice Ao19 t391.length co19:Value).ownBlock) (fun _=>False) rfl rfl ?aO ?aR (fun _ _ h=>h) (fun _ h=>h.elim) ?aF (Below.refl _ _) ?aS ?aL ?_;(case aR=>repeat (first | exact (Kd.jh HO393.out).2.2 |(with_reducible refine Kd.jkc ?_ _) |(with_reducible refine Kd.jic ?_ _) |(with_reducible refine Kd.jIc ?_)));(case aF=>exact (fun k_ hk=>Kd.fresh' (Kd.R_lt (rq HO393.out)) k_ hk));(case aO=>exact (by (with_reducible repeat (first | apply Kd.jY | apply Kd.jX | apply Kd.jia));exact Kd.jE HO387.out (fun _ hk=>hk.2)));(case aS=>exact (jJ (w:=w) (g:=g) (row:=none) (Y20)));(case aL=>have:=LMc14.out;omega);intro v396 w18 ho hb hg hat;rw [← Ny395.out] at ho;have n0_:=am (jbb (g:=gb381) (o:=.cells #[.slice A1_0 l1_0.length c1_0] 32 (0,0)) (kq BK381.out) hg (Kd.R_ne HO387.out BK381.out (by decide)));have n1_:=am (jf.grown (Y23) hg (jf.own_ne HI0.out HO387.out (by decide)));have n2_:=am (Kd.jmc (ok:=(fun _=>True)) (rq HO393.out) hg hat);have n3_:=am (jib (Y33) HL.out hb);have n4_:=am (jb.trans (Y20) (jb.jBb hg g) (Kd.jXb HO387.out));have n5_:=am (ho);clear BK381 HI0 HO393 HB HK HO387;have BK381:=n0_;have HI0:=n1_;have HO393:=n2_;have HB:=n3_;have HK:=n4_;have HO397:=n5_;clear n0_ n1_ n2_ n3_ n4_ n5_ ho hb hg hat))
       go_meet
       case rel=>exact ⟨_,(y395),(t394),H',⟨by have:=HK1.out;first | omega | exact Nat.le_refl _⟩,⟨by (with_reducible repeat (first | apply Kd.jY | apply Kd.jX | apply Kd.jia));exact Kd.jE HO397.out (fun _ hk=>trivial)⟩,⟨kq BK381.out⟩,⟨Y23⟩,⟨Y20⟩,⟨Y33⟩⟩
      ·rw [if_neg c14] at H
       exact absurd H (by simp)
     ·rw [if_neg c12] at H
      have c12b0:(t389 == 0)=false:=beq_eq_false_iff_ne.mpr c12
      have c12b1:(t389 != 0)=true:=bne_iff_ne.mpr c12
      (first | rw [c12b0] |(simp only [jhb,jpb];rw [c12b0]) | skip)
      have H':=am H
      clear H
      go_wp2
      go_meet
      case rel=>exact ⟨_,(t385),(t390),H',⟨by have:=HK1.out;first | omega | exact Nat.le_refl _⟩,⟨rq HO387.out⟩,⟨kq BK381.out⟩,⟨Y23⟩,⟨Y20⟩,⟨Y33⟩⟩
    case rest =>
     clear HC7
     try clear c1
     try clear p2
     try clear c4
     try clear c4b0
     try clear c7
     try clear c8
     try clear c11
     try clear c12
     try clear c12b0
     try clear c12b1
     try clear c14
     try clear c15
     try clear hcz16_0
     try clear hcz9_0
     try clear hfz16_0
     try clear hfz9_0
     try clear p2
     obtain ⟨kq,x6_6,x1001_6,HA,HJ6,HO_6,BK381,HI0,HK,HB⟩:=hcut
     cases kq with
     | zero=>exact absurd HA.out (by simp [jC.j1])
     | succ kj6 =>
      have H:=HA.out
      clear HA
      simp only [jC.j1] at H
      replace H:=bzS H
      obtain ⟨⟨t398,t399⟩,A200,H⟩:=H
      replace H:(if t398=0 then ((jI.f kj6 s0_0 t399 l1_0 0 false).bind fun bt400=>(jC.j2 kj6 x5_1 bt400.1 s0_0 bt400.2 l1_0)) else (jC.j2 kj6 x5_1 x6_6 s0_0 t399 l1_0))=some (r1,r2):=H
      have A20:=am A200
      clear A200
      have HC21:=am H
      clear H
      go_upto_if 24 with (first |((with_reducible refine jd (f:=71) rfl ?_);refine gL (some 23) Try.func71 #[.pointer (some ⟨g,0,none⟩), .int .i64 4] ?_;(with_reducible refine (jg.calls kj6 g s0_0 x1001_6 4 t398 t399 w0 _ ?side1 ?side2 A20.out).mono ?_);(case side1=>exact Y23);(case side2=>exact Y33);rintro e w22 ⟨rfl,hi,hb,hk⟩;refine ⟨_,rfl,?_⟩;replace HO_6:=am (Kd.jE (Kd.jxa (jf.apart (show jf w0 _ g s0_0 x1001_6 from Y23) (rq HO_6.out) (by decide)) hk (fun _ h=>h.2)) (fun _ h=>h.1));replace BK381:=am (jb.blk hk (g':=gb381) (o:=.cells #[.slice A1_0 l1_0.length c1_0] 32 (0,0)) (kq BK381.out) NB381_0.out (by simp));replace HK:=am (jb.trans (Y20) hk (.inl rfl));replace HB:=am (hb);replace HI0:=am (hi);(try clear hb);(try clear hb2);(try clear hk);(try clear hi)))
      (try simp only [Act.put,List.setIfInBounds_toArray,List.set_cons_zero,List.set_cons_succ])
      go_cut [6] (fun v6 wc=>∃ (kq:Nat) (x6_20:List (S52)) (x1001_20:Int),jq (jC.j2 kq x5_1 x6_20 s0_0 x1001_20 l1_0=some (r1,r2))∧jq (kq≤kj6)∧jq (Kd.R k52 52 wc w.heap.size (fun _=>True) v6 x6_20)∧jq (wc.heap[gb381]?=some (.cells #[(.slice A1_0 l1_0.length c1_0)] 32 (0,0)))∧jq (jf w0 wc g s0_0 x1001_20)∧jq (jb w wc g none)∧jq (Below w0.heap.size w0 wc))
      case first =>
       have H:=HC21.out
       clear HC21
       by_cases c23:t398=0
       ·rw [if_pos c23] at H
        have c23b0:(t398 == 0)=true:=beq_iff_eq.mpr c23
        have c23b1:(t398 != 0)=false:=bne_eq_false_iff_eq.mpr c23
        clear c23
        (first | rw [c23b0] |(simp only [jhb,jpb];rw [c23b0]) | skip)
        replace H:=bzS H
        obtain ⟨⟨t400,t403⟩,A240,H⟩:=H
        replace H:(jC.j2 kj6 x5_1 t400 s0_0 t403 l1_0)=some (r1,r2):=H
        have A24:=am A240
        clear A240
        have H':=am H
        clear H
        have hnb25:=NB381_0.out
        have hnc25:=NB0_381.out
        have hcz26_0:=bc0 BK381.out
        have hfz26_0:=ja BK381.out 0
        go_wp2_with (first |((with_reducible refine jd (f:=118) rfl ?_);refine gL (some 27) Try.func118 #[.pointer (some ⟨g,0,none⟩), .agg #[.slice A1_0 l1_0.length c1_0], .int .i64 0, .bool false] ?_;(with_reducible refine (jI.calls kj6 g s0_0 t399 _ _ l1_0 0 false t400 t403 w0 _ ?side1 ?side2 ?side3 ?side4 A24.out).mono ?_);(case side1=>exact Y23);(case side2=>exact Y33);(case side3=>exact Kd.jtb HR1_0.out (Y20));(case side4=>exact HC1_0.out);rintro e w27 ⟨v401,rfl,ho0,hi,hb,hk⟩;refine ⟨_,rfl,?_⟩;have HO402:=am (Kd.jQ (Kd.jxb ho0 (Kd.R_lt (rq HO_6.out))) (jJ (w:=w) (g:=g) (row:=none) (Y20)));replace HO_6:=am (Kd.jE (Kd.R_told (Kd.R_oldK (jf.apart (show jf w0 _ g s0_0 t399 from Y23) (rq HO_6.out) (by decide)) hk) (Kd.jyb ho0)) (fun _ h_=>h_.1));replace BK381:=am (jb.blk hk (g':=gb381) (o:=.cells #[.slice A1_0 l1_0.length c1_0] 32 (0,0)) (kq BK381.out) NB381_0.out (by simp));replace HK:=am (jb.trans (Y20) hk (.inl rfl));replace HB:=am (hb);replace HI0:=am (hi);(try clear hb);(try clear hb2);(try clear hk);(try clear hi);(try clear ho0)))
        go_meet
        case rel=>exact ⟨_,(t400),(t403),H',⟨by have:=HK1.out;have:=HJ6.out;first | omega | exact Nat.le_refl _⟩,⟨by (with_reducible repeat (first | apply Kd.jY | apply Kd.jX | apply Kd.jia));exact Kd.jE HO402.out (fun _ hk=>trivial)⟩,⟨kq BK381.out⟩,⟨Y23⟩,⟨Y20⟩,⟨Y33⟩⟩
       ·rw [if_neg c23] at H
        have c23b0:(t398 == 0)=false:=beq_eq_false_iff_ne.mpr c23
        have c23b1:(t398 != 0)=true:=bne_iff_ne.mpr c23
        (first | rw [c23b0] |(simp only [jhb,jpb];rw [c23b0]) | skip)
        have H':=am H
        clear H
        go_wp2
        go_meet
        case rel=>exact ⟨_,(x6_6),(t399),H',⟨by have:=HK1.out;have:=HJ6.out;first | omega | exact Nat.le_refl _⟩,⟨rq HO_6.out⟩,⟨kq BK381.out⟩,⟨Y23⟩,⟨Y20⟩,⟨Y33⟩⟩
      case rest =>
       clear HC21
       try clear c1
       try clear c2
       try clear p2
       try clear c4
       try clear c4b0
       try clear c7
       try clear c8
       try clear c11
       try clear c12
       try clear c12b0
       try clear c12b1
       try clear c14
       try clear c15
       try clear c23
       try clear c23b0
       try clear c23b1
       try clear c25
       try clear hcz16_0
       try clear hcz26_0
       try clear hcz9_0
       try clear hfz16_0
       try clear hfz26_0
       try clear hfz9_0
       try clear p2
       obtain ⟨kq,x6_20,x1001_20,HA,HJ20,HO_6,BK381,HI0,HK,HB⟩:=hcut
       cases kq with
       | zero=>exact absurd HA.out (by simp [jC.j2])
       | succ kj20 =>
        have H:=HA.out
        clear HA
        simp only [jC.j2] at H
        by_cases c28:(x6_20.length:Int)≤24
        ·rw [if_pos c28] at H
         have c28b0:decide ((x6_20.length:Int)≤24)=true:=dzT c28
         have c28b1:decide (x6_20.length≤24)=true:=dzT (by omega)
         clear c28
         simp only [Option.some.injEq,Prod.mk.injEq] at H
         obtain ⟨rfl,rfl⟩:=H
         obtain ⟨Ao29,co29,eo29⟩:=Kd.jU HO_6.out
         subst eo29
         go_wp2
         go_ret
         exact ⟨_,Y0,rq HO_6.out,Y23,Y33,Y20⟩
        ·rw [if_neg c28] at H
         have c28b0:decide ((x6_20.length:Int)≤24)=false:=dzF c28
         have c28b1:decide (x6_20.length≤24)=false:=dzF (by omega)
         clear c28
         have H':=am H
         clear H
         obtain ⟨Ao30,co30,eo30⟩:=Kd.jU HO_6.out
         subst eo30
         go_wp2
         go_roundg kj20
         case measure=>have:=HK1.out;have:=HJ6.out;have:=HJ20.out;omega
         case rel=>exact ⟨(wrap64 (x5_1+1)),(x1001_20),(sq),H',⟨by have:=HK1.out;have:=HJ6.out;have:=HJ20.out;omega⟩,⟨kq BK381.out⟩,⟨Y23⟩,⟨Y20⟩,⟨Y33⟩⟩
   ·rw [if_neg c4] at H
    have c4b0:decide (x5_1<4)=false:=dzF c4
    clear c4
    obtain ⟨y382,hy382⟩:∃ y_:List (S52),y_=(([(⟨0,7,0,0⟩:S52),(⟨1,2,0,1⟩:S52),(⟨0,10,0,0⟩:S52),(⟨1,1,1,0⟩:S52)]:List (S52))):=⟨_,rfl⟩
    replace H:(some (y382,x1001_1))=some (r1,r2):=by first |(rw [hy382];with_reducible exact H) |(have H2_:=(Option.bind_some _ _).symm.trans H;rw [hy382];with_reducible exact H2_) |(have H2_:=(Option.bind_some _ _).symm.trans H;with_reducible exact H2_) | with_reducible exact H |(rw [hy382];exact H) | exact H
    have Ny382:=am hy382
    clear hy382
    simp only [Option.some.injEq,Prod.mk.injEq] at H
    obtain ⟨rfl,rfl⟩:=H
    go_wp2_with (first |((with_reducible refine jM (N:=36) rfl ?_);refine Kd.jbc k52 _ 52 ?hg (N:=36) ?hd (xs:=([(⟨0,7,0,0⟩:S52),(⟨1,2,0,1⟩:S52),(⟨0,10,0,0⟩:S52),(⟨1,1,1,0⟩:S52)]:List (S52))) (inner:=[.int .i64 0, .int .i64 7, .int .i64 0, .int .i64 0, .int .i64 1, .int .i64 2, .int .i64 0, .int .i64 1, .int .i64 0, .int .i64 10, .int .i64 0, .int .i64 0, .int .i64 1, .int .i64 1, .int .i64 1, .int .i64 0]) (ok:=fun _=>True) (okp:=fun _=>True) ?hr ?hp (fun _ hk=>hk) trivial (Below.refl _ _) (Nat.le_refl _) (by simp) ?_;(case hd=>rfl);(case hg=>rfl);(case hr=>exact Y7);(case hp=>exact (Reps.c4 (show Kd.M k52 _ _ _ (⟨0,7,0,0⟩:S52) [.int .i64 0, .int .i64 7, .int .i64 0, .int .i64 0] from (jEb _ _ _ (⟨0,7,0,0⟩:S52) )) (Reps.c4 (show Kd.M k52 _ _ _ (⟨1,2,0,1⟩:S52) [.int .i64 1, .int .i64 2, .int .i64 0, .int .i64 1] from (jEb _ _ _ (⟨1,2,0,1⟩:S52) )) (Reps.c4 (show Kd.M k52 _ _ _ (⟨0,10,0,0⟩:S52) [.int .i64 0, .int .i64 10, .int .i64 0, .int .i64 0] from (jEb _ _ _ (⟨0,10,0,0⟩:S52) )) (Reps.c4 (show Kd.M k52 _ _ _ (⟨1,1,1,0⟩:S52) [.int .i64 1, .int .i64 1, .int .i64 1, .int .i64 0] from (jEb _ _ _ (⟨1,1,1,0⟩:S52) )) (Reps.none _ _))))));intro v383 w31 ho32 hb hg_ hnew_;clear hg_ hnew_;(first | rw [← Ny382.out] at ho32 |(simp only [Int.reduceToNat] at ho32;rw [← Ny382.out] at ho32));have HO384:=am (Kd.jQ ho32 (jJ (w:=w) (g:=g) (row:=none) (Y20)));replace BK381:=am (jm (g:=gb381) (o:=.cells #[.slice A1_0 l1_0.length c1_0] 32 (0,0)) (kq BK381.out) hb);replace HK:=am (jb.trans (Y20) (jb.of_below hb g none) (.inl rfl));replace HB:=am (je (Y33) hb);replace HI0:=am (jf.below (Y23) hb);clear hb ho32))
    go_ret
    exact ⟨_,Y0,rq HO384.out,Y23,Y33,Y20⟩
end Go.Proofs.Ytkokajljeebgdaa.P
end
