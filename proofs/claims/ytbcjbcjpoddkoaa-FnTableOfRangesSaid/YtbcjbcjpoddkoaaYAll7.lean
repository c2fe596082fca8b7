/- One part of the proofs on this program: functions of the program as plain functions, that the code comes to them, and facts on them. -/
import Derived.Test.YtbcjbcjpoddkoaaYAll1
import Derived.Test.YtbcjbcjpoddkoaaYAll4
import Derived.Test.YtbcjbcjpoddkoaaYAll5
import Derived.Test.YtbcjbcjpoddkoaaYAll6
import Derived.Test.YtbcjbcjpoddkoaaYWAuto
section
namespace Go.Proofs.Ytbcjbcjpoddkoaa.P
open Go.RowKit Go.Proofs.YtbcjbcjpoddkoaaW.PrintWords Go.Proofs.YtbcjbcjpoddkoaaW.PrintLast Go.Proofs.YtbcjbcjpoddkoaaW.PrintMore
attribute [local go_sem] jra jpa jCa jBa jga jfa jqa joa jo
set_option linter.unusedVariables false
set_option linter.unusedSimpArgs false
set_option maxHeartbeats 8000000 in
set_option maxRecDepth 100000 in
theorem jR.calls_of (k : Nat) (ih104 : ∀ k_, k_ < k → ∀ (g : Nat) (s0_0 : List Int) (s0_1 : Int) (A1_0 : Option Addr) (c1_0 : Nat) (l1_0 : List (S98)) (a2 : Int) (a3 : Bool) (r1 : List (S59)) (r2 : Int) (w0 w : World) (hI : jc w0 w g s0_0 s0_1) (hB : Below w0.heap.size w0 w) (hr1_0 : ∀ W_, jb w W_ g none → Kd.C k98 W_ A1_0 l1_0.length l1_0) (hc1_0 : l1_0.length ≤ c1_0) (h : jy.f k_ s0_0 s0_1 l1_0 a2 a3 = some (r1, r2)), Calls Try.prog 104 #[.pointer (some ⟨g, 0, none⟩), .agg #[.slice A1_0 l1_0.length c1_0], .int .i64 a2, .bool a3] w fun e w' => ∃ v0_ : Value, e = .returned (v0_) ∧ Kd.R k59 59 w' w.heap.size (fun _ => True) v0_ r1 ∧ jc w0 w' g s0_0 r2 ∧ Below w0.heap.size w0 w' ∧ jb w w' g none) (ih98 : ∀ k_, k_ < k → ∀ (g : Nat) (s0_0 : List Int) (s0_1 : Int) (A1_0 : Option Addr) (c1_0 : Nat) (l1_0 : List (S98)) (a2 : Int) (a3 : Bool) (r1 : List (S59)) (r2 : Int) (w0 w : World) (hI : jc w0 w g s0_0 s0_1) (hB : Below w0.heap.size w0 w) (hr1_0 : ∀ W_, jb w W_ g none → Kd.C k98 W_ A1_0 l1_0.length l1_0) (hc1_0 : l1_0.length ≤ c1_0) (h : jJ.f k_ s0_0 s0_1 l1_0 a2 a3 = some (r1, r2)), Calls Try.prog 98 #[.pointer (some ⟨g, 0, none⟩), .agg #[.slice A1_0 l1_0.length c1_0], .int .i64 a2, .bool a3] w fun e w' => ∃ v0_ : Value, e = .returned (v0_) ∧ Kd.R k59 59 w' w.heap.size (fun _ => True) v0_ r1 ∧ jc w0 w' g s0_0 r2 ∧ Below w0.heap.size w0 w' ∧ jb w w' g none) (ih97 : ∀ k_, k_ < k → ∀ (g : Nat) (s0_0 : List Int) (s0_1 : Int) (A1_0 : Option Addr) (c1_0 : Nat) (l1_0 : List (S98)) (a2 : Int) (a3 : Bool) (r1 : List (S59)) (r2 : Int) (w0 w : World) (hI : jc w0 w g s0_0 s0_1) (hB : Below w0.heap.size w0 w) (hr1_0 : ∀ W_, jb w W_ g none → Kd.C k98 W_ A1_0 l1_0.length l1_0) (hc1_0 : l1_0.length ≤ c1_0) (h : jR.f k_ s0_0 s0_1 l1_0 a2 a3 = some (r1, r2)), Calls Try.prog 97 #[.pointer (some ⟨g, 0, none⟩), .agg #[.slice A1_0 l1_0.length c1_0], .int .i64 a2, .bool a3] w fun e w' => ∃ v0_ : Value, e = .returned (v0_) ∧ Kd.R k59 59 w' w.heap.size (fun _ => True) v0_ r1 ∧ jc w0 w' g s0_0 r2 ∧ Below w0.heap.size w0 w' ∧ jb w w' g none) : ∀ (g : Nat) (s0_0 : List Int) (s0_1 : Int) (A1_0 : Option Addr) (c1_0 : Nat) (l1_0 : List (S98)) (a2 : Int) (a3 : Bool) (r1 : List (S59)) (r2 : Int) (w0 w : World) (hI : jc w0 w g s0_0 s0_1) (hB : Below w0.heap.size w0 w) (hr1_0 : ∀ W_, jb w W_ g none → Kd.C k98 W_ A1_0 l1_0.length l1_0) (hc1_0 : l1_0.length ≤ c1_0) (h : jR.f k s0_0 s0_1 l1_0 a2 a3 = some (r1, r2)),
  Calls Try.prog 97 #[.pointer (some ⟨g,0,none⟩), .agg #[.slice A1_0 l1_0.length c1_0], .int .i64 a2, .bool a3] w fun e w'=>∃ v0_:Value,e=.returned (v0_)∧Kd.R k59 59 w' w.heap.size (fun _=>True) v0_ r1∧jc w0 w' g s0_0 r2∧Below w0.heap.size w0 w'∧jb w w' g none:=by
 intro g s0_0 s0_1 A1_0 c1_0 l1_0 a2 a3 r1 r2 w0 w hI hB hr1_0 hc1_0 h
 cases k with
 | zero=>exact absurd h (by simp [jR.f])
 | succ k =>
 simp only [jR.f] at h
 have hu32:=Try.underlying32
 have hu59:=Try.underlying59
 have HR1_0:=am hr1_0
 have HC1_0:=am hc1_0
 clear hr1_0 hc1_0
 have HI0:=am hI
 have HK:=am (jb.refl w g none)
 have HL:=am hB.size
 clear hI
 have HW0:=am hB.size
 have HB:=am hB
 clear hB
 have H:((some (([(⟨a2,7,0,0⟩:S59)]:List (S59)):List (S59))).bind fun y515=>((jJ.f k s0_0 s0_1 l1_0 (wrap64 (a2+1)) a3).bind fun bt518=>(if y515.length+bt518.1.length<4398046511104 then ((jh.f k s0_0 bt518.2 (([1,2,0,1]:List Int))).bind fun bt528=>(jR.l0 k a2 a3 (y515 ++ bt518.1) bt528.1 bt528.1 s0_0 bt528.2 l1_0)) else (none))))=some (r1,r2):=h
 clear h
 obtain ⟨y515,hy515⟩:∃ y_:List (S59),y_=(([(⟨a2,7,0,0⟩:S59)]:List (S59))):=⟨_,rfl⟩
 replace H:((jJ.f k s0_0 s0_1 l1_0 (wrap64 (a2+1)) a3).bind fun bt518=>(if y515.length+bt518.1.length<4398046511104 then ((jh.f k s0_0 bt518.2 (([1,2,0,1]:List Int))).bind fun bt528=>(jR.l0 k a2 a3 (y515 ++ bt518.1) bt528.1 bt528.1 s0_0 bt528.2 l1_0)) else (none)))=some (r1,r2):=by first |(rw [hy515];with_reducible exact H) |(have H2_:=(Option.bind_some _ _).symm.trans H;rw [hy515];with_reducible exact H2_) |(have H2_:=(Option.bind_some _ _).symm.trans H;with_reducible exact H2_) | with_reducible exact H |(rw [hy515];exact H) | exact H
 have Ny515:=am hy515
 clear hy515
 replace H:=bzS H
 obtain ⟨⟨t518,t521⟩,A50,H⟩:=H
 replace H:(if y515.length+t518.length<4398046511104 then ((jh.f k s0_0 t521 (([1,2,0,1]:List Int))).bind fun bt528=>(jR.l0 k a2 a3 (y515 ++ t518) bt528.1 bt528.1 s0_0 bt528.2 l1_0)) else (none))=some (r1,r2):=H
 have A5:=am A50
 clear A50
 by_cases c6:y515.length+t518.length<4398046511104
 ·rw [if_pos c6] at H
  have LMc6:=am c6
  clear c6
  obtain ⟨y522,hy522⟩:∃ y_:List (S59),y_=(y515 ++ t518):=⟨_,rfl⟩
  replace H:((jh.f k s0_0 t521 (([1,2,0,1]:List Int))).bind fun bt528=>(jR.l0 k a2 a3 y522 bt528.1 bt528.1 s0_0 bt528.2 l1_0))=some (r1,r2):=by first |(rw [hy522];with_reducible exact H) |(have H2_:=(Option.bind_some _ _).symm.trans H;rw [hy522];with_reducible exact H2_) |(have H2_:=(Option.bind_some _ _).symm.trans H;with_reducible exact H2_) | with_reducible exact H |(rw [hy522];exact H) | exact H
  have Ny522:=am hy522
  clear hy522
  obtain ⟨y525,hy525⟩:∃ y_:List Int,y_=(([1,2,0,1]:List Int)):=⟨_,rfl⟩
  replace H:((jh.f k s0_0 t521 y525).bind fun bt528=>(jR.l0 k a2 a3 y522 bt528.1 bt528.1 s0_0 bt528.2 l1_0))=some (r1,r2):=by first |(rw [hy525];with_reducible exact H) |(have H2_:=(Option.bind_some _ _).symm.trans H;rw [hy525];with_reducible exact H2_) |(have H2_:=(Option.bind_some _ _).symm.trans H;with_reducible exact H2_) | with_reducible exact H |(rw [hy525];exact H) | exact H
  have Ny525:=am hy525
  clear hy525
  replace H:=bzS H
  obtain ⟨⟨t528,t529⟩,A70,H⟩:=H
  replace H:(jR.l0 k a2 a3 y522 t528 t528 s0_0 t529 l1_0)=some (r1,r2):=H
  have A7:=am A70
  clear A70
  have H':=am H
  clear H
  go_enter Try.func97,Try.ntmps97
  go_wp2_with (first |((with_reducible refine jQ (N:=5) rfl ?_);refine bE (N:=5) (cs:=#[.slice A1_0 l1_0.length c1_0]) (t:=32) ?_;intro gb514 hg w8 hbox hb;have BK514:=am (hbox);have GW514:=am ((Y12:w.heap.size≤gb514));have GE514:=am ((Nat.le_trans HW0.out (Y12:w.heap.size≤gb514):w0.heap.size≤gb514));have NB0_514:=am ((Y28:g≠gb514));have NB514_0:=am ((Y29:gb514≠g));replace HK:=am (jb.trans (Y17) (jb.of_below hb g none) (.inl rfl));replace HB:=am (ji (Y18) hb);replace HI0:=am (jc.below (Y16) hb);clear hb hbox hg) |((with_reducible refine jQ (N:=14) rfl ?_);refine Kd.jMb k59 _ 59 ?hg (N:=14) ?hd (xs:=([(⟨a2,7,0,0⟩:S59)]:List (S59))) (inner:=[.int .i64 a2, .int .i64 7, .int .i64 0, .int .i64 0]) (ok:=fun _=>True) (okp:=fun _=>True) ?hr ?hp (fun _ hk=>hk) trivial (Below.refl _ _) (Nat.le_refl _) (by simp) ?_;(case hd=>rfl);(case hg=>rfl);(case hr=>exact Y8);(case hp=>exact (Reps.c4 (show Kd.M k59 _ _ _ (⟨a2,7,0,0⟩:S59) [.int .i64 a2, .int .i64 7, .int .i64 0, .int .i64 0] from (jpb _ _ _ (⟨a2,7,0,0⟩:S59) )) (Reps.none _ _)));intro v516 w9 ho10 hb hg_ hnew_;clear hg_ hnew_;(first | rw [← Ny515.out] at ho10 |(simp only [Int.reduceToNat] at ho10;rw [← Ny515.out] at ho10));have HO517:=am (Kd.jX ho10 (jM (w:=w) (g:=g) (row:=none) (Y4)));replace BK514:=am (jq (g:=gb514) (o:=.cells #[.slice A1_0 l1_0.length c1_0] 32 (0,0)) (kq BK514.out) hb);replace HK:=am (jb.trans (Y4) (jb.of_below hb g none) (.inl rfl));replace HB:=am (ji (Y11) hb);replace HI0:=am (jc.below (Y7) hb);clear hb ho10;have hnb11:=NB514_0.out;have hnc11:=NB0_514.out;have hcz12_0:=bc0 BK514.out;have hfz12_0:=ja BK514.out 0) |((with_reducible refine jg (f:=98) rfl ?_);refine gL (some 20) Try.func98 #[.pointer (some ⟨g,0,none⟩), .agg #[.slice A1_0 l1_0.length c1_0], .int .i64 (wrap64 (a2+1)), .bool a3] ?_;(with_reducible refine (ih98 k (by omega) g s0_0 s0_1 _ _ l1_0 (wrap64 (a2+1)) a3 t518 t521 w0 _ ?side1 ?side2 ?side3 ?side4 A5.out).mono ?_);(case side1=>exact Y7);(case side2=>exact Y11);(case side3=>exact Kd.jgb HR1_0.out (Y4));(case side4=>exact HC1_0.out);rintro e w13 ⟨v519,rfl,ho0,hi,hb,hk⟩;refine ⟨_,rfl,?_⟩;have HO520:=am (Kd.jX (Kd.jEb ho0 (Kd.R_lt (rq HO517.out))) (jM (w:=w) (g:=g) (row:=none) (Y4)));replace BK514:=am (jb.blk hk (g':=gb514) (o:=.cells #[.slice A1_0 l1_0.length c1_0] 32 (0,0)) (kq BK514.out) NB514_0.out (by simp));replace HO517:=am (Kd.jI (Kd.R_told (Kd.R_oldK (jc.apart (show jc w0 _ g s0_0 s0_1 from Y7) (rq HO517.out) (by decide)) hk) (Kd.jGb ho0)) (fun _ h_=>h_.1));replace HK:=am (jb.trans (Y4) hk (.inl rfl));replace HB:=am (hb);replace HI0:=am (hi);(try clear hb);(try clear hb2);(try clear hk);(try clear hi);(try clear ho0);obtain ⟨Ao15,co15,eo15⟩:=Kd.jaa HO520.out;subst eo15) |((with_reducible refine jJa (b:=.append) (xs:=#[.tmp 14, .tmp 20]) rfl ?_);at_builtin;refine Kd.jxb k59 w.heap.size rfl (.tmp 14) (.tmp 20) 34 59 (.agg #[(.int .i64 0),(.int .i64 0),(.int .i64 0),(.int .i64 0)]) 32 rfl Try.underlying34 jmc rfl (by decide) (by omega) v516 y515 t518 _ _ _ (fun k_=>some k_≠(.slice Ao15 t518.length co15:Value).ownBlock) (fun _=>False) rfl rfl ?aO ?aR (fun _ _ h=>h) (fun _ h=>h.elim) ?aF (Below.refl _ _) ?aS ?aL ?_;(case aR=>repeat (first | exact (Kd.jm HO520.out).2.2 |(with_reducible refine Kd.jjc ?_ _) |(with_reducible refine Kd.jcc ?_ _) |(with_reducible refine Kd.C_drew ?_)));(case aF=>exact (fun k_ hk=>Kd.fresh' (Kd.R_lt (rq HO520.out)) k_ hk));(case aO=>exact (by (with_reducible repeat (first | apply Kd.jba | apply Kd.jea | apply Kd.jma));exact Kd.jI HO517.out (fun _ hk=>hk.2)));(case aS=>exact (jM (w:=w) (g:=g) (row:=none) (Y4)));(case aL=>have:=LMc6.out;omega);intro v523 w14 ho hb hg hat;rw [← Ny522.out] at ho;have n0_:=am (jc.grown (Y7) hg (jc.own_ne HI0.out HO517.out (by decide)));have n1_:=am (jPa (g:=gb514) (o:=.cells #[.slice A1_0 l1_0.length c1_0] 32 (0,0)) (kq BK514.out) hg (Kd.R_ne HO517.out BK514.out (by decide)));have n2_:=am (Kd.jBc (ok:=(fun _=>True)) (rq HO520.out) hg hat);have n3_:=am (jWa (Y11) HL.out hb);have n4_:=am (jb.trans (Y4) (jb.jnb hg g) (Kd.jFb HO517.out));have n5_:=am (ho);clear HI0 BK514 HO520 HB HK HO517;have HI0:=n0_;have BK514:=n1_;have HO520:=n2_;have HB:=n3_;have HK:=n4_;have HO524:=n5_;clear n0_ n1_ n2_ n3_ n4_ n5_ ho hb hg hat) |((with_reducible refine jQ (N:=23) rfl ?_);refine Kd.jMb (Kd.int .i64) _ 3 ?hg (N:=23) ?hd (xs:=([1,2,0,1]:List Int)) (inner:=[.int .i64 1, .int .i64 2, .int .i64 0, .int .i64 1]) (ok:=fun _=>True) (okp:=fun _=>True) ?hr ?hp (fun _ hk=>hk) trivial (Below.refl _ _) (Nat.le_refl _) (by simp) ?_;(case hd=>rfl);(case hg=>rfl);(case hr=>exact Y8);(case hp=>exact (Reps.one (show Kd.M (Kd.int .i64) _ _ _ 1 [.int .i64 1] from rfl) (Reps.one (show Kd.M (Kd.int .i64) _ _ _ 2 [.int .i64 2] from rfl) (Reps.one (show Kd.M (Kd.int .i64) _ _ _ 0 [.int .i64 0] from rfl) (Reps.one (show Kd.M (Kd.int .i64) _ _ _ 1 [.int .i64 1] from rfl) (Reps.none _ _))))));intro v526 w16 ho17 hb hg_ hnew_;clear hg_ hnew_;(first | rw [← Ny525.out] at ho17 |(simp only [Int.reduceToNat] at ho17;rw [← Ny525.out] at ho17));have HO527:=am (Kd.jX ho17 (jM (w:=w) (g:=g) (row:=none) (Y4)));replace HO520:=am (Kd.jja (rq HO520.out) hb);replace HO524:=am (Kd.jja (rq HO524.out) hb);replace BK514:=am (jq (g:=gb514) (o:=.cells #[.slice A1_0 l1_0.length c1_0] 32 (0,0)) (kq BK514.out) hb);replace HK:=am (jb.trans (Y4) (jb.of_below hb g none) (.inl rfl));replace HB:=am (ji (Y11) hb);replace HI0:=am (jc.below (Y7) hb);clear hb ho17;obtain ⟨Ao18,co18,eo18⟩:=Kd.jaa HO527.out;subst eo18) |((with_reducible refine jg (f:=56) rfl ?_);refine gL (some 24) Try.func56 #[.pointer (some ⟨g,0,none⟩), .slice Ao18 y525.length co18] ?_;(with_reducible refine (jh.calls k g s0_0 t521 _ _ y525 t528 t529 w0 _ ?side1 ?side2 ?side3 ?side4 ?side5 A7.out).mono ?_);(case side1=>exact Y7);(case side2=>exact Y11);(case side3=>exact cq (Kd.jm HO527.out).2.2);(case side4=>exact (Kd.jm HO527.out).2.1);(case side5=>exact jqb (jc.own_ne HI0.out HO527.out (by decide)));rintro e w19 ⟨rfl,hi,hb,hk⟩;refine ⟨_,rfl,?_⟩;replace BK514:=am (jb.blk hk (g':=gb514) (o:=.cells #[.slice A1_0 l1_0.length c1_0] 32 (0,0)) (kq BK514.out) NB514_0.out (by simp));replace HO520:=am (Kd.jI (Kd.jxa (jc.apart (show jc w0 _ g s0_0 t521 from Y7) (rq HO520.out) (by decide)) hk (fun _ h=>h.2)) (fun _ h=>h.1));replace HO524:=am (Kd.jI (Kd.jxa (jc.apart (show jc w0 _ g s0_0 t521 from Y7) (rq HO524.out) (by decide)) hk (fun _ h=>h.2)) (fun _ h=>h.1));replace HO527:=am (Kd.jI (Kd.jxa (jc.apart (show jc w0 _ g s0_0 t521 from Y7) (rq HO527.out) (by decide)) hk (fun _ h=>h.2)) (fun _ h=>h.1));replace HK:=am (jb.trans (Y4) hk (.inl rfl));replace HB:=am (hb);replace HI0:=am (hi);(try clear hb);(try clear hb2);(try clear hk);(try clear hi)))
  go_loopg [9,11] k (fun kq v9 v11 w'=>∃ (x9_1:List (S59)) (x11_1:Int) (x1001_1:Int),v11=.int .i64 x11_1∧jl (jR.l0 kq a2 a3 x9_1 t528 x11_1 s0_0 x1001_1 l1_0=some (r1,r2))∧jl (kq≤k)∧jl (Kd.R k59 59 w' w.heap.size (fun _=>True) v9 x9_1)∧jl (w'.heap[gb514]?=some (.cells #[(.slice A1_0 l1_0.length c1_0)] 32 (0,0)))∧jl (jc w0 w' g s0_0 x1001_1)∧jl (jb w w' g none)∧jl (Below w0.heap.size w0 w'))
  case atStart=>exact ⟨(y522),(t528),(t529),(sq),H',⟨Nat.le_refl _⟩,⟨by (with_reducible repeat (first | apply Kd.jba | apply Kd.jea | apply Kd.jma));exact Kd.jI HO524.out (fun _ hk=>trivial)⟩,⟨kq BK514.out⟩,⟨Y7⟩,⟨Y4⟩,⟨Y11⟩⟩
  case round =>
   clear H'
   try clear c1
   try clear p2
   try clear c4
   try clear c5
   try clear c6
   try clear p6
   try clear c9
   try clear c11
   try clear hcz12_0
   try clear hfz12_0
   obtain ⟨x9_1,x11_1,x1001_1,rfl,HA,HK1,HO_9,BK514,HI0,HK,HB⟩:=hrel
   cases gk with
   | zero=>exact absurd HA.out (by simp [jR.l0])
   | succ k1 =>
    have H:=HA.out
    clear HA
    simp only [jR.l0] at H
    by_cases c20:x11_1 > 0
    ·rw [if_pos c20] at H
     have c20b0:decide (0<x11_1)=true:=dzT c20
     clear c20
     replace H:=bzS H
     obtain ⟨⟨t530,t531⟩,A210,H⟩:=H
     replace H:((jh.f k1 s0_0 t531 (([t530,0]:List Int))).bind fun bt535=>(if x9_1.length<4398046511104 then ((some (x9_1 ++ [(⟨a2,8,bt535.1,0⟩:S59)]:List (S59))).bind fun y537=>((jJ.f k1 s0_0 bt535.2 l1_0 (wrap64 (a2+1)) a3).bind fun bt540=>(if y537.length+bt540.1.length<4398046511104 then (jR.l0 k1 a2 a3 (y537 ++ bt540.1) t528 (wrap64 (x11_1 - 1)) s0_0 bt540.2 l1_0) else (none)))) else (none)))=some (r1,r2):=H
     have A21:=am A210
     clear A210
     obtain ⟨y532,hy532⟩:∃ y_:List Int,y_=(([t530,0]:List Int)):=⟨_,rfl⟩
     replace H:((jh.f k1 s0_0 t531 y532).bind fun bt535=>(if x9_1.length<4398046511104 then ((some (x9_1 ++ [(⟨a2,8,bt535.1,0⟩:S59)]:List (S59))).bind fun y537=>((jJ.f k1 s0_0 bt535.2 l1_0 (wrap64 (a2+1)) a3).bind fun bt540=>(if y537.length+bt540.1.length<4398046511104 then (jR.l0 k1 a2 a3 (y537 ++ bt540.1) t528 (wrap64 (x11_1 - 1)) s0_0 bt540.2 l1_0) else (none)))) else (none)))=some (r1,r2):=by first |(rw [hy532];with_reducible exact H) |(have H2_:=(Option.bind_some _ _).symm.trans H;rw [hy532];with_reducible exact H2_) |(have H2_:=(Option.bind_some _ _).symm.trans H;with_reducible exact H2_) | with_reducible exact H |(rw [hy532];exact H) | exact H
     have Ny532:=am hy532
     clear hy532
     replace H:=bzS H
     obtain ⟨⟨t535,t536⟩,A220,H⟩:=H
     replace H:(if x9_1.length<4398046511104 then ((some (x9_1 ++ [(⟨a2,8,t535,0⟩:S59)]:List (S59))).bind fun y537=>((jJ.f k1 s0_0 t536 l1_0 (wrap64 (a2+1)) a3).bind fun bt540=>(if y537.length+bt540.1.length<4398046511104 then (jR.l0 k1 a2 a3 (y537 ++ bt540.1) t528 (wrap64 (x11_1 - 1)) s0_0 bt540.2 l1_0) else (none)))) else (none))=some (r1,r2):=H
     have A22:=am A220
     clear A220
     by_cases c23:x9_1.length<4398046511104
     ·rw [if_pos c23] at H
      have LMc23:=am c23
      clear c23
      obtain ⟨y537,hy537⟩:∃ y_:List (S59),y_=(x9_1 ++ [(⟨a2,8,t535,0⟩:S59)]):=⟨_,rfl⟩
      replace H:((jJ.f k1 s0_0 t536 l1_0 (wrap64 (a2+1)) a3).bind fun bt540=>(if y537.length+bt540.1.length<4398046511104 then (jR.l0 k1 a2 a3 (y537 ++ bt540.1) t528 (wrap64 (x11_1 - 1)) s0_0 bt540.2 l1_0) else (none)))=some (r1,r2):=by first |(rw [hy537];with_reducible exact H) |(have H2_:=(Option.bind_some _ _).symm.trans H;rw [hy537];with_reducible exact H2_) |(have H2_:=(Option.bind_some _ _).symm.trans H;with_reducible exact H2_) | with_reducible exact H |(rw [hy537];exact H) | exact H
      have Ny537:=am hy537
      clear hy537
      replace H:=bzS H
      obtain ⟨⟨t540,t543⟩,A240,H⟩:=H
      replace H:(if y537.length+t540.length<4398046511104 then (jR.l0 k1 a2 a3 (y537 ++ t540) t528 (wrap64 (x11_1 - 1)) s0_0 t543 l1_0) else (none))=some (r1,r2):=H
      have A24:=am A240
      clear A240
      by_cases c25:y537.length+t540.length<4398046511104
      ·rw [if_pos c25] at H
       have LMc25:=am c25
       clear c25
       obtain ⟨y544,hy544⟩:∃ y_:List (S59),y_=(y537 ++ t540):=⟨_,rfl⟩
       replace H:(jR.l0 k1 a2 a3 y544 t528 (wrap64 (x11_1 - 1)) s0_0 t543 l1_0)=some (r1,r2):=by first |(rw [hy544];with_reducible exact H) |(have H2_:=(Option.bind_some _ _).symm.trans H;rw [hy544];with_reducible exact H2_) |(have H2_:=(Option.bind_some _ _).symm.trans H;with_reducible exact H2_) | with_reducible exact H |(rw [hy544];exact H) | exact H
       have Ny544:=am hy544
       clear hy544
       have H':=am H
       clear H
       have hnb26:=NB514_0.out
       have hnc26:=NB0_514.out
       have hcz27_0:=bc0 BK514.out
       have hfz27_0:=ja BK514.out 0
       go_wp2_with (first |((with_reducible refine jg (f:=55) rfl ?_);refine gL (some 37) Try.func55 #[.pointer (some ⟨g,0,none⟩), .int .i64 (l1_0.length:Int)] ?_;(with_reducible refine (jf.calls k1 g s0_0 x1001_1 (l1_0.length:Int) t530 t531 w0 _ ?side1 ?side2 A21.out).mono ?_);(case side1=>exact Y7);(case side2=>exact Y11);rintro e w28 ⟨rfl,hi,hb,hk⟩;refine ⟨_,rfl,?_⟩;replace HO_9:=am (Kd.jI (Kd.jxa (jc.apart (show jc w0 _ g s0_0 x1001_1 from Y7) (rq HO_9.out) (by decide)) hk (fun _ h=>h.2)) (fun _ h=>h.1));replace BK514:=am (jb.blk hk (g':=gb514) (o:=.cells #[.slice A1_0 l1_0.length c1_0] 32 (0,0)) (kq BK514.out) NB514_0.out (by simp));replace HK:=am (jb.trans (Y4) hk (.inl rfl));replace HB:=am (hb);replace HI0:=am (hi);(try clear hb);(try clear hb2);(try clear hk);(try clear hi)) |((with_reducible refine jQ (N:=38) rfl ?_);refine Kd.jMb (Kd.int .i64) _ 3 ?hg (N:=38) ?hd (xs:=([t530,0]:List Int)) (inner:=[.int .i64 t530, .int .i64 0]) (ok:=fun _=>True) (okp:=fun _=>True) ?hr ?hp (fun _ hk=>hk) trivial (Below.refl _ _) (Nat.le_refl _) (by simp) ?_;(case hd=>rfl);(case hg=>rfl);(case hr=>exact Y8);(case hp=>exact (Reps.one (show Kd.M (Kd.int .i64) _ _ _ t530 [.int .i64 t530] from rfl) (Reps.one (show Kd.M (Kd.int .i64) _ _ _ 0 [.int .i64 0] from rfl) (Reps.none _ _))));intro v533 w29 ho30 hb hg_ hnew_;clear hg_ hnew_;(first | rw [← Ny532.out] at ho30 |(simp only [Int.reduceToNat] at ho30;rw [← Ny532.out] at ho30));have HO534:=am (Kd.jX ho30 (jM (w:=w) (g:=g) (row:=none) (Y4)));replace HO_9:=am (Kd.jja (rq HO_9.out) hb);replace BK514:=am (jq (g:=gb514) (o:=.cells #[.slice A1_0 l1_0.length c1_0] 32 (0,0)) (kq BK514.out) hb);replace HK:=am (jb.trans (Y4) (jb.of_below hb g none) (.inl rfl));replace HB:=am (ji (Y11) hb);replace HI0:=am (jc.below (Y7) hb);clear hb ho30;obtain ⟨Ao31,co31,eo31⟩:=Kd.jaa HO534.out;subst eo31) |((with_reducible refine jg (f:=56) rfl ?_);refine gL (some 39) Try.func56 #[.pointer (some ⟨g,0,none⟩), .slice Ao31 y532.length co31] ?_;(with_reducible refine (jh.calls k1 g s0_0 t531 _ _ y532 t535 t536 w0 _ ?side1 ?side2 ?side3 ?side4 ?side5 A22.out).mono ?_);(case side1=>exact Y7);(case side2=>exact Y11);(case side3=>exact cq (Kd.jm HO534.out).2.2);(case side4=>exact (Kd.jm HO534.out).2.1);(case side5=>exact jqb (jc.own_ne HI0.out HO534.out (by decide)));rintro e w32 ⟨rfl,hi,hb,hk⟩;refine ⟨_,rfl,?_⟩;replace HO_9:=am (Kd.jI (Kd.jxa (jc.apart (show jc w0 _ g s0_0 t531 from Y7) (rq HO_9.out) (by decide)) hk (fun _ h=>h.2)) (fun _ h=>h.1));replace BK514:=am (jb.blk hk (g':=gb514) (o:=.cells #[.slice A1_0 l1_0.length c1_0] 32 (0,0)) (kq BK514.out) NB514_0.out (by simp));replace HO534:=am (Kd.jI (Kd.jxa (jc.apart (show jc w0 _ g s0_0 t531 from Y7) (rq HO534.out) (by decide)) hk (fun _ h=>h.2)) (fun _ h=>h.1));replace HK:=am (jb.trans (Y4) hk (.inl rfl));replace HB:=am (hb);replace HI0:=am (hi);(try clear hb);(try clear hb2);(try clear hk);(try clear hi)) |((with_reducible refine jJa (b:=.append) (xs:=#[.tmp 30, .tmp 41]) rfl ?_);at_builtin;refine Kd.jVb k59 w.heap.size rfl (.tmp 30) (.tmp 41) 34 59 (.agg #[(.int .i64 0),(.int .i64 0),(.int .i64 0),(.int .i64 0)]) 32 rfl Try.underlying34 jmc rfl (by decide) (by omega) u9 x9_1 (⟨a2,8,t535,0⟩:S59) [.int .i64 a2, .int .i64 8, .int .i64 t535, .int .i64 0] (fun _=>True) (fun _=>False) rfl rfl ?aP (fun _ hk=>hk.elim) ?aF ?aO (Below.refl _ _) ?aS ?aL ?_;(case aP=>exact jpb _ _ _ (⟨a2,8,t535,0⟩:S59));(case aF=>exact (fun _ _=>trivial));(case aO=>exact (rq HO_9.out));(case aS=>exact (jM (w:=w) (g:=g) (row:=none) (Y4)));(case aL=>have:=LMc23.out;omega);intro v538 w33 ho hb hg hat;rw [← Ny537.out] at ho;have n0_:=am (jPa (g:=gb514) (o:=.cells #[.slice A1_0 l1_0.length c1_0] 32 (0,0)) (kq BK514.out) hg (Kd.R_ne HO_9.out BK514.out (by decide)));have n1_:=am (jc.grown (Y7) hg (jc.own_ne HI0.out HO_9.out (by decide)));have n2_:=am (Kd.jbc (rq HO534.out) (Kd.jac (rq HO_9.out)) (by decide) hg);have n3_:=am (jWa (Y11) HL.out hb);have n4_:=am (jb.trans (Y4) (jb.jnb hg g) (Kd.jFb HO_9.out));have n5_:=am (ho);clear BK514 HI0 HO534 HB HK HO_9;have BK514:=n0_;have HI0:=n1_;have HO534:=n2_;have HB:=n3_;have HK:=n4_;have HO539:=n5_;clear n0_ n1_ n2_ n3_ n4_ n5_ ho hb hg hat;have hcz34_0:=bc0 BK514.out;have hfz34_0:=ja BK514.out 0) |((with_reducible refine jg (f:=98) rfl ?_);refine gL (some 49) Try.func98 #[.pointer (some ⟨g,0,none⟩), .agg #[.slice A1_0 l1_0.length c1_0], .int .i64 (wrap64 (a2+1)), .bool a3] ?_;(with_reducible refine (ih98 k1 (by have:=HK1.out;omega) g s0_0 t536 _ _ l1_0 (wrap64 (a2+1)) a3 t540 t543 w0 _ ?side1 ?side2 ?side3 ?side4 A24.out).mono ?_);(case side1=>exact Y7);(case side2=>exact Y11);(case side3=>exact Kd.jgb HR1_0.out (Y4));(case side4=>exact HC1_0.out);rintro e w35 ⟨v541,rfl,ho0,hi,hb,hk⟩;refine ⟨_,rfl,?_⟩;have HO542:=am (Kd.jX (Kd.jEb ho0 (Kd.R_lt (rq HO539.out))) (jM (w:=w) (g:=g) (row:=none) (Y4)));replace BK514:=am (jb.blk hk (g':=gb514) (o:=.cells #[.slice A1_0 l1_0.length c1_0] 32 (0,0)) (kq BK514.out) NB514_0.out (by simp));replace HO534:=am (Kd.jI (Kd.jxa (jc.apart (show jc w0 _ g s0_0 t536 from Y7) (rq HO534.out) (by decide)) hk (fun _ h=>h.2)) (fun _ h=>h.1));replace HO539:=am (Kd.jI (Kd.R_told (Kd.R_oldK (jc.apart (show jc w0 _ g s0_0 t536 from Y7) (rq HO539.out) (by decide)) hk) (Kd.jGb ho0)) (fun _ h_=>h_.1));replace HK:=am (jb.trans (Y4) hk (.inl rfl));replace HB:=am (hb);replace HI0:=am (hi);(try clear hb);(try clear hb2);(try clear hk);(try clear hi);(try clear ho0);obtain ⟨Ao37,co37,eo37⟩:=Kd.jaa HO542.out;subst eo37) |((with_reducible refine jJa (b:=.append) (xs:=#[.tmp 43, .tmp 49]) rfl ?_);at_builtin;refine Kd.jxb k59 w.heap.size rfl (.tmp 43) (.tmp 49) 34 59 (.agg #[(.int .i64 0),(.int .i64 0),(.int .i64 0),(.int .i64 0)]) 32 rfl Try.underlying34 jmc rfl (by decide) (by omega) v538 y537 t540 _ _ _ (fun k_=>some k_≠(.slice Ao37 t540.length co37:Value).ownBlock) (fun _=>False) rfl rfl ?aO ?aR (fun _ _ h=>h) (fun _ h=>h.elim) ?aF (Below.refl _ _) ?aS ?aL ?_;(case aR=>repeat (first | exact (Kd.jm HO542.out).2.2 |(with_reducible refine Kd.jjc ?_ _) |(with_reducible refine Kd.jcc ?_ _) |(with_reducible refine Kd.C_drew ?_)));(case aF=>exact (fun k_ hk=>Kd.fresh' (Kd.R_lt (rq HO542.out)) k_ hk));(case aO=>exact (by (with_reducible repeat (first | apply Kd.jba | apply Kd.jea | apply Kd.jma));exact Kd.jI HO539.out (fun _ hk=>hk.2)));(case aS=>exact (jM (w:=w) (g:=g) (row:=none) (Y4)));(case aL=>have:=LMc25.out;omega);intro v545 w36 ho hb hg hat;rw [← Ny544.out] at ho;have n0_:=am (jPa (g:=gb514) (o:=.cells #[.slice A1_0 l1_0.length c1_0] 32 (0,0)) (kq BK514.out) hg (Kd.R_ne HO539.out BK514.out (by decide)));have n1_:=am (jc.grown (Y7) hg (jc.own_ne HI0.out HO539.out (by decide)));have n2_:=am (Kd.jbc (rq HO534.out) (Kd.jac (rq HO539.out)) (by decide) hg);have n3_:=am (Kd.jBc (ok:=(fun _=>True)) (rq HO542.out) hg hat);have n4_:=am (jWa (Y11) HL.out hb);have n5_:=am (jb.trans (Y4) (jb.jnb hg g) (Kd.jFb HO539.out));have n6_:=am (ho);clear BK514 HI0 HO534 HO542 HB HK HO539;have BK514:=n0_;have HI0:=n1_;have HO534:=n2_;have HO542:=n3_;have HB:=n4_;have HK:=n5_;have HO546:=n6_;clear n0_ n1_ n2_ n3_ n4_ n5_ n6_ ho hb hg hat))
       go_roundg k1
       case measure=>have:=HK1.out;omega
       case rel=>exact ⟨(y544),(wrap64 (x11_1 - 1)),(t543),(sq),H',⟨by have:=HK1.out;omega⟩,⟨by (with_reducible repeat (first | apply Kd.jba | apply Kd.jea | apply Kd.jma));exact Kd.jI HO546.out (fun _ hk=>trivial)⟩,⟨kq BK514.out⟩,⟨Y7⟩,⟨Y4⟩,⟨Y11⟩⟩
      ·rw [if_neg c25] at H
       exact absurd H (by simp)
     ·rw [if_neg c23] at H
      exact absurd H (by simp)
    ·rw [if_neg c20] at H
     have c20b0:decide (0<x11_1)=false:=dzF c20
     clear c20
     have HC38:=am H
     clear H
     go_upto_region 8 with (fail)
     go_cut [57] (fun v57 wc=>∃ (kq:Nat) (x57_37:Bool) (x1001_37:Int),v57=.bool x57_37∧jl (jR.j1 kq a2 a3 x9_1 t528 x57_37 s0_0 x1001_37 l1_0=some (r1,r2))∧jl (kq≤k1)∧jl (Kd.R k59 59 wc w.heap.size (fun _=>True) u9 x9_1)∧jl (wc.heap[gb514]?=some (.cells #[(.slice A1_0 l1_0.length c1_0)] 32 (0,0)))∧jl (jc w0 wc g s0_0 x1001_37)∧jl (jb w wc g none)∧jl (Below w0.heap.size w0 wc))
     case first =>
      have H:=HC38.out
      clear HC38
      by_cases c39:t528 > 0
      ·rw [if_pos c39] at H
       have c39b0:decide (0<t528)=true:=dzT c39
       clear c39
       (first | rw [c39b0] |(simp only [jeb,jhb];rw [c39b0]) | skip)
       replace H:=bzS H
       obtain ⟨⟨t547,t548⟩,A400,H⟩:=H
       replace H:(jR.j1 k1 a2 a3 x9_1 t528 (t547 == 0) s0_0 t548 l1_0)=some (r1,r2):=H
       have A40:=am A400
       clear A400
       have H':=am H
       clear H
       go_wp2_with (first |(go_at_call 55;(with_reducible refine (jf.calls k1 g s0_0 x1001_1 3 t547 t548 w0 _ ?side1 ?side2 A40.out).mono ?_);(case side1=>exact Y7);(case side2=>exact Y11);rintro e w41 ⟨rfl,hi,hb,hk⟩;replace HO_9:=am (Kd.jI (Kd.jxa (jc.apart (show jc w0 _ g s0_0 x1001_1 from Y7) (rq HO_9.out) (by decide)) hk (fun _ h=>h.2)) (fun _ h=>h.1));replace BK514:=am (jb.blk hk (g':=gb514) (o:=.cells #[.slice A1_0 l1_0.length c1_0] 32 (0,0)) (kq BK514.out) NB514_0.out (by simp));replace HK:=am (jb.trans (Y4) hk (.inl rfl));replace HB:=am (hb);replace HI0:=am (hi);(try clear hb);(try clear hb2);(try clear hk);(try clear hi)))
       go_meet
       case rel=>exact ⟨_,((t547 == 0)),(t548),(sq),H',⟨by have:=HK1.out;first | omega | exact Nat.le_refl _⟩,⟨rq HO_9.out⟩,⟨kq BK514.out⟩,⟨Y7⟩,⟨Y4⟩,⟨Y11⟩⟩
      ·rw [if_neg c39] at H
       have c39b0:decide (0<t528)=false:=dzF c39
       clear c39
       (first | rw [c39b0] |(simp only [jeb,jhb];rw [c39b0]) | skip)
       have H':=am H
       clear H
       go_wp2
       go_meet
       case rel=>exact ⟨_,(false),(x1001_1),(sq),H',⟨by have:=HK1.out;first | omega | exact Nat.le_refl _⟩,⟨rq HO_9.out⟩,⟨kq BK514.out⟩,⟨Y7⟩,⟨Y4⟩,⟨Y11⟩⟩
     case rest =>
      clear HC38
      try clear c1
      try clear c2
      try clear p2
      try clear c3
      try clear c4
      try clear c5
      try clear c6
      try clear p6
      try clear c9
      try clear c11
      try clear c20
      try clear c20b0
      try clear c23
      try clear c25
      try clear c26
      try clear c39
      try clear c39b0
      try clear hcz12_0
      try clear hcz27_0
      try clear hcz34_0
      try clear hfz12_0
      try clear hfz27_0
      try clear hfz34_0
      try clear p2
      try clear p6
      obtain ⟨kq,x57_37,x1001_37,rfl,HA,HJ37,HO_9,BK514,HI0,HK,HB⟩:=hcut
      cases kq with
      | zero=>exact absurd HA.out (by simp [jR.j1])
      | succ kj37 =>
       have H:=HA.out
       clear HA
       simp only [jR.j1] at H
       have HC42:=am H
       clear H
       go_upto_if 57 with (fail)
       go_cut [9] (fun v9 wc=>∃ (kq:Nat) (x9_41:List (S59)) (x1001_41:Int),jl (jR.j2 kq a2 a3 x9_41 t528 s0_0 x1001_41 l1_0=some (r1,r2))∧jl (kq≤kj37)∧jl (Kd.R k59 59 wc w.heap.size (fun _=>True) v9 x9_41)∧jl (wc.heap[gb514]?=some (.cells #[(.slice A1_0 l1_0.length c1_0)] 32 (0,0)))∧jl (jc w0 wc g s0_0 x1001_41)∧jl (jb w wc g none)∧jl (Below w0.heap.size w0 wc))
       case first =>
        have H:=HC42.out
        clear HC42
        by_cases c43:x57_37=true
        ·subst c43
         have H1:(if x9_1.length<4398046511104 then ((some (x9_1 ++ [(⟨a2,9,0,0⟩:S59)]:List (S59))).bind fun y549=>((jJ.f kj37 s0_0 x1001_37 l1_0 (wrap64 (a2+1)) a3).bind fun bt552=>(if y549.length+bt552.1.length<4398046511104 then (jR.j2 kj37 a2 a3 (y549 ++ bt552.1) t528 s0_0 bt552.2 l1_0) else (none)))) else (none))=some (r1,r2):=by rw [if_pos rfl] at H;exact H
         clear H
         have H:=H1
         clear H1
         by_cases c44:x9_1.length<4398046511104
         ·rw [if_pos c44] at H
          have LMc44:=am c44
          clear c44
          obtain ⟨y549,hy549⟩:∃ y_:List (S59),y_=(x9_1 ++ [(⟨a2,9,0,0⟩:S59)]):=⟨_,rfl⟩
          replace H:((jJ.f kj37 s0_0 x1001_37 l1_0 (wrap64 (a2+1)) a3).bind fun bt552=>(if y549.length+bt552.1.length<4398046511104 then (jR.j2 kj37 a2 a3 (y549 ++ bt552.1) t528 s0_0 bt552.2 l1_0) else (none)))=some (r1,r2):=by first |(rw [hy549];with_reducible exact H) |(have H2_:=(Option.bind_some _ _).symm.trans H;rw [hy549];with_reducible exact H2_) |(have H2_:=(Option.bind_some _ _).symm.trans H;with_reducible exact H2_) | with_reducible exact H |(rw [hy549];exact H) | exact H
          have Ny549:=am hy549
          clear hy549
          replace H:=bzS H
          obtain ⟨⟨t552,t555⟩,A450,H⟩:=H
          replace H:(if y549.length+t552.length<4398046511104 then (jR.j2 kj37 a2 a3 (y549 ++ t552) t528 s0_0 t555 l1_0) else (none))=some (r1,r2):=H
          have A45:=am A450
          clear A450
          by_cases c46:y549.length+t552.length<4398046511104
          ·rw [if_pos c46] at H
           have LMc46:=am c46
           clear c46
           obtain ⟨y556,hy556⟩:∃ y_:List (S59),y_=(y549 ++ t552):=⟨_,rfl⟩
           replace H:(jR.j2 kj37 a2 a3 y556 t528 s0_0 t555 l1_0)=some (r1,r2):=by first |(rw [hy556];with_reducible exact H) |(have H2_:=(Option.bind_some _ _).symm.trans H;rw [hy556];with_reducible exact H2_) |(have H2_:=(Option.bind_some _ _).symm.trans H;with_reducible exact H2_) | with_reducible exact H |(rw [hy556];exact H) | exact H
           have Ny556:=am hy556
           clear hy556
           have H':=am H
           clear H
           go_wp2_with (first |((with_reducible refine jJa (b:=.append) (xs:=#[.tmp 58, .tmp 61]) rfl ?_);at_builtin;refine Kd.jVb k59 w.heap.size rfl (.tmp 58) (.tmp 61) 34 59 (.agg #[(.int .i64 0),(.int .i64 0),(.int .i64 0),(.int .i64 0)]) 32 rfl Try.underlying34 jmc rfl (by decide) (by omega) u9 x9_1 (⟨a2,9,0,0⟩:S59) [.int .i64 a2, .int .i64 9, .int .i64 0, .int .i64 0] (fun _=>True) (fun _=>False) rfl rfl ?aP (fun _ hk=>hk.elim) ?aF ?aO (Below.refl _ _) ?aS ?aL ?_;(case aP=>exact jpb _ _ _ (⟨a2,9,0,0⟩:S59));(case aF=>exact (fun _ _=>trivial));(case aO=>exact (rq HO_9.out));(case aS=>exact (jM (w:=w) (g:=g) (row:=none) (Y4)));(case aL=>have:=LMc44.out;omega);intro v550 w47 ho hb hg hat;rw [← Ny549.out] at ho;have n0_:=am (jPa (g:=gb514) (o:=.cells #[.slice A1_0 l1_0.length c1_0] 32 (0,0)) (kq BK514.out) hg (Kd.R_ne HO_9.out BK514.out (by decide)));have n1_:=am (jc.grown (Y7) hg (jc.own_ne HI0.out HO_9.out (by decide)));have n2_:=am (jWa (Y11) HL.out hb);have n3_:=am (jb.trans (Y4) (jb.jnb hg g) (Kd.jFb HO_9.out));have n4_:=am (ho);clear BK514 HI0 HB HK HO_9;have BK514:=n0_;have HI0:=n1_;have HB:=n2_;have HK:=n3_;have HO551:=n4_;clear n0_ n1_ n2_ n3_ n4_ ho hb hg hat;have hnb48:=NB514_0.out;have hnc48:=NB0_514.out;have hcz49_0:=bc0 BK514.out;have hfz49_0:=ja BK514.out 0) |((with_reducible refine jg (f:=98) rfl ?_);refine gL (some 69) Try.func98 #[.pointer (some ⟨g,0,none⟩), .agg #[.slice A1_0 l1_0.length c1_0], .int .i64 (wrap64 (a2+1)), .bool a3] ?_;(with_reducible refine (ih98 kj37 (by have:=HK1.out;have:=HJ37.out;omega) g s0_0 x1001_37 _ _ l1_0 (wrap64 (a2+1)) a3 t552 t555 w0 _ ?side1 ?side2 ?side3 ?side4 A45.out).mono ?_);(case side1=>exact Y7);(case side2=>exact Y11);(case side3=>exact Kd.jgb HR1_0.out (Y4));(case side4=>exact HC1_0.out);rintro e w50 ⟨v553,rfl,ho0,hi,hb,hk⟩;refine ⟨_,rfl,?_⟩;have HO554:=am (Kd.jX (Kd.jEb ho0 (Kd.R_lt (rq HO551.out))) (jM (w:=w) (g:=g) (row:=none) (Y4)));replace BK514:=am (jb.blk hk (g':=gb514) (o:=.cells #[.slice A1_0 l1_0.length c1_0] 32 (0,0)) (kq BK514.out) NB514_0.out (by simp));replace HO551:=am (Kd.jI (Kd.R_told (Kd.R_oldK (jc.apart (show jc w0 _ g s0_0 x1001_37 from Y7) (rq HO551.out) (by decide)) hk) (Kd.jGb ho0)) (fun _ h_=>h_.1));replace HK:=am (jb.trans (Y4) hk (.inl rfl));replace HB:=am (hb);replace HI0:=am (hi);(try clear hb);(try clear hb2);(try clear hk);(try clear hi);(try clear ho0);obtain ⟨Ao52,co52,eo52⟩:=Kd.jaa HO554.out;subst eo52) |((with_reducible refine jJa (b:=.append) (xs:=#[.tmp 63, .tmp 69]) rfl ?_);at_builtin;refine Kd.jxb k59 w.heap.size rfl (.tmp 63) (.tmp 69) 34 59 (.agg #[(.int .i64 0),(.int .i64 0),(.int .i64 0),(.int .i64 0)]) 32 rfl Try.underlying34 jmc rfl (by decide) (by omega) v550 y549 t552 _ _ _ (fun k_=>some k_≠(.slice Ao52 t552.length co52:Value).ownBlock) (fun _=>False) rfl rfl ?aO ?aR (fun _ _ h=>h) (fun _ h=>h.elim) ?aF (Below.refl _ _) ?aS ?aL ?_;(case aR=>repeat (first | exact (Kd.jm HO554.out).2.2 |(with_reducible refine Kd.jjc ?_ _) |(with_reducible refine Kd.jcc ?_ _) |(with_reducible refine Kd.C_drew ?_)));(case aF=>exact (fun k_ hk=>Kd.fresh' (Kd.R_lt (rq HO554.out)) k_ hk));(case aO=>exact (by (with_reducible repeat (first | apply Kd.jba | apply Kd.jea | apply Kd.jma));exact Kd.jI HO551.out (fun _ hk=>hk.2)));(case aS=>exact (jM (w:=w) (g:=g) (row:=none) (Y4)));(case aL=>have:=LMc46.out;omega);intro v557 w51 ho hb hg hat;rw [← Ny556.out] at ho;have n0_:=am (jPa (g:=gb514) (o:=.cells #[.slice A1_0 l1_0.length c1_0] 32 (0,0)) (kq BK514.out) hg (Kd.R_ne HO551.out BK514.out (by decide)));have n1_:=am (jc.grown (Y7) hg (jc.own_ne HI0.out HO551.out (by decide)));have n2_:=am (Kd.jBc (ok:=(fun _=>True)) (rq HO554.out) hg hat);have n3_:=am (jWa (Y11) HL.out hb);have n4_:=am (jb.trans (Y4) (jb.jnb hg g) (Kd.jFb HO551.out));have n5_:=am (ho);clear BK514 HI0 HO554 HB HK HO551;have BK514:=n0_;have HI0:=n1_;have HO554:=n2_;have HB:=n3_;have HK:=n4_;have HO558:=n5_;clear n0_ n1_ n2_ n3_ n4_ n5_ ho hb hg hat))
           go_meet
           case rel=>exact ⟨_,(y556),(t555),H',⟨by have:=HK1.out;have:=HJ37.out;first | omega | exact Nat.le_refl _⟩,⟨by (with_reducible repeat (first | apply Kd.jba | apply Kd.jea | apply Kd.jma));exact Kd.jI HO558.out (fun _ hk=>trivial)⟩,⟨kq BK514.out⟩,⟨Y7⟩,⟨Y4⟩,⟨Y11⟩⟩
          ·rw [if_neg c46] at H
           exact absurd H (by simp)
         ·rw [if_neg c44] at H
          exact absurd H (by simp)
        ·replace c43:=Bool.eq_false_iff.mpr c43
         subst c43
         have H1:(jR.j2 kj37 a2 a3 x9_1 t528 s0_0 x1001_37 l1_0)=some (r1,r2):=by rw [if_neg (show ¬ (false=true) by decide)] at H;exact H
         clear H
         have H:=H1
         clear H1
         have H':=am H
         clear H
         go_wp2
         go_meet
         case rel=>exact ⟨_,(x9_1),(x1001_37),H',⟨by have:=HK1.out;have:=HJ37.out;first | omega | exact Nat.le_refl _⟩,⟨rq HO_9.out⟩,⟨kq BK514.out⟩,⟨Y7⟩,⟨Y4⟩,⟨Y11⟩⟩
       case rest =>
        clear HC42
        try clear c1
        try clear c2
        try clear p2
        try clear c3
        try clear c4
        try clear c5
        try clear c6
        try clear p6
        try clear c9
        try clear c11
        try clear c20
        try clear c20b0
        try clear c23
        try clear c25
        try clear c26
        try clear c39
        try clear c39b0
        try clear c43
        try clear c44
        try clear c46
        try clear c48
        try clear hcz12_0
        try clear hcz27_0
        try clear hcz34_0
        try clear hcz49_0
        try clear hfz12_0
        try clear hfz27_0
        try clear hfz34_0
        try clear hfz49_0
        try clear p2
        try clear p6
        obtain ⟨kq,x9_41,x1001_41,HA,HJ41,HO_9,BK514,HI0,HK,HB⟩:=hcut
        cases kq with
        | zero=>exact absurd HA.out (by simp [jR.j2])
        | succ kj41 =>
         have H:=HA.out
         clear HA
         simp only [jR.j2] at H
         by_cases c53:t528=0
         ·rw [if_pos c53] at H
          have c53b0:(t528 == 0)=true:=beq_iff_eq.mpr c53
          have c53b1:(t528 != 0)=false:=bne_eq_false_iff_eq.mpr c53
          clear c53
          by_cases c54:x9_41.length<4398046511104
          ·rw [if_pos c54] at H
           have LMc54:=am c54
           clear c54
           obtain ⟨y561,hy561⟩:∃ y_:List (S59),y_=(x9_41 ++ [(⟨a2,10,0,0⟩:S59)]):=⟨_,rfl⟩
           replace H:((jJ.f kj41 s0_0 x1001_41 l1_0 (wrap64 (a2+1)) a3).bind fun bt564=>(if y561.length+bt564.1.length<4398046511104 then (some ((y561 ++ bt564.1),bt564.2)) else (none)))=some (r1,r2):=by first |(rw [hy561];with_reducible exact H) |(have H2_:=(Option.bind_some _ _).symm.trans H;rw [hy561];with_reducible exact H2_) |(have H2_:=(Option.bind_some _ _).symm.trans H;with_reducible exact H2_) | with_reducible exact H |(rw [hy561];exact H) | exact H
           have Ny561:=am hy561
           clear hy561
           replace H:=bzS H
           obtain ⟨⟨t564,t567⟩,A550,H⟩:=H
           replace H:(if y561.length+t564.length<4398046511104 then (some ((y561 ++ t564),t567)) else (none))=some (r1,r2):=H
           have A55:=am A550
           clear A550
           by_cases c56:y561.length+t564.length<4398046511104
           ·rw [if_pos c56] at H
            have LMc56:=am c56
            clear c56
            obtain ⟨y568,hy568⟩:∃ y_:List (S59),y_=(y561 ++ t564):=⟨_,rfl⟩
            replace H:(some (y568,t567))=some (r1,r2):=by first |(rw [hy568];with_reducible exact H) |(have H2_:=(Option.bind_some _ _).symm.trans H;rw [hy568];with_reducible exact H2_) |(have H2_:=(Option.bind_some _ _).symm.trans H;with_reducible exact H2_) | with_reducible exact H |(rw [hy568];exact H) | exact H
            have Ny568:=am hy568
            clear hy568
            simp only [Option.some.injEq,Prod.mk.injEq] at H
            obtain ⟨rfl,rfl⟩:=H
            go_wp2_with (first |((with_reducible refine jJa (b:=.append) (xs:=#[.tmp 78, .tmp 81]) rfl ?_);at_builtin;refine Kd.jVb k59 w.heap.size rfl (.tmp 78) (.tmp 81) 34 59 (.agg #[(.int .i64 0),(.int .i64 0),(.int .i64 0),(.int .i64 0)]) 32 rfl Try.underlying34 jmc rfl (by decide) (by omega) u9 x9_41 (⟨a2,10,0,0⟩:S59) [.int .i64 a2, .int .i64 10, .int .i64 0, .int .i64 0] (fun _=>True) (fun _=>False) rfl rfl ?aP (fun _ hk=>hk.elim) ?aF ?aO (Below.refl _ _) ?aS ?aL ?_;(case aP=>exact jpb _ _ _ (⟨a2,10,0,0⟩:S59));(case aF=>exact (fun _ _=>trivial));(case aO=>exact (rq HO_9.out));(case aS=>exact (jM (w:=w) (g:=g) (row:=none) (Y4)));(case aL=>have:=LMc54.out;omega);intro v562 w57 ho hb hg hat;rw [← Ny561.out] at ho;have n0_:=am (jPa (g:=gb514) (o:=.cells #[.slice A1_0 l1_0.length c1_0] 32 (0,0)) (kq BK514.out) hg (Kd.R_ne HO_9.out BK514.out (by decide)));have n1_:=am (jc.grown (Y7) hg (jc.own_ne HI0.out HO_9.out (by decide)));have n2_:=am (jWa (Y11) HL.out hb);have n3_:=am (jb.trans (Y4) (jb.jnb hg g) (Kd.jFb HO_9.out));have n4_:=am (ho);clear BK514 HI0 HB HK HO_9;have BK514:=n0_;have HI0:=n1_;have HB:=n2_;have HK:=n3_;have HO563:=n4_;clear n0_ n1_ n2_ n3_ n4_ ho hb hg hat;have hnb58:=NB514_0.out;have hnc58:=NB0_514.out;have hcz59_0:=bc0 BK514.out;have hfz59_0:=ja BK514.out 0) |((with_reducible refine jg (f:=98) rfl ?_);refine gL (some 89) Try.func98 #[.pointer (some ⟨g,0,none⟩), .agg #[.slice A1_0 l1_0.length c1_0], .int .i64 (wrap64 (a2+1)), .bool a3] ?_;(with_reducible refine (ih98 kj41 (by have:=HK1.out;have:=HJ37.out;have:=HJ41.out;omega) g s0_0 x1001_41 _ _ l1_0 (wrap64 (a2+1)) a3 t564 t567 w0 _ ?side1 ?side2 ?side3 ?side4 A55.out).mono ?_);(case side1=>exact Y7);(case side2=>exact Y11);(case side3=>exact Kd.jgb HR1_0.out (Y4));(case side4=>exact HC1_0.out);rintro e w60 ⟨v565,rfl,ho0,hi,hb,hk⟩;refine ⟨_,rfl,?_⟩;have HO566:=am (Kd.jX (Kd.jEb ho0 (Kd.R_lt (rq HO563.out))) (jM (w:=w) (g:=g) (row:=none) (Y4)));replace BK514:=am (jb.blk hk (g':=gb514) (o:=.cells #[.slice A1_0 l1_0.length c1_0] 32 (0,0)) (kq BK514.out) NB514_0.out (by simp));replace HO563:=am (Kd.jI (Kd.R_told (Kd.R_oldK (jc.apart (show jc w0 _ g s0_0 x1001_41 from Y7) (rq HO563.out) (by decide)) hk) (Kd.jGb ho0)) (fun _ h_=>h_.1));replace HK:=am (jb.trans (Y4) hk (.inl rfl));replace HB:=am (hb);replace HI0:=am (hi);(try clear hb);(try clear hb2);(try clear hk);(try clear hi);(try clear ho0);obtain ⟨Ao62,co62,eo62⟩:=Kd.jaa HO566.out;subst eo62) |((with_reducible refine jJa (b:=.append) (xs:=#[.tmp 83, .tmp 89]) rfl ?_);at_builtin;refine Kd.jxb k59 w.heap.size rfl (.tmp 83) (.tmp 89) 34 59 (.agg #[(.int .i64 0),(.int .i64 0),(.int .i64 0),(.int .i64 0)]) 32 rfl Try.underlying34 jmc rfl (by decide) (by omega) v562 y561 t564 _ _ _ (fun k_=>some k_≠(.slice Ao62 t564.length co62:Value).ownBlock) (fun _=>False) rfl rfl ?aO ?aR (fun _ _ h=>h) (fun _ h=>h.elim) ?aF (Below.refl _ _) ?aS ?aL ?_;(case aR=>repeat (first | exact (Kd.jm HO566.out).2.2 |(with_reducible refine Kd.jjc ?_ _) |(with_reducible refine Kd.jcc ?_ _) |(with_reducible refine Kd.C_drew ?_)));(case aF=>exact (fun k_ hk=>Kd.fresh' (Kd.R_lt (rq HO566.out)) k_ hk));(case aO=>exact (by (with_reducible repeat (first | apply Kd.jba | apply Kd.jea | apply Kd.jma));exact Kd.jI HO563.out (fun _ hk=>hk.2)));(case aS=>exact (jM (w:=w) (g:=g) (row:=none) (Y4)));(case aL=>have:=LMc56.out;omega);intro v569 w61 ho hb hg hat;rw [← Ny568.out] at ho;have n0_:=am (jPa (g:=gb514) (o:=.cells #[.slice A1_0 l1_0.length c1_0] 32 (0,0)) (kq BK514.out) hg (Kd.R_ne HO563.out BK514.out (by decide)));have n1_:=am (jc.grown (Y7) hg (jc.own_ne HI0.out HO563.out (by decide)));have n2_:=am (Kd.jBc (ok:=(fun _=>True)) (rq HO566.out) hg hat);have n3_:=am (jWa (Y11) HL.out hb);have n4_:=am (jb.trans (Y4) (jb.jnb hg g) (Kd.jFb HO563.out));have n5_:=am (ho);clear BK514 HI0 HO566 HB HK HO563;have BK514:=n0_;have HI0:=n1_;have HO566:=n2_;have HB:=n3_;have HK:=n4_;have HO570:=n5_;clear n0_ n1_ n2_ n3_ n4_ n5_ ho hb hg hat))
            go_ret
            exact ⟨_,Y0,by (with_reducible repeat (first | apply Kd.jba | apply Kd.jea | apply Kd.jma));exact Kd.jI HO570.out (fun _ hk=>trivial),Y7,Y11,Y4⟩
           ·rw [if_neg c56] at H
            exact absurd H (by simp)
          ·rw [if_neg c54] at H
           exact absurd H (by simp)
         ·rw [if_neg c53] at H
          have c53b0:(t528 == 0)=false:=beq_eq_false_iff_ne.mpr c53
          have c53b1:(t528 != 0)=true:=bne_iff_ne.mpr c53
          replace H:=bzS H
          obtain ⟨⟨t559,t560⟩,A630,H⟩:=H
          replace H:(if t559=0 then (if x9_41.length<4398046511104 then ((some (x9_41 ++ [(⟨a2,10,0,0⟩:S59)]:List (S59))).bind fun y571=>((jJ.f kj41 s0_0 t560 l1_0 (wrap64 (a2+1)) a3).bind fun bt574=>(if y571.length+bt574.1.length<4398046511104 then (some ((y571 ++ bt574.1),bt574.2)) else (none)))) else (none)) else (some (x9_41,t560)))=some (r1,r2):=H
          have A63:=am A630
          clear A630
          by_cases c64:t559=0
          ·rw [if_pos c64] at H
           have c64b0:(t559 == 0)=true:=beq_iff_eq.mpr c64
           have c64b1:(t559 != 0)=false:=bne_eq_false_iff_eq.mpr c64
           clear c64
           by_cases c65:x9_41.length<4398046511104
           ·rw [if_pos c65] at H
            have LMc65:=am c65
            clear c65
            obtain ⟨y571,hy571⟩:∃ y_:List (S59),y_=(x9_41 ++ [(⟨a2,10,0,0⟩:S59)]):=⟨_,rfl⟩
            replace H:((jJ.f kj41 s0_0 t560 l1_0 (wrap64 (a2+1)) a3).bind fun bt574=>(if y571.length+bt574.1.length<4398046511104 then (some ((y571 ++ bt574.1),bt574.2)) else (none)))=some (r1,r2):=by first |(rw [hy571];with_reducible exact H) |(have H2_:=(Option.bind_some _ _).symm.trans H;rw [hy571];with_reducible exact H2_) |(have H2_:=(Option.bind_some _ _).symm.trans H;with_reducible exact H2_) | with_reducible exact H |(rw [hy571];exact H) | exact H
            have Ny571:=am hy571
            clear hy571
            replace H:=bzS H
            obtain ⟨⟨t574,t577⟩,A660,H⟩:=H
            replace H:(if y571.length+t574.length<4398046511104 then (some ((y571 ++ t574),t577)) else (none))=some (r1,r2):=H
            have A66:=am A660
            clear A660
            by_cases c67:y571.length+t574.length<4398046511104
            ·rw [if_pos c67] at H
             have LMc67:=am c67
             clear c67
             obtain ⟨y578,hy578⟩:∃ y_:List (S59),y_=(y571 ++ t574):=⟨_,rfl⟩
             replace H:(some (y578,t577))=some (r1,r2):=by first |(rw [hy578];with_reducible exact H) |(have H2_:=(Option.bind_some _ _).symm.trans H;rw [hy578];with_reducible exact H2_) |(have H2_:=(Option.bind_some _ _).symm.trans H;with_reducible exact H2_) | with_reducible exact H |(rw [hy578];exact H) | exact H
             have Ny578:=am hy578
             clear hy578
             simp only [Option.some.injEq,Prod.mk.injEq] at H
             obtain ⟨rfl,rfl⟩:=H
             go_wp2_with (first |(go_at_call 55;(with_reducible refine (jf.calls kj41 g s0_0 x1001_41 2 t559 t560 w0 _ ?side1 ?side2 A63.out).mono ?_);(case side1=>exact Y7);(case side2=>exact Y11);rintro e w68 ⟨rfl,hi,hb,hk⟩;replace HO_9:=am (Kd.jI (Kd.jxa (jc.apart (show jc w0 _ g s0_0 x1001_41 from Y7) (rq HO_9.out) (by decide)) hk (fun _ h=>h.2)) (fun _ h=>h.1));replace BK514:=am (jb.blk hk (g':=gb514) (o:=.cells #[.slice A1_0 l1_0.length c1_0] 32 (0,0)) (kq BK514.out) NB514_0.out (by simp));replace HK:=am (jb.trans (Y4) hk (.inl rfl));replace HB:=am (hb);replace HI0:=am (hi);(try clear hb);(try clear hb2);(try clear hk);(try clear hi)) |((with_reducible refine jJa (b:=.append) (xs:=#[.tmp 78, .tmp 81]) rfl ?_);at_builtin;refine Kd.jVb k59 w.heap.size rfl (.tmp 78) (.tmp 81) 34 59 (.agg #[(.int .i64 0),(.int .i64 0),(.int .i64 0),(.int .i64 0)]) 32 rfl Try.underlying34 jmc rfl (by decide) (by omega) u9 x9_41 (⟨a2,10,0,0⟩:S59) [.int .i64 a2, .int .i64 10, .int .i64 0, .int .i64 0] (fun _=>True) (fun _=>False) rfl rfl ?aP (fun _ hk=>hk.elim) ?aF ?aO (Below.refl _ _) ?aS ?aL ?_;(case aP=>exact jpb _ _ _ (⟨a2,10,0,0⟩:S59));(case aF=>exact (fun _ _=>trivial));(case aO=>exact (rq HO_9.out));(case aS=>exact (jM (w:=w) (g:=g) (row:=none) (Y4)));(case aL=>have:=LMc65.out;omega);intro v572 w69 ho hb hg hat;rw [← Ny571.out] at ho;have n0_:=am (jPa (g:=gb514) (o:=.cells #[.slice A1_0 l1_0.length c1_0] 32 (0,0)) (kq BK514.out) hg (Kd.R_ne HO_9.out BK514.out (by decide)));have n1_:=am (jc.grown (Y7) hg (jc.own_ne HI0.out HO_9.out (by decide)));have n2_:=am (jWa (Y11) HL.out hb);have n3_:=am (jb.trans (Y4) (jb.jnb hg g) (Kd.jFb HO_9.out));have n4_:=am (ho);clear BK514 HI0 HB HK HO_9;have BK514:=n0_;have HI0:=n1_;have HB:=n2_;have HK:=n3_;have HO573:=n4_;clear n0_ n1_ n2_ n3_ n4_ ho hb hg hat;have hnb70:=NB514_0.out;have hnc70:=NB0_514.out;have hcz71_0:=bc0 BK514.out;have hfz71_0:=ja BK514.out 0) |((with_reducible refine jg (f:=98) rfl ?_);refine gL (some 89) Try.func98 #[.pointer (some ⟨g,0,none⟩), .agg #[.slice A1_0 l1_0.length c1_0], .int .i64 (wrap64 (a2+1)), .bool a3] ?_;(with_reducible refine (ih98 kj41 (by have:=HK1.out;have:=HJ37.out;have:=HJ41.out;omega) g s0_0 t560 _ _ l1_0 (wrap64 (a2+1)) a3 t574 t577 w0 _ ?side1 ?side2 ?side3 ?side4 A66.out).mono ?_);(case side1=>exact Y7);(case side2=>exact Y11);(case side3=>exact Kd.jgb HR1_0.out (Y4));(case side4=>exact HC1_0.out);rintro e w72 ⟨v575,rfl,ho0,hi,hb,hk⟩;refine ⟨_,rfl,?_⟩;have HO576:=am (Kd.jX (Kd.jEb ho0 (Kd.R_lt (rq HO573.out))) (jM (w:=w) (g:=g) (row:=none) (Y4)));replace BK514:=am (jb.blk hk (g':=gb514) (o:=.cells #[.slice A1_0 l1_0.length c1_0] 32 (0,0)) (kq BK514.out) NB514_0.out (by simp));replace HO573:=am (Kd.jI (Kd.R_told (Kd.R_oldK (jc.apart (show jc w0 _ g s0_0 t560 from Y7) (rq HO573.out) (by decide)) hk) (Kd.jGb ho0)) (fun _ h_=>h_.1));replace HK:=am (jb.trans (Y4) hk (.inl rfl));replace HB:=am (hb);replace HI0:=am (hi);(try clear hb);(try clear hb2);(try clear hk);(try clear hi);(try clear ho0);obtain ⟨Ao74,co74,eo74⟩:=Kd.jaa HO576.out;subst eo74) |((with_reducible refine jJa (b:=.append) (xs:=#[.tmp 83, .tmp 89]) rfl ?_);at_builtin;refine Kd.jxb k59 w.heap.size rfl (.tmp 83) (.tmp 89) 34 59 (.agg #[(.int .i64 0),(.int .i64 0),(.int .i64 0),(.int .i64 0)]) 32 rfl Try.underlying34 jmc rfl (by decide) (by omega) v572 y571 t574 _ _ _ (fun k_=>some k_≠(.slice Ao74 t574.length co74:Value).ownBlock) (fun _=>False) rfl rfl ?aO ?aR (fun _ _ h=>h) (fun _ h=>h.elim) ?aF (Below.refl _ _) ?aS ?aL ?_;(case aR=>repeat (first | exact (Kd.jm HO576.out).2.2 |(with_reducible refine Kd.jjc ?_ _) |(with_reducible refine Kd.jcc ?_ _) |(with_reducible refine Kd.C_drew ?_)));(case aF=>exact (fun k_ hk=>Kd.fresh' (Kd.R_lt (rq HO576.out)) k_ hk));(case aO=>exact (by (with_reducible repeat (first | apply Kd.jba | apply Kd.jea | apply Kd.jma));exact Kd.jI HO573.out (fun _ hk=>hk.2)));(case aS=>exact (jM (w:=w) (g:=g) (row:=none) (Y4)));(case aL=>have:=LMc67.out;omega);intro v579 w73 ho hb hg hat;rw [← Ny578.out] at ho;have n0_:=am (jPa (g:=gb514) (o:=.cells #[.slice A1_0 l1_0.length c1_0] 32 (0,0)) (kq BK514.out) hg (Kd.R_ne HO573.out BK514.out (by decide)));have n1_:=am (jc.grown (Y7) hg (jc.own_ne HI0.out HO573.out (by decide)));have n2_:=am (Kd.jBc (ok:=(fun _=>True)) (rq HO576.out) hg hat);have n3_:=am (jWa (Y11) HL.out hb);have n4_:=am (jb.trans (Y4) (jb.jnb hg g) (Kd.jFb HO573.out));have n5_:=am (ho);clear BK514 HI0 HO576 HB HK HO573;have BK514:=n0_;have HI0:=n1_;have HO576:=n2_;have HB:=n3_;have HK:=n4_;have HO580:=n5_;clear n0_ n1_ n2_ n3_ n4_ n5_ ho hb hg hat))
             go_ret
             exact ⟨_,Y0,by (with_reducible repeat (first | apply Kd.jba | apply Kd.jea | apply Kd.jma));exact Kd.jI HO580.out (fun _ hk=>trivial),Y7,Y11,Y4⟩
            ·rw [if_neg c67] at H
             exact absurd H (by simp)
           ·rw [if_neg c65] at H
            exact absurd H (by simp)
          ·rw [if_neg c64] at H
           have c64b0:(t559 == 0)=false:=beq_eq_false_iff_ne.mpr c64
           have c64b1:(t559 != 0)=true:=bne_iff_ne.mpr c64
           simp only [Option.some.injEq,Prod.mk.injEq] at H
           obtain ⟨rfl,rfl⟩:=H
           go_wp2_with (first |(go_at_call 55;(with_reducible refine (jf.calls kj41 g s0_0 x1001_41 2 t559 t560 w0 _ ?side1 ?side2 A63.out).mono ?_);(case side1=>exact Y7);(case side2=>exact Y11);rintro e w75 ⟨rfl,hi,hb,hk⟩;replace HO_9:=am (Kd.jI (Kd.jxa (jc.apart (show jc w0 _ g s0_0 x1001_41 from Y7) (rq HO_9.out) (by decide)) hk (fun _ h=>h.2)) (fun _ h=>h.1));replace BK514:=am (jb.blk hk (g':=gb514) (o:=.cells #[.slice A1_0 l1_0.length c1_0] 32 (0,0)) (kq BK514.out) NB514_0.out (by simp));replace HK:=am (jb.trans (Y4) hk (.inl rfl));replace HB:=am (hb);replace HI0:=am (hi);(try clear hb);(try clear hb2);(try clear hk);(try clear hi)))
           go_ret
           exact ⟨_,Y0,rq HO_9.out,Y7,Y11,Y4⟩
 ·rw [if_neg c6] at H
  exact absurd H (by simp)
set_option maxHeartbeats 8000000 in
set_option maxRecDepth 100000 in
theorem jy.calls_all : ∀ k, (∀ (g : Nat) (s0_0 : List Int) (s0_1 : Int) (A1_0 : Option Addr) (c1_0 : Nat) (l1_0 : List (S98)) (a2 : Int) (a3 : Bool) (r1 : List (S59)) (r2 : Int) (w0 w : World) (hI : jc w0 w g s0_0 s0_1) (hB : Below w0.heap.size w0 w) (hr1_0 : ∀ W_, jb w W_ g none → Kd.C k98 W_ A1_0 l1_0.length l1_0) (hc1_0 : l1_0.length ≤ c1_0) (h : jy.f k s0_0 s0_1 l1_0 a2 a3 = some (r1, r2)), Calls Try.prog 104 #[.pointer (some ⟨g, 0, none⟩), .agg #[.slice A1_0 l1_0.length c1_0], .int .i64 a2, .bool a3] w fun e w' => ∃ v0_ : Value, e = .returned (v0_) ∧ Kd.R k59 59 w' w.heap.size (fun _ => True) v0_ r1 ∧ jc w0 w' g s0_0 r2 ∧ Below w0.heap.size w0 w' ∧ jb w w' g none) ∧ (∀ (g : Nat) (s0_0 : List Int) (s0_1 : Int) (A1_0 : Option Addr) (c1_0 : Nat) (l1_0 : List (S98)) (a2 : Int) (a3 : Bool) (r1 : List (S59)) (r2 : Int) (w0 w : World) (hI : jc w0 w g s0_0 s0_1) (hB : Below w0.heap.size w0 w) (hr1_0 : ∀ W_, jb w W_ g none → Kd.C k98 W_ A1_0 l1_0.length l1_0) (hc1_0 : l1_0.length ≤ c1_0) (h : jJ.f k s0_0 s0_1 l1_0 a2 a3 = some (r1, r2)), Calls Try.prog 98 #[.pointer (some ⟨g, 0, none⟩), .agg #[.slice A1_0 l1_0.length c1_0], .int .i64 a2, .bool a3] w fun e w' => ∃ v0_ : Value, e = .returned (v0_) ∧ Kd.R k59 59 w' w.heap.size (fun _ => True) v0_ r1 ∧ jc w0 w' g s0_0 r2 ∧ Below w0.heap.size w0 w' ∧ jb w w' g none) ∧ (∀ (g : Nat) (s0_0 : List Int) (s0_1 : Int) (A1_0 : Option Addr) (c1_0 : Nat) (l1_0 : List (S98)) (a2 : Int) (a3 : Bool) (r1 : List (S59)) (r2 : Int) (w0 w : World) (hI : jc w0 w g s0_0 s0_1) (hB : Below w0.heap.size w0 w) (hr1_0 : ∀ W_, jb w W_ g none → Kd.C k98 W_ A1_0 l1_0.length l1_0) (hc1_0 : l1_0.length ≤ c1_0) (h : jR.f k s0_0 s0_1 l1_0 a2 a3 = some (r1, r2)), Calls Try.prog 97 #[.pointer (some ⟨g, 0, none⟩), .agg #[.slice A1_0 l1_0.length c1_0], .int .i64 a2, .bool a3] w fun e w' => ∃ v0_ : Value, e = .returned (v0_) ∧ Kd.R k59 59 w' w.heap.size (fun _ => True) v0_ r1 ∧ jc w0 w' g s0_0 r2 ∧ Below w0.heap.size w0 w' ∧ jb w w' g none) := by
 intro k
 induction k using Nat.strongRecOn with
 | _ k ih =>
 exact ⟨jy.calls_of k (fun k_ hk_=>(ih k_ hk_).1) (fun k_ hk_=>(ih k_ hk_).2.1) (fun k_ hk_=>(ih k_ hk_).2.2),jJ.calls_of k (fun k_ hk_=>(ih k_ hk_).1) (fun k_ hk_=>(ih k_ hk_).2.1) (fun k_ hk_=>(ih k_ hk_).2.2),jR.calls_of k (fun k_ hk_=>(ih k_ hk_).1) (fun k_ hk_=>(ih k_ hk_).2.1) (fun k_ hk_=>(ih k_ hk_).2.2)⟩
theorem jJ.calls (k : Nat) : ∀ (g : Nat) (s0_0 : List Int) (s0_1 : Int) (A1_0 : Option Addr) (c1_0 : Nat) (l1_0 : List (S98)) (a2 : Int) (a3 : Bool) (r1 : List (S59)) (r2 : Int) (w0 w : World) (hI : jc w0 w g s0_0 s0_1) (hB : Below w0.heap.size w0 w) (hr1_0 : ∀ W_, jb w W_ g none → Kd.C k98 W_ A1_0 l1_0.length l1_0) (hc1_0 : l1_0.length ≤ c1_0) (h : jJ.f k s0_0 s0_1 l1_0 a2 a3 = some (r1, r2)), Calls Try.prog 98 #[.pointer (some ⟨g, 0, none⟩), .agg #[.slice A1_0 l1_0.length c1_0], .int .i64 a2, .bool a3] w fun e w' => ∃ v0_ : Value, e = .returned (v0_) ∧ Kd.R k59 59 w' w.heap.size (fun _ => True) v0_ r1 ∧ jc w0 w' g s0_0 r2 ∧ Below w0.heap.size w0 w' ∧ jb w w' g none := (jy.calls_all k).2.1
theorem jR.calls (k : Nat) : ∀ (g : Nat) (s0_0 : List Int) (s0_1 : Int) (A1_0 : Option Addr) (c1_0 : Nat) (l1_0 : List (S98)) (a2 : Int) (a3 : Bool) (r1 : List (S59)) (r2 : Int) (w0 w : World) (hI : jc w0 w g s0_0 s0_1) (hB : Below w0.heap.size w0 w) (hr1_0 : ∀ W_, jb w W_ g none → Kd.C k98 W_ A1_0 l1_0.length l1_0) (hc1_0 : l1_0.length ≤ c1_0) (h : jR.f k s0_0 s0_1 l1_0 a2 a3 = some (r1, r2)), Calls Try.prog 97 #[.pointer (some ⟨g, 0, none⟩), .agg #[.slice A1_0 l1_0.length c1_0], .int .i64 a2, .bool a3] w fun e w' => ∃ v0_ : Value, e = .returned (v0_) ∧ Kd.R k59 59 w' w.heap.size (fun _ => True) v0_ r1 ∧ jc w0 w' g s0_0 r2 ∧ Below w0.heap.size w0 w' ∧ jb w w' g none := (jy.calls_all k).2.2
mutual
def jC.l0 : Nat → Int → List Int → Int → List (S98) → Option ((List (S59)) × Int)
 | 0,_,_,_,_=>none
 | k+1,x5,x1000,x1001,x582000=>if x5<4 then ((jR.f k x1000 x1001 x582000 0 false).bind fun bt585=>((jf.f k x1000 bt585.2 3).bind fun bt589=>(if bt589.1=0 then ((jJ.f k x1000 bt589.2 x582000 0 false).bind fun bt591=>(if bt585.1.length+bt591.1.length<4398046511104 then (jC.j1 k x5 (bt585.1 ++ bt591.1) x1000 bt591.2 x582000) else (none))) else (jC.j1 k x5 bt585.1 x1000 bt589.2 x582000)))) else (some ((([(⟨0,7,0,0⟩:S59),(⟨1,2,0,1⟩:S59),(⟨0,10,0,0⟩:S59),(⟨1,1,1,0⟩:S59)]:List (S59))),x1001))
def jC.j1 : Nat → Int → List (S59) → List Int → Int → List (S98) → Option ((List (S59)) × Int)
 | 0,_,_,_,_,_=>none
 | k+1,x5,x6,x1000,x1001,x582000=>(jf.f k x1000 x1001 4).bind fun bt598=>(if bt598.1=0 then ((jJ.f k x1000 bt598.2 x582000 0 false).bind fun bt600=>(jC.j2 k x5 bt600.1 x1000 bt600.2 x582000)) else (jC.j2 k x5 x6 x1000 bt598.2 x582000))
def jC.j2 : Nat → Int → List (S59) → List Int → Int → List (S98) → Option ((List (S59)) × Int)
 | 0,_,_,_,_,_=>none
 | k+1,x5,x6,x1000,x1001,x582000=>if (x6.length:Int)≤24 then (some (x6,x1001)) else (jC.l0 k (wrap64 (x5+1)) x1000 x1001 x582000)
end
def jC.f (k : Nat) (s0_0 : List Int) (s0_1 : Int) (l1_0 : List (S98)) : Option ((List (S59)) × Int) := jC.l0 k 0 s0_0 s0_1 l1_0
set_option maxHeartbeats 8000000 in
set_option maxRecDepth 100000 in
theorem jC.calls (k : Nat) (g : Nat) (s0_0 : List Int) (s0_1 : Int) (A1_0 : Option Addr) (c1_0 : Nat) (l1_0 : List (S98)) (r1 : List (S59)) (r2 : Int) (w0 w : World) (hI : jc w0 w g s0_0 s0_1) (hB : Below w0.heap.size w0 w) (hr1_0 : ∀ W_, jb w W_ g none → Kd.C k98 W_ A1_0 l1_0.length l1_0) (hc1_0 : l1_0.length ≤ c1_0) (h : jC.f k s0_0 s0_1 l1_0 = some (r1, r2)) :
  Calls Try.prog 72 #[.pointer (some ⟨g,0,none⟩), .agg #[.slice A1_0 l1_0.length c1_0]] w fun e w'=>∃ v0_:Value,e=.returned (v0_)∧Kd.R k59 59 w' w.heap.size (fun _=>True) v0_ r1∧jc w0 w' g s0_0 r2∧Below w0.heap.size w0 w'∧jb w w' g none:=by
 have hu32:=Try.underlying32
 have hu59:=Try.underlying59
 have HR1_0:=am hr1_0
 have HC1_0:=am hc1_0
 clear hr1_0 hc1_0
 have HI0:=am hI
 have HK:=am (jb.refl w g none)
 have HL:=am hB.size
 clear hI
 have HW0:=am hB.size
 have HB:=am hB
 clear hB
 have H:(jC.l0 k 0 s0_0 s0_1 l1_0)=some (r1,r2):=h
 clear h
 have H':=am H
 clear H
 go_enter Try.func72,Try.ntmps72
 go_wp2_with (first |((with_reducible refine jQ (N:=3) rfl ?_);refine bE (N:=3) (cs:=#[.slice A1_0 l1_0.length c1_0]) (t:=32) ?_;intro gb581 hg w3 hbox hb;have BK581:=am (hbox);have GW581:=am ((Y12:w.heap.size≤gb581));have GE581:=am ((Nat.le_trans HW0.out (Y12:w.heap.size≤gb581):w0.heap.size≤gb581));have NB0_581:=am ((Y28:g≠gb581));have NB581_0:=am ((Y29:gb581≠g));replace HK:=am (jb.trans (Y17) (jb.of_below hb g none) (.inl rfl));replace HB:=am (ji (Y18) hb);replace HI0:=am (jc.below (Y16) hb);clear hb hbox hg))
 go_loopg [5] k (fun kq v5 w'=>∃ (x5_1:Int) (x1001_1:Int),v5=.int .i64 x5_1∧jl (jC.l0 kq x5_1 s0_0 x1001_1 l1_0=some (r1,r2))∧jl (kq≤k)∧jl (w'.heap[gb581]?=some (.cells #[(.slice A1_0 l1_0.length c1_0)] 32 (0,0)))∧jl (jc w0 w' g s0_0 x1001_1)∧jl (jb w w' g none)∧jl (Below w0.heap.size w0 w'))
 case atStart=>exact ⟨(0),(s0_1),(sq),H',⟨Nat.le_refl _⟩,⟨kq BK581.out⟩,⟨Y23⟩,⟨Y19⟩,⟨Y30⟩⟩
 case round =>
  clear H'
  try clear c1
  try clear p2
  obtain ⟨x5_1,x1001_1,rfl,HA,HK1,BK581,HI0,HK,HB⟩:=hrel
  cases gk with
  | zero=>exact absurd HA.out (by simp [jC.l0])
  | succ k1 =>
   have H:=HA.out
   clear HA
   simp only [jC.l0] at H
   by_cases c4:x5_1<4
   ·rw [if_pos c4] at H
    have c4b0:decide (x5_1<4)=true:=dzT c4
    clear c4
    replace H:=bzS H
    obtain ⟨⟨t585,t588⟩,A50,H⟩:=H
    replace H:((jf.f k1 s0_0 t588 3).bind fun bt589=>(if bt589.1=0 then ((jJ.f k1 s0_0 bt589.2 l1_0 0 false).bind fun bt591=>(if t585.length+bt591.1.length<4398046511104 then (jC.j1 k1 x5_1 (t585 ++ bt591.1) s0_0 bt591.2 l1_0) else (none))) else (jC.j1 k1 x5_1 t585 s0_0 bt589.2 l1_0)))=some (r1,r2):=H
    have A5:=am A50
    clear A50
    replace H:=bzS H
    obtain ⟨⟨t589,t590⟩,A60,H⟩:=H
    replace H:(if t589=0 then ((jJ.f k1 s0_0 t590 l1_0 0 false).bind fun bt591=>(if t585.length+bt591.1.length<4398046511104 then (jC.j1 k1 x5_1 (t585 ++ bt591.1) s0_0 bt591.2 l1_0) else (none))) else (jC.j1 k1 x5_1 t585 s0_0 t590 l1_0))=some (r1,r2):=H
    have A6:=am A60
    clear A60
    have HC7:=am H
    clear H
    have hnb8:=NB581_0.out
    have hnc8:=NB0_581.out
    have hcz9_0:=bc0 BK581.out
    have hfz9_0:=ja BK581.out 0
    go_upto_if 16 with (first |((with_reducible refine jg (f:=97) rfl ?_);refine gL (some 13) Try.func97 #[.pointer (some ⟨g,0,none⟩), .agg #[.slice A1_0 l1_0.length c1_0], .int .i64 0, .bool false] ?_;(with_reducible refine (jR.calls k1 g s0_0 x1001_1 _ _ l1_0 0 false t585 t588 w0 _ ?side1 ?side2 ?side3 ?side4 A5.out).mono ?_);(case side1=>exact Y23);(case side2=>exact Y30);(case side3=>exact Kd.jgb HR1_0.out (Y19));(case side4=>exact HC1_0.out);rintro e w10 ⟨v586,rfl,ho0,hi,hb,hk⟩;refine ⟨_,rfl,?_⟩;have HO587:=am (Kd.jX ho0 (jM (w:=w) (g:=g) (row:=none) (Y19)));replace BK581:=am (jb.blk hk (g':=gb581) (o:=.cells #[.slice A1_0 l1_0.length c1_0] 32 (0,0)) (kq BK581.out) NB581_0.out (by simp));replace HK:=am (jb.trans (Y19) hk (.inl rfl));replace HB:=am (hb);replace HI0:=am (hi);(try clear hb);(try clear hb2);(try clear hk);(try clear hi);(try clear ho0)) |((with_reducible refine jg (f:=55) rfl ?_);refine gL (some 15) Try.func55 #[.pointer (some ⟨g,0,none⟩), .int .i64 3] ?_;(with_reducible refine (jf.calls k1 g s0_0 t588 3 t589 t590 w0 _ ?side1 ?side2 A6.out).mono ?_);(case side1=>exact Y23);(case side2=>exact Y30);rintro e w11 ⟨rfl,hi,hb,hk⟩;refine ⟨_,rfl,?_⟩;replace BK581:=am (jb.blk hk (g':=gb581) (o:=.cells #[.slice A1_0 l1_0.length c1_0] 32 (0,0)) (kq BK581.out) NB581_0.out (by simp));replace HO587:=am (Kd.jI (Kd.jxa (jc.apart (show jc w0 _ g s0_0 t588 from Y23) (rq HO587.out) (by decide)) hk (fun _ h=>h.2)) (fun _ h=>h.1));replace HK:=am (jb.trans (Y19) hk (.inl rfl));replace HB:=am (hb);replace HI0:=am (hi);(try clear hb);(try clear hb2);(try clear hk);(try clear hi)))
    (try simp only [Act.put,List.setIfInBounds_toArray,List.set_cons_zero,List.set_cons_succ])
    go_cut [6] (fun v6 wc=>∃ (kq:Nat) (x6_6:List (S59)) (x1001_6:Int),jl (jC.j1 kq x5_1 x6_6 s0_0 x1001_6 l1_0=some (r1,r2))∧jl (kq≤k1)∧jl (Kd.R k59 59 wc w.heap.size (fun _=>True) v6 x6_6)∧jl (wc.heap[gb581]?=some (.cells #[(.slice A1_0 l1_0.length c1_0)] 32 (0,0)))∧jl (jc w0 wc g s0_0 x1001_6)∧jl (jb w wc g none)∧jl (Below w0.heap.size w0 wc))
    case first =>
     have H:=HC7.out
     clear HC7
     by_cases c12:t589=0
     ·rw [if_pos c12] at H
      have c12b0:(t589 == 0)=true:=beq_iff_eq.mpr c12
      have c12b1:(t589 != 0)=false:=bne_eq_false_iff_eq.mpr c12
      clear c12
      (first | rw [c12b0] |(simp only [jeb,jhb];rw [c12b0]) | skip)
      replace H:=bzS H
      obtain ⟨⟨t591,t594⟩,A130,H⟩:=H
      replace H:(if t585.length+t591.length<4398046511104 then (jC.j1 k1 x5_1 (t585 ++ t591) s0_0 t594 l1_0) else (none))=some (r1,r2):=H
      have A13:=am A130
      clear A130
      by_cases c14:t585.length+t591.length<4398046511104
      ·rw [if_pos c14] at H
       have LMc14:=am c14
       clear c14
       obtain ⟨y595,hy595⟩:∃ y_:List (S59),y_=(t585 ++ t591):=⟨_,rfl⟩
       replace H:(jC.j1 k1 x5_1 y595 s0_0 t594 l1_0)=some (r1,r2):=by first |(rw [hy595];with_reducible exact H) |(have H2_:=(Option.bind_some _ _).symm.trans H;rw [hy595];with_reducible exact H2_) |(have H2_:=(Option.bind_some _ _).symm.trans H;with_reducible exact H2_) | with_reducible exact H |(rw [hy595];exact H) | exact H
       have Ny595:=am hy595
       clear hy595
       have H':=am H
       clear H
       have hnb15:=NB581_0.out
       have hnc15:=NB0_581.out
       have hcz16_0:=bc0 BK581.out
       have hfz16_0:=ja BK581.out 0
       go_wp2_with (first |((with_reducible refine jg (f:=98) rfl ?_);refine gL (some 20) Try.func98 #[.pointer (some ⟨g,0,none⟩), .agg #[.slice A1_0 l1_0.length c1_0], .int .i64 0, .bool false] ?_;(with_reducible refine (jJ.calls k1 g s0_0 t590 _ _ l1_0 0 false t591 t594 w0 _ ?side1 ?side2 ?side3 ?side4 A13.out).mono ?_);(case side1=>exact Y23);(case side2=>exact Y30);(case side3=>exact Kd.jgb HR1_0.out (Y19));(case side4=>exact HC1_0.out);rintro e w17 ⟨v592,rfl,ho0,hi,hb,hk⟩;refine ⟨_,rfl,?_⟩;have HO593:=am (Kd.jX (Kd.jEb ho0 (Kd.R_lt (rq HO587.out))) (jM (w:=w) (g:=g) (row:=none) (Y19)));replace BK581:=am (jb.blk hk (g':=gb581) (o:=.cells #[.slice A1_0 l1_0.length c1_0] 32 (0,0)) (kq BK581.out) NB581_0.out (by simp));replace HO587:=am (Kd.jI (Kd.R_told (Kd.R_oldK (jc.apart (show jc w0 _ g s0_0 t590 from Y23) (rq HO587.out) (by decide)) hk) (Kd.jGb ho0)) (fun _ h_=>h_.1));replace HK:=am (jb.trans (Y19) hk (.inl rfl));replace HB:=am (hb);replace HI0:=am (hi);(try clear hb);(try clear hb2);(try clear hk);(try clear hi);(try clear ho0);obtain ⟨Ao19,co19,eo19⟩:=Kd.jaa HO593.out;subst eo19) |((with_reducible refine jJa (b:=.append) (xs:=#[.tmp 17, .tmp 20]) rfl ?_);at_builtin;refine Kd.jxb k59 w.heap.size rfl (.tmp 17) (.tmp 20) 34 59 (.agg #[(.int .i64 0),(.int .i64 0),(.int .i64 0),(.int .i64 0)]) 32 rfl Try.underlying34 jmc rfl (by decide) (by omega) v586 t585 t591 _ _ _ (fun k_=>some k_≠(.slice Ao19 t591.length co19:Value).ownBlock) (fun _=>False) rfl rfl ?aO ?aR (fun _ _ h=>h) (fun _ h=>h.elim) ?aF (Below.refl _ _) ?aS ?aL ?_;(case aR=>repeat (first | exact (Kd.jm HO593.out).2.2 |(with_reducible refine Kd.jjc ?_ _) |(with_reducible refine Kd.jcc ?_ _) |(with_reducible refine Kd.C_drew ?_)));(case aF=>exact (fun k_ hk=>Kd.fresh' (Kd.R_lt (rq HO593.out)) k_ hk));(case aO=>exact (by (with_reducible repeat (first | apply Kd.jba | apply Kd.jea | apply Kd.jma));exact Kd.jI HO587.out (fun _ hk=>hk.2)));(case aS=>exact (jM (w:=w) (g:=g) (row:=none) (Y19)));(case aL=>have:=LMc14.out;omega);intro v596 w18 ho hb hg hat;rw [← Ny595.out] at ho;have n0_:=am (jPa (g:=gb581) (o:=.cells #[.slice A1_0 l1_0.length c1_0] 32 (0,0)) (kq BK581.out) hg (Kd.R_ne HO587.out BK581.out (by decide)));have n1_:=am (jc.grown (Y23) hg (jc.own_ne HI0.out HO587.out (by decide)));have n2_:=am (Kd.jBc (ok:=(fun _=>True)) (rq HO593.out) hg hat);have n3_:=am (jWa (Y30) HL.out hb);have n4_:=am (jb.trans (Y19) (jb.jnb hg g) (Kd.jFb HO587.out));have n5_:=am (ho);clear BK581 HI0 HO593 HB HK HO587;have BK581:=n0_;have HI0:=n1_;have HO593:=n2_;have HB:=n3_;have HK:=n4_;have HO597:=n5_;clear n0_ n1_ n2_ n3_ n4_ n5_ ho hb hg hat))
       go_meet
       case rel=>exact ⟨_,(y595),(t594),H',⟨by have:=HK1.out;first | omega | exact Nat.le_refl _⟩,⟨by (with_reducible repeat (first | apply Kd.jba | apply Kd.jea | apply Kd.jma));exact Kd.jI HO597.out (fun _ hk=>trivial)⟩,⟨kq BK581.out⟩,⟨Y23⟩,⟨Y19⟩,⟨Y30⟩⟩
      ·rw [if_neg c14] at H
       exact absurd H (by simp)
     ·rw [if_neg c12] at H
      have c12b0:(t589 == 0)=false:=beq_eq_false_iff_ne.mpr c12
      have c12b1:(t589 != 0)=true:=bne_iff_ne.mpr c12
      (first | rw [c12b0] |(simp only [jeb,jhb];rw [c12b0]) | skip)
      have H':=am H
      clear H
      go_wp2
      go_meet
      case rel=>exact ⟨_,(t585),(t590),H',⟨by have:=HK1.out;first | omega | exact Nat.le_refl _⟩,⟨rq HO587.out⟩,⟨kq BK581.out⟩,⟨Y23⟩,⟨Y19⟩,⟨Y30⟩⟩
    case rest =>
     clear HC7
     try clear c1
     try clear p2
     try clear c4
     try clear c4b0
     try clear c5
     try clear c7
     try clear c8
     try clear c9
     try clear c12
     try clear c12b0
     try clear c12b1
     try clear c14
     try clear c15
     try clear hcz16_0
     try clear hcz9_0
     try clear hfz16_0
     try clear hfz9_0
     try clear p2
     obtain ⟨kq,x6_6,x1001_6,HA,HJ6,HO_6,BK581,HI0,HK,HB⟩:=hcut
     cases kq with
     | zero=>exact absurd HA.out (by simp [jC.j1])
     | succ kj6 =>
      have H:=HA.out
      clear HA
      simp only [jC.j1] at H
      replace H:=bzS H
      obtain ⟨⟨t598,t599⟩,A200,H⟩:=H
      replace H:(if t598=0 then ((jJ.f kj6 s0_0 t599 l1_0 0 false).bind fun bt600=>(jC.j2 kj6 x5_1 bt600.1 s0_0 bt600.2 l1_0)) else (jC.j2 kj6 x5_1 x6_6 s0_0 t599 l1_0))=some (r1,r2):=H
      have A20:=am A200
      clear A200
      have HC21:=am H
      clear H
      go_upto_if 24 with (first |((with_reducible refine jg (f:=55) rfl ?_);refine gL (some 23) Try.func55 #[.pointer (some ⟨g,0,none⟩), .int .i64 4] ?_;(with_reducible refine (jf.calls kj6 g s0_0 x1001_6 4 t598 t599 w0 _ ?side1 ?side2 A20.out).mono ?_);(case side1=>exact Y23);(case side2=>exact Y30);rintro e w22 ⟨rfl,hi,hb,hk⟩;refine ⟨_,rfl,?_⟩;replace HO_6:=am (Kd.jI (Kd.jxa (jc.apart (show jc w0 _ g s0_0 x1001_6 from Y23) (rq HO_6.out) (by decide)) hk (fun _ h=>h.2)) (fun _ h=>h.1));replace BK581:=am (jb.blk hk (g':=gb581) (o:=.cells #[.slice A1_0 l1_0.length c1_0] 32 (0,0)) (kq BK581.out) NB581_0.out (by simp));replace HK:=am (jb.trans (Y19) hk (.inl rfl));replace HB:=am (hb);replace HI0:=am (hi);(try clear hb);(try clear hb2);(try clear hk);(try clear hi)))
      (try simp only [Act.put,List.setIfInBounds_toArray,List.set_cons_zero,List.set_cons_succ])
      go_cut [6] (fun v6 wc=>∃ (kq:Nat) (x6_20:List (S59)) (x1001_20:Int),jl (jC.j2 kq x5_1 x6_20 s0_0 x1001_20 l1_0=some (r1,r2))∧jl (kq≤kj6)∧jl (Kd.R k59 59 wc w.heap.size (fun _=>True) v6 x6_20)∧jl (wc.heap[gb581]?=some (.cells #[(.slice A1_0 l1_0.length c1_0)] 32 (0,0)))∧jl (jc w0 wc g s0_0 x1001_20)∧jl (jb w wc g none)∧jl (Below w0.heap.size w0 wc))
      case first =>
       have H:=HC21.out
       clear HC21
       by_cases c23:t598=0
       ·rw [if_pos c23] at H
        have c23b0:(t598 == 0)=true:=beq_iff_eq.mpr c23
        have c23b1:(t598 != 0)=false:=bne_eq_false_iff_eq.mpr c23
        clear c23
        (first | rw [c23b0] |(simp only [jeb,jhb];rw [c23b0]) | skip)
        replace H:=bzS H
        obtain ⟨⟨t600,t603⟩,A240,H⟩:=H
        replace H:(jC.j2 kj6 x5_1 t600 s0_0 t603 l1_0)=some (r1,r2):=H
        have A24:=am A240
        clear A240
        have H':=am H
        clear H
        have hnb25:=NB581_0.out
        have hnc25:=NB0_581.out
        have hcz26_0:=bc0 BK581.out
        have hfz26_0:=ja BK581.out 0
        go_wp2_with (first |((with_reducible refine jg (f:=98) rfl ?_);refine gL (some 27) Try.func98 #[.pointer (some ⟨g,0,none⟩), .agg #[.slice A1_0 l1_0.length c1_0], .int .i64 0, .bool false] ?_;(with_reducible refine (jJ.calls kj6 g s0_0 t599 _ _ l1_0 0 false t600 t603 w0 _ ?side1 ?side2 ?side3 ?side4 A24.out).mono ?_);(case side1=>exact Y23);(case side2=>exact Y30);(case side3=>exact Kd.jgb HR1_0.out (Y19));(case side4=>exact HC1_0.out);rintro e w27 ⟨v601,rfl,ho0,hi,hb,hk⟩;refine ⟨_,rfl,?_⟩;have HO602:=am (Kd.jX (Kd.jEb ho0 (Kd.R_lt (rq HO_6.out))) (jM (w:=w) (g:=g) (row:=none) (Y19)));replace HO_6:=am (Kd.jI (Kd.R_told (Kd.R_oldK (jc.apart (show jc w0 _ g s0_0 t599 from Y23) (rq HO_6.out) (by decide)) hk) (Kd.jGb ho0)) (fun _ h_=>h_.1));replace BK581:=am (jb.blk hk (g':=gb581) (o:=.cells #[.slice A1_0 l1_0.length c1_0] 32 (0,0)) (kq BK581.out) NB581_0.out (by simp));replace HK:=am (jb.trans (Y19) hk (.inl rfl));replace HB:=am (hb);replace HI0:=am (hi);(try clear hb);(try clear hb2);(try clear hk);(try clear hi);(try clear ho0)))
        go_meet
        case rel=>exact ⟨_,(t600),(t603),H',⟨by have:=HK1.out;have:=HJ6.out;first | omega | exact Nat.le_refl _⟩,⟨by (with_reducible repeat (first | apply Kd.jba | apply Kd.jea | apply Kd.jma));exact Kd.jI HO602.out (fun _ hk=>trivial)⟩,⟨kq BK581.out⟩,⟨Y23⟩,⟨Y19⟩,⟨Y30⟩⟩
       ·rw [if_neg c23] at H
        have c23b0:(t598 == 0)=false:=beq_eq_false_iff_ne.mpr c23
        have c23b1:(t598 != 0)=true:=bne_iff_ne.mpr c23
        (first | rw [c23b0] |(simp only [jeb,jhb];rw [c23b0]) | skip)
        have H':=am H
        clear H
        go_wp2
        go_meet
        case rel=>exact ⟨_,(x6_6),(t599),H',⟨by have:=HK1.out;have:=HJ6.out;first | omega | exact Nat.le_refl _⟩,⟨rq HO_6.out⟩,⟨kq BK581.out⟩,⟨Y23⟩,⟨Y19⟩,⟨Y30⟩⟩
      case rest =>
       clear HC21
       try clear c1
       try clear c2
       try clear p2
       try clear c4
       try clear c4b0
       try clear c5
       try clear c7
       try clear c8
       try clear c9
       try clear c12
       try clear c12b0
       try clear c12b1
       try clear c14
       try clear c15
       try clear c23
       try clear c23b0
       try clear c23b1
       try clear c25
       try clear hcz16_0
       try clear hcz26_0
       try clear hcz9_0
       try clear hfz16_0
       try clear hfz26_0
       try clear hfz9_0
       try clear p2
       obtain ⟨kq,x6_20,x1001_20,HA,HJ20,HO_6,BK581,HI0,HK,HB⟩:=hcut
       cases kq with
       | zero=>exact absurd HA.out (by simp [jC.j2])
       | succ kj20 =>
        have H:=HA.out
        clear HA
        simp only [jC.j2] at H
        by_cases c28:(x6_20.length:Int)≤24
        ·rw [if_pos c28] at H
         have c28b0:decide ((x6_20.length:Int)≤24)=true:=dzT c28
         have c28b1:decide (x6_20.length≤24)=true:=dzT (by omega)
         clear c28
         simp only [Option.some.injEq,Prod.mk.injEq] at H
         obtain ⟨rfl,rfl⟩:=H
         obtain ⟨Ao29,co29,eo29⟩:=Kd.jaa HO_6.out
         subst eo29
         go_wp2
         go_ret
         exact ⟨_,Y0,rq HO_6.out,Y23,Y30,Y19⟩
        ·rw [if_neg c28] at H
         have c28b0:decide ((x6_20.length:Int)≤24)=false:=dzF c28
         have c28b1:decide (x6_20.length≤24)=false:=dzF (by omega)
         clear c28
         have H':=am H
         clear H
         obtain ⟨Ao30,co30,eo30⟩:=Kd.jaa HO_6.out
         subst eo30
         go_wp2
         go_roundg kj20
         case measure=>have:=HK1.out;have:=HJ6.out;have:=HJ20.out;omega
         case rel=>exact ⟨(wrap64 (x5_1+1)),(x1001_20),(sq),H',⟨by have:=HK1.out;have:=HJ6.out;have:=HJ20.out;omega⟩,⟨kq BK581.out⟩,⟨Y23⟩,⟨Y19⟩,⟨Y30⟩⟩
   ·rw [if_neg c4] at H
    have c4b0:decide (x5_1<4)=false:=dzF c4
    clear c4
    obtain ⟨y582,hy582⟩:∃ y_:List (S59),y_=(([(⟨0,7,0,0⟩:S59),(⟨1,2,0,1⟩:S59),(⟨0,10,0,0⟩:S59),(⟨1,1,1,0⟩:S59)]:List (S59))):=⟨_,rfl⟩
    replace H:(some (y582,x1001_1))=some (r1,r2):=by first |(rw [hy582];with_reducible exact H) |(have H2_:=(Option.bind_some _ _).symm.trans H;rw [hy582];with_reducible exact H2_) |(have H2_:=(Option.bind_some _ _).symm.trans H;with_reducible exact H2_) | with_reducible exact H |(rw [hy582];exact H) | exact H
    have Ny582:=am hy582
    clear hy582
    simp only [Option.some.injEq,Prod.mk.injEq] at H
    obtain ⟨rfl,rfl⟩:=H
    go_wp2_with (first |((with_reducible refine jQ (N:=36) rfl ?_);refine Kd.jMb k59 _ 59 ?hg (N:=36) ?hd (xs:=([(⟨0,7,0,0⟩:S59),(⟨1,2,0,1⟩:S59),(⟨0,10,0,0⟩:S59),(⟨1,1,1,0⟩:S59)]:List (S59))) (inner:=[.int .i64 0, .int .i64 7, .int .i64 0, .int .i64 0, .int .i64 1, .int .i64 2, .int .i64 0, .int .i64 1, .int .i64 0, .int .i64 10, .int .i64 0, .int .i64 0, .int .i64 1, .int .i64 1, .int .i64 1, .int .i64 0]) (ok:=fun _=>True) (okp:=fun _=>True) ?hr ?hp (fun _ hk=>hk) trivial (Below.refl _ _) (Nat.le_refl _) (by simp) ?_;(case hd=>rfl);(case hg=>rfl);(case hr=>exact Y8);(case hp=>exact (Reps.c4 (show Kd.M k59 _ _ _ (⟨0,7,0,0⟩:S59) [.int .i64 0, .int .i64 7, .int .i64 0, .int .i64 0] from (jpb _ _ _ (⟨0,7,0,0⟩:S59) )) (Reps.c4 (show Kd.M k59 _ _ _ (⟨1,2,0,1⟩:S59) [.int .i64 1, .int .i64 2, .int .i64 0, .int .i64 1] from (jpb _ _ _ (⟨1,2,0,1⟩:S59) )) (Reps.c4 (show Kd.M k59 _ _ _ (⟨0,10,0,0⟩:S59) [.int .i64 0, .int .i64 10, .int .i64 0, .int .i64 0] from (jpb _ _ _ (⟨0,10,0,0⟩:S59) )) (Reps.c4 (show Kd.M k59 _ _ _ (⟨1,1,1,0⟩:S59) [.int .i64 1, .int .i64 1, .int .i64 1, .int .i64 0] from (jpb _ _ _ (⟨1,1,1,0⟩:S59) )) (Reps.none _ _))))));intro v583 w31 ho32 hb hg_ hnew_;clear hg_ hnew_;(first | rw [← Ny582.out] at ho32 |(simp only [Int.reduceToNat] at ho32;rw [← Ny582.out] at ho32));have HO584:=am (Kd.jX ho32 (jM (w:=w) (g:=g) (row:=none) (Y19)));replace BK581:=am (jq (g:=gb581) (o:=.cells #[.slice A1_0 l1_0.length c1_0] 32 (0,0)) (kq BK581.out) hb);replace HK:=am (jb.trans (Y19) (jb.of_below hb g none) (.inl rfl));replace HB:=am (ji (Y30) hb);replace HI0:=am (jc.below (Y23) hb);clear hb ho32))
    go_ret
    exact ⟨_,Y0,rq HO584.out,Y23,Y30,Y19⟩
end Go.Proofs.Ytbcjbcjpoddkoaa.P
end
