/- One part of the proofs on this program: functions of the program as plain functions, that the code comes to them, and facts on them. -/
import Derived.Test.YtbcjbcjpoddkoaaYAll1
import Derived.Test.YtbcjbcjpoddkoaaYAll2
import Derived.Test.YtbcjbcjpoddkoaaYAll3
import Derived.Test.YtbcjbcjpoddkoaaYWAuto
section
namespace Go.Proofs.Ytbcjbcjpoddkoaa.P
open Go.RowKit Go.Proofs.YtbcjbcjpoddkoaaW.PrintWords Go.Proofs.YtbcjbcjpoddkoaaW.PrintLast Go.Proofs.YtbcjbcjpoddkoaaW.PrintMore
attribute [local go_sem] jla jja jya jxa jY jX jka jia jh
set_option linter.unusedVariables false
set_option linter.unusedSimpArgs false
set_option maxHeartbeats 8000000 in
set_option maxRecDepth 100000 in
theorem jW.calls_of (k : Nat) (ih104 : ∀ k_, k_ < k → ∀ (g : Nat) (s0_0 : List Int) (s0_1 : Int) (A1_0 : Option Addr) (c1_0 : Nat) (l1_0 : List (S98)) (a2 : Int) (a3 : Bool) (r1 : List (S59)) (r2 : Int) (w0 w : World) (hI : jc w0 w g s0_0 s0_1) (hB : Below w0.heap.size w0 w) (hr1_0 : ∀ W_, jb w W_ g none → Kd.C k98 W_ A1_0 l1_0.length l1_0) (hc1_0 : l1_0.length ≤ c1_0) (h : jy.f k_ s0_0 s0_1 l1_0 a2 a3 = some (r1, r2)), Calls Try.prog 104 #[.pointer (some ⟨g, 0, none⟩), .agg #[.slice A1_0 l1_0.length c1_0], .int .i64 a2, .bool a3] w fun e w' => ∃ v0_ : Value, e = .returned (v0_) ∧ Kd.R k59 59 w' w.heap.size (fun _ => True) v0_ r1 ∧ jc w0 w' g s0_0 r2 ∧ Below w0.heap.size w0 w' ∧ jb w w' g none) (ih98 : ∀ k_, k_ < k → ∀ (g : Nat) (s0_0 : List Int) (s0_1 : Int) (A1_0 : Option Addr) (c1_0 : Nat) (l1_0 : List (S98)) (a2 : Int) (a3 : Bool) (r1 : List (S59)) (r2 : Int) (w0 w : World) (hI : jc w0 w g s0_0 s0_1) (hB : Below w0.heap.size w0 w) (hr1_0 : ∀ W_, jb w W_ g none → Kd.C k98 W_ A1_0 l1_0.length l1_0) (hc1_0 : l1_0.length ≤ c1_0) (h : jL.f k_ s0_0 s0_1 l1_0 a2 a3 = some (r1, r2)), Calls Try.prog 98 #[.pointer (some ⟨g, 0, none⟩), .agg #[.slice A1_0 l1_0.length c1_0], .int .i64 a2, .bool a3] w fun e w' => ∃ v0_ : Value, e = .returned (v0_) ∧ Kd.R k59 59 w' w.heap.size (fun _ => True) v0_ r1 ∧ jc w0 w' g s0_0 r2 ∧ Below w0.heap.size w0 w' ∧ jb w w' g none) (ih97 : ∀ k_, k_ < k → ∀ (g : Nat) (s0_0 : List Int) (s0_1 : Int) (A1_0 : Option Addr) (c1_0 : Nat) (l1_0 : List (S98)) (a2 : Int) (a3 : Bool) (r1 : List (S59)) (r2 : Int) (w0 w : World) (hI : jc w0 w g s0_0 s0_1) (hB : Below w0.heap.size w0 w) (hr1_0 : ∀ W_, jb w W_ g none → Kd.C k98 W_ A1_0 l1_0.length l1_0) (hc1_0 : l1_0.length ≤ c1_0) (h : jW.f k_ s0_0 s0_1 l1_0 a2 a3 = some (r1, r2)), Calls Try.prog 97 #[.pointer (some ⟨g, 0, none⟩), .agg #[.slice A1_0 l1_0.length c1_0], .int .i64 a2, .bool a3] w fun e w' => ∃ v0_ : Value, e = .returned (v0_) ∧ Kd.R k59 59 w' w.heap.size (fun _ => True) v0_ r1 ∧ jc w0 w' g s0_0 r2 ∧ Below w0.heap.size w0 w' ∧ jb w w' g none) : ∀ (g : Nat) (s0_0 : List Int) (s0_1 : Int) (A1_0 : Option Addr) (c1_0 : Nat) (l1_0 : List (S98)) (a2 : Int) (a3 : Bool) (r1 : List (S59)) (r2 : Int) (w0 w : World) (hI : jc w0 w g s0_0 s0_1) (hB : Below w0.heap.size w0 w) (hr1_0 : ∀ W_, jb w W_ g none → Kd.C k98 W_ A1_0 l1_0.length l1_0) (hc1_0 : l1_0.length ≤ c1_0) (h : jW.f k s0_0 s0_1 l1_0 a2 a3 = some (r1, r2)),
  Calls Try.prog 97 #[.pointer (some ⟨g,0,none⟩), .agg #[.slice A1_0 l1_0.length c1_0], .int .i64 a2, .bool a3] w fun e w'=>∃ v0_:Value,e=.returned (v0_)∧Kd.R k59 59 w' w.heap.size (fun _=>True) v0_ r1∧jc w0 w' g s0_0 r2∧Below w0.heap.size w0 w'∧jb w w' g none:=by
 intro g s0_0 s0_1 A1_0 c1_0 l1_0 a2 a3 r1 r2 w0 w hI hB hr1_0 hc1_0 h
 cases k with
 | zero=>exact absurd h (by simp [jW.f])
 | succ k =>
 simp only [jW.f] at h
 have hu32:=Try.underlying32
 have hu59:=Try.underlying59
 have HR1_0:=am hr1_0
 have HC1_0:=am hc1_0
 clear hr1_0 hc1_0
 have HI0:=am hI
 have HK:=am (jb.refl w g none)
 have HL:=am hB.size
 clear hI
 have HW0:=am hB.size
 have HB:=am hB
 clear hB
 have H:((some (([(⟨a2,7,0,0⟩:S59)]:List (S59)):List (S59))).bind fun y515=>((jL.f k s0_0 s0_1 l1_0 (wrap64 (a2+1)) a3).bind fun bt518=>(if y515.length+bt518.1.length<4398046511104 then ((ji.f k s0_0 bt518.2 (([1,2,0,1]:List Int))).bind fun bt528=>(jW.l0 k a2 a3 (y515 ++ bt518.1) bt528.1 bt528.1 s0_0 bt528.2 l1_0)) else (none))))=some (r1,r2):=h
 clear h
 obtain ⟨y515,hy515⟩:∃ y_:List (S59),y_=(([(⟨a2,7,0,0⟩:S59)]:List (S59))):=⟨_,rfl⟩
 replace H:((jL.f k s0_0 s0_1 l1_0 (wrap64 (a2+1)) a3).bind fun bt518=>(if y515.length+bt518.1.length<4398046511104 then ((ji.f k s0_0 bt518.2 (([1,2,0,1]:List Int))).bind fun bt528=>(jW.l0 k a2 a3 (y515 ++ bt518.1) bt528.1 bt528.1 s0_0 bt528.2 l1_0)) else (none)))=some (r1,r2):=by first |(rw [hy515];with_reducible exact H) |(have H2_:=(Option.bind_some _ _).symm.trans H;rw [hy515];with_reducible exact H2_) |(have H2_:=(Option.bind_some _ _).symm.trans H;with_reducible exact H2_) | with_reducible exact H |(rw [hy515];exact H) | exact H
 have Ny515:=am hy515
 clear hy515
 replace H:=bzS H
 obtain ⟨⟨t518,t521⟩,A50,H⟩:=H
 replace H:(if y515.length+t518.length<4398046511104 then ((ji.f k s0_0 t521 (([1,2,0,1]:List Int))).bind fun bt528=>(jW.l0 k a2 a3 (y515 ++ t518) bt528.1 bt528.1 s0_0 bt528.2 l1_0)) else (none))=some (r1,r2):=H
 have A5:=am A50
 clear A50
 by_cases c6:y515.length+t518.length<4398046511104
 ·rw [if_pos c6] at H
  have LMc6:=am c6
  clear c6
  obtain ⟨y522,hy522⟩:∃ y_:List (S59),y_=(y515 ++ t518):=⟨_,rfl⟩
  replace H:((ji.f k s0_0 t521 (([1,2,0,1]:List Int))).bind fun bt528=>(jW.l0 k a2 a3 y522 bt528.1 bt528.1 s0_0 bt528.2 l1_0))=some (r1,r2):=by first |(rw [hy522];with_reducible exact H) |(have H2_:=(Option.bind_some _ _).symm.trans H;rw [hy522];with_reducible exact H2_) |(have H2_:=(Option.bind_some _ _).symm.trans H;with_reducible exact H2_) | with_reducible exact H |(rw [hy522];exact H) | exact H
  have Ny522:=am hy522
  clear hy522
  obtain ⟨y525,hy525⟩:∃ y_:List Int,y_=(([1,2,0,1]:List Int)):=⟨_,rfl⟩
  replace H:((ji.f k s0_0 t521 y525).bind fun bt528=>(jW.l0 k a2 a3 y522 bt528.1 bt528.1 s0_0 bt528.2 l1_0))=some (r1,r2):=by first |(rw [hy525];with_reducible exact H) |(have H2_:=(Option.bind_some _ _).symm.trans H;rw [hy525];with_reducible exact H2_) |(have H2_:=(Option.bind_some _ _).symm.trans H;with_reducible exact H2_) | with_reducible exact H |(rw [hy525];exact H) | exact H
  have Ny525:=am hy525
  clear hy525
  replace H:=bzS H
  obtain ⟨⟨t528,t529⟩,A70,H⟩:=H
  replace H:(jW.l0 k a2 a3 y522 t528 t528 s0_0 t529 l1_0)=some (r1,r2):=H
  have A7:=am A70
  clear A70
  have H':=am H
  clear H
  go_enter Try.func97,Try.ntmps97
  go_wp2_with (first |((with_reducible refine jS (N:=5) rfl ?_);refine bE (N:=5) (cs:=#[.slice A1_0 l1_0.length c1_0]) (t:=32) ?_;intro gb514 hg w8 hbox hb;have BK514:=am (hbox);have GW514:=am ((Y12:w.heap.size≤gb514));have GE514:=am ((Nat.le_trans HW0.out (Y12:w.heap.size≤gb514):w0.heap.size≤gb514));have NB0_514:=am ((Y30:g≠gb514));have NB514_0:=am ((Y31:gb514≠g));replace HK:=am (jb.trans (Y16) (jb.of_below hb g none) (.inl rfl));replace HB:=am (jg (Y17) hb);replace HI0:=am (jc.below (Y15) hb);clear hb hbox hg) |((with_reducible refine jS (N:=14) rfl ?_);refine Kd.jWb k59 _ 59 ?hg (N:=14) ?hd (xs:=([(⟨a2,7,0,0⟩:S59)]:List (S59))) (inner:=[.int .i64 a2, .int .i64 7, .int .i64 0, .int .i64 0]) (ok:=fun _=>True) (okp:=fun _=>True) ?hr ?hp (fun _ hk=>hk) trivial (Below.refl _ _) (Nat.le_refl _) (by simp) ?_;(case hd=>rfl);(case hg=>rfl);(case hr=>exact Y8);(case hp=>exact (Reps.c4 (show Kd.M k59 _ _ _ (⟨a2,7,0,0⟩:S59) [.int .i64 a2, .int .i64 7, .int .i64 0, .int .i64 0] from (jAb _ _ _ (⟨a2,7,0,0⟩:S59) )) (Reps.none _ _)));intro v516 w9 ho10 hb hg_ hnew_;clear hg_ hnew_;(first | rw [← Ny515.out] at ho10 |(simp only [Int.reduceToNat] at ho10;rw [← Ny515.out] at ho10));have HO517:=am (Kd.jea ho10 (jN (w:=w) (g:=g) (row:=none) (Y4)));replace BK514:=am (jo (g:=gb514) (o:=.cells #[.slice A1_0 l1_0.length c1_0] 32 (0,0)) (kq BK514.out) hb);replace HK:=am (jb.trans (Y4) (jb.of_below hb g none) (.inl rfl));replace HB:=am (jg (Y11) hb);replace HI0:=am (jc.below (Y7) hb);clear hb ho10;have hnb11:=NB514_0.out;have hnc11:=NB0_514.out;have hcz12_0:=bc0 BK514.out;have hfz12_0:=ja BK514.out 0) |((with_reducible refine je (f:=98) rfl ?_);refine gL (some 20) Try.func98 #[.pointer (some ⟨g,0,none⟩), .agg #[.slice A1_0 l1_0.length c1_0], .int .i64 (wrap64 (a2+1)), .bool a3] ?_;(with_reducible refine (ih98 k (by omega) g s0_0 s0_1 _ _ l1_0 (wrap64 (a2+1)) a3 t518 t521 w0 _ ?side1 ?side2 ?side3 ?side4 A5.out).mono ?_);(case side1=>exact Y7);(case side2=>exact Y11);(case side3=>exact Kd.job HR1_0.out (Y4));(case side4=>exact HC1_0.out);rintro e w13 ⟨v519,rfl,ho0,hi,hb,hk⟩;refine ⟨_,rfl,?_⟩;have HO520:=am (Kd.jea (Kd.jac ho0 (Kd.R_lt (rq HO517.out))) (jN (w:=w) (g:=g) (row:=none) (Y4)));replace BK514:=am (jb.blk hk (g':=gb514) (o:=.cells #[.slice A1_0 l1_0.length c1_0] 32 (0,0)) (kq BK514.out) NB514_0.out (by simp));replace HO517:=am (Kd.jK (Kd.R_told (Kd.R_oldK (jc.apart (show jc w0 _ g s0_0 s0_1 from Y7) (rq HO517.out) (by decide)) hk) (Kd.jbc ho0)) (fun _ h_=>h_.1));replace HK:=am (jb.trans (Y4) hk (.inl rfl));replace HB:=am (hb);replace HI0:=am (hi);(try clear hb);(try clear hb2);(try clear hk);(try clear hi);(try clear ho0);obtain ⟨Ao15,co15,eo15⟩:=Kd.jsa HO520.out;subst eo15) |((with_reducible refine jLa (b:=.append) (xs:=#[.tmp 14, .tmp 20]) rfl ?_);at_builtin;refine Kd.jIb k59 w.heap.size rfl (.tmp 14) (.tmp 20) 34 59 (.agg #[(.int .i64 0),(.int .i64 0),(.int .i64 0),(.int .i64 0)]) 32 rfl Try.underlying34 jBc rfl (by decide) (by omega) v516 y515 t518 _ _ _ (fun k_=>some k_≠(.slice Ao15 t518.length co15:Value).ownBlock) (fun _=>False) rfl rfl ?aO ?aR (fun _ _ h=>h) (fun _ h=>h.elim) ?aF (Below.refl _ _) ?aS ?aL ?_;(case aR=>repeat (first | exact (Kd.jE HO520.out).2.2 |(with_reducible refine Kd.jyc ?_ _) |(with_reducible refine Kd.jmc ?_ _) |(with_reducible refine Kd.C_drew ?_)));(case aF=>exact (fun k_ hk=>Kd.fresh' (Kd.R_lt (rq HO520.out)) k_ hk));(case aO=>exact (by (with_reducible repeat (first | apply Kd.jga | apply Kd.jha | apply Kd.jra));exact Kd.jK HO517.out (fun _ hk=>hk.2)));(case aS=>exact (jN (w:=w) (g:=g) (row:=none) (Y4)));(case aL=>have:=LMc6.out;omega);intro v523 w14 ho hb hg hat;rw [← Ny522.out] at ho;have n0_:=am (jc.grown (Y7) hg (jc.own_ne HI0.out HO517.out (by decide)));have n1_:=am (jVa (g:=gb514) (o:=.cells #[.slice A1_0 l1_0.length c1_0] 32 (0,0)) (kq BK514.out) hg (Kd.R_ne HO517.out BK514.out (by decide)));have n2_:=am (Kd.jUc (ok:=(fun _=>True)) (rq HO520.out) hg hat);have n3_:=am (jcb (Y11) HL.out hb);have n4_:=am (jb.trans (Y4) (jb.jxb hg g) (Kd.jQb HO517.out));have n5_:=am (ho);clear HI0 BK514 HO520 HB HK HO517;have HI0:=n0_;have BK514:=n1_;have HO520:=n2_;have HB:=n3_;have HK:=n4_;have HO524:=n5_;clear n0_ n1_ n2_ n3_ n4_ n5_ ho hb hg hat) |((with_reducible refine jS (N:=23) rfl ?_);refine Kd.jWb (Kd.int .i64) _ 3 ?hg (N:=23) ?hd (xs:=([1,2,0,1]:List Int)) (inner:=[.int .i64 1, .int .i64 2, .int .i64 0, .int .i64 1]) (ok:=fun _=>True) (okp:=fun _=>True) ?hr ?hp (fun _ hk=>hk) trivial (Below.refl _ _) (Nat.le_refl _) (by simp) ?_;(case hd=>rfl);(case hg=>rfl);(case hr=>exact Y8);(case hp=>exact (Reps.one (show Kd.M (Kd.int .i64) _ _ _ 1 [.int .i64 1] from rfl) (Reps.one (show Kd.M (Kd.int .i64) _ _ _ 2 [.int .i64 2] from rfl) (Reps.one (show Kd.M (Kd.int .i64) _ _ _ 0 [.int .i64 0] from rfl) (Reps.one (show Kd.M (Kd.int .i64) _ _ _ 1 [.int .i64 1] from rfl) (Reps.none _ _))))));intro v526 w16 ho17 hb hg_ hnew_;clear hg_ hnew_;(first | rw [← Ny525.out] at ho17 |(simp only [Int.reduceToNat] at ho17;rw [← Ny525.out] at ho17));have HO527:=am (Kd.jea ho17 (jN (w:=w) (g:=g) (row:=none) (Y4)));replace HO520:=am (Kd.jva (rq HO520.out) hb);replace HO524:=am (Kd.jva (rq HO524.out) hb);replace BK514:=am (jo (g:=gb514) (o:=.cells #[.slice A1_0 l1_0.length c1_0] 32 (0,0)) (kq BK514.out) hb);replace HK:=am (jb.trans (Y4) (jb.of_below hb g none) (.inl rfl));replace HB:=am (jg (Y11) hb);replace HI0:=am (jc.below (Y7) hb);clear hb ho17;obtain ⟨Ao18,co18,eo18⟩:=Kd.jsa HO527.out;subst eo18) |((with_reducible refine je (f:=56) rfl ?_);refine gL (some 24) Try.func56 #[.pointer (some ⟨g,0,none⟩), .slice Ao18 y525.length co18] ?_;(with_reducible refine (ji.calls k g s0_0 t521 _ _ y525 t528 t529 w0 _ ?side1 ?side2 ?side3 ?side4 ?side5 A7.out).mono ?_);(case side1=>exact Y7);(case side2=>exact Y11);(case side3=>exact cq (Kd.jE HO527.out).2.2);(case side4=>exact (Kd.jE HO527.out).2.1);(case side5=>exact jBb (jc.own_ne HI0.out HO527.out (by decide)));rintro e w19 ⟨rfl,hi,hb,hk⟩;refine ⟨_,rfl,?_⟩;replace BK514:=am (jb.blk hk (g':=gb514) (o:=.cells #[.slice A1_0 l1_0.length c1_0] 32 (0,0)) (kq BK514.out) NB514_0.out (by simp));replace HO520:=am (Kd.jK (Kd.jFa (jc.apart (show jc w0 _ g s0_0 t521 from Y7) (rq HO520.out) (by decide)) hk (fun _ h=>h.2)) (fun _ h=>h.1));replace HO524:=am (Kd.jK (Kd.jFa (jc.apart (show jc w0 _ g s0_0 t521 from Y7) (rq HO524.out) (by decide)) hk (fun _ h=>h.2)) (fun _ h=>h.1));replace HO527:=am (Kd.jK (Kd.jFa (jc.apart (show jc w0 _ g s0_0 t521 from Y7) (rq HO527.out) (by decide)) hk (fun _ h=>h.2)) (fun _ h=>h.1));replace HK:=am (jb.trans (Y4) hk (.inl rfl));replace HB:=am (hb);replace HI0:=am (hi);(try clear hb);(try clear hb2);(try clear hk);(try clear hi)))
  go_loopg [9,11] k (fun kq v9 v11 w'=>∃ (x9_1:List (S59)) (x11_1:Int) (x1001_1:Int),v11=.int .i64 x11_1∧jl (jW.l0 kq a2 a3 x9_1 t528 x11_1 s0_0 x1001_1 l1_0=some (r1,r2))∧jl (kq≤k)∧jl (Kd.R k59 59 w' w.heap.size (fun _=>True) v9 x9_1)∧jl (w'.heap[gb514]?=some (.cells #[(.slice A1_0 l1_0.length c1_0)] 32 (0,0)))∧jl (jc w0 w' g s0_0 x1001_1)∧jl (jb w w' g none)∧jl (Below w0.heap.size w0 w'))
  case atStart=>exact ⟨(y522),(t528),(t529),(sq),H',⟨Nat.le_refl _⟩,⟨by (with_reducible repeat (first | apply Kd.jga | apply Kd.jha | apply Kd.jra));exact Kd.jK HO524.out (fun _ hk=>trivial)⟩,⟨kq BK514.out⟩,⟨Y7⟩,⟨Y4⟩,⟨Y11⟩⟩
  case round =>
   clear H'
   try clear c1
   try clear p2
   try clear c4
   try clear c5
   try clear c6
   try clear p6
   try clear c9
   try clear c11
   try clear hcz12_0
   try clear hfz12_0
   obtain ⟨x9_1,x11_1,x1001_1,rfl,HA,HK1,HO_9,BK514,HI0,HK,HB⟩:=hrel
   cases gk with
   | zero=>exact absurd HA.out (by simp [jW.l0])
   | succ k1 =>
    have H:=HA.out
    clear HA
    simp only [jW.l0] at H
    by_cases c20:x11_1 > 0
    ·rw [if_pos c20] at H
     have c20b0:decide (0<x11_1)=true:=dzT c20
     clear c20
     replace H:=bzS H
     obtain ⟨⟨t530,t531⟩,A210,H⟩:=H
     replace H:((ji.f k1 s0_0 t531 (([t530,0]:List Int))).bind fun bt535=>(if x9_1.length<4398046511104 then ((some (x9_1 ++ [(⟨a2,8,bt535.1,0⟩:S59)]:List (S59))).bind fun y537=>((jL.f k1 s0_0 bt535.2 l1_0 (wrap64 (a2+1)) a3).bind fun bt540=>(if y537.length+bt540.1.length<4398046511104 then (jW.l0 k1 a2 a3 (y537 ++ bt540.1) t528 (wrap64 (x11_1 - 1)) s0_0 bt540.2 l1_0) else (none)))) else (none)))=some (r1,r2):=H
     have A21:=am A210
     clear A210
     obtain ⟨y532,hy532⟩:∃ y_:List Int,y_=(([t530,0]:List Int)):=⟨_,rfl⟩
     replace H:((ji.f k1 s0_0 t531 y532).bind fun bt535=>(if x9_1.length<4398046511104 then ((some (x9_1 ++ [(⟨a2,8,bt535.1,0⟩:S59)]:List (S59))).bind fun y537=>((jL.f k1 s0_0 bt535.2 l1_0 (wrap64 (a2+1)) a3).bind fun bt540=>(if y537.length+bt540.1.length<4398046511104 then (jW.l0 k1 a2 a3 (y537 ++ bt540.1) t528 (wrap64 (x11_1 - 1)) s0_0 bt540.2 l1_0) else (none)))) else (none)))=some (r1,r2):=by first |(rw [hy532];with_reducible exact H) |(have H2_:=(Option.bind_some _ _).symm.trans H;rw [hy532];with_reducible exact H2_) |(have H2_:=(Option.bind_some _ _).symm.trans H;with_reducible exact H2_) | with_reducible exact H |(rw [hy532];exact H) | exact H
     have Ny532:=am hy532
     clear hy532
     replace H:=bzS H
     obtain ⟨⟨t535,t536⟩,A220,H⟩:=H
     replace H:(if x9_1.length<4398046511104 then ((some (x9_1 ++ [(⟨a2,8,t535,0⟩:S59)]:List (S59))).bind fun y537=>((jL.f k1 s0_0 t536 l1_0 (wrap64 (a2+1)) a3).bind fun bt540=>(if y537.length+bt540.1.length<4398046511104 then (jW.l0 k1 a2 a3 (y537 ++ bt540.1) t528 (wrap64 (x11_1 - 1)) s0_0 bt540.2 l1_0) else (none)))) else (none))=some (r1,r2):=H
     have A22:=am A220
     clear A220
     by_cases c23:x9_1.length<4398046511104
     ·rw [if_pos c23] at H
      have LMc23:=am c23
      clear c23
      obtain ⟨y537,hy537⟩:∃ y_:List (S59),y_=(x9_1 ++ [(⟨a2,8,t535,0⟩:S59)]):=⟨_,rfl⟩
      replace H:((jL.f k1 s0_0 t536 l1_0 (wrap64 (a2+1)) a3).bind fun bt540=>(if y537.length+bt540.1.length<4398046511104 then (jW.l0 k1 a2 a3 (y537 ++ bt540.1) t528 (wrap64 (x11_1 - 1)) s0_0 bt540.2 l1_0) else (none)))=some (r1,r2):=by first |(rw [hy537];with_reducible exact H) |(have H2_:=(Option.bind_some _ _).symm.trans H;rw [hy537];with_reducible exact H2_) |(have H2_:=(Option.bind_some _ _).symm.trans H;with_reducible exact H2_) | with_reducible exact H |(rw [hy537];exact H) | exact H
      have Ny537:=am hy537
      clear hy537
      replace H:=bzS H
      obtain ⟨⟨t540,t543⟩,A240,H⟩:=H
      replace H:(if y537.length+t540.length<4398046511104 then (jW.l0 k1 a2 a3 (y537 ++ t540) t528 (wrap64 (x11_1 - 1)) s0_0 t543 l1_0) else (none))=some (r1,r2):=H
      have A24:=am A240
      clear A240
      by_cases c25:y537.length+t540.length<4398046511104
      ·rw [if_pos c25] at H
       have LMc25:=am c25
       clear c25
       obtain ⟨y544,hy544⟩:∃ y_:List (S59),y_=(y537 ++ t540):=⟨_,rfl⟩
       replace H:(jW.l0 k1 a2 a3 y544 t528 (wrap64 (x11_1 - 1)) s0_0 t543 l1_0)=some (r1,r2):=by first |(rw [hy544];with_reducible exact H) |(have H2_:=(Option.bind_some _ _).symm.trans H;rw [hy544];with_reducible exact H2_) |(have H2_:=(Option.bind_some _ _).symm.trans H;with_reducible exact H2_) | with_reducible exact H |(rw [hy544];exact H) | exact H
       have Ny544:=am hy544
       clear hy544
       have H':=am H
       clear H
       have hnb26:=NB514_0.out
       have hnc26:=NB0_514.out
       have hcz27_0:=bc0 BK514.out
       have hfz27_0:=ja BK514.out 0
       go_wp2_with (first |((with_reducible refine je (f:=55) rfl ?_);refine gL (some 37) Try.func55 #[.pointer (some ⟨g,0,none⟩), .int .i64 (l1_0.length:Int)] ?_;(with_reducible refine (jf.calls k1 g s0_0 x1001_1 (l1_0.length:Int) t530 t531 w0 _ ?side1 ?side2 A21.out).mono ?_);(case side1=>exact Y7);(case side2=>exact Y11);rintro e w28 ⟨rfl,hi,hb,hk⟩;refine ⟨_,rfl,?_⟩;replace HO_9:=am (Kd.jK (Kd.jFa (jc.apart (show jc w0 _ g s0_0 x1001_1 from Y7) (rq HO_9.out) (by decide)) hk (fun _ h=>h.2)) (fun _ h=>h.1));replace BK514:=am (jb.blk hk (g':=gb514) (o:=.cells #[.slice A1_0 l1_0.length c1_0] 32 (0,0)) (kq BK514.out) NB514_0.out (by simp));replace HK:=am (jb.trans (Y4) hk (.inl rfl));replace HB:=am (hb);replace HI0:=am (hi);(try clear hb);(try clear hb2);(try clear hk);(try clear hi)) |((with_reducible refine jS (N:=38) rfl ?_);refine Kd.jWb (Kd.int .i64) _ 3 ?hg (N:=38) ?hd (xs:=([t530,0]:List Int)) (inner:=[.int .i64 t530, .int .i64 0]) (ok:=fun _=>True) (okp:=fun _=>True) ?hr ?hp (fun _ hk=>hk) trivial (Below.refl _ _) (Nat.le_refl _) (by simp) ?_;(case hd=>rfl);(case hg=>rfl);(case hr=>exact Y8);(case hp=>exact (Reps.one (show Kd.M (Kd.int .i64) _ _ _ t530 [.int .i64 t530] from rfl) (Reps.one (show Kd.M (Kd.int .i64) _ _ _ 0 [.int .i64 0] from rfl) (Reps.none _ _))));intro v533 w29 ho30 hb hg_ hnew_;clear hg_ hnew_;(first | rw [← Ny532.out] at ho30 |(simp only [Int.reduceToNat] at ho30;rw [← Ny532.out] at ho30));have HO534:=am (Kd.jea ho30 (jN (w:=w) (g:=g) (row:=none) (Y4)));replace HO_9:=am (Kd.jva (rq HO_9.out) hb);replace BK514:=am (jo (g:=gb514) (o:=.cells #[.slice A1_0 l1_0.length c1_0] 32 (0,0)) (kq BK514.out) hb);replace HK:=am (jb.trans (Y4) (jb.of_below hb g none) (.inl rfl));replace HB:=am (jg (Y11) hb);replace HI0:=am (jc.below (Y7) hb);clear hb ho30;obtain ⟨Ao31,co31,eo31⟩:=Kd.jsa HO534.out;subst eo31) |((with_reducible refine je (f:=56) rfl ?_);refine gL (some 39) Try.func56 #[.pointer (some ⟨g,0,none⟩), .slice Ao31 y532.length co31] ?_;(with_reducible refine (ji.calls k1 g s0_0 t531 _ _ y532 t535 t536 w0 _ ?side1 ?side2 ?side3 ?side4 ?side5 A22.out).mono ?_);(case side1=>exact Y7);(case side2=>exact Y11);(case side3=>exact cq (Kd.jE HO534.out).2.2);(case side4=>exact (Kd.jE HO534.out).2.1);(case side5=>exact jBb (jc.own_ne HI0.out HO534.out (by decide)));rintro e w32 ⟨rfl,hi,hb,hk⟩;refine ⟨_,rfl,?_⟩;replace HO_9:=am (Kd.jK (Kd.jFa (jc.apart (show jc w0 _ g s0_0 t531 from Y7) (rq HO_9.out) (by decide)) hk (fun _ h=>h.2)) (fun _ h=>h.1));replace BK514:=am (jb.blk hk (g':=gb514) (o:=.cells #[.slice A1_0 l1_0.length c1_0] 32 (0,0)) (kq BK514.out) NB514_0.out (by simp));replace HO534:=am (Kd.jK (Kd.jFa (jc.apart (show jc w0 _ g s0_0 t531 from Y7) (rq HO534.out) (by decide)) hk (fun _ h=>h.2)) (fun _ h=>h.1));replace HK:=am (jb.trans (Y4) hk (.inl rfl));replace HB:=am (hb);replace HI0:=am (hi);(try clear hb);(try clear hb2);(try clear hk);(try clear hi)) |((with_reducible refine jLa (b:=.append) (xs:=#[.tmp 30, .tmp 41]) rfl ?_);at_builtin;refine Kd.jVb k59 w.heap.size rfl (.tmp 30) (.tmp 41) 34 59 (.agg #[(.int .i64 0),(.int .i64 0),(.int .i64 0),(.int .i64 0)]) 32 rfl Try.underlying34 jBc rfl (by decide) (by omega) u9 x9_1 (⟨a2,8,t535,0⟩:S59) [.int .i64 a2, .int .i64 8, .int .i64 t535, .int .i64 0] (fun _=>True) (fun _=>False) rfl rfl ?aP (fun _ hk=>hk.elim) ?aF ?aO (Below.refl _ _) ?aS ?aL ?_;(case aP=>exact jAb _ _ _ (⟨a2,8,t535,0⟩:S59));(case aF=>exact (fun _ _=>trivial));(case aO=>exact (rq HO_9.out));(case aS=>exact (jN (w:=w) (g:=g) (row:=none) (Y4)));(case aL=>have:=LMc23.out;omega);intro v538 w33 ho hb hg hat;rw [← Ny537.out] at ho;have n0_:=am (jVa (g:=gb514) (o:=.cells #[.slice A1_0 l1_0.length c1_0] 32 (0,0)) (kq BK514.out) hg (Kd.R_ne HO_9.out BK514.out (by decide)));have n1_:=am (jc.grown (Y7) hg (jc.own_ne HI0.out HO_9.out (by decide)));have n2_:=am (Kd.jlc (rq HO534.out) (Kd.jkc (rq HO_9.out)) (by decide) hg);have n3_:=am (jcb (Y11) HL.out hb);have n4_:=am (jb.trans (Y4) (jb.jxb hg g) (Kd.jQb HO_9.out));have n5_:=am (ho);clear BK514 HI0 HO534 HB HK HO_9;have BK514:=n0_;have HI0:=n1_;have HO534:=n2_;have HB:=n3_;have HK:=n4_;have HO539:=n5_;clear n0_ n1_ n2_ n3_ n4_ n5_ ho hb hg hat;have hcz34_0:=bc0 BK514.out;have hfz34_0:=ja BK514.out 0) |((with_reducible refine je (f:=98) rfl ?_);refine gL (some 49) Try.func98 #[.pointer (some ⟨g,0,none⟩), .agg #[.slice A1_0 l1_0.length c1_0], .int .i64 (wrap64 (a2+1)), .bool a3] ?_;(with_reducible refine (ih98 k1 (by have:=HK1.out;omega) g s0_0 t536 _ _ l1_0 (wrap64 (a2+1)) a3 t540 t543 w0 _ ?side1 ?side2 ?side3 ?side4 A24.out).mono ?_);(case side1=>exact Y7);(case side2=>exact Y11);(case side3=>exact Kd.job HR1_0.out (Y4));(case side4=>exact HC1_0.out);rintro e w35 ⟨v541,rfl,ho0,hi,hb,hk⟩;refine ⟨_,rfl,?_⟩;have HO542:=am (Kd.jea (Kd.jac ho0 (Kd.R_lt (rq HO539.out))) (jN (w:=w) (g:=g) (row:=none) (Y4)));replace BK514:=am (jb.blk hk (g':=gb514) (o:=.cells #[.slice A1_0 l1_0.length c1_0] 32 (0,0)) (kq BK514.out) NB514_0.out (by simp));replace HO534:=am (Kd.jK (Kd.jFa (jc.apart (show jc w0 _ g s0_0 t536 from Y7) (rq HO534.out) (by decide)) hk (fun _ h=>h.2)) (fun _ h=>h.1));replace HO539:=am (Kd.jK (Kd.R_told (Kd.R_oldK (jc.apart (show jc w0 _ g s0_0 t536 from Y7) (rq HO539.out) (by decide)) hk) (Kd.jbc ho0)) (fun _ h_=>h_.1));replace HK:=am (jb.trans (Y4) hk (.inl rfl));replace HB:=am (hb);replace HI0:=am (hi);(try clear hb);(try clear hb2);(try clear hk);(try clear hi);(try clear ho0);obtain ⟨Ao37,co37,eo37⟩:=Kd.jsa HO542.out;subst eo37) |((with_reducible refine jLa (b:=.append) (xs:=#[.tmp 43, .tmp 49]) rfl ?_);at_builtin;refine Kd.jIb k59 w.heap.size rfl (.tmp 43) (.tmp 49) 34 59 (.agg #[(.int .i64 0),(.int .i64 0),(.int .i64 0),(.int .i64 0)]) 32 rfl Try.underlying34 jBc rfl (by decide) (by omega) v538 y537 t540 _ _ _ (fun k_=>some k_≠(.slice Ao37 t540.length co37:Value).ownBlock) (fun _=>False) rfl rfl ?aO ?aR (fun _ _ h=>h) (fun _ h=>h.elim) ?aF (Below.refl _ _) ?aS ?aL ?_;(case aR=>repeat (first | exact (Kd.jE HO542.out).2.2 |(with_reducible refine Kd.jyc ?_ _) |(with_reducible refine Kd.jmc ?_ _) |(with_reducible refine Kd.C_drew ?_)));(case aF=>exact (fun k_ hk=>Kd.fresh' (Kd.R_lt (rq HO542.out)) k_ hk));(case aO=>exact (by (with_reducible repeat (first | apply Kd.jga | apply Kd.jha | apply Kd.jra));exact Kd.jK HO539.out (fun _ hk=>hk.2)));(case aS=>exact (jN (w:=w) (g:=g) (row:=none) (Y4)));(case aL=>have:=LMc25.out;omega);intro v545 w36 ho hb hg hat;rw [← Ny544.out] at ho;have n0_:=am (jVa (g:=gb514) (o:=.cells #[.slice A1_0 l1_0.length c1_0] 32 (0,0)) (kq BK514.out) hg (Kd.R_ne HO539.out BK514.out (by decide)));have n1_:=am (jc.grown (Y7) hg (jc.own_ne HI0.out HO539.out (by decide)));have n2_:=am (Kd.jlc (rq HO534.out) (Kd.jkc (rq HO539.out)) (by decide) hg);have n3_:=am (Kd.jUc (ok:=(fun _=>True)) (rq HO542.out) hg hat);have n4_:=am (jcb (Y11) HL.out hb);have n5_:=am (jb.trans (Y4) (jb.jxb hg g) (Kd.jQb HO539.out));have n6_:=am (ho);clear BK514 HI0 HO534 HO542 HB HK HO539;have BK514:=n0_;have HI0:=n1_;have HO534:=n2_;have HO542:=n3_;have HB:=n4_;have HK:=n5_;have HO546:=n6_;clear n0_ n1_ n2_ n3_ n4_ n5_ n6_ ho hb hg hat))
       go_roundg k1
       case measure=>have:=HK1.out;omega
       case rel=>exact ⟨(y544),(wrap64 (x11_1 - 1)),(t543),(sq),H',⟨by have:=HK1.out;omega⟩,⟨by (with_reducible repeat (first | apply Kd.jga | apply Kd.jha | apply Kd.jra));exact Kd.jK HO546.out (fun _ hk=>trivial)⟩,⟨kq BK514.out⟩,⟨Y7⟩,⟨Y4⟩,⟨Y11⟩⟩
      ·rw [if_neg c25] at H
       exact absurd H (by simp)
     ·rw [if_neg c23] at H
      exact absurd H (by simp)
    ·rw [if_neg c20] at H
     have c20b0:decide (0<x11_1)=false:=dzF c20
     clear c20
     have HC38:=am H
     clear H
     go_upto_region 8 with (fail)
     go_cut [57] (fun v57 wc=>∃ (kq:Nat) (x57_37:Bool) (x1001_37:Int),v57=.bool x57_37∧jl (jW.j1 kq a2 a3 x9_1 t528 x57_37 s0_0 x1001_37 l1_0=some (r1,r2))∧jl (kq≤k1)∧jl (Kd.R k59 59 wc w.heap.size (fun _=>True) u9 x9_1)∧jl (wc.heap[gb514]?=some (.cells #[(.slice A1_0 l1_0.length c1_0)] 32 (0,0)))∧jl (jc w0 wc g s0_0 x1001_37)∧jl (jb w wc g none)∧jl (Below w0.heap.size w0 wc))
     case first =>
      have H:=HC38.out
      clear HC38
      by_cases c39:t528 > 0
      ·rw [if_pos c39] at H
       have c39b0:decide (0<t528)=true:=dzT c39
       clear c39
       (first | rw [c39b0] |(simp only [jlb,jmb];rw [c39b0]) | skip)
       replace H:=bzS H
       obtain ⟨⟨t547,t548⟩,A400,H⟩:=H
       replace H:(jW.j1 k1 a2 a3 x9_1 t528 (t547 == 0) s0_0 t548 l1_0)=some (r1,r2):=H
       have A40:=am A400
       clear A400
       have H':=am H
       clear H
       go_wp2_with (first |(go_at_call 55;(with_reducible refine (jf.calls k1 g s0_0 x1001_1 3 t547 t548 w0 _ ?side1 ?side2 A40.out).mono ?_);(case side1=>exact Y7);(case side2=>exact Y11);rintro e w41 ⟨rfl,hi,hb,hk⟩;replace HO_9:=am (Kd.jK (Kd.jFa (jc.apart (show jc w0 _ g s0_0 x1001_1 from Y7) (rq HO_9.out) (by decide)) hk (fun _ h=>h.2)) (fun _ h=>h.1));replace BK514:=am (jb.blk hk (g':=gb514) (o:=.cells #[.slice A1_0 l1_0.length c1_0] 32 (0,0)) (kq BK514.out) NB514_0.out (by simp));replace HK:=am (jb.trans (Y4) hk (.inl rfl));replace HB:=am (hb);replace HI0:=am (hi);(try clear hb);(try clear hb2);(try clear hk);(try clear hi)))
       go_meet
       case rel=>exact ⟨_,((t547 == 0)),(t548),(sq),H',⟨by have:=HK1.out;first | omega | exact Nat.le_refl _⟩,⟨rq HO_9.out⟩,⟨kq BK514.out⟩,⟨Y7⟩,⟨Y4⟩,⟨Y11⟩⟩
      ·rw [if_neg c39] at H
       have c39b0:decide (0<t528)=false:=dzF c39
       clear c39
       (first | rw [c39b0] |(simp only [jlb,jmb];rw [c39b0]) | skip)
       have H':=am H
       clear H
       go_wp2
       go_meet
       case rel=>exact ⟨_,(false),(x1001_1),(sq),H',⟨by have:=HK1.out;first | omega | exact Nat.le_refl _⟩,⟨rq HO_9.out⟩,⟨kq BK514.out⟩,⟨Y7⟩,⟨Y4⟩,⟨Y11⟩⟩
     case rest =>
      clear HC38
      try clear c1
      try clear c2
      try clear p2
      try clear c3
      try clear c4
      try clear c5
      try clear c6
      try clear p6
      try clear c9
      try clear c11
      try clear c20
      try clear c20b0
      try clear c23
      try clear c25
      try clear c26
      try clear c39
      try clear c39b0
      try clear hcz12_0
      try clear hcz27_0
      try clear hcz34_0
      try clear hfz12_0
      try clear hfz27_0
      try clear hfz34_0
      try clear p2
      try clear p6
      obtain ⟨kq,x57_37,x1001_37,rfl,HA,HJ37,HO_9,BK514,HI0,HK,HB⟩:=hcut
      cases kq with
      | zero=>exact absurd HA.out (by simp [jW.j1])
      | succ kj37 =>
       have H:=HA.out
       clear HA
       simp only [jW.j1] at H
       have HC42:=am H
       clear H
       go_upto_if 57 with (fail)
       go_cut [9] (fun v9 wc=>∃ (kq:Nat) (x9_41:List (S59)) (x1001_41:Int),jl (jW.j2 kq a2 a3 x9_41 t528 s0_0 x1001_41 l1_0=some (r1,r2))∧jl (kq≤kj37)∧jl (Kd.R k59 59 wc w.heap.size (fun _=>True) v9 x9_41)∧jl (wc.heap[gb514]?=some (.cells #[(.slice A1_0 l1_0.length c1_0)] 32 (0,0)))∧jl (jc w0 wc g s0_0 x1001_41)∧jl (jb w wc g none)∧jl (Below w0.heap.size w0 wc))
       case first =>
        have H:=HC42.out
        clear HC42
        by_cases c43:x57_37=true
        ·subst c43
         have H1:(if x9_1.length<4398046511104 then ((some (x9_1 ++ [(⟨a2,9,0,0⟩:S59)]:List (S59))).bind fun y549=>((jL.f kj37 s0_0 x1001_37 l1_0 (wrap64 (a2+1)) a3).bind fun bt552=>(if y549.length+bt552.1.length<4398046511104 then (jW.j2 kj37 a2 a3 (y549 ++ bt552.1) t528 s0_0 bt552.2 l1_0) else (none)))) else (none))=some (r1,r2):=by rw [if_pos rfl] at H;exact H
         clear H
         have H:=H1
         clear H1
         by_cases c44:x9_1.length<4398046511104
         ·rw [if_pos c44] at H
          have LMc44:=am c44
          clear c44
          obtain ⟨y549,hy549⟩:∃ y_:List (S59),y_=(x9_1 ++ [(⟨a2,9,0,0⟩:S59)]):=⟨_,rfl⟩
          replace H:((jL.f kj37 s0_0 x1001_37 l1_0 (wrap64 (a2+1)) a3).bind fun bt552=>(if y549.length+bt552.1.length<4398046511104 then (jW.j2 kj37 a2 a3 (y549 ++ bt552.1) t528 s0_0 bt552.2 l1_0) else (none)))=some (r1,r2):=by first |(rw [hy549];with_reducible exact H) |(have H2_:=(Option.bind_some _ _).symm.trans H;rw [hy549];with_reducible exact H2_) |(have H2_:=(Option.bind_some _ _).symm.trans H;with_reducible exact H2_) | with_reducible exact H |(rw [hy549];exact H) | exact H
          have Ny549:=am hy549
          clear hy549
          replace H:=bzS H
          obtain ⟨⟨t552,t555⟩,A450,H⟩:=H
          replace H:(if y549.length+t552.length<4398046511104 then (jW.j2 kj37 a2 a3 (y549 ++ t552) t528 s0_0 t555 l1_0) else (none))=some (r1,r2):=H
          have A45:=am A450
          clear A450
          by_cases c46:y549.length+t552.length<4398046511104
          ·rw [if_pos c46] at H
           have LMc46:=am c46
           clear c46
           obtain ⟨y556,hy556⟩:∃ y_:List (S59),y_=(y549 ++ t552):=⟨_,rfl⟩
           replace H:(jW.j2 kj37 a2 a3 y556 t528 s0_0 t555 l1_0)=some (r1,r2):=by first |(rw [hy556];with_reducible exact H) |(have H2_:=(Option.bind_some _ _).symm.trans H;rw [hy556];with_reducible exact H2_) |(have H2_:=(Option.bind_some _ _).symm.trans H;with_reducible exact H2_) | with_reducible exact H |(rw [hy556];exact H) | exact H
           have Ny556:=am hy556
           clear hy556
           have H':=am H
           clear H
           go_wp2_with (first |((with_reducible refine jLa (b:=.append) (xs:=#[.tmp 58, .tmp 61]) rfl ?_);at_builtin;refine Kd.jVb k59 w.heap.size rfl (.tmp 58) (.tmp 61) 34 59 (.agg #[(.int .i64 0),(.int .i64 0),(.int .i64 0),(.int .i64 0)]) 32 rfl Try.underlying34 jBc rfl (by decide) (by omega) u9 x9_1 (⟨a2,9,0,0⟩:S59) [.int .i64 a2, .int .i64 9, .int .i64 0, .int .i64 0] (fun _=>True) (fun _=>False) rfl rfl ?aP (fun _ hk=>hk.elim) ?aF ?aO (Below.refl _ _) ?aS ?aL ?_;(case aP=>exact jAb _ _ _ (⟨a2,9,0,0⟩:S59));(case aF=>exact (fun _ _=>trivial));(case aO=>exact (rq HO_9.out));(case aS=>exact (jN (w:=w) (g:=g) (row:=none) (Y4)));(case aL=>have:=LMc44.out;omega);intro v550 w47 ho hb hg hat;rw [← Ny549.out] at ho;have n0_:=am (jVa (g:=gb514) (o:=.cells #[.slice A1_0 l1_0.length c1_0] 32 (0,0)) (kq BK514.out) hg (Kd.R_ne HO_9.out BK514.out (by decide)));have n1_:=am (jc.grown (Y7) hg (jc.own_ne HI0.out HO_9.out (by decide)));have n2_:=am (jcb (Y11) HL.out hb);have n3_:=am (jb.trans (Y4) (jb.jxb hg g) (Kd.jQb HO_9.out));have n4_:=am (ho);clear BK514 HI0 HB HK HO_9;have BK514:=n0_;have HI0:=n1_;have HB:=n2_;have HK:=n3_;have HO551:=n4_;clear n0_ n1_ n2_ n3_ n4_ ho hb hg hat;have hnb48:=NB514_0.out;have hnc48:=NB0_514.out;have hcz49_0:=bc0 BK514.out;have hfz49_0:=ja BK514.out 0) |((with_reducible refine je (f:=98) rfl ?_);refine gL (some 69) Try.func98 #[.pointer (some ⟨g,0,none⟩), .agg #[.slice A1_0 l1_0.length c1_0], .int .i64 (wrap64 (a2+1)), .bool a3] ?_;(with_reducible refine (ih98 kj37 (by have:=HK1.out;have:=HJ37.out;omega) g s0_0 x1001_37 _ _ l1_0 (wrap64 (a2+1)) a3 t552 t555 w0 _ ?side1 ?side2 ?side3 ?side4 A45.out).mono ?_);(case side1=>exact Y7);(case side2=>exact Y11);(case side3=>exact Kd.job HR1_0.out (Y4));(case side4=>exact HC1_0.out);rintro e w50 ⟨v553,rfl,ho0,hi,hb,hk⟩;refine ⟨_,rfl,?_⟩;have HO554:=am (Kd.jea (Kd.jac ho0 (Kd.R_lt (rq HO551.out))) (jN (w:=w) (g:=g) (row:=none) (Y4)));replace BK514:=am (jb.blk hk (g':=gb514) (o:=.cells #[.slice A1_0 l1_0.length c1_0] 32 (0,0)) (kq BK514.out) NB514_0.out (by simp));replace HO551:=am (Kd.jK (Kd.R_told (Kd.R_oldK (jc.apart (show jc w0 _ g s0_0 x1001_37 from Y7) (rq HO551.out) (by decide)) hk) (Kd.jbc ho0)) (fun _ h_=>h_.1));replace HK:=am (jb.trans (Y4) hk (.inl rfl));replace HB:=am (hb);replace HI0:=am (hi);(try clear hb);(try clear hb2);(try clear hk);(try clear hi);(try clear ho0);obtain ⟨Ao52,co52,eo52⟩:=Kd.jsa HO554.out;subst eo52) |((with_reducible refine jLa (b:=.append) (xs:=#[.tmp 63, .tmp 69]) rfl ?_);at_builtin;refine Kd.jIb k59 w.heap.size rfl (.tmp 63) (.tmp 69) 34 59 (.agg #[(.int .i64 0),(.int .i64 0),(.int .i64 0),(.int .i64 0)]) 32 rfl Try.underlying34 jBc rfl (by decide) (by omega) v550 y549 t552 _ _ _ (fun k_=>some k_≠(.slice Ao52 t552.length co52:Value).ownBlock) (fun _=>False) rfl rfl ?aO ?aR (fun _ _ h=>h) (fun _ h=>h.elim) ?aF (Below.refl _ _) ?aS ?aL ?_;(case aR=>repeat (first | exact (Kd.jE HO554.out).2.2 |(with_reducible refine Kd.jyc ?_ _) |(with_reducible refine Kd.jmc ?_ _) |(with_reducible refine Kd.C_drew ?_)));(case aF=>exact (fun k_ hk=>Kd.fresh' (Kd.R_lt (rq HO554.out)) k_ hk));(case aO=>exact (by (with_reducible repeat (first | apply Kd.jga | apply Kd.jha | apply Kd.jra));exact Kd.jK HO551.out (fun _ hk=>hk.2)));(case aS=>exact (jN (w:=w) (g:=g) (row:=none) (Y4)));(case aL=>have:=LMc46.out;omega);intro v557 w51 ho hb hg hat;rw [← Ny556.out] at ho;have n0_:=am (jVa (g:=gb514) (o:=.cells #[.slice A1_0 l1_0.length c1_0] 32 (0,0)) (kq BK514.out) hg (Kd.R_ne HO551.out BK514.out (by decide)));have n1_:=am (jc.grown (Y7) hg (jc.own_ne HI0.out HO551.out (by decide)));have n2_:=am (Kd.jUc (ok:=(fun _=>True)) (rq HO554.out) hg hat);have n3_:=am (jcb (Y11) HL.out hb);have n4_:=am (jb.trans (Y4) (jb.jxb hg g) (Kd.jQb HO551.out));have n5_:=am (ho);clear BK514 HI0 HO554 HB HK HO551;have BK514:=n0_;have HI0:=n1_;have HO554:=n2_;have HB:=n3_;have HK:=n4_;have HO558:=n5_;clear n0_ n1_ n2_ n3_ n4_ n5_ ho hb hg hat))
           go_meet
           case rel=>exact ⟨_,(y556),(t555),H',⟨by have:=HK1.out;have:=HJ37.out;first | omega | exact Nat.le_refl _⟩,⟨by (with_reducible repeat (first | apply Kd.jga | apply Kd.jha | apply Kd.jra));exact Kd.jK HO558.out (fun _ hk=>trivial)⟩,⟨kq BK514.out⟩,⟨Y7⟩,⟨Y4⟩,⟨Y11⟩⟩
          ·rw [if_neg c46] at H
           exact absurd H (by simp)
         ·rw [if_neg c44] at H
          exact absurd H (by simp)
        ·replace c43:=Bool.eq_false_iff.mpr c43
         subst c43
         have H1:(jW.j2 kj37 a2 a3 x9_1 t528 s0_0 x1001_37 l1_0)=some (r1,r2):=by rw [if_neg (show ¬ (false=true) by decide)] at H;exact H
         clear H
         have H:=H1
         clear H1
         have H':=am H
         clear H
         go_wp2
         go_meet
         case rel=>exact ⟨_,(x9_1),(x1001_37),H',⟨by have:=HK1.out;have:=HJ37.out;first | omega | exact Nat.le_refl _⟩,⟨rq HO_9.out⟩,⟨kq BK514.out⟩,⟨Y7⟩,⟨Y4⟩,⟨Y11⟩⟩
       case rest =>
        clear HC42
        try clear c1
        try clear c2
        try clear p2
        try clear c3
        try clear c4
        try clear c5
        try clear c6
        try clear p6
        try clear c9
        try clear c11
        try clear c20
        try clear c20b0
        try clear c23
        try clear c25
        try clear c26
        try clear c39
        try clear c39b0
        try clear c43
        try clear c44
        try clear c46
        try clear c48
        try clear hcz12_0
        try clear hcz27_0
        try clear hcz34_0
        try clear hcz49_0
        try clear hfz12_0
        try clear hfz27_0
        try clear hfz34_0
        try clear hfz49_0
        try clear p2
        try clear p6
        obtain ⟨kq,x9_41,x1001_41,HA,HJ41,HO_9,BK514,HI0,HK,HB⟩:=hcut
        cases kq with
        | zero=>exact absurd HA.out (by simp [jW.j2])
        | succ kj41 =>
         have H:=HA.out
         clear HA
         simp only [jW.j2] at H
         by_cases c53:t528=0
         ·rw [if_pos c53] at H
          have c53b0:(t528 == 0)=true:=beq_iff_eq.mpr c53
          have c53b1:(t528 != 0)=false:=bne_eq_false_iff_eq.mpr c53
          clear c53
          by_cases c54:x9_41.length<4398046511104
          ·rw [if_pos c54] at H
           have LMc54:=am c54
           clear c54
           obtain ⟨y561,hy561⟩:∃ y_:List (S59),y_=(x9_41 ++ [(⟨a2,10,0,0⟩:S59)]):=⟨_,rfl⟩
           replace H:((jL.f kj41 s0_0 x1001_41 l1_0 (wrap64 (a2+1)) a3).bind fun bt564=>(if y561.length+bt564.1.length<4398046511104 then (some ((y561 ++ bt564.1),bt564.2)) else (none)))=some (r1,r2):=by first |(rw [hy561];with_reducible exact H) |(have H2_:=(Option.bind_some _ _).symm.trans H;rw [hy561];with_reducible exact H2_) |(have H2_:=(Option.bind_some _ _).symm.trans H;with_reducible exact H2_) | with_reducible exact H |(rw [hy561];exact H) | exact H
           have Ny561:=am hy561
           clear hy561
           replace H:=bzS H
           obtain ⟨⟨t564,t567⟩,A550,H⟩:=H
           replace H:(if y561.length+t564.length<4398046511104 then (some ((y561 ++ t564),t567)) else (none))=some (r1,r2):=H
           have A55:=am A550
           clear A550
           by_cases c56:y561.length+t564.length<4398046511104
           ·rw [if_pos c56] at H
            have LMc56:=am c56
            clear c56
            obtain ⟨y568,hy568⟩:∃ y_:List (S59),y_=(y561 ++ t564):=⟨_,rfl⟩
            replace H:(some (y568,t567))=some (r1,r2):=by first |(rw [hy568];with_reducible exact H) |(have H2_:=(Option.bind_some _ _).symm.trans H;rw [hy568];with_reducible exact H2_) |(have H2_:=(Option.bind_some _ _).symm.trans H;with_reducible exact H2_) | with_reducible exact H |(rw [hy568];exact H) | exact H
            have Ny568:=am hy568
            clear hy568
            simp only [Option.some.injEq,Prod.mk.injEq] at H
            obtain ⟨rfl,rfl⟩:=H
            go_wp2_with (first |((with_reducible refine jLa (b:=.append) (xs:=#[.tmp 78, .tmp 81]) rfl ?_);at_builtin;refine Kd.jVb k59 w.heap.size rfl (.tmp 78) (.tmp 81) 34 59 (.agg #[(.int .i64 0),(.int .i64 0),(.int .i64 0),(.int .i64 0)]) 32 rfl Try.underlying34 jBc rfl (by decide) (by omega) u9 x9_41 (⟨a2,10,0,0⟩:S59) [.int .i64 a2, .int .i64 10, .int .i64 0, .int .i64 0] (fun _=>True) (fun _=>False) rfl rfl ?aP (fun _ hk=>hk.elim) ?aF ?aO (Below.refl _ _) ?aS ?aL ?_;(case aP=>exact jAb _ _ _ (⟨a2,10,0,0⟩:S59));(case aF=>exact (fun _ _=>trivial));(case aO=>exact (rq HO_9.out));(case aS=>exact (jN (w:=w) (g:=g) (row:=none) (Y4)));(case aL=>have:=LMc54.out;omega);intro v562 w57 ho hb hg hat;rw [← Ny561.out] at ho;have n0_:=am (jVa (g:=gb514) (o:=.cells #[.slice A1_0 l1_0.length c1_0] 32 (0,0)) (kq BK514.out) hg (Kd.R_ne HO_9.out BK514.out (by decide)));have n1_:=am (jc.grown (Y7) hg (jc.own_ne HI0.out HO_9.out (by decide)));have n2_:=am (jcb (Y11) HL.out hb);have n3_:=am (jb.trans (Y4) (jb.jxb hg g) (Kd.jQb HO_9.out));have n4_:=am (ho);clear BK514 HI0 HB HK HO_9;have BK514:=n0_;have HI0:=n1_;have HB:=n2_;have HK:=n3_;have HO563:=n4_;clear n0_ n1_ n2_ n3_ n4_ ho hb hg hat;have hnb58:=NB514_0.out;have hnc58:=NB0_514.out;have hcz59_0:=bc0 BK514.out;have hfz59_0:=ja BK514.out 0) |((with_reducible refine je (f:=98) rfl ?_);refine gL (some 89) Try.func98 #[.pointer (some ⟨g,0,none⟩), .agg #[.slice A1_0 l1_0.length c1_0], .int .i64 (wrap64 (a2+1)), .bool a3] ?_;(with_reducible refine (ih98 kj41 (by have:=HK1.out;have:=HJ37.out;have:=HJ41.out;omega) g s0_0 x1001_41 _ _ l1_0 (wrap64 (a2+1)) a3 t564 t567 w0 _ ?side1 ?side2 ?side3 ?side4 A55.out).mono ?_);(case side1=>exact Y7);(case side2=>exact Y11);(case side3=>exact Kd.job HR1_0.out (Y4));(case side4=>exact HC1_0.out);rintro e w60 ⟨v565,rfl,ho0,hi,hb,hk⟩;refine ⟨_,rfl,?_⟩;have HO566:=am (Kd.jea (Kd.jac ho0 (Kd.R_lt (rq HO563.out))) (jN (w:=w) (g:=g) (row:=none) (Y4)));replace BK514:=am (jb.blk hk (g':=gb514) (o:=.cells #[.slice A1_0 l1_0.length c1_0] 32 (0,0)) (kq BK514.out) NB514_0.out (by simp));replace HO563:=am (Kd.jK (Kd.R_told (Kd.R_oldK (jc.apart (show jc w0 _ g s0_0 x1001_41 from Y7) (rq HO563.out) (by decide)) hk) (Kd.jbc ho0)) (fun _ h_=>h_.1));replace HK:=am (jb.trans (Y4) hk (.inl rfl));replace HB:=am (hb);replace HI0:=am (hi);(try clear hb);(try clear hb2);(try clear hk);(try clear hi);(try clear ho0);obtain ⟨Ao62,co62,eo62⟩:=Kd.jsa HO566.out;subst eo62) |((with_reducible refine jLa (b:=.append) (xs:=#[.tmp 83, .tmp 89]) rfl ?_);at_builtin;refine Kd.jIb k59 w.heap.size rfl (.tmp 83) (.tmp 89) 34 59 (.agg #[(.int .i64 0),(.int .i64 0),(.int .i64 0),(.int .i64 0)]) 32 rfl Try.underlying34 jBc rfl (by decide) (by omega) v562 y561 t564 _ _ _ (fun k_=>some k_≠(.slice Ao62 t564.length co62:Value).ownBlock) (fun _=>False) rfl rfl ?aO ?aR (fun _ _ h=>h) (fun _ h=>h.elim) ?aF (Below.refl _ _) ?aS ?aL ?_;(case aR=>repeat (first | exact (Kd.jE HO566.out).2.2 |(with_reducible refine Kd.jyc ?_ _) |(with_reducible refine Kd.jmc ?_ _) |(with_reducible refine Kd.C_drew ?_)));(case aF=>exact (fun k_ hk=>Kd.fresh' (Kd.R_lt (rq HO566.out)) k_ hk));(case aO=>exact (by (with_reducible repeat (first | apply Kd.jga | apply Kd.jha | apply Kd.jra));exact Kd.jK HO563.out (fun _ hk=>hk.2)));(case aS=>exact (jN (w:=w) (g:=g) (row:=none) (Y4)));(case aL=>have:=LMc56.out;omega);intro v569 w61 ho hb hg hat;rw [← Ny568.out] at ho;have n0_:=am (jVa (g:=gb514) (o:=.cells #[.slice A1_0 l1_0.length c1_0] 32 (0,0)) (kq BK514.out) hg (Kd.R_ne HO563.out BK514.out (by decide)));have n1_:=am (jc.grown (Y7) hg (jc.own_ne HI0.out HO563.out (by decide)));have n2_:=am (Kd.jUc (ok:=(fun _=>True)) (rq HO566.out) hg hat);have n3_:=am (jcb (Y11) HL.out hb);have n4_:=am (jb.trans (Y4) (jb.jxb hg g) (Kd.jQb HO563.out));have n5_:=am (ho);clear BK514 HI0 HO566 HB HK HO563;have BK514:=n0_;have HI0:=n1_;have HO566:=n2_;have HB:=n3_;have HK:=n4_;have HO570:=n5_;clear n0_ n1_ n2_ n3_ n4_ n5_ ho hb hg hat))
            go_ret
            exact ⟨_,Y0,by (with_reducible repeat (first | apply Kd.jga | apply Kd.jha | apply Kd.jra));exact Kd.jK HO570.out (fun _ hk=>trivial),Y7,Y11,Y4⟩
           ·rw [if_neg c56] at H
            exact absurd H (by simp)
          ·rw [if_neg c54] at H
           exact absurd H (by simp)
         ·rw [if_neg c53] at H
          have c53b0:(t528 == 0)=false:=beq_eq_false_iff_ne.mpr c53
          have c53b1:(t528 != 0)=true:=bne_iff_ne.mpr c53
          replace H:=bzS H
          obtain ⟨⟨t559,t560⟩,A630,H⟩:=H
          replace H:(if t559=0 then (if x9_41.length<4398046511104 then ((some (x9_41 ++ [(⟨a2,10,0,0⟩:S59)]:List (S59))).bind fun y571=>((jL.f kj41 s0_0 t560 l1_0 (wrap64 (a2+1)) a3).bind fun bt574=>(if y571.length+bt574.1.length<4398046511104 then (some ((y571 ++ bt574.1),bt574.2)) else (none)))) else (none)) else (some (x9_41,t560)))=some (r1,r2):=H
          have A63:=am A630
          clear A630
          by_cases c64:t559=0
          ·rw [if_pos c64] at H
           have c64b0:(t559 == 0)=true:=beq_iff_eq.mpr c64
           have c64b1:(t559 != 0)=false:=bne_eq_false_iff_eq.mpr c64
           clear c64
           by_cases c65:x9_41.length<4398046511104
           ·rw [if_pos c65] at H
            have LMc65:=am c65
            clear c65
            obtain ⟨y571,hy571⟩:∃ y_:List (S59),y_=(x9_41 ++ [(⟨a2,10,0,0⟩:S59)]):=⟨_,rfl⟩
            replace H:((jL.f kj41 s0_0 t560 l1_0 (wrap64 (a2+1)) a3).bind fun bt574=>(if y571.length+bt574.1.length<4398046511104 then (some ((y571 ++ bt574.1),bt574.2)) else (none)))=some (r1,r2):=by first |(rw [hy571];with_reducible exact H) |(have H2_:=(Option.bind_some _ _).symm.trans H;rw [hy571];with_reducible exact H2_) |(have H2_:=(Option.bind_some _ _).symm.trans H;with_reducible exact H2_) | with_reducible exact H |(rw [hy571];exact H) | exact H
            have Ny571:=am hy571
            clear hy571
            replace H:=bzS H
            obtain ⟨⟨t574,t577⟩,A660,H⟩:=H
            replace H:(if y571.length+t574.length<4398046511104 then (some ((y571 ++ t574),t577)) else (none))=some (r1,r2):=H
            have A66:=am A660
            clear A660
            by_cases c67:y571.length+t574.length<4398046511104
            ·rw [if_pos c67] at H
             have LMc67:=am c67
             clear c67
             obtain ⟨y578,hy578⟩:∃ y_:List (S59),y_=(y571 ++ t574):=⟨_,rfl⟩
             replace H:(some (y578,t577))=some (r1,r2):=by first |(rw [hy578];with_reducible exact H) |(have H2_:=(Option.bind_some _ _).symm.trans H;rw [hy578];with_reducible exact H2_) |(have H2_:=(Option.bind_some _ _).symm.trans H;with_reducible exact H2_) | with_reducible exact H |(rw [hy578];exact H) | exact H
             have Ny578:=am hy578
             clear hy578
             simp only [Option.some.injEq,Prod.mk.injEq] at H
             obtain ⟨rfl,rfl⟩:=H
             go_wp2_with (first |(go_at_call 55;(with_reducible refine (jf.calls kj41 g s0_0 x1001_41 2 t559 t560 w0 _ ?side1 ?side2 A63.out).mono ?_);(case side1=>exact Y7);(case side2=>exact Y11);rintro e w68 ⟨rfl,hi,hb,hk⟩;replace HO_9:=am (Kd.jK (Kd.jFa (jc.apart (show jc w0 _ g s0_0 x1001_41 from Y7) (rq HO_9.out) (by decide)) hk (fun _ h=>h.2)) (fun _ h=>h.1));replace BK514:=am (jb.blk hk (g':=gb514) (o:=.cells #[.slice A1_0 l1_0.length c1_0] 32 (0,0)) (kq BK514.out) NB514_0.out (by simp));replace HK:=am (jb.trans (Y4) hk (.inl rfl));replace HB:=am (hb);replace HI0:=am (hi);(try clear hb);(try clear hb2);(try clear hk);(try clear hi)) |((with_reducible refine jLa (b:=.append) (xs:=#[.tmp 78, .tmp 81]) rfl ?_);at_builtin;refine Kd.jVb k59 w.heap.size rfl (.tmp 78) (.tmp 81) 34 59 (.agg #[(.int .i64 0),(.int .i64 0),(.int .i64 0),(.int .i64 0)]) 32 rfl Try.underlying34 jBc rfl (by decide) (by omega) u9 x9_41 (⟨a2,10,0,0⟩:S59) [.int .i64 a2, .int .i64 10, .int .i64 0, .int .i64 0] (fun _=>True) (fun _=>False) rfl rfl ?aP (fun _ hk=>hk.elim) ?aF ?aO (Below.refl _ _) ?aS ?aL ?_;(case aP=>exact jAb _ _ _ (⟨a2,10,0,0⟩:S59));(case aF=>exact (fun _ _=>trivial));(case aO=>exact (rq HO_9.out));(case aS=>exact (jN (w:=w) (g:=g) (row:=none) (Y4)));(case aL=>have:=LMc65.out;omega);intro v572 w69 ho hb hg hat;rw [← Ny571.out] at ho;have n0_:=am (jVa (g:=gb514) (o:=.cells #[.slice A1_0 l1_0.length c1_0] 32 (0,0)) (kq BK514.out) hg (Kd.R_ne HO_9.out BK514.out (by decide)));have n1_:=am (jc.grown (Y7) hg (jc.own_ne HI0.out HO_9.out (by decide)));have n2_:=am (jcb (Y11) HL.out hb);have n3_:=am (jb.trans (Y4) (jb.jxb hg g) (Kd.jQb HO_9.out));have n4_:=am (ho);clear BK514 HI0 HB HK HO_9;have BK514:=n0_;have HI0:=n1_;have HB:=n2_;have HK:=n3_;have HO573:=n4_;clear n0_ n1_ n2_ n3_ n4_ ho hb hg hat;have hnb70:=NB514_0.out;have hnc70:=NB0_514.out;have hcz71_0:=bc0 BK514.out;have hfz71_0:=ja BK514.out 0) |((with_reducible refine je (f:=98) rfl ?_);refine gL (some 89) Try.func98 #[.pointer (some ⟨g,0,none⟩), .agg #[.slice A1_0 l1_0.length c1_0], .int .i64 (wrap64 (a2+1)), .bool a3] ?_;(with_reducible refine (ih98 kj41 (by have:=HK1.out;have:=HJ37.out;have:=HJ41.out;omega) g s0_0 t560 _ _ l1_0 (wrap64 (a2+1)) a3 t574 t577 w0 _ ?side1 ?side2 ?side3 ?side4 A66.out).mono ?_);(case side1=>exact Y7);(case side2=>exact Y11);(case side3=>exact Kd.job HR1_0.out (Y4));(case side4=>exact HC1_0.out);rintro e w72 ⟨v575,rfl,ho0,hi,hb,hk⟩;refine ⟨_,rfl,?_⟩;have HO576:=am (Kd.jea (Kd.jac ho0 (Kd.R_lt (rq HO573.out))) (jN (w:=w) (g:=g) (row:=none) (Y4)));replace BK514:=am (jb.blk hk (g':=gb514) (o:=.cells #[.slice A1_0 l1_0.length c1_0] 32 (0,0)) (kq BK514.out) NB514_0.out (by simp));replace HO573:=am (Kd.jK (Kd.R_told (Kd.R_oldK (jc.apart (show jc w0 _ g s0_0 t560 from Y7) (rq HO573.out) (by decide)) hk) (Kd.jbc ho0)) (fun _ h_=>h_.1));replace HK:=am (jb.trans (Y4) hk (.inl rfl));replace HB:=am (hb);replace HI0:=am (hi);(try clear hb);(try clear hb2);(try clear hk);(try clear hi);(try clear ho0);obtain ⟨Ao74,co74,eo74⟩:=Kd.jsa HO576.out;subst eo74) |((with_reducible refine jLa (b:=.append) (xs:=#[.tmp 83, .tmp 89]) rfl ?_);at_builtin;refine Kd.jIb k59 w.heap.size rfl (.tmp 83) (.tmp 89) 34 59 (.agg #[(.int .i64 0),(.int .i64 0),(.int .i64 0),(.int .i64 0)]) 32 rfl Try.underlying34 jBc rfl (by decide) (by omega) v572 y571 t574 _ _ _ (fun k_=>some k_≠(.slice Ao74 t574.length co74:Value).ownBlock) (fun _=>False) rfl rfl ?aO ?aR (fun _ _ h=>h) (fun _ h=>h.elim) ?aF (Below.refl _ _) ?aS ?aL ?_;(case aR=>repeat (first | exact (Kd.jE HO576.out).2.2 |(with_reducible refine Kd.jyc ?_ _) |(with_reducible refine Kd.jmc ?_ _) |(with_reducible refine Kd.C_drew ?_)));(case aF=>exact (fun k_ hk=>Kd.fresh' (Kd.R_lt (rq HO576.out)) k_ hk));(case aO=>exact (by (with_reducible repeat (first | apply Kd.jga | apply Kd.jha | apply Kd.jra));exact Kd.jK HO573.out (fun _ hk=>hk.2)));(case aS=>exact (jN (w:=w) (g:=g) (row:=none) (Y4)));(case aL=>have:=LMc67.out;omega);intro v579 w73 ho hb hg hat;rw [← Ny578.out] at ho;have n0_:=am (jVa (g:=gb514) (o:=.cells #[.slice A1_0 l1_0.length c1_0] 32 (0,0)) (kq BK514.out) hg (Kd.R_ne HO573.out BK514.out (by decide)));have n1_:=am (jc.grown (Y7) hg (jc.own_ne HI0.out HO573.out (by decide)));have n2_:=am (Kd.jUc (ok:=(fun _=>True)) (rq HO576.out) hg hat);have n3_:=am (jcb (Y11) HL.out hb);have n4_:=am (jb.trans (Y4) (jb.jxb hg g) (Kd.jQb HO573.out));have n5_:=am (ho);clear BK514 HI0 HO576 HB HK HO573;have BK514:=n0_;have HI0:=n1_;have HO576:=n2_;have HB:=n3_;have HK:=n4_;have HO580:=n5_;clear n0_ n1_ n2_ n3_ n4_ n5_ ho hb hg hat))
             go_ret
             exact ⟨_,Y0,by (with_reducible repeat (first | apply Kd.jga | apply Kd.jha | apply Kd.jra));exact Kd.jK HO580.out (fun _ hk=>trivial),Y7,Y11,Y4⟩
            ·rw [if_neg c67] at H
             exact absurd H (by simp)
           ·rw [if_neg c65] at H
            exact absurd H (by simp)
          ·rw [if_neg c64] at H
           have c64b0:(t559 == 0)=false:=beq_eq_false_iff_ne.mpr c64
           have c64b1:(t559 != 0)=true:=bne_iff_ne.mpr c64
           simp only [Option.some.injEq,Prod.mk.injEq] at H
           obtain ⟨rfl,rfl⟩:=H
           go_wp2_with (first |(go_at_call 55;(with_reducible refine (jf.calls kj41 g s0_0 x1001_41 2 t559 t560 w0 _ ?side1 ?side2 A63.out).mono ?_);(case side1=>exact Y7);(case side2=>exact Y11);rintro e w75 ⟨rfl,hi,hb,hk⟩;replace HO_9:=am (Kd.jK (Kd.jFa (jc.apart (show jc w0 _ g s0_0 x1001_41 from Y7) (rq HO_9.out) (by decide)) hk (fun _ h=>h.2)) (fun _ h=>h.1));replace BK514:=am (jb.blk hk (g':=gb514) (o:=.cells #[.slice A1_0 l1_0.length c1_0] 32 (0,0)) (kq BK514.out) NB514_0.out (by simp));replace HK:=am (jb.trans (Y4) hk (.inl rfl));replace HB:=am (hb);replace HI0:=am (hi);(try clear hb);(try clear hb2);(try clear hk);(try clear hi)))
           go_ret
           exact ⟨_,Y0,rq HO_9.out,Y7,Y11,Y4⟩
 ·rw [if_neg c6] at H
  exact absurd H (by simp)
set_option maxHeartbeats 8000000 in
set_option maxRecDepth 100000 in
theorem jy.calls_all : ∀ k, (∀ (g : Nat) (s0_0 : List Int) (s0_1 : Int) (A1_0 : Option Addr) (c1_0 : Nat) (l1_0 : List (S98)) (a2 : Int) (a3 : Bool) (r1 : List (S59)) (r2 : Int) (w0 w : World) (hI : jc w0 w g s0_0 s0_1) (hB : Below w0.heap.size w0 w) (hr1_0 : ∀ W_, jb w W_ g none → Kd.C k98 W_ A1_0 l1_0.length l1_0) (hc1_0 : l1_0.length ≤ c1_0) (h : jy.f k s0_0 s0_1 l1_0 a2 a3 = some (r1, r2)), Calls Try.prog 104 #[.pointer (some ⟨g, 0, none⟩), .agg #[.slice A1_0 l1_0.length c1_0], .int .i64 a2, .bool a3] w fun e w' => ∃ v0_ : Value, e = .returned (v0_) ∧ Kd.R k59 59 w' w.heap.size (fun _ => True) v0_ r1 ∧ jc w0 w' g s0_0 r2 ∧ Below w0.heap.size w0 w' ∧ jb w w' g none) ∧ (∀ (g : Nat) (s0_0 : List Int) (s0_1 : Int) (A1_0 : Option Addr) (c1_0 : Nat) (l1_0 : List (S98)) (a2 : Int) (a3 : Bool) (r1 : List (S59)) (r2 : Int) (w0 w : World) (hI : jc w0 w g s0_0 s0_1) (hB : Below w0.heap.size w0 w) (hr1_0 : ∀ W_, jb w W_ g none → Kd.C k98 W_ A1_0 l1_0.length l1_0) (hc1_0 : l1_0.length ≤ c1_0) (h : jL.f k s0_0 s0_1 l1_0 a2 a3 = some (r1, r2)), Calls Try.prog 98 #[.pointer (some ⟨g, 0, none⟩), .agg #[.slice A1_0 l1_0.length c1_0], .int .i64 a2, .bool a3] w fun e w' => ∃ v0_ : Value, e = .returned (v0_) ∧ Kd.R k59 59 w' w.heap.size (fun _ => True) v0_ r1 ∧ jc w0 w' g s0_0 r2 ∧ Below w0.heap.size w0 w' ∧ jb w w' g none) ∧ (∀ (g : Nat) (s0_0 : List Int) (s0_1 : Int) (A1_0 : Option Addr) (c1_0 : Nat) (l1_0 : List (S98)) (a2 : Int) (a3 : Bool) (r1 : List (S59)) (r2 : Int) (w0 w : World) (hI : jc w0 w g s0_0 s0_1) (hB : Below w0.heap.size w0 w) (hr1_0 : ∀ W_, jb w W_ g none → Kd.C k98 W_ A1_0 l1_0.length l1_0) (hc1_0 : l1_0.length ≤ c1_0) (h : jW.f k s0_0 s0_1 l1_0 a2 a3 = some (r1, r2)), Calls Try.prog 97 #[.pointer (some ⟨g, 0, none⟩), .agg #[.slice A1_0 l1_0.length c1_0], .int .i64 a2, .bool a3] w fun e w' => ∃ v0_ : Value, e = .returned (v0_) ∧ Kd.R k59 59 w' w.heap.size (fun _ => True) v0_ r1 ∧ jc w0 w' g s0_0 r2 ∧ Below w0.heap.size w0 w' ∧ jb w w' g none) := by
 intro k
 induction k using Nat.strongRecOn with
 | _ k ih =>
 exact ⟨jy.calls_of k (fun k_ hk_=>(ih k_ hk_).1) (fun k_ hk_=>(ih k_ hk_).2.1) (fun k_ hk_=>(ih k_ hk_).2.2),jL.calls_of k (fun k_ hk_=>(ih k_ hk_).1) (fun k_ hk_=>(ih k_ hk_).2.1) (fun k_ hk_=>(ih k_ hk_).2.2),jW.calls_of k (fun k_ hk_=>(ih k_ hk_).1) (fun k_ hk_=>(ih k_ hk_).2.1) (fun k_ hk_=>(ih k_ hk_).2.2)⟩
theorem jL.calls (k : Nat) : ∀ (g : Nat) (s0_0 : List Int) (s0_1 : Int) (A1_0 : Option Addr) (c1_0 : Nat) (l1_0 : List (S98)) (a2 : Int) (a3 : Bool) (r1 : List (S59)) (r2 : Int) (w0 w : World) (hI : jc w0 w g s0_0 s0_1) (hB : Below w0.heap.size w0 w) (hr1_0 : ∀ W_, jb w W_ g none → Kd.C k98 W_ A1_0 l1_0.length l1_0) (hc1_0 : l1_0.length ≤ c1_0) (h : jL.f k s0_0 s0_1 l1_0 a2 a3 = some (r1, r2)), Calls Try.prog 98 #[.pointer (some ⟨g, 0, none⟩), .agg #[.slice A1_0 l1_0.length c1_0], .int .i64 a2, .bool a3] w fun e w' => ∃ v0_ : Value, e = .returned (v0_) ∧ Kd.R k59 59 w' w.heap.size (fun _ => True) v0_ r1 ∧ jc w0 w' g s0_0 r2 ∧ Below w0.heap.size w0 w' ∧ jb w w' g none := (jy.calls_all k).2.1
theorem jW.calls (k : Nat) : ∀ (g : Nat) (s0_0 : List Int) (s0_1 : Int) (A1_0 : Option Addr) (c1_0 : Nat) (l1_0 : List (S98)) (a2 : Int) (a3 : Bool) (r1 : List (S59)) (r2 : Int) (w0 w : World) (hI : jc w0 w g s0_0 s0_1) (hB : Below w0.heap.size w0 w) (hr1_0 : ∀ W_, jb w W_ g none → Kd.C k98 W_ A1_0 l1_0.length l1_0) (hc1_0 : l1_0.length ≤ c1_0) (h : jW.f k s0_0 s0_1 l1_0 a2 a3 = some (r1, r2)), Calls Try.prog 97 #[.pointer (some ⟨g, 0, none⟩), .agg #[.slice A1_0 l1_0.length c1_0], .int .i64 a2, .bool a3] w fun e w' => ∃ v0_ : Value, e = .returned (v0_) ∧ Kd.R k59 59 w' w.heap.size (fun _ => True) v0_ r1 ∧ jc w0 w' g s0_0 r2 ∧ Below w0.heap.size w0 w' ∧ jb w w' g none := (jy.calls_all k).2.2
mutual
def jC.l0 : Nat → Int → List Int → Int → List (S98) → Option ((List (S59)) × Int)
 | 0,_,_,_,_=>none
 | k+1,x5,x1000,x1001,x582000=>if x5<4 then ((jW.f k x1000 x1001 x582000 0 false).bind fun bt585=>((jf.f k x1000 bt585.2 3).bind fun bt589=>(if bt589.1=0 then ((jL.f k x1000 bt589.2 x582000 0 false).bind fun bt591=>(if bt585.1.length+bt591.1.length<4398046511104 then (jC.j1 k x5 (bt585.1 ++ bt591.1) x1000 bt591.2 x582000) else (none))) else (jC.j1 k x5 bt585.1 x1000 bt589.2 x582000)))) else (some ((([(⟨0,7,0,0⟩:S59),(⟨1,2,0,1⟩:S59),(⟨0,10,0,0⟩:S59),(⟨1,1,1,0⟩:S59)]:List (S59))),x1001))
def jC.j1 : Nat → Int → List (S59) → List Int → Int → List (S98) → Option ((List (S59)) × Int)
 | 0,_,_,_,_,_=>none
 | k+1,x5,x6,x1000,x1001,x582000=>(jf.f k x1000 x1001 4).bind fun bt598=>(if bt598.1=0 then ((jL.f k x1000 bt598.2 x582000 0 false).bind fun bt600=>(jC.j2 k x5 bt600.1 x1000 bt600.2 x582000)) else (jC.j2 k x5 x6 x1000 bt598.2 x582000))
def jC.j2 : Nat → Int → List (S59) → List Int → Int → List (S98) → Option ((List (S59)) × Int)
 | 0,_,_,_,_,_=>none
 | k+1,x5,x6,x1000,x1001,x582000=>if (x6.length:Int)≤24 then (some (x6,x1001)) else (jC.l0 k (wrap64 (x5+1)) x1000 x1001 x582000)
end
def jC.f (k : Nat) (s0_0 : List Int) (s0_1 : Int) (l1_0 : List (S98)) : Option ((List (S59)) × Int) := jC.l0 k 0 s0_0 s0_1 l1_0
set_option maxHeartbeats 8000000 in
set_option maxRecDepth 100000 in
theorem jC.calls (k : Nat) (g : Nat) (s0_0 : List Int) (s0_1 : Int) (A1_0 : Option Addr) (c1_0 : Nat) (l1_0 : List (S98)) (r1 : List (S59)) (r2 : Int) (w0 w : World) (hI : jc w0 w g s0_0 s0_1) (hB : Below w0.heap.size w0 w) (hr1_0 : ∀ W_, jb w W_ g none → Kd.C k98 W_ A1_0 l1_0.length l1_0) (hc1_0 : l1_0.length ≤ c1_0) (h : jC.f k s0_0 s0_1 l1_0 = some (r1, r2)) :
  Calls Try.prog 72 #[.pointer (some ⟨g,0,none⟩), .agg #[.slice A1_0 l1_0.length c1_0]] w fun e w'=>∃ v0_:Value,e=.returned (v0_)∧Kd.R k59 59 w' w.heap.size (fun _=>True) v0_ r1∧jc w0 w' g s0_0 r2∧Below w0.heap.size w0 w'∧jb w w' g none:=by
 have hu32:=Try.underlying32
 have hu59:=Try.underlying59
 have HR1_0:=am hr1_0
 have HC1_0:=am hc1_0
 clear hr1_0 hc1_0
 have HI0:=am hI
 have HK:=am (jb.refl w g none)
 have HL:=am hB.size
 clear hI
 have HW0:=am hB.size
 have HB:=am hB
 clear hB
 have H:(jC.l0 k 0 s0_0 s0_1 l1_0)=some (r1,r2):=h
 clear h
 have H':=am H
 clear H
 go_enter Try.func72,Try.ntmps72
 go_wp2_with (first |((with_reducible refine jS (N:=3) rfl ?_);refine bE (N:=3) (cs:=#[.slice A1_0 l1_0.length c1_0]) (t:=32) ?_;intro gb581 hg w3 hbox hb;have BK581:=am (hbox);have GW581:=am ((Y12:w.heap.size≤gb581));have GE581:=am ((Nat.le_trans HW0.out (Y12:w.heap.size≤gb581):w0.heap.size≤gb581));have NB0_581:=am ((Y30:g≠gb581));have NB581_0:=am ((Y31:gb581≠g));replace HK:=am (jb.trans (Y16) (jb.of_below hb g none) (.inl rfl));replace HB:=am (jg (Y17) hb);replace HI0:=am (jc.below (Y15) hb);clear hb hbox hg))
 go_loopg [5] k (fun kq v5 w'=>∃ (x5_1:Int) (x1001_1:Int),v5=.int .i64 x5_1∧jl (jC.l0 kq x5_1 s0_0 x1001_1 l1_0=some (r1,r2))∧jl (kq≤k)∧jl (w'.heap[gb581]?=some (.cells #[(.slice A1_0 l1_0.length c1_0)] 32 (0,0)))∧jl (jc w0 w' g s0_0 x1001_1)∧jl (jb w w' g none)∧jl (Below w0.heap.size w0 w'))
 case atStart=>exact ⟨(0),(s0_1),(sq),H',⟨Nat.le_refl _⟩,⟨kq BK581.out⟩,⟨Y22⟩,⟨Y18⟩,⟨Y32⟩⟩
 case round =>
  clear H'
  try clear c1
  try clear p2
  obtain ⟨x5_1,x1001_1,rfl,HA,HK1,BK581,HI0,HK,HB⟩:=hrel
  cases gk with
  | zero=>exact absurd HA.out (by simp [jC.l0])
  | succ k1 =>
   have H:=HA.out
   clear HA
   simp only [jC.l0] at H
   by_cases c4:x5_1<4
   ·rw [if_pos c4] at H
    have c4b0:decide (x5_1<4)=true:=dzT c4
    clear c4
    replace H:=bzS H
    obtain ⟨⟨t585,t588⟩,A50,H⟩:=H
    replace H:((jf.f k1 s0_0 t588 3).bind fun bt589=>(if bt589.1=0 then ((jL.f k1 s0_0 bt589.2 l1_0 0 false).bind fun bt591=>(if t585.length+bt591.1.length<4398046511104 then (jC.j1 k1 x5_1 (t585 ++ bt591.1) s0_0 bt591.2 l1_0) else (none))) else (jC.j1 k1 x5_1 t585 s0_0 bt589.2 l1_0)))=some (r1,r2):=H
    have A5:=am A50
    clear A50
    replace H:=bzS H
    obtain ⟨⟨t589,t590⟩,A60,H⟩:=H
    replace H:(if t589=0 then ((jL.f k1 s0_0 t590 l1_0 0 false).bind fun bt591=>(if t585.length+bt591.1.length<4398046511104 then (jC.j1 k1 x5_1 (t585 ++ bt591.1) s0_0 bt591.2 l1_0) else (none))) else (jC.j1 k1 x5_1 t585 s0_0 t590 l1_0))=some (r1,r2):=H
    have A6:=am A60
    clear A60
    have HC7:=am H
    clear H
    have hnb8:=NB581_0.out
    have hnc8:=NB0_581.out
    have hcz9_0:=bc0 BK581.out
    have hfz9_0:=ja BK581.out 0
    go_upto_if 16 with (first |((with_reducible refine je (f:=97) rfl ?_);refine gL (some 13) Try.func97 #[.pointer (some ⟨g,0,none⟩), .agg #[.slice A1_0 l1_0.length c1_0], .int .i64 0, .bool false] ?_;(with_reducible refine (jW.calls k1 g s0_0 x1001_1 _ _ l1_0 0 false t585 t588 w0 _ ?side1 ?side2 ?side3 ?side4 A5.out).mono ?_);(case side1=>exact Y22);(case side2=>exact Y32);(case side3=>exact Kd.job HR1_0.out (Y18));(case side4=>exact HC1_0.out);rintro e w10 ⟨v586,rfl,ho0,hi,hb,hk⟩;refine ⟨_,rfl,?_⟩;have HO587:=am (Kd.jea ho0 (jN (w:=w) (g:=g) (row:=none) (Y18)));replace BK581:=am (jb.blk hk (g':=gb581) (o:=.cells #[.slice A1_0 l1_0.length c1_0] 32 (0,0)) (kq BK581.out) NB581_0.out (by simp));replace HK:=am (jb.trans (Y18) hk (.inl rfl));replace HB:=am (hb);replace HI0:=am (hi);(try clear hb);(try clear hb2);(try clear hk);(try clear hi);(try clear ho0)) |((with_reducible refine je (f:=55) rfl ?_);refine gL (some 15) Try.func55 #[.pointer (some ⟨g,0,none⟩), .int .i64 3] ?_;(with_reducible refine (jf.calls k1 g s0_0 t588 3 t589 t590 w0 _ ?side1 ?side2 A6.out).mono ?_);(case side1=>exact Y22);(case side2=>exact Y32);rintro e w11 ⟨rfl,hi,hb,hk⟩;refine ⟨_,rfl,?_⟩;replace BK581:=am (jb.blk hk (g':=gb581) (o:=.cells #[.slice A1_0 l1_0.length c1_0] 32 (0,0)) (kq BK581.out) NB581_0.out (by simp));replace HO587:=am (Kd.jK (Kd.jFa (jc.apart (show jc w0 _ g s0_0 t588 from Y22) (rq HO587.out) (by decide)) hk (fun _ h=>h.2)) (fun _ h=>h.1));replace HK:=am (jb.trans (Y18) hk (.inl rfl));replace HB:=am (hb);replace HI0:=am (hi);(try clear hb);(try clear hb2);(try clear hk);(try clear hi)))
    (try simp only [Act.put,List.setIfInBounds_toArray,List.set_cons_zero,List.set_cons_succ])
    go_cut [6] (fun v6 wc=>∃ (kq:Nat) (x6_6:List (S59)) (x1001_6:Int),jl (jC.j1 kq x5_1 x6_6 s0_0 x1001_6 l1_0=some (r1,r2))∧jl (kq≤k1)∧jl (Kd.R k59 59 wc w.heap.size (fun _=>True) v6 x6_6)∧jl (wc.heap[gb581]?=some (.cells #[(.slice A1_0 l1_0.length c1_0)] 32 (0,0)))∧jl (jc w0 wc g s0_0 x1001_6)∧jl (jb w wc g none)∧jl (Below w0.heap.size w0 wc))
    case first =>
     have H:=HC7.out
     clear HC7
     by_cases c12:t589=0
     ·rw [if_pos c12] at H
      have c12b0:(t589 == 0)=true:=beq_iff_eq.mpr c12
      have c12b1:(t589 != 0)=false:=bne_eq_false_iff_eq.mpr c12
      clear c12
      (first | rw [c12b0] |(simp only [jlb,jmb];rw [c12b0]) | skip)
      replace H:=bzS H
      obtain ⟨⟨t591,t594⟩,A130,H⟩:=H
      replace H:(if t585.length+t591.length<4398046511104 then (jC.j1 k1 x5_1 (t585 ++ t591) s0_0 t594 l1_0) else (none))=some (r1,r2):=H
      have A13:=am A130
      clear A130
      by_cases c14:t585.length+t591.length<4398046511104
      ·rw [if_pos c14] at H
       have LMc14:=am c14
       clear c14
       obtain ⟨y595,hy595⟩:∃ y_:List (S59),y_=(t585 ++ t591):=⟨_,rfl⟩
       replace H:(jC.j1 k1 x5_1 y595 s0_0 t594 l1_0)=some (r1,r2):=by first |(rw [hy595];with_reducible exact H) |(have H2_:=(Option.bind_some _ _).symm.trans H;rw [hy595];with_reducible exact H2_) |(have H2_:=(Option.bind_some _ _).symm.trans H;with_reducible exact H2_) | with_reducible exact H |(rw [hy595];exact H) | exact H
       have Ny595:=am hy595
       clear hy595
       have H':=am H
       clear H
       have hnb15:=NB581_0.out
       have hnc15:=NB0_581.out
       have hcz16_0:=bc0 BK581.out
       have hfz16_0:=ja BK581.out 0
       go_wp2_with (first |((with_reducible refine je (f:=98) rfl ?_);refine gL (some 20) Try.func98 #[.pointer (some ⟨g,0,none⟩), .agg #[.slice A1_0 l1_0.length c1_0], .int .i64 0, .bool false] ?_;(with_reducible refine (jL.calls k1 g s0_0 t590 _ _ l1_0 0 false t591 t594 w0 _ ?side1 ?side2 ?side3 ?side4 A13.out).mono ?_);(case side1=>exact Y22);(case side2=>exact Y32);(case side3=>exact Kd.job HR1_0.out (Y18));(case side4=>exact HC1_0.out);rintro e w17 ⟨v592,rfl,ho0,hi,hb,hk⟩;refine ⟨_,rfl,?_⟩;have HO593:=am (Kd.jea (Kd.jac ho0 (Kd.R_lt (rq HO587.out))) (jN (w:=w) (g:=g) (row:=none) (Y18)));replace BK581:=am (jb.blk hk (g':=gb581) (o:=.cells #[.slice A1_0 l1_0.length c1_0] 32 (0,0)) (kq BK581.out) NB581_0.out (by simp));replace HO587:=am (Kd.jK (Kd.R_told (Kd.R_oldK (jc.apart (show jc w0 _ g s0_0 t590 from Y22) (rq HO587.out) (by decide)) hk) (Kd.jbc ho0)) (fun _ h_=>h_.1));replace HK:=am (jb.trans (Y18) hk (.inl rfl));replace HB:=am (hb);replace HI0:=am (hi);(try clear hb);(try clear hb2);(try clear hk);(try clear hi);(try clear ho0);obtain ⟨Ao19,co19,eo19⟩:=Kd.jsa HO593.out;subst eo19) |((with_reducible refine jLa (b:=.append) (xs:=#[.tmp 17, .tmp 20]) rfl ?_);at_builtin;refine Kd.jIb k59 w.heap.size rfl (.tmp 17) (.tmp 20) 34 59 (.agg #[(.int .i64 0),(.int .i64 0),(.int .i64 0),(.int .i64 0)]) 32 rfl Try.underlying34 jBc rfl (by decide) (by omega) v586 t585 t591 _ _ _ (fun k_=>some k_≠(.slice Ao19 t591.length co19:Value).ownBlock) (fun _=>False) rfl rfl ?aO ?aR (fun _ _ h=>h) (fun _ h=>h.elim) ?aF (Below.refl _ _) ?aS ?aL ?_;(case aR=>repeat (first | exact (Kd.jE HO593.out).2.2 |(with_reducible refine Kd.jyc ?_ _) |(with_reducible refine Kd.jmc ?_ _) |(with_reducible refine Kd.C_drew ?_)));(case aF=>exact (fun k_ hk=>Kd.fresh' (Kd.R_lt (rq HO593.out)) k_ hk));(case aO=>exact (by (with_reducible repeat (first | apply Kd.jga | apply Kd.jha | apply Kd.jra));exact Kd.jK HO587.out (fun _ hk=>hk.2)));(case aS=>exact (jN (w:=w) (g:=g) (row:=none) (Y18)));(case aL=>have:=LMc14.out;omega);intro v596 w18 ho hb hg hat;rw [← Ny595.out] at ho;have n0_:=am (jVa (g:=gb581) (o:=.cells #[.slice A1_0 l1_0.length c1_0] 32 (0,0)) (kq BK581.out) hg (Kd.R_ne HO587.out BK581.out (by decide)));have n1_:=am (jc.grown (Y22) hg (jc.own_ne HI0.out HO587.out (by decide)));have n2_:=am (Kd.jUc (ok:=(fun _=>True)) (rq HO593.out) hg hat);have n3_:=am (jcb (Y32) HL.out hb);have n4_:=am (jb.trans (Y18) (jb.jxb hg g) (Kd.jQb HO587.out));have n5_:=am (ho);clear BK581 HI0 HO593 HB HK HO587;have BK581:=n0_;have HI0:=n1_;have HO593:=n2_;have HB:=n3_;have HK:=n4_;have HO597:=n5_;clear n0_ n1_ n2_ n3_ n4_ n5_ ho hb hg hat))
       go_meet
       case rel=>exact ⟨_,(y595),(t594),H',⟨by have:=HK1.out;first | omega | exact Nat.le_refl _⟩,⟨by (with_reducible repeat (first | apply Kd.jga | apply Kd.jha | apply Kd.jra));exact Kd.jK HO597.out (fun _ hk=>trivial)⟩,⟨kq BK581.out⟩,⟨Y22⟩,⟨Y18⟩,⟨Y32⟩⟩
      ·rw [if_neg c14] at H
       exact absurd H (by simp)
     ·rw [if_neg c12] at H
      have c12b0:(t589 == 0)=false:=beq_eq_false_iff_ne.mpr c12
      have c12b1:(t589 != 0)=true:=bne_iff_ne.mpr c12
      (first | rw [c12b0] |(simp only [jlb,jmb];rw [c12b0]) | skip)
      have H':=am H
      clear H
      go_wp2
      go_meet
      case rel=>exact ⟨_,(t585),(t590),H',⟨by have:=HK1.out;first | omega | exact Nat.le_refl _⟩,⟨rq HO587.out⟩,⟨kq BK581.out⟩,⟨Y22⟩,⟨Y18⟩,⟨Y32⟩⟩
    case rest =>
     clear HC7
     try clear c1
     try clear p2
     try clear c4
     try clear c4b0
     try clear c5
     try clear c7
     try clear c8
     try clear c9
     try clear c12
     try clear c12b0
     try clear c12b1
     try clear c14
     try clear c15
     try clear hcz16_0
     try clear hcz9_0
     try clear hfz16_0
     try clear hfz9_0
     try clear p2
     obtain ⟨kq,x6_6,x1001_6,HA,HJ6,HO_6,BK581,HI0,HK,HB⟩:=hcut
     cases kq with
     | zero=>exact absurd HA.out (by simp [jC.j1])
     | succ kj6 =>
      have H:=HA.out
      clear HA
      simp only [jC.j1] at H
      replace H:=bzS H
      obtain ⟨⟨t598,t599⟩,A200,H⟩:=H
      replace H:(if t598=0 then ((jL.f kj6 s0_0 t599 l1_0 0 false).bind fun bt600=>(jC.j2 kj6 x5_1 bt600.1 s0_0 bt600.2 l1_0)) else (jC.j2 kj6 x5_1 x6_6 s0_0 t599 l1_0))=some (r1,r2):=H
      have A20:=am A200
      clear A200
      have HC21:=am H
      clear H
      go_upto_if 24 with (first |((with_reducible refine je (f:=55) rfl ?_);refine gL (some 23) Try.func55 #[.pointer (some ⟨g,0,none⟩), .int .i64 4] ?_;(with_reducible refine (jf.calls kj6 g s0_0 x1001_6 4 t598 t599 w0 _ ?side1 ?side2 A20.out).mono ?_);(case side1=>exact Y22);(case side2=>exact Y32);rintro e w22 ⟨rfl,hi,hb,hk⟩;refine ⟨_,rfl,?_⟩;replace HO_6:=am (Kd.jK (Kd.jFa (jc.apart (show jc w0 _ g s0_0 x1001_6 from Y22) (rq HO_6.out) (by decide)) hk (fun _ h=>h.2)) (fun _ h=>h.1));replace BK581:=am (jb.blk hk (g':=gb581) (o:=.cells #[.slice A1_0 l1_0.length c1_0] 32 (0,0)) (kq BK581.out) NB581_0.out (by simp));replace HK:=am (jb.trans (Y18) hk (.inl rfl));replace HB:=am (hb);replace HI0:=am (hi);(try clear hb);(try clear hb2);(try clear hk);(try clear hi)))
      (try simp only [Act.put,List.setIfInBounds_toArray,List.set_cons_zero,List.set_cons_succ])
      go_cut [6] (fun v6 wc=>∃ (kq:Nat) (x6_20:List (S59)) (x1001_20:Int),jl (jC.j2 kq x5_1 x6_20 s0_0 x1001_20 l1_0=some (r1,r2))∧jl (kq≤kj6)∧jl (Kd.R k59 59 wc w.heap.size (fun _=>True) v6 x6_20)∧jl (wc.heap[gb581]?=some (.cells #[(.slice A1_0 l1_0.length c1_0)] 32 (0,0)))∧jl (jc w0 wc g s0_0 x1001_20)∧jl (jb w wc g none)∧jl (Below w0.heap.size w0 wc))
      case first =>
       have H:=HC21.out
       clear HC21
       by_cases c23:t598=0
       ·rw [if_pos c23] at H
        have c23b0:(t598 == 0)=true:=beq_iff_eq.mpr c23
        have c23b1:(t598 != 0)=false:=bne_eq_false_iff_eq.mpr c23
        clear c23
        (first | rw [c23b0] |(simp only [jlb,jmb];rw [c23b0]) | skip)
        replace H:=bzS H
        obtain ⟨⟨t600,t603⟩,A240,H⟩:=H
        replace H:(jC.j2 kj6 x5_1 t600 s0_0 t603 l1_0)=some (r1,r2):=H
        have A24:=am A240
        clear A240
        have H':=am H
        clear H
        have hnb25:=NB581_0.out
        have hnc25:=NB0_581.out
        have hcz26_0:=bc0 BK581.out
        have hfz26_0:=ja BK581.out 0
        go_wp2_with (first |((with_reducible refine je (f:=98) rfl ?_);refine gL (some 27) Try.func98 #[.pointer (some ⟨g,0,none⟩), .agg #[.slice A1_0 l1_0.length c1_0], .int .i64 0, .bool false] ?_;(with_reducible refine (jL.calls kj6 g s0_0 t599 _ _ l1_0 0 false t600 t603 w0 _ ?side1 ?side2 ?side3 ?side4 A24.out).mono ?_);(case side1=>exact Y22);(case side2=>exact Y32);(case side3=>exact Kd.job HR1_0.out (Y18));(case side4=>exact HC1_0.out);rintro e w27 ⟨v601,rfl,ho0,hi,hb,hk⟩;refine ⟨_,rfl,?_⟩;have HO602:=am (Kd.jea (Kd.jac ho0 (Kd.R_lt (rq HO_6.out))) (jN (w:=w) (g:=g) (row:=none) (Y18)));replace HO_6:=am (Kd.jK (Kd.R_told (Kd.R_oldK (jc.apart (show jc w0 _ g s0_0 t599 from Y22) (rq HO_6.out) (by decide)) hk) (Kd.jbc ho0)) (fun _ h_=>h_.1));replace BK581:=am (jb.blk hk (g':=gb581) (o:=.cells #[.slice A1_0 l1_0.length c1_0] 32 (0,0)) (kq BK581.out) NB581_0.out (by simp));replace HK:=am (jb.trans (Y18) hk (.inl rfl));replace HB:=am (hb);replace HI0:=am (hi);(try clear hb);(try clear hb2);(try clear hk);(try clear hi);(try clear ho0)))
        go_meet
        case rel=>exact ⟨_,(t600),(t603),H',⟨by have:=HK1.out;have:=HJ6.out;first | omega | exact Nat.le_refl _⟩,⟨by (with_reducible repeat (first | apply Kd.jga | apply Kd.jha | apply Kd.jra));exact Kd.jK HO602.out (fun _ hk=>trivial)⟩,⟨kq BK581.out⟩,⟨Y22⟩,⟨Y18⟩,⟨Y32⟩⟩
       ·rw [if_neg c23] at H
        have c23b0:(t598 == 0)=false:=beq_eq_false_iff_ne.mpr c23
        have c23b1:(t598 != 0)=true:=bne_iff_ne.mpr c23
        (first | rw [c23b0] |(simp only [jlb,jmb];rw [c23b0]) | skip)
        have H':=am H
        clear H
        go_wp2
        go_meet
        case rel=>exact ⟨_,(x6_6),(t599),H',⟨by have:=HK1.out;have:=HJ6.out;first | omega | exact Nat.le_refl _⟩,⟨rq HO_6.out⟩,⟨kq BK581.out⟩,⟨Y22⟩,⟨Y18⟩,⟨Y32⟩⟩
      case rest =>
       clear HC21
       try clear c1
       try clear c2
       try clear p2
       try clear c4
       try clear c4b0
       try clear c5
       try clear c7
       try clear c8
       try clear c9
       try clear c12
       try clear c12b0
       try clear c12b1
       try clear c14
       try clear c15
       try clear c23
       try clear c23b0
       try clear c23b1
       try clear c25
       try clear hcz16_0
       try clear hcz26_0
       try clear hcz9_0
       try clear hfz16_0
       try clear hfz26_0
       try clear hfz9_0
       try clear p2
       obtain ⟨kq,x6_20,x1001_20,HA,HJ20,HO_6,BK581,HI0,HK,HB⟩:=hcut
       cases kq with
       | zero=>exact absurd HA.out (by simp [jC.j2])
       | succ kj20 =>
        have H:=HA.out
        clear HA
        simp only [jC.j2] at H
        by_cases c28:(x6_20.length:Int)≤24
        ·rw [if_pos c28] at H
         have c28b0:decide ((x6_20.length:Int)≤24)=true:=dzT c28
         have c28b1:decide (x6_20.length≤24)=true:=dzT (by omega)
         clear c28
         simp only [Option.some.injEq,Prod.mk.injEq] at H
         obtain ⟨rfl,rfl⟩:=H
         obtain ⟨Ao29,co29,eo29⟩:=Kd.jsa HO_6.out
         subst eo29
         go_wp2
         go_ret
         exact ⟨_,Y0,rq HO_6.out,Y22,Y32,Y18⟩
        ·rw [if_neg c28] at H
         have c28b0:decide ((x6_20.length:Int)≤24)=false:=dzF c28
         have c28b1:decide (x6_20.length≤24)=false:=dzF (by omega)
         clear c28
         have H':=am H
         clear H
         obtain ⟨Ao30,co30,eo30⟩:=Kd.jsa HO_6.out
         subst eo30
         go_wp2
         go_roundg kj20
         case measure=>have:=HK1.out;have:=HJ6.out;have:=HJ20.out;omega
         case rel=>exact ⟨(wrap64 (x5_1+1)),(x1001_20),(sq),H',⟨by have:=HK1.out;have:=HJ6.out;have:=HJ20.out;omega⟩,⟨kq BK581.out⟩,⟨Y22⟩,⟨Y18⟩,⟨Y32⟩⟩
   ·rw [if_neg c4] at H
    have c4b0:decide (x5_1<4)=false:=dzF c4
    clear c4
    obtain ⟨y582,hy582⟩:∃ y_:List (S59),y_=(([(⟨0,7,0,0⟩:S59),(⟨1,2,0,1⟩:S59),(⟨0,10,0,0⟩:S59),(⟨1,1,1,0⟩:S59)]:List (S59))):=⟨_,rfl⟩
    replace H:(some (y582,x1001_1))=some (r1,r2):=by first |(rw [hy582];with_reducible exact H) |(have H2_:=(Option.bind_some _ _).symm.trans H;rw [hy582];with_reducible exact H2_) |(have H2_:=(Option.bind_some _ _).symm.trans H;with_reducible exact H2_) | with_reducible exact H |(rw [hy582];exact H) | exact H
    have Ny582:=am hy582
    clear hy582
    simp only [Option.some.injEq,Prod.mk.injEq] at H
    obtain ⟨rfl,rfl⟩:=H
    go_wp2_with (first |((with_reducible refine jS (N:=36) rfl ?_);refine Kd.jWb k59 _ 59 ?hg (N:=36) ?hd (xs:=([(⟨0,7,0,0⟩:S59),(⟨1,2,0,1⟩:S59),(⟨0,10,0,0⟩:S59),(⟨1,1,1,0⟩:S59)]:List (S59))) (inner:=[.int .i64 0, .int .i64 7, .int .i64 0, .int .i64 0, .int .i64 1, .int .i64 2, .int .i64 0, .int .i64 1, .int .i64 0, .int .i64 10, .int .i64 0, .int .i64 0, .int .i64 1, .int .i64 1, .int .i64 1, .int .i64 0]) (ok:=fun _=>True) (okp:=fun _=>True) ?hr ?hp (fun _ hk=>hk) trivial (Below.refl _ _) (Nat.le_refl _) (by simp) ?_;(case hd=>rfl);(case hg=>rfl);(case hr=>exact Y8);(case hp=>exact (Reps.c4 (show Kd.M k59 _ _ _ (⟨0,7,0,0⟩:S59) [.int .i64 0, .int .i64 7, .int .i64 0, .int .i64 0] from (jAb _ _ _ (⟨0,7,0,0⟩:S59) )) (Reps.c4 (show Kd.M k59 _ _ _ (⟨1,2,0,1⟩:S59) [.int .i64 1, .int .i64 2, .int .i64 0, .int .i64 1] from (jAb _ _ _ (⟨1,2,0,1⟩:S59) )) (Reps.c4 (show Kd.M k59 _ _ _ (⟨0,10,0,0⟩:S59) [.int .i64 0, .int .i64 10, .int .i64 0, .int .i64 0] from (jAb _ _ _ (⟨0,10,0,0⟩:S59) )) (Reps.c4 (show Kd.M k59 _ _ _ (⟨1,1,1,0⟩:S59) [.int .i64 1, .int .i64 1, .int .i64 1, .int .i64 0] from (jAb _ _ _ (⟨1,1,1,0⟩:S59) )) (Reps.none _ _))))));intro v583 w31 ho32 hb hg_ hnew_;clear hg_ hnew_;(first | rw [← Ny582.out] at ho32 |(simp only [Int.reduceToNat] at ho32;rw [← Ny582.out] at ho32));have HO584:=am (Kd.jea ho32 (jN (w:=w) (g:=g) (row:=none) (Y18)));replace BK581:=am (jo (g:=gb581) (o:=.cells #[.slice A1_0 l1_0.length c1_0] 32 (0,0)) (kq BK581.out) hb);replace HK:=am (jb.trans (Y18) (jb.of_below hb g none) (.inl rfl));replace HB:=am (jg (Y32) hb);replace HI0:=am (jc.below (Y22) hb);clear hb ho32))
    go_ret
    exact ⟨_,Y0,rq HO584.out,Y22,Y32,Y18⟩
def jRa.f (k : Nat) (s0_0 : List Int) (s0_1 : Int) : Option ((List (S98)) × (List (S59)) × Int) := (jpa.f k s0_0 s0_1).bind fun bt605 => (if (bt605.1.length : Int) = 0 then (some (bt605.1, (([(⟨0, 0, 0, 0⟩ : S59)] : List (S59))), bt605.2)) else ((jC.f k s0_0 bt605.2 bt605.1).bind fun bt613 => ((jf.f k s0_0 bt613.2 (bt613.1.length : Int)).bind fun bt617 => ((jf.f k s0_0 bt617.2 24).bind fun bt619 => (if bt619.1 = 0 then ((ji.f k s0_0 bt619.2 (([(-1), 6, 0, 1] : List Int))).bind fun bt624 => (if 0 ≤ bt617.1 then (if bt617.1 < (bt613.1.length : Int) then (some (bt605.1, (bt613.1.set (bt617.1 : Int).toNat (⟨bt624.1, (jd bt613.1 bt617.1).f1, (jd bt613.1 bt617.1).f2, (jd bt613.1 bt617.1).f3⟩ : S59)), bt624.2)) else (none)) else (none))) else (if bt619.1 = 1 then ((ji.f k s0_0 bt619.2 (([(-1), 13, 5, 9, 0] : List Int))).bind fun bt630 => (if 0 ≤ bt617.1 then (if bt617.1 < (bt613.1.length : Int) then (some (bt605.1, (bt613.1.set (bt617.1 : Int).toNat (⟨(jd bt613.1 bt617.1).f0, bt630.1, (jd bt613.1 bt617.1).f2, (jd bt613.1 bt617.1).f3⟩ : S59)), bt630.2)) else (none)) else (none))) else (if bt619.1 = 2 then ((ji.f k s0_0 bt619.2 (([(-1), 100, 8] : List Int))).bind fun bt636 => (if 0 ≤ bt617.1 then (if bt617.1 < (bt613.1.length : Int) then (some (bt605.1, (bt613.1.set (bt617.1 : Int).toNat (⟨(jd bt613.1 bt617.1).f0, (jd bt613.1 bt617.1).f1, bt636.1, (jd bt613.1 bt617.1).f3⟩ : S59)), bt636.2)) else (none)) else (none))) else (if bt619.1 = 3 then (if 1 ≤ (bt613.1.length : Int) then (some (bt605.1, (bt613.1.drop (1 : Int).toNat), bt619.2)) else (none)) else (some (bt605.1, bt613.1, bt619.2))))))))))
set_option maxHeartbeats 8000000 in
set_option maxRecDepth 100000 in
theorem jRa.calls (k : Nat) (g : Nat) (s0_0 : List Int) (s0_1 : Int) (r1 : List (S98)) (r2 : List (S59)) (r3 : Int) (w0 w : World) (hI : jc w0 w g s0_0 s0_1) (hB : Below w0.heap.size w0 w) (h : jRa.f k s0_0 s0_1 = some (r1, r2, r3)) :
  Calls Try.prog 41 #[.pointer (some ⟨g,0,none⟩)] w fun e w'=>∃ v0_ v1_:Value,e=.returned (.tuple #[.agg #[v0_],v1_])∧Kd.R k98 98 w' w.heap.size (fun _=>True) v0_ r1∧Kd.Q k59 59 w' w.heap.size (fun _=>True) v1_ r2∧jc w0 w' g s0_0 r3∧Below w0.heap.size w0 w'∧jb w w' g none:=by
 have hu32:=Try.underlying32
 have hu59:=Try.underlying59
 have HI0:=am hI
 have HK:=am (jb.refl w g none)
 have HL:=am hB.size
 clear hI
 have HW0:=am hB.size
 have HB:=am hB
 clear hB
 have H:((jpa.f k s0_0 s0_1).bind fun bt605=>(if (bt605.1.length:Int)=0 then (some (bt605.1,(([(⟨0,0,0,0⟩:S59)]:List (S59))),bt605.2)) else ((jC.f k s0_0 bt605.2 bt605.1).bind fun bt613=>((jf.f k s0_0 bt613.2 (bt613.1.length:Int)).bind fun bt617=>((jf.f k s0_0 bt617.2 24).bind fun bt619=>(if bt619.1=0 then ((ji.f k s0_0 bt619.2 (([(-1),6,0,1]:List Int))).bind fun bt624=>(if 0≤bt617.1 then (if bt617.1<(bt613.1.length:Int) then (some (bt605.1,(bt613.1.set (bt617.1:Int).toNat (⟨bt624.1,(jd bt613.1 bt617.1).f1,(jd bt613.1 bt617.1).f2,(jd bt613.1 bt617.1).f3⟩:S59)),bt624.2)) else (none)) else (none))) else (if bt619.1=1 then ((ji.f k s0_0 bt619.2 (([(-1),13,5,9,0]:List Int))).bind fun bt630=>(if 0≤bt617.1 then (if bt617.1<(bt613.1.length:Int) then (some (bt605.1,(bt613.1.set (bt617.1:Int).toNat (⟨(jd bt613.1 bt617.1).f0,bt630.1,(jd bt613.1 bt617.1).f2,(jd bt613.1 bt617.1).f3⟩:S59)),bt630.2)) else (none)) else (none))) else (if bt619.1=2 then ((ji.f k s0_0 bt619.2 (([(-1),100,8]:List Int))).bind fun bt636=>(if 0≤bt617.1 then (if bt617.1<(bt613.1.length:Int) then (some (bt605.1,(bt613.1.set (bt617.1:Int).toNat (⟨(jd bt613.1 bt617.1).f0,(jd bt613.1 bt617.1).f1,bt636.1,(jd bt613.1 bt617.1).f3⟩:S59)),bt636.2)) else (none)) else (none))) else (if bt619.1=3 then (if 1≤(bt613.1.length:Int) then (some (bt605.1,(bt613.1.drop (1:Int).toNat),bt619.2)) else (none)) else (some (bt605.1,bt613.1,bt619.2)))))))))))=some (r1,r2,r3):=h
 clear h
 replace H:=bzS H
 obtain ⟨⟨t605,t608⟩,A20,H⟩:=H
 replace H:(if (t605.length:Int)=0 then (some (t605,(([(⟨0,0,0,0⟩:S59)]:List (S59))),t608)) else ((jC.f k s0_0 t608 t605).bind fun bt613=>((jf.f k s0_0 bt613.2 (bt613.1.length:Int)).bind fun bt617=>((jf.f k s0_0 bt617.2 24).bind fun bt619=>(if bt619.1=0 then ((ji.f k s0_0 bt619.2 (([(-1),6,0,1]:List Int))).bind fun bt624=>(if 0≤bt617.1 then (if bt617.1<(bt613.1.length:Int) then (some (t605,(bt613.1.set (bt617.1:Int).toNat (⟨bt624.1,(jd bt613.1 bt617.1).f1,(jd bt613.1 bt617.1).f2,(jd bt613.1 bt617.1).f3⟩:S59)),bt624.2)) else (none)) else (none))) else (if bt619.1=1 then ((ji.f k s0_0 bt619.2 (([(-1),13,5,9,0]:List Int))).bind fun bt630=>(if 0≤bt617.1 then (if bt617.1<(bt613.1.length:Int) then (some (t605,(bt613.1.set (bt617.1:Int).toNat (⟨(jd bt613.1 bt617.1).f0,bt630.1,(jd bt613.1 bt617.1).f2,(jd bt613.1 bt617.1).f3⟩:S59)),bt630.2)) else (none)) else (none))) else (if bt619.1=2 then ((ji.f k s0_0 bt619.2 (([(-1),100,8]:List Int))).bind fun bt636=>(if 0≤bt617.1 then (if bt617.1<(bt613.1.length:Int) then (some (t605,(bt613.1.set (bt617.1:Int).toNat (⟨(jd bt613.1 bt617.1).f0,(jd bt613.1 bt617.1).f1,bt636.1,(jd bt613.1 bt617.1).f3⟩:S59)),bt636.2)) else (none)) else (none))) else (if bt619.1=3 then (if 1≤(bt613.1.length:Int) then (some (t605,(bt613.1.drop (1:Int).toNat),bt619.2)) else (none)) else (some (t605,bt613.1,bt619.2))))))))))=some (r1,r2,r3):=H
 have A2:=am A20
 clear A20
 by_cases c3:(t605.length:Int)=0
 ·rw [if_pos c3] at H
  have c3b0:((t605.length:Int) == 0)=true:=beq_iff_eq.mpr c3
  have c3b1:((t605.length:Int) != 0)=false:=bne_eq_false_iff_eq.mpr c3
  clear c3
  obtain ⟨y610,hy610⟩:∃ y_:List (S59),y_=(([(⟨0,0,0,0⟩:S59)]:List (S59))):=⟨_,rfl⟩
  replace H:(some (t605,y610,t608))=some (r1,r2,r3):=by first |(rw [hy610];with_reducible exact H) |(have H2_:=(Option.bind_some _ _).symm.trans H;rw [hy610];with_reducible exact H2_) |(have H2_:=(Option.bind_some _ _).symm.trans H;with_reducible exact H2_) | with_reducible exact H |(rw [hy610];exact H) | exact H
  have Ny610:=am hy610
  clear hy610
  simp only [Option.some.injEq,Prod.mk.injEq] at H
  obtain ⟨rfl,rfl,rfl⟩:=H
  go_enter Try.func41,Try.ntmps41
  go_wp2_with (first |((with_reducible refine jS (N:=2) rfl ?_);refine bE (N:=2) (cs:=#[.slice none 0 0]) (t:=32) ?_;intro gb604 hg w4 hbox hb;have BK604:=am (hbox);have GW604:=am ((Y12:w.heap.size≤gb604));have GE604:=am ((Nat.le_trans HW0.out (Y12:w.heap.size≤gb604):w0.heap.size≤gb604));have NB0_604:=am ((Y30:g≠gb604));have NB604_0:=am ((Y31:gb604≠g));replace HK:=am (jb.trans (Y16) (jb.of_below hb g none) (.inl rfl));replace HB:=am (jg (Y17) hb);replace HI0:=am (jc.below (Y15) hb);clear hb hbox hg) |((with_reducible refine je (f:=71) rfl ?_);refine gL (some 8) Try.func71 #[.pointer (some ⟨g,0,none⟩)] ?_;(with_reducible refine (jpa.calls k g s0_0 s0_1 t605 t608 w0 _ ?side1 ?side2 A2.out).mono ?_);(case side1=>exact Y38);(case side2=>exact Y39);rintro e w5 ⟨v606,rfl,ho0,hi,hb,hk⟩;refine ⟨_,rfl,?_⟩;have HO607:=am (Kd.jea ho0 (jN (w:=w) (g:=g) (row:=none) (Y25)));replace BK604:=am (jb.blk hk (g':=gb604) (o:=.cells #[.slice none 0 0] 32 (0,0)) (kq BK604.out) NB604_0.out (by simp));replace HK:=am (jb.trans (Y25) hk (.inl rfl));replace HB:=am (hb);replace HI0:=am (hi);(try clear hb);(try clear hb2);(try clear hk);(try clear hi);(try clear ho0)) |((with_reducible refine jS (N:=4) rfl ?_);refine bE (N:=4) (cs:=#[.slice none 0 0]) (t:=32) ?_;intro gb609 hg w6 hbox hb;have BK609:=am (hbox);have GW609:=am ((Y40:w.heap.size≤gb609));have GE609:=am ((Nat.le_trans HW0.out (Y40:w.heap.size≤gb609):w0.heap.size≤gb609));have NB604_609:=am ((Y59:gb604≠gb609));have NB609_604:=am ((Y60:gb609≠gb604));have NB0_609:=am ((Y61:g≠gb609));have NB609_0:=am ((Y62:gb609≠g));replace HO607:=am (Kd.jva (rq HO607.out) hb);replace BK604:=am (jo (g:=gb604) (o:=.cells #[.slice none 0 0] 32 (0,0)) (kq BK604.out) hb);replace HK:=am (jb.trans (Y25) (jb.of_below hb g none) (.inl rfl));replace HB:=am (jg (Y39) hb);replace HI0:=am (jc.below (Y38) hb);clear hb hbox hg;obtain ⟨Ao7,co7,eo7⟩:=Kd.jsa HO607.out;subst eo7;have hnb8:=NB609_604.out;have hnc8:=NB604_609.out;have hnb9:=NB609_0.out;have hnc9:=NB0_609.out;have hcz10_0:=bc0 BK609.out;have hfz10_0:=ja BK609.out 0) |((with_reducible refine jS (N:=15) rfl ?_);refine Kd.jWb k59 _ 59 ?hg (N:=15) ?hd (xs:=([(⟨0,0,0,0⟩:S59)]:List (S59))) (inner:=[.int .i64 0, .int .i64 0, .int .i64 0, .int .i64 0]) (ok:=fun _=>True) (okp:=fun _=>True) ?hr ?hp (fun _ hk=>hk) trivial (Below.refl _ _) (Nat.le_refl _) (by simp) ?_;(case hd=>rfl);(case hg=>rfl);(case hr=>exact Y8);(case hp=>exact (Reps.c4 (show Kd.M k59 _ _ _ (⟨0,0,0,0⟩:S59) [.int .i64 0, .int .i64 0, .int .i64 0, .int .i64 0] from (jAb _ _ _ (⟨0,0,0,0⟩:S59) )) (Reps.none _ _)));intro v611 w11 ho12 hb hg_ hnew_;clear hg_ hnew_;(first | rw [← Ny610.out] at ho12 |(simp only [Int.reduceToNat] at ho12;rw [← Ny610.out] at ho12));have HO612:=am (Kd.jea ho12 (jN (w:=w) (g:=g) (row:=none) (Y10)));replace HO607:=am (Kd.jva (by (with_reducible repeat (first | apply Kd.jga | apply Kd.jha | apply Kd.jra));exact (Kd.jK (Kd.jHb (p:=⟨gb609,0,none⟩) (Kd.jPa HO607.out BK609.out (by decide)) (fun _ hk=>hk.2) (.slice Ao7 t605.length co7)) (fun _ h_=>h_.1))) hb);replace BK604:=am (jo (g:=gb604) (o:=.cells #[.slice none 0 0] 32 (0,0)) (Y63) hb);replace BK609:=am (jo (g:=gb609) (o:=.cells #[.slice Ao7 t605.length co7] 32 (0,0)) (Y64) hb);replace HK:=am (jb.trans (Y10) (jb.of_below hb g none) (.inl rfl));replace HB:=am (jg (Y14) hb);replace HI0:=am (jc.below (show jc w0 (w6.setCell ⟨gb609,0,none⟩ (.slice Ao7 t605.length co7)) g s0_0 t608 from Y2) hb);clear hb ho12;have hnb13:=NB604_0.out;have hnc13:=NB0_604.out;have hcz14_0:=bc0 BK604.out;have hfz14_0:=ja BK604.out 0))
  refine bodyPost_ret (jcc rfl _ _ gb604 32 #[.slice Ao7 t605.length co7] (0,0) _ rfl (Y65) Try.underlying32 rfl (by kernel_rfl)) rfl ?_
  exact ⟨_,_,Y0,by (with_reducible repeat (first | apply Kd.jga | apply Kd.jha | apply Kd.jra));exact Kd.jK (Kd.jHb (p:=⟨gb604,0,none⟩) (Kd.jPa HO607.out BK604.out (by decide)) (fun _ hk=>hk.2) (.slice Ao7 t605.length co7)) (fun _ hk=>trivial),Kd.Q_of_R (by (with_reducible repeat (first | apply Kd.jga | apply Kd.jha | apply Kd.jra));exact Kd.jK (Kd.jHb (p:=⟨gb604,0,none⟩) (Kd.jPa HO612.out BK604.out (by decide)) (fun _ hk=>hk.2) (.slice Ao7 t605.length co7)) (fun _ hk=>trivial)),Y2,Y14,Y10⟩
 ·rw [if_neg c3] at H
  have c3b0:((t605.length:Int) == 0)=false:=beq_eq_false_iff_ne.mpr c3
  have c3b1:((t605.length:Int) != 0)=true:=bne_iff_ne.mpr c3
  have c3b2:¬ (t605=[]):=fun h_=>c3 (by rw [h_];rfl)
  replace H:=bzS H
  obtain ⟨⟨t613,t616⟩,A150,H⟩:=H
  replace H:((jf.f k s0_0 t616 (t613.length:Int)).bind fun bt617=>((jf.f k s0_0 bt617.2 24).bind fun bt619=>(if bt619.1=0 then ((ji.f k s0_0 bt619.2 (([(-1),6,0,1]:List Int))).bind fun bt624=>(if 0≤bt617.1 then (if bt617.1<(t613.length:Int) then (some (t605,(t613.set (bt617.1:Int).toNat (⟨bt624.1,(jd t613 bt617.1).f1,(jd t613 bt617.1).f2,(jd t613 bt617.1).f3⟩:S59)),bt624.2)) else (none)) else (none))) else (if bt619.1=1 then ((ji.f k s0_0 bt619.2 (([(-1),13,5,9,0]:List Int))).bind fun bt630=>(if 0≤bt617.1 then (if bt617.1<(t613.length:Int) then (some (t605,(t613.set (bt617.1:Int).toNat (⟨(jd t613 bt617.1).f0,bt630.1,(jd t613 bt617.1).f2,(jd t613 bt617.1).f3⟩:S59)),bt630.2)) else (none)) else (none))) else (if bt619.1=2 then ((ji.f k s0_0 bt619.2 (([(-1),100,8]:List Int))).bind fun bt636=>(if 0≤bt617.1 then (if bt617.1<(t613.length:Int) then (some (t605,(t613.set (bt617.1:Int).toNat (⟨(jd t613 bt617.1).f0,(jd t613 bt617.1).f1,bt636.1,(jd t613 bt617.1).f3⟩:S59)),bt636.2)) else (none)) else (none))) else (if bt619.1=3 then (if 1≤(t613.length:Int) then (some (t605,(t613.drop (1:Int).toNat),bt619.2)) else (none)) else (some (t605,t613,bt619.2))))))))=some (r1,r2,r3):=H
  have A15:=am A150
  clear A150
  replace H:=bzS H
  obtain ⟨⟨t617,t618⟩,A160,H⟩:=H
  replace H:((jf.f k s0_0 t618 24).bind fun bt619=>(if bt619.1=0 then ((ji.f k s0_0 bt619.2 (([(-1),6,0,1]:List Int))).bind fun bt624=>(if 0≤t617 then (if t617<(t613.length:Int) then (some (t605,(t613.set (t617:Int).toNat (⟨bt624.1,(jd t613 t617).f1,(jd t613 t617).f2,(jd t613 t617).f3⟩:S59)),bt624.2)) else (none)) else (none))) else (if bt619.1=1 then ((ji.f k s0_0 bt619.2 (([(-1),13,5,9,0]:List Int))).bind fun bt630=>(if 0≤t617 then (if t617<(t613.length:Int) then (some (t605,(t613.set (t617:Int).toNat (⟨(jd t613 t617).f0,bt630.1,(jd t613 t617).f2,(jd t613 t617).f3⟩:S59)),bt630.2)) else (none)) else (none))) else (if bt619.1=2 then ((ji.f k s0_0 bt619.2 (([(-1),100,8]:List Int))).bind fun bt636=>(if 0≤t617 then (if t617<(t613.length:Int) then (some (t605,(t613.set (t617:Int).toNat (⟨(jd t613 t617).f0,(jd t613 t617).f1,bt636.1,(jd t613 t617).f3⟩:S59)),bt636.2)) else (none)) else (none))) else (if bt619.1=3 then (if 1≤(t613.length:Int) then (some (t605,(t613.drop (1:Int).toNat),bt619.2)) else (none)) else (some (t605,t613,bt619.2)))))))=some (r1,r2,r3):=H
  have A16:=am A160
  clear A160
  replace H:=bzS H
  obtain ⟨⟨t619,t620⟩,A170,H⟩:=H
  replace H:(if t619=0 then ((ji.f k s0_0 t620 (([(-1),6,0,1]:List Int))).bind fun bt624=>(if 0≤t617 then (if t617<(t613.length:Int) then (some (t605,(t613.set (t617:Int).toNat (⟨bt624.1,(jd t613 t617).f1,(jd t613 t617).f2,(jd t613 t617).f3⟩:S59)),bt624.2)) else (none)) else (none))) else (if t619=1 then ((ji.f k s0_0 t620 (([(-1),13,5,9,0]:List Int))).bind fun bt630=>(if 0≤t617 then (if t617<(t613.length:Int) then (some (t605,(t613.set (t617:Int).toNat (⟨(jd t613 t617).f0,bt630.1,(jd t613 t617).f2,(jd t613 t617).f3⟩:S59)),bt630.2)) else (none)) else (none))) else (if t619=2 then ((ji.f k s0_0 t620 (([(-1),100,8]:List Int))).bind fun bt636=>(if 0≤t617 then (if t617<(t613.length:Int) then (some (t605,(t613.set (t617:Int).toNat (⟨(jd t613 t617).f0,(jd t613 t617).f1,bt636.1,(jd t613 t617).f3⟩:S59)),bt636.2)) else (none)) else (none))) else (if t619=3 then (if 1≤(t613.length:Int) then (some (t605,(t613.drop (1:Int).toNat),t620)) else (none)) else (some (t605,t613,t620))))))=some (r1,r2,r3):=H
  have A17:=am A170
  clear A170
  by_cases c18:t619=0
  ·rw [if_pos c18] at H
   have c18b0:(t619 == 0)=true:=beq_iff_eq.mpr c18
   have c18b1:(t619 != 0)=false:=bne_eq_false_iff_eq.mpr c18
   clear c18
   obtain ⟨y621,hy621⟩:∃ y_:List Int,y_=(([(-1),6,0,1]:List Int)):=⟨_,rfl⟩
   replace H:((ji.f k s0_0 t620 y621).bind fun bt624=>(if 0≤t617 then (if t617<(t613.length:Int) then (some (t605,(t613.set (t617:Int).toNat (⟨bt624.1,(jd t613 t617).f1,(jd t613 t617).f2,(jd t613 t617).f3⟩:S59)),bt624.2)) else (none)) else (none)))=some (r1,r2,r3):=by first |(rw [hy621];with_reducible exact H) |(have H2_:=(Option.bind_some _ _).symm.trans H;rw [hy621];with_reducible exact H2_) |(have H2_:=(Option.bind_some _ _).symm.trans H;with_reducible exact H2_) | with_reducible exact H |(rw [hy621];exact H) | exact H
   have Ny621:=am hy621
   clear hy621
   replace H:=bzS H
   obtain ⟨⟨t624,t625⟩,A190,H⟩:=H
   replace H:(if 0≤t617 then (if t617<(t613.length:Int) then (some (t605,(t613.set (t617:Int).toNat (⟨t624,(jd t613 t617).f1,(jd t613 t617).f2,(jd t613 t617).f3⟩:S59)),t625)) else (none)) else (none))=some (r1,r2,r3):=H
   have A19:=am A190
   clear A190
   by_cases c20:0≤t617
   ·rw [if_pos c20] at H
    have c20b0:decide (0≤t617)=true:=dzT c20
    clear c20
    by_cases c21:t617<(t613.length:Int)
    ·rw [if_pos c21] at H
     have c21b0:decide (t617<(t613.length:Int))=true:=dzT c21
     clear c21
     obtain ⟨y626,hy626⟩:∃ y_:List (S59),y_=(t613.set (t617:Int).toNat (⟨t624,(jd t613 t617).f1,(jd t613 t617).f2,(jd t613 t617).f3⟩:S59)):=⟨_,rfl⟩
     replace H:(some (t605,y626,t625))=some (r1,r2,r3):=by first |(rw [hy626];with_reducible exact H) |(have H2_:=(Option.bind_some _ _).symm.trans H;rw [hy626];with_reducible exact H2_) |(have H2_:=(Option.bind_some _ _).symm.trans H;with_reducible exact H2_) | with_reducible exact H |(rw [hy626];exact H) | exact H
     have Ny626:=am hy626
     clear hy626
     simp only [Option.some.injEq,Prod.mk.injEq] at H
     obtain ⟨rfl,rfl,rfl⟩:=H
     go_enter Try.func41,Try.ntmps41
     go_wp2_with (first |((with_reducible refine jS (N:=2) rfl ?_);refine bE (N:=2) (cs:=#[.slice none 0 0]) (t:=32) ?_;intro gb604 hg w23 hbox hb;have BK604:=am (hbox);have GW604:=am ((Y12:w.heap.size≤gb604));have GE604:=am ((Nat.le_trans HW0.out (Y12:w.heap.size≤gb604):w0.heap.size≤gb604));have NB0_604:=am ((Y30:g≠gb604));have NB604_0:=am ((Y31:gb604≠g));replace HK:=am (jb.trans (Y16) (jb.of_below hb g none) (.inl rfl));replace HB:=am (jg (Y17) hb);replace HI0:=am (jc.below (Y15) hb);clear hb hbox hg) |((with_reducible refine je (f:=71) rfl ?_);refine gL (some 8) Try.func71 #[.pointer (some ⟨g,0,none⟩)] ?_;(with_reducible refine (jpa.calls k g s0_0 s0_1 t605 t608 w0 _ ?side1 ?side2 A2.out).mono ?_);(case side1=>exact Y38);(case side2=>exact Y39);rintro e w24 ⟨v606,rfl,ho0,hi,hb,hk⟩;refine ⟨_,rfl,?_⟩;have HO607:=am (Kd.jea ho0 (jN (w:=w) (g:=g) (row:=none) (Y25)));replace BK604:=am (jb.blk hk (g':=gb604) (o:=.cells #[.slice none 0 0] 32 (0,0)) (kq BK604.out) NB604_0.out (by simp));replace HK:=am (jb.trans (Y25) hk (.inl rfl));replace HB:=am (hb);replace HI0:=am (hi);(try clear hb);(try clear hb2);(try clear hk);(try clear hi);(try clear ho0)) |((with_reducible refine jS (N:=4) rfl ?_);refine bE (N:=4) (cs:=#[.slice none 0 0]) (t:=32) ?_;intro gb609 hg w25 hbox hb;have BK609:=am (hbox);have GW609:=am ((Y40:w.heap.size≤gb609));have GE609:=am ((Nat.le_trans HW0.out (Y40:w.heap.size≤gb609):w0.heap.size≤gb609));have NB604_609:=am ((Y59:gb604≠gb609));have NB609_604:=am ((Y60:gb609≠gb604));have NB0_609:=am ((Y61:g≠gb609));have NB609_0:=am ((Y62:gb609≠g));replace HO607:=am (Kd.jva (rq HO607.out) hb);replace BK604:=am (jo (g:=gb604) (o:=.cells #[.slice none 0 0] 32 (0,0)) (kq BK604.out) hb);replace HK:=am (jb.trans (Y25) (jb.of_below hb g none) (.inl rfl));replace HB:=am (jg (Y39) hb);replace HI0:=am (jc.below (Y38) hb);clear hb hbox hg;obtain ⟨Ao26,co26,eo26⟩:=Kd.jsa HO607.out;subst eo26;have hnb27:=NB609_604.out;have hnc27:=NB604_609.out;have hnb28:=NB609_0.out;have hnc28:=NB0_609.out;have hcz29_0:=bc0 BK609.out;have hfz29_0:=ja BK609.out 0) |((with_reducible refine je (f:=72) rfl ?_);refine gL (some 18) Try.func72 #[.pointer (some ⟨g,0,none⟩), .agg #[.slice Ao26 t605.length co26]] ?_;(with_reducible refine (jC.calls k g s0_0 t608 _ _ t605 t613 t616 w0 _ ?side1 ?side2 ?side3 ?side4 A15.out).mono ?_);(case side1=>exact Y2);(case side2=>exact Y14);(case side3=>exact Kd.jNc (jc.apart (show jc w0 _ g s0_0 t608 from Y2) (Y102) (by decide)) (fun _ h_=>h_.2));(case side4=>exact (Kd.jE HO607.out).2.1);rintro e w30 ⟨v614,rfl,ho0,hi,hb,hk⟩;refine ⟨_,rfl,?_⟩;have HO615:=am (Kd.jea ho0 (jN (w:=w) (g:=g) (row:=none) (Y10)));replace BK604:=am (jb.blk hk (g':=gb604) (o:=.cells #[.slice none 0 0] 32 (0,0)) (Y63) NB604_0.out (by simp));replace HO607:=am (Kd.jK (Kd.jFa (jc.apart (show jc w0 _ g s0_0 t608 from Y2) (Y102) (by decide)) hk (fun _ h=>h.2)) (fun _ h=>h.1));replace BK609:=am (jb.blk hk (g':=gb609) (o:=.cells #[.slice Ao26 t605.length co26] 32 (0,0)) (Y64) NB609_0.out (by simp));replace HK:=am (jb.trans (Y10) hk (.inl rfl));replace HB:=am (hb);replace HI0:=am (hi);(try clear hb);(try clear hb2);(try clear hk);(try clear hi);(try clear ho0);obtain ⟨Ao31,co31,eo31⟩:=Kd.jsa HO615.out;subst eo31) |((with_reducible refine je (f:=55) rfl ?_);refine gL (some 22) Try.func55 #[.pointer (some ⟨g,0,none⟩), .int .i64 (t613.length:Int)] ?_;(with_reducible refine (jf.calls k g s0_0 t616 (t613.length:Int) t617 t618 w0 _ ?side1 ?side2 A16.out).mono ?_);(case side1=>exact Y2);(case side2=>exact Y14);rintro e w32 ⟨rfl,hi,hb,hk⟩;refine ⟨_,rfl,?_⟩;replace BK604:=am (jb.blk hk (g':=gb604) (o:=.cells #[.slice none 0 0] 32 (0,0)) (kq BK604.out) NB604_0.out (by simp));replace HO607:=am (Kd.jK (Kd.jFa (jc.apart (show jc w0 _ g s0_0 t616 from Y2) (rq HO607.out) (by decide)) hk (fun _ h=>h.2)) (fun _ h=>h.1));replace BK609:=am (jb.blk hk (g':=gb609) (o:=.cells #[.slice Ao26 t605.length co26] 32 (0,0)) (kq BK609.out) NB609_0.out (by simp));replace HO615:=am (Kd.jK (Kd.jFa (jc.apart (show jc w0 _ g s0_0 t616 from Y2) (rq HO615.out) (by decide)) hk (fun _ h=>h.2)) (fun _ h=>h.1));replace HK:=am (jb.trans (Y10) hk (.inl rfl));replace HB:=am (hb);replace HI0:=am (hi);(try clear hb);(try clear hb2);(try clear hk);(try clear hi)) |((with_reducible refine je (f:=55) rfl ?_);refine gL (some 24) Try.func55 #[.pointer (some ⟨g,0,none⟩), .int .i64 24] ?_;(with_reducible refine (jf.calls k g s0_0 t618 24 t619 t620 w0 _ ?side1 ?side2 A17.out).mono ?_);(case side1=>exact Y2);(case side2=>exact Y14);rintro e w33 ⟨rfl,hi,hb,hk⟩;refine ⟨_,rfl,?_⟩;replace BK604:=am (jb.blk hk (g':=gb604) (o:=.cells #[.slice none 0 0] 32 (0,0)) (kq BK604.out) NB604_0.out (by simp));replace HO607:=am (Kd.jK (Kd.jFa (jc.apart (show jc w0 _ g s0_0 t618 from Y2) (rq HO607.out) (by decide)) hk (fun _ h=>h.2)) (fun _ h=>h.1));replace BK609:=am (jb.blk hk (g':=gb609) (o:=.cells #[.slice Ao26 t605.length co26] 32 (0,0)) (kq BK609.out) NB609_0.out (by simp));replace HO615:=am (Kd.jK (Kd.jFa (jc.apart (show jc w0 _ g s0_0 t618 from Y2) (rq HO615.out) (by decide)) hk (fun _ h=>h.2)) (fun _ h=>h.1));replace HK:=am (jb.trans (Y10) hk (.inl rfl));replace HB:=am (hb);replace HI0:=am (hi);(try clear hb);(try clear hb2);(try clear hk);(try clear hi)) |((with_reducible refine jS (N:=30) rfl ?_);refine Kd.jWb (Kd.int .i64) _ 3 ?hg (N:=30) ?hd (xs:=([(-1),6,0,1]:List Int)) (inner:=[.int .i64 (-1), .int .i64 6, .int .i64 0, .int .i64 1]) (ok:=fun _=>True) (okp:=fun _=>True) ?hr ?hp (fun _ hk=>hk) trivial (Below.refl _ _) (Nat.le_refl _) (by simp) ?_;(case hd=>rfl);(case hg=>rfl);(case hr=>exact Y8);(case hp=>exact (Reps.one (show Kd.M (Kd.int .i64) _ _ _ (-1) [.int .i64 (-1)] from rfl) (Reps.one (show Kd.M (Kd.int .i64) _ _ _ 6 [.int .i64 6] from rfl) (Reps.one (show Kd.M (Kd.int .i64) _ _ _ 0 [.int .i64 0] from rfl) (Reps.one (show Kd.M (Kd.int .i64) _ _ _ 1 [.int .i64 1] from rfl) (Reps.none _ _))))));intro v622 w34 ho35 hb hg_ hnew_;clear hg_ hnew_;(first | rw [← Ny621.out] at ho35 |(simp only [Int.reduceToNat] at ho35;rw [← Ny621.out] at ho35));have HO623:=am (Kd.jea ho35 (jN (w:=w) (g:=g) (row:=none) (Y10)));replace HO607:=am (Kd.jva (rq HO607.out) hb);replace HO615:=am (Kd.jva (rq HO615.out) hb);replace BK604:=am (jo (g:=gb604) (o:=.cells #[.slice none 0 0] 32 (0,0)) (kq BK604.out) hb);replace BK609:=am (jo (g:=gb609) (o:=.cells #[.slice Ao26 t605.length co26] 32 (0,0)) (kq BK609.out) hb);replace HK:=am (jb.trans (Y10) (jb.of_below hb g none) (.inl rfl));replace HB:=am (jg (Y14) hb);replace HI0:=am (jc.below (Y2) hb);clear hb ho35;obtain ⟨Ao36,co36,eo36⟩:=Kd.jsa HO623.out;subst eo36) |((with_reducible refine je (f:=56) rfl ?_);refine gL (some 31) Try.func56 #[.pointer (some ⟨g,0,none⟩), .slice Ao36 y621.length co36] ?_;(with_reducible refine (ji.calls k g s0_0 t620 _ _ y621 t624 t625 w0 _ ?side1 ?side2 ?side3 ?side4 ?side5 A19.out).mono ?_);(case side1=>exact Y2);(case side2=>exact Y14);(case side3=>exact cq (Kd.jE HO623.out).2.2);(case side4=>exact (Kd.jE HO623.out).2.1);(case side5=>exact jBb (jc.own_ne HI0.out HO623.out (by decide)));rintro e w37 ⟨rfl,hi,hb,hk⟩;refine ⟨_,rfl,?_⟩;replace BK604:=am (jb.blk hk (g':=gb604) (o:=.cells #[.slice none 0 0] 32 (0,0)) (kq BK604.out) NB604_0.out (by simp));replace HO607:=am (Kd.jK (Kd.jFa (jc.apart (show jc w0 _ g s0_0 t620 from Y2) (rq HO607.out) (by decide)) hk (fun _ h=>h.2)) (fun _ h=>h.1));replace BK609:=am (jb.blk hk (g':=gb609) (o:=.cells #[.slice Ao26 t605.length co26] 32 (0,0)) (kq BK609.out) NB609_0.out (by simp));replace HO615:=am (Kd.jK (Kd.jFa (jc.apart (show jc w0 _ g s0_0 t620 from Y2) (rq HO615.out) (by decide)) hk (fun _ h=>h.2)) (fun _ h=>h.1));replace HO623:=am (Kd.jK (Kd.jFa (jc.apart (show jc w0 _ g s0_0 t620 from Y2) (rq HO623.out) (by decide)) hk (fun _ h=>h.2)) (fun _ h=>h.1));replace HK:=am (jb.trans (Y10) hk (.inl rfl));replace HB:=am (hb);replace HI0:=am (hi);(try clear hb);(try clear hb2);(try clear hk);(try clear hi);have p22:0≤(t617:Int):=ozD (uq);have q22:(t617:Int)<((t613.length:Int):Int):=ozD (uq);obtain ⟨go22,co22,eo22,gb22,gl22,cl22,HG22⟩:=Kd.R_form HO615.out (by omega);(first | cases eo22 |(injection eo22 with ea_ en_ ec_;(first | subst ea_ |(injection ea_ with ea_;subst ea_));subst ec_;clear en_));have GB22:=am gb22;have GG22:=am HG22;clear gb22 gl22 HG22;obtain ⟨ce22,hcl22,hM22,hcc22,hfr22⟩:=Kd.R_elem HO615.out z59 (t617:Int) p22 q22;obtain rfl:=jKc hM22;have hx22_0:w37.cell? ⟨go22,(t617:Int).toNat * 4,none⟩=some (.int .i64 ((jd t613 t617).f0)):=hcc22 0 _ rfl;have hx22_1:w37.cell? ⟨go22,(t617:Int).toNat * 4+1,none⟩=some (.int .i64 ((jd t613 t617).f1)):=hcc22 1 _ rfl;have hx22_2:w37.cell? ⟨go22,(t617:Int).toNat * 4+2,none⟩=some (.int .i64 ((jd t613 t617).f2)):=hcc22 2 _ rfl;have hx22_3:w37.cell? ⟨go22,(t617:Int).toNat * 4+3,none⟩=some (.int .i64 ((jd t613 t617).f3)):=hcc22 3 _ rfl;have hf22_0:w37.frozen? ⟨go22,(t617:Int).toNat * 4,none⟩=false:=hfr22 0;have hf22_1:w37.frozen? ⟨go22,(t617:Int).toNat * 4+1,none⟩=false:=hfr22 1;have hf22_2:w37.frozen? ⟨go22,(t617:Int).toNat * 4+2,none⟩=false:=hfr22 2;have hf22_3:w37.frozen? ⟨go22,(t617:Int).toNat * 4+3,none⟩=false:=hfr22 3;clear hcl22 hcc22 hfr22 hM22;replace p22:=ezT p22;replace q22:=ezT q22;have HX38:=am (show Kd.R k59 59 w37 w.heap.size (fun _=>True) (.slice (some ⟨go22,0,none⟩) t613.length co31) t613 from (rq HO615.out));obtain ⟨ce38,hcl38,hM38,hcc38,hfr38⟩:=Kd.R_elem HX38.out z59 (t617:Int) (ozD (uq)) (by have h_:(t617:Int)<((t613.length:Int):Int):=ozD (uq);first | exact h_ |(have e_:=(Kd.jE HO615.out).1;omega) | simpa using h_);obtain rfl:=jKc hM38;have HP38:=Kd.R_seg HX38.out (t617:Int) (ozD (uq)) (by have h_:(t617:Int)<((t613.length:Int):Int):=ozD (uq);first | exact h_ |(have e_:=(Kd.jE HO615.out).1;omega) | simpa using h_) (seg:=[.int .i64 t624]) (j:=0) hcl38 hcc38 (show 1≤4 from by decide) (x':=(⟨t624,(jd t613 t617).f1,(jd t613 t617).f2,(jd t613 t617).f3⟩:S59)) (jAb _ _ _ (⟨t624,(jd t613 t617).f1,(jd t613 t617).f2,(jd t613 t617).f3⟩:S59) ) (fun _ hk=>hk);have hx38_0:=hcc38 0 _ rfl;(try simp only [show (k59).sz=4 from rfl,Nat.mul_one,Nat.add_zero] at hx38_0);have hf38_0:=hfr38 0;(try simp only [show (k59).sz=4 from rfl,Nat.mul_one,Nat.add_zero] at hf38_0);clear hcl38 hcc38 hfr38 hM38) |((with_reducible refine gate_store (t:=3) (p:=33) rfl ?_);refine store_event (t:=3) (p:=33) (v:=?vo_w39) (w1:=(w37.setCell ⟨go22,(t617:Int).toNat * 4,none⟩ (.int .i64 t624))) ?hg ?ho ?hn ?hr ?_;(case ho=>rfl);(case hg=>rfl);(case hn=>rfl);(case hr=>exact Y8);intro w39 hw;have hg:w37.grownBy w39 (some go22):=(by rw [hw];exact HP38.2);have hp_:Kd.R k59 59 w39 w.heap.size (fun _=>True) (.slice (some ⟨go22,0,none⟩) t613.length co31) y626:=(by rw [hw,Ny626.out];exact HP38.1);clear HP38;replace HI0:=am (jc.grown (Y2) hg (jc.own_ne HI0.out HO615.out (by decide)));replace BK604:=am (jVa (g:=gb604) (o:=.cells #[.slice none 0 0] 32 (0,0)) (kq BK604.out) hg (Kd.R_ne HO615.out BK604.out (by decide)));replace HO607:=am (Kd.jlc (v:=(.slice (some ⟨go22,0,none⟩) t613.length co31)) (rq HO607.out) (Kd.jkc HO615.out) (by decide) hg);replace BK609:=am (jVa (g:=gb609) (o:=.cells #[.slice Ao26 t605.length co26] 32 (0,0)) (kq BK609.out) hg (Kd.R_ne HO615.out BK609.out (by decide)));replace HO623:=am (Kd.jlc (v:=(.slice (some ⟨go22,0,none⟩) t613.length co31)) (rq HO623.out) (Kd.jkc HO615.out) (by decide) hg);replace HB:=am ((by rw [hw];exact jT (HB.out) (Nat.le_trans HL.out GB22.out):Below w0.heap.size w0 w39));replace HK:=am (jb.trans (Y10) (jb.jxb hg g) (Kd.jQb HO615.out));replace HO615:=am (hp_);clear hg hw hp_;have hcz40_0:=bc0 BK609.out;have hfz40_0:=ja BK609.out 0;have hnb41:=NB604_0.out;have hnc41:=NB0_604.out;have hcz42_0:=bc0 BK604.out;have hfz42_0:=ja BK604.out 0))
     refine bodyPost_ret (jcc rfl _ _ gb604 32 #[.slice Ao26 t605.length co26] (0,0) _ rfl (Y65) Try.underlying32 rfl (by kernel_rfl)) rfl ?_
     exact ⟨_,_,Y0,by (with_reducible repeat (first | apply Kd.jga | apply Kd.jha | apply Kd.jra));exact Kd.jK (Kd.jHb (p:=⟨gb604,0,none⟩) (Kd.jPa HO607.out BK604.out (by decide)) (fun _ hk=>hk.2) (.slice Ao26 t605.length co26)) (fun _ hk=>trivial),Kd.Q_of_R (by (with_reducible repeat (first | apply Kd.jga | apply Kd.jha | apply Kd.jra));exact Kd.jK (Kd.jHb (p:=⟨gb604,0,none⟩) (Kd.jPa HO615.out BK604.out (by decide)) (fun _ hk=>hk.2) (.slice Ao26 t605.length co26)) (fun _ hk=>trivial)),Y2,Y14,Y10⟩
    ·rw [if_neg c21] at H
     exact absurd H (by simp)
   ·rw [if_neg c20] at H
    exact absurd H (by simp)
  ·rw [if_neg c18] at H
   have c18b0:(t619 == 0)=false:=beq_eq_false_iff_ne.mpr c18
   have c18b1:(t619 != 0)=true:=bne_iff_ne.mpr c18
   by_cases c43:t619=1
   ·rw [if_pos c43] at H
    have c43b0:(t619 == 1)=true:=beq_iff_eq.mpr c43
    have c43b1:(t619 != 1)=false:=bne_eq_false_iff_eq.mpr c43
    clear c43
    obtain ⟨y627,hy627⟩:∃ y_:List Int,y_=(([(-1),13,5,9,0]:List Int)):=⟨_,rfl⟩
    replace H:((ji.f k s0_0 t620 y627).bind fun bt630=>(if 0≤t617 then (if t617<(t613.length:Int) then (some (t605,(t613.set (t617:Int).toNat (⟨(jd t613 t617).f0,bt630.1,(jd t613 t617).f2,(jd t613 t617).f3⟩:S59)),bt630.2)) else (none)) else (none)))=some (r1,r2,r3):=by first |(rw [hy627];with_reducible exact H) |(have H2_:=(Option.bind_some _ _).symm.trans H;rw [hy627];with_reducible exact H2_) |(have H2_:=(Option.bind_some _ _).symm.trans H;with_reducible exact H2_) | with_reducible exact H |(rw [hy627];exact H) | exact H
    have Ny627:=am hy627
    clear hy627
    replace H:=bzS H
    obtain ⟨⟨t630,t631⟩,A440,H⟩:=H
    replace H:(if 0≤t617 then (if t617<(t613.length:Int) then (some (t605,(t613.set (t617:Int).toNat (⟨(jd t613 t617).f0,t630,(jd t613 t617).f2,(jd t613 t617).f3⟩:S59)),t631)) else (none)) else (none))=some (r1,r2,r3):=H
    have A44:=am A440
    clear A440
    by_cases c45:0≤t617
    ·rw [if_pos c45] at H
     have c45b0:decide (0≤t617)=true:=dzT c45
     clear c45
     by_cases c46:t617<(t613.length:Int)
     ·rw [if_pos c46] at H
      have c46b0:decide (t617<(t613.length:Int))=true:=dzT c46
      clear c46
      obtain ⟨y632,hy632⟩:∃ y_:List (S59),y_=(t613.set (t617:Int).toNat (⟨(jd t613 t617).f0,t630,(jd t613 t617).f2,(jd t613 t617).f3⟩:S59)):=⟨_,rfl⟩
      replace H:(some (t605,y632,t631))=some (r1,r2,r3):=by first |(rw [hy632];with_reducible exact H) |(have H2_:=(Option.bind_some _ _).symm.trans H;rw [hy632];with_reducible exact H2_) |(have H2_:=(Option.bind_some _ _).symm.trans H;with_reducible exact H2_) | with_reducible exact H |(rw [hy632];exact H) | exact H
      have Ny632:=am hy632
      clear hy632
      simp only [Option.some.injEq,Prod.mk.injEq] at H
      obtain ⟨rfl,rfl,rfl⟩:=H
      go_enter Try.func41,Try.ntmps41
      go_wp2_with (first |((with_reducible refine jS (N:=2) rfl ?_);refine bE (N:=2) (cs:=#[.slice none 0 0]) (t:=32) ?_;intro gb604 hg w48 hbox hb;have BK604:=am (hbox);have GW604:=am ((Y12:w.heap.size≤gb604));have GE604:=am ((Nat.le_trans HW0.out (Y12:w.heap.size≤gb604):w0.heap.size≤gb604));have NB0_604:=am ((Y30:g≠gb604));have NB604_0:=am ((Y31:gb604≠g));replace HK:=am (jb.trans (Y16) (jb.of_below hb g none) (.inl rfl));replace HB:=am (jg (Y17) hb);replace HI0:=am (jc.below (Y15) hb);clear hb hbox hg) |((with_reducible refine je (f:=71) rfl ?_);refine gL (some 8) Try.func71 #[.pointer (some ⟨g,0,none⟩)] ?_;(with_reducible refine (jpa.calls k g s0_0 s0_1 t605 t608 w0 _ ?side1 ?side2 A2.out).mono ?_);(case side1=>exact Y38);(case side2=>exact Y39);rintro e w49 ⟨v606,rfl,ho0,hi,hb,hk⟩;refine ⟨_,rfl,?_⟩;have HO607:=am (Kd.jea ho0 (jN (w:=w) (g:=g) (row:=none) (Y25)));replace BK604:=am (jb.blk hk (g':=gb604) (o:=.cells #[.slice none 0 0] 32 (0,0)) (kq BK604.out) NB604_0.out (by simp));replace HK:=am (jb.trans (Y25) hk (.inl rfl));replace HB:=am (hb);replace HI0:=am (hi);(try clear hb);(try clear hb2);(try clear hk);(try clear hi);(try clear ho0)) |((with_reducible refine jS (N:=4) rfl ?_);refine bE (N:=4) (cs:=#[.slice none 0 0]) (t:=32) ?_;intro gb609 hg w50 hbox hb;have BK609:=am (hbox);have GW609:=am ((Y40:w.heap.size≤gb609));have GE609:=am ((Nat.le_trans HW0.out (Y40:w.heap.size≤gb609):w0.heap.size≤gb609));have NB604_609:=am ((Y59:gb604≠gb609));have NB609_604:=am ((Y60:gb609≠gb604));have NB0_609:=am ((Y61:g≠gb609));have NB609_0:=am ((Y62:gb609≠g));replace HO607:=am (Kd.jva (rq HO607.out) hb);replace BK604:=am (jo (g:=gb604) (o:=.cells #[.slice none 0 0] 32 (0,0)) (kq BK604.out) hb);replace HK:=am (jb.trans (Y25) (jb.of_below hb g none) (.inl rfl));replace HB:=am (jg (Y39) hb);replace HI0:=am (jc.below (Y38) hb);clear hb hbox hg;obtain ⟨Ao51,co51,eo51⟩:=Kd.jsa HO607.out;subst eo51;have hnb52:=NB609_604.out;have hnc52:=NB604_609.out;have hnb53:=NB609_0.out;have hnc53:=NB0_609.out;have hcz54_0:=bc0 BK609.out;have hfz54_0:=ja BK609.out 0) |((with_reducible refine je (f:=72) rfl ?_);refine gL (some 18) Try.func72 #[.pointer (some ⟨g,0,none⟩), .agg #[.slice Ao51 t605.length co51]] ?_;(with_reducible refine (jC.calls k g s0_0 t608 _ _ t605 t613 t616 w0 _ ?side1 ?side2 ?side3 ?side4 A15.out).mono ?_);(case side1=>exact Y2);(case side2=>exact Y14);(case side3=>exact Kd.jNc (jc.apart (show jc w0 _ g s0_0 t608 from Y2) (Y103) (by decide)) (fun _ h_=>h_.2));(case side4=>exact (Kd.jE HO607.out).2.1);rintro e w55 ⟨v614,rfl,ho0,hi,hb,hk⟩;refine ⟨_,rfl,?_⟩;have HO615:=am (Kd.jea ho0 (jN (w:=w) (g:=g) (row:=none) (Y10)));replace BK604:=am (jb.blk hk (g':=gb604) (o:=.cells #[.slice none 0 0] 32 (0,0)) (Y63) NB604_0.out (by simp));replace HO607:=am (Kd.jK (Kd.jFa (jc.apart (show jc w0 _ g s0_0 t608 from Y2) (Y103) (by decide)) hk (fun _ h=>h.2)) (fun _ h=>h.1));replace BK609:=am (jb.blk hk (g':=gb609) (o:=.cells #[.slice Ao51 t605.length co51] 32 (0,0)) (Y64) NB609_0.out (by simp));replace HK:=am (jb.trans (Y10) hk (.inl rfl));replace HB:=am (hb);replace HI0:=am (hi);(try clear hb);(try clear hb2);(try clear hk);(try clear hi);(try clear ho0);obtain ⟨Ao56,co56,eo56⟩:=Kd.jsa HO615.out;subst eo56) |((with_reducible refine je (f:=55) rfl ?_);refine gL (some 22) Try.func55 #[.pointer (some ⟨g,0,none⟩), .int .i64 (t613.length:Int)] ?_;(with_reducible refine (jf.calls k g s0_0 t616 (t613.length:Int) t617 t618 w0 _ ?side1 ?side2 A16.out).mono ?_);(case side1=>exact Y2);(case side2=>exact Y14);rintro e w57 ⟨rfl,hi,hb,hk⟩;refine ⟨_,rfl,?_⟩;replace BK604:=am (jb.blk hk (g':=gb604) (o:=.cells #[.slice none 0 0] 32 (0,0)) (kq BK604.out) NB604_0.out (by simp));replace HO607:=am (Kd.jK (Kd.jFa (jc.apart (show jc w0 _ g s0_0 t616 from Y2) (rq HO607.out) (by decide)) hk (fun _ h=>h.2)) (fun _ h=>h.1));replace BK609:=am (jb.blk hk (g':=gb609) (o:=.cells #[.slice Ao51 t605.length co51] 32 (0,0)) (kq BK609.out) NB609_0.out (by simp));replace HO615:=am (Kd.jK (Kd.jFa (jc.apart (show jc w0 _ g s0_0 t616 from Y2) (rq HO615.out) (by decide)) hk (fun _ h=>h.2)) (fun _ h=>h.1));replace HK:=am (jb.trans (Y10) hk (.inl rfl));replace HB:=am (hb);replace HI0:=am (hi);(try clear hb);(try clear hb2);(try clear hk);(try clear hi)) |((with_reducible refine je (f:=55) rfl ?_);refine gL (some 24) Try.func55 #[.pointer (some ⟨g,0,none⟩), .int .i64 24] ?_;(with_reducible refine (jf.calls k g s0_0 t618 24 t619 t620 w0 _ ?side1 ?side2 A17.out).mono ?_);(case side1=>exact Y2);(case side2=>exact Y14);rintro e w58 ⟨rfl,hi,hb,hk⟩;refine ⟨_,rfl,?_⟩;replace BK604:=am (jb.blk hk (g':=gb604) (o:=.cells #[.slice none 0 0] 32 (0,0)) (kq BK604.out) NB604_0.out (by simp));replace HO607:=am (Kd.jK (Kd.jFa (jc.apart (show jc w0 _ g s0_0 t618 from Y2) (rq HO607.out) (by decide)) hk (fun _ h=>h.2)) (fun _ h=>h.1));replace BK609:=am (jb.blk hk (g':=gb609) (o:=.cells #[.slice Ao51 t605.length co51] 32 (0,0)) (kq BK609.out) NB609_0.out (by simp));replace HO615:=am (Kd.jK (Kd.jFa (jc.apart (show jc w0 _ g s0_0 t618 from Y2) (rq HO615.out) (by decide)) hk (fun _ h=>h.2)) (fun _ h=>h.1));replace HK:=am (jb.trans (Y10) hk (.inl rfl));replace HB:=am (hb);replace HI0:=am (hi);(try clear hb);(try clear hb2);(try clear hk);(try clear hi)) |((with_reducible refine jS (N:=39) rfl ?_);refine Kd.jWb (Kd.int .i64) _ 3 ?hg (N:=39) ?hd (xs:=([(-1),13,5,9,0]:List Int)) (inner:=[.int .i64 (-1), .int .i64 13, .int .i64 5, .int .i64 9, .int .i64 0]) (ok:=fun _=>True) (okp:=fun _=>True) ?hr ?hp (fun _ hk=>hk) trivial (Below.refl _ _) (Nat.le_refl _) (by simp) ?_;(case hd=>rfl);(case hg=>rfl);(case hr=>exact Y8);(case hp=>exact (Reps.one (show Kd.M (Kd.int .i64) _ _ _ (-1) [.int .i64 (-1)] from rfl) (Reps.one (show Kd.M (Kd.int .i64) _ _ _ 13 [.int .i64 13] from rfl) (Reps.one (show Kd.M (Kd.int .i64) _ _ _ 5 [.int .i64 5] from rfl) (Reps.one (show Kd.M (Kd.int .i64) _ _ _ 9 [.int .i64 9] from rfl) (Reps.one (show Kd.M (Kd.int .i64) _ _ _ 0 [.int .i64 0] from rfl) (Reps.none _ _)))))));intro v628 w59 ho60 hb hg_ hnew_;clear hg_ hnew_;(first | rw [← Ny627.out] at ho60 |(simp only [Int.reduceToNat] at ho60;rw [← Ny627.out] at ho60));have HO629:=am (Kd.jea ho60 (jN (w:=w) (g:=g) (row:=none) (Y10)));replace HO607:=am (Kd.jva (rq HO607.out) hb);replace HO615:=am (Kd.jva (rq HO615.out) hb);replace BK604:=am (jo (g:=gb604) (o:=.cells #[.slice none 0 0] 32 (0,0)) (kq BK604.out) hb);replace BK609:=am (jo (g:=gb609) (o:=.cells #[.slice Ao51 t605.length co51] 32 (0,0)) (kq BK609.out) hb);replace HK:=am (jb.trans (Y10) (jb.of_below hb g none) (.inl rfl));replace HB:=am (jg (Y14) hb);replace HI0:=am (jc.below (Y2) hb);clear hb ho60;obtain ⟨Ao61,co61,eo61⟩:=Kd.jsa HO629.out;subst eo61) |((with_reducible refine je (f:=56) rfl ?_);refine gL (some 40) Try.func56 #[.pointer (some ⟨g,0,none⟩), .slice Ao61 y627.length co61] ?_;(with_reducible refine (ji.calls k g s0_0 t620 _ _ y627 t630 t631 w0 _ ?side1 ?side2 ?side3 ?side4 ?side5 A44.out).mono ?_);(case side1=>exact Y2);(case side2=>exact Y14);(case side3=>exact cq (Kd.jE HO629.out).2.2);(case side4=>exact (Kd.jE HO629.out).2.1);(case side5=>exact jBb (jc.own_ne HI0.out HO629.out (by decide)));rintro e w62 ⟨rfl,hi,hb,hk⟩;refine ⟨_,rfl,?_⟩;replace BK604:=am (jb.blk hk (g':=gb604) (o:=.cells #[.slice none 0 0] 32 (0,0)) (kq BK604.out) NB604_0.out (by simp));replace HO607:=am (Kd.jK (Kd.jFa (jc.apart (show jc w0 _ g s0_0 t620 from Y2) (rq HO607.out) (by decide)) hk (fun _ h=>h.2)) (fun _ h=>h.1));replace BK609:=am (jb.blk hk (g':=gb609) (o:=.cells #[.slice Ao51 t605.length co51] 32 (0,0)) (kq BK609.out) NB609_0.out (by simp));replace HO615:=am (Kd.jK (Kd.jFa (jc.apart (show jc w0 _ g s0_0 t620 from Y2) (rq HO615.out) (by decide)) hk (fun _ h=>h.2)) (fun _ h=>h.1));replace HO629:=am (Kd.jK (Kd.jFa (jc.apart (show jc w0 _ g s0_0 t620 from Y2) (rq HO629.out) (by decide)) hk (fun _ h=>h.2)) (fun _ h=>h.1));replace HK:=am (jb.trans (Y10) hk (.inl rfl));replace HB:=am (hb);replace HI0:=am (hi);(try clear hb);(try clear hb2);(try clear hk);(try clear hi);have p47:0≤(t617:Int):=ozD (uq);have q47:(t617:Int)<((t613.length:Int):Int):=ozD (uq);obtain ⟨go47,co47,eo47,gb47,gl47,cl47,HG47⟩:=Kd.R_form HO615.out (by omega);(first | cases eo47 |(injection eo47 with ea_ en_ ec_;(first | subst ea_ |(injection ea_ with ea_;subst ea_));subst ec_;clear en_));have GB47:=am gb47;have GG47:=am HG47;clear gb47 gl47 HG47;obtain ⟨ce47,hcl47,hM47,hcc47,hfr47⟩:=Kd.R_elem HO615.out z59 (t617:Int) p47 q47;obtain rfl:=jKc hM47;have hx47_0:w62.cell? ⟨go47,(t617:Int).toNat * 4,none⟩=some (.int .i64 ((jd t613 t617).f0)):=hcc47 0 _ rfl;have hx47_1:w62.cell? ⟨go47,(t617:Int).toNat * 4+1,none⟩=some (.int .i64 ((jd t613 t617).f1)):=hcc47 1 _ rfl;have hx47_2:w62.cell? ⟨go47,(t617:Int).toNat * 4+2,none⟩=some (.int .i64 ((jd t613 t617).f2)):=hcc47 2 _ rfl;have hx47_3:w62.cell? ⟨go47,(t617:Int).toNat * 4+3,none⟩=some (.int .i64 ((jd t613 t617).f3)):=hcc47 3 _ rfl;have hf47_0:w62.frozen? ⟨go47,(t617:Int).toNat * 4,none⟩=false:=hfr47 0;have hf47_1:w62.frozen? ⟨go47,(t617:Int).toNat * 4+1,none⟩=false:=hfr47 1;have hf47_2:w62.frozen? ⟨go47,(t617:Int).toNat * 4+2,none⟩=false:=hfr47 2;have hf47_3:w62.frozen? ⟨go47,(t617:Int).toNat * 4+3,none⟩=false:=hfr47 3;clear hcl47 hcc47 hfr47 hM47;replace p47:=ezT p47;replace q47:=ezT q47;have HX63:=am (show Kd.R k59 59 w62 w.heap.size (fun _=>True) (.slice (some ⟨go47,0,none⟩) t613.length co56) t613 from (rq HO615.out));obtain ⟨ce63,hcl63,hM63,hcc63,hfr63⟩:=Kd.R_elem HX63.out z59 (t617:Int) (ozD (uq)) (by have h_:(t617:Int)<((t613.length:Int):Int):=ozD (uq);first | exact h_ |(have e_:=(Kd.jE HO615.out).1;omega) | simpa using h_);obtain rfl:=jKc hM63;have HP63:=Kd.R_seg HX63.out (t617:Int) (ozD (uq)) (by have h_:(t617:Int)<((t613.length:Int):Int):=ozD (uq);first | exact h_ |(have e_:=(Kd.jE HO615.out).1;omega) | simpa using h_) (seg:=[.int .i64 t630]) (j:=1) hcl63 hcc63 (show 2≤4 from by decide) (x':=(⟨(jd t613 t617).f0,t630,(jd t613 t617).f2,(jd t613 t617).f3⟩:S59)) (jAb _ _ _ (⟨(jd t613 t617).f0,t630,(jd t613 t617).f2,(jd t613 t617).f3⟩:S59) ) (fun _ hk=>hk);have hx63_1:=hcc63 1 _ rfl;(try simp only [show (k59).sz=4 from rfl,Nat.mul_one,Nat.add_zero] at hx63_1);have hf63_1:=hfr63 1;(try simp only [show (k59).sz=4 from rfl,Nat.mul_one,Nat.add_zero] at hf63_1);clear hcl63 hcc63 hfr63 hM63) |((with_reducible refine gate_store (t:=3) (p:=42) rfl ?_);refine store_event (t:=3) (p:=42) (v:=?vo_w64) (w1:=(w62.setCell ⟨go47,(t617:Int).toNat * 4+1,none⟩ (.int .i64 t630))) ?hg ?ho ?hn ?hr ?_;(case ho=>rfl);(case hg=>rfl);(case hn=>rfl);(case hr=>exact Y8);intro w64 hw;have hg:w62.grownBy w64 (some go47):=(by rw [hw];exact HP63.2);have hp_:Kd.R k59 59 w64 w.heap.size (fun _=>True) (.slice (some ⟨go47,0,none⟩) t613.length co56) y632:=(by rw [hw,Ny632.out];exact HP63.1);clear HP63;replace HI0:=am (jc.grown (Y2) hg (jc.own_ne HI0.out HO615.out (by decide)));replace BK604:=am (jVa (g:=gb604) (o:=.cells #[.slice none 0 0] 32 (0,0)) (kq BK604.out) hg (Kd.R_ne HO615.out BK604.out (by decide)));replace HO607:=am (Kd.jlc (v:=(.slice (some ⟨go47,0,none⟩) t613.length co56)) (rq HO607.out) (Kd.jkc HO615.out) (by decide) hg);replace BK609:=am (jVa (g:=gb609) (o:=.cells #[.slice Ao51 t605.length co51] 32 (0,0)) (kq BK609.out) hg (Kd.R_ne HO615.out BK609.out (by decide)));replace HO629:=am (Kd.jlc (v:=(.slice (some ⟨go47,0,none⟩) t613.length co56)) (rq HO629.out) (Kd.jkc HO615.out) (by decide) hg);replace HB:=am ((by rw [hw];exact jT (HB.out) (Nat.le_trans HL.out GB47.out):Below w0.heap.size w0 w64));replace HK:=am (jb.trans (Y10) (jb.jxb hg g) (Kd.jQb HO615.out));replace HO615:=am (hp_);clear hg hw hp_;have hcz65_0:=bc0 BK609.out;have hfz65_0:=ja BK609.out 0;have hnb66:=NB604_0.out;have hnc66:=NB0_604.out;have hcz67_0:=bc0 BK604.out;have hfz67_0:=ja BK604.out 0))
      refine bodyPost_ret (jcc rfl _ _ gb604 32 #[.slice Ao51 t605.length co51] (0,0) _ rfl (Y65) Try.underlying32 rfl (by kernel_rfl)) rfl ?_
      exact ⟨_,_,Y0,by (with_reducible repeat (first | apply Kd.jga | apply Kd.jha | apply Kd.jra));exact Kd.jK (Kd.jHb (p:=⟨gb604,0,none⟩) (Kd.jPa HO607.out BK604.out (by decide)) (fun _ hk=>hk.2) (.slice Ao51 t605.length co51)) (fun _ hk=>trivial),Kd.Q_of_R (by (with_reducible repeat (first | apply Kd.jga | apply Kd.jha | apply Kd.jra));exact Kd.jK (Kd.jHb (p:=⟨gb604,0,none⟩) (Kd.jPa HO615.out BK604.out (by decide)) (fun _ hk=>hk.2) (.slice Ao51 t605.length co51)) (fun _ hk=>trivial)),Y2,Y14,Y10⟩
     ·rw [if_neg c46] at H
      exact absurd H (by simp)
    ·rw [if_neg c45] at H
     exact absurd H (by simp)
   ·rw [if_neg c43] at H
    have c43b0:(t619 == 1)=false:=beq_eq_false_iff_ne.mpr c43
    have c43b1:(t619 != 1)=true:=bne_iff_ne.mpr c43
    by_cases c68:t619=2
    ·rw [if_pos c68] at H
     have c68b0:(t619 == 2)=true:=beq_iff_eq.mpr c68
     have c68b1:(t619 != 2)=false:=bne_eq_false_iff_eq.mpr c68
     clear c68
     obtain ⟨y633,hy633⟩:∃ y_:List Int,y_=(([(-1),100,8]:List Int)):=⟨_,rfl⟩
     replace H:((ji.f k s0_0 t620 y633).bind fun bt636=>(if 0≤t617 then (if t617<(t613.length:Int) then (some (t605,(t613.set (t617:Int).toNat (⟨(jd t613 t617).f0,(jd t613 t617).f1,bt636.1,(jd t613 t617).f3⟩:S59)),bt636.2)) else (none)) else (none)))=some (r1,r2,r3):=by first |(rw [hy633];with_reducible exact H) |(have H2_:=(Option.bind_some _ _).symm.trans H;rw [hy633];with_reducible exact H2_) |(have H2_:=(Option.bind_some _ _).symm.trans H;with_reducible exact H2_) | with_reducible exact H |(rw [hy633];exact H) | exact H
     have Ny633:=am hy633
     clear hy633
     replace H:=bzS H
     obtain ⟨⟨t636,t637⟩,A690,H⟩:=H
     replace H:(if 0≤t617 then (if t617<(t613.length:Int) then (some (t605,(t613.set (t617:Int).toNat (⟨(jd t613 t617).f0,(jd t613 t617).f1,t636,(jd t613 t617).f3⟩:S59)),t637)) else (none)) else (none))=some (r1,r2,r3):=H
     have A69:=am A690
     clear A690
     by_cases c70:0≤t617
     ·rw [if_pos c70] at H
      have c70b0:decide (0≤t617)=true:=dzT c70
      clear c70
      by_cases c71:t617<(t613.length:Int)
      ·rw [if_pos c71] at H
       have c71b0:decide (t617<(t613.length:Int))=true:=dzT c71
       clear c71
       obtain ⟨y638,hy638⟩:∃ y_:List (S59),y_=(t613.set (t617:Int).toNat (⟨(jd t613 t617).f0,(jd t613 t617).f1,t636,(jd t613 t617).f3⟩:S59)):=⟨_,rfl⟩
       replace H:(some (t605,y638,t637))=some (r1,r2,r3):=by first |(rw [hy638];with_reducible exact H) |(have H2_:=(Option.bind_some _ _).symm.trans H;rw [hy638];with_reducible exact H2_) |(have H2_:=(Option.bind_some _ _).symm.trans H;with_reducible exact H2_) | with_reducible exact H |(rw [hy638];exact H) | exact H
       have Ny638:=am hy638
       clear hy638
       simp only [Option.some.injEq,Prod.mk.injEq] at H
       obtain ⟨rfl,rfl,rfl⟩:=H
       go_enter Try.func41,Try.ntmps41
       go_wp2_with (first |((with_reducible refine jS (N:=2) rfl ?_);refine bE (N:=2) (cs:=#[.slice none 0 0]) (t:=32) ?_;intro gb604 hg w73 hbox hb;have BK604:=am (hbox);have GW604:=am ((Y12:w.heap.size≤gb604));have GE604:=am ((Nat.le_trans HW0.out (Y12:w.heap.size≤gb604):w0.heap.size≤gb604));have NB0_604:=am ((Y30:g≠gb604));have NB604_0:=am ((Y31:gb604≠g));replace HK:=am (jb.trans (Y16) (jb.of_below hb g none) (.inl rfl));replace HB:=am (jg (Y17) hb);replace HI0:=am (jc.below (Y15) hb);clear hb hbox hg) |((with_reducible refine je (f:=71) rfl ?_);refine gL (some 8) Try.func71 #[.pointer (some ⟨g,0,none⟩)] ?_;(with_reducible refine (jpa.calls k g s0_0 s0_1 t605 t608 w0 _ ?side1 ?side2 A2.out).mono ?_);(case side1=>exact Y38);(case side2=>exact Y39);rintro e w74 ⟨v606,rfl,ho0,hi,hb,hk⟩;refine ⟨_,rfl,?_⟩;have HO607:=am (Kd.jea ho0 (jN (w:=w) (g:=g) (row:=none) (Y25)));replace BK604:=am (jb.blk hk (g':=gb604) (o:=.cells #[.slice none 0 0] 32 (0,0)) (kq BK604.out) NB604_0.out (by simp));replace HK:=am (jb.trans (Y25) hk (.inl rfl));replace HB:=am (hb);replace HI0:=am (hi);(try clear hb);(try clear hb2);(try clear hk);(try clear hi);(try clear ho0)) |((with_reducible refine jS (N:=4) rfl ?_);refine bE (N:=4) (cs:=#[.slice none 0 0]) (t:=32) ?_;intro gb609 hg w75 hbox hb;have BK609:=am (hbox);have GW609:=am ((Y40:w.heap.size≤gb609));have GE609:=am ((Nat.le_trans HW0.out (Y40:w.heap.size≤gb609):w0.heap.size≤gb609));have NB604_609:=am ((Y59:gb604≠gb609));have NB609_604:=am ((Y60:gb609≠gb604));have NB0_609:=am ((Y61:g≠gb609));have NB609_0:=am ((Y62:gb609≠g));replace HO607:=am (Kd.jva (rq HO607.out) hb);replace BK604:=am (jo (g:=gb604) (o:=.cells #[.slice none 0 0] 32 (0,0)) (kq BK604.out) hb);replace HK:=am (jb.trans (Y25) (jb.of_below hb g none) (.inl rfl));replace HB:=am (jg (Y39) hb);replace HI0:=am (jc.below (Y38) hb);clear hb hbox hg;obtain ⟨Ao76,co76,eo76⟩:=Kd.jsa HO607.out;subst eo76;have hnb77:=NB609_604.out;have hnc77:=NB604_609.out;have hnb78:=NB609_0.out;have hnc78:=NB0_609.out;have hcz79_0:=bc0 BK609.out;have hfz79_0:=ja BK609.out 0) |((with_reducible refine je (f:=72) rfl ?_);refine gL (some 18) Try.func72 #[.pointer (some ⟨g,0,none⟩), .agg #[.slice Ao76 t605.length co76]] ?_;(with_reducible refine (jC.calls k g s0_0 t608 _ _ t605 t613 t616 w0 _ ?side1 ?side2 ?side3 ?side4 A15.out).mono ?_);(case side1=>exact Y2);(case side2=>exact Y14);(case side3=>exact Kd.jNc (jc.apart (show jc w0 _ g s0_0 t608 from Y2) (Y104) (by decide)) (fun _ h_=>h_.2));(case side4=>exact (Kd.jE HO607.out).2.1);rintro e w80 ⟨v614,rfl,ho0,hi,hb,hk⟩;refine ⟨_,rfl,?_⟩;have HO615:=am (Kd.jea ho0 (jN (w:=w) (g:=g) (row:=none) (Y10)));replace BK604:=am (jb.blk hk (g':=gb604) (o:=.cells #[.slice none 0 0] 32 (0,0)) (Y63) NB604_0.out (by simp));replace HO607:=am (Kd.jK (Kd.jFa (jc.apart (show jc w0 _ g s0_0 t608 from Y2) (Y104) (by decide)) hk (fun _ h=>h.2)) (fun _ h=>h.1));replace BK609:=am (jb.blk hk (g':=gb609) (o:=.cells #[.slice Ao76 t605.length co76] 32 (0,0)) (Y64) NB609_0.out (by simp));replace HK:=am (jb.trans (Y10) hk (.inl rfl));replace HB:=am (hb);replace HI0:=am (hi);(try clear hb);(try clear hb2);(try clear hk);(try clear hi);(try clear ho0);obtain ⟨Ao81,co81,eo81⟩:=Kd.jsa HO615.out;subst eo81) |((with_reducible refine je (f:=55) rfl ?_);refine gL (some 22) Try.func55 #[.pointer (some ⟨g,0,none⟩), .int .i64 (t613.length:Int)] ?_;(with_reducible refine (jf.calls k g s0_0 t616 (t613.length:Int) t617 t618 w0 _ ?side1 ?side2 A16.out).mono ?_);(case side1=>exact Y2);(case side2=>exact Y14);rintro e w82 ⟨rfl,hi,hb,hk⟩;refine ⟨_,rfl,?_⟩;replace BK604:=am (jb.blk hk (g':=gb604) (o:=.cells #[.slice none 0 0] 32 (0,0)) (kq BK604.out) NB604_0.out (by simp));replace HO607:=am (Kd.jK (Kd.jFa (jc.apart (show jc w0 _ g s0_0 t616 from Y2) (rq HO607.out) (by decide)) hk (fun _ h=>h.2)) (fun _ h=>h.1));replace BK609:=am (jb.blk hk (g':=gb609) (o:=.cells #[.slice Ao76 t605.length co76] 32 (0,0)) (kq BK609.out) NB609_0.out (by simp));replace HO615:=am (Kd.jK (Kd.jFa (jc.apart (show jc w0 _ g s0_0 t616 from Y2) (rq HO615.out) (by decide)) hk (fun _ h=>h.2)) (fun _ h=>h.1));replace HK:=am (jb.trans (Y10) hk (.inl rfl));replace HB:=am (hb);replace HI0:=am (hi);(try clear hb);(try clear hb2);(try clear hk);(try clear hi)) |((with_reducible refine je (f:=55) rfl ?_);refine gL (some 24) Try.func55 #[.pointer (some ⟨g,0,none⟩), .int .i64 24] ?_;(with_reducible refine (jf.calls k g s0_0 t618 24 t619 t620 w0 _ ?side1 ?side2 A17.out).mono ?_);(case side1=>exact Y2);(case side2=>exact Y14);rintro e w83 ⟨rfl,hi,hb,hk⟩;refine ⟨_,rfl,?_⟩;replace BK604:=am (jb.blk hk (g':=gb604) (o:=.cells #[.slice none 0 0] 32 (0,0)) (kq BK604.out) NB604_0.out (by simp));replace HO607:=am (Kd.jK (Kd.jFa (jc.apart (show jc w0 _ g s0_0 t618 from Y2) (rq HO607.out) (by decide)) hk (fun _ h=>h.2)) (fun _ h=>h.1));replace BK609:=am (jb.blk hk (g':=gb609) (o:=.cells #[.slice Ao76 t605.length co76] 32 (0,0)) (kq BK609.out) NB609_0.out (by simp));replace HO615:=am (Kd.jK (Kd.jFa (jc.apart (show jc w0 _ g s0_0 t618 from Y2) (rq HO615.out) (by decide)) hk (fun _ h=>h.2)) (fun _ h=>h.1));replace HK:=am (jb.trans (Y10) hk (.inl rfl));replace HB:=am (hb);replace HI0:=am (hi);(try clear hb);(try clear hb2);(try clear hk);(try clear hi)) |((with_reducible refine jS (N:=48) rfl ?_);refine Kd.jWb (Kd.int .i64) _ 3 ?hg (N:=48) ?hd (xs:=([(-1),100,8]:List Int)) (inner:=[.int .i64 (-1), .int .i64 100, .int .i64 8]) (ok:=fun _=>True) (okp:=fun _=>True) ?hr ?hp (fun _ hk=>hk) trivial (Below.refl _ _) (Nat.le_refl _) (by simp) ?_;(case hd=>rfl);(case hg=>rfl);(case hr=>exact Y8);(case hp=>exact (Reps.one (show Kd.M (Kd.int .i64) _ _ _ (-1) [.int .i64 (-1)] from rfl) (Reps.one (show Kd.M (Kd.int .i64) _ _ _ 100 [.int .i64 100] from rfl) (Reps.one (show Kd.M (Kd.int .i64) _ _ _ 8 [.int .i64 8] from rfl) (Reps.none _ _)))));intro v634 w84 ho85 hb hg_ hnew_;clear hg_ hnew_;(first | rw [← Ny633.out] at ho85 |(simp only [Int.reduceToNat] at ho85;rw [← Ny633.out] at ho85));have HO635:=am (Kd.jea ho85 (jN (w:=w) (g:=g) (row:=none) (Y10)));replace HO607:=am (Kd.jva (rq HO607.out) hb);replace HO615:=am (Kd.jva (rq HO615.out) hb);replace BK604:=am (jo (g:=gb604) (o:=.cells #[.slice none 0 0] 32 (0,0)) (kq BK604.out) hb);replace BK609:=am (jo (g:=gb609) (o:=.cells #[.slice Ao76 t605.length co76] 32 (0,0)) (kq BK609.out) hb);replace HK:=am (jb.trans (Y10) (jb.of_below hb g none) (.inl rfl));replace HB:=am (jg (Y14) hb);replace HI0:=am (jc.below (Y2) hb);clear hb ho85;obtain ⟨Ao86,co86,eo86⟩:=Kd.jsa HO635.out;subst eo86) |((with_reducible refine je (f:=56) rfl ?_);refine gL (some 49) Try.func56 #[.pointer (some ⟨g,0,none⟩), .slice Ao86 y633.length co86] ?_;(with_reducible refine (ji.calls k g s0_0 t620 _ _ y633 t636 t637 w0 _ ?side1 ?side2 ?side3 ?side4 ?side5 A69.out).mono ?_);(case side1=>exact Y2);(case side2=>exact Y14);(case side3=>exact cq (Kd.jE HO635.out).2.2);(case side4=>exact (Kd.jE HO635.out).2.1);(case side5=>exact jBb (jc.own_ne HI0.out HO635.out (by decide)));rintro e w87 ⟨rfl,hi,hb,hk⟩;refine ⟨_,rfl,?_⟩;replace BK604:=am (jb.blk hk (g':=gb604) (o:=.cells #[.slice none 0 0] 32 (0,0)) (kq BK604.out) NB604_0.out (by simp));replace HO607:=am (Kd.jK (Kd.jFa (jc.apart (show jc w0 _ g s0_0 t620 from Y2) (rq HO607.out) (by decide)) hk (fun _ h=>h.2)) (fun _ h=>h.1));replace BK609:=am (jb.blk hk (g':=gb609) (o:=.cells #[.slice Ao76 t605.length co76] 32 (0,0)) (kq BK609.out) NB609_0.out (by simp));replace HO615:=am (Kd.jK (Kd.jFa (jc.apart (show jc w0 _ g s0_0 t620 from Y2) (rq HO615.out) (by decide)) hk (fun _ h=>h.2)) (fun _ h=>h.1));replace HO635:=am (Kd.jK (Kd.jFa (jc.apart (show jc w0 _ g s0_0 t620 from Y2) (rq HO635.out) (by decide)) hk (fun _ h=>h.2)) (fun _ h=>h.1));replace HK:=am (jb.trans (Y10) hk (.inl rfl));replace HB:=am (hb);replace HI0:=am (hi);(try clear hb);(try clear hb2);(try clear hk);(try clear hi);have p72:0≤(t617:Int):=ozD (uq);have q72:(t617:Int)<((t613.length:Int):Int):=ozD (uq);obtain ⟨go72,co72,eo72,gb72,gl72,cl72,HG72⟩:=Kd.R_form HO615.out (by omega);(first | cases eo72 |(injection eo72 with ea_ en_ ec_;(first | subst ea_ |(injection ea_ with ea_;subst ea_));subst ec_;clear en_));have GB72:=am gb72;have GG72:=am HG72;clear gb72 gl72 HG72;obtain ⟨ce72,hcl72,hM72,hcc72,hfr72⟩:=Kd.R_elem HO615.out z59 (t617:Int) p72 q72;obtain rfl:=jKc hM72;have hx72_0:w87.cell? ⟨go72,(t617:Int).toNat * 4,none⟩=some (.int .i64 ((jd t613 t617).f0)):=hcc72 0 _ rfl;have hx72_1:w87.cell? ⟨go72,(t617:Int).toNat * 4+1,none⟩=some (.int .i64 ((jd t613 t617).f1)):=hcc72 1 _ rfl;have hx72_2:w87.cell? ⟨go72,(t617:Int).toNat * 4+2,none⟩=some (.int .i64 ((jd t613 t617).f2)):=hcc72 2 _ rfl;have hx72_3:w87.cell? ⟨go72,(t617:Int).toNat * 4+3,none⟩=some (.int .i64 ((jd t613 t617).f3)):=hcc72 3 _ rfl;have hf72_0:w87.frozen? ⟨go72,(t617:Int).toNat * 4,none⟩=false:=hfr72 0;have hf72_1:w87.frozen? ⟨go72,(t617:Int).toNat * 4+1,none⟩=false:=hfr72 1;have hf72_2:w87.frozen? ⟨go72,(t617:Int).toNat * 4+2,none⟩=false:=hfr72 2;have hf72_3:w87.frozen? ⟨go72,(t617:Int).toNat * 4+3,none⟩=false:=hfr72 3;clear hcl72 hcc72 hfr72 hM72;replace p72:=ezT p72;replace q72:=ezT q72;have HX88:=am (show Kd.R k59 59 w87 w.heap.size (fun _=>True) (.slice (some ⟨go72,0,none⟩) t613.length co81) t613 from (rq HO615.out));obtain ⟨ce88,hcl88,hM88,hcc88,hfr88⟩:=Kd.R_elem HX88.out z59 (t617:Int) (ozD (uq)) (by have h_:(t617:Int)<((t613.length:Int):Int):=ozD (uq);first | exact h_ |(have e_:=(Kd.jE HO615.out).1;omega) | simpa using h_);obtain rfl:=jKc hM88;have HP88:=Kd.R_seg HX88.out (t617:Int) (ozD (uq)) (by have h_:(t617:Int)<((t613.length:Int):Int):=ozD (uq);first | exact h_ |(have e_:=(Kd.jE HO615.out).1;omega) | simpa using h_) (seg:=[.int .i64 t636]) (j:=2) hcl88 hcc88 (show 3≤4 from by decide) (x':=(⟨(jd t613 t617).f0,(jd t613 t617).f1,t636,(jd t613 t617).f3⟩:S59)) (jAb _ _ _ (⟨(jd t613 t617).f0,(jd t613 t617).f1,t636,(jd t613 t617).f3⟩:S59) ) (fun _ hk=>hk);have hx88_2:=hcc88 2 _ rfl;(try simp only [show (k59).sz=4 from rfl,Nat.mul_one,Nat.add_zero] at hx88_2);have hf88_2:=hfr88 2;(try simp only [show (k59).sz=4 from rfl,Nat.mul_one,Nat.add_zero] at hf88_2);clear hcl88 hcc88 hfr88 hM88) |((with_reducible refine gate_store (t:=3) (p:=51) rfl ?_);refine store_event (t:=3) (p:=51) (v:=?vo_w89) (w1:=(w87.setCell ⟨go72,(t617:Int).toNat * 4+2,none⟩ (.int .i64 t636))) ?hg ?ho ?hn ?hr ?_;(case ho=>rfl);(case hg=>rfl);(case hn=>rfl);(case hr=>exact Y8);intro w89 hw;have hg:w87.grownBy w89 (some go72):=(by rw [hw];exact HP88.2);have hp_:Kd.R k59 59 w89 w.heap.size (fun _=>True) (.slice (some ⟨go72,0,none⟩) t613.length co81) y638:=(by rw [hw,Ny638.out];exact HP88.1);clear HP88;replace HI0:=am (jc.grown (Y2) hg (jc.own_ne HI0.out HO615.out (by decide)));replace BK604:=am (jVa (g:=gb604) (o:=.cells #[.slice none 0 0] 32 (0,0)) (kq BK604.out) hg (Kd.R_ne HO615.out BK604.out (by decide)));replace HO607:=am (Kd.jlc (v:=(.slice (some ⟨go72,0,none⟩) t613.length co81)) (rq HO607.out) (Kd.jkc HO615.out) (by decide) hg);replace BK609:=am (jVa (g:=gb609) (o:=.cells #[.slice Ao76 t605.length co76] 32 (0,0)) (kq BK609.out) hg (Kd.R_ne HO615.out BK609.out (by decide)));replace HO635:=am (Kd.jlc (v:=(.slice (some ⟨go72,0,none⟩) t613.length co81)) (rq HO635.out) (Kd.jkc HO615.out) (by decide) hg);replace HB:=am ((by rw [hw];exact jT (HB.out) (Nat.le_trans HL.out GB72.out):Below w0.heap.size w0 w89));replace HK:=am (jb.trans (Y10) (jb.jxb hg g) (Kd.jQb HO615.out));replace HO615:=am (hp_);clear hg hw hp_;have hcz90_0:=bc0 BK609.out;have hfz90_0:=ja BK609.out 0;have hnb91:=NB604_0.out;have hnc91:=NB0_604.out;have hcz92_0:=bc0 BK604.out;have hfz92_0:=ja BK604.out 0))
       refine bodyPost_ret (jcc rfl _ _ gb604 32 #[.slice Ao76 t605.length co76] (0,0) _ rfl (Y65) Try.underlying32 rfl (by kernel_rfl)) rfl ?_
       exact ⟨_,_,Y0,by (with_reducible repeat (first | apply Kd.jga | apply Kd.jha | apply Kd.jra));exact Kd.jK (Kd.jHb (p:=⟨gb604,0,none⟩) (Kd.jPa HO607.out BK604.out (by decide)) (fun _ hk=>hk.2) (.slice Ao76 t605.length co76)) (fun _ hk=>trivial),Kd.Q_of_R (by (with_reducible repeat (first | apply Kd.jga | apply Kd.jha | apply Kd.jra));exact Kd.jK (Kd.jHb (p:=⟨gb604,0,none⟩) (Kd.jPa HO615.out BK604.out (by decide)) (fun _ hk=>hk.2) (.slice Ao76 t605.length co76)) (fun _ hk=>trivial)),Y2,Y14,Y10⟩
      ·rw [if_neg c71] at H
       exact absurd H (by simp)
     ·rw [if_neg c70] at H
      exact absurd H (by simp)
    ·rw [if_neg c68] at H
     have c68b0:(t619 == 2)=false:=beq_eq_false_iff_ne.mpr c68
     have c68b1:(t619 != 2)=true:=bne_iff_ne.mpr c68
     by_cases c93:t619=3
     ·rw [if_pos c93] at H
      have c93b0:(t619 == 3)=true:=beq_iff_eq.mpr c93
      have c93b1:(t619 != 3)=false:=bne_eq_false_iff_eq.mpr c93
      clear c93
      by_cases c94:1≤(t613.length:Int)
      ·rw [if_pos c94] at H
       have c94b0:=ezT c94
       have c94b1:decide (1≤(t613.length:Int))=true:=dzT c94
       clear c94
       obtain ⟨y639,hy639⟩:∃ y_:List (S59),y_=(t613.drop (1:Int).toNat):=⟨_,rfl⟩
       replace H:(some (t605,y639,t620))=some (r1,r2,r3):=by first |(rw [hy639];with_reducible exact H) |(have H2_:=(Option.bind_some _ _).symm.trans H;rw [hy639];with_reducible exact H2_) |(have H2_:=(Option.bind_some _ _).symm.trans H;with_reducible exact H2_) | with_reducible exact H |(rw [hy639];exact H) | exact H
       have Ny639:=am hy639
       clear hy639
       simp only [Option.some.injEq,Prod.mk.injEq] at H
       obtain ⟨rfl,rfl,rfl⟩:=H
       go_enter Try.func41,Try.ntmps41
       go_wp2_with (first |((with_reducible refine jS (N:=2) rfl ?_);refine bE (N:=2) (cs:=#[.slice none 0 0]) (t:=32) ?_;intro gb604 hg w95 hbox hb;have BK604:=am (hbox);have GW604:=am ((Y12:w.heap.size≤gb604));have GE604:=am ((Nat.le_trans HW0.out (Y12:w.heap.size≤gb604):w0.heap.size≤gb604));have NB0_604:=am ((Y30:g≠gb604));have NB604_0:=am ((Y31:gb604≠g));replace HK:=am (jb.trans (Y16) (jb.of_below hb g none) (.inl rfl));replace HB:=am (jg (Y17) hb);replace HI0:=am (jc.below (Y15) hb);clear hb hbox hg) |((with_reducible refine je (f:=71) rfl ?_);refine gL (some 8) Try.func71 #[.pointer (some ⟨g,0,none⟩)] ?_;(with_reducible refine (jpa.calls k g s0_0 s0_1 t605 t608 w0 _ ?side1 ?side2 A2.out).mono ?_);(case side1=>exact Y38);(case side2=>exact Y39);rintro e w96 ⟨v606,rfl,ho0,hi,hb,hk⟩;refine ⟨_,rfl,?_⟩;have HO607:=am (Kd.jea ho0 (jN (w:=w) (g:=g) (row:=none) (Y25)));replace BK604:=am (jb.blk hk (g':=gb604) (o:=.cells #[.slice none 0 0] 32 (0,0)) (kq BK604.out) NB604_0.out (by simp));replace HK:=am (jb.trans (Y25) hk (.inl rfl));replace HB:=am (hb);replace HI0:=am (hi);(try clear hb);(try clear hb2);(try clear hk);(try clear hi);(try clear ho0)) |((with_reducible refine jS (N:=4) rfl ?_);refine bE (N:=4) (cs:=#[.slice none 0 0]) (t:=32) ?_;intro gb609 hg w97 hbox hb;have BK609:=am (hbox);have GW609:=am ((Y40:w.heap.size≤gb609));have GE609:=am ((Nat.le_trans HW0.out (Y40:w.heap.size≤gb609):w0.heap.size≤gb609));have NB604_609:=am ((Y59:gb604≠gb609));have NB609_604:=am ((Y60:gb609≠gb604));have NB0_609:=am ((Y61:g≠gb609));have NB609_0:=am ((Y62:gb609≠g));replace HO607:=am (Kd.jva (rq HO607.out) hb);replace BK604:=am (jo (g:=gb604) (o:=.cells #[.slice none 0 0] 32 (0,0)) (kq BK604.out) hb);replace HK:=am (jb.trans (Y25) (jb.of_below hb g none) (.inl rfl));replace HB:=am (jg (Y39) hb);replace HI0:=am (jc.below (Y38) hb);clear hb hbox hg;obtain ⟨Ao98,co98,eo98⟩:=Kd.jsa HO607.out;subst eo98;have hnb99:=NB609_604.out;have hnc99:=NB604_609.out;have hnb100:=NB609_0.out;have hnc100:=NB0_609.out;have hcz101_0:=bc0 BK609.out;have hfz101_0:=ja BK609.out 0) |((with_reducible refine je (f:=72) rfl ?_);refine gL (some 18) Try.func72 #[.pointer (some ⟨g,0,none⟩), .agg #[.slice Ao98 t605.length co98]] ?_;(with_reducible refine (jC.calls k g s0_0 t608 _ _ t605 t613 t616 w0 _ ?side1 ?side2 ?side3 ?side4 A15.out).mono ?_);(case side1=>exact Y2);(case side2=>exact Y14);(case side3=>exact Kd.jNc (jc.apart (show jc w0 _ g s0_0 t608 from Y2) (Y105) (by decide)) (fun _ h_=>h_.2));(case side4=>exact (Kd.jE HO607.out).2.1);rintro e w102 ⟨v614,rfl,ho0,hi,hb,hk⟩;refine ⟨_,rfl,?_⟩;have HO615:=am (Kd.jea ho0 (jN (w:=w) (g:=g) (row:=none) (Y10)));replace BK604:=am (jb.blk hk (g':=gb604) (o:=.cells #[.slice none 0 0] 32 (0,0)) (Y63) NB604_0.out (by simp));replace HO607:=am (Kd.jK (Kd.jFa (jc.apart (show jc w0 _ g s0_0 t608 from Y2) (Y105) (by decide)) hk (fun _ h=>h.2)) (fun _ h=>h.1));replace BK609:=am (jb.blk hk (g':=gb609) (o:=.cells #[.slice Ao98 t605.length co98] 32 (0,0)) (Y64) NB609_0.out (by simp));replace HK:=am (jb.trans (Y10) hk (.inl rfl));replace HB:=am (hb);replace HI0:=am (hi);(try clear hb);(try clear hb2);(try clear hk);(try clear hi);(try clear ho0);obtain ⟨Ao103,co103,eo103⟩:=Kd.jsa HO615.out;subst eo103) |((with_reducible refine je (f:=55) rfl ?_);refine gL (some 22) Try.func55 #[.pointer (some ⟨g,0,none⟩), .int .i64 (t613.length:Int)] ?_;(with_reducible refine (jf.calls k g s0_0 t616 (t613.length:Int) t617 t618 w0 _ ?side1 ?side2 A16.out).mono ?_);(case side1=>exact Y2);(case side2=>exact Y14);rintro e w104 ⟨rfl,hi,hb,hk⟩;refine ⟨_,rfl,?_⟩;replace BK604:=am (jb.blk hk (g':=gb604) (o:=.cells #[.slice none 0 0] 32 (0,0)) (kq BK604.out) NB604_0.out (by simp));replace HO607:=am (Kd.jK (Kd.jFa (jc.apart (show jc w0 _ g s0_0 t616 from Y2) (rq HO607.out) (by decide)) hk (fun _ h=>h.2)) (fun _ h=>h.1));replace BK609:=am (jb.blk hk (g':=gb609) (o:=.cells #[.slice Ao98 t605.length co98] 32 (0,0)) (kq BK609.out) NB609_0.out (by simp));replace HO615:=am (Kd.jK (Kd.jFa (jc.apart (show jc w0 _ g s0_0 t616 from Y2) (rq HO615.out) (by decide)) hk (fun _ h=>h.2)) (fun _ h=>h.1));replace HK:=am (jb.trans (Y10) hk (.inl rfl));replace HB:=am (hb);replace HI0:=am (hi);(try clear hb);(try clear hb2);(try clear hk);(try clear hi)) |((with_reducible refine je (f:=55) rfl ?_);refine gL (some 24) Try.func55 #[.pointer (some ⟨g,0,none⟩), .int .i64 24] ?_;(with_reducible refine (jf.calls k g s0_0 t618 24 t619 t620 w0 _ ?side1 ?side2 A17.out).mono ?_);(case side1=>exact Y2);(case side2=>exact Y14);rintro e w105 ⟨rfl,hi,hb,hk⟩;refine ⟨_,rfl,?_⟩;replace BK604:=am (jb.blk hk (g':=gb604) (o:=.cells #[.slice none 0 0] 32 (0,0)) (kq BK604.out) NB604_0.out (by simp));replace HO607:=am (Kd.jK (Kd.jFa (jc.apart (show jc w0 _ g s0_0 t618 from Y2) (rq HO607.out) (by decide)) hk (fun _ h=>h.2)) (fun _ h=>h.1));replace BK609:=am (jb.blk hk (g':=gb609) (o:=.cells #[.slice Ao98 t605.length co98] 32 (0,0)) (kq BK609.out) NB609_0.out (by simp));replace HO615:=am (Kd.jK (Kd.jFa (jc.apart (show jc w0 _ g s0_0 t618 from Y2) (rq HO615.out) (by decide)) hk (fun _ h=>h.2)) (fun _ h=>h.1));replace HK:=am (jb.trans (Y10) hk (.inl rfl));replace HB:=am (hb);replace HI0:=am (hi);(try clear hb);(try clear hb2);(try clear hk);(try clear hi);have q106:(1:Int)≤((t613.length:Int):Int):=ozD (uq);obtain ⟨i0106,hi0106,_,hsz106,_⟩:=info_parts jBc;have hcut106:=cut_from (P:=Try.prog) 34 59 .i64 Try.underlying34 hi0106 4 hsz106 Ao103 t613.length co103 1 (by omega) q106;have hr106:=Kd.Q_drop (k:=(1:Int).toNat) (Kd.Q_of_R HO615.out) (by omega);obtain ⟨A106,hA106⟩:∃ A1,A1=(if co103=(1:Int).toNat then Ao103 else (Ao103:Option Addr).map (·.add ((1:Int).toNat * 4))):=⟨_,rfl⟩;obtain ⟨c106,hc106⟩:∃ c1,c1=co103 - (1:Int).toNat:=⟨_,rfl⟩;have hy106:y639.length=t613.length - (1:Int).toNat:=(by rw [Ny639.out,List.length_drop]);rw [← Ny639.out] at hr106;rw [← hy106,← hA106,← hc106] at hcut106;replace hr106:Kd.Q k59 59 w105 w.heap.size (fun _=>True) (.slice A106 y639.length c106) y639:=(by rw [hA106,hc106,hy106];exact hr106);have HE106:jl ((Value.slice A106 y639.length c106).ownBlock=(.slice Ao103 t613.length co103:Value).ownBlock):=⟨by rw [hA106];split <;> (cases (Ao103:Option Addr) <;> rfl)⟩;clear hy106 hi0106 hsz106 HO615 hA106 hc106;have HO641:=am hr106;clear hr106;replace q106:=ezT q106;have hcz107_0:=bc0 BK609.out;have hfz107_0:=ja BK609.out 0;have hnb108:=NB604_0.out;have hnc108:=NB0_604.out;have hcz109_0:=bc0 BK604.out;have hfz109_0:=ja BK604.out 0))
       refine bodyPost_ret (jcc rfl _ _ gb604 32 #[.slice Ao98 t605.length co98] (0,0) _ rfl (Y65) Try.underlying32 rfl (by kernel_rfl)) rfl ?_
       exact ⟨_,_,Y0,by (with_reducible repeat (first | apply Kd.jga | apply Kd.jha | apply Kd.jra));exact Kd.jK (Kd.jHb (p:=⟨gb604,0,none⟩) (Kd.jPa HO607.out BK604.out (by decide)) (fun _ hk=>hk.2) (.slice Ao98 t605.length co98)) (fun _ hk=>trivial),by (with_reducible repeat (first | apply Kd.jxc | apply Kd.jvc | apply Kd.Q_drew));exact Kd.Q_mono (Kd.Q_far (p:=⟨gb604,0,none⟩) (Kd.Q_types HO641.out BK604.out (by decide)) (fun _ hk=>hk.2) (.slice Ao98 t605.length co98)) (fun _ hk=>trivial),Y2,Y14,Y10⟩
      ·rw [if_neg c94] at H
       exact absurd H (by simp)
     ·rw [if_neg c93] at H
      have c93b0:(t619 == 3)=false:=beq_eq_false_iff_ne.mpr c93
      have c93b1:(t619 != 3)=true:=bne_iff_ne.mpr c93
      simp only [Option.some.injEq,Prod.mk.injEq] at H
      obtain ⟨rfl,rfl,rfl⟩:=H
      go_enter Try.func41,Try.ntmps41
      go_wp2_with (first |((with_reducible refine jS (N:=2) rfl ?_);refine bE (N:=2) (cs:=#[.slice none 0 0]) (t:=32) ?_;intro gb604 hg w110 hbox hb;have BK604:=am (hbox);have GW604:=am ((Y12:w.heap.size≤gb604));have GE604:=am ((Nat.le_trans HW0.out (Y12:w.heap.size≤gb604):w0.heap.size≤gb604));have NB0_604:=am ((Y30:g≠gb604));have NB604_0:=am ((Y31:gb604≠g));replace HK:=am (jb.trans (Y16) (jb.of_below hb g none) (.inl rfl));replace HB:=am (jg (Y17) hb);replace HI0:=am (jc.below (Y15) hb);clear hb hbox hg) |((with_reducible refine je (f:=71) rfl ?_);refine gL (some 8) Try.func71 #[.pointer (some ⟨g,0,none⟩)] ?_;(with_reducible refine (jpa.calls k g s0_0 s0_1 t605 t608 w0 _ ?side1 ?side2 A2.out).mono ?_);(case side1=>exact Y38);(case side2=>exact Y39);rintro e w111 ⟨v606,rfl,ho0,hi,hb,hk⟩;refine ⟨_,rfl,?_⟩;have HO607:=am (Kd.jea ho0 (jN (w:=w) (g:=g) (row:=none) (Y25)));replace BK604:=am (jb.blk hk (g':=gb604) (o:=.cells #[.slice none 0 0] 32 (0,0)) (kq BK604.out) NB604_0.out (by simp));replace HK:=am (jb.trans (Y25) hk (.inl rfl));replace HB:=am (hb);replace HI0:=am (hi);(try clear hb);(try clear hb2);(try clear hk);(try clear hi);(try clear ho0)) |((with_reducible refine jS (N:=4) rfl ?_);refine bE (N:=4) (cs:=#[.slice none 0 0]) (t:=32) ?_;intro gb609 hg w112 hbox hb;have BK609:=am (hbox);have GW609:=am ((Y40:w.heap.size≤gb609));have GE609:=am ((Nat.le_trans HW0.out (Y40:w.heap.size≤gb609):w0.heap.size≤gb609));have NB604_609:=am ((Y59:gb604≠gb609));have NB609_604:=am ((Y60:gb609≠gb604));have NB0_609:=am ((Y61:g≠gb609));have NB609_0:=am ((Y62:gb609≠g));replace HO607:=am (Kd.jva (rq HO607.out) hb);replace BK604:=am (jo (g:=gb604) (o:=.cells #[.slice none 0 0] 32 (0,0)) (kq BK604.out) hb);replace HK:=am (jb.trans (Y25) (jb.of_below hb g none) (.inl rfl));replace HB:=am (jg (Y39) hb);replace HI0:=am (jc.below (Y38) hb);clear hb hbox hg;obtain ⟨Ao113,co113,eo113⟩:=Kd.jsa HO607.out;subst eo113;have hnb114:=NB609_604.out;have hnc114:=NB604_609.out;have hnb115:=NB609_0.out;have hnc115:=NB0_609.out;have hcz116_0:=bc0 BK609.out;have hfz116_0:=ja BK609.out 0) |((with_reducible refine je (f:=72) rfl ?_);refine gL (some 18) Try.func72 #[.pointer (some ⟨g,0,none⟩), .agg #[.slice Ao113 t605.length co113]] ?_;(with_reducible refine (jC.calls k g s0_0 t608 _ _ t605 t613 t616 w0 _ ?side1 ?side2 ?side3 ?side4 A15.out).mono ?_);(case side1=>exact Y2);(case side2=>exact Y14);(case side3=>exact Kd.jNc (jc.apart (show jc w0 _ g s0_0 t608 from Y2) (Y106) (by decide)) (fun _ h_=>h_.2));(case side4=>exact (Kd.jE HO607.out).2.1);rintro e w117 ⟨v614,rfl,ho0,hi,hb,hk⟩;refine ⟨_,rfl,?_⟩;have HO615:=am (Kd.jea ho0 (jN (w:=w) (g:=g) (row:=none) (Y10)));replace BK604:=am (jb.blk hk (g':=gb604) (o:=.cells #[.slice none 0 0] 32 (0,0)) (Y63) NB604_0.out (by simp));replace HO607:=am (Kd.jK (Kd.jFa (jc.apart (show jc w0 _ g s0_0 t608 from Y2) (Y106) (by decide)) hk (fun _ h=>h.2)) (fun _ h=>h.1));replace BK609:=am (jb.blk hk (g':=gb609) (o:=.cells #[.slice Ao113 t605.length co113] 32 (0,0)) (Y64) NB609_0.out (by simp));replace HK:=am (jb.trans (Y10) hk (.inl rfl));replace HB:=am (hb);replace HI0:=am (hi);(try clear hb);(try clear hb2);(try clear hk);(try clear hi);(try clear ho0);obtain ⟨Ao118,co118,eo118⟩:=Kd.jsa HO615.out;subst eo118) |((with_reducible refine je (f:=55) rfl ?_);refine gL (some 22) Try.func55 #[.pointer (some ⟨g,0,none⟩), .int .i64 (t613.length:Int)] ?_;(with_reducible refine (jf.calls k g s0_0 t616 (t613.length:Int) t617 t618 w0 _ ?side1 ?side2 A16.out).mono ?_);(case side1=>exact Y2);(case side2=>exact Y14);rintro e w119 ⟨rfl,hi,hb,hk⟩;refine ⟨_,rfl,?_⟩;replace BK604:=am (jb.blk hk (g':=gb604) (o:=.cells #[.slice none 0 0] 32 (0,0)) (kq BK604.out) NB604_0.out (by simp));replace HO607:=am (Kd.jK (Kd.jFa (jc.apart (show jc w0 _ g s0_0 t616 from Y2) (rq HO607.out) (by decide)) hk (fun _ h=>h.2)) (fun _ h=>h.1));replace BK609:=am (jb.blk hk (g':=gb609) (o:=.cells #[.slice Ao113 t605.length co113] 32 (0,0)) (kq BK609.out) NB609_0.out (by simp));replace HO615:=am (Kd.jK (Kd.jFa (jc.apart (show jc w0 _ g s0_0 t616 from Y2) (rq HO615.out) (by decide)) hk (fun _ h=>h.2)) (fun _ h=>h.1));replace HK:=am (jb.trans (Y10) hk (.inl rfl));replace HB:=am (hb);replace HI0:=am (hi);(try clear hb);(try clear hb2);(try clear hk);(try clear hi)) |((with_reducible refine je (f:=55) rfl ?_);refine gL (some 24) Try.func55 #[.pointer (some ⟨g,0,none⟩), .int .i64 24] ?_;(with_reducible refine (jf.calls k g s0_0 t618 24 t619 t620 w0 _ ?side1 ?side2 A17.out).mono ?_);(case side1=>exact Y2);(case side2=>exact Y14);rintro e w120 ⟨rfl,hi,hb,hk⟩;refine ⟨_,rfl,?_⟩;replace BK604:=am (jb.blk hk (g':=gb604) (o:=.cells #[.slice none 0 0] 32 (0,0)) (kq BK604.out) NB604_0.out (by simp));replace HO607:=am (Kd.jK (Kd.jFa (jc.apart (show jc w0 _ g s0_0 t618 from Y2) (rq HO607.out) (by decide)) hk (fun _ h=>h.2)) (fun _ h=>h.1));replace BK609:=am (jb.blk hk (g':=gb609) (o:=.cells #[.slice Ao113 t605.length co113] 32 (0,0)) (kq BK609.out) NB609_0.out (by simp));replace HO615:=am (Kd.jK (Kd.jFa (jc.apart (show jc w0 _ g s0_0 t618 from Y2) (rq HO615.out) (by decide)) hk (fun _ h=>h.2)) (fun _ h=>h.1));replace HK:=am (jb.trans (Y10) hk (.inl rfl));replace HB:=am (hb);replace HI0:=am (hi);(try clear hb);(try clear hb2);(try clear hk);(try clear hi);have hcz121_0:=bc0 BK609.out;have hfz121_0:=ja BK609.out 0;have hnb122:=NB604_0.out;have hnc122:=NB0_604.out;have hcz123_0:=bc0 BK604.out;have hfz123_0:=ja BK604.out 0))
      refine bodyPost_ret (jcc rfl _ _ gb604 32 #[.slice Ao113 t605.length co113] (0,0) _ rfl (Y65) Try.underlying32 rfl (by kernel_rfl)) rfl ?_
      exact ⟨_,_,Y0,by (with_reducible repeat (first | apply Kd.jga | apply Kd.jha | apply Kd.jra));exact Kd.jK (Kd.jHb (p:=⟨gb604,0,none⟩) (Kd.jPa HO607.out BK604.out (by decide)) (fun _ hk=>hk.2) (.slice Ao113 t605.length co113)) (fun _ hk=>trivial),Kd.Q_of_R (by (with_reducible repeat (first | apply Kd.jga | apply Kd.jha | apply Kd.jra));exact Kd.jK (Kd.jHb (p:=⟨gb604,0,none⟩) (Kd.jPa HO615.out BK604.out (by decide)) (fun _ hk=>hk.2) (.slice Ao113 t605.length co113)) (fun _ hk=>trivial)),Y2,Y14,Y10⟩
def jCb.f (l0 : List Int) : Option (List Int × Int) := if (l0.length : Int) > 2000 then (if 2000 ≤ (l0.length : Int) then (some (l0.take 2000, 0)) else (none)) else (some (l0, 0))
set_option maxHeartbeats 8000000 in
set_option maxRecDepth 100000 in
theorem jCb.calls (A0 : Option Addr) (c0 : Nat) (l0 : List Int) (r1 : List Int) (r2 : Int) (w0 w : World) (hB : Below w0.heap.size w0 w) (hr0 : Kd.C (Kd.int .u8) w0 A0 l0.length l0) (hc0 : l0.length ≤ c0) (h : jCb.f l0 = some (r1, r2)) :
  Calls Try.prog 42 #[.slice A0 l0.length c0] w fun e w'=>∃ g_:Nat,e=.returned (.pointer (some ⟨g_,0,none⟩))∧jc w0 w' g_ r1 r2∧Below w0.heap.size w0 w'∧Below w.heap.size w w':=by
 have hu106:=Try.underlying106
 have HR0:=am hr0
 have HC0:=am hc0
 clear hr0 hc0
 have HBW:=am (Below.refl w.heap.size w)
 have HW0:=am hB.size
 have HB:=am hB
 clear hB
 have H:(if (l0.length:Int) > 2000 then (if 2000≤(l0.length:Int) then (some (l0.take 2000,0)) else (none)) else (some (l0,0)))=some (r1,r2):=h
 clear h
 by_cases c2:(l0.length:Int) > 2000
 ·rw [if_pos c2] at H
  have c2b0:decide (2000<(l0.length:Int))=true:=dzT c2
  have c2b1:decide (2000<l0.length)=true:=dzT (by omega)
  clear c2
  by_cases c3:2000≤(l0.length:Int)
  ·rw [if_pos c3] at H
   have c3b0:=ezT c3
   have c3b1:decide (2000≤(l0.length:Int))=true:=dzT c3
   clear c3
   simp only [Option.some.injEq,Prod.mk.injEq] at H
   obtain ⟨rfl,rfl⟩:=H
   obtain ⟨i04,hi04,_,hsz4,_⟩:=info_parts info5
   obtain ⟨hcut4,hA4,hC4⟩:=print_take_of (P:=Try.prog) (Value.int .u8) 0 43 5 .i64 Try.underlying43 hi04 hsz4 A0 c0 l0 2000 (by omega) (ozD (uq)) HC0.out
   have HR642:=am (Kd.C_of_reads (h1:=fun _=>rfl) (hA4 _ (Kd.reads_of_C HR0.out)))
   have HC642:=am hC4
   clear hA4 hC4 hi04 hsz4
   go_enter Try.func42,Try.ntmps42
   go_wp2_with (first |((with_reducible refine jS (N:=10) rfl ?_);refine bE (N:=10) (cs:=#[.slice A0 (l0.take 2000).length c0, .int .i64 0]) (t:=106) ?_;intro gb643 hg w5 hbox hb;have BK643:=am (hbox);have GW643:=am ((Y80:w.heap.size≤gb643));have GE643:=am ((Nat.le_trans HW0.out (Y80:w.heap.size≤gb643):w0.heap.size≤gb643));replace HBW:=am (jg HBW.out hb);replace HB:=am (jg (bq) hb);clear hb hbox hg))
   go_ret
   exact ⟨_,rfl,(show jc w0 _ gb643 (l0.take 2000) 0 from ⟨_,_,kq BK643.out,GE643.out,HR642.out⟩),by repeat (first |(with_reducible first | exact HB.out | apply jU | apply jm | apply jR | refine jT ?_ GE643.out) | exact HB.out),by repeat (first |(with_reducible first | exact HBW.out | apply jU | apply jm | apply jR | refine jT ?_ GW643.out) | exact HBW.out)⟩
  ·rw [if_neg c3] at H
   exact absurd H (by simp)
 ·rw [if_neg c2] at H
  have c2b0:decide (2000<(l0.length:Int))=false:=dzF c2
  have c2b1:decide (2000<l0.length)=false:=dzF (by omega)
  clear c2
  simp only [Option.some.injEq,Prod.mk.injEq] at H
  obtain ⟨rfl,rfl⟩:=H
  go_enter Try.func42,Try.ntmps42
  go_wp2_with (first |((with_reducible refine jS (N:=10) rfl ?_);refine bE (N:=10) (cs:=#[.slice A0 l0.length c0, .int .i64 0]) (t:=106) ?_;intro gb644 hg w6 hbox hb;have BK644:=am (hbox);have GW644:=am ((Y80:w.heap.size≤gb644));have GE644:=am ((Nat.le_trans HW0.out (Y80:w.heap.size≤gb644):w0.heap.size≤gb644));replace HBW:=am (jg HBW.out hb);replace HB:=am (jg (bq) hb);clear hb hbox hg))
  go_ret
  exact ⟨_,rfl,(show jc w0 _ gb644 l0 0 from ⟨_,_,kq BK644.out,GE644.out,HR0.out⟩),by repeat (first |(with_reducible first | exact HB.out | apply jU | apply jm | apply jR | refine jT ?_ GE644.out) | exact HB.out),by repeat (first |(with_reducible first | exact HBW.out | apply jU | apply jm | apply jR | refine jT ?_ GW644.out) | exact HBW.out)⟩
def jvb.f (k : Nat) (l0 : List Int) : Option ((List (S98)) × (List (S59))) := (jCb.f l0).bind fun bt646 => ((jRa.f k bt646.1 bt646.2).bind fun bt649 => (some (bt649.1, bt649.2.1)))
set_option maxHeartbeats 8000000 in
set_option maxRecDepth 100000 in
theorem jvb.calls (k : Nat) (A0 : Option Addr) (c0 : Nat) (l0 : List Int) (r1 : List (S98)) (r2 : List (S59)) (w : World) (hr0 : Kd.C (Kd.int .u8) w A0 l0.length l0) (hc0 : l0.length ≤ c0) (h : jvb.f k l0 = some (r1, r2)) :
  Calls Try.prog 20 #[.slice A0 l0.length c0] w fun e w'=>∃ v0_ v1_:Value,e=.returned (.tuple #[.agg #[v0_],v1_])∧Kd.R k98 98 w' w.heap.size (fun _=>True) v0_ r1∧Kd.Q k59 59 w' w.heap.size (fun _=>True) v1_ r2∧Below w.heap.size w w':=by
 have hu32:=Try.underlying32
 have HR0:=am hr0
 have HC0:=am hc0
 clear hr0 hc0
 have HB:=am (Below.refl w.heap.size w)
 have H:((jCb.f l0).bind fun bt646=>((jRa.f k bt646.1 bt646.2).bind fun bt649=>(some (bt649.1,bt649.2.1))))=some (r1,r2):=h
 clear h
 replace H:=bzS H
 obtain ⟨⟨t646,t647⟩,A20,H⟩:=H
 replace H:((jRa.f k t646 t647).bind fun bt649=>(some (bt649.1,bt649.2.1)))=some (r1,r2):=H
 have A2:=am A20
 clear A20
 replace H:=bzS H
 obtain ⟨⟨t649,t652,t655⟩,A30,H⟩:=H
 replace H:(some (t649,t652))=some (r1,r2):=H
 have A3:=am A30
 clear A30
 simp only [Option.some.injEq,Prod.mk.injEq] at H
 obtain ⟨rfl,rfl⟩:=H
 go_enter Try.func20,Try.ntmps20
 go_wp2_with (first |((with_reducible refine jS (N:=2) rfl ?_);refine bE (N:=2) (cs:=#[.slice none 0 0]) (t:=32) ?_;intro gb645 hg w4 hbox hb;have BK645:=am (hbox);have GW645:=am ((Y9:w.heap.size≤gb645));have GE645:=am ((Y9:w.heap.size≤gb645));replace HB:=am (jg (bq) hb);clear hb hbox hg) |((with_reducible refine je (f:=42) rfl ?_);refine gL (some 5) Try.func42 #[.slice A0 l0.length c0] ?_;(with_reducible refine (jCb.calls _ _ l0 t646 t647 w _ ?side1 ?side2 ?side3 A2.out).mono ?_);(case side1=>repeat (first |(with_reducible first | exact HB.out | apply jU | apply jm | apply jR | refine jT ?_ GE645.out) | exact HB.out));(case side2=>exact HR0.out);(case side3=>exact HC0.out);rintro e w5 ⟨g648,rfl,hi,hb,hb2⟩;refine ⟨_,rfl,?_⟩;have HI648:=am (hi);have NB648_645:=am (jc.ne_blk hi (jo (g:=gb645) (o:=.cells #[.slice none 0 0] 32 (0,0)) (kq BK645.out) hb2) (by decide));have NB645_648:=am (Ne.symm (jc.ne_blk hi (jo (g:=gb645) (o:=.cells #[.slice none 0 0] 32 (0,0)) (kq BK645.out) hb2) (by decide)));replace BK645:=am (jo (g:=gb645) (o:=.cells #[.slice none 0 0] 32 (0,0)) (kq BK645.out) hb2);replace HB:=am (hb);(try clear hb);(try clear hb2);(try clear hk);(try clear hi)) |((with_reducible refine je (f:=41) rfl ?_);refine gL (some 6) Try.func41 #[.pointer (some ⟨g648,0,none⟩)] ?_;(with_reducible refine (jRa.calls k g648 t646 t647 t649 t652 t655 w _ ?side1 ?side2 A3.out).mono ?_);(case side1=>repeat (first |(with_reducible first | exact HI648.out | apply jc.alloc | apply jc.drewN | apply jc.drew | apply jc.jjc | refine jc.far ?_ NB648_645.out _) | exact HI648.out));(case side2=>exact Y81);rintro e w6 ⟨v650,v653,rfl,ho0,ho1,hi,hb,hk⟩;refine ⟨_,rfl,?_⟩;have HO651:=am (Kd.jea ho0 (jta (Y81)));have HO654:=am (Kd.Q_lower ho1 (jta (Y81)));replace BK645:=am (jb.blk hk (g':=gb645) (o:=.cells #[.slice none 0 0] 32 (0,0)) (kq BK645.out) NB645_648.out (by simp));replace HB:=am (hb);replace HI648:=am (hi);(try clear hb);(try clear hb2);(try clear hk);(try clear hi);(try clear ho0);(try clear ho1);obtain ⟨Ao7,co7,eo7⟩:=Kd.jsa HO651.out;subst eo7;have hnb8:=NB645_648.out;have hnc8:=NB648_645.out;have hcz9_0:=bc0 BK645.out;have hfz9_0:=ja BK645.out 0))
 refine bodyPost_ret (jcc rfl _ _ gb645 32 #[.slice Ao7 t649.length co7] (0,0) _ rfl (by (with_reducible repeat (first | refine jr ?_ _ | refine jF ?_ | refine jB ?_ _));refine jXa (cs:=#[.slice none 0 0]) ?_ 0 _ rfl;(with_reducible repeat (first | refine jr ?_ _ | refine jF ?_ | refine jB ?_ _));exact BK645.out) Try.underlying32 rfl (by kernel_rfl)) rfl ?_
 exact ⟨_,_,Y0,by (with_reducible repeat (first | apply Kd.jga | apply Kd.jha | apply Kd.jra));exact Kd.jK (Kd.jHb (p:=⟨gb645,0,none⟩) (Kd.jPa HO651.out BK645.out (by decide)) (fun _ hk=>hk.2) (.slice Ao7 t649.length co7)) (fun _ hk=>trivial),by (with_reducible repeat (first | apply Kd.jxc | apply Kd.jvc | apply Kd.Q_drew));exact Kd.Q_mono (Kd.Q_far (p:=⟨gb645,0,none⟩) (Kd.Q_types HO654.out BK645.out (by decide)) (fun _ hk=>hk.2) (.slice Ao7 t649.length co7)) (fun _ hk=>trivial),Y81⟩
theorem eqA48 (d : Nat) (w : World) (x0 y0 : Int) (x1 y1 : Int) (x2 y2 : Int) (x3 y3 : Int) :
  (Op.equalIn (d+2) 48 (.agg #[.int .i64 x0, .int .i64 x1, .int .i64 x2, .int .i64 x3]) (.agg #[.int .i64 y0, .int .i64 y1, .int .i64 y2, .int .i64 y3])).run Try.prog w=.ok (x0 == y0 && (x1 == y1 && (x2 == y2 && (x3 == y3)))) w:=by
 refine eqA_of Try.underlying48 (by kernel_rfl) ?_
 refine eqf_cons (by rfl) (by go_simp;rfl) (by go_simp;rfl) (by go_simp) ?_
 refine eqf_cons (by rfl) (by go_simp;rfl) (by go_simp;rfl) (by go_simp) ?_
 refine eqf_cons (by rfl) (by go_simp;rfl) (by go_simp;rfl) (by go_simp) ?_
 exact eqf_last (by rfl) (by go_simp;rfl) (by go_simp;rfl) (by go_simp)
attribute [local go_sem high] eqA48
def jfa.l0 : Nat → List (S48) → List (S48) → Int → Option (Bool)
 | 0,_,_,_=>none
 | k+1,x0,x1,x5=>if x5<(x0.length:Int) then (if 0≤x5 then (if x5<(x1.length:Int) then (if (!(((jSa x0 x5).f0) == ((jSa x1 x5).f0)) ||(!(((jSa x0 x5).f1) == ((jSa x1 x5).f1)) ||(!(((jSa x0 x5).f2) == ((jSa x1 x5).f2)) ||(!(((jSa x0 x5).f3) == ((jSa x1 x5).f3))))))=true then (some false) else (jfa.l0 k x0 x1 (wrap64 (x5+1)))) else (none)) else (none)) else (some true)
def jfa.f (k : Nat) (l0 : List (S48)) (l1 : List (S48)) : Option (Bool) := if (l0.length : Int) = (l1.length : Int) then (jfa.l0 k l0 l1 0) else (some false)
set_option maxHeartbeats 8000000 in
set_option maxRecDepth 100000 in
theorem jfa.calls (k : Nat) (A0 : Option Addr) (c0 : Nat) (l0 : List (S48)) (A1 : Option Addr) (c1 : Nat) (l1 : List (S48)) (r : Bool) (w : World) (hr0 : Kd.C k48 w A0 l0.length l0) (hc0 : l0.length ≤ c0) (hr1 : Kd.C k48 w A1 l1.length l1) (hc1 : l1.length ≤ c1) (h : jfa.f k l0 l1 = some r) :
  Calls Try.prog 21 #[.slice A0 l0.length c0, .slice A1 l1.length c1] w fun e w'=>e=.returned (.bool r)∧jfb w w':=by
 have hu48:=Try.underlying48
 have HR0:=am hr0
 have HC0:=am hc0
 clear hr0 hc0
 have HR1:=am hr1
 have HC1:=am hc1
 clear hr1 hc1
 have H:(if (l0.length:Int)=(l1.length:Int) then (jfa.l0 k l0 l1 0) else (some false))=some r:=h
 clear h
 by_cases c3:(l0.length:Int)=(l1.length:Int)
 ·rw [if_pos c3] at H
  have c3b0:((l0.length:Int) == (l1.length:Int))=true:=beq_iff_eq.mpr c3
  have c3b1:((l0.length:Int) != (l1.length:Int))=false:=bne_eq_false_iff_eq.mpr c3
  have c3b2:(l0.length == l1.length)=true:=by first | simpa using c3 |(simp at c3 ⊢;omega)
  clear c3
  have H':=am H
  clear H
  go_enter Try.func21,Try.ntmps21
  go_wp2
  repeat (go_quiet (fail);try go_wp2)
  go_loopg [5] k (fun kq v5 w'=>∃ (x5_1:Int),v5=.int .i64 x5_1∧jl (jfa.l0 kq l0 l1 x5_1=some r)∧jl (kq≤k)∧jfb w w')
  case atStart=>exact ⟨(0),(sq),H',⟨Nat.le_refl _⟩,Y5⟩
  case round =>
   clear H'
   try clear c1
   try clear c2
   try clear p2
   try clear c3
   try clear c3b0
   try clear c3b1
   try clear c3b2
   obtain ⟨x5_1,rfl,HA,HK1,⟨m1,rfl⟩⟩:=hrel
   cases gk with
   | zero=>exact absurd HA.out (by simp [jfa.l0])
   | succ k1 =>
    have H:=HA.out
    clear HA
    simp only [jfa.l0] at H
    by_cases c4:x5_1<(l0.length:Int)
    ·rw [if_pos c4] at H
     have c4b0:decide (x5_1<(l0.length:Int))=true:=dzT c4
     clear c4
     by_cases c5:0≤x5_1
     ·rw [if_pos c5] at H
      have c5b0:decide (0≤x5_1)=true:=dzT c5
      clear c5
      by_cases c6:x5_1<(l1.length:Int)
      ·rw [if_pos c6] at H
       have c6b0:decide (x5_1<(l1.length:Int))=true:=dzT c6
       clear c6
       by_cases c7:(!(((jSa l0 x5_1).f0) == ((jSa l1 x5_1).f0)) ||(!(((jSa l0 x5_1).f1) == ((jSa l1 x5_1).f1)) ||(!(((jSa l0 x5_1).f2) == ((jSa l1 x5_1).f2)) ||(!(((jSa l0 x5_1).f3) == ((jSa l1 x5_1).f3))))))=true
       ·rw [if_pos c7] at H
        have c7b0:(!(((jSa l0 x5_1).f0) == ((jSa l1 x5_1).f0)) ||(!(((jSa l0 x5_1).f1) == ((jSa l1 x5_1).f1)) ||(!(((jSa l0 x5_1).f2) == ((jSa l1 x5_1).f2)) ||(!(((jSa l0 x5_1).f3) == ((jSa l1 x5_1).f3))))))=true:=c7
        clear c7
        obtain rfl:=Option.some.inj H
        have p656:0≤(x5_1:Int):=ozD (uq)
        have q656:x5_1<(l0.length:Int):=ozD (uq)
        obtain ⟨ad656,e656,hx656_0,hx656_1,hx656_2,hx656_3⟩:=at_T48 HR0.out x5_1 p656 q656
        cases e656
        replace p656:=ezT p656
        replace q656:=ezT q656
        have p657:0≤(x5_1:Int):=ozD (uq)
        have q657:x5_1<(l1.length:Int):=ozD (uq)
        obtain ⟨ad657,e657,hx657_0,hx657_1,hx657_2,hx657_3⟩:=at_T48 HR1.out x5_1 p657 q657
        cases e657
        replace p657:=ezT p657
        replace q657:=ezT q657
        go_wp2
        repeat (go_quiet (fail);try go_wp2)
        go_ret
        exact ⟨sq,Y5⟩
       ·rw [if_neg c7] at H
        have c7b0:(!(((jSa l0 x5_1).f0) == ((jSa l1 x5_1).f0)) ||(!(((jSa l0 x5_1).f1) == ((jSa l1 x5_1).f1)) ||(!(((jSa l0 x5_1).f2) == ((jSa l1 x5_1).f2)) ||(!(((jSa l0 x5_1).f3) == ((jSa l1 x5_1).f3))))))=false:=by simpa using c7
        clear c7
        have H':=am H
        clear H
        have p656:0≤(x5_1:Int):=ozD (uq)
        have q656:x5_1<(l0.length:Int):=ozD (uq)
        obtain ⟨ad656,e656,hx656_0,hx656_1,hx656_2,hx656_3⟩:=at_T48 HR0.out x5_1 p656 q656
        cases e656
        replace p656:=ezT p656
        replace q656:=ezT q656
        have p657:0≤(x5_1:Int):=ozD (uq)
        have q657:x5_1<(l1.length:Int):=ozD (uq)
        obtain ⟨ad657,e657,hx657_0,hx657_1,hx657_2,hx657_3⟩:=at_T48 HR1.out x5_1 p657 q657
        cases e657
        replace p657:=ezT p657
        replace q657:=ezT q657
        go_wp2
        repeat (go_quiet (fail);try go_wp2)
        go_roundg k1
        case measure=>have:=HK1.out;omega
        case rel=>exact ⟨(wrap64 (x5_1+1)),(sq),H',⟨by have:=HK1.out;omega⟩,Y5⟩
      ·rw [if_neg c6] at H
       exact absurd H (by simp)
     ·rw [if_neg c5] at H
      exact absurd H (by simp)
    ·rw [if_neg c4] at H
     have c4b0:decide (x5_1<(l0.length:Int))=false:=dzF c4
     clear c4
     obtain rfl:=Option.some.inj H
     go_wp2
     repeat (go_quiet (fail);try go_wp2)
     go_ret
     exact ⟨sq,Y5⟩
 ·rw [if_neg c3] at H
  have c3b0:((l0.length:Int) == (l1.length:Int))=false:=beq_eq_false_iff_ne.mpr c3
  have c3b1:((l0.length:Int) != (l1.length:Int))=true:=bne_iff_ne.mpr c3
  have c3b2:(l0.length == l1.length)=false:=by first | simpa using c3 |(simp at c3 ⊢;omega)
  obtain rfl:=Option.some.inj H
  go_enter Try.func21,Try.ntmps21
  go_wp2
  repeat (go_quiet (fail);try go_wp2)
  go_ret
  exact ⟨sq,Y5⟩
theorem impl_classesIn1_calls (l : List S98) (A_ : Option Addr) (c_ : Nat) (x : Int) (b : Bool) (B : Nat) (w : World) (hr : Kd.C k98 w A_ l.length l) (hcc : l.length ≤ c_) (hB : B < w.heap.size) (hc : w.cell? ⟨B, 0, none⟩ = some (.slice A_ l.length c_)) (h : (jwa.f l x).map (!·) = some b) :
  Calls Try.prog 79 #[.int .i64 x, .pointer (some ⟨B,0,none⟩)] w fun e w'=>e=.returned (.bool b)∧Below w.heap.size w w':=by
 obtain ⟨b0,h0,rfl⟩:=Option.map_eq_some_iff.mp h
 have HF:=am (jwa.calls A_ c_ l x b0 w hr hcc h0)
 clear h h0 hr
 have hu32:=Try.underlying32
 go_enter Try.func79,Try.ntmps79
 go_wp2_with (go_at_call 50;refine HF.out.mono ?_;rintro e w' ⟨rfl,hb2⟩)
 go_ret
 exact ⟨rfl,hb2⟩
set_option maxHeartbeats 8000000 in
set_option maxRecDepth 100000 in
theorem impl_classesIn_idx (A_ : Option Addr) (c_ : Nat) (l : List (Int)) (B0_ : Nat) (p : Int → Option Bool) (r : Int) (w : World) (hr : Kd.C (Kd.int .i64) w A_ l.length l) (h : idxFrom p l 0 = some r)
  (hp:∀ W,Below w.heap.size w W→∀ (x:Int) (b:Bool),p x=some b→Calls Try.prog 79 #[.int .i64 x, .pointer (some ⟨B0_,0,none⟩)] W fun e w'=>e=.returned (.bool b)∧Below W.heap.size W w') :
  Calls Try.prog 101 #[.slice A_ l.length c_, .func (.func 79) #[] #[.pointer (some ⟨B0_,0,none⟩)]] w fun e w'=>e=.returned (.int .i64 r)∧Below w.heap.size w w':=by
 have hm:l.length≤9223372036854775807:=Kd.C_max hr
 have HR:=am hr
 have HP:=am hp
 have H0:=am h
 clear hr hp h
 go_enter Try.func101,Try.ntmps101
 go_wp2
 go_loopw [5,8] (fun i5 i8 wr=>∃ k:Nat,k≤l.length∧i8=.int .i64 k∧jl (idxFrom p (l.drop k) k=some r)∧Below w.heap.size w wr) (fun _ i8 _=>l.length - (intOf i8).toNat)
 case atStart=>exact ⟨0,Nat.zero_le _,rfl,H0,Below.refl _ _⟩
 case round =>
  clear H0
  obtain ⟨k,hk,rfl,HA,hb⟩:=hrel
  by_cases hlt:k<l.length
  ·have HB:=am (idxFrom_step hlt HA.out)
   clear HA
   obtain ⟨ad,rfl,hx0⟩:=Kd.jsb HR.out (k:Int) (by omega) (by omega)
   have hrd:rd l (k:Int)=l[k]:=by simp [rd,List.getD_eq_getElem?_getD,hlt]
   replace hx0:=jua hb hx0
   rw [hrd] at hx0
   simp only [Int.toNat_natCast] at hx0
   clear hrd
   obtain ⟨b,hb1,hb0⟩:=HB.out
   have HQ:=am hb1
   clear hb1 HB
   cases b with
   | true =>
    have HZ:=am (by simpa using hb0:(k:Int)=r)
    clear hb0
    go_wp2_with (go_at_call 79;refine (HP.out _ hb _ _ HQ.out).mono ?_;rintro e w' ⟨rfl,hb2⟩)
    go_ret
    exact ⟨by rw [← HZ.out];rfl,jda hb hb.size hb2⟩
   | false =>
    have HZ:=am (by simpa using hb0:idxFrom p (l.drop (k+1)) (k+1)=some r)
    clear hb0
    go_wp2_with (go_at_call 79;refine (HP.out _ hb _ _ HQ.out).mono ?_;rintro e w' ⟨rfl,hb2⟩)
    go_roundw
    case rel=>exact ⟨k+1,hlt,by go_num,HZ,jda hb hb.size hb2⟩
    case measure=>simp [intOf];omega
  ·have HZ:=am (idxFrom_end (by omega) HA.out)
   clear HA
   go_wp2
   go_ret
   exact ⟨by rw [HZ.out];rfl,hb⟩
set_option maxHeartbeats 8000000 in
set_option maxRecDepth 100000 in
theorem impl_classesIn_any (A_ : Option Addr) (c_ : Nat) (l : List Int) (B0_ : Nat) (p : Int → Option Bool) (r : Int) (w : World) (hr : Kd.C (Kd.int .i64) w A_ l.length l) (h : idxFrom p l 0 = some r)
  (hp:∀ W,Below w.heap.size w W→∀ (x:Int) (b:Bool),p x=some b→Calls Try.prog 79 #[.int .i64 x, .pointer (some ⟨B0_,0,none⟩)] W fun e w'=>e=.returned (.bool b)∧Below W.heap.size W w') :
  Calls Try.prog 78 #[.slice A_ l.length c_, .func (.func 79) #[] #[.pointer (some ⟨B0_,0,none⟩)]] w fun e w'=>e=.returned (.bool (decide (0≤r)))∧Below w.heap.size w w':=by
 have HF:=am (impl_classesIn_idx A_ c_ l B0_ p r w hr h hp)
 clear hr h hp
 go_enter Try.func78,Try.ntmps78
 go_wp2_with (go_at_call 101;refine HF.out.mono ?_;rintro e w' ⟨rfl,hb2⟩)
 go_ret
 exact ⟨rfl,hb2⟩
def jNb.f (k : Nat) (l0_0 : List S98) (l1 : List Int) : Option Bool := (jD.f k l0_0).bind fun v => if v then (idxFrom (fun x => (jwa.f l0_0 x).map (!·)) l1 0).bind fun r => some (!decide (0 ≤ r)) else some false
set_option maxHeartbeats 8000000 in
set_option maxRecDepth 100000 in
theorem jNb.calls (k : Nat) (A0_0 : Option Addr) (c0_0 : Nat) (l0_0 : List (S98)) (A1 : Option Addr) (c1 : Nat) (l1 : List Int) (r : Bool) (w : World) (hr0_0 : Kd.C k98 w A0_0 l0_0.length l0_0) (hc0_0 : l0_0.length ≤ c0_0) (hr1 : Kd.C (Kd.int .i64) w A1 l1.length l1) (hc1 : l1.length ≤ c1) (h : jNb.f k l0_0 l1 = some r) :
  Calls Try.prog 48 #[.agg #[.slice A0_0 l0_0.length c0_0], .slice A1 l1.length c1] w fun e w'=>e=.returned (.bool r)∧Below w.heap.size w w':=by
 obtain ⟨v,hv,h⟩:=bzS h
 have hu32:=Try.underlying32
 have HV:=am (fun W (hb:Below w.heap.size w W)=>jD.calls k A0_0 c0_0 l0_0 v W (Kd.jV hr0_0 hb) hc0_0 hv)
 cases v with
 | false =>
  obtain rfl:false=r:=by simpa using h
  clear hv h hr0_0 hr1
  go_enter Try.func48,Try.ntmps48
  go_wp2_with (go_at_call 43;refine (HV.out _ ((Below.refl _ _).alloc (Nat.le_refl _) _)).mono ?_;rintro e w' ⟨rfl,hb2⟩)
  go_ret
  exact ⟨rfl,((Below.refl _ _).alloc (Nat.le_refl _) _).trans (hb2.mono (by simp))⟩
 | true =>
  simp only [if_true] at h
  obtain ⟨q,hq,h⟩:=bzS h
  have HZ:=am (Option.some.inj h)
  have HF:=am (fun W (hb:Below w.heap.size w W) (B:Nat) (hB:B<W.heap.size) (hc:W.cell? ⟨B,0,none⟩=some (.slice A0_0 l0_0.length c0_0))=>impl_classesIn_any A1 c1 l1 B (fun x=>(jwa.f l0_0 x).map (!·)) q W (Kd.jV hr1 hb) hq (fun W' hb' x b hx=>
   impl_classesIn1_calls l0_0 A0_0 c0_0 x b B W' (Kd.jV (Kd.jV hr0_0 hb) hb') hc0_0 (Nat.lt_of_lt_of_le hB hb'.size) (jua hb' hc) hx))
  clear hv h hq hr0_0 hr1
  go_enter Try.func48,Try.ntmps48
  go_wp2_with (first |(go_at_call 43;refine (HV.out _ ((Below.refl _ _).alloc (Nat.le_refl _) _)).mono ?_;rintro e w1 ⟨rfl,hb2⟩;have hb1:=((Below.refl w.heap.size w).alloc (Nat.le_refl _) (.cells #[.slice A0_0 l0_0.length c0_0] 32)).trans (hb2.mono (by simp));have hcell:=jua hb2 (show (w.alloc (.cells #[.slice A0_0 l0_0.length c0_0] 32)).cell? ⟨w.heap.size,0,none⟩=some (.slice A0_0 l0_0.length c0_0) by simp);have hlt:w.heap.size<w1.heap.size:=Nat.lt_of_lt_of_le (by simp) hb2.size) |(go_at_call 78;refine (HF.out _ hb1 _ hlt hcell).mono ?_;rintro e w2 ⟨rfl,hb3⟩))
  go_ret
  exact ⟨by rw [← HZ.out];rfl,jda hb1 hb1.size hb3⟩

def jna.l0 : Nat → List Int → Int → Int → Int → Option (Int)
 | 0,_,_,_,_=>none
 | k+1,x0,x1,x7,x8=>if x8<x7 then (if 0≤x8 then (if x8<(x0.length:Int) then (if x1=(rd x0 x8) then (some x8) else (jna.l0 k x0 x1 x7 (wrap64 (x8+1)))) else (none)) else (none)) else (some (-1))
def jna.f (k : Nat) (l0 : List Int) (a1 : Int) : Option (Int) := jna.l0 k l0 a1 (l0.length : Int) 0
set_option maxHeartbeats 8000000 in
set_option maxRecDepth 100000 in
theorem jna.calls (k : Nat) (A0 : Option Addr) (c0 : Nat) (l0 : List Int) (a1 : Int) (r : Int) (w : World) (hr0 : Kd.C (Kd.int .i64) w A0 l0.length l0) (hc0 : l0.length ≤ c0) (h : jna.f k l0 a1 = some r) :
  Calls Try.prog 102 #[.slice A0 l0.length c0, .int .i64 a1] w fun e w'=>e=.returned (.int .i64 r)∧jfb w w':=by
 have HR0:=am hr0
 have HC0:=am hc0
 clear hr0 hc0
 have H:(jna.l0 k l0 a1 (l0.length:Int) 0)=some r:=h
 clear h
 have H':=am H
 clear H
 go_enter Try.func102,Try.ntmps102
 go_wp2
 go_loopg [8] k (fun kq v8 w'=>∃ (x8_1:Int),v8=.int .i64 x8_1∧jl (jna.l0 kq l0 a1 (l0.length:Int) x8_1=some r)∧jl (kq≤k)∧jfb w w')
 case atStart=>exact ⟨(0),(sq),H',⟨Nat.le_refl _⟩,Y5⟩
 case round =>
  clear H'
  try clear c1
  try clear p2
  obtain ⟨x8_1,rfl,HA,HK1,⟨m1,rfl⟩⟩:=hrel
  cases gk with
  | zero=>exact absurd HA.out (by simp [jna.l0])
  | succ k1 =>
   have H:=HA.out
   clear HA
   simp only [jna.l0] at H
   by_cases c3:x8_1<(l0.length:Int)
   ·rw [if_pos c3] at H
    have c3b0:decide (x8_1<(l0.length:Int))=true:=dzT c3
    clear c3
    by_cases c4:0≤x8_1
    ·rw [if_pos c4] at H
     have c4b0:decide (0≤x8_1)=true:=dzT c4
     clear c4
     by_cases c5:x8_1<(l0.length:Int)
     ·rw [if_pos c5] at H
      have c5b0:decide (x8_1<(l0.length:Int))=true:=dzT c5
      clear c5
      by_cases c6:a1=(rd l0 x8_1)
      ·rw [if_pos c6] at H
       have c6b0:(a1 == (rd l0 x8_1))=true:=beq_iff_eq.mpr c6
       have c6b1:(a1 != (rd l0 x8_1))=false:=bne_eq_false_iff_eq.mpr c6
       clear c6
       obtain rfl:=Option.some.inj H
       have p690:0≤(x8_1:Int):=ozD (uq)
       have q690:x8_1<(l0.length:Int):=ozD (uq)
       obtain ⟨ad690,e690,hx690_0⟩:=Kd.jsb HR0.out x8_1 p690 q690
       cases e690
       replace p690:=ezT p690
       replace q690:=ezT q690
       go_wp2
       go_ret
       exact ⟨sq,Y5⟩
      ·rw [if_neg c6] at H
       have c6b0:(a1 == (rd l0 x8_1))=false:=beq_eq_false_iff_ne.mpr c6
       have c6b1:(a1 != (rd l0 x8_1))=true:=bne_iff_ne.mpr c6
       have H':=am H
       clear H
       have p690:0≤(x8_1:Int):=ozD (uq)
       have q690:x8_1<(l0.length:Int):=ozD (uq)
       obtain ⟨ad690,e690,hx690_0⟩:=Kd.jsb HR0.out x8_1 p690 q690
       cases e690
       replace p690:=ezT p690
       replace q690:=ezT q690
       go_wp2
       go_roundg k1
       case measure=>have:=HK1.out;omega
       case rel=>exact ⟨(wrap64 (x8_1+1)),(sq),H',⟨by have:=HK1.out;omega⟩,Y5⟩
     ·rw [if_neg c5] at H
      exact absurd H (by simp)
    ·rw [if_neg c4] at H
     exact absurd H (by simp)
   ·rw [if_neg c3] at H
    have c3b0:decide (x8_1<(l0.length:Int))=false:=dzF c3
    clear c3
    obtain rfl:=Option.some.inj H
    go_wp2
    go_ret
    exact ⟨sq,Y5⟩
def jKa.f (k : Nat) (l0 : List Int) (a1 : Int) : Option (Bool) := (jna.f k l0 a1).bind fun t691 => (some (decide (t691 ≥ 0)))
set_option maxHeartbeats 8000000 in
set_option maxRecDepth 100000 in
theorem jKa.calls (k : Nat) (A0 : Option Addr) (c0 : Nat) (l0 : List Int) (a1 : Int) (r : Bool) (w : World) (hr0 : Kd.C (Kd.int .i64) w A0 l0.length l0) (hc0 : l0.length ≤ c0) (h : jKa.f k l0 a1 = some r) :
  Calls Try.prog 81 #[.slice A0 l0.length c0, .int .i64 a1] w fun e w'=>e=.returned (.bool r)∧jfb w w':=by
 have HR0:=am hr0
 have HC0:=am hc0
 clear hr0 hc0
 have H:((jna.f k l0 a1).bind fun t691=>(some (decide (t691≥0))))=some r:=h
 clear h
 replace H:=bzS H
 obtain ⟨t691,A30,H⟩:=H
 replace H:(some (decide (t691≥0)))=some r:=H
 have A3:=am A30
 clear A30
 obtain rfl:=Option.some.inj H
 go_enter Try.func81,Try.ntmps81
 go_wp2_with (first |((with_reducible refine je (f:=102) rfl ?_);refine gL (some 7) Try.func102 #[.slice A0 l0.length c0, .int .i64 a1] ?_;(with_reducible refine (jna.calls k _ _ l0 a1 t691 _ ?side1 ?side2 A3.out).mono ?_);(case side1=>exact Y33);(case side2=>exact HC0.out);rintro e w' ⟨rfl,⟨nd,rfl⟩⟩;refine ⟨_,rfl,?_⟩))
 go_ret
 exact ⟨sq,Y5⟩
def jCa.l0 : Nat → Int → List Int → List (S98) → Option (List Int)
 | 0,_,_,_=>none
 | k+1,x1,x5,x693000=>if x1≥0 then (if x5.length<17592186044416 then (if 0≤x1 then (if x1<(x693000.length:Int) then (jCa.l0 k ((jba x693000 x1).f1) (x5 ++ [x1]) x693000) else (none)) else (none)) else (none)) else (some (x5))
def jCa.f (k : Nat) (l0_0 : List (S98)) (a1 : Int) : Option (List Int) := if 0 ≤ (l0_0.length : Int) then (if ((l0_0.length : Int) : Int).toNat ≤ 35184372088832 then (jCa.l0 k a1 (([] : List Int)) l0_0) else (none)) else (none)
set_option maxHeartbeats 8000000 in
set_option maxRecDepth 100000 in
theorem jCa.calls (k : Nat) (A0_0 : Option Addr) (c0_0 : Nat) (l0_0 : List (S98)) (a1 : Int) (r : List Int) (w : World) (hr0_0 : Kd.C k98 w A0_0 l0_0.length l0_0) (hc0_0 : l0_0.length ≤ c0_0) (h : jCa.f k l0_0 a1 = some r) :
  Calls Try.prog 82 #[.agg #[.slice A0_0 l0_0.length c0_0], .int .i64 a1] w fun e w'=>∃ v0_:Value,e=.returned (v0_)∧Kd.R (Kd.int .i64) 3 w' w.heap.size (fun _=>True) v0_ r∧Below w.heap.size w w':=by
 have hu32:=Try.underlying32
 have HR0_0:=am hr0_0
 have HC0_0:=am hc0_0
 clear hr0_0 hc0_0
 have HB:=am (Below.refl w.heap.size w)
 have H:(if 0≤(l0_0.length:Int) then (if ((l0_0.length:Int):Int).toNat≤35184372088832 then (jCa.l0 k a1 (([]:List Int)) l0_0) else (none)) else (none))=some r:=h
 clear h
 by_cases c3:0≤(l0_0.length:Int)
 ·rw [if_pos c3] at H
  have c3b0:=ezT c3
  have c3b1:decide (0≤(l0_0.length:Int))=true:=dzT c3
  clear c3
  by_cases c4:((l0_0.length:Int):Int).toNat≤35184372088832
  ·rw [if_pos c4] at H
   have c4b0:=ezT c4
   have c4b1:decide (((l0_0.length:Int):Int).toNat≤35184372088832)=true:=dzT c4
   clear c4
   obtain ⟨y693,hy693⟩:∃ y_:List Int,y_=(([]:List Int)):=⟨_,rfl⟩
   replace H:(jCa.l0 k a1 y693 l0_0)=some r:=by first |(rw [hy693];with_reducible exact H) |(have H2_:=(Option.bind_some _ _).symm.trans H;rw [hy693];with_reducible exact H2_) |(have H2_:=(Option.bind_some _ _).symm.trans H;with_reducible exact H2_) | with_reducible exact H |(rw [hy693];exact H) | exact H
   have Ny693:=am hy693
   clear hy693
   have H':=am H
   clear H
   go_enter Try.func82,Try.ntmps82
   go_wp2_with (first |((with_reducible refine jS (N:=2) rfl ?_);refine bE (N:=2) (cs:=#[.slice A0_0 l0_0.length c0_0]) (t:=32) ?_;intro gb692 hg w5 hbox hb;have BK692:=am (hbox);have GW692:=am ((Y9:w.heap.size≤gb692));have GE692:=am ((Y9:w.heap.size≤gb692));replace HB:=am (jg (bq) hb);clear hb hbox hg;have hcz6_0:=bc0 BK692.out;have hfz6_0:=ja BK692.out 0) |((with_reducible refine jS (N:=9) rfl ?_);refine Kd.R_mkcap (Kd.int .i64) _ 3 rfl (N:=9) rfl 65 _ _ rfl (l0_0.length:Int) rfl rfl Try.underlying65 (.int .i64 0) 8 info3 rfl (by decide) (by omega) (ok:=fun _=>True) trivial (ozD (uq)) (Nat.le_trans (Nat.mul_le_mul_right _ (ozD (uq):(l0_0.length:Int).toNat≤35184372088832)) (by omega)) (Below.refl _ _) (Nat.le_refl _) ?_;intro v694 w7 ho8 hb hg_ hnew_;clear hg_ hnew_;(first | rw [← Ny693.out] at ho8 |(simp only [Int.reduceToNat] at ho8;rw [← Ny693.out] at ho8));have HO695:=am (Kd.jea ho8 (jta (Y55)));replace BK692:=am (jo (g:=gb692) (o:=.cells #[.slice A0_0 l0_0.length c0_0] 32 (0,0)) (kq BK692.out) hb);replace HB:=am (jg (Y55) hb);clear hb ho8))
   go_loopg [1,5] k (fun kq v1 v5 w'=>∃ (x1_1:Int) (x5_1:List Int),v1=.int .i64 x1_1∧jl (jCa.l0 kq x1_1 x5_1 l0_0=some r)∧jl (kq≤k)∧jl (Kd.R (Kd.int .i64) 3 w' w.heap.size (fun _=>True) v5 x5_1)∧jl (w'.heap[gb692]?=some (.cells #[(.slice A0_0 l0_0.length c0_0)] 32 (0,0)))∧jl (Below w.heap.size w w'))
   case atStart=>exact ⟨(a1),(y693),(sq),H',⟨Nat.le_refl _⟩,⟨rq HO695.out⟩,⟨kq BK692.out⟩,⟨Y55⟩⟩
   case round =>
    clear H'
    try clear p2
    try clear c3
    try clear c3b0
    try clear c3b1
    try clear c4
    try clear c4b0
    try clear c4b1
    try clear c8
    try clear hcz6_0
    try clear hfz6_0
    obtain ⟨x1_1,x5_1,rfl,HA,HK1,HO_5,BK692,HB⟩:=hrel
    cases gk with
    | zero=>exact absurd HA.out (by simp [jCa.l0])
    | succ k1 =>
     have H:=HA.out
     clear HA
     simp only [jCa.l0] at H
     by_cases c9:x1_1≥0
     ·rw [if_pos c9] at H
      have c9b0:decide (0≤x1_1)=true:=dzT c9
      clear c9
      by_cases c10:x5_1.length<17592186044416
      ·rw [if_pos c10] at H
       have LMc10:=am c10
       clear c10
       obtain ⟨y696,hy696⟩:∃ y_:List Int,y_=(x5_1 ++ [x1_1]):=⟨_,rfl⟩
       replace H:(if 0≤x1_1 then (if x1_1<(l0_0.length:Int) then (jCa.l0 k1 ((jba l0_0 x1_1).f1) y696 l0_0) else (none)) else (none))=some r:=by first |(rw [hy696];with_reducible exact H) |(have H2_:=(Option.bind_some _ _).symm.trans H;rw [hy696];with_reducible exact H2_) |(have H2_:=(Option.bind_some _ _).symm.trans H;with_reducible exact H2_) | with_reducible exact H |(rw [hy696];exact H) | exact H
       have Ny696:=am hy696
       clear hy696
       by_cases c11:0≤x1_1
       ·rw [if_pos c11] at H
        have c11b0:decide (0≤x1_1)=true:=dzT c11
        clear c11
        by_cases c12:x1_1<(l0_0.length:Int)
        ·rw [if_pos c12] at H
         have c12b0:decide (x1_1<(l0_0.length:Int))=true:=dzT c12
         clear c12
         have H':=am H
         clear H
         go_wp2_with (first |((with_reducible refine jLa (b:=.append) (xs:=#[.tmp 18, .tmp 20]) rfl ?_);at_builtin;refine Kd.jVb (Kd.int .i64) (w0:=w) w.heap.size rfl (.tmp 18) (.tmp 20) 65 3 (.int .i64 0) 8 rfl Try.underlying65 info3 rfl (by decide) (by omega) u5 x5_1 x1_1 [.int .i64 x1_1] (fun _=>True) (fun _=>False) rfl rfl ?aP (fun _ hk=>hk.elim) ?aF ?aO ?aB ?aS ?aL ?_;(case aP=>exact rfl);(case aB=>exact (Y55));(case aF=>exact (fun _ _=>trivial));(case aO=>exact (rq HO_5.out));(case aS=>exact (jta (Y55)));(case aL=>have:=LMc10.out;omega);intro v697 w13 ho hb hg hat;rw [← Ny696.out] at ho;have n0_:=am (jVa (g:=gb692) (o:=.cells #[.slice A0_0 l0_0.length c0_0] 32 (0,0)) (kq BK692.out) hg (Kd.R_ne HO_5.out BK692.out (by decide)));have n1_:=am (hb);have n2_:=am (ho);clear BK692 HB HO_5;have BK692:=n0_;have HB:=n1_;have HO698:=n2_;clear n0_ n1_ n2_ ho hb hg hat;have hcz14_0:=bc0 BK692.out;have hfz14_0:=ja BK692.out 0;have p699:0≤(x1_1:Int):=ozD (uq);have q699:x1_1<(l0_0.length:Int):=ozD (uq);obtain ⟨ad699,e699,hx699_0,hx699_1⟩:=at_T98 HR0_0.out x1_1 p699 q699;cases e699;replace hx699_0:=cb HB.out hx699_0;replace hx699_1:=cb HB.out hx699_1;replace p699:=ezT p699;replace q699:=ezT q699))
         go_roundg k1
         case measure=>have:=HK1.out;omega
         case rel=>exact ⟨((jba l0_0 x1_1).f1),(y696),(sq),H',⟨by have:=HK1.out;omega⟩,⟨rq HO698.out⟩,⟨kq BK692.out⟩,⟨Y55⟩⟩
        ·rw [if_neg c12] at H
         exact absurd H (by simp)
       ·rw [if_neg c11] at H
        exact absurd H (by simp)
      ·rw [if_neg c10] at H
       exact absurd H (by simp)
     ·rw [if_neg c9] at H
      have c9b0:decide (0≤x1_1)=false:=dzF c9
      clear c9
      obtain ⟨y700,hy700⟩:∃ y_:List Int,y_=(x5_1):=⟨_,rfl⟩
      replace H:(some y700)=some r:=by first |(rw [hy700];with_reducible exact H) |(have H2_:=(Option.bind_some _ _).symm.trans H;rw [hy700];with_reducible exact H2_) |(have H2_:=(Option.bind_some _ _).symm.trans H;with_reducible exact H2_) | with_reducible exact H |(rw [hy700];exact H) | exact H
      have Ny700:=am hy700
      clear hy700
      obtain rfl:=Option.some.inj H
      obtain ⟨Ao15,co15,eo15⟩:=Kd.jsa HO_5.out
      subst eo15
      obtain ⟨i016,hi016,_,hsz16,_⟩:=info_parts info3
      have hy16:y700.length=x5_1.length:=(by rw [Ny700.out])
      have hcut16:=cut_clip (P:=Try.prog) 65 3 Try.underlying65 hi016 Ao15 _ co15 _ (Kd.jE HO_5.out).2.1 hy16
      have hr16:=Kd.R_clip HO_5.out Ny700.out
      clear hy16 hi016 hsz16 HO_5
      have HO702:=am hr16
      clear hr16
      go_wp2
      go_ret
      exact ⟨_,Y0,rq HO702.out,Y55⟩
  ·rw [if_neg c4] at H
   exact absurd H (by simp)
 ·rw [if_neg c3] at H
  exact absurd H (by simp)
def jpb.f (k : Nat) (l0_0 : List (S98)) (a1 : Int) (a2 : Int) : Option (Bool) := (jCa.f k l0_0 a1).bind fun t704 => ((jKa.f k t704 a2).bind fun t707 => (some t707))
set_option maxHeartbeats 8000000 in
set_option maxRecDepth 100000 in
theorem jpb.calls (k : Nat) (A0_0 : Option Addr) (c0_0 : Nat) (l0_0 : List (S98)) (a1 : Int) (a2 : Int) (r : Bool) (w : World) (hr0_0 : Kd.C k98 w A0_0 l0_0.length l0_0) (hc0_0 : l0_0.length ≤ c0_0) (h : jpb.f k l0_0 a1 a2 = some r) :
  Calls Try.prog 51 #[.agg #[.slice A0_0 l0_0.length c0_0], .int .i64 a1, .int .i64 a2] w fun e w'=>e=.returned (.bool r)∧Below w.heap.size w w':=by
 have hu32:=Try.underlying32
 have HR0_0:=am hr0_0
 have HC0_0:=am hc0_0
 clear hr0_0 hc0_0
 have HB:=am (Below.refl w.heap.size w)
 have H:((jCa.f k l0_0 a1).bind fun t704=>((jKa.f k t704 a2).bind fun t707=>(some t707)))=some r:=h
 clear h
 replace H:=bzS H
 obtain ⟨t704,A40,H⟩:=H
 replace H:((jKa.f k t704 a2).bind fun t707=>(some t707))=some r:=H
 have A4:=am A40
 clear A40
 replace H:=bzS H
 obtain ⟨t707,A50,H⟩:=H
 replace H:(some t707)=some r:=H
 have A5:=am A50
 clear A50
 obtain rfl:=Option.some.inj H
 go_enter Try.func51,Try.ntmps51
 go_wp2_with (first |((with_reducible refine jS (N:=3) rfl ?_);refine bE (N:=3) (cs:=#[.slice A0_0 l0_0.length c0_0]) (t:=32) ?_;intro gb703 hg w6 hbox hb;have BK703:=am (hbox);have GW703:=am ((Y9:w.heap.size≤gb703));have GE703:=am ((Y9:w.heap.size≤gb703));replace HB:=am (jg (bq) hb);clear hb hbox hg;have hcz7_0:=bc0 BK703.out;have hfz7_0:=ja BK703.out 0) |((with_reducible refine je (f:=82) rfl ?_);refine gL (some 9) Try.func82 #[.agg #[.slice A0_0 l0_0.length c0_0], .int .i64 a1] ?_;(with_reducible refine (jCa.calls k _ _ l0_0 a1 t704 _ ?side1 ?side2 A4.out).mono ?_);(case side1=>exact cq (Kd.jV HR0_0.out HB.out));(case side2=>exact HC0_0.out);rintro e w8 ⟨v705,rfl,ho0,hb⟩;refine ⟨_,rfl,?_⟩;have HO706:=am (Kd.jea ho0 (jta (Y89)));replace BK703:=am (jo (g:=gb703) (o:=.cells #[.slice A0_0 l0_0.length c0_0] 32 (0,0)) (kq BK703.out) hb);replace HB:=am (jg (Y89) hb);(try clear hb);(try clear hb2);(try clear hk);(try clear hi);(try clear ho0);obtain ⟨Ao9,co9,eo9⟩:=Kd.jsa HO706.out;subst eo9) |((with_reducible refine je (f:=81) rfl ?_);refine gL (some 11) Try.func81 #[.slice Ao9 t704.length co9, .int .i64 a2] ?_;(with_reducible refine (jKa.calls k _ _ t704 a2 t707 _ ?side1 ?side2 A5.out).mono ?_);(case side1=>exact cq (Kd.jE HO706.out).2.2);(case side2=>exact (Kd.jE HO706.out).2.1);rintro e w' ⟨rfl,⟨nd,rfl⟩⟩;refine ⟨_,rfl,?_⟩))
 go_ret
 exact ⟨Y0,Y89⟩
end Go.Proofs.Ytbcjbcjpoddkoaa.P
end
