/- One part of the proofs on this program: functions of the program as plain functions, that the code comes to them, and facts on them. -/
import Derived.Test.YtkedkinojeoeaaaYAll1
import Derived.Test.YtkedkinojeoeaaaYAll2
import Derived.Test.YtkedkinojeoeaaaYWAuto
section
namespace Go.Proofs.Ytkedkinojeoeaaa.P
open Go.RowKit Go.Proofs.YtkedkinojeoeaaaW.PrintWords Go.Proofs.YtkedkinojeoeaaaW.PrintLast Go.Proofs.YtkedkinojeoeaaaW.PrintMore
attribute [local go_sem] jta jra jBa jAa jca jba jsa jqa jl
set_option linter.unusedVariables false
set_option linter.unusedSimpArgs false
set_option maxHeartbeats 8000000 in
set_option maxRecDepth 100000 in
theorem jV.calls_of (k : Nat) (ih101 : ∀ k_, k_ < k → ∀ (g : Nat) (s0_0 : List Int) (s0_1 : Int) (A1_0 : Option Addr) (c1_0 : Nat) (l1_0 : List (S75)) (a2 : Int) (a3 : Bool) (r1 : List (S36)) (r2 : Int) (w0 w : World) (hI : jf w0 w g s0_0 s0_1) (hB : Below w0.heap.size w0 w) (hr1_0 : ∀ W_, jb w W_ g none → Kd.C k75 W_ A1_0 l1_0.length l1_0) (hc1_0 : l1_0.length ≤ c1_0) (h : jB.f k_ s0_0 s0_1 l1_0 a2 a3 = some (r1, r2)), Calls Try.prog 101 #[.pointer (some ⟨g, 0, none⟩), .agg #[.slice A1_0 l1_0.length c1_0], .int .i64 a2, .bool a3] w fun e w' => ∃ v0_ : Value, e = .returned (v0_) ∧ Kd.R k36 36 w' w.heap.size (fun _ => True) v0_ r1 ∧ jf w0 w' g s0_0 r2 ∧ Below w0.heap.size w0 w' ∧ jb w w' g none) (ih92 : ∀ k_, k_ < k → ∀ (g : Nat) (s0_0 : List Int) (s0_1 : Int) (A1_0 : Option Addr) (c1_0 : Nat) (l1_0 : List (S75)) (a2 : Int) (a3 : Bool) (r1 : List (S36)) (r2 : Int) (w0 w : World) (hI : jf w0 w g s0_0 s0_1) (hB : Below w0.heap.size w0 w) (hr1_0 : ∀ W_, jb w W_ g none → Kd.C k75 W_ A1_0 l1_0.length l1_0) (hc1_0 : l1_0.length ≤ c1_0) (h : jO.f k_ s0_0 s0_1 l1_0 a2 a3 = some (r1, r2)), Calls Try.prog 92 #[.pointer (some ⟨g, 0, none⟩), .agg #[.slice A1_0 l1_0.length c1_0], .int .i64 a2, .bool a3] w fun e w' => ∃ v0_ : Value, e = .returned (v0_) ∧ Kd.R k36 36 w' w.heap.size (fun _ => True) v0_ r1 ∧ jf w0 w' g s0_0 r2 ∧ Below w0.heap.size w0 w' ∧ jb w w' g none) (ih91 : ∀ k_, k_ < k → ∀ (g : Nat) (s0_0 : List Int) (s0_1 : Int) (A1_0 : Option Addr) (c1_0 : Nat) (l1_0 : List (S75)) (a2 : Int) (a3 : Bool) (r1 : List (S36)) (r2 : Int) (w0 w : World) (hI : jf w0 w g s0_0 s0_1) (hB : Below w0.heap.size w0 w) (hr1_0 : ∀ W_, jb w W_ g none → Kd.C k75 W_ A1_0 l1_0.length l1_0) (hc1_0 : l1_0.length ≤ c1_0) (h : jV.f k_ s0_0 s0_1 l1_0 a2 a3 = some (r1, r2)), Calls Try.prog 91 #[.pointer (some ⟨g, 0, none⟩), .agg #[.slice A1_0 l1_0.length c1_0], .int .i64 a2, .bool a3] w fun e w' => ∃ v0_ : Value, e = .returned (v0_) ∧ Kd.R k36 36 w' w.heap.size (fun _ => True) v0_ r1 ∧ jf w0 w' g s0_0 r2 ∧ Below w0.heap.size w0 w' ∧ jb w w' g none) : ∀ (g : Nat) (s0_0 : List Int) (s0_1 : Int) (A1_0 : Option Addr) (c1_0 : Nat) (l1_0 : List (S75)) (a2 : Int) (a3 : Bool) (r1 : List (S36)) (r2 : Int) (w0 w : World) (hI : jf w0 w g s0_0 s0_1) (hB : Below w0.heap.size w0 w) (hr1_0 : ∀ W_, jb w W_ g none → Kd.C k75 W_ A1_0 l1_0.length l1_0) (hc1_0 : l1_0.length ≤ c1_0) (h : jV.f k s0_0 s0_1 l1_0 a2 a3 = some (r1, r2)),
  Calls Try.prog 91 #[.pointer (some ⟨g,0,none⟩), .agg #[.slice A1_0 l1_0.length c1_0], .int .i64 a2, .bool a3] w fun e w'=>∃ v0_:Value,e=.returned (v0_)∧Kd.R k36 36 w' w.heap.size (fun _=>True) v0_ r1∧jf w0 w' g s0_0 r2∧Below w0.heap.size w0 w'∧jb w w' g none:=by
 intro g s0_0 s0_1 A1_0 c1_0 l1_0 a2 a3 r1 r2 w0 w hI hB hr1_0 hc1_0 h
 cases k with
 | zero=>exact absurd h (by simp [jV.f])
 | succ k =>
 simp only [jV.f] at h
 have hu25:=Try.underlying25
 have hu36:=Try.underlying36
 have HR1_0:=am hr1_0
 have HC1_0:=am hc1_0
 clear hr1_0 hc1_0
 have HI0:=am hI
 have HK:=am (jb.refl w g none)
 have HL:=am hB.size
 clear hI
 have HW0:=am hB.size
 have HB:=am hB
 clear hB
 have H:((some (([(⟨a2,7,0,0⟩:S36)]:List (S36)):List (S36))).bind fun y252=>((jO.f k s0_0 s0_1 l1_0 (wrap64 (a2+1)) a3).bind fun bt255=>(if y252.length+bt255.1.length<4398046511104 then ((jh.f k s0_0 bt255.2 (([1,2,0,1]:List Int))).bind fun bt265=>(jV.l0 k a2 a3 (y252 ++ bt255.1) bt265.1 bt265.1 s0_0 bt265.2 l1_0)) else (none))))=some (r1,r2):=h
 clear h
 obtain ⟨y252,hy252⟩:∃ y_:List (S36),y_=(([(⟨a2,7,0,0⟩:S36)]:List (S36))):=⟨_,rfl⟩
 replace H:((jO.f k s0_0 s0_1 l1_0 (wrap64 (a2+1)) a3).bind fun bt255=>(if y252.length+bt255.1.length<4398046511104 then ((jh.f k s0_0 bt255.2 (([1,2,0,1]:List Int))).bind fun bt265=>(jV.l0 k a2 a3 (y252 ++ bt255.1) bt265.1 bt265.1 s0_0 bt265.2 l1_0)) else (none)))=some (r1,r2):=by first |(rw [hy252];with_reducible exact H) |(have H2_:=(Option.bind_some _ _).symm.trans H;rw [hy252];with_reducible exact H2_) |(have H2_:=(Option.bind_some _ _).symm.trans H;with_reducible exact H2_) | with_reducible exact H |(rw [hy252];exact H) | exact H
 have Ny252:=am hy252
 clear hy252
 replace H:=bzS H
 obtain ⟨⟨t255,t258⟩,A50,H⟩:=H
 replace H:(if y252.length+t255.length<4398046511104 then ((jh.f k s0_0 t258 (([1,2,0,1]:List Int))).bind fun bt265=>(jV.l0 k a2 a3 (y252 ++ t255) bt265.1 bt265.1 s0_0 bt265.2 l1_0)) else (none))=some (r1,r2):=H
 have A5:=am A50
 clear A50
 by_cases c6:y252.length+t255.length<4398046511104
 ·rw [if_pos c6] at H
  have LMc6:=am c6
  clear c6
  obtain ⟨y259,hy259⟩:∃ y_:List (S36),y_=(y252 ++ t255):=⟨_,rfl⟩
  replace H:((jh.f k s0_0 t258 (([1,2,0,1]:List Int))).bind fun bt265=>(jV.l0 k a2 a3 y259 bt265.1 bt265.1 s0_0 bt265.2 l1_0))=some (r1,r2):=by first |(rw [hy259];with_reducible exact H) |(have H2_:=(Option.bind_some _ _).symm.trans H;rw [hy259];with_reducible exact H2_) |(have H2_:=(Option.bind_some _ _).symm.trans H;with_reducible exact H2_) | with_reducible exact H |(rw [hy259];exact H) | exact H
  have Ny259:=am hy259
  clear hy259
  obtain ⟨y262,hy262⟩:∃ y_:List Int,y_=(([1,2,0,1]:List Int)):=⟨_,rfl⟩
  replace H:((jh.f k s0_0 t258 y262).bind fun bt265=>(jV.l0 k a2 a3 y259 bt265.1 bt265.1 s0_0 bt265.2 l1_0))=some (r1,r2):=by first |(rw [hy262];with_reducible exact H) |(have H2_:=(Option.bind_some _ _).symm.trans H;rw [hy262];with_reducible exact H2_) |(have H2_:=(Option.bind_some _ _).symm.trans H;with_reducible exact H2_) | with_reducible exact H |(rw [hy262];exact H) | exact H
  have Ny262:=am hy262
  clear hy262
  replace H:=bzS H
  obtain ⟨⟨t265,t266⟩,A70,H⟩:=H
  replace H:(jV.l0 k a2 a3 y259 t265 t265 s0_0 t266 l1_0)=some (r1,r2):=H
  have A7:=am A70
  clear A70
  have H':=am H
  clear H
  go_enter Try.func91,Try.ntmps91
  go_wp2_with (first |((with_reducible refine jJ (N:=5) rfl ?_);refine bE (N:=5) (cs:=#[.slice A1_0 l1_0.length c1_0]) (t:=25) ?_;intro gb251 hg w8 hbox hb;have BK251:=am (hbox);have GW251:=am ((Y11:w.heap.size≤gb251));have GE251:=am ((Nat.le_trans HW0.out (Y11:w.heap.size≤gb251):w0.heap.size≤gb251));have NB0_251:=am ((Y21:g≠gb251));have NB251_0:=am ((Y22:gb251≠g));replace HK:=am (jb.trans (Y15) (jb.of_below hb g none) (.inl rfl));replace HB:=am (je (Y16) hb);replace HI0:=am (jf.below (Y14) hb);clear hb hbox hg) |((with_reducible refine jJ (N:=14) rfl ?_);refine Kd.jfc k36 _ 36 ?hg (N:=14) ?hd (xs:=([(⟨a2,7,0,0⟩:S36)]:List (S36))) (inner:=[.int .i64 a2, .int .i64 7, .int .i64 0, .int .i64 0]) (ok:=fun _=>True) (okp:=fun _=>True) ?hr ?hp (fun _ hk=>hk) trivial (Below.refl _ _) (Nat.le_refl _) (by simp) ?_;(case hd=>rfl);(case hg=>rfl);(case hr=>exact Y5);(case hp=>exact (Reps.c4 (show Kd.M k36 _ _ _ (⟨a2,7,0,0⟩:S36) [.int .i64 a2, .int .i64 7, .int .i64 0, .int .i64 0] from (jNb _ _ _ (⟨a2,7,0,0⟩:S36) )) (Reps.none _ _)));intro v253 w9 ho10 hb hg_ hnew_;clear hg_ hnew_;(first | rw [← Ny252.out] at ho10 |(simp only [Int.reduceToNat] at ho10;rw [← Ny252.out] at ho10));have HO254:=am (Kd.jaa ho10 (jN (w:=w) (g:=g) (row:=none) (Y6)));replace BK251:=am (jk (g:=gb251) (o:=.cells #[.slice A1_0 l1_0.length c1_0] 25 (0,0)) (kq BK251.out) hb);replace HK:=am (jb.trans (Y6) (jb.of_below hb g none) (.inl rfl));replace HB:=am (je (Y12) hb);replace HI0:=am (jf.below (Y9) hb);clear hb ho10;have hnb11:=NB251_0.out;have hnc11:=NB0_251.out;have hcz12_0:=bc0 BK251.out;have hfz12_0:=ja BK251.out 0) |((with_reducible refine jd (f:=92) rfl ?_);refine gL (some 20) Try.func92 #[.pointer (some ⟨g,0,none⟩), .agg #[.slice A1_0 l1_0.length c1_0], .int .i64 (wrap64 (a2+1)), .bool a3] ?_;(with_reducible refine (ih92 k (by omega) g s0_0 s0_1 _ _ l1_0 (wrap64 (a2+1)) a3 t255 t258 w0 _ ?side1 ?side2 ?side3 ?side4 A5.out).mono ?_);(case side1=>exact Y9);(case side2=>exact Y12);(case side3=>exact Kd.jvb HR1_0.out (Y6));(case side4=>exact HC1_0.out);rintro e w13 ⟨v256,rfl,ho0,hi,hb,hk⟩;refine ⟨_,rfl,?_⟩;have HO257:=am (Kd.jaa (Kd.jFc ho0 (Kd.R_lt (rq HO254.out))) (jN (w:=w) (g:=g) (row:=none) (Y6)));replace BK251:=am (jb.blk hk (g':=gb251) (o:=.cells #[.slice A1_0 l1_0.length c1_0] 25 (0,0)) (kq BK251.out) NB251_0.out (by simp));replace HO254:=am (Kd.jI (Kd.R_told (Kd.R_oldK (jf.apart (show jf w0 _ g s0_0 s0_1 from Y9) (rq HO254.out) (by decide)) hk) (Kd.jGc ho0)) (fun _ h_=>h_.1));replace HK:=am (jb.trans (Y6) hk (.inl rfl));replace HB:=am (hb);replace HI0:=am (hi);(try clear hb);(try clear hb2);(try clear hk);(try clear hi);(try clear ho0);obtain ⟨Ao15,co15,eo15⟩:=Kd.jka HO257.out;subst eo15) |((with_reducible refine jMa (b:=.append) (xs:=#[.tmp 14, .tmp 20]) rfl ?_);at_builtin;refine Kd.jYb k36 w.heap.size rfl (.tmp 14) (.tmp 20) 26 36 (.agg #[(.int .i64 0),(.int .i64 0),(.int .i64 0),(.int .i64 0)]) 32 rfl Try.underlying26 jLc rfl (by decide) (by omega) v253 y252 t255 _ _ _ (fun k_=>some k_≠(.slice Ao15 t255.length co15:Value).ownBlock) (fun _=>False) rfl rfl ?aO ?aR (fun _ _ h=>h) (fun _ h=>h.elim) ?aF (Below.refl _ _) ?aS ?aL ?_;(case aR=>repeat (first | exact (Kd.jy HO257.out).2.2 |(with_reducible refine Kd.jIc ?_ _) |(with_reducible refine Kd.jxc ?_ _) |(with_reducible refine Kd.C_drew ?_)));(case aF=>exact (fun k_ hk=>Kd.fresh' (Kd.R_lt (rq HO257.out)) k_ hk));(case aO=>exact (by (with_reducible repeat (first | apply Kd.jga | apply Kd.jfa | apply Kd.jea));exact Kd.jI HO254.out (fun _ hk=>hk.2)));(case aS=>exact (jN (w:=w) (g:=g) (row:=none) (Y6)));(case aL=>have:=LMc6.out;omega);intro v260 w14 ho hb hg hat;rw [← Ny259.out] at ho;have n0_:=am (jf.grown (Y9) hg (jf.own_ne HI0.out HO254.out (by decide)));have n1_:=am (jXa (g:=gb251) (o:=.cells #[.slice A1_0 l1_0.length c1_0] 25 (0,0)) (kq BK251.out) hg (Kd.R_ne HO254.out BK251.out (by decide)));have n2_:=am (Kd.jYc (ok:=(fun _=>True)) (rq HO257.out) hg hat);have n3_:=am (job (Y12) HL.out hb);have n4_:=am (jb.trans (Y6) (jb.jHb hg g) (Kd.jgc HO254.out));have n5_:=am (ho);clear HI0 BK251 HO257 HB HK HO254;have HI0:=n0_;have BK251:=n1_;have HO257:=n2_;have HB:=n3_;have HK:=n4_;have HO261:=n5_;clear n0_ n1_ n2_ n3_ n4_ n5_ ho hb hg hat) |((with_reducible refine jJ (N:=23) rfl ?_);refine Kd.jfc (Kd.int .i64) _ 3 ?hg (N:=23) ?hd (xs:=([1,2,0,1]:List Int)) (inner:=[.int .i64 1, .int .i64 2, .int .i64 0, .int .i64 1]) (ok:=fun _=>True) (okp:=fun _=>True) ?hr ?hp (fun _ hk=>hk) trivial (Below.refl _ _) (Nat.le_refl _) (by simp) ?_;(case hd=>rfl);(case hg=>rfl);(case hr=>exact Y5);(case hp=>exact (Reps.one (show Kd.M (Kd.int .i64) _ _ _ 1 [.int .i64 1] from rfl) (Reps.one (show Kd.M (Kd.int .i64) _ _ _ 2 [.int .i64 2] from rfl) (Reps.one (show Kd.M (Kd.int .i64) _ _ _ 0 [.int .i64 0] from rfl) (Reps.one (show Kd.M (Kd.int .i64) _ _ _ 1 [.int .i64 1] from rfl) (Reps.none _ _))))));intro v263 w16 ho17 hb hg_ hnew_;clear hg_ hnew_;(first | rw [← Ny262.out] at ho17 |(simp only [Int.reduceToNat] at ho17;rw [← Ny262.out] at ho17));have HO264:=am (Kd.jaa ho17 (jN (w:=w) (g:=g) (row:=none) (Y6)));replace HO257:=am (Kd.jZ (rq HO257.out) hb);replace HO261:=am (Kd.jZ (rq HO261.out) hb);replace BK251:=am (jk (g:=gb251) (o:=.cells #[.slice A1_0 l1_0.length c1_0] 25 (0,0)) (kq BK251.out) hb);replace HK:=am (jb.trans (Y6) (jb.of_below hb g none) (.inl rfl));replace HB:=am (je (Y12) hb);replace HI0:=am (jf.below (Y9) hb);clear hb ho17;obtain ⟨Ao18,co18,eo18⟩:=Kd.jka HO264.out;subst eo18) |((with_reducible refine jd (f:=58) rfl ?_);refine gL (some 24) Try.func58 #[.pointer (some ⟨g,0,none⟩), .slice Ao18 y262.length co18] ?_;(with_reducible refine (jh.calls k g s0_0 t258 _ _ y262 t265 t266 w0 _ ?side1 ?side2 ?side3 ?side4 ?side5 A7.out).mono ?_);(case side1=>exact Y9);(case side2=>exact Y12);(case side3=>exact cq (Kd.jy HO264.out).2.2);(case side4=>exact (Kd.jy HO264.out).2.1);(case side5=>exact jzb (jf.own_ne HI0.out HO264.out (by decide)));rintro e w19 ⟨rfl,hi,hb,hk⟩;refine ⟨_,rfl,?_⟩;replace BK251:=am (jb.blk hk (g':=gb251) (o:=.cells #[.slice A1_0 l1_0.length c1_0] 25 (0,0)) (kq BK251.out) NB251_0.out (by simp));replace HO257:=am (Kd.jI (Kd.jxa (jf.apart (show jf w0 _ g s0_0 t258 from Y9) (rq HO257.out) (by decide)) hk (fun _ h=>h.2)) (fun _ h=>h.1));replace HO261:=am (Kd.jI (Kd.jxa (jf.apart (show jf w0 _ g s0_0 t258 from Y9) (rq HO261.out) (by decide)) hk (fun _ h=>h.2)) (fun _ h=>h.1));replace HO264:=am (Kd.jI (Kd.jxa (jf.apart (show jf w0 _ g s0_0 t258 from Y9) (rq HO264.out) (by decide)) hk (fun _ h=>h.2)) (fun _ h=>h.1));replace HK:=am (jb.trans (Y6) hk (.inl rfl));replace HB:=am (hb);replace HI0:=am (hi);(try clear hb);(try clear hb2);(try clear hk);(try clear hi)))
  go_loopg [9,11] k (fun kq v9 v11 w'=>∃ (x9_1:List (S36)) (x11_1:Int) (x1001_1:Int),v11=.int .i64 x11_1∧jq (jV.l0 kq a2 a3 x9_1 t265 x11_1 s0_0 x1001_1 l1_0=some (r1,r2))∧jq (kq≤k)∧jq (Kd.R k36 36 w' w.heap.size (fun _=>True) v9 x9_1)∧jq (w'.heap[gb251]?=some (.cells #[(.slice A1_0 l1_0.length c1_0)] 25 (0,0)))∧jq (jf w0 w' g s0_0 x1001_1)∧jq (jb w w' g none)∧jq (Below w0.heap.size w0 w'))
  case atStart=>exact ⟨(y259),(t265),(t266),(sq),H',⟨Nat.le_refl _⟩,⟨by (with_reducible repeat (first | apply Kd.jga | apply Kd.jfa | apply Kd.jea));exact Kd.jI HO261.out (fun _ hk=>trivial)⟩,⟨kq BK251.out⟩,⟨Y9⟩,⟨Y6⟩,⟨Y12⟩⟩
  case round =>
   clear H'
   try clear c1
   try clear p2
   try clear c4
   try clear c5
   try clear c6
   try clear p6
   try clear c9
   try clear c11
   try clear hcz12_0
   try clear hfz12_0
   obtain ⟨x9_1,x11_1,x1001_1,rfl,HA,HK1,HO_9,BK251,HI0,HK,HB⟩:=hrel
   cases gk with
   | zero=>exact absurd HA.out (by simp [jV.l0])
   | succ k1 =>
    have H:=HA.out
    clear HA
    simp only [jV.l0] at H
    by_cases c20:x11_1 > 0
    ·rw [if_pos c20] at H
     have c20b0:decide (0<x11_1)=true:=dzT c20
     clear c20
     replace H:=bzS H
     obtain ⟨⟨t267,t268⟩,A210,H⟩:=H
     replace H:((jh.f k1 s0_0 t268 (([t267,0]:List Int))).bind fun bt272=>(if x9_1.length<4398046511104 then ((some (x9_1 ++ [(⟨a2,8,bt272.1,0⟩:S36)]:List (S36))).bind fun y274=>((jO.f k1 s0_0 bt272.2 l1_0 (wrap64 (a2+1)) a3).bind fun bt277=>(if y274.length+bt277.1.length<4398046511104 then (jV.l0 k1 a2 a3 (y274 ++ bt277.1) t265 (wrap64 (x11_1 - 1)) s0_0 bt277.2 l1_0) else (none)))) else (none)))=some (r1,r2):=H
     have A21:=am A210
     clear A210
     obtain ⟨y269,hy269⟩:∃ y_:List Int,y_=(([t267,0]:List Int)):=⟨_,rfl⟩
     replace H:((jh.f k1 s0_0 t268 y269).bind fun bt272=>(if x9_1.length<4398046511104 then ((some (x9_1 ++ [(⟨a2,8,bt272.1,0⟩:S36)]:List (S36))).bind fun y274=>((jO.f k1 s0_0 bt272.2 l1_0 (wrap64 (a2+1)) a3).bind fun bt277=>(if y274.length+bt277.1.length<4398046511104 then (jV.l0 k1 a2 a3 (y274 ++ bt277.1) t265 (wrap64 (x11_1 - 1)) s0_0 bt277.2 l1_0) else (none)))) else (none)))=some (r1,r2):=by first |(rw [hy269];with_reducible exact H) |(have H2_:=(Option.bind_some _ _).symm.trans H;rw [hy269];with_reducible exact H2_) |(have H2_:=(Option.bind_some _ _).symm.trans H;with_reducible exact H2_) | with_reducible exact H |(rw [hy269];exact H) | exact H
     have Ny269:=am hy269
     clear hy269
     replace H:=bzS H
     obtain ⟨⟨t272,t273⟩,A220,H⟩:=H
     replace H:(if x9_1.length<4398046511104 then ((some (x9_1 ++ [(⟨a2,8,t272,0⟩:S36)]:List (S36))).bind fun y274=>((jO.f k1 s0_0 t273 l1_0 (wrap64 (a2+1)) a3).bind fun bt277=>(if y274.length+bt277.1.length<4398046511104 then (jV.l0 k1 a2 a3 (y274 ++ bt277.1) t265 (wrap64 (x11_1 - 1)) s0_0 bt277.2 l1_0) else (none)))) else (none))=some (r1,r2):=H
     have A22:=am A220
     clear A220
     by_cases c23:x9_1.length<4398046511104
     ·rw [if_pos c23] at H
      have LMc23:=am c23
      clear c23
      obtain ⟨y274,hy274⟩:∃ y_:List (S36),y_=(x9_1 ++ [(⟨a2,8,t272,0⟩:S36)]):=⟨_,rfl⟩
      replace H:((jO.f k1 s0_0 t273 l1_0 (wrap64 (a2+1)) a3).bind fun bt277=>(if y274.length+bt277.1.length<4398046511104 then (jV.l0 k1 a2 a3 (y274 ++ bt277.1) t265 (wrap64 (x11_1 - 1)) s0_0 bt277.2 l1_0) else (none)))=some (r1,r2):=by first |(rw [hy274];with_reducible exact H) |(have H2_:=(Option.bind_some _ _).symm.trans H;rw [hy274];with_reducible exact H2_) |(have H2_:=(Option.bind_some _ _).symm.trans H;with_reducible exact H2_) | with_reducible exact H |(rw [hy274];exact H) | exact H
      have Ny274:=am hy274
      clear hy274
      replace H:=bzS H
      obtain ⟨⟨t277,t280⟩,A240,H⟩:=H
      replace H:(if y274.length+t277.length<4398046511104 then (jV.l0 k1 a2 a3 (y274 ++ t277) t265 (wrap64 (x11_1 - 1)) s0_0 t280 l1_0) else (none))=some (r1,r2):=H
      have A24:=am A240
      clear A240
      by_cases c25:y274.length+t277.length<4398046511104
      ·rw [if_pos c25] at H
       have LMc25:=am c25
       clear c25
       obtain ⟨y281,hy281⟩:∃ y_:List (S36),y_=(y274 ++ t277):=⟨_,rfl⟩
       replace H:(jV.l0 k1 a2 a3 y281 t265 (wrap64 (x11_1 - 1)) s0_0 t280 l1_0)=some (r1,r2):=by first |(rw [hy281];with_reducible exact H) |(have H2_:=(Option.bind_some _ _).symm.trans H;rw [hy281];with_reducible exact H2_) |(have H2_:=(Option.bind_some _ _).symm.trans H;with_reducible exact H2_) | with_reducible exact H |(rw [hy281];exact H) | exact H
       have Ny281:=am hy281
       clear hy281
       have H':=am H
       clear H
       have hnb26:=NB251_0.out
       have hnc26:=NB0_251.out
       have hcz27_0:=bc0 BK251.out
       have hfz27_0:=ja BK251.out 0
       go_wp2_with (first |((with_reducible refine jd (f:=42) rfl ?_);refine gL (some 37) Try.func42 #[.pointer (some ⟨g,0,none⟩), .int .i64 (l1_0.length:Int)] ?_;(with_reducible refine (jg.calls k1 g s0_0 x1001_1 (l1_0.length:Int) t267 t268 w0 _ ?side1 ?side2 A21.out).mono ?_);(case side1=>exact Y9);(case side2=>exact Y12);rintro e w28 ⟨rfl,hi,hb,hk⟩;refine ⟨_,rfl,?_⟩;replace HO_9:=am (Kd.jI (Kd.jxa (jf.apart (show jf w0 _ g s0_0 x1001_1 from Y9) (rq HO_9.out) (by decide)) hk (fun _ h=>h.2)) (fun _ h=>h.1));replace BK251:=am (jb.blk hk (g':=gb251) (o:=.cells #[.slice A1_0 l1_0.length c1_0] 25 (0,0)) (kq BK251.out) NB251_0.out (by simp));replace HK:=am (jb.trans (Y6) hk (.inl rfl));replace HB:=am (hb);replace HI0:=am (hi);(try clear hb);(try clear hb2);(try clear hk);(try clear hi)) |((with_reducible refine jJ (N:=38) rfl ?_);refine Kd.jfc (Kd.int .i64) _ 3 ?hg (N:=38) ?hd (xs:=([t267,0]:List Int)) (inner:=[.int .i64 t267, .int .i64 0]) (ok:=fun _=>True) (okp:=fun _=>True) ?hr ?hp (fun _ hk=>hk) trivial (Below.refl _ _) (Nat.le_refl _) (by simp) ?_;(case hd=>rfl);(case hg=>rfl);(case hr=>exact Y5);(case hp=>exact (Reps.one (show Kd.M (Kd.int .i64) _ _ _ t267 [.int .i64 t267] from rfl) (Reps.one (show Kd.M (Kd.int .i64) _ _ _ 0 [.int .i64 0] from rfl) (Reps.none _ _))));intro v270 w29 ho30 hb hg_ hnew_;clear hg_ hnew_;(first | rw [← Ny269.out] at ho30 |(simp only [Int.reduceToNat] at ho30;rw [← Ny269.out] at ho30));have HO271:=am (Kd.jaa ho30 (jN (w:=w) (g:=g) (row:=none) (Y6)));replace HO_9:=am (Kd.jZ (rq HO_9.out) hb);replace BK251:=am (jk (g:=gb251) (o:=.cells #[.slice A1_0 l1_0.length c1_0] 25 (0,0)) (kq BK251.out) hb);replace HK:=am (jb.trans (Y6) (jb.of_below hb g none) (.inl rfl));replace HB:=am (je (Y12) hb);replace HI0:=am (jf.below (Y9) hb);clear hb ho30;obtain ⟨Ao31,co31,eo31⟩:=Kd.jka HO271.out;subst eo31) |((with_reducible refine jd (f:=58) rfl ?_);refine gL (some 39) Try.func58 #[.pointer (some ⟨g,0,none⟩), .slice Ao31 y269.length co31] ?_;(with_reducible refine (jh.calls k1 g s0_0 t268 _ _ y269 t272 t273 w0 _ ?side1 ?side2 ?side3 ?side4 ?side5 A22.out).mono ?_);(case side1=>exact Y9);(case side2=>exact Y12);(case side3=>exact cq (Kd.jy HO271.out).2.2);(case side4=>exact (Kd.jy HO271.out).2.1);(case side5=>exact jzb (jf.own_ne HI0.out HO271.out (by decide)));rintro e w32 ⟨rfl,hi,hb,hk⟩;refine ⟨_,rfl,?_⟩;replace HO_9:=am (Kd.jI (Kd.jxa (jf.apart (show jf w0 _ g s0_0 t268 from Y9) (rq HO_9.out) (by decide)) hk (fun _ h=>h.2)) (fun _ h=>h.1));replace BK251:=am (jb.blk hk (g':=gb251) (o:=.cells #[.slice A1_0 l1_0.length c1_0] 25 (0,0)) (kq BK251.out) NB251_0.out (by simp));replace HO271:=am (Kd.jI (Kd.jxa (jf.apart (show jf w0 _ g s0_0 t268 from Y9) (rq HO271.out) (by decide)) hk (fun _ h=>h.2)) (fun _ h=>h.1));replace HK:=am (jb.trans (Y6) hk (.inl rfl));replace HB:=am (hb);replace HI0:=am (hi);(try clear hb);(try clear hb2);(try clear hk);(try clear hi)) |((with_reducible refine jMa (b:=.append) (xs:=#[.tmp 30, .tmp 41]) rfl ?_);at_builtin;refine Kd.jcc k36 w.heap.size rfl (.tmp 30) (.tmp 41) 26 36 (.agg #[(.int .i64 0),(.int .i64 0),(.int .i64 0),(.int .i64 0)]) 32 rfl Try.underlying26 jLc rfl (by decide) (by omega) u9 x9_1 (⟨a2,8,t272,0⟩:S36) [.int .i64 a2, .int .i64 8, .int .i64 t272, .int .i64 0] (fun _=>True) (fun _=>False) rfl rfl ?aP (fun _ hk=>hk.elim) ?aF ?aO (Below.refl _ _) ?aS ?aL ?_;(case aP=>exact jNb _ _ _ (⟨a2,8,t272,0⟩:S36));(case aF=>exact (fun _ _=>trivial));(case aO=>exact (rq HO_9.out));(case aS=>exact (jN (w:=w) (g:=g) (row:=none) (Y6)));(case aL=>have:=LMc23.out;omega);intro v275 w33 ho hb hg hat;rw [← Ny274.out] at ho;have n0_:=am (jXa (g:=gb251) (o:=.cells #[.slice A1_0 l1_0.length c1_0] 25 (0,0)) (kq BK251.out) hg (Kd.R_ne HO_9.out BK251.out (by decide)));have n1_:=am (jf.grown (Y9) hg (jf.own_ne HI0.out HO_9.out (by decide)));have n2_:=am (Kd.jDc (rq HO271.out) (Kd.jCc (rq HO_9.out)) (by decide) hg);have n3_:=am (job (Y12) HL.out hb);have n4_:=am (jb.trans (Y6) (jb.jHb hg g) (Kd.jgc HO_9.out));have n5_:=am (ho);clear BK251 HI0 HO271 HB HK HO_9;have BK251:=n0_;have HI0:=n1_;have HO271:=n2_;have HB:=n3_;have HK:=n4_;have HO276:=n5_;clear n0_ n1_ n2_ n3_ n4_ n5_ ho hb hg hat;have hcz34_0:=bc0 BK251.out;have hfz34_0:=ja BK251.out 0) |((with_reducible refine jd (f:=92) rfl ?_);refine gL (some 49) Try.func92 #[.pointer (some ⟨g,0,none⟩), .agg #[.slice A1_0 l1_0.length c1_0], .int .i64 (wrap64 (a2+1)), .bool a3] ?_;(with_reducible refine (ih92 k1 (by have:=HK1.out;omega) g s0_0 t273 _ _ l1_0 (wrap64 (a2+1)) a3 t277 t280 w0 _ ?side1 ?side2 ?side3 ?side4 A24.out).mono ?_);(case side1=>exact Y9);(case side2=>exact Y12);(case side3=>exact Kd.jvb HR1_0.out (Y6));(case side4=>exact HC1_0.out);rintro e w35 ⟨v278,rfl,ho0,hi,hb,hk⟩;refine ⟨_,rfl,?_⟩;have HO279:=am (Kd.jaa (Kd.jFc ho0 (Kd.R_lt (rq HO276.out))) (jN (w:=w) (g:=g) (row:=none) (Y6)));replace BK251:=am (jb.blk hk (g':=gb251) (o:=.cells #[.slice A1_0 l1_0.length c1_0] 25 (0,0)) (kq BK251.out) NB251_0.out (by simp));replace HO271:=am (Kd.jI (Kd.jxa (jf.apart (show jf w0 _ g s0_0 t273 from Y9) (rq HO271.out) (by decide)) hk (fun _ h=>h.2)) (fun _ h=>h.1));replace HO276:=am (Kd.jI (Kd.R_told (Kd.R_oldK (jf.apart (show jf w0 _ g s0_0 t273 from Y9) (rq HO276.out) (by decide)) hk) (Kd.jGc ho0)) (fun _ h_=>h_.1));replace HK:=am (jb.trans (Y6) hk (.inl rfl));replace HB:=am (hb);replace HI0:=am (hi);(try clear hb);(try clear hb2);(try clear hk);(try clear hi);(try clear ho0);obtain ⟨Ao37,co37,eo37⟩:=Kd.jka HO279.out;subst eo37) |((with_reducible refine jMa (b:=.append) (xs:=#[.tmp 43, .tmp 49]) rfl ?_);at_builtin;refine Kd.jYb k36 w.heap.size rfl (.tmp 43) (.tmp 49) 26 36 (.agg #[(.int .i64 0),(.int .i64 0),(.int .i64 0),(.int .i64 0)]) 32 rfl Try.underlying26 jLc rfl (by decide) (by omega) v275 y274 t277 _ _ _ (fun k_=>some k_≠(.slice Ao37 t277.length co37:Value).ownBlock) (fun _=>False) rfl rfl ?aO ?aR (fun _ _ h=>h) (fun _ h=>h.elim) ?aF (Below.refl _ _) ?aS ?aL ?_;(case aR=>repeat (first | exact (Kd.jy HO279.out).2.2 |(with_reducible refine Kd.jIc ?_ _) |(with_reducible refine Kd.jxc ?_ _) |(with_reducible refine Kd.C_drew ?_)));(case aF=>exact (fun k_ hk=>Kd.fresh' (Kd.R_lt (rq HO279.out)) k_ hk));(case aO=>exact (by (with_reducible repeat (first | apply Kd.jga | apply Kd.jfa | apply Kd.jea));exact Kd.jI HO276.out (fun _ hk=>hk.2)));(case aS=>exact (jN (w:=w) (g:=g) (row:=none) (Y6)));(case aL=>have:=LMc25.out;omega);intro v282 w36 ho hb hg hat;rw [← Ny281.out] at ho;have n0_:=am (jXa (g:=gb251) (o:=.cells #[.slice A1_0 l1_0.length c1_0] 25 (0,0)) (kq BK251.out) hg (Kd.R_ne HO276.out BK251.out (by decide)));have n1_:=am (jf.grown (Y9) hg (jf.own_ne HI0.out HO276.out (by decide)));have n2_:=am (Kd.jDc (rq HO271.out) (Kd.jCc (rq HO276.out)) (by decide) hg);have n3_:=am (Kd.jYc (ok:=(fun _=>True)) (rq HO279.out) hg hat);have n4_:=am (job (Y12) HL.out hb);have n5_:=am (jb.trans (Y6) (jb.jHb hg g) (Kd.jgc HO276.out));have n6_:=am (ho);clear BK251 HI0 HO271 HO279 HB HK HO276;have BK251:=n0_;have HI0:=n1_;have HO271:=n2_;have HO279:=n3_;have HB:=n4_;have HK:=n5_;have HO283:=n6_;clear n0_ n1_ n2_ n3_ n4_ n5_ n6_ ho hb hg hat))
       go_roundg k1
       case measure=>have:=HK1.out;omega
       case rel=>exact ⟨(y281),(wrap64 (x11_1 - 1)),(t280),(sq),H',⟨by have:=HK1.out;omega⟩,⟨by (with_reducible repeat (first | apply Kd.jga | apply Kd.jfa | apply Kd.jea));exact Kd.jI HO283.out (fun _ hk=>trivial)⟩,⟨kq BK251.out⟩,⟨Y9⟩,⟨Y6⟩,⟨Y12⟩⟩
      ·rw [if_neg c25] at H
       exact absurd H (by simp)
     ·rw [if_neg c23] at H
      exact absurd H (by simp)
    ·rw [if_neg c20] at H
     have c20b0:decide (0<x11_1)=false:=dzF c20
     clear c20
     have HC38:=am H
     clear H
     go_upto_region 8 with (fail)
     go_cut [57] (fun v57 wc=>∃ (kq:Nat) (x57_37:Bool) (x1001_37:Int),v57=.bool x57_37∧jq (jV.j1 kq a2 a3 x9_1 t265 x57_37 s0_0 x1001_37 l1_0=some (r1,r2))∧jq (kq≤k1)∧jq (Kd.R k36 36 wc w.heap.size (fun _=>True) u9 x9_1)∧jq (wc.heap[gb251]?=some (.cells #[(.slice A1_0 l1_0.length c1_0)] 25 (0,0)))∧jq (jf w0 wc g s0_0 x1001_37)∧jq (jb w wc g none)∧jq (Below w0.heap.size w0 wc))
     case first =>
      have H:=HC38.out
      clear HC38
      by_cases c39:t265 > 0
      ·rw [if_pos c39] at H
       have c39b0:decide (0<t265)=true:=dzT c39
       clear c39
       (first | rw [c39b0] |(simp only [jkb,jmb];rw [c39b0]) | skip)
       replace H:=bzS H
       obtain ⟨⟨t284,t285⟩,A400,H⟩:=H
       replace H:(jV.j1 k1 a2 a3 x9_1 t265 (t284 == 0) s0_0 t285 l1_0)=some (r1,r2):=H
       have A40:=am A400
       clear A400
       have H':=am H
       clear H
       go_wp2_with (first |(go_at_call 42;(with_reducible refine (jg.calls k1 g s0_0 x1001_1 3 t284 t285 w0 _ ?side1 ?side2 A40.out).mono ?_);(case side1=>exact Y9);(case side2=>exact Y12);rintro e w41 ⟨rfl,hi,hb,hk⟩;replace HO_9:=am (Kd.jI (Kd.jxa (jf.apart (show jf w0 _ g s0_0 x1001_1 from Y9) (rq HO_9.out) (by decide)) hk (fun _ h=>h.2)) (fun _ h=>h.1));replace BK251:=am (jb.blk hk (g':=gb251) (o:=.cells #[.slice A1_0 l1_0.length c1_0] 25 (0,0)) (kq BK251.out) NB251_0.out (by simp));replace HK:=am (jb.trans (Y6) hk (.inl rfl));replace HB:=am (hb);replace HI0:=am (hi);(try clear hb);(try clear hb2);(try clear hk);(try clear hi)))
       go_meet
       case rel=>exact ⟨_,((t284 == 0)),(t285),(sq),H',⟨by have:=HK1.out;first | omega | exact Nat.le_refl _⟩,⟨rq HO_9.out⟩,⟨kq BK251.out⟩,⟨Y9⟩,⟨Y6⟩,⟨Y12⟩⟩
      ·rw [if_neg c39] at H
       have c39b0:decide (0<t265)=false:=dzF c39
       clear c39
       (first | rw [c39b0] |(simp only [jkb,jmb];rw [c39b0]) | skip)
       have H':=am H
       clear H
       go_wp2
       go_meet
       case rel=>exact ⟨_,(false),(x1001_1),(sq),H',⟨by have:=HK1.out;first | omega | exact Nat.le_refl _⟩,⟨rq HO_9.out⟩,⟨kq BK251.out⟩,⟨Y9⟩,⟨Y6⟩,⟨Y12⟩⟩
     case rest =>
      clear HC38
      try clear c1
      try clear c2
      try clear p2
      try clear c3
      try clear c4
      try clear c5
      try clear c6
      try clear p6
      try clear c9
      try clear c11
      try clear c20
      try clear c20b0
      try clear c23
      try clear c25
      try clear c26
      try clear c39
      try clear c39b0
      try clear hcz12_0
      try clear hcz27_0
      try clear hcz34_0
      try clear hfz12_0
      try clear hfz27_0
      try clear hfz34_0
      try clear p2
      try clear p6
      obtain ⟨kq,x57_37,x1001_37,rfl,HA,HJ37,HO_9,BK251,HI0,HK,HB⟩:=hcut
      cases kq with
      | zero=>exact absurd HA.out (by simp [jV.j1])
      | succ kj37 =>
       have H:=HA.out
       clear HA
       simp only [jV.j1] at H
       have HC42:=am H
       clear H
       go_upto_if 57 with (fail)
       go_cut [9] (fun v9 wc=>∃ (kq:Nat) (x9_41:List (S36)) (x1001_41:Int),jq (jV.j2 kq a2 a3 x9_41 t265 s0_0 x1001_41 l1_0=some (r1,r2))∧jq (kq≤kj37)∧jq (Kd.R k36 36 wc w.heap.size (fun _=>True) v9 x9_41)∧jq (wc.heap[gb251]?=some (.cells #[(.slice A1_0 l1_0.length c1_0)] 25 (0,0)))∧jq (jf w0 wc g s0_0 x1001_41)∧jq (jb w wc g none)∧jq (Below w0.heap.size w0 wc))
       case first =>
        have H:=HC42.out
        clear HC42
        by_cases c43:x57_37=true
        ·subst c43
         have H1:(if x9_1.length<4398046511104 then ((some (x9_1 ++ [(⟨a2,9,0,0⟩:S36)]:List (S36))).bind fun y286=>((jO.f kj37 s0_0 x1001_37 l1_0 (wrap64 (a2+1)) a3).bind fun bt289=>(if y286.length+bt289.1.length<4398046511104 then (jV.j2 kj37 a2 a3 (y286 ++ bt289.1) t265 s0_0 bt289.2 l1_0) else (none)))) else (none))=some (r1,r2):=by rw [if_pos rfl] at H;exact H
         clear H
         have H:=H1
         clear H1
         by_cases c44:x9_1.length<4398046511104
         ·rw [if_pos c44] at H
          have LMc44:=am c44
          clear c44
          obtain ⟨y286,hy286⟩:∃ y_:List (S36),y_=(x9_1 ++ [(⟨a2,9,0,0⟩:S36)]):=⟨_,rfl⟩
          replace H:((jO.f kj37 s0_0 x1001_37 l1_0 (wrap64 (a2+1)) a3).bind fun bt289=>(if y286.length+bt289.1.length<4398046511104 then (jV.j2 kj37 a2 a3 (y286 ++ bt289.1) t265 s0_0 bt289.2 l1_0) else (none)))=some (r1,r2):=by first |(rw [hy286];with_reducible exact H) |(have H2_:=(Option.bind_some _ _).symm.trans H;rw [hy286];with_reducible exact H2_) |(have H2_:=(Option.bind_some _ _).symm.trans H;with_reducible exact H2_) | with_reducible exact H |(rw [hy286];exact H) | exact H
          have Ny286:=am hy286
          clear hy286
          replace H:=bzS H
          obtain ⟨⟨t289,t292⟩,A450,H⟩:=H
          replace H:(if y286.length+t289.length<4398046511104 then (jV.j2 kj37 a2 a3 (y286 ++ t289) t265 s0_0 t292 l1_0) else (none))=some (r1,r2):=H
          have A45:=am A450
          clear A450
          by_cases c46:y286.length+t289.length<4398046511104
          ·rw [if_pos c46] at H
           have LMc46:=am c46
           clear c46
           obtain ⟨y293,hy293⟩:∃ y_:List (S36),y_=(y286 ++ t289):=⟨_,rfl⟩
           replace H:(jV.j2 kj37 a2 a3 y293 t265 s0_0 t292 l1_0)=some (r1,r2):=by first |(rw [hy293];with_reducible exact H) |(have H2_:=(Option.bind_some _ _).symm.trans H;rw [hy293];with_reducible exact H2_) |(have H2_:=(Option.bind_some _ _).symm.trans H;with_reducible exact H2_) | with_reducible exact H |(rw [hy293];exact H) | exact H
           have Ny293:=am hy293
           clear hy293
           have H':=am H
           clear H
           go_wp2_with (first |((with_reducible refine jMa (b:=.append) (xs:=#[.tmp 58, .tmp 61]) rfl ?_);at_builtin;refine Kd.jcc k36 w.heap.size rfl (.tmp 58) (.tmp 61) 26 36 (.agg #[(.int .i64 0),(.int .i64 0),(.int .i64 0),(.int .i64 0)]) 32 rfl Try.underlying26 jLc rfl (by decide) (by omega) u9 x9_1 (⟨a2,9,0,0⟩:S36) [.int .i64 a2, .int .i64 9, .int .i64 0, .int .i64 0] (fun _=>True) (fun _=>False) rfl rfl ?aP (fun _ hk=>hk.elim) ?aF ?aO (Below.refl _ _) ?aS ?aL ?_;(case aP=>exact jNb _ _ _ (⟨a2,9,0,0⟩:S36));(case aF=>exact (fun _ _=>trivial));(case aO=>exact (rq HO_9.out));(case aS=>exact (jN (w:=w) (g:=g) (row:=none) (Y6)));(case aL=>have:=LMc44.out;omega);intro v287 w47 ho hb hg hat;rw [← Ny286.out] at ho;have n0_:=am (jXa (g:=gb251) (o:=.cells #[.slice A1_0 l1_0.length c1_0] 25 (0,0)) (kq BK251.out) hg (Kd.R_ne HO_9.out BK251.out (by decide)));have n1_:=am (jf.grown (Y9) hg (jf.own_ne HI0.out HO_9.out (by decide)));have n2_:=am (job (Y12) HL.out hb);have n3_:=am (jb.trans (Y6) (jb.jHb hg g) (Kd.jgc HO_9.out));have n4_:=am (ho);clear BK251 HI0 HB HK HO_9;have BK251:=n0_;have HI0:=n1_;have HB:=n2_;have HK:=n3_;have HO288:=n4_;clear n0_ n1_ n2_ n3_ n4_ ho hb hg hat;have hnb48:=NB251_0.out;have hnc48:=NB0_251.out;have hcz49_0:=bc0 BK251.out;have hfz49_0:=ja BK251.out 0) |((with_reducible refine jd (f:=92) rfl ?_);refine gL (some 69) Try.func92 #[.pointer (some ⟨g,0,none⟩), .agg #[.slice A1_0 l1_0.length c1_0], .int .i64 (wrap64 (a2+1)), .bool a3] ?_;(with_reducible refine (ih92 kj37 (by have:=HK1.out;have:=HJ37.out;omega) g s0_0 x1001_37 _ _ l1_0 (wrap64 (a2+1)) a3 t289 t292 w0 _ ?side1 ?side2 ?side3 ?side4 A45.out).mono ?_);(case side1=>exact Y9);(case side2=>exact Y12);(case side3=>exact Kd.jvb HR1_0.out (Y6));(case side4=>exact HC1_0.out);rintro e w50 ⟨v290,rfl,ho0,hi,hb,hk⟩;refine ⟨_,rfl,?_⟩;have HO291:=am (Kd.jaa (Kd.jFc ho0 (Kd.R_lt (rq HO288.out))) (jN (w:=w) (g:=g) (row:=none) (Y6)));replace BK251:=am (jb.blk hk (g':=gb251) (o:=.cells #[.slice A1_0 l1_0.length c1_0] 25 (0,0)) (kq BK251.out) NB251_0.out (by simp));replace HO288:=am (Kd.jI (Kd.R_told (Kd.R_oldK (jf.apart (show jf w0 _ g s0_0 x1001_37 from Y9) (rq HO288.out) (by decide)) hk) (Kd.jGc ho0)) (fun _ h_=>h_.1));replace HK:=am (jb.trans (Y6) hk (.inl rfl));replace HB:=am (hb);replace HI0:=am (hi);(try clear hb);(try clear hb2);(try clear hk);(try clear hi);(try clear ho0);obtain ⟨Ao52,co52,eo52⟩:=Kd.jka HO291.out;subst eo52) |((with_reducible refine jMa (b:=.append) (xs:=#[.tmp 63, .tmp 69]) rfl ?_);at_builtin;refine Kd.jYb k36 w.heap.size rfl (.tmp 63) (.tmp 69) 26 36 (.agg #[(.int .i64 0),(.int .i64 0),(.int .i64 0),(.int .i64 0)]) 32 rfl Try.underlying26 jLc rfl (by decide) (by omega) v287 y286 t289 _ _ _ (fun k_=>some k_≠(.slice Ao52 t289.length co52:Value).ownBlock) (fun _=>False) rfl rfl ?aO ?aR (fun _ _ h=>h) (fun _ h=>h.elim) ?aF (Below.refl _ _) ?aS ?aL ?_;(case aR=>repeat (first | exact (Kd.jy HO291.out).2.2 |(with_reducible refine Kd.jIc ?_ _) |(with_reducible refine Kd.jxc ?_ _) |(with_reducible refine Kd.C_drew ?_)));(case aF=>exact (fun k_ hk=>Kd.fresh' (Kd.R_lt (rq HO291.out)) k_ hk));(case aO=>exact (by (with_reducible repeat (first | apply Kd.jga | apply Kd.jfa | apply Kd.jea));exact Kd.jI HO288.out (fun _ hk=>hk.2)));(case aS=>exact (jN (w:=w) (g:=g) (row:=none) (Y6)));(case aL=>have:=LMc46.out;omega);intro v294 w51 ho hb hg hat;rw [← Ny293.out] at ho;have n0_:=am (jXa (g:=gb251) (o:=.cells #[.slice A1_0 l1_0.length c1_0] 25 (0,0)) (kq BK251.out) hg (Kd.R_ne HO288.out BK251.out (by decide)));have n1_:=am (jf.grown (Y9) hg (jf.own_ne HI0.out HO288.out (by decide)));have n2_:=am (Kd.jYc (ok:=(fun _=>True)) (rq HO291.out) hg hat);have n3_:=am (job (Y12) HL.out hb);have n4_:=am (jb.trans (Y6) (jb.jHb hg g) (Kd.jgc HO288.out));have n5_:=am (ho);clear BK251 HI0 HO291 HB HK HO288;have BK251:=n0_;have HI0:=n1_;have HO291:=n2_;have HB:=n3_;have HK:=n4_;have HO295:=n5_;clear n0_ n1_ n2_ n3_ n4_ n5_ ho hb hg hat))
           go_meet
           case rel=>exact ⟨_,(y293),(t292),H',⟨by have:=HK1.out;have:=HJ37.out;first | omega | exact Nat.le_refl _⟩,⟨by (with_reducible repeat (first | apply Kd.jga | apply Kd.jfa | apply Kd.jea));exact Kd.jI HO295.out (fun _ hk=>trivial)⟩,⟨kq BK251.out⟩,⟨Y9⟩,⟨Y6⟩,⟨Y12⟩⟩
          ·rw [if_neg c46] at H
           exact absurd H (by simp)
         ·rw [if_neg c44] at H
          exact absurd H (by simp)
        ·replace c43:=Bool.eq_false_iff.mpr c43
         subst c43
         have H1:(jV.j2 kj37 a2 a3 x9_1 t265 s0_0 x1001_37 l1_0)=some (r1,r2):=by rw [if_neg (show ¬ (false=true) by decide)] at H;exact H
         clear H
         have H:=H1
         clear H1
         have H':=am H
         clear H
         go_wp2
         go_meet
         case rel=>exact ⟨_,(x9_1),(x1001_37),H',⟨by have:=HK1.out;have:=HJ37.out;first | omega | exact Nat.le_refl _⟩,⟨rq HO_9.out⟩,⟨kq BK251.out⟩,⟨Y9⟩,⟨Y6⟩,⟨Y12⟩⟩
       case rest =>
        clear HC42
        try clear c1
        try clear c2
        try clear p2
        try clear c3
        try clear c4
        try clear c5
        try clear c6
        try clear p6
        try clear c9
        try clear c11
        try clear c20
        try clear c20b0
        try clear c23
        try clear c25
        try clear c26
        try clear c39
        try clear c39b0
        try clear c42
        try clear c43
        try clear c44
        try clear c46
        try clear c48
        try clear hcz12_0
        try clear hcz27_0
        try clear hcz34_0
        try clear hcz49_0
        try clear hfz12_0
        try clear hfz27_0
        try clear hfz34_0
        try clear hfz49_0
        try clear p2
        try clear p6
        obtain ⟨kq,x9_41,x1001_41,HA,HJ41,HO_9,BK251,HI0,HK,HB⟩:=hcut
        cases kq with
        | zero=>exact absurd HA.out (by simp [jV.j2])
        | succ kj41 =>
         have H:=HA.out
         clear HA
         simp only [jV.j2] at H
         by_cases c53:t265=0
         ·rw [if_pos c53] at H
          have c53b0:(t265 == 0)=true:=beq_iff_eq.mpr c53
          have c53b1:(t265 != 0)=false:=bne_eq_false_iff_eq.mpr c53
          clear c53
          by_cases c54:x9_41.length<4398046511104
          ·rw [if_pos c54] at H
           have LMc54:=am c54
           clear c54
           obtain ⟨y298,hy298⟩:∃ y_:List (S36),y_=(x9_41 ++ [(⟨a2,10,0,0⟩:S36)]):=⟨_,rfl⟩
           replace H:((jO.f kj41 s0_0 x1001_41 l1_0 (wrap64 (a2+1)) a3).bind fun bt301=>(if y298.length+bt301.1.length<4398046511104 then (some ((y298 ++ bt301.1),bt301.2)) else (none)))=some (r1,r2):=by first |(rw [hy298];with_reducible exact H) |(have H2_:=(Option.bind_some _ _).symm.trans H;rw [hy298];with_reducible exact H2_) |(have H2_:=(Option.bind_some _ _).symm.trans H;with_reducible exact H2_) | with_reducible exact H |(rw [hy298];exact H) | exact H
           have Ny298:=am hy298
           clear hy298
           replace H:=bzS H
           obtain ⟨⟨t301,t304⟩,A550,H⟩:=H
           replace H:(if y298.length+t301.length<4398046511104 then (some ((y298 ++ t301),t304)) else (none))=some (r1,r2):=H
           have A55:=am A550
           clear A550
           by_cases c56:y298.length+t301.length<4398046511104
           ·rw [if_pos c56] at H
            have LMc56:=am c56
            clear c56
            obtain ⟨y305,hy305⟩:∃ y_:List (S36),y_=(y298 ++ t301):=⟨_,rfl⟩
            replace H:(some (y305,t304))=some (r1,r2):=by first |(rw [hy305];with_reducible exact H) |(have H2_:=(Option.bind_some _ _).symm.trans H;rw [hy305];with_reducible exact H2_) |(have H2_:=(Option.bind_some _ _).symm.trans H;with_reducible exact H2_) | with_reducible exact H |(rw [hy305];exact H) | exact H
            have Ny305:=am hy305
            clear hy305
            simp only [Option.some.injEq,Prod.mk.injEq] at H
            obtain ⟨rfl,rfl⟩:=H
            go_wp2_with (first |((with_reducible refine jMa (b:=.append) (xs:=#[.tmp 78, .tmp 81]) rfl ?_);at_builtin;refine Kd.jcc k36 w.heap.size rfl (.tmp 78) (.tmp 81) 26 36 (.agg #[(.int .i64 0),(.int .i64 0),(.int .i64 0),(.int .i64 0)]) 32 rfl Try.underlying26 jLc rfl (by decide) (by omega) u9 x9_41 (⟨a2,10,0,0⟩:S36) [.int .i64 a2, .int .i64 10, .int .i64 0, .int .i64 0] (fun _=>True) (fun _=>False) rfl rfl ?aP (fun _ hk=>hk.elim) ?aF ?aO (Below.refl _ _) ?aS ?aL ?_;(case aP=>exact jNb _ _ _ (⟨a2,10,0,0⟩:S36));(case aF=>exact (fun _ _=>trivial));(case aO=>exact (rq HO_9.out));(case aS=>exact (jN (w:=w) (g:=g) (row:=none) (Y6)));(case aL=>have:=LMc54.out;omega);intro v299 w57 ho hb hg hat;rw [← Ny298.out] at ho;have n0_:=am (jXa (g:=gb251) (o:=.cells #[.slice A1_0 l1_0.length c1_0] 25 (0,0)) (kq BK251.out) hg (Kd.R_ne HO_9.out BK251.out (by decide)));have n1_:=am (jf.grown (Y9) hg (jf.own_ne HI0.out HO_9.out (by decide)));have n2_:=am (job (Y12) HL.out hb);have n3_:=am (jb.trans (Y6) (jb.jHb hg g) (Kd.jgc HO_9.out));have n4_:=am (ho);clear BK251 HI0 HB HK HO_9;have BK251:=n0_;have HI0:=n1_;have HB:=n2_;have HK:=n3_;have HO300:=n4_;clear n0_ n1_ n2_ n3_ n4_ ho hb hg hat;have hnb58:=NB251_0.out;have hnc58:=NB0_251.out;have hcz59_0:=bc0 BK251.out;have hfz59_0:=ja BK251.out 0) |((with_reducible refine jd (f:=92) rfl ?_);refine gL (some 89) Try.func92 #[.pointer (some ⟨g,0,none⟩), .agg #[.slice A1_0 l1_0.length c1_0], .int .i64 (wrap64 (a2+1)), .bool a3] ?_;(with_reducible refine (ih92 kj41 (by have:=HK1.out;have:=HJ37.out;have:=HJ41.out;omega) g s0_0 x1001_41 _ _ l1_0 (wrap64 (a2+1)) a3 t301 t304 w0 _ ?side1 ?side2 ?side3 ?side4 A55.out).mono ?_);(case side1=>exact Y9);(case side2=>exact Y12);(case side3=>exact Kd.jvb HR1_0.out (Y6));(case side4=>exact HC1_0.out);rintro e w60 ⟨v302,rfl,ho0,hi,hb,hk⟩;refine ⟨_,rfl,?_⟩;have HO303:=am (Kd.jaa (Kd.jFc ho0 (Kd.R_lt (rq HO300.out))) (jN (w:=w) (g:=g) (row:=none) (Y6)));replace BK251:=am (jb.blk hk (g':=gb251) (o:=.cells #[.slice A1_0 l1_0.length c1_0] 25 (0,0)) (kq BK251.out) NB251_0.out (by simp));replace HO300:=am (Kd.jI (Kd.R_told (Kd.R_oldK (jf.apart (show jf w0 _ g s0_0 x1001_41 from Y9) (rq HO300.out) (by decide)) hk) (Kd.jGc ho0)) (fun _ h_=>h_.1));replace HK:=am (jb.trans (Y6) hk (.inl rfl));replace HB:=am (hb);replace HI0:=am (hi);(try clear hb);(try clear hb2);(try clear hk);(try clear hi);(try clear ho0);obtain ⟨Ao62,co62,eo62⟩:=Kd.jka HO303.out;subst eo62) |((with_reducible refine jMa (b:=.append) (xs:=#[.tmp 83, .tmp 89]) rfl ?_);at_builtin;refine Kd.jYb k36 w.heap.size rfl (.tmp 83) (.tmp 89) 26 36 (.agg #[(.int .i64 0),(.int .i64 0),(.int .i64 0),(.int .i64 0)]) 32 rfl Try.underlying26 jLc rfl (by decide) (by omega) v299 y298 t301 _ _ _ (fun k_=>some k_≠(.slice Ao62 t301.length co62:Value).ownBlock) (fun _=>False) rfl rfl ?aO ?aR (fun _ _ h=>h) (fun _ h=>h.elim) ?aF (Below.refl _ _) ?aS ?aL ?_;(case aR=>repeat (first | exact (Kd.jy HO303.out).2.2 |(with_reducible refine Kd.jIc ?_ _) |(with_reducible refine Kd.jxc ?_ _) |(with_reducible refine Kd.C_drew ?_)));(case aF=>exact (fun k_ hk=>Kd.fresh' (Kd.R_lt (rq HO303.out)) k_ hk));(case aO=>exact (by (with_reducible repeat (first | apply Kd.jga | apply Kd.jfa | apply Kd.jea));exact Kd.jI HO300.out (fun _ hk=>hk.2)));(case aS=>exact (jN (w:=w) (g:=g) (row:=none) (Y6)));(case aL=>have:=LMc56.out;omega);intro v306 w61 ho hb hg hat;rw [← Ny305.out] at ho;have n0_:=am (jXa (g:=gb251) (o:=.cells #[.slice A1_0 l1_0.length c1_0] 25 (0,0)) (kq BK251.out) hg (Kd.R_ne HO300.out BK251.out (by decide)));have n1_:=am (jf.grown (Y9) hg (jf.own_ne HI0.out HO300.out (by decide)));have n2_:=am (Kd.jYc (ok:=(fun _=>True)) (rq HO303.out) hg hat);have n3_:=am (job (Y12) HL.out hb);have n4_:=am (jb.trans (Y6) (jb.jHb hg g) (Kd.jgc HO300.out));have n5_:=am (ho);clear BK251 HI0 HO303 HB HK HO300;have BK251:=n0_;have HI0:=n1_;have HO303:=n2_;have HB:=n3_;have HK:=n4_;have HO307:=n5_;clear n0_ n1_ n2_ n3_ n4_ n5_ ho hb hg hat))
            go_ret
            exact ⟨_,Y0,by (with_reducible repeat (first | apply Kd.jga | apply Kd.jfa | apply Kd.jea));exact Kd.jI HO307.out (fun _ hk=>trivial),Y9,Y12,Y6⟩
           ·rw [if_neg c56] at H
            exact absurd H (by simp)
          ·rw [if_neg c54] at H
           exact absurd H (by simp)
         ·rw [if_neg c53] at H
          have c53b0:(t265 == 0)=false:=beq_eq_false_iff_ne.mpr c53
          have c53b1:(t265 != 0)=true:=bne_iff_ne.mpr c53
          replace H:=bzS H
          obtain ⟨⟨t296,t297⟩,A630,H⟩:=H
          replace H:(if t296=0 then (if x9_41.length<4398046511104 then ((some (x9_41 ++ [(⟨a2,10,0,0⟩:S36)]:List (S36))).bind fun y308=>((jO.f kj41 s0_0 t297 l1_0 (wrap64 (a2+1)) a3).bind fun bt311=>(if y308.length+bt311.1.length<4398046511104 then (some ((y308 ++ bt311.1),bt311.2)) else (none)))) else (none)) else (some (x9_41,t297)))=some (r1,r2):=H
          have A63:=am A630
          clear A630
          by_cases c64:t296=0
          ·rw [if_pos c64] at H
           have c64b0:(t296 == 0)=true:=beq_iff_eq.mpr c64
           have c64b1:(t296 != 0)=false:=bne_eq_false_iff_eq.mpr c64
           clear c64
           by_cases c65:x9_41.length<4398046511104
           ·rw [if_pos c65] at H
            have LMc65:=am c65
            clear c65
            obtain ⟨y308,hy308⟩:∃ y_:List (S36),y_=(x9_41 ++ [(⟨a2,10,0,0⟩:S36)]):=⟨_,rfl⟩
            replace H:((jO.f kj41 s0_0 t297 l1_0 (wrap64 (a2+1)) a3).bind fun bt311=>(if y308.length+bt311.1.length<4398046511104 then (some ((y308 ++ bt311.1),bt311.2)) else (none)))=some (r1,r2):=by first |(rw [hy308];with_reducible exact H) |(have H2_:=(Option.bind_some _ _).symm.trans H;rw [hy308];with_reducible exact H2_) |(have H2_:=(Option.bind_some _ _).symm.trans H;with_reducible exact H2_) | with_reducible exact H |(rw [hy308];exact H) | exact H
            have Ny308:=am hy308
            clear hy308
            replace H:=bzS H
            obtain ⟨⟨t311,t314⟩,A660,H⟩:=H
            replace H:(if y308.length+t311.length<4398046511104 then (some ((y308 ++ t311),t314)) else (none))=some (r1,r2):=H
            have A66:=am A660
            clear A660
            by_cases c67:y308.length+t311.length<4398046511104
            ·rw [if_pos c67] at H
             have LMc67:=am c67
             clear c67
             obtain ⟨y315,hy315⟩:∃ y_:List (S36),y_=(y308 ++ t311):=⟨_,rfl⟩
             replace H:(some (y315,t314))=some (r1,r2):=by first |(rw [hy315];with_reducible exact H) |(have H2_:=(Option.bind_some _ _).symm.trans H;rw [hy315];with_reducible exact H2_) |(have H2_:=(Option.bind_some _ _).symm.trans H;with_reducible exact H2_) | with_reducible exact H |(rw [hy315];exact H) | exact H
             have Ny315:=am hy315
             clear hy315
             simp only [Option.some.injEq,Prod.mk.injEq] at H
             obtain ⟨rfl,rfl⟩:=H
             go_wp2_with (first |(go_at_call 42;(with_reducible refine (jg.calls kj41 g s0_0 x1001_41 2 t296 t297 w0 _ ?side1 ?side2 A63.out).mono ?_);(case side1=>exact Y9);(case side2=>exact Y12);rintro e w68 ⟨rfl,hi,hb,hk⟩;replace HO_9:=am (Kd.jI (Kd.jxa (jf.apart (show jf w0 _ g s0_0 x1001_41 from Y9) (rq HO_9.out) (by decide)) hk (fun _ h=>h.2)) (fun _ h=>h.1));replace BK251:=am (jb.blk hk (g':=gb251) (o:=.cells #[.slice A1_0 l1_0.length c1_0] 25 (0,0)) (kq BK251.out) NB251_0.out (by simp));replace HK:=am (jb.trans (Y6) hk (.inl rfl));replace HB:=am (hb);replace HI0:=am (hi);(try clear hb);(try clear hb2);(try clear hk);(try clear hi)) |((with_reducible refine jMa (b:=.append) (xs:=#[.tmp 78, .tmp 81]) rfl ?_);at_builtin;refine Kd.jcc k36 w.heap.size rfl (.tmp 78) (.tmp 81) 26 36 (.agg #[(.int .i64 0),(.int .i64 0),(.int .i64 0),(.int .i64 0)]) 32 rfl Try.underlying26 jLc rfl (by decide) (by omega) u9 x9_41 (⟨a2,10,0,0⟩:S36) [.int .i64 a2, .int .i64 10, .int .i64 0, .int .i64 0] (fun _=>True) (fun _=>False) rfl rfl ?aP (fun _ hk=>hk.elim) ?aF ?aO (Below.refl _ _) ?aS ?aL ?_;(case aP=>exact jNb _ _ _ (⟨a2,10,0,0⟩:S36));(case aF=>exact (fun _ _=>trivial));(case aO=>exact (rq HO_9.out));(case aS=>exact (jN (w:=w) (g:=g) (row:=none) (Y6)));(case aL=>have:=LMc65.out;omega);intro v309 w69 ho hb hg hat;rw [← Ny308.out] at ho;have n0_:=am (jXa (g:=gb251) (o:=.cells #[.slice A1_0 l1_0.length c1_0] 25 (0,0)) (kq BK251.out) hg (Kd.R_ne HO_9.out BK251.out (by decide)));have n1_:=am (jf.grown (Y9) hg (jf.own_ne HI0.out HO_9.out (by decide)));have n2_:=am (job (Y12) HL.out hb);have n3_:=am (jb.trans (Y6) (jb.jHb hg g) (Kd.jgc HO_9.out));have n4_:=am (ho);clear BK251 HI0 HB HK HO_9;have BK251:=n0_;have HI0:=n1_;have HB:=n2_;have HK:=n3_;have HO310:=n4_;clear n0_ n1_ n2_ n3_ n4_ ho hb hg hat;have hnb70:=NB251_0.out;have hnc70:=NB0_251.out;have hcz71_0:=bc0 BK251.out;have hfz71_0:=ja BK251.out 0) |((with_reducible refine jd (f:=92) rfl ?_);refine gL (some 89) Try.func92 #[.pointer (some ⟨g,0,none⟩), .agg #[.slice A1_0 l1_0.length c1_0], .int .i64 (wrap64 (a2+1)), .bool a3] ?_;(with_reducible refine (ih92 kj41 (by have:=HK1.out;have:=HJ37.out;have:=HJ41.out;omega) g s0_0 t297 _ _ l1_0 (wrap64 (a2+1)) a3 t311 t314 w0 _ ?side1 ?side2 ?side3 ?side4 A66.out).mono ?_);(case side1=>exact Y9);(case side2=>exact Y12);(case side3=>exact Kd.jvb HR1_0.out (Y6));(case side4=>exact HC1_0.out);rintro e w72 ⟨v312,rfl,ho0,hi,hb,hk⟩;refine ⟨_,rfl,?_⟩;have HO313:=am (Kd.jaa (Kd.jFc ho0 (Kd.R_lt (rq HO310.out))) (jN (w:=w) (g:=g) (row:=none) (Y6)));replace BK251:=am (jb.blk hk (g':=gb251) (o:=.cells #[.slice A1_0 l1_0.length c1_0] 25 (0,0)) (kq BK251.out) NB251_0.out (by simp));replace HO310:=am (Kd.jI (Kd.R_told (Kd.R_oldK (jf.apart (show jf w0 _ g s0_0 t297 from Y9) (rq HO310.out) (by decide)) hk) (Kd.jGc ho0)) (fun _ h_=>h_.1));replace HK:=am (jb.trans (Y6) hk (.inl rfl));replace HB:=am (hb);replace HI0:=am (hi);(try clear hb);(try clear hb2);(try clear hk);(try clear hi);(try clear ho0);obtain ⟨Ao74,co74,eo74⟩:=Kd.jka HO313.out;subst eo74) |((with_reducible refine jMa (b:=.append) (xs:=#[.tmp 83, .tmp 89]) rfl ?_);at_builtin;refine Kd.jYb k36 w.heap.size rfl (.tmp 83) (.tmp 89) 26 36 (.agg #[(.int .i64 0),(.int .i64 0),(.int .i64 0),(.int .i64 0)]) 32 rfl Try.underlying26 jLc rfl (by decide) (by omega) v309 y308 t311 _ _ _ (fun k_=>some k_≠(.slice Ao74 t311.length co74:Value).ownBlock) (fun _=>False) rfl rfl ?aO ?aR (fun _ _ h=>h) (fun _ h=>h.elim) ?aF (Below.refl _ _) ?aS ?aL ?_;(case aR=>repeat (first | exact (Kd.jy HO313.out).2.2 |(with_reducible refine Kd.jIc ?_ _) |(with_reducible refine Kd.jxc ?_ _) |(with_reducible refine Kd.C_drew ?_)));(case aF=>exact (fun k_ hk=>Kd.fresh' (Kd.R_lt (rq HO313.out)) k_ hk));(case aO=>exact (by (with_reducible repeat (first | apply Kd.jga | apply Kd.jfa | apply Kd.jea));exact Kd.jI HO310.out (fun _ hk=>hk.2)));(case aS=>exact (jN (w:=w) (g:=g) (row:=none) (Y6)));(case aL=>have:=LMc67.out;omega);intro v316 w73 ho hb hg hat;rw [← Ny315.out] at ho;have n0_:=am (jXa (g:=gb251) (o:=.cells #[.slice A1_0 l1_0.length c1_0] 25 (0,0)) (kq BK251.out) hg (Kd.R_ne HO310.out BK251.out (by decide)));have n1_:=am (jf.grown (Y9) hg (jf.own_ne HI0.out HO310.out (by decide)));have n2_:=am (Kd.jYc (ok:=(fun _=>True)) (rq HO313.out) hg hat);have n3_:=am (job (Y12) HL.out hb);have n4_:=am (jb.trans (Y6) (jb.jHb hg g) (Kd.jgc HO310.out));have n5_:=am (ho);clear BK251 HI0 HO313 HB HK HO310;have BK251:=n0_;have HI0:=n1_;have HO313:=n2_;have HB:=n3_;have HK:=n4_;have HO317:=n5_;clear n0_ n1_ n2_ n3_ n4_ n5_ ho hb hg hat))
             go_ret
             exact ⟨_,Y0,by (with_reducible repeat (first | apply Kd.jga | apply Kd.jfa | apply Kd.jea));exact Kd.jI HO317.out (fun _ hk=>trivial),Y9,Y12,Y6⟩
            ·rw [if_neg c67] at H
             exact absurd H (by simp)
           ·rw [if_neg c65] at H
            exact absurd H (by simp)
          ·rw [if_neg c64] at H
           have c64b0:(t296 == 0)=false:=beq_eq_false_iff_ne.mpr c64
           have c64b1:(t296 != 0)=true:=bne_iff_ne.mpr c64
           simp only [Option.some.injEq,Prod.mk.injEq] at H
           obtain ⟨rfl,rfl⟩:=H
           go_wp2_with (first |(go_at_call 42;(with_reducible refine (jg.calls kj41 g s0_0 x1001_41 2 t296 t297 w0 _ ?side1 ?side2 A63.out).mono ?_);(case side1=>exact Y9);(case side2=>exact Y12);rintro e w75 ⟨rfl,hi,hb,hk⟩;replace HO_9:=am (Kd.jI (Kd.jxa (jf.apart (show jf w0 _ g s0_0 x1001_41 from Y9) (rq HO_9.out) (by decide)) hk (fun _ h=>h.2)) (fun _ h=>h.1));replace BK251:=am (jb.blk hk (g':=gb251) (o:=.cells #[.slice A1_0 l1_0.length c1_0] 25 (0,0)) (kq BK251.out) NB251_0.out (by simp));replace HK:=am (jb.trans (Y6) hk (.inl rfl));replace HB:=am (hb);replace HI0:=am (hi);(try clear hb);(try clear hb2);(try clear hk);(try clear hi)))
           go_ret
           exact ⟨_,Y0,rq HO_9.out,Y9,Y12,Y6⟩
 ·rw [if_neg c6] at H
  exact absurd H (by simp)
set_option maxHeartbeats 8000000 in
set_option maxRecDepth 100000 in
theorem jB.calls_all : ∀ k, (∀ (g : Nat) (s0_0 : List Int) (s0_1 : Int) (A1_0 : Option Addr) (c1_0 : Nat) (l1_0 : List (S75)) (a2 : Int) (a3 : Bool) (r1 : List (S36)) (r2 : Int) (w0 w : World) (hI : jf w0 w g s0_0 s0_1) (hB : Below w0.heap.size w0 w) (hr1_0 : ∀ W_, jb w W_ g none → Kd.C k75 W_ A1_0 l1_0.length l1_0) (hc1_0 : l1_0.length ≤ c1_0) (h : jB.f k s0_0 s0_1 l1_0 a2 a3 = some (r1, r2)), Calls Try.prog 101 #[.pointer (some ⟨g, 0, none⟩), .agg #[.slice A1_0 l1_0.length c1_0], .int .i64 a2, .bool a3] w fun e w' => ∃ v0_ : Value, e = .returned (v0_) ∧ Kd.R k36 36 w' w.heap.size (fun _ => True) v0_ r1 ∧ jf w0 w' g s0_0 r2 ∧ Below w0.heap.size w0 w' ∧ jb w w' g none) ∧ (∀ (g : Nat) (s0_0 : List Int) (s0_1 : Int) (A1_0 : Option Addr) (c1_0 : Nat) (l1_0 : List (S75)) (a2 : Int) (a3 : Bool) (r1 : List (S36)) (r2 : Int) (w0 w : World) (hI : jf w0 w g s0_0 s0_1) (hB : Below w0.heap.size w0 w) (hr1_0 : ∀ W_, jb w W_ g none → Kd.C k75 W_ A1_0 l1_0.length l1_0) (hc1_0 : l1_0.length ≤ c1_0) (h : jO.f k s0_0 s0_1 l1_0 a2 a3 = some (r1, r2)), Calls Try.prog 92 #[.pointer (some ⟨g, 0, none⟩), .agg #[.slice A1_0 l1_0.length c1_0], .int .i64 a2, .bool a3] w fun e w' => ∃ v0_ : Value, e = .returned (v0_) ∧ Kd.R k36 36 w' w.heap.size (fun _ => True) v0_ r1 ∧ jf w0 w' g s0_0 r2 ∧ Below w0.heap.size w0 w' ∧ jb w w' g none) ∧ (∀ (g : Nat) (s0_0 : List Int) (s0_1 : Int) (A1_0 : Option Addr) (c1_0 : Nat) (l1_0 : List (S75)) (a2 : Int) (a3 : Bool) (r1 : List (S36)) (r2 : Int) (w0 w : World) (hI : jf w0 w g s0_0 s0_1) (hB : Below w0.heap.size w0 w) (hr1_0 : ∀ W_, jb w W_ g none → Kd.C k75 W_ A1_0 l1_0.length l1_0) (hc1_0 : l1_0.length ≤ c1_0) (h : jV.f k s0_0 s0_1 l1_0 a2 a3 = some (r1, r2)), Calls Try.prog 91 #[.pointer (some ⟨g, 0, none⟩), .agg #[.slice A1_0 l1_0.length c1_0], .int .i64 a2, .bool a3] w fun e w' => ∃ v0_ : Value, e = .returned (v0_) ∧ Kd.R k36 36 w' w.heap.size (fun _ => True) v0_ r1 ∧ jf w0 w' g s0_0 r2 ∧ Below w0.heap.size w0 w' ∧ jb w w' g none) := by
 intro k
 induction k using Nat.strongRecOn with
 | _ k ih =>
 exact ⟨jB.calls_of k (fun k_ hk_=>(ih k_ hk_).1) (fun k_ hk_=>(ih k_ hk_).2.1) (fun k_ hk_=>(ih k_ hk_).2.2),jO.calls_of k (fun k_ hk_=>(ih k_ hk_).1) (fun k_ hk_=>(ih k_ hk_).2.1) (fun k_ hk_=>(ih k_ hk_).2.2),jV.calls_of k (fun k_ hk_=>(ih k_ hk_).1) (fun k_ hk_=>(ih k_ hk_).2.1) (fun k_ hk_=>(ih k_ hk_).2.2)⟩
theorem jO.calls (k : Nat) : ∀ (g : Nat) (s0_0 : List Int) (s0_1 : Int) (A1_0 : Option Addr) (c1_0 : Nat) (l1_0 : List (S75)) (a2 : Int) (a3 : Bool) (r1 : List (S36)) (r2 : Int) (w0 w : World) (hI : jf w0 w g s0_0 s0_1) (hB : Below w0.heap.size w0 w) (hr1_0 : ∀ W_, jb w W_ g none → Kd.C k75 W_ A1_0 l1_0.length l1_0) (hc1_0 : l1_0.length ≤ c1_0) (h : jO.f k s0_0 s0_1 l1_0 a2 a3 = some (r1, r2)), Calls Try.prog 92 #[.pointer (some ⟨g, 0, none⟩), .agg #[.slice A1_0 l1_0.length c1_0], .int .i64 a2, .bool a3] w fun e w' => ∃ v0_ : Value, e = .returned (v0_) ∧ Kd.R k36 36 w' w.heap.size (fun _ => True) v0_ r1 ∧ jf w0 w' g s0_0 r2 ∧ Below w0.heap.size w0 w' ∧ jb w w' g none := (jB.calls_all k).2.1
theorem jV.calls (k : Nat) : ∀ (g : Nat) (s0_0 : List Int) (s0_1 : Int) (A1_0 : Option Addr) (c1_0 : Nat) (l1_0 : List (S75)) (a2 : Int) (a3 : Bool) (r1 : List (S36)) (r2 : Int) (w0 w : World) (hI : jf w0 w g s0_0 s0_1) (hB : Below w0.heap.size w0 w) (hr1_0 : ∀ W_, jb w W_ g none → Kd.C k75 W_ A1_0 l1_0.length l1_0) (hc1_0 : l1_0.length ≤ c1_0) (h : jV.f k s0_0 s0_1 l1_0 a2 a3 = some (r1, r2)), Calls Try.prog 91 #[.pointer (some ⟨g, 0, none⟩), .agg #[.slice A1_0 l1_0.length c1_0], .int .i64 a2, .bool a3] w fun e w' => ∃ v0_ : Value, e = .returned (v0_) ∧ Kd.R k36 36 w' w.heap.size (fun _ => True) v0_ r1 ∧ jf w0 w' g s0_0 r2 ∧ Below w0.heap.size w0 w' ∧ jb w w' g none := (jB.calls_all k).2.2
mutual
def jD.l0 : Nat → Int → List Int → Int → List (S75) → Option ((List (S36)) × Int)
 | 0,_,_,_,_=>none
 | k+1,x5,x1000,x1001,x319000=>if x5<4 then ((jV.f k x1000 x1001 x319000 0 false).bind fun bt322=>((jg.f k x1000 bt322.2 3).bind fun bt326=>(if bt326.1=0 then ((jO.f k x1000 bt326.2 x319000 0 false).bind fun bt328=>(if bt322.1.length+bt328.1.length<4398046511104 then (jD.j1 k x5 (bt322.1 ++ bt328.1) x1000 bt328.2 x319000) else (none))) else (jD.j1 k x5 bt322.1 x1000 bt326.2 x319000)))) else (some ((([(⟨0,7,0,0⟩:S36),(⟨1,2,0,1⟩:S36),(⟨0,10,0,0⟩:S36),(⟨1,1,1,0⟩:S36)]:List (S36))),x1001))
def jD.j1 : Nat → Int → List (S36) → List Int → Int → List (S75) → Option ((List (S36)) × Int)
 | 0,_,_,_,_,_=>none
 | k+1,x5,x6,x1000,x1001,x319000=>(jg.f k x1000 x1001 4).bind fun bt335=>(if bt335.1=0 then ((jO.f k x1000 bt335.2 x319000 0 false).bind fun bt337=>(jD.j2 k x5 bt337.1 x1000 bt337.2 x319000)) else (jD.j2 k x5 x6 x1000 bt335.2 x319000))
def jD.j2 : Nat → Int → List (S36) → List Int → Int → List (S75) → Option ((List (S36)) × Int)
 | 0,_,_,_,_,_=>none
 | k+1,x5,x6,x1000,x1001,x319000=>if (x6.length:Int)≤24 then (some (x6,x1001)) else (jD.l0 k (wrap64 (x5+1)) x1000 x1001 x319000)
end
def jD.f (k : Nat) (s0_0 : List Int) (s0_1 : Int) (l1_0 : List (S75)) : Option ((List (S36)) × Int) := jD.l0 k 0 s0_0 s0_1 l1_0
set_option maxHeartbeats 8000000 in
set_option maxRecDepth 100000 in
theorem jD.calls (k : Nat) (g : Nat) (s0_0 : List Int) (s0_1 : Int) (A1_0 : Option Addr) (c1_0 : Nat) (l1_0 : List (S75)) (r1 : List (S36)) (r2 : Int) (w0 w : World) (hI : jf w0 w g s0_0 s0_1) (hB : Below w0.heap.size w0 w) (hr1_0 : ∀ W_, jb w W_ g none → Kd.C k75 W_ A1_0 l1_0.length l1_0) (hc1_0 : l1_0.length ≤ c1_0) (h : jD.f k s0_0 s0_1 l1_0 = some (r1, r2)) :
  Calls Try.prog 78 #[.pointer (some ⟨g,0,none⟩), .agg #[.slice A1_0 l1_0.length c1_0]] w fun e w'=>∃ v0_:Value,e=.returned (v0_)∧Kd.R k36 36 w' w.heap.size (fun _=>True) v0_ r1∧jf w0 w' g s0_0 r2∧Below w0.heap.size w0 w'∧jb w w' g none:=by
 have hu25:=Try.underlying25
 have hu36:=Try.underlying36
 have HR1_0:=am hr1_0
 have HC1_0:=am hc1_0
 clear hr1_0 hc1_0
 have HI0:=am hI
 have HK:=am (jb.refl w g none)
 have HL:=am hB.size
 clear hI
 have HW0:=am hB.size
 have HB:=am hB
 clear hB
 have H:(jD.l0 k 0 s0_0 s0_1 l1_0)=some (r1,r2):=h
 clear h
 have H':=am H
 clear H
 go_enter Try.func78,Try.ntmps78
 go_wp2_with (first |((with_reducible refine jJ (N:=3) rfl ?_);refine bE (N:=3) (cs:=#[.slice A1_0 l1_0.length c1_0]) (t:=25) ?_;intro gb318 hg w3 hbox hb;have BK318:=am (hbox);have GW318:=am ((Y11:w.heap.size≤gb318));have GE318:=am ((Nat.le_trans HW0.out (Y11:w.heap.size≤gb318):w0.heap.size≤gb318));have NB0_318:=am ((Y21:g≠gb318));have NB318_0:=am ((Y22:gb318≠g));replace HK:=am (jb.trans (Y15) (jb.of_below hb g none) (.inl rfl));replace HB:=am (je (Y16) hb);replace HI0:=am (jf.below (Y14) hb);clear hb hbox hg))
 go_loopg [5] k (fun kq v5 w'=>∃ (x5_1:Int) (x1001_1:Int),v5=.int .i64 x5_1∧jq (jD.l0 kq x5_1 s0_0 x1001_1 l1_0=some (r1,r2))∧jq (kq≤k)∧jq (w'.heap[gb318]?=some (.cells #[(.slice A1_0 l1_0.length c1_0)] 25 (0,0)))∧jq (jf w0 w' g s0_0 x1001_1)∧jq (jb w w' g none)∧jq (Below w0.heap.size w0 w'))
 case atStart=>exact ⟨(0),(s0_1),(sq),H',⟨Nat.le_refl _⟩,⟨kq BK318.out⟩,⟨Y23⟩,⟨Y19⟩,⟨Y33⟩⟩
 case round =>
  clear H'
  try clear c1
  try clear p2
  obtain ⟨x5_1,x1001_1,rfl,HA,HK1,BK318,HI0,HK,HB⟩:=hrel
  cases gk with
  | zero=>exact absurd HA.out (by simp [jD.l0])
  | succ k1 =>
   have H:=HA.out
   clear HA
   simp only [jD.l0] at H
   by_cases c4:x5_1<4
   ·rw [if_pos c4] at H
    have c4b0:decide (x5_1<4)=true:=dzT c4
    clear c4
    replace H:=bzS H
    obtain ⟨⟨t322,t325⟩,A50,H⟩:=H
    replace H:((jg.f k1 s0_0 t325 3).bind fun bt326=>(if bt326.1=0 then ((jO.f k1 s0_0 bt326.2 l1_0 0 false).bind fun bt328=>(if t322.length+bt328.1.length<4398046511104 then (jD.j1 k1 x5_1 (t322 ++ bt328.1) s0_0 bt328.2 l1_0) else (none))) else (jD.j1 k1 x5_1 t322 s0_0 bt326.2 l1_0)))=some (r1,r2):=H
    have A5:=am A50
    clear A50
    replace H:=bzS H
    obtain ⟨⟨t326,t327⟩,A60,H⟩:=H
    replace H:(if t326=0 then ((jO.f k1 s0_0 t327 l1_0 0 false).bind fun bt328=>(if t322.length+bt328.1.length<4398046511104 then (jD.j1 k1 x5_1 (t322 ++ bt328.1) s0_0 bt328.2 l1_0) else (none))) else (jD.j1 k1 x5_1 t322 s0_0 t327 l1_0))=some (r1,r2):=H
    have A6:=am A60
    clear A60
    have HC7:=am H
    clear H
    have hnb8:=NB318_0.out
    have hnc8:=NB0_318.out
    have hcz9_0:=bc0 BK318.out
    have hfz9_0:=ja BK318.out 0
    go_upto_if 16 with (first |((with_reducible refine jd (f:=91) rfl ?_);refine gL (some 13) Try.func91 #[.pointer (some ⟨g,0,none⟩), .agg #[.slice A1_0 l1_0.length c1_0], .int .i64 0, .bool false] ?_;(with_reducible refine (jV.calls k1 g s0_0 x1001_1 _ _ l1_0 0 false t322 t325 w0 _ ?side1 ?side2 ?side3 ?side4 A5.out).mono ?_);(case side1=>exact Y23);(case side2=>exact Y33);(case side3=>exact Kd.jvb HR1_0.out (Y19));(case side4=>exact HC1_0.out);rintro e w10 ⟨v323,rfl,ho0,hi,hb,hk⟩;refine ⟨_,rfl,?_⟩;have HO324:=am (Kd.jaa ho0 (jN (w:=w) (g:=g) (row:=none) (Y19)));replace BK318:=am (jb.blk hk (g':=gb318) (o:=.cells #[.slice A1_0 l1_0.length c1_0] 25 (0,0)) (kq BK318.out) NB318_0.out (by simp));replace HK:=am (jb.trans (Y19) hk (.inl rfl));replace HB:=am (hb);replace HI0:=am (hi);(try clear hb);(try clear hb2);(try clear hk);(try clear hi);(try clear ho0)) |((with_reducible refine jd (f:=42) rfl ?_);refine gL (some 15) Try.func42 #[.pointer (some ⟨g,0,none⟩), .int .i64 3] ?_;(with_reducible refine (jg.calls k1 g s0_0 t325 3 t326 t327 w0 _ ?side1 ?side2 A6.out).mono ?_);(case side1=>exact Y23);(case side2=>exact Y33);rintro e w11 ⟨rfl,hi,hb,hk⟩;refine ⟨_,rfl,?_⟩;replace BK318:=am (jb.blk hk (g':=gb318) (o:=.cells #[.slice A1_0 l1_0.length c1_0] 25 (0,0)) (kq BK318.out) NB318_0.out (by simp));replace HO324:=am (Kd.jI (Kd.jxa (jf.apart (show jf w0 _ g s0_0 t325 from Y23) (rq HO324.out) (by decide)) hk (fun _ h=>h.2)) (fun _ h=>h.1));replace HK:=am (jb.trans (Y19) hk (.inl rfl));replace HB:=am (hb);replace HI0:=am (hi);(try clear hb);(try clear hb2);(try clear hk);(try clear hi)))
    (try simp only [Act.put,List.setIfInBounds_toArray,List.set_cons_zero,List.set_cons_succ])
    go_cut [6] (fun v6 wc=>∃ (kq:Nat) (x6_6:List (S36)) (x1001_6:Int),jq (jD.j1 kq x5_1 x6_6 s0_0 x1001_6 l1_0=some (r1,r2))∧jq (kq≤k1)∧jq (Kd.R k36 36 wc w.heap.size (fun _=>True) v6 x6_6)∧jq (wc.heap[gb318]?=some (.cells #[(.slice A1_0 l1_0.length c1_0)] 25 (0,0)))∧jq (jf w0 wc g s0_0 x1001_6)∧jq (jb w wc g none)∧jq (Below w0.heap.size w0 wc))
    case first =>
     have H:=HC7.out
     clear HC7
     by_cases c12:t326=0
     ·rw [if_pos c12] at H
      have c12b0:(t326 == 0)=true:=beq_iff_eq.mpr c12
      have c12b1:(t326 != 0)=false:=bne_eq_false_iff_eq.mpr c12
      clear c12
      (first | rw [c12b0] |(simp only [jkb,jmb];rw [c12b0]) | skip)
      replace H:=bzS H
      obtain ⟨⟨t328,t331⟩,A130,H⟩:=H
      replace H:(if t322.length+t328.length<4398046511104 then (jD.j1 k1 x5_1 (t322 ++ t328) s0_0 t331 l1_0) else (none))=some (r1,r2):=H
      have A13:=am A130
      clear A130
      by_cases c14:t322.length+t328.length<4398046511104
      ·rw [if_pos c14] at H
       have LMc14:=am c14
       clear c14
       obtain ⟨y332,hy332⟩:∃ y_:List (S36),y_=(t322 ++ t328):=⟨_,rfl⟩
       replace H:(jD.j1 k1 x5_1 y332 s0_0 t331 l1_0)=some (r1,r2):=by first |(rw [hy332];with_reducible exact H) |(have H2_:=(Option.bind_some _ _).symm.trans H;rw [hy332];with_reducible exact H2_) |(have H2_:=(Option.bind_some _ _).symm.trans H;with_reducible exact H2_) | with_reducible exact H |(rw [hy332];exact H) | exact H
       have Ny332:=am hy332
       clear hy332
       have H':=am H
       clear H
       have hnb15:=NB318_0.out
       have hnc15:=NB0_318.out
       have hcz16_0:=bc0 BK318.out
       have hfz16_0:=ja BK318.out 0
       go_wp2_with (first |((with_reducible refine jd (f:=92) rfl ?_);refine gL (some 20) Try.func92 #[.pointer (some ⟨g,0,none⟩), .agg #[.slice A1_0 l1_0.length c1_0], .int .i64 0, .bool false] ?_;(with_reducible refine (jO.calls k1 g s0_0 t327 _ _ l1_0 0 false t328 t331 w0 _ ?side1 ?side2 ?side3 ?side4 A13.out).mono ?_);(case side1=>exact Y23);(case side2=>exact Y33);(case side3=>exact Kd.jvb HR1_0.out (Y19));(case side4=>exact HC1_0.out);rintro e w17 ⟨v329,rfl,ho0,hi,hb,hk⟩;refine ⟨_,rfl,?_⟩;have HO330:=am (Kd.jaa (Kd.jFc ho0 (Kd.R_lt (rq HO324.out))) (jN (w:=w) (g:=g) (row:=none) (Y19)));replace BK318:=am (jb.blk hk (g':=gb318) (o:=.cells #[.slice A1_0 l1_0.length c1_0] 25 (0,0)) (kq BK318.out) NB318_0.out (by simp));replace HO324:=am (Kd.jI (Kd.R_told (Kd.R_oldK (jf.apart (show jf w0 _ g s0_0 t327 from Y23) (rq HO324.out) (by decide)) hk) (Kd.jGc ho0)) (fun _ h_=>h_.1));replace HK:=am (jb.trans (Y19) hk (.inl rfl));replace HB:=am (hb);replace HI0:=am (hi);(try clear hb);(try clear hb2);(try clear hk);(try clear hi);(try clear ho0);obtain ⟨Ao19,co19,eo19⟩:=Kd.jka HO330.out;subst eo19) |((with_reducible refine jMa (b:=.append) (xs:=#[.tmp 17, .tmp 20]) rfl ?_);at_builtin;refine Kd.jYb k36 w.heap.size rfl (.tmp 17) (.tmp 20) 26 36 (.agg #[(.int .i64 0),(.int .i64 0),(.int .i64 0),(.int .i64 0)]) 32 rfl Try.underlying26 jLc rfl (by decide) (by omega) v323 t322 t328 _ _ _ (fun k_=>some k_≠(.slice Ao19 t328.length co19:Value).ownBlock) (fun _=>False) rfl rfl ?aO ?aR (fun _ _ h=>h) (fun _ h=>h.elim) ?aF (Below.refl _ _) ?aS ?aL ?_;(case aR=>repeat (first | exact (Kd.jy HO330.out).2.2 |(with_reducible refine Kd.jIc ?_ _) |(with_reducible refine Kd.jxc ?_ _) |(with_reducible refine Kd.C_drew ?_)));(case aF=>exact (fun k_ hk=>Kd.fresh' (Kd.R_lt (rq HO330.out)) k_ hk));(case aO=>exact (by (with_reducible repeat (first | apply Kd.jga | apply Kd.jfa | apply Kd.jea));exact Kd.jI HO324.out (fun _ hk=>hk.2)));(case aS=>exact (jN (w:=w) (g:=g) (row:=none) (Y19)));(case aL=>have:=LMc14.out;omega);intro v333 w18 ho hb hg hat;rw [← Ny332.out] at ho;have n0_:=am (jXa (g:=gb318) (o:=.cells #[.slice A1_0 l1_0.length c1_0] 25 (0,0)) (kq BK318.out) hg (Kd.R_ne HO324.out BK318.out (by decide)));have n1_:=am (jf.grown (Y23) hg (jf.own_ne HI0.out HO324.out (by decide)));have n2_:=am (Kd.jYc (ok:=(fun _=>True)) (rq HO330.out) hg hat);have n3_:=am (job (Y33) HL.out hb);have n4_:=am (jb.trans (Y19) (jb.jHb hg g) (Kd.jgc HO324.out));have n5_:=am (ho);clear BK318 HI0 HO330 HB HK HO324;have BK318:=n0_;have HI0:=n1_;have HO330:=n2_;have HB:=n3_;have HK:=n4_;have HO334:=n5_;clear n0_ n1_ n2_ n3_ n4_ n5_ ho hb hg hat))
       go_meet
       case rel=>exact ⟨_,(y332),(t331),H',⟨by have:=HK1.out;first | omega | exact Nat.le_refl _⟩,⟨by (with_reducible repeat (first | apply Kd.jga | apply Kd.jfa | apply Kd.jea));exact Kd.jI HO334.out (fun _ hk=>trivial)⟩,⟨kq BK318.out⟩,⟨Y23⟩,⟨Y19⟩,⟨Y33⟩⟩
      ·rw [if_neg c14] at H
       exact absurd H (by simp)
     ·rw [if_neg c12] at H
      have c12b0:(t326 == 0)=false:=beq_eq_false_iff_ne.mpr c12
      have c12b1:(t326 != 0)=true:=bne_iff_ne.mpr c12
      (first | rw [c12b0] |(simp only [jkb,jmb];rw [c12b0]) | skip)
      have H':=am H
      clear H
      go_wp2
      go_meet
      case rel=>exact ⟨_,(t322),(t327),H',⟨by have:=HK1.out;first | omega | exact Nat.le_refl _⟩,⟨rq HO324.out⟩,⟨kq BK318.out⟩,⟨Y23⟩,⟨Y19⟩,⟨Y33⟩⟩
    case rest =>
     clear HC7
     try clear c1
     try clear p2
     try clear c4
     try clear c4b0
     try clear c7
     try clear c8
     try clear c9
     try clear c12
     try clear c12b0
     try clear c12b1
     try clear c14
     try clear c15
     try clear hcz16_0
     try clear hcz9_0
     try clear hfz16_0
     try clear hfz9_0
     try clear p2
     obtain ⟨kq,x6_6,x1001_6,HA,HJ6,HO_6,BK318,HI0,HK,HB⟩:=hcut
     cases kq with
     | zero=>exact absurd HA.out (by simp [jD.j1])
     | succ kj6 =>
      have H:=HA.out
      clear HA
      simp only [jD.j1] at H
      replace H:=bzS H
      obtain ⟨⟨t335,t336⟩,A200,H⟩:=H
      replace H:(if t335=0 then ((jO.f kj6 s0_0 t336 l1_0 0 false).bind fun bt337=>(jD.j2 kj6 x5_1 bt337.1 s0_0 bt337.2 l1_0)) else (jD.j2 kj6 x5_1 x6_6 s0_0 t336 l1_0))=some (r1,r2):=H
      have A20:=am A200
      clear A200
      have HC21:=am H
      clear H
      go_upto_if 24 with (first |((with_reducible refine jd (f:=42) rfl ?_);refine gL (some 23) Try.func42 #[.pointer (some ⟨g,0,none⟩), .int .i64 4] ?_;(with_reducible refine (jg.calls kj6 g s0_0 x1001_6 4 t335 t336 w0 _ ?side1 ?side2 A20.out).mono ?_);(case side1=>exact Y23);(case side2=>exact Y33);rintro e w22 ⟨rfl,hi,hb,hk⟩;refine ⟨_,rfl,?_⟩;replace HO_6:=am (Kd.jI (Kd.jxa (jf.apart (show jf w0 _ g s0_0 x1001_6 from Y23) (rq HO_6.out) (by decide)) hk (fun _ h=>h.2)) (fun _ h=>h.1));replace BK318:=am (jb.blk hk (g':=gb318) (o:=.cells #[.slice A1_0 l1_0.length c1_0] 25 (0,0)) (kq BK318.out) NB318_0.out (by simp));replace HK:=am (jb.trans (Y19) hk (.inl rfl));replace HB:=am (hb);replace HI0:=am (hi);(try clear hb);(try clear hb2);(try clear hk);(try clear hi)))
      (try simp only [Act.put,List.setIfInBounds_toArray,List.set_cons_zero,List.set_cons_succ])
      go_cut [6] (fun v6 wc=>∃ (kq:Nat) (x6_20:List (S36)) (x1001_20:Int),jq (jD.j2 kq x5_1 x6_20 s0_0 x1001_20 l1_0=some (r1,r2))∧jq (kq≤kj6)∧jq (Kd.R k36 36 wc w.heap.size (fun _=>True) v6 x6_20)∧jq (wc.heap[gb318]?=some (.cells #[(.slice A1_0 l1_0.length c1_0)] 25 (0,0)))∧jq (jf w0 wc g s0_0 x1001_20)∧jq (jb w wc g none)∧jq (Below w0.heap.size w0 wc))
      case first =>
       have H:=HC21.out
       clear HC21
       by_cases c23:t335=0
       ·rw [if_pos c23] at H
        have c23b0:(t335 == 0)=true:=beq_iff_eq.mpr c23
        have c23b1:(t335 != 0)=false:=bne_eq_false_iff_eq.mpr c23
        clear c23
        (first | rw [c23b0] |(simp only [jkb,jmb];rw [c23b0]) | skip)
        replace H:=bzS H
        obtain ⟨⟨t337,t340⟩,A240,H⟩:=H
        replace H:(jD.j2 kj6 x5_1 t337 s0_0 t340 l1_0)=some (r1,r2):=H
        have A24:=am A240
        clear A240
        have H':=am H
        clear H
        have hnb25:=NB318_0.out
        have hnc25:=NB0_318.out
        have hcz26_0:=bc0 BK318.out
        have hfz26_0:=ja BK318.out 0
        go_wp2_with (first |((with_reducible refine jd (f:=92) rfl ?_);refine gL (some 27) Try.func92 #[.pointer (some ⟨g,0,none⟩), .agg #[.slice A1_0 l1_0.length c1_0], .int .i64 0, .bool false] ?_;(with_reducible refine (jO.calls kj6 g s0_0 t336 _ _ l1_0 0 false t337 t340 w0 _ ?side1 ?side2 ?side3 ?side4 A24.out).mono ?_);(case side1=>exact Y23);(case side2=>exact Y33);(case side3=>exact Kd.jvb HR1_0.out (Y19));(case side4=>exact HC1_0.out);rintro e w27 ⟨v338,rfl,ho0,hi,hb,hk⟩;refine ⟨_,rfl,?_⟩;have HO339:=am (Kd.jaa (Kd.jFc ho0 (Kd.R_lt (rq HO_6.out))) (jN (w:=w) (g:=g) (row:=none) (Y19)));replace HO_6:=am (Kd.jI (Kd.R_told (Kd.R_oldK (jf.apart (show jf w0 _ g s0_0 t336 from Y23) (rq HO_6.out) (by decide)) hk) (Kd.jGc ho0)) (fun _ h_=>h_.1));replace BK318:=am (jb.blk hk (g':=gb318) (o:=.cells #[.slice A1_0 l1_0.length c1_0] 25 (0,0)) (kq BK318.out) NB318_0.out (by simp));replace HK:=am (jb.trans (Y19) hk (.inl rfl));replace HB:=am (hb);replace HI0:=am (hi);(try clear hb);(try clear hb2);(try clear hk);(try clear hi);(try clear ho0)))
        go_meet
        case rel=>exact ⟨_,(t337),(t340),H',⟨by have:=HK1.out;have:=HJ6.out;first | omega | exact Nat.le_refl _⟩,⟨by (with_reducible repeat (first | apply Kd.jga | apply Kd.jfa | apply Kd.jea));exact Kd.jI HO339.out (fun _ hk=>trivial)⟩,⟨kq BK318.out⟩,⟨Y23⟩,⟨Y19⟩,⟨Y33⟩⟩
       ·rw [if_neg c23] at H
        have c23b0:(t335 == 0)=false:=beq_eq_false_iff_ne.mpr c23
        have c23b1:(t335 != 0)=true:=bne_iff_ne.mpr c23
        (first | rw [c23b0] |(simp only [jkb,jmb];rw [c23b0]) | skip)
        have H':=am H
        clear H
        go_wp2
        go_meet
        case rel=>exact ⟨_,(x6_6),(t336),H',⟨by have:=HK1.out;have:=HJ6.out;first | omega | exact Nat.le_refl _⟩,⟨rq HO_6.out⟩,⟨kq BK318.out⟩,⟨Y23⟩,⟨Y19⟩,⟨Y33⟩⟩
      case rest =>
       clear HC21
       try clear c1
       try clear c2
       try clear p2
       try clear c4
       try clear c4b0
       try clear c7
       try clear c8
       try clear c9
       try clear c12
       try clear c12b0
       try clear c12b1
       try clear c14
       try clear c15
       try clear c23
       try clear c23b0
       try clear c23b1
       try clear c25
       try clear hcz16_0
       try clear hcz26_0
       try clear hcz9_0
       try clear hfz16_0
       try clear hfz26_0
       try clear hfz9_0
       try clear p2
       obtain ⟨kq,x6_20,x1001_20,HA,HJ20,HO_6,BK318,HI0,HK,HB⟩:=hcut
       cases kq with
       | zero=>exact absurd HA.out (by simp [jD.j2])
       | succ kj20 =>
        have H:=HA.out
        clear HA
        simp only [jD.j2] at H
        by_cases c28:(x6_20.length:Int)≤24
        ·rw [if_pos c28] at H
         have c28b0:decide ((x6_20.length:Int)≤24)=true:=dzT c28
         have c28b1:decide (x6_20.length≤24)=true:=dzT (by omega)
         clear c28
         simp only [Option.some.injEq,Prod.mk.injEq] at H
         obtain ⟨rfl,rfl⟩:=H
         obtain ⟨Ao29,co29,eo29⟩:=Kd.jka HO_6.out
         subst eo29
         go_wp2
         go_ret
         exact ⟨_,Y0,rq HO_6.out,Y23,Y33,Y19⟩
        ·rw [if_neg c28] at H
         have c28b0:decide ((x6_20.length:Int)≤24)=false:=dzF c28
         have c28b1:decide (x6_20.length≤24)=false:=dzF (by omega)
         clear c28
         have H':=am H
         clear H
         obtain ⟨Ao30,co30,eo30⟩:=Kd.jka HO_6.out
         subst eo30
         go_wp2
         go_roundg kj20
         case measure=>have:=HK1.out;have:=HJ6.out;have:=HJ20.out;omega
         case rel=>exact ⟨(wrap64 (x5_1+1)),(x1001_20),(sq),H',⟨by have:=HK1.out;have:=HJ6.out;have:=HJ20.out;omega⟩,⟨kq BK318.out⟩,⟨Y23⟩,⟨Y19⟩,⟨Y33⟩⟩
   ·rw [if_neg c4] at H
    have c4b0:decide (x5_1<4)=false:=dzF c4
    clear c4
    obtain ⟨y319,hy319⟩:∃ y_:List (S36),y_=(([(⟨0,7,0,0⟩:S36),(⟨1,2,0,1⟩:S36),(⟨0,10,0,0⟩:S36),(⟨1,1,1,0⟩:S36)]:List (S36))):=⟨_,rfl⟩
    replace H:(some (y319,x1001_1))=some (r1,r2):=by first |(rw [hy319];with_reducible exact H) |(have H2_:=(Option.bind_some _ _).symm.trans H;rw [hy319];with_reducible exact H2_) |(have H2_:=(Option.bind_some _ _).symm.trans H;with_reducible exact H2_) | with_reducible exact H |(rw [hy319];exact H) | exact H
    have Ny319:=am hy319
    clear hy319
    simp only [Option.some.injEq,Prod.mk.injEq] at H
    obtain ⟨rfl,rfl⟩:=H
    go_wp2_with (first |((with_reducible refine jJ (N:=36) rfl ?_);refine Kd.jfc k36 _ 36 ?hg (N:=36) ?hd (xs:=([(⟨0,7,0,0⟩:S36),(⟨1,2,0,1⟩:S36),(⟨0,10,0,0⟩:S36),(⟨1,1,1,0⟩:S36)]:List (S36))) (inner:=[.int .i64 0, .int .i64 7, .int .i64 0, .int .i64 0, .int .i64 1, .int .i64 2, .int .i64 0, .int .i64 1, .int .i64 0, .int .i64 10, .int .i64 0, .int .i64 0, .int .i64 1, .int .i64 1, .int .i64 1, .int .i64 0]) (ok:=fun _=>True) (okp:=fun _=>True) ?hr ?hp (fun _ hk=>hk) trivial (Below.refl _ _) (Nat.le_refl _) (by simp) ?_;(case hd=>rfl);(case hg=>rfl);(case hr=>exact Y5);(case hp=>exact (Reps.c4 (show Kd.M k36 _ _ _ (⟨0,7,0,0⟩:S36) [.int .i64 0, .int .i64 7, .int .i64 0, .int .i64 0] from (jNb _ _ _ (⟨0,7,0,0⟩:S36) )) (Reps.c4 (show Kd.M k36 _ _ _ (⟨1,2,0,1⟩:S36) [.int .i64 1, .int .i64 2, .int .i64 0, .int .i64 1] from (jNb _ _ _ (⟨1,2,0,1⟩:S36) )) (Reps.c4 (show Kd.M k36 _ _ _ (⟨0,10,0,0⟩:S36) [.int .i64 0, .int .i64 10, .int .i64 0, .int .i64 0] from (jNb _ _ _ (⟨0,10,0,0⟩:S36) )) (Reps.c4 (show Kd.M k36 _ _ _ (⟨1,1,1,0⟩:S36) [.int .i64 1, .int .i64 1, .int .i64 1, .int .i64 0] from (jNb _ _ _ (⟨1,1,1,0⟩:S36) )) (Reps.none _ _))))));intro v320 w31 ho32 hb hg_ hnew_;clear hg_ hnew_;(first | rw [← Ny319.out] at ho32 |(simp only [Int.reduceToNat] at ho32;rw [← Ny319.out] at ho32));have HO321:=am (Kd.jaa ho32 (jN (w:=w) (g:=g) (row:=none) (Y19)));replace BK318:=am (jk (g:=gb318) (o:=.cells #[.slice A1_0 l1_0.length c1_0] 25 (0,0)) (kq BK318.out) hb);replace HK:=am (jb.trans (Y19) (jb.of_below hb g none) (.inl rfl));replace HB:=am (je (Y33) hb);replace HI0:=am (jf.below (Y23) hb);clear hb ho32))
    go_ret
    exact ⟨_,Y0,rq HO321.out,Y23,Y33,Y19⟩
end Go.Proofs.Ytkedkinojeoeaaa.P
end
