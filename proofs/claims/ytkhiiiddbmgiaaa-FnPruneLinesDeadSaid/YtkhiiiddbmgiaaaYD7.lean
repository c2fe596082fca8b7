/- One part of the proofs on this program: functions of the program as plain functions, that the code comes to them, and facts on them. -/
import Derived.Test.YtkhiiiddbmgiaaaYD1
import Derived.Test.YtkhiiiddbmgiaaaYD4
import Derived.Test.YtkhiiiddbmgiaaaYD5
import Derived.Test.YtkhiiiddbmgiaaaYD6
import Derived.Test.YtkhiiiddbmgiaaaYWAuto
section
namespace Go.Proofs.Ytkhiiiddbmgiaaa.P
open Go.RowKit Go.Proofs.YtkhiiiddbmgiaaaW.PrintWords Go.Proofs.YtkhiiiddbmgiaaaW.PrintLast Go.Proofs.YtkhiiiddbmgiaaaW.PrintMore
attribute [local go_sem] jea jca jsa jra jR jQ jda jba jg
set_option linter.unusedVariables false
set_option linter.unusedSimpArgs false
set_option maxHeartbeats 8000000 in
set_option maxRecDepth 100000 in
theorem jU.calls_of (k : Nat) (ih106 : ∀ k_, k_ < k → ∀ (g : Nat) (s0_0 : List Int) (s0_1 : Int) (A1_0 : Option Addr) (c1_0 : Nat) (l1_0 : List (S78)) (a2 : Int) (a3 : Bool) (r1 : List (S52)) (r2 : Int) (w0 w : World) (hI : je w0 w g s0_0 s0_1) (hB : Below w0.heap.size w0 w) (hr1_0 : ∀ W_, jb w W_ g none → Kd.C k78 W_ A1_0 l1_0.length l1_0) (hc1_0 : l1_0.length ≤ c1_0) (h : jw.f k_ s0_0 s0_1 l1_0 a2 a3 = some (r1, r2)), Calls Try.prog 106 #[.pointer (some ⟨g, 0, none⟩), .agg #[.slice A1_0 l1_0.length c1_0], .int .i64 a2, .bool a3] w fun e w' => ∃ v0_ : Value, e = .returned (v0_) ∧ Kd.R k52 52 w' w.heap.size (fun _ => True) v0_ r1 ∧ je w0 w' g s0_0 r2 ∧ Below w0.heap.size w0 w' ∧ jb w w' g none) (ih100 : ∀ k_, k_ < k → ∀ (g : Nat) (s0_0 : List Int) (s0_1 : Int) (A1_0 : Option Addr) (c1_0 : Nat) (l1_0 : List (S78)) (a2 : Int) (a3 : Bool) (r1 : List (S52)) (r2 : Int) (w0 w : World) (hI : je w0 w g s0_0 s0_1) (hB : Below w0.heap.size w0 w) (hr1_0 : ∀ W_, jb w W_ g none → Kd.C k78 W_ A1_0 l1_0.length l1_0) (hc1_0 : l1_0.length ≤ c1_0) (h : jI.f k_ s0_0 s0_1 l1_0 a2 a3 = some (r1, r2)), Calls Try.prog 100 #[.pointer (some ⟨g, 0, none⟩), .agg #[.slice A1_0 l1_0.length c1_0], .int .i64 a2, .bool a3] w fun e w' => ∃ v0_ : Value, e = .returned (v0_) ∧ Kd.R k52 52 w' w.heap.size (fun _ => True) v0_ r1 ∧ je w0 w' g s0_0 r2 ∧ Below w0.heap.size w0 w' ∧ jb w w' g none) (ih99 : ∀ k_, k_ < k → ∀ (g : Nat) (s0_0 : List Int) (s0_1 : Int) (A1_0 : Option Addr) (c1_0 : Nat) (l1_0 : List (S78)) (a2 : Int) (a3 : Bool) (r1 : List (S52)) (r2 : Int) (w0 w : World) (hI : je w0 w g s0_0 s0_1) (hB : Below w0.heap.size w0 w) (hr1_0 : ∀ W_, jb w W_ g none → Kd.C k78 W_ A1_0 l1_0.length l1_0) (hc1_0 : l1_0.length ≤ c1_0) (h : jU.f k_ s0_0 s0_1 l1_0 a2 a3 = some (r1, r2)), Calls Try.prog 99 #[.pointer (some ⟨g, 0, none⟩), .agg #[.slice A1_0 l1_0.length c1_0], .int .i64 a2, .bool a3] w fun e w' => ∃ v0_ : Value, e = .returned (v0_) ∧ Kd.R k52 52 w' w.heap.size (fun _ => True) v0_ r1 ∧ je w0 w' g s0_0 r2 ∧ Below w0.heap.size w0 w' ∧ jb w w' g none) : ∀ (g : Nat) (s0_0 : List Int) (s0_1 : Int) (A1_0 : Option Addr) (c1_0 : Nat) (l1_0 : List (S78)) (a2 : Int) (a3 : Bool) (r1 : List (S52)) (r2 : Int) (w0 w : World) (hI : je w0 w g s0_0 s0_1) (hB : Below w0.heap.size w0 w) (hr1_0 : ∀ W_, jb w W_ g none → Kd.C k78 W_ A1_0 l1_0.length l1_0) (hc1_0 : l1_0.length ≤ c1_0) (h : jU.f k s0_0 s0_1 l1_0 a2 a3 = some (r1, r2)),
  Calls Try.prog 99 #[.pointer (some ⟨g,0,none⟩), .agg #[.slice A1_0 l1_0.length c1_0], .int .i64 a2, .bool a3] w fun e w'=>∃ v0_:Value,e=.returned (v0_)∧Kd.R k52 52 w' w.heap.size (fun _=>True) v0_ r1∧je w0 w' g s0_0 r2∧Below w0.heap.size w0 w'∧jb w w' g none:=by
 intro g s0_0 s0_1 A1_0 c1_0 l1_0 a2 a3 r1 r2 w0 w hI hB hr1_0 hc1_0 h
 cases k with
 | zero=>exact absurd h (by simp [jU.f])
 | succ k =>
 simp only [jU.f] at h
 have hu32:=Try.underlying32
 have hu52:=Try.underlying52
 have HR1_0:=am hr1_0
 have HC1_0:=am hc1_0
 clear hr1_0 hc1_0
 have HI0:=am hI
 have HK:=am (jb.refl w g none)
 have HL:=am hB.size
 clear hI
 have HW0:=am hB.size
 have HB:=am hB
 clear hB
 have H:((some (([(⟨a2,7,0,0⟩:S52)]:List (S52)):List (S52))).bind fun y736=>((jI.f k s0_0 s0_1 l1_0 (wrap64 (a2+1)) a3).bind fun bt739=>(if y736.length+bt739.1.length<4398046511104 then ((jh.f k s0_0 bt739.2 (([1,2,0,1]:List Int))).bind fun bt749=>(jU.l0 k a2 a3 (y736 ++ bt739.1) bt749.1 bt749.1 s0_0 bt749.2 l1_0)) else (none))))=some (r1,r2):=h
 clear h
 obtain ⟨y736,hy736⟩:∃ y_:List (S52),y_=(([(⟨a2,7,0,0⟩:S52)]:List (S52))):=⟨_,rfl⟩
 replace H:((jI.f k s0_0 s0_1 l1_0 (wrap64 (a2+1)) a3).bind fun bt739=>(if y736.length+bt739.1.length<4398046511104 then ((jh.f k s0_0 bt739.2 (([1,2,0,1]:List Int))).bind fun bt749=>(jU.l0 k a2 a3 (y736 ++ bt739.1) bt749.1 bt749.1 s0_0 bt749.2 l1_0)) else (none)))=some (r1,r2):=by first |(rw [hy736];with_reducible exact H) |(have H2_:=(Option.bind_some _ _).symm.trans H;rw [hy736];with_reducible exact H2_) |(have H2_:=(Option.bind_some _ _).symm.trans H;with_reducible exact H2_) | with_reducible exact H |(rw [hy736];exact H) | exact H
 have Ny736:=am hy736
 clear hy736
 replace H:=bzS H
 obtain ⟨⟨t739,t742⟩,A50,H⟩:=H
 replace H:(if y736.length+t739.length<4398046511104 then ((jh.f k s0_0 t742 (([1,2,0,1]:List Int))).bind fun bt749=>(jU.l0 k a2 a3 (y736 ++ t739) bt749.1 bt749.1 s0_0 bt749.2 l1_0)) else (none))=some (r1,r2):=H
 have A5:=am A50
 clear A50
 by_cases c6:y736.length+t739.length<4398046511104
 ·rw [if_pos c6] at H
  have LMc6:=am c6
  clear c6
  obtain ⟨y743,hy743⟩:∃ y_:List (S52),y_=(y736 ++ t739):=⟨_,rfl⟩
  replace H:((jh.f k s0_0 t742 (([1,2,0,1]:List Int))).bind fun bt749=>(jU.l0 k a2 a3 y743 bt749.1 bt749.1 s0_0 bt749.2 l1_0))=some (r1,r2):=by first |(rw [hy743];with_reducible exact H) |(have H2_:=(Option.bind_some _ _).symm.trans H;rw [hy743];with_reducible exact H2_) |(have H2_:=(Option.bind_some _ _).symm.trans H;with_reducible exact H2_) | with_reducible exact H |(rw [hy743];exact H) | exact H
  have Ny743:=am hy743
  clear hy743
  obtain ⟨y746,hy746⟩:∃ y_:List Int,y_=(([1,2,0,1]:List Int)):=⟨_,rfl⟩
  replace H:((jh.f k s0_0 t742 y746).bind fun bt749=>(jU.l0 k a2 a3 y743 bt749.1 bt749.1 s0_0 bt749.2 l1_0))=some (r1,r2):=by first |(rw [hy746];with_reducible exact H) |(have H2_:=(Option.bind_some _ _).symm.trans H;rw [hy746];with_reducible exact H2_) |(have H2_:=(Option.bind_some _ _).symm.trans H;with_reducible exact H2_) | with_reducible exact H |(rw [hy746];exact H) | exact H
  have Ny746:=am hy746
  clear hy746
  replace H:=bzS H
  obtain ⟨⟨t749,t750⟩,A70,H⟩:=H
  replace H:(jU.l0 k a2 a3 y743 t749 t749 s0_0 t750 l1_0)=some (r1,r2):=H
  have A7:=am A70
  clear A70
  have H':=am H
  clear H
  go_enter Try.func99,Try.ntmps99
  go_wp2_with (first |((with_reducible refine jP (N:=5) rfl ?_);refine bE (N:=5) (cs:=#[.slice A1_0 l1_0.length c1_0]) (t:=32) ?_;intro gb735 hg w8 hbox hb;have BK735:=am (hbox);have GW735:=am ((Y12:w.heap.size≤gb735));have GE735:=am ((Nat.le_trans HW0.out (Y12:w.heap.size≤gb735):w0.heap.size≤gb735));have NB0_735:=am ((Y28:g≠gb735));have NB735_0:=am ((Y29:gb735≠g));replace HK:=am (jb.trans (Y16) (jb.of_below hb g none) (.inl rfl));replace HB:=am (ji (Y17) hb);replace HI0:=am (je.below (Y15) hb);clear hb hbox hg) |((with_reducible refine jP (N:=14) rfl ?_);refine Kd.jYb k52 _ 52 ?hg (N:=14) ?hd (xs:=([(⟨a2,7,0,0⟩:S52)]:List (S52))) (inner:=[.int .i64 a2, .int .i64 7, .int .i64 0, .int .i64 0]) (ok:=fun _=>True) (okp:=fun _=>True) ?hr ?hp (fun _ hk=>hk) trivial (Below.refl _ _) (Nat.le_refl _) (by simp) ?_;(case hd=>rfl);(case hg=>rfl);(case hr=>exact Y8);(case hp=>exact (Reps.c4 (show Kd.M k52 _ _ _ (⟨a2,7,0,0⟩:S52) [.int .i64 a2, .int .i64 7, .int .i64 0, .int .i64 0] from (jpb _ _ _ (⟨a2,7,0,0⟩:S52) )) (Reps.none _ _)));intro v737 w9 ho10 hb hg_ hnew_;clear hg_ hnew_;(first | rw [← Ny736.out] at ho10 |(simp only [Int.reduceToNat] at ho10;rw [← Ny736.out] at ho10));have HO738:=am (Kd.jfa ho10 (jL (w:=w) (g:=g) (row:=none) (Y5)));replace BK735:=am (jr (g:=gb735) (o:=.cells #[.slice A1_0 l1_0.length c1_0] 32 (0,0)) (kq BK735.out) hb);replace HK:=am (jb.trans (Y5) (jb.of_below hb g none) (.inl rfl));replace HB:=am (ji (Y10) hb);replace HI0:=am (je.below (Y7) hb);clear hb ho10;have hnb11:=NB735_0.out;have hnc11:=NB0_735.out;have hcz12_0:=bc0 BK735.out;have hfz12_0:=ja BK735.out 0) |((with_reducible refine jd (f:=100) rfl ?_);refine gL (some 20) Try.func100 #[.pointer (some ⟨g,0,none⟩), .agg #[.slice A1_0 l1_0.length c1_0], .int .i64 (wrap64 (a2+1)), .bool a3] ?_;(with_reducible refine (ih100 k (by omega) g s0_0 s0_1 _ _ l1_0 (wrap64 (a2+1)) a3 t739 t742 w0 _ ?side1 ?side2 ?side3 ?side4 A5.out).mono ?_);(case side1=>exact Y7);(case side2=>exact Y10);(case side3=>exact Kd.jmb HR1_0.out (Y5));(case side4=>exact HC1_0.out);rintro e w13 ⟨v740,rfl,ho0,hi,hb,hk⟩;refine ⟨_,rfl,?_⟩;have HO741:=am (Kd.jfa (Kd.jzb ho0 (Kd.R_lt (rq HO738.out))) (jL (w:=w) (g:=g) (row:=none) (Y5)));replace BK735:=am (jb.blk hk (g':=gb735) (o:=.cells #[.slice A1_0 l1_0.length c1_0] 32 (0,0)) (kq BK735.out) NB735_0.out (by simp));replace HO738:=am (Kd.jG (Kd.R_told (Kd.R_oldK (je.apart (show je w0 _ g s0_0 s0_1 from Y7) (rq HO738.out) (by decide)) hk) (Kd.jAb ho0)) (fun _ h_=>h_.1));replace HK:=am (jb.trans (Y5) hk (.inl rfl));replace HB:=am (hb);replace HI0:=am (hi);(try clear hb);(try clear hb2);(try clear hk);(try clear hi);(try clear ho0);obtain ⟨Ao15,co15,eo15⟩:=Kd.jta HO741.out;subst eo15) |((with_reducible refine jEa (b:=.append) (xs:=#[.tmp 14, .tmp 20]) rfl ?_);at_builtin;refine Kd.jKb k52 w.heap.size rfl (.tmp 14) (.tmp 20) 28 52 (.agg #[(.int .i64 0),(.int .i64 0),(.int .i64 0),(.int .i64 0)]) 32 rfl Try.underlying28 jac rfl (by decide) (by omega) v737 y736 t739 _ _ _ (fun k_=>some k_≠(.slice Ao15 t739.length co15:Value).ownBlock) (fun _=>False) rfl rfl ?aO ?aR (fun _ _ h=>h) (fun _ h=>h.elim) ?aF (Below.refl _ _) ?aS ?aL ?_;(case aR=>repeat (first | exact (Kd.jC HO741.out).2.2 |(with_reducible refine Kd.jqc ?_ _) |(with_reducible refine Kd.jlc ?_ _) |(with_reducible refine Kd.C_drew ?_)));(case aF=>exact (fun k_ hk=>Kd.fresh' (Kd.R_lt (rq HO741.out)) k_ hk));(case aO=>exact (by (with_reducible repeat (first | apply Kd.jma | apply Kd.jla | apply Kd.jva));exact Kd.jG HO738.out (fun _ hk=>hk.2)));(case aS=>exact (jL (w:=w) (g:=g) (row:=none) (Y5)));(case aL=>have:=LMc6.out;omega);intro v744 w14 ho hb hg hat;rw [← Ny743.out] at ho;have n0_:=am (je.grown (Y7) hg (je.own_ne HI0.out HO738.out (by decide)));have n1_:=am (jOa (g:=gb735) (o:=.cells #[.slice A1_0 l1_0.length c1_0] 32 (0,0)) (kq BK735.out) hg (Kd.R_ne HO738.out BK735.out (by decide)));have n2_:=am (Kd.jMc (ok:=(fun _=>True)) (rq HO741.out) hg hat);have n3_:=am (jbb (Y10) HL.out hb);have n4_:=am (jb.trans (Y5) (jb.jub hg g) (Kd.jTb HO738.out));have n5_:=am (ho);clear HI0 BK735 HO741 HB HK HO738;have HI0:=n0_;have BK735:=n1_;have HO741:=n2_;have HB:=n3_;have HK:=n4_;have HO745:=n5_;clear n0_ n1_ n2_ n3_ n4_ n5_ ho hb hg hat) |((with_reducible refine jP (N:=23) rfl ?_);refine Kd.jYb (Kd.int .i64) _ 3 ?hg (N:=23) ?hd (xs:=([1,2,0,1]:List Int)) (inner:=[.int .i64 1, .int .i64 2, .int .i64 0, .int .i64 1]) (ok:=fun _=>True) (okp:=fun _=>True) ?hr ?hp (fun _ hk=>hk) trivial (Below.refl _ _) (Nat.le_refl _) (by simp) ?_;(case hd=>rfl);(case hg=>rfl);(case hr=>exact Y8);(case hp=>exact (Reps.one (show Kd.M (Kd.int .i64) _ _ _ 1 [.int .i64 1] from rfl) (Reps.one (show Kd.M (Kd.int .i64) _ _ _ 2 [.int .i64 2] from rfl) (Reps.one (show Kd.M (Kd.int .i64) _ _ _ 0 [.int .i64 0] from rfl) (Reps.one (show Kd.M (Kd.int .i64) _ _ _ 1 [.int .i64 1] from rfl) (Reps.none _ _))))));intro v747 w16 ho17 hb hg_ hnew_;clear hg_ hnew_;(first | rw [← Ny746.out] at ho17 |(simp only [Int.reduceToNat] at ho17;rw [← Ny746.out] at ho17));have HO748:=am (Kd.jfa ho17 (jL (w:=w) (g:=g) (row:=none) (Y5)));replace HO741:=am (Kd.jqa (rq HO741.out) hb);replace HO745:=am (Kd.jqa (rq HO745.out) hb);replace BK735:=am (jr (g:=gb735) (o:=.cells #[.slice A1_0 l1_0.length c1_0] 32 (0,0)) (kq BK735.out) hb);replace HK:=am (jb.trans (Y5) (jb.of_below hb g none) (.inl rfl));replace HB:=am (ji (Y10) hb);replace HI0:=am (je.below (Y7) hb);clear hb ho17;obtain ⟨Ao18,co18,eo18⟩:=Kd.jta HO748.out;subst eo18) |((with_reducible refine jd (f:=77) rfl ?_);refine gL (some 24) Try.func77 #[.pointer (some ⟨g,0,none⟩), .slice Ao18 y746.length co18] ?_;(with_reducible refine (jh.calls k g s0_0 t742 _ _ y746 t749 t750 w0 _ ?side1 ?side2 ?side3 ?side4 ?side5 A7.out).mono ?_);(case side1=>exact Y7);(case side2=>exact Y10);(case side3=>exact cq (Kd.jC HO748.out).2.2);(case side4=>exact (Kd.jC HO748.out).2.1);(case side5=>exact jxb (je.own_ne HI0.out HO748.out (by decide)));rintro e w19 ⟨rfl,hi,hb,hk⟩;refine ⟨_,rfl,?_⟩;replace BK735:=am (jb.blk hk (g':=gb735) (o:=.cells #[.slice A1_0 l1_0.length c1_0] 32 (0,0)) (kq BK735.out) NB735_0.out (by simp));replace HO741:=am (Kd.jG (Kd.jBa (je.apart (show je w0 _ g s0_0 t742 from Y7) (rq HO741.out) (by decide)) hk (fun _ h=>h.2)) (fun _ h=>h.1));replace HO745:=am (Kd.jG (Kd.jBa (je.apart (show je w0 _ g s0_0 t742 from Y7) (rq HO745.out) (by decide)) hk (fun _ h=>h.2)) (fun _ h=>h.1));replace HO748:=am (Kd.jG (Kd.jBa (je.apart (show je w0 _ g s0_0 t742 from Y7) (rq HO748.out) (by decide)) hk (fun _ h=>h.2)) (fun _ h=>h.1));replace HK:=am (jb.trans (Y5) hk (.inl rfl));replace HB:=am (hb);replace HI0:=am (hi);(try clear hb);(try clear hb2);(try clear hk);(try clear hi)))
  go_loopg [9,11] k (fun kq v9 v11 w'=>∃ (x9_1:List (S52)) (x11_1:Int) (x1001_1:Int),v11=.int .i64 x11_1∧jl (jU.l0 kq a2 a3 x9_1 t749 x11_1 s0_0 x1001_1 l1_0=some (r1,r2))∧jl (kq≤k)∧jl (Kd.R k52 52 w' w.heap.size (fun _=>True) v9 x9_1)∧jl (w'.heap[gb735]?=some (.cells #[(.slice A1_0 l1_0.length c1_0)] 32 (0,0)))∧jl (je w0 w' g s0_0 x1001_1)∧jl (jb w w' g none)∧jl (Below w0.heap.size w0 w'))
  case atStart=>exact ⟨(y743),(t749),(t750),(sq),H',⟨Nat.le_refl _⟩,⟨by (with_reducible repeat (first | apply Kd.jma | apply Kd.jla | apply Kd.jva));exact Kd.jG HO745.out (fun _ hk=>trivial)⟩,⟨kq BK735.out⟩,⟨Y7⟩,⟨Y5⟩,⟨Y10⟩⟩
  case round =>
   clear H'
   try clear c1
   try clear p2
   try clear c4
   try clear c6
   try clear p6
   try clear c7
   try clear c9
   try clear c10
   try clear c11
   try clear hcz12_0
   try clear hfz12_0
   obtain ⟨x9_1,x11_1,x1001_1,rfl,HA,HK1,HO_9,BK735,HI0,HK,HB⟩:=hrel
   cases gk with
   | zero=>exact absurd HA.out (by simp [jU.l0])
   | succ k1 =>
    have H:=HA.out
    clear HA
    simp only [jU.l0] at H
    by_cases c20:x11_1 > 0
    ·rw [if_pos c20] at H
     have c20b0:decide (0<x11_1)=true:=dzT c20
     clear c20
     replace H:=bzS H
     obtain ⟨⟨t751,t752⟩,A210,H⟩:=H
     replace H:((jh.f k1 s0_0 t752 (([t751,0]:List Int))).bind fun bt756=>(if x9_1.length<4398046511104 then ((some (x9_1 ++ [(⟨a2,8,bt756.1,0⟩:S52)]:List (S52))).bind fun y758=>((jI.f k1 s0_0 bt756.2 l1_0 (wrap64 (a2+1)) a3).bind fun bt761=>(if y758.length+bt761.1.length<4398046511104 then (jU.l0 k1 a2 a3 (y758 ++ bt761.1) t749 (wrap64 (x11_1 - 1)) s0_0 bt761.2 l1_0) else (none)))) else (none)))=some (r1,r2):=H
     have A21:=am A210
     clear A210
     obtain ⟨y753,hy753⟩:∃ y_:List Int,y_=(([t751,0]:List Int)):=⟨_,rfl⟩
     replace H:((jh.f k1 s0_0 t752 y753).bind fun bt756=>(if x9_1.length<4398046511104 then ((some (x9_1 ++ [(⟨a2,8,bt756.1,0⟩:S52)]:List (S52))).bind fun y758=>((jI.f k1 s0_0 bt756.2 l1_0 (wrap64 (a2+1)) a3).bind fun bt761=>(if y758.length+bt761.1.length<4398046511104 then (jU.l0 k1 a2 a3 (y758 ++ bt761.1) t749 (wrap64 (x11_1 - 1)) s0_0 bt761.2 l1_0) else (none)))) else (none)))=some (r1,r2):=by first |(rw [hy753];with_reducible exact H) |(have H2_:=(Option.bind_some _ _).symm.trans H;rw [hy753];with_reducible exact H2_) |(have H2_:=(Option.bind_some _ _).symm.trans H;with_reducible exact H2_) | with_reducible exact H |(rw [hy753];exact H) | exact H
     have Ny753:=am hy753
     clear hy753
     replace H:=bzS H
     obtain ⟨⟨t756,t757⟩,A220,H⟩:=H
     replace H:(if x9_1.length<4398046511104 then ((some (x9_1 ++ [(⟨a2,8,t756,0⟩:S52)]:List (S52))).bind fun y758=>((jI.f k1 s0_0 t757 l1_0 (wrap64 (a2+1)) a3).bind fun bt761=>(if y758.length+bt761.1.length<4398046511104 then (jU.l0 k1 a2 a3 (y758 ++ bt761.1) t749 (wrap64 (x11_1 - 1)) s0_0 bt761.2 l1_0) else (none)))) else (none))=some (r1,r2):=H
     have A22:=am A220
     clear A220
     by_cases c23:x9_1.length<4398046511104
     ·rw [if_pos c23] at H
      have LMc23:=am c23
      clear c23
      obtain ⟨y758,hy758⟩:∃ y_:List (S52),y_=(x9_1 ++ [(⟨a2,8,t756,0⟩:S52)]):=⟨_,rfl⟩
      replace H:((jI.f k1 s0_0 t757 l1_0 (wrap64 (a2+1)) a3).bind fun bt761=>(if y758.length+bt761.1.length<4398046511104 then (jU.l0 k1 a2 a3 (y758 ++ bt761.1) t749 (wrap64 (x11_1 - 1)) s0_0 bt761.2 l1_0) else (none)))=some (r1,r2):=by first |(rw [hy758];with_reducible exact H) |(have H2_:=(Option.bind_some _ _).symm.trans H;rw [hy758];with_reducible exact H2_) |(have H2_:=(Option.bind_some _ _).symm.trans H;with_reducible exact H2_) | with_reducible exact H |(rw [hy758];exact H) | exact H
      have Ny758:=am hy758
      clear hy758
      replace H:=bzS H
      obtain ⟨⟨t761,t764⟩,A240,H⟩:=H
      replace H:(if y758.length+t761.length<4398046511104 then (jU.l0 k1 a2 a3 (y758 ++ t761) t749 (wrap64 (x11_1 - 1)) s0_0 t764 l1_0) else (none))=some (r1,r2):=H
      have A24:=am A240
      clear A240
      by_cases c25:y758.length+t761.length<4398046511104
      ·rw [if_pos c25] at H
       have LMc25:=am c25
       clear c25
       obtain ⟨y765,hy765⟩:∃ y_:List (S52),y_=(y758 ++ t761):=⟨_,rfl⟩
       replace H:(jU.l0 k1 a2 a3 y765 t749 (wrap64 (x11_1 - 1)) s0_0 t764 l1_0)=some (r1,r2):=by first |(rw [hy765];with_reducible exact H) |(have H2_:=(Option.bind_some _ _).symm.trans H;rw [hy765];with_reducible exact H2_) |(have H2_:=(Option.bind_some _ _).symm.trans H;with_reducible exact H2_) | with_reducible exact H |(rw [hy765];exact H) | exact H
       have Ny765:=am hy765
       clear hy765
       have H':=am H
       clear H
       have hnb26:=NB735_0.out
       have hnc26:=NB0_735.out
       have hcz27_0:=bc0 BK735.out
       have hfz27_0:=ja BK735.out 0
       go_wp2_with (first |((with_reducible refine jd (f:=76) rfl ?_);refine gL (some 37) Try.func76 #[.pointer (some ⟨g,0,none⟩), .int .i64 (l1_0.length:Int)] ?_;(with_reducible refine (jf.calls k1 g s0_0 x1001_1 (l1_0.length:Int) t751 t752 w0 _ ?side1 ?side2 A21.out).mono ?_);(case side1=>exact Y7);(case side2=>exact Y10);rintro e w28 ⟨rfl,hi,hb,hk⟩;refine ⟨_,rfl,?_⟩;replace HO_9:=am (Kd.jG (Kd.jBa (je.apart (show je w0 _ g s0_0 x1001_1 from Y7) (rq HO_9.out) (by decide)) hk (fun _ h=>h.2)) (fun _ h=>h.1));replace BK735:=am (jb.blk hk (g':=gb735) (o:=.cells #[.slice A1_0 l1_0.length c1_0] 32 (0,0)) (kq BK735.out) NB735_0.out (by simp));replace HK:=am (jb.trans (Y5) hk (.inl rfl));replace HB:=am (hb);replace HI0:=am (hi);(try clear hb);(try clear hb2);(try clear hk);(try clear hi)) |((with_reducible refine jP (N:=38) rfl ?_);refine Kd.jYb (Kd.int .i64) _ 3 ?hg (N:=38) ?hd (xs:=([t751,0]:List Int)) (inner:=[.int .i64 t751, .int .i64 0]) (ok:=fun _=>True) (okp:=fun _=>True) ?hr ?hp (fun _ hk=>hk) trivial (Below.refl _ _) (Nat.le_refl _) (by simp) ?_;(case hd=>rfl);(case hg=>rfl);(case hr=>exact Y8);(case hp=>exact (Reps.one (show Kd.M (Kd.int .i64) _ _ _ t751 [.int .i64 t751] from rfl) (Reps.one (show Kd.M (Kd.int .i64) _ _ _ 0 [.int .i64 0] from rfl) (Reps.none _ _))));intro v754 w29 ho30 hb hg_ hnew_;clear hg_ hnew_;(first | rw [← Ny753.out] at ho30 |(simp only [Int.reduceToNat] at ho30;rw [← Ny753.out] at ho30));have HO755:=am (Kd.jfa ho30 (jL (w:=w) (g:=g) (row:=none) (Y5)));replace HO_9:=am (Kd.jqa (rq HO_9.out) hb);replace BK735:=am (jr (g:=gb735) (o:=.cells #[.slice A1_0 l1_0.length c1_0] 32 (0,0)) (kq BK735.out) hb);replace HK:=am (jb.trans (Y5) (jb.of_below hb g none) (.inl rfl));replace HB:=am (ji (Y10) hb);replace HI0:=am (je.below (Y7) hb);clear hb ho30;obtain ⟨Ao31,co31,eo31⟩:=Kd.jta HO755.out;subst eo31) |((with_reducible refine jd (f:=77) rfl ?_);refine gL (some 39) Try.func77 #[.pointer (some ⟨g,0,none⟩), .slice Ao31 y753.length co31] ?_;(with_reducible refine (jh.calls k1 g s0_0 t752 _ _ y753 t756 t757 w0 _ ?side1 ?side2 ?side3 ?side4 ?side5 A22.out).mono ?_);(case side1=>exact Y7);(case side2=>exact Y10);(case side3=>exact cq (Kd.jC HO755.out).2.2);(case side4=>exact (Kd.jC HO755.out).2.1);(case side5=>exact jxb (je.own_ne HI0.out HO755.out (by decide)));rintro e w32 ⟨rfl,hi,hb,hk⟩;refine ⟨_,rfl,?_⟩;replace HO_9:=am (Kd.jG (Kd.jBa (je.apart (show je w0 _ g s0_0 t752 from Y7) (rq HO_9.out) (by decide)) hk (fun _ h=>h.2)) (fun _ h=>h.1));replace BK735:=am (jb.blk hk (g':=gb735) (o:=.cells #[.slice A1_0 l1_0.length c1_0] 32 (0,0)) (kq BK735.out) NB735_0.out (by simp));replace HO755:=am (Kd.jG (Kd.jBa (je.apart (show je w0 _ g s0_0 t752 from Y7) (rq HO755.out) (by decide)) hk (fun _ h=>h.2)) (fun _ h=>h.1));replace HK:=am (jb.trans (Y5) hk (.inl rfl));replace HB:=am (hb);replace HI0:=am (hi);(try clear hb);(try clear hb2);(try clear hk);(try clear hi)) |((with_reducible refine jEa (b:=.append) (xs:=#[.tmp 30, .tmp 41]) rfl ?_);at_builtin;refine Kd.jGb k52 w.heap.size rfl (.tmp 30) (.tmp 41) 28 52 (.agg #[(.int .i64 0),(.int .i64 0),(.int .i64 0),(.int .i64 0)]) 32 rfl Try.underlying28 jac rfl (by decide) (by omega) u9 x9_1 (⟨a2,8,t756,0⟩:S52) [.int .i64 a2, .int .i64 8, .int .i64 t756, .int .i64 0] (fun _=>True) (fun _=>False) rfl rfl ?aP (fun _ hk=>hk.elim) ?aF ?aO (Below.refl _ _) ?aS ?aL ?_;(case aP=>exact jpb _ _ _ (⟨a2,8,t756,0⟩:S52));(case aF=>exact (fun _ _=>trivial));(case aO=>exact (rq HO_9.out));(case aS=>exact (jL (w:=w) (g:=g) (row:=none) (Y5)));(case aL=>have:=LMc23.out;omega);intro v759 w33 ho hb hg hat;rw [← Ny758.out] at ho;have n0_:=am (jOa (g:=gb735) (o:=.cells #[.slice A1_0 l1_0.length c1_0] 32 (0,0)) (kq BK735.out) hg (Kd.R_ne HO_9.out BK735.out (by decide)));have n1_:=am (je.grown (Y7) hg (je.own_ne HI0.out HO_9.out (by decide)));have n2_:=am (Kd.jvc (rq HO755.out) (Kd.juc (rq HO_9.out)) (by decide) hg);have n3_:=am (jbb (Y10) HL.out hb);have n4_:=am (jb.trans (Y5) (jb.jub hg g) (Kd.jTb HO_9.out));have n5_:=am (ho);clear BK735 HI0 HO755 HB HK HO_9;have BK735:=n0_;have HI0:=n1_;have HO755:=n2_;have HB:=n3_;have HK:=n4_;have HO760:=n5_;clear n0_ n1_ n2_ n3_ n4_ n5_ ho hb hg hat;have hcz34_0:=bc0 BK735.out;have hfz34_0:=ja BK735.out 0) |((with_reducible refine jd (f:=100) rfl ?_);refine gL (some 49) Try.func100 #[.pointer (some ⟨g,0,none⟩), .agg #[.slice A1_0 l1_0.length c1_0], .int .i64 (wrap64 (a2+1)), .bool a3] ?_;(with_reducible refine (ih100 k1 (by have:=HK1.out;omega) g s0_0 t757 _ _ l1_0 (wrap64 (a2+1)) a3 t761 t764 w0 _ ?side1 ?side2 ?side3 ?side4 A24.out).mono ?_);(case side1=>exact Y7);(case side2=>exact Y10);(case side3=>exact Kd.jmb HR1_0.out (Y5));(case side4=>exact HC1_0.out);rintro e w35 ⟨v762,rfl,ho0,hi,hb,hk⟩;refine ⟨_,rfl,?_⟩;have HO763:=am (Kd.jfa (Kd.jzb ho0 (Kd.R_lt (rq HO760.out))) (jL (w:=w) (g:=g) (row:=none) (Y5)));replace BK735:=am (jb.blk hk (g':=gb735) (o:=.cells #[.slice A1_0 l1_0.length c1_0] 32 (0,0)) (kq BK735.out) NB735_0.out (by simp));replace HO755:=am (Kd.jG (Kd.jBa (je.apart (show je w0 _ g s0_0 t757 from Y7) (rq HO755.out) (by decide)) hk (fun _ h=>h.2)) (fun _ h=>h.1));replace HO760:=am (Kd.jG (Kd.R_told (Kd.R_oldK (je.apart (show je w0 _ g s0_0 t757 from Y7) (rq HO760.out) (by decide)) hk) (Kd.jAb ho0)) (fun _ h_=>h_.1));replace HK:=am (jb.trans (Y5) hk (.inl rfl));replace HB:=am (hb);replace HI0:=am (hi);(try clear hb);(try clear hb2);(try clear hk);(try clear hi);(try clear ho0);obtain ⟨Ao37,co37,eo37⟩:=Kd.jta HO763.out;subst eo37) |((with_reducible refine jEa (b:=.append) (xs:=#[.tmp 43, .tmp 49]) rfl ?_);at_builtin;refine Kd.jKb k52 w.heap.size rfl (.tmp 43) (.tmp 49) 28 52 (.agg #[(.int .i64 0),(.int .i64 0),(.int .i64 0),(.int .i64 0)]) 32 rfl Try.underlying28 jac rfl (by decide) (by omega) v759 y758 t761 _ _ _ (fun k_=>some k_≠(.slice Ao37 t761.length co37:Value).ownBlock) (fun _=>False) rfl rfl ?aO ?aR (fun _ _ h=>h) (fun _ h=>h.elim) ?aF (Below.refl _ _) ?aS ?aL ?_;(case aR=>repeat (first | exact (Kd.jC HO763.out).2.2 |(with_reducible refine Kd.jqc ?_ _) |(with_reducible refine Kd.jlc ?_ _) |(with_reducible refine Kd.C_drew ?_)));(case aF=>exact (fun k_ hk=>Kd.fresh' (Kd.R_lt (rq HO763.out)) k_ hk));(case aO=>exact (by (with_reducible repeat (first | apply Kd.jma | apply Kd.jla | apply Kd.jva));exact Kd.jG HO760.out (fun _ hk=>hk.2)));(case aS=>exact (jL (w:=w) (g:=g) (row:=none) (Y5)));(case aL=>have:=LMc25.out;omega);intro v766 w36 ho hb hg hat;rw [← Ny765.out] at ho;have n0_:=am (jOa (g:=gb735) (o:=.cells #[.slice A1_0 l1_0.length c1_0] 32 (0,0)) (kq BK735.out) hg (Kd.R_ne HO760.out BK735.out (by decide)));have n1_:=am (je.grown (Y7) hg (je.own_ne HI0.out HO760.out (by decide)));have n2_:=am (Kd.jvc (rq HO755.out) (Kd.juc (rq HO760.out)) (by decide) hg);have n3_:=am (Kd.jMc (ok:=(fun _=>True)) (rq HO763.out) hg hat);have n4_:=am (jbb (Y10) HL.out hb);have n5_:=am (jb.trans (Y5) (jb.jub hg g) (Kd.jTb HO760.out));have n6_:=am (ho);clear BK735 HI0 HO755 HO763 HB HK HO760;have BK735:=n0_;have HI0:=n1_;have HO755:=n2_;have HO763:=n3_;have HB:=n4_;have HK:=n5_;have HO767:=n6_;clear n0_ n1_ n2_ n3_ n4_ n5_ n6_ ho hb hg hat))
       go_roundg k1
       case measure=>have:=HK1.out;omega
       case rel=>exact ⟨(y765),(wrap64 (x11_1 - 1)),(t764),(sq),H',⟨by have:=HK1.out;omega⟩,⟨by (with_reducible repeat (first | apply Kd.jma | apply Kd.jla | apply Kd.jva));exact Kd.jG HO767.out (fun _ hk=>trivial)⟩,⟨kq BK735.out⟩,⟨Y7⟩,⟨Y5⟩,⟨Y10⟩⟩
      ·rw [if_neg c25] at H
       exact absurd H (by simp)
     ·rw [if_neg c23] at H
      exact absurd H (by simp)
    ·rw [if_neg c20] at H
     have c20b0:decide (0<x11_1)=false:=dzF c20
     clear c20
     have HC38:=am H
     clear H
     go_upto_region 8 with (fail)
     go_cut [57] (fun v57 wc=>∃ (kq:Nat) (x57_37:Bool) (x1001_37:Int),v57=.bool x57_37∧jl (jU.j1 kq a2 a3 x9_1 t749 x57_37 s0_0 x1001_37 l1_0=some (r1,r2))∧jl (kq≤k1)∧jl (Kd.R k52 52 wc w.heap.size (fun _=>True) u9 x9_1)∧jl (wc.heap[gb735]?=some (.cells #[(.slice A1_0 l1_0.length c1_0)] 32 (0,0)))∧jl (je w0 wc g s0_0 x1001_37)∧jl (jb w wc g none)∧jl (Below w0.heap.size w0 wc))
     case first =>
      have H:=HC38.out
      clear HC38
      by_cases c39:t749 > 0
      ·rw [if_pos c39] at H
       have c39b0:decide (0<t749)=true:=dzT c39
       clear c39
       (first | rw [c39b0] |(simp only [jkb,jnb];rw [c39b0]) | skip)
       replace H:=bzS H
       obtain ⟨⟨t768,t769⟩,A400,H⟩:=H
       replace H:(jU.j1 k1 a2 a3 x9_1 t749 (t768 == 0) s0_0 t769 l1_0)=some (r1,r2):=H
       have A40:=am A400
       clear A400
       have H':=am H
       clear H
       go_wp2_with (first |(go_at_call 76;(with_reducible refine (jf.calls k1 g s0_0 x1001_1 3 t768 t769 w0 _ ?side1 ?side2 A40.out).mono ?_);(case side1=>exact Y7);(case side2=>exact Y10);rintro e w41 ⟨rfl,hi,hb,hk⟩;replace HO_9:=am (Kd.jG (Kd.jBa (je.apart (show je w0 _ g s0_0 x1001_1 from Y7) (rq HO_9.out) (by decide)) hk (fun _ h=>h.2)) (fun _ h=>h.1));replace BK735:=am (jb.blk hk (g':=gb735) (o:=.cells #[.slice A1_0 l1_0.length c1_0] 32 (0,0)) (kq BK735.out) NB735_0.out (by simp));replace HK:=am (jb.trans (Y5) hk (.inl rfl));replace HB:=am (hb);replace HI0:=am (hi);(try clear hb);(try clear hb2);(try clear hk);(try clear hi)))
       go_meet
       case rel=>exact ⟨_,((t768 == 0)),(t769),(sq),H',⟨by have:=HK1.out;first | omega | exact Nat.le_refl _⟩,⟨rq HO_9.out⟩,⟨kq BK735.out⟩,⟨Y7⟩,⟨Y5⟩,⟨Y10⟩⟩
      ·rw [if_neg c39] at H
       have c39b0:decide (0<t749)=false:=dzF c39
       clear c39
       (first | rw [c39b0] |(simp only [jkb,jnb];rw [c39b0]) | skip)
       have H':=am H
       clear H
       go_wp2
       go_meet
       case rel=>exact ⟨_,(false),(x1001_1),(sq),H',⟨by have:=HK1.out;first | omega | exact Nat.le_refl _⟩,⟨rq HO_9.out⟩,⟨kq BK735.out⟩,⟨Y7⟩,⟨Y5⟩,⟨Y10⟩⟩
     case rest =>
      clear HC38
      try clear c1
      try clear c2
      try clear p2
      try clear c3
      try clear c4
      try clear c6
      try clear p6
      try clear c7
      try clear c9
      try clear c10
      try clear c11
      try clear c20
      try clear c20b0
      try clear c23
      try clear c25
      try clear c26
      try clear c39
      try clear c39b0
      try clear hcz12_0
      try clear hcz27_0
      try clear hcz34_0
      try clear hfz12_0
      try clear hfz27_0
      try clear hfz34_0
      try clear p2
      try clear p6
      obtain ⟨kq,x57_37,x1001_37,rfl,HA,HJ37,HO_9,BK735,HI0,HK,HB⟩:=hcut
      cases kq with
      | zero=>exact absurd HA.out (by simp [jU.j1])
      | succ kj37 =>
       have H:=HA.out
       clear HA
       simp only [jU.j1] at H
       have HC42:=am H
       clear H
       go_upto_if 57 with (fail)
       go_cut [9] (fun v9 wc=>∃ (kq:Nat) (x9_41:List (S52)) (x1001_41:Int),jl (jU.j2 kq a2 a3 x9_41 t749 s0_0 x1001_41 l1_0=some (r1,r2))∧jl (kq≤kj37)∧jl (Kd.R k52 52 wc w.heap.size (fun _=>True) v9 x9_41)∧jl (wc.heap[gb735]?=some (.cells #[(.slice A1_0 l1_0.length c1_0)] 32 (0,0)))∧jl (je w0 wc g s0_0 x1001_41)∧jl (jb w wc g none)∧jl (Below w0.heap.size w0 wc))
       case first =>
        have H:=HC42.out
        clear HC42
        by_cases c43:x57_37=true
        ·subst c43
         have H1:(if x9_1.length<4398046511104 then ((some (x9_1 ++ [(⟨a2,9,0,0⟩:S52)]:List (S52))).bind fun y770=>((jI.f kj37 s0_0 x1001_37 l1_0 (wrap64 (a2+1)) a3).bind fun bt773=>(if y770.length+bt773.1.length<4398046511104 then (jU.j2 kj37 a2 a3 (y770 ++ bt773.1) t749 s0_0 bt773.2 l1_0) else (none)))) else (none))=some (r1,r2):=by rw [if_pos rfl] at H;exact H
         clear H
         have H:=H1
         clear H1
         by_cases c44:x9_1.length<4398046511104
         ·rw [if_pos c44] at H
          have LMc44:=am c44
          clear c44
          obtain ⟨y770,hy770⟩:∃ y_:List (S52),y_=(x9_1 ++ [(⟨a2,9,0,0⟩:S52)]):=⟨_,rfl⟩
          replace H:((jI.f kj37 s0_0 x1001_37 l1_0 (wrap64 (a2+1)) a3).bind fun bt773=>(if y770.length+bt773.1.length<4398046511104 then (jU.j2 kj37 a2 a3 (y770 ++ bt773.1) t749 s0_0 bt773.2 l1_0) else (none)))=some (r1,r2):=by first |(rw [hy770];with_reducible exact H) |(have H2_:=(Option.bind_some _ _).symm.trans H;rw [hy770];with_reducible exact H2_) |(have H2_:=(Option.bind_some _ _).symm.trans H;with_reducible exact H2_) | with_reducible exact H |(rw [hy770];exact H) | exact H
          have Ny770:=am hy770
          clear hy770
          replace H:=bzS H
          obtain ⟨⟨t773,t776⟩,A450,H⟩:=H
          replace H:(if y770.length+t773.length<4398046511104 then (jU.j2 kj37 a2 a3 (y770 ++ t773) t749 s0_0 t776 l1_0) else (none))=some (r1,r2):=H
          have A45:=am A450
          clear A450
          by_cases c46:y770.length+t773.length<4398046511104
          ·rw [if_pos c46] at H
           have LMc46:=am c46
           clear c46
           obtain ⟨y777,hy777⟩:∃ y_:List (S52),y_=(y770 ++ t773):=⟨_,rfl⟩
           replace H:(jU.j2 kj37 a2 a3 y777 t749 s0_0 t776 l1_0)=some (r1,r2):=by first |(rw [hy777];with_reducible exact H) |(have H2_:=(Option.bind_some _ _).symm.trans H;rw [hy777];with_reducible exact H2_) |(have H2_:=(Option.bind_some _ _).symm.trans H;with_reducible exact H2_) | with_reducible exact H |(rw [hy777];exact H) | exact H
           have Ny777:=am hy777
           clear hy777
           have H':=am H
           clear H
           go_wp2_with (first |((with_reducible refine jEa (b:=.append) (xs:=#[.tmp 58, .tmp 61]) rfl ?_);at_builtin;refine Kd.jGb k52 w.heap.size rfl (.tmp 58) (.tmp 61) 28 52 (.agg #[(.int .i64 0),(.int .i64 0),(.int .i64 0),(.int .i64 0)]) 32 rfl Try.underlying28 jac rfl (by decide) (by omega) u9 x9_1 (⟨a2,9,0,0⟩:S52) [.int .i64 a2, .int .i64 9, .int .i64 0, .int .i64 0] (fun _=>True) (fun _=>False) rfl rfl ?aP (fun _ hk=>hk.elim) ?aF ?aO (Below.refl _ _) ?aS ?aL ?_;(case aP=>exact jpb _ _ _ (⟨a2,9,0,0⟩:S52));(case aF=>exact (fun _ _=>trivial));(case aO=>exact (rq HO_9.out));(case aS=>exact (jL (w:=w) (g:=g) (row:=none) (Y5)));(case aL=>have:=LMc44.out;omega);intro v771 w47 ho hb hg hat;rw [← Ny770.out] at ho;have n0_:=am (jOa (g:=gb735) (o:=.cells #[.slice A1_0 l1_0.length c1_0] 32 (0,0)) (kq BK735.out) hg (Kd.R_ne HO_9.out BK735.out (by decide)));have n1_:=am (je.grown (Y7) hg (je.own_ne HI0.out HO_9.out (by decide)));have n2_:=am (jbb (Y10) HL.out hb);have n3_:=am (jb.trans (Y5) (jb.jub hg g) (Kd.jTb HO_9.out));have n4_:=am (ho);clear BK735 HI0 HB HK HO_9;have BK735:=n0_;have HI0:=n1_;have HB:=n2_;have HK:=n3_;have HO772:=n4_;clear n0_ n1_ n2_ n3_ n4_ ho hb hg hat;have hnb48:=NB735_0.out;have hnc48:=NB0_735.out;have hcz49_0:=bc0 BK735.out;have hfz49_0:=ja BK735.out 0) |((with_reducible refine jd (f:=100) rfl ?_);refine gL (some 69) Try.func100 #[.pointer (some ⟨g,0,none⟩), .agg #[.slice A1_0 l1_0.length c1_0], .int .i64 (wrap64 (a2+1)), .bool a3] ?_;(with_reducible refine (ih100 kj37 (by have:=HK1.out;have:=HJ37.out;omega) g s0_0 x1001_37 _ _ l1_0 (wrap64 (a2+1)) a3 t773 t776 w0 _ ?side1 ?side2 ?side3 ?side4 A45.out).mono ?_);(case side1=>exact Y7);(case side2=>exact Y10);(case side3=>exact Kd.jmb HR1_0.out (Y5));(case side4=>exact HC1_0.out);rintro e w50 ⟨v774,rfl,ho0,hi,hb,hk⟩;refine ⟨_,rfl,?_⟩;have HO775:=am (Kd.jfa (Kd.jzb ho0 (Kd.R_lt (rq HO772.out))) (jL (w:=w) (g:=g) (row:=none) (Y5)));replace BK735:=am (jb.blk hk (g':=gb735) (o:=.cells #[.slice A1_0 l1_0.length c1_0] 32 (0,0)) (kq BK735.out) NB735_0.out (by simp));replace HO772:=am (Kd.jG (Kd.R_told (Kd.R_oldK (je.apart (show je w0 _ g s0_0 x1001_37 from Y7) (rq HO772.out) (by decide)) hk) (Kd.jAb ho0)) (fun _ h_=>h_.1));replace HK:=am (jb.trans (Y5) hk (.inl rfl));replace HB:=am (hb);replace HI0:=am (hi);(try clear hb);(try clear hb2);(try clear hk);(try clear hi);(try clear ho0);obtain ⟨Ao52,co52,eo52⟩:=Kd.jta HO775.out;subst eo52) |((with_reducible refine jEa (b:=.append) (xs:=#[.tmp 63, .tmp 69]) rfl ?_);at_builtin;refine Kd.jKb k52 w.heap.size rfl (.tmp 63) (.tmp 69) 28 52 (.agg #[(.int .i64 0),(.int .i64 0),(.int .i64 0),(.int .i64 0)]) 32 rfl Try.underlying28 jac rfl (by decide) (by omega) v771 y770 t773 _ _ _ (fun k_=>some k_≠(.slice Ao52 t773.length co52:Value).ownBlock) (fun _=>False) rfl rfl ?aO ?aR (fun _ _ h=>h) (fun _ h=>h.elim) ?aF (Below.refl _ _) ?aS ?aL ?_;(case aR=>repeat (first | exact (Kd.jC HO775.out).2.2 |(with_reducible refine Kd.jqc ?_ _) |(with_reducible refine Kd.jlc ?_ _) |(with_reducible refine Kd.C_drew ?_)));(case aF=>exact (fun k_ hk=>Kd.fresh' (Kd.R_lt (rq HO775.out)) k_ hk));(case aO=>exact (by (with_reducible repeat (first | apply Kd.jma | apply Kd.jla | apply Kd.jva));exact Kd.jG HO772.out (fun _ hk=>hk.2)));(case aS=>exact (jL (w:=w) (g:=g) (row:=none) (Y5)));(case aL=>have:=LMc46.out;omega);intro v778 w51 ho hb hg hat;rw [← Ny777.out] at ho;have n0_:=am (jOa (g:=gb735) (o:=.cells #[.slice A1_0 l1_0.length c1_0] 32 (0,0)) (kq BK735.out) hg (Kd.R_ne HO772.out BK735.out (by decide)));have n1_:=am (je.grown (Y7) hg (je.own_ne HI0.out HO772.out (by decide)));have n2_:=am (Kd.jMc (ok:=(fun _=>True)) (rq HO775.out) hg hat);have n3_:=am (jbb (Y10) HL.out hb);have n4_:=am (jb.trans (Y5) (jb.jub hg g) (Kd.jTb HO772.out));have n5_:=am (ho);clear BK735 HI0 HO775 HB HK HO772;have BK735:=n0_;have HI0:=n1_;have HO775:=n2_;have HB:=n3_;have HK:=n4_;have HO779:=n5_;clear n0_ n1_ n2_ n3_ n4_ n5_ ho hb hg hat))
           go_meet
           case rel=>exact ⟨_,(y777),(t776),H',⟨by have:=HK1.out;have:=HJ37.out;first | omega | exact Nat.le_refl _⟩,⟨by (with_reducible repeat (first | apply Kd.jma | apply Kd.jla | apply Kd.jva));exact Kd.jG HO779.out (fun _ hk=>trivial)⟩,⟨kq BK735.out⟩,⟨Y7⟩,⟨Y5⟩,⟨Y10⟩⟩
          ·rw [if_neg c46] at H
           exact absurd H (by simp)
         ·rw [if_neg c44] at H
          exact absurd H (by simp)
        ·replace c43:=Bool.eq_false_iff.mpr c43
         subst c43
         have H1:(jU.j2 kj37 a2 a3 x9_1 t749 s0_0 x1001_37 l1_0)=some (r1,r2):=by rw [if_neg (show ¬ (false=true) by decide)] at H;exact H
         clear H
         have H:=H1
         clear H1
         have H':=am H
         clear H
         go_wp2
         go_meet
         case rel=>exact ⟨_,(x9_1),(x1001_37),H',⟨by have:=HK1.out;have:=HJ37.out;first | omega | exact Nat.le_refl _⟩,⟨rq HO_9.out⟩,⟨kq BK735.out⟩,⟨Y7⟩,⟨Y5⟩,⟨Y10⟩⟩
       case rest =>
        clear HC42
        try clear c1
        try clear c2
        try clear p2
        try clear c3
        try clear c4
        try clear c6
        try clear p6
        try clear c7
        try clear c9
        try clear c10
        try clear c11
        try clear c20
        try clear c20b0
        try clear c23
        try clear c25
        try clear c26
        try clear c39
        try clear c39b0
        try clear c43
        try clear c44
        try clear c46
        try clear c48
        try clear hcz12_0
        try clear hcz27_0
        try clear hcz34_0
        try clear hcz49_0
        try clear hfz12_0
        try clear hfz27_0
        try clear hfz34_0
        try clear hfz49_0
        try clear p2
        try clear p6
        obtain ⟨kq,x9_41,x1001_41,HA,HJ41,HO_9,BK735,HI0,HK,HB⟩:=hcut
        cases kq with
        | zero=>exact absurd HA.out (by simp [jU.j2])
        | succ kj41 =>
         have H:=HA.out
         clear HA
         simp only [jU.j2] at H
         by_cases c53:t749=0
         ·rw [if_pos c53] at H
          have c53b0:(t749 == 0)=true:=beq_iff_eq.mpr c53
          have c53b1:(t749 != 0)=false:=bne_eq_false_iff_eq.mpr c53
          clear c53
          by_cases c54:x9_41.length<4398046511104
          ·rw [if_pos c54] at H
           have LMc54:=am c54
           clear c54
           obtain ⟨y782,hy782⟩:∃ y_:List (S52),y_=(x9_41 ++ [(⟨a2,10,0,0⟩:S52)]):=⟨_,rfl⟩
           replace H:((jI.f kj41 s0_0 x1001_41 l1_0 (wrap64 (a2+1)) a3).bind fun bt785=>(if y782.length+bt785.1.length<4398046511104 then (some ((y782 ++ bt785.1),bt785.2)) else (none)))=some (r1,r2):=by first |(rw [hy782];with_reducible exact H) |(have H2_:=(Option.bind_some _ _).symm.trans H;rw [hy782];with_reducible exact H2_) |(have H2_:=(Option.bind_some _ _).symm.trans H;with_reducible exact H2_) | with_reducible exact H |(rw [hy782];exact H) | exact H
           have Ny782:=am hy782
           clear hy782
           replace H:=bzS H
           obtain ⟨⟨t785,t788⟩,A550,H⟩:=H
           replace H:(if y782.length+t785.length<4398046511104 then (some ((y782 ++ t785),t788)) else (none))=some (r1,r2):=H
           have A55:=am A550
           clear A550
           by_cases c56:y782.length+t785.length<4398046511104
           ·rw [if_pos c56] at H
            have LMc56:=am c56
            clear c56
            obtain ⟨y789,hy789⟩:∃ y_:List (S52),y_=(y782 ++ t785):=⟨_,rfl⟩
            replace H:(some (y789,t788))=some (r1,r2):=by first |(rw [hy789];with_reducible exact H) |(have H2_:=(Option.bind_some _ _).symm.trans H;rw [hy789];with_reducible exact H2_) |(have H2_:=(Option.bind_some _ _).symm.trans H;with_reducible exact H2_) | with_reducible exact H |(rw [hy789];exact H) | exact H
            have Ny789:=am hy789
            clear hy789
            simp only [Option.some.injEq,Prod.mk.injEq] at H
            obtain ⟨rfl,rfl⟩:=H
            go_wp2_with (first |((with_reducible refine jEa (b:=.append) (xs:=#[.tmp 78, .tmp 81]) rfl ?_);at_builtin;refine Kd.jGb k52 w.heap.size rfl (.tmp 78) (.tmp 81) 28 52 (.agg #[(.int .i64 0),(.int .i64 0),(.int .i64 0),(.int .i64 0)]) 32 rfl Try.underlying28 jac rfl (by decide) (by omega) u9 x9_41 (⟨a2,10,0,0⟩:S52) [.int .i64 a2, .int .i64 10, .int .i64 0, .int .i64 0] (fun _=>True) (fun _=>False) rfl rfl ?aP (fun _ hk=>hk.elim) ?aF ?aO (Below.refl _ _) ?aS ?aL ?_;(case aP=>exact jpb _ _ _ (⟨a2,10,0,0⟩:S52));(case aF=>exact (fun _ _=>trivial));(case aO=>exact (rq HO_9.out));(case aS=>exact (jL (w:=w) (g:=g) (row:=none) (Y5)));(case aL=>have:=LMc54.out;omega);intro v783 w57 ho hb hg hat;rw [← Ny782.out] at ho;have n0_:=am (jOa (g:=gb735) (o:=.cells #[.slice A1_0 l1_0.length c1_0] 32 (0,0)) (kq BK735.out) hg (Kd.R_ne HO_9.out BK735.out (by decide)));have n1_:=am (je.grown (Y7) hg (je.own_ne HI0.out HO_9.out (by decide)));have n2_:=am (jbb (Y10) HL.out hb);have n3_:=am (jb.trans (Y5) (jb.jub hg g) (Kd.jTb HO_9.out));have n4_:=am (ho);clear BK735 HI0 HB HK HO_9;have BK735:=n0_;have HI0:=n1_;have HB:=n2_;have HK:=n3_;have HO784:=n4_;clear n0_ n1_ n2_ n3_ n4_ ho hb hg hat;have hnb58:=NB735_0.out;have hnc58:=NB0_735.out;have hcz59_0:=bc0 BK735.out;have hfz59_0:=ja BK735.out 0) |((with_reducible refine jd (f:=100) rfl ?_);refine gL (some 89) Try.func100 #[.pointer (some ⟨g,0,none⟩), .agg #[.slice A1_0 l1_0.length c1_0], .int .i64 (wrap64 (a2+1)), .bool a3] ?_;(with_reducible refine (ih100 kj41 (by have:=HK1.out;have:=HJ37.out;have:=HJ41.out;omega) g s0_0 x1001_41 _ _ l1_0 (wrap64 (a2+1)) a3 t785 t788 w0 _ ?side1 ?side2 ?side3 ?side4 A55.out).mono ?_);(case side1=>exact Y7);(case side2=>exact Y10);(case side3=>exact Kd.jmb HR1_0.out (Y5));(case side4=>exact HC1_0.out);rintro e w60 ⟨v786,rfl,ho0,hi,hb,hk⟩;refine ⟨_,rfl,?_⟩;have HO787:=am (Kd.jfa (Kd.jzb ho0 (Kd.R_lt (rq HO784.out))) (jL (w:=w) (g:=g) (row:=none) (Y5)));replace BK735:=am (jb.blk hk (g':=gb735) (o:=.cells #[.slice A1_0 l1_0.length c1_0] 32 (0,0)) (kq BK735.out) NB735_0.out (by simp));replace HO784:=am (Kd.jG (Kd.R_told (Kd.R_oldK (je.apart (show je w0 _ g s0_0 x1001_41 from Y7) (rq HO784.out) (by decide)) hk) (Kd.jAb ho0)) (fun _ h_=>h_.1));replace HK:=am (jb.trans (Y5) hk (.inl rfl));replace HB:=am (hb);replace HI0:=am (hi);(try clear hb);(try clear hb2);(try clear hk);(try clear hi);(try clear ho0);obtain ⟨Ao62,co62,eo62⟩:=Kd.jta HO787.out;subst eo62) |((with_reducible refine jEa (b:=.append) (xs:=#[.tmp 83, .tmp 89]) rfl ?_);at_builtin;refine Kd.jKb k52 w.heap.size rfl (.tmp 83) (.tmp 89) 28 52 (.agg #[(.int .i64 0),(.int .i64 0),(.int .i64 0),(.int .i64 0)]) 32 rfl Try.underlying28 jac rfl (by decide) (by omega) v783 y782 t785 _ _ _ (fun k_=>some k_≠(.slice Ao62 t785.length co62:Value).ownBlock) (fun _=>False) rfl rfl ?aO ?aR (fun _ _ h=>h) (fun _ h=>h.elim) ?aF (Below.refl _ _) ?aS ?aL ?_;(case aR=>repeat (first | exact (Kd.jC HO787.out).2.2 |(with_reducible refine Kd.jqc ?_ _) |(with_reducible refine Kd.jlc ?_ _) |(with_reducible refine Kd.C_drew ?_)));(case aF=>exact (fun k_ hk=>Kd.fresh' (Kd.R_lt (rq HO787.out)) k_ hk));(case aO=>exact (by (with_reducible repeat (first | apply Kd.jma | apply Kd.jla | apply Kd.jva));exact Kd.jG HO784.out (fun _ hk=>hk.2)));(case aS=>exact (jL (w:=w) (g:=g) (row:=none) (Y5)));(case aL=>have:=LMc56.out;omega);intro v790 w61 ho hb hg hat;rw [← Ny789.out] at ho;have n0_:=am (jOa (g:=gb735) (o:=.cells #[.slice A1_0 l1_0.length c1_0] 32 (0,0)) (kq BK735.out) hg (Kd.R_ne HO784.out BK735.out (by decide)));have n1_:=am (je.grown (Y7) hg (je.own_ne HI0.out HO784.out (by decide)));have n2_:=am (Kd.jMc (ok:=(fun _=>True)) (rq HO787.out) hg hat);have n3_:=am (jbb (Y10) HL.out hb);have n4_:=am (jb.trans (Y5) (jb.jub hg g) (Kd.jTb HO784.out));have n5_:=am (ho);clear BK735 HI0 HO787 HB HK HO784;have BK735:=n0_;have HI0:=n1_;have HO787:=n2_;have HB:=n3_;have HK:=n4_;have HO791:=n5_;clear n0_ n1_ n2_ n3_ n4_ n5_ ho hb hg hat))
            go_ret
            exact ⟨_,Y0,by (with_reducible repeat (first | apply Kd.jma | apply Kd.jla | apply Kd.jva));exact Kd.jG HO791.out (fun _ hk=>trivial),Y7,Y10,Y5⟩
           ·rw [if_neg c56] at H
            exact absurd H (by simp)
          ·rw [if_neg c54] at H
           exact absurd H (by simp)
         ·rw [if_neg c53] at H
          have c53b0:(t749 == 0)=false:=beq_eq_false_iff_ne.mpr c53
          have c53b1:(t749 != 0)=true:=bne_iff_ne.mpr c53
          replace H:=bzS H
          obtain ⟨⟨t780,t781⟩,A630,H⟩:=H
          replace H:(if t780=0 then (if x9_41.length<4398046511104 then ((some (x9_41 ++ [(⟨a2,10,0,0⟩:S52)]:List (S52))).bind fun y792=>((jI.f kj41 s0_0 t781 l1_0 (wrap64 (a2+1)) a3).bind fun bt795=>(if y792.length+bt795.1.length<4398046511104 then (some ((y792 ++ bt795.1),bt795.2)) else (none)))) else (none)) else (some (x9_41,t781)))=some (r1,r2):=H
          have A63:=am A630
          clear A630
          by_cases c64:t780=0
          ·rw [if_pos c64] at H
           have c64b0:(t780 == 0)=true:=beq_iff_eq.mpr c64
           have c64b1:(t780 != 0)=false:=bne_eq_false_iff_eq.mpr c64
           clear c64
           by_cases c65:x9_41.length<4398046511104
           ·rw [if_pos c65] at H
            have LMc65:=am c65
            clear c65
            obtain ⟨y792,hy792⟩:∃ y_:List (S52),y_=(x9_41 ++ [(⟨a2,10,0,0⟩:S52)]):=⟨_,rfl⟩
            replace H:((jI.f kj41 s0_0 t781 l1_0 (wrap64 (a2+1)) a3).bind fun bt795=>(if y792.length+bt795.1.length<4398046511104 then (some ((y792 ++ bt795.1),bt795.2)) else (none)))=some (r1,r2):=by first |(rw [hy792];with_reducible exact H) |(have H2_:=(Option.bind_some _ _).symm.trans H;rw [hy792];with_reducible exact H2_) |(have H2_:=(Option.bind_some _ _).symm.trans H;with_reducible exact H2_) | with_reducible exact H |(rw [hy792];exact H) | exact H
            have Ny792:=am hy792
            clear hy792
            replace H:=bzS H
            obtain ⟨⟨t795,t798⟩,A660,H⟩:=H
            replace H:(if y792.length+t795.length<4398046511104 then (some ((y792 ++ t795),t798)) else (none))=some (r1,r2):=H
            have A66:=am A660
            clear A660
            by_cases c67:y792.length+t795.length<4398046511104
            ·rw [if_pos c67] at H
             have LMc67:=am c67
             clear c67
             obtain ⟨y799,hy799⟩:∃ y_:List (S52),y_=(y792 ++ t795):=⟨_,rfl⟩
             replace H:(some (y799,t798))=some (r1,r2):=by first |(rw [hy799];with_reducible exact H) |(have H2_:=(Option.bind_some _ _).symm.trans H;rw [hy799];with_reducible exact H2_) |(have H2_:=(Option.bind_some _ _).symm.trans H;with_reducible exact H2_) | with_reducible exact H |(rw [hy799];exact H) | exact H
             have Ny799:=am hy799
             clear hy799
             simp only [Option.some.injEq,Prod.mk.injEq] at H
             obtain ⟨rfl,rfl⟩:=H
             go_wp2_with (first |(go_at_call 76;(with_reducible refine (jf.calls kj41 g s0_0 x1001_41 2 t780 t781 w0 _ ?side1 ?side2 A63.out).mono ?_);(case side1=>exact Y7);(case side2=>exact Y10);rintro e w68 ⟨rfl,hi,hb,hk⟩;replace HO_9:=am (Kd.jG (Kd.jBa (je.apart (show je w0 _ g s0_0 x1001_41 from Y7) (rq HO_9.out) (by decide)) hk (fun _ h=>h.2)) (fun _ h=>h.1));replace BK735:=am (jb.blk hk (g':=gb735) (o:=.cells #[.slice A1_0 l1_0.length c1_0] 32 (0,0)) (kq BK735.out) NB735_0.out (by simp));replace HK:=am (jb.trans (Y5) hk (.inl rfl));replace HB:=am (hb);replace HI0:=am (hi);(try clear hb);(try clear hb2);(try clear hk);(try clear hi)) |((with_reducible refine jEa (b:=.append) (xs:=#[.tmp 78, .tmp 81]) rfl ?_);at_builtin;refine Kd.jGb k52 w.heap.size rfl (.tmp 78) (.tmp 81) 28 52 (.agg #[(.int .i64 0),(.int .i64 0),(.int .i64 0),(.int .i64 0)]) 32 rfl Try.underlying28 jac rfl (by decide) (by omega) u9 x9_41 (⟨a2,10,0,0⟩:S52) [.int .i64 a2, .int .i64 10, .int .i64 0, .int .i64 0] (fun _=>True) (fun _=>False) rfl rfl ?aP (fun _ hk=>hk.elim) ?aF ?aO (Below.refl _ _) ?aS ?aL ?_;(case aP=>exact jpb _ _ _ (⟨a2,10,0,0⟩:S52));(case aF=>exact (fun _ _=>trivial));(case aO=>exact (rq HO_9.out));(case aS=>exact (jL (w:=w) (g:=g) (row:=none) (Y5)));(case aL=>have:=LMc65.out;omega);intro v793 w69 ho hb hg hat;rw [← Ny792.out] at ho;have n0_:=am (jOa (g:=gb735) (o:=.cells #[.slice A1_0 l1_0.length c1_0] 32 (0,0)) (kq BK735.out) hg (Kd.R_ne HO_9.out BK735.out (by decide)));have n1_:=am (je.grown (Y7) hg (je.own_ne HI0.out HO_9.out (by decide)));have n2_:=am (jbb (Y10) HL.out hb);have n3_:=am (jb.trans (Y5) (jb.jub hg g) (Kd.jTb HO_9.out));have n4_:=am (ho);clear BK735 HI0 HB HK HO_9;have BK735:=n0_;have HI0:=n1_;have HB:=n2_;have HK:=n3_;have HO794:=n4_;clear n0_ n1_ n2_ n3_ n4_ ho hb hg hat;have hnb70:=NB735_0.out;have hnc70:=NB0_735.out;have hcz71_0:=bc0 BK735.out;have hfz71_0:=ja BK735.out 0) |((with_reducible refine jd (f:=100) rfl ?_);refine gL (some 89) Try.func100 #[.pointer (some ⟨g,0,none⟩), .agg #[.slice A1_0 l1_0.length c1_0], .int .i64 (wrap64 (a2+1)), .bool a3] ?_;(with_reducible refine (ih100 kj41 (by have:=HK1.out;have:=HJ37.out;have:=HJ41.out;omega) g s0_0 t781 _ _ l1_0 (wrap64 (a2+1)) a3 t795 t798 w0 _ ?side1 ?side2 ?side3 ?side4 A66.out).mono ?_);(case side1=>exact Y7);(case side2=>exact Y10);(case side3=>exact Kd.jmb HR1_0.out (Y5));(case side4=>exact HC1_0.out);rintro e w72 ⟨v796,rfl,ho0,hi,hb,hk⟩;refine ⟨_,rfl,?_⟩;have HO797:=am (Kd.jfa (Kd.jzb ho0 (Kd.R_lt (rq HO794.out))) (jL (w:=w) (g:=g) (row:=none) (Y5)));replace BK735:=am (jb.blk hk (g':=gb735) (o:=.cells #[.slice A1_0 l1_0.length c1_0] 32 (0,0)) (kq BK735.out) NB735_0.out (by simp));replace HO794:=am (Kd.jG (Kd.R_told (Kd.R_oldK (je.apart (show je w0 _ g s0_0 t781 from Y7) (rq HO794.out) (by decide)) hk) (Kd.jAb ho0)) (fun _ h_=>h_.1));replace HK:=am (jb.trans (Y5) hk (.inl rfl));replace HB:=am (hb);replace HI0:=am (hi);(try clear hb);(try clear hb2);(try clear hk);(try clear hi);(try clear ho0);obtain ⟨Ao74,co74,eo74⟩:=Kd.jta HO797.out;subst eo74) |((with_reducible refine jEa (b:=.append) (xs:=#[.tmp 83, .tmp 89]) rfl ?_);at_builtin;refine Kd.jKb k52 w.heap.size rfl (.tmp 83) (.tmp 89) 28 52 (.agg #[(.int .i64 0),(.int .i64 0),(.int .i64 0),(.int .i64 0)]) 32 rfl Try.underlying28 jac rfl (by decide) (by omega) v793 y792 t795 _ _ _ (fun k_=>some k_≠(.slice Ao74 t795.length co74:Value).ownBlock) (fun _=>False) rfl rfl ?aO ?aR (fun _ _ h=>h) (fun _ h=>h.elim) ?aF (Below.refl _ _) ?aS ?aL ?_;(case aR=>repeat (first | exact (Kd.jC HO797.out).2.2 |(with_reducible refine Kd.jqc ?_ _) |(with_reducible refine Kd.jlc ?_ _) |(with_reducible refine Kd.C_drew ?_)));(case aF=>exact (fun k_ hk=>Kd.fresh' (Kd.R_lt (rq HO797.out)) k_ hk));(case aO=>exact (by (with_reducible repeat (first | apply Kd.jma | apply Kd.jla | apply Kd.jva));exact Kd.jG HO794.out (fun _ hk=>hk.2)));(case aS=>exact (jL (w:=w) (g:=g) (row:=none) (Y5)));(case aL=>have:=LMc67.out;omega);intro v800 w73 ho hb hg hat;rw [← Ny799.out] at ho;have n0_:=am (jOa (g:=gb735) (o:=.cells #[.slice A1_0 l1_0.length c1_0] 32 (0,0)) (kq BK735.out) hg (Kd.R_ne HO794.out BK735.out (by decide)));have n1_:=am (je.grown (Y7) hg (je.own_ne HI0.out HO794.out (by decide)));have n2_:=am (Kd.jMc (ok:=(fun _=>True)) (rq HO797.out) hg hat);have n3_:=am (jbb (Y10) HL.out hb);have n4_:=am (jb.trans (Y5) (jb.jub hg g) (Kd.jTb HO794.out));have n5_:=am (ho);clear BK735 HI0 HO797 HB HK HO794;have BK735:=n0_;have HI0:=n1_;have HO797:=n2_;have HB:=n3_;have HK:=n4_;have HO801:=n5_;clear n0_ n1_ n2_ n3_ n4_ n5_ ho hb hg hat))
             go_ret
             exact ⟨_,Y0,by (with_reducible repeat (first | apply Kd.jma | apply Kd.jla | apply Kd.jva));exact Kd.jG HO801.out (fun _ hk=>trivial),Y7,Y10,Y5⟩
            ·rw [if_neg c67] at H
             exact absurd H (by simp)
           ·rw [if_neg c65] at H
            exact absurd H (by simp)
          ·rw [if_neg c64] at H
           have c64b0:(t780 == 0)=false:=beq_eq_false_iff_ne.mpr c64
           have c64b1:(t780 != 0)=true:=bne_iff_ne.mpr c64
           simp only [Option.some.injEq,Prod.mk.injEq] at H
           obtain ⟨rfl,rfl⟩:=H
           go_wp2_with (first |(go_at_call 76;(with_reducible refine (jf.calls kj41 g s0_0 x1001_41 2 t780 t781 w0 _ ?side1 ?side2 A63.out).mono ?_);(case side1=>exact Y7);(case side2=>exact Y10);rintro e w75 ⟨rfl,hi,hb,hk⟩;replace HO_9:=am (Kd.jG (Kd.jBa (je.apart (show je w0 _ g s0_0 x1001_41 from Y7) (rq HO_9.out) (by decide)) hk (fun _ h=>h.2)) (fun _ h=>h.1));replace BK735:=am (jb.blk hk (g':=gb735) (o:=.cells #[.slice A1_0 l1_0.length c1_0] 32 (0,0)) (kq BK735.out) NB735_0.out (by simp));replace HK:=am (jb.trans (Y5) hk (.inl rfl));replace HB:=am (hb);replace HI0:=am (hi);(try clear hb);(try clear hb2);(try clear hk);(try clear hi)))
           go_ret
           exact ⟨_,Y0,rq HO_9.out,Y7,Y10,Y5⟩
 ·rw [if_neg c6] at H
  exact absurd H (by simp)
set_option maxHeartbeats 8000000 in
set_option maxRecDepth 100000 in
theorem jw.calls_all : ∀ k, (∀ (g : Nat) (s0_0 : List Int) (s0_1 : Int) (A1_0 : Option Addr) (c1_0 : Nat) (l1_0 : List (S78)) (a2 : Int) (a3 : Bool) (r1 : List (S52)) (r2 : Int) (w0 w : World) (hI : je w0 w g s0_0 s0_1) (hB : Below w0.heap.size w0 w) (hr1_0 : ∀ W_, jb w W_ g none → Kd.C k78 W_ A1_0 l1_0.length l1_0) (hc1_0 : l1_0.length ≤ c1_0) (h : jw.f k s0_0 s0_1 l1_0 a2 a3 = some (r1, r2)), Calls Try.prog 106 #[.pointer (some ⟨g, 0, none⟩), .agg #[.slice A1_0 l1_0.length c1_0], .int .i64 a2, .bool a3] w fun e w' => ∃ v0_ : Value, e = .returned (v0_) ∧ Kd.R k52 52 w' w.heap.size (fun _ => True) v0_ r1 ∧ je w0 w' g s0_0 r2 ∧ Below w0.heap.size w0 w' ∧ jb w w' g none) ∧ (∀ (g : Nat) (s0_0 : List Int) (s0_1 : Int) (A1_0 : Option Addr) (c1_0 : Nat) (l1_0 : List (S78)) (a2 : Int) (a3 : Bool) (r1 : List (S52)) (r2 : Int) (w0 w : World) (hI : je w0 w g s0_0 s0_1) (hB : Below w0.heap.size w0 w) (hr1_0 : ∀ W_, jb w W_ g none → Kd.C k78 W_ A1_0 l1_0.length l1_0) (hc1_0 : l1_0.length ≤ c1_0) (h : jI.f k s0_0 s0_1 l1_0 a2 a3 = some (r1, r2)), Calls Try.prog 100 #[.pointer (some ⟨g, 0, none⟩), .agg #[.slice A1_0 l1_0.length c1_0], .int .i64 a2, .bool a3] w fun e w' => ∃ v0_ : Value, e = .returned (v0_) ∧ Kd.R k52 52 w' w.heap.size (fun _ => True) v0_ r1 ∧ je w0 w' g s0_0 r2 ∧ Below w0.heap.size w0 w' ∧ jb w w' g none) ∧ (∀ (g : Nat) (s0_0 : List Int) (s0_1 : Int) (A1_0 : Option Addr) (c1_0 : Nat) (l1_0 : List (S78)) (a2 : Int) (a3 : Bool) (r1 : List (S52)) (r2 : Int) (w0 w : World) (hI : je w0 w g s0_0 s0_1) (hB : Below w0.heap.size w0 w) (hr1_0 : ∀ W_, jb w W_ g none → Kd.C k78 W_ A1_0 l1_0.length l1_0) (hc1_0 : l1_0.length ≤ c1_0) (h : jU.f k s0_0 s0_1 l1_0 a2 a3 = some (r1, r2)), Calls Try.prog 99 #[.pointer (some ⟨g, 0, none⟩), .agg #[.slice A1_0 l1_0.length c1_0], .int .i64 a2, .bool a3] w fun e w' => ∃ v0_ : Value, e = .returned (v0_) ∧ Kd.R k52 52 w' w.heap.size (fun _ => True) v0_ r1 ∧ je w0 w' g s0_0 r2 ∧ Below w0.heap.size w0 w' ∧ jb w w' g none) := by
 intro k
 induction k using Nat.strongRecOn with
 | _ k ih =>
 exact ⟨jw.calls_of k (fun k_ hk_=>(ih k_ hk_).1) (fun k_ hk_=>(ih k_ hk_).2.1) (fun k_ hk_=>(ih k_ hk_).2.2),jI.calls_of k (fun k_ hk_=>(ih k_ hk_).1) (fun k_ hk_=>(ih k_ hk_).2.1) (fun k_ hk_=>(ih k_ hk_).2.2),jU.calls_of k (fun k_ hk_=>(ih k_ hk_).1) (fun k_ hk_=>(ih k_ hk_).2.1) (fun k_ hk_=>(ih k_ hk_).2.2)⟩
theorem jI.calls (k : Nat) : ∀ (g : Nat) (s0_0 : List Int) (s0_1 : Int) (A1_0 : Option Addr) (c1_0 : Nat) (l1_0 : List (S78)) (a2 : Int) (a3 : Bool) (r1 : List (S52)) (r2 : Int) (w0 w : World) (hI : je w0 w g s0_0 s0_1) (hB : Below w0.heap.size w0 w) (hr1_0 : ∀ W_, jb w W_ g none → Kd.C k78 W_ A1_0 l1_0.length l1_0) (hc1_0 : l1_0.length ≤ c1_0) (h : jI.f k s0_0 s0_1 l1_0 a2 a3 = some (r1, r2)), Calls Try.prog 100 #[.pointer (some ⟨g, 0, none⟩), .agg #[.slice A1_0 l1_0.length c1_0], .int .i64 a2, .bool a3] w fun e w' => ∃ v0_ : Value, e = .returned (v0_) ∧ Kd.R k52 52 w' w.heap.size (fun _ => True) v0_ r1 ∧ je w0 w' g s0_0 r2 ∧ Below w0.heap.size w0 w' ∧ jb w w' g none := (jw.calls_all k).2.1
theorem jU.calls (k : Nat) : ∀ (g : Nat) (s0_0 : List Int) (s0_1 : Int) (A1_0 : Option Addr) (c1_0 : Nat) (l1_0 : List (S78)) (a2 : Int) (a3 : Bool) (r1 : List (S52)) (r2 : Int) (w0 w : World) (hI : je w0 w g s0_0 s0_1) (hB : Below w0.heap.size w0 w) (hr1_0 : ∀ W_, jb w W_ g none → Kd.C k78 W_ A1_0 l1_0.length l1_0) (hc1_0 : l1_0.length ≤ c1_0) (h : jU.f k s0_0 s0_1 l1_0 a2 a3 = some (r1, r2)), Calls Try.prog 99 #[.pointer (some ⟨g, 0, none⟩), .agg #[.slice A1_0 l1_0.length c1_0], .int .i64 a2, .bool a3] w fun e w' => ∃ v0_ : Value, e = .returned (v0_) ∧ Kd.R k52 52 w' w.heap.size (fun _ => True) v0_ r1 ∧ je w0 w' g s0_0 r2 ∧ Below w0.heap.size w0 w' ∧ jb w w' g none := (jw.calls_all k).2.2
mutual
def jB.l0 : Nat → Int → List Int → Int → List (S78) → Option ((List (S52)) × Int)
 | 0,_,_,_,_=>none
 | k+1,x5,x1000,x1001,x803000=>if x5<4 then ((jU.f k x1000 x1001 x803000 0 false).bind fun bt806=>((jf.f k x1000 bt806.2 3).bind fun bt810=>(if bt810.1=0 then ((jI.f k x1000 bt810.2 x803000 0 false).bind fun bt812=>(if bt806.1.length+bt812.1.length<4398046511104 then (jB.j1 k x5 (bt806.1 ++ bt812.1) x1000 bt812.2 x803000) else (none))) else (jB.j1 k x5 bt806.1 x1000 bt810.2 x803000)))) else (some ((([(⟨0,7,0,0⟩:S52),(⟨1,2,0,1⟩:S52),(⟨0,10,0,0⟩:S52),(⟨1,1,1,0⟩:S52)]:List (S52))),x1001))
def jB.j1 : Nat → Int → List (S52) → List Int → Int → List (S78) → Option ((List (S52)) × Int)
 | 0,_,_,_,_,_=>none
 | k+1,x5,x6,x1000,x1001,x803000=>(jf.f k x1000 x1001 4).bind fun bt819=>(if bt819.1=0 then ((jI.f k x1000 bt819.2 x803000 0 false).bind fun bt821=>(jB.j2 k x5 bt821.1 x1000 bt821.2 x803000)) else (jB.j2 k x5 x6 x1000 bt819.2 x803000))
def jB.j2 : Nat → Int → List (S52) → List Int → Int → List (S78) → Option ((List (S52)) × Int)
 | 0,_,_,_,_,_=>none
 | k+1,x5,x6,x1000,x1001,x803000=>if (x6.length:Int)≤24 then (some (x6,x1001)) else (jB.l0 k (wrap64 (x5+1)) x1000 x1001 x803000)
end
def jB.f (k : Nat) (s0_0 : List Int) (s0_1 : Int) (l1_0 : List (S78)) : Option ((List (S52)) × Int) := jB.l0 k 0 s0_0 s0_1 l1_0
set_option maxHeartbeats 8000000 in
set_option maxRecDepth 100000 in
theorem jB.calls (k : Nat) (g : Nat) (s0_0 : List Int) (s0_1 : Int) (A1_0 : Option Addr) (c1_0 : Nat) (l1_0 : List (S78)) (r1 : List (S52)) (r2 : Int) (w0 w : World) (hI : je w0 w g s0_0 s0_1) (hB : Below w0.heap.size w0 w) (hr1_0 : ∀ W_, jb w W_ g none → Kd.C k78 W_ A1_0 l1_0.length l1_0) (hc1_0 : l1_0.length ≤ c1_0) (h : jB.f k s0_0 s0_1 l1_0 = some (r1, r2)) :
  Calls Try.prog 75 #[.pointer (some ⟨g,0,none⟩), .agg #[.slice A1_0 l1_0.length c1_0]] w fun e w'=>∃ v0_:Value,e=.returned (v0_)∧Kd.R k52 52 w' w.heap.size (fun _=>True) v0_ r1∧je w0 w' g s0_0 r2∧Below w0.heap.size w0 w'∧jb w w' g none:=by
 have hu32:=Try.underlying32
 have hu52:=Try.underlying52
 have HR1_0:=am hr1_0
 have HC1_0:=am hc1_0
 clear hr1_0 hc1_0
 have HI0:=am hI
 have HK:=am (jb.refl w g none)
 have HL:=am hB.size
 clear hI
 have HW0:=am hB.size
 have HB:=am hB
 clear hB
 have H:(jB.l0 k 0 s0_0 s0_1 l1_0)=some (r1,r2):=h
 clear h
 have H':=am H
 clear H
 go_enter Try.func75,Try.ntmps75
 go_wp2_with (first |((with_reducible refine jP (N:=3) rfl ?_);refine bE (N:=3) (cs:=#[.slice A1_0 l1_0.length c1_0]) (t:=32) ?_;intro gb802 hg w3 hbox hb;have BK802:=am (hbox);have GW802:=am ((Y12:w.heap.size≤gb802));have GE802:=am ((Nat.le_trans HW0.out (Y12:w.heap.size≤gb802):w0.heap.size≤gb802));have NB0_802:=am ((Y28:g≠gb802));have NB802_0:=am ((Y29:gb802≠g));replace HK:=am (jb.trans (Y16) (jb.of_below hb g none) (.inl rfl));replace HB:=am (ji (Y17) hb);replace HI0:=am (je.below (Y15) hb);clear hb hbox hg))
 go_loopg [5] k (fun kq v5 w'=>∃ (x5_1:Int) (x1001_1:Int),v5=.int .i64 x5_1∧jl (jB.l0 kq x5_1 s0_0 x1001_1 l1_0=some (r1,r2))∧jl (kq≤k)∧jl (w'.heap[gb802]?=some (.cells #[(.slice A1_0 l1_0.length c1_0)] 32 (0,0)))∧jl (je w0 w' g s0_0 x1001_1)∧jl (jb w w' g none)∧jl (Below w0.heap.size w0 w'))
 case atStart=>exact ⟨(0),(s0_1),(sq),H',⟨Nat.le_refl _⟩,⟨kq BK802.out⟩,⟨Y22⟩,⟨Y18⟩,⟨Y30⟩⟩
 case round =>
  clear H'
  try clear c1
  try clear p2
  obtain ⟨x5_1,x1001_1,rfl,HA,HK1,BK802,HI0,HK,HB⟩:=hrel
  cases gk with
  | zero=>exact absurd HA.out (by simp [jB.l0])
  | succ k1 =>
   have H:=HA.out
   clear HA
   simp only [jB.l0] at H
   by_cases c4:x5_1<4
   ·rw [if_pos c4] at H
    have c4b0:decide (x5_1<4)=true:=dzT c4
    clear c4
    replace H:=bzS H
    obtain ⟨⟨t806,t809⟩,A50,H⟩:=H
    replace H:((jf.f k1 s0_0 t809 3).bind fun bt810=>(if bt810.1=0 then ((jI.f k1 s0_0 bt810.2 l1_0 0 false).bind fun bt812=>(if t806.length+bt812.1.length<4398046511104 then (jB.j1 k1 x5_1 (t806 ++ bt812.1) s0_0 bt812.2 l1_0) else (none))) else (jB.j1 k1 x5_1 t806 s0_0 bt810.2 l1_0)))=some (r1,r2):=H
    have A5:=am A50
    clear A50
    replace H:=bzS H
    obtain ⟨⟨t810,t811⟩,A60,H⟩:=H
    replace H:(if t810=0 then ((jI.f k1 s0_0 t811 l1_0 0 false).bind fun bt812=>(if t806.length+bt812.1.length<4398046511104 then (jB.j1 k1 x5_1 (t806 ++ bt812.1) s0_0 bt812.2 l1_0) else (none))) else (jB.j1 k1 x5_1 t806 s0_0 t811 l1_0))=some (r1,r2):=H
    have A6:=am A60
    clear A60
    have HC7:=am H
    clear H
    have hnb8:=NB802_0.out
    have hnc8:=NB0_802.out
    have hcz9_0:=bc0 BK802.out
    have hfz9_0:=ja BK802.out 0
    go_upto_if 16 with (first |((with_reducible refine jd (f:=99) rfl ?_);refine gL (some 13) Try.func99 #[.pointer (some ⟨g,0,none⟩), .agg #[.slice A1_0 l1_0.length c1_0], .int .i64 0, .bool false] ?_;(with_reducible refine (jU.calls k1 g s0_0 x1001_1 _ _ l1_0 0 false t806 t809 w0 _ ?side1 ?side2 ?side3 ?side4 A5.out).mono ?_);(case side1=>exact Y22);(case side2=>exact Y30);(case side3=>exact Kd.jmb HR1_0.out (Y18));(case side4=>exact HC1_0.out);rintro e w10 ⟨v807,rfl,ho0,hi,hb,hk⟩;refine ⟨_,rfl,?_⟩;have HO808:=am (Kd.jfa ho0 (jL (w:=w) (g:=g) (row:=none) (Y18)));replace BK802:=am (jb.blk hk (g':=gb802) (o:=.cells #[.slice A1_0 l1_0.length c1_0] 32 (0,0)) (kq BK802.out) NB802_0.out (by simp));replace HK:=am (jb.trans (Y18) hk (.inl rfl));replace HB:=am (hb);replace HI0:=am (hi);(try clear hb);(try clear hb2);(try clear hk);(try clear hi);(try clear ho0)) |((with_reducible refine jd (f:=76) rfl ?_);refine gL (some 15) Try.func76 #[.pointer (some ⟨g,0,none⟩), .int .i64 3] ?_;(with_reducible refine (jf.calls k1 g s0_0 t809 3 t810 t811 w0 _ ?side1 ?side2 A6.out).mono ?_);(case side1=>exact Y22);(case side2=>exact Y30);rintro e w11 ⟨rfl,hi,hb,hk⟩;refine ⟨_,rfl,?_⟩;replace BK802:=am (jb.blk hk (g':=gb802) (o:=.cells #[.slice A1_0 l1_0.length c1_0] 32 (0,0)) (kq BK802.out) NB802_0.out (by simp));replace HO808:=am (Kd.jG (Kd.jBa (je.apart (show je w0 _ g s0_0 t809 from Y22) (rq HO808.out) (by decide)) hk (fun _ h=>h.2)) (fun _ h=>h.1));replace HK:=am (jb.trans (Y18) hk (.inl rfl));replace HB:=am (hb);replace HI0:=am (hi);(try clear hb);(try clear hb2);(try clear hk);(try clear hi)))
    (try simp only [Act.put,List.setIfInBounds_toArray,List.set_cons_zero,List.set_cons_succ])
    go_cut [6] (fun v6 wc=>∃ (kq:Nat) (x6_6:List (S52)) (x1001_6:Int),jl (jB.j1 kq x5_1 x6_6 s0_0 x1001_6 l1_0=some (r1,r2))∧jl (kq≤k1)∧jl (Kd.R k52 52 wc w.heap.size (fun _=>True) v6 x6_6)∧jl (wc.heap[gb802]?=some (.cells #[(.slice A1_0 l1_0.length c1_0)] 32 (0,0)))∧jl (je w0 wc g s0_0 x1001_6)∧jl (jb w wc g none)∧jl (Below w0.heap.size w0 wc))
    case first =>
     have H:=HC7.out
     clear HC7
     by_cases c12:t810=0
     ·rw [if_pos c12] at H
      have c12b0:(t810 == 0)=true:=beq_iff_eq.mpr c12
      have c12b1:(t810 != 0)=false:=bne_eq_false_iff_eq.mpr c12
      clear c12
      (first | rw [c12b0] |(simp only [jkb,jnb];rw [c12b0]) | skip)
      replace H:=bzS H
      obtain ⟨⟨t812,t815⟩,A130,H⟩:=H
      replace H:(if t806.length+t812.length<4398046511104 then (jB.j1 k1 x5_1 (t806 ++ t812) s0_0 t815 l1_0) else (none))=some (r1,r2):=H
      have A13:=am A130
      clear A130
      by_cases c14:t806.length+t812.length<4398046511104
      ·rw [if_pos c14] at H
       have LMc14:=am c14
       clear c14
       obtain ⟨y816,hy816⟩:∃ y_:List (S52),y_=(t806 ++ t812):=⟨_,rfl⟩
       replace H:(jB.j1 k1 x5_1 y816 s0_0 t815 l1_0)=some (r1,r2):=by first |(rw [hy816];with_reducible exact H) |(have H2_:=(Option.bind_some _ _).symm.trans H;rw [hy816];with_reducible exact H2_) |(have H2_:=(Option.bind_some _ _).symm.trans H;with_reducible exact H2_) | with_reducible exact H |(rw [hy816];exact H) | exact H
       have Ny816:=am hy816
       clear hy816
       have H':=am H
       clear H
       have hnb15:=NB802_0.out
       have hnc15:=NB0_802.out
       have hcz16_0:=bc0 BK802.out
       have hfz16_0:=ja BK802.out 0
       go_wp2_with (first |((with_reducible refine jd (f:=100) rfl ?_);refine gL (some 20) Try.func100 #[.pointer (some ⟨g,0,none⟩), .agg #[.slice A1_0 l1_0.length c1_0], .int .i64 0, .bool false] ?_;(with_reducible refine (jI.calls k1 g s0_0 t811 _ _ l1_0 0 false t812 t815 w0 _ ?side1 ?side2 ?side3 ?side4 A13.out).mono ?_);(case side1=>exact Y22);(case side2=>exact Y30);(case side3=>exact Kd.jmb HR1_0.out (Y18));(case side4=>exact HC1_0.out);rintro e w17 ⟨v813,rfl,ho0,hi,hb,hk⟩;refine ⟨_,rfl,?_⟩;have HO814:=am (Kd.jfa (Kd.jzb ho0 (Kd.R_lt (rq HO808.out))) (jL (w:=w) (g:=g) (row:=none) (Y18)));replace BK802:=am (jb.blk hk (g':=gb802) (o:=.cells #[.slice A1_0 l1_0.length c1_0] 32 (0,0)) (kq BK802.out) NB802_0.out (by simp));replace HO808:=am (Kd.jG (Kd.R_told (Kd.R_oldK (je.apart (show je w0 _ g s0_0 t811 from Y22) (rq HO808.out) (by decide)) hk) (Kd.jAb ho0)) (fun _ h_=>h_.1));replace HK:=am (jb.trans (Y18) hk (.inl rfl));replace HB:=am (hb);replace HI0:=am (hi);(try clear hb);(try clear hb2);(try clear hk);(try clear hi);(try clear ho0);obtain ⟨Ao19,co19,eo19⟩:=Kd.jta HO814.out;subst eo19) |((with_reducible refine jEa (b:=.append) (xs:=#[.tmp 17, .tmp 20]) rfl ?_);at_builtin;refine Kd.jKb k52 w.heap.size rfl (.tmp 17) (.tmp 20) 28 52 (.agg #[(.int .i64 0),(.int .i64 0),(.int .i64 0),(.int .i64 0)]) 32 rfl Try.underlying28 jac rfl (by decide) (by omega) v807 t806 t812 _ _ _ (fun k_=>some k_≠(.slice Ao19 t812.length co19:Value).ownBlock) (fun _=>False) rfl rfl ?aO ?aR (fun _ _ h=>h) (fun _ h=>h.elim) ?aF (Below.refl _ _) ?aS ?aL ?_;(case aR=>repeat (first | exact (Kd.jC HO814.out).2.2 |(with_reducible refine Kd.jqc ?_ _) |(with_reducible refine Kd.jlc ?_ _) |(with_reducible refine Kd.C_drew ?_)));(case aF=>exact (fun k_ hk=>Kd.fresh' (Kd.R_lt (rq HO814.out)) k_ hk));(case aO=>exact (by (with_reducible repeat (first | apply Kd.jma | apply Kd.jla | apply Kd.jva));exact Kd.jG HO808.out (fun _ hk=>hk.2)));(case aS=>exact (jL (w:=w) (g:=g) (row:=none) (Y18)));(case aL=>have:=LMc14.out;omega);intro v817 w18 ho hb hg hat;rw [← Ny816.out] at ho;have n0_:=am (jOa (g:=gb802) (o:=.cells #[.slice A1_0 l1_0.length c1_0] 32 (0,0)) (kq BK802.out) hg (Kd.R_ne HO808.out BK802.out (by decide)));have n1_:=am (je.grown (Y22) hg (je.own_ne HI0.out HO808.out (by decide)));have n2_:=am (Kd.jMc (ok:=(fun _=>True)) (rq HO814.out) hg hat);have n3_:=am (jbb (Y30) HL.out hb);have n4_:=am (jb.trans (Y18) (jb.jub hg g) (Kd.jTb HO808.out));have n5_:=am (ho);clear BK802 HI0 HO814 HB HK HO808;have BK802:=n0_;have HI0:=n1_;have HO814:=n2_;have HB:=n3_;have HK:=n4_;have HO818:=n5_;clear n0_ n1_ n2_ n3_ n4_ n5_ ho hb hg hat))
       go_meet
       case rel=>exact ⟨_,(y816),(t815),H',⟨by have:=HK1.out;first | omega | exact Nat.le_refl _⟩,⟨by (with_reducible repeat (first | apply Kd.jma | apply Kd.jla | apply Kd.jva));exact Kd.jG HO818.out (fun _ hk=>trivial)⟩,⟨kq BK802.out⟩,⟨Y22⟩,⟨Y18⟩,⟨Y30⟩⟩
      ·rw [if_neg c14] at H
       exact absurd H (by simp)
     ·rw [if_neg c12] at H
      have c12b0:(t810 == 0)=false:=beq_eq_false_iff_ne.mpr c12
      have c12b1:(t810 != 0)=true:=bne_iff_ne.mpr c12
      (first | rw [c12b0] |(simp only [jkb,jnb];rw [c12b0]) | skip)
      have H':=am H
      clear H
      go_wp2
      go_meet
      case rel=>exact ⟨_,(t806),(t811),H',⟨by have:=HK1.out;first | omega | exact Nat.le_refl _⟩,⟨rq HO808.out⟩,⟨kq BK802.out⟩,⟨Y22⟩,⟨Y18⟩,⟨Y30⟩⟩
    case rest =>
     clear HC7
     try clear c1
     try clear p2
     try clear c4
     try clear c4b0
     try clear c7
     try clear c8
     try clear c9
     try clear c10
     try clear c12
     try clear c12b0
     try clear c12b1
     try clear c14
     try clear c15
     try clear hcz16_0
     try clear hcz9_0
     try clear hfz16_0
     try clear hfz9_0
     try clear p2
     obtain ⟨kq,x6_6,x1001_6,HA,HJ6,HO_6,BK802,HI0,HK,HB⟩:=hcut
     cases kq with
     | zero=>exact absurd HA.out (by simp [jB.j1])
     | succ kj6 =>
      have H:=HA.out
      clear HA
      simp only [jB.j1] at H
      replace H:=bzS H
      obtain ⟨⟨t819,t820⟩,A200,H⟩:=H
      replace H:(if t819=0 then ((jI.f kj6 s0_0 t820 l1_0 0 false).bind fun bt821=>(jB.j2 kj6 x5_1 bt821.1 s0_0 bt821.2 l1_0)) else (jB.j2 kj6 x5_1 x6_6 s0_0 t820 l1_0))=some (r1,r2):=H
      have A20:=am A200
      clear A200
      have HC21:=am H
      clear H
      go_upto_if 24 with (first |((with_reducible refine jd (f:=76) rfl ?_);refine gL (some 23) Try.func76 #[.pointer (some ⟨g,0,none⟩), .int .i64 4] ?_;(with_reducible refine (jf.calls kj6 g s0_0 x1001_6 4 t819 t820 w0 _ ?side1 ?side2 A20.out).mono ?_);(case side1=>exact Y22);(case side2=>exact Y30);rintro e w22 ⟨rfl,hi,hb,hk⟩;refine ⟨_,rfl,?_⟩;replace HO_6:=am (Kd.jG (Kd.jBa (je.apart (show je w0 _ g s0_0 x1001_6 from Y22) (rq HO_6.out) (by decide)) hk (fun _ h=>h.2)) (fun _ h=>h.1));replace BK802:=am (jb.blk hk (g':=gb802) (o:=.cells #[.slice A1_0 l1_0.length c1_0] 32 (0,0)) (kq BK802.out) NB802_0.out (by simp));replace HK:=am (jb.trans (Y18) hk (.inl rfl));replace HB:=am (hb);replace HI0:=am (hi);(try clear hb);(try clear hb2);(try clear hk);(try clear hi)))
      (try simp only [Act.put,List.setIfInBounds_toArray,List.set_cons_zero,List.set_cons_succ])
      go_cut [6] (fun v6 wc=>∃ (kq:Nat) (x6_20:List (S52)) (x1001_20:Int),jl (jB.j2 kq x5_1 x6_20 s0_0 x1001_20 l1_0=some (r1,r2))∧jl (kq≤kj6)∧jl (Kd.R k52 52 wc w.heap.size (fun _=>True) v6 x6_20)∧jl (wc.heap[gb802]?=some (.cells #[(.slice A1_0 l1_0.length c1_0)] 32 (0,0)))∧jl (je w0 wc g s0_0 x1001_20)∧jl (jb w wc g none)∧jl (Below w0.heap.size w0 wc))
      case first =>
       have H:=HC21.out
       clear HC21
       by_cases c23:t819=0
       ·rw [if_pos c23] at H
        have c23b0:(t819 == 0)=true:=beq_iff_eq.mpr c23
        have c23b1:(t819 != 0)=false:=bne_eq_false_iff_eq.mpr c23
        clear c23
        (first | rw [c23b0] |(simp only [jkb,jnb];rw [c23b0]) | skip)
        replace H:=bzS H
        obtain ⟨⟨t821,t824⟩,A240,H⟩:=H
        replace H:(jB.j2 kj6 x5_1 t821 s0_0 t824 l1_0)=some (r1,r2):=H
        have A24:=am A240
        clear A240
        have H':=am H
        clear H
        have hnb25:=NB802_0.out
        have hnc25:=NB0_802.out
        have hcz26_0:=bc0 BK802.out
        have hfz26_0:=ja BK802.out 0
        go_wp2_with (first |((with_reducible refine jd (f:=100) rfl ?_);refine gL (some 27) Try.func100 #[.pointer (some ⟨g,0,none⟩), .agg #[.slice A1_0 l1_0.length c1_0], .int .i64 0, .bool false] ?_;(with_reducible refine (jI.calls kj6 g s0_0 t820 _ _ l1_0 0 false t821 t824 w0 _ ?side1 ?side2 ?side3 ?side4 A24.out).mono ?_);(case side1=>exact Y22);(case side2=>exact Y30);(case side3=>exact Kd.jmb HR1_0.out (Y18));(case side4=>exact HC1_0.out);rintro e w27 ⟨v822,rfl,ho0,hi,hb,hk⟩;refine ⟨_,rfl,?_⟩;have HO823:=am (Kd.jfa (Kd.jzb ho0 (Kd.R_lt (rq HO_6.out))) (jL (w:=w) (g:=g) (row:=none) (Y18)));replace HO_6:=am (Kd.jG (Kd.R_told (Kd.R_oldK (je.apart (show je w0 _ g s0_0 t820 from Y22) (rq HO_6.out) (by decide)) hk) (Kd.jAb ho0)) (fun _ h_=>h_.1));replace BK802:=am (jb.blk hk (g':=gb802) (o:=.cells #[.slice A1_0 l1_0.length c1_0] 32 (0,0)) (kq BK802.out) NB802_0.out (by simp));replace HK:=am (jb.trans (Y18) hk (.inl rfl));replace HB:=am (hb);replace HI0:=am (hi);(try clear hb);(try clear hb2);(try clear hk);(try clear hi);(try clear ho0)))
        go_meet
        case rel=>exact ⟨_,(t821),(t824),H',⟨by have:=HK1.out;have:=HJ6.out;first | omega | exact Nat.le_refl _⟩,⟨by (with_reducible repeat (first | apply Kd.jma | apply Kd.jla | apply Kd.jva));exact Kd.jG HO823.out (fun _ hk=>trivial)⟩,⟨kq BK802.out⟩,⟨Y22⟩,⟨Y18⟩,⟨Y30⟩⟩
       ·rw [if_neg c23] at H
        have c23b0:(t819 == 0)=false:=beq_eq_false_iff_ne.mpr c23
        have c23b1:(t819 != 0)=true:=bne_iff_ne.mpr c23
        (first | rw [c23b0] |(simp only [jkb,jnb];rw [c23b0]) | skip)
        have H':=am H
        clear H
        go_wp2
        go_meet
        case rel=>exact ⟨_,(x6_6),(t820),H',⟨by have:=HK1.out;have:=HJ6.out;first | omega | exact Nat.le_refl _⟩,⟨rq HO_6.out⟩,⟨kq BK802.out⟩,⟨Y22⟩,⟨Y18⟩,⟨Y30⟩⟩
      case rest =>
       clear HC21
       try clear c1
       try clear c2
       try clear p2
       try clear c4
       try clear c4b0
       try clear c7
       try clear c8
       try clear c9
       try clear c10
       try clear c12
       try clear c12b0
       try clear c12b1
       try clear c14
       try clear c15
       try clear c23
       try clear c23b0
       try clear c23b1
       try clear c25
       try clear hcz16_0
       try clear hcz26_0
       try clear hcz9_0
       try clear hfz16_0
       try clear hfz26_0
       try clear hfz9_0
       try clear p2
       obtain ⟨kq,x6_20,x1001_20,HA,HJ20,HO_6,BK802,HI0,HK,HB⟩:=hcut
       cases kq with
       | zero=>exact absurd HA.out (by simp [jB.j2])
       | succ kj20 =>
        have H:=HA.out
        clear HA
        simp only [jB.j2] at H
        by_cases c28:(x6_20.length:Int)≤24
        ·rw [if_pos c28] at H
         have c28b0:decide ((x6_20.length:Int)≤24)=true:=dzT c28
         have c28b1:decide (x6_20.length≤24)=true:=dzT (by omega)
         clear c28
         simp only [Option.some.injEq,Prod.mk.injEq] at H
         obtain ⟨rfl,rfl⟩:=H
         obtain ⟨Ao29,co29,eo29⟩:=Kd.jta HO_6.out
         subst eo29
         go_wp2
         go_ret
         exact ⟨_,Y0,rq HO_6.out,Y22,Y30,Y18⟩
        ·rw [if_neg c28] at H
         have c28b0:decide ((x6_20.length:Int)≤24)=false:=dzF c28
         have c28b1:decide (x6_20.length≤24)=false:=dzF (by omega)
         clear c28
         have H':=am H
         clear H
         obtain ⟨Ao30,co30,eo30⟩:=Kd.jta HO_6.out
         subst eo30
         go_wp2
         go_roundg kj20
         case measure=>have:=HK1.out;have:=HJ6.out;have:=HJ20.out;omega
         case rel=>exact ⟨(wrap64 (x5_1+1)),(x1001_20),(sq),H',⟨by have:=HK1.out;have:=HJ6.out;have:=HJ20.out;omega⟩,⟨kq BK802.out⟩,⟨Y22⟩,⟨Y18⟩,⟨Y30⟩⟩
   ·rw [if_neg c4] at H
    have c4b0:decide (x5_1<4)=false:=dzF c4
    clear c4
    obtain ⟨y803,hy803⟩:∃ y_:List (S52),y_=(([(⟨0,7,0,0⟩:S52),(⟨1,2,0,1⟩:S52),(⟨0,10,0,0⟩:S52),(⟨1,1,1,0⟩:S52)]:List (S52))):=⟨_,rfl⟩
    replace H:(some (y803,x1001_1))=some (r1,r2):=by first |(rw [hy803];with_reducible exact H) |(have H2_:=(Option.bind_some _ _).symm.trans H;rw [hy803];with_reducible exact H2_) |(have H2_:=(Option.bind_some _ _).symm.trans H;with_reducible exact H2_) | with_reducible exact H |(rw [hy803];exact H) | exact H
    have Ny803:=am hy803
    clear hy803
    simp only [Option.some.injEq,Prod.mk.injEq] at H
    obtain ⟨rfl,rfl⟩:=H
    go_wp2_with (first |((with_reducible refine jP (N:=36) rfl ?_);refine Kd.jYb k52 _ 52 ?hg (N:=36) ?hd (xs:=([(⟨0,7,0,0⟩:S52),(⟨1,2,0,1⟩:S52),(⟨0,10,0,0⟩:S52),(⟨1,1,1,0⟩:S52)]:List (S52))) (inner:=[.int .i64 0, .int .i64 7, .int .i64 0, .int .i64 0, .int .i64 1, .int .i64 2, .int .i64 0, .int .i64 1, .int .i64 0, .int .i64 10, .int .i64 0, .int .i64 0, .int .i64 1, .int .i64 1, .int .i64 1, .int .i64 0]) (ok:=fun _=>True) (okp:=fun _=>True) ?hr ?hp (fun _ hk=>hk) trivial (Below.refl _ _) (Nat.le_refl _) (by simp) ?_;(case hd=>rfl);(case hg=>rfl);(case hr=>exact Y8);(case hp=>exact (Reps.c4 (show Kd.M k52 _ _ _ (⟨0,7,0,0⟩:S52) [.int .i64 0, .int .i64 7, .int .i64 0, .int .i64 0] from (jpb _ _ _ (⟨0,7,0,0⟩:S52) )) (Reps.c4 (show Kd.M k52 _ _ _ (⟨1,2,0,1⟩:S52) [.int .i64 1, .int .i64 2, .int .i64 0, .int .i64 1] from (jpb _ _ _ (⟨1,2,0,1⟩:S52) )) (Reps.c4 (show Kd.M k52 _ _ _ (⟨0,10,0,0⟩:S52) [.int .i64 0, .int .i64 10, .int .i64 0, .int .i64 0] from (jpb _ _ _ (⟨0,10,0,0⟩:S52) )) (Reps.c4 (show Kd.M k52 _ _ _ (⟨1,1,1,0⟩:S52) [.int .i64 1, .int .i64 1, .int .i64 1, .int .i64 0] from (jpb _ _ _ (⟨1,1,1,0⟩:S52) )) (Reps.none _ _))))));intro v804 w31 ho32 hb hg_ hnew_;clear hg_ hnew_;(first | rw [← Ny803.out] at ho32 |(simp only [Int.reduceToNat] at ho32;rw [← Ny803.out] at ho32));have HO805:=am (Kd.jfa ho32 (jL (w:=w) (g:=g) (row:=none) (Y18)));replace BK802:=am (jr (g:=gb802) (o:=.cells #[.slice A1_0 l1_0.length c1_0] 32 (0,0)) (kq BK802.out) hb);replace HK:=am (jb.trans (Y18) (jb.of_below hb g none) (.inl rfl));replace HB:=am (ji (Y30) hb);replace HI0:=am (je.below (Y22) hb);clear hb ho32))
    go_ret
    exact ⟨_,Y0,rq HO805.out,Y22,Y30,Y18⟩
end Go.Proofs.Ytkhiiiddbmgiaaa.P
end
