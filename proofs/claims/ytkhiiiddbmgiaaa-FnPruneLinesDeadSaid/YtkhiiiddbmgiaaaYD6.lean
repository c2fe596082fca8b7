/- One part of the proofs on this program: functions of the program as plain functions, that the code comes to them, and facts on them. -/
import Derived.Test.YtkhiiiddbmgiaaaYD1
import Derived.Test.YtkhiiiddbmgiaaaYD4
import Derived.Test.YtkhiiiddbmgiaaaYD5
import Derived.Test.YtkhiiiddbmgiaaaYWAuto
section
namespace Go.Proofs.Ytkhiiiddbmgiaaa.P
open Go.RowKit Go.Proofs.YtkhiiiddbmgiaaaW.PrintWords Go.Proofs.YtkhiiiddbmgiaaaW.PrintLast Go.Proofs.YtkhiiiddbmgiaaaW.PrintMore
attribute [local go_sem] jea jca jsa jra jR jQ jda jba jg
set_option linter.unusedVariables false
set_option linter.unusedSimpArgs false
def jw.T26 : Bool × List (List Nat × List Nat) := (true, [([], []), ([0], [0]), ([], []), ([], []), ([], []), ([4], [4]), ([], []), ([2, 3, 5, 6], [2, 3, 5, 6]), ([1, 7, 7], [1, 7]), ([8, 8, 0, 1, 2, 3, 4, 5, 6, 7, 8], [8])])
def jw.B26 : List Nat := [0, 1, 0, 0, 0, 16, 0, 124, 255, 511]
theorem jw.tab26 : rtab .any (opsOf Try.f106 26) = jw.T26 := by kernel_rfl
theorem jw.bits26 : jCc jw.T26.2 jw.B26 = true := by kernel_rfl
def jw.T30 : Bool × List (List Nat × List Nat) := (true, [([], []), ([0], [0]), ([], []), ([], []), ([], []), ([4], [4]), ([2, 3, 5], [2, 3, 5]), ([1, 6, 6], [1, 6]), ([7, 7, 0, 1, 2, 3, 4, 5, 6, 7], [7])])
def jw.B30 : List Nat := [0, 1, 0, 0, 0, 16, 60, 127, 255]
theorem jw.tab30 : rtab .any (opsOf Try.f106 30) = jw.T30 := by kernel_rfl
theorem jw.bits30 : jCc jw.T30.2 jw.B30 = true := by kernel_rfl
set_option maxHeartbeats 8000000 in
set_option maxRecDepth 100000 in
theorem jw.calls_of (k : Nat) (ih106 : ∀ k_, k_ < k → ∀ (g : Nat) (s0_0 : List Int) (s0_1 : Int) (A1_0 : Option Addr) (c1_0 : Nat) (l1_0 : List (S78)) (a2 : Int) (a3 : Bool) (r1 : List (S52)) (r2 : Int) (w0 w : World) (hI : je w0 w g s0_0 s0_1) (hB : Below w0.heap.size w0 w) (hr1_0 : ∀ W_, jb w W_ g none → Kd.C k78 W_ A1_0 l1_0.length l1_0) (hc1_0 : l1_0.length ≤ c1_0) (h : jw.f k_ s0_0 s0_1 l1_0 a2 a3 = some (r1, r2)), Calls Try.prog 106 #[.pointer (some ⟨g, 0, none⟩), .agg #[.slice A1_0 l1_0.length c1_0], .int .i64 a2, .bool a3] w fun e w' => ∃ v0_ : Value, e = .returned (v0_) ∧ Kd.R k52 52 w' w.heap.size (fun _ => True) v0_ r1 ∧ je w0 w' g s0_0 r2 ∧ Below w0.heap.size w0 w' ∧ jb w w' g none) (ih100 : ∀ k_, k_ < k → ∀ (g : Nat) (s0_0 : List Int) (s0_1 : Int) (A1_0 : Option Addr) (c1_0 : Nat) (l1_0 : List (S78)) (a2 : Int) (a3 : Bool) (r1 : List (S52)) (r2 : Int) (w0 w : World) (hI : je w0 w g s0_0 s0_1) (hB : Below w0.heap.size w0 w) (hr1_0 : ∀ W_, jb w W_ g none → Kd.C k78 W_ A1_0 l1_0.length l1_0) (hc1_0 : l1_0.length ≤ c1_0) (h : jI.f k_ s0_0 s0_1 l1_0 a2 a3 = some (r1, r2)), Calls Try.prog 100 #[.pointer (some ⟨g, 0, none⟩), .agg #[.slice A1_0 l1_0.length c1_0], .int .i64 a2, .bool a3] w fun e w' => ∃ v0_ : Value, e = .returned (v0_) ∧ Kd.R k52 52 w' w.heap.size (fun _ => True) v0_ r1 ∧ je w0 w' g s0_0 r2 ∧ Below w0.heap.size w0 w' ∧ jb w w' g none) (ih99 : ∀ k_, k_ < k → ∀ (g : Nat) (s0_0 : List Int) (s0_1 : Int) (A1_0 : Option Addr) (c1_0 : Nat) (l1_0 : List (S78)) (a2 : Int) (a3 : Bool) (r1 : List (S52)) (r2 : Int) (w0 w : World) (hI : je w0 w g s0_0 s0_1) (hB : Below w0.heap.size w0 w) (hr1_0 : ∀ W_, jb w W_ g none → Kd.C k78 W_ A1_0 l1_0.length l1_0) (hc1_0 : l1_0.length ≤ c1_0) (h : jU.f k_ s0_0 s0_1 l1_0 a2 a3 = some (r1, r2)), Calls Try.prog 99 #[.pointer (some ⟨g, 0, none⟩), .agg #[.slice A1_0 l1_0.length c1_0], .int .i64 a2, .bool a3] w fun e w' => ∃ v0_ : Value, e = .returned (v0_) ∧ Kd.R k52 52 w' w.heap.size (fun _ => True) v0_ r1 ∧ je w0 w' g s0_0 r2 ∧ Below w0.heap.size w0 w' ∧ jb w w' g none) : ∀ (g : Nat) (s0_0 : List Int) (s0_1 : Int) (A1_0 : Option Addr) (c1_0 : Nat) (l1_0 : List (S78)) (a2 : Int) (a3 : Bool) (r1 : List (S52)) (r2 : Int) (w0 w : World) (hI : je w0 w g s0_0 s0_1) (hB : Below w0.heap.size w0 w) (hr1_0 : ∀ W_, jb w W_ g none → Kd.C k78 W_ A1_0 l1_0.length l1_0) (hc1_0 : l1_0.length ≤ c1_0) (h : jw.f k s0_0 s0_1 l1_0 a2 a3 = some (r1, r2)),
  Calls Try.prog 106 #[.pointer (some ⟨g,0,none⟩), .agg #[.slice A1_0 l1_0.length c1_0], .int .i64 a2, .bool a3] w fun e w'=>∃ v0_:Value,e=.returned (v0_)∧Kd.R k52 52 w' w.heap.size (fun _=>True) v0_ r1∧je w0 w' g s0_0 r2∧Below w0.heap.size w0 w'∧jb w w' g none:=by
 intro g s0_0 s0_1 A1_0 c1_0 l1_0 a2 a3 r1 r2 w0 w hI hB hr1_0 hc1_0 h
 cases k with
 | zero=>exact absurd h (by simp [jw.f])
 | succ k =>
 simp only [jw.f] at h
 have hu32:=Try.underlying32
 have hu52:=Try.underlying52
 have HR1_0:=am hr1_0
 have HC1_0:=am hc1_0
 clear hr1_0 hc1_0
 have HI0:=am hI
 have HK:=am (jb.refl w g none)
 have HL:=am hB.size
 clear hI
 have HW0:=am hB.size
 have HB:=am hB
 clear hB
 have H:((jf.f k s0_0 s0_1 16).bind fun bt641=>(if a2≥3 then ((jf.f k s0_0 bt641.2 9).bind fun bt643=>(jw.j0 k a2 a3 bt643.1 s0_0 bt643.2 l1_0)) else (jw.j0 k a2 a3 bt641.1 s0_0 bt641.2 l1_0)))=some (r1,r2):=h
 clear h
 replace H:=bzS H
 obtain ⟨⟨t641,t642⟩,A50,H⟩:=H
 replace H:(if a2≥3 then ((jf.f k s0_0 t642 9).bind fun bt643=>(jw.j0 k a2 a3 bt643.1 s0_0 bt643.2 l1_0)) else (jw.j0 k a2 a3 t641 s0_0 t642 l1_0))=some (r1,r2):=H
 have A5:=am A50
 clear A50
 have HC6:=am H
 clear H
 go_enter Try.func106,Try.ntmps106
 go_upto_if 14 with (first |((with_reducible refine jP (N:=5) rfl ?_);refine bE (N:=5) (cs:=#[.slice A1_0 l1_0.length c1_0]) (t:=32) ?_;intro gb640 hg w7 hbox hb;have BK640:=am (hbox);have GW640:=am ((Y12:w.heap.size≤gb640));have GE640:=am ((Nat.le_trans HW0.out (Y12:w.heap.size≤gb640):w0.heap.size≤gb640));have NB0_640:=am ((Y28:g≠gb640));have NB640_0:=am ((Y29:gb640≠g));replace HK:=am (jb.trans (Y16) (jb.of_below hb g none) (.inl rfl));replace HB:=am (ji (Y17) hb);replace HI0:=am (je.below (Y15) hb);clear hb hbox hg) |((with_reducible refine jd (f:=76) rfl ?_);refine gL (some 12) Try.func76 #[.pointer (some ⟨g,0,none⟩), .int .i64 16] ?_;(with_reducible refine (jf.calls k g s0_0 s0_1 16 t641 t642 w0 _ ?side1 ?side2 A5.out).mono ?_);(case side1=>exact Y48);(case side2=>exact Y49);rintro e w8 ⟨rfl,hi,hb,hk⟩;refine ⟨_,rfl,?_⟩;replace BK640:=am (jb.blk hk (g':=gb640) (o:=.cells #[.slice A1_0 l1_0.length c1_0] 32 (0,0)) (kq BK640.out) NB640_0.out (by simp));replace HK:=am (jb.trans (Y50) hk (.inl rfl));replace HB:=am (hb);replace HI0:=am (hi);(try clear hb);(try clear hb2);(try clear hk);(try clear hi)))
 (try simp only [Act.put,List.setIfInBounds_toArray,List.set_cons_zero,List.set_cons_succ])
 go_cut [9] (fun v9 wc=>∃ (kq:Nat) (x9_5:Int) (x1001_5:Int),v9=.int .i64 x9_5∧jl (jw.j0 kq a2 a3 x9_5 s0_0 x1001_5 l1_0=some (r1,r2))∧jl (kq≤k)∧jl (wc.heap[gb640]?=some (.cells #[(.slice A1_0 l1_0.length c1_0)] 32 (0,0)))∧jl (je w0 wc g s0_0 x1001_5)∧jl (jb w wc g none)∧jl (Below w0.heap.size w0 wc))
 case first =>
  have H:=HC6.out
  clear HC6
  by_cases c9:a2≥3
  ·rw [if_pos c9] at H
   have c9b0:decide (3≤a2)=true:=dzT c9
   clear c9
   (first | rw [c9b0] |(simp only [jkb,jnb];rw [c9b0]) | skip)
   replace H:=bzS H
   obtain ⟨⟨t643,t644⟩,A100,H⟩:=H
   replace H:(jw.j0 k a2 a3 t643 s0_0 t644 l1_0)=some (r1,r2):=H
   have A10:=am A100
   clear A100
   have H':=am H
   clear H
   go_wp2_with (first |((with_reducible refine jd (f:=76) rfl ?_);refine gL (some 16) Try.func76 #[.pointer (some ⟨g,0,none⟩), .int .i64 9] ?_;(with_reducible refine (jf.calls k g s0_0 t642 9 t643 t644 w0 _ ?side1 ?side2 A10.out).mono ?_);(case side1=>exact Y48);(case side2=>exact Y49);rintro e w11 ⟨rfl,hi,hb,hk⟩;refine ⟨_,rfl,?_⟩;replace BK640:=am (jb.blk hk (g':=gb640) (o:=.cells #[.slice A1_0 l1_0.length c1_0] 32 (0,0)) (kq BK640.out) NB640_0.out (by simp));replace HK:=am (jb.trans (Y50) hk (.inl rfl));replace HB:=am (hb);replace HI0:=am (hi);(try clear hb);(try clear hb2);(try clear hk);(try clear hi)))
   go_meet
   case rel=>exact ⟨_,(t643),(t644),(sq),H',⟨Y42⟩,⟨kq BK640.out⟩,⟨Y48⟩,⟨Y50⟩,⟨Y49⟩⟩
  ·rw [if_neg c9] at H
   have c9b0:decide (3≤a2)=false:=dzF c9
   clear c9
   (first | rw [c9b0] |(simp only [jkb,jnb];rw [c9b0]) | skip)
   have H':=am H
   clear H
   go_wp2
   go_meet
   case rel=>exact ⟨_,(t641),(t642),(sq),H',⟨Y42⟩,⟨kq BK640.out⟩,⟨Y48⟩,⟨Y50⟩,⟨Y49⟩⟩
 case rest =>
  clear HC6
  try clear c1
  try clear p2
  try clear c7
  try clear c9
  try clear c9b0
  try clear c10
  obtain ⟨kq,x9_5,x1001_5,rfl,HA,HJ5,BK640,HI0,HK,HB⟩:=hcut
  cases kq with
  | zero=>exact absurd HA.out (by simp [jw.j0])
  | succ kj5 =>
   have H:=HA.out
   clear HA
   simp only [jw.j0] at H
   by_cases c12:x9_5<4
   ·rw [if_pos c12] at H
    have c12b0:decide (x9_5<4)=true:=dzT c12
    clear c12
    obtain ⟨y646,hy646⟩:∃ y_:List Int,y_=(([1,2,3,4,5]:List Int)):=⟨_,rfl⟩
    replace H:((jh.f kj5 s0_0 x1001_5 y646).bind fun bt649=>(some ((([(⟨a2,1,bt649.1,0⟩:S52)]:List (S52))),bt649.2)))=some (r1,r2):=by first |(rw [hy646];with_reducible exact H) |(have H2_:=(Option.bind_some _ _).symm.trans H;rw [hy646];with_reducible exact H2_) |(have H2_:=(Option.bind_some _ _).symm.trans H;with_reducible exact H2_) | with_reducible exact H |(rw [hy646];exact H) | exact H
    have Ny646:=am hy646
    clear hy646
    replace H:=bzS H
    obtain ⟨⟨t649,t650⟩,A130,H⟩:=H
    replace H:(some ((([(⟨a2,1,t649,0⟩:S52)]:List (S52))),t650))=some (r1,r2):=H
    have A13:=am A130
    clear A130
    obtain ⟨y651,hy651⟩:∃ y_:List (S52),y_=(([(⟨a2,1,t649,0⟩:S52)]:List (S52))):=⟨_,rfl⟩
    replace H:(some (y651,t650))=some (r1,r2):=by first |(rw [hy651];with_reducible exact H) |(have H2_:=(Option.bind_some _ _).symm.trans H;rw [hy651];with_reducible exact H2_) |(have H2_:=(Option.bind_some _ _).symm.trans H;with_reducible exact H2_) | with_reducible exact H |(rw [hy651];exact H) | exact H
    have Ny651:=am hy651
    clear hy651
    simp only [Option.some.injEq,Prod.mk.injEq] at H
    obtain ⟨rfl,rfl⟩:=H
    go_wp2_with (first |((with_reducible refine jP (N:=10) rfl ?_);refine bE (N:=10) (cs:=#[.int .i64 0, .int .i64 0, .int .i64 0, .int .i64 0]) (t:=52) ?_;intro gb645 hg w14 hbox hb;have BK645:=am (hbox);have GW645:=am ((Y51:w.heap.size≤gb645));have GE645:=am ((Nat.le_trans HW0.out (Y51:w.heap.size≤gb645):w0.heap.size≤gb645));have NB640_645:=am ((Y74:gb640≠gb645));have NB645_640:=am ((Y75:gb645≠gb640));have NB0_645:=am ((Y76:g≠gb645));have NB645_0:=am ((Y77:gb645≠g));replace BK640:=am (jr (g:=gb640) (o:=.cells #[.slice A1_0 l1_0.length c1_0] 32 (0,0)) (kq BK640.out) hb);replace HK:=am (jb.trans (Y50) (jb.of_below hb g none) (.inl rfl));replace HB:=am (ji (Y49) hb);replace HI0:=am (je.below (Y48) hb);clear hb hbox hg;have hnb15:=NB645_640.out;have hnc15:=NB640_645.out;have hnb16:=NB645_0.out;have hnc16:=NB0_645.out;have hcz17_0:=bc0 BK645.out;have hcz17_1:=bc1 BK645.out;have hcz17_2:=bc2 BK645.out;have hcz17_3:=bc3 BK645.out;have hfz17_0:=ja BK645.out 0;have hfz17_1:=ja BK645.out 1;have hfz17_2:=ja BK645.out 2;have hfz17_3:=ja BK645.out 3) |((with_reducible refine jP (N:=29) rfl ?_);refine Kd.jYb (Kd.int .i64) _ 3 ?hg (N:=29) ?hd (xs:=([1,2,3,4,5]:List Int)) (inner:=[.int .i64 1, .int .i64 2, .int .i64 3, .int .i64 4, .int .i64 5]) (ok:=fun _=>True) (okp:=fun _=>True) ?hr ?hp (fun _ hk=>hk) trivial (Below.refl _ _) (Nat.le_refl _) (by simp) ?_;(case hd=>rfl);(case hg=>rfl);(case hr=>exact Y8);(case hp=>exact (Reps.one (show Kd.M (Kd.int .i64) _ _ _ 1 [.int .i64 1] from rfl) (Reps.one (show Kd.M (Kd.int .i64) _ _ _ 2 [.int .i64 2] from rfl) (Reps.one (show Kd.M (Kd.int .i64) _ _ _ 3 [.int .i64 3] from rfl) (Reps.one (show Kd.M (Kd.int .i64) _ _ _ 4 [.int .i64 4] from rfl) (Reps.one (show Kd.M (Kd.int .i64) _ _ _ 5 [.int .i64 5] from rfl) (Reps.none _ _)))))));intro v647 w18 ho19 hb hg_ hnew_;clear hg_ hnew_;(first | rw [← Ny646.out] at ho19 |(simp only [Int.reduceToNat] at ho19;rw [← Ny646.out] at ho19));have HO648:=am (Kd.jfa ho19 (jL (w:=w) (g:=g) (row:=none) (Y1)));replace BK640:=am (jr (g:=gb640) (o:=.cells #[.slice A1_0 l1_0.length c1_0] 32 (0,0)) (Y86) hb);replace BK645:=am (jr (g:=gb645) (o:=.cells #[.int .i64 a2, .int .i64 1, .int .i64 0, .int .i64 0] 52 (0,0)) (Y78) hb);replace HK:=am (jb.trans (Y1) (jb.of_below hb g none) (.inl rfl));replace HB:=am (ji (Y6) hb);replace HI0:=am (je.below (show je w0 (((((w14.setCell ⟨gb645,0,none⟩ (.int .i64 a2)).setCell ⟨gb645,1,none⟩ (.int .i64 0)).setCell ⟨gb645,2,none⟩ (.int .i64 0)).setCell ⟨gb645,3,none⟩ (.int .i64 0)).setCell ⟨gb645,1,none⟩ (.int .i64 1)) g s0_0 x1001_5 from Y4) hb);clear hb ho19;obtain ⟨Ao20,co20,eo20⟩:=Kd.jta HO648.out;subst eo20) |((with_reducible refine jd (f:=77) rfl ?_);refine gL (some 30) Try.func77 #[.pointer (some ⟨g,0,none⟩), .slice Ao20 y646.length co20] ?_;(with_reducible refine (jh.calls kj5 g s0_0 x1001_5 _ _ y646 t649 t650 w0 _ ?side1 ?side2 ?side3 ?side4 ?side5 A13.out).mono ?_);(case side1=>exact Y4);(case side2=>exact Y6);(case side3=>exact cq (Kd.jC HO648.out).2.2);(case side4=>exact (Kd.jC HO648.out).2.1);(case side5=>exact jxb (je.own_ne HI0.out HO648.out (by decide)));rintro e w21 ⟨rfl,hi,hb,hk⟩;refine ⟨_,rfl,?_⟩;replace BK640:=am (jb.blk hk (g':=gb640) (o:=.cells #[.slice A1_0 l1_0.length c1_0] 32 (0,0)) (kq BK640.out) NB640_0.out (by simp));replace BK645:=am (jb.blk hk (g':=gb645) (o:=.cells #[.int .i64 a2, .int .i64 1, .int .i64 0, .int .i64 0] 52 (0,0)) (kq BK645.out) NB645_0.out (by simp));replace HO648:=am (Kd.jG (Kd.jBa (je.apart (show je w0 _ g s0_0 x1001_5 from Y4) (rq HO648.out) (by decide)) hk (fun _ h=>h.2)) (fun _ h=>h.1));replace HK:=am (jb.trans (Y1) hk (.inl rfl));replace HB:=am (hb);replace HI0:=am (hi);(try clear hb);(try clear hb2);(try clear hk);(try clear hi);have hcz22_0:=bc0 BK645.out;have hcz22_1:=bc1 BK645.out;have hcz22_2:=bc2 BK645.out;have hcz22_3:=bc3 BK645.out;have hfz22_0:=ja BK645.out 0;have hfz22_1:=ja BK645.out 1;have hfz22_2:=ja BK645.out 2;have hfz22_3:=ja BK645.out 3) |((with_reducible refine jP (N:=108) rfl ?_);refine Kd.jYb k52 _ 52 ?hg (N:=108) ?hd (xs:=([(⟨a2,1,t649,0⟩:S52)]:List (S52))) (inner:=[.int .i64 a2, .int .i64 1, .int .i64 t649, .int .i64 0]) (ok:=fun _=>True) (okp:=fun _=>True) ?hr ?hp (fun _ hk=>hk) trivial (Below.refl _ _) (Nat.le_refl _) (by simp) ?_;(case hd=>rfl);(case hg=>rfl);(case hr=>exact Y8);(case hp=>exact (Reps.c4 (show Kd.M k52 _ _ _ (⟨a2,1,t649,0⟩:S52) [.int .i64 a2, .int .i64 1, .int .i64 t649, .int .i64 0] from (jpb _ _ _ (⟨a2,1,t649,0⟩:S52) )) (Reps.none _ _)));intro v652 w23 ho24 hb hg_ hnew_;clear hg_ hnew_;(first | rw [← Ny651.out] at ho24 |(simp only [Int.reduceToNat] at ho24;rw [← Ny651.out] at ho24));have HO653:=am (Kd.jfa (Kd.jwc ho24 (g:=gb645) (o:=.cells #[.int .i64 a2, .int .i64 1, .int .i64 t649, .int .i64 0] 52 (0,0)) (Y98)) (jL (w:=w) (g:=g) (row:=none) (Y1)));replace HO648:=am (Kd.jqa (by (with_reducible repeat (first | apply Kd.jma | apply Kd.jla | apply Kd.jva));exact (Kd.jG (Kd.jLb (p:=⟨gb645,2,none⟩) (Kd.jQa HO648.out BK645.out (by decide)) (fun _ hk=>hk.2) (.int .i64 t649)) (fun _ h_=>h_.1))) hb);replace BK640:=am (jr (g:=gb640) (o:=.cells #[.slice A1_0 l1_0.length c1_0] 32 (0,0)) (Y43) hb);replace BK645:=am (jr (g:=gb645) (o:=.cells #[.int .i64 a2, .int .i64 1, .int .i64 t649, .int .i64 0] 52 (0,0)) (Y98) hb);replace HK:=am (jb.trans (Y1) (jb.of_below hb g none) (.inl rfl));replace HB:=am (ji (Y6) hb);replace HI0:=am (je.below (show je w0 (w21.setCell ⟨gb645,2,none⟩ (.int .i64 t649)) g s0_0 t650 from Y4) hb);clear hb ho24))
    go_ret
    exact ⟨_,Y0,by (with_reducible repeat (first | apply Kd.jma | apply Kd.jla | apply Kd.jva));exact Kd.jG HO653.out (fun _ hk=>trivial),Y4,Y6,Y1⟩
   ·rw [if_neg c12] at H
    have c12b0:decide (x9_5<4)=false:=dzF c12
    clear c12
    by_cases c25:x9_5<6
    ·rw [if_pos c25] at H
     have c25b0:decide (x9_5<6)=true:=dzT c25
     clear c25
     replace H:=bzS H
     obtain ⟨⟨t654,t655⟩,A260,H⟩:=H
     replace H:((jh.f kj5 s0_0 t655 (([1,2,3]:List Int))).bind fun bt659=>(some ((([(⟨a2,2,t654,bt659.1⟩:S52)]:List (S52))),bt659.2)))=some (r1,r2):=H
     have A26:=am A260
     clear A260
     obtain ⟨y656,hy656⟩:∃ y_:List Int,y_=(([1,2,3]:List Int)):=⟨_,rfl⟩
     replace H:((jh.f kj5 s0_0 t655 y656).bind fun bt659=>(some ((([(⟨a2,2,t654,bt659.1⟩:S52)]:List (S52))),bt659.2)))=some (r1,r2):=by first |(rw [hy656];with_reducible exact H) |(have H2_:=(Option.bind_some _ _).symm.trans H;rw [hy656];with_reducible exact H2_) |(have H2_:=(Option.bind_some _ _).symm.trans H;with_reducible exact H2_) | with_reducible exact H |(rw [hy656];exact H) | exact H
     have Ny656:=am hy656
     clear hy656
     replace H:=bzS H
     obtain ⟨⟨t659,t660⟩,A270,H⟩:=H
     replace H:(some ((([(⟨a2,2,t654,t659⟩:S52)]:List (S52))),t660))=some (r1,r2):=H
     have A27:=am A270
     clear A270
     obtain ⟨y661,hy661⟩:∃ y_:List (S52),y_=(([(⟨a2,2,t654,t659⟩:S52)]:List (S52))):=⟨_,rfl⟩
     replace H:(some (y661,t660))=some (r1,r2):=by first |(rw [hy661];with_reducible exact H) |(have H2_:=(Option.bind_some _ _).symm.trans H;rw [hy661];with_reducible exact H2_) |(have H2_:=(Option.bind_some _ _).symm.trans H;with_reducible exact H2_) | with_reducible exact H |(rw [hy661];exact H) | exact H
     have Ny661:=am hy661
     clear hy661
     simp only [Option.some.injEq,Prod.mk.injEq] at H
     obtain ⟨rfl,rfl⟩:=H
     go_wp2_with (first |((with_reducible refine jP (N:=10) rfl ?_);refine bE (N:=10) (cs:=#[.int .i64 0, .int .i64 0, .int .i64 0, .int .i64 0]) (t:=52) ?_;intro gb645 hg w28 hbox hb;have BK645:=am (hbox);have GW645:=am ((Y51:w.heap.size≤gb645));have GE645:=am ((Nat.le_trans HW0.out (Y51:w.heap.size≤gb645):w0.heap.size≤gb645));have NB640_645:=am ((Y74:gb640≠gb645));have NB645_640:=am ((Y75:gb645≠gb640));have NB0_645:=am ((Y76:g≠gb645));have NB645_0:=am ((Y77:gb645≠g));replace BK640:=am (jr (g:=gb640) (o:=.cells #[.slice A1_0 l1_0.length c1_0] 32 (0,0)) (kq BK640.out) hb);replace HK:=am (jb.trans (Y50) (jb.of_below hb g none) (.inl rfl));replace HB:=am (ji (Y49) hb);replace HI0:=am (je.below (Y48) hb);clear hb hbox hg;have hnb29:=NB645_640.out;have hnc29:=NB640_645.out;have hnb30:=NB645_0.out;have hnc30:=NB0_645.out;have hcz31_0:=bc0 BK645.out;have hcz31_1:=bc1 BK645.out;have hcz31_2:=bc2 BK645.out;have hcz31_3:=bc3 BK645.out;have hfz31_0:=ja BK645.out 0;have hfz31_1:=ja BK645.out 1;have hfz31_2:=ja BK645.out 2;have hfz31_3:=ja BK645.out 3;have hnb32:=NB640_0.out;have hnc32:=NB0_640.out;have hcz33_0:=bc0 BK640.out;have hfz33_0:=ja BK640.out 0) |((with_reducible refine jd (f:=76) rfl ?_);refine gL (some 40) Try.func76 #[.pointer (some ⟨g,0,none⟩), .int .i64 (l1_0.length:Int)] ?_;(with_reducible refine (jf.calls kj5 g s0_0 x1001_5 (l1_0.length:Int) t654 t655 w0 _ ?side1 ?side2 A26.out).mono ?_);(case side1=>exact Y4);(case side2=>exact Y6);rintro e w34 ⟨rfl,hi,hb,hk⟩;refine ⟨_,rfl,?_⟩;replace BK640:=am (jb.blk hk (g':=gb640) (o:=.cells #[.slice A1_0 l1_0.length c1_0] 32 (0,0)) (Y86) NB640_0.out (by simp));replace BK645:=am (jb.blk hk (g':=gb645) (o:=.cells #[.int .i64 a2, .int .i64 2, .int .i64 0, .int .i64 0] 52 (0,0)) (Y78) NB645_0.out (by simp));replace HK:=am (jb.trans (Y1) hk (.inl rfl));replace HB:=am (hb);replace HI0:=am (hi);(try clear hb);(try clear hb2);(try clear hk);(try clear hi);have hcz35_0:=bc0 BK645.out;have hcz35_1:=bc1 BK645.out;have hcz35_2:=bc2 BK645.out;have hcz35_3:=bc3 BK645.out;have hfz35_0:=ja BK645.out 0;have hfz35_1:=ja BK645.out 1;have hfz35_2:=ja BK645.out 2;have hfz35_3:=ja BK645.out 3) |((with_reducible refine jP (N:=43) rfl ?_);refine Kd.jYb (Kd.int .i64) _ 3 ?hg (N:=43) ?hd (xs:=([1,2,3]:List Int)) (inner:=[.int .i64 1, .int .i64 2, .int .i64 3]) (ok:=fun _=>True) (okp:=fun _=>True) ?hr ?hp (fun _ hk=>hk) trivial (Below.refl _ _) (Nat.le_refl _) (by simp) ?_;(case hd=>rfl);(case hg=>rfl);(case hr=>exact Y8);(case hp=>exact (Reps.one (show Kd.M (Kd.int .i64) _ _ _ 1 [.int .i64 1] from rfl) (Reps.one (show Kd.M (Kd.int .i64) _ _ _ 2 [.int .i64 2] from rfl) (Reps.one (show Kd.M (Kd.int .i64) _ _ _ 3 [.int .i64 3] from rfl) (Reps.none _ _)))));intro v657 w36 ho37 hb hg_ hnew_;clear hg_ hnew_;(first | rw [← Ny656.out] at ho37 |(simp only [Int.reduceToNat] at ho37;rw [← Ny656.out] at ho37));have HO658:=am (Kd.jfa ho37 (jL (w:=w) (g:=g) (row:=none) (Y1)));replace BK640:=am (jr (g:=gb640) (o:=.cells #[.slice A1_0 l1_0.length c1_0] 32 (0,0)) (Y43) hb);replace BK645:=am (jr (g:=gb645) (o:=.cells #[.int .i64 a2, .int .i64 2, .int .i64 t654, .int .i64 0] 52 (0,0)) (by (with_reducible repeat (first | refine jv ?_ _ | refine jD ?_ | refine jA ?_ _));refine jVa (cs:=#[.int .i64 a2, .int .i64 2, .int .i64 0, .int .i64 0]) ?_ 2 _ rfl;(with_reducible repeat (first | refine jv ?_ _ | refine jD ?_ | refine jA ?_ _));exact BK645.out) hb);replace HK:=am (jb.trans (Y1) (jb.of_below hb g none) (.inl rfl));replace HB:=am (ji (Y6) hb);replace HI0:=am (je.below (show je w0 (w34.setCell ⟨gb645,2,none⟩ (.int .i64 t654)) g s0_0 t655 from Y4) hb);clear hb ho37;obtain ⟨Ao38,co38,eo38⟩:=Kd.jta HO658.out;subst eo38) |((with_reducible refine jd (f:=77) rfl ?_);refine gL (some 44) Try.func77 #[.pointer (some ⟨g,0,none⟩), .slice Ao38 y656.length co38] ?_;(with_reducible refine (jh.calls kj5 g s0_0 t655 _ _ y656 t659 t660 w0 _ ?side1 ?side2 ?side3 ?side4 ?side5 A27.out).mono ?_);(case side1=>exact Y4);(case side2=>exact Y6);(case side3=>exact cq (Kd.jC HO658.out).2.2);(case side4=>exact (Kd.jC HO658.out).2.1);(case side5=>exact jxb (je.own_ne HI0.out HO658.out (by decide)));rintro e w39 ⟨rfl,hi,hb,hk⟩;refine ⟨_,rfl,?_⟩;replace BK640:=am (jb.blk hk (g':=gb640) (o:=.cells #[.slice A1_0 l1_0.length c1_0] 32 (0,0)) (kq BK640.out) NB640_0.out (by simp));replace BK645:=am (jb.blk hk (g':=gb645) (o:=.cells #[.int .i64 a2, .int .i64 2, .int .i64 t654, .int .i64 0] 52 (0,0)) (kq BK645.out) NB645_0.out (by simp));replace HO658:=am (Kd.jG (Kd.jBa (je.apart (show je w0 _ g s0_0 t655 from Y4) (rq HO658.out) (by decide)) hk (fun _ h=>h.2)) (fun _ h=>h.1));replace HK:=am (jb.trans (Y1) hk (.inl rfl));replace HB:=am (hb);replace HI0:=am (hi);(try clear hb);(try clear hb2);(try clear hk);(try clear hi);have hcz40_0:=bc0 BK645.out;have hcz40_1:=bc1 BK645.out;have hcz40_2:=bc2 BK645.out;have hcz40_3:=bc3 BK645.out;have hfz40_0:=ja BK645.out 0;have hfz40_1:=ja BK645.out 1;have hfz40_2:=ja BK645.out 2;have hfz40_3:=ja BK645.out 3) |((with_reducible refine jP (N:=108) rfl ?_);refine Kd.jYb k52 _ 52 ?hg (N:=108) ?hd (xs:=([(⟨a2,2,t654,t659⟩:S52)]:List (S52))) (inner:=[.int .i64 a2, .int .i64 2, .int .i64 t654, .int .i64 t659]) (ok:=fun _=>True) (okp:=fun _=>True) ?hr ?hp (fun _ hk=>hk) trivial (Below.refl _ _) (Nat.le_refl _) (by simp) ?_;(case hd=>rfl);(case hg=>rfl);(case hr=>exact Y8);(case hp=>exact (Reps.c4 (show Kd.M k52 _ _ _ (⟨a2,2,t654,t659⟩:S52) [.int .i64 a2, .int .i64 2, .int .i64 t654, .int .i64 t659] from (jpb _ _ _ (⟨a2,2,t654,t659⟩:S52) )) (Reps.none _ _)));intro v662 w41 ho42 hb hg_ hnew_;clear hg_ hnew_;(first | rw [← Ny661.out] at ho42 |(simp only [Int.reduceToNat] at ho42;rw [← Ny661.out] at ho42));have HO663:=am (Kd.jfa (Kd.jwc ho42 (g:=gb645) (o:=.cells #[.int .i64 a2, .int .i64 2, .int .i64 t654, .int .i64 t659] 52 (0,0)) (Y99)) (jL (w:=w) (g:=g) (row:=none) (Y1)));replace HO658:=am (Kd.jqa (by (with_reducible repeat (first | apply Kd.jma | apply Kd.jla | apply Kd.jva));exact (Kd.jG (Kd.jLb (p:=⟨gb645,3,none⟩) (Kd.jQa HO658.out BK645.out (by decide)) (fun _ hk=>hk.2) (.int .i64 t659)) (fun _ h_=>h_.1))) hb);replace BK640:=am (jr (g:=gb640) (o:=.cells #[.slice A1_0 l1_0.length c1_0] 32 (0,0)) (Y43) hb);replace BK645:=am (jr (g:=gb645) (o:=.cells #[.int .i64 a2, .int .i64 2, .int .i64 t654, .int .i64 t659] 52 (0,0)) (Y99) hb);replace HK:=am (jb.trans (Y1) (jb.of_below hb g none) (.inl rfl));replace HB:=am (ji (Y6) hb);replace HI0:=am (je.below (show je w0 (w39.setCell ⟨gb645,3,none⟩ (.int .i64 t659)) g s0_0 t660 from Y4) hb);clear hb ho42))
     go_ret
     exact ⟨_,Y0,by (with_reducible repeat (first | apply Kd.jma | apply Kd.jla | apply Kd.jva));exact Kd.jG HO663.out (fun _ hk=>trivial),Y4,Y6,Y1⟩
    ·rw [if_neg c25] at H
     have c25b0:decide (x9_5<6)=false:=dzF c25
     clear c25
     by_cases c43:x9_5=6
     ·rw [if_pos c43] at H
      have c43b0:(x9_5 == 6)=true:=beq_iff_eq.mpr c43
      have c43b1:(x9_5 != 6)=false:=bne_eq_false_iff_eq.mpr c43
      clear c43
      obtain ⟨y664,hy664⟩:∃ y_:List (S52),y_=(([(⟨a2,3,0,0⟩:S52)]:List (S52))):=⟨_,rfl⟩
      replace H:(some (y664,x1001_5))=some (r1,r2):=by first |(rw [hy664];with_reducible exact H) |(have H2_:=(Option.bind_some _ _).symm.trans H;rw [hy664];with_reducible exact H2_) |(have H2_:=(Option.bind_some _ _).symm.trans H;with_reducible exact H2_) | with_reducible exact H |(rw [hy664];exact H) | exact H
      have Ny664:=am hy664
      clear hy664
      simp only [Option.some.injEq,Prod.mk.injEq] at H
      obtain ⟨rfl,rfl⟩:=H
      go_wp2_with (first |((with_reducible refine jP (N:=10) rfl ?_);refine bE (N:=10) (cs:=#[.int .i64 0, .int .i64 0, .int .i64 0, .int .i64 0]) (t:=52) ?_;intro gb645 hg w44 hbox hb;have BK645:=am (hbox);have GW645:=am ((Y51:w.heap.size≤gb645));have GE645:=am ((Nat.le_trans HW0.out (Y51:w.heap.size≤gb645):w0.heap.size≤gb645));have NB640_645:=am ((Y74:gb640≠gb645));have NB645_640:=am ((Y75:gb645≠gb640));have NB0_645:=am ((Y76:g≠gb645));have NB645_0:=am ((Y77:gb645≠g));replace BK640:=am (jr (g:=gb640) (o:=.cells #[.slice A1_0 l1_0.length c1_0] 32 (0,0)) (kq BK640.out) hb);replace HK:=am (jb.trans (Y50) (jb.of_below hb g none) (.inl rfl));replace HB:=am (ji (Y49) hb);replace HI0:=am (je.below (Y48) hb);clear hb hbox hg;have hnb45:=NB645_640.out;have hnc45:=NB640_645.out;have hnb46:=NB645_0.out;have hnc46:=NB0_645.out;have hcz47_0:=bc0 BK645.out;have hcz47_1:=bc1 BK645.out;have hcz47_2:=bc2 BK645.out;have hcz47_3:=bc3 BK645.out;have hfz47_0:=ja BK645.out 0;have hfz47_1:=ja BK645.out 1;have hfz47_2:=ja BK645.out 2;have hfz47_3:=ja BK645.out 3) |((with_reducible refine jP (N:=108) rfl ?_);refine Kd.jYb k52 _ 52 ?hg (N:=108) ?hd (xs:=([(⟨a2,3,0,0⟩:S52)]:List (S52))) (inner:=[.int .i64 a2, .int .i64 3, .int .i64 0, .int .i64 0]) (ok:=fun _=>True) (okp:=fun _=>True) ?hr ?hp (fun _ hk=>hk) trivial (Below.refl _ _) (Nat.le_refl _) (by simp) ?_;(case hd=>rfl);(case hg=>rfl);(case hr=>exact Y8);(case hp=>exact (Reps.c4 (show Kd.M k52 _ _ _ (⟨a2,3,0,0⟩:S52) [.int .i64 a2, .int .i64 3, .int .i64 0, .int .i64 0] from (jpb _ _ _ (⟨a2,3,0,0⟩:S52) )) (Reps.none _ _)));intro v665 w48 ho49 hb hg_ hnew_;clear hg_ hnew_;(first | rw [← Ny664.out] at ho49 |(simp only [Int.reduceToNat] at ho49;rw [← Ny664.out] at ho49));have HO666:=am (Kd.jfa (Kd.jwc ho49 (g:=gb645) (o:=.cells #[.int .i64 a2, .int .i64 3, .int .i64 0, .int .i64 0] 52 (0,0)) (Y78)) (jL (w:=w) (g:=g) (row:=none) (Y1)));replace BK640:=am (jr (g:=gb640) (o:=.cells #[.slice A1_0 l1_0.length c1_0] 32 (0,0)) (Y86) hb);replace BK645:=am (jr (g:=gb645) (o:=.cells #[.int .i64 a2, .int .i64 3, .int .i64 0, .int .i64 0] 52 (0,0)) (Y78) hb);replace HK:=am (jb.trans (Y1) (jb.of_below hb g none) (.inl rfl));replace HB:=am (ji (Y6) hb);replace HI0:=am (je.below (show je w0 (((((w44.setCell ⟨gb645,0,none⟩ (.int .i64 a2)).setCell ⟨gb645,1,none⟩ (.int .i64 0)).setCell ⟨gb645,2,none⟩ (.int .i64 0)).setCell ⟨gb645,3,none⟩ (.int .i64 0)).setCell ⟨gb645,1,none⟩ (.int .i64 3)) g s0_0 x1001_5 from Y4) hb);clear hb ho49))
      go_ret
      exact ⟨_,Y0,by (with_reducible repeat (first | apply Kd.jma | apply Kd.jla | apply Kd.jva));exact Kd.jG HO666.out (fun _ hk=>trivial),Y4,Y6,Y1⟩
     ·rw [if_neg c43] at H
      have c43b0:(x9_5 == 6)=false:=beq_eq_false_iff_ne.mpr c43
      have c43b1:(x9_5 != 6)=true:=bne_iff_ne.mpr c43
      have HC50:=am H
      clear H
      go_upto_region 15 with (first |((with_reducible refine jP (N:=10) rfl ?_);refine bE (N:=10) (cs:=#[.int .i64 0, .int .i64 0, .int .i64 0, .int .i64 0]) (t:=52) ?_;intro gb645 hg w51 hbox hb;have BK645:=am (hbox);have GW645:=am ((Y51:w.heap.size≤gb645));have GE645:=am ((Nat.le_trans HW0.out (Y51:w.heap.size≤gb645):w0.heap.size≤gb645));have NB640_645:=am ((Y74:gb640≠gb645));have NB645_640:=am ((Y75:gb645≠gb640));have NB0_645:=am ((Y76:g≠gb645));have NB645_0:=am ((Y77:gb645≠g));replace BK640:=am (jr (g:=gb640) (o:=.cells #[.slice A1_0 l1_0.length c1_0] 32 (0,0)) (kq BK640.out) hb);replace HK:=am (jb.trans (Y50) (jb.of_below hb g none) (.inl rfl));replace HB:=am (ji (Y49) hb);replace HI0:=am (je.below (Y48) hb);clear hb hbox hg;have hnb52:=NB645_640.out;have hnc52:=NB640_645.out;have hnb53:=NB645_0.out;have hnc53:=NB0_645.out;have hcz54_0:=bc0 BK645.out;have hcz54_1:=bc1 BK645.out;have hcz54_2:=bc2 BK645.out;have hcz54_3:=bc3 BK645.out;have hfz54_0:=ja BK645.out 0;have hfz54_1:=ja BK645.out 1;have hfz54_2:=ja BK645.out 2;have hfz54_3:=ja BK645.out 3))
      (try simp only [Act.put,List.setIfInBounds_toArray,List.set_cons_zero,List.set_cons_succ])
      go_cut [50] (fun v50 wc=>∃ (kq:Nat) (x50_49:Bool),v50=.bool x50_49∧jl (jw.j1 kq a2 a3 x9_5 x50_49 s0_0 x1001_5 l1_0 a2 0 0 0=some (r1,r2))∧jl (kq≤kj5)∧jl (wc.heap[gb640]?=some (.cells #[(.slice A1_0 l1_0.length c1_0)] 32 (0,0)))∧jl (wc.heap[gb645]?=some (.cells #[.int .i64 a2, .int .i64 0, .int .i64 0, .int .i64 0] 52 (0,0)))∧jl (je w0 wc g s0_0 x1001_5)∧jl (jb w wc g none)∧jl (Below w0.heap.size w0 wc))
      case first =>
       have H:=HC50.out
       clear HC50
       by_cases c55:x9_5=7
       ·rw [if_pos c55] at H
        have c55b0:(x9_5 == 7)=true:=beq_iff_eq.mpr c55
        have c55b1:(x9_5 != 7)=false:=bne_eq_false_iff_eq.mpr c55
        clear c55
        (first | rw [c55b0] |(simp only [jkb,jnb];rw [c55b0]) | skip)
        have H':=am H
        clear H
        go_wp2
        go_meet
        case rel=>exact ⟨_,(a3),(sq),H',⟨by have:=HJ5.out;first | omega | exact Nat.le_refl _⟩,⟨by (with_reducible repeat (first | refine jv ?_ _ | refine jD ?_ | refine jA ?_ _));refine jib ?_ NB640_645.out _;(with_reducible repeat (first | refine jv ?_ _ | refine jD ?_ | refine jA ?_ _));refine jib ?_ NB640_645.out _;(with_reducible repeat (first | refine jv ?_ _ | refine jD ?_ | refine jA ?_ _));refine jib ?_ NB640_645.out _;(with_reducible repeat (first | refine jv ?_ _ | refine jD ?_ | refine jA ?_ _));refine jib ?_ NB640_645.out _;(with_reducible repeat (first | refine jv ?_ _ | refine jD ?_ | refine jA ?_ _));exact BK640.out⟩,⟨by (with_reducible repeat (first | refine jv ?_ _ | refine jD ?_ | refine jA ?_ _));refine jVa (cs:=#[.int .i64 a2, .int .i64 0, .int .i64 0, .int .i64 0]) ?_ 3 _ rfl;(with_reducible repeat (first | refine jv ?_ _ | refine jD ?_ | refine jA ?_ _));refine jVa (cs:=#[.int .i64 a2, .int .i64 0, .int .i64 0, .int .i64 0]) ?_ 2 _ rfl;(with_reducible repeat (first | refine jv ?_ _ | refine jD ?_ | refine jA ?_ _));refine jVa (cs:=#[.int .i64 a2, .int .i64 0, .int .i64 0, .int .i64 0]) ?_ 1 _ rfl;(with_reducible repeat (first | refine jv ?_ _ | refine jD ?_ | refine jA ?_ _));refine jVa (cs:=#[.int .i64 0, .int .i64 0, .int .i64 0, .int .i64 0]) ?_ 0 _ rfl;(with_reducible repeat (first | refine jv ?_ _ | refine jD ?_ | refine jA ?_ _));exact BK645.out⟩,⟨Y4⟩,⟨Y1⟩,⟨Y6⟩⟩
       ·rw [if_neg c55] at H
        have c55b0:(x9_5 == 7)=false:=beq_eq_false_iff_ne.mpr c55
        have c55b1:(x9_5 != 7)=true:=bne_iff_ne.mpr c55
        (first | rw [c55b0] |(simp only [jkb,jnb];rw [c55b0]) | skip)
        have H':=am H
        clear H
        go_wp2
        go_meet
        case rel=>exact ⟨_,(false),(sq),H',⟨by have:=HJ5.out;first | omega | exact Nat.le_refl _⟩,⟨by (with_reducible repeat (first | refine jv ?_ _ | refine jD ?_ | refine jA ?_ _));refine jib ?_ NB640_645.out _;(with_reducible repeat (first | refine jv ?_ _ | refine jD ?_ | refine jA ?_ _));refine jib ?_ NB640_645.out _;(with_reducible repeat (first | refine jv ?_ _ | refine jD ?_ | refine jA ?_ _));refine jib ?_ NB640_645.out _;(with_reducible repeat (first | refine jv ?_ _ | refine jD ?_ | refine jA ?_ _));refine jib ?_ NB640_645.out _;(with_reducible repeat (first | refine jv ?_ _ | refine jD ?_ | refine jA ?_ _));exact BK640.out⟩,⟨by (with_reducible repeat (first | refine jv ?_ _ | refine jD ?_ | refine jA ?_ _));refine jVa (cs:=#[.int .i64 a2, .int .i64 0, .int .i64 0, .int .i64 0]) ?_ 3 _ rfl;(with_reducible repeat (first | refine jv ?_ _ | refine jD ?_ | refine jA ?_ _));refine jVa (cs:=#[.int .i64 a2, .int .i64 0, .int .i64 0, .int .i64 0]) ?_ 2 _ rfl;(with_reducible repeat (first | refine jv ?_ _ | refine jD ?_ | refine jA ?_ _));refine jVa (cs:=#[.int .i64 a2, .int .i64 0, .int .i64 0, .int .i64 0]) ?_ 1 _ rfl;(with_reducible repeat (first | refine jv ?_ _ | refine jD ?_ | refine jA ?_ _));refine jVa (cs:=#[.int .i64 0, .int .i64 0, .int .i64 0, .int .i64 0]) ?_ 0 _ rfl;(with_reducible repeat (first | refine jv ?_ _ | refine jD ?_ | refine jA ?_ _));exact BK645.out⟩,⟨Y4⟩,⟨Y1⟩,⟨Y6⟩⟩
      case rest =>
       clear HC50
       try clear c1
       try clear c2
       try clear p2
       try clear c3
       try clear c4
       try clear c5
       try clear c7
       try clear c9
       try clear c9b0
       try clear c10
       try clear c12
       try clear c12b0
       try clear c15
       try clear c16
       try clear c25
       try clear c25b0
       try clear c29
       try clear c30
       try clear c32
       try clear c43
       try clear c43b0
       try clear c43b1
       try clear c45
       try clear c46
       try clear c52
       try clear c53
       try clear c55
       try clear c55b0
       try clear c55b1
       try clear hcz17_0
       try clear hcz17_1
       try clear hcz17_2
       try clear hcz17_3
       try clear hcz22_0
       try clear hcz22_1
       try clear hcz22_2
       try clear hcz22_3
       try clear hcz31_0
       try clear hcz31_1
       try clear hcz31_2
       try clear hcz31_3
       try clear hcz33_0
       try clear hcz35_0
       try clear hcz35_1
       try clear hcz35_2
       try clear hcz35_3
       try clear hcz40_0
       try clear hcz40_1
       try clear hcz40_2
       try clear hcz40_3
       try clear hcz47_0
       try clear hcz47_1
       try clear hcz47_2
       try clear hcz47_3
       try clear hcz54_0
       try clear hcz54_1
       try clear hcz54_2
       try clear hcz54_3
       try clear hfz17_0
       try clear hfz17_1
       try clear hfz17_2
       try clear hfz17_3
       try clear hfz22_0
       try clear hfz22_1
       try clear hfz22_2
       try clear hfz22_3
       try clear hfz31_0
       try clear hfz31_1
       try clear hfz31_2
       try clear hfz31_3
       try clear hfz33_0
       try clear hfz35_0
       try clear hfz35_1
       try clear hfz35_2
       try clear hfz35_3
       try clear hfz40_0
       try clear hfz40_1
       try clear hfz40_2
       try clear hfz40_3
       try clear hfz47_0
       try clear hfz47_1
       try clear hfz47_2
       try clear hfz47_3
       try clear hfz54_0
       try clear hfz54_1
       try clear hfz54_2
       try clear hfz54_3
       try clear p2
       obtain ⟨kq,x50_49,rfl,HA,HJ49,BK640,BK645,HI0,HK,HB⟩:=hcut
       cases kq with
       | zero=>exact absurd HA.out (by simp [jw.j1])
       | succ kj49 =>
        have H:=HA.out
        clear HA
        simp only [jw.j1] at H
        by_cases c56:x50_49=true
        ·subst c56
         have H1:((jh.f kj49 s0_0 x1001_5 (([5,6]:List Int))).bind fun bt670=>(some ((([(⟨a2,bt670.1,0,0⟩:S52)]:List (S52))),bt670.2)))=some (r1,r2):=by rw [if_pos rfl] at H;exact H
         clear H
         have H:=H1
         clear H1
         obtain ⟨y667,hy667⟩:∃ y_:List Int,y_=(([5,6]:List Int)):=⟨_,rfl⟩
         replace H:((jh.f kj49 s0_0 x1001_5 y667).bind fun bt670=>(some ((([(⟨a2,bt670.1,0,0⟩:S52)]:List (S52))),bt670.2)))=some (r1,r2):=by first |(rw [hy667];with_reducible exact H) |(have H2_:=(Option.bind_some _ _).symm.trans H;rw [hy667];with_reducible exact H2_) |(have H2_:=(Option.bind_some _ _).symm.trans H;with_reducible exact H2_) | with_reducible exact H |(rw [hy667];exact H) | exact H
         have Ny667:=am hy667
         clear hy667
         replace H:=bzS H
         obtain ⟨⟨t670,t671⟩,A570,H⟩:=H
         replace H:(some ((([(⟨a2,t670,0,0⟩:S52)]:List (S52))),t671))=some (r1,r2):=H
         have A57:=am A570
         clear A570
         obtain ⟨y672,hy672⟩:∃ y_:List (S52),y_=(([(⟨a2,t670,0,0⟩:S52)]:List (S52))):=⟨_,rfl⟩
         replace H:(some (y672,t671))=some (r1,r2):=by first |(rw [hy672];with_reducible exact H) |(have H2_:=(Option.bind_some _ _).symm.trans H;rw [hy672];with_reducible exact H2_) |(have H2_:=(Option.bind_some _ _).symm.trans H;with_reducible exact H2_) | with_reducible exact H |(rw [hy672];exact H) | exact H
         have Ny672:=am hy672
         clear hy672
         simp only [Option.some.injEq,Prod.mk.injEq] at H
         obtain ⟨rfl,rfl⟩:=H
         go_wp2_with (first |((with_reducible refine jP (N:=57) rfl ?_);refine Kd.jYb (Kd.int .i64) _ 3 ?hg (N:=57) ?hd (xs:=([5,6]:List Int)) (inner:=[.int .i64 5, .int .i64 6]) (ok:=fun _=>True) (okp:=fun _=>True) ?hr ?hp (fun _ hk=>hk) trivial (Below.refl _ _) (Nat.le_refl _) (by simp) ?_;(case hd=>rfl);(case hg=>rfl);(case hr=>exact Y8);(case hp=>exact (Reps.one (show Kd.M (Kd.int .i64) _ _ _ 5 [.int .i64 5] from rfl) (Reps.one (show Kd.M (Kd.int .i64) _ _ _ 6 [.int .i64 6] from rfl) (Reps.none _ _))));intro v668 w58 ho59 hb hg_ hnew_;clear hg_ hnew_;(first | rw [← Ny667.out] at ho59 |(simp only [Int.reduceToNat] at ho59;rw [← Ny667.out] at ho59));have HO669:=am (Kd.jfa ho59 (jL (w:=w) (g:=g) (row:=none) (Y1)));replace BK640:=am (jr (g:=gb640) (o:=.cells #[.slice A1_0 l1_0.length c1_0] 32 (0,0)) (kq BK640.out) hb);replace BK645:=am (jr (g:=gb645) (o:=.cells #[.int .i64 a2, .int .i64 0, .int .i64 0, .int .i64 0] 52 (0,0)) (kq BK645.out) hb);replace HK:=am (jb.trans (Y1) (jb.of_below hb g none) (.inl rfl));replace HB:=am (ji (Y6) hb);replace HI0:=am (je.below (Y4) hb);clear hb ho59;obtain ⟨Ao60,co60,eo60⟩:=Kd.jta HO669.out;subst eo60) |((with_reducible refine jd (f:=77) rfl ?_);refine gL (some 58) Try.func77 #[.pointer (some ⟨g,0,none⟩), .slice Ao60 y667.length co60] ?_;(with_reducible refine (jh.calls kj49 g s0_0 x1001_5 _ _ y667 t670 t671 w0 _ ?side1 ?side2 ?side3 ?side4 ?side5 A57.out).mono ?_);(case side1=>exact Y4);(case side2=>exact Y6);(case side3=>exact cq (Kd.jC HO669.out).2.2);(case side4=>exact (Kd.jC HO669.out).2.1);(case side5=>exact jxb (je.own_ne HI0.out HO669.out (by decide)));rintro e w61 ⟨rfl,hi,hb,hk⟩;refine ⟨_,rfl,?_⟩;replace BK640:=am (jb.blk hk (g':=gb640) (o:=.cells #[.slice A1_0 l1_0.length c1_0] 32 (0,0)) (kq BK640.out) NB640_0.out (by simp));replace BK645:=am (jb.blk hk (g':=gb645) (o:=.cells #[.int .i64 a2, .int .i64 0, .int .i64 0, .int .i64 0] 52 (0,0)) (kq BK645.out) NB645_0.out (by simp));replace HO669:=am (Kd.jG (Kd.jBa (je.apart (show je w0 _ g s0_0 x1001_5 from Y4) (rq HO669.out) (by decide)) hk (fun _ h=>h.2)) (fun _ h=>h.1));replace HK:=am (jb.trans (Y1) hk (.inl rfl));replace HB:=am (hb);replace HI0:=am (hi);(try clear hb);(try clear hb2);(try clear hk);(try clear hi);have hnb62:=NB645_640.out;have hnc62:=NB640_645.out;have hnb63:=NB645_0.out;have hnc63:=NB0_645.out;have hcz64_0:=bc0 BK645.out;have hcz64_1:=bc1 BK645.out;have hcz64_2:=bc2 BK645.out;have hcz64_3:=bc3 BK645.out;have hfz64_0:=ja BK645.out 0;have hfz64_1:=ja BK645.out 1;have hfz64_2:=ja BK645.out 2;have hfz64_3:=ja BK645.out 3) |((with_reducible refine jP (N:=108) rfl ?_);refine Kd.jYb k52 _ 52 ?hg (N:=108) ?hd (xs:=([(⟨a2,t670,0,0⟩:S52)]:List (S52))) (inner:=[.int .i64 a2, .int .i64 t670, .int .i64 0, .int .i64 0]) (ok:=fun _=>True) (okp:=fun _=>True) ?hr ?hp (fun _ hk=>hk) trivial (Below.refl _ _) (Nat.le_refl _) (by simp) ?_;(case hd=>rfl);(case hg=>rfl);(case hr=>exact Y8);(case hp=>exact (Reps.c4 (show Kd.M k52 _ _ _ (⟨a2,t670,0,0⟩:S52) [.int .i64 a2, .int .i64 t670, .int .i64 0, .int .i64 0] from (jpb _ _ _ (⟨a2,t670,0,0⟩:S52) )) (Reps.none _ _)));intro v673 w65 ho66 hb hg_ hnew_;clear hg_ hnew_;(first | rw [← Ny672.out] at ho66 |(simp only [Int.reduceToNat] at ho66;rw [← Ny672.out] at ho66));have HO674:=am (Kd.jfa (Kd.jwc ho66 (g:=gb645) (o:=.cells #[.int .i64 a2, .int .i64 t670, .int .i64 0, .int .i64 0] 52 (0,0)) (Y55)) (jL (w:=w) (g:=g) (row:=none) (Y1)));replace HO669:=am (Kd.jqa (by (with_reducible repeat (first | apply Kd.jma | apply Kd.jla | apply Kd.jva));exact (Kd.jG (Kd.jLb (p:=⟨gb645,1,none⟩) (Kd.jQa HO669.out BK645.out (by decide)) (fun _ hk=>hk.2) (.int .i64 t670)) (fun _ h_=>h_.1))) hb);replace BK640:=am (jr (g:=gb640) (o:=.cells #[.slice A1_0 l1_0.length c1_0] 32 (0,0)) (Y43) hb);replace BK645:=am (jr (g:=gb645) (o:=.cells #[.int .i64 a2, .int .i64 t670, .int .i64 0, .int .i64 0] 52 (0,0)) (Y55) hb);replace HK:=am (jb.trans (Y1) (jb.of_below hb g none) (.inl rfl));replace HB:=am (ji (Y6) hb);replace HI0:=am (je.below (show je w0 (w61.setCell ⟨gb645,1,none⟩ (.int .i64 t670)) g s0_0 t671 from Y4) hb);clear hb ho66))
         go_ret
         exact ⟨_,Y0,by (with_reducible repeat (first | apply Kd.jma | apply Kd.jla | apply Kd.jva));exact Kd.jG HO674.out (fun _ hk=>trivial),Y4,Y6,Y1⟩
        ·replace c56:=Bool.eq_false_iff.mpr c56
         subst c56
         have H1:(if x9_5=7 then ((jh.f kj49 s0_0 x1001_5 (([7,8]:List Int))).bind fun bt678=>(some ((([(⟨a2,4,bt678.1,0⟩:S52)]:List (S52))),bt678.2))) else (if x9_5=8 then (some ((([(⟨a2,0,0,0⟩:S52)]:List (S52))),x1001_5)) else (if x9_5<11 then ((jf.f kj49 s0_0 x1001_5 4).bind fun bt686=>((jf.f kj49 s0_0 bt686.2 2).bind fun bt688=>((some (([(⟨a2,11,bt686.1,bt688.1⟩:S52)]:List (S52)):List (S52))).bind fun y690=>((jI.f kj49 s0_0 bt688.2 l1_0 (wrap64 (a2+1)) a3).bind fun bt693=>(if y690.length+bt693.1.length<4398046511104 then (some ((y690 ++ bt693.1),bt693.2)) else (none)))))) else (if x9_5=11 then ((jh.f kj49 s0_0 x1001_5 (([2,1,3,0]:List Int))).bind fun bt703=>((some (([(⟨a2,12,bt703.1,0⟩:S52)]:List (S52)):List (S52))).bind fun y705=>((jI.f kj49 s0_0 bt703.2 l1_0 (wrap64 (a2+1)) true).bind fun bt708=>(if y705.length+bt708.1.length<4398046511104 then (some ((y705 ++ bt708.1),bt708.2)) else (none))))) else ((jU.f kj49 s0_0 x1001_5 l1_0 a2 a3).bind fun bt715=>(some (bt715.1,bt715.2)))))))=some (r1,r2):=by rw [if_neg (show ¬ (false=true) by decide)] at H;exact H
         clear H
         have H:=H1
         clear H1
         by_cases c67:x9_5=7
         ·rw [if_pos c67] at H
          have c67b0:(x9_5 == 7)=true:=beq_iff_eq.mpr c67
          have c67b1:(x9_5 != 7)=false:=bne_eq_false_iff_eq.mpr c67
          clear c67
          obtain ⟨y675,hy675⟩:∃ y_:List Int,y_=(([7,8]:List Int)):=⟨_,rfl⟩
          replace H:((jh.f kj49 s0_0 x1001_5 y675).bind fun bt678=>(some ((([(⟨a2,4,bt678.1,0⟩:S52)]:List (S52))),bt678.2)))=some (r1,r2):=by first |(rw [hy675];with_reducible exact H) |(have H2_:=(Option.bind_some _ _).symm.trans H;rw [hy675];with_reducible exact H2_) |(have H2_:=(Option.bind_some _ _).symm.trans H;with_reducible exact H2_) | with_reducible exact H |(rw [hy675];exact H) | exact H
          have Ny675:=am hy675
          clear hy675
          replace H:=bzS H
          obtain ⟨⟨t678,t679⟩,A680,H⟩:=H
          replace H:(some ((([(⟨a2,4,t678,0⟩:S52)]:List (S52))),t679))=some (r1,r2):=H
          have A68:=am A680
          clear A680
          obtain ⟨y680,hy680⟩:∃ y_:List (S52),y_=(([(⟨a2,4,t678,0⟩:S52)]:List (S52))):=⟨_,rfl⟩
          replace H:(some (y680,t679))=some (r1,r2):=by first |(rw [hy680];with_reducible exact H) |(have H2_:=(Option.bind_some _ _).symm.trans H;rw [hy680];with_reducible exact H2_) |(have H2_:=(Option.bind_some _ _).symm.trans H;with_reducible exact H2_) | with_reducible exact H |(rw [hy680];exact H) | exact H
          have Ny680:=am hy680
          clear hy680
          simp only [Option.some.injEq,Prod.mk.injEq] at H
          obtain ⟨rfl,rfl⟩:=H
          have hnb69:=NB645_640.out
          have hnc69:=NB640_645.out
          have hnb70:=NB645_0.out
          have hnc70:=NB0_645.out
          have hcz71_0:=bc0 BK645.out
          have hcz71_1:=bc1 BK645.out
          have hcz71_2:=bc2 BK645.out
          have hcz71_3:=bc3 BK645.out
          have hfz71_0:=ja BK645.out 0
          have hfz71_1:=ja BK645.out 1
          have hfz71_2:=ja BK645.out 2
          have hfz71_3:=ja BK645.out 3
          go_wp2_with (first |((with_reducible refine jP (N:=65) rfl ?_);refine Kd.jYb (Kd.int .i64) _ 3 ?hg (N:=65) ?hd (xs:=([7,8]:List Int)) (inner:=[.int .i64 7, .int .i64 8]) (ok:=fun _=>True) (okp:=fun _=>True) ?hr ?hp (fun _ hk=>hk) trivial (Below.refl _ _) (Nat.le_refl _) (by simp) ?_;(case hd=>rfl);(case hg=>rfl);(case hr=>exact Y8);(case hp=>exact (Reps.one (show Kd.M (Kd.int .i64) _ _ _ 7 [.int .i64 7] from rfl) (Reps.one (show Kd.M (Kd.int .i64) _ _ _ 8 [.int .i64 8] from rfl) (Reps.none _ _))));intro v676 w72 ho73 hb hg_ hnew_;clear hg_ hnew_;(first | rw [← Ny675.out] at ho73 |(simp only [Int.reduceToNat] at ho73;rw [← Ny675.out] at ho73));have HO677:=am (Kd.jfa ho73 (jL (w:=w) (g:=g) (row:=none) (Y1)));replace BK640:=am (jr (g:=gb640) (o:=.cells #[.slice A1_0 l1_0.length c1_0] 32 (0,0)) (Y43) hb);replace BK645:=am (jr (g:=gb645) (o:=.cells #[.int .i64 a2, .int .i64 4, .int .i64 0, .int .i64 0] 52 (0,0)) (Y55) hb);replace HK:=am (jb.trans (Y1) (jb.of_below hb g none) (.inl rfl));replace HB:=am (ji (Y6) hb);replace HI0:=am (je.below (show je w0 (wc.setCell ⟨gb645,1,none⟩ (.int .i64 4)) g s0_0 x1001_5 from Y4) hb);clear hb ho73;obtain ⟨Ao74,co74,eo74⟩:=Kd.jta HO677.out;subst eo74) |((with_reducible refine jd (f:=77) rfl ?_);refine gL (some 66) Try.func77 #[.pointer (some ⟨g,0,none⟩), .slice Ao74 y675.length co74] ?_;(with_reducible refine (jh.calls kj49 g s0_0 x1001_5 _ _ y675 t678 t679 w0 _ ?side1 ?side2 ?side3 ?side4 ?side5 A68.out).mono ?_);(case side1=>exact Y4);(case side2=>exact Y6);(case side3=>exact cq (Kd.jC HO677.out).2.2);(case side4=>exact (Kd.jC HO677.out).2.1);(case side5=>exact jxb (je.own_ne HI0.out HO677.out (by decide)));rintro e w75 ⟨rfl,hi,hb,hk⟩;refine ⟨_,rfl,?_⟩;replace BK640:=am (jb.blk hk (g':=gb640) (o:=.cells #[.slice A1_0 l1_0.length c1_0] 32 (0,0)) (kq BK640.out) NB640_0.out (by simp));replace BK645:=am (jb.blk hk (g':=gb645) (o:=.cells #[.int .i64 a2, .int .i64 4, .int .i64 0, .int .i64 0] 52 (0,0)) (kq BK645.out) NB645_0.out (by simp));replace HO677:=am (Kd.jG (Kd.jBa (je.apart (show je w0 _ g s0_0 x1001_5 from Y4) (rq HO677.out) (by decide)) hk (fun _ h=>h.2)) (fun _ h=>h.1));replace HK:=am (jb.trans (Y1) hk (.inl rfl));replace HB:=am (hb);replace HI0:=am (hi);(try clear hb);(try clear hb2);(try clear hk);(try clear hi);have hcz76_0:=bc0 BK645.out;have hcz76_1:=bc1 BK645.out;have hcz76_2:=bc2 BK645.out;have hcz76_3:=bc3 BK645.out;have hfz76_0:=ja BK645.out 0;have hfz76_1:=ja BK645.out 1;have hfz76_2:=ja BK645.out 2;have hfz76_3:=ja BK645.out 3) |((with_reducible refine jP (N:=108) rfl ?_);refine Kd.jYb k52 _ 52 ?hg (N:=108) ?hd (xs:=([(⟨a2,4,t678,0⟩:S52)]:List (S52))) (inner:=[.int .i64 a2, .int .i64 4, .int .i64 t678, .int .i64 0]) (ok:=fun _=>True) (okp:=fun _=>True) ?hr ?hp (fun _ hk=>hk) trivial (Below.refl _ _) (Nat.le_refl _) (by simp) ?_;(case hd=>rfl);(case hg=>rfl);(case hr=>exact Y8);(case hp=>exact (Reps.c4 (show Kd.M k52 _ _ _ (⟨a2,4,t678,0⟩:S52) [.int .i64 a2, .int .i64 4, .int .i64 t678, .int .i64 0] from (jpb _ _ _ (⟨a2,4,t678,0⟩:S52) )) (Reps.none _ _)));intro v681 w77 ho78 hb hg_ hnew_;clear hg_ hnew_;(first | rw [← Ny680.out] at ho78 |(simp only [Int.reduceToNat] at ho78;rw [← Ny680.out] at ho78));have HO682:=am (Kd.jfa (Kd.jwc ho78 (g:=gb645) (o:=.cells #[.int .i64 a2, .int .i64 4, .int .i64 t678, .int .i64 0] 52 (0,0)) (Y100)) (jL (w:=w) (g:=g) (row:=none) (Y1)));replace HO677:=am (Kd.jqa (by (with_reducible repeat (first | apply Kd.jma | apply Kd.jla | apply Kd.jva));exact (Kd.jG (Kd.jLb (p:=⟨gb645,2,none⟩) (Kd.jQa HO677.out BK645.out (by decide)) (fun _ hk=>hk.2) (.int .i64 t678)) (fun _ h_=>h_.1))) hb);replace BK640:=am (jr (g:=gb640) (o:=.cells #[.slice A1_0 l1_0.length c1_0] 32 (0,0)) (Y43) hb);replace BK645:=am (jr (g:=gb645) (o:=.cells #[.int .i64 a2, .int .i64 4, .int .i64 t678, .int .i64 0] 52 (0,0)) (Y100) hb);replace HK:=am (jb.trans (Y1) (jb.of_below hb g none) (.inl rfl));replace HB:=am (ji (Y6) hb);replace HI0:=am (je.below (show je w0 (w75.setCell ⟨gb645,2,none⟩ (.int .i64 t678)) g s0_0 t679 from Y4) hb);clear hb ho78))
          go_ret
          exact ⟨_,Y0,by (with_reducible repeat (first | apply Kd.jma | apply Kd.jla | apply Kd.jva));exact Kd.jG HO682.out (fun _ hk=>trivial),Y4,Y6,Y1⟩
         ·rw [if_neg c67] at H
          have c67b0:(x9_5 == 7)=false:=beq_eq_false_iff_ne.mpr c67
          have c67b1:(x9_5 != 7)=true:=bne_iff_ne.mpr c67
          by_cases c79:x9_5=8
          ·rw [if_pos c79] at H
           have c79b0:(x9_5 == 8)=true:=beq_iff_eq.mpr c79
           have c79b1:(x9_5 != 8)=false:=bne_eq_false_iff_eq.mpr c79
           clear c79
           obtain ⟨y683,hy683⟩:∃ y_:List (S52),y_=(([(⟨a2,0,0,0⟩:S52)]:List (S52))):=⟨_,rfl⟩
           replace H:(some (y683,x1001_5))=some (r1,r2):=by first |(rw [hy683];with_reducible exact H) |(have H2_:=(Option.bind_some _ _).symm.trans H;rw [hy683];with_reducible exact H2_) |(have H2_:=(Option.bind_some _ _).symm.trans H;with_reducible exact H2_) | with_reducible exact H |(rw [hy683];exact H) | exact H
           have Ny683:=am hy683
           clear hy683
           simp only [Option.some.injEq,Prod.mk.injEq] at H
           obtain ⟨rfl,rfl⟩:=H
           have hnb80:=NB645_640.out
           have hnc80:=NB640_645.out
           have hnb81:=NB645_0.out
           have hnc81:=NB0_645.out
           have hcz82_0:=bc0 BK645.out
           have hcz82_1:=bc1 BK645.out
           have hcz82_2:=bc2 BK645.out
           have hcz82_3:=bc3 BK645.out
           have hfz82_0:=ja BK645.out 0
           have hfz82_1:=ja BK645.out 1
           have hfz82_2:=ja BK645.out 2
           have hfz82_3:=ja BK645.out 3
           go_wp2_with (first |((with_reducible refine jP (N:=108) rfl ?_);refine Kd.jYb k52 _ 52 ?hg (N:=108) ?hd (xs:=([(⟨a2,0,0,0⟩:S52)]:List (S52))) (inner:=[.int .i64 a2, .int .i64 0, .int .i64 0, .int .i64 0]) (ok:=fun _=>True) (okp:=fun _=>True) ?hr ?hp (fun _ hk=>hk) trivial (Below.refl _ _) (Nat.le_refl _) (by simp) ?_;(case hd=>rfl);(case hg=>rfl);(case hr=>exact Y8);(case hp=>exact (Reps.c4 (show Kd.M k52 _ _ _ (⟨a2,0,0,0⟩:S52) [.int .i64 a2, .int .i64 0, .int .i64 0, .int .i64 0] from (jpb _ _ _ (⟨a2,0,0,0⟩:S52) )) (Reps.none _ _)));intro v684 w83 ho84 hb hg_ hnew_;clear hg_ hnew_;(first | rw [← Ny683.out] at ho84 |(simp only [Int.reduceToNat] at ho84;rw [← Ny683.out] at ho84));have HO685:=am (Kd.jfa (Kd.jwc ho84 (g:=gb645) (o:=.cells #[.int .i64 a2, .int .i64 0, .int .i64 0, .int .i64 0] 52 (0,0)) (Y55)) (jL (w:=w) (g:=g) (row:=none) (Y1)));replace BK640:=am (jr (g:=gb640) (o:=.cells #[.slice A1_0 l1_0.length c1_0] 32 (0,0)) (Y43) hb);replace BK645:=am (jr (g:=gb645) (o:=.cells #[.int .i64 a2, .int .i64 0, .int .i64 0, .int .i64 0] 52 (0,0)) (Y55) hb);replace HK:=am (jb.trans (Y1) (jb.of_below hb g none) (.inl rfl));replace HB:=am (ji (Y6) hb);replace HI0:=am (je.below (show je w0 (wc.setCell ⟨gb645,1,none⟩ (.int .i64 0)) g s0_0 x1001_5 from Y4) hb);clear hb ho84))
           go_ret
           exact ⟨_,Y0,by (with_reducible repeat (first | apply Kd.jma | apply Kd.jla | apply Kd.jva));exact Kd.jG HO685.out (fun _ hk=>trivial),Y4,Y6,Y1⟩
          ·rw [if_neg c79] at H
           have c79b0:(x9_5 == 8)=false:=beq_eq_false_iff_ne.mpr c79
           have c79b1:(x9_5 != 8)=true:=bne_iff_ne.mpr c79
           by_cases c85:x9_5<11
           ·rw [if_pos c85] at H
            have c85b0:decide (x9_5<11)=true:=dzT c85
            clear c85
            replace H:=bzS H
            obtain ⟨⟨t686,t687⟩,A860,H⟩:=H
            replace H:((jf.f kj49 s0_0 t687 2).bind fun bt688=>((some (([(⟨a2,11,t686,bt688.1⟩:S52)]:List (S52)):List (S52))).bind fun y690=>((jI.f kj49 s0_0 bt688.2 l1_0 (wrap64 (a2+1)) a3).bind fun bt693=>(if y690.length+bt693.1.length<4398046511104 then (some ((y690 ++ bt693.1),bt693.2)) else (none)))))=some (r1,r2):=H
            have A86:=am A860
            clear A860
            replace H:=bzS H
            obtain ⟨⟨t688,t689⟩,A870,H⟩:=H
            replace H:((some (([(⟨a2,11,t686,t688⟩:S52)]:List (S52)):List (S52))).bind fun y690=>((jI.f kj49 s0_0 t689 l1_0 (wrap64 (a2+1)) a3).bind fun bt693=>(if y690.length+bt693.1.length<4398046511104 then (some ((y690 ++ bt693.1),bt693.2)) else (none))))=some (r1,r2):=H
            have A87:=am A870
            clear A870
            obtain ⟨y690,hy690⟩:∃ y_:List (S52),y_=(([(⟨a2,11,t686,t688⟩:S52)]:List (S52))):=⟨_,rfl⟩
            replace H:((jI.f kj49 s0_0 t689 l1_0 (wrap64 (a2+1)) a3).bind fun bt693=>(if y690.length+bt693.1.length<4398046511104 then (some ((y690 ++ bt693.1),bt693.2)) else (none)))=some (r1,r2):=by first |(rw [hy690];with_reducible exact H) |(have H2_:=(Option.bind_some _ _).symm.trans H;rw [hy690];with_reducible exact H2_) |(have H2_:=(Option.bind_some _ _).symm.trans H;with_reducible exact H2_) | with_reducible exact H |(rw [hy690];exact H) | exact H
            have Ny690:=am hy690
            clear hy690
            replace H:=bzS H
            obtain ⟨⟨t693,t696⟩,A880,H⟩:=H
            replace H:(if y690.length+t693.length<4398046511104 then (some ((y690 ++ t693),t696)) else (none))=some (r1,r2):=H
            have A88:=am A880
            clear A880
            by_cases c89:y690.length+t693.length<4398046511104
            ·rw [if_pos c89] at H
             have LMc89:=am c89
             clear c89
             obtain ⟨y697,hy697⟩:∃ y_:List (S52),y_=(y690 ++ t693):=⟨_,rfl⟩
             replace H:(some (y697,t696))=some (r1,r2):=by first |(rw [hy697];with_reducible exact H) |(have H2_:=(Option.bind_some _ _).symm.trans H;rw [hy697];with_reducible exact H2_) |(have H2_:=(Option.bind_some _ _).symm.trans H;with_reducible exact H2_) | with_reducible exact H |(rw [hy697];exact H) | exact H
             have Ny697:=am hy697
             clear hy697
             simp only [Option.some.injEq,Prod.mk.injEq] at H
             obtain ⟨rfl,rfl⟩:=H
             have hnb90:=NB645_640.out
             have hnc90:=NB640_645.out
             have hnb91:=NB645_0.out
             have hnc91:=NB0_645.out
             have hcz92_0:=bc0 BK645.out
             have hcz92_1:=bc1 BK645.out
             have hcz92_2:=bc2 BK645.out
             have hcz92_3:=bc3 BK645.out
             have hfz92_0:=ja BK645.out 0
             have hfz92_1:=ja BK645.out 1
             have hfz92_2:=ja BK645.out 2
             have hfz92_3:=ja BK645.out 3
             try go_wp2_with (first |((with_reducible refine jd (f:=76) rfl ?_);refine gL (some 77) Try.func76 #[.pointer (some ⟨g,0,none⟩), .int .i64 4] ?_;(with_reducible refine (jf.calls kj49 g s0_0 x1001_5 4 t686 t687 w0 _ ?side1 ?side2 A86.out).mono ?_);(case side1=>exact Y4);(case side2=>exact Y6);rintro e w93 ⟨rfl,hi,hb,hk⟩;refine ⟨_,rfl,?_⟩;replace BK640:=am (jb.blk hk (g':=gb640) (o:=.cells #[.slice A1_0 l1_0.length c1_0] 32 (0,0)) (Y43) NB640_0.out (by simp));replace BK645:=am (jb.blk hk (g':=gb645) (o:=.cells #[.int .i64 a2, .int .i64 11, .int .i64 0, .int .i64 0] 52 (0,0)) (Y55) NB645_0.out (by simp));replace HK:=am (jb.trans (Y1) hk (.inl rfl));replace HB:=am (hb);replace HI0:=am (hi);(try clear hb);(try clear hb2);(try clear hk);(try clear hi);have hcz94_0:=bc0 BK645.out;have hcz94_1:=bc1 BK645.out;have hcz94_2:=bc2 BK645.out;have hcz94_3:=bc3 BK645.out;have hfz94_0:=ja BK645.out 0;have hfz94_1:=ja BK645.out 1;have hfz94_2:=ja BK645.out 2;have hfz94_3:=ja BK645.out 3) |((with_reducible refine jd (f:=76) rfl ?_);refine gL (some 80) Try.func76 #[.pointer (some ⟨g,0,none⟩), .int .i64 2] ?_;(with_reducible refine (jf.calls kj49 g s0_0 t687 2 t688 t689 w0 _ ?side1 ?side2 A87.out).mono ?_);(case side1=>exact Y4);(case side2=>exact Y6);rintro e w95 ⟨rfl,hi,hb,hk⟩;refine ⟨_,rfl,?_⟩;replace BK640:=am (jb.blk hk (g':=gb640) (o:=.cells #[.slice A1_0 l1_0.length c1_0] 32 (0,0)) (Y43) NB640_0.out (by simp));replace BK645:=am (jb.blk hk (g':=gb645) (o:=.cells #[.int .i64 a2, .int .i64 11, .int .i64 t686, .int .i64 0] 52 (0,0)) (by (with_reducible repeat (first | refine jv ?_ _ | refine jD ?_ | refine jA ?_ _));refine jVa (cs:=#[.int .i64 a2, .int .i64 11, .int .i64 0, .int .i64 0]) ?_ 2 _ rfl;(with_reducible repeat (first | refine jv ?_ _ | refine jD ?_ | refine jA ?_ _));exact BK645.out) NB645_0.out (by simp));replace HK:=am (jb.trans (Y1) hk (.inl rfl));replace HB:=am (hb);replace HI0:=am (hi);(try clear hb);(try clear hb2);(try clear hk);(try clear hi);have hcz96_0:=bc0 BK645.out;have hcz96_1:=bc1 BK645.out;have hcz96_2:=bc2 BK645.out;have hcz96_3:=bc3 BK645.out;have hfz96_0:=ja BK645.out 0;have hfz96_1:=ja BK645.out 1;have hfz96_2:=ja BK645.out 2;have hfz96_3:=ja BK645.out 3))
             have n0_:jl ((w95.setCell ⟨gb645,3,none⟩ (.int .i64 t688)).heap[gb640]?=some (.cells #[.slice A1_0 l1_0.length c1_0] 32 (0,0))):=⟨by (with_reducible repeat (first | refine jv ?_ _ | refine jD ?_ | refine jA ?_ _));refine jib ?_ NB640_645.out _;(with_reducible repeat (first | refine jv ?_ _ | refine jD ?_ | refine jA ?_ _));exact BK640.out⟩
             have n1_:jl ((w95.setCell ⟨gb645,3,none⟩ (.int .i64 t688)).heap[gb645]?=some (.cells #[.int .i64 a2, .int .i64 11, .int .i64 t686, .int .i64 t688] 52 (0,0))):=⟨by (with_reducible repeat (first | refine jv ?_ _ | refine jD ?_ | refine jA ?_ _));refine jVa (cs:=#[.int .i64 a2, .int .i64 11, .int .i64 t686, .int .i64 0]) ?_ 3 _ rfl;(with_reducible repeat (first | refine jv ?_ _ | refine jD ?_ | refine jA ?_ _));exact BK645.out⟩
             have n2_:jl (je w0 (w95.setCell ⟨gb645,3,none⟩ (.int .i64 t688)) g s0_0 t689):=⟨Y4⟩
             have n3_:jl (jb w (w95.setCell ⟨gb645,3,none⟩ (.int .i64 t688)) g none):=⟨Y1⟩
             have n4_:jl (Below w0.heap.size w0 (w95.setCell ⟨gb645,3,none⟩ (.int .i64 t688))):=⟨Y6⟩
             (try clear BK640)
             (try clear BK645)
             (try clear HI0)
             (try clear HK)
             (try clear HB)
             generalize (w95.setCell ⟨gb645,3,none⟩ (.int .i64 t688))=w97 at n0_ n1_ n2_ n3_ n4_ ⊢
             have BK640:=n0_
             have BK645:=n1_
             have HI0:=n2_
             have HK:=n3_
             have HB:=n4_
             clear n0_ n1_ n2_ n3_ n4_
             replace BK640:=am (jD BK640.out)
             replace BK645:=am (jD BK645.out)
             replace HI0:=am (je.drew HI0.out)
             replace HK:=am (jUa HK.out)
             replace HB:=am (jO HB.out)
             refine start_ (n:=10) (S:=fun w'=>w'.cell? ⟨gb645,0,none⟩=some (.int .i64 a2)∧w'.cell? ⟨gb645,1,none⟩=some (.int .i64 11)∧w'.cell? ⟨gb645,2,none⟩=some (.int .i64 t686)∧w'.cell? ⟨gb645,3,none⟩=some (.int .i64 t688)∧w'.cell? ⟨gb640,0,none⟩=some (.slice A1_0 l1_0.length c1_0)) (ds:=[]) #[false,false,false,false,false,false,false,false,false,false] (by kernel_rfl) rfl rfl ⟨(jJ BK645.out 0).trans rfl,(jJ BK645.out 1).trans rfl,(jJ BK645.out 2).trans rfl,(jJ BK645.out 3).trans rfl,(jJ BK640.out 0).trans rfl⟩ (fun hHeld=>?_);refine jFc jw.tab26 jw.bits26 (fun HT_ HW_=>?_)
             generalize w97.drew=w98 at BK640 BK645 HI0 HK HB hHeld ⊢
             refine pq (i:=2) (N:=some 84) #[false,false,true,false,false,false,false,false,false,false] ?_
             refine pq (i:=4) (N:=some 86) #[false,false,true,false,true,false,false,false,false,false] ?_
             refine pq (i:=5) (N:=some 87) #[false,false,true,false,true,true,false,false,false,false] ?_
             refine pq (i:=6) (N:=some 88) #[false,false,true,false,true,true,true,false,false,false] ?_
             refine take_ (i:=0) (N:=some 82) (v:=?_) (a':=?_) #[true,false,true,false,true,true,true,false,false,false] rfl rfl (jdc HT_.out HW_.out (by kernel_rfl)) (fun _ _ _ h=>h) (Or.inl ⟨by rfl,?_⟩) hHeld ?_ ?_
             rotate_left
             ·rintro w' ⟨s0,s1,s2,s3,s4⟩
              go_simp
              with_reducible rfl
             rotate_left
             ·exact sa
             refine take_ (i:=3) (N:=some 85) (v:=?_) (a':=?_) #[true,false,true,true,true,true,true,false,false,false] rfl rfl (jdc HT_.out HW_.out (by kernel_rfl)) (fun _ _ _ h=>h) (Or.inl ⟨by rfl,?_⟩) hHeld ?_ ?_
             rotate_left
             ·rintro w' ⟨s0,s1,s2,s3,s4⟩
              go_simp
              with_reducible rfl
             rotate_left
             ·exact sa
             refine join_ (σ:=Value × Value) 2 #[true,true,true,true,true,true,true,true,false,false] (fun s_=>[(83,s_.1),(89,s_.2)]) (fun s_ w'=>(w'.cell? ⟨gb645,0,none⟩=some (.int .i64 a2)∧w'.cell? ⟨gb645,1,none⟩=some (.int .i64 11)∧w'.cell? ⟨gb645,2,none⟩=some (.int .i64 t686)∧w'.cell? ⟨gb645,3,none⟩=some (.int .i64 t688)∧w'.cell? ⟨gb640,0,none⟩=some (.slice A1_0 l1_0.length c1_0))∧(Kd.R k52 52 w' w.heap.size (fun k_=>some k_≠(s_.2:Value).ownBlock∧k_≠gb645) s_.1 y690)∧(Kd.R k52 52 w' w.heap.size (fun k_=>some k_≠(s_.1:Value).ownBlock∧k_≠gb645) s_.2 t693)∧(w'.heap[gb640]?=some (.cells #[.slice A1_0 l1_0.length c1_0] 32 (0,0)))∧(w'.heap[gb645]?=some (.cells #[.int .i64 a2, .int .i64 11, .int .i64 t686, .int .i64 t688] 52 (0,0)))∧(je w0 w' g s0_0 t696)∧(jb w w' g none)∧(Below w0.heap.size w0 w')) ?_ ?_
             rotate_left
             ·intro hCont
              refine two_ (i:=1) (j:=7) (Ni:=some 83) (Nj:=some 89) #[true,true,true,true,true,true,true,false,false,false] #[true,false,true,true,true,true,true,true,false,false] rfl rfl rfl rfl (two_of HT_.out (by kernel_rfl)) (by decide) (by decide) (fun K hK=>?_) (fun K hK=>?_)
              ·skip
               refine Kd.jkc k52 _ 52 ?hg (N:=83) ?hd (xs:=([(⟨a2,11,t686,t688⟩:S52)]:List (S52))) (inner:=[.int .i64 a2, .int .i64 11, .int .i64 t686, .int .i64 t688]) (ok:=fun _=>True) (okp:=fun _=>True) ?hr ?hp (fun _ hk=>hk) trivial (Below.refl _ _) (Nat.le_refl _) (by simp) ?_;(case hd=>rfl);(case hg=>rfl);(case hr=>exact Y8);(case hp=>exact (Reps.c4 (show Kd.M k52 _ _ _ (⟨a2,11,t686,t688⟩:S52) [.int .i64 a2, .int .i64 11, .int .i64 t686, .int .i64 t688] from (jpb _ _ _ (⟨a2,11,t686,t688⟩:S52) )) (Reps.none _ _)))
               intro v691 w99 ho100 hb hg_ hnew_
               clear hg_ hnew_
               (first | rw [← Ny690.out] at ho100 |(simp only [Int.reduceToNat] at ho100;rw [← Ny690.out] at ho100))
               have HO692:=am (Kd.jfa (Kd.jwc ho100 (g:=gb645) (o:=.cells #[.int .i64 a2, .int .i64 11, .int .i64 t686, .int .i64 t688] 52 (0,0)) (kq BK645.out)) (jL (w:=w) (g:=g) (row:=none) (Y1)))
               replace BK640:=am (jr (g:=gb640) (o:=.cells #[.slice A1_0 l1_0.length c1_0] 32 (0,0)) (kq BK640.out) hb)
               replace BK645:=am (jr (g:=gb645) (o:=.cells #[.int .i64 a2, .int .i64 11, .int .i64 t686, .int .i64 t688] 52 (0,0)) (kq BK645.out) hb)
               replace HK:=am (jb.trans (Y1) (jb.of_below hb g none) (.inl rfl))
               replace HB:=am (ji (Y6) hb)
               replace HI0:=am (je.below (Y4) hb)
               clear hb ho100
               refine hK.out _ _ ⟨(jJ BK645.out 0).trans rfl,(jJ BK645.out 1).trans rfl,(jJ BK645.out 2).trans rfl,(jJ BK645.out 3).trans rfl,(jJ BK640.out 0).trans rfl⟩ (fun hHeld=>?_)
               clear hK K
               refine jfc (a':=?_) ?_ ?_
               rotate_left
               ·show Act.put _ (some 83) _=_
                simp only [Act.put,List.setIfInBounds_toArray,List.set_cons_zero,List.set_cons_succ,jkb,jnb]
                rfl
               refine one_ (i:=7) (N:=some 89) #[true,true,true,true,true,true,true,true,false,false] rfl rfl (jXb HT_.out (by kernel_rfl)) (by decide) (fun K hK=>?_)
               refine goes_ Try.func100 (by kernel_rfl) rfl #[.pointer (some ⟨g,0,none⟩), .agg #[.slice A1_0 l1_0.length c1_0], .int .i64 (wrap64 (a2+1)), .bool a3] (by rfl) rfl rfl (aq) ?_
               with_reducible refine (ih100 kj49 (by have:=HJ5.out;have:=HJ49.out;omega) g s0_0 t689 _ _ l1_0 (wrap64 (a2+1)) a3 t693 t696 w0 _ ?side1 ?side2 ?side3 ?side4 A88.out).mono ?_
               (case side1=>exact Y4)
               (case side2=>exact Y6)
               (case side3=>exact Kd.jmb HR1_0.out (Y1))
               (case side4=>exact HC1_0.out)
               rintro e w101 ⟨v694,rfl,ho0,hi,hb,hk⟩
               refine ⟨_,rfl,?_⟩
               have HO695:=am (Kd.jfa (Kd.jwc (Kd.jzb ho0 (Kd.R_lt (rq HO692.out))) (g:=gb645) (o:=.cells #[.int .i64 a2, .int .i64 11, .int .i64 t686, .int .i64 t688] 52 (0,0)) (kq BK645.out)) (jL (w:=w) (g:=g) (row:=none) (Y1)))
               replace BK640:=am (jb.blk hk (g':=gb640) (o:=.cells #[.slice A1_0 l1_0.length c1_0] 32 (0,0)) (kq BK640.out) NB640_0.out (by simp))
               replace BK645:=am (jb.blk hk (g':=gb645) (o:=.cells #[.int .i64 a2, .int .i64 11, .int .i64 t686, .int .i64 t688] 52 (0,0)) (kq BK645.out) NB645_0.out (by simp))
               replace HO692:=am (Kd.jG (Kd.R_told (Kd.R_oldK (je.apart (show je w0 _ g s0_0 t689 from Y4) (rq HO692.out) (by decide)) hk) (Kd.jAb ho0)) (fun _ h_=>h_.1))
               replace HK:=am (jb.trans (Y1) hk (.inl rfl))
               replace HB:=am (hb)
               replace HI0:=am (hi)
               (try clear hb)
               (try clear hb2)
               (try clear hk)
               (try clear hi)
               (try clear ho0)
               refine hK.out _ _ ⟨(jJ BK645.out 0).trans rfl,(jJ BK645.out 1).trans rfl,(jJ BK645.out 2).trans rfl,(jJ BK645.out 3).trans rfl,(jJ BK640.out 0).trans rfl⟩ (fun hHeld=>?_)
               clear hK K
               refine jfc (a':=?_) ?_ ?_
               rotate_left
               ·show Act.put _ (some 89) _=_
                simp only [Act.put,List.setIfInBounds_toArray,List.set_cons_zero,List.set_cons_succ,jkb,jnb]
                rfl
               exact jfc (by simp only [putAll,Act.put,List.setIfInBounds_toArray,List.set_cons_zero,List.set_cons_succ]) (hCont (v691,v694) _ ⟨hHeld,(by (with_reducible repeat (first | apply Kd.jma | apply Kd.jla | apply Kd.jva));exact Kd.jG HO692.out (fun _ hk=>⟨hk.2,hk.1.2⟩)),(by (with_reducible repeat (first | apply Kd.jma | apply Kd.jla | apply Kd.jva));exact Kd.jG HO695.out (fun _ hk=>⟨hk.1.2,hk.2⟩)),(kq BK640.out),(kq BK645.out),(Y4),(Y1),(Y6)⟩)
              ·skip
               refine goes_ Try.func100 (by kernel_rfl) rfl #[.pointer (some ⟨g,0,none⟩), .agg #[.slice A1_0 l1_0.length c1_0], .int .i64 (wrap64 (a2+1)), .bool a3] (by rfl) rfl rfl (aq) ?_
               with_reducible refine (ih100 kj49 (by have:=HJ5.out;have:=HJ49.out;omega) g s0_0 t689 _ _ l1_0 (wrap64 (a2+1)) a3 t693 t696 w0 _ ?side1 ?side2 ?side3 ?side4 A88.out).mono ?_
               (case side1=>exact Y4)
               (case side2=>exact Y6)
               (case side3=>exact Kd.jmb HR1_0.out (Y1))
               (case side4=>exact HC1_0.out)
               rintro e w99 ⟨v694,rfl,ho0,hi,hb,hk⟩
               refine ⟨_,rfl,?_⟩
               have HO695:=am (Kd.jfa (Kd.jwc ho0 (g:=gb645) (o:=.cells #[.int .i64 a2, .int .i64 11, .int .i64 t686, .int .i64 t688] 52 (0,0)) (kq BK645.out)) (jL (w:=w) (g:=g) (row:=none) (Y1)))
               replace BK640:=am (jb.blk hk (g':=gb640) (o:=.cells #[.slice A1_0 l1_0.length c1_0] 32 (0,0)) (kq BK640.out) NB640_0.out (by simp))
               replace BK645:=am (jb.blk hk (g':=gb645) (o:=.cells #[.int .i64 a2, .int .i64 11, .int .i64 t686, .int .i64 t688] 52 (0,0)) (kq BK645.out) NB645_0.out (by simp))
               replace HK:=am (jb.trans (Y1) hk (.inl rfl))
               replace HB:=am (hb)
               replace HI0:=am (hi)
               (try clear hb)
               (try clear hb2)
               (try clear hk)
               (try clear hi)
               (try clear ho0)
               refine hK.out _ _ ⟨(jJ BK645.out 0).trans rfl,(jJ BK645.out 1).trans rfl,(jJ BK645.out 2).trans rfl,(jJ BK645.out 3).trans rfl,(jJ BK640.out 0).trans rfl⟩ (fun hHeld=>?_)
               clear hK K
               refine jfc (a':=?_) ?_ ?_
               rotate_left
               ·show Act.put _ (some 89) _=_
                simp only [Act.put,List.setIfInBounds_toArray,List.set_cons_zero,List.set_cons_succ,jkb,jnb]
                rfl
               refine one_ (i:=1) (N:=some 83) #[true,true,true,true,true,true,true,true,false,false] rfl rfl (jXb HT_.out (by kernel_rfl)) (by decide) (fun K hK=>?_)
               refine Kd.jkc k52 _ 52 ?hg (N:=83) ?hd (xs:=([(⟨a2,11,t686,t688⟩:S52)]:List (S52))) (inner:=[.int .i64 a2, .int .i64 11, .int .i64 t686, .int .i64 t688]) (ok:=fun _=>True) (okp:=fun _=>True) ?hr ?hp (fun _ hk=>hk) trivial (Below.refl _ _) (Nat.le_refl _) (by simp) ?_;(case hd=>rfl);(case hg=>rfl);(case hr=>exact Y8);(case hp=>exact (Reps.c4 (show Kd.M k52 _ _ _ (⟨a2,11,t686,t688⟩:S52) [.int .i64 a2, .int .i64 11, .int .i64 t686, .int .i64 t688] from (jpb _ _ _ (⟨a2,11,t686,t688⟩:S52) )) (Reps.none _ _)))
               intro v691 w100 ho101 hb hg_ hnew_
               clear hg_ hnew_
               (first | rw [← Ny690.out] at ho101 |(simp only [Int.reduceToNat] at ho101;rw [← Ny690.out] at ho101))
               have HO692:=am (Kd.jfa (Kd.jwc (Kd.jzb ho101 (Kd.R_lt (rq HO695.out))) (g:=gb645) (o:=.cells #[.int .i64 a2, .int .i64 11, .int .i64 t686, .int .i64 t688] 52 (0,0)) (kq BK645.out)) (jL (w:=w) (g:=g) (row:=none) (Y1)))
               replace HO695:=am (Kd.jVb (rq HO695.out) (Kd.jAb ho101) hb)
               replace BK640:=am (jr (g:=gb640) (o:=.cells #[.slice A1_0 l1_0.length c1_0] 32 (0,0)) (kq BK640.out) hb)
               replace BK645:=am (jr (g:=gb645) (o:=.cells #[.int .i64 a2, .int .i64 11, .int .i64 t686, .int .i64 t688] 52 (0,0)) (kq BK645.out) hb)
               replace HK:=am (jb.trans (Y1) (jb.of_below hb g none) (.inl rfl))
               replace HB:=am (ji (Y6) hb)
               replace HI0:=am (je.below (Y4) hb)
               clear hb ho101
               refine hK.out _ _ ⟨(jJ BK645.out 0).trans rfl,(jJ BK645.out 1).trans rfl,(jJ BK645.out 2).trans rfl,(jJ BK645.out 3).trans rfl,(jJ BK640.out 0).trans rfl⟩ (fun hHeld=>?_)
               clear hK K
               refine jfc (a':=?_) ?_ ?_
               rotate_left
               ·show Act.put _ (some 83) _=_
                simp only [Act.put,List.setIfInBounds_toArray,List.set_cons_zero,List.set_cons_succ,jkb,jnb]
                rfl
               exact jfc (by simp only [putAll,Act.put,List.setIfInBounds_toArray,List.set_cons_zero,List.set_cons_succ]) (hCont (v691,v694) _ ⟨hHeld,(by (with_reducible repeat (first | apply Kd.jma | apply Kd.jla | apply Kd.jva));exact Kd.jG HO692.out (fun _ hk=>⟨hk.1.2,hk.2⟩)),(by (with_reducible repeat (first | apply Kd.jma | apply Kd.jla | apply Kd.jva));exact Kd.jG HO695.out (fun _ hk=>⟨hk.2,hk.1.2⟩)),(kq BK640.out),(kq BK645.out),(Y4),(Y1),(Y6)⟩)
             rintro ⟨v691,v694⟩ w102 ⟨hS_,h0_,h1_,h2_,h3_,h4_,h5_,h6_⟩
             have n0_:jl (Kd.R k52 52 w102 w.heap.size (fun k_=>some k_≠(v694:Value).ownBlock∧k_≠gb645) v691 y690):=⟨h0_⟩
             have n1_:jl (Kd.R k52 52 w102 w.heap.size (fun k_=>some k_≠(v691:Value).ownBlock∧k_≠gb645) v694 t693):=⟨h1_⟩
             have n2_:jl (w102.heap[gb640]?=some (.cells #[.slice A1_0 l1_0.length c1_0] 32 (0,0))):=⟨h2_⟩
             have n3_:jl (w102.heap[gb645]?=some (.cells #[.int .i64 a2, .int .i64 11, .int .i64 t686, .int .i64 t688] 52 (0,0))):=⟨h3_⟩
             have n4_:jl (je w0 w102 g s0_0 t696):=⟨h4_⟩
             have n5_:jl (jb w w102 g none):=⟨h5_⟩
             have n6_:jl (Below w0.heap.size w0 w102):=⟨h6_⟩
             clear BK640
             clear BK645
             clear HI0
             clear HK
             clear HB
             clear h0_ h1_ h2_ h3_ h4_ h5_ h6_
             have HO692:=n0_
             have HO695:=n1_
             have BK640:=n2_
             have BK645:=n3_
             have HI0:=n4_
             have HK:=n5_
             have HB:=n6_
             clear n0_ n1_ n2_ n3_ n4_ n5_ n6_
             have hHeld:w102.cell? ⟨gb645,0,none⟩=some (.int .i64 a2)∧w102.cell? ⟨gb645,1,none⟩=some (.int .i64 11)∧w102.cell? ⟨gb645,2,none⟩=some (.int .i64 t686)∧w102.cell? ⟨gb645,3,none⟩=some (.int .i64 t688)∧w102.cell? ⟨gb640,0,none⟩=some (.slice A1_0 l1_0.length c1_0):=hS_
             obtain ⟨Ao104,co104,eo104⟩:=Kd.jta HO695.out
             (first | subst eo104 |(injection eo104 with f1_ f2_ f3_;have f4_:=f1_.symm;have f5_:=f3_.symm;clear f1_ f2_ f3_;subst f4_;subst f5_))
             refine jfc (a':=?_) ?_ ?_
             rotate_left
             ·simp only [putAll,Act.put,List.setIfInBounds_toArray,List.set_cons_zero,List.set_cons_succ]
              rfl
             refine one_ (i:=8) (N:=some 90) #[true,true,true,true,true,true,true,true,true,false] rfl rfl (jXb HT_.out (by kernel_rfl)) (by decide) (fun K hK=>?_)
             refine Kd.jBc k52 w.heap.size (by rfl) (.tmp 83) (.tmp 89) 28 52 (.agg #[(.int .i64 0),(.int .i64 0),(.int .i64 0),(.int .i64 0)]) 32 rfl Try.underlying28 jac rfl (by decide) (by omega) v691 y690 t693 _ _ _ (fun k_=>some k_≠(.slice Ao104 t693.length co104:Value).ownBlock∧k_≠gb645) (fun _=>False) rfl rfl ?aO ?aR (fun _ _ h=>h) (fun _ h=>h.elim) ?aF (Below.refl _ _) ?aS ?aL ?_
             (case aR=>repeat (first | exact (Kd.jC HO695.out).2.2 |(with_reducible refine Kd.jqc ?_ _) |(with_reducible refine Kd.jlc ?_ _) |(with_reducible refine Kd.C_drew ?_)))
             (case aF=>exact (fun k_ hk=>⟨Kd.fresh' (Kd.R_lt (rq HO695.out)) k_ hk,Kd.freshB (g:=gb645) (o:=.cells #[.int .i64 a2, .int .i64 11, .int .i64 t686, .int .i64 t688] 52 (0,0)) (kq BK645.out) k_ hk⟩))
             (case aO=>exact (rq HO692.out))
             (case aS=>exact (jL (w:=w) (g:=g) (row:=none) (Y1)))
             (case aL=>have:=LMc89.out;omega)
             intro v698 w103 ho hb hg hat
             rw [← Ny697.out] at ho
             have n0_:=am (jOa (g:=gb640) (o:=.cells #[.slice A1_0 l1_0.length c1_0] 32 (0,0)) (kq BK640.out) hg (Kd.R_ne HO692.out BK640.out (by decide)))
             have n1_:=am (jOa (g:=gb645) (o:=.cells #[.int .i64 a2, .int .i64 11, .int .i64 t686, .int .i64 t688] 52 (0,0)) (kq BK645.out) hg (Kd.R_away HO692.out (fun _ hk=>hk.2)))
             have n2_:=am (je.grown (Y4) hg (je.own_ne HI0.out HO692.out (by decide)))
             have n3_:=am (Kd.jMc (ok:=(fun k_=>k_≠gb645)) (by (with_reducible repeat (first | apply Kd.jma | apply Kd.jla | apply Kd.jva));exact Kd.jG HO695.out (fun _ hk=>⟨hk.2,hk.1⟩)) hg hat)
             have n4_:=am (jbb (Y6) HL.out hb)
             have n5_:=am (jb.trans (Y1) (jb.jub hg g) (Kd.jTb HO692.out))
             have n6_:=am (ho)
             clear BK640
             clear BK645
             clear HI0
             clear HO695
             clear HB
             clear HK
             clear HO692
             have BK640:=n0_
             have BK645:=n1_
             have HI0:=n2_
             have HO695:=n3_
             have HB:=n4_
             have HK:=n5_
             have HO699:=n6_
             clear n0_ n1_ n2_ n3_ n4_ n5_ n6_
             clear ho hb hg hat
             refine hK.out _ _ ⟨(jJ BK645.out 0).trans rfl,(jJ BK645.out 1).trans rfl,(jJ BK645.out 2).trans rfl,(jJ BK645.out 3).trans rfl,(jJ BK640.out 0).trans rfl⟩ (fun hHeld=>?_)
             clear hK K
             refine jfc (a':=?_) ?_ ?_
             rotate_left
             ·show Act.put _ (some 90) _=_
              simp only [Act.put,List.setIfInBounds_toArray,List.set_cons_zero,List.set_cons_succ,jkb,jnb]
              rfl
             refine pq (i:=9) (N:=some 8) #[true,true,true,true,true,true,true,true,true,true] ?_
             refine done_ (done_of HT_.out (by kernel_rfl)) ?_
             try go_wp2
             go_ret
             exact ⟨_,Y0,by (with_reducible repeat (first | apply Kd.jma | apply Kd.jla | apply Kd.jva));exact Kd.jG HO699.out (fun _ hk=>trivial),Y4,Y6,Y1⟩
            ·rw [if_neg c89] at H
             exact absurd H (by simp)
           ·rw [if_neg c85] at H
            have c85b0:decide (x9_5<11)=false:=dzF c85
            clear c85
            by_cases c105:x9_5=11
            ·rw [if_pos c105] at H
             have c105b0:(x9_5 == 11)=true:=beq_iff_eq.mpr c105
             have c105b1:(x9_5 != 11)=false:=bne_eq_false_iff_eq.mpr c105
             clear c105
             obtain ⟨y700,hy700⟩:∃ y_:List Int,y_=(([2,1,3,0]:List Int)):=⟨_,rfl⟩
             replace H:((jh.f kj49 s0_0 x1001_5 y700).bind fun bt703=>((some (([(⟨a2,12,bt703.1,0⟩:S52)]:List (S52)):List (S52))).bind fun y705=>((jI.f kj49 s0_0 bt703.2 l1_0 (wrap64 (a2+1)) true).bind fun bt708=>(if y705.length+bt708.1.length<4398046511104 then (some ((y705 ++ bt708.1),bt708.2)) else (none)))))=some (r1,r2):=by first |(rw [hy700];with_reducible exact H) |(have H2_:=(Option.bind_some _ _).symm.trans H;rw [hy700];with_reducible exact H2_) |(have H2_:=(Option.bind_some _ _).symm.trans H;with_reducible exact H2_) | with_reducible exact H |(rw [hy700];exact H) | exact H
             have Ny700:=am hy700
             clear hy700
             replace H:=bzS H
             obtain ⟨⟨t703,t704⟩,A1060,H⟩:=H
             replace H:((some (([(⟨a2,12,t703,0⟩:S52)]:List (S52)):List (S52))).bind fun y705=>((jI.f kj49 s0_0 t704 l1_0 (wrap64 (a2+1)) true).bind fun bt708=>(if y705.length+bt708.1.length<4398046511104 then (some ((y705 ++ bt708.1),bt708.2)) else (none))))=some (r1,r2):=H
             have A106:=am A1060
             clear A1060
             obtain ⟨y705,hy705⟩:∃ y_:List (S52),y_=(([(⟨a2,12,t703,0⟩:S52)]:List (S52))):=⟨_,rfl⟩
             replace H:((jI.f kj49 s0_0 t704 l1_0 (wrap64 (a2+1)) true).bind fun bt708=>(if y705.length+bt708.1.length<4398046511104 then (some ((y705 ++ bt708.1),bt708.2)) else (none)))=some (r1,r2):=by first |(rw [hy705];with_reducible exact H) |(have H2_:=(Option.bind_some _ _).symm.trans H;rw [hy705];with_reducible exact H2_) |(have H2_:=(Option.bind_some _ _).symm.trans H;with_reducible exact H2_) | with_reducible exact H |(rw [hy705];exact H) | exact H
             have Ny705:=am hy705
             clear hy705
             replace H:=bzS H
             obtain ⟨⟨t708,t711⟩,A1070,H⟩:=H
             replace H:(if y705.length+t708.length<4398046511104 then (some ((y705 ++ t708),t711)) else (none))=some (r1,r2):=H
             have A107:=am A1070
             clear A1070
             by_cases c108:y705.length+t708.length<4398046511104
             ·rw [if_pos c108] at H
              have LMc108:=am c108
              clear c108
              obtain ⟨y712,hy712⟩:∃ y_:List (S52),y_=(y705 ++ t708):=⟨_,rfl⟩
              replace H:(some (y712,t711))=some (r1,r2):=by first |(rw [hy712];with_reducible exact H) |(have H2_:=(Option.bind_some _ _).symm.trans H;rw [hy712];with_reducible exact H2_) |(have H2_:=(Option.bind_some _ _).symm.trans H;with_reducible exact H2_) | with_reducible exact H |(rw [hy712];exact H) | exact H
              have Ny712:=am hy712
              clear hy712
              simp only [Option.some.injEq,Prod.mk.injEq] at H
              obtain ⟨rfl,rfl⟩:=H
              have hnb109:=NB645_640.out
              have hnc109:=NB640_645.out
              have hnb110:=NB645_0.out
              have hnc110:=NB0_645.out
              have hcz111_0:=bc0 BK645.out
              have hcz111_1:=bc1 BK645.out
              have hcz111_2:=bc2 BK645.out
              have hcz111_3:=bc3 BK645.out
              have hfz111_0:=ja BK645.out 0
              have hfz111_1:=ja BK645.out 1
              have hfz111_2:=ja BK645.out 2
              have hfz111_3:=ja BK645.out 3
              try go_wp2_with (first |((with_reducible refine jP (N:=96) rfl ?_);refine Kd.jYb (Kd.int .i64) _ 3 ?hg (N:=96) ?hd (xs:=([2,1,3,0]:List Int)) (inner:=[.int .i64 2, .int .i64 1, .int .i64 3, .int .i64 0]) (ok:=fun _=>True) (okp:=fun _=>True) ?hr ?hp (fun _ hk=>hk) trivial (Below.refl _ _) (Nat.le_refl _) (by simp) ?_;(case hd=>rfl);(case hg=>rfl);(case hr=>exact Y8);(case hp=>exact (Reps.one (show Kd.M (Kd.int .i64) _ _ _ 2 [.int .i64 2] from rfl) (Reps.one (show Kd.M (Kd.int .i64) _ _ _ 1 [.int .i64 1] from rfl) (Reps.one (show Kd.M (Kd.int .i64) _ _ _ 3 [.int .i64 3] from rfl) (Reps.one (show Kd.M (Kd.int .i64) _ _ _ 0 [.int .i64 0] from rfl) (Reps.none _ _))))));intro v701 w112 ho113 hb hg_ hnew_;clear hg_ hnew_;(first | rw [← Ny700.out] at ho113 |(simp only [Int.reduceToNat] at ho113;rw [← Ny700.out] at ho113));have HO702:=am (Kd.jfa ho113 (jL (w:=w) (g:=g) (row:=none) (Y1)));replace BK640:=am (jr (g:=gb640) (o:=.cells #[.slice A1_0 l1_0.length c1_0] 32 (0,0)) (Y43) hb);replace BK645:=am (jr (g:=gb645) (o:=.cells #[.int .i64 a2, .int .i64 12, .int .i64 0, .int .i64 0] 52 (0,0)) (Y55) hb);replace HK:=am (jb.trans (Y1) (jb.of_below hb g none) (.inl rfl));replace HB:=am (ji (Y6) hb);replace HI0:=am (je.below (show je w0 (wc.setCell ⟨gb645,1,none⟩ (.int .i64 12)) g s0_0 x1001_5 from Y4) hb);clear hb ho113;obtain ⟨Ao114,co114,eo114⟩:=Kd.jta HO702.out;subst eo114) |((with_reducible refine jd (f:=77) rfl ?_);refine gL (some 97) Try.func77 #[.pointer (some ⟨g,0,none⟩), .slice Ao114 y700.length co114] ?_;(with_reducible refine (jh.calls kj49 g s0_0 x1001_5 _ _ y700 t703 t704 w0 _ ?side1 ?side2 ?side3 ?side4 ?side5 A106.out).mono ?_);(case side1=>exact Y4);(case side2=>exact Y6);(case side3=>exact cq (Kd.jC HO702.out).2.2);(case side4=>exact (Kd.jC HO702.out).2.1);(case side5=>exact jxb (je.own_ne HI0.out HO702.out (by decide)));rintro e w115 ⟨rfl,hi,hb,hk⟩;refine ⟨_,rfl,?_⟩;replace BK640:=am (jb.blk hk (g':=gb640) (o:=.cells #[.slice A1_0 l1_0.length c1_0] 32 (0,0)) (kq BK640.out) NB640_0.out (by simp));replace BK645:=am (jb.blk hk (g':=gb645) (o:=.cells #[.int .i64 a2, .int .i64 12, .int .i64 0, .int .i64 0] 52 (0,0)) (kq BK645.out) NB645_0.out (by simp));replace HO702:=am (Kd.jG (Kd.jBa (je.apart (show je w0 _ g s0_0 x1001_5 from Y4) (rq HO702.out) (by decide)) hk (fun _ h=>h.2)) (fun _ h=>h.1));replace HK:=am (jb.trans (Y1) hk (.inl rfl));replace HB:=am (hb);replace HI0:=am (hi);(try clear hb);(try clear hb2);(try clear hk);(try clear hi);have hcz116_0:=bc0 BK645.out;have hcz116_1:=bc1 BK645.out;have hcz116_2:=bc2 BK645.out;have hcz116_3:=bc3 BK645.out;have hfz116_0:=ja BK645.out 0;have hfz116_1:=ja BK645.out 1;have hfz116_2:=ja BK645.out 2;have hfz116_3:=ja BK645.out 3))
              have n0_:jl (Kd.R (Kd.int .i64) 3 (w115.setCell ⟨gb645,2,none⟩ (.int .i64 t703)) w.heap.size (fun _=>True) (.slice Ao114 y700.length co114) y700):=⟨by (with_reducible repeat (first | apply Kd.jma | apply Kd.jla | apply Kd.jva));exact Kd.jG (Kd.jLb (p:=⟨gb645,2,none⟩) (Kd.jQa HO702.out BK645.out (by decide)) (fun _ hk=>hk.2) (.int .i64 t703)) (fun _ hk=>trivial)⟩
              have n1_:jl ((w115.setCell ⟨gb645,2,none⟩ (.int .i64 t703)).heap[gb640]?=some (.cells #[.slice A1_0 l1_0.length c1_0] 32 (0,0))):=⟨by (with_reducible repeat (first | refine jv ?_ _ | refine jD ?_ | refine jA ?_ _));refine jib ?_ NB640_645.out _;(with_reducible repeat (first | refine jv ?_ _ | refine jD ?_ | refine jA ?_ _));exact BK640.out⟩
              have n2_:jl ((w115.setCell ⟨gb645,2,none⟩ (.int .i64 t703)).heap[gb645]?=some (.cells #[.int .i64 a2, .int .i64 12, .int .i64 t703, .int .i64 0] 52 (0,0))):=⟨by (with_reducible repeat (first | refine jv ?_ _ | refine jD ?_ | refine jA ?_ _));refine jVa (cs:=#[.int .i64 a2, .int .i64 12, .int .i64 0, .int .i64 0]) ?_ 2 _ rfl;(with_reducible repeat (first | refine jv ?_ _ | refine jD ?_ | refine jA ?_ _));exact BK645.out⟩
              have n3_:jl (je w0 (w115.setCell ⟨gb645,2,none⟩ (.int .i64 t703)) g s0_0 t704):=⟨Y4⟩
              have n4_:jl (jb w (w115.setCell ⟨gb645,2,none⟩ (.int .i64 t703)) g none):=⟨Y1⟩
              have n5_:jl (Below w0.heap.size w0 (w115.setCell ⟨gb645,2,none⟩ (.int .i64 t703))):=⟨Y6⟩
              (try clear HO702)
              (try clear BK640)
              (try clear BK645)
              (try clear HI0)
              (try clear HK)
              (try clear HB)
              generalize (w115.setCell ⟨gb645,2,none⟩ (.int .i64 t703))=w117 at n0_ n1_ n2_ n3_ n4_ n5_ ⊢
              have HO702:=n0_
              have BK640:=n1_
              have BK645:=n2_
              have HI0:=n3_
              have HK:=n4_
              have HB:=n5_
              clear n0_ n1_ n2_ n3_ n4_ n5_
              replace HO702:=am (Kd.jva HO702.out)
              replace BK640:=am (jD BK640.out)
              replace BK645:=am (jD BK645.out)
              replace HI0:=am (je.drew HI0.out)
              replace HK:=am (jUa HK.out)
              replace HB:=am (jO HB.out)
              refine start_ (n:=9) (S:=fun w'=>w'.cell? ⟨gb645,0,none⟩=some (.int .i64 a2)∧w'.cell? ⟨gb645,1,none⟩=some (.int .i64 12)∧w'.cell? ⟨gb645,2,none⟩=some (.int .i64 t703)∧w'.cell? ⟨gb645,3,none⟩=some (.int .i64 0)∧w'.cell? ⟨gb640,0,none⟩=some (.slice A1_0 l1_0.length c1_0)) (ds:=[]) #[false,false,false,false,false,false,false,false,false] (by kernel_rfl) rfl rfl ⟨(jJ BK645.out 0).trans rfl,(jJ BK645.out 1).trans rfl,(jJ BK645.out 2).trans rfl,(jJ BK645.out 3).trans rfl,(jJ BK640.out 0).trans rfl⟩ (fun hHeld=>?_);refine jFc jw.tab30 jw.bits30 (fun HT_ HW_=>?_)
              generalize w117.drew=w118 at HO702 BK640 BK645 HI0 HK HB hHeld ⊢
              refine pq (i:=2) (N:=some 101) #[false,false,true,false,false,false,false,false,false] ?_
              refine pq (i:=4) (N:=some 103) #[false,false,true,false,true,false,false,false,false] ?_
              refine pq (i:=5) (N:=some 104) #[false,false,true,false,true,true,false,false,false] ?_
              refine take_ (i:=0) (N:=some 99) (v:=?_) (a':=?_) #[true,false,true,false,true,true,false,false,false] rfl rfl (jdc HT_.out HW_.out (by kernel_rfl)) (fun _ _ _ h=>h) (Or.inl ⟨by rfl,?_⟩) hHeld ?_ ?_
              rotate_left
              ·rintro w' ⟨s0,s1,s2,s3,s4⟩
               go_simp
               with_reducible rfl
              rotate_left
              ·exact sa
              refine take_ (i:=3) (N:=some 102) (v:=?_) (a':=?_) #[true,false,true,true,true,true,false,false,false] rfl rfl (jdc HT_.out HW_.out (by kernel_rfl)) (fun _ _ _ h=>h) (Or.inl ⟨by rfl,?_⟩) hHeld ?_ ?_
              rotate_left
              ·rintro w' ⟨s0,s1,s2,s3,s4⟩
               go_simp
               with_reducible rfl
              rotate_left
              ·exact sa
              refine join_ (σ:=Value × Value) 2 #[true,true,true,true,true,true,true,false,false] (fun s_=>[(100,s_.1),(105,s_.2)]) (fun s_ w'=>(w'.cell? ⟨gb645,0,none⟩=some (.int .i64 a2)∧w'.cell? ⟨gb645,1,none⟩=some (.int .i64 12)∧w'.cell? ⟨gb645,2,none⟩=some (.int .i64 t703)∧w'.cell? ⟨gb645,3,none⟩=some (.int .i64 0)∧w'.cell? ⟨gb640,0,none⟩=some (.slice A1_0 l1_0.length c1_0))∧(Kd.R (Kd.int .i64) 3 w' w.heap.size (fun _=>True) (.slice Ao114 y700.length co114) y700)∧(Kd.R k52 52 w' w.heap.size (fun k_=>some k_≠(s_.2:Value).ownBlock∧k_≠gb645) s_.1 y705)∧(Kd.R k52 52 w' w.heap.size (fun k_=>some k_≠(s_.1:Value).ownBlock∧k_≠gb645) s_.2 t708)∧(w'.heap[gb640]?=some (.cells #[.slice A1_0 l1_0.length c1_0] 32 (0,0)))∧(w'.heap[gb645]?=some (.cells #[.int .i64 a2, .int .i64 12, .int .i64 t703, .int .i64 0] 52 (0,0)))∧(je w0 w' g s0_0 t711)∧(jb w w' g none)∧(Below w0.heap.size w0 w')) ?_ ?_
              rotate_left
              ·intro hCont
               refine two_ (i:=1) (j:=6) (Ni:=some 100) (Nj:=some 105) #[true,true,true,true,true,true,false,false,false] #[true,false,true,true,true,true,true,false,false] rfl rfl rfl rfl (two_of HT_.out (by kernel_rfl)) (by decide) (by decide) (fun K hK=>?_) (fun K hK=>?_)
               ·skip
                refine Kd.jkc k52 _ 52 ?hg (N:=100) ?hd (xs:=([(⟨a2,12,t703,0⟩:S52)]:List (S52))) (inner:=[.int .i64 a2, .int .i64 12, .int .i64 t703, .int .i64 0]) (ok:=fun _=>True) (okp:=fun _=>True) ?hr ?hp (fun _ hk=>hk) trivial (Below.refl _ _) (Nat.le_refl _) (by simp) ?_;(case hd=>rfl);(case hg=>rfl);(case hr=>exact Y8);(case hp=>exact (Reps.c4 (show Kd.M k52 _ _ _ (⟨a2,12,t703,0⟩:S52) [.int .i64 a2, .int .i64 12, .int .i64 t703, .int .i64 0] from (jpb _ _ _ (⟨a2,12,t703,0⟩:S52) )) (Reps.none _ _)))
                intro v706 w119 ho120 hb hg_ hnew_
                clear hg_ hnew_
                (first | rw [← Ny705.out] at ho120 |(simp only [Int.reduceToNat] at ho120;rw [← Ny705.out] at ho120))
                have HO707:=am (Kd.jfa (Kd.jwc ho120 (g:=gb645) (o:=.cells #[.int .i64 a2, .int .i64 12, .int .i64 t703, .int .i64 0] 52 (0,0)) (kq BK645.out)) (jL (w:=w) (g:=g) (row:=none) (Y1)))
                replace HO702:=am (Kd.jqa (rq HO702.out) hb)
                replace BK640:=am (jr (g:=gb640) (o:=.cells #[.slice A1_0 l1_0.length c1_0] 32 (0,0)) (kq BK640.out) hb)
                replace BK645:=am (jr (g:=gb645) (o:=.cells #[.int .i64 a2, .int .i64 12, .int .i64 t703, .int .i64 0] 52 (0,0)) (kq BK645.out) hb)
                replace HK:=am (jb.trans (Y1) (jb.of_below hb g none) (.inl rfl))
                replace HB:=am (ji (Y6) hb)
                replace HI0:=am (je.below (Y4) hb)
                clear hb ho120
                refine hK.out _ _ ⟨(jJ BK645.out 0).trans rfl,(jJ BK645.out 1).trans rfl,(jJ BK645.out 2).trans rfl,(jJ BK645.out 3).trans rfl,(jJ BK640.out 0).trans rfl⟩ (fun hHeld=>?_)
                clear hK K
                refine jfc (a':=?_) ?_ ?_
                rotate_left
                ·show Act.put _ (some 100) _=_
                 simp only [Act.put,List.setIfInBounds_toArray,List.set_cons_zero,List.set_cons_succ,jkb,jnb]
                 rfl
                refine one_ (i:=6) (N:=some 105) #[true,true,true,true,true,true,true,false,false] rfl rfl (jXb HT_.out (by kernel_rfl)) (by decide) (fun K hK=>?_)
                refine goes_ Try.func100 (by kernel_rfl) rfl #[.pointer (some ⟨g,0,none⟩), .agg #[.slice A1_0 l1_0.length c1_0], .int .i64 (wrap64 (a2+1)), .bool true] (by rfl) rfl rfl (aq) ?_
                with_reducible refine (ih100 kj49 (by have:=HJ5.out;have:=HJ49.out;omega) g s0_0 t704 _ _ l1_0 (wrap64 (a2+1)) true t708 t711 w0 _ ?side1 ?side2 ?side3 ?side4 A107.out).mono ?_
                (case side1=>exact Y4)
                (case side2=>exact Y6)
                (case side3=>exact Kd.jmb HR1_0.out (Y1))
                (case side4=>exact HC1_0.out)
                rintro e w121 ⟨v709,rfl,ho0,hi,hb,hk⟩
                refine ⟨_,rfl,?_⟩
                have HO710:=am (Kd.jfa (Kd.jwc (Kd.jzb ho0 (Kd.R_lt (rq HO707.out))) (g:=gb645) (o:=.cells #[.int .i64 a2, .int .i64 12, .int .i64 t703, .int .i64 0] 52 (0,0)) (kq BK645.out)) (jL (w:=w) (g:=g) (row:=none) (Y1)))
                replace BK640:=am (jb.blk hk (g':=gb640) (o:=.cells #[.slice A1_0 l1_0.length c1_0] 32 (0,0)) (kq BK640.out) NB640_0.out (by simp))
                replace BK645:=am (jb.blk hk (g':=gb645) (o:=.cells #[.int .i64 a2, .int .i64 12, .int .i64 t703, .int .i64 0] 52 (0,0)) (kq BK645.out) NB645_0.out (by simp))
                replace HO702:=am (Kd.jG (Kd.jBa (je.apart (show je w0 _ g s0_0 t704 from Y4) (rq HO702.out) (by decide)) hk (fun _ h=>h.2)) (fun _ h=>h.1))
                replace HO707:=am (Kd.jG (Kd.R_told (Kd.R_oldK (je.apart (show je w0 _ g s0_0 t704 from Y4) (rq HO707.out) (by decide)) hk) (Kd.jAb ho0)) (fun _ h_=>h_.1))
                replace HK:=am (jb.trans (Y1) hk (.inl rfl))
                replace HB:=am (hb)
                replace HI0:=am (hi)
                (try clear hb)
                (try clear hb2)
                (try clear hk)
                (try clear hi)
                (try clear ho0)
                refine hK.out _ _ ⟨(jJ BK645.out 0).trans rfl,(jJ BK645.out 1).trans rfl,(jJ BK645.out 2).trans rfl,(jJ BK645.out 3).trans rfl,(jJ BK640.out 0).trans rfl⟩ (fun hHeld=>?_)
                clear hK K
                refine jfc (a':=?_) ?_ ?_
                rotate_left
                ·show Act.put _ (some 105) _=_
                 simp only [Act.put,List.setIfInBounds_toArray,List.set_cons_zero,List.set_cons_succ,jkb,jnb]
                 rfl
                exact jfc (by simp only [putAll,Act.put,List.setIfInBounds_toArray,List.set_cons_zero,List.set_cons_succ]) (hCont (v706,v709) _ ⟨hHeld,(rq HO702.out),(by (with_reducible repeat (first | apply Kd.jma | apply Kd.jla | apply Kd.jva));exact Kd.jG HO707.out (fun _ hk=>⟨hk.2,hk.1.2⟩)),(by (with_reducible repeat (first | apply Kd.jma | apply Kd.jla | apply Kd.jva));exact Kd.jG HO710.out (fun _ hk=>⟨hk.1.2,hk.2⟩)),(kq BK640.out),(kq BK645.out),(Y4),(Y1),(Y6)⟩)
               ·skip
                refine goes_ Try.func100 (by kernel_rfl) rfl #[.pointer (some ⟨g,0,none⟩), .agg #[.slice A1_0 l1_0.length c1_0], .int .i64 (wrap64 (a2+1)), .bool true] (by rfl) rfl rfl (aq) ?_
                with_reducible refine (ih100 kj49 (by have:=HJ5.out;have:=HJ49.out;omega) g s0_0 t704 _ _ l1_0 (wrap64 (a2+1)) true t708 t711 w0 _ ?side1 ?side2 ?side3 ?side4 A107.out).mono ?_
                (case side1=>exact Y4)
                (case side2=>exact Y6)
                (case side3=>exact Kd.jmb HR1_0.out (Y1))
                (case side4=>exact HC1_0.out)
                rintro e w119 ⟨v709,rfl,ho0,hi,hb,hk⟩
                refine ⟨_,rfl,?_⟩
                have HO710:=am (Kd.jfa (Kd.jwc ho0 (g:=gb645) (o:=.cells #[.int .i64 a2, .int .i64 12, .int .i64 t703, .int .i64 0] 52 (0,0)) (kq BK645.out)) (jL (w:=w) (g:=g) (row:=none) (Y1)))
                replace BK640:=am (jb.blk hk (g':=gb640) (o:=.cells #[.slice A1_0 l1_0.length c1_0] 32 (0,0)) (kq BK640.out) NB640_0.out (by simp))
                replace BK645:=am (jb.blk hk (g':=gb645) (o:=.cells #[.int .i64 a2, .int .i64 12, .int .i64 t703, .int .i64 0] 52 (0,0)) (kq BK645.out) NB645_0.out (by simp))
                replace HO702:=am (Kd.jG (Kd.jBa (je.apart (show je w0 _ g s0_0 t704 from Y4) (rq HO702.out) (by decide)) hk (fun _ h=>h.2)) (fun _ h=>h.1))
                replace HK:=am (jb.trans (Y1) hk (.inl rfl))
                replace HB:=am (hb)
                replace HI0:=am (hi)
                (try clear hb)
                (try clear hb2)
                (try clear hk)
                (try clear hi)
                (try clear ho0)
                refine hK.out _ _ ⟨(jJ BK645.out 0).trans rfl,(jJ BK645.out 1).trans rfl,(jJ BK645.out 2).trans rfl,(jJ BK645.out 3).trans rfl,(jJ BK640.out 0).trans rfl⟩ (fun hHeld=>?_)
                clear hK K
                refine jfc (a':=?_) ?_ ?_
                rotate_left
                ·show Act.put _ (some 105) _=_
                 simp only [Act.put,List.setIfInBounds_toArray,List.set_cons_zero,List.set_cons_succ,jkb,jnb]
                 rfl
                refine one_ (i:=1) (N:=some 100) #[true,true,true,true,true,true,true,false,false] rfl rfl (jXb HT_.out (by kernel_rfl)) (by decide) (fun K hK=>?_)
                refine Kd.jkc k52 _ 52 ?hg (N:=100) ?hd (xs:=([(⟨a2,12,t703,0⟩:S52)]:List (S52))) (inner:=[.int .i64 a2, .int .i64 12, .int .i64 t703, .int .i64 0]) (ok:=fun _=>True) (okp:=fun _=>True) ?hr ?hp (fun _ hk=>hk) trivial (Below.refl _ _) (Nat.le_refl _) (by simp) ?_;(case hd=>rfl);(case hg=>rfl);(case hr=>exact Y8);(case hp=>exact (Reps.c4 (show Kd.M k52 _ _ _ (⟨a2,12,t703,0⟩:S52) [.int .i64 a2, .int .i64 12, .int .i64 t703, .int .i64 0] from (jpb _ _ _ (⟨a2,12,t703,0⟩:S52) )) (Reps.none _ _)))
                intro v706 w120 ho121 hb hg_ hnew_
                clear hg_ hnew_
                (first | rw [← Ny705.out] at ho121 |(simp only [Int.reduceToNat] at ho121;rw [← Ny705.out] at ho121))
                have HO707:=am (Kd.jfa (Kd.jwc (Kd.jzb ho121 (Kd.R_lt (rq HO710.out))) (g:=gb645) (o:=.cells #[.int .i64 a2, .int .i64 12, .int .i64 t703, .int .i64 0] 52 (0,0)) (kq BK645.out)) (jL (w:=w) (g:=g) (row:=none) (Y1)))
                replace HO702:=am (Kd.jqa (rq HO702.out) hb)
                replace HO710:=am (Kd.jVb (rq HO710.out) (Kd.jAb ho121) hb)
                replace BK640:=am (jr (g:=gb640) (o:=.cells #[.slice A1_0 l1_0.length c1_0] 32 (0,0)) (kq BK640.out) hb)
                replace BK645:=am (jr (g:=gb645) (o:=.cells #[.int .i64 a2, .int .i64 12, .int .i64 t703, .int .i64 0] 52 (0,0)) (kq BK645.out) hb)
                replace HK:=am (jb.trans (Y1) (jb.of_below hb g none) (.inl rfl))
                replace HB:=am (ji (Y6) hb)
                replace HI0:=am (je.below (Y4) hb)
                clear hb ho121
                refine hK.out _ _ ⟨(jJ BK645.out 0).trans rfl,(jJ BK645.out 1).trans rfl,(jJ BK645.out 2).trans rfl,(jJ BK645.out 3).trans rfl,(jJ BK640.out 0).trans rfl⟩ (fun hHeld=>?_)
                clear hK K
                refine jfc (a':=?_) ?_ ?_
                rotate_left
                ·show Act.put _ (some 100) _=_
                 simp only [Act.put,List.setIfInBounds_toArray,List.set_cons_zero,List.set_cons_succ,jkb,jnb]
                 rfl
                exact jfc (by simp only [putAll,Act.put,List.setIfInBounds_toArray,List.set_cons_zero,List.set_cons_succ]) (hCont (v706,v709) _ ⟨hHeld,(rq HO702.out),(by (with_reducible repeat (first | apply Kd.jma | apply Kd.jla | apply Kd.jva));exact Kd.jG HO707.out (fun _ hk=>⟨hk.1.2,hk.2⟩)),(by (with_reducible repeat (first | apply Kd.jma | apply Kd.jla | apply Kd.jva));exact Kd.jG HO710.out (fun _ hk=>⟨hk.2,hk.1.2⟩)),(kq BK640.out),(kq BK645.out),(Y4),(Y1),(Y6)⟩)
              rintro ⟨v706,v709⟩ w122 ⟨hS_,h0_,h1_,h2_,h3_,h4_,h5_,h6_,h7_⟩
              have n0_:jl (Kd.R (Kd.int .i64) 3 w122 w.heap.size (fun _=>True) (.slice Ao114 y700.length co114) y700):=⟨h0_⟩
              have n1_:jl (Kd.R k52 52 w122 w.heap.size (fun k_=>some k_≠(v709:Value).ownBlock∧k_≠gb645) v706 y705):=⟨h1_⟩
              have n2_:jl (Kd.R k52 52 w122 w.heap.size (fun k_=>some k_≠(v706:Value).ownBlock∧k_≠gb645) v709 t708):=⟨h2_⟩
              have n3_:jl (w122.heap[gb640]?=some (.cells #[.slice A1_0 l1_0.length c1_0] 32 (0,0))):=⟨h3_⟩
              have n4_:jl (w122.heap[gb645]?=some (.cells #[.int .i64 a2, .int .i64 12, .int .i64 t703, .int .i64 0] 52 (0,0))):=⟨h4_⟩
              have n5_:jl (je w0 w122 g s0_0 t711):=⟨h5_⟩
              have n6_:jl (jb w w122 g none):=⟨h6_⟩
              have n7_:jl (Below w0.heap.size w0 w122):=⟨h7_⟩
              clear HO702
              clear BK640
              clear BK645
              clear HI0
              clear HK
              clear HB
              clear h0_ h1_ h2_ h3_ h4_ h5_ h6_ h7_
              have HO702:=n0_
              have HO707:=n1_
              have HO710:=n2_
              have BK640:=n3_
              have BK645:=n4_
              have HI0:=n5_
              have HK:=n6_
              have HB:=n7_
              clear n0_ n1_ n2_ n3_ n4_ n5_ n6_ n7_
              have hHeld:w122.cell? ⟨gb645,0,none⟩=some (.int .i64 a2)∧w122.cell? ⟨gb645,1,none⟩=some (.int .i64 12)∧w122.cell? ⟨gb645,2,none⟩=some (.int .i64 t703)∧w122.cell? ⟨gb645,3,none⟩=some (.int .i64 0)∧w122.cell? ⟨gb640,0,none⟩=some (.slice A1_0 l1_0.length c1_0):=hS_
              obtain ⟨Ao124,co124,eo124⟩:=Kd.jta HO710.out
              (first | subst eo124 |(injection eo124 with f1_ f2_ f3_;have f4_:=f1_.symm;have f5_:=f3_.symm;clear f1_ f2_ f3_;subst f4_;subst f5_))
              refine jfc (a':=?_) ?_ ?_
              rotate_left
              ·simp only [putAll,Act.put,List.setIfInBounds_toArray,List.set_cons_zero,List.set_cons_succ]
               rfl
              refine one_ (i:=7) (N:=some 106) #[true,true,true,true,true,true,true,true,false] rfl rfl (jXb HT_.out (by kernel_rfl)) (by decide) (fun K hK=>?_)
              refine Kd.jBc k52 w.heap.size (by rfl) (.tmp 100) (.tmp 105) 28 52 (.agg #[(.int .i64 0),(.int .i64 0),(.int .i64 0),(.int .i64 0)]) 32 rfl Try.underlying28 jac rfl (by decide) (by omega) v706 y705 t708 _ _ _ (fun k_=>some k_≠(.slice Ao124 t708.length co124:Value).ownBlock∧k_≠gb645) (fun _=>False) rfl rfl ?aO ?aR (fun _ _ h=>h) (fun _ h=>h.elim) ?aF (Below.refl _ _) ?aS ?aL ?_
              (case aR=>repeat (first | exact (Kd.jC HO710.out).2.2 |(with_reducible refine Kd.jqc ?_ _) |(with_reducible refine Kd.jlc ?_ _) |(with_reducible refine Kd.C_drew ?_)))
              (case aF=>exact (fun k_ hk=>⟨Kd.fresh' (Kd.R_lt (rq HO710.out)) k_ hk,Kd.freshB (g:=gb645) (o:=.cells #[.int .i64 a2, .int .i64 12, .int .i64 t703, .int .i64 0] 52 (0,0)) (kq BK645.out) k_ hk⟩))
              (case aO=>exact (rq HO707.out))
              (case aS=>exact (jL (w:=w) (g:=g) (row:=none) (Y1)))
              (case aL=>have:=LMc108.out;omega)
              intro v713 w123 ho hb hg hat
              rw [← Ny712.out] at ho
              have n0_:=am (jOa (g:=gb640) (o:=.cells #[.slice A1_0 l1_0.length c1_0] 32 (0,0)) (kq BK640.out) hg (Kd.R_ne HO707.out BK640.out (by decide)))
              have n1_:=am (jOa (g:=gb645) (o:=.cells #[.int .i64 a2, .int .i64 12, .int .i64 t703, .int .i64 0] 52 (0,0)) (kq BK645.out) hg (Kd.R_away HO707.out (fun _ hk=>hk.2)))
              have n2_:=am (je.grown (Y4) hg (je.own_ne HI0.out HO707.out (by decide)))
              have n3_:=am (Kd.jvc (rq HO702.out) (Kd.juc (rq HO707.out)) (by decide) hg)
              have n4_:=am (Kd.jMc (ok:=(fun k_=>k_≠gb645)) (by (with_reducible repeat (first | apply Kd.jma | apply Kd.jla | apply Kd.jva));exact Kd.jG HO710.out (fun _ hk=>⟨hk.2,hk.1⟩)) hg hat)
              have n5_:=am (jbb (Y6) HL.out hb)
              have n6_:=am (jb.trans (Y1) (jb.jub hg g) (Kd.jTb HO707.out))
              have n7_:=am (ho)
              clear BK640
              clear BK645
              clear HI0
              clear HO702
              clear HO710
              clear HB
              clear HK
              clear HO707
              have BK640:=n0_
              have BK645:=n1_
              have HI0:=n2_
              have HO702:=n3_
              have HO710:=n4_
              have HB:=n5_
              have HK:=n6_
              have HO714:=n7_
              clear n0_ n1_ n2_ n3_ n4_ n5_ n6_ n7_
              clear ho hb hg hat
              refine hK.out _ _ ⟨(jJ BK645.out 0).trans rfl,(jJ BK645.out 1).trans rfl,(jJ BK645.out 2).trans rfl,(jJ BK645.out 3).trans rfl,(jJ BK640.out 0).trans rfl⟩ (fun hHeld=>?_)
              clear hK K
              refine jfc (a':=?_) ?_ ?_
              rotate_left
              ·show Act.put _ (some 106) _=_
               simp only [Act.put,List.setIfInBounds_toArray,List.set_cons_zero,List.set_cons_succ,jkb,jnb]
               rfl
              refine pq (i:=8) (N:=some 8) #[true,true,true,true,true,true,true,true,true] ?_
              refine done_ (done_of HT_.out (by kernel_rfl)) ?_
              try go_wp2
              go_ret
              exact ⟨_,Y0,by (with_reducible repeat (first | apply Kd.jma | apply Kd.jla | apply Kd.jva));exact Kd.jG HO714.out (fun _ hk=>trivial),Y4,Y6,Y1⟩
             ·rw [if_neg c108] at H
              exact absurd H (by simp)
            ·rw [if_neg c105] at H
             have c105b0:(x9_5 == 11)=false:=beq_eq_false_iff_ne.mpr c105
             have c105b1:(x9_5 != 11)=true:=bne_iff_ne.mpr c105
             replace H:=bzS H
             obtain ⟨⟨t715,t718⟩,A1250,H⟩:=H
             replace H:(some (t715,t718))=some (r1,r2):=H
             have A125:=am A1250
             clear A1250
             simp only [Option.some.injEq,Prod.mk.injEq] at H
             obtain ⟨rfl,rfl⟩:=H
             have hnb126:=NB640_645.out
             have hnc126:=NB645_640.out
             have hnb127:=NB640_0.out
             have hnc127:=NB0_640.out
             have hcz128_0:=bc0 BK640.out
             have hfz128_0:=ja BK640.out 0
             go_wp2_with (first |((with_reducible refine jd (f:=99) rfl ?_);refine gL (some 23) Try.func99 #[.pointer (some ⟨g,0,none⟩), .agg #[.slice A1_0 l1_0.length c1_0], .int .i64 a2, .bool a3] ?_;(with_reducible refine (ih99 kj49 (by have:=HJ5.out;have:=HJ49.out;omega) g s0_0 x1001_5 _ _ l1_0 a2 a3 t715 t718 w0 _ ?side1 ?side2 ?side3 ?side4 A125.out).mono ?_);(case side1=>exact Y4);(case side2=>exact Y6);(case side3=>exact Kd.jmb HR1_0.out (Y1));(case side4=>exact HC1_0.out);rintro e w129 ⟨v716,rfl,ho0,hi,hb,hk⟩;refine ⟨_,rfl,?_⟩;have HO717:=am (Kd.jfa (Kd.jwc ho0 (g:=gb645) (o:=.cells #[.int .i64 a2, .int .i64 0, .int .i64 0, .int .i64 0] 52 (0,0)) (kq BK645.out)) (jL (w:=w) (g:=g) (row:=none) (Y1)));replace BK640:=am (jb.blk hk (g':=gb640) (o:=.cells #[.slice A1_0 l1_0.length c1_0] 32 (0,0)) (kq BK640.out) NB640_0.out (by simp));replace BK645:=am (jb.blk hk (g':=gb645) (o:=.cells #[.int .i64 a2, .int .i64 0, .int .i64 0, .int .i64 0] 52 (0,0)) (kq BK645.out) NB645_0.out (by simp));replace HK:=am (jb.trans (Y1) hk (.inl rfl));replace HB:=am (hb);replace HI0:=am (hi);(try clear hb);(try clear hb2);(try clear hk);(try clear hi);(try clear ho0)))
             go_ret
             exact ⟨_,Y0,by (with_reducible repeat (first | apply Kd.jma | apply Kd.jla | apply Kd.jva));exact Kd.jG HO717.out (fun _ hk=>trivial),Y4,Y6,Y1⟩
set_option maxHeartbeats 8000000 in
set_option maxRecDepth 100000 in
theorem jI.calls_of (k : Nat) (ih106 : ∀ k_, k_ < k → ∀ (g : Nat) (s0_0 : List Int) (s0_1 : Int) (A1_0 : Option Addr) (c1_0 : Nat) (l1_0 : List (S78)) (a2 : Int) (a3 : Bool) (r1 : List (S52)) (r2 : Int) (w0 w : World) (hI : je w0 w g s0_0 s0_1) (hB : Below w0.heap.size w0 w) (hr1_0 : ∀ W_, jb w W_ g none → Kd.C k78 W_ A1_0 l1_0.length l1_0) (hc1_0 : l1_0.length ≤ c1_0) (h : jw.f k_ s0_0 s0_1 l1_0 a2 a3 = some (r1, r2)), Calls Try.prog 106 #[.pointer (some ⟨g, 0, none⟩), .agg #[.slice A1_0 l1_0.length c1_0], .int .i64 a2, .bool a3] w fun e w' => ∃ v0_ : Value, e = .returned (v0_) ∧ Kd.R k52 52 w' w.heap.size (fun _ => True) v0_ r1 ∧ je w0 w' g s0_0 r2 ∧ Below w0.heap.size w0 w' ∧ jb w w' g none) (ih100 : ∀ k_, k_ < k → ∀ (g : Nat) (s0_0 : List Int) (s0_1 : Int) (A1_0 : Option Addr) (c1_0 : Nat) (l1_0 : List (S78)) (a2 : Int) (a3 : Bool) (r1 : List (S52)) (r2 : Int) (w0 w : World) (hI : je w0 w g s0_0 s0_1) (hB : Below w0.heap.size w0 w) (hr1_0 : ∀ W_, jb w W_ g none → Kd.C k78 W_ A1_0 l1_0.length l1_0) (hc1_0 : l1_0.length ≤ c1_0) (h : jI.f k_ s0_0 s0_1 l1_0 a2 a3 = some (r1, r2)), Calls Try.prog 100 #[.pointer (some ⟨g, 0, none⟩), .agg #[.slice A1_0 l1_0.length c1_0], .int .i64 a2, .bool a3] w fun e w' => ∃ v0_ : Value, e = .returned (v0_) ∧ Kd.R k52 52 w' w.heap.size (fun _ => True) v0_ r1 ∧ je w0 w' g s0_0 r2 ∧ Below w0.heap.size w0 w' ∧ jb w w' g none) (ih99 : ∀ k_, k_ < k → ∀ (g : Nat) (s0_0 : List Int) (s0_1 : Int) (A1_0 : Option Addr) (c1_0 : Nat) (l1_0 : List (S78)) (a2 : Int) (a3 : Bool) (r1 : List (S52)) (r2 : Int) (w0 w : World) (hI : je w0 w g s0_0 s0_1) (hB : Below w0.heap.size w0 w) (hr1_0 : ∀ W_, jb w W_ g none → Kd.C k78 W_ A1_0 l1_0.length l1_0) (hc1_0 : l1_0.length ≤ c1_0) (h : jU.f k_ s0_0 s0_1 l1_0 a2 a3 = some (r1, r2)), Calls Try.prog 99 #[.pointer (some ⟨g, 0, none⟩), .agg #[.slice A1_0 l1_0.length c1_0], .int .i64 a2, .bool a3] w fun e w' => ∃ v0_ : Value, e = .returned (v0_) ∧ Kd.R k52 52 w' w.heap.size (fun _ => True) v0_ r1 ∧ je w0 w' g s0_0 r2 ∧ Below w0.heap.size w0 w' ∧ jb w w' g none) : ∀ (g : Nat) (s0_0 : List Int) (s0_1 : Int) (A1_0 : Option Addr) (c1_0 : Nat) (l1_0 : List (S78)) (a2 : Int) (a3 : Bool) (r1 : List (S52)) (r2 : Int) (w0 w : World) (hI : je w0 w g s0_0 s0_1) (hB : Below w0.heap.size w0 w) (hr1_0 : ∀ W_, jb w W_ g none → Kd.C k78 W_ A1_0 l1_0.length l1_0) (hc1_0 : l1_0.length ≤ c1_0) (h : jI.f k s0_0 s0_1 l1_0 a2 a3 = some (r1, r2)),
  Calls Try.prog 100 #[.pointer (some ⟨g,0,none⟩), .agg #[.slice A1_0 l1_0.length c1_0], .int .i64 a2, .bool a3] w fun e w'=>∃ v0_:Value,e=.returned (v0_)∧Kd.R k52 52 w' w.heap.size (fun _=>True) v0_ r1∧je w0 w' g s0_0 r2∧Below w0.heap.size w0 w'∧jb w w' g none:=by
 intro g s0_0 s0_1 A1_0 c1_0 l1_0 a2 a3 r1 r2 w0 w hI hB hr1_0 hc1_0 h
 cases k with
 | zero=>exact absurd h (by simp [jI.f])
 | succ k =>
 simp only [jI.f] at h
 have hu32:=Try.underlying32
 have HR1_0:=am hr1_0
 have HC1_0:=am hc1_0
 clear hr1_0 hc1_0
 have HI0:=am hI
 have HK:=am (jb.refl w g none)
 have HL:=am hB.size
 clear hI
 have HW0:=am hB.size
 have HB:=am hB
 clear hB
 have H:((jh.f k s0_0 s0_1 (([1,2,1,2,3]:List Int))).bind fun bt726=>(jI.l0 k a2 a3 (([]:List (S52))) bt726.1 s0_0 bt726.2 l1_0))=some (r1,r2):=h
 clear h
 obtain ⟨y720,hy720⟩:∃ y_:List (S52),y_=(([]:List (S52))):=⟨_,rfl⟩
 replace H:((jh.f k s0_0 s0_1 (([1,2,1,2,3]:List Int))).bind fun bt726=>(jI.l0 k a2 a3 y720 bt726.1 s0_0 bt726.2 l1_0))=some (r1,r2):=by first |(rw [hy720];with_reducible exact H) |(have H2_:=(Option.bind_some _ _).symm.trans H;rw [hy720];with_reducible exact H2_) |(have H2_:=(Option.bind_some _ _).symm.trans H;with_reducible exact H2_) | with_reducible exact H |(rw [hy720];exact H) | exact H
 have Ny720:=am hy720
 clear hy720
 obtain ⟨y723,hy723⟩:∃ y_:List Int,y_=(([1,2,1,2,3]:List Int)):=⟨_,rfl⟩
 replace H:((jh.f k s0_0 s0_1 y723).bind fun bt726=>(jI.l0 k a2 a3 y720 bt726.1 s0_0 bt726.2 l1_0))=some (r1,r2):=by first |(rw [hy723];with_reducible exact H) |(have H2_:=(Option.bind_some _ _).symm.trans H;rw [hy723];with_reducible exact H2_) |(have H2_:=(Option.bind_some _ _).symm.trans H;with_reducible exact H2_) | with_reducible exact H |(rw [hy723];exact H) | exact H
 have Ny723:=am hy723
 clear hy723
 replace H:=bzS H
 obtain ⟨⟨t726,t727⟩,A50,H⟩:=H
 replace H:(jI.l0 k a2 a3 y720 t726 s0_0 t727 l1_0)=some (r1,r2):=H
 have A5:=am A50
 clear A50
 have H':=am H
 clear H
 go_enter Try.func100,Try.ntmps100
 go_wp2_with (first |((with_reducible refine jP (N:=5) rfl ?_);refine bE (N:=5) (cs:=#[.slice A1_0 l1_0.length c1_0]) (t:=32) ?_;intro gb719 hg w6 hbox hb;have BK719:=am (hbox);have GW719:=am ((Y12:w.heap.size≤gb719));have GE719:=am ((Nat.le_trans HW0.out (Y12:w.heap.size≤gb719):w0.heap.size≤gb719));have NB0_719:=am ((Y28:g≠gb719));have NB719_0:=am ((Y29:gb719≠g));replace HK:=am (jb.trans (Y16) (jb.of_below hb g none) (.inl rfl));replace HB:=am (ji (Y17) hb);replace HI0:=am (je.below (Y15) hb);clear hb hbox hg) |((with_reducible refine jP (N:=11) rfl ?_);refine Kd.jYb k52 _ 52 ?hg (N:=11) ?hd (xs:=([]:List (S52))) (inner:=[]) (ok:=fun _=>True) (okp:=fun _=>True) ?hr ?hp (fun _ hk=>hk) trivial (Below.refl _ _) (Nat.le_refl _) (by simp) ?_;(case hd=>rfl);(case hg=>rfl);(case hr=>exact Y8);(case hp=>exact (Reps.none _ _));intro v721 w7 ho8 hb hg_ hnew_;clear hg_ hnew_;(first | rw [← Ny720.out] at ho8 |(simp only [Int.reduceToNat] at ho8;rw [← Ny720.out] at ho8));have HO722:=am (Kd.jfa ho8 (jL (w:=w) (g:=g) (row:=none) (Y32)));replace BK719:=am (jr (g:=gb719) (o:=.cells #[.slice A1_0 l1_0.length c1_0] 32 (0,0)) (kq BK719.out) hb);replace HK:=am (jb.trans (Y32) (jb.of_below hb g none) (.inl rfl));replace HB:=am (ji (Y52) hb);replace HI0:=am (je.below (Y41) hb);clear hb ho8) |((with_reducible refine jP (N:=13) rfl ?_);refine Kd.jYb (Kd.int .i64) _ 3 ?hg (N:=13) ?hd (xs:=([1,2,1,2,3]:List Int)) (inner:=[.int .i64 1, .int .i64 2, .int .i64 1, .int .i64 2, .int .i64 3]) (ok:=fun _=>True) (okp:=fun _=>True) ?hr ?hp (fun _ hk=>hk) trivial (Below.refl _ _) (Nat.le_refl _) (by simp) ?_;(case hd=>rfl);(case hg=>rfl);(case hr=>exact Y8);(case hp=>exact (Reps.one (show Kd.M (Kd.int .i64) _ _ _ 1 [.int .i64 1] from rfl) (Reps.one (show Kd.M (Kd.int .i64) _ _ _ 2 [.int .i64 2] from rfl) (Reps.one (show Kd.M (Kd.int .i64) _ _ _ 1 [.int .i64 1] from rfl) (Reps.one (show Kd.M (Kd.int .i64) _ _ _ 2 [.int .i64 2] from rfl) (Reps.one (show Kd.M (Kd.int .i64) _ _ _ 3 [.int .i64 3] from rfl) (Reps.none _ _)))))));intro v724 w9 ho10 hb hg_ hnew_;clear hg_ hnew_;(first | rw [← Ny723.out] at ho10 |(simp only [Int.reduceToNat] at ho10;rw [← Ny723.out] at ho10));have HO725:=am (Kd.jfa ho10 (jL (w:=w) (g:=g) (row:=none) (Y32)));replace HO722:=am (Kd.jqa (rq HO722.out) hb);replace BK719:=am (jr (g:=gb719) (o:=.cells #[.slice A1_0 l1_0.length c1_0] 32 (0,0)) (kq BK719.out) hb);replace HK:=am (jb.trans (Y32) (jb.of_below hb g none) (.inl rfl));replace HB:=am (ji (Y52) hb);replace HI0:=am (je.below (Y41) hb);clear hb ho10;obtain ⟨Ao11,co11,eo11⟩:=Kd.jta HO725.out;subst eo11) |((with_reducible refine jd (f:=77) rfl ?_);refine gL (some 14) Try.func77 #[.pointer (some ⟨g,0,none⟩), .slice Ao11 y723.length co11] ?_;(with_reducible refine (jh.calls k g s0_0 s0_1 _ _ y723 t726 t727 w0 _ ?side1 ?side2 ?side3 ?side4 ?side5 A5.out).mono ?_);(case side1=>exact Y41);(case side2=>exact Y52);(case side3=>exact cq (Kd.jC HO725.out).2.2);(case side4=>exact (Kd.jC HO725.out).2.1);(case side5=>exact jxb (je.own_ne HI0.out HO725.out (by decide)));rintro e w12 ⟨rfl,hi,hb,hk⟩;refine ⟨_,rfl,?_⟩;replace BK719:=am (jb.blk hk (g':=gb719) (o:=.cells #[.slice A1_0 l1_0.length c1_0] 32 (0,0)) (kq BK719.out) NB719_0.out (by simp));replace HO722:=am (Kd.jG (Kd.jBa (je.apart (show je w0 _ g s0_0 s0_1 from Y41) (rq HO722.out) (by decide)) hk (fun _ h=>h.2)) (fun _ h=>h.1));replace HO725:=am (Kd.jG (Kd.jBa (je.apart (show je w0 _ g s0_0 s0_1 from Y41) (rq HO725.out) (by decide)) hk (fun _ h=>h.2)) (fun _ h=>h.1));replace HK:=am (jb.trans (Y32) hk (.inl rfl));replace HB:=am (hb);replace HI0:=am (hi);(try clear hb);(try clear hb2);(try clear hk);(try clear hi)))
 go_loopg [9,10] k (fun kq v9 v10 w'=>∃ (x9_1:List (S52)) (x10_1:Int) (x1001_1:Int),v10=.int .i64 x10_1∧jl (jI.l0 kq a2 a3 x9_1 x10_1 s0_0 x1001_1 l1_0=some (r1,r2))∧jl (kq≤k)∧jl (Kd.R k52 52 w' w.heap.size (fun _=>True) v9 x9_1)∧jl (w'.heap[gb719]?=some (.cells #[(.slice A1_0 l1_0.length c1_0)] 32 (0,0)))∧jl (je w0 w' g s0_0 x1001_1)∧jl (jb w w' g none)∧jl (Below w0.heap.size w0 w'))
 case atStart=>exact ⟨(y720),(t726),(t727),(sq),H',⟨Nat.le_refl _⟩,⟨rq HO722.out⟩,⟨kq BK719.out⟩,⟨Y41⟩,⟨Y32⟩,⟨Y52⟩⟩
 case round =>
  clear H'
  try clear c1
  try clear p2
  try clear c7
  try clear c10
  obtain ⟨x9_1,x10_1,x1001_1,rfl,HA,HK1,HO_9,BK719,HI0,HK,HB⟩:=hrel
  cases gk with
  | zero=>exact absurd HA.out (by simp [jI.l0])
  | succ k1 =>
   have H:=HA.out
   clear HA
   simp only [jI.l0] at H
   by_cases c13:x10_1 > 0
   ·rw [if_pos c13] at H
    have c13b0:decide (0<x10_1)=true:=dzT c13
    clear c13
    replace H:=bzS H
    obtain ⟨⟨t728,t731⟩,A140,H⟩:=H
    replace H:(if x9_1.length+t728.length<4398046511104 then (jI.l0 k1 a2 a3 (x9_1 ++ t728) (wrap64 (x10_1 - 1)) s0_0 t731 l1_0) else (none))=some (r1,r2):=H
    have A14:=am A140
    clear A140
    by_cases c15:x9_1.length+t728.length<4398046511104
    ·rw [if_pos c15] at H
     have LMc15:=am c15
     clear c15
     obtain ⟨y732,hy732⟩:∃ y_:List (S52),y_=(x9_1 ++ t728):=⟨_,rfl⟩
     replace H:(jI.l0 k1 a2 a3 y732 (wrap64 (x10_1 - 1)) s0_0 t731 l1_0)=some (r1,r2):=by first |(rw [hy732];with_reducible exact H) |(have H2_:=(Option.bind_some _ _).symm.trans H;rw [hy732];with_reducible exact H2_) |(have H2_:=(Option.bind_some _ _).symm.trans H;with_reducible exact H2_) | with_reducible exact H |(rw [hy732];exact H) | exact H
     have Ny732:=am hy732
     clear hy732
     have H':=am H
     clear H
     have hnb16:=NB719_0.out
     have hnc16:=NB0_719.out
     have hcz17_0:=bc0 BK719.out
     have hfz17_0:=ja BK719.out 0
     go_wp2_with (first |((with_reducible refine jd (f:=106) rfl ?_);refine gL (some 24) Try.func106 #[.pointer (some ⟨g,0,none⟩), .agg #[.slice A1_0 l1_0.length c1_0], .int .i64 a2, .bool a3] ?_;(with_reducible refine (ih106 k1 (by have:=HK1.out;omega) g s0_0 x1001_1 _ _ l1_0 a2 a3 t728 t731 w0 _ ?side1 ?side2 ?side3 ?side4 A14.out).mono ?_);(case side1=>exact Y41);(case side2=>exact Y52);(case side3=>exact Kd.jmb HR1_0.out (Y32));(case side4=>exact HC1_0.out);rintro e w18 ⟨v729,rfl,ho0,hi,hb,hk⟩;refine ⟨_,rfl,?_⟩;have HO730:=am (Kd.jfa (Kd.jzb ho0 (Kd.R_lt (rq HO_9.out))) (jL (w:=w) (g:=g) (row:=none) (Y32)));replace HO_9:=am (Kd.jG (Kd.R_told (Kd.R_oldK (je.apart (show je w0 _ g s0_0 x1001_1 from Y41) (rq HO_9.out) (by decide)) hk) (Kd.jAb ho0)) (fun _ h_=>h_.1));replace BK719:=am (jb.blk hk (g':=gb719) (o:=.cells #[.slice A1_0 l1_0.length c1_0] 32 (0,0)) (kq BK719.out) NB719_0.out (by simp));replace HK:=am (jb.trans (Y32) hk (.inl rfl));replace HB:=am (hb);replace HI0:=am (hi);(try clear hb);(try clear hb2);(try clear hk);(try clear hi);(try clear ho0);obtain ⟨Ao20,co20,eo20⟩:=Kd.jta HO730.out;subst eo20) |((with_reducible refine jEa (b:=.append) (xs:=#[.tmp 19, .tmp 24]) rfl ?_);at_builtin;refine Kd.jKb k52 w.heap.size rfl (.tmp 19) (.tmp 24) 28 52 (.agg #[(.int .i64 0),(.int .i64 0),(.int .i64 0),(.int .i64 0)]) 32 rfl Try.underlying28 jac rfl (by decide) (by omega) u9 x9_1 t728 _ _ _ (fun k_=>some k_≠(.slice Ao20 t728.length co20:Value).ownBlock) (fun _=>False) rfl rfl ?aO ?aR (fun _ _ h=>h) (fun _ h=>h.elim) ?aF (Below.refl _ _) ?aS ?aL ?_;(case aR=>repeat (first | exact (Kd.jC HO730.out).2.2 |(with_reducible refine Kd.jqc ?_ _) |(with_reducible refine Kd.jlc ?_ _) |(with_reducible refine Kd.C_drew ?_)));(case aF=>exact (fun k_ hk=>Kd.fresh' (Kd.R_lt (rq HO730.out)) k_ hk));(case aO=>exact (by (with_reducible repeat (first | apply Kd.jma | apply Kd.jla | apply Kd.jva));exact Kd.jG HO_9.out (fun _ hk=>hk.2)));(case aS=>exact (jL (w:=w) (g:=g) (row:=none) (Y32)));(case aL=>have:=LMc15.out;omega);intro v733 w19 ho hb hg hat;rw [← Ny732.out] at ho;have n0_:=am (jOa (g:=gb719) (o:=.cells #[.slice A1_0 l1_0.length c1_0] 32 (0,0)) (kq BK719.out) hg (Kd.R_ne HO_9.out BK719.out (by decide)));have n1_:=am (je.grown (Y41) hg (je.own_ne HI0.out HO_9.out (by decide)));have n2_:=am (Kd.jMc (ok:=(fun _=>True)) (rq HO730.out) hg hat);have n3_:=am (jbb (Y52) HL.out hb);have n4_:=am (jb.trans (Y32) (jb.jub hg g) (Kd.jTb HO_9.out));have n5_:=am (ho);clear BK719 HI0 HO730 HB HK HO_9;have BK719:=n0_;have HI0:=n1_;have HO730:=n2_;have HB:=n3_;have HK:=n4_;have HO734:=n5_;clear n0_ n1_ n2_ n3_ n4_ n5_ ho hb hg hat))
     go_roundg k1
     case measure=>have:=HK1.out;omega
     case rel=>exact ⟨(y732),(wrap64 (x10_1 - 1)),(t731),(sq),H',⟨by have:=HK1.out;omega⟩,⟨by (with_reducible repeat (first | apply Kd.jma | apply Kd.jla | apply Kd.jva));exact Kd.jG HO734.out (fun _ hk=>trivial)⟩,⟨kq BK719.out⟩,⟨Y41⟩,⟨Y32⟩,⟨Y52⟩⟩
    ·rw [if_neg c15] at H
     exact absurd H (by simp)
   ·rw [if_neg c13] at H
    have c13b0:decide (0<x10_1)=false:=dzF c13
    clear c13
    simp only [Option.some.injEq,Prod.mk.injEq] at H
    obtain ⟨rfl,rfl⟩:=H
    go_wp2
    go_ret
    exact ⟨_,Y0,rq HO_9.out,Y41,Y52,Y32⟩
end Go.Proofs.Ytkhiiiddbmgiaaa.P
end
