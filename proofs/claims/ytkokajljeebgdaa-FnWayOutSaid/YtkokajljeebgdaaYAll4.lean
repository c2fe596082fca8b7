/- One part of the proofs on this program: functions of the program as plain functions, that the code comes to them, and facts on them. -/
import Derived.Test.YtkokajljeebgdaaYAll1
import Derived.Test.YtkokajljeebgdaaYAll2
import Derived.Test.YtkokajljeebgdaaYAll3
import Derived.Test.YtkokajljeebgdaaYWAuto
section
namespace Go.Proofs.Ytkokajljeebgdaa.P
open Go.RowKit Go.Proofs.YtkokajljeebgdaaW.PrintWords Go.Proofs.YtkokajljeebgdaaW.PrintLast Go.Proofs.YtkokajljeebgdaaW.PrintMore
attribute [local go_sem] jqa joa jBa jAa jfa jea jpa jna jk
set_option linter.unusedVariables false
set_option linter.unusedSimpArgs false
def jA.T26 : Bool × List (List Nat × List Nat) := (true, [([], []), ([0], [0]), ([], []), ([], []), ([], []), ([4], [4]), ([], []), ([2, 3, 5, 6], [2, 3, 5, 6]), ([1, 7, 7], [1, 7]), ([8, 8, 0, 1, 2, 3, 4, 5, 6, 7, 8], [8])])
def jA.B26 : List Nat := [0, 1, 0, 0, 0, 16, 0, 124, 255, 511]
theorem jA.tab26 : rtab .any (opsOf Try.f119 26) = jA.T26 := by kernel_rfl
theorem jA.bits26 : jrc jA.T26.2 jA.B26 = true := by kernel_rfl
def jA.T30 : Bool × List (List Nat × List Nat) := (true, [([], []), ([0], [0]), ([], []), ([], []), ([], []), ([4], [4]), ([2, 3, 5], [2, 3, 5]), ([1, 6, 6], [1, 6]), ([7, 7, 0, 1, 2, 3, 4, 5, 6, 7], [7])])
def jA.B30 : List Nat := [0, 1, 0, 0, 0, 16, 60, 127, 255]
theorem jA.tab30 : rtab .any (opsOf Try.f119 30) = jA.T30 := by kernel_rfl
theorem jA.bits30 : jrc jA.T30.2 jA.B30 = true := by kernel_rfl
set_option maxHeartbeats 8000000 in
set_option maxRecDepth 100000 in
theorem jA.calls_of (k : Nat) (ih119 : ∀ k_, k_ < k → ∀ (g : Nat) (s0_0 : List Int) (s0_1 : Int) (A1_0 : Option Addr) (c1_0 : Nat) (l1_0 : List (S87)) (a2 : Int) (a3 : Bool) (r1 : List (S52)) (r2 : Int) (w0 w : World) (hI : jf w0 w g s0_0 s0_1) (hB : Below w0.heap.size w0 w) (hr1_0 : ∀ W_, jb w W_ g none → Kd.C k87 W_ A1_0 l1_0.length l1_0) (hc1_0 : l1_0.length ≤ c1_0) (h : jA.f k_ s0_0 s0_1 l1_0 a2 a3 = some (r1, r2)), Calls Try.prog 119 #[.pointer (some ⟨g, 0, none⟩), .agg #[.slice A1_0 l1_0.length c1_0], .int .i64 a2, .bool a3] w fun e w' => ∃ v0_ : Value, e = .returned (v0_) ∧ Kd.R k52 52 w' w.heap.size (fun _ => True) v0_ r1 ∧ jf w0 w' g s0_0 r2 ∧ Below w0.heap.size w0 w' ∧ jb w w' g none) (ih118 : ∀ k_, k_ < k → ∀ (g : Nat) (s0_0 : List Int) (s0_1 : Int) (A1_0 : Option Addr) (c1_0 : Nat) (l1_0 : List (S87)) (a2 : Int) (a3 : Bool) (r1 : List (S52)) (r2 : Int) (w0 w : World) (hI : jf w0 w g s0_0 s0_1) (hB : Below w0.heap.size w0 w) (hr1_0 : ∀ W_, jb w W_ g none → Kd.C k87 W_ A1_0 l1_0.length l1_0) (hc1_0 : l1_0.length ≤ c1_0) (h : jI.f k_ s0_0 s0_1 l1_0 a2 a3 = some (r1, r2)), Calls Try.prog 118 #[.pointer (some ⟨g, 0, none⟩), .agg #[.slice A1_0 l1_0.length c1_0], .int .i64 a2, .bool a3] w fun e w' => ∃ v0_ : Value, e = .returned (v0_) ∧ Kd.R k52 52 w' w.heap.size (fun _ => True) v0_ r1 ∧ jf w0 w' g s0_0 r2 ∧ Below w0.heap.size w0 w' ∧ jb w w' g none) (ih117 : ∀ k_, k_ < k → ∀ (g : Nat) (s0_0 : List Int) (s0_1 : Int) (A1_0 : Option Addr) (c1_0 : Nat) (l1_0 : List (S87)) (a2 : Int) (a3 : Bool) (r1 : List (S52)) (r2 : Int) (w0 w : World) (hI : jf w0 w g s0_0 s0_1) (hB : Below w0.heap.size w0 w) (hr1_0 : ∀ W_, jb w W_ g none → Kd.C k87 W_ A1_0 l1_0.length l1_0) (hc1_0 : l1_0.length ≤ c1_0) (h : jW.f k_ s0_0 s0_1 l1_0 a2 a3 = some (r1, r2)), Calls Try.prog 117 #[.pointer (some ⟨g, 0, none⟩), .agg #[.slice A1_0 l1_0.length c1_0], .int .i64 a2, .bool a3] w fun e w' => ∃ v0_ : Value, e = .returned (v0_) ∧ Kd.R k52 52 w' w.heap.size (fun _ => True) v0_ r1 ∧ jf w0 w' g s0_0 r2 ∧ Below w0.heap.size w0 w' ∧ jb w w' g none) : ∀ (g : Nat) (s0_0 : List Int) (s0_1 : Int) (A1_0 : Option Addr) (c1_0 : Nat) (l1_0 : List (S87)) (a2 : Int) (a3 : Bool) (r1 : List (S52)) (r2 : Int) (w0 w : World) (hI : jf w0 w g s0_0 s0_1) (hB : Below w0.heap.size w0 w) (hr1_0 : ∀ W_, jb w W_ g none → Kd.C k87 W_ A1_0 l1_0.length l1_0) (hc1_0 : l1_0.length ≤ c1_0) (h : jA.f k s0_0 s0_1 l1_0 a2 a3 = some (r1, r2)),
  Calls Try.prog 119 #[.pointer (some ⟨g,0,none⟩), .agg #[.slice A1_0 l1_0.length c1_0], .int .i64 a2, .bool a3] w fun e w'=>∃ v0_:Value,e=.returned (v0_)∧Kd.R k52 52 w' w.heap.size (fun _=>True) v0_ r1∧jf w0 w' g s0_0 r2∧Below w0.heap.size w0 w'∧jb w w' g none:=by
 intro g s0_0 s0_1 A1_0 c1_0 l1_0 a2 a3 r1 r2 w0 w hI hB hr1_0 hc1_0 h
 cases k with
 | zero=>exact absurd h (by simp [jA.f])
 | succ k =>
 simp only [jA.f] at h
 have hu32:=Try.underlying32
 have hu52:=Try.underlying52
 have HR1_0:=am hr1_0
 have HC1_0:=am hc1_0
 clear hr1_0 hc1_0
 have HI0:=am hI
 have HK:=am (jb.refl w g none)
 have HL:=am hB.size
 clear hI
 have HW0:=am hB.size
 have HB:=am hB
 clear hB
 have H:((jg.f k s0_0 s0_1 16).bind fun bt220=>(if a2≥3 then ((jg.f k s0_0 bt220.2 9).bind fun bt222=>(jA.j0 k a2 a3 bt222.1 s0_0 bt222.2 l1_0)) else (jA.j0 k a2 a3 bt220.1 s0_0 bt220.2 l1_0)))=some (r1,r2):=h
 clear h
 replace H:=bzS H
 obtain ⟨⟨t220,t221⟩,A50,H⟩:=H
 replace H:(if a2≥3 then ((jg.f k s0_0 t221 9).bind fun bt222=>(jA.j0 k a2 a3 bt222.1 s0_0 bt222.2 l1_0)) else (jA.j0 k a2 a3 t220 s0_0 t221 l1_0))=some (r1,r2):=H
 have A5:=am A50
 clear A50
 have HC6:=am H
 clear H
 go_enter Try.func119,Try.ntmps119
 go_upto_if 14 with (first |((with_reducible refine jM (N:=5) rfl ?_);refine bE (N:=5) (cs:=#[.slice A1_0 l1_0.length c1_0]) (t:=32) ?_;intro gb219 hg w7 hbox hb;have BK219:=am (hbox);have GW219:=am ((Y12:w.heap.size≤gb219));have GE219:=am ((Nat.le_trans HW0.out (Y12:w.heap.size≤gb219):w0.heap.size≤gb219));have NB0_219:=am ((Y27:g≠gb219));have NB219_0:=am ((Y28:gb219≠g));replace HK:=am (jb.trans (Y17) (jb.of_below hb g none) (.inl rfl));replace HB:=am (je (Y18) hb);replace HI0:=am (jf.below (Y16) hb);clear hb hbox hg) |((with_reducible refine jd (f:=71) rfl ?_);refine gL (some 12) Try.func71 #[.pointer (some ⟨g,0,none⟩), .int .i64 16] ?_;(with_reducible refine (jg.calls k g s0_0 s0_1 16 t220 t221 w0 _ ?side1 ?side2 A5.out).mono ?_);(case side1=>exact Y49);(case side2=>exact Y50);rintro e w8 ⟨rfl,hi,hb,hk⟩;refine ⟨_,rfl,?_⟩;replace BK219:=am (jb.blk hk (g':=gb219) (o:=.cells #[.slice A1_0 l1_0.length c1_0] 32 (0,0)) (kq BK219.out) NB219_0.out (by simp));replace HK:=am (jb.trans (Y51) hk (.inl rfl));replace HB:=am (hb);replace HI0:=am (hi);(try clear hb);(try clear hb2);(try clear hk);(try clear hi)))
 (try simp only [Act.put,List.setIfInBounds_toArray,List.set_cons_zero,List.set_cons_succ])
 go_cut [9] (fun v9 wc=>∃ (kq:Nat) (x9_5:Int) (x1001_5:Int),v9=.int .i64 x9_5∧jq (jA.j0 kq a2 a3 x9_5 s0_0 x1001_5 l1_0=some (r1,r2))∧jq (kq≤k)∧jq (wc.heap[gb219]?=some (.cells #[(.slice A1_0 l1_0.length c1_0)] 32 (0,0)))∧jq (jf w0 wc g s0_0 x1001_5)∧jq (jb w wc g none)∧jq (Below w0.heap.size w0 wc))
 case first =>
  have H:=HC6.out
  clear HC6
  by_cases c9:a2≥3
  ·rw [if_pos c9] at H
   have c9b0:decide (3≤a2)=true:=dzT c9
   clear c9
   (first | rw [c9b0] |(simp only [jhb,jpb];rw [c9b0]) | skip)
   replace H:=bzS H
   obtain ⟨⟨t222,t223⟩,A100,H⟩:=H
   replace H:(jA.j0 k a2 a3 t222 s0_0 t223 l1_0)=some (r1,r2):=H
   have A10:=am A100
   clear A100
   have H':=am H
   clear H
   go_wp2_with (first |((with_reducible refine jd (f:=71) rfl ?_);refine gL (some 16) Try.func71 #[.pointer (some ⟨g,0,none⟩), .int .i64 9] ?_;(with_reducible refine (jg.calls k g s0_0 t221 9 t222 t223 w0 _ ?side1 ?side2 A10.out).mono ?_);(case side1=>exact Y49);(case side2=>exact Y50);rintro e w11 ⟨rfl,hi,hb,hk⟩;refine ⟨_,rfl,?_⟩;replace BK219:=am (jb.blk hk (g':=gb219) (o:=.cells #[.slice A1_0 l1_0.length c1_0] 32 (0,0)) (kq BK219.out) NB219_0.out (by simp));replace HK:=am (jb.trans (Y51) hk (.inl rfl));replace HB:=am (hb);replace HI0:=am (hi);(try clear hb);(try clear hb2);(try clear hk);(try clear hi)))
   go_meet
   case rel=>exact ⟨_,(t222),(t223),(sq),H',⟨Y35⟩,⟨kq BK219.out⟩,⟨Y49⟩,⟨Y51⟩,⟨Y50⟩⟩
  ·rw [if_neg c9] at H
   have c9b0:decide (3≤a2)=false:=dzF c9
   clear c9
   (first | rw [c9b0] |(simp only [jhb,jpb];rw [c9b0]) | skip)
   have H':=am H
   clear H
   go_wp2
   go_meet
   case rel=>exact ⟨_,(t220),(t221),(sq),H',⟨Y35⟩,⟨kq BK219.out⟩,⟨Y49⟩,⟨Y51⟩,⟨Y50⟩⟩
 case rest =>
  clear HC6
  try clear c1
  try clear p2
  try clear c7
  try clear c9
  try clear c9b0
  try clear c11
  obtain ⟨kq,x9_5,x1001_5,rfl,HA,HJ5,BK219,HI0,HK,HB⟩:=hcut
  cases kq with
  | zero=>exact absurd HA.out (by simp [jA.j0])
  | succ kj5 =>
   have H:=HA.out
   clear HA
   simp only [jA.j0] at H
   by_cases c12:x9_5<4
   ·rw [if_pos c12] at H
    have c12b0:decide (x9_5<4)=true:=dzT c12
    clear c12
    obtain ⟨y225,hy225⟩:∃ y_:List Int,y_=(([1,2,3,4,5]:List Int)):=⟨_,rfl⟩
    replace H:((ji.f kj5 s0_0 x1001_5 y225).bind fun bt228=>(some ((([(⟨a2,1,bt228.1,0⟩:S52)]:List (S52))),bt228.2)))=some (r1,r2):=by first |(rw [hy225];with_reducible exact H) |(have H2_:=(Option.bind_some _ _).symm.trans H;rw [hy225];with_reducible exact H2_) |(have H2_:=(Option.bind_some _ _).symm.trans H;with_reducible exact H2_) | with_reducible exact H |(rw [hy225];exact H) | exact H
    have Ny225:=am hy225
    clear hy225
    replace H:=bzS H
    obtain ⟨⟨t228,t229⟩,A130,H⟩:=H
    replace H:(some ((([(⟨a2,1,t228,0⟩:S52)]:List (S52))),t229))=some (r1,r2):=H
    have A13:=am A130
    clear A130
    obtain ⟨y230,hy230⟩:∃ y_:List (S52),y_=(([(⟨a2,1,t228,0⟩:S52)]:List (S52))):=⟨_,rfl⟩
    replace H:(some (y230,t229))=some (r1,r2):=by first |(rw [hy230];with_reducible exact H) |(have H2_:=(Option.bind_some _ _).symm.trans H;rw [hy230];with_reducible exact H2_) |(have H2_:=(Option.bind_some _ _).symm.trans H;with_reducible exact H2_) | with_reducible exact H |(rw [hy230];exact H) | exact H
    have Ny230:=am hy230
    clear hy230
    simp only [Option.some.injEq,Prod.mk.injEq] at H
    obtain ⟨rfl,rfl⟩:=H
    go_wp2_with (first |((with_reducible refine jM (N:=10) rfl ?_);refine bE (N:=10) (cs:=#[.int .i64 0, .int .i64 0, .int .i64 0, .int .i64 0]) (t:=52) ?_;intro gb224 hg w14 hbox hb;have BK224:=am (hbox);have GW224:=am ((Y52:w.heap.size≤gb224));have GE224:=am ((Nat.le_trans HW0.out (Y52:w.heap.size≤gb224):w0.heap.size≤gb224));have NB219_224:=am ((Y82:gb219≠gb224));have NB224_219:=am ((Y83:gb224≠gb219));have NB0_224:=am ((Y84:g≠gb224));have NB224_0:=am ((Y85:gb224≠g));replace BK219:=am (jm (g:=gb219) (o:=.cells #[.slice A1_0 l1_0.length c1_0] 32 (0,0)) (kq BK219.out) hb);replace HK:=am (jb.trans (Y51) (jb.of_below hb g none) (.inl rfl));replace HB:=am (je (Y50) hb);replace HI0:=am (jf.below (Y49) hb);clear hb hbox hg;have hnb15:=NB224_219.out;have hnc15:=NB219_224.out;have hnb16:=NB224_0.out;have hnc16:=NB0_224.out;have hcz17_0:=bc0 BK224.out;have hcz17_1:=bc1 BK224.out;have hcz17_2:=bc2 BK224.out;have hcz17_3:=bc3 BK224.out;have hfz17_0:=ja BK224.out 0;have hfz17_1:=ja BK224.out 1;have hfz17_2:=ja BK224.out 2;have hfz17_3:=ja BK224.out 3) |((with_reducible refine jM (N:=29) rfl ?_);refine Kd.jbc (Kd.int .i64) _ 3 ?hg (N:=29) ?hd (xs:=([1,2,3,4,5]:List Int)) (inner:=[.int .i64 1, .int .i64 2, .int .i64 3, .int .i64 4, .int .i64 5]) (ok:=fun _=>True) (okp:=fun _=>True) ?hr ?hp (fun _ hk=>hk) trivial (Below.refl _ _) (Nat.le_refl _) (by simp) ?_;(case hd=>rfl);(case hg=>rfl);(case hr=>exact Y7);(case hp=>exact (Reps.one (show Kd.M (Kd.int .i64) _ _ _ 1 [.int .i64 1] from rfl) (Reps.one (show Kd.M (Kd.int .i64) _ _ _ 2 [.int .i64 2] from rfl) (Reps.one (show Kd.M (Kd.int .i64) _ _ _ 3 [.int .i64 3] from rfl) (Reps.one (show Kd.M (Kd.int .i64) _ _ _ 4 [.int .i64 4] from rfl) (Reps.one (show Kd.M (Kd.int .i64) _ _ _ 5 [.int .i64 5] from rfl) (Reps.none _ _)))))));intro v226 w18 ho19 hb hg_ hnew_;clear hg_ hnew_;(first | rw [← Ny225.out] at ho19 |(simp only [Int.reduceToNat] at ho19;rw [← Ny225.out] at ho19));have HO227:=am (Kd.jQ ho19 (jJ (w:=w) (g:=g) (row:=none) (Y1)));replace BK219:=am (jm (g:=gb219) (o:=.cells #[.slice A1_0 l1_0.length c1_0] 32 (0,0)) (Y97) hb);replace BK224:=am (jm (g:=gb224) (o:=.cells #[.int .i64 a2, .int .i64 1, .int .i64 0, .int .i64 0] 52 (0,0)) (Y86) hb);replace HK:=am (jb.trans (Y1) (jb.of_below hb g none) (.inl rfl));replace HB:=am (je (Y8) hb);replace HI0:=am (jf.below (show jf w0 (((((w14.setCell ⟨gb224,0,none⟩ (.int .i64 a2)).setCell ⟨gb224,1,none⟩ (.int .i64 0)).setCell ⟨gb224,2,none⟩ (.int .i64 0)).setCell ⟨gb224,3,none⟩ (.int .i64 0)).setCell ⟨gb224,1,none⟩ (.int .i64 1)) g s0_0 x1001_5 from Y4) hb);clear hb ho19;obtain ⟨Ao20,co20,eo20⟩:=Kd.jU HO227.out;subst eo20) |((with_reducible refine jd (f:=91) rfl ?_);refine gL (some 30) Try.func91 #[.pointer (some ⟨g,0,none⟩), .slice Ao20 y225.length co20] ?_;(with_reducible refine (ji.calls kj5 g s0_0 x1001_5 _ _ y225 t228 t229 w0 _ ?side1 ?side2 ?side3 ?side4 ?side5 A13.out).mono ?_);(case side1=>exact Y4);(case side2=>exact Y8);(case side3=>exact cq (Kd.jh HO227.out).2.2);(case side4=>exact (Kd.jh HO227.out).2.1);(case side5=>exact jzb (jf.own_ne HI0.out HO227.out (by decide)));rintro e w21 ⟨rfl,hi,hb,hk⟩;refine ⟨_,rfl,?_⟩;replace BK219:=am (jb.blk hk (g':=gb219) (o:=.cells #[.slice A1_0 l1_0.length c1_0] 32 (0,0)) (kq BK219.out) NB219_0.out (by simp));replace BK224:=am (jb.blk hk (g':=gb224) (o:=.cells #[.int .i64 a2, .int .i64 1, .int .i64 0, .int .i64 0] 52 (0,0)) (kq BK224.out) NB224_0.out (by simp));replace HO227:=am (Kd.jE (Kd.jxa (jf.apart (show jf w0 _ g s0_0 x1001_5 from Y4) (rq HO227.out) (by decide)) hk (fun _ h=>h.2)) (fun _ h=>h.1));replace HK:=am (jb.trans (Y1) hk (.inl rfl));replace HB:=am (hb);replace HI0:=am (hi);(try clear hb);(try clear hb2);(try clear hk);(try clear hi);have hcz22_0:=bc0 BK224.out;have hcz22_1:=bc1 BK224.out;have hcz22_2:=bc2 BK224.out;have hcz22_3:=bc3 BK224.out;have hfz22_0:=ja BK224.out 0;have hfz22_1:=ja BK224.out 1;have hfz22_2:=ja BK224.out 2;have hfz22_3:=ja BK224.out 3) |((with_reducible refine jM (N:=108) rfl ?_);refine Kd.jbc k52 _ 52 ?hg (N:=108) ?hd (xs:=([(⟨a2,1,t228,0⟩:S52)]:List (S52))) (inner:=[.int .i64 a2, .int .i64 1, .int .i64 t228, .int .i64 0]) (ok:=fun _=>True) (okp:=fun _=>True) ?hr ?hp (fun _ hk=>hk) trivial (Below.refl _ _) (Nat.le_refl _) (by simp) ?_;(case hd=>rfl);(case hg=>rfl);(case hr=>exact Y7);(case hp=>exact (Reps.c4 (show Kd.M k52 _ _ _ (⟨a2,1,t228,0⟩:S52) [.int .i64 a2, .int .i64 1, .int .i64 t228, .int .i64 0] from (jEb _ _ _ (⟨a2,1,t228,0⟩:S52) )) (Reps.none _ _)));intro v231 w23 ho24 hb hg_ hnew_;clear hg_ hnew_;(first | rw [← Ny230.out] at ho24 |(simp only [Int.reduceToNat] at ho24;rw [← Ny230.out] at ho24));have HO232:=am (Kd.jQ (Kd.jvc ho24 (g:=gb224) (o:=.cells #[.int .i64 a2, .int .i64 1, .int .i64 t228, .int .i64 0] 52 (0,0)) (Y106)) (jJ (w:=w) (g:=g) (row:=none) (Y1)));replace HO227:=am (Kd.jT (by (with_reducible repeat (first | apply Kd.jY | apply Kd.jX | apply Kd.jia));exact (Kd.jE (Kd.jLb (p:=⟨gb224,2,none⟩) (Kd.jPa HO227.out BK224.out (by decide)) (fun _ hk=>hk.2) (.int .i64 t228)) (fun _ h_=>h_.1))) hb);replace BK219:=am (jm (g:=gb219) (o:=.cells #[.slice A1_0 l1_0.length c1_0] 32 (0,0)) (Y43) hb);replace BK224:=am (jm (g:=gb224) (o:=.cells #[.int .i64 a2, .int .i64 1, .int .i64 t228, .int .i64 0] 52 (0,0)) (Y106) hb);replace HK:=am (jb.trans (Y1) (jb.of_below hb g none) (.inl rfl));replace HB:=am (je (Y8) hb);replace HI0:=am (jf.below (show jf w0 (w21.setCell ⟨gb224,2,none⟩ (.int .i64 t228)) g s0_0 t229 from Y4) hb);clear hb ho24))
    go_ret
    exact ⟨_,Y0,by (with_reducible repeat (first | apply Kd.jY | apply Kd.jX | apply Kd.jia));exact Kd.jE HO232.out (fun _ hk=>trivial),Y4,Y8,Y1⟩
   ·rw [if_neg c12] at H
    have c12b0:decide (x9_5<4)=false:=dzF c12
    clear c12
    by_cases c25:x9_5<6
    ·rw [if_pos c25] at H
     have c25b0:decide (x9_5<6)=true:=dzT c25
     clear c25
     replace H:=bzS H
     obtain ⟨⟨t233,t234⟩,A260,H⟩:=H
     replace H:((ji.f kj5 s0_0 t234 (([1,2,3]:List Int))).bind fun bt238=>(some ((([(⟨a2,2,t233,bt238.1⟩:S52)]:List (S52))),bt238.2)))=some (r1,r2):=H
     have A26:=am A260
     clear A260
     obtain ⟨y235,hy235⟩:∃ y_:List Int,y_=(([1,2,3]:List Int)):=⟨_,rfl⟩
     replace H:((ji.f kj5 s0_0 t234 y235).bind fun bt238=>(some ((([(⟨a2,2,t233,bt238.1⟩:S52)]:List (S52))),bt238.2)))=some (r1,r2):=by first |(rw [hy235];with_reducible exact H) |(have H2_:=(Option.bind_some _ _).symm.trans H;rw [hy235];with_reducible exact H2_) |(have H2_:=(Option.bind_some _ _).symm.trans H;with_reducible exact H2_) | with_reducible exact H |(rw [hy235];exact H) | exact H
     have Ny235:=am hy235
     clear hy235
     replace H:=bzS H
     obtain ⟨⟨t238,t239⟩,A270,H⟩:=H
     replace H:(some ((([(⟨a2,2,t233,t238⟩:S52)]:List (S52))),t239))=some (r1,r2):=H
     have A27:=am A270
     clear A270
     obtain ⟨y240,hy240⟩:∃ y_:List (S52),y_=(([(⟨a2,2,t233,t238⟩:S52)]:List (S52))):=⟨_,rfl⟩
     replace H:(some (y240,t239))=some (r1,r2):=by first |(rw [hy240];with_reducible exact H) |(have H2_:=(Option.bind_some _ _).symm.trans H;rw [hy240];with_reducible exact H2_) |(have H2_:=(Option.bind_some _ _).symm.trans H;with_reducible exact H2_) | with_reducible exact H |(rw [hy240];exact H) | exact H
     have Ny240:=am hy240
     clear hy240
     simp only [Option.some.injEq,Prod.mk.injEq] at H
     obtain ⟨rfl,rfl⟩:=H
     go_wp2_with (first |((with_reducible refine jM (N:=10) rfl ?_);refine bE (N:=10) (cs:=#[.int .i64 0, .int .i64 0, .int .i64 0, .int .i64 0]) (t:=52) ?_;intro gb224 hg w28 hbox hb;have BK224:=am (hbox);have GW224:=am ((Y52:w.heap.size≤gb224));have GE224:=am ((Nat.le_trans HW0.out (Y52:w.heap.size≤gb224):w0.heap.size≤gb224));have NB219_224:=am ((Y82:gb219≠gb224));have NB224_219:=am ((Y83:gb224≠gb219));have NB0_224:=am ((Y84:g≠gb224));have NB224_0:=am ((Y85:gb224≠g));replace BK219:=am (jm (g:=gb219) (o:=.cells #[.slice A1_0 l1_0.length c1_0] 32 (0,0)) (kq BK219.out) hb);replace HK:=am (jb.trans (Y51) (jb.of_below hb g none) (.inl rfl));replace HB:=am (je (Y50) hb);replace HI0:=am (jf.below (Y49) hb);clear hb hbox hg;have hnb29:=NB224_219.out;have hnc29:=NB219_224.out;have hnb30:=NB224_0.out;have hnc30:=NB0_224.out;have hcz31_0:=bc0 BK224.out;have hcz31_1:=bc1 BK224.out;have hcz31_2:=bc2 BK224.out;have hcz31_3:=bc3 BK224.out;have hfz31_0:=ja BK224.out 0;have hfz31_1:=ja BK224.out 1;have hfz31_2:=ja BK224.out 2;have hfz31_3:=ja BK224.out 3;have hnb32:=NB219_0.out;have hnc32:=NB0_219.out;have hcz33_0:=bc0 BK219.out;have hfz33_0:=ja BK219.out 0) |((with_reducible refine jd (f:=71) rfl ?_);refine gL (some 40) Try.func71 #[.pointer (some ⟨g,0,none⟩), .int .i64 (l1_0.length:Int)] ?_;(with_reducible refine (jg.calls kj5 g s0_0 x1001_5 (l1_0.length:Int) t233 t234 w0 _ ?side1 ?side2 A26.out).mono ?_);(case side1=>exact Y4);(case side2=>exact Y8);rintro e w34 ⟨rfl,hi,hb,hk⟩;refine ⟨_,rfl,?_⟩;replace BK219:=am (jb.blk hk (g':=gb219) (o:=.cells #[.slice A1_0 l1_0.length c1_0] 32 (0,0)) (Y97) NB219_0.out (by simp));replace BK224:=am (jb.blk hk (g':=gb224) (o:=.cells #[.int .i64 a2, .int .i64 2, .int .i64 0, .int .i64 0] 52 (0,0)) (Y86) NB224_0.out (by simp));replace HK:=am (jb.trans (Y1) hk (.inl rfl));replace HB:=am (hb);replace HI0:=am (hi);(try clear hb);(try clear hb2);(try clear hk);(try clear hi);have hcz35_0:=bc0 BK224.out;have hcz35_1:=bc1 BK224.out;have hcz35_2:=bc2 BK224.out;have hcz35_3:=bc3 BK224.out;have hfz35_0:=ja BK224.out 0;have hfz35_1:=ja BK224.out 1;have hfz35_2:=ja BK224.out 2;have hfz35_3:=ja BK224.out 3) |((with_reducible refine jM (N:=43) rfl ?_);refine Kd.jbc (Kd.int .i64) _ 3 ?hg (N:=43) ?hd (xs:=([1,2,3]:List Int)) (inner:=[.int .i64 1, .int .i64 2, .int .i64 3]) (ok:=fun _=>True) (okp:=fun _=>True) ?hr ?hp (fun _ hk=>hk) trivial (Below.refl _ _) (Nat.le_refl _) (by simp) ?_;(case hd=>rfl);(case hg=>rfl);(case hr=>exact Y7);(case hp=>exact (Reps.one (show Kd.M (Kd.int .i64) _ _ _ 1 [.int .i64 1] from rfl) (Reps.one (show Kd.M (Kd.int .i64) _ _ _ 2 [.int .i64 2] from rfl) (Reps.one (show Kd.M (Kd.int .i64) _ _ _ 3 [.int .i64 3] from rfl) (Reps.none _ _)))));intro v236 w36 ho37 hb hg_ hnew_;clear hg_ hnew_;(first | rw [← Ny235.out] at ho37 |(simp only [Int.reduceToNat] at ho37;rw [← Ny235.out] at ho37));have HO237:=am (Kd.jQ ho37 (jJ (w:=w) (g:=g) (row:=none) (Y1)));replace BK219:=am (jm (g:=gb219) (o:=.cells #[.slice A1_0 l1_0.length c1_0] 32 (0,0)) (Y43) hb);replace BK224:=am (jm (g:=gb224) (o:=.cells #[.int .i64 a2, .int .i64 2, .int .i64 t233, .int .i64 0] 52 (0,0)) (by (with_reducible repeat (first | refine jy ?_ _ | refine jD ?_ | refine jB ?_ _));refine jZa (cs:=#[.int .i64 a2, .int .i64 2, .int .i64 0, .int .i64 0]) ?_ 2 _ rfl;(with_reducible repeat (first | refine jy ?_ _ | refine jD ?_ | refine jB ?_ _));exact BK224.out) hb);replace HK:=am (jb.trans (Y1) (jb.of_below hb g none) (.inl rfl));replace HB:=am (je (Y8) hb);replace HI0:=am (jf.below (show jf w0 (w34.setCell ⟨gb224,2,none⟩ (.int .i64 t233)) g s0_0 t234 from Y4) hb);clear hb ho37;obtain ⟨Ao38,co38,eo38⟩:=Kd.jU HO237.out;subst eo38) |((with_reducible refine jd (f:=91) rfl ?_);refine gL (some 44) Try.func91 #[.pointer (some ⟨g,0,none⟩), .slice Ao38 y235.length co38] ?_;(with_reducible refine (ji.calls kj5 g s0_0 t234 _ _ y235 t238 t239 w0 _ ?side1 ?side2 ?side3 ?side4 ?side5 A27.out).mono ?_);(case side1=>exact Y4);(case side2=>exact Y8);(case side3=>exact cq (Kd.jh HO237.out).2.2);(case side4=>exact (Kd.jh HO237.out).2.1);(case side5=>exact jzb (jf.own_ne HI0.out HO237.out (by decide)));rintro e w39 ⟨rfl,hi,hb,hk⟩;refine ⟨_,rfl,?_⟩;replace BK219:=am (jb.blk hk (g':=gb219) (o:=.cells #[.slice A1_0 l1_0.length c1_0] 32 (0,0)) (kq BK219.out) NB219_0.out (by simp));replace BK224:=am (jb.blk hk (g':=gb224) (o:=.cells #[.int .i64 a2, .int .i64 2, .int .i64 t233, .int .i64 0] 52 (0,0)) (kq BK224.out) NB224_0.out (by simp));replace HO237:=am (Kd.jE (Kd.jxa (jf.apart (show jf w0 _ g s0_0 t234 from Y4) (rq HO237.out) (by decide)) hk (fun _ h=>h.2)) (fun _ h=>h.1));replace HK:=am (jb.trans (Y1) hk (.inl rfl));replace HB:=am (hb);replace HI0:=am (hi);(try clear hb);(try clear hb2);(try clear hk);(try clear hi);have hcz40_0:=bc0 BK224.out;have hcz40_1:=bc1 BK224.out;have hcz40_2:=bc2 BK224.out;have hcz40_3:=bc3 BK224.out;have hfz40_0:=ja BK224.out 0;have hfz40_1:=ja BK224.out 1;have hfz40_2:=ja BK224.out 2;have hfz40_3:=ja BK224.out 3) |((with_reducible refine jM (N:=108) rfl ?_);refine Kd.jbc k52 _ 52 ?hg (N:=108) ?hd (xs:=([(⟨a2,2,t233,t238⟩:S52)]:List (S52))) (inner:=[.int .i64 a2, .int .i64 2, .int .i64 t233, .int .i64 t238]) (ok:=fun _=>True) (okp:=fun _=>True) ?hr ?hp (fun _ hk=>hk) trivial (Below.refl _ _) (Nat.le_refl _) (by simp) ?_;(case hd=>rfl);(case hg=>rfl);(case hr=>exact Y7);(case hp=>exact (Reps.c4 (show Kd.M k52 _ _ _ (⟨a2,2,t233,t238⟩:S52) [.int .i64 a2, .int .i64 2, .int .i64 t233, .int .i64 t238] from (jEb _ _ _ (⟨a2,2,t233,t238⟩:S52) )) (Reps.none _ _)));intro v241 w41 ho42 hb hg_ hnew_;clear hg_ hnew_;(first | rw [← Ny240.out] at ho42 |(simp only [Int.reduceToNat] at ho42;rw [← Ny240.out] at ho42));have HO242:=am (Kd.jQ (Kd.jvc ho42 (g:=gb224) (o:=.cells #[.int .i64 a2, .int .i64 2, .int .i64 t233, .int .i64 t238] 52 (0,0)) (Y107)) (jJ (w:=w) (g:=g) (row:=none) (Y1)));replace HO237:=am (Kd.jT (by (with_reducible repeat (first | apply Kd.jY | apply Kd.jX | apply Kd.jia));exact (Kd.jE (Kd.jLb (p:=⟨gb224,3,none⟩) (Kd.jPa HO237.out BK224.out (by decide)) (fun _ hk=>hk.2) (.int .i64 t238)) (fun _ h_=>h_.1))) hb);replace BK219:=am (jm (g:=gb219) (o:=.cells #[.slice A1_0 l1_0.length c1_0] 32 (0,0)) (Y43) hb);replace BK224:=am (jm (g:=gb224) (o:=.cells #[.int .i64 a2, .int .i64 2, .int .i64 t233, .int .i64 t238] 52 (0,0)) (Y107) hb);replace HK:=am (jb.trans (Y1) (jb.of_below hb g none) (.inl rfl));replace HB:=am (je (Y8) hb);replace HI0:=am (jf.below (show jf w0 (w39.setCell ⟨gb224,3,none⟩ (.int .i64 t238)) g s0_0 t239 from Y4) hb);clear hb ho42))
     go_ret
     exact ⟨_,Y0,by (with_reducible repeat (first | apply Kd.jY | apply Kd.jX | apply Kd.jia));exact Kd.jE HO242.out (fun _ hk=>trivial),Y4,Y8,Y1⟩
    ·rw [if_neg c25] at H
     have c25b0:decide (x9_5<6)=false:=dzF c25
     clear c25
     by_cases c43:x9_5=6
     ·rw [if_pos c43] at H
      have c43b0:(x9_5 == 6)=true:=beq_iff_eq.mpr c43
      have c43b1:(x9_5 != 6)=false:=bne_eq_false_iff_eq.mpr c43
      clear c43
      obtain ⟨y243,hy243⟩:∃ y_:List (S52),y_=(([(⟨a2,3,0,0⟩:S52)]:List (S52))):=⟨_,rfl⟩
      replace H:(some (y243,x1001_5))=some (r1,r2):=by first |(rw [hy243];with_reducible exact H) |(have H2_:=(Option.bind_some _ _).symm.trans H;rw [hy243];with_reducible exact H2_) |(have H2_:=(Option.bind_some _ _).symm.trans H;with_reducible exact H2_) | with_reducible exact H |(rw [hy243];exact H) | exact H
      have Ny243:=am hy243
      clear hy243
      simp only [Option.some.injEq,Prod.mk.injEq] at H
      obtain ⟨rfl,rfl⟩:=H
      go_wp2_with (first |((with_reducible refine jM (N:=10) rfl ?_);refine bE (N:=10) (cs:=#[.int .i64 0, .int .i64 0, .int .i64 0, .int .i64 0]) (t:=52) ?_;intro gb224 hg w44 hbox hb;have BK224:=am (hbox);have GW224:=am ((Y52:w.heap.size≤gb224));have GE224:=am ((Nat.le_trans HW0.out (Y52:w.heap.size≤gb224):w0.heap.size≤gb224));have NB219_224:=am ((Y82:gb219≠gb224));have NB224_219:=am ((Y83:gb224≠gb219));have NB0_224:=am ((Y84:g≠gb224));have NB224_0:=am ((Y85:gb224≠g));replace BK219:=am (jm (g:=gb219) (o:=.cells #[.slice A1_0 l1_0.length c1_0] 32 (0,0)) (kq BK219.out) hb);replace HK:=am (jb.trans (Y51) (jb.of_below hb g none) (.inl rfl));replace HB:=am (je (Y50) hb);replace HI0:=am (jf.below (Y49) hb);clear hb hbox hg;have hnb45:=NB224_219.out;have hnc45:=NB219_224.out;have hnb46:=NB224_0.out;have hnc46:=NB0_224.out;have hcz47_0:=bc0 BK224.out;have hcz47_1:=bc1 BK224.out;have hcz47_2:=bc2 BK224.out;have hcz47_3:=bc3 BK224.out;have hfz47_0:=ja BK224.out 0;have hfz47_1:=ja BK224.out 1;have hfz47_2:=ja BK224.out 2;have hfz47_3:=ja BK224.out 3) |((with_reducible refine jM (N:=108) rfl ?_);refine Kd.jbc k52 _ 52 ?hg (N:=108) ?hd (xs:=([(⟨a2,3,0,0⟩:S52)]:List (S52))) (inner:=[.int .i64 a2, .int .i64 3, .int .i64 0, .int .i64 0]) (ok:=fun _=>True) (okp:=fun _=>True) ?hr ?hp (fun _ hk=>hk) trivial (Below.refl _ _) (Nat.le_refl _) (by simp) ?_;(case hd=>rfl);(case hg=>rfl);(case hr=>exact Y7);(case hp=>exact (Reps.c4 (show Kd.M k52 _ _ _ (⟨a2,3,0,0⟩:S52) [.int .i64 a2, .int .i64 3, .int .i64 0, .int .i64 0] from (jEb _ _ _ (⟨a2,3,0,0⟩:S52) )) (Reps.none _ _)));intro v244 w48 ho49 hb hg_ hnew_;clear hg_ hnew_;(first | rw [← Ny243.out] at ho49 |(simp only [Int.reduceToNat] at ho49;rw [← Ny243.out] at ho49));have HO245:=am (Kd.jQ (Kd.jvc ho49 (g:=gb224) (o:=.cells #[.int .i64 a2, .int .i64 3, .int .i64 0, .int .i64 0] 52 (0,0)) (Y86)) (jJ (w:=w) (g:=g) (row:=none) (Y1)));replace BK219:=am (jm (g:=gb219) (o:=.cells #[.slice A1_0 l1_0.length c1_0] 32 (0,0)) (Y97) hb);replace BK224:=am (jm (g:=gb224) (o:=.cells #[.int .i64 a2, .int .i64 3, .int .i64 0, .int .i64 0] 52 (0,0)) (Y86) hb);replace HK:=am (jb.trans (Y1) (jb.of_below hb g none) (.inl rfl));replace HB:=am (je (Y8) hb);replace HI0:=am (jf.below (show jf w0 (((((w44.setCell ⟨gb224,0,none⟩ (.int .i64 a2)).setCell ⟨gb224,1,none⟩ (.int .i64 0)).setCell ⟨gb224,2,none⟩ (.int .i64 0)).setCell ⟨gb224,3,none⟩ (.int .i64 0)).setCell ⟨gb224,1,none⟩ (.int .i64 3)) g s0_0 x1001_5 from Y4) hb);clear hb ho49))
      go_ret
      exact ⟨_,Y0,by (with_reducible repeat (first | apply Kd.jY | apply Kd.jX | apply Kd.jia));exact Kd.jE HO245.out (fun _ hk=>trivial),Y4,Y8,Y1⟩
     ·rw [if_neg c43] at H
      have c43b0:(x9_5 == 6)=false:=beq_eq_false_iff_ne.mpr c43
      have c43b1:(x9_5 != 6)=true:=bne_iff_ne.mpr c43
      have HC50:=am H
      clear H
      go_upto_region 15 with (first |((with_reducible refine jM (N:=10) rfl ?_);refine bE (N:=10) (cs:=#[.int .i64 0, .int .i64 0, .int .i64 0, .int .i64 0]) (t:=52) ?_;intro gb224 hg w51 hbox hb;have BK224:=am (hbox);have GW224:=am ((Y52:w.heap.size≤gb224));have GE224:=am ((Nat.le_trans HW0.out (Y52:w.heap.size≤gb224):w0.heap.size≤gb224));have NB219_224:=am ((Y82:gb219≠gb224));have NB224_219:=am ((Y83:gb224≠gb219));have NB0_224:=am ((Y84:g≠gb224));have NB224_0:=am ((Y85:gb224≠g));replace BK219:=am (jm (g:=gb219) (o:=.cells #[.slice A1_0 l1_0.length c1_0] 32 (0,0)) (kq BK219.out) hb);replace HK:=am (jb.trans (Y51) (jb.of_below hb g none) (.inl rfl));replace HB:=am (je (Y50) hb);replace HI0:=am (jf.below (Y49) hb);clear hb hbox hg;have hnb52:=NB224_219.out;have hnc52:=NB219_224.out;have hnb53:=NB224_0.out;have hnc53:=NB0_224.out;have hcz54_0:=bc0 BK224.out;have hcz54_1:=bc1 BK224.out;have hcz54_2:=bc2 BK224.out;have hcz54_3:=bc3 BK224.out;have hfz54_0:=ja BK224.out 0;have hfz54_1:=ja BK224.out 1;have hfz54_2:=ja BK224.out 2;have hfz54_3:=ja BK224.out 3))
      (try simp only [Act.put,List.setIfInBounds_toArray,List.set_cons_zero,List.set_cons_succ])
      go_cut [50] (fun v50 wc=>∃ (kq:Nat) (x50_49:Bool),v50=.bool x50_49∧jq (jA.j1 kq a2 a3 x9_5 x50_49 s0_0 x1001_5 l1_0 a2 0 0 0=some (r1,r2))∧jq (kq≤kj5)∧jq (wc.heap[gb219]?=some (.cells #[(.slice A1_0 l1_0.length c1_0)] 32 (0,0)))∧jq (wc.heap[gb224]?=some (.cells #[.int .i64 a2, .int .i64 0, .int .i64 0, .int .i64 0] 52 (0,0)))∧jq (jf w0 wc g s0_0 x1001_5)∧jq (jb w wc g none)∧jq (Below w0.heap.size w0 wc))
      case first =>
       have H:=HC50.out
       clear HC50
       by_cases c55:x9_5=7
       ·rw [if_pos c55] at H
        have c55b0:(x9_5 == 7)=true:=beq_iff_eq.mpr c55
        have c55b1:(x9_5 != 7)=false:=bne_eq_false_iff_eq.mpr c55
        clear c55
        (first | rw [c55b0] |(simp only [jhb,jpb];rw [c55b0]) | skip)
        have H':=am H
        clear H
        go_wp2
        go_meet
        case rel=>exact ⟨_,(a3),(sq),H',⟨by have:=HJ5.out;first | omega | exact Nat.le_refl _⟩,⟨by (with_reducible repeat (first | refine jy ?_ _ | refine jD ?_ | refine jB ?_ _));refine jlb ?_ NB219_224.out _;(with_reducible repeat (first | refine jy ?_ _ | refine jD ?_ | refine jB ?_ _));refine jlb ?_ NB219_224.out _;(with_reducible repeat (first | refine jy ?_ _ | refine jD ?_ | refine jB ?_ _));refine jlb ?_ NB219_224.out _;(with_reducible repeat (first | refine jy ?_ _ | refine jD ?_ | refine jB ?_ _));refine jlb ?_ NB219_224.out _;(with_reducible repeat (first | refine jy ?_ _ | refine jD ?_ | refine jB ?_ _));exact BK219.out⟩,⟨by (with_reducible repeat (first | refine jy ?_ _ | refine jD ?_ | refine jB ?_ _));refine jZa (cs:=#[.int .i64 a2, .int .i64 0, .int .i64 0, .int .i64 0]) ?_ 3 _ rfl;(with_reducible repeat (first | refine jy ?_ _ | refine jD ?_ | refine jB ?_ _));refine jZa (cs:=#[.int .i64 a2, .int .i64 0, .int .i64 0, .int .i64 0]) ?_ 2 _ rfl;(with_reducible repeat (first | refine jy ?_ _ | refine jD ?_ | refine jB ?_ _));refine jZa (cs:=#[.int .i64 a2, .int .i64 0, .int .i64 0, .int .i64 0]) ?_ 1 _ rfl;(with_reducible repeat (first | refine jy ?_ _ | refine jD ?_ | refine jB ?_ _));refine jZa (cs:=#[.int .i64 0, .int .i64 0, .int .i64 0, .int .i64 0]) ?_ 0 _ rfl;(with_reducible repeat (first | refine jy ?_ _ | refine jD ?_ | refine jB ?_ _));exact BK224.out⟩,⟨Y4⟩,⟨Y1⟩,⟨Y8⟩⟩
       ·rw [if_neg c55] at H
        have c55b0:(x9_5 == 7)=false:=beq_eq_false_iff_ne.mpr c55
        have c55b1:(x9_5 != 7)=true:=bne_iff_ne.mpr c55
        (first | rw [c55b0] |(simp only [jhb,jpb];rw [c55b0]) | skip)
        have H':=am H
        clear H
        go_wp2
        go_meet
        case rel=>exact ⟨_,(false),(sq),H',⟨by have:=HJ5.out;first | omega | exact Nat.le_refl _⟩,⟨by (with_reducible repeat (first | refine jy ?_ _ | refine jD ?_ | refine jB ?_ _));refine jlb ?_ NB219_224.out _;(with_reducible repeat (first | refine jy ?_ _ | refine jD ?_ | refine jB ?_ _));refine jlb ?_ NB219_224.out _;(with_reducible repeat (first | refine jy ?_ _ | refine jD ?_ | refine jB ?_ _));refine jlb ?_ NB219_224.out _;(with_reducible repeat (first | refine jy ?_ _ | refine jD ?_ | refine jB ?_ _));refine jlb ?_ NB219_224.out _;(with_reducible repeat (first | refine jy ?_ _ | refine jD ?_ | refine jB ?_ _));exact BK219.out⟩,⟨by (with_reducible repeat (first | refine jy ?_ _ | refine jD ?_ | refine jB ?_ _));refine jZa (cs:=#[.int .i64 a2, .int .i64 0, .int .i64 0, .int .i64 0]) ?_ 3 _ rfl;(with_reducible repeat (first | refine jy ?_ _ | refine jD ?_ | refine jB ?_ _));refine jZa (cs:=#[.int .i64 a2, .int .i64 0, .int .i64 0, .int .i64 0]) ?_ 2 _ rfl;(with_reducible repeat (first | refine jy ?_ _ | refine jD ?_ | refine jB ?_ _));refine jZa (cs:=#[.int .i64 a2, .int .i64 0, .int .i64 0, .int .i64 0]) ?_ 1 _ rfl;(with_reducible repeat (first | refine jy ?_ _ | refine jD ?_ | refine jB ?_ _));refine jZa (cs:=#[.int .i64 0, .int .i64 0, .int .i64 0, .int .i64 0]) ?_ 0 _ rfl;(with_reducible repeat (first | refine jy ?_ _ | refine jD ?_ | refine jB ?_ _));exact BK224.out⟩,⟨Y4⟩,⟨Y1⟩,⟨Y8⟩⟩
      case rest =>
       clear HC50
       try clear c1
       try clear c2
       try clear p2
       try clear c3
       try clear c4
       try clear c5
       try clear c7
       try clear c9
       try clear c9b0
       try clear c11
       try clear c12
       try clear c12b0
       try clear c15
       try clear c16
       try clear c25
       try clear c25b0
       try clear c29
       try clear c30
       try clear c32
       try clear c43
       try clear c43b0
       try clear c43b1
       try clear c45
       try clear c46
       try clear c52
       try clear c53
       try clear c55
       try clear c55b0
       try clear c55b1
       try clear hcz17_0
       try clear hcz17_1
       try clear hcz17_2
       try clear hcz17_3
       try clear hcz22_0
       try clear hcz22_1
       try clear hcz22_2
       try clear hcz22_3
       try clear hcz31_0
       try clear hcz31_1
       try clear hcz31_2
       try clear hcz31_3
       try clear hcz33_0
       try clear hcz35_0
       try clear hcz35_1
       try clear hcz35_2
       try clear hcz35_3
       try clear hcz40_0
       try clear hcz40_1
       try clear hcz40_2
       try clear hcz40_3
       try clear hcz47_0
       try clear hcz47_1
       try clear hcz47_2
       try clear hcz47_3
       try clear hcz54_0
       try clear hcz54_1
       try clear hcz54_2
       try clear hcz54_3
       try clear hfz17_0
       try clear hfz17_1
       try clear hfz17_2
       try clear hfz17_3
       try clear hfz22_0
       try clear hfz22_1
       try clear hfz22_2
       try clear hfz22_3
       try clear hfz31_0
       try clear hfz31_1
       try clear hfz31_2
       try clear hfz31_3
       try clear hfz33_0
       try clear hfz35_0
       try clear hfz35_1
       try clear hfz35_2
       try clear hfz35_3
       try clear hfz40_0
       try clear hfz40_1
       try clear hfz40_2
       try clear hfz40_3
       try clear hfz47_0
       try clear hfz47_1
       try clear hfz47_2
       try clear hfz47_3
       try clear hfz54_0
       try clear hfz54_1
       try clear hfz54_2
       try clear hfz54_3
       try clear p2
       obtain ⟨kq,x50_49,rfl,HA,HJ49,BK219,BK224,HI0,HK,HB⟩:=hcut
       cases kq with
       | zero=>exact absurd HA.out (by simp [jA.j1])
       | succ kj49 =>
        have H:=HA.out
        clear HA
        simp only [jA.j1] at H
        by_cases c56:x50_49=true
        ·subst c56
         have H1:((ji.f kj49 s0_0 x1001_5 (([5,6]:List Int))).bind fun bt249=>(some ((([(⟨a2,bt249.1,0,0⟩:S52)]:List (S52))),bt249.2)))=some (r1,r2):=by rw [if_pos rfl] at H;exact H
         clear H
         have H:=H1
         clear H1
         obtain ⟨y246,hy246⟩:∃ y_:List Int,y_=(([5,6]:List Int)):=⟨_,rfl⟩
         replace H:((ji.f kj49 s0_0 x1001_5 y246).bind fun bt249=>(some ((([(⟨a2,bt249.1,0,0⟩:S52)]:List (S52))),bt249.2)))=some (r1,r2):=by first |(rw [hy246];with_reducible exact H) |(have H2_:=(Option.bind_some _ _).symm.trans H;rw [hy246];with_reducible exact H2_) |(have H2_:=(Option.bind_some _ _).symm.trans H;with_reducible exact H2_) | with_reducible exact H |(rw [hy246];exact H) | exact H
         have Ny246:=am hy246
         clear hy246
         replace H:=bzS H
         obtain ⟨⟨t249,t250⟩,A570,H⟩:=H
         replace H:(some ((([(⟨a2,t249,0,0⟩:S52)]:List (S52))),t250))=some (r1,r2):=H
         have A57:=am A570
         clear A570
         obtain ⟨y251,hy251⟩:∃ y_:List (S52),y_=(([(⟨a2,t249,0,0⟩:S52)]:List (S52))):=⟨_,rfl⟩
         replace H:(some (y251,t250))=some (r1,r2):=by first |(rw [hy251];with_reducible exact H) |(have H2_:=(Option.bind_some _ _).symm.trans H;rw [hy251];with_reducible exact H2_) |(have H2_:=(Option.bind_some _ _).symm.trans H;with_reducible exact H2_) | with_reducible exact H |(rw [hy251];exact H) | exact H
         have Ny251:=am hy251
         clear hy251
         simp only [Option.some.injEq,Prod.mk.injEq] at H
         obtain ⟨rfl,rfl⟩:=H
         go_wp2_with (first |((with_reducible refine jM (N:=57) rfl ?_);refine Kd.jbc (Kd.int .i64) _ 3 ?hg (N:=57) ?hd (xs:=([5,6]:List Int)) (inner:=[.int .i64 5, .int .i64 6]) (ok:=fun _=>True) (okp:=fun _=>True) ?hr ?hp (fun _ hk=>hk) trivial (Below.refl _ _) (Nat.le_refl _) (by simp) ?_;(case hd=>rfl);(case hg=>rfl);(case hr=>exact Y7);(case hp=>exact (Reps.one (show Kd.M (Kd.int .i64) _ _ _ 5 [.int .i64 5] from rfl) (Reps.one (show Kd.M (Kd.int .i64) _ _ _ 6 [.int .i64 6] from rfl) (Reps.none _ _))));intro v247 w58 ho59 hb hg_ hnew_;clear hg_ hnew_;(first | rw [← Ny246.out] at ho59 |(simp only [Int.reduceToNat] at ho59;rw [← Ny246.out] at ho59));have HO248:=am (Kd.jQ ho59 (jJ (w:=w) (g:=g) (row:=none) (Y1)));replace BK219:=am (jm (g:=gb219) (o:=.cells #[.slice A1_0 l1_0.length c1_0] 32 (0,0)) (kq BK219.out) hb);replace BK224:=am (jm (g:=gb224) (o:=.cells #[.int .i64 a2, .int .i64 0, .int .i64 0, .int .i64 0] 52 (0,0)) (kq BK224.out) hb);replace HK:=am (jb.trans (Y1) (jb.of_below hb g none) (.inl rfl));replace HB:=am (je (Y8) hb);replace HI0:=am (jf.below (Y4) hb);clear hb ho59;obtain ⟨Ao60,co60,eo60⟩:=Kd.jU HO248.out;subst eo60) |((with_reducible refine jd (f:=91) rfl ?_);refine gL (some 58) Try.func91 #[.pointer (some ⟨g,0,none⟩), .slice Ao60 y246.length co60] ?_;(with_reducible refine (ji.calls kj49 g s0_0 x1001_5 _ _ y246 t249 t250 w0 _ ?side1 ?side2 ?side3 ?side4 ?side5 A57.out).mono ?_);(case side1=>exact Y4);(case side2=>exact Y8);(case side3=>exact cq (Kd.jh HO248.out).2.2);(case side4=>exact (Kd.jh HO248.out).2.1);(case side5=>exact jzb (jf.own_ne HI0.out HO248.out (by decide)));rintro e w61 ⟨rfl,hi,hb,hk⟩;refine ⟨_,rfl,?_⟩;replace BK219:=am (jb.blk hk (g':=gb219) (o:=.cells #[.slice A1_0 l1_0.length c1_0] 32 (0,0)) (kq BK219.out) NB219_0.out (by simp));replace BK224:=am (jb.blk hk (g':=gb224) (o:=.cells #[.int .i64 a2, .int .i64 0, .int .i64 0, .int .i64 0] 52 (0,0)) (kq BK224.out) NB224_0.out (by simp));replace HO248:=am (Kd.jE (Kd.jxa (jf.apart (show jf w0 _ g s0_0 x1001_5 from Y4) (rq HO248.out) (by decide)) hk (fun _ h=>h.2)) (fun _ h=>h.1));replace HK:=am (jb.trans (Y1) hk (.inl rfl));replace HB:=am (hb);replace HI0:=am (hi);(try clear hb);(try clear hb2);(try clear hk);(try clear hi);have hnb62:=NB224_219.out;have hnc62:=NB219_224.out;have hnb63:=NB224_0.out;have hnc63:=NB0_224.out;have hcz64_0:=bc0 BK224.out;have hcz64_1:=bc1 BK224.out;have hcz64_2:=bc2 BK224.out;have hcz64_3:=bc3 BK224.out;have hfz64_0:=ja BK224.out 0;have hfz64_1:=ja BK224.out 1;have hfz64_2:=ja BK224.out 2;have hfz64_3:=ja BK224.out 3) |((with_reducible refine jM (N:=108) rfl ?_);refine Kd.jbc k52 _ 52 ?hg (N:=108) ?hd (xs:=([(⟨a2,t249,0,0⟩:S52)]:List (S52))) (inner:=[.int .i64 a2, .int .i64 t249, .int .i64 0, .int .i64 0]) (ok:=fun _=>True) (okp:=fun _=>True) ?hr ?hp (fun _ hk=>hk) trivial (Below.refl _ _) (Nat.le_refl _) (by simp) ?_;(case hd=>rfl);(case hg=>rfl);(case hr=>exact Y7);(case hp=>exact (Reps.c4 (show Kd.M k52 _ _ _ (⟨a2,t249,0,0⟩:S52) [.int .i64 a2, .int .i64 t249, .int .i64 0, .int .i64 0] from (jEb _ _ _ (⟨a2,t249,0,0⟩:S52) )) (Reps.none _ _)));intro v252 w65 ho66 hb hg_ hnew_;clear hg_ hnew_;(first | rw [← Ny251.out] at ho66 |(simp only [Int.reduceToNat] at ho66;rw [← Ny251.out] at ho66));have HO253:=am (Kd.jQ (Kd.jvc ho66 (g:=gb224) (o:=.cells #[.int .i64 a2, .int .i64 t249, .int .i64 0, .int .i64 0] 52 (0,0)) (Y57)) (jJ (w:=w) (g:=g) (row:=none) (Y1)));replace HO248:=am (Kd.jT (by (with_reducible repeat (first | apply Kd.jY | apply Kd.jX | apply Kd.jia));exact (Kd.jE (Kd.jLb (p:=⟨gb224,1,none⟩) (Kd.jPa HO248.out BK224.out (by decide)) (fun _ hk=>hk.2) (.int .i64 t249)) (fun _ h_=>h_.1))) hb);replace BK219:=am (jm (g:=gb219) (o:=.cells #[.slice A1_0 l1_0.length c1_0] 32 (0,0)) (Y43) hb);replace BK224:=am (jm (g:=gb224) (o:=.cells #[.int .i64 a2, .int .i64 t249, .int .i64 0, .int .i64 0] 52 (0,0)) (Y57) hb);replace HK:=am (jb.trans (Y1) (jb.of_below hb g none) (.inl rfl));replace HB:=am (je (Y8) hb);replace HI0:=am (jf.below (show jf w0 (w61.setCell ⟨gb224,1,none⟩ (.int .i64 t249)) g s0_0 t250 from Y4) hb);clear hb ho66))
         go_ret
         exact ⟨_,Y0,by (with_reducible repeat (first | apply Kd.jY | apply Kd.jX | apply Kd.jia));exact Kd.jE HO253.out (fun _ hk=>trivial),Y4,Y8,Y1⟩
        ·replace c56:=Bool.eq_false_iff.mpr c56
         subst c56
         have H1:(if x9_5=7 then ((ji.f kj49 s0_0 x1001_5 (([7,8]:List Int))).bind fun bt257=>(some ((([(⟨a2,4,bt257.1,0⟩:S52)]:List (S52))),bt257.2))) else (if x9_5=8 then (some ((([(⟨a2,0,0,0⟩:S52)]:List (S52))),x1001_5)) else (if x9_5<11 then ((jg.f kj49 s0_0 x1001_5 4).bind fun bt265=>((jg.f kj49 s0_0 bt265.2 2).bind fun bt267=>((some (([(⟨a2,11,bt265.1,bt267.1⟩:S52)]:List (S52)):List (S52))).bind fun y269=>((jI.f kj49 s0_0 bt267.2 l1_0 (wrap64 (a2+1)) a3).bind fun bt272=>(if y269.length+bt272.1.length<4398046511104 then (some ((y269 ++ bt272.1),bt272.2)) else (none)))))) else (if x9_5=11 then ((ji.f kj49 s0_0 x1001_5 (([2,1,3,0]:List Int))).bind fun bt282=>((some (([(⟨a2,12,bt282.1,0⟩:S52)]:List (S52)):List (S52))).bind fun y284=>((jI.f kj49 s0_0 bt282.2 l1_0 (wrap64 (a2+1)) true).bind fun bt287=>(if y284.length+bt287.1.length<4398046511104 then (some ((y284 ++ bt287.1),bt287.2)) else (none))))) else ((jW.f kj49 s0_0 x1001_5 l1_0 a2 a3).bind fun bt294=>(some (bt294.1,bt294.2)))))))=some (r1,r2):=by rw [if_neg (show ¬ (false=true) by decide)] at H;exact H
         clear H
         have H:=H1
         clear H1
         by_cases c67:x9_5=7
         ·rw [if_pos c67] at H
          have c67b0:(x9_5 == 7)=true:=beq_iff_eq.mpr c67
          have c67b1:(x9_5 != 7)=false:=bne_eq_false_iff_eq.mpr c67
          clear c67
          obtain ⟨y254,hy254⟩:∃ y_:List Int,y_=(([7,8]:List Int)):=⟨_,rfl⟩
          replace H:((ji.f kj49 s0_0 x1001_5 y254).bind fun bt257=>(some ((([(⟨a2,4,bt257.1,0⟩:S52)]:List (S52))),bt257.2)))=some (r1,r2):=by first |(rw [hy254];with_reducible exact H) |(have H2_:=(Option.bind_some _ _).symm.trans H;rw [hy254];with_reducible exact H2_) |(have H2_:=(Option.bind_some _ _).symm.trans H;with_reducible exact H2_) | with_reducible exact H |(rw [hy254];exact H) | exact H
          have Ny254:=am hy254
          clear hy254
          replace H:=bzS H
          obtain ⟨⟨t257,t258⟩,A680,H⟩:=H
          replace H:(some ((([(⟨a2,4,t257,0⟩:S52)]:List (S52))),t258))=some (r1,r2):=H
          have A68:=am A680
          clear A680
          obtain ⟨y259,hy259⟩:∃ y_:List (S52),y_=(([(⟨a2,4,t257,0⟩:S52)]:List (S52))):=⟨_,rfl⟩
          replace H:(some (y259,t258))=some (r1,r2):=by first |(rw [hy259];with_reducible exact H) |(have H2_:=(Option.bind_some _ _).symm.trans H;rw [hy259];with_reducible exact H2_) |(have H2_:=(Option.bind_some _ _).symm.trans H;with_reducible exact H2_) | with_reducible exact H |(rw [hy259];exact H) | exact H
          have Ny259:=am hy259
          clear hy259
          simp only [Option.some.injEq,Prod.mk.injEq] at H
          obtain ⟨rfl,rfl⟩:=H
          have hnb69:=NB224_219.out
          have hnc69:=NB219_224.out
          have hnb70:=NB224_0.out
          have hnc70:=NB0_224.out
          have hcz71_0:=bc0 BK224.out
          have hcz71_1:=bc1 BK224.out
          have hcz71_2:=bc2 BK224.out
          have hcz71_3:=bc3 BK224.out
          have hfz71_0:=ja BK224.out 0
          have hfz71_1:=ja BK224.out 1
          have hfz71_2:=ja BK224.out 2
          have hfz71_3:=ja BK224.out 3
          go_wp2_with (first |((with_reducible refine jM (N:=65) rfl ?_);refine Kd.jbc (Kd.int .i64) _ 3 ?hg (N:=65) ?hd (xs:=([7,8]:List Int)) (inner:=[.int .i64 7, .int .i64 8]) (ok:=fun _=>True) (okp:=fun _=>True) ?hr ?hp (fun _ hk=>hk) trivial (Below.refl _ _) (Nat.le_refl _) (by simp) ?_;(case hd=>rfl);(case hg=>rfl);(case hr=>exact Y7);(case hp=>exact (Reps.one (show Kd.M (Kd.int .i64) _ _ _ 7 [.int .i64 7] from rfl) (Reps.one (show Kd.M (Kd.int .i64) _ _ _ 8 [.int .i64 8] from rfl) (Reps.none _ _))));intro v255 w72 ho73 hb hg_ hnew_;clear hg_ hnew_;(first | rw [← Ny254.out] at ho73 |(simp only [Int.reduceToNat] at ho73;rw [← Ny254.out] at ho73));have HO256:=am (Kd.jQ ho73 (jJ (w:=w) (g:=g) (row:=none) (Y1)));replace BK219:=am (jm (g:=gb219) (o:=.cells #[.slice A1_0 l1_0.length c1_0] 32 (0,0)) (Y43) hb);replace BK224:=am (jm (g:=gb224) (o:=.cells #[.int .i64 a2, .int .i64 4, .int .i64 0, .int .i64 0] 52 (0,0)) (Y57) hb);replace HK:=am (jb.trans (Y1) (jb.of_below hb g none) (.inl rfl));replace HB:=am (je (Y8) hb);replace HI0:=am (jf.below (show jf w0 (wc.setCell ⟨gb224,1,none⟩ (.int .i64 4)) g s0_0 x1001_5 from Y4) hb);clear hb ho73;obtain ⟨Ao74,co74,eo74⟩:=Kd.jU HO256.out;subst eo74) |((with_reducible refine jd (f:=91) rfl ?_);refine gL (some 66) Try.func91 #[.pointer (some ⟨g,0,none⟩), .slice Ao74 y254.length co74] ?_;(with_reducible refine (ji.calls kj49 g s0_0 x1001_5 _ _ y254 t257 t258 w0 _ ?side1 ?side2 ?side3 ?side4 ?side5 A68.out).mono ?_);(case side1=>exact Y4);(case side2=>exact Y8);(case side3=>exact cq (Kd.jh HO256.out).2.2);(case side4=>exact (Kd.jh HO256.out).2.1);(case side5=>exact jzb (jf.own_ne HI0.out HO256.out (by decide)));rintro e w75 ⟨rfl,hi,hb,hk⟩;refine ⟨_,rfl,?_⟩;replace BK219:=am (jb.blk hk (g':=gb219) (o:=.cells #[.slice A1_0 l1_0.length c1_0] 32 (0,0)) (kq BK219.out) NB219_0.out (by simp));replace BK224:=am (jb.blk hk (g':=gb224) (o:=.cells #[.int .i64 a2, .int .i64 4, .int .i64 0, .int .i64 0] 52 (0,0)) (kq BK224.out) NB224_0.out (by simp));replace HO256:=am (Kd.jE (Kd.jxa (jf.apart (show jf w0 _ g s0_0 x1001_5 from Y4) (rq HO256.out) (by decide)) hk (fun _ h=>h.2)) (fun _ h=>h.1));replace HK:=am (jb.trans (Y1) hk (.inl rfl));replace HB:=am (hb);replace HI0:=am (hi);(try clear hb);(try clear hb2);(try clear hk);(try clear hi);have hcz76_0:=bc0 BK224.out;have hcz76_1:=bc1 BK224.out;have hcz76_2:=bc2 BK224.out;have hcz76_3:=bc3 BK224.out;have hfz76_0:=ja BK224.out 0;have hfz76_1:=ja BK224.out 1;have hfz76_2:=ja BK224.out 2;have hfz76_3:=ja BK224.out 3) |((with_reducible refine jM (N:=108) rfl ?_);refine Kd.jbc k52 _ 52 ?hg (N:=108) ?hd (xs:=([(⟨a2,4,t257,0⟩:S52)]:List (S52))) (inner:=[.int .i64 a2, .int .i64 4, .int .i64 t257, .int .i64 0]) (ok:=fun _=>True) (okp:=fun _=>True) ?hr ?hp (fun _ hk=>hk) trivial (Below.refl _ _) (Nat.le_refl _) (by simp) ?_;(case hd=>rfl);(case hg=>rfl);(case hr=>exact Y7);(case hp=>exact (Reps.c4 (show Kd.M k52 _ _ _ (⟨a2,4,t257,0⟩:S52) [.int .i64 a2, .int .i64 4, .int .i64 t257, .int .i64 0] from (jEb _ _ _ (⟨a2,4,t257,0⟩:S52) )) (Reps.none _ _)));intro v260 w77 ho78 hb hg_ hnew_;clear hg_ hnew_;(first | rw [← Ny259.out] at ho78 |(simp only [Int.reduceToNat] at ho78;rw [← Ny259.out] at ho78));have HO261:=am (Kd.jQ (Kd.jvc ho78 (g:=gb224) (o:=.cells #[.int .i64 a2, .int .i64 4, .int .i64 t257, .int .i64 0] 52 (0,0)) (Y108)) (jJ (w:=w) (g:=g) (row:=none) (Y1)));replace HO256:=am (Kd.jT (by (with_reducible repeat (first | apply Kd.jY | apply Kd.jX | apply Kd.jia));exact (Kd.jE (Kd.jLb (p:=⟨gb224,2,none⟩) (Kd.jPa HO256.out BK224.out (by decide)) (fun _ hk=>hk.2) (.int .i64 t257)) (fun _ h_=>h_.1))) hb);replace BK219:=am (jm (g:=gb219) (o:=.cells #[.slice A1_0 l1_0.length c1_0] 32 (0,0)) (Y43) hb);replace BK224:=am (jm (g:=gb224) (o:=.cells #[.int .i64 a2, .int .i64 4, .int .i64 t257, .int .i64 0] 52 (0,0)) (Y108) hb);replace HK:=am (jb.trans (Y1) (jb.of_below hb g none) (.inl rfl));replace HB:=am (je (Y8) hb);replace HI0:=am (jf.below (show jf w0 (w75.setCell ⟨gb224,2,none⟩ (.int .i64 t257)) g s0_0 t258 from Y4) hb);clear hb ho78))
          go_ret
          exact ⟨_,Y0,by (with_reducible repeat (first | apply Kd.jY | apply Kd.jX | apply Kd.jia));exact Kd.jE HO261.out (fun _ hk=>trivial),Y4,Y8,Y1⟩
         ·rw [if_neg c67] at H
          have c67b0:(x9_5 == 7)=false:=beq_eq_false_iff_ne.mpr c67
          have c67b1:(x9_5 != 7)=true:=bne_iff_ne.mpr c67
          by_cases c79:x9_5=8
          ·rw [if_pos c79] at H
           have c79b0:(x9_5 == 8)=true:=beq_iff_eq.mpr c79
           have c79b1:(x9_5 != 8)=false:=bne_eq_false_iff_eq.mpr c79
           clear c79
           obtain ⟨y262,hy262⟩:∃ y_:List (S52),y_=(([(⟨a2,0,0,0⟩:S52)]:List (S52))):=⟨_,rfl⟩
           replace H:(some (y262,x1001_5))=some (r1,r2):=by first |(rw [hy262];with_reducible exact H) |(have H2_:=(Option.bind_some _ _).symm.trans H;rw [hy262];with_reducible exact H2_) |(have H2_:=(Option.bind_some _ _).symm.trans H;with_reducible exact H2_) | with_reducible exact H |(rw [hy262];exact H) | exact H
           have Ny262:=am hy262
           clear hy262
           simp only [Option.some.injEq,Prod.mk.injEq] at H
           obtain ⟨rfl,rfl⟩:=H
           have hnb80:=NB224_219.out
           have hnc80:=NB219_224.out
           have hnb81:=NB224_0.out
           have hnc81:=NB0_224.out
           have hcz82_0:=bc0 BK224.out
           have hcz82_1:=bc1 BK224.out
           have hcz82_2:=bc2 BK224.out
           have hcz82_3:=bc3 BK224.out
           have hfz82_0:=ja BK224.out 0
           have hfz82_1:=ja BK224.out 1
           have hfz82_2:=ja BK224.out 2
           have hfz82_3:=ja BK224.out 3
           go_wp2_with (first |((with_reducible refine jM (N:=108) rfl ?_);refine Kd.jbc k52 _ 52 ?hg (N:=108) ?hd (xs:=([(⟨a2,0,0,0⟩:S52)]:List (S52))) (inner:=[.int .i64 a2, .int .i64 0, .int .i64 0, .int .i64 0]) (ok:=fun _=>True) (okp:=fun _=>True) ?hr ?hp (fun _ hk=>hk) trivial (Below.refl _ _) (Nat.le_refl _) (by simp) ?_;(case hd=>rfl);(case hg=>rfl);(case hr=>exact Y7);(case hp=>exact (Reps.c4 (show Kd.M k52 _ _ _ (⟨a2,0,0,0⟩:S52) [.int .i64 a2, .int .i64 0, .int .i64 0, .int .i64 0] from (jEb _ _ _ (⟨a2,0,0,0⟩:S52) )) (Reps.none _ _)));intro v263 w83 ho84 hb hg_ hnew_;clear hg_ hnew_;(first | rw [← Ny262.out] at ho84 |(simp only [Int.reduceToNat] at ho84;rw [← Ny262.out] at ho84));have HO264:=am (Kd.jQ (Kd.jvc ho84 (g:=gb224) (o:=.cells #[.int .i64 a2, .int .i64 0, .int .i64 0, .int .i64 0] 52 (0,0)) (Y57)) (jJ (w:=w) (g:=g) (row:=none) (Y1)));replace BK219:=am (jm (g:=gb219) (o:=.cells #[.slice A1_0 l1_0.length c1_0] 32 (0,0)) (Y43) hb);replace BK224:=am (jm (g:=gb224) (o:=.cells #[.int .i64 a2, .int .i64 0, .int .i64 0, .int .i64 0] 52 (0,0)) (Y57) hb);replace HK:=am (jb.trans (Y1) (jb.of_below hb g none) (.inl rfl));replace HB:=am (je (Y8) hb);replace HI0:=am (jf.below (show jf w0 (wc.setCell ⟨gb224,1,none⟩ (.int .i64 0)) g s0_0 x1001_5 from Y4) hb);clear hb ho84))
           go_ret
           exact ⟨_,Y0,by (with_reducible repeat (first | apply Kd.jY | apply Kd.jX | apply Kd.jia));exact Kd.jE HO264.out (fun _ hk=>trivial),Y4,Y8,Y1⟩
          ·rw [if_neg c79] at H
           have c79b0:(x9_5 == 8)=false:=beq_eq_false_iff_ne.mpr c79
           have c79b1:(x9_5 != 8)=true:=bne_iff_ne.mpr c79
           by_cases c85:x9_5<11
           ·rw [if_pos c85] at H
            have c85b0:decide (x9_5<11)=true:=dzT c85
            clear c85
            replace H:=bzS H
            obtain ⟨⟨t265,t266⟩,A860,H⟩:=H
            replace H:((jg.f kj49 s0_0 t266 2).bind fun bt267=>((some (([(⟨a2,11,t265,bt267.1⟩:S52)]:List (S52)):List (S52))).bind fun y269=>((jI.f kj49 s0_0 bt267.2 l1_0 (wrap64 (a2+1)) a3).bind fun bt272=>(if y269.length+bt272.1.length<4398046511104 then (some ((y269 ++ bt272.1),bt272.2)) else (none)))))=some (r1,r2):=H
            have A86:=am A860
            clear A860
            replace H:=bzS H
            obtain ⟨⟨t267,t268⟩,A870,H⟩:=H
            replace H:((some (([(⟨a2,11,t265,t267⟩:S52)]:List (S52)):List (S52))).bind fun y269=>((jI.f kj49 s0_0 t268 l1_0 (wrap64 (a2+1)) a3).bind fun bt272=>(if y269.length+bt272.1.length<4398046511104 then (some ((y269 ++ bt272.1),bt272.2)) else (none))))=some (r1,r2):=H
            have A87:=am A870
            clear A870
            obtain ⟨y269,hy269⟩:∃ y_:List (S52),y_=(([(⟨a2,11,t265,t267⟩:S52)]:List (S52))):=⟨_,rfl⟩
            replace H:((jI.f kj49 s0_0 t268 l1_0 (wrap64 (a2+1)) a3).bind fun bt272=>(if y269.length+bt272.1.length<4398046511104 then (some ((y269 ++ bt272.1),bt272.2)) else (none)))=some (r1,r2):=by first |(rw [hy269];with_reducible exact H) |(have H2_:=(Option.bind_some _ _).symm.trans H;rw [hy269];with_reducible exact H2_) |(have H2_:=(Option.bind_some _ _).symm.trans H;with_reducible exact H2_) | with_reducible exact H |(rw [hy269];exact H) | exact H
            have Ny269:=am hy269
            clear hy269
            replace H:=bzS H
            obtain ⟨⟨t272,t275⟩,A880,H⟩:=H
            replace H:(if y269.length+t272.length<4398046511104 then (some ((y269 ++ t272),t275)) else (none))=some (r1,r2):=H
            have A88:=am A880
            clear A880
            by_cases c89:y269.length+t272.length<4398046511104
            ·rw [if_pos c89] at H
             have LMc89:=am c89
             clear c89
             obtain ⟨y276,hy276⟩:∃ y_:List (S52),y_=(y269 ++ t272):=⟨_,rfl⟩
             replace H:(some (y276,t275))=some (r1,r2):=by first |(rw [hy276];with_reducible exact H) |(have H2_:=(Option.bind_some _ _).symm.trans H;rw [hy276];with_reducible exact H2_) |(have H2_:=(Option.bind_some _ _).symm.trans H;with_reducible exact H2_) | with_reducible exact H |(rw [hy276];exact H) | exact H
             have Ny276:=am hy276
             clear hy276
             simp only [Option.some.injEq,Prod.mk.injEq] at H
             obtain ⟨rfl,rfl⟩:=H
             have hnb90:=NB224_219.out
             have hnc90:=NB219_224.out
             have hnb91:=NB224_0.out
             have hnc91:=NB0_224.out
             have hcz92_0:=bc0 BK224.out
             have hcz92_1:=bc1 BK224.out
             have hcz92_2:=bc2 BK224.out
             have hcz92_3:=bc3 BK224.out
             have hfz92_0:=ja BK224.out 0
             have hfz92_1:=ja BK224.out 1
             have hfz92_2:=ja BK224.out 2
             have hfz92_3:=ja BK224.out 3
             try go_wp2_with (first |((with_reducible refine jd (f:=71) rfl ?_);refine gL (some 77) Try.func71 #[.pointer (some ⟨g,0,none⟩), .int .i64 4] ?_;(with_reducible refine (jg.calls kj49 g s0_0 x1001_5 4 t265 t266 w0 _ ?side1 ?side2 A86.out).mono ?_);(case side1=>exact Y4);(case side2=>exact Y8);rintro e w93 ⟨rfl,hi,hb,hk⟩;refine ⟨_,rfl,?_⟩;replace BK219:=am (jb.blk hk (g':=gb219) (o:=.cells #[.slice A1_0 l1_0.length c1_0] 32 (0,0)) (Y43) NB219_0.out (by simp));replace BK224:=am (jb.blk hk (g':=gb224) (o:=.cells #[.int .i64 a2, .int .i64 11, .int .i64 0, .int .i64 0] 52 (0,0)) (Y57) NB224_0.out (by simp));replace HK:=am (jb.trans (Y1) hk (.inl rfl));replace HB:=am (hb);replace HI0:=am (hi);(try clear hb);(try clear hb2);(try clear hk);(try clear hi);have hcz94_0:=bc0 BK224.out;have hcz94_1:=bc1 BK224.out;have hcz94_2:=bc2 BK224.out;have hcz94_3:=bc3 BK224.out;have hfz94_0:=ja BK224.out 0;have hfz94_1:=ja BK224.out 1;have hfz94_2:=ja BK224.out 2;have hfz94_3:=ja BK224.out 3) |((with_reducible refine jd (f:=71) rfl ?_);refine gL (some 80) Try.func71 #[.pointer (some ⟨g,0,none⟩), .int .i64 2] ?_;(with_reducible refine (jg.calls kj49 g s0_0 t266 2 t267 t268 w0 _ ?side1 ?side2 A87.out).mono ?_);(case side1=>exact Y4);(case side2=>exact Y8);rintro e w95 ⟨rfl,hi,hb,hk⟩;refine ⟨_,rfl,?_⟩;replace BK219:=am (jb.blk hk (g':=gb219) (o:=.cells #[.slice A1_0 l1_0.length c1_0] 32 (0,0)) (Y43) NB219_0.out (by simp));replace BK224:=am (jb.blk hk (g':=gb224) (o:=.cells #[.int .i64 a2, .int .i64 11, .int .i64 t265, .int .i64 0] 52 (0,0)) (by (with_reducible repeat (first | refine jy ?_ _ | refine jD ?_ | refine jB ?_ _));refine jZa (cs:=#[.int .i64 a2, .int .i64 11, .int .i64 0, .int .i64 0]) ?_ 2 _ rfl;(with_reducible repeat (first | refine jy ?_ _ | refine jD ?_ | refine jB ?_ _));exact BK224.out) NB224_0.out (by simp));replace HK:=am (jb.trans (Y1) hk (.inl rfl));replace HB:=am (hb);replace HI0:=am (hi);(try clear hb);(try clear hb2);(try clear hk);(try clear hi);have hcz96_0:=bc0 BK224.out;have hcz96_1:=bc1 BK224.out;have hcz96_2:=bc2 BK224.out;have hcz96_3:=bc3 BK224.out;have hfz96_0:=ja BK224.out 0;have hfz96_1:=ja BK224.out 1;have hfz96_2:=ja BK224.out 2;have hfz96_3:=ja BK224.out 3))
             have n0_:jq ((w95.setCell ⟨gb224,3,none⟩ (.int .i64 t267)).heap[gb219]?=some (.cells #[.slice A1_0 l1_0.length c1_0] 32 (0,0))):=⟨by (with_reducible repeat (first | refine jy ?_ _ | refine jD ?_ | refine jB ?_ _));refine jlb ?_ NB219_224.out _;(with_reducible repeat (first | refine jy ?_ _ | refine jD ?_ | refine jB ?_ _));exact BK219.out⟩
             have n1_:jq ((w95.setCell ⟨gb224,3,none⟩ (.int .i64 t267)).heap[gb224]?=some (.cells #[.int .i64 a2, .int .i64 11, .int .i64 t265, .int .i64 t267] 52 (0,0))):=⟨by (with_reducible repeat (first | refine jy ?_ _ | refine jD ?_ | refine jB ?_ _));refine jZa (cs:=#[.int .i64 a2, .int .i64 11, .int .i64 t265, .int .i64 0]) ?_ 3 _ rfl;(with_reducible repeat (first | refine jy ?_ _ | refine jD ?_ | refine jB ?_ _));exact BK224.out⟩
             have n2_:jq (jf w0 (w95.setCell ⟨gb224,3,none⟩ (.int .i64 t267)) g s0_0 t268):=⟨Y4⟩
             have n3_:jq (jb w (w95.setCell ⟨gb224,3,none⟩ (.int .i64 t267)) g none):=⟨Y1⟩
             have n4_:jq (Below w0.heap.size w0 (w95.setCell ⟨gb224,3,none⟩ (.int .i64 t267))):=⟨Y8⟩
             (try clear BK219)
             (try clear BK224)
             (try clear HI0)
             (try clear HK)
             (try clear HB)
             generalize (w95.setCell ⟨gb224,3,none⟩ (.int .i64 t267))=w97 at n0_ n1_ n2_ n3_ n4_ ⊢
             have BK219:=n0_
             have BK224:=n1_
             have HI0:=n2_
             have HK:=n3_
             have HB:=n4_
             clear n0_ n1_ n2_ n3_ n4_
             replace BK219:=am (jD BK219.out)
             replace BK224:=am (jD BK224.out)
             replace HI0:=am (jf.drew HI0.out)
             replace HK:=am (jMa HK.out)
             replace HB:=am (jS HB.out)
             refine start_ (n:=10) (S:=fun w'=>w'.cell? ⟨gb224,0,none⟩=some (.int .i64 a2)∧w'.cell? ⟨gb224,1,none⟩=some (.int .i64 11)∧w'.cell? ⟨gb224,2,none⟩=some (.int .i64 t265)∧w'.cell? ⟨gb224,3,none⟩=some (.int .i64 t267)∧w'.cell? ⟨gb219,0,none⟩=some (.slice A1_0 l1_0.length c1_0)) (ds:=[]) #[false,false,false,false,false,false,false,false,false,false] (by kernel_rfl) rfl rfl ⟨(jK BK224.out 0).trans rfl,(jK BK224.out 1).trans rfl,(jK BK224.out 2).trans rfl,(jK BK224.out 3).trans rfl,(jK BK219.out 0).trans rfl⟩ (fun hHeld=>?_);refine jqc jA.tab26 jA.bits26 (fun HT_ HW_=>?_)
             generalize w97.drew=w98 at BK219 BK224 HI0 HK HB hHeld ⊢
             refine pq (i:=2) (N:=some 84) #[false,false,true,false,false,false,false,false,false,false] ?_
             refine pq (i:=4) (N:=some 86) #[false,false,true,false,true,false,false,false,false,false] ?_
             refine pq (i:=5) (N:=some 87) #[false,false,true,false,true,true,false,false,false,false] ?_
             refine pq (i:=6) (N:=some 88) #[false,false,true,false,true,true,true,false,false,false] ?_
             refine take_ (i:=0) (N:=some 82) (v:=?_) (a':=?_) #[true,false,true,false,true,true,true,false,false,false] rfl rfl (jlc HT_.out HW_.out (by kernel_rfl)) (fun _ _ _ h=>h) (Or.inl ⟨by rfl,?_⟩) hHeld ?_ ?_
             rotate_left
             ·rintro w' ⟨s0,s1,s2,s3,s4⟩
              go_simp
              with_reducible rfl
             rotate_left
             ·exact sa
             refine take_ (i:=3) (N:=some 85) (v:=?_) (a':=?_) #[true,false,true,true,true,true,true,false,false,false] rfl rfl (jlc HT_.out HW_.out (by kernel_rfl)) (fun _ _ _ h=>h) (Or.inl ⟨by rfl,?_⟩) hHeld ?_ ?_
             rotate_left
             ·rintro w' ⟨s0,s1,s2,s3,s4⟩
              go_simp
              with_reducible rfl
             rotate_left
             ·exact sa
             refine join_ (σ:=Value × Value) 2 #[true,true,true,true,true,true,true,true,false,false] (fun s_=>[(83,s_.1),(89,s_.2)]) (fun s_ w'=>(w'.cell? ⟨gb224,0,none⟩=some (.int .i64 a2)∧w'.cell? ⟨gb224,1,none⟩=some (.int .i64 11)∧w'.cell? ⟨gb224,2,none⟩=some (.int .i64 t265)∧w'.cell? ⟨gb224,3,none⟩=some (.int .i64 t267)∧w'.cell? ⟨gb219,0,none⟩=some (.slice A1_0 l1_0.length c1_0))∧(Kd.R k52 52 w' w.heap.size (fun k_=>some k_≠(s_.2:Value).ownBlock∧k_≠gb224) s_.1 y269)∧(Kd.R k52 52 w' w.heap.size (fun k_=>some k_≠(s_.1:Value).ownBlock∧k_≠gb224) s_.2 t272)∧(w'.heap[gb219]?=some (.cells #[.slice A1_0 l1_0.length c1_0] 32 (0,0)))∧(w'.heap[gb224]?=some (.cells #[.int .i64 a2, .int .i64 11, .int .i64 t265, .int .i64 t267] 52 (0,0)))∧(jf w0 w' g s0_0 t275)∧(jb w w' g none)∧(Below w0.heap.size w0 w')) ?_ ?_
             rotate_left
             ·intro hCont
              refine two_ (i:=1) (j:=7) (Ni:=some 83) (Nj:=some 89) #[true,true,true,true,true,true,true,false,false,false] #[true,false,true,true,true,true,true,true,false,false] rfl rfl rfl rfl (two_of HT_.out (by kernel_rfl)) (by decide) (by decide) (fun K hK=>?_) (fun K hK=>?_)
              ·skip
               refine Kd.jdc k52 _ 52 ?hg (N:=83) ?hd (xs:=([(⟨a2,11,t265,t267⟩:S52)]:List (S52))) (inner:=[.int .i64 a2, .int .i64 11, .int .i64 t265, .int .i64 t267]) (ok:=fun _=>True) (okp:=fun _=>True) ?hr ?hp (fun _ hk=>hk) trivial (Below.refl _ _) (Nat.le_refl _) (by simp) ?_;(case hd=>rfl);(case hg=>rfl);(case hr=>exact Y7);(case hp=>exact (Reps.c4 (show Kd.M k52 _ _ _ (⟨a2,11,t265,t267⟩:S52) [.int .i64 a2, .int .i64 11, .int .i64 t265, .int .i64 t267] from (jEb _ _ _ (⟨a2,11,t265,t267⟩:S52) )) (Reps.none _ _)))
               intro v270 w99 ho100 hb hg_ hnew_
               clear hg_ hnew_
               (first | rw [← Ny269.out] at ho100 |(simp only [Int.reduceToNat] at ho100;rw [← Ny269.out] at ho100))
               have HO271:=am (Kd.jQ (Kd.jvc ho100 (g:=gb224) (o:=.cells #[.int .i64 a2, .int .i64 11, .int .i64 t265, .int .i64 t267] 52 (0,0)) (kq BK224.out)) (jJ (w:=w) (g:=g) (row:=none) (Y1)))
               replace BK219:=am (jm (g:=gb219) (o:=.cells #[.slice A1_0 l1_0.length c1_0] 32 (0,0)) (kq BK219.out) hb)
               replace BK224:=am (jm (g:=gb224) (o:=.cells #[.int .i64 a2, .int .i64 11, .int .i64 t265, .int .i64 t267] 52 (0,0)) (kq BK224.out) hb)
               replace HK:=am (jb.trans (Y1) (jb.of_below hb g none) (.inl rfl))
               replace HB:=am (je (Y8) hb)
               replace HI0:=am (jf.below (Y4) hb)
               clear hb ho100
               refine hK.out _ _ ⟨(jK BK224.out 0).trans rfl,(jK BK224.out 1).trans rfl,(jK BK224.out 2).trans rfl,(jK BK224.out 3).trans rfl,(jK BK219.out 0).trans rfl⟩ (fun hHeld=>?_)
               clear hK K
               refine jjc (a':=?_) ?_ ?_
               rotate_left
               ·show Act.put _ (some 83) _=_
                simp only [Act.put,List.setIfInBounds_toArray,List.set_cons_zero,List.set_cons_succ,jhb,jpb]
                rfl
               refine one_ (i:=7) (N:=some 89) #[true,true,true,true,true,true,true,true,false,false] rfl rfl (jTb HT_.out (by kernel_rfl)) (by decide) (fun K hK=>?_)
               refine goes_ Try.func118 (by kernel_rfl) rfl #[.pointer (some ⟨g,0,none⟩), .agg #[.slice A1_0 l1_0.length c1_0], .int .i64 (wrap64 (a2+1)), .bool a3] (by rfl) rfl rfl (aq) ?_
               with_reducible refine (ih118 kj49 (by have:=HJ5.out;have:=HJ49.out;omega) g s0_0 t268 _ _ l1_0 (wrap64 (a2+1)) a3 t272 t275 w0 _ ?side1 ?side2 ?side3 ?side4 A88.out).mono ?_
               (case side1=>exact Y4)
               (case side2=>exact Y8)
               (case side3=>exact Kd.jtb HR1_0.out (Y1))
               (case side4=>exact HC1_0.out)
               rintro e w101 ⟨v273,rfl,ho0,hi,hb,hk⟩
               refine ⟨_,rfl,?_⟩
               have HO274:=am (Kd.jQ (Kd.jvc (Kd.jxb ho0 (Kd.R_lt (rq HO271.out))) (g:=gb224) (o:=.cells #[.int .i64 a2, .int .i64 11, .int .i64 t265, .int .i64 t267] 52 (0,0)) (kq BK224.out)) (jJ (w:=w) (g:=g) (row:=none) (Y1)))
               replace BK219:=am (jb.blk hk (g':=gb219) (o:=.cells #[.slice A1_0 l1_0.length c1_0] 32 (0,0)) (kq BK219.out) NB219_0.out (by simp))
               replace BK224:=am (jb.blk hk (g':=gb224) (o:=.cells #[.int .i64 a2, .int .i64 11, .int .i64 t265, .int .i64 t267] 52 (0,0)) (kq BK224.out) NB224_0.out (by simp))
               replace HO271:=am (Kd.jE (Kd.R_told (Kd.R_oldK (jf.apart (show jf w0 _ g s0_0 t268 from Y4) (rq HO271.out) (by decide)) hk) (Kd.jyb ho0)) (fun _ h_=>h_.1))
               replace HK:=am (jb.trans (Y1) hk (.inl rfl))
               replace HB:=am (hb)
               replace HI0:=am (hi)
               (try clear hb)
               (try clear hb2)
               (try clear hk)
               (try clear hi)
               (try clear ho0)
               refine hK.out _ _ ⟨(jK BK224.out 0).trans rfl,(jK BK224.out 1).trans rfl,(jK BK224.out 2).trans rfl,(jK BK224.out 3).trans rfl,(jK BK219.out 0).trans rfl⟩ (fun hHeld=>?_)
               clear hK K
               refine jjc (a':=?_) ?_ ?_
               rotate_left
               ·show Act.put _ (some 89) _=_
                simp only [Act.put,List.setIfInBounds_toArray,List.set_cons_zero,List.set_cons_succ,jhb,jpb]
                rfl
               exact jjc (by simp only [putAll,Act.put,List.setIfInBounds_toArray,List.set_cons_zero,List.set_cons_succ]) (hCont (v270,v273) _ ⟨hHeld,(by (with_reducible repeat (first | apply Kd.jY | apply Kd.jX | apply Kd.jia));exact Kd.jE HO271.out (fun _ hk=>⟨hk.2,hk.1.2⟩)),(by (with_reducible repeat (first | apply Kd.jY | apply Kd.jX | apply Kd.jia));exact Kd.jE HO274.out (fun _ hk=>⟨hk.1.2,hk.2⟩)),(kq BK219.out),(kq BK224.out),(Y4),(Y1),(Y8)⟩)
              ·skip
               refine goes_ Try.func118 (by kernel_rfl) rfl #[.pointer (some ⟨g,0,none⟩), .agg #[.slice A1_0 l1_0.length c1_0], .int .i64 (wrap64 (a2+1)), .bool a3] (by rfl) rfl rfl (aq) ?_
               with_reducible refine (ih118 kj49 (by have:=HJ5.out;have:=HJ49.out;omega) g s0_0 t268 _ _ l1_0 (wrap64 (a2+1)) a3 t272 t275 w0 _ ?side1 ?side2 ?side3 ?side4 A88.out).mono ?_
               (case side1=>exact Y4)
               (case side2=>exact Y8)
               (case side3=>exact Kd.jtb HR1_0.out (Y1))
               (case side4=>exact HC1_0.out)
               rintro e w99 ⟨v273,rfl,ho0,hi,hb,hk⟩
               refine ⟨_,rfl,?_⟩
               have HO274:=am (Kd.jQ (Kd.jvc ho0 (g:=gb224) (o:=.cells #[.int .i64 a2, .int .i64 11, .int .i64 t265, .int .i64 t267] 52 (0,0)) (kq BK224.out)) (jJ (w:=w) (g:=g) (row:=none) (Y1)))
               replace BK219:=am (jb.blk hk (g':=gb219) (o:=.cells #[.slice A1_0 l1_0.length c1_0] 32 (0,0)) (kq BK219.out) NB219_0.out (by simp))
               replace BK224:=am (jb.blk hk (g':=gb224) (o:=.cells #[.int .i64 a2, .int .i64 11, .int .i64 t265, .int .i64 t267] 52 (0,0)) (kq BK224.out) NB224_0.out (by simp))
               replace HK:=am (jb.trans (Y1) hk (.inl rfl))
               replace HB:=am (hb)
               replace HI0:=am (hi)
               (try clear hb)
               (try clear hb2)
               (try clear hk)
               (try clear hi)
               (try clear ho0)
               refine hK.out _ _ ⟨(jK BK224.out 0).trans rfl,(jK BK224.out 1).trans rfl,(jK BK224.out 2).trans rfl,(jK BK224.out 3).trans rfl,(jK BK219.out 0).trans rfl⟩ (fun hHeld=>?_)
               clear hK K
               refine jjc (a':=?_) ?_ ?_
               rotate_left
               ·show Act.put _ (some 89) _=_
                simp only [Act.put,List.setIfInBounds_toArray,List.set_cons_zero,List.set_cons_succ,jhb,jpb]
                rfl
               refine one_ (i:=1) (N:=some 83) #[true,true,true,true,true,true,true,true,false,false] rfl rfl (jTb HT_.out (by kernel_rfl)) (by decide) (fun K hK=>?_)
               refine Kd.jdc k52 _ 52 ?hg (N:=83) ?hd (xs:=([(⟨a2,11,t265,t267⟩:S52)]:List (S52))) (inner:=[.int .i64 a2, .int .i64 11, .int .i64 t265, .int .i64 t267]) (ok:=fun _=>True) (okp:=fun _=>True) ?hr ?hp (fun _ hk=>hk) trivial (Below.refl _ _) (Nat.le_refl _) (by simp) ?_;(case hd=>rfl);(case hg=>rfl);(case hr=>exact Y7);(case hp=>exact (Reps.c4 (show Kd.M k52 _ _ _ (⟨a2,11,t265,t267⟩:S52) [.int .i64 a2, .int .i64 11, .int .i64 t265, .int .i64 t267] from (jEb _ _ _ (⟨a2,11,t265,t267⟩:S52) )) (Reps.none _ _)))
               intro v270 w100 ho101 hb hg_ hnew_
               clear hg_ hnew_
               (first | rw [← Ny269.out] at ho101 |(simp only [Int.reduceToNat] at ho101;rw [← Ny269.out] at ho101))
               have HO271:=am (Kd.jQ (Kd.jvc (Kd.jxb ho101 (Kd.R_lt (rq HO274.out))) (g:=gb224) (o:=.cells #[.int .i64 a2, .int .i64 11, .int .i64 t265, .int .i64 t267] 52 (0,0)) (kq BK224.out)) (jJ (w:=w) (g:=g) (row:=none) (Y1)))
               replace HO274:=am (Kd.job (rq HO274.out) (Kd.jyb ho101) hb)
               replace BK219:=am (jm (g:=gb219) (o:=.cells #[.slice A1_0 l1_0.length c1_0] 32 (0,0)) (kq BK219.out) hb)
               replace BK224:=am (jm (g:=gb224) (o:=.cells #[.int .i64 a2, .int .i64 11, .int .i64 t265, .int .i64 t267] 52 (0,0)) (kq BK224.out) hb)
               replace HK:=am (jb.trans (Y1) (jb.of_below hb g none) (.inl rfl))
               replace HB:=am (je (Y8) hb)
               replace HI0:=am (jf.below (Y4) hb)
               clear hb ho101
               refine hK.out _ _ ⟨(jK BK224.out 0).trans rfl,(jK BK224.out 1).trans rfl,(jK BK224.out 2).trans rfl,(jK BK224.out 3).trans rfl,(jK BK219.out 0).trans rfl⟩ (fun hHeld=>?_)
               clear hK K
               refine jjc (a':=?_) ?_ ?_
               rotate_left
               ·show Act.put _ (some 83) _=_
                simp only [Act.put,List.setIfInBounds_toArray,List.set_cons_zero,List.set_cons_succ,jhb,jpb]
                rfl
               exact jjc (by simp only [putAll,Act.put,List.setIfInBounds_toArray,List.set_cons_zero,List.set_cons_succ]) (hCont (v270,v273) _ ⟨hHeld,(by (with_reducible repeat (first | apply Kd.jY | apply Kd.jX | apply Kd.jia));exact Kd.jE HO271.out (fun _ hk=>⟨hk.1.2,hk.2⟩)),(by (with_reducible repeat (first | apply Kd.jY | apply Kd.jX | apply Kd.jia));exact Kd.jE HO274.out (fun _ hk=>⟨hk.2,hk.1.2⟩)),(kq BK219.out),(kq BK224.out),(Y4),(Y1),(Y8)⟩)
             rintro ⟨v270,v273⟩ w102 ⟨hS_,h0_,h1_,h2_,h3_,h4_,h5_,h6_⟩
             have n0_:jq (Kd.R k52 52 w102 w.heap.size (fun k_=>some k_≠(v273:Value).ownBlock∧k_≠gb224) v270 y269):=⟨h0_⟩
             have n1_:jq (Kd.R k52 52 w102 w.heap.size (fun k_=>some k_≠(v270:Value).ownBlock∧k_≠gb224) v273 t272):=⟨h1_⟩
             have n2_:jq (w102.heap[gb219]?=some (.cells #[.slice A1_0 l1_0.length c1_0] 32 (0,0))):=⟨h2_⟩
             have n3_:jq (w102.heap[gb224]?=some (.cells #[.int .i64 a2, .int .i64 11, .int .i64 t265, .int .i64 t267] 52 (0,0))):=⟨h3_⟩
             have n4_:jq (jf w0 w102 g s0_0 t275):=⟨h4_⟩
             have n5_:jq (jb w w102 g none):=⟨h5_⟩
             have n6_:jq (Below w0.heap.size w0 w102):=⟨h6_⟩
             clear BK219
             clear BK224
             clear HI0
             clear HK
             clear HB
             clear h0_ h1_ h2_ h3_ h4_ h5_ h6_
             have HO271:=n0_
             have HO274:=n1_
             have BK219:=n2_
             have BK224:=n3_
             have HI0:=n4_
             have HK:=n5_
             have HB:=n6_
             clear n0_ n1_ n2_ n3_ n4_ n5_ n6_
             have hHeld:w102.cell? ⟨gb224,0,none⟩=some (.int .i64 a2)∧w102.cell? ⟨gb224,1,none⟩=some (.int .i64 11)∧w102.cell? ⟨gb224,2,none⟩=some (.int .i64 t265)∧w102.cell? ⟨gb224,3,none⟩=some (.int .i64 t267)∧w102.cell? ⟨gb219,0,none⟩=some (.slice A1_0 l1_0.length c1_0):=hS_
             obtain ⟨Ao104,co104,eo104⟩:=Kd.jU HO274.out
             (first | subst eo104 |(injection eo104 with f1_ f2_ f3_;have f4_:=f1_.symm;have f5_:=f3_.symm;clear f1_ f2_ f3_;subst f4_;subst f5_))
             refine jjc (a':=?_) ?_ ?_
             rotate_left
             ·simp only [putAll,Act.put,List.setIfInBounds_toArray,List.set_cons_zero,List.set_cons_succ]
              rfl
             refine one_ (i:=8) (N:=some 90) #[true,true,true,true,true,true,true,true,true,false] rfl rfl (jTb HT_.out (by kernel_rfl)) (by decide) (fun K hK=>?_)
             refine Kd.jAc k52 w.heap.size (by rfl) (.tmp 83) (.tmp 89) 34 52 (.agg #[(.int .i64 0),(.int .i64 0),(.int .i64 0),(.int .i64 0)]) 32 rfl Try.underlying34 jyc rfl (by decide) (by omega) v270 y269 t272 _ _ _ (fun k_=>some k_≠(.slice Ao104 t272.length co104:Value).ownBlock∧k_≠gb224) (fun _=>False) rfl rfl ?aO ?aR (fun _ _ h=>h) (fun _ h=>h.elim) ?aF (Below.refl _ _) ?aS ?aL ?_
             (case aR=>repeat (first | exact (Kd.jh HO274.out).2.2 |(with_reducible refine Kd.jkc ?_ _) |(with_reducible refine Kd.jic ?_ _) |(with_reducible refine Kd.jIc ?_)))
             (case aF=>exact (fun k_ hk=>⟨Kd.fresh' (Kd.R_lt (rq HO274.out)) k_ hk,Kd.freshB (g:=gb224) (o:=.cells #[.int .i64 a2, .int .i64 11, .int .i64 t265, .int .i64 t267] 52 (0,0)) (kq BK224.out) k_ hk⟩))
             (case aO=>exact (rq HO271.out))
             (case aS=>exact (jJ (w:=w) (g:=g) (row:=none) (Y1)))
             (case aL=>have:=LMc89.out;omega)
             intro v277 w103 ho hb hg hat
             rw [← Ny276.out] at ho
             have n0_:=am (jbb (g:=gb219) (o:=.cells #[.slice A1_0 l1_0.length c1_0] 32 (0,0)) (kq BK219.out) hg (Kd.R_ne HO271.out BK219.out (by decide)))
             have n1_:=am (jbb (g:=gb224) (o:=.cells #[.int .i64 a2, .int .i64 11, .int .i64 t265, .int .i64 t267] 52 (0,0)) (kq BK224.out) hg (Kd.R_away HO271.out (fun _ hk=>hk.2)))
             have n2_:=am (jf.grown (Y4) hg (jf.own_ne HI0.out HO271.out (by decide)))
             have n3_:=am (Kd.jmc (ok:=(fun k_=>k_≠gb224)) (by (with_reducible repeat (first | apply Kd.jY | apply Kd.jX | apply Kd.jia));exact Kd.jE HO274.out (fun _ hk=>⟨hk.2,hk.1⟩)) hg hat)
             have n4_:=am (jib (Y8) HL.out hb)
             have n5_:=am (jb.trans (Y1) (jb.jBb hg g) (Kd.jXb HO271.out))
             have n6_:=am (ho)
             clear BK219
             clear BK224
             clear HI0
             clear HO274
             clear HB
             clear HK
             clear HO271
             have BK219:=n0_
             have BK224:=n1_
             have HI0:=n2_
             have HO274:=n3_
             have HB:=n4_
             have HK:=n5_
             have HO278:=n6_
             clear n0_ n1_ n2_ n3_ n4_ n5_ n6_
             clear ho hb hg hat
             refine hK.out _ _ ⟨(jK BK224.out 0).trans rfl,(jK BK224.out 1).trans rfl,(jK BK224.out 2).trans rfl,(jK BK224.out 3).trans rfl,(jK BK219.out 0).trans rfl⟩ (fun hHeld=>?_)
             clear hK K
             refine jjc (a':=?_) ?_ ?_
             rotate_left
             ·show Act.put _ (some 90) _=_
              simp only [Act.put,List.setIfInBounds_toArray,List.set_cons_zero,List.set_cons_succ,jhb,jpb]
              rfl
             refine pq (i:=9) (N:=some 8) #[true,true,true,true,true,true,true,true,true,true] ?_
             refine done_ (done_of HT_.out (by kernel_rfl)) ?_
             try go_wp2
             go_ret
             exact ⟨_,Y0,by (with_reducible repeat (first | apply Kd.jY | apply Kd.jX | apply Kd.jia));exact Kd.jE HO278.out (fun _ hk=>trivial),Y4,Y8,Y1⟩
            ·rw [if_neg c89] at H
             exact absurd H (by simp)
           ·rw [if_neg c85] at H
            have c85b0:decide (x9_5<11)=false:=dzF c85
            clear c85
            by_cases c105:x9_5=11
            ·rw [if_pos c105] at H
             have c105b0:(x9_5 == 11)=true:=beq_iff_eq.mpr c105
             have c105b1:(x9_5 != 11)=false:=bne_eq_false_iff_eq.mpr c105
             clear c105
             obtain ⟨y279,hy279⟩:∃ y_:List Int,y_=(([2,1,3,0]:List Int)):=⟨_,rfl⟩
             replace H:((ji.f kj49 s0_0 x1001_5 y279).bind fun bt282=>((some (([(⟨a2,12,bt282.1,0⟩:S52)]:List (S52)):List (S52))).bind fun y284=>((jI.f kj49 s0_0 bt282.2 l1_0 (wrap64 (a2+1)) true).bind fun bt287=>(if y284.length+bt287.1.length<4398046511104 then (some ((y284 ++ bt287.1),bt287.2)) else (none)))))=some (r1,r2):=by first |(rw [hy279];with_reducible exact H) |(have H2_:=(Option.bind_some _ _).symm.trans H;rw [hy279];with_reducible exact H2_) |(have H2_:=(Option.bind_some _ _).symm.trans H;with_reducible exact H2_) | with_reducible exact H |(rw [hy279];exact H) | exact H
             have Ny279:=am hy279
             clear hy279
             replace H:=bzS H
             obtain ⟨⟨t282,t283⟩,A1060,H⟩:=H
             replace H:((some (([(⟨a2,12,t282,0⟩:S52)]:List (S52)):List (S52))).bind fun y284=>((jI.f kj49 s0_0 t283 l1_0 (wrap64 (a2+1)) true).bind fun bt287=>(if y284.length+bt287.1.length<4398046511104 then (some ((y284 ++ bt287.1),bt287.2)) else (none))))=some (r1,r2):=H
             have A106:=am A1060
             clear A1060
             obtain ⟨y284,hy284⟩:∃ y_:List (S52),y_=(([(⟨a2,12,t282,0⟩:S52)]:List (S52))):=⟨_,rfl⟩
             replace H:((jI.f kj49 s0_0 t283 l1_0 (wrap64 (a2+1)) true).bind fun bt287=>(if y284.length+bt287.1.length<4398046511104 then (some ((y284 ++ bt287.1),bt287.2)) else (none)))=some (r1,r2):=by first |(rw [hy284];with_reducible exact H) |(have H2_:=(Option.bind_some _ _).symm.trans H;rw [hy284];with_reducible exact H2_) |(have H2_:=(Option.bind_some _ _).symm.trans H;with_reducible exact H2_) | with_reducible exact H |(rw [hy284];exact H) | exact H
             have Ny284:=am hy284
             clear hy284
             replace H:=bzS H
             obtain ⟨⟨t287,t290⟩,A1070,H⟩:=H
             replace H:(if y284.length+t287.length<4398046511104 then (some ((y284 ++ t287),t290)) else (none))=some (r1,r2):=H
             have A107:=am A1070
             clear A1070
             by_cases c108:y284.length+t287.length<4398046511104
             ·rw [if_pos c108] at H
              have LMc108:=am c108
              clear c108
              obtain ⟨y291,hy291⟩:∃ y_:List (S52),y_=(y284 ++ t287):=⟨_,rfl⟩
              replace H:(some (y291,t290))=some (r1,r2):=by first |(rw [hy291];with_reducible exact H) |(have H2_:=(Option.bind_some _ _).symm.trans H;rw [hy291];with_reducible exact H2_) |(have H2_:=(Option.bind_some _ _).symm.trans H;with_reducible exact H2_) | with_reducible exact H |(rw [hy291];exact H) | exact H
              have Ny291:=am hy291
              clear hy291
              simp only [Option.some.injEq,Prod.mk.injEq] at H
              obtain ⟨rfl,rfl⟩:=H
              have hnb109:=NB224_219.out
              have hnc109:=NB219_224.out
              have hnb110:=NB224_0.out
              have hnc110:=NB0_224.out
              have hcz111_0:=bc0 BK224.out
              have hcz111_1:=bc1 BK224.out
              have hcz111_2:=bc2 BK224.out
              have hcz111_3:=bc3 BK224.out
              have hfz111_0:=ja BK224.out 0
              have hfz111_1:=ja BK224.out 1
              have hfz111_2:=ja BK224.out 2
              have hfz111_3:=ja BK224.out 3
              try go_wp2_with (first |((with_reducible refine jM (N:=96) rfl ?_);refine Kd.jbc (Kd.int .i64) _ 3 ?hg (N:=96) ?hd (xs:=([2,1,3,0]:List Int)) (inner:=[.int .i64 2, .int .i64 1, .int .i64 3, .int .i64 0]) (ok:=fun _=>True) (okp:=fun _=>True) ?hr ?hp (fun _ hk=>hk) trivial (Below.refl _ _) (Nat.le_refl _) (by simp) ?_;(case hd=>rfl);(case hg=>rfl);(case hr=>exact Y7);(case hp=>exact (Reps.one (show Kd.M (Kd.int .i64) _ _ _ 2 [.int .i64 2] from rfl) (Reps.one (show Kd.M (Kd.int .i64) _ _ _ 1 [.int .i64 1] from rfl) (Reps.one (show Kd.M (Kd.int .i64) _ _ _ 3 [.int .i64 3] from rfl) (Reps.one (show Kd.M (Kd.int .i64) _ _ _ 0 [.int .i64 0] from rfl) (Reps.none _ _))))));intro v280 w112 ho113 hb hg_ hnew_;clear hg_ hnew_;(first | rw [← Ny279.out] at ho113 |(simp only [Int.reduceToNat] at ho113;rw [← Ny279.out] at ho113));have HO281:=am (Kd.jQ ho113 (jJ (w:=w) (g:=g) (row:=none) (Y1)));replace BK219:=am (jm (g:=gb219) (o:=.cells #[.slice A1_0 l1_0.length c1_0] 32 (0,0)) (Y43) hb);replace BK224:=am (jm (g:=gb224) (o:=.cells #[.int .i64 a2, .int .i64 12, .int .i64 0, .int .i64 0] 52 (0,0)) (Y57) hb);replace HK:=am (jb.trans (Y1) (jb.of_below hb g none) (.inl rfl));replace HB:=am (je (Y8) hb);replace HI0:=am (jf.below (show jf w0 (wc.setCell ⟨gb224,1,none⟩ (.int .i64 12)) g s0_0 x1001_5 from Y4) hb);clear hb ho113;obtain ⟨Ao114,co114,eo114⟩:=Kd.jU HO281.out;subst eo114) |((with_reducible refine jd (f:=91) rfl ?_);refine gL (some 97) Try.func91 #[.pointer (some ⟨g,0,none⟩), .slice Ao114 y279.length co114] ?_;(with_reducible refine (ji.calls kj49 g s0_0 x1001_5 _ _ y279 t282 t283 w0 _ ?side1 ?side2 ?side3 ?side4 ?side5 A106.out).mono ?_);(case side1=>exact Y4);(case side2=>exact Y8);(case side3=>exact cq (Kd.jh HO281.out).2.2);(case side4=>exact (Kd.jh HO281.out).2.1);(case side5=>exact jzb (jf.own_ne HI0.out HO281.out (by decide)));rintro e w115 ⟨rfl,hi,hb,hk⟩;refine ⟨_,rfl,?_⟩;replace BK219:=am (jb.blk hk (g':=gb219) (o:=.cells #[.slice A1_0 l1_0.length c1_0] 32 (0,0)) (kq BK219.out) NB219_0.out (by simp));replace BK224:=am (jb.blk hk (g':=gb224) (o:=.cells #[.int .i64 a2, .int .i64 12, .int .i64 0, .int .i64 0] 52 (0,0)) (kq BK224.out) NB224_0.out (by simp));replace HO281:=am (Kd.jE (Kd.jxa (jf.apart (show jf w0 _ g s0_0 x1001_5 from Y4) (rq HO281.out) (by decide)) hk (fun _ h=>h.2)) (fun _ h=>h.1));replace HK:=am (jb.trans (Y1) hk (.inl rfl));replace HB:=am (hb);replace HI0:=am (hi);(try clear hb);(try clear hb2);(try clear hk);(try clear hi);have hcz116_0:=bc0 BK224.out;have hcz116_1:=bc1 BK224.out;have hcz116_2:=bc2 BK224.out;have hcz116_3:=bc3 BK224.out;have hfz116_0:=ja BK224.out 0;have hfz116_1:=ja BK224.out 1;have hfz116_2:=ja BK224.out 2;have hfz116_3:=ja BK224.out 3))
              have n0_:jq (Kd.R (Kd.int .i64) 3 (w115.setCell ⟨gb224,2,none⟩ (.int .i64 t282)) w.heap.size (fun _=>True) (.slice Ao114 y279.length co114) y279):=⟨by (with_reducible repeat (first | apply Kd.jY | apply Kd.jX | apply Kd.jia));exact Kd.jE (Kd.jLb (p:=⟨gb224,2,none⟩) (Kd.jPa HO281.out BK224.out (by decide)) (fun _ hk=>hk.2) (.int .i64 t282)) (fun _ hk=>trivial)⟩
              have n1_:jq ((w115.setCell ⟨gb224,2,none⟩ (.int .i64 t282)).heap[gb219]?=some (.cells #[.slice A1_0 l1_0.length c1_0] 32 (0,0))):=⟨by (with_reducible repeat (first | refine jy ?_ _ | refine jD ?_ | refine jB ?_ _));refine jlb ?_ NB219_224.out _;(with_reducible repeat (first | refine jy ?_ _ | refine jD ?_ | refine jB ?_ _));exact BK219.out⟩
              have n2_:jq ((w115.setCell ⟨gb224,2,none⟩ (.int .i64 t282)).heap[gb224]?=some (.cells #[.int .i64 a2, .int .i64 12, .int .i64 t282, .int .i64 0] 52 (0,0))):=⟨by (with_reducible repeat (first | refine jy ?_ _ | refine jD ?_ | refine jB ?_ _));refine jZa (cs:=#[.int .i64 a2, .int .i64 12, .int .i64 0, .int .i64 0]) ?_ 2 _ rfl;(with_reducible repeat (first | refine jy ?_ _ | refine jD ?_ | refine jB ?_ _));exact BK224.out⟩
              have n3_:jq (jf w0 (w115.setCell ⟨gb224,2,none⟩ (.int .i64 t282)) g s0_0 t283):=⟨Y4⟩
              have n4_:jq (jb w (w115.setCell ⟨gb224,2,none⟩ (.int .i64 t282)) g none):=⟨Y1⟩
              have n5_:jq (Below w0.heap.size w0 (w115.setCell ⟨gb224,2,none⟩ (.int .i64 t282))):=⟨Y8⟩
              (try clear HO281)
              (try clear BK219)
              (try clear BK224)
              (try clear HI0)
              (try clear HK)
              (try clear HB)
              generalize (w115.setCell ⟨gb224,2,none⟩ (.int .i64 t282))=w117 at n0_ n1_ n2_ n3_ n4_ n5_ ⊢
              have HO281:=n0_
              have BK219:=n1_
              have BK224:=n2_
              have HI0:=n3_
              have HK:=n4_
              have HB:=n5_
              clear n0_ n1_ n2_ n3_ n4_ n5_
              replace HO281:=am (Kd.jia HO281.out)
              replace BK219:=am (jD BK219.out)
              replace BK224:=am (jD BK224.out)
              replace HI0:=am (jf.drew HI0.out)
              replace HK:=am (jMa HK.out)
              replace HB:=am (jS HB.out)
              refine start_ (n:=9) (S:=fun w'=>w'.cell? ⟨gb224,0,none⟩=some (.int .i64 a2)∧w'.cell? ⟨gb224,1,none⟩=some (.int .i64 12)∧w'.cell? ⟨gb224,2,none⟩=some (.int .i64 t282)∧w'.cell? ⟨gb224,3,none⟩=some (.int .i64 0)∧w'.cell? ⟨gb219,0,none⟩=some (.slice A1_0 l1_0.length c1_0)) (ds:=[]) #[false,false,false,false,false,false,false,false,false] (by kernel_rfl) rfl rfl ⟨(jK BK224.out 0).trans rfl,(jK BK224.out 1).trans rfl,(jK BK224.out 2).trans rfl,(jK BK224.out 3).trans rfl,(jK BK219.out 0).trans rfl⟩ (fun hHeld=>?_);refine jqc jA.tab30 jA.bits30 (fun HT_ HW_=>?_)
              generalize w117.drew=w118 at HO281 BK219 BK224 HI0 HK HB hHeld ⊢
              refine pq (i:=2) (N:=some 101) #[false,false,true,false,false,false,false,false,false] ?_
              refine pq (i:=4) (N:=some 103) #[false,false,true,false,true,false,false,false,false] ?_
              refine pq (i:=5) (N:=some 104) #[false,false,true,false,true,true,false,false,false] ?_
              refine take_ (i:=0) (N:=some 99) (v:=?_) (a':=?_) #[true,false,true,false,true,true,false,false,false] rfl rfl (jlc HT_.out HW_.out (by kernel_rfl)) (fun _ _ _ h=>h) (Or.inl ⟨by rfl,?_⟩) hHeld ?_ ?_
              rotate_left
              ·rintro w' ⟨s0,s1,s2,s3,s4⟩
               go_simp
               with_reducible rfl
              rotate_left
              ·exact sa
              refine take_ (i:=3) (N:=some 102) (v:=?_) (a':=?_) #[true,false,true,true,true,true,false,false,false] rfl rfl (jlc HT_.out HW_.out (by kernel_rfl)) (fun _ _ _ h=>h) (Or.inl ⟨by rfl,?_⟩) hHeld ?_ ?_
              rotate_left
              ·rintro w' ⟨s0,s1,s2,s3,s4⟩
               go_simp
               with_reducible rfl
              rotate_left
              ·exact sa
              refine join_ (σ:=Value × Value) 2 #[true,true,true,true,true,true,true,false,false] (fun s_=>[(100,s_.1),(105,s_.2)]) (fun s_ w'=>(w'.cell? ⟨gb224,0,none⟩=some (.int .i64 a2)∧w'.cell? ⟨gb224,1,none⟩=some (.int .i64 12)∧w'.cell? ⟨gb224,2,none⟩=some (.int .i64 t282)∧w'.cell? ⟨gb224,3,none⟩=some (.int .i64 0)∧w'.cell? ⟨gb219,0,none⟩=some (.slice A1_0 l1_0.length c1_0))∧(Kd.R (Kd.int .i64) 3 w' w.heap.size (fun _=>True) (.slice Ao114 y279.length co114) y279)∧(Kd.R k52 52 w' w.heap.size (fun k_=>some k_≠(s_.2:Value).ownBlock∧k_≠gb224) s_.1 y284)∧(Kd.R k52 52 w' w.heap.size (fun k_=>some k_≠(s_.1:Value).ownBlock∧k_≠gb224) s_.2 t287)∧(w'.heap[gb219]?=some (.cells #[.slice A1_0 l1_0.length c1_0] 32 (0,0)))∧(w'.heap[gb224]?=some (.cells #[.int .i64 a2, .int .i64 12, .int .i64 t282, .int .i64 0] 52 (0,0)))∧(jf w0 w' g s0_0 t290)∧(jb w w' g none)∧(Below w0.heap.size w0 w')) ?_ ?_
              rotate_left
              ·intro hCont
               refine two_ (i:=1) (j:=6) (Ni:=some 100) (Nj:=some 105) #[true,true,true,true,true,true,false,false,false] #[true,false,true,true,true,true,true,false,false] rfl rfl rfl rfl (two_of HT_.out (by kernel_rfl)) (by decide) (by decide) (fun K hK=>?_) (fun K hK=>?_)
               ·skip
                refine Kd.jdc k52 _ 52 ?hg (N:=100) ?hd (xs:=([(⟨a2,12,t282,0⟩:S52)]:List (S52))) (inner:=[.int .i64 a2, .int .i64 12, .int .i64 t282, .int .i64 0]) (ok:=fun _=>True) (okp:=fun _=>True) ?hr ?hp (fun _ hk=>hk) trivial (Below.refl _ _) (Nat.le_refl _) (by simp) ?_;(case hd=>rfl);(case hg=>rfl);(case hr=>exact Y7);(case hp=>exact (Reps.c4 (show Kd.M k52 _ _ _ (⟨a2,12,t282,0⟩:S52) [.int .i64 a2, .int .i64 12, .int .i64 t282, .int .i64 0] from (jEb _ _ _ (⟨a2,12,t282,0⟩:S52) )) (Reps.none _ _)))
                intro v285 w119 ho120 hb hg_ hnew_
                clear hg_ hnew_
                (first | rw [← Ny284.out] at ho120 |(simp only [Int.reduceToNat] at ho120;rw [← Ny284.out] at ho120))
                have HO286:=am (Kd.jQ (Kd.jvc ho120 (g:=gb224) (o:=.cells #[.int .i64 a2, .int .i64 12, .int .i64 t282, .int .i64 0] 52 (0,0)) (kq BK224.out)) (jJ (w:=w) (g:=g) (row:=none) (Y1)))
                replace HO281:=am (Kd.jT (rq HO281.out) hb)
                replace BK219:=am (jm (g:=gb219) (o:=.cells #[.slice A1_0 l1_0.length c1_0] 32 (0,0)) (kq BK219.out) hb)
                replace BK224:=am (jm (g:=gb224) (o:=.cells #[.int .i64 a2, .int .i64 12, .int .i64 t282, .int .i64 0] 52 (0,0)) (kq BK224.out) hb)
                replace HK:=am (jb.trans (Y1) (jb.of_below hb g none) (.inl rfl))
                replace HB:=am (je (Y8) hb)
                replace HI0:=am (jf.below (Y4) hb)
                clear hb ho120
                refine hK.out _ _ ⟨(jK BK224.out 0).trans rfl,(jK BK224.out 1).trans rfl,(jK BK224.out 2).trans rfl,(jK BK224.out 3).trans rfl,(jK BK219.out 0).trans rfl⟩ (fun hHeld=>?_)
                clear hK K
                refine jjc (a':=?_) ?_ ?_
                rotate_left
                ·show Act.put _ (some 100) _=_
                 simp only [Act.put,List.setIfInBounds_toArray,List.set_cons_zero,List.set_cons_succ,jhb,jpb]
                 rfl
                refine one_ (i:=6) (N:=some 105) #[true,true,true,true,true,true,true,false,false] rfl rfl (jTb HT_.out (by kernel_rfl)) (by decide) (fun K hK=>?_)
                refine goes_ Try.func118 (by kernel_rfl) rfl #[.pointer (some ⟨g,0,none⟩), .agg #[.slice A1_0 l1_0.length c1_0], .int .i64 (wrap64 (a2+1)), .bool true] (by rfl) rfl rfl (aq) ?_
                with_reducible refine (ih118 kj49 (by have:=HJ5.out;have:=HJ49.out;omega) g s0_0 t283 _ _ l1_0 (wrap64 (a2+1)) true t287 t290 w0 _ ?side1 ?side2 ?side3 ?side4 A107.out).mono ?_
                (case side1=>exact Y4)
                (case side2=>exact Y8)
                (case side3=>exact Kd.jtb HR1_0.out (Y1))
                (case side4=>exact HC1_0.out)
                rintro e w121 ⟨v288,rfl,ho0,hi,hb,hk⟩
                refine ⟨_,rfl,?_⟩
                have HO289:=am (Kd.jQ (Kd.jvc (Kd.jxb ho0 (Kd.R_lt (rq HO286.out))) (g:=gb224) (o:=.cells #[.int .i64 a2, .int .i64 12, .int .i64 t282, .int .i64 0] 52 (0,0)) (kq BK224.out)) (jJ (w:=w) (g:=g) (row:=none) (Y1)))
                replace BK219:=am (jb.blk hk (g':=gb219) (o:=.cells #[.slice A1_0 l1_0.length c1_0] 32 (0,0)) (kq BK219.out) NB219_0.out (by simp))
                replace BK224:=am (jb.blk hk (g':=gb224) (o:=.cells #[.int .i64 a2, .int .i64 12, .int .i64 t282, .int .i64 0] 52 (0,0)) (kq BK224.out) NB224_0.out (by simp))
                replace HO281:=am (Kd.jE (Kd.jxa (jf.apart (show jf w0 _ g s0_0 t283 from Y4) (rq HO281.out) (by decide)) hk (fun _ h=>h.2)) (fun _ h=>h.1))
                replace HO286:=am (Kd.jE (Kd.R_told (Kd.R_oldK (jf.apart (show jf w0 _ g s0_0 t283 from Y4) (rq HO286.out) (by decide)) hk) (Kd.jyb ho0)) (fun _ h_=>h_.1))
                replace HK:=am (jb.trans (Y1) hk (.inl rfl))
                replace HB:=am (hb)
                replace HI0:=am (hi)
                (try clear hb)
                (try clear hb2)
                (try clear hk)
                (try clear hi)
                (try clear ho0)
                refine hK.out _ _ ⟨(jK BK224.out 0).trans rfl,(jK BK224.out 1).trans rfl,(jK BK224.out 2).trans rfl,(jK BK224.out 3).trans rfl,(jK BK219.out 0).trans rfl⟩ (fun hHeld=>?_)
                clear hK K
                refine jjc (a':=?_) ?_ ?_
                rotate_left
                ·show Act.put _ (some 105) _=_
                 simp only [Act.put,List.setIfInBounds_toArray,List.set_cons_zero,List.set_cons_succ,jhb,jpb]
                 rfl
                exact jjc (by simp only [putAll,Act.put,List.setIfInBounds_toArray,List.set_cons_zero,List.set_cons_succ]) (hCont (v285,v288) _ ⟨hHeld,(rq HO281.out),(by (with_reducible repeat (first | apply Kd.jY | apply Kd.jX | apply Kd.jia));exact Kd.jE HO286.out (fun _ hk=>⟨hk.2,hk.1.2⟩)),(by (with_reducible repeat (first | apply Kd.jY | apply Kd.jX | apply Kd.jia));exact Kd.jE HO289.out (fun _ hk=>⟨hk.1.2,hk.2⟩)),(kq BK219.out),(kq BK224.out),(Y4),(Y1),(Y8)⟩)
               ·skip
                refine goes_ Try.func118 (by kernel_rfl) rfl #[.pointer (some ⟨g,0,none⟩), .agg #[.slice A1_0 l1_0.length c1_0], .int .i64 (wrap64 (a2+1)), .bool true] (by rfl) rfl rfl (aq) ?_
                with_reducible refine (ih118 kj49 (by have:=HJ5.out;have:=HJ49.out;omega) g s0_0 t283 _ _ l1_0 (wrap64 (a2+1)) true t287 t290 w0 _ ?side1 ?side2 ?side3 ?side4 A107.out).mono ?_
                (case side1=>exact Y4)
                (case side2=>exact Y8)
                (case side3=>exact Kd.jtb HR1_0.out (Y1))
                (case side4=>exact HC1_0.out)
                rintro e w119 ⟨v288,rfl,ho0,hi,hb,hk⟩
                refine ⟨_,rfl,?_⟩
                have HO289:=am (Kd.jQ (Kd.jvc ho0 (g:=gb224) (o:=.cells #[.int .i64 a2, .int .i64 12, .int .i64 t282, .int .i64 0] 52 (0,0)) (kq BK224.out)) (jJ (w:=w) (g:=g) (row:=none) (Y1)))
                replace BK219:=am (jb.blk hk (g':=gb219) (o:=.cells #[.slice A1_0 l1_0.length c1_0] 32 (0,0)) (kq BK219.out) NB219_0.out (by simp))
                replace BK224:=am (jb.blk hk (g':=gb224) (o:=.cells #[.int .i64 a2, .int .i64 12, .int .i64 t282, .int .i64 0] 52 (0,0)) (kq BK224.out) NB224_0.out (by simp))
                replace HO281:=am (Kd.jE (Kd.jxa (jf.apart (show jf w0 _ g s0_0 t283 from Y4) (rq HO281.out) (by decide)) hk (fun _ h=>h.2)) (fun _ h=>h.1))
                replace HK:=am (jb.trans (Y1) hk (.inl rfl))
                replace HB:=am (hb)
                replace HI0:=am (hi)
                (try clear hb)
                (try clear hb2)
                (try clear hk)
                (try clear hi)
                (try clear ho0)
                refine hK.out _ _ ⟨(jK BK224.out 0).trans rfl,(jK BK224.out 1).trans rfl,(jK BK224.out 2).trans rfl,(jK BK224.out 3).trans rfl,(jK BK219.out 0).trans rfl⟩ (fun hHeld=>?_)
                clear hK K
                refine jjc (a':=?_) ?_ ?_
                rotate_left
                ·show Act.put _ (some 105) _=_
                 simp only [Act.put,List.setIfInBounds_toArray,List.set_cons_zero,List.set_cons_succ,jhb,jpb]
                 rfl
                refine one_ (i:=1) (N:=some 100) #[true,true,true,true,true,true,true,false,false] rfl rfl (jTb HT_.out (by kernel_rfl)) (by decide) (fun K hK=>?_)
                refine Kd.jdc k52 _ 52 ?hg (N:=100) ?hd (xs:=([(⟨a2,12,t282,0⟩:S52)]:List (S52))) (inner:=[.int .i64 a2, .int .i64 12, .int .i64 t282, .int .i64 0]) (ok:=fun _=>True) (okp:=fun _=>True) ?hr ?hp (fun _ hk=>hk) trivial (Below.refl _ _) (Nat.le_refl _) (by simp) ?_;(case hd=>rfl);(case hg=>rfl);(case hr=>exact Y7);(case hp=>exact (Reps.c4 (show Kd.M k52 _ _ _ (⟨a2,12,t282,0⟩:S52) [.int .i64 a2, .int .i64 12, .int .i64 t282, .int .i64 0] from (jEb _ _ _ (⟨a2,12,t282,0⟩:S52) )) (Reps.none _ _)))
                intro v285 w120 ho121 hb hg_ hnew_
                clear hg_ hnew_
                (first | rw [← Ny284.out] at ho121 |(simp only [Int.reduceToNat] at ho121;rw [← Ny284.out] at ho121))
                have HO286:=am (Kd.jQ (Kd.jvc (Kd.jxb ho121 (Kd.R_lt (rq HO289.out))) (g:=gb224) (o:=.cells #[.int .i64 a2, .int .i64 12, .int .i64 t282, .int .i64 0] 52 (0,0)) (kq BK224.out)) (jJ (w:=w) (g:=g) (row:=none) (Y1)))
                replace HO281:=am (Kd.jT (rq HO281.out) hb)
                replace HO289:=am (Kd.job (rq HO289.out) (Kd.jyb ho121) hb)
                replace BK219:=am (jm (g:=gb219) (o:=.cells #[.slice A1_0 l1_0.length c1_0] 32 (0,0)) (kq BK219.out) hb)
                replace BK224:=am (jm (g:=gb224) (o:=.cells #[.int .i64 a2, .int .i64 12, .int .i64 t282, .int .i64 0] 52 (0,0)) (kq BK224.out) hb)
                replace HK:=am (jb.trans (Y1) (jb.of_below hb g none) (.inl rfl))
                replace HB:=am (je (Y8) hb)
                replace HI0:=am (jf.below (Y4) hb)
                clear hb ho121
                refine hK.out _ _ ⟨(jK BK224.out 0).trans rfl,(jK BK224.out 1).trans rfl,(jK BK224.out 2).trans rfl,(jK BK224.out 3).trans rfl,(jK BK219.out 0).trans rfl⟩ (fun hHeld=>?_)
                clear hK K
                refine jjc (a':=?_) ?_ ?_
                rotate_left
                ·show Act.put _ (some 100) _=_
                 simp only [Act.put,List.setIfInBounds_toArray,List.set_cons_zero,List.set_cons_succ,jhb,jpb]
                 rfl
                exact jjc (by simp only [putAll,Act.put,List.setIfInBounds_toArray,List.set_cons_zero,List.set_cons_succ]) (hCont (v285,v288) _ ⟨hHeld,(rq HO281.out),(by (with_reducible repeat (first | apply Kd.jY | apply Kd.jX | apply Kd.jia));exact Kd.jE HO286.out (fun _ hk=>⟨hk.1.2,hk.2⟩)),(by (with_reducible repeat (first | apply Kd.jY | apply Kd.jX | apply Kd.jia));exact Kd.jE HO289.out (fun _ hk=>⟨hk.2,hk.1.2⟩)),(kq BK219.out),(kq BK224.out),(Y4),(Y1),(Y8)⟩)
              rintro ⟨v285,v288⟩ w122 ⟨hS_,h0_,h1_,h2_,h3_,h4_,h5_,h6_,h7_⟩
              have n0_:jq (Kd.R (Kd.int .i64) 3 w122 w.heap.size (fun _=>True) (.slice Ao114 y279.length co114) y279):=⟨h0_⟩
              have n1_:jq (Kd.R k52 52 w122 w.heap.size (fun k_=>some k_≠(v288:Value).ownBlock∧k_≠gb224) v285 y284):=⟨h1_⟩
              have n2_:jq (Kd.R k52 52 w122 w.heap.size (fun k_=>some k_≠(v285:Value).ownBlock∧k_≠gb224) v288 t287):=⟨h2_⟩
              have n3_:jq (w122.heap[gb219]?=some (.cells #[.slice A1_0 l1_0.length c1_0] 32 (0,0))):=⟨h3_⟩
              have n4_:jq (w122.heap[gb224]?=some (.cells #[.int .i64 a2, .int .i64 12, .int .i64 t282, .int .i64 0] 52 (0,0))):=⟨h4_⟩
              have n5_:jq (jf w0 w122 g s0_0 t290):=⟨h5_⟩
              have n6_:jq (jb w w122 g none):=⟨h6_⟩
              have n7_:jq (Below w0.heap.size w0 w122):=⟨h7_⟩
              clear HO281
              clear BK219
              clear BK224
              clear HI0
              clear HK
              clear HB
              clear h0_ h1_ h2_ h3_ h4_ h5_ h6_ h7_
              have HO281:=n0_
              have HO286:=n1_
              have HO289:=n2_
              have BK219:=n3_
              have BK224:=n4_
              have HI0:=n5_
              have HK:=n6_
              have HB:=n7_
              clear n0_ n1_ n2_ n3_ n4_ n5_ n6_ n7_
              have hHeld:w122.cell? ⟨gb224,0,none⟩=some (.int .i64 a2)∧w122.cell? ⟨gb224,1,none⟩=some (.int .i64 12)∧w122.cell? ⟨gb224,2,none⟩=some (.int .i64 t282)∧w122.cell? ⟨gb224,3,none⟩=some (.int .i64 0)∧w122.cell? ⟨gb219,0,none⟩=some (.slice A1_0 l1_0.length c1_0):=hS_
              obtain ⟨Ao124,co124,eo124⟩:=Kd.jU HO289.out
              (first | subst eo124 |(injection eo124 with f1_ f2_ f3_;have f4_:=f1_.symm;have f5_:=f3_.symm;clear f1_ f2_ f3_;subst f4_;subst f5_))
              refine jjc (a':=?_) ?_ ?_
              rotate_left
              ·simp only [putAll,Act.put,List.setIfInBounds_toArray,List.set_cons_zero,List.set_cons_succ]
               rfl
              refine one_ (i:=7) (N:=some 106) #[true,true,true,true,true,true,true,true,false] rfl rfl (jTb HT_.out (by kernel_rfl)) (by decide) (fun K hK=>?_)
              refine Kd.jAc k52 w.heap.size (by rfl) (.tmp 100) (.tmp 105) 34 52 (.agg #[(.int .i64 0),(.int .i64 0),(.int .i64 0),(.int .i64 0)]) 32 rfl Try.underlying34 jyc rfl (by decide) (by omega) v285 y284 t287 _ _ _ (fun k_=>some k_≠(.slice Ao124 t287.length co124:Value).ownBlock∧k_≠gb224) (fun _=>False) rfl rfl ?aO ?aR (fun _ _ h=>h) (fun _ h=>h.elim) ?aF (Below.refl _ _) ?aS ?aL ?_
              (case aR=>repeat (first | exact (Kd.jh HO289.out).2.2 |(with_reducible refine Kd.jkc ?_ _) |(with_reducible refine Kd.jic ?_ _) |(with_reducible refine Kd.jIc ?_)))
              (case aF=>exact (fun k_ hk=>⟨Kd.fresh' (Kd.R_lt (rq HO289.out)) k_ hk,Kd.freshB (g:=gb224) (o:=.cells #[.int .i64 a2, .int .i64 12, .int .i64 t282, .int .i64 0] 52 (0,0)) (kq BK224.out) k_ hk⟩))
              (case aO=>exact (rq HO286.out))
              (case aS=>exact (jJ (w:=w) (g:=g) (row:=none) (Y1)))
              (case aL=>have:=LMc108.out;omega)
              intro v292 w123 ho hb hg hat
              rw [← Ny291.out] at ho
              have n0_:=am (jbb (g:=gb219) (o:=.cells #[.slice A1_0 l1_0.length c1_0] 32 (0,0)) (kq BK219.out) hg (Kd.R_ne HO286.out BK219.out (by decide)))
              have n1_:=am (jbb (g:=gb224) (o:=.cells #[.int .i64 a2, .int .i64 12, .int .i64 t282, .int .i64 0] 52 (0,0)) (kq BK224.out) hg (Kd.R_away HO286.out (fun _ hk=>hk.2)))
              have n2_:=am (jf.grown (Y4) hg (jf.own_ne HI0.out HO286.out (by decide)))
              have n3_:=am (Kd.juc (rq HO281.out) (Kd.jtc (rq HO286.out)) (by decide) hg)
              have n4_:=am (Kd.jmc (ok:=(fun k_=>k_≠gb224)) (by (with_reducible repeat (first | apply Kd.jY | apply Kd.jX | apply Kd.jia));exact Kd.jE HO289.out (fun _ hk=>⟨hk.2,hk.1⟩)) hg hat)
              have n5_:=am (jib (Y8) HL.out hb)
              have n6_:=am (jb.trans (Y1) (jb.jBb hg g) (Kd.jXb HO286.out))
              have n7_:=am (ho)
              clear BK219
              clear BK224
              clear HI0
              clear HO281
              clear HO289
              clear HB
              clear HK
              clear HO286
              have BK219:=n0_
              have BK224:=n1_
              have HI0:=n2_
              have HO281:=n3_
              have HO289:=n4_
              have HB:=n5_
              have HK:=n6_
              have HO293:=n7_
              clear n0_ n1_ n2_ n3_ n4_ n5_ n6_ n7_
              clear ho hb hg hat
              refine hK.out _ _ ⟨(jK BK224.out 0).trans rfl,(jK BK224.out 1).trans rfl,(jK BK224.out 2).trans rfl,(jK BK224.out 3).trans rfl,(jK BK219.out 0).trans rfl⟩ (fun hHeld=>?_)
              clear hK K
              refine jjc (a':=?_) ?_ ?_
              rotate_left
              ·show Act.put _ (some 106) _=_
               simp only [Act.put,List.setIfInBounds_toArray,List.set_cons_zero,List.set_cons_succ,jhb,jpb]
               rfl
              refine pq (i:=8) (N:=some 8) #[true,true,true,true,true,true,true,true,true] ?_
              refine done_ (done_of HT_.out (by kernel_rfl)) ?_
              try go_wp2
              go_ret
              exact ⟨_,Y0,by (with_reducible repeat (first | apply Kd.jY | apply Kd.jX | apply Kd.jia));exact Kd.jE HO293.out (fun _ hk=>trivial),Y4,Y8,Y1⟩
             ·rw [if_neg c108] at H
              exact absurd H (by simp)
            ·rw [if_neg c105] at H
             have c105b0:(x9_5 == 11)=false:=beq_eq_false_iff_ne.mpr c105
             have c105b1:(x9_5 != 11)=true:=bne_iff_ne.mpr c105
             replace H:=bzS H
             obtain ⟨⟨t294,t297⟩,A1250,H⟩:=H
             replace H:(some (t294,t297))=some (r1,r2):=H
             have A125:=am A1250
             clear A1250
             simp only [Option.some.injEq,Prod.mk.injEq] at H
             obtain ⟨rfl,rfl⟩:=H
             have hnb126:=NB219_224.out
             have hnc126:=NB224_219.out
             have hnb127:=NB219_0.out
             have hnc127:=NB0_219.out
             have hcz128_0:=bc0 BK219.out
             have hfz128_0:=ja BK219.out 0
             go_wp2_with (first |((with_reducible refine jd (f:=117) rfl ?_);refine gL (some 23) Try.func117 #[.pointer (some ⟨g,0,none⟩), .agg #[.slice A1_0 l1_0.length c1_0], .int .i64 a2, .bool a3] ?_;(with_reducible refine (ih117 kj49 (by have:=HJ5.out;have:=HJ49.out;omega) g s0_0 x1001_5 _ _ l1_0 a2 a3 t294 t297 w0 _ ?side1 ?side2 ?side3 ?side4 A125.out).mono ?_);(case side1=>exact Y4);(case side2=>exact Y8);(case side3=>exact Kd.jtb HR1_0.out (Y1));(case side4=>exact HC1_0.out);rintro e w129 ⟨v295,rfl,ho0,hi,hb,hk⟩;refine ⟨_,rfl,?_⟩;have HO296:=am (Kd.jQ (Kd.jvc ho0 (g:=gb224) (o:=.cells #[.int .i64 a2, .int .i64 0, .int .i64 0, .int .i64 0] 52 (0,0)) (kq BK224.out)) (jJ (w:=w) (g:=g) (row:=none) (Y1)));replace BK219:=am (jb.blk hk (g':=gb219) (o:=.cells #[.slice A1_0 l1_0.length c1_0] 32 (0,0)) (kq BK219.out) NB219_0.out (by simp));replace BK224:=am (jb.blk hk (g':=gb224) (o:=.cells #[.int .i64 a2, .int .i64 0, .int .i64 0, .int .i64 0] 52 (0,0)) (kq BK224.out) NB224_0.out (by simp));replace HK:=am (jb.trans (Y1) hk (.inl rfl));replace HB:=am (hb);replace HI0:=am (hi);(try clear hb);(try clear hb2);(try clear hk);(try clear hi);(try clear ho0)))
             go_ret
             exact ⟨_,Y0,by (with_reducible repeat (first | apply Kd.jY | apply Kd.jX | apply Kd.jia));exact Kd.jE HO296.out (fun _ hk=>trivial),Y4,Y8,Y1⟩
set_option maxHeartbeats 8000000 in
set_option maxRecDepth 100000 in
theorem jI.calls_of (k : Nat) (ih119 : ∀ k_, k_ < k → ∀ (g : Nat) (s0_0 : List Int) (s0_1 : Int) (A1_0 : Option Addr) (c1_0 : Nat) (l1_0 : List (S87)) (a2 : Int) (a3 : Bool) (r1 : List (S52)) (r2 : Int) (w0 w : World) (hI : jf w0 w g s0_0 s0_1) (hB : Below w0.heap.size w0 w) (hr1_0 : ∀ W_, jb w W_ g none → Kd.C k87 W_ A1_0 l1_0.length l1_0) (hc1_0 : l1_0.length ≤ c1_0) (h : jA.f k_ s0_0 s0_1 l1_0 a2 a3 = some (r1, r2)), Calls Try.prog 119 #[.pointer (some ⟨g, 0, none⟩), .agg #[.slice A1_0 l1_0.length c1_0], .int .i64 a2, .bool a3] w fun e w' => ∃ v0_ : Value, e = .returned (v0_) ∧ Kd.R k52 52 w' w.heap.size (fun _ => True) v0_ r1 ∧ jf w0 w' g s0_0 r2 ∧ Below w0.heap.size w0 w' ∧ jb w w' g none) (ih118 : ∀ k_, k_ < k → ∀ (g : Nat) (s0_0 : List Int) (s0_1 : Int) (A1_0 : Option Addr) (c1_0 : Nat) (l1_0 : List (S87)) (a2 : Int) (a3 : Bool) (r1 : List (S52)) (r2 : Int) (w0 w : World) (hI : jf w0 w g s0_0 s0_1) (hB : Below w0.heap.size w0 w) (hr1_0 : ∀ W_, jb w W_ g none → Kd.C k87 W_ A1_0 l1_0.length l1_0) (hc1_0 : l1_0.length ≤ c1_0) (h : jI.f k_ s0_0 s0_1 l1_0 a2 a3 = some (r1, r2)), Calls Try.prog 118 #[.pointer (some ⟨g, 0, none⟩), .agg #[.slice A1_0 l1_0.length c1_0], .int .i64 a2, .bool a3] w fun e w' => ∃ v0_ : Value, e = .returned (v0_) ∧ Kd.R k52 52 w' w.heap.size (fun _ => True) v0_ r1 ∧ jf w0 w' g s0_0 r2 ∧ Below w0.heap.size w0 w' ∧ jb w w' g none) (ih117 : ∀ k_, k_ < k → ∀ (g : Nat) (s0_0 : List Int) (s0_1 : Int) (A1_0 : Option Addr) (c1_0 : Nat) (l1_0 : List (S87)) (a2 : Int) (a3 : Bool) (r1 : List (S52)) (r2 : Int) (w0 w : World) (hI : jf w0 w g s0_0 s0_1) (hB : Below w0.heap.size w0 w) (hr1_0 : ∀ W_, jb w W_ g none → Kd.C k87 W_ A1_0 l1_0.length l1_0) (hc1_0 : l1_0.length ≤ c1_0) (h : jW.f k_ s0_0 s0_1 l1_0 a2 a3 = some (r1, r2)), Calls Try.prog 117 #[.pointer (some ⟨g, 0, none⟩), .agg #[.slice A1_0 l1_0.length c1_0], .int .i64 a2, .bool a3] w fun e w' => ∃ v0_ : Value, e = .returned (v0_) ∧ Kd.R k52 52 w' w.heap.size (fun _ => True) v0_ r1 ∧ jf w0 w' g s0_0 r2 ∧ Below w0.heap.size w0 w' ∧ jb w w' g none) : ∀ (g : Nat) (s0_0 : List Int) (s0_1 : Int) (A1_0 : Option Addr) (c1_0 : Nat) (l1_0 : List (S87)) (a2 : Int) (a3 : Bool) (r1 : List (S52)) (r2 : Int) (w0 w : World) (hI : jf w0 w g s0_0 s0_1) (hB : Below w0.heap.size w0 w) (hr1_0 : ∀ W_, jb w W_ g none → Kd.C k87 W_ A1_0 l1_0.length l1_0) (hc1_0 : l1_0.length ≤ c1_0) (h : jI.f k s0_0 s0_1 l1_0 a2 a3 = some (r1, r2)),
  Calls Try.prog 118 #[.pointer (some ⟨g,0,none⟩), .agg #[.slice A1_0 l1_0.length c1_0], .int .i64 a2, .bool a3] w fun e w'=>∃ v0_:Value,e=.returned (v0_)∧Kd.R k52 52 w' w.heap.size (fun _=>True) v0_ r1∧jf w0 w' g s0_0 r2∧Below w0.heap.size w0 w'∧jb w w' g none:=by
 intro g s0_0 s0_1 A1_0 c1_0 l1_0 a2 a3 r1 r2 w0 w hI hB hr1_0 hc1_0 h
 cases k with
 | zero=>exact absurd h (by simp [jI.f])
 | succ k =>
 simp only [jI.f] at h
 have hu32:=Try.underlying32
 have HR1_0:=am hr1_0
 have HC1_0:=am hc1_0
 clear hr1_0 hc1_0
 have HI0:=am hI
 have HK:=am (jb.refl w g none)
 have HL:=am hB.size
 clear hI
 have HW0:=am hB.size
 have HB:=am hB
 clear hB
 have H:((ji.f k s0_0 s0_1 (([1,2,1,2,3]:List Int))).bind fun bt305=>(jI.l0 k a2 a3 (([]:List (S52))) bt305.1 s0_0 bt305.2 l1_0))=some (r1,r2):=h
 clear h
 obtain ⟨y299,hy299⟩:∃ y_:List (S52),y_=(([]:List (S52))):=⟨_,rfl⟩
 replace H:((ji.f k s0_0 s0_1 (([1,2,1,2,3]:List Int))).bind fun bt305=>(jI.l0 k a2 a3 y299 bt305.1 s0_0 bt305.2 l1_0))=some (r1,r2):=by first |(rw [hy299];with_reducible exact H) |(have H2_:=(Option.bind_some _ _).symm.trans H;rw [hy299];with_reducible exact H2_) |(have H2_:=(Option.bind_some _ _).symm.trans H;with_reducible exact H2_) | with_reducible exact H |(rw [hy299];exact H) | exact H
 have Ny299:=am hy299
 clear hy299
 obtain ⟨y302,hy302⟩:∃ y_:List Int,y_=(([1,2,1,2,3]:List Int)):=⟨_,rfl⟩
 replace H:((ji.f k s0_0 s0_1 y302).bind fun bt305=>(jI.l0 k a2 a3 y299 bt305.1 s0_0 bt305.2 l1_0))=some (r1,r2):=by first |(rw [hy302];with_reducible exact H) |(have H2_:=(Option.bind_some _ _).symm.trans H;rw [hy302];with_reducible exact H2_) |(have H2_:=(Option.bind_some _ _).symm.trans H;with_reducible exact H2_) | with_reducible exact H |(rw [hy302];exact H) | exact H
 have Ny302:=am hy302
 clear hy302
 replace H:=bzS H
 obtain ⟨⟨t305,t306⟩,A50,H⟩:=H
 replace H:(jI.l0 k a2 a3 y299 t305 s0_0 t306 l1_0)=some (r1,r2):=H
 have A5:=am A50
 clear A50
 have H':=am H
 clear H
 go_enter Try.func118,Try.ntmps118
 go_wp2_with (first |((with_reducible refine jM (N:=5) rfl ?_);refine bE (N:=5) (cs:=#[.slice A1_0 l1_0.length c1_0]) (t:=32) ?_;intro gb298 hg w6 hbox hb;have BK298:=am (hbox);have GW298:=am ((Y12:w.heap.size≤gb298));have GE298:=am ((Nat.le_trans HW0.out (Y12:w.heap.size≤gb298):w0.heap.size≤gb298));have NB0_298:=am ((Y27:g≠gb298));have NB298_0:=am ((Y28:gb298≠g));replace HK:=am (jb.trans (Y17) (jb.of_below hb g none) (.inl rfl));replace HB:=am (je (Y18) hb);replace HI0:=am (jf.below (Y16) hb);clear hb hbox hg) |((with_reducible refine jM (N:=11) rfl ?_);refine Kd.jbc k52 _ 52 ?hg (N:=11) ?hd (xs:=([]:List (S52))) (inner:=[]) (ok:=fun _=>True) (okp:=fun _=>True) ?hr ?hp (fun _ hk=>hk) trivial (Below.refl _ _) (Nat.le_refl _) (by simp) ?_;(case hd=>rfl);(case hg=>rfl);(case hr=>exact Y7);(case hp=>exact (Reps.none _ _));intro v300 w7 ho8 hb hg_ hnew_;clear hg_ hnew_;(first | rw [← Ny299.out] at ho8 |(simp only [Int.reduceToNat] at ho8;rw [← Ny299.out] at ho8));have HO301:=am (Kd.jQ ho8 (jJ (w:=w) (g:=g) (row:=none) (Y36)));replace BK298:=am (jm (g:=gb298) (o:=.cells #[.slice A1_0 l1_0.length c1_0] 32 (0,0)) (kq BK298.out) hb);replace HK:=am (jb.trans (Y36) (jb.of_below hb g none) (.inl rfl));replace HB:=am (je (Y53) hb);replace HI0:=am (jf.below (Y42) hb);clear hb ho8) |((with_reducible refine jM (N:=13) rfl ?_);refine Kd.jbc (Kd.int .i64) _ 3 ?hg (N:=13) ?hd (xs:=([1,2,1,2,3]:List Int)) (inner:=[.int .i64 1, .int .i64 2, .int .i64 1, .int .i64 2, .int .i64 3]) (ok:=fun _=>True) (okp:=fun _=>True) ?hr ?hp (fun _ hk=>hk) trivial (Below.refl _ _) (Nat.le_refl _) (by simp) ?_;(case hd=>rfl);(case hg=>rfl);(case hr=>exact Y7);(case hp=>exact (Reps.one (show Kd.M (Kd.int .i64) _ _ _ 1 [.int .i64 1] from rfl) (Reps.one (show Kd.M (Kd.int .i64) _ _ _ 2 [.int .i64 2] from rfl) (Reps.one (show Kd.M (Kd.int .i64) _ _ _ 1 [.int .i64 1] from rfl) (Reps.one (show Kd.M (Kd.int .i64) _ _ _ 2 [.int .i64 2] from rfl) (Reps.one (show Kd.M (Kd.int .i64) _ _ _ 3 [.int .i64 3] from rfl) (Reps.none _ _)))))));intro v303 w9 ho10 hb hg_ hnew_;clear hg_ hnew_;(first | rw [← Ny302.out] at ho10 |(simp only [Int.reduceToNat] at ho10;rw [← Ny302.out] at ho10));have HO304:=am (Kd.jQ ho10 (jJ (w:=w) (g:=g) (row:=none) (Y36)));replace HO301:=am (Kd.jT (rq HO301.out) hb);replace BK298:=am (jm (g:=gb298) (o:=.cells #[.slice A1_0 l1_0.length c1_0] 32 (0,0)) (kq BK298.out) hb);replace HK:=am (jb.trans (Y36) (jb.of_below hb g none) (.inl rfl));replace HB:=am (je (Y53) hb);replace HI0:=am (jf.below (Y42) hb);clear hb ho10;obtain ⟨Ao11,co11,eo11⟩:=Kd.jU HO304.out;subst eo11) |((with_reducible refine jd (f:=91) rfl ?_);refine gL (some 14) Try.func91 #[.pointer (some ⟨g,0,none⟩), .slice Ao11 y302.length co11] ?_;(with_reducible refine (ji.calls k g s0_0 s0_1 _ _ y302 t305 t306 w0 _ ?side1 ?side2 ?side3 ?side4 ?side5 A5.out).mono ?_);(case side1=>exact Y42);(case side2=>exact Y53);(case side3=>exact cq (Kd.jh HO304.out).2.2);(case side4=>exact (Kd.jh HO304.out).2.1);(case side5=>exact jzb (jf.own_ne HI0.out HO304.out (by decide)));rintro e w12 ⟨rfl,hi,hb,hk⟩;refine ⟨_,rfl,?_⟩;replace BK298:=am (jb.blk hk (g':=gb298) (o:=.cells #[.slice A1_0 l1_0.length c1_0] 32 (0,0)) (kq BK298.out) NB298_0.out (by simp));replace HO301:=am (Kd.jE (Kd.jxa (jf.apart (show jf w0 _ g s0_0 s0_1 from Y42) (rq HO301.out) (by decide)) hk (fun _ h=>h.2)) (fun _ h=>h.1));replace HO304:=am (Kd.jE (Kd.jxa (jf.apart (show jf w0 _ g s0_0 s0_1 from Y42) (rq HO304.out) (by decide)) hk (fun _ h=>h.2)) (fun _ h=>h.1));replace HK:=am (jb.trans (Y36) hk (.inl rfl));replace HB:=am (hb);replace HI0:=am (hi);(try clear hb);(try clear hb2);(try clear hk);(try clear hi)))
 go_loopg [9,10] k (fun kq v9 v10 w'=>∃ (x9_1:List (S52)) (x10_1:Int) (x1001_1:Int),v10=.int .i64 x10_1∧jq (jI.l0 kq a2 a3 x9_1 x10_1 s0_0 x1001_1 l1_0=some (r1,r2))∧jq (kq≤k)∧jq (Kd.R k52 52 w' w.heap.size (fun _=>True) v9 x9_1)∧jq (w'.heap[gb298]?=some (.cells #[(.slice A1_0 l1_0.length c1_0)] 32 (0,0)))∧jq (jf w0 w' g s0_0 x1001_1)∧jq (jb w w' g none)∧jq (Below w0.heap.size w0 w'))
 case atStart=>exact ⟨(y299),(t305),(t306),(sq),H',⟨Nat.le_refl _⟩,⟨rq HO301.out⟩,⟨kq BK298.out⟩,⟨Y42⟩,⟨Y36⟩,⟨Y53⟩⟩
 case round =>
  clear H'
  try clear c1
  try clear p2
  try clear c9
  try clear c11
  obtain ⟨x9_1,x10_1,x1001_1,rfl,HA,HK1,HO_9,BK298,HI0,HK,HB⟩:=hrel
  cases gk with
  | zero=>exact absurd HA.out (by simp [jI.l0])
  | succ k1 =>
   have H:=HA.out
   clear HA
   simp only [jI.l0] at H
   by_cases c13:x10_1 > 0
   ·rw [if_pos c13] at H
    have c13b0:decide (0<x10_1)=true:=dzT c13
    clear c13
    replace H:=bzS H
    obtain ⟨⟨t307,t310⟩,A140,H⟩:=H
    replace H:(if x9_1.length+t307.length<4398046511104 then (jI.l0 k1 a2 a3 (x9_1 ++ t307) (wrap64 (x10_1 - 1)) s0_0 t310 l1_0) else (none))=some (r1,r2):=H
    have A14:=am A140
    clear A140
    by_cases c15:x9_1.length+t307.length<4398046511104
    ·rw [if_pos c15] at H
     have LMc15:=am c15
     clear c15
     obtain ⟨y311,hy311⟩:∃ y_:List (S52),y_=(x9_1 ++ t307):=⟨_,rfl⟩
     replace H:(jI.l0 k1 a2 a3 y311 (wrap64 (x10_1 - 1)) s0_0 t310 l1_0)=some (r1,r2):=by first |(rw [hy311];with_reducible exact H) |(have H2_:=(Option.bind_some _ _).symm.trans H;rw [hy311];with_reducible exact H2_) |(have H2_:=(Option.bind_some _ _).symm.trans H;with_reducible exact H2_) | with_reducible exact H |(rw [hy311];exact H) | exact H
     have Ny311:=am hy311
     clear hy311
     have H':=am H
     clear H
     have hnb16:=NB298_0.out
     have hnc16:=NB0_298.out
     have hcz17_0:=bc0 BK298.out
     have hfz17_0:=ja BK298.out 0
     go_wp2_with (first |((with_reducible refine jd (f:=119) rfl ?_);refine gL (some 24) Try.func119 #[.pointer (some ⟨g,0,none⟩), .agg #[.slice A1_0 l1_0.length c1_0], .int .i64 a2, .bool a3] ?_;(with_reducible refine (ih119 k1 (by have:=HK1.out;omega) g s0_0 x1001_1 _ _ l1_0 a2 a3 t307 t310 w0 _ ?side1 ?side2 ?side3 ?side4 A14.out).mono ?_);(case side1=>exact Y42);(case side2=>exact Y53);(case side3=>exact Kd.jtb HR1_0.out (Y36));(case side4=>exact HC1_0.out);rintro e w18 ⟨v308,rfl,ho0,hi,hb,hk⟩;refine ⟨_,rfl,?_⟩;have HO309:=am (Kd.jQ (Kd.jxb ho0 (Kd.R_lt (rq HO_9.out))) (jJ (w:=w) (g:=g) (row:=none) (Y36)));replace HO_9:=am (Kd.jE (Kd.R_told (Kd.R_oldK (jf.apart (show jf w0 _ g s0_0 x1001_1 from Y42) (rq HO_9.out) (by decide)) hk) (Kd.jyb ho0)) (fun _ h_=>h_.1));replace BK298:=am (jb.blk hk (g':=gb298) (o:=.cells #[.slice A1_0 l1_0.length c1_0] 32 (0,0)) (kq BK298.out) NB298_0.out (by simp));replace HK:=am (jb.trans (Y36) hk (.inl rfl));replace HB:=am (hb);replace HI0:=am (hi);(try clear hb);(try clear hb2);(try clear hk);(try clear hi);(try clear ho0);obtain ⟨Ao20,co20,eo20⟩:=Kd.jU HO309.out;subst eo20) |((with_reducible refine jJa (b:=.append) (xs:=#[.tmp 19, .tmp 24]) rfl ?_);at_builtin;refine Kd.jOb k52 w.heap.size rfl (.tmp 19) (.tmp 24) 34 52 (.agg #[(.int .i64 0),(.int .i64 0),(.int .i64 0),(.int .i64 0)]) 32 rfl Try.underlying34 jyc rfl (by decide) (by omega) u9 x9_1 t307 _ _ _ (fun k_=>some k_≠(.slice Ao20 t307.length co20:Value).ownBlock) (fun _=>False) rfl rfl ?aO ?aR (fun _ _ h=>h) (fun _ h=>h.elim) ?aF (Below.refl _ _) ?aS ?aL ?_;(case aR=>repeat (first | exact (Kd.jh HO309.out).2.2 |(with_reducible refine Kd.jkc ?_ _) |(with_reducible refine Kd.jic ?_ _) |(with_reducible refine Kd.jIc ?_)));(case aF=>exact (fun k_ hk=>Kd.fresh' (Kd.R_lt (rq HO309.out)) k_ hk));(case aO=>exact (by (with_reducible repeat (first | apply Kd.jY | apply Kd.jX | apply Kd.jia));exact Kd.jE HO_9.out (fun _ hk=>hk.2)));(case aS=>exact (jJ (w:=w) (g:=g) (row:=none) (Y36)));(case aL=>have:=LMc15.out;omega);intro v312 w19 ho hb hg hat;rw [← Ny311.out] at ho;have n0_:=am (jbb (g:=gb298) (o:=.cells #[.slice A1_0 l1_0.length c1_0] 32 (0,0)) (kq BK298.out) hg (Kd.R_ne HO_9.out BK298.out (by decide)));have n1_:=am (jf.grown (Y42) hg (jf.own_ne HI0.out HO_9.out (by decide)));have n2_:=am (Kd.jmc (ok:=(fun _=>True)) (rq HO309.out) hg hat);have n3_:=am (jib (Y53) HL.out hb);have n4_:=am (jb.trans (Y36) (jb.jBb hg g) (Kd.jXb HO_9.out));have n5_:=am (ho);clear BK298 HI0 HO309 HB HK HO_9;have BK298:=n0_;have HI0:=n1_;have HO309:=n2_;have HB:=n3_;have HK:=n4_;have HO313:=n5_;clear n0_ n1_ n2_ n3_ n4_ n5_ ho hb hg hat))
     go_roundg k1
     case measure=>have:=HK1.out;omega
     case rel=>exact ⟨(y311),(wrap64 (x10_1 - 1)),(t310),(sq),H',⟨by have:=HK1.out;omega⟩,⟨by (with_reducible repeat (first | apply Kd.jY | apply Kd.jX | apply Kd.jia));exact Kd.jE HO313.out (fun _ hk=>trivial)⟩,⟨kq BK298.out⟩,⟨Y42⟩,⟨Y36⟩,⟨Y53⟩⟩
    ·rw [if_neg c15] at H
     exact absurd H (by simp)
   ·rw [if_neg c13] at H
    have c13b0:decide (0<x10_1)=false:=dzF c13
    clear c13
    simp only [Option.some.injEq,Prod.mk.injEq] at H
    obtain ⟨rfl,rfl⟩:=H
    go_wp2
    go_ret
    exact ⟨_,Y0,rq HO_9.out,Y42,Y53,Y36⟩
end Go.Proofs.Ytkokajljeebgdaa.P
end
