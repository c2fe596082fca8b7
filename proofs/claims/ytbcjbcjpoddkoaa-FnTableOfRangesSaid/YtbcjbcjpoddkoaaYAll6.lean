/- One part of the proofs on this program: functions of the program as plain functions, that the code comes to them, and facts on them. -/
import Derived.Test.YtbcjbcjpoddkoaaYAll1
import Derived.Test.YtbcjbcjpoddkoaaYAll4
import Derived.Test.YtbcjbcjpoddkoaaYAll5
import Derived.Test.YtbcjbcjpoddkoaaYWAuto
section
namespace Go.Proofs.Ytbcjbcjpoddkoaa.P
open Go.RowKit Go.Proofs.YtbcjbcjpoddkoaaW.PrintWords Go.Proofs.YtbcjbcjpoddkoaaW.PrintLast Go.Proofs.YtbcjbcjpoddkoaaW.PrintMore
attribute [local go_sem] jra jpa jCa jBa jga jfa jqa joa jo
set_option linter.unusedVariables false
set_option linter.unusedSimpArgs false
def jy.T26 : Bool × List (List Nat × List Nat) := (true, [([], []), ([0], [0]), ([], []), ([], []), ([], []), ([4], [4]), ([], []), ([2, 3, 5, 6], [2, 3, 5, 6]), ([1, 7, 7], [1, 7]), ([8, 8, 0, 1, 2, 3, 4, 5, 6, 7, 8], [8])])
def jy.B26 : List Nat := [0, 1, 0, 0, 0, 16, 0, 124, 255, 511]
theorem jy.tab26 : rtab .any (opsOf Try.f104 26) = jy.T26 := by kernel_rfl
theorem jy.bits26 : jpc jy.T26.2 jy.B26 = true := by kernel_rfl
def jy.T30 : Bool × List (List Nat × List Nat) := (true, [([], []), ([0], [0]), ([], []), ([], []), ([], []), ([4], [4]), ([2, 3, 5], [2, 3, 5]), ([1, 6, 6], [1, 6]), ([7, 7, 0, 1, 2, 3, 4, 5, 6, 7], [7])])
def jy.B30 : List Nat := [0, 1, 0, 0, 0, 16, 60, 127, 255]
theorem jy.tab30 : rtab .any (opsOf Try.f104 30) = jy.T30 := by kernel_rfl
theorem jy.bits30 : jpc jy.T30.2 jy.B30 = true := by kernel_rfl
set_option maxHeartbeats 8000000 in
set_option maxRecDepth 100000 in
theorem jy.calls_of (k : Nat) (ih104 : ∀ k_, k_ < k → ∀ (g : Nat) (s0_0 : List Int) (s0_1 : Int) (A1_0 : Option Addr) (c1_0 : Nat) (l1_0 : List (S98)) (a2 : Int) (a3 : Bool) (r1 : List (S59)) (r2 : Int) (w0 w : World) (hI : jc w0 w g s0_0 s0_1) (hB : Below w0.heap.size w0 w) (hr1_0 : ∀ W_, jb w W_ g none → Kd.C k98 W_ A1_0 l1_0.length l1_0) (hc1_0 : l1_0.length ≤ c1_0) (h : jy.f k_ s0_0 s0_1 l1_0 a2 a3 = some (r1, r2)), Calls Try.prog 104 #[.pointer (some ⟨g, 0, none⟩), .agg #[.slice A1_0 l1_0.length c1_0], .int .i64 a2, .bool a3] w fun e w' => ∃ v0_ : Value, e = .returned (v0_) ∧ Kd.R k59 59 w' w.heap.size (fun _ => True) v0_ r1 ∧ jc w0 w' g s0_0 r2 ∧ Below w0.heap.size w0 w' ∧ jb w w' g none) (ih98 : ∀ k_, k_ < k → ∀ (g : Nat) (s0_0 : List Int) (s0_1 : Int) (A1_0 : Option Addr) (c1_0 : Nat) (l1_0 : List (S98)) (a2 : Int) (a3 : Bool) (r1 : List (S59)) (r2 : Int) (w0 w : World) (hI : jc w0 w g s0_0 s0_1) (hB : Below w0.heap.size w0 w) (hr1_0 : ∀ W_, jb w W_ g none → Kd.C k98 W_ A1_0 l1_0.length l1_0) (hc1_0 : l1_0.length ≤ c1_0) (h : jJ.f k_ s0_0 s0_1 l1_0 a2 a3 = some (r1, r2)), Calls Try.prog 98 #[.pointer (some ⟨g, 0, none⟩), .agg #[.slice A1_0 l1_0.length c1_0], .int .i64 a2, .bool a3] w fun e w' => ∃ v0_ : Value, e = .returned (v0_) ∧ Kd.R k59 59 w' w.heap.size (fun _ => True) v0_ r1 ∧ jc w0 w' g s0_0 r2 ∧ Below w0.heap.size w0 w' ∧ jb w w' g none) (ih97 : ∀ k_, k_ < k → ∀ (g : Nat) (s0_0 : List Int) (s0_1 : Int) (A1_0 : Option Addr) (c1_0 : Nat) (l1_0 : List (S98)) (a2 : Int) (a3 : Bool) (r1 : List (S59)) (r2 : Int) (w0 w : World) (hI : jc w0 w g s0_0 s0_1) (hB : Below w0.heap.size w0 w) (hr1_0 : ∀ W_, jb w W_ g none → Kd.C k98 W_ A1_0 l1_0.length l1_0) (hc1_0 : l1_0.length ≤ c1_0) (h : jR.f k_ s0_0 s0_1 l1_0 a2 a3 = some (r1, r2)), Calls Try.prog 97 #[.pointer (some ⟨g, 0, none⟩), .agg #[.slice A1_0 l1_0.length c1_0], .int .i64 a2, .bool a3] w fun e w' => ∃ v0_ : Value, e = .returned (v0_) ∧ Kd.R k59 59 w' w.heap.size (fun _ => True) v0_ r1 ∧ jc w0 w' g s0_0 r2 ∧ Below w0.heap.size w0 w' ∧ jb w w' g none) : ∀ (g : Nat) (s0_0 : List Int) (s0_1 : Int) (A1_0 : Option Addr) (c1_0 : Nat) (l1_0 : List (S98)) (a2 : Int) (a3 : Bool) (r1 : List (S59)) (r2 : Int) (w0 w : World) (hI : jc w0 w g s0_0 s0_1) (hB : Below w0.heap.size w0 w) (hr1_0 : ∀ W_, jb w W_ g none → Kd.C k98 W_ A1_0 l1_0.length l1_0) (hc1_0 : l1_0.length ≤ c1_0) (h : jy.f k s0_0 s0_1 l1_0 a2 a3 = some (r1, r2)),
  Calls Try.prog 104 #[.pointer (some ⟨g,0,none⟩), .agg #[.slice A1_0 l1_0.length c1_0], .int .i64 a2, .bool a3] w fun e w'=>∃ v0_:Value,e=.returned (v0_)∧Kd.R k59 59 w' w.heap.size (fun _=>True) v0_ r1∧jc w0 w' g s0_0 r2∧Below w0.heap.size w0 w'∧jb w w' g none:=by
 intro g s0_0 s0_1 A1_0 c1_0 l1_0 a2 a3 r1 r2 w0 w hI hB hr1_0 hc1_0 h
 cases k with
 | zero=>exact absurd h (by simp [jy.f])
 | succ k =>
 simp only [jy.f] at h
 have hu32:=Try.underlying32
 have hu59:=Try.underlying59
 have HR1_0:=am hr1_0
 have HC1_0:=am hc1_0
 clear hr1_0 hc1_0
 have HI0:=am hI
 have HK:=am (jb.refl w g none)
 have HL:=am hB.size
 clear hI
 have HW0:=am hB.size
 have HB:=am hB
 clear hB
 have H:((jf.f k s0_0 s0_1 16).bind fun bt420=>(if a2≥3 then ((jf.f k s0_0 bt420.2 9).bind fun bt422=>(jy.j0 k a2 a3 bt422.1 s0_0 bt422.2 l1_0)) else (jy.j0 k a2 a3 bt420.1 s0_0 bt420.2 l1_0)))=some (r1,r2):=h
 clear h
 replace H:=bzS H
 obtain ⟨⟨t420,t421⟩,A50,H⟩:=H
 replace H:(if a2≥3 then ((jf.f k s0_0 t421 9).bind fun bt422=>(jy.j0 k a2 a3 bt422.1 s0_0 bt422.2 l1_0)) else (jy.j0 k a2 a3 t420 s0_0 t421 l1_0))=some (r1,r2):=H
 have A5:=am A50
 clear A50
 have HC6:=am H
 clear H
 go_enter Try.func104,Try.ntmps104
 go_upto_if 14 with (first |((with_reducible refine jQ (N:=5) rfl ?_);refine bE (N:=5) (cs:=#[.slice A1_0 l1_0.length c1_0]) (t:=32) ?_;intro gb419 hg w7 hbox hb;have BK419:=am (hbox);have GW419:=am ((Y12:w.heap.size≤gb419));have GE419:=am ((Nat.le_trans HW0.out (Y12:w.heap.size≤gb419):w0.heap.size≤gb419));have NB0_419:=am ((Y28:g≠gb419));have NB419_0:=am ((Y29:gb419≠g));replace HK:=am (jb.trans (Y17) (jb.of_below hb g none) (.inl rfl));replace HB:=am (ji (Y18) hb);replace HI0:=am (jc.below (Y16) hb);clear hb hbox hg) |((with_reducible refine jg (f:=55) rfl ?_);refine gL (some 12) Try.func55 #[.pointer (some ⟨g,0,none⟩), .int .i64 16] ?_;(with_reducible refine (jf.calls k g s0_0 s0_1 16 t420 t421 w0 _ ?side1 ?side2 A5.out).mono ?_);(case side1=>exact Y47);(case side2=>exact Y48);rintro e w8 ⟨rfl,hi,hb,hk⟩;refine ⟨_,rfl,?_⟩;replace BK419:=am (jb.blk hk (g':=gb419) (o:=.cells #[.slice A1_0 l1_0.length c1_0] 32 (0,0)) (kq BK419.out) NB419_0.out (by simp));replace HK:=am (jb.trans (Y49) hk (.inl rfl));replace HB:=am (hb);replace HI0:=am (hi);(try clear hb);(try clear hb2);(try clear hk);(try clear hi)))
 (try simp only [Act.put,List.setIfInBounds_toArray,List.set_cons_zero,List.set_cons_succ])
 go_cut [9] (fun v9 wc=>∃ (kq:Nat) (x9_5:Int) (x1001_5:Int),v9=.int .i64 x9_5∧jl (jy.j0 kq a2 a3 x9_5 s0_0 x1001_5 l1_0=some (r1,r2))∧jl (kq≤k)∧jl (wc.heap[gb419]?=some (.cells #[(.slice A1_0 l1_0.length c1_0)] 32 (0,0)))∧jl (jc w0 wc g s0_0 x1001_5)∧jl (jb w wc g none)∧jl (Below w0.heap.size w0 wc))
 case first =>
  have H:=HC6.out
  clear HC6
  by_cases c9:a2≥3
  ·rw [if_pos c9] at H
   have c9b0:decide (3≤a2)=true:=dzT c9
   clear c9
   (first | rw [c9b0] |(simp only [jeb,jhb];rw [c9b0]) | skip)
   replace H:=bzS H
   obtain ⟨⟨t422,t423⟩,A100,H⟩:=H
   replace H:(jy.j0 k a2 a3 t422 s0_0 t423 l1_0)=some (r1,r2):=H
   have A10:=am A100
   clear A100
   have H':=am H
   clear H
   go_wp2_with (first |((with_reducible refine jg (f:=55) rfl ?_);refine gL (some 16) Try.func55 #[.pointer (some ⟨g,0,none⟩), .int .i64 9] ?_;(with_reducible refine (jf.calls k g s0_0 t421 9 t422 t423 w0 _ ?side1 ?side2 A10.out).mono ?_);(case side1=>exact Y47);(case side2=>exact Y48);rintro e w11 ⟨rfl,hi,hb,hk⟩;refine ⟨_,rfl,?_⟩;replace BK419:=am (jb.blk hk (g':=gb419) (o:=.cells #[.slice A1_0 l1_0.length c1_0] 32 (0,0)) (kq BK419.out) NB419_0.out (by simp));replace HK:=am (jb.trans (Y49) hk (.inl rfl));replace HB:=am (hb);replace HI0:=am (hi);(try clear hb);(try clear hb2);(try clear hk);(try clear hi)))
   go_meet
   case rel=>exact ⟨_,(t422),(t423),(sq),H',⟨Y41⟩,⟨kq BK419.out⟩,⟨Y47⟩,⟨Y49⟩,⟨Y48⟩⟩
  ·rw [if_neg c9] at H
   have c9b0:decide (3≤a2)=false:=dzF c9
   clear c9
   (first | rw [c9b0] |(simp only [jeb,jhb];rw [c9b0]) | skip)
   have H':=am H
   clear H
   go_wp2
   go_meet
   case rel=>exact ⟨_,(t420),(t421),(sq),H',⟨Y41⟩,⟨kq BK419.out⟩,⟨Y47⟩,⟨Y49⟩,⟨Y48⟩⟩
 case rest =>
  clear HC6
  try clear c1
  try clear p2
  try clear c5
  try clear c9
  try clear c9b0
  try clear c10
  obtain ⟨kq,x9_5,x1001_5,rfl,HA,HJ5,BK419,HI0,HK,HB⟩:=hcut
  cases kq with
  | zero=>exact absurd HA.out (by simp [jy.j0])
  | succ kj5 =>
   have H:=HA.out
   clear HA
   simp only [jy.j0] at H
   by_cases c12:x9_5<4
   ·rw [if_pos c12] at H
    have c12b0:decide (x9_5<4)=true:=dzT c12
    clear c12
    obtain ⟨y425,hy425⟩:∃ y_:List Int,y_=(([1,2,3,4,5]:List Int)):=⟨_,rfl⟩
    replace H:((jh.f kj5 s0_0 x1001_5 y425).bind fun bt428=>(some ((([(⟨a2,1,bt428.1,0⟩:S59)]:List (S59))),bt428.2)))=some (r1,r2):=by first |(rw [hy425];with_reducible exact H) |(have H2_:=(Option.bind_some _ _).symm.trans H;rw [hy425];with_reducible exact H2_) |(have H2_:=(Option.bind_some _ _).symm.trans H;with_reducible exact H2_) | with_reducible exact H |(rw [hy425];exact H) | exact H
    have Ny425:=am hy425
    clear hy425
    replace H:=bzS H
    obtain ⟨⟨t428,t429⟩,A130,H⟩:=H
    replace H:(some ((([(⟨a2,1,t428,0⟩:S59)]:List (S59))),t429))=some (r1,r2):=H
    have A13:=am A130
    clear A130
    obtain ⟨y430,hy430⟩:∃ y_:List (S59),y_=(([(⟨a2,1,t428,0⟩:S59)]:List (S59))):=⟨_,rfl⟩
    replace H:(some (y430,t429))=some (r1,r2):=by first |(rw [hy430];with_reducible exact H) |(have H2_:=(Option.bind_some _ _).symm.trans H;rw [hy430];with_reducible exact H2_) |(have H2_:=(Option.bind_some _ _).symm.trans H;with_reducible exact H2_) | with_reducible exact H |(rw [hy430];exact H) | exact H
    have Ny430:=am hy430
    clear hy430
    simp only [Option.some.injEq,Prod.mk.injEq] at H
    obtain ⟨rfl,rfl⟩:=H
    go_wp2_with (first |((with_reducible refine jQ (N:=10) rfl ?_);refine bE (N:=10) (cs:=#[.int .i64 0, .int .i64 0, .int .i64 0, .int .i64 0]) (t:=59) ?_;intro gb424 hg w14 hbox hb;have BK424:=am (hbox);have GW424:=am ((Y50:w.heap.size≤gb424));have GE424:=am ((Nat.le_trans HW0.out (Y50:w.heap.size≤gb424):w0.heap.size≤gb424));have NB419_424:=am ((Y73:gb419≠gb424));have NB424_419:=am ((Y74:gb424≠gb419));have NB0_424:=am ((Y75:g≠gb424));have NB424_0:=am ((Y76:gb424≠g));replace BK419:=am (jq (g:=gb419) (o:=.cells #[.slice A1_0 l1_0.length c1_0] 32 (0,0)) (kq BK419.out) hb);replace HK:=am (jb.trans (Y49) (jb.of_below hb g none) (.inl rfl));replace HB:=am (ji (Y48) hb);replace HI0:=am (jc.below (Y47) hb);clear hb hbox hg;have hnb15:=NB424_419.out;have hnc15:=NB419_424.out;have hnb16:=NB424_0.out;have hnc16:=NB0_424.out;have hcz17_0:=bc0 BK424.out;have hcz17_1:=bc1 BK424.out;have hcz17_2:=bc2 BK424.out;have hcz17_3:=bc3 BK424.out;have hfz17_0:=ja BK424.out 0;have hfz17_1:=ja BK424.out 1;have hfz17_2:=ja BK424.out 2;have hfz17_3:=ja BK424.out 3) |((with_reducible refine jQ (N:=29) rfl ?_);refine Kd.jMb (Kd.int .i64) _ 3 ?hg (N:=29) ?hd (xs:=([1,2,3,4,5]:List Int)) (inner:=[.int .i64 1, .int .i64 2, .int .i64 3, .int .i64 4, .int .i64 5]) (ok:=fun _=>True) (okp:=fun _=>True) ?hr ?hp (fun _ hk=>hk) trivial (Below.refl _ _) (Nat.le_refl _) (by simp) ?_;(case hd=>rfl);(case hg=>rfl);(case hr=>exact Y8);(case hp=>exact (Reps.one (show Kd.M (Kd.int .i64) _ _ _ 1 [.int .i64 1] from rfl) (Reps.one (show Kd.M (Kd.int .i64) _ _ _ 2 [.int .i64 2] from rfl) (Reps.one (show Kd.M (Kd.int .i64) _ _ _ 3 [.int .i64 3] from rfl) (Reps.one (show Kd.M (Kd.int .i64) _ _ _ 4 [.int .i64 4] from rfl) (Reps.one (show Kd.M (Kd.int .i64) _ _ _ 5 [.int .i64 5] from rfl) (Reps.none _ _)))))));intro v426 w18 ho19 hb hg_ hnew_;clear hg_ hnew_;(first | rw [← Ny425.out] at ho19 |(simp only [Int.reduceToNat] at ho19;rw [← Ny425.out] at ho19));have HO427:=am (Kd.jX ho19 (jM (w:=w) (g:=g) (row:=none) (Y1)));replace BK419:=am (jq (g:=gb419) (o:=.cells #[.slice A1_0 l1_0.length c1_0] 32 (0,0)) (Y84) hb);replace BK424:=am (jq (g:=gb424) (o:=.cells #[.int .i64 a2, .int .i64 1, .int .i64 0, .int .i64 0] 59 (0,0)) (Y77) hb);replace HK:=am (jb.trans (Y1) (jb.of_below hb g none) (.inl rfl));replace HB:=am (ji (Y6) hb);replace HI0:=am (jc.below (show jc w0 (((((w14.setCell ⟨gb424,0,none⟩ (.int .i64 a2)).setCell ⟨gb424,1,none⟩ (.int .i64 0)).setCell ⟨gb424,2,none⟩ (.int .i64 0)).setCell ⟨gb424,3,none⟩ (.int .i64 0)).setCell ⟨gb424,1,none⟩ (.int .i64 1)) g s0_0 x1001_5 from Y3) hb);clear hb ho19;obtain ⟨Ao20,co20,eo20⟩:=Kd.jaa HO427.out;subst eo20) |((with_reducible refine jg (f:=56) rfl ?_);refine gL (some 30) Try.func56 #[.pointer (some ⟨g,0,none⟩), .slice Ao20 y425.length co20] ?_;(with_reducible refine (jh.calls kj5 g s0_0 x1001_5 _ _ y425 t428 t429 w0 _ ?side1 ?side2 ?side3 ?side4 ?side5 A13.out).mono ?_);(case side1=>exact Y3);(case side2=>exact Y6);(case side3=>exact cq (Kd.jm HO427.out).2.2);(case side4=>exact (Kd.jm HO427.out).2.1);(case side5=>exact jqb (jc.own_ne HI0.out HO427.out (by decide)));rintro e w21 ⟨rfl,hi,hb,hk⟩;refine ⟨_,rfl,?_⟩;replace BK419:=am (jb.blk hk (g':=gb419) (o:=.cells #[.slice A1_0 l1_0.length c1_0] 32 (0,0)) (kq BK419.out) NB419_0.out (by simp));replace BK424:=am (jb.blk hk (g':=gb424) (o:=.cells #[.int .i64 a2, .int .i64 1, .int .i64 0, .int .i64 0] 59 (0,0)) (kq BK424.out) NB424_0.out (by simp));replace HO427:=am (Kd.jI (Kd.jxa (jc.apart (show jc w0 _ g s0_0 x1001_5 from Y3) (rq HO427.out) (by decide)) hk (fun _ h=>h.2)) (fun _ h=>h.1));replace HK:=am (jb.trans (Y1) hk (.inl rfl));replace HB:=am (hb);replace HI0:=am (hi);(try clear hb);(try clear hb2);(try clear hk);(try clear hi);have hcz22_0:=bc0 BK424.out;have hcz22_1:=bc1 BK424.out;have hcz22_2:=bc2 BK424.out;have hcz22_3:=bc3 BK424.out;have hfz22_0:=ja BK424.out 0;have hfz22_1:=ja BK424.out 1;have hfz22_2:=ja BK424.out 2;have hfz22_3:=ja BK424.out 3) |((with_reducible refine jQ (N:=108) rfl ?_);refine Kd.jMb k59 _ 59 ?hg (N:=108) ?hd (xs:=([(⟨a2,1,t428,0⟩:S59)]:List (S59))) (inner:=[.int .i64 a2, .int .i64 1, .int .i64 t428, .int .i64 0]) (ok:=fun _=>True) (okp:=fun _=>True) ?hr ?hp (fun _ hk=>hk) trivial (Below.refl _ _) (Nat.le_refl _) (by simp) ?_;(case hd=>rfl);(case hg=>rfl);(case hr=>exact Y8);(case hp=>exact (Reps.c4 (show Kd.M k59 _ _ _ (⟨a2,1,t428,0⟩:S59) [.int .i64 a2, .int .i64 1, .int .i64 t428, .int .i64 0] from (jpb _ _ _ (⟨a2,1,t428,0⟩:S59) )) (Reps.none _ _)));intro v431 w23 ho24 hb hg_ hnew_;clear hg_ hnew_;(first | rw [← Ny430.out] at ho24 |(simp only [Int.reduceToNat] at ho24;rw [← Ny430.out] at ho24));have HO432:=am (Kd.jX (Kd.jic ho24 (g:=gb424) (o:=.cells #[.int .i64 a2, .int .i64 1, .int .i64 t428, .int .i64 0] 59 (0,0)) (Y94)) (jM (w:=w) (g:=g) (row:=none) (Y1)));replace HO427:=am (Kd.jja (by (with_reducible repeat (first | apply Kd.jba | apply Kd.jea | apply Kd.jma));exact (Kd.jI (Kd.jwb (p:=⟨gb424,2,none⟩) (Kd.jIa HO427.out BK424.out (by decide)) (fun _ hk=>hk.2) (.int .i64 t428)) (fun _ h_=>h_.1))) hb);replace BK419:=am (jq (g:=gb419) (o:=.cells #[.slice A1_0 l1_0.length c1_0] 32 (0,0)) (Y42) hb);replace BK424:=am (jq (g:=gb424) (o:=.cells #[.int .i64 a2, .int .i64 1, .int .i64 t428, .int .i64 0] 59 (0,0)) (Y94) hb);replace HK:=am (jb.trans (Y1) (jb.of_below hb g none) (.inl rfl));replace HB:=am (ji (Y6) hb);replace HI0:=am (jc.below (show jc w0 (w21.setCell ⟨gb424,2,none⟩ (.int .i64 t428)) g s0_0 t429 from Y3) hb);clear hb ho24))
    go_ret
    exact ⟨_,Y0,by (with_reducible repeat (first | apply Kd.jba | apply Kd.jea | apply Kd.jma));exact Kd.jI HO432.out (fun _ hk=>trivial),Y3,Y6,Y1⟩
   ·rw [if_neg c12] at H
    have c12b0:decide (x9_5<4)=false:=dzF c12
    clear c12
    by_cases c25:x9_5<6
    ·rw [if_pos c25] at H
     have c25b0:decide (x9_5<6)=true:=dzT c25
     clear c25
     replace H:=bzS H
     obtain ⟨⟨t433,t434⟩,A260,H⟩:=H
     replace H:((jh.f kj5 s0_0 t434 (([1,2,3]:List Int))).bind fun bt438=>(some ((([(⟨a2,2,t433,bt438.1⟩:S59)]:List (S59))),bt438.2)))=some (r1,r2):=H
     have A26:=am A260
     clear A260
     obtain ⟨y435,hy435⟩:∃ y_:List Int,y_=(([1,2,3]:List Int)):=⟨_,rfl⟩
     replace H:((jh.f kj5 s0_0 t434 y435).bind fun bt438=>(some ((([(⟨a2,2,t433,bt438.1⟩:S59)]:List (S59))),bt438.2)))=some (r1,r2):=by first |(rw [hy435];with_reducible exact H) |(have H2_:=(Option.bind_some _ _).symm.trans H;rw [hy435];with_reducible exact H2_) |(have H2_:=(Option.bind_some _ _).symm.trans H;with_reducible exact H2_) | with_reducible exact H |(rw [hy435];exact H) | exact H
     have Ny435:=am hy435
     clear hy435
     replace H:=bzS H
     obtain ⟨⟨t438,t439⟩,A270,H⟩:=H
     replace H:(some ((([(⟨a2,2,t433,t438⟩:S59)]:List (S59))),t439))=some (r1,r2):=H
     have A27:=am A270
     clear A270
     obtain ⟨y440,hy440⟩:∃ y_:List (S59),y_=(([(⟨a2,2,t433,t438⟩:S59)]:List (S59))):=⟨_,rfl⟩
     replace H:(some (y440,t439))=some (r1,r2):=by first |(rw [hy440];with_reducible exact H) |(have H2_:=(Option.bind_some _ _).symm.trans H;rw [hy440];with_reducible exact H2_) |(have H2_:=(Option.bind_some _ _).symm.trans H;with_reducible exact H2_) | with_reducible exact H |(rw [hy440];exact H) | exact H
     have Ny440:=am hy440
     clear hy440
     simp only [Option.some.injEq,Prod.mk.injEq] at H
     obtain ⟨rfl,rfl⟩:=H
     go_wp2_with (first |((with_reducible refine jQ (N:=10) rfl ?_);refine bE (N:=10) (cs:=#[.int .i64 0, .int .i64 0, .int .i64 0, .int .i64 0]) (t:=59) ?_;intro gb424 hg w28 hbox hb;have BK424:=am (hbox);have GW424:=am ((Y50:w.heap.size≤gb424));have GE424:=am ((Nat.le_trans HW0.out (Y50:w.heap.size≤gb424):w0.heap.size≤gb424));have NB419_424:=am ((Y73:gb419≠gb424));have NB424_419:=am ((Y74:gb424≠gb419));have NB0_424:=am ((Y75:g≠gb424));have NB424_0:=am ((Y76:gb424≠g));replace BK419:=am (jq (g:=gb419) (o:=.cells #[.slice A1_0 l1_0.length c1_0] 32 (0,0)) (kq BK419.out) hb);replace HK:=am (jb.trans (Y49) (jb.of_below hb g none) (.inl rfl));replace HB:=am (ji (Y48) hb);replace HI0:=am (jc.below (Y47) hb);clear hb hbox hg;have hnb29:=NB424_419.out;have hnc29:=NB419_424.out;have hnb30:=NB424_0.out;have hnc30:=NB0_424.out;have hcz31_0:=bc0 BK424.out;have hcz31_1:=bc1 BK424.out;have hcz31_2:=bc2 BK424.out;have hcz31_3:=bc3 BK424.out;have hfz31_0:=ja BK424.out 0;have hfz31_1:=ja BK424.out 1;have hfz31_2:=ja BK424.out 2;have hfz31_3:=ja BK424.out 3;have hnb32:=NB419_0.out;have hnc32:=NB0_419.out;have hcz33_0:=bc0 BK419.out;have hfz33_0:=ja BK419.out 0) |((with_reducible refine jg (f:=55) rfl ?_);refine gL (some 40) Try.func55 #[.pointer (some ⟨g,0,none⟩), .int .i64 (l1_0.length:Int)] ?_;(with_reducible refine (jf.calls kj5 g s0_0 x1001_5 (l1_0.length:Int) t433 t434 w0 _ ?side1 ?side2 A26.out).mono ?_);(case side1=>exact Y3);(case side2=>exact Y6);rintro e w34 ⟨rfl,hi,hb,hk⟩;refine ⟨_,rfl,?_⟩;replace BK419:=am (jb.blk hk (g':=gb419) (o:=.cells #[.slice A1_0 l1_0.length c1_0] 32 (0,0)) (Y84) NB419_0.out (by simp));replace BK424:=am (jb.blk hk (g':=gb424) (o:=.cells #[.int .i64 a2, .int .i64 2, .int .i64 0, .int .i64 0] 59 (0,0)) (Y77) NB424_0.out (by simp));replace HK:=am (jb.trans (Y1) hk (.inl rfl));replace HB:=am (hb);replace HI0:=am (hi);(try clear hb);(try clear hb2);(try clear hk);(try clear hi);have hcz35_0:=bc0 BK424.out;have hcz35_1:=bc1 BK424.out;have hcz35_2:=bc2 BK424.out;have hcz35_3:=bc3 BK424.out;have hfz35_0:=ja BK424.out 0;have hfz35_1:=ja BK424.out 1;have hfz35_2:=ja BK424.out 2;have hfz35_3:=ja BK424.out 3) |((with_reducible refine jQ (N:=43) rfl ?_);refine Kd.jMb (Kd.int .i64) _ 3 ?hg (N:=43) ?hd (xs:=([1,2,3]:List Int)) (inner:=[.int .i64 1, .int .i64 2, .int .i64 3]) (ok:=fun _=>True) (okp:=fun _=>True) ?hr ?hp (fun _ hk=>hk) trivial (Below.refl _ _) (Nat.le_refl _) (by simp) ?_;(case hd=>rfl);(case hg=>rfl);(case hr=>exact Y8);(case hp=>exact (Reps.one (show Kd.M (Kd.int .i64) _ _ _ 1 [.int .i64 1] from rfl) (Reps.one (show Kd.M (Kd.int .i64) _ _ _ 2 [.int .i64 2] from rfl) (Reps.one (show Kd.M (Kd.int .i64) _ _ _ 3 [.int .i64 3] from rfl) (Reps.none _ _)))));intro v436 w36 ho37 hb hg_ hnew_;clear hg_ hnew_;(first | rw [← Ny435.out] at ho37 |(simp only [Int.reduceToNat] at ho37;rw [← Ny435.out] at ho37));have HO437:=am (Kd.jX ho37 (jM (w:=w) (g:=g) (row:=none) (Y1)));replace BK419:=am (jq (g:=gb419) (o:=.cells #[.slice A1_0 l1_0.length c1_0] 32 (0,0)) (Y42) hb);replace BK424:=am (jq (g:=gb424) (o:=.cells #[.int .i64 a2, .int .i64 2, .int .i64 t433, .int .i64 0] 59 (0,0)) (by (with_reducible repeat (first | refine jw ?_ _ | refine jE ?_ | refine jB ?_ _));refine jQa (cs:=#[.int .i64 a2, .int .i64 2, .int .i64 0, .int .i64 0]) ?_ 2 _ rfl;(with_reducible repeat (first | refine jw ?_ _ | refine jE ?_ | refine jB ?_ _));exact BK424.out) hb);replace HK:=am (jb.trans (Y1) (jb.of_below hb g none) (.inl rfl));replace HB:=am (ji (Y6) hb);replace HI0:=am (jc.below (show jc w0 (w34.setCell ⟨gb424,2,none⟩ (.int .i64 t433)) g s0_0 t434 from Y3) hb);clear hb ho37;obtain ⟨Ao38,co38,eo38⟩:=Kd.jaa HO437.out;subst eo38) |((with_reducible refine jg (f:=56) rfl ?_);refine gL (some 44) Try.func56 #[.pointer (some ⟨g,0,none⟩), .slice Ao38 y435.length co38] ?_;(with_reducible refine (jh.calls kj5 g s0_0 t434 _ _ y435 t438 t439 w0 _ ?side1 ?side2 ?side3 ?side4 ?side5 A27.out).mono ?_);(case side1=>exact Y3);(case side2=>exact Y6);(case side3=>exact cq (Kd.jm HO437.out).2.2);(case side4=>exact (Kd.jm HO437.out).2.1);(case side5=>exact jqb (jc.own_ne HI0.out HO437.out (by decide)));rintro e w39 ⟨rfl,hi,hb,hk⟩;refine ⟨_,rfl,?_⟩;replace BK419:=am (jb.blk hk (g':=gb419) (o:=.cells #[.slice A1_0 l1_0.length c1_0] 32 (0,0)) (kq BK419.out) NB419_0.out (by simp));replace BK424:=am (jb.blk hk (g':=gb424) (o:=.cells #[.int .i64 a2, .int .i64 2, .int .i64 t433, .int .i64 0] 59 (0,0)) (kq BK424.out) NB424_0.out (by simp));replace HO437:=am (Kd.jI (Kd.jxa (jc.apart (show jc w0 _ g s0_0 t434 from Y3) (rq HO437.out) (by decide)) hk (fun _ h=>h.2)) (fun _ h=>h.1));replace HK:=am (jb.trans (Y1) hk (.inl rfl));replace HB:=am (hb);replace HI0:=am (hi);(try clear hb);(try clear hb2);(try clear hk);(try clear hi);have hcz40_0:=bc0 BK424.out;have hcz40_1:=bc1 BK424.out;have hcz40_2:=bc2 BK424.out;have hcz40_3:=bc3 BK424.out;have hfz40_0:=ja BK424.out 0;have hfz40_1:=ja BK424.out 1;have hfz40_2:=ja BK424.out 2;have hfz40_3:=ja BK424.out 3) |((with_reducible refine jQ (N:=108) rfl ?_);refine Kd.jMb k59 _ 59 ?hg (N:=108) ?hd (xs:=([(⟨a2,2,t433,t438⟩:S59)]:List (S59))) (inner:=[.int .i64 a2, .int .i64 2, .int .i64 t433, .int .i64 t438]) (ok:=fun _=>True) (okp:=fun _=>True) ?hr ?hp (fun _ hk=>hk) trivial (Below.refl _ _) (Nat.le_refl _) (by simp) ?_;(case hd=>rfl);(case hg=>rfl);(case hr=>exact Y8);(case hp=>exact (Reps.c4 (show Kd.M k59 _ _ _ (⟨a2,2,t433,t438⟩:S59) [.int .i64 a2, .int .i64 2, .int .i64 t433, .int .i64 t438] from (jpb _ _ _ (⟨a2,2,t433,t438⟩:S59) )) (Reps.none _ _)));intro v441 w41 ho42 hb hg_ hnew_;clear hg_ hnew_;(first | rw [← Ny440.out] at ho42 |(simp only [Int.reduceToNat] at ho42;rw [← Ny440.out] at ho42));have HO442:=am (Kd.jX (Kd.jic ho42 (g:=gb424) (o:=.cells #[.int .i64 a2, .int .i64 2, .int .i64 t433, .int .i64 t438] 59 (0,0)) (Y95)) (jM (w:=w) (g:=g) (row:=none) (Y1)));replace HO437:=am (Kd.jja (by (with_reducible repeat (first | apply Kd.jba | apply Kd.jea | apply Kd.jma));exact (Kd.jI (Kd.jwb (p:=⟨gb424,3,none⟩) (Kd.jIa HO437.out BK424.out (by decide)) (fun _ hk=>hk.2) (.int .i64 t438)) (fun _ h_=>h_.1))) hb);replace BK419:=am (jq (g:=gb419) (o:=.cells #[.slice A1_0 l1_0.length c1_0] 32 (0,0)) (Y42) hb);replace BK424:=am (jq (g:=gb424) (o:=.cells #[.int .i64 a2, .int .i64 2, .int .i64 t433, .int .i64 t438] 59 (0,0)) (Y95) hb);replace HK:=am (jb.trans (Y1) (jb.of_below hb g none) (.inl rfl));replace HB:=am (ji (Y6) hb);replace HI0:=am (jc.below (show jc w0 (w39.setCell ⟨gb424,3,none⟩ (.int .i64 t438)) g s0_0 t439 from Y3) hb);clear hb ho42))
     go_ret
     exact ⟨_,Y0,by (with_reducible repeat (first | apply Kd.jba | apply Kd.jea | apply Kd.jma));exact Kd.jI HO442.out (fun _ hk=>trivial),Y3,Y6,Y1⟩
    ·rw [if_neg c25] at H
     have c25b0:decide (x9_5<6)=false:=dzF c25
     clear c25
     by_cases c43:x9_5=6
     ·rw [if_pos c43] at H
      have c43b0:(x9_5 == 6)=true:=beq_iff_eq.mpr c43
      have c43b1:(x9_5 != 6)=false:=bne_eq_false_iff_eq.mpr c43
      clear c43
      obtain ⟨y443,hy443⟩:∃ y_:List (S59),y_=(([(⟨a2,3,0,0⟩:S59)]:List (S59))):=⟨_,rfl⟩
      replace H:(some (y443,x1001_5))=some (r1,r2):=by first |(rw [hy443];with_reducible exact H) |(have H2_:=(Option.bind_some _ _).symm.trans H;rw [hy443];with_reducible exact H2_) |(have H2_:=(Option.bind_some _ _).symm.trans H;with_reducible exact H2_) | with_reducible exact H |(rw [hy443];exact H) | exact H
      have Ny443:=am hy443
      clear hy443
      simp only [Option.some.injEq,Prod.mk.injEq] at H
      obtain ⟨rfl,rfl⟩:=H
      go_wp2_with (first |((with_reducible refine jQ (N:=10) rfl ?_);refine bE (N:=10) (cs:=#[.int .i64 0, .int .i64 0, .int .i64 0, .int .i64 0]) (t:=59) ?_;intro gb424 hg w44 hbox hb;have BK424:=am (hbox);have GW424:=am ((Y50:w.heap.size≤gb424));have GE424:=am ((Nat.le_trans HW0.out (Y50:w.heap.size≤gb424):w0.heap.size≤gb424));have NB419_424:=am ((Y73:gb419≠gb424));have NB424_419:=am ((Y74:gb424≠gb419));have NB0_424:=am ((Y75:g≠gb424));have NB424_0:=am ((Y76:gb424≠g));replace BK419:=am (jq (g:=gb419) (o:=.cells #[.slice A1_0 l1_0.length c1_0] 32 (0,0)) (kq BK419.out) hb);replace HK:=am (jb.trans (Y49) (jb.of_below hb g none) (.inl rfl));replace HB:=am (ji (Y48) hb);replace HI0:=am (jc.below (Y47) hb);clear hb hbox hg;have hnb45:=NB424_419.out;have hnc45:=NB419_424.out;have hnb46:=NB424_0.out;have hnc46:=NB0_424.out;have hcz47_0:=bc0 BK424.out;have hcz47_1:=bc1 BK424.out;have hcz47_2:=bc2 BK424.out;have hcz47_3:=bc3 BK424.out;have hfz47_0:=ja BK424.out 0;have hfz47_1:=ja BK424.out 1;have hfz47_2:=ja BK424.out 2;have hfz47_3:=ja BK424.out 3) |((with_reducible refine jQ (N:=108) rfl ?_);refine Kd.jMb k59 _ 59 ?hg (N:=108) ?hd (xs:=([(⟨a2,3,0,0⟩:S59)]:List (S59))) (inner:=[.int .i64 a2, .int .i64 3, .int .i64 0, .int .i64 0]) (ok:=fun _=>True) (okp:=fun _=>True) ?hr ?hp (fun _ hk=>hk) trivial (Below.refl _ _) (Nat.le_refl _) (by simp) ?_;(case hd=>rfl);(case hg=>rfl);(case hr=>exact Y8);(case hp=>exact (Reps.c4 (show Kd.M k59 _ _ _ (⟨a2,3,0,0⟩:S59) [.int .i64 a2, .int .i64 3, .int .i64 0, .int .i64 0] from (jpb _ _ _ (⟨a2,3,0,0⟩:S59) )) (Reps.none _ _)));intro v444 w48 ho49 hb hg_ hnew_;clear hg_ hnew_;(first | rw [← Ny443.out] at ho49 |(simp only [Int.reduceToNat] at ho49;rw [← Ny443.out] at ho49));have HO445:=am (Kd.jX (Kd.jic ho49 (g:=gb424) (o:=.cells #[.int .i64 a2, .int .i64 3, .int .i64 0, .int .i64 0] 59 (0,0)) (Y77)) (jM (w:=w) (g:=g) (row:=none) (Y1)));replace BK419:=am (jq (g:=gb419) (o:=.cells #[.slice A1_0 l1_0.length c1_0] 32 (0,0)) (Y84) hb);replace BK424:=am (jq (g:=gb424) (o:=.cells #[.int .i64 a2, .int .i64 3, .int .i64 0, .int .i64 0] 59 (0,0)) (Y77) hb);replace HK:=am (jb.trans (Y1) (jb.of_below hb g none) (.inl rfl));replace HB:=am (ji (Y6) hb);replace HI0:=am (jc.below (show jc w0 (((((w44.setCell ⟨gb424,0,none⟩ (.int .i64 a2)).setCell ⟨gb424,1,none⟩ (.int .i64 0)).setCell ⟨gb424,2,none⟩ (.int .i64 0)).setCell ⟨gb424,3,none⟩ (.int .i64 0)).setCell ⟨gb424,1,none⟩ (.int .i64 3)) g s0_0 x1001_5 from Y3) hb);clear hb ho49))
      go_ret
      exact ⟨_,Y0,by (with_reducible repeat (first | apply Kd.jba | apply Kd.jea | apply Kd.jma));exact Kd.jI HO445.out (fun _ hk=>trivial),Y3,Y6,Y1⟩
     ·rw [if_neg c43] at H
      have c43b0:(x9_5 == 6)=false:=beq_eq_false_iff_ne.mpr c43
      have c43b1:(x9_5 != 6)=true:=bne_iff_ne.mpr c43
      have HC50:=am H
      clear H
      go_upto_region 15 with (first |((with_reducible refine jQ (N:=10) rfl ?_);refine bE (N:=10) (cs:=#[.int .i64 0, .int .i64 0, .int .i64 0, .int .i64 0]) (t:=59) ?_;intro gb424 hg w51 hbox hb;have BK424:=am (hbox);have GW424:=am ((Y50:w.heap.size≤gb424));have GE424:=am ((Nat.le_trans HW0.out (Y50:w.heap.size≤gb424):w0.heap.size≤gb424));have NB419_424:=am ((Y73:gb419≠gb424));have NB424_419:=am ((Y74:gb424≠gb419));have NB0_424:=am ((Y75:g≠gb424));have NB424_0:=am ((Y76:gb424≠g));replace BK419:=am (jq (g:=gb419) (o:=.cells #[.slice A1_0 l1_0.length c1_0] 32 (0,0)) (kq BK419.out) hb);replace HK:=am (jb.trans (Y49) (jb.of_below hb g none) (.inl rfl));replace HB:=am (ji (Y48) hb);replace HI0:=am (jc.below (Y47) hb);clear hb hbox hg;have hnb52:=NB424_419.out;have hnc52:=NB419_424.out;have hnb53:=NB424_0.out;have hnc53:=NB0_424.out;have hcz54_0:=bc0 BK424.out;have hcz54_1:=bc1 BK424.out;have hcz54_2:=bc2 BK424.out;have hcz54_3:=bc3 BK424.out;have hfz54_0:=ja BK424.out 0;have hfz54_1:=ja BK424.out 1;have hfz54_2:=ja BK424.out 2;have hfz54_3:=ja BK424.out 3))
      (try simp only [Act.put,List.setIfInBounds_toArray,List.set_cons_zero,List.set_cons_succ])
      go_cut [50] (fun v50 wc=>∃ (kq:Nat) (x50_49:Bool),v50=.bool x50_49∧jl (jy.j1 kq a2 a3 x9_5 x50_49 s0_0 x1001_5 l1_0 a2 0 0 0=some (r1,r2))∧jl (kq≤kj5)∧jl (wc.heap[gb419]?=some (.cells #[(.slice A1_0 l1_0.length c1_0)] 32 (0,0)))∧jl (wc.heap[gb424]?=some (.cells #[.int .i64 a2, .int .i64 0, .int .i64 0, .int .i64 0] 59 (0,0)))∧jl (jc w0 wc g s0_0 x1001_5)∧jl (jb w wc g none)∧jl (Below w0.heap.size w0 wc))
      case first =>
       have H:=HC50.out
       clear HC50
       by_cases c55:x9_5=7
       ·rw [if_pos c55] at H
        have c55b0:(x9_5 == 7)=true:=beq_iff_eq.mpr c55
        have c55b1:(x9_5 != 7)=false:=bne_eq_false_iff_eq.mpr c55
        clear c55
        (first | rw [c55b0] |(simp only [jeb,jhb];rw [c55b0]) | skip)
        have H':=am H
        clear H
        go_wp2
        go_meet
        case rel=>exact ⟨_,(a3),(sq),H',⟨by have:=HJ5.out;first | omega | exact Nat.le_refl _⟩,⟨by (with_reducible repeat (first | refine jw ?_ _ | refine jE ?_ | refine jB ?_ _));refine jcb ?_ NB419_424.out _;(with_reducible repeat (first | refine jw ?_ _ | refine jE ?_ | refine jB ?_ _));refine jcb ?_ NB419_424.out _;(with_reducible repeat (first | refine jw ?_ _ | refine jE ?_ | refine jB ?_ _));refine jcb ?_ NB419_424.out _;(with_reducible repeat (first | refine jw ?_ _ | refine jE ?_ | refine jB ?_ _));refine jcb ?_ NB419_424.out _;(with_reducible repeat (first | refine jw ?_ _ | refine jE ?_ | refine jB ?_ _));exact BK419.out⟩,⟨by (with_reducible repeat (first | refine jw ?_ _ | refine jE ?_ | refine jB ?_ _));refine jQa (cs:=#[.int .i64 a2, .int .i64 0, .int .i64 0, .int .i64 0]) ?_ 3 _ rfl;(with_reducible repeat (first | refine jw ?_ _ | refine jE ?_ | refine jB ?_ _));refine jQa (cs:=#[.int .i64 a2, .int .i64 0, .int .i64 0, .int .i64 0]) ?_ 2 _ rfl;(with_reducible repeat (first | refine jw ?_ _ | refine jE ?_ | refine jB ?_ _));refine jQa (cs:=#[.int .i64 a2, .int .i64 0, .int .i64 0, .int .i64 0]) ?_ 1 _ rfl;(with_reducible repeat (first | refine jw ?_ _ | refine jE ?_ | refine jB ?_ _));refine jQa (cs:=#[.int .i64 0, .int .i64 0, .int .i64 0, .int .i64 0]) ?_ 0 _ rfl;(with_reducible repeat (first | refine jw ?_ _ | refine jE ?_ | refine jB ?_ _));exact BK424.out⟩,⟨Y3⟩,⟨Y1⟩,⟨Y6⟩⟩
       ·rw [if_neg c55] at H
        have c55b0:(x9_5 == 7)=false:=beq_eq_false_iff_ne.mpr c55
        have c55b1:(x9_5 != 7)=true:=bne_iff_ne.mpr c55
        (first | rw [c55b0] |(simp only [jeb,jhb];rw [c55b0]) | skip)
        have H':=am H
        clear H
        go_wp2
        go_meet
        case rel=>exact ⟨_,(false),(sq),H',⟨by have:=HJ5.out;first | omega | exact Nat.le_refl _⟩,⟨by (with_reducible repeat (first | refine jw ?_ _ | refine jE ?_ | refine jB ?_ _));refine jcb ?_ NB419_424.out _;(with_reducible repeat (first | refine jw ?_ _ | refine jE ?_ | refine jB ?_ _));refine jcb ?_ NB419_424.out _;(with_reducible repeat (first | refine jw ?_ _ | refine jE ?_ | refine jB ?_ _));refine jcb ?_ NB419_424.out _;(with_reducible repeat (first | refine jw ?_ _ | refine jE ?_ | refine jB ?_ _));refine jcb ?_ NB419_424.out _;(with_reducible repeat (first | refine jw ?_ _ | refine jE ?_ | refine jB ?_ _));exact BK419.out⟩,⟨by (with_reducible repeat (first | refine jw ?_ _ | refine jE ?_ | refine jB ?_ _));refine jQa (cs:=#[.int .i64 a2, .int .i64 0, .int .i64 0, .int .i64 0]) ?_ 3 _ rfl;(with_reducible repeat (first | refine jw ?_ _ | refine jE ?_ | refine jB ?_ _));refine jQa (cs:=#[.int .i64 a2, .int .i64 0, .int .i64 0, .int .i64 0]) ?_ 2 _ rfl;(with_reducible repeat (first | refine jw ?_ _ | refine jE ?_ | refine jB ?_ _));refine jQa (cs:=#[.int .i64 a2, .int .i64 0, .int .i64 0, .int .i64 0]) ?_ 1 _ rfl;(with_reducible repeat (first | refine jw ?_ _ | refine jE ?_ | refine jB ?_ _));refine jQa (cs:=#[.int .i64 0, .int .i64 0, .int .i64 0, .int .i64 0]) ?_ 0 _ rfl;(with_reducible repeat (first | refine jw ?_ _ | refine jE ?_ | refine jB ?_ _));exact BK424.out⟩,⟨Y3⟩,⟨Y1⟩,⟨Y6⟩⟩
      case rest =>
       clear HC50
       try clear c1
       try clear c2
       try clear p2
       try clear c3
       try clear c4
       try clear c5
       try clear c9
       try clear c9b0
       try clear c10
       try clear c12
       try clear c12b0
       try clear c15
       try clear c16
       try clear c25
       try clear c25b0
       try clear c29
       try clear c30
       try clear c32
       try clear c43
       try clear c43b0
       try clear c43b1
       try clear c45
       try clear c46
       try clear c52
       try clear c53
       try clear c55
       try clear c55b0
       try clear c55b1
       try clear hcz17_0
       try clear hcz17_1
       try clear hcz17_2
       try clear hcz17_3
       try clear hcz22_0
       try clear hcz22_1
       try clear hcz22_2
       try clear hcz22_3
       try clear hcz31_0
       try clear hcz31_1
       try clear hcz31_2
       try clear hcz31_3
       try clear hcz33_0
       try clear hcz35_0
       try clear hcz35_1
       try clear hcz35_2
       try clear hcz35_3
       try clear hcz40_0
       try clear hcz40_1
       try clear hcz40_2
       try clear hcz40_3
       try clear hcz47_0
       try clear hcz47_1
       try clear hcz47_2
       try clear hcz47_3
       try clear hcz54_0
       try clear hcz54_1
       try clear hcz54_2
       try clear hcz54_3
       try clear hfz17_0
       try clear hfz17_1
       try clear hfz17_2
       try clear hfz17_3
       try clear hfz22_0
       try clear hfz22_1
       try clear hfz22_2
       try clear hfz22_3
       try clear hfz31_0
       try clear hfz31_1
       try clear hfz31_2
       try clear hfz31_3
       try clear hfz33_0
       try clear hfz35_0
       try clear hfz35_1
       try clear hfz35_2
       try clear hfz35_3
       try clear hfz40_0
       try clear hfz40_1
       try clear hfz40_2
       try clear hfz40_3
       try clear hfz47_0
       try clear hfz47_1
       try clear hfz47_2
       try clear hfz47_3
       try clear hfz54_0
       try clear hfz54_1
       try clear hfz54_2
       try clear hfz54_3
       try clear p2
       obtain ⟨kq,x50_49,rfl,HA,HJ49,BK419,BK424,HI0,HK,HB⟩:=hcut
       cases kq with
       | zero=>exact absurd HA.out (by simp [jy.j1])
       | succ kj49 =>
        have H:=HA.out
        clear HA
        simp only [jy.j1] at H
        by_cases c56:x50_49=true
        ·subst c56
         have H1:((jh.f kj49 s0_0 x1001_5 (([5,6]:List Int))).bind fun bt449=>(some ((([(⟨a2,bt449.1,0,0⟩:S59)]:List (S59))),bt449.2)))=some (r1,r2):=by rw [if_pos rfl] at H;exact H
         clear H
         have H:=H1
         clear H1
         obtain ⟨y446,hy446⟩:∃ y_:List Int,y_=(([5,6]:List Int)):=⟨_,rfl⟩
         replace H:((jh.f kj49 s0_0 x1001_5 y446).bind fun bt449=>(some ((([(⟨a2,bt449.1,0,0⟩:S59)]:List (S59))),bt449.2)))=some (r1,r2):=by first |(rw [hy446];with_reducible exact H) |(have H2_:=(Option.bind_some _ _).symm.trans H;rw [hy446];with_reducible exact H2_) |(have H2_:=(Option.bind_some _ _).symm.trans H;with_reducible exact H2_) | with_reducible exact H |(rw [hy446];exact H) | exact H
         have Ny446:=am hy446
         clear hy446
         replace H:=bzS H
         obtain ⟨⟨t449,t450⟩,A570,H⟩:=H
         replace H:(some ((([(⟨a2,t449,0,0⟩:S59)]:List (S59))),t450))=some (r1,r2):=H
         have A57:=am A570
         clear A570
         obtain ⟨y451,hy451⟩:∃ y_:List (S59),y_=(([(⟨a2,t449,0,0⟩:S59)]:List (S59))):=⟨_,rfl⟩
         replace H:(some (y451,t450))=some (r1,r2):=by first |(rw [hy451];with_reducible exact H) |(have H2_:=(Option.bind_some _ _).symm.trans H;rw [hy451];with_reducible exact H2_) |(have H2_:=(Option.bind_some _ _).symm.trans H;with_reducible exact H2_) | with_reducible exact H |(rw [hy451];exact H) | exact H
         have Ny451:=am hy451
         clear hy451
         simp only [Option.some.injEq,Prod.mk.injEq] at H
         obtain ⟨rfl,rfl⟩:=H
         go_wp2_with (first |((with_reducible refine jQ (N:=57) rfl ?_);refine Kd.jMb (Kd.int .i64) _ 3 ?hg (N:=57) ?hd (xs:=([5,6]:List Int)) (inner:=[.int .i64 5, .int .i64 6]) (ok:=fun _=>True) (okp:=fun _=>True) ?hr ?hp (fun _ hk=>hk) trivial (Below.refl _ _) (Nat.le_refl _) (by simp) ?_;(case hd=>rfl);(case hg=>rfl);(case hr=>exact Y8);(case hp=>exact (Reps.one (show Kd.M (Kd.int .i64) _ _ _ 5 [.int .i64 5] from rfl) (Reps.one (show Kd.M (Kd.int .i64) _ _ _ 6 [.int .i64 6] from rfl) (Reps.none _ _))));intro v447 w58 ho59 hb hg_ hnew_;clear hg_ hnew_;(first | rw [← Ny446.out] at ho59 |(simp only [Int.reduceToNat] at ho59;rw [← Ny446.out] at ho59));have HO448:=am (Kd.jX ho59 (jM (w:=w) (g:=g) (row:=none) (Y1)));replace BK419:=am (jq (g:=gb419) (o:=.cells #[.slice A1_0 l1_0.length c1_0] 32 (0,0)) (kq BK419.out) hb);replace BK424:=am (jq (g:=gb424) (o:=.cells #[.int .i64 a2, .int .i64 0, .int .i64 0, .int .i64 0] 59 (0,0)) (kq BK424.out) hb);replace HK:=am (jb.trans (Y1) (jb.of_below hb g none) (.inl rfl));replace HB:=am (ji (Y6) hb);replace HI0:=am (jc.below (Y3) hb);clear hb ho59;obtain ⟨Ao60,co60,eo60⟩:=Kd.jaa HO448.out;subst eo60) |((with_reducible refine jg (f:=56) rfl ?_);refine gL (some 58) Try.func56 #[.pointer (some ⟨g,0,none⟩), .slice Ao60 y446.length co60] ?_;(with_reducible refine (jh.calls kj49 g s0_0 x1001_5 _ _ y446 t449 t450 w0 _ ?side1 ?side2 ?side3 ?side4 ?side5 A57.out).mono ?_);(case side1=>exact Y3);(case side2=>exact Y6);(case side3=>exact cq (Kd.jm HO448.out).2.2);(case side4=>exact (Kd.jm HO448.out).2.1);(case side5=>exact jqb (jc.own_ne HI0.out HO448.out (by decide)));rintro e w61 ⟨rfl,hi,hb,hk⟩;refine ⟨_,rfl,?_⟩;replace BK419:=am (jb.blk hk (g':=gb419) (o:=.cells #[.slice A1_0 l1_0.length c1_0] 32 (0,0)) (kq BK419.out) NB419_0.out (by simp));replace BK424:=am (jb.blk hk (g':=gb424) (o:=.cells #[.int .i64 a2, .int .i64 0, .int .i64 0, .int .i64 0] 59 (0,0)) (kq BK424.out) NB424_0.out (by simp));replace HO448:=am (Kd.jI (Kd.jxa (jc.apart (show jc w0 _ g s0_0 x1001_5 from Y3) (rq HO448.out) (by decide)) hk (fun _ h=>h.2)) (fun _ h=>h.1));replace HK:=am (jb.trans (Y1) hk (.inl rfl));replace HB:=am (hb);replace HI0:=am (hi);(try clear hb);(try clear hb2);(try clear hk);(try clear hi);have hnb62:=NB424_419.out;have hnc62:=NB419_424.out;have hnb63:=NB424_0.out;have hnc63:=NB0_424.out;have hcz64_0:=bc0 BK424.out;have hcz64_1:=bc1 BK424.out;have hcz64_2:=bc2 BK424.out;have hcz64_3:=bc3 BK424.out;have hfz64_0:=ja BK424.out 0;have hfz64_1:=ja BK424.out 1;have hfz64_2:=ja BK424.out 2;have hfz64_3:=ja BK424.out 3) |((with_reducible refine jQ (N:=108) rfl ?_);refine Kd.jMb k59 _ 59 ?hg (N:=108) ?hd (xs:=([(⟨a2,t449,0,0⟩:S59)]:List (S59))) (inner:=[.int .i64 a2, .int .i64 t449, .int .i64 0, .int .i64 0]) (ok:=fun _=>True) (okp:=fun _=>True) ?hr ?hp (fun _ hk=>hk) trivial (Below.refl _ _) (Nat.le_refl _) (by simp) ?_;(case hd=>rfl);(case hg=>rfl);(case hr=>exact Y8);(case hp=>exact (Reps.c4 (show Kd.M k59 _ _ _ (⟨a2,t449,0,0⟩:S59) [.int .i64 a2, .int .i64 t449, .int .i64 0, .int .i64 0] from (jpb _ _ _ (⟨a2,t449,0,0⟩:S59) )) (Reps.none _ _)));intro v452 w65 ho66 hb hg_ hnew_;clear hg_ hnew_;(first | rw [← Ny451.out] at ho66 |(simp only [Int.reduceToNat] at ho66;rw [← Ny451.out] at ho66));have HO453:=am (Kd.jX (Kd.jic ho66 (g:=gb424) (o:=.cells #[.int .i64 a2, .int .i64 t449, .int .i64 0, .int .i64 0] 59 (0,0)) (Y52)) (jM (w:=w) (g:=g) (row:=none) (Y1)));replace HO448:=am (Kd.jja (by (with_reducible repeat (first | apply Kd.jba | apply Kd.jea | apply Kd.jma));exact (Kd.jI (Kd.jwb (p:=⟨gb424,1,none⟩) (Kd.jIa HO448.out BK424.out (by decide)) (fun _ hk=>hk.2) (.int .i64 t449)) (fun _ h_=>h_.1))) hb);replace BK419:=am (jq (g:=gb419) (o:=.cells #[.slice A1_0 l1_0.length c1_0] 32 (0,0)) (Y42) hb);replace BK424:=am (jq (g:=gb424) (o:=.cells #[.int .i64 a2, .int .i64 t449, .int .i64 0, .int .i64 0] 59 (0,0)) (Y52) hb);replace HK:=am (jb.trans (Y1) (jb.of_below hb g none) (.inl rfl));replace HB:=am (ji (Y6) hb);replace HI0:=am (jc.below (show jc w0 (w61.setCell ⟨gb424,1,none⟩ (.int .i64 t449)) g s0_0 t450 from Y3) hb);clear hb ho66))
         go_ret
         exact ⟨_,Y0,by (with_reducible repeat (first | apply Kd.jba | apply Kd.jea | apply Kd.jma));exact Kd.jI HO453.out (fun _ hk=>trivial),Y3,Y6,Y1⟩
        ·replace c56:=Bool.eq_false_iff.mpr c56
         subst c56
         have H1:(if x9_5=7 then ((jh.f kj49 s0_0 x1001_5 (([7,8]:List Int))).bind fun bt457=>(some ((([(⟨a2,4,bt457.1,0⟩:S59)]:List (S59))),bt457.2))) else (if x9_5=8 then (some ((([(⟨a2,0,0,0⟩:S59)]:List (S59))),x1001_5)) else (if x9_5<11 then ((jf.f kj49 s0_0 x1001_5 4).bind fun bt465=>((jf.f kj49 s0_0 bt465.2 2).bind fun bt467=>((some (([(⟨a2,11,bt465.1,bt467.1⟩:S59)]:List (S59)):List (S59))).bind fun y469=>((jJ.f kj49 s0_0 bt467.2 l1_0 (wrap64 (a2+1)) a3).bind fun bt472=>(if y469.length+bt472.1.length<4398046511104 then (some ((y469 ++ bt472.1),bt472.2)) else (none)))))) else (if x9_5=11 then ((jh.f kj49 s0_0 x1001_5 (([2,1,3,0]:List Int))).bind fun bt482=>((some (([(⟨a2,12,bt482.1,0⟩:S59)]:List (S59)):List (S59))).bind fun y484=>((jJ.f kj49 s0_0 bt482.2 l1_0 (wrap64 (a2+1)) true).bind fun bt487=>(if y484.length+bt487.1.length<4398046511104 then (some ((y484 ++ bt487.1),bt487.2)) else (none))))) else ((jR.f kj49 s0_0 x1001_5 l1_0 a2 a3).bind fun bt494=>(some (bt494.1,bt494.2)))))))=some (r1,r2):=by rw [if_neg (show ¬ (false=true) by decide)] at H;exact H
         clear H
         have H:=H1
         clear H1
         by_cases c67:x9_5=7
         ·rw [if_pos c67] at H
          have c67b0:(x9_5 == 7)=true:=beq_iff_eq.mpr c67
          have c67b1:(x9_5 != 7)=false:=bne_eq_false_iff_eq.mpr c67
          clear c67
          obtain ⟨y454,hy454⟩:∃ y_:List Int,y_=(([7,8]:List Int)):=⟨_,rfl⟩
          replace H:((jh.f kj49 s0_0 x1001_5 y454).bind fun bt457=>(some ((([(⟨a2,4,bt457.1,0⟩:S59)]:List (S59))),bt457.2)))=some (r1,r2):=by first |(rw [hy454];with_reducible exact H) |(have H2_:=(Option.bind_some _ _).symm.trans H;rw [hy454];with_reducible exact H2_) |(have H2_:=(Option.bind_some _ _).symm.trans H;with_reducible exact H2_) | with_reducible exact H |(rw [hy454];exact H) | exact H
          have Ny454:=am hy454
          clear hy454
          replace H:=bzS H
          obtain ⟨⟨t457,t458⟩,A680,H⟩:=H
          replace H:(some ((([(⟨a2,4,t457,0⟩:S59)]:List (S59))),t458))=some (r1,r2):=H
          have A68:=am A680
          clear A680
          obtain ⟨y459,hy459⟩:∃ y_:List (S59),y_=(([(⟨a2,4,t457,0⟩:S59)]:List (S59))):=⟨_,rfl⟩
          replace H:(some (y459,t458))=some (r1,r2):=by first |(rw [hy459];with_reducible exact H) |(have H2_:=(Option.bind_some _ _).symm.trans H;rw [hy459];with_reducible exact H2_) |(have H2_:=(Option.bind_some _ _).symm.trans H;with_reducible exact H2_) | with_reducible exact H |(rw [hy459];exact H) | exact H
          have Ny459:=am hy459
          clear hy459
          simp only [Option.some.injEq,Prod.mk.injEq] at H
          obtain ⟨rfl,rfl⟩:=H
          have hnb69:=NB424_419.out
          have hnc69:=NB419_424.out
          have hnb70:=NB424_0.out
          have hnc70:=NB0_424.out
          have hcz71_0:=bc0 BK424.out
          have hcz71_1:=bc1 BK424.out
          have hcz71_2:=bc2 BK424.out
          have hcz71_3:=bc3 BK424.out
          have hfz71_0:=ja BK424.out 0
          have hfz71_1:=ja BK424.out 1
          have hfz71_2:=ja BK424.out 2
          have hfz71_3:=ja BK424.out 3
          go_wp2_with (first |((with_reducible refine jQ (N:=65) rfl ?_);refine Kd.jMb (Kd.int .i64) _ 3 ?hg (N:=65) ?hd (xs:=([7,8]:List Int)) (inner:=[.int .i64 7, .int .i64 8]) (ok:=fun _=>True) (okp:=fun _=>True) ?hr ?hp (fun _ hk=>hk) trivial (Below.refl _ _) (Nat.le_refl _) (by simp) ?_;(case hd=>rfl);(case hg=>rfl);(case hr=>exact Y8);(case hp=>exact (Reps.one (show Kd.M (Kd.int .i64) _ _ _ 7 [.int .i64 7] from rfl) (Reps.one (show Kd.M (Kd.int .i64) _ _ _ 8 [.int .i64 8] from rfl) (Reps.none _ _))));intro v455 w72 ho73 hb hg_ hnew_;clear hg_ hnew_;(first | rw [← Ny454.out] at ho73 |(simp only [Int.reduceToNat] at ho73;rw [← Ny454.out] at ho73));have HO456:=am (Kd.jX ho73 (jM (w:=w) (g:=g) (row:=none) (Y1)));replace BK419:=am (jq (g:=gb419) (o:=.cells #[.slice A1_0 l1_0.length c1_0] 32 (0,0)) (Y42) hb);replace BK424:=am (jq (g:=gb424) (o:=.cells #[.int .i64 a2, .int .i64 4, .int .i64 0, .int .i64 0] 59 (0,0)) (Y52) hb);replace HK:=am (jb.trans (Y1) (jb.of_below hb g none) (.inl rfl));replace HB:=am (ji (Y6) hb);replace HI0:=am (jc.below (show jc w0 (wc.setCell ⟨gb424,1,none⟩ (.int .i64 4)) g s0_0 x1001_5 from Y3) hb);clear hb ho73;obtain ⟨Ao74,co74,eo74⟩:=Kd.jaa HO456.out;subst eo74) |((with_reducible refine jg (f:=56) rfl ?_);refine gL (some 66) Try.func56 #[.pointer (some ⟨g,0,none⟩), .slice Ao74 y454.length co74] ?_;(with_reducible refine (jh.calls kj49 g s0_0 x1001_5 _ _ y454 t457 t458 w0 _ ?side1 ?side2 ?side3 ?side4 ?side5 A68.out).mono ?_);(case side1=>exact Y3);(case side2=>exact Y6);(case side3=>exact cq (Kd.jm HO456.out).2.2);(case side4=>exact (Kd.jm HO456.out).2.1);(case side5=>exact jqb (jc.own_ne HI0.out HO456.out (by decide)));rintro e w75 ⟨rfl,hi,hb,hk⟩;refine ⟨_,rfl,?_⟩;replace BK419:=am (jb.blk hk (g':=gb419) (o:=.cells #[.slice A1_0 l1_0.length c1_0] 32 (0,0)) (kq BK419.out) NB419_0.out (by simp));replace BK424:=am (jb.blk hk (g':=gb424) (o:=.cells #[.int .i64 a2, .int .i64 4, .int .i64 0, .int .i64 0] 59 (0,0)) (kq BK424.out) NB424_0.out (by simp));replace HO456:=am (Kd.jI (Kd.jxa (jc.apart (show jc w0 _ g s0_0 x1001_5 from Y3) (rq HO456.out) (by decide)) hk (fun _ h=>h.2)) (fun _ h=>h.1));replace HK:=am (jb.trans (Y1) hk (.inl rfl));replace HB:=am (hb);replace HI0:=am (hi);(try clear hb);(try clear hb2);(try clear hk);(try clear hi);have hcz76_0:=bc0 BK424.out;have hcz76_1:=bc1 BK424.out;have hcz76_2:=bc2 BK424.out;have hcz76_3:=bc3 BK424.out;have hfz76_0:=ja BK424.out 0;have hfz76_1:=ja BK424.out 1;have hfz76_2:=ja BK424.out 2;have hfz76_3:=ja BK424.out 3) |((with_reducible refine jQ (N:=108) rfl ?_);refine Kd.jMb k59 _ 59 ?hg (N:=108) ?hd (xs:=([(⟨a2,4,t457,0⟩:S59)]:List (S59))) (inner:=[.int .i64 a2, .int .i64 4, .int .i64 t457, .int .i64 0]) (ok:=fun _=>True) (okp:=fun _=>True) ?hr ?hp (fun _ hk=>hk) trivial (Below.refl _ _) (Nat.le_refl _) (by simp) ?_;(case hd=>rfl);(case hg=>rfl);(case hr=>exact Y8);(case hp=>exact (Reps.c4 (show Kd.M k59 _ _ _ (⟨a2,4,t457,0⟩:S59) [.int .i64 a2, .int .i64 4, .int .i64 t457, .int .i64 0] from (jpb _ _ _ (⟨a2,4,t457,0⟩:S59) )) (Reps.none _ _)));intro v460 w77 ho78 hb hg_ hnew_;clear hg_ hnew_;(first | rw [← Ny459.out] at ho78 |(simp only [Int.reduceToNat] at ho78;rw [← Ny459.out] at ho78));have HO461:=am (Kd.jX (Kd.jic ho78 (g:=gb424) (o:=.cells #[.int .i64 a2, .int .i64 4, .int .i64 t457, .int .i64 0] 59 (0,0)) (Y96)) (jM (w:=w) (g:=g) (row:=none) (Y1)));replace HO456:=am (Kd.jja (by (with_reducible repeat (first | apply Kd.jba | apply Kd.jea | apply Kd.jma));exact (Kd.jI (Kd.jwb (p:=⟨gb424,2,none⟩) (Kd.jIa HO456.out BK424.out (by decide)) (fun _ hk=>hk.2) (.int .i64 t457)) (fun _ h_=>h_.1))) hb);replace BK419:=am (jq (g:=gb419) (o:=.cells #[.slice A1_0 l1_0.length c1_0] 32 (0,0)) (Y42) hb);replace BK424:=am (jq (g:=gb424) (o:=.cells #[.int .i64 a2, .int .i64 4, .int .i64 t457, .int .i64 0] 59 (0,0)) (Y96) hb);replace HK:=am (jb.trans (Y1) (jb.of_below hb g none) (.inl rfl));replace HB:=am (ji (Y6) hb);replace HI0:=am (jc.below (show jc w0 (w75.setCell ⟨gb424,2,none⟩ (.int .i64 t457)) g s0_0 t458 from Y3) hb);clear hb ho78))
          go_ret
          exact ⟨_,Y0,by (with_reducible repeat (first | apply Kd.jba | apply Kd.jea | apply Kd.jma));exact Kd.jI HO461.out (fun _ hk=>trivial),Y3,Y6,Y1⟩
         ·rw [if_neg c67] at H
          have c67b0:(x9_5 == 7)=false:=beq_eq_false_iff_ne.mpr c67
          have c67b1:(x9_5 != 7)=true:=bne_iff_ne.mpr c67
          by_cases c79:x9_5=8
          ·rw [if_pos c79] at H
           have c79b0:(x9_5 == 8)=true:=beq_iff_eq.mpr c79
           have c79b1:(x9_5 != 8)=false:=bne_eq_false_iff_eq.mpr c79
           clear c79
           obtain ⟨y462,hy462⟩:∃ y_:List (S59),y_=(([(⟨a2,0,0,0⟩:S59)]:List (S59))):=⟨_,rfl⟩
           replace H:(some (y462,x1001_5))=some (r1,r2):=by first |(rw [hy462];with_reducible exact H) |(have H2_:=(Option.bind_some _ _).symm.trans H;rw [hy462];with_reducible exact H2_) |(have H2_:=(Option.bind_some _ _).symm.trans H;with_reducible exact H2_) | with_reducible exact H |(rw [hy462];exact H) | exact H
           have Ny462:=am hy462
           clear hy462
           simp only [Option.some.injEq,Prod.mk.injEq] at H
           obtain ⟨rfl,rfl⟩:=H
           have hnb80:=NB424_419.out
           have hnc80:=NB419_424.out
           have hnb81:=NB424_0.out
           have hnc81:=NB0_424.out
           have hcz82_0:=bc0 BK424.out
           have hcz82_1:=bc1 BK424.out
           have hcz82_2:=bc2 BK424.out
           have hcz82_3:=bc3 BK424.out
           have hfz82_0:=ja BK424.out 0
           have hfz82_1:=ja BK424.out 1
           have hfz82_2:=ja BK424.out 2
           have hfz82_3:=ja BK424.out 3
           go_wp2_with (first |((with_reducible refine jQ (N:=108) rfl ?_);refine Kd.jMb k59 _ 59 ?hg (N:=108) ?hd (xs:=([(⟨a2,0,0,0⟩:S59)]:List (S59))) (inner:=[.int .i64 a2, .int .i64 0, .int .i64 0, .int .i64 0]) (ok:=fun _=>True) (okp:=fun _=>True) ?hr ?hp (fun _ hk=>hk) trivial (Below.refl _ _) (Nat.le_refl _) (by simp) ?_;(case hd=>rfl);(case hg=>rfl);(case hr=>exact Y8);(case hp=>exact (Reps.c4 (show Kd.M k59 _ _ _ (⟨a2,0,0,0⟩:S59) [.int .i64 a2, .int .i64 0, .int .i64 0, .int .i64 0] from (jpb _ _ _ (⟨a2,0,0,0⟩:S59) )) (Reps.none _ _)));intro v463 w83 ho84 hb hg_ hnew_;clear hg_ hnew_;(first | rw [← Ny462.out] at ho84 |(simp only [Int.reduceToNat] at ho84;rw [← Ny462.out] at ho84));have HO464:=am (Kd.jX (Kd.jic ho84 (g:=gb424) (o:=.cells #[.int .i64 a2, .int .i64 0, .int .i64 0, .int .i64 0] 59 (0,0)) (Y52)) (jM (w:=w) (g:=g) (row:=none) (Y1)));replace BK419:=am (jq (g:=gb419) (o:=.cells #[.slice A1_0 l1_0.length c1_0] 32 (0,0)) (Y42) hb);replace BK424:=am (jq (g:=gb424) (o:=.cells #[.int .i64 a2, .int .i64 0, .int .i64 0, .int .i64 0] 59 (0,0)) (Y52) hb);replace HK:=am (jb.trans (Y1) (jb.of_below hb g none) (.inl rfl));replace HB:=am (ji (Y6) hb);replace HI0:=am (jc.below (show jc w0 (wc.setCell ⟨gb424,1,none⟩ (.int .i64 0)) g s0_0 x1001_5 from Y3) hb);clear hb ho84))
           go_ret
           exact ⟨_,Y0,by (with_reducible repeat (first | apply Kd.jba | apply Kd.jea | apply Kd.jma));exact Kd.jI HO464.out (fun _ hk=>trivial),Y3,Y6,Y1⟩
          ·rw [if_neg c79] at H
           have c79b0:(x9_5 == 8)=false:=beq_eq_false_iff_ne.mpr c79
           have c79b1:(x9_5 != 8)=true:=bne_iff_ne.mpr c79
           by_cases c85:x9_5<11
           ·rw [if_pos c85] at H
            have c85b0:decide (x9_5<11)=true:=dzT c85
            clear c85
            replace H:=bzS H
            obtain ⟨⟨t465,t466⟩,A860,H⟩:=H
            replace H:((jf.f kj49 s0_0 t466 2).bind fun bt467=>((some (([(⟨a2,11,t465,bt467.1⟩:S59)]:List (S59)):List (S59))).bind fun y469=>((jJ.f kj49 s0_0 bt467.2 l1_0 (wrap64 (a2+1)) a3).bind fun bt472=>(if y469.length+bt472.1.length<4398046511104 then (some ((y469 ++ bt472.1),bt472.2)) else (none)))))=some (r1,r2):=H
            have A86:=am A860
            clear A860
            replace H:=bzS H
            obtain ⟨⟨t467,t468⟩,A870,H⟩:=H
            replace H:((some (([(⟨a2,11,t465,t467⟩:S59)]:List (S59)):List (S59))).bind fun y469=>((jJ.f kj49 s0_0 t468 l1_0 (wrap64 (a2+1)) a3).bind fun bt472=>(if y469.length+bt472.1.length<4398046511104 then (some ((y469 ++ bt472.1),bt472.2)) else (none))))=some (r1,r2):=H
            have A87:=am A870
            clear A870
            obtain ⟨y469,hy469⟩:∃ y_:List (S59),y_=(([(⟨a2,11,t465,t467⟩:S59)]:List (S59))):=⟨_,rfl⟩
            replace H:((jJ.f kj49 s0_0 t468 l1_0 (wrap64 (a2+1)) a3).bind fun bt472=>(if y469.length+bt472.1.length<4398046511104 then (some ((y469 ++ bt472.1),bt472.2)) else (none)))=some (r1,r2):=by first |(rw [hy469];with_reducible exact H) |(have H2_:=(Option.bind_some _ _).symm.trans H;rw [hy469];with_reducible exact H2_) |(have H2_:=(Option.bind_some _ _).symm.trans H;with_reducible exact H2_) | with_reducible exact H |(rw [hy469];exact H) | exact H
            have Ny469:=am hy469
            clear hy469
            replace H:=bzS H
            obtain ⟨⟨t472,t475⟩,A880,H⟩:=H
            replace H:(if y469.length+t472.length<4398046511104 then (some ((y469 ++ t472),t475)) else (none))=some (r1,r2):=H
            have A88:=am A880
            clear A880
            by_cases c89:y469.length+t472.length<4398046511104
            ·rw [if_pos c89] at H
             have LMc89:=am c89
             clear c89
             obtain ⟨y476,hy476⟩:∃ y_:List (S59),y_=(y469 ++ t472):=⟨_,rfl⟩
             replace H:(some (y476,t475))=some (r1,r2):=by first |(rw [hy476];with_reducible exact H) |(have H2_:=(Option.bind_some _ _).symm.trans H;rw [hy476];with_reducible exact H2_) |(have H2_:=(Option.bind_some _ _).symm.trans H;with_reducible exact H2_) | with_reducible exact H |(rw [hy476];exact H) | exact H
             have Ny476:=am hy476
             clear hy476
             simp only [Option.some.injEq,Prod.mk.injEq] at H
             obtain ⟨rfl,rfl⟩:=H
             have hnb90:=NB424_419.out
             have hnc90:=NB419_424.out
             have hnb91:=NB424_0.out
             have hnc91:=NB0_424.out
             have hcz92_0:=bc0 BK424.out
             have hcz92_1:=bc1 BK424.out
             have hcz92_2:=bc2 BK424.out
             have hcz92_3:=bc3 BK424.out
             have hfz92_0:=ja BK424.out 0
             have hfz92_1:=ja BK424.out 1
             have hfz92_2:=ja BK424.out 2
             have hfz92_3:=ja BK424.out 3
             try go_wp2_with (first |((with_reducible refine jg (f:=55) rfl ?_);refine gL (some 77) Try.func55 #[.pointer (some ⟨g,0,none⟩), .int .i64 4] ?_;(with_reducible refine (jf.calls kj49 g s0_0 x1001_5 4 t465 t466 w0 _ ?side1 ?side2 A86.out).mono ?_);(case side1=>exact Y3);(case side2=>exact Y6);rintro e w93 ⟨rfl,hi,hb,hk⟩;refine ⟨_,rfl,?_⟩;replace BK419:=am (jb.blk hk (g':=gb419) (o:=.cells #[.slice A1_0 l1_0.length c1_0] 32 (0,0)) (Y42) NB419_0.out (by simp));replace BK424:=am (jb.blk hk (g':=gb424) (o:=.cells #[.int .i64 a2, .int .i64 11, .int .i64 0, .int .i64 0] 59 (0,0)) (Y52) NB424_0.out (by simp));replace HK:=am (jb.trans (Y1) hk (.inl rfl));replace HB:=am (hb);replace HI0:=am (hi);(try clear hb);(try clear hb2);(try clear hk);(try clear hi);have hcz94_0:=bc0 BK424.out;have hcz94_1:=bc1 BK424.out;have hcz94_2:=bc2 BK424.out;have hcz94_3:=bc3 BK424.out;have hfz94_0:=ja BK424.out 0;have hfz94_1:=ja BK424.out 1;have hfz94_2:=ja BK424.out 2;have hfz94_3:=ja BK424.out 3) |((with_reducible refine jg (f:=55) rfl ?_);refine gL (some 80) Try.func55 #[.pointer (some ⟨g,0,none⟩), .int .i64 2] ?_;(with_reducible refine (jf.calls kj49 g s0_0 t466 2 t467 t468 w0 _ ?side1 ?side2 A87.out).mono ?_);(case side1=>exact Y3);(case side2=>exact Y6);rintro e w95 ⟨rfl,hi,hb,hk⟩;refine ⟨_,rfl,?_⟩;replace BK419:=am (jb.blk hk (g':=gb419) (o:=.cells #[.slice A1_0 l1_0.length c1_0] 32 (0,0)) (Y42) NB419_0.out (by simp));replace BK424:=am (jb.blk hk (g':=gb424) (o:=.cells #[.int .i64 a2, .int .i64 11, .int .i64 t465, .int .i64 0] 59 (0,0)) (by (with_reducible repeat (first | refine jw ?_ _ | refine jE ?_ | refine jB ?_ _));refine jQa (cs:=#[.int .i64 a2, .int .i64 11, .int .i64 0, .int .i64 0]) ?_ 2 _ rfl;(with_reducible repeat (first | refine jw ?_ _ | refine jE ?_ | refine jB ?_ _));exact BK424.out) NB424_0.out (by simp));replace HK:=am (jb.trans (Y1) hk (.inl rfl));replace HB:=am (hb);replace HI0:=am (hi);(try clear hb);(try clear hb2);(try clear hk);(try clear hi);have hcz96_0:=bc0 BK424.out;have hcz96_1:=bc1 BK424.out;have hcz96_2:=bc2 BK424.out;have hcz96_3:=bc3 BK424.out;have hfz96_0:=ja BK424.out 0;have hfz96_1:=ja BK424.out 1;have hfz96_2:=ja BK424.out 2;have hfz96_3:=ja BK424.out 3))
             have n0_:jl ((w95.setCell ⟨gb424,3,none⟩ (.int .i64 t467)).heap[gb419]?=some (.cells #[.slice A1_0 l1_0.length c1_0] 32 (0,0))):=⟨by (with_reducible repeat (first | refine jw ?_ _ | refine jE ?_ | refine jB ?_ _));refine jcb ?_ NB419_424.out _;(with_reducible repeat (first | refine jw ?_ _ | refine jE ?_ | refine jB ?_ _));exact BK419.out⟩
             have n1_:jl ((w95.setCell ⟨gb424,3,none⟩ (.int .i64 t467)).heap[gb424]?=some (.cells #[.int .i64 a2, .int .i64 11, .int .i64 t465, .int .i64 t467] 59 (0,0))):=⟨by (with_reducible repeat (first | refine jw ?_ _ | refine jE ?_ | refine jB ?_ _));refine jQa (cs:=#[.int .i64 a2, .int .i64 11, .int .i64 t465, .int .i64 0]) ?_ 3 _ rfl;(with_reducible repeat (first | refine jw ?_ _ | refine jE ?_ | refine jB ?_ _));exact BK424.out⟩
             have n2_:jl (jc w0 (w95.setCell ⟨gb424,3,none⟩ (.int .i64 t467)) g s0_0 t468):=⟨Y3⟩
             have n3_:jl (jb w (w95.setCell ⟨gb424,3,none⟩ (.int .i64 t467)) g none):=⟨Y1⟩
             have n4_:jl (Below w0.heap.size w0 (w95.setCell ⟨gb424,3,none⟩ (.int .i64 t467))):=⟨Y6⟩
             (try clear BK419)
             (try clear BK424)
             (try clear HI0)
             (try clear HK)
             (try clear HB)
             generalize (w95.setCell ⟨gb424,3,none⟩ (.int .i64 t467))=w97 at n0_ n1_ n2_ n3_ n4_ ⊢
             have BK419:=n0_
             have BK424:=n1_
             have HI0:=n2_
             have HK:=n3_
             have HB:=n4_
             clear n0_ n1_ n2_ n3_ n4_
             replace BK419:=am (jE BK419.out)
             replace BK424:=am (jE BK424.out)
             replace HI0:=am (jc.drew HI0.out)
             replace HK:=am (jOa HK.out)
             replace HB:=am (jW HB.out)
             refine start_ (n:=10) (S:=fun w'=>w'.cell? ⟨gb424,0,none⟩=some (.int .i64 a2)∧w'.cell? ⟨gb424,1,none⟩=some (.int .i64 11)∧w'.cell? ⟨gb424,2,none⟩=some (.int .i64 t465)∧w'.cell? ⟨gb424,3,none⟩=some (.int .i64 t467)∧w'.cell? ⟨gb419,0,none⟩=some (.slice A1_0 l1_0.length c1_0)) (ds:=[]) #[false,false,false,false,false,false,false,false,false,false] (by kernel_rfl) rfl rfl ⟨(jK BK424.out 0).trans rfl,(jK BK424.out 1).trans rfl,(jK BK424.out 2).trans rfl,(jK BK424.out 3).trans rfl,(jK BK419.out 0).trans rfl⟩ (fun hHeld=>?_);refine jrc jy.tab26 jy.bits26 (fun HT_ HW_=>?_)
             generalize w97.drew=w98 at BK419 BK424 HI0 HK HB hHeld ⊢
             refine pq (i:=2) (N:=some 84) #[false,false,true,false,false,false,false,false,false,false] ?_
             refine pq (i:=4) (N:=some 86) #[false,false,true,false,true,false,false,false,false,false] ?_
             refine pq (i:=5) (N:=some 87) #[false,false,true,false,true,true,false,false,false,false] ?_
             refine pq (i:=6) (N:=some 88) #[false,false,true,false,true,true,true,false,false,false] ?_
             refine take_ (i:=0) (N:=some 82) (v:=?_) (a':=?_) #[true,false,true,false,true,true,true,false,false,false] rfl rfl (jNb HT_.out HW_.out (by kernel_rfl)) (fun _ _ _ h=>h) (Or.inl ⟨by rfl,?_⟩) hHeld ?_ ?_
             rotate_left
             ·rintro w' ⟨s0,s1,s2,s3,s4⟩
              go_simp
              with_reducible rfl
             rotate_left
             ·exact sa
             refine take_ (i:=3) (N:=some 85) (v:=?_) (a':=?_) #[true,false,true,true,true,true,true,false,false,false] rfl rfl (jNb HT_.out HW_.out (by kernel_rfl)) (fun _ _ _ h=>h) (Or.inl ⟨by rfl,?_⟩) hHeld ?_ ?_
             rotate_left
             ·rintro w' ⟨s0,s1,s2,s3,s4⟩
              go_simp
              with_reducible rfl
             rotate_left
             ·exact sa
             refine join_ (σ:=Value × Value) 2 #[true,true,true,true,true,true,true,true,false,false] (fun s_=>[(83,s_.1),(89,s_.2)]) (fun s_ w'=>(w'.cell? ⟨gb424,0,none⟩=some (.int .i64 a2)∧w'.cell? ⟨gb424,1,none⟩=some (.int .i64 11)∧w'.cell? ⟨gb424,2,none⟩=some (.int .i64 t465)∧w'.cell? ⟨gb424,3,none⟩=some (.int .i64 t467)∧w'.cell? ⟨gb419,0,none⟩=some (.slice A1_0 l1_0.length c1_0))∧(Kd.R k59 59 w' w.heap.size (fun k_=>some k_≠(s_.2:Value).ownBlock∧k_≠gb424) s_.1 y469)∧(Kd.R k59 59 w' w.heap.size (fun k_=>some k_≠(s_.1:Value).ownBlock∧k_≠gb424) s_.2 t472)∧(w'.heap[gb419]?=some (.cells #[.slice A1_0 l1_0.length c1_0] 32 (0,0)))∧(w'.heap[gb424]?=some (.cells #[.int .i64 a2, .int .i64 11, .int .i64 t465, .int .i64 t467] 59 (0,0)))∧(jc w0 w' g s0_0 t475)∧(jb w w' g none)∧(Below w0.heap.size w0 w')) ?_ ?_
             rotate_left
             ·intro hCont
              refine two_ (i:=1) (j:=7) (Ni:=some 83) (Nj:=some 89) #[true,true,true,true,true,true,true,false,false,false] #[true,false,true,true,true,true,true,true,false,false] rfl rfl rfl rfl (two_of HT_.out (by kernel_rfl)) (by decide) (by decide) (fun K hK=>?_) (fun K hK=>?_)
              ·skip
               refine Kd.jTb k59 _ 59 ?hg (N:=83) ?hd (xs:=([(⟨a2,11,t465,t467⟩:S59)]:List (S59))) (inner:=[.int .i64 a2, .int .i64 11, .int .i64 t465, .int .i64 t467]) (ok:=fun _=>True) (okp:=fun _=>True) ?hr ?hp (fun _ hk=>hk) trivial (Below.refl _ _) (Nat.le_refl _) (by simp) ?_;(case hd=>rfl);(case hg=>rfl);(case hr=>exact Y8);(case hp=>exact (Reps.c4 (show Kd.M k59 _ _ _ (⟨a2,11,t465,t467⟩:S59) [.int .i64 a2, .int .i64 11, .int .i64 t465, .int .i64 t467] from (jpb _ _ _ (⟨a2,11,t465,t467⟩:S59) )) (Reps.none _ _)))
               intro v470 w99 ho100 hb hg_ hnew_
               clear hg_ hnew_
               (first | rw [← Ny469.out] at ho100 |(simp only [Int.reduceToNat] at ho100;rw [← Ny469.out] at ho100))
               have HO471:=am (Kd.jX (Kd.jic ho100 (g:=gb424) (o:=.cells #[.int .i64 a2, .int .i64 11, .int .i64 t465, .int .i64 t467] 59 (0,0)) (kq BK424.out)) (jM (w:=w) (g:=g) (row:=none) (Y1)))
               replace BK419:=am (jq (g:=gb419) (o:=.cells #[.slice A1_0 l1_0.length c1_0] 32 (0,0)) (kq BK419.out) hb)
               replace BK424:=am (jq (g:=gb424) (o:=.cells #[.int .i64 a2, .int .i64 11, .int .i64 t465, .int .i64 t467] 59 (0,0)) (kq BK424.out) hb)
               replace HK:=am (jb.trans (Y1) (jb.of_below hb g none) (.inl rfl))
               replace HB:=am (ji (Y6) hb)
               replace HI0:=am (jc.below (Y3) hb)
               clear hb ho100
               refine hK.out _ _ ⟨(jK BK424.out 0).trans rfl,(jK BK424.out 1).trans rfl,(jK BK424.out 2).trans rfl,(jK BK424.out 3).trans rfl,(jK BK419.out 0).trans rfl⟩ (fun hHeld=>?_)
               clear hK K
               refine jRb (a':=?_) ?_ ?_
               rotate_left
               ·show Act.put _ (some 83) _=_
                simp only [Act.put,List.setIfInBounds_toArray,List.set_cons_zero,List.set_cons_succ,jeb,jhb]
                rfl
               refine one_ (i:=7) (N:=some 89) #[true,true,true,true,true,true,true,true,false,false] rfl rfl (jLb HT_.out (by kernel_rfl)) (by decide) (fun K hK=>?_)
               refine goes_ Try.func98 (by kernel_rfl) rfl #[.pointer (some ⟨g,0,none⟩), .agg #[.slice A1_0 l1_0.length c1_0], .int .i64 (wrap64 (a2+1)), .bool a3] (by rfl) rfl rfl (aq) ?_
               with_reducible refine (ih98 kj49 (by have:=HJ5.out;have:=HJ49.out;omega) g s0_0 t468 _ _ l1_0 (wrap64 (a2+1)) a3 t472 t475 w0 _ ?side1 ?side2 ?side3 ?side4 A88.out).mono ?_
               (case side1=>exact Y3)
               (case side2=>exact Y6)
               (case side3=>exact Kd.jgb HR1_0.out (Y1))
               (case side4=>exact HC1_0.out)
               rintro e w101 ⟨v473,rfl,ho0,hi,hb,hk⟩
               refine ⟨_,rfl,?_⟩
               have HO474:=am (Kd.jX (Kd.jic (Kd.jEb ho0 (Kd.R_lt (rq HO471.out))) (g:=gb424) (o:=.cells #[.int .i64 a2, .int .i64 11, .int .i64 t465, .int .i64 t467] 59 (0,0)) (kq BK424.out)) (jM (w:=w) (g:=g) (row:=none) (Y1)))
               replace BK419:=am (jb.blk hk (g':=gb419) (o:=.cells #[.slice A1_0 l1_0.length c1_0] 32 (0,0)) (kq BK419.out) NB419_0.out (by simp))
               replace BK424:=am (jb.blk hk (g':=gb424) (o:=.cells #[.int .i64 a2, .int .i64 11, .int .i64 t465, .int .i64 t467] 59 (0,0)) (kq BK424.out) NB424_0.out (by simp))
               replace HO471:=am (Kd.jI (Kd.R_told (Kd.R_oldK (jc.apart (show jc w0 _ g s0_0 t468 from Y3) (rq HO471.out) (by decide)) hk) (Kd.jGb ho0)) (fun _ h_=>h_.1))
               replace HK:=am (jb.trans (Y1) hk (.inl rfl))
               replace HB:=am (hb)
               replace HI0:=am (hi)
               (try clear hb)
               (try clear hb2)
               (try clear hk)
               (try clear hi)
               (try clear ho0)
               refine hK.out _ _ ⟨(jK BK424.out 0).trans rfl,(jK BK424.out 1).trans rfl,(jK BK424.out 2).trans rfl,(jK BK424.out 3).trans rfl,(jK BK419.out 0).trans rfl⟩ (fun hHeld=>?_)
               clear hK K
               refine jRb (a':=?_) ?_ ?_
               rotate_left
               ·show Act.put _ (some 89) _=_
                simp only [Act.put,List.setIfInBounds_toArray,List.set_cons_zero,List.set_cons_succ,jeb,jhb]
                rfl
               exact jRb (by simp only [putAll,Act.put,List.setIfInBounds_toArray,List.set_cons_zero,List.set_cons_succ]) (hCont (v470,v473) _ ⟨hHeld,(by (with_reducible repeat (first | apply Kd.jba | apply Kd.jea | apply Kd.jma));exact Kd.jI HO471.out (fun _ hk=>⟨hk.2,hk.1.2⟩)),(by (with_reducible repeat (first | apply Kd.jba | apply Kd.jea | apply Kd.jma));exact Kd.jI HO474.out (fun _ hk=>⟨hk.1.2,hk.2⟩)),(kq BK419.out),(kq BK424.out),(Y3),(Y1),(Y6)⟩)
              ·skip
               refine goes_ Try.func98 (by kernel_rfl) rfl #[.pointer (some ⟨g,0,none⟩), .agg #[.slice A1_0 l1_0.length c1_0], .int .i64 (wrap64 (a2+1)), .bool a3] (by rfl) rfl rfl (aq) ?_
               with_reducible refine (ih98 kj49 (by have:=HJ5.out;have:=HJ49.out;omega) g s0_0 t468 _ _ l1_0 (wrap64 (a2+1)) a3 t472 t475 w0 _ ?side1 ?side2 ?side3 ?side4 A88.out).mono ?_
               (case side1=>exact Y3)
               (case side2=>exact Y6)
               (case side3=>exact Kd.jgb HR1_0.out (Y1))
               (case side4=>exact HC1_0.out)
               rintro e w99 ⟨v473,rfl,ho0,hi,hb,hk⟩
               refine ⟨_,rfl,?_⟩
               have HO474:=am (Kd.jX (Kd.jic ho0 (g:=gb424) (o:=.cells #[.int .i64 a2, .int .i64 11, .int .i64 t465, .int .i64 t467] 59 (0,0)) (kq BK424.out)) (jM (w:=w) (g:=g) (row:=none) (Y1)))
               replace BK419:=am (jb.blk hk (g':=gb419) (o:=.cells #[.slice A1_0 l1_0.length c1_0] 32 (0,0)) (kq BK419.out) NB419_0.out (by simp))
               replace BK424:=am (jb.blk hk (g':=gb424) (o:=.cells #[.int .i64 a2, .int .i64 11, .int .i64 t465, .int .i64 t467] 59 (0,0)) (kq BK424.out) NB424_0.out (by simp))
               replace HK:=am (jb.trans (Y1) hk (.inl rfl))
               replace HB:=am (hb)
               replace HI0:=am (hi)
               (try clear hb)
               (try clear hb2)
               (try clear hk)
               (try clear hi)
               (try clear ho0)
               refine hK.out _ _ ⟨(jK BK424.out 0).trans rfl,(jK BK424.out 1).trans rfl,(jK BK424.out 2).trans rfl,(jK BK424.out 3).trans rfl,(jK BK419.out 0).trans rfl⟩ (fun hHeld=>?_)
               clear hK K
               refine jRb (a':=?_) ?_ ?_
               rotate_left
               ·show Act.put _ (some 89) _=_
                simp only [Act.put,List.setIfInBounds_toArray,List.set_cons_zero,List.set_cons_succ,jeb,jhb]
                rfl
               refine one_ (i:=1) (N:=some 83) #[true,true,true,true,true,true,true,true,false,false] rfl rfl (jLb HT_.out (by kernel_rfl)) (by decide) (fun K hK=>?_)
               refine Kd.jTb k59 _ 59 ?hg (N:=83) ?hd (xs:=([(⟨a2,11,t465,t467⟩:S59)]:List (S59))) (inner:=[.int .i64 a2, .int .i64 11, .int .i64 t465, .int .i64 t467]) (ok:=fun _=>True) (okp:=fun _=>True) ?hr ?hp (fun _ hk=>hk) trivial (Below.refl _ _) (Nat.le_refl _) (by simp) ?_;(case hd=>rfl);(case hg=>rfl);(case hr=>exact Y8);(case hp=>exact (Reps.c4 (show Kd.M k59 _ _ _ (⟨a2,11,t465,t467⟩:S59) [.int .i64 a2, .int .i64 11, .int .i64 t465, .int .i64 t467] from (jpb _ _ _ (⟨a2,11,t465,t467⟩:S59) )) (Reps.none _ _)))
               intro v470 w100 ho101 hb hg_ hnew_
               clear hg_ hnew_
               (first | rw [← Ny469.out] at ho101 |(simp only [Int.reduceToNat] at ho101;rw [← Ny469.out] at ho101))
               have HO471:=am (Kd.jX (Kd.jic (Kd.jEb ho101 (Kd.R_lt (rq HO474.out))) (g:=gb424) (o:=.cells #[.int .i64 a2, .int .i64 11, .int .i64 t465, .int .i64 t467] 59 (0,0)) (kq BK424.out)) (jM (w:=w) (g:=g) (row:=none) (Y1)))
               replace HO474:=am (Kd.jKb (rq HO474.out) (Kd.jGb ho101) hb)
               replace BK419:=am (jq (g:=gb419) (o:=.cells #[.slice A1_0 l1_0.length c1_0] 32 (0,0)) (kq BK419.out) hb)
               replace BK424:=am (jq (g:=gb424) (o:=.cells #[.int .i64 a2, .int .i64 11, .int .i64 t465, .int .i64 t467] 59 (0,0)) (kq BK424.out) hb)
               replace HK:=am (jb.trans (Y1) (jb.of_below hb g none) (.inl rfl))
               replace HB:=am (ji (Y6) hb)
               replace HI0:=am (jc.below (Y3) hb)
               clear hb ho101
               refine hK.out _ _ ⟨(jK BK424.out 0).trans rfl,(jK BK424.out 1).trans rfl,(jK BK424.out 2).trans rfl,(jK BK424.out 3).trans rfl,(jK BK419.out 0).trans rfl⟩ (fun hHeld=>?_)
               clear hK K
               refine jRb (a':=?_) ?_ ?_
               rotate_left
               ·show Act.put _ (some 83) _=_
                simp only [Act.put,List.setIfInBounds_toArray,List.set_cons_zero,List.set_cons_succ,jeb,jhb]
                rfl
               exact jRb (by simp only [putAll,Act.put,List.setIfInBounds_toArray,List.set_cons_zero,List.set_cons_succ]) (hCont (v470,v473) _ ⟨hHeld,(by (with_reducible repeat (first | apply Kd.jba | apply Kd.jea | apply Kd.jma));exact Kd.jI HO471.out (fun _ hk=>⟨hk.1.2,hk.2⟩)),(by (with_reducible repeat (first | apply Kd.jba | apply Kd.jea | apply Kd.jma));exact Kd.jI HO474.out (fun _ hk=>⟨hk.2,hk.1.2⟩)),(kq BK419.out),(kq BK424.out),(Y3),(Y1),(Y6)⟩)
             rintro ⟨v470,v473⟩ w102 ⟨hS_,h0_,h1_,h2_,h3_,h4_,h5_,h6_⟩
             have n0_:jl (Kd.R k59 59 w102 w.heap.size (fun k_=>some k_≠(v473:Value).ownBlock∧k_≠gb424) v470 y469):=⟨h0_⟩
             have n1_:jl (Kd.R k59 59 w102 w.heap.size (fun k_=>some k_≠(v470:Value).ownBlock∧k_≠gb424) v473 t472):=⟨h1_⟩
             have n2_:jl (w102.heap[gb419]?=some (.cells #[.slice A1_0 l1_0.length c1_0] 32 (0,0))):=⟨h2_⟩
             have n3_:jl (w102.heap[gb424]?=some (.cells #[.int .i64 a2, .int .i64 11, .int .i64 t465, .int .i64 t467] 59 (0,0))):=⟨h3_⟩
             have n4_:jl (jc w0 w102 g s0_0 t475):=⟨h4_⟩
             have n5_:jl (jb w w102 g none):=⟨h5_⟩
             have n6_:jl (Below w0.heap.size w0 w102):=⟨h6_⟩
             clear BK419
             clear BK424
             clear HI0
             clear HK
             clear HB
             clear h0_ h1_ h2_ h3_ h4_ h5_ h6_
             have HO471:=n0_
             have HO474:=n1_
             have BK419:=n2_
             have BK424:=n3_
             have HI0:=n4_
             have HK:=n5_
             have HB:=n6_
             clear n0_ n1_ n2_ n3_ n4_ n5_ n6_
             have hHeld:w102.cell? ⟨gb424,0,none⟩=some (.int .i64 a2)∧w102.cell? ⟨gb424,1,none⟩=some (.int .i64 11)∧w102.cell? ⟨gb424,2,none⟩=some (.int .i64 t465)∧w102.cell? ⟨gb424,3,none⟩=some (.int .i64 t467)∧w102.cell? ⟨gb419,0,none⟩=some (.slice A1_0 l1_0.length c1_0):=hS_
             obtain ⟨Ao104,co104,eo104⟩:=Kd.jaa HO474.out
             (first | subst eo104 |(injection eo104 with f1_ f2_ f3_;have f4_:=f1_.symm;have f5_:=f3_.symm;clear f1_ f2_ f3_;subst f4_;subst f5_))
             refine jRb (a':=?_) ?_ ?_
             rotate_left
             ·simp only [putAll,Act.put,List.setIfInBounds_toArray,List.set_cons_zero,List.set_cons_succ]
              rfl
             refine one_ (i:=8) (N:=some 90) #[true,true,true,true,true,true,true,true,true,false] rfl rfl (jLb HT_.out (by kernel_rfl)) (by decide) (fun K hK=>?_)
             refine Kd.joc k59 w.heap.size (by rfl) (.tmp 83) (.tmp 89) 34 59 (.agg #[(.int .i64 0),(.int .i64 0),(.int .i64 0),(.int .i64 0)]) 32 rfl Try.underlying34 jmc rfl (by decide) (by omega) v470 y469 t472 _ _ _ (fun k_=>some k_≠(.slice Ao104 t472.length co104:Value).ownBlock∧k_≠gb424) (fun _=>False) rfl rfl ?aO ?aR (fun _ _ h=>h) (fun _ h=>h.elim) ?aF (Below.refl _ _) ?aS ?aL ?_
             (case aR=>repeat (first | exact (Kd.jm HO474.out).2.2 |(with_reducible refine Kd.jjc ?_ _) |(with_reducible refine Kd.jcc ?_ _) |(with_reducible refine Kd.C_drew ?_)))
             (case aF=>exact (fun k_ hk=>⟨Kd.fresh' (Kd.R_lt (rq HO474.out)) k_ hk,Kd.freshB (g:=gb424) (o:=.cells #[.int .i64 a2, .int .i64 11, .int .i64 t465, .int .i64 t467] 59 (0,0)) (kq BK424.out) k_ hk⟩))
             (case aO=>exact (rq HO471.out))
             (case aS=>exact (jM (w:=w) (g:=g) (row:=none) (Y1)))
             (case aL=>have:=LMc89.out;omega)
             intro v477 w103 ho hb hg hat
             rw [← Ny476.out] at ho
             have n0_:=am (jPa (g:=gb419) (o:=.cells #[.slice A1_0 l1_0.length c1_0] 32 (0,0)) (kq BK419.out) hg (Kd.R_ne HO471.out BK419.out (by decide)))
             have n1_:=am (jPa (g:=gb424) (o:=.cells #[.int .i64 a2, .int .i64 11, .int .i64 t465, .int .i64 t467] 59 (0,0)) (kq BK424.out) hg (Kd.R_away HO471.out (fun _ hk=>hk.2)))
             have n2_:=am (jc.grown (Y3) hg (jc.own_ne HI0.out HO471.out (by decide)))
             have n3_:=am (Kd.jBc (ok:=(fun k_=>k_≠gb424)) (by (with_reducible repeat (first | apply Kd.jba | apply Kd.jea | apply Kd.jma));exact Kd.jI HO474.out (fun _ hk=>⟨hk.2,hk.1⟩)) hg hat)
             have n4_:=am (jWa (Y6) HL.out hb)
             have n5_:=am (jb.trans (Y1) (jb.jnb hg g) (Kd.jFb HO471.out))
             have n6_:=am (ho)
             clear BK419
             clear BK424
             clear HI0
             clear HO474
             clear HB
             clear HK
             clear HO471
             have BK419:=n0_
             have BK424:=n1_
             have HI0:=n2_
             have HO474:=n3_
             have HB:=n4_
             have HK:=n5_
             have HO478:=n6_
             clear n0_ n1_ n2_ n3_ n4_ n5_ n6_
             clear ho hb hg hat
             refine hK.out _ _ ⟨(jK BK424.out 0).trans rfl,(jK BK424.out 1).trans rfl,(jK BK424.out 2).trans rfl,(jK BK424.out 3).trans rfl,(jK BK419.out 0).trans rfl⟩ (fun hHeld=>?_)
             clear hK K
             refine jRb (a':=?_) ?_ ?_
             rotate_left
             ·show Act.put _ (some 90) _=_
              simp only [Act.put,List.setIfInBounds_toArray,List.set_cons_zero,List.set_cons_succ,jeb,jhb]
              rfl
             refine pq (i:=9) (N:=some 8) #[true,true,true,true,true,true,true,true,true,true] ?_
             refine done_ (done_of HT_.out (by kernel_rfl)) ?_
             try go_wp2
             go_ret
             exact ⟨_,Y0,by (with_reducible repeat (first | apply Kd.jba | apply Kd.jea | apply Kd.jma));exact Kd.jI HO478.out (fun _ hk=>trivial),Y3,Y6,Y1⟩
            ·rw [if_neg c89] at H
             exact absurd H (by simp)
           ·rw [if_neg c85] at H
            have c85b0:decide (x9_5<11)=false:=dzF c85
            clear c85
            by_cases c105:x9_5=11
            ·rw [if_pos c105] at H
             have c105b0:(x9_5 == 11)=true:=beq_iff_eq.mpr c105
             have c105b1:(x9_5 != 11)=false:=bne_eq_false_iff_eq.mpr c105
             clear c105
             obtain ⟨y479,hy479⟩:∃ y_:List Int,y_=(([2,1,3,0]:List Int)):=⟨_,rfl⟩
             replace H:((jh.f kj49 s0_0 x1001_5 y479).bind fun bt482=>((some (([(⟨a2,12,bt482.1,0⟩:S59)]:List (S59)):List (S59))).bind fun y484=>((jJ.f kj49 s0_0 bt482.2 l1_0 (wrap64 (a2+1)) true).bind fun bt487=>(if y484.length+bt487.1.length<4398046511104 then (some ((y484 ++ bt487.1),bt487.2)) else (none)))))=some (r1,r2):=by first |(rw [hy479];with_reducible exact H) |(have H2_:=(Option.bind_some _ _).symm.trans H;rw [hy479];with_reducible exact H2_) |(have H2_:=(Option.bind_some _ _).symm.trans H;with_reducible exact H2_) | with_reducible exact H |(rw [hy479];exact H) | exact H
             have Ny479:=am hy479
             clear hy479
             replace H:=bzS H
             obtain ⟨⟨t482,t483⟩,A1060,H⟩:=H
             replace H:((some (([(⟨a2,12,t482,0⟩:S59)]:List (S59)):List (S59))).bind fun y484=>((jJ.f kj49 s0_0 t483 l1_0 (wrap64 (a2+1)) true).bind fun bt487=>(if y484.length+bt487.1.length<4398046511104 then (some ((y484 ++ bt487.1),bt487.2)) else (none))))=some (r1,r2):=H
             have A106:=am A1060
             clear A1060
             obtain ⟨y484,hy484⟩:∃ y_:List (S59),y_=(([(⟨a2,12,t482,0⟩:S59)]:List (S59))):=⟨_,rfl⟩
             replace H:((jJ.f kj49 s0_0 t483 l1_0 (wrap64 (a2+1)) true).bind fun bt487=>(if y484.length+bt487.1.length<4398046511104 then (some ((y484 ++ bt487.1),bt487.2)) else (none)))=some (r1,r2):=by first |(rw [hy484];with_reducible exact H) |(have H2_:=(Option.bind_some _ _).symm.trans H;rw [hy484];with_reducible exact H2_) |(have H2_:=(Option.bind_some _ _).symm.trans H;with_reducible exact H2_) | with_reducible exact H |(rw [hy484];exact H) | exact H
             have Ny484:=am hy484
             clear hy484
             replace H:=bzS H
             obtain ⟨⟨t487,t490⟩,A1070,H⟩:=H
             replace H:(if y484.length+t487.length<4398046511104 then (some ((y484 ++ t487),t490)) else (none))=some (r1,r2):=H
             have A107:=am A1070
             clear A1070
             by_cases c108:y484.length+t487.length<4398046511104
             ·rw [if_pos c108] at H
              have LMc108:=am c108
              clear c108
              obtain ⟨y491,hy491⟩:∃ y_:List (S59),y_=(y484 ++ t487):=⟨_,rfl⟩
              replace H:(some (y491,t490))=some (r1,r2):=by first |(rw [hy491];with_reducible exact H) |(have H2_:=(Option.bind_some _ _).symm.trans H;rw [hy491];with_reducible exact H2_) |(have H2_:=(Option.bind_some _ _).symm.trans H;with_reducible exact H2_) | with_reducible exact H |(rw [hy491];exact H) | exact H
              have Ny491:=am hy491
              clear hy491
              simp only [Option.some.injEq,Prod.mk.injEq] at H
              obtain ⟨rfl,rfl⟩:=H
              have hnb109:=NB424_419.out
              have hnc109:=NB419_424.out
              have hnb110:=NB424_0.out
              have hnc110:=NB0_424.out
              have hcz111_0:=bc0 BK424.out
              have hcz111_1:=bc1 BK424.out
              have hcz111_2:=bc2 BK424.out
              have hcz111_3:=bc3 BK424.out
              have hfz111_0:=ja BK424.out 0
              have hfz111_1:=ja BK424.out 1
              have hfz111_2:=ja BK424.out 2
              have hfz111_3:=ja BK424.out 3
              try go_wp2_with (first |((with_reducible refine jQ (N:=96) rfl ?_);refine Kd.jMb (Kd.int .i64) _ 3 ?hg (N:=96) ?hd (xs:=([2,1,3,0]:List Int)) (inner:=[.int .i64 2, .int .i64 1, .int .i64 3, .int .i64 0]) (ok:=fun _=>True) (okp:=fun _=>True) ?hr ?hp (fun _ hk=>hk) trivial (Below.refl _ _) (Nat.le_refl _) (by simp) ?_;(case hd=>rfl);(case hg=>rfl);(case hr=>exact Y8);(case hp=>exact (Reps.one (show Kd.M (Kd.int .i64) _ _ _ 2 [.int .i64 2] from rfl) (Reps.one (show Kd.M (Kd.int .i64) _ _ _ 1 [.int .i64 1] from rfl) (Reps.one (show Kd.M (Kd.int .i64) _ _ _ 3 [.int .i64 3] from rfl) (Reps.one (show Kd.M (Kd.int .i64) _ _ _ 0 [.int .i64 0] from rfl) (Reps.none _ _))))));intro v480 w112 ho113 hb hg_ hnew_;clear hg_ hnew_;(first | rw [← Ny479.out] at ho113 |(simp only [Int.reduceToNat] at ho113;rw [← Ny479.out] at ho113));have HO481:=am (Kd.jX ho113 (jM (w:=w) (g:=g) (row:=none) (Y1)));replace BK419:=am (jq (g:=gb419) (o:=.cells #[.slice A1_0 l1_0.length c1_0] 32 (0,0)) (Y42) hb);replace BK424:=am (jq (g:=gb424) (o:=.cells #[.int .i64 a2, .int .i64 12, .int .i64 0, .int .i64 0] 59 (0,0)) (Y52) hb);replace HK:=am (jb.trans (Y1) (jb.of_below hb g none) (.inl rfl));replace HB:=am (ji (Y6) hb);replace HI0:=am (jc.below (show jc w0 (wc.setCell ⟨gb424,1,none⟩ (.int .i64 12)) g s0_0 x1001_5 from Y3) hb);clear hb ho113;obtain ⟨Ao114,co114,eo114⟩:=Kd.jaa HO481.out;subst eo114) |((with_reducible refine jg (f:=56) rfl ?_);refine gL (some 97) Try.func56 #[.pointer (some ⟨g,0,none⟩), .slice Ao114 y479.length co114] ?_;(with_reducible refine (jh.calls kj49 g s0_0 x1001_5 _ _ y479 t482 t483 w0 _ ?side1 ?side2 ?side3 ?side4 ?side5 A106.out).mono ?_);(case side1=>exact Y3);(case side2=>exact Y6);(case side3=>exact cq (Kd.jm HO481.out).2.2);(case side4=>exact (Kd.jm HO481.out).2.1);(case side5=>exact jqb (jc.own_ne HI0.out HO481.out (by decide)));rintro e w115 ⟨rfl,hi,hb,hk⟩;refine ⟨_,rfl,?_⟩;replace BK419:=am (jb.blk hk (g':=gb419) (o:=.cells #[.slice A1_0 l1_0.length c1_0] 32 (0,0)) (kq BK419.out) NB419_0.out (by simp));replace BK424:=am (jb.blk hk (g':=gb424) (o:=.cells #[.int .i64 a2, .int .i64 12, .int .i64 0, .int .i64 0] 59 (0,0)) (kq BK424.out) NB424_0.out (by simp));replace HO481:=am (Kd.jI (Kd.jxa (jc.apart (show jc w0 _ g s0_0 x1001_5 from Y3) (rq HO481.out) (by decide)) hk (fun _ h=>h.2)) (fun _ h=>h.1));replace HK:=am (jb.trans (Y1) hk (.inl rfl));replace HB:=am (hb);replace HI0:=am (hi);(try clear hb);(try clear hb2);(try clear hk);(try clear hi);have hcz116_0:=bc0 BK424.out;have hcz116_1:=bc1 BK424.out;have hcz116_2:=bc2 BK424.out;have hcz116_3:=bc3 BK424.out;have hfz116_0:=ja BK424.out 0;have hfz116_1:=ja BK424.out 1;have hfz116_2:=ja BK424.out 2;have hfz116_3:=ja BK424.out 3))
              have n0_:jl (Kd.R (Kd.int .i64) 3 (w115.setCell ⟨gb424,2,none⟩ (.int .i64 t482)) w.heap.size (fun _=>True) (.slice Ao114 y479.length co114) y479):=⟨by (with_reducible repeat (first | apply Kd.jba | apply Kd.jea | apply Kd.jma));exact Kd.jI (Kd.jwb (p:=⟨gb424,2,none⟩) (Kd.jIa HO481.out BK424.out (by decide)) (fun _ hk=>hk.2) (.int .i64 t482)) (fun _ hk=>trivial)⟩
              have n1_:jl ((w115.setCell ⟨gb424,2,none⟩ (.int .i64 t482)).heap[gb419]?=some (.cells #[.slice A1_0 l1_0.length c1_0] 32 (0,0))):=⟨by (with_reducible repeat (first | refine jw ?_ _ | refine jE ?_ | refine jB ?_ _));refine jcb ?_ NB419_424.out _;(with_reducible repeat (first | refine jw ?_ _ | refine jE ?_ | refine jB ?_ _));exact BK419.out⟩
              have n2_:jl ((w115.setCell ⟨gb424,2,none⟩ (.int .i64 t482)).heap[gb424]?=some (.cells #[.int .i64 a2, .int .i64 12, .int .i64 t482, .int .i64 0] 59 (0,0))):=⟨by (with_reducible repeat (first | refine jw ?_ _ | refine jE ?_ | refine jB ?_ _));refine jQa (cs:=#[.int .i64 a2, .int .i64 12, .int .i64 0, .int .i64 0]) ?_ 2 _ rfl;(with_reducible repeat (first | refine jw ?_ _ | refine jE ?_ | refine jB ?_ _));exact BK424.out⟩
              have n3_:jl (jc w0 (w115.setCell ⟨gb424,2,none⟩ (.int .i64 t482)) g s0_0 t483):=⟨Y3⟩
              have n4_:jl (jb w (w115.setCell ⟨gb424,2,none⟩ (.int .i64 t482)) g none):=⟨Y1⟩
              have n5_:jl (Below w0.heap.size w0 (w115.setCell ⟨gb424,2,none⟩ (.int .i64 t482))):=⟨Y6⟩
              (try clear HO481)
              (try clear BK419)
              (try clear BK424)
              (try clear HI0)
              (try clear HK)
              (try clear HB)
              generalize (w115.setCell ⟨gb424,2,none⟩ (.int .i64 t482))=w117 at n0_ n1_ n2_ n3_ n4_ n5_ ⊢
              have HO481:=n0_
              have BK419:=n1_
              have BK424:=n2_
              have HI0:=n3_
              have HK:=n4_
              have HB:=n5_
              clear n0_ n1_ n2_ n3_ n4_ n5_
              replace HO481:=am (Kd.jma HO481.out)
              replace BK419:=am (jE BK419.out)
              replace BK424:=am (jE BK424.out)
              replace HI0:=am (jc.drew HI0.out)
              replace HK:=am (jOa HK.out)
              replace HB:=am (jW HB.out)
              refine start_ (n:=9) (S:=fun w'=>w'.cell? ⟨gb424,0,none⟩=some (.int .i64 a2)∧w'.cell? ⟨gb424,1,none⟩=some (.int .i64 12)∧w'.cell? ⟨gb424,2,none⟩=some (.int .i64 t482)∧w'.cell? ⟨gb424,3,none⟩=some (.int .i64 0)∧w'.cell? ⟨gb419,0,none⟩=some (.slice A1_0 l1_0.length c1_0)) (ds:=[]) #[false,false,false,false,false,false,false,false,false] (by kernel_rfl) rfl rfl ⟨(jK BK424.out 0).trans rfl,(jK BK424.out 1).trans rfl,(jK BK424.out 2).trans rfl,(jK BK424.out 3).trans rfl,(jK BK419.out 0).trans rfl⟩ (fun hHeld=>?_);refine jrc jy.tab30 jy.bits30 (fun HT_ HW_=>?_)
              generalize w117.drew=w118 at HO481 BK419 BK424 HI0 HK HB hHeld ⊢
              refine pq (i:=2) (N:=some 101) #[false,false,true,false,false,false,false,false,false] ?_
              refine pq (i:=4) (N:=some 103) #[false,false,true,false,true,false,false,false,false] ?_
              refine pq (i:=5) (N:=some 104) #[false,false,true,false,true,true,false,false,false] ?_
              refine take_ (i:=0) (N:=some 99) (v:=?_) (a':=?_) #[true,false,true,false,true,true,false,false,false] rfl rfl (jNb HT_.out HW_.out (by kernel_rfl)) (fun _ _ _ h=>h) (Or.inl ⟨by rfl,?_⟩) hHeld ?_ ?_
              rotate_left
              ·rintro w' ⟨s0,s1,s2,s3,s4⟩
               go_simp
               with_reducible rfl
              rotate_left
              ·exact sa
              refine take_ (i:=3) (N:=some 102) (v:=?_) (a':=?_) #[true,false,true,true,true,true,false,false,false] rfl rfl (jNb HT_.out HW_.out (by kernel_rfl)) (fun _ _ _ h=>h) (Or.inl ⟨by rfl,?_⟩) hHeld ?_ ?_
              rotate_left
              ·rintro w' ⟨s0,s1,s2,s3,s4⟩
               go_simp
               with_reducible rfl
              rotate_left
              ·exact sa
              refine join_ (σ:=Value × Value) 2 #[true,true,true,true,true,true,true,false,false] (fun s_=>[(100,s_.1),(105,s_.2)]) (fun s_ w'=>(w'.cell? ⟨gb424,0,none⟩=some (.int .i64 a2)∧w'.cell? ⟨gb424,1,none⟩=some (.int .i64 12)∧w'.cell? ⟨gb424,2,none⟩=some (.int .i64 t482)∧w'.cell? ⟨gb424,3,none⟩=some (.int .i64 0)∧w'.cell? ⟨gb419,0,none⟩=some (.slice A1_0 l1_0.length c1_0))∧(Kd.R (Kd.int .i64) 3 w' w.heap.size (fun _=>True) (.slice Ao114 y479.length co114) y479)∧(Kd.R k59 59 w' w.heap.size (fun k_=>some k_≠(s_.2:Value).ownBlock∧k_≠gb424) s_.1 y484)∧(Kd.R k59 59 w' w.heap.size (fun k_=>some k_≠(s_.1:Value).ownBlock∧k_≠gb424) s_.2 t487)∧(w'.heap[gb419]?=some (.cells #[.slice A1_0 l1_0.length c1_0] 32 (0,0)))∧(w'.heap[gb424]?=some (.cells #[.int .i64 a2, .int .i64 12, .int .i64 t482, .int .i64 0] 59 (0,0)))∧(jc w0 w' g s0_0 t490)∧(jb w w' g none)∧(Below w0.heap.size w0 w')) ?_ ?_
              rotate_left
              ·intro hCont
               refine two_ (i:=1) (j:=6) (Ni:=some 100) (Nj:=some 105) #[true,true,true,true,true,true,false,false,false] #[true,false,true,true,true,true,true,false,false] rfl rfl rfl rfl (two_of HT_.out (by kernel_rfl)) (by decide) (by decide) (fun K hK=>?_) (fun K hK=>?_)
               ·skip
                refine Kd.jTb k59 _ 59 ?hg (N:=100) ?hd (xs:=([(⟨a2,12,t482,0⟩:S59)]:List (S59))) (inner:=[.int .i64 a2, .int .i64 12, .int .i64 t482, .int .i64 0]) (ok:=fun _=>True) (okp:=fun _=>True) ?hr ?hp (fun _ hk=>hk) trivial (Below.refl _ _) (Nat.le_refl _) (by simp) ?_;(case hd=>rfl);(case hg=>rfl);(case hr=>exact Y8);(case hp=>exact (Reps.c4 (show Kd.M k59 _ _ _ (⟨a2,12,t482,0⟩:S59) [.int .i64 a2, .int .i64 12, .int .i64 t482, .int .i64 0] from (jpb _ _ _ (⟨a2,12,t482,0⟩:S59) )) (Reps.none _ _)))
                intro v485 w119 ho120 hb hg_ hnew_
                clear hg_ hnew_
                (first | rw [← Ny484.out] at ho120 |(simp only [Int.reduceToNat] at ho120;rw [← Ny484.out] at ho120))
                have HO486:=am (Kd.jX (Kd.jic ho120 (g:=gb424) (o:=.cells #[.int .i64 a2, .int .i64 12, .int .i64 t482, .int .i64 0] 59 (0,0)) (kq BK424.out)) (jM (w:=w) (g:=g) (row:=none) (Y1)))
                replace HO481:=am (Kd.jja (rq HO481.out) hb)
                replace BK419:=am (jq (g:=gb419) (o:=.cells #[.slice A1_0 l1_0.length c1_0] 32 (0,0)) (kq BK419.out) hb)
                replace BK424:=am (jq (g:=gb424) (o:=.cells #[.int .i64 a2, .int .i64 12, .int .i64 t482, .int .i64 0] 59 (0,0)) (kq BK424.out) hb)
                replace HK:=am (jb.trans (Y1) (jb.of_below hb g none) (.inl rfl))
                replace HB:=am (ji (Y6) hb)
                replace HI0:=am (jc.below (Y3) hb)
                clear hb ho120
                refine hK.out _ _ ⟨(jK BK424.out 0).trans rfl,(jK BK424.out 1).trans rfl,(jK BK424.out 2).trans rfl,(jK BK424.out 3).trans rfl,(jK BK419.out 0).trans rfl⟩ (fun hHeld=>?_)
                clear hK K
                refine jRb (a':=?_) ?_ ?_
                rotate_left
                ·show Act.put _ (some 100) _=_
                 simp only [Act.put,List.setIfInBounds_toArray,List.set_cons_zero,List.set_cons_succ,jeb,jhb]
                 rfl
                refine one_ (i:=6) (N:=some 105) #[true,true,true,true,true,true,true,false,false] rfl rfl (jLb HT_.out (by kernel_rfl)) (by decide) (fun K hK=>?_)
                refine goes_ Try.func98 (by kernel_rfl) rfl #[.pointer (some ⟨g,0,none⟩), .agg #[.slice A1_0 l1_0.length c1_0], .int .i64 (wrap64 (a2+1)), .bool true] (by rfl) rfl rfl (aq) ?_
                with_reducible refine (ih98 kj49 (by have:=HJ5.out;have:=HJ49.out;omega) g s0_0 t483 _ _ l1_0 (wrap64 (a2+1)) true t487 t490 w0 _ ?side1 ?side2 ?side3 ?side4 A107.out).mono ?_
                (case side1=>exact Y3)
                (case side2=>exact Y6)
                (case side3=>exact Kd.jgb HR1_0.out (Y1))
                (case side4=>exact HC1_0.out)
                rintro e w121 ⟨v488,rfl,ho0,hi,hb,hk⟩
                refine ⟨_,rfl,?_⟩
                have HO489:=am (Kd.jX (Kd.jic (Kd.jEb ho0 (Kd.R_lt (rq HO486.out))) (g:=gb424) (o:=.cells #[.int .i64 a2, .int .i64 12, .int .i64 t482, .int .i64 0] 59 (0,0)) (kq BK424.out)) (jM (w:=w) (g:=g) (row:=none) (Y1)))
                replace BK419:=am (jb.blk hk (g':=gb419) (o:=.cells #[.slice A1_0 l1_0.length c1_0] 32 (0,0)) (kq BK419.out) NB419_0.out (by simp))
                replace BK424:=am (jb.blk hk (g':=gb424) (o:=.cells #[.int .i64 a2, .int .i64 12, .int .i64 t482, .int .i64 0] 59 (0,0)) (kq BK424.out) NB424_0.out (by simp))
                replace HO481:=am (Kd.jI (Kd.jxa (jc.apart (show jc w0 _ g s0_0 t483 from Y3) (rq HO481.out) (by decide)) hk (fun _ h=>h.2)) (fun _ h=>h.1))
                replace HO486:=am (Kd.jI (Kd.R_told (Kd.R_oldK (jc.apart (show jc w0 _ g s0_0 t483 from Y3) (rq HO486.out) (by decide)) hk) (Kd.jGb ho0)) (fun _ h_=>h_.1))
                replace HK:=am (jb.trans (Y1) hk (.inl rfl))
                replace HB:=am (hb)
                replace HI0:=am (hi)
                (try clear hb)
                (try clear hb2)
                (try clear hk)
                (try clear hi)
                (try clear ho0)
                refine hK.out _ _ ⟨(jK BK424.out 0).trans rfl,(jK BK424.out 1).trans rfl,(jK BK424.out 2).trans rfl,(jK BK424.out 3).trans rfl,(jK BK419.out 0).trans rfl⟩ (fun hHeld=>?_)
                clear hK K
                refine jRb (a':=?_) ?_ ?_
                rotate_left
                ·show Act.put _ (some 105) _=_
                 simp only [Act.put,List.setIfInBounds_toArray,List.set_cons_zero,List.set_cons_succ,jeb,jhb]
                 rfl
                exact jRb (by simp only [putAll,Act.put,List.setIfInBounds_toArray,List.set_cons_zero,List.set_cons_succ]) (hCont (v485,v488) _ ⟨hHeld,(rq HO481.out),(by (with_reducible repeat (first | apply Kd.jba | apply Kd.jea | apply Kd.jma));exact Kd.jI HO486.out (fun _ hk=>⟨hk.2,hk.1.2⟩)),(by (with_reducible repeat (first | apply Kd.jba | apply Kd.jea | apply Kd.jma));exact Kd.jI HO489.out (fun _ hk=>⟨hk.1.2,hk.2⟩)),(kq BK419.out),(kq BK424.out),(Y3),(Y1),(Y6)⟩)
               ·skip
                refine goes_ Try.func98 (by kernel_rfl) rfl #[.pointer (some ⟨g,0,none⟩), .agg #[.slice A1_0 l1_0.length c1_0], .int .i64 (wrap64 (a2+1)), .bool true] (by rfl) rfl rfl (aq) ?_
                with_reducible refine (ih98 kj49 (by have:=HJ5.out;have:=HJ49.out;omega) g s0_0 t483 _ _ l1_0 (wrap64 (a2+1)) true t487 t490 w0 _ ?side1 ?side2 ?side3 ?side4 A107.out).mono ?_
                (case side1=>exact Y3)
                (case side2=>exact Y6)
                (case side3=>exact Kd.jgb HR1_0.out (Y1))
                (case side4=>exact HC1_0.out)
                rintro e w119 ⟨v488,rfl,ho0,hi,hb,hk⟩
                refine ⟨_,rfl,?_⟩
                have HO489:=am (Kd.jX (Kd.jic ho0 (g:=gb424) (o:=.cells #[.int .i64 a2, .int .i64 12, .int .i64 t482, .int .i64 0] 59 (0,0)) (kq BK424.out)) (jM (w:=w) (g:=g) (row:=none) (Y1)))
                replace BK419:=am (jb.blk hk (g':=gb419) (o:=.cells #[.slice A1_0 l1_0.length c1_0] 32 (0,0)) (kq BK419.out) NB419_0.out (by simp))
                replace BK424:=am (jb.blk hk (g':=gb424) (o:=.cells #[.int .i64 a2, .int .i64 12, .int .i64 t482, .int .i64 0] 59 (0,0)) (kq BK424.out) NB424_0.out (by simp))
                replace HO481:=am (Kd.jI (Kd.jxa (jc.apart (show jc w0 _ g s0_0 t483 from Y3) (rq HO481.out) (by decide)) hk (fun _ h=>h.2)) (fun _ h=>h.1))
                replace HK:=am (jb.trans (Y1) hk (.inl rfl))
                replace HB:=am (hb)
                replace HI0:=am (hi)
                (try clear hb)
                (try clear hb2)
                (try clear hk)
                (try clear hi)
                (try clear ho0)
                refine hK.out _ _ ⟨(jK BK424.out 0).trans rfl,(jK BK424.out 1).trans rfl,(jK BK424.out 2).trans rfl,(jK BK424.out 3).trans rfl,(jK BK419.out 0).trans rfl⟩ (fun hHeld=>?_)
                clear hK K
                refine jRb (a':=?_) ?_ ?_
                rotate_left
                ·show Act.put _ (some 105) _=_
                 simp only [Act.put,List.setIfInBounds_toArray,List.set_cons_zero,List.set_cons_succ,jeb,jhb]
                 rfl
                refine one_ (i:=1) (N:=some 100) #[true,true,true,true,true,true,true,false,false] rfl rfl (jLb HT_.out (by kernel_rfl)) (by decide) (fun K hK=>?_)
                refine Kd.jTb k59 _ 59 ?hg (N:=100) ?hd (xs:=([(⟨a2,12,t482,0⟩:S59)]:List (S59))) (inner:=[.int .i64 a2, .int .i64 12, .int .i64 t482, .int .i64 0]) (ok:=fun _=>True) (okp:=fun _=>True) ?hr ?hp (fun _ hk=>hk) trivial (Below.refl _ _) (Nat.le_refl _) (by simp) ?_;(case hd=>rfl);(case hg=>rfl);(case hr=>exact Y8);(case hp=>exact (Reps.c4 (show Kd.M k59 _ _ _ (⟨a2,12,t482,0⟩:S59) [.int .i64 a2, .int .i64 12, .int .i64 t482, .int .i64 0] from (jpb _ _ _ (⟨a2,12,t482,0⟩:S59) )) (Reps.none _ _)))
                intro v485 w120 ho121 hb hg_ hnew_
                clear hg_ hnew_
                (first | rw [← Ny484.out] at ho121 |(simp only [Int.reduceToNat] at ho121;rw [← Ny484.out] at ho121))
                have HO486:=am (Kd.jX (Kd.jic (Kd.jEb ho121 (Kd.R_lt (rq HO489.out))) (g:=gb424) (o:=.cells #[.int .i64 a2, .int .i64 12, .int .i64 t482, .int .i64 0] 59 (0,0)) (kq BK424.out)) (jM (w:=w) (g:=g) (row:=none) (Y1)))
                replace HO481:=am (Kd.jja (rq HO481.out) hb)
                replace HO489:=am (Kd.jKb (rq HO489.out) (Kd.jGb ho121) hb)
                replace BK419:=am (jq (g:=gb419) (o:=.cells #[.slice A1_0 l1_0.length c1_0] 32 (0,0)) (kq BK419.out) hb)
                replace BK424:=am (jq (g:=gb424) (o:=.cells #[.int .i64 a2, .int .i64 12, .int .i64 t482, .int .i64 0] 59 (0,0)) (kq BK424.out) hb)
                replace HK:=am (jb.trans (Y1) (jb.of_below hb g none) (.inl rfl))
                replace HB:=am (ji (Y6) hb)
                replace HI0:=am (jc.below (Y3) hb)
                clear hb ho121
                refine hK.out _ _ ⟨(jK BK424.out 0).trans rfl,(jK BK424.out 1).trans rfl,(jK BK424.out 2).trans rfl,(jK BK424.out 3).trans rfl,(jK BK419.out 0).trans rfl⟩ (fun hHeld=>?_)
                clear hK K
                refine jRb (a':=?_) ?_ ?_
                rotate_left
                ·show Act.put _ (some 100) _=_
                 simp only [Act.put,List.setIfInBounds_toArray,List.set_cons_zero,List.set_cons_succ,jeb,jhb]
                 rfl
                exact jRb (by simp only [putAll,Act.put,List.setIfInBounds_toArray,List.set_cons_zero,List.set_cons_succ]) (hCont (v485,v488) _ ⟨hHeld,(rq HO481.out),(by (with_reducible repeat (first | apply Kd.jba | apply Kd.jea | apply Kd.jma));exact Kd.jI HO486.out (fun _ hk=>⟨hk.1.2,hk.2⟩)),(by (with_reducible repeat (first | apply Kd.jba | apply Kd.jea | apply Kd.jma));exact Kd.jI HO489.out (fun _ hk=>⟨hk.2,hk.1.2⟩)),(kq BK419.out),(kq BK424.out),(Y3),(Y1),(Y6)⟩)
              rintro ⟨v485,v488⟩ w122 ⟨hS_,h0_,h1_,h2_,h3_,h4_,h5_,h6_,h7_⟩
              have n0_:jl (Kd.R (Kd.int .i64) 3 w122 w.heap.size (fun _=>True) (.slice Ao114 y479.length co114) y479):=⟨h0_⟩
              have n1_:jl (Kd.R k59 59 w122 w.heap.size (fun k_=>some k_≠(v488:Value).ownBlock∧k_≠gb424) v485 y484):=⟨h1_⟩
              have n2_:jl (Kd.R k59 59 w122 w.heap.size (fun k_=>some k_≠(v485:Value).ownBlock∧k_≠gb424) v488 t487):=⟨h2_⟩
              have n3_:jl (w122.heap[gb419]?=some (.cells #[.slice A1_0 l1_0.length c1_0] 32 (0,0))):=⟨h3_⟩
              have n4_:jl (w122.heap[gb424]?=some (.cells #[.int .i64 a2, .int .i64 12, .int .i64 t482, .int .i64 0] 59 (0,0))):=⟨h4_⟩
              have n5_:jl (jc w0 w122 g s0_0 t490):=⟨h5_⟩
              have n6_:jl (jb w w122 g none):=⟨h6_⟩
              have n7_:jl (Below w0.heap.size w0 w122):=⟨h7_⟩
              clear HO481
              clear BK419
              clear BK424
              clear HI0
              clear HK
              clear HB
              clear h0_ h1_ h2_ h3_ h4_ h5_ h6_ h7_
              have HO481:=n0_
              have HO486:=n1_
              have HO489:=n2_
              have BK419:=n3_
              have BK424:=n4_
              have HI0:=n5_
              have HK:=n6_
              have HB:=n7_
              clear n0_ n1_ n2_ n3_ n4_ n5_ n6_ n7_
              have hHeld:w122.cell? ⟨gb424,0,none⟩=some (.int .i64 a2)∧w122.cell? ⟨gb424,1,none⟩=some (.int .i64 12)∧w122.cell? ⟨gb424,2,none⟩=some (.int .i64 t482)∧w122.cell? ⟨gb424,3,none⟩=some (.int .i64 0)∧w122.cell? ⟨gb419,0,none⟩=some (.slice A1_0 l1_0.length c1_0):=hS_
              obtain ⟨Ao124,co124,eo124⟩:=Kd.jaa HO489.out
              (first | subst eo124 |(injection eo124 with f1_ f2_ f3_;have f4_:=f1_.symm;have f5_:=f3_.symm;clear f1_ f2_ f3_;subst f4_;subst f5_))
              refine jRb (a':=?_) ?_ ?_
              rotate_left
              ·simp only [putAll,Act.put,List.setIfInBounds_toArray,List.set_cons_zero,List.set_cons_succ]
               rfl
              refine one_ (i:=7) (N:=some 106) #[true,true,true,true,true,true,true,true,false] rfl rfl (jLb HT_.out (by kernel_rfl)) (by decide) (fun K hK=>?_)
              refine Kd.joc k59 w.heap.size (by rfl) (.tmp 100) (.tmp 105) 34 59 (.agg #[(.int .i64 0),(.int .i64 0),(.int .i64 0),(.int .i64 0)]) 32 rfl Try.underlying34 jmc rfl (by decide) (by omega) v485 y484 t487 _ _ _ (fun k_=>some k_≠(.slice Ao124 t487.length co124:Value).ownBlock∧k_≠gb424) (fun _=>False) rfl rfl ?aO ?aR (fun _ _ h=>h) (fun _ h=>h.elim) ?aF (Below.refl _ _) ?aS ?aL ?_
              (case aR=>repeat (first | exact (Kd.jm HO489.out).2.2 |(with_reducible refine Kd.jjc ?_ _) |(with_reducible refine Kd.jcc ?_ _) |(with_reducible refine Kd.C_drew ?_)))
              (case aF=>exact (fun k_ hk=>⟨Kd.fresh' (Kd.R_lt (rq HO489.out)) k_ hk,Kd.freshB (g:=gb424) (o:=.cells #[.int .i64 a2, .int .i64 12, .int .i64 t482, .int .i64 0] 59 (0,0)) (kq BK424.out) k_ hk⟩))
              (case aO=>exact (rq HO486.out))
              (case aS=>exact (jM (w:=w) (g:=g) (row:=none) (Y1)))
              (case aL=>have:=LMc108.out;omega)
              intro v492 w123 ho hb hg hat
              rw [← Ny491.out] at ho
              have n0_:=am (jPa (g:=gb419) (o:=.cells #[.slice A1_0 l1_0.length c1_0] 32 (0,0)) (kq BK419.out) hg (Kd.R_ne HO486.out BK419.out (by decide)))
              have n1_:=am (jPa (g:=gb424) (o:=.cells #[.int .i64 a2, .int .i64 12, .int .i64 t482, .int .i64 0] 59 (0,0)) (kq BK424.out) hg (Kd.R_away HO486.out (fun _ hk=>hk.2)))
              have n2_:=am (jc.grown (Y3) hg (jc.own_ne HI0.out HO486.out (by decide)))
              have n3_:=am (Kd.jbc (rq HO481.out) (Kd.jac (rq HO486.out)) (by decide) hg)
              have n4_:=am (Kd.jBc (ok:=(fun k_=>k_≠gb424)) (by (with_reducible repeat (first | apply Kd.jba | apply Kd.jea | apply Kd.jma));exact Kd.jI HO489.out (fun _ hk=>⟨hk.2,hk.1⟩)) hg hat)
              have n5_:=am (jWa (Y6) HL.out hb)
              have n6_:=am (jb.trans (Y1) (jb.jnb hg g) (Kd.jFb HO486.out))
              have n7_:=am (ho)
              clear BK419
              clear BK424
              clear HI0
              clear HO481
              clear HO489
              clear HB
              clear HK
              clear HO486
              have BK419:=n0_
              have BK424:=n1_
              have HI0:=n2_
              have HO481:=n3_
              have HO489:=n4_
              have HB:=n5_
              have HK:=n6_
              have HO493:=n7_
              clear n0_ n1_ n2_ n3_ n4_ n5_ n6_ n7_
              clear ho hb hg hat
              refine hK.out _ _ ⟨(jK BK424.out 0).trans rfl,(jK BK424.out 1).trans rfl,(jK BK424.out 2).trans rfl,(jK BK424.out 3).trans rfl,(jK BK419.out 0).trans rfl⟩ (fun hHeld=>?_)
              clear hK K
              refine jRb (a':=?_) ?_ ?_
              rotate_left
              ·show Act.put _ (some 106) _=_
               simp only [Act.put,List.setIfInBounds_toArray,List.set_cons_zero,List.set_cons_succ,jeb,jhb]
               rfl
              refine pq (i:=8) (N:=some 8) #[true,true,true,true,true,true,true,true,true] ?_
              refine done_ (done_of HT_.out (by kernel_rfl)) ?_
              try go_wp2
              go_ret
              exact ⟨_,Y0,by (with_reducible repeat (first | apply Kd.jba | apply Kd.jea | apply Kd.jma));exact Kd.jI HO493.out (fun _ hk=>trivial),Y3,Y6,Y1⟩
             ·rw [if_neg c108] at H
              exact absurd H (by simp)
            ·rw [if_neg c105] at H
             have c105b0:(x9_5 == 11)=false:=beq_eq_false_iff_ne.mpr c105
             have c105b1:(x9_5 != 11)=true:=bne_iff_ne.mpr c105
             replace H:=bzS H
             obtain ⟨⟨t494,t497⟩,A1250,H⟩:=H
             replace H:(some (t494,t497))=some (r1,r2):=H
             have A125:=am A1250
             clear A1250
             simp only [Option.some.injEq,Prod.mk.injEq] at H
             obtain ⟨rfl,rfl⟩:=H
             have hnb126:=NB419_424.out
             have hnc126:=NB424_419.out
             have hnb127:=NB419_0.out
             have hnc127:=NB0_419.out
             have hcz128_0:=bc0 BK419.out
             have hfz128_0:=ja BK419.out 0
             go_wp2_with (first |((with_reducible refine jg (f:=97) rfl ?_);refine gL (some 23) Try.func97 #[.pointer (some ⟨g,0,none⟩), .agg #[.slice A1_0 l1_0.length c1_0], .int .i64 a2, .bool a3] ?_;(with_reducible refine (ih97 kj49 (by have:=HJ5.out;have:=HJ49.out;omega) g s0_0 x1001_5 _ _ l1_0 a2 a3 t494 t497 w0 _ ?side1 ?side2 ?side3 ?side4 A125.out).mono ?_);(case side1=>exact Y3);(case side2=>exact Y6);(case side3=>exact Kd.jgb HR1_0.out (Y1));(case side4=>exact HC1_0.out);rintro e w129 ⟨v495,rfl,ho0,hi,hb,hk⟩;refine ⟨_,rfl,?_⟩;have HO496:=am (Kd.jX (Kd.jic ho0 (g:=gb424) (o:=.cells #[.int .i64 a2, .int .i64 0, .int .i64 0, .int .i64 0] 59 (0,0)) (kq BK424.out)) (jM (w:=w) (g:=g) (row:=none) (Y1)));replace BK419:=am (jb.blk hk (g':=gb419) (o:=.cells #[.slice A1_0 l1_0.length c1_0] 32 (0,0)) (kq BK419.out) NB419_0.out (by simp));replace BK424:=am (jb.blk hk (g':=gb424) (o:=.cells #[.int .i64 a2, .int .i64 0, .int .i64 0, .int .i64 0] 59 (0,0)) (kq BK424.out) NB424_0.out (by simp));replace HK:=am (jb.trans (Y1) hk (.inl rfl));replace HB:=am (hb);replace HI0:=am (hi);(try clear hb);(try clear hb2);(try clear hk);(try clear hi);(try clear ho0)))
             go_ret
             exact ⟨_,Y0,by (with_reducible repeat (first | apply Kd.jba | apply Kd.jea | apply Kd.jma));exact Kd.jI HO496.out (fun _ hk=>trivial),Y3,Y6,Y1⟩
set_option maxHeartbeats 8000000 in
set_option maxRecDepth 100000 in
theorem jJ.calls_of (k : Nat) (ih104 : ∀ k_, k_ < k → ∀ (g : Nat) (s0_0 : List Int) (s0_1 : Int) (A1_0 : Option Addr) (c1_0 : Nat) (l1_0 : List (S98)) (a2 : Int) (a3 : Bool) (r1 : List (S59)) (r2 : Int) (w0 w : World) (hI : jc w0 w g s0_0 s0_1) (hB : Below w0.heap.size w0 w) (hr1_0 : ∀ W_, jb w W_ g none → Kd.C k98 W_ A1_0 l1_0.length l1_0) (hc1_0 : l1_0.length ≤ c1_0) (h : jy.f k_ s0_0 s0_1 l1_0 a2 a3 = some (r1, r2)), Calls Try.prog 104 #[.pointer (some ⟨g, 0, none⟩), .agg #[.slice A1_0 l1_0.length c1_0], .int .i64 a2, .bool a3] w fun e w' => ∃ v0_ : Value, e = .returned (v0_) ∧ Kd.R k59 59 w' w.heap.size (fun _ => True) v0_ r1 ∧ jc w0 w' g s0_0 r2 ∧ Below w0.heap.size w0 w' ∧ jb w w' g none) (ih98 : ∀ k_, k_ < k → ∀ (g : Nat) (s0_0 : List Int) (s0_1 : Int) (A1_0 : Option Addr) (c1_0 : Nat) (l1_0 : List (S98)) (a2 : Int) (a3 : Bool) (r1 : List (S59)) (r2 : Int) (w0 w : World) (hI : jc w0 w g s0_0 s0_1) (hB : Below w0.heap.size w0 w) (hr1_0 : ∀ W_, jb w W_ g none → Kd.C k98 W_ A1_0 l1_0.length l1_0) (hc1_0 : l1_0.length ≤ c1_0) (h : jJ.f k_ s0_0 s0_1 l1_0 a2 a3 = some (r1, r2)), Calls Try.prog 98 #[.pointer (some ⟨g, 0, none⟩), .agg #[.slice A1_0 l1_0.length c1_0], .int .i64 a2, .bool a3] w fun e w' => ∃ v0_ : Value, e = .returned (v0_) ∧ Kd.R k59 59 w' w.heap.size (fun _ => True) v0_ r1 ∧ jc w0 w' g s0_0 r2 ∧ Below w0.heap.size w0 w' ∧ jb w w' g none) (ih97 : ∀ k_, k_ < k → ∀ (g : Nat) (s0_0 : List Int) (s0_1 : Int) (A1_0 : Option Addr) (c1_0 : Nat) (l1_0 : List (S98)) (a2 : Int) (a3 : Bool) (r1 : List (S59)) (r2 : Int) (w0 w : World) (hI : jc w0 w g s0_0 s0_1) (hB : Below w0.heap.size w0 w) (hr1_0 : ∀ W_, jb w W_ g none → Kd.C k98 W_ A1_0 l1_0.length l1_0) (hc1_0 : l1_0.length ≤ c1_0) (h : jR.f k_ s0_0 s0_1 l1_0 a2 a3 = some (r1, r2)), Calls Try.prog 97 #[.pointer (some ⟨g, 0, none⟩), .agg #[.slice A1_0 l1_0.length c1_0], .int .i64 a2, .bool a3] w fun e w' => ∃ v0_ : Value, e = .returned (v0_) ∧ Kd.R k59 59 w' w.heap.size (fun _ => True) v0_ r1 ∧ jc w0 w' g s0_0 r2 ∧ Below w0.heap.size w0 w' ∧ jb w w' g none) : ∀ (g : Nat) (s0_0 : List Int) (s0_1 : Int) (A1_0 : Option Addr) (c1_0 : Nat) (l1_0 : List (S98)) (a2 : Int) (a3 : Bool) (r1 : List (S59)) (r2 : Int) (w0 w : World) (hI : jc w0 w g s0_0 s0_1) (hB : Below w0.heap.size w0 w) (hr1_0 : ∀ W_, jb w W_ g none → Kd.C k98 W_ A1_0 l1_0.length l1_0) (hc1_0 : l1_0.length ≤ c1_0) (h : jJ.f k s0_0 s0_1 l1_0 a2 a3 = some (r1, r2)),
  Calls Try.prog 98 #[.pointer (some ⟨g,0,none⟩), .agg #[.slice A1_0 l1_0.length c1_0], .int .i64 a2, .bool a3] w fun e w'=>∃ v0_:Value,e=.returned (v0_)∧Kd.R k59 59 w' w.heap.size (fun _=>True) v0_ r1∧jc w0 w' g s0_0 r2∧Below w0.heap.size w0 w'∧jb w w' g none:=by
 intro g s0_0 s0_1 A1_0 c1_0 l1_0 a2 a3 r1 r2 w0 w hI hB hr1_0 hc1_0 h
 cases k with
 | zero=>exact absurd h (by simp [jJ.f])
 | succ k =>
 simp only [jJ.f] at h
 have hu32:=Try.underlying32
 have HR1_0:=am hr1_0
 have HC1_0:=am hc1_0
 clear hr1_0 hc1_0
 have HI0:=am hI
 have HK:=am (jb.refl w g none)
 have HL:=am hB.size
 clear hI
 have HW0:=am hB.size
 have HB:=am hB
 clear hB
 have H:((jh.f k s0_0 s0_1 (([1,2,1,2,3]:List Int))).bind fun bt505=>(jJ.l0 k a2 a3 (([]:List (S59))) bt505.1 s0_0 bt505.2 l1_0))=some (r1,r2):=h
 clear h
 obtain ⟨y499,hy499⟩:∃ y_:List (S59),y_=(([]:List (S59))):=⟨_,rfl⟩
 replace H:((jh.f k s0_0 s0_1 (([1,2,1,2,3]:List Int))).bind fun bt505=>(jJ.l0 k a2 a3 y499 bt505.1 s0_0 bt505.2 l1_0))=some (r1,r2):=by first |(rw [hy499];with_reducible exact H) |(have H2_:=(Option.bind_some _ _).symm.trans H;rw [hy499];with_reducible exact H2_) |(have H2_:=(Option.bind_some _ _).symm.trans H;with_reducible exact H2_) | with_reducible exact H |(rw [hy499];exact H) | exact H
 have Ny499:=am hy499
 clear hy499
 obtain ⟨y502,hy502⟩:∃ y_:List Int,y_=(([1,2,1,2,3]:List Int)):=⟨_,rfl⟩
 replace H:((jh.f k s0_0 s0_1 y502).bind fun bt505=>(jJ.l0 k a2 a3 y499 bt505.1 s0_0 bt505.2 l1_0))=some (r1,r2):=by first |(rw [hy502];with_reducible exact H) |(have H2_:=(Option.bind_some _ _).symm.trans H;rw [hy502];with_reducible exact H2_) |(have H2_:=(Option.bind_some _ _).symm.trans H;with_reducible exact H2_) | with_reducible exact H |(rw [hy502];exact H) | exact H
 have Ny502:=am hy502
 clear hy502
 replace H:=bzS H
 obtain ⟨⟨t505,t506⟩,A50,H⟩:=H
 replace H:(jJ.l0 k a2 a3 y499 t505 s0_0 t506 l1_0)=some (r1,r2):=H
 have A5:=am A50
 clear A50
 have H':=am H
 clear H
 go_enter Try.func98,Try.ntmps98
 go_wp2_with (first |((with_reducible refine jQ (N:=5) rfl ?_);refine bE (N:=5) (cs:=#[.slice A1_0 l1_0.length c1_0]) (t:=32) ?_;intro gb498 hg w6 hbox hb;have BK498:=am (hbox);have GW498:=am ((Y12:w.heap.size≤gb498));have GE498:=am ((Nat.le_trans HW0.out (Y12:w.heap.size≤gb498):w0.heap.size≤gb498));have NB0_498:=am ((Y28:g≠gb498));have NB498_0:=am ((Y29:gb498≠g));replace HK:=am (jb.trans (Y17) (jb.of_below hb g none) (.inl rfl));replace HB:=am (ji (Y18) hb);replace HI0:=am (jc.below (Y16) hb);clear hb hbox hg) |((with_reducible refine jQ (N:=11) rfl ?_);refine Kd.jMb k59 _ 59 ?hg (N:=11) ?hd (xs:=([]:List (S59))) (inner:=[]) (ok:=fun _=>True) (okp:=fun _=>True) ?hr ?hp (fun _ hk=>hk) trivial (Below.refl _ _) (Nat.le_refl _) (by simp) ?_;(case hd=>rfl);(case hg=>rfl);(case hr=>exact Y8);(case hp=>exact (Reps.none _ _));intro v500 w7 ho8 hb hg_ hnew_;clear hg_ hnew_;(first | rw [← Ny499.out] at ho8 |(simp only [Int.reduceToNat] at ho8;rw [← Ny499.out] at ho8));have HO501:=am (Kd.jX ho8 (jM (w:=w) (g:=g) (row:=none) (Y32)));replace BK498:=am (jq (g:=gb498) (o:=.cells #[.slice A1_0 l1_0.length c1_0] 32 (0,0)) (kq BK498.out) hb);replace HK:=am (jb.trans (Y32) (jb.of_below hb g none) (.inl rfl));replace HB:=am (ji (Y51) hb);replace HI0:=am (jc.below (Y40) hb);clear hb ho8) |((with_reducible refine jQ (N:=13) rfl ?_);refine Kd.jMb (Kd.int .i64) _ 3 ?hg (N:=13) ?hd (xs:=([1,2,1,2,3]:List Int)) (inner:=[.int .i64 1, .int .i64 2, .int .i64 1, .int .i64 2, .int .i64 3]) (ok:=fun _=>True) (okp:=fun _=>True) ?hr ?hp (fun _ hk=>hk) trivial (Below.refl _ _) (Nat.le_refl _) (by simp) ?_;(case hd=>rfl);(case hg=>rfl);(case hr=>exact Y8);(case hp=>exact (Reps.one (show Kd.M (Kd.int .i64) _ _ _ 1 [.int .i64 1] from rfl) (Reps.one (show Kd.M (Kd.int .i64) _ _ _ 2 [.int .i64 2] from rfl) (Reps.one (show Kd.M (Kd.int .i64) _ _ _ 1 [.int .i64 1] from rfl) (Reps.one (show Kd.M (Kd.int .i64) _ _ _ 2 [.int .i64 2] from rfl) (Reps.one (show Kd.M (Kd.int .i64) _ _ _ 3 [.int .i64 3] from rfl) (Reps.none _ _)))))));intro v503 w9 ho10 hb hg_ hnew_;clear hg_ hnew_;(first | rw [← Ny502.out] at ho10 |(simp only [Int.reduceToNat] at ho10;rw [← Ny502.out] at ho10));have HO504:=am (Kd.jX ho10 (jM (w:=w) (g:=g) (row:=none) (Y32)));replace HO501:=am (Kd.jja (rq HO501.out) hb);replace BK498:=am (jq (g:=gb498) (o:=.cells #[.slice A1_0 l1_0.length c1_0] 32 (0,0)) (kq BK498.out) hb);replace HK:=am (jb.trans (Y32) (jb.of_below hb g none) (.inl rfl));replace HB:=am (ji (Y51) hb);replace HI0:=am (jc.below (Y40) hb);clear hb ho10;obtain ⟨Ao11,co11,eo11⟩:=Kd.jaa HO504.out;subst eo11) |((with_reducible refine jg (f:=56) rfl ?_);refine gL (some 14) Try.func56 #[.pointer (some ⟨g,0,none⟩), .slice Ao11 y502.length co11] ?_;(with_reducible refine (jh.calls k g s0_0 s0_1 _ _ y502 t505 t506 w0 _ ?side1 ?side2 ?side3 ?side4 ?side5 A5.out).mono ?_);(case side1=>exact Y40);(case side2=>exact Y51);(case side3=>exact cq (Kd.jm HO504.out).2.2);(case side4=>exact (Kd.jm HO504.out).2.1);(case side5=>exact jqb (jc.own_ne HI0.out HO504.out (by decide)));rintro e w12 ⟨rfl,hi,hb,hk⟩;refine ⟨_,rfl,?_⟩;replace BK498:=am (jb.blk hk (g':=gb498) (o:=.cells #[.slice A1_0 l1_0.length c1_0] 32 (0,0)) (kq BK498.out) NB498_0.out (by simp));replace HO501:=am (Kd.jI (Kd.jxa (jc.apart (show jc w0 _ g s0_0 s0_1 from Y40) (rq HO501.out) (by decide)) hk (fun _ h=>h.2)) (fun _ h=>h.1));replace HO504:=am (Kd.jI (Kd.jxa (jc.apart (show jc w0 _ g s0_0 s0_1 from Y40) (rq HO504.out) (by decide)) hk (fun _ h=>h.2)) (fun _ h=>h.1));replace HK:=am (jb.trans (Y32) hk (.inl rfl));replace HB:=am (hb);replace HI0:=am (hi);(try clear hb);(try clear hb2);(try clear hk);(try clear hi)))
 go_loopg [9,10] k (fun kq v9 v10 w'=>∃ (x9_1:List (S59)) (x10_1:Int) (x1001_1:Int),v10=.int .i64 x10_1∧jl (jJ.l0 kq a2 a3 x9_1 x10_1 s0_0 x1001_1 l1_0=some (r1,r2))∧jl (kq≤k)∧jl (Kd.R k59 59 w' w.heap.size (fun _=>True) v9 x9_1)∧jl (w'.heap[gb498]?=some (.cells #[(.slice A1_0 l1_0.length c1_0)] 32 (0,0)))∧jl (jc w0 w' g s0_0 x1001_1)∧jl (jb w w' g none)∧jl (Below w0.heap.size w0 w'))
 case atStart=>exact ⟨(y499),(t505),(t506),(sq),H',⟨Nat.le_refl _⟩,⟨rq HO501.out⟩,⟨kq BK498.out⟩,⟨Y40⟩,⟨Y32⟩,⟨Y51⟩⟩
 case round =>
  clear H'
  try clear c1
  try clear p2
  try clear c5
  try clear c9
  obtain ⟨x9_1,x10_1,x1001_1,rfl,HA,HK1,HO_9,BK498,HI0,HK,HB⟩:=hrel
  cases gk with
  | zero=>exact absurd HA.out (by simp [jJ.l0])
  | succ k1 =>
   have H:=HA.out
   clear HA
   simp only [jJ.l0] at H
   by_cases c13:x10_1 > 0
   ·rw [if_pos c13] at H
    have c13b0:decide (0<x10_1)=true:=dzT c13
    clear c13
    replace H:=bzS H
    obtain ⟨⟨t507,t510⟩,A140,H⟩:=H
    replace H:(if x9_1.length+t507.length<4398046511104 then (jJ.l0 k1 a2 a3 (x9_1 ++ t507) (wrap64 (x10_1 - 1)) s0_0 t510 l1_0) else (none))=some (r1,r2):=H
    have A14:=am A140
    clear A140
    by_cases c15:x9_1.length+t507.length<4398046511104
    ·rw [if_pos c15] at H
     have LMc15:=am c15
     clear c15
     obtain ⟨y511,hy511⟩:∃ y_:List (S59),y_=(x9_1 ++ t507):=⟨_,rfl⟩
     replace H:(jJ.l0 k1 a2 a3 y511 (wrap64 (x10_1 - 1)) s0_0 t510 l1_0)=some (r1,r2):=by first |(rw [hy511];with_reducible exact H) |(have H2_:=(Option.bind_some _ _).symm.trans H;rw [hy511];with_reducible exact H2_) |(have H2_:=(Option.bind_some _ _).symm.trans H;with_reducible exact H2_) | with_reducible exact H |(rw [hy511];exact H) | exact H
     have Ny511:=am hy511
     clear hy511
     have H':=am H
     clear H
     have hnb16:=NB498_0.out
     have hnc16:=NB0_498.out
     have hcz17_0:=bc0 BK498.out
     have hfz17_0:=ja BK498.out 0
     go_wp2_with (first |((with_reducible refine jg (f:=104) rfl ?_);refine gL (some 24) Try.func104 #[.pointer (some ⟨g,0,none⟩), .agg #[.slice A1_0 l1_0.length c1_0], .int .i64 a2, .bool a3] ?_;(with_reducible refine (ih104 k1 (by have:=HK1.out;omega) g s0_0 x1001_1 _ _ l1_0 a2 a3 t507 t510 w0 _ ?side1 ?side2 ?side3 ?side4 A14.out).mono ?_);(case side1=>exact Y40);(case side2=>exact Y51);(case side3=>exact Kd.jgb HR1_0.out (Y32));(case side4=>exact HC1_0.out);rintro e w18 ⟨v508,rfl,ho0,hi,hb,hk⟩;refine ⟨_,rfl,?_⟩;have HO509:=am (Kd.jX (Kd.jEb ho0 (Kd.R_lt (rq HO_9.out))) (jM (w:=w) (g:=g) (row:=none) (Y32)));replace HO_9:=am (Kd.jI (Kd.R_told (Kd.R_oldK (jc.apart (show jc w0 _ g s0_0 x1001_1 from Y40) (rq HO_9.out) (by decide)) hk) (Kd.jGb ho0)) (fun _ h_=>h_.1));replace BK498:=am (jb.blk hk (g':=gb498) (o:=.cells #[.slice A1_0 l1_0.length c1_0] 32 (0,0)) (kq BK498.out) NB498_0.out (by simp));replace HK:=am (jb.trans (Y32) hk (.inl rfl));replace HB:=am (hb);replace HI0:=am (hi);(try clear hb);(try clear hb2);(try clear hk);(try clear hi);(try clear ho0);obtain ⟨Ao20,co20,eo20⟩:=Kd.jaa HO509.out;subst eo20) |((with_reducible refine jJa (b:=.append) (xs:=#[.tmp 19, .tmp 24]) rfl ?_);at_builtin;refine Kd.jxb k59 w.heap.size rfl (.tmp 19) (.tmp 24) 34 59 (.agg #[(.int .i64 0),(.int .i64 0),(.int .i64 0),(.int .i64 0)]) 32 rfl Try.underlying34 jmc rfl (by decide) (by omega) u9 x9_1 t507 _ _ _ (fun k_=>some k_≠(.slice Ao20 t507.length co20:Value).ownBlock) (fun _=>False) rfl rfl ?aO ?aR (fun _ _ h=>h) (fun _ h=>h.elim) ?aF (Below.refl _ _) ?aS ?aL ?_;(case aR=>repeat (first | exact (Kd.jm HO509.out).2.2 |(with_reducible refine Kd.jjc ?_ _) |(with_reducible refine Kd.jcc ?_ _) |(with_reducible refine Kd.C_drew ?_)));(case aF=>exact (fun k_ hk=>Kd.fresh' (Kd.R_lt (rq HO509.out)) k_ hk));(case aO=>exact (by (with_reducible repeat (first | apply Kd.jba | apply Kd.jea | apply Kd.jma));exact Kd.jI HO_9.out (fun _ hk=>hk.2)));(case aS=>exact (jM (w:=w) (g:=g) (row:=none) (Y32)));(case aL=>have:=LMc15.out;omega);intro v512 w19 ho hb hg hat;rw [← Ny511.out] at ho;have n0_:=am (jPa (g:=gb498) (o:=.cells #[.slice A1_0 l1_0.length c1_0] 32 (0,0)) (kq BK498.out) hg (Kd.R_ne HO_9.out BK498.out (by decide)));have n1_:=am (jc.grown (Y40) hg (jc.own_ne HI0.out HO_9.out (by decide)));have n2_:=am (Kd.jBc (ok:=(fun _=>True)) (rq HO509.out) hg hat);have n3_:=am (jWa (Y51) HL.out hb);have n4_:=am (jb.trans (Y32) (jb.jnb hg g) (Kd.jFb HO_9.out));have n5_:=am (ho);clear BK498 HI0 HO509 HB HK HO_9;have BK498:=n0_;have HI0:=n1_;have HO509:=n2_;have HB:=n3_;have HK:=n4_;have HO513:=n5_;clear n0_ n1_ n2_ n3_ n4_ n5_ ho hb hg hat))
     go_roundg k1
     case measure=>have:=HK1.out;omega
     case rel=>exact ⟨(y511),(wrap64 (x10_1 - 1)),(t510),(sq),H',⟨by have:=HK1.out;omega⟩,⟨by (with_reducible repeat (first | apply Kd.jba | apply Kd.jea | apply Kd.jma));exact Kd.jI HO513.out (fun _ hk=>trivial)⟩,⟨kq BK498.out⟩,⟨Y40⟩,⟨Y32⟩,⟨Y51⟩⟩
    ·rw [if_neg c15] at H
     exact absurd H (by simp)
   ·rw [if_neg c13] at H
    have c13b0:decide (0<x10_1)=false:=dzF c13
    clear c13
    simp only [Option.some.injEq,Prod.mk.injEq] at H
    obtain ⟨rfl,rfl⟩:=H
    go_wp2
    go_ret
    exact ⟨_,Y0,rq HO_9.out,Y40,Y51,Y32⟩
end Go.Proofs.Ytbcjbcjpoddkoaa.P
end
