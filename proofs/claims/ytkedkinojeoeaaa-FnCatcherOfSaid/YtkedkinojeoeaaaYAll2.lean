/- One part of the proofs on this program: functions of the program as plain functions, that the code comes to them, and facts on them. -/
import Derived.Test.YtkedkinojeoeaaaYAll1
import Derived.Test.YtkedkinojeoeaaaYWAuto
section
namespace Go.Proofs.Ytkedkinojeoeaaa.P
open Go.RowKit Go.Proofs.YtkedkinojeoeaaaW.PrintWords Go.Proofs.YtkedkinojeoeaaaW.PrintLast Go.Proofs.YtkedkinojeoeaaaW.PrintMore
attribute [local go_sem] jta jra jBa jAa jca jba jsa jqa jl
set_option linter.unusedVariables false
set_option linter.unusedSimpArgs false
def jB.T26 : Bool × List (List Nat × List Nat) := (true, [([], []), ([0], [0]), ([], []), ([], []), ([], []), ([4], [4]), ([], []), ([2, 3, 5, 6], [2, 3, 5, 6]), ([1, 7, 7], [1, 7]), ([8, 8, 0, 1, 2, 3, 4, 5, 6, 7, 8], [8])])
def jB.B26 : List Nat := [0, 1, 0, 0, 0, 16, 0, 124, 255, 511]
theorem jB.tab26 : rtab .any (opsOf Try.f101 26) = jB.T26 := by kernel_rfl
theorem jB.bits26 : jdc jB.T26.2 jB.B26 = true := by kernel_rfl
def jB.T30 : Bool × List (List Nat × List Nat) := (true, [([], []), ([0], [0]), ([], []), ([], []), ([], []), ([4], [4]), ([2, 3, 5], [2, 3, 5]), ([1, 6, 6], [1, 6]), ([7, 7, 0, 1, 2, 3, 4, 5, 6, 7], [7])])
def jB.B30 : List Nat := [0, 1, 0, 0, 0, 16, 60, 127, 255]
theorem jB.tab30 : rtab .any (opsOf Try.f101 30) = jB.T30 := by kernel_rfl
theorem jB.bits30 : jdc jB.T30.2 jB.B30 = true := by kernel_rfl
set_option maxHeartbeats 8000000 in
set_option maxRecDepth 100000 in
theorem jB.calls_of (k : Nat) (ih101 : ∀ k_, k_ < k → ∀ (g : Nat) (s0_0 : List Int) (s0_1 : Int) (A1_0 : Option Addr) (c1_0 : Nat) (l1_0 : List (S75)) (a2 : Int) (a3 : Bool) (r1 : List (S36)) (r2 : Int) (w0 w : World) (hI : jf w0 w g s0_0 s0_1) (hB : Below w0.heap.size w0 w) (hr1_0 : ∀ W_, jb w W_ g none → Kd.C k75 W_ A1_0 l1_0.length l1_0) (hc1_0 : l1_0.length ≤ c1_0) (h : jB.f k_ s0_0 s0_1 l1_0 a2 a3 = some (r1, r2)), Calls Try.prog 101 #[.pointer (some ⟨g, 0, none⟩), .agg #[.slice A1_0 l1_0.length c1_0], .int .i64 a2, .bool a3] w fun e w' => ∃ v0_ : Value, e = .returned (v0_) ∧ Kd.R k36 36 w' w.heap.size (fun _ => True) v0_ r1 ∧ jf w0 w' g s0_0 r2 ∧ Below w0.heap.size w0 w' ∧ jb w w' g none) (ih92 : ∀ k_, k_ < k → ∀ (g : Nat) (s0_0 : List Int) (s0_1 : Int) (A1_0 : Option Addr) (c1_0 : Nat) (l1_0 : List (S75)) (a2 : Int) (a3 : Bool) (r1 : List (S36)) (r2 : Int) (w0 w : World) (hI : jf w0 w g s0_0 s0_1) (hB : Below w0.heap.size w0 w) (hr1_0 : ∀ W_, jb w W_ g none → Kd.C k75 W_ A1_0 l1_0.length l1_0) (hc1_0 : l1_0.length ≤ c1_0) (h : jO.f k_ s0_0 s0_1 l1_0 a2 a3 = some (r1, r2)), Calls Try.prog 92 #[.pointer (some ⟨g, 0, none⟩), .agg #[.slice A1_0 l1_0.length c1_0], .int .i64 a2, .bool a3] w fun e w' => ∃ v0_ : Value, e = .returned (v0_) ∧ Kd.R k36 36 w' w.heap.size (fun _ => True) v0_ r1 ∧ jf w0 w' g s0_0 r2 ∧ Below w0.heap.size w0 w' ∧ jb w w' g none) (ih91 : ∀ k_, k_ < k → ∀ (g : Nat) (s0_0 : List Int) (s0_1 : Int) (A1_0 : Option Addr) (c1_0 : Nat) (l1_0 : List (S75)) (a2 : Int) (a3 : Bool) (r1 : List (S36)) (r2 : Int) (w0 w : World) (hI : jf w0 w g s0_0 s0_1) (hB : Below w0.heap.size w0 w) (hr1_0 : ∀ W_, jb w W_ g none → Kd.C k75 W_ A1_0 l1_0.length l1_0) (hc1_0 : l1_0.length ≤ c1_0) (h : jV.f k_ s0_0 s0_1 l1_0 a2 a3 = some (r1, r2)), Calls Try.prog 91 #[.pointer (some ⟨g, 0, none⟩), .agg #[.slice A1_0 l1_0.length c1_0], .int .i64 a2, .bool a3] w fun e w' => ∃ v0_ : Value, e = .returned (v0_) ∧ Kd.R k36 36 w' w.heap.size (fun _ => True) v0_ r1 ∧ jf w0 w' g s0_0 r2 ∧ Below w0.heap.size w0 w' ∧ jb w w' g none) : ∀ (g : Nat) (s0_0 : List Int) (s0_1 : Int) (A1_0 : Option Addr) (c1_0 : Nat) (l1_0 : List (S75)) (a2 : Int) (a3 : Bool) (r1 : List (S36)) (r2 : Int) (w0 w : World) (hI : jf w0 w g s0_0 s0_1) (hB : Below w0.heap.size w0 w) (hr1_0 : ∀ W_, jb w W_ g none → Kd.C k75 W_ A1_0 l1_0.length l1_0) (hc1_0 : l1_0.length ≤ c1_0) (h : jB.f k s0_0 s0_1 l1_0 a2 a3 = some (r1, r2)),
  Calls Try.prog 101 #[.pointer (some ⟨g,0,none⟩), .agg #[.slice A1_0 l1_0.length c1_0], .int .i64 a2, .bool a3] w fun e w'=>∃ v0_:Value,e=.returned (v0_)∧Kd.R k36 36 w' w.heap.size (fun _=>True) v0_ r1∧jf w0 w' g s0_0 r2∧Below w0.heap.size w0 w'∧jb w w' g none:=by
 intro g s0_0 s0_1 A1_0 c1_0 l1_0 a2 a3 r1 r2 w0 w hI hB hr1_0 hc1_0 h
 cases k with
 | zero=>exact absurd h (by simp [jB.f])
 | succ k =>
 simp only [jB.f] at h
 have hu25:=Try.underlying25
 have hu36:=Try.underlying36
 have HR1_0:=am hr1_0
 have HC1_0:=am hc1_0
 clear hr1_0 hc1_0
 have HI0:=am hI
 have HK:=am (jb.refl w g none)
 have HL:=am hB.size
 clear hI
 have HW0:=am hB.size
 have HB:=am hB
 clear hB
 have H:((jg.f k s0_0 s0_1 16).bind fun bt157=>(if a2≥3 then ((jg.f k s0_0 bt157.2 9).bind fun bt159=>(jB.j0 k a2 a3 bt159.1 s0_0 bt159.2 l1_0)) else (jB.j0 k a2 a3 bt157.1 s0_0 bt157.2 l1_0)))=some (r1,r2):=h
 clear h
 replace H:=bzS H
 obtain ⟨⟨t157,t158⟩,A50,H⟩:=H
 replace H:(if a2≥3 then ((jg.f k s0_0 t158 9).bind fun bt159=>(jB.j0 k a2 a3 bt159.1 s0_0 bt159.2 l1_0)) else (jB.j0 k a2 a3 t157 s0_0 t158 l1_0))=some (r1,r2):=H
 have A5:=am A50
 clear A50
 have HC6:=am H
 clear H
 go_enter Try.func101,Try.ntmps101
 go_upto_if 14 with (first |((with_reducible refine jJ (N:=5) rfl ?_);refine bE (N:=5) (cs:=#[.slice A1_0 l1_0.length c1_0]) (t:=25) ?_;intro gb156 hg w7 hbox hb;have BK156:=am (hbox);have GW156:=am ((Y11:w.heap.size≤gb156));have GE156:=am ((Nat.le_trans HW0.out (Y11:w.heap.size≤gb156):w0.heap.size≤gb156));have NB0_156:=am ((Y21:g≠gb156));have NB156_0:=am ((Y22:gb156≠g));replace HK:=am (jb.trans (Y15) (jb.of_below hb g none) (.inl rfl));replace HB:=am (je (Y16) hb);replace HI0:=am (jf.below (Y14) hb);clear hb hbox hg) |((with_reducible refine jd (f:=42) rfl ?_);refine gL (some 12) Try.func42 #[.pointer (some ⟨g,0,none⟩), .int .i64 16] ?_;(with_reducible refine (jg.calls k g s0_0 s0_1 16 t157 t158 w0 _ ?side1 ?side2 A5.out).mono ?_);(case side1=>exact Y54);(case side2=>exact Y55);rintro e w8 ⟨rfl,hi,hb,hk⟩;refine ⟨_,rfl,?_⟩;replace BK156:=am (jb.blk hk (g':=gb156) (o:=.cells #[.slice A1_0 l1_0.length c1_0] 25 (0,0)) (kq BK156.out) NB156_0.out (by simp));replace HK:=am (jb.trans (Y56) hk (.inl rfl));replace HB:=am (hb);replace HI0:=am (hi);(try clear hb);(try clear hb2);(try clear hk);(try clear hi)))
 (try simp only [Act.put,List.setIfInBounds_toArray,List.set_cons_zero,List.set_cons_succ])
 go_cut [9] (fun v9 wc=>∃ (kq:Nat) (x9_5:Int) (x1001_5:Int),v9=.int .i64 x9_5∧jq (jB.j0 kq a2 a3 x9_5 s0_0 x1001_5 l1_0=some (r1,r2))∧jq (kq≤k)∧jq (wc.heap[gb156]?=some (.cells #[(.slice A1_0 l1_0.length c1_0)] 25 (0,0)))∧jq (jf w0 wc g s0_0 x1001_5)∧jq (jb w wc g none)∧jq (Below w0.heap.size w0 wc))
 case first =>
  have H:=HC6.out
  clear HC6
  by_cases c9:a2≥3
  ·rw [if_pos c9] at H
   have c9b0:decide (3≤a2)=true:=dzT c9
   clear c9
   (first | rw [c9b0] |(simp only [jkb,jmb];rw [c9b0]) | skip)
   replace H:=bzS H
   obtain ⟨⟨t159,t160⟩,A100,H⟩:=H
   replace H:(jB.j0 k a2 a3 t159 s0_0 t160 l1_0)=some (r1,r2):=H
   have A10:=am A100
   clear A100
   have H':=am H
   clear H
   go_wp2_with (first |((with_reducible refine jd (f:=42) rfl ?_);refine gL (some 16) Try.func42 #[.pointer (some ⟨g,0,none⟩), .int .i64 9] ?_;(with_reducible refine (jg.calls k g s0_0 t158 9 t159 t160 w0 _ ?side1 ?side2 A10.out).mono ?_);(case side1=>exact Y54);(case side2=>exact Y55);rintro e w11 ⟨rfl,hi,hb,hk⟩;refine ⟨_,rfl,?_⟩;replace BK156:=am (jb.blk hk (g':=gb156) (o:=.cells #[.slice A1_0 l1_0.length c1_0] 25 (0,0)) (kq BK156.out) NB156_0.out (by simp));replace HK:=am (jb.trans (Y56) hk (.inl rfl));replace HB:=am (hb);replace HI0:=am (hi);(try clear hb);(try clear hb2);(try clear hk);(try clear hi)))
   go_meet
   case rel=>exact ⟨_,(t159),(t160),(sq),H',⟨Y32⟩,⟨kq BK156.out⟩,⟨Y54⟩,⟨Y56⟩,⟨Y55⟩⟩
  ·rw [if_neg c9] at H
   have c9b0:decide (3≤a2)=false:=dzF c9
   clear c9
   (first | rw [c9b0] |(simp only [jkb,jmb];rw [c9b0]) | skip)
   have H':=am H
   clear H
   go_wp2
   go_meet
   case rel=>exact ⟨_,(t157),(t158),(sq),H',⟨Y32⟩,⟨kq BK156.out⟩,⟨Y54⟩,⟨Y56⟩,⟨Y55⟩⟩
 case rest =>
  clear HC6
  try clear c1
  try clear p2
  try clear c4
  try clear c9
  try clear c9b0
  try clear c10
  obtain ⟨kq,x9_5,x1001_5,rfl,HA,HJ5,BK156,HI0,HK,HB⟩:=hcut
  cases kq with
  | zero=>exact absurd HA.out (by simp [jB.j0])
  | succ kj5 =>
   have H:=HA.out
   clear HA
   simp only [jB.j0] at H
   by_cases c12:x9_5<4
   ·rw [if_pos c12] at H
    have c12b0:decide (x9_5<4)=true:=dzT c12
    clear c12
    obtain ⟨y162,hy162⟩:∃ y_:List Int,y_=(([1,2,3,4,5]:List Int)):=⟨_,rfl⟩
    replace H:((jh.f kj5 s0_0 x1001_5 y162).bind fun bt165=>(some ((([(⟨a2,1,bt165.1,0⟩:S36)]:List (S36))),bt165.2)))=some (r1,r2):=by first |(rw [hy162];with_reducible exact H) |(have H2_:=(Option.bind_some _ _).symm.trans H;rw [hy162];with_reducible exact H2_) |(have H2_:=(Option.bind_some _ _).symm.trans H;with_reducible exact H2_) | with_reducible exact H |(rw [hy162];exact H) | exact H
    have Ny162:=am hy162
    clear hy162
    replace H:=bzS H
    obtain ⟨⟨t165,t166⟩,A130,H⟩:=H
    replace H:(some ((([(⟨a2,1,t165,0⟩:S36)]:List (S36))),t166))=some (r1,r2):=H
    have A13:=am A130
    clear A130
    obtain ⟨y167,hy167⟩:∃ y_:List (S36),y_=(([(⟨a2,1,t165,0⟩:S36)]:List (S36))):=⟨_,rfl⟩
    replace H:(some (y167,t166))=some (r1,r2):=by first |(rw [hy167];with_reducible exact H) |(have H2_:=(Option.bind_some _ _).symm.trans H;rw [hy167];with_reducible exact H2_) |(have H2_:=(Option.bind_some _ _).symm.trans H;with_reducible exact H2_) | with_reducible exact H |(rw [hy167];exact H) | exact H
    have Ny167:=am hy167
    clear hy167
    simp only [Option.some.injEq,Prod.mk.injEq] at H
    obtain ⟨rfl,rfl⟩:=H
    go_wp2_with (first |((with_reducible refine jJ (N:=10) rfl ?_);refine bE (N:=10) (cs:=#[.int .i64 0, .int .i64 0, .int .i64 0, .int .i64 0]) (t:=36) ?_;intro gb161 hg w14 hbox hb;have BK161:=am (hbox);have GW161:=am ((Y57:w.heap.size≤gb161));have GE161:=am ((Nat.le_trans HW0.out (Y57:w.heap.size≤gb161):w0.heap.size≤gb161));have NB156_161:=am ((Y89:gb156≠gb161));have NB161_156:=am ((Y90:gb161≠gb156));have NB0_161:=am ((Y91:g≠gb161));have NB161_0:=am ((Y92:gb161≠g));replace BK156:=am (jk (g:=gb156) (o:=.cells #[.slice A1_0 l1_0.length c1_0] 25 (0,0)) (kq BK156.out) hb);replace HK:=am (jb.trans (Y56) (jb.of_below hb g none) (.inl rfl));replace HB:=am (je (Y55) hb);replace HI0:=am (jf.below (Y54) hb);clear hb hbox hg;have hnb15:=NB161_156.out;have hnc15:=NB156_161.out;have hnb16:=NB161_0.out;have hnc16:=NB0_161.out;have hcz17_0:=bc0 BK161.out;have hcz17_1:=bc1 BK161.out;have hcz17_2:=bc2 BK161.out;have hcz17_3:=bc3 BK161.out;have hfz17_0:=ja BK161.out 0;have hfz17_1:=ja BK161.out 1;have hfz17_2:=ja BK161.out 2;have hfz17_3:=ja BK161.out 3) |((with_reducible refine jJ (N:=29) rfl ?_);refine Kd.jfc (Kd.int .i64) _ 3 ?hg (N:=29) ?hd (xs:=([1,2,3,4,5]:List Int)) (inner:=[.int .i64 1, .int .i64 2, .int .i64 3, .int .i64 4, .int .i64 5]) (ok:=fun _=>True) (okp:=fun _=>True) ?hr ?hp (fun _ hk=>hk) trivial (Below.refl _ _) (Nat.le_refl _) (by simp) ?_;(case hd=>rfl);(case hg=>rfl);(case hr=>exact Y5);(case hp=>exact (Reps.one (show Kd.M (Kd.int .i64) _ _ _ 1 [.int .i64 1] from rfl) (Reps.one (show Kd.M (Kd.int .i64) _ _ _ 2 [.int .i64 2] from rfl) (Reps.one (show Kd.M (Kd.int .i64) _ _ _ 3 [.int .i64 3] from rfl) (Reps.one (show Kd.M (Kd.int .i64) _ _ _ 4 [.int .i64 4] from rfl) (Reps.one (show Kd.M (Kd.int .i64) _ _ _ 5 [.int .i64 5] from rfl) (Reps.none _ _)))))));intro v163 w18 ho19 hb hg_ hnew_;clear hg_ hnew_;(first | rw [← Ny162.out] at ho19 |(simp only [Int.reduceToNat] at ho19;rw [← Ny162.out] at ho19));have HO164:=am (Kd.jaa ho19 (jN (w:=w) (g:=g) (row:=none) (Y1)));replace BK156:=am (jk (g:=gb156) (o:=.cells #[.slice A1_0 l1_0.length c1_0] 25 (0,0)) (Y103) hb);replace BK161:=am (jk (g:=gb161) (o:=.cells #[.int .i64 a2, .int .i64 1, .int .i64 0, .int .i64 0] 36 (0,0)) (Y93) hb);replace HK:=am (jb.trans (Y1) (jb.of_below hb g none) (.inl rfl));replace HB:=am (je (Y8) hb);replace HI0:=am (jf.below (show jf w0 (((((w14.setCell ⟨gb161,0,none⟩ (.int .i64 a2)).setCell ⟨gb161,1,none⟩ (.int .i64 0)).setCell ⟨gb161,2,none⟩ (.int .i64 0)).setCell ⟨gb161,3,none⟩ (.int .i64 0)).setCell ⟨gb161,1,none⟩ (.int .i64 1)) g s0_0 x1001_5 from Y4) hb);clear hb ho19;obtain ⟨Ao20,co20,eo20⟩:=Kd.jka HO164.out;subst eo20) |((with_reducible refine jd (f:=58) rfl ?_);refine gL (some 30) Try.func58 #[.pointer (some ⟨g,0,none⟩), .slice Ao20 y162.length co20] ?_;(with_reducible refine (jh.calls kj5 g s0_0 x1001_5 _ _ y162 t165 t166 w0 _ ?side1 ?side2 ?side3 ?side4 ?side5 A13.out).mono ?_);(case side1=>exact Y4);(case side2=>exact Y8);(case side3=>exact cq (Kd.jy HO164.out).2.2);(case side4=>exact (Kd.jy HO164.out).2.1);(case side5=>exact jzb (jf.own_ne HI0.out HO164.out (by decide)));rintro e w21 ⟨rfl,hi,hb,hk⟩;refine ⟨_,rfl,?_⟩;replace BK156:=am (jb.blk hk (g':=gb156) (o:=.cells #[.slice A1_0 l1_0.length c1_0] 25 (0,0)) (kq BK156.out) NB156_0.out (by simp));replace BK161:=am (jb.blk hk (g':=gb161) (o:=.cells #[.int .i64 a2, .int .i64 1, .int .i64 0, .int .i64 0] 36 (0,0)) (kq BK161.out) NB161_0.out (by simp));replace HO164:=am (Kd.jI (Kd.jxa (jf.apart (show jf w0 _ g s0_0 x1001_5 from Y4) (rq HO164.out) (by decide)) hk (fun _ h=>h.2)) (fun _ h=>h.1));replace HK:=am (jb.trans (Y1) hk (.inl rfl));replace HB:=am (hb);replace HI0:=am (hi);(try clear hb);(try clear hb2);(try clear hk);(try clear hi);have hcz22_0:=bc0 BK161.out;have hcz22_1:=bc1 BK161.out;have hcz22_2:=bc2 BK161.out;have hcz22_3:=bc3 BK161.out;have hfz22_0:=ja BK161.out 0;have hfz22_1:=ja BK161.out 1;have hfz22_2:=ja BK161.out 2;have hfz22_3:=ja BK161.out 3) |((with_reducible refine jJ (N:=108) rfl ?_);refine Kd.jfc k36 _ 36 ?hg (N:=108) ?hd (xs:=([(⟨a2,1,t165,0⟩:S36)]:List (S36))) (inner:=[.int .i64 a2, .int .i64 1, .int .i64 t165, .int .i64 0]) (ok:=fun _=>True) (okp:=fun _=>True) ?hr ?hp (fun _ hk=>hk) trivial (Below.refl _ _) (Nat.le_refl _) (by simp) ?_;(case hd=>rfl);(case hg=>rfl);(case hr=>exact Y5);(case hp=>exact (Reps.c4 (show Kd.M k36 _ _ _ (⟨a2,1,t165,0⟩:S36) [.int .i64 a2, .int .i64 1, .int .i64 t165, .int .i64 0] from (jNb _ _ _ (⟨a2,1,t165,0⟩:S36) )) (Reps.none _ _)));intro v168 w23 ho24 hb hg_ hnew_;clear hg_ hnew_;(first | rw [← Ny167.out] at ho24 |(simp only [Int.reduceToNat] at ho24;rw [← Ny167.out] at ho24));have HO169:=am (Kd.jaa (Kd.jEc ho24 (g:=gb161) (o:=.cells #[.int .i64 a2, .int .i64 1, .int .i64 t165, .int .i64 0] 36 (0,0)) (Y112)) (jN (w:=w) (g:=g) (row:=none) (Y1)));replace HO164:=am (Kd.jZ (by (with_reducible repeat (first | apply Kd.jga | apply Kd.jfa | apply Kd.jea));exact (Kd.jI (Kd.jQb (p:=⟨gb161,2,none⟩) (Kd.jQa HO164.out BK161.out (by decide)) (fun _ hk=>hk.2) (.int .i64 t165)) (fun _ h_=>h_.1))) hb);replace BK156:=am (jk (g:=gb156) (o:=.cells #[.slice A1_0 l1_0.length c1_0] 25 (0,0)) (Y46) hb);replace BK161:=am (jk (g:=gb161) (o:=.cells #[.int .i64 a2, .int .i64 1, .int .i64 t165, .int .i64 0] 36 (0,0)) (Y112) hb);replace HK:=am (jb.trans (Y1) (jb.of_below hb g none) (.inl rfl));replace HB:=am (je (Y8) hb);replace HI0:=am (jf.below (show jf w0 (w21.setCell ⟨gb161,2,none⟩ (.int .i64 t165)) g s0_0 t166 from Y4) hb);clear hb ho24))
    go_ret
    exact ⟨_,Y0,by (with_reducible repeat (first | apply Kd.jga | apply Kd.jfa | apply Kd.jea));exact Kd.jI HO169.out (fun _ hk=>trivial),Y4,Y8,Y1⟩
   ·rw [if_neg c12] at H
    have c12b0:decide (x9_5<4)=false:=dzF c12
    clear c12
    by_cases c25:x9_5<6
    ·rw [if_pos c25] at H
     have c25b0:decide (x9_5<6)=true:=dzT c25
     clear c25
     replace H:=bzS H
     obtain ⟨⟨t170,t171⟩,A260,H⟩:=H
     replace H:((jh.f kj5 s0_0 t171 (([1,2,3]:List Int))).bind fun bt175=>(some ((([(⟨a2,2,t170,bt175.1⟩:S36)]:List (S36))),bt175.2)))=some (r1,r2):=H
     have A26:=am A260
     clear A260
     obtain ⟨y172,hy172⟩:∃ y_:List Int,y_=(([1,2,3]:List Int)):=⟨_,rfl⟩
     replace H:((jh.f kj5 s0_0 t171 y172).bind fun bt175=>(some ((([(⟨a2,2,t170,bt175.1⟩:S36)]:List (S36))),bt175.2)))=some (r1,r2):=by first |(rw [hy172];with_reducible exact H) |(have H2_:=(Option.bind_some _ _).symm.trans H;rw [hy172];with_reducible exact H2_) |(have H2_:=(Option.bind_some _ _).symm.trans H;with_reducible exact H2_) | with_reducible exact H |(rw [hy172];exact H) | exact H
     have Ny172:=am hy172
     clear hy172
     replace H:=bzS H
     obtain ⟨⟨t175,t176⟩,A270,H⟩:=H
     replace H:(some ((([(⟨a2,2,t170,t175⟩:S36)]:List (S36))),t176))=some (r1,r2):=H
     have A27:=am A270
     clear A270
     obtain ⟨y177,hy177⟩:∃ y_:List (S36),y_=(([(⟨a2,2,t170,t175⟩:S36)]:List (S36))):=⟨_,rfl⟩
     replace H:(some (y177,t176))=some (r1,r2):=by first |(rw [hy177];with_reducible exact H) |(have H2_:=(Option.bind_some _ _).symm.trans H;rw [hy177];with_reducible exact H2_) |(have H2_:=(Option.bind_some _ _).symm.trans H;with_reducible exact H2_) | with_reducible exact H |(rw [hy177];exact H) | exact H
     have Ny177:=am hy177
     clear hy177
     simp only [Option.some.injEq,Prod.mk.injEq] at H
     obtain ⟨rfl,rfl⟩:=H
     go_wp2_with (first |((with_reducible refine jJ (N:=10) rfl ?_);refine bE (N:=10) (cs:=#[.int .i64 0, .int .i64 0, .int .i64 0, .int .i64 0]) (t:=36) ?_;intro gb161 hg w28 hbox hb;have BK161:=am (hbox);have GW161:=am ((Y57:w.heap.size≤gb161));have GE161:=am ((Nat.le_trans HW0.out (Y57:w.heap.size≤gb161):w0.heap.size≤gb161));have NB156_161:=am ((Y89:gb156≠gb161));have NB161_156:=am ((Y90:gb161≠gb156));have NB0_161:=am ((Y91:g≠gb161));have NB161_0:=am ((Y92:gb161≠g));replace BK156:=am (jk (g:=gb156) (o:=.cells #[.slice A1_0 l1_0.length c1_0] 25 (0,0)) (kq BK156.out) hb);replace HK:=am (jb.trans (Y56) (jb.of_below hb g none) (.inl rfl));replace HB:=am (je (Y55) hb);replace HI0:=am (jf.below (Y54) hb);clear hb hbox hg;have hnb29:=NB161_156.out;have hnc29:=NB156_161.out;have hnb30:=NB161_0.out;have hnc30:=NB0_161.out;have hcz31_0:=bc0 BK161.out;have hcz31_1:=bc1 BK161.out;have hcz31_2:=bc2 BK161.out;have hcz31_3:=bc3 BK161.out;have hfz31_0:=ja BK161.out 0;have hfz31_1:=ja BK161.out 1;have hfz31_2:=ja BK161.out 2;have hfz31_3:=ja BK161.out 3;have hnb32:=NB156_0.out;have hnc32:=NB0_156.out;have hcz33_0:=bc0 BK156.out;have hfz33_0:=ja BK156.out 0) |((with_reducible refine jd (f:=42) rfl ?_);refine gL (some 40) Try.func42 #[.pointer (some ⟨g,0,none⟩), .int .i64 (l1_0.length:Int)] ?_;(with_reducible refine (jg.calls kj5 g s0_0 x1001_5 (l1_0.length:Int) t170 t171 w0 _ ?side1 ?side2 A26.out).mono ?_);(case side1=>exact Y4);(case side2=>exact Y8);rintro e w34 ⟨rfl,hi,hb,hk⟩;refine ⟨_,rfl,?_⟩;replace BK156:=am (jb.blk hk (g':=gb156) (o:=.cells #[.slice A1_0 l1_0.length c1_0] 25 (0,0)) (Y103) NB156_0.out (by simp));replace BK161:=am (jb.blk hk (g':=gb161) (o:=.cells #[.int .i64 a2, .int .i64 2, .int .i64 0, .int .i64 0] 36 (0,0)) (Y93) NB161_0.out (by simp));replace HK:=am (jb.trans (Y1) hk (.inl rfl));replace HB:=am (hb);replace HI0:=am (hi);(try clear hb);(try clear hb2);(try clear hk);(try clear hi);have hcz35_0:=bc0 BK161.out;have hcz35_1:=bc1 BK161.out;have hcz35_2:=bc2 BK161.out;have hcz35_3:=bc3 BK161.out;have hfz35_0:=ja BK161.out 0;have hfz35_1:=ja BK161.out 1;have hfz35_2:=ja BK161.out 2;have hfz35_3:=ja BK161.out 3) |((with_reducible refine jJ (N:=43) rfl ?_);refine Kd.jfc (Kd.int .i64) _ 3 ?hg (N:=43) ?hd (xs:=([1,2,3]:List Int)) (inner:=[.int .i64 1, .int .i64 2, .int .i64 3]) (ok:=fun _=>True) (okp:=fun _=>True) ?hr ?hp (fun _ hk=>hk) trivial (Below.refl _ _) (Nat.le_refl _) (by simp) ?_;(case hd=>rfl);(case hg=>rfl);(case hr=>exact Y5);(case hp=>exact (Reps.one (show Kd.M (Kd.int .i64) _ _ _ 1 [.int .i64 1] from rfl) (Reps.one (show Kd.M (Kd.int .i64) _ _ _ 2 [.int .i64 2] from rfl) (Reps.one (show Kd.M (Kd.int .i64) _ _ _ 3 [.int .i64 3] from rfl) (Reps.none _ _)))));intro v173 w36 ho37 hb hg_ hnew_;clear hg_ hnew_;(first | rw [← Ny172.out] at ho37 |(simp only [Int.reduceToNat] at ho37;rw [← Ny172.out] at ho37));have HO174:=am (Kd.jaa ho37 (jN (w:=w) (g:=g) (row:=none) (Y1)));replace BK156:=am (jk (g:=gb156) (o:=.cells #[.slice A1_0 l1_0.length c1_0] 25 (0,0)) (Y46) hb);replace BK161:=am (jk (g:=gb161) (o:=.cells #[.int .i64 a2, .int .i64 2, .int .i64 t170, .int .i64 0] 36 (0,0)) (by (with_reducible repeat (first | refine jr ?_ _ | refine jw ?_ | refine jA ?_ _));refine jab (cs:=#[.int .i64 a2, .int .i64 2, .int .i64 0, .int .i64 0]) ?_ 2 _ rfl;(with_reducible repeat (first | refine jr ?_ _ | refine jw ?_ | refine jA ?_ _));exact BK161.out) hb);replace HK:=am (jb.trans (Y1) (jb.of_below hb g none) (.inl rfl));replace HB:=am (je (Y8) hb);replace HI0:=am (jf.below (show jf w0 (w34.setCell ⟨gb161,2,none⟩ (.int .i64 t170)) g s0_0 t171 from Y4) hb);clear hb ho37;obtain ⟨Ao38,co38,eo38⟩:=Kd.jka HO174.out;subst eo38) |((with_reducible refine jd (f:=58) rfl ?_);refine gL (some 44) Try.func58 #[.pointer (some ⟨g,0,none⟩), .slice Ao38 y172.length co38] ?_;(with_reducible refine (jh.calls kj5 g s0_0 t171 _ _ y172 t175 t176 w0 _ ?side1 ?side2 ?side3 ?side4 ?side5 A27.out).mono ?_);(case side1=>exact Y4);(case side2=>exact Y8);(case side3=>exact cq (Kd.jy HO174.out).2.2);(case side4=>exact (Kd.jy HO174.out).2.1);(case side5=>exact jzb (jf.own_ne HI0.out HO174.out (by decide)));rintro e w39 ⟨rfl,hi,hb,hk⟩;refine ⟨_,rfl,?_⟩;replace BK156:=am (jb.blk hk (g':=gb156) (o:=.cells #[.slice A1_0 l1_0.length c1_0] 25 (0,0)) (kq BK156.out) NB156_0.out (by simp));replace BK161:=am (jb.blk hk (g':=gb161) (o:=.cells #[.int .i64 a2, .int .i64 2, .int .i64 t170, .int .i64 0] 36 (0,0)) (kq BK161.out) NB161_0.out (by simp));replace HO174:=am (Kd.jI (Kd.jxa (jf.apart (show jf w0 _ g s0_0 t171 from Y4) (rq HO174.out) (by decide)) hk (fun _ h=>h.2)) (fun _ h=>h.1));replace HK:=am (jb.trans (Y1) hk (.inl rfl));replace HB:=am (hb);replace HI0:=am (hi);(try clear hb);(try clear hb2);(try clear hk);(try clear hi);have hcz40_0:=bc0 BK161.out;have hcz40_1:=bc1 BK161.out;have hcz40_2:=bc2 BK161.out;have hcz40_3:=bc3 BK161.out;have hfz40_0:=ja BK161.out 0;have hfz40_1:=ja BK161.out 1;have hfz40_2:=ja BK161.out 2;have hfz40_3:=ja BK161.out 3) |((with_reducible refine jJ (N:=108) rfl ?_);refine Kd.jfc k36 _ 36 ?hg (N:=108) ?hd (xs:=([(⟨a2,2,t170,t175⟩:S36)]:List (S36))) (inner:=[.int .i64 a2, .int .i64 2, .int .i64 t170, .int .i64 t175]) (ok:=fun _=>True) (okp:=fun _=>True) ?hr ?hp (fun _ hk=>hk) trivial (Below.refl _ _) (Nat.le_refl _) (by simp) ?_;(case hd=>rfl);(case hg=>rfl);(case hr=>exact Y5);(case hp=>exact (Reps.c4 (show Kd.M k36 _ _ _ (⟨a2,2,t170,t175⟩:S36) [.int .i64 a2, .int .i64 2, .int .i64 t170, .int .i64 t175] from (jNb _ _ _ (⟨a2,2,t170,t175⟩:S36) )) (Reps.none _ _)));intro v178 w41 ho42 hb hg_ hnew_;clear hg_ hnew_;(first | rw [← Ny177.out] at ho42 |(simp only [Int.reduceToNat] at ho42;rw [← Ny177.out] at ho42));have HO179:=am (Kd.jaa (Kd.jEc ho42 (g:=gb161) (o:=.cells #[.int .i64 a2, .int .i64 2, .int .i64 t170, .int .i64 t175] 36 (0,0)) (Y113)) (jN (w:=w) (g:=g) (row:=none) (Y1)));replace HO174:=am (Kd.jZ (by (with_reducible repeat (first | apply Kd.jga | apply Kd.jfa | apply Kd.jea));exact (Kd.jI (Kd.jQb (p:=⟨gb161,3,none⟩) (Kd.jQa HO174.out BK161.out (by decide)) (fun _ hk=>hk.2) (.int .i64 t175)) (fun _ h_=>h_.1))) hb);replace BK156:=am (jk (g:=gb156) (o:=.cells #[.slice A1_0 l1_0.length c1_0] 25 (0,0)) (Y46) hb);replace BK161:=am (jk (g:=gb161) (o:=.cells #[.int .i64 a2, .int .i64 2, .int .i64 t170, .int .i64 t175] 36 (0,0)) (Y113) hb);replace HK:=am (jb.trans (Y1) (jb.of_below hb g none) (.inl rfl));replace HB:=am (je (Y8) hb);replace HI0:=am (jf.below (show jf w0 (w39.setCell ⟨gb161,3,none⟩ (.int .i64 t175)) g s0_0 t176 from Y4) hb);clear hb ho42))
     go_ret
     exact ⟨_,Y0,by (with_reducible repeat (first | apply Kd.jga | apply Kd.jfa | apply Kd.jea));exact Kd.jI HO179.out (fun _ hk=>trivial),Y4,Y8,Y1⟩
    ·rw [if_neg c25] at H
     have c25b0:decide (x9_5<6)=false:=dzF c25
     clear c25
     by_cases c43:x9_5=6
     ·rw [if_pos c43] at H
      have c43b0:(x9_5 == 6)=true:=beq_iff_eq.mpr c43
      have c43b1:(x9_5 != 6)=false:=bne_eq_false_iff_eq.mpr c43
      clear c43
      obtain ⟨y180,hy180⟩:∃ y_:List (S36),y_=(([(⟨a2,3,0,0⟩:S36)]:List (S36))):=⟨_,rfl⟩
      replace H:(some (y180,x1001_5))=some (r1,r2):=by first |(rw [hy180];with_reducible exact H) |(have H2_:=(Option.bind_some _ _).symm.trans H;rw [hy180];with_reducible exact H2_) |(have H2_:=(Option.bind_some _ _).symm.trans H;with_reducible exact H2_) | with_reducible exact H |(rw [hy180];exact H) | exact H
      have Ny180:=am hy180
      clear hy180
      simp only [Option.some.injEq,Prod.mk.injEq] at H
      obtain ⟨rfl,rfl⟩:=H
      go_wp2_with (first |((with_reducible refine jJ (N:=10) rfl ?_);refine bE (N:=10) (cs:=#[.int .i64 0, .int .i64 0, .int .i64 0, .int .i64 0]) (t:=36) ?_;intro gb161 hg w44 hbox hb;have BK161:=am (hbox);have GW161:=am ((Y57:w.heap.size≤gb161));have GE161:=am ((Nat.le_trans HW0.out (Y57:w.heap.size≤gb161):w0.heap.size≤gb161));have NB156_161:=am ((Y89:gb156≠gb161));have NB161_156:=am ((Y90:gb161≠gb156));have NB0_161:=am ((Y91:g≠gb161));have NB161_0:=am ((Y92:gb161≠g));replace BK156:=am (jk (g:=gb156) (o:=.cells #[.slice A1_0 l1_0.length c1_0] 25 (0,0)) (kq BK156.out) hb);replace HK:=am (jb.trans (Y56) (jb.of_below hb g none) (.inl rfl));replace HB:=am (je (Y55) hb);replace HI0:=am (jf.below (Y54) hb);clear hb hbox hg;have hnb45:=NB161_156.out;have hnc45:=NB156_161.out;have hnb46:=NB161_0.out;have hnc46:=NB0_161.out;have hcz47_0:=bc0 BK161.out;have hcz47_1:=bc1 BK161.out;have hcz47_2:=bc2 BK161.out;have hcz47_3:=bc3 BK161.out;have hfz47_0:=ja BK161.out 0;have hfz47_1:=ja BK161.out 1;have hfz47_2:=ja BK161.out 2;have hfz47_3:=ja BK161.out 3) |((with_reducible refine jJ (N:=108) rfl ?_);refine Kd.jfc k36 _ 36 ?hg (N:=108) ?hd (xs:=([(⟨a2,3,0,0⟩:S36)]:List (S36))) (inner:=[.int .i64 a2, .int .i64 3, .int .i64 0, .int .i64 0]) (ok:=fun _=>True) (okp:=fun _=>True) ?hr ?hp (fun _ hk=>hk) trivial (Below.refl _ _) (Nat.le_refl _) (by simp) ?_;(case hd=>rfl);(case hg=>rfl);(case hr=>exact Y5);(case hp=>exact (Reps.c4 (show Kd.M k36 _ _ _ (⟨a2,3,0,0⟩:S36) [.int .i64 a2, .int .i64 3, .int .i64 0, .int .i64 0] from (jNb _ _ _ (⟨a2,3,0,0⟩:S36) )) (Reps.none _ _)));intro v181 w48 ho49 hb hg_ hnew_;clear hg_ hnew_;(first | rw [← Ny180.out] at ho49 |(simp only [Int.reduceToNat] at ho49;rw [← Ny180.out] at ho49));have HO182:=am (Kd.jaa (Kd.jEc ho49 (g:=gb161) (o:=.cells #[.int .i64 a2, .int .i64 3, .int .i64 0, .int .i64 0] 36 (0,0)) (Y93)) (jN (w:=w) (g:=g) (row:=none) (Y1)));replace BK156:=am (jk (g:=gb156) (o:=.cells #[.slice A1_0 l1_0.length c1_0] 25 (0,0)) (Y103) hb);replace BK161:=am (jk (g:=gb161) (o:=.cells #[.int .i64 a2, .int .i64 3, .int .i64 0, .int .i64 0] 36 (0,0)) (Y93) hb);replace HK:=am (jb.trans (Y1) (jb.of_below hb g none) (.inl rfl));replace HB:=am (je (Y8) hb);replace HI0:=am (jf.below (show jf w0 (((((w44.setCell ⟨gb161,0,none⟩ (.int .i64 a2)).setCell ⟨gb161,1,none⟩ (.int .i64 0)).setCell ⟨gb161,2,none⟩ (.int .i64 0)).setCell ⟨gb161,3,none⟩ (.int .i64 0)).setCell ⟨gb161,1,none⟩ (.int .i64 3)) g s0_0 x1001_5 from Y4) hb);clear hb ho49))
      go_ret
      exact ⟨_,Y0,by (with_reducible repeat (first | apply Kd.jga | apply Kd.jfa | apply Kd.jea));exact Kd.jI HO182.out (fun _ hk=>trivial),Y4,Y8,Y1⟩
     ·rw [if_neg c43] at H
      have c43b0:(x9_5 == 6)=false:=beq_eq_false_iff_ne.mpr c43
      have c43b1:(x9_5 != 6)=true:=bne_iff_ne.mpr c43
      have HC50:=am H
      clear H
      go_upto_region 15 with (first |((with_reducible refine jJ (N:=10) rfl ?_);refine bE (N:=10) (cs:=#[.int .i64 0, .int .i64 0, .int .i64 0, .int .i64 0]) (t:=36) ?_;intro gb161 hg w51 hbox hb;have BK161:=am (hbox);have GW161:=am ((Y57:w.heap.size≤gb161));have GE161:=am ((Nat.le_trans HW0.out (Y57:w.heap.size≤gb161):w0.heap.size≤gb161));have NB156_161:=am ((Y89:gb156≠gb161));have NB161_156:=am ((Y90:gb161≠gb156));have NB0_161:=am ((Y91:g≠gb161));have NB161_0:=am ((Y92:gb161≠g));replace BK156:=am (jk (g:=gb156) (o:=.cells #[.slice A1_0 l1_0.length c1_0] 25 (0,0)) (kq BK156.out) hb);replace HK:=am (jb.trans (Y56) (jb.of_below hb g none) (.inl rfl));replace HB:=am (je (Y55) hb);replace HI0:=am (jf.below (Y54) hb);clear hb hbox hg;have hnb52:=NB161_156.out;have hnc52:=NB156_161.out;have hnb53:=NB161_0.out;have hnc53:=NB0_161.out;have hcz54_0:=bc0 BK161.out;have hcz54_1:=bc1 BK161.out;have hcz54_2:=bc2 BK161.out;have hcz54_3:=bc3 BK161.out;have hfz54_0:=ja BK161.out 0;have hfz54_1:=ja BK161.out 1;have hfz54_2:=ja BK161.out 2;have hfz54_3:=ja BK161.out 3))
      (try simp only [Act.put,List.setIfInBounds_toArray,List.set_cons_zero,List.set_cons_succ])
      go_cut [50] (fun v50 wc=>∃ (kq:Nat) (x50_49:Bool),v50=.bool x50_49∧jq (jB.j1 kq a2 a3 x9_5 x50_49 s0_0 x1001_5 l1_0 a2 0 0 0=some (r1,r2))∧jq (kq≤kj5)∧jq (wc.heap[gb156]?=some (.cells #[(.slice A1_0 l1_0.length c1_0)] 25 (0,0)))∧jq (wc.heap[gb161]?=some (.cells #[.int .i64 a2, .int .i64 0, .int .i64 0, .int .i64 0] 36 (0,0)))∧jq (jf w0 wc g s0_0 x1001_5)∧jq (jb w wc g none)∧jq (Below w0.heap.size w0 wc))
      case first =>
       have H:=HC50.out
       clear HC50
       by_cases c55:x9_5=7
       ·rw [if_pos c55] at H
        have c55b0:(x9_5 == 7)=true:=beq_iff_eq.mpr c55
        have c55b1:(x9_5 != 7)=false:=bne_eq_false_iff_eq.mpr c55
        clear c55
        (first | rw [c55b0] |(simp only [jkb,jmb];rw [c55b0]) | skip)
        have H':=am H
        clear H
        go_wp2
        go_meet
        case rel=>exact ⟨_,(a3),(sq),H',⟨by have:=HJ5.out;first | omega | exact Nat.le_refl _⟩,⟨by (with_reducible repeat (first | refine jr ?_ _ | refine jw ?_ | refine jA ?_ _));refine jnb ?_ NB156_161.out _;(with_reducible repeat (first | refine jr ?_ _ | refine jw ?_ | refine jA ?_ _));refine jnb ?_ NB156_161.out _;(with_reducible repeat (first | refine jr ?_ _ | refine jw ?_ | refine jA ?_ _));refine jnb ?_ NB156_161.out _;(with_reducible repeat (first | refine jr ?_ _ | refine jw ?_ | refine jA ?_ _));refine jnb ?_ NB156_161.out _;(with_reducible repeat (first | refine jr ?_ _ | refine jw ?_ | refine jA ?_ _));exact BK156.out⟩,⟨by (with_reducible repeat (first | refine jr ?_ _ | refine jw ?_ | refine jA ?_ _));refine jab (cs:=#[.int .i64 a2, .int .i64 0, .int .i64 0, .int .i64 0]) ?_ 3 _ rfl;(with_reducible repeat (first | refine jr ?_ _ | refine jw ?_ | refine jA ?_ _));refine jab (cs:=#[.int .i64 a2, .int .i64 0, .int .i64 0, .int .i64 0]) ?_ 2 _ rfl;(with_reducible repeat (first | refine jr ?_ _ | refine jw ?_ | refine jA ?_ _));refine jab (cs:=#[.int .i64 a2, .int .i64 0, .int .i64 0, .int .i64 0]) ?_ 1 _ rfl;(with_reducible repeat (first | refine jr ?_ _ | refine jw ?_ | refine jA ?_ _));refine jab (cs:=#[.int .i64 0, .int .i64 0, .int .i64 0, .int .i64 0]) ?_ 0 _ rfl;(with_reducible repeat (first | refine jr ?_ _ | refine jw ?_ | refine jA ?_ _));exact BK161.out⟩,⟨Y4⟩,⟨Y1⟩,⟨Y8⟩⟩
       ·rw [if_neg c55] at H
        have c55b0:(x9_5 == 7)=false:=beq_eq_false_iff_ne.mpr c55
        have c55b1:(x9_5 != 7)=true:=bne_iff_ne.mpr c55
        (first | rw [c55b0] |(simp only [jkb,jmb];rw [c55b0]) | skip)
        have H':=am H
        clear H
        go_wp2
        go_meet
        case rel=>exact ⟨_,(false),(sq),H',⟨by have:=HJ5.out;first | omega | exact Nat.le_refl _⟩,⟨by (with_reducible repeat (first | refine jr ?_ _ | refine jw ?_ | refine jA ?_ _));refine jnb ?_ NB156_161.out _;(with_reducible repeat (first | refine jr ?_ _ | refine jw ?_ | refine jA ?_ _));refine jnb ?_ NB156_161.out _;(with_reducible repeat (first | refine jr ?_ _ | refine jw ?_ | refine jA ?_ _));refine jnb ?_ NB156_161.out _;(with_reducible repeat (first | refine jr ?_ _ | refine jw ?_ | refine jA ?_ _));refine jnb ?_ NB156_161.out _;(with_reducible repeat (first | refine jr ?_ _ | refine jw ?_ | refine jA ?_ _));exact BK156.out⟩,⟨by (with_reducible repeat (first | refine jr ?_ _ | refine jw ?_ | refine jA ?_ _));refine jab (cs:=#[.int .i64 a2, .int .i64 0, .int .i64 0, .int .i64 0]) ?_ 3 _ rfl;(with_reducible repeat (first | refine jr ?_ _ | refine jw ?_ | refine jA ?_ _));refine jab (cs:=#[.int .i64 a2, .int .i64 0, .int .i64 0, .int .i64 0]) ?_ 2 _ rfl;(with_reducible repeat (first | refine jr ?_ _ | refine jw ?_ | refine jA ?_ _));refine jab (cs:=#[.int .i64 a2, .int .i64 0, .int .i64 0, .int .i64 0]) ?_ 1 _ rfl;(with_reducible repeat (first | refine jr ?_ _ | refine jw ?_ | refine jA ?_ _));refine jab (cs:=#[.int .i64 0, .int .i64 0, .int .i64 0, .int .i64 0]) ?_ 0 _ rfl;(with_reducible repeat (first | refine jr ?_ _ | refine jw ?_ | refine jA ?_ _));exact BK161.out⟩,⟨Y4⟩,⟨Y1⟩,⟨Y8⟩⟩
      case rest =>
       clear HC50
       try clear c1
       try clear c2
       try clear p2
       try clear c3
       try clear c4
       try clear c5
       try clear c9
       try clear c9b0
       try clear c10
       try clear c12
       try clear c12b0
       try clear c15
       try clear c16
       try clear c25
       try clear c25b0
       try clear c29
       try clear c30
       try clear c32
       try clear c42
       try clear c43
       try clear c43b0
       try clear c43b1
       try clear c45
       try clear c46
       try clear c52
       try clear c53
       try clear c55
       try clear c55b0
       try clear c55b1
       try clear hcz17_0
       try clear hcz17_1
       try clear hcz17_2
       try clear hcz17_3
       try clear hcz22_0
       try clear hcz22_1
       try clear hcz22_2
       try clear hcz22_3
       try clear hcz31_0
       try clear hcz31_1
       try clear hcz31_2
       try clear hcz31_3
       try clear hcz33_0
       try clear hcz35_0
       try clear hcz35_1
       try clear hcz35_2
       try clear hcz35_3
       try clear hcz40_0
       try clear hcz40_1
       try clear hcz40_2
       try clear hcz40_3
       try clear hcz47_0
       try clear hcz47_1
       try clear hcz47_2
       try clear hcz47_3
       try clear hcz54_0
       try clear hcz54_1
       try clear hcz54_2
       try clear hcz54_3
       try clear hfz17_0
       try clear hfz17_1
       try clear hfz17_2
       try clear hfz17_3
       try clear hfz22_0
       try clear hfz22_1
       try clear hfz22_2
       try clear hfz22_3
       try clear hfz31_0
       try clear hfz31_1
       try clear hfz31_2
       try clear hfz31_3
       try clear hfz33_0
       try clear hfz35_0
       try clear hfz35_1
       try clear hfz35_2
       try clear hfz35_3
       try clear hfz40_0
       try clear hfz40_1
       try clear hfz40_2
       try clear hfz40_3
       try clear hfz47_0
       try clear hfz47_1
       try clear hfz47_2
       try clear hfz47_3
       try clear hfz54_0
       try clear hfz54_1
       try clear hfz54_2
       try clear hfz54_3
       try clear p2
       obtain ⟨kq,x50_49,rfl,HA,HJ49,BK156,BK161,HI0,HK,HB⟩:=hcut
       cases kq with
       | zero=>exact absurd HA.out (by simp [jB.j1])
       | succ kj49 =>
        have H:=HA.out
        clear HA
        simp only [jB.j1] at H
        by_cases c56:x50_49=true
        ·subst c56
         have H1:((jh.f kj49 s0_0 x1001_5 (([5,6]:List Int))).bind fun bt186=>(some ((([(⟨a2,bt186.1,0,0⟩:S36)]:List (S36))),bt186.2)))=some (r1,r2):=by rw [if_pos rfl] at H;exact H
         clear H
         have H:=H1
         clear H1
         obtain ⟨y183,hy183⟩:∃ y_:List Int,y_=(([5,6]:List Int)):=⟨_,rfl⟩
         replace H:((jh.f kj49 s0_0 x1001_5 y183).bind fun bt186=>(some ((([(⟨a2,bt186.1,0,0⟩:S36)]:List (S36))),bt186.2)))=some (r1,r2):=by first |(rw [hy183];with_reducible exact H) |(have H2_:=(Option.bind_some _ _).symm.trans H;rw [hy183];with_reducible exact H2_) |(have H2_:=(Option.bind_some _ _).symm.trans H;with_reducible exact H2_) | with_reducible exact H |(rw [hy183];exact H) | exact H
         have Ny183:=am hy183
         clear hy183
         replace H:=bzS H
         obtain ⟨⟨t186,t187⟩,A570,H⟩:=H
         replace H:(some ((([(⟨a2,t186,0,0⟩:S36)]:List (S36))),t187))=some (r1,r2):=H
         have A57:=am A570
         clear A570
         obtain ⟨y188,hy188⟩:∃ y_:List (S36),y_=(([(⟨a2,t186,0,0⟩:S36)]:List (S36))):=⟨_,rfl⟩
         replace H:(some (y188,t187))=some (r1,r2):=by first |(rw [hy188];with_reducible exact H) |(have H2_:=(Option.bind_some _ _).symm.trans H;rw [hy188];with_reducible exact H2_) |(have H2_:=(Option.bind_some _ _).symm.trans H;with_reducible exact H2_) | with_reducible exact H |(rw [hy188];exact H) | exact H
         have Ny188:=am hy188
         clear hy188
         simp only [Option.some.injEq,Prod.mk.injEq] at H
         obtain ⟨rfl,rfl⟩:=H
         go_wp2_with (first |((with_reducible refine jJ (N:=57) rfl ?_);refine Kd.jfc (Kd.int .i64) _ 3 ?hg (N:=57) ?hd (xs:=([5,6]:List Int)) (inner:=[.int .i64 5, .int .i64 6]) (ok:=fun _=>True) (okp:=fun _=>True) ?hr ?hp (fun _ hk=>hk) trivial (Below.refl _ _) (Nat.le_refl _) (by simp) ?_;(case hd=>rfl);(case hg=>rfl);(case hr=>exact Y5);(case hp=>exact (Reps.one (show Kd.M (Kd.int .i64) _ _ _ 5 [.int .i64 5] from rfl) (Reps.one (show Kd.M (Kd.int .i64) _ _ _ 6 [.int .i64 6] from rfl) (Reps.none _ _))));intro v184 w58 ho59 hb hg_ hnew_;clear hg_ hnew_;(first | rw [← Ny183.out] at ho59 |(simp only [Int.reduceToNat] at ho59;rw [← Ny183.out] at ho59));have HO185:=am (Kd.jaa ho59 (jN (w:=w) (g:=g) (row:=none) (Y1)));replace BK156:=am (jk (g:=gb156) (o:=.cells #[.slice A1_0 l1_0.length c1_0] 25 (0,0)) (kq BK156.out) hb);replace BK161:=am (jk (g:=gb161) (o:=.cells #[.int .i64 a2, .int .i64 0, .int .i64 0, .int .i64 0] 36 (0,0)) (kq BK161.out) hb);replace HK:=am (jb.trans (Y1) (jb.of_below hb g none) (.inl rfl));replace HB:=am (je (Y8) hb);replace HI0:=am (jf.below (Y4) hb);clear hb ho59;obtain ⟨Ao60,co60,eo60⟩:=Kd.jka HO185.out;subst eo60) |((with_reducible refine jd (f:=58) rfl ?_);refine gL (some 58) Try.func58 #[.pointer (some ⟨g,0,none⟩), .slice Ao60 y183.length co60] ?_;(with_reducible refine (jh.calls kj49 g s0_0 x1001_5 _ _ y183 t186 t187 w0 _ ?side1 ?side2 ?side3 ?side4 ?side5 A57.out).mono ?_);(case side1=>exact Y4);(case side2=>exact Y8);(case side3=>exact cq (Kd.jy HO185.out).2.2);(case side4=>exact (Kd.jy HO185.out).2.1);(case side5=>exact jzb (jf.own_ne HI0.out HO185.out (by decide)));rintro e w61 ⟨rfl,hi,hb,hk⟩;refine ⟨_,rfl,?_⟩;replace BK156:=am (jb.blk hk (g':=gb156) (o:=.cells #[.slice A1_0 l1_0.length c1_0] 25 (0,0)) (kq BK156.out) NB156_0.out (by simp));replace BK161:=am (jb.blk hk (g':=gb161) (o:=.cells #[.int .i64 a2, .int .i64 0, .int .i64 0, .int .i64 0] 36 (0,0)) (kq BK161.out) NB161_0.out (by simp));replace HO185:=am (Kd.jI (Kd.jxa (jf.apart (show jf w0 _ g s0_0 x1001_5 from Y4) (rq HO185.out) (by decide)) hk (fun _ h=>h.2)) (fun _ h=>h.1));replace HK:=am (jb.trans (Y1) hk (.inl rfl));replace HB:=am (hb);replace HI0:=am (hi);(try clear hb);(try clear hb2);(try clear hk);(try clear hi);have hnb62:=NB161_156.out;have hnc62:=NB156_161.out;have hnb63:=NB161_0.out;have hnc63:=NB0_161.out;have hcz64_0:=bc0 BK161.out;have hcz64_1:=bc1 BK161.out;have hcz64_2:=bc2 BK161.out;have hcz64_3:=bc3 BK161.out;have hfz64_0:=ja BK161.out 0;have hfz64_1:=ja BK161.out 1;have hfz64_2:=ja BK161.out 2;have hfz64_3:=ja BK161.out 3) |((with_reducible refine jJ (N:=108) rfl ?_);refine Kd.jfc k36 _ 36 ?hg (N:=108) ?hd (xs:=([(⟨a2,t186,0,0⟩:S36)]:List (S36))) (inner:=[.int .i64 a2, .int .i64 t186, .int .i64 0, .int .i64 0]) (ok:=fun _=>True) (okp:=fun _=>True) ?hr ?hp (fun _ hk=>hk) trivial (Below.refl _ _) (Nat.le_refl _) (by simp) ?_;(case hd=>rfl);(case hg=>rfl);(case hr=>exact Y5);(case hp=>exact (Reps.c4 (show Kd.M k36 _ _ _ (⟨a2,t186,0,0⟩:S36) [.int .i64 a2, .int .i64 t186, .int .i64 0, .int .i64 0] from (jNb _ _ _ (⟨a2,t186,0,0⟩:S36) )) (Reps.none _ _)));intro v189 w65 ho66 hb hg_ hnew_;clear hg_ hnew_;(first | rw [← Ny188.out] at ho66 |(simp only [Int.reduceToNat] at ho66;rw [← Ny188.out] at ho66));have HO190:=am (Kd.jaa (Kd.jEc ho66 (g:=gb161) (o:=.cells #[.int .i64 a2, .int .i64 t186, .int .i64 0, .int .i64 0] 36 (0,0)) (Y63)) (jN (w:=w) (g:=g) (row:=none) (Y1)));replace HO185:=am (Kd.jZ (by (with_reducible repeat (first | apply Kd.jga | apply Kd.jfa | apply Kd.jea));exact (Kd.jI (Kd.jQb (p:=⟨gb161,1,none⟩) (Kd.jQa HO185.out BK161.out (by decide)) (fun _ hk=>hk.2) (.int .i64 t186)) (fun _ h_=>h_.1))) hb);replace BK156:=am (jk (g:=gb156) (o:=.cells #[.slice A1_0 l1_0.length c1_0] 25 (0,0)) (Y46) hb);replace BK161:=am (jk (g:=gb161) (o:=.cells #[.int .i64 a2, .int .i64 t186, .int .i64 0, .int .i64 0] 36 (0,0)) (Y63) hb);replace HK:=am (jb.trans (Y1) (jb.of_below hb g none) (.inl rfl));replace HB:=am (je (Y8) hb);replace HI0:=am (jf.below (show jf w0 (w61.setCell ⟨gb161,1,none⟩ (.int .i64 t186)) g s0_0 t187 from Y4) hb);clear hb ho66))
         go_ret
         exact ⟨_,Y0,by (with_reducible repeat (first | apply Kd.jga | apply Kd.jfa | apply Kd.jea));exact Kd.jI HO190.out (fun _ hk=>trivial),Y4,Y8,Y1⟩
        ·replace c56:=Bool.eq_false_iff.mpr c56
         subst c56
         have H1:(if x9_5=7 then ((jh.f kj49 s0_0 x1001_5 (([7,8]:List Int))).bind fun bt194=>(some ((([(⟨a2,4,bt194.1,0⟩:S36)]:List (S36))),bt194.2))) else (if x9_5=8 then (some ((([(⟨a2,0,0,0⟩:S36)]:List (S36))),x1001_5)) else (if x9_5<11 then ((jg.f kj49 s0_0 x1001_5 4).bind fun bt202=>((jg.f kj49 s0_0 bt202.2 2).bind fun bt204=>((some (([(⟨a2,11,bt202.1,bt204.1⟩:S36)]:List (S36)):List (S36))).bind fun y206=>((jO.f kj49 s0_0 bt204.2 l1_0 (wrap64 (a2+1)) a3).bind fun bt209=>(if y206.length+bt209.1.length<4398046511104 then (some ((y206 ++ bt209.1),bt209.2)) else (none)))))) else (if x9_5=11 then ((jh.f kj49 s0_0 x1001_5 (([2,1,3,0]:List Int))).bind fun bt219=>((some (([(⟨a2,12,bt219.1,0⟩:S36)]:List (S36)):List (S36))).bind fun y221=>((jO.f kj49 s0_0 bt219.2 l1_0 (wrap64 (a2+1)) true).bind fun bt224=>(if y221.length+bt224.1.length<4398046511104 then (some ((y221 ++ bt224.1),bt224.2)) else (none))))) else ((jV.f kj49 s0_0 x1001_5 l1_0 a2 a3).bind fun bt231=>(some (bt231.1,bt231.2)))))))=some (r1,r2):=by rw [if_neg (show ¬ (false=true) by decide)] at H;exact H
         clear H
         have H:=H1
         clear H1
         by_cases c67:x9_5=7
         ·rw [if_pos c67] at H
          have c67b0:(x9_5 == 7)=true:=beq_iff_eq.mpr c67
          have c67b1:(x9_5 != 7)=false:=bne_eq_false_iff_eq.mpr c67
          clear c67
          obtain ⟨y191,hy191⟩:∃ y_:List Int,y_=(([7,8]:List Int)):=⟨_,rfl⟩
          replace H:((jh.f kj49 s0_0 x1001_5 y191).bind fun bt194=>(some ((([(⟨a2,4,bt194.1,0⟩:S36)]:List (S36))),bt194.2)))=some (r1,r2):=by first |(rw [hy191];with_reducible exact H) |(have H2_:=(Option.bind_some _ _).symm.trans H;rw [hy191];with_reducible exact H2_) |(have H2_:=(Option.bind_some _ _).symm.trans H;with_reducible exact H2_) | with_reducible exact H |(rw [hy191];exact H) | exact H
          have Ny191:=am hy191
          clear hy191
          replace H:=bzS H
          obtain ⟨⟨t194,t195⟩,A680,H⟩:=H
          replace H:(some ((([(⟨a2,4,t194,0⟩:S36)]:List (S36))),t195))=some (r1,r2):=H
          have A68:=am A680
          clear A680
          obtain ⟨y196,hy196⟩:∃ y_:List (S36),y_=(([(⟨a2,4,t194,0⟩:S36)]:List (S36))):=⟨_,rfl⟩
          replace H:(some (y196,t195))=some (r1,r2):=by first |(rw [hy196];with_reducible exact H) |(have H2_:=(Option.bind_some _ _).symm.trans H;rw [hy196];with_reducible exact H2_) |(have H2_:=(Option.bind_some _ _).symm.trans H;with_reducible exact H2_) | with_reducible exact H |(rw [hy196];exact H) | exact H
          have Ny196:=am hy196
          clear hy196
          simp only [Option.some.injEq,Prod.mk.injEq] at H
          obtain ⟨rfl,rfl⟩:=H
          have hnb69:=NB161_156.out
          have hnc69:=NB156_161.out
          have hnb70:=NB161_0.out
          have hnc70:=NB0_161.out
          have hcz71_0:=bc0 BK161.out
          have hcz71_1:=bc1 BK161.out
          have hcz71_2:=bc2 BK161.out
          have hcz71_3:=bc3 BK161.out
          have hfz71_0:=ja BK161.out 0
          have hfz71_1:=ja BK161.out 1
          have hfz71_2:=ja BK161.out 2
          have hfz71_3:=ja BK161.out 3
          go_wp2_with (first |((with_reducible refine jJ (N:=65) rfl ?_);refine Kd.jfc (Kd.int .i64) _ 3 ?hg (N:=65) ?hd (xs:=([7,8]:List Int)) (inner:=[.int .i64 7, .int .i64 8]) (ok:=fun _=>True) (okp:=fun _=>True) ?hr ?hp (fun _ hk=>hk) trivial (Below.refl _ _) (Nat.le_refl _) (by simp) ?_;(case hd=>rfl);(case hg=>rfl);(case hr=>exact Y5);(case hp=>exact (Reps.one (show Kd.M (Kd.int .i64) _ _ _ 7 [.int .i64 7] from rfl) (Reps.one (show Kd.M (Kd.int .i64) _ _ _ 8 [.int .i64 8] from rfl) (Reps.none _ _))));intro v192 w72 ho73 hb hg_ hnew_;clear hg_ hnew_;(first | rw [← Ny191.out] at ho73 |(simp only [Int.reduceToNat] at ho73;rw [← Ny191.out] at ho73));have HO193:=am (Kd.jaa ho73 (jN (w:=w) (g:=g) (row:=none) (Y1)));replace BK156:=am (jk (g:=gb156) (o:=.cells #[.slice A1_0 l1_0.length c1_0] 25 (0,0)) (Y46) hb);replace BK161:=am (jk (g:=gb161) (o:=.cells #[.int .i64 a2, .int .i64 4, .int .i64 0, .int .i64 0] 36 (0,0)) (Y63) hb);replace HK:=am (jb.trans (Y1) (jb.of_below hb g none) (.inl rfl));replace HB:=am (je (Y8) hb);replace HI0:=am (jf.below (show jf w0 (wc.setCell ⟨gb161,1,none⟩ (.int .i64 4)) g s0_0 x1001_5 from Y4) hb);clear hb ho73;obtain ⟨Ao74,co74,eo74⟩:=Kd.jka HO193.out;subst eo74) |((with_reducible refine jd (f:=58) rfl ?_);refine gL (some 66) Try.func58 #[.pointer (some ⟨g,0,none⟩), .slice Ao74 y191.length co74] ?_;(with_reducible refine (jh.calls kj49 g s0_0 x1001_5 _ _ y191 t194 t195 w0 _ ?side1 ?side2 ?side3 ?side4 ?side5 A68.out).mono ?_);(case side1=>exact Y4);(case side2=>exact Y8);(case side3=>exact cq (Kd.jy HO193.out).2.2);(case side4=>exact (Kd.jy HO193.out).2.1);(case side5=>exact jzb (jf.own_ne HI0.out HO193.out (by decide)));rintro e w75 ⟨rfl,hi,hb,hk⟩;refine ⟨_,rfl,?_⟩;replace BK156:=am (jb.blk hk (g':=gb156) (o:=.cells #[.slice A1_0 l1_0.length c1_0] 25 (0,0)) (kq BK156.out) NB156_0.out (by simp));replace BK161:=am (jb.blk hk (g':=gb161) (o:=.cells #[.int .i64 a2, .int .i64 4, .int .i64 0, .int .i64 0] 36 (0,0)) (kq BK161.out) NB161_0.out (by simp));replace HO193:=am (Kd.jI (Kd.jxa (jf.apart (show jf w0 _ g s0_0 x1001_5 from Y4) (rq HO193.out) (by decide)) hk (fun _ h=>h.2)) (fun _ h=>h.1));replace HK:=am (jb.trans (Y1) hk (.inl rfl));replace HB:=am (hb);replace HI0:=am (hi);(try clear hb);(try clear hb2);(try clear hk);(try clear hi);have hcz76_0:=bc0 BK161.out;have hcz76_1:=bc1 BK161.out;have hcz76_2:=bc2 BK161.out;have hcz76_3:=bc3 BK161.out;have hfz76_0:=ja BK161.out 0;have hfz76_1:=ja BK161.out 1;have hfz76_2:=ja BK161.out 2;have hfz76_3:=ja BK161.out 3) |((with_reducible refine jJ (N:=108) rfl ?_);refine Kd.jfc k36 _ 36 ?hg (N:=108) ?hd (xs:=([(⟨a2,4,t194,0⟩:S36)]:List (S36))) (inner:=[.int .i64 a2, .int .i64 4, .int .i64 t194, .int .i64 0]) (ok:=fun _=>True) (okp:=fun _=>True) ?hr ?hp (fun _ hk=>hk) trivial (Below.refl _ _) (Nat.le_refl _) (by simp) ?_;(case hd=>rfl);(case hg=>rfl);(case hr=>exact Y5);(case hp=>exact (Reps.c4 (show Kd.M k36 _ _ _ (⟨a2,4,t194,0⟩:S36) [.int .i64 a2, .int .i64 4, .int .i64 t194, .int .i64 0] from (jNb _ _ _ (⟨a2,4,t194,0⟩:S36) )) (Reps.none _ _)));intro v197 w77 ho78 hb hg_ hnew_;clear hg_ hnew_;(first | rw [← Ny196.out] at ho78 |(simp only [Int.reduceToNat] at ho78;rw [← Ny196.out] at ho78));have HO198:=am (Kd.jaa (Kd.jEc ho78 (g:=gb161) (o:=.cells #[.int .i64 a2, .int .i64 4, .int .i64 t194, .int .i64 0] 36 (0,0)) (Y114)) (jN (w:=w) (g:=g) (row:=none) (Y1)));replace HO193:=am (Kd.jZ (by (with_reducible repeat (first | apply Kd.jga | apply Kd.jfa | apply Kd.jea));exact (Kd.jI (Kd.jQb (p:=⟨gb161,2,none⟩) (Kd.jQa HO193.out BK161.out (by decide)) (fun _ hk=>hk.2) (.int .i64 t194)) (fun _ h_=>h_.1))) hb);replace BK156:=am (jk (g:=gb156) (o:=.cells #[.slice A1_0 l1_0.length c1_0] 25 (0,0)) (Y46) hb);replace BK161:=am (jk (g:=gb161) (o:=.cells #[.int .i64 a2, .int .i64 4, .int .i64 t194, .int .i64 0] 36 (0,0)) (Y114) hb);replace HK:=am (jb.trans (Y1) (jb.of_below hb g none) (.inl rfl));replace HB:=am (je (Y8) hb);replace HI0:=am (jf.below (show jf w0 (w75.setCell ⟨gb161,2,none⟩ (.int .i64 t194)) g s0_0 t195 from Y4) hb);clear hb ho78))
          go_ret
          exact ⟨_,Y0,by (with_reducible repeat (first | apply Kd.jga | apply Kd.jfa | apply Kd.jea));exact Kd.jI HO198.out (fun _ hk=>trivial),Y4,Y8,Y1⟩
         ·rw [if_neg c67] at H
          have c67b0:(x9_5 == 7)=false:=beq_eq_false_iff_ne.mpr c67
          have c67b1:(x9_5 != 7)=true:=bne_iff_ne.mpr c67
          by_cases c79:x9_5=8
          ·rw [if_pos c79] at H
           have c79b0:(x9_5 == 8)=true:=beq_iff_eq.mpr c79
           have c79b1:(x9_5 != 8)=false:=bne_eq_false_iff_eq.mpr c79
           clear c79
           obtain ⟨y199,hy199⟩:∃ y_:List (S36),y_=(([(⟨a2,0,0,0⟩:S36)]:List (S36))):=⟨_,rfl⟩
           replace H:(some (y199,x1001_5))=some (r1,r2):=by first |(rw [hy199];with_reducible exact H) |(have H2_:=(Option.bind_some _ _).symm.trans H;rw [hy199];with_reducible exact H2_) |(have H2_:=(Option.bind_some _ _).symm.trans H;with_reducible exact H2_) | with_reducible exact H |(rw [hy199];exact H) | exact H
           have Ny199:=am hy199
           clear hy199
           simp only [Option.some.injEq,Prod.mk.injEq] at H
           obtain ⟨rfl,rfl⟩:=H
           have hnb80:=NB161_156.out
           have hnc80:=NB156_161.out
           have hnb81:=NB161_0.out
           have hnc81:=NB0_161.out
           have hcz82_0:=bc0 BK161.out
           have hcz82_1:=bc1 BK161.out
           have hcz82_2:=bc2 BK161.out
           have hcz82_3:=bc3 BK161.out
           have hfz82_0:=ja BK161.out 0
           have hfz82_1:=ja BK161.out 1
           have hfz82_2:=ja BK161.out 2
           have hfz82_3:=ja BK161.out 3
           go_wp2_with (first |((with_reducible refine jJ (N:=108) rfl ?_);refine Kd.jfc k36 _ 36 ?hg (N:=108) ?hd (xs:=([(⟨a2,0,0,0⟩:S36)]:List (S36))) (inner:=[.int .i64 a2, .int .i64 0, .int .i64 0, .int .i64 0]) (ok:=fun _=>True) (okp:=fun _=>True) ?hr ?hp (fun _ hk=>hk) trivial (Below.refl _ _) (Nat.le_refl _) (by simp) ?_;(case hd=>rfl);(case hg=>rfl);(case hr=>exact Y5);(case hp=>exact (Reps.c4 (show Kd.M k36 _ _ _ (⟨a2,0,0,0⟩:S36) [.int .i64 a2, .int .i64 0, .int .i64 0, .int .i64 0] from (jNb _ _ _ (⟨a2,0,0,0⟩:S36) )) (Reps.none _ _)));intro v200 w83 ho84 hb hg_ hnew_;clear hg_ hnew_;(first | rw [← Ny199.out] at ho84 |(simp only [Int.reduceToNat] at ho84;rw [← Ny199.out] at ho84));have HO201:=am (Kd.jaa (Kd.jEc ho84 (g:=gb161) (o:=.cells #[.int .i64 a2, .int .i64 0, .int .i64 0, .int .i64 0] 36 (0,0)) (Y63)) (jN (w:=w) (g:=g) (row:=none) (Y1)));replace BK156:=am (jk (g:=gb156) (o:=.cells #[.slice A1_0 l1_0.length c1_0] 25 (0,0)) (Y46) hb);replace BK161:=am (jk (g:=gb161) (o:=.cells #[.int .i64 a2, .int .i64 0, .int .i64 0, .int .i64 0] 36 (0,0)) (Y63) hb);replace HK:=am (jb.trans (Y1) (jb.of_below hb g none) (.inl rfl));replace HB:=am (je (Y8) hb);replace HI0:=am (jf.below (show jf w0 (wc.setCell ⟨gb161,1,none⟩ (.int .i64 0)) g s0_0 x1001_5 from Y4) hb);clear hb ho84))
           go_ret
           exact ⟨_,Y0,by (with_reducible repeat (first | apply Kd.jga | apply Kd.jfa | apply Kd.jea));exact Kd.jI HO201.out (fun _ hk=>trivial),Y4,Y8,Y1⟩
          ·rw [if_neg c79] at H
           have c79b0:(x9_5 == 8)=false:=beq_eq_false_iff_ne.mpr c79
           have c79b1:(x9_5 != 8)=true:=bne_iff_ne.mpr c79
           by_cases c85:x9_5<11
           ·rw [if_pos c85] at H
            have c85b0:decide (x9_5<11)=true:=dzT c85
            clear c85
            replace H:=bzS H
            obtain ⟨⟨t202,t203⟩,A860,H⟩:=H
            replace H:((jg.f kj49 s0_0 t203 2).bind fun bt204=>((some (([(⟨a2,11,t202,bt204.1⟩:S36)]:List (S36)):List (S36))).bind fun y206=>((jO.f kj49 s0_0 bt204.2 l1_0 (wrap64 (a2+1)) a3).bind fun bt209=>(if y206.length+bt209.1.length<4398046511104 then (some ((y206 ++ bt209.1),bt209.2)) else (none)))))=some (r1,r2):=H
            have A86:=am A860
            clear A860
            replace H:=bzS H
            obtain ⟨⟨t204,t205⟩,A870,H⟩:=H
            replace H:((some (([(⟨a2,11,t202,t204⟩:S36)]:List (S36)):List (S36))).bind fun y206=>((jO.f kj49 s0_0 t205 l1_0 (wrap64 (a2+1)) a3).bind fun bt209=>(if y206.length+bt209.1.length<4398046511104 then (some ((y206 ++ bt209.1),bt209.2)) else (none))))=some (r1,r2):=H
            have A87:=am A870
            clear A870
            obtain ⟨y206,hy206⟩:∃ y_:List (S36),y_=(([(⟨a2,11,t202,t204⟩:S36)]:List (S36))):=⟨_,rfl⟩
            replace H:((jO.f kj49 s0_0 t205 l1_0 (wrap64 (a2+1)) a3).bind fun bt209=>(if y206.length+bt209.1.length<4398046511104 then (some ((y206 ++ bt209.1),bt209.2)) else (none)))=some (r1,r2):=by first |(rw [hy206];with_reducible exact H) |(have H2_:=(Option.bind_some _ _).symm.trans H;rw [hy206];with_reducible exact H2_) |(have H2_:=(Option.bind_some _ _).symm.trans H;with_reducible exact H2_) | with_reducible exact H |(rw [hy206];exact H) | exact H
            have Ny206:=am hy206
            clear hy206
            replace H:=bzS H
            obtain ⟨⟨t209,t212⟩,A880,H⟩:=H
            replace H:(if y206.length+t209.length<4398046511104 then (some ((y206 ++ t209),t212)) else (none))=some (r1,r2):=H
            have A88:=am A880
            clear A880
            by_cases c89:y206.length+t209.length<4398046511104
            ·rw [if_pos c89] at H
             have LMc89:=am c89
             clear c89
             obtain ⟨y213,hy213⟩:∃ y_:List (S36),y_=(y206 ++ t209):=⟨_,rfl⟩
             replace H:(some (y213,t212))=some (r1,r2):=by first |(rw [hy213];with_reducible exact H) |(have H2_:=(Option.bind_some _ _).symm.trans H;rw [hy213];with_reducible exact H2_) |(have H2_:=(Option.bind_some _ _).symm.trans H;with_reducible exact H2_) | with_reducible exact H |(rw [hy213];exact H) | exact H
             have Ny213:=am hy213
             clear hy213
             simp only [Option.some.injEq,Prod.mk.injEq] at H
             obtain ⟨rfl,rfl⟩:=H
             have hnb90:=NB161_156.out
             have hnc90:=NB156_161.out
             have hnb91:=NB161_0.out
             have hnc91:=NB0_161.out
             have hcz92_0:=bc0 BK161.out
             have hcz92_1:=bc1 BK161.out
             have hcz92_2:=bc2 BK161.out
             have hcz92_3:=bc3 BK161.out
             have hfz92_0:=ja BK161.out 0
             have hfz92_1:=ja BK161.out 1
             have hfz92_2:=ja BK161.out 2
             have hfz92_3:=ja BK161.out 3
             try go_wp2_with (first |((with_reducible refine jd (f:=42) rfl ?_);refine gL (some 77) Try.func42 #[.pointer (some ⟨g,0,none⟩), .int .i64 4] ?_;(with_reducible refine (jg.calls kj49 g s0_0 x1001_5 4 t202 t203 w0 _ ?side1 ?side2 A86.out).mono ?_);(case side1=>exact Y4);(case side2=>exact Y8);rintro e w93 ⟨rfl,hi,hb,hk⟩;refine ⟨_,rfl,?_⟩;replace BK156:=am (jb.blk hk (g':=gb156) (o:=.cells #[.slice A1_0 l1_0.length c1_0] 25 (0,0)) (Y46) NB156_0.out (by simp));replace BK161:=am (jb.blk hk (g':=gb161) (o:=.cells #[.int .i64 a2, .int .i64 11, .int .i64 0, .int .i64 0] 36 (0,0)) (Y63) NB161_0.out (by simp));replace HK:=am (jb.trans (Y1) hk (.inl rfl));replace HB:=am (hb);replace HI0:=am (hi);(try clear hb);(try clear hb2);(try clear hk);(try clear hi);have hcz94_0:=bc0 BK161.out;have hcz94_1:=bc1 BK161.out;have hcz94_2:=bc2 BK161.out;have hcz94_3:=bc3 BK161.out;have hfz94_0:=ja BK161.out 0;have hfz94_1:=ja BK161.out 1;have hfz94_2:=ja BK161.out 2;have hfz94_3:=ja BK161.out 3) |((with_reducible refine jd (f:=42) rfl ?_);refine gL (some 80) Try.func42 #[.pointer (some ⟨g,0,none⟩), .int .i64 2] ?_;(with_reducible refine (jg.calls kj49 g s0_0 t203 2 t204 t205 w0 _ ?side1 ?side2 A87.out).mono ?_);(case side1=>exact Y4);(case side2=>exact Y8);rintro e w95 ⟨rfl,hi,hb,hk⟩;refine ⟨_,rfl,?_⟩;replace BK156:=am (jb.blk hk (g':=gb156) (o:=.cells #[.slice A1_0 l1_0.length c1_0] 25 (0,0)) (Y46) NB156_0.out (by simp));replace BK161:=am (jb.blk hk (g':=gb161) (o:=.cells #[.int .i64 a2, .int .i64 11, .int .i64 t202, .int .i64 0] 36 (0,0)) (by (with_reducible repeat (first | refine jr ?_ _ | refine jw ?_ | refine jA ?_ _));refine jab (cs:=#[.int .i64 a2, .int .i64 11, .int .i64 0, .int .i64 0]) ?_ 2 _ rfl;(with_reducible repeat (first | refine jr ?_ _ | refine jw ?_ | refine jA ?_ _));exact BK161.out) NB161_0.out (by simp));replace HK:=am (jb.trans (Y1) hk (.inl rfl));replace HB:=am (hb);replace HI0:=am (hi);(try clear hb);(try clear hb2);(try clear hk);(try clear hi);have hcz96_0:=bc0 BK161.out;have hcz96_1:=bc1 BK161.out;have hcz96_2:=bc2 BK161.out;have hcz96_3:=bc3 BK161.out;have hfz96_0:=ja BK161.out 0;have hfz96_1:=ja BK161.out 1;have hfz96_2:=ja BK161.out 2;have hfz96_3:=ja BK161.out 3))
             have n0_:jq ((w95.setCell ⟨gb161,3,none⟩ (.int .i64 t204)).heap[gb156]?=some (.cells #[.slice A1_0 l1_0.length c1_0] 25 (0,0))):=⟨by (with_reducible repeat (first | refine jr ?_ _ | refine jw ?_ | refine jA ?_ _));refine jnb ?_ NB156_161.out _;(with_reducible repeat (first | refine jr ?_ _ | refine jw ?_ | refine jA ?_ _));exact BK156.out⟩
             have n1_:jq ((w95.setCell ⟨gb161,3,none⟩ (.int .i64 t204)).heap[gb161]?=some (.cells #[.int .i64 a2, .int .i64 11, .int .i64 t202, .int .i64 t204] 36 (0,0))):=⟨by (with_reducible repeat (first | refine jr ?_ _ | refine jw ?_ | refine jA ?_ _));refine jab (cs:=#[.int .i64 a2, .int .i64 11, .int .i64 t202, .int .i64 0]) ?_ 3 _ rfl;(with_reducible repeat (first | refine jr ?_ _ | refine jw ?_ | refine jA ?_ _));exact BK161.out⟩
             have n2_:jq (jf w0 (w95.setCell ⟨gb161,3,none⟩ (.int .i64 t204)) g s0_0 t205):=⟨Y4⟩
             have n3_:jq (jb w (w95.setCell ⟨gb161,3,none⟩ (.int .i64 t204)) g none):=⟨Y1⟩
             have n4_:jq (Below w0.heap.size w0 (w95.setCell ⟨gb161,3,none⟩ (.int .i64 t204))):=⟨Y8⟩
             (try clear BK156)
             (try clear BK161)
             (try clear HI0)
             (try clear HK)
             (try clear HB)
             generalize (w95.setCell ⟨gb161,3,none⟩ (.int .i64 t204))=w97 at n0_ n1_ n2_ n3_ n4_ ⊢
             have BK156:=n0_
             have BK161:=n1_
             have HI0:=n2_
             have HK:=n3_
             have HB:=n4_
             clear n0_ n1_ n2_ n3_ n4_
             replace BK156:=am (jw BK156.out)
             replace BK161:=am (jw BK161.out)
             replace HI0:=am (jf.drew HI0.out)
             replace HK:=am (jNa HK.out)
             replace HB:=am (jE HB.out)
             refine jlc (n:=10) (S:=fun w'=>w'.cell? ⟨gb161,0,none⟩=some (.int .i64 a2)∧w'.cell? ⟨gb161,1,none⟩=some (.int .i64 11)∧w'.cell? ⟨gb161,2,none⟩=some (.int .i64 t202)∧w'.cell? ⟨gb161,3,none⟩=some (.int .i64 t204)∧w'.cell? ⟨gb156,0,none⟩=some (.slice A1_0 l1_0.length c1_0)) (ds:=[]) #[false,false,false,false,false,false,false,false,false,false] (by kernel_rfl) rfl rfl ⟨(jF BK161.out 0).trans rfl,(jF BK161.out 1).trans rfl,(jF BK161.out 2).trans rfl,(jF BK161.out 3).trans rfl,(jF BK156.out 0).trans rfl⟩ (fun hHeld=>?_);refine jqb jB.tab26 jB.bits26 (fun HT_ HW_=>?_)
             generalize w97.drew=w98 at BK156 BK161 HI0 HK HB hHeld ⊢
             refine pq (i:=2) (N:=some 84) #[false,false,true,false,false,false,false,false,false,false] ?_
             refine pq (i:=4) (N:=some 86) #[false,false,true,false,true,false,false,false,false,false] ?_
             refine pq (i:=5) (N:=some 87) #[false,false,true,false,true,true,false,false,false,false] ?_
             refine pq (i:=6) (N:=some 88) #[false,false,true,false,true,true,true,false,false,false] ?_
             refine jwb (i:=0) (N:=some 82) (v:=?_) (a':=?_) #[true,false,true,false,true,true,true,false,false,false] rfl rfl (jua HT_.out HW_.out (by kernel_rfl)) (fun _ _ _ h=>h) (Or.inl ⟨by rfl,?_⟩) hHeld ?_ ?_
             rotate_left
             ·rintro w' ⟨s0,s1,s2,s3,s4⟩
              go_simp
              with_reducible rfl
             rotate_left
             ·exact sa
             refine jwb (i:=3) (N:=some 85) (v:=?_) (a':=?_) #[true,false,true,true,true,true,true,false,false,false] rfl rfl (jua HT_.out HW_.out (by kernel_rfl)) (fun _ _ _ h=>h) (Or.inl ⟨by rfl,?_⟩) hHeld ?_ ?_
             rotate_left
             ·rintro w' ⟨s0,s1,s2,s3,s4⟩
              go_simp
              with_reducible rfl
             rotate_left
             ·exact sa
             refine join_ (σ:=Value × Value) 2 #[true,true,true,true,true,true,true,true,false,false] (fun s_=>[(83,s_.1),(89,s_.2)]) (fun s_ w'=>(w'.cell? ⟨gb161,0,none⟩=some (.int .i64 a2)∧w'.cell? ⟨gb161,1,none⟩=some (.int .i64 11)∧w'.cell? ⟨gb161,2,none⟩=some (.int .i64 t202)∧w'.cell? ⟨gb161,3,none⟩=some (.int .i64 t204)∧w'.cell? ⟨gb156,0,none⟩=some (.slice A1_0 l1_0.length c1_0))∧(Kd.R k36 36 w' w.heap.size (fun k_=>some k_≠(s_.2:Value).ownBlock∧k_≠gb161) s_.1 y206)∧(Kd.R k36 36 w' w.heap.size (fun k_=>some k_≠(s_.1:Value).ownBlock∧k_≠gb161) s_.2 t209)∧(w'.heap[gb156]?=some (.cells #[.slice A1_0 l1_0.length c1_0] 25 (0,0)))∧(w'.heap[gb161]?=some (.cells #[.int .i64 a2, .int .i64 11, .int .i64 t202, .int .i64 t204] 36 (0,0)))∧(jf w0 w' g s0_0 t212)∧(jb w w' g none)∧(Below w0.heap.size w0 w')) ?_ ?_
             rotate_left
             ·intro hCont
              refine two_ (i:=1) (j:=7) (Ni:=some 83) (Nj:=some 89) #[true,true,true,true,true,true,true,false,false,false] #[true,false,true,true,true,true,true,true,false,false] rfl rfl rfl rfl (two_of HT_.out (by kernel_rfl)) (by decide) (by decide) (fun K hK=>?_) (fun K hK=>?_)
              ·skip
               refine Kd.jpc k36 _ 36 ?hg (N:=83) ?hd (xs:=([(⟨a2,11,t202,t204⟩:S36)]:List (S36))) (inner:=[.int .i64 a2, .int .i64 11, .int .i64 t202, .int .i64 t204]) (ok:=fun _=>True) (okp:=fun _=>True) ?hr ?hp (fun _ hk=>hk) trivial (Below.refl _ _) (Nat.le_refl _) (by simp) ?_;(case hd=>rfl);(case hg=>rfl);(case hr=>exact Y5);(case hp=>exact (Reps.c4 (show Kd.M k36 _ _ _ (⟨a2,11,t202,t204⟩:S36) [.int .i64 a2, .int .i64 11, .int .i64 t202, .int .i64 t204] from (jNb _ _ _ (⟨a2,11,t202,t204⟩:S36) )) (Reps.none _ _)))
               intro v207 w99 ho100 hb hg_ hnew_
               clear hg_ hnew_
               (first | rw [← Ny206.out] at ho100 |(simp only [Int.reduceToNat] at ho100;rw [← Ny206.out] at ho100))
               have HO208:=am (Kd.jaa (Kd.jEc ho100 (g:=gb161) (o:=.cells #[.int .i64 a2, .int .i64 11, .int .i64 t202, .int .i64 t204] 36 (0,0)) (kq BK161.out)) (jN (w:=w) (g:=g) (row:=none) (Y1)))
               replace BK156:=am (jk (g:=gb156) (o:=.cells #[.slice A1_0 l1_0.length c1_0] 25 (0,0)) (kq BK156.out) hb)
               replace BK161:=am (jk (g:=gb161) (o:=.cells #[.int .i64 a2, .int .i64 11, .int .i64 t202, .int .i64 t204] 36 (0,0)) (kq BK161.out) hb)
               replace HK:=am (jb.trans (Y1) (jb.of_below hb g none) (.inl rfl))
               replace HB:=am (je (Y8) hb)
               replace HI0:=am (jf.below (Y4) hb)
               clear hb ho100
               refine hK.out _ _ ⟨(jF BK161.out 0).trans rfl,(jF BK161.out 1).trans rfl,(jF BK161.out 2).trans rfl,(jF BK161.out 3).trans rfl,(jF BK156.out 0).trans rfl⟩ (fun hHeld=>?_)
               clear hK K
               refine jWb (a':=?_) ?_ ?_
               rotate_left
               ·show Act.put _ (some 83) _=_
                simp only [Act.put,List.setIfInBounds_toArray,List.set_cons_zero,List.set_cons_succ,jkb,jmb]
                rfl
               refine one_ (i:=7) (N:=some 89) #[true,true,true,true,true,true,true,true,false,false] rfl rfl (jyb HT_.out (by kernel_rfl)) (by decide) (fun K hK=>?_)
               refine jPc Try.func92 (by kernel_rfl) rfl #[.pointer (some ⟨g,0,none⟩), .agg #[.slice A1_0 l1_0.length c1_0], .int .i64 (wrap64 (a2+1)), .bool a3] (by rfl) rfl rfl (aq) ?_
               with_reducible refine (ih92 kj49 (by have:=HJ5.out;have:=HJ49.out;omega) g s0_0 t205 _ _ l1_0 (wrap64 (a2+1)) a3 t209 t212 w0 _ ?side1 ?side2 ?side3 ?side4 A88.out).mono ?_
               (case side1=>exact Y4)
               (case side2=>exact Y8)
               (case side3=>exact Kd.jvb HR1_0.out (Y1))
               (case side4=>exact HC1_0.out)
               rintro e w101 ⟨v210,rfl,ho0,hi,hb,hk⟩
               refine ⟨_,rfl,?_⟩
               have HO211:=am (Kd.jaa (Kd.jEc (Kd.jFc ho0 (Kd.R_lt (rq HO208.out))) (g:=gb161) (o:=.cells #[.int .i64 a2, .int .i64 11, .int .i64 t202, .int .i64 t204] 36 (0,0)) (kq BK161.out)) (jN (w:=w) (g:=g) (row:=none) (Y1)))
               replace BK156:=am (jb.blk hk (g':=gb156) (o:=.cells #[.slice A1_0 l1_0.length c1_0] 25 (0,0)) (kq BK156.out) NB156_0.out (by simp))
               replace BK161:=am (jb.blk hk (g':=gb161) (o:=.cells #[.int .i64 a2, .int .i64 11, .int .i64 t202, .int .i64 t204] 36 (0,0)) (kq BK161.out) NB161_0.out (by simp))
               replace HO208:=am (Kd.jI (Kd.R_told (Kd.R_oldK (jf.apart (show jf w0 _ g s0_0 t205 from Y4) (rq HO208.out) (by decide)) hk) (Kd.jGc ho0)) (fun _ h_=>h_.1))
               replace HK:=am (jb.trans (Y1) hk (.inl rfl))
               replace HB:=am (hb)
               replace HI0:=am (hi)
               (try clear hb)
               (try clear hb2)
               (try clear hk)
               (try clear hi)
               (try clear ho0)
               refine hK.out _ _ ⟨(jF BK161.out 0).trans rfl,(jF BK161.out 1).trans rfl,(jF BK161.out 2).trans rfl,(jF BK161.out 3).trans rfl,(jF BK156.out 0).trans rfl⟩ (fun hHeld=>?_)
               clear hK K
               refine jWb (a':=?_) ?_ ?_
               rotate_left
               ·show Act.put _ (some 89) _=_
                simp only [Act.put,List.setIfInBounds_toArray,List.set_cons_zero,List.set_cons_succ,jkb,jmb]
                rfl
               exact jWb (by simp only [putAll,Act.put,List.setIfInBounds_toArray,List.set_cons_zero,List.set_cons_succ]) (hCont (v207,v210) _ ⟨hHeld,(by (with_reducible repeat (first | apply Kd.jga | apply Kd.jfa | apply Kd.jea));exact Kd.jI HO208.out (fun _ hk=>⟨hk.2,hk.1.2⟩)),(by (with_reducible repeat (first | apply Kd.jga | apply Kd.jfa | apply Kd.jea));exact Kd.jI HO211.out (fun _ hk=>⟨hk.1.2,hk.2⟩)),(kq BK156.out),(kq BK161.out),(Y4),(Y1),(Y8)⟩)
              ·skip
               refine jPc Try.func92 (by kernel_rfl) rfl #[.pointer (some ⟨g,0,none⟩), .agg #[.slice A1_0 l1_0.length c1_0], .int .i64 (wrap64 (a2+1)), .bool a3] (by rfl) rfl rfl (aq) ?_
               with_reducible refine (ih92 kj49 (by have:=HJ5.out;have:=HJ49.out;omega) g s0_0 t205 _ _ l1_0 (wrap64 (a2+1)) a3 t209 t212 w0 _ ?side1 ?side2 ?side3 ?side4 A88.out).mono ?_
               (case side1=>exact Y4)
               (case side2=>exact Y8)
               (case side3=>exact Kd.jvb HR1_0.out (Y1))
               (case side4=>exact HC1_0.out)
               rintro e w99 ⟨v210,rfl,ho0,hi,hb,hk⟩
               refine ⟨_,rfl,?_⟩
               have HO211:=am (Kd.jaa (Kd.jEc ho0 (g:=gb161) (o:=.cells #[.int .i64 a2, .int .i64 11, .int .i64 t202, .int .i64 t204] 36 (0,0)) (kq BK161.out)) (jN (w:=w) (g:=g) (row:=none) (Y1)))
               replace BK156:=am (jb.blk hk (g':=gb156) (o:=.cells #[.slice A1_0 l1_0.length c1_0] 25 (0,0)) (kq BK156.out) NB156_0.out (by simp))
               replace BK161:=am (jb.blk hk (g':=gb161) (o:=.cells #[.int .i64 a2, .int .i64 11, .int .i64 t202, .int .i64 t204] 36 (0,0)) (kq BK161.out) NB161_0.out (by simp))
               replace HK:=am (jb.trans (Y1) hk (.inl rfl))
               replace HB:=am (hb)
               replace HI0:=am (hi)
               (try clear hb)
               (try clear hb2)
               (try clear hk)
               (try clear hi)
               (try clear ho0)
               refine hK.out _ _ ⟨(jF BK161.out 0).trans rfl,(jF BK161.out 1).trans rfl,(jF BK161.out 2).trans rfl,(jF BK161.out 3).trans rfl,(jF BK156.out 0).trans rfl⟩ (fun hHeld=>?_)
               clear hK K
               refine jWb (a':=?_) ?_ ?_
               rotate_left
               ·show Act.put _ (some 89) _=_
                simp only [Act.put,List.setIfInBounds_toArray,List.set_cons_zero,List.set_cons_succ,jkb,jmb]
                rfl
               refine one_ (i:=1) (N:=some 83) #[true,true,true,true,true,true,true,true,false,false] rfl rfl (jyb HT_.out (by kernel_rfl)) (by decide) (fun K hK=>?_)
               refine Kd.jpc k36 _ 36 ?hg (N:=83) ?hd (xs:=([(⟨a2,11,t202,t204⟩:S36)]:List (S36))) (inner:=[.int .i64 a2, .int .i64 11, .int .i64 t202, .int .i64 t204]) (ok:=fun _=>True) (okp:=fun _=>True) ?hr ?hp (fun _ hk=>hk) trivial (Below.refl _ _) (Nat.le_refl _) (by simp) ?_;(case hd=>rfl);(case hg=>rfl);(case hr=>exact Y5);(case hp=>exact (Reps.c4 (show Kd.M k36 _ _ _ (⟨a2,11,t202,t204⟩:S36) [.int .i64 a2, .int .i64 11, .int .i64 t202, .int .i64 t204] from (jNb _ _ _ (⟨a2,11,t202,t204⟩:S36) )) (Reps.none _ _)))
               intro v207 w100 ho101 hb hg_ hnew_
               clear hg_ hnew_
               (first | rw [← Ny206.out] at ho101 |(simp only [Int.reduceToNat] at ho101;rw [← Ny206.out] at ho101))
               have HO208:=am (Kd.jaa (Kd.jEc (Kd.jFc ho101 (Kd.R_lt (rq HO211.out))) (g:=gb161) (o:=.cells #[.int .i64 a2, .int .i64 11, .int .i64 t202, .int .i64 t204] 36 (0,0)) (kq BK161.out)) (jN (w:=w) (g:=g) (row:=none) (Y1)))
               replace HO211:=am (Kd.R_elder' (rq HO211.out) (Kd.jGc ho101) hb)
               replace BK156:=am (jk (g:=gb156) (o:=.cells #[.slice A1_0 l1_0.length c1_0] 25 (0,0)) (kq BK156.out) hb)
               replace BK161:=am (jk (g:=gb161) (o:=.cells #[.int .i64 a2, .int .i64 11, .int .i64 t202, .int .i64 t204] 36 (0,0)) (kq BK161.out) hb)
               replace HK:=am (jb.trans (Y1) (jb.of_below hb g none) (.inl rfl))
               replace HB:=am (je (Y8) hb)
               replace HI0:=am (jf.below (Y4) hb)
               clear hb ho101
               refine hK.out _ _ ⟨(jF BK161.out 0).trans rfl,(jF BK161.out 1).trans rfl,(jF BK161.out 2).trans rfl,(jF BK161.out 3).trans rfl,(jF BK156.out 0).trans rfl⟩ (fun hHeld=>?_)
               clear hK K
               refine jWb (a':=?_) ?_ ?_
               rotate_left
               ·show Act.put _ (some 83) _=_
                simp only [Act.put,List.setIfInBounds_toArray,List.set_cons_zero,List.set_cons_succ,jkb,jmb]
                rfl
               exact jWb (by simp only [putAll,Act.put,List.setIfInBounds_toArray,List.set_cons_zero,List.set_cons_succ]) (hCont (v207,v210) _ ⟨hHeld,(by (with_reducible repeat (first | apply Kd.jga | apply Kd.jfa | apply Kd.jea));exact Kd.jI HO208.out (fun _ hk=>⟨hk.1.2,hk.2⟩)),(by (with_reducible repeat (first | apply Kd.jga | apply Kd.jfa | apply Kd.jea));exact Kd.jI HO211.out (fun _ hk=>⟨hk.2,hk.1.2⟩)),(kq BK156.out),(kq BK161.out),(Y4),(Y1),(Y8)⟩)
             rintro ⟨v207,v210⟩ w102 ⟨hS_,h0_,h1_,h2_,h3_,h4_,h5_,h6_⟩
             have n0_:jq (Kd.R k36 36 w102 w.heap.size (fun k_=>some k_≠(v210:Value).ownBlock∧k_≠gb161) v207 y206):=⟨h0_⟩
             have n1_:jq (Kd.R k36 36 w102 w.heap.size (fun k_=>some k_≠(v207:Value).ownBlock∧k_≠gb161) v210 t209):=⟨h1_⟩
             have n2_:jq (w102.heap[gb156]?=some (.cells #[.slice A1_0 l1_0.length c1_0] 25 (0,0))):=⟨h2_⟩
             have n3_:jq (w102.heap[gb161]?=some (.cells #[.int .i64 a2, .int .i64 11, .int .i64 t202, .int .i64 t204] 36 (0,0))):=⟨h3_⟩
             have n4_:jq (jf w0 w102 g s0_0 t212):=⟨h4_⟩
             have n5_:jq (jb w w102 g none):=⟨h5_⟩
             have n6_:jq (Below w0.heap.size w0 w102):=⟨h6_⟩
             clear BK156
             clear BK161
             clear HI0
             clear HK
             clear HB
             clear h0_ h1_ h2_ h3_ h4_ h5_ h6_
             have HO208:=n0_
             have HO211:=n1_
             have BK156:=n2_
             have BK161:=n3_
             have HI0:=n4_
             have HK:=n5_
             have HB:=n6_
             clear n0_ n1_ n2_ n3_ n4_ n5_ n6_
             have hHeld:w102.cell? ⟨gb161,0,none⟩=some (.int .i64 a2)∧w102.cell? ⟨gb161,1,none⟩=some (.int .i64 11)∧w102.cell? ⟨gb161,2,none⟩=some (.int .i64 t202)∧w102.cell? ⟨gb161,3,none⟩=some (.int .i64 t204)∧w102.cell? ⟨gb156,0,none⟩=some (.slice A1_0 l1_0.length c1_0):=hS_
             obtain ⟨Ao104,co104,eo104⟩:=Kd.jka HO211.out
             (first | subst eo104 |(injection eo104 with f1_ f2_ f3_;have f4_:=f1_.symm;have f5_:=f3_.symm;clear f1_ f2_ f3_;subst f4_;subst f5_))
             refine jWb (a':=?_) ?_ ?_
             rotate_left
             ·simp only [putAll,Act.put,List.setIfInBounds_toArray,List.set_cons_zero,List.set_cons_succ]
              rfl
             refine one_ (i:=8) (N:=some 90) #[true,true,true,true,true,true,true,true,true,false] rfl rfl (jyb HT_.out (by kernel_rfl)) (by decide) (fun K hK=>?_)
             refine Kd.jOc k36 w.heap.size (by rfl) (.tmp 83) (.tmp 89) 26 36 (.agg #[(.int .i64 0),(.int .i64 0),(.int .i64 0),(.int .i64 0)]) 32 rfl Try.underlying26 jLc rfl (by decide) (by omega) v207 y206 t209 _ _ _ (fun k_=>some k_≠(.slice Ao104 t209.length co104:Value).ownBlock∧k_≠gb161) (fun _=>False) rfl rfl ?aO ?aR (fun _ _ h=>h) (fun _ h=>h.elim) ?aF (Below.refl _ _) ?aS ?aL ?_
             (case aR=>repeat (first | exact (Kd.jy HO211.out).2.2 |(with_reducible refine Kd.jIc ?_ _) |(with_reducible refine Kd.jxc ?_ _) |(with_reducible refine Kd.C_drew ?_)))
             (case aF=>exact (fun k_ hk=>⟨Kd.fresh' (Kd.R_lt (rq HO211.out)) k_ hk,Kd.freshB (g:=gb161) (o:=.cells #[.int .i64 a2, .int .i64 11, .int .i64 t202, .int .i64 t204] 36 (0,0)) (kq BK161.out) k_ hk⟩))
             (case aO=>exact (rq HO208.out))
             (case aS=>exact (jN (w:=w) (g:=g) (row:=none) (Y1)))
             (case aL=>have:=LMc89.out;omega)
             intro v214 w103 ho hb hg hat
             rw [← Ny213.out] at ho
             have n0_:=am (jXa (g:=gb156) (o:=.cells #[.slice A1_0 l1_0.length c1_0] 25 (0,0)) (kq BK156.out) hg (Kd.R_ne HO208.out BK156.out (by decide)))
             have n1_:=am (jXa (g:=gb161) (o:=.cells #[.int .i64 a2, .int .i64 11, .int .i64 t202, .int .i64 t204] 36 (0,0)) (kq BK161.out) hg (Kd.R_away HO208.out (fun _ hk=>hk.2)))
             have n2_:=am (jf.grown (Y4) hg (jf.own_ne HI0.out HO208.out (by decide)))
             have n3_:=am (Kd.jYc (ok:=(fun k_=>k_≠gb161)) (by (with_reducible repeat (first | apply Kd.jga | apply Kd.jfa | apply Kd.jea));exact Kd.jI HO211.out (fun _ hk=>⟨hk.2,hk.1⟩)) hg hat)
             have n4_:=am (job (Y8) HL.out hb)
             have n5_:=am (jb.trans (Y1) (jb.jHb hg g) (Kd.jgc HO208.out))
             have n6_:=am (ho)
             clear BK156
             clear BK161
             clear HI0
             clear HO211
             clear HB
             clear HK
             clear HO208
             have BK156:=n0_
             have BK161:=n1_
             have HI0:=n2_
             have HO211:=n3_
             have HB:=n4_
             have HK:=n5_
             have HO215:=n6_
             clear n0_ n1_ n2_ n3_ n4_ n5_ n6_
             clear ho hb hg hat
             refine hK.out _ _ ⟨(jF BK161.out 0).trans rfl,(jF BK161.out 1).trans rfl,(jF BK161.out 2).trans rfl,(jF BK161.out 3).trans rfl,(jF BK156.out 0).trans rfl⟩ (fun hHeld=>?_)
             clear hK K
             refine jWb (a':=?_) ?_ ?_
             rotate_left
             ·show Act.put _ (some 90) _=_
              simp only [Act.put,List.setIfInBounds_toArray,List.set_cons_zero,List.set_cons_succ,jkb,jmb]
              rfl
             refine pq (i:=9) (N:=some 8) #[true,true,true,true,true,true,true,true,true,true] ?_
             refine jQc (jPb HT_.out (by kernel_rfl)) ?_
             try go_wp2
             go_ret
             exact ⟨_,Y0,by (with_reducible repeat (first | apply Kd.jga | apply Kd.jfa | apply Kd.jea));exact Kd.jI HO215.out (fun _ hk=>trivial),Y4,Y8,Y1⟩
            ·rw [if_neg c89] at H
             exact absurd H (by simp)
           ·rw [if_neg c85] at H
            have c85b0:decide (x9_5<11)=false:=dzF c85
            clear c85
            by_cases c105:x9_5=11
            ·rw [if_pos c105] at H
             have c105b0:(x9_5 == 11)=true:=beq_iff_eq.mpr c105
             have c105b1:(x9_5 != 11)=false:=bne_eq_false_iff_eq.mpr c105
             clear c105
             obtain ⟨y216,hy216⟩:∃ y_:List Int,y_=(([2,1,3,0]:List Int)):=⟨_,rfl⟩
             replace H:((jh.f kj49 s0_0 x1001_5 y216).bind fun bt219=>((some (([(⟨a2,12,bt219.1,0⟩:S36)]:List (S36)):List (S36))).bind fun y221=>((jO.f kj49 s0_0 bt219.2 l1_0 (wrap64 (a2+1)) true).bind fun bt224=>(if y221.length+bt224.1.length<4398046511104 then (some ((y221 ++ bt224.1),bt224.2)) else (none)))))=some (r1,r2):=by first |(rw [hy216];with_reducible exact H) |(have H2_:=(Option.bind_some _ _).symm.trans H;rw [hy216];with_reducible exact H2_) |(have H2_:=(Option.bind_some _ _).symm.trans H;with_reducible exact H2_) | with_reducible exact H |(rw [hy216];exact H) | exact H
             have Ny216:=am hy216
             clear hy216
             replace H:=bzS H
             obtain ⟨⟨t219,t220⟩,A1060,H⟩:=H
             replace H:((some (([(⟨a2,12,t219,0⟩:S36)]:List (S36)):List (S36))).bind fun y221=>((jO.f kj49 s0_0 t220 l1_0 (wrap64 (a2+1)) true).bind fun bt224=>(if y221.length+bt224.1.length<4398046511104 then (some ((y221 ++ bt224.1),bt224.2)) else (none))))=some (r1,r2):=H
             have A106:=am A1060
             clear A1060
             obtain ⟨y221,hy221⟩:∃ y_:List (S36),y_=(([(⟨a2,12,t219,0⟩:S36)]:List (S36))):=⟨_,rfl⟩
             replace H:((jO.f kj49 s0_0 t220 l1_0 (wrap64 (a2+1)) true).bind fun bt224=>(if y221.length+bt224.1.length<4398046511104 then (some ((y221 ++ bt224.1),bt224.2)) else (none)))=some (r1,r2):=by first |(rw [hy221];with_reducible exact H) |(have H2_:=(Option.bind_some _ _).symm.trans H;rw [hy221];with_reducible exact H2_) |(have H2_:=(Option.bind_some _ _).symm.trans H;with_reducible exact H2_) | with_reducible exact H |(rw [hy221];exact H) | exact H
             have Ny221:=am hy221
             clear hy221
             replace H:=bzS H
             obtain ⟨⟨t224,t227⟩,A1070,H⟩:=H
             replace H:(if y221.length+t224.length<4398046511104 then (some ((y221 ++ t224),t227)) else (none))=some (r1,r2):=H
             have A107:=am A1070
             clear A1070
             by_cases c108:y221.length+t224.length<4398046511104
             ·rw [if_pos c108] at H
              have LMc108:=am c108
              clear c108
              obtain ⟨y228,hy228⟩:∃ y_:List (S36),y_=(y221 ++ t224):=⟨_,rfl⟩
              replace H:(some (y228,t227))=some (r1,r2):=by first |(rw [hy228];with_reducible exact H) |(have H2_:=(Option.bind_some _ _).symm.trans H;rw [hy228];with_reducible exact H2_) |(have H2_:=(Option.bind_some _ _).symm.trans H;with_reducible exact H2_) | with_reducible exact H |(rw [hy228];exact H) | exact H
              have Ny228:=am hy228
              clear hy228
              simp only [Option.some.injEq,Prod.mk.injEq] at H
              obtain ⟨rfl,rfl⟩:=H
              have hnb109:=NB161_156.out
              have hnc109:=NB156_161.out
              have hnb110:=NB161_0.out
              have hnc110:=NB0_161.out
              have hcz111_0:=bc0 BK161.out
              have hcz111_1:=bc1 BK161.out
              have hcz111_2:=bc2 BK161.out
              have hcz111_3:=bc3 BK161.out
              have hfz111_0:=ja BK161.out 0
              have hfz111_1:=ja BK161.out 1
              have hfz111_2:=ja BK161.out 2
              have hfz111_3:=ja BK161.out 3
              try go_wp2_with (first |((with_reducible refine jJ (N:=96) rfl ?_);refine Kd.jfc (Kd.int .i64) _ 3 ?hg (N:=96) ?hd (xs:=([2,1,3,0]:List Int)) (inner:=[.int .i64 2, .int .i64 1, .int .i64 3, .int .i64 0]) (ok:=fun _=>True) (okp:=fun _=>True) ?hr ?hp (fun _ hk=>hk) trivial (Below.refl _ _) (Nat.le_refl _) (by simp) ?_;(case hd=>rfl);(case hg=>rfl);(case hr=>exact Y5);(case hp=>exact (Reps.one (show Kd.M (Kd.int .i64) _ _ _ 2 [.int .i64 2] from rfl) (Reps.one (show Kd.M (Kd.int .i64) _ _ _ 1 [.int .i64 1] from rfl) (Reps.one (show Kd.M (Kd.int .i64) _ _ _ 3 [.int .i64 3] from rfl) (Reps.one (show Kd.M (Kd.int .i64) _ _ _ 0 [.int .i64 0] from rfl) (Reps.none _ _))))));intro v217 w112 ho113 hb hg_ hnew_;clear hg_ hnew_;(first | rw [← Ny216.out] at ho113 |(simp only [Int.reduceToNat] at ho113;rw [← Ny216.out] at ho113));have HO218:=am (Kd.jaa ho113 (jN (w:=w) (g:=g) (row:=none) (Y1)));replace BK156:=am (jk (g:=gb156) (o:=.cells #[.slice A1_0 l1_0.length c1_0] 25 (0,0)) (Y46) hb);replace BK161:=am (jk (g:=gb161) (o:=.cells #[.int .i64 a2, .int .i64 12, .int .i64 0, .int .i64 0] 36 (0,0)) (Y63) hb);replace HK:=am (jb.trans (Y1) (jb.of_below hb g none) (.inl rfl));replace HB:=am (je (Y8) hb);replace HI0:=am (jf.below (show jf w0 (wc.setCell ⟨gb161,1,none⟩ (.int .i64 12)) g s0_0 x1001_5 from Y4) hb);clear hb ho113;obtain ⟨Ao114,co114,eo114⟩:=Kd.jka HO218.out;subst eo114) |((with_reducible refine jd (f:=58) rfl ?_);refine gL (some 97) Try.func58 #[.pointer (some ⟨g,0,none⟩), .slice Ao114 y216.length co114] ?_;(with_reducible refine (jh.calls kj49 g s0_0 x1001_5 _ _ y216 t219 t220 w0 _ ?side1 ?side2 ?side3 ?side4 ?side5 A106.out).mono ?_);(case side1=>exact Y4);(case side2=>exact Y8);(case side3=>exact cq (Kd.jy HO218.out).2.2);(case side4=>exact (Kd.jy HO218.out).2.1);(case side5=>exact jzb (jf.own_ne HI0.out HO218.out (by decide)));rintro e w115 ⟨rfl,hi,hb,hk⟩;refine ⟨_,rfl,?_⟩;replace BK156:=am (jb.blk hk (g':=gb156) (o:=.cells #[.slice A1_0 l1_0.length c1_0] 25 (0,0)) (kq BK156.out) NB156_0.out (by simp));replace BK161:=am (jb.blk hk (g':=gb161) (o:=.cells #[.int .i64 a2, .int .i64 12, .int .i64 0, .int .i64 0] 36 (0,0)) (kq BK161.out) NB161_0.out (by simp));replace HO218:=am (Kd.jI (Kd.jxa (jf.apart (show jf w0 _ g s0_0 x1001_5 from Y4) (rq HO218.out) (by decide)) hk (fun _ h=>h.2)) (fun _ h=>h.1));replace HK:=am (jb.trans (Y1) hk (.inl rfl));replace HB:=am (hb);replace HI0:=am (hi);(try clear hb);(try clear hb2);(try clear hk);(try clear hi);have hcz116_0:=bc0 BK161.out;have hcz116_1:=bc1 BK161.out;have hcz116_2:=bc2 BK161.out;have hcz116_3:=bc3 BK161.out;have hfz116_0:=ja BK161.out 0;have hfz116_1:=ja BK161.out 1;have hfz116_2:=ja BK161.out 2;have hfz116_3:=ja BK161.out 3))
              have n0_:jq (Kd.R (Kd.int .i64) 3 (w115.setCell ⟨gb161,2,none⟩ (.int .i64 t219)) w.heap.size (fun _=>True) (.slice Ao114 y216.length co114) y216):=⟨by (with_reducible repeat (first | apply Kd.jga | apply Kd.jfa | apply Kd.jea));exact Kd.jI (Kd.jQb (p:=⟨gb161,2,none⟩) (Kd.jQa HO218.out BK161.out (by decide)) (fun _ hk=>hk.2) (.int .i64 t219)) (fun _ hk=>trivial)⟩
              have n1_:jq ((w115.setCell ⟨gb161,2,none⟩ (.int .i64 t219)).heap[gb156]?=some (.cells #[.slice A1_0 l1_0.length c1_0] 25 (0,0))):=⟨by (with_reducible repeat (first | refine jr ?_ _ | refine jw ?_ | refine jA ?_ _));refine jnb ?_ NB156_161.out _;(with_reducible repeat (first | refine jr ?_ _ | refine jw ?_ | refine jA ?_ _));exact BK156.out⟩
              have n2_:jq ((w115.setCell ⟨gb161,2,none⟩ (.int .i64 t219)).heap[gb161]?=some (.cells #[.int .i64 a2, .int .i64 12, .int .i64 t219, .int .i64 0] 36 (0,0))):=⟨by (with_reducible repeat (first | refine jr ?_ _ | refine jw ?_ | refine jA ?_ _));refine jab (cs:=#[.int .i64 a2, .int .i64 12, .int .i64 0, .int .i64 0]) ?_ 2 _ rfl;(with_reducible repeat (first | refine jr ?_ _ | refine jw ?_ | refine jA ?_ _));exact BK161.out⟩
              have n3_:jq (jf w0 (w115.setCell ⟨gb161,2,none⟩ (.int .i64 t219)) g s0_0 t220):=⟨Y4⟩
              have n4_:jq (jb w (w115.setCell ⟨gb161,2,none⟩ (.int .i64 t219)) g none):=⟨Y1⟩
              have n5_:jq (Below w0.heap.size w0 (w115.setCell ⟨gb161,2,none⟩ (.int .i64 t219))):=⟨Y8⟩
              (try clear HO218)
              (try clear BK156)
              (try clear BK161)
              (try clear HI0)
              (try clear HK)
              (try clear HB)
              generalize (w115.setCell ⟨gb161,2,none⟩ (.int .i64 t219))=w117 at n0_ n1_ n2_ n3_ n4_ n5_ ⊢
              have HO218:=n0_
              have BK156:=n1_
              have BK161:=n2_
              have HI0:=n3_
              have HK:=n4_
              have HB:=n5_
              clear n0_ n1_ n2_ n3_ n4_ n5_
              replace HO218:=am (Kd.jea HO218.out)
              replace BK156:=am (jw BK156.out)
              replace BK161:=am (jw BK161.out)
              replace HI0:=am (jf.drew HI0.out)
              replace HK:=am (jNa HK.out)
              replace HB:=am (jE HB.out)
              refine jlc (n:=9) (S:=fun w'=>w'.cell? ⟨gb161,0,none⟩=some (.int .i64 a2)∧w'.cell? ⟨gb161,1,none⟩=some (.int .i64 12)∧w'.cell? ⟨gb161,2,none⟩=some (.int .i64 t219)∧w'.cell? ⟨gb161,3,none⟩=some (.int .i64 0)∧w'.cell? ⟨gb156,0,none⟩=some (.slice A1_0 l1_0.length c1_0)) (ds:=[]) #[false,false,false,false,false,false,false,false,false] (by kernel_rfl) rfl rfl ⟨(jF BK161.out 0).trans rfl,(jF BK161.out 1).trans rfl,(jF BK161.out 2).trans rfl,(jF BK161.out 3).trans rfl,(jF BK156.out 0).trans rfl⟩ (fun hHeld=>?_);refine jqb jB.tab30 jB.bits30 (fun HT_ HW_=>?_)
              generalize w117.drew=w118 at HO218 BK156 BK161 HI0 HK HB hHeld ⊢
              refine pq (i:=2) (N:=some 101) #[false,false,true,false,false,false,false,false,false] ?_
              refine pq (i:=4) (N:=some 103) #[false,false,true,false,true,false,false,false,false] ?_
              refine pq (i:=5) (N:=some 104) #[false,false,true,false,true,true,false,false,false] ?_
              refine jwb (i:=0) (N:=some 99) (v:=?_) (a':=?_) #[true,false,true,false,true,true,false,false,false] rfl rfl (jua HT_.out HW_.out (by kernel_rfl)) (fun _ _ _ h=>h) (Or.inl ⟨by rfl,?_⟩) hHeld ?_ ?_
              rotate_left
              ·rintro w' ⟨s0,s1,s2,s3,s4⟩
               go_simp
               with_reducible rfl
              rotate_left
              ·exact sa
              refine jwb (i:=3) (N:=some 102) (v:=?_) (a':=?_) #[true,false,true,true,true,true,false,false,false] rfl rfl (jua HT_.out HW_.out (by kernel_rfl)) (fun _ _ _ h=>h) (Or.inl ⟨by rfl,?_⟩) hHeld ?_ ?_
              rotate_left
              ·rintro w' ⟨s0,s1,s2,s3,s4⟩
               go_simp
               with_reducible rfl
              rotate_left
              ·exact sa
              refine join_ (σ:=Value × Value) 2 #[true,true,true,true,true,true,true,false,false] (fun s_=>[(100,s_.1),(105,s_.2)]) (fun s_ w'=>(w'.cell? ⟨gb161,0,none⟩=some (.int .i64 a2)∧w'.cell? ⟨gb161,1,none⟩=some (.int .i64 12)∧w'.cell? ⟨gb161,2,none⟩=some (.int .i64 t219)∧w'.cell? ⟨gb161,3,none⟩=some (.int .i64 0)∧w'.cell? ⟨gb156,0,none⟩=some (.slice A1_0 l1_0.length c1_0))∧(Kd.R (Kd.int .i64) 3 w' w.heap.size (fun _=>True) (.slice Ao114 y216.length co114) y216)∧(Kd.R k36 36 w' w.heap.size (fun k_=>some k_≠(s_.2:Value).ownBlock∧k_≠gb161) s_.1 y221)∧(Kd.R k36 36 w' w.heap.size (fun k_=>some k_≠(s_.1:Value).ownBlock∧k_≠gb161) s_.2 t224)∧(w'.heap[gb156]?=some (.cells #[.slice A1_0 l1_0.length c1_0] 25 (0,0)))∧(w'.heap[gb161]?=some (.cells #[.int .i64 a2, .int .i64 12, .int .i64 t219, .int .i64 0] 36 (0,0)))∧(jf w0 w' g s0_0 t227)∧(jb w w' g none)∧(Below w0.heap.size w0 w')) ?_ ?_
              rotate_left
              ·intro hCont
               refine two_ (i:=1) (j:=6) (Ni:=some 100) (Nj:=some 105) #[true,true,true,true,true,true,false,false,false] #[true,false,true,true,true,true,true,false,false] rfl rfl rfl rfl (two_of HT_.out (by kernel_rfl)) (by decide) (by decide) (fun K hK=>?_) (fun K hK=>?_)
               ·skip
                refine Kd.jpc k36 _ 36 ?hg (N:=100) ?hd (xs:=([(⟨a2,12,t219,0⟩:S36)]:List (S36))) (inner:=[.int .i64 a2, .int .i64 12, .int .i64 t219, .int .i64 0]) (ok:=fun _=>True) (okp:=fun _=>True) ?hr ?hp (fun _ hk=>hk) trivial (Below.refl _ _) (Nat.le_refl _) (by simp) ?_;(case hd=>rfl);(case hg=>rfl);(case hr=>exact Y5);(case hp=>exact (Reps.c4 (show Kd.M k36 _ _ _ (⟨a2,12,t219,0⟩:S36) [.int .i64 a2, .int .i64 12, .int .i64 t219, .int .i64 0] from (jNb _ _ _ (⟨a2,12,t219,0⟩:S36) )) (Reps.none _ _)))
                intro v222 w119 ho120 hb hg_ hnew_
                clear hg_ hnew_
                (first | rw [← Ny221.out] at ho120 |(simp only [Int.reduceToNat] at ho120;rw [← Ny221.out] at ho120))
                have HO223:=am (Kd.jaa (Kd.jEc ho120 (g:=gb161) (o:=.cells #[.int .i64 a2, .int .i64 12, .int .i64 t219, .int .i64 0] 36 (0,0)) (kq BK161.out)) (jN (w:=w) (g:=g) (row:=none) (Y1)))
                replace HO218:=am (Kd.jZ (rq HO218.out) hb)
                replace BK156:=am (jk (g:=gb156) (o:=.cells #[.slice A1_0 l1_0.length c1_0] 25 (0,0)) (kq BK156.out) hb)
                replace BK161:=am (jk (g:=gb161) (o:=.cells #[.int .i64 a2, .int .i64 12, .int .i64 t219, .int .i64 0] 36 (0,0)) (kq BK161.out) hb)
                replace HK:=am (jb.trans (Y1) (jb.of_below hb g none) (.inl rfl))
                replace HB:=am (je (Y8) hb)
                replace HI0:=am (jf.below (Y4) hb)
                clear hb ho120
                refine hK.out _ _ ⟨(jF BK161.out 0).trans rfl,(jF BK161.out 1).trans rfl,(jF BK161.out 2).trans rfl,(jF BK161.out 3).trans rfl,(jF BK156.out 0).trans rfl⟩ (fun hHeld=>?_)
                clear hK K
                refine jWb (a':=?_) ?_ ?_
                rotate_left
                ·show Act.put _ (some 100) _=_
                 simp only [Act.put,List.setIfInBounds_toArray,List.set_cons_zero,List.set_cons_succ,jkb,jmb]
                 rfl
                refine one_ (i:=6) (N:=some 105) #[true,true,true,true,true,true,true,false,false] rfl rfl (jyb HT_.out (by kernel_rfl)) (by decide) (fun K hK=>?_)
                refine jPc Try.func92 (by kernel_rfl) rfl #[.pointer (some ⟨g,0,none⟩), .agg #[.slice A1_0 l1_0.length c1_0], .int .i64 (wrap64 (a2+1)), .bool true] (by rfl) rfl rfl (aq) ?_
                with_reducible refine (ih92 kj49 (by have:=HJ5.out;have:=HJ49.out;omega) g s0_0 t220 _ _ l1_0 (wrap64 (a2+1)) true t224 t227 w0 _ ?side1 ?side2 ?side3 ?side4 A107.out).mono ?_
                (case side1=>exact Y4)
                (case side2=>exact Y8)
                (case side3=>exact Kd.jvb HR1_0.out (Y1))
                (case side4=>exact HC1_0.out)
                rintro e w121 ⟨v225,rfl,ho0,hi,hb,hk⟩
                refine ⟨_,rfl,?_⟩
                have HO226:=am (Kd.jaa (Kd.jEc (Kd.jFc ho0 (Kd.R_lt (rq HO223.out))) (g:=gb161) (o:=.cells #[.int .i64 a2, .int .i64 12, .int .i64 t219, .int .i64 0] 36 (0,0)) (kq BK161.out)) (jN (w:=w) (g:=g) (row:=none) (Y1)))
                replace BK156:=am (jb.blk hk (g':=gb156) (o:=.cells #[.slice A1_0 l1_0.length c1_0] 25 (0,0)) (kq BK156.out) NB156_0.out (by simp))
                replace BK161:=am (jb.blk hk (g':=gb161) (o:=.cells #[.int .i64 a2, .int .i64 12, .int .i64 t219, .int .i64 0] 36 (0,0)) (kq BK161.out) NB161_0.out (by simp))
                replace HO218:=am (Kd.jI (Kd.jxa (jf.apart (show jf w0 _ g s0_0 t220 from Y4) (rq HO218.out) (by decide)) hk (fun _ h=>h.2)) (fun _ h=>h.1))
                replace HO223:=am (Kd.jI (Kd.R_told (Kd.R_oldK (jf.apart (show jf w0 _ g s0_0 t220 from Y4) (rq HO223.out) (by decide)) hk) (Kd.jGc ho0)) (fun _ h_=>h_.1))
                replace HK:=am (jb.trans (Y1) hk (.inl rfl))
                replace HB:=am (hb)
                replace HI0:=am (hi)
                (try clear hb)
                (try clear hb2)
                (try clear hk)
                (try clear hi)
                (try clear ho0)
                refine hK.out _ _ ⟨(jF BK161.out 0).trans rfl,(jF BK161.out 1).trans rfl,(jF BK161.out 2).trans rfl,(jF BK161.out 3).trans rfl,(jF BK156.out 0).trans rfl⟩ (fun hHeld=>?_)
                clear hK K
                refine jWb (a':=?_) ?_ ?_
                rotate_left
                ·show Act.put _ (some 105) _=_
                 simp only [Act.put,List.setIfInBounds_toArray,List.set_cons_zero,List.set_cons_succ,jkb,jmb]
                 rfl
                exact jWb (by simp only [putAll,Act.put,List.setIfInBounds_toArray,List.set_cons_zero,List.set_cons_succ]) (hCont (v222,v225) _ ⟨hHeld,(rq HO218.out),(by (with_reducible repeat (first | apply Kd.jga | apply Kd.jfa | apply Kd.jea));exact Kd.jI HO223.out (fun _ hk=>⟨hk.2,hk.1.2⟩)),(by (with_reducible repeat (first | apply Kd.jga | apply Kd.jfa | apply Kd.jea));exact Kd.jI HO226.out (fun _ hk=>⟨hk.1.2,hk.2⟩)),(kq BK156.out),(kq BK161.out),(Y4),(Y1),(Y8)⟩)
               ·skip
                refine jPc Try.func92 (by kernel_rfl) rfl #[.pointer (some ⟨g,0,none⟩), .agg #[.slice A1_0 l1_0.length c1_0], .int .i64 (wrap64 (a2+1)), .bool true] (by rfl) rfl rfl (aq) ?_
                with_reducible refine (ih92 kj49 (by have:=HJ5.out;have:=HJ49.out;omega) g s0_0 t220 _ _ l1_0 (wrap64 (a2+1)) true t224 t227 w0 _ ?side1 ?side2 ?side3 ?side4 A107.out).mono ?_
                (case side1=>exact Y4)
                (case side2=>exact Y8)
                (case side3=>exact Kd.jvb HR1_0.out (Y1))
                (case side4=>exact HC1_0.out)
                rintro e w119 ⟨v225,rfl,ho0,hi,hb,hk⟩
                refine ⟨_,rfl,?_⟩
                have HO226:=am (Kd.jaa (Kd.jEc ho0 (g:=gb161) (o:=.cells #[.int .i64 a2, .int .i64 12, .int .i64 t219, .int .i64 0] 36 (0,0)) (kq BK161.out)) (jN (w:=w) (g:=g) (row:=none) (Y1)))
                replace BK156:=am (jb.blk hk (g':=gb156) (o:=.cells #[.slice A1_0 l1_0.length c1_0] 25 (0,0)) (kq BK156.out) NB156_0.out (by simp))
                replace BK161:=am (jb.blk hk (g':=gb161) (o:=.cells #[.int .i64 a2, .int .i64 12, .int .i64 t219, .int .i64 0] 36 (0,0)) (kq BK161.out) NB161_0.out (by simp))
                replace HO218:=am (Kd.jI (Kd.jxa (jf.apart (show jf w0 _ g s0_0 t220 from Y4) (rq HO218.out) (by decide)) hk (fun _ h=>h.2)) (fun _ h=>h.1))
                replace HK:=am (jb.trans (Y1) hk (.inl rfl))
                replace HB:=am (hb)
                replace HI0:=am (hi)
                (try clear hb)
                (try clear hb2)
                (try clear hk)
                (try clear hi)
                (try clear ho0)
                refine hK.out _ _ ⟨(jF BK161.out 0).trans rfl,(jF BK161.out 1).trans rfl,(jF BK161.out 2).trans rfl,(jF BK161.out 3).trans rfl,(jF BK156.out 0).trans rfl⟩ (fun hHeld=>?_)
                clear hK K
                refine jWb (a':=?_) ?_ ?_
                rotate_left
                ·show Act.put _ (some 105) _=_
                 simp only [Act.put,List.setIfInBounds_toArray,List.set_cons_zero,List.set_cons_succ,jkb,jmb]
                 rfl
                refine one_ (i:=1) (N:=some 100) #[true,true,true,true,true,true,true,false,false] rfl rfl (jyb HT_.out (by kernel_rfl)) (by decide) (fun K hK=>?_)
                refine Kd.jpc k36 _ 36 ?hg (N:=100) ?hd (xs:=([(⟨a2,12,t219,0⟩:S36)]:List (S36))) (inner:=[.int .i64 a2, .int .i64 12, .int .i64 t219, .int .i64 0]) (ok:=fun _=>True) (okp:=fun _=>True) ?hr ?hp (fun _ hk=>hk) trivial (Below.refl _ _) (Nat.le_refl _) (by simp) ?_;(case hd=>rfl);(case hg=>rfl);(case hr=>exact Y5);(case hp=>exact (Reps.c4 (show Kd.M k36 _ _ _ (⟨a2,12,t219,0⟩:S36) [.int .i64 a2, .int .i64 12, .int .i64 t219, .int .i64 0] from (jNb _ _ _ (⟨a2,12,t219,0⟩:S36) )) (Reps.none _ _)))
                intro v222 w120 ho121 hb hg_ hnew_
                clear hg_ hnew_
                (first | rw [← Ny221.out] at ho121 |(simp only [Int.reduceToNat] at ho121;rw [← Ny221.out] at ho121))
                have HO223:=am (Kd.jaa (Kd.jEc (Kd.jFc ho121 (Kd.R_lt (rq HO226.out))) (g:=gb161) (o:=.cells #[.int .i64 a2, .int .i64 12, .int .i64 t219, .int .i64 0] 36 (0,0)) (kq BK161.out)) (jN (w:=w) (g:=g) (row:=none) (Y1)))
                replace HO218:=am (Kd.jZ (rq HO218.out) hb)
                replace HO226:=am (Kd.R_elder' (rq HO226.out) (Kd.jGc ho121) hb)
                replace BK156:=am (jk (g:=gb156) (o:=.cells #[.slice A1_0 l1_0.length c1_0] 25 (0,0)) (kq BK156.out) hb)
                replace BK161:=am (jk (g:=gb161) (o:=.cells #[.int .i64 a2, .int .i64 12, .int .i64 t219, .int .i64 0] 36 (0,0)) (kq BK161.out) hb)
                replace HK:=am (jb.trans (Y1) (jb.of_below hb g none) (.inl rfl))
                replace HB:=am (je (Y8) hb)
                replace HI0:=am (jf.below (Y4) hb)
                clear hb ho121
                refine hK.out _ _ ⟨(jF BK161.out 0).trans rfl,(jF BK161.out 1).trans rfl,(jF BK161.out 2).trans rfl,(jF BK161.out 3).trans rfl,(jF BK156.out 0).trans rfl⟩ (fun hHeld=>?_)
                clear hK K
                refine jWb (a':=?_) ?_ ?_
                rotate_left
                ·show Act.put _ (some 100) _=_
                 simp only [Act.put,List.setIfInBounds_toArray,List.set_cons_zero,List.set_cons_succ,jkb,jmb]
                 rfl
                exact jWb (by simp only [putAll,Act.put,List.setIfInBounds_toArray,List.set_cons_zero,List.set_cons_succ]) (hCont (v222,v225) _ ⟨hHeld,(rq HO218.out),(by (with_reducible repeat (first | apply Kd.jga | apply Kd.jfa | apply Kd.jea));exact Kd.jI HO223.out (fun _ hk=>⟨hk.1.2,hk.2⟩)),(by (with_reducible repeat (first | apply Kd.jga | apply Kd.jfa | apply Kd.jea));exact Kd.jI HO226.out (fun _ hk=>⟨hk.2,hk.1.2⟩)),(kq BK156.out),(kq BK161.out),(Y4),(Y1),(Y8)⟩)
              rintro ⟨v222,v225⟩ w122 ⟨hS_,h0_,h1_,h2_,h3_,h4_,h5_,h6_,h7_⟩
              have n0_:jq (Kd.R (Kd.int .i64) 3 w122 w.heap.size (fun _=>True) (.slice Ao114 y216.length co114) y216):=⟨h0_⟩
              have n1_:jq (Kd.R k36 36 w122 w.heap.size (fun k_=>some k_≠(v225:Value).ownBlock∧k_≠gb161) v222 y221):=⟨h1_⟩
              have n2_:jq (Kd.R k36 36 w122 w.heap.size (fun k_=>some k_≠(v222:Value).ownBlock∧k_≠gb161) v225 t224):=⟨h2_⟩
              have n3_:jq (w122.heap[gb156]?=some (.cells #[.slice A1_0 l1_0.length c1_0] 25 (0,0))):=⟨h3_⟩
              have n4_:jq (w122.heap[gb161]?=some (.cells #[.int .i64 a2, .int .i64 12, .int .i64 t219, .int .i64 0] 36 (0,0))):=⟨h4_⟩
              have n5_:jq (jf w0 w122 g s0_0 t227):=⟨h5_⟩
              have n6_:jq (jb w w122 g none):=⟨h6_⟩
              have n7_:jq (Below w0.heap.size w0 w122):=⟨h7_⟩
              clear HO218
              clear BK156
              clear BK161
              clear HI0
              clear HK
              clear HB
              clear h0_ h1_ h2_ h3_ h4_ h5_ h6_ h7_
              have HO218:=n0_
              have HO223:=n1_
              have HO226:=n2_
              have BK156:=n3_
              have BK161:=n4_
              have HI0:=n5_
              have HK:=n6_
              have HB:=n7_
              clear n0_ n1_ n2_ n3_ n4_ n5_ n6_ n7_
              have hHeld:w122.cell? ⟨gb161,0,none⟩=some (.int .i64 a2)∧w122.cell? ⟨gb161,1,none⟩=some (.int .i64 12)∧w122.cell? ⟨gb161,2,none⟩=some (.int .i64 t219)∧w122.cell? ⟨gb161,3,none⟩=some (.int .i64 0)∧w122.cell? ⟨gb156,0,none⟩=some (.slice A1_0 l1_0.length c1_0):=hS_
              obtain ⟨Ao124,co124,eo124⟩:=Kd.jka HO226.out
              (first | subst eo124 |(injection eo124 with f1_ f2_ f3_;have f4_:=f1_.symm;have f5_:=f3_.symm;clear f1_ f2_ f3_;subst f4_;subst f5_))
              refine jWb (a':=?_) ?_ ?_
              rotate_left
              ·simp only [putAll,Act.put,List.setIfInBounds_toArray,List.set_cons_zero,List.set_cons_succ]
               rfl
              refine one_ (i:=7) (N:=some 106) #[true,true,true,true,true,true,true,true,false] rfl rfl (jyb HT_.out (by kernel_rfl)) (by decide) (fun K hK=>?_)
              refine Kd.jOc k36 w.heap.size (by rfl) (.tmp 100) (.tmp 105) 26 36 (.agg #[(.int .i64 0),(.int .i64 0),(.int .i64 0),(.int .i64 0)]) 32 rfl Try.underlying26 jLc rfl (by decide) (by omega) v222 y221 t224 _ _ _ (fun k_=>some k_≠(.slice Ao124 t224.length co124:Value).ownBlock∧k_≠gb161) (fun _=>False) rfl rfl ?aO ?aR (fun _ _ h=>h) (fun _ h=>h.elim) ?aF (Below.refl _ _) ?aS ?aL ?_
              (case aR=>repeat (first | exact (Kd.jy HO226.out).2.2 |(with_reducible refine Kd.jIc ?_ _) |(with_reducible refine Kd.jxc ?_ _) |(with_reducible refine Kd.C_drew ?_)))
              (case aF=>exact (fun k_ hk=>⟨Kd.fresh' (Kd.R_lt (rq HO226.out)) k_ hk,Kd.freshB (g:=gb161) (o:=.cells #[.int .i64 a2, .int .i64 12, .int .i64 t219, .int .i64 0] 36 (0,0)) (kq BK161.out) k_ hk⟩))
              (case aO=>exact (rq HO223.out))
              (case aS=>exact (jN (w:=w) (g:=g) (row:=none) (Y1)))
              (case aL=>have:=LMc108.out;omega)
              intro v229 w123 ho hb hg hat
              rw [← Ny228.out] at ho
              have n0_:=am (jXa (g:=gb156) (o:=.cells #[.slice A1_0 l1_0.length c1_0] 25 (0,0)) (kq BK156.out) hg (Kd.R_ne HO223.out BK156.out (by decide)))
              have n1_:=am (jXa (g:=gb161) (o:=.cells #[.int .i64 a2, .int .i64 12, .int .i64 t219, .int .i64 0] 36 (0,0)) (kq BK161.out) hg (Kd.R_away HO223.out (fun _ hk=>hk.2)))
              have n2_:=am (jf.grown (Y4) hg (jf.own_ne HI0.out HO223.out (by decide)))
              have n3_:=am (Kd.jDc (rq HO218.out) (Kd.jCc (rq HO223.out)) (by decide) hg)
              have n4_:=am (Kd.jYc (ok:=(fun k_=>k_≠gb161)) (by (with_reducible repeat (first | apply Kd.jga | apply Kd.jfa | apply Kd.jea));exact Kd.jI HO226.out (fun _ hk=>⟨hk.2,hk.1⟩)) hg hat)
              have n5_:=am (job (Y8) HL.out hb)
              have n6_:=am (jb.trans (Y1) (jb.jHb hg g) (Kd.jgc HO223.out))
              have n7_:=am (ho)
              clear BK156
              clear BK161
              clear HI0
              clear HO218
              clear HO226
              clear HB
              clear HK
              clear HO223
              have BK156:=n0_
              have BK161:=n1_
              have HI0:=n2_
              have HO218:=n3_
              have HO226:=n4_
              have HB:=n5_
              have HK:=n6_
              have HO230:=n7_
              clear n0_ n1_ n2_ n3_ n4_ n5_ n6_ n7_
              clear ho hb hg hat
              refine hK.out _ _ ⟨(jF BK161.out 0).trans rfl,(jF BK161.out 1).trans rfl,(jF BK161.out 2).trans rfl,(jF BK161.out 3).trans rfl,(jF BK156.out 0).trans rfl⟩ (fun hHeld=>?_)
              clear hK K
              refine jWb (a':=?_) ?_ ?_
              rotate_left
              ·show Act.put _ (some 106) _=_
               simp only [Act.put,List.setIfInBounds_toArray,List.set_cons_zero,List.set_cons_succ,jkb,jmb]
               rfl
              refine pq (i:=8) (N:=some 8) #[true,true,true,true,true,true,true,true,true] ?_
              refine jQc (jPb HT_.out (by kernel_rfl)) ?_
              try go_wp2
              go_ret
              exact ⟨_,Y0,by (with_reducible repeat (first | apply Kd.jga | apply Kd.jfa | apply Kd.jea));exact Kd.jI HO230.out (fun _ hk=>trivial),Y4,Y8,Y1⟩
             ·rw [if_neg c108] at H
              exact absurd H (by simp)
            ·rw [if_neg c105] at H
             have c105b0:(x9_5 == 11)=false:=beq_eq_false_iff_ne.mpr c105
             have c105b1:(x9_5 != 11)=true:=bne_iff_ne.mpr c105
             replace H:=bzS H
             obtain ⟨⟨t231,t234⟩,A1250,H⟩:=H
             replace H:(some (t231,t234))=some (r1,r2):=H
             have A125:=am A1250
             clear A1250
             simp only [Option.some.injEq,Prod.mk.injEq] at H
             obtain ⟨rfl,rfl⟩:=H
             have hnb126:=NB156_161.out
             have hnc126:=NB161_156.out
             have hnb127:=NB156_0.out
             have hnc127:=NB0_156.out
             have hcz128_0:=bc0 BK156.out
             have hfz128_0:=ja BK156.out 0
             go_wp2_with (first |((with_reducible refine jd (f:=91) rfl ?_);refine gL (some 23) Try.func91 #[.pointer (some ⟨g,0,none⟩), .agg #[.slice A1_0 l1_0.length c1_0], .int .i64 a2, .bool a3] ?_;(with_reducible refine (ih91 kj49 (by have:=HJ5.out;have:=HJ49.out;omega) g s0_0 x1001_5 _ _ l1_0 a2 a3 t231 t234 w0 _ ?side1 ?side2 ?side3 ?side4 A125.out).mono ?_);(case side1=>exact Y4);(case side2=>exact Y8);(case side3=>exact Kd.jvb HR1_0.out (Y1));(case side4=>exact HC1_0.out);rintro e w129 ⟨v232,rfl,ho0,hi,hb,hk⟩;refine ⟨_,rfl,?_⟩;have HO233:=am (Kd.jaa (Kd.jEc ho0 (g:=gb161) (o:=.cells #[.int .i64 a2, .int .i64 0, .int .i64 0, .int .i64 0] 36 (0,0)) (kq BK161.out)) (jN (w:=w) (g:=g) (row:=none) (Y1)));replace BK156:=am (jb.blk hk (g':=gb156) (o:=.cells #[.slice A1_0 l1_0.length c1_0] 25 (0,0)) (kq BK156.out) NB156_0.out (by simp));replace BK161:=am (jb.blk hk (g':=gb161) (o:=.cells #[.int .i64 a2, .int .i64 0, .int .i64 0, .int .i64 0] 36 (0,0)) (kq BK161.out) NB161_0.out (by simp));replace HK:=am (jb.trans (Y1) hk (.inl rfl));replace HB:=am (hb);replace HI0:=am (hi);(try clear hb);(try clear hb2);(try clear hk);(try clear hi);(try clear ho0)))
             go_ret
             exact ⟨_,Y0,by (with_reducible repeat (first | apply Kd.jga | apply Kd.jfa | apply Kd.jea));exact Kd.jI HO233.out (fun _ hk=>trivial),Y4,Y8,Y1⟩
set_option maxHeartbeats 8000000 in
set_option maxRecDepth 100000 in
theorem jO.calls_of (k : Nat) (ih101 : ∀ k_, k_ < k → ∀ (g : Nat) (s0_0 : List Int) (s0_1 : Int) (A1_0 : Option Addr) (c1_0 : Nat) (l1_0 : List (S75)) (a2 : Int) (a3 : Bool) (r1 : List (S36)) (r2 : Int) (w0 w : World) (hI : jf w0 w g s0_0 s0_1) (hB : Below w0.heap.size w0 w) (hr1_0 : ∀ W_, jb w W_ g none → Kd.C k75 W_ A1_0 l1_0.length l1_0) (hc1_0 : l1_0.length ≤ c1_0) (h : jB.f k_ s0_0 s0_1 l1_0 a2 a3 = some (r1, r2)), Calls Try.prog 101 #[.pointer (some ⟨g, 0, none⟩), .agg #[.slice A1_0 l1_0.length c1_0], .int .i64 a2, .bool a3] w fun e w' => ∃ v0_ : Value, e = .returned (v0_) ∧ Kd.R k36 36 w' w.heap.size (fun _ => True) v0_ r1 ∧ jf w0 w' g s0_0 r2 ∧ Below w0.heap.size w0 w' ∧ jb w w' g none) (ih92 : ∀ k_, k_ < k → ∀ (g : Nat) (s0_0 : List Int) (s0_1 : Int) (A1_0 : Option Addr) (c1_0 : Nat) (l1_0 : List (S75)) (a2 : Int) (a3 : Bool) (r1 : List (S36)) (r2 : Int) (w0 w : World) (hI : jf w0 w g s0_0 s0_1) (hB : Below w0.heap.size w0 w) (hr1_0 : ∀ W_, jb w W_ g none → Kd.C k75 W_ A1_0 l1_0.length l1_0) (hc1_0 : l1_0.length ≤ c1_0) (h : jO.f k_ s0_0 s0_1 l1_0 a2 a3 = some (r1, r2)), Calls Try.prog 92 #[.pointer (some ⟨g, 0, none⟩), .agg #[.slice A1_0 l1_0.length c1_0], .int .i64 a2, .bool a3] w fun e w' => ∃ v0_ : Value, e = .returned (v0_) ∧ Kd.R k36 36 w' w.heap.size (fun _ => True) v0_ r1 ∧ jf w0 w' g s0_0 r2 ∧ Below w0.heap.size w0 w' ∧ jb w w' g none) (ih91 : ∀ k_, k_ < k → ∀ (g : Nat) (s0_0 : List Int) (s0_1 : Int) (A1_0 : Option Addr) (c1_0 : Nat) (l1_0 : List (S75)) (a2 : Int) (a3 : Bool) (r1 : List (S36)) (r2 : Int) (w0 w : World) (hI : jf w0 w g s0_0 s0_1) (hB : Below w0.heap.size w0 w) (hr1_0 : ∀ W_, jb w W_ g none → Kd.C k75 W_ A1_0 l1_0.length l1_0) (hc1_0 : l1_0.length ≤ c1_0) (h : jV.f k_ s0_0 s0_1 l1_0 a2 a3 = some (r1, r2)), Calls Try.prog 91 #[.pointer (some ⟨g, 0, none⟩), .agg #[.slice A1_0 l1_0.length c1_0], .int .i64 a2, .bool a3] w fun e w' => ∃ v0_ : Value, e = .returned (v0_) ∧ Kd.R k36 36 w' w.heap.size (fun _ => True) v0_ r1 ∧ jf w0 w' g s0_0 r2 ∧ Below w0.heap.size w0 w' ∧ jb w w' g none) : ∀ (g : Nat) (s0_0 : List Int) (s0_1 : Int) (A1_0 : Option Addr) (c1_0 : Nat) (l1_0 : List (S75)) (a2 : Int) (a3 : Bool) (r1 : List (S36)) (r2 : Int) (w0 w : World) (hI : jf w0 w g s0_0 s0_1) (hB : Below w0.heap.size w0 w) (hr1_0 : ∀ W_, jb w W_ g none → Kd.C k75 W_ A1_0 l1_0.length l1_0) (hc1_0 : l1_0.length ≤ c1_0) (h : jO.f k s0_0 s0_1 l1_0 a2 a3 = some (r1, r2)),
  Calls Try.prog 92 #[.pointer (some ⟨g,0,none⟩), .agg #[.slice A1_0 l1_0.length c1_0], .int .i64 a2, .bool a3] w fun e w'=>∃ v0_:Value,e=.returned (v0_)∧Kd.R k36 36 w' w.heap.size (fun _=>True) v0_ r1∧jf w0 w' g s0_0 r2∧Below w0.heap.size w0 w'∧jb w w' g none:=by
 intro g s0_0 s0_1 A1_0 c1_0 l1_0 a2 a3 r1 r2 w0 w hI hB hr1_0 hc1_0 h
 cases k with
 | zero=>exact absurd h (by simp [jO.f])
 | succ k =>
 simp only [jO.f] at h
 have hu25:=Try.underlying25
 have HR1_0:=am hr1_0
 have HC1_0:=am hc1_0
 clear hr1_0 hc1_0
 have HI0:=am hI
 have HK:=am (jb.refl w g none)
 have HL:=am hB.size
 clear hI
 have HW0:=am hB.size
 have HB:=am hB
 clear hB
 have H:((jh.f k s0_0 s0_1 (([1,2,1,2,3]:List Int))).bind fun bt242=>(jO.l0 k a2 a3 (([]:List (S36))) bt242.1 s0_0 bt242.2 l1_0))=some (r1,r2):=h
 clear h
 obtain ⟨y236,hy236⟩:∃ y_:List (S36),y_=(([]:List (S36))):=⟨_,rfl⟩
 replace H:((jh.f k s0_0 s0_1 (([1,2,1,2,3]:List Int))).bind fun bt242=>(jO.l0 k a2 a3 y236 bt242.1 s0_0 bt242.2 l1_0))=some (r1,r2):=by first |(rw [hy236];with_reducible exact H) |(have H2_:=(Option.bind_some _ _).symm.trans H;rw [hy236];with_reducible exact H2_) |(have H2_:=(Option.bind_some _ _).symm.trans H;with_reducible exact H2_) | with_reducible exact H |(rw [hy236];exact H) | exact H
 have Ny236:=am hy236
 clear hy236
 obtain ⟨y239,hy239⟩:∃ y_:List Int,y_=(([1,2,1,2,3]:List Int)):=⟨_,rfl⟩
 replace H:((jh.f k s0_0 s0_1 y239).bind fun bt242=>(jO.l0 k a2 a3 y236 bt242.1 s0_0 bt242.2 l1_0))=some (r1,r2):=by first |(rw [hy239];with_reducible exact H) |(have H2_:=(Option.bind_some _ _).symm.trans H;rw [hy239];with_reducible exact H2_) |(have H2_:=(Option.bind_some _ _).symm.trans H;with_reducible exact H2_) | with_reducible exact H |(rw [hy239];exact H) | exact H
 have Ny239:=am hy239
 clear hy239
 replace H:=bzS H
 obtain ⟨⟨t242,t243⟩,A50,H⟩:=H
 replace H:(jO.l0 k a2 a3 y236 t242 s0_0 t243 l1_0)=some (r1,r2):=H
 have A5:=am A50
 clear A50
 have H':=am H
 clear H
 go_enter Try.func92,Try.ntmps92
 go_wp2_with (first |((with_reducible refine jJ (N:=5) rfl ?_);refine bE (N:=5) (cs:=#[.slice A1_0 l1_0.length c1_0]) (t:=25) ?_;intro gb235 hg w6 hbox hb;have BK235:=am (hbox);have GW235:=am ((Y11:w.heap.size≤gb235));have GE235:=am ((Nat.le_trans HW0.out (Y11:w.heap.size≤gb235):w0.heap.size≤gb235));have NB0_235:=am ((Y21:g≠gb235));have NB235_0:=am ((Y22:gb235≠g));replace HK:=am (jb.trans (Y15) (jb.of_below hb g none) (.inl rfl));replace HB:=am (je (Y16) hb);replace HI0:=am (jf.below (Y14) hb);clear hb hbox hg) |((with_reducible refine jJ (N:=11) rfl ?_);refine Kd.jfc k36 _ 36 ?hg (N:=11) ?hd (xs:=([]:List (S36))) (inner:=[]) (ok:=fun _=>True) (okp:=fun _=>True) ?hr ?hp (fun _ hk=>hk) trivial (Below.refl _ _) (Nat.le_refl _) (by simp) ?_;(case hd=>rfl);(case hg=>rfl);(case hr=>exact Y5);(case hp=>exact (Reps.none _ _));intro v237 w7 ho8 hb hg_ hnew_;clear hg_ hnew_;(first | rw [← Ny236.out] at ho8 |(simp only [Int.reduceToNat] at ho8;rw [← Ny236.out] at ho8));have HO238:=am (Kd.jaa ho8 (jN (w:=w) (g:=g) (row:=none) (Y34)));replace BK235:=am (jk (g:=gb235) (o:=.cells #[.slice A1_0 l1_0.length c1_0] 25 (0,0)) (kq BK235.out) hb);replace HK:=am (jb.trans (Y34) (jb.of_below hb g none) (.inl rfl));replace HB:=am (je (Y58) hb);replace HI0:=am (jf.below (Y43) hb);clear hb ho8) |((with_reducible refine jJ (N:=13) rfl ?_);refine Kd.jfc (Kd.int .i64) _ 3 ?hg (N:=13) ?hd (xs:=([1,2,1,2,3]:List Int)) (inner:=[.int .i64 1, .int .i64 2, .int .i64 1, .int .i64 2, .int .i64 3]) (ok:=fun _=>True) (okp:=fun _=>True) ?hr ?hp (fun _ hk=>hk) trivial (Below.refl _ _) (Nat.le_refl _) (by simp) ?_;(case hd=>rfl);(case hg=>rfl);(case hr=>exact Y5);(case hp=>exact (Reps.one (show Kd.M (Kd.int .i64) _ _ _ 1 [.int .i64 1] from rfl) (Reps.one (show Kd.M (Kd.int .i64) _ _ _ 2 [.int .i64 2] from rfl) (Reps.one (show Kd.M (Kd.int .i64) _ _ _ 1 [.int .i64 1] from rfl) (Reps.one (show Kd.M (Kd.int .i64) _ _ _ 2 [.int .i64 2] from rfl) (Reps.one (show Kd.M (Kd.int .i64) _ _ _ 3 [.int .i64 3] from rfl) (Reps.none _ _)))))));intro v240 w9 ho10 hb hg_ hnew_;clear hg_ hnew_;(first | rw [← Ny239.out] at ho10 |(simp only [Int.reduceToNat] at ho10;rw [← Ny239.out] at ho10));have HO241:=am (Kd.jaa ho10 (jN (w:=w) (g:=g) (row:=none) (Y34)));replace HO238:=am (Kd.jZ (rq HO238.out) hb);replace BK235:=am (jk (g:=gb235) (o:=.cells #[.slice A1_0 l1_0.length c1_0] 25 (0,0)) (kq BK235.out) hb);replace HK:=am (jb.trans (Y34) (jb.of_below hb g none) (.inl rfl));replace HB:=am (je (Y58) hb);replace HI0:=am (jf.below (Y43) hb);clear hb ho10;obtain ⟨Ao11,co11,eo11⟩:=Kd.jka HO241.out;subst eo11) |((with_reducible refine jd (f:=58) rfl ?_);refine gL (some 14) Try.func58 #[.pointer (some ⟨g,0,none⟩), .slice Ao11 y239.length co11] ?_;(with_reducible refine (jh.calls k g s0_0 s0_1 _ _ y239 t242 t243 w0 _ ?side1 ?side2 ?side3 ?side4 ?side5 A5.out).mono ?_);(case side1=>exact Y43);(case side2=>exact Y58);(case side3=>exact cq (Kd.jy HO241.out).2.2);(case side4=>exact (Kd.jy HO241.out).2.1);(case side5=>exact jzb (jf.own_ne HI0.out HO241.out (by decide)));rintro e w12 ⟨rfl,hi,hb,hk⟩;refine ⟨_,rfl,?_⟩;replace BK235:=am (jb.blk hk (g':=gb235) (o:=.cells #[.slice A1_0 l1_0.length c1_0] 25 (0,0)) (kq BK235.out) NB235_0.out (by simp));replace HO238:=am (Kd.jI (Kd.jxa (jf.apart (show jf w0 _ g s0_0 s0_1 from Y43) (rq HO238.out) (by decide)) hk (fun _ h=>h.2)) (fun _ h=>h.1));replace HO241:=am (Kd.jI (Kd.jxa (jf.apart (show jf w0 _ g s0_0 s0_1 from Y43) (rq HO241.out) (by decide)) hk (fun _ h=>h.2)) (fun _ h=>h.1));replace HK:=am (jb.trans (Y34) hk (.inl rfl));replace HB:=am (hb);replace HI0:=am (hi);(try clear hb);(try clear hb2);(try clear hk);(try clear hi)))
 go_loopg [9,10] k (fun kq v9 v10 w'=>∃ (x9_1:List (S36)) (x10_1:Int) (x1001_1:Int),v10=.int .i64 x10_1∧jq (jO.l0 kq a2 a3 x9_1 x10_1 s0_0 x1001_1 l1_0=some (r1,r2))∧jq (kq≤k)∧jq (Kd.R k36 36 w' w.heap.size (fun _=>True) v9 x9_1)∧jq (w'.heap[gb235]?=some (.cells #[(.slice A1_0 l1_0.length c1_0)] 25 (0,0)))∧jq (jf w0 w' g s0_0 x1001_1)∧jq (jb w w' g none)∧jq (Below w0.heap.size w0 w'))
 case atStart=>exact ⟨(y236),(t242),(t243),(sq),H',⟨Nat.le_refl _⟩,⟨rq HO238.out⟩,⟨kq BK235.out⟩,⟨Y43⟩,⟨Y34⟩,⟨Y58⟩⟩
 case round =>
  clear H'
  try clear c1
  try clear p2
  try clear c5
  try clear c9
  obtain ⟨x9_1,x10_1,x1001_1,rfl,HA,HK1,HO_9,BK235,HI0,HK,HB⟩:=hrel
  cases gk with
  | zero=>exact absurd HA.out (by simp [jO.l0])
  | succ k1 =>
   have H:=HA.out
   clear HA
   simp only [jO.l0] at H
   by_cases c13:x10_1 > 0
   ·rw [if_pos c13] at H
    have c13b0:decide (0<x10_1)=true:=dzT c13
    clear c13
    replace H:=bzS H
    obtain ⟨⟨t244,t247⟩,A140,H⟩:=H
    replace H:(if x9_1.length+t244.length<4398046511104 then (jO.l0 k1 a2 a3 (x9_1 ++ t244) (wrap64 (x10_1 - 1)) s0_0 t247 l1_0) else (none))=some (r1,r2):=H
    have A14:=am A140
    clear A140
    by_cases c15:x9_1.length+t244.length<4398046511104
    ·rw [if_pos c15] at H
     have LMc15:=am c15
     clear c15
     obtain ⟨y248,hy248⟩:∃ y_:List (S36),y_=(x9_1 ++ t244):=⟨_,rfl⟩
     replace H:(jO.l0 k1 a2 a3 y248 (wrap64 (x10_1 - 1)) s0_0 t247 l1_0)=some (r1,r2):=by first |(rw [hy248];with_reducible exact H) |(have H2_:=(Option.bind_some _ _).symm.trans H;rw [hy248];with_reducible exact H2_) |(have H2_:=(Option.bind_some _ _).symm.trans H;with_reducible exact H2_) | with_reducible exact H |(rw [hy248];exact H) | exact H
     have Ny248:=am hy248
     clear hy248
     have H':=am H
     clear H
     have hnb16:=NB235_0.out
     have hnc16:=NB0_235.out
     have hcz17_0:=bc0 BK235.out
     have hfz17_0:=ja BK235.out 0
     go_wp2_with (first |((with_reducible refine jd (f:=101) rfl ?_);refine gL (some 24) Try.func101 #[.pointer (some ⟨g,0,none⟩), .agg #[.slice A1_0 l1_0.length c1_0], .int .i64 a2, .bool a3] ?_;(with_reducible refine (ih101 k1 (by have:=HK1.out;omega) g s0_0 x1001_1 _ _ l1_0 a2 a3 t244 t247 w0 _ ?side1 ?side2 ?side3 ?side4 A14.out).mono ?_);(case side1=>exact Y43);(case side2=>exact Y58);(case side3=>exact Kd.jvb HR1_0.out (Y34));(case side4=>exact HC1_0.out);rintro e w18 ⟨v245,rfl,ho0,hi,hb,hk⟩;refine ⟨_,rfl,?_⟩;have HO246:=am (Kd.jaa (Kd.jFc ho0 (Kd.R_lt (rq HO_9.out))) (jN (w:=w) (g:=g) (row:=none) (Y34)));replace HO_9:=am (Kd.jI (Kd.R_told (Kd.R_oldK (jf.apart (show jf w0 _ g s0_0 x1001_1 from Y43) (rq HO_9.out) (by decide)) hk) (Kd.jGc ho0)) (fun _ h_=>h_.1));replace BK235:=am (jb.blk hk (g':=gb235) (o:=.cells #[.slice A1_0 l1_0.length c1_0] 25 (0,0)) (kq BK235.out) NB235_0.out (by simp));replace HK:=am (jb.trans (Y34) hk (.inl rfl));replace HB:=am (hb);replace HI0:=am (hi);(try clear hb);(try clear hb2);(try clear hk);(try clear hi);(try clear ho0);obtain ⟨Ao20,co20,eo20⟩:=Kd.jka HO246.out;subst eo20) |((with_reducible refine jMa (b:=.append) (xs:=#[.tmp 19, .tmp 24]) rfl ?_);at_builtin;refine Kd.jYb k36 w.heap.size rfl (.tmp 19) (.tmp 24) 26 36 (.agg #[(.int .i64 0),(.int .i64 0),(.int .i64 0),(.int .i64 0)]) 32 rfl Try.underlying26 jLc rfl (by decide) (by omega) u9 x9_1 t244 _ _ _ (fun k_=>some k_≠(.slice Ao20 t244.length co20:Value).ownBlock) (fun _=>False) rfl rfl ?aO ?aR (fun _ _ h=>h) (fun _ h=>h.elim) ?aF (Below.refl _ _) ?aS ?aL ?_;(case aR=>repeat (first | exact (Kd.jy HO246.out).2.2 |(with_reducible refine Kd.jIc ?_ _) |(with_reducible refine Kd.jxc ?_ _) |(with_reducible refine Kd.C_drew ?_)));(case aF=>exact (fun k_ hk=>Kd.fresh' (Kd.R_lt (rq HO246.out)) k_ hk));(case aO=>exact (by (with_reducible repeat (first | apply Kd.jga | apply Kd.jfa | apply Kd.jea));exact Kd.jI HO_9.out (fun _ hk=>hk.2)));(case aS=>exact (jN (w:=w) (g:=g) (row:=none) (Y34)));(case aL=>have:=LMc15.out;omega);intro v249 w19 ho hb hg hat;rw [← Ny248.out] at ho;have n0_:=am (jXa (g:=gb235) (o:=.cells #[.slice A1_0 l1_0.length c1_0] 25 (0,0)) (kq BK235.out) hg (Kd.R_ne HO_9.out BK235.out (by decide)));have n1_:=am (jf.grown (Y43) hg (jf.own_ne HI0.out HO_9.out (by decide)));have n2_:=am (Kd.jYc (ok:=(fun _=>True)) (rq HO246.out) hg hat);have n3_:=am (job (Y58) HL.out hb);have n4_:=am (jb.trans (Y34) (jb.jHb hg g) (Kd.jgc HO_9.out));have n5_:=am (ho);clear BK235 HI0 HO246 HB HK HO_9;have BK235:=n0_;have HI0:=n1_;have HO246:=n2_;have HB:=n3_;have HK:=n4_;have HO250:=n5_;clear n0_ n1_ n2_ n3_ n4_ n5_ ho hb hg hat))
     go_roundg k1
     case measure=>have:=HK1.out;omega
     case rel=>exact ⟨(y248),(wrap64 (x10_1 - 1)),(t247),(sq),H',⟨by have:=HK1.out;omega⟩,⟨by (with_reducible repeat (first | apply Kd.jga | apply Kd.jfa | apply Kd.jea));exact Kd.jI HO250.out (fun _ hk=>trivial)⟩,⟨kq BK235.out⟩,⟨Y43⟩,⟨Y34⟩,⟨Y58⟩⟩
    ·rw [if_neg c15] at H
     exact absurd H (by simp)
   ·rw [if_neg c13] at H
    have c13b0:decide (0<x10_1)=false:=dzF c13
    clear c13
    simp only [Option.some.injEq,Prod.mk.injEq] at H
    obtain ⟨rfl,rfl⟩:=H
    go_wp2
    go_ret
    exact ⟨_,Y0,rq HO_9.out,Y43,Y58,Y34⟩
end Go.Proofs.Ytkedkinojeoeaaa.P
end
