/- One part of the proofs on this program: functions of the program as plain functions, that the code comes to them, and facts on them. -/
import Derived.Test.YtecdfgejmbpclaaYAll1
import Derived.Test.YtecdfgejmbpclaaYAll2
import Derived.Test.YtecdfgejmbpclaaYAll3
import Derived.Test.YtecdfgejmbpclaaYAll4
import Derived.Test.YtecdfgejmbpclaaYAll5
import Derived.Test.YtecdfgejmbpclaaYWAuto
section
namespace Go.Proofs.Ytecdfgejmbpclaa.P
open Go.RowKit Go.Proofs.YtecdfgejmbpclaaW.PrintWords Go.Proofs.YtecdfgejmbpclaaW.PrintLast Go.Proofs.YtecdfgejmbpclaaW.PrintMore
attribute [local go_sem] jka jia jEa jDa jba jaa jja jha jv
set_option linter.unusedVariables false
set_option linter.unusedSimpArgs false
mutual
def jc.j0 : Nat → Int → Int → Int → Bool → List (S92) → List (S97) → List (S54) → List (S94) → List (S54) → List (S54) → Option (Bool)
 | 0,_,_,_,_,_,_,_,_,_,_=>none
 | k+1,x2,x9,x13,x57,x417000,x418000,x431000,x435000,x439000,x444000=>if x57=true then (some false) else ((jla.f k x417000).bind fun t445=>((jub.f k x435000 t445).bind fun t448=>(if t448=true then ((jY.f k x418000).bind fun t449=>((jT.f k x439000 t449).bind fun t452=>(if t452=true then ((jNa.f k x435000 1).bind fun bt453=>((jxa.f k x439000 bt453.1).bind fun bt455=>(if bt455.1<0 then (jc.j1 k x2 x9 true x417000 x418000 x431000 x444000) else ((jT.f k x444000 x431000).bind fun t457=>(if t457=true then (jc.j1 k x2 x9 (x13 != x9) x417000 x418000 x431000 x444000) else (jc.j1 k x2 x9 true x417000 x418000 x431000 x444000)))))) else (some false)))) else (some false))))
def jc.j1 : Nat → Int → Int → Bool → List (S92) → List (S97) → List (S54) → List (S54) → Option (Bool)
 | 0,_,_,_,_,_,_,_=>none
 | k+1,x2,x9,x86,x417000,x418000,x431000,x444000=>if x86=true then (some false) else ((jxa.f k x444000 1).bind fun bt458=>((jUa.f k bt458.2 1).bind fun t460=>(if t460<0 then (some false) else (if t460=bt458.1 then ((jla.f k x417000).bind fun t461=>((jY.f k x418000).bind fun t464=>((jU.f k t461 t464 x2).bind fun bt467=>((jT.f k bt467.1 x431000).bind fun t472=>(if t472=true then (jc.j2 k bt458.1 (bt467.2 != x9) bt458.2) else (jc.j2 k bt458.1 true bt458.2)))))) else (some false)))))
def jc.j2 : Nat → Int → Bool → List (S54) → Option (Bool)
 | 0,_,_,_=>none
 | k+1,x15,x115,x444000=>if x115=true then (some false) else ((jUa.f k x444000 1).bind fun t473=>(if t473<0 then (some false) else (if t473=x15 then (some true) else (some false))))
end
def jc.f (k : Nat) (l0_0 : List (S92)) (l1_0 : List (S97)) (a2 : Int) : Option (Bool) := (job.f k l0_0 1048576).bind fun t418 => (if t418 < 0 then (some true) else ((jpb.f l1_0 t418).bind fun t419 => (if t419 < 0 then (some true) else ((jla.f k l0_0).bind fun t420 => ((jY.f k l1_0).bind fun t423 => ((jua.f k t420 t423 a2).bind fun bt426 => ((jla.f k l0_0).bind fun t431 => ((jY.f k l1_0).bind fun t435 => ((jU.f k t431 t435 a2).bind fun bt439 => ((jT.f k bt439.1 bt426.1).bind fun t444 => (if t444 = true then (jc.j0 k a2 bt426.2 bt439.2 (bt439.2 != bt426.2) l0_0 l1_0 bt426.1 t431 t435 bt439.1) else (jc.j0 k a2 bt426.2 bt439.2 true l0_0 l1_0 bt426.1 t431 t435 bt439.1))))))))))))
def jc.T8 : Bool × List (List Nat × List Nat) := (true, [([], []), ([0], [0]), ([], []), ([2, 1], [2]), ([], []), ([1, 3, 4, 3], [1, 3, 4]), ([5], [5]), ([6], [6]), ([6], [6]), ([], []), ([9, 7, 5, 0, 1, 2, 3, 4, 5, 6, 7, 9], [7, 9]), ([8, 10, 0, 1, 2, 3, 4, 5, 6, 7, 8, 9, 10], [8])])
def jc.B8 : List Nat := [0, 1, 0, 7, 0, 31, 63, 127, 127, 0, 767, 2047]
theorem jc.tab8 : rtab .any (opsOf Try.f3 8) = jc.T8 := by kernel_rfl
theorem jc.bits8 : jWb jc.T8.2 jc.B8 = true := by kernel_rfl
def jc.T31 : Bool × List (List Nat × List Nat) := (true, [([], []), ([0], [0]), ([], []), ([2, 1], [2]), ([], []), ([1, 3, 4, 3], [1, 3, 4]), ([5], [5]), ([6], [6]), ([6], [6]), ([], []), ([9, 7, 5, 0, 1, 2, 3, 4, 5, 6, 7, 9], [7, 9]), ([8, 10, 0, 1, 2, 3, 4, 5, 6, 7, 8, 9, 10], [8])])
def jc.B31 : List Nat := [0, 1, 0, 7, 0, 31, 63, 127, 127, 0, 767, 2047]
theorem jc.tab31 : rtab .any (opsOf Try.f3 31) = jc.T31 := by kernel_rfl
theorem jc.bits31 : jWb jc.T31.2 jc.B31 = true := by kernel_rfl
set_option maxHeartbeats 8000000 in
set_option maxRecDepth 100000 in
theorem jc.calls (k : Nat) (A0_0 : Option Addr) (c0_0 : Nat) (l0_0 : List (S92)) (A1_0 : Option Addr) (c1_0 : Nat) (l1_0 : List (S97)) (a2 : Int) (r : Bool) (w : World) (hr0_0 : Kd.C k92 w A0_0 l0_0.length l0_0) (hc0_0 : l0_0.length ≤ c0_0) (hr1_0 : Kd.C k97 w A1_0 l1_0.length l1_0) (hc1_0 : l1_0.length ≤ c1_0) (hT : r = true) (h : jc.f k l0_0 l1_0 a2 = some r) :
  Calls Try.prog 3 #[.agg #[.slice A0_0 l0_0.length c0_0], .agg #[.slice A1_0 l1_0.length c1_0], .int .i64 a2] w fun e w'=>e=.returned (.bool r)∧Below w.heap.size w w':=by
 have hu24:=Try.underlying24
 have hu27:=Try.underlying27
 have hu32:=Try.underlying32
 have hu37:=Try.underlying37
 have HR0_0:=am hr0_0
 have HC0_0:=am hc0_0
 clear hr0_0 hc0_0
 have HR1_0:=am hr1_0
 have HC1_0:=am hc1_0
 clear hr1_0 hc1_0
 have HB:=am (Below.refl w.heap.size w)
 have H:((job.f k l0_0 1048576).bind fun t418=>(if t418<0 then (some true) else ((jpb.f l1_0 t418).bind fun t419=>(if t419<0 then (some true) else ((jla.f k l0_0).bind fun t420=>((jY.f k l1_0).bind fun t423=>((jua.f k t420 t423 a2).bind fun bt426=>((jla.f k l0_0).bind fun t431=>((jY.f k l1_0).bind fun t435=>((jU.f k t431 t435 a2).bind fun bt439=>((jT.f k bt439.1 bt426.1).bind fun t444=>(if t444=true then (jc.j0 k a2 bt426.2 bt439.2 (bt439.2 != bt426.2) l0_0 l1_0 bt426.1 t431 t435 bt439.1) else (jc.j0 k a2 bt426.2 bt439.2 true l0_0 l1_0 bt426.1 t431 t435 bt439.1)))))))))))))=some r:=h
 clear h
 replace H:=bzS H
 obtain ⟨t418,A40,H⟩:=H
 replace H:(if t418<0 then (some true) else ((jpb.f l1_0 t418).bind fun t419=>(if t419<0 then (some true) else ((jla.f k l0_0).bind fun t420=>((jY.f k l1_0).bind fun t423=>((jua.f k t420 t423 a2).bind fun bt426=>((jla.f k l0_0).bind fun t431=>((jY.f k l1_0).bind fun t435=>((jU.f k t431 t435 a2).bind fun bt439=>((jT.f k bt439.1 bt426.1).bind fun t444=>(if t444=true then (jc.j0 k a2 bt426.2 bt439.2 (bt439.2 != bt426.2) l0_0 l1_0 bt426.1 t431 t435 bt439.1) else (jc.j0 k a2 bt426.2 bt439.2 true l0_0 l1_0 bt426.1 t431 t435 bt439.1))))))))))))=some r:=H
 have A4:=am A40
 clear A40
 by_cases c5:t418<0
 ·rw [if_pos c5] at H
  have c5b0:decide (t418<0)=true:=dzT c5
  clear c5
  obtain rfl:=Option.some.inj H
  go_enter Try.func3,Try.ntmps3
  go_wp2_with (first |((with_reducible refine jD (N:=3) rfl ?_);refine bE (N:=3) (cs:=#[.slice A0_0 l0_0.length c0_0]) (t:=24) ?_;intro gb416 hg w6 hbox hb;have BK416:=am (hbox);have GW416:=am ((Y0:w.heap.size≤gb416));have GE416:=am ((Y0:w.heap.size≤gb416));replace HB:=am (je (bq) hb);clear hb hbox hg) |((with_reducible refine jD (N:=4) rfl ?_);refine bE (N:=4) (cs:=#[.slice A1_0 l1_0.length c1_0]) (t:=27) ?_;intro gb417 hg w7 hbox hb;have BK417:=am (hbox);have GW417:=am ((Y43:w.heap.size≤gb417));have GE417:=am ((Y43:w.heap.size≤gb417));have NB416_417:=am ((Y12:gb416≠gb417));have NB417_416:=am ((Y13:gb417≠gb416));replace BK416:=am (ja (g:=gb416) (o:=.cells #[.slice A0_0 l0_0.length c0_0] 24 (0,0)) (kq BK416.out) hb);replace HB:=am (je (Y108) hb);clear hb hbox hg;have hnb8:=NB416_417.out;have hnc8:=NB417_416.out;have hcz9_0:=bc0 BK416.out;have hfz9_0:=jb BK416.out 0) |((with_reducible refine jE (f:=9) rfl ?_);refine gL (some 21) Try.func9 #[.agg #[.slice A0_0 l0_0.length c0_0], .int .i64 1048576] ?_;(with_reducible refine (job.calls k _ _ l0_0 1048576 t418 _ ?side1 ?side2 A4.out).mono ?_);(case side1=>exact cq (Kd.jK HR0_0.out HB.out));(case side2=>exact HC0_0.out);rintro e w10 ⟨rfl,hb⟩;refine ⟨_,rfl,?_⟩;replace BK416:=am (ja (g:=gb416) (o:=.cells #[.slice A0_0 l0_0.length c0_0] 24 (0,0)) (kq BK416.out) hb);replace BK417:=am (ja (g:=gb417) (o:=.cells #[.slice A1_0 l1_0.length c1_0] 27 (0,0)) (kq BK417.out) hb);replace HB:=am (je (Y11) hb);(try clear hb);(try clear hb2);(try clear hk);(try clear hi)))
  go_ret
  exact ⟨Y1,Y11⟩
 ·rw [if_neg c5] at H
  have c5b0:decide (t418<0)=false:=dzF c5
  clear c5
  replace H:=bzS H
  obtain ⟨t419,A110,H⟩:=H
  replace H:(if t419<0 then (some true) else ((jla.f k l0_0).bind fun t420=>((jY.f k l1_0).bind fun t423=>((jua.f k t420 t423 a2).bind fun bt426=>((jla.f k l0_0).bind fun t431=>((jY.f k l1_0).bind fun t435=>((jU.f k t431 t435 a2).bind fun bt439=>((jT.f k bt439.1 bt426.1).bind fun t444=>(if t444=true then (jc.j0 k a2 bt426.2 bt439.2 (bt439.2 != bt426.2) l0_0 l1_0 bt426.1 t431 t435 bt439.1) else (jc.j0 k a2 bt426.2 bt439.2 true l0_0 l1_0 bt426.1 t431 t435 bt439.1))))))))))=some r:=H
  have A11:=am A110
  clear A110
  by_cases c12:t419<0
  ·rw [if_pos c12] at H
   have c12b0:decide (t419<0)=true:=dzT c12
   clear c12
   obtain rfl:=Option.some.inj H
   go_enter Try.func3,Try.ntmps3
   go_wp2_with (first |((with_reducible refine jD (N:=3) rfl ?_);refine bE (N:=3) (cs:=#[.slice A0_0 l0_0.length c0_0]) (t:=24) ?_;intro gb416 hg w13 hbox hb;have BK416:=am (hbox);have GW416:=am ((Y0:w.heap.size≤gb416));have GE416:=am ((Y0:w.heap.size≤gb416));replace HB:=am (je (bq) hb);clear hb hbox hg) |((with_reducible refine jD (N:=4) rfl ?_);refine bE (N:=4) (cs:=#[.slice A1_0 l1_0.length c1_0]) (t:=27) ?_;intro gb417 hg w14 hbox hb;have BK417:=am (hbox);have GW417:=am ((Y43:w.heap.size≤gb417));have GE417:=am ((Y43:w.heap.size≤gb417));have NB416_417:=am ((Y12:gb416≠gb417));have NB417_416:=am ((Y13:gb417≠gb416));replace BK416:=am (ja (g:=gb416) (o:=.cells #[.slice A0_0 l0_0.length c0_0] 24 (0,0)) (kq BK416.out) hb);replace HB:=am (je (Y108) hb);clear hb hbox hg;have hnb15:=NB416_417.out;have hnc15:=NB417_416.out;have hcz16_0:=bc0 BK416.out;have hfz16_0:=jb BK416.out 0) |((with_reducible refine jE (f:=9) rfl ?_);refine gL (some 21) Try.func9 #[.agg #[.slice A0_0 l0_0.length c0_0], .int .i64 1048576] ?_;(with_reducible refine (job.calls k _ _ l0_0 1048576 t418 _ ?side1 ?side2 A4.out).mono ?_);(case side1=>exact cq (Kd.jK HR0_0.out HB.out));(case side2=>exact HC0_0.out);rintro e w17 ⟨rfl,hb⟩;refine ⟨_,rfl,?_⟩;replace BK416:=am (ja (g:=gb416) (o:=.cells #[.slice A0_0 l0_0.length c0_0] 24 (0,0)) (kq BK416.out) hb);replace BK417:=am (ja (g:=gb417) (o:=.cells #[.slice A1_0 l1_0.length c1_0] 27 (0,0)) (kq BK417.out) hb);replace HB:=am (je (Y11) hb);(try clear hb);(try clear hb2);(try clear hk);(try clear hi);have hcz18_0:=bc0 BK417.out;have hfz18_0:=jb BK417.out 0) |((with_reducible refine jE (f:=10) rfl ?_);refine gL (some 26) Try.func10 #[.agg #[.slice A1_0 l1_0.length c1_0], .int .i64 t418] ?_;(with_reducible refine (jpb.calls _ _ l1_0 t418 t419 _ ?side1 ?side2 A11.out).mono ?_);(case side1=>exact cq (Kd.jK HR1_0.out HB.out));(case side2=>exact HC1_0.out);rintro e w19 ⟨rfl,hb⟩;refine ⟨_,rfl,?_⟩;replace BK416:=am (ja (g:=gb416) (o:=.cells #[.slice A0_0 l0_0.length c0_0] 24 (0,0)) (kq BK416.out) hb);replace BK417:=am (ja (g:=gb417) (o:=.cells #[.slice A1_0 l1_0.length c1_0] 27 (0,0)) (kq BK417.out) hb);replace HB:=am (je (Y11) hb);(try clear hb);(try clear hb2);(try clear hk);(try clear hi)))
   go_ret
   exact ⟨Y1,Y11⟩
  ·rw [if_neg c12] at H
   have c12b0:decide (t419<0)=false:=dzF c12
   clear c12
   replace H:=bzS H
   obtain ⟨t420,A200,H⟩:=H
   replace H:((jY.f k l1_0).bind fun t423=>((jua.f k t420 t423 a2).bind fun bt426=>((jla.f k l0_0).bind fun t431=>((jY.f k l1_0).bind fun t435=>((jU.f k t431 t435 a2).bind fun bt439=>((jT.f k bt439.1 bt426.1).bind fun t444=>(if t444=true then (jc.j0 k a2 bt426.2 bt439.2 (bt439.2 != bt426.2) l0_0 l1_0 bt426.1 t431 t435 bt439.1) else (jc.j0 k a2 bt426.2 bt439.2 true l0_0 l1_0 bt426.1 t431 t435 bt439.1))))))))=some r:=H
   have A20:=am A200
   clear A200
   replace H:=bzS H
   obtain ⟨t423,A210,H⟩:=H
   replace H:((jua.f k t420 t423 a2).bind fun bt426=>((jla.f k l0_0).bind fun t431=>((jY.f k l1_0).bind fun t435=>((jU.f k t431 t435 a2).bind fun bt439=>((jT.f k bt439.1 bt426.1).bind fun t444=>(if t444=true then (jc.j0 k a2 bt426.2 bt439.2 (bt439.2 != bt426.2) l0_0 l1_0 bt426.1 t431 t435 bt439.1) else (jc.j0 k a2 bt426.2 bt439.2 true l0_0 l1_0 bt426.1 t431 t435 bt439.1)))))))=some r:=H
   have A21:=am A210
   clear A210
   replace H:=bzS H
   obtain ⟨⟨t426,t429⟩,A220,H⟩:=H
   replace H:((jla.f k l0_0).bind fun t431=>((jY.f k l1_0).bind fun t435=>((jU.f k t431 t435 a2).bind fun bt439=>((jT.f k bt439.1 t426).bind fun t444=>(if t444=true then (jc.j0 k a2 t429 bt439.2 (bt439.2 != t429) l0_0 l1_0 t426 t431 t435 bt439.1) else (jc.j0 k a2 t429 bt439.2 true l0_0 l1_0 t426 t431 t435 bt439.1))))))=some r:=H
   have A22:=am A220
   clear A220
   replace H:=bzS H
   obtain ⟨t431,A230,H⟩:=H
   replace H:((jY.f k l1_0).bind fun t435=>((jU.f k t431 t435 a2).bind fun bt439=>((jT.f k bt439.1 t426).bind fun t444=>(if t444=true then (jc.j0 k a2 t429 bt439.2 (bt439.2 != t429) l0_0 l1_0 t426 t431 t435 bt439.1) else (jc.j0 k a2 t429 bt439.2 true l0_0 l1_0 t426 t431 t435 bt439.1)))))=some r:=H
   have A23:=am A230
   clear A230
   replace H:=bzS H
   obtain ⟨t435,A240,H⟩:=H
   replace H:((jU.f k t431 t435 a2).bind fun bt439=>((jT.f k bt439.1 t426).bind fun t444=>(if t444=true then (jc.j0 k a2 t429 bt439.2 (bt439.2 != t429) l0_0 l1_0 t426 t431 t435 bt439.1) else (jc.j0 k a2 t429 bt439.2 true l0_0 l1_0 t426 t431 t435 bt439.1))))=some r:=H
   have A24:=am A240
   clear A240
   replace H:=bzS H
   obtain ⟨⟨t439,t442⟩,A250,H⟩:=H
   replace H:((jT.f k t439 t426).bind fun t444=>(if t444=true then (jc.j0 k a2 t429 t442 (t442 != t429) l0_0 l1_0 t426 t431 t435 t439) else (jc.j0 k a2 t429 t442 true l0_0 l1_0 t426 t431 t435 t439)))=some r:=H
   have A25:=am A250
   clear A250
   have HC26:=am H
   clear H
   go_enter Try.func3,Try.ntmps3
   try go_wp2_with (first |((with_reducible refine jD (N:=3) rfl ?_);refine bE (N:=3) (cs:=#[.slice A0_0 l0_0.length c0_0]) (t:=24) ?_;intro gb416 hg w27 hbox hb;have BK416:=am (hbox);have GW416:=am ((Y0:w.heap.size≤gb416));have GE416:=am ((Y0:w.heap.size≤gb416));replace HB:=am (je (bq) hb);clear hb hbox hg) |((with_reducible refine jD (N:=4) rfl ?_);refine bE (N:=4) (cs:=#[.slice A1_0 l1_0.length c1_0]) (t:=27) ?_;intro gb417 hg w28 hbox hb;have BK417:=am (hbox);have GW417:=am ((Y43:w.heap.size≤gb417));have GE417:=am ((Y43:w.heap.size≤gb417));have NB416_417:=am ((Y12:gb416≠gb417));have NB417_416:=am ((Y13:gb417≠gb416));replace BK416:=am (ja (g:=gb416) (o:=.cells #[.slice A0_0 l0_0.length c0_0] 24 (0,0)) (kq BK416.out) hb);replace HB:=am (je (Y108) hb);clear hb hbox hg;have hnb29:=NB416_417.out;have hnc29:=NB417_416.out;have hcz30_0:=bc0 BK416.out;have hfz30_0:=jb BK416.out 0) |((with_reducible refine jE (f:=9) rfl ?_);refine gL (some 21) Try.func9 #[.agg #[.slice A0_0 l0_0.length c0_0], .int .i64 1048576] ?_;(with_reducible refine (job.calls k _ _ l0_0 1048576 t418 _ ?side1 ?side2 A4.out).mono ?_);(case side1=>exact cq (Kd.jK HR0_0.out HB.out));(case side2=>exact HC0_0.out);rintro e w31 ⟨rfl,hb⟩;refine ⟨_,rfl,?_⟩;replace BK416:=am (ja (g:=gb416) (o:=.cells #[.slice A0_0 l0_0.length c0_0] 24 (0,0)) (kq BK416.out) hb);replace BK417:=am (ja (g:=gb417) (o:=.cells #[.slice A1_0 l1_0.length c1_0] 27 (0,0)) (kq BK417.out) hb);replace HB:=am (je (Y11) hb);(try clear hb);(try clear hb2);(try clear hk);(try clear hi);have hcz32_0:=bc0 BK417.out;have hfz32_0:=jb BK417.out 0) |((with_reducible refine jE (f:=10) rfl ?_);refine gL (some 26) Try.func10 #[.agg #[.slice A1_0 l1_0.length c1_0], .int .i64 t418] ?_;(with_reducible refine (jpb.calls _ _ l1_0 t418 t419 _ ?side1 ?side2 A11.out).mono ?_);(case side1=>exact cq (Kd.jK HR1_0.out HB.out));(case side2=>exact HC1_0.out);rintro e w33 ⟨rfl,hb⟩;refine ⟨_,rfl,?_⟩;replace BK416:=am (ja (g:=gb416) (o:=.cells #[.slice A0_0 l0_0.length c0_0] 24 (0,0)) (kq BK416.out) hb);replace BK417:=am (ja (g:=gb417) (o:=.cells #[.slice A1_0 l1_0.length c1_0] 27 (0,0)) (kq BK417.out) hb);replace HB:=am (je (Y11) hb);(try clear hb);(try clear hb2);(try clear hk);(try clear hi)))
   replace BK416:=am (jh BK416.out)
   replace BK417:=am (jh BK417.out)
   replace HB:=am (jm HB.out)
   refine jdc (n:=12) (S:=fun w'=>w'.cell? ⟨gb416,0,none⟩=some (.slice A0_0 l0_0.length c0_0)∧w'.cell? ⟨gb417,0,none⟩=some (.slice A1_0 l1_0.length c1_0)) (ds:=[]) #[false,false,false,false,false,false,false,false,false,false,false,false] (by kernel_rfl) rfl rfl ⟨(jr BK416.out 0).trans rfl,(jr BK417.out 0).trans rfl⟩ (fun hHeld=>?_);refine jBb jc.tab8 jc.bits8 (fun HT_ HW_=>?_)
   generalize w33.drew=w34 at BK416 BK417 HB hHeld ⊢
   refine pq (i:=4) (N:=some 34) #[false,false,false,false,true,false,false,false,false,false,false,false] ?_
   refine jCb (i:=0) (N:=some 30) (v:=?_) (a':=?_) #[true,false,false,false,true,false,false,false,false,false,false,false] rfl rfl (jTa HT_.out HW_.out (by kernel_rfl)) (fun _ _ _ h=>h) (Or.inl ⟨by rfl,?_⟩) hHeld ?_ ?_
   rotate_left
   ·rintro w' ⟨s0,s1⟩
    go_simp
    with_reducible rfl
   rotate_left
   ·exact sa
   refine jCb (i:=2) (N:=some 32) (v:=?_) (a':=?_) #[true,false,true,false,true,false,false,false,false,false,false,false] rfl rfl (jTa HT_.out HW_.out (by kernel_rfl)) (fun _ _ _ h=>h) (Or.inl ⟨by rfl,?_⟩) hHeld ?_ ?_
   rotate_left
   ·rintro w' ⟨s0,s1⟩
    go_simp
    with_reducible rfl
   rotate_left
   ·exact sa
   refine join_ (σ:=Value × Value × Value × Nat) 2 #[true,true,true,true,true,true,true,true,true,true,false,false] (fun s_=>[(31, .agg #[s_.1]),(33, .agg #[s_.2.1]),(35, .tuple #[.agg #[s_.2.2.1], .int .i64 t429]),(8, .pointer (some ⟨s_.2.2.2,0,none⟩)),(29, .tuple #[.agg #[s_.2.2.1], .int .i64 t429]),(36, .agg #[s_.2.2.1]),(37, .int .i64 t429)]) (fun s_ w'=>(w'.cell? ⟨gb416,0,none⟩=some (.slice A0_0 l0_0.length c0_0)∧w'.cell? ⟨gb417,0,none⟩=some (.slice A1_0 l1_0.length c1_0))∧(Kd.R k94 94 w' w.heap.size (fun _=>True) s_.1 t420)∧(Kd.R k54 54 w' w.heap.size (fun k_=>some k_≠(s_.2.2.1:Value).ownBlock) s_.2.1 t423)∧(Kd.R k54 54 w' w.heap.size (fun k_=>some k_≠(s_.2.1:Value).ownBlock) s_.2.2.1 t426)∧(w'.heap[gb416]?=some (.cells #[.slice A0_0 l0_0.length c0_0] 24 (0,0)))∧(w'.heap[gb417]?=some (.cells #[.slice A1_0 l1_0.length c1_0] 27 (0,0)))∧(w'.heap[s_.2.2.2]?=some (.cells #[.slice none 0 0] 32 (0,0)))∧(w.heap.size≤s_.2.2.2)∧(w.heap.size≤s_.2.2.2)∧(gb416≠s_.2.2.2)∧(s_.2.2.2≠gb416)∧(gb417≠s_.2.2.2)∧(s_.2.2.2≠gb417)∧(Below w.heap.size w w')) ?_ ?_
   rotate_left
   ·intro hCont
    refine two_ (i:=1) (j:=9) (Ni:=some 31) (Nj:=some 8) #[true,true,true,false,true,false,false,false,false,false,false,false] #[true,false,true,false,true,false,false,false,false,true,false,false] rfl rfl rfl rfl (two_of HT_.out (by kernel_rfl)) (by decide) (by decide) (fun K hK=>?_) (fun K hK=>?_)
    ·skip
     refine jDb Try.func12 (by kernel_rfl) rfl #[.agg #[.slice A0_0 l0_0.length c0_0]] (by rfl) rfl rfl (aq) ?_
     with_reducible refine (jla.calls k _ _ l0_0 t420 _ ?side1 ?side2 A20.out).mono ?_
     (case side1=>exact cq (Kd.jK HR0_0.out HB.out))
     (case side2=>exact HC0_0.out)
     rintro e w35 ⟨v421,rfl,ho0,hb⟩
     refine ⟨_,rfl,?_⟩
     have HO422:=am (Kd.jna ho0 (jA (Y11)))
     replace BK416:=am (ja (g:=gb416) (o:=.cells #[.slice A0_0 l0_0.length c0_0] 24 (0,0)) (kq BK416.out) hb)
     replace BK417:=am (ja (g:=gb417) (o:=.cells #[.slice A1_0 l1_0.length c1_0] 27 (0,0)) (kq BK417.out) hb)
     replace HB:=am (je (Y11) hb)
     (try clear hb)
     (try clear hb2)
     (try clear hk)
     (try clear hi)
     (try clear ho0)
     refine hK.out _ _ ⟨(jr BK416.out 0).trans rfl,(jr BK417.out 0).trans rfl⟩ (fun hHeld=>?_)
     clear hK K
     refine jYa (a':=?_) ?_ ?_
     rotate_left
     ·show Act.put _ (some 31) _=_
      simp only [Act.put,List.setIfInBounds_toArray,List.set_cons_zero,List.set_cons_succ,jZa,jdb]
      rfl
     refine two_ (i:=3) (j:=9) (Ni:=some 33) (Nj:=some 8) #[true,true,true,true,true,false,false,false,false,false,false,false] #[true,true,true,false,true,false,false,false,false,true,false,false] rfl rfl rfl rfl (two_of HT_.out (by kernel_rfl)) (by decide) (by decide) (fun K hK=>?_) (fun K hK=>?_)
     ·skip
      refine jDb Try.func13 (by kernel_rfl) rfl #[.agg #[.slice A1_0 l1_0.length c1_0]] (by rfl) rfl rfl (aq) ?_
      with_reducible refine (jY.calls k _ _ l1_0 t423 _ ?side1 ?side2 A21.out).mono ?_
      (case side1=>exact cq (Kd.jK HR1_0.out HB.out))
      (case side2=>exact HC1_0.out)
      rintro e w36 ⟨v424,rfl,ho0,hb⟩
      refine ⟨_,rfl,?_⟩
      have HO425:=am (Kd.jna ho0 (jA (Y11)))
      replace HO422:=am (Kd.jy (rq HO422.out) hb)
      replace BK416:=am (ja (g:=gb416) (o:=.cells #[.slice A0_0 l0_0.length c0_0] 24 (0,0)) (kq BK416.out) hb)
      replace BK417:=am (ja (g:=gb417) (o:=.cells #[.slice A1_0 l1_0.length c1_0] 27 (0,0)) (kq BK417.out) hb)
      replace HB:=am (je (Y11) hb)
      (try clear hb)
      (try clear hb2)
      (try clear hk)
      (try clear hi)
      (try clear ho0)
      obtain ⟨Ao37,co37,eo37⟩:=Kd.jca HO422.out
      (first | subst eo37 |(injection eo37 with f1_ f2_ f3_;have f4_:=f1_.symm;have f5_:=f3_.symm;clear f1_ f2_ f3_;subst f4_;subst f5_))
      obtain ⟨Ao38,co38,eo38⟩:=Kd.jca HO425.out
      (first | subst eo38 |(injection eo38 with f1_ f2_ f3_;have f4_:=f1_.symm;have f5_:=f3_.symm;clear f1_ f2_ f3_;subst f4_;subst f5_))
      refine hK.out _ _ ⟨(jr BK416.out 0).trans rfl,(jr BK417.out 0).trans rfl⟩ (fun hHeld=>?_)
      clear hK K
      refine jYa (a':=?_) ?_ ?_
      rotate_left
      ·show Act.put _ (some 33) _=_
       simp only [Act.put,List.setIfInBounds_toArray,List.set_cons_zero,List.set_cons_succ,jZa,jdb]
       rfl
      refine two_ (i:=5) (j:=9) (Ni:=some 35) (Nj:=some 8) #[true,true,true,true,true,true,false,false,false,false,false,false] #[true,true,true,true,true,false,false,false,false,true,false,false] rfl rfl rfl rfl (two_of HT_.out (by kernel_rfl)) (by decide) (by decide) (fun K hK=>?_) (fun K hK=>?_)
      ·skip
       refine jDb Try.func11 (by kernel_rfl) rfl #[.agg #[.slice Ao37 t420.length co37], .agg #[.slice Ao38 t423.length co38], .int .i64 a2] (by rfl) rfl rfl (aq) ?_
       with_reducible refine (jua.calls k _ _ t420 _ _ t423 a2 t426 t429 _ ?side1 ?side2 ?side3 ?side4 A22.out).mono ?_
       (case side1=>exact cq (Kd.jq HO422.out).2.2)
       (case side2=>exact (Kd.jq HO422.out).2.1)
       (case side3=>exact cq (Kd.jq HO425.out).2.2)
       (case side4=>exact (Kd.jq HO425.out).2.1)
       rintro e w39 ⟨v427,rfl,ho0,hb⟩
       refine ⟨_,rfl,?_⟩
       have HO428:=am (Kd.jna (Kd.jRa ho0 (Kd.R_lt (rq HO425.out))) (jA (Y11)))
       replace HO422:=am (Kd.jy (rq HO422.out) hb)
       replace HO425:=am (Kd.jta (rq HO425.out) (Kd.jQa ho0) hb)
       replace BK416:=am (ja (g:=gb416) (o:=.cells #[.slice A0_0 l0_0.length c0_0] 24 (0,0)) (kq BK416.out) hb)
       replace BK417:=am (ja (g:=gb417) (o:=.cells #[.slice A1_0 l1_0.length c1_0] 27 (0,0)) (kq BK417.out) hb)
       replace HB:=am (je (Y11) hb)
       (try clear hb)
       (try clear hb2)
       (try clear hk)
       (try clear hi)
       (try clear ho0)
       refine hK.out _ _ ⟨(jr BK416.out 0).trans rfl,(jr BK417.out 0).trans rfl⟩ (fun hHeld=>?_)
       clear hK K
       refine jYa (a':=?_) ?_ ?_
       rotate_left
       ·show Act.put _ (some 35) _=_
        simp only [Act.put,List.setIfInBounds_toArray,List.set_cons_zero,List.set_cons_succ,jZa,jdb]
        rfl
       refine pq (i:=6) (N:=some 29) #[true,true,true,true,true,true,true,false,false,false,false,false] ?_
       refine pq (i:=7) (N:=some 36) #[true,true,true,true,true,true,true,true,false,false,false,false] ?_
       refine pq (i:=8) (N:=some 37) #[true,true,true,true,true,true,true,true,true,false,false,false] ?_
       refine one_ (i:=9) (N:=some 8) #[true,true,true,true,true,true,true,true,true,true,false,false] rfl rfl (jlb HT_.out (by kernel_rfl)) (by decide) (fun K hK=>?_)
       refine jYb ?hg (N:=8) ?hd (cs:=#[.slice none 0 0]) (t:=32) ?hr ?_;(case hd=>rfl);(case hg=>rfl);(case hr=>exact Y3)
       intro gb430 hg w40 hbox hb
       have BK430:=am (hbox)
       have GW430:=am ((Y27:w.heap.size≤gb430))
       have GE430:=am ((Y27:w.heap.size≤gb430))
       have NB416_430:=am ((Y12:gb416≠gb430))
       have NB430_416:=am ((Y13:gb430≠gb416))
       have NB417_430:=am ((Y16:gb417≠gb430))
       have NB430_417:=am ((Y17:gb430≠gb417))
       replace HO422:=am (Kd.jy (rq HO422.out) hb)
       replace HO425:=am (Kd.jy (rq HO425.out) hb)
       replace HO428:=am (Kd.jy (rq HO428.out) hb)
       replace BK416:=am (ja (g:=gb416) (o:=.cells #[.slice A0_0 l0_0.length c0_0] 24 (0,0)) (kq BK416.out) hb)
       replace BK417:=am (ja (g:=gb417) (o:=.cells #[.slice A1_0 l1_0.length c1_0] 27 (0,0)) (kq BK417.out) hb)
       replace HB:=am (je (Y11) hb)
       clear hb hbox hg
       refine hK.out _ _ ⟨(jr BK416.out 0).trans rfl,(jr BK417.out 0).trans rfl⟩ (fun hHeld=>?_)
       clear hK K
       refine jYa (a':=?_) ?_ ?_
       rotate_left
       ·show Act.put _ (some 8) _=_
        simp only [Act.put,List.setIfInBounds_toArray,List.set_cons_zero,List.set_cons_succ,jZa,jdb]
        rfl
       exact jYa (by simp only [jlc,Act.put,List.setIfInBounds_toArray,List.set_cons_zero,List.set_cons_succ]) (hCont (.slice Ao37 t420.length co37, .slice Ao38 t423.length co38,v427,gb430) _ ⟨hHeld,(rq HO422.out),(Y71),(Y72),(kq BK416.out),(kq BK417.out),(kq BK430.out),GW430.out,GE430.out,NB416_430.out,NB430_416.out,NB417_430.out,NB430_417.out,(Y9)⟩)
      ·skip
       refine jYb ?hg (N:=8) ?hd (cs:=#[.slice none 0 0]) (t:=32) ?hr ?_;(case hd=>rfl);(case hg=>rfl);(case hr=>exact Y3)
       intro gb430 hg w37 hbox hb
       have BK430:=am (hbox)
       have GW430:=am ((Y27:w.heap.size≤gb430))
       have GE430:=am ((Y27:w.heap.size≤gb430))
       have NB416_430:=am ((Y12:gb416≠gb430))
       have NB430_416:=am ((Y13:gb430≠gb416))
       have NB417_430:=am ((Y16:gb417≠gb430))
       have NB430_417:=am ((Y17:gb430≠gb417))
       replace HO422:=am (Kd.jy (rq HO422.out) hb)
       replace HO425:=am (Kd.jy (rq HO425.out) hb)
       replace BK416:=am (ja (g:=gb416) (o:=.cells #[.slice A0_0 l0_0.length c0_0] 24 (0,0)) (kq BK416.out) hb)
       replace BK417:=am (ja (g:=gb417) (o:=.cells #[.slice A1_0 l1_0.length c1_0] 27 (0,0)) (kq BK417.out) hb)
       replace HB:=am (je (Y11) hb)
       clear hb hbox hg
       obtain ⟨Ao38,co38,eo38⟩:=Kd.jca HO422.out
       (first | subst eo38 |(injection eo38 with f1_ f2_ f3_;have f4_:=f1_.symm;have f5_:=f3_.symm;clear f1_ f2_ f3_;subst f4_;subst f5_))
       obtain ⟨Ao39,co39,eo39⟩:=Kd.jca HO425.out
       (first | subst eo39 |(injection eo39 with f1_ f2_ f3_;have f4_:=f1_.symm;have f5_:=f3_.symm;clear f1_ f2_ f3_;subst f4_;subst f5_))
       refine hK.out _ _ ⟨(jr BK416.out 0).trans rfl,(jr BK417.out 0).trans rfl⟩ (fun hHeld=>?_)
       clear hK K
       refine jYa (a':=?_) ?_ ?_
       rotate_left
       ·show Act.put _ (some 8) _=_
        simp only [Act.put,List.setIfInBounds_toArray,List.set_cons_zero,List.set_cons_succ,jZa,jdb]
        rfl
       refine one_ (i:=5) (N:=some 35) #[true,true,true,true,true,true,false,false,false,true,false,false] rfl rfl (jlb HT_.out (by kernel_rfl)) (by decide) (fun K hK=>?_)
       refine jDb Try.func11 (by kernel_rfl) rfl #[.agg #[.slice Ao38 t420.length co38], .agg #[.slice Ao39 t423.length co39], .int .i64 a2] (by rfl) rfl rfl (aq) ?_
       with_reducible refine (jua.calls k _ _ t420 _ _ t423 a2 t426 t429 _ ?side1 ?side2 ?side3 ?side4 A22.out).mono ?_
       (case side1=>exact cq (Kd.jq HO422.out).2.2)
       (case side2=>exact (Kd.jq HO422.out).2.1)
       (case side3=>exact cq (Kd.jq HO425.out).2.2)
       (case side4=>exact (Kd.jq HO425.out).2.1)
       rintro e w40 ⟨v427,rfl,ho0,hb⟩
       refine ⟨_,rfl,?_⟩
       have HO428:=am (Kd.jna (Kd.jRa ho0 (Kd.R_lt (rq HO425.out))) (jA (Y9)))
       replace HO422:=am (Kd.jy (rq HO422.out) hb)
       replace HO425:=am (Kd.jta (rq HO425.out) (Kd.jQa ho0) hb)
       replace BK416:=am (ja (g:=gb416) (o:=.cells #[.slice A0_0 l0_0.length c0_0] 24 (0,0)) (kq BK416.out) hb)
       replace BK417:=am (ja (g:=gb417) (o:=.cells #[.slice A1_0 l1_0.length c1_0] 27 (0,0)) (kq BK417.out) hb)
       replace BK430:=am (ja (g:=gb430) (o:=.cells #[.slice none 0 0] 32 (0,0)) (kq BK430.out) hb)
       replace HB:=am (je (Y9) hb)
       (try clear hb)
       (try clear hb2)
       (try clear hk)
       (try clear hi)
       (try clear ho0)
       refine hK.out _ _ ⟨(jr BK416.out 0).trans rfl,(jr BK417.out 0).trans rfl⟩ (fun hHeld=>?_)
       clear hK K
       refine jYa (a':=?_) ?_ ?_
       rotate_left
       ·show Act.put _ (some 35) _=_
        simp only [Act.put,List.setIfInBounds_toArray,List.set_cons_zero,List.set_cons_succ,jZa,jdb]
        rfl
       refine pq (i:=6) (N:=some 29) #[true,true,true,true,true,true,true,false,false,true,false,false] ?_
       refine pq (i:=7) (N:=some 36) #[true,true,true,true,true,true,true,true,false,true,false,false] ?_
       refine pq (i:=8) (N:=some 37) #[true,true,true,true,true,true,true,true,true,true,false,false] ?_
       exact jYa (by simp only [jlc,Act.put,List.setIfInBounds_toArray,List.set_cons_zero,List.set_cons_succ]) (hCont (.slice Ao38 t420.length co38, .slice Ao39 t423.length co39,v427,gb430) _ ⟨hHeld,(rq HO422.out),(Y71),(Y72),(kq BK416.out),(kq BK417.out),(kq BK430.out),GW430.out,GE430.out,NB416_430.out,NB430_416.out,NB417_430.out,NB430_417.out,(Y9)⟩)
     ·skip
      refine jYb ?hg (N:=8) ?hd (cs:=#[.slice none 0 0]) (t:=32) ?hr ?_;(case hd=>rfl);(case hg=>rfl);(case hr=>exact Y3)
      intro gb430 hg w36 hbox hb
      have BK430:=am (hbox)
      have GW430:=am ((Y27:w.heap.size≤gb430))
      have GE430:=am ((Y27:w.heap.size≤gb430))
      have NB416_430:=am ((Y12:gb416≠gb430))
      have NB430_416:=am ((Y13:gb430≠gb416))
      have NB417_430:=am ((Y16:gb417≠gb430))
      have NB430_417:=am ((Y17:gb430≠gb417))
      replace HO422:=am (Kd.jy (rq HO422.out) hb)
      replace BK416:=am (ja (g:=gb416) (o:=.cells #[.slice A0_0 l0_0.length c0_0] 24 (0,0)) (kq BK416.out) hb)
      replace BK417:=am (ja (g:=gb417) (o:=.cells #[.slice A1_0 l1_0.length c1_0] 27 (0,0)) (kq BK417.out) hb)
      replace HB:=am (je (Y11) hb)
      clear hb hbox hg
      refine hK.out _ _ ⟨(jr BK416.out 0).trans rfl,(jr BK417.out 0).trans rfl⟩ (fun hHeld=>?_)
      clear hK K
      refine jYa (a':=?_) ?_ ?_
      rotate_left
      ·show Act.put _ (some 8) _=_
       simp only [Act.put,List.setIfInBounds_toArray,List.set_cons_zero,List.set_cons_succ,jZa,jdb]
       rfl
      refine one_ (i:=3) (N:=some 33) #[true,true,true,true,true,false,false,false,false,true,false,false] rfl rfl (jlb HT_.out (by kernel_rfl)) (by decide) (fun K hK=>?_)
      refine jDb Try.func13 (by kernel_rfl) rfl #[.agg #[.slice A1_0 l1_0.length c1_0]] (by rfl) rfl rfl (aq) ?_
      with_reducible refine (jY.calls k _ _ l1_0 t423 _ ?side1 ?side2 A21.out).mono ?_
      (case side1=>exact cq (Kd.jK HR1_0.out HB.out))
      (case side2=>exact HC1_0.out)
      rintro e w37 ⟨v424,rfl,ho0,hb⟩
      refine ⟨_,rfl,?_⟩
      have HO425:=am (Kd.jna ho0 (jA (Y9)))
      replace HO422:=am (Kd.jy (rq HO422.out) hb)
      replace BK416:=am (ja (g:=gb416) (o:=.cells #[.slice A0_0 l0_0.length c0_0] 24 (0,0)) (kq BK416.out) hb)
      replace BK417:=am (ja (g:=gb417) (o:=.cells #[.slice A1_0 l1_0.length c1_0] 27 (0,0)) (kq BK417.out) hb)
      replace BK430:=am (ja (g:=gb430) (o:=.cells #[.slice none 0 0] 32 (0,0)) (kq BK430.out) hb)
      replace HB:=am (je (Y9) hb)
      (try clear hb)
      (try clear hb2)
      (try clear hk)
      (try clear hi)
      (try clear ho0)
      obtain ⟨Ao38,co38,eo38⟩:=Kd.jca HO422.out
      (first | subst eo38 |(injection eo38 with f1_ f2_ f3_;have f4_:=f1_.symm;have f5_:=f3_.symm;clear f1_ f2_ f3_;subst f4_;subst f5_))
      obtain ⟨Ao39,co39,eo39⟩:=Kd.jca HO425.out
      (first | subst eo39 |(injection eo39 with f1_ f2_ f3_;have f4_:=f1_.symm;have f5_:=f3_.symm;clear f1_ f2_ f3_;subst f4_;subst f5_))
      refine hK.out _ _ ⟨(jr BK416.out 0).trans rfl,(jr BK417.out 0).trans rfl⟩ (fun hHeld=>?_)
      clear hK K
      refine jYa (a':=?_) ?_ ?_
      rotate_left
      ·show Act.put _ (some 33) _=_
       simp only [Act.put,List.setIfInBounds_toArray,List.set_cons_zero,List.set_cons_succ,jZa,jdb]
       rfl
      refine one_ (i:=5) (N:=some 35) #[true,true,true,true,true,true,false,false,false,true,false,false] rfl rfl (jlb HT_.out (by kernel_rfl)) (by decide) (fun K hK=>?_)
      refine jDb Try.func11 (by kernel_rfl) rfl #[.agg #[.slice Ao38 t420.length co38], .agg #[.slice Ao39 t423.length co39], .int .i64 a2] (by rfl) rfl rfl (aq) ?_
      with_reducible refine (jua.calls k _ _ t420 _ _ t423 a2 t426 t429 _ ?side1 ?side2 ?side3 ?side4 A22.out).mono ?_
      (case side1=>exact cq (Kd.jq HO422.out).2.2)
      (case side2=>exact (Kd.jq HO422.out).2.1)
      (case side3=>exact cq (Kd.jq HO425.out).2.2)
      (case side4=>exact (Kd.jq HO425.out).2.1)
      rintro e w40 ⟨v427,rfl,ho0,hb⟩
      refine ⟨_,rfl,?_⟩
      have HO428:=am (Kd.jna (Kd.jRa ho0 (Kd.R_lt (rq HO425.out))) (jA (Y9)))
      replace HO422:=am (Kd.jy (rq HO422.out) hb)
      replace HO425:=am (Kd.jta (rq HO425.out) (Kd.jQa ho0) hb)
      replace BK416:=am (ja (g:=gb416) (o:=.cells #[.slice A0_0 l0_0.length c0_0] 24 (0,0)) (kq BK416.out) hb)
      replace BK417:=am (ja (g:=gb417) (o:=.cells #[.slice A1_0 l1_0.length c1_0] 27 (0,0)) (kq BK417.out) hb)
      replace BK430:=am (ja (g:=gb430) (o:=.cells #[.slice none 0 0] 32 (0,0)) (kq BK430.out) hb)
      replace HB:=am (je (Y9) hb)
      (try clear hb)
      (try clear hb2)
      (try clear hk)
      (try clear hi)
      (try clear ho0)
      refine hK.out _ _ ⟨(jr BK416.out 0).trans rfl,(jr BK417.out 0).trans rfl⟩ (fun hHeld=>?_)
      clear hK K
      refine jYa (a':=?_) ?_ ?_
      rotate_left
      ·show Act.put _ (some 35) _=_
       simp only [Act.put,List.setIfInBounds_toArray,List.set_cons_zero,List.set_cons_succ,jZa,jdb]
       rfl
      refine pq (i:=6) (N:=some 29) #[true,true,true,true,true,true,true,false,false,true,false,false] ?_
      refine pq (i:=7) (N:=some 36) #[true,true,true,true,true,true,true,true,false,true,false,false] ?_
      refine pq (i:=8) (N:=some 37) #[true,true,true,true,true,true,true,true,true,true,false,false] ?_
      exact jYa (by simp only [jlc,Act.put,List.setIfInBounds_toArray,List.set_cons_zero,List.set_cons_succ]) (hCont (.slice Ao38 t420.length co38, .slice Ao39 t423.length co39,v427,gb430) _ ⟨hHeld,(rq HO422.out),(Y71),(Y72),(kq BK416.out),(kq BK417.out),(kq BK430.out),GW430.out,GE430.out,NB416_430.out,NB430_416.out,NB417_430.out,NB430_417.out,(Y9)⟩)
    ·skip
     refine jYb ?hg (N:=8) ?hd (cs:=#[.slice none 0 0]) (t:=32) ?hr ?_;(case hd=>rfl);(case hg=>rfl);(case hr=>exact Y3)
     intro gb430 hg w35 hbox hb
     have BK430:=am (hbox)
     have GW430:=am ((Y27:w.heap.size≤gb430))
     have GE430:=am ((Y27:w.heap.size≤gb430))
     have NB416_430:=am ((Y12:gb416≠gb430))
     have NB430_416:=am ((Y13:gb430≠gb416))
     have NB417_430:=am ((Y16:gb417≠gb430))
     have NB430_417:=am ((Y17:gb430≠gb417))
     replace BK416:=am (ja (g:=gb416) (o:=.cells #[.slice A0_0 l0_0.length c0_0] 24 (0,0)) (kq BK416.out) hb)
     replace BK417:=am (ja (g:=gb417) (o:=.cells #[.slice A1_0 l1_0.length c1_0] 27 (0,0)) (kq BK417.out) hb)
     replace HB:=am (je (Y11) hb)
     clear hb hbox hg
     refine hK.out _ _ ⟨(jr BK416.out 0).trans rfl,(jr BK417.out 0).trans rfl⟩ (fun hHeld=>?_)
     clear hK K
     refine jYa (a':=?_) ?_ ?_
     rotate_left
     ·show Act.put _ (some 8) _=_
      simp only [Act.put,List.setIfInBounds_toArray,List.set_cons_zero,List.set_cons_succ,jZa,jdb]
      rfl
     refine one_ (i:=1) (N:=some 31) #[true,true,true,false,true,false,false,false,false,true,false,false] rfl rfl (jlb HT_.out (by kernel_rfl)) (by decide) (fun K hK=>?_)
     refine jDb Try.func12 (by kernel_rfl) rfl #[.agg #[.slice A0_0 l0_0.length c0_0]] (by rfl) rfl rfl (aq) ?_
     with_reducible refine (jla.calls k _ _ l0_0 t420 _ ?side1 ?side2 A20.out).mono ?_
     (case side1=>exact cq (Kd.jK HR0_0.out HB.out))
     (case side2=>exact HC0_0.out)
     rintro e w36 ⟨v421,rfl,ho0,hb⟩
     refine ⟨_,rfl,?_⟩
     have HO422:=am (Kd.jna ho0 (jA (Y9)))
     replace BK416:=am (ja (g:=gb416) (o:=.cells #[.slice A0_0 l0_0.length c0_0] 24 (0,0)) (kq BK416.out) hb)
     replace BK417:=am (ja (g:=gb417) (o:=.cells #[.slice A1_0 l1_0.length c1_0] 27 (0,0)) (kq BK417.out) hb)
     replace BK430:=am (ja (g:=gb430) (o:=.cells #[.slice none 0 0] 32 (0,0)) (kq BK430.out) hb)
     replace HB:=am (je (Y9) hb)
     (try clear hb)
     (try clear hb2)
     (try clear hk)
     (try clear hi)
     (try clear ho0)
     refine hK.out _ _ ⟨(jr BK416.out 0).trans rfl,(jr BK417.out 0).trans rfl⟩ (fun hHeld=>?_)
     clear hK K
     refine jYa (a':=?_) ?_ ?_
     rotate_left
     ·show Act.put _ (some 31) _=_
      simp only [Act.put,List.setIfInBounds_toArray,List.set_cons_zero,List.set_cons_succ,jZa,jdb]
      rfl
     refine one_ (i:=3) (N:=some 33) #[true,true,true,true,true,false,false,false,false,true,false,false] rfl rfl (jlb HT_.out (by kernel_rfl)) (by decide) (fun K hK=>?_)
     refine jDb Try.func13 (by kernel_rfl) rfl #[.agg #[.slice A1_0 l1_0.length c1_0]] (by rfl) rfl rfl (aq) ?_
     with_reducible refine (jY.calls k _ _ l1_0 t423 _ ?side1 ?side2 A21.out).mono ?_
     (case side1=>exact cq (Kd.jK HR1_0.out HB.out))
     (case side2=>exact HC1_0.out)
     rintro e w37 ⟨v424,rfl,ho0,hb⟩
     refine ⟨_,rfl,?_⟩
     have HO425:=am (Kd.jna ho0 (jA (Y9)))
     replace HO422:=am (Kd.jy (rq HO422.out) hb)
     replace BK416:=am (ja (g:=gb416) (o:=.cells #[.slice A0_0 l0_0.length c0_0] 24 (0,0)) (kq BK416.out) hb)
     replace BK417:=am (ja (g:=gb417) (o:=.cells #[.slice A1_0 l1_0.length c1_0] 27 (0,0)) (kq BK417.out) hb)
     replace BK430:=am (ja (g:=gb430) (o:=.cells #[.slice none 0 0] 32 (0,0)) (kq BK430.out) hb)
     replace HB:=am (je (Y9) hb)
     (try clear hb)
     (try clear hb2)
     (try clear hk)
     (try clear hi)
     (try clear ho0)
     obtain ⟨Ao38,co38,eo38⟩:=Kd.jca HO422.out
     (first | subst eo38 |(injection eo38 with f1_ f2_ f3_;have f4_:=f1_.symm;have f5_:=f3_.symm;clear f1_ f2_ f3_;subst f4_;subst f5_))
     obtain ⟨Ao39,co39,eo39⟩:=Kd.jca HO425.out
     (first | subst eo39 |(injection eo39 with f1_ f2_ f3_;have f4_:=f1_.symm;have f5_:=f3_.symm;clear f1_ f2_ f3_;subst f4_;subst f5_))
     refine hK.out _ _ ⟨(jr BK416.out 0).trans rfl,(jr BK417.out 0).trans rfl⟩ (fun hHeld=>?_)
     clear hK K
     refine jYa (a':=?_) ?_ ?_
     rotate_left
     ·show Act.put _ (some 33) _=_
      simp only [Act.put,List.setIfInBounds_toArray,List.set_cons_zero,List.set_cons_succ,jZa,jdb]
      rfl
     refine one_ (i:=5) (N:=some 35) #[true,true,true,true,true,true,false,false,false,true,false,false] rfl rfl (jlb HT_.out (by kernel_rfl)) (by decide) (fun K hK=>?_)
     refine jDb Try.func11 (by kernel_rfl) rfl #[.agg #[.slice Ao38 t420.length co38], .agg #[.slice Ao39 t423.length co39], .int .i64 a2] (by rfl) rfl rfl (aq) ?_
     with_reducible refine (jua.calls k _ _ t420 _ _ t423 a2 t426 t429 _ ?side1 ?side2 ?side3 ?side4 A22.out).mono ?_
     (case side1=>exact cq (Kd.jq HO422.out).2.2)
     (case side2=>exact (Kd.jq HO422.out).2.1)
     (case side3=>exact cq (Kd.jq HO425.out).2.2)
     (case side4=>exact (Kd.jq HO425.out).2.1)
     rintro e w40 ⟨v427,rfl,ho0,hb⟩
     refine ⟨_,rfl,?_⟩
     have HO428:=am (Kd.jna (Kd.jRa ho0 (Kd.R_lt (rq HO425.out))) (jA (Y9)))
     replace HO422:=am (Kd.jy (rq HO422.out) hb)
     replace HO425:=am (Kd.jta (rq HO425.out) (Kd.jQa ho0) hb)
     replace BK416:=am (ja (g:=gb416) (o:=.cells #[.slice A0_0 l0_0.length c0_0] 24 (0,0)) (kq BK416.out) hb)
     replace BK417:=am (ja (g:=gb417) (o:=.cells #[.slice A1_0 l1_0.length c1_0] 27 (0,0)) (kq BK417.out) hb)
     replace BK430:=am (ja (g:=gb430) (o:=.cells #[.slice none 0 0] 32 (0,0)) (kq BK430.out) hb)
     replace HB:=am (je (Y9) hb)
     (try clear hb)
     (try clear hb2)
     (try clear hk)
     (try clear hi)
     (try clear ho0)
     refine hK.out _ _ ⟨(jr BK416.out 0).trans rfl,(jr BK417.out 0).trans rfl⟩ (fun hHeld=>?_)
     clear hK K
     refine jYa (a':=?_) ?_ ?_
     rotate_left
     ·show Act.put _ (some 35) _=_
      simp only [Act.put,List.setIfInBounds_toArray,List.set_cons_zero,List.set_cons_succ,jZa,jdb]
      rfl
     refine pq (i:=6) (N:=some 29) #[true,true,true,true,true,true,true,false,false,true,false,false] ?_
     refine pq (i:=7) (N:=some 36) #[true,true,true,true,true,true,true,true,false,true,false,false] ?_
     refine pq (i:=8) (N:=some 37) #[true,true,true,true,true,true,true,true,true,true,false,false] ?_
     exact jYa (by simp only [jlc,Act.put,List.setIfInBounds_toArray,List.set_cons_zero,List.set_cons_succ]) (hCont (.slice Ao38 t420.length co38, .slice Ao39 t423.length co39,v427,gb430) _ ⟨hHeld,(rq HO422.out),(Y71),(Y72),(kq BK416.out),(kq BK417.out),(kq BK430.out),GW430.out,GE430.out,NB416_430.out,NB430_416.out,NB417_430.out,NB430_417.out,(Y9)⟩)
   rintro ⟨v421,v424,v427,gb430⟩ w41 ⟨hS_,h0_,h1_,h2_,h3_,h4_,h5_,h6_,h7_,h8_,h9_,h10_,h11_,h12_⟩
   have n0_:jw (Kd.R k94 94 w41 w.heap.size (fun _=>True) v421 t420):=⟨h0_⟩
   have n1_:jw (Kd.R k54 54 w41 w.heap.size (fun k_=>some k_≠(v427:Value).ownBlock) v424 t423):=⟨h1_⟩
   have n2_:jw (Kd.R k54 54 w41 w.heap.size (fun k_=>some k_≠(v424:Value).ownBlock) v427 t426):=⟨h2_⟩
   have n3_:jw (w41.heap[gb416]?=some (.cells #[.slice A0_0 l0_0.length c0_0] 24 (0,0))):=⟨h3_⟩
   have n4_:jw (w41.heap[gb417]?=some (.cells #[.slice A1_0 l1_0.length c1_0] 27 (0,0))):=⟨h4_⟩
   have n5_:jw (w41.heap[gb430]?=some (.cells #[.slice none 0 0] 32 (0,0))):=⟨h5_⟩
   have n6_:jw (w.heap.size≤gb430):=⟨h6_⟩
   have n7_:jw (w.heap.size≤gb430):=⟨h7_⟩
   have n8_:jw (gb416≠gb430):=⟨h8_⟩
   have n9_:jw (gb430≠gb416):=⟨h9_⟩
   have n10_:jw (gb417≠gb430):=⟨h10_⟩
   have n11_:jw (gb430≠gb417):=⟨h11_⟩
   have n12_:jw (Below w.heap.size w w41):=⟨h12_⟩
   clear BK416
   clear BK417
   clear HB
   clear h0_ h1_ h2_ h3_ h4_ h5_ h6_ h7_ h8_ h9_ h10_ h11_ h12_
   have HO422:=n0_
   have HO425:=n1_
   have HO428:=n2_
   have BK416:=n3_
   have BK417:=n4_
   have BK430:=n5_
   have GW430:=n6_
   have GE430:=n7_
   have NB416_430:=n8_
   have NB430_416:=n9_
   have NB417_430:=n10_
   have NB430_417:=n11_
   have HB:=n12_
   clear n0_ n1_ n2_ n3_ n4_ n5_ n6_ n7_ n8_ n9_ n10_ n11_ n12_
   have hHeld:w41.cell? ⟨gb416,0,none⟩=some (.slice A0_0 l0_0.length c0_0)∧w41.cell? ⟨gb417,0,none⟩=some (.slice A1_0 l1_0.length c1_0):=hS_
   obtain ⟨Ao42,co42,eo42⟩:=Kd.jca HO428.out
   (first | subst eo42 |(injection eo42 with f1_ f2_ f3_;have f4_:=f1_.symm;have f5_:=f3_.symm;clear f1_ f2_ f3_;subst f4_;subst f5_))
   refine jYa (a':=?_) ?_ ?_
   rotate_left
   ·simp only [jlc,Act.put,List.setIfInBounds_toArray,List.set_cons_zero,List.set_cons_succ]
    rfl
   refine one_ (i:=10) (N:=none) #[true,true,true,true,true,true,true,true,true,true,true,false] rfl rfl (jlb HT_.out (by kernel_rfl)) (by decide) (fun K hK=>?_)
   have hs43:w41.cell? ⟨gb430,0,none⟩=some (.slice none 0 0):=(jr BK430.out 0).trans rfl
   have hfs43:=jb BK430.out 0
   have hns43_0:=NB416_430.out
   have hns43_1:=NB417_430.out
   have hms43_0:=NB430_416.out
   have hms43_1:=NB430_417.out
   refine skip_ (w1:=?_) (by rfl) rfl ?_ ?_
   rotate_left
   ·go_simp
    rfl
   refine hK.out _ _ ⟨((cell_far (p:=⟨gb430,_,none⟩) NB416_430.out _).trans (hHeld.1)),((cell_far (p:=⟨gb430,_,none⟩) NB417_430.out _).trans (hHeld.2))⟩ (fun hHeld=>?_)
   clear hK K
   refine pq (i:=11) (N:=some 9) #[true,true,true,true,true,true,true,true,true,true,true,true] ?_
   refine done_ (jic HT_.out (by kernel_rfl)) ?_
   have hnb44:=NB416_430.out
   have hnc44:=NB430_416.out
   have hcz45_0:=bc0 BK416.out
   have hfz45_0:=jb BK416.out 0
   go_upto_region 12 with (first |((with_reducible refine jE (f:=12) rfl ?_);refine gL (some 39) Try.func12 #[.agg #[.slice A0_0 l0_0.length c0_0]] ?_;(with_reducible refine (jla.calls k _ _ l0_0 t431 _ ?side1 ?side2 A23.out).mono ?_);(case side1=>exact Kd.jK HR0_0.out (Y9));(case side2=>exact HC0_0.out);rintro e w46 ⟨v432,rfl,ho0,hb⟩;refine ⟨_,rfl,?_⟩;have HO433:=am (Kd.jna (Kd.jRa ho0 (Kd.R_lt (Y150))) (jA (Y9)));replace HO422:=am (Kd.jta (Y150) (Kd.jQa ho0) hb);replace HO425:=am (Kd.jy (by (with_reducible repeat (first | apply Kd.jM | apply Kd.jL | apply Kd.jQ));exact (Kd.jI (Kd.jya (p:=⟨gb430,0,none⟩) (Kd.jwa HO425.out BK430.out (by decide)) (fun _ hk=>hk.2) (.slice Ao42 t426.length co42)) (fun _ h_=>h_.1))) hb);replace HO428:=am (Kd.jy (by (with_reducible repeat (first | apply Kd.jM | apply Kd.jL | apply Kd.jQ));exact (Kd.jI (Kd.jya (p:=⟨gb430,0,none⟩) (Kd.jwa HO428.out BK430.out (by decide)) (fun _ hk=>hk.2) (.slice Ao42 t426.length co42)) (fun _ h_=>h_.1))) hb);replace BK416:=am (ja (g:=gb416) (o:=.cells #[.slice A0_0 l0_0.length c0_0] 24 (0,0)) (by (with_reducible repeat (first | refine jf ?_ _ | refine jh ?_ | refine jg ?_ _));refine jO ?_ NB416_430.out _;(with_reducible repeat (first | refine jf ?_ _ | refine jh ?_ | refine jg ?_ _));exact BK416.out) hb);replace BK417:=am (ja (g:=gb417) (o:=.cells #[.slice A1_0 l1_0.length c1_0] 27 (0,0)) (by (with_reducible repeat (first | refine jf ?_ _ | refine jh ?_ | refine jg ?_ _));refine jO ?_ NB417_430.out _;(with_reducible repeat (first | refine jf ?_ _ | refine jh ?_ | refine jg ?_ _));exact BK417.out) hb);replace BK430:=am (ja (g:=gb430) (o:=.cells #[.slice Ao42 t426.length co42] 32 (0,0)) (by (with_reducible repeat (first | refine jf ?_ _ | refine jh ?_ | refine jg ?_ _));refine jza (cs:=#[.slice none 0 0]) ?_ 0 _ rfl;(with_reducible repeat (first | refine jf ?_ _ | refine jh ?_ | refine jg ?_ _));exact BK430.out) hb);replace HB:=am (je (Y9) hb);(try clear hb);(try clear hb2);(try clear hk);(try clear hi);(try clear ho0)) |((with_reducible refine jD (N:=10) rfl ?_);refine bE (N:=10) (cs:=#[.slice none 0 0]) (t:=37) ?_;intro gb434 hg w47 hbox hb;have BK434:=am (hbox);have GW434:=am ((Y151:w.heap.size≤gb434));have GE434:=am ((Y151:w.heap.size≤gb434));have NB416_434:=am ((Y12:gb416≠gb434));have NB434_416:=am ((Y13:gb434≠gb416));have NB417_434:=am ((Y16:gb417≠gb434));have NB434_417:=am ((Y17:gb434≠gb417));have NB430_434:=am ((Y29:gb430≠gb434));have NB434_430:=am ((Y30:gb434≠gb430));replace HO422:=am (Kd.jy (rq HO422.out) hb);replace HO425:=am (Kd.jy (rq HO425.out) hb);replace HO428:=am (Kd.jy (rq HO428.out) hb);replace HO433:=am (Kd.jy (rq HO433.out) hb);replace BK416:=am (ja (g:=gb416) (o:=.cells #[.slice A0_0 l0_0.length c0_0] 24 (0,0)) (kq BK416.out) hb);replace BK417:=am (ja (g:=gb417) (o:=.cells #[.slice A1_0 l1_0.length c1_0] 27 (0,0)) (kq BK417.out) hb);replace BK430:=am (ja (g:=gb430) (o:=.cells #[.slice Ao42 t426.length co42] 32 (0,0)) (kq BK430.out) hb);replace HB:=am (je (Y9) hb);clear hb hbox hg;obtain ⟨Ao48,co48,eo48⟩:=Kd.jca HO433.out;subst eo48;have hnb49:=NB434_416.out;have hnc49:=NB416_434.out;have hnb50:=NB434_417.out;have hnc50:=NB417_434.out;have hnb51:=NB434_430.out;have hnc51:=NB430_434.out;have hcz52_0:=bc0 BK434.out;have hfz52_0:=jb BK434.out 0;have hnb53:=NB417_430.out;have hnc53:=NB430_417.out;have hcz54_0:=bc0 BK417.out;have hfz54_0:=jb BK417.out 0) |((with_reducible refine jE (f:=13) rfl ?_);refine gL (some 41) Try.func13 #[.agg #[.slice A1_0 l1_0.length c1_0]] ?_;(with_reducible refine (jY.calls k _ _ l1_0 t435 _ ?side1 ?side2 A24.out).mono ?_);(case side1=>exact Kd.jK HR1_0.out (Y73));(case side2=>exact HC1_0.out);rintro e w55 ⟨v436,rfl,ho0,hb⟩;refine ⟨_,rfl,?_⟩;have HO437:=am (Kd.jna (Kd.jRa (Kd.jRa ho0 (Kd.R_lt (Y152))) (Kd.R_lt (Y153))) (jA (Y73)));replace HO422:=am (Kd.jy (by (with_reducible repeat (first | apply Kd.jM | apply Kd.jL | apply Kd.jQ));exact (Kd.jI (Kd.jya (p:=⟨gb434,0,none⟩) (Kd.jwa HO422.out BK434.out (by decide)) (fun _ hk=>hk.2) (.slice Ao48 t431.length co48)) (fun _ h_=>h_.1))) hb);replace HO425:=am (Kd.jta (Y152) (Kd.jQa ho0) hb);replace HO428:=am (Kd.jta (Y153) (Kd.jQa ho0) hb);replace HO433:=am (Kd.jy (by (with_reducible repeat (first | apply Kd.jM | apply Kd.jL | apply Kd.jQ));exact (Kd.jI (Kd.jya (p:=⟨gb434,0,none⟩) (Kd.jwa HO433.out BK434.out (by decide)) (fun _ hk=>hk.2) (.slice Ao48 t431.length co48)) (fun _ h_=>h_.1))) hb);replace BK416:=am (ja (g:=gb416) (o:=.cells #[.slice A0_0 l0_0.length c0_0] 24 (0,0)) (by (with_reducible repeat (first | refine jf ?_ _ | refine jh ?_ | refine jg ?_ _));refine jO ?_ NB416_434.out _;(with_reducible repeat (first | refine jf ?_ _ | refine jh ?_ | refine jg ?_ _));exact BK416.out) hb);replace BK417:=am (ja (g:=gb417) (o:=.cells #[.slice A1_0 l1_0.length c1_0] 27 (0,0)) (by (with_reducible repeat (first | refine jf ?_ _ | refine jh ?_ | refine jg ?_ _));refine jO ?_ NB417_434.out _;(with_reducible repeat (first | refine jf ?_ _ | refine jh ?_ | refine jg ?_ _));exact BK417.out) hb);replace BK430:=am (ja (g:=gb430) (o:=.cells #[.slice Ao42 t426.length co42] 32 (0,0)) (by (with_reducible repeat (first | refine jf ?_ _ | refine jh ?_ | refine jg ?_ _));refine jO ?_ NB430_434.out _;(with_reducible repeat (first | refine jf ?_ _ | refine jh ?_ | refine jg ?_ _));exact BK430.out) hb);replace BK434:=am (ja (g:=gb434) (o:=.cells #[.slice Ao48 t431.length co48] 37 (0,0)) (by (with_reducible repeat (first | refine jf ?_ _ | refine jh ?_ | refine jg ?_ _));refine jza (cs:=#[.slice none 0 0]) ?_ 0 _ rfl;(with_reducible repeat (first | refine jf ?_ _ | refine jh ?_ | refine jg ?_ _));exact BK434.out) hb);replace HB:=am (je (Y73) hb);(try clear hb);(try clear hb2);(try clear hk);(try clear hi);(try clear ho0)) |((with_reducible refine jD (N:=11) rfl ?_);refine bE (N:=11) (cs:=#[.slice none 0 0]) (t:=32) ?_;intro gb438 hg w56 hbox hb;have BK438:=am (hbox);have GW438:=am ((Y154:w.heap.size≤gb438));have GE438:=am ((Y154:w.heap.size≤gb438));have NB416_438:=am ((Y12:gb416≠gb438));have NB438_416:=am ((Y13:gb438≠gb416));have NB417_438:=am ((Y16:gb417≠gb438));have NB438_417:=am ((Y17:gb438≠gb417));have NB430_438:=am ((Y29:gb430≠gb438));have NB438_430:=am ((Y30:gb438≠gb430));have NB434_438:=am ((by rw [hg];exact Nat.ne_of_lt (jP (g:=gb434) (o:=.cells #[.slice Ao48 t431.length co48] 37 (0,0)) (kq BK434.out)):gb434≠gb438));have NB438_434:=am ((by rw [hg];exact Nat.ne_of_gt (jP (g:=gb434) (o:=.cells #[.slice Ao48 t431.length co48] 37 (0,0)) (kq BK434.out)):gb438≠gb434));replace HO422:=am (Kd.jy (rq HO422.out) hb);replace HO425:=am (Kd.jy (rq HO425.out) hb);replace HO428:=am (Kd.jy (rq HO428.out) hb);replace HO433:=am (Kd.jy (rq HO433.out) hb);replace HO437:=am (Kd.jy (rq HO437.out) hb);replace BK416:=am (ja (g:=gb416) (o:=.cells #[.slice A0_0 l0_0.length c0_0] 24 (0,0)) (kq BK416.out) hb);replace BK417:=am (ja (g:=gb417) (o:=.cells #[.slice A1_0 l1_0.length c1_0] 27 (0,0)) (kq BK417.out) hb);replace BK430:=am (ja (g:=gb430) (o:=.cells #[.slice Ao42 t426.length co42] 32 (0,0)) (kq BK430.out) hb);replace BK434:=am (ja (g:=gb434) (o:=.cells #[.slice Ao48 t431.length co48] 37 (0,0)) (kq BK434.out) hb);replace HB:=am (je (Y73) hb);clear hb hbox hg;obtain ⟨Ao57,co57,eo57⟩:=Kd.jca HO437.out;subst eo57;have hnb58:=NB438_416.out;have hnc58:=NB416_438.out;have hnb59:=NB438_417.out;have hnc59:=NB417_438.out;have hnb60:=NB438_430.out;have hnc60:=NB430_438.out;have hnb61:=NB438_434.out;have hnc61:=NB434_438.out;have hcz62_0:=bc0 BK438.out;have hfz62_0:=jb BK438.out 0;have hcz63_0:=bc0 BK434.out;have hfz63_0:=jb BK434.out 0) |((with_reducible refine jE (f:=14) rfl ?_);refine gL (some 46) Try.func14 #[.agg #[.slice Ao48 t431.length co48], .agg #[.slice Ao57 t435.length co57], .int .i64 a2] ?_;(with_reducible refine (jU.calls k _ _ t431 _ _ t435 a2 t439 t442 _ ?side1 ?side2 ?side3 ?side4 A25.out).mono ?_);(case side1=>refine (Kd.jq (e:=94) (base:=w.heap.size) (ok:=fun k_=>(True∧some k_≠(v421:Value).ownBlock)) (n:=t431.length) (c:=co48) ?_).2.2;exact (Y155));(case side2=>exact (Kd.jq HO433.out).2.1);(case side3=>refine (Kd.jq (e:=54) (base:=w.heap.size) (ok:=fun k_=>((True∧some k_≠(v424:Value).ownBlock)∧some k_≠(.slice Ao42 t426.length co42:Value).ownBlock)) (n:=t435.length) (c:=co57) ?_).2.2;exact (Y109));(case side4=>exact (Kd.jq HO437.out).2.1);rintro e w64 ⟨v440,rfl,ho0,hb⟩;refine ⟨_,rfl,?_⟩;have HO441:=am (Kd.jna (Kd.jRa (Kd.jRa (Kd.jRa ho0 (Kd.R_lt (Y156))) (Kd.R_lt (Y157))) (Kd.R_lt (Y109))) (jA (Y110)));replace HO422:=am (Kd.jy (by (with_reducible repeat (first | apply Kd.jM | apply Kd.jL | apply Kd.jQ));exact (Kd.jI (Kd.jya (p:=⟨gb438,0,none⟩) (Kd.jwa HO422.out BK438.out (by decide)) (fun _ hk=>hk.2) (.slice Ao57 t435.length co57)) (fun _ h_=>h_.1))) hb);replace HO425:=am (Kd.jta (Y156) (Kd.jQa ho0) hb);replace HO428:=am (Kd.jta (Y157) (Kd.jQa ho0) hb);replace HO433:=am (Kd.jy (Y155) hb);replace HO437:=am (Kd.jta (Y109) (Kd.jQa ho0) hb);replace BK416:=am (ja (g:=gb416) (o:=.cells #[.slice A0_0 l0_0.length c0_0] 24 (0,0)) (by (with_reducible repeat (first | refine jf ?_ _ | refine jh ?_ | refine jg ?_ _));refine jO ?_ NB416_438.out _;(with_reducible repeat (first | refine jf ?_ _ | refine jh ?_ | refine jg ?_ _));exact BK416.out) hb);replace BK417:=am (ja (g:=gb417) (o:=.cells #[.slice A1_0 l1_0.length c1_0] 27 (0,0)) (by (with_reducible repeat (first | refine jf ?_ _ | refine jh ?_ | refine jg ?_ _));refine jO ?_ NB417_438.out _;(with_reducible repeat (first | refine jf ?_ _ | refine jh ?_ | refine jg ?_ _));exact BK417.out) hb);replace BK430:=am (ja (g:=gb430) (o:=.cells #[.slice Ao42 t426.length co42] 32 (0,0)) (by (with_reducible repeat (first | refine jf ?_ _ | refine jh ?_ | refine jg ?_ _));refine jO ?_ NB430_438.out _;(with_reducible repeat (first | refine jf ?_ _ | refine jh ?_ | refine jg ?_ _));exact BK430.out) hb);replace BK434:=am (ja (g:=gb434) (o:=.cells #[.slice Ao48 t431.length co48] 37 (0,0)) (by (with_reducible repeat (first | refine jf ?_ _ | refine jh ?_ | refine jg ?_ _));refine jO ?_ NB434_438.out _;(with_reducible repeat (first | refine jf ?_ _ | refine jh ?_ | refine jg ?_ _));exact BK434.out) hb);replace BK438:=am (ja (g:=gb438) (o:=.cells #[.slice Ao57 t435.length co57] 32 (0,0)) (by (with_reducible repeat (first | refine jf ?_ _ | refine jh ?_ | refine jg ?_ _));refine jza (cs:=#[.slice none 0 0]) ?_ 0 _ rfl;(with_reducible repeat (first | refine jf ?_ _ | refine jh ?_ | refine jg ?_ _));exact BK438.out) hb);replace HB:=am (je (Y110) hb);(try clear hb);(try clear hb2);(try clear hk);(try clear hi);(try clear ho0)) |((with_reducible refine jD (N:=12) rfl ?_);refine bE (N:=12) (cs:=#[.slice none 0 0]) (t:=32) ?_;intro gb443 hg w65 hbox hb;have BK443:=am (hbox);have GW443:=am ((Y158:w.heap.size≤gb443));have GE443:=am ((Y158:w.heap.size≤gb443));have NB416_443:=am ((Y12:gb416≠gb443));have NB443_416:=am ((Y13:gb443≠gb416));have NB417_443:=am ((Y16:gb417≠gb443));have NB443_417:=am ((Y17:gb443≠gb417));have NB430_443:=am ((Y29:gb430≠gb443));have NB443_430:=am ((Y30:gb443≠gb430));have NB434_443:=am ((by rw [hg];exact Nat.ne_of_lt (jP (g:=gb434) (o:=.cells #[.slice Ao48 t431.length co48] 37 (0,0)) (kq BK434.out)):gb434≠gb443));have NB443_434:=am ((by rw [hg];exact Nat.ne_of_gt (jP (g:=gb434) (o:=.cells #[.slice Ao48 t431.length co48] 37 (0,0)) (kq BK434.out)):gb443≠gb434));have NB438_443:=am ((by rw [hg];exact Nat.ne_of_lt (jP (g:=gb438) (o:=.cells #[.slice Ao57 t435.length co57] 32 (0,0)) (kq BK438.out)):gb438≠gb443));have NB443_438:=am ((by rw [hg];exact Nat.ne_of_gt (jP (g:=gb438) (o:=.cells #[.slice Ao57 t435.length co57] 32 (0,0)) (kq BK438.out)):gb443≠gb438));replace HO422:=am (Kd.jy (rq HO422.out) hb);replace HO425:=am (Kd.jy (rq HO425.out) hb);replace HO428:=am (Kd.jy (rq HO428.out) hb);replace HO433:=am (Kd.jy (rq HO433.out) hb);replace HO437:=am (Kd.jy (rq HO437.out) hb);replace HO441:=am (Kd.jy (rq HO441.out) hb);replace BK416:=am (ja (g:=gb416) (o:=.cells #[.slice A0_0 l0_0.length c0_0] 24 (0,0)) (kq BK416.out) hb);replace BK417:=am (ja (g:=gb417) (o:=.cells #[.slice A1_0 l1_0.length c1_0] 27 (0,0)) (kq BK417.out) hb);replace BK430:=am (ja (g:=gb430) (o:=.cells #[.slice Ao42 t426.length co42] 32 (0,0)) (kq BK430.out) hb);replace BK434:=am (ja (g:=gb434) (o:=.cells #[.slice Ao48 t431.length co48] 37 (0,0)) (kq BK434.out) hb);replace BK438:=am (ja (g:=gb438) (o:=.cells #[.slice Ao57 t435.length co57] 32 (0,0)) (kq BK438.out) hb);replace HB:=am (je (Y110) hb);clear hb hbox hg;obtain ⟨Ao66,co66,eo66⟩:=Kd.jca HO441.out;subst eo66;have hnb67:=NB443_416.out;have hnc67:=NB416_443.out;have hnb68:=NB443_417.out;have hnc68:=NB417_443.out;have hnb69:=NB443_430.out;have hnc69:=NB430_443.out;have hnb70:=NB443_434.out;have hnc70:=NB434_443.out;have hnb71:=NB443_438.out;have hnc71:=NB438_443.out;have hcz72_0:=bc0 BK443.out;have hfz72_0:=jb BK443.out 0))
   (try simp only [Act.put,List.setIfInBounds_toArray,List.set_cons_zero,List.set_cons_succ])
   go_cut [57] (fun v57 wc=>∃ (kq:Nat) (x57_25:Bool),v57=.bool x57_25∧jw (jc.j0 kq a2 t429 t442 x57_25 l0_0 l1_0 t426 t431 t435 t439=some r)∧jw (kq≤k)∧jw (Kd.R k54 54 wc w.heap.size (fun k_=>some k_≠((.slice Ao57 t435.length co57):Value).ownBlock∧some k_≠((.slice Ao66 t439.length co66):Value).ownBlock) (.slice Ao42 t426.length co42) t426)∧jw (Kd.R k94 94 wc w.heap.size (fun _=>True) (.slice Ao48 t431.length co48) t431)∧jw (Kd.R k54 54 wc w.heap.size (fun k_=>some k_≠((.slice Ao42 t426.length co42):Value).ownBlock∧some k_≠((.slice Ao66 t439.length co66):Value).ownBlock) (.slice Ao57 t435.length co57) t435)∧jw (Kd.R k54 54 wc w.heap.size (fun k_=>some k_≠((.slice Ao42 t426.length co42):Value).ownBlock∧some k_≠((.slice Ao57 t435.length co57):Value).ownBlock) (.slice Ao66 t439.length co66) t439)∧jw (wc.heap[gb416]?=some (.cells #[(.slice A0_0 l0_0.length c0_0)] 24 (0,0)))∧jw (wc.heap[gb417]?=some (.cells #[(.slice A1_0 l1_0.length c1_0)] 27 (0,0)))∧jw (wc.heap[gb430]?=some (.cells #[(.slice Ao42 t426.length co42)] 32 (0,0)))∧jw (wc.heap[gb434]?=some (.cells #[(.slice Ao48 t431.length co48)] 37 (0,0)))∧jw (wc.heap[gb438]?=some (.cells #[(.slice Ao57 t435.length co57)] 32 (0,0)))∧jw (wc.heap[gb443]?=some (.cells #[(.slice Ao66 t439.length co66)] 32 (0,0)))∧jw (Below w.heap.size w wc))
   case first =>
    have H:=HC26.out
    clear HC26
    replace H:=bzS H
    obtain ⟨t444,A730,H⟩:=H
    replace H:(if t444=true then (jc.j0 k a2 t429 t442 (t442 != t429) l0_0 l1_0 t426 t431 t435 t439) else (jc.j0 k a2 t429 t442 true l0_0 l1_0 t426 t431 t435 t439))=some r:=H
    have A73:=am A730
    clear A730
    by_cases c74:t444=true
    ·subst c74
     have H1:(jc.j0 k a2 t429 t442 (t442 != t429) l0_0 l1_0 t426 t431 t435 t439)=some r:=by rw [if_pos rfl] at H;exact H
     clear H
     have H:=H1
     clear H1
     have H':=am H
     clear H
     have hnb75:=NB443_416.out
     have hnc75:=NB416_443.out
     have hnb76:=NB443_417.out
     have hnc76:=NB417_443.out
     have hnb77:=NB443_430.out
     have hnc77:=NB430_443.out
     have hnb78:=NB443_434.out
     have hnc78:=NB434_443.out
     have hnb79:=NB443_438.out
     have hnc79:=NB438_443.out
     have hcz80_0:=bc0 BK443.out
     have hfz80_0:=jb BK443.out 0
     have hnb81:=NB430_416.out
     have hnc81:=NB416_430.out
     have hnb82:=NB430_417.out
     have hnc82:=NB417_430.out
     have hnb83:=NB430_434.out
     have hnc83:=NB434_430.out
     have hnb84:=NB430_438.out
     have hnc84:=NB438_430.out
     have hcz85_0:=bc0 BK430.out
     have hfz85_0:=jb BK430.out 0
     go_wp2_with (first |((with_reducible refine jE (f:=15) rfl ?_);refine gL (some 51) Try.func15 #[.agg #[.slice Ao66 t439.length co66], .agg #[.slice Ao42 t426.length co42]] ?_;(with_reducible refine (jT.calls k _ _ t439 _ _ t426 true _ ?side1 ?side2 ?side3 ?side4 A73.out).mono ?_);(case side1=>refine (Kd.jq (e:=54) (base:=w.heap.size) (ok:=fun k_=>(((True∧some k_≠(v424:Value).ownBlock)∧some k_≠(.slice Ao42 t426.length co42:Value).ownBlock)∧some k_≠(.slice Ao57 t435.length co57:Value).ownBlock)) (n:=t439.length) (c:=co66) ?_).2.2;exact (Y74));(case side2=>exact (Kd.jq HO441.out).2.1);(case side3=>refine (Kd.jq (e:=54) (base:=w.heap.size) (ok:=fun k_=>((some k_≠(v424:Value).ownBlock∧some k_≠(.slice Ao57 t435.length co57:Value).ownBlock)∧some k_≠(.slice Ao66 t439.length co66:Value).ownBlock)) (n:=t426.length) (c:=co42) ?_).2.2;exact (Y75));(case side4=>exact (Kd.jq HO428.out).2.1);rintro e w86 ⟨rfl,hb⟩;refine ⟨_,rfl,?_⟩;replace HO422:=am (Kd.jy (Y159) hb);replace HO425:=am (Kd.jy (Y160) hb);replace HO428:=am (Kd.jy (Y75) hb);replace HO433:=am (Kd.jy (Y161) hb);replace HO437:=am (Kd.jy (Y162) hb);replace HO441:=am (Kd.jy (Y74) hb);replace BK416:=am (ja (g:=gb416) (o:=.cells #[.slice A0_0 l0_0.length c0_0] 24 (0,0)) (Y163) hb);replace BK417:=am (ja (g:=gb417) (o:=.cells #[.slice A1_0 l1_0.length c1_0] 27 (0,0)) (Y164) hb);replace BK430:=am (ja (g:=gb430) (o:=.cells #[.slice Ao42 t426.length co42] 32 (0,0)) (Y165) hb);replace BK434:=am (ja (g:=gb434) (o:=.cells #[.slice Ao48 t431.length co48] 37 (0,0)) (Y166) hb);replace BK438:=am (ja (g:=gb438) (o:=.cells #[.slice Ao57 t435.length co57] 32 (0,0)) (Y167) hb);replace BK443:=am (ja (g:=gb443) (o:=.cells #[.slice Ao66 t439.length co66] 32 (0,0)) (Y168) hb);replace HB:=am (je (Y4) hb);(try clear hb);(try clear hb2);(try clear hk);(try clear hi)))
     go_meet
     case rel=>exact ⟨_,((t442 != t429)),(sq),H',⟨by first | omega | exact Nat.le_refl _⟩,⟨by (with_reducible repeat (first | apply Kd.jM | apply Kd.jL | apply Kd.jQ));exact Kd.jI HO428.out (fun _ hk=>⟨hk.1.2,hk.2⟩)⟩,⟨by (with_reducible repeat (first | apply Kd.jM | apply Kd.jL | apply Kd.jQ));exact Kd.jI HO433.out (fun _ hk=>trivial)⟩,⟨by (with_reducible repeat (first | apply Kd.jM | apply Kd.jL | apply Kd.jQ));exact Kd.jI HO437.out (fun _ hk=>⟨hk.1.2,hk.2⟩)⟩,⟨by (with_reducible repeat (first | apply Kd.jM | apply Kd.jL | apply Kd.jQ));exact Kd.jI HO441.out (fun _ hk=>⟨hk.1.2,hk.2⟩)⟩,⟨kq BK416.out⟩,⟨kq BK417.out⟩,⟨kq BK430.out⟩,⟨kq BK434.out⟩,⟨kq BK438.out⟩,⟨kq BK443.out⟩,⟨Y4⟩⟩
    ·replace c74:=Bool.eq_false_iff.mpr c74
     subst c74
     have H1:(jc.j0 k a2 t429 t442 true l0_0 l1_0 t426 t431 t435 t439)=some r:=by rw [if_neg (show ¬ (false=true) by decide)] at H;exact H
     clear H
     have H:=H1
     clear H1
     have H':=am H
     clear H
     have hnb87:=NB443_416.out
     have hnc87:=NB416_443.out
     have hnb88:=NB443_417.out
     have hnc88:=NB417_443.out
     have hnb89:=NB443_430.out
     have hnc89:=NB430_443.out
     have hnb90:=NB443_434.out
     have hnc90:=NB434_443.out
     have hnb91:=NB443_438.out
     have hnc91:=NB438_443.out
     have hcz92_0:=bc0 BK443.out
     have hfz92_0:=jb BK443.out 0
     have hnb93:=NB430_416.out
     have hnc93:=NB416_430.out
     have hnb94:=NB430_417.out
     have hnc94:=NB417_430.out
     have hnb95:=NB430_434.out
     have hnc95:=NB434_430.out
     have hnb96:=NB430_438.out
     have hnc96:=NB438_430.out
     have hcz97_0:=bc0 BK430.out
     have hfz97_0:=jb BK430.out 0
     go_wp2_with (first |((with_reducible refine jE (f:=15) rfl ?_);refine gL (some 51) Try.func15 #[.agg #[.slice Ao66 t439.length co66], .agg #[.slice Ao42 t426.length co42]] ?_;(with_reducible refine (jT.calls k _ _ t439 _ _ t426 false _ ?side1 ?side2 ?side3 ?side4 A73.out).mono ?_);(case side1=>refine (Kd.jq (e:=54) (base:=w.heap.size) (ok:=fun k_=>(((True∧some k_≠(v424:Value).ownBlock)∧some k_≠(.slice Ao42 t426.length co42:Value).ownBlock)∧some k_≠(.slice Ao57 t435.length co57:Value).ownBlock)) (n:=t439.length) (c:=co66) ?_).2.2;exact (Y74));(case side2=>exact (Kd.jq HO441.out).2.1);(case side3=>refine (Kd.jq (e:=54) (base:=w.heap.size) (ok:=fun k_=>((some k_≠(v424:Value).ownBlock∧some k_≠(.slice Ao57 t435.length co57:Value).ownBlock)∧some k_≠(.slice Ao66 t439.length co66:Value).ownBlock)) (n:=t426.length) (c:=co42) ?_).2.2;exact (Y75));(case side4=>exact (Kd.jq HO428.out).2.1);rintro e w98 ⟨rfl,hb⟩;refine ⟨_,rfl,?_⟩;replace HO422:=am (Kd.jy (Y159) hb);replace HO425:=am (Kd.jy (Y160) hb);replace HO428:=am (Kd.jy (Y75) hb);replace HO433:=am (Kd.jy (Y161) hb);replace HO437:=am (Kd.jy (Y162) hb);replace HO441:=am (Kd.jy (Y74) hb);replace BK416:=am (ja (g:=gb416) (o:=.cells #[.slice A0_0 l0_0.length c0_0] 24 (0,0)) (Y163) hb);replace BK417:=am (ja (g:=gb417) (o:=.cells #[.slice A1_0 l1_0.length c1_0] 27 (0,0)) (Y164) hb);replace BK430:=am (ja (g:=gb430) (o:=.cells #[.slice Ao42 t426.length co42] 32 (0,0)) (Y165) hb);replace BK434:=am (ja (g:=gb434) (o:=.cells #[.slice Ao48 t431.length co48] 37 (0,0)) (Y166) hb);replace BK438:=am (ja (g:=gb438) (o:=.cells #[.slice Ao57 t435.length co57] 32 (0,0)) (Y167) hb);replace BK443:=am (ja (g:=gb443) (o:=.cells #[.slice Ao66 t439.length co66] 32 (0,0)) (Y168) hb);replace HB:=am (je (Y4) hb);(try clear hb);(try clear hb2);(try clear hk);(try clear hi)))
     go_meet
     case rel=>exact ⟨_,(true),(sq),H',⟨by first | omega | exact Nat.le_refl _⟩,⟨by (with_reducible repeat (first | apply Kd.jM | apply Kd.jL | apply Kd.jQ));exact Kd.jI HO428.out (fun _ hk=>⟨hk.1.2,hk.2⟩)⟩,⟨by (with_reducible repeat (first | apply Kd.jM | apply Kd.jL | apply Kd.jQ));exact Kd.jI HO433.out (fun _ hk=>trivial)⟩,⟨by (with_reducible repeat (first | apply Kd.jM | apply Kd.jL | apply Kd.jQ));exact Kd.jI HO437.out (fun _ hk=>⟨hk.1.2,hk.2⟩)⟩,⟨by (with_reducible repeat (first | apply Kd.jM | apply Kd.jL | apply Kd.jQ));exact Kd.jI HO441.out (fun _ hk=>⟨hk.1.2,hk.2⟩)⟩,⟨kq BK416.out⟩,⟨kq BK417.out⟩,⟨kq BK430.out⟩,⟨kq BK434.out⟩,⟨kq BK438.out⟩,⟨kq BK443.out⟩,⟨Y4⟩⟩
   case rest =>
    clear HC26
    try clear c1
    try clear p2
    try clear c4
    try clear c5
    try clear c6
    try clear c7
    try clear c8
    try clear c9
    try clear c11
    try clear c12
    try clear c13
    try clear c14
    try clear c15
    try clear c44
    try clear c49
    try clear c50
    try clear c51
    try clear c53
    try clear c58
    try clear c59
    try clear c60
    try clear c61
    try clear c67
    try clear c68
    try clear c69
    try clear c70
    try clear c71
    try clear c74
    try clear c75
    try clear c76
    try clear c77
    try clear c78
    try clear c79
    try clear c81
    try clear c82
    try clear c83
    try clear c84
    try clear c87
    try clear c88
    try clear c89
    try clear c90
    try clear c91
    try clear c93
    try clear c94
    try clear c95
    try clear c96
    try clear hcz45_0
    try clear hcz52_0
    try clear hcz54_0
    try clear hcz62_0
    try clear hcz63_0
    try clear hcz72_0
    try clear hcz80_0
    try clear hcz85_0
    try clear hcz92_0
    try clear hcz97_0
    try clear hfz45_0
    try clear hfz52_0
    try clear hfz54_0
    try clear hfz62_0
    try clear hfz63_0
    try clear hfz72_0
    try clear hfz80_0
    try clear hfz85_0
    try clear hfz92_0
    try clear hfz97_0
    obtain ⟨kq,x57_25,rfl,HA,HJ25,HO_431000,HO_435000,HO_439000,HO_444000,BK416,BK417,BK430,BK434,BK438,BK443,HB⟩:=hcut
    cases kq with
    | zero=>exact absurd HA.out (by simp [jc.j0])
    | succ kj25 =>
     have H:=HA.out
     clear HA
     simp only [jc.j0] at H
     by_cases c99:x57_25=true
     ·subst c99
      have H1:(some false)=some r:=by rw [if_pos rfl] at H;exact H
      clear H
      have H:=H1
      clear H1
      exact absurd ((Option.some.inj H).trans hT) Bool.false_ne_true
     ·replace c99:=Bool.eq_false_iff.mpr c99
      subst c99
      have H1:((jla.f kj25 l0_0).bind fun t445=>((jub.f kj25 t431 t445).bind fun t448=>(if t448=true then ((jY.f kj25 l1_0).bind fun t449=>((jT.f kj25 t435 t449).bind fun t452=>(if t452=true then ((jNa.f kj25 t431 1).bind fun bt453=>((jxa.f kj25 t435 bt453.1).bind fun bt455=>(if bt455.1<0 then (jc.j1 kj25 a2 t429 true l0_0 l1_0 t426 t439) else ((jT.f kj25 t439 t426).bind fun t457=>(if t457=true then (jc.j1 kj25 a2 t429 (t442 != t429) l0_0 l1_0 t426 t439) else (jc.j1 kj25 a2 t429 true l0_0 l1_0 t426 t439)))))) else (some false)))) else (some false))))=some r:=by rw [if_neg (show ¬ (false=true) by decide)] at H;exact H
      clear H
      have H:=H1
      clear H1
      replace H:=bzS H
      obtain ⟨t445,A1000,H⟩:=H
      replace H:((jub.f kj25 t431 t445).bind fun t448=>(if t448=true then ((jY.f kj25 l1_0).bind fun t449=>((jT.f kj25 t435 t449).bind fun t452=>(if t452=true then ((jNa.f kj25 t431 1).bind fun bt453=>((jxa.f kj25 t435 bt453.1).bind fun bt455=>(if bt455.1<0 then (jc.j1 kj25 a2 t429 true l0_0 l1_0 t426 t439) else ((jT.f kj25 t439 t426).bind fun t457=>(if t457=true then (jc.j1 kj25 a2 t429 (t442 != t429) l0_0 l1_0 t426 t439) else (jc.j1 kj25 a2 t429 true l0_0 l1_0 t426 t439)))))) else (some false)))) else (some false)))=some r:=H
      have A100:=am A1000
      clear A1000
      replace H:=bzS H
      obtain ⟨t448,A1010,H⟩:=H
      replace H:(if t448=true then ((jY.f kj25 l1_0).bind fun t449=>((jT.f kj25 t435 t449).bind fun t452=>(if t452=true then ((jNa.f kj25 t431 1).bind fun bt453=>((jxa.f kj25 t435 bt453.1).bind fun bt455=>(if bt455.1<0 then (jc.j1 kj25 a2 t429 true l0_0 l1_0 t426 t439) else ((jT.f kj25 t439 t426).bind fun t457=>(if t457=true then (jc.j1 kj25 a2 t429 (t442 != t429) l0_0 l1_0 t426 t439) else (jc.j1 kj25 a2 t429 true l0_0 l1_0 t426 t439)))))) else (some false)))) else (some false))=some r:=H
      have A101:=am A1010
      clear A1010
      by_cases c102:t448=true
      ·subst c102
       have H1:((jY.f kj25 l1_0).bind fun t449=>((jT.f kj25 t435 t449).bind fun t452=>(if t452=true then ((jNa.f kj25 t431 1).bind fun bt453=>((jxa.f kj25 t435 bt453.1).bind fun bt455=>(if bt455.1<0 then (jc.j1 kj25 a2 t429 true l0_0 l1_0 t426 t439) else ((jT.f kj25 t439 t426).bind fun t457=>(if t457=true then (jc.j1 kj25 a2 t429 (t442 != t429) l0_0 l1_0 t426 t439) else (jc.j1 kj25 a2 t429 true l0_0 l1_0 t426 t439)))))) else (some false))))=some r:=by rw [if_pos rfl] at H;exact H
       clear H
       have H:=H1
       clear H1
       replace H:=bzS H
       obtain ⟨t449,A1030,H⟩:=H
       replace H:((jT.f kj25 t435 t449).bind fun t452=>(if t452=true then ((jNa.f kj25 t431 1).bind fun bt453=>((jxa.f kj25 t435 bt453.1).bind fun bt455=>(if bt455.1<0 then (jc.j1 kj25 a2 t429 true l0_0 l1_0 t426 t439) else ((jT.f kj25 t439 t426).bind fun t457=>(if t457=true then (jc.j1 kj25 a2 t429 (t442 != t429) l0_0 l1_0 t426 t439) else (jc.j1 kj25 a2 t429 true l0_0 l1_0 t426 t439)))))) else (some false)))=some r:=H
       have A103:=am A1030
       clear A1030
       replace H:=bzS H
       obtain ⟨t452,A1040,H⟩:=H
       replace H:(if t452=true then ((jNa.f kj25 t431 1).bind fun bt453=>((jxa.f kj25 t435 bt453.1).bind fun bt455=>(if bt455.1<0 then (jc.j1 kj25 a2 t429 true l0_0 l1_0 t426 t439) else ((jT.f kj25 t439 t426).bind fun t457=>(if t457=true then (jc.j1 kj25 a2 t429 (t442 != t429) l0_0 l1_0 t426 t439) else (jc.j1 kj25 a2 t429 true l0_0 l1_0 t426 t439)))))) else (some false))=some r:=H
       have A104:=am A1040
       clear A1040
       by_cases c105:t452=true
       ·subst c105
        have H1:((jNa.f kj25 t431 1).bind fun bt453=>((jxa.f kj25 t435 bt453.1).bind fun bt455=>(if bt455.1<0 then (jc.j1 kj25 a2 t429 true l0_0 l1_0 t426 t439) else ((jT.f kj25 t439 t426).bind fun t457=>(if t457=true then (jc.j1 kj25 a2 t429 (t442 != t429) l0_0 l1_0 t426 t439) else (jc.j1 kj25 a2 t429 true l0_0 l1_0 t426 t439))))))=some r:=by rw [if_pos rfl] at H;exact H
        clear H
        have H:=H1
        clear H1
        replace H:=bzS H
        obtain ⟨⟨t453,t454⟩,A1060,H⟩:=H
        replace H:((jxa.f kj25 t435 t453).bind fun bt455=>(if bt455.1<0 then (jc.j1 kj25 a2 t429 true l0_0 l1_0 t426 t439) else ((jT.f kj25 t439 t426).bind fun t457=>(if t457=true then (jc.j1 kj25 a2 t429 (t442 != t429) l0_0 l1_0 t426 t439) else (jc.j1 kj25 a2 t429 true l0_0 l1_0 t426 t439)))))=some r:=H
        have A106:=am A1060
        clear A1060
        replace H:=bzS H
        obtain ⟨⟨t455,t456⟩,A1070,H⟩:=H
        replace H:(if t455<0 then (jc.j1 kj25 a2 t429 true l0_0 l1_0 t426 t439) else ((jT.f kj25 t439 t426).bind fun t457=>(if t457=true then (jc.j1 kj25 a2 t429 (t442 != t429) l0_0 l1_0 t426 t439) else (jc.j1 kj25 a2 t429 true l0_0 l1_0 t426 t439))))=some r:=H
        have A107:=am A1070
        clear A1070
        have HC108:=am H
        clear H
        try go_wp2
        replace HO_431000:=am (Kd.jQ HO_431000.out)
        replace HO_435000:=am (Kd.jQ HO_435000.out)
        replace HO_439000:=am (Kd.jQ HO_439000.out)
        replace HO_444000:=am (Kd.jQ HO_444000.out)
        replace BK416:=am (jh BK416.out)
        replace BK417:=am (jh BK417.out)
        replace BK430:=am (jh BK430.out)
        replace BK434:=am (jh BK434.out)
        replace BK438:=am (jh BK438.out)
        replace BK443:=am (jh BK443.out)
        replace HB:=am (jm HB.out)
        refine jdc (n:=5) (S:=fun w'=>w'.cell? ⟨gb434,0,none⟩=some (.slice Ao48 t431.length co48)∧w'.cell? ⟨gb416,0,none⟩=some (.slice A0_0 l0_0.length c0_0)) (ds:=[]) #[false,false,false,false,false] (by kernel_rfl) rfl rfl ⟨(jr BK434.out 0).trans rfl,(jr BK416.out 0).trans rfl⟩ (fun hHeld=>?_)
        generalize wc.drew=w109 at HO_431000 HO_435000 HO_439000 HO_444000 BK416 BK417 BK430 BK434 BK438 BK443 HB hHeld ⊢
        refine jCb (i:=0) (N:=some 58) (v:=?_) (a':=?_) #[true,false,false,false,false] rfl rfl (by kernel_rfl) (fun _ _ _ h=>h) (Or.inl ⟨by rfl,?_⟩) hHeld ?_ ?_
        rotate_left
        ·rintro w' ⟨s0,s1⟩
         go_simp
         with_reducible rfl
        rotate_left
        ·exact sa
        refine jCb (i:=1) (N:=some 59) (v:=?_) (a':=?_) #[true,true,false,false,false] rfl rfl (by kernel_rfl) (fun _ _ _ h=>h) (Or.inl ⟨by rfl,?_⟩) hHeld ?_ ?_
        rotate_left
        ·rintro w' ⟨s0,s1⟩
         go_simp
         with_reducible rfl
        rotate_left
        ·exact sa
        refine one_ (i:=2) (N:=some 60) #[true,true,true,false,false] rfl rfl (by kernel_rfl) (by decide) (fun K hK=>?_)
        refine jDb Try.func12 (by kernel_rfl) rfl #[.agg #[.slice A0_0 l0_0.length c0_0]] (by rfl) rfl rfl (aq) ?_
        with_reducible refine (jla.calls kj25 _ _ l0_0 t445 _ ?side1 ?side2 A100.out).mono ?_
        (case side1=>exact cq (Kd.jK HR0_0.out HB.out))
        (case side2=>exact HC0_0.out)
        rintro e w110 ⟨v446,rfl,ho0,hb⟩
        refine ⟨_,rfl,?_⟩
        have HO447:=am (Kd.jna (Kd.jRa ho0 (Kd.R_lt (rq HO_435000.out))) (jA (Y4)))
        replace HO_431000:=am (Kd.jy (rq HO_431000.out) hb)
        replace HO_435000:=am (Kd.jta (rq HO_435000.out) (Kd.jQa ho0) hb)
        replace HO_439000:=am (Kd.jy (rq HO_439000.out) hb)
        replace HO_444000:=am (Kd.jy (rq HO_444000.out) hb)
        replace BK416:=am (ja (g:=gb416) (o:=.cells #[.slice A0_0 l0_0.length c0_0] 24 (0,0)) (kq BK416.out) hb)
        replace BK417:=am (ja (g:=gb417) (o:=.cells #[.slice A1_0 l1_0.length c1_0] 27 (0,0)) (kq BK417.out) hb)
        replace BK430:=am (ja (g:=gb430) (o:=.cells #[.slice Ao42 t426.length co42] 32 (0,0)) (kq BK430.out) hb)
        replace BK434:=am (ja (g:=gb434) (o:=.cells #[.slice Ao48 t431.length co48] 37 (0,0)) (kq BK434.out) hb)
        replace BK438:=am (ja (g:=gb438) (o:=.cells #[.slice Ao57 t435.length co57] 32 (0,0)) (kq BK438.out) hb)
        replace BK443:=am (ja (g:=gb443) (o:=.cells #[.slice Ao66 t439.length co66] 32 (0,0)) (kq BK443.out) hb)
        replace HB:=am (je (Y4) hb)
        (try clear hb)
        (try clear hb2)
        (try clear hk)
        (try clear hi)
        (try clear ho0)
        obtain ⟨Ao111,co111,eo111⟩:=Kd.jca HO447.out
        (first | subst eo111 |(injection eo111 with f1_ f2_ f3_;have f4_:=f1_.symm;have f5_:=f3_.symm;clear f1_ f2_ f3_;subst f4_;subst f5_))
        refine hK.out _ _ ⟨(jr BK434.out 0).trans rfl,(jr BK416.out 0).trans rfl⟩ (fun hHeld=>?_)
        clear hK K
        refine jYa (a':=?_) ?_ ?_
        rotate_left
        ·show Act.put _ (some 60) _=_
         simp only [Act.put,List.setIfInBounds_toArray,List.set_cons_zero,List.set_cons_succ,jZa,jdb]
         rfl
        refine one_ (i:=3) (N:=some 61) #[true,true,true,true,false] rfl rfl (by kernel_rfl) (by decide) (fun K hK=>?_)
        refine jDb Try.func16 (by kernel_rfl) rfl #[.agg #[.slice Ao48 t431.length co48], .agg #[.slice Ao111 t445.length co111]] (by rfl) rfl rfl (aq) ?_
        with_reducible refine (jub.calls kj25 _ _ t431 _ _ t445 true _ ?side1 ?side2 ?side3 ?side4 A101.out).mono ?_
        (case side1=>exact cq (Kd.jq HO_435000.out).2.2)
        (case side2=>exact (Kd.jq HO_435000.out).2.1)
        (case side3=>exact cq (Kd.jq HO447.out).2.2)
        (case side4=>exact (Kd.jq HO447.out).2.1)
        rintro e w112 ⟨rfl,hb⟩
        refine ⟨_,rfl,?_⟩
        replace HO_431000:=am (Kd.jy (rq HO_431000.out) hb)
        replace HO_435000:=am (Kd.jy (rq HO_435000.out) hb)
        replace HO_439000:=am (Kd.jy (rq HO_439000.out) hb)
        replace HO_444000:=am (Kd.jy (rq HO_444000.out) hb)
        replace HO447:=am (Kd.jy (rq HO447.out) hb)
        replace BK416:=am (ja (g:=gb416) (o:=.cells #[.slice A0_0 l0_0.length c0_0] 24 (0,0)) (kq BK416.out) hb)
        replace BK417:=am (ja (g:=gb417) (o:=.cells #[.slice A1_0 l1_0.length c1_0] 27 (0,0)) (kq BK417.out) hb)
        replace BK430:=am (ja (g:=gb430) (o:=.cells #[.slice Ao42 t426.length co42] 32 (0,0)) (kq BK430.out) hb)
        replace BK434:=am (ja (g:=gb434) (o:=.cells #[.slice Ao48 t431.length co48] 37 (0,0)) (kq BK434.out) hb)
        replace BK438:=am (ja (g:=gb438) (o:=.cells #[.slice Ao57 t435.length co57] 32 (0,0)) (kq BK438.out) hb)
        replace BK443:=am (ja (g:=gb443) (o:=.cells #[.slice Ao66 t439.length co66] 32 (0,0)) (kq BK443.out) hb)
        replace HB:=am (je (Y4) hb)
        (try clear hb)
        (try clear hb2)
        (try clear hk)
        (try clear hi)
        refine hK.out _ _ ⟨(jr BK434.out 0).trans rfl,(jr BK416.out 0).trans rfl⟩ (fun hHeld=>?_)
        clear hK K
        refine jYa (a':=?_) ?_ ?_
        rotate_left
        ·show Act.put _ (some 61) _=_
         simp only [Act.put,List.setIfInBounds_toArray,List.set_cons_zero,List.set_cons_succ,jZa,jdb]
         rfl
        refine pure_ (i:=4) (N:=some 62) (v:=?_) (a':=?_) #[true,true,true,true,true] rfl rfl (by kernel_rfl) (fun _ _ _ h=>h) (Or.inl ⟨by rfl,?_⟩) ?_ ?_
        rotate_left
        ·exact sb
        rotate_left
        ·exact sa
        refine done_ (by kernel_rfl) ?_
        try go_wp2
        replace HO_431000:=am (Kd.jQ HO_431000.out)
        replace HO_435000:=am (Kd.jQ HO_435000.out)
        replace HO_439000:=am (Kd.jQ HO_439000.out)
        replace HO_444000:=am (Kd.jQ HO_444000.out)
        replace HO447:=am (Kd.jQ HO447.out)
        replace BK416:=am (jh BK416.out)
        replace BK417:=am (jh BK417.out)
        replace BK430:=am (jh BK430.out)
        replace BK434:=am (jh BK434.out)
        replace BK438:=am (jh BK438.out)
        replace BK443:=am (jh BK443.out)
        replace HB:=am (jm HB.out)
        refine jdc (n:=5) (S:=fun w'=>w'.cell? ⟨gb438,0,none⟩=some (.slice Ao57 t435.length co57)∧w'.cell? ⟨gb417,0,none⟩=some (.slice A1_0 l1_0.length c1_0)) (ds:=[]) #[false,false,false,false,false] (by kernel_rfl) rfl rfl ⟨(jr BK438.out 0).trans rfl,(jr BK417.out 0).trans rfl⟩ (fun hHeld=>?_)
        generalize w112.drew=w113 at HO_431000 HO_435000 HO_439000 HO_444000 HO447 BK416 BK417 BK430 BK434 BK438 BK443 HB hHeld ⊢
        refine jCb (i:=0) (N:=some 63) (v:=?_) (a':=?_) #[true,false,false,false,false] rfl rfl (by kernel_rfl) (fun _ _ _ h=>h) (Or.inl ⟨by rfl,?_⟩) hHeld ?_ ?_
        rotate_left
        ·rintro w' ⟨s0,s1⟩
         go_simp
         with_reducible rfl
        rotate_left
        ·exact sa
        refine jCb (i:=1) (N:=some 64) (v:=?_) (a':=?_) #[true,true,false,false,false] rfl rfl (by kernel_rfl) (fun _ _ _ h=>h) (Or.inl ⟨by rfl,?_⟩) hHeld ?_ ?_
        rotate_left
        ·rintro w' ⟨s0,s1⟩
         go_simp
         with_reducible rfl
        rotate_left
        ·exact sa
        refine one_ (i:=2) (N:=some 65) #[true,true,true,false,false] rfl rfl (by kernel_rfl) (by decide) (fun K hK=>?_)
        refine jDb Try.func13 (by kernel_rfl) rfl #[.agg #[.slice A1_0 l1_0.length c1_0]] (by rfl) rfl rfl (aq) ?_
        with_reducible refine (jY.calls kj25 _ _ l1_0 t449 _ ?side1 ?side2 A103.out).mono ?_
        (case side1=>exact cq (Kd.jK HR1_0.out HB.out))
        (case side2=>exact HC1_0.out)
        rintro e w114 ⟨v450,rfl,ho0,hb⟩
        refine ⟨_,rfl,?_⟩
        have HO451:=am (Kd.jna (Kd.jRa (Kd.jRa (Kd.jRa ho0 (Kd.R_lt (rq HO_431000.out))) (Kd.R_lt (rq HO_439000.out))) (Kd.R_lt (rq HO_444000.out))) (jA (Y4)))
        replace HO_431000:=am (Kd.jta (rq HO_431000.out) (Kd.jQa ho0) hb)
        replace HO_435000:=am (Kd.jy (rq HO_435000.out) hb)
        replace HO_439000:=am (Kd.jta (rq HO_439000.out) (Kd.jQa ho0) hb)
        replace HO_444000:=am (Kd.jta (rq HO_444000.out) (Kd.jQa ho0) hb)
        replace HO447:=am (Kd.jy (rq HO447.out) hb)
        replace BK416:=am (ja (g:=gb416) (o:=.cells #[.slice A0_0 l0_0.length c0_0] 24 (0,0)) (kq BK416.out) hb)
        replace BK417:=am (ja (g:=gb417) (o:=.cells #[.slice A1_0 l1_0.length c1_0] 27 (0,0)) (kq BK417.out) hb)
        replace BK430:=am (ja (g:=gb430) (o:=.cells #[.slice Ao42 t426.length co42] 32 (0,0)) (kq BK430.out) hb)
        replace BK434:=am (ja (g:=gb434) (o:=.cells #[.slice Ao48 t431.length co48] 37 (0,0)) (kq BK434.out) hb)
        replace BK438:=am (ja (g:=gb438) (o:=.cells #[.slice Ao57 t435.length co57] 32 (0,0)) (kq BK438.out) hb)
        replace BK443:=am (ja (g:=gb443) (o:=.cells #[.slice Ao66 t439.length co66] 32 (0,0)) (kq BK443.out) hb)
        replace HB:=am (je (Y4) hb)
        (try clear hb)
        (try clear hb2)
        (try clear hk)
        (try clear hi)
        (try clear ho0)
        obtain ⟨Ao115,co115,eo115⟩:=Kd.jca HO451.out
        (first | subst eo115 |(injection eo115 with f1_ f2_ f3_;have f4_:=f1_.symm;have f5_:=f3_.symm;clear f1_ f2_ f3_;subst f4_;subst f5_))
        refine hK.out _ _ ⟨(jr BK438.out 0).trans rfl,(jr BK417.out 0).trans rfl⟩ (fun hHeld=>?_)
        clear hK K
        refine jYa (a':=?_) ?_ ?_
        rotate_left
        ·show Act.put _ (some 65) _=_
         simp only [Act.put,List.setIfInBounds_toArray,List.set_cons_zero,List.set_cons_succ,jZa,jdb]
         rfl
        refine one_ (i:=3) (N:=some 66) #[true,true,true,true,false] rfl rfl (by kernel_rfl) (by decide) (fun K hK=>?_)
        refine jDb Try.func15 (by kernel_rfl) rfl #[.agg #[.slice Ao57 t435.length co57], .agg #[.slice Ao115 t449.length co115]] (by rfl) rfl rfl (aq) ?_
        with_reducible refine (jT.calls kj25 _ _ t435 _ _ t449 true _ ?side1 ?side2 ?side3 ?side4 A104.out).mono ?_
        (case side1=>exact cq (Kd.jq HO_439000.out).2.2)
        (case side2=>exact (Kd.jq HO_439000.out).2.1)
        (case side3=>exact cq (Kd.jq HO451.out).2.2)
        (case side4=>exact (Kd.jq HO451.out).2.1)
        rintro e w116 ⟨rfl,hb⟩
        refine ⟨_,rfl,?_⟩
        replace HO_431000:=am (Kd.jy (rq HO_431000.out) hb)
        replace HO_435000:=am (Kd.jy (rq HO_435000.out) hb)
        replace HO_439000:=am (Kd.jy (rq HO_439000.out) hb)
        replace HO_444000:=am (Kd.jy (rq HO_444000.out) hb)
        replace HO447:=am (Kd.jy (rq HO447.out) hb)
        replace HO451:=am (Kd.jy (rq HO451.out) hb)
        replace BK416:=am (ja (g:=gb416) (o:=.cells #[.slice A0_0 l0_0.length c0_0] 24 (0,0)) (kq BK416.out) hb)
        replace BK417:=am (ja (g:=gb417) (o:=.cells #[.slice A1_0 l1_0.length c1_0] 27 (0,0)) (kq BK417.out) hb)
        replace BK430:=am (ja (g:=gb430) (o:=.cells #[.slice Ao42 t426.length co42] 32 (0,0)) (kq BK430.out) hb)
        replace BK434:=am (ja (g:=gb434) (o:=.cells #[.slice Ao48 t431.length co48] 37 (0,0)) (kq BK434.out) hb)
        replace BK438:=am (ja (g:=gb438) (o:=.cells #[.slice Ao57 t435.length co57] 32 (0,0)) (kq BK438.out) hb)
        replace BK443:=am (ja (g:=gb443) (o:=.cells #[.slice Ao66 t439.length co66] 32 (0,0)) (kq BK443.out) hb)
        replace HB:=am (je (Y4) hb)
        (try clear hb)
        (try clear hb2)
        (try clear hk)
        (try clear hi)
        refine hK.out _ _ ⟨(jr BK438.out 0).trans rfl,(jr BK417.out 0).trans rfl⟩ (fun hHeld=>?_)
        clear hK K
        refine jYa (a':=?_) ?_ ?_
        rotate_left
        ·show Act.put _ (some 66) _=_
         simp only [Act.put,List.setIfInBounds_toArray,List.set_cons_zero,List.set_cons_succ,jZa,jdb]
         rfl
        refine pure_ (i:=4) (N:=some 67) (v:=?_) (a':=?_) #[true,true,true,true,true] rfl rfl (by kernel_rfl) (fun _ _ _ h=>h) (Or.inl ⟨by rfl,?_⟩) ?_ ?_
        rotate_left
        ·exact sb
        rotate_left
        ·exact sa
        refine done_ (by kernel_rfl) ?_
        have hnb117:=NB434_416.out
        have hnc117:=NB416_434.out
        have hnb118:=NB434_417.out
        have hnc118:=NB417_434.out
        have hnb119:=NB434_430.out
        have hnc119:=NB430_434.out
        have hnb120:=NB434_438.out
        have hnc120:=NB438_434.out
        have hnb121:=NB434_443.out
        have hnc121:=NB443_434.out
        have hcz122_0:=bc0 BK434.out
        have hfz122_0:=jb BK434.out 0
        go_upto_region 21 with (first |((with_reducible refine jE (f:=17) rfl ?_);refine gL (some 70) Try.func17 #[.agg #[.slice Ao48 t431.length co48], .int .i64 1] ?_;(with_reducible refine (jNa.calls kj25 (fun k_=>some k_=(.slice Ao48 t431.length co48:Value).ownBlock) (.slice Ao48 t431.length co48) t431 1 t453 t454 w _ ?side1 ?side2 A106.out).mono ?_);(case side1=>exact Y4);(case side2=>exact Kd.jqc rfl HO_435000.out);rintro e w123 ⟨rfl,hy0,hb,hkp⟩;refine ⟨_,rfl,?_⟩;replace HO_431000:=am (Kd.jI (ok':=fun k_=>some k_≠(.slice Ao57 t435.length co57:Value).ownBlock∧some k_≠(.slice Ao66 t439.length co66:Value).ownBlock∧some k_≠(.slice Ao115 t449.length co115:Value).ownBlock) (Kd.jSb ((Kd.jrc HO_431000.out (Kd.jjc HO_435000.out) (by decide))) hkp (fun k_ hk_ hs_=>(hk_.2) hs_)) (fun k_ hk_=>⟨hk_.1.1.1.1,hk_.1.1.1.2,hk_.1.1.2⟩));replace HO_439000:=am (Kd.jI (ok':=fun k_=>some k_≠(.slice Ao42 t426.length co42:Value).ownBlock∧some k_≠(.slice Ao66 t439.length co66:Value).ownBlock∧some k_≠(.slice Ao115 t449.length co115:Value).ownBlock) (Kd.jSb ((Kd.jrc HO_439000.out (Kd.jjc HO_435000.out) (by decide))) hkp (fun k_ hk_ hs_=>(hk_.2) hs_)) (fun k_ hk_=>⟨hk_.1.1.1.1,hk_.1.1.1.2,hk_.1.1.2⟩));replace HO_444000:=am (Kd.jI (ok':=fun k_=>some k_≠(.slice Ao42 t426.length co42:Value).ownBlock∧some k_≠(.slice Ao57 t435.length co57:Value).ownBlock∧some k_≠(.slice Ao115 t449.length co115:Value).ownBlock) (Kd.jSb ((Kd.jrc HO_444000.out (Kd.jjc HO_435000.out) (by decide))) hkp (fun k_ hk_ hs_=>(hk_.2) hs_)) (fun k_ hk_=>⟨hk_.1.1.1.1,hk_.1.1.1.2,hk_.1.1.2⟩));replace BK416:=am (jSa (kq BK416.out) hkp (fun hs_=>(fun e_=>(Kd.R_ne HO_435000.out BK416.out (by decide)) e_) hs_));replace BK417:=am (jSa (kq BK417.out) hkp (fun hs_=>(fun e_=>(Kd.R_ne HO_435000.out BK417.out (by decide)) e_) hs_));replace BK430:=am (jSa (kq BK430.out) hkp (fun hs_=>(fun e_=>(Kd.R_ne HO_435000.out BK430.out (by decide)) e_) hs_));replace BK434:=am (jSa (kq BK434.out) hkp (fun hs_=>(fun e_=>(Kd.R_ne HO_435000.out BK434.out (by decide)) e_) hs_));replace BK438:=am (jSa (kq BK438.out) hkp (fun hs_=>(fun e_=>(Kd.R_ne HO_435000.out BK438.out (by decide)) e_) hs_));replace BK443:=am (jSa (kq BK443.out) hkp (fun hs_=>(fun e_=>(Kd.R_ne HO_435000.out BK443.out (by decide)) e_) hs_));replace HO447:=am (Kd.jI (ok':=fun k_=>some k_≠(.slice Ao48 t431.length co48:Value).ownBlock) (Kd.jSb (HO447.out) hkp (fun k_ hk_ hs_=>(hk_.2) hs_)) (fun k_ hk_=>hk_.1.2));replace HO451:=am (Kd.jI (ok':=fun k_=>some k_≠(.slice Ao42 t426.length co42:Value).ownBlock∧some k_≠(.slice Ao57 t435.length co57:Value).ownBlock∧some k_≠(.slice Ao66 t439.length co66:Value).ownBlock) (Kd.jSb ((Kd.jrc HO451.out (Kd.jjc HO_435000.out) (by decide))) hkp (fun k_ hk_ hs_=>(hk_.2) hs_)) (fun k_ hk_=>⟨hk_.1.1.1.1.2,hk_.1.1.1.2,hk_.1.1.2⟩));replace HO_435000:=am (Kd.R_reok rfl hy0 (fun k_ e_=>HO_435000.out.1 k_ e_));replace HB:=am (hb);(try clear hb);(try clear hkp);(try clear hy0);have hnb124:=NB438_416.out;have hnc124:=NB416_438.out;have hnb125:=NB438_417.out;have hnc125:=NB417_438.out;have hnb126:=NB438_430.out;have hnc126:=NB430_438.out;have hnb127:=NB438_443.out;have hnc127:=NB443_438.out;have hcz128_0:=bc0 BK438.out;have hfz128_0:=jb BK438.out 0) |((with_reducible refine jE (f:=18) rfl ?_);refine gL (some 73) Try.func18 #[.agg #[.slice Ao57 t435.length co57], .int .i64 t453] ?_;(with_reducible refine (jxa.calls kj25 (fun k_=>some k_=(.slice Ao57 t435.length co57:Value).ownBlock) (.slice Ao57 t435.length co57) t435 t453 t455 t456 w _ ?side1 ?side2 A107.out).mono ?_);(case side1=>exact Y4);(case side2=>exact Kd.jqc rfl HO_439000.out);rintro e w129 ⟨rfl,hy0,hb,hkp⟩;refine ⟨_,rfl,?_⟩;replace HO_431000:=am (Kd.jI (ok':=fun k_=>some k_≠(.slice Ao57 t435.length co57:Value).ownBlock∧some k_≠(.slice Ao66 t439.length co66:Value).ownBlock∧some k_≠(.slice Ao115 t449.length co115:Value).ownBlock) (Kd.jSb (HO_431000.out) hkp (fun k_ hk_ hs_=>(hk_.1) hs_)) (fun k_ hk_=>⟨hk_.1.1,hk_.1.2.1,hk_.1.2.2⟩));replace HO_435000:=am (Kd.jI (ok':=fun k_=>some k_≠(.slice Ao111 t445.length co111:Value).ownBlock) (Kd.jSb ((Kd.jrc HO_435000.out (Kd.jjc HO_439000.out) (by decide))) hkp (fun k_ hk_ hs_=>(hk_.2) hs_)) (fun k_ hk_=>hk_.1.1.2));replace HO_444000:=am (Kd.jI (ok':=fun k_=>some k_≠(.slice Ao42 t426.length co42:Value).ownBlock∧some k_≠(.slice Ao57 t435.length co57:Value).ownBlock∧some k_≠(.slice Ao115 t449.length co115:Value).ownBlock) (Kd.jSb (HO_444000.out) hkp (fun k_ hk_ hs_=>(hk_.2.1) hs_)) (fun k_ hk_=>⟨hk_.1.1,hk_.1.2.1,hk_.1.2.2⟩));replace BK416:=am (jSa (kq BK416.out) hkp (fun hs_=>(fun e_=>(Kd.R_ne HO_439000.out BK416.out (by decide)) e_) hs_));replace BK417:=am (jSa (kq BK417.out) hkp (fun hs_=>(fun e_=>(Kd.R_ne HO_439000.out BK417.out (by decide)) e_) hs_));replace BK430:=am (jSa (kq BK430.out) hkp (fun hs_=>(fun e_=>(Kd.R_ne HO_439000.out BK430.out (by decide)) e_) hs_));replace BK434:=am (jSa (kq BK434.out) hkp (fun hs_=>(fun e_=>(Kd.R_ne HO_439000.out BK434.out (by decide)) e_) hs_));replace BK438:=am (jSa (kq BK438.out) hkp (fun hs_=>(fun e_=>(Kd.R_ne HO_439000.out BK438.out (by decide)) e_) hs_));replace BK443:=am (jSa (kq BK443.out) hkp (fun hs_=>(fun e_=>(Kd.R_ne HO_439000.out BK443.out (by decide)) e_) hs_));replace HO447:=am (Kd.jI (ok':=fun k_=>some k_≠(.slice Ao48 t431.length co48:Value).ownBlock) (Kd.jSb ((Kd.jrc HO447.out (Kd.jjc HO_439000.out) (by decide))) hkp (fun k_ hk_ hs_=>(hk_.2) hs_)) (fun k_ hk_=>hk_.1.1));replace HO_439000:=am (Kd.R_reok rfl hy0 (fun k_ e_=>HO_439000.out.1 k_ e_));replace HO451:=am (Kd.jI (ok':=fun k_=>some k_≠(.slice Ao42 t426.length co42:Value).ownBlock∧some k_≠(.slice Ao57 t435.length co57:Value).ownBlock∧some k_≠(.slice Ao66 t439.length co66:Value).ownBlock) (Kd.jSb (HO451.out) hkp (fun k_ hk_ hs_=>(hk_.2.1) hs_)) (fun k_ hk_=>⟨hk_.1.1,hk_.1.2.1,hk_.1.2.2⟩));replace HB:=am (hb);(try clear hb);(try clear hkp);(try clear hy0)))
        (try simp only [Act.put,List.setIfInBounds_toArray,List.set_cons_zero,List.set_cons_succ])
        go_cut [86] (fun v86 wc=>∃ (kq:Nat) (x86_107:Bool),v86=.bool x86_107∧jw (jc.j1 kq a2 t429 x86_107 l0_0 l1_0 t426 t439=some r)∧jw (kq≤kj25)∧jw (Kd.R k54 54 wc w.heap.size (fun k_=>some k_≠((.slice Ao57 t435.length co57):Value).ownBlock∧some k_≠((.slice Ao66 t439.length co66):Value).ownBlock) (.slice Ao42 t426.length co42) t426)∧jw (Kd.R k94 94 wc w.heap.size (fun _=>True) (.slice Ao48 t431.length co48) t454)∧jw (Kd.R k54 54 wc w.heap.size (fun k_=>some k_≠((.slice Ao42 t426.length co42):Value).ownBlock∧some k_≠((.slice Ao66 t439.length co66):Value).ownBlock) (.slice Ao57 t435.length co57) t456)∧jw (Kd.R k54 54 wc w.heap.size (fun k_=>some k_≠((.slice Ao42 t426.length co42):Value).ownBlock∧some k_≠((.slice Ao57 t435.length co57):Value).ownBlock) (.slice Ao66 t439.length co66) t439)∧jw (wc.heap[gb416]?=some (.cells #[(.slice A0_0 l0_0.length c0_0)] 24 (0,0)))∧jw (wc.heap[gb417]?=some (.cells #[(.slice A1_0 l1_0.length c1_0)] 27 (0,0)))∧jw (wc.heap[gb430]?=some (.cells #[(.slice Ao42 t426.length co42)] 32 (0,0)))∧jw (wc.heap[gb434]?=some (.cells #[(.slice Ao48 t431.length co48)] 37 (0,0)))∧jw (wc.heap[gb438]?=some (.cells #[(.slice Ao57 t435.length co57)] 32 (0,0)))∧jw (wc.heap[gb443]?=some (.cells #[(.slice Ao66 t439.length co66)] 32 (0,0)))∧jw (Below w.heap.size w wc))
        case first =>
         have H:=HC108.out
         clear HC108
         by_cases c130:t455<0
         ·rw [if_pos c130] at H
          have c130b0:decide (t455<0)=true:=dzT c130
          clear c130
          (first | rw [c130b0] |(simp only [jZa,jdb];rw [c130b0]) | skip)
          have H':=am H
          clear H
          go_wp2
          go_meet
          case rel=>exact ⟨_,(true),(sq),H',⟨by have:=HJ25.out;first | omega | exact Nat.le_refl _⟩,⟨by (with_reducible repeat (first | apply Kd.jM | apply Kd.jL | apply Kd.jQ));exact Kd.jI HO_431000.out (fun _ hk=>⟨hk.1,hk.2.1⟩)⟩,⟨by (with_reducible repeat (first | apply Kd.jM | apply Kd.jL | apply Kd.jQ));exact Kd.jI HO_435000.out (fun _ hk=>trivial)⟩,⟨by (with_reducible repeat (first | apply Kd.jM | apply Kd.jL | apply Kd.jQ));exact Kd.jI HO_439000.out (fun _ hk=>⟨hk.1,hk.2.1⟩)⟩,⟨by (with_reducible repeat (first | apply Kd.jM | apply Kd.jL | apply Kd.jQ));exact Kd.jI HO_444000.out (fun _ hk=>⟨hk.1,hk.2.1⟩)⟩,⟨kq BK416.out⟩,⟨kq BK417.out⟩,⟨kq BK430.out⟩,⟨kq BK434.out⟩,⟨kq BK438.out⟩,⟨kq BK443.out⟩,⟨Y4⟩⟩
         ·rw [if_neg c130] at H
          have c130b0:decide (t455<0)=false:=dzF c130
          clear c130
          (first | rw [c130b0] |(simp only [jZa,jdb];rw [c130b0]) | skip)
          replace H:=bzS H
          obtain ⟨t457,A1310,H⟩:=H
          replace H:(if t457=true then (jc.j1 kj25 a2 t429 (t442 != t429) l0_0 l1_0 t426 t439) else (jc.j1 kj25 a2 t429 true l0_0 l1_0 t426 t439))=some r:=H
          have A131:=am A1310
          clear A1310
          by_cases c132:t457=true
          ·subst c132
           have H1:(jc.j1 kj25 a2 t429 (t442 != t429) l0_0 l1_0 t426 t439)=some r:=by rw [if_pos rfl] at H;exact H
           clear H
           have H:=H1
           clear H1
           have H':=am H
           clear H
           have hnb133:=NB443_416.out
           have hnc133:=NB416_443.out
           have hnb134:=NB443_417.out
           have hnc134:=NB417_443.out
           have hnb135:=NB443_430.out
           have hnc135:=NB430_443.out
           have hnb136:=NB443_434.out
           have hnc136:=NB434_443.out
           have hnb137:=NB443_438.out
           have hnc137:=NB438_443.out
           have hcz138_0:=bc0 BK443.out
           have hfz138_0:=jb BK443.out 0
           have hnb139:=NB430_416.out
           have hnc139:=NB416_430.out
           have hnb140:=NB430_417.out
           have hnc140:=NB417_430.out
           have hnb141:=NB430_434.out
           have hnc141:=NB434_430.out
           have hnb142:=NB430_438.out
           have hnc142:=NB438_430.out
           have hcz143_0:=bc0 BK430.out
           have hfz143_0:=jb BK430.out 0
           go_wp2_with (first |(go_at_call 15;(with_reducible refine (jT.calls kj25 _ _ t439 _ _ t426 true _ ?side1 ?side2 ?side3 ?side4 A131.out).mono ?_);(case side1=>exact cq (Kd.jq HO_444000.out).2.2);(case side2=>exact (Kd.jq HO_444000.out).2.1);(case side3=>exact cq (Kd.jq HO_431000.out).2.2);(case side4=>exact (Kd.jq HO_431000.out).2.1);rintro e w144 ⟨rfl,hb⟩;replace HO_431000:=am (Kd.jy (rq HO_431000.out) hb);replace HO_435000:=am (Kd.jy (rq HO_435000.out) hb);replace HO_439000:=am (Kd.jy (rq HO_439000.out) hb);replace HO_444000:=am (Kd.jy (rq HO_444000.out) hb);replace HO447:=am (Kd.jy (rq HO447.out) hb);replace HO451:=am (Kd.jy (rq HO451.out) hb);replace BK416:=am (ja (g:=gb416) (o:=.cells #[.slice A0_0 l0_0.length c0_0] 24 (0,0)) (kq BK416.out) hb);replace BK417:=am (ja (g:=gb417) (o:=.cells #[.slice A1_0 l1_0.length c1_0] 27 (0,0)) (kq BK417.out) hb);replace BK430:=am (ja (g:=gb430) (o:=.cells #[.slice Ao42 t426.length co42] 32 (0,0)) (kq BK430.out) hb);replace BK434:=am (ja (g:=gb434) (o:=.cells #[.slice Ao48 t431.length co48] 37 (0,0)) (kq BK434.out) hb);replace BK438:=am (ja (g:=gb438) (o:=.cells #[.slice Ao57 t435.length co57] 32 (0,0)) (kq BK438.out) hb);replace BK443:=am (ja (g:=gb443) (o:=.cells #[.slice Ao66 t439.length co66] 32 (0,0)) (kq BK443.out) hb);replace HB:=am (je (Y4) hb);(try clear hb);(try clear hb2);(try clear hk);(try clear hi)))
           go_meet
           case rel=>exact ⟨_,((t442 != t429)),(sq),H',⟨by have:=HJ25.out;first | omega | exact Nat.le_refl _⟩,⟨by (with_reducible repeat (first | apply Kd.jM | apply Kd.jL | apply Kd.jQ));exact Kd.jI HO_431000.out (fun _ hk=>⟨hk.1,hk.2.1⟩)⟩,⟨by (with_reducible repeat (first | apply Kd.jM | apply Kd.jL | apply Kd.jQ));exact Kd.jI HO_435000.out (fun _ hk=>trivial)⟩,⟨by (with_reducible repeat (first | apply Kd.jM | apply Kd.jL | apply Kd.jQ));exact Kd.jI HO_439000.out (fun _ hk=>⟨hk.1,hk.2.1⟩)⟩,⟨by (with_reducible repeat (first | apply Kd.jM | apply Kd.jL | apply Kd.jQ));exact Kd.jI HO_444000.out (fun _ hk=>⟨hk.1,hk.2.1⟩)⟩,⟨kq BK416.out⟩,⟨kq BK417.out⟩,⟨kq BK430.out⟩,⟨kq BK434.out⟩,⟨kq BK438.out⟩,⟨kq BK443.out⟩,⟨Y4⟩⟩
          ·replace c132:=Bool.eq_false_iff.mpr c132
           subst c132
           have H1:(jc.j1 kj25 a2 t429 true l0_0 l1_0 t426 t439)=some r:=by rw [if_neg (show ¬ (false=true) by decide)] at H;exact H
           clear H
           have H:=H1
           clear H1
           have H':=am H
           clear H
           have hnb145:=NB443_416.out
           have hnc145:=NB416_443.out
           have hnb146:=NB443_417.out
           have hnc146:=NB417_443.out
           have hnb147:=NB443_430.out
           have hnc147:=NB430_443.out
           have hnb148:=NB443_434.out
           have hnc148:=NB434_443.out
           have hnb149:=NB443_438.out
           have hnc149:=NB438_443.out
           have hcz150_0:=bc0 BK443.out
           have hfz150_0:=jb BK443.out 0
           have hnb151:=NB430_416.out
           have hnc151:=NB416_430.out
           have hnb152:=NB430_417.out
           have hnc152:=NB417_430.out
           have hnb153:=NB430_434.out
           have hnc153:=NB434_430.out
           have hnb154:=NB430_438.out
           have hnc154:=NB438_430.out
           have hcz155_0:=bc0 BK430.out
           have hfz155_0:=jb BK430.out 0
           go_wp2_with (first |(go_at_call 15;(with_reducible refine (jT.calls kj25 _ _ t439 _ _ t426 false _ ?side1 ?side2 ?side3 ?side4 A131.out).mono ?_);(case side1=>exact cq (Kd.jq HO_444000.out).2.2);(case side2=>exact (Kd.jq HO_444000.out).2.1);(case side3=>exact cq (Kd.jq HO_431000.out).2.2);(case side4=>exact (Kd.jq HO_431000.out).2.1);rintro e w156 ⟨rfl,hb⟩;replace HO_431000:=am (Kd.jy (rq HO_431000.out) hb);replace HO_435000:=am (Kd.jy (rq HO_435000.out) hb);replace HO_439000:=am (Kd.jy (rq HO_439000.out) hb);replace HO_444000:=am (Kd.jy (rq HO_444000.out) hb);replace HO447:=am (Kd.jy (rq HO447.out) hb);replace HO451:=am (Kd.jy (rq HO451.out) hb);replace BK416:=am (ja (g:=gb416) (o:=.cells #[.slice A0_0 l0_0.length c0_0] 24 (0,0)) (kq BK416.out) hb);replace BK417:=am (ja (g:=gb417) (o:=.cells #[.slice A1_0 l1_0.length c1_0] 27 (0,0)) (kq BK417.out) hb);replace BK430:=am (ja (g:=gb430) (o:=.cells #[.slice Ao42 t426.length co42] 32 (0,0)) (kq BK430.out) hb);replace BK434:=am (ja (g:=gb434) (o:=.cells #[.slice Ao48 t431.length co48] 37 (0,0)) (kq BK434.out) hb);replace BK438:=am (ja (g:=gb438) (o:=.cells #[.slice Ao57 t435.length co57] 32 (0,0)) (kq BK438.out) hb);replace BK443:=am (ja (g:=gb443) (o:=.cells #[.slice Ao66 t439.length co66] 32 (0,0)) (kq BK443.out) hb);replace HB:=am (je (Y4) hb);(try clear hb);(try clear hb2);(try clear hk);(try clear hi)))
           go_meet
           case rel=>exact ⟨_,(true),(sq),H',⟨by have:=HJ25.out;first | omega | exact Nat.le_refl _⟩,⟨by (with_reducible repeat (first | apply Kd.jM | apply Kd.jL | apply Kd.jQ));exact Kd.jI HO_431000.out (fun _ hk=>⟨hk.1,hk.2.1⟩)⟩,⟨by (with_reducible repeat (first | apply Kd.jM | apply Kd.jL | apply Kd.jQ));exact Kd.jI HO_435000.out (fun _ hk=>trivial)⟩,⟨by (with_reducible repeat (first | apply Kd.jM | apply Kd.jL | apply Kd.jQ));exact Kd.jI HO_439000.out (fun _ hk=>⟨hk.1,hk.2.1⟩)⟩,⟨by (with_reducible repeat (first | apply Kd.jM | apply Kd.jL | apply Kd.jQ));exact Kd.jI HO_444000.out (fun _ hk=>⟨hk.1,hk.2.1⟩)⟩,⟨kq BK416.out⟩,⟨kq BK417.out⟩,⟨kq BK430.out⟩,⟨kq BK434.out⟩,⟨kq BK438.out⟩,⟨kq BK443.out⟩,⟨Y4⟩⟩
        case rest =>
         clear HC108
         try clear c1
         try clear p2
         try clear c4
         try clear c5
         try clear c6
         try clear c7
         try clear c8
         try clear c9
         try clear c10
         try clear c11
         try clear c12
         try clear c13
         try clear c14
         try clear c15
         try clear c16
         try clear c17
         try clear c18
         try clear c44
         try clear c49
         try clear c50
         try clear c51
         try clear c53
         try clear c58
         try clear c59
         try clear c60
         try clear c61
         try clear c67
         try clear c68
         try clear c69
         try clear c70
         try clear c71
         try clear c74
         try clear c75
         try clear c76
         try clear c77
         try clear c78
         try clear c79
         try clear c81
         try clear c82
         try clear c83
         try clear c84
         try clear c87
         try clear c88
         try clear c89
         try clear c90
         try clear c91
         try clear c93
         try clear c94
         try clear c95
         try clear c96
         try clear c99
         try clear c102
         try clear c105
         try clear c117
         try clear c118
         try clear c119
         try clear c120
         try clear c121
         try clear c124
         try clear c125
         try clear c126
         try clear c127
         try clear c130
         try clear c130b0
         try clear c132
         try clear c133
         try clear c134
         try clear c135
         try clear c136
         try clear c137
         try clear c139
         try clear c140
         try clear c141
         try clear c142
         try clear c145
         try clear c146
         try clear c147
         try clear c148
         try clear c149
         try clear c151
         try clear c152
         try clear c153
         try clear c154
         try clear hcz122_0
         try clear hcz128_0
         try clear hcz138_0
         try clear hcz143_0
         try clear hcz150_0
         try clear hcz155_0
         try clear hcz45_0
         try clear hcz52_0
         try clear hcz54_0
         try clear hcz62_0
         try clear hcz63_0
         try clear hcz72_0
         try clear hcz80_0
         try clear hcz85_0
         try clear hcz92_0
         try clear hcz97_0
         try clear hfz122_0
         try clear hfz128_0
         try clear hfz138_0
         try clear hfz143_0
         try clear hfz150_0
         try clear hfz155_0
         try clear hfz45_0
         try clear hfz52_0
         try clear hfz54_0
         try clear hfz62_0
         try clear hfz63_0
         try clear hfz72_0
         try clear hfz80_0
         try clear hfz85_0
         try clear hfz92_0
         try clear hfz97_0
         try clear p2
         obtain ⟨kq,x86_107,rfl,HA,HJ107,HO_431000,HO_435000,HO_439000,HO_444000,BK416,BK417,BK430,BK434,BK438,BK443,HB⟩:=hcut
         have hl435000_107:=(Kd.jq HO_435000.out).1
         rw [hl435000_107] at HO_435000
         (try simp only [hl435000_107])
         (try simp only [hl435000_107] at BK416)
         (try simp only [hl435000_107] at BK417)
         (try simp only [hl435000_107] at BK430)
         (try simp only [hl435000_107] at BK434)
         (try simp only [hl435000_107] at BK438)
         (try simp only [hl435000_107] at BK443)
         (try simp only [hl435000_107] at HO_431000)
         (try simp only [hl435000_107] at HO_439000)
         (try simp only [hl435000_107] at HO_444000)
         have hl439000_107:=(Kd.jq HO_439000.out).1
         rw [hl439000_107] at HO_439000
         (try simp only [hl439000_107])
         (try simp only [hl439000_107] at BK416)
         (try simp only [hl439000_107] at BK417)
         (try simp only [hl439000_107] at BK430)
         (try simp only [hl439000_107] at BK434)
         (try simp only [hl439000_107] at BK438)
         (try simp only [hl439000_107] at BK443)
         (try simp only [hl439000_107] at HO_431000)
         (try simp only [hl439000_107] at HO_435000)
         (try simp only [hl439000_107] at HO_444000)
         cases kq with
         | zero=>exact absurd HA.out (by simp [jc.j1])
         | succ kj107 =>
          have H:=HA.out
          clear HA
          simp only [jc.j1] at H
          by_cases c157:x86_107=true
          ·subst c157
           have H1:(some false)=some r:=by rw [if_pos rfl] at H;exact H
           clear H
           have H:=H1
           clear H1
           exact absurd ((Option.some.inj H).trans hT) Bool.false_ne_true
          ·replace c157:=Bool.eq_false_iff.mpr c157
           subst c157
           have H1:((jxa.f kj107 t439 1).bind fun bt458=>((jUa.f kj107 bt458.2 1).bind fun t460=>(if t460<0 then (some false) else (if t460=bt458.1 then ((jla.f kj107 l0_0).bind fun t461=>((jY.f kj107 l1_0).bind fun t464=>((jU.f kj107 t461 t464 a2).bind fun bt467=>((jT.f kj107 bt467.1 t426).bind fun t472=>(if t472=true then (jc.j2 kj107 bt458.1 (bt467.2 != t429) bt458.2) else (jc.j2 kj107 bt458.1 true bt458.2)))))) else (some false)))))=some r:=by rw [if_neg (show ¬ (false=true) by decide)] at H;exact H
           clear H
           have H:=H1
           clear H1
           replace H:=bzS H
           obtain ⟨⟨t458,t459⟩,A1580,H⟩:=H
           replace H:((jUa.f kj107 t459 1).bind fun t460=>(if t460<0 then (some false) else (if t460=t458 then ((jla.f kj107 l0_0).bind fun t461=>((jY.f kj107 l1_0).bind fun t464=>((jU.f kj107 t461 t464 a2).bind fun bt467=>((jT.f kj107 bt467.1 t426).bind fun t472=>(if t472=true then (jc.j2 kj107 t458 (bt467.2 != t429) t459) else (jc.j2 kj107 t458 true t459)))))) else (some false))))=some r:=H
           have A158:=am A1580
           clear A1580
           replace H:=bzS H
           obtain ⟨t460,A1590,H⟩:=H
           replace H:(if t460<0 then (some false) else (if t460=t458 then ((jla.f kj107 l0_0).bind fun t461=>((jY.f kj107 l1_0).bind fun t464=>((jU.f kj107 t461 t464 a2).bind fun bt467=>((jT.f kj107 bt467.1 t426).bind fun t472=>(if t472=true then (jc.j2 kj107 t458 (bt467.2 != t429) t459) else (jc.j2 kj107 t458 true t459)))))) else (some false)))=some r:=H
           have A159:=am A1590
           clear A1590
           by_cases c160:t460<0
           ·rw [if_pos c160] at H
            have c160b0:decide (t460<0)=true:=dzT c160
            clear c160
            exact absurd ((Option.some.inj H).trans hT) Bool.false_ne_true
           ·rw [if_neg c160] at H
            have c160b0:decide (t460<0)=false:=dzF c160
            clear c160
            by_cases c161:t460=t458
            ·rw [if_pos c161] at H
             have c161b0:(t460 == t458)=true:=beq_iff_eq.mpr c161
             have c161b1:(t460 != t458)=false:=bne_eq_false_iff_eq.mpr c161
             clear c161
             replace H:=bzS H
             obtain ⟨t461,A1620,H⟩:=H
             replace H:((jY.f kj107 l1_0).bind fun t464=>((jU.f kj107 t461 t464 a2).bind fun bt467=>((jT.f kj107 bt467.1 t426).bind fun t472=>(if t472=true then (jc.j2 kj107 t458 (bt467.2 != t429) t459) else (jc.j2 kj107 t458 true t459)))))=some r:=H
             have A162:=am A1620
             clear A1620
             replace H:=bzS H
             obtain ⟨t464,A1630,H⟩:=H
             replace H:((jU.f kj107 t461 t464 a2).bind fun bt467=>((jT.f kj107 bt467.1 t426).bind fun t472=>(if t472=true then (jc.j2 kj107 t458 (bt467.2 != t429) t459) else (jc.j2 kj107 t458 true t459))))=some r:=H
             have A163:=am A1630
             clear A1630
             replace H:=bzS H
             obtain ⟨⟨t467,t470⟩,A1640,H⟩:=H
             replace H:((jT.f kj107 t467 t426).bind fun t472=>(if t472=true then (jc.j2 kj107 t458 (t470 != t429) t459) else (jc.j2 kj107 t458 true t459)))=some r:=H
             have A164:=am A1640
             clear A1640
             have HC165:=am H
             clear H
             have hnb166:=NB443_416.out
             have hnc166:=NB416_443.out
             have hnb167:=NB443_417.out
             have hnc167:=NB417_443.out
             have hnb168:=NB443_430.out
             have hnc168:=NB430_443.out
             have hnb169:=NB443_434.out
             have hnc169:=NB434_443.out
             have hnb170:=NB443_438.out
             have hnc170:=NB438_443.out
             have hcz171_0:=bc0 BK443.out
             have hfz171_0:=jb BK443.out 0
             try go_wp2_with (first |((with_reducible refine jE (f:=18) rfl ?_);refine gL (some 89) Try.func18 #[.agg #[.slice Ao66 t439.length co66], .int .i64 1] ?_;(with_reducible refine (jxa.calls kj107 (fun k_=>some k_=(.slice Ao66 t439.length co66:Value).ownBlock) (.slice Ao66 t439.length co66) t439 1 t458 t459 w _ ?side1 ?side2 A158.out).mono ?_);(case side1=>exact Y4);(case side2=>exact Kd.jqc rfl HO_444000.out);rintro e w172 ⟨rfl,hy0,hb,hkp⟩;refine ⟨_,rfl,?_⟩;replace HO_431000:=am (Kd.jI (ok':=fun k_=>some k_≠(.slice Ao57 t456.length co57:Value).ownBlock∧some k_≠(.slice Ao66 t439.length co66:Value).ownBlock) (Kd.jSb (HO_431000.out) hkp (fun k_ hk_ hs_=>(hk_.2) hs_)) (fun k_ hk_=>⟨hk_.1.1,hk_.1.2⟩));replace HO_435000:=am (Kd.jI (ok':=fun k_=>True) (Kd.jSb ((Kd.jrc HO_435000.out (Kd.jjc HO_444000.out) (by decide))) hkp (fun k_ hk_ hs_=>(hk_.2) hs_)) (fun k_ hk_=>trivial));replace HO_439000:=am (Kd.jI (ok':=fun k_=>some k_≠(.slice Ao42 t426.length co42:Value).ownBlock∧some k_≠(.slice Ao66 t439.length co66:Value).ownBlock) (Kd.jSb (HO_439000.out) hkp (fun k_ hk_ hs_=>(hk_.2) hs_)) (fun k_ hk_=>⟨hk_.1.1,hk_.1.2⟩));replace BK416:=am (jSa (kq BK416.out) hkp (fun hs_=>(fun e_=>(Kd.R_ne HO_444000.out BK416.out (by decide)) e_) hs_));replace BK417:=am (jSa (kq BK417.out) hkp (fun hs_=>(fun e_=>(Kd.R_ne HO_444000.out BK417.out (by decide)) e_) hs_));replace BK430:=am (jSa (kq BK430.out) hkp (fun hs_=>(fun e_=>(Kd.R_ne HO_444000.out BK430.out (by decide)) e_) hs_));replace BK434:=am (jSa (kq BK434.out) hkp (fun hs_=>(fun e_=>(Kd.R_ne HO_444000.out BK434.out (by decide)) e_) hs_));replace BK438:=am (jSa (kq BK438.out) hkp (fun hs_=>(fun e_=>(Kd.R_ne HO_444000.out BK438.out (by decide)) e_) hs_));replace BK443:=am (jSa (kq BK443.out) hkp (fun hs_=>(fun e_=>(Kd.R_ne HO_444000.out BK443.out (by decide)) e_) hs_));replace HO_444000:=am (Kd.R_reok rfl hy0 (fun k_ e_=>HO_444000.out.1 k_ e_));replace HB:=am (hb);(try clear hb);(try clear hkp);(try clear hy0);have hcz173_0:=bc0 BK443.out;have hfz173_0:=jb BK443.out 0) |((with_reducible refine jE (f:=19) rfl ?_);refine goesL_ (some 92) rfl rfl Try.func19 (by kernel_rfl) rfl #[.agg #[.slice Ao66 t459.length co66], .int .i64 1] rfl (by (try simp only [List.map_toArray,List.map_cons,List.map_nil]);first | done |(rw [show t459.length=t439.length from (Kd.jq HO_444000.out).1.symm] <;> rfl) | rfl |(simp only [List.length_drop,List.length_take];rfl)) ?_;(with_reducible refine (jUa.calls kj107 _ _ t459 1 t460 _ ?side1 ?side2 A159.out).mono ?_);(case side1=>exact cq (Kd.jq HO_444000.out).2.2);(case side2=>rw [show t459.length=t439.length from (Kd.jq HO_444000.out).1.symm];exact (Kd.jq HO_444000.out).2.1);rintro e w174 ⟨rfl,hb⟩;refine ⟨_,rfl,?_⟩;replace HO_431000:=am (Kd.jy (rq HO_431000.out) hb);replace HO_435000:=am (Kd.jy (rq HO_435000.out) hb);replace HO_439000:=am (Kd.jy (rq HO_439000.out) hb);replace HO_444000:=am (Kd.jy (rq HO_444000.out) hb);replace BK416:=am (ja (g:=gb416) (o:=.cells #[.slice A0_0 l0_0.length c0_0] 24 (0,0)) (kq BK416.out) hb);replace BK417:=am (ja (g:=gb417) (o:=.cells #[.slice A1_0 l1_0.length c1_0] 27 (0,0)) (kq BK417.out) hb);replace BK430:=am (ja (g:=gb430) (o:=.cells #[.slice Ao42 t426.length co42] 32 (0,0)) (kq BK430.out) hb);replace BK434:=am (ja (g:=gb434) (o:=.cells #[.slice Ao48 t454.length co48] 37 (0,0)) (kq BK434.out) hb);replace BK438:=am (ja (g:=gb438) (o:=.cells #[.slice Ao57 t456.length co57] 32 (0,0)) (kq BK438.out) hb);replace BK443:=am (ja (g:=gb443) (o:=.cells #[.slice Ao66 t439.length co66] 32 (0,0)) (kq BK443.out) hb);replace HB:=am (je (Y4) hb);(try clear hb);(try clear hb2);(try clear hk);(try clear hi)))
             replace HO_431000:=am (Kd.jQ HO_431000.out)
             replace HO_435000:=am (Kd.jQ HO_435000.out)
             replace HO_439000:=am (Kd.jQ HO_439000.out)
             replace HO_444000:=am (Kd.jQ HO_444000.out)
             replace BK416:=am (jh BK416.out)
             replace BK417:=am (jh BK417.out)
             replace BK430:=am (jh BK430.out)
             replace BK434:=am (jh BK434.out)
             replace BK438:=am (jh BK438.out)
             replace BK443:=am (jh BK443.out)
             replace HB:=am (jm HB.out)
             refine jdc (n:=12) (S:=fun w'=>w'.cell? ⟨gb416,0,none⟩=some (.slice A0_0 l0_0.length c0_0)∧w'.cell? ⟨gb417,0,none⟩=some (.slice A1_0 l1_0.length c1_0)) (ds:=[]) #[false,false,false,false,false,false,false,false,false,false,false,false] (by kernel_rfl) rfl rfl ⟨(jr BK416.out 0).trans rfl,(jr BK417.out 0).trans rfl⟩ (fun hHeld=>?_);refine jBb jc.tab31 jc.bits31 (fun HT_ HW_=>?_)
             generalize w174.drew=w175 at HO_431000 HO_435000 HO_439000 HO_444000 BK416 BK417 BK430 BK434 BK438 BK443 HB hHeld ⊢
             refine pq (i:=4) (N:=some 103) #[false,false,false,false,true,false,false,false,false,false,false,false] ?_
             refine jCb (i:=0) (N:=some 99) (v:=?_) (a':=?_) #[true,false,false,false,true,false,false,false,false,false,false,false] rfl rfl (jTa HT_.out HW_.out (by kernel_rfl)) (fun _ _ _ h=>h) (Or.inl ⟨by rfl,?_⟩) hHeld ?_ ?_
             rotate_left
             ·rintro w' ⟨s0,s1⟩
              go_simp
              with_reducible rfl
             rotate_left
             ·exact sa
             refine jCb (i:=2) (N:=some 101) (v:=?_) (a':=?_) #[true,false,true,false,true,false,false,false,false,false,false,false] rfl rfl (jTa HT_.out HW_.out (by kernel_rfl)) (fun _ _ _ h=>h) (Or.inl ⟨by rfl,?_⟩) hHeld ?_ ?_
             rotate_left
             ·rintro w' ⟨s0,s1⟩
              go_simp
              with_reducible rfl
             rotate_left
             ·exact sa
             refine join_ (σ:=Value × Value × Value × Nat) 2 #[true,true,true,true,true,true,true,true,true,true,false,false] (fun s_=>[(100, .agg #[s_.1]),(102, .agg #[s_.2.1]),(104, .tuple #[.agg #[s_.2.2.1], .int .i64 t470]),(17, .pointer (some ⟨s_.2.2.2,0,none⟩)),(98, .tuple #[.agg #[s_.2.2.1], .int .i64 t470]),(105, .agg #[s_.2.2.1]),(106, .int .i64 t470)]) (fun s_ w'=>(w'.cell? ⟨gb416,0,none⟩=some (.slice A0_0 l0_0.length c0_0)∧w'.cell? ⟨gb417,0,none⟩=some (.slice A1_0 l1_0.length c1_0))∧(Kd.R k94 94 w' w.heap.size (fun k_=>some k_≠(.slice Ao48 t454.length co48:Value).ownBlock) s_.1 t461)∧(Kd.R k54 54 w' w.heap.size (fun k_=>some k_≠(s_.2.2.1:Value).ownBlock∧some k_≠(.slice Ao42 t426.length co42:Value).ownBlock∧some k_≠(.slice Ao57 t456.length co57:Value).ownBlock∧some k_≠(.slice Ao66 t439.length co66:Value).ownBlock) s_.2.1 t464)∧(Kd.R k54 54 w' w.heap.size (fun k_=>some k_≠(s_.2.1:Value).ownBlock∧some k_≠(.slice Ao42 t426.length co42:Value).ownBlock∧some k_≠(.slice Ao57 t456.length co57:Value).ownBlock∧some k_≠(.slice Ao66 t439.length co66:Value).ownBlock) s_.2.2.1 t467)∧(Kd.R k54 54 w' w.heap.size (fun k_=>some k_≠(s_.2.1:Value).ownBlock∧some k_≠(s_.2.2.1:Value).ownBlock∧some k_≠(.slice Ao57 t456.length co57:Value).ownBlock∧some k_≠(.slice Ao66 t439.length co66:Value).ownBlock) (.slice Ao42 t426.length co42) t426)∧(Kd.R k94 94 w' w.heap.size (fun k_=>some k_≠(s_.1:Value).ownBlock) (.slice Ao48 t454.length co48) t454)∧(Kd.R k54 54 w' w.heap.size (fun k_=>some k_≠(s_.2.1:Value).ownBlock∧some k_≠(s_.2.2.1:Value).ownBlock∧some k_≠(.slice Ao42 t426.length co42:Value).ownBlock∧some k_≠(.slice Ao66 t439.length co66:Value).ownBlock) (.slice Ao57 t456.length co57) t456)∧(Kd.R k54 54 w' w.heap.size (fun k_=>some k_≠(s_.2.1:Value).ownBlock∧some k_≠(s_.2.2.1:Value).ownBlock∧some k_≠(.slice Ao42 t426.length co42:Value).ownBlock∧some k_≠(.slice Ao57 t456.length co57:Value).ownBlock) (.slice Ao66 t439.length co66) t459)∧(w'.heap[gb416]?=some (.cells #[.slice A0_0 l0_0.length c0_0] 24 (0,0)))∧(w'.heap[gb417]?=some (.cells #[.slice A1_0 l1_0.length c1_0] 27 (0,0)))∧(w'.heap[gb430]?=some (.cells #[.slice Ao42 t426.length co42] 32 (0,0)))∧(w'.heap[gb434]?=some (.cells #[.slice Ao48 t454.length co48] 37 (0,0)))∧(w'.heap[gb438]?=some (.cells #[.slice Ao57 t456.length co57] 32 (0,0)))∧(w'.heap[gb443]?=some (.cells #[.slice Ao66 t439.length co66] 32 (0,0)))∧(w'.heap[s_.2.2.2]?=some (.cells #[.slice none 0 0] 32 (0,0)))∧(w.heap.size≤s_.2.2.2)∧(w.heap.size≤s_.2.2.2)∧(gb416≠s_.2.2.2)∧(s_.2.2.2≠gb416)∧(gb417≠s_.2.2.2)∧(s_.2.2.2≠gb417)∧(gb430≠s_.2.2.2)∧(s_.2.2.2≠gb430)∧(gb434≠s_.2.2.2)∧(s_.2.2.2≠gb434)∧(gb438≠s_.2.2.2)∧(s_.2.2.2≠gb438)∧(gb443≠s_.2.2.2)∧(s_.2.2.2≠gb443)∧(Below w.heap.size w w')) ?_ ?_
             rotate_left
             ·intro hCont
              refine two_ (i:=1) (j:=9) (Ni:=some 100) (Nj:=some 17) #[true,true,true,false,true,false,false,false,false,false,false,false] #[true,false,true,false,true,false,false,false,false,true,false,false] rfl rfl rfl rfl (two_of HT_.out (by kernel_rfl)) (by decide) (by decide) (fun K hK=>?_) (fun K hK=>?_)
              ·skip
               refine jDb Try.func12 (by kernel_rfl) rfl #[.agg #[.slice A0_0 l0_0.length c0_0]] (by rfl) rfl rfl (aq) ?_
               with_reducible refine (jla.calls kj107 _ _ l0_0 t461 _ ?side1 ?side2 A162.out).mono ?_
               (case side1=>exact cq (Kd.jK HR0_0.out HB.out))
               (case side2=>exact HC0_0.out)
               rintro e w176 ⟨v462,rfl,ho0,hb⟩
               refine ⟨_,rfl,?_⟩
               have HO463:=am (Kd.jna (Kd.jRa ho0 (Kd.R_lt (rq HO_435000.out))) (jA (Y4)))
               replace HO_431000:=am (Kd.jy (rq HO_431000.out) hb)
               replace HO_435000:=am (Kd.jta (rq HO_435000.out) (Kd.jQa ho0) hb)
               replace HO_439000:=am (Kd.jy (rq HO_439000.out) hb)
               replace HO_444000:=am (Kd.jy (rq HO_444000.out) hb)
               replace BK416:=am (ja (g:=gb416) (o:=.cells #[.slice A0_0 l0_0.length c0_0] 24 (0,0)) (kq BK416.out) hb)
               replace BK417:=am (ja (g:=gb417) (o:=.cells #[.slice A1_0 l1_0.length c1_0] 27 (0,0)) (kq BK417.out) hb)
               replace BK430:=am (ja (g:=gb430) (o:=.cells #[.slice Ao42 t426.length co42] 32 (0,0)) (kq BK430.out) hb)
               replace BK434:=am (ja (g:=gb434) (o:=.cells #[.slice Ao48 t454.length co48] 37 (0,0)) (kq BK434.out) hb)
               replace BK438:=am (ja (g:=gb438) (o:=.cells #[.slice Ao57 t456.length co57] 32 (0,0)) (kq BK438.out) hb)
               replace BK443:=am (ja (g:=gb443) (o:=.cells #[.slice Ao66 t439.length co66] 32 (0,0)) (kq BK443.out) hb)
               replace HB:=am (je (Y4) hb)
               (try clear hb)
               (try clear hb2)
               (try clear hk)
               (try clear hi)
               (try clear ho0)
               refine hK.out _ _ ⟨(jr BK416.out 0).trans rfl,(jr BK417.out 0).trans rfl⟩ (fun hHeld=>?_)
               clear hK K
               refine jYa (a':=?_) ?_ ?_
               rotate_left
               ·show Act.put _ (some 100) _=_
                simp only [Act.put,List.setIfInBounds_toArray,List.set_cons_zero,List.set_cons_succ,jZa,jdb]
                rfl
               refine two_ (i:=3) (j:=9) (Ni:=some 102) (Nj:=some 17) #[true,true,true,true,true,false,false,false,false,false,false,false] #[true,true,true,false,true,false,false,false,false,true,false,false] rfl rfl rfl rfl (two_of HT_.out (by kernel_rfl)) (by decide) (by decide) (fun K hK=>?_) (fun K hK=>?_)
               ·skip
                refine jDb Try.func13 (by kernel_rfl) rfl #[.agg #[.slice A1_0 l1_0.length c1_0]] (by rfl) rfl rfl (aq) ?_
                with_reducible refine (jY.calls kj107 _ _ l1_0 t464 _ ?side1 ?side2 A163.out).mono ?_
                (case side1=>exact cq (Kd.jK HR1_0.out HB.out))
                (case side2=>exact HC1_0.out)
                rintro e w177 ⟨v465,rfl,ho0,hb⟩
                refine ⟨_,rfl,?_⟩
                have HO466:=am (Kd.jna (Kd.jRa (Kd.jRa (Kd.jRa ho0 (Kd.R_lt (rq HO_431000.out))) (Kd.R_lt (rq HO_439000.out))) (Kd.R_lt (rq HO_444000.out))) (jA (Y4)))
                replace HO_431000:=am (Kd.jta (rq HO_431000.out) (Kd.jQa ho0) hb)
                replace HO_435000:=am (Kd.jy (rq HO_435000.out) hb)
                replace HO_439000:=am (Kd.jta (rq HO_439000.out) (Kd.jQa ho0) hb)
                replace HO_444000:=am (Kd.jta (rq HO_444000.out) (Kd.jQa ho0) hb)
                replace HO463:=am (Kd.jy (rq HO463.out) hb)
                replace BK416:=am (ja (g:=gb416) (o:=.cells #[.slice A0_0 l0_0.length c0_0] 24 (0,0)) (kq BK416.out) hb)
                replace BK417:=am (ja (g:=gb417) (o:=.cells #[.slice A1_0 l1_0.length c1_0] 27 (0,0)) (kq BK417.out) hb)
                replace BK430:=am (ja (g:=gb430) (o:=.cells #[.slice Ao42 t426.length co42] 32 (0,0)) (kq BK430.out) hb)
                replace BK434:=am (ja (g:=gb434) (o:=.cells #[.slice Ao48 t454.length co48] 37 (0,0)) (kq BK434.out) hb)
                replace BK438:=am (ja (g:=gb438) (o:=.cells #[.slice Ao57 t456.length co57] 32 (0,0)) (kq BK438.out) hb)
                replace BK443:=am (ja (g:=gb443) (o:=.cells #[.slice Ao66 t439.length co66] 32 (0,0)) (kq BK443.out) hb)
                replace HB:=am (je (Y4) hb)
                (try clear hb)
                (try clear hb2)
                (try clear hk)
                (try clear hi)
                (try clear ho0)
                obtain ⟨Ao178,co178,eo178⟩:=Kd.jca HO463.out
                (first | subst eo178 |(injection eo178 with f1_ f2_ f3_;have f4_:=f1_.symm;have f5_:=f3_.symm;clear f1_ f2_ f3_;subst f4_;subst f5_))
                obtain ⟨Ao179,co179,eo179⟩:=Kd.jca HO466.out
                (first | subst eo179 |(injection eo179 with f1_ f2_ f3_;have f4_:=f1_.symm;have f5_:=f3_.symm;clear f1_ f2_ f3_;subst f4_;subst f5_))
                refine hK.out _ _ ⟨(jr BK416.out 0).trans rfl,(jr BK417.out 0).trans rfl⟩ (fun hHeld=>?_)
                clear hK K
                refine jYa (a':=?_) ?_ ?_
                rotate_left
                ·show Act.put _ (some 102) _=_
                 simp only [Act.put,List.setIfInBounds_toArray,List.set_cons_zero,List.set_cons_succ,jZa,jdb]
                 rfl
                refine two_ (i:=5) (j:=9) (Ni:=some 104) (Nj:=some 17) #[true,true,true,true,true,true,false,false,false,false,false,false] #[true,true,true,true,true,false,false,false,false,true,false,false] rfl rfl rfl rfl (two_of HT_.out (by kernel_rfl)) (by decide) (by decide) (fun K hK=>?_) (fun K hK=>?_)
                ·skip
                 refine jDb Try.func14 (by kernel_rfl) rfl #[.agg #[.slice Ao178 t461.length co178], .agg #[.slice Ao179 t464.length co179], .int .i64 a2] (by rfl) rfl rfl (aq) ?_
                 with_reducible refine (jU.calls kj107 _ _ t461 _ _ t464 a2 t467 t470 _ ?side1 ?side2 ?side3 ?side4 A164.out).mono ?_
                 (case side1=>exact cq (Kd.jq HO463.out).2.2)
                 (case side2=>exact (Kd.jq HO463.out).2.1)
                 (case side3=>exact cq (Kd.jq HO466.out).2.2)
                 (case side4=>exact (Kd.jq HO466.out).2.1)
                 rintro e w180 ⟨v468,rfl,ho0,hb⟩
                 refine ⟨_,rfl,?_⟩
                 have HO469:=am (Kd.jna (Kd.jRa (Kd.jRa (Kd.jRa (Kd.jRa ho0 (Kd.R_lt (rq HO_431000.out))) (Kd.R_lt (rq HO_439000.out))) (Kd.R_lt (rq HO_444000.out))) (Kd.R_lt (rq HO466.out))) (jA (Y4)))
                 replace HO_431000:=am (Kd.jta (rq HO_431000.out) (Kd.jQa ho0) hb)
                 replace HO_435000:=am (Kd.jy (rq HO_435000.out) hb)
                 replace HO_439000:=am (Kd.jta (rq HO_439000.out) (Kd.jQa ho0) hb)
                 replace HO_444000:=am (Kd.jta (rq HO_444000.out) (Kd.jQa ho0) hb)
                 replace HO463:=am (Kd.jy (rq HO463.out) hb)
                 replace HO466:=am (Kd.jta (rq HO466.out) (Kd.jQa ho0) hb)
                 replace BK416:=am (ja (g:=gb416) (o:=.cells #[.slice A0_0 l0_0.length c0_0] 24 (0,0)) (kq BK416.out) hb)
                 replace BK417:=am (ja (g:=gb417) (o:=.cells #[.slice A1_0 l1_0.length c1_0] 27 (0,0)) (kq BK417.out) hb)
                 replace BK430:=am (ja (g:=gb430) (o:=.cells #[.slice Ao42 t426.length co42] 32 (0,0)) (kq BK430.out) hb)
                 replace BK434:=am (ja (g:=gb434) (o:=.cells #[.slice Ao48 t454.length co48] 37 (0,0)) (kq BK434.out) hb)
                 replace BK438:=am (ja (g:=gb438) (o:=.cells #[.slice Ao57 t456.length co57] 32 (0,0)) (kq BK438.out) hb)
                 replace BK443:=am (ja (g:=gb443) (o:=.cells #[.slice Ao66 t439.length co66] 32 (0,0)) (kq BK443.out) hb)
                 replace HB:=am (je (Y4) hb)
                 (try clear hb)
                 (try clear hb2)
                 (try clear hk)
                 (try clear hi)
                 (try clear ho0)
                 refine hK.out _ _ ⟨(jr BK416.out 0).trans rfl,(jr BK417.out 0).trans rfl⟩ (fun hHeld=>?_)
                 clear hK K
                 refine jYa (a':=?_) ?_ ?_
                 rotate_left
                 ·show Act.put _ (some 104) _=_
                  simp only [Act.put,List.setIfInBounds_toArray,List.set_cons_zero,List.set_cons_succ,jZa,jdb]
                  rfl
                 refine pq (i:=6) (N:=some 98) #[true,true,true,true,true,true,true,false,false,false,false,false] ?_
                 refine pq (i:=7) (N:=some 105) #[true,true,true,true,true,true,true,true,false,false,false,false] ?_
                 refine pq (i:=8) (N:=some 106) #[true,true,true,true,true,true,true,true,true,false,false,false] ?_
                 refine one_ (i:=9) (N:=some 17) #[true,true,true,true,true,true,true,true,true,true,false,false] rfl rfl (jlb HT_.out (by kernel_rfl)) (by decide) (fun K hK=>?_)
                 refine jYb ?hg (N:=17) ?hd (cs:=#[.slice none 0 0]) (t:=32) ?hr ?_;(case hd=>rfl);(case hg=>rfl);(case hr=>exact Y3)
                 intro gb471 hg w181 hbox hb
                 have BK471:=am (hbox)
                 have GW471:=am ((Y28:w.heap.size≤gb471))
                 have GE471:=am ((Y28:w.heap.size≤gb471))
                 have NB416_471:=am ((Y12:gb416≠gb471))
                 have NB471_416:=am ((Y13:gb471≠gb416))
                 have NB417_471:=am ((Y16:gb417≠gb471))
                 have NB471_417:=am ((Y17:gb471≠gb417))
                 have NB430_471:=am ((Y29:gb430≠gb471))
                 have NB471_430:=am ((Y30:gb471≠gb430))
                 have NB434_471:=am ((Y76:gb434≠gb471))
                 have NB471_434:=am ((Y77:gb471≠gb434))
                 have NB438_471:=am ((Y78:gb438≠gb471))
                 have NB471_438:=am ((Y79:gb471≠gb438))
                 have NB443_471:=am ((Y80:gb443≠gb471))
                 have NB471_443:=am ((Y81:gb471≠gb443))
                 replace HO_431000:=am (Kd.jy (rq HO_431000.out) hb)
                 replace HO_435000:=am (Kd.jy (rq HO_435000.out) hb)
                 replace HO_439000:=am (Kd.jy (rq HO_439000.out) hb)
                 replace HO_444000:=am (Kd.jy (rq HO_444000.out) hb)
                 replace HO463:=am (Kd.jy (rq HO463.out) hb)
                 replace HO466:=am (Kd.jy (rq HO466.out) hb)
                 replace HO469:=am (Kd.jy (rq HO469.out) hb)
                 replace BK416:=am (ja (g:=gb416) (o:=.cells #[.slice A0_0 l0_0.length c0_0] 24 (0,0)) (kq BK416.out) hb)
                 replace BK417:=am (ja (g:=gb417) (o:=.cells #[.slice A1_0 l1_0.length c1_0] 27 (0,0)) (kq BK417.out) hb)
                 replace BK430:=am (ja (g:=gb430) (o:=.cells #[.slice Ao42 t426.length co42] 32 (0,0)) (kq BK430.out) hb)
                 replace BK434:=am (ja (g:=gb434) (o:=.cells #[.slice Ao48 t454.length co48] 37 (0,0)) (kq BK434.out) hb)
                 replace BK438:=am (ja (g:=gb438) (o:=.cells #[.slice Ao57 t456.length co57] 32 (0,0)) (kq BK438.out) hb)
                 replace BK443:=am (ja (g:=gb443) (o:=.cells #[.slice Ao66 t439.length co66] 32 (0,0)) (kq BK443.out) hb)
                 replace HB:=am (je (Y4) hb)
                 clear hb hbox hg
                 refine hK.out _ _ ⟨(jr BK416.out 0).trans rfl,(jr BK417.out 0).trans rfl⟩ (fun hHeld=>?_)
                 clear hK K
                 refine jYa (a':=?_) ?_ ?_
                 rotate_left
                 ·show Act.put _ (some 17) _=_
                  simp only [Act.put,List.setIfInBounds_toArray,List.set_cons_zero,List.set_cons_succ,jZa,jdb]
                  rfl
                 exact jYa (by simp only [jlc,Act.put,List.setIfInBounds_toArray,List.set_cons_zero,List.set_cons_succ]) (hCont (.slice Ao178 t461.length co178, .slice Ao179 t464.length co179,v468,gb471) _ ⟨hHeld,(Y82),(Y83),(Y84),(Y85),(Y86),(Y87),(Y88),(kq BK416.out),(kq BK417.out),(kq BK430.out),(kq BK434.out),(kq BK438.out),(kq BK443.out),(kq BK471.out),GW471.out,GE471.out,NB416_471.out,NB471_416.out,NB417_471.out,NB471_417.out,NB430_471.out,NB471_430.out,NB434_471.out,NB471_434.out,NB438_471.out,NB471_438.out,NB443_471.out,NB471_443.out,(Y7)⟩)
                ·skip
                 refine jYb ?hg (N:=17) ?hd (cs:=#[.slice none 0 0]) (t:=32) ?hr ?_;(case hd=>rfl);(case hg=>rfl);(case hr=>exact Y3)
                 intro gb471 hg w178 hbox hb
                 have BK471:=am (hbox)
                 have GW471:=am ((Y28:w.heap.size≤gb471))
                 have GE471:=am ((Y28:w.heap.size≤gb471))
                 have NB416_471:=am ((Y12:gb416≠gb471))
                 have NB471_416:=am ((Y13:gb471≠gb416))
                 have NB417_471:=am ((Y16:gb417≠gb471))
                 have NB471_417:=am ((Y17:gb471≠gb417))
                 have NB430_471:=am ((Y29:gb430≠gb471))
                 have NB471_430:=am ((Y30:gb471≠gb430))
                 have NB434_471:=am ((Y76:gb434≠gb471))
                 have NB471_434:=am ((Y77:gb471≠gb434))
                 have NB438_471:=am ((Y78:gb438≠gb471))
                 have NB471_438:=am ((Y79:gb471≠gb438))
                 have NB443_471:=am ((Y80:gb443≠gb471))
                 have NB471_443:=am ((Y81:gb471≠gb443))
                 replace HO_431000:=am (Kd.jy (rq HO_431000.out) hb)
                 replace HO_435000:=am (Kd.jy (rq HO_435000.out) hb)
                 replace HO_439000:=am (Kd.jy (rq HO_439000.out) hb)
                 replace HO_444000:=am (Kd.jy (rq HO_444000.out) hb)
                 replace HO463:=am (Kd.jy (rq HO463.out) hb)
                 replace HO466:=am (Kd.jy (rq HO466.out) hb)
                 replace BK416:=am (ja (g:=gb416) (o:=.cells #[.slice A0_0 l0_0.length c0_0] 24 (0,0)) (kq BK416.out) hb)
                 replace BK417:=am (ja (g:=gb417) (o:=.cells #[.slice A1_0 l1_0.length c1_0] 27 (0,0)) (kq BK417.out) hb)
                 replace BK430:=am (ja (g:=gb430) (o:=.cells #[.slice Ao42 t426.length co42] 32 (0,0)) (kq BK430.out) hb)
                 replace BK434:=am (ja (g:=gb434) (o:=.cells #[.slice Ao48 t454.length co48] 37 (0,0)) (kq BK434.out) hb)
                 replace BK438:=am (ja (g:=gb438) (o:=.cells #[.slice Ao57 t456.length co57] 32 (0,0)) (kq BK438.out) hb)
                 replace BK443:=am (ja (g:=gb443) (o:=.cells #[.slice Ao66 t439.length co66] 32 (0,0)) (kq BK443.out) hb)
                 replace HB:=am (je (Y4) hb)
                 clear hb hbox hg
                 obtain ⟨Ao179,co179,eo179⟩:=Kd.jca HO463.out
                 (first | subst eo179 |(injection eo179 with f1_ f2_ f3_;have f4_:=f1_.symm;have f5_:=f3_.symm;clear f1_ f2_ f3_;subst f4_;subst f5_))
                 obtain ⟨Ao180,co180,eo180⟩:=Kd.jca HO466.out
                 (first | subst eo180 |(injection eo180 with f1_ f2_ f3_;have f4_:=f1_.symm;have f5_:=f3_.symm;clear f1_ f2_ f3_;subst f4_;subst f5_))
                 refine hK.out _ _ ⟨(jr BK416.out 0).trans rfl,(jr BK417.out 0).trans rfl⟩ (fun hHeld=>?_)
                 clear hK K
                 refine jYa (a':=?_) ?_ ?_
                 rotate_left
                 ·show Act.put _ (some 17) _=_
                  simp only [Act.put,List.setIfInBounds_toArray,List.set_cons_zero,List.set_cons_succ,jZa,jdb]
                  rfl
                 refine one_ (i:=5) (N:=some 104) #[true,true,true,true,true,true,false,false,false,true,false,false] rfl rfl (jlb HT_.out (by kernel_rfl)) (by decide) (fun K hK=>?_)
                 refine jDb Try.func14 (by kernel_rfl) rfl #[.agg #[.slice Ao179 t461.length co179], .agg #[.slice Ao180 t464.length co180], .int .i64 a2] (by rfl) rfl rfl (aq) ?_
                 with_reducible refine (jU.calls kj107 _ _ t461 _ _ t464 a2 t467 t470 _ ?side1 ?side2 ?side3 ?side4 A164.out).mono ?_
                 (case side1=>exact cq (Kd.jq HO463.out).2.2)
                 (case side2=>exact (Kd.jq HO463.out).2.1)
                 (case side3=>exact cq (Kd.jq HO466.out).2.2)
                 (case side4=>exact (Kd.jq HO466.out).2.1)
                 rintro e w181 ⟨v468,rfl,ho0,hb⟩
                 refine ⟨_,rfl,?_⟩
                 have HO469:=am (Kd.jna (Kd.jRa (Kd.jRa (Kd.jRa (Kd.jRa ho0 (Kd.R_lt (rq HO_431000.out))) (Kd.R_lt (rq HO_439000.out))) (Kd.R_lt (rq HO_444000.out))) (Kd.R_lt (rq HO466.out))) (jA (Y7)))
                 replace HO_431000:=am (Kd.jta (rq HO_431000.out) (Kd.jQa ho0) hb)
                 replace HO_435000:=am (Kd.jy (rq HO_435000.out) hb)
                 replace HO_439000:=am (Kd.jta (rq HO_439000.out) (Kd.jQa ho0) hb)
                 replace HO_444000:=am (Kd.jta (rq HO_444000.out) (Kd.jQa ho0) hb)
                 replace HO463:=am (Kd.jy (rq HO463.out) hb)
                 replace HO466:=am (Kd.jta (rq HO466.out) (Kd.jQa ho0) hb)
                 replace BK416:=am (ja (g:=gb416) (o:=.cells #[.slice A0_0 l0_0.length c0_0] 24 (0,0)) (kq BK416.out) hb)
                 replace BK417:=am (ja (g:=gb417) (o:=.cells #[.slice A1_0 l1_0.length c1_0] 27 (0,0)) (kq BK417.out) hb)
                 replace BK430:=am (ja (g:=gb430) (o:=.cells #[.slice Ao42 t426.length co42] 32 (0,0)) (kq BK430.out) hb)
                 replace BK434:=am (ja (g:=gb434) (o:=.cells #[.slice Ao48 t454.length co48] 37 (0,0)) (kq BK434.out) hb)
                 replace BK438:=am (ja (g:=gb438) (o:=.cells #[.slice Ao57 t456.length co57] 32 (0,0)) (kq BK438.out) hb)
                 replace BK443:=am (ja (g:=gb443) (o:=.cells #[.slice Ao66 t439.length co66] 32 (0,0)) (kq BK443.out) hb)
                 replace BK471:=am (ja (g:=gb471) (o:=.cells #[.slice none 0 0] 32 (0,0)) (kq BK471.out) hb)
                 replace HB:=am (je (Y7) hb)
                 (try clear hb)
                 (try clear hb2)
                 (try clear hk)
                 (try clear hi)
                 (try clear ho0)
                 refine hK.out _ _ ⟨(jr BK416.out 0).trans rfl,(jr BK417.out 0).trans rfl⟩ (fun hHeld=>?_)
                 clear hK K
                 refine jYa (a':=?_) ?_ ?_
                 rotate_left
                 ·show Act.put _ (some 104) _=_
                  simp only [Act.put,List.setIfInBounds_toArray,List.set_cons_zero,List.set_cons_succ,jZa,jdb]
                  rfl
                 refine pq (i:=6) (N:=some 98) #[true,true,true,true,true,true,true,false,false,true,false,false] ?_
                 refine pq (i:=7) (N:=some 105) #[true,true,true,true,true,true,true,true,false,true,false,false] ?_
                 refine pq (i:=8) (N:=some 106) #[true,true,true,true,true,true,true,true,true,true,false,false] ?_
                 exact jYa (by simp only [jlc,Act.put,List.setIfInBounds_toArray,List.set_cons_zero,List.set_cons_succ]) (hCont (.slice Ao179 t461.length co179, .slice Ao180 t464.length co180,v468,gb471) _ ⟨hHeld,(Y82),(Y83),(Y84),(Y85),(Y86),(Y87),(Y88),(kq BK416.out),(kq BK417.out),(kq BK430.out),(kq BK434.out),(kq BK438.out),(kq BK443.out),(kq BK471.out),GW471.out,GE471.out,NB416_471.out,NB471_416.out,NB417_471.out,NB471_417.out,NB430_471.out,NB471_430.out,NB434_471.out,NB471_434.out,NB438_471.out,NB471_438.out,NB443_471.out,NB471_443.out,(Y7)⟩)
               ·skip
                refine jYb ?hg (N:=17) ?hd (cs:=#[.slice none 0 0]) (t:=32) ?hr ?_;(case hd=>rfl);(case hg=>rfl);(case hr=>exact Y3)
                intro gb471 hg w177 hbox hb
                have BK471:=am (hbox)
                have GW471:=am ((Y28:w.heap.size≤gb471))
                have GE471:=am ((Y28:w.heap.size≤gb471))
                have NB416_471:=am ((Y12:gb416≠gb471))
                have NB471_416:=am ((Y13:gb471≠gb416))
                have NB417_471:=am ((Y16:gb417≠gb471))
                have NB471_417:=am ((Y17:gb471≠gb417))
                have NB430_471:=am ((Y29:gb430≠gb471))
                have NB471_430:=am ((Y30:gb471≠gb430))
                have NB434_471:=am ((Y76:gb434≠gb471))
                have NB471_434:=am ((Y77:gb471≠gb434))
                have NB438_471:=am ((Y78:gb438≠gb471))
                have NB471_438:=am ((Y79:gb471≠gb438))
                have NB443_471:=am ((Y80:gb443≠gb471))
                have NB471_443:=am ((Y81:gb471≠gb443))
                replace HO_431000:=am (Kd.jy (rq HO_431000.out) hb)
                replace HO_435000:=am (Kd.jy (rq HO_435000.out) hb)
                replace HO_439000:=am (Kd.jy (rq HO_439000.out) hb)
                replace HO_444000:=am (Kd.jy (rq HO_444000.out) hb)
                replace HO463:=am (Kd.jy (rq HO463.out) hb)
                replace BK416:=am (ja (g:=gb416) (o:=.cells #[.slice A0_0 l0_0.length c0_0] 24 (0,0)) (kq BK416.out) hb)
                replace BK417:=am (ja (g:=gb417) (o:=.cells #[.slice A1_0 l1_0.length c1_0] 27 (0,0)) (kq BK417.out) hb)
                replace BK430:=am (ja (g:=gb430) (o:=.cells #[.slice Ao42 t426.length co42] 32 (0,0)) (kq BK430.out) hb)
                replace BK434:=am (ja (g:=gb434) (o:=.cells #[.slice Ao48 t454.length co48] 37 (0,0)) (kq BK434.out) hb)
                replace BK438:=am (ja (g:=gb438) (o:=.cells #[.slice Ao57 t456.length co57] 32 (0,0)) (kq BK438.out) hb)
                replace BK443:=am (ja (g:=gb443) (o:=.cells #[.slice Ao66 t439.length co66] 32 (0,0)) (kq BK443.out) hb)
                replace HB:=am (je (Y4) hb)
                clear hb hbox hg
                refine hK.out _ _ ⟨(jr BK416.out 0).trans rfl,(jr BK417.out 0).trans rfl⟩ (fun hHeld=>?_)
                clear hK K
                refine jYa (a':=?_) ?_ ?_
                rotate_left
                ·show Act.put _ (some 17) _=_
                 simp only [Act.put,List.setIfInBounds_toArray,List.set_cons_zero,List.set_cons_succ,jZa,jdb]
                 rfl
                refine one_ (i:=3) (N:=some 102) #[true,true,true,true,true,false,false,false,false,true,false,false] rfl rfl (jlb HT_.out (by kernel_rfl)) (by decide) (fun K hK=>?_)
                refine jDb Try.func13 (by kernel_rfl) rfl #[.agg #[.slice A1_0 l1_0.length c1_0]] (by rfl) rfl rfl (aq) ?_
                with_reducible refine (jY.calls kj107 _ _ l1_0 t464 _ ?side1 ?side2 A163.out).mono ?_
                (case side1=>exact cq (Kd.jK HR1_0.out HB.out))
                (case side2=>exact HC1_0.out)
                rintro e w178 ⟨v465,rfl,ho0,hb⟩
                refine ⟨_,rfl,?_⟩
                have HO466:=am (Kd.jna (Kd.jRa (Kd.jRa (Kd.jRa ho0 (Kd.R_lt (rq HO_431000.out))) (Kd.R_lt (rq HO_439000.out))) (Kd.R_lt (rq HO_444000.out))) (jA (Y7)))
                replace HO_431000:=am (Kd.jta (rq HO_431000.out) (Kd.jQa ho0) hb)
                replace HO_435000:=am (Kd.jy (rq HO_435000.out) hb)
                replace HO_439000:=am (Kd.jta (rq HO_439000.out) (Kd.jQa ho0) hb)
                replace HO_444000:=am (Kd.jta (rq HO_444000.out) (Kd.jQa ho0) hb)
                replace HO463:=am (Kd.jy (rq HO463.out) hb)
                replace BK416:=am (ja (g:=gb416) (o:=.cells #[.slice A0_0 l0_0.length c0_0] 24 (0,0)) (kq BK416.out) hb)
                replace BK417:=am (ja (g:=gb417) (o:=.cells #[.slice A1_0 l1_0.length c1_0] 27 (0,0)) (kq BK417.out) hb)
                replace BK430:=am (ja (g:=gb430) (o:=.cells #[.slice Ao42 t426.length co42] 32 (0,0)) (kq BK430.out) hb)
                replace BK434:=am (ja (g:=gb434) (o:=.cells #[.slice Ao48 t454.length co48] 37 (0,0)) (kq BK434.out) hb)
                replace BK438:=am (ja (g:=gb438) (o:=.cells #[.slice Ao57 t456.length co57] 32 (0,0)) (kq BK438.out) hb)
                replace BK443:=am (ja (g:=gb443) (o:=.cells #[.slice Ao66 t439.length co66] 32 (0,0)) (kq BK443.out) hb)
                replace BK471:=am (ja (g:=gb471) (o:=.cells #[.slice none 0 0] 32 (0,0)) (kq BK471.out) hb)
                replace HB:=am (je (Y7) hb)
                (try clear hb)
                (try clear hb2)
                (try clear hk)
                (try clear hi)
                (try clear ho0)
                obtain ⟨Ao179,co179,eo179⟩:=Kd.jca HO463.out
                (first | subst eo179 |(injection eo179 with f1_ f2_ f3_;have f4_:=f1_.symm;have f5_:=f3_.symm;clear f1_ f2_ f3_;subst f4_;subst f5_))
                obtain ⟨Ao180,co180,eo180⟩:=Kd.jca HO466.out
                (first | subst eo180 |(injection eo180 with f1_ f2_ f3_;have f4_:=f1_.symm;have f5_:=f3_.symm;clear f1_ f2_ f3_;subst f4_;subst f5_))
                refine hK.out _ _ ⟨(jr BK416.out 0).trans rfl,(jr BK417.out 0).trans rfl⟩ (fun hHeld=>?_)
                clear hK K
                refine jYa (a':=?_) ?_ ?_
                rotate_left
                ·show Act.put _ (some 102) _=_
                 simp only [Act.put,List.setIfInBounds_toArray,List.set_cons_zero,List.set_cons_succ,jZa,jdb]
                 rfl
                refine one_ (i:=5) (N:=some 104) #[true,true,true,true,true,true,false,false,false,true,false,false] rfl rfl (jlb HT_.out (by kernel_rfl)) (by decide) (fun K hK=>?_)
                refine jDb Try.func14 (by kernel_rfl) rfl #[.agg #[.slice Ao179 t461.length co179], .agg #[.slice Ao180 t464.length co180], .int .i64 a2] (by rfl) rfl rfl (aq) ?_
                with_reducible refine (jU.calls kj107 _ _ t461 _ _ t464 a2 t467 t470 _ ?side1 ?side2 ?side3 ?side4 A164.out).mono ?_
                (case side1=>exact cq (Kd.jq HO463.out).2.2)
                (case side2=>exact (Kd.jq HO463.out).2.1)
                (case side3=>exact cq (Kd.jq HO466.out).2.2)
                (case side4=>exact (Kd.jq HO466.out).2.1)
                rintro e w181 ⟨v468,rfl,ho0,hb⟩
                refine ⟨_,rfl,?_⟩
                have HO469:=am (Kd.jna (Kd.jRa (Kd.jRa (Kd.jRa (Kd.jRa ho0 (Kd.R_lt (rq HO_431000.out))) (Kd.R_lt (rq HO_439000.out))) (Kd.R_lt (rq HO_444000.out))) (Kd.R_lt (rq HO466.out))) (jA (Y7)))
                replace HO_431000:=am (Kd.jta (rq HO_431000.out) (Kd.jQa ho0) hb)
                replace HO_435000:=am (Kd.jy (rq HO_435000.out) hb)
                replace HO_439000:=am (Kd.jta (rq HO_439000.out) (Kd.jQa ho0) hb)
                replace HO_444000:=am (Kd.jta (rq HO_444000.out) (Kd.jQa ho0) hb)
                replace HO463:=am (Kd.jy (rq HO463.out) hb)
                replace HO466:=am (Kd.jta (rq HO466.out) (Kd.jQa ho0) hb)
                replace BK416:=am (ja (g:=gb416) (o:=.cells #[.slice A0_0 l0_0.length c0_0] 24 (0,0)) (kq BK416.out) hb)
                replace BK417:=am (ja (g:=gb417) (o:=.cells #[.slice A1_0 l1_0.length c1_0] 27 (0,0)) (kq BK417.out) hb)
                replace BK430:=am (ja (g:=gb430) (o:=.cells #[.slice Ao42 t426.length co42] 32 (0,0)) (kq BK430.out) hb)
                replace BK434:=am (ja (g:=gb434) (o:=.cells #[.slice Ao48 t454.length co48] 37 (0,0)) (kq BK434.out) hb)
                replace BK438:=am (ja (g:=gb438) (o:=.cells #[.slice Ao57 t456.length co57] 32 (0,0)) (kq BK438.out) hb)
                replace BK443:=am (ja (g:=gb443) (o:=.cells #[.slice Ao66 t439.length co66] 32 (0,0)) (kq BK443.out) hb)
                replace BK471:=am (ja (g:=gb471) (o:=.cells #[.slice none 0 0] 32 (0,0)) (kq BK471.out) hb)
                replace HB:=am (je (Y7) hb)
                (try clear hb)
                (try clear hb2)
                (try clear hk)
                (try clear hi)
                (try clear ho0)
                refine hK.out _ _ ⟨(jr BK416.out 0).trans rfl,(jr BK417.out 0).trans rfl⟩ (fun hHeld=>?_)
                clear hK K
                refine jYa (a':=?_) ?_ ?_
                rotate_left
                ·show Act.put _ (some 104) _=_
                 simp only [Act.put,List.setIfInBounds_toArray,List.set_cons_zero,List.set_cons_succ,jZa,jdb]
                 rfl
                refine pq (i:=6) (N:=some 98) #[true,true,true,true,true,true,true,false,false,true,false,false] ?_
                refine pq (i:=7) (N:=some 105) #[true,true,true,true,true,true,true,true,false,true,false,false] ?_
                refine pq (i:=8) (N:=some 106) #[true,true,true,true,true,true,true,true,true,true,false,false] ?_
                exact jYa (by simp only [jlc,Act.put,List.setIfInBounds_toArray,List.set_cons_zero,List.set_cons_succ]) (hCont (.slice Ao179 t461.length co179, .slice Ao180 t464.length co180,v468,gb471) _ ⟨hHeld,(Y82),(Y83),(Y84),(Y85),(Y86),(Y87),(Y88),(kq BK416.out),(kq BK417.out),(kq BK430.out),(kq BK434.out),(kq BK438.out),(kq BK443.out),(kq BK471.out),GW471.out,GE471.out,NB416_471.out,NB471_416.out,NB417_471.out,NB471_417.out,NB430_471.out,NB471_430.out,NB434_471.out,NB471_434.out,NB438_471.out,NB471_438.out,NB443_471.out,NB471_443.out,(Y7)⟩)
              ·skip
               refine jYb ?hg (N:=17) ?hd (cs:=#[.slice none 0 0]) (t:=32) ?hr ?_;(case hd=>rfl);(case hg=>rfl);(case hr=>exact Y3)
               intro gb471 hg w176 hbox hb
               have BK471:=am (hbox)
               have GW471:=am ((Y28:w.heap.size≤gb471))
               have GE471:=am ((Y28:w.heap.size≤gb471))
               have NB416_471:=am ((Y12:gb416≠gb471))
               have NB471_416:=am ((Y13:gb471≠gb416))
               have NB417_471:=am ((Y16:gb417≠gb471))
               have NB471_417:=am ((Y17:gb471≠gb417))
               have NB430_471:=am ((Y29:gb430≠gb471))
               have NB471_430:=am ((Y30:gb471≠gb430))
               have NB434_471:=am ((Y76:gb434≠gb471))
               have NB471_434:=am ((Y77:gb471≠gb434))
               have NB438_471:=am ((Y78:gb438≠gb471))
               have NB471_438:=am ((Y79:gb471≠gb438))
               have NB443_471:=am ((Y80:gb443≠gb471))
               have NB471_443:=am ((Y81:gb471≠gb443))
               replace HO_431000:=am (Kd.jy (rq HO_431000.out) hb)
               replace HO_435000:=am (Kd.jy (rq HO_435000.out) hb)
               replace HO_439000:=am (Kd.jy (rq HO_439000.out) hb)
               replace HO_444000:=am (Kd.jy (rq HO_444000.out) hb)
               replace BK416:=am (ja (g:=gb416) (o:=.cells #[.slice A0_0 l0_0.length c0_0] 24 (0,0)) (kq BK416.out) hb)
               replace BK417:=am (ja (g:=gb417) (o:=.cells #[.slice A1_0 l1_0.length c1_0] 27 (0,0)) (kq BK417.out) hb)
               replace BK430:=am (ja (g:=gb430) (o:=.cells #[.slice Ao42 t426.length co42] 32 (0,0)) (kq BK430.out) hb)
               replace BK434:=am (ja (g:=gb434) (o:=.cells #[.slice Ao48 t454.length co48] 37 (0,0)) (kq BK434.out) hb)
               replace BK438:=am (ja (g:=gb438) (o:=.cells #[.slice Ao57 t456.length co57] 32 (0,0)) (kq BK438.out) hb)
               replace BK443:=am (ja (g:=gb443) (o:=.cells #[.slice Ao66 t439.length co66] 32 (0,0)) (kq BK443.out) hb)
               replace HB:=am (je (Y4) hb)
               clear hb hbox hg
               refine hK.out _ _ ⟨(jr BK416.out 0).trans rfl,(jr BK417.out 0).trans rfl⟩ (fun hHeld=>?_)
               clear hK K
               refine jYa (a':=?_) ?_ ?_
               rotate_left
               ·show Act.put _ (some 17) _=_
                simp only [Act.put,List.setIfInBounds_toArray,List.set_cons_zero,List.set_cons_succ,jZa,jdb]
                rfl
               refine one_ (i:=1) (N:=some 100) #[true,true,true,false,true,false,false,false,false,true,false,false] rfl rfl (jlb HT_.out (by kernel_rfl)) (by decide) (fun K hK=>?_)
               refine jDb Try.func12 (by kernel_rfl) rfl #[.agg #[.slice A0_0 l0_0.length c0_0]] (by rfl) rfl rfl (aq) ?_
               with_reducible refine (jla.calls kj107 _ _ l0_0 t461 _ ?side1 ?side2 A162.out).mono ?_
               (case side1=>exact cq (Kd.jK HR0_0.out HB.out))
               (case side2=>exact HC0_0.out)
               rintro e w177 ⟨v462,rfl,ho0,hb⟩
               refine ⟨_,rfl,?_⟩
               have HO463:=am (Kd.jna (Kd.jRa ho0 (Kd.R_lt (rq HO_435000.out))) (jA (Y7)))
               replace HO_431000:=am (Kd.jy (rq HO_431000.out) hb)
               replace HO_435000:=am (Kd.jta (rq HO_435000.out) (Kd.jQa ho0) hb)
               replace HO_439000:=am (Kd.jy (rq HO_439000.out) hb)
               replace HO_444000:=am (Kd.jy (rq HO_444000.out) hb)
               replace BK416:=am (ja (g:=gb416) (o:=.cells #[.slice A0_0 l0_0.length c0_0] 24 (0,0)) (kq BK416.out) hb)
               replace BK417:=am (ja (g:=gb417) (o:=.cells #[.slice A1_0 l1_0.length c1_0] 27 (0,0)) (kq BK417.out) hb)
               replace BK430:=am (ja (g:=gb430) (o:=.cells #[.slice Ao42 t426.length co42] 32 (0,0)) (kq BK430.out) hb)
               replace BK434:=am (ja (g:=gb434) (o:=.cells #[.slice Ao48 t454.length co48] 37 (0,0)) (kq BK434.out) hb)
               replace BK438:=am (ja (g:=gb438) (o:=.cells #[.slice Ao57 t456.length co57] 32 (0,0)) (kq BK438.out) hb)
               replace BK443:=am (ja (g:=gb443) (o:=.cells #[.slice Ao66 t439.length co66] 32 (0,0)) (kq BK443.out) hb)
               replace BK471:=am (ja (g:=gb471) (o:=.cells #[.slice none 0 0] 32 (0,0)) (kq BK471.out) hb)
               replace HB:=am (je (Y7) hb)
               (try clear hb)
               (try clear hb2)
               (try clear hk)
               (try clear hi)
               (try clear ho0)
               refine hK.out _ _ ⟨(jr BK416.out 0).trans rfl,(jr BK417.out 0).trans rfl⟩ (fun hHeld=>?_)
               clear hK K
               refine jYa (a':=?_) ?_ ?_
               rotate_left
               ·show Act.put _ (some 100) _=_
                simp only [Act.put,List.setIfInBounds_toArray,List.set_cons_zero,List.set_cons_succ,jZa,jdb]
                rfl
               refine one_ (i:=3) (N:=some 102) #[true,true,true,true,true,false,false,false,false,true,false,false] rfl rfl (jlb HT_.out (by kernel_rfl)) (by decide) (fun K hK=>?_)
               refine jDb Try.func13 (by kernel_rfl) rfl #[.agg #[.slice A1_0 l1_0.length c1_0]] (by rfl) rfl rfl (aq) ?_
               with_reducible refine (jY.calls kj107 _ _ l1_0 t464 _ ?side1 ?side2 A163.out).mono ?_
               (case side1=>exact cq (Kd.jK HR1_0.out HB.out))
               (case side2=>exact HC1_0.out)
               rintro e w178 ⟨v465,rfl,ho0,hb⟩
               refine ⟨_,rfl,?_⟩
               have HO466:=am (Kd.jna (Kd.jRa (Kd.jRa (Kd.jRa ho0 (Kd.R_lt (rq HO_431000.out))) (Kd.R_lt (rq HO_439000.out))) (Kd.R_lt (rq HO_444000.out))) (jA (Y7)))
               replace HO_431000:=am (Kd.jta (rq HO_431000.out) (Kd.jQa ho0) hb)
               replace HO_435000:=am (Kd.jy (rq HO_435000.out) hb)
               replace HO_439000:=am (Kd.jta (rq HO_439000.out) (Kd.jQa ho0) hb)
               replace HO_444000:=am (Kd.jta (rq HO_444000.out) (Kd.jQa ho0) hb)
               replace HO463:=am (Kd.jy (rq HO463.out) hb)
               replace BK416:=am (ja (g:=gb416) (o:=.cells #[.slice A0_0 l0_0.length c0_0] 24 (0,0)) (kq BK416.out) hb)
               replace BK417:=am (ja (g:=gb417) (o:=.cells #[.slice A1_0 l1_0.length c1_0] 27 (0,0)) (kq BK417.out) hb)
               replace BK430:=am (ja (g:=gb430) (o:=.cells #[.slice Ao42 t426.length co42] 32 (0,0)) (kq BK430.out) hb)
               replace BK434:=am (ja (g:=gb434) (o:=.cells #[.slice Ao48 t454.length co48] 37 (0,0)) (kq BK434.out) hb)
               replace BK438:=am (ja (g:=gb438) (o:=.cells #[.slice Ao57 t456.length co57] 32 (0,0)) (kq BK438.out) hb)
               replace BK443:=am (ja (g:=gb443) (o:=.cells #[.slice Ao66 t439.length co66] 32 (0,0)) (kq BK443.out) hb)
               replace BK471:=am (ja (g:=gb471) (o:=.cells #[.slice none 0 0] 32 (0,0)) (kq BK471.out) hb)
               replace HB:=am (je (Y7) hb)
               (try clear hb)
               (try clear hb2)
               (try clear hk)
               (try clear hi)
               (try clear ho0)
               obtain ⟨Ao179,co179,eo179⟩:=Kd.jca HO463.out
               (first | subst eo179 |(injection eo179 with f1_ f2_ f3_;have f4_:=f1_.symm;have f5_:=f3_.symm;clear f1_ f2_ f3_;subst f4_;subst f5_))
               obtain ⟨Ao180,co180,eo180⟩:=Kd.jca HO466.out
               (first | subst eo180 |(injection eo180 with f1_ f2_ f3_;have f4_:=f1_.symm;have f5_:=f3_.symm;clear f1_ f2_ f3_;subst f4_;subst f5_))
               refine hK.out _ _ ⟨(jr BK416.out 0).trans rfl,(jr BK417.out 0).trans rfl⟩ (fun hHeld=>?_)
               clear hK K
               refine jYa (a':=?_) ?_ ?_
               rotate_left
               ·show Act.put _ (some 102) _=_
                simp only [Act.put,List.setIfInBounds_toArray,List.set_cons_zero,List.set_cons_succ,jZa,jdb]
                rfl
               refine one_ (i:=5) (N:=some 104) #[true,true,true,true,true,true,false,false,false,true,false,false] rfl rfl (jlb HT_.out (by kernel_rfl)) (by decide) (fun K hK=>?_)
               refine jDb Try.func14 (by kernel_rfl) rfl #[.agg #[.slice Ao179 t461.length co179], .agg #[.slice Ao180 t464.length co180], .int .i64 a2] (by rfl) rfl rfl (aq) ?_
               with_reducible refine (jU.calls kj107 _ _ t461 _ _ t464 a2 t467 t470 _ ?side1 ?side2 ?side3 ?side4 A164.out).mono ?_
               (case side1=>exact cq (Kd.jq HO463.out).2.2)
               (case side2=>exact (Kd.jq HO463.out).2.1)
               (case side3=>exact cq (Kd.jq HO466.out).2.2)
               (case side4=>exact (Kd.jq HO466.out).2.1)
               rintro e w181 ⟨v468,rfl,ho0,hb⟩
               refine ⟨_,rfl,?_⟩
               have HO469:=am (Kd.jna (Kd.jRa (Kd.jRa (Kd.jRa (Kd.jRa ho0 (Kd.R_lt (rq HO_431000.out))) (Kd.R_lt (rq HO_439000.out))) (Kd.R_lt (rq HO_444000.out))) (Kd.R_lt (rq HO466.out))) (jA (Y7)))
               replace HO_431000:=am (Kd.jta (rq HO_431000.out) (Kd.jQa ho0) hb)
               replace HO_435000:=am (Kd.jy (rq HO_435000.out) hb)
               replace HO_439000:=am (Kd.jta (rq HO_439000.out) (Kd.jQa ho0) hb)
               replace HO_444000:=am (Kd.jta (rq HO_444000.out) (Kd.jQa ho0) hb)
               replace HO463:=am (Kd.jy (rq HO463.out) hb)
               replace HO466:=am (Kd.jta (rq HO466.out) (Kd.jQa ho0) hb)
               replace BK416:=am (ja (g:=gb416) (o:=.cells #[.slice A0_0 l0_0.length c0_0] 24 (0,0)) (kq BK416.out) hb)
               replace BK417:=am (ja (g:=gb417) (o:=.cells #[.slice A1_0 l1_0.length c1_0] 27 (0,0)) (kq BK417.out) hb)
               replace BK430:=am (ja (g:=gb430) (o:=.cells #[.slice Ao42 t426.length co42] 32 (0,0)) (kq BK430.out) hb)
               replace BK434:=am (ja (g:=gb434) (o:=.cells #[.slice Ao48 t454.length co48] 37 (0,0)) (kq BK434.out) hb)
               replace BK438:=am (ja (g:=gb438) (o:=.cells #[.slice Ao57 t456.length co57] 32 (0,0)) (kq BK438.out) hb)
               replace BK443:=am (ja (g:=gb443) (o:=.cells #[.slice Ao66 t439.length co66] 32 (0,0)) (kq BK443.out) hb)
               replace BK471:=am (ja (g:=gb471) (o:=.cells #[.slice none 0 0] 32 (0,0)) (kq BK471.out) hb)
               replace HB:=am (je (Y7) hb)
               (try clear hb)
               (try clear hb2)
               (try clear hk)
               (try clear hi)
               (try clear ho0)
               refine hK.out _ _ ⟨(jr BK416.out 0).trans rfl,(jr BK417.out 0).trans rfl⟩ (fun hHeld=>?_)
               clear hK K
               refine jYa (a':=?_) ?_ ?_
               rotate_left
               ·show Act.put _ (some 104) _=_
                simp only [Act.put,List.setIfInBounds_toArray,List.set_cons_zero,List.set_cons_succ,jZa,jdb]
                rfl
               refine pq (i:=6) (N:=some 98) #[true,true,true,true,true,true,true,false,false,true,false,false] ?_
               refine pq (i:=7) (N:=some 105) #[true,true,true,true,true,true,true,true,false,true,false,false] ?_
               refine pq (i:=8) (N:=some 106) #[true,true,true,true,true,true,true,true,true,true,false,false] ?_
               exact jYa (by simp only [jlc,Act.put,List.setIfInBounds_toArray,List.set_cons_zero,List.set_cons_succ]) (hCont (.slice Ao179 t461.length co179, .slice Ao180 t464.length co180,v468,gb471) _ ⟨hHeld,(Y82),(Y83),(Y84),(Y85),(Y86),(Y87),(Y88),(kq BK416.out),(kq BK417.out),(kq BK430.out),(kq BK434.out),(kq BK438.out),(kq BK443.out),(kq BK471.out),GW471.out,GE471.out,NB416_471.out,NB471_416.out,NB417_471.out,NB471_417.out,NB430_471.out,NB471_430.out,NB434_471.out,NB471_434.out,NB438_471.out,NB471_438.out,NB443_471.out,NB471_443.out,(Y7)⟩)
             rintro ⟨v462,v465,v468,gb471⟩ w182 ⟨hS_,h0_,h1_,h2_,h3_,h4_,h5_,h6_,h7_,h8_,h9_,h10_,h11_,h12_,h13_,h14_,h15_,h16_,h17_,h18_,h19_,h20_,h21_,h22_,h23_,h24_,h25_,h26_,h27_,h28_⟩
             have n0_:jw (Kd.R k94 94 w182 w.heap.size (fun k_=>some k_≠(.slice Ao48 t454.length co48:Value).ownBlock) v462 t461):=⟨h0_⟩
             have n1_:jw (Kd.R k54 54 w182 w.heap.size (fun k_=>some k_≠(v468:Value).ownBlock∧some k_≠(.slice Ao42 t426.length co42:Value).ownBlock∧some k_≠(.slice Ao57 t456.length co57:Value).ownBlock∧some k_≠(.slice Ao66 t439.length co66:Value).ownBlock) v465 t464):=⟨h1_⟩
             have n2_:jw (Kd.R k54 54 w182 w.heap.size (fun k_=>some k_≠(v465:Value).ownBlock∧some k_≠(.slice Ao42 t426.length co42:Value).ownBlock∧some k_≠(.slice Ao57 t456.length co57:Value).ownBlock∧some k_≠(.slice Ao66 t439.length co66:Value).ownBlock) v468 t467):=⟨h2_⟩
             have n3_:jw (Kd.R k54 54 w182 w.heap.size (fun k_=>some k_≠(v465:Value).ownBlock∧some k_≠(v468:Value).ownBlock∧some k_≠(.slice Ao57 t456.length co57:Value).ownBlock∧some k_≠(.slice Ao66 t439.length co66:Value).ownBlock) (.slice Ao42 t426.length co42) t426):=⟨h3_⟩
             have n4_:jw (Kd.R k94 94 w182 w.heap.size (fun k_=>some k_≠(v462:Value).ownBlock) (.slice Ao48 t454.length co48) t454):=⟨h4_⟩
             have n5_:jw (Kd.R k54 54 w182 w.heap.size (fun k_=>some k_≠(v465:Value).ownBlock∧some k_≠(v468:Value).ownBlock∧some k_≠(.slice Ao42 t426.length co42:Value).ownBlock∧some k_≠(.slice Ao66 t439.length co66:Value).ownBlock) (.slice Ao57 t456.length co57) t456):=⟨h5_⟩
             have n6_:jw (Kd.R k54 54 w182 w.heap.size (fun k_=>some k_≠(v465:Value).ownBlock∧some k_≠(v468:Value).ownBlock∧some k_≠(.slice Ao42 t426.length co42:Value).ownBlock∧some k_≠(.slice Ao57 t456.length co57:Value).ownBlock) (.slice Ao66 t439.length co66) t459):=⟨h6_⟩
             have n7_:jw (w182.heap[gb416]?=some (.cells #[.slice A0_0 l0_0.length c0_0] 24 (0,0))):=⟨h7_⟩
             have n8_:jw (w182.heap[gb417]?=some (.cells #[.slice A1_0 l1_0.length c1_0] 27 (0,0))):=⟨h8_⟩
             have n9_:jw (w182.heap[gb430]?=some (.cells #[.slice Ao42 t426.length co42] 32 (0,0))):=⟨h9_⟩
             have n10_:jw (w182.heap[gb434]?=some (.cells #[.slice Ao48 t454.length co48] 37 (0,0))):=⟨h10_⟩
             have n11_:jw (w182.heap[gb438]?=some (.cells #[.slice Ao57 t456.length co57] 32 (0,0))):=⟨h11_⟩
             have n12_:jw (w182.heap[gb443]?=some (.cells #[.slice Ao66 t439.length co66] 32 (0,0))):=⟨h12_⟩
             have n13_:jw (w182.heap[gb471]?=some (.cells #[.slice none 0 0] 32 (0,0))):=⟨h13_⟩
             have n14_:jw (w.heap.size≤gb471):=⟨h14_⟩
             have n15_:jw (w.heap.size≤gb471):=⟨h15_⟩
             have n16_:jw (gb416≠gb471):=⟨h16_⟩
             have n17_:jw (gb471≠gb416):=⟨h17_⟩
             have n18_:jw (gb417≠gb471):=⟨h18_⟩
             have n19_:jw (gb471≠gb417):=⟨h19_⟩
             have n20_:jw (gb430≠gb471):=⟨h20_⟩
             have n21_:jw (gb471≠gb430):=⟨h21_⟩
             have n22_:jw (gb434≠gb471):=⟨h22_⟩
             have n23_:jw (gb471≠gb434):=⟨h23_⟩
             have n24_:jw (gb438≠gb471):=⟨h24_⟩
             have n25_:jw (gb471≠gb438):=⟨h25_⟩
             have n26_:jw (gb443≠gb471):=⟨h26_⟩
             have n27_:jw (gb471≠gb443):=⟨h27_⟩
             have n28_:jw (Below w.heap.size w w182):=⟨h28_⟩
             clear HO_431000
             clear HO_435000
             clear HO_439000
             clear HO_444000
             clear BK416
             clear BK417
             clear BK430
             clear BK434
             clear BK438
             clear BK443
             clear HB
             clear h0_ h1_ h2_ h3_ h4_ h5_ h6_ h7_ h8_ h9_ h10_ h11_ h12_ h13_ h14_ h15_ h16_ h17_ h18_ h19_ h20_ h21_ h22_ h23_ h24_ h25_ h26_ h27_ h28_
             have HO463:=n0_
             have HO466:=n1_
             have HO469:=n2_
             have HO_431000:=n3_
             have HO_435000:=n4_
             have HO_439000:=n5_
             have HO_444000:=n6_
             have BK416:=n7_
             have BK417:=n8_
             have BK430:=n9_
             have BK434:=n10_
             have BK438:=n11_
             have BK443:=n12_
             have BK471:=n13_
             have GW471:=n14_
             have GE471:=n15_
             have NB416_471:=n16_
             have NB471_416:=n17_
             have NB417_471:=n18_
             have NB471_417:=n19_
             have NB430_471:=n20_
             have NB471_430:=n21_
             have NB434_471:=n22_
             have NB471_434:=n23_
             have NB438_471:=n24_
             have NB471_438:=n25_
             have NB443_471:=n26_
             have NB471_443:=n27_
             have HB:=n28_
             clear n0_ n1_ n2_ n3_ n4_ n5_ n6_ n7_ n8_ n9_ n10_ n11_ n12_ n13_ n14_ n15_ n16_ n17_ n18_ n19_ n20_ n21_ n22_ n23_ n24_ n25_ n26_ n27_ n28_
             have hHeld:w182.cell? ⟨gb416,0,none⟩=some (.slice A0_0 l0_0.length c0_0)∧w182.cell? ⟨gb417,0,none⟩=some (.slice A1_0 l1_0.length c1_0):=hS_
             obtain ⟨Ao183,co183,eo183⟩:=Kd.jca HO469.out
             (first | subst eo183 |(injection eo183 with f1_ f2_ f3_;have f4_:=f1_.symm;have f5_:=f3_.symm;clear f1_ f2_ f3_;subst f4_;subst f5_))
             refine jYa (a':=?_) ?_ ?_
             rotate_left
             ·simp only [jlc,Act.put,List.setIfInBounds_toArray,List.set_cons_zero,List.set_cons_succ]
              rfl
             refine one_ (i:=10) (N:=none) #[true,true,true,true,true,true,true,true,true,true,true,false] rfl rfl (jlb HT_.out (by kernel_rfl)) (by decide) (fun K hK=>?_)
             have hs184:w182.cell? ⟨gb471,0,none⟩=some (.slice none 0 0):=(jr BK471.out 0).trans rfl
             have hfs184:=jb BK471.out 0
             have hns184_0:=NB416_471.out
             have hns184_1:=NB417_471.out
             have hns184_2:=NB430_471.out
             have hns184_3:=NB434_471.out
             have hns184_4:=NB438_471.out
             have hns184_5:=NB443_471.out
             have hms184_0:=NB471_416.out
             have hms184_1:=NB471_417.out
             have hms184_2:=NB471_430.out
             have hms184_3:=NB471_434.out
             have hms184_4:=NB471_438.out
             have hms184_5:=NB471_443.out
             refine skip_ (w1:=?_) (by rfl) rfl ?_ ?_
             rotate_left
             ·go_simp
              rfl
             refine hK.out _ _ ⟨((cell_far (p:=⟨gb471,_,none⟩) NB416_471.out _).trans (hHeld.1)),((cell_far (p:=⟨gb471,_,none⟩) NB417_471.out _).trans (hHeld.2))⟩ (fun hHeld=>?_)
             clear hK K
             refine pq (i:=11) (N:=some 18) #[true,true,true,true,true,true,true,true,true,true,true,true] ?_
             refine done_ (jic HT_.out (by kernel_rfl)) ?_
             go_upto_region 32 with (fail)
             go_cut [115] (fun v115 wc=>∃ (kq:Nat) (x115_164:Bool),v115=.bool x115_164∧jw (jc.j2 kq t458 x115_164 t459=some r)∧jw (kq≤kj107)∧jw (Kd.R k54 54 wc w.heap.size (fun k_=>some k_≠((.slice Ao57 t456.length co57):Value).ownBlock∧some k_≠((.slice Ao66 t439.length co66):Value).ownBlock∧some k_≠((.slice Ao183 t467.length co183):Value).ownBlock) (.slice Ao42 t426.length co42) t426)∧jw (Kd.R k94 94 wc w.heap.size (fun _=>True) (.slice Ao48 t454.length co48) t454)∧jw (Kd.R k54 54 wc w.heap.size (fun k_=>some k_≠((.slice Ao42 t426.length co42):Value).ownBlock∧some k_≠((.slice Ao66 t439.length co66):Value).ownBlock∧some k_≠((.slice Ao183 t467.length co183):Value).ownBlock) (.slice Ao57 t456.length co57) t456)∧jw (Kd.R k54 54 wc w.heap.size (fun k_=>some k_≠((.slice Ao42 t426.length co42):Value).ownBlock∧some k_≠((.slice Ao57 t456.length co57):Value).ownBlock∧some k_≠((.slice Ao183 t467.length co183):Value).ownBlock) (.slice Ao66 t439.length co66) t459)∧jw (Kd.R k54 54 wc w.heap.size (fun k_=>some k_≠((.slice Ao42 t426.length co42):Value).ownBlock∧some k_≠((.slice Ao57 t456.length co57):Value).ownBlock∧some k_≠((.slice Ao66 t439.length co66):Value).ownBlock) (.slice Ao183 t467.length co183) t467)∧jw (wc.heap[gb416]?=some (.cells #[(.slice A0_0 l0_0.length c0_0)] 24 (0,0)))∧jw (wc.heap[gb417]?=some (.cells #[(.slice A1_0 l1_0.length c1_0)] 27 (0,0)))∧jw (wc.heap[gb430]?=some (.cells #[(.slice Ao42 t426.length co42)] 32 (0,0)))∧jw (wc.heap[gb434]?=some (.cells #[(.slice Ao48 t454.length co48)] 37 (0,0)))∧jw (wc.heap[gb438]?=some (.cells #[(.slice Ao57 t456.length co57)] 32 (0,0)))∧jw (wc.heap[gb443]?=some (.cells #[(.slice Ao66 t439.length co66)] 32 (0,0)))∧jw (wc.heap[gb471]?=some (.cells #[(.slice Ao183 t467.length co183)] 32 (0,0)))∧jw (Below w.heap.size w wc))
             case first =>
              have H:=HC165.out
              clear HC165
              replace H:=bzS H
              obtain ⟨t472,A1850,H⟩:=H
              replace H:(if t472=true then (jc.j2 kj107 t458 (t470 != t429) t459) else (jc.j2 kj107 t458 true t459))=some r:=H
              have A185:=am A1850
              clear A1850
              by_cases c186:t472=true
              ·subst c186
               have H1:(jc.j2 kj107 t458 (t470 != t429) t459)=some r:=by rw [if_pos rfl] at H;exact H
               clear H
               have H:=H1
               clear H1
               have H':=am H
               clear H
               have hnb187:=NB471_416.out
               have hnc187:=NB416_471.out
               have hnb188:=NB471_417.out
               have hnc188:=NB417_471.out
               have hnb189:=NB471_430.out
               have hnc189:=NB430_471.out
               have hnb190:=NB471_434.out
               have hnc190:=NB434_471.out
               have hnb191:=NB471_438.out
               have hnc191:=NB438_471.out
               have hnb192:=NB471_443.out
               have hnc192:=NB443_471.out
               have hcz193_0:=bc0 BK471.out
               have hfz193_0:=jb BK471.out 0
               have hnb194:=NB430_416.out
               have hnc194:=NB416_430.out
               have hnb195:=NB430_417.out
               have hnc195:=NB417_430.out
               have hnb196:=NB430_434.out
               have hnc196:=NB434_430.out
               have hnb197:=NB430_438.out
               have hnc197:=NB438_430.out
               have hnb198:=NB430_443.out
               have hnc198:=NB443_430.out
               have hcz199_0:=bc0 BK430.out
               have hfz199_0:=jb BK430.out 0
               go_wp2_with (first |((with_reducible refine jE (f:=15) rfl ?_);refine gL (some 109) Try.func15 #[.agg #[.slice Ao183 t467.length co183], .agg #[.slice Ao42 t426.length co42]] ?_;(with_reducible refine (jT.calls kj107 _ _ t467 _ _ t426 true _ ?side1 ?side2 ?side3 ?side4 A185.out).mono ?_);(case side1=>refine (Kd.jq (e:=54) (base:=w.heap.size) (ok:=fun k_=>(some k_≠(v465:Value).ownBlock∧(some k_≠(.slice Ao42 t426.length co42:Value).ownBlock∧(some k_≠(.slice Ao57 t456.length co57:Value).ownBlock∧some k_≠(.slice Ao66 t439.length co66:Value).ownBlock)))) (n:=t467.length) (c:=co183) ?_).2.2;exact (Y89));(case side2=>exact (Kd.jq HO469.out).2.1);(case side3=>refine (Kd.jq (e:=54) (base:=w.heap.size) (ok:=fun k_=>(some k_≠(v465:Value).ownBlock∧(some k_≠(.slice Ao183 t467.length co183:Value).ownBlock∧(some k_≠(.slice Ao57 t456.length co57:Value).ownBlock∧some k_≠(.slice Ao66 t439.length co66:Value).ownBlock)))) (n:=t426.length) (c:=co42) ?_).2.2;exact (Y90));(case side4=>exact (Kd.jq HO_431000.out).2.1);rintro e w200 ⟨rfl,hb⟩;refine ⟨_,rfl,?_⟩;replace HO_431000:=am (Kd.jy (Y90) hb);replace HO_435000:=am (Kd.jy (Y169) hb);replace HO_439000:=am (Kd.jy (Y170) hb);replace HO_444000:=am (Kd.jy (Y171) hb);replace HO463:=am (Kd.jy (Y172) hb);replace HO466:=am (Kd.jy (Y173) hb);replace HO469:=am (Kd.jy (Y89) hb);replace BK416:=am (ja (g:=gb416) (o:=.cells #[.slice A0_0 l0_0.length c0_0] 24 (0,0)) (Y174) hb);replace BK417:=am (ja (g:=gb417) (o:=.cells #[.slice A1_0 l1_0.length c1_0] 27 (0,0)) (Y175) hb);replace BK430:=am (ja (g:=gb430) (o:=.cells #[.slice Ao42 t426.length co42] 32 (0,0)) (Y176) hb);replace BK434:=am (ja (g:=gb434) (o:=.cells #[.slice Ao48 t454.length co48] 37 (0,0)) (Y177) hb);replace BK438:=am (ja (g:=gb438) (o:=.cells #[.slice Ao57 t456.length co57] 32 (0,0)) (Y178) hb);replace BK443:=am (ja (g:=gb443) (o:=.cells #[.slice Ao66 t439.length co66] 32 (0,0)) (Y179) hb);replace BK471:=am (ja (g:=gb471) (o:=.cells #[.slice Ao183 t467.length co183] 32 (0,0)) (Y180) hb);replace HB:=am (je (Y7) hb);(try clear hb);(try clear hb2);(try clear hk);(try clear hi)))
               go_meet
               case rel=>exact ⟨_,((t470 != t429)),(sq),H',⟨by have:=HJ25.out;have:=HJ107.out;first | omega | exact Nat.le_refl _⟩,⟨by (try simp only [hl435000_107]);(try simp only [hl439000_107]);(with_reducible repeat (first | apply Kd.jM | apply Kd.jL | apply Kd.jQ));exact Kd.jI HO_431000.out (fun _ hk=>⟨hk.2.2.1,⟨hk.2.2.2,hk.2.1⟩⟩)⟩,⟨by (try simp only [hl435000_107]);(try simp only [hl439000_107]);(with_reducible repeat (first | apply Kd.jM | apply Kd.jL | apply Kd.jQ));exact Kd.jI HO_435000.out (fun _ hk=>trivial)⟩,⟨by (try simp only [hl435000_107]);(try simp only [hl439000_107]);(with_reducible repeat (first | apply Kd.jM | apply Kd.jL | apply Kd.jQ));exact Kd.jI HO_439000.out (fun _ hk=>⟨hk.2.2.1,⟨hk.2.2.2,hk.2.1⟩⟩)⟩,⟨by (try simp only [hl435000_107]);(try simp only [hl439000_107]);(with_reducible repeat (first | apply Kd.jM | apply Kd.jL | apply Kd.jQ));exact Kd.jI HO_444000.out (fun _ hk=>⟨hk.2.2.1,⟨hk.2.2.2,hk.2.1⟩⟩)⟩,⟨by (try simp only [hl435000_107]);(try simp only [hl439000_107]);(with_reducible repeat (first | apply Kd.jM | apply Kd.jL | apply Kd.jQ));exact Kd.jI HO469.out (fun _ hk=>⟨hk.2.1,⟨hk.2.2.1,hk.2.2.2⟩⟩)⟩,⟨by (try simp only [hl435000_107]);(try simp only [hl439000_107]);(with_reducible repeat (first | refine jf ?_ _ | refine jh ?_ | refine jg ?_ _));exact BK416.out⟩,⟨by (try simp only [hl435000_107]);(try simp only [hl439000_107]);(with_reducible repeat (first | refine jf ?_ _ | refine jh ?_ | refine jg ?_ _));exact BK417.out⟩,⟨by (try simp only [hl435000_107]);(try simp only [hl439000_107]);(with_reducible repeat (first | refine jf ?_ _ | refine jh ?_ | refine jg ?_ _));exact BK430.out⟩,⟨by (try simp only [hl435000_107]);(try simp only [hl439000_107]);(with_reducible repeat (first | refine jf ?_ _ | refine jh ?_ | refine jg ?_ _));exact BK434.out⟩,⟨by (try simp only [hl435000_107]);(try simp only [hl439000_107]);(with_reducible repeat (first | refine jf ?_ _ | refine jh ?_ | refine jg ?_ _));exact BK438.out⟩,⟨by (try simp only [hl435000_107]);(try simp only [hl439000_107]);(with_reducible repeat (first | refine jf ?_ _ | refine jh ?_ | refine jg ?_ _));exact BK443.out⟩,⟨by (try simp only [hl435000_107]);(try simp only [hl439000_107]);(with_reducible repeat (first | refine jf ?_ _ | refine jh ?_ | refine jg ?_ _));exact BK471.out⟩,⟨Y7⟩⟩
              ·replace c186:=Bool.eq_false_iff.mpr c186
               subst c186
               have H1:(jc.j2 kj107 t458 true t459)=some r:=by rw [if_neg (show ¬ (false=true) by decide)] at H;exact H
               clear H
               have H:=H1
               clear H1
               have H':=am H
               clear H
               have hnb201:=NB471_416.out
               have hnc201:=NB416_471.out
               have hnb202:=NB471_417.out
               have hnc202:=NB417_471.out
               have hnb203:=NB471_430.out
               have hnc203:=NB430_471.out
               have hnb204:=NB471_434.out
               have hnc204:=NB434_471.out
               have hnb205:=NB471_438.out
               have hnc205:=NB438_471.out
               have hnb206:=NB471_443.out
               have hnc206:=NB443_471.out
               have hcz207_0:=bc0 BK471.out
               have hfz207_0:=jb BK471.out 0
               have hnb208:=NB430_416.out
               have hnc208:=NB416_430.out
               have hnb209:=NB430_417.out
               have hnc209:=NB417_430.out
               have hnb210:=NB430_434.out
               have hnc210:=NB434_430.out
               have hnb211:=NB430_438.out
               have hnc211:=NB438_430.out
               have hnb212:=NB430_443.out
               have hnc212:=NB443_430.out
               have hcz213_0:=bc0 BK430.out
               have hfz213_0:=jb BK430.out 0
               go_wp2_with (first |((with_reducible refine jE (f:=15) rfl ?_);refine gL (some 109) Try.func15 #[.agg #[.slice Ao183 t467.length co183], .agg #[.slice Ao42 t426.length co42]] ?_;(with_reducible refine (jT.calls kj107 _ _ t467 _ _ t426 false _ ?side1 ?side2 ?side3 ?side4 A185.out).mono ?_);(case side1=>refine (Kd.jq (e:=54) (base:=w.heap.size) (ok:=fun k_=>(some k_≠(v465:Value).ownBlock∧(some k_≠(.slice Ao42 t426.length co42:Value).ownBlock∧(some k_≠(.slice Ao57 t456.length co57:Value).ownBlock∧some k_≠(.slice Ao66 t439.length co66:Value).ownBlock)))) (n:=t467.length) (c:=co183) ?_).2.2;exact (Y89));(case side2=>exact (Kd.jq HO469.out).2.1);(case side3=>refine (Kd.jq (e:=54) (base:=w.heap.size) (ok:=fun k_=>(some k_≠(v465:Value).ownBlock∧(some k_≠(.slice Ao183 t467.length co183:Value).ownBlock∧(some k_≠(.slice Ao57 t456.length co57:Value).ownBlock∧some k_≠(.slice Ao66 t439.length co66:Value).ownBlock)))) (n:=t426.length) (c:=co42) ?_).2.2;exact (Y90));(case side4=>exact (Kd.jq HO_431000.out).2.1);rintro e w214 ⟨rfl,hb⟩;refine ⟨_,rfl,?_⟩;replace HO_431000:=am (Kd.jy (Y90) hb);replace HO_435000:=am (Kd.jy (Y169) hb);replace HO_439000:=am (Kd.jy (Y170) hb);replace HO_444000:=am (Kd.jy (Y171) hb);replace HO463:=am (Kd.jy (Y172) hb);replace HO466:=am (Kd.jy (Y173) hb);replace HO469:=am (Kd.jy (Y89) hb);replace BK416:=am (ja (g:=gb416) (o:=.cells #[.slice A0_0 l0_0.length c0_0] 24 (0,0)) (Y174) hb);replace BK417:=am (ja (g:=gb417) (o:=.cells #[.slice A1_0 l1_0.length c1_0] 27 (0,0)) (Y175) hb);replace BK430:=am (ja (g:=gb430) (o:=.cells #[.slice Ao42 t426.length co42] 32 (0,0)) (Y176) hb);replace BK434:=am (ja (g:=gb434) (o:=.cells #[.slice Ao48 t454.length co48] 37 (0,0)) (Y177) hb);replace BK438:=am (ja (g:=gb438) (o:=.cells #[.slice Ao57 t456.length co57] 32 (0,0)) (Y178) hb);replace BK443:=am (ja (g:=gb443) (o:=.cells #[.slice Ao66 t439.length co66] 32 (0,0)) (Y179) hb);replace BK471:=am (ja (g:=gb471) (o:=.cells #[.slice Ao183 t467.length co183] 32 (0,0)) (Y180) hb);replace HB:=am (je (Y7) hb);(try clear hb);(try clear hb2);(try clear hk);(try clear hi)))
               go_meet
               case rel=>exact ⟨_,(true),(sq),H',⟨by have:=HJ25.out;have:=HJ107.out;first | omega | exact Nat.le_refl _⟩,⟨by (try simp only [hl435000_107]);(try simp only [hl439000_107]);(with_reducible repeat (first | apply Kd.jM | apply Kd.jL | apply Kd.jQ));exact Kd.jI HO_431000.out (fun _ hk=>⟨hk.2.2.1,⟨hk.2.2.2,hk.2.1⟩⟩)⟩,⟨by (try simp only [hl435000_107]);(try simp only [hl439000_107]);(with_reducible repeat (first | apply Kd.jM | apply Kd.jL | apply Kd.jQ));exact Kd.jI HO_435000.out (fun _ hk=>trivial)⟩,⟨by (try simp only [hl435000_107]);(try simp only [hl439000_107]);(with_reducible repeat (first | apply Kd.jM | apply Kd.jL | apply Kd.jQ));exact Kd.jI HO_439000.out (fun _ hk=>⟨hk.2.2.1,⟨hk.2.2.2,hk.2.1⟩⟩)⟩,⟨by (try simp only [hl435000_107]);(try simp only [hl439000_107]);(with_reducible repeat (first | apply Kd.jM | apply Kd.jL | apply Kd.jQ));exact Kd.jI HO_444000.out (fun _ hk=>⟨hk.2.2.1,⟨hk.2.2.2,hk.2.1⟩⟩)⟩,⟨by (try simp only [hl435000_107]);(try simp only [hl439000_107]);(with_reducible repeat (first | apply Kd.jM | apply Kd.jL | apply Kd.jQ));exact Kd.jI HO469.out (fun _ hk=>⟨hk.2.1,⟨hk.2.2.1,hk.2.2.2⟩⟩)⟩,⟨by (try simp only [hl435000_107]);(try simp only [hl439000_107]);(with_reducible repeat (first | refine jf ?_ _ | refine jh ?_ | refine jg ?_ _));exact BK416.out⟩,⟨by (try simp only [hl435000_107]);(try simp only [hl439000_107]);(with_reducible repeat (first | refine jf ?_ _ | refine jh ?_ | refine jg ?_ _));exact BK417.out⟩,⟨by (try simp only [hl435000_107]);(try simp only [hl439000_107]);(with_reducible repeat (first | refine jf ?_ _ | refine jh ?_ | refine jg ?_ _));exact BK430.out⟩,⟨by (try simp only [hl435000_107]);(try simp only [hl439000_107]);(with_reducible repeat (first | refine jf ?_ _ | refine jh ?_ | refine jg ?_ _));exact BK434.out⟩,⟨by (try simp only [hl435000_107]);(try simp only [hl439000_107]);(with_reducible repeat (first | refine jf ?_ _ | refine jh ?_ | refine jg ?_ _));exact BK438.out⟩,⟨by (try simp only [hl435000_107]);(try simp only [hl439000_107]);(with_reducible repeat (first | refine jf ?_ _ | refine jh ?_ | refine jg ?_ _));exact BK443.out⟩,⟨by (try simp only [hl435000_107]);(try simp only [hl439000_107]);(with_reducible repeat (first | refine jf ?_ _ | refine jh ?_ | refine jg ?_ _));exact BK471.out⟩,⟨Y7⟩⟩
             case rest =>
              clear HC165
              try clear c1
              try clear c2
              try clear p2
              try clear c12
              try clear c13
              try clear c14
              try clear c15
              try clear c18
              try clear c19
              try clear c20
              try clear c21
              try clear c186
              try clear c187
              try clear c188
              try clear c189
              try clear c190
              try clear c191
              try clear c192
              try clear c194
              try clear c195
              try clear c196
              try clear c197
              try clear c198
              try clear c201
              try clear c202
              try clear c203
              try clear c204
              try clear c205
              try clear c206
              try clear c208
              try clear c209
              try clear c210
              try clear c211
              try clear c212
              try clear hcz193_0
              try clear hcz199_0
              try clear hcz207_0
              try clear hcz213_0
              try clear hfz193_0
              try clear hfz199_0
              try clear hfz207_0
              try clear hfz213_0
              obtain ⟨kq,x115_164,rfl,HA,HJ164,HO_431000,HO_435000,HO_439000,HO_444000,HO_472000,BK416,BK417,BK430,BK434,BK438,BK443,BK471,HB⟩:=hcut
              have hl444000_164:=(Kd.jq HO_444000.out).1
              rw [hl444000_164] at HO_444000
              (try simp only [hl444000_164])
              (try simp only [hl444000_164] at BK416)
              (try simp only [hl444000_164] at BK417)
              (try simp only [hl444000_164] at BK430)
              (try simp only [hl444000_164] at BK434)
              (try simp only [hl444000_164] at BK438)
              (try simp only [hl444000_164] at BK443)
              (try simp only [hl444000_164] at BK471)
              (try simp only [hl444000_164] at HO_431000)
              (try simp only [hl444000_164] at HO_435000)
              (try simp only [hl444000_164] at HO_439000)
              (try simp only [hl444000_164] at HO_472000)
              cases kq with
              | zero=>exact absurd HA.out (by simp [jc.j2])
              | succ kj164 =>
               have H:=HA.out
               clear HA
               simp only [jc.j2] at H
               by_cases c215:x115_164=true
               ·subst c215
                have H1:(some false)=some r:=by rw [if_pos rfl] at H;exact H
                clear H
                have H:=H1
                clear H1
                exact absurd ((Option.some.inj H).trans hT) Bool.false_ne_true
               ·replace c215:=Bool.eq_false_iff.mpr c215
                subst c215
                have H1:((jUa.f kj164 t459 1).bind fun t473=>(if t473<0 then (some false) else (if t473=t458 then (some true) else (some false))))=some r:=by rw [if_neg (show ¬ (false=true) by decide)] at H;exact H
                clear H
                have H:=H1
                clear H1
                replace H:=bzS H
                obtain ⟨t473,A2160,H⟩:=H
                replace H:(if t473<0 then (some false) else (if t473=t458 then (some true) else (some false)))=some r:=H
                have A216:=am A2160
                clear A2160
                by_cases c217:t473<0
                ·rw [if_pos c217] at H
                 have c217b0:decide (t473<0)=true:=dzT c217
                 clear c217
                 exact absurd ((Option.some.inj H).trans hT) Bool.false_ne_true
                ·rw [if_neg c217] at H
                 have c217b0:decide (t473<0)=false:=dzF c217
                 clear c217
                 by_cases c218:t473=t458
                 ·rw [if_pos c218] at H
                  have c218b0:(t473 == t458)=true:=beq_iff_eq.mpr c218
                  have c218b1:(t473 != t458)=false:=bne_eq_false_iff_eq.mpr c218
                  clear c218
                  obtain rfl:=Option.some.inj H
                  have hnb219:=NB443_416.out
                  have hnc219:=NB416_443.out
                  have hnb220:=NB443_417.out
                  have hnc220:=NB417_443.out
                  have hnb221:=NB443_430.out
                  have hnc221:=NB430_443.out
                  have hnb222:=NB443_434.out
                  have hnc222:=NB434_443.out
                  have hnb223:=NB443_438.out
                  have hnc223:=NB438_443.out
                  have hnb224:=NB443_471.out
                  have hnc224:=NB471_443.out
                  have hcz225_0:=bc0 BK443.out
                  have hfz225_0:=jb BK443.out 0
                  go_wp2_with (first |((with_reducible refine jE (f:=19) rfl ?_);refine gL (some 118) Try.func19 #[.agg #[.slice Ao66 t459.length co66], .int .i64 1] ?_;(with_reducible refine (jUa.calls kj164 _ _ t459 1 t473 _ ?side1 ?side2 A216.out).mono ?_);(case side1=>exact cq (Kd.jq HO_444000.out).2.2);(case side2=>exact (Kd.jq HO_444000.out).2.1);rintro e w226 ⟨rfl,hb⟩;refine ⟨_,rfl,?_⟩;replace HO_431000:=am (Kd.jy (rq HO_431000.out) hb);replace HO_435000:=am (Kd.jy (rq HO_435000.out) hb);replace HO_439000:=am (Kd.jy (rq HO_439000.out) hb);replace HO_444000:=am (Kd.jy (rq HO_444000.out) hb);replace HO_472000:=am (Kd.jy (rq HO_472000.out) hb);replace BK416:=am (ja (g:=gb416) (o:=.cells #[.slice A0_0 l0_0.length c0_0] 24 (0,0)) (kq BK416.out) hb);replace BK417:=am (ja (g:=gb417) (o:=.cells #[.slice A1_0 l1_0.length c1_0] 27 (0,0)) (kq BK417.out) hb);replace BK430:=am (ja (g:=gb430) (o:=.cells #[.slice Ao42 t426.length co42] 32 (0,0)) (kq BK430.out) hb);replace BK434:=am (ja (g:=gb434) (o:=.cells #[.slice Ao48 t454.length co48] 37 (0,0)) (kq BK434.out) hb);replace BK438:=am (ja (g:=gb438) (o:=.cells #[.slice Ao57 t456.length co57] 32 (0,0)) (kq BK438.out) hb);replace BK443:=am (ja (g:=gb443) (o:=.cells #[.slice Ao66 t459.length co66] 32 (0,0)) (kq BK443.out) hb);replace BK471:=am (ja (g:=gb471) (o:=.cells #[.slice Ao183 t467.length co183] 32 (0,0)) (kq BK471.out) hb);replace HB:=am (je (Y7) hb);(try clear hb);(try clear hb2);(try clear hk);(try clear hi)))
                  go_ret
                  exact ⟨Y1,Y7⟩
                 ·rw [if_neg c218] at H
                  have c218b0:(t473 == t458)=false:=beq_eq_false_iff_ne.mpr c218
                  have c218b1:(t473 != t458)=true:=bne_iff_ne.mpr c218
                  exact absurd ((Option.some.inj H).trans hT) Bool.false_ne_true
            ·rw [if_neg c161] at H
             have c161b0:(t460 == t458)=false:=beq_eq_false_iff_ne.mpr c161
             have c161b1:(t460 != t458)=true:=bne_iff_ne.mpr c161
             exact absurd ((Option.some.inj H).trans hT) Bool.false_ne_true
       ·replace c105:=Bool.eq_false_iff.mpr c105
        subst c105
        have H1:(some false)=some r:=by rw [if_neg (show ¬ (false=true) by decide)] at H;exact H
        clear H
        have H:=H1
        clear H1
        exact absurd ((Option.some.inj H).trans hT) Bool.false_ne_true
      ·replace c102:=Bool.eq_false_iff.mpr c102
       subst c102
       have H1:(some false)=some r:=by rw [if_neg (show ¬ (false=true) by decide)] at H;exact H
       clear H
       have H:=H1
       clear H1
       exact absurd ((Option.some.inj H).trans hT) Bool.false_ne_true
end Go.Proofs.Ytecdfgejmbpclaa.P
end
