/- One part of the proofs on this program: functions of the program as plain functions, that the code comes to them, and facts on them. -/
import Derived.Test.YtecdfgejmbpclaaYAll1
import Derived.Test.YtecdfgejmbpclaaYAll2
import Derived.Test.YtecdfgejmbpclaaYWAuto
section
namespace Go.Proofs.Ytecdfgejmbpclaa.P
open Go.RowKit Go.Proofs.YtecdfgejmbpclaaW.PrintWords Go.Proofs.YtecdfgejmbpclaaW.PrintLast Go.Proofs.YtecdfgejmbpclaaW.PrintMore
attribute [local go_sem] jva jta jFa jEa jha jga jua jsa jF
set_option linter.unusedVariables false
set_option linter.unusedSimpArgs false
def jS.l0 : Nat → Int → List Int → List Int → Int → Int → List (S54) → List (S54) → Option ((List (S54)) × Int)
 | 0,_,_,_,_,_,_,_=>none
 | k+1,x1,x6,x18,x19,x20,x348000,x356000=>if x20<x19 then (if 0≤x20 then (if x20<(x18.length:Int) then (if 0≤(rd x18 x20) then (if (rd x18 x20)<(x348000.length:Int) then ((jR.f k x6 ((ja x348000 (rd x18 x20)).f2)).bind fun t360=>((jR.f k x6 ((ja x348000 (rd x18 x20)).f3)).bind fun t361=>(if x356000.length<3518437208883 then (jS.l0 k x1 x6 x18 x19 (wrap64 (x20+1)) x348000 (x356000 ++ [(⟨(ja x348000 (rd x18 x20)).f0,(ja x348000 (rd x18 x20)).f1,t360,t361,(ja x348000 (rd x18 x20)).f4⟩:S54)])) else (none)))) else (none)) else (none)) else (none)) else (none)) else ((jR.f k x6 x1).bind fun t356=>(some (x356000,t356)))
def jS.f (k : Nat) (l0_0 : List (S54)) (a1 : Int) : Option ((List (S54)) × Int) := (jeb.f k l0_0 a1).bind fun t349 => (if 0 ≤ (t349.length : Int) then (if ((t349.length : Int) : Int).toNat ≤ 7036874417766 then (jS.l0 k a1 t349 t349 (t349.length : Int) 0 l0_0 (([] : List (S54)))) else (none)) else (none))
def jS.T7 : Bool × List (List Nat × List Nat) := (true, [([], []), ([], []), ([1], [1]), ([0, 2], [0, 2]), ([], []), ([], []), ([5], [5]), ([4, 6, 3], [4, 6]), ([0, 1, 2, 3, 5, 6], []), ([8, 3, 7, 0, 1, 2, 3, 5, 6], [3, 8]), ([0, 1, 2, 3, 4, 5, 6, 7, 8, 9], []), ([10, 7, 9, 0, 1, 2, 3, 4, 5, 6, 7, 8, 9], [7, 10])])
def jS.B7 : List Nat := [0, 0, 2, 7, 0, 0, 32, 127, 111, 511, 1023, 2047]
theorem jS.tab7 : rtab .any (opsOf Try.f46 7) = jS.T7 := by kernel_rfl
theorem jS.bits7 : jFb jS.T7.2 jS.B7 = true := by kernel_rfl
set_option maxHeartbeats 8000000 in
set_option maxRecDepth 100000 in
theorem jS.calls (k : Nat) (A0_0 : Option Addr) (c0_0 : Nat) (l0_0 : List (S54)) (a1 : Int) (r1 : List (S54)) (r2 : Int) (w : World) (hr0_0 : Kd.C k54 w A0_0 l0_0.length l0_0) (hc0_0 : l0_0.length ≤ c0_0) (h : jS.f k l0_0 a1 = some (r1, r2)) :
  Calls Try.prog 46 #[.agg #[.slice A0_0 l0_0.length c0_0], .int .i64 a1] w fun e w'=>∃ v0_:Value,e=.returned (.tuple #[.agg #[v0_], .int .i64 r2])∧Kd.R k54 54 w' w.heap.size (fun _=>True) v0_ r1∧Below w.heap.size w w':=by
 have hu32:=Try.underlying32
 have hu54:=Try.underlying54
 have HR0_0:=am hr0_0
 have HC0_0:=am hc0_0
 clear hr0_0 hc0_0
 have HB:=am (Below.refl w.heap.size w)
 have H:((jeb.f k l0_0 a1).bind fun t349=>(if 0≤(t349.length:Int) then (if ((t349.length:Int):Int).toNat≤7036874417766 then (jS.l0 k a1 t349 t349 (t349.length:Int) 0 l0_0 (([]:List (S54)))) else (none)) else (none)))=some (r1,r2):=h
 clear h
 replace H:=bzS H
 obtain ⟨t349,A30,H⟩:=H
 replace H:(if 0≤(t349.length:Int) then (if ((t349.length:Int):Int).toNat≤7036874417766 then (jS.l0 k a1 t349 t349 (t349.length:Int) 0 l0_0 (([]:List (S54)))) else (none)) else (none))=some (r1,r2):=H
 have A3:=am A30
 clear A30
 by_cases c4:0≤(t349.length:Int)
 ·rw [if_pos c4] at H
  have c4b0:=ezT c4
  have c4b1:decide (0≤(t349.length:Int))=true:=dzT c4
  clear c4
  by_cases c5:((t349.length:Int):Int).toNat≤7036874417766
  ·rw [if_pos c5] at H
   have c5b0:=ezT c5
   have c5b1:decide (((t349.length:Int):Int).toNat≤7036874417766)=true:=dzT c5
   clear c5
   obtain ⟨y352,hy352⟩:∃ y_:List (S54),y_=(([]:List (S54))):=⟨_,rfl⟩
   replace H:(jS.l0 k a1 t349 t349 (t349.length:Int) 0 l0_0 y352)=some (r1,r2):=by first |(rw [hy352];with_reducible exact H) |(have H2_:=(Option.bind_some _ _).symm.trans H;rw [hy352];with_reducible exact H2_) |(have H2_:=(Option.bind_some _ _).symm.trans H;with_reducible exact H2_) | with_reducible exact H |(rw [hy352];exact H) | exact H
   have Ny352:=am hy352
   clear hy352
   have H':=am H
   clear H
   go_enter Try.func46,Try.ntmps46
   go_wp2_with (first |((with_reducible refine jI (N:=2) rfl ?_);refine bE (N:=2) (cs:=#[.slice A0_0 l0_0.length c0_0]) (t:=32) ?_;intro gb347 hg w6 hbox hb;have BK347:=am (hbox);have GW347:=am ((Y1:w.heap.size≤gb347));have GE347:=am ((Y1:w.heap.size≤gb347));replace HB:=am (jl (bq) hb);clear hb hbox hg) |((with_reducible refine jI (N:=4) rfl ?_);refine bE (N:=4) (cs:=#[.slice none 0 0]) (t:=32) ?_;intro gb348 hg w7 hbox hb;have BK348:=am (hbox);have GW348:=am ((Y173:w.heap.size≤gb348));have GE348:=am ((Y173:w.heap.size≤gb348));have NB347_348:=am ((by rw [hg];exact Nat.ne_of_lt (jV (g:=gb347) (o:=.cells #[.slice A0_0 l0_0.length c0_0] 32 (0,0)) (kq BK347.out)):gb347≠gb348));have NB348_347:=am ((by rw [hg];exact Nat.ne_of_gt (jV (g:=gb347) (o:=.cells #[.slice A0_0 l0_0.length c0_0] 32 (0,0)) (kq BK347.out)):gb348≠gb347));replace BK347:=am (je (g:=gb347) (o:=.cells #[.slice A0_0 l0_0.length c0_0] 32 (0,0)) (kq BK347.out) hb);replace HB:=am (jl (by repeat (first |(with_reducible first | exact HB.out | apply jy | apply jo | apply jr | refine jk ?_ GE347.out) | exact HB.out)) hb);clear hb hbox hg;have hnb8:=NB347_348.out;have hnc8:=NB348_347.out;have hcz9_0:=bc0 BK347.out;have hfz9_0:=jf BK347.out 0) |((with_reducible refine jC (f:=54) rfl ?_);refine gL (some 13) Try.func54 #[.agg #[.slice A0_0 l0_0.length c0_0], .int .i64 a1] ?_;(with_reducible refine (jeb.calls k _ _ l0_0 a1 t349 _ ?side1 ?side2 A3.out).mono ?_);(case side1=>exact cq (Kd.jea HR0_0.out HB.out));(case side2=>exact HC0_0.out);rintro e w10 ⟨v350,rfl,ho0,hb⟩;refine ⟨_,rfl,?_⟩;have HO351:=am (Kd.jla ho0 (jQ (Y90)));replace BK347:=am (je (g:=gb347) (o:=.cells #[.slice A0_0 l0_0.length c0_0] 32 (0,0)) (kq BK347.out) hb);replace BK348:=am (je (g:=gb348) (o:=.cells #[.slice none 0 0] 32 (0,0)) (kq BK348.out) hb);replace HB:=am (jl (Y90) hb);(try clear hb);(try clear hb2);(try clear hk);(try clear hi);(try clear ho0);obtain ⟨Ao11,co11,eo11⟩:=Kd.jaa HO351.out;subst eo11) |((with_reducible refine jI (N:=16) rfl ?_);refine Kd.R_mkcap k54 _ 54 rfl (N:=16) rfl 30 _ _ rfl (t349.length:Int) rfl rfl Try.underlying30 (.agg #[(.int .i64 0),(.int .i64 0),(.int .i64 0),(.int .i64 0),(.bool false)]) 40 info54 rfl (by decide) (by omega) (ok:=fun _=>True) trivial (ozD (uq)) (Nat.le_trans (Nat.mul_le_mul_right _ (ozD (uq):(t349.length:Int).toNat≤7036874417766)) (by omega)) (Below.refl _ _) (Nat.le_refl _) ?_;intro v353 w12 ho13 hb hg_ hnew_;clear hg_ hnew_;(first | rw [← Ny352.out] at ho13 |(simp only [Int.reduceToNat] at ho13;rw [← Ny352.out] at ho13));have HO354:=am (Kd.jla ho13 (jQ (Y90)));replace HO351:=am (Kd.jP (rq HO351.out) hb);replace BK347:=am (je (g:=gb347) (o:=.cells #[.slice A0_0 l0_0.length c0_0] 32 (0,0)) (kq BK347.out) hb);replace BK348:=am (je (g:=gb348) (o:=.cells #[.slice none 0 0] 32 (0,0)) (kq BK348.out) hb);replace HB:=am (jl (Y90) hb);clear hb ho13;obtain ⟨Ao14,co14,eo14⟩:=Kd.jaa HO354.out;subst eo14) |((with_reducible refine jI (N:=7) rfl ?_);refine bE (N:=7) (cs:=#[.slice none 0 0]) (t:=32) ?_;intro gb355 hg w15 hbox hb;have BK355:=am (hbox);have GW355:=am ((Y174:w.heap.size≤gb355));have GE355:=am ((Y174:w.heap.size≤gb355));have NB347_355:=am ((by rw [hg];exact Nat.ne_of_lt (jV (g:=gb347) (o:=.cells #[.slice A0_0 l0_0.length c0_0] 32 (0,0)) (kq BK347.out)):gb347≠gb355));have NB355_347:=am ((by rw [hg];exact Nat.ne_of_gt (jV (g:=gb347) (o:=.cells #[.slice A0_0 l0_0.length c0_0] 32 (0,0)) (kq BK347.out)):gb355≠gb347));have NB348_355:=am ((by rw [hg];exact Nat.ne_of_lt (jV (g:=gb348) (o:=.cells #[.slice none 0 0] 32 (0,0)) (kq BK348.out)):gb348≠gb355));have NB355_348:=am ((by rw [hg];exact Nat.ne_of_gt (jV (g:=gb348) (o:=.cells #[.slice none 0 0] 32 (0,0)) (kq BK348.out)):gb355≠gb348));replace HO351:=am (Kd.jP (rq HO351.out) hb);replace HO354:=am (Kd.jP (rq HO354.out) hb);replace BK347:=am (je (g:=gb347) (o:=.cells #[.slice A0_0 l0_0.length c0_0] 32 (0,0)) (kq BK347.out) hb);replace BK348:=am (je (g:=gb348) (o:=.cells #[.slice none 0 0] 32 (0,0)) (kq BK348.out) hb);replace HB:=am (jl (Y90) hb);clear hb hbox hg;have hnb16:=NB355_347.out;have hnc16:=NB347_355.out;have hnb17:=NB355_348.out;have hnc17:=NB348_355.out;have hcz18_0:=bc0 BK355.out;have hfz18_0:=jf BK355.out 0))
   go_loopg [20] k (fun kq v20 w'=>∃ (x20_1:Int) (x356000_1:List (S54)) (u356000:Value),v20=.int .i64 x20_1∧jw (jS.l0 kq a1 t349 t349 (t349.length:Int) x20_1 l0_0 x356000_1=some (r1,r2))∧jw (kq≤k)∧jw (Kd.R (Kd.int .i64) 3 w' w.heap.size (fun _=>True) (.slice Ao11 t349.length co11) t349)∧jw (Kd.R (Kd.int .i64) 3 w' w.heap.size (fun _=>True) (.slice Ao11 t349.length co11) t349)∧jw (Kd.R k54 54 w' w.heap.size (fun _=>True) u356000 x356000_1)∧jw (w'.heap[gb347]?=some (.cells #[(.slice A0_0 l0_0.length c0_0)] 32 (0,0)))∧jw (w'.heap[gb348]?=some (.cells #[(.slice none 0 0)] 32 (0,0)))∧jw (w'.heap[gb355]?=some (.cells #[u356000] 32 (0,0)))∧jw (Below w.heap.size w w'))
   case atStart=>exact ⟨(0),(y352),(.slice Ao14 y352.length co14),(sq),H',⟨Nat.le_refl _⟩,⟨by (with_reducible repeat (first | apply Kd.jL | apply Kd.jM | apply Kd.jN));exact Kd.jD (Kd.jX (p:=⟨gb355,0,none⟩) (Kd.jJ HO351.out BK355.out (by decide)) (fun _ hk=>hk.2) (.slice Ao14 y352.length co14)) (fun _ hk=>trivial)⟩,⟨by (with_reducible repeat (first | apply Kd.jL | apply Kd.jM | apply Kd.jN));exact Kd.jD (Kd.jX (p:=⟨gb355,0,none⟩) (Kd.jJ HO351.out BK355.out (by decide)) (fun _ hk=>hk.2) (.slice Ao14 y352.length co14)) (fun _ hk=>trivial)⟩,⟨by (with_reducible repeat (first | apply Kd.jL | apply Kd.jM | apply Kd.jN));exact Kd.jD (Kd.jX (p:=⟨gb355,0,none⟩) (Kd.jJ HO354.out BK355.out (by decide)) (fun _ hk=>hk.2) (.slice Ao14 y352.length co14)) (fun _ hk=>trivial)⟩,⟨by (with_reducible repeat (first | refine jb ?_ _ | refine jd ?_ | refine jc ?_ _));refine jA ?_ NB347_355.out _;(with_reducible repeat (first | refine jb ?_ _ | refine jd ?_ | refine jc ?_ _));exact BK347.out⟩,⟨by (with_reducible repeat (first | refine jb ?_ _ | refine jd ?_ | refine jc ?_ _));refine jA ?_ NB348_355.out _;(with_reducible repeat (first | refine jb ?_ _ | refine jd ?_ | refine jc ?_ _));exact BK348.out⟩,⟨by (with_reducible repeat (first | refine jb ?_ _ | refine jd ?_ | refine jc ?_ _));refine jfa (cs:=#[.slice none 0 0]) ?_ 0 _ rfl;(with_reducible repeat (first | refine jb ?_ _ | refine jd ?_ | refine jc ?_ _));exact BK355.out⟩,⟨Y140⟩⟩
   case round =>
    clear H'
    try clear c1
    try clear p2
    try clear c4
    try clear c4b0
    try clear c4b1
    try clear c5
    try clear c5b0
    try clear c5b1
    try clear c8
    try clear c16
    try clear c17
    try clear hcz18_0
    try clear hcz9_0
    try clear hfz18_0
    try clear hfz9_0
    obtain ⟨x20_1,x356000_1,u356000,rfl,HA,HK1,HO_6,HO_18,HO_356000,BK347,BK348,BK355,HB⟩:=hrel
    cases gk with
    | zero=>exact absurd HA.out (by simp [jS.l0])
    | succ k1 =>
     have H:=HA.out
     clear HA
     simp only [jS.l0] at H
     by_cases c19:x20_1<(t349.length:Int)
     ·rw [if_pos c19] at H
      have c19b0:decide (x20_1<(t349.length:Int))=true:=dzT c19
      clear c19
      by_cases c20:0≤x20_1
      ·rw [if_pos c20] at H
       have c20b0:decide (0≤x20_1)=true:=dzT c20
       clear c20
       by_cases c21:x20_1<(t349.length:Int)
       ·rw [if_pos c21] at H
        have c21b0:decide (x20_1<(t349.length:Int))=true:=dzT c21
        clear c21
        by_cases c22:0≤(rd t349 x20_1)
        ·rw [if_pos c22] at H
         have c22b0:decide (0≤(rd t349 x20_1))=true:=dzT c22
         clear c22
         by_cases c23:(rd t349 x20_1)<(l0_0.length:Int)
         ·rw [if_pos c23] at H
          have c23b0:decide ((rd t349 x20_1)<(l0_0.length:Int))=true:=dzT c23
          clear c23
          replace H:=bzS H
          obtain ⟨t360,A240,H⟩:=H
          replace H:((jR.f k1 t349 ((ja l0_0 (rd t349 x20_1)).f3)).bind fun t361=>(if x356000_1.length<3518437208883 then (jS.l0 k1 a1 t349 t349 (t349.length:Int) (wrap64 (x20_1+1)) l0_0 (x356000_1 ++ [(⟨(ja l0_0 (rd t349 x20_1)).f0,(ja l0_0 (rd t349 x20_1)).f1,t360,t361,(ja l0_0 (rd t349 x20_1)).f4⟩:S54)])) else (none)))=some (r1,r2):=H
          have A24:=am A240
          clear A240
          replace H:=bzS H
          obtain ⟨t361,A250,H⟩:=H
          replace H:(if x356000_1.length<3518437208883 then (jS.l0 k1 a1 t349 t349 (t349.length:Int) (wrap64 (x20_1+1)) l0_0 (x356000_1 ++ [(⟨(ja l0_0 (rd t349 x20_1)).f0,(ja l0_0 (rd t349 x20_1)).f1,t360,t361,(ja l0_0 (rd t349 x20_1)).f4⟩:S54)])) else (none))=some (r1,r2):=H
          have A25:=am A250
          clear A250
          by_cases c26:x356000_1.length<3518437208883
          ·rw [if_pos c26] at H
           have LMc26:=am c26
           clear c26
           obtain ⟨y362,hy362⟩:∃ y_:List (S54),y_=(x356000_1 ++ [(⟨(ja l0_0 (rd t349 x20_1)).f0,(ja l0_0 (rd t349 x20_1)).f1,t360,t361,(ja l0_0 (rd t349 x20_1)).f4⟩:S54)]):=⟨_,rfl⟩
           replace H:(jS.l0 k1 a1 t349 t349 (t349.length:Int) (wrap64 (x20_1+1)) l0_0 y362)=some (r1,r2):=by first |(rw [hy362];with_reducible exact H) |(have H2_:=(Option.bind_some _ _).symm.trans H;rw [hy362];with_reducible exact H2_) |(have H2_:=(Option.bind_some _ _).symm.trans H;with_reducible exact H2_) | with_reducible exact H |(rw [hy362];exact H) | exact H
           have Ny362:=am hy362
           clear hy362
           have H':=am H
           clear H
           have p357:0≤(x20_1:Int):=ozD (uq)
           have q357:x20_1<(t349.length:Int):=ozD (uq)
           obtain ⟨ad357,e357,hx357_0⟩:=Kd.jOb (Kd.jB HO_18.out).2.2 x20_1 p357 q357
           cases e357
           replace p357:=ezT p357
           replace q357:=ezT q357
           have hnb27:=NB347_348.out
           have hnc27:=NB348_347.out
           have hnb28:=NB347_355.out
           have hnc28:=NB355_347.out
           have hcz29_0:=bc0 BK347.out
           have hfz29_0:=jf BK347.out 0
           have p358:0≤((rd t349 x20_1):Int):=ozD (uq)
           have q358:(rd t349 x20_1)<(l0_0.length:Int):=ozD (uq)
           obtain ⟨ad358,e358,hx358_0,hx358_1,hx358_2,hx358_3,hx358_4⟩:=jfb HR0_0.out (rd t349 x20_1) p358 q358
           cases e358
           replace hx358_0:=cb HB.out hx358_0
           replace hx358_1:=cb HB.out hx358_1
           replace hx358_2:=cb HB.out hx358_2
           replace hx358_3:=cb HB.out hx358_3
           replace hx358_4:=cb HB.out hx358_4
           replace p358:=ezT p358
           replace q358:=ezT q358
           try go_wp2_with (first |((with_reducible refine jI (N:=10) rfl ?_);refine bE (N:=10) (cs:=#[.int .i64 0, .int .i64 0, .int .i64 0, .int .i64 0, .bool false]) (t:=54) ?_;intro gb359 hg w30 hbox hb;have BK359:=am (hbox);have GW359:=am ((Y175:w.heap.size≤gb359));have GE359:=am ((Y175:w.heap.size≤gb359));have NB347_359:=am ((by rw [hg];exact Nat.ne_of_lt (jV (g:=gb347) (o:=.cells #[.slice (some ad358) l0_0.length c0_0] 32 (0,0)) (kq BK347.out)):gb347≠gb359));have NB359_347:=am ((by rw [hg];exact Nat.ne_of_gt (jV (g:=gb347) (o:=.cells #[.slice (some ad358) l0_0.length c0_0] 32 (0,0)) (kq BK347.out)):gb359≠gb347));have NB348_359:=am ((by rw [hg];exact Nat.ne_of_lt (jV (g:=gb348) (o:=.cells #[.slice none 0 0] 32 (0,0)) (kq BK348.out)):gb348≠gb359));have NB359_348:=am ((by rw [hg];exact Nat.ne_of_gt (jV (g:=gb348) (o:=.cells #[.slice none 0 0] 32 (0,0)) (kq BK348.out)):gb359≠gb348));have NB355_359:=am ((by rw [hg];exact Nat.ne_of_lt (jV (g:=gb355) (o:=.cells #[u356000] 32 (0,0)) (kq BK355.out)):gb355≠gb359));have NB359_355:=am ((by rw [hg];exact Nat.ne_of_gt (jV (g:=gb355) (o:=.cells #[u356000] 32 (0,0)) (kq BK355.out)):gb359≠gb355));replace HO_6:=am (Kd.jP (rq HO_6.out) hb);replace HO_18:=am (Kd.jP (rq HO_18.out) hb);replace HO_356000:=am (Kd.jP (Kd.R_elderB (rq HO_356000.out) gb359 (Nat.le_of_eq hg.symm)) hb);replace BK347:=am (je (g:=gb347) (o:=.cells #[.slice (some ad358) l0_0.length c0_0] 32 (0,0)) (kq BK347.out) hb);replace BK348:=am (je (g:=gb348) (o:=.cells #[.slice none 0 0] 32 (0,0)) (kq BK348.out) hb);replace BK355:=am (je (g:=gb355) (o:=.cells #[u356000] 32 (0,0)) (kq BK355.out) hb);replace HB:=am (jl (Y140) hb);clear hb hbox hg;have hnb31:=NB359_347.out;have hnc31:=NB347_359.out;have hnb32:=NB359_348.out;have hnc32:=NB348_359.out;have hnb33:=NB359_355.out;have hnc33:=NB355_359.out;have hcz34_0:=bc0 BK359.out;have hcz34_1:=bc1 BK359.out;have hcz34_2:=bc2 BK359.out;have hcz34_3:=bc3 BK359.out;have hcz34_4:w30.cell? ⟨gb359,4,none⟩=some (.bool false):=(jH BK359.out 4).trans rfl;have hfz34_0:=jf BK359.out 0;have hfz34_1:=jf BK359.out 1;have hfz34_2:=jf BK359.out 2;have hfz34_3:=jf BK359.out 3;have hfz34_4:=jf BK359.out 4))
           have n0_:jw (Kd.R (Kd.int .i64) 3 (((((w30.setCell ⟨gb359,0,none⟩ (.int .i64 ((ja l0_0 (rd t349 x20_1)).f0))).setCell ⟨gb359,1,none⟩ (.int .i64 ((ja l0_0 (rd t349 x20_1)).f1))).setCell ⟨gb359,2,none⟩ (.int .i64 ((ja l0_0 (rd t349 x20_1)).f2))).setCell ⟨gb359,3,none⟩ (.int .i64 ((ja l0_0 (rd t349 x20_1)).f3))).setCell ⟨gb359,4,none⟩ (.bool ((ja l0_0 (rd t349 x20_1)).f4))) w.heap.size (fun _=>True) (.slice (some ad357) t349.length co11) t349):=⟨by (with_reducible repeat (first | apply Kd.jL | apply Kd.jM | apply Kd.jN));exact Kd.jD (Kd.jX (p:=⟨gb359,4,none⟩) (Kd.jX (p:=⟨gb359,3,none⟩) (Kd.jX (p:=⟨gb359,2,none⟩) (Kd.jX (p:=⟨gb359,1,none⟩) (Kd.jX (p:=⟨gb359,0,none⟩) (Kd.jJ HO_6.out BK359.out (by decide)) (fun _ hk=>hk.2) (.int .i64 ((ja l0_0 (rd t349 x20_1)).f0))) (fun _ hk=>hk.2) (.int .i64 ((ja l0_0 (rd t349 x20_1)).f1))) (fun _ hk=>hk.2) (.int .i64 ((ja l0_0 (rd t349 x20_1)).f2))) (fun _ hk=>hk.2) (.int .i64 ((ja l0_0 (rd t349 x20_1)).f3))) (fun _ hk=>hk.2) (.bool ((ja l0_0 (rd t349 x20_1)).f4))) (fun _ hk=>trivial)⟩
           have n1_:jw (Kd.R (Kd.int .i64) 3 (((((w30.setCell ⟨gb359,0,none⟩ (.int .i64 ((ja l0_0 (rd t349 x20_1)).f0))).setCell ⟨gb359,1,none⟩ (.int .i64 ((ja l0_0 (rd t349 x20_1)).f1))).setCell ⟨gb359,2,none⟩ (.int .i64 ((ja l0_0 (rd t349 x20_1)).f2))).setCell ⟨gb359,3,none⟩ (.int .i64 ((ja l0_0 (rd t349 x20_1)).f3))).setCell ⟨gb359,4,none⟩ (.bool ((ja l0_0 (rd t349 x20_1)).f4))) w.heap.size (fun _=>True) (.slice (some ad357) t349.length co11) t349):=⟨by (with_reducible repeat (first | apply Kd.jL | apply Kd.jM | apply Kd.jN));exact Kd.jD (Kd.jX (p:=⟨gb359,4,none⟩) (Kd.jX (p:=⟨gb359,3,none⟩) (Kd.jX (p:=⟨gb359,2,none⟩) (Kd.jX (p:=⟨gb359,1,none⟩) (Kd.jX (p:=⟨gb359,0,none⟩) (Kd.jJ HO_18.out BK359.out (by decide)) (fun _ hk=>hk.2) (.int .i64 ((ja l0_0 (rd t349 x20_1)).f0))) (fun _ hk=>hk.2) (.int .i64 ((ja l0_0 (rd t349 x20_1)).f1))) (fun _ hk=>hk.2) (.int .i64 ((ja l0_0 (rd t349 x20_1)).f2))) (fun _ hk=>hk.2) (.int .i64 ((ja l0_0 (rd t349 x20_1)).f3))) (fun _ hk=>hk.2) (.bool ((ja l0_0 (rd t349 x20_1)).f4))) (fun _ hk=>trivial)⟩
           have n2_:jw (Kd.R k54 54 (((((w30.setCell ⟨gb359,0,none⟩ (.int .i64 ((ja l0_0 (rd t349 x20_1)).f0))).setCell ⟨gb359,1,none⟩ (.int .i64 ((ja l0_0 (rd t349 x20_1)).f1))).setCell ⟨gb359,2,none⟩ (.int .i64 ((ja l0_0 (rd t349 x20_1)).f2))).setCell ⟨gb359,3,none⟩ (.int .i64 ((ja l0_0 (rd t349 x20_1)).f3))).setCell ⟨gb359,4,none⟩ (.bool ((ja l0_0 (rd t349 x20_1)).f4))) w.heap.size (fun k_=>k_≠gb359) u356000 x356000_1):=⟨by (with_reducible repeat (first | apply Kd.jL | apply Kd.jM | apply Kd.jN));exact Kd.jD (Kd.jX (p:=⟨gb359,4,none⟩) (Kd.jX (p:=⟨gb359,3,none⟩) (Kd.jX (p:=⟨gb359,2,none⟩) (Kd.jX (p:=⟨gb359,1,none⟩) (Kd.jX (p:=⟨gb359,0,none⟩) (Kd.jD HO_356000.out (fun k_ hk=>(⟨hk,hk.2⟩:_∧k_≠gb359))) (fun _ hk=>hk.2) (.int .i64 ((ja l0_0 (rd t349 x20_1)).f0))) (fun _ hk=>hk.2) (.int .i64 ((ja l0_0 (rd t349 x20_1)).f1))) (fun _ hk=>hk.2) (.int .i64 ((ja l0_0 (rd t349 x20_1)).f2))) (fun _ hk=>hk.2) (.int .i64 ((ja l0_0 (rd t349 x20_1)).f3))) (fun _ hk=>hk.2) (.bool ((ja l0_0 (rd t349 x20_1)).f4))) (fun _ hk=>hk.1.2)⟩
           have n3_:jw ((((((w30.setCell ⟨gb359,0,none⟩ (.int .i64 ((ja l0_0 (rd t349 x20_1)).f0))).setCell ⟨gb359,1,none⟩ (.int .i64 ((ja l0_0 (rd t349 x20_1)).f1))).setCell ⟨gb359,2,none⟩ (.int .i64 ((ja l0_0 (rd t349 x20_1)).f2))).setCell ⟨gb359,3,none⟩ (.int .i64 ((ja l0_0 (rd t349 x20_1)).f3))).setCell ⟨gb359,4,none⟩ (.bool ((ja l0_0 (rd t349 x20_1)).f4))).heap[gb347]?=some (.cells #[.slice (some ad358) l0_0.length c0_0] 32 (0,0))):=⟨by (with_reducible repeat (first | refine jb ?_ _ | refine jd ?_ | refine jc ?_ _));refine jA ?_ NB347_359.out _;(with_reducible repeat (first | refine jb ?_ _ | refine jd ?_ | refine jc ?_ _));refine jA ?_ NB347_359.out _;(with_reducible repeat (first | refine jb ?_ _ | refine jd ?_ | refine jc ?_ _));refine jA ?_ NB347_359.out _;(with_reducible repeat (first | refine jb ?_ _ | refine jd ?_ | refine jc ?_ _));refine jA ?_ NB347_359.out _;(with_reducible repeat (first | refine jb ?_ _ | refine jd ?_ | refine jc ?_ _));refine jA ?_ NB347_359.out _;(with_reducible repeat (first | refine jb ?_ _ | refine jd ?_ | refine jc ?_ _));exact BK347.out⟩
           have n4_:jw ((((((w30.setCell ⟨gb359,0,none⟩ (.int .i64 ((ja l0_0 (rd t349 x20_1)).f0))).setCell ⟨gb359,1,none⟩ (.int .i64 ((ja l0_0 (rd t349 x20_1)).f1))).setCell ⟨gb359,2,none⟩ (.int .i64 ((ja l0_0 (rd t349 x20_1)).f2))).setCell ⟨gb359,3,none⟩ (.int .i64 ((ja l0_0 (rd t349 x20_1)).f3))).setCell ⟨gb359,4,none⟩ (.bool ((ja l0_0 (rd t349 x20_1)).f4))).heap[gb348]?=some (.cells #[.slice none 0 0] 32 (0,0))):=⟨by (with_reducible repeat (first | refine jb ?_ _ | refine jd ?_ | refine jc ?_ _));refine jA ?_ NB348_359.out _;(with_reducible repeat (first | refine jb ?_ _ | refine jd ?_ | refine jc ?_ _));refine jA ?_ NB348_359.out _;(with_reducible repeat (first | refine jb ?_ _ | refine jd ?_ | refine jc ?_ _));refine jA ?_ NB348_359.out _;(with_reducible repeat (first | refine jb ?_ _ | refine jd ?_ | refine jc ?_ _));refine jA ?_ NB348_359.out _;(with_reducible repeat (first | refine jb ?_ _ | refine jd ?_ | refine jc ?_ _));refine jA ?_ NB348_359.out _;(with_reducible repeat (first | refine jb ?_ _ | refine jd ?_ | refine jc ?_ _));exact BK348.out⟩
           have n5_:jw ((((((w30.setCell ⟨gb359,0,none⟩ (.int .i64 ((ja l0_0 (rd t349 x20_1)).f0))).setCell ⟨gb359,1,none⟩ (.int .i64 ((ja l0_0 (rd t349 x20_1)).f1))).setCell ⟨gb359,2,none⟩ (.int .i64 ((ja l0_0 (rd t349 x20_1)).f2))).setCell ⟨gb359,3,none⟩ (.int .i64 ((ja l0_0 (rd t349 x20_1)).f3))).setCell ⟨gb359,4,none⟩ (.bool ((ja l0_0 (rd t349 x20_1)).f4))).heap[gb355]?=some (.cells #[u356000] 32 (0,0))):=⟨by (with_reducible repeat (first | refine jb ?_ _ | refine jd ?_ | refine jc ?_ _));refine jA ?_ NB355_359.out _;(with_reducible repeat (first | refine jb ?_ _ | refine jd ?_ | refine jc ?_ _));refine jA ?_ NB355_359.out _;(with_reducible repeat (first | refine jb ?_ _ | refine jd ?_ | refine jc ?_ _));refine jA ?_ NB355_359.out _;(with_reducible repeat (first | refine jb ?_ _ | refine jd ?_ | refine jc ?_ _));refine jA ?_ NB355_359.out _;(with_reducible repeat (first | refine jb ?_ _ | refine jd ?_ | refine jc ?_ _));refine jA ?_ NB355_359.out _;(with_reducible repeat (first | refine jb ?_ _ | refine jd ?_ | refine jc ?_ _));exact BK355.out⟩
           have n6_:jw ((((((w30.setCell ⟨gb359,0,none⟩ (.int .i64 ((ja l0_0 (rd t349 x20_1)).f0))).setCell ⟨gb359,1,none⟩ (.int .i64 ((ja l0_0 (rd t349 x20_1)).f1))).setCell ⟨gb359,2,none⟩ (.int .i64 ((ja l0_0 (rd t349 x20_1)).f2))).setCell ⟨gb359,3,none⟩ (.int .i64 ((ja l0_0 (rd t349 x20_1)).f3))).setCell ⟨gb359,4,none⟩ (.bool ((ja l0_0 (rd t349 x20_1)).f4))).heap[gb359]?=some (.cells #[.int .i64 ((ja l0_0 (rd t349 x20_1)).f0), .int .i64 ((ja l0_0 (rd t349 x20_1)).f1), .int .i64 ((ja l0_0 (rd t349 x20_1)).f2), .int .i64 ((ja l0_0 (rd t349 x20_1)).f3), .bool ((ja l0_0 (rd t349 x20_1)).f4)] 54 (0,0))):=⟨by (with_reducible repeat (first | refine jb ?_ _ | refine jd ?_ | refine jc ?_ _));refine jfa (cs:=#[.int .i64 ((ja l0_0 (rd t349 x20_1)).f0), .int .i64 ((ja l0_0 (rd t349 x20_1)).f1), .int .i64 ((ja l0_0 (rd t349 x20_1)).f2), .int .i64 ((ja l0_0 (rd t349 x20_1)).f3), .bool false]) ?_ 4 _ rfl;(with_reducible repeat (first | refine jb ?_ _ | refine jd ?_ | refine jc ?_ _));refine jfa (cs:=#[.int .i64 ((ja l0_0 (rd t349 x20_1)).f0), .int .i64 ((ja l0_0 (rd t349 x20_1)).f1), .int .i64 ((ja l0_0 (rd t349 x20_1)).f2), .int .i64 0, .bool false]) ?_ 3 _ rfl;(with_reducible repeat (first | refine jb ?_ _ | refine jd ?_ | refine jc ?_ _));refine jfa (cs:=#[.int .i64 ((ja l0_0 (rd t349 x20_1)).f0), .int .i64 ((ja l0_0 (rd t349 x20_1)).f1), .int .i64 0, .int .i64 0, .bool false]) ?_ 2 _ rfl;(with_reducible repeat (first | refine jb ?_ _ | refine jd ?_ | refine jc ?_ _));refine jfa (cs:=#[.int .i64 ((ja l0_0 (rd t349 x20_1)).f0), .int .i64 0, .int .i64 0, .int .i64 0, .bool false]) ?_ 1 _ rfl;(with_reducible repeat (first | refine jb ?_ _ | refine jd ?_ | refine jc ?_ _));refine jfa (cs:=#[.int .i64 0, .int .i64 0, .int .i64 0, .int .i64 0, .bool false]) ?_ 0 _ rfl;(with_reducible repeat (first | refine jb ?_ _ | refine jd ?_ | refine jc ?_ _));exact BK359.out⟩
           have n7_:jw (Below w.heap.size w (((((w30.setCell ⟨gb359,0,none⟩ (.int .i64 ((ja l0_0 (rd t349 x20_1)).f0))).setCell ⟨gb359,1,none⟩ (.int .i64 ((ja l0_0 (rd t349 x20_1)).f1))).setCell ⟨gb359,2,none⟩ (.int .i64 ((ja l0_0 (rd t349 x20_1)).f2))).setCell ⟨gb359,3,none⟩ (.int .i64 ((ja l0_0 (rd t349 x20_1)).f3))).setCell ⟨gb359,4,none⟩ (.bool ((ja l0_0 (rd t349 x20_1)).f4)))):=⟨Y105⟩
           (try clear HO_6)
           (try clear HO_18)
           (try clear HO_356000)
           (try clear BK347)
           (try clear BK348)
           (try clear BK355)
           (try clear BK359)
           (try clear HB)
           generalize (((((w30.setCell ⟨gb359,0,none⟩ (.int .i64 ((ja l0_0 (rd t349 x20_1)).f0))).setCell ⟨gb359,1,none⟩ (.int .i64 ((ja l0_0 (rd t349 x20_1)).f1))).setCell ⟨gb359,2,none⟩ (.int .i64 ((ja l0_0 (rd t349 x20_1)).f2))).setCell ⟨gb359,3,none⟩ (.int .i64 ((ja l0_0 (rd t349 x20_1)).f3))).setCell ⟨gb359,4,none⟩ (.bool ((ja l0_0 (rd t349 x20_1)).f4)))=w35 at n0_ n1_ n2_ n3_ n4_ n5_ n6_ n7_ ⊢
           have HO_6:=n0_
           have HO_18:=n1_
           have HO_356000:=n2_
           have BK347:=n3_
           have BK348:=n4_
           have BK355:=n5_
           have BK359:=n6_
           have HB:=n7_
           clear n0_ n1_ n2_ n3_ n4_ n5_ n6_ n7_
           replace HO_6:=am (Kd.jN HO_6.out)
           replace HO_18:=am (Kd.jN HO_18.out)
           replace HO_356000:=am (Kd.jN HO_356000.out)
           replace BK347:=am (jd BK347.out)
           replace BK348:=am (jd BK348.out)
           replace BK355:=am (jd BK355.out)
           replace BK359:=am (jd BK359.out)
           replace HB:=am (jr HB.out)
           refine jPb (n:=12) (S:=fun w'=>w'.cell? ⟨gb359,0,none⟩=some (.int .i64 ((ja l0_0 (rd t349 x20_1)).f0))∧w'.cell? ⟨gb359,1,none⟩=some (.int .i64 ((ja l0_0 (rd t349 x20_1)).f1))∧w'.cell? ⟨gb359,2,none⟩=some (.int .i64 ((ja l0_0 (rd t349 x20_1)).f2))∧w'.cell? ⟨gb359,3,none⟩=some (.int .i64 ((ja l0_0 (rd t349 x20_1)).f3))∧w'.cell? ⟨gb359,4,none⟩=some (.bool ((ja l0_0 (rd t349 x20_1)).f4))) (ds:=[9,11]) #[false,false,false,false,false,false,false,false,false,false,false,false] (by kernel_rfl) rfl rfl ⟨(jH BK359.out 0).trans rfl,(jH BK359.out 1).trans rfl,(jH BK359.out 2).trans rfl,(jH BK359.out 3).trans rfl,(jH BK359.out 4).trans rfl⟩ (fun hHeld=>?_);refine jvb jS.tab7 jS.bits7 (fun HT_ HW_=>?_)
           generalize w35.drew=w36 at HO_6 HO_18 HO_356000 BK347 BK348 BK355 BK359 HB hHeld ⊢
           refine pq (i:=0) (N:=some 29) #[true,false,false,false,false,false,false,false,false,false,false,false] ?_
           refine pq (i:=1) (N:=some 30) #[true,true,false,false,false,false,false,false,false,false,false,false] ?_
           refine pq (i:=4) (N:=some 33) #[true,true,false,false,true,false,false,false,false,false,false,false] ?_
           refine pq (i:=5) (N:=some 34) #[true,true,false,false,true,true,false,false,false,false,false,false] ?_
           refine jwb (i:=2) (N:=some 31) (v:=?_) (a':=?_) #[true,true,true,false,true,true,false,false,false,false,false,false] rfl rfl (jZa HT_.out HW_.out (by kernel_rfl)) (fun _ _ _ h=>h) (Or.inl ⟨by rfl,?_⟩) hHeld ?_ ?_
           rotate_left
           ·rintro w' ⟨s0,s1,s2,s3,s4⟩
            go_simp
            with_reducible rfl
           rotate_left
           ·exact sa
           refine jwb (i:=6) (N:=some 35) (v:=?_) (a':=?_) #[true,true,true,false,true,true,true,false,false,false,false,false] rfl rfl (jZa HT_.out HW_.out (by kernel_rfl)) (fun _ _ _ h=>h) (Or.inl ⟨by rfl,?_⟩) hHeld ?_ ?_
           rotate_left
           ·rintro w' ⟨s0,s1,s2,s3,s4⟩
            go_simp
            with_reducible rfl
           rotate_left
           ·exact sa
           refine one_ (i:=3) (N:=some 32) #[true,true,true,true,true,true,true,false,false,false,false,false] rfl rfl (jUa HT_.out (by kernel_rfl)) (by decide) (fun K hK=>?_)
           refine goes_ Try.func76 (by kernel_rfl) rfl #[.slice (some ad357) t349.length co11, .int .i64 ((ja l0_0 (rd t349 x20_1)).f2)] (by rfl) rfl rfl (aq) ?_
           with_reducible refine (jR.calls k1 _ _ t349 ((ja l0_0 (rd t349 x20_1)).f2) t360 _ ?side1 ?side2 A24.out).mono ?_
           (case side1=>exact cq (Kd.jB HO_6.out).2.2)
           (case side2=>exact (Kd.jB HO_6.out).2.1)
           rintro e w' ⟨rfl,⟨nd,rfl⟩⟩
           refine ⟨_,rfl,?_⟩
           refine hK.out _ _ ⟨(jH BK359.out 0).trans rfl,(jH BK359.out 1).trans rfl,(jH BK359.out 2).trans rfl,(jH BK359.out 3).trans rfl,(jH BK359.out 4).trans rfl⟩ (fun hHeld=>?_)
           clear hK K
           refine jLb (a':=?_) ?_ ?_
           rotate_left
           ·show Act.put _ (some 32) _=_
            simp only [Act.put,List.setIfInBounds_toArray,List.set_cons_zero,List.set_cons_succ,jjb,job]
            rfl
           refine pq (i:=8) (N:=some 37) #[true,true,true,true,true,true,true,false,true,false,false,false] ?_
           refine one_ (i:=7) (N:=some 36) #[true,true,true,true,true,true,true,true,true,false,false,false] rfl rfl (jUa HT_.out (by kernel_rfl)) (by decide) (fun K hK=>?_)
           refine goes_ Try.func76 (by kernel_rfl) rfl #[.slice (some ad357) t349.length co11, .int .i64 ((ja l0_0 (rd t349 x20_1)).f3)] (by rfl) rfl rfl (aq) ?_
           with_reducible refine (jR.calls k1 _ _ t349 ((ja l0_0 (rd t349 x20_1)).f3) t361 _ ?side1 ?side2 A25.out).mono ?_
           (case side1=>exact cq (Kd.jB HO_6.out).2.2)
           (case side2=>exact (Kd.jB HO_6.out).2.1)
           rintro e w' ⟨rfl,⟨nd,rfl⟩⟩
           refine ⟨_,rfl,?_⟩
           refine hK.out _ _ ⟨(jH BK359.out 0).trans rfl,(jH BK359.out 1).trans rfl,(jH BK359.out 2).trans rfl,(jH BK359.out 3).trans rfl,(jH BK359.out 4).trans rfl⟩ (fun hHeld=>?_)
           clear hK K
           refine jLb (a':=?_) ?_ ?_
           rotate_left
           ·show Act.put _ (some 36) _=_
            simp only [Act.put,List.setIfInBounds_toArray,List.set_cons_zero,List.set_cons_succ,jjb,job]
            rfl
           refine last_ (i:=9) (N:=none) #[true,true,true,true,true,true,true,true,true,true,false,false] rfl rfl (jUa HT_.out (by kernel_rfl)) (by decide) (fun K hK=>?_)
           have hs37:w36.cell? ⟨gb359,2,none⟩=some (.int .i64 ((ja l0_0 (rd t349 x20_1)).f2)):=(jH BK359.out 2).trans rfl
           have hfs37:=jf BK359.out 2
           have hns37_0:=NB347_359.out
           have hns37_1:=NB348_359.out
           have hns37_2:=NB355_359.out
           have hms37_0:=NB359_347.out
           have hms37_1:=NB359_348.out
           have hms37_2:=NB359_355.out
           refine jQb (w1:=?_) (by rfl) rfl ?_ ?_
           rotate_left
           ·go_simp
            rfl
           refine hK.out _ _ ?_
           clear hK K
           refine pq (i:=10) (N:=some 38) #[true,true,true,true,true,true,true,true,true,true,true,false] ?_
           refine last_ (i:=11) (N:=none) #[true,true,true,true,true,true,true,true,true,true,true,true] rfl rfl (jUa HT_.out (by kernel_rfl)) (by decide) (fun K hK=>?_)
           have hs38:w36.cell? ⟨gb359,3,none⟩=some (.int .i64 ((ja l0_0 (rd t349 x20_1)).f3)):=(jH BK359.out 3).trans rfl
           have hfs38:=jf BK359.out 3
           have hns38_0:=NB347_359.out
           have hns38_1:=NB348_359.out
           have hns38_2:=NB355_359.out
           have hms38_0:=NB359_347.out
           have hms38_1:=NB359_348.out
           have hms38_2:=NB359_355.out
           refine jQb (w1:=?_) (by rfl) rfl ?_ ?_
           rotate_left
           ·go_simp
            rfl
           refine hK.out _ _ ?_
           clear hK K
           refine done_ (jWb HT_.out (by kernel_rfl)) ?_
           have hnb39:=NB355_348.out
           have hnc39:=NB348_355.out
           have hcz40_0:=bc0 BK355.out
           have hfz40_0:=jf BK355.out 0
           have hcz41_0:=bc0 BK359.out
           have hcz41_1:=bc1 BK359.out
           have hcz41_2:=bc2 BK359.out
           have hcz41_3:=bc3 BK359.out
           have hcz41_4:w36.cell? ⟨gb359,4,none⟩=some (.bool ((ja l0_0 (rd t349 x20_1)).f4)):=(jH BK359.out 4).trans rfl
           have hfz41_0:=jf BK359.out 0
           have hfz41_1:=jf BK359.out 1
           have hfz41_2:=jf BK359.out 2
           have hfz41_3:=jf BK359.out 3
           have hfz41_4:=jf BK359.out 4
           try go_wp2_with (first |((with_reducible refine jkb (b:=.append) (xs:=#[.tmp 40, .tmp 42]) rfl ?_);at_builtin;refine Kd.jbc k54 (w0:=w) w.heap.size rfl (.tmp 40) (.tmp 42) 30 54 (.agg #[(.int .i64 0),(.int .i64 0),(.int .i64 0),(.int .i64 0),(.bool false)]) 40 rfl Try.underlying30 info54 rfl (by decide) (by omega) u356000 x356000_1 (⟨(ja l0_0 (rd t349 x20_1)).f0,(ja l0_0 (rd t349 x20_1)).f1,t360,t361,(ja l0_0 (rd t349 x20_1)).f4⟩:S54) [.int .i64 ((ja l0_0 (rd t349 x20_1)).f0), .int .i64 ((ja l0_0 (rd t349 x20_1)).f1), .int .i64 t360, .int .i64 t361, .bool ((ja l0_0 (rd t349 x20_1)).f4)] (fun k_=>k_≠gb359) (fun _=>False) rfl (Y4) ?aP (fun _ hk=>hk.elim) ?aF ?aO ?aB ?aS ?aL ?_;(case aP=>exact jGb _ _ _ (⟨(ja l0_0 (rd t349 x20_1)).f0,(ja l0_0 (rd t349 x20_1)).f1,t360,t361,(ja l0_0 (rd t349 x20_1)).f4⟩:S54));(case aB=>exact (Y105));(case aF=>exact (fun k_ hk=>Kd.freshB (g:=gb359) (o:=.cells #[.int .i64 ((ja l0_0 (rd t349 x20_1)).f0), .int .i64 ((ja l0_0 (rd t349 x20_1)).f1), .int .i64 t360, .int .i64 t361, .bool ((ja l0_0 (rd t349 x20_1)).f4)] 54 (0,0)) (Y176) k_ hk));(case aO=>exact (by (with_reducible repeat (first | apply Kd.jL | apply Kd.jM | apply Kd.jN));exact Kd.jD (Kd.jX (p:=⟨gb359,3,none⟩) (Kd.jX (p:=⟨gb359,2,none⟩) (Kd.jD HO_356000.out (fun k_ hk=>(⟨hk,hk⟩:_∧k_≠gb359))) (fun _ hk=>hk.2) (.int .i64 t360)) (fun _ hk=>hk.2) (.int .i64 t361)) (fun _ hk=>hk.1)));(case aS=>exact (jQ (Y105)));(case aL=>have:=LMc26.out;omega);intro v363 w42 ho hb hg hat;rw [← Ny362.out] at ho;have n0_:=am (Kd.R_over' (by (with_reducible repeat (first | apply Kd.jL | apply Kd.jM | apply Kd.jN));exact (Kd.jD (Kd.jX (p:=⟨gb359,3,none⟩) (Kd.jX (p:=⟨gb359,2,none⟩) (Kd.jJ HO_6.out BK359.out (by decide)) (fun _ hk=>hk.2) (.int .i64 t360)) (fun _ hk=>hk.2) (.int .i64 t361)) (fun _ h_=>h_.1))) (Kd.R_typed (Y177)) (by decide) hg);have n1_:=am (Kd.R_over' (by (with_reducible repeat (first | apply Kd.jL | apply Kd.jM | apply Kd.jN));exact (Kd.jD (Kd.jX (p:=⟨gb359,3,none⟩) (Kd.jX (p:=⟨gb359,2,none⟩) (Kd.jJ HO_18.out BK359.out (by decide)) (fun _ hk=>hk.2) (.int .i64 t360)) (fun _ hk=>hk.2) (.int .i64 t361)) (fun _ h_=>h_.1))) (Kd.R_typed (Y177)) (by decide) hg);have n2_:=am (jia (g:=gb347) (o:=.cells #[.slice (some ad358) l0_0.length c0_0] 32 (0,0)) (by (with_reducible repeat (first | refine jb ?_ _ | refine jd ?_ | refine jc ?_ _));refine jA ?_ NB347_359.out _;(with_reducible repeat (first | refine jb ?_ _ | refine jd ?_ | refine jc ?_ _));refine jA ?_ NB347_359.out _;(with_reducible repeat (first | refine jb ?_ _ | refine jd ?_ | refine jc ?_ _));exact BK347.out) hg (Kd.R_ne HO_356000.out BK347.out (by decide)));have n3_:=am (jia (g:=gb348) (o:=.cells #[.slice none 0 0] 32 (0,0)) (by (with_reducible repeat (first | refine jb ?_ _ | refine jd ?_ | refine jc ?_ _));refine jA ?_ NB348_359.out _;(with_reducible repeat (first | refine jb ?_ _ | refine jd ?_ | refine jc ?_ _));refine jA ?_ NB348_359.out _;(with_reducible repeat (first | refine jb ?_ _ | refine jd ?_ | refine jc ?_ _));exact BK348.out) hg (Kd.R_ne HO_356000.out BK348.out (by decide)));have n4_:=am (jia (g:=gb355) (o:=.cells #[u356000] 32 (0,0)) (by (with_reducible repeat (first | refine jb ?_ _ | refine jd ?_ | refine jc ?_ _));refine jA ?_ NB355_359.out _;(with_reducible repeat (first | refine jb ?_ _ | refine jd ?_ | refine jc ?_ _));refine jA ?_ NB355_359.out _;(with_reducible repeat (first | refine jb ?_ _ | refine jd ?_ | refine jc ?_ _));exact BK355.out) hg (Kd.R_ne HO_356000.out BK355.out (by decide)));have n5_:=am (jia (g:=gb359) (o:=.cells #[.int .i64 ((ja l0_0 (rd t349 x20_1)).f0), .int .i64 ((ja l0_0 (rd t349 x20_1)).f1), .int .i64 t360, .int .i64 t361, .bool ((ja l0_0 (rd t349 x20_1)).f4)] 54 (0,0)) (Y176) hg (Kd.R_away HO_356000.out (fun _ hk=>hk)));have n6_:=am (hb);have n7_:=am (ho);clear HO_6 HO_18 BK347 BK348 BK355 BK359 HB HO_356000;have HO_6:=n0_;have HO_18:=n1_;have BK347:=n2_;have BK348:=n3_;have BK355:=n4_;have BK359:=n5_;have HB:=n6_;have HO364:=n7_;clear n0_ n1_ n2_ n3_ n4_ n5_ n6_ n7_ ho hb hg hat;obtain ⟨Ao43,co43,eo43⟩:=Kd.jaa HO364.out;subst eo43;have hcz44_0:=bc0 BK355.out;have hfz44_0:=jf BK355.out 0))
           go_roundg k1
           case measure=>have:=HK1.out;omega
           case rel=>exact ⟨(wrap64 (x20_1+1)),(y362),(.slice Ao43 y362.length co43),(sq),H',⟨by have:=HK1.out;omega⟩,⟨by (with_reducible repeat (first | apply Kd.jL | apply Kd.jM | apply Kd.jN));exact Kd.jD (Kd.jX (p:=⟨gb355,0,none⟩) (Kd.jJ HO_6.out BK355.out (by decide)) (fun _ hk=>hk.2) (.slice Ao43 y362.length co43)) (fun _ hk=>trivial)⟩,⟨by (with_reducible repeat (first | apply Kd.jL | apply Kd.jM | apply Kd.jN));exact Kd.jD (Kd.jX (p:=⟨gb355,0,none⟩) (Kd.jJ HO_18.out BK355.out (by decide)) (fun _ hk=>hk.2) (.slice Ao43 y362.length co43)) (fun _ hk=>trivial)⟩,⟨by (with_reducible repeat (first | apply Kd.jL | apply Kd.jM | apply Kd.jN));exact Kd.jD (Kd.jX (p:=⟨gb355,0,none⟩) (Kd.jJ HO364.out BK355.out (by decide)) (fun _ hk=>hk.2) (.slice Ao43 y362.length co43)) (fun _ hk=>trivial)⟩,⟨by (with_reducible repeat (first | refine jb ?_ _ | refine jd ?_ | refine jc ?_ _));refine jA ?_ NB347_355.out _;(with_reducible repeat (first | refine jb ?_ _ | refine jd ?_ | refine jc ?_ _));exact BK347.out⟩,⟨by (with_reducible repeat (first | refine jb ?_ _ | refine jd ?_ | refine jc ?_ _));refine jA ?_ NB348_355.out _;(with_reducible repeat (first | refine jb ?_ _ | refine jd ?_ | refine jc ?_ _));exact BK348.out⟩,⟨by (with_reducible repeat (first | refine jb ?_ _ | refine jd ?_ | refine jc ?_ _));refine jfa (cs:=#[u356000]) ?_ 0 _ rfl;(with_reducible repeat (first | refine jb ?_ _ | refine jd ?_ | refine jc ?_ _));exact BK355.out⟩,⟨Y105⟩⟩
          ·rw [if_neg c26] at H
           exact absurd H (by simp)
         ·rw [if_neg c23] at H
          exact absurd H (by simp)
        ·rw [if_neg c22] at H
         exact absurd H (by simp)
       ·rw [if_neg c21] at H
        exact absurd H (by simp)
      ·rw [if_neg c20] at H
       exact absurd H (by simp)
     ·rw [if_neg c19] at H
      have c19b0:decide (x20_1<(t349.length:Int))=false:=dzF c19
      clear c19
      replace H:=bzS H
      obtain ⟨t356,A450,H⟩:=H
      replace H:(some (x356000_1,t356))=some (r1,r2):=H
      have A45:=am A450
      clear A450
      simp only [Option.some.injEq,Prod.mk.injEq] at H
      obtain ⟨rfl,rfl⟩:=H
      try go_wp2
      replace HO_6:=am (Kd.jN HO_6.out)
      replace HO_18:=am (Kd.jN HO_18.out)
      replace HO_356000:=am (Kd.jN HO_356000.out)
      replace BK347:=am (jd BK347.out)
      replace BK348:=am (jd BK348.out)
      replace BK355:=am (jd BK355.out)
      replace HB:=am (jr HB.out)
      refine jPb (n:=6) (S:=fun w'=>w'.cell? ⟨gb355,0,none⟩=some (u356000)) (ds:=[]) #[false,false,false,false,false,false] (by kernel_rfl) rfl rfl ((jH BK355.out 0).trans rfl) (fun hHeld=>?_)
      generalize wr.drew=w46 at HO_6 HO_18 HO_356000 BK347 BK348 BK355 HB hHeld ⊢
      refine pure_ (i:=1) (N:=some 47) (v:=?_) (a':=?_) #[false,true,false,false,false,false] rfl rfl (by kernel_rfl) (fun _ _ _ h=>h) (Or.inl ⟨by rfl,?_⟩) ?_ ?_
      rotate_left
      ·exact sb
      rotate_left
      ·exact sa
      refine pure_ (i:=2) (N:=some 48) (v:=?_) (a':=?_) #[false,true,true,false,false,false] rfl rfl (by kernel_rfl) (fun _ _ _ h=>h) (Or.inl ⟨by rfl,?_⟩) ?_ ?_
      rotate_left
      ·exact sb
      rotate_left
      ·exact sa
      refine jwb (i:=0) (N:=some 46) (v:=?_) (a':=?_) #[true,true,true,false,false,false] rfl rfl (by kernel_rfl) (fun _ _ _ h=>h) (Or.inl ⟨by rfl,?_⟩) hHeld ?_ ?_
      rotate_left
      ·intro w' s0
       go_simp
       with_reducible rfl
      rotate_left
      ·exact sa
      refine one_ (i:=3) (N:=some 49) #[true,true,true,true,false,false] rfl rfl (by kernel_rfl) (by decide) (fun K hK=>?_)
      refine goes_ Try.func76 (by kernel_rfl) rfl #[.slice Ao11 t349.length co11, .int .i64 a1] (by rfl) rfl rfl (aq) ?_
      with_reducible refine (jR.calls k1 _ _ t349 a1 t356 _ ?side1 ?side2 A45.out).mono ?_
      (case side1=>exact cq (Kd.jB HO_6.out).2.2)
      (case side2=>exact (Kd.jB HO_6.out).2.1)
      rintro e w' ⟨rfl,⟨nd,rfl⟩⟩
      refine ⟨_,rfl,?_⟩
      obtain ⟨Ao47,co47,eo47⟩:=Kd.jaa HO_356000.out
      (first | subst eo47 |(injection eo47 with f1_ f2_ f3_;have f4_:=f1_.symm;have f5_:=f3_.symm;clear f1_ f2_ f3_;subst f4_;subst f5_))
      refine hK.out _ _ ((jH BK355.out 0).trans rfl) (fun hHeld=>?_)
      clear hK K
      refine jLb (a':=?_) ?_ ?_
      rotate_left
      ·show Act.put _ (some 49) _=_
       simp only [Act.put,List.setIfInBounds_toArray,List.set_cons_zero,List.set_cons_succ,jjb,job]
       rfl
      refine one_ (i:=4) (N:=none) #[true,true,true,true,true,false] rfl rfl (by kernel_rfl) (by decide) (fun K hK=>?_)
      have hs48:w46.cell? ⟨gb348,0,none⟩=some (.slice none 0 0):=(jH BK348.out 0).trans rfl
      have hfs48:=jf BK348.out 0
      have hns48_0:=NB347_348.out
      have hns48_2:=NB355_348.out
      have hms48_0:=NB348_347.out
      have hms48_2:=NB348_355.out
      refine jQb (w1:=?_) (by rfl) rfl ?_ ?_
      rotate_left
      ·go_simp
       rfl
      refine hK.out _ _ (((cell_far (p:=⟨gb348,_,none⟩) NB355_348.out _).trans (hHeld))) (fun hHeld=>?_)
      clear hK K
      refine pure_ (i:=5) (N:=some 5) (v:=?_) (a':=?_) #[true,true,true,true,true,true] rfl rfl (by kernel_rfl) (fun _ _ _ h=>h) (Or.inl ⟨by rfl,?_⟩) ?_ ?_
      rotate_left
      ·exact sb
      rotate_left
      ·exact sa
      refine done_ (by kernel_rfl) ?_
      try go_wp2
      refine bodyPost_ret (jsb rfl _ _ gb348 32 #[.slice Ao47 x356000_1.length co47] (0,0) _ rfl (by (with_reducible repeat (first | refine jb ?_ _ | refine jd ?_ | refine jc ?_ _));refine jfa (cs:=#[.slice none 0 0]) ?_ 0 _ rfl;(with_reducible repeat (first | refine jb ?_ _ | refine jd ?_ | refine jc ?_ _));exact BK348.out) Try.underlying32 rfl (by kernel_rfl)) rfl ?_
      exact ⟨_,Y2,by (with_reducible repeat (first | apply Kd.jL | apply Kd.jM | apply Kd.jN));exact Kd.jD (Kd.jX (p:=⟨gb348,0,none⟩) (Kd.jJ HO_356000.out BK348.out (by decide)) (fun _ hk=>hk.2) (.slice Ao47 x356000_1.length co47)) (fun _ hk=>trivial),Y140⟩
  ·rw [if_neg c5] at H
   exact absurd H (by simp)
 ·rw [if_neg c4] at H
  exact absurd H (by simp)
def jxa.f (k : Nat) (l0_0 : List (S94)) (l1_0 : List (S54)) (a2 : Int) : Option ((List (S54)) × Int) := (jab.f k l0_0 l1_0 (([a2] : List Int))).bind fun t371 => (if t371 = true then ((jS.f k l1_0 a2).bind fun bt372 => (some (bt372.1, bt372.2))) else (some (([] : List (S54)), (-1))))
set_option maxHeartbeats 8000000 in
set_option maxRecDepth 100000 in
theorem jxa.calls (k : Nat) (A0_0 : Option Addr) (c0_0 : Nat) (l0_0 : List (S94)) (A1_0 : Option Addr) (c1_0 : Nat) (l1_0 : List (S54)) (a2 : Int) (r1 : List (S54)) (r2 : Int) (w : World) (hr0_0 : Kd.C k94 w A0_0 l0_0.length l0_0) (hc0_0 : l0_0.length ≤ c0_0) (hr1_0 : Kd.C k54 w A1_0 l1_0.length l1_0) (hc1_0 : l1_0.length ≤ c1_0) (h : jxa.f k l0_0 l1_0 a2 = some (r1, r2)) :
  Calls Try.prog 14 #[.agg #[.slice A0_0 l0_0.length c0_0], .agg #[.slice A1_0 l1_0.length c1_0], .int .i64 a2] w fun e w'=>∃ v0_:Value,e=.returned (.tuple #[.agg #[v0_], .int .i64 r2])∧Kd.R k54 54 w' w.heap.size (fun _=>True) v0_ r1∧Below w.heap.size w w':=by
 have hu37:=Try.underlying37
 have hu32:=Try.underlying32
 have HR0_0:=am hr0_0
 have HC0_0:=am hc0_0
 clear hr0_0 hc0_0
 have HR1_0:=am hr1_0
 have HC1_0:=am hc1_0
 clear hr1_0 hc1_0
 have HB:=am (Below.refl w.heap.size w)
 have H:((jab.f k l0_0 l1_0 (([a2]:List Int))).bind fun t371=>(if t371=true then ((jS.f k l1_0 a2).bind fun bt372=>(some (bt372.1,bt372.2))) else (some (([]:List (S54)),(-1)))))=some (r1,r2):=h
 clear h
 obtain ⟨y368,hy368⟩:∃ y_:List Int,y_=(([a2]:List Int)):=⟨_,rfl⟩
 replace H:((jab.f k l0_0 l1_0 y368).bind fun t371=>(if t371=true then ((jS.f k l1_0 a2).bind fun bt372=>(some (bt372.1,bt372.2))) else (some (([]:List (S54)),(-1)))))=some (r1,r2):=by first |(rw [hy368];with_reducible exact H) |(have H2_:=(Option.bind_some _ _).symm.trans H;rw [hy368];with_reducible exact H2_) |(have H2_:=(Option.bind_some _ _).symm.trans H;with_reducible exact H2_) | with_reducible exact H |(rw [hy368];exact H) | exact H
 have Ny368:=am hy368
 clear hy368
 replace H:=bzS H
 obtain ⟨t371,A40,H⟩:=H
 replace H:(if t371=true then ((jS.f k l1_0 a2).bind fun bt372=>(some (bt372.1,bt372.2))) else (some (([]:List (S54)),(-1))))=some (r1,r2):=H
 have A4:=am A40
 clear A40
 by_cases c5:t371=true
 ·subst c5
  have H1:((jS.f k l1_0 a2).bind fun bt372=>(some (bt372.1,bt372.2)))=some (r1,r2):=by rw [if_pos rfl] at H;exact H
  clear H
  have H:=H1
  clear H1
  replace H:=bzS H
  obtain ⟨⟨t372,t375⟩,A60,H⟩:=H
  replace H:(some (t372,t375))=some (r1,r2):=H
  have A6:=am A60
  clear A60
  simp only [Option.some.injEq,Prod.mk.injEq] at H
  obtain ⟨rfl,rfl⟩:=H
  go_enter Try.func14,Try.ntmps14
  go_wp2_with (first |((with_reducible refine jI (N:=3) rfl ?_);refine bE (N:=3) (cs:=#[.slice A0_0 l0_0.length c0_0]) (t:=37) ?_;intro gb365 hg w7 hbox hb;have BK365:=am (hbox);have GW365:=am ((Y1:w.heap.size≤gb365));have GE365:=am ((Y1:w.heap.size≤gb365));replace HB:=am (jl (bq) hb);clear hb hbox hg) |((with_reducible refine jI (N:=4) rfl ?_);refine bE (N:=4) (cs:=#[.slice A1_0 l1_0.length c1_0]) (t:=32) ?_;intro gb366 hg w8 hbox hb;have BK366:=am (hbox);have GW366:=am ((Y106:w.heap.size≤gb366));have GE366:=am ((Y106:w.heap.size≤gb366));have NB365_366:=am ((Y107:gb365≠gb366));have NB366_365:=am ((Y108:gb366≠gb365));replace BK365:=am (je (g:=gb365) (o:=.cells #[.slice A0_0 l0_0.length c0_0] 37 (0,0)) (kq BK365.out) hb);replace HB:=am (jl (Y178) hb);clear hb hbox hg) |((with_reducible refine jI (N:=6) rfl ?_);refine bE (N:=6) (cs:=#[.slice none 0 0]) (t:=32) ?_;intro gb367 hg w9 hbox hb;have BK367:=am (hbox);have GW367:=am ((Y109:w.heap.size≤gb367));have GE367:=am ((Y109:w.heap.size≤gb367));have NB365_367:=am ((Y107:gb365≠gb367));have NB367_365:=am ((Y108:gb367≠gb365));have NB366_367:=am ((by rw [hg];exact Nat.ne_of_lt (jV (g:=gb366) (o:=.cells #[.slice A1_0 l1_0.length c1_0] 32 (0,0)) (kq BK366.out)):gb366≠gb367));have NB367_366:=am ((by rw [hg];exact Nat.ne_of_gt (jV (g:=gb366) (o:=.cells #[.slice A1_0 l1_0.length c1_0] 32 (0,0)) (kq BK366.out)):gb367≠gb366));replace BK365:=am (je (g:=gb365) (o:=.cells #[.slice A0_0 l0_0.length c0_0] 37 (0,0)) (kq BK365.out) hb);replace BK366:=am (je (g:=gb366) (o:=.cells #[.slice A1_0 l1_0.length c1_0] 32 (0,0)) (kq BK366.out) hb);replace HB:=am (jl (Y179) hb);clear hb hbox hg;have hnb10:=NB365_366.out;have hnc10:=NB366_365.out;have hnb11:=NB365_367.out;have hnc11:=NB367_365.out;have hcz12_0:=bc0 BK365.out;have hfz12_0:=jf BK365.out 0;have hnb13:=NB366_367.out;have hnc13:=NB367_366.out;have hcz14_0:=bc0 BK366.out;have hfz14_0:=jf BK366.out 0) |((with_reducible refine jI (N:=11) rfl ?_);refine Kd.R_lit (Kd.int .i64) _ 3 ?hg (N:=11) ?hd (xs:=([a2]:List Int)) (inner:=[.int .i64 a2]) (ok:=fun _=>True) (okp:=fun _=>True) ?hr ?hp (fun _ hk=>hk) trivial (Below.refl _ _) (Nat.le_refl _) (by simp) ?_;(case hd=>rfl);(case hg=>rfl);(case hr=>exact Y4);(case hp=>exact (Reps.one (show Kd.M (Kd.int .i64) _ _ _ a2 [.int .i64 a2] from rfl) (Reps.none _ _)));intro v369 w15 ho16 hb hg_ hnew_;clear hg_ hnew_;(first | rw [← Ny368.out] at ho16 |(simp only [Int.reduceToNat] at ho16;rw [← Ny368.out] at ho16));have HO370:=am (Kd.jla ho16 (jQ (Y41)));replace BK365:=am (je (g:=gb365) (o:=.cells #[.slice A0_0 l0_0.length c0_0] 37 (0,0)) (kq BK365.out) hb);replace BK366:=am (je (g:=gb366) (o:=.cells #[.slice A1_0 l1_0.length c1_0] 32 (0,0)) (kq BK366.out) hb);replace BK367:=am (je (g:=gb367) (o:=.cells #[.slice none 0 0] 32 (0,0)) (kq BK367.out) hb);replace HB:=am (jl (Y41) hb);clear hb ho16;obtain ⟨Ao17,co17,eo17⟩:=Kd.jaa HO370.out;subst eo17) |((with_reducible refine jC (f:=45) rfl ?_);refine gL (some 12) Try.func45 #[.agg #[.slice A0_0 l0_0.length c0_0], .agg #[.slice A1_0 l1_0.length c1_0], .slice Ao17 y368.length co17] ?_;(with_reducible refine (jab.calls k _ _ l0_0 _ _ l1_0 _ _ y368 true _ ?side1 ?side2 ?side3 ?side4 ?side5 ?side6 A4.out).mono ?_);(case side1=>exact cq (Kd.jea HR0_0.out HB.out));(case side2=>exact HC0_0.out);(case side3=>exact cq (Kd.jea HR1_0.out HB.out));(case side4=>exact HC1_0.out);(case side5=>exact cq (Kd.jB HO370.out).2.2);(case side6=>exact (Kd.jB HO370.out).2.1);rintro e w18 ⟨rfl,hb⟩;refine ⟨_,rfl,?_⟩;replace HO370:=am (Kd.jP (rq HO370.out) hb);replace BK365:=am (je (g:=gb365) (o:=.cells #[.slice A0_0 l0_0.length c0_0] 37 (0,0)) (kq BK365.out) hb);replace BK366:=am (je (g:=gb366) (o:=.cells #[.slice A1_0 l1_0.length c1_0] 32 (0,0)) (kq BK366.out) hb);replace BK367:=am (je (g:=gb367) (o:=.cells #[.slice none 0 0] 32 (0,0)) (kq BK367.out) hb);replace HB:=am (jl (Y41) hb);(try clear hb);(try clear hb2);(try clear hk);(try clear hi);have hcz19_0:=bc0 BK366.out;have hfz19_0:=jf BK366.out 0) |((with_reducible refine jC (f:=46) rfl ?_);refine gL (some 17) Try.func46 #[.agg #[.slice A1_0 l1_0.length c1_0], .int .i64 a2] ?_;(with_reducible refine (jS.calls k _ _ l1_0 a2 t372 t375 _ ?side1 ?side2 A6.out).mono ?_);(case side1=>exact cq (Kd.jea HR1_0.out HB.out));(case side2=>exact HC1_0.out);rintro e w20 ⟨v373,rfl,ho0,hb⟩;refine ⟨_,rfl,?_⟩;have HO374:=am (Kd.jla ho0 (jQ (Y41)));replace HO370:=am (Kd.jP (rq HO370.out) hb);replace BK365:=am (je (g:=gb365) (o:=.cells #[.slice A0_0 l0_0.length c0_0] 37 (0,0)) (kq BK365.out) hb);replace BK366:=am (je (g:=gb366) (o:=.cells #[.slice A1_0 l1_0.length c1_0] 32 (0,0)) (kq BK366.out) hb);replace BK367:=am (je (g:=gb367) (o:=.cells #[.slice none 0 0] 32 (0,0)) (kq BK367.out) hb);replace HB:=am (jl (Y41) hb);(try clear hb);(try clear hb2);(try clear hk);(try clear hi);(try clear ho0);obtain ⟨Ao21,co21,eo21⟩:=Kd.jaa HO374.out;subst eo21;have hcz22_0:=bc0 BK367.out;have hfz22_0:=jf BK367.out 0))
  refine bodyPost_ret (jsb rfl _ _ gb367 32 #[.slice Ao21 t372.length co21] (0,0) _ rfl (Y180) Try.underlying32 rfl (by kernel_rfl)) rfl ?_
  exact ⟨_,Y2,by (with_reducible repeat (first | apply Kd.jL | apply Kd.jM | apply Kd.jN));exact Kd.jD (Kd.jX (p:=⟨gb367,0,none⟩) (Kd.jJ HO374.out BK367.out (by decide)) (fun _ hk=>hk.2) (.slice Ao21 t372.length co21)) (fun _ hk=>trivial),Y41⟩
 ·replace c5:=Bool.eq_false_iff.mpr c5
  subst c5
  have H1:(some (([]:List (S54)),(-1)))=some (r1,r2):=by rw [if_neg (show ¬ (false=true) by decide)] at H;exact H
  clear H
  have H:=H1
  clear H1
  simp only [Option.some.injEq,Prod.mk.injEq] at H
  obtain ⟨rfl,rfl⟩:=H
  go_enter Try.func14,Try.ntmps14
  go_wp2_with (first |((with_reducible refine jI (N:=3) rfl ?_);refine bE (N:=3) (cs:=#[.slice A0_0 l0_0.length c0_0]) (t:=37) ?_;intro gb365 hg w23 hbox hb;have BK365:=am (hbox);have GW365:=am ((Y1:w.heap.size≤gb365));have GE365:=am ((Y1:w.heap.size≤gb365));replace HB:=am (jl (bq) hb);clear hb hbox hg) |((with_reducible refine jI (N:=4) rfl ?_);refine bE (N:=4) (cs:=#[.slice A1_0 l1_0.length c1_0]) (t:=32) ?_;intro gb366 hg w24 hbox hb;have BK366:=am (hbox);have GW366:=am ((Y106:w.heap.size≤gb366));have GE366:=am ((Y106:w.heap.size≤gb366));have NB365_366:=am ((Y107:gb365≠gb366));have NB366_365:=am ((Y108:gb366≠gb365));replace BK365:=am (je (g:=gb365) (o:=.cells #[.slice A0_0 l0_0.length c0_0] 37 (0,0)) (kq BK365.out) hb);replace HB:=am (jl (Y178) hb);clear hb hbox hg) |((with_reducible refine jI (N:=6) rfl ?_);refine bE (N:=6) (cs:=#[.slice none 0 0]) (t:=32) ?_;intro gb367 hg w25 hbox hb;have BK367:=am (hbox);have GW367:=am ((Y109:w.heap.size≤gb367));have GE367:=am ((Y109:w.heap.size≤gb367));have NB365_367:=am ((Y107:gb365≠gb367));have NB367_365:=am ((Y108:gb367≠gb365));have NB366_367:=am ((by rw [hg];exact Nat.ne_of_lt (jV (g:=gb366) (o:=.cells #[.slice A1_0 l1_0.length c1_0] 32 (0,0)) (kq BK366.out)):gb366≠gb367));have NB367_366:=am ((by rw [hg];exact Nat.ne_of_gt (jV (g:=gb366) (o:=.cells #[.slice A1_0 l1_0.length c1_0] 32 (0,0)) (kq BK366.out)):gb367≠gb366));replace BK365:=am (je (g:=gb365) (o:=.cells #[.slice A0_0 l0_0.length c0_0] 37 (0,0)) (kq BK365.out) hb);replace BK366:=am (je (g:=gb366) (o:=.cells #[.slice A1_0 l1_0.length c1_0] 32 (0,0)) (kq BK366.out) hb);replace HB:=am (jl (Y179) hb);clear hb hbox hg;have hnb26:=NB365_366.out;have hnc26:=NB366_365.out;have hnb27:=NB365_367.out;have hnc27:=NB367_365.out;have hcz28_0:=bc0 BK365.out;have hfz28_0:=jf BK365.out 0;have hnb29:=NB366_367.out;have hnc29:=NB367_366.out;have hcz30_0:=bc0 BK366.out;have hfz30_0:=jf BK366.out 0) |((with_reducible refine jI (N:=11) rfl ?_);refine Kd.R_lit (Kd.int .i64) _ 3 ?hg (N:=11) ?hd (xs:=([a2]:List Int)) (inner:=[.int .i64 a2]) (ok:=fun _=>True) (okp:=fun _=>True) ?hr ?hp (fun _ hk=>hk) trivial (Below.refl _ _) (Nat.le_refl _) (by simp) ?_;(case hd=>rfl);(case hg=>rfl);(case hr=>exact Y4);(case hp=>exact (Reps.one (show Kd.M (Kd.int .i64) _ _ _ a2 [.int .i64 a2] from rfl) (Reps.none _ _)));intro v369 w31 ho32 hb hg_ hnew_;clear hg_ hnew_;(first | rw [← Ny368.out] at ho32 |(simp only [Int.reduceToNat] at ho32;rw [← Ny368.out] at ho32));have HO370:=am (Kd.jla ho32 (jQ (Y41)));replace BK365:=am (je (g:=gb365) (o:=.cells #[.slice A0_0 l0_0.length c0_0] 37 (0,0)) (kq BK365.out) hb);replace BK366:=am (je (g:=gb366) (o:=.cells #[.slice A1_0 l1_0.length c1_0] 32 (0,0)) (kq BK366.out) hb);replace BK367:=am (je (g:=gb367) (o:=.cells #[.slice none 0 0] 32 (0,0)) (kq BK367.out) hb);replace HB:=am (jl (Y41) hb);clear hb ho32;obtain ⟨Ao33,co33,eo33⟩:=Kd.jaa HO370.out;subst eo33) |((with_reducible refine jC (f:=45) rfl ?_);refine gL (some 12) Try.func45 #[.agg #[.slice A0_0 l0_0.length c0_0], .agg #[.slice A1_0 l1_0.length c1_0], .slice Ao33 y368.length co33] ?_;(with_reducible refine (jab.calls k _ _ l0_0 _ _ l1_0 _ _ y368 false _ ?side1 ?side2 ?side3 ?side4 ?side5 ?side6 A4.out).mono ?_);(case side1=>exact cq (Kd.jea HR0_0.out HB.out));(case side2=>exact HC0_0.out);(case side3=>exact cq (Kd.jea HR1_0.out HB.out));(case side4=>exact HC1_0.out);(case side5=>exact cq (Kd.jB HO370.out).2.2);(case side6=>exact (Kd.jB HO370.out).2.1);rintro e w34 ⟨rfl,hb⟩;refine ⟨_,rfl,?_⟩;replace HO370:=am (Kd.jP (rq HO370.out) hb);replace BK365:=am (je (g:=gb365) (o:=.cells #[.slice A0_0 l0_0.length c0_0] 37 (0,0)) (kq BK365.out) hb);replace BK366:=am (je (g:=gb366) (o:=.cells #[.slice A1_0 l1_0.length c1_0] 32 (0,0)) (kq BK366.out) hb);replace BK367:=am (je (g:=gb367) (o:=.cells #[.slice none 0 0] 32 (0,0)) (kq BK367.out) hb);replace HB:=am (jl (Y41) hb);(try clear hb);(try clear hb2);(try clear hk);(try clear hi);have hcz35_0:=bc0 BK367.out;have hfz35_0:=jf BK367.out 0))
  refine bodyPost_ret (jsb rfl _ _ gb367 32 #[.slice none 0 0] (0,0) _ rfl (Y180) Try.underlying32 rfl (by kernel_rfl)) rfl ?_
  exact ⟨_,Y2,Y110,Y41⟩
def jg (w0 W : World) (g : Nat) (f0 : List Int) (f1 : Int) : Prop := ∃ A0 c0, W.heap[g]? = some (.cells #[.slice A0 f0.length c0, .int .i64 f1] 106 (0, 0)) ∧ w0.heap.size ≤ g ∧ Kd.C (Kd.int .u8) w0 A0 f0.length f0
theorem jg.grown {w0 W : World} {g : Nat} {f0 : List Int} {f1 : Int} {W1 : World} {row : Option Nat} (h : jg w0 W g f0 f1) (hw : W.grownBy W1 row) (hne : some g ≠ row) : jg w0 W1 g f0 f1 := by
 obtain ⟨A0,c0,hb,hg,hr0⟩:=h
 exact ⟨A0,c0,jia hb hw hne,hg,hr0⟩
theorem jg.kept {w0 W : World} {g : Nat} {f0 : List Int} {f1 : Int} {W1 : World} {S : Nat → Prop} (h : jg w0 W g f0 f1) (hk : Kept W W1 S) (hne : ¬ S g) : jg w0 W1 g f0 f1 := by
 obtain ⟨A0,c0,hb,hg,hr0⟩:=h
 exact ⟨A0,c0,blk_kept hb hk hne,hg,hr0⟩
theorem jg.below {w0 W : World} {g : Nat} {f0 : List Int} {f1 : Int} {W1 : World} (h : jg w0 W g f0 f1) (hw : Below W.heap.size W W1) : jg w0 W1 g f0 f1 := h.grown (grown_of_below hw none) (by simp)
theorem jg.alloc {w0 W : World} {g : Nat} {f0 : List Int} {f1 : Int} (h : jg w0 W g f0 f1) (o : Obj) : jg w0 (W.alloc o) g f0 f1 := h.below (jy (Below.refl _ _) o)
theorem jg.drewN {w0 W : World} {g : Nat} {f0 : List Int} {f1 : Int} (h : jg w0 W g f0 f1) (m : Nat) : jg w0 (W.drewN m) g f0 f1 := h
theorem jg.drew {w0 W : World} {g : Nat} {f0 : List Int} {f1 : Int} (h : jg w0 W g f0 f1) : jg w0 W.drew g f0 f1 := h
theorem jg.at_ {w0 W : World} {g : Nat} {f0 : List Int} {f1 : Int} {w' : World} {m : Nat} (hq : W.drewN m = w') (h : jg w0 W g f0 f1) : jg w0 w' g f0 f1 := by subst hq; exact jg.drewN h m
theorem jg.apart {w0 W : World} {g : Nat} {f0 : List Int} {f1 : Int} {α : Type} {d : Kd α} {e : Nat} {base : Nat} {ok : Nat → Prop} {v : Value} {xs : List α} (h : jg w0 W g f0 f1) (ho : d.R e W base ok v xs) (ht : ∀ q, q ∈ e :: d.E → q ≠ 106) : d.R e W base (fun k => ok k ∧ k ≠ g) v xs := by
 obtain ⟨A0,c0,hb,hg,hr0⟩:=h
 exact Kd.jJ ho hb ht
theorem jg.own_ne {w0 W : World} {g : Nat} {f0 : List Int} {f1 : Int} {α : Type} {d : Kd α} {e : Nat} {base : Nat} {ok : Nat → Prop} {v : Value} {xs : List α} (h : jg w0 W g f0 f1) (ho : d.R e W base ok v xs) (ht : e ≠ 106) : some g ≠ v.ownBlock := by
 obtain ⟨A0,c0,hb,hg,hr0⟩:=h
 exact Kd.R_ne ho hb ht
theorem jg.lt {w0 W : World} {g : Nat} {f0 : List Int} {f1 : Int} (h : jg w0 W g f0 f1) : g < W.heap.size := by
 obtain ⟨A0,c0,hb,hg,hr0⟩:=h
 exact jV hb
theorem jg.ge {w0 W : World} {g : Nat} {f0 : List Int} {f1 : Int} (h : jg w0 W g f0 f1) : w0.heap.size ≤ g := by
 obtain ⟨A0,c0,hb,hg,hr0⟩:=h
 exact hg
theorem jg.ne_blk {w0 W : World} {g : Nat} {f0 : List Int} {f1 : Int} {a : Nat} {cs : Array Value} {t : TypeId} {fr : Nat × Nat} (h : jg w0 W g f0 f1) (hb2 : W.heap[a]? = some (.cells cs t fr)) (ht : t ≠ 106) : g ≠ a := by
 obtain ⟨A0,c0,hb,hg,hr0⟩:=h
 rintro rfl
 rw [hb] at hb2
 injection hb2 with hb2
 injection hb2 with _ ht2
 exact ht ht2.symm
theorem jg.far {w0 W : World} {g : Nat} {f0 : List Int} {f1 : Int} {p : Addr} (h : jg w0 W g f0 f1) (hne : g ≠ p.block) (u : Value) : jg w0 (W.setCell p u) g f0 f1 := by
 obtain ⟨A0,c0,hb,hg,hr0⟩:=h
 exact ⟨A0,c0,jA hb hne u,hg,hr0⟩
theorem cellS106_0 {W : World} {g : Nat} {A0 : Option Addr} {c0 : Nat} {f0 : List Int} {f1 : Int} (h : W.heap[g]? = some (.cells #[.slice A0 f0.length c0, .int .i64 f1] 106 (0, 0))) : W.cell? ⟨g, 0, none⟩ = some (.slice A0 f0.length c0) := (jH h 0).trans rfl
theorem cellS106_1 {W : World} {g : Nat} {A0 : Option Addr} {c0 : Nat} {f0 : List Int} {f1 : Int} (h : W.heap[g]? = some (.cells #[.slice A0 f0.length c0, .int .i64 f1] 106 (0, 0))) : W.cell? ⟨g, 1, none⟩ = some (.int .i64 f1) := (jH h 1).trans rfl
theorem jg.jmb {w0 W : World} {g : Nat} {f0 : List Int} {f1 : Int} (h : jg w0 W g f0 f1) (x : Int) : jg w0 (W.setCell ⟨g, 1, none⟩ (.int .i64 x)) g f0 x := by
 obtain ⟨A0,c0,hb,hg,hr0⟩:=h
 exact ⟨A0,c0,by simpa using blk_set hb 1 (.int .i64 x),hg,hr0⟩
def jlb.f (l0 : List Int) : Option (List Int × Int) := if (l0.length : Int) > 2000 then (if 2000 ≤ (l0.length : Int) then (some (l0.take 2000, 0)) else (none)) else (some (l0, 0))
set_option maxHeartbeats 8000000 in
set_option maxRecDepth 100000 in
theorem jlb.calls (A0 : Option Addr) (c0 : Nat) (l0 : List Int) (r1 : List Int) (r2 : Int) (w0 w : World) (hB : Below w0.heap.size w0 w) (hr0 : Kd.C (Kd.int .u8) w0 A0 l0.length l0) (hc0 : l0.length ≤ c0) (h : jlb.f l0 = some (r1, r2)) :
  Calls Try.prog 56 #[.slice A0 l0.length c0] w fun e w'=>∃ g_:Nat,e=.returned (.pointer (some ⟨g_,0,none⟩))∧jg w0 w' g_ r1 r2∧Below w0.heap.size w0 w'∧Below w.heap.size w w':=by
 have hu106:=Try.underlying106
 have HR0:=am hr0
 have HC0:=am hc0
 clear hr0 hc0
 have HBW:=am (Below.refl w.heap.size w)
 have HW0:=am hB.size
 have HB:=am hB
 clear hB
 have H:(if (l0.length:Int) > 2000 then (if 2000≤(l0.length:Int) then (some (l0.take 2000,0)) else (none)) else (some (l0,0)))=some (r1,r2):=h
 clear h
 by_cases c2:(l0.length:Int) > 2000
 ·rw [if_pos c2] at H
  have c2b0:decide (2000<(l0.length:Int))=true:=dzT c2
  have c2b1:decide (2000<l0.length)=true:=dzT (by omega)
  clear c2
  by_cases c3:2000≤(l0.length:Int)
  ·rw [if_pos c3] at H
   have c3b0:=ezT c3
   have c3b1:decide (2000≤(l0.length:Int))=true:=dzT c3
   clear c3
   simp only [Option.some.injEq,Prod.mk.injEq] at H
   obtain ⟨rfl,rfl⟩:=H
   obtain ⟨i04,hi04,_,hsz4,_⟩:=info_parts info5
   obtain ⟨hcut4,hA4,hC4⟩:=print_take_of (P:=Try.prog) (Value.int .u8) 0 49 5 .i64 Try.underlying49 hi04 hsz4 A0 c0 l0 2000 (by omega) (ozD (uq)) HC0.out
   have HR474:=am (Kd.C_of_reads (h1:=fun _=>rfl) (hA4 _ (Kd.reads_of_C HR0.out)))
   have HC474:=am hC4
   clear hA4 hC4 hi04 hsz4
   go_enter Try.func56,Try.ntmps56
   go_wp2_with (first |((with_reducible refine jI (N:=10) rfl ?_);refine bE (N:=10) (cs:=#[.slice A0 (l0.take 2000).length c0, .int .i64 0]) (t:=106) ?_;intro gb475 hg w5 hbox hb;have BK475:=am (hbox);have GW475:=am ((Y111:w.heap.size≤gb475));have GE475:=am ((Nat.le_trans HW0.out (Y111:w.heap.size≤gb475):w0.heap.size≤gb475));replace HBW:=am (jl HBW.out hb);replace HB:=am (jl (bq) hb);clear hb hbox hg))
   go_ret
   exact ⟨_,rfl,(show jg w0 _ gb475 (l0.take 2000) 0 from ⟨_,_,kq BK475.out,GE475.out,HR474.out⟩),by repeat (first |(with_reducible first | exact HB.out | apply jy | apply jo | apply jr | refine jk ?_ GE475.out) | exact HB.out),by repeat (first |(with_reducible first | exact HBW.out | apply jy | apply jo | apply jr | refine jk ?_ GW475.out) | exact HBW.out)⟩
  ·rw [if_neg c3] at H
   exact absurd H (by simp)
 ·rw [if_neg c2] at H
  have c2b0:decide (2000<(l0.length:Int))=false:=dzF c2
  have c2b1:decide (2000<l0.length)=false:=dzF (by omega)
  clear c2
  simp only [Option.some.injEq,Prod.mk.injEq] at H
  obtain ⟨rfl,rfl⟩:=H
  go_enter Try.func56,Try.ntmps56
  go_wp2_with (first |((with_reducible refine jI (N:=10) rfl ?_);refine bE (N:=10) (cs:=#[.slice A0 l0.length c0, .int .i64 0]) (t:=106) ?_;intro gb476 hg w6 hbox hb;have BK476:=am (hbox);have GW476:=am ((Y111:w.heap.size≤gb476));have GE476:=am ((Nat.le_trans HW0.out (Y111:w.heap.size≤gb476):w0.heap.size≤gb476));replace HBW:=am (jl HBW.out hb);replace HB:=am (jl (bq) hb);clear hb hbox hg))
  go_ret
  exact ⟨_,rfl,(show jg w0 _ gb476 l0 0 from ⟨_,_,kq BK476.out,GE476.out,HR0.out⟩),by repeat (first |(with_reducible first | exact HB.out | apply jy | apply jo | apply jr | refine jk ?_ GE476.out) | exact HB.out),by repeat (first |(with_reducible first | exact HBW.out | apply jy | apply jo | apply jr | refine jk ?_ GW476.out) | exact HBW.out)⟩
def jq.j0 : Nat → Int → Bool → List Int → Int → Option (Int × Int)
 | 0,_,_,_,_=>none
 | k+1,x1,x24,x1000,x1001=>if x24=true then (some (0,x1001)) else (if (wrap64 (x1001 - 1))<(x1000.length:Int) then (if 0≤(wrap64 (x1001 - 1)) then (if x1=0 then (none) else (some (Int.tmod (wrap64 (rd x1000 (wrap64 (x1001 - 1)))) x1,x1001))) else (none)) else (if (x1000.length:Int)=0 then (none) else (if 0≤(Int.tmod (wrap64 (x1001 - 1)) (x1000.length:Int)) then (if (Int.tmod (wrap64 (x1001 - 1)) (x1000.length:Int))<(x1000.length:Int) then (if 0≤(Int.tmod (wrap64 ((wrap64 ((wrap64 (x1001 - 1)) * 7))+3)) (x1000.length:Int)) then (if (Int.tmod (wrap64 ((wrap64 ((wrap64 (x1001 - 1)) * 7))+3)) (x1000.length:Int))<(x1000.length:Int) then (if x1=0 then (none) else (some (Int.tmod (Go.bits .xor .i64 (wrap64 ((wrap64 ((wrap64 ((wrap64 ((wrap64 (rd x1000 (Int.tmod (wrap64 (x1001 - 1)) (x1000.length:Int)))) * 131))+(wrap64 ((wrap64 (rd x1000 (Int.tmod (wrap64 ((wrap64 ((wrap64 (x1001 - 1)) * 7))+3)) (x1000.length:Int)))) * 1117))))+(wrap64 ((wrap64 (x1001 - 1)) * 29))))+(wrap64 ((wrap64 (Int.tdiv (wrap64 (x1001 - 1)) (x1000.length:Int))) * 53)))) (wrap64 (Int.tdiv (wrap64 ((wrap64 ((wrap64 ((wrap64 ((wrap64 (rd x1000 (Int.tmod (wrap64 (x1001 - 1)) (x1000.length:Int)))) * 131))+(wrap64 ((wrap64 (rd x1000 (Int.tmod (wrap64 ((wrap64 ((wrap64 (x1001 - 1)) * 7))+3)) (x1000.length:Int)))) * 1117))))+(wrap64 ((wrap64 (x1001 - 1)) * 29))))+(wrap64 ((wrap64 (Int.tdiv (wrap64 (x1001 - 1)) (x1000.length:Int))) * 53)))) 64))) x1,x1001))) else (none)) else (none)) else (none)) else (none))))
def jq.f (k : Nat) (s0_0 : List Int) (s0_1 : Int) (a1 : Int) : Option (Int × Int) := if a1 < 1 then (jq.j0 k a1 true s0_0 (wrap64 (s0_1 + 1))) else (jq.j0 k a1 ((s0_0.length : Int) == 0) s0_0 (wrap64 (s0_1 + 1)))
set_option maxHeartbeats 8000000 in
set_option maxRecDepth 100000 in
theorem jq.calls (k : Nat) (g : Nat) (s0_0 : List Int) (s0_1 : Int) (a1 : Int) (r1 : Int) (r2 : Int) (w0 w : World) (hI : jg w0 w g s0_0 s0_1) (hB : Below w0.heap.size w0 w) (h : jq.f k s0_0 s0_1 a1 = some (r1, r2)) :
  Calls Try.prog 88 #[.pointer (some ⟨g,0,none⟩), .int .i64 a1] w fun e w'=>e=.returned (.int .i64 r1)∧jg w0 w' g s0_0 r2∧Below w0.heap.size w0 w'∧jh w w' g none:=by
 have HI0:=am hI
 have HK:=am (jh.refl w g none)
 have HL:=am hB.size
 clear hI
 have HW0:=am hB.size
 have HB:=am hB
 clear hB
 have H:(if a1<1 then (jq.j0 k a1 true s0_0 (wrap64 (s0_1+1))) else (jq.j0 k a1 ((s0_0.length:Int) == 0) s0_0 (wrap64 (s0_1+1))))=some (r1,r2):=h
 clear h
 have HC3:=am H
 clear H
 obtain ⟨ASz4_0,cSz4_0,HGz4,hgz4,HSz4_0⟩:=HI0.out
 have hcz4_0:=cellS106_0 HGz4
 have hcz4_1:=cellS106_1 HGz4
 have hfz4_1:=jf HGz4 1
 clear HGz4 hgz4
 go_enter Try.func88,Try.ntmps88
 go_upto_region 2 with (fail)
 repeat (go_quiet (fail);go_upto_region 2 with (fail))
 go_cut [24] (fun v24 wc=>∃ (kq:Nat) (x24_2:Bool),v24=.bool x24_2∧jw (jq.j0 kq a1 x24_2 s0_0 (wrap64 (s0_1+1))=some (r1,r2))∧jw (kq≤k)∧jw (jg w0 wc g s0_0 (wrap64 (s0_1+1)))∧jw (jh w wc g none)∧jw (Below w0.heap.size w0 wc))
 case first =>
  have H:=HC3.out
  clear HC3
  by_cases c5:a1<1
  ·rw [if_pos c5] at H
   have c5b0:decide (a1<1)=true:=dzT c5
   clear c5
   (first | rw [c5b0] |(simp only [jjb,job];rw [c5b0]) | skip)
   have H':=am H
   clear H
   go_wp2
   repeat (go_quiet (fail);try go_wp2)
   go_meet
   case rel=>exact ⟨_,(true),(sq),H',⟨Y45⟩,⟨Y15⟩,⟨Y16⟩,⟨Y17⟩⟩
  ·rw [if_neg c5] at H
   have c5b0:decide (a1<1)=false:=dzF c5
   clear c5
   (first | rw [c5b0] |(simp only [jjb,job];rw [c5b0]) | skip)
   have H':=am H
   clear H
   obtain ⟨ASz6_0,cSz6_0,HGz6,hgz6,HSz6_0⟩:=HI0.out
   have hcz6_0:=cellS106_0 HGz6
   have hcz6_1:=cellS106_1 HGz6
   have hfz6_1:=jf HGz6 1
   clear HGz6 hgz6
   go_wp2
   repeat (go_quiet (fail);try go_wp2)
   go_meet
   case rel=>exact ⟨_,(((s0_0.length:Int) == 0)),(sq),H',⟨Y45⟩,⟨Y15⟩,⟨Y16⟩,⟨Y17⟩⟩
 case rest =>
  clear HC3
  try clear p2
  try clear c5
  try clear c5b0
  try clear p6
  try clear hcz4_0
  try clear hcz4_1
  try clear hcz6_0
  try clear hcz6_1
  try clear hfz4_1
  try clear hfz6_1
  obtain ⟨kq,x24_2,rfl,HA,HJ2,HI0,HK,HB⟩:=hcut
  cases kq with
  | zero=>exact absurd HA.out (by simp [jq.j0])
  | succ kj2 =>
   have H:=HA.out
   clear HA
   simp only [jq.j0] at H
   by_cases c7:x24_2=true
   ·subst c7
    have H1:(some (0,(wrap64 (s0_1+1))))=some (r1,r2):=by rw [if_pos rfl] at H;exact H
    clear H
    have H:=H1
    clear H1
    simp only [Option.some.injEq,Prod.mk.injEq] at H
    obtain ⟨rfl,rfl⟩:=H
    go_wp2
    repeat (go_quiet (fail);try go_wp2)
    go_ret
    exact ⟨Y2,Y15,Y17,Y16⟩
   ·replace c7:=Bool.eq_false_iff.mpr c7
    subst c7
    have H1:(if (wrap64 ((wrap64 (s0_1+1)) - 1))<(s0_0.length:Int) then (if 0≤(wrap64 ((wrap64 (s0_1+1)) - 1)) then (if a1=0 then (none) else (some (Int.tmod (wrap64 (rd s0_0 (wrap64 ((wrap64 (s0_1+1)) - 1)))) a1,(wrap64 (s0_1+1))))) else (none)) else (if (s0_0.length:Int)=0 then (none) else (if 0≤(Int.tmod (wrap64 ((wrap64 (s0_1+1)) - 1)) (s0_0.length:Int)) then (if (Int.tmod (wrap64 ((wrap64 (s0_1+1)) - 1)) (s0_0.length:Int))<(s0_0.length:Int) then (if 0≤(Int.tmod (wrap64 ((wrap64 ((wrap64 ((wrap64 (s0_1+1)) - 1)) * 7))+3)) (s0_0.length:Int)) then (if (Int.tmod (wrap64 ((wrap64 ((wrap64 ((wrap64 (s0_1+1)) - 1)) * 7))+3)) (s0_0.length:Int))<(s0_0.length:Int) then (if a1=0 then (none) else (some (Int.tmod (Go.bits .xor .i64 (wrap64 ((wrap64 ((wrap64 ((wrap64 ((wrap64 (rd s0_0 (Int.tmod (wrap64 ((wrap64 (s0_1+1)) - 1)) (s0_0.length:Int)))) * 131))+(wrap64 ((wrap64 (rd s0_0 (Int.tmod (wrap64 ((wrap64 ((wrap64 ((wrap64 (s0_1+1)) - 1)) * 7))+3)) (s0_0.length:Int)))) * 1117))))+(wrap64 ((wrap64 ((wrap64 (s0_1+1)) - 1)) * 29))))+(wrap64 ((wrap64 (Int.tdiv (wrap64 ((wrap64 (s0_1+1)) - 1)) (s0_0.length:Int))) * 53)))) (wrap64 (Int.tdiv (wrap64 ((wrap64 ((wrap64 ((wrap64 ((wrap64 (rd s0_0 (Int.tmod (wrap64 ((wrap64 (s0_1+1)) - 1)) (s0_0.length:Int)))) * 131))+(wrap64 ((wrap64 (rd s0_0 (Int.tmod (wrap64 ((wrap64 ((wrap64 ((wrap64 (s0_1+1)) - 1)) * 7))+3)) (s0_0.length:Int)))) * 1117))))+(wrap64 ((wrap64 ((wrap64 (s0_1+1)) - 1)) * 29))))+(wrap64 ((wrap64 (Int.tdiv (wrap64 ((wrap64 (s0_1+1)) - 1)) (s0_0.length:Int))) * 53)))) 64))) a1,(wrap64 (s0_1+1))))) else (none)) else (none)) else (none)) else (none))))=some (r1,r2):=by rw [if_neg (show ¬ (false=true) by decide)] at H;exact H
    clear H
    have H:=H1
    clear H1
    by_cases c8:(wrap64 ((wrap64 (s0_1+1)) - 1))<(s0_0.length:Int)
    ·rw [if_pos c8] at H
     have c8b0:decide ((wrap64 ((wrap64 (s0_1+1)) - 1))<(s0_0.length:Int))=true:=dzT c8
     clear c8
     obtain ⟨ji9,hji9⟩:∃ j_:Int,(wrap64 ((wrap64 (s0_1+1)) - 1))=j_:=⟨_,rfl⟩
     replace H:(if 0≤(ji9) then (if a1=0 then (none) else (some (Int.tmod (wrap64 (rd s0_0 (ji9))) a1,(wrap64 (s0_1+1))))) else (none))=some (r1,r2):=by first |(rw [hji9] at H;exact H) |(simp only [hji9] at H ⊢;exact H)
     (try rw [hji9] at c8b0)
     have hji9w:(IntKind.i64.wrap ((wrap64 (s0_1+1)) - 1))=ji9:=(jjb _).trans hji9
     by_cases c10:0≤(ji9)
     ·rw [if_pos c10] at H
      have c10b0:decide (0≤(ji9))=true:=dzT c10
      clear c10
      by_cases c11:a1=0
      ·rw [if_pos c11] at H
       exact absurd H (by simp)
      ·rw [if_neg c11] at H
       have c11b0:(a1 == 0)=false:=beq_eq_false_iff_ne.mpr c11
       have c11b1:(a1 != 0)=true:=bne_iff_ne.mpr c11
       simp only [Option.some.injEq,Prod.mk.injEq] at H
       obtain ⟨rfl,rfl⟩:=H
       obtain ⟨ASz12_0,cSz12_0,HGz12,hgz12,HSz12_0⟩:=HI0.out
       have hcz12_0:=cellS106_0 HGz12
       have hcz12_1:=cellS106_1 HGz12
       have hfz12_1:=jf HGz12 1
       clear HGz12 hgz12
       have p477:0≤((ji9):Int):=ozD (uq)
       have q477:(ji9)<(s0_0.length:Int):=ozD (uq)
       obtain ⟨ad477,e477,hx477_0⟩:=Kd.jOb HSz12_0 (ji9) p477 q477
       cases e477
       replace hx477_0:=jDa HB.out hx477_0
       replace p477:=ezT p477
       replace q477:=ezT q477
       go_wp2
       repeat (go_quiet (fail);try go_wp2)
       go_ret
       exact ⟨by first | rfl |(simp [jzb,jyb] <;> rfl) |(simp only [← hji9];first | rfl |(simp [jzb,jyb] <;> rfl)) |(simp [*,jzb,jyb] <;> rfl),Y15,Y17,Y16⟩
     ·rw [if_neg c10] at H
      exact absurd H (by simp)
    ·rw [if_neg c8] at H
     have c8b0:decide ((wrap64 ((wrap64 (s0_1+1)) - 1))<(s0_0.length:Int))=false:=dzF c8
     clear c8
     by_cases c13:(s0_0.length:Int)=0
     ·rw [if_pos c13] at H
      exact absurd H (by simp)
     ·rw [if_neg c13] at H
      have c13b0:((s0_0.length:Int) == 0)=false:=beq_eq_false_iff_ne.mpr c13
      have c13b1:((s0_0.length:Int) != 0)=true:=bne_iff_ne.mpr c13
      have c13b2:¬ (s0_0=[]):=fun h_=>c13 (by rw [h_];rfl)
      obtain ⟨ji14,hji14⟩:∃ j_:Int,(Int.tmod (wrap64 ((wrap64 (s0_1+1)) - 1)) (s0_0.length:Int))=j_:=⟨_,rfl⟩
      replace H:(if 0≤(ji14) then (if (ji14)<(s0_0.length:Int) then (if 0≤(Int.tmod (wrap64 ((wrap64 ((wrap64 ((wrap64 (s0_1+1)) - 1)) * 7))+3)) (s0_0.length:Int)) then (if (Int.tmod (wrap64 ((wrap64 ((wrap64 ((wrap64 (s0_1+1)) - 1)) * 7))+3)) (s0_0.length:Int))<(s0_0.length:Int) then (if a1=0 then (none) else (some (Int.tmod (Go.bits .xor .i64 (wrap64 ((wrap64 ((wrap64 ((wrap64 ((wrap64 (rd s0_0 (ji14))) * 131))+(wrap64 ((wrap64 (rd s0_0 (Int.tmod (wrap64 ((wrap64 ((wrap64 ((wrap64 (s0_1+1)) - 1)) * 7))+3)) (s0_0.length:Int)))) * 1117))))+(wrap64 ((wrap64 ((wrap64 (s0_1+1)) - 1)) * 29))))+(wrap64 ((wrap64 (Int.tdiv (wrap64 ((wrap64 (s0_1+1)) - 1)) (s0_0.length:Int))) * 53)))) (wrap64 (Int.tdiv (wrap64 ((wrap64 ((wrap64 ((wrap64 ((wrap64 (rd s0_0 (ji14))) * 131))+(wrap64 ((wrap64 (rd s0_0 (Int.tmod (wrap64 ((wrap64 ((wrap64 ((wrap64 (s0_1+1)) - 1)) * 7))+3)) (s0_0.length:Int)))) * 1117))))+(wrap64 ((wrap64 ((wrap64 (s0_1+1)) - 1)) * 29))))+(wrap64 ((wrap64 (Int.tdiv (wrap64 ((wrap64 (s0_1+1)) - 1)) (s0_0.length:Int))) * 53)))) 64))) a1,(wrap64 (s0_1+1))))) else (none)) else (none)) else (none)) else (none))=some (r1,r2):=by first |(rw [hji14] at H;exact H) |(simp only [hji14] at H ⊢;exact H)
      by_cases c15:0≤(ji14)
      ·rw [if_pos c15] at H
       have c15b0:decide (0≤(ji14))=true:=dzT c15
       clear c15
       by_cases c16:(ji14)<(s0_0.length:Int)
       ·rw [if_pos c16] at H
        have c16b0:decide ((ji14)<(s0_0.length:Int))=true:=dzT c16
        clear c16
        obtain ⟨ji17,hji17⟩:∃ j_:Int,(Int.tmod (wrap64 ((wrap64 ((wrap64 ((wrap64 (s0_1+1)) - 1)) * 7))+3)) (s0_0.length:Int))=j_:=⟨_,rfl⟩
        replace H:(if 0≤(ji17) then (if (ji17)<(s0_0.length:Int) then (if a1=0 then (none) else (some (Int.tmod (Go.bits .xor .i64 (wrap64 ((wrap64 ((wrap64 ((wrap64 ((wrap64 (rd s0_0 (ji14))) * 131))+(wrap64 ((wrap64 (rd s0_0 (ji17))) * 1117))))+(wrap64 ((wrap64 ((wrap64 (s0_1+1)) - 1)) * 29))))+(wrap64 ((wrap64 (Int.tdiv (wrap64 ((wrap64 (s0_1+1)) - 1)) (s0_0.length:Int))) * 53)))) (wrap64 (Int.tdiv (wrap64 ((wrap64 ((wrap64 ((wrap64 ((wrap64 (rd s0_0 (ji14))) * 131))+(wrap64 ((wrap64 (rd s0_0 (ji17))) * 1117))))+(wrap64 ((wrap64 ((wrap64 (s0_1+1)) - 1)) * 29))))+(wrap64 ((wrap64 (Int.tdiv (wrap64 ((wrap64 (s0_1+1)) - 1)) (s0_0.length:Int))) * 53)))) 64))) a1,(wrap64 (s0_1+1))))) else (none)) else (none))=some (r1,r2):=by first |(rw [hji17] at H;exact H) |(simp only [hji17] at H ⊢;exact H)
        by_cases c18:0≤(ji17)
        ·rw [if_pos c18] at H
         have c18b0:decide (0≤(ji17))=true:=dzT c18
         clear c18
         by_cases c19:(ji17)<(s0_0.length:Int)
         ·rw [if_pos c19] at H
          have c19b0:decide ((ji17)<(s0_0.length:Int))=true:=dzT c19
          clear c19
          by_cases c20:a1=0
          ·rw [if_pos c20] at H
           exact absurd H (by simp)
          ·rw [if_neg c20] at H
           have c20b0:(a1 == 0)=false:=beq_eq_false_iff_ne.mpr c20
           have c20b1:(a1 != 0)=true:=bne_iff_ne.mpr c20
           simp only [Option.some.injEq,Prod.mk.injEq] at H
           obtain ⟨rfl,rfl⟩:=H
           obtain ⟨ASz21_0,cSz21_0,HGz21,hgz21,HSz21_0⟩:=HI0.out
           have hcz21_0:=cellS106_0 HGz21
           have hcz21_1:=cellS106_1 HGz21
           have hfz21_1:=jf HGz21 1
           clear HGz21 hgz21
           have p478:0≤((ji14):Int):=ozD (uq)
           have q478:(ji14)<(s0_0.length:Int):=ozD (uq)
           obtain ⟨ad478,e478,hx478_0⟩:=Kd.jOb HSz21_0 (ji14) p478 q478
           cases e478
           replace hx478_0:=jDa HB.out hx478_0
           replace p478:=ezT p478
           replace q478:=ezT q478
           have p479:0≤((ji17):Int):=ozD (uq)
           have q479:(ji17)<(s0_0.length:Int):=ozD (uq)
           obtain ⟨ad479,e479,hx479_0⟩:=Kd.jOb HSz21_0 (ji17) p479 q479
           obtain rfl:ad478=ad479:=(by injection e479)
           replace hx479_0:=jDa HB.out hx479_0
           replace p479:=ezT p479
           replace q479:=ezT q479
           go_wp2
           repeat (go_quiet (fail);try go_wp2)
           go_ret
           exact ⟨by first | rfl |(simp [jzb,jyb] <;> rfl) |(simp only [← hji14,← hji17];first | rfl |(simp [jzb,jyb] <;> rfl)) |(simp [*,jzb,jyb] <;> rfl),Y15,Y17,Y16⟩
         ·rw [if_neg c19] at H
          exact absurd H (by simp)
        ·rw [if_neg c18] at H
         exact absurd H (by simp)
       ·rw [if_neg c16] at H
        exact absurd H (by simp)
      ·rw [if_neg c15] at H
       exact absurd H (by simp)
def jE.f (k : Nat) (s0_0 : List Int) (s0_1 : Int) (l1 : List Int) : Option (Int × Int) := (jq.f k s0_0 s0_1 (l1.length : Int)).bind fun bt480 => (if 0 ≤ bt480.1 then (if bt480.1 < (l1.length : Int) then (some (rd l1 bt480.1, bt480.2)) else (none)) else (none))
set_option maxHeartbeats 8000000 in
set_option maxRecDepth 100000 in
theorem jE.calls (k : Nat) (g : Nat) (s0_0 : List Int) (s0_1 : Int) (A1 : Option Addr) (c1 : Nat) (l1 : List Int) (r1 : Int) (r2 : Int) (w0 w : World) (hI : jg w0 w g s0_0 s0_1) (hB : Below w0.heap.size w0 w) (hr1 : Kd.C (Kd.int .i64) w A1 l1.length l1) (hc1 : l1.length ≤ c1) (hf1 : ∀ ad, A1 = some ad → 0 < l1.length → ad.block ≠ g) (h : jE.f k s0_0 s0_1 l1 = some (r1, r2)) :
  Calls Try.prog 89 #[.pointer (some ⟨g,0,none⟩), .slice A1 l1.length c1] w fun e w'=>e=.returned (.int .i64 r1)∧jg w0 w' g s0_0 r2∧Below w0.heap.size w0 w'∧jh w w' g none:=by
 have HR1:=am hr1
 have HC1:=am hc1
 clear hr1 hc1
 have HI0:=am hI
 have HK:=am (jh.refl w g none)
 have HL:=am hB.size
 clear hI
 have HW0:=am hB.size
 have HB:=am hB
 clear hB
 have H:((jq.f k s0_0 s0_1 (l1.length:Int)).bind fun bt480=>(if 0≤bt480.1 then (if bt480.1<(l1.length:Int) then (some (rd l1 bt480.1,bt480.2)) else (none)) else (none)))=some (r1,r2):=h
 clear h
 replace H:=bzS H
 obtain ⟨⟨t480,t481⟩,A30,H⟩:=H
 replace H:(if 0≤t480 then (if t480<(l1.length:Int) then (some (rd l1 t480,t481)) else (none)) else (none))=some (r1,r2):=H
 have A3:=am A30
 clear A30
 by_cases c4:0≤t480
 ·rw [if_pos c4] at H
  have c4b0:decide (0≤t480)=true:=dzT c4
  clear c4
  by_cases c5:t480<(l1.length:Int)
  ·rw [if_pos c5] at H
   have c5b0:decide (t480<(l1.length:Int))=true:=dzT c5
   clear c5
   simp only [Option.some.injEq,Prod.mk.injEq] at H
   obtain ⟨rfl,rfl⟩:=H
   go_enter Try.func89,Try.ntmps89
   go_wp2_with (first |((with_reducible refine jC (f:=88) rfl ?_);refine gL (some 9) Try.func88 #[.pointer (some ⟨g,0,none⟩), .int .i64 (l1.length:Int)] ?_;(with_reducible refine (jq.calls k g s0_0 s0_1 (l1.length:Int) t480 t481 w0 _ ?side1 ?side2 A3.out).mono ?_);(case side1=>exact Y15);(case side2=>exact Y17);rintro e w6 ⟨rfl,hi,hb,hk⟩;refine ⟨_,rfl,?_⟩;replace HK:=am (jh.trans (Y16) hk (.inl rfl));replace HB:=am (hb);replace HI0:=am (hi);(try clear hb);(try clear hb2);(try clear hk);(try clear hi);have p482:0≤(t480:Int):=ozD (uq);have q482:t480<(l1.length:Int):=ozD (uq);obtain ⟨ad482,e482,hx482_0⟩:=Kd.jOb HR1.out t480 p482 q482;cases e482;replace hx482_0:=keep_cell HK.out hx482_0 (by first |(rw [add_block];exact hf1 _ rfl (by omega)) | exact hf1 _ rfl (by omega) | exact hf1 ad482 rfl (by omega));replace p482:=ezT p482;replace q482:=ezT q482))
   go_ret
   exact ⟨Y2,Y15,Y17,Y16⟩
  ·rw [if_neg c5] at H
   exact absurd H (by simp)
 ·rw [if_neg c4] at H
  exact absurd H (by simp)
def jIa.f (l0_0 : List (S54)) : Option ((List (S54))) := (some (([] : List (S54)) : List (S54))).bind fun y485 => (if y485.length + l0_0.length < 3518437208883 then (some (y485 ++ l0_0)) else (none))
set_option maxHeartbeats 8000000 in
set_option maxRecDepth 100000 in
theorem jIa.calls (A0_0 : Option Addr) (c0_0 : Nat) (l0_0 : List (S54)) (r : List (S54)) (w : World) (hr0_0 : Kd.C k54 w A0_0 l0_0.length l0_0) (hc0_0 : l0_0.length ≤ c0_0) (h : jIa.f l0_0 = some r) :
  Calls Try.prog 67 #[.agg #[.slice A0_0 l0_0.length c0_0]] w fun e w'=>∃ v0_:Value,e=.returned (.agg #[v0_])∧Kd.R k54 54 w' w.heap.size (fun _=>True) v0_ r∧Below w.heap.size w w':=by
 have hu32:=Try.underlying32
 have HR0_0:=am hr0_0
 have HC0_0:=am hc0_0
 clear hr0_0 hc0_0
 have HB:=am (Below.refl w.heap.size w)
 have H:((some (([]:List (S54)):List (S54))).bind fun y485=>(if y485.length+l0_0.length<3518437208883 then (some (y485 ++ l0_0)) else (none)))=some r:=h
 clear h
 obtain ⟨y485,hy485⟩:∃ y_:List (S54),y_=(([]:List (S54))):=⟨_,rfl⟩
 replace H:(if y485.length+l0_0.length<3518437208883 then (some (y485 ++ l0_0)) else (none))=some r:=by first |(rw [hy485];with_reducible exact H) |(have H2_:=(Option.bind_some _ _).symm.trans H;rw [hy485];with_reducible exact H2_) |(have H2_:=(Option.bind_some _ _).symm.trans H;with_reducible exact H2_) | with_reducible exact H |(rw [hy485];exact H) | exact H
 have Ny485:=am hy485
 clear hy485
 by_cases c2:y485.length+l0_0.length<3518437208883
 ·rw [if_pos c2] at H
  have LMc2:=am c2
  clear c2
  obtain ⟨y488,hy488⟩:∃ y_:List (S54),y_=(y485 ++ l0_0):=⟨_,rfl⟩
  replace H:(some y488)=some r:=by first |(rw [hy488];with_reducible exact H) |(have H2_:=(Option.bind_some _ _).symm.trans H;rw [hy488];with_reducible exact H2_) |(have H2_:=(Option.bind_some _ _).symm.trans H;with_reducible exact H2_) | with_reducible exact H |(rw [hy488];exact H) | exact H
  have Ny488:=am hy488
  clear hy488
  obtain rfl:=Option.some.inj H
  go_enter Try.func67,Try.ntmps67
  go_wp2_with (first |((with_reducible refine jI (N:=1) rfl ?_);refine bE (N:=1) (cs:=#[.slice A0_0 l0_0.length c0_0]) (t:=32) ?_;intro gb483 hg w3 hbox hb;have BK483:=am (hbox);have GW483:=am ((Y1:w.heap.size≤gb483));have GE483:=am ((Y1:w.heap.size≤gb483));replace HB:=am (jl (bq) hb);clear hb hbox hg) |((with_reducible refine jI (N:=2) rfl ?_);refine bE (N:=2) (cs:=#[.slice none 0 0]) (t:=32) ?_;intro gb484 hg w4 hbox hb;have BK484:=am (hbox);have GW484:=am ((Y181:w.heap.size≤gb484));have GE484:=am ((Y181:w.heap.size≤gb484));have NB483_484:=am ((by rw [hg];exact Nat.ne_of_lt (jV (g:=gb483) (o:=.cells #[.slice A0_0 l0_0.length c0_0] 32 (0,0)) (kq BK483.out)):gb483≠gb484));have NB484_483:=am ((by rw [hg];exact Nat.ne_of_gt (jV (g:=gb483) (o:=.cells #[.slice A0_0 l0_0.length c0_0] 32 (0,0)) (kq BK483.out)):gb484≠gb483));replace BK483:=am (je (g:=gb483) (o:=.cells #[.slice A0_0 l0_0.length c0_0] 32 (0,0)) (kq BK483.out) hb);replace HB:=am (jl (by repeat (first |(with_reducible first | exact HB.out | apply jy | apply jo | apply jr | refine jk ?_ GE483.out) | exact HB.out)) hb);clear hb hbox hg) |((with_reducible refine jI (N:=3) rfl ?_);refine Kd.R_lit k54 _ 54 ?hg (N:=3) ?hd (xs:=([]:List (S54))) (inner:=[]) (ok:=fun _=>True) (okp:=fun _=>True) ?hr ?hp (fun _ hk=>hk) trivial (Below.refl _ _) (Nat.le_refl _) (by simp) ?_;(case hd=>rfl);(case hg=>rfl);(case hr=>exact Y4);(case hp=>exact (Reps.none _ _));intro v486 w5 ho6 hb hg_ hnew_;clear hg_ hnew_;(first | rw [← Ny485.out] at ho6 |(simp only [Int.reduceToNat] at ho6;rw [← Ny485.out] at ho6));have HO487:=am (Kd.jla ho6 (jQ (Y91)));replace BK483:=am (je (g:=gb483) (o:=.cells #[.slice A0_0 l0_0.length c0_0] 32 (0,0)) (kq BK483.out) hb);replace BK484:=am (je (g:=gb484) (o:=.cells #[.slice none 0 0] 32 (0,0)) (kq BK484.out) hb);replace HB:=am (jl (Y91) hb);clear hb ho6;have hnb7:=NB483_484.out;have hnc7:=NB484_483.out;have hcz8_0:=bc0 BK483.out;have hfz8_0:=jf BK483.out 0) |((with_reducible refine jkb (b:=.append) (xs:=#[.tmp 3, .tmp 5]) rfl ?_);at_builtin;refine Kd.R_append_rows k54 (w0:=w) w.heap.size rfl (.tmp 3) (.tmp 5) 30 54 (.agg #[(.int .i64 0),(.int .i64 0),(.int .i64 0),(.int .i64 0),(.bool false)]) 40 rfl Try.underlying30 info54 rfl (by decide) (by omega) v486 y485 l0_0 _ _ _ (fun _=>True) (fun _=>False) rfl rfl ?aO ?aR (fun _ _ h=>h) (fun _ h=>h.elim) ?aF ?aB ?aS ?aL ?_;(case aR=>repeat (first | exact (Kd.jea HR0_0.out HB.out) |(with_reducible refine Kd.C_alloc ?_ _) |(with_reducible refine Kd.C_drewN ?_ _) |(with_reducible refine Kd.C_drew ?_)));(case aB=>exact (Y91));(case aF=>exact (fun _ _=>trivial));(case aO=>exact (rq HO487.out));(case aS=>exact (jQ (Y91)));(case aL=>have:=LMc2.out;omega);intro v489 w9 ho hb hg hat;rw [← Ny488.out] at ho;have n0_:=am (jia (g:=gb483) (o:=.cells #[.slice A0_0 l0_0.length c0_0] 32 (0,0)) (kq BK483.out) hg (Kd.R_ne HO487.out BK483.out (by decide)));have n1_:=am (jia (g:=gb484) (o:=.cells #[.slice none 0 0] 32 (0,0)) (kq BK484.out) hg (Kd.R_ne HO487.out BK484.out (by decide)));have n2_:=am (hb);have n3_:=am (ho);clear BK483 BK484 HB HO487;have BK483:=n0_;have BK484:=n1_;have HB:=n2_;have HO490:=n3_;clear n0_ n1_ n2_ n3_ ho hb hg hat;obtain ⟨Ao10,co10,eo10⟩:=Kd.jaa HO490.out;subst eo10;have hcz11_0:=bc0 BK484.out;have hfz11_0:=jf BK484.out 0))
  refine bodyPost_ret (results_cell_row rfl _ _ gb484 32 #[.slice Ao10 y488.length co10] (0,0) _ rfl (by (with_reducible repeat (first | refine jb ?_ _ | refine jd ?_ | refine jc ?_ _));refine jfa (cs:=#[.slice none 0 0]) ?_ 0 _ rfl;(with_reducible repeat (first | refine jb ?_ _ | refine jd ?_ | refine jc ?_ _));exact BK484.out) Try.underlying32 rfl (by kernel_rfl)) rfl ?_
  exact ⟨_,Y2,by (with_reducible repeat (first | apply Kd.jL | apply Kd.jM | apply Kd.jN));exact Kd.jD (Kd.jX (p:=⟨gb484,0,none⟩) (Kd.jJ HO490.out BK484.out (by decide)) (fun _ hk=>hk.2) (.slice Ao10 y488.length co10)) (fun _ hk=>trivial),Y91⟩
 ·rw [if_neg c2] at H
  exact absurd H (by simp)
def jHb.f (l0_0 : List (S54)) (a1 : Int) (a2 : Int) : Option ((List (S54))) := (jIa.f l0_0).bind fun t493 => (if t493.length < 3518437208883 then (some (t493 ++ [(⟨a1, a2, (-1), (-1), false⟩ : S54)])) else (none))
set_option maxHeartbeats 8000000 in
set_option maxRecDepth 100000 in
theorem jHb.calls (A0_0 : Option Addr) (c0_0 : Nat) (l0_0 : List (S54)) (a1 : Int) (a2 : Int) (r : List (S54)) (w : World) (hr0_0 : Kd.C k54 w A0_0 l0_0.length l0_0) (hc0_0 : l0_0.length ≤ c0_0) (h : jHb.f l0_0 a1 a2 = some r) :
  Calls Try.prog 91 #[.agg #[.slice A0_0 l0_0.length c0_0], .int .i64 a1, .int .i64 a2] w fun e w'=>∃ v0_:Value,e=.returned (.agg #[v0_])∧Kd.R k54 54 w' w.heap.size (fun _=>True) v0_ r∧Below w.heap.size w w':=by
 have hu32:=Try.underlying32
 have hu54:=Try.underlying54
 have HR0_0:=am hr0_0
 have HC0_0:=am hc0_0
 clear hr0_0 hc0_0
 have HB:=am (Below.refl w.heap.size w)
 have H:((jIa.f l0_0).bind fun t493=>(if t493.length<3518437208883 then (some (t493 ++ [(⟨a1,a2,(-1),(-1),false⟩:S54)])) else (none)))=some r:=h
 clear h
 replace H:=bzS H
 obtain ⟨t493,A40,H⟩:=H
 replace H:(if t493.length<3518437208883 then (some (t493 ++ [(⟨a1,a2,(-1),(-1),false⟩:S54)])) else (none))=some r:=H
 have A4:=am A40
 clear A40
 by_cases c5:t493.length<3518437208883
 ·rw [if_pos c5] at H
  have LMc5:=am c5
  clear c5
  obtain ⟨y497,hy497⟩:∃ y_:List (S54),y_=(t493 ++ [(⟨a1,a2,(-1),(-1),false⟩:S54)]):=⟨_,rfl⟩
  replace H:(some y497)=some r:=by first |(rw [hy497];with_reducible exact H) |(have H2_:=(Option.bind_some _ _).symm.trans H;rw [hy497];with_reducible exact H2_) |(have H2_:=(Option.bind_some _ _).symm.trans H;with_reducible exact H2_) | with_reducible exact H |(rw [hy497];exact H) | exact H
  have Ny497:=am hy497
  clear hy497
  obtain rfl:=Option.some.inj H
  go_enter Try.func91,Try.ntmps91
  go_wp2_with (first |((with_reducible refine jI (N:=3) rfl ?_);refine bE (N:=3) (cs:=#[.slice A0_0 l0_0.length c0_0]) (t:=32) ?_;intro gb491 hg w6 hbox hb;have BK491:=am (hbox);have GW491:=am ((Y1:w.heap.size≤gb491));have GE491:=am ((Y1:w.heap.size≤gb491));replace HB:=am (jl (bq) hb);clear hb hbox hg) |((with_reducible refine jI (N:=6) rfl ?_);refine bE (N:=6) (cs:=#[.slice none 0 0]) (t:=32) ?_;intro gb492 hg w7 hbox hb;have BK492:=am (hbox);have GW492:=am ((Y182:w.heap.size≤gb492));have GE492:=am ((Y182:w.heap.size≤gb492));have NB491_492:=am ((by rw [hg];exact Nat.ne_of_lt (jV (g:=gb491) (o:=.cells #[.slice A0_0 l0_0.length c0_0] 32 (0,0)) (kq BK491.out)):gb491≠gb492));have NB492_491:=am ((by rw [hg];exact Nat.ne_of_gt (jV (g:=gb491) (o:=.cells #[.slice A0_0 l0_0.length c0_0] 32 (0,0)) (kq BK491.out)):gb492≠gb491));replace BK491:=am (je (g:=gb491) (o:=.cells #[.slice A0_0 l0_0.length c0_0] 32 (0,0)) (kq BK491.out) hb);replace HB:=am (jl (by repeat (first |(with_reducible first | exact HB.out | apply jy | apply jo | apply jr | refine jk ?_ GE491.out) | exact HB.out)) hb);clear hb hbox hg;have hnb8:=NB491_492.out;have hnc8:=NB492_491.out;have hcz9_0:=bc0 BK491.out;have hfz9_0:=jf BK491.out 0) |((with_reducible refine jC (f:=67) rfl ?_);refine gL (some 9) Try.func67 #[.agg #[.slice A0_0 l0_0.length c0_0]] ?_;(with_reducible refine (jIa.calls _ _ l0_0 t493 _ ?side1 ?side2 A4.out).mono ?_);(case side1=>exact cq (Kd.jea HR0_0.out HB.out));(case side2=>exact HC0_0.out);rintro e w10 ⟨v494,rfl,ho0,hb⟩;refine ⟨_,rfl,?_⟩;have HO495:=am (Kd.jla ho0 (jQ (Y141)));replace BK491:=am (je (g:=gb491) (o:=.cells #[.slice A0_0 l0_0.length c0_0] 32 (0,0)) (kq BK491.out) hb);replace BK492:=am (je (g:=gb492) (o:=.cells #[.slice none 0 0] 32 (0,0)) (kq BK492.out) hb);replace HB:=am (jl (Y141) hb);(try clear hb);(try clear hb2);(try clear hk);(try clear hi);(try clear ho0)) |((with_reducible refine jI (N:=7) rfl ?_);refine bE (N:=7) (cs:=#[.slice none 0 0]) (t:=32) ?_;intro gb496 hg w11 hbox hb;have BK496:=am (hbox);have GW496:=am ((Y183:w.heap.size≤gb496));have GE496:=am ((Y183:w.heap.size≤gb496));have NB491_496:=am ((by rw [hg];exact Nat.ne_of_lt (jV (g:=gb491) (o:=.cells #[.slice A0_0 l0_0.length c0_0] 32 (0,0)) (kq BK491.out)):gb491≠gb496));have NB496_491:=am ((by rw [hg];exact Nat.ne_of_gt (jV (g:=gb491) (o:=.cells #[.slice A0_0 l0_0.length c0_0] 32 (0,0)) (kq BK491.out)):gb496≠gb491));have NB492_496:=am ((by rw [hg];exact Nat.ne_of_lt (jV (g:=gb492) (o:=.cells #[.slice none 0 0] 32 (0,0)) (kq BK492.out)):gb492≠gb496));have NB496_492:=am ((by rw [hg];exact Nat.ne_of_gt (jV (g:=gb492) (o:=.cells #[.slice none 0 0] 32 (0,0)) (kq BK492.out)):gb496≠gb492));replace HO495:=am (Kd.jP (rq HO495.out) hb);replace BK491:=am (je (g:=gb491) (o:=.cells #[.slice A0_0 l0_0.length c0_0] 32 (0,0)) (kq BK491.out) hb);replace BK492:=am (je (g:=gb492) (o:=.cells #[.slice none 0 0] 32 (0,0)) (kq BK492.out) hb);replace HB:=am (jl (Y141) hb);clear hb hbox hg;obtain ⟨Ao12,co12,eo12⟩:=Kd.jaa HO495.out;subst eo12;have hnb13:=NB496_491.out;have hnc13:=NB491_496.out;have hnb14:=NB496_492.out;have hnc14:=NB492_496.out;have hcz15_0:=bc0 BK496.out;have hfz15_0:=jf BK496.out 0) |((with_reducible refine jkb (b:=.append) (xs:=#[.tmp 11, .tmp 15]) rfl ?_);at_builtin;refine Kd.jbc k54 (w0:=w) w.heap.size rfl (.tmp 11) (.tmp 15) 30 54 (.agg #[(.int .i64 0),(.int .i64 0),(.int .i64 0),(.int .i64 0),(.bool false)]) 40 rfl Try.underlying30 info54 rfl (by decide) (by omega) (.slice Ao12 t493.length co12) t493 (⟨a1,a2,(-1),(-1),false⟩:S54) [.int .i64 a1, .int .i64 a2, .int .i64 (-1), .int .i64 (-1), .bool false] (fun _=>True) (fun _=>False) rfl (Y4) ?aP (fun _ hk=>hk.elim) ?aF ?aO ?aB ?aS ?aL ?_;(case aP=>exact jGb _ _ _ (⟨a1,a2,(-1),(-1),false⟩:S54));(case aB=>exact (Y142));(case aF=>exact (fun _ _=>trivial));(case aO=>exact (by (with_reducible repeat (first | apply Kd.jL | apply Kd.jM | apply Kd.jN));exact Kd.jD (Kd.jX (p:=⟨gb496,0,none⟩) (Kd.jJ HO495.out BK496.out (by decide)) (fun _ hk=>hk.2) (.slice Ao12 t493.length co12)) (fun _ hk=>trivial)));(case aS=>exact (jQ (Y142)));(case aL=>have:=LMc5.out;omega);intro v498 w16 ho hb hg hat;rw [← Ny497.out] at ho;have n0_:=am (jia (g:=gb491) (o:=.cells #[.slice A0_0 l0_0.length c0_0] 32 (0,0)) (by (with_reducible repeat (first | refine jb ?_ _ | refine jd ?_ | refine jc ?_ _));refine jA ?_ NB491_496.out _;(with_reducible repeat (first | refine jb ?_ _ | refine jd ?_ | refine jc ?_ _));exact BK491.out) hg (Kd.R_ne HO495.out BK491.out (by decide)));have n1_:=am (jia (g:=gb492) (o:=.cells #[.slice none 0 0] 32 (0,0)) (by (with_reducible repeat (first | refine jb ?_ _ | refine jd ?_ | refine jc ?_ _));refine jA ?_ NB492_496.out _;(with_reducible repeat (first | refine jb ?_ _ | refine jd ?_ | refine jc ?_ _));exact BK492.out) hg (Kd.R_ne HO495.out BK492.out (by decide)));have n2_:=am (jia (g:=gb496) (o:=.cells #[.slice Ao12 t493.length co12] 32 (0,0)) (by (with_reducible repeat (first | refine jb ?_ _ | refine jd ?_ | refine jc ?_ _));refine jfa (cs:=#[.slice none 0 0]) ?_ 0 _ rfl;(with_reducible repeat (first | refine jb ?_ _ | refine jd ?_ | refine jc ?_ _));exact BK496.out) hg (Kd.R_ne HO495.out BK496.out (by decide)));have n3_:=am (hb);have n4_:=am (ho);clear BK491 BK492 BK496 HB HO495;have BK491:=n0_;have BK492:=n1_;have BK496:=n2_;have HB:=n3_;have HO499:=n4_;clear n0_ n1_ n2_ n3_ n4_ ho hb hg hat;obtain ⟨Ao17,co17,eo17⟩:=Kd.jaa HO499.out;subst eo17;have hcz18_0:=bc0 BK496.out;have hfz18_0:=jf BK496.out 0;have hcz19_0:=bc0 BK492.out;have hfz19_0:=jf BK492.out 0))
  refine bodyPost_ret (results_cell_row rfl _ _ gb492 32 #[.slice Ao17 y497.length co17] (0,0) _ rfl (by (with_reducible repeat (first | refine jb ?_ _ | refine jd ?_ | refine jc ?_ _));refine jfa (cs:=#[.slice none 0 0]) ?_ 0 _ rfl;(with_reducible repeat (first | refine jb ?_ _ | refine jd ?_ | refine jc ?_ _));refine jA ?_ NB492_496.out _;(with_reducible repeat (first | refine jb ?_ _ | refine jd ?_ | refine jc ?_ _));exact BK492.out) Try.underlying32 rfl (by kernel_rfl)) rfl ?_
  exact ⟨_,Y2,by (with_reducible repeat (first | apply Kd.jL | apply Kd.jM | apply Kd.jN));exact Kd.jD (Kd.jX (p:=⟨gb492,0,none⟩) (Kd.jX (p:=⟨gb496,0,none⟩) (Kd.jJ (Kd.jJ HO499.out BK496.out (by decide)) BK492.out (by decide)) (fun _ hk=>hk.1.2) (.slice Ao17 y497.length co17)) (fun _ hk=>hk.2) (.slice Ao17 y497.length co17)) (fun _ hk=>trivial),Y142⟩
 ·rw [if_neg c5] at H
  exact absurd H (by simp)
mutual
def jja.j0 : Nat → Int → Int → Bool → List (S54) → Option ((List (S54)))
 | 0,_,_,_,_=>none
 | k+1,x1,x2,x17,x506000=>if x17=true then (some x506000) else (jja.l0 k x1 x2 x2 x506000)
def jja.l0 : Nat → Int → Int → Int → List (S54) → Option ((List (S54)))
 | 0,_,_,_,_=>none
 | k+1,x1,x2,x8,x506000=>if 0≤x8 then (if x8<(x506000.length:Int) then (if ((ja x506000 x8).f3)≥0 then (if ((ja x506000 x8).f3)=x1 then ((some (x506000.set (x8:Int).toNat (⟨(ja x506000 x8).f0,(ja x506000 x8).f1,(ja x506000 x8).f2,(-1),(ja x506000 x8).f4⟩:S54):List (S54))).bind fun y509=>(if 0≤x1 then (if x1<(x506000.length:Int) then (some (y509.set (x1:Int).toNat (⟨(ja y509 x1).f0,(ja y509 x1).f1,(ja y509 x1).f2,x2,(ja y509 x1).f4⟩:S54))) else (none)) else (none))) else (jja.l0 k x1 x2 ((ja x506000 x8).f3) x506000)) else (if 0≤x1 then (if x1<(x506000.length:Int) then (some (x506000.set (x1:Int).toNat (⟨(ja x506000 x1).f0,(ja x506000 x1).f1,(ja x506000 x1).f2,x2,(ja x506000 x1).f4⟩:S54))) else (none)) else (none))) else (none)) else (none)
end
def jja.f (k : Nat) (l0_0 : List (S54)) (a1 : Int) (a2 : Int) : Option ((List (S54))) := (jIa.f l0_0).bind fun t502 => (if a1 = a2 then (jja.j0 k a1 a2 true t502) else (jja.j0 k a1 a2 (decide (a2 < 0)) t502))
set_option maxHeartbeats 8000000 in
set_option maxRecDepth 100000 in
theorem jja.calls (k : Nat) (A0_0 : Option Addr) (c0_0 : Nat) (l0_0 : List (S54)) (a1 : Int) (a2 : Int) (r : List (S54)) (w : World) (hr0_0 : Kd.C k54 w A0_0 l0_0.length l0_0) (hc0_0 : l0_0.length ≤ c0_0) (h : jja.f k l0_0 a1 a2 = some r) :
  Calls Try.prog 92 #[.agg #[.slice A0_0 l0_0.length c0_0], .int .i64 a1, .int .i64 a2] w fun e w'=>∃ v0_:Value,e=.returned (.agg #[v0_])∧Kd.R k54 54 w' w.heap.size (fun _=>True) v0_ r∧Below w.heap.size w w':=by
 have hu32:=Try.underlying32
 have HR0_0:=am hr0_0
 have HC0_0:=am hc0_0
 clear hr0_0 hc0_0
 have HB:=am (Below.refl w.heap.size w)
 have H:((jIa.f l0_0).bind fun t502=>(if a1=a2 then (jja.j0 k a1 a2 true t502) else (jja.j0 k a1 a2 (decide (a2<0)) t502)))=some r:=h
 clear h
 replace H:=bzS H
 obtain ⟨t502,A40,H⟩:=H
 replace H:(if a1=a2 then (jja.j0 k a1 a2 true t502) else (jja.j0 k a1 a2 (decide (a2<0)) t502))=some r:=H
 have A4:=am A40
 clear A40
 have HC5:=am H
 clear H
 go_enter Try.func92,Try.ntmps92
 go_upto_region 2 with (first |((with_reducible refine jI (N:=3) rfl ?_);refine bE (N:=3) (cs:=#[.slice A0_0 l0_0.length c0_0]) (t:=32) ?_;intro gb500 hg w6 hbox hb;have BK500:=am (hbox);have GW500:=am ((Y1:w.heap.size≤gb500));have GE500:=am ((Y1:w.heap.size≤gb500));replace HB:=am (jl (bq) hb);clear hb hbox hg) |((with_reducible refine jI (N:=6) rfl ?_);refine bE (N:=6) (cs:=#[.slice none 0 0]) (t:=32) ?_;intro gb501 hg w7 hbox hb;have BK501:=am (hbox);have GW501:=am ((Y184:w.heap.size≤gb501));have GE501:=am ((Y184:w.heap.size≤gb501));have NB500_501:=am ((by rw [hg];exact Nat.ne_of_lt (jV (g:=gb500) (o:=.cells #[.slice A0_0 l0_0.length c0_0] 32 (0,0)) (kq BK500.out)):gb500≠gb501));have NB501_500:=am ((by rw [hg];exact Nat.ne_of_gt (jV (g:=gb500) (o:=.cells #[.slice A0_0 l0_0.length c0_0] 32 (0,0)) (kq BK500.out)):gb501≠gb500));replace BK500:=am (je (g:=gb500) (o:=.cells #[.slice A0_0 l0_0.length c0_0] 32 (0,0)) (kq BK500.out) hb);replace HB:=am (jl (by repeat (first |(with_reducible first | exact HB.out | apply jy | apply jo | apply jr | refine jk ?_ GE500.out) | exact HB.out)) hb);clear hb hbox hg;have hnb8:=NB500_501.out;have hnc8:=NB501_500.out;have hcz9_0:=bc0 BK500.out;have hfz9_0:=jf BK500.out 0) |((with_reducible refine jC (f:=67) rfl ?_);refine gL (some 10) Try.func67 #[.agg #[.slice A0_0 l0_0.length c0_0]] ?_;(with_reducible refine (jIa.calls _ _ l0_0 t502 _ ?side1 ?side2 A4.out).mono ?_);(case side1=>exact cq (Kd.jea HR0_0.out HB.out));(case side2=>exact HC0_0.out);rintro e w10 ⟨v503,rfl,ho0,hb⟩;refine ⟨_,rfl,?_⟩;have HO504:=am (Kd.jla ho0 (jQ (Y143)));replace BK500:=am (je (g:=gb500) (o:=.cells #[.slice A0_0 l0_0.length c0_0] 32 (0,0)) (kq BK500.out) hb);replace BK501:=am (je (g:=gb501) (o:=.cells #[.slice none 0 0] 32 (0,0)) (kq BK501.out) hb);replace HB:=am (jl (Y143) hb);(try clear hb);(try clear hb2);(try clear hk);(try clear hi);(try clear ho0)) |((with_reducible refine jI (N:=7) rfl ?_);refine bE (N:=7) (cs:=#[.slice none 0 0]) (t:=32) ?_;intro gb505 hg w11 hbox hb;have BK505:=am (hbox);have GW505:=am ((Y185:w.heap.size≤gb505));have GE505:=am ((Y185:w.heap.size≤gb505));have NB500_505:=am ((by rw [hg];exact Nat.ne_of_lt (jV (g:=gb500) (o:=.cells #[.slice A0_0 l0_0.length c0_0] 32 (0,0)) (kq BK500.out)):gb500≠gb505));have NB505_500:=am ((by rw [hg];exact Nat.ne_of_gt (jV (g:=gb500) (o:=.cells #[.slice A0_0 l0_0.length c0_0] 32 (0,0)) (kq BK500.out)):gb505≠gb500));have NB501_505:=am ((by rw [hg];exact Nat.ne_of_lt (jV (g:=gb501) (o:=.cells #[.slice none 0 0] 32 (0,0)) (kq BK501.out)):gb501≠gb505));have NB505_501:=am ((by rw [hg];exact Nat.ne_of_gt (jV (g:=gb501) (o:=.cells #[.slice none 0 0] 32 (0,0)) (kq BK501.out)):gb505≠gb501));replace HO504:=am (Kd.jP (rq HO504.out) hb);replace BK500:=am (je (g:=gb500) (o:=.cells #[.slice A0_0 l0_0.length c0_0] 32 (0,0)) (kq BK500.out) hb);replace BK501:=am (je (g:=gb501) (o:=.cells #[.slice none 0 0] 32 (0,0)) (kq BK501.out) hb);replace HB:=am (jl (Y143) hb);clear hb hbox hg;obtain ⟨Ao12,co12,eo12⟩:=Kd.jaa HO504.out;subst eo12;have hnb13:=NB505_500.out;have hnc13:=NB500_505.out;have hnb14:=NB505_501.out;have hnc14:=NB501_505.out;have hcz15_0:=bc0 BK505.out;have hfz15_0:=jf BK505.out 0))
 (try simp only [Act.put,List.setIfInBounds_toArray,List.set_cons_zero,List.set_cons_succ])
 go_cut [17] (fun v17 wc=>∃ (kq:Nat) (x17_4:Bool),v17=.bool x17_4∧jw (jja.j0 kq a1 a2 x17_4 t502=some r)∧jw (kq≤k)∧jw (Kd.R k54 54 wc w.heap.size (fun _=>True) (.slice Ao12 t502.length co12) t502)∧jw (wc.heap[gb500]?=some (.cells #[(.slice A0_0 l0_0.length c0_0)] 32 (0,0)))∧jw (wc.heap[gb501]?=some (.cells #[(.slice none 0 0)] 32 (0,0)))∧jw (wc.heap[gb505]?=some (.cells #[(.slice Ao12 t502.length co12)] 32 (0,0)))∧jw (Below w.heap.size w wc))
 case first =>
  have H:=HC5.out
  clear HC5
  by_cases c16:a1=a2
  ·rw [if_pos c16] at H
   have c16b0:(a1 == a2)=true:=beq_iff_eq.mpr c16
   have c16b1:(a1 != a2)=false:=bne_eq_false_iff_eq.mpr c16
   clear c16
   (first | rw [c16b0] |(simp only [jjb,job];rw [c16b0]) | skip)
   have H':=am H
   clear H
   go_wp2
   go_meet
   case rel=>exact ⟨_,(true),(sq),H',⟨Y45⟩,⟨by (with_reducible repeat (first | apply Kd.jL | apply Kd.jM | apply Kd.jN));exact Kd.jD (Kd.jX (p:=⟨gb505,0,none⟩) (Kd.jJ HO504.out BK505.out (by decide)) (fun _ hk=>hk.2) (.slice Ao12 t502.length co12)) (fun _ hk=>trivial)⟩,⟨by (with_reducible repeat (first | refine jb ?_ _ | refine jd ?_ | refine jc ?_ _));refine jA ?_ NB500_505.out _;(with_reducible repeat (first | refine jb ?_ _ | refine jd ?_ | refine jc ?_ _));exact BK500.out⟩,⟨by (with_reducible repeat (first | refine jb ?_ _ | refine jd ?_ | refine jc ?_ _));refine jA ?_ NB501_505.out _;(with_reducible repeat (first | refine jb ?_ _ | refine jd ?_ | refine jc ?_ _));exact BK501.out⟩,⟨by (with_reducible repeat (first | refine jb ?_ _ | refine jd ?_ | refine jc ?_ _));refine jfa (cs:=#[.slice none 0 0]) ?_ 0 _ rfl;(with_reducible repeat (first | refine jb ?_ _ | refine jd ?_ | refine jc ?_ _));exact BK505.out⟩,⟨Y57⟩⟩
  ·rw [if_neg c16] at H
   have c16b0:(a1 == a2)=false:=beq_eq_false_iff_ne.mpr c16
   have c16b1:(a1 != a2)=true:=bne_iff_ne.mpr c16
   (first | rw [c16b0] |(simp only [jjb,job];rw [c16b0]) | skip)
   have H':=am H
   clear H
   go_wp2
   go_meet
   case rel=>exact ⟨_,(decide (a2<0)),(sq),H',⟨Y45⟩,⟨by (with_reducible repeat (first | apply Kd.jL | apply Kd.jM | apply Kd.jN));exact Kd.jD (Kd.jX (p:=⟨gb505,0,none⟩) (Kd.jJ HO504.out BK505.out (by decide)) (fun _ hk=>hk.2) (.slice Ao12 t502.length co12)) (fun _ hk=>trivial)⟩,⟨by (with_reducible repeat (first | refine jb ?_ _ | refine jd ?_ | refine jc ?_ _));refine jA ?_ NB500_505.out _;(with_reducible repeat (first | refine jb ?_ _ | refine jd ?_ | refine jc ?_ _));exact BK500.out⟩,⟨by (with_reducible repeat (first | refine jb ?_ _ | refine jd ?_ | refine jc ?_ _));refine jA ?_ NB501_505.out _;(with_reducible repeat (first | refine jb ?_ _ | refine jd ?_ | refine jc ?_ _));exact BK501.out⟩,⟨by (with_reducible repeat (first | refine jb ?_ _ | refine jd ?_ | refine jc ?_ _));refine jfa (cs:=#[.slice none 0 0]) ?_ 0 _ rfl;(with_reducible repeat (first | refine jb ?_ _ | refine jd ?_ | refine jc ?_ _));exact BK505.out⟩,⟨Y57⟩⟩
 case rest =>
  clear HC5
  try clear c1
  try clear p2
  try clear c6
  try clear c8
  try clear c9
  try clear c13
  try clear c14
  try clear c16
  try clear c16b0
  try clear c16b1
  try clear hcz15_0
  try clear hcz9_0
  try clear hfz15_0
  try clear hfz9_0
  obtain ⟨kq,x17_4,rfl,HA,HJ4,HO_506000,BK500,BK501,BK505,HB⟩:=hcut
  cases kq with
  | zero=>exact absurd HA.out (by simp [jja.j0])
  | succ kj4 =>
   have H:=HA.out
   clear HA
   simp only [jja.j0] at H
   by_cases c17:x17_4=true
   ·subst c17
    have H1:(some t502)=some r:=by rw [if_pos rfl] at H;exact H
    clear H
    have H:=H1
    clear H1
    obtain rfl:=Option.some.inj H
    have hnb18:=NB505_500.out
    have hnc18:=NB500_505.out
    have hnb19:=NB505_501.out
    have hnc19:=NB501_505.out
    have hcz20_0:=bc0 BK505.out
    have hfz20_0:=jf BK505.out 0
    have hnb21:=NB501_500.out
    have hnc21:=NB500_501.out
    have hcz22_0:=bc0 BK501.out
    have hfz22_0:=jf BK501.out 0
    go_wp2
    refine bodyPost_ret (results_cell_row rfl _ _ gb501 32 #[.slice Ao12 t502.length co12] (0,0) _ rfl (Y144) Try.underlying32 rfl (by kernel_rfl)) rfl ?_
    exact ⟨_,Y2,by (with_reducible repeat (first | apply Kd.jL | apply Kd.jM | apply Kd.jN));exact Kd.jD (Kd.jX (p:=⟨gb501,0,none⟩) (Kd.jJ HO_506000.out BK501.out (by decide)) (fun _ hk=>hk.2) (.slice Ao12 t502.length co12)) (fun _ hk=>trivial),Y57⟩
   ·replace c17:=Bool.eq_false_iff.mpr c17
    subst c17
    have H1:(jja.l0 kj4 a1 a2 a2 t502)=some r:=by rw [if_neg (show ¬ (false=true) by decide)] at H;exact H
    clear H
    have H:=H1
    clear H1
    have H':=am H
    clear H
    go_wp2
    go_loopg [8] kj4 (fun kq v8 w'=>∃ (x8_2:Int) (x506000_2:List (S54)) (u506000:Value),v8=.int .i64 x8_2∧jw (jja.l0 kq a1 a2 x8_2 x506000_2=some r)∧jw (kq≤kj4)∧jw (Kd.R k54 54 w' w.heap.size (fun _=>True) u506000 x506000_2)∧jw (w'.heap[gb500]?=some (.cells #[(.slice A0_0 l0_0.length c0_0)] 32 (0,0)))∧jw (w'.heap[gb501]?=some (.cells #[(.slice none 0 0)] 32 (0,0)))∧jw (w'.heap[gb505]?=some (.cells #[u506000] 32 (0,0)))∧jw (Below w.heap.size w w'))
    case atStart=>exact ⟨(a2),(t502),(.slice Ao12 t502.length co12),(sq),H',⟨Nat.le_refl _⟩,⟨rq HO_506000.out⟩,⟨kq BK500.out⟩,⟨kq BK501.out⟩,⟨kq BK505.out⟩,⟨Y57⟩⟩
    case round =>
     clear H'
     try clear c1
     try clear c2
     try clear p2
     try clear c6
     try clear c8
     try clear c9
     try clear c13
     try clear c14
     try clear c16
     try clear c16b0
     try clear c16b1
     try clear c17
     try clear c18
     try clear c19
     try clear c21
     try clear hcz15_0
     try clear hcz20_0
     try clear hcz22_0
     try clear hcz9_0
     try clear hfz15_0
     try clear hfz20_0
     try clear hfz22_0
     try clear hfz9_0
     try clear p2
     obtain ⟨x8_2,x506000_2,u506000,rfl,HA,HK2,HO_506000,BK500,BK501,BK505,HB⟩:=hrel
     cases gk with
     | zero=>exact absurd HA.out (by simp [jja.l0])
     | succ k2 =>
      have H:=HA.out
      clear HA
      simp only [jja.l0] at H
      by_cases c23:0≤x8_2
      ·rw [if_pos c23] at H
       have c23b0:decide (0≤x8_2)=true:=dzT c23
       clear c23
       by_cases c24:x8_2<(x506000_2.length:Int)
       ·rw [if_pos c24] at H
        have c24b0:decide (x8_2<(x506000_2.length:Int))=true:=dzT c24
        clear c24
        by_cases c25:((ja x506000_2 x8_2).f3)≥0
        ·rw [if_pos c25] at H
         have c25b0:decide (0≤((ja x506000_2 x8_2).f3))=true:=dzT c25
         clear c25
         by_cases c26:((ja x506000_2 x8_2).f3)=a1
         ·rw [if_pos c26] at H
          have c26b0:(((ja x506000_2 x8_2).f3) == a1)=true:=beq_iff_eq.mpr c26
          have c26b1:(((ja x506000_2 x8_2).f3) != a1)=false:=bne_eq_false_iff_eq.mpr c26
          clear c26
          obtain ⟨y509,hy509⟩:∃ y_:List (S54),y_=(x506000_2.set (x8_2:Int).toNat (⟨(ja x506000_2 x8_2).f0,(ja x506000_2 x8_2).f1,(ja x506000_2 x8_2).f2,(-1),(ja x506000_2 x8_2).f4⟩:S54)):=⟨_,rfl⟩
          replace H:(if 0≤a1 then (if a1<(x506000_2.length:Int) then (some (y509.set (a1:Int).toNat (⟨(ja y509 a1).f0,(ja y509 a1).f1,(ja y509 a1).f2,a2,(ja y509 a1).f4⟩:S54))) else (none)) else (none))=some r:=by first |(rw [hy509];with_reducible exact H) |(have H2_:=(Option.bind_some _ _).symm.trans H;rw [hy509];with_reducible exact H2_) |(have H2_:=(Option.bind_some _ _).symm.trans H;with_reducible exact H2_) | with_reducible exact H |(rw [hy509];exact H) | exact H
          have Ny509:=am hy509
          clear hy509
          by_cases c28:0≤a1
          ·rw [if_pos c28] at H
           have c28b0:decide (0≤a1)=true:=dzT c28
           clear c28
           by_cases c29:a1<(x506000_2.length:Int)
           ·rw [if_pos c29] at H
            have c29b0:decide (a1<(x506000_2.length:Int))=true:=dzT c29
            clear c29
            obtain ⟨y510,hy510⟩:∃ y_:List (S54),y_=(y509.set (a1:Int).toNat (⟨(ja y509 a1).f0,(ja y509 a1).f1,(ja y509 a1).f2,a2,(ja y509 a1).f4⟩:S54)):=⟨_,rfl⟩
            replace H:(some y510)=some r:=by first |(rw [hy510];with_reducible exact H) |(have H2_:=(Option.bind_some _ _).symm.trans H;rw [hy510];with_reducible exact H2_) |(have H2_:=(Option.bind_some _ _).symm.trans H;with_reducible exact H2_) | with_reducible exact H |(rw [hy510];exact H) | exact H
            have Ny510:=am hy510
            clear hy510
            obtain rfl:=Option.some.inj H
            have hnb31:=NB505_500.out
            have hnc31:=NB500_505.out
            have hnb32:=NB505_501.out
            have hnc32:=NB501_505.out
            have hcz33_0:=bc0 BK505.out
            have hfz33_0:=jf BK505.out 0
            obtain ⟨Ao34,co34,eo34⟩:=Kd.jaa HO_506000.out
            subst eo34
            have p506:0≤(x8_2:Int):=ozD (uq)
            have q506:x8_2<(x506000_2.length:Int):=ozD (uq)
            obtain ⟨ad506,e506,hx506_0,hx506_1,hx506_2,hx506_3,hx506_4⟩:=jfb (Kd.jB HO_506000.out).2.2 x8_2 p506 q506
            cases e506
            replace p506:=ezT p506
            replace q506:=ezT q506
            have p508:0≤(x8_2:Int):=ozD (uq)
            have q508:x8_2<(x506000_2.length:Int):=ozD (uq)
            obtain ⟨ad508,e508,hx508_0,hx508_1,hx508_2,hx508_3,hx508_4⟩:=jfb (Kd.jB HO_506000.out).2.2 x8_2 p508 q508
            obtain rfl:ad506=ad508:=(by injection e508)
            replace p508:=ezT p508
            replace q508:=ezT q508
            have p27:0≤(x8_2:Int):=ozD (uq)
            have q27:(x8_2:Int)<((x506000_2.length:Int):Int):=ozD (uq)
            obtain ⟨go27,co27,eo27,gb27,gl27,cl27,HG27⟩:=Kd.R_form HO_506000.out (by omega)
            (first | cases eo27 |(injection eo27 with ea_ en_ ec_;(first | subst ea_ |(injection ea_ with ea_;subst ea_));subst ec_;clear en_))
            have GB27:=am gb27
            have GG27:=am HG27
            clear gb27 gl27 HG27
            (first | simp only [add_plain] at hx506_0 | skip)
            (first | simp only [add_plain] at hx506_1 | skip)
            (first | simp only [add_plain] at hx506_2 | skip)
            (first | simp only [add_plain] at hx506_3 | skip)
            (first | simp only [add_plain] at hx506_4 | skip)
            (first | simp only [add_plain] at hx508_0 | skip)
            (first | simp only [add_plain] at hx508_1 | skip)
            (first | simp only [add_plain] at hx508_2 | skip)
            (first | simp only [add_plain] at hx508_3 | skip)
            (first | simp only [add_plain] at hx508_4 | skip)
            obtain ⟨ce27,hcl27,hM27,hcc27,hfr27⟩:=Kd.jub HO_506000.out z54 (x8_2:Int) p27 q27
            obtain rfl:=jQa hM27
            have hx27_0:wr.cell? ⟨go27,(x8_2:Int).toNat * 5,none⟩=some (.int .i64 ((ja x506000_2 x8_2).f0)):=hcc27 0 _ rfl
            have hx27_1:wr.cell? ⟨go27,(x8_2:Int).toNat * 5+1,none⟩=some (.int .i64 ((ja x506000_2 x8_2).f1)):=hcc27 1 _ rfl
            have hx27_2:wr.cell? ⟨go27,(x8_2:Int).toNat * 5+2,none⟩=some (.int .i64 ((ja x506000_2 x8_2).f2)):=hcc27 2 _ rfl
            have hx27_3:wr.cell? ⟨go27,(x8_2:Int).toNat * 5+3,none⟩=some (.int .i64 ((ja x506000_2 x8_2).f3)):=hcc27 3 _ rfl
            have hx27_4:wr.cell? ⟨go27,(x8_2:Int).toNat * 5+4,none⟩=some (.bool ((ja x506000_2 x8_2).f4)):=hcc27 4 _ rfl
            have hf27_0:wr.frozen? ⟨go27,(x8_2:Int).toNat * 5,none⟩=false:=hfr27 0
            have hf27_1:wr.frozen? ⟨go27,(x8_2:Int).toNat * 5+1,none⟩=false:=hfr27 1
            have hf27_2:wr.frozen? ⟨go27,(x8_2:Int).toNat * 5+2,none⟩=false:=hfr27 2
            have hf27_3:wr.frozen? ⟨go27,(x8_2:Int).toNat * 5+3,none⟩=false:=hfr27 3
            have hf27_4:wr.frozen? ⟨go27,(x8_2:Int).toNat * 5+4,none⟩=false:=hfr27 4
            clear hcl27 hcc27 hfr27 hM27
            replace p27:=ezT p27
            replace q27:=ezT q27
            have HX35:=am (show Kd.R k54 54 wr w.heap.size (fun _=>True) (.slice (some ⟨go27,0,none⟩) x506000_2.length co34) x506000_2 from (rq HO_506000.out))
            obtain ⟨ce35,hcl35,hM35,hcc35,hfr35⟩:=Kd.jub HX35.out z54 (x8_2:Int) (ozD (uq)) (by have h_:(x8_2:Int)<((x506000_2.length:Int):Int):=ozD (uq);first | exact h_ |(have e_:=(Kd.jB HO_506000.out).1;omega) | simpa using h_)
            obtain rfl:=jQa hM35
            have HP35:=Kd.R_seg HX35.out (x8_2:Int) (ozD (uq)) (by have h_:(x8_2:Int)<((x506000_2.length:Int):Int):=ozD (uq);first | exact h_ |(have e_:=(Kd.jB HO_506000.out).1;omega) | simpa using h_) (seg:=[.int .i64 (-1)]) (j:=3) hcl35 hcc35 (show 4≤5 from by decide) (x':=(⟨(ja x506000_2 x8_2).f0,(ja x506000_2 x8_2).f1,(ja x506000_2 x8_2).f2,(-1),(ja x506000_2 x8_2).f4⟩:S54)) (jGb _ _ _ (⟨(ja x506000_2 x8_2).f0,(ja x506000_2 x8_2).f1,(ja x506000_2 x8_2).f2,(-1),(ja x506000_2 x8_2).f4⟩:S54) ) (fun _ hk=>hk)
            have hx35_3:=hcc35 3 _ rfl
            (try simp only [show (k54).sz=5 from rfl,Nat.mul_one,Nat.add_zero] at hx35_3)
            have hf35_3:=hfr35 3
            (try simp only [show (k54).sz=5 from rfl,Nat.mul_one,Nat.add_zero] at hf35_3)
            clear hcl35 hcc35 hfr35 hM35
            go_wp2_with (first |((with_reducible refine jfc (t:=3) (p:=45) rfl ?_);refine jVb (t:=3) (p:=45) (v:=?vo_w36) (w1:=(wr.setCell ⟨go27,(x8_2:Int).toNat * 5+3,none⟩ (.int .i64 (-1)))) ?hg ?ho ?hn ?hr ?_;(case ho=>rfl);(case hg=>rfl);(case hn=>rfl);(case hr=>exact Y4);intro w36 hw;have hg:wr.grownBy w36 (some go27):=(by rw [hw];exact HP35.2);have hp_:Kd.R k54 54 w36 w.heap.size (fun _=>True) (.slice (some ⟨go27,0,none⟩) x506000_2.length co34) y509:=(by rw [hw,Ny509.out];exact HP35.1);clear HP35;replace BK500:=am (jia (g:=gb500) (o:=.cells #[.slice A0_0 l0_0.length c0_0] 32 (0,0)) (kq BK500.out) hg (Kd.R_ne HO_506000.out BK500.out (by decide)));replace BK501:=am (jia (g:=gb501) (o:=.cells #[.slice none 0 0] 32 (0,0)) (kq BK501.out) hg (Kd.R_ne HO_506000.out BK501.out (by decide)));replace BK505:=am (jia (g:=gb505) (o:=.cells #[.slice (some ⟨go27,0,none⟩) x506000_2.length co34] 32 (0,0)) (kq BK505.out) hg (Kd.R_ne HO_506000.out BK505.out (by decide)));replace HO_506000:=am (hp_);replace HB:=am ((by rw [hw];exact jk (HB.out) GB27.out:Below w.heap.size w w36));clear hg hw hp_;have hcz37_0:=bc0 BK505.out;have hfz37_0:=jf BK505.out 0;have p30:0≤(a1:Int):=ozD (uq);have q30:(a1:Int)<((x506000_2.length:Int):Int):=ozD (uq);obtain ⟨ce30,hcl30,hM30,hcc30,hfr30⟩:=Kd.jub HO_506000.out z54 (a1:Int) p30 q30;obtain rfl:=jQa hM30;have hx30_0:w36.cell? ⟨go27,(a1:Int).toNat * 5,none⟩=some (.int .i64 ((ja y509 a1).f0)):=hcc30 0 _ rfl;have hx30_1:w36.cell? ⟨go27,(a1:Int).toNat * 5+1,none⟩=some (.int .i64 ((ja y509 a1).f1)):=hcc30 1 _ rfl;have hx30_2:w36.cell? ⟨go27,(a1:Int).toNat * 5+2,none⟩=some (.int .i64 ((ja y509 a1).f2)):=hcc30 2 _ rfl;have hx30_3:w36.cell? ⟨go27,(a1:Int).toNat * 5+3,none⟩=some (.int .i64 ((ja y509 a1).f3)):=hcc30 3 _ rfl;have hx30_4:w36.cell? ⟨go27,(a1:Int).toNat * 5+4,none⟩=some (.bool ((ja y509 a1).f4)):=hcc30 4 _ rfl;have hf30_0:w36.frozen? ⟨go27,(a1:Int).toNat * 5,none⟩=false:=hfr30 0;have hf30_1:w36.frozen? ⟨go27,(a1:Int).toNat * 5+1,none⟩=false:=hfr30 1;have hf30_2:w36.frozen? ⟨go27,(a1:Int).toNat * 5+2,none⟩=false:=hfr30 2;have hf30_3:w36.frozen? ⟨go27,(a1:Int).toNat * 5+3,none⟩=false:=hfr30 3;have hf30_4:w36.frozen? ⟨go27,(a1:Int).toNat * 5+4,none⟩=false:=hfr30 4;clear hcl30 hcc30 hfr30 hM30;replace p30:=ezT p30;replace q30:=ezT q30;have HX38:=am (show Kd.R k54 54 w36 w.heap.size (fun _=>True) (.slice (some ⟨go27,0,none⟩) x506000_2.length co34) y509 from (rq HO_506000.out));obtain ⟨ce38,hcl38,hM38,hcc38,hfr38⟩:=Kd.jub HX38.out z54 (a1:Int) (ozD (uq)) (by have h_:(a1:Int)<((x506000_2.length:Int):Int):=ozD (uq);first | exact h_ |(have e_:=(Kd.jB HO_506000.out).1;omega) | simpa using h_);obtain rfl:=jQa hM38;have HP38:=Kd.R_seg HX38.out (a1:Int) (ozD (uq)) (by have h_:(a1:Int)<((x506000_2.length:Int):Int):=ozD (uq);first | exact h_ |(have e_:=(Kd.jB HO_506000.out).1;omega) | simpa using h_) (seg:=[.int .i64 a2]) (j:=3) hcl38 hcc38 (show 4≤5 from by decide) (x':=(⟨(ja y509 a1).f0,(ja y509 a1).f1,(ja y509 a1).f2,a2,(ja y509 a1).f4⟩:S54)) (jGb _ _ _ (⟨(ja y509 a1).f0,(ja y509 a1).f1,(ja y509 a1).f2,a2,(ja y509 a1).f4⟩:S54) ) (fun _ hk=>hk);have hx38_3:=hcc38 3 _ rfl;(try simp only [show (k54).sz=5 from rfl,Nat.mul_one,Nat.add_zero] at hx38_3);have hf38_3:=hfr38 3;(try simp only [show (k54).sz=5 from rfl,Nat.mul_one,Nat.add_zero] at hf38_3);clear hcl38 hcc38 hfr38 hM38) |((with_reducible refine jfc (t:=3) (p:=51) rfl ?_);refine jVb (t:=3) (p:=51) (v:=?vo_w39) (w1:=(w36.setCell ⟨go27,(a1:Int).toNat * 5+3,none⟩ (.int .i64 a2))) ?hg ?ho ?hn ?hr ?_;(case ho=>rfl);(case hg=>rfl);(case hn=>rfl);(case hr=>exact Y4);intro w39 hw;have hg:w36.grownBy w39 (some go27):=(by rw [hw];exact HP38.2);have hp_:Kd.R k54 54 w39 w.heap.size (fun _=>True) (.slice (some ⟨go27,0,none⟩) x506000_2.length co34) y510:=(by rw [hw,Ny510.out];exact HP38.1);clear HP38;replace BK500:=am (jia (g:=gb500) (o:=.cells #[.slice A0_0 l0_0.length c0_0] 32 (0,0)) (kq BK500.out) hg (Kd.R_ne HO_506000.out BK500.out (by decide)));replace BK501:=am (jia (g:=gb501) (o:=.cells #[.slice none 0 0] 32 (0,0)) (kq BK501.out) hg (Kd.R_ne HO_506000.out BK501.out (by decide)));replace BK505:=am (jia (g:=gb505) (o:=.cells #[.slice (some ⟨go27,0,none⟩) x506000_2.length co34] 32 (0,0)) (kq BK505.out) hg (Kd.R_ne HO_506000.out BK505.out (by decide)));replace HO_506000:=am (hp_);replace HB:=am ((by rw [hw];exact jk (HB.out) GB27.out:Below w.heap.size w w39));clear hg hw hp_;have hcz40_0:=bc0 BK505.out;have hfz40_0:=jf BK505.out 0;have hnb41:=NB501_500.out;have hnc41:=NB500_501.out;have hcz42_0:=bc0 BK501.out;have hfz42_0:=jf BK501.out 0))
            refine bodyPost_ret (results_cell_row rfl _ _ gb501 32 #[.slice (some ⟨go27,0,none⟩) x506000_2.length co34] (0,0) _ rfl (Y144) Try.underlying32 rfl (by kernel_rfl)) rfl ?_
            exact ⟨_,Y2,by (with_reducible repeat (first | apply Kd.jL | apply Kd.jM | apply Kd.jN));exact Kd.jD (Kd.jX (p:=⟨gb501,0,none⟩) (Kd.jJ HO_506000.out BK501.out (by decide)) (fun _ hk=>hk.2) (.slice (some ⟨go27,0,none⟩) x506000_2.length co34)) (fun _ hk=>trivial),Y57⟩
           ·rw [if_neg c29] at H
            exact absurd H (by simp)
          ·rw [if_neg c28] at H
           exact absurd H (by simp)
         ·rw [if_neg c26] at H
          have c26b0:(((ja x506000_2 x8_2).f3) == a1)=false:=beq_eq_false_iff_ne.mpr c26
          have c26b1:(((ja x506000_2 x8_2).f3) != a1)=true:=bne_iff_ne.mpr c26
          have H':=am H
          clear H
          have hnb43:=NB505_500.out
          have hnc43:=NB500_505.out
          have hnb44:=NB505_501.out
          have hnc44:=NB501_505.out
          have hcz45_0:=bc0 BK505.out
          have hfz45_0:=jf BK505.out 0
          obtain ⟨Ao46,co46,eo46⟩:=Kd.jaa HO_506000.out
          subst eo46
          have p506:0≤(x8_2:Int):=ozD (uq)
          have q506:x8_2<(x506000_2.length:Int):=ozD (uq)
          obtain ⟨ad506,e506,hx506_0,hx506_1,hx506_2,hx506_3,hx506_4⟩:=jfb (Kd.jB HO_506000.out).2.2 x8_2 p506 q506
          cases e506
          replace p506:=ezT p506
          replace q506:=ezT q506
          have p508:0≤(x8_2:Int):=ozD (uq)
          have q508:x8_2<(x506000_2.length:Int):=ozD (uq)
          obtain ⟨ad508,e508,hx508_0,hx508_1,hx508_2,hx508_3,hx508_4⟩:=jfb (Kd.jB HO_506000.out).2.2 x8_2 p508 q508
          obtain rfl:ad506=ad508:=(by injection e508)
          replace p508:=ezT p508
          replace q508:=ezT q508
          have p511:0≤(x8_2:Int):=ozD (uq)
          have q511:x8_2<(x506000_2.length:Int):=ozD (uq)
          obtain ⟨ad511,e511,hx511_0,hx511_1,hx511_2,hx511_3,hx511_4⟩:=jfb (Kd.jB HO_506000.out).2.2 x8_2 p511 q511
          obtain rfl:ad506=ad511:=(by injection e511)
          replace p511:=ezT p511
          replace q511:=ezT q511
          go_wp2
          go_roundg k2
          case measure=>have:=HJ4.out;have:=HK2.out;omega
          case rel=>exact ⟨((ja x506000_2 x8_2).f3),(x506000_2),(.slice (some ad506) x506000_2.length co46),(sq),H',⟨by have:=HJ4.out;have:=HK2.out;omega⟩,⟨rq HO_506000.out⟩,⟨kq BK500.out⟩,⟨kq BK501.out⟩,⟨kq BK505.out⟩,⟨Y57⟩⟩
        ·rw [if_neg c25] at H
         have c25b0:decide (0≤((ja x506000_2 x8_2).f3))=false:=dzF c25
         clear c25
         by_cases c47:0≤a1
         ·rw [if_pos c47] at H
          have c47b0:decide (0≤a1)=true:=dzT c47
          clear c47
          by_cases c48:a1<(x506000_2.length:Int)
          ·rw [if_pos c48] at H
           have c48b0:decide (a1<(x506000_2.length:Int))=true:=dzT c48
           clear c48
           obtain ⟨y507,hy507⟩:∃ y_:List (S54),y_=(x506000_2.set (a1:Int).toNat (⟨(ja x506000_2 a1).f0,(ja x506000_2 a1).f1,(ja x506000_2 a1).f2,a2,(ja x506000_2 a1).f4⟩:S54)):=⟨_,rfl⟩
           replace H:(some y507)=some r:=by first |(rw [hy507];with_reducible exact H) |(have H2_:=(Option.bind_some _ _).symm.trans H;rw [hy507];with_reducible exact H2_) |(have H2_:=(Option.bind_some _ _).symm.trans H;with_reducible exact H2_) | with_reducible exact H |(rw [hy507];exact H) | exact H
           have Ny507:=am hy507
           clear hy507
           obtain rfl:=Option.some.inj H
           have hnb50:=NB505_500.out
           have hnc50:=NB500_505.out
           have hnb51:=NB505_501.out
           have hnc51:=NB501_505.out
           have hcz52_0:=bc0 BK505.out
           have hfz52_0:=jf BK505.out 0
           obtain ⟨Ao53,co53,eo53⟩:=Kd.jaa HO_506000.out
           subst eo53
           have p506:0≤(x8_2:Int):=ozD (uq)
           have q506:x8_2<(x506000_2.length:Int):=ozD (uq)
           obtain ⟨ad506,e506,hx506_0,hx506_1,hx506_2,hx506_3,hx506_4⟩:=jfb (Kd.jB HO_506000.out).2.2 x8_2 p506 q506
           cases e506
           replace p506:=ezT p506
           replace q506:=ezT q506
           have p49:0≤(a1:Int):=ozD (uq)
           have q49:(a1:Int)<((x506000_2.length:Int):Int):=ozD (uq)
           obtain ⟨go49,co49,eo49,gb49,gl49,cl49,HG49⟩:=Kd.R_form HO_506000.out (by omega)
           (first | cases eo49 |(injection eo49 with ea_ en_ ec_;(first | subst ea_ |(injection ea_ with ea_;subst ea_));subst ec_;clear en_))
           have GB49:=am gb49
           have GG49:=am HG49
           clear gb49 gl49 HG49
           (first | simp only [add_plain] at hx506_0 | skip)
           (first | simp only [add_plain] at hx506_1 | skip)
           (first | simp only [add_plain] at hx506_2 | skip)
           (first | simp only [add_plain] at hx506_3 | skip)
           (first | simp only [add_plain] at hx506_4 | skip)
           (first | simp only [add_plain] at hx508_0 | skip)
           (first | simp only [add_plain] at hx508_1 | skip)
           (first | simp only [add_plain] at hx508_2 | skip)
           (first | simp only [add_plain] at hx508_3 | skip)
           (first | simp only [add_plain] at hx508_4 | skip)
           (first | simp only [add_plain] at hx511_0 | skip)
           (first | simp only [add_plain] at hx511_1 | skip)
           (first | simp only [add_plain] at hx511_2 | skip)
           (first | simp only [add_plain] at hx511_3 | skip)
           (first | simp only [add_plain] at hx511_4 | skip)
           obtain ⟨ce49,hcl49,hM49,hcc49,hfr49⟩:=Kd.jub HO_506000.out z54 (a1:Int) p49 q49
           obtain rfl:=jQa hM49
           have hx49_0:wr.cell? ⟨go49,(a1:Int).toNat * 5,none⟩=some (.int .i64 ((ja x506000_2 a1).f0)):=hcc49 0 _ rfl
           have hx49_1:wr.cell? ⟨go49,(a1:Int).toNat * 5+1,none⟩=some (.int .i64 ((ja x506000_2 a1).f1)):=hcc49 1 _ rfl
           have hx49_2:wr.cell? ⟨go49,(a1:Int).toNat * 5+2,none⟩=some (.int .i64 ((ja x506000_2 a1).f2)):=hcc49 2 _ rfl
           have hx49_3:wr.cell? ⟨go49,(a1:Int).toNat * 5+3,none⟩=some (.int .i64 ((ja x506000_2 a1).f3)):=hcc49 3 _ rfl
           have hx49_4:wr.cell? ⟨go49,(a1:Int).toNat * 5+4,none⟩=some (.bool ((ja x506000_2 a1).f4)):=hcc49 4 _ rfl
           have hf49_0:wr.frozen? ⟨go49,(a1:Int).toNat * 5,none⟩=false:=hfr49 0
           have hf49_1:wr.frozen? ⟨go49,(a1:Int).toNat * 5+1,none⟩=false:=hfr49 1
           have hf49_2:wr.frozen? ⟨go49,(a1:Int).toNat * 5+2,none⟩=false:=hfr49 2
           have hf49_3:wr.frozen? ⟨go49,(a1:Int).toNat * 5+3,none⟩=false:=hfr49 3
           have hf49_4:wr.frozen? ⟨go49,(a1:Int).toNat * 5+4,none⟩=false:=hfr49 4
           clear hcl49 hcc49 hfr49 hM49
           replace p49:=ezT p49
           replace q49:=ezT q49
           have HX54:=am (show Kd.R k54 54 wr w.heap.size (fun _=>True) (.slice (some ⟨go49,0,none⟩) x506000_2.length co53) x506000_2 from (rq HO_506000.out))
           obtain ⟨ce54,hcl54,hM54,hcc54,hfr54⟩:=Kd.jub HX54.out z54 (a1:Int) (ozD (uq)) (by have h_:(a1:Int)<((x506000_2.length:Int):Int):=ozD (uq);first | exact h_ |(have e_:=(Kd.jB HO_506000.out).1;omega) | simpa using h_)
           obtain rfl:=jQa hM54
           have HP54:=Kd.R_seg HX54.out (a1:Int) (ozD (uq)) (by have h_:(a1:Int)<((x506000_2.length:Int):Int):=ozD (uq);first | exact h_ |(have e_:=(Kd.jB HO_506000.out).1;omega) | simpa using h_) (seg:=[.int .i64 a2]) (j:=3) hcl54 hcc54 (show 4≤5 from by decide) (x':=(⟨(ja x506000_2 a1).f0,(ja x506000_2 a1).f1,(ja x506000_2 a1).f2,a2,(ja x506000_2 a1).f4⟩:S54)) (jGb _ _ _ (⟨(ja x506000_2 a1).f0,(ja x506000_2 a1).f1,(ja x506000_2 a1).f2,a2,(ja x506000_2 a1).f4⟩:S54) ) (fun _ hk=>hk)
           have hx54_3:=hcc54 3 _ rfl
           (try simp only [show (k54).sz=5 from rfl,Nat.mul_one,Nat.add_zero] at hx54_3)
           have hf54_3:=hfr54 3
           (try simp only [show (k54).sz=5 from rfl,Nat.mul_one,Nat.add_zero] at hf54_3)
           clear hcl54 hcc54 hfr54 hM54
           go_wp2_with (first |((with_reducible refine jfc (t:=3) (p:=51) rfl ?_);refine jVb (t:=3) (p:=51) (v:=?vo_w55) (w1:=(wr.setCell ⟨go49,(a1:Int).toNat * 5+3,none⟩ (.int .i64 a2))) ?hg ?ho ?hn ?hr ?_;(case ho=>rfl);(case hg=>rfl);(case hn=>rfl);(case hr=>exact Y4);intro w55 hw;have hg:wr.grownBy w55 (some go49):=(by rw [hw];exact HP54.2);have hp_:Kd.R k54 54 w55 w.heap.size (fun _=>True) (.slice (some ⟨go49,0,none⟩) x506000_2.length co53) y507:=(by rw [hw,Ny507.out];exact HP54.1);clear HP54;replace BK500:=am (jia (g:=gb500) (o:=.cells #[.slice A0_0 l0_0.length c0_0] 32 (0,0)) (kq BK500.out) hg (Kd.R_ne HO_506000.out BK500.out (by decide)));replace BK501:=am (jia (g:=gb501) (o:=.cells #[.slice none 0 0] 32 (0,0)) (kq BK501.out) hg (Kd.R_ne HO_506000.out BK501.out (by decide)));replace BK505:=am (jia (g:=gb505) (o:=.cells #[.slice (some ⟨go49,0,none⟩) x506000_2.length co53] 32 (0,0)) (kq BK505.out) hg (Kd.R_ne HO_506000.out BK505.out (by decide)));replace HO_506000:=am (hp_);replace HB:=am ((by rw [hw];exact jk (HB.out) GB49.out:Below w.heap.size w w55));clear hg hw hp_;have hcz56_0:=bc0 BK505.out;have hfz56_0:=jf BK505.out 0;have hnb57:=NB501_500.out;have hnc57:=NB500_501.out;have hcz58_0:=bc0 BK501.out;have hfz58_0:=jf BK501.out 0))
           refine bodyPost_ret (results_cell_row rfl _ _ gb501 32 #[.slice (some ⟨go49,0,none⟩) x506000_2.length co53] (0,0) _ rfl (Y144) Try.underlying32 rfl (by kernel_rfl)) rfl ?_
           exact ⟨_,Y2,by (with_reducible repeat (first | apply Kd.jL | apply Kd.jM | apply Kd.jN));exact Kd.jD (Kd.jX (p:=⟨gb501,0,none⟩) (Kd.jJ HO_506000.out BK501.out (by decide)) (fun _ hk=>hk.2) (.slice (some ⟨go49,0,none⟩) x506000_2.length co53)) (fun _ hk=>trivial),Y57⟩
          ·rw [if_neg c48] at H
           exact absurd H (by simp)
         ·rw [if_neg c47] at H
          exact absurd H (by simp)
       ·rw [if_neg c24] at H
        exact absurd H (by simp)
      ·rw [if_neg c23] at H
       exact absurd H (by simp)
end Go.Proofs.Ytecdfgejmbpclaa.P
end
