/- One part of the proofs on this program: functions of the program as plain functions, that the code comes to them, and facts on them. -/
import Derived.Shelf.Strconv.Itoa3
import Derived.Test.YtegpknnlggkcpaaDoorYAll1
import Derived.Test.YtegpknnlggkcpaaDoorYAll3
import Derived.Test.YtegpknnlggkcpaaDoorYWAuto
section
namespace Go.Proofs.YtegpknnlggkcpaaDoor.P
open Go.RowKit Go.Proofs.YtegpknnlggkcpaaDoorW.PrintWords Go.Proofs.YtegpknnlggkcpaaDoorW.PrintLast Go.Proofs.YtegpknnlggkcpaaDoorW.PrintMore
attribute [local go_sem] jaa jY jna jma jR jQ jZ jX jh
set_option linter.unusedVariables false
set_option linter.unusedSimpArgs false
mutual
def jL.l0 : Nat → List (S42) → Int → List Int → Int → Option (List Int)
 | 0,_,_,_,_=>none
 | k+1,x0,x1,x5,x6=>if x6<(x0.length:Int) then (if 0≤x6 then (if 0≤x1 then (if x1<(x0.length:Int) then (if ((jb x0 x6).f0)=((jb x0 x1).f0) then ((jv.f ((jb x0 x6).f1) 8 10).bind fun t237=>(jL.j1 k x0 x1 x5 x6 t237)) else (jL.j1 k x0 x1 x5 x6 false)) else (none)) else (none)) else (none)) else (jL.j1 k x0 x1 x5 x6 false)
def jL.j1 : Nat → List (S42) → Int → List Int → Int → Bool → Option (List Int)
 | 0,_,_,_,_,_=>none
 | k+1,x0,x1,x5,x6,x36=>if x36=true then (if x5.length<17592186044416 then ((jS.f k x0 x6).bind fun t241=>(jL.l0 k x0 x1 (x5 ++ [x6]) t241)) else (none)) else (some x5)
end
def jL.f (k : Nat) (l0 : List (S42)) (a1 : Int) : Option (List Int) := (jS.f k l0 a1).bind fun t233 => (jL.l0 k l0 a1 (([a1] : List Int)) t233)
set_option maxHeartbeats 8000000 in
set_option maxRecDepth 100000 in
theorem jL.calls (k : Nat) (A0 : Option Addr) (c0 : Nat) (l0 : List (S42)) (a1 : Int) (r : List Int) (w : World) (hr0 : Kd.C k42 w A0 l0.length l0) (hc0 : l0.length ≤ c0) (h : jL.f k l0 a1 = some r) :
  Calls Tryd.prog 54 #[.slice A0 l0.length c0, .int .i64 a1] w fun e w'=>∃ v0_:Value,e=.returned (v0_)∧Kd.R (Kd.int .i64) 3 w' w.heap.size (fun _=>True) v0_ r∧Below w.heap.size w w':=by
 have HR0:=am hr0
 have HC0:=am hc0
 clear hr0 hc0
 have HB:=am (Below.refl w.heap.size w)
 have H:((jS.f k l0 a1).bind fun t233=>(jL.l0 k l0 a1 (([a1]:List Int)) t233))=some r:=h
 clear h
 obtain ⟨y230,hy230⟩:∃ y_:List Int,y_=(([a1]:List Int)):=⟨_,rfl⟩
 replace H:((jS.f k l0 a1).bind fun t233=>(jL.l0 k l0 a1 y230 t233))=some r:=by first |(rw [hy230];with_reducible exact H) |(have H2_:=(Option.bind_some _ _).symm.trans H;rw [hy230];with_reducible exact H2_) |(have H2_:=(Option.bind_some _ _).symm.trans H;with_reducible exact H2_) | with_reducible exact H |(rw [hy230];exact H) | exact H
 have Ny230:=am hy230
 clear hy230
 replace H:=bzS H
 obtain ⟨t233,A30,H⟩:=H
 replace H:(jL.l0 k l0 a1 y230 t233)=some r:=H
 have A3:=am A30
 clear A30
 have H':=am H
 clear H
 go_enter Tryd.func54,Tryd.ntmps54
 go_wp2_with (first |((with_reducible refine jN (N:=8) rfl ?_);refine Kd.R_lit (Kd.int .i64) _ 3 ?hg (N:=8) ?hd (xs:=([a1]:List Int)) (inner:=[.int .i64 a1]) (ok:=fun _=>True) (okp:=fun _=>True) ?hr ?hp (fun _ hk=>hk) trivial (Below.refl _ _) (Nat.le_refl _) (by simp) ?_;(case hd=>rfl);(case hg=>rfl);(case hr=>exact Y11);(case hp=>exact (Reps.one (show Kd.M (Kd.int .i64) _ _ _ a1 [.int .i64 a1] from rfl) (Reps.none _ _)));intro v231 w4 ho5 hb hg_ hnew_;clear hg_ hnew_;(first | rw [← Ny230.out] at ho5 |(simp only [Int.reduceToNat] at ho5;rw [← Ny230.out] at ho5));have HO232:=am (Kd.jRa ho5 (jP (bq)));replace HB:=am (jc (bq) hb);clear hb ho5) |(go_at_call 56;(with_reducible refine (jS.calls k _ _ l0 a1 t233 _ ?side1 ?side2 A3.out).mono ?_);(case side1=>exact cq (Kd.jH HR0.out HB.out));(case side2=>exact HC0.out);rintro e w' ⟨rfl,⟨nd,rfl⟩⟩;(try first | exact ⟨rfl,_,World.drewN_drewN _ _ _⟩ | exact ⟨rfl,_,Eq.trans (World.drewN_drewN _ _ _) (congrArg (World.drewN _) (Nat.add_assoc _ _ _))⟩)))
 repeat (go_quiet (first |((with_reducible refine jN (N:=8) rfl ?_);refine Kd.R_lit (Kd.int .i64) _ 3 ?hg (N:=8) ?hd (xs:=([a1]:List Int)) (inner:=[.int .i64 a1]) (ok:=fun _=>True) (okp:=fun _=>True) ?hr ?hp (fun _ hk=>hk) trivial (Below.refl _ _) (Nat.le_refl _) (by simp) ?_;(case hd=>rfl);(case hg=>rfl);(case hr=>exact Y11);(case hp=>exact (Reps.one (show Kd.M (Kd.int .i64) _ _ _ a1 [.int .i64 a1] from rfl) (Reps.none _ _)));intro v231 w4 ho5 hb hg_ hnew_;clear hg_ hnew_;(first | rw [← Ny230.out] at ho5 |(simp only [Int.reduceToNat] at ho5;rw [← Ny230.out] at ho5));have HO232:=am (Kd.jRa ho5 (jP (bq)));replace HB:=am (jc (bq) hb);clear hb ho5) |(go_at_call 56;(with_reducible refine (jS.calls k _ _ l0 a1 t233 _ ?side1 ?side2 A3.out).mono ?_);(case side1=>exact cq (Kd.jH HR0.out HB.out));(case side2=>exact HC0.out);rintro e w' ⟨rfl,⟨nd,rfl⟩⟩;(try first | exact ⟨rfl,_,World.drewN_drewN _ _ _⟩ | exact ⟨rfl,_,Eq.trans (World.drewN_drewN _ _ _) (congrArg (World.drewN _) (Nat.add_assoc _ _ _))⟩)));try go_wp2_with (first |((with_reducible refine jN (N:=8) rfl ?_);refine Kd.R_lit (Kd.int .i64) _ 3 ?hg (N:=8) ?hd (xs:=([a1]:List Int)) (inner:=[.int .i64 a1]) (ok:=fun _=>True) (okp:=fun _=>True) ?hr ?hp (fun _ hk=>hk) trivial (Below.refl _ _) (Nat.le_refl _) (by simp) ?_;(case hd=>rfl);(case hg=>rfl);(case hr=>exact Y11);(case hp=>exact (Reps.one (show Kd.M (Kd.int .i64) _ _ _ a1 [.int .i64 a1] from rfl) (Reps.none _ _)));intro v231 w4 ho5 hb hg_ hnew_;clear hg_ hnew_;(first | rw [← Ny230.out] at ho5 |(simp only [Int.reduceToNat] at ho5;rw [← Ny230.out] at ho5));have HO232:=am (Kd.jRa ho5 (jP (bq)));replace HB:=am (jc (bq) hb);clear hb ho5) |(go_at_call 56;(with_reducible refine (jS.calls k _ _ l0 a1 t233 _ ?side1 ?side2 A3.out).mono ?_);(case side1=>exact cq (Kd.jH HR0.out HB.out));(case side2=>exact HC0.out);rintro e w' ⟨rfl,⟨nd,rfl⟩⟩;(try first | exact ⟨rfl,_,World.drewN_drewN _ _ _⟩ | exact ⟨rfl,_,Eq.trans (World.drewN_drewN _ _ _) (congrArg (World.drewN _) (Nat.add_assoc _ _ _))⟩))))
 go_loopg [5,6] k (fun kq v5 v6 w'=>∃ (x5_1:List Int) (x6_1:Int),v6=.int .i64 x6_1∧jD (jL.l0 kq l0 a1 x5_1 x6_1=some r)∧jD (kq≤k)∧jD (Kd.R (Kd.int .i64) 3 w' w.heap.size (fun _=>True) v5 x5_1)∧jD (Below w.heap.size w w'))
 case atStart=>exact ⟨(y230),(t233),(sq),H',⟨Nat.le_refl _⟩,⟨rq HO232.out⟩,⟨bq⟩⟩
 case round =>
  clear H'
  try clear p2
  try clear c5
  obtain ⟨x5_1,x6_1,rfl,HA,HK1,HO_5,HB⟩:=hrel
  cases gk with
  | zero=>exact absurd HA.out (by simp [jL.l0])
  | succ k1 =>
   have H:=HA.out
   clear HA
   simp only [jL.l0] at H
   have HC6:=am H
   clear H
   go_upto_region 3 with (fail)
   repeat (go_quiet (fail);go_upto_region 3 with (fail))
   go_cut [36] (fun v36 wc=>∃ (kq:Nat) (x36_5:Bool),v36=.bool x36_5∧jD (jL.j1 kq l0 a1 x5_1 x6_1 x36_5=some r)∧jD (kq≤k1)∧jD (Kd.R (Kd.int .i64) 3 wc w.heap.size (fun _=>True) u5 x5_1)∧jD (Below w.heap.size w wc))
   case first =>
    have H:=HC6.out
    clear HC6
    by_cases c7:x6_1<(l0.length:Int)
    ·rw [if_pos c7] at H
     have c7b0:decide (x6_1<(l0.length:Int))=true:=dzT c7
     clear c7
     (first | rw [c7b0] |(simp only [jlb,job];rw [c7b0]) | skip)
     by_cases c8:0≤x6_1
     ·rw [if_pos c8] at H
      have c8b0:decide (0≤x6_1)=true:=dzT c8
      clear c8
      by_cases c9:0≤a1
      ·rw [if_pos c9] at H
       have c9b0:decide (0≤a1)=true:=dzT c9
       clear c9
       by_cases c10:a1<(l0.length:Int)
       ·rw [if_pos c10] at H
        have c10b0:decide (a1<(l0.length:Int))=true:=dzT c10
        clear c10
        by_cases c11:((jb l0 x6_1).f0)=((jb l0 a1).f0)
        ·rw [if_pos c11] at H
         have c11b0:(((jb l0 x6_1).f0) == ((jb l0 a1).f0))=true:=beq_iff_eq.mpr c11
         have c11b1:(((jb l0 x6_1).f0) != ((jb l0 a1).f0))=false:=bne_eq_false_iff_eq.mpr c11
         clear c11
         replace H:=bzS H
         obtain ⟨t237,A120,H⟩:=H
         replace H:(jL.j1 k1 l0 a1 x5_1 x6_1 t237)=some r:=H
         have A12:=am A120
         clear A120
         have H':=am H
         clear H
         have p234:0≤(x6_1:Int):=ozD (uq)
         have q234:x6_1<(l0.length:Int):=ozD (uq)
         obtain ⟨ad234,e234,hx234_0,hx234_1,hx234_2,hx234_3⟩:=jla HR0.out x6_1 p234 q234
         cases e234
         replace hx234_0:=cb HB.out hx234_0
         replace hx234_1:=cb HB.out hx234_1
         replace hx234_2:=cb HB.out hx234_2
         replace hx234_3:=cb HB.out hx234_3
         replace p234:=ezT p234
         replace q234:=ezT q234
         have p235:0≤(a1:Int):=ozD (uq)
         have q235:a1<(l0.length:Int):=ozD (uq)
         obtain ⟨ad235,e235,hx235_0,hx235_1,hx235_2,hx235_3⟩:=jla HR0.out a1 p235 q235
         obtain rfl:ad234=ad235:=(by injection e235)
         replace hx235_0:=cb HB.out hx235_0
         replace hx235_1:=cb HB.out hx235_1
         replace hx235_2:=cb HB.out hx235_2
         replace hx235_3:=cb HB.out hx235_3
         replace p235:=ezT p235
         replace q235:=ezT q235
         have p236:0≤(x6_1:Int):=ozD (uq)
         have q236:x6_1<(l0.length:Int):=ozD (uq)
         obtain ⟨ad236,e236,hx236_0,hx236_1,hx236_2,hx236_3⟩:=jla HR0.out x6_1 p236 q236
         obtain rfl:ad234=ad236:=(by injection e236)
         replace hx236_0:=cb HB.out hx236_0
         replace hx236_1:=cb HB.out hx236_1
         replace hx236_2:=cb HB.out hx236_2
         replace hx236_3:=cb HB.out hx236_3
         replace p236:=ezT p236
         replace q236:=ezT q236
         go_wp2_with (first |(go_at_call 30;(with_reducible refine (jv.calls ((jb l0 x6_1).f1) 8 10 t237 _ A12.out).mono ?_);rintro e w' ⟨rfl,⟨nd,rfl⟩⟩;(try first | exact ⟨rfl,_,World.drewN_drewN _ _ _⟩ | exact ⟨rfl,_,Eq.trans (World.drewN_drewN _ _ _) (congrArg (World.drewN _) (Nat.add_assoc _ _ _))⟩)))
         repeat (go_quiet (first |(go_at_call 30;(with_reducible refine (jv.calls ((jb l0 x6_1).f1) 8 10 t237 _ A12.out).mono ?_);rintro e w' ⟨rfl,⟨nd,rfl⟩⟩;(try first | exact ⟨rfl,_,World.drewN_drewN _ _ _⟩ | exact ⟨rfl,_,Eq.trans (World.drewN_drewN _ _ _) (congrArg (World.drewN _) (Nat.add_assoc _ _ _))⟩)));try go_wp2_with (first |(go_at_call 30;(with_reducible refine (jv.calls ((jb l0 x6_1).f1) 8 10 t237 _ A12.out).mono ?_);rintro e w' ⟨rfl,⟨nd,rfl⟩⟩;(try first | exact ⟨rfl,_,World.drewN_drewN _ _ _⟩ | exact ⟨rfl,_,Eq.trans (World.drewN_drewN _ _ _) (congrArg (World.drewN _) (Nat.add_assoc _ _ _))⟩))))
         go_meet
         case rel=>exact ⟨_,(t237),(sq),H',⟨by have:=HK1.out;first | omega | exact Nat.le_refl _⟩,⟨rq HO_5.out⟩,⟨bq⟩⟩
        ·rw [if_neg c11] at H
         have c11b0:(((jb l0 x6_1).f0) == ((jb l0 a1).f0))=false:=beq_eq_false_iff_ne.mpr c11
         have c11b1:(((jb l0 x6_1).f0) != ((jb l0 a1).f0))=true:=bne_iff_ne.mpr c11
         have H':=am H
         clear H
         have p234:0≤(x6_1:Int):=ozD (uq)
         have q234:x6_1<(l0.length:Int):=ozD (uq)
         obtain ⟨ad234,e234,hx234_0,hx234_1,hx234_2,hx234_3⟩:=jla HR0.out x6_1 p234 q234
         cases e234
         replace hx234_0:=cb HB.out hx234_0
         replace hx234_1:=cb HB.out hx234_1
         replace hx234_2:=cb HB.out hx234_2
         replace hx234_3:=cb HB.out hx234_3
         replace p234:=ezT p234
         replace q234:=ezT q234
         have p235:0≤(a1:Int):=ozD (uq)
         have q235:a1<(l0.length:Int):=ozD (uq)
         obtain ⟨ad235,e235,hx235_0,hx235_1,hx235_2,hx235_3⟩:=jla HR0.out a1 p235 q235
         obtain rfl:ad234=ad235:=(by injection e235)
         replace hx235_0:=cb HB.out hx235_0
         replace hx235_1:=cb HB.out hx235_1
         replace hx235_2:=cb HB.out hx235_2
         replace hx235_3:=cb HB.out hx235_3
         replace p235:=ezT p235
         replace q235:=ezT q235
         go_wp2
         repeat (go_quiet (fail);try go_wp2)
         go_meet
         case rel=>exact ⟨_,(false),(sq),H',⟨by have:=HK1.out;first | omega | exact Nat.le_refl _⟩,⟨rq HO_5.out⟩,⟨bq⟩⟩
       ·rw [if_neg c10] at H
        exact absurd H (by simp)
      ·rw [if_neg c9] at H
       exact absurd H (by simp)
     ·rw [if_neg c8] at H
      exact absurd H (by simp)
    ·rw [if_neg c7] at H
     have c7b0:decide (x6_1<(l0.length:Int))=false:=dzF c7
     clear c7
     (first | rw [c7b0] |(simp only [jlb,job];rw [c7b0]) | skip)
     have H':=am H
     clear H
     go_wp2
     repeat (go_quiet (fail);try go_wp2)
     go_meet
     case rel=>exact ⟨_,(false),(sq),H',⟨by have:=HK1.out;first | omega | exact Nat.le_refl _⟩,⟨rq HO_5.out⟩,⟨bq⟩⟩
   case rest =>
    clear HC6
    try clear c1
    try clear p2
    try clear q2
    try clear hx2
    try clear c5
    try clear c7
    try clear c7b0
    try clear c8
    try clear c8b0
    try clear c9
    try clear c9b0
    try clear c10
    try clear c10b0
    try clear c11
    try clear c11b0
    try clear c11b1
    try clear hx234_0
    try clear hx234_1
    try clear hx234_2
    try clear hx234_3
    try clear hx235_0
    try clear hx235_1
    try clear hx235_2
    try clear hx235_3
    try clear hx236_0
    try clear hx236_1
    try clear hx236_2
    try clear hx236_3
    try clear p2
    try clear p234
    try clear p235
    try clear p236
    try clear q234
    try clear q235
    try clear q236
    obtain ⟨kq,x36_5,rfl,HA,HJ5,HO_5,HB⟩:=hcut
    cases kq with
    | zero=>exact absurd HA.out (by simp [jL.j1])
    | succ kj5 =>
     have H:=HA.out
     clear HA
     simp only [jL.j1] at H
     by_cases c13:x36_5=true
     ·subst c13
      have H1:(if x5_1.length<17592186044416 then ((jS.f kj5 l0 x6_1).bind fun t241=>(jL.l0 kj5 l0 a1 (x5_1 ++ [x6_1]) t241)) else (none))=some r:=by rw [if_pos rfl] at H;exact H
      clear H
      have H:=H1
      clear H1
      by_cases c14:x5_1.length<17592186044416
      ·rw [if_pos c14] at H
       have LMc14:=am c14
       clear c14
       obtain ⟨y238,hy238⟩:∃ y_:List Int,y_=(x5_1 ++ [x6_1]):=⟨_,rfl⟩
       replace H:((jS.f kj5 l0 x6_1).bind fun t241=>(jL.l0 kj5 l0 a1 y238 t241))=some r:=by first |(rw [hy238];with_reducible exact H) |(have H2_:=(Option.bind_some _ _).symm.trans H;rw [hy238];with_reducible exact H2_) |(have H2_:=(Option.bind_some _ _).symm.trans H;with_reducible exact H2_) | with_reducible exact H |(rw [hy238];exact H) | exact H
       have Ny238:=am hy238
       clear hy238
       replace H:=bzS H
       obtain ⟨t241,A150,H⟩:=H
       replace H:(jL.l0 kj5 l0 a1 y238 t241)=some r:=H
       have A15:=am A150
       clear A150
       have H':=am H
       clear H
       go_wp2_with (first |((with_reducible refine jub (b:=.append) (xs:=#[.tmp 40, .tmp 42]) rfl ?_);at_builtin;refine Kd.R_append (Kd.int .i64) (w0:=w) w.heap.size rfl (.tmp 40) (.tmp 42) 81 3 (.int .i64 0) 8 rfl Tryd.underlying81 info3 rfl (by decide) (by omega) u5 x5_1 x6_1 [.int .i64 x6_1] (fun _=>True) (fun _=>False) rfl rfl ?aP (fun _ hk=>hk.elim) ?aF ?aO ?aB ?aS ?aL ?_;(case aP=>exact rfl);(case aB=>exact (bq));(case aF=>exact (fun _ _=>trivial));(case aO=>exact (rq HO_5.out));(case aS=>exact (jP (bq)));(case aL=>have:=LMc14.out;omega);intro v239 w16 ho hb hg hat;rw [← Ny238.out] at ho;have n0_:=am (hb);have n1_:=am (ho);clear HB HO_5;have HB:=n0_;have HO240:=n1_;clear n0_ n1_ ho hb hg hat) |(go_at_call 56;(with_reducible refine (jS.calls kj5 _ _ l0 x6_1 t241 _ ?side1 ?side2 A15.out).mono ?_);(case side1=>exact cq (Kd.jH HR0.out HB.out));(case side2=>exact HC0.out);rintro e w' ⟨rfl,⟨nd,rfl⟩⟩;(try first | exact ⟨rfl,_,World.drewN_drewN _ _ _⟩ | exact ⟨rfl,_,Eq.trans (World.drewN_drewN _ _ _) (congrArg (World.drewN _) (Nat.add_assoc _ _ _))⟩)))
       repeat (go_quiet (first |((with_reducible refine jub (b:=.append) (xs:=#[.tmp 40, .tmp 42]) rfl ?_);at_builtin;refine Kd.R_append (Kd.int .i64) (w0:=w) w.heap.size rfl (.tmp 40) (.tmp 42) 81 3 (.int .i64 0) 8 rfl Tryd.underlying81 info3 rfl (by decide) (by omega) u5 x5_1 x6_1 [.int .i64 x6_1] (fun _=>True) (fun _=>False) rfl rfl ?aP (fun _ hk=>hk.elim) ?aF ?aO ?aB ?aS ?aL ?_;(case aP=>exact rfl);(case aB=>exact (bq));(case aF=>exact (fun _ _=>trivial));(case aO=>exact (rq HO_5.out));(case aS=>exact (jP (bq)));(case aL=>have:=LMc14.out;omega);intro v239 w16 ho hb hg hat;rw [← Ny238.out] at ho;have n0_:=am (hb);have n1_:=am (ho);clear HB HO_5;have HB:=n0_;have HO240:=n1_;clear n0_ n1_ ho hb hg hat) |(go_at_call 56;(with_reducible refine (jS.calls kj5 _ _ l0 x6_1 t241 _ ?side1 ?side2 A15.out).mono ?_);(case side1=>exact cq (Kd.jH HR0.out HB.out));(case side2=>exact HC0.out);rintro e w' ⟨rfl,⟨nd,rfl⟩⟩;(try first | exact ⟨rfl,_,World.drewN_drewN _ _ _⟩ | exact ⟨rfl,_,Eq.trans (World.drewN_drewN _ _ _) (congrArg (World.drewN _) (Nat.add_assoc _ _ _))⟩)));try go_wp2_with (first |((with_reducible refine jub (b:=.append) (xs:=#[.tmp 40, .tmp 42]) rfl ?_);at_builtin;refine Kd.R_append (Kd.int .i64) (w0:=w) w.heap.size rfl (.tmp 40) (.tmp 42) 81 3 (.int .i64 0) 8 rfl Tryd.underlying81 info3 rfl (by decide) (by omega) u5 x5_1 x6_1 [.int .i64 x6_1] (fun _=>True) (fun _=>False) rfl rfl ?aP (fun _ hk=>hk.elim) ?aF ?aO ?aB ?aS ?aL ?_;(case aP=>exact rfl);(case aB=>exact (bq));(case aF=>exact (fun _ _=>trivial));(case aO=>exact (rq HO_5.out));(case aS=>exact (jP (bq)));(case aL=>have:=LMc14.out;omega);intro v239 w16 ho hb hg hat;rw [← Ny238.out] at ho;have n0_:=am (hb);have n1_:=am (ho);clear HB HO_5;have HB:=n0_;have HO240:=n1_;clear n0_ n1_ ho hb hg hat) |(go_at_call 56;(with_reducible refine (jS.calls kj5 _ _ l0 x6_1 t241 _ ?side1 ?side2 A15.out).mono ?_);(case side1=>exact cq (Kd.jH HR0.out HB.out));(case side2=>exact HC0.out);rintro e w' ⟨rfl,⟨nd,rfl⟩⟩;(try first | exact ⟨rfl,_,World.drewN_drewN _ _ _⟩ | exact ⟨rfl,_,Eq.trans (World.drewN_drewN _ _ _) (congrArg (World.drewN _) (Nat.add_assoc _ _ _))⟩))))
       go_roundg kj5
       case measure=>have:=HK1.out;have:=HJ5.out;omega
       case rel=>exact ⟨(y238),(t241),(sq),H',⟨by have:=HK1.out;have:=HJ5.out;omega⟩,⟨rq HO240.out⟩,⟨bq⟩⟩
      ·rw [if_neg c14] at H
       exact absurd H (by simp)
     ·replace c13:=Bool.eq_false_iff.mpr c13
      subst c13
      have H1:(some x5_1)=some r:=by rw [if_neg (show ¬ (false=true) by decide)] at H;exact H
      clear H
      have H:=H1
      clear H1
      obtain rfl:=Option.some.inj H
      go_wp2
      repeat (go_quiet (fail);try go_wp2)
      go_ret
      exact ⟨_,Y0,rq HO_5.out,bq⟩
def jta.go (p : List S42) : List Int → Int → Int → Option (Option Int)
 | [],ex,_=>some (some ex)
 | k :: ks,ex,last=>if 0≤k then if k<(p.length:Int) then
   if (jb p k).f1=8 then if last≤8 then jta.go p ks (ex+1) (jb p k).f1 else some none
   else if (jb p k).f1=9 then if last=8 then jta.go p ks ex (jb p k).f1 else some none
   else if (jb p k).f1=10 then if last<10 then jta.go p ks ex (jb p k).f1 else some none
   else some none
  else none else none
def jta.f (l0 : List S42) (l1 : List Int) : Option Bool := if 1 ≤ l1.length then (jta.go l0 (l1.drop 1) 0 7).bind fun r => match r with | none => some false | some ex => some (decide (1 < l1.length) && decide (ex ≤ 6)) else none
theorem jta.step {p : List S42} {l : List Int} {k : Nat} {ex last : Int} {r : Option Int} (hk : k < l.length) (h : jta.go p (l.drop k) ex last = some r) : jta.go p (l[k] :: l.drop (k + 1)) ex last = some r := by
 rw [← List.drop_eq_getElem_cons hk];exact h
set_option maxHeartbeats 8000000 in
set_option maxRecDepth 100000 in
theorem jta.calls (A0 : Option Addr) (c0 : Nat) (l0 : List S42) (A1 : Option Addr) (c1 : Nat) (l1 : List Int) (r : Bool) (w : World) (hr0 : Kd.C k42 w A0 l0.length l0) (hc0 : l0.length ≤ c0) (hr1 : Kd.C (Kd.int .i64) w A1 l1.length l1) (hc1 : l1.length ≤ c1) (h : jta.f l0 l1 = some r) :
  Calls Tryd.prog 55 #[.slice A0 l0.length c0, .slice A1 l1.length c1] w fun e w'=>e=.returned (.bool r)∧jAa w w':=by
 have hu42:=Tryd.underlying42
 have hm:l1.length≤9223372036854775807:=Kd.C_max hr1
 simp only [jta.f] at h
 by_cases h1:1≤l1.length
 ·rw [if_pos h1] at h
  obtain ⟨q,hq,h⟩:=bzS h
  have HR0:=am hr0
  have HR1:=am hr1
  have H0:=am hq
  have HZ:=am h
  have h1b:(1:Int)≤(l1.length:Int):=by omega
  obtain ⟨i03,hi03,_,hsz3,_⟩:=info_parts info3
  obtain ⟨A',hcut,hA',hC'⟩:=print_drop_of (P:=Tryd.prog) (Value.int .i64) (0:Int) 81 3 .i64 Tryd.underlying81 hi03 hsz3 A1 c1 l1 1 (by omega) h1b hc1
  replace hA':=hA' _ (Kd.reads_of_C hr1)
  rw [show ((1:Int)).toNat=1 from rfl] at hcut hA' hC'
  generalize hl2:l1.drop 1=l2 at hcut hA' hC' H0
  have hdl:l2.length<l1.length:=by rw [← hl2,List.length_drop];omega
  clear hl2
  have HS:=am hA'
  clear hr0 hr1 hq h hA' hi03 hsz3
  go_enter Tryd.func55,Tryd.ntmps55
  go_wp2
  go_loop [5,6,13] (fun i5 i6 i13=>∃ (k:Nat) (ex last:Int),i13=.int .i64 k∧i5=.int .i64 ex∧i6=.int .i64 last∧k≤l2.length∧0≤ex∧ex≤(k:Int)∧jD (jta.go l0 (l2.drop k) ex last=some q)) (fun _ _ i13=>l2.length - (intOf i13).toNat)
  case atStart=>exact ⟨0,0,7,rfl,rfl,rfl,Nat.zero_le _,by omega,by omega,H0⟩
  case round =>
   clear H0
   obtain ⟨k,ex,last,rfl,rfl,rfl,hk,hx0,hx1,HA⟩:=hrel
   by_cases hlt:k<l2.length
   ·have HB:=am (jta.step hlt HA.out)
    clear HA
    have HC:=HS.out
    obtain ⟨ad,rfl,hx⟩:=Kd.jyb (Kd.C_of_reads (h1:=fun _=>rfl) HC) (k:Int) (by omega) (by omega)
    have hrd:rd l2 (k:Int)=l2[k]:=by simp only [rd,Int.toNat_natCast,List.getD_eq_getElem?_getD,List.getElem?_eq_getElem hlt,Option.getD_some]
    rw [hrd,Int.toNat_natCast] at hx
    clear hrd HC
    have hgo:=HB.out
    generalize l2[k]=x at hgo hx
    simp only [jta.go] at hgo
    clear HB
    by_cases h0:0≤x
    ·rw [if_pos h0] at hgo
     by_cases h2:x<(l0.length:Int)
     ·rw [if_pos h2] at hgo
      obtain ⟨ad0,rfl,hy0,hy1,hy2,hy3⟩:=jla HR0.out x h0 h2
      generalize hkd:(jb l0 x).f1=kd at hgo hy1
      clear hkd
      have q2:=ezT h2
      have q0:=ezT h0
      clear h0 h2
      by_cases e8:kd=8
      ·subst e8
       rw [if_pos rfl] at hgo
       by_cases hl:last≤8
       ·rw [if_pos hl] at hgo
        have hlb:=dzT hl
        clear hl
        have HG:=am hgo
        clear hgo HZ
        go_wp2
        go_round
        case rel=>exact ⟨k+1,ex+1,_,by go_num,rfl,rfl,hlt,by omega,by omega,HG⟩
        case measure=>simp [intOf];omega
       ·rw [if_neg hl] at hgo
        have hlb:=dzF hl
        clear hl
        obtain rfl:none=q:=by simpa using hgo
        have HR:=am (by simpa using HZ.out:r=false)
        clear hgo HZ
        go_wp2
        go_ret
        exact ⟨by rw [HR.out];rfl,jAa.refl _⟩
      ·rw [if_neg e8] at hgo
       have e8b:(kd == 8)=false:=beq_eq_false_iff_ne.2 e8
       clear e8
       by_cases e9:kd=9
       ·subst e9
        rw [if_pos rfl] at hgo
        by_cases hl:last=8
        ·rw [if_pos hl] at hgo
         have hlb:(last == 8)=true:=beq_iff_eq.2 hl
         clear hl
         have HG:=am hgo
         clear hgo HZ
         go_wp2
         go_round
         case rel=>exact ⟨k+1,ex,_,by go_num,rfl,rfl,hlt,by omega,by omega,HG⟩
         case measure=>simp [intOf];omega
        ·rw [if_neg hl] at hgo
         have hlb:(last == 8)=false:=beq_eq_false_iff_ne.2 hl
         clear hl
         obtain rfl:none=q:=by simpa using hgo
         have HR:=am (by simpa using HZ.out:r=false)
         clear hgo HZ
         go_wp2
         go_ret
         exact ⟨by rw [HR.out];rfl,jAa.refl _⟩
       ·rw [if_neg e9] at hgo
        have e9b:(kd == 9)=false:=beq_eq_false_iff_ne.2 e9
        clear e9
        by_cases e10:kd=10
        ·subst e10
         rw [if_pos rfl] at hgo
         by_cases hl:last<10
         ·rw [if_pos hl] at hgo
          have hlb:=dzT hl
          clear hl
          have HG:=am hgo
          clear hgo HZ
          go_wp2
          go_round
          case rel=>exact ⟨k+1,ex,_,by go_num,rfl,rfl,hlt,by omega,by omega,HG⟩
          case measure=>simp [intOf];omega
         ·rw [if_neg hl] at hgo
          have hlb:=dzF hl
          clear hl
          obtain rfl:none=q:=by simpa using hgo
          have HR:=am (by simpa using HZ.out:r=false)
          clear hgo HZ
          go_wp2
          go_ret
          exact ⟨by rw [HR.out];rfl,jAa.refl _⟩
        ·rw [if_neg e10] at hgo
         have e10b:(kd == 10)=false:=beq_eq_false_iff_ne.2 e10
         clear e10
         obtain rfl:none=q:=by simpa using hgo
         have HR:=am (by simpa using HZ.out:r=false)
         clear hgo HZ
         go_wp2
         go_ret
         exact ⟨by rw [HR.out];rfl,jAa.refl _⟩
     ·rw [if_neg h2] at hgo
      cases hgo
    ·rw [if_neg h0] at hgo
     cases hgo
   ·have hgo:=HA.out
    rw [List.drop_eq_nil_of_le (by omega)] at hgo
    obtain rfl:some ex=q:=by simpa [jta.go] using hgo
    clear hgo HA
    have HY:=am (Option.some.inj HZ.out)
    clear HZ
    by_cases h1c:1<l1.length
    ·have hb1:=dzT h1c
     go_wp2
     go_ret
     exact ⟨by rw [← HY.out,hb1];rfl,jAa.refl _⟩
    ·have hb1:=dzF h1c
     go_wp2
     go_ret
     exact ⟨by rw [← HY.out,hb1];rfl,jAa.refl _⟩
 ·rw [if_neg h1] at h
  cases h
mutual
def jd.l0 : Nat → List (S42) → Bool → List Int → Int → Option (Bool)
 | 0,_,_,_,_=>none
 | k+1,x0,x3,x9,x10=>if x10<(x9.length:Int) then (if 0≤x10 then (if 0≤(rd x9 x10) then (if (rd x9 x10)<(x0.length:Int) then (if ((jb x0 (rd x9 x10)).f1)=5 then (jd.j1 k x0 x3 x9 x10 (rd x9 x10) ((jb x0 (rd x9 x10)).f1) ((jb x0 (rd x9 x10)).f1) (((jb x0 (rd x9 x10)).f1) == 5)) else (jd.j1 k x0 x3 x9 x10 (rd x9 x10) ((jb x0 (rd x9 x10)).f1) ((jb x0 (rd x9 x10)).f1) (((jb x0 (rd x9 x10)).f1) == 6))) else (none)) else (none)) else (none)) else (some true)
def jd.j1 : Nat → List (S42) → Bool → List Int → Int → Int → Int → Int → Bool → Option (Bool)
 | 0,_,_,_,_,_,_,_,_=>none
 | k+1,x0,x3,x9,x10,x11,x12,x35,x36=>if x36=true then (if x3=true then (jd.l0 k x0 x3 x9 (wrap64 (x10+1))) else (some false)) else (if x35=8 then (jd.j2 k x0 x3 x9 x10 x11 x12 x35 (x35 == 8)) else (if x35=9 then (jd.j2 k x0 x3 x9 x10 x11 x12 x35 (x35 == 9)) else (jd.j2 k x0 x3 x9 x10 x11 x12 x35 (x35 == 10))))
def jd.j2 : Nat → List (S42) → Bool → List Int → Int → Int → Int → Int → Bool → Option (Bool)
 | 0,_,_,_,_,_,_,_,_=>none
 | k+1,x0,x3,x9,x10,x11,x12,x35,x41=>if x41=true then (some false) else (if x35=7 then ((jL.f k x0 x11).bind fun t247=>((jta.f x0 t247).bind fun t250=>(if t250=true then (jd.l1 k x0 x3 x9 x10 t247 t247 (t247.length:Int) 0) else (some false)))) else (if x35=11 then (jd.j4 k x0 x3 x9 x10 x11 x12 (x35 == 11)) else (jd.j4 k x0 x3 x9 x10 x11 x12 (x35 == 12))))
def jd.l1 : Nat → List (S42) → Bool → List Int → Int → List Int → List Int → Int → Int → Option (Bool)
 | 0,_,_,_,_,_,_,_,_=>none
 | k+1,x0,x3,x9,x10,x13,x54,x55,x56=>if x56<x55 then (if 0≤x56 then (if x56<(x54.length:Int) then ((jS.f k x0 (rd x54 x56)).bind fun t252=>((jd.f k x0 (wrap64 ((rd x54 x56)+1)) t252 x3).bind fun t253=>(if t253=true then (jd.l1 k x0 x3 x9 x10 x13 x54 x55 (wrap64 (x56+1))) else (some false)))) else (none)) else (none)) else (jd.l0 k x0 x3 x9 (wrap64 ((wrap64 (x10+(wrap64 ((x13.length:Int) - 1))))+1)))
def jd.j4 : Nat → List (S42) → Bool → List Int → Int → Int → Int → Bool → Option (Bool)
 | 0,_,_,_,_,_,_,_=>none
 | k+1,x0,x3,x9,x10,x11,x12,x75=>if x75=true then ((jS.f k x0 x11).bind fun t254=>(if x3=true then ((jd.f k x0 (wrap64 (x11+1)) t254 true).bind fun t255=>(if t255=true then (jd.l0 k x0 x3 x9 (wrap64 (x10+1))) else (some false))) else ((jd.f k x0 (wrap64 (x11+1)) t254 (x12 == 12)).bind fun t256=>(if t256=true then (jd.l0 k x0 x3 x9 (wrap64 (x10+1))) else (some false))))) else (jd.l0 k x0 x3 x9 (wrap64 (x10+1)))
def jd.f : Nat → List (S42) → Int → Int → Bool → Option (Bool)
 | 0,_,_,_,_=>none
 | k+1,l0,a1,a2,a3=>(jga.f k l0 a1 a2).bind fun t242=>(jd.l0 k l0 a3 t242 0)
end
set_option maxHeartbeats 8000000 in
set_option maxRecDepth 100000 in
theorem jd.calls (k : Nat) : ∀ (A0 : Option Addr) (c0 : Nat) (l0 : List (S42)) (a1 : Int) (a2 : Int) (a3 : Bool) (r : Bool) (w : World) (hr0 : Kd.C k42 w A0 l0.length l0) (hc0 : l0.length ≤ c0) (h : jd.f k l0 a1 a2 a3 = some r),
  Calls Tryd.prog 32 #[.slice A0 l0.length c0, .int .i64 a1, .int .i64 a2, .bool a3] w fun e w'=>e=.returned (.bool r)∧Below w.heap.size w w':=by
 induction k using Nat.strongRecOn with
 | _ k ih =>
 intro A0 c0 l0 a1 a2 a3 r w hr0 hc0 h
 cases k with
 | zero=>exact absurd h (by simp [jd.f])
 | succ k =>
 simp only [jd.f] at h
 have HR0:=am hr0
 have HC0:=am hc0
 clear hr0 hc0
 have HB:=am (Below.refl w.heap.size w)
 have H:((jga.f k l0 a1 a2).bind fun t242=>(jd.l0 k l0 a3 t242 0))=some r:=h
 clear h
 replace H:=bzS H
 obtain ⟨t242,A50,H⟩:=H
 replace H:(jd.l0 k l0 a3 t242 0)=some r:=H
 have A5:=am A50
 clear A50
 have H':=am H
 clear H
 go_enter Tryd.func32,Tryd.ntmps32
 go_wp2_with (first |((with_reducible refine jf (f:=53) rfl ?_);refine gL (some 19) Tryd.func53 #[.slice A0 l0.length c0, .int .i64 a1, .int .i64 a2] ?_;(with_reducible refine (jga.calls k _ _ l0 a1 a2 t242 _ ?side1 ?side2 A5.out).mono ?_);(case side1=>exact Y8);(case side2=>exact HC0.out);rintro e w6 ⟨v243,rfl,ho0,hb⟩;refine ⟨_,rfl,?_⟩;have HO244:=am (Kd.jRa ho0 (jP (bq)));replace HB:=am (jc (bq) hb);(try clear hb);(try clear hb2);(try clear hk);(try clear hi);(try clear ho0)))
 go_loopg [10] k (fun kq v10 w'=>∃ (x10_1:Int),v10=.int .i64 x10_1∧jD (jd.l0 kq l0 a3 t242 x10_1=some r)∧jD (kq≤k)∧jD (Kd.R (Kd.int .i64) 3 w' w.heap.size (fun _=>True) v243 t242)∧jD (Below w.heap.size w w'))
 case atStart=>exact ⟨(0),(sq),H',⟨Nat.le_refl _⟩,⟨rq HO244.out⟩,⟨bq⟩⟩
 case round =>
  clear H'
  try clear p2
  try clear c3
  try clear c5
  obtain ⟨x10_1,rfl,HA,HK1,HO_9,HB⟩:=hrel
  cases gk with
  | zero=>exact absurd HA.out (by simp [jd.l0])
  | succ k1 =>
   have H:=HA.out
   clear HA
   simp only [jd.l0] at H
   by_cases c7:x10_1<(t242.length:Int)
   ·rw [if_pos c7] at H
    have c7b0:decide (x10_1<(t242.length:Int))=true:=dzT c7
    clear c7
    by_cases c8:0≤x10_1
    ·rw [if_pos c8] at H
     have c8b0:decide (0≤x10_1)=true:=dzT c8
     clear c8
     by_cases c9:0≤(rd t242 x10_1)
     ·rw [if_pos c9] at H
      have c9b0:decide (0≤(rd t242 x10_1))=true:=dzT c9
      clear c9
      by_cases c10:(rd t242 x10_1)<(l0.length:Int)
      ·rw [if_pos c10] at H
       have c10b0:decide ((rd t242 x10_1)<(l0.length:Int))=true:=dzT c10
       clear c10
       have HC11:=am H
       clear H
       obtain ⟨Ao12,co12,eo12⟩:=Kd.jKa HO_9.out
       subst eo12
       have p245:0≤(x10_1:Int):=ozD (uq)
       have q245:x10_1<(t242.length:Int):=ozD (uq)
       obtain ⟨ad245,e245,hx245_0⟩:=Kd.jyb (Kd.jT HO_9.out).2.2 x10_1 p245 q245
       cases e245
       replace p245:=ezT p245
       replace q245:=ezT q245
       have p246:0≤((rd t242 x10_1):Int):=ozD (uq)
       have q246:(rd t242 x10_1)<(l0.length:Int):=ozD (uq)
       obtain ⟨ad246,e246,hx246_0,hx246_1,hx246_2,hx246_3⟩:=jla HR0.out (rd t242 x10_1) p246 q246
       cases e246
       replace hx246_0:=cb HB.out hx246_0
       replace hx246_1:=cb HB.out hx246_1
       replace hx246_2:=cb HB.out hx246_2
       replace hx246_3:=cb HB.out hx246_3
       replace p246:=ezT p246
       replace q246:=ezT q246
       go_upto_if 36 with (fail)
       go_cut [36] (fun v36 wc=>∃ (kq:Nat) (x36_10:Bool),v36=.bool x36_10∧jD (jd.j1 kq l0 a3 t242 x10_1 (rd t242 x10_1) ((jb l0 (rd t242 x10_1)).f1) ((jb l0 (rd t242 x10_1)).f1) x36_10=some r)∧jD (kq≤k1)∧jD (Kd.R (Kd.int .i64) 3 wc w.heap.size (fun _=>True) (.slice (some ad245) t242.length co12) t242)∧jD (Below w.heap.size w wc))
       case first =>
        have H:=HC11.out
        clear HC11
        by_cases c13:((jb l0 (rd t242 x10_1)).f1)=5
        ·rw [if_pos c13] at H
         have c13b0:(((jb l0 (rd t242 x10_1)).f1) == 5)=true:=beq_iff_eq.mpr c13
         have c13b1:(((jb l0 (rd t242 x10_1)).f1) != 5)=false:=bne_eq_false_iff_eq.mpr c13
         clear c13
         (first | rw [c13b0] |(simp only [jlb,job];rw [c13b0]) | skip)
         have H':=am H
         clear H
         go_wp2
         go_meet
         case rel=>exact ⟨_,((((jb l0 (rd t242 x10_1)).f1) == 5)),(sq),H',⟨by have:=HK1.out;first | omega | exact Nat.le_refl _⟩,⟨rq HO_9.out⟩,⟨bq⟩⟩
        ·rw [if_neg c13] at H
         have c13b0:(((jb l0 (rd t242 x10_1)).f1) == 5)=false:=beq_eq_false_iff_ne.mpr c13
         have c13b1:(((jb l0 (rd t242 x10_1)).f1) != 5)=true:=bne_iff_ne.mpr c13
         (first | rw [c13b0] |(simp only [jlb,job];rw [c13b0]) | skip)
         have H':=am H
         clear H
         go_wp2
         go_meet
         case rel=>exact ⟨_,((((jb l0 (rd t242 x10_1)).f1) == 6)),(sq),H',⟨by have:=HK1.out;first | omega | exact Nat.le_refl _⟩,⟨rq HO_9.out⟩,⟨bq⟩⟩
       case rest =>
        clear HC11
        try clear c1
        try clear p2
        try clear q2
        try clear hx2
        try clear c3
        try clear c5
        try clear c7
        try clear c7b0
        try clear c8
        try clear c8b0
        try clear c9
        try clear c9b0
        try clear c10
        try clear c10b0
        try clear c13
        try clear c13b0
        try clear c13b1
        try clear hx245_0
        try clear hx246_0
        try clear hx246_1
        try clear hx246_2
        try clear hx246_3
        try clear p2
        try clear p245
        try clear p246
        try clear q245
        try clear q246
        obtain ⟨kq,x36_10,rfl,HA,HJ10,HO_9,HB⟩:=hcut
        cases kq with
        | zero=>exact absurd HA.out (by simp [jd.j1])
        | succ kj10 =>
         have H:=HA.out
         clear HA
         simp only [jd.j1] at H
         by_cases c14:x36_10=true
         ·subst c14
          have H1:(if a3=true then (jd.l0 kj10 l0 a3 t242 (wrap64 (x10_1+1))) else (some false))=some r:=by rw [if_pos rfl] at H;exact H
          clear H
          have H:=H1
          clear H1
          by_cases c15:a3=true
          ·subst c15
           have H1:(jd.l0 kj10 l0 true t242 (wrap64 (x10_1+1)))=some r:=by rw [if_pos rfl] at H;exact H
           clear H
           have H:=H1
           clear H1
           have H':=am H
           clear H
           go_wp2
           go_roundg kj10
           case measure=>have:=HK1.out;have:=HJ10.out;omega
           case rel=>exact ⟨(wrap64 (x10_1+1)),(sq),H',⟨by have:=HK1.out;have:=HJ10.out;omega⟩,⟨rq HO_9.out⟩,⟨bq⟩⟩
          ·replace c15:=Bool.eq_false_iff.mpr c15
           subst c15
           have H1:(some false)=some r:=by rw [if_neg (show ¬ (false=true) by decide)] at H;exact H
           clear H
           have H:=H1
           clear H1
           obtain rfl:=Option.some.inj H
           go_wp2
           go_ret
           exact ⟨Y0,bq⟩
         ·replace c14:=Bool.eq_false_iff.mpr c14
          subst c14
          have H1:(if ((jb l0 (rd t242 x10_1)).f1)=8 then (jd.j2 kj10 l0 a3 t242 x10_1 (rd t242 x10_1) ((jb l0 (rd t242 x10_1)).f1) ((jb l0 (rd t242 x10_1)).f1) (((jb l0 (rd t242 x10_1)).f1) == 8)) else (if ((jb l0 (rd t242 x10_1)).f1)=9 then (jd.j2 kj10 l0 a3 t242 x10_1 (rd t242 x10_1) ((jb l0 (rd t242 x10_1)).f1) ((jb l0 (rd t242 x10_1)).f1) (((jb l0 (rd t242 x10_1)).f1) == 9)) else (jd.j2 kj10 l0 a3 t242 x10_1 (rd t242 x10_1) ((jb l0 (rd t242 x10_1)).f1) ((jb l0 (rd t242 x10_1)).f1) (((jb l0 (rd t242 x10_1)).f1) == 10))))=some r:=by rw [if_neg (show ¬ (false=true) by decide)] at H;exact H
          clear H
          have H:=H1
          clear H1
          have HC16:=am H
          clear H
          go_upto_if 41 with (fail)
          go_cut [41] (fun v41 wc=>∃ (kq:Nat) (x41_15:Bool),v41=.bool x41_15∧jD (jd.j2 kq l0 a3 t242 x10_1 (rd t242 x10_1) ((jb l0 (rd t242 x10_1)).f1) ((jb l0 (rd t242 x10_1)).f1) x41_15=some r)∧jD (kq≤kj10)∧jD (Kd.R (Kd.int .i64) 3 wc w.heap.size (fun _=>True) (.slice (some ad245) t242.length co12) t242)∧jD (Below w.heap.size w wc))
          case first =>
           have H:=HC16.out
           clear HC16
           by_cases c17:((jb l0 (rd t242 x10_1)).f1)=8
           ·rw [if_pos c17] at H
            have c17b0:(((jb l0 (rd t242 x10_1)).f1) == 8)=true:=beq_iff_eq.mpr c17
            have c17b1:(((jb l0 (rd t242 x10_1)).f1) != 8)=false:=bne_eq_false_iff_eq.mpr c17
            clear c17
            (first | rw [c17b0] |(simp only [jlb,job];rw [c17b0]) | skip)
            have H':=am H
            clear H
            go_wp2
            go_meet
            case rel=>exact ⟨_,((((jb l0 (rd t242 x10_1)).f1) == 8)),(sq),H',⟨by have:=HK1.out;have:=HJ10.out;first | omega | exact Nat.le_refl _⟩,⟨rq HO_9.out⟩,⟨bq⟩⟩
           ·rw [if_neg c17] at H
            have c17b0:(((jb l0 (rd t242 x10_1)).f1) == 8)=false:=beq_eq_false_iff_ne.mpr c17
            have c17b1:(((jb l0 (rd t242 x10_1)).f1) != 8)=true:=bne_iff_ne.mpr c17
            (first | rw [c17b0] |(simp only [jlb,job];rw [c17b0]) | skip)
            by_cases c18:((jb l0 (rd t242 x10_1)).f1)=9
            ·rw [if_pos c18] at H
             have c18b0:(((jb l0 (rd t242 x10_1)).f1) == 9)=true:=beq_iff_eq.mpr c18
             have c18b1:(((jb l0 (rd t242 x10_1)).f1) != 9)=false:=bne_eq_false_iff_eq.mpr c18
             clear c18
             have H':=am H
             clear H
             go_wp2
             go_meet
             case rel=>exact ⟨_,((((jb l0 (rd t242 x10_1)).f1) == 9)),(sq),H',⟨by have:=HK1.out;have:=HJ10.out;first | omega | exact Nat.le_refl _⟩,⟨rq HO_9.out⟩,⟨bq⟩⟩
            ·rw [if_neg c18] at H
             have c18b0:(((jb l0 (rd t242 x10_1)).f1) == 9)=false:=beq_eq_false_iff_ne.mpr c18
             have c18b1:(((jb l0 (rd t242 x10_1)).f1) != 9)=true:=bne_iff_ne.mpr c18
             have H':=am H
             clear H
             go_wp2
             go_meet
             case rel=>exact ⟨_,((((jb l0 (rd t242 x10_1)).f1) == 10)),(sq),H',⟨by have:=HK1.out;have:=HJ10.out;first | omega | exact Nat.le_refl _⟩,⟨rq HO_9.out⟩,⟨bq⟩⟩
          case rest =>
           clear HC16
           try clear c1
           try clear p2
           try clear q2
           try clear hx2
           try clear c3
           try clear c5
           try clear p6
           try clear c7
           try clear c7b0
           try clear c8
           try clear c8b0
           try clear c9
           try clear c9b0
           try clear c10
           try clear c10b0
           try clear c13
           try clear c13b0
           try clear c13b1
           try clear c14
           try clear c15
           try clear c17
           try clear c17b0
           try clear c17b1
           try clear c18
           try clear c18b0
           try clear c18b1
           try clear hx245_0
           try clear hx246_0
           try clear hx246_1
           try clear hx246_2
           try clear hx246_3
           try clear p2
           try clear p245
           try clear p246
           try clear q2
           try clear q245
           try clear q246
           obtain ⟨kq,x41_15,rfl,HA,HJ15,HO_9,HB⟩:=hcut
           cases kq with
           | zero=>exact absurd HA.out (by simp [jd.j2])
           | succ kj15 =>
            have H:=HA.out
            clear HA
            simp only [jd.j2] at H
            by_cases c19:x41_15=true
            ·subst c19
             have H1:(some false)=some r:=by rw [if_pos rfl] at H;exact H
             clear H
             have H:=H1
             clear H1
             obtain rfl:=Option.some.inj H
             go_wp2
             go_ret
             exact ⟨Y0,bq⟩
            ·replace c19:=Bool.eq_false_iff.mpr c19
             subst c19
             have H1:(if ((jb l0 (rd t242 x10_1)).f1)=7 then ((jL.f kj15 l0 (rd t242 x10_1)).bind fun t247=>((jta.f l0 t247).bind fun t250=>(if t250=true then (jd.l1 kj15 l0 a3 t242 x10_1 t247 t247 (t247.length:Int) 0) else (some false)))) else (if ((jb l0 (rd t242 x10_1)).f1)=11 then (jd.j4 kj15 l0 a3 t242 x10_1 (rd t242 x10_1) ((jb l0 (rd t242 x10_1)).f1) (((jb l0 (rd t242 x10_1)).f1) == 11)) else (jd.j4 kj15 l0 a3 t242 x10_1 (rd t242 x10_1) ((jb l0 (rd t242 x10_1)).f1) (((jb l0 (rd t242 x10_1)).f1) == 12))))=some r:=by rw [if_neg (show ¬ (false=true) by decide)] at H;exact H
             clear H
             have H:=H1
             clear H1
             by_cases c20:((jb l0 (rd t242 x10_1)).f1)=7
             ·rw [if_pos c20] at H
              have c20b0:(((jb l0 (rd t242 x10_1)).f1) == 7)=true:=beq_iff_eq.mpr c20
              have c20b1:(((jb l0 (rd t242 x10_1)).f1) != 7)=false:=bne_eq_false_iff_eq.mpr c20
              clear c20
              replace H:=bzS H
              obtain ⟨t247,A210,H⟩:=H
              replace H:((jta.f l0 t247).bind fun t250=>(if t250=true then (jd.l1 kj15 l0 a3 t242 x10_1 t247 t247 (t247.length:Int) 0) else (some false)))=some r:=H
              have A21:=am A210
              clear A210
              replace H:=bzS H
              obtain ⟨t250,A220,H⟩:=H
              replace H:(if t250=true then (jd.l1 kj15 l0 a3 t242 x10_1 t247 t247 (t247.length:Int) 0) else (some false))=some r:=H
              have A22:=am A220
              clear A220
              by_cases c23:t250=true
              ·subst c23
               have H1:(jd.l1 kj15 l0 a3 t242 x10_1 t247 t247 (t247.length:Int) 0)=some r:=by rw [if_pos rfl] at H;exact H
               clear H
               have H:=H1
               clear H1
               have H':=am H
               clear H
               go_wp2_with (first |((with_reducible refine jf (f:=54) rfl ?_);refine gL (some 49) Tryd.func54 #[.slice (some ad246) l0.length c0, .int .i64 (rd t242 x10_1)] ?_;(with_reducible refine (jL.calls kj15 _ _ l0 (rd t242 x10_1) t247 _ ?side1 ?side2 A21.out).mono ?_);(case side1=>exact cq (Kd.jH HR0.out HB.out));(case side2=>exact HC0.out);rintro e w24 ⟨v248,rfl,ho0,hb⟩;refine ⟨_,rfl,?_⟩;have HO249:=am (Kd.jRa (Kd.R_new' ho0 (Kd.R_lt (rq HO_9.out))) (jP (bq)));replace HO_9:=am (Kd.jGb (rq HO_9.out) (Kd.R_base ho0) hb);replace HB:=am (jc (bq) hb);(try clear hb);(try clear hb2);(try clear hk);(try clear hi);(try clear ho0);obtain ⟨Ao25,co25,eo25⟩:=Kd.jKa HO249.out;subst eo25) |((with_reducible refine jf (f:=55) rfl ?_);refine gL (some 52) Tryd.func55 #[.slice (some ad246) l0.length c0, .slice Ao25 t247.length co25] ?_;(with_reducible refine (jta.calls _ _ l0 _ _ t247 true _ ?side1 ?side2 ?side3 ?side4 A22.out).mono ?_);(case side1=>exact cq (Kd.jH HR0.out HB.out));(case side2=>exact HC0.out);(case side3=>exact cq (Kd.jT HO249.out).2.2);(case side4=>exact (Kd.jT HO249.out).2.1);rintro e w' ⟨rfl,⟨nd,rfl⟩⟩;refine ⟨_,rfl,?_⟩))
               go_loopg [56] kj15 (fun kq v56 w'=>∃ (x56_4:Int),v56=.int .i64 x56_4∧jD (jd.l1 kq l0 a3 t242 x10_1 t247 t247 (t247.length:Int) x56_4=some r)∧jD (kq≤kj15)∧jD (Kd.R (Kd.int .i64) 3 w' w.heap.size (fun k_=>some k_≠((.slice Ao25 t247.length co25):Value).ownBlock∧some k_≠((.slice Ao25 t247.length co25):Value).ownBlock) (.slice (some ad245) t242.length co12) t242)∧jD (Kd.R (Kd.int .i64) 3 w' w.heap.size (fun k_=>some k_≠((.slice (some ad245) t242.length co12):Value).ownBlock) (.slice Ao25 t247.length co25) t247)∧jD (Kd.R (Kd.int .i64) 3 w' w.heap.size (fun k_=>some k_≠((.slice (some ad245) t242.length co12):Value).ownBlock) (.slice Ao25 t247.length co25) t247)∧jD (Below w.heap.size w w'))
               case atStart=>exact ⟨(0),(sq),H',⟨Nat.le_refl _⟩,⟨by (with_reducible repeat (first | apply Kd.jPb | apply Kd.jOb | apply Kd.jLb));exact Kd.jKb HO_9.out (fun _ hk=>⟨hk.2,hk.2⟩)⟩,⟨by (with_reducible repeat (first | apply Kd.jPb | apply Kd.jOb | apply Kd.jLb));exact Kd.jKb HO249.out (fun _ hk=>hk.2)⟩,⟨by (with_reducible repeat (first | apply Kd.jPb | apply Kd.jOb | apply Kd.jLb));exact Kd.jKb HO249.out (fun _ hk=>hk.2)⟩,⟨bq⟩⟩
               case round =>
                clear H'
                try clear c1
                try clear c2
                try clear p2
                try clear q2
                try clear hx2
                try clear c3
                try clear c5
                try clear p6
                try clear c7
                try clear c7b0
                try clear c8
                try clear c8b0
                try clear c9
                try clear c9b0
                try clear c10
                try clear c10b0
                try clear c13
                try clear c13b0
                try clear c13b1
                try clear c14
                try clear c15
                try clear c17
                try clear c17b0
                try clear c17b1
                try clear c18
                try clear c18b0
                try clear c18b1
                try clear c19
                try clear c20
                try clear c20b0
                try clear c20b1
                try clear c23
                try clear p24
                try clear q24
                try clear hx24
                try clear hx245_0
                try clear hx246_0
                try clear hx246_1
                try clear hx246_2
                try clear hx246_3
                try clear p2
                try clear p245
                try clear p246
                try clear p6
                try clear q2
                try clear q245
                try clear q246
                obtain ⟨x56_4,rfl,HA,HK4,HO_9,HO_13,HO_54,HB⟩:=hrel
                cases gk with
                | zero=>exact absurd HA.out (by simp [jd.l1])
                | succ k4 =>
                 have H:=HA.out
                 clear HA
                 simp only [jd.l1] at H
                 by_cases c26:x56_4<(t247.length:Int)
                 ·rw [if_pos c26] at H
                  have c26b0:decide (x56_4<(t247.length:Int))=true:=dzT c26
                  clear c26
                  by_cases c27:0≤x56_4
                  ·rw [if_pos c27] at H
                   have c27b0:decide (0≤x56_4)=true:=dzT c27
                   clear c27
                   by_cases c28:x56_4<(t247.length:Int)
                   ·rw [if_pos c28] at H
                    have c28b0:decide (x56_4<(t247.length:Int))=true:=dzT c28
                    clear c28
                    replace H:=bzS H
                    obtain ⟨t252,A290,H⟩:=H
                    replace H:((jd.f k4 l0 (wrap64 ((rd t247 x56_4)+1)) t252 a3).bind fun t253=>(if t253=true then (jd.l1 k4 l0 a3 t242 x10_1 t247 t247 (t247.length:Int) (wrap64 (x56_4+1))) else (some false)))=some r:=H
                    have A29:=am A290
                    clear A290
                    replace H:=bzS H
                    obtain ⟨t253,A300,H⟩:=H
                    replace H:(if t253=true then (jd.l1 k4 l0 a3 t242 x10_1 t247 t247 (t247.length:Int) (wrap64 (x56_4+1))) else (some false))=some r:=H
                    have A30:=am A300
                    clear A300
                    by_cases c31:t253=true
                    ·subst c31
                     have H1:(jd.l1 k4 l0 a3 t242 x10_1 t247 t247 (t247.length:Int) (wrap64 (x56_4+1)))=some r:=by rw [if_pos rfl] at H;exact H
                     clear H
                     have H:=H1
                     clear H1
                     have H':=am H
                     clear H
                     have p251:0≤(x56_4:Int):=ozD (uq)
                     have q251:x56_4<(t247.length:Int):=ozD (uq)
                     obtain ⟨ad251,e251,hx251_0⟩:=Kd.jyb (Kd.jT HO_54.out).2.2 x56_4 p251 q251
                     cases e251
                     replace p251:=ezT p251
                     replace q251:=ezT q251
                     go_wp2_with (first |((with_reducible refine jf (f:=56) rfl ?_);refine gL (some 65) Tryd.func56 #[.slice (some ad246) l0.length c0, .int .i64 (rd t247 x56_4)] ?_;(with_reducible refine (jS.calls k4 _ _ l0 (rd t247 x56_4) t252 _ ?side1 ?side2 A29.out).mono ?_);(case side1=>exact cq (Kd.jH HR0.out HB.out));(case side2=>exact HC0.out);rintro e w' ⟨rfl,⟨nd,rfl⟩⟩;refine ⟨_,rfl,?_⟩) |((with_reducible refine jf (f:=32) rfl ?_);refine gL (some 67) Tryd.func32 #[.slice (some ad246) l0.length c0, .int .i64 (wrap64 ((rd t247 x56_4)+1)), .int .i64 t252, .bool a3] ?_;(with_reducible refine (ih k4 (by have:=HK1.out;have:=HJ10.out;have:=HJ15.out;have:=HK4.out;omega) _ _ l0 (wrap64 ((rd t247 x56_4)+1)) t252 a3 true _ ?side1 ?side2 A30.out).mono ?_);(case side1=>exact cq (Kd.jH HR0.out (bq)));(case side2=>exact HC0.out);rintro e w32 ⟨rfl,hb⟩;refine ⟨_,rfl,?_⟩;replace HO_9:=am (Kd.jqa (rq HO_9.out) hb);replace HO_13:=am (Kd.jqa (rq HO_13.out) hb);replace HO_54:=am (Kd.jqa (rq HO_54.out) hb);replace HB:=am (jc (bq) hb);(try clear hb);(try clear hb2);(try clear hk);(try clear hi)))
                     go_roundg k4
                     case measure=>have:=HK1.out;have:=HJ10.out;have:=HJ15.out;have:=HK4.out;omega
                     case rel=>exact ⟨(wrap64 (x56_4+1)),(sq),H',⟨by have:=HK1.out;have:=HJ10.out;have:=HJ15.out;have:=HK4.out;omega⟩,⟨rq HO_9.out⟩,⟨rq HO_13.out⟩,⟨rq HO_54.out⟩,⟨bq⟩⟩
                    ·replace c31:=Bool.eq_false_iff.mpr c31
                     subst c31
                     have H1:(some false)=some r:=by rw [if_neg (show ¬ (false=true) by decide)] at H;exact H
                     clear H
                     have H:=H1
                     clear H1
                     obtain rfl:=Option.some.inj H
                     have p251:0≤(x56_4:Int):=ozD (uq)
                     have q251:x56_4<(t247.length:Int):=ozD (uq)
                     obtain ⟨ad251,e251,hx251_0⟩:=Kd.jyb (Kd.jT HO_54.out).2.2 x56_4 p251 q251
                     cases e251
                     replace p251:=ezT p251
                     replace q251:=ezT q251
                     go_wp2_with (first |((with_reducible refine jf (f:=56) rfl ?_);refine gL (some 65) Tryd.func56 #[.slice (some ad246) l0.length c0, .int .i64 (rd t247 x56_4)] ?_;(with_reducible refine (jS.calls k4 _ _ l0 (rd t247 x56_4) t252 _ ?side1 ?side2 A29.out).mono ?_);(case side1=>exact cq (Kd.jH HR0.out HB.out));(case side2=>exact HC0.out);rintro e w' ⟨rfl,⟨nd,rfl⟩⟩;refine ⟨_,rfl,?_⟩) |((with_reducible refine jf (f:=32) rfl ?_);refine gL (some 67) Tryd.func32 #[.slice (some ad246) l0.length c0, .int .i64 (wrap64 ((rd t247 x56_4)+1)), .int .i64 t252, .bool a3] ?_;(with_reducible refine (ih k4 (by have:=HK1.out;have:=HJ10.out;have:=HJ15.out;have:=HK4.out;omega) _ _ l0 (wrap64 ((rd t247 x56_4)+1)) t252 a3 false _ ?side1 ?side2 A30.out).mono ?_);(case side1=>exact cq (Kd.jH HR0.out (bq)));(case side2=>exact HC0.out);rintro e w33 ⟨rfl,hb⟩;refine ⟨_,rfl,?_⟩;replace HO_9:=am (Kd.jqa (rq HO_9.out) hb);replace HO_13:=am (Kd.jqa (rq HO_13.out) hb);replace HO_54:=am (Kd.jqa (rq HO_54.out) hb);replace HB:=am (jc (bq) hb);(try clear hb);(try clear hb2);(try clear hk);(try clear hi)))
                     go_ret
                     exact ⟨Y0,bq⟩
                   ·rw [if_neg c28] at H
                    exact absurd H (by simp)
                  ·rw [if_neg c27] at H
                   exact absurd H (by simp)
                 ·rw [if_neg c26] at H
                  have c26b0:decide (x56_4<(t247.length:Int))=false:=dzF c26
                  clear c26
                  have H':=am H
                  clear H
                  go_wp2
                  go_roundg k4
                  case measure=>have:=HK1.out;have:=HJ10.out;have:=HJ15.out;have:=HK4.out;omega
                  case rel=>exact ⟨(wrap64 ((wrap64 (x10_1+(wrap64 ((t247.length:Int) - 1))))+1)),(sq),H',⟨by have:=HK1.out;have:=HJ10.out;have:=HJ15.out;have:=HK4.out;omega⟩,⟨by (with_reducible repeat (first | apply Kd.jPb | apply Kd.jOb | apply Kd.jLb));exact Kd.jKb HO_9.out (fun _ hk=>trivial)⟩,⟨bq⟩⟩
              ·replace c23:=Bool.eq_false_iff.mpr c23
               subst c23
               have H1:(some false)=some r:=by rw [if_neg (show ¬ (false=true) by decide)] at H;exact H
               clear H
               have H:=H1
               clear H1
               obtain rfl:=Option.some.inj H
               go_wp2_with (first |((with_reducible refine jf (f:=54) rfl ?_);refine gL (some 49) Tryd.func54 #[.slice (some ad246) l0.length c0, .int .i64 (rd t242 x10_1)] ?_;(with_reducible refine (jL.calls kj15 _ _ l0 (rd t242 x10_1) t247 _ ?side1 ?side2 A21.out).mono ?_);(case side1=>exact cq (Kd.jH HR0.out HB.out));(case side2=>exact HC0.out);rintro e w34 ⟨v248,rfl,ho0,hb⟩;refine ⟨_,rfl,?_⟩;have HO249:=am (Kd.jRa (Kd.R_new' ho0 (Kd.R_lt (rq HO_9.out))) (jP (bq)));replace HO_9:=am (Kd.jGb (rq HO_9.out) (Kd.R_base ho0) hb);replace HB:=am (jc (bq) hb);(try clear hb);(try clear hb2);(try clear hk);(try clear hi);(try clear ho0);obtain ⟨Ao35,co35,eo35⟩:=Kd.jKa HO249.out;subst eo35) |((with_reducible refine jf (f:=55) rfl ?_);refine gL (some 52) Tryd.func55 #[.slice (some ad246) l0.length c0, .slice Ao35 t247.length co35] ?_;(with_reducible refine (jta.calls _ _ l0 _ _ t247 false _ ?side1 ?side2 ?side3 ?side4 A22.out).mono ?_);(case side1=>exact cq (Kd.jH HR0.out HB.out));(case side2=>exact HC0.out);(case side3=>exact cq (Kd.jT HO249.out).2.2);(case side4=>exact (Kd.jT HO249.out).2.1);rintro e w' ⟨rfl,⟨nd,rfl⟩⟩;refine ⟨_,rfl,?_⟩))
               go_ret
               exact ⟨Y0,bq⟩
             ·rw [if_neg c20] at H
              have c20b0:(((jb l0 (rd t242 x10_1)).f1) == 7)=false:=beq_eq_false_iff_ne.mpr c20
              have c20b1:(((jb l0 (rd t242 x10_1)).f1) != 7)=true:=bne_iff_ne.mpr c20
              have HC36:=am H
              clear H
              go_upto_if 75 with (fail)
              go_cut [75] (fun v75 wc=>∃ (kq:Nat) (x75_35:Bool),v75=.bool x75_35∧jD (jd.j4 kq l0 a3 t242 x10_1 (rd t242 x10_1) ((jb l0 (rd t242 x10_1)).f1) x75_35=some r)∧jD (kq≤kj15)∧jD (Kd.R (Kd.int .i64) 3 wc w.heap.size (fun _=>True) (.slice (some ad245) t242.length co12) t242)∧jD (Below w.heap.size w wc))
              case first =>
               have H:=HC36.out
               clear HC36
               by_cases c37:((jb l0 (rd t242 x10_1)).f1)=11
               ·rw [if_pos c37] at H
                have c37b0:(((jb l0 (rd t242 x10_1)).f1) == 11)=true:=beq_iff_eq.mpr c37
                have c37b1:(((jb l0 (rd t242 x10_1)).f1) != 11)=false:=bne_eq_false_iff_eq.mpr c37
                clear c37
                (first | rw [c37b0] |(simp only [jlb,job];rw [c37b0]) | skip)
                have H':=am H
                clear H
                go_wp2
                go_meet
                case rel=>exact ⟨_,((((jb l0 (rd t242 x10_1)).f1) == 11)),(sq),H',⟨by have:=HK1.out;have:=HJ10.out;have:=HJ15.out;first | omega | exact Nat.le_refl _⟩,⟨rq HO_9.out⟩,⟨bq⟩⟩
               ·rw [if_neg c37] at H
                have c37b0:(((jb l0 (rd t242 x10_1)).f1) == 11)=false:=beq_eq_false_iff_ne.mpr c37
                have c37b1:(((jb l0 (rd t242 x10_1)).f1) != 11)=true:=bne_iff_ne.mpr c37
                (first | rw [c37b0] |(simp only [jlb,job];rw [c37b0]) | skip)
                have H':=am H
                clear H
                go_wp2
                go_meet
                case rel=>exact ⟨_,((((jb l0 (rd t242 x10_1)).f1) == 12)),(sq),H',⟨by have:=HK1.out;have:=HJ10.out;have:=HJ15.out;first | omega | exact Nat.le_refl _⟩,⟨rq HO_9.out⟩,⟨bq⟩⟩
              case rest =>
               clear HC36
               try clear c1
               try clear c2
               try clear p2
               try clear q2
               try clear hx2
               try clear c3
               try clear c5
               try clear p6
               try clear c7
               try clear c7b0
               try clear c8
               try clear c8b0
               try clear c9
               try clear c9b0
               try clear c10
               try clear c10b0
               try clear c13
               try clear c13b0
               try clear c13b1
               try clear c14
               try clear c15
               try clear c17
               try clear c17b0
               try clear c17b1
               try clear c18
               try clear c18b0
               try clear c18b1
               try clear c19
               try clear c20
               try clear c20b0
               try clear c20b1
               try clear c23
               try clear p24
               try clear q24
               try clear hx24
               try clear p25
               try clear q25
               try clear hx25
               try clear c26
               try clear c26b0
               try clear c27
               try clear c27b0
               try clear c28
               try clear c28b0
               try clear c31
               try clear c32
               try clear c37
               try clear c37b0
               try clear c37b1
               try clear hx245_0
               try clear hx246_0
               try clear hx246_1
               try clear hx246_2
               try clear hx246_3
               try clear hx251_0
               try clear p2
               try clear p24
               try clear p245
               try clear p246
               try clear p251
               try clear p6
               try clear q2
               try clear q24
               try clear q245
               try clear q246
               try clear q251
               obtain ⟨kq,x75_35,rfl,HA,HJ35,HO_9,HB⟩:=hcut
               cases kq with
               | zero=>exact absurd HA.out (by simp [jd.j4])
               | succ kj35 =>
                have H:=HA.out
                clear HA
                simp only [jd.j4] at H
                by_cases c38:x75_35=true
                ·subst c38
                 have H1:((jS.f kj35 l0 (rd t242 x10_1)).bind fun t254=>(if a3=true then ((jd.f kj35 l0 (wrap64 ((rd t242 x10_1)+1)) t254 true).bind fun t255=>(if t255=true then (jd.l0 kj35 l0 a3 t242 (wrap64 (x10_1+1))) else (some false))) else ((jd.f kj35 l0 (wrap64 ((rd t242 x10_1)+1)) t254 (((jb l0 (rd t242 x10_1)).f1) == 12)).bind fun t256=>(if t256=true then (jd.l0 kj35 l0 a3 t242 (wrap64 (x10_1+1))) else (some false)))))=some r:=by rw [if_pos rfl] at H;exact H
                 clear H
                 have H:=H1
                 clear H1
                 replace H:=bzS H
                 obtain ⟨t254,A390,H⟩:=H
                 replace H:(if a3=true then ((jd.f kj35 l0 (wrap64 ((rd t242 x10_1)+1)) t254 true).bind fun t255=>(if t255=true then (jd.l0 kj35 l0 a3 t242 (wrap64 (x10_1+1))) else (some false))) else ((jd.f kj35 l0 (wrap64 ((rd t242 x10_1)+1)) t254 (((jb l0 (rd t242 x10_1)).f1) == 12)).bind fun t256=>(if t256=true then (jd.l0 kj35 l0 a3 t242 (wrap64 (x10_1+1))) else (some false))))=some r:=H
                 have A39:=am A390
                 clear A390
                 by_cases c40:a3=true
                 ·subst c40
                  have H1:((jd.f kj35 l0 (wrap64 ((rd t242 x10_1)+1)) t254 true).bind fun t255=>(if t255=true then (jd.l0 kj35 l0 true t242 (wrap64 (x10_1+1))) else (some false)))=some r:=by rw [if_pos rfl] at H;exact H
                  clear H
                  have H:=H1
                  clear H1
                  replace H:=bzS H
                  obtain ⟨t255,A410,H⟩:=H
                  replace H:(if t255=true then (jd.l0 kj35 l0 true t242 (wrap64 (x10_1+1))) else (some false))=some r:=H
                  have A41:=am A410
                  clear A410
                  by_cases c42:t255=true
                  ·subst c42
                   have H1:(jd.l0 kj35 l0 true t242 (wrap64 (x10_1+1)))=some r:=by rw [if_pos rfl] at H;exact H
                   clear H
                   have H:=H1
                   clear H1
                   have H':=am H
                   clear H
                   go_wp2_with (first |((with_reducible refine jf (f:=56) rfl ?_);refine gL (some 83) Tryd.func56 #[.slice (some ad246) l0.length c0, .int .i64 (rd t242 x10_1)] ?_;(with_reducible refine (jS.calls kj35 _ _ l0 (rd t242 x10_1) t254 _ ?side1 ?side2 A39.out).mono ?_);(case side1=>exact cq (Kd.jH HR0.out HB.out));(case side2=>exact HC0.out);rintro e w' ⟨rfl,⟨nd,rfl⟩⟩;refine ⟨_,rfl,?_⟩) |((with_reducible refine jf (f:=32) rfl ?_);refine gL (some 89) Tryd.func32 #[.slice (some ad246) l0.length c0, .int .i64 (wrap64 ((rd t242 x10_1)+1)), .int .i64 t254, .bool true] ?_;(with_reducible refine (ih kj35 (by have:=HK1.out;have:=HJ10.out;have:=HJ15.out;have:=HJ35.out;omega) _ _ l0 (wrap64 ((rd t242 x10_1)+1)) t254 true true _ ?side1 ?side2 A41.out).mono ?_);(case side1=>exact cq (Kd.jH HR0.out (bq)));(case side2=>exact HC0.out);rintro e w43 ⟨rfl,hb⟩;refine ⟨_,rfl,?_⟩;replace HO_9:=am (Kd.jqa (rq HO_9.out) hb);replace HB:=am (jc (bq) hb);(try clear hb);(try clear hb2);(try clear hk);(try clear hi)))
                   go_roundg kj35
                   case measure=>have:=HK1.out;have:=HJ10.out;have:=HJ15.out;have:=HJ35.out;omega
                   case rel=>exact ⟨(wrap64 (x10_1+1)),(sq),H',⟨by have:=HK1.out;have:=HJ10.out;have:=HJ15.out;have:=HJ35.out;omega⟩,⟨rq HO_9.out⟩,⟨bq⟩⟩
                  ·replace c42:=Bool.eq_false_iff.mpr c42
                   subst c42
                   have H1:(some false)=some r:=by rw [if_neg (show ¬ (false=true) by decide)] at H;exact H
                   clear H
                   have H:=H1
                   clear H1
                   obtain rfl:=Option.some.inj H
                   go_wp2_with (first |((with_reducible refine jf (f:=56) rfl ?_);refine gL (some 83) Tryd.func56 #[.slice (some ad246) l0.length c0, .int .i64 (rd t242 x10_1)] ?_;(with_reducible refine (jS.calls kj35 _ _ l0 (rd t242 x10_1) t254 _ ?side1 ?side2 A39.out).mono ?_);(case side1=>exact cq (Kd.jH HR0.out HB.out));(case side2=>exact HC0.out);rintro e w' ⟨rfl,⟨nd,rfl⟩⟩;refine ⟨_,rfl,?_⟩) |((with_reducible refine jf (f:=32) rfl ?_);refine gL (some 89) Tryd.func32 #[.slice (some ad246) l0.length c0, .int .i64 (wrap64 ((rd t242 x10_1)+1)), .int .i64 t254, .bool true] ?_;(with_reducible refine (ih kj35 (by have:=HK1.out;have:=HJ10.out;have:=HJ15.out;have:=HJ35.out;omega) _ _ l0 (wrap64 ((rd t242 x10_1)+1)) t254 true false _ ?side1 ?side2 A41.out).mono ?_);(case side1=>exact cq (Kd.jH HR0.out (bq)));(case side2=>exact HC0.out);rintro e w44 ⟨rfl,hb⟩;refine ⟨_,rfl,?_⟩;replace HO_9:=am (Kd.jqa (rq HO_9.out) hb);replace HB:=am (jc (bq) hb);(try clear hb);(try clear hb2);(try clear hk);(try clear hi)))
                   go_ret
                   exact ⟨Y0,bq⟩
                 ·replace c40:=Bool.eq_false_iff.mpr c40
                  subst c40
                  have H1:((jd.f kj35 l0 (wrap64 ((rd t242 x10_1)+1)) t254 (((jb l0 (rd t242 x10_1)).f1) == 12)).bind fun t256=>(if t256=true then (jd.l0 kj35 l0 false t242 (wrap64 (x10_1+1))) else (some false)))=some r:=by rw [if_neg (show ¬ (false=true) by decide)] at H;exact H
                  clear H
                  have H:=H1
                  clear H1
                  replace H:=bzS H
                  obtain ⟨t256,A450,H⟩:=H
                  replace H:(if t256=true then (jd.l0 kj35 l0 false t242 (wrap64 (x10_1+1))) else (some false))=some r:=H
                  have A45:=am A450
                  clear A450
                  by_cases c46:t256=true
                  ·subst c46
                   have H1:(jd.l0 kj35 l0 false t242 (wrap64 (x10_1+1)))=some r:=by rw [if_pos rfl] at H;exact H
                   clear H
                   have H:=H1
                   clear H1
                   have H':=am H
                   clear H
                   go_wp2_with (first |((with_reducible refine jf (f:=56) rfl ?_);refine gL (some 83) Tryd.func56 #[.slice (some ad246) l0.length c0, .int .i64 (rd t242 x10_1)] ?_;(with_reducible refine (jS.calls kj35 _ _ l0 (rd t242 x10_1) t254 _ ?side1 ?side2 A39.out).mono ?_);(case side1=>exact cq (Kd.jH HR0.out HB.out));(case side2=>exact HC0.out);rintro e w' ⟨rfl,⟨nd,rfl⟩⟩;refine ⟨_,rfl,?_⟩) |((with_reducible refine jf (f:=32) rfl ?_);refine gL (some 89) Tryd.func32 #[.slice (some ad246) l0.length c0, .int .i64 (wrap64 ((rd t242 x10_1)+1)), .int .i64 t254, .bool (((jb l0 (rd t242 x10_1)).f1) == 12)] ?_;(with_reducible refine (ih kj35 (by have:=HK1.out;have:=HJ10.out;have:=HJ15.out;have:=HJ35.out;omega) _ _ l0 (wrap64 ((rd t242 x10_1)+1)) t254 (((jb l0 (rd t242 x10_1)).f1) == 12) true _ ?side1 ?side2 A45.out).mono ?_);(case side1=>exact cq (Kd.jH HR0.out (bq)));(case side2=>exact HC0.out);rintro e w47 ⟨rfl,hb⟩;refine ⟨_,rfl,?_⟩;replace HO_9:=am (Kd.jqa (rq HO_9.out) hb);replace HB:=am (jc (bq) hb);(try clear hb);(try clear hb2);(try clear hk);(try clear hi)))
                   go_roundg kj35
                   case measure=>have:=HK1.out;have:=HJ10.out;have:=HJ15.out;have:=HJ35.out;omega
                   case rel=>exact ⟨(wrap64 (x10_1+1)),(sq),H',⟨by have:=HK1.out;have:=HJ10.out;have:=HJ15.out;have:=HJ35.out;omega⟩,⟨rq HO_9.out⟩,⟨bq⟩⟩
                  ·replace c46:=Bool.eq_false_iff.mpr c46
                   subst c46
                   have H1:(some false)=some r:=by rw [if_neg (show ¬ (false=true) by decide)] at H;exact H
                   clear H
                   have H:=H1
                   clear H1
                   obtain rfl:=Option.some.inj H
                   go_wp2_with (first |((with_reducible refine jf (f:=56) rfl ?_);refine gL (some 83) Tryd.func56 #[.slice (some ad246) l0.length c0, .int .i64 (rd t242 x10_1)] ?_;(with_reducible refine (jS.calls kj35 _ _ l0 (rd t242 x10_1) t254 _ ?side1 ?side2 A39.out).mono ?_);(case side1=>exact cq (Kd.jH HR0.out HB.out));(case side2=>exact HC0.out);rintro e w' ⟨rfl,⟨nd,rfl⟩⟩;refine ⟨_,rfl,?_⟩) |((with_reducible refine jf (f:=32) rfl ?_);refine gL (some 89) Tryd.func32 #[.slice (some ad246) l0.length c0, .int .i64 (wrap64 ((rd t242 x10_1)+1)), .int .i64 t254, .bool (((jb l0 (rd t242 x10_1)).f1) == 12)] ?_;(with_reducible refine (ih kj35 (by have:=HK1.out;have:=HJ10.out;have:=HJ15.out;have:=HJ35.out;omega) _ _ l0 (wrap64 ((rd t242 x10_1)+1)) t254 (((jb l0 (rd t242 x10_1)).f1) == 12) false _ ?side1 ?side2 A45.out).mono ?_);(case side1=>exact cq (Kd.jH HR0.out (bq)));(case side2=>exact HC0.out);rintro e w48 ⟨rfl,hb⟩;refine ⟨_,rfl,?_⟩;replace HO_9:=am (Kd.jqa (rq HO_9.out) hb);replace HB:=am (jc (bq) hb);(try clear hb);(try clear hb2);(try clear hk);(try clear hi)))
                   go_ret
                   exact ⟨Y0,bq⟩
                ·replace c38:=Bool.eq_false_iff.mpr c38
                 subst c38
                 have H1:(jd.l0 kj35 l0 a3 t242 (wrap64 (x10_1+1)))=some r:=by rw [if_neg (show ¬ (false=true) by decide)] at H;exact H
                 clear H
                 have H:=H1
                 clear H1
                 have H':=am H
                 clear H
                 go_wp2
                 go_roundg kj35
                 case measure=>have:=HK1.out;have:=HJ10.out;have:=HJ15.out;have:=HJ35.out;omega
                 case rel=>exact ⟨(wrap64 (x10_1+1)),(sq),H',⟨by have:=HK1.out;have:=HJ10.out;have:=HJ15.out;have:=HJ35.out;omega⟩,⟨rq HO_9.out⟩,⟨bq⟩⟩
      ·rw [if_neg c10] at H
       exact absurd H (by simp)
     ·rw [if_neg c9] at H
      exact absurd H (by simp)
    ·rw [if_neg c8] at H
     exact absurd H (by simp)
   ·rw [if_neg c7] at H
    have c7b0:decide (x10_1<(t242.length:Int))=false:=dzF c7
    clear c7
    obtain rfl:=Option.some.inj H
    obtain ⟨Ao49,co49,eo49⟩:=Kd.jKa HO_9.out
    subst eo49
    go_wp2
    go_ret
    exact ⟨Y0,bq⟩
def inB (a lo hi : Int) : Bool := decide (lo ≤ a) && decide (a ≤ hi)
theorem jYa (a lo hi : Int) : jv.f a lo hi = some (inB a lo hi) := by
 unfold jv.f inB
 by_cases h:a≥lo
 ·rw [if_pos h];simp [show lo≤a from h]
 ·rw [if_neg h];simp [show ¬ lo≤a from h]
theorem jFb (a b c d : Int) : jTa.f a b c d = some (inB b 7 12) := by
 unfold jTa.f
 rw [jYa];rfl
def VF (W : World) (B1 BL BT : Nat) (a x : S42) (tv : Value) : Prop :=
 W.heap[B1]?=some (.cells #[.int .i64 a.f0, .int .i64 a.f1, .int .i64 a.f2, .int .i64 a.f3] 42 (0,0))∧W.heap[BL]?=some (.cells #[.int .i64 x.f0, .int .i64 x.f1, .int .i64 x.f2, .int .i64 x.f3] 42 (0,0))∧W.cell? ⟨BT,0,none⟩=some tv
theorem VF.below {W W' : World} {B1 BL BT : Nat} {a x : S42} {tv : Value} (h : VF W B1 BL BT a x tv) (hb : Below W.heap.size W W') : VF W' B1 BL BT a x tv :=
 ⟨(hb.block _ (jEa h.1)).trans h.1,(hb.block _ (jEa h.2.1)).trans h.2.1,jk hb h.2.2⟩
theorem VF.cells {W : World} {B1 BL BT : Nat} {a x : S42} {tv : Value} (h : VF W B1 BL BT a x tv) :
  W.cell? ⟨B1,0,none⟩=some (.int .i64 a.f0)∧W.cell? ⟨B1,1,none⟩=some (.int .i64 a.f1)∧W.cell? ⟨B1,2,none⟩=some (.int .i64 a.f2)∧W.cell? ⟨B1,3,none⟩=some (.int .i64 a.f3) ∧
  W.cell? ⟨BL,0,none⟩=some (.int .i64 x.f0)∧W.cell? ⟨BL,1,none⟩=some (.int .i64 x.f1)∧W.cell? ⟨BL,2,none⟩=some (.int .i64 x.f2)∧W.cell? ⟨BL,3,none⟩=some (.int .i64 x.f3)∧W.cell? ⟨BT,0,none⟩=some tv :=
 ⟨(joa h.1 0).trans rfl,(joa h.1 1).trans rfl,(joa h.1 2).trans rfl,(joa h.1 3).trans rfl,(joa h.2.1 0).trans rfl,(joa h.2.1 1).trans rfl,(joa h.2.1 2).trans rfl,(joa h.2.1 3).trans rfl,h.2.2⟩
theorem VF.frozen {W : World} {B1 BL BT : Nat} {a x : S42} {tv : Value} (h : VF W B1 BL BT a x tv) : W.frozen? ⟨B1, 0, none⟩ = false ∧ W.frozen? ⟨B1, 1, none⟩ = false ∧ W.frozen? ⟨B1, 2, none⟩ = false ∧ W.frozen? ⟨B1, 3, none⟩ = false :=
 ⟨ja h.1 0,ja h.1 1,ja h.1 2,ja h.1 3⟩
theorem four_stored {W : World} {B T : Nat} {a b c d a' b' c' d' : Value} (h : W.heap[B]? = some (.cells #[a, b, c, d] T (0, 0))) :
  ((((W.setCell ⟨B,0,none⟩ a').setCell ⟨B,1,none⟩ b').setCell ⟨B,2,none⟩ c').setCell ⟨B,3,none⟩ d').heap[B]?=some (.cells #[a',b',c',d'] T (0,0)):=by
 have h0:=blk_set h 0 a'
 have h1:=blk_set h0 1 b'
 have h2:=blk_set h1 2 c'
 have h3:=blk_set h2 3 d'
 simpa using h3
theorem four_below {W w : World} {base B : Nat} {a' b' c' d' : Value} (h : Below base w W) (hB : base ≤ B) :
  Below base w ((((W.setCell ⟨B,0,none⟩ a').setCell ⟨B,1,none⟩ b').setCell ⟨B,2,none⟩ c').setCell ⟨B,3,none⟩ d') :=
 (((h.setCell (p:=⟨B,0,none⟩) hB _).setCell (p:=⟨B,1,none⟩) hB _).setCell (p:=⟨B,2,none⟩) hB _).setCell (p:=⟨B,3,none⟩) hB _
theorem four_far {W : World} {B C : Nat} {a' b' c' d' v : Value} (h : W.cell? ⟨C, 0, none⟩ = some v) (hne : B ≠ C) :
  ((((W.setCell ⟨B,0,none⟩ a').setCell ⟨B,1,none⟩ b').setCell ⟨B,2,none⟩ c').setCell ⟨B,3,none⟩ d').cell? ⟨C,0,none⟩=some v:=by
 have e:∀ j,(⟨B,j,none⟩:Addr)≠⟨C,0,none⟩:=fun j hj=>hne (by injection hj)
 rw [World.cell?_setCell_other (h:=e 3),World.cell?_setCell_other (h:=e 2),World.cell?_setCell_other (h:=e 1),World.cell?_setCell_other (h:=e 0)]
 exact h
def jo.bad (x last : S42) : Bool := !inB x.f0 0 5 || (inB last.f1 7 12 && decide (x.f0 ≠ last.f0 + 1)) || (!inB last.f1 7 12 && decide (last.f0 < x.f0))
def jo.go (k : Nat) (t : List S63) : List S42 → S42 → Option (Option S42)
 | [],last=>some (some last)
 | x :: xs,last=>(jba.f k x.f0 x.f1 x.f2 x.f3 t).bind fun v=>if v=false then some none else if jo.bad x last then some none else jo.go k t xs x
def jo.f (k : Nat) (l0_0 : List S63) (l1 : List S42) : Option Bool := (jl.f k l0_0).bind fun v =>
 if v=false then some false else if 24<l1.length then some false else
 (jo.go k l0_0 l1 ⟨-1,7,0,0⟩).bind fun q=>match q with
 | none=>some false
 | some last=>if l1.length=0 then jd.f k l1 0 (l1.length:Int) false else if inB last.f1 7 12 then some false else jd.f k l1 0 (l1.length:Int) false
theorem jo.step {k : Nat} {t : List S63} {p : List S42} {n : Nat} {last : S42} {q : Option S42} (hn : n < p.length) (h : jo.go k t (p.drop n) last = some q) :
  ∃ v,jba.f k p[n].f0 p[n].f1 p[n].f2 p[n].f3 t=some v∧(if v=false then some none else if jo.bad p[n] last then some none else jo.go k t (p.drop (n+1)) p[n])=some q:=by
 rw [List.drop_eq_getElem_cons hn] at h
 exact bzS h
set_option maxHeartbeats 8000000 in
set_option maxRecDepth 100000 in
theorem jo.calls (k : Nat) (A0_0 : Option Addr) (c0_0 : Nat) (l0_0 : List S63) (A1 : Option Addr) (c1 : Nat) (l1 : List S42) (r : Bool) (w : World) (hr0_0 : Kd.C k63 w A0_0 l0_0.length l0_0) (hc0_0 : l0_0.length ≤ c0_0) (hr1 : Kd.C k42 w A1 l1.length l1) (hc1 : l1.length ≤ c1) (h : jo.f k l0_0 l1 = some r) :
  Calls Tryd.prog 17 #[.agg #[.slice A0_0 l0_0.length c0_0], .slice A1 l1.length c1] w fun e w'=>e=.returned (.bool r)∧Below w.heap.size w w':=by
 have hu31:=Tryd.underlying31
 have hu42:=Tryd.underlying42
 have hm:l1.length≤9223372036854775807:=Kd.C_max hr1
 obtain ⟨v,hv,h⟩:=bzS h
 have HV:=am (fun W (hb:Below w.heap.size w W)=>jl.calls k A0_0 c0_0 l0_0 v W (Kd.jH hr0_0 hb) hc0_0 hv)
 have HR0:=am hr0_0
 have HR1:=am hr1
 clear hv hr0_0 hr1
 cases v with
 | false =>
  obtain rfl:false=r:=by simpa using h
  clear h
  go_enter Tryd.func17,Tryd.ntmps17
  go_wp2_with (go_at_call 28;refine (HV.out _ ((Below.refl _ _).alloc (Nat.le_refl _) _)).mono ?_;rintro e w' ⟨rfl,hb2⟩)
  go_ret
  exact ⟨rfl,((Below.refl _ _).alloc (Nat.le_refl _) _).trans (hb2.mono (by simp))⟩
 | true =>
  simp only [Bool.true_eq_false,if_false] at h
  by_cases h24:24<l1.length
  ·rw [if_pos h24] at h
   obtain rfl:false=r:=by simpa using h
   have h24b:decide (24<l1.length)=true:=dzT h24
   clear h
   go_enter Tryd.func17,Tryd.ntmps17
   go_wp2_with (go_at_call 28;refine (HV.out _ ((Below.refl _ _).alloc (Nat.le_refl _) _)).mono ?_;rintro e w' ⟨rfl,hb2⟩)
   go_ret
   exact ⟨rfl,((Below.refl _ _).alloc (Nat.le_refl _) _).trans (hb2.mono (by simp))⟩
  ·rw [if_neg h24] at h
   have h24b:decide (24<l1.length)=false:=dzF h24
   obtain ⟨q,hq,h⟩:=bzS h
   have H0:=am hq
   have HZ:=am h
   clear h hq
   go_enter Tryd.func17,Tryd.ntmps17
   go_wp2_with (go_at_call 28;refine (HV.out _ ((Below.refl _ _).alloc (Nat.le_refl _) _)).mono ?_;rintro e w2 ⟨rfl,hb2⟩;have HB2:=am (((Below.refl w.heap.size w).alloc (Nat.le_refl _) (.cells #[.slice A0_0 l0_0.length c0_0] 31)).trans (hb2.mono (by simp)));have hs2:w.heap.size<w2.heap.size:=Nat.lt_of_lt_of_le (by simp) hb2.size;have ht2:=jk hb2 (show (w.alloc (.cells #[.slice A0_0 l0_0.length c0_0] 31)).cell? ⟨w.heap.size,0,none⟩=some (.slice A0_0 l0_0.length c0_0) by simp);clear hb2)
   obtain ⟨B1,hB1⟩:∃ B1,B1=w2.heap.size:=⟨_,rfl⟩
   have HBK:=am (show (w2.alloc (.cells #[.int .i64 (-1), .int .i64 7, .int .i64 0, .int .i64 0] 42)).heap[B1]?=some (.cells #[.int .i64 (-1), .int .i64 7, .int .i64 0, .int .i64 0] 42 (0,0)) by rw [hB1];exact heap_alloc_new w2 _)
   have hBl:=am (HB2.out.alloc (Nat.le_of_lt hs2) (.cells #[.int .i64 (-1), .int .i64 7, .int .i64 0, .int .i64 0] 42))
   have hT:=am (show (w2.alloc (.cells #[.int .i64 (-1), .int .i64 7, .int .i64 0, .int .i64 0] 42)).cell? ⟨w.heap.size,0,none⟩=some (.slice A0_0 l0_0.length c0_0) by simp [World.cell?_alloc_old,Nat.ne_of_lt hs2,ht2])
   rw [← hB1]
   have hlt1:w.heap.size<B1:=by omega
   clear hB1
   generalize w2.alloc (.cells #[.int .i64 (-1), .int .i64 7, .int .i64 0, .int .i64 0] 42)=w3 at HBK hBl hT ⊢
   clear ht2 hs2 HB2 HV
   go_loopw [19] (fun i19 wr=>∃ (n:Nat) (last:S42),i19=.int .i64 n∧n≤l1.length∧-1≤last.f0∧last.f0≤5∧jD (jo.go k l0_0 (l1.drop n) last=some q)∧jD (wr.heap[B1]?=some (.cells #[.int .i64 last.f0, .int .i64 last.f1, .int .i64 last.f2, .int .i64 last.f3] 42 (0,0)))∧jD (wr.cell? ⟨w.heap.size,0,none⟩=some (.slice A0_0 l0_0.length c0_0))∧jD (Below w.heap.size w wr)) (fun i19 _=>l1.length - (intOf i19).toNat)
   case atStart=>exact ⟨0,⟨-1,7,0,0⟩,rfl,Nat.zero_le _,by simp,by simp,H0,HBK,hT,hBl⟩
   case round =>
    clear H0 HBK hT hBl
    obtain ⟨n,last,rfl,hn,hlo,hhi,HA,HBK,HT,HB⟩:=hrel
    have ht2:=HT.out
    have g0:wr.cell? ⟨B1,0,none⟩=some (.int .i64 last.f0):=(joa HBK.out 0).trans rfl
    have g1:wr.cell? ⟨B1,1,none⟩=some (.int .i64 last.f1):=(joa HBK.out 1).trans rfl
    have g2:wr.cell? ⟨B1,2,none⟩=some (.int .i64 last.f2):=(joa HBK.out 2).trans rfl
    have g3:wr.cell? ⟨B1,3,none⟩=some (.int .i64 last.f3):=(joa HBK.out 3).trans rfl
    have hBw:B1<wr.heap.size:=jEa HBK.out
    have hne:B1≠wr.heap.size:=by omega
    have hne2:w.heap.size≠wr.heap.size:=by omega
    have hTw:w.heap.size<wr.heap.size:=by omega
    by_cases hlt:n<l1.length
    ·obtain ⟨v,hv,hs⟩:=jo.step hlt HA.out
     clear HA
     obtain ⟨ad,rfl,hx0,hx1,hx2,hx3⟩:=jla HR1.out (n:Int) (by omega) (by omega)
     have hrd:jb l1 (n:Int)=l1[n]:=by simp [jb,List.getD_eq_getElem?_getD,hlt]
     rw [hrd,Int.toNat_natCast] at hx0 hx1 hx2 hx3
     clear hrd
     generalize l1[n]=x at hv hs hx0 hx1 hx2 hx3
     have hb:=HB.out
     replace hx0:=jk hb hx0
     replace hx1:=jk hb hx1
     replace hx2:=jk hb hx2
     replace hx3:=jk hb hx3
     clear hb
     have HG:=am (fun W (hb:Below w.heap.size w W)=>jba.calls k x.f0 x.f1 x.f2 x.f3 A0_0 c0_0 l0_0 v W (Kd.jH HR0.out hb) hc0_0 hv)
     clear hv
     cases v with
     | false =>
      obtain rfl:none=q:=by simpa using hs
      obtain rfl:false=r:=by simpa using HZ.out
      clear hs HZ
      go_wp2_with (go_at_call 29;refine (HG.out _ (HB.out.alloc HB.out.size _)).mono ?_;rintro e w4 ⟨rfl,hb4⟩)
      go_ret
      exact ⟨rfl,jK (HB.out.alloc HB.out.size _) (by simp;have:=HB.out.size;omega) hb4⟩
     | true =>
      simp only [Bool.true_eq_false,if_false] at hs
      have V0:=am (show VF (wr.alloc (.cells #[.int .i64 x.f0, .int .i64 x.f1, .int .i64 x.f2, .int .i64 x.f3] 42)) B1 wr.heap.size w.heap.size last x (.slice A0_0 l0_0.length c0_0) from ⟨(heap_alloc_old wr _ hBw).trans HBK.out,heap_alloc_new wr _,by rw [World.cell?_alloc_old _ _ _ hne2];exact HT.out⟩)
      have HO:=am (fun W=>jTa.calls last.f0 last.f1 last.f2 last.f3 _ W (jFb _ _ _ _))
      clear g0 g1 g2 g3
      have tok1:True:=trivial
      have HS:=am hs
      clear hs
      cases h5:inB x.f0 0 5 with
      | false =>
       have H5:=am h5
       obtain rfl:none=q:=by simpa [jo.bad,h5] using HS.out
       obtain rfl:false=r:=by simpa using HZ.out
       clear HS HZ h5
       go_wp2_with (first |(go_at_call 29;refine (HG.out _ (HB.out.alloc HB.out.size _)).mono ?_;rintro e w4 ⟨rfl,hb4⟩;have V4:=am (VF.below V0.out hb4);have HB4:=am (jK (HB.out.alloc HB.out.size _) (by simp;have:=HB.out.size;omega) hb4);clear hb4;obtain ⟨g0,g1,g2,g3,e0,e1,e2,e3,ht4⟩:=VF.cells V4.out) |(go_at_call 30;refine (jv.calls _ _ _ _ _ (jYa _ _ _)).mono ?_;rintro e w5 ⟨rfl,⟨nd,rfl⟩⟩;rw [H5.out]))
       go_ret
       exact ⟨rfl,je HB4.out _⟩
      | true =>
       have H5:=am h5
       have hx5:0≤x.f0∧x.f0≤5:=by simpa [inB] using h5
       cases ho:inB last.f1 7 12 with
       | true =>
        rw [ho] at HO
        by_cases hd:x.f0=last.f0+1
        ·have hb1:(x.f0 != last.f0+1)=false:=by simpa using hd
         have hbad:jo.bad x last=false:=by unfold jo.bad;rw [h5,ho];simp [hd]
         have HN:=am (by have:=HS.out;rw [hbad] at this;simpa using this:jo.go k l0_0 (l1.drop (n+1)) x=some q)
         clear hbad
         clear HS hd h5 ho
         go_wp2_with (first |(go_at_call 29;refine (HG.out _ (HB.out.alloc HB.out.size _)).mono ?_;rintro e w4 ⟨rfl,hb4⟩;have V4:=am (VF.below V0.out hb4);have HB4:=am (jK (HB.out.alloc HB.out.size _) (by simp;have:=HB.out.size;omega) hb4);clear hb4;obtain ⟨g0,g1,g2,g3,e0,e1,e2,e3,ht4⟩:=VF.cells V4.out) |(go_at_call 30;refine (jv.calls _ _ _ _ _ (jYa _ _ _)).mono ?_;rintro e w5 ⟨rfl,⟨nd,rfl⟩⟩;rw [H5.out]) |(go_at_call 31;have tk1:=tok1;clear tok1;refine (HO.out _).mono ?_;rintro e w6 ⟨rfl,hb6⟩;have V6:=am (VF.below (W:=World.drewN _ _) V4.out hb6);have HB6:=am (jK (w1:=World.drewN _ _) (show Below w.heap.size w (World.drewN _ _) from ⟨HB4.out.os,HB4.out.tape,HB4.out.output,HB4.out.size,HB4.out.block⟩) HB4.out.size hb6);clear hb6 g0 g1 g2 g3 e0 e1 e2 e3 ht4;obtain ⟨g0,g1,g2,g3,e0,e1,e2,e3,ht4⟩:=VF.cells V6.out) |(go_at_call 31;refine (HO.out _).mono ?_;rintro e w7 ⟨rfl,hb7⟩;have V7:=am (VF.below V6.out hb7);have HB7:=am (jK HB6.out HB6.out.size hb7);clear hb7 g0 g1 g2 g3 e0 e1 e2 e3 ht4;obtain ⟨g0,g1,g2,g3,e0,e1,e2,e3,ht4⟩:=VF.cells V7.out;obtain ⟨f0,f1,f2,f3⟩:=VF.frozen V7.out))
         go_roundw
         case rel=>exact ⟨n+1,x,by go_num,hlt,by omega,by omega,HN,⟨four_stored V7.out.1⟩,⟨four_far V7.out.2.2 (by omega)⟩,⟨four_below HB7.out (by omega)⟩⟩
         case measure=>simp [intOf];omega
        ·have hb1:(x.f0 != last.f0+1)=true:=by simpa using hd
         obtain rfl:none=q:=by simpa [jo.bad,h5,ho,hd] using HS.out
         obtain rfl:false=r:=by simpa using HZ.out
         clear HS HZ hd h5 ho
         go_wp2_with (first |(go_at_call 29;refine (HG.out _ (HB.out.alloc HB.out.size _)).mono ?_;rintro e w4 ⟨rfl,hb4⟩;have V4:=am (VF.below V0.out hb4);have HB4:=am (jK (HB.out.alloc HB.out.size _) (by simp;have:=HB.out.size;omega) hb4);clear hb4;obtain ⟨g0,g1,g2,g3,e0,e1,e2,e3,ht4⟩:=VF.cells V4.out) |(go_at_call 30;refine (jv.calls _ _ _ _ _ (jYa _ _ _)).mono ?_;rintro e w5 ⟨rfl,⟨nd,rfl⟩⟩;rw [H5.out]) |(go_at_call 31;have tk1:=tok1;clear tok1;refine (HO.out _).mono ?_;rintro e w6 ⟨rfl,hb6⟩;have V6:=am (VF.below (W:=World.drewN _ _) V4.out hb6);have HB6:=am (jK (w1:=World.drewN _ _) (show Below w.heap.size w (World.drewN _ _) from ⟨HB4.out.os,HB4.out.tape,HB4.out.output,HB4.out.size,HB4.out.block⟩) HB4.out.size hb6);clear hb6 g0 g1 g2 g3 e0 e1 e2 e3 ht4;obtain ⟨g0,g1,g2,g3,e0,e1,e2,e3,ht4⟩:=VF.cells V6.out))
         go_ret
         exact ⟨rfl,HB6.out⟩
       | false =>
        rw [ho] at HO
        by_cases hd:last.f0<x.f0
        ·have hb1:decide (last.f0<x.f0)=true:=dzT hd
         have hbad:jo.bad x last=true:=by unfold jo.bad;rw [h5,ho];simp [hd]
         obtain rfl:none=q:=by have:=HS.out;rw [hbad] at this;simpa using this
         obtain rfl:false=r:=by simpa using HZ.out
         clear HS HZ hd h5 ho hbad
         go_wp2_with (first |(go_at_call 29;refine (HG.out _ (HB.out.alloc HB.out.size _)).mono ?_;rintro e w4 ⟨rfl,hb4⟩;have V4:=am (VF.below V0.out hb4);have HB4:=am (jK (HB.out.alloc HB.out.size _) (by simp;have:=HB.out.size;omega) hb4);clear hb4;obtain ⟨g0,g1,g2,g3,e0,e1,e2,e3,ht4⟩:=VF.cells V4.out) |(go_at_call 30;refine (jv.calls _ _ _ _ _ (jYa _ _ _)).mono ?_;rintro e w5 ⟨rfl,⟨nd,rfl⟩⟩;rw [H5.out]) |(go_at_call 31;have tk1:=tok1;clear tok1;refine (HO.out _).mono ?_;rintro e w6 ⟨rfl,hb6⟩;have V6:=am (VF.below (W:=World.drewN _ _) V4.out hb6);have HB6:=am (jK (w1:=World.drewN _ _) (show Below w.heap.size w (World.drewN _ _) from ⟨HB4.out.os,HB4.out.tape,HB4.out.output,HB4.out.size,HB4.out.block⟩) HB4.out.size hb6);clear hb6 g0 g1 g2 g3 e0 e1 e2 e3 ht4;obtain ⟨g0,g1,g2,g3,e0,e1,e2,e3,ht4⟩:=VF.cells V6.out) |(go_at_call 31;refine (HO.out _).mono ?_;rintro e w7 ⟨rfl,hb7⟩;have V7:=am (VF.below V6.out hb7);have HB7:=am (jK HB6.out HB6.out.size hb7);clear hb7 g0 g1 g2 g3 e0 e1 e2 e3 ht4;obtain ⟨g0,g1,g2,g3,e0,e1,e2,e3,ht4⟩:=VF.cells V7.out;obtain ⟨f0,f1,f2,f3⟩:=VF.frozen V7.out))
         go_ret
         exact ⟨rfl,HB7.out⟩
        ·have hb1:decide (last.f0<x.f0)=false:=dzF hd
         have hbad:jo.bad x last=false:=by unfold jo.bad;rw [h5,ho];simp [hd]
         have HN:=am (by have:=HS.out;rw [hbad] at this;simpa using this:jo.go k l0_0 (l1.drop (n+1)) x=some q)
         clear hbad HS hd h5 ho
         go_wp2_with (first |(go_at_call 29;refine (HG.out _ (HB.out.alloc HB.out.size _)).mono ?_;rintro e w4 ⟨rfl,hb4⟩;have V4:=am (VF.below V0.out hb4);have HB4:=am (jK (HB.out.alloc HB.out.size _) (by simp;have:=HB.out.size;omega) hb4);clear hb4;obtain ⟨g0,g1,g2,g3,e0,e1,e2,e3,ht4⟩:=VF.cells V4.out) |(go_at_call 30;refine (jv.calls _ _ _ _ _ (jYa _ _ _)).mono ?_;rintro e w5 ⟨rfl,⟨nd,rfl⟩⟩;rw [H5.out]) |(go_at_call 31;have tk1:=tok1;clear tok1;refine (HO.out _).mono ?_;rintro e w6 ⟨rfl,hb6⟩;have V6:=am (VF.below (W:=World.drewN _ _) V4.out hb6);have HB6:=am (jK (w1:=World.drewN _ _) (show Below w.heap.size w (World.drewN _ _) from ⟨HB4.out.os,HB4.out.tape,HB4.out.output,HB4.out.size,HB4.out.block⟩) HB4.out.size hb6);clear hb6 g0 g1 g2 g3 e0 e1 e2 e3 ht4;obtain ⟨g0,g1,g2,g3,e0,e1,e2,e3,ht4⟩:=VF.cells V6.out) |(go_at_call 31;refine (HO.out _).mono ?_;rintro e w7 ⟨rfl,hb7⟩;have V7:=am (VF.below V6.out hb7);have HB7:=am (jK HB6.out HB6.out.size hb7);clear hb7 g0 g1 g2 g3 e0 e1 e2 e3 ht4;obtain ⟨g0,g1,g2,g3,e0,e1,e2,e3,ht4⟩:=VF.cells V7.out;obtain ⟨f0,f1,f2,f3⟩:=VF.frozen V7.out))
         go_roundw
         case rel=>exact ⟨n+1,x,by go_num,hlt,by omega,by omega,HN,⟨four_stored V7.out.1⟩,⟨four_far V7.out.2.2 (by omega)⟩,⟨four_below HB7.out (by omega)⟩⟩
         case measure=>simp [intOf];omega
    ·have hgo:=HA.out
     rw [List.drop_eq_nil_of_le (by omega)] at hgo
     obtain rfl:some last=q:=by simpa [jo.go] using hgo
     clear hgo HA
     have HY:=am HZ.out
     clear HZ
     by_cases h0:l1.length=0
     ·have hy:=HY.out
      simp only [if_pos h0] at hy
      have HQ:=am (fun W (hb:Below w.heap.size w W)=>jd.calls k A1 c1 l1 0 (l1.length:Int) false r W (Kd.jH HR1.out hb) hc1 hy)
      have HBX:=HB.out
      clear hy HY
      have hz1:((l1.length:Int) == 0)=true:=by simp [h0]
      have hz2:(l1.length == 0)=true:=by simp [h0]
      clear h0
      go_wp2_with (first |(go_at_call 32;refine (HQ.out _ HBX).mono ?_;rintro e w9 ⟨rfl,hb9⟩;have HB9:=am (jK HBX HBX.size hb9)))
      go_ret
      exact ⟨rfl,HB9.out⟩
     ·have hz1:((l1.length:Int) == 0)=false:=by simpa using h0
      have hz2:(l1.length == 0)=false:=by simpa using h0
      have HO:=am (fun W=>jTa.calls last.f0 last.f1 last.f2 last.f3 _ W (jFb _ _ _ _))
      have hy:=HY.out
      simp only [if_neg h0] at hy
      clear HY
      cases ho:inB last.f1 7 12 with
      | true =>
       rw [ho] at HO hy
       obtain rfl:false=r:=by simpa using hy
       clear hy ho h0
       go_wp2_with (first |(go_at_call 31;refine (HO.out _).mono ?_;rintro e w6 ⟨rfl,hb6⟩;have HBX:=jK HB.out HB.out.size hb6;clear hb6))
       go_ret
       exact ⟨rfl,HBX⟩
      | false =>
       rw [ho] at HO hy
       simp only [Bool.false_eq_true,if_false] at hy
       have HQ:=am (fun W (hb:Below w.heap.size w W)=>jd.calls k A1 c1 l1 0 (l1.length:Int) false r W (Kd.jH HR1.out hb) hc1 hy)
       clear hy ho h0
       go_wp2_with (first |(go_at_call 31;refine (HO.out _).mono ?_;rintro e w6 ⟨rfl,hb6⟩;have HBX:=jK HB.out HB.out.size hb6;clear hb6) |(go_at_call 32;refine (HQ.out _ HBX).mono ?_;rintro e w9 ⟨rfl,hb9⟩;have HB9:=am (jK HBX HBX.size hb9)))
       go_ret
       exact ⟨rfl,HB9.out⟩
def bits_Mul32.f (a0 : Int) (a1 : Int) : Option (Int × Int) := some (((IntKind.u64.wrap ((IntKind.u64.wrap (a0)) * (IntKind.u64.wrap (a1)))) / 4294967296) % 4294967296, (IntKind.u64.wrap ((IntKind.u64.wrap (a0)) * (IntKind.u64.wrap (a1)))) % 4294967296)
set_option maxHeartbeats 8000000 in
set_option maxRecDepth 100000 in
theorem bits_Mul32.calls (a0 : Int) (a1 : Int) (r1 : Int) (r2 : Int) (w : World) (h : bits_Mul32.f a0 a1 = some (r1, r2)) :
  Calls Tryd.prog 67 #[.int .u32 a0, .int .u32 a1] w fun e w'=>e=.returned (.tuple #[.int .u32 r1, .int .u32 r2])∧jAa w w':=by
 have H:(some (((IntKind.u64.wrap ((IntKind.u64.wrap (a0)) * (IntKind.u64.wrap (a1)))) / 4294967296) % 4294967296,(IntKind.u64.wrap ((IntKind.u64.wrap (a0)) * (IntKind.u64.wrap (a1)))) % 4294967296))=some (r1,r2):=h
 clear h
 simp only [Option.some.injEq,Prod.mk.injEq] at H
 obtain ⟨rfl,rfl⟩:=H
 go_enter Tryd.func67,Tryd.ntmps67
 go_wp2
 go_ret2
 exact ⟨sq,Y2⟩
def bits_Mul64.f (a0 : Int) (a1 : Int) : Option (Int × Int) := some (IntKind.u64.wrap ((IntKind.u64.wrap ((IntKind.u64.wrap ((a0 / 4294967296) * (a1 / 4294967296))) + ((IntKind.u64.wrap ((IntKind.u64.wrap ((a0 / 4294967296) * (Go.bits .and .u64 a1 4294967295))) + ((IntKind.u64.wrap ((Go.bits .and .u64 a0 4294967295) * (Go.bits .and .u64 a1 4294967295))) / 4294967296))) / 4294967296))) + ((IntKind.u64.wrap ((Go.bits .and .u64 (IntKind.u64.wrap ((IntKind.u64.wrap ((a0 / 4294967296) * (Go.bits .and .u64 a1 4294967295))) + ((IntKind.u64.wrap ((Go.bits .and .u64 a0 4294967295) * (Go.bits .and .u64 a1 4294967295))) / 4294967296))) 4294967295) + (IntKind.u64.wrap ((Go.bits .and .u64 a0 4294967295) * (a1 / 4294967296))))) / 4294967296)), IntKind.u64.wrap (a0 * a1))
set_option maxHeartbeats 8000000 in
set_option maxRecDepth 100000 in
theorem bits_Mul64.calls (a0 : Int) (a1 : Int) (r1 : Int) (r2 : Int) (w : World) (h : bits_Mul64.f a0 a1 = some (r1, r2)) :
  Calls Tryd.prog 68 #[.int .u64 a0, .int .u64 a1] w fun e w'=>e=.returned (.tuple #[.int .u64 r1, .int .u64 r2])∧jAa w w':=by
 have H:(some (IntKind.u64.wrap ((IntKind.u64.wrap ((IntKind.u64.wrap ((a0 / 4294967296) * (a1 / 4294967296)))+((IntKind.u64.wrap ((IntKind.u64.wrap ((a0 / 4294967296) * (Go.bits .and .u64 a1 4294967295)))+((IntKind.u64.wrap ((Go.bits .and .u64 a0 4294967295) * (Go.bits .and .u64 a1 4294967295))) / 4294967296))) / 4294967296)))+((IntKind.u64.wrap ((Go.bits .and .u64 (IntKind.u64.wrap ((IntKind.u64.wrap ((a0 / 4294967296) * (Go.bits .and .u64 a1 4294967295)))+((IntKind.u64.wrap ((Go.bits .and .u64 a0 4294967295) * (Go.bits .and .u64 a1 4294967295))) / 4294967296))) 4294967295)+(IntKind.u64.wrap ((Go.bits .and .u64 a0 4294967295) * (a1 / 4294967296))))) / 4294967296)),IntKind.u64.wrap (a0 * a1)))=some (r1,r2):=h
 clear h
 simp only [Option.some.injEq,Prod.mk.injEq] at H
 obtain ⟨rfl,rfl⟩:=H
 go_enter Tryd.func68,Tryd.ntmps68
 go_wp2
 go_ret2
 exact ⟨sq,Y2⟩
def bits_Mul.f (a0 : Int) (a1 : Int) : Option (Int × Int) := (bits_Mul64.f a0 a1).bind fun bt257 => (some (bt257.1, bt257.2))
set_option maxHeartbeats 8000000 in
set_option maxRecDepth 100000 in
theorem bits_Mul.calls (a0 : Int) (a1 : Int) (r1 : Int) (r2 : Int) (w : World) (h : bits_Mul.f a0 a1 = some (r1, r2)) :
  Calls Tryd.prog 58 #[.int .u64 a0, .int .u64 a1] w fun e w'=>e=.returned (.tuple #[.int .u64 r1, .int .u64 r2])∧jAa w w':=by
 have H:((bits_Mul64.f a0 a1).bind fun bt257=>(some (bt257.1,bt257.2)))=some (r1,r2):=h
 clear h
 replace H:=bzS H
 obtain ⟨⟨t257,t258⟩,A30,H⟩:=H
 replace H:(some (t257,t258))=some (r1,r2):=H
 have A3:=am A30
 clear A30
 simp only [Option.some.injEq,Prod.mk.injEq] at H
 obtain ⟨rfl,rfl⟩:=H
 go_enter Tryd.func58,Tryd.ntmps58
 go_wp2_with (first |((with_reducible refine jf (f:=68) rfl ?_);refine gL (some 25) Tryd.func68 #[.int .u64 a0, .int .u64 a1] ?_;(with_reducible refine (bits_Mul64.calls a0 a1 t257 t258 _ A3.out).mono ?_);rintro e w' ⟨rfl,⟨nd,rfl⟩⟩;refine ⟨_,rfl,?_⟩))
 go_ret2
 exact ⟨sq,Y2⟩
def stringslite_HasPrefix.f (a0 : ByteArray) (a1 : ByteArray) : Option (Bool) := if (a0.size : Int) ≥ (a1.size : Int) then (if 0 ≤ (a1.size : Int) then (if (a1.size : Int) ≤ (a0.size : Int) then (some ((a0.extract 0 ((a1.size : Int) : Int).toNat).toList == a1.toList)) else (none)) else (none)) else (some false)
set_option maxHeartbeats 8000000 in
set_option maxRecDepth 100000 in
theorem stringslite_HasPrefix.calls (a0 : ByteArray) (a1 : ByteArray) (r : Bool) (w : World) (h : stringslite_HasPrefix.f a0 a1 = some r) :
  Calls Tryd.prog 69 #[.string a0, .string a1] w fun e w'=>e=.returned (.bool r)∧jAa w w':=by
 have H:(if (a0.size:Int)≥(a1.size:Int) then (if 0≤(a1.size:Int) then (if (a1.size:Int)≤(a0.size:Int) then (some ((a0.extract 0 ((a1.size:Int):Int).toNat).toList == a1.toList)) else (none)) else (none)) else (some false))=some r:=h
 clear h
 by_cases c3:(a0.size:Int)≥(a1.size:Int)
 ·rw [if_pos c3] at H
  have c3b0:decide ((a1.size:Int)≤(a0.size:Int))=true:=dzT c3
  have c3b1:decide (a1.size≤a0.size)=true:=dzT (Int.ofNat_le.mp c3)
  clear c3
  by_cases c4:0≤(a1.size:Int)
  ·rw [if_pos c4] at H
   have c4b0:=ezT c4
   have c4b1:decide (0≤(a1.size:Int))=true:=dzT c4
   clear c4
   by_cases c5:(a1.size:Int)≤(a0.size:Int)
   ·rw [if_pos c5] at H
    have c5b0:=ezT c5
    have c5b1:decide ((a1.size:Int)≤(a0.size:Int))=true:=dzT c5
    clear c5
    obtain rfl:=Option.some.inj H
    go_enter Tryd.func69,Tryd.ntmps69
    go_wp2
    go_ret
    exact ⟨sq,Y2⟩
   ·rw [if_neg c5] at H
    exact absurd H (by simp)
  ·rw [if_neg c4] at H
   exact absurd H (by simp)
 ·rw [if_neg c3] at H
  have c3b0:decide ((a1.size:Int)≤(a0.size:Int))=false:=dzF c3
  have c3b1:decide (a1.size≤a0.size)=false:=dzF (fun h=>c3 (Int.ofNat_le.mpr h))
  clear c3
  obtain rfl:=Option.some.inj H
  go_enter Tryd.func69,Tryd.ntmps69
  go_wp2
  go_ret
  exact ⟨sq,Y2⟩
def jHa.f  : Option (List ByteArray) := some (([(⟨#[112, 97, 115, 115]⟩ : ByteArray), (⟨#[108, 111, 103]⟩ : ByteArray), (⟨#[114, 97, 105, 115, 101]⟩ : ByteArray), (⟨#[97, 103, 97, 105, 110]⟩ : ByteArray), (⟨#[114, 101, 116, 117, 114, 110]⟩ : ByteArray), (⟨#[98, 114, 101, 97, 107]⟩ : ByteArray), (⟨#[99, 111, 110, 116, 105, 110, 117, 101]⟩ : ByteArray), (⟨#[116, 114, 121]⟩ : ByteArray), (⟨#[101, 120, 99, 101, 112, 116]⟩ : ByteArray), (⟨#[101, 108, 115, 101]⟩ : ByteArray), (⟨#[102, 105, 110, 97, 108, 108, 121]⟩ : ByteArray), (⟨#[119, 105, 116, 104]⟩ : ByteArray), (⟨#[108, 111, 111, 112]⟩ : ByteArray)] : List ByteArray))
set_option maxHeartbeats 8000000 in
set_option maxRecDepth 100000 in
theorem jHa.calls  (r : List ByteArray) (w : World) (h : jHa.f  = some r) :
  Calls Tryd.prog 35 #[] w fun e w'=>∃ v0_:Value,e=.returned (v0_)∧Kd.R Kd.string 9 w' w.heap.size (fun _=>True) v0_ r∧Below w.heap.size w w':=by
 have HB:=am (Below.refl w.heap.size w)
 have H:(some (([(⟨#[112,97,115,115]⟩:ByteArray),(⟨#[108,111,103]⟩:ByteArray),(⟨#[114,97,105,115,101]⟩:ByteArray),(⟨#[97,103,97,105,110]⟩:ByteArray),(⟨#[114,101,116,117,114,110]⟩:ByteArray),(⟨#[98,114,101,97,107]⟩:ByteArray),(⟨#[99,111,110,116,105,110,117,101]⟩:ByteArray),(⟨#[116,114,121]⟩:ByteArray),(⟨#[101,120,99,101,112,116]⟩:ByteArray),(⟨#[101,108,115,101]⟩:ByteArray),(⟨#[102,105,110,97,108,108,121]⟩:ByteArray),(⟨#[119,105,116,104]⟩:ByteArray),(⟨#[108,111,111,112]⟩:ByteArray)]:List ByteArray)))=some r:=h
 clear h
 obtain ⟨y260,hy260⟩:∃ y_:List ByteArray,y_=(([(⟨#[112,97,115,115]⟩:ByteArray),(⟨#[108,111,103]⟩:ByteArray),(⟨#[114,97,105,115,101]⟩:ByteArray),(⟨#[97,103,97,105,110]⟩:ByteArray),(⟨#[114,101,116,117,114,110]⟩:ByteArray),(⟨#[98,114,101,97,107]⟩:ByteArray),(⟨#[99,111,110,116,105,110,117,101]⟩:ByteArray),(⟨#[116,114,121]⟩:ByteArray),(⟨#[101,120,99,101,112,116]⟩:ByteArray),(⟨#[101,108,115,101]⟩:ByteArray),(⟨#[102,105,110,97,108,108,121]⟩:ByteArray),(⟨#[119,105,116,104]⟩:ByteArray),(⟨#[108,111,111,112]⟩:ByteArray)]:List ByteArray)):=⟨_,rfl⟩
 replace H:(some y260)=some r:=by first |(rw [hy260];with_reducible exact H) |(have H2_:=(Option.bind_some _ _).symm.trans H;rw [hy260];with_reducible exact H2_) |(have H2_:=(Option.bind_some _ _).symm.trans H;with_reducible exact H2_) | with_reducible exact H |(rw [hy260];exact H) | exact H
 have Ny260:=am hy260
 clear hy260
 obtain rfl:=Option.some.inj H
 go_enter Tryd.func35,Tryd.ntmps35
 go_wp2_with (first |((with_reducible refine jN (N:=1) rfl ?_);refine Kd.R_lit Kd.string _ 9 ?hg (N:=1) ?hd (xs:=([(⟨#[112,97,115,115]⟩:ByteArray),(⟨#[108,111,103]⟩:ByteArray),(⟨#[114,97,105,115,101]⟩:ByteArray),(⟨#[97,103,97,105,110]⟩:ByteArray),(⟨#[114,101,116,117,114,110]⟩:ByteArray),(⟨#[98,114,101,97,107]⟩:ByteArray),(⟨#[99,111,110,116,105,110,117,101]⟩:ByteArray),(⟨#[116,114,121]⟩:ByteArray),(⟨#[101,120,99,101,112,116]⟩:ByteArray),(⟨#[101,108,115,101]⟩:ByteArray),(⟨#[102,105,110,97,108,108,121]⟩:ByteArray),(⟨#[119,105,116,104]⟩:ByteArray),(⟨#[108,111,111,112]⟩:ByteArray)]:List ByteArray)) (inner:=[.string (⟨#[112,97,115,115]⟩:ByteArray), .string (⟨#[108,111,103]⟩:ByteArray), .string (⟨#[114,97,105,115,101]⟩:ByteArray), .string (⟨#[97,103,97,105,110]⟩:ByteArray), .string (⟨#[114,101,116,117,114,110]⟩:ByteArray), .string (⟨#[98,114,101,97,107]⟩:ByteArray), .string (⟨#[99,111,110,116,105,110,117,101]⟩:ByteArray), .string (⟨#[116,114,121]⟩:ByteArray), .string (⟨#[101,120,99,101,112,116]⟩:ByteArray), .string (⟨#[101,108,115,101]⟩:ByteArray), .string (⟨#[102,105,110,97,108,108,121]⟩:ByteArray), .string (⟨#[119,105,116,104]⟩:ByteArray), .string (⟨#[108,111,111,112]⟩:ByteArray)]) (ok:=fun _=>True) (okp:=fun _=>True) ?hr ?hp (fun _ hk=>hk) trivial (Below.refl _ _) (Nat.le_refl _) (by simp) ?_;(case hd=>rfl);(case hg=>rfl);(case hr=>exact Y11);(case hp=>exact (Reps.one (show Kd.M Kd.string _ _ _ (⟨#[112,97,115,115]⟩:ByteArray) [.string (⟨#[112,97,115,115]⟩:ByteArray)] from rfl) (Reps.one (show Kd.M Kd.string _ _ _ (⟨#[108,111,103]⟩:ByteArray) [.string (⟨#[108,111,103]⟩:ByteArray)] from rfl) (Reps.one (show Kd.M Kd.string _ _ _ (⟨#[114,97,105,115,101]⟩:ByteArray) [.string (⟨#[114,97,105,115,101]⟩:ByteArray)] from rfl) (Reps.one (show Kd.M Kd.string _ _ _ (⟨#[97,103,97,105,110]⟩:ByteArray) [.string (⟨#[97,103,97,105,110]⟩:ByteArray)] from rfl) (Reps.one (show Kd.M Kd.string _ _ _ (⟨#[114,101,116,117,114,110]⟩:ByteArray) [.string (⟨#[114,101,116,117,114,110]⟩:ByteArray)] from rfl) (Reps.one (show Kd.M Kd.string _ _ _ (⟨#[98,114,101,97,107]⟩:ByteArray) [.string (⟨#[98,114,101,97,107]⟩:ByteArray)] from rfl) (Reps.one (show Kd.M Kd.string _ _ _ (⟨#[99,111,110,116,105,110,117,101]⟩:ByteArray) [.string (⟨#[99,111,110,116,105,110,117,101]⟩:ByteArray)] from rfl) (Reps.one (show Kd.M Kd.string _ _ _ (⟨#[116,114,121]⟩:ByteArray) [.string (⟨#[116,114,121]⟩:ByteArray)] from rfl) (Reps.one (show Kd.M Kd.string _ _ _ (⟨#[101,120,99,101,112,116]⟩:ByteArray) [.string (⟨#[101,120,99,101,112,116]⟩:ByteArray)] from rfl) (Reps.one (show Kd.M Kd.string _ _ _ (⟨#[101,108,115,101]⟩:ByteArray) [.string (⟨#[101,108,115,101]⟩:ByteArray)] from rfl) (Reps.one (show Kd.M Kd.string _ _ _ (⟨#[102,105,110,97,108,108,121]⟩:ByteArray) [.string (⟨#[102,105,110,97,108,108,121]⟩:ByteArray)] from rfl) (Reps.one (show Kd.M Kd.string _ _ _ (⟨#[119,105,116,104]⟩:ByteArray) [.string (⟨#[119,105,116,104]⟩:ByteArray)] from rfl) (Reps.one (show Kd.M Kd.string _ _ _ (⟨#[108,111,111,112]⟩:ByteArray) [.string (⟨#[108,111,111,112]⟩:ByteArray)] from rfl) (Reps.none _ _)))))))))))))));intro v261 w1 ho2 hb hg_ hnew_;clear hg_ hnew_;(first | rw [← Ny260.out] at ho2 |(simp only [Int.reduceToNat] at ho2;rw [← Ny260.out] at ho2));have HO262:=am (Kd.jRa ho2 (jP (bq)));replace HB:=am (jc (bq) hb);clear hb ho2))
 go_ret
 exact ⟨_,Y0,rq HO262.out,bq⟩
def sh171_ren : Go.Shelf.Ren := ⟨fun | 171 => 36 | 243 => 62 | 246 => 71 | 283 => 74 | 284 => 75 | 285 => 76 | 286 => 77 | 129 => 80 | 317 => 79 | 318 => 81 | 319 => 82 | 320 => 83 | 337 => 84 | 338 => 85 | n => n, fun | 3 => 3 | 9 => 9 | 2 => 2 | 4 => 4 | 171 => 104 | 0 => 0 | 53 => 99 | 37 => 46 | 5 => 5 | 173 => 107 | 212 => 111 | 51 => 96 | 20 => 20 | 213 => 112 | 46 => 87 | 232 => 115 | 233 => 116 | n => n, fun | 17 => 1 | 18 => 2 | 19 => 3 | n => n⟩
theorem sh171 : Go.Proofs.Lays.n171 Tryd.prog sh171_ren := {
 mixed:=by kernel_rfl
 f129:=Tryd.func80.trans (congrArg some (by kernel_rfl))
 f171:=Tryd.func36.trans (congrArg some (by kernel_rfl))
 f243:=Tryd.func62.trans (congrArg some (by kernel_rfl))
 f246:=Tryd.func71.trans (congrArg some (by kernel_rfl))
 f283:=Tryd.func74.trans (congrArg some (by kernel_rfl))
 f284:=Tryd.func75.trans (congrArg some (by kernel_rfl))
 f285:=Tryd.func76.trans (congrArg some (by kernel_rfl))
 f286:=Tryd.func77.trans (congrArg some (by kernel_rfl))
 f317:=Tryd.func79.trans (congrArg some (by kernel_rfl))
 f318:=Tryd.func81.trans (congrArg some (by kernel_rfl))
 f319:=Tryd.func82.trans (congrArg some (by kernel_rfl))
 f320:=Tryd.func83.trans (congrArg some (by kernel_rfl))
 f337:=Tryd.func84.trans (congrArg some (by kernel_rfl))
 f338:=Tryd.func85.trans (congrArg some (by kernel_rfl))
 t0:=Tryd.underlying0
 a0:=Tryd.isAgg0
 z0:=Tryd.sizeOf0
 v0:=Tryd.zeroValue0
 t2:=Tryd.underlying2
 a2:=Tryd.isAgg2
 z2:=Tryd.sizeOf2
 v2:=Tryd.zeroValue2
 t3:=Tryd.underlying3
 a3:=Tryd.isAgg3
 z3:=Tryd.sizeOf3
 v3:=Tryd.zeroValue3
 t4:=Tryd.underlying4
 a4:=Tryd.isAgg4
 z4:=Tryd.sizeOf4
 v4:=Tryd.zeroValue4
 t5:=Tryd.underlying5
 a5:=Tryd.isAgg5
 z5:=Tryd.sizeOf5
 v5:=Tryd.zeroValue5
 t9:=Tryd.underlying9
 a9:=Tryd.isAgg9
 z9:=Tryd.sizeOf9
 v9:=Tryd.zeroValue9
 t20:=Tryd.underlying20
 a20:=Tryd.isAgg20
 z20:=Tryd.sizeOf20
 v20:=Tryd.zeroValue20
 t37:=Tryd.underlying46
 a37:=Tryd.isAgg46
 z37:=Tryd.sizeOf46
 v37:=Tryd.zeroValue46
 t46:=Tryd.underlying87
 a46:=Tryd.isAgg87
 z46:=Tryd.sizeOf87
 v46:=Tryd.zeroValue87
 t51:=Tryd.underlying96
 a51:=Tryd.isAgg96
 z51:=Tryd.sizeOf96
 v51:=Tryd.zeroValue96
 t53:=Tryd.underlying99
 a53:=Tryd.isAgg99
 z53:=Tryd.sizeOf99
 v53:=Tryd.zeroValue99
 t171:=Tryd.underlying104
 a171:=Tryd.isAgg104
 z171:=Tryd.sizeOf104
 v171:=Tryd.zeroValue104
 t173:=Tryd.underlying107
 a173:=Tryd.isAgg107
 z173:=Tryd.sizeOf107
 v173:=Tryd.zeroValue107
 t212:=Tryd.underlying111
 a212:=Tryd.isAgg111
 z212:=Tryd.sizeOf111
 v212:=Tryd.zeroValue111
 t213:=Tryd.underlying112
 a213:=Tryd.isAgg112
 z213:=Tryd.sizeOf112
 t232:=Tryd.underlying115
 a232:=Tryd.isAgg115
 z232:=Tryd.sizeOf115
 v232:=Tryd.zeroValue115
 t233:=Tryd.underlying116
 a233:=Tryd.isAgg116
 z233:=Tryd.sizeOf116
 v233:=Tryd.zeroValue116
 g17:=by kernel_rfl
 g18:=by kernel_rfl
 g19:=by kernel_rfl }
def strconv_Itoa.f (a0 : Int) : Option ByteArray := if 0 ≤ a0 then (if a0 < 100 then some ⟨(Lib.decDigits a0.toNat).toArray⟩ else none) else none
set_option maxHeartbeats 8000000 in
set_option maxRecDepth 100000 in
theorem strconv_Itoa.calls (a0 : Int) (r : ByteArray) (w : World) (h : strconv_Itoa.f a0 = some r) :
  Calls Tryd.prog 36 #[.int .i64 a0] w fun e w'=>e=.returned (.string r)∧jAa w w':=by
 unfold strconv_Itoa.f at h
 by_cases h0:0≤a0
 ·rw [if_pos h0] at h
  by_cases h1:a0<100
  ·rw [if_pos h1] at h
   obtain rfl:=Option.some.inj h
   have hs:=Go.Proofs.Any.strconv_Itoa_small sh171 a0.toNat (by omega) w
   rw [Int.toNat_of_nonneg h0] at hs
   refine Calls.mono (show Calls Tryd.prog 36 _ w _ from hs) ?_
   rintro e w' ⟨rfl,rfl⟩
   exact ⟨rfl,jAa.refl _⟩
  ·rw [if_neg h1] at h;cases h
 ·rw [if_neg h0] at h;cases h
end Go.Proofs.YtegpknnlggkcpaaDoor.P
end
