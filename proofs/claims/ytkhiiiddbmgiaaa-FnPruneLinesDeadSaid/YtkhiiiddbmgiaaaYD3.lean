/- One part of the proofs on this program: functions of the program as plain functions, that the code comes to them, and facts on them. -/
import Derived.Carry
import Derived.Maps.Own
import Derived.Maps.OwnOps
import Derived.Maps.OwnSet
import Derived.Maps.Views
import Derived.Test.YtkhiiiddbmgiaaaYD1
import Derived.Test.YtkhiiiddbmgiaaaYD2
import Derived.Test.YtkhiiiddbmgiaaaYWAuto
section
namespace Go.Proofs.Ytkhiiiddbmgiaaa.P
open Go.RowKit Go.Proofs.YtkhiiiddbmgiaaaW.PrintWords Go.Proofs.YtkhiiiddbmgiaaaW.PrintLast Go.Proofs.YtkhiiiddbmgiaaaW.PrintMore
attribute [local go_sem] jea jca jsa jra jR jQ jda jba jg
set_option linter.unusedVariables false
set_option linter.unusedSimpArgs false
mutual
def jha.l0 : Nat → List (S52) → Int → List Int → Int → Option (List Int)
 | 0,_,_,_,_=>none
 | k+1,x0,x1,x5,x6=>if x6<(x0.length:Int) then (if 0≤x6 then (if 0≤x1 then (if x1<(x0.length:Int) then (if ((jc x0 x6).f0)=((jc x0 x1).f0) then ((jK.f ((jc x0 x6).f1) 8 10).bind fun t236=>(jha.j1 k x0 x1 x5 x6 t236)) else (jha.j1 k x0 x1 x5 x6 false)) else (none)) else (none)) else (none)) else (jha.j1 k x0 x1 x5 x6 false)
def jha.j1 : Nat → List (S52) → Int → List Int → Int → Bool → Option (List Int)
 | 0,_,_,_,_,_=>none
 | k+1,x0,x1,x5,x6,x36=>if x36=true then (if x5.length<17592186044416 then ((jpa.f k x0 x6).bind fun t240=>(jha.l0 k x0 x1 (x5 ++ [x6]) t240)) else (none)) else (some x5)
end
def jha.f (k : Nat) (l0 : List (S52)) (a1 : Int) : Option (List Int) := (jpa.f k l0 a1).bind fun t232 => (jha.l0 k l0 a1 (([a1] : List Int)) t232)
set_option maxHeartbeats 8000000 in
set_option maxRecDepth 100000 in
theorem jha.calls (k : Nat) (A0 : Option Addr) (c0 : Nat) (l0 : List (S52)) (a1 : Int) (r : List Int) (w : World) (hr0 : Kd.C k52 w A0 l0.length l0) (hc0 : l0.length ≤ c0) (h : jha.f k l0 a1 = some r) :
  Calls Try.prog 68 #[.slice A0 l0.length c0, .int .i64 a1] w fun e w'=>∃ v0_:Value,e=.returned (v0_)∧Kd.R (Kd.int .i64) 3 w' w.heap.size (fun _=>True) v0_ r∧Below w.heap.size w w':=by
 have HR0:=am hr0
 have HC0:=am hc0
 clear hr0 hc0
 have HB:=am (Below.refl w.heap.size w)
 have H:((jpa.f k l0 a1).bind fun t232=>(jha.l0 k l0 a1 (([a1]:List Int)) t232))=some r:=h
 clear h
 obtain ⟨y229,hy229⟩:∃ y_:List Int,y_=(([a1]:List Int)):=⟨_,rfl⟩
 replace H:((jpa.f k l0 a1).bind fun t232=>(jha.l0 k l0 a1 y229 t232))=some r:=by first |(rw [hy229];with_reducible exact H) |(have H2_:=(Option.bind_some _ _).symm.trans H;rw [hy229];with_reducible exact H2_) |(have H2_:=(Option.bind_some _ _).symm.trans H;with_reducible exact H2_) | with_reducible exact H |(rw [hy229];exact H) | exact H
 have Ny229:=am hy229
 clear hy229
 replace H:=bzS H
 obtain ⟨t232,A30,H⟩:=H
 replace H:(jha.l0 k l0 a1 y229 t232)=some r:=H
 have A3:=am A30
 clear A30
 have H':=am H
 clear H
 go_enter Try.func68,Try.ntmps68
 go_wp2_with (first |((with_reducible refine jP (N:=8) rfl ?_);refine Kd.jYb (Kd.int .i64) _ 3 ?hg (N:=8) ?hd (xs:=([a1]:List Int)) (inner:=[.int .i64 a1]) (ok:=fun _=>True) (okp:=fun _=>True) ?hr ?hp (fun _ hk=>hk) trivial (Below.refl _ _) (Nat.le_refl _) (by simp) ?_;(case hd=>rfl);(case hg=>rfl);(case hr=>exact Y8);(case hp=>exact (Reps.one (show Kd.M (Kd.int .i64) _ _ _ a1 [.int .i64 a1] from rfl) (Reps.none _ _)));intro v230 w4 ho5 hb hg_ hnew_;clear hg_ hnew_;(first | rw [← Ny229.out] at ho5 |(simp only [Int.reduceToNat] at ho5;rw [← Ny229.out] at ho5));have HO231:=am (Kd.jfa ho5 (jka (bq)));replace HB:=am (ji (bq) hb);clear hb ho5) |(go_at_call 62;(with_reducible refine (jpa.calls k _ _ l0 a1 t232 _ ?side1 ?side2 A3.out).mono ?_);(case side1=>exact cq (Kd.jZ HR0.out HB.out));(case side2=>exact HC0.out);rintro e w' ⟨rfl,⟨nd,rfl⟩⟩;(try first | exact ⟨rfl,_,World.drewN_drewN _ _ _⟩ | exact ⟨rfl,_,Eq.trans (World.drewN_drewN _ _ _) (congrArg (World.drewN _) (Nat.add_assoc _ _ _))⟩)))
 repeat (go_quiet (first |((with_reducible refine jP (N:=8) rfl ?_);refine Kd.jYb (Kd.int .i64) _ 3 ?hg (N:=8) ?hd (xs:=([a1]:List Int)) (inner:=[.int .i64 a1]) (ok:=fun _=>True) (okp:=fun _=>True) ?hr ?hp (fun _ hk=>hk) trivial (Below.refl _ _) (Nat.le_refl _) (by simp) ?_;(case hd=>rfl);(case hg=>rfl);(case hr=>exact Y8);(case hp=>exact (Reps.one (show Kd.M (Kd.int .i64) _ _ _ a1 [.int .i64 a1] from rfl) (Reps.none _ _)));intro v230 w4 ho5 hb hg_ hnew_;clear hg_ hnew_;(first | rw [← Ny229.out] at ho5 |(simp only [Int.reduceToNat] at ho5;rw [← Ny229.out] at ho5));have HO231:=am (Kd.jfa ho5 (jka (bq)));replace HB:=am (ji (bq) hb);clear hb ho5) |(go_at_call 62;(with_reducible refine (jpa.calls k _ _ l0 a1 t232 _ ?side1 ?side2 A3.out).mono ?_);(case side1=>exact cq (Kd.jZ HR0.out HB.out));(case side2=>exact HC0.out);rintro e w' ⟨rfl,⟨nd,rfl⟩⟩;(try first | exact ⟨rfl,_,World.drewN_drewN _ _ _⟩ | exact ⟨rfl,_,Eq.trans (World.drewN_drewN _ _ _) (congrArg (World.drewN _) (Nat.add_assoc _ _ _))⟩)));try go_wp2_with (first |((with_reducible refine jP (N:=8) rfl ?_);refine Kd.jYb (Kd.int .i64) _ 3 ?hg (N:=8) ?hd (xs:=([a1]:List Int)) (inner:=[.int .i64 a1]) (ok:=fun _=>True) (okp:=fun _=>True) ?hr ?hp (fun _ hk=>hk) trivial (Below.refl _ _) (Nat.le_refl _) (by simp) ?_;(case hd=>rfl);(case hg=>rfl);(case hr=>exact Y8);(case hp=>exact (Reps.one (show Kd.M (Kd.int .i64) _ _ _ a1 [.int .i64 a1] from rfl) (Reps.none _ _)));intro v230 w4 ho5 hb hg_ hnew_;clear hg_ hnew_;(first | rw [← Ny229.out] at ho5 |(simp only [Int.reduceToNat] at ho5;rw [← Ny229.out] at ho5));have HO231:=am (Kd.jfa ho5 (jka (bq)));replace HB:=am (ji (bq) hb);clear hb ho5) |(go_at_call 62;(with_reducible refine (jpa.calls k _ _ l0 a1 t232 _ ?side1 ?side2 A3.out).mono ?_);(case side1=>exact cq (Kd.jZ HR0.out HB.out));(case side2=>exact HC0.out);rintro e w' ⟨rfl,⟨nd,rfl⟩⟩;(try first | exact ⟨rfl,_,World.drewN_drewN _ _ _⟩ | exact ⟨rfl,_,Eq.trans (World.drewN_drewN _ _ _) (congrArg (World.drewN _) (Nat.add_assoc _ _ _))⟩))))
 go_loopg [5,6] k (fun kq v5 v6 w'=>∃ (x5_1:List Int) (x6_1:Int),v6=.int .i64 x6_1∧jl (jha.l0 kq l0 a1 x5_1 x6_1=some r)∧jl (kq≤k)∧jl (Kd.R (Kd.int .i64) 3 w' w.heap.size (fun _=>True) v5 x5_1)∧jl (Below w.heap.size w w'))
 case atStart=>exact ⟨(y229),(t232),(sq),H',⟨Nat.le_refl _⟩,⟨rq HO231.out⟩,⟨bq⟩⟩
 case round =>
  clear H'
  try clear p2
  obtain ⟨x5_1,x6_1,rfl,HA,HK1,HO_5,HB⟩:=hrel
  cases gk with
  | zero=>exact absurd HA.out (by simp [jha.l0])
  | succ k1 =>
   have H:=HA.out
   clear HA
   simp only [jha.l0] at H
   have HC6:=am H
   clear H
   go_upto_region 3 with (fail)
   repeat (go_quiet (fail);go_upto_region 3 with (fail))
   go_cut [36] (fun v36 wc=>∃ (kq:Nat) (x36_5:Bool),v36=.bool x36_5∧jl (jha.j1 kq l0 a1 x5_1 x6_1 x36_5=some r)∧jl (kq≤k1)∧jl (Kd.R (Kd.int .i64) 3 wc w.heap.size (fun _=>True) u5 x5_1)∧jl (Below w.heap.size w wc))
   case first =>
    have H:=HC6.out
    clear HC6
    by_cases c7:x6_1<(l0.length:Int)
    ·rw [if_pos c7] at H
     have c7b0:decide (x6_1<(l0.length:Int))=true:=dzT c7
     clear c7
     (first | rw [c7b0] |(simp only [jkb,jnb];rw [c7b0]) | skip)
     by_cases c8:0≤x6_1
     ·rw [if_pos c8] at H
      have c8b0:decide (0≤x6_1)=true:=dzT c8
      clear c8
      by_cases c9:0≤a1
      ·rw [if_pos c9] at H
       have c9b0:decide (0≤a1)=true:=dzT c9
       clear c9
       by_cases c10:a1<(l0.length:Int)
       ·rw [if_pos c10] at H
        have c10b0:decide (a1<(l0.length:Int))=true:=dzT c10
        clear c10
        by_cases c11:((jc l0 x6_1).f0)=((jc l0 a1).f0)
        ·rw [if_pos c11] at H
         have c11b0:(((jc l0 x6_1).f0) == ((jc l0 a1).f0))=true:=beq_iff_eq.mpr c11
         have c11b1:(((jc l0 x6_1).f0) != ((jc l0 a1).f0))=false:=bne_eq_false_iff_eq.mpr c11
         clear c11
         replace H:=bzS H
         obtain ⟨t236,A120,H⟩:=H
         replace H:(jha.j1 k1 l0 a1 x5_1 x6_1 t236)=some r:=H
         have A12:=am A120
         clear A120
         have H':=am H
         clear H
         have p233:0≤(x6_1:Int):=ozD (uq)
         have q233:x6_1<(l0.length:Int):=ozD (uq)
         obtain ⟨ad233,e233,hx233_0,hx233_1,hx233_2,hx233_3⟩:=jua HR0.out x6_1 p233 q233
         cases e233
         replace hx233_0:=cb HB.out hx233_0
         replace hx233_1:=cb HB.out hx233_1
         replace hx233_2:=cb HB.out hx233_2
         replace hx233_3:=cb HB.out hx233_3
         replace p233:=ezT p233
         replace q233:=ezT q233
         have p234:0≤(a1:Int):=ozD (uq)
         have q234:a1<(l0.length:Int):=ozD (uq)
         obtain ⟨ad234,e234,hx234_0,hx234_1,hx234_2,hx234_3⟩:=jua HR0.out a1 p234 q234
         obtain rfl:ad233=ad234:=(by injection e234)
         replace hx234_0:=cb HB.out hx234_0
         replace hx234_1:=cb HB.out hx234_1
         replace hx234_2:=cb HB.out hx234_2
         replace hx234_3:=cb HB.out hx234_3
         replace p234:=ezT p234
         replace q234:=ezT q234
         have p235:0≤(x6_1:Int):=ozD (uq)
         have q235:x6_1<(l0.length:Int):=ozD (uq)
         obtain ⟨ad235,e235,hx235_0,hx235_1,hx235_2,hx235_3⟩:=jua HR0.out x6_1 p235 q235
         obtain rfl:ad233=ad235:=(by injection e235)
         replace hx235_0:=cb HB.out hx235_0
         replace hx235_1:=cb HB.out hx235_1
         replace hx235_2:=cb HB.out hx235_2
         replace hx235_3:=cb HB.out hx235_3
         replace p235:=ezT p235
         replace q235:=ezT q235
         go_wp2_with (first |(go_at_call 53;(with_reducible refine (jK.calls ((jc l0 x6_1).f1) 8 10 t236 _ A12.out).mono ?_);rintro e w' ⟨rfl,⟨nd,rfl⟩⟩;(try first | exact ⟨rfl,_,World.drewN_drewN _ _ _⟩ | exact ⟨rfl,_,Eq.trans (World.drewN_drewN _ _ _) (congrArg (World.drewN _) (Nat.add_assoc _ _ _))⟩)))
         repeat (go_quiet (first |(go_at_call 53;(with_reducible refine (jK.calls ((jc l0 x6_1).f1) 8 10 t236 _ A12.out).mono ?_);rintro e w' ⟨rfl,⟨nd,rfl⟩⟩;(try first | exact ⟨rfl,_,World.drewN_drewN _ _ _⟩ | exact ⟨rfl,_,Eq.trans (World.drewN_drewN _ _ _) (congrArg (World.drewN _) (Nat.add_assoc _ _ _))⟩)));try go_wp2_with (first |(go_at_call 53;(with_reducible refine (jK.calls ((jc l0 x6_1).f1) 8 10 t236 _ A12.out).mono ?_);rintro e w' ⟨rfl,⟨nd,rfl⟩⟩;(try first | exact ⟨rfl,_,World.drewN_drewN _ _ _⟩ | exact ⟨rfl,_,Eq.trans (World.drewN_drewN _ _ _) (congrArg (World.drewN _) (Nat.add_assoc _ _ _))⟩))))
         go_meet
         case rel=>exact ⟨_,(t236),(sq),H',⟨by have:=HK1.out;first | omega | exact Nat.le_refl _⟩,⟨rq HO_5.out⟩,⟨bq⟩⟩
        ·rw [if_neg c11] at H
         have c11b0:(((jc l0 x6_1).f0) == ((jc l0 a1).f0))=false:=beq_eq_false_iff_ne.mpr c11
         have c11b1:(((jc l0 x6_1).f0) != ((jc l0 a1).f0))=true:=bne_iff_ne.mpr c11
         have H':=am H
         clear H
         have p233:0≤(x6_1:Int):=ozD (uq)
         have q233:x6_1<(l0.length:Int):=ozD (uq)
         obtain ⟨ad233,e233,hx233_0,hx233_1,hx233_2,hx233_3⟩:=jua HR0.out x6_1 p233 q233
         cases e233
         replace hx233_0:=cb HB.out hx233_0
         replace hx233_1:=cb HB.out hx233_1
         replace hx233_2:=cb HB.out hx233_2
         replace hx233_3:=cb HB.out hx233_3
         replace p233:=ezT p233
         replace q233:=ezT q233
         have p234:0≤(a1:Int):=ozD (uq)
         have q234:a1<(l0.length:Int):=ozD (uq)
         obtain ⟨ad234,e234,hx234_0,hx234_1,hx234_2,hx234_3⟩:=jua HR0.out a1 p234 q234
         obtain rfl:ad233=ad234:=(by injection e234)
         replace hx234_0:=cb HB.out hx234_0
         replace hx234_1:=cb HB.out hx234_1
         replace hx234_2:=cb HB.out hx234_2
         replace hx234_3:=cb HB.out hx234_3
         replace p234:=ezT p234
         replace q234:=ezT q234
         go_wp2
         repeat (go_quiet (fail);try go_wp2)
         go_meet
         case rel=>exact ⟨_,(false),(sq),H',⟨by have:=HK1.out;first | omega | exact Nat.le_refl _⟩,⟨rq HO_5.out⟩,⟨bq⟩⟩
       ·rw [if_neg c10] at H
        exact absurd H (by simp)
      ·rw [if_neg c9] at H
       exact absurd H (by simp)
     ·rw [if_neg c8] at H
      exact absurd H (by simp)
    ·rw [if_neg c7] at H
     have c7b0:decide (x6_1<(l0.length:Int))=false:=dzF c7
     clear c7
     (first | rw [c7b0] |(simp only [jkb,jnb];rw [c7b0]) | skip)
     have H':=am H
     clear H
     go_wp2
     repeat (go_quiet (fail);try go_wp2)
     go_meet
     case rel=>exact ⟨_,(false),(sq),H',⟨by have:=HK1.out;first | omega | exact Nat.le_refl _⟩,⟨rq HO_5.out⟩,⟨bq⟩⟩
   case rest =>
    clear HC6
    try clear c1
    try clear p2
    try clear q2
    try clear hx2
    try clear c6
    try clear c7
    try clear c7b0
    try clear c8
    try clear c8b0
    try clear c9
    try clear c9b0
    try clear c10
    try clear c10b0
    try clear c11
    try clear c11b0
    try clear c11b1
    try clear hx233_0
    try clear hx233_1
    try clear hx233_2
    try clear hx233_3
    try clear hx234_0
    try clear hx234_1
    try clear hx234_2
    try clear hx234_3
    try clear hx235_0
    try clear hx235_1
    try clear hx235_2
    try clear hx235_3
    try clear p2
    try clear p233
    try clear p234
    try clear p235
    try clear q233
    try clear q234
    try clear q235
    obtain ⟨kq,x36_5,rfl,HA,HJ5,HO_5,HB⟩:=hcut
    cases kq with
    | zero=>exact absurd HA.out (by simp [jha.j1])
    | succ kj5 =>
     have H:=HA.out
     clear HA
     simp only [jha.j1] at H
     by_cases c13:x36_5=true
     ·subst c13
      have H1:(if x5_1.length<17592186044416 then ((jpa.f kj5 l0 x6_1).bind fun t240=>(jha.l0 kj5 l0 a1 (x5_1 ++ [x6_1]) t240)) else (none))=some r:=by rw [if_pos rfl] at H;exact H
      clear H
      have H:=H1
      clear H1
      by_cases c14:x5_1.length<17592186044416
      ·rw [if_pos c14] at H
       have LMc14:=am c14
       clear c14
       obtain ⟨y237,hy237⟩:∃ y_:List Int,y_=(x5_1 ++ [x6_1]):=⟨_,rfl⟩
       replace H:((jpa.f kj5 l0 x6_1).bind fun t240=>(jha.l0 kj5 l0 a1 y237 t240))=some r:=by first |(rw [hy237];with_reducible exact H) |(have H2_:=(Option.bind_some _ _).symm.trans H;rw [hy237];with_reducible exact H2_) |(have H2_:=(Option.bind_some _ _).symm.trans H;with_reducible exact H2_) | with_reducible exact H |(rw [hy237];exact H) | exact H
       have Ny237:=am hy237
       clear hy237
       replace H:=bzS H
       obtain ⟨t240,A150,H⟩:=H
       replace H:(jha.l0 kj5 l0 a1 y237 t240)=some r:=H
       have A15:=am A150
       clear A150
       have H':=am H
       clear H
       go_wp2_with (first |((with_reducible refine jEa (b:=.append) (xs:=#[.tmp 40, .tmp 42]) rfl ?_);at_builtin;refine Kd.jGb (Kd.int .i64) (w0:=w) w.heap.size rfl (.tmp 40) (.tmp 42) 40 3 (.int .i64 0) 8 rfl Try.underlying40 info3 rfl (by decide) (by omega) u5 x5_1 x6_1 [.int .i64 x6_1] (fun _=>True) (fun _=>False) rfl rfl ?aP (fun _ hk=>hk.elim) ?aF ?aO ?aB ?aS ?aL ?_;(case aP=>exact rfl);(case aB=>exact (bq));(case aF=>exact (fun _ _=>trivial));(case aO=>exact (rq HO_5.out));(case aS=>exact (jka (bq)));(case aL=>have:=LMc14.out;omega);intro v238 w16 ho hb hg hat;rw [← Ny237.out] at ho;have n0_:=am (hb);have n1_:=am (ho);clear HB HO_5;have HB:=n0_;have HO239:=n1_;clear n0_ n1_ ho hb hg hat) |(go_at_call 62;(with_reducible refine (jpa.calls kj5 _ _ l0 x6_1 t240 _ ?side1 ?side2 A15.out).mono ?_);(case side1=>exact cq (Kd.jZ HR0.out HB.out));(case side2=>exact HC0.out);rintro e w' ⟨rfl,⟨nd,rfl⟩⟩;(try first | exact ⟨rfl,_,World.drewN_drewN _ _ _⟩ | exact ⟨rfl,_,Eq.trans (World.drewN_drewN _ _ _) (congrArg (World.drewN _) (Nat.add_assoc _ _ _))⟩)))
       repeat (go_quiet (first |((with_reducible refine jEa (b:=.append) (xs:=#[.tmp 40, .tmp 42]) rfl ?_);at_builtin;refine Kd.jGb (Kd.int .i64) (w0:=w) w.heap.size rfl (.tmp 40) (.tmp 42) 40 3 (.int .i64 0) 8 rfl Try.underlying40 info3 rfl (by decide) (by omega) u5 x5_1 x6_1 [.int .i64 x6_1] (fun _=>True) (fun _=>False) rfl rfl ?aP (fun _ hk=>hk.elim) ?aF ?aO ?aB ?aS ?aL ?_;(case aP=>exact rfl);(case aB=>exact (bq));(case aF=>exact (fun _ _=>trivial));(case aO=>exact (rq HO_5.out));(case aS=>exact (jka (bq)));(case aL=>have:=LMc14.out;omega);intro v238 w16 ho hb hg hat;rw [← Ny237.out] at ho;have n0_:=am (hb);have n1_:=am (ho);clear HB HO_5;have HB:=n0_;have HO239:=n1_;clear n0_ n1_ ho hb hg hat) |(go_at_call 62;(with_reducible refine (jpa.calls kj5 _ _ l0 x6_1 t240 _ ?side1 ?side2 A15.out).mono ?_);(case side1=>exact cq (Kd.jZ HR0.out HB.out));(case side2=>exact HC0.out);rintro e w' ⟨rfl,⟨nd,rfl⟩⟩;(try first | exact ⟨rfl,_,World.drewN_drewN _ _ _⟩ | exact ⟨rfl,_,Eq.trans (World.drewN_drewN _ _ _) (congrArg (World.drewN _) (Nat.add_assoc _ _ _))⟩)));try go_wp2_with (first |((with_reducible refine jEa (b:=.append) (xs:=#[.tmp 40, .tmp 42]) rfl ?_);at_builtin;refine Kd.jGb (Kd.int .i64) (w0:=w) w.heap.size rfl (.tmp 40) (.tmp 42) 40 3 (.int .i64 0) 8 rfl Try.underlying40 info3 rfl (by decide) (by omega) u5 x5_1 x6_1 [.int .i64 x6_1] (fun _=>True) (fun _=>False) rfl rfl ?aP (fun _ hk=>hk.elim) ?aF ?aO ?aB ?aS ?aL ?_;(case aP=>exact rfl);(case aB=>exact (bq));(case aF=>exact (fun _ _=>trivial));(case aO=>exact (rq HO_5.out));(case aS=>exact (jka (bq)));(case aL=>have:=LMc14.out;omega);intro v238 w16 ho hb hg hat;rw [← Ny237.out] at ho;have n0_:=am (hb);have n1_:=am (ho);clear HB HO_5;have HB:=n0_;have HO239:=n1_;clear n0_ n1_ ho hb hg hat) |(go_at_call 62;(with_reducible refine (jpa.calls kj5 _ _ l0 x6_1 t240 _ ?side1 ?side2 A15.out).mono ?_);(case side1=>exact cq (Kd.jZ HR0.out HB.out));(case side2=>exact HC0.out);rintro e w' ⟨rfl,⟨nd,rfl⟩⟩;(try first | exact ⟨rfl,_,World.drewN_drewN _ _ _⟩ | exact ⟨rfl,_,Eq.trans (World.drewN_drewN _ _ _) (congrArg (World.drewN _) (Nat.add_assoc _ _ _))⟩))))
       go_roundg kj5
       case measure=>have:=HK1.out;have:=HJ5.out;omega
       case rel=>exact ⟨(y237),(t240),(sq),H',⟨by have:=HK1.out;have:=HJ5.out;omega⟩,⟨rq HO239.out⟩,⟨bq⟩⟩
      ·rw [if_neg c14] at H
       exact absurd H (by simp)
     ·replace c13:=Bool.eq_false_iff.mpr c13
      subst c13
      have H1:(some x5_1)=some r:=by rw [if_neg (show ¬ (false=true) by decide)] at H;exact H
      clear H
      have H:=H1
      clear H1
      obtain rfl:=Option.some.inj H
      go_wp2
      repeat (go_quiet (fail);try go_wp2)
      go_ret
      exact ⟨_,Y0,rq HO_5.out,bq⟩
def jFa.l0 : Nat → List (S52) → Int → List Int → Int → Option (List Int)
 | 0,_,_,_,_=>none
 | k+1,x0,x2,x7,x8=>if x8<x2 then (if x7.length<17592186044416 then ((jpa.f k x0 x8).bind fun t247=>(jFa.l0 k x0 x2 (x7 ++ [x8]) t247)) else (none)) else (some x7)
def jFa.f (k : Nat) (l0 : List (S52)) (a1 : Int) (a2 : Int) : Option (List Int) := jFa.l0 k l0 a2 (([] : List Int)) a1
set_option maxHeartbeats 8000000 in
set_option maxRecDepth 100000 in
theorem jFa.calls (k : Nat) (A0 : Option Addr) (c0 : Nat) (l0 : List (S52)) (a1 : Int) (a2 : Int) (r : List Int) (w : World) (hr0 : Kd.C k52 w A0 l0.length l0) (hc0 : l0.length ≤ c0) (h : jFa.f k l0 a1 a2 = some r) :
  Calls Try.prog 82 #[.slice A0 l0.length c0, .int .i64 a1, .int .i64 a2] w fun e w'=>∃ v0_:Value,e=.returned (v0_)∧Kd.R (Kd.int .i64) 3 w' w.heap.size (fun _=>True) v0_ r∧Below w.heap.size w w':=by
 have HR0:=am hr0
 have HC0:=am hc0
 clear hr0 hc0
 have HB:=am (Below.refl w.heap.size w)
 have H:(jFa.l0 k l0 a2 (([]:List Int)) a1)=some r:=h
 clear h
 obtain ⟨y241,hy241⟩:∃ y_:List Int,y_=(([]:List Int)):=⟨_,rfl⟩
 replace H:(jFa.l0 k l0 a2 y241 a1)=some r:=by first |(rw [hy241];with_reducible exact H) |(have H2_:=(Option.bind_some _ _).symm.trans H;rw [hy241];with_reducible exact H2_) |(have H2_:=(Option.bind_some _ _).symm.trans H;with_reducible exact H2_) | with_reducible exact H |(rw [hy241];exact H) | exact H
 have Ny241:=am hy241
 clear hy241
 have H':=am H
 clear H
 go_enter Try.func82,Try.ntmps82
 go_wp2_with (first |((with_reducible refine jP (N:=9) rfl ?_);refine Kd.jYb (Kd.int .i64) _ 3 ?hg (N:=9) ?hd (xs:=([]:List Int)) (inner:=[]) (ok:=fun _=>True) (okp:=fun _=>True) ?hr ?hp (fun _ hk=>hk) trivial (Below.refl _ _) (Nat.le_refl _) (by simp) ?_;(case hd=>rfl);(case hg=>rfl);(case hr=>exact Y8);(case hp=>exact (Reps.none _ _));intro v242 w4 ho5 hb hg_ hnew_;clear hg_ hnew_;(first | rw [← Ny241.out] at ho5 |(simp only [Int.reduceToNat] at ho5;rw [← Ny241.out] at ho5));have HO243:=am (Kd.jfa ho5 (jka (bq)));replace HB:=am (ji (bq) hb);clear hb ho5))
 go_loopg [7,8] k (fun kq v7 v8 w'=>∃ (x7_1:List Int) (x8_1:Int),v8=.int .i64 x8_1∧jl (jFa.l0 kq l0 a2 x7_1 x8_1=some r)∧jl (kq≤k)∧jl (Kd.R (Kd.int .i64) 3 w' w.heap.size (fun _=>True) v7 x7_1)∧jl (Below w.heap.size w w'))
 case atStart=>exact ⟨(y241),(a1),(sq),H',⟨Nat.le_refl _⟩,⟨rq HO243.out⟩,⟨bq⟩⟩
 case round =>
  clear H'
  try clear p2
  obtain ⟨x7_1,x8_1,rfl,HA,HK1,HO_7,HB⟩:=hrel
  cases gk with
  | zero=>exact absurd HA.out (by simp [jFa.l0])
  | succ k1 =>
   have H:=HA.out
   clear HA
   simp only [jFa.l0] at H
   by_cases c6:x8_1<a2
   ·rw [if_pos c6] at H
    have c6b0:decide (x8_1<a2)=true:=dzT c6
    clear c6
    by_cases c7:x7_1.length<17592186044416
    ·rw [if_pos c7] at H
     have LMc7:=am c7
     clear c7
     obtain ⟨y244,hy244⟩:∃ y_:List Int,y_=(x7_1 ++ [x8_1]):=⟨_,rfl⟩
     replace H:((jpa.f k1 l0 x8_1).bind fun t247=>(jFa.l0 k1 l0 a2 y244 t247))=some r:=by first |(rw [hy244];with_reducible exact H) |(have H2_:=(Option.bind_some _ _).symm.trans H;rw [hy244];with_reducible exact H2_) |(have H2_:=(Option.bind_some _ _).symm.trans H;with_reducible exact H2_) | with_reducible exact H |(rw [hy244];exact H) | exact H
     have Ny244:=am hy244
     clear hy244
     replace H:=bzS H
     obtain ⟨t247,A80,H⟩:=H
     replace H:(jFa.l0 k1 l0 a2 y244 t247)=some r:=H
     have A8:=am A80
     clear A80
     have H':=am H
     clear H
     go_wp2_with (first |((with_reducible refine jEa (b:=.append) (xs:=#[.tmp 17, .tmp 19]) rfl ?_);at_builtin;refine Kd.jGb (Kd.int .i64) (w0:=w) w.heap.size rfl (.tmp 17) (.tmp 19) 40 3 (.int .i64 0) 8 rfl Try.underlying40 info3 rfl (by decide) (by omega) u7 x7_1 x8_1 [.int .i64 x8_1] (fun _=>True) (fun _=>False) rfl rfl ?aP (fun _ hk=>hk.elim) ?aF ?aO ?aB ?aS ?aL ?_;(case aP=>exact rfl);(case aB=>exact (bq));(case aF=>exact (fun _ _=>trivial));(case aO=>exact (rq HO_7.out));(case aS=>exact (jka (bq)));(case aL=>have:=LMc7.out;omega);intro v245 w9 ho hb hg hat;rw [← Ny244.out] at ho;have n0_:=am (hb);have n1_:=am (ho);clear HB HO_7;have HB:=n0_;have HO246:=n1_;clear n0_ n1_ ho hb hg hat) |((with_reducible refine jd (f:=62) rfl ?_);refine gL (some 16) Try.func62 #[.slice A0 l0.length c0, .int .i64 x8_1] ?_;(with_reducible refine (jpa.calls k1 _ _ l0 x8_1 t247 _ ?side1 ?side2 A8.out).mono ?_);(case side1=>exact cq (Kd.jZ HR0.out HB.out));(case side2=>exact HC0.out);rintro e w' ⟨rfl,⟨nd,rfl⟩⟩;refine ⟨_,rfl,?_⟩))
     go_roundg k1
     case measure=>have:=HK1.out;omega
     case rel=>exact ⟨(y244),(t247),(sq),H',⟨by have:=HK1.out;omega⟩,⟨rq HO246.out⟩,⟨bq⟩⟩
    ·rw [if_neg c7] at H
     exact absurd H (by simp)
   ·rw [if_neg c6] at H
    have c6b0:decide (x8_1<a2)=false:=dzF c6
    clear c6
    obtain rfl:=Option.some.inj H
    go_wp2
    go_ret
    exact ⟨_,Y0,rq HO_7.out,bq⟩
def jMa.go (p : List S52) : List Int → Int → Int → Option (Option Int)
 | [],ex,_=>some (some ex)
 | k :: ks,ex,last=>if 0≤k then if k<(p.length:Int) then
   if (jc p k).f1=8 then if last≤8 then jMa.go p ks (ex+1) (jc p k).f1 else some none
   else if (jc p k).f1=9 then if last=8 then jMa.go p ks ex (jc p k).f1 else some none
   else if (jc p k).f1=10 then if last<10 then jMa.go p ks ex (jc p k).f1 else some none
   else some none
  else none else none
def jMa.f (l0 : List S52) (l1 : List Int) : Option Bool := if 1 ≤ l1.length then (jMa.go l0 (l1.drop 1) 0 7).bind fun r => match r with | none => some false | some ex => some (decide (1 < l1.length) && decide (ex ≤ 6)) else none
theorem jMa.step {p : List S52} {l : List Int} {k : Nat} {ex last : Int} {r : Option Int} (hk : k < l.length) (h : jMa.go p (l.drop k) ex last = some r) : jMa.go p (l[k] :: l.drop (k + 1)) ex last = some r := by
 rw [← List.drop_eq_getElem_cons hk];exact h
set_option maxHeartbeats 8000000 in
set_option maxRecDepth 100000 in
theorem jMa.calls (A0 : Option Addr) (c0 : Nat) (l0 : List S52) (A1 : Option Addr) (c1 : Nat) (l1 : List Int) (r : Bool) (w : World) (hr0 : Kd.C k52 w A0 l0.length l0) (hc0 : l0.length ≤ c0) (hr1 : Kd.C (Kd.int .i64) w A1 l1.length l1) (hc1 : l1.length ≤ c1) (h : jMa.f l0 l1 = some r) :
  Calls Try.prog 83 #[.slice A0 l0.length c0, .slice A1 l1.length c1] w fun e w'=>e=.returned (.bool r)∧jXa w w':=by
 have hu52:=Try.underlying52
 have hm:l1.length≤9223372036854775807:=Kd.C_max hr1
 simp only [jMa.f] at h
 by_cases h1:1≤l1.length
 ·rw [if_pos h1] at h
  obtain ⟨q,hq,h⟩:=bzS h
  have HR0:=am hr0
  have HR1:=am hr1
  have H0:=am hq
  have HZ:=am h
  have h1b:(1:Int)≤(l1.length:Int):=by omega
  obtain ⟨i03,hi03,_,hsz3,_⟩:=info_parts info3
  obtain ⟨A',hcut,hA',hC'⟩:=print_drop_of (P:=Try.prog) (Value.int .i64) (0:Int) 40 3 .i64 Try.underlying40 hi03 hsz3 A1 c1 l1 1 (by omega) h1b hc1
  replace hA':=hA' _ (Kd.reads_of_C hr1)
  rw [show ((1:Int)).toNat=1 from rfl] at hcut hA' hC'
  generalize hl2:l1.drop 1=l2 at hcut hA' hC' H0
  have hdl:l2.length<l1.length:=by rw [← hl2,List.length_drop];omega
  clear hl2
  have HS:=am hA'
  clear hr0 hr1 hq h hA' hi03 hsz3
  go_enter Try.func83,Try.ntmps83
  go_wp2
  go_loop [5,6,13] (fun i5 i6 i13=>∃ (k:Nat) (ex last:Int),i13=.int .i64 k∧i5=.int .i64 ex∧i6=.int .i64 last∧k≤l2.length∧0≤ex∧ex≤(k:Int)∧jl (jMa.go l0 (l2.drop k) ex last=some q)) (fun _ _ i13=>l2.length - (intOf i13).toNat)
  case atStart=>exact ⟨0,0,7,rfl,rfl,rfl,Nat.zero_le _,by omega,by omega,H0⟩
  case round =>
   clear H0
   obtain ⟨k,ex,last,rfl,rfl,rfl,hk,hx0,hx1,HA⟩:=hrel
   by_cases hlt:k<l2.length
   ·have HB:=am (jMa.step hlt HA.out)
    clear HA
    have HC:=HS.out
    obtain ⟨ad,rfl,hx⟩:=Kd.jPb (Kd.C_of_reads (h1:=fun _=>rfl) HC) (k:Int) (by omega) (by omega)
    have hrd:rd l2 (k:Int)=l2[k]:=by simp only [rd,Int.toNat_natCast,List.getD_eq_getElem?_getD,List.getElem?_eq_getElem hlt,Option.getD_some]
    rw [hrd,Int.toNat_natCast] at hx
    clear hrd HC
    have hgo:=HB.out
    generalize l2[k]=x at hgo hx
    simp only [jMa.go] at hgo
    clear HB
    by_cases h0:0≤x
    ·rw [if_pos h0] at hgo
     by_cases h2:x<(l0.length:Int)
     ·rw [if_pos h2] at hgo
      obtain ⟨ad0,rfl,hy0,hy1,hy2,hy3⟩:=jua HR0.out x h0 h2
      generalize hkd:(jc l0 x).f1=kd at hgo hy1
      clear hkd
      have q2:=ezT h2
      have q0:=ezT h0
      clear h0 h2
      by_cases e8:kd=8
      ·subst e8
       rw [if_pos rfl] at hgo
       by_cases hl:last≤8
       ·rw [if_pos hl] at hgo
        have hlb:=dzT hl
        clear hl
        have HG:=am hgo
        clear hgo HZ
        go_wp2
        go_round
        case rel=>exact ⟨k+1,ex+1,_,by go_num,rfl,rfl,hlt,by omega,by omega,HG⟩
        case measure=>simp [intOf];omega
       ·rw [if_neg hl] at hgo
        have hlb:=dzF hl
        clear hl
        obtain rfl:none=q:=by simpa using hgo
        have HR:=am (by simpa using HZ.out:r=false)
        clear hgo HZ
        go_wp2
        go_ret
        exact ⟨by rw [HR.out];rfl,jXa.refl _⟩
      ·rw [if_neg e8] at hgo
       have e8b:(kd == 8)=false:=beq_eq_false_iff_ne.2 e8
       clear e8
       by_cases e9:kd=9
       ·subst e9
        rw [if_pos rfl] at hgo
        by_cases hl:last=8
        ·rw [if_pos hl] at hgo
         have hlb:(last == 8)=true:=beq_iff_eq.2 hl
         clear hl
         have HG:=am hgo
         clear hgo HZ
         go_wp2
         go_round
         case rel=>exact ⟨k+1,ex,_,by go_num,rfl,rfl,hlt,by omega,by omega,HG⟩
         case measure=>simp [intOf];omega
        ·rw [if_neg hl] at hgo
         have hlb:(last == 8)=false:=beq_eq_false_iff_ne.2 hl
         clear hl
         obtain rfl:none=q:=by simpa using hgo
         have HR:=am (by simpa using HZ.out:r=false)
         clear hgo HZ
         go_wp2
         go_ret
         exact ⟨by rw [HR.out];rfl,jXa.refl _⟩
       ·rw [if_neg e9] at hgo
        have e9b:(kd == 9)=false:=beq_eq_false_iff_ne.2 e9
        clear e9
        by_cases e10:kd=10
        ·subst e10
         rw [if_pos rfl] at hgo
         by_cases hl:last<10
         ·rw [if_pos hl] at hgo
          have hlb:=dzT hl
          clear hl
          have HG:=am hgo
          clear hgo HZ
          go_wp2
          go_round
          case rel=>exact ⟨k+1,ex,_,by go_num,rfl,rfl,hlt,by omega,by omega,HG⟩
          case measure=>simp [intOf];omega
         ·rw [if_neg hl] at hgo
          have hlb:=dzF hl
          clear hl
          obtain rfl:none=q:=by simpa using hgo
          have HR:=am (by simpa using HZ.out:r=false)
          clear hgo HZ
          go_wp2
          go_ret
          exact ⟨by rw [HR.out];rfl,jXa.refl _⟩
        ·rw [if_neg e10] at hgo
         have e10b:(kd == 10)=false:=beq_eq_false_iff_ne.2 e10
         clear e10
         obtain rfl:none=q:=by simpa using hgo
         have HR:=am (by simpa using HZ.out:r=false)
         clear hgo HZ
         go_wp2
         go_ret
         exact ⟨by rw [HR.out];rfl,jXa.refl _⟩
     ·rw [if_neg h2] at hgo
      cases hgo
    ·rw [if_neg h0] at hgo
     cases hgo
   ·have hgo:=HA.out
    rw [List.drop_eq_nil_of_le (by omega)] at hgo
    obtain rfl:some ex=q:=by simpa [jMa.go] using hgo
    clear hgo HA
    have HY:=am (Option.some.inj HZ.out)
    clear HZ
    by_cases h1c:1<l1.length
    ·have hb1:=dzT h1c
     go_wp2
     go_ret
     exact ⟨by rw [← HY.out,hb1];rfl,jXa.refl _⟩
    ·have hb1:=dzF h1c
     go_wp2
     go_ret
     exact ⟨by rw [← HY.out,hb1];rfl,jXa.refl _⟩
 ·rw [if_neg h1] at h
  cases h
mutual
def jk.l0 : Nat → List (S52) → Bool → List Int → Int → Option (Bool)
 | 0,_,_,_,_=>none
 | k+1,x0,x3,x9,x10=>if x10<(x9.length:Int) then (if 0≤x10 then (if 0≤(rd x9 x10) then (if (rd x9 x10)<(x0.length:Int) then (if ((jc x0 (rd x9 x10)).f1)=5 then (jk.j1 k x0 x3 x9 x10 (rd x9 x10) ((jc x0 (rd x9 x10)).f1) ((jc x0 (rd x9 x10)).f1) (((jc x0 (rd x9 x10)).f1) == 5)) else (jk.j1 k x0 x3 x9 x10 (rd x9 x10) ((jc x0 (rd x9 x10)).f1) ((jc x0 (rd x9 x10)).f1) (((jc x0 (rd x9 x10)).f1) == 6))) else (none)) else (none)) else (none)) else (some true)
def jk.j1 : Nat → List (S52) → Bool → List Int → Int → Int → Int → Int → Bool → Option (Bool)
 | 0,_,_,_,_,_,_,_,_=>none
 | k+1,x0,x3,x9,x10,x11,x12,x35,x36=>if x36=true then (if x3=true then (jk.l0 k x0 x3 x9 (wrap64 (x10+1))) else (some false)) else (if x35=8 then (jk.j2 k x0 x3 x9 x10 x11 x12 x35 (x35 == 8)) else (if x35=9 then (jk.j2 k x0 x3 x9 x10 x11 x12 x35 (x35 == 9)) else (jk.j2 k x0 x3 x9 x10 x11 x12 x35 (x35 == 10))))
def jk.j2 : Nat → List (S52) → Bool → List Int → Int → Int → Int → Int → Bool → Option (Bool)
 | 0,_,_,_,_,_,_,_,_=>none
 | k+1,x0,x3,x9,x10,x11,x12,x35,x41=>if x41=true then (some false) else (if x35=7 then ((jha.f k x0 x11).bind fun t253=>((jMa.f x0 t253).bind fun t256=>(if t256=true then (jk.l1 k x0 x3 x9 x10 t253 t253 (t253.length:Int) 0) else (some false)))) else (if x35=11 then (jk.j4 k x0 x3 x9 x10 x11 x12 (x35 == 11)) else (jk.j4 k x0 x3 x9 x10 x11 x12 (x35 == 12))))
def jk.l1 : Nat → List (S52) → Bool → List Int → Int → List Int → List Int → Int → Int → Option (Bool)
 | 0,_,_,_,_,_,_,_,_=>none
 | k+1,x0,x3,x9,x10,x13,x54,x55,x56=>if x56<x55 then (if 0≤x56 then (if x56<(x54.length:Int) then ((jpa.f k x0 (rd x54 x56)).bind fun t258=>((jk.f k x0 (wrap64 ((rd x54 x56)+1)) t258 x3).bind fun t259=>(if t259=true then (jk.l1 k x0 x3 x9 x10 x13 x54 x55 (wrap64 (x56+1))) else (some false)))) else (none)) else (none)) else (jk.l0 k x0 x3 x9 (wrap64 ((wrap64 (x10+(wrap64 ((x13.length:Int) - 1))))+1)))
def jk.j4 : Nat → List (S52) → Bool → List Int → Int → Int → Int → Bool → Option (Bool)
 | 0,_,_,_,_,_,_,_=>none
 | k+1,x0,x3,x9,x10,x11,x12,x75=>if x75=true then ((jpa.f k x0 x11).bind fun t260=>(if x3=true then ((jk.f k x0 (wrap64 (x11+1)) t260 true).bind fun t261=>(if t261=true then (jk.l0 k x0 x3 x9 (wrap64 (x10+1))) else (some false))) else ((jk.f k x0 (wrap64 (x11+1)) t260 (x12 == 12)).bind fun t262=>(if t262=true then (jk.l0 k x0 x3 x9 (wrap64 (x10+1))) else (some false))))) else (jk.l0 k x0 x3 x9 (wrap64 (x10+1)))
def jk.f : Nat → List (S52) → Int → Int → Bool → Option (Bool)
 | 0,_,_,_,_=>none
 | k+1,l0,a1,a2,a3=>(jFa.f k l0 a1 a2).bind fun t248=>(jk.l0 k l0 a3 t248 0)
end
set_option maxHeartbeats 8000000 in
set_option maxRecDepth 100000 in
theorem jk.calls (k : Nat) : ∀ (A0 : Option Addr) (c0 : Nat) (l0 : List (S52)) (a1 : Int) (a2 : Int) (a3 : Bool) (r : Bool) (w : World) (hr0 : Kd.C k52 w A0 l0.length l0) (hc0 : l0.length ≤ c0) (h : jk.f k l0 a1 a2 a3 = some r),
  Calls Try.prog 55 #[.slice A0 l0.length c0, .int .i64 a1, .int .i64 a2, .bool a3] w fun e w'=>e=.returned (.bool r)∧Below w.heap.size w w':=by
 induction k using Nat.strongRecOn with
 | _ k ih =>
 intro A0 c0 l0 a1 a2 a3 r w hr0 hc0 h
 cases k with
 | zero=>exact absurd h (by simp [jk.f])
 | succ k =>
 simp only [jk.f] at h
 have HR0:=am hr0
 have HC0:=am hc0
 clear hr0 hc0
 have HB:=am (Below.refl w.heap.size w)
 have H:((jFa.f k l0 a1 a2).bind fun t248=>(jk.l0 k l0 a3 t248 0))=some r:=h
 clear h
 replace H:=bzS H
 obtain ⟨t248,A50,H⟩:=H
 replace H:(jk.l0 k l0 a3 t248 0)=some r:=H
 have A5:=am A50
 clear A50
 have H':=am H
 clear H
 go_enter Try.func55,Try.ntmps55
 go_wp2_with (first |((with_reducible refine jd (f:=82) rfl ?_);refine gL (some 19) Try.func82 #[.slice A0 l0.length c0, .int .i64 a1, .int .i64 a2] ?_;(with_reducible refine (jFa.calls k _ _ l0 a1 a2 t248 _ ?side1 ?side2 A5.out).mono ?_);(case side1=>exact Y31);(case side2=>exact HC0.out);rintro e w6 ⟨v249,rfl,ho0,hb⟩;refine ⟨_,rfl,?_⟩;have HO250:=am (Kd.jfa ho0 (jka (bq)));replace HB:=am (ji (bq) hb);(try clear hb);(try clear hb2);(try clear hk);(try clear hi);(try clear ho0)))
 go_loopg [10] k (fun kq v10 w'=>∃ (x10_1:Int),v10=.int .i64 x10_1∧jl (jk.l0 kq l0 a3 t248 x10_1=some r)∧jl (kq≤k)∧jl (Kd.R (Kd.int .i64) 3 w' w.heap.size (fun _=>True) v249 t248)∧jl (Below w.heap.size w w'))
 case atStart=>exact ⟨(0),(sq),H',⟨Nat.le_refl _⟩,⟨rq HO250.out⟩,⟨bq⟩⟩
 case round =>
  clear H'
  try clear p2
  try clear c5
  obtain ⟨x10_1,rfl,HA,HK1,HO_9,HB⟩:=hrel
  cases gk with
  | zero=>exact absurd HA.out (by simp [jk.l0])
  | succ k1 =>
   have H:=HA.out
   clear HA
   simp only [jk.l0] at H
   by_cases c7:x10_1<(t248.length:Int)
   ·rw [if_pos c7] at H
    have c7b0:decide (x10_1<(t248.length:Int))=true:=dzT c7
    clear c7
    by_cases c8:0≤x10_1
    ·rw [if_pos c8] at H
     have c8b0:decide (0≤x10_1)=true:=dzT c8
     clear c8
     by_cases c9:0≤(rd t248 x10_1)
     ·rw [if_pos c9] at H
      have c9b0:decide (0≤(rd t248 x10_1))=true:=dzT c9
      clear c9
      by_cases c10:(rd t248 x10_1)<(l0.length:Int)
      ·rw [if_pos c10] at H
       have c10b0:decide ((rd t248 x10_1)<(l0.length:Int))=true:=dzT c10
       clear c10
       have HC11:=am H
       clear H
       obtain ⟨Ao12,co12,eo12⟩:=Kd.jta HO_9.out
       subst eo12
       have p251:0≤(x10_1:Int):=ozD (uq)
       have q251:x10_1<(t248.length:Int):=ozD (uq)
       obtain ⟨ad251,e251,hx251_0⟩:=Kd.jPb (Kd.jC HO_9.out).2.2 x10_1 p251 q251
       cases e251
       replace p251:=ezT p251
       replace q251:=ezT q251
       have p252:0≤((rd t248 x10_1):Int):=ozD (uq)
       have q252:(rd t248 x10_1)<(l0.length:Int):=ozD (uq)
       obtain ⟨ad252,e252,hx252_0,hx252_1,hx252_2,hx252_3⟩:=jua HR0.out (rd t248 x10_1) p252 q252
       cases e252
       replace hx252_0:=cb HB.out hx252_0
       replace hx252_1:=cb HB.out hx252_1
       replace hx252_2:=cb HB.out hx252_2
       replace hx252_3:=cb HB.out hx252_3
       replace p252:=ezT p252
       replace q252:=ezT q252
       go_upto_if 36 with (fail)
       go_cut [36] (fun v36 wc=>∃ (kq:Nat) (x36_10:Bool),v36=.bool x36_10∧jl (jk.j1 kq l0 a3 t248 x10_1 (rd t248 x10_1) ((jc l0 (rd t248 x10_1)).f1) ((jc l0 (rd t248 x10_1)).f1) x36_10=some r)∧jl (kq≤k1)∧jl (Kd.R (Kd.int .i64) 3 wc w.heap.size (fun _=>True) (.slice (some ad251) t248.length co12) t248)∧jl (Below w.heap.size w wc))
       case first =>
        have H:=HC11.out
        clear HC11
        by_cases c13:((jc l0 (rd t248 x10_1)).f1)=5
        ·rw [if_pos c13] at H
         have c13b0:(((jc l0 (rd t248 x10_1)).f1) == 5)=true:=beq_iff_eq.mpr c13
         have c13b1:(((jc l0 (rd t248 x10_1)).f1) != 5)=false:=bne_eq_false_iff_eq.mpr c13
         clear c13
         (first | rw [c13b0] |(simp only [jkb,jnb];rw [c13b0]) | skip)
         have H':=am H
         clear H
         go_wp2
         go_meet
         case rel=>exact ⟨_,((((jc l0 (rd t248 x10_1)).f1) == 5)),(sq),H',⟨by have:=HK1.out;first | omega | exact Nat.le_refl _⟩,⟨rq HO_9.out⟩,⟨bq⟩⟩
        ·rw [if_neg c13] at H
         have c13b0:(((jc l0 (rd t248 x10_1)).f1) == 5)=false:=beq_eq_false_iff_ne.mpr c13
         have c13b1:(((jc l0 (rd t248 x10_1)).f1) != 5)=true:=bne_iff_ne.mpr c13
         (first | rw [c13b0] |(simp only [jkb,jnb];rw [c13b0]) | skip)
         have H':=am H
         clear H
         go_wp2
         go_meet
         case rel=>exact ⟨_,((((jc l0 (rd t248 x10_1)).f1) == 6)),(sq),H',⟨by have:=HK1.out;first | omega | exact Nat.le_refl _⟩,⟨rq HO_9.out⟩,⟨bq⟩⟩
       case rest =>
        clear HC11
        try clear c1
        try clear p2
        try clear q2
        try clear hx2
        try clear c5
        try clear c7
        try clear c7b0
        try clear c8
        try clear c8b0
        try clear c9
        try clear c9b0
        try clear c10
        try clear c10b0
        try clear c13
        try clear c13b0
        try clear c13b1
        try clear hx251_0
        try clear hx252_0
        try clear hx252_1
        try clear hx252_2
        try clear hx252_3
        try clear p2
        try clear p251
        try clear p252
        try clear q251
        try clear q252
        obtain ⟨kq,x36_10,rfl,HA,HJ10,HO_9,HB⟩:=hcut
        cases kq with
        | zero=>exact absurd HA.out (by simp [jk.j1])
        | succ kj10 =>
         have H:=HA.out
         clear HA
         simp only [jk.j1] at H
         by_cases c14:x36_10=true
         ·subst c14
          have H1:(if a3=true then (jk.l0 kj10 l0 a3 t248 (wrap64 (x10_1+1))) else (some false))=some r:=by rw [if_pos rfl] at H;exact H
          clear H
          have H:=H1
          clear H1
          by_cases c15:a3=true
          ·subst c15
           have H1:(jk.l0 kj10 l0 true t248 (wrap64 (x10_1+1)))=some r:=by rw [if_pos rfl] at H;exact H
           clear H
           have H:=H1
           clear H1
           have H':=am H
           clear H
           go_wp2
           go_roundg kj10
           case measure=>have:=HK1.out;have:=HJ10.out;omega
           case rel=>exact ⟨(wrap64 (x10_1+1)),(sq),H',⟨by have:=HK1.out;have:=HJ10.out;omega⟩,⟨rq HO_9.out⟩,⟨bq⟩⟩
          ·replace c15:=Bool.eq_false_iff.mpr c15
           subst c15
           have H1:(some false)=some r:=by rw [if_neg (show ¬ (false=true) by decide)] at H;exact H
           clear H
           have H:=H1
           clear H1
           obtain rfl:=Option.some.inj H
           go_wp2
           go_ret
           exact ⟨Y0,bq⟩
         ·replace c14:=Bool.eq_false_iff.mpr c14
          subst c14
          have H1:(if ((jc l0 (rd t248 x10_1)).f1)=8 then (jk.j2 kj10 l0 a3 t248 x10_1 (rd t248 x10_1) ((jc l0 (rd t248 x10_1)).f1) ((jc l0 (rd t248 x10_1)).f1) (((jc l0 (rd t248 x10_1)).f1) == 8)) else (if ((jc l0 (rd t248 x10_1)).f1)=9 then (jk.j2 kj10 l0 a3 t248 x10_1 (rd t248 x10_1) ((jc l0 (rd t248 x10_1)).f1) ((jc l0 (rd t248 x10_1)).f1) (((jc l0 (rd t248 x10_1)).f1) == 9)) else (jk.j2 kj10 l0 a3 t248 x10_1 (rd t248 x10_1) ((jc l0 (rd t248 x10_1)).f1) ((jc l0 (rd t248 x10_1)).f1) (((jc l0 (rd t248 x10_1)).f1) == 10))))=some r:=by rw [if_neg (show ¬ (false=true) by decide)] at H;exact H
          clear H
          have H:=H1
          clear H1
          have HC16:=am H
          clear H
          go_upto_if 41 with (fail)
          go_cut [41] (fun v41 wc=>∃ (kq:Nat) (x41_15:Bool),v41=.bool x41_15∧jl (jk.j2 kq l0 a3 t248 x10_1 (rd t248 x10_1) ((jc l0 (rd t248 x10_1)).f1) ((jc l0 (rd t248 x10_1)).f1) x41_15=some r)∧jl (kq≤kj10)∧jl (Kd.R (Kd.int .i64) 3 wc w.heap.size (fun _=>True) (.slice (some ad251) t248.length co12) t248)∧jl (Below w.heap.size w wc))
          case first =>
           have H:=HC16.out
           clear HC16
           by_cases c17:((jc l0 (rd t248 x10_1)).f1)=8
           ·rw [if_pos c17] at H
            have c17b0:(((jc l0 (rd t248 x10_1)).f1) == 8)=true:=beq_iff_eq.mpr c17
            have c17b1:(((jc l0 (rd t248 x10_1)).f1) != 8)=false:=bne_eq_false_iff_eq.mpr c17
            clear c17
            (first | rw [c17b0] |(simp only [jkb,jnb];rw [c17b0]) | skip)
            have H':=am H
            clear H
            go_wp2
            go_meet
            case rel=>exact ⟨_,((((jc l0 (rd t248 x10_1)).f1) == 8)),(sq),H',⟨by have:=HK1.out;have:=HJ10.out;first | omega | exact Nat.le_refl _⟩,⟨rq HO_9.out⟩,⟨bq⟩⟩
           ·rw [if_neg c17] at H
            have c17b0:(((jc l0 (rd t248 x10_1)).f1) == 8)=false:=beq_eq_false_iff_ne.mpr c17
            have c17b1:(((jc l0 (rd t248 x10_1)).f1) != 8)=true:=bne_iff_ne.mpr c17
            (first | rw [c17b0] |(simp only [jkb,jnb];rw [c17b0]) | skip)
            by_cases c18:((jc l0 (rd t248 x10_1)).f1)=9
            ·rw [if_pos c18] at H
             have c18b0:(((jc l0 (rd t248 x10_1)).f1) == 9)=true:=beq_iff_eq.mpr c18
             have c18b1:(((jc l0 (rd t248 x10_1)).f1) != 9)=false:=bne_eq_false_iff_eq.mpr c18
             clear c18
             have H':=am H
             clear H
             go_wp2
             go_meet
             case rel=>exact ⟨_,((((jc l0 (rd t248 x10_1)).f1) == 9)),(sq),H',⟨by have:=HK1.out;have:=HJ10.out;first | omega | exact Nat.le_refl _⟩,⟨rq HO_9.out⟩,⟨bq⟩⟩
            ·rw [if_neg c18] at H
             have c18b0:(((jc l0 (rd t248 x10_1)).f1) == 9)=false:=beq_eq_false_iff_ne.mpr c18
             have c18b1:(((jc l0 (rd t248 x10_1)).f1) != 9)=true:=bne_iff_ne.mpr c18
             have H':=am H
             clear H
             go_wp2
             go_meet
             case rel=>exact ⟨_,((((jc l0 (rd t248 x10_1)).f1) == 10)),(sq),H',⟨by have:=HK1.out;have:=HJ10.out;first | omega | exact Nat.le_refl _⟩,⟨rq HO_9.out⟩,⟨bq⟩⟩
          case rest =>
           clear HC16
           try clear c1
           try clear p2
           try clear q2
           try clear hx2
           try clear c5
           try clear p6
           try clear c7
           try clear c7b0
           try clear c8
           try clear c8b0
           try clear c9
           try clear c9b0
           try clear c10
           try clear c10b0
           try clear c13
           try clear c13b0
           try clear c13b1
           try clear c14
           try clear c15
           try clear c17
           try clear c17b0
           try clear c17b1
           try clear c18
           try clear c18b0
           try clear c18b1
           try clear hx251_0
           try clear hx252_0
           try clear hx252_1
           try clear hx252_2
           try clear hx252_3
           try clear p2
           try clear p251
           try clear p252
           try clear q2
           try clear q251
           try clear q252
           obtain ⟨kq,x41_15,rfl,HA,HJ15,HO_9,HB⟩:=hcut
           cases kq with
           | zero=>exact absurd HA.out (by simp [jk.j2])
           | succ kj15 =>
            have H:=HA.out
            clear HA
            simp only [jk.j2] at H
            by_cases c19:x41_15=true
            ·subst c19
             have H1:(some false)=some r:=by rw [if_pos rfl] at H;exact H
             clear H
             have H:=H1
             clear H1
             obtain rfl:=Option.some.inj H
             go_wp2
             go_ret
             exact ⟨Y0,bq⟩
            ·replace c19:=Bool.eq_false_iff.mpr c19
             subst c19
             have H1:(if ((jc l0 (rd t248 x10_1)).f1)=7 then ((jha.f kj15 l0 (rd t248 x10_1)).bind fun t253=>((jMa.f l0 t253).bind fun t256=>(if t256=true then (jk.l1 kj15 l0 a3 t248 x10_1 t253 t253 (t253.length:Int) 0) else (some false)))) else (if ((jc l0 (rd t248 x10_1)).f1)=11 then (jk.j4 kj15 l0 a3 t248 x10_1 (rd t248 x10_1) ((jc l0 (rd t248 x10_1)).f1) (((jc l0 (rd t248 x10_1)).f1) == 11)) else (jk.j4 kj15 l0 a3 t248 x10_1 (rd t248 x10_1) ((jc l0 (rd t248 x10_1)).f1) (((jc l0 (rd t248 x10_1)).f1) == 12))))=some r:=by rw [if_neg (show ¬ (false=true) by decide)] at H;exact H
             clear H
             have H:=H1
             clear H1
             by_cases c20:((jc l0 (rd t248 x10_1)).f1)=7
             ·rw [if_pos c20] at H
              have c20b0:(((jc l0 (rd t248 x10_1)).f1) == 7)=true:=beq_iff_eq.mpr c20
              have c20b1:(((jc l0 (rd t248 x10_1)).f1) != 7)=false:=bne_eq_false_iff_eq.mpr c20
              clear c20
              replace H:=bzS H
              obtain ⟨t253,A210,H⟩:=H
              replace H:((jMa.f l0 t253).bind fun t256=>(if t256=true then (jk.l1 kj15 l0 a3 t248 x10_1 t253 t253 (t253.length:Int) 0) else (some false)))=some r:=H
              have A21:=am A210
              clear A210
              replace H:=bzS H
              obtain ⟨t256,A220,H⟩:=H
              replace H:(if t256=true then (jk.l1 kj15 l0 a3 t248 x10_1 t253 t253 (t253.length:Int) 0) else (some false))=some r:=H
              have A22:=am A220
              clear A220
              by_cases c23:t256=true
              ·subst c23
               have H1:(jk.l1 kj15 l0 a3 t248 x10_1 t253 t253 (t253.length:Int) 0)=some r:=by rw [if_pos rfl] at H;exact H
               clear H
               have H:=H1
               clear H1
               have H':=am H
               clear H
               go_wp2_with (first |((with_reducible refine jd (f:=68) rfl ?_);refine gL (some 49) Try.func68 #[.slice (some ad252) l0.length c0, .int .i64 (rd t248 x10_1)] ?_;(with_reducible refine (jha.calls kj15 _ _ l0 (rd t248 x10_1) t253 _ ?side1 ?side2 A21.out).mono ?_);(case side1=>exact cq (Kd.jZ HR0.out HB.out));(case side2=>exact HC0.out);rintro e w24 ⟨v254,rfl,ho0,hb⟩;refine ⟨_,rfl,?_⟩;have HO255:=am (Kd.jfa (Kd.jzb ho0 (Kd.R_lt (rq HO_9.out))) (jka (bq)));replace HO_9:=am (Kd.jVb (rq HO_9.out) (Kd.jAb ho0) hb);replace HB:=am (ji (bq) hb);(try clear hb);(try clear hb2);(try clear hk);(try clear hi);(try clear ho0);obtain ⟨Ao25,co25,eo25⟩:=Kd.jta HO255.out;subst eo25) |((with_reducible refine jd (f:=83) rfl ?_);refine gL (some 52) Try.func83 #[.slice (some ad252) l0.length c0, .slice Ao25 t253.length co25] ?_;(with_reducible refine (jMa.calls _ _ l0 _ _ t253 true _ ?side1 ?side2 ?side3 ?side4 A22.out).mono ?_);(case side1=>exact cq (Kd.jZ HR0.out HB.out));(case side2=>exact HC0.out);(case side3=>exact cq (Kd.jC HO255.out).2.2);(case side4=>exact (Kd.jC HO255.out).2.1);rintro e w' ⟨rfl,⟨nd,rfl⟩⟩;refine ⟨_,rfl,?_⟩))
               go_loopg [56] kj15 (fun kq v56 w'=>∃ (x56_4:Int),v56=.int .i64 x56_4∧jl (jk.l1 kq l0 a3 t248 x10_1 t253 t253 (t253.length:Int) x56_4=some r)∧jl (kq≤kj15)∧jl (Kd.R (Kd.int .i64) 3 w' w.heap.size (fun k_=>some k_≠((.slice Ao25 t253.length co25):Value).ownBlock∧some k_≠((.slice Ao25 t253.length co25):Value).ownBlock) (.slice (some ad251) t248.length co12) t248)∧jl (Kd.R (Kd.int .i64) 3 w' w.heap.size (fun k_=>some k_≠((.slice (some ad251) t248.length co12):Value).ownBlock) (.slice Ao25 t253.length co25) t253)∧jl (Kd.R (Kd.int .i64) 3 w' w.heap.size (fun k_=>some k_≠((.slice (some ad251) t248.length co12):Value).ownBlock) (.slice Ao25 t253.length co25) t253)∧jl (Below w.heap.size w w'))
               case atStart=>exact ⟨(0),(sq),H',⟨Nat.le_refl _⟩,⟨by (with_reducible repeat (first | apply Kd.jma | apply Kd.jla | apply Kd.jva));exact Kd.jG HO_9.out (fun _ hk=>⟨hk.2,hk.2⟩)⟩,⟨by (with_reducible repeat (first | apply Kd.jma | apply Kd.jla | apply Kd.jva));exact Kd.jG HO255.out (fun _ hk=>hk.2)⟩,⟨by (with_reducible repeat (first | apply Kd.jma | apply Kd.jla | apply Kd.jva));exact Kd.jG HO255.out (fun _ hk=>hk.2)⟩,⟨bq⟩⟩
               case round =>
                clear H'
                try clear c1
                try clear c2
                try clear p2
                try clear q2
                try clear hx2
                try clear c5
                try clear c6
                try clear p6
                try clear c7
                try clear c7b0
                try clear c8
                try clear c8b0
                try clear c9
                try clear c9b0
                try clear c10
                try clear c10b0
                try clear c13
                try clear c13b0
                try clear c13b1
                try clear c14
                try clear c15
                try clear c17
                try clear c17b0
                try clear c17b1
                try clear c18
                try clear c18b0
                try clear c18b1
                try clear c19
                try clear c20
                try clear c20b0
                try clear c20b1
                try clear c23
                try clear p25
                try clear q25
                try clear hx25
                try clear hx251_0
                try clear hx252_0
                try clear hx252_1
                try clear hx252_2
                try clear hx252_3
                try clear p2
                try clear p251
                try clear p252
                try clear p6
                try clear q2
                try clear q251
                try clear q252
                obtain ⟨x56_4,rfl,HA,HK4,HO_9,HO_13,HO_54,HB⟩:=hrel
                cases gk with
                | zero=>exact absurd HA.out (by simp [jk.l1])
                | succ k4 =>
                 have H:=HA.out
                 clear HA
                 simp only [jk.l1] at H
                 by_cases c26:x56_4<(t253.length:Int)
                 ·rw [if_pos c26] at H
                  have c26b0:decide (x56_4<(t253.length:Int))=true:=dzT c26
                  clear c26
                  by_cases c27:0≤x56_4
                  ·rw [if_pos c27] at H
                   have c27b0:decide (0≤x56_4)=true:=dzT c27
                   clear c27
                   by_cases c28:x56_4<(t253.length:Int)
                   ·rw [if_pos c28] at H
                    have c28b0:decide (x56_4<(t253.length:Int))=true:=dzT c28
                    clear c28
                    replace H:=bzS H
                    obtain ⟨t258,A290,H⟩:=H
                    replace H:((jk.f k4 l0 (wrap64 ((rd t253 x56_4)+1)) t258 a3).bind fun t259=>(if t259=true then (jk.l1 k4 l0 a3 t248 x10_1 t253 t253 (t253.length:Int) (wrap64 (x56_4+1))) else (some false)))=some r:=H
                    have A29:=am A290
                    clear A290
                    replace H:=bzS H
                    obtain ⟨t259,A300,H⟩:=H
                    replace H:(if t259=true then (jk.l1 k4 l0 a3 t248 x10_1 t253 t253 (t253.length:Int) (wrap64 (x56_4+1))) else (some false))=some r:=H
                    have A30:=am A300
                    clear A300
                    by_cases c31:t259=true
                    ·subst c31
                     have H1:(jk.l1 k4 l0 a3 t248 x10_1 t253 t253 (t253.length:Int) (wrap64 (x56_4+1)))=some r:=by rw [if_pos rfl] at H;exact H
                     clear H
                     have H:=H1
                     clear H1
                     have H':=am H
                     clear H
                     have p257:0≤(x56_4:Int):=ozD (uq)
                     have q257:x56_4<(t253.length:Int):=ozD (uq)
                     obtain ⟨ad257,e257,hx257_0⟩:=Kd.jPb (Kd.jC HO_54.out).2.2 x56_4 p257 q257
                     cases e257
                     replace p257:=ezT p257
                     replace q257:=ezT q257
                     go_wp2_with (first |((with_reducible refine jd (f:=62) rfl ?_);refine gL (some 65) Try.func62 #[.slice (some ad252) l0.length c0, .int .i64 (rd t253 x56_4)] ?_;(with_reducible refine (jpa.calls k4 _ _ l0 (rd t253 x56_4) t258 _ ?side1 ?side2 A29.out).mono ?_);(case side1=>exact cq (Kd.jZ HR0.out HB.out));(case side2=>exact HC0.out);rintro e w' ⟨rfl,⟨nd,rfl⟩⟩;refine ⟨_,rfl,?_⟩) |((with_reducible refine jd (f:=55) rfl ?_);refine gL (some 67) Try.func55 #[.slice (some ad252) l0.length c0, .int .i64 (wrap64 ((rd t253 x56_4)+1)), .int .i64 t258, .bool a3] ?_;(with_reducible refine (ih k4 (by have:=HK1.out;have:=HJ10.out;have:=HJ15.out;have:=HK4.out;omega) _ _ l0 (wrap64 ((rd t253 x56_4)+1)) t258 a3 true _ ?side1 ?side2 A30.out).mono ?_);(case side1=>exact cq (Kd.jZ HR0.out (bq)));(case side2=>exact HC0.out);rintro e w32 ⟨rfl,hb⟩;refine ⟨_,rfl,?_⟩;replace HO_9:=am (Kd.jqa (rq HO_9.out) hb);replace HO_13:=am (Kd.jqa (rq HO_13.out) hb);replace HO_54:=am (Kd.jqa (rq HO_54.out) hb);replace HB:=am (ji (bq) hb);(try clear hb);(try clear hb2);(try clear hk);(try clear hi)))
                     go_roundg k4
                     case measure=>have:=HK1.out;have:=HJ10.out;have:=HJ15.out;have:=HK4.out;omega
                     case rel=>exact ⟨(wrap64 (x56_4+1)),(sq),H',⟨by have:=HK1.out;have:=HJ10.out;have:=HJ15.out;have:=HK4.out;omega⟩,⟨rq HO_9.out⟩,⟨rq HO_13.out⟩,⟨rq HO_54.out⟩,⟨bq⟩⟩
                    ·replace c31:=Bool.eq_false_iff.mpr c31
                     subst c31
                     have H1:(some false)=some r:=by rw [if_neg (show ¬ (false=true) by decide)] at H;exact H
                     clear H
                     have H:=H1
                     clear H1
                     obtain rfl:=Option.some.inj H
                     have p257:0≤(x56_4:Int):=ozD (uq)
                     have q257:x56_4<(t253.length:Int):=ozD (uq)
                     obtain ⟨ad257,e257,hx257_0⟩:=Kd.jPb (Kd.jC HO_54.out).2.2 x56_4 p257 q257
                     cases e257
                     replace p257:=ezT p257
                     replace q257:=ezT q257
                     go_wp2_with (first |((with_reducible refine jd (f:=62) rfl ?_);refine gL (some 65) Try.func62 #[.slice (some ad252) l0.length c0, .int .i64 (rd t253 x56_4)] ?_;(with_reducible refine (jpa.calls k4 _ _ l0 (rd t253 x56_4) t258 _ ?side1 ?side2 A29.out).mono ?_);(case side1=>exact cq (Kd.jZ HR0.out HB.out));(case side2=>exact HC0.out);rintro e w' ⟨rfl,⟨nd,rfl⟩⟩;refine ⟨_,rfl,?_⟩) |((with_reducible refine jd (f:=55) rfl ?_);refine gL (some 67) Try.func55 #[.slice (some ad252) l0.length c0, .int .i64 (wrap64 ((rd t253 x56_4)+1)), .int .i64 t258, .bool a3] ?_;(with_reducible refine (ih k4 (by have:=HK1.out;have:=HJ10.out;have:=HJ15.out;have:=HK4.out;omega) _ _ l0 (wrap64 ((rd t253 x56_4)+1)) t258 a3 false _ ?side1 ?side2 A30.out).mono ?_);(case side1=>exact cq (Kd.jZ HR0.out (bq)));(case side2=>exact HC0.out);rintro e w33 ⟨rfl,hb⟩;refine ⟨_,rfl,?_⟩;replace HO_9:=am (Kd.jqa (rq HO_9.out) hb);replace HO_13:=am (Kd.jqa (rq HO_13.out) hb);replace HO_54:=am (Kd.jqa (rq HO_54.out) hb);replace HB:=am (ji (bq) hb);(try clear hb);(try clear hb2);(try clear hk);(try clear hi)))
                     go_ret
                     exact ⟨Y0,bq⟩
                   ·rw [if_neg c28] at H
                    exact absurd H (by simp)
                  ·rw [if_neg c27] at H
                   exact absurd H (by simp)
                 ·rw [if_neg c26] at H
                  have c26b0:decide (x56_4<(t253.length:Int))=false:=dzF c26
                  clear c26
                  have H':=am H
                  clear H
                  go_wp2
                  go_roundg k4
                  case measure=>have:=HK1.out;have:=HJ10.out;have:=HJ15.out;have:=HK4.out;omega
                  case rel=>exact ⟨(wrap64 ((wrap64 (x10_1+(wrap64 ((t253.length:Int) - 1))))+1)),(sq),H',⟨by have:=HK1.out;have:=HJ10.out;have:=HJ15.out;have:=HK4.out;omega⟩,⟨by (with_reducible repeat (first | apply Kd.jma | apply Kd.jla | apply Kd.jva));exact Kd.jG HO_9.out (fun _ hk=>trivial)⟩,⟨bq⟩⟩
              ·replace c23:=Bool.eq_false_iff.mpr c23
               subst c23
               have H1:(some false)=some r:=by rw [if_neg (show ¬ (false=true) by decide)] at H;exact H
               clear H
               have H:=H1
               clear H1
               obtain rfl:=Option.some.inj H
               go_wp2_with (first |((with_reducible refine jd (f:=68) rfl ?_);refine gL (some 49) Try.func68 #[.slice (some ad252) l0.length c0, .int .i64 (rd t248 x10_1)] ?_;(with_reducible refine (jha.calls kj15 _ _ l0 (rd t248 x10_1) t253 _ ?side1 ?side2 A21.out).mono ?_);(case side1=>exact cq (Kd.jZ HR0.out HB.out));(case side2=>exact HC0.out);rintro e w34 ⟨v254,rfl,ho0,hb⟩;refine ⟨_,rfl,?_⟩;have HO255:=am (Kd.jfa (Kd.jzb ho0 (Kd.R_lt (rq HO_9.out))) (jka (bq)));replace HO_9:=am (Kd.jVb (rq HO_9.out) (Kd.jAb ho0) hb);replace HB:=am (ji (bq) hb);(try clear hb);(try clear hb2);(try clear hk);(try clear hi);(try clear ho0);obtain ⟨Ao35,co35,eo35⟩:=Kd.jta HO255.out;subst eo35) |((with_reducible refine jd (f:=83) rfl ?_);refine gL (some 52) Try.func83 #[.slice (some ad252) l0.length c0, .slice Ao35 t253.length co35] ?_;(with_reducible refine (jMa.calls _ _ l0 _ _ t253 false _ ?side1 ?side2 ?side3 ?side4 A22.out).mono ?_);(case side1=>exact cq (Kd.jZ HR0.out HB.out));(case side2=>exact HC0.out);(case side3=>exact cq (Kd.jC HO255.out).2.2);(case side4=>exact (Kd.jC HO255.out).2.1);rintro e w' ⟨rfl,⟨nd,rfl⟩⟩;refine ⟨_,rfl,?_⟩))
               go_ret
               exact ⟨Y0,bq⟩
             ·rw [if_neg c20] at H
              have c20b0:(((jc l0 (rd t248 x10_1)).f1) == 7)=false:=beq_eq_false_iff_ne.mpr c20
              have c20b1:(((jc l0 (rd t248 x10_1)).f1) != 7)=true:=bne_iff_ne.mpr c20
              have HC36:=am H
              clear H
              go_upto_if 75 with (fail)
              go_cut [75] (fun v75 wc=>∃ (kq:Nat) (x75_35:Bool),v75=.bool x75_35∧jl (jk.j4 kq l0 a3 t248 x10_1 (rd t248 x10_1) ((jc l0 (rd t248 x10_1)).f1) x75_35=some r)∧jl (kq≤kj15)∧jl (Kd.R (Kd.int .i64) 3 wc w.heap.size (fun _=>True) (.slice (some ad251) t248.length co12) t248)∧jl (Below w.heap.size w wc))
              case first =>
               have H:=HC36.out
               clear HC36
               by_cases c37:((jc l0 (rd t248 x10_1)).f1)=11
               ·rw [if_pos c37] at H
                have c37b0:(((jc l0 (rd t248 x10_1)).f1) == 11)=true:=beq_iff_eq.mpr c37
                have c37b1:(((jc l0 (rd t248 x10_1)).f1) != 11)=false:=bne_eq_false_iff_eq.mpr c37
                clear c37
                (first | rw [c37b0] |(simp only [jkb,jnb];rw [c37b0]) | skip)
                have H':=am H
                clear H
                go_wp2
                go_meet
                case rel=>exact ⟨_,((((jc l0 (rd t248 x10_1)).f1) == 11)),(sq),H',⟨by have:=HK1.out;have:=HJ10.out;have:=HJ15.out;first | omega | exact Nat.le_refl _⟩,⟨rq HO_9.out⟩,⟨bq⟩⟩
               ·rw [if_neg c37] at H
                have c37b0:(((jc l0 (rd t248 x10_1)).f1) == 11)=false:=beq_eq_false_iff_ne.mpr c37
                have c37b1:(((jc l0 (rd t248 x10_1)).f1) != 11)=true:=bne_iff_ne.mpr c37
                (first | rw [c37b0] |(simp only [jkb,jnb];rw [c37b0]) | skip)
                have H':=am H
                clear H
                go_wp2
                go_meet
                case rel=>exact ⟨_,((((jc l0 (rd t248 x10_1)).f1) == 12)),(sq),H',⟨by have:=HK1.out;have:=HJ10.out;have:=HJ15.out;first | omega | exact Nat.le_refl _⟩,⟨rq HO_9.out⟩,⟨bq⟩⟩
              case rest =>
               clear HC36
               try clear c1
               try clear c2
               try clear p2
               try clear q2
               try clear hx2
               try clear c3
               try clear c5
               try clear c6
               try clear p6
               try clear c7
               try clear c7b0
               try clear c8
               try clear c8b0
               try clear c9
               try clear c9b0
               try clear c10
               try clear c10b0
               try clear c13
               try clear c13b0
               try clear c13b1
               try clear c14
               try clear c15
               try clear c17
               try clear c17b0
               try clear c17b1
               try clear c18
               try clear c18b0
               try clear c18b1
               try clear c19
               try clear c20
               try clear c20b0
               try clear c20b1
               try clear c23
               try clear p25
               try clear q25
               try clear hx25
               try clear c26
               try clear c26b0
               try clear c27
               try clear c27b0
               try clear c28
               try clear c28b0
               try clear c31
               try clear c37
               try clear c37b0
               try clear c37b1
               try clear hx251_0
               try clear hx252_0
               try clear hx252_1
               try clear hx252_2
               try clear hx252_3
               try clear hx257_0
               try clear p2
               try clear p25
               try clear p251
               try clear p252
               try clear p257
               try clear p6
               try clear q2
               try clear q25
               try clear q251
               try clear q252
               try clear q257
               obtain ⟨kq,x75_35,rfl,HA,HJ35,HO_9,HB⟩:=hcut
               cases kq with
               | zero=>exact absurd HA.out (by simp [jk.j4])
               | succ kj35 =>
                have H:=HA.out
                clear HA
                simp only [jk.j4] at H
                by_cases c38:x75_35=true
                ·subst c38
                 have H1:((jpa.f kj35 l0 (rd t248 x10_1)).bind fun t260=>(if a3=true then ((jk.f kj35 l0 (wrap64 ((rd t248 x10_1)+1)) t260 true).bind fun t261=>(if t261=true then (jk.l0 kj35 l0 a3 t248 (wrap64 (x10_1+1))) else (some false))) else ((jk.f kj35 l0 (wrap64 ((rd t248 x10_1)+1)) t260 (((jc l0 (rd t248 x10_1)).f1) == 12)).bind fun t262=>(if t262=true then (jk.l0 kj35 l0 a3 t248 (wrap64 (x10_1+1))) else (some false)))))=some r:=by rw [if_pos rfl] at H;exact H
                 clear H
                 have H:=H1
                 clear H1
                 replace H:=bzS H
                 obtain ⟨t260,A390,H⟩:=H
                 replace H:(if a3=true then ((jk.f kj35 l0 (wrap64 ((rd t248 x10_1)+1)) t260 true).bind fun t261=>(if t261=true then (jk.l0 kj35 l0 a3 t248 (wrap64 (x10_1+1))) else (some false))) else ((jk.f kj35 l0 (wrap64 ((rd t248 x10_1)+1)) t260 (((jc l0 (rd t248 x10_1)).f1) == 12)).bind fun t262=>(if t262=true then (jk.l0 kj35 l0 a3 t248 (wrap64 (x10_1+1))) else (some false))))=some r:=H
                 have A39:=am A390
                 clear A390
                 by_cases c40:a3=true
                 ·subst c40
                  have H1:((jk.f kj35 l0 (wrap64 ((rd t248 x10_1)+1)) t260 true).bind fun t261=>(if t261=true then (jk.l0 kj35 l0 true t248 (wrap64 (x10_1+1))) else (some false)))=some r:=by rw [if_pos rfl] at H;exact H
                  clear H
                  have H:=H1
                  clear H1
                  replace H:=bzS H
                  obtain ⟨t261,A410,H⟩:=H
                  replace H:(if t261=true then (jk.l0 kj35 l0 true t248 (wrap64 (x10_1+1))) else (some false))=some r:=H
                  have A41:=am A410
                  clear A410
                  by_cases c42:t261=true
                  ·subst c42
                   have H1:(jk.l0 kj35 l0 true t248 (wrap64 (x10_1+1)))=some r:=by rw [if_pos rfl] at H;exact H
                   clear H
                   have H:=H1
                   clear H1
                   have H':=am H
                   clear H
                   go_wp2_with (first |((with_reducible refine jd (f:=62) rfl ?_);refine gL (some 83) Try.func62 #[.slice (some ad252) l0.length c0, .int .i64 (rd t248 x10_1)] ?_;(with_reducible refine (jpa.calls kj35 _ _ l0 (rd t248 x10_1) t260 _ ?side1 ?side2 A39.out).mono ?_);(case side1=>exact cq (Kd.jZ HR0.out HB.out));(case side2=>exact HC0.out);rintro e w' ⟨rfl,⟨nd,rfl⟩⟩;refine ⟨_,rfl,?_⟩) |((with_reducible refine jd (f:=55) rfl ?_);refine gL (some 89) Try.func55 #[.slice (some ad252) l0.length c0, .int .i64 (wrap64 ((rd t248 x10_1)+1)), .int .i64 t260, .bool true] ?_;(with_reducible refine (ih kj35 (by have:=HK1.out;have:=HJ10.out;have:=HJ15.out;have:=HJ35.out;omega) _ _ l0 (wrap64 ((rd t248 x10_1)+1)) t260 true true _ ?side1 ?side2 A41.out).mono ?_);(case side1=>exact cq (Kd.jZ HR0.out (bq)));(case side2=>exact HC0.out);rintro e w43 ⟨rfl,hb⟩;refine ⟨_,rfl,?_⟩;replace HO_9:=am (Kd.jqa (rq HO_9.out) hb);replace HB:=am (ji (bq) hb);(try clear hb);(try clear hb2);(try clear hk);(try clear hi)))
                   go_roundg kj35
                   case measure=>have:=HK1.out;have:=HJ10.out;have:=HJ15.out;have:=HJ35.out;omega
                   case rel=>exact ⟨(wrap64 (x10_1+1)),(sq),H',⟨by have:=HK1.out;have:=HJ10.out;have:=HJ15.out;have:=HJ35.out;omega⟩,⟨rq HO_9.out⟩,⟨bq⟩⟩
                  ·replace c42:=Bool.eq_false_iff.mpr c42
                   subst c42
                   have H1:(some false)=some r:=by rw [if_neg (show ¬ (false=true) by decide)] at H;exact H
                   clear H
                   have H:=H1
                   clear H1
                   obtain rfl:=Option.some.inj H
                   go_wp2_with (first |((with_reducible refine jd (f:=62) rfl ?_);refine gL (some 83) Try.func62 #[.slice (some ad252) l0.length c0, .int .i64 (rd t248 x10_1)] ?_;(with_reducible refine (jpa.calls kj35 _ _ l0 (rd t248 x10_1) t260 _ ?side1 ?side2 A39.out).mono ?_);(case side1=>exact cq (Kd.jZ HR0.out HB.out));(case side2=>exact HC0.out);rintro e w' ⟨rfl,⟨nd,rfl⟩⟩;refine ⟨_,rfl,?_⟩) |((with_reducible refine jd (f:=55) rfl ?_);refine gL (some 89) Try.func55 #[.slice (some ad252) l0.length c0, .int .i64 (wrap64 ((rd t248 x10_1)+1)), .int .i64 t260, .bool true] ?_;(with_reducible refine (ih kj35 (by have:=HK1.out;have:=HJ10.out;have:=HJ15.out;have:=HJ35.out;omega) _ _ l0 (wrap64 ((rd t248 x10_1)+1)) t260 true false _ ?side1 ?side2 A41.out).mono ?_);(case side1=>exact cq (Kd.jZ HR0.out (bq)));(case side2=>exact HC0.out);rintro e w44 ⟨rfl,hb⟩;refine ⟨_,rfl,?_⟩;replace HO_9:=am (Kd.jqa (rq HO_9.out) hb);replace HB:=am (ji (bq) hb);(try clear hb);(try clear hb2);(try clear hk);(try clear hi)))
                   go_ret
                   exact ⟨Y0,bq⟩
                 ·replace c40:=Bool.eq_false_iff.mpr c40
                  subst c40
                  have H1:((jk.f kj35 l0 (wrap64 ((rd t248 x10_1)+1)) t260 (((jc l0 (rd t248 x10_1)).f1) == 12)).bind fun t262=>(if t262=true then (jk.l0 kj35 l0 false t248 (wrap64 (x10_1+1))) else (some false)))=some r:=by rw [if_neg (show ¬ (false=true) by decide)] at H;exact H
                  clear H
                  have H:=H1
                  clear H1
                  replace H:=bzS H
                  obtain ⟨t262,A450,H⟩:=H
                  replace H:(if t262=true then (jk.l0 kj35 l0 false t248 (wrap64 (x10_1+1))) else (some false))=some r:=H
                  have A45:=am A450
                  clear A450
                  by_cases c46:t262=true
                  ·subst c46
                   have H1:(jk.l0 kj35 l0 false t248 (wrap64 (x10_1+1)))=some r:=by rw [if_pos rfl] at H;exact H
                   clear H
                   have H:=H1
                   clear H1
                   have H':=am H
                   clear H
                   go_wp2_with (first |((with_reducible refine jd (f:=62) rfl ?_);refine gL (some 83) Try.func62 #[.slice (some ad252) l0.length c0, .int .i64 (rd t248 x10_1)] ?_;(with_reducible refine (jpa.calls kj35 _ _ l0 (rd t248 x10_1) t260 _ ?side1 ?side2 A39.out).mono ?_);(case side1=>exact cq (Kd.jZ HR0.out HB.out));(case side2=>exact HC0.out);rintro e w' ⟨rfl,⟨nd,rfl⟩⟩;refine ⟨_,rfl,?_⟩) |((with_reducible refine jd (f:=55) rfl ?_);refine gL (some 89) Try.func55 #[.slice (some ad252) l0.length c0, .int .i64 (wrap64 ((rd t248 x10_1)+1)), .int .i64 t260, .bool (((jc l0 (rd t248 x10_1)).f1) == 12)] ?_;(with_reducible refine (ih kj35 (by have:=HK1.out;have:=HJ10.out;have:=HJ15.out;have:=HJ35.out;omega) _ _ l0 (wrap64 ((rd t248 x10_1)+1)) t260 (((jc l0 (rd t248 x10_1)).f1) == 12) true _ ?side1 ?side2 A45.out).mono ?_);(case side1=>exact cq (Kd.jZ HR0.out (bq)));(case side2=>exact HC0.out);rintro e w47 ⟨rfl,hb⟩;refine ⟨_,rfl,?_⟩;replace HO_9:=am (Kd.jqa (rq HO_9.out) hb);replace HB:=am (ji (bq) hb);(try clear hb);(try clear hb2);(try clear hk);(try clear hi)))
                   go_roundg kj35
                   case measure=>have:=HK1.out;have:=HJ10.out;have:=HJ15.out;have:=HJ35.out;omega
                   case rel=>exact ⟨(wrap64 (x10_1+1)),(sq),H',⟨by have:=HK1.out;have:=HJ10.out;have:=HJ15.out;have:=HJ35.out;omega⟩,⟨rq HO_9.out⟩,⟨bq⟩⟩
                  ·replace c46:=Bool.eq_false_iff.mpr c46
                   subst c46
                   have H1:(some false)=some r:=by rw [if_neg (show ¬ (false=true) by decide)] at H;exact H
                   clear H
                   have H:=H1
                   clear H1
                   obtain rfl:=Option.some.inj H
                   go_wp2_with (first |((with_reducible refine jd (f:=62) rfl ?_);refine gL (some 83) Try.func62 #[.slice (some ad252) l0.length c0, .int .i64 (rd t248 x10_1)] ?_;(with_reducible refine (jpa.calls kj35 _ _ l0 (rd t248 x10_1) t260 _ ?side1 ?side2 A39.out).mono ?_);(case side1=>exact cq (Kd.jZ HR0.out HB.out));(case side2=>exact HC0.out);rintro e w' ⟨rfl,⟨nd,rfl⟩⟩;refine ⟨_,rfl,?_⟩) |((with_reducible refine jd (f:=55) rfl ?_);refine gL (some 89) Try.func55 #[.slice (some ad252) l0.length c0, .int .i64 (wrap64 ((rd t248 x10_1)+1)), .int .i64 t260, .bool (((jc l0 (rd t248 x10_1)).f1) == 12)] ?_;(with_reducible refine (ih kj35 (by have:=HK1.out;have:=HJ10.out;have:=HJ15.out;have:=HJ35.out;omega) _ _ l0 (wrap64 ((rd t248 x10_1)+1)) t260 (((jc l0 (rd t248 x10_1)).f1) == 12) false _ ?side1 ?side2 A45.out).mono ?_);(case side1=>exact cq (Kd.jZ HR0.out (bq)));(case side2=>exact HC0.out);rintro e w48 ⟨rfl,hb⟩;refine ⟨_,rfl,?_⟩;replace HO_9:=am (Kd.jqa (rq HO_9.out) hb);replace HB:=am (ji (bq) hb);(try clear hb);(try clear hb2);(try clear hk);(try clear hi)))
                   go_ret
                   exact ⟨Y0,bq⟩
                ·replace c38:=Bool.eq_false_iff.mpr c38
                 subst c38
                 have H1:(jk.l0 kj35 l0 a3 t248 (wrap64 (x10_1+1)))=some r:=by rw [if_neg (show ¬ (false=true) by decide)] at H;exact H
                 clear H
                 have H:=H1
                 clear H1
                 have H':=am H
                 clear H
                 go_wp2
                 go_roundg kj35
                 case measure=>have:=HK1.out;have:=HJ10.out;have:=HJ15.out;have:=HJ35.out;omega
                 case rel=>exact ⟨(wrap64 (x10_1+1)),(sq),H',⟨by have:=HK1.out;have:=HJ10.out;have:=HJ15.out;have:=HJ35.out;omega⟩,⟨rq HO_9.out⟩,⟨bq⟩⟩
      ·rw [if_neg c10] at H
       exact absurd H (by simp)
     ·rw [if_neg c9] at H
      exact absurd H (by simp)
    ·rw [if_neg c8] at H
     exact absurd H (by simp)
   ·rw [if_neg c7] at H
    have c7b0:decide (x10_1<(t248.length:Int))=false:=dzF c7
    clear c7
    obtain rfl:=Option.some.inj H
    obtain ⟨Ao49,co49,eo49⟩:=Kd.jta HO_9.out
    subst eo49
    go_wp2
    go_ret
    exact ⟨Y0,bq⟩
def inB (a lo hi : Int) : Bool := decide (lo ≤ a) && decide (a ≤ hi)
theorem jMb (a lo hi : Int) : jK.f a lo hi = some (inB a lo hi) := by
 unfold jK.f inB
 by_cases h:a≥lo
 ·rw [if_pos h];simp [show lo≤a from h]
 ·rw [if_neg h];simp [show ¬ lo≤a from h]
theorem jAc (a b c d : Int) : jIb.f a b c d = some (inB b 7 12) := by
 unfold jIb.f
 rw [jMb];rfl
def VF (W : World) (B1 BL BT : Nat) (a x : S52) (tv : Value) : Prop :=
 W.heap[B1]?=some (.cells #[.int .i64 a.f0, .int .i64 a.f1, .int .i64 a.f2, .int .i64 a.f3] 52 (0,0))∧W.heap[BL]?=some (.cells #[.int .i64 x.f0, .int .i64 x.f1, .int .i64 x.f2, .int .i64 x.f3] 52 (0,0))∧W.cell? ⟨BT,0,none⟩=some tv
theorem VF.below {W W' : World} {B1 BL BT : Nat} {a x : S52} {tv : Value} (h : VF W B1 BL BT a x tv) (hb : Below W.heap.size W W') : VF W' B1 BL BT a x tv :=
 ⟨(hb.block _ (jEb h.1)).trans h.1,(hb.block _ (jEb h.2.1)).trans h.2.1,jia hb h.2.2⟩
theorem VF.cells {W : World} {B1 BL BT : Nat} {a x : S52} {tv : Value} (h : VF W B1 BL BT a x tv) :
  W.cell? ⟨B1,0,none⟩=some (.int .i64 a.f0)∧W.cell? ⟨B1,1,none⟩=some (.int .i64 a.f1)∧W.cell? ⟨B1,2,none⟩=some (.int .i64 a.f2)∧W.cell? ⟨B1,3,none⟩=some (.int .i64 a.f3) ∧
  W.cell? ⟨BL,0,none⟩=some (.int .i64 x.f0)∧W.cell? ⟨BL,1,none⟩=some (.int .i64 x.f1)∧W.cell? ⟨BL,2,none⟩=some (.int .i64 x.f2)∧W.cell? ⟨BL,3,none⟩=some (.int .i64 x.f3)∧W.cell? ⟨BT,0,none⟩=some tv :=
 ⟨(jJ h.1 0).trans rfl,(jJ h.1 1).trans rfl,(jJ h.1 2).trans rfl,(jJ h.1 3).trans rfl,(jJ h.2.1 0).trans rfl,(jJ h.2.1 1).trans rfl,(jJ h.2.1 2).trans rfl,(jJ h.2.1 3).trans rfl,h.2.2⟩
theorem VF.frozen {W : World} {B1 BL BT : Nat} {a x : S52} {tv : Value} (h : VF W B1 BL BT a x tv) : W.frozen? ⟨B1, 0, none⟩ = false ∧ W.frozen? ⟨B1, 1, none⟩ = false ∧ W.frozen? ⟨B1, 2, none⟩ = false ∧ W.frozen? ⟨B1, 3, none⟩ = false :=
 ⟨ja h.1 0,ja h.1 1,ja h.1 2,ja h.1 3⟩
theorem four_stored {W : World} {B T : Nat} {a b c d a' b' c' d' : Value} (h : W.heap[B]? = some (.cells #[a, b, c, d] T (0, 0))) :
  ((((W.setCell ⟨B,0,none⟩ a').setCell ⟨B,1,none⟩ b').setCell ⟨B,2,none⟩ c').setCell ⟨B,3,none⟩ d').heap[B]?=some (.cells #[a',b',c',d'] T (0,0)):=by
 have h0:=blk_set h 0 a'
 have h1:=blk_set h0 1 b'
 have h2:=blk_set h1 2 c'
 have h3:=blk_set h2 3 d'
 simpa using h3
theorem four_below {W w : World} {base B : Nat} {a' b' c' d' : Value} (h : Below base w W) (hB : base ≤ B) :
  Below base w ((((W.setCell ⟨B,0,none⟩ a').setCell ⟨B,1,none⟩ b').setCell ⟨B,2,none⟩ c').setCell ⟨B,3,none⟩ d') :=
 (((h.setCell (p:=⟨B,0,none⟩) hB _).setCell (p:=⟨B,1,none⟩) hB _).setCell (p:=⟨B,2,none⟩) hB _).setCell (p:=⟨B,3,none⟩) hB _
theorem four_far {W : World} {B C : Nat} {a' b' c' d' v : Value} (h : W.cell? ⟨C, 0, none⟩ = some v) (hne : B ≠ C) :
  ((((W.setCell ⟨B,0,none⟩ a').setCell ⟨B,1,none⟩ b').setCell ⟨B,2,none⟩ c').setCell ⟨B,3,none⟩ d').cell? ⟨C,0,none⟩=some v:=by
 have e:∀ j,(⟨B,j,none⟩:Addr)≠⟨C,0,none⟩:=fun j hj=>hne (by injection hj)
 rw [World.cell?_setCell_other (h:=e 3),World.cell?_setCell_other (h:=e 2),World.cell?_setCell_other (h:=e 1),World.cell?_setCell_other (h:=e 0)]
 exact h
def jy.bad (x last : S52) : Bool := !inB x.f0 0 5 || (inB last.f1 7 12 && decide (x.f0 ≠ last.f0 + 1)) || (!inB last.f1 7 12 && decide (last.f0 < x.f0))
def jy.go (k : Nat) (t : List S78) : List S52 → S52 → Option (Option S52)
 | [],last=>some (some last)
 | x :: xs,last=>(jAa.f k x.f0 x.f1 x.f2 x.f3 t).bind fun v=>if v=false then some none else if jy.bad x last then some none else jy.go k t xs x
def jy.f (k : Nat) (l0_0 : List S78) (l1 : List S52) : Option Bool := (jE.f k l0_0).bind fun v =>
 if v=false then some false else if 24<l1.length then some false else
 (jy.go k l0_0 l1 ⟨-1,7,0,0⟩).bind fun q=>match q with
 | none=>some false
 | some last=>if l1.length=0 then jk.f k l1 0 (l1.length:Int) false else if inB last.f1 7 12 then some false else jk.f k l1 0 (l1.length:Int) false
theorem jy.step {k : Nat} {t : List S78} {p : List S52} {n : Nat} {last : S52} {q : Option S52} (hn : n < p.length) (h : jy.go k t (p.drop n) last = some q) :
  ∃ v,jAa.f k p[n].f0 p[n].f1 p[n].f2 p[n].f3 t=some v∧(if v=false then some none else if jy.bad p[n] last then some none else jy.go k t (p.drop (n+1)) p[n])=some q:=by
 rw [List.drop_eq_getElem_cons hn] at h
 exact bzS h
set_option maxHeartbeats 8000000 in
set_option maxRecDepth 100000 in
theorem jy.calls (k : Nat) (A0_0 : Option Addr) (c0_0 : Nat) (l0_0 : List S78) (A1 : Option Addr) (c1 : Nat) (l1 : List S52) (r : Bool) (w : World) (hr0_0 : Kd.C k78 w A0_0 l0_0.length l0_0) (hc0_0 : l0_0.length ≤ c0_0) (hr1 : Kd.C k52 w A1 l1.length l1) (hc1 : l1.length ≤ c1) (h : jy.f k l0_0 l1 = some r) :
  Calls Try.prog 27 #[.agg #[.slice A0_0 l0_0.length c0_0], .slice A1 l1.length c1] w fun e w'=>e=.returned (.bool r)∧Below w.heap.size w w':=by
 have hu32:=Try.underlying32
 have hu52:=Try.underlying52
 have hm:l1.length≤9223372036854775807:=Kd.C_max hr1
 obtain ⟨v,hv,h⟩:=bzS h
 have HV:=am (fun W (hb:Below w.heap.size w W)=>jE.calls k A0_0 c0_0 l0_0 v W (Kd.jZ hr0_0 hb) hc0_0 hv)
 have HR0:=am hr0_0
 have HR1:=am hr1
 clear hv hr0_0 hr1
 cases v with
 | false =>
  obtain rfl:false=r:=by simpa using h
  clear h
  go_enter Try.func27,Try.ntmps27
  go_wp2_with (go_at_call 51;refine (HV.out _ ((Below.refl _ _).alloc (Nat.le_refl _) _)).mono ?_;rintro e w' ⟨rfl,hb2⟩)
  go_ret
  exact ⟨rfl,((Below.refl _ _).alloc (Nat.le_refl _) _).trans (hb2.mono (by simp))⟩
 | true =>
  simp only [Bool.true_eq_false,if_false] at h
  by_cases h24:24<l1.length
  ·rw [if_pos h24] at h
   obtain rfl:false=r:=by simpa using h
   have h24b:decide (24<l1.length)=true:=dzT h24
   clear h
   go_enter Try.func27,Try.ntmps27
   go_wp2_with (go_at_call 51;refine (HV.out _ ((Below.refl _ _).alloc (Nat.le_refl _) _)).mono ?_;rintro e w' ⟨rfl,hb2⟩)
   go_ret
   exact ⟨rfl,((Below.refl _ _).alloc (Nat.le_refl _) _).trans (hb2.mono (by simp))⟩
  ·rw [if_neg h24] at h
   have h24b:decide (24<l1.length)=false:=dzF h24
   obtain ⟨q,hq,h⟩:=bzS h
   have H0:=am hq
   have HZ:=am h
   clear h hq
   go_enter Try.func27,Try.ntmps27
   go_wp2_with (go_at_call 51;refine (HV.out _ ((Below.refl _ _).alloc (Nat.le_refl _) _)).mono ?_;rintro e w2 ⟨rfl,hb2⟩;have HB2:=am (((Below.refl w.heap.size w).alloc (Nat.le_refl _) (.cells #[.slice A0_0 l0_0.length c0_0] 32)).trans (hb2.mono (by simp)));have hs2:w.heap.size<w2.heap.size:=Nat.lt_of_lt_of_le (by simp) hb2.size;have ht2:=jia hb2 (show (w.alloc (.cells #[.slice A0_0 l0_0.length c0_0] 32)).cell? ⟨w.heap.size,0,none⟩=some (.slice A0_0 l0_0.length c0_0) by simp);clear hb2)
   obtain ⟨B1,hB1⟩:∃ B1,B1=w2.heap.size:=⟨_,rfl⟩
   have HBK:=am (show (w2.alloc (.cells #[.int .i64 (-1), .int .i64 7, .int .i64 0, .int .i64 0] 52)).heap[B1]?=some (.cells #[.int .i64 (-1), .int .i64 7, .int .i64 0, .int .i64 0] 52 (0,0)) by rw [hB1];exact heap_alloc_new w2 _)
   have hBl:=am (HB2.out.alloc (Nat.le_of_lt hs2) (.cells #[.int .i64 (-1), .int .i64 7, .int .i64 0, .int .i64 0] 52))
   have hT:=am (show (w2.alloc (.cells #[.int .i64 (-1), .int .i64 7, .int .i64 0, .int .i64 0] 52)).cell? ⟨w.heap.size,0,none⟩=some (.slice A0_0 l0_0.length c0_0) by simp [World.cell?_alloc_old,Nat.ne_of_lt hs2,ht2])
   rw [← hB1]
   have hlt1:w.heap.size<B1:=by omega
   clear hB1
   generalize w2.alloc (.cells #[.int .i64 (-1), .int .i64 7, .int .i64 0, .int .i64 0] 52)=w3 at HBK hBl hT ⊢
   clear ht2 hs2 HB2 HV
   go_loopw [19] (fun i19 wr=>∃ (n:Nat) (last:S52),i19=.int .i64 n∧n≤l1.length∧-1≤last.f0∧last.f0≤5∧jl (jy.go k l0_0 (l1.drop n) last=some q)∧jl (wr.heap[B1]?=some (.cells #[.int .i64 last.f0, .int .i64 last.f1, .int .i64 last.f2, .int .i64 last.f3] 52 (0,0)))∧jl (wr.cell? ⟨w.heap.size,0,none⟩=some (.slice A0_0 l0_0.length c0_0))∧jl (Below w.heap.size w wr)) (fun i19 _=>l1.length - (intOf i19).toNat)
   case atStart=>exact ⟨0,⟨-1,7,0,0⟩,rfl,Nat.zero_le _,by simp,by simp,H0,HBK,hT,hBl⟩
   case round =>
    clear H0 HBK hT hBl
    obtain ⟨n,last,rfl,hn,hlo,hhi,HA,HBK,HT,HB⟩:=hrel
    have ht2:=HT.out
    have g0:wr.cell? ⟨B1,0,none⟩=some (.int .i64 last.f0):=(jJ HBK.out 0).trans rfl
    have g1:wr.cell? ⟨B1,1,none⟩=some (.int .i64 last.f1):=(jJ HBK.out 1).trans rfl
    have g2:wr.cell? ⟨B1,2,none⟩=some (.int .i64 last.f2):=(jJ HBK.out 2).trans rfl
    have g3:wr.cell? ⟨B1,3,none⟩=some (.int .i64 last.f3):=(jJ HBK.out 3).trans rfl
    have hBw:B1<wr.heap.size:=jEb HBK.out
    have hne:B1≠wr.heap.size:=by omega
    have hne2:w.heap.size≠wr.heap.size:=by omega
    have hTw:w.heap.size<wr.heap.size:=by omega
    by_cases hlt:n<l1.length
    ·obtain ⟨v,hv,hs⟩:=jy.step hlt HA.out
     clear HA
     obtain ⟨ad,rfl,hx0,hx1,hx2,hx3⟩:=jua HR1.out (n:Int) (by omega) (by omega)
     have hrd:jc l1 (n:Int)=l1[n]:=by simp [jc,List.getD_eq_getElem?_getD,hlt]
     rw [hrd,Int.toNat_natCast] at hx0 hx1 hx2 hx3
     clear hrd
     generalize l1[n]=x at hv hs hx0 hx1 hx2 hx3
     have hb:=HB.out
     replace hx0:=jia hb hx0
     replace hx1:=jia hb hx1
     replace hx2:=jia hb hx2
     replace hx3:=jia hb hx3
     clear hb
     have HG:=am (fun W (hb:Below w.heap.size w W)=>jAa.calls k x.f0 x.f1 x.f2 x.f3 A0_0 c0_0 l0_0 v W (Kd.jZ HR0.out hb) hc0_0 hv)
     clear hv
     cases v with
     | false =>
      obtain rfl:none=q:=by simpa using hs
      obtain rfl:false=r:=by simpa using HZ.out
      clear hs HZ
      go_wp2_with (go_at_call 52;refine (HG.out _ (HB.out.alloc HB.out.size _)).mono ?_;rintro e w4 ⟨rfl,hb4⟩)
      go_ret
      exact ⟨rfl,jga (HB.out.alloc HB.out.size _) (by simp;have:=HB.out.size;omega) hb4⟩
     | true =>
      simp only [Bool.true_eq_false,if_false] at hs
      have V0:=am (show VF (wr.alloc (.cells #[.int .i64 x.f0, .int .i64 x.f1, .int .i64 x.f2, .int .i64 x.f3] 52)) B1 wr.heap.size w.heap.size last x (.slice A0_0 l0_0.length c0_0) from ⟨(heap_alloc_old wr _ hBw).trans HBK.out,heap_alloc_new wr _,by rw [World.cell?_alloc_old _ _ _ hne2];exact HT.out⟩)
      have HO:=am (fun W=>jIb.calls last.f0 last.f1 last.f2 last.f3 _ W (jAc _ _ _ _))
      clear g0 g1 g2 g3
      have tok1:True:=trivial
      have HS:=am hs
      clear hs
      cases h5:inB x.f0 0 5 with
      | false =>
       have H5:=am h5
       obtain rfl:none=q:=by simpa [jy.bad,h5] using HS.out
       obtain rfl:false=r:=by simpa using HZ.out
       clear HS HZ h5
       go_wp2_with (first |(go_at_call 52;refine (HG.out _ (HB.out.alloc HB.out.size _)).mono ?_;rintro e w4 ⟨rfl,hb4⟩;have V4:=am (VF.below V0.out hb4);have HB4:=am (jga (HB.out.alloc HB.out.size _) (by simp;have:=HB.out.size;omega) hb4);clear hb4;obtain ⟨g0,g1,g2,g3,e0,e1,e2,e3,ht4⟩:=VF.cells V4.out) |(go_at_call 53;refine (jK.calls _ _ _ _ _ (jMb _ _ _)).mono ?_;rintro e w5 ⟨rfl,⟨nd,rfl⟩⟩;rw [H5.out]))
       go_ret
       exact ⟨rfl,jm HB4.out _⟩
      | true =>
       have H5:=am h5
       have hx5:0≤x.f0∧x.f0≤5:=by simpa [inB] using h5
       cases ho:inB last.f1 7 12 with
       | true =>
        rw [ho] at HO
        by_cases hd:x.f0=last.f0+1
        ·have hb1:(x.f0 != last.f0+1)=false:=by simpa using hd
         have hbad:jy.bad x last=false:=by unfold jy.bad;rw [h5,ho];simp [hd]
         have HN:=am (by have:=HS.out;rw [hbad] at this;simpa using this:jy.go k l0_0 (l1.drop (n+1)) x=some q)
         clear hbad
         clear HS hd h5 ho
         go_wp2_with (first |(go_at_call 52;refine (HG.out _ (HB.out.alloc HB.out.size _)).mono ?_;rintro e w4 ⟨rfl,hb4⟩;have V4:=am (VF.below V0.out hb4);have HB4:=am (jga (HB.out.alloc HB.out.size _) (by simp;have:=HB.out.size;omega) hb4);clear hb4;obtain ⟨g0,g1,g2,g3,e0,e1,e2,e3,ht4⟩:=VF.cells V4.out) |(go_at_call 53;refine (jK.calls _ _ _ _ _ (jMb _ _ _)).mono ?_;rintro e w5 ⟨rfl,⟨nd,rfl⟩⟩;rw [H5.out]) |(go_at_call 54;have tk1:=tok1;clear tok1;refine (HO.out _).mono ?_;rintro e w6 ⟨rfl,hb6⟩;have V6:=am (VF.below (W:=World.drewN _ _) V4.out hb6);have HB6:=am (jga (w1:=World.drewN _ _) (show Below w.heap.size w (World.drewN _ _) from ⟨HB4.out.os,HB4.out.tape,HB4.out.output,HB4.out.size,HB4.out.block⟩) HB4.out.size hb6);clear hb6 g0 g1 g2 g3 e0 e1 e2 e3 ht4;obtain ⟨g0,g1,g2,g3,e0,e1,e2,e3,ht4⟩:=VF.cells V6.out) |(go_at_call 54;refine (HO.out _).mono ?_;rintro e w7 ⟨rfl,hb7⟩;have V7:=am (VF.below V6.out hb7);have HB7:=am (jga HB6.out HB6.out.size hb7);clear hb7 g0 g1 g2 g3 e0 e1 e2 e3 ht4;obtain ⟨g0,g1,g2,g3,e0,e1,e2,e3,ht4⟩:=VF.cells V7.out;obtain ⟨f0,f1,f2,f3⟩:=VF.frozen V7.out))
         go_roundw
         case rel=>exact ⟨n+1,x,by go_num,hlt,by omega,by omega,HN,⟨four_stored V7.out.1⟩,⟨four_far V7.out.2.2 (by omega)⟩,⟨four_below HB7.out (by omega)⟩⟩
         case measure=>simp [intOf];omega
        ·have hb1:(x.f0 != last.f0+1)=true:=by simpa using hd
         obtain rfl:none=q:=by simpa [jy.bad,h5,ho,hd] using HS.out
         obtain rfl:false=r:=by simpa using HZ.out
         clear HS HZ hd h5 ho
         go_wp2_with (first |(go_at_call 52;refine (HG.out _ (HB.out.alloc HB.out.size _)).mono ?_;rintro e w4 ⟨rfl,hb4⟩;have V4:=am (VF.below V0.out hb4);have HB4:=am (jga (HB.out.alloc HB.out.size _) (by simp;have:=HB.out.size;omega) hb4);clear hb4;obtain ⟨g0,g1,g2,g3,e0,e1,e2,e3,ht4⟩:=VF.cells V4.out) |(go_at_call 53;refine (jK.calls _ _ _ _ _ (jMb _ _ _)).mono ?_;rintro e w5 ⟨rfl,⟨nd,rfl⟩⟩;rw [H5.out]) |(go_at_call 54;have tk1:=tok1;clear tok1;refine (HO.out _).mono ?_;rintro e w6 ⟨rfl,hb6⟩;have V6:=am (VF.below (W:=World.drewN _ _) V4.out hb6);have HB6:=am (jga (w1:=World.drewN _ _) (show Below w.heap.size w (World.drewN _ _) from ⟨HB4.out.os,HB4.out.tape,HB4.out.output,HB4.out.size,HB4.out.block⟩) HB4.out.size hb6);clear hb6 g0 g1 g2 g3 e0 e1 e2 e3 ht4;obtain ⟨g0,g1,g2,g3,e0,e1,e2,e3,ht4⟩:=VF.cells V6.out))
         go_ret
         exact ⟨rfl,HB6.out⟩
       | false =>
        rw [ho] at HO
        by_cases hd:last.f0<x.f0
        ·have hb1:decide (last.f0<x.f0)=true:=dzT hd
         have hbad:jy.bad x last=true:=by unfold jy.bad;rw [h5,ho];simp [hd]
         obtain rfl:none=q:=by have:=HS.out;rw [hbad] at this;simpa using this
         obtain rfl:false=r:=by simpa using HZ.out
         clear HS HZ hd h5 ho hbad
         go_wp2_with (first |(go_at_call 52;refine (HG.out _ (HB.out.alloc HB.out.size _)).mono ?_;rintro e w4 ⟨rfl,hb4⟩;have V4:=am (VF.below V0.out hb4);have HB4:=am (jga (HB.out.alloc HB.out.size _) (by simp;have:=HB.out.size;omega) hb4);clear hb4;obtain ⟨g0,g1,g2,g3,e0,e1,e2,e3,ht4⟩:=VF.cells V4.out) |(go_at_call 53;refine (jK.calls _ _ _ _ _ (jMb _ _ _)).mono ?_;rintro e w5 ⟨rfl,⟨nd,rfl⟩⟩;rw [H5.out]) |(go_at_call 54;have tk1:=tok1;clear tok1;refine (HO.out _).mono ?_;rintro e w6 ⟨rfl,hb6⟩;have V6:=am (VF.below (W:=World.drewN _ _) V4.out hb6);have HB6:=am (jga (w1:=World.drewN _ _) (show Below w.heap.size w (World.drewN _ _) from ⟨HB4.out.os,HB4.out.tape,HB4.out.output,HB4.out.size,HB4.out.block⟩) HB4.out.size hb6);clear hb6 g0 g1 g2 g3 e0 e1 e2 e3 ht4;obtain ⟨g0,g1,g2,g3,e0,e1,e2,e3,ht4⟩:=VF.cells V6.out) |(go_at_call 54;refine (HO.out _).mono ?_;rintro e w7 ⟨rfl,hb7⟩;have V7:=am (VF.below V6.out hb7);have HB7:=am (jga HB6.out HB6.out.size hb7);clear hb7 g0 g1 g2 g3 e0 e1 e2 e3 ht4;obtain ⟨g0,g1,g2,g3,e0,e1,e2,e3,ht4⟩:=VF.cells V7.out;obtain ⟨f0,f1,f2,f3⟩:=VF.frozen V7.out))
         go_ret
         exact ⟨rfl,HB7.out⟩
        ·have hb1:decide (last.f0<x.f0)=false:=dzF hd
         have hbad:jy.bad x last=false:=by unfold jy.bad;rw [h5,ho];simp [hd]
         have HN:=am (by have:=HS.out;rw [hbad] at this;simpa using this:jy.go k l0_0 (l1.drop (n+1)) x=some q)
         clear hbad HS hd h5 ho
         go_wp2_with (first |(go_at_call 52;refine (HG.out _ (HB.out.alloc HB.out.size _)).mono ?_;rintro e w4 ⟨rfl,hb4⟩;have V4:=am (VF.below V0.out hb4);have HB4:=am (jga (HB.out.alloc HB.out.size _) (by simp;have:=HB.out.size;omega) hb4);clear hb4;obtain ⟨g0,g1,g2,g3,e0,e1,e2,e3,ht4⟩:=VF.cells V4.out) |(go_at_call 53;refine (jK.calls _ _ _ _ _ (jMb _ _ _)).mono ?_;rintro e w5 ⟨rfl,⟨nd,rfl⟩⟩;rw [H5.out]) |(go_at_call 54;have tk1:=tok1;clear tok1;refine (HO.out _).mono ?_;rintro e w6 ⟨rfl,hb6⟩;have V6:=am (VF.below (W:=World.drewN _ _) V4.out hb6);have HB6:=am (jga (w1:=World.drewN _ _) (show Below w.heap.size w (World.drewN _ _) from ⟨HB4.out.os,HB4.out.tape,HB4.out.output,HB4.out.size,HB4.out.block⟩) HB4.out.size hb6);clear hb6 g0 g1 g2 g3 e0 e1 e2 e3 ht4;obtain ⟨g0,g1,g2,g3,e0,e1,e2,e3,ht4⟩:=VF.cells V6.out) |(go_at_call 54;refine (HO.out _).mono ?_;rintro e w7 ⟨rfl,hb7⟩;have V7:=am (VF.below V6.out hb7);have HB7:=am (jga HB6.out HB6.out.size hb7);clear hb7 g0 g1 g2 g3 e0 e1 e2 e3 ht4;obtain ⟨g0,g1,g2,g3,e0,e1,e2,e3,ht4⟩:=VF.cells V7.out;obtain ⟨f0,f1,f2,f3⟩:=VF.frozen V7.out))
         go_roundw
         case rel=>exact ⟨n+1,x,by go_num,hlt,by omega,by omega,HN,⟨four_stored V7.out.1⟩,⟨four_far V7.out.2.2 (by omega)⟩,⟨four_below HB7.out (by omega)⟩⟩
         case measure=>simp [intOf];omega
    ·have hgo:=HA.out
     rw [List.drop_eq_nil_of_le (by omega)] at hgo
     obtain rfl:some last=q:=by simpa [jy.go] using hgo
     clear hgo HA
     have HY:=am HZ.out
     clear HZ
     by_cases h0:l1.length=0
     ·have hy:=HY.out
      simp only [if_pos h0] at hy
      have HQ:=am (fun W (hb:Below w.heap.size w W)=>jk.calls k A1 c1 l1 0 (l1.length:Int) false r W (Kd.jZ HR1.out hb) hc1 hy)
      have HBX:=HB.out
      clear hy HY
      have hz1:((l1.length:Int) == 0)=true:=by simp [h0]
      have hz2:(l1.length == 0)=true:=by simp [h0]
      clear h0
      go_wp2_with (first |(go_at_call 55;refine (HQ.out _ HBX).mono ?_;rintro e w9 ⟨rfl,hb9⟩;have HB9:=am (jga HBX HBX.size hb9)))
      go_ret
      exact ⟨rfl,HB9.out⟩
     ·have hz1:((l1.length:Int) == 0)=false:=by simpa using h0
      have hz2:(l1.length == 0)=false:=by simpa using h0
      have HO:=am (fun W=>jIb.calls last.f0 last.f1 last.f2 last.f3 _ W (jAc _ _ _ _))
      have hy:=HY.out
      simp only [if_neg h0] at hy
      clear HY
      cases ho:inB last.f1 7 12 with
      | true =>
       rw [ho] at HO hy
       obtain rfl:false=r:=by simpa using hy
       clear hy ho h0
       go_wp2_with (first |(go_at_call 54;refine (HO.out _).mono ?_;rintro e w6 ⟨rfl,hb6⟩;have HBX:=jga HB.out HB.out.size hb6;clear hb6))
       go_ret
       exact ⟨rfl,HBX⟩
      | false =>
       rw [ho] at HO hy
       simp only [Bool.false_eq_true,if_false] at hy
       have HQ:=am (fun W (hb:Below w.heap.size w W)=>jk.calls k A1 c1 l1 0 (l1.length:Int) false r W (Kd.jZ HR1.out hb) hc1 hy)
       clear hy ho h0
       go_wp2_with (first |(go_at_call 54;refine (HO.out _).mono ?_;rintro e w6 ⟨rfl,hb6⟩;have HBX:=jga HB.out HB.out.size hb6;clear hb6) |(go_at_call 55;refine (HQ.out _ HBX).mono ?_;rintro e w9 ⟨rfl,hb9⟩;have HB9:=am (jga HBX HBX.size hb9)))
       go_ret
       exact ⟨rfl,HB9.out⟩
def jSb.f (a0_0 : Int) (a0_1 : Int) (a0_2 : Int) (a0_3 : Int) : Option (Bool) := (jK.f a0_1 2 6).bind fun t264 => (some t264)
set_option maxHeartbeats 8000000 in
set_option maxRecDepth 100000 in
theorem jSb.calls (a0_0 : Int) (a0_1 : Int) (a0_2 : Int) (a0_3 : Int) (r : Bool) (w : World) (h : jSb.f a0_0 a0_1 a0_2 a0_3 = some r) :
  Calls Try.prog 61 #[.agg #[.int .i64 a0_0, .int .i64 a0_1, .int .i64 a0_2, .int .i64 a0_3]] w fun e w'=>e=.returned (.bool r)∧Below w.heap.size w w':=by
 have hu52:=Try.underlying52
 have HB:=am (Below.refl w.heap.size w)
 have H:((jK.f a0_1 2 6).bind fun t264=>(some t264))=some r:=h
 clear h
 replace H:=bzS H
 obtain ⟨t264,A20,H⟩:=H
 replace H:(some t264)=some r:=H
 have A2:=am A20
 clear A20
 obtain rfl:=Option.some.inj H
 go_enter Try.func61,Try.ntmps61
 go_wp2_with (first |((with_reducible refine jP (N:=1) rfl ?_);refine bE (N:=1) (cs:=#[.int .i64 a0_0, .int .i64 a0_1, .int .i64 a0_2, .int .i64 a0_3]) (t:=52) ?_;intro gb263 hg w3 hbox hb;have BK263:=am (hbox);have GW263:=am ((Y11:w.heap.size≤gb263));have GE263:=am ((Y11:w.heap.size≤gb263));replace HB:=am (ji (bq) hb);clear hb hbox hg;have hcz4_0:=bc0 BK263.out;have hcz4_1:=bc1 BK263.out;have hcz4_2:=bc2 BK263.out;have hcz4_3:=bc3 BK263.out;have hfz4_0:=ja BK263.out 0;have hfz4_1:=ja BK263.out 1;have hfz4_2:=ja BK263.out 2;have hfz4_3:=ja BK263.out 3) |((with_reducible refine jd (f:=53) rfl ?_);refine gL (some 5) Try.func53 #[.int .i64 a0_1, .int .i64 2, .int .i64 6] ?_;(with_reducible refine (jK.calls a0_1 2 6 t264 _ A2.out).mono ?_);rintro e w' ⟨rfl,⟨nd,rfl⟩⟩;refine ⟨_,rfl,?_⟩))
 go_ret
 exact ⟨Y0,by repeat (first |(with_reducible first | exact HB.out | apply jN | apply jm | apply jO | refine jS ?_ GE263.out) | exact HB.out)⟩
def jIc.f (l0 : List (S52)) : Option ((List (S52))) := some (l0)
set_option maxHeartbeats 8000000 in
set_option maxRecDepth 100000 in
theorem jIc.calls (P0_ : Nat → Prop) (u9000_ : Value) (l0 : List (S52)) (r : List (S52)) (w0 w : World) (hB : Below w0.heap.size w0 w) (ho0 : Kd.R k52 52 w w0.heap.size P0_ u9000_ l0) (h : jIc.f l0 = some r) :
  Calls Try.prog 63 #[u9000_] w fun e w'=>∃ v0_:Value,e=.returned (v0_)∧Kd.R k52 52 w' w0.heap.size (fun k_=>(P0_ k_∨w.heap.size≤k_)) v0_ r∧Below w0.heap.size w0 w'∧Kept w w' (fun k_=>P0_ k_):=by
 have HO0:=am (show Kd.R k52 52 w w0.heap.size (fun k_=>(P0_ k_∨w.heap.size≤k_)) u9000_ l0 from Kd.jG ho0 (fun k_ hk=>(.inl hk)))
 have HK:=am (Kept.refl w (fun k_=>P0_ k_))
 have HW0:=am hB.size
 have HB:=am hB
 clear hB
 have H:(some (l0))=some r:=h
 clear h
 obtain ⟨y265,hy265⟩:∃ y_:List (S52),y_=(l0):=⟨_,rfl⟩
 replace H:(some y265)=some r:=by first |(rw [hy265];with_reducible exact H) |(have H2_:=(Option.bind_some _ _).symm.trans H;rw [hy265];with_reducible exact H2_) |(have H2_:=(Option.bind_some _ _).symm.trans H;with_reducible exact H2_) | with_reducible exact H |(rw [hy265];exact H) | exact H
 have Ny265:=am hy265
 clear hy265
 obtain rfl:=Option.some.inj H
 obtain ⟨Ao2,co2,eo2⟩:=Kd.jta HO0.out
 subst eo2
 obtain ⟨i03,hi03,_,hsz3,_⟩:=info_parts jac
 have hy3:y265.length=l0.length:=(by rw [Ny265.out])
 have hcut3:=cut_clip (P:=Try.prog) 28 52 Try.underlying28 hi03 Ao2 _ co2 _ (Kd.jC HO0.out).2.1 hy3
 have hr3:=Kd.R_clip HO0.out Ny265.out
 clear hy3 hi03 hsz3 HO0
 have HO267:=am hr3
 clear hr3
 go_enter Try.func63,Try.ntmps63
 go_wp2
 go_ret
 exact ⟨_,Y0,rq HO267.out,bq,by repeat (first |(with_reducible first | exact HK.out | apply Kept.alloc | apply Kept.drewN | apply Kept.drew) | exact HK.out)⟩

section
attribute [local go_sem] jea jca jsa jra jR jQ jda jba jg
def BSet (w : World) (b n : Nat) (S : Int → Bool) : Prop :=
 ∃ D:DataW Unit,w.ownsMap Try.prog 3 (plainElem Try.prog 4) b n D∧∀ x:Int,(Lit.int .i64 x).wf=true→D.atKey (.int .i64 x) (.lit (.bool false))=.lit (.bool (S x))
theorem BSet.made (w : World) : BSet (w.alloc (.map #[] 0)) w.heap.size 0 (fun _ => false) := ⟨.map [], World.ownsMap_made w _ _ _, fun x _ => rfl⟩
theorem BSet.kept {w w' : World} {b n : Nat} {S : Int → Bool} (h : BSet w b n S) {row : Option Nat} (hg : w.grownBy w' row) (hne : some b ≠ row) : BSet w' b n S := by
 obtain ⟨D,h1,h2⟩:=h
 exact ⟨D,h1.kept hg hne,h2⟩
theorem BSet.below {w w' : World} {b n : Nat} {S : Int → Bool} (h : BSet w b n S) (hb : Below w.heap.size w w') : BSet w' b n S := by
 obtain ⟨D,⟨es,clock,h1,h2⟩,h3⟩:=h
 exact ⟨D,⟨es,clock,(hb.block b (Array.getElem?_eq_some_iff.1 h1).1).trans h1,h2⟩,h3⟩
theorem BSet.congr {w : World} {b n : Nat} {S S' : Int → Bool} (h : BSet w b n S) (e : ∀ x, S x = S' x) : BSet w b n S' := by
 obtain rfl:S=S':=funext e
 exact h
set_option maxRecDepth 100000 in
theorem plainElem_bool_inv {v : Value} {z : DataW Unit × List MemPlace} (h : plainElem Try.prog 4 v = some z) : ∃ x, v = .bool x ∧ z = (.lit (.bool x), []) := by
 unfold plainElem at h
 rw [Try.underlying4] at h
 cases v <;> simp at h
 exact ⟨_,rfl,h.symm⟩
set_option maxRecDepth 100000 in
theorem BSet.look {w : World} {b n : Nat} {S : Int → Bool} (h : BSet w b n S) {x : Int} (hx : (Lit.int .i64 x).wf = true) : (Instr.lookup 56 (.map (some b)) (.int .i64 x) false).run Try.prog w = .ok (.bool (S x)) w := by
 obtain ⟨D,h1,h2⟩:=h
 obtain ⟨v,ps,hrun,hv⟩:=h1.lookup (Maps.int_keyed Try.underlying3) Try.underlying56 (Try.zeroValue4 w) (plainElem_bool Try.underlying4 false) (Maps.keyOf_int_mk Try.underlying3 hx)
 obtain ⟨y,rfl,hy⟩:=plainElem_bool_inv hv
 simp only [Prod.mk.injEq] at hy
 rw [h2 x hx] at hy
 injection hy.1 with hy
 injection hy with hy
 rw [hrun,← hy]
set_option maxRecDepth 100000 in
theorem BSet.put {w : World} {b n : Nat} {S : Int → Bool} (h : BSet w b n S) (hn : n < maxLen) {x : Int} (hx : (Lit.int .i64 x).wf = true) (v : Bool) : ∃ w', (Instr.mapUpdate 56 (.map (some b)) (.int .i64 x) (.bool v)).run Try.prog w = .ok () w' ∧ BSet w' b (n + 1) (fun y => if y = x then v else S y) ∧ w.grownBy w' (some b) := by
 obtain ⟨D,h1,h2⟩:=h
 obtain ⟨w',hrun,h3,h4⟩:=h1.update (Maps.int_keyed Try.underlying3) Try.underlying56 hn (Maps.keyOf_int_mk Try.underlying3 hx) (plainElem_bool Try.underlying4 v)
 refine ⟨w',hrun,⟨_,h3,fun y hy=>?_⟩,h4⟩
 show _=DataW.lit (Lit.bool (if y=x then v else S y))
 by_cases e:y=x
 ·subst e
  rw [if_pos rfl]
  exact Maps.atKey_put_same h1.isMap (by first | exact trivial | simp [WideAt.IsKeyLit] | constructor) _ _
 ·rw [if_neg e,← h2 y hy]
  exact Maps.atKey_put_other (fun h=>e (by injection h)) _ _
theorem BSet.alloc {w : World} {b n : Nat} {S : Int → Bool} (h : BSet w b n S) (o : Obj) : BSet (w.alloc o) b n S := h.kept (World.grownBy_alloc w o none) (by simp)
theorem BSet.of_put {w w' : World} {b n x : Nat} {D : DataW Unit} {S : Int → Bool} (h1 : w.ownsMap Try.prog 3 (plainElem Try.prog 4) b n D) (h2 : ∀ x : Int, (Lit.int .i64 x).wf = true → D.atKey (.int .i64 x) (.lit (.bool false)) = .lit (.bool (S x)))
  (h3:w'.ownsMap Try.prog 3 (plainElem Try.prog 4) b (n+1) (D.put (.int .i64 (x:Int)) (.lit (.bool true)))):BSet w' b (n+1) (fun y=>if y=(x:Int) then true else S y):=by
 refine ⟨_,h3,fun y hy=>?_⟩
 show _=DataW.lit (Lit.bool (if y=(x:Int) then true else S y))
 by_cases e:y=(x:Int)
 ·subst e
  rw [if_pos rfl]
  exact Maps.atKey_put_same h1.isMap (by first | exact trivial | simp [WideAt.IsKeyLit] | constructor) _ _
 ·rw [if_neg e,← h2 y hy]
  exact Maps.atKey_put_other (fun h=>e (by injection h)) _ _
theorem wf_nat {k : Nat} (h : k ≤ 1000000000) : (Lit.int .i64 (k : Int)).wf = true := by
 have e:wrap64 (k:Int)=k:=by unfold wrap64;omega
 have h2:=wrap64_wf (k:Int)
 rwa [e] at h2
def jmpB (k : Int) : Bool := decide (2 ≤ k) && decide (k ≤ 6)
theorem jmp_eq (a b c d : Int) : jSb.f a b c d = some (jmpB b) := by
 unfold jSb.f jK.f jmpB
 by_cases h:b≥2
 ·rw [if_pos h];simp [show 2≤b from h]
 ·rw [if_neg h];simp [show ¬ 2≤b from h]
def bjE (p : List S52) (d : Int) : Nat → Nat → Nat
 | 0,k=>k
 | n+1,k=>if (k:Int)<(p.length:Int)∧d≤(jc p (k:Int)).f0 then bjE p d n (k+1) else k
def bjR (p : List S52) (m : Nat) (y : Int) : Bool := jmpB (jc p (m : Int)).f1 && (decide ((m : Int) < y) && decide (y < ((bjE p (jc p (m : Int)).f0 (p.length - (m + 1)) (m + 1) : Nat) : Int)))
def bjN (p : List S52) : Nat → Int → Bool
 | 0,_=>false
 | i+1,y=>bjN p i y || bjR p i y
def bjS (p : List S52) : Int → Bool := bjN p p.length
def M6 : Nat := 1048576
theorem M6_lt {i : Nat} (h : i ≤ M6) : i * M6 + M6 < maxLen := by
 have h1:=Nat.mul_le_mul_right M6 h
 have h2:M6 * M6+M6<maxLen:=by decide
 omega
theorem bj_start (l : List S52) (i : Nat) (y : Int) : bjN l i y = (bjN l i y || (decide ((i : Int) < y) && decide (y < ((i + 1 : Nat) : Int)))) := by
 have e:(decide ((i:Int)<y) && decide (y<((i+1:Nat):Int)))=false:=by
  rw [Bool.and_eq_false_iff]
  by_cases h:(i:Int)<y
  ·exact .inr (dzF (by omega))
  ·exact .inl (dzF h)
 rw [e,Bool.or_false]
theorem bj_put (b : Bool) (i kk : Nat) (h : i < kk) (y : Int) : (if y = (kk : Int) then true else (b || (decide ((i : Int) < y) && decide (y < (kk : Int))))) = (b || (decide ((i : Int) < y) && decide (y < ((kk + 1 : Nat) : Int)))) := by
 by_cases e:y=(kk:Int)
 ·rw [if_pos e,dzT (p:=(i:Int)<y) (by omega),dzT (p:=y<((kk+1:Nat):Int)) (by omega)];simp
 ·rw [if_neg e]
  have:decide (y<(kk:Int))=decide (y<((kk+1:Nat):Int)):=by rw [Bool.eq_iff_iff];simp only [decide_eq_true_eq];omega
  rw [this]
set_option maxHeartbeats 8000000 in
set_option maxRecDepth 100000 in
theorem impl_behindJumps.calls (A0 : Option Addr) (c0 : Nat) (l0 : List (S52)) (w : World) (hr0 : Kd.C k52 w A0 l0.length l0) (hc0 : l0.length ≤ c0) (hlen : l0.length ≤ M6) :
  Calls Try.prog 34 #[.slice A0 l0.length c0] w fun e w'=>∃ b n,e=.returned (.map (some b))∧w.heap.size≤b∧BSet w' b n (bjS l0)∧Below w.heap.size w w':=by
 have HR:=am hr0
 have hmm:=@run_makeMap Try.prog
 have hm:l0.length≤9223372036854775807:=Kd.C_max hr0
 clear hr0
 go_enter Try.func34,Try.ntmps34
 go_wp2
 go_loopw [10] (fun v10 wr=>∃ i n:Nat,i≤l0.length∧v10=.int .i64 i∧jl (n≤i * M6)∧jl (BSet wr w.heap.size n (bjN l0 i))∧jl (Below w.heap.size w wr)) (fun v10 _=>l0.length - (intOf v10).toNat)
 case atStart=>exact ⟨0,0,Nat.zero_le _,rfl,⟨Nat.zero_le _⟩,⟨BSet.made w⟩,⟨(Below.refl _ _).alloc (Nat.le_refl _) _⟩⟩
 case round =>
  obtain ⟨i,n,hi,rfl,HN,HS,HB⟩:=hrel
  by_cases hlt:i<l0.length
  ·obtain ⟨ad,rfl,x0,x1,x2,x3⟩:=jua (Kd.jZ HR.out HB.out) (i:Int) (by omega) (by omega)
   rw [Int.toNat_natCast] at x0 x1 x2 x3
   have HJ:=am (fun W=>jSb.calls _ _ _ _ _ W (jmp_eq (jc l0 (i:Int)).f0 (jc l0 (i:Int)).f1 (jc l0 (i:Int)).f2 (jc l0 (i:Int)).f3))
   cases hj:jmpB (jc l0 (i:Int)).f1 with
   | false =>
    rw [hj] at HJ
    have HS1:=am (fun (W:World) (hb:Below wr.heap.size wr W)=>(HS.out.below hb).congr (S':=bjN l0 (i+1)) (fun y=>by simp [bjN,bjR,hj]))
    clear hj
    go_wp2_with (go_at_call 61;refine (HJ.out _).mono ?_;rintro e w2 ⟨rfl,hb2⟩;have hb3:=am (show Below wr.heap.size wr w2 from ((Below.refl _ wr).alloc (Nat.le_refl _) _).trans (hb2.mono (by simp)));clear hb2)
    go_roundw
    case rel=>exact ⟨i+1,n,hlt,by go_num,⟨Nat.le_trans HN.out (Nat.mul_le_mul_right _ (Nat.le_succ i))⟩,⟨HS1.out _ hb3.out⟩,⟨HB.out.trans (hb3.out.mono HB.out.size)⟩⟩
    case measure=>simp [intOf];omega
   | true =>
    rw [hj] at HJ
    have HJJ:=am hj
    clear hj
    go_wp2_with (go_at_call 61;refine (HJ.out _).mono ?_;rintro e w2 ⟨rfl,hb2⟩;have hb3:=am (show Below wr.heap.size wr w2 from ((Below.refl _ wr).alloc (Nat.le_refl _) _).trans (hb2.mono (by simp)));have hbx:=am ((hb2.block wr.heap.size (by rw [World.size_alloc];omega)).trans (heap_alloc_new wr (.cells #[.int .i64 (jc l0 (i:Int)).f0, .int .i64 (jc l0 (i:Int)).f1, .int .i64 (jc l0 (i:Int)).f2, .int .i64 (jc l0 (i:Int)).f3] 52)));clear hb2)
    obtain ⟨W1,rfl⟩:∃ W1,W1=wr:=⟨_,rfl⟩
    have HG:=am (show w.heap.size<W1.heap.size by obtain ⟨D,hD,_⟩:=HS.out;exact hD.lt)
    go_loopw [6] (fun v6 w3=>∃ kk n2:Nat,i+1≤kk∧kk≤l0.length∧v6=.int .i64 kk∧jl (bjE l0 (jc l0 (i:Int)).f0 (l0.length - kk) kk=bjE l0 (jc l0 (i:Int)).f0 (l0.length - (i+1)) (i+1))∧jl (n2≤n+(kk - (i+1)))∧jl (BSet w3 w.heap.size n2 (fun y=>bjN l0 i y ||(decide ((i:Int)<y) && decide (y<(kk:Int)))))∧jl (w3.heap[W1.heap.size]?=some (.cells #[.int .i64 (jc l0 (i:Int)).f0, .int .i64 (jc l0 (i:Int)).f1, .int .i64 (jc l0 (i:Int)).f2, .int .i64 (jc l0 (i:Int)).f3] 52 (0,0)))∧jl (Below w.heap.size w w3)) (fun v6 _=>l0.length - (intOf v6).toNat)
    case atStart=>exact ⟨i+1,n,Nat.le_refl _,hlt,by go_num,⟨rfl⟩,⟨Nat.le_add_right _ _⟩,⟨(HS.out.below hb3.out).congr (fun y=>bj_start l0 i y)⟩,hbx,⟨HB.out.trans (hb3.out.mono HB.out.size)⟩⟩
    case round =>
     obtain ⟨kk,n2,hk1,hk2,rfl,HE,HN3,HS3,HX3,HB3⟩:=hrel
     by_cases hk:kk<l0.length
     ·obtain ⟨ad2,e2,y0,y1,y2,y3⟩:=jua (Kd.jZ HR.out HB3.out) (kk:Int) (by omega) (by omega)
      obtain rfl:ad=ad2:=by injection e2
      rw [Int.toNat_natCast] at y0 y1 y2 y3
      have z0:wr.cell? ⟨W1.heap.size,0,none⟩=some (.int .i64 (jc l0 (i:Int)).f0):=(jJ HX3.out 0).trans rfl
      by_cases hd:(jc l0 (i:Int)).f0≤(jc l0 (kk:Int)).f0
      ·have hdb:=dzT hd
       have hE2:=am (show bjE l0 (jc l0 (i:Int)).f0 (l0.length - (kk+1)) (kk+1)=bjE l0 (jc l0 (i:Int)).f0 (l0.length - (i+1)) (i+1) by
        rw [← HE.out,show l0.length - kk=(l0.length - (kk+1))+1 by omega,bjE,if_pos ⟨by omega,hd⟩])
       obtain ⟨D,hD1,hD2⟩:=HS3.out
       have HD1:=am hD1
       have HD2:=am hD2
       have HNL:=am (show n2<maxLen from Nat.lt_of_le_of_lt (Nat.le_trans HN3.out (Nat.add_le_add HN.out (show kk - (i+1)≤M6 by omega))) (M6_lt (by omega)))
       have HKW:=am (show (Lit.int .i64 (kk:Int)).wf=true from wf_nat (by unfold M6 at hlen;omega))
       clear hD1 hD2 hd
       go_wp2
       repeat (go_quiet (fail);try go_wp2_with (at_mapUpdate;refine wpList_mapUpdate_own _ rfl _ _ _ 56 rfl 3 4 (Maps.int_keyed Try.underlying3) Try.underlying56 _ w.heap.size n2 D rfl HD1.out HNL.out _ _ (.int .i64 (kk:Int)) rfl rfl (Maps.keyOf_int_mk Try.underlying3 HKW.out) (.lit (.bool true)) [] (plainElem_bool Try.underlying4 true) ?_;intro w5 hown5 hgrow5;have HO5:=am hown5;have HG5:=am hgrow5;clear hown5 hgrow5))
       go_roundw
       case rel=>exact ⟨kk+1,n2+1,by omega,hk,by go_num,hE2,⟨by have:=HN3.out;omega⟩,⟨(BSet.of_put HD1.out HD2.out HO5.out).congr (fun y=>bj_put _ i kk (by omega) y)⟩,⟨(HG5.out.block W1.heap.size (by have:=(Array.getElem?_eq_some_iff.1 HX3.out).1;exact this) (by have:=HG.out;simp;omega)).trans HX3.out⟩,⟨(jm HB3.out nq).grown HG5.out HB3.out.size (fun k e=>by cases e;exact Nat.le_refl _)⟩⟩
       case measure=>simp [intOf];omega
      ·have hdb:=dzF hd
       have hex:bjE l0 (jc l0 (i:Int)).f0 (l0.length - kk) kk=kk:=by
        rw [show l0.length - kk=(l0.length - (kk+1))+1 by omega,bjE,if_neg (fun h=>hd h.2)]
       clear hd
       have HSF:=am (HS3.out.congr (S':=bjN l0 (i+1)) (fun y=>by simp only [bjN,bjR,HJJ.out,Bool.true_and,← HE.out];rw [hex]))
       have HN4:=am (show n2≤(i+1) * M6 by rw [Nat.add_mul,Nat.one_mul];exact Nat.le_trans HN3.out (Nat.add_le_add HN.out (by omega)))
       clear hex
       go_wp2
       repeat (go_quiet (fail);try go_wp2)
       go_roundw
       case rel=>exact ⟨i+1,n2,hlt,by go_num,HN4,⟨Y93⟩,⟨Y94⟩⟩
       case measure=>simp [intOf];omega
     ·have hex:bjE l0 (jc l0 (i:Int)).f0 (l0.length - kk) kk=kk:=by
       rw [show l0.length - kk=0 by omega,bjE]
      have HSF:=am (HS3.out.congr (S':=bjN l0 (i+1)) (fun y=>by simp only [bjN,bjR,HJJ.out,Bool.true_and,← HE.out];rw [hex]))
      have HN4:=am (show n2≤(i+1) * M6 by rw [Nat.add_mul,Nat.one_mul];exact Nat.le_trans HN3.out (Nat.add_le_add HN.out (by omega)))
      clear hex
      go_wp2
      repeat (go_quiet (fail);try go_wp2)
      go_roundw
      case rel=>exact ⟨i+1,n2,hlt,by go_num,HN4,⟨Y93⟩,⟨Y94⟩⟩
      case measure=>simp [intOf];omega
  ·obtain rfl:i=l0.length:=by omega
   go_wp2
   go_ret
   exact ⟨_,_,rfl,Nat.le_refl _,HS.out,HB.out⟩
def woG (p : List S52) (gone : Int → Bool) : Nat → Int → List S52 → Option (List S52)
 | 0,_,_=>none
 | k+1,i,acc=>if i<(p.length:Int) then (if 0≤i then (if gone i=true then (jpa.f k p i).bind fun e=>woG p gone k e acc else (if acc.length<4398046511104 then woG p gone k (wrap64 (i+1)) (acc ++ [jc p i]) else none)) else none) else some acc
set_option maxHeartbeats 8000000 in
set_option maxRecDepth 100000 in
theorem impl_without_Prune (k : Nat) (A0 : Option Addr) (c0 : Nat) (l0 : List (S52)) (B0 : Nat) (gone : Int → Bool) (r : List (S52)) (w : World) (hr0 : Kd.C k52 w A0 l0.length l0) (hc0 : l0.length ≤ c0) (hlen : l0.length ≤ M6) (h : woG l0 gone k 0 [] = some r)
  (hp:∀ W,Below w.heap.size w W→∀ (x:Int),(Lit.int .i64 x).wf=true→Calls Try.prog 36 #[.int .i64 x, .pointer (some ⟨B0,0,none⟩)] W fun e w'=>e=.returned (.bool (gone x))∧Below W.heap.size W w') :
  Calls Try.prog 35 #[.slice A0 l0.length c0, .func (.func 36) #[] #[.pointer (some ⟨B0,0,none⟩)]] w fun e w'=>∃ v0_:Value,e=.returned v0_∧Kd.R k52 52 w' w.heap.size (fun _=>True) v0_ r∧Below w.heap.size w w':=by
 have HR:=am hr0
 have HP:=am hp
 have H0:=am h
 have HB:=am (Below.refl w.heap.size w)
 have HLM:=am (show l0.length≤1048576 from hlen)
 have hm:l0.length≤9223372036854775807:=Kd.C_max hr0
 clear hr0 hp h hlen
 go_enter Try.func35,Try.ntmps35
 go_wp2_with ((with_reducible refine jP (N:=9) rfl ?_);refine Kd.R_mkcap k52 _ 52 rfl (N:=9) rfl 28 _ _ rfl (l0.length:Int) rfl rfl Try.underlying28 (.agg #[(.int .i64 0),(.int .i64 0),(.int .i64 0),(.int .i64 0)]) 32 jac rfl (by decide) (by omega) (ok:=fun _=>True) trivial (by omega) (by have:=HLM.out;simp only [Int.toNat_natCast];omega) (Below.refl _ _) (Nat.le_refl _) ?_;intro v787 w7 ho8 hb hg_ hnew_;clear hg_ hnew_;have n0_:=am (Kd.jfa ho8 (jka (bq)));have n2_:=am (ji (bq) hb);clear HB;have HO:=n0_;have HB:=n2_;clear n0_ n2_ hb ho8)
 go_loopg [5,6] k (fun kq v5 v6 w'=>∃ (acc:List (S52)) (i:Int),v6=.int .i64 i∧jl (woG l0 gone kq i acc=some r)∧jl (kq≤k)∧jl (Kd.R k52 52 w' w.heap.size (fun _=>True) v5 acc)∧jl (Below w.heap.size w w'))
 case atStart=>exact ⟨[],0,rfl,H0,⟨Nat.le_refl _⟩,⟨rq HO.out⟩,⟨(bq)⟩⟩
 case round =>
  clear H0 HO HB
  obtain ⟨acc,i,rfl,HA,HK,HO,HB⟩:=hrel
  cases gk with
  | zero=>exact absurd HA.out (by simp [woG])
  | succ k1 =>
   have H:=HA.out
   clear HA
   simp only [woG] at H
   by_cases hlt:i<(l0.length:Int)
   ·rw [if_pos hlt] at H
    have hltb:=dzT hlt
    by_cases h0:0≤i
    ·rw [if_pos h0] at H
     have HW:=am (show (Lit.int .i64 i).wf=true by
      obtain ⟨n,rfl⟩:=Int.eq_ofNat_of_zero_le h0
      exact wf_nat (by have:=HLM.out;omega))
     cases hgn:gone i with
     | true =>
      rw [hgn,if_pos rfl] at H
      obtain ⟨e,he,H⟩:=bzS H
      have H':=am H
      have HE:=am (fun W (hb:Below w.heap.size w W)=>jpa.calls k1 A0 c0 l0 i e W (Kd.jZ HR.out hb) hc0 he)
      have HGN:=am hgn
      clear H he hlt h0
      go_wp2_with (first |(go_at_call 36;refine (HP.out _ (bq) _ HW.out).mono ?_;rw [HGN.out];rintro e w2 ⟨rfl,hb2⟩;have n1_:=am (Kd.jqa (rq HO.out) hb2);have n2_:=am (ji (bq) hb2);clear HO HB;have HO:=n1_;have HB:=n2_;clear n1_ n2_ hb2) |(go_at_call 62;refine (HE.out _ (bq)).mono ?_;rintro e w3 ⟨rfl,⟨nd,rfl⟩⟩))
      go_roundg k1
      case measure=>have:=HK.out;omega
      case rel=>exact ⟨acc,e,rfl,H',⟨by have:=HK.out;omega⟩,⟨rq HO.out⟩,⟨(bq)⟩⟩
     | false =>
      rw [hgn,if_neg (by simp)] at H
      by_cases hac:acc.length<4398046511104
      ·rw [if_pos hac] at H
       have H':=am H
       have LM:=am hac
       have HGN:=am hgn
       obtain ⟨ad,e2,x0,x1,x2,x3⟩:=jua HR.out i h0 hlt
       cases e2
       have p1:=ezT h0
       have q1:=ezT hlt
       clear H hac hgn h0 hlt
       go_wp2_with (first |(go_at_call 36;refine (HP.out _ (bq) _ HW.out).mono ?_;rw [HGN.out];rintro e w2 ⟨rfl,hb2⟩;have n1_:=am (Kd.jqa (rq HO.out) hb2);have n2_:=am (ji (bq) hb2);clear HO HB;have HO:=n1_;have HB:=n2_;clear n1_ n2_ hb2;have y0:=(HB.out.cell (World.block_lt_of_cell? w _ x0)).trans x0;have y1:=(HB.out.cell (World.block_lt_of_cell? w _ x1)).trans x1;have y2:=(HB.out.cell (World.block_lt_of_cell? w _ x2)).trans x2;have y3:=(HB.out.cell (World.block_lt_of_cell? w _ x3)).trans x3) |((with_reducible refine jEa (b:=.append) (xs:=#[.tmp 20, .tmp 25]) rfl ?_);at_builtin;refine Kd.jGb k52 (w0:=w) w.heap.size rfl (.tmp 20) (.tmp 25) 28 52 (.agg #[(.int .i64 0),(.int .i64 0),(.int .i64 0),(.int .i64 0)]) 32 rfl Try.underlying28 jac rfl (by decide) (by omega) u5 acc (⟨(jc l0 i).f0,(jc l0 i).f1,(jc l0 i).f2,(jc l0 i).f3⟩:S52) [.int .i64 ((jc l0 i).f0), .int .i64 ((jc l0 i).f1), .int .i64 ((jc l0 i).f2), .int .i64 ((jc l0 i).f3)] (fun _=>True) (fun _=>False) rfl rfl ?aP (fun _ hk=>hk.elim) ?aF ?aO ?aB ?aS ?aL ?_;(case aP=>exact jpb _ _ _ (⟨(jc l0 i).f0,(jc l0 i).f1,(jc l0 i).f2,(jc l0 i).f3⟩:S52));(case aB=>exact (bq));(case aF=>exact (fun _ _=>trivial));(case aO=>exact (rq HO.out));(case aS=>exact (jka (bq)));(case aL=>have:=LM.out;omega);intro v173 w16 ho hb hg hat;have n1_:=am (hb);have n2_:=am (ho);clear HB HO;have HB:=n1_;have HO:=n2_;clear n1_ n2_ ho hb hg hat))
       go_roundg k1
       case measure=>have:=HK.out;omega
       case rel=>exact ⟨acc ++ [jc l0 i],wrap64 (i+1),rfl,H',⟨by have:=HK.out;omega⟩,⟨rq HO.out⟩,⟨(bq)⟩⟩
      ·rw [if_neg hac] at H;cases H
    ·rw [if_neg h0] at H;cases H
   ·rw [if_neg hlt] at H
    obtain rfl:=Option.some.inj H
    have hltb:=dzF hlt
    clear hlt
    go_wp2_with (go_at_call 63;refine (jIc.calls (fun _=>True) _ acc acc w _ (bq) (rq HO.out) (show jIc.f acc=some acc from rfl)).mono ?_;rintro e w9 ⟨v9,rfl,hR9,hB9,hK9⟩)
    go_ret
    exact ⟨_,rfl,Kd.jG hR9 (fun _ _=>trivial),hB9⟩
set_option maxRecDepth 100000 in
theorem impl_Prune1_calls (S : Int → Bool) (x : Int) (hx : (Lit.int .i64 x).wf = true) (B0 b n : Nat) (w : World) (hc : w.cell? ⟨B0, 0, none⟩ = some (.map (some b))) (hS : BSet w b n S) :
  Calls Try.prog 36 #[.int .i64 x, .pointer (some ⟨B0,0,none⟩)] w fun e w'=>e=.returned (.bool (S x))∧Below w.heap.size w w':=by
 have hl:=BSet.look hS hx
 clear hS hx
 go_enter Try.func36,Try.ntmps36
 go_wp2
 go_ret
 exact ⟨rfl,Below.refl _ _⟩
theorem cell_newP (w : World) (v : Value) (t : TypeId) : (w.alloc (.cells #[v] t)).cell? ⟨w.heap.size, 0, none⟩ = some v := by simp
def jTa.f (k : Nat) (l0_0 : List S78) (l1 : List S52) : Option (List S52) := (jy.f k l0_0 l1).bind fun v => if v = true then (if l1.length ≤ M6 then woG l1 (bjS l1) k 0 [] else none) else some []
set_option maxHeartbeats 8000000 in
set_option maxRecDepth 100000 in
theorem jTa.calls (k : Nat) (A0_0 : Option Addr) (c0_0 : Nat) (l0_0 : List (S78)) (A1 : Option Addr) (c1 : Nat) (l1 : List (S52)) (r : List S52) (w : World) (hr0_0 : Kd.C k78 w A0_0 l0_0.length l0_0) (hc0_0 : l0_0.length ≤ c0_0) (hr1 : Kd.C k52 w A1 l1.length l1) (hc1 : l1.length ≤ c1) (h : jTa.f k l0_0 l1 = some r) :
  Calls Try.prog 12 #[.agg #[.slice A0_0 l0_0.length c0_0], .slice A1 l1.length c1] w fun e w'=>∃ v0_:Value,e=.returned v0_∧Kd.R k52 52 w' w.heap.size (fun _=>True) v0_ r∧Below w.heap.size w w':=by
 obtain ⟨v,hv,h⟩:=bzS h
 have hu32:=Try.underlying32
 have B1:=am ((Below.refl w.heap.size w).alloc (Nat.le_refl _) (.cells #[.slice A0_0 l0_0.length c0_0] 32))
 have HV:=am (fun (W:World) (hb:Below w.heap.size w W)=>jy.calls k A0_0 c0_0 l0_0 A1 c1 l1 v W (Kd.jZ hr0_0 hb) hc0_0 (Kd.jZ hr1 hb) hc1 hv)
 cases v with
 | false =>
  rw [if_neg (by simp)] at h
  obtain rfl:=Option.some.inj h
  clear hv h hr0_0 hr1
  go_enter Try.func12,Try.ntmps12
  go_wp2_with (go_at_call 27;refine (HV.out _ B1.out).mono ?_;rintro e w' ⟨rfl,hb2⟩)
  go_ret
  exact ⟨_,rfl,Kd.R_nil _ _ _ _ _,B1.out.trans (hb2.mono (by simp))⟩
 | true =>
  rw [if_pos rfl] at h
  by_cases hlen:l1.length≤M6
  case neg=>rw [if_neg hlen] at h;cases h
  rw [if_pos hlen] at h
  have HJ:=am (fun (W:World) (hb:Below w.heap.size w W)=>impl_behindJumps.calls A1 c1 l1 W (Kd.jZ hr1 hb) hc1 hlen)
  have HW:=am (fun (W:World) (hb:Below w.heap.size w W) (B0 b n:Nat) (hc:W.cell? ⟨B0,0,none⟩=some (.map (some b))) (hS:BSet W b n (bjS l1)) =>
   impl_without_Prune k A1 c1 l1 B0 (bjS l1) r W (Kd.jZ hr1 hb) hc1 hlen h (fun W' hb' x hx=>impl_Prune1_calls (bjS l1) x hx B0 b n W' (jia hb' hc) (hS.below hb')))
  clear hv h hr0_0 hr1 hlen
  go_enter Try.func12,Try.ntmps12
  go_wp2_with (first |(go_at_call 27;refine (HV.out _ B1.out).mono ?_;rintro e w1 ⟨rfl,hb2⟩;have hb1:=am (B1.out.trans (hb2.mono (by simp)));clear HV hb2) |(go_at_call 34;refine (HJ.out _ hb1.out).mono ?_;rintro e w2 ⟨b,n,rfl,hbb,hS,hb3⟩;have HS:=am (hS.alloc (.cells #[.map (some b)] 56));have HB2:=am ((hb1.out.trans (hb3.mono hb1.out.size)).alloc (Nat.le_trans hb1.out.size hb3.size) (.cells #[.map (some b)] 56));clear HJ hS hb3) |(go_at_call 35;refine (HW.out _ HB2.out _ b n (cell_newP w2 (.map (some b)) 56) HS.out).mono ?_;rintro e w3 ⟨v2,rfl,hr2,hb4⟩))
  go_ret
  exact ⟨_,rfl,Kd.jfa hr2 HB2.out.size,jga HB2.out HB2.out.size hb4⟩
end
def jja.l0 : Nat → List Int → Int → Int → Int → Option (Int)
 | 0,_,_,_,_=>none
 | k+1,x0,x1,x7,x8=>if x8<x7 then (if 0≤x8 then (if x8<(x0.length:Int) then (if x1=(rd x0 x8) then (some x8) else (jja.l0 k x0 x1 x7 (wrap64 (x8+1)))) else (none)) else (none)) else (some (-1))
def jja.f (k : Nat) (l0 : List Int) (a1 : Int) : Option (Int) := jja.l0 k l0 a1 (l0.length : Int) 0
set_option maxHeartbeats 8000000 in
set_option maxRecDepth 100000 in
theorem jja.calls (k : Nat) (A0 : Option Addr) (c0 : Nat) (l0 : List Int) (a1 : Int) (r : Int) (w : World) (hr0 : Kd.C (Kd.int .i64) w A0 l0.length l0) (hc0 : l0.length ≤ c0) (h : jja.f k l0 a1 = some r) :
  Calls Try.prog 107 #[.slice A0 l0.length c0, .int .i64 a1] w fun e w'=>e=.returned (.int .i64 r)∧jXa w w':=by
 have HR0:=am hr0
 have HC0:=am hc0
 clear hr0 hc0
 have H:(jja.l0 k l0 a1 (l0.length:Int) 0)=some r:=h
 clear h
 have H':=am H
 clear H
 go_enter Try.func107,Try.ntmps107
 go_wp2
 go_loopg [8] k (fun kq v8 w'=>∃ (x8_1:Int),v8=.int .i64 x8_1∧jl (jja.l0 kq l0 a1 (l0.length:Int) x8_1=some r)∧jl (kq≤k)∧jXa w w')
 case atStart=>exact ⟨(0),(sq),H',⟨Nat.le_refl _⟩,Y3⟩
 case round =>
  clear H'
  try clear c1
  try clear p2
  obtain ⟨x8_1,rfl,HA,HK1,⟨m1,rfl⟩⟩:=hrel
  cases gk with
  | zero=>exact absurd HA.out (by simp [jja.l0])
  | succ k1 =>
   have H:=HA.out
   clear HA
   simp only [jja.l0] at H
   by_cases c3:x8_1<(l0.length:Int)
   ·rw [if_pos c3] at H
    have c3b0:decide (x8_1<(l0.length:Int))=true:=dzT c3
    clear c3
    by_cases c4:0≤x8_1
    ·rw [if_pos c4] at H
     have c4b0:decide (0≤x8_1)=true:=dzT c4
     clear c4
     by_cases c5:x8_1<(l0.length:Int)
     ·rw [if_pos c5] at H
      have c5b0:decide (x8_1<(l0.length:Int))=true:=dzT c5
      clear c5
      by_cases c6:a1=(rd l0 x8_1)
      ·rw [if_pos c6] at H
       have c6b0:(a1 == (rd l0 x8_1))=true:=beq_iff_eq.mpr c6
       have c6b1:(a1 != (rd l0 x8_1))=false:=bne_eq_false_iff_eq.mpr c6
       clear c6
       obtain rfl:=Option.some.inj H
       have p409:0≤(x8_1:Int):=ozD (uq)
       have q409:x8_1<(l0.length:Int):=ozD (uq)
       obtain ⟨ad409,e409,hx409_0⟩:=Kd.jPb HR0.out x8_1 p409 q409
       cases e409
       replace p409:=ezT p409
       replace q409:=ezT q409
       go_wp2
       go_ret
       exact ⟨sq,Y3⟩
      ·rw [if_neg c6] at H
       have c6b0:(a1 == (rd l0 x8_1))=false:=beq_eq_false_iff_ne.mpr c6
       have c6b1:(a1 != (rd l0 x8_1))=true:=bne_iff_ne.mpr c6
       have H':=am H
       clear H
       have p409:0≤(x8_1:Int):=ozD (uq)
       have q409:x8_1<(l0.length:Int):=ozD (uq)
       obtain ⟨ad409,e409,hx409_0⟩:=Kd.jPb HR0.out x8_1 p409 q409
       cases e409
       replace p409:=ezT p409
       replace q409:=ezT q409
       go_wp2
       go_roundg k1
       case measure=>have:=HK1.out;omega
       case rel=>exact ⟨(wrap64 (x8_1+1)),(sq),H',⟨by have:=HK1.out;omega⟩,Y3⟩
     ·rw [if_neg c5] at H
      exact absurd H (by simp)
    ·rw [if_neg c4] at H
     exact absurd H (by simp)
   ·rw [if_neg c3] at H
    have c3b0:decide (x8_1<(l0.length:Int))=false:=dzF c3
    clear c3
    obtain rfl:=Option.some.inj H
    go_wp2
    go_ret
    exact ⟨sq,Y3⟩
def jJa.f (k : Nat) (l0 : List Int) (a1 : Int) : Option (Bool) := (jja.f k l0 a1).bind fun t410 => (some (decide (t410 ≥ 0)))
set_option maxHeartbeats 8000000 in
set_option maxRecDepth 100000 in
theorem jJa.calls (k : Nat) (A0 : Option Addr) (c0 : Nat) (l0 : List Int) (a1 : Int) (r : Bool) (w : World) (hr0 : Kd.C (Kd.int .i64) w A0 l0.length l0) (hc0 : l0.length ≤ c0) (h : jJa.f k l0 a1 = some r) :
  Calls Try.prog 104 #[.slice A0 l0.length c0, .int .i64 a1] w fun e w'=>e=.returned (.bool r)∧jXa w w':=by
 have HR0:=am hr0
 have HC0:=am hc0
 clear hr0 hc0
 have H:((jja.f k l0 a1).bind fun t410=>(some (decide (t410≥0))))=some r:=h
 clear h
 replace H:=bzS H
 obtain ⟨t410,A30,H⟩:=H
 replace H:(some (decide (t410≥0)))=some r:=H
 have A3:=am A30
 clear A30
 obtain rfl:=Option.some.inj H
 go_enter Try.func104,Try.ntmps104
 go_wp2_with (first |((with_reducible refine jd (f:=107) rfl ?_);refine gL (some 7) Try.func107 #[.slice A0 l0.length c0, .int .i64 a1] ?_;(with_reducible refine (jja.calls k _ _ l0 a1 t410 _ ?side1 ?side2 A3.out).mono ?_);(case side1=>exact Y31);(case side2=>exact HC0.out);rintro e w' ⟨rfl,⟨nd,rfl⟩⟩;refine ⟨_,rfl,?_⟩))
 go_ret
 exact ⟨sq,Y3⟩
def jza.l0 : Nat → Int → List Int → List (S78) → Option (List Int)
 | 0,_,_,_=>none
 | k+1,x1,x5,x412000=>if x1≥0 then (if x5.length<17592186044416 then (if 0≤x1 then (if x1<(x412000.length:Int) then (jza.l0 k ((jaa x412000 x1).f1) (x5 ++ [x1]) x412000) else (none)) else (none)) else (none)) else (some (x5))
def jza.f (k : Nat) (l0_0 : List (S78)) (a1 : Int) : Option (List Int) := if 0 ≤ (l0_0.length : Int) then (if ((l0_0.length : Int) : Int).toNat ≤ 35184372088832 then (jza.l0 k a1 (([] : List Int)) l0_0) else (none)) else (none)
set_option maxHeartbeats 8000000 in
set_option maxRecDepth 100000 in
theorem jza.calls (k : Nat) (A0_0 : Option Addr) (c0_0 : Nat) (l0_0 : List (S78)) (a1 : Int) (r : List Int) (w : World) (hr0_0 : Kd.C k78 w A0_0 l0_0.length l0_0) (hc0_0 : l0_0.length ≤ c0_0) (h : jza.f k l0_0 a1 = some r) :
  Calls Try.prog 105 #[.agg #[.slice A0_0 l0_0.length c0_0], .int .i64 a1] w fun e w'=>∃ v0_:Value,e=.returned (v0_)∧Kd.R (Kd.int .i64) 3 w' w.heap.size (fun _=>True) v0_ r∧Below w.heap.size w w':=by
 have hu32:=Try.underlying32
 have HR0_0:=am hr0_0
 have HC0_0:=am hc0_0
 clear hr0_0 hc0_0
 have HB:=am (Below.refl w.heap.size w)
 have H:(if 0≤(l0_0.length:Int) then (if ((l0_0.length:Int):Int).toNat≤35184372088832 then (jza.l0 k a1 (([]:List Int)) l0_0) else (none)) else (none))=some r:=h
 clear h
 by_cases c3:0≤(l0_0.length:Int)
 ·rw [if_pos c3] at H
  have c3b0:=ezT c3
  have c3b1:decide (0≤(l0_0.length:Int))=true:=dzT c3
  clear c3
  by_cases c4:((l0_0.length:Int):Int).toNat≤35184372088832
  ·rw [if_pos c4] at H
   have c4b0:=ezT c4
   have c4b1:decide (((l0_0.length:Int):Int).toNat≤35184372088832)=true:=dzT c4
   clear c4
   obtain ⟨y412,hy412⟩:∃ y_:List Int,y_=(([]:List Int)):=⟨_,rfl⟩
   replace H:(jza.l0 k a1 y412 l0_0)=some r:=by first |(rw [hy412];with_reducible exact H) |(have H2_:=(Option.bind_some _ _).symm.trans H;rw [hy412];with_reducible exact H2_) |(have H2_:=(Option.bind_some _ _).symm.trans H;with_reducible exact H2_) | with_reducible exact H |(rw [hy412];exact H) | exact H
   have Ny412:=am hy412
   clear hy412
   have H':=am H
   clear H
   go_enter Try.func105,Try.ntmps105
   go_wp2_with (first |((with_reducible refine jP (N:=2) rfl ?_);refine bE (N:=2) (cs:=#[.slice A0_0 l0_0.length c0_0]) (t:=32) ?_;intro gb411 hg w5 hbox hb;have BK411:=am (hbox);have GW411:=am ((Y11:w.heap.size≤gb411));have GE411:=am ((Y11:w.heap.size≤gb411));replace HB:=am (ji (bq) hb);clear hb hbox hg;have hcz6_0:=bc0 BK411.out;have hfz6_0:=ja BK411.out 0) |((with_reducible refine jP (N:=9) rfl ?_);refine Kd.R_mkcap (Kd.int .i64) _ 3 rfl (N:=9) rfl 40 _ _ rfl (l0_0.length:Int) rfl rfl Try.underlying40 (.int .i64 0) 8 info3 rfl (by decide) (by omega) (ok:=fun _=>True) trivial (ozD (uq)) (Nat.le_trans (Nat.mul_le_mul_right _ (ozD (uq):(l0_0.length:Int).toNat≤35184372088832)) (by omega)) (Below.refl _ _) (Nat.le_refl _) ?_;intro v413 w7 ho8 hb hg_ hnew_;clear hg_ hnew_;(first | rw [← Ny412.out] at ho8 |(simp only [Int.reduceToNat] at ho8;rw [← Ny412.out] at ho8));have HO414:=am (Kd.jfa ho8 (jka (Y54)));replace BK411:=am (jr (g:=gb411) (o:=.cells #[.slice A0_0 l0_0.length c0_0] 32 (0,0)) (kq BK411.out) hb);replace HB:=am (ji (Y54) hb);clear hb ho8))
   go_loopg [1,5] k (fun kq v1 v5 w'=>∃ (x1_1:Int) (x5_1:List Int),v1=.int .i64 x1_1∧jl (jza.l0 kq x1_1 x5_1 l0_0=some r)∧jl (kq≤k)∧jl (Kd.R (Kd.int .i64) 3 w' w.heap.size (fun _=>True) v5 x5_1)∧jl (w'.heap[gb411]?=some (.cells #[(.slice A0_0 l0_0.length c0_0)] 32 (0,0)))∧jl (Below w.heap.size w w'))
   case atStart=>exact ⟨(a1),(y412),(sq),H',⟨Nat.le_refl _⟩,⟨rq HO414.out⟩,⟨kq BK411.out⟩,⟨Y54⟩⟩
   case round =>
    clear H'
    try clear c1
    try clear p2
    try clear c3
    try clear c3b0
    try clear c3b1
    try clear c4
    try clear c4b0
    try clear c4b1
    try clear hcz6_0
    try clear hfz6_0
    obtain ⟨x1_1,x5_1,rfl,HA,HK1,HO_5,BK411,HB⟩:=hrel
    cases gk with
    | zero=>exact absurd HA.out (by simp [jza.l0])
    | succ k1 =>
     have H:=HA.out
     clear HA
     simp only [jza.l0] at H
     by_cases c9:x1_1≥0
     ·rw [if_pos c9] at H
      have c9b0:decide (0≤x1_1)=true:=dzT c9
      clear c9
      by_cases c10:x5_1.length<17592186044416
      ·rw [if_pos c10] at H
       have LMc10:=am c10
       clear c10
       obtain ⟨y415,hy415⟩:∃ y_:List Int,y_=(x5_1 ++ [x1_1]):=⟨_,rfl⟩
       replace H:(if 0≤x1_1 then (if x1_1<(l0_0.length:Int) then (jza.l0 k1 ((jaa l0_0 x1_1).f1) y415 l0_0) else (none)) else (none))=some r:=by first |(rw [hy415];with_reducible exact H) |(have H2_:=(Option.bind_some _ _).symm.trans H;rw [hy415];with_reducible exact H2_) |(have H2_:=(Option.bind_some _ _).symm.trans H;with_reducible exact H2_) | with_reducible exact H |(rw [hy415];exact H) | exact H
       have Ny415:=am hy415
       clear hy415
       by_cases c11:0≤x1_1
       ·rw [if_pos c11] at H
        have c11b0:decide (0≤x1_1)=true:=dzT c11
        clear c11
        by_cases c12:x1_1<(l0_0.length:Int)
        ·rw [if_pos c12] at H
         have c12b0:decide (x1_1<(l0_0.length:Int))=true:=dzT c12
         clear c12
         have H':=am H
         clear H
         go_wp2_with (first |((with_reducible refine jEa (b:=.append) (xs:=#[.tmp 18, .tmp 20]) rfl ?_);at_builtin;refine Kd.jGb (Kd.int .i64) (w0:=w) w.heap.size rfl (.tmp 18) (.tmp 20) 40 3 (.int .i64 0) 8 rfl Try.underlying40 info3 rfl (by decide) (by omega) u5 x5_1 x1_1 [.int .i64 x1_1] (fun _=>True) (fun _=>False) rfl rfl ?aP (fun _ hk=>hk.elim) ?aF ?aO ?aB ?aS ?aL ?_;(case aP=>exact rfl);(case aB=>exact (Y54));(case aF=>exact (fun _ _=>trivial));(case aO=>exact (rq HO_5.out));(case aS=>exact (jka (Y54)));(case aL=>have:=LMc10.out;omega);intro v416 w13 ho hb hg hat;rw [← Ny415.out] at ho;have n0_:=am (jOa (g:=gb411) (o:=.cells #[.slice A0_0 l0_0.length c0_0] 32 (0,0)) (kq BK411.out) hg (Kd.R_ne HO_5.out BK411.out (by decide)));have n1_:=am (hb);have n2_:=am (ho);clear BK411 HB HO_5;have BK411:=n0_;have HB:=n1_;have HO417:=n2_;clear n0_ n1_ n2_ ho hb hg hat;have hcz14_0:=bc0 BK411.out;have hfz14_0:=ja BK411.out 0;have p418:0≤(x1_1:Int):=ozD (uq);have q418:x1_1<(l0_0.length:Int):=ozD (uq);obtain ⟨ad418,e418,hx418_0,hx418_1⟩:=at_T78 HR0_0.out x1_1 p418 q418;cases e418;replace hx418_0:=cb HB.out hx418_0;replace hx418_1:=cb HB.out hx418_1;replace p418:=ezT p418;replace q418:=ezT q418))
         go_roundg k1
         case measure=>have:=HK1.out;omega
         case rel=>exact ⟨((jaa l0_0 x1_1).f1),(y415),(sq),H',⟨by have:=HK1.out;omega⟩,⟨rq HO417.out⟩,⟨kq BK411.out⟩,⟨Y54⟩⟩
        ·rw [if_neg c12] at H
         exact absurd H (by simp)
       ·rw [if_neg c11] at H
        exact absurd H (by simp)
      ·rw [if_neg c10] at H
       exact absurd H (by simp)
     ·rw [if_neg c9] at H
      have c9b0:decide (0≤x1_1)=false:=dzF c9
      clear c9
      obtain ⟨y419,hy419⟩:∃ y_:List Int,y_=(x5_1):=⟨_,rfl⟩
      replace H:(some y419)=some r:=by first |(rw [hy419];with_reducible exact H) |(have H2_:=(Option.bind_some _ _).symm.trans H;rw [hy419];with_reducible exact H2_) |(have H2_:=(Option.bind_some _ _).symm.trans H;with_reducible exact H2_) | with_reducible exact H |(rw [hy419];exact H) | exact H
      have Ny419:=am hy419
      clear hy419
      obtain rfl:=Option.some.inj H
      obtain ⟨Ao15,co15,eo15⟩:=Kd.jta HO_5.out
      subst eo15
      obtain ⟨i016,hi016,_,hsz16,_⟩:=info_parts info3
      have hy16:y419.length=x5_1.length:=(by rw [Ny419.out])
      have hcut16:=cut_clip (P:=Try.prog) 40 3 Try.underlying40 hi016 Ao15 _ co15 _ (Kd.jC HO_5.out).2.1 hy16
      have hr16:=Kd.R_clip HO_5.out Ny419.out
      clear hy16 hi016 hsz16 HO_5
      have HO421:=am hr16
      clear hr16
      go_wp2
      go_ret
      exact ⟨_,Y0,rq HO421.out,Y54⟩
  ·rw [if_neg c4] at H
   exact absurd H (by simp)
 ·rw [if_neg c3] at H
  exact absurd H (by simp)
end Go.Proofs.Ytkhiiiddbmgiaaa.P
end
