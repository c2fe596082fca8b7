/- One part of the proofs on this program: functions of the program as plain functions, that the code comes to them, and facts on them. -/
import Derived.Test.YtbcjbcjpoddkoaaYAll1
import Derived.Test.YtbcjbcjpoddkoaaYAll2
import Derived.Test.YtbcjbcjpoddkoaaYWAuto
section
namespace Go.Proofs.Ytbcjbcjpoddkoaa.P
open Go.RowKit Go.Proofs.YtbcjbcjpoddkoaaW.PrintWords Go.Proofs.YtbcjbcjpoddkoaaW.PrintLast Go.Proofs.YtbcjbcjpoddkoaaW.PrintMore
attribute [local go_sem] jra jpa jCa jBa jga jfa jqa joa jo
set_option linter.unusedVariables false
set_option linter.unusedSimpArgs false
def jvb.f (a0_0 : Int) (a0_1 : Int) (a0_2 : Int) (a0_3 : Int) : Option (Bool) := (jN.f a0_1 7 12).bind fun t235 => (some t235)
set_option maxHeartbeats 8000000 in
set_option maxRecDepth 100000 in
theorem jvb.calls (a0_0 : Int) (a0_1 : Int) (a0_2 : Int) (a0_3 : Int) (r : Bool) (w : World) (h : jvb.f a0_0 a0_1 a0_2 a0_3 = some r) :
  Calls Try.prog 46 #[.agg #[.int .i64 a0_0, .int .i64 a0_1, .int .i64 a0_2, .int .i64 a0_3]] w fun e w'=>e=.returned (.bool r)∧Below w.heap.size w w':=by
 have hu59:=Try.underlying59
 have HB:=am (Below.refl w.heap.size w)
 have H:((jN.f a0_1 7 12).bind fun t235=>(some t235))=some r:=h
 clear h
 replace H:=bzS H
 obtain ⟨t235,A20,H⟩:=H
 replace H:(some t235)=some r:=H
 have A2:=am A20
 clear A20
 obtain rfl:=Option.some.inj H
 go_enter Try.func46,Try.ntmps46
 go_wp2_with (first |((with_reducible refine jQ (N:=1) rfl ?_);refine bE (N:=1) (cs:=#[.int .i64 a0_0, .int .i64 a0_1, .int .i64 a0_2, .int .i64 a0_3]) (t:=59) ?_;intro gb234 hg w3 hbox hb;have BK234:=am (hbox);have GW234:=am ((Y13:w.heap.size≤gb234));have GE234:=am ((Y13:w.heap.size≤gb234));replace HB:=am (ji (bq) hb);clear hb hbox hg;have hcz4_0:=bc0 BK234.out;have hcz4_1:=bc1 BK234.out;have hcz4_2:=bc2 BK234.out;have hcz4_3:=bc3 BK234.out;have hfz4_0:=ja BK234.out 0;have hfz4_1:=ja BK234.out 1;have hfz4_2:=ja BK234.out 2;have hfz4_3:=ja BK234.out 3) |((with_reducible refine jg (f:=45) rfl ?_);refine gL (some 5) Try.func45 #[.int .i64 a0_1, .int .i64 7, .int .i64 12] ?_;(with_reducible refine (jN.calls a0_1 7 12 t235 _ A2.out).mono ?_);rintro e w' ⟨rfl,⟨nd,rfl⟩⟩;refine ⟨_,rfl,?_⟩))
 go_ret
 exact ⟨Y0,by repeat (first |(with_reducible first | exact HB.out | apply jU | apply jv | apply jW | refine jS ?_ GE234.out) | exact HB.out)⟩
def jla.l0 : Nat → List (S59) → Int → Int → Option (Int)
 | 0,_,_,_=>none
 | k+1,x0,x1,x5=>if x5<(x0.length:Int) then (if 0≤x5 then (if 0≤x1 then (if x1<(x0.length:Int) then (if ((jd x0 x5).f0) > ((jd x0 x1).f0) then (jla.l0 k x0 x1 (wrap64 (x5+1))) else (some x5)) else (none)) else (none)) else (none)) else (some x5)
def jla.f (k : Nat) (l0 : List (S59)) (a1 : Int) : Option (Int) := jla.l0 k l0 a1 (wrap64 (a1 + 1))
set_option maxHeartbeats 8000000 in
set_option maxRecDepth 100000 in
theorem jla.calls (k : Nat) (A0 : Option Addr) (c0 : Nat) (l0 : List (S59)) (a1 : Int) (r : Int) (w : World) (hr0 : Kd.C k59 w A0 l0.length l0) (hc0 : l0.length ≤ c0) (h : jla.f k l0 a1 = some r) :
  Calls Try.prog 34 #[.slice A0 l0.length c0, .int .i64 a1] w fun e w'=>e=.returned (.int .i64 r)∧jdb w w':=by
 have HR0:=am hr0
 have HC0:=am hc0
 clear hr0 hc0
 have H:(jla.l0 k l0 a1 (wrap64 (a1+1)))=some r:=h
 clear h
 have H':=am H
 clear H
 go_enter Try.func34,Try.ntmps34
 go_wp2
 repeat (go_quiet (fail);try go_wp2)
 go_loopg [5] k (fun kq v5 w'=>∃ (x5_1:Int),v5=.int .i64 x5_1∧jl (jla.l0 kq l0 a1 x5_1=some r)∧jl (kq≤k)∧jdb w w')
 case atStart=>exact ⟨(wrap64 (a1+1)),(sq),H',⟨Nat.le_refl _⟩,Y5⟩
 case round =>
  clear H'
  try clear p2
  obtain ⟨x5_1,rfl,HA,HK1,⟨m1,rfl⟩⟩:=hrel
  cases gk with
  | zero=>exact absurd HA.out (by simp [jla.l0])
  | succ k1 =>
   have H:=HA.out
   clear HA
   simp only [jla.l0] at H
   by_cases c3:x5_1<(l0.length:Int)
   ·rw [if_pos c3] at H
    have c3b0:decide (x5_1<(l0.length:Int))=true:=dzT c3
    clear c3
    by_cases c4:0≤x5_1
    ·rw [if_pos c4] at H
     have c4b0:decide (0≤x5_1)=true:=dzT c4
     clear c4
     by_cases c5:0≤a1
     ·rw [if_pos c5] at H
      have c5b0:decide (0≤a1)=true:=dzT c5
      clear c5
      by_cases c6:a1<(l0.length:Int)
      ·rw [if_pos c6] at H
       have c6b0:decide (a1<(l0.length:Int))=true:=dzT c6
       clear c6
       by_cases c7:((jd l0 x5_1).f0) > ((jd l0 a1).f0)
       ·rw [if_pos c7] at H
        have c7b0:decide (((jd l0 a1).f0)<((jd l0 x5_1).f0))=true:=dzT c7
        clear c7
        have H':=am H
        clear H
        have p236:0≤(x5_1:Int):=ozD (uq)
        have q236:x5_1<(l0.length:Int):=ozD (uq)
        obtain ⟨ad236,e236,hx236_0,hx236_1,hx236_2,hx236_3⟩:=jza HR0.out x5_1 p236 q236
        cases e236
        replace p236:=ezT p236
        replace q236:=ezT q236
        have p237:0≤(a1:Int):=ozD (uq)
        have q237:a1<(l0.length:Int):=ozD (uq)
        obtain ⟨ad237,e237,hx237_0,hx237_1,hx237_2,hx237_3⟩:=jza HR0.out a1 p237 q237
        obtain rfl:ad236=ad237:=(by injection e237)
        replace p237:=ezT p237
        replace q237:=ezT q237
        go_wp2
        repeat (go_quiet (fail);try go_wp2)
        go_roundg k1
        case measure=>have:=HK1.out;omega
        case rel=>exact ⟨(wrap64 (x5_1+1)),(sq),H',⟨by have:=HK1.out;omega⟩,Y5⟩
       ·rw [if_neg c7] at H
        have c7b0:decide (((jd l0 a1).f0)<((jd l0 x5_1).f0))=false:=dzF c7
        clear c7
        obtain rfl:=Option.some.inj H
        have p236:0≤(x5_1:Int):=ozD (uq)
        have q236:x5_1<(l0.length:Int):=ozD (uq)
        obtain ⟨ad236,e236,hx236_0,hx236_1,hx236_2,hx236_3⟩:=jza HR0.out x5_1 p236 q236
        cases e236
        replace p236:=ezT p236
        replace q236:=ezT q236
        have p237:0≤(a1:Int):=ozD (uq)
        have q237:a1<(l0.length:Int):=ozD (uq)
        obtain ⟨ad237,e237,hx237_0,hx237_1,hx237_2,hx237_3⟩:=jza HR0.out a1 p237 q237
        obtain rfl:ad236=ad237:=(by injection e237)
        replace p237:=ezT p237
        replace q237:=ezT q237
        go_wp2
        repeat (go_quiet (fail);try go_wp2)
        go_ret
        exact ⟨sq,Y5⟩
      ·rw [if_neg c6] at H
       exact absurd H (by simp)
     ·rw [if_neg c5] at H
      exact absurd H (by simp)
    ·rw [if_neg c4] at H
     exact absurd H (by simp)
   ·rw [if_neg c3] at H
    have c3b0:decide (x5_1<(l0.length:Int))=false:=dzF c3
    clear c3
    obtain rfl:=Option.some.inj H
    go_wp2
    repeat (go_quiet (fail);try go_wp2)
    go_ret
    exact ⟨sq,Y5⟩
mutual
def jZ.l0 : Nat → List (S59) → Int → List Int → Int → Option (List Int)
 | 0,_,_,_,_=>none
 | k+1,x0,x1,x5,x6=>if x6<(x0.length:Int) then (if 0≤x6 then (if 0≤x1 then (if x1<(x0.length:Int) then (if ((jd x0 x6).f0)=((jd x0 x1).f0) then ((jN.f ((jd x0 x6).f1) 8 10).bind fun t245=>(jZ.j1 k x0 x1 x5 x6 t245)) else (jZ.j1 k x0 x1 x5 x6 false)) else (none)) else (none)) else (none)) else (jZ.j1 k x0 x1 x5 x6 false)
def jZ.j1 : Nat → List (S59) → Int → List Int → Int → Bool → Option (List Int)
 | 0,_,_,_,_,_=>none
 | k+1,x0,x1,x5,x6,x36=>if x36=true then (if x5.length<17592186044416 then ((jla.f k x0 x6).bind fun t249=>(jZ.l0 k x0 x1 (x5 ++ [x6]) t249)) else (none)) else (some x5)
end
def jZ.f (k : Nat) (l0 : List (S59)) (a1 : Int) : Option (List Int) := (jla.f k l0 a1).bind fun t241 => (jZ.l0 k l0 a1 (([a1] : List Int)) t241)
set_option maxHeartbeats 8000000 in
set_option maxRecDepth 100000 in
theorem jZ.calls (k : Nat) (A0 : Option Addr) (c0 : Nat) (l0 : List (S59)) (a1 : Int) (r : List Int) (w : World) (hr0 : Kd.C k59 w A0 l0.length l0) (hc0 : l0.length ≤ c0) (h : jZ.f k l0 a1 = some r) :
  Calls Try.prog 35 #[.slice A0 l0.length c0, .int .i64 a1] w fun e w'=>∃ v0_:Value,e=.returned (v0_)∧Kd.R (Kd.int .i64) 3 w' w.heap.size (fun _=>True) v0_ r∧Below w.heap.size w w':=by
 have HR0:=am hr0
 have HC0:=am hc0
 clear hr0 hc0
 have HB:=am (Below.refl w.heap.size w)
 have H:((jla.f k l0 a1).bind fun t241=>(jZ.l0 k l0 a1 (([a1]:List Int)) t241))=some r:=h
 clear h
 obtain ⟨y238,hy238⟩:∃ y_:List Int,y_=(([a1]:List Int)):=⟨_,rfl⟩
 replace H:((jla.f k l0 a1).bind fun t241=>(jZ.l0 k l0 a1 y238 t241))=some r:=by first |(rw [hy238];with_reducible exact H) |(have H2_:=(Option.bind_some _ _).symm.trans H;rw [hy238];with_reducible exact H2_) |(have H2_:=(Option.bind_some _ _).symm.trans H;with_reducible exact H2_) | with_reducible exact H |(rw [hy238];exact H) | exact H
 have Ny238:=am hy238
 clear hy238
 replace H:=bzS H
 obtain ⟨t241,A30,H⟩:=H
 replace H:(jZ.l0 k l0 a1 y238 t241)=some r:=H
 have A3:=am A30
 clear A30
 have H':=am H
 clear H
 go_enter Try.func35,Try.ntmps35
 go_wp2_with (first |((with_reducible refine jQ (N:=8) rfl ?_);refine Kd.jMb (Kd.int .i64) _ 3 ?hg (N:=8) ?hd (xs:=([a1]:List Int)) (inner:=[.int .i64 a1]) (ok:=fun _=>True) (okp:=fun _=>True) ?hr ?hp (fun _ hk=>hk) trivial (Below.refl _ _) (Nat.le_refl _) (by simp) ?_;(case hd=>rfl);(case hg=>rfl);(case hr=>exact Y8);(case hp=>exact (Reps.one (show Kd.M (Kd.int .i64) _ _ _ a1 [.int .i64 a1] from rfl) (Reps.none _ _)));intro v239 w4 ho5 hb hg_ hnew_;clear hg_ hnew_;(first | rw [← Ny238.out] at ho5 |(simp only [Int.reduceToNat] at ho5;rw [← Ny238.out] at ho5));have HO240:=am (Kd.jX ho5 (jda (bq)));replace HB:=am (ji (bq) hb);clear hb ho5) |(go_at_call 34;(with_reducible refine (jla.calls k _ _ l0 a1 t241 _ ?side1 ?side2 A3.out).mono ?_);(case side1=>exact cq (Kd.jka HR0.out HB.out));(case side2=>exact HC0.out);rintro e w' ⟨rfl,⟨nd,rfl⟩⟩;(try first | exact ⟨rfl,_,World.drewN_drewN _ _ _⟩ | exact ⟨rfl,_,Eq.trans (World.drewN_drewN _ _ _) (congrArg (World.drewN _) (Nat.add_assoc _ _ _))⟩)))
 repeat (go_quiet (first |((with_reducible refine jQ (N:=8) rfl ?_);refine Kd.jMb (Kd.int .i64) _ 3 ?hg (N:=8) ?hd (xs:=([a1]:List Int)) (inner:=[.int .i64 a1]) (ok:=fun _=>True) (okp:=fun _=>True) ?hr ?hp (fun _ hk=>hk) trivial (Below.refl _ _) (Nat.le_refl _) (by simp) ?_;(case hd=>rfl);(case hg=>rfl);(case hr=>exact Y8);(case hp=>exact (Reps.one (show Kd.M (Kd.int .i64) _ _ _ a1 [.int .i64 a1] from rfl) (Reps.none _ _)));intro v239 w4 ho5 hb hg_ hnew_;clear hg_ hnew_;(first | rw [← Ny238.out] at ho5 |(simp only [Int.reduceToNat] at ho5;rw [← Ny238.out] at ho5));have HO240:=am (Kd.jX ho5 (jda (bq)));replace HB:=am (ji (bq) hb);clear hb ho5) |(go_at_call 34;(with_reducible refine (jla.calls k _ _ l0 a1 t241 _ ?side1 ?side2 A3.out).mono ?_);(case side1=>exact cq (Kd.jka HR0.out HB.out));(case side2=>exact HC0.out);rintro e w' ⟨rfl,⟨nd,rfl⟩⟩;(try first | exact ⟨rfl,_,World.drewN_drewN _ _ _⟩ | exact ⟨rfl,_,Eq.trans (World.drewN_drewN _ _ _) (congrArg (World.drewN _) (Nat.add_assoc _ _ _))⟩)));try go_wp2_with (first |((with_reducible refine jQ (N:=8) rfl ?_);refine Kd.jMb (Kd.int .i64) _ 3 ?hg (N:=8) ?hd (xs:=([a1]:List Int)) (inner:=[.int .i64 a1]) (ok:=fun _=>True) (okp:=fun _=>True) ?hr ?hp (fun _ hk=>hk) trivial (Below.refl _ _) (Nat.le_refl _) (by simp) ?_;(case hd=>rfl);(case hg=>rfl);(case hr=>exact Y8);(case hp=>exact (Reps.one (show Kd.M (Kd.int .i64) _ _ _ a1 [.int .i64 a1] from rfl) (Reps.none _ _)));intro v239 w4 ho5 hb hg_ hnew_;clear hg_ hnew_;(first | rw [← Ny238.out] at ho5 |(simp only [Int.reduceToNat] at ho5;rw [← Ny238.out] at ho5));have HO240:=am (Kd.jX ho5 (jda (bq)));replace HB:=am (ji (bq) hb);clear hb ho5) |(go_at_call 34;(with_reducible refine (jla.calls k _ _ l0 a1 t241 _ ?side1 ?side2 A3.out).mono ?_);(case side1=>exact cq (Kd.jka HR0.out HB.out));(case side2=>exact HC0.out);rintro e w' ⟨rfl,⟨nd,rfl⟩⟩;(try first | exact ⟨rfl,_,World.drewN_drewN _ _ _⟩ | exact ⟨rfl,_,Eq.trans (World.drewN_drewN _ _ _) (congrArg (World.drewN _) (Nat.add_assoc _ _ _))⟩))))
 go_loopg [5,6] k (fun kq v5 v6 w'=>∃ (x5_1:List Int) (x6_1:Int),v6=.int .i64 x6_1∧jl (jZ.l0 kq l0 a1 x5_1 x6_1=some r)∧jl (kq≤k)∧jl (Kd.R (Kd.int .i64) 3 w' w.heap.size (fun _=>True) v5 x5_1)∧jl (Below w.heap.size w w'))
 case atStart=>exact ⟨(y238),(t241),(sq),H',⟨Nat.le_refl _⟩,⟨rq HO240.out⟩,⟨bq⟩⟩
 case round =>
  clear H'
  try clear p2
  try clear c3
  obtain ⟨x5_1,x6_1,rfl,HA,HK1,HO_5,HB⟩:=hrel
  cases gk with
  | zero=>exact absurd HA.out (by simp [jZ.l0])
  | succ k1 =>
   have H:=HA.out
   clear HA
   simp only [jZ.l0] at H
   have HC6:=am H
   clear H
   go_upto_region 3 with (fail)
   repeat (go_quiet (fail);go_upto_region 3 with (fail))
   go_cut [36] (fun v36 wc=>∃ (kq:Nat) (x36_5:Bool),v36=.bool x36_5∧jl (jZ.j1 kq l0 a1 x5_1 x6_1 x36_5=some r)∧jl (kq≤k1)∧jl (Kd.R (Kd.int .i64) 3 wc w.heap.size (fun _=>True) u5 x5_1)∧jl (Below w.heap.size w wc))
   case first =>
    have H:=HC6.out
    clear HC6
    by_cases c7:x6_1<(l0.length:Int)
    ·rw [if_pos c7] at H
     have c7b0:decide (x6_1<(l0.length:Int))=true:=dzT c7
     clear c7
     (first | rw [c7b0] |(simp only [jeb,jhb];rw [c7b0]) | skip)
     by_cases c8:0≤x6_1
     ·rw [if_pos c8] at H
      have c8b0:decide (0≤x6_1)=true:=dzT c8
      clear c8
      by_cases c9:0≤a1
      ·rw [if_pos c9] at H
       have c9b0:decide (0≤a1)=true:=dzT c9
       clear c9
       by_cases c10:a1<(l0.length:Int)
       ·rw [if_pos c10] at H
        have c10b0:decide (a1<(l0.length:Int))=true:=dzT c10
        clear c10
        by_cases c11:((jd l0 x6_1).f0)=((jd l0 a1).f0)
        ·rw [if_pos c11] at H
         have c11b0:(((jd l0 x6_1).f0) == ((jd l0 a1).f0))=true:=beq_iff_eq.mpr c11
         have c11b1:(((jd l0 x6_1).f0) != ((jd l0 a1).f0))=false:=bne_eq_false_iff_eq.mpr c11
         clear c11
         replace H:=bzS H
         obtain ⟨t245,A120,H⟩:=H
         replace H:(jZ.j1 k1 l0 a1 x5_1 x6_1 t245)=some r:=H
         have A12:=am A120
         clear A120
         have H':=am H
         clear H
         have p242:0≤(x6_1:Int):=ozD (uq)
         have q242:x6_1<(l0.length:Int):=ozD (uq)
         obtain ⟨ad242,e242,hx242_0,hx242_1,hx242_2,hx242_3⟩:=jza HR0.out x6_1 p242 q242
         cases e242
         replace hx242_0:=cb HB.out hx242_0
         replace hx242_1:=cb HB.out hx242_1
         replace hx242_2:=cb HB.out hx242_2
         replace hx242_3:=cb HB.out hx242_3
         replace p242:=ezT p242
         replace q242:=ezT q242
         have p243:0≤(a1:Int):=ozD (uq)
         have q243:a1<(l0.length:Int):=ozD (uq)
         obtain ⟨ad243,e243,hx243_0,hx243_1,hx243_2,hx243_3⟩:=jza HR0.out a1 p243 q243
         obtain rfl:ad242=ad243:=(by injection e243)
         replace hx243_0:=cb HB.out hx243_0
         replace hx243_1:=cb HB.out hx243_1
         replace hx243_2:=cb HB.out hx243_2
         replace hx243_3:=cb HB.out hx243_3
         replace p243:=ezT p243
         replace q243:=ezT q243
         have p244:0≤(x6_1:Int):=ozD (uq)
         have q244:x6_1<(l0.length:Int):=ozD (uq)
         obtain ⟨ad244,e244,hx244_0,hx244_1,hx244_2,hx244_3⟩:=jza HR0.out x6_1 p244 q244
         obtain rfl:ad242=ad244:=(by injection e244)
         replace hx244_0:=cb HB.out hx244_0
         replace hx244_1:=cb HB.out hx244_1
         replace hx244_2:=cb HB.out hx244_2
         replace hx244_3:=cb HB.out hx244_3
         replace p244:=ezT p244
         replace q244:=ezT q244
         go_wp2_with (first |(go_at_call 45;(with_reducible refine (jN.calls ((jd l0 x6_1).f1) 8 10 t245 _ A12.out).mono ?_);rintro e w' ⟨rfl,⟨nd,rfl⟩⟩;(try first | exact ⟨rfl,_,World.drewN_drewN _ _ _⟩ | exact ⟨rfl,_,Eq.trans (World.drewN_drewN _ _ _) (congrArg (World.drewN _) (Nat.add_assoc _ _ _))⟩)))
         repeat (go_quiet (first |(go_at_call 45;(with_reducible refine (jN.calls ((jd l0 x6_1).f1) 8 10 t245 _ A12.out).mono ?_);rintro e w' ⟨rfl,⟨nd,rfl⟩⟩;(try first | exact ⟨rfl,_,World.drewN_drewN _ _ _⟩ | exact ⟨rfl,_,Eq.trans (World.drewN_drewN _ _ _) (congrArg (World.drewN _) (Nat.add_assoc _ _ _))⟩)));try go_wp2_with (first |(go_at_call 45;(with_reducible refine (jN.calls ((jd l0 x6_1).f1) 8 10 t245 _ A12.out).mono ?_);rintro e w' ⟨rfl,⟨nd,rfl⟩⟩;(try first | exact ⟨rfl,_,World.drewN_drewN _ _ _⟩ | exact ⟨rfl,_,Eq.trans (World.drewN_drewN _ _ _) (congrArg (World.drewN _) (Nat.add_assoc _ _ _))⟩))))
         go_meet
         case rel=>exact ⟨_,(t245),(sq),H',⟨by have:=HK1.out;first | omega | exact Nat.le_refl _⟩,⟨rq HO_5.out⟩,⟨bq⟩⟩
        ·rw [if_neg c11] at H
         have c11b0:(((jd l0 x6_1).f0) == ((jd l0 a1).f0))=false:=beq_eq_false_iff_ne.mpr c11
         have c11b1:(((jd l0 x6_1).f0) != ((jd l0 a1).f0))=true:=bne_iff_ne.mpr c11
         have H':=am H
         clear H
         have p242:0≤(x6_1:Int):=ozD (uq)
         have q242:x6_1<(l0.length:Int):=ozD (uq)
         obtain ⟨ad242,e242,hx242_0,hx242_1,hx242_2,hx242_3⟩:=jza HR0.out x6_1 p242 q242
         cases e242
         replace hx242_0:=cb HB.out hx242_0
         replace hx242_1:=cb HB.out hx242_1
         replace hx242_2:=cb HB.out hx242_2
         replace hx242_3:=cb HB.out hx242_3
         replace p242:=ezT p242
         replace q242:=ezT q242
         have p243:0≤(a1:Int):=ozD (uq)
         have q243:a1<(l0.length:Int):=ozD (uq)
         obtain ⟨ad243,e243,hx243_0,hx243_1,hx243_2,hx243_3⟩:=jza HR0.out a1 p243 q243
         obtain rfl:ad242=ad243:=(by injection e243)
         replace hx243_0:=cb HB.out hx243_0
         replace hx243_1:=cb HB.out hx243_1
         replace hx243_2:=cb HB.out hx243_2
         replace hx243_3:=cb HB.out hx243_3
         replace p243:=ezT p243
         replace q243:=ezT q243
         go_wp2
         repeat (go_quiet (fail);try go_wp2)
         go_meet
         case rel=>exact ⟨_,(false),(sq),H',⟨by have:=HK1.out;first | omega | exact Nat.le_refl _⟩,⟨rq HO_5.out⟩,⟨bq⟩⟩
       ·rw [if_neg c10] at H
        exact absurd H (by simp)
      ·rw [if_neg c9] at H
       exact absurd H (by simp)
     ·rw [if_neg c8] at H
      exact absurd H (by simp)
    ·rw [if_neg c7] at H
     have c7b0:decide (x6_1<(l0.length:Int))=false:=dzF c7
     clear c7
     (first | rw [c7b0] |(simp only [jeb,jhb];rw [c7b0]) | skip)
     have H':=am H
     clear H
     go_wp2
     repeat (go_quiet (fail);try go_wp2)
     go_meet
     case rel=>exact ⟨_,(false),(sq),H',⟨by have:=HK1.out;first | omega | exact Nat.le_refl _⟩,⟨rq HO_5.out⟩,⟨bq⟩⟩
   case rest =>
    clear HC6
    try clear c1
    try clear p2
    try clear q2
    try clear hx2
    try clear c3
    try clear c7
    try clear c7b0
    try clear c8
    try clear c8b0
    try clear c9
    try clear c9b0
    try clear c10
    try clear c10b0
    try clear c11
    try clear c11b0
    try clear c11b1
    try clear hx242_0
    try clear hx242_1
    try clear hx242_2
    try clear hx242_3
    try clear hx243_0
    try clear hx243_1
    try clear hx243_2
    try clear hx243_3
    try clear hx244_0
    try clear hx244_1
    try clear hx244_2
    try clear hx244_3
    try clear p2
    try clear p242
    try clear p243
    try clear p244
    try clear q242
    try clear q243
    try clear q244
    obtain ⟨kq,x36_5,rfl,HA,HJ5,HO_5,HB⟩:=hcut
    cases kq with
    | zero=>exact absurd HA.out (by simp [jZ.j1])
    | succ kj5 =>
     have H:=HA.out
     clear HA
     simp only [jZ.j1] at H
     by_cases c13:x36_5=true
     ·subst c13
      have H1:(if x5_1.length<17592186044416 then ((jla.f kj5 l0 x6_1).bind fun t249=>(jZ.l0 kj5 l0 a1 (x5_1 ++ [x6_1]) t249)) else (none))=some r:=by rw [if_pos rfl] at H;exact H
      clear H
      have H:=H1
      clear H1
      by_cases c14:x5_1.length<17592186044416
      ·rw [if_pos c14] at H
       have LMc14:=am c14
       clear c14
       obtain ⟨y246,hy246⟩:∃ y_:List Int,y_=(x5_1 ++ [x6_1]):=⟨_,rfl⟩
       replace H:((jla.f kj5 l0 x6_1).bind fun t249=>(jZ.l0 kj5 l0 a1 y246 t249))=some r:=by first |(rw [hy246];with_reducible exact H) |(have H2_:=(Option.bind_some _ _).symm.trans H;rw [hy246];with_reducible exact H2_) |(have H2_:=(Option.bind_some _ _).symm.trans H;with_reducible exact H2_) | with_reducible exact H |(rw [hy246];exact H) | exact H
       have Ny246:=am hy246
       clear hy246
       replace H:=bzS H
       obtain ⟨t249,A150,H⟩:=H
       replace H:(jZ.l0 kj5 l0 a1 y246 t249)=some r:=H
       have A15:=am A150
       clear A150
       have H':=am H
       clear H
       go_wp2_with (first |((with_reducible refine jJa (b:=.append) (xs:=#[.tmp 40, .tmp 42]) rfl ?_);at_builtin;refine Kd.jVb (Kd.int .i64) (w0:=w) w.heap.size rfl (.tmp 40) (.tmp 42) 65 3 (.int .i64 0) 8 rfl Try.underlying65 info3 rfl (by decide) (by omega) u5 x5_1 x6_1 [.int .i64 x6_1] (fun _=>True) (fun _=>False) rfl rfl ?aP (fun _ hk=>hk.elim) ?aF ?aO ?aB ?aS ?aL ?_;(case aP=>exact rfl);(case aB=>exact (bq));(case aF=>exact (fun _ _=>trivial));(case aO=>exact (rq HO_5.out));(case aS=>exact (jda (bq)));(case aL=>have:=LMc14.out;omega);intro v247 w16 ho hb hg hat;rw [← Ny246.out] at ho;have n0_:=am (hb);have n1_:=am (ho);clear HB HO_5;have HB:=n0_;have HO248:=n1_;clear n0_ n1_ ho hb hg hat) |(go_at_call 34;(with_reducible refine (jla.calls kj5 _ _ l0 x6_1 t249 _ ?side1 ?side2 A15.out).mono ?_);(case side1=>exact cq (Kd.jka HR0.out HB.out));(case side2=>exact HC0.out);rintro e w' ⟨rfl,⟨nd,rfl⟩⟩;(try first | exact ⟨rfl,_,World.drewN_drewN _ _ _⟩ | exact ⟨rfl,_,Eq.trans (World.drewN_drewN _ _ _) (congrArg (World.drewN _) (Nat.add_assoc _ _ _))⟩)))
       repeat (go_quiet (first |((with_reducible refine jJa (b:=.append) (xs:=#[.tmp 40, .tmp 42]) rfl ?_);at_builtin;refine Kd.jVb (Kd.int .i64) (w0:=w) w.heap.size rfl (.tmp 40) (.tmp 42) 65 3 (.int .i64 0) 8 rfl Try.underlying65 info3 rfl (by decide) (by omega) u5 x5_1 x6_1 [.int .i64 x6_1] (fun _=>True) (fun _=>False) rfl rfl ?aP (fun _ hk=>hk.elim) ?aF ?aO ?aB ?aS ?aL ?_;(case aP=>exact rfl);(case aB=>exact (bq));(case aF=>exact (fun _ _=>trivial));(case aO=>exact (rq HO_5.out));(case aS=>exact (jda (bq)));(case aL=>have:=LMc14.out;omega);intro v247 w16 ho hb hg hat;rw [← Ny246.out] at ho;have n0_:=am (hb);have n1_:=am (ho);clear HB HO_5;have HB:=n0_;have HO248:=n1_;clear n0_ n1_ ho hb hg hat) |(go_at_call 34;(with_reducible refine (jla.calls kj5 _ _ l0 x6_1 t249 _ ?side1 ?side2 A15.out).mono ?_);(case side1=>exact cq (Kd.jka HR0.out HB.out));(case side2=>exact HC0.out);rintro e w' ⟨rfl,⟨nd,rfl⟩⟩;(try first | exact ⟨rfl,_,World.drewN_drewN _ _ _⟩ | exact ⟨rfl,_,Eq.trans (World.drewN_drewN _ _ _) (congrArg (World.drewN _) (Nat.add_assoc _ _ _))⟩)));try go_wp2_with (first |((with_reducible refine jJa (b:=.append) (xs:=#[.tmp 40, .tmp 42]) rfl ?_);at_builtin;refine Kd.jVb (Kd.int .i64) (w0:=w) w.heap.size rfl (.tmp 40) (.tmp 42) 65 3 (.int .i64 0) 8 rfl Try.underlying65 info3 rfl (by decide) (by omega) u5 x5_1 x6_1 [.int .i64 x6_1] (fun _=>True) (fun _=>False) rfl rfl ?aP (fun _ hk=>hk.elim) ?aF ?aO ?aB ?aS ?aL ?_;(case aP=>exact rfl);(case aB=>exact (bq));(case aF=>exact (fun _ _=>trivial));(case aO=>exact (rq HO_5.out));(case aS=>exact (jda (bq)));(case aL=>have:=LMc14.out;omega);intro v247 w16 ho hb hg hat;rw [← Ny246.out] at ho;have n0_:=am (hb);have n1_:=am (ho);clear HB HO_5;have HB:=n0_;have HO248:=n1_;clear n0_ n1_ ho hb hg hat) |(go_at_call 34;(with_reducible refine (jla.calls kj5 _ _ l0 x6_1 t249 _ ?side1 ?side2 A15.out).mono ?_);(case side1=>exact cq (Kd.jka HR0.out HB.out));(case side2=>exact HC0.out);rintro e w' ⟨rfl,⟨nd,rfl⟩⟩;(try first | exact ⟨rfl,_,World.drewN_drewN _ _ _⟩ | exact ⟨rfl,_,Eq.trans (World.drewN_drewN _ _ _) (congrArg (World.drewN _) (Nat.add_assoc _ _ _))⟩))))
       go_roundg kj5
       case measure=>have:=HK1.out;have:=HJ5.out;omega
       case rel=>exact ⟨(y246),(t249),(sq),H',⟨by have:=HK1.out;have:=HJ5.out;omega⟩,⟨rq HO248.out⟩,⟨bq⟩⟩
      ·rw [if_neg c14] at H
       exact absurd H (by simp)
     ·replace c13:=Bool.eq_false_iff.mpr c13
      subst c13
      have H1:(some x5_1)=some r:=by rw [if_neg (show ¬ (false=true) by decide)] at H;exact H
      clear H
      have H:=H1
      clear H1
      obtain rfl:=Option.some.inj H
      go_wp2
      repeat (go_quiet (fail);try go_wp2)
      go_ret
      exact ⟨_,Y0,rq HO_5.out,bq⟩
def jAa.l0 : Nat → List (S59) → Int → List Int → Int → Option (List Int)
 | 0,_,_,_,_=>none
 | k+1,x0,x2,x7,x8=>if x8<x2 then (if x7.length<17592186044416 then ((jla.f k x0 x8).bind fun t256=>(jAa.l0 k x0 x2 (x7 ++ [x8]) t256)) else (none)) else (some x7)
def jAa.f (k : Nat) (l0 : List (S59)) (a1 : Int) (a2 : Int) : Option (List Int) := jAa.l0 k l0 a2 (([] : List Int)) a1
set_option maxHeartbeats 8000000 in
set_option maxRecDepth 100000 in
theorem jAa.calls (k : Nat) (A0 : Option Addr) (c0 : Nat) (l0 : List (S59)) (a1 : Int) (a2 : Int) (r : List Int) (w : World) (hr0 : Kd.C k59 w A0 l0.length l0) (hc0 : l0.length ≤ c0) (h : jAa.f k l0 a1 a2 = some r) :
  Calls Try.prog 76 #[.slice A0 l0.length c0, .int .i64 a1, .int .i64 a2] w fun e w'=>∃ v0_:Value,e=.returned (v0_)∧Kd.R (Kd.int .i64) 3 w' w.heap.size (fun _=>True) v0_ r∧Below w.heap.size w w':=by
 have HR0:=am hr0
 have HC0:=am hc0
 clear hr0 hc0
 have HB:=am (Below.refl w.heap.size w)
 have H:(jAa.l0 k l0 a2 (([]:List Int)) a1)=some r:=h
 clear h
 obtain ⟨y250,hy250⟩:∃ y_:List Int,y_=(([]:List Int)):=⟨_,rfl⟩
 replace H:(jAa.l0 k l0 a2 y250 a1)=some r:=by first |(rw [hy250];with_reducible exact H) |(have H2_:=(Option.bind_some _ _).symm.trans H;rw [hy250];with_reducible exact H2_) |(have H2_:=(Option.bind_some _ _).symm.trans H;with_reducible exact H2_) | with_reducible exact H |(rw [hy250];exact H) | exact H
 have Ny250:=am hy250
 clear hy250
 have H':=am H
 clear H
 go_enter Try.func76,Try.ntmps76
 go_wp2_with (first |((with_reducible refine jQ (N:=9) rfl ?_);refine Kd.jMb (Kd.int .i64) _ 3 ?hg (N:=9) ?hd (xs:=([]:List Int)) (inner:=[]) (ok:=fun _=>True) (okp:=fun _=>True) ?hr ?hp (fun _ hk=>hk) trivial (Below.refl _ _) (Nat.le_refl _) (by simp) ?_;(case hd=>rfl);(case hg=>rfl);(case hr=>exact Y8);(case hp=>exact (Reps.none _ _));intro v251 w4 ho5 hb hg_ hnew_;clear hg_ hnew_;(first | rw [← Ny250.out] at ho5 |(simp only [Int.reduceToNat] at ho5;rw [← Ny250.out] at ho5));have HO252:=am (Kd.jX ho5 (jda (bq)));replace HB:=am (ji (bq) hb);clear hb ho5))
 go_loopg [7,8] k (fun kq v7 v8 w'=>∃ (x7_1:List Int) (x8_1:Int),v8=.int .i64 x8_1∧jl (jAa.l0 kq l0 a2 x7_1 x8_1=some r)∧jl (kq≤k)∧jl (Kd.R (Kd.int .i64) 3 w' w.heap.size (fun _=>True) v7 x7_1)∧jl (Below w.heap.size w w'))
 case atStart=>exact ⟨(y250),(a1),(sq),H',⟨Nat.le_refl _⟩,⟨rq HO252.out⟩,⟨bq⟩⟩
 case round =>
  clear H'
  try clear p2
  obtain ⟨x7_1,x8_1,rfl,HA,HK1,HO_7,HB⟩:=hrel
  cases gk with
  | zero=>exact absurd HA.out (by simp [jAa.l0])
  | succ k1 =>
   have H:=HA.out
   clear HA
   simp only [jAa.l0] at H
   by_cases c6:x8_1<a2
   ·rw [if_pos c6] at H
    have c6b0:decide (x8_1<a2)=true:=dzT c6
    clear c6
    by_cases c7:x7_1.length<17592186044416
    ·rw [if_pos c7] at H
     have LMc7:=am c7
     clear c7
     obtain ⟨y253,hy253⟩:∃ y_:List Int,y_=(x7_1 ++ [x8_1]):=⟨_,rfl⟩
     replace H:((jla.f k1 l0 x8_1).bind fun t256=>(jAa.l0 k1 l0 a2 y253 t256))=some r:=by first |(rw [hy253];with_reducible exact H) |(have H2_:=(Option.bind_some _ _).symm.trans H;rw [hy253];with_reducible exact H2_) |(have H2_:=(Option.bind_some _ _).symm.trans H;with_reducible exact H2_) | with_reducible exact H |(rw [hy253];exact H) | exact H
     have Ny253:=am hy253
     clear hy253
     replace H:=bzS H
     obtain ⟨t256,A80,H⟩:=H
     replace H:(jAa.l0 k1 l0 a2 y253 t256)=some r:=H
     have A8:=am A80
     clear A80
     have H':=am H
     clear H
     go_wp2_with (first |((with_reducible refine jJa (b:=.append) (xs:=#[.tmp 17, .tmp 19]) rfl ?_);at_builtin;refine Kd.jVb (Kd.int .i64) (w0:=w) w.heap.size rfl (.tmp 17) (.tmp 19) 65 3 (.int .i64 0) 8 rfl Try.underlying65 info3 rfl (by decide) (by omega) u7 x7_1 x8_1 [.int .i64 x8_1] (fun _=>True) (fun _=>False) rfl rfl ?aP (fun _ hk=>hk.elim) ?aF ?aO ?aB ?aS ?aL ?_;(case aP=>exact rfl);(case aB=>exact (bq));(case aF=>exact (fun _ _=>trivial));(case aO=>exact (rq HO_7.out));(case aS=>exact (jda (bq)));(case aL=>have:=LMc7.out;omega);intro v254 w9 ho hb hg hat;rw [← Ny253.out] at ho;have n0_:=am (hb);have n1_:=am (ho);clear HB HO_7;have HB:=n0_;have HO255:=n1_;clear n0_ n1_ ho hb hg hat) |((with_reducible refine jg (f:=34) rfl ?_);refine gL (some 16) Try.func34 #[.slice A0 l0.length c0, .int .i64 x8_1] ?_;(with_reducible refine (jla.calls k1 _ _ l0 x8_1 t256 _ ?side1 ?side2 A8.out).mono ?_);(case side1=>exact cq (Kd.jka HR0.out HB.out));(case side2=>exact HC0.out);rintro e w' ⟨rfl,⟨nd,rfl⟩⟩;refine ⟨_,rfl,?_⟩))
     go_roundg k1
     case measure=>have:=HK1.out;omega
     case rel=>exact ⟨(y253),(t256),(sq),H',⟨by have:=HK1.out;omega⟩,⟨rq HO255.out⟩,⟨bq⟩⟩
    ·rw [if_neg c7] at H
     exact absurd H (by simp)
   ·rw [if_neg c6] at H
    have c6b0:decide (x8_1<a2)=false:=dzF c6
    clear c6
    obtain rfl:=Option.some.inj H
    go_wp2
    go_ret
    exact ⟨_,Y0,rq HO_7.out,bq⟩
def jHa.go (p : List S59) : List Int → Int → Int → Option (Option Int)
 | [],ex,_=>some (some ex)
 | k :: ks,ex,last=>if 0≤k then if k<(p.length:Int) then
   if (jd p k).f1=8 then if last≤8 then jHa.go p ks (ex+1) (jd p k).f1 else some none
   else if (jd p k).f1=9 then if last=8 then jHa.go p ks ex (jd p k).f1 else some none
   else if (jd p k).f1=10 then if last<10 then jHa.go p ks ex (jd p k).f1 else some none
   else some none
  else none else none
def jHa.f (l0 : List S59) (l1 : List Int) : Option Bool := if 1 ≤ l1.length then (jHa.go l0 (l1.drop 1) 0 7).bind fun r => match r with | none => some false | some ex => some (decide (1 < l1.length) && decide (ex ≤ 6)) else none
theorem jHa.step {p : List S59} {l : List Int} {k : Nat} {ex last : Int} {r : Option Int} (hk : k < l.length) (h : jHa.go p (l.drop k) ex last = some r) : jHa.go p (l[k] :: l.drop (k + 1)) ex last = some r := by
 rw [← List.drop_eq_getElem_cons hk];exact h
set_option maxHeartbeats 8000000 in
set_option maxRecDepth 100000 in
theorem jHa.calls (A0 : Option Addr) (c0 : Nat) (l0 : List S59) (A1 : Option Addr) (c1 : Nat) (l1 : List Int) (r : Bool) (w : World) (hr0 : Kd.C k59 w A0 l0.length l0) (hc0 : l0.length ≤ c0) (hr1 : Kd.C (Kd.int .i64) w A1 l1.length l1) (hc1 : l1.length ≤ c1) (h : jHa.f l0 l1 = some r) :
  Calls Try.prog 77 #[.slice A0 l0.length c0, .slice A1 l1.length c1] w fun e w'=>e=.returned (.bool r)∧jdb w w':=by
 have hu59:=Try.underlying59
 have hm:l1.length≤9223372036854775807:=Kd.C_max hr1
 simp only [jHa.f] at h
 by_cases h1:1≤l1.length
 ·rw [if_pos h1] at h
  obtain ⟨q,hq,h⟩:=bzS h
  have HR0:=am hr0
  have HR1:=am hr1
  have H0:=am hq
  have HZ:=am h
  have h1b:(1:Int)≤(l1.length:Int):=by omega
  obtain ⟨i03,hi03,_,hsz3,_⟩:=info_parts info3
  obtain ⟨A',hcut,hA',hC'⟩:=print_drop_of (P:=Try.prog) (Value.int .i64) (0:Int) 65 3 .i64 Try.underlying65 hi03 hsz3 A1 c1 l1 1 (by omega) h1b hc1
  replace hA':=hA' _ (Kd.reads_of_C hr1)
  rw [show ((1:Int)).toNat=1 from rfl] at hcut hA' hC'
  generalize hl2:l1.drop 1=l2 at hcut hA' hC' H0
  have hdl:l2.length<l1.length:=by rw [← hl2,List.length_drop];omega
  clear hl2
  have HS:=am hA'
  clear hr0 hr1 hq h hA' hi03 hsz3
  go_enter Try.func77,Try.ntmps77
  go_wp2
  go_loop [5,6,13] (fun i5 i6 i13=>∃ (k:Nat) (ex last:Int),i13=.int .i64 k∧i5=.int .i64 ex∧i6=.int .i64 last∧k≤l2.length∧0≤ex∧ex≤(k:Int)∧jl (jHa.go l0 (l2.drop k) ex last=some q)) (fun _ _ i13=>l2.length - (intOf i13).toNat)
  case atStart=>exact ⟨0,0,7,rfl,rfl,rfl,Nat.zero_le _,by omega,by omega,H0⟩
  case round =>
   clear H0
   obtain ⟨k,ex,last,rfl,rfl,rfl,hk,hx0,hx1,HA⟩:=hrel
   by_cases hlt:k<l2.length
   ·have HB:=am (jHa.step hlt HA.out)
    clear HA
    have HC:=HS.out
    obtain ⟨ad,rfl,hx⟩:=Kd.jyb (Kd.C_of_reads (h1:=fun _=>rfl) HC) (k:Int) (by omega) (by omega)
    have hrd:rd l2 (k:Int)=l2[k]:=by simp only [rd,Int.toNat_natCast,List.getD_eq_getElem?_getD,List.getElem?_eq_getElem hlt,Option.getD_some]
    rw [hrd,Int.toNat_natCast] at hx
    clear hrd HC
    have hgo:=HB.out
    generalize l2[k]=x at hgo hx
    simp only [jHa.go] at hgo
    clear HB
    by_cases h0:0≤x
    ·rw [if_pos h0] at hgo
     by_cases h2:x<(l0.length:Int)
     ·rw [if_pos h2] at hgo
      obtain ⟨ad0,rfl,hy0,hy1,hy2,hy3⟩:=jza HR0.out x h0 h2
      generalize hkd:(jd l0 x).f1=kd at hgo hy1
      clear hkd
      have q2:=ezT h2
      have q0:=ezT h0
      clear h0 h2
      by_cases e8:kd=8
      ·subst e8
       rw [if_pos rfl] at hgo
       by_cases hl:last≤8
       ·rw [if_pos hl] at hgo
        have hlb:=dzT hl
        clear hl
        have HG:=am hgo
        clear hgo HZ
        go_wp2
        go_round
        case rel=>exact ⟨k+1,ex+1,_,by go_num,rfl,rfl,hlt,by omega,by omega,HG⟩
        case measure=>simp [intOf];omega
       ·rw [if_neg hl] at hgo
        have hlb:=dzF hl
        clear hl
        obtain rfl:none=q:=by simpa using hgo
        have HR:=am (by simpa using HZ.out:r=false)
        clear hgo HZ
        go_wp2
        go_ret
        exact ⟨by rw [HR.out];rfl,jdb.refl _⟩
      ·rw [if_neg e8] at hgo
       have e8b:(kd == 8)=false:=beq_eq_false_iff_ne.2 e8
       clear e8
       by_cases e9:kd=9
       ·subst e9
        rw [if_pos rfl] at hgo
        by_cases hl:last=8
        ·rw [if_pos hl] at hgo
         have hlb:(last == 8)=true:=beq_iff_eq.2 hl
         clear hl
         have HG:=am hgo
         clear hgo HZ
         go_wp2
         go_round
         case rel=>exact ⟨k+1,ex,_,by go_num,rfl,rfl,hlt,by omega,by omega,HG⟩
         case measure=>simp [intOf];omega
        ·rw [if_neg hl] at hgo
         have hlb:(last == 8)=false:=beq_eq_false_iff_ne.2 hl
         clear hl
         obtain rfl:none=q:=by simpa using hgo
         have HR:=am (by simpa using HZ.out:r=false)
         clear hgo HZ
         go_wp2
         go_ret
         exact ⟨by rw [HR.out];rfl,jdb.refl _⟩
       ·rw [if_neg e9] at hgo
        have e9b:(kd == 9)=false:=beq_eq_false_iff_ne.2 e9
        clear e9
        by_cases e10:kd=10
        ·subst e10
         rw [if_pos rfl] at hgo
         by_cases hl:last<10
         ·rw [if_pos hl] at hgo
          have hlb:=dzT hl
          clear hl
          have HG:=am hgo
          clear hgo HZ
          go_wp2
          go_round
          case rel=>exact ⟨k+1,ex,_,by go_num,rfl,rfl,hlt,by omega,by omega,HG⟩
          case measure=>simp [intOf];omega
         ·rw [if_neg hl] at hgo
          have hlb:=dzF hl
          clear hl
          obtain rfl:none=q:=by simpa using hgo
          have HR:=am (by simpa using HZ.out:r=false)
          clear hgo HZ
          go_wp2
          go_ret
          exact ⟨by rw [HR.out];rfl,jdb.refl _⟩
        ·rw [if_neg e10] at hgo
         have e10b:(kd == 10)=false:=beq_eq_false_iff_ne.2 e10
         clear e10
         obtain rfl:none=q:=by simpa using hgo
         have HR:=am (by simpa using HZ.out:r=false)
         clear hgo HZ
         go_wp2
         go_ret
         exact ⟨by rw [HR.out];rfl,jdb.refl _⟩
     ·rw [if_neg h2] at hgo
      cases hgo
    ·rw [if_neg h0] at hgo
     cases hgo
   ·have hgo:=HA.out
    rw [List.drop_eq_nil_of_le (by omega)] at hgo
    obtain rfl:some ex=q:=by simpa [jHa.go] using hgo
    clear hgo HA
    have HY:=am (Option.some.inj HZ.out)
    clear HZ
    by_cases h1c:1<l1.length
    ·have hb1:=dzT h1c
     go_wp2
     go_ret
     exact ⟨by rw [← HY.out,hb1];rfl,jdb.refl _⟩
    ·have hb1:=dzF h1c
     go_wp2
     go_ret
     exact ⟨by rw [← HY.out,hb1];rfl,jdb.refl _⟩
 ·rw [if_neg h1] at h
  cases h
mutual
def jk.l0 : Nat → List (S59) → Bool → List Int → Int → Option (Bool)
 | 0,_,_,_,_=>none
 | k+1,x0,x3,x9,x10=>if x10<(x9.length:Int) then (if 0≤x10 then (if 0≤(rd x9 x10) then (if (rd x9 x10)<(x0.length:Int) then (if ((jd x0 (rd x9 x10)).f1)=5 then (jk.j1 k x0 x3 x9 x10 (rd x9 x10) ((jd x0 (rd x9 x10)).f1) ((jd x0 (rd x9 x10)).f1) (((jd x0 (rd x9 x10)).f1) == 5)) else (jk.j1 k x0 x3 x9 x10 (rd x9 x10) ((jd x0 (rd x9 x10)).f1) ((jd x0 (rd x9 x10)).f1) (((jd x0 (rd x9 x10)).f1) == 6))) else (none)) else (none)) else (none)) else (some true)
def jk.j1 : Nat → List (S59) → Bool → List Int → Int → Int → Int → Int → Bool → Option (Bool)
 | 0,_,_,_,_,_,_,_,_=>none
 | k+1,x0,x3,x9,x10,x11,x12,x35,x36=>if x36=true then (if x3=true then (jk.l0 k x0 x3 x9 (wrap64 (x10+1))) else (some false)) else (if x35=8 then (jk.j2 k x0 x3 x9 x10 x11 x12 x35 (x35 == 8)) else (if x35=9 then (jk.j2 k x0 x3 x9 x10 x11 x12 x35 (x35 == 9)) else (jk.j2 k x0 x3 x9 x10 x11 x12 x35 (x35 == 10))))
def jk.j2 : Nat → List (S59) → Bool → List Int → Int → Int → Int → Int → Bool → Option (Bool)
 | 0,_,_,_,_,_,_,_,_=>none
 | k+1,x0,x3,x9,x10,x11,x12,x35,x41=>if x41=true then (some false) else (if x35=7 then ((jZ.f k x0 x11).bind fun t262=>((jHa.f x0 t262).bind fun t265=>(if t265=true then (jk.l1 k x0 x3 x9 x10 t262 t262 (t262.length:Int) 0) else (some false)))) else (if x35=11 then (jk.j4 k x0 x3 x9 x10 x11 x12 (x35 == 11)) else (jk.j4 k x0 x3 x9 x10 x11 x12 (x35 == 12))))
def jk.l1 : Nat → List (S59) → Bool → List Int → Int → List Int → List Int → Int → Int → Option (Bool)
 | 0,_,_,_,_,_,_,_,_=>none
 | k+1,x0,x3,x9,x10,x13,x54,x55,x56=>if x56<x55 then (if 0≤x56 then (if x56<(x54.length:Int) then ((jla.f k x0 (rd x54 x56)).bind fun t267=>((jk.f k x0 (wrap64 ((rd x54 x56)+1)) t267 x3).bind fun t268=>(if t268=true then (jk.l1 k x0 x3 x9 x10 x13 x54 x55 (wrap64 (x56+1))) else (some false)))) else (none)) else (none)) else (jk.l0 k x0 x3 x9 (wrap64 ((wrap64 (x10+(wrap64 ((x13.length:Int) - 1))))+1)))
def jk.j4 : Nat → List (S59) → Bool → List Int → Int → Int → Int → Bool → Option (Bool)
 | 0,_,_,_,_,_,_,_=>none
 | k+1,x0,x3,x9,x10,x11,x12,x75=>if x75=true then ((jla.f k x0 x11).bind fun t269=>(if x3=true then ((jk.f k x0 (wrap64 (x11+1)) t269 true).bind fun t270=>(if t270=true then (jk.l0 k x0 x3 x9 (wrap64 (x10+1))) else (some false))) else ((jk.f k x0 (wrap64 (x11+1)) t269 (x12 == 12)).bind fun t271=>(if t271=true then (jk.l0 k x0 x3 x9 (wrap64 (x10+1))) else (some false))))) else (jk.l0 k x0 x3 x9 (wrap64 (x10+1)))
def jk.f : Nat → List (S59) → Int → Int → Bool → Option (Bool)
 | 0,_,_,_,_=>none
 | k+1,l0,a1,a2,a3=>(jAa.f k l0 a1 a2).bind fun t257=>(jk.l0 k l0 a3 t257 0)
end
set_option maxHeartbeats 8000000 in
set_option maxRecDepth 100000 in
theorem jk.calls (k : Nat) : ∀ (A0 : Option Addr) (c0 : Nat) (l0 : List (S59)) (a1 : Int) (a2 : Int) (a3 : Bool) (r : Bool) (w : World) (hr0 : Kd.C k59 w A0 l0.length l0) (hc0 : l0.length ≤ c0) (h : jk.f k l0 a1 a2 a3 = some r),
  Calls Try.prog 47 #[.slice A0 l0.length c0, .int .i64 a1, .int .i64 a2, .bool a3] w fun e w'=>e=.returned (.bool r)∧Below w.heap.size w w':=by
 induction k using Nat.strongRecOn with
 | _ k ih =>
 intro A0 c0 l0 a1 a2 a3 r w hr0 hc0 h
 cases k with
 | zero=>exact absurd h (by simp [jk.f])
 | succ k =>
 simp only [jk.f] at h
 have HR0:=am hr0
 have HC0:=am hc0
 clear hr0 hc0
 have HB:=am (Below.refl w.heap.size w)
 have H:((jAa.f k l0 a1 a2).bind fun t257=>(jk.l0 k l0 a3 t257 0))=some r:=h
 clear h
 replace H:=bzS H
 obtain ⟨t257,A50,H⟩:=H
 replace H:(jk.l0 k l0 a3 t257 0)=some r:=H
 have A5:=am A50
 clear A50
 have H':=am H
 clear H
 go_enter Try.func47,Try.ntmps47
 go_wp2_with (first |((with_reducible refine jg (f:=76) rfl ?_);refine gL (some 19) Try.func76 #[.slice A0 l0.length c0, .int .i64 a1, .int .i64 a2] ?_;(with_reducible refine (jAa.calls k _ _ l0 a1 a2 t257 _ ?side1 ?side2 A5.out).mono ?_);(case side1=>exact Y31);(case side2=>exact HC0.out);rintro e w6 ⟨v258,rfl,ho0,hb⟩;refine ⟨_,rfl,?_⟩;have HO259:=am (Kd.jX ho0 (jda (bq)));replace HB:=am (ji (bq) hb);(try clear hb);(try clear hb2);(try clear hk);(try clear hi);(try clear ho0)))
 go_loopg [10] k (fun kq v10 w'=>∃ (x10_1:Int),v10=.int .i64 x10_1∧jl (jk.l0 kq l0 a3 t257 x10_1=some r)∧jl (kq≤k)∧jl (Kd.R (Kd.int .i64) 3 w' w.heap.size (fun _=>True) v258 t257)∧jl (Below w.heap.size w w'))
 case atStart=>exact ⟨(0),(sq),H',⟨Nat.le_refl _⟩,⟨rq HO259.out⟩,⟨bq⟩⟩
 case round =>
  clear H'
  try clear p2
  try clear c4
  obtain ⟨x10_1,rfl,HA,HK1,HO_9,HB⟩:=hrel
  cases gk with
  | zero=>exact absurd HA.out (by simp [jk.l0])
  | succ k1 =>
   have H:=HA.out
   clear HA
   simp only [jk.l0] at H
   by_cases c7:x10_1<(t257.length:Int)
   ·rw [if_pos c7] at H
    have c7b0:decide (x10_1<(t257.length:Int))=true:=dzT c7
    clear c7
    by_cases c8:0≤x10_1
    ·rw [if_pos c8] at H
     have c8b0:decide (0≤x10_1)=true:=dzT c8
     clear c8
     by_cases c9:0≤(rd t257 x10_1)
     ·rw [if_pos c9] at H
      have c9b0:decide (0≤(rd t257 x10_1))=true:=dzT c9
      clear c9
      by_cases c10:(rd t257 x10_1)<(l0.length:Int)
      ·rw [if_pos c10] at H
       have c10b0:decide ((rd t257 x10_1)<(l0.length:Int))=true:=dzT c10
       clear c10
       have HC11:=am H
       clear H
       obtain ⟨Ao12,co12,eo12⟩:=Kd.jaa HO_9.out
       subst eo12
       have p260:0≤(x10_1:Int):=ozD (uq)
       have q260:x10_1<(t257.length:Int):=ozD (uq)
       obtain ⟨ad260,e260,hx260_0⟩:=Kd.jyb (Kd.jm HO_9.out).2.2 x10_1 p260 q260
       cases e260
       replace p260:=ezT p260
       replace q260:=ezT q260
       have p261:0≤((rd t257 x10_1):Int):=ozD (uq)
       have q261:(rd t257 x10_1)<(l0.length:Int):=ozD (uq)
       obtain ⟨ad261,e261,hx261_0,hx261_1,hx261_2,hx261_3⟩:=jza HR0.out (rd t257 x10_1) p261 q261
       cases e261
       replace hx261_0:=cb HB.out hx261_0
       replace hx261_1:=cb HB.out hx261_1
       replace hx261_2:=cb HB.out hx261_2
       replace hx261_3:=cb HB.out hx261_3
       replace p261:=ezT p261
       replace q261:=ezT q261
       go_upto_if 36 with (fail)
       go_cut [36] (fun v36 wc=>∃ (kq:Nat) (x36_10:Bool),v36=.bool x36_10∧jl (jk.j1 kq l0 a3 t257 x10_1 (rd t257 x10_1) ((jd l0 (rd t257 x10_1)).f1) ((jd l0 (rd t257 x10_1)).f1) x36_10=some r)∧jl (kq≤k1)∧jl (Kd.R (Kd.int .i64) 3 wc w.heap.size (fun _=>True) (.slice (some ad260) t257.length co12) t257)∧jl (Below w.heap.size w wc))
       case first =>
        have H:=HC11.out
        clear HC11
        by_cases c13:((jd l0 (rd t257 x10_1)).f1)=5
        ·rw [if_pos c13] at H
         have c13b0:(((jd l0 (rd t257 x10_1)).f1) == 5)=true:=beq_iff_eq.mpr c13
         have c13b1:(((jd l0 (rd t257 x10_1)).f1) != 5)=false:=bne_eq_false_iff_eq.mpr c13
         clear c13
         (first | rw [c13b0] |(simp only [jeb,jhb];rw [c13b0]) | skip)
         have H':=am H
         clear H
         go_wp2
         go_meet
         case rel=>exact ⟨_,((((jd l0 (rd t257 x10_1)).f1) == 5)),(sq),H',⟨by have:=HK1.out;first | omega | exact Nat.le_refl _⟩,⟨rq HO_9.out⟩,⟨bq⟩⟩
        ·rw [if_neg c13] at H
         have c13b0:(((jd l0 (rd t257 x10_1)).f1) == 5)=false:=beq_eq_false_iff_ne.mpr c13
         have c13b1:(((jd l0 (rd t257 x10_1)).f1) != 5)=true:=bne_iff_ne.mpr c13
         (first | rw [c13b0] |(simp only [jeb,jhb];rw [c13b0]) | skip)
         have H':=am H
         clear H
         go_wp2
         go_meet
         case rel=>exact ⟨_,((((jd l0 (rd t257 x10_1)).f1) == 6)),(sq),H',⟨by have:=HK1.out;first | omega | exact Nat.le_refl _⟩,⟨rq HO_9.out⟩,⟨bq⟩⟩
       case rest =>
        clear HC11
        try clear c1
        try clear p2
        try clear q2
        try clear hx2
        try clear c4
        try clear c7
        try clear c7b0
        try clear c8
        try clear c8b0
        try clear c9
        try clear c9b0
        try clear c10
        try clear c10b0
        try clear c13
        try clear c13b0
        try clear c13b1
        try clear hx260_0
        try clear hx261_0
        try clear hx261_1
        try clear hx261_2
        try clear hx261_3
        try clear p2
        try clear p260
        try clear p261
        try clear q260
        try clear q261
        obtain ⟨kq,x36_10,rfl,HA,HJ10,HO_9,HB⟩:=hcut
        cases kq with
        | zero=>exact absurd HA.out (by simp [jk.j1])
        | succ kj10 =>
         have H:=HA.out
         clear HA
         simp only [jk.j1] at H
         by_cases c14:x36_10=true
         ·subst c14
          have H1:(if a3=true then (jk.l0 kj10 l0 a3 t257 (wrap64 (x10_1+1))) else (some false))=some r:=by rw [if_pos rfl] at H;exact H
          clear H
          have H:=H1
          clear H1
          by_cases c15:a3=true
          ·subst c15
           have H1:(jk.l0 kj10 l0 true t257 (wrap64 (x10_1+1)))=some r:=by rw [if_pos rfl] at H;exact H
           clear H
           have H:=H1
           clear H1
           have H':=am H
           clear H
           go_wp2
           go_roundg kj10
           case measure=>have:=HK1.out;have:=HJ10.out;omega
           case rel=>exact ⟨(wrap64 (x10_1+1)),(sq),H',⟨by have:=HK1.out;have:=HJ10.out;omega⟩,⟨rq HO_9.out⟩,⟨bq⟩⟩
          ·replace c15:=Bool.eq_false_iff.mpr c15
           subst c15
           have H1:(some false)=some r:=by rw [if_neg (show ¬ (false=true) by decide)] at H;exact H
           clear H
           have H:=H1
           clear H1
           obtain rfl:=Option.some.inj H
           go_wp2
           go_ret
           exact ⟨Y0,bq⟩
         ·replace c14:=Bool.eq_false_iff.mpr c14
          subst c14
          have H1:(if ((jd l0 (rd t257 x10_1)).f1)=8 then (jk.j2 kj10 l0 a3 t257 x10_1 (rd t257 x10_1) ((jd l0 (rd t257 x10_1)).f1) ((jd l0 (rd t257 x10_1)).f1) (((jd l0 (rd t257 x10_1)).f1) == 8)) else (if ((jd l0 (rd t257 x10_1)).f1)=9 then (jk.j2 kj10 l0 a3 t257 x10_1 (rd t257 x10_1) ((jd l0 (rd t257 x10_1)).f1) ((jd l0 (rd t257 x10_1)).f1) (((jd l0 (rd t257 x10_1)).f1) == 9)) else (jk.j2 kj10 l0 a3 t257 x10_1 (rd t257 x10_1) ((jd l0 (rd t257 x10_1)).f1) ((jd l0 (rd t257 x10_1)).f1) (((jd l0 (rd t257 x10_1)).f1) == 10))))=some r:=by rw [if_neg (show ¬ (false=true) by decide)] at H;exact H
          clear H
          have H:=H1
          clear H1
          have HC16:=am H
          clear H
          go_upto_if 41 with (fail)
          go_cut [41] (fun v41 wc=>∃ (kq:Nat) (x41_15:Bool),v41=.bool x41_15∧jl (jk.j2 kq l0 a3 t257 x10_1 (rd t257 x10_1) ((jd l0 (rd t257 x10_1)).f1) ((jd l0 (rd t257 x10_1)).f1) x41_15=some r)∧jl (kq≤kj10)∧jl (Kd.R (Kd.int .i64) 3 wc w.heap.size (fun _=>True) (.slice (some ad260) t257.length co12) t257)∧jl (Below w.heap.size w wc))
          case first =>
           have H:=HC16.out
           clear HC16
           by_cases c17:((jd l0 (rd t257 x10_1)).f1)=8
           ·rw [if_pos c17] at H
            have c17b0:(((jd l0 (rd t257 x10_1)).f1) == 8)=true:=beq_iff_eq.mpr c17
            have c17b1:(((jd l0 (rd t257 x10_1)).f1) != 8)=false:=bne_eq_false_iff_eq.mpr c17
            clear c17
            (first | rw [c17b0] |(simp only [jeb,jhb];rw [c17b0]) | skip)
            have H':=am H
            clear H
            go_wp2
            go_meet
            case rel=>exact ⟨_,((((jd l0 (rd t257 x10_1)).f1) == 8)),(sq),H',⟨by have:=HK1.out;have:=HJ10.out;first | omega | exact Nat.le_refl _⟩,⟨rq HO_9.out⟩,⟨bq⟩⟩
           ·rw [if_neg c17] at H
            have c17b0:(((jd l0 (rd t257 x10_1)).f1) == 8)=false:=beq_eq_false_iff_ne.mpr c17
            have c17b1:(((jd l0 (rd t257 x10_1)).f1) != 8)=true:=bne_iff_ne.mpr c17
            (first | rw [c17b0] |(simp only [jeb,jhb];rw [c17b0]) | skip)
            by_cases c18:((jd l0 (rd t257 x10_1)).f1)=9
            ·rw [if_pos c18] at H
             have c18b0:(((jd l0 (rd t257 x10_1)).f1) == 9)=true:=beq_iff_eq.mpr c18
             have c18b1:(((jd l0 (rd t257 x10_1)).f1) != 9)=false:=bne_eq_false_iff_eq.mpr c18
             clear c18
             have H':=am H
             clear H
             go_wp2
             go_meet
             case rel=>exact ⟨_,((((jd l0 (rd t257 x10_1)).f1) == 9)),(sq),H',⟨by have:=HK1.out;have:=HJ10.out;first | omega | exact Nat.le_refl _⟩,⟨rq HO_9.out⟩,⟨bq⟩⟩
            ·rw [if_neg c18] at H
             have c18b0:(((jd l0 (rd t257 x10_1)).f1) == 9)=false:=beq_eq_false_iff_ne.mpr c18
             have c18b1:(((jd l0 (rd t257 x10_1)).f1) != 9)=true:=bne_iff_ne.mpr c18
             have H':=am H
             clear H
             go_wp2
             go_meet
             case rel=>exact ⟨_,((((jd l0 (rd t257 x10_1)).f1) == 10)),(sq),H',⟨by have:=HK1.out;have:=HJ10.out;first | omega | exact Nat.le_refl _⟩,⟨rq HO_9.out⟩,⟨bq⟩⟩
          case rest =>
           clear HC16
           try clear c1
           try clear p2
           try clear q2
           try clear hx2
           try clear c4
           try clear p6
           try clear c7
           try clear c7b0
           try clear c8
           try clear c8b0
           try clear c9
           try clear c9b0
           try clear c10
           try clear c10b0
           try clear c13
           try clear c13b0
           try clear c13b1
           try clear c14
           try clear c15
           try clear c17
           try clear c17b0
           try clear c17b1
           try clear c18
           try clear c18b0
           try clear c18b1
           try clear hx260_0
           try clear hx261_0
           try clear hx261_1
           try clear hx261_2
           try clear hx261_3
           try clear p2
           try clear p260
           try clear p261
           try clear q2
           try clear q260
           try clear q261
           obtain ⟨kq,x41_15,rfl,HA,HJ15,HO_9,HB⟩:=hcut
           cases kq with
           | zero=>exact absurd HA.out (by simp [jk.j2])
           | succ kj15 =>
            have H:=HA.out
            clear HA
            simp only [jk.j2] at H
            by_cases c19:x41_15=true
            ·subst c19
             have H1:(some false)=some r:=by rw [if_pos rfl] at H;exact H
             clear H
             have H:=H1
             clear H1
             obtain rfl:=Option.some.inj H
             go_wp2
             go_ret
             exact ⟨Y0,bq⟩
            ·replace c19:=Bool.eq_false_iff.mpr c19
             subst c19
             have H1:(if ((jd l0 (rd t257 x10_1)).f1)=7 then ((jZ.f kj15 l0 (rd t257 x10_1)).bind fun t262=>((jHa.f l0 t262).bind fun t265=>(if t265=true then (jk.l1 kj15 l0 a3 t257 x10_1 t262 t262 (t262.length:Int) 0) else (some false)))) else (if ((jd l0 (rd t257 x10_1)).f1)=11 then (jk.j4 kj15 l0 a3 t257 x10_1 (rd t257 x10_1) ((jd l0 (rd t257 x10_1)).f1) (((jd l0 (rd t257 x10_1)).f1) == 11)) else (jk.j4 kj15 l0 a3 t257 x10_1 (rd t257 x10_1) ((jd l0 (rd t257 x10_1)).f1) (((jd l0 (rd t257 x10_1)).f1) == 12))))=some r:=by rw [if_neg (show ¬ (false=true) by decide)] at H;exact H
             clear H
             have H:=H1
             clear H1
             by_cases c20:((jd l0 (rd t257 x10_1)).f1)=7
             ·rw [if_pos c20] at H
              have c20b0:(((jd l0 (rd t257 x10_1)).f1) == 7)=true:=beq_iff_eq.mpr c20
              have c20b1:(((jd l0 (rd t257 x10_1)).f1) != 7)=false:=bne_eq_false_iff_eq.mpr c20
              clear c20
              replace H:=bzS H
              obtain ⟨t262,A210,H⟩:=H
              replace H:((jHa.f l0 t262).bind fun t265=>(if t265=true then (jk.l1 kj15 l0 a3 t257 x10_1 t262 t262 (t262.length:Int) 0) else (some false)))=some r:=H
              have A21:=am A210
              clear A210
              replace H:=bzS H
              obtain ⟨t265,A220,H⟩:=H
              replace H:(if t265=true then (jk.l1 kj15 l0 a3 t257 x10_1 t262 t262 (t262.length:Int) 0) else (some false))=some r:=H
              have A22:=am A220
              clear A220
              by_cases c23:t265=true
              ·subst c23
               have H1:(jk.l1 kj15 l0 a3 t257 x10_1 t262 t262 (t262.length:Int) 0)=some r:=by rw [if_pos rfl] at H;exact H
               clear H
               have H:=H1
               clear H1
               have H':=am H
               clear H
               go_wp2_with (first |((with_reducible refine jg (f:=35) rfl ?_);refine gL (some 49) Try.func35 #[.slice (some ad261) l0.length c0, .int .i64 (rd t257 x10_1)] ?_;(with_reducible refine (jZ.calls kj15 _ _ l0 (rd t257 x10_1) t262 _ ?side1 ?side2 A21.out).mono ?_);(case side1=>exact cq (Kd.jka HR0.out HB.out));(case side2=>exact HC0.out);rintro e w24 ⟨v263,rfl,ho0,hb⟩;refine ⟨_,rfl,?_⟩;have HO264:=am (Kd.jX (Kd.jEb ho0 (Kd.R_lt (rq HO_9.out))) (jda (bq)));replace HO_9:=am (Kd.jKb (rq HO_9.out) (Kd.jGb ho0) hb);replace HB:=am (ji (bq) hb);(try clear hb);(try clear hb2);(try clear hk);(try clear hi);(try clear ho0);obtain ⟨Ao25,co25,eo25⟩:=Kd.jaa HO264.out;subst eo25) |((with_reducible refine jg (f:=77) rfl ?_);refine gL (some 52) Try.func77 #[.slice (some ad261) l0.length c0, .slice Ao25 t262.length co25] ?_;(with_reducible refine (jHa.calls _ _ l0 _ _ t262 true _ ?side1 ?side2 ?side3 ?side4 A22.out).mono ?_);(case side1=>exact cq (Kd.jka HR0.out HB.out));(case side2=>exact HC0.out);(case side3=>exact cq (Kd.jm HO264.out).2.2);(case side4=>exact (Kd.jm HO264.out).2.1);rintro e w' ⟨rfl,⟨nd,rfl⟩⟩;refine ⟨_,rfl,?_⟩))
               go_loopg [56] kj15 (fun kq v56 w'=>∃ (x56_4:Int),v56=.int .i64 x56_4∧jl (jk.l1 kq l0 a3 t257 x10_1 t262 t262 (t262.length:Int) x56_4=some r)∧jl (kq≤kj15)∧jl (Kd.R (Kd.int .i64) 3 w' w.heap.size (fun k_=>some k_≠((.slice Ao25 t262.length co25):Value).ownBlock∧some k_≠((.slice Ao25 t262.length co25):Value).ownBlock) (.slice (some ad260) t257.length co12) t257)∧jl (Kd.R (Kd.int .i64) 3 w' w.heap.size (fun k_=>some k_≠((.slice (some ad260) t257.length co12):Value).ownBlock) (.slice Ao25 t262.length co25) t262)∧jl (Kd.R (Kd.int .i64) 3 w' w.heap.size (fun k_=>some k_≠((.slice (some ad260) t257.length co12):Value).ownBlock) (.slice Ao25 t262.length co25) t262)∧jl (Below w.heap.size w w'))
               case atStart=>exact ⟨(0),(sq),H',⟨Nat.le_refl _⟩,⟨by (with_reducible repeat (first | apply Kd.jba | apply Kd.jea | apply Kd.jma));exact Kd.jI HO_9.out (fun _ hk=>⟨hk.2,hk.2⟩)⟩,⟨by (with_reducible repeat (first | apply Kd.jba | apply Kd.jea | apply Kd.jma));exact Kd.jI HO264.out (fun _ hk=>hk.2)⟩,⟨by (with_reducible repeat (first | apply Kd.jba | apply Kd.jea | apply Kd.jma));exact Kd.jI HO264.out (fun _ hk=>hk.2)⟩,⟨bq⟩⟩
               case round =>
                clear H'
                try clear c1
                try clear c2
                try clear p2
                try clear q2
                try clear hx2
                try clear c3
                try clear c4
                try clear p6
                try clear c7
                try clear c7b0
                try clear c8
                try clear c8b0
                try clear c9
                try clear c9b0
                try clear c10
                try clear c10b0
                try clear c13
                try clear c13b0
                try clear c13b1
                try clear c14
                try clear c15
                try clear c17
                try clear c17b0
                try clear c17b1
                try clear c18
                try clear c18b0
                try clear c18b1
                try clear c19
                try clear c20
                try clear c20b0
                try clear c20b1
                try clear c23
                try clear hx260_0
                try clear hx261_0
                try clear hx261_1
                try clear hx261_2
                try clear hx261_3
                try clear p2
                try clear p260
                try clear p261
                try clear p6
                try clear q2
                try clear q260
                try clear q261
                obtain ⟨x56_4,rfl,HA,HK4,HO_9,HO_13,HO_54,HB⟩:=hrel
                cases gk with
                | zero=>exact absurd HA.out (by simp [jk.l1])
                | succ k4 =>
                 have H:=HA.out
                 clear HA
                 simp only [jk.l1] at H
                 by_cases c26:x56_4<(t262.length:Int)
                 ·rw [if_pos c26] at H
                  have c26b0:decide (x56_4<(t262.length:Int))=true:=dzT c26
                  clear c26
                  by_cases c27:0≤x56_4
                  ·rw [if_pos c27] at H
                   have c27b0:decide (0≤x56_4)=true:=dzT c27
                   clear c27
                   by_cases c28:x56_4<(t262.length:Int)
                   ·rw [if_pos c28] at H
                    have c28b0:decide (x56_4<(t262.length:Int))=true:=dzT c28
                    clear c28
                    replace H:=bzS H
                    obtain ⟨t267,A290,H⟩:=H
                    replace H:((jk.f k4 l0 (wrap64 ((rd t262 x56_4)+1)) t267 a3).bind fun t268=>(if t268=true then (jk.l1 k4 l0 a3 t257 x10_1 t262 t262 (t262.length:Int) (wrap64 (x56_4+1))) else (some false)))=some r:=H
                    have A29:=am A290
                    clear A290
                    replace H:=bzS H
                    obtain ⟨t268,A300,H⟩:=H
                    replace H:(if t268=true then (jk.l1 k4 l0 a3 t257 x10_1 t262 t262 (t262.length:Int) (wrap64 (x56_4+1))) else (some false))=some r:=H
                    have A30:=am A300
                    clear A300
                    by_cases c31:t268=true
                    ·subst c31
                     have H1:(jk.l1 k4 l0 a3 t257 x10_1 t262 t262 (t262.length:Int) (wrap64 (x56_4+1)))=some r:=by rw [if_pos rfl] at H;exact H
                     clear H
                     have H:=H1
                     clear H1
                     have H':=am H
                     clear H
                     have p266:0≤(x56_4:Int):=ozD (uq)
                     have q266:x56_4<(t262.length:Int):=ozD (uq)
                     obtain ⟨ad266,e266,hx266_0⟩:=Kd.jyb (Kd.jm HO_54.out).2.2 x56_4 p266 q266
                     cases e266
                     replace p266:=ezT p266
                     replace q266:=ezT q266
                     go_wp2_with (first |((with_reducible refine jg (f:=34) rfl ?_);refine gL (some 65) Try.func34 #[.slice (some ad261) l0.length c0, .int .i64 (rd t262 x56_4)] ?_;(with_reducible refine (jla.calls k4 _ _ l0 (rd t262 x56_4) t267 _ ?side1 ?side2 A29.out).mono ?_);(case side1=>exact cq (Kd.jka HR0.out HB.out));(case side2=>exact HC0.out);rintro e w' ⟨rfl,⟨nd,rfl⟩⟩;refine ⟨_,rfl,?_⟩) |((with_reducible refine jg (f:=47) rfl ?_);refine gL (some 67) Try.func47 #[.slice (some ad261) l0.length c0, .int .i64 (wrap64 ((rd t262 x56_4)+1)), .int .i64 t267, .bool a3] ?_;(with_reducible refine (ih k4 (by have:=HK1.out;have:=HJ10.out;have:=HJ15.out;have:=HK4.out;omega) _ _ l0 (wrap64 ((rd t262 x56_4)+1)) t267 a3 true _ ?side1 ?side2 A30.out).mono ?_);(case side1=>exact cq (Kd.jka HR0.out (bq)));(case side2=>exact HC0.out);rintro e w32 ⟨rfl,hb⟩;refine ⟨_,rfl,?_⟩;replace HO_9:=am (Kd.jja (rq HO_9.out) hb);replace HO_13:=am (Kd.jja (rq HO_13.out) hb);replace HO_54:=am (Kd.jja (rq HO_54.out) hb);replace HB:=am (ji (bq) hb);(try clear hb);(try clear hb2);(try clear hk);(try clear hi)))
                     go_roundg k4
                     case measure=>have:=HK1.out;have:=HJ10.out;have:=HJ15.out;have:=HK4.out;omega
                     case rel=>exact ⟨(wrap64 (x56_4+1)),(sq),H',⟨by have:=HK1.out;have:=HJ10.out;have:=HJ15.out;have:=HK4.out;omega⟩,⟨rq HO_9.out⟩,⟨rq HO_13.out⟩,⟨rq HO_54.out⟩,⟨bq⟩⟩
                    ·replace c31:=Bool.eq_false_iff.mpr c31
                     subst c31
                     have H1:(some false)=some r:=by rw [if_neg (show ¬ (false=true) by decide)] at H;exact H
                     clear H
                     have H:=H1
                     clear H1
                     obtain rfl:=Option.some.inj H
                     have p266:0≤(x56_4:Int):=ozD (uq)
                     have q266:x56_4<(t262.length:Int):=ozD (uq)
                     obtain ⟨ad266,e266,hx266_0⟩:=Kd.jyb (Kd.jm HO_54.out).2.2 x56_4 p266 q266
                     cases e266
                     replace p266:=ezT p266
                     replace q266:=ezT q266
                     go_wp2_with (first |((with_reducible refine jg (f:=34) rfl ?_);refine gL (some 65) Try.func34 #[.slice (some ad261) l0.length c0, .int .i64 (rd t262 x56_4)] ?_;(with_reducible refine (jla.calls k4 _ _ l0 (rd t262 x56_4) t267 _ ?side1 ?side2 A29.out).mono ?_);(case side1=>exact cq (Kd.jka HR0.out HB.out));(case side2=>exact HC0.out);rintro e w' ⟨rfl,⟨nd,rfl⟩⟩;refine ⟨_,rfl,?_⟩) |((with_reducible refine jg (f:=47) rfl ?_);refine gL (some 67) Try.func47 #[.slice (some ad261) l0.length c0, .int .i64 (wrap64 ((rd t262 x56_4)+1)), .int .i64 t267, .bool a3] ?_;(with_reducible refine (ih k4 (by have:=HK1.out;have:=HJ10.out;have:=HJ15.out;have:=HK4.out;omega) _ _ l0 (wrap64 ((rd t262 x56_4)+1)) t267 a3 false _ ?side1 ?side2 A30.out).mono ?_);(case side1=>exact cq (Kd.jka HR0.out (bq)));(case side2=>exact HC0.out);rintro e w33 ⟨rfl,hb⟩;refine ⟨_,rfl,?_⟩;replace HO_9:=am (Kd.jja (rq HO_9.out) hb);replace HO_13:=am (Kd.jja (rq HO_13.out) hb);replace HO_54:=am (Kd.jja (rq HO_54.out) hb);replace HB:=am (ji (bq) hb);(try clear hb);(try clear hb2);(try clear hk);(try clear hi)))
                     go_ret
                     exact ⟨Y0,bq⟩
                   ·rw [if_neg c28] at H
                    exact absurd H (by simp)
                  ·rw [if_neg c27] at H
                   exact absurd H (by simp)
                 ·rw [if_neg c26] at H
                  have c26b0:decide (x56_4<(t262.length:Int))=false:=dzF c26
                  clear c26
                  have H':=am H
                  clear H
                  go_wp2
                  go_roundg k4
                  case measure=>have:=HK1.out;have:=HJ10.out;have:=HJ15.out;have:=HK4.out;omega
                  case rel=>exact ⟨(wrap64 ((wrap64 (x10_1+(wrap64 ((t262.length:Int) - 1))))+1)),(sq),H',⟨by have:=HK1.out;have:=HJ10.out;have:=HJ15.out;have:=HK4.out;omega⟩,⟨by (with_reducible repeat (first | apply Kd.jba | apply Kd.jea | apply Kd.jma));exact Kd.jI HO_9.out (fun _ hk=>trivial)⟩,⟨bq⟩⟩
              ·replace c23:=Bool.eq_false_iff.mpr c23
               subst c23
               have H1:(some false)=some r:=by rw [if_neg (show ¬ (false=true) by decide)] at H;exact H
               clear H
               have H:=H1
               clear H1
               obtain rfl:=Option.some.inj H
               go_wp2_with (first |((with_reducible refine jg (f:=35) rfl ?_);refine gL (some 49) Try.func35 #[.slice (some ad261) l0.length c0, .int .i64 (rd t257 x10_1)] ?_;(with_reducible refine (jZ.calls kj15 _ _ l0 (rd t257 x10_1) t262 _ ?side1 ?side2 A21.out).mono ?_);(case side1=>exact cq (Kd.jka HR0.out HB.out));(case side2=>exact HC0.out);rintro e w34 ⟨v263,rfl,ho0,hb⟩;refine ⟨_,rfl,?_⟩;have HO264:=am (Kd.jX (Kd.jEb ho0 (Kd.R_lt (rq HO_9.out))) (jda (bq)));replace HO_9:=am (Kd.jKb (rq HO_9.out) (Kd.jGb ho0) hb);replace HB:=am (ji (bq) hb);(try clear hb);(try clear hb2);(try clear hk);(try clear hi);(try clear ho0);obtain ⟨Ao35,co35,eo35⟩:=Kd.jaa HO264.out;subst eo35) |((with_reducible refine jg (f:=77) rfl ?_);refine gL (some 52) Try.func77 #[.slice (some ad261) l0.length c0, .slice Ao35 t262.length co35] ?_;(with_reducible refine (jHa.calls _ _ l0 _ _ t262 false _ ?side1 ?side2 ?side3 ?side4 A22.out).mono ?_);(case side1=>exact cq (Kd.jka HR0.out HB.out));(case side2=>exact HC0.out);(case side3=>exact cq (Kd.jm HO264.out).2.2);(case side4=>exact (Kd.jm HO264.out).2.1);rintro e w' ⟨rfl,⟨nd,rfl⟩⟩;refine ⟨_,rfl,?_⟩))
               go_ret
               exact ⟨Y0,bq⟩
             ·rw [if_neg c20] at H
              have c20b0:(((jd l0 (rd t257 x10_1)).f1) == 7)=false:=beq_eq_false_iff_ne.mpr c20
              have c20b1:(((jd l0 (rd t257 x10_1)).f1) != 7)=true:=bne_iff_ne.mpr c20
              have HC36:=am H
              clear H
              go_upto_if 75 with (fail)
              go_cut [75] (fun v75 wc=>∃ (kq:Nat) (x75_35:Bool),v75=.bool x75_35∧jl (jk.j4 kq l0 a3 t257 x10_1 (rd t257 x10_1) ((jd l0 (rd t257 x10_1)).f1) x75_35=some r)∧jl (kq≤kj15)∧jl (Kd.R (Kd.int .i64) 3 wc w.heap.size (fun _=>True) (.slice (some ad260) t257.length co12) t257)∧jl (Below w.heap.size w wc))
              case first =>
               have H:=HC36.out
               clear HC36
               by_cases c37:((jd l0 (rd t257 x10_1)).f1)=11
               ·rw [if_pos c37] at H
                have c37b0:(((jd l0 (rd t257 x10_1)).f1) == 11)=true:=beq_iff_eq.mpr c37
                have c37b1:(((jd l0 (rd t257 x10_1)).f1) != 11)=false:=bne_eq_false_iff_eq.mpr c37
                clear c37
                (first | rw [c37b0] |(simp only [jeb,jhb];rw [c37b0]) | skip)
                have H':=am H
                clear H
                go_wp2
                go_meet
                case rel=>exact ⟨_,((((jd l0 (rd t257 x10_1)).f1) == 11)),(sq),H',⟨by have:=HK1.out;have:=HJ10.out;have:=HJ15.out;first | omega | exact Nat.le_refl _⟩,⟨rq HO_9.out⟩,⟨bq⟩⟩
               ·rw [if_neg c37] at H
                have c37b0:(((jd l0 (rd t257 x10_1)).f1) == 11)=false:=beq_eq_false_iff_ne.mpr c37
                have c37b1:(((jd l0 (rd t257 x10_1)).f1) != 11)=true:=bne_iff_ne.mpr c37
                (first | rw [c37b0] |(simp only [jeb,jhb];rw [c37b0]) | skip)
                have H':=am H
                clear H
                go_wp2
                go_meet
                case rel=>exact ⟨_,((((jd l0 (rd t257 x10_1)).f1) == 12)),(sq),H',⟨by have:=HK1.out;have:=HJ10.out;have:=HJ15.out;first | omega | exact Nat.le_refl _⟩,⟨rq HO_9.out⟩,⟨bq⟩⟩
              case rest =>
               clear HC36
               try clear c1
               try clear c2
               try clear p2
               try clear q2
               try clear hx2
               try clear c3
               try clear c4
               try clear p6
               try clear c7
               try clear c7b0
               try clear c8
               try clear c8b0
               try clear c9
               try clear c9b0
               try clear c10
               try clear c10b0
               try clear c13
               try clear c13b0
               try clear c13b1
               try clear c14
               try clear c15
               try clear c17
               try clear c17b0
               try clear c17b1
               try clear c18
               try clear c18b0
               try clear c18b1
               try clear c19
               try clear c20
               try clear c20b0
               try clear c20b1
               try clear c23
               try clear c26
               try clear c26b0
               try clear p26
               try clear q26
               try clear hx26
               try clear c27
               try clear c27b0
               try clear c28
               try clear c28b0
               try clear c31
               try clear c34
               try clear c35
               try clear c37
               try clear c37b0
               try clear c37b1
               try clear hx260_0
               try clear hx261_0
               try clear hx261_1
               try clear hx261_2
               try clear hx261_3
               try clear hx266_0
               try clear p2
               try clear p260
               try clear p261
               try clear p266
               try clear p6
               try clear q2
               try clear q260
               try clear q261
               try clear q266
               obtain ⟨kq,x75_35,rfl,HA,HJ35,HO_9,HB⟩:=hcut
               cases kq with
               | zero=>exact absurd HA.out (by simp [jk.j4])
               | succ kj35 =>
                have H:=HA.out
                clear HA
                simp only [jk.j4] at H
                by_cases c38:x75_35=true
                ·subst c38
                 have H1:((jla.f kj35 l0 (rd t257 x10_1)).bind fun t269=>(if a3=true then ((jk.f kj35 l0 (wrap64 ((rd t257 x10_1)+1)) t269 true).bind fun t270=>(if t270=true then (jk.l0 kj35 l0 a3 t257 (wrap64 (x10_1+1))) else (some false))) else ((jk.f kj35 l0 (wrap64 ((rd t257 x10_1)+1)) t269 (((jd l0 (rd t257 x10_1)).f1) == 12)).bind fun t271=>(if t271=true then (jk.l0 kj35 l0 a3 t257 (wrap64 (x10_1+1))) else (some false)))))=some r:=by rw [if_pos rfl] at H;exact H
                 clear H
                 have H:=H1
                 clear H1
                 replace H:=bzS H
                 obtain ⟨t269,A390,H⟩:=H
                 replace H:(if a3=true then ((jk.f kj35 l0 (wrap64 ((rd t257 x10_1)+1)) t269 true).bind fun t270=>(if t270=true then (jk.l0 kj35 l0 a3 t257 (wrap64 (x10_1+1))) else (some false))) else ((jk.f kj35 l0 (wrap64 ((rd t257 x10_1)+1)) t269 (((jd l0 (rd t257 x10_1)).f1) == 12)).bind fun t271=>(if t271=true then (jk.l0 kj35 l0 a3 t257 (wrap64 (x10_1+1))) else (some false))))=some r:=H
                 have A39:=am A390
                 clear A390
                 by_cases c40:a3=true
                 ·subst c40
                  have H1:((jk.f kj35 l0 (wrap64 ((rd t257 x10_1)+1)) t269 true).bind fun t270=>(if t270=true then (jk.l0 kj35 l0 true t257 (wrap64 (x10_1+1))) else (some false)))=some r:=by rw [if_pos rfl] at H;exact H
                  clear H
                  have H:=H1
                  clear H1
                  replace H:=bzS H
                  obtain ⟨t270,A410,H⟩:=H
                  replace H:(if t270=true then (jk.l0 kj35 l0 true t257 (wrap64 (x10_1+1))) else (some false))=some r:=H
                  have A41:=am A410
                  clear A410
                  by_cases c42:t270=true
                  ·subst c42
                   have H1:(jk.l0 kj35 l0 true t257 (wrap64 (x10_1+1)))=some r:=by rw [if_pos rfl] at H;exact H
                   clear H
                   have H:=H1
                   clear H1
                   have H':=am H
                   clear H
                   go_wp2_with (first |((with_reducible refine jg (f:=34) rfl ?_);refine gL (some 83) Try.func34 #[.slice (some ad261) l0.length c0, .int .i64 (rd t257 x10_1)] ?_;(with_reducible refine (jla.calls kj35 _ _ l0 (rd t257 x10_1) t269 _ ?side1 ?side2 A39.out).mono ?_);(case side1=>exact cq (Kd.jka HR0.out HB.out));(case side2=>exact HC0.out);rintro e w' ⟨rfl,⟨nd,rfl⟩⟩;refine ⟨_,rfl,?_⟩) |((with_reducible refine jg (f:=47) rfl ?_);refine gL (some 89) Try.func47 #[.slice (some ad261) l0.length c0, .int .i64 (wrap64 ((rd t257 x10_1)+1)), .int .i64 t269, .bool true] ?_;(with_reducible refine (ih kj35 (by have:=HK1.out;have:=HJ10.out;have:=HJ15.out;have:=HJ35.out;omega) _ _ l0 (wrap64 ((rd t257 x10_1)+1)) t269 true true _ ?side1 ?side2 A41.out).mono ?_);(case side1=>exact cq (Kd.jka HR0.out (bq)));(case side2=>exact HC0.out);rintro e w43 ⟨rfl,hb⟩;refine ⟨_,rfl,?_⟩;replace HO_9:=am (Kd.jja (rq HO_9.out) hb);replace HB:=am (ji (bq) hb);(try clear hb);(try clear hb2);(try clear hk);(try clear hi)))
                   go_roundg kj35
                   case measure=>have:=HK1.out;have:=HJ10.out;have:=HJ15.out;have:=HJ35.out;omega
                   case rel=>exact ⟨(wrap64 (x10_1+1)),(sq),H',⟨by have:=HK1.out;have:=HJ10.out;have:=HJ15.out;have:=HJ35.out;omega⟩,⟨rq HO_9.out⟩,⟨bq⟩⟩
                  ·replace c42:=Bool.eq_false_iff.mpr c42
                   subst c42
                   have H1:(some false)=some r:=by rw [if_neg (show ¬ (false=true) by decide)] at H;exact H
                   clear H
                   have H:=H1
                   clear H1
                   obtain rfl:=Option.some.inj H
                   go_wp2_with (first |((with_reducible refine jg (f:=34) rfl ?_);refine gL (some 83) Try.func34 #[.slice (some ad261) l0.length c0, .int .i64 (rd t257 x10_1)] ?_;(with_reducible refine (jla.calls kj35 _ _ l0 (rd t257 x10_1) t269 _ ?side1 ?side2 A39.out).mono ?_);(case side1=>exact cq (Kd.jka HR0.out HB.out));(case side2=>exact HC0.out);rintro e w' ⟨rfl,⟨nd,rfl⟩⟩;refine ⟨_,rfl,?_⟩) |((with_reducible refine jg (f:=47) rfl ?_);refine gL (some 89) Try.func47 #[.slice (some ad261) l0.length c0, .int .i64 (wrap64 ((rd t257 x10_1)+1)), .int .i64 t269, .bool true] ?_;(with_reducible refine (ih kj35 (by have:=HK1.out;have:=HJ10.out;have:=HJ15.out;have:=HJ35.out;omega) _ _ l0 (wrap64 ((rd t257 x10_1)+1)) t269 true false _ ?side1 ?side2 A41.out).mono ?_);(case side1=>exact cq (Kd.jka HR0.out (bq)));(case side2=>exact HC0.out);rintro e w44 ⟨rfl,hb⟩;refine ⟨_,rfl,?_⟩;replace HO_9:=am (Kd.jja (rq HO_9.out) hb);replace HB:=am (ji (bq) hb);(try clear hb);(try clear hb2);(try clear hk);(try clear hi)))
                   go_ret
                   exact ⟨Y0,bq⟩
                 ·replace c40:=Bool.eq_false_iff.mpr c40
                  subst c40
                  have H1:((jk.f kj35 l0 (wrap64 ((rd t257 x10_1)+1)) t269 (((jd l0 (rd t257 x10_1)).f1) == 12)).bind fun t271=>(if t271=true then (jk.l0 kj35 l0 false t257 (wrap64 (x10_1+1))) else (some false)))=some r:=by rw [if_neg (show ¬ (false=true) by decide)] at H;exact H
                  clear H
                  have H:=H1
                  clear H1
                  replace H:=bzS H
                  obtain ⟨t271,A450,H⟩:=H
                  replace H:(if t271=true then (jk.l0 kj35 l0 false t257 (wrap64 (x10_1+1))) else (some false))=some r:=H
                  have A45:=am A450
                  clear A450
                  by_cases c46:t271=true
                  ·subst c46
                   have H1:(jk.l0 kj35 l0 false t257 (wrap64 (x10_1+1)))=some r:=by rw [if_pos rfl] at H;exact H
                   clear H
                   have H:=H1
                   clear H1
                   have H':=am H
                   clear H
                   go_wp2_with (first |((with_reducible refine jg (f:=34) rfl ?_);refine gL (some 83) Try.func34 #[.slice (some ad261) l0.length c0, .int .i64 (rd t257 x10_1)] ?_;(with_reducible refine (jla.calls kj35 _ _ l0 (rd t257 x10_1) t269 _ ?side1 ?side2 A39.out).mono ?_);(case side1=>exact cq (Kd.jka HR0.out HB.out));(case side2=>exact HC0.out);rintro e w' ⟨rfl,⟨nd,rfl⟩⟩;refine ⟨_,rfl,?_⟩) |((with_reducible refine jg (f:=47) rfl ?_);refine gL (some 89) Try.func47 #[.slice (some ad261) l0.length c0, .int .i64 (wrap64 ((rd t257 x10_1)+1)), .int .i64 t269, .bool (((jd l0 (rd t257 x10_1)).f1) == 12)] ?_;(with_reducible refine (ih kj35 (by have:=HK1.out;have:=HJ10.out;have:=HJ15.out;have:=HJ35.out;omega) _ _ l0 (wrap64 ((rd t257 x10_1)+1)) t269 (((jd l0 (rd t257 x10_1)).f1) == 12) true _ ?side1 ?side2 A45.out).mono ?_);(case side1=>exact cq (Kd.jka HR0.out (bq)));(case side2=>exact HC0.out);rintro e w47 ⟨rfl,hb⟩;refine ⟨_,rfl,?_⟩;replace HO_9:=am (Kd.jja (rq HO_9.out) hb);replace HB:=am (ji (bq) hb);(try clear hb);(try clear hb2);(try clear hk);(try clear hi)))
                   go_roundg kj35
                   case measure=>have:=HK1.out;have:=HJ10.out;have:=HJ15.out;have:=HJ35.out;omega
                   case rel=>exact ⟨(wrap64 (x10_1+1)),(sq),H',⟨by have:=HK1.out;have:=HJ10.out;have:=HJ15.out;have:=HJ35.out;omega⟩,⟨rq HO_9.out⟩,⟨bq⟩⟩
                  ·replace c46:=Bool.eq_false_iff.mpr c46
                   subst c46
                   have H1:(some false)=some r:=by rw [if_neg (show ¬ (false=true) by decide)] at H;exact H
                   clear H
                   have H:=H1
                   clear H1
                   obtain rfl:=Option.some.inj H
                   go_wp2_with (first |((with_reducible refine jg (f:=34) rfl ?_);refine gL (some 83) Try.func34 #[.slice (some ad261) l0.length c0, .int .i64 (rd t257 x10_1)] ?_;(with_reducible refine (jla.calls kj35 _ _ l0 (rd t257 x10_1) t269 _ ?side1 ?side2 A39.out).mono ?_);(case side1=>exact cq (Kd.jka HR0.out HB.out));(case side2=>exact HC0.out);rintro e w' ⟨rfl,⟨nd,rfl⟩⟩;refine ⟨_,rfl,?_⟩) |((with_reducible refine jg (f:=47) rfl ?_);refine gL (some 89) Try.func47 #[.slice (some ad261) l0.length c0, .int .i64 (wrap64 ((rd t257 x10_1)+1)), .int .i64 t269, .bool (((jd l0 (rd t257 x10_1)).f1) == 12)] ?_;(with_reducible refine (ih kj35 (by have:=HK1.out;have:=HJ10.out;have:=HJ15.out;have:=HJ35.out;omega) _ _ l0 (wrap64 ((rd t257 x10_1)+1)) t269 (((jd l0 (rd t257 x10_1)).f1) == 12) false _ ?side1 ?side2 A45.out).mono ?_);(case side1=>exact cq (Kd.jka HR0.out (bq)));(case side2=>exact HC0.out);rintro e w48 ⟨rfl,hb⟩;refine ⟨_,rfl,?_⟩;replace HO_9:=am (Kd.jja (rq HO_9.out) hb);replace HB:=am (ji (bq) hb);(try clear hb);(try clear hb2);(try clear hk);(try clear hi)))
                   go_ret
                   exact ⟨Y0,bq⟩
                ·replace c38:=Bool.eq_false_iff.mpr c38
                 subst c38
                 have H1:(jk.l0 kj35 l0 a3 t257 (wrap64 (x10_1+1)))=some r:=by rw [if_neg (show ¬ (false=true) by decide)] at H;exact H
                 clear H
                 have H:=H1
                 clear H1
                 have H':=am H
                 clear H
                 go_wp2
                 go_roundg kj35
                 case measure=>have:=HK1.out;have:=HJ10.out;have:=HJ15.out;have:=HJ35.out;omega
                 case rel=>exact ⟨(wrap64 (x10_1+1)),(sq),H',⟨by have:=HK1.out;have:=HJ10.out;have:=HJ15.out;have:=HJ35.out;omega⟩,⟨rq HO_9.out⟩,⟨bq⟩⟩
      ·rw [if_neg c10] at H
       exact absurd H (by simp)
     ·rw [if_neg c9] at H
      exact absurd H (by simp)
    ·rw [if_neg c8] at H
     exact absurd H (by simp)
   ·rw [if_neg c7] at H
    have c7b0:decide (x10_1<(t257.length:Int))=false:=dzF c7
    clear c7
    obtain rfl:=Option.some.inj H
    obtain ⟨Ao49,co49,eo49⟩:=Kd.jaa HO_9.out
    subst eo49
    go_wp2
    go_ret
    exact ⟨Y0,bq⟩
def inB (a lo hi : Int) : Bool := decide (lo ≤ a) && decide (a ≤ hi)
theorem jBb (a lo hi : Int) : jN.f a lo hi = some (inB a lo hi) := by
 unfold jN.f inB
 by_cases h:a≥lo
 ·rw [if_pos h];simp [show lo≤a from h]
 ·rw [if_neg h];simp [show ¬ lo≤a from h]
theorem jnc (a b c d : Int) : jvb.f a b c d = some (inB b 7 12) := by
 unfold jvb.f
 rw [jBb];rfl
def VF (W : World) (B1 BL BT : Nat) (a x : S59) (tv : Value) : Prop :=
 W.heap[B1]?=some (.cells #[.int .i64 a.f0, .int .i64 a.f1, .int .i64 a.f2, .int .i64 a.f3] 59 (0,0))∧W.heap[BL]?=some (.cells #[.int .i64 x.f0, .int .i64 x.f1, .int .i64 x.f2, .int .i64 x.f3] 59 (0,0))∧W.cell? ⟨BT,0,none⟩=some tv
theorem VF.below {W W' : World} {B1 BL BT : Nat} {a x : S59} {tv : Value} (h : VF W B1 BL BT a x tv) (hb : Below W.heap.size W W') : VF W' B1 BL BT a x tv :=
 ⟨(hb.block _ (jtb h.1)).trans h.1,(hb.block _ (jtb h.2.1)).trans h.2.1,jta hb h.2.2⟩
theorem VF.cells {W : World} {B1 BL BT : Nat} {a x : S59} {tv : Value} (h : VF W B1 BL BT a x tv) :
  W.cell? ⟨B1,0,none⟩=some (.int .i64 a.f0)∧W.cell? ⟨B1,1,none⟩=some (.int .i64 a.f1)∧W.cell? ⟨B1,2,none⟩=some (.int .i64 a.f2)∧W.cell? ⟨B1,3,none⟩=some (.int .i64 a.f3) ∧
  W.cell? ⟨BL,0,none⟩=some (.int .i64 x.f0)∧W.cell? ⟨BL,1,none⟩=some (.int .i64 x.f1)∧W.cell? ⟨BL,2,none⟩=some (.int .i64 x.f2)∧W.cell? ⟨BL,3,none⟩=some (.int .i64 x.f3)∧W.cell? ⟨BT,0,none⟩=some tv :=
 ⟨(jK h.1 0).trans rfl,(jK h.1 1).trans rfl,(jK h.1 2).trans rfl,(jK h.1 3).trans rfl,(jK h.2.1 0).trans rfl,(jK h.2.1 1).trans rfl,(jK h.2.1 2).trans rfl,(jK h.2.1 3).trans rfl,h.2.2⟩
theorem VF.frozen {W : World} {B1 BL BT : Nat} {a x : S59} {tv : Value} (h : VF W B1 BL BT a x tv) : W.frozen? ⟨B1, 0, none⟩ = false ∧ W.frozen? ⟨B1, 1, none⟩ = false ∧ W.frozen? ⟨B1, 2, none⟩ = false ∧ W.frozen? ⟨B1, 3, none⟩ = false :=
 ⟨ja h.1 0,ja h.1 1,ja h.1 2,ja h.1 3⟩
theorem four_stored {W : World} {B T : Nat} {a b c d a' b' c' d' : Value} (h : W.heap[B]? = some (.cells #[a, b, c, d] T (0, 0))) :
  ((((W.setCell ⟨B,0,none⟩ a').setCell ⟨B,1,none⟩ b').setCell ⟨B,2,none⟩ c').setCell ⟨B,3,none⟩ d').heap[B]?=some (.cells #[a',b',c',d'] T (0,0)):=by
 have h0:=blk_set h 0 a'
 have h1:=blk_set h0 1 b'
 have h2:=blk_set h1 2 c'
 have h3:=blk_set h2 3 d'
 simpa using h3
theorem four_below {W w : World} {base B : Nat} {a' b' c' d' : Value} (h : Below base w W) (hB : base ≤ B) :
  Below base w ((((W.setCell ⟨B,0,none⟩ a').setCell ⟨B,1,none⟩ b').setCell ⟨B,2,none⟩ c').setCell ⟨B,3,none⟩ d') :=
 (((h.setCell (p:=⟨B,0,none⟩) hB _).setCell (p:=⟨B,1,none⟩) hB _).setCell (p:=⟨B,2,none⟩) hB _).setCell (p:=⟨B,3,none⟩) hB _
theorem four_far {W : World} {B C : Nat} {a' b' c' d' v : Value} (h : W.cell? ⟨C, 0, none⟩ = some v) (hne : B ≠ C) :
  ((((W.setCell ⟨B,0,none⟩ a').setCell ⟨B,1,none⟩ b').setCell ⟨B,2,none⟩ c').setCell ⟨B,3,none⟩ d').cell? ⟨C,0,none⟩=some v:=by
 have e:∀ j,(⟨B,j,none⟩:Addr)≠⟨C,0,none⟩:=fun j hj=>hne (by injection hj)
 rw [World.cell?_setCell_other (h:=e 3),World.cell?_setCell_other (h:=e 2),World.cell?_setCell_other (h:=e 1),World.cell?_setCell_other (h:=e 0)]
 exact h
def jA.bad (x last : S59) : Bool := !inB x.f0 0 5 || (inB last.f1 7 12 && decide (x.f0 ≠ last.f0 + 1)) || (!inB last.f1 7 12 && decide (last.f0 < x.f0))
def jA.go (k : Nat) (t : List S98) : List S59 → S59 → Option (Option S59)
 | [],last=>some (some last)
 | x :: xs,last=>(jwa.f k x.f0 x.f1 x.f2 x.f3 t).bind fun v=>if v=false then some none else if jA.bad x last then some none else jA.go k t xs x
def jA.f (k : Nat) (l0_0 : List S98) (l1 : List S59) : Option Bool := (jD.f k l0_0).bind fun v =>
 if v=false then some false else if 24<l1.length then some false else
 (jA.go k l0_0 l1 ⟨-1,7,0,0⟩).bind fun q=>match q with
 | none=>some false
 | some last=>if l1.length=0 then jk.f k l1 0 (l1.length:Int) false else if inB last.f1 7 12 then some false else jk.f k l1 0 (l1.length:Int) false
theorem jA.step {k : Nat} {t : List S98} {p : List S59} {n : Nat} {last : S59} {q : Option S59} (hn : n < p.length) (h : jA.go k t (p.drop n) last = some q) :
  ∃ v,jwa.f k p[n].f0 p[n].f1 p[n].f2 p[n].f3 t=some v∧(if v=false then some none else if jA.bad p[n] last then some none else jA.go k t (p.drop (n+1)) p[n])=some q:=by
 rw [List.drop_eq_getElem_cons hn] at h
 exact bzS h
set_option maxHeartbeats 8000000 in
set_option maxRecDepth 100000 in
theorem jA.calls (k : Nat) (A0_0 : Option Addr) (c0_0 : Nat) (l0_0 : List S98) (A1 : Option Addr) (c1 : Nat) (l1 : List S59) (r : Bool) (w : World) (hr0_0 : Kd.C k98 w A0_0 l0_0.length l0_0) (hc0_0 : l0_0.length ≤ c0_0) (hr1 : Kd.C k59 w A1 l1.length l1) (hc1 : l1.length ≤ c1) (h : jA.f k l0_0 l1 = some r) :
  Calls Try.prog 22 #[.agg #[.slice A0_0 l0_0.length c0_0], .slice A1 l1.length c1] w fun e w'=>e=.returned (.bool r)∧Below w.heap.size w w':=by
 have hu32:=Try.underlying32
 have hu59:=Try.underlying59
 have hm:l1.length≤9223372036854775807:=Kd.C_max hr1
 obtain ⟨v,hv,h⟩:=bzS h
 have HV:=am (fun W (hb:Below w.heap.size w W)=>jD.calls k A0_0 c0_0 l0_0 v W (Kd.jka hr0_0 hb) hc0_0 hv)
 have HR0:=am hr0_0
 have HR1:=am hr1
 clear hv hr0_0 hr1
 cases v with
 | false =>
  obtain rfl:false=r:=by simpa using h
  clear h
  go_enter Try.func22,Try.ntmps22
  go_wp2_with (go_at_call 43;refine (HV.out _ ((Below.refl _ _).alloc (Nat.le_refl _) _)).mono ?_;rintro e w' ⟨rfl,hb2⟩)
  go_ret
  exact ⟨rfl,((Below.refl _ _).alloc (Nat.le_refl _) _).trans (hb2.mono (by simp))⟩
 | true =>
  simp only [Bool.true_eq_false,if_false] at h
  by_cases h24:24<l1.length
  ·rw [if_pos h24] at h
   obtain rfl:false=r:=by simpa using h
   have h24b:decide (24<l1.length)=true:=dzT h24
   clear h
   go_enter Try.func22,Try.ntmps22
   go_wp2_with (go_at_call 43;refine (HV.out _ ((Below.refl _ _).alloc (Nat.le_refl _) _)).mono ?_;rintro e w' ⟨rfl,hb2⟩)
   go_ret
   exact ⟨rfl,((Below.refl _ _).alloc (Nat.le_refl _) _).trans (hb2.mono (by simp))⟩
  ·rw [if_neg h24] at h
   have h24b:decide (24<l1.length)=false:=dzF h24
   obtain ⟨q,hq,h⟩:=bzS h
   have H0:=am hq
   have HZ:=am h
   clear h hq
   go_enter Try.func22,Try.ntmps22
   go_wp2_with (go_at_call 43;refine (HV.out _ ((Below.refl _ _).alloc (Nat.le_refl _) _)).mono ?_;rintro e w2 ⟨rfl,hb2⟩;have HB2:=am (((Below.refl w.heap.size w).alloc (Nat.le_refl _) (.cells #[.slice A0_0 l0_0.length c0_0] 32)).trans (hb2.mono (by simp)));have hs2:w.heap.size<w2.heap.size:=Nat.lt_of_lt_of_le (by simp) hb2.size;have ht2:=jta hb2 (show (w.alloc (.cells #[.slice A0_0 l0_0.length c0_0] 32)).cell? ⟨w.heap.size,0,none⟩=some (.slice A0_0 l0_0.length c0_0) by simp);clear hb2)
   obtain ⟨B1,hB1⟩:∃ B1,B1=w2.heap.size:=⟨_,rfl⟩
   have HBK:=am (show (w2.alloc (.cells #[.int .i64 (-1), .int .i64 7, .int .i64 0, .int .i64 0] 59)).heap[B1]?=some (.cells #[.int .i64 (-1), .int .i64 7, .int .i64 0, .int .i64 0] 59 (0,0)) by rw [hB1];exact heap_alloc_new w2 _)
   have hBl:=am (HB2.out.alloc (Nat.le_of_lt hs2) (.cells #[.int .i64 (-1), .int .i64 7, .int .i64 0, .int .i64 0] 59))
   have hT:=am (show (w2.alloc (.cells #[.int .i64 (-1), .int .i64 7, .int .i64 0, .int .i64 0] 59)).cell? ⟨w.heap.size,0,none⟩=some (.slice A0_0 l0_0.length c0_0) by simp [World.cell?_alloc_old,Nat.ne_of_lt hs2,ht2])
   rw [← hB1]
   have hlt1:w.heap.size<B1:=by omega
   clear hB1
   generalize w2.alloc (.cells #[.int .i64 (-1), .int .i64 7, .int .i64 0, .int .i64 0] 59)=w3 at HBK hBl hT ⊢
   clear ht2 hs2 HB2 HV
   go_loopw [19] (fun i19 wr=>∃ (n:Nat) (last:S59),i19=.int .i64 n∧n≤l1.length∧-1≤last.f0∧last.f0≤5∧jl (jA.go k l0_0 (l1.drop n) last=some q)∧jl (wr.heap[B1]?=some (.cells #[.int .i64 last.f0, .int .i64 last.f1, .int .i64 last.f2, .int .i64 last.f3] 59 (0,0)))∧jl (wr.cell? ⟨w.heap.size,0,none⟩=some (.slice A0_0 l0_0.length c0_0))∧jl (Below w.heap.size w wr)) (fun i19 _=>l1.length - (intOf i19).toNat)
   case atStart=>exact ⟨0,⟨-1,7,0,0⟩,rfl,Nat.zero_le _,by simp,by simp,H0,HBK,hT,hBl⟩
   case round =>
    clear H0 HBK hT hBl
    obtain ⟨n,last,rfl,hn,hlo,hhi,HA,HBK,HT,HB⟩:=hrel
    have ht2:=HT.out
    have g0:wr.cell? ⟨B1,0,none⟩=some (.int .i64 last.f0):=(jK HBK.out 0).trans rfl
    have g1:wr.cell? ⟨B1,1,none⟩=some (.int .i64 last.f1):=(jK HBK.out 1).trans rfl
    have g2:wr.cell? ⟨B1,2,none⟩=some (.int .i64 last.f2):=(jK HBK.out 2).trans rfl
    have g3:wr.cell? ⟨B1,3,none⟩=some (.int .i64 last.f3):=(jK HBK.out 3).trans rfl
    have hBw:B1<wr.heap.size:=jtb HBK.out
    have hne:B1≠wr.heap.size:=by omega
    have hne2:w.heap.size≠wr.heap.size:=by omega
    have hTw:w.heap.size<wr.heap.size:=by omega
    by_cases hlt:n<l1.length
    ·obtain ⟨v,hv,hs⟩:=jA.step hlt HA.out
     clear HA
     obtain ⟨ad,rfl,hx0,hx1,hx2,hx3⟩:=jza HR1.out (n:Int) (by omega) (by omega)
     have hrd:jd l1 (n:Int)=l1[n]:=by simp [jd,List.getD_eq_getElem?_getD,hlt]
     rw [hrd,Int.toNat_natCast] at hx0 hx1 hx2 hx3
     clear hrd
     generalize l1[n]=x at hv hs hx0 hx1 hx2 hx3
     have hb:=HB.out
     replace hx0:=jta hb hx0
     replace hx1:=jta hb hx1
     replace hx2:=jta hb hx2
     replace hx3:=jta hb hx3
     clear hb
     have HG:=am (fun W (hb:Below w.heap.size w W)=>jwa.calls k x.f0 x.f1 x.f2 x.f3 A0_0 c0_0 l0_0 v W (Kd.jka HR0.out hb) hc0_0 hv)
     clear hv
     cases v with
     | false =>
      obtain rfl:none=q:=by simpa using hs
      obtain rfl:false=r:=by simpa using HZ.out
      clear hs HZ
      go_wp2_with (go_at_call 44;refine (HG.out _ (HB.out.alloc HB.out.size _)).mono ?_;rintro e w4 ⟨rfl,hb4⟩)
      go_ret
      exact ⟨rfl,jca (HB.out.alloc HB.out.size _) (by simp;have:=HB.out.size;omega) hb4⟩
     | true =>
      simp only [Bool.true_eq_false,if_false] at hs
      have V0:=am (show VF (wr.alloc (.cells #[.int .i64 x.f0, .int .i64 x.f1, .int .i64 x.f2, .int .i64 x.f3] 59)) B1 wr.heap.size w.heap.size last x (.slice A0_0 l0_0.length c0_0) from ⟨(heap_alloc_old wr _ hBw).trans HBK.out,heap_alloc_new wr _,by rw [World.cell?_alloc_old _ _ _ hne2];exact HT.out⟩)
      have HO:=am (fun W=>jvb.calls last.f0 last.f1 last.f2 last.f3 _ W (jnc _ _ _ _))
      clear g0 g1 g2 g3
      have tok1:True:=trivial
      have HS:=am hs
      clear hs
      cases h5:inB x.f0 0 5 with
      | false =>
       have H5:=am h5
       obtain rfl:none=q:=by simpa [jA.bad,h5] using HS.out
       obtain rfl:false=r:=by simpa using HZ.out
       clear HS HZ h5
       go_wp2_with (first |(go_at_call 44;refine (HG.out _ (HB.out.alloc HB.out.size _)).mono ?_;rintro e w4 ⟨rfl,hb4⟩;have V4:=am (VF.below V0.out hb4);have HB4:=am (jca (HB.out.alloc HB.out.size _) (by simp;have:=HB.out.size;omega) hb4);clear hb4;obtain ⟨g0,g1,g2,g3,e0,e1,e2,e3,ht4⟩:=VF.cells V4.out) |(go_at_call 45;refine (jN.calls _ _ _ _ _ (jBb _ _ _)).mono ?_;rintro e w5 ⟨rfl,⟨nd,rfl⟩⟩;rw [H5.out]))
       go_ret
       exact ⟨rfl,jv HB4.out _⟩
      | true =>
       have H5:=am h5
       have hx5:0≤x.f0∧x.f0≤5:=by simpa [inB] using h5
       cases ho:inB last.f1 7 12 with
       | true =>
        rw [ho] at HO
        by_cases hd:x.f0=last.f0+1
        ·have hb1:(x.f0 != last.f0+1)=false:=by simpa using hd
         have hbad:jA.bad x last=false:=by unfold jA.bad;rw [h5,ho];simp [hd]
         have HN:=am (by have:=HS.out;rw [hbad] at this;simpa using this:jA.go k l0_0 (l1.drop (n+1)) x=some q)
         clear hbad
         clear HS hd h5 ho
         go_wp2_with (first |(go_at_call 44;refine (HG.out _ (HB.out.alloc HB.out.size _)).mono ?_;rintro e w4 ⟨rfl,hb4⟩;have V4:=am (VF.below V0.out hb4);have HB4:=am (jca (HB.out.alloc HB.out.size _) (by simp;have:=HB.out.size;omega) hb4);clear hb4;obtain ⟨g0,g1,g2,g3,e0,e1,e2,e3,ht4⟩:=VF.cells V4.out) |(go_at_call 45;refine (jN.calls _ _ _ _ _ (jBb _ _ _)).mono ?_;rintro e w5 ⟨rfl,⟨nd,rfl⟩⟩;rw [H5.out]) |(go_at_call 46;have tk1:=tok1;clear tok1;refine (HO.out _).mono ?_;rintro e w6 ⟨rfl,hb6⟩;have V6:=am (VF.below (W:=World.drewN _ _) V4.out hb6);have HB6:=am (jca (w1:=World.drewN _ _) (show Below w.heap.size w (World.drewN _ _) from ⟨HB4.out.os,HB4.out.tape,HB4.out.output,HB4.out.size,HB4.out.block⟩) HB4.out.size hb6);clear hb6 g0 g1 g2 g3 e0 e1 e2 e3 ht4;obtain ⟨g0,g1,g2,g3,e0,e1,e2,e3,ht4⟩:=VF.cells V6.out) |(go_at_call 46;refine (HO.out _).mono ?_;rintro e w7 ⟨rfl,hb7⟩;have V7:=am (VF.below V6.out hb7);have HB7:=am (jca HB6.out HB6.out.size hb7);clear hb7 g0 g1 g2 g3 e0 e1 e2 e3 ht4;obtain ⟨g0,g1,g2,g3,e0,e1,e2,e3,ht4⟩:=VF.cells V7.out;obtain ⟨f0,f1,f2,f3⟩:=VF.frozen V7.out))
         go_roundw
         case rel=>exact ⟨n+1,x,by go_num,hlt,by omega,by omega,HN,⟨four_stored V7.out.1⟩,⟨four_far V7.out.2.2 (by omega)⟩,⟨four_below HB7.out (by omega)⟩⟩
         case measure=>simp [intOf];omega
        ·have hb1:(x.f0 != last.f0+1)=true:=by simpa using hd
         obtain rfl:none=q:=by simpa [jA.bad,h5,ho,hd] using HS.out
         obtain rfl:false=r:=by simpa using HZ.out
         clear HS HZ hd h5 ho
         go_wp2_with (first |(go_at_call 44;refine (HG.out _ (HB.out.alloc HB.out.size _)).mono ?_;rintro e w4 ⟨rfl,hb4⟩;have V4:=am (VF.below V0.out hb4);have HB4:=am (jca (HB.out.alloc HB.out.size _) (by simp;have:=HB.out.size;omega) hb4);clear hb4;obtain ⟨g0,g1,g2,g3,e0,e1,e2,e3,ht4⟩:=VF.cells V4.out) |(go_at_call 45;refine (jN.calls _ _ _ _ _ (jBb _ _ _)).mono ?_;rintro e w5 ⟨rfl,⟨nd,rfl⟩⟩;rw [H5.out]) |(go_at_call 46;have tk1:=tok1;clear tok1;refine (HO.out _).mono ?_;rintro e w6 ⟨rfl,hb6⟩;have V6:=am (VF.below (W:=World.drewN _ _) V4.out hb6);have HB6:=am (jca (w1:=World.drewN _ _) (show Below w.heap.size w (World.drewN _ _) from ⟨HB4.out.os,HB4.out.tape,HB4.out.output,HB4.out.size,HB4.out.block⟩) HB4.out.size hb6);clear hb6 g0 g1 g2 g3 e0 e1 e2 e3 ht4;obtain ⟨g0,g1,g2,g3,e0,e1,e2,e3,ht4⟩:=VF.cells V6.out))
         go_ret
         exact ⟨rfl,HB6.out⟩
       | false =>
        rw [ho] at HO
        by_cases hd:last.f0<x.f0
        ·have hb1:decide (last.f0<x.f0)=true:=dzT hd
         have hbad:jA.bad x last=true:=by unfold jA.bad;rw [h5,ho];simp [hd]
         obtain rfl:none=q:=by have:=HS.out;rw [hbad] at this;simpa using this
         obtain rfl:false=r:=by simpa using HZ.out
         clear HS HZ hd h5 ho hbad
         go_wp2_with (first |(go_at_call 44;refine (HG.out _ (HB.out.alloc HB.out.size _)).mono ?_;rintro e w4 ⟨rfl,hb4⟩;have V4:=am (VF.below V0.out hb4);have HB4:=am (jca (HB.out.alloc HB.out.size _) (by simp;have:=HB.out.size;omega) hb4);clear hb4;obtain ⟨g0,g1,g2,g3,e0,e1,e2,e3,ht4⟩:=VF.cells V4.out) |(go_at_call 45;refine (jN.calls _ _ _ _ _ (jBb _ _ _)).mono ?_;rintro e w5 ⟨rfl,⟨nd,rfl⟩⟩;rw [H5.out]) |(go_at_call 46;have tk1:=tok1;clear tok1;refine (HO.out _).mono ?_;rintro e w6 ⟨rfl,hb6⟩;have V6:=am (VF.below (W:=World.drewN _ _) V4.out hb6);have HB6:=am (jca (w1:=World.drewN _ _) (show Below w.heap.size w (World.drewN _ _) from ⟨HB4.out.os,HB4.out.tape,HB4.out.output,HB4.out.size,HB4.out.block⟩) HB4.out.size hb6);clear hb6 g0 g1 g2 g3 e0 e1 e2 e3 ht4;obtain ⟨g0,g1,g2,g3,e0,e1,e2,e3,ht4⟩:=VF.cells V6.out) |(go_at_call 46;refine (HO.out _).mono ?_;rintro e w7 ⟨rfl,hb7⟩;have V7:=am (VF.below V6.out hb7);have HB7:=am (jca HB6.out HB6.out.size hb7);clear hb7 g0 g1 g2 g3 e0 e1 e2 e3 ht4;obtain ⟨g0,g1,g2,g3,e0,e1,e2,e3,ht4⟩:=VF.cells V7.out;obtain ⟨f0,f1,f2,f3⟩:=VF.frozen V7.out))
         go_ret
         exact ⟨rfl,HB7.out⟩
        ·have hb1:decide (last.f0<x.f0)=false:=dzF hd
         have hbad:jA.bad x last=false:=by unfold jA.bad;rw [h5,ho];simp [hd]
         have HN:=am (by have:=HS.out;rw [hbad] at this;simpa using this:jA.go k l0_0 (l1.drop (n+1)) x=some q)
         clear hbad HS hd h5 ho
         go_wp2_with (first |(go_at_call 44;refine (HG.out _ (HB.out.alloc HB.out.size _)).mono ?_;rintro e w4 ⟨rfl,hb4⟩;have V4:=am (VF.below V0.out hb4);have HB4:=am (jca (HB.out.alloc HB.out.size _) (by simp;have:=HB.out.size;omega) hb4);clear hb4;obtain ⟨g0,g1,g2,g3,e0,e1,e2,e3,ht4⟩:=VF.cells V4.out) |(go_at_call 45;refine (jN.calls _ _ _ _ _ (jBb _ _ _)).mono ?_;rintro e w5 ⟨rfl,⟨nd,rfl⟩⟩;rw [H5.out]) |(go_at_call 46;have tk1:=tok1;clear tok1;refine (HO.out _).mono ?_;rintro e w6 ⟨rfl,hb6⟩;have V6:=am (VF.below (W:=World.drewN _ _) V4.out hb6);have HB6:=am (jca (w1:=World.drewN _ _) (show Below w.heap.size w (World.drewN _ _) from ⟨HB4.out.os,HB4.out.tape,HB4.out.output,HB4.out.size,HB4.out.block⟩) HB4.out.size hb6);clear hb6 g0 g1 g2 g3 e0 e1 e2 e3 ht4;obtain ⟨g0,g1,g2,g3,e0,e1,e2,e3,ht4⟩:=VF.cells V6.out) |(go_at_call 46;refine (HO.out _).mono ?_;rintro e w7 ⟨rfl,hb7⟩;have V7:=am (VF.below V6.out hb7);have HB7:=am (jca HB6.out HB6.out.size hb7);clear hb7 g0 g1 g2 g3 e0 e1 e2 e3 ht4;obtain ⟨g0,g1,g2,g3,e0,e1,e2,e3,ht4⟩:=VF.cells V7.out;obtain ⟨f0,f1,f2,f3⟩:=VF.frozen V7.out))
         go_roundw
         case rel=>exact ⟨n+1,x,by go_num,hlt,by omega,by omega,HN,⟨four_stored V7.out.1⟩,⟨four_far V7.out.2.2 (by omega)⟩,⟨four_below HB7.out (by omega)⟩⟩
         case measure=>simp [intOf];omega
    ·have hgo:=HA.out
     rw [List.drop_eq_nil_of_le (by omega)] at hgo
     obtain rfl:some last=q:=by simpa [jA.go] using hgo
     clear hgo HA
     have HY:=am HZ.out
     clear HZ
     by_cases h0:l1.length=0
     ·have hy:=HY.out
      simp only [if_pos h0] at hy
      have HQ:=am (fun W (hb:Below w.heap.size w W)=>jk.calls k A1 c1 l1 0 (l1.length:Int) false r W (Kd.jka HR1.out hb) hc1 hy)
      have HBX:=HB.out
      clear hy HY
      have hz1:((l1.length:Int) == 0)=true:=by simp [h0]
      have hz2:(l1.length == 0)=true:=by simp [h0]
      clear h0
      go_wp2_with (first |(go_at_call 47;refine (HQ.out _ HBX).mono ?_;rintro e w9 ⟨rfl,hb9⟩;have HB9:=am (jca HBX HBX.size hb9)))
      go_ret
      exact ⟨rfl,HB9.out⟩
     ·have hz1:((l1.length:Int) == 0)=false:=by simpa using h0
      have hz2:(l1.length == 0)=false:=by simpa using h0
      have HO:=am (fun W=>jvb.calls last.f0 last.f1 last.f2 last.f3 _ W (jnc _ _ _ _))
      have hy:=HY.out
      simp only [if_neg h0] at hy
      clear HY
      cases ho:inB last.f1 7 12 with
      | true =>
       rw [ho] at HO hy
       obtain rfl:false=r:=by simpa using hy
       clear hy ho h0
       go_wp2_with (first |(go_at_call 46;refine (HO.out _).mono ?_;rintro e w6 ⟨rfl,hb6⟩;have HBX:=jca HB.out HB.out.size hb6;clear hb6))
       go_ret
       exact ⟨rfl,HBX⟩
      | false =>
       rw [ho] at HO hy
       simp only [Bool.false_eq_true,if_false] at hy
       have HQ:=am (fun W (hb:Below w.heap.size w W)=>jk.calls k A1 c1 l1 0 (l1.length:Int) false r W (Kd.jka HR1.out hb) hc1 hy)
       clear hy ho h0
       go_wp2_with (first |(go_at_call 46;refine (HO.out _).mono ?_;rintro e w6 ⟨rfl,hb6⟩;have HBX:=jca HB.out HB.out.size hb6;clear hb6) |(go_at_call 47;refine (HQ.out _ HBX).mono ?_;rintro e w9 ⟨rfl,hb9⟩;have HB9:=am (jca HBX HBX.size hb9)))
       go_ret
       exact ⟨rfl,HB9.out⟩
def jec.f (l0 : List (S48)) : Option ((List (S48))) := some (l0)
set_option maxHeartbeats 8000000 in
set_option maxRecDepth 100000 in
theorem jec.calls (P0_ : Nat → Prop) (u9000_ : Value) (l0 : List (S48)) (r : List (S48)) (w0 w : World) (hB : Below w0.heap.size w0 w) (ho0 : Kd.R k48 48 w w0.heap.size P0_ u9000_ l0) (h : jec.f l0 = some r) :
  Calls Try.prog 36 #[u9000_] w fun e w'=>∃ v0_:Value,e=.returned (v0_)∧Kd.R k48 48 w' w0.heap.size (fun k_=>(P0_ k_∨w.heap.size≤k_)) v0_ r∧Below w0.heap.size w0 w'∧Kept w w' (fun k_=>P0_ k_):=by
 have HO0:=am (show Kd.R k48 48 w w0.heap.size (fun k_=>(P0_ k_∨w.heap.size≤k_)) u9000_ l0 from Kd.jI ho0 (fun k_ hk=>(.inl hk)))
 have HK:=am (Kept.refl w (fun k_=>P0_ k_))
 have HW0:=am hB.size
 have HB:=am hB
 clear hB
 have H:(some (l0))=some r:=h
 clear h
 obtain ⟨y272,hy272⟩:∃ y_:List (S48),y_=(l0):=⟨_,rfl⟩
 replace H:(some y272)=some r:=by first |(rw [hy272];with_reducible exact H) |(have H2_:=(Option.bind_some _ _).symm.trans H;rw [hy272];with_reducible exact H2_) |(have H2_:=(Option.bind_some _ _).symm.trans H;with_reducible exact H2_) | with_reducible exact H |(rw [hy272];exact H) | exact H
 have Ny272:=am hy272
 clear hy272
 obtain rfl:=Option.some.inj H
 obtain ⟨Ao2,co2,eo2⟩:=Kd.jaa HO0.out
 subst eo2
 obtain ⟨i03,hi03,_,hsz3,_⟩:=info_parts info48
 have hy3:y272.length=l0.length:=(by rw [Ny272.out])
 have hcut3:=cut_clip (P:=Try.prog) 28 48 Try.underlying28 hi03 Ao2 _ co2 _ (Kd.jm HO0.out).2.1 hy3
 have hr3:=Kd.R_clip HO0.out Ny272.out
 clear hy3 hi03 hsz3 HO0
 have HO274:=am hr3
 clear hr3
 go_enter Try.func36,Try.ntmps36
 go_wp2
 go_ret
 exact ⟨_,Y0,rq HO274.out,bq,by repeat (first |(with_reducible first | exact HK.out | apply Kept.alloc | apply Kept.drewN | apply Kept.drew) | exact HK.out)⟩
end Go.Proofs.Ytbcjbcjpoddkoaa.P
end
