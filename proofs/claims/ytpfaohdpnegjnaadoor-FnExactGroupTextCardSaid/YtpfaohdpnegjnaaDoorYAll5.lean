/- One part of the proofs on this program: functions of the program as plain functions, that the code comes to them, and facts on them. -/
import Derived.Test.YtpfaohdpnegjnaaDoorYAll1
import Derived.Test.YtpfaohdpnegjnaaDoorYAll3
import Derived.Test.YtpfaohdpnegjnaaDoorYAll4
import Derived.Test.YtpfaohdpnegjnaaDoorYWAuto
section
namespace Go.Proofs.YtpfaohdpnegjnaaDoor.P
open Go.RowKit Go.Proofs.YtpfaohdpnegjnaaDoorW.PrintWords Go.Proofs.YtpfaohdpnegjnaaDoorW.PrintLast Go.Proofs.YtpfaohdpnegjnaaDoorW.PrintMore
attribute [local go_sem] jZ jX joa jna jP jO jY jW jo
set_option linter.unusedVariables false
set_option linter.unusedSimpArgs false
mutual
def jl.l0 : Nat → List (S42) → List ByteArray → List (List (S42)) → Int → Int → List (S59) → Option (ByteArray)
 | 0,_,_,_,_,_,_=>none
 | k+1,x1,x5,x25,x26,x27,x278000=>if x27<x26 then (if 0≤x27 then (if x27<(x25.length:Int) then ((jl.f k x278000 (jqb x25 x27)).bind fun t289=>(if x5.length<8796093022208 then (jl.l0 k x1 (x5 ++ [t289]) x25 x26 (wrap64 (x27+1)) x278000) else (none))) else (none)) else (none)) else (if 0<(x1.length:Int) then ((strconv_Itoa.f ((ja x1 0).f3)).bind fun t294=>(if t294.size+1≤9223372036854775807 then ((strings_Join.f x5 (⟨#[32]⟩:ByteArray)).bind fun t295=>(if (t294 ++ (⟨#[40]⟩:ByteArray)).size+t295.size≤9223372036854775807 then (if ((t294 ++ (⟨#[40]⟩:ByteArray)) ++ t295).size+1≤9223372036854775807 then (some (((t294 ++ (⟨#[40]⟩:ByteArray)) ++ t295) ++ (⟨#[41]⟩:ByteArray))) else (none)) else (none))) else (none))) else (none))
def jl.f : Nat → List (S59) → List (S42) → Option (ByteArray)
 | 0,_,_=>none
 | k+1,l0_0,l1=>if 0<(l1.length:Int) then (if ((ja l1 0).f1=true) then ((jla.f k l1).bind fun t285=>(jl.l0 k l1 (([]:List ByteArray)) t285 (t285.length:Int) 0 l0_0)) else ((jka.f l0_0 ((ja l1 0).f2) ((ja l1 0).f3)).bind fun t281=>(some t281))) else (none)
end
def jl.T2 : Bool × List (List Nat × List Nat) := (true, [([], []), ([], []), ([1], [1]), ([2], [2]), ([3], [3]), ([], []), ([5], [5]), ([6], [6]), ([7], [7]), ([0, 4, 8], [0, 4, 8]), ([9, 9, 0, 1, 2, 3, 4, 5, 6, 7, 8, 9], [9])])
def jl.B2 : List Nat := [0, 0, 2, 6, 14, 0, 32, 96, 224, 511, 1023]
theorem jl.tab2 : rtab .any (opsOf Tryd.f18 2) = jl.T2 := by kernel_rfl
theorem jl.bits2 : job jl.T2.2 jl.B2 = true := by kernel_rfl
set_option maxHeartbeats 8000000 in
set_option maxRecDepth 100000 in
theorem jl.calls (k : Nat) : ∀ (A0_0 : Option Addr) (c0_0 : Nat) (l0_0 : List (S59)) (A1 : Option Addr) (c1 : Nat) (l1 : List (S42)) (r : ByteArray) (w : World) (hr0_0 : Kd.C k59 w A0_0 l0_0.length l0_0) (hc0_0 : l0_0.length ≤ c0_0) (hr1 : Kd.C k42 w A1 l1.length l1) (hc1 : l1.length ≤ c1) (h : jl.f k l0_0 l1 = some r),
  Calls Tryd.prog 18 #[.agg #[.slice A0_0 l0_0.length c0_0], .slice A1 l1.length c1] w fun e w'=>e=.returned (.string r)∧Below w.heap.size w w':=by
 induction k using Nat.strongRecOn with
 | _ k ih =>
 intro A0_0 c0_0 l0_0 A1 c1 l1 r w hr0_0 hc0_0 hr1 hc1 h
 cases k with
 | zero=>exact absurd h (by simp [jl.f])
 | succ k =>
 simp only [jl.f] at h
 have hu31:=Tryd.underlying31
 have HR0_0:=am hr0_0
 have HC0_0:=am hc0_0
 clear hr0_0 hc0_0
 have HR1:=am hr1
 have HC1:=am hc1
 clear hr1 hc1
 have HB:=am (Below.refl w.heap.size w)
 have H:(if 0<(l1.length:Int) then (if ((ja l1 0).f1=true) then ((jla.f k l1).bind fun t285=>(jl.l0 k l1 (([]:List ByteArray)) t285 (t285.length:Int) 0 l0_0)) else ((jka.f l0_0 ((ja l1 0).f2) ((ja l1 0).f3)).bind fun t281=>(some t281))) else (none))=some r:=h
 clear h
 by_cases c3:0<(l1.length:Int)
 ·rw [if_pos c3] at H
  have c3b0:decide (0<(l1.length:Int))=true:=dzT c3
  have c3b1:decide (0<l1.length)=true:=dzT (by omega)
  clear c3
  obtain ⟨bq4,hbq4⟩:∃ b_:Bool,b_=((ja l1 0).f1):=⟨_,rfl⟩
  replace H:(if (bq4=true) then ((jla.f k l1).bind fun t285=>(jl.l0 k l1 (([]:List ByteArray)) t285 (t285.length:Int) 0 l0_0)) else ((jka.f l0_0 ((ja l1 0).f2) ((ja l1 0).f3)).bind fun t281=>(some t281)))=some r:=by rw [← hbq4] at H;exact H
  have Nbq4:=am hbq4
  clear hbq4
  by_cases c5:(bq4=true)
  ·subst c5
   have H1:((jla.f k l1).bind fun t285=>(jl.l0 k l1 (([]:List ByteArray)) t285 (t285.length:Int) 0 l0_0))=some r:=by rw [if_pos rfl] at H;exact H
   clear H
   have H:=H1
   clear H1
   obtain ⟨y282,hy282⟩:∃ y_:List ByteArray,y_=(([]:List ByteArray)):=⟨_,rfl⟩
   replace H:((jla.f k l1).bind fun t285=>(jl.l0 k l1 y282 t285 (t285.length:Int) 0 l0_0))=some r:=by first |(rw [hy282];with_reducible exact H) |(have H2_:=(Option.bind_some _ _).symm.trans H;rw [hy282];with_reducible exact H2_) |(have H2_:=(Option.bind_some _ _).symm.trans H;with_reducible exact H2_) | with_reducible exact H |(rw [hy282];exact H) | exact H
   have Ny282:=am hy282
   clear hy282
   replace H:=bzS H
   obtain ⟨t285,A60,H⟩:=H
   replace H:(jl.l0 k l1 y282 t285 (t285.length:Int) 0 l0_0)=some r:=H
   have A6:=am A60
   clear A60
   have H':=am H
   clear H
   go_enter Tryd.func18,Tryd.ntmps18
   go_wp2_with (first |((with_reducible refine jE (N:=2) rfl ?_);refine bE (N:=2) (cs:=#[.slice A0_0 l0_0.length c0_0]) (t:=31) ?_;intro gb277 hg w7 hbox hb;have BK277:=am (hbox);have GW277:=am ((Y0:w.heap.size≤gb277));have GE277:=am ((Y0:w.heap.size≤gb277));replace HB:=am (jd (bq) hb);clear hb hbox hg;have p278:0≤(0:Int):=(by omega);have q278:0<(l1.length:Int):=ozD (uq);obtain ⟨ad278,e278,hx278_0,hx278_1,hx278_2,hx278_3⟩:=jpa HR1.out 0 p278 q278;(try rw [← Nbq4.out] at hx278_1);cases e278;have qi278:(0<l1.length)=True:=ezT (by omega);(try rw [show ((0:Int)).toNat=0 from rfl] at hx278_0);(try rw [show 0 * 4=0 from rfl] at hx278_0);(try rw [Addr.add_zero'] at hx278_0);(try rw [show ((0:Int)).toNat=0 from rfl] at hx278_1);(try rw [show 0 * 4=0 from rfl] at hx278_1);(try rw [Addr.add_zero'] at hx278_1);(try rw [show ((0:Int)).toNat=0 from rfl] at hx278_2);(try rw [show 0 * 4=0 from rfl] at hx278_2);(try rw [Addr.add_zero'] at hx278_2);(try rw [show ((0:Int)).toNat=0 from rfl] at hx278_3);(try rw [show 0 * 4=0 from rfl] at hx278_3);(try rw [Addr.add_zero'] at hx278_3);replace hx278_0:=cb HB.out hx278_0;replace hx278_1:=cb HB.out hx278_1;replace hx278_2:=cb HB.out hx278_2;replace hx278_3:=cb HB.out hx278_3;replace p278:=ezT p278;replace q278:=ezT q278) |((with_reducible refine jE (N:=23) rfl ?_);refine Kd.R_lit Kd.string _ 9 ?hg (N:=23) ?hd (xs:=([]:List ByteArray)) (inner:=[]) (ok:=fun _=>True) (okp:=fun _=>True) ?hr ?hp (fun _ hk=>hk) trivial (Below.refl _ _) (Nat.le_refl _) (by simp) ?_;(case hd=>rfl);(case hg=>rfl);(case hr=>exact Y6);(case hp=>exact (Reps.none _ _));intro v283 w8 ho9 hb hg_ hnew_;clear hg_ hnew_;(first | rw [← Ny282.out] at ho9 |(simp only [Int.reduceToNat] at ho9;rw [← Ny282.out] at ho9));have HO284:=am (Kd.jMa ho9 (jL (Y8)));replace BK277:=am (jh (g:=gb277) (o:=.cells #[.slice A0_0 l0_0.length c0_0] 31 (0,0)) (kq BK277.out) hb);replace HB:=am (jd (Y8) hb);clear hb ho9) |((with_reducible refine jC (f:=33) rfl ?_);refine gL (some 25) Tryd.func33 #[.slice (some ad278) l1.length c1] ?_;(with_reducible refine (jla.calls k _ _ l1 t285 _ ?side1 ?side2 A6.out).mono ?_);(case side1=>exact cq (Kd.jG HR1.out HB.out));(case side2=>exact HC1.out);rintro e w10 ⟨v286,rfl,ho0,hb⟩;refine ⟨_,rfl,?_⟩;have HO287:=am (Kd.S_lower ho0 (jL (Y8)));replace HO284:=am (Kd.jha (rq HO284.out) hb);replace BK277:=am (jh (g:=gb277) (o:=.cells #[.slice A0_0 l0_0.length c0_0] 31 (0,0)) (kq BK277.out) hb);replace HB:=am (jd (Y8) hb);(try clear hb);(try clear hb2);(try clear hk);(try clear hi);(try clear ho0);obtain ⟨Ao11,co11,eo11⟩:=Kd.S_slice HO287.out;subst eo11))
   go_loopg [5,27] k (fun kq v5 v27 w'=>∃ (x5_1:List ByteArray) (x27_1:Int),v27=.int .i64 x27_1∧jH (jl.l0 kq l1 x5_1 t285 (t285.length:Int) x27_1 l0_0=some r)∧jH (kq≤k)∧jH (Kd.R Kd.string 9 w' w.heap.size (fun _=>True) v5 x5_1)∧jH (Kd.S (Kd.slice 42 k42) 33 w' w.heap.size (fun _=>True) (.slice Ao11 t285.length co11) t285)∧jH (w'.heap[gb277]?=some (.cells #[(.slice A0_0 l0_0.length c0_0)] 31 (0,0)))∧jH (Below w.heap.size w w'))
   case atStart=>exact ⟨(y282),(0),(sq),H',⟨Nat.le_refl _⟩,⟨rq HO284.out⟩,⟨by (with_reducible repeat (first | apply Kd.jIa | apply Kd.jHa | apply Kd.jOa));exact HO287.out⟩,⟨kq BK277.out⟩,⟨Y8⟩⟩
   case round =>
    clear H'
    try clear c1
    try clear p2
    try clear q2
    try clear hx2
    try clear qi2
    try clear c3
    try clear c3b0
    try clear c3b1
    try clear q4
    try clear c5
    try clear hx278_0
    try clear hx278_1
    try clear hx278_2
    try clear hx278_3
    try clear p278
    try clear q278
    obtain ⟨x5_1,x27_1,rfl,HA,HK1,HO_5,HO_25,BK277,HB⟩:=hrel
    cases gk with
    | zero=>exact absurd HA.out (by simp [jl.l0])
    | succ k1 =>
     have H:=HA.out
     clear HA
     simp only [jl.l0] at H
     by_cases c12:x27_1<(t285.length:Int)
     ·rw [if_pos c12] at H
      have c12b0:decide (x27_1<(t285.length:Int))=true:=dzT c12
      clear c12
      by_cases c13:0≤x27_1
      ·rw [if_pos c13] at H
       have c13b0:decide (0≤x27_1)=true:=dzT c13
       clear c13
       by_cases c14:x27_1<(t285.length:Int)
       ·rw [if_pos c14] at H
        have c14b0:decide (x27_1<(t285.length:Int))=true:=dzT c14
        clear c14
        replace H:=bzS H
        obtain ⟨t289,A150,H⟩:=H
        replace H:(if x5_1.length<8796093022208 then (jl.l0 k1 l1 (x5_1 ++ [t289]) t285 (t285.length:Int) (wrap64 (x27_1+1)) l0_0) else (none))=some r:=H
        have A15:=am A150
        clear A150
        by_cases c16:x5_1.length<8796093022208
        ·rw [if_pos c16] at H
         have LMc16:=am c16
         clear c16
         obtain ⟨y290,hy290⟩:∃ y_:List ByteArray,y_=(x5_1 ++ [t289]):=⟨_,rfl⟩
         replace H:(jl.l0 k1 l1 y290 t285 (t285.length:Int) (wrap64 (x27_1+1)) l0_0)=some r:=by first |(rw [hy290];with_reducible exact H) |(have H2_:=(Option.bind_some _ _).symm.trans H;rw [hy290];with_reducible exact H2_) |(have H2_:=(Option.bind_some _ _).symm.trans H;with_reducible exact H2_) | with_reducible exact H |(rw [hy290];exact H) | exact H
         have Ny290:=am hy290
         clear hy290
         have H':=am H
         clear H
         have p288:0≤(x27_1:Int):=ozD (uq)
         have q288:x27_1<(t285.length:Int):=ozD (uq)
         obtain ⟨ad288,A288_0,c288_0,e288,hx288_0,hl288_0,hi288_0⟩:=at_L9 (Kd.jtb HO_25.out).2.2 x27_1 p288 q288
         cases e288
         obtain ⟨ce288,hce288,hMe288,hcc288⟩:=Kd.S_get HO_25.out [] x27_1 p288 (by first | exact q288 | exact ozD (uq) |(have e_:=(Kd.jtb HO_25.out).1;omega))
         obtain ⟨ve288_0,rfl,ge288_0⟩:=hMe288
         have hv288_0:=hcc288 0 _ rfl
         rw [Nat.add_zero,show ((Kd.slice 42 k42)).sz=1 from rfl,Nat.mul_one] at hv288_0
         replace hv288_0:=Option.some.inj (hv288_0.symm.trans hx288_0)
         rw [hv288_0] at ge288_0
         have HL288_0:=am (show Kd.R k42 42 _ _ _ _ (jqb t285 x27_1) from ge288_0)
         clear hv288_0 ge288_0
         clear hcc288 hce288
         have HR288_0:=am hi288_0
         have HC288_0:=am hl288_0
         clear hi288_0 hl288_0
         replace p288:=ezT p288
         replace q288:=ezT q288
         have hcz17_0:=bc0 BK277.out
         have hfz17_0:=jb BK277.out 0
         go_wp2_with (first |((with_reducible refine jC (f:=18) rfl ?_);refine gL (some 34) Tryd.func18 #[.agg #[.slice A0_0 l0_0.length c0_0], .slice A288_0 (jqb t285 x27_1).length c288_0] ?_;(with_reducible refine (ih k1 (by have:=HK1.out;omega) _ _ l0_0 _ _ (jqb t285 x27_1) t289 _ ?side1 ?side2 ?side3 ?side4 A15.out).mono ?_);(case side1=>exact cq (Kd.jG HR0_0.out HB.out));(case side2=>exact HC0_0.out);(case side3=>repeat (first | exact (by repeat (first |(with_reducible exact HR288_0.out) |(with_reducible refine Kd.jcb ?_ _) |(with_reducible refine Kd.jWa ?_ _) |(with_reducible refine Kd.C_drew ?_) | exact HR288_0.out)) |(with_reducible refine Kd.jcb ?_ _) |(with_reducible refine Kd.jWa ?_ _) |(with_reducible refine Kd.C_drew ?_)));(case side4=>exact HC288_0.out);rintro e w18 ⟨rfl,hb⟩;refine ⟨_,rfl,?_⟩;replace HO_5:=am (Kd.jha (rq HO_5.out) hb);replace HO_25:=am (Kd.S_below (Y40) hb);replace HL288_0:=am (Kd.jha (rq HL288_0.out) hb);replace BK277:=am (jh (g:=gb277) (o:=.cells #[.slice A0_0 l0_0.length c0_0] 31 (0,0)) (kq BK277.out) hb);replace HR288_0:=am (Kd.jG (by repeat (first |(with_reducible exact HR288_0.out) |(with_reducible refine Kd.jcb ?_ _) |(with_reducible refine Kd.jWa ?_ _) |(with_reducible refine Kd.C_drew ?_) | exact HR288_0.out)) hb);replace HB:=am (jd (Y8) hb);(try clear hb);(try clear hb2);(try clear hk);(try clear hi)) |((with_reducible refine jmb (b:=.append) (xs:=#[.tmp 31, .tmp 35]) rfl ?_);at_builtin;refine Kd.R_append Kd.string (w0:=w) w.heap.size rfl (.tmp 31) (.tmp 35) 62 9 (.string ⟨#[]⟩) 16 rfl Tryd.underlying62 info9 rfl (by decide) (by omega) u5 x5_1 t289 [.string t289] (fun _=>True) (fun _=>False) rfl rfl ?aP (fun _ hk=>hk.elim) ?aF ?aO ?aB ?aS ?aL ?_;(case aP=>exact rfl);(case aB=>exact (Y8));(case aF=>exact (fun _ _=>trivial));(case aO=>exact (rq HO_5.out));(case aS=>exact (jL (Y8)));(case aL=>have:=LMc16.out;omega);intro v291 w19 ho hb hg hat;rw [← Ny290.out] at ho;have n0_:=am (Kd.S_over' (Y40) (Kd.R_typed (rq HO_5.out)) (by decide) hg);have n1_:=am (blk_grown (g:=gb277) (o:=.cells #[.slice A0_0 l0_0.length c0_0] 31 (0,0)) (kq BK277.out) hg (Kd.R_ne HO_5.out BK277.out (by decide)));have n2_:=am (Kd.R_over' (rq HL288_0.out) (Kd.R_typed (rq HO_5.out)) (by decide) hg);have n3_:=am (hb);have n4_:=am (ho);clear HO_25 BK277 HL288_0 HB HO_5;have HO_25:=n0_;have BK277:=n1_;have HL288_0:=n2_;have HB:=n3_;have HO292:=n4_;clear n0_ n1_ n2_ n3_ n4_ ho hb hg hat))
         go_roundg k1
         case measure=>have:=HK1.out;omega
         case rel=>((try rw [← Nbq4.out]);exact ⟨(y290),(wrap64 (x27_1+1)),(sq),H',⟨by have:=HK1.out;omega⟩,⟨rq HO292.out⟩,⟨by (with_reducible repeat (first | apply Kd.jIa | apply Kd.jHa | apply Kd.jOa));exact HO_25.out⟩,⟨kq BK277.out⟩,⟨Y8⟩⟩)
        ·rw [if_neg c16] at H
         exact absurd H (by simp)
       ·rw [if_neg c14] at H
        exact absurd H (by simp)
      ·rw [if_neg c13] at H
       exact absurd H (by simp)
     ·rw [if_neg c12] at H
      have c12b0:decide (x27_1<(t285.length:Int))=false:=dzF c12
      clear c12
      by_cases c20:0<(l1.length:Int)
      ·rw [if_pos c20] at H
       have c20b0:decide (0<(l1.length:Int))=true:=dzT c20
       have c20b1:decide (0<l1.length)=true:=dzT (by omega)
       clear c20
       replace H:=bzS H
       obtain ⟨t294,A210,H⟩:=H
       replace H:(if t294.size+1≤9223372036854775807 then ((strings_Join.f x5_1 (⟨#[32]⟩:ByteArray)).bind fun t295=>(if (t294 ++ (⟨#[40]⟩:ByteArray)).size+t295.size≤9223372036854775807 then (if ((t294 ++ (⟨#[40]⟩:ByteArray)) ++ t295).size+1≤9223372036854775807 then (some (((t294 ++ (⟨#[40]⟩:ByteArray)) ++ t295) ++ (⟨#[41]⟩:ByteArray))) else (none)) else (none))) else (none))=some r:=H
       have A21:=am A210
       clear A210
       by_cases c22:t294.size+1≤9223372036854775807
       ·rw [if_pos c22] at H
        have c22b0:=ezT c22
        have c22b1:decide (t294.size+1≤9223372036854775807)=true:=dzT c22
        try have c22b2:(9223372036854775807<t294.size+1)=False:=eq_false (Nat.not_lt.2 c22)
        replace H:=bzS H
        obtain ⟨t295,A230,H⟩:=H
        replace H:(if (t294 ++ (⟨#[40]⟩:ByteArray)).size+t295.size≤9223372036854775807 then (if ((t294 ++ (⟨#[40]⟩:ByteArray)) ++ t295).size+1≤9223372036854775807 then (some (((t294 ++ (⟨#[40]⟩:ByteArray)) ++ t295) ++ (⟨#[41]⟩:ByteArray))) else (none)) else (none))=some r:=H
        have A23:=am A230
        clear A230
        by_cases c24:(t294 ++ (⟨#[40]⟩:ByteArray)).size+t295.size≤9223372036854775807
        ·rw [if_pos c24] at H
         have c24b0:=ezT c24
         have c24b1:decide ((t294 ++ (⟨#[40]⟩:ByteArray)).size+t295.size≤9223372036854775807)=true:=dzT c24
         try have c24b2:(9223372036854775807<(t294 ++ (⟨#[40]⟩:ByteArray)).size+t295.size)=False:=eq_false (Nat.not_lt.2 c24)
         try have c24s:(9223372036854775807<t294.size+1+t295.size)=False:=eq_false (Nat.not_lt.2 (by have h_:=c24;simp only [ByteArray.size_append] at h_;exact h_))
         by_cases c25:((t294 ++ (⟨#[40]⟩:ByteArray)) ++ t295).size+1≤9223372036854775807
         ·rw [if_pos c25] at H
          have c25b0:=ezT c25
          have c25b1:decide (((t294 ++ (⟨#[40]⟩:ByteArray)) ++ t295).size+1≤9223372036854775807)=true:=dzT c25
          try have c25b2:(9223372036854775807<((t294 ++ (⟨#[40]⟩:ByteArray)) ++ t295).size+1)=False:=eq_false (Nat.not_lt.2 c25)
          try have c25s:(9223372036854775807<t294.size+1+t295.size+1)=False:=eq_false (Nat.not_lt.2 (by have h_:=c25;simp only [ByteArray.size_append] at h_;exact h_))
          obtain rfl:=Option.some.inj H
          have p293:0≤(0:Int):=(by omega)
          have q293:0<(l1.length:Int):=ozD (uq)
          obtain ⟨ad293,e293,hx293_0,hx293_1,hx293_2,hx293_3⟩:=jpa HR1.out 0 p293 q293
          (try rw [← Nbq4.out] at hx293_1)
          obtain rfl:ad278=ad293:=(by injection e293)
          have qi293:(0<l1.length)=True:=ezT (by omega)
          (try rw [show ((0:Int)).toNat=0 from rfl] at hx293_0)
          (try rw [show 0 * 4=0 from rfl] at hx293_0)
          (try rw [Addr.add_zero'] at hx293_0)
          (try rw [show ((0:Int)).toNat=0 from rfl] at hx293_1)
          (try rw [show 0 * 4=0 from rfl] at hx293_1)
          (try rw [Addr.add_zero'] at hx293_1)
          (try rw [show ((0:Int)).toNat=0 from rfl] at hx293_2)
          (try rw [show 0 * 4=0 from rfl] at hx293_2)
          (try rw [Addr.add_zero'] at hx293_2)
          (try rw [show ((0:Int)).toNat=0 from rfl] at hx293_3)
          (try rw [show 0 * 4=0 from rfl] at hx293_3)
          (try rw [Addr.add_zero'] at hx293_3)
          replace hx293_0:=cb HB.out hx293_0
          replace hx293_1:=cb HB.out hx293_1
          replace hx293_2:=cb HB.out hx293_2
          replace hx293_3:=cb HB.out hx293_3
          replace p293:=ezT p293
          replace q293:=ezT q293
          go_wp2_with (first |((with_reducible refine jC (f:=34) rfl ?_);refine gL (some 42) Tryd.func34 #[.int .i64 ((ja l1 0).f3)] ?_;(with_reducible refine (strconv_Itoa.calls ((ja l1 0).f3) t294 _ A21.out).mono ?_);rintro e w' ⟨rfl,⟨nd,rfl⟩⟩;refine ⟨_,rfl,?_⟩;obtain ⟨Ao26,co26,eo26⟩:=Kd.jVa HO_5.out;subst eo26) |((with_reducible refine jC (f:=35) rfl ?_);refine gL (some 45) Tryd.func35 #[.slice Ao26 x5_1.length co26, .string (⟨#[32]⟩:ByteArray)] ?_;(with_reducible refine (strings_Join.calls _ _ x5_1 (⟨#[32]⟩:ByteArray) t295 _ ?side1 ?side2 A23.out (join_at (rq HO_5.out))).mono ?_);(case side1=>exact cq (Kd.jqa HO_5.out).2.2);(case side2=>exact (Kd.jqa HO_5.out).2.1);rintro e w27 ⟨rfl,hb⟩;refine ⟨_,rfl,?_⟩;replace HO_5:=am (Kd.jha (rq HO_5.out) hb);replace HO_25:=am (Kd.S_below (Y40) hb);replace BK277:=am (jh (g:=gb277) (o:=.cells #[.slice A0_0 l0_0.length c0_0] 31 (0,0)) (kq BK277.out) hb);replace HB:=am (jd (Y8) hb);(try clear hb);(try clear hb2);(try clear hk);(try clear hi)))
          go_ret
          exact ⟨Y1,Y8⟩
         ·rw [if_neg c25] at H
          exact absurd H (by simp)
        ·rw [if_neg c24] at H
         exact absurd H (by simp)
       ·rw [if_neg c22] at H
        exact absurd H (by simp)
      ·rw [if_neg c20] at H
       exact absurd H (by simp)
  ·replace c5:=Bool.eq_false_iff.mpr c5
   subst c5
   have H1:((jka.f l0_0 ((ja l1 0).f2) ((ja l1 0).f3)).bind fun t281=>(some t281))=some r:=by rw [if_neg (show ¬ (false=true) by decide)] at H;exact H
   clear H
   have H:=H1
   clear H1
   replace H:=bzS H
   obtain ⟨t281,A280,H⟩:=H
   replace H:(some t281)=some r:=H
   have A28:=am A280
   clear A280
   obtain rfl:=Option.some.inj H
   go_enter Tryd.func18,Tryd.ntmps18
   try go_wp2_with (first |((with_reducible refine jE (N:=2) rfl ?_);refine bE (N:=2) (cs:=#[.slice A0_0 l0_0.length c0_0]) (t:=31) ?_;intro gb277 hg w29 hbox hb;have BK277:=am (hbox);have GW277:=am ((Y0:w.heap.size≤gb277));have GE277:=am ((Y0:w.heap.size≤gb277));replace HB:=am (jd (bq) hb);clear hb hbox hg;have p278:0≤(0:Int):=(by omega);have q278:0<(l1.length:Int):=ozD (uq);obtain ⟨ad278,e278,hx278_0,hx278_1,hx278_2,hx278_3⟩:=jpa HR1.out 0 p278 q278;(try rw [← Nbq4.out] at hx278_1);cases e278;have qi278:(0<l1.length)=True:=ezT (by omega);(try rw [show ((0:Int)).toNat=0 from rfl] at hx278_0);(try rw [show 0 * 4=0 from rfl] at hx278_0);(try rw [Addr.add_zero'] at hx278_0);(try rw [show ((0:Int)).toNat=0 from rfl] at hx278_1);(try rw [show 0 * 4=0 from rfl] at hx278_1);(try rw [Addr.add_zero'] at hx278_1);(try rw [show ((0:Int)).toNat=0 from rfl] at hx278_2);(try rw [show 0 * 4=0 from rfl] at hx278_2);(try rw [Addr.add_zero'] at hx278_2);(try rw [show ((0:Int)).toNat=0 from rfl] at hx278_3);(try rw [show 0 * 4=0 from rfl] at hx278_3);(try rw [Addr.add_zero'] at hx278_3);replace hx278_0:=cb HB.out hx278_0;replace hx278_1:=cb HB.out hx278_1;replace hx278_2:=cb HB.out hx278_2;replace hx278_3:=cb HB.out hx278_3;replace p278:=ezT p278;replace q278:=ezT q278))
   replace BK277:=am (jk BK277.out)
   replace HB:=am (jv HB.out)
   have p279:0≤(0:Int):=(by omega)
   have q279:0<(l1.length:Int):=ozD (uq)
   obtain ⟨ad279,e279,hx279_0,hx279_1,hx279_2,hx279_3⟩:=jpa HR1.out 0 p279 q279
   have hw279_3:=hx279_3
   (try rw [show ((0:Int)).toNat=0 from rfl] at hw279_3)
   (try rw [show 0 * 4=0 from rfl] at hw279_3)
   (try rw [Addr.add_zero'] at hw279_3)
   have hw279_2:=hx279_2
   (try rw [show ((0:Int)).toNat=0 from rfl] at hw279_2)
   (try rw [show 0 * 4=0 from rfl] at hw279_2)
   (try rw [Addr.add_zero'] at hw279_2)
   have hw279_1:=hx279_1
   (try rw [show ((0:Int)).toNat=0 from rfl] at hw279_1)
   (try rw [show 0 * 4=0 from rfl] at hw279_1)
   (try rw [Addr.add_zero'] at hw279_1)
   have hw279_0:=hx279_0
   (try rw [show ((0:Int)).toNat=0 from rfl] at hw279_0)
   (try rw [show 0 * 4=0 from rfl] at hw279_0)
   (try rw [Addr.add_zero'] at hw279_0)
   (try rw [← Nbq4.out] at hx279_1)
   (try rw [← Nbq4.out] at hw279_1)
   obtain rfl:ad278=ad279:=(by injection e279)
   have qi279:(0<l1.length)=True:=ezT (by omega)
   (try rw [show ((0:Int)).toNat=0 from rfl] at hx279_0)
   (try rw [show 0 * 4=0 from rfl] at hx279_0)
   (try rw [Addr.add_zero'] at hx279_0)
   (try rw [show ((0:Int)).toNat=0 from rfl] at hx279_1)
   (try rw [show 0 * 4=0 from rfl] at hx279_1)
   (try rw [Addr.add_zero'] at hx279_1)
   (try rw [show ((0:Int)).toNat=0 from rfl] at hx279_2)
   (try rw [show 0 * 4=0 from rfl] at hx279_2)
   (try rw [Addr.add_zero'] at hx279_2)
   (try rw [show ((0:Int)).toNat=0 from rfl] at hx279_3)
   (try rw [show 0 * 4=0 from rfl] at hx279_3)
   (try rw [Addr.add_zero'] at hx279_3)
   replace hx279_0:=cb HB.out hx279_0
   replace hx279_1:=cb HB.out hx279_1
   replace hx279_2:=cb HB.out hx279_2
   replace hx279_3:=cb HB.out hx279_3
   replace p279:=ezT p279
   replace q279:=ezT q279
   have p280:0≤(0:Int):=(by omega)
   have q280:0<(l1.length:Int):=ozD (uq)
   obtain ⟨ad280,e280,hx280_0,hx280_1,hx280_2,hx280_3⟩:=jpa HR1.out 0 p280 q280
   have hw280_3:=hx280_3
   (try rw [show ((0:Int)).toNat=0 from rfl] at hw280_3)
   (try rw [show 0 * 4=0 from rfl] at hw280_3)
   (try rw [Addr.add_zero'] at hw280_3)
   have hw280_2:=hx280_2
   (try rw [show ((0:Int)).toNat=0 from rfl] at hw280_2)
   (try rw [show 0 * 4=0 from rfl] at hw280_2)
   (try rw [Addr.add_zero'] at hw280_2)
   have hw280_1:=hx280_1
   (try rw [show ((0:Int)).toNat=0 from rfl] at hw280_1)
   (try rw [show 0 * 4=0 from rfl] at hw280_1)
   (try rw [Addr.add_zero'] at hw280_1)
   have hw280_0:=hx280_0
   (try rw [show ((0:Int)).toNat=0 from rfl] at hw280_0)
   (try rw [show 0 * 4=0 from rfl] at hw280_0)
   (try rw [Addr.add_zero'] at hw280_0)
   (try rw [← Nbq4.out] at hx280_1)
   (try rw [← Nbq4.out] at hw280_1)
   obtain rfl:ad278=ad280:=(by injection e280)
   have qi280:(0<l1.length)=True:=ezT (by omega)
   (try rw [show ((0:Int)).toNat=0 from rfl] at hx280_0)
   (try rw [show 0 * 4=0 from rfl] at hx280_0)
   (try rw [Addr.add_zero'] at hx280_0)
   (try rw [show ((0:Int)).toNat=0 from rfl] at hx280_1)
   (try rw [show 0 * 4=0 from rfl] at hx280_1)
   (try rw [Addr.add_zero'] at hx280_1)
   (try rw [show ((0:Int)).toNat=0 from rfl] at hx280_2)
   (try rw [show 0 * 4=0 from rfl] at hx280_2)
   (try rw [Addr.add_zero'] at hx280_2)
   (try rw [show ((0:Int)).toNat=0 from rfl] at hx280_3)
   (try rw [show 0 * 4=0 from rfl] at hx280_3)
   (try rw [Addr.add_zero'] at hx280_3)
   replace hx280_0:=cb HB.out hx280_0
   replace hx280_1:=cb HB.out hx280_1
   replace hx280_2:=cb HB.out hx280_2
   replace hx280_3:=cb HB.out hx280_3
   replace p280:=ezT p280
   replace q280:=ezT q280
   refine start_ (n:=11) (S:=fun w'=>w'.cell? ⟨gb277,0,none⟩=some (.slice A0_0 l0_0.length c0_0)∧w'.cell? ad278=some (.int .i64 ((ja l1 0).f0))∧w'.cell? ⟨ad278.block,ad278.off+1,none⟩=some (.bool (false))∧w'.cell? ⟨ad278.block,ad278.off+2,none⟩=some (.int .i64 ((ja l1 0).f2))∧w'.cell? ⟨ad278.block,ad278.off+3,none⟩=some (.int .i64 ((ja l1 0).f3))∧w'.cell? ad278=some (.int .i64 ((ja l1 0).f0))∧w'.cell? ⟨ad278.block,ad278.off+1,none⟩=some (.bool (false))∧w'.cell? ⟨ad278.block,ad278.off+2,none⟩=some (.int .i64 ((ja l1 0).f2))∧w'.cell? ⟨ad278.block,ad278.off+3,none⟩=some (.int .i64 ((ja l1 0).f3))) (ds:=[]) #[false,false,false,false,false,false,false,false,false,false,false] (by kernel_rfl) rfl rfl ⟨(jBa BK277.out 0).trans rfl,((HB.out.cell (World.block_lt_of_cell? w _ hw279_0)).trans hw279_0),((HB.out.cell (World.block_lt_of_cell? w _ hw279_1)).trans hw279_1),((HB.out.cell (World.block_lt_of_cell? w _ hw279_2)).trans hw279_2),((HB.out.cell (World.block_lt_of_cell? w _ hw279_3)).trans hw279_3),((HB.out.cell (World.block_lt_of_cell? w _ hw280_0)).trans hw280_0),((HB.out.cell (World.block_lt_of_cell? w _ hw280_1)).trans hw280_1),((HB.out.cell (World.block_lt_of_cell? w _ hw280_2)).trans hw280_2),((HB.out.cell (World.block_lt_of_cell? w _ hw280_3)).trans hw280_3)⟩ (fun hHeld=>?_);refine jPa jl.tab2 jl.bits2 (fun HT_ HW_=>?_)
   generalize w29.drew=w30 at BK277 HB hx279_0 hx279_1 hx279_2 hx279_3 hx280_0 hx280_1 hx280_2 hx280_3 hHeld ⊢
   refine pq (i:=1) (N:=some 14) #[false,true,false,false,false,false,false,false,false,false,false] ?_
   refine pq (i:=2) (N:=some 15) #[false,true,true,false,false,false,false,false,false,false,false] ?_
   refine pq (i:=3) (N:=some 16) #[false,true,true,true,false,false,false,false,false,false,false] ?_
   refine pq (i:=5) (N:=some 18) #[false,true,true,true,false,true,false,false,false,false,false] ?_
   refine pq (i:=6) (N:=some 19) #[false,true,true,true,false,true,true,false,false,false,false] ?_
   refine pq (i:=7) (N:=some 20) #[false,true,true,true,false,true,true,true,false,false,false] ?_
   refine jgb (i:=0) (N:=some 13) (v:=?_) (a':=?_) #[true,true,true,true,false,true,true,true,false,false,false] rfl rfl (jza HT_.out HW_.out (by kernel_rfl)) (fun _ _ _ h=>h) (Or.inl ⟨by rfl,?_⟩) hHeld ?_ ?_
   rotate_left
   ·rintro w' ⟨s0,s1,s2,s3,s4,s5,s6,s7,s8⟩
    go_simp
    with_reducible rfl
   rotate_left
   ·exact sa
   refine jgb (i:=4) (N:=some 17) (v:=?_) (a':=?_) #[true,true,true,true,true,true,true,true,false,false,false] rfl rfl (jza HT_.out HW_.out (by kernel_rfl)) (fun _ _ _ h=>h) (Or.inl ⟨by rfl,?_⟩) hHeld ?_ ?_
   rotate_left
   ·rintro w' ⟨s0,s1,s2,s3,s4,s5,s6,s7,s8⟩
    go_simp
    with_reducible rfl
   rotate_left
   ·exact sa
   refine jgb (i:=8) (N:=some 21) (v:=?_) (a':=?_) #[true,true,true,true,true,true,true,true,true,false,false] rfl rfl (jza HT_.out HW_.out (by kernel_rfl)) (fun _ _ _ h=>h) (Or.inl ⟨by rfl,?_⟩) hHeld ?_ ?_
   rotate_left
   ·rintro w' ⟨s0,s1,s2,s3,s4,s5,s6,s7,s8⟩
    go_simp
    with_reducible rfl
   rotate_left
   ·exact sa
   refine one_ (i:=9) (N:=some 22) #[true,true,true,true,true,true,true,true,true,true,false] rfl rfl (one_of HT_.out (by kernel_rfl)) (by decide) (fun K hK=>?_)
   refine goes_ Tryd.func32 (by kernel_rfl) rfl #[.agg #[.slice A0_0 l0_0.length c0_0], .int .i64 ((ja l1 0).f2), .int .i64 ((ja l1 0).f3)] (by rfl) rfl rfl (aq) ?_
   with_reducible refine (jka.calls _ _ l0_0 ((ja l1 0).f2) ((ja l1 0).f3) t281 _ ?side1 ?side2 A28.out).mono ?_
   (case side1=>exact cq (Kd.jG HR0_0.out HB.out))
   (case side2=>exact HC0_0.out)
   rintro e w31 ⟨rfl,hb⟩
   refine ⟨_,rfl,?_⟩
   replace BK277:=am (jh (g:=gb277) (o:=.cells #[.slice A0_0 l0_0.length c0_0] 31 (0,0)) (kq BK277.out) hb)
   replace HB:=am (jd (Y8) hb)
   (try clear hb)
   (try clear hb2)
   (try clear hk)
   (try clear hi)
   refine hK.out _ _ ⟨(jBa BK277.out 0).trans rfl,((HB.out.cell (World.block_lt_of_cell? w _ hw279_0)).trans hw279_0),((HB.out.cell (World.block_lt_of_cell? w _ hw279_1)).trans hw279_1),((HB.out.cell (World.block_lt_of_cell? w _ hw279_2)).trans hw279_2),((HB.out.cell (World.block_lt_of_cell? w _ hw279_3)).trans hw279_3),((HB.out.cell (World.block_lt_of_cell? w _ hw280_0)).trans hw280_0),((HB.out.cell (World.block_lt_of_cell? w _ hw280_1)).trans hw280_1),((HB.out.cell (World.block_lt_of_cell? w _ hw280_2)).trans hw280_2),((HB.out.cell (World.block_lt_of_cell? w _ hw280_3)).trans hw280_3)⟩ (fun hHeld=>?_)
   clear hK K
   refine norm_ (a':=?_) ?_ ?_
   rotate_left
   ·show Act.put _ (some 22) _=_
    simp only [Act.put,List.setIfInBounds_toArray,List.set_cons_zero,List.set_cons_succ,jRa,jYa]
    rfl
   refine pq (i:=10) (N:=some 4) #[true,true,true,true,true,true,true,true,true,true,true] ?_
   refine done_ (jsb HT_.out (by kernel_rfl)) ?_
   try go_wp2
   go_ret
   exact ⟨Y1,Y8⟩
 ·rw [if_neg c3] at H
  exact absurd H (by simp)
def jia.f (k : Nat) (l0_0 : List (S59)) (l1 : List (S42)) : Option (ByteArray) := (jya.f k l0_0 l1).bind fun t297 => (if t297 = true then ((jl.f k l0_0 l1).bind fun t298 => (some t298)) else (some (⟨#[]⟩ : ByteArray)))
set_option maxHeartbeats 8000000 in
set_option maxRecDepth 100000 in
theorem jia.calls (k : Nat) (A0_0 : Option Addr) (c0_0 : Nat) (l0_0 : List (S59)) (A1 : Option Addr) (c1 : Nat) (l1 : List (S42)) (r : ByteArray) (w : World) (hr0_0 : Kd.C k59 w A0_0 l0_0.length l0_0) (hc0_0 : l0_0.length ≤ c0_0) (hr1 : Kd.C k42 w A1 l1.length l1) (hc1 : l1.length ≤ c1) (h : jia.f k l0_0 l1 = some r) :
  Calls Tryd.prog 9 #[.agg #[.slice A0_0 l0_0.length c0_0], .slice A1 l1.length c1] w fun e w'=>e=.returned (.string r)∧Below w.heap.size w w':=by
 have hu31:=Tryd.underlying31
 have HR0_0:=am hr0_0
 have HC0_0:=am hc0_0
 clear hr0_0 hc0_0
 have HR1:=am hr1
 have HC1:=am hc1
 clear hr1 hc1
 have HB:=am (Below.refl w.heap.size w)
 have H:((jya.f k l0_0 l1).bind fun t297=>(if t297=true then ((jl.f k l0_0 l1).bind fun t298=>(some t298)) else (some (⟨#[]⟩:ByteArray))))=some r:=h
 clear h
 replace H:=bzS H
 obtain ⟨t297,A30,H⟩:=H
 replace H:(if t297=true then ((jl.f k l0_0 l1).bind fun t298=>(some t298)) else (some (⟨#[]⟩:ByteArray)))=some r:=H
 have A3:=am A30
 clear A30
 by_cases c4:t297=true
 ·subst c4
  have H1:((jl.f k l0_0 l1).bind fun t298=>(some t298))=some r:=by rw [if_pos rfl] at H;exact H
  clear H
  have H:=H1
  clear H1
  replace H:=bzS H
  obtain ⟨t298,A50,H⟩:=H
  replace H:(some t298)=some r:=H
  have A5:=am A50
  clear A50
  obtain rfl:=Option.some.inj H
  go_enter Tryd.func9,Tryd.ntmps9
  go_wp2_with (first |((with_reducible refine jE (N:=2) rfl ?_);refine bE (N:=2) (cs:=#[.slice A0_0 l0_0.length c0_0]) (t:=31) ?_;intro gb296 hg w6 hbox hb;have BK296:=am (hbox);have GW296:=am ((Y0:w.heap.size≤gb296));have GE296:=am ((Y0:w.heap.size≤gb296));replace HB:=am (jd (bq) hb);clear hb hbox hg;have hcz7_0:=bc0 BK296.out;have hfz7_0:=jb BK296.out 0) |((with_reducible refine jC (f:=17) rfl ?_);refine gL (some 7) Tryd.func17 #[.agg #[.slice A0_0 l0_0.length c0_0], .slice A1 l1.length c1] ?_;(with_reducible refine (jya.calls k _ _ l0_0 _ _ l1 true _ ?side1 ?side2 ?side3 ?side4 A3.out).mono ?_);(case side1=>exact cq (Kd.jG HR0_0.out HB.out));(case side2=>exact HC0_0.out);(case side3=>exact cq (Kd.jG HR1.out HB.out));(case side4=>exact HC1.out);rintro e w8 ⟨rfl,hb⟩;refine ⟨_,rfl,?_⟩;replace BK296:=am (jh (g:=gb296) (o:=.cells #[.slice A0_0 l0_0.length c0_0] 31 (0,0)) (kq BK296.out) hb);replace HB:=am (jd (Y23) hb);(try clear hb);(try clear hb2);(try clear hk);(try clear hi);have hcz9_0:=bc0 BK296.out;have hfz9_0:=jb BK296.out 0) |((with_reducible refine jC (f:=18) rfl ?_);refine gL (some 11) Tryd.func18 #[.agg #[.slice A0_0 l0_0.length c0_0], .slice A1 l1.length c1] ?_;(with_reducible refine (jl.calls k _ _ l0_0 _ _ l1 t298 _ ?side1 ?side2 ?side3 ?side4 A5.out).mono ?_);(case side1=>exact cq (Kd.jG HR0_0.out HB.out));(case side2=>exact HC0_0.out);(case side3=>exact cq (Kd.jG HR1.out HB.out));(case side4=>exact HC1.out);rintro e w10 ⟨rfl,hb⟩;refine ⟨_,rfl,?_⟩;replace BK296:=am (jh (g:=gb296) (o:=.cells #[.slice A0_0 l0_0.length c0_0] 31 (0,0)) (kq BK296.out) hb);replace HB:=am (jd (Y23) hb);(try clear hb);(try clear hb2);(try clear hk);(try clear hi)))
  go_ret
  exact ⟨Y1,Y23⟩
 ·replace c4:=Bool.eq_false_iff.mpr c4
  subst c4
  have H1:(some (⟨#[]⟩:ByteArray))=some r:=by rw [if_neg (show ¬ (false=true) by decide)] at H;exact H
  clear H
  have H:=H1
  clear H1
  obtain rfl:=Option.some.inj H
  go_enter Tryd.func9,Tryd.ntmps9
  go_wp2_with (first |((with_reducible refine jE (N:=2) rfl ?_);refine bE (N:=2) (cs:=#[.slice A0_0 l0_0.length c0_0]) (t:=31) ?_;intro gb296 hg w11 hbox hb;have BK296:=am (hbox);have GW296:=am ((Y0:w.heap.size≤gb296));have GE296:=am ((Y0:w.heap.size≤gb296));replace HB:=am (jd (bq) hb);clear hb hbox hg;have hcz12_0:=bc0 BK296.out;have hfz12_0:=jb BK296.out 0) |((with_reducible refine jC (f:=17) rfl ?_);refine gL (some 7) Tryd.func17 #[.agg #[.slice A0_0 l0_0.length c0_0], .slice A1 l1.length c1] ?_;(with_reducible refine (jya.calls k _ _ l0_0 _ _ l1 false _ ?side1 ?side2 ?side3 ?side4 A3.out).mono ?_);(case side1=>exact cq (Kd.jG HR0_0.out HB.out));(case side2=>exact HC0_0.out);(case side3=>exact cq (Kd.jG HR1.out HB.out));(case side4=>exact HC1.out);rintro e w13 ⟨rfl,hb⟩;refine ⟨_,rfl,?_⟩;replace BK296:=am (jh (g:=gb296) (o:=.cells #[.slice A0_0 l0_0.length c0_0] 31 (0,0)) (kq BK296.out) hb);replace HB:=am (jd (Y23) hb);(try clear hb);(try clear hb2);(try clear hk);(try clear hi)))
  go_ret
  exact ⟨Y1,Y23⟩
def jNa.f (a0_0 : ByteArray) (a0_1 : Int) (a1_0 : ByteArray) (a1_1 : Int) : Option (Bool) := if a0_0.toList = a1_0.toList then (if a0_1 = a1_1 then (some true) else (some false)) else (some false)
set_option maxHeartbeats 8000000 in
set_option maxRecDepth 100000 in
theorem jNa.calls (a0_0 : ByteArray) (a0_1 : Int) (a1_0 : ByteArray) (a1_1 : Int) (r : Bool) (w : World) (h : jNa.f a0_0 a0_1 a1_0 a1_1 = some r) :
  Calls Tryd.prog 36 #[.agg #[.string a0_0, .int .i64 a0_1], .agg #[.string a1_0, .int .i64 a1_1]] w fun e w'=>e=.returned (.bool r)∧Below w.heap.size w w':=by
 have hu59:=Tryd.underlying59
 have HB:=am (Below.refl w.heap.size w)
 have H:(if a0_0.toList=a1_0.toList then (if a0_1=a1_1 then (some true) else (some false)) else (some false))=some r:=h
 clear h
 by_cases c3:a0_0.toList=a1_0.toList
 ·rw [if_pos c3] at H
  have c3b0:(a0_0.toList == a1_0.toList)=true:=beq_iff_eq.mpr c3
  have c3b1:(a0_0.toList != a1_0.toList)=false:=bne_eq_false_iff_eq.mpr c3
  clear c3
  by_cases c4:a0_1=a1_1
  ·rw [if_pos c4] at H
   have c4b0:(a0_1 == a1_1)=true:=beq_iff_eq.mpr c4
   have c4b1:(a0_1 != a1_1)=false:=bne_eq_false_iff_eq.mpr c4
   clear c4
   obtain rfl:=Option.some.inj H
   go_enter Tryd.func36,Tryd.ntmps36
   go_wp2_with (first |((with_reducible refine jE (N:=2) rfl ?_);refine bE (N:=2) (cs:=#[.string a0_0, .int .i64 a0_1]) (t:=59) ?_;intro gb299 hg w5 hbox hb;have BK299:=am (hbox);have GW299:=am ((Y0:w.heap.size≤gb299));have GE299:=am ((Y0:w.heap.size≤gb299));replace HB:=am (jd (bq) hb);clear hb hbox hg) |((with_reducible refine jE (N:=3) rfl ?_);refine bE (N:=3) (cs:=#[.string a1_0, .int .i64 a1_1]) (t:=59) ?_;intro gb300 hg w6 hbox hb;have BK300:=am (hbox);have GW300:=am ((Y19:w.heap.size≤gb300));have GE300:=am ((Y19:w.heap.size≤gb300));have NB299_300:=am ((Y41:gb299≠gb300));have NB300_299:=am ((Y42:gb300≠gb299));replace BK299:=am (jh (g:=gb299) (o:=.cells #[.string a0_0, .int .i64 a0_1] 59 (0,0)) (kq BK299.out) hb);replace HB:=am (jd (Y43) hb);clear hb hbox hg;have hnb7:=NB299_300.out;have hnc7:=NB300_299.out;have hcz8_0:=bc0 BK299.out;have hcz8_1:=bc1 BK299.out;have hfz8_0:=jb BK299.out 0;have hfz8_1:=jb BK299.out 1;have hcz9_0:=bc0 BK300.out;have hcz9_1:=bc1 BK300.out;have hfz9_0:=jb BK300.out 0;have hfz9_1:=jb BK300.out 1))
   go_ret
   exact ⟨Y1,Y44⟩
  ·rw [if_neg c4] at H
   have c4b0:(a0_1 == a1_1)=false:=beq_eq_false_iff_ne.mpr c4
   have c4b1:(a0_1 != a1_1)=true:=bne_iff_ne.mpr c4
   obtain rfl:=Option.some.inj H
   go_enter Tryd.func36,Tryd.ntmps36
   go_wp2_with (first |((with_reducible refine jE (N:=2) rfl ?_);refine bE (N:=2) (cs:=#[.string a0_0, .int .i64 a0_1]) (t:=59) ?_;intro gb299 hg w10 hbox hb;have BK299:=am (hbox);have GW299:=am ((Y0:w.heap.size≤gb299));have GE299:=am ((Y0:w.heap.size≤gb299));replace HB:=am (jd (bq) hb);clear hb hbox hg) |((with_reducible refine jE (N:=3) rfl ?_);refine bE (N:=3) (cs:=#[.string a1_0, .int .i64 a1_1]) (t:=59) ?_;intro gb300 hg w11 hbox hb;have BK300:=am (hbox);have GW300:=am ((Y19:w.heap.size≤gb300));have GE300:=am ((Y19:w.heap.size≤gb300));have NB299_300:=am ((Y41:gb299≠gb300));have NB300_299:=am ((Y42:gb300≠gb299));replace BK299:=am (jh (g:=gb299) (o:=.cells #[.string a0_0, .int .i64 a0_1] 59 (0,0)) (kq BK299.out) hb);replace HB:=am (jd (Y43) hb);clear hb hbox hg;have hnb12:=NB299_300.out;have hnc12:=NB300_299.out;have hcz13_0:=bc0 BK299.out;have hcz13_1:=bc1 BK299.out;have hfz13_0:=jb BK299.out 0;have hfz13_1:=jb BK299.out 1;have hcz14_0:=bc0 BK300.out;have hcz14_1:=bc1 BK300.out;have hfz14_0:=jb BK300.out 0;have hfz14_1:=jb BK300.out 1))
   go_ret
   exact ⟨Y1,Y44⟩
 ·rw [if_neg c3] at H
  have c3b0:(a0_0.toList == a1_0.toList)=false:=beq_eq_false_iff_ne.mpr c3
  have c3b1:(a0_0.toList != a1_0.toList)=true:=bne_iff_ne.mpr c3
  obtain rfl:=Option.some.inj H
  go_enter Tryd.func36,Tryd.ntmps36
  go_wp2_with (first |((with_reducible refine jE (N:=2) rfl ?_);refine bE (N:=2) (cs:=#[.string a0_0, .int .i64 a0_1]) (t:=59) ?_;intro gb299 hg w15 hbox hb;have BK299:=am (hbox);have GW299:=am ((Y0:w.heap.size≤gb299));have GE299:=am ((Y0:w.heap.size≤gb299));replace HB:=am (jd (bq) hb);clear hb hbox hg) |((with_reducible refine jE (N:=3) rfl ?_);refine bE (N:=3) (cs:=#[.string a1_0, .int .i64 a1_1]) (t:=59) ?_;intro gb300 hg w16 hbox hb;have BK300:=am (hbox);have GW300:=am ((Y19:w.heap.size≤gb300));have GE300:=am ((Y19:w.heap.size≤gb300));have NB299_300:=am ((Y41:gb299≠gb300));have NB300_299:=am ((Y42:gb300≠gb299));replace BK299:=am (jh (g:=gb299) (o:=.cells #[.string a0_0, .int .i64 a0_1] 59 (0,0)) (kq BK299.out) hb);replace HB:=am (jd (Y43) hb);clear hb hbox hg;have hnb17:=NB299_300.out;have hnc17:=NB300_299.out;have hcz18_0:=bc0 BK299.out;have hcz18_1:=bc1 BK299.out;have hfz18_0:=jb BK299.out 0;have hfz18_1:=jb BK299.out 1;have hcz19_0:=bc0 BK300.out;have hcz19_1:=bc1 BK300.out;have hfz19_0:=jb BK300.out 0;have hfz19_1:=jb BK300.out 1))
  go_ret
  exact ⟨Y1,Y44⟩
def jJ.l0 : Nat → List (S59) → List (S59) → Int → Option (Bool)
 | 0,_,_,_=>none
 | k+1,x0,x1,x5=>if x5<(x0.length:Int) then (if 0≤x5 then (if x5<(x1.length:Int) then ((jNa.f ((jB x0 x5).f0) ((jB x0 x5).f1) ((jB x1 x5).f0) ((jB x1 x5).f1)).bind fun t303=>(if t303=true then (jJ.l0 k x0 x1 (wrap64 (x5+1))) else (some false))) else (none)) else (none)) else (some true)
def jJ.f (k : Nat) (l0 : List (S59)) (l1 : List (S59)) : Option (Bool) := if (l0.length : Int) = (l1.length : Int) then (jJ.l0 k l0 l1 0) else (some false)
def jJ.T6 : Bool × List (List Nat × List Nat) := (true, [([], []), ([], []), ([0, 1], [0, 1]), ([2], [2]), ([], []), ([], []), ([4, 5], [4, 5]), ([6], [6]), ([3, 7], [3, 7]), ([8], [8])])
def jJ.B6 : List Nat := [0, 0, 3, 7, 0, 0, 48, 112, 255, 511]
theorem jJ.tab6 : rtab .any (opsOf Tryd.f19 6) = jJ.T6 := by kernel_rfl
theorem jJ.bits6 : job jJ.T6.2 jJ.B6 = true := by kernel_rfl
set_option maxHeartbeats 8000000 in
set_option maxRecDepth 100000 in
theorem jJ.calls (k : Nat) (A0 : Option Addr) (c0 : Nat) (l0 : List (S59)) (A1 : Option Addr) (c1 : Nat) (l1 : List (S59)) (r : Bool) (w : World) (hr0 : Kd.C k59 w A0 l0.length l0) (hc0 : l0.length ≤ c0) (hr1 : Kd.C k59 w A1 l1.length l1) (hc1 : l1.length ≤ c1) (h : jJ.f k l0 l1 = some r) :
  Calls Tryd.prog 19 #[.slice A0 l0.length c0, .slice A1 l1.length c1] w fun e w'=>e=.returned (.bool r)∧Below w.heap.size w w':=by
 have hu59:=Tryd.underlying59
 have HR0:=am hr0
 have HC0:=am hc0
 clear hr0 hc0
 have HR1:=am hr1
 have HC1:=am hc1
 clear hr1 hc1
 have HB:=am (Below.refl w.heap.size w)
 have H:(if (l0.length:Int)=(l1.length:Int) then (jJ.l0 k l0 l1 0) else (some false))=some r:=h
 clear h
 by_cases c3:(l0.length:Int)=(l1.length:Int)
 ·rw [if_pos c3] at H
  have c3b0:((l0.length:Int) == (l1.length:Int))=true:=beq_iff_eq.mpr c3
  have c3b1:((l0.length:Int) != (l1.length:Int))=false:=bne_eq_false_iff_eq.mpr c3
  have c3b2:(l0.length == l1.length)=true:=by first | simpa using c3 |(simp at c3 ⊢;omega)
  clear c3
  have H':=am H
  clear H
  go_enter Tryd.func19,Tryd.ntmps19
  go_wp2
  go_loopg [5] k (fun kq v5 w'=>∃ (x5_1:Int),v5=.int .i64 x5_1∧jH (jJ.l0 kq l0 l1 x5_1=some r)∧jH (kq≤k)∧jH (Below w.heap.size w w'))
  case atStart=>exact ⟨(0),(sq),H',⟨Nat.le_refl _⟩,⟨bq⟩⟩
  case round =>
   clear H'
   try clear c1
   try clear p2
   try clear c3
   try clear c3b0
   try clear c3b1
   try clear c3b2
   obtain ⟨x5_1,rfl,HA,HK1,HB⟩:=hrel
   cases gk with
   | zero=>exact absurd HA.out (by simp [jJ.l0])
   | succ k1 =>
    have H:=HA.out
    clear HA
    simp only [jJ.l0] at H
    by_cases c4:x5_1<(l0.length:Int)
    ·rw [if_pos c4] at H
     have c4b0:decide (x5_1<(l0.length:Int))=true:=dzT c4
     clear c4
     by_cases c5:0≤x5_1
     ·rw [if_pos c5] at H
      have c5b0:decide (0≤x5_1)=true:=dzT c5
      clear c5
      by_cases c6:x5_1<(l1.length:Int)
      ·rw [if_pos c6] at H
       have c6b0:decide (x5_1<(l1.length:Int))=true:=dzT c6
       clear c6
       replace H:=bzS H
       obtain ⟨t303,A70,H⟩:=H
       replace H:(if t303=true then (jJ.l0 k1 l0 l1 (wrap64 (x5_1+1))) else (some false))=some r:=H
       have A7:=am A70
       clear A70
       by_cases c8:t303=true
       ·subst c8
        have H1:(jJ.l0 k1 l0 l1 (wrap64 (x5_1+1)))=some r:=by rw [if_pos rfl] at H;exact H
        clear H
        have H:=H1
        clear H1
        have H':=am H
        clear H
        try go_wp2
        replace HB:=am (jv HB.out)
        have p301:0≤(x5_1:Int):=ozD (uq)
        have q301:x5_1<(l0.length:Int):=ozD (uq)
        obtain ⟨ad301,e301,hx301_0,hx301_1⟩:=jjb HR0.out x5_1 p301 q301
        have hw301_1:=hx301_1
        have hw301_0:=hx301_0
        cases e301
        replace hx301_0:=cb HB.out hx301_0
        replace hx301_1:=cb HB.out hx301_1
        replace p301:=ezT p301
        replace q301:=ezT q301
        have p302:0≤(x5_1:Int):=ozD (uq)
        have q302:x5_1<(l1.length:Int):=ozD (uq)
        obtain ⟨ad302,e302,hx302_0,hx302_1⟩:=jjb HR1.out x5_1 p302 q302
        have hw302_1:=hx302_1
        have hw302_0:=hx302_0
        cases e302
        replace hx302_0:=cb HB.out hx302_0
        replace hx302_1:=cb HB.out hx302_1
        replace p302:=ezT p302
        replace q302:=ezT q302
        refine start_ (n:=10) (S:=fun w'=>w'.cell? (ad301.add ((x5_1).toNat * 2))=some (.string ((jB l0 x5_1).f0))∧w'.cell? ⟨(ad301.add ((x5_1).toNat * 2)).block,(ad301.add ((x5_1).toNat * 2)).off+1,none⟩=some (.int .i64 ((jB l0 x5_1).f1))∧w'.cell? (ad302.add ((x5_1).toNat * 2))=some (.string ((jB l1 x5_1).f0))∧w'.cell? ⟨(ad302.add ((x5_1).toNat * 2)).block,(ad302.add ((x5_1).toNat * 2)).off+1,none⟩=some (.int .i64 ((jB l1 x5_1).f1))) (ds:=[]) #[false,false,false,false,false,false,false,false,false,false] (by kernel_rfl) rfl rfl ⟨((HB.out.cell (World.block_lt_of_cell? w _ hw301_0)).trans hw301_0),((HB.out.cell (World.block_lt_of_cell? w _ hw301_1)).trans hw301_1),((HB.out.cell (World.block_lt_of_cell? w _ hw302_0)).trans hw302_0),((HB.out.cell (World.block_lt_of_cell? w _ hw302_1)).trans hw302_1)⟩ (fun hHeld=>?_);refine jPa jJ.tab6 jJ.bits6 (fun HT_ HW_=>?_)
        generalize wr.drew=w9 at HB hx301_0 hx301_1 hx302_0 hx302_1 hHeld ⊢
        refine pq (i:=0) (N:=some 17) #[true,false,false,false,false,false,false,false,false,false] ?_
        refine pq (i:=1) (N:=some 18) #[true,true,false,false,false,false,false,false,false,false] ?_
        refine pq (i:=2) (N:=some 19) #[true,true,true,false,false,false,false,false,false,false] ?_
        refine pq (i:=4) (N:=some 21) #[true,true,true,false,true,false,false,false,false,false] ?_
        refine pq (i:=5) (N:=some 22) #[true,true,true,false,true,true,false,false,false,false] ?_
        refine pq (i:=6) (N:=some 23) #[true,true,true,false,true,true,true,false,false,false] ?_
        refine jgb (i:=3) (N:=some 20) (v:=?_) (a':=?_) #[true,true,true,true,true,true,true,false,false,false] rfl rfl (jza HT_.out HW_.out (by kernel_rfl)) (fun _ _ _ h=>h) (Or.inl ⟨by rfl,?_⟩) hHeld ?_ ?_
        rotate_left
        ·rintro w' ⟨s0,s1,s2,s3⟩
         go_simp
         with_reducible rfl
        rotate_left
        ·exact sa
        refine jgb (i:=7) (N:=some 24) (v:=?_) (a':=?_) #[true,true,true,true,true,true,true,true,false,false] rfl rfl (jza HT_.out HW_.out (by kernel_rfl)) (fun _ _ _ h=>h) (Or.inl ⟨by rfl,?_⟩) hHeld ?_ ?_
        rotate_left
        ·rintro w' ⟨s0,s1,s2,s3⟩
         go_simp
         with_reducible rfl
        rotate_left
        ·exact sa
        refine one_ (i:=8) (N:=some 25) #[true,true,true,true,true,true,true,true,true,false] rfl rfl (one_of HT_.out (by kernel_rfl)) (by decide) (fun K hK=>?_)
        refine goes_ Tryd.func36 (by kernel_rfl) rfl #[.agg #[.string ((jB l0 x5_1).f0), .int .i64 ((jB l0 x5_1).f1)], .agg #[.string ((jB l1 x5_1).f0), .int .i64 ((jB l1 x5_1).f1)]] (by rfl) rfl rfl (aq) ?_
        with_reducible refine (jNa.calls ((jB l0 x5_1).f0) ((jB l0 x5_1).f1) ((jB l1 x5_1).f0) ((jB l1 x5_1).f1) true _ A7.out).mono ?_
        rintro e w10 ⟨rfl,hb⟩
        refine ⟨_,rfl,?_⟩
        replace HB:=am (jd (bq) hb)
        (try clear hb)
        (try clear hb2)
        (try clear hk)
        (try clear hi)
        refine hK.out _ _ ⟨((HB.out.cell (World.block_lt_of_cell? w _ hw301_0)).trans hw301_0),((HB.out.cell (World.block_lt_of_cell? w _ hw301_1)).trans hw301_1),((HB.out.cell (World.block_lt_of_cell? w _ hw302_0)).trans hw302_0),((HB.out.cell (World.block_lt_of_cell? w _ hw302_1)).trans hw302_1)⟩ (fun hHeld=>?_)
        clear hK K
        refine norm_ (a':=?_) ?_ ?_
        rotate_left
        ·show Act.put _ (some 25) _=_
         simp only [Act.put,List.setIfInBounds_toArray,List.set_cons_zero,List.set_cons_succ,jRa,jYa]
         rfl
        refine pq (i:=9) (N:=some 26) #[true,true,true,true,true,true,true,true,true,true] ?_
        refine done_ (jsb HT_.out (by kernel_rfl)) ?_
        try go_wp2
        go_roundg k1
        case measure=>have:=HK1.out;omega
        case rel=>exact ⟨(wrap64 (x5_1+1)),(sq),H',⟨by have:=HK1.out;omega⟩,⟨bq⟩⟩
       ·replace c8:=Bool.eq_false_iff.mpr c8
        subst c8
        have H1:(some false)=some r:=by rw [if_neg (show ¬ (false=true) by decide)] at H;exact H
        clear H
        have H:=H1
        clear H1
        obtain rfl:=Option.some.inj H
        try go_wp2
        replace HB:=am (jv HB.out)
        have p301:0≤(x5_1:Int):=ozD (uq)
        have q301:x5_1<(l0.length:Int):=ozD (uq)
        obtain ⟨ad301,e301,hx301_0,hx301_1⟩:=jjb HR0.out x5_1 p301 q301
        have hw301_1:=hx301_1
        have hw301_0:=hx301_0
        cases e301
        replace hx301_0:=cb HB.out hx301_0
        replace hx301_1:=cb HB.out hx301_1
        replace p301:=ezT p301
        replace q301:=ezT q301
        have p302:0≤(x5_1:Int):=ozD (uq)
        have q302:x5_1<(l1.length:Int):=ozD (uq)
        obtain ⟨ad302,e302,hx302_0,hx302_1⟩:=jjb HR1.out x5_1 p302 q302
        have hw302_1:=hx302_1
        have hw302_0:=hx302_0
        cases e302
        replace hx302_0:=cb HB.out hx302_0
        replace hx302_1:=cb HB.out hx302_1
        replace p302:=ezT p302
        replace q302:=ezT q302
        refine start_ (n:=10) (S:=fun w'=>w'.cell? (ad301.add ((x5_1).toNat * 2))=some (.string ((jB l0 x5_1).f0))∧w'.cell? ⟨(ad301.add ((x5_1).toNat * 2)).block,(ad301.add ((x5_1).toNat * 2)).off+1,none⟩=some (.int .i64 ((jB l0 x5_1).f1))∧w'.cell? (ad302.add ((x5_1).toNat * 2))=some (.string ((jB l1 x5_1).f0))∧w'.cell? ⟨(ad302.add ((x5_1).toNat * 2)).block,(ad302.add ((x5_1).toNat * 2)).off+1,none⟩=some (.int .i64 ((jB l1 x5_1).f1))) (ds:=[]) #[false,false,false,false,false,false,false,false,false,false] (by kernel_rfl) rfl rfl ⟨((HB.out.cell (World.block_lt_of_cell? w _ hw301_0)).trans hw301_0),((HB.out.cell (World.block_lt_of_cell? w _ hw301_1)).trans hw301_1),((HB.out.cell (World.block_lt_of_cell? w _ hw302_0)).trans hw302_0),((HB.out.cell (World.block_lt_of_cell? w _ hw302_1)).trans hw302_1)⟩ (fun hHeld=>?_);refine jPa jJ.tab6 jJ.bits6 (fun HT_ HW_=>?_)
        generalize wr.drew=w11 at HB hx301_0 hx301_1 hx302_0 hx302_1 hHeld ⊢
        refine pq (i:=0) (N:=some 17) #[true,false,false,false,false,false,false,false,false,false] ?_
        refine pq (i:=1) (N:=some 18) #[true,true,false,false,false,false,false,false,false,false] ?_
        refine pq (i:=2) (N:=some 19) #[true,true,true,false,false,false,false,false,false,false] ?_
        refine pq (i:=4) (N:=some 21) #[true,true,true,false,true,false,false,false,false,false] ?_
        refine pq (i:=5) (N:=some 22) #[true,true,true,false,true,true,false,false,false,false] ?_
        refine pq (i:=6) (N:=some 23) #[true,true,true,false,true,true,true,false,false,false] ?_
        refine jgb (i:=3) (N:=some 20) (v:=?_) (a':=?_) #[true,true,true,true,true,true,true,false,false,false] rfl rfl (jza HT_.out HW_.out (by kernel_rfl)) (fun _ _ _ h=>h) (Or.inl ⟨by rfl,?_⟩) hHeld ?_ ?_
        rotate_left
        ·rintro w' ⟨s0,s1,s2,s3⟩
         go_simp
         with_reducible rfl
        rotate_left
        ·exact sa
        refine jgb (i:=7) (N:=some 24) (v:=?_) (a':=?_) #[true,true,true,true,true,true,true,true,false,false] rfl rfl (jza HT_.out HW_.out (by kernel_rfl)) (fun _ _ _ h=>h) (Or.inl ⟨by rfl,?_⟩) hHeld ?_ ?_
        rotate_left
        ·rintro w' ⟨s0,s1,s2,s3⟩
         go_simp
         with_reducible rfl
        rotate_left
        ·exact sa
        refine one_ (i:=8) (N:=some 25) #[true,true,true,true,true,true,true,true,true,false] rfl rfl (one_of HT_.out (by kernel_rfl)) (by decide) (fun K hK=>?_)
        refine goes_ Tryd.func36 (by kernel_rfl) rfl #[.agg #[.string ((jB l0 x5_1).f0), .int .i64 ((jB l0 x5_1).f1)], .agg #[.string ((jB l1 x5_1).f0), .int .i64 ((jB l1 x5_1).f1)]] (by rfl) rfl rfl (aq) ?_
        with_reducible refine (jNa.calls ((jB l0 x5_1).f0) ((jB l0 x5_1).f1) ((jB l1 x5_1).f0) ((jB l1 x5_1).f1) false _ A7.out).mono ?_
        rintro e w12 ⟨rfl,hb⟩
        refine ⟨_,rfl,?_⟩
        replace HB:=am (jd (bq) hb)
        (try clear hb)
        (try clear hb2)
        (try clear hk)
        (try clear hi)
        refine hK.out _ _ ⟨((HB.out.cell (World.block_lt_of_cell? w _ hw301_0)).trans hw301_0),((HB.out.cell (World.block_lt_of_cell? w _ hw301_1)).trans hw301_1),((HB.out.cell (World.block_lt_of_cell? w _ hw302_0)).trans hw302_0),((HB.out.cell (World.block_lt_of_cell? w _ hw302_1)).trans hw302_1)⟩ (fun hHeld=>?_)
        clear hK K
        refine norm_ (a':=?_) ?_ ?_
        rotate_left
        ·show Act.put _ (some 25) _=_
         simp only [Act.put,List.setIfInBounds_toArray,List.set_cons_zero,List.set_cons_succ,jRa,jYa]
         rfl
        refine pq (i:=9) (N:=some 26) #[true,true,true,true,true,true,true,true,true,true] ?_
        refine done_ (jsb HT_.out (by kernel_rfl)) ?_
        try go_wp2
        go_ret
        exact ⟨Y1,bq⟩
      ·rw [if_neg c6] at H
       exact absurd H (by simp)
     ·rw [if_neg c5] at H
      exact absurd H (by simp)
    ·rw [if_neg c4] at H
     have c4b0:decide (x5_1<(l0.length:Int))=false:=dzF c4
     clear c4
     obtain rfl:=Option.some.inj H
     go_wp2
     go_ret
     exact ⟨Y1,bq⟩
 ·rw [if_neg c3] at H
  have c3b0:((l0.length:Int) == (l1.length:Int))=false:=beq_eq_false_iff_ne.mpr c3
  have c3b1:((l0.length:Int) != (l1.length:Int))=true:=bne_iff_ne.mpr c3
  have c3b2:(l0.length == l1.length)=false:=by first | simpa using c3 |(simp at c3 ⊢;omega)
  obtain rfl:=Option.some.inj H
  go_enter Tryd.func19,Tryd.ntmps19
  go_wp2
  go_ret
  exact ⟨Y1,bq⟩
def jra.f (k : Nat) (l0_0 : List (S59)) (l1_0 : List (S59)) : Option (Bool) := (jJ.f k l0_0 l1_0).bind fun t306 => (if t306 = true then (some true) else (some false))
set_option maxHeartbeats 8000000 in
set_option maxRecDepth 100000 in
theorem jra.calls (k : Nat) (A0_0 : Option Addr) (c0_0 : Nat) (l0_0 : List (S59)) (A1_0 : Option Addr) (c1_0 : Nat) (l1_0 : List (S59)) (r : Bool) (w : World) (hr0_0 : Kd.C k59 w A0_0 l0_0.length l0_0) (hc0_0 : l0_0.length ≤ c0_0) (hr1_0 : Kd.C k59 w A1_0 l1_0.length l1_0) (hc1_0 : l1_0.length ≤ c1_0) (h : jra.f k l0_0 l1_0 = some r) :
  Calls Tryd.prog 10 #[.agg #[.slice A0_0 l0_0.length c0_0], .agg #[.slice A1_0 l1_0.length c1_0]] w fun e w'=>e=.returned (.bool r)∧Below w.heap.size w w':=by
 have hu31:=Tryd.underlying31
 have HR0_0:=am hr0_0
 have HC0_0:=am hc0_0
 clear hr0_0 hc0_0
 have HR1_0:=am hr1_0
 have HC1_0:=am hc1_0
 clear hr1_0 hc1_0
 have HB:=am (Below.refl w.heap.size w)
 have H:((jJ.f k l0_0 l1_0).bind fun t306=>(if t306=true then (some true) else (some false)))=some r:=h
 clear h
 replace H:=bzS H
 obtain ⟨t306,A30,H⟩:=H
 replace H:(if t306=true then (some true) else (some false))=some r:=H
 have A3:=am A30
 clear A30
 by_cases c4:t306=true
 ·subst c4
  have H1:(some true)=some r:=by rw [if_pos rfl] at H;exact H
  clear H
  have H:=H1
  clear H1
  obtain rfl:=Option.some.inj H
  go_enter Tryd.func10,Tryd.ntmps10
  go_wp2_with (first |((with_reducible refine jE (N:=2) rfl ?_);refine bE (N:=2) (cs:=#[.slice A0_0 l0_0.length c0_0]) (t:=31) ?_;intro gb304 hg w5 hbox hb;have BK304:=am (hbox);have GW304:=am ((Y0:w.heap.size≤gb304));have GE304:=am ((Y0:w.heap.size≤gb304));replace HB:=am (jd (bq) hb);clear hb hbox hg) |((with_reducible refine jE (N:=3) rfl ?_);refine bE (N:=3) (cs:=#[.slice A1_0 l1_0.length c1_0]) (t:=31) ?_;intro gb305 hg w6 hbox hb;have BK305:=am (hbox);have GW305:=am ((Y29:w.heap.size≤gb305));have GE305:=am ((Y29:w.heap.size≤gb305));have NB304_305:=am ((by rw [hg];exact Nat.ne_of_lt (jva (g:=gb304) (o:=.cells #[.slice A0_0 l0_0.length c0_0] 31 (0,0)) (kq BK304.out)):gb304≠gb305));have NB305_304:=am ((by rw [hg];exact Nat.ne_of_gt (jva (g:=gb304) (o:=.cells #[.slice A0_0 l0_0.length c0_0] 31 (0,0)) (kq BK304.out)):gb305≠gb304));replace BK304:=am (jh (g:=gb304) (o:=.cells #[.slice A0_0 l0_0.length c0_0] 31 (0,0)) (kq BK304.out) hb);replace HB:=am (jd (Y58) hb);clear hb hbox hg;have hnb7:=NB304_305.out;have hnc7:=NB305_304.out;have hcz8_0:=bc0 BK304.out;have hfz8_0:=jb BK304.out 0;have hcz9_0:=bc0 BK305.out;have hfz9_0:=jb BK305.out 0) |((with_reducible refine jC (f:=19) rfl ?_);refine gL (some 9) Tryd.func19 #[.slice A0_0 l0_0.length c0_0, .slice A1_0 l1_0.length c1_0] ?_;(with_reducible refine (jJ.calls k _ _ l0_0 _ _ l1_0 true _ ?side1 ?side2 ?side3 ?side4 A3.out).mono ?_);(case side1=>exact cq (Kd.jG HR0_0.out HB.out));(case side2=>exact HC0_0.out);(case side3=>exact cq (Kd.jG HR1_0.out HB.out));(case side4=>exact HC1_0.out);rintro e w10 ⟨rfl,hb⟩;refine ⟨_,rfl,?_⟩;replace BK304:=am (jh (g:=gb304) (o:=.cells #[.slice A0_0 l0_0.length c0_0] 31 (0,0)) (kq BK304.out) hb);replace BK305:=am (jh (g:=gb305) (o:=.cells #[.slice A1_0 l1_0.length c1_0] 31 (0,0)) (kq BK305.out) hb);replace HB:=am (jd (Y30) hb);(try clear hb);(try clear hb2);(try clear hk);(try clear hi)))
  go_ret
  exact ⟨Y1,Y30⟩
 ·replace c4:=Bool.eq_false_iff.mpr c4
  subst c4
  have H1:(some false)=some r:=by rw [if_neg (show ¬ (false=true) by decide)] at H;exact H
  clear H
  have H:=H1
  clear H1
  obtain rfl:=Option.some.inj H
  go_enter Tryd.func10,Tryd.ntmps10
  go_wp2_with (first |((with_reducible refine jE (N:=2) rfl ?_);refine bE (N:=2) (cs:=#[.slice A0_0 l0_0.length c0_0]) (t:=31) ?_;intro gb304 hg w11 hbox hb;have BK304:=am (hbox);have GW304:=am ((Y0:w.heap.size≤gb304));have GE304:=am ((Y0:w.heap.size≤gb304));replace HB:=am (jd (bq) hb);clear hb hbox hg) |((with_reducible refine jE (N:=3) rfl ?_);refine bE (N:=3) (cs:=#[.slice A1_0 l1_0.length c1_0]) (t:=31) ?_;intro gb305 hg w12 hbox hb;have BK305:=am (hbox);have GW305:=am ((Y29:w.heap.size≤gb305));have GE305:=am ((Y29:w.heap.size≤gb305));have NB304_305:=am ((by rw [hg];exact Nat.ne_of_lt (jva (g:=gb304) (o:=.cells #[.slice A0_0 l0_0.length c0_0] 31 (0,0)) (kq BK304.out)):gb304≠gb305));have NB305_304:=am ((by rw [hg];exact Nat.ne_of_gt (jva (g:=gb304) (o:=.cells #[.slice A0_0 l0_0.length c0_0] 31 (0,0)) (kq BK304.out)):gb305≠gb304));replace BK304:=am (jh (g:=gb304) (o:=.cells #[.slice A0_0 l0_0.length c0_0] 31 (0,0)) (kq BK304.out) hb);replace HB:=am (jd (Y58) hb);clear hb hbox hg;have hnb13:=NB304_305.out;have hnc13:=NB305_304.out;have hcz14_0:=bc0 BK304.out;have hfz14_0:=jb BK304.out 0;have hcz15_0:=bc0 BK305.out;have hfz15_0:=jb BK305.out 0) |((with_reducible refine jC (f:=19) rfl ?_);refine gL (some 9) Tryd.func19 #[.slice A0_0 l0_0.length c0_0, .slice A1_0 l1_0.length c1_0] ?_;(with_reducible refine (jJ.calls k _ _ l0_0 _ _ l1_0 false _ ?side1 ?side2 ?side3 ?side4 A3.out).mono ?_);(case side1=>exact cq (Kd.jG HR0_0.out HB.out));(case side2=>exact HC0_0.out);(case side3=>exact cq (Kd.jG HR1_0.out HB.out));(case side4=>exact HC1_0.out);rintro e w16 ⟨rfl,hb⟩;refine ⟨_,rfl,?_⟩;replace BK304:=am (jh (g:=gb304) (o:=.cells #[.slice A0_0 l0_0.length c0_0] 31 (0,0)) (kq BK304.out) hb);replace BK305:=am (jh (g:=gb305) (o:=.cells #[.slice A1_0 l1_0.length c1_0] 31 (0,0)) (kq BK305.out) hb);replace HB:=am (jd (Y30) hb);(try clear hb);(try clear hb2);(try clear hk);(try clear hi)))
  go_ret
  exact ⟨Y1,Y30⟩
def jUa.f (a0_0 : Int) (a0_1 : Bool) (a0_2 : Int) (a0_3 : Int) (a1_0 : Int) (a1_1 : Bool) (a1_2 : Int) (a1_3 : Int) : Option (Bool) := if a0_0 = a1_0 then (if (a0_1 != a1_1) = true then (some false) else (if a0_2 = a1_2 then (if a0_3 = a1_3 then (some true) else (some false)) else (some false))) else (some false)
set_option maxHeartbeats 8000000 in
set_option maxRecDepth 100000 in
theorem jUa.calls (a0_0 : Int) (a0_1 : Bool) (a0_2 : Int) (a0_3 : Int) (a1_0 : Int) (a1_1 : Bool) (a1_2 : Int) (a1_3 : Int) (r : Bool) (w : World) (h : jUa.f a0_0 a0_1 a0_2 a0_3 a1_0 a1_1 a1_2 a1_3 = some r) :
  Calls Tryd.prog 20 #[.agg #[.int .i64 a0_0, .bool a0_1, .int .i64 a0_2, .int .i64 a0_3], .agg #[.int .i64 a1_0, .bool a1_1, .int .i64 a1_2, .int .i64 a1_3]] w fun e w'=>e=.returned (.bool r)∧Below w.heap.size w w':=by
 have hu42:=Tryd.underlying42
 have HB:=am (Below.refl w.heap.size w)
 have H:(if a0_0=a1_0 then (if (a0_1 != a1_1)=true then (some false) else (if a0_2=a1_2 then (if a0_3=a1_3 then (some true) else (some false)) else (some false))) else (some false))=some r:=h
 clear h
 by_cases c3:a0_0=a1_0
 ·rw [if_pos c3] at H
  have c3b0:(a0_0 == a1_0)=true:=beq_iff_eq.mpr c3
  have c3b1:(a0_0 != a1_0)=false:=bne_eq_false_iff_eq.mpr c3
  clear c3
  by_cases c4:(a0_1 != a1_1)=true
  ·rw [if_pos c4] at H
   have c4b0:(a0_1 != a1_1)=true:=c4
   (try (have c4b1:decide (a0_1=a1_1)=false:=by simpa using c4))
   (try (have c4b2:(a0_1 == a1_1)=false:=by simpa using c4))
   (try (have c4b3:¬ (a0_1=a1_1):=by simpa using c4))
   clear c4
   obtain rfl:=Option.some.inj H
   go_enter Tryd.func20,Tryd.ntmps20
   go_wp2_with (first |((with_reducible refine jE (N:=2) rfl ?_);refine bE (N:=2) (cs:=#[.int .i64 a0_0, .bool a0_1, .int .i64 a0_2, .int .i64 a0_3]) (t:=42) ?_;intro gb307 hg w5 hbox hb;have BK307:=am (hbox);have GW307:=am ((Y0:w.heap.size≤gb307));have GE307:=am ((Y0:w.heap.size≤gb307));replace HB:=am (jd (bq) hb);clear hb hbox hg) |((with_reducible refine jE (N:=3) rfl ?_);refine bE (N:=3) (cs:=#[.int .i64 a1_0, .bool a1_1, .int .i64 a1_2, .int .i64 a1_3]) (t:=42) ?_;intro gb308 hg w6 hbox hb;have BK308:=am (hbox);have GW308:=am ((Y12:w.heap.size≤gb308));have GE308:=am ((Y12:w.heap.size≤gb308));have NB307_308:=am ((Y24:gb307≠gb308));have NB308_307:=am ((Y25:gb308≠gb307));replace BK307:=am (jh (g:=gb307) (o:=.cells #[.int .i64 a0_0, .bool a0_1, .int .i64 a0_2, .int .i64 a0_3] 42 (0,0)) (kq BK307.out) hb);replace HB:=am (jd (Y26) hb);clear hb hbox hg;have hnb7:=NB307_308.out;have hnc7:=NB308_307.out;have hcz8_0:=bc0 BK307.out;have hcz8_1:=bc1 BK307.out;have hcz8_2:=bc2 BK307.out;have hcz8_3:=bc3 BK307.out;have hfz8_0:=jb BK307.out 0;have hfz8_1:=jb BK307.out 1;have hfz8_2:=jb BK307.out 2;have hfz8_3:=jb BK307.out 3;have hcz9_0:=bc0 BK308.out;have hcz9_1:=bc1 BK308.out;have hcz9_2:=bc2 BK308.out;have hcz9_3:=bc3 BK308.out;have hfz9_0:=jb BK308.out 0;have hfz9_1:=jb BK308.out 1;have hfz9_2:=jb BK308.out 2;have hfz9_3:=jb BK308.out 3))
   go_ret
   exact ⟨Y1,Y27⟩
  ·rw [if_neg c4] at H
   have c4b0:(a0_1 != a1_1)=false:=by simpa using c4
   (try (have c4b1:decide (a0_1=a1_1)=true:=by simpa using c4))
   (try (have c4b2:(a0_1 == a1_1)=true:=by simpa using c4))
   clear c4
   by_cases c10:a0_2=a1_2
   ·rw [if_pos c10] at H
    have c10b0:(a0_2 == a1_2)=true:=beq_iff_eq.mpr c10
    have c10b1:(a0_2 != a1_2)=false:=bne_eq_false_iff_eq.mpr c10
    clear c10
    by_cases c11:a0_3=a1_3
    ·rw [if_pos c11] at H
     have c11b0:(a0_3 == a1_3)=true:=beq_iff_eq.mpr c11
     have c11b1:(a0_3 != a1_3)=false:=bne_eq_false_iff_eq.mpr c11
     clear c11
     obtain rfl:=Option.some.inj H
     go_enter Tryd.func20,Tryd.ntmps20
     go_wp2_with (first |((with_reducible refine jE (N:=2) rfl ?_);refine bE (N:=2) (cs:=#[.int .i64 a0_0, .bool a0_1, .int .i64 a0_2, .int .i64 a0_3]) (t:=42) ?_;intro gb307 hg w12 hbox hb;have BK307:=am (hbox);have GW307:=am ((Y0:w.heap.size≤gb307));have GE307:=am ((Y0:w.heap.size≤gb307));replace HB:=am (jd (bq) hb);clear hb hbox hg) |((with_reducible refine jE (N:=3) rfl ?_);refine bE (N:=3) (cs:=#[.int .i64 a1_0, .bool a1_1, .int .i64 a1_2, .int .i64 a1_3]) (t:=42) ?_;intro gb308 hg w13 hbox hb;have BK308:=am (hbox);have GW308:=am ((Y12:w.heap.size≤gb308));have GE308:=am ((Y12:w.heap.size≤gb308));have NB307_308:=am ((Y24:gb307≠gb308));have NB308_307:=am ((Y25:gb308≠gb307));replace BK307:=am (jh (g:=gb307) (o:=.cells #[.int .i64 a0_0, .bool a0_1, .int .i64 a0_2, .int .i64 a0_3] 42 (0,0)) (kq BK307.out) hb);replace HB:=am (jd (Y26) hb);clear hb hbox hg;have hnb14:=NB307_308.out;have hnc14:=NB308_307.out;have hcz15_0:=bc0 BK307.out;have hcz15_1:=bc1 BK307.out;have hcz15_2:=bc2 BK307.out;have hcz15_3:=bc3 BK307.out;have hfz15_0:=jb BK307.out 0;have hfz15_1:=jb BK307.out 1;have hfz15_2:=jb BK307.out 2;have hfz15_3:=jb BK307.out 3;have hcz16_0:=bc0 BK308.out;have hcz16_1:=bc1 BK308.out;have hcz16_2:=bc2 BK308.out;have hcz16_3:=bc3 BK308.out;have hfz16_0:=jb BK308.out 0;have hfz16_1:=jb BK308.out 1;have hfz16_2:=jb BK308.out 2;have hfz16_3:=jb BK308.out 3))
     go_ret
     exact ⟨Y1,Y27⟩
    ·rw [if_neg c11] at H
     have c11b0:(a0_3 == a1_3)=false:=beq_eq_false_iff_ne.mpr c11
     have c11b1:(a0_3 != a1_3)=true:=bne_iff_ne.mpr c11
     obtain rfl:=Option.some.inj H
     go_enter Tryd.func20,Tryd.ntmps20
     go_wp2_with (first |((with_reducible refine jE (N:=2) rfl ?_);refine bE (N:=2) (cs:=#[.int .i64 a0_0, .bool a0_1, .int .i64 a0_2, .int .i64 a0_3]) (t:=42) ?_;intro gb307 hg w17 hbox hb;have BK307:=am (hbox);have GW307:=am ((Y0:w.heap.size≤gb307));have GE307:=am ((Y0:w.heap.size≤gb307));replace HB:=am (jd (bq) hb);clear hb hbox hg) |((with_reducible refine jE (N:=3) rfl ?_);refine bE (N:=3) (cs:=#[.int .i64 a1_0, .bool a1_1, .int .i64 a1_2, .int .i64 a1_3]) (t:=42) ?_;intro gb308 hg w18 hbox hb;have BK308:=am (hbox);have GW308:=am ((Y12:w.heap.size≤gb308));have GE308:=am ((Y12:w.heap.size≤gb308));have NB307_308:=am ((Y24:gb307≠gb308));have NB308_307:=am ((Y25:gb308≠gb307));replace BK307:=am (jh (g:=gb307) (o:=.cells #[.int .i64 a0_0, .bool a0_1, .int .i64 a0_2, .int .i64 a0_3] 42 (0,0)) (kq BK307.out) hb);replace HB:=am (jd (Y26) hb);clear hb hbox hg;have hnb19:=NB307_308.out;have hnc19:=NB308_307.out;have hcz20_0:=bc0 BK307.out;have hcz20_1:=bc1 BK307.out;have hcz20_2:=bc2 BK307.out;have hcz20_3:=bc3 BK307.out;have hfz20_0:=jb BK307.out 0;have hfz20_1:=jb BK307.out 1;have hfz20_2:=jb BK307.out 2;have hfz20_3:=jb BK307.out 3;have hcz21_0:=bc0 BK308.out;have hcz21_1:=bc1 BK308.out;have hcz21_2:=bc2 BK308.out;have hcz21_3:=bc3 BK308.out;have hfz21_0:=jb BK308.out 0;have hfz21_1:=jb BK308.out 1;have hfz21_2:=jb BK308.out 2;have hfz21_3:=jb BK308.out 3))
     go_ret
     exact ⟨Y1,Y27⟩
   ·rw [if_neg c10] at H
    have c10b0:(a0_2 == a1_2)=false:=beq_eq_false_iff_ne.mpr c10
    have c10b1:(a0_2 != a1_2)=true:=bne_iff_ne.mpr c10
    obtain rfl:=Option.some.inj H
    go_enter Tryd.func20,Tryd.ntmps20
    go_wp2_with (first |((with_reducible refine jE (N:=2) rfl ?_);refine bE (N:=2) (cs:=#[.int .i64 a0_0, .bool a0_1, .int .i64 a0_2, .int .i64 a0_3]) (t:=42) ?_;intro gb307 hg w22 hbox hb;have BK307:=am (hbox);have GW307:=am ((Y0:w.heap.size≤gb307));have GE307:=am ((Y0:w.heap.size≤gb307));replace HB:=am (jd (bq) hb);clear hb hbox hg) |((with_reducible refine jE (N:=3) rfl ?_);refine bE (N:=3) (cs:=#[.int .i64 a1_0, .bool a1_1, .int .i64 a1_2, .int .i64 a1_3]) (t:=42) ?_;intro gb308 hg w23 hbox hb;have BK308:=am (hbox);have GW308:=am ((Y12:w.heap.size≤gb308));have GE308:=am ((Y12:w.heap.size≤gb308));have NB307_308:=am ((Y24:gb307≠gb308));have NB308_307:=am ((Y25:gb308≠gb307));replace BK307:=am (jh (g:=gb307) (o:=.cells #[.int .i64 a0_0, .bool a0_1, .int .i64 a0_2, .int .i64 a0_3] 42 (0,0)) (kq BK307.out) hb);replace HB:=am (jd (Y26) hb);clear hb hbox hg;have hnb24:=NB307_308.out;have hnc24:=NB308_307.out;have hcz25_0:=bc0 BK307.out;have hcz25_1:=bc1 BK307.out;have hcz25_2:=bc2 BK307.out;have hcz25_3:=bc3 BK307.out;have hfz25_0:=jb BK307.out 0;have hfz25_1:=jb BK307.out 1;have hfz25_2:=jb BK307.out 2;have hfz25_3:=jb BK307.out 3;have hcz26_0:=bc0 BK308.out;have hcz26_1:=bc1 BK308.out;have hcz26_2:=bc2 BK308.out;have hcz26_3:=bc3 BK308.out;have hfz26_0:=jb BK308.out 0;have hfz26_1:=jb BK308.out 1;have hfz26_2:=jb BK308.out 2;have hfz26_3:=jb BK308.out 3))
    go_ret
    exact ⟨Y1,Y27⟩
 ·rw [if_neg c3] at H
  have c3b0:(a0_0 == a1_0)=false:=beq_eq_false_iff_ne.mpr c3
  have c3b1:(a0_0 != a1_0)=true:=bne_iff_ne.mpr c3
  obtain rfl:=Option.some.inj H
  go_enter Tryd.func20,Tryd.ntmps20
  go_wp2_with (first |((with_reducible refine jE (N:=2) rfl ?_);refine bE (N:=2) (cs:=#[.int .i64 a0_0, .bool a0_1, .int .i64 a0_2, .int .i64 a0_3]) (t:=42) ?_;intro gb307 hg w27 hbox hb;have BK307:=am (hbox);have GW307:=am ((Y0:w.heap.size≤gb307));have GE307:=am ((Y0:w.heap.size≤gb307));replace HB:=am (jd (bq) hb);clear hb hbox hg) |((with_reducible refine jE (N:=3) rfl ?_);refine bE (N:=3) (cs:=#[.int .i64 a1_0, .bool a1_1, .int .i64 a1_2, .int .i64 a1_3]) (t:=42) ?_;intro gb308 hg w28 hbox hb;have BK308:=am (hbox);have GW308:=am ((Y12:w.heap.size≤gb308));have GE308:=am ((Y12:w.heap.size≤gb308));have NB307_308:=am ((Y24:gb307≠gb308));have NB308_307:=am ((Y25:gb308≠gb307));replace BK307:=am (jh (g:=gb307) (o:=.cells #[.int .i64 a0_0, .bool a0_1, .int .i64 a0_2, .int .i64 a0_3] 42 (0,0)) (kq BK307.out) hb);replace HB:=am (jd (Y26) hb);clear hb hbox hg;have hnb29:=NB307_308.out;have hnc29:=NB308_307.out;have hcz30_0:=bc0 BK307.out;have hcz30_1:=bc1 BK307.out;have hcz30_2:=bc2 BK307.out;have hcz30_3:=bc3 BK307.out;have hfz30_0:=jb BK307.out 0;have hfz30_1:=jb BK307.out 1;have hfz30_2:=jb BK307.out 2;have hfz30_3:=jb BK307.out 3;have hcz31_0:=bc0 BK308.out;have hcz31_1:=bc1 BK308.out;have hcz31_2:=bc2 BK308.out;have hcz31_3:=bc3 BK308.out;have hfz31_0:=jb BK308.out 0;have hfz31_1:=jb BK308.out 1;have hfz31_2:=jb BK308.out 2;have hfz31_3:=jb BK308.out 3))
  go_ret
  exact ⟨Y1,Y27⟩
def jF.l0 : Nat → List (S42) → List (S42) → Int → Option (Bool)
 | 0,_,_,_=>none
 | k+1,x0,x1,x5=>if x5<(x0.length:Int) then (if 0≤x5 then (if x5<(x1.length:Int) then ((jUa.f ((ja x0 x5).f0) ((ja x0 x5).f1) ((ja x0 x5).f2) ((ja x0 x5).f3) ((ja x1 x5).f0) ((ja x1 x5).f1) ((ja x1 x5).f2) ((ja x1 x5).f3)).bind fun t311=>(if t311=true then (jF.l0 k x0 x1 (wrap64 (x5+1))) else (some false))) else (none)) else (none)) else (some true)
def jF.f (k : Nat) (l0 : List (S42)) (l1 : List (S42)) : Option (Bool) := if (l0.length : Int) = (l1.length : Int) then (jF.l0 k l0 l1 0) else (some false)
def jF.T6 : Bool × List (List Nat × List Nat) := (true, [([], []), ([], []), ([0, 1], [0, 1]), ([2], [2]), ([], []), ([], []), ([4, 5], [4, 5]), ([6], [6]), ([3, 7], [3, 7]), ([8], [8])])
def jF.B6 : List Nat := [0, 0, 3, 7, 0, 0, 48, 112, 255, 511]
theorem jF.tab6 : rtab .any (opsOf Tryd.f11 6) = jF.T6 := by kernel_rfl
theorem jF.bits6 : job jF.T6.2 jF.B6 = true := by kernel_rfl
set_option maxHeartbeats 8000000 in
set_option maxRecDepth 100000 in
theorem jF.calls (k : Nat) (A0 : Option Addr) (c0 : Nat) (l0 : List (S42)) (A1 : Option Addr) (c1 : Nat) (l1 : List (S42)) (r : Bool) (w : World) (hr0 : Kd.C k42 w A0 l0.length l0) (hc0 : l0.length ≤ c0) (hr1 : Kd.C k42 w A1 l1.length l1) (hc1 : l1.length ≤ c1) (h : jF.f k l0 l1 = some r) :
  Calls Tryd.prog 11 #[.slice A0 l0.length c0, .slice A1 l1.length c1] w fun e w'=>e=.returned (.bool r)∧Below w.heap.size w w':=by
 have hu42:=Tryd.underlying42
 have HR0:=am hr0
 have HC0:=am hc0
 clear hr0 hc0
 have HR1:=am hr1
 have HC1:=am hc1
 clear hr1 hc1
 have HB:=am (Below.refl w.heap.size w)
 have H:(if (l0.length:Int)=(l1.length:Int) then (jF.l0 k l0 l1 0) else (some false))=some r:=h
 clear h
 by_cases c3:(l0.length:Int)=(l1.length:Int)
 ·rw [if_pos c3] at H
  have c3b0:((l0.length:Int) == (l1.length:Int))=true:=beq_iff_eq.mpr c3
  have c3b1:((l0.length:Int) != (l1.length:Int))=false:=bne_eq_false_iff_eq.mpr c3
  have c3b2:(l0.length == l1.length)=true:=by first | simpa using c3 |(simp at c3 ⊢;omega)
  clear c3
  have H':=am H
  clear H
  go_enter Tryd.func11,Tryd.ntmps11
  go_wp2
  go_loopg [5] k (fun kq v5 w'=>∃ (x5_1:Int),v5=.int .i64 x5_1∧jH (jF.l0 kq l0 l1 x5_1=some r)∧jH (kq≤k)∧jH (Below w.heap.size w w'))
  case atStart=>exact ⟨(0),(sq),H',⟨Nat.le_refl _⟩,⟨bq⟩⟩
  case round =>
   clear H'
   try clear c1
   try clear p2
   try clear c3
   try clear c3b0
   try clear c3b1
   try clear c3b2
   obtain ⟨x5_1,rfl,HA,HK1,HB⟩:=hrel
   cases gk with
   | zero=>exact absurd HA.out (by simp [jF.l0])
   | succ k1 =>
    have H:=HA.out
    clear HA
    simp only [jF.l0] at H
    by_cases c4:x5_1<(l0.length:Int)
    ·rw [if_pos c4] at H
     have c4b0:decide (x5_1<(l0.length:Int))=true:=dzT c4
     clear c4
     by_cases c5:0≤x5_1
     ·rw [if_pos c5] at H
      have c5b0:decide (0≤x5_1)=true:=dzT c5
      clear c5
      by_cases c6:x5_1<(l1.length:Int)
      ·rw [if_pos c6] at H
       have c6b0:decide (x5_1<(l1.length:Int))=true:=dzT c6
       clear c6
       replace H:=bzS H
       obtain ⟨t311,A70,H⟩:=H
       replace H:(if t311=true then (jF.l0 k1 l0 l1 (wrap64 (x5_1+1))) else (some false))=some r:=H
       have A7:=am A70
       clear A70
       by_cases c8:t311=true
       ·subst c8
        have H1:(jF.l0 k1 l0 l1 (wrap64 (x5_1+1)))=some r:=by rw [if_pos rfl] at H;exact H
        clear H
        have H:=H1
        clear H1
        have H':=am H
        clear H
        try go_wp2
        replace HB:=am (jv HB.out)
        have p309:0≤(x5_1:Int):=ozD (uq)
        have q309:x5_1<(l0.length:Int):=ozD (uq)
        obtain ⟨ad309,e309,hx309_0,hx309_1,hx309_2,hx309_3⟩:=jpa HR0.out x5_1 p309 q309
        have hw309_3:=hx309_3
        have hw309_2:=hx309_2
        have hw309_1:=hx309_1
        have hw309_0:=hx309_0
        cases e309
        replace hx309_0:=cb HB.out hx309_0
        replace hx309_1:=cb HB.out hx309_1
        replace hx309_2:=cb HB.out hx309_2
        replace hx309_3:=cb HB.out hx309_3
        replace p309:=ezT p309
        replace q309:=ezT q309
        have p310:0≤(x5_1:Int):=ozD (uq)
        have q310:x5_1<(l1.length:Int):=ozD (uq)
        obtain ⟨ad310,e310,hx310_0,hx310_1,hx310_2,hx310_3⟩:=jpa HR1.out x5_1 p310 q310
        have hw310_3:=hx310_3
        have hw310_2:=hx310_2
        have hw310_1:=hx310_1
        have hw310_0:=hx310_0
        cases e310
        replace hx310_0:=cb HB.out hx310_0
        replace hx310_1:=cb HB.out hx310_1
        replace hx310_2:=cb HB.out hx310_2
        replace hx310_3:=cb HB.out hx310_3
        replace p310:=ezT p310
        replace q310:=ezT q310
        refine start_ (n:=10) (S:=fun w'=>w'.cell? (ad309.add ((x5_1).toNat * 4))=some (.int .i64 ((ja l0 x5_1).f0))∧w'.cell? ⟨(ad309.add ((x5_1).toNat * 4)).block,(ad309.add ((x5_1).toNat * 4)).off+1,none⟩=some (.bool ((ja l0 x5_1).f1))∧w'.cell? ⟨(ad309.add ((x5_1).toNat * 4)).block,(ad309.add ((x5_1).toNat * 4)).off+2,none⟩=some (.int .i64 ((ja l0 x5_1).f2))∧w'.cell? ⟨(ad309.add ((x5_1).toNat * 4)).block,(ad309.add ((x5_1).toNat * 4)).off+3,none⟩=some (.int .i64 ((ja l0 x5_1).f3))∧w'.cell? (ad310.add ((x5_1).toNat * 4))=some (.int .i64 ((ja l1 x5_1).f0))∧w'.cell? ⟨(ad310.add ((x5_1).toNat * 4)).block,(ad310.add ((x5_1).toNat * 4)).off+1,none⟩=some (.bool ((ja l1 x5_1).f1))∧w'.cell? ⟨(ad310.add ((x5_1).toNat * 4)).block,(ad310.add ((x5_1).toNat * 4)).off+2,none⟩=some (.int .i64 ((ja l1 x5_1).f2))∧w'.cell? ⟨(ad310.add ((x5_1).toNat * 4)).block,(ad310.add ((x5_1).toNat * 4)).off+3,none⟩=some (.int .i64 ((ja l1 x5_1).f3))) (ds:=[]) #[false,false,false,false,false,false,false,false,false,false] (by kernel_rfl) rfl rfl ⟨((HB.out.cell (World.block_lt_of_cell? w _ hw309_0)).trans hw309_0),((HB.out.cell (World.block_lt_of_cell? w _ hw309_1)).trans hw309_1),((HB.out.cell (World.block_lt_of_cell? w _ hw309_2)).trans hw309_2),((HB.out.cell (World.block_lt_of_cell? w _ hw309_3)).trans hw309_3),((HB.out.cell (World.block_lt_of_cell? w _ hw310_0)).trans hw310_0),((HB.out.cell (World.block_lt_of_cell? w _ hw310_1)).trans hw310_1),((HB.out.cell (World.block_lt_of_cell? w _ hw310_2)).trans hw310_2),((HB.out.cell (World.block_lt_of_cell? w _ hw310_3)).trans hw310_3)⟩ (fun hHeld=>?_);refine jPa jF.tab6 jF.bits6 (fun HT_ HW_=>?_)
        generalize wr.drew=w9 at HB hx309_0 hx309_1 hx309_2 hx309_3 hx310_0 hx310_1 hx310_2 hx310_3 hHeld ⊢
        refine pq (i:=0) (N:=some 17) #[true,false,false,false,false,false,false,false,false,false] ?_
        refine pq (i:=1) (N:=some 18) #[true,true,false,false,false,false,false,false,false,false] ?_
        refine pq (i:=2) (N:=some 19) #[true,true,true,false,false,false,false,false,false,false] ?_
        refine pq (i:=4) (N:=some 21) #[true,true,true,false,true,false,false,false,false,false] ?_
        refine pq (i:=5) (N:=some 22) #[true,true,true,false,true,true,false,false,false,false] ?_
        refine pq (i:=6) (N:=some 23) #[true,true,true,false,true,true,true,false,false,false] ?_
        refine jgb (i:=3) (N:=some 20) (v:=?_) (a':=?_) #[true,true,true,true,true,true,true,false,false,false] rfl rfl (jza HT_.out HW_.out (by kernel_rfl)) (fun _ _ _ h=>h) (Or.inl ⟨by rfl,?_⟩) hHeld ?_ ?_
        rotate_left
        ·rintro w' ⟨s0,s1,s2,s3,s4,s5,s6,s7⟩
         go_simp
         with_reducible rfl
        rotate_left
        ·exact sa
        refine jgb (i:=7) (N:=some 24) (v:=?_) (a':=?_) #[true,true,true,true,true,true,true,true,false,false] rfl rfl (jza HT_.out HW_.out (by kernel_rfl)) (fun _ _ _ h=>h) (Or.inl ⟨by rfl,?_⟩) hHeld ?_ ?_
        rotate_left
        ·rintro w' ⟨s0,s1,s2,s3,s4,s5,s6,s7⟩
         go_simp
         with_reducible rfl
        rotate_left
        ·exact sa
        refine one_ (i:=8) (N:=some 25) #[true,true,true,true,true,true,true,true,true,false] rfl rfl (one_of HT_.out (by kernel_rfl)) (by decide) (fun K hK=>?_)
        refine goes_ Tryd.func20 (by kernel_rfl) rfl #[.agg #[.int .i64 ((ja l0 x5_1).f0), .bool ((ja l0 x5_1).f1), .int .i64 ((ja l0 x5_1).f2), .int .i64 ((ja l0 x5_1).f3)], .agg #[.int .i64 ((ja l1 x5_1).f0), .bool ((ja l1 x5_1).f1), .int .i64 ((ja l1 x5_1).f2), .int .i64 ((ja l1 x5_1).f3)]] (by rfl) rfl rfl (aq) ?_
        with_reducible refine (jUa.calls ((ja l0 x5_1).f0) ((ja l0 x5_1).f1) ((ja l0 x5_1).f2) ((ja l0 x5_1).f3) ((ja l1 x5_1).f0) ((ja l1 x5_1).f1) ((ja l1 x5_1).f2) ((ja l1 x5_1).f3) true _ A7.out).mono ?_
        rintro e w10 ⟨rfl,hb⟩
        refine ⟨_,rfl,?_⟩
        replace HB:=am (jd (bq) hb)
        (try clear hb)
        (try clear hb2)
        (try clear hk)
        (try clear hi)
        refine hK.out _ _ ⟨((HB.out.cell (World.block_lt_of_cell? w _ hw309_0)).trans hw309_0),((HB.out.cell (World.block_lt_of_cell? w _ hw309_1)).trans hw309_1),((HB.out.cell (World.block_lt_of_cell? w _ hw309_2)).trans hw309_2),((HB.out.cell (World.block_lt_of_cell? w _ hw309_3)).trans hw309_3),((HB.out.cell (World.block_lt_of_cell? w _ hw310_0)).trans hw310_0),((HB.out.cell (World.block_lt_of_cell? w _ hw310_1)).trans hw310_1),((HB.out.cell (World.block_lt_of_cell? w _ hw310_2)).trans hw310_2),((HB.out.cell (World.block_lt_of_cell? w _ hw310_3)).trans hw310_3)⟩ (fun hHeld=>?_)
        clear hK K
        refine norm_ (a':=?_) ?_ ?_
        rotate_left
        ·show Act.put _ (some 25) _=_
         simp only [Act.put,List.setIfInBounds_toArray,List.set_cons_zero,List.set_cons_succ,jRa,jYa]
         rfl
        refine pq (i:=9) (N:=some 26) #[true,true,true,true,true,true,true,true,true,true] ?_
        refine done_ (jsb HT_.out (by kernel_rfl)) ?_
        try go_wp2
        go_roundg k1
        case measure=>have:=HK1.out;omega
        case rel=>exact ⟨(wrap64 (x5_1+1)),(sq),H',⟨by have:=HK1.out;omega⟩,⟨bq⟩⟩
       ·replace c8:=Bool.eq_false_iff.mpr c8
        subst c8
        have H1:(some false)=some r:=by rw [if_neg (show ¬ (false=true) by decide)] at H;exact H
        clear H
        have H:=H1
        clear H1
        obtain rfl:=Option.some.inj H
        try go_wp2
        replace HB:=am (jv HB.out)
        have p309:0≤(x5_1:Int):=ozD (uq)
        have q309:x5_1<(l0.length:Int):=ozD (uq)
        obtain ⟨ad309,e309,hx309_0,hx309_1,hx309_2,hx309_3⟩:=jpa HR0.out x5_1 p309 q309
        have hw309_3:=hx309_3
        have hw309_2:=hx309_2
        have hw309_1:=hx309_1
        have hw309_0:=hx309_0
        cases e309
        replace hx309_0:=cb HB.out hx309_0
        replace hx309_1:=cb HB.out hx309_1
        replace hx309_2:=cb HB.out hx309_2
        replace hx309_3:=cb HB.out hx309_3
        replace p309:=ezT p309
        replace q309:=ezT q309
        have p310:0≤(x5_1:Int):=ozD (uq)
        have q310:x5_1<(l1.length:Int):=ozD (uq)
        obtain ⟨ad310,e310,hx310_0,hx310_1,hx310_2,hx310_3⟩:=jpa HR1.out x5_1 p310 q310
        have hw310_3:=hx310_3
        have hw310_2:=hx310_2
        have hw310_1:=hx310_1
        have hw310_0:=hx310_0
        cases e310
        replace hx310_0:=cb HB.out hx310_0
        replace hx310_1:=cb HB.out hx310_1
        replace hx310_2:=cb HB.out hx310_2
        replace hx310_3:=cb HB.out hx310_3
        replace p310:=ezT p310
        replace q310:=ezT q310
        refine start_ (n:=10) (S:=fun w'=>w'.cell? (ad309.add ((x5_1).toNat * 4))=some (.int .i64 ((ja l0 x5_1).f0))∧w'.cell? ⟨(ad309.add ((x5_1).toNat * 4)).block,(ad309.add ((x5_1).toNat * 4)).off+1,none⟩=some (.bool ((ja l0 x5_1).f1))∧w'.cell? ⟨(ad309.add ((x5_1).toNat * 4)).block,(ad309.add ((x5_1).toNat * 4)).off+2,none⟩=some (.int .i64 ((ja l0 x5_1).f2))∧w'.cell? ⟨(ad309.add ((x5_1).toNat * 4)).block,(ad309.add ((x5_1).toNat * 4)).off+3,none⟩=some (.int .i64 ((ja l0 x5_1).f3))∧w'.cell? (ad310.add ((x5_1).toNat * 4))=some (.int .i64 ((ja l1 x5_1).f0))∧w'.cell? ⟨(ad310.add ((x5_1).toNat * 4)).block,(ad310.add ((x5_1).toNat * 4)).off+1,none⟩=some (.bool ((ja l1 x5_1).f1))∧w'.cell? ⟨(ad310.add ((x5_1).toNat * 4)).block,(ad310.add ((x5_1).toNat * 4)).off+2,none⟩=some (.int .i64 ((ja l1 x5_1).f2))∧w'.cell? ⟨(ad310.add ((x5_1).toNat * 4)).block,(ad310.add ((x5_1).toNat * 4)).off+3,none⟩=some (.int .i64 ((ja l1 x5_1).f3))) (ds:=[]) #[false,false,false,false,false,false,false,false,false,false] (by kernel_rfl) rfl rfl ⟨((HB.out.cell (World.block_lt_of_cell? w _ hw309_0)).trans hw309_0),((HB.out.cell (World.block_lt_of_cell? w _ hw309_1)).trans hw309_1),((HB.out.cell (World.block_lt_of_cell? w _ hw309_2)).trans hw309_2),((HB.out.cell (World.block_lt_of_cell? w _ hw309_3)).trans hw309_3),((HB.out.cell (World.block_lt_of_cell? w _ hw310_0)).trans hw310_0),((HB.out.cell (World.block_lt_of_cell? w _ hw310_1)).trans hw310_1),((HB.out.cell (World.block_lt_of_cell? w _ hw310_2)).trans hw310_2),((HB.out.cell (World.block_lt_of_cell? w _ hw310_3)).trans hw310_3)⟩ (fun hHeld=>?_);refine jPa jF.tab6 jF.bits6 (fun HT_ HW_=>?_)
        generalize wr.drew=w11 at HB hx309_0 hx309_1 hx309_2 hx309_3 hx310_0 hx310_1 hx310_2 hx310_3 hHeld ⊢
        refine pq (i:=0) (N:=some 17) #[true,false,false,false,false,false,false,false,false,false] ?_
        refine pq (i:=1) (N:=some 18) #[true,true,false,false,false,false,false,false,false,false] ?_
        refine pq (i:=2) (N:=some 19) #[true,true,true,false,false,false,false,false,false,false] ?_
        refine pq (i:=4) (N:=some 21) #[true,true,true,false,true,false,false,false,false,false] ?_
        refine pq (i:=5) (N:=some 22) #[true,true,true,false,true,true,false,false,false,false] ?_
        refine pq (i:=6) (N:=some 23) #[true,true,true,false,true,true,true,false,false,false] ?_
        refine jgb (i:=3) (N:=some 20) (v:=?_) (a':=?_) #[true,true,true,true,true,true,true,false,false,false] rfl rfl (jza HT_.out HW_.out (by kernel_rfl)) (fun _ _ _ h=>h) (Or.inl ⟨by rfl,?_⟩) hHeld ?_ ?_
        rotate_left
        ·rintro w' ⟨s0,s1,s2,s3,s4,s5,s6,s7⟩
         go_simp
         with_reducible rfl
        rotate_left
        ·exact sa
        refine jgb (i:=7) (N:=some 24) (v:=?_) (a':=?_) #[true,true,true,true,true,true,true,true,false,false] rfl rfl (jza HT_.out HW_.out (by kernel_rfl)) (fun _ _ _ h=>h) (Or.inl ⟨by rfl,?_⟩) hHeld ?_ ?_
        rotate_left
        ·rintro w' ⟨s0,s1,s2,s3,s4,s5,s6,s7⟩
         go_simp
         with_reducible rfl
        rotate_left
        ·exact sa
        refine one_ (i:=8) (N:=some 25) #[true,true,true,true,true,true,true,true,true,false] rfl rfl (one_of HT_.out (by kernel_rfl)) (by decide) (fun K hK=>?_)
        refine goes_ Tryd.func20 (by kernel_rfl) rfl #[.agg #[.int .i64 ((ja l0 x5_1).f0), .bool ((ja l0 x5_1).f1), .int .i64 ((ja l0 x5_1).f2), .int .i64 ((ja l0 x5_1).f3)], .agg #[.int .i64 ((ja l1 x5_1).f0), .bool ((ja l1 x5_1).f1), .int .i64 ((ja l1 x5_1).f2), .int .i64 ((ja l1 x5_1).f3)]] (by rfl) rfl rfl (aq) ?_
        with_reducible refine (jUa.calls ((ja l0 x5_1).f0) ((ja l0 x5_1).f1) ((ja l0 x5_1).f2) ((ja l0 x5_1).f3) ((ja l1 x5_1).f0) ((ja l1 x5_1).f1) ((ja l1 x5_1).f2) ((ja l1 x5_1).f3) false _ A7.out).mono ?_
        rintro e w12 ⟨rfl,hb⟩
        refine ⟨_,rfl,?_⟩
        replace HB:=am (jd (bq) hb)
        (try clear hb)
        (try clear hb2)
        (try clear hk)
        (try clear hi)
        refine hK.out _ _ ⟨((HB.out.cell (World.block_lt_of_cell? w _ hw309_0)).trans hw309_0),((HB.out.cell (World.block_lt_of_cell? w _ hw309_1)).trans hw309_1),((HB.out.cell (World.block_lt_of_cell? w _ hw309_2)).trans hw309_2),((HB.out.cell (World.block_lt_of_cell? w _ hw309_3)).trans hw309_3),((HB.out.cell (World.block_lt_of_cell? w _ hw310_0)).trans hw310_0),((HB.out.cell (World.block_lt_of_cell? w _ hw310_1)).trans hw310_1),((HB.out.cell (World.block_lt_of_cell? w _ hw310_2)).trans hw310_2),((HB.out.cell (World.block_lt_of_cell? w _ hw310_3)).trans hw310_3)⟩ (fun hHeld=>?_)
        clear hK K
        refine norm_ (a':=?_) ?_ ?_
        rotate_left
        ·show Act.put _ (some 25) _=_
         simp only [Act.put,List.setIfInBounds_toArray,List.set_cons_zero,List.set_cons_succ,jRa,jYa]
         rfl
        refine pq (i:=9) (N:=some 26) #[true,true,true,true,true,true,true,true,true,true] ?_
        refine done_ (jsb HT_.out (by kernel_rfl)) ?_
        try go_wp2
        go_ret
        exact ⟨Y1,bq⟩
      ·rw [if_neg c6] at H
       exact absurd H (by simp)
     ·rw [if_neg c5] at H
      exact absurd H (by simp)
    ·rw [if_neg c4] at H
     have c4b0:decide (x5_1<(l0.length:Int))=false:=dzF c4
     clear c4
     obtain rfl:=Option.some.inj H
     go_wp2
     go_ret
     exact ⟨Y1,bq⟩
 ·rw [if_neg c3] at H
  have c3b0:((l0.length:Int) == (l1.length:Int))=false:=beq_eq_false_iff_ne.mpr c3
  have c3b1:((l0.length:Int) != (l1.length:Int))=true:=bne_iff_ne.mpr c3
  have c3b2:(l0.length == l1.length)=false:=by first | simpa using c3 |(simp at c3 ⊢;omega)
  obtain rfl:=Option.some.inj H
  go_enter Tryd.func11,Tryd.ntmps11
  go_wp2
  go_ret
  exact ⟨Y1,bq⟩
def jta.f (k : Nat) (l0_0 : List (S50)) (l1 : List (S44)) : Option (Bool) := (jDa.f k l0_0 1048576).bind fun t313 => (if t313 < 0 then (some true) else ((jAa.f l1 t313).bind fun t314 => (if t314 < 0 then (some true) else ((jN.f k l0_0).bind fun t315 => ((jD.f k l1).bind fun t318 => ((jsa.f k t315 t318).bind fun t321 => ((jN.f k l0_0).bind fun t322 => ((jD.f k l1).bind fun t326 => ((jia.f k t322 t326).bind fun t329 => (if t329.toList = t321.toList then ((jN.f k l0_0).bind fun t330 => ((jra.f k t322 t330).bind fun t333 => (if t333 = true then ((jD.f k l1).bind fun t334 => ((jF.f k t326 t334).bind fun t337 => (if t337 = true then (some true) else (some false)))) else (some false)))) else (some false)))))))))))
set_option maxHeartbeats 8000000 in
set_option maxRecDepth 100000 in
theorem jta.calls (k : Nat) (A0_0 : Option Addr) (c0_0 : Nat) (l0_0 : List (S50)) (A1 : Option Addr) (c1 : Nat) (l1 : List (S44)) (r : Bool) (w : World) (hr0_0 : Kd.C k50 w A0_0 l0_0.length l0_0) (hc0_0 : l0_0.length ≤ c0_0) (hr1 : Kd.C k44 w A1 l1.length l1) (hc1 : l1.length ≤ c1) (hT : r = true) (h : jta.f k l0_0 l1 = some r) :
  Calls Tryd.prog 3 #[.agg #[.slice A0_0 l0_0.length c0_0], .slice A1 l1.length c1] w fun e w'=>e=.returned (.bool r)∧Below w.heap.size w w':=by
 have hu24:=Tryd.underlying24
 have hu31:=Tryd.underlying31
 have HR0_0:=am hr0_0
 have HC0_0:=am hc0_0
 clear hr0_0 hc0_0
 have HR1:=am hr1
 have HC1:=am hc1
 clear hr1 hc1
 have HB:=am (Below.refl w.heap.size w)
 have H:((jDa.f k l0_0 1048576).bind fun t313=>(if t313<0 then (some true) else ((jAa.f l1 t313).bind fun t314=>(if t314<0 then (some true) else ((jN.f k l0_0).bind fun t315=>((jD.f k l1).bind fun t318=>((jsa.f k t315 t318).bind fun t321=>((jN.f k l0_0).bind fun t322=>((jD.f k l1).bind fun t326=>((jia.f k t322 t326).bind fun t329=>(if t329.toList=t321.toList then ((jN.f k l0_0).bind fun t330=>((jra.f k t322 t330).bind fun t333=>(if t333=true then ((jD.f k l1).bind fun t334=>((jF.f k t326 t334).bind fun t337=>(if t337=true then (some true) else (some false)))) else (some false)))) else (some false))))))))))))=some r:=h
 clear h
 replace H:=bzS H
 obtain ⟨t313,A30,H⟩:=H
 replace H:(if t313<0 then (some true) else ((jAa.f l1 t313).bind fun t314=>(if t314<0 then (some true) else ((jN.f k l0_0).bind fun t315=>((jD.f k l1).bind fun t318=>((jsa.f k t315 t318).bind fun t321=>((jN.f k l0_0).bind fun t322=>((jD.f k l1).bind fun t326=>((jia.f k t322 t326).bind fun t329=>(if t329.toList=t321.toList then ((jN.f k l0_0).bind fun t330=>((jra.f k t322 t330).bind fun t333=>(if t333=true then ((jD.f k l1).bind fun t334=>((jF.f k t326 t334).bind fun t337=>(if t337=true then (some true) else (some false)))) else (some false)))) else (some false)))))))))))=some r:=H
 have A3:=am A30
 clear A30
 by_cases c4:t313<0
 ·rw [if_pos c4] at H
  have c4b0:decide (t313<0)=true:=dzT c4
  clear c4
  obtain rfl:=Option.some.inj H
  go_enter Tryd.func3,Tryd.ntmps3
  go_wp2_with (first |((with_reducible refine jE (N:=2) rfl ?_);refine bE (N:=2) (cs:=#[.slice A0_0 l0_0.length c0_0]) (t:=24) ?_;intro gb312 hg w5 hbox hb;have BK312:=am (hbox);have GW312:=am ((Y0:w.heap.size≤gb312));have GE312:=am ((Y0:w.heap.size≤gb312));replace HB:=am (jd (bq) hb);clear hb hbox hg;have hcz6_0:=bc0 BK312.out;have hfz6_0:=jb BK312.out 0) |((with_reducible refine jC (f:=4) rfl ?_);refine gL (some 12) Tryd.func4 #[.agg #[.slice A0_0 l0_0.length c0_0], .int .i64 1048576] ?_;(with_reducible refine (jDa.calls k _ _ l0_0 1048576 t313 _ ?side1 ?side2 A3.out).mono ?_);(case side1=>exact cq (Kd.jG HR0_0.out HB.out));(case side2=>exact HC0_0.out);rintro e w7 ⟨rfl,hb⟩;refine ⟨_,rfl,?_⟩;replace BK312:=am (jh (g:=gb312) (o:=.cells #[.slice A0_0 l0_0.length c0_0] 24 (0,0)) (kq BK312.out) hb);replace HB:=am (jd (Y7) hb);(try clear hb);(try clear hb2);(try clear hk);(try clear hi)))
  go_ret
  exact ⟨Y1,Y7⟩
 ·rw [if_neg c4] at H
  have c4b0:decide (t313<0)=false:=dzF c4
  clear c4
  replace H:=bzS H
  obtain ⟨t314,A80,H⟩:=H
  replace H:(if t314<0 then (some true) else ((jN.f k l0_0).bind fun t315=>((jD.f k l1).bind fun t318=>((jsa.f k t315 t318).bind fun t321=>((jN.f k l0_0).bind fun t322=>((jD.f k l1).bind fun t326=>((jia.f k t322 t326).bind fun t329=>(if t329.toList=t321.toList then ((jN.f k l0_0).bind fun t330=>((jra.f k t322 t330).bind fun t333=>(if t333=true then ((jD.f k l1).bind fun t334=>((jF.f k t326 t334).bind fun t337=>(if t337=true then (some true) else (some false)))) else (some false)))) else (some false)))))))))=some r:=H
  have A8:=am A80
  clear A80
  by_cases c9:t314<0
  ·rw [if_pos c9] at H
   have c9b0:decide (t314<0)=true:=dzT c9
   clear c9
   obtain rfl:=Option.some.inj H
   go_enter Tryd.func3,Tryd.ntmps3
   go_wp2_with (first |((with_reducible refine jE (N:=2) rfl ?_);refine bE (N:=2) (cs:=#[.slice A0_0 l0_0.length c0_0]) (t:=24) ?_;intro gb312 hg w10 hbox hb;have BK312:=am (hbox);have GW312:=am ((Y0:w.heap.size≤gb312));have GE312:=am ((Y0:w.heap.size≤gb312));replace HB:=am (jd (bq) hb);clear hb hbox hg;have hcz11_0:=bc0 BK312.out;have hfz11_0:=jb BK312.out 0) |((with_reducible refine jC (f:=4) rfl ?_);refine gL (some 12) Tryd.func4 #[.agg #[.slice A0_0 l0_0.length c0_0], .int .i64 1048576] ?_;(with_reducible refine (jDa.calls k _ _ l0_0 1048576 t313 _ ?side1 ?side2 A3.out).mono ?_);(case side1=>exact cq (Kd.jG HR0_0.out HB.out));(case side2=>exact HC0_0.out);rintro e w12 ⟨rfl,hb⟩;refine ⟨_,rfl,?_⟩;replace BK312:=am (jh (g:=gb312) (o:=.cells #[.slice A0_0 l0_0.length c0_0] 24 (0,0)) (kq BK312.out) hb);replace HB:=am (jd (Y7) hb);(try clear hb);(try clear hb2);(try clear hk);(try clear hi)) |((with_reducible refine jC (f:=5) rfl ?_);refine gL (some 17) Tryd.func5 #[.slice A1 l1.length c1, .int .i64 t313] ?_;(with_reducible refine (jAa.calls _ _ l1 t313 t314 _ ?side1 ?side2 A8.out).mono ?_);(case side1=>exact cq (Kd.jG HR1.out HB.out));(case side2=>exact HC1.out);rintro e w' ⟨rfl,⟨nd,rfl⟩⟩;refine ⟨_,rfl,?_⟩))
   go_ret
   exact ⟨Y1,Y7⟩
  ·rw [if_neg c9] at H
   have c9b0:decide (t314<0)=false:=dzF c9
   clear c9
   replace H:=bzS H
   obtain ⟨t315,A130,H⟩:=H
   replace H:((jD.f k l1).bind fun t318=>((jsa.f k t315 t318).bind fun t321=>((jN.f k l0_0).bind fun t322=>((jD.f k l1).bind fun t326=>((jia.f k t322 t326).bind fun t329=>(if t329.toList=t321.toList then ((jN.f k l0_0).bind fun t330=>((jra.f k t322 t330).bind fun t333=>(if t333=true then ((jD.f k l1).bind fun t334=>((jF.f k t326 t334).bind fun t337=>(if t337=true then (some true) else (some false)))) else (some false)))) else (some false)))))))=some r:=H
   have A13:=am A130
   clear A130
   replace H:=bzS H
   obtain ⟨t318,A140,H⟩:=H
   replace H:((jsa.f k t315 t318).bind fun t321=>((jN.f k l0_0).bind fun t322=>((jD.f k l1).bind fun t326=>((jia.f k t322 t326).bind fun t329=>(if t329.toList=t321.toList then ((jN.f k l0_0).bind fun t330=>((jra.f k t322 t330).bind fun t333=>(if t333=true then ((jD.f k l1).bind fun t334=>((jF.f k t326 t334).bind fun t337=>(if t337=true then (some true) else (some false)))) else (some false)))) else (some false))))))=some r:=H
   have A14:=am A140
   clear A140
   replace H:=bzS H
   obtain ⟨t321,A150,H⟩:=H
   replace H:((jN.f k l0_0).bind fun t322=>((jD.f k l1).bind fun t326=>((jia.f k t322 t326).bind fun t329=>(if t329.toList=t321.toList then ((jN.f k l0_0).bind fun t330=>((jra.f k t322 t330).bind fun t333=>(if t333=true then ((jD.f k l1).bind fun t334=>((jF.f k t326 t334).bind fun t337=>(if t337=true then (some true) else (some false)))) else (some false)))) else (some false)))))=some r:=H
   have A15:=am A150
   clear A150
   replace H:=bzS H
   obtain ⟨t322,A160,H⟩:=H
   replace H:((jD.f k l1).bind fun t326=>((jia.f k t322 t326).bind fun t329=>(if t329.toList=t321.toList then ((jN.f k l0_0).bind fun t330=>((jra.f k t322 t330).bind fun t333=>(if t333=true then ((jD.f k l1).bind fun t334=>((jF.f k t326 t334).bind fun t337=>(if t337=true then (some true) else (some false)))) else (some false)))) else (some false))))=some r:=H
   have A16:=am A160
   clear A160
   replace H:=bzS H
   obtain ⟨t326,A170,H⟩:=H
   replace H:((jia.f k t322 t326).bind fun t329=>(if t329.toList=t321.toList then ((jN.f k l0_0).bind fun t330=>((jra.f k t322 t330).bind fun t333=>(if t333=true then ((jD.f k l1).bind fun t334=>((jF.f k t326 t334).bind fun t337=>(if t337=true then (some true) else (some false)))) else (some false)))) else (some false)))=some r:=H
   have A17:=am A170
   clear A170
   replace H:=bzS H
   obtain ⟨t329,A180,H⟩:=H
   replace H:(if t329.toList=t321.toList then ((jN.f k l0_0).bind fun t330=>((jra.f k t322 t330).bind fun t333=>(if t333=true then ((jD.f k l1).bind fun t334=>((jF.f k t326 t334).bind fun t337=>(if t337=true then (some true) else (some false)))) else (some false)))) else (some false))=some r:=H
   have A18:=am A180
   clear A180
   by_cases c19:t329.toList=t321.toList
   ·rw [if_pos c19] at H
    have c19b0:(t329.toList == t321.toList)=true:=beq_iff_eq.mpr c19
    have c19b1:(t329.toList != t321.toList)=false:=bne_eq_false_iff_eq.mpr c19
    clear c19
    replace H:=bzS H
    obtain ⟨t330,A200,H⟩:=H
    replace H:((jra.f k t322 t330).bind fun t333=>(if t333=true then ((jD.f k l1).bind fun t334=>((jF.f k t326 t334).bind fun t337=>(if t337=true then (some true) else (some false)))) else (some false)))=some r:=H
    have A20:=am A200
    clear A200
    replace H:=bzS H
    obtain ⟨t333,A210,H⟩:=H
    replace H:(if t333=true then ((jD.f k l1).bind fun t334=>((jF.f k t326 t334).bind fun t337=>(if t337=true then (some true) else (some false)))) else (some false))=some r:=H
    have A21:=am A210
    clear A210
    by_cases c22:t333=true
    ·subst c22
     have H1:((jD.f k l1).bind fun t334=>((jF.f k t326 t334).bind fun t337=>(if t337=true then (some true) else (some false))))=some r:=by rw [if_pos rfl] at H;exact H
     clear H
     have H:=H1
     clear H1
     replace H:=bzS H
     obtain ⟨t334,A230,H⟩:=H
     replace H:((jF.f k t326 t334).bind fun t337=>(if t337=true then (some true) else (some false)))=some r:=H
     have A23:=am A230
     clear A230
     replace H:=bzS H
     obtain ⟨t337,A240,H⟩:=H
     replace H:(if t337=true then (some true) else (some false))=some r:=H
     have A24:=am A240
     clear A240
     by_cases c25:t337=true
     ·subst c25
      have H1:(some true)=some r:=by rw [if_pos rfl] at H;exact H
      clear H
      have H:=H1
      clear H1
      obtain rfl:=Option.some.inj H
      go_enter Tryd.func3,Tryd.ntmps3
      try go_wp2_with (first |((with_reducible refine jE (N:=2) rfl ?_);refine bE (N:=2) (cs:=#[.slice A0_0 l0_0.length c0_0]) (t:=24) ?_;intro gb312 hg w26 hbox hb;have BK312:=am (hbox);have GW312:=am ((Y0:w.heap.size≤gb312));have GE312:=am ((Y0:w.heap.size≤gb312));replace HB:=am (jd (bq) hb);clear hb hbox hg;have hcz27_0:=bc0 BK312.out;have hfz27_0:=jb BK312.out 0) |((with_reducible refine jC (f:=4) rfl ?_);refine gL (some 12) Tryd.func4 #[.agg #[.slice A0_0 l0_0.length c0_0], .int .i64 1048576] ?_;(with_reducible refine (jDa.calls k _ _ l0_0 1048576 t313 _ ?side1 ?side2 A3.out).mono ?_);(case side1=>exact cq (Kd.jG HR0_0.out HB.out));(case side2=>exact HC0_0.out);rintro e w28 ⟨rfl,hb⟩;refine ⟨_,rfl,?_⟩;replace BK312:=am (jh (g:=gb312) (o:=.cells #[.slice A0_0 l0_0.length c0_0] 24 (0,0)) (kq BK312.out) hb);replace HB:=am (jd (Y7) hb);(try clear hb);(try clear hb2);(try clear hk);(try clear hi)) |((with_reducible refine jC (f:=5) rfl ?_);refine gL (some 17) Tryd.func5 #[.slice A1 l1.length c1, .int .i64 t313] ?_;(with_reducible refine (jAa.calls _ _ l1 t313 t314 _ ?side1 ?side2 A8.out).mono ?_);(case side1=>exact cq (Kd.jG HR1.out HB.out));(case side2=>exact HC1.out);rintro e w' ⟨rfl,⟨nd,rfl⟩⟩;refine ⟨_,rfl,?_⟩;(try (rw [drewN_self w28];generalize hq_:World.drewN w28 _=w28;have n0_:jH (w28.heap[gb312]?=some (.cells #[.slice A0_0 l0_0.length c0_0] 24 (0,0))):=⟨by rw [← hq_];exact (kq BK312.out)⟩;have n1_:jH (Below w.heap.size w w28):=⟨by rw [← hq_];exact (Y7)⟩;clear BK312 HB hq_;have BK312:=n0_;have HB:=n1_;clear n0_ n1_));have hcz29_0:=bc0 BK312.out;have hfz29_0:=jb BK312.out 0) |((with_reducible refine jC (f:=7) rfl ?_);refine gL (some 21) Tryd.func7 #[.agg #[.slice A0_0 l0_0.length c0_0]] ?_;(with_reducible refine (jN.calls k _ _ l0_0 t315 _ ?side1 ?side2 A13.out).mono ?_);(case side1=>exact cq (Kd.jG HR0_0.out HB.out));(case side2=>exact HC0_0.out);rintro e w30 ⟨v316,rfl,ho0,hb⟩;refine ⟨_,rfl,?_⟩;have HO317:=am (Kd.jMa ho0 (jL (Y7)));replace BK312:=am (jh (g:=gb312) (o:=.cells #[.slice A0_0 l0_0.length c0_0] 24 (0,0)) (kq BK312.out) hb);replace HB:=am (jd (Y7) hb);(try clear hb);(try clear hb2);(try clear hk);(try clear hi);(try clear ho0)) |((with_reducible refine jC (f:=8) rfl ?_);refine gL (some 23) Tryd.func8 #[.slice A1 l1.length c1] ?_;(with_reducible refine (jD.calls k _ _ l1 t318 _ ?side1 ?side2 A14.out).mono ?_);(case side1=>exact cq (Kd.jG HR1.out HB.out));(case side2=>exact HC1.out);rintro e w31 ⟨v319,rfl,ho0,hb⟩;refine ⟨_,rfl,?_⟩;have HO320:=am (Kd.jMa ho0 (jL (Y7)));replace HO317:=am (Kd.jha (rq HO317.out) hb);replace BK312:=am (jh (g:=gb312) (o:=.cells #[.slice A0_0 l0_0.length c0_0] 24 (0,0)) (kq BK312.out) hb);replace HB:=am (jd (Y7) hb);(try clear hb);(try clear hb2);(try clear hk);(try clear hi);(try clear ho0);obtain ⟨Ao32,co32,eo32⟩:=Kd.jVa HO317.out;subst eo32;obtain ⟨Ao33,co33,eo33⟩:=Kd.jVa HO320.out;subst eo33) |((with_reducible refine jC (f:=6) rfl ?_);refine gL (some 24) Tryd.func6 #[.agg #[.slice Ao32 t315.length co32], .slice Ao33 t318.length co33] ?_;(with_reducible refine (jsa.calls k _ _ t315 _ _ t318 t321 _ ?side1 ?side2 ?side3 ?side4 A15.out).mono ?_);(case side1=>exact cq (Kd.jqa HO317.out).2.2);(case side2=>exact (Kd.jqa HO317.out).2.1);(case side3=>exact cq (Kd.jqa HO320.out).2.2);(case side4=>exact (Kd.jqa HO320.out).2.1);rintro e w34 ⟨rfl,hb⟩;refine ⟨_,rfl,?_⟩;replace HO317:=am (Kd.jha (rq HO317.out) hb);replace HO320:=am (Kd.jha (rq HO320.out) hb);replace BK312:=am (jh (g:=gb312) (o:=.cells #[.slice A0_0 l0_0.length c0_0] 24 (0,0)) (kq BK312.out) hb);replace HB:=am (jd (Y7) hb);(try clear hb);(try clear hb2);(try clear hk);(try clear hi);have hcz35_0:=bc0 BK312.out;have hfz35_0:=jb BK312.out 0) |((with_reducible refine jC (f:=7) rfl ?_);refine gL (some 26) Tryd.func7 #[.agg #[.slice A0_0 l0_0.length c0_0]] ?_;(with_reducible refine (jN.calls k _ _ l0_0 t322 _ ?side1 ?side2 A16.out).mono ?_);(case side1=>exact cq (Kd.jG HR0_0.out HB.out));(case side2=>exact HC0_0.out);rintro e w36 ⟨v323,rfl,ho0,hb⟩;refine ⟨_,rfl,?_⟩;have HO324:=am (Kd.jMa (Kd.R_new' ho0 (Kd.R_lt (rq HO317.out))) (jL (Y7)));replace HO317:=am (Kd.jub (rq HO317.out) (Kd.R_base ho0) hb);replace HO320:=am (Kd.jha (rq HO320.out) hb);replace BK312:=am (jh (g:=gb312) (o:=.cells #[.slice A0_0 l0_0.length c0_0] 24 (0,0)) (kq BK312.out) hb);replace HB:=am (jd (Y7) hb);(try clear hb);(try clear hb2);(try clear hk);(try clear hi);(try clear ho0)) |((with_reducible refine jE (N:=7) rfl ?_);refine bE (N:=7) (cs:=#[.slice none 0 0]) (t:=31) ?_;intro gb325 hg w37 hbox hb;have BK325:=am (hbox);have GW325:=am ((Y59:w.heap.size≤gb325));have GE325:=am ((Y59:w.heap.size≤gb325));have NB312_325:=am ((by rw [hg];exact Nat.ne_of_lt (jva (g:=gb312) (o:=.cells #[.slice A0_0 l0_0.length c0_0] 24 (0,0)) (kq BK312.out)):gb312≠gb325));have NB325_312:=am ((by rw [hg];exact Nat.ne_of_gt (jva (g:=gb312) (o:=.cells #[.slice A0_0 l0_0.length c0_0] 24 (0,0)) (kq BK312.out)):gb325≠gb312));replace HO317:=am (Kd.jha (rq HO317.out) hb);replace HO320:=am (Kd.jha (rq HO320.out) hb);replace HO324:=am (Kd.jha (rq HO324.out) hb);replace BK312:=am (jh (g:=gb312) (o:=.cells #[.slice A0_0 l0_0.length c0_0] 24 (0,0)) (kq BK312.out) hb);replace HB:=am (jd (Y7) hb);clear hb hbox hg;obtain ⟨Ao38,co38,eo38⟩:=Kd.jVa HO324.out;subst eo38;have hnb39:=NB325_312.out;have hnc39:=NB312_325.out;have hcz40_0:=bc0 BK325.out;have hfz40_0:=jb BK325.out 0) |((with_reducible refine jC (f:=8) rfl ?_);refine gL (some 28) Tryd.func8 #[.slice A1 l1.length c1] ?_;(with_reducible refine (jD.calls k _ _ l1 t326 _ ?side1 ?side2 A17.out).mono ?_);(case side1=>exact Kd.jG HR1.out (Y10));(case side2=>exact HC1.out);rintro e w41 ⟨v327,rfl,ho0,hb⟩;refine ⟨_,rfl,?_⟩;have HO328:=am (Kd.jMa (Kd.R_new' ho0 (Kd.R_lt (Y60))) (jL (Y10)));replace HO317:=am (Kd.jha (by (with_reducible repeat (first | apply Kd.R_alloc | apply Kd.R_drewN | apply Kd.R_drew));exact (Kd.jFa (Kd.R_far (p:=⟨gb325,0,none⟩) (Kd.R_types HO317.out BK325.out (by decide)) (fun _ hk=>hk.2) (.slice Ao38 t322.length co38)) (fun _ h_=>h_.1))) hb);replace HO320:=am (Kd.jub (Y60) (Kd.R_base ho0) hb);replace HO324:=am (Kd.jha (by (with_reducible repeat (first | apply Kd.R_alloc | apply Kd.R_drewN | apply Kd.R_drew));exact (Kd.jFa (Kd.R_far (p:=⟨gb325,0,none⟩) (Kd.R_types HO324.out BK325.out (by decide)) (fun _ hk=>hk.2) (.slice Ao38 t322.length co38)) (fun _ h_=>h_.1))) hb);replace BK312:=am (jh (g:=gb312) (o:=.cells #[.slice A0_0 l0_0.length c0_0] 24 (0,0)) (by (with_reducible repeat (first | refine jf ?_ _ | refine jk ?_ | refine jg ?_ _));refine jaa ?_ NB312_325.out _;(with_reducible repeat (first | refine jf ?_ _ | refine jk ?_ | refine jg ?_ _));exact BK312.out) hb);replace BK325:=am (jh (g:=gb325) (o:=.cells #[.slice Ao38 t322.length co38] 31 (0,0)) (by (with_reducible repeat (first | refine jf ?_ _ | refine jk ?_ | refine jg ?_ _));refine jT (cs:=#[.slice none 0 0]) ?_ 0 _ rfl;(with_reducible repeat (first | refine jf ?_ _ | refine jk ?_ | refine jg ?_ _));exact BK325.out) hb);replace HB:=am (jd (Y10) hb);(try clear hb);(try clear hb2);(try clear hk);(try clear hi);(try clear ho0);have hcz42_0:=bc0 BK325.out;have hfz42_0:=jb BK325.out 0;obtain ⟨Ao43,co43,eo43⟩:=Kd.jVa HO328.out;subst eo43) |((with_reducible refine jC (f:=9) rfl ?_);refine gL (some 31) Tryd.func9 #[.agg #[.slice Ao38 t322.length co38], .slice Ao43 t326.length co43] ?_;(with_reducible refine (jia.calls k _ _ t322 _ _ t326 t329 _ ?side1 ?side2 ?side3 ?side4 A18.out).mono ?_);(case side1=>exact cq (Kd.jqa HO324.out).2.2);(case side2=>exact (Kd.jqa HO324.out).2.1);(case side3=>exact cq (Kd.jqa HO328.out).2.2);(case side4=>exact (Kd.jqa HO328.out).2.1);rintro e w44 ⟨rfl,hb⟩;refine ⟨_,rfl,?_⟩;replace HO317:=am (Kd.jha (rq HO317.out) hb);replace HO320:=am (Kd.jha (rq HO320.out) hb);replace HO324:=am (Kd.jha (rq HO324.out) hb);replace HO328:=am (Kd.jha (rq HO328.out) hb);replace BK312:=am (jh (g:=gb312) (o:=.cells #[.slice A0_0 l0_0.length c0_0] 24 (0,0)) (kq BK312.out) hb);replace BK325:=am (jh (g:=gb325) (o:=.cells #[.slice Ao38 t322.length co38] 31 (0,0)) (kq BK325.out) hb);replace HB:=am (jd (Y10) hb);(try clear hb);(try clear hb2);(try clear hk);(try clear hi)))
      replace HO317:=am (Kd.R_drew HO317.out)
      replace HO320:=am (Kd.R_drew HO320.out)
      replace HO324:=am (Kd.R_drew HO324.out)
      replace HO328:=am (Kd.R_drew HO328.out)
      replace BK312:=am (jk BK312.out)
      replace BK325:=am (jk BK325.out)
      replace HB:=am (jv HB.out)
      refine start_ (n:=5) (S:=fun w'=>w'.cell? ⟨gb325,0,none⟩=some (.slice Ao38 t322.length co38)∧w'.cell? ⟨gb312,0,none⟩=some (.slice A0_0 l0_0.length c0_0)) (ds:=[]) #[false,false,false,false,false] (by kernel_rfl) rfl rfl ⟨(jBa BK325.out 0).trans rfl,(jBa BK312.out 0).trans rfl⟩ (fun hHeld=>?_)
      generalize w44.drew=w45 at HO317 HO320 HO324 HO328 BK312 BK325 HB hHeld ⊢
      refine jgb (i:=0) (N:=some 35) (v:=?_) (a':=?_) #[true,false,false,false,false] rfl rfl (by kernel_rfl) (fun _ _ _ h=>h) (Or.inl ⟨by rfl,?_⟩) hHeld ?_ ?_
      rotate_left
      ·rintro w' ⟨s0,s1⟩
       go_simp
       with_reducible rfl
      rotate_left
      ·exact sa
      refine jgb (i:=1) (N:=some 36) (v:=?_) (a':=?_) #[true,true,false,false,false] rfl rfl (by kernel_rfl) (fun _ _ _ h=>h) (Or.inl ⟨by rfl,?_⟩) hHeld ?_ ?_
      rotate_left
      ·rintro w' ⟨s0,s1⟩
       go_simp
       with_reducible rfl
      rotate_left
      ·exact sa
      refine one_ (i:=2) (N:=some 37) #[true,true,true,false,false] rfl rfl (by kernel_rfl) (by decide) (fun K hK=>?_)
      refine goes_ Tryd.func7 (by kernel_rfl) rfl #[.agg #[.slice A0_0 l0_0.length c0_0]] (by rfl) rfl rfl (aq) ?_
      with_reducible refine (jN.calls k _ _ l0_0 t330 _ ?side1 ?side2 A20.out).mono ?_
      (case side1=>exact cq (Kd.jG HR0_0.out HB.out))
      (case side2=>exact HC0_0.out)
      rintro e w46 ⟨v331,rfl,ho0,hb⟩
      refine ⟨_,rfl,?_⟩
      have HO332:=am (Kd.jMa (Kd.R_new' (Kd.R_new' ho0 (Kd.R_lt (rq HO317.out))) (Kd.R_lt (rq HO324.out))) (jL (Y10)))
      replace HO317:=am (Kd.jub (rq HO317.out) (Kd.R_base ho0) hb)
      replace HO320:=am (Kd.jha (rq HO320.out) hb)
      replace HO324:=am (Kd.jub (rq HO324.out) (Kd.R_base ho0) hb)
      replace HO328:=am (Kd.jha (rq HO328.out) hb)
      replace BK312:=am (jh (g:=gb312) (o:=.cells #[.slice A0_0 l0_0.length c0_0] 24 (0,0)) (kq BK312.out) hb)
      replace BK325:=am (jh (g:=gb325) (o:=.cells #[.slice Ao38 t322.length co38] 31 (0,0)) (kq BK325.out) hb)
      replace HB:=am (jd (Y10) hb)
      (try clear hb)
      (try clear hb2)
      (try clear hk)
      (try clear hi)
      (try clear ho0)
      obtain ⟨Ao47,co47,eo47⟩:=Kd.jVa HO332.out
      (first | subst eo47 |(injection eo47 with f1_ f2_ f3_;have f4_:=f1_.symm;have f5_:=f3_.symm;clear f1_ f2_ f3_;subst f4_;subst f5_))
      refine hK.out _ _ ⟨(jBa BK325.out 0).trans rfl,(jBa BK312.out 0).trans rfl⟩ (fun hHeld=>?_)
      clear hK K
      refine norm_ (a':=?_) ?_ ?_
      rotate_left
      ·show Act.put _ (some 37) _=_
       simp only [Act.put,List.setIfInBounds_toArray,List.set_cons_zero,List.set_cons_succ,jRa,jYa]
       rfl
      refine one_ (i:=3) (N:=some 38) #[true,true,true,true,false] rfl rfl (by kernel_rfl) (by decide) (fun K hK=>?_)
      refine goes_ Tryd.func10 (by kernel_rfl) rfl #[.agg #[.slice Ao38 t322.length co38], .agg #[.slice Ao47 t330.length co47]] (by rfl) rfl rfl (aq) ?_
      with_reducible refine (jra.calls k _ _ t322 _ _ t330 true _ ?side1 ?side2 ?side3 ?side4 A21.out).mono ?_
      (case side1=>exact cq (Kd.jqa HO324.out).2.2)
      (case side2=>exact (Kd.jqa HO324.out).2.1)
      (case side3=>exact cq (Kd.jqa HO332.out).2.2)
      (case side4=>exact (Kd.jqa HO332.out).2.1)
      rintro e w48 ⟨rfl,hb⟩
      refine ⟨_,rfl,?_⟩
      replace HO317:=am (Kd.jha (rq HO317.out) hb)
      replace HO320:=am (Kd.jha (rq HO320.out) hb)
      replace HO324:=am (Kd.jha (rq HO324.out) hb)
      replace HO328:=am (Kd.jha (rq HO328.out) hb)
      replace HO332:=am (Kd.jha (rq HO332.out) hb)
      replace BK312:=am (jh (g:=gb312) (o:=.cells #[.slice A0_0 l0_0.length c0_0] 24 (0,0)) (kq BK312.out) hb)
      replace BK325:=am (jh (g:=gb325) (o:=.cells #[.slice Ao38 t322.length co38] 31 (0,0)) (kq BK325.out) hb)
      replace HB:=am (jd (Y10) hb)
      (try clear hb)
      (try clear hb2)
      (try clear hk)
      (try clear hi)
      refine hK.out _ _ ⟨(jBa BK325.out 0).trans rfl,(jBa BK312.out 0).trans rfl⟩ (fun hHeld=>?_)
      clear hK K
      refine norm_ (a':=?_) ?_ ?_
      rotate_left
      ·show Act.put _ (some 38) _=_
       simp only [Act.put,List.setIfInBounds_toArray,List.set_cons_zero,List.set_cons_succ,jRa,jYa]
       rfl
      refine pure_ (i:=4) (N:=some 39) (v:=?_) (a':=?_) #[true,true,true,true,true] rfl rfl (by kernel_rfl) (fun _ _ _ h=>h) (Or.inl ⟨by rfl,?_⟩) ?_ ?_
      rotate_left
      ·exact sb
      rotate_left
      ·exact sa
      refine done_ (by kernel_rfl) ?_
      try go_wp2_with (first |((with_reducible refine jC (f:=8) rfl ?_);refine gL (some 42) Tryd.func8 #[.slice A1 l1.length c1] ?_;(with_reducible refine (jD.calls k _ _ l1 t334 _ ?side1 ?side2 A23.out).mono ?_);(case side1=>exact cq (Kd.jG HR1.out HB.out));(case side2=>exact HC1.out);rintro e w49 ⟨v335,rfl,ho0,hb⟩;refine ⟨_,rfl,?_⟩;have HO336:=am (Kd.jMa (Kd.R_new' (Kd.R_new' ho0 (Kd.R_lt (rq HO320.out))) (Kd.R_lt (rq HO328.out))) (jL (Y10)));replace HO317:=am (Kd.jha (rq HO317.out) hb);replace HO320:=am (Kd.jub (rq HO320.out) (Kd.R_base ho0) hb);replace HO324:=am (Kd.jha (rq HO324.out) hb);replace HO328:=am (Kd.jub (rq HO328.out) (Kd.R_base ho0) hb);replace HO332:=am (Kd.jha (rq HO332.out) hb);replace BK312:=am (jh (g:=gb312) (o:=.cells #[.slice A0_0 l0_0.length c0_0] 24 (0,0)) (kq BK312.out) hb);replace BK325:=am (jh (g:=gb325) (o:=.cells #[.slice Ao38 t322.length co38] 31 (0,0)) (kq BK325.out) hb);replace HB:=am (jd (Y10) hb);(try clear hb);(try clear hb2);(try clear hk);(try clear hi);(try clear ho0);obtain ⟨Ao50,co50,eo50⟩:=Kd.jVa HO336.out;subst eo50) |((with_reducible refine jC (f:=11) rfl ?_);refine gL (some 43) Tryd.func11 #[.slice Ao43 t326.length co43, .slice Ao50 t334.length co50] ?_;(with_reducible refine (jF.calls k _ _ t326 _ _ t334 true _ ?side1 ?side2 ?side3 ?side4 A24.out).mono ?_);(case side1=>exact cq (Kd.jqa HO328.out).2.2);(case side2=>exact (Kd.jqa HO328.out).2.1);(case side3=>exact cq (Kd.jqa HO336.out).2.2);(case side4=>exact (Kd.jqa HO336.out).2.1);rintro e w51 ⟨rfl,hb⟩;refine ⟨_,rfl,?_⟩;replace HO317:=am (Kd.jha (rq HO317.out) hb);replace HO320:=am (Kd.jha (rq HO320.out) hb);replace HO324:=am (Kd.jha (rq HO324.out) hb);replace HO328:=am (Kd.jha (rq HO328.out) hb);replace HO332:=am (Kd.jha (rq HO332.out) hb);replace HO336:=am (Kd.jha (rq HO336.out) hb);replace BK312:=am (jh (g:=gb312) (o:=.cells #[.slice A0_0 l0_0.length c0_0] 24 (0,0)) (kq BK312.out) hb);replace BK325:=am (jh (g:=gb325) (o:=.cells #[.slice Ao38 t322.length co38] 31 (0,0)) (kq BK325.out) hb);replace HB:=am (jd (Y10) hb);(try clear hb);(try clear hb2);(try clear hk);(try clear hi)))
      go_ret
      exact ⟨Y1,Y10⟩
     ·replace c25:=Bool.eq_false_iff.mpr c25
      subst c25
      have H1:(some false)=some r:=by rw [if_neg (show ¬ (false=true) by decide)] at H;exact H
      clear H
      have H:=H1
      clear H1
      exact absurd ((Option.some.inj H).trans hT) Bool.false_ne_true
    ·replace c22:=Bool.eq_false_iff.mpr c22
     subst c22
     have H1:(some false)=some r:=by rw [if_neg (show ¬ (false=true) by decide)] at H;exact H
     clear H
     have H:=H1
     clear H1
     exact absurd ((Option.some.inj H).trans hT) Bool.false_ne_true
   ·rw [if_neg c19] at H
    have c19b0:(t329.toList == t321.toList)=false:=beq_eq_false_iff_ne.mpr c19
    have c19b1:(t329.toList != t321.toList)=true:=bne_iff_ne.mpr c19
    exact absurd ((Option.some.inj H).trans hT) Bool.false_ne_true
end Go.Proofs.YtpfaohdpnegjnaaDoor.P
end
