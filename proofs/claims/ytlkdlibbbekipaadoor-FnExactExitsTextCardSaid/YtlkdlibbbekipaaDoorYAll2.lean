/- One part of the proofs on this program: functions of the program as plain functions, that the code comes to them, and facts on them. -/
import Derived.Shelf.Strconv.Itoa3
import Derived.Shelf.Strings.Builder1
import Derived.Test.YtlkdlibbbekipaaDoorYAll1
import Derived.Test.YtlkdlibbbekipaaDoorYWAuto
section
namespace Go.Proofs.YtlkdlibbbekipaaDoor.P
open Go.RowKit Go.Proofs.YtlkdlibbbekipaaDoorW.PrintWords Go.Proofs.YtlkdlibbbekipaaDoorW.PrintLast Go.Proofs.YtlkdlibbbekipaaDoorW.PrintMore
attribute [local go_sem] jaa jY jka jja jR jQ jZ jX jf
set_option linter.unusedVariables false
set_option linter.unusedSimpArgs false
def jH.f (k : Nat) (l0_0 : List (S59)) : Option ((List (S63))) := (jK.f k l0_0).bind fun t148 => (some t148)
set_option maxHeartbeats 8000000 in
set_option maxRecDepth 100000 in
theorem jH.calls (k : Nat) (A0_0 : Option Addr) (c0_0 : Nat) (l0_0 : List (S59)) (r : List (S63)) (w : World) (hr0_0 : Kd.C k59 w A0_0 l0_0.length l0_0) (hc0_0 : l0_0.length ≤ c0_0) (h : jH.f k l0_0 = some r) :
  Calls Tryd.prog 7 #[.agg #[.slice A0_0 l0_0.length c0_0]] w fun e w'=>∃ v0_:Value,e=.returned (.agg #[v0_])∧Kd.R k63 63 w' w.heap.size (fun _=>True) v0_ r∧Below w.heap.size w w':=by
 have hu24:=Tryd.underlying24
 have hu31:=Tryd.underlying31
 have HR0_0:=am hr0_0
 have HC0_0:=am hc0_0
 clear hr0_0 hc0_0
 have HB:=am (Below.refl w.heap.size w)
 have H:((jK.f k l0_0).bind fun t148=>(some t148))=some r:=h
 clear h
 replace H:=bzS H
 obtain ⟨t148,A20,H⟩:=H
 replace H:(some t148)=some r:=H
 have A2:=am A20
 clear A20
 obtain rfl:=Option.some.inj H
 go_enter Tryd.func7,Tryd.ntmps7
 go_wp2_with (first |((with_reducible refine jr (N:=1) rfl ?_);refine bE (N:=1) (cs:=#[.slice A0_0 l0_0.length c0_0]) (t:=24) ?_;intro gb145 hg w3 hbox hb;have BK145:=am (hbox);have GW145:=am ((Y0:w.heap.size≤gb145));have GE145:=am ((Y0:w.heap.size≤gb145));replace HB:=am (jb (bq) hb);clear hb hbox hg) |((with_reducible refine jr (N:=2) rfl ?_);refine bE (N:=2) (cs:=#[.slice none 0 0]) (t:=31) ?_;intro gb146 hg w4 hbox hb;have BK146:=am (hbox);have GW146:=am ((Y41:w.heap.size≤gb146));have GE146:=am ((Y41:w.heap.size≤gb146));have NB145_146:=am ((by rw [hg];exact Nat.ne_of_lt (jma (g:=gb145) (o:=.cells #[.slice A0_0 l0_0.length c0_0] 24 (0,0)) (kq BK145.out)):gb145≠gb146));have NB146_145:=am ((by rw [hg];exact Nat.ne_of_gt (jma (g:=gb145) (o:=.cells #[.slice A0_0 l0_0.length c0_0] 24 (0,0)) (kq BK145.out)):gb146≠gb145));replace BK145:=am (jc (g:=gb145) (o:=.cells #[.slice A0_0 l0_0.length c0_0] 24 (0,0)) (kq BK145.out) hb);replace HB:=am (jb (by repeat (first |(with_reducible first | exact HB.out | apply ji | apply jd | apply jh | refine jk ?_ GE145.out) | exact HB.out)) hb);clear hb hbox hg) |((with_reducible refine jr (N:=3) rfl ?_);refine bE (N:=3) (cs:=#[.slice none 0 0]) (t:=31) ?_;intro gb147 hg w5 hbox hb;have BK147:=am (hbox);have GW147:=am ((Y42:w.heap.size≤gb147));have GE147:=am ((Y42:w.heap.size≤gb147));have NB145_147:=am ((by rw [hg];exact Nat.ne_of_lt (jma (g:=gb145) (o:=.cells #[.slice A0_0 l0_0.length c0_0] 24 (0,0)) (kq BK145.out)):gb145≠gb147));have NB147_145:=am ((by rw [hg];exact Nat.ne_of_gt (jma (g:=gb145) (o:=.cells #[.slice A0_0 l0_0.length c0_0] 24 (0,0)) (kq BK145.out)):gb147≠gb145));have NB146_147:=am ((by rw [hg];exact Nat.ne_of_lt (jma (g:=gb146) (o:=.cells #[.slice none 0 0] 31 (0,0)) (kq BK146.out)):gb146≠gb147));have NB147_146:=am ((by rw [hg];exact Nat.ne_of_gt (jma (g:=gb146) (o:=.cells #[.slice none 0 0] 31 (0,0)) (kq BK146.out)):gb147≠gb146));replace BK145:=am (jc (g:=gb145) (o:=.cells #[.slice A0_0 l0_0.length c0_0] 24 (0,0)) (kq BK145.out) hb);replace BK146:=am (jc (g:=gb146) (o:=.cells #[.slice none 0 0] 31 (0,0)) (kq BK146.out) hb);replace HB:=am (jb (by repeat (first |(with_reducible first | exact HB.out | apply ji | apply jd | apply jh | refine jk ?_ GE145.out | refine jk ?_ GE146.out) | exact HB.out)) hb);clear hb hbox hg;have hnb6:=NB145_146.out;have hnc6:=NB146_145.out;have hnb7:=NB145_147.out;have hnc7:=NB147_145.out;have hcz8_0:=bc0 BK145.out;have hfz8_0:=ja BK145.out 0) |((with_reducible refine jl (f:=15) rfl ?_);refine gL (some 6) Tryd.func15 #[.slice A0_0 l0_0.length c0_0] ?_;(with_reducible refine (jK.calls k _ _ l0_0 t148 _ ?side1 ?side2 A2.out).mono ?_);(case side1=>exact cq (Kd.jD HR0_0.out HB.out));(case side2=>exact HC0_0.out);rintro e w9 ⟨v149,rfl,ho0,hb⟩;refine ⟨_,rfl,?_⟩;have HO150:=am (Kd.jRa ho0 (jP (Y30)));replace BK145:=am (jc (g:=gb145) (o:=.cells #[.slice A0_0 l0_0.length c0_0] 24 (0,0)) (kq BK145.out) hb);replace BK146:=am (jc (g:=gb146) (o:=.cells #[.slice none 0 0] 31 (0,0)) (kq BK146.out) hb);replace BK147:=am (jc (g:=gb147) (o:=.cells #[.slice none 0 0] 31 (0,0)) (kq BK147.out) hb);replace HB:=am (jb (Y30) hb);(try clear hb);(try clear hb2);(try clear hk);(try clear hi);(try clear ho0);obtain ⟨Ao10,co10,eo10⟩:=Kd.jQa HO150.out;subst eo10;have hnb11:=NB147_146.out;have hnc11:=NB146_147.out;have hcz12_0:=bc0 BK147.out;have hfz12_0:=ja BK147.out 0;have hcz13_0:=bc0 BK146.out;have hfz13_0:=ja BK146.out 0))
 refine bodyPost_ret (results_cell_row rfl _ _ gb146 31 #[.slice Ao10 t148.length co10] (0,0) _ rfl (by (with_reducible repeat (first | refine jA ?_ _ | refine jC ?_ | refine jB ?_ _));refine jDa (cs:=#[.slice none 0 0]) ?_ 0 _ rfl;(with_reducible repeat (first | refine jA ?_ _ | refine jC ?_ | refine jB ?_ _));refine jEa ?_ NB146_147.out _;(with_reducible repeat (first | refine jA ?_ _ | refine jC ?_ | refine jB ?_ _));exact BK146.out) Tryd.underlying31 rfl (by kernel_rfl)) rfl ?_
 exact ⟨_,Y1,by (with_reducible repeat (first | apply Kd.R_alloc | apply Kd.R_drewN | apply Kd.R_drew));exact Kd.R_mono (Kd.R_far (p:=⟨gb146,0,none⟩) (Kd.R_far (p:=⟨gb147,0,none⟩) (Kd.R_types (Kd.R_types HO150.out BK147.out (by decide)) BK146.out (by decide)) (fun _ hk=>hk.1.2) (.slice Ao10 t148.length co10)) (fun _ hk=>hk.2) (.slice Ao10 t148.length co10)) (fun _ hk=>trivial),Y30⟩
def jPa.f (a0_0 : Int) (a0_1 : Int) (a0_2 : Int) : Option (Int × Int × Int) := some (a0_0, a0_1, a0_2)
set_option maxHeartbeats 8000000 in
set_option maxRecDepth 100000 in
theorem jPa.calls (a0_0 : Int) (a0_1 : Int) (a0_2 : Int) (r1 : Int) (r2 : Int) (r3 : Int) (w : World) (h : jPa.f a0_0 a0_1 a0_2 = some (r1, r2, r3)) :
  Calls Tryd.prog 16 #[.agg #[.int .i64 a0_0, .int .i64 a0_1, .int .i64 a0_2]] w fun e w'=>e=.returned (.agg #[.int .i64 r1, .int .i64 r2, .int .i64 r3])∧Below w.heap.size w w':=by
 have hu44:=Tryd.underlying44
 have hu42:=Tryd.underlying42
 have HB:=am (Below.refl w.heap.size w)
 have H:(some (a0_0,a0_1,a0_2))=some (r1,r2,r3):=h
 clear h
 simp only [Option.some.injEq,Prod.mk.injEq] at H
 obtain ⟨rfl,rfl,rfl⟩:=H
 go_enter Tryd.func16,Tryd.ntmps16
 go_wp2_with (first |((with_reducible refine jr (N:=1) rfl ?_);refine bE (N:=1) (cs:=#[.int .i64 a0_0, .int .i64 a0_1, .int .i64 a0_2]) (t:=44) ?_;intro gb151 hg w2 hbox hb;have BK151:=am (hbox);have GW151:=am ((Y0:w.heap.size≤gb151));have GE151:=am ((Y0:w.heap.size≤gb151));replace HB:=am (jb (bq) hb);clear hb hbox hg) |((with_reducible refine jr (N:=2) rfl ?_);refine bE (N:=2) (cs:=#[.int .i64 0, .int .i64 0, .int .i64 0]) (t:=42) ?_;intro gb152 hg w3 hbox hb;have BK152:=am (hbox);have GW152:=am ((Y43:w.heap.size≤gb152));have GE152:=am ((Y43:w.heap.size≤gb152));have NB151_152:=am ((Y44:gb151≠gb152));have NB152_151:=am ((Y45:gb152≠gb151));replace BK151:=am (jc (g:=gb151) (o:=.cells #[.int .i64 a0_0, .int .i64 a0_1, .int .i64 a0_2] 44 (0,0)) (kq BK151.out) hb);replace HB:=am (jb (by repeat (first |(with_reducible first | exact HB.out | apply ji | apply jd | apply jh | refine jk ?_ GE151.out) | exact HB.out)) hb);clear hb hbox hg) |((with_reducible refine jr (N:=3) rfl ?_);refine bE (N:=3) (cs:=#[.int .i64 0, .int .i64 0, .int .i64 0]) (t:=42) ?_;intro gb153 hg w4 hbox hb;have BK153:=am (hbox);have GW153:=am ((Y46:w.heap.size≤gb153));have GE153:=am ((Y46:w.heap.size≤gb153));have NB151_153:=am ((Y44:gb151≠gb153));have NB153_151:=am ((Y45:gb153≠gb151));have NB152_153:=am ((by rw [hg];exact Nat.ne_of_lt (jma (g:=gb152) (o:=.cells #[.int .i64 0, .int .i64 0, .int .i64 0] 42 (0,0)) (kq BK152.out)):gb152≠gb153));have NB153_152:=am ((by rw [hg];exact Nat.ne_of_gt (jma (g:=gb152) (o:=.cells #[.int .i64 0, .int .i64 0, .int .i64 0] 42 (0,0)) (kq BK152.out)):gb153≠gb152));replace BK151:=am (jc (g:=gb151) (o:=.cells #[.int .i64 a0_0, .int .i64 a0_1, .int .i64 a0_2] 44 (0,0)) (kq BK151.out) hb);replace BK152:=am (jc (g:=gb152) (o:=.cells #[.int .i64 0, .int .i64 0, .int .i64 0] 42 (0,0)) (kq BK152.out) hb);replace HB:=am (jb (by repeat (first |(with_reducible first | exact HB.out | apply ji | apply jd | apply jh | refine jk ?_ GE151.out | refine jk ?_ GE152.out) | exact HB.out)) hb);clear hb hbox hg;have hnb5:=NB151_152.out;have hnc5:=NB152_151.out;have hnb6:=NB151_153.out;have hnc6:=NB153_151.out;have hcz7_0:=bc0 BK151.out;have hcz7_1:=bc1 BK151.out;have hcz7_2:=bc2 BK151.out;have hfz7_0:=ja BK151.out 0;have hfz7_1:=ja BK151.out 1;have hfz7_2:=ja BK151.out 2;have hnb8:=NB153_152.out;have hnc8:=NB152_153.out;have hcz9_0:=bc0 BK153.out;have hcz9_1:=bc1 BK153.out;have hcz9_2:=bc2 BK153.out;have hfz9_0:=ja BK153.out 0;have hfz9_1:=ja BK153.out 1;have hfz9_2:=ja BK153.out 2;have hcz10_0:=bc0 BK152.out;have hcz10_1:=bc1 BK152.out;have hcz10_2:=bc2 BK152.out;have hfz10_0:=ja BK152.out 0;have hfz10_1:=ja BK152.out 1;have hfz10_2:=ja BK152.out 2))
 refine bodyPost_ret (results_cell_row rfl _ _ gb152 42 #[.int .i64 a0_0, .int .i64 a0_1, .int .i64 a0_2] (0,0) _ rfl (by (with_reducible repeat (first | refine jA ?_ _ | refine jC ?_ | refine jB ?_ _));refine jDa (cs:=#[.int .i64 a0_0, .int .i64 a0_1, .int .i64 0]) ?_ 2 _ rfl;(with_reducible repeat (first | refine jA ?_ _ | refine jC ?_ | refine jB ?_ _));refine jDa (cs:=#[.int .i64 a0_0, .int .i64 0, .int .i64 0]) ?_ 1 _ rfl;(with_reducible repeat (first | refine jA ?_ _ | refine jC ?_ | refine jB ?_ _));refine jDa (cs:=#[.int .i64 0, .int .i64 0, .int .i64 0]) ?_ 0 _ rfl;(with_reducible repeat (first | refine jA ?_ _ | refine jC ?_ | refine jB ?_ _));refine jEa ?_ NB152_153.out _;(with_reducible repeat (first | refine jA ?_ _ | refine jC ?_ | refine jB ?_ _));refine jEa ?_ NB152_153.out _;(with_reducible repeat (first | refine jA ?_ _ | refine jC ?_ | refine jB ?_ _));refine jEa ?_ NB152_153.out _;(with_reducible repeat (first | refine jA ?_ _ | refine jC ?_ | refine jB ?_ _));exact BK152.out) Tryd.underlying42 rfl (by kernel_rfl)) rfl ?_
 exact ⟨Y1,by repeat (first |(with_reducible first | exact HB.out | apply ji | apply jd | apply jh | refine jk ?_ GE151.out | refine jk ?_ GE152.out | refine jk ?_ GE153.out) | exact HB.out)⟩
def jm.l0 : Nat → List (S44) → List (S42) → Int → Option ((List (S42)))
 | 0,_,_,_=>none
 | k+1,x0,x3,x4=>if x4<(x0.length:Int) then (if 0≤x4 then ((jPa.f ((jSa x0 x4).f0) ((jSa x0 x4).f1) ((jSa x0 x4).f2)).bind fun bt158=>(if x4<(x3.length:Int) then (jm.l0 k x0 (x3.set (x4:Int).toNat (⟨bt158.1,bt158.2.1,bt158.2.2⟩:S42)) (wrap64 (x4+1))) else (none))) else (none)) else (some x3)
def jm.f (k : Nat) (l0 : List (S44)) : Option ((List (S42))) := if 0 ≤ (l0.length : Int) then (if ((l0.length : Int) : Int).toNat ≤ 11728124029610 then (jm.l0 k l0 (List.replicate ((l0.length : Int) : Int).toNat z42) 0) else (none)) else (none)
set_option maxHeartbeats 8000000 in
set_option maxRecDepth 100000 in
theorem jm.calls (k : Nat) (A0 : Option Addr) (c0 : Nat) (l0 : List (S44)) (r : List (S42)) (w : World) (hr0 : Kd.C k44 w A0 l0.length l0) (hc0 : l0.length ≤ c0) (h : jm.f k l0 = some r) :
  Calls Tryd.prog 8 #[.slice A0 l0.length c0] w fun e w'=>∃ v0_:Value,e=.returned (v0_)∧Kd.R k42 42 w' w.heap.size (fun _=>True) v0_ r∧Below w.heap.size w w':=by
 have hu44:=Tryd.underlying44
 have hu42:=Tryd.underlying42
 have HR0:=am hr0
 have HC0:=am hc0
 clear hr0 hc0
 have HB:=am (Below.refl w.heap.size w)
 have H:(if 0≤(l0.length:Int) then (if ((l0.length:Int):Int).toNat≤11728124029610 then (jm.l0 k l0 (List.replicate ((l0.length:Int):Int).toNat z42) 0) else (none)) else (none))=some r:=h
 clear h
 by_cases c2:0≤(l0.length:Int)
 ·rw [if_pos c2] at H
  have c2b0:=ezT c2
  have c2b1:decide (0≤(l0.length:Int))=true:=dzT c2
  clear c2
  by_cases c3:((l0.length:Int):Int).toNat≤11728124029610
  ·rw [if_pos c3] at H
   have c3b0:=ezT c3
   have c3b1:decide (((l0.length:Int):Int).toNat≤11728124029610)=true:=dzT c3
   clear c3
   obtain ⟨y154,hy154⟩:∃ y_:List (S42),y_=(List.replicate ((l0.length:Int):Int).toNat z42):=⟨_,rfl⟩
   replace H:(jm.l0 k l0 y154 0)=some r:=by first |(rw [hy154];with_reducible exact H) |(have H2_:=(Option.bind_some _ _).symm.trans H;rw [hy154];with_reducible exact H2_) |(have H2_:=(Option.bind_some _ _).symm.trans H;with_reducible exact H2_) | with_reducible exact H |(rw [hy154];exact H) | exact H
   have Ny154:=am hy154
   clear hy154
   have H':=am H
   clear H
   go_enter Tryd.func8,Tryd.ntmps8
   go_wp2_with (first |((with_reducible refine jr (N:=7) rfl ?_);refine Kd.R_make k42 _ 42 rfl (N:=7) rfl 33 _ _ rfl (l0.length:Int) rfl rfl Tryd.underlying33 (.agg #[(.int .i64 0),(.int .i64 0),(.int .i64 0)]) 24 info42 rfl (by decide) (by omega) z42 (ok:=fun _=>True) (okp:=fun _=>True) (k42_mkM _ _ _ z42 ) (fun _ hk=>hk) trivial (ozD (uq)) (Nat.le_trans (Nat.mul_le_mul_right _ (ozD (uq):(l0.length:Int).toNat≤11728124029610)) (by omega)) (Below.refl _ _) (Nat.le_refl _) ?_;intro v155 w4 ho5 hb hg_ hnew_;clear hg_ hnew_;(first | rw [← Ny154.out] at ho5 |(simp only [Int.reduceToNat] at ho5;rw [← Ny154.out] at ho5));have HO156:=am (Kd.jRa ho5 (jP (bq)));replace HB:=am (jb (bq) hb);clear hb ho5))
   go_loopg [4] k (fun kq v4 w'=>∃ (x3_1:List (S42)) (x4_1:Int),v4=.int .i64 x4_1∧jJ (jm.l0 kq l0 x3_1 x4_1=some r)∧jJ (kq≤k)∧jJ (Kd.R k42 42 w' w.heap.size (fun _=>True) v155 x3_1)∧jJ (Below w.heap.size w w'))
   case atStart=>exact ⟨(y154),(0),(sq),H',⟨Nat.le_refl _⟩,⟨rq HO156.out⟩,⟨bq⟩⟩
   case round =>
    clear H'
    try clear c2
    try clear c2b0
    try clear c2b1
    try clear p2
    try clear c3
    try clear c3b0
    try clear c3b1
    obtain ⟨x3_1,x4_1,rfl,HA,HK1,HO_3,HB⟩:=hrel
    cases gk with
    | zero=>exact absurd HA.out (by simp [jm.l0])
    | succ k1 =>
     have H:=HA.out
     clear HA
     simp only [jm.l0] at H
     by_cases c6:x4_1<(l0.length:Int)
     ·rw [if_pos c6] at H
      have c6b0:decide (x4_1<(l0.length:Int))=true:=dzT c6
      clear c6
      by_cases c7:0≤x4_1
      ·rw [if_pos c7] at H
       have c7b0:decide (0≤x4_1)=true:=dzT c7
       clear c7
       replace H:=bzS H
       obtain ⟨⟨t158,t159,t160⟩,A80,H⟩:=H
       replace H:(if x4_1<(x3_1.length:Int) then (jm.l0 k1 l0 (x3_1.set (x4_1:Int).toNat (⟨t158,t159,t160⟩:S42)) (wrap64 (x4_1+1))) else (none))=some r:=H
       have A8:=am A80
       clear A80
       by_cases c9:x4_1<(x3_1.length:Int)
       ·rw [if_pos c9] at H
        have c9b0:decide (x4_1<(x3_1.length:Int))=true:=dzT c9
        clear c9
        obtain ⟨y161,hy161⟩:∃ y_:List (S42),y_=(x3_1.set (x4_1:Int).toNat (⟨t158,t159,t160⟩:S42)):=⟨_,rfl⟩
        replace H:(jm.l0 k1 l0 y161 (wrap64 (x4_1+1)))=some r:=by first |(rw [hy161];with_reducible exact H) |(have H2_:=(Option.bind_some _ _).symm.trans H;rw [hy161];with_reducible exact H2_) |(have H2_:=(Option.bind_some _ _).symm.trans H;with_reducible exact H2_) | with_reducible exact H |(rw [hy161];exact H) | exact H
        have Ny161:=am hy161
        clear hy161
        have H':=am H
        clear H
        have p157:0≤(x4_1:Int):=ozD (uq)
        have q157:x4_1<(l0.length:Int):=ozD (uq)
        obtain ⟨ad157,e157,hx157_0,hx157_1,hx157_2⟩:=at_T44 HR0.out x4_1 p157 q157
        cases e157
        replace hx157_0:=cb HB.out hx157_0
        replace hx157_1:=cb HB.out hx157_1
        replace hx157_2:=cb HB.out hx157_2
        replace p157:=ezT p157
        replace q157:=ezT q157
        go_wp2_with (first |((with_reducible refine jl (f:=16) rfl ?_);refine gL (some 20) Tryd.func16 #[.agg #[.int .i64 ((jSa l0 x4_1).f0), .int .i64 ((jSa l0 x4_1).f1), .int .i64 ((jSa l0 x4_1).f2)]] ?_;(with_reducible refine (jPa.calls ((jSa l0 x4_1).f0) ((jSa l0 x4_1).f1) ((jSa l0 x4_1).f2) t158 t159 t160 _ A8.out).mono ?_);rintro e w11 ⟨rfl,hb⟩;refine ⟨_,rfl,?_⟩;replace HO_3:=am (Kd.jca (rq HO_3.out) hb);replace HB:=am (jb (bq) hb);(try clear hb);(try clear hb2);(try clear hk);(try clear hi);have p10:0≤(x4_1:Int):=ozD (uq);have q10:(x4_1:Int)<((x3_1.length:Int):Int):=ozD (uq);obtain ⟨go10,co10,eo10,gb10,gl10,cl10,HG10⟩:=Kd.R_form HO_3.out (by omega);(first | cases eo10 |(injection eo10 with ea_ en_ ec_;(first | subst ea_ |(injection ea_ with ea_;subst ea_));subst ec_;clear en_));have GB10:=am gb10;have GG10:=am HG10;clear gb10 gl10 HG10;obtain ⟨ce10,hcl10,hM10,hcc10,hfr10⟩:=Kd.R_elem HO_3.out z42 (x4_1:Int) p10 q10;obtain rfl:=k42_openM hM10;have hx10_0:w11.cell? ⟨go10,(x4_1:Int).toNat * 3,none⟩=some (.int .i64 ((jy x3_1 x4_1).f0)):=hcc10 0 _ rfl;have hx10_1:w11.cell? ⟨go10,(x4_1:Int).toNat * 3+1,none⟩=some (.int .i64 ((jy x3_1 x4_1).f1)):=hcc10 1 _ rfl;have hx10_2:w11.cell? ⟨go10,(x4_1:Int).toNat * 3+2,none⟩=some (.int .i64 ((jy x3_1 x4_1).f2)):=hcc10 2 _ rfl;have hf10_0:w11.frozen? ⟨go10,(x4_1:Int).toNat * 3,none⟩=false:=hfr10 0;have hf10_1:w11.frozen? ⟨go10,(x4_1:Int).toNat * 3+1,none⟩=false:=hfr10 1;have hf10_2:w11.frozen? ⟨go10,(x4_1:Int).toNat * 3+2,none⟩=false:=hfr10 2;clear hcl10 hcc10 hfr10 hM10;replace p10:=ezT p10;replace q10:=ezT q10;have HX12:=am (show Kd.R k42 42 w11 w.heap.size (fun _=>True) (.slice (some ⟨go10,0,none⟩) x3_1.length co10) x3_1 from (rq HO_3.out));obtain ⟨ce12,hcl12,hM12,hcc12,hfr12⟩:=Kd.R_elem HX12.out z42 (x4_1:Int) (ozD (uq)) (by have h_:(x4_1:Int)<((x3_1.length:Int):Int):=ozD (uq);first | exact h_ |(have e_:=(Kd.jea HO_3.out).1;omega) | simpa using h_);obtain rfl:=k42_openM hM12;have HP12:=Kd.R_seg HX12.out (x4_1:Int) (ozD (uq)) (by have h_:(x4_1:Int)<((x3_1.length:Int):Int):=ozD (uq);first | exact h_ |(have e_:=(Kd.jea HO_3.out).1;omega) | simpa using h_) (seg:=[.int .i64 t158, .int .i64 t159, .int .i64 t160]) (j:=0) hcl12 hcc12 (show 3≤3 from by decide) (x':=(⟨t158,t159,t160⟩:S42)) (k42_mkM _ _ _ (⟨t158,t159,t160⟩:S42) ) (fun _ hk=>hk);have hx12_0:=hcc12 0 _ rfl;(try simp only [show (k42).sz=3 from rfl,Nat.mul_one,Nat.add_zero] at hx12_0);have hf12_0:=hfr12 0;(try simp only [show (k42).sz=3 from rfl,Nat.mul_one,Nat.add_zero] at hf12_0);have hx12_1:=hcc12 1 _ rfl;(try simp only [show (k42).sz=3 from rfl,Nat.mul_one,Nat.add_zero] at hx12_1);have hf12_1:=hfr12 1;(try simp only [show (k42).sz=3 from rfl,Nat.mul_one,Nat.add_zero] at hf12_1);have hx12_2:=hcc12 2 _ rfl;(try simp only [show (k42).sz=3 from rfl,Nat.mul_one,Nat.add_zero] at hx12_2);have hf12_2:=hfr12 2;(try simp only [show (k42).sz=3 from rfl,Nat.mul_one,Nat.add_zero] at hf12_2);clear hcl12 hcc12 hfr12 hM12) |((with_reducible refine gate_store (t:=42) (p:=21) rfl ?_);refine store_event (t:=42) (p:=21) (v:=?vo_w13) (w1:=(((w11.setCell ⟨go10,(x4_1:Int).toNat * 3,none⟩ (.int .i64 t158)).setCell ⟨go10,(x4_1:Int).toNat * 3+1,none⟩ (.int .i64 t159)).setCell ⟨go10,(x4_1:Int).toNat * 3+2,none⟩ (.int .i64 t160))) ?hg ?ho ?hn ?hr ?_;(case ho=>rfl);(case hg=>rfl);(case hn=>rfl);(case hr=>first |(go_simp;done) |(go_simp;rfl));intro w13 hw;have hg:w11.grownBy w13 (some go10):=(by rw [hw];exact HP12.2);have hp_:Kd.R k42 42 w13 w.heap.size (fun _=>True) (.slice (some ⟨go10,0,none⟩) x3_1.length co10) y161:=(by rw [hw,Ny161.out];exact HP12.1);clear HP12;replace HO_3:=am (hp_);replace HB:=am ((by rw [hw];exact jk (jk (jk (HB.out) GB10.out) GB10.out) GB10.out:Below w.heap.size w w13));clear hg hw hp_))
        go_roundg k1
        case measure=>have:=HK1.out;omega
        case rel=>exact ⟨(y161),(wrap64 (x4_1+1)),(sq),H',⟨by have:=HK1.out;omega⟩,⟨rq HO_3.out⟩,⟨bq⟩⟩
       ·rw [if_neg c9] at H
        exact absurd H (by simp)
      ·rw [if_neg c7] at H
       exact absurd H (by simp)
     ·rw [if_neg c6] at H
      have c6b0:decide (x4_1<(l0.length:Int))=false:=dzF c6
      clear c6
      obtain rfl:=Option.some.inj H
      go_wp2
      go_ret
      exact ⟨_,Y1,rq HO_3.out,bq⟩
  ·rw [if_neg c3] at H
   exact absurd H (by simp)
 ·rw [if_neg c2] at H
  exact absurd H (by simp)
def jN.f (a0 : Int) (a1 : Int) (a2 : Int) : Option (Bool) := if a0 ≥ a1 then (some (decide (a0 ≤ a2))) else (some false)
set_option maxHeartbeats 8000000 in
set_option maxRecDepth 100000 in
theorem jN.calls (a0 : Int) (a1 : Int) (a2 : Int) (r : Bool) (w : World) (h : jN.f a0 a1 a2 = some r) :
  Calls Tryd.prog 43 #[.int .i64 a0, .int .i64 a1, .int .i64 a2] w fun e w'=>e=.returned (.bool r)∧jza w w':=by
 have H:(if a0≥a1 then (some (decide (a0≤a2))) else (some false))=some r:=h
 clear h
 by_cases c4:a0≥a1
 ·rw [if_pos c4] at H
  have c4b0:decide (a1≤a0)=true:=dzT c4
  clear c4
  obtain rfl:=Option.some.inj H
  go_enter Tryd.func43,Tryd.ntmps43
  go_wp2
  go_ret
  exact ⟨sq,Y3⟩
 ·rw [if_neg c4] at H
  have c4b0:decide (a1≤a0)=false:=dzF c4
  clear c4
  obtain rfl:=Option.some.inj H
  go_enter Tryd.func43,Tryd.ntmps43
  go_wp2
  go_ret
  exact ⟨sq,Y3⟩
def jU.l0 : Nat → ByteArray → Int → Int → Option (Bool)
 | 0,_,_,_=>none
 | k+1,x0,x5,x6=>if x6<x5 then (if 0≤x6 then (if x6<(x0.size:Int) then (if (bt x0 x6)<97 then (some false) else (if (bt x0 x6) > 122 then (some false) else (jU.l0 k x0 x5 (wrap64 (x6+1))))) else (none)) else (none)) else ((jN.f (x0.size:Int) 1 6).bind fun t162=>(some t162))
def jU.f (k : Nat) (a0 : ByteArray) : Option (Bool) := jU.l0 k a0 (a0.size : Int) 0
set_option maxHeartbeats 8000000 in
set_option maxRecDepth 100000 in
theorem jU.calls (k : Nat) (a0 : ByteArray) (r : Bool) (w : World) (h : jU.f k a0 = some r) :
  Calls Tryd.prog 41 #[.string a0] w fun e w'=>e=.returned (.bool r)∧jza w w':=by
 have H:(jU.l0 k a0 (a0.size:Int) 0)=some r:=h
 clear h
 have H':=am H
 clear H
 go_enter Tryd.func41,Tryd.ntmps41
 go_wp2
 go_loopg [6] k (fun kq v6 w'=>∃ (x6_1:Int),v6=.int .i64 x6_1∧jJ (jU.l0 kq a0 (a0.size:Int) x6_1=some r)∧jJ (kq≤k)∧jza w w')
 case atStart=>exact ⟨(0),(sq),H',⟨Nat.le_refl _⟩,Y3⟩
 case round =>
  clear H'
  obtain ⟨x6_1,rfl,HA,HK1,⟨m1,rfl⟩⟩:=hrel
  cases gk with
  | zero=>exact absurd HA.out (by simp [jU.l0])
  | succ k1 =>
   have H:=HA.out
   clear HA
   simp only [jU.l0] at H
   by_cases c2:x6_1<(a0.size:Int)
   ·rw [if_pos c2] at H
    have c2b0:decide (x6_1<(a0.size:Int))=true:=dzT c2
    clear c2
    by_cases c3:0≤x6_1
    ·rw [if_pos c3] at H
     have c3b0:decide (0≤x6_1)=true:=dzT c3
     clear c3
     by_cases c4:x6_1<(a0.size:Int)
     ·rw [if_pos c4] at H
      have c4b0:decide (x6_1<(a0.size:Int))=true:=dzT c4
      clear c4
      by_cases c6:(bt a0 x6_1)<97
      ·rw [if_pos c6] at H
       have c6b0:decide ((bt a0 x6_1)<97)=true:=dzT c6
       clear c6
       obtain rfl:=Option.some.inj H
       have p5:0≤(x6_1:Int):=ozD (uq)
       have q5:x6_1<(a0.size:Int):=ozD (uq)
       have hx5:=bt_at a0 x6_1
       replace p5:=ezT p5
       replace q5:=ezT q5
       go_wp2
       go_ret
       exact ⟨sq,Y3⟩
      ·rw [if_neg c6] at H
       have c6b0:decide ((bt a0 x6_1)<97)=false:=dzF c6
       clear c6
       by_cases c8:(bt a0 x6_1) > 122
       ·rw [if_pos c8] at H
        have c8b0:decide (122<(bt a0 x6_1))=true:=dzT c8
        clear c8
        obtain rfl:=Option.some.inj H
        have p5:0≤(x6_1:Int):=ozD (uq)
        have q5:x6_1<(a0.size:Int):=ozD (uq)
        have hx5:=bt_at a0 x6_1
        replace p5:=ezT p5
        replace q5:=ezT q5
        have p7:0≤(x6_1:Int):=ozD (uq)
        have q7:x6_1<(a0.size:Int):=ozD (uq)
        have hx7:=bt_at a0 x6_1
        replace p7:=ezT p7
        replace q7:=ezT q7
        go_wp2
        go_ret
        exact ⟨sq,Y3⟩
       ·rw [if_neg c8] at H
        have c8b0:decide (122<(bt a0 x6_1))=false:=dzF c8
        clear c8
        have H':=am H
        clear H
        have p5:0≤(x6_1:Int):=ozD (uq)
        have q5:x6_1<(a0.size:Int):=ozD (uq)
        have hx5:=bt_at a0 x6_1
        replace p5:=ezT p5
        replace q5:=ezT q5
        have p7:0≤(x6_1:Int):=ozD (uq)
        have q7:x6_1<(a0.size:Int):=ozD (uq)
        have hx7:=bt_at a0 x6_1
        replace p7:=ezT p7
        replace q7:=ezT q7
        go_wp2
        go_roundg k1
        case measure=>have:=HK1.out;omega
        case rel=>exact ⟨(wrap64 (x6_1+1)),(sq),H',⟨by have:=HK1.out;omega⟩,Y3⟩
     ·rw [if_neg c4] at H
      exact absurd H (by simp)
    ·rw [if_neg c3] at H
     exact absurd H (by simp)
   ·rw [if_neg c2] at H
    have c2b0:decide (x6_1<(a0.size:Int))=false:=dzF c2
    clear c2
    replace H:=bzS H
    obtain ⟨t162,A90,H⟩:=H
    replace H:(some t162)=some r:=H
    have A9:=am A90
    clear A90
    obtain rfl:=Option.some.inj H
    go_wp2_with (first |((with_reducible refine jl (f:=43) rfl ?_);refine gL (some 22) Tryd.func43 #[.int .i64 (a0.size:Int), .int .i64 1, .int .i64 6] ?_;(with_reducible refine (jN.calls (a0.size:Int) 1 6 t162 _ A9.out).mono ?_);rintro e w' ⟨rfl,⟨nd,rfl⟩⟩;refine ⟨_,rfl,?_⟩))
    go_ret
    exact ⟨sq,Y3⟩

theorem impl_named1_calls (a b : ByteArray) (p : Int) (B : Nat) (w : World) (hB : B < w.heap.size) (hc : w.cell? ⟨B, 0, none⟩ = some (.string b)) :
  Calls Tryd.prog 50 #[.agg #[.string a, .int .i64 p], .pointer (some ⟨B,0,none⟩)] w fun e w'=>e=.returned (.bool (a.toList == b.toList))∧Below w.heap.size w w':=by
 have hne:B≠w.heap.size:=by omega
 go_enter Tryd.func50,Tryd.ntmps50
 go_wp2
 go_ret
 exact ⟨rfl,(Below.refl _ _).alloc (Nat.le_refl _) _⟩
set_option maxHeartbeats 8000000 in
set_option maxRecDepth 100000 in
theorem impl_named_idx (A_ : Option Addr) (c_ : Nat) (l : List (S63)) (B0_ : Nat) (p : S63 → Option Bool) (r : Int) (w : World) (hr : Kd.C k63 w A_ l.length l) (h : idxFrom p l 0 = some r)
  (hp:∀ W,Below w.heap.size w W→∀ (x:S63) (b:Bool),p x=some b→Calls Tryd.prog 50 #[.agg #[.string x.f0, .int .i64 x.f1], .pointer (some ⟨B0_,0,none⟩)] W fun e w'=>e=.returned (.bool b)∧Below W.heap.size W w') :
  Calls Tryd.prog 49 #[.slice A_ l.length c_, .func (.func 50) #[] #[.pointer (some ⟨B0_,0,none⟩)]] w fun e w'=>e=.returned (.int .i64 r)∧Below w.heap.size w w':=by
 have hm:l.length≤9223372036854775807:=Kd.C_max hr
 have HR:=am hr
 have HP:=am hp
 have H0:=am h
 clear hr hp h
 go_enter Tryd.func49,Tryd.ntmps49
 go_wp2
 go_loopw [5,8] (fun i5 i8 wr=>∃ k:Nat,k≤l.length∧i8=.int .i64 k∧jJ (idxFrom p (l.drop k) k=some r)∧Below w.heap.size w wr) (fun _ i8 _=>l.length - (intOf i8).toNat)
 case atStart=>exact ⟨0,Nat.zero_le _,rfl,H0,Below.refl _ _⟩
 case round =>
  clear H0
  obtain ⟨k,hk,rfl,HA,hb⟩:=hrel
  by_cases hlt:k<l.length
  ·have HB:=am (idxFrom_step hlt HA.out)
   clear HA
   obtain ⟨ad,rfl,hx0,hx1⟩:=jKa HR.out (k:Int) (by omega) (by omega)
   have hrd:jg l (k:Int)=l[k]:=by simp [jg,List.getD_eq_getElem?_getD,hlt]
   replace hx0:=jW hb hx0
   replace hx1:=jW hb hx1
   rw [hrd] at hx0 hx1
   simp only [Int.toNat_natCast] at hx0 hx1
   clear hrd
   obtain ⟨b,hb1,hb0⟩:=HB.out
   have HQ:=am hb1
   clear hb1 HB
   cases b with
   | true =>
    have HZ:=am (by simpa using hb0:(k:Int)=r)
    clear hb0
    go_wp2_with (go_at_call 50;refine (HP.out _ hb _ _ HQ.out).mono ?_;rintro e w' ⟨rfl,hb2⟩)
    go_ret
    exact ⟨by rw [← HZ.out];rfl,jFa hb hb.size hb2⟩
   | false =>
    have HZ:=am (by simpa using hb0:idxFrom p (l.drop (k+1)) (k+1)=some r)
    clear hb0
    go_wp2_with (go_at_call 50;refine (HP.out _ hb _ _ HQ.out).mono ?_;rintro e w' ⟨rfl,hb2⟩)
    go_roundw
    case rel=>exact ⟨k+1,hlt,by go_num,HZ,jFa hb hb.size hb2⟩
    case measure=>simp [intOf];omega
  ·have HZ:=am (idxFrom_end (by omega) HA.out)
   clear HA
   go_wp2
   go_ret
   exact ⟨by rw [HZ.out];rfl,hb⟩
def jba.f (l0_0 : List S63) (a1 : ByteArray) : Option Int := idxFrom (fun x : S63 => some (x.f0.toList == a1.toList)) l0_0 0
set_option maxHeartbeats 8000000 in
set_option maxRecDepth 100000 in
theorem jba.calls (A0_0 : Option Addr) (c0_0 : Nat) (l0_0 : List (S63)) (a1 : ByteArray) (r : Int) (w : World) (hr0_0 : Kd.C k63 w A0_0 l0_0.length l0_0) (hc0_0 : l0_0.length ≤ c0_0) (h : jba.f l0_0 a1 = some r) :
  Calls Tryd.prog 42 #[.agg #[.slice A0_0 l0_0.length c0_0], .string a1] w fun e w'=>e=.returned (.int .i64 r)∧Below w.heap.size w w':=by
 have hu31:=Tryd.underlying31
 have HF:=am (fun W (hb:Below w.heap.size w W) (B:Nat) (hB:B<W.heap.size) (hc:W.cell? ⟨B,0,none⟩=some (.string a1))=>impl_named_idx A0_0 c0_0 l0_0 B (fun x:S63=>some (x.f0.toList == a1.toList)) r W (Kd.jD hr0_0 hb) h (fun W' hb' x b hx=>by
  obtain rfl:=Option.some.inj hx
  exact impl_named1_calls x.f0 a1 x.f1 B W' (Nat.lt_of_lt_of_le hB hb'.size) (jW hb' hc)))
 clear h hr0_0
 go_enter Tryd.func42,Tryd.ntmps42
 go_wp2_with (go_at_call 49;refine (HF.out _ (((Below.refl _ _).alloc (Nat.le_refl _) _).alloc (by simp) _) _ (by simp) (by simp)).mono ?_;rintro e w' ⟨rfl,hb2⟩)
 go_ret
 exact ⟨rfl,(((Below.refl _ _).alloc (Nat.le_refl _) _).alloc (by simp) _).trans (hb2.mono (by simp;omega))⟩
mutual
def je.l0 : Nat → List (S63) → Int → Int → List (S63) → Option (Bool)
 | 0,_,_,_,_=>none
 | k+1,x6,x7,x8,x164000=>if x8<x7 then (if 0≤x8 then (if x8<(x6.length:Int) then ((jU.f k ((jg x6 x8).f0)).bind fun t167=>(if t167=true then ((jba.f x164000 ((jg x6 x8).f0)).bind fun t168=>(if t168=x8 then (if x8=0 then (if ((jg x6 x8).f1)=(-1) then (if x8 > 0 then ((jN.f ((jg x6 x8).f1) 0 (wrap64 (x8 - 1))).bind fun t169=>(je.j1 k x6 x7 x8 (!t169) x164000)) else (je.j1 k x6 x7 x8 false x164000)) else (je.j1 k x6 x7 x8 true x164000)) else (if x8 > 0 then ((jN.f ((jg x6 x8).f1) 0 (wrap64 (x8 - 1))).bind fun t170=>(je.j1 k x6 x7 x8 (!t170) x164000)) else (je.j1 k x6 x7 x8 false x164000))) else (je.j1 k x6 x7 x8 true x164000))) else (je.j1 k x6 x7 x8 true x164000))) else (none)) else (none)) else ((jN.f (x164000.length:Int) 1 8).bind fun t164=>(some t164))
def je.j1 : Nat → List (S63) → Int → Int → Bool → List (S63) → Option (Bool)
 | 0,_,_,_,_,_=>none
 | k+1,x6,x7,x8,x45,x164000=>if x45=true then (some false) else (je.l0 k x6 x7 (wrap64 (x8+1)) x164000)
end
def je.f (k : Nat) (l0_0 : List (S63)) : Option (Bool) := je.l0 k l0_0 (l0_0.length : Int) 0 l0_0
set_option maxHeartbeats 8000000 in
set_option maxRecDepth 100000 in
theorem je.calls (k : Nat) (A0_0 : Option Addr) (c0_0 : Nat) (l0_0 : List (S63)) (r : Bool) (w : World) (hr0_0 : Kd.C k63 w A0_0 l0_0.length l0_0) (hc0_0 : l0_0.length ≤ c0_0) (h : je.f k l0_0 = some r) :
  Calls Tryd.prog 28 #[.agg #[.slice A0_0 l0_0.length c0_0]] w fun e w'=>e=.returned (.bool r)∧Below w.heap.size w w':=by
 have hu31:=Tryd.underlying31
 have hu63:=Tryd.underlying63
 have HR0_0:=am hr0_0
 have HC0_0:=am hc0_0
 clear hr0_0 hc0_0
 have HB:=am (Below.refl w.heap.size w)
 have H:(je.l0 k l0_0 (l0_0.length:Int) 0 l0_0)=some r:=h
 clear h
 have H':=am H
 clear H
 go_enter Tryd.func28,Tryd.ntmps28
 go_wp2_with (first |((with_reducible refine jr (N:=1) rfl ?_);refine bE (N:=1) (cs:=#[.slice A0_0 l0_0.length c0_0]) (t:=31) ?_;intro gb163 hg w2 hbox hb;have BK163:=am (hbox);have GW163:=am ((Y0:w.heap.size≤gb163));have GE163:=am ((Y0:w.heap.size≤gb163));replace HB:=am (jb (bq) hb);clear hb hbox hg;have hcz3_0:=bc0 BK163.out;have hfz3_0:=ja BK163.out 0))
 go_loopg [8] k (fun kq v8 w'=>∃ (x8_1:Int),v8=.int .i64 x8_1∧jJ (je.l0 kq l0_0 (l0_0.length:Int) x8_1 l0_0=some r)∧jJ (kq≤k)∧jJ (w'.heap[gb163]?=some (.cells #[(.slice A0_0 l0_0.length c0_0)] 31 (0,0)))∧jJ (Below w.heap.size w w'))
 case atStart=>exact ⟨(0),(sq),H',⟨Nat.le_refl _⟩,⟨kq BK163.out⟩,⟨Y31⟩⟩
 case round =>
  clear H'
  try clear c2
  try clear p2
  try clear hcz3_0
  try clear hfz3_0
  obtain ⟨x8_1,rfl,HA,HK1,BK163,HB⟩:=hrel
  cases gk with
  | zero=>exact absurd HA.out (by simp [je.l0])
  | succ k1 =>
   have H:=HA.out
   clear HA
   simp only [je.l0] at H
   by_cases c4:x8_1<(l0_0.length:Int)
   ·rw [if_pos c4] at H
    have c4b0:decide (x8_1<(l0_0.length:Int))=true:=dzT c4
    clear c4
    by_cases c5:0≤x8_1
    ·rw [if_pos c5] at H
     have c5b0:decide (0≤x8_1)=true:=dzT c5
     clear c5
     by_cases c6:x8_1<(l0_0.length:Int)
     ·rw [if_pos c6] at H
      have c6b0:decide (x8_1<(l0_0.length:Int))=true:=dzT c6
      clear c6
      have HC7:=am H
      clear H
      have p165:0≤(x8_1:Int):=ozD (uq)
      have q165:x8_1<(l0_0.length:Int):=ozD (uq)
      obtain ⟨ad165,e165,hx165_0,hx165_1⟩:=jKa HR0_0.out x8_1 p165 q165
      cases e165
      replace hx165_0:=cb HB.out hx165_0
      replace hx165_1:=cb HB.out hx165_1
      replace p165:=ezT p165
      replace q165:=ezT q165
      go_upto_region 4 with (first |((with_reducible refine jr (N:=4) rfl ?_);refine bE (N:=4) (cs:=#[.string (⟨#[]⟩:ByteArray), .int .i64 0]) (t:=63) ?_;intro gb166 hg w8 hbox hb;have BK166:=am (hbox);have GW166:=am ((Y47:w.heap.size≤gb166));have GE166:=am ((Y47:w.heap.size≤gb166));have NB163_166:=am ((by rw [hg];exact Nat.ne_of_lt (jma (g:=gb163) (o:=.cells #[.slice (some ad165) l0_0.length c0_0] 31 (0,0)) (kq BK163.out)):gb163≠gb166));have NB166_163:=am ((by rw [hg];exact Nat.ne_of_gt (jma (g:=gb163) (o:=.cells #[.slice (some ad165) l0_0.length c0_0] 31 (0,0)) (kq BK163.out)):gb166≠gb163));replace BK163:=am (jc (g:=gb163) (o:=.cells #[.slice (some ad165) l0_0.length c0_0] 31 (0,0)) (kq BK163.out) hb);replace HB:=am (jb (Y31) hb);clear hb hbox hg;have hnb9:=NB166_163.out;have hnc9:=NB163_166.out;have hcz10_0:=bc0 BK166.out;have hcz10_1:=bc1 BK166.out;have hfz10_0:=ja BK166.out 0;have hfz10_1:=ja BK166.out 1))
      (try simp only [Act.put,List.setIfInBounds_toArray,List.set_cons_zero,List.set_cons_succ])
      go_cut [45] (fun v45 wc=>∃ (kq:Nat) (x45_6:Bool),v45=.bool x45_6∧jJ (je.j1 kq l0_0 (l0_0.length:Int) x8_1 x45_6 l0_0=some r)∧jJ (kq≤k1)∧jJ (wc.heap[gb163]?=some (.cells #[(.slice (some ad165) l0_0.length c0_0)] 31 (0,0)))∧jJ (wc.heap[gb166]?=some (.cells #[.string ((jg l0_0 x8_1).f0), .int .i64 ((jg l0_0 x8_1).f1)] 63 (0,0)))∧jJ (Below w.heap.size w wc))
      case first =>
       have H:=HC7.out
       clear HC7
       replace H:=bzS H
       obtain ⟨t167,A110,H⟩:=H
       replace H:(if t167=true then ((jba.f l0_0 ((jg l0_0 x8_1).f0)).bind fun t168=>(if t168=x8_1 then (if x8_1=0 then (if ((jg l0_0 x8_1).f1)=(-1) then (if x8_1 > 0 then ((jN.f ((jg l0_0 x8_1).f1) 0 (wrap64 (x8_1 - 1))).bind fun t169=>(je.j1 k1 l0_0 (l0_0.length:Int) x8_1 (!t169) l0_0)) else (je.j1 k1 l0_0 (l0_0.length:Int) x8_1 false l0_0)) else (je.j1 k1 l0_0 (l0_0.length:Int) x8_1 true l0_0)) else (if x8_1 > 0 then ((jN.f ((jg l0_0 x8_1).f1) 0 (wrap64 (x8_1 - 1))).bind fun t170=>(je.j1 k1 l0_0 (l0_0.length:Int) x8_1 (!t170) l0_0)) else (je.j1 k1 l0_0 (l0_0.length:Int) x8_1 false l0_0))) else (je.j1 k1 l0_0 (l0_0.length:Int) x8_1 true l0_0))) else (je.j1 k1 l0_0 (l0_0.length:Int) x8_1 true l0_0))=some r:=H
       have A11:=am A110
       clear A110
       by_cases c12:t167=true
       ·subst c12
        have H1:((jba.f l0_0 ((jg l0_0 x8_1).f0)).bind fun t168=>(if t168=x8_1 then (if x8_1=0 then (if ((jg l0_0 x8_1).f1)=(-1) then (if x8_1 > 0 then ((jN.f ((jg l0_0 x8_1).f1) 0 (wrap64 (x8_1 - 1))).bind fun t169=>(je.j1 k1 l0_0 (l0_0.length:Int) x8_1 (!t169) l0_0)) else (je.j1 k1 l0_0 (l0_0.length:Int) x8_1 false l0_0)) else (je.j1 k1 l0_0 (l0_0.length:Int) x8_1 true l0_0)) else (if x8_1 > 0 then ((jN.f ((jg l0_0 x8_1).f1) 0 (wrap64 (x8_1 - 1))).bind fun t170=>(je.j1 k1 l0_0 (l0_0.length:Int) x8_1 (!t170) l0_0)) else (je.j1 k1 l0_0 (l0_0.length:Int) x8_1 false l0_0))) else (je.j1 k1 l0_0 (l0_0.length:Int) x8_1 true l0_0)))=some r:=by rw [if_pos rfl] at H;exact H
        clear H
        have H:=H1
        clear H1
        replace H:=bzS H
        obtain ⟨t168,A130,H⟩:=H
        replace H:(if t168=x8_1 then (if x8_1=0 then (if ((jg l0_0 x8_1).f1)=(-1) then (if x8_1 > 0 then ((jN.f ((jg l0_0 x8_1).f1) 0 (wrap64 (x8_1 - 1))).bind fun t169=>(je.j1 k1 l0_0 (l0_0.length:Int) x8_1 (!t169) l0_0)) else (je.j1 k1 l0_0 (l0_0.length:Int) x8_1 false l0_0)) else (je.j1 k1 l0_0 (l0_0.length:Int) x8_1 true l0_0)) else (if x8_1 > 0 then ((jN.f ((jg l0_0 x8_1).f1) 0 (wrap64 (x8_1 - 1))).bind fun t170=>(je.j1 k1 l0_0 (l0_0.length:Int) x8_1 (!t170) l0_0)) else (je.j1 k1 l0_0 (l0_0.length:Int) x8_1 false l0_0))) else (je.j1 k1 l0_0 (l0_0.length:Int) x8_1 true l0_0))=some r:=H
        have A13:=am A130
        clear A130
        by_cases c14:t168=x8_1
        ·rw [if_pos c14] at H
         have c14b0:(t168 == x8_1)=true:=beq_iff_eq.mpr c14
         have c14b1:(t168 != x8_1)=false:=bne_eq_false_iff_eq.mpr c14
         clear c14
         (first | rw [c14b0] |(simp only [i64_w,i32_w];rw [c14b0]) | skip)
         by_cases c15:x8_1=0
         ·rw [if_pos c15] at H
          have c15b0:(x8_1 == 0)=true:=beq_iff_eq.mpr c15
          have c15b1:(x8_1 != 0)=false:=bne_eq_false_iff_eq.mpr c15
          clear c15
          by_cases c16:((jg l0_0 x8_1).f1)=(-1)
          ·rw [if_pos c16] at H
           have c16b0:(((jg l0_0 x8_1).f1) == (-1))=true:=beq_iff_eq.mpr c16
           have c16b1:(((jg l0_0 x8_1).f1) != (-1))=false:=bne_eq_false_iff_eq.mpr c16
           clear c16
           by_cases c17:x8_1 > 0
           ·rw [if_pos c17] at H
            have c17b0:decide (0<x8_1)=true:=dzT c17
            clear c17
            replace H:=bzS H
            obtain ⟨t169,A180,H⟩:=H
            replace H:(je.j1 k1 l0_0 (l0_0.length:Int) x8_1 (!t169) l0_0)=some r:=H
            have A18:=am A180
            clear A180
            have H':=am H
            clear H
            have hnb19:=NB166_163.out
            have hnc19:=NB163_166.out
            have hcz20_0:=bc0 BK166.out
            have hcz20_1:=bc1 BK166.out
            have hfz20_0:=ja BK166.out 0
            have hfz20_1:=ja BK166.out 1
            go_wp2_with (first |((with_reducible refine jl (f:=41) rfl ?_);refine gL (some 15) Tryd.func41 #[.string ((jg l0_0 x8_1).f0)] ?_;(with_reducible refine (jU.calls k1 ((jg l0_0 x8_1).f0) true _ A11.out).mono ?_);rintro e w' ⟨rfl,⟨nd,rfl⟩⟩;refine ⟨_,rfl,?_⟩;have hcz21_0:=bc0 BK163.out;have hfz21_0:=ja BK163.out 0) |(go_at_call 42;(with_reducible refine (jba.calls _ _ l0_0 ((jg l0_0 x8_1).f0) t168 _ ?side1 ?side2 A13.out).mono ?_);(case side1=>exact Kd.jD HR0_0.out (Y4));(case side2=>exact HC0_0.out);rintro e w22 ⟨rfl,hb⟩;replace BK163:=am (jc (g:=gb163) (o:=.cells #[.slice (some ad165) l0_0.length c0_0] 31 (0,0)) (Y14) hb);replace BK166:=am (jc (g:=gb166) (o:=.cells #[.string ((jg l0_0 x8_1).f0), .int .i64 ((jg l0_0 x8_1).f1)] 63 (0,0)) (Y15) hb);replace HB:=am (jb (Y4) hb);(try clear hb);(try clear hb2);(try clear hk);(try clear hi);have hcz23_0:=bc0 BK166.out;have hcz23_1:=bc1 BK166.out;have hfz23_0:=ja BK166.out 0;have hfz23_1:=ja BK166.out 1) |(go_at_call 43;(with_reducible refine (jN.calls ((jg l0_0 x8_1).f1) 0 (wrap64 (x8_1 - 1)) t169 _ A18.out).mono ?_);rintro e w' ⟨rfl,⟨nd,rfl⟩⟩))
            go_meet
            case rel=>exact ⟨_,(!t169),(sq),H',⟨by have:=HK1.out;first | omega | exact Nat.le_refl _⟩,⟨kq BK163.out⟩,⟨kq BK166.out⟩,⟨Y4⟩⟩
           ·rw [if_neg c17] at H
            have c17b0:decide (0<x8_1)=false:=dzF c17
            clear c17
            have H':=am H
            clear H
            have hnb24:=NB166_163.out
            have hnc24:=NB163_166.out
            have hcz25_0:=bc0 BK166.out
            have hcz25_1:=bc1 BK166.out
            have hfz25_0:=ja BK166.out 0
            have hfz25_1:=ja BK166.out 1
            go_wp2_with (first |((with_reducible refine jl (f:=41) rfl ?_);refine gL (some 15) Tryd.func41 #[.string ((jg l0_0 x8_1).f0)] ?_;(with_reducible refine (jU.calls k1 ((jg l0_0 x8_1).f0) true _ A11.out).mono ?_);rintro e w' ⟨rfl,⟨nd,rfl⟩⟩;refine ⟨_,rfl,?_⟩;have hcz26_0:=bc0 BK163.out;have hfz26_0:=ja BK163.out 0) |(go_at_call 42;(with_reducible refine (jba.calls _ _ l0_0 ((jg l0_0 x8_1).f0) t168 _ ?side1 ?side2 A13.out).mono ?_);(case side1=>exact Kd.jD HR0_0.out (Y4));(case side2=>exact HC0_0.out);rintro e w27 ⟨rfl,hb⟩;replace BK163:=am (jc (g:=gb163) (o:=.cells #[.slice (some ad165) l0_0.length c0_0] 31 (0,0)) (Y14) hb);replace BK166:=am (jc (g:=gb166) (o:=.cells #[.string ((jg l0_0 x8_1).f0), .int .i64 ((jg l0_0 x8_1).f1)] 63 (0,0)) (Y15) hb);replace HB:=am (jb (Y4) hb);(try clear hb);(try clear hb2);(try clear hk);(try clear hi);have hcz28_0:=bc0 BK166.out;have hcz28_1:=bc1 BK166.out;have hfz28_0:=ja BK166.out 0;have hfz28_1:=ja BK166.out 1))
            go_meet
            case rel=>exact ⟨_,(false),(sq),H',⟨by have:=HK1.out;first | omega | exact Nat.le_refl _⟩,⟨kq BK163.out⟩,⟨kq BK166.out⟩,⟨Y4⟩⟩
          ·rw [if_neg c16] at H
           have c16b0:(((jg l0_0 x8_1).f1) == (-1))=false:=beq_eq_false_iff_ne.mpr c16
           have c16b1:(((jg l0_0 x8_1).f1) != (-1))=true:=bne_iff_ne.mpr c16
           have H':=am H
           clear H
           have hnb29:=NB166_163.out
           have hnc29:=NB163_166.out
           have hcz30_0:=bc0 BK166.out
           have hcz30_1:=bc1 BK166.out
           have hfz30_0:=ja BK166.out 0
           have hfz30_1:=ja BK166.out 1
           go_wp2_with (first |((with_reducible refine jl (f:=41) rfl ?_);refine gL (some 15) Tryd.func41 #[.string ((jg l0_0 x8_1).f0)] ?_;(with_reducible refine (jU.calls k1 ((jg l0_0 x8_1).f0) true _ A11.out).mono ?_);rintro e w' ⟨rfl,⟨nd,rfl⟩⟩;refine ⟨_,rfl,?_⟩;have hcz31_0:=bc0 BK163.out;have hfz31_0:=ja BK163.out 0) |(go_at_call 42;(with_reducible refine (jba.calls _ _ l0_0 ((jg l0_0 x8_1).f0) t168 _ ?side1 ?side2 A13.out).mono ?_);(case side1=>exact Kd.jD HR0_0.out (Y4));(case side2=>exact HC0_0.out);rintro e w32 ⟨rfl,hb⟩;replace BK163:=am (jc (g:=gb163) (o:=.cells #[.slice (some ad165) l0_0.length c0_0] 31 (0,0)) (Y14) hb);replace BK166:=am (jc (g:=gb166) (o:=.cells #[.string ((jg l0_0 x8_1).f0), .int .i64 ((jg l0_0 x8_1).f1)] 63 (0,0)) (Y15) hb);replace HB:=am (jb (Y4) hb);(try clear hb);(try clear hb2);(try clear hk);(try clear hi);have hcz33_0:=bc0 BK166.out;have hcz33_1:=bc1 BK166.out;have hfz33_0:=ja BK166.out 0;have hfz33_1:=ja BK166.out 1))
           go_meet
           case rel=>exact ⟨_,(true),(sq),H',⟨by have:=HK1.out;first | omega | exact Nat.le_refl _⟩,⟨kq BK163.out⟩,⟨kq BK166.out⟩,⟨Y4⟩⟩
         ·rw [if_neg c15] at H
          have c15b0:(x8_1 == 0)=false:=beq_eq_false_iff_ne.mpr c15
          have c15b1:(x8_1 != 0)=true:=bne_iff_ne.mpr c15
          by_cases c34:x8_1 > 0
          ·rw [if_pos c34] at H
           have c34b0:decide (0<x8_1)=true:=dzT c34
           clear c34
           replace H:=bzS H
           obtain ⟨t170,A350,H⟩:=H
           replace H:(je.j1 k1 l0_0 (l0_0.length:Int) x8_1 (!t170) l0_0)=some r:=H
           have A35:=am A350
           clear A350
           have H':=am H
           clear H
           have hnb36:=NB166_163.out
           have hnc36:=NB163_166.out
           have hcz37_0:=bc0 BK166.out
           have hcz37_1:=bc1 BK166.out
           have hfz37_0:=ja BK166.out 0
           have hfz37_1:=ja BK166.out 1
           go_wp2_with (first |((with_reducible refine jl (f:=41) rfl ?_);refine gL (some 15) Tryd.func41 #[.string ((jg l0_0 x8_1).f0)] ?_;(with_reducible refine (jU.calls k1 ((jg l0_0 x8_1).f0) true _ A11.out).mono ?_);rintro e w' ⟨rfl,⟨nd,rfl⟩⟩;refine ⟨_,rfl,?_⟩;have hcz38_0:=bc0 BK163.out;have hfz38_0:=ja BK163.out 0) |(go_at_call 42;(with_reducible refine (jba.calls _ _ l0_0 ((jg l0_0 x8_1).f0) t168 _ ?side1 ?side2 A13.out).mono ?_);(case side1=>exact Kd.jD HR0_0.out (Y4));(case side2=>exact HC0_0.out);rintro e w39 ⟨rfl,hb⟩;replace BK163:=am (jc (g:=gb163) (o:=.cells #[.slice (some ad165) l0_0.length c0_0] 31 (0,0)) (Y14) hb);replace BK166:=am (jc (g:=gb166) (o:=.cells #[.string ((jg l0_0 x8_1).f0), .int .i64 ((jg l0_0 x8_1).f1)] 63 (0,0)) (Y15) hb);replace HB:=am (jb (Y4) hb);(try clear hb);(try clear hb2);(try clear hk);(try clear hi);have hcz40_0:=bc0 BK166.out;have hcz40_1:=bc1 BK166.out;have hfz40_0:=ja BK166.out 0;have hfz40_1:=ja BK166.out 1) |(go_at_call 43;(with_reducible refine (jN.calls ((jg l0_0 x8_1).f1) 0 (wrap64 (x8_1 - 1)) t170 _ A35.out).mono ?_);rintro e w' ⟨rfl,⟨nd,rfl⟩⟩))
           go_meet
           case rel=>exact ⟨_,(!t170),(sq),H',⟨by have:=HK1.out;first | omega | exact Nat.le_refl _⟩,⟨kq BK163.out⟩,⟨kq BK166.out⟩,⟨Y4⟩⟩
          ·rw [if_neg c34] at H
           have c34b0:decide (0<x8_1)=false:=dzF c34
           clear c34
           have H':=am H
           clear H
           have hnb41:=NB166_163.out
           have hnc41:=NB163_166.out
           have hcz42_0:=bc0 BK166.out
           have hcz42_1:=bc1 BK166.out
           have hfz42_0:=ja BK166.out 0
           have hfz42_1:=ja BK166.out 1
           go_wp2_with (first |((with_reducible refine jl (f:=41) rfl ?_);refine gL (some 15) Tryd.func41 #[.string ((jg l0_0 x8_1).f0)] ?_;(with_reducible refine (jU.calls k1 ((jg l0_0 x8_1).f0) true _ A11.out).mono ?_);rintro e w' ⟨rfl,⟨nd,rfl⟩⟩;refine ⟨_,rfl,?_⟩;have hcz43_0:=bc0 BK163.out;have hfz43_0:=ja BK163.out 0) |(go_at_call 42;(with_reducible refine (jba.calls _ _ l0_0 ((jg l0_0 x8_1).f0) t168 _ ?side1 ?side2 A13.out).mono ?_);(case side1=>exact Kd.jD HR0_0.out (Y4));(case side2=>exact HC0_0.out);rintro e w44 ⟨rfl,hb⟩;replace BK163:=am (jc (g:=gb163) (o:=.cells #[.slice (some ad165) l0_0.length c0_0] 31 (0,0)) (Y14) hb);replace BK166:=am (jc (g:=gb166) (o:=.cells #[.string ((jg l0_0 x8_1).f0), .int .i64 ((jg l0_0 x8_1).f1)] 63 (0,0)) (Y15) hb);replace HB:=am (jb (Y4) hb);(try clear hb);(try clear hb2);(try clear hk);(try clear hi)))
           go_meet
           case rel=>exact ⟨_,(false),(sq),H',⟨by have:=HK1.out;first | omega | exact Nat.le_refl _⟩,⟨kq BK163.out⟩,⟨kq BK166.out⟩,⟨Y4⟩⟩
        ·rw [if_neg c14] at H
         have c14b0:(t168 == x8_1)=false:=beq_eq_false_iff_ne.mpr c14
         have c14b1:(t168 != x8_1)=true:=bne_iff_ne.mpr c14
         (first | rw [c14b0] |(simp only [i64_w,i32_w];rw [c14b0]) | skip)
         have H':=am H
         clear H
         have hnb45:=NB166_163.out
         have hnc45:=NB163_166.out
         have hcz46_0:=bc0 BK166.out
         have hcz46_1:=bc1 BK166.out
         have hfz46_0:=ja BK166.out 0
         have hfz46_1:=ja BK166.out 1
         go_wp2_with (first |((with_reducible refine jl (f:=41) rfl ?_);refine gL (some 15) Tryd.func41 #[.string ((jg l0_0 x8_1).f0)] ?_;(with_reducible refine (jU.calls k1 ((jg l0_0 x8_1).f0) true _ A11.out).mono ?_);rintro e w' ⟨rfl,⟨nd,rfl⟩⟩;refine ⟨_,rfl,?_⟩;have hcz47_0:=bc0 BK163.out;have hfz47_0:=ja BK163.out 0) |(go_at_call 42;(with_reducible refine (jba.calls _ _ l0_0 ((jg l0_0 x8_1).f0) t168 _ ?side1 ?side2 A13.out).mono ?_);(case side1=>exact Kd.jD HR0_0.out (Y4));(case side2=>exact HC0_0.out);rintro e w48 ⟨rfl,hb⟩;replace BK163:=am (jc (g:=gb163) (o:=.cells #[.slice (some ad165) l0_0.length c0_0] 31 (0,0)) (Y14) hb);replace BK166:=am (jc (g:=gb166) (o:=.cells #[.string ((jg l0_0 x8_1).f0), .int .i64 ((jg l0_0 x8_1).f1)] 63 (0,0)) (Y15) hb);replace HB:=am (jb (Y4) hb);(try clear hb);(try clear hb2);(try clear hk);(try clear hi)))
         go_meet
         case rel=>exact ⟨_,(true),(sq),H',⟨by have:=HK1.out;first | omega | exact Nat.le_refl _⟩,⟨kq BK163.out⟩,⟨kq BK166.out⟩,⟨Y4⟩⟩
       ·replace c12:=Bool.eq_false_iff.mpr c12
        subst c12
        have H1:(je.j1 k1 l0_0 (l0_0.length:Int) x8_1 true l0_0)=some r:=by rw [if_neg (show ¬ (false=true) by decide)] at H;exact H
        clear H
        have H:=H1
        clear H1
        have H':=am H
        clear H
        have hnb49:=NB166_163.out
        have hnc49:=NB163_166.out
        have hcz50_0:=bc0 BK166.out
        have hcz50_1:=bc1 BK166.out
        have hfz50_0:=ja BK166.out 0
        have hfz50_1:=ja BK166.out 1
        go_wp2_with (first |((with_reducible refine jl (f:=41) rfl ?_);refine gL (some 15) Tryd.func41 #[.string ((jg l0_0 x8_1).f0)] ?_;(with_reducible refine (jU.calls k1 ((jg l0_0 x8_1).f0) false _ A11.out).mono ?_);rintro e w' ⟨rfl,⟨nd,rfl⟩⟩;refine ⟨_,rfl,?_⟩))
        go_meet
        case rel=>exact ⟨_,(true),(sq),H',⟨by have:=HK1.out;first | omega | exact Nat.le_refl _⟩,⟨by (with_reducible repeat (first | refine jA ?_ _ | refine jC ?_ | refine jB ?_ _));refine jEa ?_ NB163_166.out _;(with_reducible repeat (first | refine jA ?_ _ | refine jC ?_ | refine jB ?_ _));refine jEa ?_ NB163_166.out _;(with_reducible repeat (first | refine jA ?_ _ | refine jC ?_ | refine jB ?_ _));exact BK163.out⟩,⟨by (with_reducible repeat (first | refine jA ?_ _ | refine jC ?_ | refine jB ?_ _));refine jDa (cs:=#[.string ((jg l0_0 x8_1).f0), .int .i64 0]) ?_ 1 _ rfl;(with_reducible repeat (first | refine jA ?_ _ | refine jC ?_ | refine jB ?_ _));refine jDa (cs:=#[.string (⟨#[]⟩:ByteArray), .int .i64 0]) ?_ 0 _ rfl;(with_reducible repeat (first | refine jA ?_ _ | refine jC ?_ | refine jB ?_ _));exact BK166.out⟩,⟨Y4⟩⟩
      case rest =>
       clear HC7
       try clear c1
       try clear p1
       try clear q1
       try clear hx1
       try clear c2
       try clear p2
       try clear c3
       try clear c4
       try clear c4b0
       try clear c5
       try clear c5b0
       try clear c6
       try clear c6b0
       try clear p6
       try clear c9
       try clear c12
       try clear c14
       try clear c14b0
       try clear c14b1
       try clear c15
       try clear c15b0
       try clear c15b1
       try clear c16
       try clear c16b0
       try clear c16b1
       try clear p16
       try clear q16
       try clear hx16
       try clear c17
       try clear c17b0
       try clear c19
       try clear c24
       try clear c28
       try clear c29
       try clear c34
       try clear c34b0
       try clear c36
       try clear c41
       try clear c45
       try clear c49
       try clear hcz10_0
       try clear hcz10_1
       try clear hcz20_0
       try clear hcz20_1
       try clear hcz21_0
       try clear hcz23_0
       try clear hcz23_1
       try clear hcz25_0
       try clear hcz25_1
       try clear hcz26_0
       try clear hcz28_0
       try clear hcz28_1
       try clear hcz30_0
       try clear hcz30_1
       try clear hcz31_0
       try clear hcz33_0
       try clear hcz33_1
       try clear hcz37_0
       try clear hcz37_1
       try clear hcz38_0
       try clear hcz3_0
       try clear hcz40_0
       try clear hcz40_1
       try clear hcz42_0
       try clear hcz42_1
       try clear hcz43_0
       try clear hcz46_0
       try clear hcz46_1
       try clear hcz47_0
       try clear hcz50_0
       try clear hcz50_1
       try clear hfz10_0
       try clear hfz10_1
       try clear hfz20_0
       try clear hfz20_1
       try clear hfz21_0
       try clear hfz23_0
       try clear hfz23_1
       try clear hfz25_0
       try clear hfz25_1
       try clear hfz26_0
       try clear hfz28_0
       try clear hfz28_1
       try clear hfz30_0
       try clear hfz30_1
       try clear hfz31_0
       try clear hfz33_0
       try clear hfz33_1
       try clear hfz37_0
       try clear hfz37_1
       try clear hfz38_0
       try clear hfz3_0
       try clear hfz40_0
       try clear hfz40_1
       try clear hfz42_0
       try clear hfz42_1
       try clear hfz43_0
       try clear hfz46_0
       try clear hfz46_1
       try clear hfz47_0
       try clear hfz50_0
       try clear hfz50_1
       try clear hx165_0
       try clear hx165_1
       try clear p165
       try clear p2
       try clear q165
       obtain ⟨kq,x45_6,rfl,HA,HJ6,BK163,BK166,HB⟩:=hcut
       cases kq with
       | zero=>exact absurd HA.out (by simp [je.j1])
       | succ kj6 =>
        have H:=HA.out
        clear HA
        simp only [je.j1] at H
        by_cases c51:x45_6=true
        ·subst c51
         have H1:(some false)=some r:=by rw [if_pos rfl] at H;exact H
         clear H
         have H:=H1
         clear H1
         obtain rfl:=Option.some.inj H
         go_wp2
         go_ret
         exact ⟨Y1,Y4⟩
        ·replace c51:=Bool.eq_false_iff.mpr c51
         subst c51
         have H1:(je.l0 kj6 l0_0 (l0_0.length:Int) (wrap64 (x8_1+1)) l0_0)=some r:=by rw [if_neg (show ¬ (false=true) by decide)] at H;exact H
         clear H
         have H:=H1
         clear H1
         have H':=am H
         clear H
         go_wp2
         go_roundg kj6
         case measure=>have:=HK1.out;have:=HJ6.out;omega
         case rel=>exact ⟨(wrap64 (x8_1+1)),(sq),H',⟨by have:=HK1.out;have:=HJ6.out;omega⟩,⟨kq BK163.out⟩,⟨Y4⟩⟩
     ·rw [if_neg c6] at H
      exact absurd H (by simp)
    ·rw [if_neg c5] at H
     exact absurd H (by simp)
   ·rw [if_neg c4] at H
    have c4b0:decide (x8_1<(l0_0.length:Int))=false:=dzF c4
    clear c4
    replace H:=bzS H
    obtain ⟨t164,A520,H⟩:=H
    replace H:(some t164)=some r:=H
    have A52:=am A520
    clear A520
    obtain rfl:=Option.some.inj H
    have hcz53_0:=bc0 BK163.out
    have hfz53_0:=ja BK163.out 0
    go_wp2_with (first |((with_reducible refine jl (f:=43) rfl ?_);refine gL (some 50) Tryd.func43 #[.int .i64 (l0_0.length:Int), .int .i64 1, .int .i64 8] ?_;(with_reducible refine (jN.calls (l0_0.length:Int) 1 8 t164 _ A52.out).mono ?_);rintro e w' ⟨rfl,⟨nd,rfl⟩⟩;refine ⟨_,rfl,?_⟩))
    go_ret
    exact ⟨Y1,Y31⟩
def jna.f (a0 : Int) : Option (Bool) := (jN.f a0 0 99).bind fun t171 => (some t171)
set_option maxHeartbeats 8000000 in
set_option maxRecDepth 100000 in
theorem jna.calls (a0 : Int) (r : Bool) (w : World) (h : jna.f a0 = some r) :
  Calls Tryd.prog 45 #[.int .i64 a0] w fun e w'=>e=.returned (.bool r)∧jza w w':=by
 have H:((jN.f a0 0 99).bind fun t171=>(some t171))=some r:=h
 clear h
 replace H:=bzS H
 obtain ⟨t171,A20,H⟩:=H
 replace H:(some t171)=some r:=H
 have A2:=am A20
 clear A20
 obtain rfl:=Option.some.inj H
 go_enter Tryd.func45,Tryd.ntmps45
 go_wp2_with (first |((with_reducible refine jl (f:=43) rfl ?_);refine gL (some 4) Tryd.func43 #[.int .i64 a0, .int .i64 0, .int .i64 99] ?_;(with_reducible refine (jN.calls a0 0 99 t171 _ A2.out).mono ?_);rintro e w' ⟨rfl,⟨nd,rfl⟩⟩;refine ⟨_,rfl,?_⟩))
 go_ret
 exact ⟨sq,Y3⟩
def jha.f (l0_0 : List (S63)) (a1 : Int) : Option (Bool) := (jN.f a1 0 (wrap64 ((l0_0.length : Int) - 1))).bind fun t173 => (some t173)
set_option maxHeartbeats 8000000 in
set_option maxRecDepth 100000 in
theorem jha.calls (A0_0 : Option Addr) (c0_0 : Nat) (l0_0 : List (S63)) (a1 : Int) (r : Bool) (w : World) (hr0_0 : Kd.C k63 w A0_0 l0_0.length l0_0) (hc0_0 : l0_0.length ≤ c0_0) (h : jha.f l0_0 a1 = some r) :
  Calls Tryd.prog 46 #[.agg #[.slice A0_0 l0_0.length c0_0], .int .i64 a1] w fun e w'=>e=.returned (.bool r)∧Below w.heap.size w w':=by
 have hu31:=Tryd.underlying31
 have HR0_0:=am hr0_0
 have HC0_0:=am hc0_0
 clear hr0_0 hc0_0
 have HB:=am (Below.refl w.heap.size w)
 have H:((jN.f a1 0 (wrap64 ((l0_0.length:Int) - 1))).bind fun t173=>(some t173))=some r:=h
 clear h
 replace H:=bzS H
 obtain ⟨t173,A30,H⟩:=H
 replace H:(some t173)=some r:=H
 have A3:=am A30
 clear A30
 obtain rfl:=Option.some.inj H
 go_enter Tryd.func46,Tryd.ntmps46
 go_wp2_with (first |((with_reducible refine jr (N:=2) rfl ?_);refine bE (N:=2) (cs:=#[.slice A0_0 l0_0.length c0_0]) (t:=31) ?_;intro gb172 hg w4 hbox hb;have BK172:=am (hbox);have GW172:=am ((Y0:w.heap.size≤gb172));have GE172:=am ((Y0:w.heap.size≤gb172));replace HB:=am (jb (bq) hb);clear hb hbox hg;have hcz5_0:=bc0 BK172.out;have hfz5_0:=ja BK172.out 0) |((with_reducible refine jl (f:=43) rfl ?_);refine gL (some 10) Tryd.func43 #[.int .i64 a1, .int .i64 0, .int .i64 (wrap64 ((l0_0.length:Int) - 1))] ?_;(with_reducible refine (jN.calls a1 0 (wrap64 ((l0_0.length:Int) - 1)) t173 _ A3.out).mono ?_);rintro e w' ⟨rfl,⟨nd,rfl⟩⟩;refine ⟨_,rfl,?_⟩))
 go_ret
 exact ⟨Y1,by repeat (first |(with_reducible first | exact HB.out | apply ji | apply jd | apply jh | refine jk ?_ GE172.out) | exact HB.out)⟩
def jG.j0 : Nat → Int → Bool → Int → Int → Int → List (S63) → Option (Bool)
 | 0,_,_,_,_,_,_=>none
 | k+1,x6,x7,x175000,x175001,x175002,x176000=>if x7=true then ((jna.f x175001).bind fun t176=>(if t176=true then (some (x175002 == 0)) else (some false))) else (if x6=2 then ((jha.f x176000 x175001).bind fun t177=>(if t177=true then (some (x175002 == 0)) else (some false))) else (if x6=3 then ((jha.f x176000 x175001).bind fun t178=>(if t178=true then ((jna.f x175002).bind fun t179=>(some t179)) else (some false))) else (some false)))
def jG.f (k : Nat) (a0_0 : Int) (a0_1 : Int) (a0_2 : Int) (l1_0 : List (S63)) : Option (Bool) := if a0_0 = 0 then (jG.j0 k a0_0 (a0_0 == 0) a0_0 a0_1 a0_2 l1_0) else (jG.j0 k a0_0 (a0_0 == 1) a0_0 a0_1 a0_2 l1_0)
set_option maxHeartbeats 8000000 in
set_option maxRecDepth 100000 in
theorem jG.calls (k : Nat) (a0_0 : Int) (a0_1 : Int) (a0_2 : Int) (A1_0 : Option Addr) (c1_0 : Nat) (l1_0 : List (S63)) (r : Bool) (w : World) (hr1_0 : Kd.C k63 w A1_0 l1_0.length l1_0) (hc1_0 : l1_0.length ≤ c1_0) (h : jG.f k a0_0 a0_1 a0_2 l1_0 = some r) :
  Calls Tryd.prog 31 #[.agg #[.int .i64 a0_0, .int .i64 a0_1, .int .i64 a0_2], .agg #[.slice A1_0 l1_0.length c1_0]] w fun e w'=>e=.returned (.bool r)∧Below w.heap.size w w':=by
 have hu42:=Tryd.underlying42
 have hu31:=Tryd.underlying31
 have HR1_0:=am hr1_0
 have HC1_0:=am hc1_0
 clear hr1_0 hc1_0
 have HB:=am (Below.refl w.heap.size w)
 have H:(if a0_0=0 then (jG.j0 k a0_0 (a0_0 == 0) a0_0 a0_1 a0_2 l1_0) else (jG.j0 k a0_0 (a0_0 == 1) a0_0 a0_1 a0_2 l1_0))=some r:=h
 clear h
 have HC3:=am H
 clear H
 go_enter Tryd.func31,Tryd.ntmps31
 go_upto_if 7 with (first |((with_reducible refine jr (N:=2) rfl ?_);refine bE (N:=2) (cs:=#[.int .i64 a0_0, .int .i64 a0_1, .int .i64 a0_2]) (t:=42) ?_;intro gb174 hg w4 hbox hb;have BK174:=am (hbox);have GW174:=am ((Y0:w.heap.size≤gb174));have GE174:=am ((Y0:w.heap.size≤gb174));replace HB:=am (jb (bq) hb);clear hb hbox hg) |((with_reducible refine jr (N:=3) rfl ?_);refine bE (N:=3) (cs:=#[.slice A1_0 l1_0.length c1_0]) (t:=31) ?_;intro gb175 hg w5 hbox hb;have BK175:=am (hbox);have GW175:=am ((Y48:w.heap.size≤gb175));have GE175:=am ((Y48:w.heap.size≤gb175));have NB174_175:=am ((by rw [hg];exact Nat.ne_of_lt (jma (g:=gb174) (o:=.cells #[.int .i64 a0_0, .int .i64 a0_1, .int .i64 a0_2] 42 (0,0)) (kq BK174.out)):gb174≠gb175));have NB175_174:=am ((by rw [hg];exact Nat.ne_of_gt (jma (g:=gb174) (o:=.cells #[.int .i64 a0_0, .int .i64 a0_1, .int .i64 a0_2] 42 (0,0)) (kq BK174.out)):gb175≠gb174));replace BK174:=am (jc (g:=gb174) (o:=.cells #[.int .i64 a0_0, .int .i64 a0_1, .int .i64 a0_2] 42 (0,0)) (kq BK174.out) hb);replace HB:=am (jb (by repeat (first |(with_reducible first | exact HB.out | apply ji | apply jd | apply jh | refine jk ?_ GE174.out) | exact HB.out)) hb);clear hb hbox hg;have hnb6:=NB174_175.out;have hnc6:=NB175_174.out;have hcz7_0:=bc0 BK174.out;have hcz7_1:=bc1 BK174.out;have hcz7_2:=bc2 BK174.out;have hfz7_0:=ja BK174.out 0;have hfz7_1:=ja BK174.out 1;have hfz7_2:=ja BK174.out 2))
 (try simp only [Act.put,List.setIfInBounds_toArray,List.set_cons_zero,List.set_cons_succ])
 go_cut [7] (fun v7 wc=>∃ (kq:Nat) (x7_2:Bool),v7=.bool x7_2∧jJ (jG.j0 kq a0_0 x7_2 a0_0 a0_1 a0_2 l1_0=some r)∧jJ (kq≤k)∧jJ (wc.heap[gb174]?=some (.cells #[.int .i64 a0_0, .int .i64 a0_1, .int .i64 a0_2] 42 (0,0)))∧jJ (wc.heap[gb175]?=some (.cells #[(.slice A1_0 l1_0.length c1_0)] 31 (0,0)))∧jJ (Below w.heap.size w wc))
 case first =>
  have H:=HC3.out
  clear HC3
  by_cases c8:a0_0=0
  ·rw [if_pos c8] at H
   have c8b0:(a0_0 == 0)=true:=beq_iff_eq.mpr c8
   have c8b1:(a0_0 != 0)=false:=bne_eq_false_iff_eq.mpr c8
   clear c8
   (first | rw [c8b0] |(simp only [i64_w,i32_w];rw [c8b0]) | skip)
   have H':=am H
   clear H
   go_wp2
   go_meet
   case rel=>exact ⟨_,((a0_0 == 0)),(sq),H',⟨by first | omega | exact Nat.le_refl _⟩,⟨kq BK174.out⟩,⟨kq BK175.out⟩,⟨Y7⟩⟩
  ·rw [if_neg c8] at H
   have c8b0:(a0_0 == 0)=false:=beq_eq_false_iff_ne.mpr c8
   have c8b1:(a0_0 != 0)=true:=bne_iff_ne.mpr c8
   (first | rw [c8b0] |(simp only [i64_w,i32_w];rw [c8b0]) | skip)
   have H':=am H
   clear H
   go_wp2
   go_meet
   case rel=>exact ⟨_,((a0_0 == 1)),(sq),H',⟨by first | omega | exact Nat.le_refl _⟩,⟨kq BK174.out⟩,⟨kq BK175.out⟩,⟨Y7⟩⟩
 case rest =>
  clear HC3
  try clear c1
  try clear p2
  try clear c3
  try clear c6
  try clear c8
  try clear c8b0
  try clear c8b1
  try clear hcz7_0
  try clear hcz7_1
  try clear hcz7_2
  try clear hfz7_0
  try clear hfz7_1
  try clear hfz7_2
  obtain ⟨kq,x7_2,rfl,HA,HJ2,BK174,BK175,HB⟩:=hcut
  cases kq with
  | zero=>exact absurd HA.out (by simp [jG.j0])
  | succ kj2 =>
   have H:=HA.out
   clear HA
   simp only [jG.j0] at H
   by_cases c9:x7_2=true
   ·subst c9
    have H1:((jna.f a0_1).bind fun t176=>(if t176=true then (some (a0_2 == 0)) else (some false)))=some r:=by rw [if_pos rfl] at H;exact H
    clear H
    have H:=H1
    clear H1
    replace H:=bzS H
    obtain ⟨t176,A100,H⟩:=H
    replace H:(if t176=true then (some (a0_2 == 0)) else (some false))=some r:=H
    have A10:=am A100
    clear A100
    by_cases c11:t176=true
    ·subst c11
     have H1:(some (a0_2 == 0))=some r:=by rw [if_pos rfl] at H;exact H
     clear H
     have H:=H1
     clear H1
     obtain rfl:=Option.some.inj H
     have hnb12:=NB174_175.out
     have hnc12:=NB175_174.out
     have hcz13_0:=bc0 BK174.out
     have hcz13_1:=bc1 BK174.out
     have hcz13_2:=bc2 BK174.out
     have hfz13_0:=ja BK174.out 0
     have hfz13_1:=ja BK174.out 1
     have hfz13_2:=ja BK174.out 2
     go_wp2_with (first |((with_reducible refine jl (f:=45) rfl ?_);refine gL (some 12) Tryd.func45 #[.int .i64 a0_1] ?_;(with_reducible refine (jna.calls a0_1 true _ A10.out).mono ?_);rintro e w' ⟨rfl,⟨nd,rfl⟩⟩;refine ⟨_,rfl,?_⟩))
     go_ret
     exact ⟨Y1,Y7⟩
    ·replace c11:=Bool.eq_false_iff.mpr c11
     subst c11
     have H1:(some false)=some r:=by rw [if_neg (show ¬ (false=true) by decide)] at H;exact H
     clear H
     have H:=H1
     clear H1
     obtain rfl:=Option.some.inj H
     have hnb14:=NB174_175.out
     have hnc14:=NB175_174.out
     have hcz15_0:=bc0 BK174.out
     have hcz15_1:=bc1 BK174.out
     have hcz15_2:=bc2 BK174.out
     have hfz15_0:=ja BK174.out 0
     have hfz15_1:=ja BK174.out 1
     have hfz15_2:=ja BK174.out 2
     go_wp2_with (first |((with_reducible refine jl (f:=45) rfl ?_);refine gL (some 12) Tryd.func45 #[.int .i64 a0_1] ?_;(with_reducible refine (jna.calls a0_1 false _ A10.out).mono ?_);rintro e w' ⟨rfl,⟨nd,rfl⟩⟩;refine ⟨_,rfl,?_⟩))
     go_ret
     exact ⟨Y1,Y7⟩
   ·replace c9:=Bool.eq_false_iff.mpr c9
    subst c9
    have H1:(if a0_0=2 then ((jha.f l1_0 a0_1).bind fun t177=>(if t177=true then (some (a0_2 == 0)) else (some false))) else (if a0_0=3 then ((jha.f l1_0 a0_1).bind fun t178=>(if t178=true then ((jna.f a0_2).bind fun t179=>(some t179)) else (some false))) else (some false)))=some r:=by rw [if_neg (show ¬ (false=true) by decide)] at H;exact H
    clear H
    have H:=H1
    clear H1
    by_cases c16:a0_0=2
    ·rw [if_pos c16] at H
     have c16b0:(a0_0 == 2)=true:=beq_iff_eq.mpr c16
     have c16b1:(a0_0 != 2)=false:=bne_eq_false_iff_eq.mpr c16
     clear c16
     replace H:=bzS H
     obtain ⟨t177,A170,H⟩:=H
     replace H:(if t177=true then (some (a0_2 == 0)) else (some false))=some r:=H
     have A17:=am A170
     clear A170
     by_cases c18:t177=true
     ·subst c18
      have H1:(some (a0_2 == 0))=some r:=by rw [if_pos rfl] at H;exact H
      clear H
      have H:=H1
      clear H1
      obtain rfl:=Option.some.inj H
      have hnb19:=NB175_174.out
      have hnc19:=NB174_175.out
      have hcz20_0:=bc0 BK175.out
      have hfz20_0:=ja BK175.out 0
      have hcz21_0:=bc0 BK174.out
      have hcz21_1:=bc1 BK174.out
      have hcz21_2:=bc2 BK174.out
      have hfz21_0:=ja BK174.out 0
      have hfz21_1:=ja BK174.out 1
      have hfz21_2:=ja BK174.out 2
      go_wp2_with (first |((with_reducible refine jl (f:=46) rfl ?_);refine gL (some 23) Tryd.func46 #[.agg #[.slice A1_0 l1_0.length c1_0], .int .i64 a0_1] ?_;(with_reducible refine (jha.calls _ _ l1_0 a0_1 true _ ?side1 ?side2 A17.out).mono ?_);(case side1=>exact cq (Kd.jD HR1_0.out HB.out));(case side2=>exact HC1_0.out);rintro e w22 ⟨rfl,hb⟩;refine ⟨_,rfl,?_⟩;replace BK174:=am (jc (g:=gb174) (o:=.cells #[.int .i64 a0_0, .int .i64 a0_1, .int .i64 a0_2] 42 (0,0)) (kq BK174.out) hb);replace BK175:=am (jc (g:=gb175) (o:=.cells #[.slice A1_0 l1_0.length c1_0] 31 (0,0)) (kq BK175.out) hb);replace HB:=am (jb (Y7) hb);(try clear hb);(try clear hb2);(try clear hk);(try clear hi);have hcz23_0:=bc0 BK174.out;have hcz23_1:=bc1 BK174.out;have hcz23_2:=bc2 BK174.out;have hfz23_0:=ja BK174.out 0;have hfz23_1:=ja BK174.out 1;have hfz23_2:=ja BK174.out 2))
      go_ret
      exact ⟨Y1,Y7⟩
     ·replace c18:=Bool.eq_false_iff.mpr c18
      subst c18
      have H1:(some false)=some r:=by rw [if_neg (show ¬ (false=true) by decide)] at H;exact H
      clear H
      have H:=H1
      clear H1
      obtain rfl:=Option.some.inj H
      have hnb24:=NB175_174.out
      have hnc24:=NB174_175.out
      have hcz25_0:=bc0 BK175.out
      have hfz25_0:=ja BK175.out 0
      have hcz26_0:=bc0 BK174.out
      have hcz26_1:=bc1 BK174.out
      have hcz26_2:=bc2 BK174.out
      have hfz26_0:=ja BK174.out 0
      have hfz26_1:=ja BK174.out 1
      have hfz26_2:=ja BK174.out 2
      go_wp2_with (first |((with_reducible refine jl (f:=46) rfl ?_);refine gL (some 23) Tryd.func46 #[.agg #[.slice A1_0 l1_0.length c1_0], .int .i64 a0_1] ?_;(with_reducible refine (jha.calls _ _ l1_0 a0_1 false _ ?side1 ?side2 A17.out).mono ?_);(case side1=>exact cq (Kd.jD HR1_0.out HB.out));(case side2=>exact HC1_0.out);rintro e w27 ⟨rfl,hb⟩;refine ⟨_,rfl,?_⟩;replace BK174:=am (jc (g:=gb174) (o:=.cells #[.int .i64 a0_0, .int .i64 a0_1, .int .i64 a0_2] 42 (0,0)) (kq BK174.out) hb);replace BK175:=am (jc (g:=gb175) (o:=.cells #[.slice A1_0 l1_0.length c1_0] 31 (0,0)) (kq BK175.out) hb);replace HB:=am (jb (Y7) hb);(try clear hb);(try clear hb2);(try clear hk);(try clear hi)))
      go_ret
      exact ⟨Y1,Y7⟩
    ·rw [if_neg c16] at H
     have c16b0:(a0_0 == 2)=false:=beq_eq_false_iff_ne.mpr c16
     have c16b1:(a0_0 != 2)=true:=bne_iff_ne.mpr c16
     by_cases c28:a0_0=3
     ·rw [if_pos c28] at H
      have c28b0:(a0_0 == 3)=true:=beq_iff_eq.mpr c28
      have c28b1:(a0_0 != 3)=false:=bne_eq_false_iff_eq.mpr c28
      clear c28
      replace H:=bzS H
      obtain ⟨t178,A290,H⟩:=H
      replace H:(if t178=true then ((jna.f a0_2).bind fun t179=>(some t179)) else (some false))=some r:=H
      have A29:=am A290
      clear A290
      by_cases c30:t178=true
      ·subst c30
       have H1:((jna.f a0_2).bind fun t179=>(some t179))=some r:=by rw [if_pos rfl] at H;exact H
       clear H
       have H:=H1
       clear H1
       replace H:=bzS H
       obtain ⟨t179,A310,H⟩:=H
       replace H:(some t179)=some r:=H
       have A31:=am A310
       clear A310
       obtain rfl:=Option.some.inj H
       have hnb32:=NB175_174.out
       have hnc32:=NB174_175.out
       have hcz33_0:=bc0 BK175.out
       have hfz33_0:=ja BK175.out 0
       have hcz34_0:=bc0 BK174.out
       have hcz34_1:=bc1 BK174.out
       have hcz34_2:=bc2 BK174.out
       have hfz34_0:=ja BK174.out 0
       have hfz34_1:=ja BK174.out 1
       have hfz34_2:=ja BK174.out 2
       go_wp2_with (first |((with_reducible refine jl (f:=46) rfl ?_);refine gL (some 34) Tryd.func46 #[.agg #[.slice A1_0 l1_0.length c1_0], .int .i64 a0_1] ?_;(with_reducible refine (jha.calls _ _ l1_0 a0_1 true _ ?side1 ?side2 A29.out).mono ?_);(case side1=>exact cq (Kd.jD HR1_0.out HB.out));(case side2=>exact HC1_0.out);rintro e w35 ⟨rfl,hb⟩;refine ⟨_,rfl,?_⟩;replace BK174:=am (jc (g:=gb174) (o:=.cells #[.int .i64 a0_0, .int .i64 a0_1, .int .i64 a0_2] 42 (0,0)) (kq BK174.out) hb);replace BK175:=am (jc (g:=gb175) (o:=.cells #[.slice A1_0 l1_0.length c1_0] 31 (0,0)) (kq BK175.out) hb);replace HB:=am (jb (Y7) hb);(try clear hb);(try clear hb2);(try clear hk);(try clear hi);have hcz36_0:=bc0 BK174.out;have hcz36_1:=bc1 BK174.out;have hcz36_2:=bc2 BK174.out;have hfz36_0:=ja BK174.out 0;have hfz36_1:=ja BK174.out 1;have hfz36_2:=ja BK174.out 2) |(go_at_call 45;(with_reducible refine (jna.calls a0_2 t179 _ A31.out).mono ?_);rintro e w' ⟨rfl,⟨nd,rfl⟩⟩))
       go_ret
       exact ⟨Y1,Y7⟩
      ·replace c30:=Bool.eq_false_iff.mpr c30
       subst c30
       have H1:(some false)=some r:=by rw [if_neg (show ¬ (false=true) by decide)] at H;exact H
       clear H
       have H:=H1
       clear H1
       obtain rfl:=Option.some.inj H
       have hnb37:=NB175_174.out
       have hnc37:=NB174_175.out
       have hcz38_0:=bc0 BK175.out
       have hfz38_0:=ja BK175.out 0
       have hcz39_0:=bc0 BK174.out
       have hcz39_1:=bc1 BK174.out
       have hcz39_2:=bc2 BK174.out
       have hfz39_0:=ja BK174.out 0
       have hfz39_1:=ja BK174.out 1
       have hfz39_2:=ja BK174.out 2
       go_wp2_with (first |((with_reducible refine jl (f:=46) rfl ?_);refine gL (some 34) Tryd.func46 #[.agg #[.slice A1_0 l1_0.length c1_0], .int .i64 a0_1] ?_;(with_reducible refine (jha.calls _ _ l1_0 a0_1 false _ ?side1 ?side2 A29.out).mono ?_);(case side1=>exact cq (Kd.jD HR1_0.out HB.out));(case side2=>exact HC1_0.out);rintro e w40 ⟨rfl,hb⟩;refine ⟨_,rfl,?_⟩;replace BK174:=am (jc (g:=gb174) (o:=.cells #[.int .i64 a0_0, .int .i64 a0_1, .int .i64 a0_2] 42 (0,0)) (kq BK174.out) hb);replace BK175:=am (jc (g:=gb175) (o:=.cells #[.slice A1_0 l1_0.length c1_0] 31 (0,0)) (kq BK175.out) hb);replace HB:=am (jb (Y7) hb);(try clear hb);(try clear hb2);(try clear hk);(try clear hi)))
       go_ret
       exact ⟨Y1,Y7⟩
     ·rw [if_neg c28] at H
      have c28b0:(a0_0 == 3)=false:=beq_eq_false_iff_ne.mpr c28
      have c28b1:(a0_0 != 3)=true:=bne_iff_ne.mpr c28
      obtain rfl:=Option.some.inj H
      go_wp2
      go_ret
      exact ⟨Y1,Y7⟩
theorem impl_ValidExits1_calls (k : Nat) (l : List S63) (A_ : Option Addr) (c_ : Nat) (x : S42) (b : Bool) (B : Nat) (w : World) (hr : Kd.C k63 w A_ l.length l) (hcc : l.length ≤ c_) (hc : w.cell? ⟨B, 0, none⟩ = some (.slice A_ l.length c_)) (h : ((jG.f k x.f0 x.f1 x.f2 l).bind fun b => some (!b)) = some b) :
  Calls Tryd.prog 30 #[.agg #[.int .i64 x.f0, .int .i64 x.f1, .int .i64 x.f2], .pointer (some ⟨B,0,none⟩)] w fun e w'=>e=.returned (.bool b)∧Below w.heap.size w w':=by
 obtain ⟨b0,h0,h1⟩:=bzS h
 obtain rfl:=Option.some.inj h1
 have hB:B<w.heap.size:=World.block_lt_of_cell? w ⟨B,0,none⟩ hc
 have HF:=am (fun W (hb:Below w.heap.size w W)=>jG.calls k x.f0 x.f1 x.f2 A_ c_ l b0 W (Kd.jD hr hb) hcc h0)
 have HB:=am (Below.refl w.heap.size w)
 clear h h0 h1 hr
 have hu31:=Tryd.underlying31
 have hu42:=Tryd.underlying42
 have hne:B≠w.heap.size:=by omega
 go_enter Tryd.func30,Tryd.ntmps30
 go_wp2_with (go_at_call 31;refine (HF.out _ (bq)).mono ?_;rintro e w' ⟨rfl,hb2⟩)
 go_ret
 exact ⟨rfl,jb (bq) hb2⟩
set_option maxHeartbeats 8000000 in
set_option maxRecDepth 100000 in
theorem impl_ValidExits_idx (A_ : Option Addr) (c_ : Nat) (l : List (S42)) (B0_ : Nat) (p : S42 → Option Bool) (r : Int) (w : World) (hr : Kd.C k42 w A_ l.length l) (h : idxFrom p l 0 = some r)
  (hp:∀ W,Below w.heap.size w W→∀ (x:S42) (b:Bool),p x=some b→Calls Tryd.prog 30 #[.agg #[.int .i64 x.f0, .int .i64 x.f1, .int .i64 x.f2], .pointer (some ⟨B0_,0,none⟩)] W fun e w'=>e=.returned (.bool b)∧Below W.heap.size W w') :
  Calls Tryd.prog 44 #[.slice A_ l.length c_, .func (.func 30) #[] #[.pointer (some ⟨B0_,0,none⟩)]] w fun e w'=>e=.returned (.int .i64 r)∧Below w.heap.size w w':=by
 have hm:l.length≤9223372036854775807:=Kd.C_max hr
 have HR:=am hr
 have HP:=am hp
 have H0:=am h
 clear hr hp h
 go_enter Tryd.func44,Tryd.ntmps44
 go_wp2
 go_loopw [5,8] (fun i5 i8 wr=>∃ k:Nat,k≤l.length∧i8=.int .i64 k∧jJ (idxFrom p (l.drop k) k=some r)∧Below w.heap.size w wr) (fun _ i8 _=>l.length - (intOf i8).toNat)
 case atStart=>exact ⟨0,Nat.zero_le _,rfl,H0,Below.refl _ _⟩
 case round =>
  clear H0
  obtain ⟨k,hk,rfl,HA,hb⟩:=hrel
  by_cases hlt:k<l.length
  ·have HB:=am (idxFrom_step hlt HA.out)
   clear HA
   obtain ⟨ad,rfl,hx0,hx1,hx2⟩:=at_T42 HR.out (k:Int) (by omega) (by omega)
   have hrd:jy l (k:Int)=l[k]:=by simp [jy,List.getD_eq_getElem?_getD,hlt]
   replace hx0:=jW hb hx0
   replace hx1:=jW hb hx1
   replace hx2:=jW hb hx2
   rw [hrd] at hx0 hx1 hx2
   simp only [Int.toNat_natCast] at hx0 hx1 hx2
   clear hrd
   obtain ⟨b,hb1,hb0⟩:=HB.out
   have HQ:=am hb1
   clear hb1 HB
   cases b with
   | true =>
    have HZ:=am (by simpa using hb0:(k:Int)=r)
    clear hb0
    go_wp2_with (go_at_call 30;refine (HP.out _ hb _ _ HQ.out).mono ?_;rintro e w' ⟨rfl,hb2⟩)
    go_ret
    exact ⟨by rw [← HZ.out];rfl,jFa hb hb.size hb2⟩
   | false =>
    have HZ:=am (by simpa using hb0:idxFrom p (l.drop (k+1)) (k+1)=some r)
    clear hb0
    go_wp2_with (go_at_call 30;refine (HP.out _ hb _ _ HQ.out).mono ?_;rintro e w' ⟨rfl,hb2⟩)
    go_roundw
    case rel=>exact ⟨k+1,hlt,by go_num,HZ,jFa hb hb.size hb2⟩
    case measure=>simp [intOf];omega
  ·have HZ:=am (idxFrom_end (by omega) HA.out)
   clear HA
   go_wp2
   go_ret
   exact ⟨by rw [HZ.out];rfl,hb⟩
set_option maxHeartbeats 8000000 in
set_option maxRecDepth 100000 in
theorem impl_ValidExits_any (A_ : Option Addr) (c_ : Nat) (l : List S42) (B0_ : Nat) (p : S42 → Option Bool) (r : Int) (w : World) (hr : Kd.C k42 w A_ l.length l) (h : idxFrom p l 0 = some r)
  (hp:∀ W,Below w.heap.size w W→∀ (x:S42) (b:Bool),p x=some b→Calls Tryd.prog 30 #[.agg #[.int .i64 x.f0, .int .i64 x.f1, .int .i64 x.f2], .pointer (some ⟨B0_,0,none⟩)] W fun e w'=>e=.returned (.bool b)∧Below W.heap.size W w') :
  Calls Tryd.prog 29 #[.slice A_ l.length c_, .func (.func 30) #[] #[.pointer (some ⟨B0_,0,none⟩)]] w fun e w'=>e=.returned (.bool (decide (0≤r)))∧Below w.heap.size w w':=by
 have HF:=am (impl_ValidExits_idx A_ c_ l B0_ p r w hr h hp)
 clear hr h hp
 go_enter Tryd.func29,Tryd.ntmps29
 go_wp2_with (go_at_call 44;refine HF.out.mono ?_;rintro e w' ⟨rfl,hb2⟩)
 go_ret
 exact ⟨rfl,hb2⟩
def jra.f (k : Nat) (l0_0 : List S63) (l1 : List S42) : Option Bool := (je.f k l0_0).bind fun v => if v = true then (if (l1.length : Int) ≤ 8 then (idxFrom (fun x => (jG.f k x.f0 x.f1 x.f2 l0_0).bind fun b => some (!b)) l1 0).bind fun r => some (!decide (0 ≤ r)) else some false) else some false
set_option maxHeartbeats 8000000 in
set_option maxRecDepth 100000 in
theorem jra.calls (k : Nat) (A0_0 : Option Addr) (c0_0 : Nat) (l0_0 : List (S63)) (A1 : Option Addr) (c1 : Nat) (l1 : List (S42)) (r : Bool) (w : World) (hr0_0 : Kd.C k63 w A0_0 l0_0.length l0_0) (hc0_0 : l0_0.length ≤ c0_0) (hr1 : Kd.C k42 w A1 l1.length l1) (hc1 : l1.length ≤ c1) (h : jra.f k l0_0 l1 = some r) :
  Calls Tryd.prog 17 #[.agg #[.slice A0_0 l0_0.length c0_0], .slice A1 l1.length c1] w fun e w'=>e=.returned (.bool r)∧Below w.heap.size w w':=by
 obtain ⟨v,hv,h⟩:=bzS h
 have hu31:=Tryd.underlying31
 have HV:=am (fun W (hb:Below w.heap.size w W)=>je.calls k A0_0 c0_0 l0_0 v W (Kd.jD hr0_0 hb) hc0_0 hv)
 cases v with
 | false =>
  obtain rfl:false=r:=by simpa using h
  clear hv h hr0_0 hr1
  go_enter Tryd.func17,Tryd.ntmps17
  go_wp2_with (go_at_call 28;refine (HV.out _ ((Below.refl _ _).alloc (Nat.le_refl _) _)).mono ?_;rintro e w' ⟨rfl,hb2⟩)
  go_ret
  exact ⟨rfl,((Below.refl _ _).alloc (Nat.le_refl _) _).trans (hb2.mono (by simp))⟩
 | true =>
  rw [if_pos rfl] at h
  by_cases hlen:(l1.length:Int)≤8
  ·rw [if_pos hlen] at h
   have hlb:=dzT hlen
   obtain ⟨q,hq,h⟩:=bzS h
   have HZ:=am (Option.some.inj h)
   have HF:=am (fun W (hb:Below w.heap.size w W) (B:Nat) (hc:W.cell? ⟨B,0,none⟩=some (.slice A0_0 l0_0.length c0_0))=>impl_ValidExits_any A1 c1 l1 B (fun x=>(jG.f k x.f0 x.f1 x.f2 l0_0).bind fun b=>some (!b)) q W (Kd.jD hr1 hb) hq (fun W' hb' x b hx =>
    impl_ValidExits1_calls k l0_0 A0_0 c0_0 x b B W' (Kd.jD (Kd.jD hr0_0 hb) hb') hc0_0 (jW hb' hc) hx))
   clear hv h hq hr0_0 hr1 hlen
   go_enter Tryd.func17,Tryd.ntmps17
   go_wp2_with (first |(go_at_call 28;refine (HV.out _ ((Below.refl _ _).alloc (Nat.le_refl _) _)).mono ?_;rintro e w1 ⟨rfl,hb2⟩;have hb1:=((Below.refl w.heap.size w).alloc (Nat.le_refl _) (.cells #[.slice A0_0 l0_0.length c0_0] 31)).trans (hb2.mono (by simp));have hcell:=jW hb2 (show (w.alloc (.cells #[.slice A0_0 l0_0.length c0_0] 31)).cell? ⟨w.heap.size,0,none⟩=some (.slice A0_0 l0_0.length c0_0) by simp)) |(go_at_call 29;refine (HF.out _ hb1 _ hcell).mono ?_;rintro e w2 ⟨rfl,hb3⟩))
   go_ret
   exact ⟨by rw [← HZ.out];rfl,jFa hb1 hb1.size hb3⟩
  ·rw [if_neg hlen] at h
   obtain rfl:=Option.some.inj h
   have hlb:=dzF hlen
   clear hv hr0_0 hr1 hlen
   go_enter Tryd.func17,Tryd.ntmps17
   go_wp2_with (go_at_call 28;refine (HV.out _ ((Below.refl _ _).alloc (Nat.le_refl _) _)).mono ?_;rintro e w' ⟨rfl,hb2⟩)
   go_ret
   exact ⟨rfl,((Below.refl _ _).alloc (Nat.le_refl _) _).trans (hb2.mono (by simp))⟩
def jta.f  : Option (List ByteArray) := some (([(⟨#[99, 97, 108, 108]⟩ : ByteArray), (⟨#[116, 101, 108, 108]⟩ : ByteArray), (⟨#[99, 97, 116, 99, 104]⟩ : ByteArray), (⟨#[114, 97, 105, 115, 101]⟩ : ByteArray)] : List ByteArray))
set_option maxHeartbeats 8000000 in
set_option maxRecDepth 100000 in
theorem jta.calls  (r : List ByteArray) (w : World) (h : jta.f  = some r) :
  Calls Tryd.prog 33 #[] w fun e w'=>∃ v0_:Value,e=.returned (v0_)∧Kd.R Kd.string 9 w' w.heap.size (fun _=>True) v0_ r∧Below w.heap.size w w':=by
 have HB:=am (Below.refl w.heap.size w)
 have H:(some (([(⟨#[99,97,108,108]⟩:ByteArray),(⟨#[116,101,108,108]⟩:ByteArray),(⟨#[99,97,116,99,104]⟩:ByteArray),(⟨#[114,97,105,115,101]⟩:ByteArray)]:List ByteArray)))=some r:=h
 clear h
 obtain ⟨y180,hy180⟩:∃ y_:List ByteArray,y_=(([(⟨#[99,97,108,108]⟩:ByteArray),(⟨#[116,101,108,108]⟩:ByteArray),(⟨#[99,97,116,99,104]⟩:ByteArray),(⟨#[114,97,105,115,101]⟩:ByteArray)]:List ByteArray)):=⟨_,rfl⟩
 replace H:(some y180)=some r:=by first |(rw [hy180];with_reducible exact H) |(have H2_:=(Option.bind_some _ _).symm.trans H;rw [hy180];with_reducible exact H2_) |(have H2_:=(Option.bind_some _ _).symm.trans H;with_reducible exact H2_) | with_reducible exact H |(rw [hy180];exact H) | exact H
 have Ny180:=am hy180
 clear hy180
 obtain rfl:=Option.some.inj H
 go_enter Tryd.func33,Tryd.ntmps33
 go_wp2_with (first |((with_reducible refine jr (N:=1) rfl ?_);refine Kd.R_lit Kd.string _ 9 ?hg (N:=1) ?hd (xs:=([(⟨#[99,97,108,108]⟩:ByteArray),(⟨#[116,101,108,108]⟩:ByteArray),(⟨#[99,97,116,99,104]⟩:ByteArray),(⟨#[114,97,105,115,101]⟩:ByteArray)]:List ByteArray)) (inner:=[.string (⟨#[99,97,108,108]⟩:ByteArray), .string (⟨#[116,101,108,108]⟩:ByteArray), .string (⟨#[99,97,116,99,104]⟩:ByteArray), .string (⟨#[114,97,105,115,101]⟩:ByteArray)]) (ok:=fun _=>True) (okp:=fun _=>True) ?hr ?hp (fun _ hk=>hk) trivial (Below.refl _ _) (Nat.le_refl _) (by simp) ?_;(case hd=>rfl);(case hg=>rfl);(case hr=>first |(go_simp;done) |(go_simp;rfl));(case hp=>exact (Reps.one (show Kd.M Kd.string _ _ _ (⟨#[99,97,108,108]⟩:ByteArray) [.string (⟨#[99,97,108,108]⟩:ByteArray)] from rfl) (Reps.one (show Kd.M Kd.string _ _ _ (⟨#[116,101,108,108]⟩:ByteArray) [.string (⟨#[116,101,108,108]⟩:ByteArray)] from rfl) (Reps.one (show Kd.M Kd.string _ _ _ (⟨#[99,97,116,99,104]⟩:ByteArray) [.string (⟨#[99,97,116,99,104]⟩:ByteArray)] from rfl) (Reps.one (show Kd.M Kd.string _ _ _ (⟨#[114,97,105,115,101]⟩:ByteArray) [.string (⟨#[114,97,105,115,101]⟩:ByteArray)] from rfl) (Reps.none _ _))))));intro v181 w1 ho2 hb hg_ hnew_;clear hg_ hnew_;(first | rw [← Ny180.out] at ho2 |(simp only [Int.reduceToNat] at ho2;rw [← Ny180.out] at ho2));have HO182:=am (Kd.jRa ho2 (jP (bq)));replace HB:=am (jb (bq) hb);clear hb ho2))
 go_ret
 exact ⟨_,Y1,rq HO182.out,bq⟩
def sh171_ren : Go.Shelf.Ren := ⟨fun | 171 => 34 | 243 => 48 | 246 => 51 | 283 => 52 | 284 => 53 | 285 => 54 | 286 => 55 | 129 => 57 | 317 => 56 | 318 => 58 | 319 => 59 | 320 => 60 | 337 => 61 | 338 => 62 | n => n, fun | 3 => 3 | 9 => 9 | 2 => 2 | 4 => 4 | 171 => 84 | 0 => 0 | 53 => 85 | 37 => 46 | 5 => 5 | 173 => 88 | 212 => 92 | 51 => 93 | 20 => 20 | 213 => 94 | 46 => 95 | 232 => 98 | 233 => 99 | n => n, fun | 17 => 0 | 18 => 1 | 19 => 2 | n => n⟩
theorem sh171 : Go.Proofs.Lays.n171 Tryd.prog sh171_ren := {
 mixed:=by kernel_rfl
 f129:=Tryd.func57.trans (congrArg some (by kernel_rfl))
 f171:=Tryd.func34.trans (congrArg some (by kernel_rfl))
 f243:=Tryd.func48.trans (congrArg some (by kernel_rfl))
 f246:=Tryd.func51.trans (congrArg some (by kernel_rfl))
 f283:=Tryd.func52.trans (congrArg some (by kernel_rfl))
 f284:=Tryd.func53.trans (congrArg some (by kernel_rfl))
 f285:=Tryd.func54.trans (congrArg some (by kernel_rfl))
 f286:=Tryd.func55.trans (congrArg some (by kernel_rfl))
 f317:=Tryd.func56.trans (congrArg some (by kernel_rfl))
 f318:=Tryd.func58.trans (congrArg some (by kernel_rfl))
 f319:=Tryd.func59.trans (congrArg some (by kernel_rfl))
 f320:=Tryd.func60.trans (congrArg some (by kernel_rfl))
 f337:=Tryd.func61.trans (congrArg some (by kernel_rfl))
 f338:=Tryd.func62.trans (congrArg some (by kernel_rfl))
 t0:=Tryd.underlying0
 a0:=Tryd.isAgg0
 z0:=Tryd.sizeOf0
 v0:=Tryd.zeroValue0
 t2:=Tryd.underlying2
 a2:=Tryd.isAgg2
 z2:=Tryd.sizeOf2
 v2:=Tryd.zeroValue2
 t3:=Tryd.underlying3
 a3:=Tryd.isAgg3
 z3:=Tryd.sizeOf3
 v3:=Tryd.zeroValue3
 t4:=Tryd.underlying4
 a4:=Tryd.isAgg4
 z4:=Tryd.sizeOf4
 v4:=Tryd.zeroValue4
 t5:=Tryd.underlying5
 a5:=Tryd.isAgg5
 z5:=Tryd.sizeOf5
 v5:=Tryd.zeroValue5
 t9:=Tryd.underlying9
 a9:=Tryd.isAgg9
 z9:=Tryd.sizeOf9
 v9:=Tryd.zeroValue9
 t20:=Tryd.underlying20
 a20:=Tryd.isAgg20
 z20:=Tryd.sizeOf20
 v20:=Tryd.zeroValue20
 t37:=Tryd.underlying46
 a37:=Tryd.isAgg46
 z37:=Tryd.sizeOf46
 v37:=Tryd.zeroValue46
 t46:=Tryd.underlying95
 a46:=Tryd.isAgg95
 z46:=Tryd.sizeOf95
 v46:=Tryd.zeroValue95
 t51:=Tryd.underlying93
 a51:=Tryd.isAgg93
 z51:=Tryd.sizeOf93
 v51:=Tryd.zeroValue93
 t53:=Tryd.underlying85
 a53:=Tryd.isAgg85
 z53:=Tryd.sizeOf85
 v53:=Tryd.zeroValue85
 t171:=Tryd.underlying84
 a171:=Tryd.isAgg84
 z171:=Tryd.sizeOf84
 v171:=Tryd.zeroValue84
 t173:=Tryd.underlying88
 a173:=Tryd.isAgg88
 z173:=Tryd.sizeOf88
 v173:=Tryd.zeroValue88
 t212:=Tryd.underlying92
 a212:=Tryd.isAgg92
 z212:=Tryd.sizeOf92
 v212:=Tryd.zeroValue92
 t213:=Tryd.underlying94
 a213:=Tryd.isAgg94
 z213:=Tryd.sizeOf94
 t232:=Tryd.underlying98
 a232:=Tryd.isAgg98
 z232:=Tryd.sizeOf98
 v232:=Tryd.zeroValue98
 t233:=Tryd.underlying99
 a233:=Tryd.isAgg99
 z233:=Tryd.sizeOf99
 v233:=Tryd.zeroValue99
 g17:=by kernel_rfl
 g18:=by kernel_rfl
 g19:=by kernel_rfl }
def strconv_Itoa.f (a0 : Int) : Option ByteArray := if 0 ≤ a0 then (if a0 < 100 then some ⟨(Lib.decDigits a0.toNat).toArray⟩ else none) else none
set_option maxHeartbeats 8000000 in
set_option maxRecDepth 100000 in
theorem strconv_Itoa.calls (a0 : Int) (r : ByteArray) (w : World) (h : strconv_Itoa.f a0 = some r) :
  Calls Tryd.prog 34 #[.int .i64 a0] w fun e w'=>e=.returned (.string r)∧jza w w':=by
 unfold strconv_Itoa.f at h
 by_cases h0:0≤a0
 ·rw [if_pos h0] at h
  by_cases h1:a0<100
  ·rw [if_pos h1] at h
   obtain rfl:=Option.some.inj h
   have hs:=Go.Proofs.Any.strconv_Itoa_small sh171 a0.toNat (by omega) w
   rw [Int.toNat_of_nonneg h0] at hs
   refine Calls.mono (show Calls Tryd.prog 34 _ w _ from hs) ?_
   rintro e w' ⟨rfl,rfl⟩
   exact ⟨rfl,jza.refl _⟩
  ·rw [if_neg h1] at h;cases h
 ·rw [if_neg h0] at h;cases h
theorem xt0 {w : World} {b : Nat} {v : Value} {l : List Value} {t : TypeId} (h : w.heap[b]? = some (.cells ⟨v :: l⟩ t (0, 0))) : w.cell? ⟨b, 0, none⟩ = some v := (joa h 0).trans rfl
theorem xt1 {w : World} {b : Nat} {v v1 : Value} {l : List Value} {t : TypeId} (h : w.heap[b]? = some (.cells ⟨v :: v1 :: l⟩ t (0, 0))) : w.cell? ⟨b, 1, none⟩ = some v1 := (joa h 1).trans rfl
theorem xt2 {w : World} {b : Nat} {v v1 v2 : Value} {l : List Value} {t : TypeId} (h : w.heap[b]? = some (.cells ⟨v :: v1 :: v2 :: l⟩ t (0, 0))) : w.cell? ⟨b, 2, none⟩ = some v2 := (joa h 2).trans rfl
theorem add_zero_ (a : Addr) : a.add 0 = a := by simp [Addr.add]
def jpa.f (a0_0 a0_1 a0_2 : Int) (l1_0 : List S63) : Option ByteArray :=
 if a0_0=0 then (strconv_Itoa.f a0_1).bind fun s=>if s.size≤1000 then some (((⟨#[99,97,108,108]⟩:ByteArray) ++ (⟨#[32]⟩:ByteArray)) ++ s) else none
 else if a0_0=1 then (strconv_Itoa.f a0_1).bind fun s=>if s.size≤1000 then some (((⟨#[116,101,108,108]⟩:ByteArray) ++ (⟨#[32]⟩:ByteArray)) ++ s) else none
 else if a0_0=2 then (if 0≤a0_1 then (if a0_1<(l1_0.length:Int) then (if (jg l1_0 a0_1).f0.size≤2000000 then some (((⟨#[99,97,116,99,104]⟩:ByteArray) ++ (⟨#[32]⟩:ByteArray)) ++ (jg l1_0 a0_1).f0) else none) else none) else none)
 else if a0_0=3 then (if 0≤a0_1 then (if a0_1<(l1_0.length:Int) then (if (jg l1_0 a0_1).f0.size≤2000000 then (strconv_Itoa.f a0_2).bind fun s=>if s.size≤1000 then some (((((⟨#[114,97,105,115,101]⟩:ByteArray) ++ (⟨#[32]⟩:ByteArray)) ++ (jg l1_0 a0_1).f0) ++ (⟨#[32]⟩:ByteArray)) ++ s) else none else none) else none) else none)
 else none
set_option maxHeartbeats 8000000 in
set_option maxRecDepth 100000 in
theorem jpa.calls (a0_0 a0_1 a0_2 : Int) (A1_0 : Option Addr) (c1_0 : Nat) (l1_0 : List (S63)) (r : ByteArray) (w : World) (hr1_0 : Kd.C k63 w A1_0 l1_0.length l1_0) (hc1_0 : l1_0.length ≤ c1_0) (h : jpa.f a0_0 a0_1 a0_2 l1_0 = some r) :
  Calls Tryd.prog 19 #[.agg #[.int .i64 a0_0, .int .i64 a0_1, .int .i64 a0_2], .agg #[.slice A1_0 l1_0.length c1_0]] w fun e w'=>e=.returned (.string r)∧Below w.heap.size w w':=by
 have hu31:=Tryd.underlying31
 have hu42:=Tryd.underlying42
 have hu63:=Tryd.underlying63
 have hmx:Tryd.prog.follows .mixedOrders=true:=by kernel_rfl
 unfold jpa.f at h
 by_cases e0:a0_0=0
 ·subst e0
  rw [if_pos rfl] at h
  obtain ⟨d,hd,h⟩:=bzS h
  by_cases hz:d.size≤1000
  case neg=>rw [if_neg hz] at h;cases h
  rw [if_pos hz] at h
  have HZ:=am (Option.some.inj h)
  have HI:=am hd
  clear h hd
  have z0:5+d.size≤9223372036854775807:=by omega
  have z1:=ezT z0
  have z2:=dzT z0
  have z3:(9223372036854775807<5+d.size)=False:=eq_false (Nat.not_lt.2 z0)
  have y0:4+1+d.size≤9223372036854775807:=by omega
  have y1:=ezT y0
  have y2:=dzT y0
  have y3:(9223372036854775807<4+1+d.size)=False:=eq_false (Nat.not_lt.2 y0)
  have hB2:Below w.heap.size w ((w.alloc (.cells #[.int .i64 0, .int .i64 a0_1, .int .i64 a0_2] 42)).alloc (.cells #[.slice A1_0 l1_0.length c1_0] 31)):=((Below.refl w.heap.size w).alloc (Nat.le_refl _) _).alloc (by simp) _
  have BX:=jC (jB (heap_alloc_new w (.cells #[.int .i64 0, .int .i64 a0_1, .int .i64 a0_2] 42)) (.cells #[.slice A1_0 l1_0.length c1_0] 31))
  have BT:=jC (show ((w.alloc (.cells #[.int .i64 0, .int .i64 a0_1, .int .i64 a0_2] 42)).alloc (.cells #[.slice A1_0 l1_0.length c1_0] 31)).heap[w.heap.size+1]?=some (.cells #[.slice A1_0 l1_0.length c1_0] 31 (0,0)) by have h:=heap_alloc_new (w.alloc (.cells #[.int .i64 0, .int .i64 a0_1, .int .i64 a0_2] 42)) (.cells #[.slice A1_0 l1_0.length c1_0] 31);simpa only [World.size_alloc] using h)
  go_enter Tryd.func19,Tryd.ntmps19
  go_wp2
  refine wp_region_held (S:=(fun W':World=>W'.cell? ⟨w.heap.size,0,none⟩=some (.int .i64 0))) hmx ?_
  change wpAnyH _ _ _ _ _ _ _ _ (World.drew ((w.alloc (.cells #[.int .i64 0, .int .i64 a0_1, .int .i64 a0_2] 42)).alloc (.cells #[.slice A1_0 l1_0.length c1_0] 31)))
  have hS0:(fun W':World=>W'.cell? ⟨w.heap.size,0,none⟩=some (.int .i64 0)) (World.drew ((w.alloc (.cells #[.int .i64 0, .int .i64 a0_1, .int .i64 a0_2] 42)).alloc (.cells #[.slice A1_0 l1_0.length c1_0] 31))):=xt0 BX
  refine wpAnyH_take (i:=1) (v:=?_) rfl (by kernel_rfl) (by kernel_rfl) (by kernel_rfl) (fun _ _ _ h=>h) (Or.inl ⟨by rfl,?_⟩) hS0 ?_
  rotate_left
  ·rintro W' s1
   go_simp
   with_reducible rfl
  refine wpAnyH_take (i:=2) (v:=?_) rfl (by kernel_rfl) (by kernel_rfl) (by kernel_rfl) (fun _ _ _ h=>h) (Or.inl ⟨by rfl,?_⟩) hS0 ?_
  rotate_left
  ·rintro W' s1
   go_simp
   with_reducible rfl
  refine wpAnyH_all (rs:=[0]) (by kernel_rfl) (by simp) ?_
  intro ii hii
  obtain rfl:ii=0:=by simpa using hii
  clear hii
  refine wpOp_step rfl (fun K hK=>?_)
  go_simp
  refine (jta.calls _ _ rfl).mono ?_
  rintro e w4 ⟨v,rfl,hR,hb4⟩
  obtain ⟨Ao,co,eo⟩:=Kd.jQa hR
  subst eo
  obtain ⟨ad,rfl,hx⟩:=Kd.at_string (Kd.jea hR).2.2 (0:Int) (by decide) (by decide)
  have hx2:w4.cell? (ad.add 0)=some (.string (⟨#[99,97,108,108]⟩:ByteArray)):=hx
  have hx3:w4.cell? ad=some (.string (⟨#[99,97,108,108]⟩:ByteArray)):=by have h:=hx2;rw [add_zero_] at h;exact h
  have hS1:=jW hb4 hS0
  have BX4:=jc BX hb4
  have BT4:=jc BT hb4
  have hB4:=am (jb (jOa hB2) hb4)
  clear hR hx
  refine hK _ _ ⟨hS1,?_⟩
  clear hK K
  refine wpAnyH_take (i:=3) (v:=?_) rfl (by kernel_rfl) (by kernel_rfl) (by kernel_rfl) (fun _ _ _ h=>h) (Or.inl ⟨by rfl,?_⟩) hS1 ?_
  rotate_left
  ·rintro W' s1
   go_simp
   with_reducible rfl
  refine wpAnyH_all (rs:=[4]) (by kernel_rfl) (by simp) ?_
  intro ii hii
  obtain rfl:ii=4:=by simpa using hii
  clear hii
  refine wpOp_step rfl (fun K hK=>?_)
  go_simp
  refine hK _ _ ⟨hS1,?_⟩
  clear hK K
  refine wpAnyH_take (i:=5) (v:=?_) rfl (by kernel_rfl) (by kernel_rfl) (by kernel_rfl) (fun _ _ _ h=>h) (Or.inl ⟨by rfl,?_⟩) hS1 ?_
  rotate_left
  ·rintro W' s1
   go_simp
   with_reducible rfl
  refine wpAnyH_take (i:=6) (v:=?_) rfl (by kernel_rfl) (by kernel_rfl) (by kernel_rfl) (fun _ _ _ h=>h) (Or.inl ⟨by rfl,?_⟩) hS1 ?_
  rotate_left
  ·rintro W' s1
   go_simp
   with_reducible rfl
  refine wpAnyH_done (by kernel_rfl) ?_ _
  rename_i K9 hK9
  refine hK9 _ _ ?_
  clear hK9
  go_simp
  have c0:=xt0 BX4
  have c1:=xt1 BX4
  have c2:=xt2 BX4
  have cT:=xt0 BT4
  clear hS0 hS1 BX BT hx2 hx3
  go_wp2_with (go_at_call 34;refine (strconv_Itoa.calls _ _ _ HI.out).mono ?_;rintro e w' ⟨rfl,⟨nd,rfl⟩⟩)
  go_ret
  exact ⟨by rw [← HZ.out];rfl,Y21⟩
 ·rw [if_neg e0] at h
  by_cases e1:a0_0=1
  ·subst e1
   rw [if_pos rfl] at h
   obtain ⟨d,hd,h⟩:=bzS h
   by_cases hz:d.size≤1000
   case neg=>rw [if_neg hz] at h;cases h
   rw [if_pos hz] at h
   have HZ:=am (Option.some.inj h)
   have HI:=am hd
   clear h hd
   have z0:5+d.size≤9223372036854775807:=by omega
   have z1:=ezT z0
   have z2:=dzT z0
   have z3:(9223372036854775807<5+d.size)=False:=eq_false (Nat.not_lt.2 z0)
   have y0:4+1+d.size≤9223372036854775807:=by omega
   have y1:=ezT y0
   have y2:=dzT y0
   have y3:(9223372036854775807<4+1+d.size)=False:=eq_false (Nat.not_lt.2 y0)
   have hB2:Below w.heap.size w ((w.alloc (.cells #[.int .i64 1, .int .i64 a0_1, .int .i64 a0_2] 42)).alloc (.cells #[.slice A1_0 l1_0.length c1_0] 31)):=((Below.refl w.heap.size w).alloc (Nat.le_refl _) _).alloc (by simp) _
   have BX:=jC (jB (heap_alloc_new w (.cells #[.int .i64 1, .int .i64 a0_1, .int .i64 a0_2] 42)) (.cells #[.slice A1_0 l1_0.length c1_0] 31))
   have BT:=jC (show ((w.alloc (.cells #[.int .i64 1, .int .i64 a0_1, .int .i64 a0_2] 42)).alloc (.cells #[.slice A1_0 l1_0.length c1_0] 31)).heap[w.heap.size+1]?=some (.cells #[.slice A1_0 l1_0.length c1_0] 31 (0,0)) by have h:=heap_alloc_new (w.alloc (.cells #[.int .i64 1, .int .i64 a0_1, .int .i64 a0_2] 42)) (.cells #[.slice A1_0 l1_0.length c1_0] 31);simpa only [World.size_alloc] using h)
   go_enter Tryd.func19,Tryd.ntmps19
   go_wp2
   refine wp_region_held (S:=(fun W':World=>W'.cell? ⟨w.heap.size,0,none⟩=some (.int .i64 1))) hmx ?_
   change wpAnyH _ _ _ _ _ _ _ _ (World.drew ((w.alloc (.cells #[.int .i64 1, .int .i64 a0_1, .int .i64 a0_2] 42)).alloc (.cells #[.slice A1_0 l1_0.length c1_0] 31)))
   have hS0:(fun W':World=>W'.cell? ⟨w.heap.size,0,none⟩=some (.int .i64 1)) (World.drew ((w.alloc (.cells #[.int .i64 1, .int .i64 a0_1, .int .i64 a0_2] 42)).alloc (.cells #[.slice A1_0 l1_0.length c1_0] 31))):=xt0 BX
   refine wpAnyH_take (i:=1) (v:=?_) rfl (by kernel_rfl) (by kernel_rfl) (by kernel_rfl) (fun _ _ _ h=>h) (Or.inl ⟨by rfl,?_⟩) hS0 ?_
   rotate_left
   ·rintro W' s1
    go_simp
    with_reducible rfl
   refine wpAnyH_take (i:=2) (v:=?_) rfl (by kernel_rfl) (by kernel_rfl) (by kernel_rfl) (fun _ _ _ h=>h) (Or.inl ⟨by rfl,?_⟩) hS0 ?_
   rotate_left
   ·rintro W' s1
    go_simp
    with_reducible rfl
   refine wpAnyH_all (rs:=[0]) (by kernel_rfl) (by simp) ?_
   intro ii hii
   obtain rfl:ii=0:=by simpa using hii
   clear hii
   refine wpOp_step rfl (fun K hK=>?_)
   go_simp
   refine (jta.calls _ _ rfl).mono ?_
   rintro e w4 ⟨v,rfl,hR,hb4⟩
   obtain ⟨Ao,co,eo⟩:=Kd.jQa hR
   subst eo
   obtain ⟨ad,rfl,hx⟩:=Kd.at_string (Kd.jea hR).2.2 (1:Int) (by decide) (by decide)
   have hx2:w4.cell? (ad.add 1)=some (.string (⟨#[116,101,108,108]⟩:ByteArray)):=hx
   have hx3:w4.cell? ⟨ad.block,ad.off+1,none⟩=some (.string (⟨#[116,101,108,108]⟩:ByteArray)):=by have h:=hx2;rw [show ad.add 1=⟨ad.block,ad.off+1,none⟩ by simp [Addr.add]] at h;exact h
   have hS1:=jW hb4 hS0
   have BX4:=jc BX hb4
   have BT4:=jc BT hb4
   have hB4:=am (jb (jOa hB2) hb4)
   clear hR hx
   refine hK _ _ ⟨hS1,?_⟩
   clear hK K
   refine wpAnyH_take (i:=3) (v:=?_) rfl (by kernel_rfl) (by kernel_rfl) (by kernel_rfl) (fun _ _ _ h=>h) (Or.inl ⟨by rfl,?_⟩) hS1 ?_
   rotate_left
   ·rintro W' s1
    go_simp
    with_reducible rfl
   refine wpAnyH_all (rs:=[4]) (by kernel_rfl) (by simp) ?_
   intro ii hii
   obtain rfl:ii=4:=by simpa using hii
   clear hii
   refine wpOp_step rfl (fun K hK=>?_)
   go_simp
   refine hK _ _ ⟨hS1,?_⟩
   clear hK K
   refine wpAnyH_take (i:=5) (v:=?_) rfl (by kernel_rfl) (by kernel_rfl) (by kernel_rfl) (fun _ _ _ h=>h) (Or.inl ⟨by rfl,?_⟩) hS1 ?_
   rotate_left
   ·rintro W' s1
    go_simp
    with_reducible rfl
   refine wpAnyH_take (i:=6) (v:=?_) rfl (by kernel_rfl) (by kernel_rfl) (by kernel_rfl) (fun _ _ _ h=>h) (Or.inl ⟨by rfl,?_⟩) hS1 ?_
   rotate_left
   ·rintro W' s1
    go_simp
    with_reducible rfl
   refine wpAnyH_done (by kernel_rfl) ?_ _
   rename_i K9 hK9
   refine hK9 _ _ ?_
   clear hK9
   go_simp
   have c0:=xt0 BX4
   have c1:=xt1 BX4
   have c2:=xt2 BX4
   have cT:=xt0 BT4
   clear hS0 hS1 BX BT hx2 hx3
   go_wp2_with (go_at_call 34;refine (strconv_Itoa.calls _ _ _ HI.out).mono ?_;rintro e w' ⟨rfl,⟨nd,rfl⟩⟩)
   go_ret
   exact ⟨by rw [← HZ.out];rfl,Y21⟩
  ·rw [if_neg e1] at h
   by_cases e2:a0_0=2
   ·subst e2
    rw [if_pos rfl] at h
    by_cases g0:0≤a0_1
    case neg=>rw [if_neg g0] at h;cases h
    rw [if_pos g0] at h
    by_cases g1:a0_1<(l1_0.length:Int)
    case neg=>rw [if_neg g1] at h;cases h
    rw [if_pos g1] at h
    by_cases g2:(jg l1_0 a0_1).f0.size≤2000000
    case neg=>rw [if_neg g2] at h;cases h
    rw [if_pos g2] at h
    have HZ:=am (Option.some.inj h)
    clear h
    generalize hN:(jg l1_0 a0_1).f0=N at *
    have z0:6+N.size≤9223372036854775807:=by omega
    have z1:=ezT z0
    have z2:=dzT z0
    have z3:(9223372036854775807<6+N.size)=False:=eq_false (Nat.not_lt.2 z0)
    have y0:5+1+N.size≤9223372036854775807:=by omega
    have y1:=ezT y0
    have y2:=dzT y0
    have y3:(9223372036854775807<5+1+N.size)=False:=eq_false (Nat.not_lt.2 y0)
    have p0:=ezT g0
    have p1:=ezT g1
    have hB2:Below w.heap.size w ((w.alloc (.cells #[.int .i64 2, .int .i64 a0_1, .int .i64 a0_2] 42)).alloc (.cells #[.slice A1_0 l1_0.length c1_0] 31)):=((Below.refl w.heap.size w).alloc (Nat.le_refl _) _).alloc (by simp) _
    have BX:=jC (jB (heap_alloc_new w (.cells #[.int .i64 2, .int .i64 a0_1, .int .i64 a0_2] 42)) (.cells #[.slice A1_0 l1_0.length c1_0] 31))
    have BT:=jC (show ((w.alloc (.cells #[.int .i64 2, .int .i64 a0_1, .int .i64 a0_2] 42)).alloc (.cells #[.slice A1_0 l1_0.length c1_0] 31)).heap[w.heap.size+1]?=some (.cells #[.slice A1_0 l1_0.length c1_0] 31 (0,0)) by have h:=heap_alloc_new (w.alloc (.cells #[.int .i64 2, .int .i64 a0_1, .int .i64 a0_2] 42)) (.cells #[.slice A1_0 l1_0.length c1_0] 31);simpa only [World.size_alloc] using h)
    go_enter Tryd.func19,Tryd.ntmps19
    go_wp2
    refine wp_region_held (S:=(fun W':World=>W'.cell? ⟨w.heap.size,0,none⟩=some (.int .i64 2))) hmx ?_
    change wpAnyH _ _ _ _ _ _ _ _ (World.drew ((w.alloc (.cells #[.int .i64 2, .int .i64 a0_1, .int .i64 a0_2] 42)).alloc (.cells #[.slice A1_0 l1_0.length c1_0] 31)))
    have hS0:(fun W':World=>W'.cell? ⟨w.heap.size,0,none⟩=some (.int .i64 2)) (World.drew ((w.alloc (.cells #[.int .i64 2, .int .i64 a0_1, .int .i64 a0_2] 42)).alloc (.cells #[.slice A1_0 l1_0.length c1_0] 31))):=xt0 BX
    refine wpAnyH_take (i:=1) (v:=?_) rfl (by kernel_rfl) (by kernel_rfl) (by kernel_rfl) (fun _ _ _ h=>h) (Or.inl ⟨by rfl,?_⟩) hS0 ?_
    rotate_left
    ·rintro W' s1
     go_simp
     with_reducible rfl
    refine wpAnyH_take (i:=2) (v:=?_) rfl (by kernel_rfl) (by kernel_rfl) (by kernel_rfl) (fun _ _ _ h=>h) (Or.inl ⟨by rfl,?_⟩) hS0 ?_
    rotate_left
    ·rintro W' s1
     go_simp
     with_reducible rfl
    refine wpAnyH_all (rs:=[0]) (by kernel_rfl) (by simp) ?_
    intro ii hii
    obtain rfl:ii=0:=by simpa using hii
    clear hii
    refine wpOp_step rfl (fun K hK=>?_)
    go_simp
    refine (jta.calls _ _ rfl).mono ?_
    rintro e w4 ⟨v,rfl,hR,hb4⟩
    obtain ⟨Ao,co,eo⟩:=Kd.jQa hR
    subst eo
    obtain ⟨ad,rfl,hx⟩:=Kd.at_string (Kd.jea hR).2.2 (2:Int) (by decide) (by decide)
    have hx2:w4.cell? (ad.add 2)=some (.string (⟨#[99,97,116,99,104]⟩:ByteArray)):=hx
    have hx3:w4.cell? ⟨ad.block,ad.off+2,none⟩=some (.string (⟨#[99,97,116,99,104]⟩:ByteArray)):=by have h:=hx2;rw [show ad.add 2=⟨ad.block,ad.off+2,none⟩ by simp [Addr.add]] at h;exact h
    have hS1:=jW hb4 hS0
    have BX4:=jc BX hb4
    have BT4:=jc BT hb4
    have hB4:=am (jb (jOa hB2) hb4)
    clear hR hx
    refine hK _ _ ⟨hS1,?_⟩
    clear hK K
    refine wpAnyH_take (i:=3) (v:=?_) rfl (by kernel_rfl) (by kernel_rfl) (by kernel_rfl) (fun _ _ _ h=>h) (Or.inl ⟨by rfl,?_⟩) hS1 ?_
    rotate_left
    ·rintro W' s1
     go_simp
     with_reducible rfl
    refine wpAnyH_all (rs:=[4]) (by kernel_rfl) (by simp) ?_
    intro ii hii
    obtain rfl:ii=4:=by simpa using hii
    clear hii
    refine wpOp_step rfl (fun K hK=>?_)
    go_simp
    refine hK _ _ ⟨hS1,?_⟩
    clear hK K
    refine wpAnyH_take (i:=5) (v:=?_) rfl (by kernel_rfl) (by kernel_rfl) (by kernel_rfl) (fun _ _ _ h=>h) (Or.inl ⟨by rfl,?_⟩) hS1 ?_
    rotate_left
    ·rintro W' s1
     go_simp
     with_reducible rfl
    refine wpAnyH_take (i:=6) (v:=?_) rfl (by kernel_rfl) (by kernel_rfl) (by kernel_rfl) (fun _ _ _ h=>h) (Or.inl ⟨by rfl,?_⟩) hS1 ?_
    rotate_left
    ·rintro W' s1
     go_simp
     with_reducible rfl
    refine wpAnyH_done (by kernel_rfl) ?_ _
    rename_i K9 hK9
    refine hK9 _ _ ?_
    clear hK9
    go_simp
    have c0:=xt0 BX4
    have c1:=xt1 BX4
    have c2:=xt2 BX4
    have cT:=xt0 BT4
    clear hS0 hS1 BX BT hx2 hx3
    obtain ⟨ad2,rfl,y4,y5⟩:=jKa (Kd.jD hr1_0 hB4.out) a0_1 g0 g1
    rw [hN] at y4
    go_wp2
    go_ret
    exact ⟨by rw [← HZ.out];rfl,Y21⟩
   ·rw [if_neg e2] at h
    by_cases e3:a0_0=3
    ·subst e3
     rw [if_pos rfl] at h
     by_cases g0:0≤a0_1
     case neg=>rw [if_neg g0] at h;cases h
     rw [if_pos g0] at h
     by_cases g1:a0_1<(l1_0.length:Int)
     case neg=>rw [if_neg g1] at h;cases h
     rw [if_pos g1] at h
     by_cases g2:(jg l1_0 a0_1).f0.size≤2000000
     case neg=>rw [if_neg g2] at h;cases h
     rw [if_pos g2] at h
     obtain ⟨d,hd,h⟩:=bzS h
     by_cases hz:d.size≤1000
     case neg=>rw [if_neg hz] at h;cases h
     rw [if_pos hz] at h
     have HI:=am hd
     clear hd
     have HZ:=am (Option.some.inj h)
     clear h
     generalize hN:(jg l1_0 a0_1).f0=N at *
     have z0:6+N.size≤9223372036854775807:=by omega
     have z1:=ezT z0
     have z2:=dzT z0
     have z3:(9223372036854775807<6+N.size)=False:=eq_false (Nat.not_lt.2 z0)
     have y0:5+1+N.size≤9223372036854775807:=by omega
     have y1:=ezT y0
     have y2:=dzT y0
     have y3:(9223372036854775807<5+1+N.size)=False:=eq_false (Nat.not_lt.2 y0)
     have x0:6+N.size+1≤9223372036854775807:=by omega
     have x1:=ezT x0
     have x2:=dzT x0
     have x3:(9223372036854775807<6+N.size+1)=False:=eq_false (Nat.not_lt.2 x0)
     have u0:5+1+N.size+1≤9223372036854775807:=by omega
     have u1:=ezT u0
     have u2:=dzT u0
     have u3:(9223372036854775807<5+1+N.size+1)=False:=eq_false (Nat.not_lt.2 u0)
     have v0:6+N.size+1+d.size≤9223372036854775807:=by omega
     have v1:=ezT v0
     have v2:=dzT v0
     have v3:(9223372036854775807<6+N.size+1+d.size)=False:=eq_false (Nat.not_lt.2 v0)
     have t0:5+1+N.size+1+d.size≤9223372036854775807:=by omega
     have t1:=ezT t0
     have t2:=dzT t0
     have t3:(9223372036854775807<5+1+N.size+1+d.size)=False:=eq_false (Nat.not_lt.2 t0)
     have p0:=ezT g0
     have p1:=ezT g1
     have hB2:Below w.heap.size w ((w.alloc (.cells #[.int .i64 3, .int .i64 a0_1, .int .i64 a0_2] 42)).alloc (.cells #[.slice A1_0 l1_0.length c1_0] 31)):=((Below.refl w.heap.size w).alloc (Nat.le_refl _) _).alloc (by simp) _
     have BX:=jC (jB (heap_alloc_new w (.cells #[.int .i64 3, .int .i64 a0_1, .int .i64 a0_2] 42)) (.cells #[.slice A1_0 l1_0.length c1_0] 31))
     have BT:=jC (show ((w.alloc (.cells #[.int .i64 3, .int .i64 a0_1, .int .i64 a0_2] 42)).alloc (.cells #[.slice A1_0 l1_0.length c1_0] 31)).heap[w.heap.size+1]?=some (.cells #[.slice A1_0 l1_0.length c1_0] 31 (0,0)) by have h:=heap_alloc_new (w.alloc (.cells #[.int .i64 3, .int .i64 a0_1, .int .i64 a0_2] 42)) (.cells #[.slice A1_0 l1_0.length c1_0] 31);simpa only [World.size_alloc] using h)
     go_enter Tryd.func19,Tryd.ntmps19
     go_wp2
     refine wp_region_held (S:=(fun W':World=>W'.cell? ⟨w.heap.size,0,none⟩=some (.int .i64 3))) hmx ?_
     change wpAnyH _ _ _ _ _ _ _ _ (World.drew ((w.alloc (.cells #[.int .i64 3, .int .i64 a0_1, .int .i64 a0_2] 42)).alloc (.cells #[.slice A1_0 l1_0.length c1_0] 31)))
     have hS0:(fun W':World=>W'.cell? ⟨w.heap.size,0,none⟩=some (.int .i64 3)) (World.drew ((w.alloc (.cells #[.int .i64 3, .int .i64 a0_1, .int .i64 a0_2] 42)).alloc (.cells #[.slice A1_0 l1_0.length c1_0] 31))):=xt0 BX
     refine wpAnyH_take (i:=1) (v:=?_) rfl (by kernel_rfl) (by kernel_rfl) (by kernel_rfl) (fun _ _ _ h=>h) (Or.inl ⟨by rfl,?_⟩) hS0 ?_
     rotate_left
     ·rintro W' s1
      go_simp
      with_reducible rfl
     refine wpAnyH_take (i:=2) (v:=?_) rfl (by kernel_rfl) (by kernel_rfl) (by kernel_rfl) (fun _ _ _ h=>h) (Or.inl ⟨by rfl,?_⟩) hS0 ?_
     rotate_left
     ·rintro W' s1
      go_simp
      with_reducible rfl
     refine wpAnyH_all (rs:=[0]) (by kernel_rfl) (by simp) ?_
     intro ii hii
     obtain rfl:ii=0:=by simpa using hii
     clear hii
     refine wpOp_step rfl (fun K hK=>?_)
     go_simp
     refine (jta.calls _ _ rfl).mono ?_
     rintro e w4 ⟨v,rfl,hR,hb4⟩
     obtain ⟨Ao,co,eo⟩:=Kd.jQa hR
     subst eo
     obtain ⟨ad,rfl,hx⟩:=Kd.at_string (Kd.jea hR).2.2 (3:Int) (by decide) (by decide)
     have hx2:w4.cell? (ad.add 3)=some (.string (⟨#[114,97,105,115,101]⟩:ByteArray)):=hx
     have hx3:w4.cell? ⟨ad.block,ad.off+3,none⟩=some (.string (⟨#[114,97,105,115,101]⟩:ByteArray)):=by have h:=hx2;rw [show ad.add 3=⟨ad.block,ad.off+3,none⟩ by simp [Addr.add]] at h;exact h
     have hS1:=jW hb4 hS0
     have BX4:=jc BX hb4
     have BT4:=jc BT hb4
     have hB4:=am (jb (jOa hB2) hb4)
     clear hR hx
     refine hK _ _ ⟨hS1,?_⟩
     clear hK K
     refine wpAnyH_take (i:=3) (v:=?_) rfl (by kernel_rfl) (by kernel_rfl) (by kernel_rfl) (fun _ _ _ h=>h) (Or.inl ⟨by rfl,?_⟩) hS1 ?_
     rotate_left
     ·rintro W' s1
      go_simp
      with_reducible rfl
     refine wpAnyH_all (rs:=[4]) (by kernel_rfl) (by simp) ?_
     intro ii hii
     obtain rfl:ii=4:=by simpa using hii
     clear hii
     refine wpOp_step rfl (fun K hK=>?_)
     go_simp
     refine hK _ _ ⟨hS1,?_⟩
     clear hK K
     refine wpAnyH_take (i:=5) (v:=?_) rfl (by kernel_rfl) (by kernel_rfl) (by kernel_rfl) (fun _ _ _ h=>h) (Or.inl ⟨by rfl,?_⟩) hS1 ?_
     rotate_left
     ·rintro W' s1
      go_simp
      with_reducible rfl
     refine wpAnyH_take (i:=6) (v:=?_) rfl (by kernel_rfl) (by kernel_rfl) (by kernel_rfl) (fun _ _ _ h=>h) (Or.inl ⟨by rfl,?_⟩) hS1 ?_
     rotate_left
     ·rintro W' s1
      go_simp
      with_reducible rfl
     refine wpAnyH_done (by kernel_rfl) ?_ _
     rename_i K9 hK9
     refine hK9 _ _ ?_
     clear hK9
     go_simp
     have c0:=xt0 BX4
     have c1:=xt1 BX4
     have c2:=xt2 BX4
     have cT:=xt0 BT4
     clear hS0 hS1 BX BT hx2 hx3
     obtain ⟨ad2,rfl,y4,y5⟩:=jKa (Kd.jD hr1_0 hB4.out) a0_1 g0 g1
     rw [hN] at y4
     go_wp2
     refine wp_region_held (S:=(fun W':World=>W'.cell? ⟨w.heap.size+1,0,none⟩=some (.slice (some ad2) l1_0.length c1_0)∧W'.cell? ⟨w.heap.size,1,none⟩=some (.int .i64 a0_1)∧W'.cell? ⟨w.heap.size,2,none⟩=some (.int .i64 a0_2)∧W'.cell? (ad2.add (a0_1.toNat * 2))=some (.string N))) hmx ?_
     change wpAnyH _ _ _ _ _ _ _ _ (World.drew w4)
     have hS8:(fun W':World=>W'.cell? ⟨w.heap.size+1,0,none⟩=some (.slice (some ad2) l1_0.length c1_0)∧W'.cell? ⟨w.heap.size,1,none⟩=some (.int .i64 a0_1)∧W'.cell? ⟨w.heap.size,2,none⟩=some (.int .i64 a0_2)∧W'.cell? (ad2.add (a0_1.toNat * 2))=some (.string N)) (World.drew w4):=⟨cT,c1,c2,y4⟩
     refine wpAnyH_take (i:=0) (v:=?_) rfl (by kernel_rfl) (by kernel_rfl) (by kernel_rfl) (fun _ _ _ h=>h) (Or.inl ⟨by rfl,?_⟩) hS8 ?_
     rotate_left
     ·rintro W' ⟨s1,s2,s3,s4⟩
      go_simp
      with_reducible rfl
     refine wpAnyH_take (i:=1) (v:=?_) rfl (by kernel_rfl) (by kernel_rfl) (by kernel_rfl) (fun _ _ _ h=>h) (Or.inl ⟨by rfl,?_⟩) hS8 ?_
     rotate_left
     ·rintro W' ⟨s1,s2,s3,s4⟩
      go_simp
      with_reducible rfl
     refine wpAnyH_take (i:=2) (v:=?_) rfl (by kernel_rfl) (by kernel_rfl) (by kernel_rfl) (fun _ _ _ h=>h) (Or.inl ⟨by rfl,?_⟩) hS8 ?_
     rotate_left
     ·rintro W' ⟨s1,s2,s3,s4⟩
      go_simp
      with_reducible rfl
     refine wpAnyH_take (i:=3) (v:=?_) rfl (by kernel_rfl) (by kernel_rfl) (by kernel_rfl) (fun _ _ _ h=>h) (Or.inl ⟨by rfl,?_⟩) hS8 ?_
     rotate_left
     ·rintro W' ⟨s1,s2,s3,s4⟩
      go_simp
      with_reducible rfl
     refine wpAnyH_take (i:=4) (v:=?_) rfl (by kernel_rfl) (by kernel_rfl) (by kernel_rfl) (fun _ _ _ h=>h) (Or.inl ⟨by rfl,?_⟩) hS8 ?_
     rotate_left
     ·rintro W' ⟨s1,s2,s3,s4⟩
      go_simp
      with_reducible rfl
     refine wpAnyH_take (i:=5) (v:=?_) rfl (by kernel_rfl) (by kernel_rfl) (by kernel_rfl) (fun _ _ _ h=>h) (Or.inl ⟨by rfl,?_⟩) hS8 ?_
     rotate_left
     ·rintro W' ⟨s1,s2,s3,s4⟩
      go_simp
      with_reducible rfl
     refine wpAnyH_take (i:=6) (v:=?_) rfl (by kernel_rfl) (by kernel_rfl) (by kernel_rfl) (fun _ _ _ h=>h) (Or.inl ⟨by rfl,?_⟩) hS8 ?_
     rotate_left
     ·rintro W' ⟨s1,s2,s3,s4⟩
      go_simp
      with_reducible rfl
     refine wpAnyH_take (i:=7) (v:=?_) rfl (by kernel_rfl) (by kernel_rfl) (by kernel_rfl) (fun _ _ _ h=>h) (Or.inl ⟨by rfl,?_⟩) hS8 ?_
     rotate_left
     ·rintro W' ⟨s1,s2,s3,s4⟩
      go_simp
      with_reducible rfl
     refine wpAnyH_take (i:=8) (v:=?_) rfl (by kernel_rfl) (by kernel_rfl) (by kernel_rfl) (fun _ _ _ h=>h) (Or.inl ⟨by rfl,?_⟩) hS8 ?_
     rotate_left
     ·rintro W' ⟨s1,s2,s3,s4⟩
      go_simp
      with_reducible rfl
     refine wpAnyH_take (i:=9) (v:=?_) rfl (by kernel_rfl) (by kernel_rfl) (by kernel_rfl) (fun _ _ _ h=>h) (Or.inl ⟨by rfl,?_⟩) hS8 ?_
     rotate_left
     ·rintro W' ⟨s1,s2,s3,s4⟩
      go_simp
      with_reducible rfl
     refine wpAnyH_take (i:=10) (v:=?_) rfl (by kernel_rfl) (by kernel_rfl) (by kernel_rfl) (fun _ _ _ h=>h) (Or.inl ⟨by rfl,?_⟩) hS8 ?_
     rotate_left
     ·rintro W' ⟨s1,s2,s3,s4⟩
      go_simp
      with_reducible rfl
     refine wpAnyH_take (i:=11) (v:=?_) rfl (by kernel_rfl) (by kernel_rfl) (by kernel_rfl) (fun _ _ _ h=>h) (Or.inl ⟨by rfl,?_⟩) hS8 ?_
     rotate_left
     ·rintro W' ⟨s1,s2,s3,s4⟩
      go_simp
      with_reducible rfl
     refine wpAnyH_all (rs:=[12]) (by kernel_rfl) (by simp) ?_
     intro ii hii
     obtain rfl:ii=12:=by simpa using hii
     clear hii
     refine wpOp_step rfl (fun K hK=>?_)
     go_simp
     refine (strconv_Itoa.calls _ _ _ HI.out).mono ?_
     rintro e w' ⟨rfl,⟨nd,rfl⟩⟩
     have hS9:(fun W':World=>W'.cell? ⟨w.heap.size+1,0,none⟩=some (.slice (some ad2) l1_0.length c1_0)∧W'.cell? ⟨w.heap.size,1,none⟩=some (.int .i64 a0_1)∧W'.cell? ⟨w.heap.size,2,none⟩=some (.int .i64 a0_2)∧W'.cell? (ad2.add (a0_1.toNat * 2))=some (.string N)) ((World.drew w4).drewN nd):=hS8
     refine hK _ _ ⟨hS9,?_⟩
     clear hK K
     refine wpAnyH_take (i:=13) (v:=?_) rfl (by kernel_rfl) (by kernel_rfl) (by kernel_rfl) (fun _ _ _ h=>h) (Or.inl ⟨by rfl,?_⟩) hS9 ?_
     rotate_left
     ·rintro W' ⟨s1,s2,s3,s4⟩
      go_simp
      with_reducible rfl
     refine wpAnyH_take (i:=14) (v:=?_) rfl (by kernel_rfl) (by kernel_rfl) (by kernel_rfl) (fun _ _ _ h=>h) (Or.inl ⟨by rfl,?_⟩) hS9 ?_
     rotate_left
     ·rintro W' ⟨s1,s2,s3,s4⟩
      go_simp
      with_reducible rfl
     refine wpAnyH_done (by kernel_rfl) ?_ _
     rename_i K9 hK9
     refine hK9 _ _ ?_
     clear hK9
     go_simp
     go_wp2
     go_ret
     exact ⟨by rw [← HZ.out];rfl,Y21⟩
    ·rw [if_neg e3] at h;cases h
def sh166_ren : Go.Shelf.Ren := ⟨fun | 166 => 18 | 240 => 32 | 276 => 47 | n => n, fun | 0 => 0 | 3 => 3 | 4 => 4 | 5 => 5 | 9 => 9 | 20 => 20 | 37 => 46 | 70 => 45 | 72 => 48 | 75 => 50 | 80 => 54 | 164 => 79 | n => n, fun | n => n⟩
theorem sh166 : Go.Proofs.Lays.n166 Tryd.prog sh166_ren := {
 mixed:=by kernel_rfl
 f166:=Tryd.func18.trans (congrArg some (by kernel_rfl))
 f240:=Tryd.func32.trans (congrArg some (by kernel_rfl))
 f276:=Tryd.func47.trans (congrArg some (by kernel_rfl))
 t0:=Tryd.underlying0
 a0:=Tryd.isAgg0
 z0:=Tryd.sizeOf0
 v0:=Tryd.zeroValue0
 t3:=Tryd.underlying3
 a3:=Tryd.isAgg3
 z3:=Tryd.sizeOf3
 v3:=Tryd.zeroValue3
 t4:=Tryd.underlying4
 a4:=Tryd.isAgg4
 z4:=Tryd.sizeOf4
 v4:=Tryd.zeroValue4
 t9:=Tryd.underlying9
 a9:=Tryd.isAgg9
 z9:=Tryd.sizeOf9
 v9:=Tryd.zeroValue9
 t20:=Tryd.underlying20
 a20:=Tryd.isAgg20
 z20:=Tryd.sizeOf20
 v20:=Tryd.zeroValue20
 t37:=Tryd.underlying46
 a37:=Tryd.isAgg46
 z37:=Tryd.sizeOf46
 v37:=Tryd.zeroValue46
 t70:=Tryd.underlying45
 a70:=Tryd.isAgg45
 z70:=Tryd.sizeOf45
 v70:=Tryd.zeroValue45
 t72:=Tryd.underlying48
 a72:=Tryd.isAgg48
 z72:=Tryd.sizeOf48
 v72:=Tryd.zeroValue48
 t75:=Tryd.underlying50
 a75:=Tryd.isAgg50
 z75:=Tryd.sizeOf50
 v75:=Tryd.zeroValue50
 t164:=Tryd.underlying79
 a164:=Tryd.isAgg79
 z164:=Tryd.sizeOf79
 v164:=Tryd.zeroValue79 }
def sh169_ren : Go.Shelf.Ren := ⟨fun | 169 => 20 | n => n, fun | 70 => 45 | 9 => 9 | 0 => 0 | 72 => 48 | 37 => 46 | 127 => 70 | 3 => 3 | 5 => 5 | n => n, fun | n => n⟩
theorem sh169 : Go.Proofs.Lays.n169 Tryd.prog sh169_ren := {
 mixed:=by kernel_rfl
 f169:=Tryd.func20.trans (congrArg some (by kernel_rfl))
 t0:=Tryd.underlying0
 a0:=Tryd.isAgg0
 z0:=Tryd.sizeOf0
 v0:=Tryd.zeroValue0
 t3:=Tryd.underlying3
 a3:=Tryd.isAgg3
 z3:=Tryd.sizeOf3
 v3:=Tryd.zeroValue3
 t9:=Tryd.underlying9
 a9:=Tryd.isAgg9
 z9:=Tryd.sizeOf9
 v9:=Tryd.zeroValue9
 t37:=Tryd.underlying46
 a37:=Tryd.isAgg46
 z37:=Tryd.sizeOf46
 v37:=Tryd.zeroValue46
 t70:=Tryd.underlying45
 a70:=Tryd.isAgg45
 z70:=Tryd.sizeOf45
 v70:=Tryd.zeroValue45
 t72:=Tryd.underlying48
 a72:=Tryd.isAgg48
 z72:=Tryd.sizeOf48
 v72:=Tryd.zeroValue48
 t127:=Tryd.underlying70
 a127:=Tryd.isAgg70
 z127:=Tryd.sizeOf70
 v127:=Tryd.zeroValue70 }
theorem shX166 : Go.Proofs.Builder.Extra Tryd.prog sh166_ren := { sizeBuilder := by kernel_rfl, liesBuilder := by kernel_rfl, t5 := Tryd.underlying5, a5 := Tryd.isAgg5, z5 := Tryd.sizeOf5, v5 := Tryd.zeroValue5, infoByte := by kernel_rfl, cellsByte := by kernel_rfl, sizeByte := by kernel_rfl, neB5 := by decide }
theorem shX169 : Go.Proofs.Builder.Extra Tryd.prog sh169_ren := { sizeBuilder := by kernel_rfl, liesBuilder := by kernel_rfl, t5 := Tryd.underlying5, a5 := Tryd.isAgg5, z5 := Tryd.sizeOf5, v5 := Tryd.zeroValue5, infoByte := by kernel_rfl, cellsByte := by kernel_rfl, sizeByte := by kernel_rfl, neB5 := by decide }
theorem ownsRow_belowB {W W' : World} {base : Nat} {e : TypeId} {size : Nat} {v : Value} {k : Nat} {xs : List Value} (h : W.ownsRow base e size v k xs) (hb : Below W.heap.size W W') : W'.ownsRow base e size v k xs := by
 refine ⟨h.1,?_⟩
 rcases h.2 with h0 | ⟨g,cap,cur,hv,hg,hgb,rest⟩
 ·exact .inl h0
 ·exact .inr ⟨g,cap,cur,hv,hg,(hb.block g (Array.getElem?_eq_some_iff.1 hgb).1).trans hgb,rest⟩
theorem builder_below {T e : TypeId} {B b : Nat} {bs : List Value} {W W' : World} (h : Lib.IsBuilder T e B b bs W) (hb : Below W.heap.size W W') : Lib.IsBuilder T e B b bs W' := by
 rcases h with ⟨h1,v,h2,h3,h4⟩ | ⟨h1,v,h2,h3,h4⟩
 ·exact .inl ⟨h1,v,(hb.block b (Array.getElem?_eq_some_iff.1 h2).1).trans h2,ownsRow_belowB h3 hb,h4⟩
 ·exact .inr ⟨h1,v,(hb.block b (Array.getElem?_eq_some_iff.1 h2).1).trans h2,ownsRow_belowB h3 hb,h4⟩
theorem builder_write (B b : Nat) (l : List UInt8) (s : ByteArray) (w : World) (h : Lib.IsBuilder 48 5 B b (Lib.byteCells l) w) (hlen : l.length + s.size ≤ 140737488355328) (hBw : B ≤ w.heap.size) :
  Calls Tryd.prog 18 #[.pointer (some ⟨b,0,none⟩), .string s] w fun e w'=>e=.returned (.tuple #[.int .i64 s.size, .nilIface])∧Lib.IsBuilder 48 5 B b (Lib.byteCells (l ++ s.data.toList)) w'∧Below B w w':=by
 have hs:=Go.Proofs.Any.Builder_WriteString sh166 shX166 B b (Lib.byteCells l) s w h (by rw [Lib.byteCells_length];exact hlen) hBw
 refine Calls.mono (show Calls Tryd.prog 18 _ w _ from hs) ?_
 rintro e w' ⟨rfl,h2,h3⟩
 refine ⟨rfl,?_,h3⟩
 have e2:Lib.byteCells (l ++ s.data.toList)=Lib.byteCells l ++ Lib.strCells s:=by simp [Lib.byteCells,Lib.strCells]
 rw [e2]
 exact .inr h2
theorem builder_string (B b : Nat) (l : List UInt8) (w : World) (h : Lib.IsBuilder 48 5 B b (Lib.byteCells l) w) (hBw : B ≤ w.heap.size) :
  Calls Tryd.prog 20 #[.pointer (some ⟨b,0,none⟩)] w fun e w'=>e=.returned (.string ⟨l.toArray⟩)∧Below B w w' :=
 Calls.mono (show Calls Tryd.prog 20 _ w _ from Go.Proofs.Any.Builder_String_any sh169 shX169 B b l w h hBw) (fun _ _ h=>h)
def exAll (k : Nat) (t : List S63) : List S42 → Option (List UInt8)
 | []=>some []
 | x :: r=>(jpa.f x.f0 x.f1 x.f2 t).bind fun s=>if s.size≤2000000 then (exAll k t r).bind fun b=>some ((s ++ (⟨#[10]⟩:ByteArray)).data.toList ++ b) else none
def jV.f (k : Nat) (l0_0 : List S63) (l1 : List S42) : Option ByteArray := (jra.f k l0_0 l1).bind fun v => if v = true then (if l1.length ≤ 1000000 then (exAll k l0_0 l1).bind fun b => some ⟨b.toArray⟩ else none) else some ⟨#[]⟩
theorem ex_c0 {w : World} {b : Nat} {v : Value} {l : List Value} {t : TypeId} (h : w.heap[b]? = some (.cells ⟨v :: l⟩ t (0, 0))) : w.cell? ⟨b, 0, none⟩ = some v := (joa h 0).trans rfl
theorem exAll_cut {k : Nat} {t : List S63} {l : List S42} {i : Nat} {rest : List UInt8} (hi : i < l.length) (h : exAll k t (l.drop i) = some rest) :
  ∃ s,jpa.f (jy l (i:Int)).f0 (jy l (i:Int)).f1 (jy l (i:Int)).f2 t=some s∧s.size≤2000000∧∃ rest2,exAll k t (l.drop (i+1))=some rest2∧rest=(s ++ (⟨#[10]⟩:ByteArray)).data.toList ++ rest2:=by
 have hr:jy l (i:Int)=l[i]:=by simp [jy,List.getD_eq_getElem?_getD,hi]
 rw [List.drop_eq_getElem_cons hi,← hr] at h
 simp only [exAll] at h
 obtain ⟨s,h1,h⟩:=bzS h
 by_cases hs:s.size≤2000000
 ·rw [if_pos hs] at h
  obtain ⟨r2,h2,h3⟩:=bzS h
  exact ⟨s,h1,hs,r2,h2,(Option.some.inj h3).symm⟩
 ·rw [if_neg hs] at h;cases h
set_option maxHeartbeats 8000000 in
set_option maxRecDepth 100000 in
theorem jV.calls (k : Nat) (A0_0 : Option Addr) (c0_0 : Nat) (l0_0 : List (S63)) (A1 : Option Addr) (c1 : Nat) (l1 : List (S42)) (r : ByteArray) (w : World) (hr0_0 : Kd.C k63 w A0_0 l0_0.length l0_0) (hc0_0 : l0_0.length ≤ c0_0) (hr1 : Kd.C k42 w A1 l1.length l1) (hc1 : l1.length ≤ c1) (h : jV.f k l0_0 l1 = some r) :
  Calls Tryd.prog 9 #[.agg #[.slice A0_0 l0_0.length c0_0], .slice A1 l1.length c1] w fun e w'=>e=.returned (.string r)∧Below w.heap.size w w':=by
 obtain ⟨v,hv,h⟩:=bzS h
 have hu31:=Tryd.underlying31
 have hu42:=Tryd.underlying42
 have hus:=Tryd.underlying48
 have HR0:=am hr0_0
 have HR1:=am hr1
 have HV:=am (fun W (hb:Below w.heap.size w W)=>jra.calls k A0_0 c0_0 l0_0 A1 c1 l1 v W (Kd.jD hr0_0 hb) hc0_0 (Kd.jD hr1 hb) hc1 hv)
 have HB:=am ((Below.refl w.heap.size w).alloc (Nat.le_refl _) (.cells #[.slice A0_0 l0_0.length c0_0] 31))
 have BT:=am (heap_alloc_new w (.cells #[.slice A0_0 l0_0.length c0_0] 31))
 cases v with
 | false =>
  rw [if_neg (by simp)] at h
  obtain rfl:=Option.some.inj h
  clear hv hr0_0 hr1
  go_enter Tryd.func9,Tryd.ntmps9
  go_wp2_with (go_at_call 17;refine (HV.out _ HB.out).mono ?_;rintro e w1 ⟨rfl,hb2⟩;have hb1:=jFa HB.out HB.out.size hb2)
  go_ret
  exact ⟨rfl,hb1⟩
 | true =>
  rw [if_pos rfl] at h
  by_cases hlen:l1.length≤1000000
  case neg=>rw [if_neg hlen] at h;cases h
  rw [if_pos hlen] at h
  obtain ⟨all,hall,h⟩:=bzS h
  have HZ:=am (Option.some.inj h)
  have HA:=am hall
  clear hv hr0_0 hr1 h hall
  go_enter Tryd.func9,Tryd.ntmps9
  go_wp2_with (go_at_call 17;refine (HV.out _ HB.out).mono ?_;rintro e w1 ⟨rfl,hb2⟩;have n0_:=am (jc (g:=w.heap.size) (o:=.cells #[.slice A0_0 l0_0.length c0_0] 31 (0,0)) BT.out hb2);have n1_:=am (jb HB.out hb2);clear BT HB HV hb2;have BT:=n0_;have HB:=n1_;clear n0_ n1_)
  have HI:=am (Lib.fresh_isBuilder 48 5 w1)
  have HB1:=am (show Below w.heap.size w (w1.alloc (.cells #[.pointer none, .slice none 0 0] 48)) from HB.out.alloc (jP HB.out) _)
  have BT1:=am (jB BT.out (.cells #[.pointer none, .slice none 0 0] 48))
  have hW1:=jP HB.out
  have hTl:w.heap.size<w1.heap.size:=jma BT.out
  obtain ⟨b,hb⟩:∃ b,b=w1.heap.size:=⟨_,rfl⟩
  have HBs:=am hb
  clear HB BT
  go_loopw [14] (fun v14 wr=>∃ i:Nat,i≤l1.length∧v14=.int .i64 i∧jJ (∃ acc rest,exAll k l0_0 (l1.drop i)=some rest∧acc ++ rest=all∧acc.length≤2000001 * i∧Lib.IsBuilder 48 5 w1.heap.size w1.heap.size (Lib.byteCells acc) wr)∧jJ (wr.heap[w.heap.size]?=some (.cells #[.slice A0_0 l0_0.length c0_0] 31 (0,0)))∧jJ (Below w.heap.size w wr)∧w1.heap.size<wr.heap.size) (fun v14 _=>l1.length - (intOf v14).toNat)
  case atStart=>exact ⟨0,Nat.zero_le _,rfl,⟨[],all,HA.out,rfl,Nat.zero_le _,HI.out⟩,BT1,HB1,by simp⟩
  case round =>
   clear HA HI HB1 BT1
   obtain ⟨i,hi,rfl,HA,BT,HB,hwb⟩:=hrel
   obtain ⟨acc,rest,hA1,hA2,hA3,hA4⟩:=HA.out
   clear HA
   have cT:=ex_c0 BT.out
   by_cases hlt:i<l1.length
   ·obtain ⟨ad,rfl,x0,x1,x2⟩:=at_T42 (Kd.jD HR1.out HB.out) (i:Int) (by omega) (by omega)
    rw [Int.toNat_natCast] at x0 x1 x2
    obtain ⟨s,hs1,hs2,rest2,hs3,hs4⟩:=exAll_cut hlt hA1
    have hlb:=ezT (show (i:Int)<(l1.length:Int) by omega)
    have hTw:w.heap.size<wr.heap.size:=jma BT.out
    have z0:s.size+1≤9223372036854775807:=by omega
    have z1:=ezT z0
    have z2:=dzT z0
    have z3:(9223372036854775807<s.size+1)=False:=eq_false (Nat.not_lt.2 z0)
    have hsz:(s ++ (⟨#[10]⟩:ByteArray)).size=s.size+1:=by rw [ByteArray.size_append];rfl
    have HI:=am hA4
    have HL:=am (show acc.length+(s ++ (⟨#[10]⟩:ByteArray)).size≤140737488355328 by rw [hsz];omega)
    have HN:=am (show ∃ rest,exAll k l0_0 (l1.drop (i+1))=some rest∧(acc ++ (s ++ (⟨#[10]⟩:ByteArray)).data.toList) ++ rest=all∧(acc ++ (s ++ (⟨#[10]⟩:ByteArray)).data.toList).length≤2000001 * (i+1) from ⟨rest2,hs3,by rw [← hA2,hs4,List.append_assoc],by rw [List.length_append,show (s ++ (⟨#[10]⟩:ByteArray)).data.toList.length=(s ++ (⟨#[10]⟩:ByteArray)).size from rfl,hsz];omega⟩)
    have HT:=am (fun W (hb:Below w.heap.size w W)=>jpa.calls (jy l1 (i:Int)).f0 (jy l1 (i:Int)).f1 (jy l1 (i:Int)).f2 A0_0 c0_0 l0_0 s W (Kd.jD HR0.out hb) hc0_0 hs1)
    clear hA1 hA2 hA3 hA4 hs1 hs2 hs3 hs4 z0 hsz
    go_wp2_with (first |(go_at_call 19;refine (HT.out _ (bq)).mono ?_;rintro e w2 ⟨rfl,hb2⟩;have n0_:=am (jc (g:=w.heap.size) (o:=.cells #[.slice A0_0 l0_0.length c0_0] 31 (0,0)) (kq BT.out) hb2);have n1_:=am (jb (bq) hb2);have n2_:=am (builder_below (builder_below HI.out (ji (Below.refl wr.heap.size wr) (.cells #[.int .i64 (jy l1 (i:Int)).f0, .int .i64 (jy l1 (i:Int)).f1, .int .i64 (jy l1 (i:Int)).f2] 42))) hb2);have n3_:w1.heap.size<w2.heap.size:=Nat.lt_of_lt_of_le hwb (Nat.le_trans (by simp) hb2.size);clear BT HB HI HT hb2;have BT:=n0_;have HB:=n1_;have HI:=n2_;clear n0_ n1_ n2_) |(go_at_call 18;refine (builder_write _ _ _ _ _ HI.out HL.out (Nat.le_of_lt n3_)).mono ?_;rintro e w3 ⟨rfl,hI3,hb3⟩;have n0_:=am ((hb3.block w.heap.size hTl).trans BT.out);have n1_:=am (HB.out.trans (hb3.mono hW1));have n4_:w1.heap.size<w3.heap.size:=Nat.lt_of_lt_of_le n3_ hb3.size;have n2_:=am hI3;clear BT HB HI hb3 hI3;have BT:=n0_;have HB:=n1_;have HI:=n2_;clear n0_ n1_ n2_))
    go_roundw
    case rel=>exact ⟨i+1,hlt,by go_num,⟨_,HN.out.choose,HN.out.choose_spec.1,HN.out.choose_spec.2.1,HN.out.choose_spec.2.2,HI.out⟩,BT,HB,n4_⟩
    case measure=>simp [intOf];omega
   ·obtain rfl:i=l1.length:=by omega
    rw [List.drop_eq_nil_of_le (Nat.le_refl _)] at hA1
    have e1:rest=[]:=by simpa [exAll] using hA1.symm
    subst e1
    rw [List.append_nil] at hA2
    subst hA2
    have hlb:=eq_false (show ¬ ((l1.length:Int)<(l1.length:Int)) by omega)
    have HI:=am hA4
    clear hA1 hA3 hA4
    go_wp2_with (go_at_call 20;refine (builder_string _ _ _ _ HI.out (Nat.le_of_lt hwb)).mono ?_;rintro e w3 ⟨rfl,hb3⟩;have n1_:=am (HB.out.trans (hb3.mono hW1)))
    go_ret
    exact ⟨by rw [HZ.out];rfl,n1_.out⟩
def jBa.f (a0_0 : ByteArray) (a0_1 : Int) (a1_0 : ByteArray) (a1_1 : Int) : Option (Bool) := if a0_0.toList = a1_0.toList then (if a0_1 = a1_1 then (some true) else (some false)) else (some false)
set_option maxHeartbeats 8000000 in
set_option maxRecDepth 100000 in
theorem jBa.calls (a0_0 : ByteArray) (a0_1 : Int) (a1_0 : ByteArray) (a1_1 : Int) (r : Bool) (w : World) (h : jBa.f a0_0 a0_1 a1_0 a1_1 = some r) :
  Calls Tryd.prog 35 #[.agg #[.string a0_0, .int .i64 a0_1], .agg #[.string a1_0, .int .i64 a1_1]] w fun e w'=>e=.returned (.bool r)∧Below w.heap.size w w':=by
 have hu63:=Tryd.underlying63
 have HB:=am (Below.refl w.heap.size w)
 have H:(if a0_0.toList=a1_0.toList then (if a0_1=a1_1 then (some true) else (some false)) else (some false))=some r:=h
 clear h
 by_cases c3:a0_0.toList=a1_0.toList
 ·rw [if_pos c3] at H
  have c3b0:(a0_0.toList == a1_0.toList)=true:=beq_iff_eq.mpr c3
  have c3b1:(a0_0.toList != a1_0.toList)=false:=bne_eq_false_iff_eq.mpr c3
  clear c3
  by_cases c4:a0_1=a1_1
  ·rw [if_pos c4] at H
   have c4b0:(a0_1 == a1_1)=true:=beq_iff_eq.mpr c4
   have c4b1:(a0_1 != a1_1)=false:=bne_eq_false_iff_eq.mpr c4
   clear c4
   obtain rfl:=Option.some.inj H
   go_enter Tryd.func35,Tryd.ntmps35
   go_wp2_with (first |((with_reducible refine jr (N:=2) rfl ?_);refine bE (N:=2) (cs:=#[.string a0_0, .int .i64 a0_1]) (t:=63) ?_;intro gb201 hg w5 hbox hb;have BK201:=am (hbox);have GW201:=am ((Y0:w.heap.size≤gb201));have GE201:=am ((Y0:w.heap.size≤gb201));replace HB:=am (jb (bq) hb);clear hb hbox hg) |((with_reducible refine jr (N:=3) rfl ?_);refine bE (N:=3) (cs:=#[.string a1_0, .int .i64 a1_1]) (t:=63) ?_;intro gb202 hg w6 hbox hb;have BK202:=am (hbox);have GW202:=am ((Y16:w.heap.size≤gb202));have GE202:=am ((Y16:w.heap.size≤gb202));have NB201_202:=am ((Y32:gb201≠gb202));have NB202_201:=am ((Y33:gb202≠gb201));replace BK201:=am (jc (g:=gb201) (o:=.cells #[.string a0_0, .int .i64 a0_1] 63 (0,0)) (kq BK201.out) hb);replace HB:=am (jb (Y34) hb);clear hb hbox hg;have hnb7:=NB201_202.out;have hnc7:=NB202_201.out;have hcz8_0:=bc0 BK201.out;have hcz8_1:=bc1 BK201.out;have hfz8_0:=ja BK201.out 0;have hfz8_1:=ja BK201.out 1;have hcz9_0:=bc0 BK202.out;have hcz9_1:=bc1 BK202.out;have hfz9_0:=ja BK202.out 0;have hfz9_1:=ja BK202.out 1))
   go_ret
   exact ⟨Y1,Y35⟩
  ·rw [if_neg c4] at H
   have c4b0:(a0_1 == a1_1)=false:=beq_eq_false_iff_ne.mpr c4
   have c4b1:(a0_1 != a1_1)=true:=bne_iff_ne.mpr c4
   obtain rfl:=Option.some.inj H
   go_enter Tryd.func35,Tryd.ntmps35
   go_wp2_with (first |((with_reducible refine jr (N:=2) rfl ?_);refine bE (N:=2) (cs:=#[.string a0_0, .int .i64 a0_1]) (t:=63) ?_;intro gb201 hg w10 hbox hb;have BK201:=am (hbox);have GW201:=am ((Y0:w.heap.size≤gb201));have GE201:=am ((Y0:w.heap.size≤gb201));replace HB:=am (jb (bq) hb);clear hb hbox hg) |((with_reducible refine jr (N:=3) rfl ?_);refine bE (N:=3) (cs:=#[.string a1_0, .int .i64 a1_1]) (t:=63) ?_;intro gb202 hg w11 hbox hb;have BK202:=am (hbox);have GW202:=am ((Y16:w.heap.size≤gb202));have GE202:=am ((Y16:w.heap.size≤gb202));have NB201_202:=am ((Y32:gb201≠gb202));have NB202_201:=am ((Y33:gb202≠gb201));replace BK201:=am (jc (g:=gb201) (o:=.cells #[.string a0_0, .int .i64 a0_1] 63 (0,0)) (kq BK201.out) hb);replace HB:=am (jb (Y34) hb);clear hb hbox hg;have hnb12:=NB201_202.out;have hnc12:=NB202_201.out;have hcz13_0:=bc0 BK201.out;have hcz13_1:=bc1 BK201.out;have hfz13_0:=ja BK201.out 0;have hfz13_1:=ja BK201.out 1;have hcz14_0:=bc0 BK202.out;have hcz14_1:=bc1 BK202.out;have hfz14_0:=ja BK202.out 0;have hfz14_1:=ja BK202.out 1))
   go_ret
   exact ⟨Y1,Y35⟩
 ·rw [if_neg c3] at H
  have c3b0:(a0_0.toList == a1_0.toList)=false:=beq_eq_false_iff_ne.mpr c3
  have c3b1:(a0_0.toList != a1_0.toList)=true:=bne_iff_ne.mpr c3
  obtain rfl:=Option.some.inj H
  go_enter Tryd.func35,Tryd.ntmps35
  go_wp2_with (first |((with_reducible refine jr (N:=2) rfl ?_);refine bE (N:=2) (cs:=#[.string a0_0, .int .i64 a0_1]) (t:=63) ?_;intro gb201 hg w15 hbox hb;have BK201:=am (hbox);have GW201:=am ((Y0:w.heap.size≤gb201));have GE201:=am ((Y0:w.heap.size≤gb201));replace HB:=am (jb (bq) hb);clear hb hbox hg) |((with_reducible refine jr (N:=3) rfl ?_);refine bE (N:=3) (cs:=#[.string a1_0, .int .i64 a1_1]) (t:=63) ?_;intro gb202 hg w16 hbox hb;have BK202:=am (hbox);have GW202:=am ((Y16:w.heap.size≤gb202));have GE202:=am ((Y16:w.heap.size≤gb202));have NB201_202:=am ((Y32:gb201≠gb202));have NB202_201:=am ((Y33:gb202≠gb201));replace BK201:=am (jc (g:=gb201) (o:=.cells #[.string a0_0, .int .i64 a0_1] 63 (0,0)) (kq BK201.out) hb);replace HB:=am (jb (Y34) hb);clear hb hbox hg;have hnb17:=NB201_202.out;have hnc17:=NB202_201.out;have hcz18_0:=bc0 BK201.out;have hcz18_1:=bc1 BK201.out;have hfz18_0:=ja BK201.out 0;have hfz18_1:=ja BK201.out 1;have hcz19_0:=bc0 BK202.out;have hcz19_1:=bc1 BK202.out;have hfz19_0:=ja BK202.out 0;have hfz19_1:=ja BK202.out 1))
  go_ret
  exact ⟨Y1,Y35⟩
end Go.Proofs.YtlkdlibbbekipaaDoor.P
end
