/- One part of the proofs on this program: functions of the program as plain functions, that the code comes to them, and facts on them. -/
import Derived.Test.YtecdfgejmbpclaaYAll1
import Derived.Test.YtecdfgejmbpclaaYAll2
import Derived.Test.YtecdfgejmbpclaaYWAuto
section
namespace Go.Proofs.Ytecdfgejmbpclaa.P
open Go.RowKit Go.Proofs.YtecdfgejmbpclaaW.PrintWords Go.Proofs.YtecdfgejmbpclaaW.PrintLast Go.Proofs.YtecdfgejmbpclaaW.PrintMore
attribute [local go_sem] jka jia jEa jDa jba jaa jja jha jv
set_option linter.unusedVariables false
set_option linter.unusedSimpArgs false
def jra.l0 : Nat → List (S92) → List (S94) → Int → Option ((List (S94)))
 | 0,_,_,_=>none
 | k+1,x0,x3,x4=>if x4<(x0.length:Int) then (if 0≤x4 then ((jVb.f ((jAb x0 x4).f0) ((jAb x0 x4).f1)).bind fun bt199=>(if x4<(x3.length:Int) then (jra.l0 k x0 (x3.set (x4:Int).toNat (⟨bt199.1,bt199.2⟩:S94)) (wrap64 (x4+1))) else (none))) else (none)) else (some x3)
def jra.f (k : Nat) (l0 : List (S92)) : Option ((List (S94))) := if 0 ≤ (l0.length : Int) then (if ((l0.length : Int) : Int).toNat ≤ 11728124029610 then (jra.l0 k l0 (List.replicate ((l0.length : Int) : Int).toNat z94) 0) else (none)) else (none)
set_option maxHeartbeats 8000000 in
set_option maxRecDepth 100000 in
theorem jra.calls (k : Nat) (A0 : Option Addr) (c0 : Nat) (l0 : List (S92)) (r : List (S94)) (w : World) (hr0 : Kd.C k92 w A0 l0.length l0) (hc0 : l0.length ≤ c0) (h : jra.f k l0 = some r) :
  Calls Try.prog 43 #[.slice A0 l0.length c0] w fun e w'=>∃ v0_:Value,e=.returned (v0_)∧Kd.R k94 94 w' w.heap.size (fun _=>True) v0_ r∧Below w.heap.size w w':=by
 have hu92:=Try.underlying92
 have hu94:=Try.underlying94
 have HR0:=am hr0
 have HC0:=am hc0
 clear hr0 hc0
 have HB:=am (Below.refl w.heap.size w)
 have H:(if 0≤(l0.length:Int) then (if ((l0.length:Int):Int).toNat≤11728124029610 then (jra.l0 k l0 (List.replicate ((l0.length:Int):Int).toNat z94) 0) else (none)) else (none))=some r:=h
 clear h
 by_cases c2:0≤(l0.length:Int)
 ·rw [if_pos c2] at H
  have c2b0:=ezT c2
  have c2b1:decide (0≤(l0.length:Int))=true:=dzT c2
  clear c2
  by_cases c3:((l0.length:Int):Int).toNat≤11728124029610
  ·rw [if_pos c3] at H
   have c3b0:=ezT c3
   have c3b1:decide (((l0.length:Int):Int).toNat≤11728124029610)=true:=dzT c3
   clear c3
   obtain ⟨y195,hy195⟩:∃ y_:List (S94),y_=(List.replicate ((l0.length:Int):Int).toNat z94):=⟨_,rfl⟩
   replace H:(jra.l0 k l0 y195 0)=some r:=by first |(rw [hy195];with_reducible exact H) |(have H2_:=(Option.bind_some _ _).symm.trans H;rw [hy195];with_reducible exact H2_) |(have H2_:=(Option.bind_some _ _).symm.trans H;with_reducible exact H2_) | with_reducible exact H |(rw [hy195];exact H) | exact H
   have Ny195:=am hy195
   clear hy195
   have H':=am H
   clear H
   go_enter Try.func43,Try.ntmps43
   go_wp2_with (first |((with_reducible refine jD (N:=7) rfl ?_);refine Kd.R_make k94 _ 94 rfl (N:=7) rfl 35 _ _ rfl (l0.length:Int) rfl rfl Try.underlying35 (.agg #[(.string ⟨#[]⟩),(.int .i64 0)]) 24 info94 rfl (by decide) (by omega) z94 (ok:=fun _=>True) (okp:=fun _=>True) (k94_mkM _ _ _ z94 ) (fun _ hk=>hk) trivial (ozD (uq)) (Nat.le_trans (Nat.mul_le_mul_right _ (ozD (uq):(l0.length:Int).toNat≤11728124029610)) (by omega)) (Below.refl _ _) (Nat.le_refl _) ?_;intro v196 w4 ho5 hb hg_ hnew_;clear hg_ hnew_;(first | rw [← Ny195.out] at ho5 |(simp only [Int.reduceToNat] at ho5;rw [← Ny195.out] at ho5));have HO197:=am (Kd.jna ho5 (jA (bq)));replace HB:=am (je (bq) hb);clear hb ho5))
   go_loopg [4] k (fun kq v4 w'=>∃ (x3_1:List (S94)) (x4_1:Int),v4=.int .i64 x4_1∧jw (jra.l0 kq l0 x3_1 x4_1=some r)∧jw (kq≤k)∧jw (Kd.R k94 94 w' w.heap.size (fun _=>True) v196 x3_1)∧jw (Below w.heap.size w w'))
   case atStart=>exact ⟨(y195),(0),(sq),H',⟨Nat.le_refl _⟩,⟨rq HO197.out⟩,⟨bq⟩⟩
   case round =>
    clear H'
    try clear c2
    try clear c2b0
    try clear c2b1
    try clear p2
    try clear c3
    try clear c3b0
    try clear c3b1
    try clear c4
    obtain ⟨x3_1,x4_1,rfl,HA,HK1,HO_3,HB⟩:=hrel
    cases gk with
    | zero=>exact absurd HA.out (by simp [jra.l0])
    | succ k1 =>
     have H:=HA.out
     clear HA
     simp only [jra.l0] at H
     by_cases c6:x4_1<(l0.length:Int)
     ·rw [if_pos c6] at H
      have c6b0:decide (x4_1<(l0.length:Int))=true:=dzT c6
      clear c6
      by_cases c7:0≤x4_1
      ·rw [if_pos c7] at H
       have c7b0:decide (0≤x4_1)=true:=dzT c7
       clear c7
       replace H:=bzS H
       obtain ⟨⟨t199,t200⟩,A80,H⟩:=H
       replace H:(if x4_1<(x3_1.length:Int) then (jra.l0 k1 l0 (x3_1.set (x4_1:Int).toNat (⟨t199,t200⟩:S94)) (wrap64 (x4_1+1))) else (none))=some r:=H
       have A8:=am A80
       clear A80
       by_cases c9:x4_1<(x3_1.length:Int)
       ·rw [if_pos c9] at H
        have c9b0:decide (x4_1<(x3_1.length:Int))=true:=dzT c9
        clear c9
        obtain ⟨y201,hy201⟩:∃ y_:List (S94),y_=(x3_1.set (x4_1:Int).toNat (⟨t199,t200⟩:S94)):=⟨_,rfl⟩
        replace H:(jra.l0 k1 l0 y201 (wrap64 (x4_1+1)))=some r:=by first |(rw [hy201];with_reducible exact H) |(have H2_:=(Option.bind_some _ _).symm.trans H;rw [hy201];with_reducible exact H2_) |(have H2_:=(Option.bind_some _ _).symm.trans H;with_reducible exact H2_) | with_reducible exact H |(rw [hy201];exact H) | exact H
        have Ny201:=am hy201
        clear hy201
        have H':=am H
        clear H
        have p198:0≤(x4_1:Int):=ozD (uq)
        have q198:x4_1<(l0.length:Int):=ozD (uq)
        obtain ⟨ad198,e198,hx198_0,hx198_1⟩:=at_T92 HR0.out x4_1 p198 q198
        cases e198
        replace hx198_0:=cb HB.out hx198_0
        replace hx198_1:=cb HB.out hx198_1
        replace p198:=ezT p198
        replace q198:=ezT q198
        go_wp2_with (first |((with_reducible refine jE (f:=71) rfl ?_);refine gL (some 20) Try.func71 #[.agg #[.string ((jAb l0 x4_1).f0), .int .i64 ((jAb l0 x4_1).f1)]] ?_;(with_reducible refine (jVb.calls ((jAb l0 x4_1).f0) ((jAb l0 x4_1).f1) t199 t200 _ A8.out).mono ?_);rintro e w11 ⟨rfl,hb⟩;refine ⟨_,rfl,?_⟩;replace HO_3:=am (Kd.jy (rq HO_3.out) hb);replace HB:=am (je (bq) hb);(try clear hb);(try clear hb2);(try clear hk);(try clear hi);have p10:0≤(x4_1:Int):=ozD (uq);have q10:(x4_1:Int)<((x3_1.length:Int):Int):=ozD (uq);obtain ⟨go10,co10,eo10,gb10,gl10,cl10,HG10⟩:=Kd.R_form HO_3.out (by omega);(first | cases eo10 |(injection eo10 with ea_ en_ ec_;(first | subst ea_ |(injection ea_ with ea_;subst ea_));subst ec_;clear en_));have GB10:=am gb10;have GG10:=am HG10;clear gb10 gl10 HG10;obtain ⟨ce10,hcl10,hM10,hcc10,hfr10⟩:=Kd.jRb HO_3.out z94 (x4_1:Int) p10 q10;obtain rfl:=jmc hM10;have hx10_0:w11.cell? ⟨go10,(x4_1:Int).toNat * 2,none⟩=some (.string ((jJ x3_1 x4_1).f0)):=hcc10 0 _ rfl;have hx10_1:w11.cell? ⟨go10,(x4_1:Int).toNat * 2+1,none⟩=some (.int .i64 ((jJ x3_1 x4_1).f1)):=hcc10 1 _ rfl;have hf10_0:w11.frozen? ⟨go10,(x4_1:Int).toNat * 2,none⟩=false:=hfr10 0;have hf10_1:w11.frozen? ⟨go10,(x4_1:Int).toNat * 2+1,none⟩=false:=hfr10 1;clear hcl10 hcc10 hfr10 hM10;replace p10:=ezT p10;replace q10:=ezT q10;have HX12:=am (show Kd.R k94 94 w11 w.heap.size (fun _=>True) (.slice (some ⟨go10,0,none⟩) x3_1.length co10) x3_1 from (rq HO_3.out));obtain ⟨ce12,hcl12,hM12,hcc12,hfr12⟩:=Kd.jRb HX12.out z94 (x4_1:Int) (ozD (uq)) (by have h_:(x4_1:Int)<((x3_1.length:Int):Int):=ozD (uq);first | exact h_ |(have e_:=(Kd.jq HO_3.out).1;omega) | simpa using h_);obtain rfl:=jmc hM12;have HP12:=Kd.R_seg HX12.out (x4_1:Int) (ozD (uq)) (by have h_:(x4_1:Int)<((x3_1.length:Int):Int):=ozD (uq);first | exact h_ |(have e_:=(Kd.jq HO_3.out).1;omega) | simpa using h_) (seg:=[.string t199, .int .i64 t200]) (j:=0) hcl12 hcc12 (show 2≤2 from by decide) (x':=(⟨t199,t200⟩:S94)) (k94_mkM _ _ _ (⟨t199,t200⟩:S94) ) (fun _ hk=>hk);have hx12_0:=hcc12 0 _ rfl;(try simp only [show (k94).sz=2 from rfl,Nat.mul_one,Nat.add_zero] at hx12_0);have hf12_0:=hfr12 0;(try simp only [show (k94).sz=2 from rfl,Nat.mul_one,Nat.add_zero] at hf12_0);have hx12_1:=hcc12 1 _ rfl;(try simp only [show (k94).sz=2 from rfl,Nat.mul_one,Nat.add_zero] at hx12_1);have hf12_1:=hfr12 1;(try simp only [show (k94).sz=2 from rfl,Nat.mul_one,Nat.add_zero] at hf12_1);clear hcl12 hcc12 hfr12 hM12) |((with_reducible refine jwb (t:=94) (p:=21) rfl ?_);refine jmb (t:=94) (p:=21) (v:=?vo_w13) (w1:=((w11.setCell ⟨go10,(x4_1:Int).toNat * 2,none⟩ (.string t199)).setCell ⟨go10,(x4_1:Int).toNat * 2+1,none⟩ (.int .i64 t200))) ?hg ?ho ?hn ?hr ?_;(case ho=>rfl);(case hg=>rfl);(case hn=>rfl);(case hr=>exact Y3);intro w13 hw;have hg:w11.grownBy w13 (some go10):=(by rw [hw];exact HP12.2);have hp_:Kd.R k94 94 w13 w.heap.size (fun _=>True) (.slice (some ⟨go10,0,none⟩) x3_1.length co10) y201:=(by rw [hw,Ny201.out];exact HP12.1);clear HP12;replace HO_3:=am (hp_);replace HB:=am ((by rw [hw];exact jk (jk (HB.out) GB10.out) GB10.out:Below w.heap.size w w13));clear hg hw hp_))
        go_roundg k1
        case measure=>have:=HK1.out;omega
        case rel=>exact ⟨(y201),(wrap64 (x4_1+1)),(sq),H',⟨by have:=HK1.out;omega⟩,⟨rq HO_3.out⟩,⟨bq⟩⟩
       ·rw [if_neg c9] at H
        exact absurd H (by simp)
      ·rw [if_neg c7] at H
       exact absurd H (by simp)
     ·rw [if_neg c6] at H
      have c6b0:decide (x4_1<(l0.length:Int))=false:=dzF c6
      clear c6
      obtain rfl:=Option.some.inj H
      go_wp2
      go_ret
      exact ⟨_,Y1,rq HO_3.out,bq⟩
  ·rw [if_neg c3] at H
   exact absurd H (by simp)
 ·rw [if_neg c2] at H
  exact absurd H (by simp)
def jla.f (k : Nat) (l0_0 : List (S92)) : Option ((List (S94))) := (jra.f k l0_0).bind fun t205 => (some t205)
set_option maxHeartbeats 8000000 in
set_option maxRecDepth 100000 in
theorem jla.calls (k : Nat) (A0_0 : Option Addr) (c0_0 : Nat) (l0_0 : List (S92)) (r : List (S94)) (w : World) (hr0_0 : Kd.C k92 w A0_0 l0_0.length l0_0) (hc0_0 : l0_0.length ≤ c0_0) (h : jla.f k l0_0 = some r) :
  Calls Try.prog 12 #[.agg #[.slice A0_0 l0_0.length c0_0]] w fun e w'=>∃ v0_:Value,e=.returned (.agg #[v0_])∧Kd.R k94 94 w' w.heap.size (fun _=>True) v0_ r∧Below w.heap.size w w':=by
 have hu24:=Try.underlying24
 have hu37:=Try.underlying37
 have HR0_0:=am hr0_0
 have HC0_0:=am hc0_0
 clear hr0_0 hc0_0
 have HB:=am (Below.refl w.heap.size w)
 have H:((jra.f k l0_0).bind fun t205=>(some t205))=some r:=h
 clear h
 replace H:=bzS H
 obtain ⟨t205,A20,H⟩:=H
 replace H:(some t205)=some r:=H
 have A2:=am A20
 clear A20
 obtain rfl:=Option.some.inj H
 go_enter Try.func12,Try.ntmps12
 go_wp2_with (first |((with_reducible refine jD (N:=1) rfl ?_);refine bE (N:=1) (cs:=#[.slice A0_0 l0_0.length c0_0]) (t:=24) ?_;intro gb202 hg w3 hbox hb;have BK202:=am (hbox);have GW202:=am ((Y0:w.heap.size≤gb202));have GE202:=am ((Y0:w.heap.size≤gb202));replace HB:=am (je (bq) hb);clear hb hbox hg) |((with_reducible refine jD (N:=2) rfl ?_);refine bE (N:=2) (cs:=#[.slice none 0 0]) (t:=37) ?_;intro gb203 hg w4 hbox hb;have BK203:=am (hbox);have GW203:=am ((Y125:w.heap.size≤gb203));have GE203:=am ((Y125:w.heap.size≤gb203));have NB202_203:=am ((by rw [hg];exact Nat.ne_of_lt (jP (g:=gb202) (o:=.cells #[.slice A0_0 l0_0.length c0_0] 24 (0,0)) (kq BK202.out)):gb202≠gb203));have NB203_202:=am ((by rw [hg];exact Nat.ne_of_gt (jP (g:=gb202) (o:=.cells #[.slice A0_0 l0_0.length c0_0] 24 (0,0)) (kq BK202.out)):gb203≠gb202));replace BK202:=am (ja (g:=gb202) (o:=.cells #[.slice A0_0 l0_0.length c0_0] 24 (0,0)) (kq BK202.out) hb);replace HB:=am (je (by repeat (first |(with_reducible first | exact HB.out | apply jo | apply jl | apply jm | refine jk ?_ GE202.out) | exact HB.out)) hb);clear hb hbox hg) |((with_reducible refine jD (N:=3) rfl ?_);refine bE (N:=3) (cs:=#[.slice none 0 0]) (t:=37) ?_;intro gb204 hg w5 hbox hb;have BK204:=am (hbox);have GW204:=am ((Y126:w.heap.size≤gb204));have GE204:=am ((Y126:w.heap.size≤gb204));have NB202_204:=am ((by rw [hg];exact Nat.ne_of_lt (jP (g:=gb202) (o:=.cells #[.slice A0_0 l0_0.length c0_0] 24 (0,0)) (kq BK202.out)):gb202≠gb204));have NB204_202:=am ((by rw [hg];exact Nat.ne_of_gt (jP (g:=gb202) (o:=.cells #[.slice A0_0 l0_0.length c0_0] 24 (0,0)) (kq BK202.out)):gb204≠gb202));have NB203_204:=am ((by rw [hg];exact Nat.ne_of_lt (jP (g:=gb203) (o:=.cells #[.slice none 0 0] 37 (0,0)) (kq BK203.out)):gb203≠gb204));have NB204_203:=am ((by rw [hg];exact Nat.ne_of_gt (jP (g:=gb203) (o:=.cells #[.slice none 0 0] 37 (0,0)) (kq BK203.out)):gb204≠gb203));replace BK202:=am (ja (g:=gb202) (o:=.cells #[.slice A0_0 l0_0.length c0_0] 24 (0,0)) (kq BK202.out) hb);replace BK203:=am (ja (g:=gb203) (o:=.cells #[.slice none 0 0] 37 (0,0)) (kq BK203.out) hb);replace HB:=am (je (by repeat (first |(with_reducible first | exact HB.out | apply jo | apply jl | apply jm | refine jk ?_ GE202.out | refine jk ?_ GE203.out) | exact HB.out)) hb);clear hb hbox hg;have hnb6:=NB202_203.out;have hnc6:=NB203_202.out;have hnb7:=NB202_204.out;have hnc7:=NB204_202.out;have hcz8_0:=bc0 BK202.out;have hfz8_0:=jb BK202.out 0) |((with_reducible refine jE (f:=43) rfl ?_);refine gL (some 6) Try.func43 #[.slice A0_0 l0_0.length c0_0] ?_;(with_reducible refine (jra.calls k _ _ l0_0 t205 _ ?side1 ?side2 A2.out).mono ?_);(case side1=>exact cq (Kd.jK HR0_0.out HB.out));(case side2=>exact HC0_0.out);rintro e w9 ⟨v206,rfl,ho0,hb⟩;refine ⟨_,rfl,?_⟩;have HO207:=am (Kd.jna ho0 (jA (Y100)));replace BK202:=am (ja (g:=gb202) (o:=.cells #[.slice A0_0 l0_0.length c0_0] 24 (0,0)) (kq BK202.out) hb);replace BK203:=am (ja (g:=gb203) (o:=.cells #[.slice none 0 0] 37 (0,0)) (kq BK203.out) hb);replace BK204:=am (ja (g:=gb204) (o:=.cells #[.slice none 0 0] 37 (0,0)) (kq BK204.out) hb);replace HB:=am (je (Y100) hb);(try clear hb);(try clear hb2);(try clear hk);(try clear hi);(try clear ho0);obtain ⟨Ao10,co10,eo10⟩:=Kd.jca HO207.out;subst eo10;have hnb11:=NB204_203.out;have hnc11:=NB203_204.out;have hcz12_0:=bc0 BK204.out;have hfz12_0:=jb BK204.out 0;have hcz13_0:=bc0 BK203.out;have hfz13_0:=jb BK203.out 0))
 refine bodyPost_ret (results_cell_row rfl _ _ gb203 37 #[.slice Ao10 t205.length co10] (0,0) _ rfl (by (with_reducible repeat (first | refine jf ?_ _ | refine jh ?_ | refine jg ?_ _));refine jza (cs:=#[.slice none 0 0]) ?_ 0 _ rfl;(with_reducible repeat (first | refine jf ?_ _ | refine jh ?_ | refine jg ?_ _));refine jO ?_ NB203_204.out _;(with_reducible repeat (first | refine jf ?_ _ | refine jh ?_ | refine jg ?_ _));exact BK203.out) Try.underlying37 rfl (by kernel_rfl)) rfl ?_
 exact ⟨_,Y1,by (with_reducible repeat (first | apply Kd.jM | apply Kd.jL | apply Kd.jQ));exact Kd.jI (Kd.jya (p:=⟨gb203,0,none⟩) (Kd.jya (p:=⟨gb204,0,none⟩) (Kd.jwa (Kd.jwa HO207.out BK204.out (by decide)) BK203.out (by decide)) (fun _ hk=>hk.1.2) (.slice Ao10 t205.length co10)) (fun _ hk=>hk.2) (.slice Ao10 t205.length co10)) (fun _ hk=>trivial),Y100⟩
def jUb.f (a0_0 : Int) (a0_1 : Int) (a0_2 : Int) (a0_3 : Int) (a0_4 : Bool) : Option (Int × Int × Int × Int × Bool) := some (a0_0, a0_1, a0_2, a0_3, a0_4)
set_option maxHeartbeats 8000000 in
set_option maxRecDepth 100000 in
theorem jUb.calls (a0_0 : Int) (a0_1 : Int) (a0_2 : Int) (a0_3 : Int) (a0_4 : Bool) (r1 : Int) (r2 : Int) (r3 : Int) (r4 : Int) (r5 : Bool) (w : World) (h : jUb.f a0_0 a0_1 a0_2 a0_3 a0_4 = some (r1, r2, r3, r4, r5)) :
  Calls Try.prog 72 #[.agg #[.int .i64 a0_0, .int .i64 a0_1, .int .i64 a0_2, .int .i64 a0_3, .bool a0_4]] w fun e w'=>e=.returned (.agg #[.int .i64 r1, .int .i64 r2, .int .i64 r3, .int .i64 r4, .bool r5])∧Below w.heap.size w w':=by
 have hu97:=Try.underlying97
 have hu54:=Try.underlying54
 have HB:=am (Below.refl w.heap.size w)
 have H:(some (a0_0,a0_1,a0_2,a0_3,a0_4))=some (r1,r2,r3,r4,r5):=h
 clear h
 simp only [Option.some.injEq,Prod.mk.injEq] at H
 obtain ⟨rfl,rfl,rfl,rfl,rfl⟩:=H
 go_enter Try.func72,Try.ntmps72
 go_wp2_with (first |((with_reducible refine jD (N:=1) rfl ?_);refine bE (N:=1) (cs:=#[.int .i64 a0_0, .int .i64 a0_1, .int .i64 a0_2, .int .i64 a0_3, .bool a0_4]) (t:=97) ?_;intro gb208 hg w2 hbox hb;have BK208:=am (hbox);have GW208:=am ((Y0:w.heap.size≤gb208));have GE208:=am ((Y0:w.heap.size≤gb208));replace HB:=am (je (bq) hb);clear hb hbox hg) |((with_reducible refine jD (N:=2) rfl ?_);refine bE (N:=2) (cs:=#[.int .i64 0, .int .i64 0, .int .i64 0, .int .i64 0, .bool false]) (t:=54) ?_;intro gb209 hg w3 hbox hb;have BK209:=am (hbox);have GW209:=am ((Y127:w.heap.size≤gb209));have GE209:=am ((Y127:w.heap.size≤gb209));have NB208_209:=am ((Y128:gb208≠gb209));have NB209_208:=am ((Y129:gb209≠gb208));replace BK208:=am (ja (g:=gb208) (o:=.cells #[.int .i64 a0_0, .int .i64 a0_1, .int .i64 a0_2, .int .i64 a0_3, .bool a0_4] 97 (0,0)) (kq BK208.out) hb);replace HB:=am (je (by repeat (first |(with_reducible first | exact HB.out | apply jo | apply jl | apply jm | refine jk ?_ GE208.out) | exact HB.out)) hb);clear hb hbox hg) |((with_reducible refine jD (N:=3) rfl ?_);refine bE (N:=3) (cs:=#[.int .i64 0, .int .i64 0, .int .i64 0, .int .i64 0, .bool false]) (t:=54) ?_;intro gb210 hg w4 hbox hb;have BK210:=am (hbox);have GW210:=am ((Y130:w.heap.size≤gb210));have GE210:=am ((Y130:w.heap.size≤gb210));have NB208_210:=am ((Y128:gb208≠gb210));have NB210_208:=am ((Y129:gb210≠gb208));have NB209_210:=am ((by rw [hg];exact Nat.ne_of_lt (jP (g:=gb209) (o:=.cells #[.int .i64 0, .int .i64 0, .int .i64 0, .int .i64 0, .bool false] 54 (0,0)) (kq BK209.out)):gb209≠gb210));have NB210_209:=am ((by rw [hg];exact Nat.ne_of_gt (jP (g:=gb209) (o:=.cells #[.int .i64 0, .int .i64 0, .int .i64 0, .int .i64 0, .bool false] 54 (0,0)) (kq BK209.out)):gb210≠gb209));replace BK208:=am (ja (g:=gb208) (o:=.cells #[.int .i64 a0_0, .int .i64 a0_1, .int .i64 a0_2, .int .i64 a0_3, .bool a0_4] 97 (0,0)) (kq BK208.out) hb);replace BK209:=am (ja (g:=gb209) (o:=.cells #[.int .i64 0, .int .i64 0, .int .i64 0, .int .i64 0, .bool false] 54 (0,0)) (kq BK209.out) hb);replace HB:=am (je (by repeat (first |(with_reducible first | exact HB.out | apply jo | apply jl | apply jm | refine jk ?_ GE208.out | refine jk ?_ GE209.out) | exact HB.out)) hb);clear hb hbox hg;have hnb5:=NB208_209.out;have hnc5:=NB209_208.out;have hnb6:=NB208_210.out;have hnc6:=NB210_208.out;have hcz7_0:=bc0 BK208.out;have hcz7_1:=bc1 BK208.out;have hcz7_2:=bc2 BK208.out;have hcz7_3:=bc3 BK208.out;have hcz7_4:w4.cell? ⟨gb208,4,none⟩=some (.bool a0_4):=(jr BK208.out 4).trans rfl;have hfz7_0:=jb BK208.out 0;have hfz7_1:=jb BK208.out 1;have hfz7_2:=jb BK208.out 2;have hfz7_3:=jb BK208.out 3;have hfz7_4:=jb BK208.out 4;have hnb8:=NB210_209.out;have hnc8:=NB209_210.out;have hcz9_0:=bc0 BK210.out;have hcz9_1:=bc1 BK210.out;have hcz9_2:=bc2 BK210.out;have hcz9_3:=bc3 BK210.out;have hcz9_4:w4.cell? ⟨gb210,4,none⟩=some (.bool false):=(jr BK210.out 4).trans rfl;have hfz9_0:=jb BK210.out 0;have hfz9_1:=jb BK210.out 1;have hfz9_2:=jb BK210.out 2;have hfz9_3:=jb BK210.out 3;have hfz9_4:=jb BK210.out 4;have hcz10_0:=bc0 BK209.out;have hcz10_1:=bc1 BK209.out;have hcz10_2:=bc2 BK209.out;have hcz10_3:=bc3 BK209.out;have hcz10_4:w4.cell? ⟨gb209,4,none⟩=some (.bool false):=(jr BK209.out 4).trans rfl;have hfz10_0:=jb BK209.out 0;have hfz10_1:=jb BK209.out 1;have hfz10_2:=jb BK209.out 2;have hfz10_3:=jb BK209.out 3;have hfz10_4:=jb BK209.out 4))
 refine bodyPost_ret (results_cell_row rfl _ _ gb209 54 #[.int .i64 a0_0, .int .i64 a0_1, .int .i64 a0_2, .int .i64 a0_3, .bool a0_4] (0,0) _ rfl (by (with_reducible repeat (first | refine jf ?_ _ | refine jh ?_ | refine jg ?_ _));refine jza (cs:=#[.int .i64 a0_0, .int .i64 a0_1, .int .i64 a0_2, .int .i64 a0_3, .bool false]) ?_ 4 _ rfl;(with_reducible repeat (first | refine jf ?_ _ | refine jh ?_ | refine jg ?_ _));refine jza (cs:=#[.int .i64 a0_0, .int .i64 a0_1, .int .i64 a0_2, .int .i64 0, .bool false]) ?_ 3 _ rfl;(with_reducible repeat (first | refine jf ?_ _ | refine jh ?_ | refine jg ?_ _));refine jza (cs:=#[.int .i64 a0_0, .int .i64 a0_1, .int .i64 0, .int .i64 0, .bool false]) ?_ 2 _ rfl;(with_reducible repeat (first | refine jf ?_ _ | refine jh ?_ | refine jg ?_ _));refine jza (cs:=#[.int .i64 a0_0, .int .i64 0, .int .i64 0, .int .i64 0, .bool false]) ?_ 1 _ rfl;(with_reducible repeat (first | refine jf ?_ _ | refine jh ?_ | refine jg ?_ _));refine jza (cs:=#[.int .i64 0, .int .i64 0, .int .i64 0, .int .i64 0, .bool false]) ?_ 0 _ rfl;(with_reducible repeat (first | refine jf ?_ _ | refine jh ?_ | refine jg ?_ _));refine jO ?_ NB209_210.out _;(with_reducible repeat (first | refine jf ?_ _ | refine jh ?_ | refine jg ?_ _));refine jO ?_ NB209_210.out _;(with_reducible repeat (first | refine jf ?_ _ | refine jh ?_ | refine jg ?_ _));refine jO ?_ NB209_210.out _;(with_reducible repeat (first | refine jf ?_ _ | refine jh ?_ | refine jg ?_ _));refine jO ?_ NB209_210.out _;(with_reducible repeat (first | refine jf ?_ _ | refine jh ?_ | refine jg ?_ _));refine jO ?_ NB209_210.out _;(with_reducible repeat (first | refine jf ?_ _ | refine jh ?_ | refine jg ?_ _));exact BK209.out) Try.underlying54 rfl (by kernel_rfl)) rfl ?_
 exact ⟨Y1,by repeat (first |(with_reducible first | exact HB.out | apply jo | apply jl | apply jm | refine jk ?_ GE208.out | refine jk ?_ GE209.out | refine jk ?_ GE210.out) | exact HB.out)⟩
def jqa.l0 : Nat → List (S97) → List (S54) → Int → Option ((List (S54)))
 | 0,_,_,_=>none
 | k+1,x0,x3,x4=>if x4<(x0.length:Int) then (if 0≤x4 then ((jUb.f ((jzb x0 x4).f0) ((jzb x0 x4).f1) ((jzb x0 x4).f2) ((jzb x0 x4).f3) ((jzb x0 x4).f4)).bind fun bt215=>(if x4<(x3.length:Int) then (jqa.l0 k x0 (x3.set (x4:Int).toNat (⟨bt215.1,bt215.2.1,bt215.2.2.1,bt215.2.2.2.1,bt215.2.2.2.2⟩:S54)) (wrap64 (x4+1))) else (none))) else (none)) else (some x3)
def jqa.f (k : Nat) (l0 : List (S97)) : Option ((List (S54))) := if 0 ≤ (l0.length : Int) then (if ((l0.length : Int) : Int).toNat ≤ 7036874417766 then (jqa.l0 k l0 (List.replicate ((l0.length : Int) : Int).toNat z54) 0) else (none)) else (none)
set_option maxHeartbeats 8000000 in
set_option maxRecDepth 100000 in
theorem jqa.calls (k : Nat) (A0 : Option Addr) (c0 : Nat) (l0 : List (S97)) (r : List (S54)) (w : World) (hr0 : Kd.C k97 w A0 l0.length l0) (hc0 : l0.length ≤ c0) (h : jqa.f k l0 = some r) :
  Calls Try.prog 44 #[.slice A0 l0.length c0] w fun e w'=>∃ v0_:Value,e=.returned (v0_)∧Kd.R k54 54 w' w.heap.size (fun _=>True) v0_ r∧Below w.heap.size w w':=by
 have hu97:=Try.underlying97
 have hu54:=Try.underlying54
 have HR0:=am hr0
 have HC0:=am hc0
 clear hr0 hc0
 have HB:=am (Below.refl w.heap.size w)
 have H:(if 0≤(l0.length:Int) then (if ((l0.length:Int):Int).toNat≤7036874417766 then (jqa.l0 k l0 (List.replicate ((l0.length:Int):Int).toNat z54) 0) else (none)) else (none))=some r:=h
 clear h
 by_cases c2:0≤(l0.length:Int)
 ·rw [if_pos c2] at H
  have c2b0:=ezT c2
  have c2b1:decide (0≤(l0.length:Int))=true:=dzT c2
  clear c2
  by_cases c3:((l0.length:Int):Int).toNat≤7036874417766
  ·rw [if_pos c3] at H
   have c3b0:=ezT c3
   have c3b1:decide (((l0.length:Int):Int).toNat≤7036874417766)=true:=dzT c3
   clear c3
   obtain ⟨y211,hy211⟩:∃ y_:List (S54),y_=(List.replicate ((l0.length:Int):Int).toNat z54):=⟨_,rfl⟩
   replace H:(jqa.l0 k l0 y211 0)=some r:=by first |(rw [hy211];with_reducible exact H) |(have H2_:=(Option.bind_some _ _).symm.trans H;rw [hy211];with_reducible exact H2_) |(have H2_:=(Option.bind_some _ _).symm.trans H;with_reducible exact H2_) | with_reducible exact H |(rw [hy211];exact H) | exact H
   have Ny211:=am hy211
   clear hy211
   have H':=am H
   clear H
   go_enter Try.func44,Try.ntmps44
   go_wp2_with (first |((with_reducible refine jD (N:=7) rfl ?_);refine Kd.R_make k54 _ 54 rfl (N:=7) rfl 30 _ _ rfl (l0.length:Int) rfl rfl Try.underlying30 (.agg #[(.int .i64 0),(.int .i64 0),(.int .i64 0),(.int .i64 0),(.bool false)]) 40 info54 rfl (by decide) (by omega) z54 (ok:=fun _=>True) (okp:=fun _=>True) (jpc _ _ _ z54 ) (fun _ hk=>hk) trivial (ozD (uq)) (Nat.le_trans (Nat.mul_le_mul_right _ (ozD (uq):(l0.length:Int).toNat≤7036874417766)) (by omega)) (Below.refl _ _) (Nat.le_refl _) ?_;intro v212 w4 ho5 hb hg_ hnew_;clear hg_ hnew_;(first | rw [← Ny211.out] at ho5 |(simp only [Int.reduceToNat] at ho5;rw [← Ny211.out] at ho5));have HO213:=am (Kd.jna ho5 (jA (bq)));replace HB:=am (je (bq) hb);clear hb ho5))
   go_loopg [4] k (fun kq v4 w'=>∃ (x3_1:List (S54)) (x4_1:Int),v4=.int .i64 x4_1∧jw (jqa.l0 kq l0 x3_1 x4_1=some r)∧jw (kq≤k)∧jw (Kd.R k54 54 w' w.heap.size (fun _=>True) v212 x3_1)∧jw (Below w.heap.size w w'))
   case atStart=>exact ⟨(y211),(0),(sq),H',⟨Nat.le_refl _⟩,⟨rq HO213.out⟩,⟨bq⟩⟩
   case round =>
    clear H'
    try clear c2
    try clear c2b0
    try clear c2b1
    try clear p2
    try clear c3
    try clear c3b0
    try clear c3b1
    try clear c4
    obtain ⟨x3_1,x4_1,rfl,HA,HK1,HO_3,HB⟩:=hrel
    cases gk with
    | zero=>exact absurd HA.out (by simp [jqa.l0])
    | succ k1 =>
     have H:=HA.out
     clear HA
     simp only [jqa.l0] at H
     by_cases c6:x4_1<(l0.length:Int)
     ·rw [if_pos c6] at H
      have c6b0:decide (x4_1<(l0.length:Int))=true:=dzT c6
      clear c6
      by_cases c7:0≤x4_1
      ·rw [if_pos c7] at H
       have c7b0:decide (0≤x4_1)=true:=dzT c7
       clear c7
       replace H:=bzS H
       obtain ⟨⟨t215,t216,t217,t218,t219⟩,A80,H⟩:=H
       replace H:(if x4_1<(x3_1.length:Int) then (jqa.l0 k1 l0 (x3_1.set (x4_1:Int).toNat (⟨t215,t216,t217,t218,t219⟩:S54)) (wrap64 (x4_1+1))) else (none))=some r:=H
       have A8:=am A80
       clear A80
       by_cases c9:x4_1<(x3_1.length:Int)
       ·rw [if_pos c9] at H
        have c9b0:decide (x4_1<(x3_1.length:Int))=true:=dzT c9
        clear c9
        obtain ⟨y220,hy220⟩:∃ y_:List (S54),y_=(x3_1.set (x4_1:Int).toNat (⟨t215,t216,t217,t218,t219⟩:S54)):=⟨_,rfl⟩
        replace H:(jqa.l0 k1 l0 y220 (wrap64 (x4_1+1)))=some r:=by first |(rw [hy220];with_reducible exact H) |(have H2_:=(Option.bind_some _ _).symm.trans H;rw [hy220];with_reducible exact H2_) |(have H2_:=(Option.bind_some _ _).symm.trans H;with_reducible exact H2_) | with_reducible exact H |(rw [hy220];exact H) | exact H
        have Ny220:=am hy220
        clear hy220
        have H':=am H
        clear H
        have p214:0≤(x4_1:Int):=ozD (uq)
        have q214:x4_1<(l0.length:Int):=ozD (uq)
        obtain ⟨ad214,e214,hx214_0,hx214_1,hx214_2,hx214_3,hx214_4⟩:=at_T97 HR0.out x4_1 p214 q214
        cases e214
        replace hx214_0:=cb HB.out hx214_0
        replace hx214_1:=cb HB.out hx214_1
        replace hx214_2:=cb HB.out hx214_2
        replace hx214_3:=cb HB.out hx214_3
        replace hx214_4:=cb HB.out hx214_4
        replace p214:=ezT p214
        replace q214:=ezT q214
        go_wp2_with (first |((with_reducible refine jE (f:=72) rfl ?_);refine gL (some 20) Try.func72 #[.agg #[.int .i64 ((jzb l0 x4_1).f0), .int .i64 ((jzb l0 x4_1).f1), .int .i64 ((jzb l0 x4_1).f2), .int .i64 ((jzb l0 x4_1).f3), .bool ((jzb l0 x4_1).f4)]] ?_;(with_reducible refine (jUb.calls ((jzb l0 x4_1).f0) ((jzb l0 x4_1).f1) ((jzb l0 x4_1).f2) ((jzb l0 x4_1).f3) ((jzb l0 x4_1).f4) t215 t216 t217 t218 t219 _ A8.out).mono ?_);rintro e w11 ⟨rfl,hb⟩;refine ⟨_,rfl,?_⟩;replace HO_3:=am (Kd.jy (rq HO_3.out) hb);replace HB:=am (je (bq) hb);(try clear hb);(try clear hb2);(try clear hk);(try clear hi);have p10:0≤(x4_1:Int):=ozD (uq);have q10:(x4_1:Int)<((x3_1.length:Int):Int):=ozD (uq);obtain ⟨go10,co10,eo10,gb10,gl10,cl10,HG10⟩:=Kd.R_form HO_3.out (by omega);(first | cases eo10 |(injection eo10 with ea_ en_ ec_;(first | subst ea_ |(injection ea_ with ea_;subst ea_));subst ec_;clear en_));have GB10:=am gb10;have GG10:=am HG10;clear gb10 gl10 HG10;obtain ⟨ce10,hcl10,hM10,hcc10,hfr10⟩:=Kd.jRb HO_3.out z54 (x4_1:Int) p10 q10;obtain rfl:=jrb hM10;have hx10_0:w11.cell? ⟨go10,(x4_1:Int).toNat * 5,none⟩=some (.int .i64 ((jd x3_1 x4_1).f0)):=hcc10 0 _ rfl;have hx10_1:w11.cell? ⟨go10,(x4_1:Int).toNat * 5+1,none⟩=some (.int .i64 ((jd x3_1 x4_1).f1)):=hcc10 1 _ rfl;have hx10_2:w11.cell? ⟨go10,(x4_1:Int).toNat * 5+2,none⟩=some (.int .i64 ((jd x3_1 x4_1).f2)):=hcc10 2 _ rfl;have hx10_3:w11.cell? ⟨go10,(x4_1:Int).toNat * 5+3,none⟩=some (.int .i64 ((jd x3_1 x4_1).f3)):=hcc10 3 _ rfl;have hx10_4:w11.cell? ⟨go10,(x4_1:Int).toNat * 5+4,none⟩=some (.bool ((jd x3_1 x4_1).f4)):=hcc10 4 _ rfl;have hf10_0:w11.frozen? ⟨go10,(x4_1:Int).toNat * 5,none⟩=false:=hfr10 0;have hf10_1:w11.frozen? ⟨go10,(x4_1:Int).toNat * 5+1,none⟩=false:=hfr10 1;have hf10_2:w11.frozen? ⟨go10,(x4_1:Int).toNat * 5+2,none⟩=false:=hfr10 2;have hf10_3:w11.frozen? ⟨go10,(x4_1:Int).toNat * 5+3,none⟩=false:=hfr10 3;have hf10_4:w11.frozen? ⟨go10,(x4_1:Int).toNat * 5+4,none⟩=false:=hfr10 4;clear hcl10 hcc10 hfr10 hM10;replace p10:=ezT p10;replace q10:=ezT q10;have HX12:=am (show Kd.R k54 54 w11 w.heap.size (fun _=>True) (.slice (some ⟨go10,0,none⟩) x3_1.length co10) x3_1 from (rq HO_3.out));obtain ⟨ce12,hcl12,hM12,hcc12,hfr12⟩:=Kd.jRb HX12.out z54 (x4_1:Int) (ozD (uq)) (by have h_:(x4_1:Int)<((x3_1.length:Int):Int):=ozD (uq);first | exact h_ |(have e_:=(Kd.jq HO_3.out).1;omega) | simpa using h_);obtain rfl:=jrb hM12;have HP12:=Kd.R_seg HX12.out (x4_1:Int) (ozD (uq)) (by have h_:(x4_1:Int)<((x3_1.length:Int):Int):=ozD (uq);first | exact h_ |(have e_:=(Kd.jq HO_3.out).1;omega) | simpa using h_) (seg:=[.int .i64 t215, .int .i64 t216, .int .i64 t217, .int .i64 t218, .bool t219]) (j:=0) hcl12 hcc12 (show 5≤5 from by decide) (x':=(⟨t215,t216,t217,t218,t219⟩:S54)) (jpc _ _ _ (⟨t215,t216,t217,t218,t219⟩:S54) ) (fun _ hk=>hk);have hx12_0:=hcc12 0 _ rfl;(try simp only [show (k54).sz=5 from rfl,Nat.mul_one,Nat.add_zero] at hx12_0);have hf12_0:=hfr12 0;(try simp only [show (k54).sz=5 from rfl,Nat.mul_one,Nat.add_zero] at hf12_0);have hx12_1:=hcc12 1 _ rfl;(try simp only [show (k54).sz=5 from rfl,Nat.mul_one,Nat.add_zero] at hx12_1);have hf12_1:=hfr12 1;(try simp only [show (k54).sz=5 from rfl,Nat.mul_one,Nat.add_zero] at hf12_1);have hx12_2:=hcc12 2 _ rfl;(try simp only [show (k54).sz=5 from rfl,Nat.mul_one,Nat.add_zero] at hx12_2);have hf12_2:=hfr12 2;(try simp only [show (k54).sz=5 from rfl,Nat.mul_one,Nat.add_zero] at hf12_2);have hx12_3:=hcc12 3 _ rfl;(try simp only [show (k54).sz=5 from rfl,Nat.mul_one,Nat.add_zero] at hx12_3);have hf12_3:=hfr12 3;(try simp only [show (k54).sz=5 from rfl,Nat.mul_one,Nat.add_zero] at hf12_3);have hx12_4:=hcc12 4 _ rfl;(try simp only [show (k54).sz=5 from rfl,Nat.mul_one,Nat.add_zero] at hx12_4);have hf12_4:=hfr12 4;(try simp only [show (k54).sz=5 from rfl,Nat.mul_one,Nat.add_zero] at hf12_4);clear hcl12 hcc12 hfr12 hM12) |((with_reducible refine jwb (t:=54) (p:=21) rfl ?_);refine jmb (t:=54) (p:=21) (v:=?vo_w13) (w1:=(((((w11.setCell ⟨go10,(x4_1:Int).toNat * 5,none⟩ (.int .i64 t215)).setCell ⟨go10,(x4_1:Int).toNat * 5+1,none⟩ (.int .i64 t216)).setCell ⟨go10,(x4_1:Int).toNat * 5+2,none⟩ (.int .i64 t217)).setCell ⟨go10,(x4_1:Int).toNat * 5+3,none⟩ (.int .i64 t218)).setCell ⟨go10,(x4_1:Int).toNat * 5+4,none⟩ (.bool t219))) ?hg ?ho ?hn ?hr ?_;(case ho=>rfl);(case hg=>rfl);(case hn=>rfl);(case hr=>exact Y3);intro w13 hw;have hg:w11.grownBy w13 (some go10):=(by rw [hw];exact HP12.2);have hp_:Kd.R k54 54 w13 w.heap.size (fun _=>True) (.slice (some ⟨go10,0,none⟩) x3_1.length co10) y220:=(by rw [hw,Ny220.out];exact HP12.1);clear HP12;replace HO_3:=am (hp_);replace HB:=am ((by rw [hw];exact jk (jk (jk (jk (jk (HB.out) GB10.out) GB10.out) GB10.out) GB10.out) GB10.out:Below w.heap.size w w13));clear hg hw hp_))
        go_roundg k1
        case measure=>have:=HK1.out;omega
        case rel=>exact ⟨(y220),(wrap64 (x4_1+1)),(sq),H',⟨by have:=HK1.out;omega⟩,⟨rq HO_3.out⟩,⟨bq⟩⟩
       ·rw [if_neg c9] at H
        exact absurd H (by simp)
      ·rw [if_neg c7] at H
       exact absurd H (by simp)
     ·rw [if_neg c6] at H
      have c6b0:decide (x4_1<(l0.length:Int))=false:=dzF c6
      clear c6
      obtain rfl:=Option.some.inj H
      go_wp2
      go_ret
      exact ⟨_,Y1,rq HO_3.out,bq⟩
  ·rw [if_neg c3] at H
   exact absurd H (by simp)
 ·rw [if_neg c2] at H
  exact absurd H (by simp)
def jY.f (k : Nat) (l0_0 : List (S97)) : Option ((List (S54))) := (jqa.f k l0_0).bind fun t224 => (some t224)
set_option maxHeartbeats 8000000 in
set_option maxRecDepth 100000 in
theorem jY.calls (k : Nat) (A0_0 : Option Addr) (c0_0 : Nat) (l0_0 : List (S97)) (r : List (S54)) (w : World) (hr0_0 : Kd.C k97 w A0_0 l0_0.length l0_0) (hc0_0 : l0_0.length ≤ c0_0) (h : jY.f k l0_0 = some r) :
  Calls Try.prog 13 #[.agg #[.slice A0_0 l0_0.length c0_0]] w fun e w'=>∃ v0_:Value,e=.returned (.agg #[v0_])∧Kd.R k54 54 w' w.heap.size (fun _=>True) v0_ r∧Below w.heap.size w w':=by
 have hu27:=Try.underlying27
 have hu32:=Try.underlying32
 have HR0_0:=am hr0_0
 have HC0_0:=am hc0_0
 clear hr0_0 hc0_0
 have HB:=am (Below.refl w.heap.size w)
 have H:((jqa.f k l0_0).bind fun t224=>(some t224))=some r:=h
 clear h
 replace H:=bzS H
 obtain ⟨t224,A20,H⟩:=H
 replace H:(some t224)=some r:=H
 have A2:=am A20
 clear A20
 obtain rfl:=Option.some.inj H
 go_enter Try.func13,Try.ntmps13
 go_wp2_with (first |((with_reducible refine jD (N:=1) rfl ?_);refine bE (N:=1) (cs:=#[.slice A0_0 l0_0.length c0_0]) (t:=27) ?_;intro gb221 hg w3 hbox hb;have BK221:=am (hbox);have GW221:=am ((Y0:w.heap.size≤gb221));have GE221:=am ((Y0:w.heap.size≤gb221));replace HB:=am (je (bq) hb);clear hb hbox hg) |((with_reducible refine jD (N:=2) rfl ?_);refine bE (N:=2) (cs:=#[.slice none 0 0]) (t:=32) ?_;intro gb222 hg w4 hbox hb;have BK222:=am (hbox);have GW222:=am ((Y131:w.heap.size≤gb222));have GE222:=am ((Y131:w.heap.size≤gb222));have NB221_222:=am ((by rw [hg];exact Nat.ne_of_lt (jP (g:=gb221) (o:=.cells #[.slice A0_0 l0_0.length c0_0] 27 (0,0)) (kq BK221.out)):gb221≠gb222));have NB222_221:=am ((by rw [hg];exact Nat.ne_of_gt (jP (g:=gb221) (o:=.cells #[.slice A0_0 l0_0.length c0_0] 27 (0,0)) (kq BK221.out)):gb222≠gb221));replace BK221:=am (ja (g:=gb221) (o:=.cells #[.slice A0_0 l0_0.length c0_0] 27 (0,0)) (kq BK221.out) hb);replace HB:=am (je (by repeat (first |(with_reducible first | exact HB.out | apply jo | apply jl | apply jm | refine jk ?_ GE221.out) | exact HB.out)) hb);clear hb hbox hg) |((with_reducible refine jD (N:=3) rfl ?_);refine bE (N:=3) (cs:=#[.slice none 0 0]) (t:=32) ?_;intro gb223 hg w5 hbox hb;have BK223:=am (hbox);have GW223:=am ((Y132:w.heap.size≤gb223));have GE223:=am ((Y132:w.heap.size≤gb223));have NB221_223:=am ((by rw [hg];exact Nat.ne_of_lt (jP (g:=gb221) (o:=.cells #[.slice A0_0 l0_0.length c0_0] 27 (0,0)) (kq BK221.out)):gb221≠gb223));have NB223_221:=am ((by rw [hg];exact Nat.ne_of_gt (jP (g:=gb221) (o:=.cells #[.slice A0_0 l0_0.length c0_0] 27 (0,0)) (kq BK221.out)):gb223≠gb221));have NB222_223:=am ((by rw [hg];exact Nat.ne_of_lt (jP (g:=gb222) (o:=.cells #[.slice none 0 0] 32 (0,0)) (kq BK222.out)):gb222≠gb223));have NB223_222:=am ((by rw [hg];exact Nat.ne_of_gt (jP (g:=gb222) (o:=.cells #[.slice none 0 0] 32 (0,0)) (kq BK222.out)):gb223≠gb222));replace BK221:=am (ja (g:=gb221) (o:=.cells #[.slice A0_0 l0_0.length c0_0] 27 (0,0)) (kq BK221.out) hb);replace BK222:=am (ja (g:=gb222) (o:=.cells #[.slice none 0 0] 32 (0,0)) (kq BK222.out) hb);replace HB:=am (je (by repeat (first |(with_reducible first | exact HB.out | apply jo | apply jl | apply jm | refine jk ?_ GE221.out | refine jk ?_ GE222.out) | exact HB.out)) hb);clear hb hbox hg;have hnb6:=NB221_222.out;have hnc6:=NB222_221.out;have hnb7:=NB221_223.out;have hnc7:=NB223_221.out;have hcz8_0:=bc0 BK221.out;have hfz8_0:=jb BK221.out 0) |((with_reducible refine jE (f:=44) rfl ?_);refine gL (some 6) Try.func44 #[.slice A0_0 l0_0.length c0_0] ?_;(with_reducible refine (jqa.calls k _ _ l0_0 t224 _ ?side1 ?side2 A2.out).mono ?_);(case side1=>exact cq (Kd.jK HR0_0.out HB.out));(case side2=>exact HC0_0.out);rintro e w9 ⟨v225,rfl,ho0,hb⟩;refine ⟨_,rfl,?_⟩;have HO226:=am (Kd.jna ho0 (jA (Y101)));replace BK221:=am (ja (g:=gb221) (o:=.cells #[.slice A0_0 l0_0.length c0_0] 27 (0,0)) (kq BK221.out) hb);replace BK222:=am (ja (g:=gb222) (o:=.cells #[.slice none 0 0] 32 (0,0)) (kq BK222.out) hb);replace BK223:=am (ja (g:=gb223) (o:=.cells #[.slice none 0 0] 32 (0,0)) (kq BK223.out) hb);replace HB:=am (je (Y101) hb);(try clear hb);(try clear hb2);(try clear hk);(try clear hi);(try clear ho0);obtain ⟨Ao10,co10,eo10⟩:=Kd.jca HO226.out;subst eo10;have hnb11:=NB223_222.out;have hnc11:=NB222_223.out;have hcz12_0:=bc0 BK223.out;have hfz12_0:=jb BK223.out 0;have hcz13_0:=bc0 BK222.out;have hfz13_0:=jb BK222.out 0))
 refine bodyPost_ret (results_cell_row rfl _ _ gb222 32 #[.slice Ao10 t224.length co10] (0,0) _ rfl (by (with_reducible repeat (first | refine jf ?_ _ | refine jh ?_ | refine jg ?_ _));refine jza (cs:=#[.slice none 0 0]) ?_ 0 _ rfl;(with_reducible repeat (first | refine jf ?_ _ | refine jh ?_ | refine jg ?_ _));refine jO ?_ NB222_223.out _;(with_reducible repeat (first | refine jf ?_ _ | refine jh ?_ | refine jg ?_ _));exact BK222.out) Try.underlying32 rfl (by kernel_rfl)) rfl ?_
 exact ⟨_,Y1,by (with_reducible repeat (first | apply Kd.jM | apply Kd.jL | apply Kd.jQ));exact Kd.jI (Kd.jya (p:=⟨gb222,0,none⟩) (Kd.jya (p:=⟨gb223,0,none⟩) (Kd.jwa (Kd.jwa HO226.out BK223.out (by decide)) BK222.out (by decide)) (fun _ hk=>hk.1.2) (.slice Ao10 t224.length co10)) (fun _ hk=>hk.2) (.slice Ao10 t224.length co10)) (fun _ hk=>trivial),Y101⟩
def jF.l0 : Nat → List Int → Int → Int → Int → Option (Int)
 | 0,_,_,_,_=>none
 | k+1,x0,x1,x7,x8=>if x8<x7 then (if 0≤x8 then (if x8<(x0.length:Int) then (if x1=(rd x0 x8) then (some x8) else (jF.l0 k x0 x1 x7 (wrap64 (x8+1)))) else (none)) else (none)) else (some (-1))
def jF.f (k : Nat) (l0 : List Int) (a1 : Int) : Option (Int) := jF.l0 k l0 a1 (l0.length : Int) 0
set_option maxHeartbeats 8000000 in
set_option maxRecDepth 100000 in
theorem jF.calls (k : Nat) (A0 : Option Addr) (c0 : Nat) (l0 : List Int) (a1 : Int) (r : Int) (w : World) (hr0 : Kd.C (Kd.int .i64) w A0 l0.length l0) (hc0 : l0.length ≤ c0) (h : jF.f k l0 a1 = some r) :
  Calls Try.prog 76 #[.slice A0 l0.length c0, .int .i64 a1] w fun e w'=>e=.returned (.int .i64 r)∧jgb w w':=by
 have HR0:=am hr0
 have HC0:=am hc0
 clear hr0 hc0
 have H:(jF.l0 k l0 a1 (l0.length:Int) 0)=some r:=h
 clear h
 have H':=am H
 clear H
 go_enter Try.func76,Try.ntmps76
 go_wp2
 go_loopg [8] k (fun kq v8 w'=>∃ (x8_1:Int),v8=.int .i64 x8_1∧jw (jF.l0 kq l0 a1 (l0.length:Int) x8_1=some r)∧jw (kq≤k)∧jgb w w')
 case atStart=>exact ⟨(0),(sq),H',⟨Nat.le_refl _⟩,Y2⟩
 case round =>
  clear H'
  try clear p2
  obtain ⟨x8_1,rfl,HA,HK1,⟨m1,rfl⟩⟩:=hrel
  cases gk with
  | zero=>exact absurd HA.out (by simp [jF.l0])
  | succ k1 =>
   have H:=HA.out
   clear HA
   simp only [jF.l0] at H
   by_cases c3:x8_1<(l0.length:Int)
   ·rw [if_pos c3] at H
    have c3b0:decide (x8_1<(l0.length:Int))=true:=dzT c3
    clear c3
    by_cases c4:0≤x8_1
    ·rw [if_pos c4] at H
     have c4b0:decide (0≤x8_1)=true:=dzT c4
     clear c4
     by_cases c5:x8_1<(l0.length:Int)
     ·rw [if_pos c5] at H
      have c5b0:decide (x8_1<(l0.length:Int))=true:=dzT c5
      clear c5
      by_cases c6:a1=(rd l0 x8_1)
      ·rw [if_pos c6] at H
       have c6b0:(a1 == (rd l0 x8_1))=true:=beq_iff_eq.mpr c6
       have c6b1:(a1 != (rd l0 x8_1))=false:=bne_eq_false_iff_eq.mpr c6
       clear c6
       obtain rfl:=Option.some.inj H
       have p227:0≤(x8_1:Int):=ozD (uq)
       have q227:x8_1<(l0.length:Int):=ozD (uq)
       obtain ⟨ad227,e227,hx227_0⟩:=Kd.jKb HR0.out x8_1 p227 q227
       cases e227
       replace p227:=ezT p227
       replace q227:=ezT q227
       go_wp2
       go_ret
       exact ⟨sq,Y2⟩
      ·rw [if_neg c6] at H
       have c6b0:(a1 == (rd l0 x8_1))=false:=beq_eq_false_iff_ne.mpr c6
       have c6b1:(a1 != (rd l0 x8_1))=true:=bne_iff_ne.mpr c6
       have H':=am H
       clear H
       have p227:0≤(x8_1:Int):=ozD (uq)
       have q227:x8_1<(l0.length:Int):=ozD (uq)
       obtain ⟨ad227,e227,hx227_0⟩:=Kd.jKb HR0.out x8_1 p227 q227
       cases e227
       replace p227:=ezT p227
       replace q227:=ezT q227
       go_wp2
       go_roundg k1
       case measure=>have:=HK1.out;omega
       case rel=>exact ⟨(wrap64 (x8_1+1)),(sq),H',⟨by have:=HK1.out;omega⟩,Y2⟩
     ·rw [if_neg c5] at H
      exact absurd H (by simp)
    ·rw [if_neg c4] at H
     exact absurd H (by simp)
   ·rw [if_neg c3] at H
    have c3b0:decide (x8_1<(l0.length:Int))=false:=dzF c3
    clear c3
    obtain rfl:=Option.some.inj H
    go_wp2
    go_ret
    exact ⟨sq,Y2⟩
def jpa.f (k : Nat) (l0 : List Int) (a1 : Int) : Option (Bool) := (jF.f k l0 a1).bind fun t228 => (some (decide (t228 ≥ 0)))
set_option maxHeartbeats 8000000 in
set_option maxRecDepth 100000 in
theorem jpa.calls (k : Nat) (A0 : Option Addr) (c0 : Nat) (l0 : List Int) (a1 : Int) (r : Bool) (w : World) (hr0 : Kd.C (Kd.int .i64) w A0 l0.length l0) (hc0 : l0.length ≤ c0) (h : jpa.f k l0 a1 = some r) :
  Calls Try.prog 81 #[.slice A0 l0.length c0, .int .i64 a1] w fun e w'=>e=.returned (.bool r)∧jgb w w':=by
 have HR0:=am hr0
 have HC0:=am hc0
 clear hr0 hc0
 have H:((jF.f k l0 a1).bind fun t228=>(some (decide (t228≥0))))=some r:=h
 clear h
 replace H:=bzS H
 obtain ⟨t228,A30,H⟩:=H
 replace H:(some (decide (t228≥0)))=some r:=H
 have A3:=am A30
 clear A30
 obtain rfl:=Option.some.inj H
 go_enter Try.func81,Try.ntmps81
 go_wp2_with (first |((with_reducible refine jE (f:=76) rfl ?_);refine gL (some 7) Try.func76 #[.slice A0 l0.length c0, .int .i64 a1] ?_;(with_reducible refine (jF.calls k _ _ l0 a1 t228 _ ?side1 ?side2 A3.out).mono ?_);(case side1=>repeat (first | exact HR0.out |(with_reducible refine Kd.C_alloc ?_ _) |(with_reducible refine Kd.C_drewN ?_ _) |(with_reducible refine Kd.C_drew ?_)));(case side2=>exact HC0.out);rintro e w' ⟨rfl,⟨nd,rfl⟩⟩;refine ⟨_,rfl,?_⟩))
 go_ret
 exact ⟨sq,Y2⟩
def jMa.f (l0 : List Int) : Option (List Int) := some (l0)
set_option maxHeartbeats 8000000 in
set_option maxRecDepth 100000 in
theorem jMa.calls (P0_ : Nat → Prop) (u9000_ : Value) (l0 : List Int) (r : List Int) (w0 w : World) (hB : Below w0.heap.size w0 w) (ho0 : Kd.R (Kd.int .i64) 3 w w0.heap.size P0_ u9000_ l0) (h : jMa.f l0 = some r) :
  Calls Try.prog 83 #[u9000_] w fun e w'=>∃ v0_:Value,e=.returned (v0_)∧Kd.R (Kd.int .i64) 3 w' w0.heap.size (fun k_=>(P0_ k_∨w.heap.size≤k_)) v0_ r∧Below w0.heap.size w0 w'∧Kept w w' (fun k_=>P0_ k_):=by
 have HO0:=am (show Kd.R (Kd.int .i64) 3 w w0.heap.size (fun k_=>(P0_ k_∨w.heap.size≤k_)) u9000_ l0 from Kd.jI ho0 (fun k_ hk=>(.inl hk)))
 have HK:=am (Kept.refl w (fun k_=>P0_ k_))
 have HW0:=am hB.size
 have HB:=am hB
 clear hB
 have H:(some (l0))=some r:=h
 clear h
 obtain ⟨y229,hy229⟩:∃ y_:List Int,y_=(l0):=⟨_,rfl⟩
 replace H:(some y229)=some r:=by first |(rw [hy229];with_reducible exact H) |(have H2_:=(Option.bind_some _ _).symm.trans H;rw [hy229];with_reducible exact H2_) |(have H2_:=(Option.bind_some _ _).symm.trans H;with_reducible exact H2_) | with_reducible exact H |(rw [hy229];exact H) | exact H
 have Ny229:=am hy229
 clear hy229
 obtain rfl:=Option.some.inj H
 obtain ⟨Ao2,co2,eo2⟩:=Kd.jca HO0.out
 subst eo2
 obtain ⟨i03,hi03,_,hsz3,_⟩:=info_parts info3
 have hy3:y229.length=l0.length:=(by rw [Ny229.out])
 have hcut3:=cut_clip (P:=Try.prog) 45 3 Try.underlying45 hi03 Ao2 _ co2 _ (Kd.jq HO0.out).2.1 hy3
 have hr3:=Kd.R_clip HO0.out Ny229.out
 clear hy3 hi03 hsz3 HO0
 have HO231:=am hr3
 clear hr3
 go_enter Try.func83,Try.ntmps83
 go_wp2
 go_ret
 exact ⟨_,Y1,rq HO231.out,bq,Y10⟩

def jcc (nx : Int → Option Int) : Nat → Int → List Int → Option (List Int)
 | 0,_,_=>none
 | k+1,f,acc=>if f≥0 then ((jpa.f k acc f).bind fun b=>if b=true then some acc else (if acc.length<17592186044416 then (nx f).bind fun g=>jcc nx k g (acc ++ [f]) else none)) else some acc
set_option maxHeartbeats 8000000 in
set_option maxRecDepth 100000 in
theorem impl_contexts_walk (k : Nat) (B0_ : Nat) (nx : Int → Option Int) (a0 : Int) (r : List Int) (w : World) (h : jcc nx k a0 [] = some r)
  (hp:∀ W,Below w.heap.size w W→∀ (x y:Int),nx x=some y→Calls Try.prog 86 #[.int .i64 x, .pointer (some ⟨B0_,0,none⟩)] W fun e w'=>e=.returned (.int .i64 y)∧Below W.heap.size W w') :
  Calls Try.prog 85 #[.int .i64 a0, .func (.func 86) #[] #[.pointer (some ⟨B0_,0,none⟩)]] w fun e w'=>∃ v0_:Value,e=.returned v0_∧Kd.R (Kd.int .i64) 3 w' w.heap.size (fun _=>True) v0_ r∧Below w.heap.size w w':=by
 have HP:=am hp
 have H0:=am h
 have HB:=am (Below.refl w.heap.size w)
 clear hp h
 go_enter Try.func85,Try.ntmps85
 go_wp2_with ((with_reducible refine jD (N:=6) rfl ?_);refine Kd.R_lit (Kd.int .i64) _ 3 ?hg (N:=6) ?hd (xs:=([]:List Int)) (inner:=[]) (ok:=fun _=>True) (okp:=fun _=>True) ?hr ?hp (fun _ hk=>hk) trivial (Below.refl _ _) (Nat.le_refl _) (by simp) ?_;(case hd=>rfl);(case hg=>rfl);(case hr=>exact Y3);(case hp=>exact (Reps.none _ _));intro v111 w4 ho5 hb hg_ hnew_;clear hg_ hnew_;have n0_:=am (Kd.jna ho5 (jA (bq)));have n2_:=am (je (bq) hb);clear HB;have HO:=n0_;have HB:=n2_;clear n0_ n2_ hb ho5)
 go_loopg [0,5] k (fun kq v0 v5 w'=>∃ (x:Int) (acc:List Int),v0=.int .i64 x∧jw (jcc nx kq x acc=some r)∧jw (kq≤k)∧jw (Kd.R (Kd.int .i64) 3 w' w.heap.size (fun _=>True) v5 acc)∧jw (Below w.heap.size w w'))
 case atStart=>exact ⟨a0,[],(sq),H0,⟨Nat.le_refl _⟩,⟨rq HO.out⟩,⟨bq⟩⟩
 case round =>
  clear H0 HO HB
  obtain ⟨x,acc,rfl,HA,HK1,HO,HB⟩:=hrel
  cases gk with
  | zero=>exact absurd HA.out (by simp [jcc])
  | succ k1 =>
   have H:=HA.out
   clear HA
   simp only [jcc] at H
   obtain ⟨Ao,co,eo⟩:=Kd.jca HO.out
   subst eo
   by_cases c6:x≥0
   ·rw [if_pos c6] at H
    have c6b0:decide (0≤x)=true:=dzT c6
    clear c6
    obtain ⟨b,A70,H⟩:=bzS H
    have A7:=am A70
    clear A70
    cases b with
    | true =>
     rw [if_pos rfl] at H
     obtain rfl:=Option.some.inj H
     clear H
     go_wp2_with (first |(go_at_call 81;(with_reducible refine (jpa.calls k1 _ _ acc x true _ ?side1 ?side2 A7.out).mono ?_);(case side1=>exact cq (Kd.jq HO.out).2.2);(case side2=>exact (Kd.jq HO.out).2.1);rintro e w' ⟨rfl,⟨nd,rfl⟩⟩) |(go_at_call 83;refine (jMa.calls (fun _=>True) _ acc acc w _ (bq) (rq HO.out) (show jMa.f acc=some acc from rfl)).mono ?_;rintro e w9 ⟨v9,rfl,hR9,hB9,hK9⟩))
     go_ret
     exact ⟨_,rfl,Kd.jI hR9 (fun _ _=>trivial),hB9⟩
    | false =>
     rw [if_neg (by simp)] at H
     by_cases c10:acc.length<17592186044416
     ·rw [if_pos c10] at H
      have LM:=am c10
      clear c10
      obtain ⟨y,hy,H⟩:=bzS H
      have HQ:=am hy
      have H':=am H
      clear H hy
      go_wp2_with (first |(go_at_call 81;(with_reducible refine (jpa.calls k1 _ _ acc x false _ ?side1 ?side2 A7.out).mono ?_);(case side1=>exact cq (Kd.jq HO.out).2.2);(case side2=>exact (Kd.jq HO.out).2.1);rintro e w' ⟨rfl,⟨nd,rfl⟩⟩) |(go_at_call 86;refine (HP.out _ (bq) _ _ HQ.out).mono ?_;rintro e w2 ⟨rfl,hb2⟩;have n1_:=am (Kd.jy (rq HO.out) hb2);have n2_:=am (je (bq) hb2);clear HO HB;have HO:=n1_;have HB:=n2_;clear n1_ n2_ hb2) |((with_reducible refine jJb (b:=.append) (xs:=#[.tmp 18, .tmp 20]) rfl ?_);at_builtin;refine Kd.R_append (Kd.int .i64) (w0:=w) w.heap.size rfl (.tmp 18) (.tmp 20) 45 3 (.int .i64 0) 8 rfl Try.underlying45 info3 rfl (by decide) (by omega) (.slice Ao acc.length co) acc x [.int .i64 x] (fun _=>True) (fun _=>False) rfl rfl ?aP (fun _ hk=>hk.elim) ?aF ?aO ?aB ?aS ?aL ?_;(case aP=>exact rfl);(case aB=>exact (bq));(case aF=>exact (fun _ _=>trivial));(case aO=>exact (rq HO.out));(case aS=>exact (jA (bq)));(case aL=>have:=LM.out;omega);intro v115 w14 ho hb hg hat;have n1_:=am (hb);have n2_:=am (ho);clear HB HO;have HB:=n1_;have HO:=n2_;clear n1_ n2_ ho hb hg hat))
      go_roundg k1
      case measure=>have:=HK1.out;omega
      case rel=>exact ⟨y,acc ++ [x],(sq),H',⟨by have:=HK1.out;omega⟩,⟨rq HO.out⟩,⟨bq⟩⟩
     ·rw [if_neg c10] at H
      cases H
   ·rw [if_neg c6] at H
    have c6b0:decide (0≤x)=false:=dzF c6
    clear c6
    obtain rfl:=Option.some.inj H
    clear H
    go_wp2_with (go_at_call 83;refine (jMa.calls (fun _=>True) _ acc acc w _ (bq) (rq HO.out) (show jMa.f acc=some acc from rfl)).mono ?_;rintro e w9 ⟨v9,rfl,hR9,hB9,hK9⟩)
    go_ret
    exact ⟨_,rfl,Kd.jI hR9 (fun _ _=>trivial),hB9⟩
def ctxF (h : List S54) (g : Int) : Option Int := if 0 ≤ g then if g < (h.length : Int) then some (jd h g).f3 else none else none
theorem impl_contexts1_calls (A_ : Option Addr) (c_ : Nat) (l : List S54) (x y : Int) (B0 : Nat) (w : World) (hr : Kd.C k54 w A_ l.length l) (hc : w.cell? ⟨B0, 0, none⟩ = some (.slice A_ l.length c_)) (h : ctxF l x = some y) :
  Calls Try.prog 86 #[.int .i64 x, .pointer (some ⟨B0,0,none⟩)] w fun e w'=>e=.returned (.int .i64 y)∧Below w.heap.size w w':=by
 unfold ctxF at h
 by_cases h0:0≤x
 ·rw [if_pos h0] at h
  by_cases h1:x<(l.length:Int)
  ·rw [if_pos h1] at h
   obtain ⟨ad,rfl,hx0,hx1,hx2,hx3,hx4⟩:=jOa hr x h0 h1
   have HY:=am (Option.some.inj h)
   have HB:=am (Below.refl w.heap.size w)
   clear h hr
   have p0:=ezT h0
   have p1:=ezT h1
   have hu32:=Try.underlying32
   go_enter Try.func86,Try.ntmps86
   go_wp2
   go_ret
   exact ⟨by rw [← HY.out];rfl,bq⟩
  ·rw [if_neg h1] at h;cases h
 ·rw [if_neg h0] at h;cases h
def jWa.f (k : Nat) (l0_0 : List S54) (a1 : Int) : Option (List Int) := jcc (ctxF l0_0) k a1 []
theorem hp_cell_new (w : World) (v : Value) (t : TypeId) : (w.alloc (.cells #[v] t)).cell? ⟨w.heap.size, 0, none⟩ = some v := by simp
set_option maxHeartbeats 8000000 in
set_option maxRecDepth 100000 in
theorem jWa.calls (k : Nat) (A0_0 : Option Addr) (c0_0 : Nat) (l0_0 : List (S54)) (a1 : Int) (r : List Int) (w : World) (hr0_0 : Kd.C k54 w A0_0 l0_0.length l0_0) (hc0_0 : l0_0.length ≤ c0_0) (h : jWa.f k l0_0 a1 = some r) :
  Calls Try.prog 57 #[.agg #[.slice A0_0 l0_0.length c0_0], .int .i64 a1] w fun e w'=>∃ v0_:Value,e=.returned (v0_)∧Kd.R (Kd.int .i64) 3 w' w.heap.size (fun _=>True) v0_ r∧Below w.heap.size w w':=by
 have hu32:=Try.underlying32
 have B3:=am ((Below.refl w.heap.size w).alloc (Nat.le_refl _) (.cells #[.slice A0_0 l0_0.length c0_0] 32))
 have KC:=am (hp_cell_new w (.slice A0_0 l0_0.length c0_0) 32)
 have HF:=am (fun W (hb:Below w.heap.size w W) (B0:Nat) (hc:W.cell? ⟨B0,0,none⟩=some (.slice A0_0 l0_0.length c0_0))=>impl_contexts_walk k B0 (ctxF l0_0) a1 r W h (fun W' hb' x y hx =>
  impl_contexts1_calls A0_0 c0_0 l0_0 x y B0 W' (Kd.jK (Kd.jK hr0_0 hb) hb') (jCa hb' hc) hx))
 clear h hr0_0
 go_enter Try.func57,Try.ntmps57
 go_wp2_with (go_at_call 85;refine (HF.out _ B3.out _ KC.out).mono ?_;rintro e w2 ⟨v2,rfl,hr2,hb3⟩)
 go_ret
 exact ⟨_,rfl,Kd.jna hr2 B3.out.size,jyb B3.out B3.out.size hb3⟩
def jma.f (a0 : Int) (a1 : Int) (a2 : Int) : Option (Bool) := if a0 ≥ a1 then (some (decide (a0 ≤ a2))) else (some false)
set_option maxHeartbeats 8000000 in
set_option maxRecDepth 100000 in
theorem jma.calls (a0 : Int) (a1 : Int) (a2 : Int) (r : Bool) (w : World) (h : jma.f a0 a1 a2 = some r) :
  Calls Try.prog 102 #[.int .i64 a0, .int .i64 a1, .int .i64 a2] w fun e w'=>e=.returned (.bool r)∧jgb w w':=by
 have H:(if a0≥a1 then (some (decide (a0≤a2))) else (some false))=some r:=h
 clear h
 by_cases c4:a0≥a1
 ·rw [if_pos c4] at H
  have c4b0:decide (a1≤a0)=true:=dzT c4
  clear c4
  obtain rfl:=Option.some.inj H
  go_enter Try.func102,Try.ntmps102
  go_wp2
  go_ret
  exact ⟨sq,Y2⟩
 ·rw [if_neg c4] at H
  have c4b0:decide (a1≤a0)=false:=dzF c4
  clear c4
  obtain rfl:=Option.some.inj H
  go_enter Try.func102,Try.ntmps102
  go_wp2
  go_ret
  exact ⟨sq,Y2⟩
def jVa.f (l0_0 : List (S94)) (a1 : Int) : Option (Bool) := (jma.f a1 0 (wrap64 ((l0_0.length : Int) - 1))).bind fun t235 => (some t235)
set_option maxHeartbeats 8000000 in
set_option maxRecDepth 100000 in
theorem jVa.calls (A0_0 : Option Addr) (c0_0 : Nat) (l0_0 : List (S94)) (a1 : Int) (r : Bool) (w : World) (hr0_0 : Kd.C k94 w A0_0 l0_0.length l0_0) (hc0_0 : l0_0.length ≤ c0_0) (h : jVa.f l0_0 a1 = some r) :
  Calls Try.prog 94 #[.agg #[.slice A0_0 l0_0.length c0_0], .int .i64 a1] w fun e w'=>e=.returned (.bool r)∧Below w.heap.size w w':=by
 have hu37:=Try.underlying37
 have HR0_0:=am hr0_0
 have HC0_0:=am hc0_0
 clear hr0_0 hc0_0
 have HB:=am (Below.refl w.heap.size w)
 have H:((jma.f a1 0 (wrap64 ((l0_0.length:Int) - 1))).bind fun t235=>(some t235))=some r:=h
 clear h
 replace H:=bzS H
 obtain ⟨t235,A30,H⟩:=H
 replace H:(some t235)=some r:=H
 have A3:=am A30
 clear A30
 obtain rfl:=Option.some.inj H
 go_enter Try.func94,Try.ntmps94
 go_wp2_with (first |((with_reducible refine jD (N:=2) rfl ?_);refine bE (N:=2) (cs:=#[.slice A0_0 l0_0.length c0_0]) (t:=37) ?_;intro gb234 hg w4 hbox hb;have BK234:=am (hbox);have GW234:=am ((Y0:w.heap.size≤gb234));have GE234:=am ((Y0:w.heap.size≤gb234));replace HB:=am (je (bq) hb);clear hb hbox hg;have hcz5_0:=bc0 BK234.out;have hfz5_0:=jb BK234.out 0) |((with_reducible refine jE (f:=102) rfl ?_);refine gL (some 10) Try.func102 #[.int .i64 a1, .int .i64 0, .int .i64 (wrap64 ((l0_0.length:Int) - 1))] ?_;(with_reducible refine (jma.calls a1 0 (wrap64 ((l0_0.length:Int) - 1)) t235 _ A3.out).mono ?_);rintro e w' ⟨rfl,⟨nd,rfl⟩⟩;refine ⟨_,rfl,?_⟩))
 go_ret
 exact ⟨Y1,by repeat (first |(with_reducible first | exact HB.out | apply jo | apply jl | apply jm | refine jk ?_ GE234.out) | exact HB.out)⟩
def jjb.f (a0 : Int) : Option (Bool) := (jma.f a0 0 99).bind fun t236 => (some t236)
set_option maxHeartbeats 8000000 in
set_option maxRecDepth 100000 in
theorem jjb.calls (a0 : Int) (r : Bool) (w : World) (h : jjb.f a0 = some r) :
  Calls Try.prog 95 #[.int .i64 a0] w fun e w'=>e=.returned (.bool r)∧jgb w w':=by
 have H:((jma.f a0 0 99).bind fun t236=>(some t236))=some r:=h
 clear h
 replace H:=bzS H
 obtain ⟨t236,A20,H⟩:=H
 replace H:(some t236)=some r:=H
 have A2:=am A20
 clear A20
 obtain rfl:=Option.some.inj H
 go_enter Try.func95,Try.ntmps95
 go_wp2_with (first |((with_reducible refine jE (f:=102) rfl ?_);refine gL (some 4) Try.func102 #[.int .i64 a0, .int .i64 0, .int .i64 99] ?_;(with_reducible refine (jma.calls a0 0 99 t236 _ A2.out).mono ?_);rintro e w' ⟨rfl,⟨nd,rfl⟩⟩;refine ⟨_,rfl,?_⟩))
 go_ret
 exact ⟨sq,Y2⟩
def jGa.l0 : Nat → ByteArray → Int → Int → Option (Bool)
 | 0,_,_,_=>none
 | k+1,x0,x5,x6=>if x6<x5 then (if 0≤x6 then (if x6<(x0.size:Int) then (if (bt x0 x6)<97 then (some false) else (if (bt x0 x6) > 122 then (some false) else (jGa.l0 k x0 x5 (wrap64 (x6+1))))) else (none)) else (none)) else ((jma.f (x0.size:Int) 1 6).bind fun t237=>(some t237))
def jGa.f (k : Nat) (a0 : ByteArray) : Option (Bool) := jGa.l0 k a0 (a0.size : Int) 0
set_option maxHeartbeats 8000000 in
set_option maxRecDepth 100000 in
theorem jGa.calls (k : Nat) (a0 : ByteArray) (r : Bool) (w : World) (h : jGa.f k a0 = some r) :
  Calls Try.prog 107 #[.string a0] w fun e w'=>e=.returned (.bool r)∧jgb w w':=by
 have H:(jGa.l0 k a0 (a0.size:Int) 0)=some r:=h
 clear h
 have H':=am H
 clear H
 go_enter Try.func107,Try.ntmps107
 go_wp2
 go_loopg [6] k (fun kq v6 w'=>∃ (x6_1:Int),v6=.int .i64 x6_1∧jw (jGa.l0 kq a0 (a0.size:Int) x6_1=some r)∧jw (kq≤k)∧jgb w w')
 case atStart=>exact ⟨(0),(sq),H',⟨Nat.le_refl _⟩,Y2⟩
 case round =>
  clear H'
  try clear c1
  obtain ⟨x6_1,rfl,HA,HK1,⟨m1,rfl⟩⟩:=hrel
  cases gk with
  | zero=>exact absurd HA.out (by simp [jGa.l0])
  | succ k1 =>
   have H:=HA.out
   clear HA
   simp only [jGa.l0] at H
   by_cases c2:x6_1<(a0.size:Int)
   ·rw [if_pos c2] at H
    have c2b0:decide (x6_1<(a0.size:Int))=true:=dzT c2
    clear c2
    by_cases c3:0≤x6_1
    ·rw [if_pos c3] at H
     have c3b0:decide (0≤x6_1)=true:=dzT c3
     clear c3
     by_cases c4:x6_1<(a0.size:Int)
     ·rw [if_pos c4] at H
      have c4b0:decide (x6_1<(a0.size:Int))=true:=dzT c4
      clear c4
      by_cases c6:(bt a0 x6_1)<97
      ·rw [if_pos c6] at H
       have c6b0:decide ((bt a0 x6_1)<97)=true:=dzT c6
       clear c6
       obtain rfl:=Option.some.inj H
       have p5:0≤(x6_1:Int):=ozD (uq)
       have q5:x6_1<(a0.size:Int):=ozD (uq)
       have hx5:=bt_at a0 x6_1
       replace p5:=ezT p5
       replace q5:=ezT q5
       go_wp2
       go_ret
       exact ⟨sq,Y2⟩
      ·rw [if_neg c6] at H
       have c6b0:decide ((bt a0 x6_1)<97)=false:=dzF c6
       clear c6
       by_cases c8:(bt a0 x6_1) > 122
       ·rw [if_pos c8] at H
        have c8b0:decide (122<(bt a0 x6_1))=true:=dzT c8
        clear c8
        obtain rfl:=Option.some.inj H
        have p5:0≤(x6_1:Int):=ozD (uq)
        have q5:x6_1<(a0.size:Int):=ozD (uq)
        have hx5:=bt_at a0 x6_1
        replace p5:=ezT p5
        replace q5:=ezT q5
        have p7:0≤(x6_1:Int):=ozD (uq)
        have q7:x6_1<(a0.size:Int):=ozD (uq)
        have hx7:=bt_at a0 x6_1
        replace p7:=ezT p7
        replace q7:=ezT q7
        go_wp2
        go_ret
        exact ⟨sq,Y2⟩
       ·rw [if_neg c8] at H
        have c8b0:decide (122<(bt a0 x6_1))=false:=dzF c8
        clear c8
        have H':=am H
        clear H
        have p5:0≤(x6_1:Int):=ozD (uq)
        have q5:x6_1<(a0.size:Int):=ozD (uq)
        have hx5:=bt_at a0 x6_1
        replace p5:=ezT p5
        replace q5:=ezT q5
        have p7:0≤(x6_1:Int):=ozD (uq)
        have q7:x6_1<(a0.size:Int):=ozD (uq)
        have hx7:=bt_at a0 x6_1
        replace p7:=ezT p7
        replace q7:=ezT q7
        go_wp2
        go_roundg k1
        case measure=>have:=HK1.out;omega
        case rel=>exact ⟨(wrap64 (x6_1+1)),(sq),H',⟨by have:=HK1.out;omega⟩,Y2⟩
     ·rw [if_neg c4] at H
      exact absurd H (by simp)
    ·rw [if_neg c3] at H
     exact absurd H (by simp)
   ·rw [if_neg c2] at H
    have c2b0:decide (x6_1<(a0.size:Int))=false:=dzF c2
    clear c2
    replace H:=bzS H
    obtain ⟨t237,A90,H⟩:=H
    replace H:(some t237)=some r:=H
    have A9:=am A90
    clear A90
    obtain rfl:=Option.some.inj H
    go_wp2_with (first |((with_reducible refine jE (f:=102) rfl ?_);refine gL (some 22) Try.func102 #[.int .i64 (a0.size:Int), .int .i64 1, .int .i64 6] ?_;(with_reducible refine (jma.calls (a0.size:Int) 1 6 t237 _ A9.out).mono ?_);rintro e w' ⟨rfl,⟨nd,rfl⟩⟩;refine ⟨_,rfl,?_⟩))
    go_ret
    exact ⟨sq,Y2⟩

theorem impl_named1_calls (a b : ByteArray) (p : Int) (B : Nat) (w : World) (hB : B < w.heap.size) (hc : w.cell? ⟨B, 0, none⟩ = some (.string b)) :
  Calls Try.prog 123 #[.agg #[.string a, .int .i64 p], .pointer (some ⟨B,0,none⟩)] w fun e w'=>e=.returned (.bool (a.toList == b.toList))∧Below w.heap.size w w':=by
 have hne:B≠w.heap.size:=by omega
 go_enter Try.func123,Try.ntmps123
 go_wp2
 go_ret
 exact ⟨rfl,(Below.refl _ _).alloc (Nat.le_refl _) _⟩
set_option maxHeartbeats 8000000 in
set_option maxRecDepth 100000 in
theorem impl_named_idx (A_ : Option Addr) (c_ : Nat) (l : List (S94)) (B0_ : Nat) (p : S94 → Option Bool) (r : Int) (w : World) (hr : Kd.C k94 w A_ l.length l) (h : idxFrom p l 0 = some r)
  (hp:∀ W,Below w.heap.size w W→∀ (x:S94) (b:Bool),p x=some b→Calls Try.prog 123 #[.agg #[.string x.f0, .int .i64 x.f1], .pointer (some ⟨B0_,0,none⟩)] W fun e w'=>e=.returned (.bool b)∧Below W.heap.size W w') :
  Calls Try.prog 122 #[.slice A_ l.length c_, .func (.func 123) #[] #[.pointer (some ⟨B0_,0,none⟩)]] w fun e w'=>e=.returned (.int .i64 r)∧Below w.heap.size w w':=by
 have hm:l.length≤9223372036854775807:=Kd.C_max hr
 have HR:=am hr
 have HP:=am hp
 have H0:=am h
 clear hr hp h
 go_enter Try.func122,Try.ntmps122
 go_wp2
 go_loopw [5,8] (fun i5 i8 wr=>∃ k:Nat,k≤l.length∧i8=.int .i64 k∧jw (idxFrom p (l.drop k) k=some r)∧Below w.heap.size w wr) (fun _ i8 _=>l.length - (intOf i8).toNat)
 case atStart=>exact ⟨0,Nat.zero_le _,rfl,H0,Below.refl _ _⟩
 case round =>
  clear H0
  obtain ⟨k,hk,rfl,HA,hb⟩:=hrel
  by_cases hlt:k<l.length
  ·have HB:=am (idxFrom_step hlt HA.out)
   clear HA
   obtain ⟨ad,rfl,hx0,hx1⟩:=at_T94 HR.out (k:Int) (by omega) (by omega)
   have hrd:jJ l (k:Int)=l[k]:=by simp [jJ,List.getD_eq_getElem?_getD,hlt]
   replace hx0:=jCa hb hx0
   replace hx1:=jCa hb hx1
   rw [hrd] at hx0 hx1
   simp only [Int.toNat_natCast] at hx0 hx1
   clear hrd
   obtain ⟨b,hb1,hb0⟩:=HB.out
   have HQ:=am hb1
   clear hb1 HB
   cases b with
   | true =>
    have HZ:=am (by simpa using hb0:(k:Int)=r)
    clear hb0
    go_wp2_with (go_at_call 123;refine (HP.out _ hb _ _ HQ.out).mono ?_;rintro e w' ⟨rfl,hb2⟩)
    go_ret
    exact ⟨by rw [← HZ.out];rfl,jyb hb hb.size hb2⟩
   | false =>
    have HZ:=am (by simpa using hb0:idxFrom p (l.drop (k+1)) (k+1)=some r)
    clear hb0
    go_wp2_with (go_at_call 123;refine (HP.out _ hb _ _ HQ.out).mono ?_;rintro e w' ⟨rfl,hb2⟩)
    go_roundw
    case rel=>exact ⟨k+1,hlt,by go_num,HZ,jyb hb hb.size hb2⟩
    case measure=>simp [intOf];omega
  ·have HZ:=am (idxFrom_end (by omega) HA.out)
   clear HA
   go_wp2
   go_ret
   exact ⟨by rw [HZ.out];rfl,hb⟩
def jJa.f (l0_0 : List S94) (a1 : ByteArray) : Option Int := idxFrom (fun x : S94 => some (x.f0.toList == a1.toList)) l0_0 0
set_option maxHeartbeats 8000000 in
set_option maxRecDepth 100000 in
theorem jJa.calls (A0_0 : Option Addr) (c0_0 : Nat) (l0_0 : List (S94)) (a1 : ByteArray) (r : Int) (w : World) (hr0_0 : Kd.C k94 w A0_0 l0_0.length l0_0) (hc0_0 : l0_0.length ≤ c0_0) (h : jJa.f l0_0 a1 = some r) :
  Calls Try.prog 108 #[.agg #[.slice A0_0 l0_0.length c0_0], .string a1] w fun e w'=>e=.returned (.int .i64 r)∧Below w.heap.size w w':=by
 have hu37:=Try.underlying37
 have HF:=am (fun W (hb:Below w.heap.size w W) (B:Nat) (hB:B<W.heap.size) (hc:W.cell? ⟨B,0,none⟩=some (.string a1))=>impl_named_idx A0_0 c0_0 l0_0 B (fun x:S94=>some (x.f0.toList == a1.toList)) r W (Kd.jK hr0_0 hb) h (fun W' hb' x b hx=>by
  obtain rfl:=Option.some.inj hx
  exact impl_named1_calls x.f0 a1 x.f1 B W' (Nat.lt_of_lt_of_le hB hb'.size) (jCa hb' hc)))
 clear h hr0_0
 go_enter Try.func108,Try.ntmps108
 go_wp2_with (go_at_call 122;refine (HF.out _ (((Below.refl _ _).alloc (Nat.le_refl _) _).alloc (by simp) _) _ (by simp) (by simp)).mono ?_;rintro e w' ⟨rfl,hb2⟩)
 go_ret
 exact ⟨rfl,(((Below.refl _ _).alloc (Nat.le_refl _) _).alloc (by simp) _).trans (hb2.mono (by simp;omega))⟩
mutual
def jC.l0 : Nat → List (S94) → Int → Int → List (S94) → Option (Bool)
 | 0,_,_,_,_=>none
 | k+1,x6,x7,x8,x239000=>if x8<x7 then (if 0≤x8 then (if x8<(x6.length:Int) then ((jGa.f k ((jJ x6 x8).f0)).bind fun t242=>(if t242=true then ((jJa.f x239000 ((jJ x6 x8).f0)).bind fun t243=>(if t243=x8 then (if x8=0 then (if ((jJ x6 x8).f1)=(-1) then (if x8 > 0 then ((jma.f ((jJ x6 x8).f1) 0 (wrap64 (x8 - 1))).bind fun t244=>(jC.j1 k x6 x7 x8 (!t244) x239000)) else (jC.j1 k x6 x7 x8 false x239000)) else (jC.j1 k x6 x7 x8 true x239000)) else (if x8 > 0 then ((jma.f ((jJ x6 x8).f1) 0 (wrap64 (x8 - 1))).bind fun t245=>(jC.j1 k x6 x7 x8 (!t245) x239000)) else (jC.j1 k x6 x7 x8 false x239000))) else (jC.j1 k x6 x7 x8 true x239000))) else (jC.j1 k x6 x7 x8 true x239000))) else (none)) else (none)) else ((jma.f (x239000.length:Int) 1 8).bind fun t239=>(some t239))
def jC.j1 : Nat → List (S94) → Int → Int → Bool → List (S94) → Option (Bool)
 | 0,_,_,_,_,_=>none
 | k+1,x6,x7,x8,x45,x239000=>if x45=true then (some false) else (jC.l0 k x6 x7 (wrap64 (x8+1)) x239000)
end
def jC.f (k : Nat) (l0_0 : List (S94)) : Option (Bool) := jC.l0 k l0_0 (l0_0.length : Int) 0 l0_0
set_option maxHeartbeats 8000000 in
set_option maxRecDepth 100000 in
theorem jC.calls (k : Nat) (A0_0 : Option Addr) (c0_0 : Nat) (l0_0 : List (S94)) (r : Bool) (w : World) (hr0_0 : Kd.C k94 w A0_0 l0_0.length l0_0) (hc0_0 : l0_0.length ≤ c0_0) (h : jC.f k l0_0 = some r) :
  Calls Try.prog 96 #[.agg #[.slice A0_0 l0_0.length c0_0]] w fun e w'=>e=.returned (.bool r)∧Below w.heap.size w w':=by
 have hu37:=Try.underlying37
 have hu94:=Try.underlying94
 have HR0_0:=am hr0_0
 have HC0_0:=am hc0_0
 clear hr0_0 hc0_0
 have HB:=am (Below.refl w.heap.size w)
 have H:(jC.l0 k l0_0 (l0_0.length:Int) 0 l0_0)=some r:=h
 clear h
 have H':=am H
 clear H
 go_enter Try.func96,Try.ntmps96
 go_wp2_with (first |((with_reducible refine jD (N:=1) rfl ?_);refine bE (N:=1) (cs:=#[.slice A0_0 l0_0.length c0_0]) (t:=37) ?_;intro gb238 hg w2 hbox hb;have BK238:=am (hbox);have GW238:=am ((Y0:w.heap.size≤gb238));have GE238:=am ((Y0:w.heap.size≤gb238));replace HB:=am (je (bq) hb);clear hb hbox hg;have hcz3_0:=bc0 BK238.out;have hfz3_0:=jb BK238.out 0))
 go_loopg [8] k (fun kq v8 w'=>∃ (x8_1:Int),v8=.int .i64 x8_1∧jw (jC.l0 kq l0_0 (l0_0.length:Int) x8_1 l0_0=some r)∧jw (kq≤k)∧jw (w'.heap[gb238]?=some (.cells #[(.slice A0_0 l0_0.length c0_0)] 37 (0,0)))∧jw (Below w.heap.size w w'))
 case atStart=>exact ⟨(0),(sq),H',⟨Nat.le_refl _⟩,⟨kq BK238.out⟩,⟨Y102⟩⟩
 case round =>
  clear H'
  try clear p2
  try clear hcz3_0
  try clear hfz3_0
  obtain ⟨x8_1,rfl,HA,HK1,BK238,HB⟩:=hrel
  cases gk with
  | zero=>exact absurd HA.out (by simp [jC.l0])
  | succ k1 =>
   have H:=HA.out
   clear HA
   simp only [jC.l0] at H
   by_cases c4:x8_1<(l0_0.length:Int)
   ·rw [if_pos c4] at H
    have c4b0:decide (x8_1<(l0_0.length:Int))=true:=dzT c4
    clear c4
    by_cases c5:0≤x8_1
    ·rw [if_pos c5] at H
     have c5b0:decide (0≤x8_1)=true:=dzT c5
     clear c5
     by_cases c6:x8_1<(l0_0.length:Int)
     ·rw [if_pos c6] at H
      have c6b0:decide (x8_1<(l0_0.length:Int))=true:=dzT c6
      clear c6
      have HC7:=am H
      clear H
      have p240:0≤(x8_1:Int):=ozD (uq)
      have q240:x8_1<(l0_0.length:Int):=ozD (uq)
      obtain ⟨ad240,e240,hx240_0,hx240_1⟩:=at_T94 HR0_0.out x8_1 p240 q240
      cases e240
      replace hx240_0:=cb HB.out hx240_0
      replace hx240_1:=cb HB.out hx240_1
      replace p240:=ezT p240
      replace q240:=ezT q240
      go_upto_region 4 with (first |((with_reducible refine jD (N:=4) rfl ?_);refine bE (N:=4) (cs:=#[.string (⟨#[]⟩:ByteArray), .int .i64 0]) (t:=94) ?_;intro gb241 hg w8 hbox hb;have BK241:=am (hbox);have GW241:=am ((Y133:w.heap.size≤gb241));have GE241:=am ((Y133:w.heap.size≤gb241));have NB238_241:=am ((by rw [hg];exact Nat.ne_of_lt (jP (g:=gb238) (o:=.cells #[.slice (some ad240) l0_0.length c0_0] 37 (0,0)) (kq BK238.out)):gb238≠gb241));have NB241_238:=am ((by rw [hg];exact Nat.ne_of_gt (jP (g:=gb238) (o:=.cells #[.slice (some ad240) l0_0.length c0_0] 37 (0,0)) (kq BK238.out)):gb241≠gb238));replace BK238:=am (ja (g:=gb238) (o:=.cells #[.slice (some ad240) l0_0.length c0_0] 37 (0,0)) (kq BK238.out) hb);replace HB:=am (je (Y102) hb);clear hb hbox hg;have hnb9:=NB241_238.out;have hnc9:=NB238_241.out;have hcz10_0:=bc0 BK241.out;have hcz10_1:=bc1 BK241.out;have hfz10_0:=jb BK241.out 0;have hfz10_1:=jb BK241.out 1))
      (try simp only [Act.put,List.setIfInBounds_toArray,List.set_cons_zero,List.set_cons_succ])
      go_cut [45] (fun v45 wc=>∃ (kq:Nat) (x45_6:Bool),v45=.bool x45_6∧jw (jC.j1 kq l0_0 (l0_0.length:Int) x8_1 x45_6 l0_0=some r)∧jw (kq≤k1)∧jw (wc.heap[gb238]?=some (.cells #[(.slice (some ad240) l0_0.length c0_0)] 37 (0,0)))∧jw (wc.heap[gb241]?=some (.cells #[.string ((jJ l0_0 x8_1).f0), .int .i64 ((jJ l0_0 x8_1).f1)] 94 (0,0)))∧jw (Below w.heap.size w wc))
      case first =>
       have H:=HC7.out
       clear HC7
       replace H:=bzS H
       obtain ⟨t242,A110,H⟩:=H
       replace H:(if t242=true then ((jJa.f l0_0 ((jJ l0_0 x8_1).f0)).bind fun t243=>(if t243=x8_1 then (if x8_1=0 then (if ((jJ l0_0 x8_1).f1)=(-1) then (if x8_1 > 0 then ((jma.f ((jJ l0_0 x8_1).f1) 0 (wrap64 (x8_1 - 1))).bind fun t244=>(jC.j1 k1 l0_0 (l0_0.length:Int) x8_1 (!t244) l0_0)) else (jC.j1 k1 l0_0 (l0_0.length:Int) x8_1 false l0_0)) else (jC.j1 k1 l0_0 (l0_0.length:Int) x8_1 true l0_0)) else (if x8_1 > 0 then ((jma.f ((jJ l0_0 x8_1).f1) 0 (wrap64 (x8_1 - 1))).bind fun t245=>(jC.j1 k1 l0_0 (l0_0.length:Int) x8_1 (!t245) l0_0)) else (jC.j1 k1 l0_0 (l0_0.length:Int) x8_1 false l0_0))) else (jC.j1 k1 l0_0 (l0_0.length:Int) x8_1 true l0_0))) else (jC.j1 k1 l0_0 (l0_0.length:Int) x8_1 true l0_0))=some r:=H
       have A11:=am A110
       clear A110
       by_cases c12:t242=true
       ·subst c12
        have H1:((jJa.f l0_0 ((jJ l0_0 x8_1).f0)).bind fun t243=>(if t243=x8_1 then (if x8_1=0 then (if ((jJ l0_0 x8_1).f1)=(-1) then (if x8_1 > 0 then ((jma.f ((jJ l0_0 x8_1).f1) 0 (wrap64 (x8_1 - 1))).bind fun t244=>(jC.j1 k1 l0_0 (l0_0.length:Int) x8_1 (!t244) l0_0)) else (jC.j1 k1 l0_0 (l0_0.length:Int) x8_1 false l0_0)) else (jC.j1 k1 l0_0 (l0_0.length:Int) x8_1 true l0_0)) else (if x8_1 > 0 then ((jma.f ((jJ l0_0 x8_1).f1) 0 (wrap64 (x8_1 - 1))).bind fun t245=>(jC.j1 k1 l0_0 (l0_0.length:Int) x8_1 (!t245) l0_0)) else (jC.j1 k1 l0_0 (l0_0.length:Int) x8_1 false l0_0))) else (jC.j1 k1 l0_0 (l0_0.length:Int) x8_1 true l0_0)))=some r:=by rw [if_pos rfl] at H;exact H
        clear H
        have H:=H1
        clear H1
        replace H:=bzS H
        obtain ⟨t243,A130,H⟩:=H
        replace H:(if t243=x8_1 then (if x8_1=0 then (if ((jJ l0_0 x8_1).f1)=(-1) then (if x8_1 > 0 then ((jma.f ((jJ l0_0 x8_1).f1) 0 (wrap64 (x8_1 - 1))).bind fun t244=>(jC.j1 k1 l0_0 (l0_0.length:Int) x8_1 (!t244) l0_0)) else (jC.j1 k1 l0_0 (l0_0.length:Int) x8_1 false l0_0)) else (jC.j1 k1 l0_0 (l0_0.length:Int) x8_1 true l0_0)) else (if x8_1 > 0 then ((jma.f ((jJ l0_0 x8_1).f1) 0 (wrap64 (x8_1 - 1))).bind fun t245=>(jC.j1 k1 l0_0 (l0_0.length:Int) x8_1 (!t245) l0_0)) else (jC.j1 k1 l0_0 (l0_0.length:Int) x8_1 false l0_0))) else (jC.j1 k1 l0_0 (l0_0.length:Int) x8_1 true l0_0))=some r:=H
        have A13:=am A130
        clear A130
        by_cases c14:t243=x8_1
        ·rw [if_pos c14] at H
         have c14b0:(t243 == x8_1)=true:=beq_iff_eq.mpr c14
         have c14b1:(t243 != x8_1)=false:=bne_eq_false_iff_eq.mpr c14
         clear c14
         (first | rw [c14b0] |(simp only [jZa,jdb];rw [c14b0]) | skip)
         by_cases c15:x8_1=0
         ·rw [if_pos c15] at H
          have c15b0:(x8_1 == 0)=true:=beq_iff_eq.mpr c15
          have c15b1:(x8_1 != 0)=false:=bne_eq_false_iff_eq.mpr c15
          clear c15
          by_cases c16:((jJ l0_0 x8_1).f1)=(-1)
          ·rw [if_pos c16] at H
           have c16b0:(((jJ l0_0 x8_1).f1) == (-1))=true:=beq_iff_eq.mpr c16
           have c16b1:(((jJ l0_0 x8_1).f1) != (-1))=false:=bne_eq_false_iff_eq.mpr c16
           clear c16
           by_cases c17:x8_1 > 0
           ·rw [if_pos c17] at H
            have c17b0:decide (0<x8_1)=true:=dzT c17
            clear c17
            replace H:=bzS H
            obtain ⟨t244,A180,H⟩:=H
            replace H:(jC.j1 k1 l0_0 (l0_0.length:Int) x8_1 (!t244) l0_0)=some r:=H
            have A18:=am A180
            clear A180
            have H':=am H
            clear H
            have hnb19:=NB241_238.out
            have hnc19:=NB238_241.out
            have hcz20_0:=bc0 BK241.out
            have hcz20_1:=bc1 BK241.out
            have hfz20_0:=jb BK241.out 0
            have hfz20_1:=jb BK241.out 1
            go_wp2_with (first |((with_reducible refine jE (f:=107) rfl ?_);refine gL (some 15) Try.func107 #[.string ((jJ l0_0 x8_1).f0)] ?_;(with_reducible refine (jGa.calls k1 ((jJ l0_0 x8_1).f0) true _ A11.out).mono ?_);rintro e w' ⟨rfl,⟨nd,rfl⟩⟩;refine ⟨_,rfl,?_⟩;have hcz21_0:=bc0 BK238.out;have hfz21_0:=jb BK238.out 0) |(go_at_call 108;(with_reducible refine (jJa.calls _ _ l0_0 ((jJ l0_0 x8_1).f0) t243 _ ?side1 ?side2 A13.out).mono ?_);(case side1=>exact Kd.jK HR0_0.out (Y8));(case side2=>exact HC0_0.out);rintro e w22 ⟨rfl,hb⟩;replace BK238:=am (ja (g:=gb238) (o:=.cells #[.slice (some ad240) l0_0.length c0_0] 37 (0,0)) (Y36) hb);replace BK241:=am (ja (g:=gb241) (o:=.cells #[.string ((jJ l0_0 x8_1).f0), .int .i64 ((jJ l0_0 x8_1).f1)] 94 (0,0)) (Y37) hb);replace HB:=am (je (Y8) hb);(try clear hb);(try clear hb2);(try clear hk);(try clear hi);have hcz23_0:=bc0 BK241.out;have hcz23_1:=bc1 BK241.out;have hfz23_0:=jb BK241.out 0;have hfz23_1:=jb BK241.out 1) |(go_at_call 102;(with_reducible refine (jma.calls ((jJ l0_0 x8_1).f1) 0 (wrap64 (x8_1 - 1)) t244 _ A18.out).mono ?_);rintro e w' ⟨rfl,⟨nd,rfl⟩⟩))
            go_meet
            case rel=>exact ⟨_,(!t244),(sq),H',⟨by have:=HK1.out;first | omega | exact Nat.le_refl _⟩,⟨kq BK238.out⟩,⟨kq BK241.out⟩,⟨Y8⟩⟩
           ·rw [if_neg c17] at H
            have c17b0:decide (0<x8_1)=false:=dzF c17
            clear c17
            have H':=am H
            clear H
            have hnb24:=NB241_238.out
            have hnc24:=NB238_241.out
            have hcz25_0:=bc0 BK241.out
            have hcz25_1:=bc1 BK241.out
            have hfz25_0:=jb BK241.out 0
            have hfz25_1:=jb BK241.out 1
            go_wp2_with (first |((with_reducible refine jE (f:=107) rfl ?_);refine gL (some 15) Try.func107 #[.string ((jJ l0_0 x8_1).f0)] ?_;(with_reducible refine (jGa.calls k1 ((jJ l0_0 x8_1).f0) true _ A11.out).mono ?_);rintro e w' ⟨rfl,⟨nd,rfl⟩⟩;refine ⟨_,rfl,?_⟩;have hcz26_0:=bc0 BK238.out;have hfz26_0:=jb BK238.out 0) |(go_at_call 108;(with_reducible refine (jJa.calls _ _ l0_0 ((jJ l0_0 x8_1).f0) t243 _ ?side1 ?side2 A13.out).mono ?_);(case side1=>exact Kd.jK HR0_0.out (Y8));(case side2=>exact HC0_0.out);rintro e w27 ⟨rfl,hb⟩;replace BK238:=am (ja (g:=gb238) (o:=.cells #[.slice (some ad240) l0_0.length c0_0] 37 (0,0)) (Y36) hb);replace BK241:=am (ja (g:=gb241) (o:=.cells #[.string ((jJ l0_0 x8_1).f0), .int .i64 ((jJ l0_0 x8_1).f1)] 94 (0,0)) (Y37) hb);replace HB:=am (je (Y8) hb);(try clear hb);(try clear hb2);(try clear hk);(try clear hi);have hcz28_0:=bc0 BK241.out;have hcz28_1:=bc1 BK241.out;have hfz28_0:=jb BK241.out 0;have hfz28_1:=jb BK241.out 1))
            go_meet
            case rel=>exact ⟨_,(false),(sq),H',⟨by have:=HK1.out;first | omega | exact Nat.le_refl _⟩,⟨kq BK238.out⟩,⟨kq BK241.out⟩,⟨Y8⟩⟩
          ·rw [if_neg c16] at H
           have c16b0:(((jJ l0_0 x8_1).f1) == (-1))=false:=beq_eq_false_iff_ne.mpr c16
           have c16b1:(((jJ l0_0 x8_1).f1) != (-1))=true:=bne_iff_ne.mpr c16
           have H':=am H
           clear H
           have hnb29:=NB241_238.out
           have hnc29:=NB238_241.out
           have hcz30_0:=bc0 BK241.out
           have hcz30_1:=bc1 BK241.out
           have hfz30_0:=jb BK241.out 0
           have hfz30_1:=jb BK241.out 1
           go_wp2_with (first |((with_reducible refine jE (f:=107) rfl ?_);refine gL (some 15) Try.func107 #[.string ((jJ l0_0 x8_1).f0)] ?_;(with_reducible refine (jGa.calls k1 ((jJ l0_0 x8_1).f0) true _ A11.out).mono ?_);rintro e w' ⟨rfl,⟨nd,rfl⟩⟩;refine ⟨_,rfl,?_⟩;have hcz31_0:=bc0 BK238.out;have hfz31_0:=jb BK238.out 0) |(go_at_call 108;(with_reducible refine (jJa.calls _ _ l0_0 ((jJ l0_0 x8_1).f0) t243 _ ?side1 ?side2 A13.out).mono ?_);(case side1=>exact Kd.jK HR0_0.out (Y8));(case side2=>exact HC0_0.out);rintro e w32 ⟨rfl,hb⟩;replace BK238:=am (ja (g:=gb238) (o:=.cells #[.slice (some ad240) l0_0.length c0_0] 37 (0,0)) (Y36) hb);replace BK241:=am (ja (g:=gb241) (o:=.cells #[.string ((jJ l0_0 x8_1).f0), .int .i64 ((jJ l0_0 x8_1).f1)] 94 (0,0)) (Y37) hb);replace HB:=am (je (Y8) hb);(try clear hb);(try clear hb2);(try clear hk);(try clear hi);have hcz33_0:=bc0 BK241.out;have hcz33_1:=bc1 BK241.out;have hfz33_0:=jb BK241.out 0;have hfz33_1:=jb BK241.out 1))
           go_meet
           case rel=>exact ⟨_,(true),(sq),H',⟨by have:=HK1.out;first | omega | exact Nat.le_refl _⟩,⟨kq BK238.out⟩,⟨kq BK241.out⟩,⟨Y8⟩⟩
         ·rw [if_neg c15] at H
          have c15b0:(x8_1 == 0)=false:=beq_eq_false_iff_ne.mpr c15
          have c15b1:(x8_1 != 0)=true:=bne_iff_ne.mpr c15
          by_cases c34:x8_1 > 0
          ·rw [if_pos c34] at H
           have c34b0:decide (0<x8_1)=true:=dzT c34
           clear c34
           replace H:=bzS H
           obtain ⟨t245,A350,H⟩:=H
           replace H:(jC.j1 k1 l0_0 (l0_0.length:Int) x8_1 (!t245) l0_0)=some r:=H
           have A35:=am A350
           clear A350
           have H':=am H
           clear H
           have hnb36:=NB241_238.out
           have hnc36:=NB238_241.out
           have hcz37_0:=bc0 BK241.out
           have hcz37_1:=bc1 BK241.out
           have hfz37_0:=jb BK241.out 0
           have hfz37_1:=jb BK241.out 1
           go_wp2_with (first |((with_reducible refine jE (f:=107) rfl ?_);refine gL (some 15) Try.func107 #[.string ((jJ l0_0 x8_1).f0)] ?_;(with_reducible refine (jGa.calls k1 ((jJ l0_0 x8_1).f0) true _ A11.out).mono ?_);rintro e w' ⟨rfl,⟨nd,rfl⟩⟩;refine ⟨_,rfl,?_⟩;have hcz38_0:=bc0 BK238.out;have hfz38_0:=jb BK238.out 0) |(go_at_call 108;(with_reducible refine (jJa.calls _ _ l0_0 ((jJ l0_0 x8_1).f0) t243 _ ?side1 ?side2 A13.out).mono ?_);(case side1=>exact Kd.jK HR0_0.out (Y8));(case side2=>exact HC0_0.out);rintro e w39 ⟨rfl,hb⟩;replace BK238:=am (ja (g:=gb238) (o:=.cells #[.slice (some ad240) l0_0.length c0_0] 37 (0,0)) (Y36) hb);replace BK241:=am (ja (g:=gb241) (o:=.cells #[.string ((jJ l0_0 x8_1).f0), .int .i64 ((jJ l0_0 x8_1).f1)] 94 (0,0)) (Y37) hb);replace HB:=am (je (Y8) hb);(try clear hb);(try clear hb2);(try clear hk);(try clear hi);have hcz40_0:=bc0 BK241.out;have hcz40_1:=bc1 BK241.out;have hfz40_0:=jb BK241.out 0;have hfz40_1:=jb BK241.out 1) |(go_at_call 102;(with_reducible refine (jma.calls ((jJ l0_0 x8_1).f1) 0 (wrap64 (x8_1 - 1)) t245 _ A35.out).mono ?_);rintro e w' ⟨rfl,⟨nd,rfl⟩⟩))
           go_meet
           case rel=>exact ⟨_,(!t245),(sq),H',⟨by have:=HK1.out;first | omega | exact Nat.le_refl _⟩,⟨kq BK238.out⟩,⟨kq BK241.out⟩,⟨Y8⟩⟩
          ·rw [if_neg c34] at H
           have c34b0:decide (0<x8_1)=false:=dzF c34
           clear c34
           have H':=am H
           clear H
           have hnb41:=NB241_238.out
           have hnc41:=NB238_241.out
           have hcz42_0:=bc0 BK241.out
           have hcz42_1:=bc1 BK241.out
           have hfz42_0:=jb BK241.out 0
           have hfz42_1:=jb BK241.out 1
           go_wp2_with (first |((with_reducible refine jE (f:=107) rfl ?_);refine gL (some 15) Try.func107 #[.string ((jJ l0_0 x8_1).f0)] ?_;(with_reducible refine (jGa.calls k1 ((jJ l0_0 x8_1).f0) true _ A11.out).mono ?_);rintro e w' ⟨rfl,⟨nd,rfl⟩⟩;refine ⟨_,rfl,?_⟩;have hcz43_0:=bc0 BK238.out;have hfz43_0:=jb BK238.out 0) |(go_at_call 108;(with_reducible refine (jJa.calls _ _ l0_0 ((jJ l0_0 x8_1).f0) t243 _ ?side1 ?side2 A13.out).mono ?_);(case side1=>exact Kd.jK HR0_0.out (Y8));(case side2=>exact HC0_0.out);rintro e w44 ⟨rfl,hb⟩;replace BK238:=am (ja (g:=gb238) (o:=.cells #[.slice (some ad240) l0_0.length c0_0] 37 (0,0)) (Y36) hb);replace BK241:=am (ja (g:=gb241) (o:=.cells #[.string ((jJ l0_0 x8_1).f0), .int .i64 ((jJ l0_0 x8_1).f1)] 94 (0,0)) (Y37) hb);replace HB:=am (je (Y8) hb);(try clear hb);(try clear hb2);(try clear hk);(try clear hi)))
           go_meet
           case rel=>exact ⟨_,(false),(sq),H',⟨by have:=HK1.out;first | omega | exact Nat.le_refl _⟩,⟨kq BK238.out⟩,⟨kq BK241.out⟩,⟨Y8⟩⟩
        ·rw [if_neg c14] at H
         have c14b0:(t243 == x8_1)=false:=beq_eq_false_iff_ne.mpr c14
         have c14b1:(t243 != x8_1)=true:=bne_iff_ne.mpr c14
         (first | rw [c14b0] |(simp only [jZa,jdb];rw [c14b0]) | skip)
         have H':=am H
         clear H
         have hnb45:=NB241_238.out
         have hnc45:=NB238_241.out
         have hcz46_0:=bc0 BK241.out
         have hcz46_1:=bc1 BK241.out
         have hfz46_0:=jb BK241.out 0
         have hfz46_1:=jb BK241.out 1
         go_wp2_with (first |((with_reducible refine jE (f:=107) rfl ?_);refine gL (some 15) Try.func107 #[.string ((jJ l0_0 x8_1).f0)] ?_;(with_reducible refine (jGa.calls k1 ((jJ l0_0 x8_1).f0) true _ A11.out).mono ?_);rintro e w' ⟨rfl,⟨nd,rfl⟩⟩;refine ⟨_,rfl,?_⟩;have hcz47_0:=bc0 BK238.out;have hfz47_0:=jb BK238.out 0) |(go_at_call 108;(with_reducible refine (jJa.calls _ _ l0_0 ((jJ l0_0 x8_1).f0) t243 _ ?side1 ?side2 A13.out).mono ?_);(case side1=>exact Kd.jK HR0_0.out (Y8));(case side2=>exact HC0_0.out);rintro e w48 ⟨rfl,hb⟩;replace BK238:=am (ja (g:=gb238) (o:=.cells #[.slice (some ad240) l0_0.length c0_0] 37 (0,0)) (Y36) hb);replace BK241:=am (ja (g:=gb241) (o:=.cells #[.string ((jJ l0_0 x8_1).f0), .int .i64 ((jJ l0_0 x8_1).f1)] 94 (0,0)) (Y37) hb);replace HB:=am (je (Y8) hb);(try clear hb);(try clear hb2);(try clear hk);(try clear hi)))
         go_meet
         case rel=>exact ⟨_,(true),(sq),H',⟨by have:=HK1.out;first | omega | exact Nat.le_refl _⟩,⟨kq BK238.out⟩,⟨kq BK241.out⟩,⟨Y8⟩⟩
       ·replace c12:=Bool.eq_false_iff.mpr c12
        subst c12
        have H1:(jC.j1 k1 l0_0 (l0_0.length:Int) x8_1 true l0_0)=some r:=by rw [if_neg (show ¬ (false=true) by decide)] at H;exact H
        clear H
        have H:=H1
        clear H1
        have H':=am H
        clear H
        have hnb49:=NB241_238.out
        have hnc49:=NB238_241.out
        have hcz50_0:=bc0 BK241.out
        have hcz50_1:=bc1 BK241.out
        have hfz50_0:=jb BK241.out 0
        have hfz50_1:=jb BK241.out 1
        go_wp2_with (first |((with_reducible refine jE (f:=107) rfl ?_);refine gL (some 15) Try.func107 #[.string ((jJ l0_0 x8_1).f0)] ?_;(with_reducible refine (jGa.calls k1 ((jJ l0_0 x8_1).f0) false _ A11.out).mono ?_);rintro e w' ⟨rfl,⟨nd,rfl⟩⟩;refine ⟨_,rfl,?_⟩))
        go_meet
        case rel=>exact ⟨_,(true),(sq),H',⟨by have:=HK1.out;first | omega | exact Nat.le_refl _⟩,⟨by (with_reducible repeat (first | refine jf ?_ _ | refine jh ?_ | refine jg ?_ _));refine jO ?_ NB238_241.out _;(with_reducible repeat (first | refine jf ?_ _ | refine jh ?_ | refine jg ?_ _));refine jO ?_ NB238_241.out _;(with_reducible repeat (first | refine jf ?_ _ | refine jh ?_ | refine jg ?_ _));exact BK238.out⟩,⟨by (with_reducible repeat (first | refine jf ?_ _ | refine jh ?_ | refine jg ?_ _));refine jza (cs:=#[.string ((jJ l0_0 x8_1).f0), .int .i64 0]) ?_ 1 _ rfl;(with_reducible repeat (first | refine jf ?_ _ | refine jh ?_ | refine jg ?_ _));refine jza (cs:=#[.string (⟨#[]⟩:ByteArray), .int .i64 0]) ?_ 0 _ rfl;(with_reducible repeat (first | refine jf ?_ _ | refine jh ?_ | refine jg ?_ _));exact BK241.out⟩,⟨Y8⟩⟩
      case rest =>
       clear HC7
       try clear c1
       try clear c2
       try clear p2
       try clear q2
       try clear hx2
       try clear c3
       try clear c4
       try clear c4b0
       try clear c5
       try clear c5b0
       try clear c6
       try clear c6b0
       try clear p6
       try clear c9
       try clear c10
       try clear c12
       try clear c14
       try clear c14b0
       try clear c14b1
       try clear c15
       try clear c15b0
       try clear c15b1
       try clear c16
       try clear c16b0
       try clear c16b1
       try clear c17
       try clear c17b0
       try clear c19
       try clear c24
       try clear p24
       try clear q24
       try clear hx24
       try clear c29
       try clear c34
       try clear c34b0
       try clear c36
       try clear c41
       try clear c45
       try clear c49
       try clear hcz10_0
       try clear hcz10_1
       try clear hcz20_0
       try clear hcz20_1
       try clear hcz21_0
       try clear hcz23_0
       try clear hcz23_1
       try clear hcz25_0
       try clear hcz25_1
       try clear hcz26_0
       try clear hcz28_0
       try clear hcz28_1
       try clear hcz30_0
       try clear hcz30_1
       try clear hcz31_0
       try clear hcz33_0
       try clear hcz33_1
       try clear hcz37_0
       try clear hcz37_1
       try clear hcz38_0
       try clear hcz3_0
       try clear hcz40_0
       try clear hcz40_1
       try clear hcz42_0
       try clear hcz42_1
       try clear hcz43_0
       try clear hcz46_0
       try clear hcz46_1
       try clear hcz47_0
       try clear hcz50_0
       try clear hcz50_1
       try clear hfz10_0
       try clear hfz10_1
       try clear hfz20_0
       try clear hfz20_1
       try clear hfz21_0
       try clear hfz23_0
       try clear hfz23_1
       try clear hfz25_0
       try clear hfz25_1
       try clear hfz26_0
       try clear hfz28_0
       try clear hfz28_1
       try clear hfz30_0
       try clear hfz30_1
       try clear hfz31_0
       try clear hfz33_0
       try clear hfz33_1
       try clear hfz37_0
       try clear hfz37_1
       try clear hfz38_0
       try clear hfz3_0
       try clear hfz40_0
       try clear hfz40_1
       try clear hfz42_0
       try clear hfz42_1
       try clear hfz43_0
       try clear hfz46_0
       try clear hfz46_1
       try clear hfz47_0
       try clear hfz50_0
       try clear hfz50_1
       try clear hx240_0
       try clear hx240_1
       try clear p2
       try clear p240
       try clear q240
       obtain ⟨kq,x45_6,rfl,HA,HJ6,BK238,BK241,HB⟩:=hcut
       cases kq with
       | zero=>exact absurd HA.out (by simp [jC.j1])
       | succ kj6 =>
        have H:=HA.out
        clear HA
        simp only [jC.j1] at H
        by_cases c51:x45_6=true
        ·subst c51
         have H1:(some false)=some r:=by rw [if_pos rfl] at H;exact H
         clear H
         have H:=H1
         clear H1
         obtain rfl:=Option.some.inj H
         go_wp2
         go_ret
         exact ⟨Y1,Y8⟩
        ·replace c51:=Bool.eq_false_iff.mpr c51
         subst c51
         have H1:(jC.l0 kj6 l0_0 (l0_0.length:Int) (wrap64 (x8_1+1)) l0_0)=some r:=by rw [if_neg (show ¬ (false=true) by decide)] at H;exact H
         clear H
         have H:=H1
         clear H1
         have H':=am H
         clear H
         go_wp2
         go_roundg kj6
         case measure=>have:=HK1.out;have:=HJ6.out;omega
         case rel=>exact ⟨(wrap64 (x8_1+1)),(sq),H',⟨by have:=HK1.out;have:=HJ6.out;omega⟩,⟨kq BK238.out⟩,⟨Y8⟩⟩
     ·rw [if_neg c6] at H
      exact absurd H (by simp)
    ·rw [if_neg c5] at H
     exact absurd H (by simp)
   ·rw [if_neg c4] at H
    have c4b0:decide (x8_1<(l0_0.length:Int))=false:=dzF c4
    clear c4
    replace H:=bzS H
    obtain ⟨t239,A520,H⟩:=H
    replace H:(some t239)=some r:=H
    have A52:=am A520
    clear A520
    obtain rfl:=Option.some.inj H
    have hcz53_0:=bc0 BK238.out
    have hfz53_0:=jb BK238.out 0
    go_wp2_with (first |((with_reducible refine jE (f:=102) rfl ?_);refine gL (some 50) Try.func102 #[.int .i64 (l0_0.length:Int), .int .i64 1, .int .i64 8] ?_;(with_reducible refine (jma.calls (l0_0.length:Int) 1 8 t239 _ A52.out).mono ?_);rintro e w' ⟨rfl,⟨nd,rfl⟩⟩;refine ⟨_,rfl,?_⟩))
    go_ret
    exact ⟨Y1,Y102⟩
theorem jLa {w : World} {b : Nat} {v : Value} {l : List Value} {t : TypeId} (h : w.heap[b]? = some (.cells ⟨v :: l⟩ t (0, 0))) : w.cell? ⟨b, 0, none⟩ = some v := (jr h 0).trans rfl
theorem cellA1 {w : World} {b : Nat} {v v1 : Value} {l : List Value} {t : TypeId} (h : w.heap[b]? = some (.cells ⟨v :: v1 :: l⟩ t (0, 0))) : w.cell? ⟨b, 1, none⟩ = some v1 := (jr h 1).trans rfl
theorem cellA2 {w : World} {b : Nat} {v v1 v2 : Value} {l : List Value} {t : TypeId} (h : w.heap[b]? = some (.cells ⟨v :: v1 :: v2 :: l⟩ t (0, 0))) : w.cell? ⟨b, 2, none⟩ = some v2 := (jr h 2).trans rfl
theorem cellA3 {w : World} {b : Nat} {v v1 v2 v3 : Value} {l : List Value} {t : TypeId} (h : w.heap[b]? = some (.cells ⟨v :: v1 :: v2 :: v3 :: l⟩ t (0, 0))) : w.cell? ⟨b, 3, none⟩ = some v3 := (jr h 3).trans rfl
def hpIn (a lo hi : Int) : Bool := decide (lo ≤ a) && decide (a ≤ hi)
theorem hp_within (a lo hi : Int) : jma.f a lo hi = some (hpIn a lo hi) := by
 unfold jma.f hpIn
 by_cases h:a≥lo
 ·rw [if_pos h];simp [show lo≤a from h]
 ·rw [if_neg h];simp [show ¬ lo≤a from h]
theorem hp_has (l : List S94) (a : Int) : jVa.f l a = some (hpIn a 0 (wrap64 ((l.length : Int) - 1))) := by unfold jVa.f; rw [hp_within]; rfl
theorem hp_code (a : Int) : jjb.f a = some (hpIn a 0 99) := by unfold jjb.f; rw [hp_within]; rfl
def hpLk (m : Nat) (i z : Int) : Bool := decide (z = -1) || (hpIn z 0 ((m : Int) - 1) && decide (z ≠ i))
def hpBad (t : List S94) (m : Nat) (i : Int) (x : S54) : Bool := !hpIn x.f0 0 (wrap64 ((t.length : Int) - 1)) || (!hpIn x.f1 0 99 || (!hpLk m i x.f2 || !hpLk m i x.f3))
def hpAny (t : List S94) (h : List S54) : Nat → Nat → Bool
 | 0,_=>false
 | n+1,i=>if hpBad t h.length (i:Int) (jd h (i:Int))=true then true else hpAny t h n (i+1)
def hpEnds (k : Nat) (h : List S54) : Nat → Nat → Option Bool
 | 0,_=>some true
 | n+1,i=>(jWa.f k h (i:Int)).bind fun l=>if 1≤l.length then (ctxF h (rd l ((l.length:Int) - 1))).bind fun c=>if c = -1 then hpEnds k h n (i+1) else some false else none
def jPa.f (k : Nat) (l0_0 : List S94) (l1_0 : List S54) : Option Bool :=
 if hpAny l0_0 l1_0 l1_0.length 0=true then some false else (hpEnds k l1_0 l1_0.length 0).bind fun b=>if b=true then ((jC.f k l0_0).bind fun v=>some (if v=true then decide ((l1_0.length:Int)≤24) else false)) else some false
set_option maxHeartbeats 8000000 in
set_option maxRecDepth 100000 in
theorem jhc (A_ : Option Addr) (c_ : Nat) (m : Nat) (i z : Int) (B0 : Nat) (w : World) (hm : m ≤ 9223372036854775807) (hc : w.cell? ⟨B0, 0, none⟩ = some (.slice A_ m c_)) :
  Calls Try.prog 93 #[.int .i64 i, .int .i64 z, .pointer (some ⟨B0,0,none⟩)] w fun e w'=>e=.returned (.bool (hpLk m i z))∧Below w.heap.size w w':=by
 have HB:=am (Below.refl w.heap.size w)
 have hu32:=Try.underlying32
 have hw2:IntKind.i64.wrap ((m:Int) - 1)=(m:Int) - 1:=IntWalk.i64_in _ (by omega)
 by_cases h0:z = -1
 ·subst h0
  have HZ:=am (by simp [hpLk]:hpLk m i (-1)=true)
  go_enter Try.func93,Try.ntmps93
  go_wp2
  go_ret
  exact ⟨by rw [HZ.out];rfl,(bq)⟩
 ·have hb0:(z == -1)=false:=by simpa using h0
  by_cases h1:z≥0
  ·have hb1:=dzT h1
   by_cases h2:z≤(m:Int) - 1
   ·have hb2:=dzT h2
    by_cases h3:z=i
    ·have hb3:(z != i)=false:=by simpa using h3
     have HZ:=am (by subst h3;simp [hpLk,h0]:hpLk m i z=false)
     clear h0 h1 h2 h3
     go_enter Try.func93,Try.ntmps93
     go_wp2
     go_ret
     exact ⟨by rw [HZ.out];rfl,(bq)⟩
    ·have hb3:(z != i)=true:=by simpa using h3
     have HZ:=am (by simp [hpLk,h0,h3,hpIn];omega:hpLk m i z=true)
     clear h0 h1 h2 h3
     go_enter Try.func93,Try.ntmps93
     go_wp2
     go_ret
     exact ⟨by rw [HZ.out];rfl,(bq)⟩
   ·have hb2:=dzF h2
    have HZ:=am (by simp [hpLk,h0,hpIn];omega:hpLk m i z=false)
    clear h0 h1 h2
    go_enter Try.func93,Try.ntmps93
    go_wp2
    go_ret
    exact ⟨by rw [HZ.out];rfl,(bq)⟩
  ·have hb1:=dzF h1
   have HZ:=am (by simp [hpLk,h0,hpIn];omega:hpLk m i z=false)
   clear h0 h1
   go_enter Try.func93,Try.ntmps93
   go_wp2
   go_ret
   exact ⟨by rw [HZ.out];rfl,(bq)⟩
set_option maxHeartbeats 8000000 in
set_option maxRecDepth 100000 in
theorem jPa.calls (k : Nat) (A0_0 : Option Addr) (c0_0 : Nat) (l0_0 : List (S94)) (A0 : Option Addr) (c0 : Nat) (l0 : List (S54)) (r : Bool) (w : World) (hr0_0 : Kd.C k94 w A0_0 l0_0.length l0_0) (hc0_0 : l0_0.length ≤ c0_0) (hr0 : Kd.C k54 w A0 l0.length l0) (hc0 : l0.length ≤ c0) (h : jPa.f k l0_0 l0 = some r) :
  Calls Try.prog 63 #[.agg #[.slice A0_0 l0_0.length c0_0], .agg #[.slice A0 l0.length c0]] w fun e w'=>e=.returned (.bool r)∧Below w.heap.size w w':=by
 have hu32:=Try.underlying32
 have hu37:=Try.underlying37
 have hu54:=Try.underlying54
 have hm:l0.length≤9223372036854775807:=Kd.C_max hr0
 have HRT:=am hr0_0
 have HRH:=am hr0
 have hcT:=hc0_0
 have hcH:=hc0
 have H':=am h
 have HB:=am (((Below.refl w.heap.size w).alloc (Nat.le_refl _) (.cells #[.slice A0_0 l0_0.length c0_0] 37)).alloc (by simp) (.cells #[.slice A0 l0.length c0] 32))
 have BT:=am (jg (heap_alloc_new w (.cells #[.slice A0_0 l0_0.length c0_0] 37)) (.cells #[.slice A0 l0.length c0] 32))
 have BH:=am (show ((w.alloc (.cells #[.slice A0_0 l0_0.length c0_0] 37)).alloc (.cells #[.slice A0 l0.length c0] 32)).heap[w.heap.size+1]?=some (.cells #[.slice A0 l0.length c0] 32 (0,0)) by have h:=heap_alloc_new (w.alloc (.cells #[.slice A0_0 l0_0.length c0_0] 37)) (.cells #[.slice A0 l0.length c0] 32);simpa only [World.size_alloc] using h)
 have hmH:=hm
 clear hr0_0 hr0 h hc0_0 hc0
 go_enter Try.func63,Try.ntmps63
 go_wp2
 go_loopw [14] (fun v14 wr=>∃ i:Nat,i≤l0.length∧v14=.int .i64 i∧jw (hpAny l0_0 l0 (l0.length - i) i=hpAny l0_0 l0 l0.length 0)∧jw (wr.heap[w.heap.size]?=some (.cells #[.slice A0_0 l0_0.length c0_0] 37 (0,0)))∧jw (wr.heap[w.heap.size+1]?=some (.cells #[.slice A0 l0.length c0] 32 (0,0)))∧jw (Below w.heap.size w wr)) (fun v14 _=>l0.length - (intOf v14).toNat)
 case atStart=>exact ⟨0,Nat.zero_le _,rfl,⟨rfl⟩,BT,BH,HB⟩
 case round =>
  clear HB BT BH
  obtain ⟨i,hi,rfl,HA,BT,BH,HB⟩:=hrel
  have cT:=jLa BT.out
  have cH:=jLa BH.out
  by_cases hlt:i<l0.length
  ·obtain ⟨ad,rfl,x0,x1,x2,x3,x4⟩:=jOa (Kd.jK HRH.out HB.out) (i:Int) (by omega) (by omega)
   rw [Int.toNat_natCast] at x0 x1 x2 x3 x4
   have hneT:w.heap.size<wr.heap.size:=jP BT.out
   have hneH:w.heap.size+1<wr.heap.size:=jP BH.out
   have BX:=am (heap_alloc_new wr (.cells #[.int .i64 (jd l0 (i:Int)).f0, .int .i64 (jd l0 (i:Int)).f1, .int .i64 (jd l0 (i:Int)).f2, .int .i64 (jd l0 (i:Int)).f3, .bool (jd l0 (i:Int)).f4] 54))
   have HS:=am (show hpAny l0_0 l0 (l0.length - i) i=if hpBad l0_0 l0.length (i:Int) (jd l0 (i:Int))=true then true else hpAny l0_0 l0 (l0.length - (i+1)) (i+1) by rw [show l0.length - i=(l0.length - (i+1))+1 by omega];rfl)

   cases e0:hpIn (jd l0 (i:Int)).f0 0 (wrap64 ((l0_0.length:Int) - 1)) with
   | false =>
    have E0:=am (show jVa.f l0_0 (jd l0 (i:Int)).f0=some false by rw [hp_has,e0])
    have HZ:=am (show r=false by have h:=H'.out;unfold jPa.f at h;rw [← HA.out,HS.out,if_pos (show hpBad l0_0 l0.length (i:Int) (jd l0 (i:Int))=true by simp [hpBad,e0]),if_pos rfl] at h;exact (Option.some.inj h).symm)
    clear e0 HA HS H'
    go_wp2_with (first |(go_at_call 94;refine (jVa.calls _ _ _ _ false _ (Kd.jK HRT.out (bq)) hcT E0.out).mono ?_;rintro e w2 ⟨rfl,hb2⟩;have n0_:=am (ja (g:=wr.heap.size) (o:=.cells #[.int .i64 (jd l0 (i:Int)).f0, .int .i64 (jd l0 (i:Int)).f1, .int .i64 (jd l0 (i:Int)).f2, .int .i64 (jd l0 (i:Int)).f3, .bool (jd l0 (i:Int)).f4] 54 (0,0)) (Y14) hb2);have n1_:=am (ja (g:=w.heap.size) (o:=.cells #[.slice A0_0 l0_0.length c0_0] 37 (0,0)) (kq BT.out) hb2);have n2_:=am (ja (g:=w.heap.size+1) (o:=.cells #[.slice (some ad) l0.length c0] 32 (0,0)) (kq BH.out) hb2);have n3_:=am (je (bq) hb2);clear BX BT BH HB;(try clear cx0 cx1 cx2 cx3);have BX:=n0_;have BT:=n1_;have BH:=n2_;have HB:=n3_;clear n0_ n1_ n2_ n3_ hb2;have cT:=jLa BT.out;have cH:=jLa BH.out;have cx0:=jLa BX.out;have cx1:=cellA1 BX.out;have cx2:=cellA2 BX.out;have cx3:=cellA3 BX.out))
    go_ret
    exact ⟨by rw [HZ.out];rfl,(bq)⟩
   | true =>
    have E0:=am (show jVa.f l0_0 (jd l0 (i:Int)).f0=some true by rw [hp_has,e0])
    cases e1:hpIn (jd l0 (i:Int)).f1 0 99 with
    | false =>
     have E1:=am (show jjb.f (jd l0 (i:Int)).f1=some false by rw [hp_code,e1])
     have HZ:=am (show r=false by have h:=H'.out;unfold jPa.f at h;rw [← HA.out,HS.out,if_pos (show hpBad l0_0 l0.length (i:Int) (jd l0 (i:Int))=true by simp [hpBad,e0,e1]),if_pos rfl] at h;exact (Option.some.inj h).symm)
     clear e0 e1 HA HS H'
     go_wp2_with (first |(go_at_call 94;refine (jVa.calls _ _ _ _ true _ (Kd.jK HRT.out (bq)) hcT E0.out).mono ?_;rintro e w2 ⟨rfl,hb2⟩;have n0_:=am (ja (g:=wr.heap.size) (o:=.cells #[.int .i64 (jd l0 (i:Int)).f0, .int .i64 (jd l0 (i:Int)).f1, .int .i64 (jd l0 (i:Int)).f2, .int .i64 (jd l0 (i:Int)).f3, .bool (jd l0 (i:Int)).f4] 54 (0,0)) (Y14) hb2);have n1_:=am (ja (g:=w.heap.size) (o:=.cells #[.slice A0_0 l0_0.length c0_0] 37 (0,0)) (kq BT.out) hb2);have n2_:=am (ja (g:=w.heap.size+1) (o:=.cells #[.slice (some ad) l0.length c0] 32 (0,0)) (kq BH.out) hb2);have n3_:=am (je (bq) hb2);clear BX BT BH HB;(try clear cx0 cx1 cx2 cx3);have BX:=n0_;have BT:=n1_;have BH:=n2_;have HB:=n3_;clear n0_ n1_ n2_ n3_ hb2;have cT:=jLa BT.out;have cH:=jLa BH.out;have cx0:=jLa BX.out;have cx1:=cellA1 BX.out;have cx2:=cellA2 BX.out;have cx3:=cellA3 BX.out) |(go_at_call 95;refine (jjb.calls _ false _ E1.out).mono ?_;rintro e w3 ⟨rfl,hd3⟩;have hb3:=hd3.below;clear hd3;have n0_:=am (ja (g:=wr.heap.size) (o:=.cells #[.int .i64 (jd l0 (i:Int)).f0, .int .i64 (jd l0 (i:Int)).f1, .int .i64 (jd l0 (i:Int)).f2, .int .i64 (jd l0 (i:Int)).f3, .bool (jd l0 (i:Int)).f4] 54 (0,0)) (Y14) hb3);have n1_:=am (ja (g:=w.heap.size) (o:=.cells #[.slice A0_0 l0_0.length c0_0] 37 (0,0)) (kq BT.out) hb3);have n2_:=am (ja (g:=w.heap.size+1) (o:=.cells #[.slice (some ad) l0.length c0] 32 (0,0)) (kq BH.out) hb3);have n3_:=am (je (bq) hb3);clear BX BT BH HB;(try clear cx0 cx1 cx2 cx3);have BX:=n0_;have BT:=n1_;have BH:=n2_;have HB:=n3_;clear n0_ n1_ n2_ n3_ hb3;have cT:=jLa BT.out;have cH:=jLa BH.out;have cx0:=jLa BX.out;have cx1:=cellA1 BX.out;have cx2:=cellA2 BX.out;have cx3:=cellA3 BX.out))
     go_ret
     exact ⟨by rw [HZ.out];rfl,(bq)⟩
    | true =>
     have E1:=am (show jjb.f (jd l0 (i:Int)).f1=some true by rw [hp_code,e1])
     cases e2:hpLk l0.length (i:Int) (jd l0 (i:Int)).f2 with
     | false =>
      have E2:=am (e2)
      have HZ:=am (show r=false by have h:=H'.out;unfold jPa.f at h;rw [← HA.out,HS.out,if_pos (show hpBad l0_0 l0.length (i:Int) (jd l0 (i:Int))=true by simp [hpBad,e0,e1,e2]),if_pos rfl] at h;exact (Option.some.inj h).symm)
      clear e0 e1 e2 HA HS H'
      go_wp2_with (first |(go_at_call 94;refine (jVa.calls _ _ _ _ true _ (Kd.jK HRT.out (bq)) hcT E0.out).mono ?_;rintro e w2 ⟨rfl,hb2⟩;have n0_:=am (ja (g:=wr.heap.size) (o:=.cells #[.int .i64 (jd l0 (i:Int)).f0, .int .i64 (jd l0 (i:Int)).f1, .int .i64 (jd l0 (i:Int)).f2, .int .i64 (jd l0 (i:Int)).f3, .bool (jd l0 (i:Int)).f4] 54 (0,0)) (Y14) hb2);have n1_:=am (ja (g:=w.heap.size) (o:=.cells #[.slice A0_0 l0_0.length c0_0] 37 (0,0)) (kq BT.out) hb2);have n2_:=am (ja (g:=w.heap.size+1) (o:=.cells #[.slice (some ad) l0.length c0] 32 (0,0)) (kq BH.out) hb2);have n3_:=am (je (bq) hb2);clear BX BT BH HB;(try clear cx0 cx1 cx2 cx3);have BX:=n0_;have BT:=n1_;have BH:=n2_;have HB:=n3_;clear n0_ n1_ n2_ n3_ hb2;have cT:=jLa BT.out;have cH:=jLa BH.out;have cx0:=jLa BX.out;have cx1:=cellA1 BX.out;have cx2:=cellA2 BX.out;have cx3:=cellA3 BX.out) |(go_at_call 95;refine (jjb.calls _ true _ E1.out).mono ?_;rintro e w3 ⟨rfl,hd3⟩;have hb3:=hd3.below;clear hd3;have n0_:=am (ja (g:=wr.heap.size) (o:=.cells #[.int .i64 (jd l0 (i:Int)).f0, .int .i64 (jd l0 (i:Int)).f1, .int .i64 (jd l0 (i:Int)).f2, .int .i64 (jd l0 (i:Int)).f3, .bool (jd l0 (i:Int)).f4] 54 (0,0)) (Y14) hb3);have n1_:=am (ja (g:=w.heap.size) (o:=.cells #[.slice A0_0 l0_0.length c0_0] 37 (0,0)) (kq BT.out) hb3);have n2_:=am (ja (g:=w.heap.size+1) (o:=.cells #[.slice (some ad) l0.length c0] 32 (0,0)) (kq BH.out) hb3);have n3_:=am (je (bq) hb3);clear BX BT BH HB;(try clear cx0 cx1 cx2 cx3);have BX:=n0_;have BT:=n1_;have BH:=n2_;have HB:=n3_;clear n0_ n1_ n2_ n3_ hb3;have cT:=jLa BT.out;have cH:=jLa BH.out;have cx0:=jLa BX.out;have cx1:=cellA1 BX.out;have cx2:=cellA2 BX.out;have cx3:=cellA3 BX.out) |(go_at_call 93;refine (jhc _ _ _ _ _ _ _ hmH cH).mono ?_;rw [E2.out];rintro e w4 ⟨rfl,hb4⟩;have n0_:=am (ja (g:=wr.heap.size) (o:=.cells #[.int .i64 (jd l0 (i:Int)).f0, .int .i64 (jd l0 (i:Int)).f1, .int .i64 (jd l0 (i:Int)).f2, .int .i64 (jd l0 (i:Int)).f3, .bool (jd l0 (i:Int)).f4] 54 (0,0)) (Y14) hb4);have n1_:=am (ja (g:=w.heap.size) (o:=.cells #[.slice A0_0 l0_0.length c0_0] 37 (0,0)) (kq BT.out) hb4);have n2_:=am (ja (g:=w.heap.size+1) (o:=.cells #[.slice (some ad) l0.length c0] 32 (0,0)) (kq BH.out) hb4);have n3_:=am (je (bq) hb4);clear BX BT BH HB;(try clear cx0 cx1 cx2 cx3);have BX:=n0_;have BT:=n1_;have BH:=n2_;have HB:=n3_;clear n0_ n1_ n2_ n3_ hb4;have cT:=jLa BT.out;have cH:=jLa BH.out;have cx0:=jLa BX.out;have cx1:=cellA1 BX.out;have cx2:=cellA2 BX.out;have cx3:=cellA3 BX.out))
      go_ret
      exact ⟨by rw [HZ.out];rfl,(bq)⟩
     | true =>
      have E2:=am (e2)
      cases e3:hpLk l0.length (i:Int) (jd l0 (i:Int)).f3 with
      | false =>
       have E3:=am (e3)
       have HZ:=am (show r=false by have h:=H'.out;unfold jPa.f at h;rw [← HA.out,HS.out,if_pos (show hpBad l0_0 l0.length (i:Int) (jd l0 (i:Int))=true by simp [hpBad,e0,e1,e2,e3]),if_pos rfl] at h;exact (Option.some.inj h).symm)
       clear e0 e1 e2 e3 HA HS H'
       go_wp2_with (first |(go_at_call 94;refine (jVa.calls _ _ _ _ true _ (Kd.jK HRT.out (bq)) hcT E0.out).mono ?_;rintro e w2 ⟨rfl,hb2⟩;have n0_:=am (ja (g:=wr.heap.size) (o:=.cells #[.int .i64 (jd l0 (i:Int)).f0, .int .i64 (jd l0 (i:Int)).f1, .int .i64 (jd l0 (i:Int)).f2, .int .i64 (jd l0 (i:Int)).f3, .bool (jd l0 (i:Int)).f4] 54 (0,0)) (Y14) hb2);have n1_:=am (ja (g:=w.heap.size) (o:=.cells #[.slice A0_0 l0_0.length c0_0] 37 (0,0)) (kq BT.out) hb2);have n2_:=am (ja (g:=w.heap.size+1) (o:=.cells #[.slice (some ad) l0.length c0] 32 (0,0)) (kq BH.out) hb2);have n3_:=am (je (bq) hb2);clear BX BT BH HB;(try clear cx0 cx1 cx2 cx3);have BX:=n0_;have BT:=n1_;have BH:=n2_;have HB:=n3_;clear n0_ n1_ n2_ n3_ hb2;have cT:=jLa BT.out;have cH:=jLa BH.out;have cx0:=jLa BX.out;have cx1:=cellA1 BX.out;have cx2:=cellA2 BX.out;have cx3:=cellA3 BX.out) |(go_at_call 95;refine (jjb.calls _ true _ E1.out).mono ?_;rintro e w3 ⟨rfl,hd3⟩;have hb3:=hd3.below;clear hd3;have n0_:=am (ja (g:=wr.heap.size) (o:=.cells #[.int .i64 (jd l0 (i:Int)).f0, .int .i64 (jd l0 (i:Int)).f1, .int .i64 (jd l0 (i:Int)).f2, .int .i64 (jd l0 (i:Int)).f3, .bool (jd l0 (i:Int)).f4] 54 (0,0)) (Y14) hb3);have n1_:=am (ja (g:=w.heap.size) (o:=.cells #[.slice A0_0 l0_0.length c0_0] 37 (0,0)) (kq BT.out) hb3);have n2_:=am (ja (g:=w.heap.size+1) (o:=.cells #[.slice (some ad) l0.length c0] 32 (0,0)) (kq BH.out) hb3);have n3_:=am (je (bq) hb3);clear BX BT BH HB;(try clear cx0 cx1 cx2 cx3);have BX:=n0_;have BT:=n1_;have BH:=n2_;have HB:=n3_;clear n0_ n1_ n2_ n3_ hb3;have cT:=jLa BT.out;have cH:=jLa BH.out;have cx0:=jLa BX.out;have cx1:=cellA1 BX.out;have cx2:=cellA2 BX.out;have cx3:=cellA3 BX.out) |(go_at_call 93;refine (jhc _ _ _ _ _ _ _ hmH cH).mono ?_;(first | rw [E2.out] | rw [E3.out]);rintro e w4 ⟨rfl,hb4⟩;have n0_:=am (ja (g:=wr.heap.size) (o:=.cells #[.int .i64 (jd l0 (i:Int)).f0, .int .i64 (jd l0 (i:Int)).f1, .int .i64 (jd l0 (i:Int)).f2, .int .i64 (jd l0 (i:Int)).f3, .bool (jd l0 (i:Int)).f4] 54 (0,0)) (Y14) hb4);have n1_:=am (ja (g:=w.heap.size) (o:=.cells #[.slice A0_0 l0_0.length c0_0] 37 (0,0)) (kq BT.out) hb4);have n2_:=am (ja (g:=w.heap.size+1) (o:=.cells #[.slice (some ad) l0.length c0] 32 (0,0)) (kq BH.out) hb4);have n3_:=am (je (bq) hb4);clear BX BT BH HB;(try clear cx0 cx1 cx2 cx3);have BX:=n0_;have BT:=n1_;have BH:=n2_;have HB:=n3_;clear n0_ n1_ n2_ n3_ hb4;have cT:=jLa BT.out;have cH:=jLa BH.out;have cx0:=jLa BX.out;have cx1:=cellA1 BX.out;have cx2:=cellA2 BX.out;have cx3:=cellA3 BX.out))
       go_ret
       exact ⟨by rw [HZ.out];rfl,(bq)⟩
      | true =>
       have E3:=am (e3)
       have HN:=am (show hpAny l0_0 l0 (l0.length - (i+1)) (i+1)=hpAny l0_0 l0 l0.length 0 by rw [← HA.out,HS.out,if_neg (show ¬ hpBad l0_0 l0.length (i:Int) (jd l0 (i:Int))=true by simp [hpBad,e0,e1,e2,e3])])
       clear e0 e1 e2 e3 HA HS H'
       go_wp2_with (first |(go_at_call 94;refine (jVa.calls _ _ _ _ true _ (Kd.jK HRT.out (bq)) hcT E0.out).mono ?_;rintro e w2 ⟨rfl,hb2⟩;have n0_:=am (ja (g:=wr.heap.size) (o:=.cells #[.int .i64 (jd l0 (i:Int)).f0, .int .i64 (jd l0 (i:Int)).f1, .int .i64 (jd l0 (i:Int)).f2, .int .i64 (jd l0 (i:Int)).f3, .bool (jd l0 (i:Int)).f4] 54 (0,0)) (Y14) hb2);have n1_:=am (ja (g:=w.heap.size) (o:=.cells #[.slice A0_0 l0_0.length c0_0] 37 (0,0)) (kq BT.out) hb2);have n2_:=am (ja (g:=w.heap.size+1) (o:=.cells #[.slice (some ad) l0.length c0] 32 (0,0)) (kq BH.out) hb2);have n3_:=am (je (bq) hb2);clear BX BT BH HB;(try clear cx0 cx1 cx2 cx3);have BX:=n0_;have BT:=n1_;have BH:=n2_;have HB:=n3_;clear n0_ n1_ n2_ n3_ hb2;have cT:=jLa BT.out;have cH:=jLa BH.out;have cx0:=jLa BX.out;have cx1:=cellA1 BX.out;have cx2:=cellA2 BX.out;have cx3:=cellA3 BX.out) |(go_at_call 95;refine (jjb.calls _ true _ E1.out).mono ?_;rintro e w3 ⟨rfl,hd3⟩;have hb3:=hd3.below;clear hd3;have n0_:=am (ja (g:=wr.heap.size) (o:=.cells #[.int .i64 (jd l0 (i:Int)).f0, .int .i64 (jd l0 (i:Int)).f1, .int .i64 (jd l0 (i:Int)).f2, .int .i64 (jd l0 (i:Int)).f3, .bool (jd l0 (i:Int)).f4] 54 (0,0)) (Y14) hb3);have n1_:=am (ja (g:=w.heap.size) (o:=.cells #[.slice A0_0 l0_0.length c0_0] 37 (0,0)) (kq BT.out) hb3);have n2_:=am (ja (g:=w.heap.size+1) (o:=.cells #[.slice (some ad) l0.length c0] 32 (0,0)) (kq BH.out) hb3);have n3_:=am (je (bq) hb3);clear BX BT BH HB;(try clear cx0 cx1 cx2 cx3);have BX:=n0_;have BT:=n1_;have BH:=n2_;have HB:=n3_;clear n0_ n1_ n2_ n3_ hb3;have cT:=jLa BT.out;have cH:=jLa BH.out;have cx0:=jLa BX.out;have cx1:=cellA1 BX.out;have cx2:=cellA2 BX.out;have cx3:=cellA3 BX.out) |(go_at_call 93;refine (jhc _ _ _ _ _ _ _ hmH cH).mono ?_;(first | rw [E2.out] | rw [E3.out]);rintro e w4 ⟨rfl,hb4⟩;have n0_:=am (ja (g:=wr.heap.size) (o:=.cells #[.int .i64 (jd l0 (i:Int)).f0, .int .i64 (jd l0 (i:Int)).f1, .int .i64 (jd l0 (i:Int)).f2, .int .i64 (jd l0 (i:Int)).f3, .bool (jd l0 (i:Int)).f4] 54 (0,0)) (Y14) hb4);have n1_:=am (ja (g:=w.heap.size) (o:=.cells #[.slice A0_0 l0_0.length c0_0] 37 (0,0)) (kq BT.out) hb4);have n2_:=am (ja (g:=w.heap.size+1) (o:=.cells #[.slice (some ad) l0.length c0] 32 (0,0)) (kq BH.out) hb4);have n3_:=am (je (bq) hb4);clear BX BT BH HB;(try clear cx0 cx1 cx2 cx3);have BX:=n0_;have BT:=n1_;have BH:=n2_;have HB:=n3_;clear n0_ n1_ n2_ n3_ hb4;have cT:=jLa BT.out;have cH:=jLa BH.out;have cx0:=jLa BX.out;have cx1:=cellA1 BX.out;have cx2:=cellA2 BX.out;have cx3:=cellA3 BX.out))
       go_roundw
       case rel=>exact ⟨i+1,hlt,by go_num,HN,⟨kq BT.out⟩,⟨kq BH.out⟩,⟨(bq)⟩⟩
       case measure=>simp [intOf];omega
  ·obtain rfl:i=l0.length:=by omega
   have HG:=am (show (hpEnds k l0 l0.length 0).bind (fun b=>if b=true then ((jC.f k l0_0).bind fun v=>some (if v=true then decide ((l0.length:Int)≤24) else false)) else some false)=some r by
    have h:=H'.out
    unfold jPa.f at h
    have hA:=HA.out
    rw [Nat.sub_self] at hA
    rw [if_neg (show ¬ hpAny l0_0 l0 l0.length 0=true by rw [← hA];simp [hpAny])] at h
    exact h)
   clear HA H'
   obtain ⟨b,hE,hG⟩:=bzS HG.out
   have HE:=am hE
   have HG2:=am hG
   clear HG hE hG
   go_wp2
   go_loopw [50] (fun v50 wr=>∃ j:Nat,j≤l0.length∧v50=.int .i64 j∧jw (hpEnds k l0 (l0.length - j) j=some b)∧jw (wr.heap[w.heap.size]?=some (.cells #[.slice A0_0 l0_0.length c0_0] 37 (0,0)))∧jw (wr.heap[w.heap.size+1]?=some (.cells #[.slice A0 l0.length c0] 32 (0,0)))∧jw (Below w.heap.size w wr)) (fun v50 _=>l0.length - (intOf v50).toNat)
   case atStart=>exact ⟨0,Nat.zero_le _,rfl,HE,BT,BH,HB⟩
   case round =>
    clear HB BT BH cT cH HE hlt
    obtain ⟨j,hj,rfl,HA,BT,BH,HB⟩:=hrel
    have cT:=jLa BT.out
    have cH:=jLa BH.out
    by_cases hlt:j<l0.length
    ·have hA:=HA.out
     rw [show l0.length - j=(l0.length - (j+1))+1 by omega,hpEnds] at hA
     obtain ⟨l,hl,hA⟩:=bzS hA
     have HC:=am (fun W (hb:Below w.heap.size w W)=>jWa.calls k A0 c0 l0 (j:Int) l W (Kd.jK HRH.out hb) hcH hl)
     clear HA hl
     by_cases hlen:1≤l.length
     ·rw [if_pos hlen] at hA
      obtain ⟨c,hc,hA⟩:=bzS hA
      unfold ctxF at hc
      obtain ⟨ji,hji⟩:∃ ji,ji=(l.length:Int) - 1:=⟨_,rfl⟩
      rw [← hji] at hc
      have HJ:=am hji
      by_cases hc1:0≤rd l ji
      ·rw [if_pos hc1] at hc
       by_cases hc2:rd l ji<(l0.length:Int)
       ·rw [if_pos hc2] at hc
        have hc3:=Option.some.inj hc
        clear hc
        have hl0:0≤ji:=by omega
        have hl1:ji<(l.length:Int):=by omega
        clear hji
        have p0:=ezT hc1
        have p1:=ezT hc2
        have p2:=ezT hl0
        have p3:=ezT hl1
        by_cases e1:c = -1
        ·rw [if_pos e1] at hA
         have HN:=am hA
         have hcb:((jd l0 (rd l ji)).f3 != -1)=false:=by rw [hc3];simpa using e1
         clear hA e1 hc3 hlen
         go_wp2_with (go_at_call 57;refine (HC.out _ (bq)).mono ?_;rintro e w2 ⟨v2,rfl,hr2,hb2⟩;have n1_:=am (ja (g:=w.heap.size) (o:=.cells #[.slice A0_0 l0_0.length c0_0] 37 (0,0)) (kq BT.out) hb2);have n2_:=am (ja (g:=w.heap.size+1) (o:=.cells #[.slice A0 l0.length c0] 32 (0,0)) (kq BH.out) hb2);have n3_:=am (je (bq) hb2);clear BT BH HB;have BT:=n1_;have BH:=n2_;have HB:=n3_;clear n1_ n2_ n3_ hb2;have cT:=jLa BT.out;have cH:=jLa BH.out;obtain ⟨Ao,co,eo⟩:=Kd.jca hr2;subst eo;have hw2:IntKind.i64.wrap ((l.length:Int) - 1)=ji:=(by rw [HJ.out];exact IntWalk.i64_in _ (by have:=Kd.C_max (Kd.jq hr2).2.2;omega));obtain ⟨ad2,rfl,hz⟩:=Kd.jKb (Kd.jq hr2).2.2 ji hl0 hl1;obtain ⟨ad,e3,y0,y1,y2,y3,y4⟩:=jOa (Kd.jK HRH.out HB.out) (rd l ji) hc1 hc2;cases e3;clear hr2)
         repeat (go_quiet (fail);try go_wp2)
         go_roundw
         case rel=>exact ⟨j+1,hlt,by go_num,HN,⟨kq BT.out⟩,⟨kq BH.out⟩,⟨(bq)⟩⟩
         case measure=>simp [intOf];omega
        ·rw [if_neg e1] at hA
         have hcb:((jd l0 (rd l ji)).f3 != -1)=true:=by rw [hc3];simpa using e1
         have HZ:=am (show r=false by
          have h:=HG2.out
          rw [← Option.some.inj hA,if_neg (by simp)] at h
          exact (Option.some.inj h).symm)
         clear hA e1 hc3 hlen HG2
         go_wp2_with (go_at_call 57;refine (HC.out _ (bq)).mono ?_;rintro e w2 ⟨v2,rfl,hr2,hb2⟩;have n1_:=am (ja (g:=w.heap.size) (o:=.cells #[.slice A0_0 l0_0.length c0_0] 37 (0,0)) (kq BT.out) hb2);have n2_:=am (ja (g:=w.heap.size+1) (o:=.cells #[.slice A0 l0.length c0] 32 (0,0)) (kq BH.out) hb2);have n3_:=am (je (bq) hb2);clear BT BH HB;have BT:=n1_;have BH:=n2_;have HB:=n3_;clear n1_ n2_ n3_ hb2;have cT:=jLa BT.out;have cH:=jLa BH.out;obtain ⟨Ao,co,eo⟩:=Kd.jca hr2;subst eo;have hw2:IntKind.i64.wrap ((l.length:Int) - 1)=ji:=(by rw [HJ.out];exact IntWalk.i64_in _ (by have:=Kd.C_max (Kd.jq hr2).2.2;omega));obtain ⟨ad2,rfl,hz⟩:=Kd.jKb (Kd.jq hr2).2.2 ji hl0 hl1;obtain ⟨ad,e3,y0,y1,y2,y3,y4⟩:=jOa (Kd.jK HRH.out HB.out) (rd l ji) hc1 hc2;cases e3;clear hr2)
         repeat (go_quiet (fail);try go_wp2)
         go_ret
         exact ⟨by rw [HZ.out];rfl,(bq)⟩
       ·rw [if_neg hc2] at hc;cases hc
      ·rw [if_neg hc1] at hc;cases hc
     ·rw [if_neg hlen] at hA;cases hA
    ·obtain rfl:j=l0.length:=by omega
     have hA:=HA.out
     rw [Nat.sub_self] at hA
     have hG:=HG2.out
     rw [← Option.some.inj (show some true=some b from hA),if_pos rfl] at hG
     obtain ⟨v,hv,hG⟩:=bzS hG
     have HV:=am (fun W (hb:Below w.heap.size w W)=>jC.calls k A0_0 c0_0 l0_0 v W (Kd.jK HRT.out hb) hcT hv)
     have hZ:=Option.some.inj hG
     clear HA HG2 hA hG hv
     cases v with
     | false =>
      have HZ:=am (show r=false by rw [← hZ];rfl)
      clear hZ
      go_wp2_with (go_at_call 96;refine (HV.out _ (bq)).mono ?_;rintro e w2 ⟨rfl,hb2⟩;have n1_:=am (ja (g:=w.heap.size) (o:=.cells #[.slice A0_0 l0_0.length c0_0] 37 (0,0)) (kq BT.out) hb2);have n2_:=am (ja (g:=w.heap.size+1) (o:=.cells #[.slice A0 l0.length c0] 32 (0,0)) (kq BH.out) hb2);have n3_:=am (je (bq) hb2);clear BT BH HB;have BT:=n1_;have BH:=n2_;have HB:=n3_;clear n1_ n2_ n3_ hb2;have cT:=jLa BT.out;have cH:=jLa BH.out)
      go_ret
      exact ⟨by rw [HZ.out];rfl,(bq)⟩
     | true =>
      rw [if_pos rfl] at hZ
      have HZ:=am hZ
      clear hZ
      go_wp2_with (go_at_call 96;refine (HV.out _ (bq)).mono ?_;rintro e w2 ⟨rfl,hb2⟩;have n1_:=am (ja (g:=w.heap.size) (o:=.cells #[.slice A0_0 l0_0.length c0_0] 37 (0,0)) (kq BT.out) hb2);have n2_:=am (ja (g:=w.heap.size+1) (o:=.cells #[.slice A0 l0.length c0] 32 (0,0)) (kq BH.out) hb2);have n3_:=am (je (bq) hb2);clear BT BH HB;have BT:=n1_;have BH:=n2_;have HB:=n3_;clear n1_ n2_ n3_ hb2;have cT:=jLa BT.out;have cH:=jLa BH.out)
      go_ret
      exact ⟨by rw [← HZ.out];rfl,(bq)⟩
set_option maxHeartbeats 8000000 in
set_option maxRecDepth 100000 in
theorem impl_faultsIn1_calls (A_ : Option Addr) (c_ : Nat) (m : Nat) (x : Int) (B0 : Nat) (w : World) (hm : m ≤ 9223372036854775807) (hc : w.cell? ⟨B0, 0, none⟩ = some (.slice A_ m c_)) :
  Calls Try.prog 74 #[.int .i64 x, .pointer (some ⟨B0,0,none⟩)] w fun e w'=>e=.returned (.bool (!hpIn x 0 ((m:Int) - 1)))∧Below w.heap.size w w':=by
 have HB:=am (Below.refl w.heap.size w)
 have hu32:=Try.underlying32
 have hw2:IntKind.i64.wrap ((m:Int) - 1)=(m:Int) - 1:=IntWalk.i64_in _ (by omega)
 by_cases h1:x≥0
 ·have hb1:=dzT h1
  by_cases h2:x≤(m:Int) - 1
  ·have hb2:=dzT h2
   have HZ:=am (by simp [hpIn];omega:hpIn x 0 ((m:Int) - 1)=true)
   clear h1 h2
   go_enter Try.func74,Try.ntmps74
   go_wp2
   go_ret
   exact ⟨by rw [HZ.out];rfl,(bq)⟩
  ·have hb2:=dzF h2
   have HZ:=am (by simp [hpIn];omega:hpIn x 0 ((m:Int) - 1)=false)
   clear h1 h2
   go_enter Try.func74,Try.ntmps74
   go_wp2
   go_ret
   exact ⟨by rw [HZ.out];rfl,(bq)⟩
 ·have hb1:=dzF h1
  have HZ:=am (by simp [hpIn];omega:hpIn x 0 ((m:Int) - 1)=false)
  clear h1
  go_enter Try.func74,Try.ntmps74
  go_wp2
  go_ret
  exact ⟨by rw [HZ.out];rfl,(bq)⟩
set_option maxHeartbeats 8000000 in
set_option maxRecDepth 100000 in
theorem impl_faultsIn_idx (A_ : Option Addr) (c_ : Nat) (l : List (Int)) (B0_ : Nat) (p : Int → Option Bool) (r : Int) (w : World) (hr : Kd.C (Kd.int .i64) w A_ l.length l) (h : idxFrom p l 0 = some r)
  (hp:∀ W,Below w.heap.size w W→∀ (x:Int) (b:Bool),p x=some b→Calls Try.prog 74 #[.int .i64 x, .pointer (some ⟨B0_,0,none⟩)] W fun e w'=>e=.returned (.bool b)∧Below W.heap.size W w') :
  Calls Try.prog 101 #[.slice A_ l.length c_, .func (.func 74) #[] #[.pointer (some ⟨B0_,0,none⟩)]] w fun e w'=>e=.returned (.int .i64 r)∧Below w.heap.size w w':=by
 have hm:l.length≤9223372036854775807:=Kd.C_max hr
 have HR:=am hr
 have HP:=am hp
 have H0:=am h
 clear hr hp h
 go_enter Try.func101,Try.ntmps101
 go_wp2
 go_loopw [5,8] (fun i5 i8 wr=>∃ k:Nat,k≤l.length∧i8=.int .i64 k∧jw (idxFrom p (l.drop k) k=some r)∧Below w.heap.size w wr) (fun _ i8 _=>l.length - (intOf i8).toNat)
 case atStart=>exact ⟨0,Nat.zero_le _,rfl,H0,Below.refl _ _⟩
 case round =>
  clear H0
  obtain ⟨k,hk,rfl,HA,hb⟩:=hrel
  by_cases hlt:k<l.length
  ·have HB:=am (idxFrom_step hlt HA.out)
   clear HA
   obtain ⟨ad,rfl,hx0⟩:=Kd.jKb HR.out (k:Int) (by omega) (by omega)
   have hrd:rd l (k:Int)=l[k]:=by simp [rd,List.getD_eq_getElem?_getD,hlt]
   replace hx0:=jCa hb hx0
   rw [hrd] at hx0
   simp only [Int.toNat_natCast] at hx0
   clear hrd
   obtain ⟨b,hb1,hb0⟩:=HB.out
   have HQ:=am hb1
   clear hb1 HB
   cases b with
   | true =>
    have HZ:=am (by simpa using hb0:(k:Int)=r)
    clear hb0
    go_wp2_with (go_at_call 74;refine (HP.out _ hb _ _ HQ.out).mono ?_;rintro e w' ⟨rfl,hb2⟩)
    go_ret
    exact ⟨by rw [← HZ.out];rfl,jyb hb hb.size hb2⟩
   | false =>
    have HZ:=am (by simpa using hb0:idxFrom p (l.drop (k+1)) (k+1)=some r)
    clear hb0
    go_wp2_with (go_at_call 74;refine (HP.out _ hb _ _ HQ.out).mono ?_;rintro e w' ⟨rfl,hb2⟩)
    go_roundw
    case rel=>exact ⟨k+1,hlt,by go_num,HZ,jyb hb hb.size hb2⟩
    case measure=>simp [intOf];omega
  ·have HZ:=am (idxFrom_end (by omega) HA.out)
   clear HA
   go_wp2
   go_ret
   exact ⟨by rw [HZ.out];rfl,hb⟩
set_option maxHeartbeats 8000000 in
set_option maxRecDepth 100000 in
theorem impl_faultsIn_any (A_ : Option Addr) (c_ : Nat) (l : List Int) (B0_ : Nat) (p : Int → Option Bool) (r : Int) (w : World) (hr : Kd.C (Kd.int .i64) w A_ l.length l) (h : idxFrom p l 0 = some r)
  (hp:∀ W,Below w.heap.size w W→∀ (x:Int) (b:Bool),p x=some b→Calls Try.prog 74 #[.int .i64 x, .pointer (some ⟨B0_,0,none⟩)] W fun e w'=>e=.returned (.bool b)∧Below W.heap.size W w') :
  Calls Try.prog 73 #[.slice A_ l.length c_, .func (.func 74) #[] #[.pointer (some ⟨B0_,0,none⟩)]] w fun e w'=>e=.returned (.bool (decide (0≤r)))∧Below w.heap.size w w':=by
 have HF:=am (impl_faultsIn_idx A_ c_ l B0_ p r w hr h hp)
 clear hr h hp
 go_enter Try.func73,Try.ntmps73
 go_wp2_with (go_at_call 101;refine HF.out.mono ?_;rintro e w' ⟨rfl,hb2⟩)
 go_ret
 exact ⟨rfl,hb2⟩
def jcb.f (k : Nat) (l0_0 : List S94) (l1_0 : List S54) (l2 : List Int) : Option Bool := (jPa.f k l0_0 l1_0).bind fun v => if v then (idxFrom (fun x => some (!hpIn x 0 ((l1_0.length : Int) - 1))) l2 0).bind fun r => some (!decide (0 ≤ r)) else some false
set_option maxHeartbeats 8000000 in
set_option maxRecDepth 100000 in
theorem jcb.calls (k : Nat) (A0_0 : Option Addr) (c0_0 : Nat) (l0_0 : List (S94)) (A1_0 : Option Addr) (c1_0 : Nat) (l1_0 : List (S54)) (A2 : Option Addr) (c2 : Nat) (l2 : List Int) (r : Bool) (w : World) (hr0_0 : Kd.C k94 w A0_0 l0_0.length l0_0) (hc0_0 : l0_0.length ≤ c0_0) (hr1_0 : Kd.C k54 w A1_0 l1_0.length l1_0) (hc1_0 : l1_0.length ≤ c1_0) (hr2 : Kd.C (Kd.int .i64) w A2 l2.length l2) (hc2 : l2.length ≤ c2) (h : jcb.f k l0_0 l1_0 l2 = some r) :
  Calls Try.prog 45 #[.agg #[.slice A0_0 l0_0.length c0_0], .agg #[.slice A1_0 l1_0.length c1_0], .slice A2 l2.length c2] w fun e w'=>e=.returned (.bool r)∧Below w.heap.size w w':=by
 obtain ⟨v,hv,h⟩:=bzS h
 have hu37:=Try.underlying37
 have hu32:=Try.underlying32
 have hm:l1_0.length≤9223372036854775807:=Kd.C_max hr1_0
 have B0:=am (((Below.refl w.heap.size w).alloc (Nat.le_refl _) (.cells #[.slice A0_0 l0_0.length c0_0] 37)).alloc (by simp) (.cells #[.slice A1_0 l1_0.length c1_0] 32))
 have KC:=am (show ((w.alloc (.cells #[.slice A0_0 l0_0.length c0_0] 37)).alloc (.cells #[.slice A1_0 l1_0.length c1_0] 32)).cell? ⟨w.heap.size+1,0,none⟩=some (.slice A1_0 l1_0.length c1_0) by have h:=hp_cell_new (w.alloc (.cells #[.slice A0_0 l0_0.length c0_0] 37)) (.slice A1_0 l1_0.length c1_0) 32;simpa only [World.size_alloc] using h)
 have HV:=am (fun W (hb:Below w.heap.size w W)=>jPa.calls k A0_0 c0_0 l0_0 A1_0 c1_0 l1_0 v W (Kd.jK hr0_0 hb) hc0_0 (Kd.jK hr1_0 hb) hc1_0 hv)
 cases v with
 | false =>
  obtain rfl:false=r:=by simpa using h
  clear hv h hr0_0 hr1_0 hr2
  go_enter Try.func45,Try.ntmps45
  go_wp2_with (go_at_call 63;refine (HV.out _ B0.out).mono ?_;rintro e w' ⟨rfl,hb2⟩)
  go_ret
  exact ⟨rfl,jyb B0.out B0.out.size hb2⟩
 | true =>
  simp only [if_true] at h
  obtain ⟨q,hq,h⟩:=bzS h
  have HZ:=am (Option.some.inj h)
  have HF:=am (fun W (hb:Below w.heap.size w W) (B:Nat) (hc:W.cell? ⟨B,0,none⟩=some (.slice A1_0 l1_0.length c1_0))=>impl_faultsIn_any A2 c2 l2 B (fun x=>some (!hpIn x 0 ((l1_0.length:Int) - 1))) q W (Kd.jK hr2 hb) hq (fun W' hb' x b hx=>by
   obtain rfl:=Option.some.inj hx
   exact impl_faultsIn1_calls A1_0 c1_0 l1_0.length x B W' hm (jCa hb' hc)))
  clear hv h hq hr0_0 hr1_0 hr2
  go_enter Try.func45,Try.ntmps45
  go_wp2_with (first |(go_at_call 63;refine (HV.out _ B0.out).mono ?_;rintro e w1 ⟨rfl,hb2⟩;have hb1:=jyb B0.out B0.out.size hb2;have hcell:=jCa hb2 KC.out) |(go_at_call 73;refine (HF.out _ hb1 _ hcell).mono ?_;rintro e w2 ⟨rfl,hb3⟩))
  go_ret
  exact ⟨by rw [← HZ.out];rfl,jyb hb1 hb1.size hb3⟩
def cmp_isNaN_int.f (a0 : Int) : Option (Bool) := some (a0 != a0)
set_option maxHeartbeats 8000000 in
set_option maxRecDepth 100000 in
theorem cmp_isNaN_int.calls (a0 : Int) (r : Bool) (w : World) (h : cmp_isNaN_int.f a0 = some r) :
  Calls Try.prog 129 #[.int .i64 a0] w fun e w'=>e=.returned (.bool r)∧jgb w w':=by
 have H:(some (a0 != a0))=some r:=h
 clear h
 obtain rfl:=Option.some.inj H
 go_enter Try.func129,Try.ntmps129
 go_wp2
 go_ret
 exact ⟨sq,Y2⟩
end Go.Proofs.Ytecdfgejmbpclaa.P
end
