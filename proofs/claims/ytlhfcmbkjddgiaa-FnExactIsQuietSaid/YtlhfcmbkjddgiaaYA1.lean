/- One part of the proofs on this program: functions of the program as plain functions, that the code comes to them, and facts on them. -/
import Derived.Test.YtlhfcmbkjddgiaaYAll1
import Derived.Test.YtlhfcmbkjddgiaaYAll4
import Derived.Test.YtlhfcmbkjddgiaaYAll6
import Derived.Test.YtlhfcmbkjddgiaaYWAuto
section
namespace Go.Proofs.Ytlhfcmbkjddgiaa.P
open Go.RowKit Go.Proofs.YtlhfcmbkjddgiaaW.PrintWords Go.Proofs.YtlhfcmbkjddgiaaW.PrintLast Go.Proofs.YtlhfcmbkjddgiaaW.PrintMore
attribute [local go_sem] jca jaa jsa jra jQ jP jba jZ jk
set_option linter.unusedVariables false
set_option linter.unusedSimpArgs false
def jAa.l0 : Nat → List (S98) → List (S106) → Int → Option ((List (S106)))
 | 0,_,_,_=>none
 | k+1,x0,x3,x4=>if x4<(x0.length:Int) then (if 0≤x4 then ((jvc.f ((jYb x0 x4).f0) ((jYb x0 x4).f1)).bind fun bt216=>(if x4<(x3.length:Int) then (jAa.l0 k x0 (x3.set (x4:Int).toNat (⟨bt216.1,bt216.2⟩:S106)) (wrap64 (x4+1))) else (none))) else (none)) else (some x3)
def jAa.f (k : Nat) (l0 : List (S98)) : Option ((List (S106))) := if 0 ≤ (l0.length : Int) then (if ((l0.length : Int) : Int).toNat ≤ 11728124029610 then (jAa.l0 k l0 (List.replicate ((l0.length : Int) : Int).toNat z106) 0) else (none)) else (none)
set_option maxHeartbeats 8000000 in
set_option maxRecDepth 100000 in
theorem jAa.calls (k : Nat) (A0 : Option Addr) (c0 : Nat) (l0 : List (S98)) (r : List (S106)) (w : World) (hr0 : Kd.C k98 w A0 l0.length l0) (hc0 : l0.length ≤ c0) (h : jAa.f k l0 = some r) :
  Calls Try.prog 37 #[.slice A0 l0.length c0] w fun e w'=>∃ v0_:Value,e=.returned (v0_)∧Kd.R k106 106 w' w.heap.size (fun _=>True) v0_ r∧Below w.heap.size w w':=by
 have hu98:=Try.underlying98
 have hu106:=Try.underlying106
 have HR0:=am hr0
 have HC0:=am hc0
 clear hr0 hc0
 have HB:=am (Below.refl w.heap.size w)
 have H:(if 0≤(l0.length:Int) then (if ((l0.length:Int):Int).toNat≤11728124029610 then (jAa.l0 k l0 (List.replicate ((l0.length:Int):Int).toNat z106) 0) else (none)) else (none))=some r:=h
 clear h
 by_cases c2:0≤(l0.length:Int)
 ·rw [if_pos c2] at H
  have c2b0:=ezT c2
  have c2b1:decide (0≤(l0.length:Int))=true:=dzT c2
  clear c2
  by_cases c3:((l0.length:Int):Int).toNat≤11728124029610
  ·rw [if_pos c3] at H
   have c3b0:=ezT c3
   have c3b1:decide (((l0.length:Int):Int).toNat≤11728124029610)=true:=dzT c3
   clear c3
   obtain ⟨y212,hy212⟩:∃ y_:List (S106),y_=(List.replicate ((l0.length:Int):Int).toNat z106):=⟨_,rfl⟩
   replace H:(jAa.l0 k l0 y212 0)=some r:=by first |(rw [hy212];with_reducible exact H) |(have H2_:=(Option.bind_some _ _).symm.trans H;rw [hy212];with_reducible exact H2_) |(have H2_:=(Option.bind_some _ _).symm.trans H;with_reducible exact H2_) | with_reducible exact H |(rw [hy212];exact H) | exact H
   have Ny212:=am hy212
   clear hy212
   have H':=am H
   clear H
   go_enter Try.func37,Try.ntmps37
   go_wp2_with (first |((with_reducible refine jB (N:=7) rfl ?_);refine Kd.R_make k106 _ 106 rfl (N:=7) rfl 29 _ _ rfl (l0.length:Int) rfl rfl Try.underlying29 (.agg #[(.string ⟨#[]⟩),(.int .i64 0)]) 24 info106 rfl (by decide) (by omega) z106 (ok:=fun _=>True) (okp:=fun _=>True) (k106_mkM _ _ _ z106 ) (fun _ hk=>hk) trivial (ozD (uq)) (Nat.le_trans (Nat.mul_le_mul_right _ (ozD (uq):(l0.length:Int).toNat≤11728124029610)) (by omega)) (Below.refl _ _) (Nat.le_refl _) ?_;intro v213 w4 ho5 hb hg_ hnew_;clear hg_ hnew_;(first | rw [← Ny212.out] at ho5 |(simp only [Int.reduceToNat] at ho5;rw [← Ny212.out] at ho5));have HO214:=am (Kd.jda ho5 (jD (bq)));replace HB:=am (jb (bq) hb);clear hb ho5))
   go_loopg [4] k (fun kq v4 w'=>∃ (x3_1:List (S106)) (x4_1:Int),v4=.int .i64 x4_1∧jF (jAa.l0 kq l0 x3_1 x4_1=some r)∧jF (kq≤k)∧jF (Kd.R k106 106 w' w.heap.size (fun _=>True) v213 x3_1)∧jF (Below w.heap.size w w'))
   case atStart=>exact ⟨(y212),(0),(sq),H',⟨Nat.le_refl _⟩,⟨rq HO214.out⟩,⟨bq⟩⟩
   case round =>
    clear H'
    try clear c2
    try clear c2b0
    try clear c2b1
    try clear p2
    try clear c3
    try clear c3b0
    try clear c3b1
    obtain ⟨x3_1,x4_1,rfl,HA,HK1,HO_3,HB⟩:=hrel
    cases gk with
    | zero=>exact absurd HA.out (by simp [jAa.l0])
    | succ k1 =>
     have H:=HA.out
     clear HA
     simp only [jAa.l0] at H
     by_cases c6:x4_1<(l0.length:Int)
     ·rw [if_pos c6] at H
      have c6b0:decide (x4_1<(l0.length:Int))=true:=dzT c6
      clear c6
      by_cases c7:0≤x4_1
      ·rw [if_pos c7] at H
       have c7b0:decide (0≤x4_1)=true:=dzT c7
       clear c7
       replace H:=bzS H
       obtain ⟨⟨t216,t217⟩,A80,H⟩:=H
       replace H:(if x4_1<(x3_1.length:Int) then (jAa.l0 k1 l0 (x3_1.set (x4_1:Int).toNat (⟨t216,t217⟩:S106)) (wrap64 (x4_1+1))) else (none))=some r:=H
       have A8:=am A80
       clear A80
       by_cases c9:x4_1<(x3_1.length:Int)
       ·rw [if_pos c9] at H
        have c9b0:decide (x4_1<(x3_1.length:Int))=true:=dzT c9
        clear c9
        obtain ⟨y218,hy218⟩:∃ y_:List (S106),y_=(x3_1.set (x4_1:Int).toNat (⟨t216,t217⟩:S106)):=⟨_,rfl⟩
        replace H:(jAa.l0 k1 l0 y218 (wrap64 (x4_1+1)))=some r:=by first |(rw [hy218];with_reducible exact H) |(have H2_:=(Option.bind_some _ _).symm.trans H;rw [hy218];with_reducible exact H2_) |(have H2_:=(Option.bind_some _ _).symm.trans H;with_reducible exact H2_) | with_reducible exact H |(rw [hy218];exact H) | exact H
        have Ny218:=am hy218
        clear hy218
        have H':=am H
        clear H
        have p215:0≤(x4_1:Int):=ozD (uq)
        have q215:x4_1<(l0.length:Int):=ozD (uq)
        obtain ⟨ad215,e215,hx215_0,hx215_1⟩:=at_T98 HR0.out x4_1 p215 q215
        cases e215
        replace hx215_0:=cb HB.out hx215_0
        replace hx215_1:=cb HB.out hx215_1
        replace p215:=ezT p215
        replace q215:=ezT q215
        go_wp2_with (first |((with_reducible refine jm (f:=71) rfl ?_);refine gL (some 20) Try.func71 #[.agg #[.string ((jYb l0 x4_1).f0), .int .i64 ((jYb l0 x4_1).f1)]] ?_;(with_reducible refine (jvc.calls ((jYb l0 x4_1).f0) ((jYb l0 x4_1).f1) t216 t217 _ A8.out).mono ?_);rintro e w11 ⟨rfl,hb⟩;refine ⟨_,rfl,?_⟩;replace HO_3:=am (Kd.jG (rq HO_3.out) hb);replace HB:=am (jb (bq) hb);(try clear hb);(try clear hb2);(try clear hk);(try clear hi);have p10:0≤(x4_1:Int):=ozD (uq);have q10:(x4_1:Int)<((x3_1.length:Int):Int):=ozD (uq);obtain ⟨go10,co10,eo10,gb10,gl10,cl10,HG10⟩:=Kd.R_form HO_3.out (by omega);(first | cases eo10 |(injection eo10 with ea_ en_ ec_;(first | subst ea_ |(injection ea_ with ea_;subst ea_));subst ec_;clear en_));have GB10:=am gb10;have GG10:=am HG10;clear gb10 gl10 HG10;obtain ⟨ce10,hcl10,hM10,hcc10,hfr10⟩:=Kd.jZb HO_3.out z106 (x4_1:Int) p10 q10;obtain rfl:=jDc hM10;have hx10_0:w11.cell? ⟨go10,(x4_1:Int).toNat * 2,none⟩=some (.string ((jC x3_1 x4_1).f0)):=hcc10 0 _ rfl;have hx10_1:w11.cell? ⟨go10,(x4_1:Int).toNat * 2+1,none⟩=some (.int .i64 ((jC x3_1 x4_1).f1)):=hcc10 1 _ rfl;have hf10_0:w11.frozen? ⟨go10,(x4_1:Int).toNat * 2,none⟩=false:=hfr10 0;have hf10_1:w11.frozen? ⟨go10,(x4_1:Int).toNat * 2+1,none⟩=false:=hfr10 1;clear hcl10 hcc10 hfr10 hM10;replace p10:=ezT p10;replace q10:=ezT q10;have HX12:=am (show Kd.R k106 106 w11 w.heap.size (fun _=>True) (.slice (some ⟨go10,0,none⟩) x3_1.length co10) x3_1 from (rq HO_3.out));obtain ⟨ce12,hcl12,hM12,hcc12,hfr12⟩:=Kd.jZb HX12.out z106 (x4_1:Int) (ozD (uq)) (by have h_:(x4_1:Int)<((x3_1.length:Int):Int):=ozD (uq);first | exact h_ |(have e_:=(Kd.jv HO_3.out).1;omega) | simpa using h_);obtain rfl:=jDc hM12;have HP12:=Kd.R_seg HX12.out (x4_1:Int) (ozD (uq)) (by have h_:(x4_1:Int)<((x3_1.length:Int):Int):=ozD (uq);first | exact h_ |(have e_:=(Kd.jv HO_3.out).1;omega) | simpa using h_) (seg:=[.string t216, .int .i64 t217]) (j:=0) hcl12 hcc12 (show 2≤2 from by decide) (x':=(⟨t216,t217⟩:S106)) (k106_mkM _ _ _ (⟨t216,t217⟩:S106) ) (fun _ hk=>hk);have hx12_0:=hcc12 0 _ rfl;(try simp only [show (k106).sz=2 from rfl,Nat.mul_one,Nat.add_zero] at hx12_0);have hf12_0:=hfr12 0;(try simp only [show (k106).sz=2 from rfl,Nat.mul_one,Nat.add_zero] at hf12_0);have hx12_1:=hcc12 1 _ rfl;(try simp only [show (k106).sz=2 from rfl,Nat.mul_one,Nat.add_zero] at hx12_1);have hf12_1:=hfr12 1;(try simp only [show (k106).sz=2 from rfl,Nat.mul_one,Nat.add_zero] at hf12_1);clear hcl12 hcc12 hfr12 hM12) |((with_reducible refine jic (t:=106) (p:=21) rfl ?_);refine jPb (t:=106) (p:=21) (v:=?vo_w13) (w1:=((w11.setCell ⟨go10,(x4_1:Int).toNat * 2,none⟩ (.string t216)).setCell ⟨go10,(x4_1:Int).toNat * 2+1,none⟩ (.int .i64 t217))) ?hg ?ho ?hn ?hr ?_;(case ho=>rfl);(case hg=>rfl);(case hn=>rfl);(case hr=>exact Y3);intro w13 hw;have hg:w11.grownBy w13 (some go10):=(by rw [hw];exact HP12.2);have hp_:Kd.R k106 106 w13 w.heap.size (fun _=>True) (.slice (some ⟨go10,0,none⟩) x3_1.length co10) y218:=(by rw [hw,Ny218.out];exact HP12.1);clear HP12;replace HO_3:=am (hp_);replace HB:=am ((by rw [hw];exact jl (jl (HB.out) GB10.out) GB10.out:Below w.heap.size w w13));clear hg hw hp_))
        go_roundg k1
        case measure=>have:=HK1.out;omega
        case rel=>exact ⟨(y218),(wrap64 (x4_1+1)),(sq),H',⟨by have:=HK1.out;omega⟩,⟨rq HO_3.out⟩,⟨bq⟩⟩
       ·rw [if_neg c9] at H
        exact absurd H (by simp)
      ·rw [if_neg c7] at H
       exact absurd H (by simp)
     ·rw [if_neg c6] at H
      have c6b0:decide (x4_1<(l0.length:Int))=false:=dzF c6
      clear c6
      obtain rfl:=Option.some.inj H
      go_wp2
      go_ret
      exact ⟨_,Y0,rq HO_3.out,bq⟩
  ·rw [if_neg c3] at H
   exact absurd H (by simp)
 ·rw [if_neg c2] at H
  exact absurd H (by simp)
def jya.f (k : Nat) (l0_0 : List (S98)) : Option ((List (S106))) := (jAa.f k l0_0).bind fun t222 => (some t222)
set_option maxHeartbeats 8000000 in
set_option maxRecDepth 100000 in
theorem jya.calls (k : Nat) (A0_0 : Option Addr) (c0_0 : Nat) (l0_0 : List (S98)) (r : List (S106)) (w : World) (hr0_0 : Kd.C k98 w A0_0 l0_0.length l0_0) (hc0_0 : l0_0.length ≤ c0_0) (h : jya.f k l0_0 = some r) :
  Calls Try.prog 11 #[.agg #[.slice A0_0 l0_0.length c0_0]] w fun e w'=>∃ v0_:Value,e=.returned (.agg #[v0_])∧Kd.R k106 106 w' w.heap.size (fun _=>True) v0_ r∧Below w.heap.size w w':=by
 have hu24:=Try.underlying24
 have hu31:=Try.underlying31
 have HR0_0:=am hr0_0
 have HC0_0:=am hc0_0
 clear hr0_0 hc0_0
 have HB:=am (Below.refl w.heap.size w)
 have H:((jAa.f k l0_0).bind fun t222=>(some t222))=some r:=h
 clear h
 replace H:=bzS H
 obtain ⟨t222,A20,H⟩:=H
 replace H:(some t222)=some r:=H
 have A2:=am A20
 clear A20
 obtain rfl:=Option.some.inj H
 go_enter Try.func11,Try.ntmps11
 go_wp2_with (first |((with_reducible refine jB (N:=1) rfl ?_);refine bE (N:=1) (cs:=#[.slice A0_0 l0_0.length c0_0]) (t:=24) ?_;intro gb219 hg w3 hbox hb;have BK219:=am (hbox);have GW219:=am ((Y1:w.heap.size≤gb219));have GE219:=am ((Y1:w.heap.size≤gb219));replace HB:=am (jb (bq) hb);clear hb hbox hg) |((with_reducible refine jB (N:=2) rfl ?_);refine bE (N:=2) (cs:=#[.slice none 0 0]) (t:=31) ?_;intro gb220 hg w4 hbox hb;have BK220:=am (hbox);have GW220:=am ((Y130:w.heap.size≤gb220));have GE220:=am ((Y130:w.heap.size≤gb220));have NB219_220:=am ((by rw [hg];exact Nat.ne_of_lt (jX (g:=gb219) (o:=.cells #[.slice A0_0 l0_0.length c0_0] 24 (0,0)) (kq BK219.out)):gb219≠gb220));have NB220_219:=am ((by rw [hg];exact Nat.ne_of_gt (jX (g:=gb219) (o:=.cells #[.slice A0_0 l0_0.length c0_0] 24 (0,0)) (kq BK219.out)):gb220≠gb219));replace BK219:=am (je (g:=gb219) (o:=.cells #[.slice A0_0 l0_0.length c0_0] 24 (0,0)) (kq BK219.out) hb);replace HB:=am (jb (by repeat (first |(with_reducible first | exact HB.out | apply jo | apply jg | apply jq | refine jl ?_ GE219.out) | exact HB.out)) hb);clear hb hbox hg) |((with_reducible refine jB (N:=3) rfl ?_);refine bE (N:=3) (cs:=#[.slice none 0 0]) (t:=31) ?_;intro gb221 hg w5 hbox hb;have BK221:=am (hbox);have GW221:=am ((Y131:w.heap.size≤gb221));have GE221:=am ((Y131:w.heap.size≤gb221));have NB219_221:=am ((by rw [hg];exact Nat.ne_of_lt (jX (g:=gb219) (o:=.cells #[.slice A0_0 l0_0.length c0_0] 24 (0,0)) (kq BK219.out)):gb219≠gb221));have NB221_219:=am ((by rw [hg];exact Nat.ne_of_gt (jX (g:=gb219) (o:=.cells #[.slice A0_0 l0_0.length c0_0] 24 (0,0)) (kq BK219.out)):gb221≠gb219));have NB220_221:=am ((by rw [hg];exact Nat.ne_of_lt (jX (g:=gb220) (o:=.cells #[.slice none 0 0] 31 (0,0)) (kq BK220.out)):gb220≠gb221));have NB221_220:=am ((by rw [hg];exact Nat.ne_of_gt (jX (g:=gb220) (o:=.cells #[.slice none 0 0] 31 (0,0)) (kq BK220.out)):gb221≠gb220));replace BK219:=am (je (g:=gb219) (o:=.cells #[.slice A0_0 l0_0.length c0_0] 24 (0,0)) (kq BK219.out) hb);replace BK220:=am (je (g:=gb220) (o:=.cells #[.slice none 0 0] 31 (0,0)) (kq BK220.out) hb);replace HB:=am (jb (by repeat (first |(with_reducible first | exact HB.out | apply jo | apply jg | apply jq | refine jl ?_ GE219.out | refine jl ?_ GE220.out) | exact HB.out)) hb);clear hb hbox hg;have hnb6:=NB219_220.out;have hnc6:=NB220_219.out;have hnb7:=NB219_221.out;have hnc7:=NB221_219.out;have hcz8_0:=bc0 BK219.out;have hfz8_0:=ja BK219.out 0) |((with_reducible refine jm (f:=37) rfl ?_);refine gL (some 6) Try.func37 #[.slice A0_0 l0_0.length c0_0] ?_;(with_reducible refine (jAa.calls k _ _ l0_0 t222 _ ?side1 ?side2 A2.out).mono ?_);(case side1=>exact cq (Kd.jea HR0_0.out HB.out));(case side2=>exact HC0_0.out);rintro e w9 ⟨v223,rfl,ho0,hb⟩;refine ⟨_,rfl,?_⟩;have HO224:=am (Kd.jda ho0 (jD (Y106)));replace BK219:=am (je (g:=gb219) (o:=.cells #[.slice A0_0 l0_0.length c0_0] 24 (0,0)) (kq BK219.out) hb);replace BK220:=am (je (g:=gb220) (o:=.cells #[.slice none 0 0] 31 (0,0)) (kq BK220.out) hb);replace BK221:=am (je (g:=gb221) (o:=.cells #[.slice none 0 0] 31 (0,0)) (kq BK221.out) hb);replace HB:=am (jb (Y106) hb);(try clear hb);(try clear hb2);(try clear hk);(try clear hi);(try clear ho0);obtain ⟨Ao10,co10,eo10⟩:=Kd.jM HO224.out;subst eo10;have hnb11:=NB221_220.out;have hnc11:=NB220_221.out;have hcz12_0:=bc0 BK221.out;have hfz12_0:=ja BK221.out 0;have hcz13_0:=bc0 BK220.out;have hfz13_0:=ja BK220.out 0))
 refine bodyPost_ret (results_cell_row rfl _ _ gb220 31 #[.slice Ao10 t222.length co10] (0,0) _ rfl (by (with_reducible repeat (first | refine jf ?_ _ | refine ji ?_ | refine jd ?_ _));refine jna (cs:=#[.slice none 0 0]) ?_ 0 _ rfl;(with_reducible repeat (first | refine jf ?_ _ | refine ji ?_ | refine jd ?_ _));refine jqa ?_ NB220_221.out _;(with_reducible repeat (first | refine jf ?_ _ | refine ji ?_ | refine jd ?_ _));exact BK220.out) Try.underlying31 rfl (by kernel_rfl)) rfl ?_
 exact ⟨_,Y0,by (with_reducible repeat (first | apply Kd.jka | apply Kd.joa | apply Kd.jua));exact Kd.jH (Kd.jEa (p:=⟨gb220,0,none⟩) (Kd.jEa (p:=⟨gb221,0,none⟩) (Kd.jha (Kd.jha HO224.out BK221.out (by decide)) BK220.out (by decide)) (fun _ hk=>hk.1.2) (.slice Ao10 t222.length co10)) (fun _ hk=>hk.2) (.slice Ao10 t222.length co10)) (fun _ hk=>trivial),Y106⟩
def jHc.f (a0_0 : Int) (a0_1 : Int) (a0_2 : Int) : Option (Int × Int × Int) := some (a0_0, a0_1, a0_2)
set_option maxHeartbeats 8000000 in
set_option maxRecDepth 100000 in
theorem jHc.calls (a0_0 : Int) (a0_1 : Int) (a0_2 : Int) (r1 : Int) (r2 : Int) (r3 : Int) (w : World) (h : jHc.f a0_0 a0_1 a0_2 = some (r1, r2, r3)) :
  Calls Try.prog 38 #[.agg #[.int .i64 a0_0, .int .i64 a0_1, .int .i64 a0_2]] w fun e w'=>e=.returned (.agg #[.int .i64 r1, .int .i64 r2, .int .i64 r3])∧Below w.heap.size w w':=by
 have hu70:=Try.underlying70
 have hu44:=Try.underlying44
 have HB:=am (Below.refl w.heap.size w)
 have H:(some (a0_0,a0_1,a0_2))=some (r1,r2,r3):=h
 clear h
 simp only [Option.some.injEq,Prod.mk.injEq] at H
 obtain ⟨rfl,rfl,rfl⟩:=H
 go_enter Try.func38,Try.ntmps38
 go_wp2_with (first |((with_reducible refine jB (N:=1) rfl ?_);refine bE (N:=1) (cs:=#[.int .i64 a0_0, .int .i64 a0_1, .int .i64 a0_2]) (t:=70) ?_;intro gb225 hg w2 hbox hb;have BK225:=am (hbox);have GW225:=am ((Y1:w.heap.size≤gb225));have GE225:=am ((Y1:w.heap.size≤gb225));replace HB:=am (jb (bq) hb);clear hb hbox hg) |((with_reducible refine jB (N:=2) rfl ?_);refine bE (N:=2) (cs:=#[.int .i64 0, .int .i64 0, .int .i64 0]) (t:=44) ?_;intro gb226 hg w3 hbox hb;have BK226:=am (hbox);have GW226:=am ((Y132:w.heap.size≤gb226));have GE226:=am ((Y132:w.heap.size≤gb226));have NB225_226:=am ((Y133:gb225≠gb226));have NB226_225:=am ((Y134:gb226≠gb225));replace BK225:=am (je (g:=gb225) (o:=.cells #[.int .i64 a0_0, .int .i64 a0_1, .int .i64 a0_2] 70 (0,0)) (kq BK225.out) hb);replace HB:=am (jb (by repeat (first |(with_reducible first | exact HB.out | apply jo | apply jg | apply jq | refine jl ?_ GE225.out) | exact HB.out)) hb);clear hb hbox hg) |((with_reducible refine jB (N:=3) rfl ?_);refine bE (N:=3) (cs:=#[.int .i64 0, .int .i64 0, .int .i64 0]) (t:=44) ?_;intro gb227 hg w4 hbox hb;have BK227:=am (hbox);have GW227:=am ((Y135:w.heap.size≤gb227));have GE227:=am ((Y135:w.heap.size≤gb227));have NB225_227:=am ((Y133:gb225≠gb227));have NB227_225:=am ((Y134:gb227≠gb225));have NB226_227:=am ((by rw [hg];exact Nat.ne_of_lt (jX (g:=gb226) (o:=.cells #[.int .i64 0, .int .i64 0, .int .i64 0] 44 (0,0)) (kq BK226.out)):gb226≠gb227));have NB227_226:=am ((by rw [hg];exact Nat.ne_of_gt (jX (g:=gb226) (o:=.cells #[.int .i64 0, .int .i64 0, .int .i64 0] 44 (0,0)) (kq BK226.out)):gb227≠gb226));replace BK225:=am (je (g:=gb225) (o:=.cells #[.int .i64 a0_0, .int .i64 a0_1, .int .i64 a0_2] 70 (0,0)) (kq BK225.out) hb);replace BK226:=am (je (g:=gb226) (o:=.cells #[.int .i64 0, .int .i64 0, .int .i64 0] 44 (0,0)) (kq BK226.out) hb);replace HB:=am (jb (by repeat (first |(with_reducible first | exact HB.out | apply jo | apply jg | apply jq | refine jl ?_ GE225.out | refine jl ?_ GE226.out) | exact HB.out)) hb);clear hb hbox hg;have hnb5:=NB225_226.out;have hnc5:=NB226_225.out;have hnb6:=NB225_227.out;have hnc6:=NB227_225.out;have hcz7_0:=bc0 BK225.out;have hcz7_1:=bc1 BK225.out;have hcz7_2:=bc2 BK225.out;have hfz7_0:=ja BK225.out 0;have hfz7_1:=ja BK225.out 1;have hfz7_2:=ja BK225.out 2;have hnb8:=NB227_226.out;have hnc8:=NB226_227.out;have hcz9_0:=bc0 BK227.out;have hcz9_1:=bc1 BK227.out;have hcz9_2:=bc2 BK227.out;have hfz9_0:=ja BK227.out 0;have hfz9_1:=ja BK227.out 1;have hfz9_2:=ja BK227.out 2;have hcz10_0:=bc0 BK226.out;have hcz10_1:=bc1 BK226.out;have hcz10_2:=bc2 BK226.out;have hfz10_0:=ja BK226.out 0;have hfz10_1:=ja BK226.out 1;have hfz10_2:=ja BK226.out 2))
 refine bodyPost_ret (results_cell_row rfl _ _ gb226 44 #[.int .i64 a0_0, .int .i64 a0_1, .int .i64 a0_2] (0,0) _ rfl (by (with_reducible repeat (first | refine jf ?_ _ | refine ji ?_ | refine jd ?_ _));refine jna (cs:=#[.int .i64 a0_0, .int .i64 a0_1, .int .i64 0]) ?_ 2 _ rfl;(with_reducible repeat (first | refine jf ?_ _ | refine ji ?_ | refine jd ?_ _));refine jna (cs:=#[.int .i64 a0_0, .int .i64 0, .int .i64 0]) ?_ 1 _ rfl;(with_reducible repeat (first | refine jf ?_ _ | refine ji ?_ | refine jd ?_ _));refine jna (cs:=#[.int .i64 0, .int .i64 0, .int .i64 0]) ?_ 0 _ rfl;(with_reducible repeat (first | refine jf ?_ _ | refine ji ?_ | refine jd ?_ _));refine jqa ?_ NB226_227.out _;(with_reducible repeat (first | refine jf ?_ _ | refine ji ?_ | refine jd ?_ _));refine jqa ?_ NB226_227.out _;(with_reducible repeat (first | refine jf ?_ _ | refine ji ?_ | refine jd ?_ _));refine jqa ?_ NB226_227.out _;(with_reducible repeat (first | refine jf ?_ _ | refine ji ?_ | refine jd ?_ _));exact BK226.out) Try.underlying44 rfl (by kernel_rfl)) rfl ?_
 exact ⟨Y0,by repeat (first |(with_reducible first | exact HB.out | apply jo | apply jg | apply jq | refine jl ?_ GE225.out | refine jl ?_ GE226.out | refine jl ?_ GE227.out) | exact HB.out)⟩
def jK.l0 : Nat → List (S70) → List (S44) → Int → Option ((List (S44)))
 | 0,_,_,_=>none
 | k+1,x0,x3,x4=>if x4<(x0.length:Int) then (if 0≤x4 then ((jHc.f ((jOc x0 x4).f0) ((jOc x0 x4).f1) ((jOc x0 x4).f2)).bind fun bt232=>(if x4<(x3.length:Int) then (jK.l0 k x0 (x3.set (x4:Int).toNat (⟨bt232.1,bt232.2.1,bt232.2.2⟩:S44)) (wrap64 (x4+1))) else (none))) else (none)) else (some x3)
def jK.f (k : Nat) (l0 : List (S70)) : Option ((List (S44))) := if 0 ≤ (l0.length : Int) then (if ((l0.length : Int) : Int).toNat ≤ 11728124029610 then (jK.l0 k l0 (List.replicate ((l0.length : Int) : Int).toNat z44) 0) else (none)) else (none)
set_option maxHeartbeats 8000000 in
set_option maxRecDepth 100000 in
theorem jK.calls (k : Nat) (A0 : Option Addr) (c0 : Nat) (l0 : List (S70)) (r : List (S44)) (w : World) (hr0 : Kd.C k70 w A0 l0.length l0) (hc0 : l0.length ≤ c0) (h : jK.f k l0 = some r) :
  Calls Try.prog 12 #[.slice A0 l0.length c0] w fun e w'=>∃ v0_:Value,e=.returned (v0_)∧Kd.R k44 44 w' w.heap.size (fun _=>True) v0_ r∧Below w.heap.size w w':=by
 have hu70:=Try.underlying70
 have hu44:=Try.underlying44
 have HR0:=am hr0
 have HC0:=am hc0
 clear hr0 hc0
 have HB:=am (Below.refl w.heap.size w)
 have H:(if 0≤(l0.length:Int) then (if ((l0.length:Int):Int).toNat≤11728124029610 then (jK.l0 k l0 (List.replicate ((l0.length:Int):Int).toNat z44) 0) else (none)) else (none))=some r:=h
 clear h
 by_cases c2:0≤(l0.length:Int)
 ·rw [if_pos c2] at H
  have c2b0:=ezT c2
  have c2b1:decide (0≤(l0.length:Int))=true:=dzT c2
  clear c2
  by_cases c3:((l0.length:Int):Int).toNat≤11728124029610
  ·rw [if_pos c3] at H
   have c3b0:=ezT c3
   have c3b1:decide (((l0.length:Int):Int).toNat≤11728124029610)=true:=dzT c3
   clear c3
   obtain ⟨y228,hy228⟩:∃ y_:List (S44),y_=(List.replicate ((l0.length:Int):Int).toNat z44):=⟨_,rfl⟩
   replace H:(jK.l0 k l0 y228 0)=some r:=by first |(rw [hy228];with_reducible exact H) |(have H2_:=(Option.bind_some _ _).symm.trans H;rw [hy228];with_reducible exact H2_) |(have H2_:=(Option.bind_some _ _).symm.trans H;with_reducible exact H2_) | with_reducible exact H |(rw [hy228];exact H) | exact H
   have Ny228:=am hy228
   clear hy228
   have H':=am H
   clear H
   go_enter Try.func12,Try.ntmps12
   go_wp2_with (first |((with_reducible refine jB (N:=7) rfl ?_);refine Kd.R_make k44 _ 44 rfl (N:=7) rfl 33 _ _ rfl (l0.length:Int) rfl rfl Try.underlying33 (.agg #[(.int .i64 0),(.int .i64 0),(.int .i64 0)]) 24 info44 rfl (by decide) (by omega) z44 (ok:=fun _=>True) (okp:=fun _=>True) (jyc _ _ _ z44 ) (fun _ hk=>hk) trivial (ozD (uq)) (Nat.le_trans (Nat.mul_le_mul_right _ (ozD (uq):(l0.length:Int).toNat≤11728124029610)) (by omega)) (Below.refl _ _) (Nat.le_refl _) ?_;intro v229 w4 ho5 hb hg_ hnew_;clear hg_ hnew_;(first | rw [← Ny228.out] at ho5 |(simp only [Int.reduceToNat] at ho5;rw [← Ny228.out] at ho5));have HO230:=am (Kd.jda ho5 (jD (bq)));replace HB:=am (jb (bq) hb);clear hb ho5))
   go_loopg [4] k (fun kq v4 w'=>∃ (x3_1:List (S44)) (x4_1:Int),v4=.int .i64 x4_1∧jF (jK.l0 kq l0 x3_1 x4_1=some r)∧jF (kq≤k)∧jF (Kd.R k44 44 w' w.heap.size (fun _=>True) v229 x3_1)∧jF (Below w.heap.size w w'))
   case atStart=>exact ⟨(y228),(0),(sq),H',⟨Nat.le_refl _⟩,⟨rq HO230.out⟩,⟨bq⟩⟩
   case round =>
    clear H'
    try clear c1
    try clear c2
    try clear c2b0
    try clear c2b1
    try clear p2
    try clear c3
    try clear c3b0
    try clear c3b1
    obtain ⟨x3_1,x4_1,rfl,HA,HK1,HO_3,HB⟩:=hrel
    cases gk with
    | zero=>exact absurd HA.out (by simp [jK.l0])
    | succ k1 =>
     have H:=HA.out
     clear HA
     simp only [jK.l0] at H
     by_cases c6:x4_1<(l0.length:Int)
     ·rw [if_pos c6] at H
      have c6b0:decide (x4_1<(l0.length:Int))=true:=dzT c6
      clear c6
      by_cases c7:0≤x4_1
      ·rw [if_pos c7] at H
       have c7b0:decide (0≤x4_1)=true:=dzT c7
       clear c7
       replace H:=bzS H
       obtain ⟨⟨t232,t233,t234⟩,A80,H⟩:=H
       replace H:(if x4_1<(x3_1.length:Int) then (jK.l0 k1 l0 (x3_1.set (x4_1:Int).toNat (⟨t232,t233,t234⟩:S44)) (wrap64 (x4_1+1))) else (none))=some r:=H
       have A8:=am A80
       clear A80
       by_cases c9:x4_1<(x3_1.length:Int)
       ·rw [if_pos c9] at H
        have c9b0:decide (x4_1<(x3_1.length:Int))=true:=dzT c9
        clear c9
        obtain ⟨y235,hy235⟩:∃ y_:List (S44),y_=(x3_1.set (x4_1:Int).toNat (⟨t232,t233,t234⟩:S44)):=⟨_,rfl⟩
        replace H:(jK.l0 k1 l0 y235 (wrap64 (x4_1+1)))=some r:=by first |(rw [hy235];with_reducible exact H) |(have H2_:=(Option.bind_some _ _).symm.trans H;rw [hy235];with_reducible exact H2_) |(have H2_:=(Option.bind_some _ _).symm.trans H;with_reducible exact H2_) | with_reducible exact H |(rw [hy235];exact H) | exact H
        have Ny235:=am hy235
        clear hy235
        have H':=am H
        clear H
        have p231:0≤(x4_1:Int):=ozD (uq)
        have q231:x4_1<(l0.length:Int):=ozD (uq)
        obtain ⟨ad231,e231,hx231_0,hx231_1,hx231_2⟩:=at_T70 HR0.out x4_1 p231 q231
        cases e231
        replace hx231_0:=cb HB.out hx231_0
        replace hx231_1:=cb HB.out hx231_1
        replace hx231_2:=cb HB.out hx231_2
        replace p231:=ezT p231
        replace q231:=ezT q231
        go_wp2_with (first |((with_reducible refine jm (f:=38) rfl ?_);refine gL (some 20) Try.func38 #[.agg #[.int .i64 ((jOc l0 x4_1).f0), .int .i64 ((jOc l0 x4_1).f1), .int .i64 ((jOc l0 x4_1).f2)]] ?_;(with_reducible refine (jHc.calls ((jOc l0 x4_1).f0) ((jOc l0 x4_1).f1) ((jOc l0 x4_1).f2) t232 t233 t234 _ A8.out).mono ?_);rintro e w11 ⟨rfl,hb⟩;refine ⟨_,rfl,?_⟩;replace HO_3:=am (Kd.jG (rq HO_3.out) hb);replace HB:=am (jb (bq) hb);(try clear hb);(try clear hb2);(try clear hk);(try clear hi);have p10:0≤(x4_1:Int):=ozD (uq);have q10:(x4_1:Int)<((x3_1.length:Int):Int):=ozD (uq);obtain ⟨go10,co10,eo10,gb10,gl10,cl10,HG10⟩:=Kd.R_form HO_3.out (by omega);(first | cases eo10 |(injection eo10 with ea_ en_ ec_;(first | subst ea_ |(injection ea_ with ea_;subst ea_));subst ec_;clear en_));have GB10:=am gb10;have GG10:=am HG10;clear gb10 gl10 HG10;obtain ⟨ce10,hcl10,hM10,hcc10,hfr10⟩:=Kd.jZb HO_3.out z44 (x4_1:Int) p10 q10;obtain rfl:=jxc hM10;have hx10_0:w11.cell? ⟨go10,(x4_1:Int).toNat * 3,none⟩=some (.int .i64 ((jJ x3_1 x4_1).f0)):=hcc10 0 _ rfl;have hx10_1:w11.cell? ⟨go10,(x4_1:Int).toNat * 3+1,none⟩=some (.int .i64 ((jJ x3_1 x4_1).f1)):=hcc10 1 _ rfl;have hx10_2:w11.cell? ⟨go10,(x4_1:Int).toNat * 3+2,none⟩=some (.int .i64 ((jJ x3_1 x4_1).f2)):=hcc10 2 _ rfl;have hf10_0:w11.frozen? ⟨go10,(x4_1:Int).toNat * 3,none⟩=false:=hfr10 0;have hf10_1:w11.frozen? ⟨go10,(x4_1:Int).toNat * 3+1,none⟩=false:=hfr10 1;have hf10_2:w11.frozen? ⟨go10,(x4_1:Int).toNat * 3+2,none⟩=false:=hfr10 2;clear hcl10 hcc10 hfr10 hM10;replace p10:=ezT p10;replace q10:=ezT q10;have HX12:=am (show Kd.R k44 44 w11 w.heap.size (fun _=>True) (.slice (some ⟨go10,0,none⟩) x3_1.length co10) x3_1 from (rq HO_3.out));obtain ⟨ce12,hcl12,hM12,hcc12,hfr12⟩:=Kd.jZb HX12.out z44 (x4_1:Int) (ozD (uq)) (by have h_:(x4_1:Int)<((x3_1.length:Int):Int):=ozD (uq);first | exact h_ |(have e_:=(Kd.jv HO_3.out).1;omega) | simpa using h_);obtain rfl:=jxc hM12;have HP12:=Kd.R_seg HX12.out (x4_1:Int) (ozD (uq)) (by have h_:(x4_1:Int)<((x3_1.length:Int):Int):=ozD (uq);first | exact h_ |(have e_:=(Kd.jv HO_3.out).1;omega) | simpa using h_) (seg:=[.int .i64 t232, .int .i64 t233, .int .i64 t234]) (j:=0) hcl12 hcc12 (show 3≤3 from by decide) (x':=(⟨t232,t233,t234⟩:S44)) (jyc _ _ _ (⟨t232,t233,t234⟩:S44) ) (fun _ hk=>hk);have hx12_0:=hcc12 0 _ rfl;(try simp only [show (k44).sz=3 from rfl,Nat.mul_one,Nat.add_zero] at hx12_0);have hf12_0:=hfr12 0;(try simp only [show (k44).sz=3 from rfl,Nat.mul_one,Nat.add_zero] at hf12_0);have hx12_1:=hcc12 1 _ rfl;(try simp only [show (k44).sz=3 from rfl,Nat.mul_one,Nat.add_zero] at hx12_1);have hf12_1:=hfr12 1;(try simp only [show (k44).sz=3 from rfl,Nat.mul_one,Nat.add_zero] at hf12_1);have hx12_2:=hcc12 2 _ rfl;(try simp only [show (k44).sz=3 from rfl,Nat.mul_one,Nat.add_zero] at hx12_2);have hf12_2:=hfr12 2;(try simp only [show (k44).sz=3 from rfl,Nat.mul_one,Nat.add_zero] at hf12_2);clear hcl12 hcc12 hfr12 hM12) |((with_reducible refine jic (t:=44) (p:=21) rfl ?_);refine jPb (t:=44) (p:=21) (v:=?vo_w13) (w1:=(((w11.setCell ⟨go10,(x4_1:Int).toNat * 3,none⟩ (.int .i64 t232)).setCell ⟨go10,(x4_1:Int).toNat * 3+1,none⟩ (.int .i64 t233)).setCell ⟨go10,(x4_1:Int).toNat * 3+2,none⟩ (.int .i64 t234))) ?hg ?ho ?hn ?hr ?_;(case ho=>rfl);(case hg=>rfl);(case hn=>rfl);(case hr=>exact Y3);intro w13 hw;have hg:w11.grownBy w13 (some go10):=(by rw [hw];exact HP12.2);have hp_:Kd.R k44 44 w13 w.heap.size (fun _=>True) (.slice (some ⟨go10,0,none⟩) x3_1.length co10) y235:=(by rw [hw,Ny235.out];exact HP12.1);clear HP12;replace HO_3:=am (hp_);replace HB:=am ((by rw [hw];exact jl (jl (jl (HB.out) GB10.out) GB10.out) GB10.out:Below w.heap.size w w13));clear hg hw hp_))
        go_roundg k1
        case measure=>have:=HK1.out;omega
        case rel=>exact ⟨(y235),(wrap64 (x4_1+1)),(sq),H',⟨by have:=HK1.out;omega⟩,⟨rq HO_3.out⟩,⟨bq⟩⟩
       ·rw [if_neg c9] at H
        exact absurd H (by simp)
      ·rw [if_neg c7] at H
       exact absurd H (by simp)
     ·rw [if_neg c6] at H
      have c6b0:decide (x4_1<(l0.length:Int))=false:=dzF c6
      clear c6
      obtain rfl:=Option.some.inj H
      go_wp2
      go_ret
      exact ⟨_,Y0,rq HO_3.out,bq⟩
  ·rw [if_neg c3] at H
   exact absurd H (by simp)
 ·rw [if_neg c2] at H
  exact absurd H (by simp)
def jhc.f (a0_0 : ByteArray) (a0_1 : Int) (a1_0 : ByteArray) (a1_1 : Int) : Option (Bool) := if a0_0.toList = a1_0.toList then (if a0_1 = a1_1 then (some true) else (some false)) else (some false)
set_option maxHeartbeats 8000000 in
set_option maxRecDepth 100000 in
theorem jhc.calls (a0_0 : ByteArray) (a0_1 : Int) (a1_0 : ByteArray) (a1_1 : Int) (r : Bool) (w : World) (h : jhc.f a0_0 a0_1 a1_0 a1_1 = some r) :
  Calls Try.prog 75 #[.agg #[.string a0_0, .int .i64 a0_1], .agg #[.string a1_0, .int .i64 a1_1]] w fun e w'=>e=.returned (.bool r)∧Below w.heap.size w w':=by
 have hu106:=Try.underlying106
 have HB:=am (Below.refl w.heap.size w)
 have H:(if a0_0.toList=a1_0.toList then (if a0_1=a1_1 then (some true) else (some false)) else (some false))=some r:=h
 clear h
 by_cases c3:a0_0.toList=a1_0.toList
 ·rw [if_pos c3] at H
  have c3b0:(a0_0.toList == a1_0.toList)=true:=beq_iff_eq.mpr c3
  have c3b1:(a0_0.toList != a1_0.toList)=false:=bne_eq_false_iff_eq.mpr c3
  clear c3
  by_cases c4:a0_1=a1_1
  ·rw [if_pos c4] at H
   have c4b0:(a0_1 == a1_1)=true:=beq_iff_eq.mpr c4
   have c4b1:(a0_1 != a1_1)=false:=bne_eq_false_iff_eq.mpr c4
   clear c4
   obtain rfl:=Option.some.inj H
   go_enter Try.func75,Try.ntmps75
   go_wp2_with (first |((with_reducible refine jB (N:=2) rfl ?_);refine bE (N:=2) (cs:=#[.string a0_0, .int .i64 a0_1]) (t:=106) ?_;intro gb275 hg w5 hbox hb;have BK275:=am (hbox);have GW275:=am ((Y1:w.heap.size≤gb275));have GE275:=am ((Y1:w.heap.size≤gb275));replace HB:=am (jb (bq) hb);clear hb hbox hg) |((with_reducible refine jB (N:=3) rfl ?_);refine bE (N:=3) (cs:=#[.string a1_0, .int .i64 a1_1]) (t:=106) ?_;intro gb276 hg w6 hbox hb;have BK276:=am (hbox);have GW276:=am ((Y57:w.heap.size≤gb276));have GE276:=am ((Y57:w.heap.size≤gb276));have NB275_276:=am ((Y109:gb275≠gb276));have NB276_275:=am ((Y110:gb276≠gb275));replace BK275:=am (je (g:=gb275) (o:=.cells #[.string a0_0, .int .i64 a0_1] 106 (0,0)) (kq BK275.out) hb);replace HB:=am (jb (Y111) hb);clear hb hbox hg;have hnb7:=NB275_276.out;have hnc7:=NB276_275.out;have hcz8_0:=bc0 BK275.out;have hcz8_1:=bc1 BK275.out;have hfz8_0:=ja BK275.out 0;have hfz8_1:=ja BK275.out 1;have hcz9_0:=bc0 BK276.out;have hcz9_1:=bc1 BK276.out;have hfz9_0:=ja BK276.out 0;have hfz9_1:=ja BK276.out 1))
   go_ret
   exact ⟨Y0,Y112⟩
  ·rw [if_neg c4] at H
   have c4b0:(a0_1 == a1_1)=false:=beq_eq_false_iff_ne.mpr c4
   have c4b1:(a0_1 != a1_1)=true:=bne_iff_ne.mpr c4
   obtain rfl:=Option.some.inj H
   go_enter Try.func75,Try.ntmps75
   go_wp2_with (first |((with_reducible refine jB (N:=2) rfl ?_);refine bE (N:=2) (cs:=#[.string a0_0, .int .i64 a0_1]) (t:=106) ?_;intro gb275 hg w10 hbox hb;have BK275:=am (hbox);have GW275:=am ((Y1:w.heap.size≤gb275));have GE275:=am ((Y1:w.heap.size≤gb275));replace HB:=am (jb (bq) hb);clear hb hbox hg) |((with_reducible refine jB (N:=3) rfl ?_);refine bE (N:=3) (cs:=#[.string a1_0, .int .i64 a1_1]) (t:=106) ?_;intro gb276 hg w11 hbox hb;have BK276:=am (hbox);have GW276:=am ((Y57:w.heap.size≤gb276));have GE276:=am ((Y57:w.heap.size≤gb276));have NB275_276:=am ((Y109:gb275≠gb276));have NB276_275:=am ((Y110:gb276≠gb275));replace BK275:=am (je (g:=gb275) (o:=.cells #[.string a0_0, .int .i64 a0_1] 106 (0,0)) (kq BK275.out) hb);replace HB:=am (jb (Y111) hb);clear hb hbox hg;have hnb12:=NB275_276.out;have hnc12:=NB276_275.out;have hcz13_0:=bc0 BK275.out;have hcz13_1:=bc1 BK275.out;have hfz13_0:=ja BK275.out 0;have hfz13_1:=ja BK275.out 1;have hcz14_0:=bc0 BK276.out;have hcz14_1:=bc1 BK276.out;have hfz14_0:=ja BK276.out 0;have hfz14_1:=ja BK276.out 1))
   go_ret
   exact ⟨Y0,Y112⟩
 ·rw [if_neg c3] at H
  have c3b0:(a0_0.toList == a1_0.toList)=false:=beq_eq_false_iff_ne.mpr c3
  have c3b1:(a0_0.toList != a1_0.toList)=true:=bne_iff_ne.mpr c3
  obtain rfl:=Option.some.inj H
  go_enter Try.func75,Try.ntmps75
  go_wp2_with (first |((with_reducible refine jB (N:=2) rfl ?_);refine bE (N:=2) (cs:=#[.string a0_0, .int .i64 a0_1]) (t:=106) ?_;intro gb275 hg w15 hbox hb;have BK275:=am (hbox);have GW275:=am ((Y1:w.heap.size≤gb275));have GE275:=am ((Y1:w.heap.size≤gb275));replace HB:=am (jb (bq) hb);clear hb hbox hg) |((with_reducible refine jB (N:=3) rfl ?_);refine bE (N:=3) (cs:=#[.string a1_0, .int .i64 a1_1]) (t:=106) ?_;intro gb276 hg w16 hbox hb;have BK276:=am (hbox);have GW276:=am ((Y57:w.heap.size≤gb276));have GE276:=am ((Y57:w.heap.size≤gb276));have NB275_276:=am ((Y109:gb275≠gb276));have NB276_275:=am ((Y110:gb276≠gb275));replace BK275:=am (je (g:=gb275) (o:=.cells #[.string a0_0, .int .i64 a0_1] 106 (0,0)) (kq BK275.out) hb);replace HB:=am (jb (Y111) hb);clear hb hbox hg;have hnb17:=NB275_276.out;have hnc17:=NB276_275.out;have hcz18_0:=bc0 BK275.out;have hcz18_1:=bc1 BK275.out;have hfz18_0:=ja BK275.out 0;have hfz18_1:=ja BK275.out 1;have hcz19_0:=bc0 BK276.out;have hcz19_1:=bc1 BK276.out;have hfz19_0:=ja BK276.out 0;have hfz19_1:=ja BK276.out 1))
  go_ret
  exact ⟨Y0,Y112⟩
def jia.l0 : Nat → List (S106) → List (S106) → Int → Option (Bool)
 | 0,_,_,_=>none
 | k+1,x0,x1,x5=>if x5<(x0.length:Int) then (if 0≤x5 then (if x5<(x1.length:Int) then ((jhc.f ((jC x0 x5).f0) ((jC x0 x5).f1) ((jC x1 x5).f0) ((jC x1 x5).f1)).bind fun t279=>(if t279=true then (jia.l0 k x0 x1 (wrap64 (x5+1))) else (some false))) else (none)) else (none)) else (some true)
def jia.f (k : Nat) (l0 : List (S106)) (l1 : List (S106)) : Option (Bool) := if (l0.length : Int) = (l1.length : Int) then (jia.l0 k l0 l1 0) else (some false)
def jia.T6 : Bool × List (List Nat × List Nat) := (true, [([], []), ([], []), ([0, 1], [0, 1]), ([2], [2]), ([], []), ([], []), ([4, 5], [4, 5]), ([6], [6]), ([3, 7], [3, 7]), ([8], [8])])
def jia.B6 : List Nat := [0, 0, 3, 7, 0, 0, 48, 112, 255, 511]
theorem jia.tab6 : rtab .any (opsOf Try.f43 6) = jia.T6 := by kernel_rfl
theorem jia.bits6 : joc jia.T6.2 jia.B6 = true := by kernel_rfl
set_option maxHeartbeats 8000000 in
set_option maxRecDepth 100000 in
theorem jia.calls (k : Nat) (A0 : Option Addr) (c0 : Nat) (l0 : List (S106)) (A1 : Option Addr) (c1 : Nat) (l1 : List (S106)) (r : Bool) (w : World) (hr0 : Kd.C k106 w A0 l0.length l0) (hc0 : l0.length ≤ c0) (hr1 : Kd.C k106 w A1 l1.length l1) (hc1 : l1.length ≤ c1) (h : jia.f k l0 l1 = some r) :
  Calls Try.prog 43 #[.slice A0 l0.length c0, .slice A1 l1.length c1] w fun e w'=>e=.returned (.bool r)∧Below w.heap.size w w':=by
 have hu106:=Try.underlying106
 have HR0:=am hr0
 have HC0:=am hc0
 clear hr0 hc0
 have HR1:=am hr1
 have HC1:=am hc1
 clear hr1 hc1
 have HB:=am (Below.refl w.heap.size w)
 have H:(if (l0.length:Int)=(l1.length:Int) then (jia.l0 k l0 l1 0) else (some false))=some r:=h
 clear h
 by_cases c3:(l0.length:Int)=(l1.length:Int)
 ·rw [if_pos c3] at H
  have c3b0:((l0.length:Int) == (l1.length:Int))=true:=beq_iff_eq.mpr c3
  have c3b1:((l0.length:Int) != (l1.length:Int))=false:=bne_eq_false_iff_eq.mpr c3
  have c3b2:(l0.length == l1.length)=true:=by first | simpa using c3 |(simp at c3 ⊢;omega)
  clear c3
  have H':=am H
  clear H
  go_enter Try.func43,Try.ntmps43
  go_wp2
  go_loopg [5] k (fun kq v5 w'=>∃ (x5_1:Int),v5=.int .i64 x5_1∧jF (jia.l0 kq l0 l1 x5_1=some r)∧jF (kq≤k)∧jF (Below w.heap.size w w'))
  case atStart=>exact ⟨(0),(sq),H',⟨Nat.le_refl _⟩,⟨bq⟩⟩
  case round =>
   clear H'
   try clear c1
   try clear p2
   try clear c3
   try clear c3b0
   try clear c3b1
   try clear c3b2
   obtain ⟨x5_1,rfl,HA,HK1,HB⟩:=hrel
   cases gk with
   | zero=>exact absurd HA.out (by simp [jia.l0])
   | succ k1 =>
    have H:=HA.out
    clear HA
    simp only [jia.l0] at H
    by_cases c4:x5_1<(l0.length:Int)
    ·rw [if_pos c4] at H
     have c4b0:decide (x5_1<(l0.length:Int))=true:=dzT c4
     clear c4
     by_cases c5:0≤x5_1
     ·rw [if_pos c5] at H
      have c5b0:decide (0≤x5_1)=true:=dzT c5
      clear c5
      by_cases c6:x5_1<(l1.length:Int)
      ·rw [if_pos c6] at H
       have c6b0:decide (x5_1<(l1.length:Int))=true:=dzT c6
       clear c6
       replace H:=bzS H
       obtain ⟨t279,A70,H⟩:=H
       replace H:(if t279=true then (jia.l0 k1 l0 l1 (wrap64 (x5_1+1))) else (some false))=some r:=H
       have A7:=am A70
       clear A70
       by_cases c8:t279=true
       ·subst c8
        have H1:(jia.l0 k1 l0 l1 (wrap64 (x5_1+1)))=some r:=by rw [if_pos rfl] at H;exact H
        clear H
        have H:=H1
        clear H1
        have H':=am H
        clear H
        try go_wp2
        replace HB:=am (jq HB.out)
        have p277:0≤(x5_1:Int):=ozD (uq)
        have q277:x5_1<(l0.length:Int):=ozD (uq)
        obtain ⟨ad277,e277,hx277_0,hx277_1⟩:=jLc HR0.out x5_1 p277 q277
        have hw277_1:=hx277_1
        have hw277_0:=hx277_0
        cases e277
        replace hx277_0:=cb HB.out hx277_0
        replace hx277_1:=cb HB.out hx277_1
        replace p277:=ezT p277
        replace q277:=ezT q277
        have p278:0≤(x5_1:Int):=ozD (uq)
        have q278:x5_1<(l1.length:Int):=ozD (uq)
        obtain ⟨ad278,e278,hx278_0,hx278_1⟩:=jLc HR1.out x5_1 p278 q278
        have hw278_1:=hx278_1
        have hw278_0:=hx278_0
        cases e278
        replace hx278_0:=cb HB.out hx278_0
        replace hx278_1:=cb HB.out hx278_1
        replace p278:=ezT p278
        replace q278:=ezT q278
        refine jFc (n:=10) (S:=fun w'=>w'.cell? (ad277.add ((x5_1).toNat * 2))=some (.string ((jC l0 x5_1).f0))∧w'.cell? ⟨(ad277.add ((x5_1).toNat * 2)).block,(ad277.add ((x5_1).toNat * 2)).off+1,none⟩=some (.int .i64 ((jC l0 x5_1).f1))∧w'.cell? (ad278.add ((x5_1).toNat * 2))=some (.string ((jC l1 x5_1).f0))∧w'.cell? ⟨(ad278.add ((x5_1).toNat * 2)).block,(ad278.add ((x5_1).toNat * 2)).off+1,none⟩=some (.int .i64 ((jC l1 x5_1).f1))) (ds:=[]) #[false,false,false,false,false,false,false,false,false,false] (by kernel_rfl) rfl rfl ⟨((HB.out.cell (World.block_lt_of_cell? w _ hw277_0)).trans hw277_0),((HB.out.cell (World.block_lt_of_cell? w _ hw277_1)).trans hw277_1),((HB.out.cell (World.block_lt_of_cell? w _ hw278_0)).trans hw278_0),((HB.out.cell (World.block_lt_of_cell? w _ hw278_1)).trans hw278_1)⟩ (fun hHeld=>?_);refine jOb jia.tab6 jia.bits6 (fun HT_ HW_=>?_)
        generalize wr.drew=w9 at HB hx277_0 hx277_1 hx278_0 hx278_1 hHeld ⊢
        refine pq (i:=0) (N:=some 17) #[true,false,false,false,false,false,false,false,false,false] ?_
        refine pq (i:=1) (N:=some 18) #[true,true,false,false,false,false,false,false,false,false] ?_
        refine pq (i:=2) (N:=some 19) #[true,true,true,false,false,false,false,false,false,false] ?_
        refine pq (i:=4) (N:=some 21) #[true,true,true,false,true,false,false,false,false,false] ?_
        refine pq (i:=5) (N:=some 22) #[true,true,true,false,true,true,false,false,false,false] ?_
        refine pq (i:=6) (N:=some 23) #[true,true,true,false,true,true,true,false,false,false] ?_
        refine jbc (i:=3) (N:=some 20) (v:=?_) (a':=?_) #[true,true,true,true,true,true,true,false,false,false] rfl rfl (jkb HT_.out HW_.out (by kernel_rfl)) (fun _ _ _ h=>h) (Or.inl ⟨by rfl,?_⟩) hHeld ?_ ?_
        rotate_left
        ·rintro w' ⟨s0,s1,s2,s3⟩
         go_simp
         with_reducible rfl
        rotate_left
        ·exact sa
        refine jbc (i:=7) (N:=some 24) (v:=?_) (a':=?_) #[true,true,true,true,true,true,true,true,false,false] rfl rfl (jkb HT_.out HW_.out (by kernel_rfl)) (fun _ _ _ h=>h) (Or.inl ⟨by rfl,?_⟩) hHeld ?_ ?_
        rotate_left
        ·rintro w' ⟨s0,s1,s2,s3⟩
         go_simp
         with_reducible rfl
        rotate_left
        ·exact sa
        refine one_ (i:=8) (N:=some 25) #[true,true,true,true,true,true,true,true,true,false] rfl rfl (jRb HT_.out (by kernel_rfl)) (by decide) (fun K hK=>?_)
        refine goes_ Try.func75 (by kernel_rfl) rfl #[.agg #[.string ((jC l0 x5_1).f0), .int .i64 ((jC l0 x5_1).f1)], .agg #[.string ((jC l1 x5_1).f0), .int .i64 ((jC l1 x5_1).f1)]] (by rfl) rfl rfl (aq) ?_
        with_reducible refine (jhc.calls ((jC l0 x5_1).f0) ((jC l0 x5_1).f1) ((jC l1 x5_1).f0) ((jC l1 x5_1).f1) true _ A7.out).mono ?_
        rintro e w10 ⟨rfl,hb⟩
        refine ⟨_,rfl,?_⟩
        replace HB:=am (jb (bq) hb)
        (try clear hb)
        (try clear hb2)
        (try clear hk)
        (try clear hi)
        refine hK.out _ _ ⟨((HB.out.cell (World.block_lt_of_cell? w _ hw277_0)).trans hw277_0),((HB.out.cell (World.block_lt_of_cell? w _ hw277_1)).trans hw277_1),((HB.out.cell (World.block_lt_of_cell? w _ hw278_0)).trans hw278_0),((HB.out.cell (World.block_lt_of_cell? w _ hw278_1)).trans hw278_1)⟩ (fun hHeld=>?_)
        clear hK K
        refine jBc (a':=?_) ?_ ?_
        rotate_left
        ·show Act.put _ (some 25) _=_
         simp only [Act.put,List.setIfInBounds_toArray,List.set_cons_zero,List.set_cons_succ,jzb,jCb]
         rfl
        refine pq (i:=9) (N:=some 26) #[true,true,true,true,true,true,true,true,true,true] ?_
        refine done_ (jKc HT_.out (by kernel_rfl)) ?_
        try go_wp2
        go_roundg k1
        case measure=>have:=HK1.out;omega
        case rel=>exact ⟨(wrap64 (x5_1+1)),(sq),H',⟨by have:=HK1.out;omega⟩,⟨bq⟩⟩
       ·replace c8:=Bool.eq_false_iff.mpr c8
        subst c8
        have H1:(some false)=some r:=by rw [if_neg (show ¬ (false=true) by decide)] at H;exact H
        clear H
        have H:=H1
        clear H1
        obtain rfl:=Option.some.inj H
        try go_wp2
        replace HB:=am (jq HB.out)
        have p277:0≤(x5_1:Int):=ozD (uq)
        have q277:x5_1<(l0.length:Int):=ozD (uq)
        obtain ⟨ad277,e277,hx277_0,hx277_1⟩:=jLc HR0.out x5_1 p277 q277
        have hw277_1:=hx277_1
        have hw277_0:=hx277_0
        cases e277
        replace hx277_0:=cb HB.out hx277_0
        replace hx277_1:=cb HB.out hx277_1
        replace p277:=ezT p277
        replace q277:=ezT q277
        have p278:0≤(x5_1:Int):=ozD (uq)
        have q278:x5_1<(l1.length:Int):=ozD (uq)
        obtain ⟨ad278,e278,hx278_0,hx278_1⟩:=jLc HR1.out x5_1 p278 q278
        have hw278_1:=hx278_1
        have hw278_0:=hx278_0
        cases e278
        replace hx278_0:=cb HB.out hx278_0
        replace hx278_1:=cb HB.out hx278_1
        replace p278:=ezT p278
        replace q278:=ezT q278
        refine jFc (n:=10) (S:=fun w'=>w'.cell? (ad277.add ((x5_1).toNat * 2))=some (.string ((jC l0 x5_1).f0))∧w'.cell? ⟨(ad277.add ((x5_1).toNat * 2)).block,(ad277.add ((x5_1).toNat * 2)).off+1,none⟩=some (.int .i64 ((jC l0 x5_1).f1))∧w'.cell? (ad278.add ((x5_1).toNat * 2))=some (.string ((jC l1 x5_1).f0))∧w'.cell? ⟨(ad278.add ((x5_1).toNat * 2)).block,(ad278.add ((x5_1).toNat * 2)).off+1,none⟩=some (.int .i64 ((jC l1 x5_1).f1))) (ds:=[]) #[false,false,false,false,false,false,false,false,false,false] (by kernel_rfl) rfl rfl ⟨((HB.out.cell (World.block_lt_of_cell? w _ hw277_0)).trans hw277_0),((HB.out.cell (World.block_lt_of_cell? w _ hw277_1)).trans hw277_1),((HB.out.cell (World.block_lt_of_cell? w _ hw278_0)).trans hw278_0),((HB.out.cell (World.block_lt_of_cell? w _ hw278_1)).trans hw278_1)⟩ (fun hHeld=>?_);refine jOb jia.tab6 jia.bits6 (fun HT_ HW_=>?_)
        generalize wr.drew=w11 at HB hx277_0 hx277_1 hx278_0 hx278_1 hHeld ⊢
        refine pq (i:=0) (N:=some 17) #[true,false,false,false,false,false,false,false,false,false] ?_
        refine pq (i:=1) (N:=some 18) #[true,true,false,false,false,false,false,false,false,false] ?_
        refine pq (i:=2) (N:=some 19) #[true,true,true,false,false,false,false,false,false,false] ?_
        refine pq (i:=4) (N:=some 21) #[true,true,true,false,true,false,false,false,false,false] ?_
        refine pq (i:=5) (N:=some 22) #[true,true,true,false,true,true,false,false,false,false] ?_
        refine pq (i:=6) (N:=some 23) #[true,true,true,false,true,true,true,false,false,false] ?_
        refine jbc (i:=3) (N:=some 20) (v:=?_) (a':=?_) #[true,true,true,true,true,true,true,false,false,false] rfl rfl (jkb HT_.out HW_.out (by kernel_rfl)) (fun _ _ _ h=>h) (Or.inl ⟨by rfl,?_⟩) hHeld ?_ ?_
        rotate_left
        ·rintro w' ⟨s0,s1,s2,s3⟩
         go_simp
         with_reducible rfl
        rotate_left
        ·exact sa
        refine jbc (i:=7) (N:=some 24) (v:=?_) (a':=?_) #[true,true,true,true,true,true,true,true,false,false] rfl rfl (jkb HT_.out HW_.out (by kernel_rfl)) (fun _ _ _ h=>h) (Or.inl ⟨by rfl,?_⟩) hHeld ?_ ?_
        rotate_left
        ·rintro w' ⟨s0,s1,s2,s3⟩
         go_simp
         with_reducible rfl
        rotate_left
        ·exact sa
        refine one_ (i:=8) (N:=some 25) #[true,true,true,true,true,true,true,true,true,false] rfl rfl (jRb HT_.out (by kernel_rfl)) (by decide) (fun K hK=>?_)
        refine goes_ Try.func75 (by kernel_rfl) rfl #[.agg #[.string ((jC l0 x5_1).f0), .int .i64 ((jC l0 x5_1).f1)], .agg #[.string ((jC l1 x5_1).f0), .int .i64 ((jC l1 x5_1).f1)]] (by rfl) rfl rfl (aq) ?_
        with_reducible refine (jhc.calls ((jC l0 x5_1).f0) ((jC l0 x5_1).f1) ((jC l1 x5_1).f0) ((jC l1 x5_1).f1) false _ A7.out).mono ?_
        rintro e w12 ⟨rfl,hb⟩
        refine ⟨_,rfl,?_⟩
        replace HB:=am (jb (bq) hb)
        (try clear hb)
        (try clear hb2)
        (try clear hk)
        (try clear hi)
        refine hK.out _ _ ⟨((HB.out.cell (World.block_lt_of_cell? w _ hw277_0)).trans hw277_0),((HB.out.cell (World.block_lt_of_cell? w _ hw277_1)).trans hw277_1),((HB.out.cell (World.block_lt_of_cell? w _ hw278_0)).trans hw278_0),((HB.out.cell (World.block_lt_of_cell? w _ hw278_1)).trans hw278_1)⟩ (fun hHeld=>?_)
        clear hK K
        refine jBc (a':=?_) ?_ ?_
        rotate_left
        ·show Act.put _ (some 25) _=_
         simp only [Act.put,List.setIfInBounds_toArray,List.set_cons_zero,List.set_cons_succ,jzb,jCb]
         rfl
        refine pq (i:=9) (N:=some 26) #[true,true,true,true,true,true,true,true,true,true] ?_
        refine done_ (jKc HT_.out (by kernel_rfl)) ?_
        try go_wp2
        go_ret
        exact ⟨Y0,bq⟩
      ·rw [if_neg c6] at H
       exact absurd H (by simp)
     ·rw [if_neg c5] at H
      exact absurd H (by simp)
    ·rw [if_neg c4] at H
     have c4b0:decide (x5_1<(l0.length:Int))=false:=dzF c4
     clear c4
     obtain rfl:=Option.some.inj H
     go_wp2
     go_ret
     exact ⟨Y0,bq⟩
 ·rw [if_neg c3] at H
  have c3b0:((l0.length:Int) == (l1.length:Int))=false:=beq_eq_false_iff_ne.mpr c3
  have c3b1:((l0.length:Int) != (l1.length:Int))=true:=bne_iff_ne.mpr c3
  have c3b2:(l0.length == l1.length)=false:=by first | simpa using c3 |(simp at c3 ⊢;omega)
  obtain rfl:=Option.some.inj H
  go_enter Try.func43,Try.ntmps43
  go_wp2
  go_ret
  exact ⟨Y0,bq⟩
def jab.f (k : Nat) (l0_0 : List (S106)) (l1_0 : List (S106)) : Option (Bool) := (jia.f k l0_0 l1_0).bind fun t282 => (if t282 = true then (some true) else (some false))
set_option maxHeartbeats 8000000 in
set_option maxRecDepth 100000 in
theorem jab.calls (k : Nat) (A0_0 : Option Addr) (c0_0 : Nat) (l0_0 : List (S106)) (A1_0 : Option Addr) (c1_0 : Nat) (l1_0 : List (S106)) (r : Bool) (w : World) (hr0_0 : Kd.C k106 w A0_0 l0_0.length l0_0) (hc0_0 : l0_0.length ≤ c0_0) (hr1_0 : Kd.C k106 w A1_0 l1_0.length l1_0) (hc1_0 : l1_0.length ≤ c1_0) (h : jab.f k l0_0 l1_0 = some r) :
  Calls Try.prog 14 #[.agg #[.slice A0_0 l0_0.length c0_0], .agg #[.slice A1_0 l1_0.length c1_0]] w fun e w'=>e=.returned (.bool r)∧Below w.heap.size w w':=by
 have hu31:=Try.underlying31
 have HR0_0:=am hr0_0
 have HC0_0:=am hc0_0
 clear hr0_0 hc0_0
 have HR1_0:=am hr1_0
 have HC1_0:=am hc1_0
 clear hr1_0 hc1_0
 have HB:=am (Below.refl w.heap.size w)
 have H:((jia.f k l0_0 l1_0).bind fun t282=>(if t282=true then (some true) else (some false)))=some r:=h
 clear h
 replace H:=bzS H
 obtain ⟨t282,A30,H⟩:=H
 replace H:(if t282=true then (some true) else (some false))=some r:=H
 have A3:=am A30
 clear A30
 by_cases c4:t282=true
 ·subst c4
  have H1:(some true)=some r:=by rw [if_pos rfl] at H;exact H
  clear H
  have H:=H1
  clear H1
  obtain rfl:=Option.some.inj H
  go_enter Try.func14,Try.ntmps14
  go_wp2_with (first |((with_reducible refine jB (N:=2) rfl ?_);refine bE (N:=2) (cs:=#[.slice A0_0 l0_0.length c0_0]) (t:=31) ?_;intro gb280 hg w5 hbox hb;have BK280:=am (hbox);have GW280:=am ((Y1:w.heap.size≤gb280));have GE280:=am ((Y1:w.heap.size≤gb280));replace HB:=am (jb (bq) hb);clear hb hbox hg) |((with_reducible refine jB (N:=3) rfl ?_);refine bE (N:=3) (cs:=#[.slice A1_0 l1_0.length c1_0]) (t:=31) ?_;intro gb281 hg w6 hbox hb;have BK281:=am (hbox);have GW281:=am ((Y77:w.heap.size≤gb281));have GE281:=am ((Y77:w.heap.size≤gb281));have NB280_281:=am ((by rw [hg];exact Nat.ne_of_lt (jX (g:=gb280) (o:=.cells #[.slice A0_0 l0_0.length c0_0] 31 (0,0)) (kq BK280.out)):gb280≠gb281));have NB281_280:=am ((by rw [hg];exact Nat.ne_of_gt (jX (g:=gb280) (o:=.cells #[.slice A0_0 l0_0.length c0_0] 31 (0,0)) (kq BK280.out)):gb281≠gb280));replace BK280:=am (je (g:=gb280) (o:=.cells #[.slice A0_0 l0_0.length c0_0] 31 (0,0)) (kq BK280.out) hb);replace HB:=am (jb (Y141) hb);clear hb hbox hg;have hnb7:=NB280_281.out;have hnc7:=NB281_280.out;have hcz8_0:=bc0 BK280.out;have hfz8_0:=ja BK280.out 0;have hcz9_0:=bc0 BK281.out;have hfz9_0:=ja BK281.out 0) |((with_reducible refine jm (f:=43) rfl ?_);refine gL (some 9) Try.func43 #[.slice A0_0 l0_0.length c0_0, .slice A1_0 l1_0.length c1_0] ?_;(with_reducible refine (jia.calls k _ _ l0_0 _ _ l1_0 true _ ?side1 ?side2 ?side3 ?side4 A3.out).mono ?_);(case side1=>exact cq (Kd.jea HR0_0.out HB.out));(case side2=>exact HC0_0.out);(case side3=>exact cq (Kd.jea HR1_0.out HB.out));(case side4=>exact HC1_0.out);rintro e w10 ⟨rfl,hb⟩;refine ⟨_,rfl,?_⟩;replace BK280:=am (je (g:=gb280) (o:=.cells #[.slice A0_0 l0_0.length c0_0] 31 (0,0)) (kq BK280.out) hb);replace BK281:=am (je (g:=gb281) (o:=.cells #[.slice A1_0 l1_0.length c1_0] 31 (0,0)) (kq BK281.out) hb);replace HB:=am (jb (Y78) hb);(try clear hb);(try clear hb2);(try clear hk);(try clear hi)))
  go_ret
  exact ⟨Y0,Y78⟩
 ·replace c4:=Bool.eq_false_iff.mpr c4
  subst c4
  have H1:(some false)=some r:=by rw [if_neg (show ¬ (false=true) by decide)] at H;exact H
  clear H
  have H:=H1
  clear H1
  obtain rfl:=Option.some.inj H
  go_enter Try.func14,Try.ntmps14
  go_wp2_with (first |((with_reducible refine jB (N:=2) rfl ?_);refine bE (N:=2) (cs:=#[.slice A0_0 l0_0.length c0_0]) (t:=31) ?_;intro gb280 hg w11 hbox hb;have BK280:=am (hbox);have GW280:=am ((Y1:w.heap.size≤gb280));have GE280:=am ((Y1:w.heap.size≤gb280));replace HB:=am (jb (bq) hb);clear hb hbox hg) |((with_reducible refine jB (N:=3) rfl ?_);refine bE (N:=3) (cs:=#[.slice A1_0 l1_0.length c1_0]) (t:=31) ?_;intro gb281 hg w12 hbox hb;have BK281:=am (hbox);have GW281:=am ((Y77:w.heap.size≤gb281));have GE281:=am ((Y77:w.heap.size≤gb281));have NB280_281:=am ((by rw [hg];exact Nat.ne_of_lt (jX (g:=gb280) (o:=.cells #[.slice A0_0 l0_0.length c0_0] 31 (0,0)) (kq BK280.out)):gb280≠gb281));have NB281_280:=am ((by rw [hg];exact Nat.ne_of_gt (jX (g:=gb280) (o:=.cells #[.slice A0_0 l0_0.length c0_0] 31 (0,0)) (kq BK280.out)):gb281≠gb280));replace BK280:=am (je (g:=gb280) (o:=.cells #[.slice A0_0 l0_0.length c0_0] 31 (0,0)) (kq BK280.out) hb);replace HB:=am (jb (Y141) hb);clear hb hbox hg;have hnb13:=NB280_281.out;have hnc13:=NB281_280.out;have hcz14_0:=bc0 BK280.out;have hfz14_0:=ja BK280.out 0;have hcz15_0:=bc0 BK281.out;have hfz15_0:=ja BK281.out 0) |((with_reducible refine jm (f:=43) rfl ?_);refine gL (some 9) Try.func43 #[.slice A0_0 l0_0.length c0_0, .slice A1_0 l1_0.length c1_0] ?_;(with_reducible refine (jia.calls k _ _ l0_0 _ _ l1_0 false _ ?side1 ?side2 ?side3 ?side4 A3.out).mono ?_);(case side1=>exact cq (Kd.jea HR0_0.out HB.out));(case side2=>exact HC0_0.out);(case side3=>exact cq (Kd.jea HR1_0.out HB.out));(case side4=>exact HC1_0.out);rintro e w16 ⟨rfl,hb⟩;refine ⟨_,rfl,?_⟩;replace BK280:=am (je (g:=gb280) (o:=.cells #[.slice A0_0 l0_0.length c0_0] 31 (0,0)) (kq BK280.out) hb);replace BK281:=am (je (g:=gb281) (o:=.cells #[.slice A1_0 l1_0.length c1_0] 31 (0,0)) (kq BK281.out) hb);replace HB:=am (jb (Y78) hb);(try clear hb);(try clear hb2);(try clear hk);(try clear hi)))
  go_ret
  exact ⟨Y0,Y78⟩
def jrc.f (a0_0 : Int) (a0_1 : Int) (a0_2 : Int) (a1_0 : Int) (a1_1 : Int) (a1_2 : Int) : Option (Bool) := if a0_0 = a1_0 then (if a0_1 = a1_1 then (if a0_2 = a1_2 then (some true) else (some false)) else (some false)) else (some false)
set_option maxHeartbeats 8000000 in
set_option maxRecDepth 100000 in
theorem jrc.calls (a0_0 : Int) (a0_1 : Int) (a0_2 : Int) (a1_0 : Int) (a1_1 : Int) (a1_2 : Int) (r : Bool) (w : World) (h : jrc.f a0_0 a0_1 a0_2 a1_0 a1_1 a1_2 = some r) :
  Calls Try.prog 44 #[.agg #[.int .i64 a0_0, .int .i64 a0_1, .int .i64 a0_2], .agg #[.int .i64 a1_0, .int .i64 a1_1, .int .i64 a1_2]] w fun e w'=>e=.returned (.bool r)∧Below w.heap.size w w':=by
 have hu44:=Try.underlying44
 have HB:=am (Below.refl w.heap.size w)
 have H:(if a0_0=a1_0 then (if a0_1=a1_1 then (if a0_2=a1_2 then (some true) else (some false)) else (some false)) else (some false))=some r:=h
 clear h
 by_cases c3:a0_0=a1_0
 ·rw [if_pos c3] at H
  have c3b0:(a0_0 == a1_0)=true:=beq_iff_eq.mpr c3
  have c3b1:(a0_0 != a1_0)=false:=bne_eq_false_iff_eq.mpr c3
  clear c3
  by_cases c4:a0_1=a1_1
  ·rw [if_pos c4] at H
   have c4b0:(a0_1 == a1_1)=true:=beq_iff_eq.mpr c4
   have c4b1:(a0_1 != a1_1)=false:=bne_eq_false_iff_eq.mpr c4
   clear c4
   by_cases c5:a0_2=a1_2
   ·rw [if_pos c5] at H
    have c5b0:(a0_2 == a1_2)=true:=beq_iff_eq.mpr c5
    have c5b1:(a0_2 != a1_2)=false:=bne_eq_false_iff_eq.mpr c5
    clear c5
    obtain rfl:=Option.some.inj H
    go_enter Try.func44,Try.ntmps44
    go_wp2_with (first |((with_reducible refine jB (N:=2) rfl ?_);refine bE (N:=2) (cs:=#[.int .i64 a0_0, .int .i64 a0_1, .int .i64 a0_2]) (t:=44) ?_;intro gb283 hg w6 hbox hb;have BK283:=am (hbox);have GW283:=am ((Y1:w.heap.size≤gb283));have GE283:=am ((Y1:w.heap.size≤gb283));replace HB:=am (jb (bq) hb);clear hb hbox hg) |((with_reducible refine jB (N:=3) rfl ?_);refine bE (N:=3) (cs:=#[.int .i64 a1_0, .int .i64 a1_1, .int .i64 a1_2]) (t:=44) ?_;intro gb284 hg w7 hbox hb;have BK284:=am (hbox);have GW284:=am ((Y42:w.heap.size≤gb284));have GE284:=am ((Y42:w.heap.size≤gb284));have NB283_284:=am ((Y79:gb283≠gb284));have NB284_283:=am ((Y80:gb284≠gb283));replace BK283:=am (je (g:=gb283) (o:=.cells #[.int .i64 a0_0, .int .i64 a0_1, .int .i64 a0_2] 44 (0,0)) (kq BK283.out) hb);replace HB:=am (jb (Y81) hb);clear hb hbox hg;have hnb8:=NB283_284.out;have hnc8:=NB284_283.out;have hcz9_0:=bc0 BK283.out;have hcz9_1:=bc1 BK283.out;have hcz9_2:=bc2 BK283.out;have hfz9_0:=ja BK283.out 0;have hfz9_1:=ja BK283.out 1;have hfz9_2:=ja BK283.out 2;have hcz10_0:=bc0 BK284.out;have hcz10_1:=bc1 BK284.out;have hcz10_2:=bc2 BK284.out;have hfz10_0:=ja BK284.out 0;have hfz10_1:=ja BK284.out 1;have hfz10_2:=ja BK284.out 2))
    go_ret
    exact ⟨Y0,Y82⟩
   ·rw [if_neg c5] at H
    have c5b0:(a0_2 == a1_2)=false:=beq_eq_false_iff_ne.mpr c5
    have c5b1:(a0_2 != a1_2)=true:=bne_iff_ne.mpr c5
    obtain rfl:=Option.some.inj H
    go_enter Try.func44,Try.ntmps44
    go_wp2_with (first |((with_reducible refine jB (N:=2) rfl ?_);refine bE (N:=2) (cs:=#[.int .i64 a0_0, .int .i64 a0_1, .int .i64 a0_2]) (t:=44) ?_;intro gb283 hg w11 hbox hb;have BK283:=am (hbox);have GW283:=am ((Y1:w.heap.size≤gb283));have GE283:=am ((Y1:w.heap.size≤gb283));replace HB:=am (jb (bq) hb);clear hb hbox hg) |((with_reducible refine jB (N:=3) rfl ?_);refine bE (N:=3) (cs:=#[.int .i64 a1_0, .int .i64 a1_1, .int .i64 a1_2]) (t:=44) ?_;intro gb284 hg w12 hbox hb;have BK284:=am (hbox);have GW284:=am ((Y42:w.heap.size≤gb284));have GE284:=am ((Y42:w.heap.size≤gb284));have NB283_284:=am ((Y79:gb283≠gb284));have NB284_283:=am ((Y80:gb284≠gb283));replace BK283:=am (je (g:=gb283) (o:=.cells #[.int .i64 a0_0, .int .i64 a0_1, .int .i64 a0_2] 44 (0,0)) (kq BK283.out) hb);replace HB:=am (jb (Y81) hb);clear hb hbox hg;have hnb13:=NB283_284.out;have hnc13:=NB284_283.out;have hcz14_0:=bc0 BK283.out;have hcz14_1:=bc1 BK283.out;have hcz14_2:=bc2 BK283.out;have hfz14_0:=ja BK283.out 0;have hfz14_1:=ja BK283.out 1;have hfz14_2:=ja BK283.out 2;have hcz15_0:=bc0 BK284.out;have hcz15_1:=bc1 BK284.out;have hcz15_2:=bc2 BK284.out;have hfz15_0:=ja BK284.out 0;have hfz15_1:=ja BK284.out 1;have hfz15_2:=ja BK284.out 2))
    go_ret
    exact ⟨Y0,Y82⟩
  ·rw [if_neg c4] at H
   have c4b0:(a0_1 == a1_1)=false:=beq_eq_false_iff_ne.mpr c4
   have c4b1:(a0_1 != a1_1)=true:=bne_iff_ne.mpr c4
   obtain rfl:=Option.some.inj H
   go_enter Try.func44,Try.ntmps44
   go_wp2_with (first |((with_reducible refine jB (N:=2) rfl ?_);refine bE (N:=2) (cs:=#[.int .i64 a0_0, .int .i64 a0_1, .int .i64 a0_2]) (t:=44) ?_;intro gb283 hg w16 hbox hb;have BK283:=am (hbox);have GW283:=am ((Y1:w.heap.size≤gb283));have GE283:=am ((Y1:w.heap.size≤gb283));replace HB:=am (jb (bq) hb);clear hb hbox hg) |((with_reducible refine jB (N:=3) rfl ?_);refine bE (N:=3) (cs:=#[.int .i64 a1_0, .int .i64 a1_1, .int .i64 a1_2]) (t:=44) ?_;intro gb284 hg w17 hbox hb;have BK284:=am (hbox);have GW284:=am ((Y42:w.heap.size≤gb284));have GE284:=am ((Y42:w.heap.size≤gb284));have NB283_284:=am ((Y79:gb283≠gb284));have NB284_283:=am ((Y80:gb284≠gb283));replace BK283:=am (je (g:=gb283) (o:=.cells #[.int .i64 a0_0, .int .i64 a0_1, .int .i64 a0_2] 44 (0,0)) (kq BK283.out) hb);replace HB:=am (jb (Y81) hb);clear hb hbox hg;have hnb18:=NB283_284.out;have hnc18:=NB284_283.out;have hcz19_0:=bc0 BK283.out;have hcz19_1:=bc1 BK283.out;have hcz19_2:=bc2 BK283.out;have hfz19_0:=ja BK283.out 0;have hfz19_1:=ja BK283.out 1;have hfz19_2:=ja BK283.out 2;have hcz20_0:=bc0 BK284.out;have hcz20_1:=bc1 BK284.out;have hcz20_2:=bc2 BK284.out;have hfz20_0:=ja BK284.out 0;have hfz20_1:=ja BK284.out 1;have hfz20_2:=ja BK284.out 2))
   go_ret
   exact ⟨Y0,Y82⟩
 ·rw [if_neg c3] at H
  have c3b0:(a0_0 == a1_0)=false:=beq_eq_false_iff_ne.mpr c3
  have c3b1:(a0_0 != a1_0)=true:=bne_iff_ne.mpr c3
  obtain rfl:=Option.some.inj H
  go_enter Try.func44,Try.ntmps44
  go_wp2_with (first |((with_reducible refine jB (N:=2) rfl ?_);refine bE (N:=2) (cs:=#[.int .i64 a0_0, .int .i64 a0_1, .int .i64 a0_2]) (t:=44) ?_;intro gb283 hg w21 hbox hb;have BK283:=am (hbox);have GW283:=am ((Y1:w.heap.size≤gb283));have GE283:=am ((Y1:w.heap.size≤gb283));replace HB:=am (jb (bq) hb);clear hb hbox hg) |((with_reducible refine jB (N:=3) rfl ?_);refine bE (N:=3) (cs:=#[.int .i64 a1_0, .int .i64 a1_1, .int .i64 a1_2]) (t:=44) ?_;intro gb284 hg w22 hbox hb;have BK284:=am (hbox);have GW284:=am ((Y42:w.heap.size≤gb284));have GE284:=am ((Y42:w.heap.size≤gb284));have NB283_284:=am ((Y79:gb283≠gb284));have NB284_283:=am ((Y80:gb284≠gb283));replace BK283:=am (je (g:=gb283) (o:=.cells #[.int .i64 a0_0, .int .i64 a0_1, .int .i64 a0_2] 44 (0,0)) (kq BK283.out) hb);replace HB:=am (jb (Y81) hb);clear hb hbox hg;have hnb23:=NB283_284.out;have hnc23:=NB284_283.out;have hcz24_0:=bc0 BK283.out;have hcz24_1:=bc1 BK283.out;have hcz24_2:=bc2 BK283.out;have hfz24_0:=ja BK283.out 0;have hfz24_1:=ja BK283.out 1;have hfz24_2:=ja BK283.out 2;have hcz25_0:=bc0 BK284.out;have hcz25_1:=bc1 BK284.out;have hcz25_2:=bc2 BK284.out;have hfz25_0:=ja BK284.out 0;have hfz25_1:=ja BK284.out 1;have hfz25_2:=ja BK284.out 2))
  go_ret
  exact ⟨Y0,Y82⟩
def jT.l0 : Nat → List (S44) → List (S44) → Int → Option (Bool)
 | 0,_,_,_=>none
 | k+1,x0,x1,x5=>if x5<(x0.length:Int) then (if 0≤x5 then (if x5<(x1.length:Int) then ((jrc.f ((jJ x0 x5).f0) ((jJ x0 x5).f1) ((jJ x0 x5).f2) ((jJ x1 x5).f0) ((jJ x1 x5).f1) ((jJ x1 x5).f2)).bind fun t287=>(if t287=true then (jT.l0 k x0 x1 (wrap64 (x5+1))) else (some false))) else (none)) else (none)) else (some true)
def jT.f (k : Nat) (l0 : List (S44)) (l1 : List (S44)) : Option (Bool) := if (l0.length : Int) = (l1.length : Int) then (jT.l0 k l0 l1 0) else (some false)
def jT.T6 : Bool × List (List Nat × List Nat) := (true, [([], []), ([], []), ([0, 1], [0, 1]), ([2], [2]), ([], []), ([], []), ([4, 5], [4, 5]), ([6], [6]), ([3, 7], [3, 7]), ([8], [8])])
def jT.B6 : List Nat := [0, 0, 3, 7, 0, 0, 48, 112, 255, 511]
theorem jT.tab6 : rtab .any (opsOf Try.f15 6) = jT.T6 := by kernel_rfl
theorem jT.bits6 : joc jT.T6.2 jT.B6 = true := by kernel_rfl
set_option maxHeartbeats 8000000 in
set_option maxRecDepth 100000 in
theorem jT.calls (k : Nat) (A0 : Option Addr) (c0 : Nat) (l0 : List (S44)) (A1 : Option Addr) (c1 : Nat) (l1 : List (S44)) (r : Bool) (w : World) (hr0 : Kd.C k44 w A0 l0.length l0) (hc0 : l0.length ≤ c0) (hr1 : Kd.C k44 w A1 l1.length l1) (hc1 : l1.length ≤ c1) (h : jT.f k l0 l1 = some r) :
  Calls Try.prog 15 #[.slice A0 l0.length c0, .slice A1 l1.length c1] w fun e w'=>e=.returned (.bool r)∧Below w.heap.size w w':=by
 have hu44:=Try.underlying44
 have HR0:=am hr0
 have HC0:=am hc0
 clear hr0 hc0
 have HR1:=am hr1
 have HC1:=am hc1
 clear hr1 hc1
 have HB:=am (Below.refl w.heap.size w)
 have H:(if (l0.length:Int)=(l1.length:Int) then (jT.l0 k l0 l1 0) else (some false))=some r:=h
 clear h
 by_cases c3:(l0.length:Int)=(l1.length:Int)
 ·rw [if_pos c3] at H
  have c3b0:((l0.length:Int) == (l1.length:Int))=true:=beq_iff_eq.mpr c3
  have c3b1:((l0.length:Int) != (l1.length:Int))=false:=bne_eq_false_iff_eq.mpr c3
  have c3b2:(l0.length == l1.length)=true:=by first | simpa using c3 |(simp at c3 ⊢;omega)
  clear c3
  have H':=am H
  clear H
  go_enter Try.func15,Try.ntmps15
  go_wp2
  go_loopg [5] k (fun kq v5 w'=>∃ (x5_1:Int),v5=.int .i64 x5_1∧jF (jT.l0 kq l0 l1 x5_1=some r)∧jF (kq≤k)∧jF (Below w.heap.size w w'))
  case atStart=>exact ⟨(0),(sq),H',⟨Nat.le_refl _⟩,⟨bq⟩⟩
  case round =>
   clear H'
   try clear c1
   try clear p2
   try clear c3
   try clear c3b0
   try clear c3b1
   try clear c3b2
   obtain ⟨x5_1,rfl,HA,HK1,HB⟩:=hrel
   cases gk with
   | zero=>exact absurd HA.out (by simp [jT.l0])
   | succ k1 =>
    have H:=HA.out
    clear HA
    simp only [jT.l0] at H
    by_cases c4:x5_1<(l0.length:Int)
    ·rw [if_pos c4] at H
     have c4b0:decide (x5_1<(l0.length:Int))=true:=dzT c4
     clear c4
     by_cases c5:0≤x5_1
     ·rw [if_pos c5] at H
      have c5b0:decide (0≤x5_1)=true:=dzT c5
      clear c5
      by_cases c6:x5_1<(l1.length:Int)
      ·rw [if_pos c6] at H
       have c6b0:decide (x5_1<(l1.length:Int))=true:=dzT c6
       clear c6
       replace H:=bzS H
       obtain ⟨t287,A70,H⟩:=H
       replace H:(if t287=true then (jT.l0 k1 l0 l1 (wrap64 (x5_1+1))) else (some false))=some r:=H
       have A7:=am A70
       clear A70
       by_cases c8:t287=true
       ·subst c8
        have H1:(jT.l0 k1 l0 l1 (wrap64 (x5_1+1)))=some r:=by rw [if_pos rfl] at H;exact H
        clear H
        have H:=H1
        clear H1
        have H':=am H
        clear H
        try go_wp2
        replace HB:=am (jq HB.out)
        have p285:0≤(x5_1:Int):=ozD (uq)
        have q285:x5_1<(l0.length:Int):=ozD (uq)
        obtain ⟨ad285,e285,hx285_0,hx285_1,hx285_2⟩:=at_T44 HR0.out x5_1 p285 q285
        have hw285_2:=hx285_2
        have hw285_1:=hx285_1
        have hw285_0:=hx285_0
        cases e285
        replace hx285_0:=cb HB.out hx285_0
        replace hx285_1:=cb HB.out hx285_1
        replace hx285_2:=cb HB.out hx285_2
        replace p285:=ezT p285
        replace q285:=ezT q285
        have p286:0≤(x5_1:Int):=ozD (uq)
        have q286:x5_1<(l1.length:Int):=ozD (uq)
        obtain ⟨ad286,e286,hx286_0,hx286_1,hx286_2⟩:=at_T44 HR1.out x5_1 p286 q286
        have hw286_2:=hx286_2
        have hw286_1:=hx286_1
        have hw286_0:=hx286_0
        cases e286
        replace hx286_0:=cb HB.out hx286_0
        replace hx286_1:=cb HB.out hx286_1
        replace hx286_2:=cb HB.out hx286_2
        replace p286:=ezT p286
        replace q286:=ezT q286
        refine jFc (n:=10) (S:=fun w'=>w'.cell? (ad285.add ((x5_1).toNat * 3))=some (.int .i64 ((jJ l0 x5_1).f0))∧w'.cell? ⟨(ad285.add ((x5_1).toNat * 3)).block,(ad285.add ((x5_1).toNat * 3)).off+1,none⟩=some (.int .i64 ((jJ l0 x5_1).f1))∧w'.cell? ⟨(ad285.add ((x5_1).toNat * 3)).block,(ad285.add ((x5_1).toNat * 3)).off+2,none⟩=some (.int .i64 ((jJ l0 x5_1).f2))∧w'.cell? (ad286.add ((x5_1).toNat * 3))=some (.int .i64 ((jJ l1 x5_1).f0))∧w'.cell? ⟨(ad286.add ((x5_1).toNat * 3)).block,(ad286.add ((x5_1).toNat * 3)).off+1,none⟩=some (.int .i64 ((jJ l1 x5_1).f1))∧w'.cell? ⟨(ad286.add ((x5_1).toNat * 3)).block,(ad286.add ((x5_1).toNat * 3)).off+2,none⟩=some (.int .i64 ((jJ l1 x5_1).f2))) (ds:=[]) #[false,false,false,false,false,false,false,false,false,false] (by kernel_rfl) rfl rfl ⟨((HB.out.cell (World.block_lt_of_cell? w _ hw285_0)).trans hw285_0),((HB.out.cell (World.block_lt_of_cell? w _ hw285_1)).trans hw285_1),((HB.out.cell (World.block_lt_of_cell? w _ hw285_2)).trans hw285_2),((HB.out.cell (World.block_lt_of_cell? w _ hw286_0)).trans hw286_0),((HB.out.cell (World.block_lt_of_cell? w _ hw286_1)).trans hw286_1),((HB.out.cell (World.block_lt_of_cell? w _ hw286_2)).trans hw286_2)⟩ (fun hHeld=>?_);refine jOb jT.tab6 jT.bits6 (fun HT_ HW_=>?_)
        generalize wr.drew=w9 at HB hx285_0 hx285_1 hx285_2 hx286_0 hx286_1 hx286_2 hHeld ⊢
        refine pq (i:=0) (N:=some 17) #[true,false,false,false,false,false,false,false,false,false] ?_
        refine pq (i:=1) (N:=some 18) #[true,true,false,false,false,false,false,false,false,false] ?_
        refine pq (i:=2) (N:=some 19) #[true,true,true,false,false,false,false,false,false,false] ?_
        refine pq (i:=4) (N:=some 21) #[true,true,true,false,true,false,false,false,false,false] ?_
        refine pq (i:=5) (N:=some 22) #[true,true,true,false,true,true,false,false,false,false] ?_
        refine pq (i:=6) (N:=some 23) #[true,true,true,false,true,true,true,false,false,false] ?_
        refine jbc (i:=3) (N:=some 20) (v:=?_) (a':=?_) #[true,true,true,true,true,true,true,false,false,false] rfl rfl (jkb HT_.out HW_.out (by kernel_rfl)) (fun _ _ _ h=>h) (Or.inl ⟨by rfl,?_⟩) hHeld ?_ ?_
        rotate_left
        ·rintro w' ⟨s0,s1,s2,s3,s4,s5⟩
         go_simp
         with_reducible rfl
        rotate_left
        ·exact sa
        refine jbc (i:=7) (N:=some 24) (v:=?_) (a':=?_) #[true,true,true,true,true,true,true,true,false,false] rfl rfl (jkb HT_.out HW_.out (by kernel_rfl)) (fun _ _ _ h=>h) (Or.inl ⟨by rfl,?_⟩) hHeld ?_ ?_
        rotate_left
        ·rintro w' ⟨s0,s1,s2,s3,s4,s5⟩
         go_simp
         with_reducible rfl
        rotate_left
        ·exact sa
        refine one_ (i:=8) (N:=some 25) #[true,true,true,true,true,true,true,true,true,false] rfl rfl (jRb HT_.out (by kernel_rfl)) (by decide) (fun K hK=>?_)
        refine goes_ Try.func44 (by kernel_rfl) rfl #[.agg #[.int .i64 ((jJ l0 x5_1).f0), .int .i64 ((jJ l0 x5_1).f1), .int .i64 ((jJ l0 x5_1).f2)], .agg #[.int .i64 ((jJ l1 x5_1).f0), .int .i64 ((jJ l1 x5_1).f1), .int .i64 ((jJ l1 x5_1).f2)]] (by rfl) rfl rfl (aq) ?_
        with_reducible refine (jrc.calls ((jJ l0 x5_1).f0) ((jJ l0 x5_1).f1) ((jJ l0 x5_1).f2) ((jJ l1 x5_1).f0) ((jJ l1 x5_1).f1) ((jJ l1 x5_1).f2) true _ A7.out).mono ?_
        rintro e w10 ⟨rfl,hb⟩
        refine ⟨_,rfl,?_⟩
        replace HB:=am (jb (bq) hb)
        (try clear hb)
        (try clear hb2)
        (try clear hk)
        (try clear hi)
        refine hK.out _ _ ⟨((HB.out.cell (World.block_lt_of_cell? w _ hw285_0)).trans hw285_0),((HB.out.cell (World.block_lt_of_cell? w _ hw285_1)).trans hw285_1),((HB.out.cell (World.block_lt_of_cell? w _ hw285_2)).trans hw285_2),((HB.out.cell (World.block_lt_of_cell? w _ hw286_0)).trans hw286_0),((HB.out.cell (World.block_lt_of_cell? w _ hw286_1)).trans hw286_1),((HB.out.cell (World.block_lt_of_cell? w _ hw286_2)).trans hw286_2)⟩ (fun hHeld=>?_)
        clear hK K
        refine jBc (a':=?_) ?_ ?_
        rotate_left
        ·show Act.put _ (some 25) _=_
         simp only [Act.put,List.setIfInBounds_toArray,List.set_cons_zero,List.set_cons_succ,jzb,jCb]
         rfl
        refine pq (i:=9) (N:=some 26) #[true,true,true,true,true,true,true,true,true,true] ?_
        refine done_ (jKc HT_.out (by kernel_rfl)) ?_
        try go_wp2
        go_roundg k1
        case measure=>have:=HK1.out;omega
        case rel=>exact ⟨(wrap64 (x5_1+1)),(sq),H',⟨by have:=HK1.out;omega⟩,⟨bq⟩⟩
       ·replace c8:=Bool.eq_false_iff.mpr c8
        subst c8
        have H1:(some false)=some r:=by rw [if_neg (show ¬ (false=true) by decide)] at H;exact H
        clear H
        have H:=H1
        clear H1
        obtain rfl:=Option.some.inj H
        try go_wp2
        replace HB:=am (jq HB.out)
        have p285:0≤(x5_1:Int):=ozD (uq)
        have q285:x5_1<(l0.length:Int):=ozD (uq)
        obtain ⟨ad285,e285,hx285_0,hx285_1,hx285_2⟩:=at_T44 HR0.out x5_1 p285 q285
        have hw285_2:=hx285_2
        have hw285_1:=hx285_1
        have hw285_0:=hx285_0
        cases e285
        replace hx285_0:=cb HB.out hx285_0
        replace hx285_1:=cb HB.out hx285_1
        replace hx285_2:=cb HB.out hx285_2
        replace p285:=ezT p285
        replace q285:=ezT q285
        have p286:0≤(x5_1:Int):=ozD (uq)
        have q286:x5_1<(l1.length:Int):=ozD (uq)
        obtain ⟨ad286,e286,hx286_0,hx286_1,hx286_2⟩:=at_T44 HR1.out x5_1 p286 q286
        have hw286_2:=hx286_2
        have hw286_1:=hx286_1
        have hw286_0:=hx286_0
        cases e286
        replace hx286_0:=cb HB.out hx286_0
        replace hx286_1:=cb HB.out hx286_1
        replace hx286_2:=cb HB.out hx286_2
        replace p286:=ezT p286
        replace q286:=ezT q286
        refine jFc (n:=10) (S:=fun w'=>w'.cell? (ad285.add ((x5_1).toNat * 3))=some (.int .i64 ((jJ l0 x5_1).f0))∧w'.cell? ⟨(ad285.add ((x5_1).toNat * 3)).block,(ad285.add ((x5_1).toNat * 3)).off+1,none⟩=some (.int .i64 ((jJ l0 x5_1).f1))∧w'.cell? ⟨(ad285.add ((x5_1).toNat * 3)).block,(ad285.add ((x5_1).toNat * 3)).off+2,none⟩=some (.int .i64 ((jJ l0 x5_1).f2))∧w'.cell? (ad286.add ((x5_1).toNat * 3))=some (.int .i64 ((jJ l1 x5_1).f0))∧w'.cell? ⟨(ad286.add ((x5_1).toNat * 3)).block,(ad286.add ((x5_1).toNat * 3)).off+1,none⟩=some (.int .i64 ((jJ l1 x5_1).f1))∧w'.cell? ⟨(ad286.add ((x5_1).toNat * 3)).block,(ad286.add ((x5_1).toNat * 3)).off+2,none⟩=some (.int .i64 ((jJ l1 x5_1).f2))) (ds:=[]) #[false,false,false,false,false,false,false,false,false,false] (by kernel_rfl) rfl rfl ⟨((HB.out.cell (World.block_lt_of_cell? w _ hw285_0)).trans hw285_0),((HB.out.cell (World.block_lt_of_cell? w _ hw285_1)).trans hw285_1),((HB.out.cell (World.block_lt_of_cell? w _ hw285_2)).trans hw285_2),((HB.out.cell (World.block_lt_of_cell? w _ hw286_0)).trans hw286_0),((HB.out.cell (World.block_lt_of_cell? w _ hw286_1)).trans hw286_1),((HB.out.cell (World.block_lt_of_cell? w _ hw286_2)).trans hw286_2)⟩ (fun hHeld=>?_);refine jOb jT.tab6 jT.bits6 (fun HT_ HW_=>?_)
        generalize wr.drew=w11 at HB hx285_0 hx285_1 hx285_2 hx286_0 hx286_1 hx286_2 hHeld ⊢
        refine pq (i:=0) (N:=some 17) #[true,false,false,false,false,false,false,false,false,false] ?_
        refine pq (i:=1) (N:=some 18) #[true,true,false,false,false,false,false,false,false,false] ?_
        refine pq (i:=2) (N:=some 19) #[true,true,true,false,false,false,false,false,false,false] ?_
        refine pq (i:=4) (N:=some 21) #[true,true,true,false,true,false,false,false,false,false] ?_
        refine pq (i:=5) (N:=some 22) #[true,true,true,false,true,true,false,false,false,false] ?_
        refine pq (i:=6) (N:=some 23) #[true,true,true,false,true,true,true,false,false,false] ?_
        refine jbc (i:=3) (N:=some 20) (v:=?_) (a':=?_) #[true,true,true,true,true,true,true,false,false,false] rfl rfl (jkb HT_.out HW_.out (by kernel_rfl)) (fun _ _ _ h=>h) (Or.inl ⟨by rfl,?_⟩) hHeld ?_ ?_
        rotate_left
        ·rintro w' ⟨s0,s1,s2,s3,s4,s5⟩
         go_simp
         with_reducible rfl
        rotate_left
        ·exact sa
        refine jbc (i:=7) (N:=some 24) (v:=?_) (a':=?_) #[true,true,true,true,true,true,true,true,false,false] rfl rfl (jkb HT_.out HW_.out (by kernel_rfl)) (fun _ _ _ h=>h) (Or.inl ⟨by rfl,?_⟩) hHeld ?_ ?_
        rotate_left
        ·rintro w' ⟨s0,s1,s2,s3,s4,s5⟩
         go_simp
         with_reducible rfl
        rotate_left
        ·exact sa
        refine one_ (i:=8) (N:=some 25) #[true,true,true,true,true,true,true,true,true,false] rfl rfl (jRb HT_.out (by kernel_rfl)) (by decide) (fun K hK=>?_)
        refine goes_ Try.func44 (by kernel_rfl) rfl #[.agg #[.int .i64 ((jJ l0 x5_1).f0), .int .i64 ((jJ l0 x5_1).f1), .int .i64 ((jJ l0 x5_1).f2)], .agg #[.int .i64 ((jJ l1 x5_1).f0), .int .i64 ((jJ l1 x5_1).f1), .int .i64 ((jJ l1 x5_1).f2)]] (by rfl) rfl rfl (aq) ?_
        with_reducible refine (jrc.calls ((jJ l0 x5_1).f0) ((jJ l0 x5_1).f1) ((jJ l0 x5_1).f2) ((jJ l1 x5_1).f0) ((jJ l1 x5_1).f1) ((jJ l1 x5_1).f2) false _ A7.out).mono ?_
        rintro e w12 ⟨rfl,hb⟩
        refine ⟨_,rfl,?_⟩
        replace HB:=am (jb (bq) hb)
        (try clear hb)
        (try clear hb2)
        (try clear hk)
        (try clear hi)
        refine hK.out _ _ ⟨((HB.out.cell (World.block_lt_of_cell? w _ hw285_0)).trans hw285_0),((HB.out.cell (World.block_lt_of_cell? w _ hw285_1)).trans hw285_1),((HB.out.cell (World.block_lt_of_cell? w _ hw285_2)).trans hw285_2),((HB.out.cell (World.block_lt_of_cell? w _ hw286_0)).trans hw286_0),((HB.out.cell (World.block_lt_of_cell? w _ hw286_1)).trans hw286_1),((HB.out.cell (World.block_lt_of_cell? w _ hw286_2)).trans hw286_2)⟩ (fun hHeld=>?_)
        clear hK K
        refine jBc (a':=?_) ?_ ?_
        rotate_left
        ·show Act.put _ (some 25) _=_
         simp only [Act.put,List.setIfInBounds_toArray,List.set_cons_zero,List.set_cons_succ,jzb,jCb]
         rfl
        refine pq (i:=9) (N:=some 26) #[true,true,true,true,true,true,true,true,true,true] ?_
        refine done_ (jKc HT_.out (by kernel_rfl)) ?_
        try go_wp2
        go_ret
        exact ⟨Y0,bq⟩
      ·rw [if_neg c6] at H
       exact absurd H (by simp)
     ·rw [if_neg c5] at H
      exact absurd H (by simp)
    ·rw [if_neg c4] at H
     have c4b0:decide (x5_1<(l0.length:Int))=false:=dzF c4
     clear c4
     obtain rfl:=Option.some.inj H
     go_wp2
     go_ret
     exact ⟨Y0,bq⟩
 ·rw [if_neg c3] at H
  have c3b0:((l0.length:Int) == (l1.length:Int))=false:=beq_eq_false_iff_ne.mpr c3
  have c3b1:((l0.length:Int) != (l1.length:Int))=true:=bne_iff_ne.mpr c3
  have c3b2:(l0.length == l1.length)=false:=by first | simpa using c3 |(simp at c3 ⊢;omega)
  obtain rfl:=Option.some.inj H
  go_enter Try.func15,Try.ntmps15
  go_wp2
  go_ret
  exact ⟨Y0,bq⟩
def jmb.f (k : Nat) (l0_0 : List (S98)) (l1 : List (S70)) : Option (Bool) := (jIb.f k l0_0 1048576).bind fun t289 => (if t289 < 0 then (some true) else ((jwb.f l1 t289).bind fun t290 => (if t290 < 0 then (some true) else ((jya.f k l0_0).bind fun t291 => ((jK.f k l1).bind fun t294 => ((jLa.f k t291 t294).bind fun t297 => ((jya.f k l0_0).bind fun t298 => ((jK.f k l1).bind fun t302 => ((jga.f k t298 t302).bind fun t305 => (if (t305 != t297) = true then (some false) else ((jya.f k l0_0).bind fun t306 => ((jab.f k t298 t306).bind fun t309 => (if t309 = true then ((jK.f k l1).bind fun t310 => ((jT.f k t302 t310).bind fun t313 => (if t313 = true then (some true) else (some false)))) else (some false))))))))))))))
set_option maxHeartbeats 8000000 in
set_option maxRecDepth 100000 in
theorem jmb.calls (k : Nat) (A0_0 : Option Addr) (c0_0 : Nat) (l0_0 : List (S98)) (A1 : Option Addr) (c1 : Nat) (l1 : List (S70)) (r : Bool) (w : World) (hr0_0 : Kd.C k98 w A0_0 l0_0.length l0_0) (hc0_0 : l0_0.length ≤ c0_0) (hr1 : Kd.C k70 w A1 l1.length l1) (hc1 : l1.length ≤ c1) (hT : r = true) (h : jmb.f k l0_0 l1 = some r) :
  Calls Try.prog 3 #[.agg #[.slice A0_0 l0_0.length c0_0], .slice A1 l1.length c1] w fun e w'=>e=.returned (.bool r)∧Below w.heap.size w w':=by
 have hu24:=Try.underlying24
 have hu31:=Try.underlying31
 have HR0_0:=am hr0_0
 have HC0_0:=am hc0_0
 clear hr0_0 hc0_0
 have HR1:=am hr1
 have HC1:=am hc1
 clear hr1 hc1
 have HB:=am (Below.refl w.heap.size w)
 have H:((jIb.f k l0_0 1048576).bind fun t289=>(if t289<0 then (some true) else ((jwb.f l1 t289).bind fun t290=>(if t290<0 then (some true) else ((jya.f k l0_0).bind fun t291=>((jK.f k l1).bind fun t294=>((jLa.f k t291 t294).bind fun t297=>((jya.f k l0_0).bind fun t298=>((jK.f k l1).bind fun t302=>((jga.f k t298 t302).bind fun t305=>(if (t305 != t297)=true then (some false) else ((jya.f k l0_0).bind fun t306=>((jab.f k t298 t306).bind fun t309=>(if t309=true then ((jK.f k l1).bind fun t310=>((jT.f k t302 t310).bind fun t313=>(if t313=true then (some true) else (some false)))) else (some false)))))))))))))))=some r:=h
 clear h
 replace H:=bzS H
 obtain ⟨t289,A30,H⟩:=H
 replace H:(if t289<0 then (some true) else ((jwb.f l1 t289).bind fun t290=>(if t290<0 then (some true) else ((jya.f k l0_0).bind fun t291=>((jK.f k l1).bind fun t294=>((jLa.f k t291 t294).bind fun t297=>((jya.f k l0_0).bind fun t298=>((jK.f k l1).bind fun t302=>((jga.f k t298 t302).bind fun t305=>(if (t305 != t297)=true then (some false) else ((jya.f k l0_0).bind fun t306=>((jab.f k t298 t306).bind fun t309=>(if t309=true then ((jK.f k l1).bind fun t310=>((jT.f k t302 t310).bind fun t313=>(if t313=true then (some true) else (some false)))) else (some false))))))))))))))=some r:=H
 have A3:=am A30
 clear A30
 by_cases c4:t289<0
 ·rw [if_pos c4] at H
  have c4b0:decide (t289<0)=true:=dzT c4
  clear c4
  obtain rfl:=Option.some.inj H
  go_enter Try.func3,Try.ntmps3
  go_wp2_with (first |((with_reducible refine jB (N:=2) rfl ?_);refine bE (N:=2) (cs:=#[.slice A0_0 l0_0.length c0_0]) (t:=24) ?_;intro gb288 hg w5 hbox hb;have BK288:=am (hbox);have GW288:=am ((Y1:w.heap.size≤gb288));have GE288:=am ((Y1:w.heap.size≤gb288));replace HB:=am (jb (bq) hb);clear hb hbox hg;have hcz6_0:=bc0 BK288.out;have hfz6_0:=ja BK288.out 0) |((with_reducible refine jm (f:=8) rfl ?_);refine gL (some 12) Try.func8 #[.agg #[.slice A0_0 l0_0.length c0_0], .int .i64 1048576] ?_;(with_reducible refine (jIb.calls k _ _ l0_0 1048576 t289 _ ?side1 ?side2 A3.out).mono ?_);(case side1=>exact cq (Kd.jea HR0_0.out HB.out));(case side2=>exact HC0_0.out);rintro e w7 ⟨rfl,hb⟩;refine ⟨_,rfl,?_⟩;replace BK288:=am (je (g:=gb288) (o:=.cells #[.slice A0_0 l0_0.length c0_0] 24 (0,0)) (kq BK288.out) hb);replace HB:=am (jb (Y21) hb);(try clear hb);(try clear hb2);(try clear hk);(try clear hi)))
  go_ret
  exact ⟨Y0,Y21⟩
 ·rw [if_neg c4] at H
  have c4b0:decide (t289<0)=false:=dzF c4
  clear c4
  replace H:=bzS H
  obtain ⟨t290,A80,H⟩:=H
  replace H:(if t290<0 then (some true) else ((jya.f k l0_0).bind fun t291=>((jK.f k l1).bind fun t294=>((jLa.f k t291 t294).bind fun t297=>((jya.f k l0_0).bind fun t298=>((jK.f k l1).bind fun t302=>((jga.f k t298 t302).bind fun t305=>(if (t305 != t297)=true then (some false) else ((jya.f k l0_0).bind fun t306=>((jab.f k t298 t306).bind fun t309=>(if t309=true then ((jK.f k l1).bind fun t310=>((jT.f k t302 t310).bind fun t313=>(if t313=true then (some true) else (some false)))) else (some false))))))))))))=some r:=H
  have A8:=am A80
  clear A80
  by_cases c9:t290<0
  ·rw [if_pos c9] at H
   have c9b0:decide (t290<0)=true:=dzT c9
   clear c9
   obtain rfl:=Option.some.inj H
   go_enter Try.func3,Try.ntmps3
   go_wp2_with (first |((with_reducible refine jB (N:=2) rfl ?_);refine bE (N:=2) (cs:=#[.slice A0_0 l0_0.length c0_0]) (t:=24) ?_;intro gb288 hg w10 hbox hb;have BK288:=am (hbox);have GW288:=am ((Y1:w.heap.size≤gb288));have GE288:=am ((Y1:w.heap.size≤gb288));replace HB:=am (jb (bq) hb);clear hb hbox hg;have hcz11_0:=bc0 BK288.out;have hfz11_0:=ja BK288.out 0) |((with_reducible refine jm (f:=8) rfl ?_);refine gL (some 12) Try.func8 #[.agg #[.slice A0_0 l0_0.length c0_0], .int .i64 1048576] ?_;(with_reducible refine (jIb.calls k _ _ l0_0 1048576 t289 _ ?side1 ?side2 A3.out).mono ?_);(case side1=>exact cq (Kd.jea HR0_0.out HB.out));(case side2=>exact HC0_0.out);rintro e w12 ⟨rfl,hb⟩;refine ⟨_,rfl,?_⟩;replace BK288:=am (je (g:=gb288) (o:=.cells #[.slice A0_0 l0_0.length c0_0] 24 (0,0)) (kq BK288.out) hb);replace HB:=am (jb (Y21) hb);(try clear hb);(try clear hb2);(try clear hk);(try clear hi)) |((with_reducible refine jm (f:=9) rfl ?_);refine gL (some 17) Try.func9 #[.slice A1 l1.length c1, .int .i64 t289] ?_;(with_reducible refine (jwb.calls _ _ l1 t289 t290 _ ?side1 ?side2 A8.out).mono ?_);(case side1=>exact cq (Kd.jea HR1.out HB.out));(case side2=>exact HC1.out);rintro e w' ⟨rfl,⟨nd,rfl⟩⟩;refine ⟨_,rfl,?_⟩))
   go_ret
   exact ⟨Y0,Y21⟩
  ·rw [if_neg c9] at H
   have c9b0:decide (t290<0)=false:=dzF c9
   clear c9
   replace H:=bzS H
   obtain ⟨t291,A130,H⟩:=H
   replace H:((jK.f k l1).bind fun t294=>((jLa.f k t291 t294).bind fun t297=>((jya.f k l0_0).bind fun t298=>((jK.f k l1).bind fun t302=>((jga.f k t298 t302).bind fun t305=>(if (t305 != t297)=true then (some false) else ((jya.f k l0_0).bind fun t306=>((jab.f k t298 t306).bind fun t309=>(if t309=true then ((jK.f k l1).bind fun t310=>((jT.f k t302 t310).bind fun t313=>(if t313=true then (some true) else (some false)))) else (some false))))))))))=some r:=H
   have A13:=am A130
   clear A130
   replace H:=bzS H
   obtain ⟨t294,A140,H⟩:=H
   replace H:((jLa.f k t291 t294).bind fun t297=>((jya.f k l0_0).bind fun t298=>((jK.f k l1).bind fun t302=>((jga.f k t298 t302).bind fun t305=>(if (t305 != t297)=true then (some false) else ((jya.f k l0_0).bind fun t306=>((jab.f k t298 t306).bind fun t309=>(if t309=true then ((jK.f k l1).bind fun t310=>((jT.f k t302 t310).bind fun t313=>(if t313=true then (some true) else (some false)))) else (some false)))))))))=some r:=H
   have A14:=am A140
   clear A140
   replace H:=bzS H
   obtain ⟨t297,A150,H⟩:=H
   replace H:((jya.f k l0_0).bind fun t298=>((jK.f k l1).bind fun t302=>((jga.f k t298 t302).bind fun t305=>(if (t305 != t297)=true then (some false) else ((jya.f k l0_0).bind fun t306=>((jab.f k t298 t306).bind fun t309=>(if t309=true then ((jK.f k l1).bind fun t310=>((jT.f k t302 t310).bind fun t313=>(if t313=true then (some true) else (some false)))) else (some false))))))))=some r:=H
   have A15:=am A150
   clear A150
   replace H:=bzS H
   obtain ⟨t298,A160,H⟩:=H
   replace H:((jK.f k l1).bind fun t302=>((jga.f k t298 t302).bind fun t305=>(if (t305 != t297)=true then (some false) else ((jya.f k l0_0).bind fun t306=>((jab.f k t298 t306).bind fun t309=>(if t309=true then ((jK.f k l1).bind fun t310=>((jT.f k t302 t310).bind fun t313=>(if t313=true then (some true) else (some false)))) else (some false)))))))=some r:=H
   have A16:=am A160
   clear A160
   replace H:=bzS H
   obtain ⟨t302,A170,H⟩:=H
   replace H:((jga.f k t298 t302).bind fun t305=>(if (t305 != t297)=true then (some false) else ((jya.f k l0_0).bind fun t306=>((jab.f k t298 t306).bind fun t309=>(if t309=true then ((jK.f k l1).bind fun t310=>((jT.f k t302 t310).bind fun t313=>(if t313=true then (some true) else (some false)))) else (some false))))))=some r:=H
   have A17:=am A170
   clear A170
   replace H:=bzS H
   obtain ⟨t305,A180,H⟩:=H
   replace H:(if (t305 != t297)=true then (some false) else ((jya.f k l0_0).bind fun t306=>((jab.f k t298 t306).bind fun t309=>(if t309=true then ((jK.f k l1).bind fun t310=>((jT.f k t302 t310).bind fun t313=>(if t313=true then (some true) else (some false)))) else (some false)))))=some r:=H
   have A18:=am A180
   clear A180
   by_cases c19:(t305 != t297)=true
   ·rw [if_pos c19] at H
    have c19b0:(t305 != t297)=true:=c19
    (try (have c19b1:decide (t305=t297)=false:=by simpa using c19))
    (try (have c19b2:(t305 == t297)=false:=by simpa using c19))
    (try (have c19b3:¬ (t305=t297):=by simpa using c19))
    clear c19
    exact absurd ((Option.some.inj H).trans hT) Bool.false_ne_true
   ·rw [if_neg c19] at H
    have c19b0:(t305 != t297)=false:=by simpa using c19
    (try (have c19b1:decide (t305=t297)=true:=by simpa using c19))
    (try (have c19b2:(t305 == t297)=true:=by simpa using c19))
    clear c19
    replace H:=bzS H
    obtain ⟨t306,A200,H⟩:=H
    replace H:((jab.f k t298 t306).bind fun t309=>(if t309=true then ((jK.f k l1).bind fun t310=>((jT.f k t302 t310).bind fun t313=>(if t313=true then (some true) else (some false)))) else (some false)))=some r:=H
    have A20:=am A200
    clear A200
    replace H:=bzS H
    obtain ⟨t309,A210,H⟩:=H
    replace H:(if t309=true then ((jK.f k l1).bind fun t310=>((jT.f k t302 t310).bind fun t313=>(if t313=true then (some true) else (some false)))) else (some false))=some r:=H
    have A21:=am A210
    clear A210
    by_cases c22:t309=true
    ·subst c22
     have H1:((jK.f k l1).bind fun t310=>((jT.f k t302 t310).bind fun t313=>(if t313=true then (some true) else (some false))))=some r:=by rw [if_pos rfl] at H;exact H
     clear H
     have H:=H1
     clear H1
     replace H:=bzS H
     obtain ⟨t310,A230,H⟩:=H
     replace H:((jT.f k t302 t310).bind fun t313=>(if t313=true then (some true) else (some false)))=some r:=H
     have A23:=am A230
     clear A230
     replace H:=bzS H
     obtain ⟨t313,A240,H⟩:=H
     replace H:(if t313=true then (some true) else (some false))=some r:=H
     have A24:=am A240
     clear A240
     by_cases c25:t313=true
     ·subst c25
      have H1:(some true)=some r:=by rw [if_pos rfl] at H;exact H
      clear H
      have H:=H1
      clear H1
      obtain rfl:=Option.some.inj H
      go_enter Try.func3,Try.ntmps3
      try go_wp2_with (first |((with_reducible refine jB (N:=2) rfl ?_);refine bE (N:=2) (cs:=#[.slice A0_0 l0_0.length c0_0]) (t:=24) ?_;intro gb288 hg w26 hbox hb;have BK288:=am (hbox);have GW288:=am ((Y1:w.heap.size≤gb288));have GE288:=am ((Y1:w.heap.size≤gb288));replace HB:=am (jb (bq) hb);clear hb hbox hg;have hcz27_0:=bc0 BK288.out;have hfz27_0:=ja BK288.out 0) |((with_reducible refine jm (f:=8) rfl ?_);refine gL (some 12) Try.func8 #[.agg #[.slice A0_0 l0_0.length c0_0], .int .i64 1048576] ?_;(with_reducible refine (jIb.calls k _ _ l0_0 1048576 t289 _ ?side1 ?side2 A3.out).mono ?_);(case side1=>exact cq (Kd.jea HR0_0.out HB.out));(case side2=>exact HC0_0.out);rintro e w28 ⟨rfl,hb⟩;refine ⟨_,rfl,?_⟩;replace BK288:=am (je (g:=gb288) (o:=.cells #[.slice A0_0 l0_0.length c0_0] 24 (0,0)) (kq BK288.out) hb);replace HB:=am (jb (Y21) hb);(try clear hb);(try clear hb2);(try clear hk);(try clear hi)) |((with_reducible refine jm (f:=9) rfl ?_);refine gL (some 17) Try.func9 #[.slice A1 l1.length c1, .int .i64 t289] ?_;(with_reducible refine (jwb.calls _ _ l1 t289 t290 _ ?side1 ?side2 A8.out).mono ?_);(case side1=>exact cq (Kd.jea HR1.out HB.out));(case side2=>exact HC1.out);rintro e w' ⟨rfl,⟨nd,rfl⟩⟩;refine ⟨_,rfl,?_⟩;(try (rw [drewN_self w28];generalize hq_:World.drewN w28 _=w28;have n0_:jF (w28.heap[gb288]?=some (.cells #[.slice A0_0 l0_0.length c0_0] 24 (0,0))):=⟨by rw [← hq_];exact (kq BK288.out)⟩;have n1_:jF (Below w.heap.size w w28):=⟨by rw [← hq_];exact (Y21)⟩;clear BK288 HB hq_;have BK288:=n0_;have HB:=n1_;clear n0_ n1_));have hcz29_0:=bc0 BK288.out;have hfz29_0:=ja BK288.out 0) |((with_reducible refine jm (f:=11) rfl ?_);refine gL (some 21) Try.func11 #[.agg #[.slice A0_0 l0_0.length c0_0]] ?_;(with_reducible refine (jya.calls k _ _ l0_0 t291 _ ?side1 ?side2 A13.out).mono ?_);(case side1=>exact cq (Kd.jea HR0_0.out HB.out));(case side2=>exact HC0_0.out);rintro e w30 ⟨v292,rfl,ho0,hb⟩;refine ⟨_,rfl,?_⟩;have HO293:=am (Kd.jda ho0 (jD (Y21)));replace BK288:=am (je (g:=gb288) (o:=.cells #[.slice A0_0 l0_0.length c0_0] 24 (0,0)) (kq BK288.out) hb);replace HB:=am (jb (Y21) hb);(try clear hb);(try clear hb2);(try clear hk);(try clear hi);(try clear ho0)) |((with_reducible refine jm (f:=12) rfl ?_);refine gL (some 23) Try.func12 #[.slice A1 l1.length c1] ?_;(with_reducible refine (jK.calls k _ _ l1 t294 _ ?side1 ?side2 A14.out).mono ?_);(case side1=>exact cq (Kd.jea HR1.out HB.out));(case side2=>exact HC1.out);rintro e w31 ⟨v295,rfl,ho0,hb⟩;refine ⟨_,rfl,?_⟩;have HO296:=am (Kd.jda ho0 (jD (Y21)));replace HO293:=am (Kd.jG (rq HO293.out) hb);replace BK288:=am (je (g:=gb288) (o:=.cells #[.slice A0_0 l0_0.length c0_0] 24 (0,0)) (kq BK288.out) hb);replace HB:=am (jb (Y21) hb);(try clear hb);(try clear hb2);(try clear hk);(try clear hi);(try clear ho0);obtain ⟨Ao32,co32,eo32⟩:=Kd.jM HO293.out;subst eo32;obtain ⟨Ao33,co33,eo33⟩:=Kd.jM HO296.out;subst eo33) |((with_reducible refine jm (f:=10) rfl ?_);refine gL (some 24) Try.func10 #[.agg #[.slice Ao32 t291.length co32], .slice Ao33 t294.length co33] ?_;(with_reducible refine (jLa.calls k _ _ t291 _ _ t294 t297 _ ?side1 ?side2 ?side3 ?side4 A15.out).mono ?_);(case side1=>exact cq (Kd.jv HO293.out).2.2);(case side2=>exact (Kd.jv HO293.out).2.1);(case side3=>exact cq (Kd.jv HO296.out).2.2);(case side4=>exact (Kd.jv HO296.out).2.1);rintro e w34 ⟨rfl,hb⟩;refine ⟨_,rfl,?_⟩;replace HO293:=am (Kd.jG (rq HO293.out) hb);replace HO296:=am (Kd.jG (rq HO296.out) hb);replace BK288:=am (je (g:=gb288) (o:=.cells #[.slice A0_0 l0_0.length c0_0] 24 (0,0)) (kq BK288.out) hb);replace HB:=am (jb (Y21) hb);(try clear hb);(try clear hb2);(try clear hk);(try clear hi);have hcz35_0:=bc0 BK288.out;have hfz35_0:=ja BK288.out 0) |((with_reducible refine jm (f:=11) rfl ?_);refine gL (some 26) Try.func11 #[.agg #[.slice A0_0 l0_0.length c0_0]] ?_;(with_reducible refine (jya.calls k _ _ l0_0 t298 _ ?side1 ?side2 A16.out).mono ?_);(case side1=>exact cq (Kd.jea HR0_0.out HB.out));(case side2=>exact HC0_0.out);rintro e w36 ⟨v299,rfl,ho0,hb⟩;refine ⟨_,rfl,?_⟩;have HO300:=am (Kd.jda (Kd.jec ho0 (Kd.R_lt (rq HO293.out))) (jD (Y21)));replace HO293:=am (Kd.jqb (rq HO293.out) (Kd.jAb ho0) hb);replace HO296:=am (Kd.jG (rq HO296.out) hb);replace BK288:=am (je (g:=gb288) (o:=.cells #[.slice A0_0 l0_0.length c0_0] 24 (0,0)) (kq BK288.out) hb);replace HB:=am (jb (Y21) hb);(try clear hb);(try clear hb2);(try clear hk);(try clear hi);(try clear ho0)) |((with_reducible refine jB (N:=7) rfl ?_);refine bE (N:=7) (cs:=#[.slice none 0 0]) (t:=31) ?_;intro gb301 hg w37 hbox hb;have BK301:=am (hbox);have GW301:=am ((Y142:w.heap.size≤gb301));have GE301:=am ((Y142:w.heap.size≤gb301));have NB288_301:=am ((by rw [hg];exact Nat.ne_of_lt (jX (g:=gb288) (o:=.cells #[.slice A0_0 l0_0.length c0_0] 24 (0,0)) (kq BK288.out)):gb288≠gb301));have NB301_288:=am ((by rw [hg];exact Nat.ne_of_gt (jX (g:=gb288) (o:=.cells #[.slice A0_0 l0_0.length c0_0] 24 (0,0)) (kq BK288.out)):gb301≠gb288));replace HO293:=am (Kd.jG (rq HO293.out) hb);replace HO296:=am (Kd.jG (rq HO296.out) hb);replace HO300:=am (Kd.jG (rq HO300.out) hb);replace BK288:=am (je (g:=gb288) (o:=.cells #[.slice A0_0 l0_0.length c0_0] 24 (0,0)) (kq BK288.out) hb);replace HB:=am (jb (Y21) hb);clear hb hbox hg;obtain ⟨Ao38,co38,eo38⟩:=Kd.jM HO300.out;subst eo38;have hnb39:=NB301_288.out;have hnc39:=NB288_301.out;have hcz40_0:=bc0 BK301.out;have hfz40_0:=ja BK301.out 0) |((with_reducible refine jm (f:=12) rfl ?_);refine gL (some 28) Try.func12 #[.slice A1 l1.length c1] ?_;(with_reducible refine (jK.calls k _ _ l1 t302 _ ?side1 ?side2 A17.out).mono ?_);(case side1=>exact Kd.jea HR1.out (Y29));(case side2=>exact HC1.out);rintro e w41 ⟨v303,rfl,ho0,hb⟩;refine ⟨_,rfl,?_⟩;have HO304:=am (Kd.jda (Kd.jec ho0 (Kd.R_lt (Y143))) (jD (Y29)));replace HO293:=am (Kd.jG (by (with_reducible repeat (first | apply Kd.jka | apply Kd.joa | apply Kd.jua));exact (Kd.jH (Kd.jEa (p:=⟨gb301,0,none⟩) (Kd.jha HO293.out BK301.out (by decide)) (fun _ hk=>hk.2) (.slice Ao38 t298.length co38)) (fun _ h_=>h_.1))) hb);replace HO296:=am (Kd.jqb (Y143) (Kd.jAb ho0) hb);replace HO300:=am (Kd.jG (by (with_reducible repeat (first | apply Kd.jka | apply Kd.joa | apply Kd.jua));exact (Kd.jH (Kd.jEa (p:=⟨gb301,0,none⟩) (Kd.jha HO300.out BK301.out (by decide)) (fun _ hk=>hk.2) (.slice Ao38 t298.length co38)) (fun _ h_=>h_.1))) hb);replace BK288:=am (je (g:=gb288) (o:=.cells #[.slice A0_0 l0_0.length c0_0] 24 (0,0)) (by (with_reducible repeat (first | refine jf ?_ _ | refine ji ?_ | refine jd ?_ _));refine jqa ?_ NB288_301.out _;(with_reducible repeat (first | refine jf ?_ _ | refine ji ?_ | refine jd ?_ _));exact BK288.out) hb);replace BK301:=am (je (g:=gb301) (o:=.cells #[.slice Ao38 t298.length co38] 31 (0,0)) (by (with_reducible repeat (first | refine jf ?_ _ | refine ji ?_ | refine jd ?_ _));refine jna (cs:=#[.slice none 0 0]) ?_ 0 _ rfl;(with_reducible repeat (first | refine jf ?_ _ | refine ji ?_ | refine jd ?_ _));exact BK301.out) hb);replace HB:=am (jb (Y29) hb);(try clear hb);(try clear hb2);(try clear hk);(try clear hi);(try clear ho0);have hcz42_0:=bc0 BK301.out;have hfz42_0:=ja BK301.out 0;obtain ⟨Ao43,co43,eo43⟩:=Kd.jM HO304.out;subst eo43) |((with_reducible refine jm (f:=13) rfl ?_);refine gL (some 31) Try.func13 #[.agg #[.slice Ao38 t298.length co38], .slice Ao43 t302.length co43] ?_;(with_reducible refine (jga.calls k _ _ t298 _ _ t302 t305 _ ?side1 ?side2 ?side3 ?side4 A18.out).mono ?_);(case side1=>exact cq (Kd.jv HO300.out).2.2);(case side2=>exact (Kd.jv HO300.out).2.1);(case side3=>exact cq (Kd.jv HO304.out).2.2);(case side4=>exact (Kd.jv HO304.out).2.1);rintro e w44 ⟨rfl,hb⟩;refine ⟨_,rfl,?_⟩;replace HO293:=am (Kd.jG (rq HO293.out) hb);replace HO296:=am (Kd.jG (rq HO296.out) hb);replace HO300:=am (Kd.jG (rq HO300.out) hb);replace HO304:=am (Kd.jG (rq HO304.out) hb);replace BK288:=am (je (g:=gb288) (o:=.cells #[.slice A0_0 l0_0.length c0_0] 24 (0,0)) (kq BK288.out) hb);replace BK301:=am (je (g:=gb301) (o:=.cells #[.slice Ao38 t298.length co38] 31 (0,0)) (kq BK301.out) hb);replace HB:=am (jb (Y29) hb);(try clear hb);(try clear hb2);(try clear hk);(try clear hi)))
      replace HO293:=am (Kd.jua HO293.out)
      replace HO296:=am (Kd.jua HO296.out)
      replace HO300:=am (Kd.jua HO300.out)
      replace HO304:=am (Kd.jua HO304.out)
      replace BK288:=am (ji BK288.out)
      replace BK301:=am (ji BK301.out)
      replace HB:=am (jq HB.out)
      refine jFc (n:=5) (S:=fun w'=>w'.cell? ⟨gb301,0,none⟩=some (.slice Ao38 t298.length co38)∧w'.cell? ⟨gb288,0,none⟩=some (.slice A0_0 l0_0.length c0_0)) (ds:=[]) #[false,false,false,false,false] (by kernel_rfl) rfl rfl ⟨(jma BK301.out 0).trans rfl,(jma BK288.out 0).trans rfl⟩ (fun hHeld=>?_)
      generalize w44.drew=w45 at HO293 HO296 HO300 HO304 BK288 BK301 HB hHeld ⊢
      refine jbc (i:=0) (N:=some 35) (v:=?_) (a':=?_) #[true,false,false,false,false] rfl rfl (by kernel_rfl) (fun _ _ _ h=>h) (Or.inl ⟨by rfl,?_⟩) hHeld ?_ ?_
      rotate_left
      ·rintro w' ⟨s0,s1⟩
       go_simp
       with_reducible rfl
      rotate_left
      ·exact sa
      refine jbc (i:=1) (N:=some 36) (v:=?_) (a':=?_) #[true,true,false,false,false] rfl rfl (by kernel_rfl) (fun _ _ _ h=>h) (Or.inl ⟨by rfl,?_⟩) hHeld ?_ ?_
      rotate_left
      ·rintro w' ⟨s0,s1⟩
       go_simp
       with_reducible rfl
      rotate_left
      ·exact sa
      refine one_ (i:=2) (N:=some 37) #[true,true,true,false,false] rfl rfl (by kernel_rfl) (by decide) (fun K hK=>?_)
      refine goes_ Try.func11 (by kernel_rfl) rfl #[.agg #[.slice A0_0 l0_0.length c0_0]] (by rfl) rfl rfl (aq) ?_
      with_reducible refine (jya.calls k _ _ l0_0 t306 _ ?side1 ?side2 A20.out).mono ?_
      (case side1=>exact cq (Kd.jea HR0_0.out HB.out))
      (case side2=>exact HC0_0.out)
      rintro e w46 ⟨v307,rfl,ho0,hb⟩
      refine ⟨_,rfl,?_⟩
      have HO308:=am (Kd.jda (Kd.jec (Kd.jec ho0 (Kd.R_lt (rq HO293.out))) (Kd.R_lt (rq HO300.out))) (jD (Y29)))
      replace HO293:=am (Kd.jqb (rq HO293.out) (Kd.jAb ho0) hb)
      replace HO296:=am (Kd.jG (rq HO296.out) hb)
      replace HO300:=am (Kd.jqb (rq HO300.out) (Kd.jAb ho0) hb)
      replace HO304:=am (Kd.jG (rq HO304.out) hb)
      replace BK288:=am (je (g:=gb288) (o:=.cells #[.slice A0_0 l0_0.length c0_0] 24 (0,0)) (kq BK288.out) hb)
      replace BK301:=am (je (g:=gb301) (o:=.cells #[.slice Ao38 t298.length co38] 31 (0,0)) (kq BK301.out) hb)
      replace HB:=am (jb (Y29) hb)
      (try clear hb)
      (try clear hb2)
      (try clear hk)
      (try clear hi)
      (try clear ho0)
      obtain ⟨Ao47,co47,eo47⟩:=Kd.jM HO308.out
      (first | subst eo47 |(injection eo47 with f1_ f2_ f3_;have f4_:=f1_.symm;have f5_:=f3_.symm;clear f1_ f2_ f3_;subst f4_;subst f5_))
      refine hK.out _ _ ⟨(jma BK301.out 0).trans rfl,(jma BK288.out 0).trans rfl⟩ (fun hHeld=>?_)
      clear hK K
      refine jBc (a':=?_) ?_ ?_
      rotate_left
      ·show Act.put _ (some 37) _=_
       simp only [Act.put,List.setIfInBounds_toArray,List.set_cons_zero,List.set_cons_succ,jzb,jCb]
       rfl
      refine one_ (i:=3) (N:=some 38) #[true,true,true,true,false] rfl rfl (by kernel_rfl) (by decide) (fun K hK=>?_)
      refine goes_ Try.func14 (by kernel_rfl) rfl #[.agg #[.slice Ao38 t298.length co38], .agg #[.slice Ao47 t306.length co47]] (by rfl) rfl rfl (aq) ?_
      with_reducible refine (jab.calls k _ _ t298 _ _ t306 true _ ?side1 ?side2 ?side3 ?side4 A21.out).mono ?_
      (case side1=>exact cq (Kd.jv HO300.out).2.2)
      (case side2=>exact (Kd.jv HO300.out).2.1)
      (case side3=>exact cq (Kd.jv HO308.out).2.2)
      (case side4=>exact (Kd.jv HO308.out).2.1)
      rintro e w48 ⟨rfl,hb⟩
      refine ⟨_,rfl,?_⟩
      replace HO293:=am (Kd.jG (rq HO293.out) hb)
      replace HO296:=am (Kd.jG (rq HO296.out) hb)
      replace HO300:=am (Kd.jG (rq HO300.out) hb)
      replace HO304:=am (Kd.jG (rq HO304.out) hb)
      replace HO308:=am (Kd.jG (rq HO308.out) hb)
      replace BK288:=am (je (g:=gb288) (o:=.cells #[.slice A0_0 l0_0.length c0_0] 24 (0,0)) (kq BK288.out) hb)
      replace BK301:=am (je (g:=gb301) (o:=.cells #[.slice Ao38 t298.length co38] 31 (0,0)) (kq BK301.out) hb)
      replace HB:=am (jb (Y29) hb)
      (try clear hb)
      (try clear hb2)
      (try clear hk)
      (try clear hi)
      refine hK.out _ _ ⟨(jma BK301.out 0).trans rfl,(jma BK288.out 0).trans rfl⟩ (fun hHeld=>?_)
      clear hK K
      refine jBc (a':=?_) ?_ ?_
      rotate_left
      ·show Act.put _ (some 38) _=_
       simp only [Act.put,List.setIfInBounds_toArray,List.set_cons_zero,List.set_cons_succ,jzb,jCb]
       rfl
      refine pure_ (i:=4) (N:=some 39) (v:=?_) (a':=?_) #[true,true,true,true,true] rfl rfl (by kernel_rfl) (fun _ _ _ h=>h) (Or.inl ⟨by rfl,?_⟩) ?_ ?_
      rotate_left
      ·exact sb
      rotate_left
      ·exact sa
      refine done_ (by kernel_rfl) ?_
      try go_wp2_with (first |((with_reducible refine jm (f:=12) rfl ?_);refine gL (some 42) Try.func12 #[.slice A1 l1.length c1] ?_;(with_reducible refine (jK.calls k _ _ l1 t310 _ ?side1 ?side2 A23.out).mono ?_);(case side1=>exact cq (Kd.jea HR1.out HB.out));(case side2=>exact HC1.out);rintro e w49 ⟨v311,rfl,ho0,hb⟩;refine ⟨_,rfl,?_⟩;have HO312:=am (Kd.jda (Kd.jec (Kd.jec ho0 (Kd.R_lt (rq HO296.out))) (Kd.R_lt (rq HO304.out))) (jD (Y29)));replace HO293:=am (Kd.jG (rq HO293.out) hb);replace HO296:=am (Kd.jqb (rq HO296.out) (Kd.jAb ho0) hb);replace HO300:=am (Kd.jG (rq HO300.out) hb);replace HO304:=am (Kd.jqb (rq HO304.out) (Kd.jAb ho0) hb);replace HO308:=am (Kd.jG (rq HO308.out) hb);replace BK288:=am (je (g:=gb288) (o:=.cells #[.slice A0_0 l0_0.length c0_0] 24 (0,0)) (kq BK288.out) hb);replace BK301:=am (je (g:=gb301) (o:=.cells #[.slice Ao38 t298.length co38] 31 (0,0)) (kq BK301.out) hb);replace HB:=am (jb (Y29) hb);(try clear hb);(try clear hb2);(try clear hk);(try clear hi);(try clear ho0);obtain ⟨Ao50,co50,eo50⟩:=Kd.jM HO312.out;subst eo50) |((with_reducible refine jm (f:=15) rfl ?_);refine gL (some 43) Try.func15 #[.slice Ao43 t302.length co43, .slice Ao50 t310.length co50] ?_;(with_reducible refine (jT.calls k _ _ t302 _ _ t310 true _ ?side1 ?side2 ?side3 ?side4 A24.out).mono ?_);(case side1=>exact cq (Kd.jv HO304.out).2.2);(case side2=>exact (Kd.jv HO304.out).2.1);(case side3=>exact cq (Kd.jv HO312.out).2.2);(case side4=>exact (Kd.jv HO312.out).2.1);rintro e w51 ⟨rfl,hb⟩;refine ⟨_,rfl,?_⟩;replace HO293:=am (Kd.jG (rq HO293.out) hb);replace HO296:=am (Kd.jG (rq HO296.out) hb);replace HO300:=am (Kd.jG (rq HO300.out) hb);replace HO304:=am (Kd.jG (rq HO304.out) hb);replace HO308:=am (Kd.jG (rq HO308.out) hb);replace HO312:=am (Kd.jG (rq HO312.out) hb);replace BK288:=am (je (g:=gb288) (o:=.cells #[.slice A0_0 l0_0.length c0_0] 24 (0,0)) (kq BK288.out) hb);replace BK301:=am (je (g:=gb301) (o:=.cells #[.slice Ao38 t298.length co38] 31 (0,0)) (kq BK301.out) hb);replace HB:=am (jb (Y29) hb);(try clear hb);(try clear hb2);(try clear hk);(try clear hi)))
      go_ret
      exact ⟨Y0,Y29⟩
     ·replace c25:=Bool.eq_false_iff.mpr c25
      subst c25
      have H1:(some false)=some r:=by rw [if_neg (show ¬ (false=true) by decide)] at H;exact H
      clear H
      have H:=H1
      clear H1
      exact absurd ((Option.some.inj H).trans hT) Bool.false_ne_true
    ·replace c22:=Bool.eq_false_iff.mpr c22
     subst c22
     have H1:(some false)=some r:=by rw [if_neg (show ¬ (false=true) by decide)] at H;exact H
     clear H
     have H:=H1
     clear H1
     exact absurd ((Option.some.inj H).trans hT) Bool.false_ne_true
end Go.Proofs.Ytlhfcmbkjddgiaa.P
end
