/- One part of the proofs on this program: functions of the program as plain functions, that the code comes to them, and facts on them. -/
import Derived.Test.YtegpknnlggkcpaaDoorYAll1
import Derived.Test.YtegpknnlggkcpaaDoorYAll2
import Derived.Test.YtegpknnlggkcpaaDoorYWAuto
section
namespace Go.Proofs.YtegpknnlggkcpaaDoor.P
open Go.RowKit Go.Proofs.YtegpknnlggkcpaaDoorW.PrintWords Go.Proofs.YtegpknnlggkcpaaDoorW.PrintLast Go.Proofs.YtegpknnlggkcpaaDoorW.PrintMore
attribute [local go_sem] jaa jY jna jma jR jQ jZ jX jh
set_option linter.unusedVariables false
set_option linter.unusedSimpArgs false
def jwa.f (k : Nat) (l0_0 : List (S63)) (l1 : List (S42)) : Option (ByteArray) := (jG.f k l0_0 l1).bind fun t167 => (if t167 = true then ((jr.f k l0_0 l1).bind fun t168 => (some t168)) else (some (⟨#[]⟩ : ByteArray)))
set_option maxHeartbeats 8000000 in
set_option maxRecDepth 100000 in
theorem jwa.calls (k : Nat) (A0_0 : Option Addr) (c0_0 : Nat) (l0_0 : List (S63)) (A1 : Option Addr) (c1 : Nat) (l1 : List (S42)) (r : ByteArray) (w : World) (hr0_0 : Kd.C k63 w A0_0 l0_0.length l0_0) (hc0_0 : l0_0.length ≤ c0_0) (hr1 : Kd.C k42 w A1 l1.length l1) (hc1 : l1.length ≤ c1) (h : jwa.f k l0_0 l1 = some r) :
  Calls Tryd.prog 6 #[.agg #[.slice A0_0 l0_0.length c0_0], .slice A1 l1.length c1] w fun e w'=>e=.returned (.string r)∧Below w.heap.size w w':=by
 have hu31:=Tryd.underlying31
 have HR0_0:=am hr0_0
 have HC0_0:=am hc0_0
 clear hr0_0 hc0_0
 have HR1:=am hr1
 have HC1:=am hc1
 clear hr1 hc1
 have HB:=am (Below.refl w.heap.size w)
 have H:((jG.f k l0_0 l1).bind fun t167=>(if t167=true then ((jr.f k l0_0 l1).bind fun t168=>(some t168)) else (some (⟨#[]⟩:ByteArray))))=some r:=h
 clear h
 replace H:=bzS H
 obtain ⟨t167,A30,H⟩:=H
 replace H:(if t167=true then ((jr.f k l0_0 l1).bind fun t168=>(some t168)) else (some (⟨#[]⟩:ByteArray)))=some r:=H
 have A3:=am A30
 clear A30
 by_cases c4:t167=true
 ·subst c4
  have H1:((jr.f k l0_0 l1).bind fun t168=>(some t168))=some r:=by rw [if_pos rfl] at H;exact H
  clear H
  have H:=H1
  clear H1
  replace H:=bzS H
  obtain ⟨t168,A50,H⟩:=H
  replace H:(some t168)=some r:=H
  have A5:=am A50
  clear A50
  obtain rfl:=Option.some.inj H
  go_enter Tryd.func6,Tryd.ntmps6
  go_wp2_with (first |((with_reducible refine jN (N:=2) rfl ?_);refine bE (N:=2) (cs:=#[.slice A0_0 l0_0.length c0_0]) (t:=31) ?_;intro gb166 hg w6 hbox hb;have BK166:=am (hbox);have GW166:=am ((Y1:w.heap.size≤gb166));have GE166:=am ((Y1:w.heap.size≤gb166));replace HB:=am (jc (bq) hb);clear hb hbox hg;have hcz7_0:=bc0 BK166.out;have hfz7_0:=ja BK166.out 0) |((with_reducible refine jf (f:=13) rfl ?_);refine gL (some 7) Tryd.func13 #[.agg #[.slice A0_0 l0_0.length c0_0], .slice A1 l1.length c1] ?_;(with_reducible refine (jG.calls k _ _ l0_0 _ _ l1 true _ ?side1 ?side2 ?side3 ?side4 A3.out).mono ?_);(case side1=>exact cq (Kd.jH HR0_0.out HB.out));(case side2=>exact HC0_0.out);(case side3=>exact cq (Kd.jH HR1.out HB.out));(case side4=>exact HC1.out);rintro e w8 ⟨rfl,hb⟩;refine ⟨_,rfl,?_⟩;replace BK166:=am (ji (g:=gb166) (o:=.cells #[.slice A0_0 l0_0.length c0_0] 31 (0,0)) (kq BK166.out) hb);replace HB:=am (jc (Y18) hb);(try clear hb);(try clear hb2);(try clear hk);(try clear hi);have hcz9_0:=bc0 BK166.out;have hfz9_0:=ja BK166.out 0) |((with_reducible refine jf (f:=14) rfl ?_);refine gL (some 11) Tryd.func14 #[.agg #[.slice A0_0 l0_0.length c0_0], .slice A1 l1.length c1] ?_;(with_reducible refine (jr.calls k _ _ l0_0 _ _ l1 t168 _ ?side1 ?side2 ?side3 ?side4 A5.out).mono ?_);(case side1=>exact cq (Kd.jH HR0_0.out HB.out));(case side2=>exact HC0_0.out);(case side3=>exact cq (Kd.jH HR1.out HB.out));(case side4=>exact HC1.out);rintro e w10 ⟨rfl,hb⟩;refine ⟨_,rfl,?_⟩;replace BK166:=am (ji (g:=gb166) (o:=.cells #[.slice A0_0 l0_0.length c0_0] 31 (0,0)) (kq BK166.out) hb);replace HB:=am (jc (Y18) hb);(try clear hb);(try clear hb2);(try clear hk);(try clear hi)))
  go_ret
  exact ⟨Y0,Y18⟩
 ·replace c4:=Bool.eq_false_iff.mpr c4
  subst c4
  have H1:(some (⟨#[]⟩:ByteArray))=some r:=by rw [if_neg (show ¬ (false=true) by decide)] at H;exact H
  clear H
  have H:=H1
  clear H1
  obtain rfl:=Option.some.inj H
  go_enter Tryd.func6,Tryd.ntmps6
  go_wp2_with (first |((with_reducible refine jN (N:=2) rfl ?_);refine bE (N:=2) (cs:=#[.slice A0_0 l0_0.length c0_0]) (t:=31) ?_;intro gb166 hg w11 hbox hb;have BK166:=am (hbox);have GW166:=am ((Y1:w.heap.size≤gb166));have GE166:=am ((Y1:w.heap.size≤gb166));replace HB:=am (jc (bq) hb);clear hb hbox hg;have hcz12_0:=bc0 BK166.out;have hfz12_0:=ja BK166.out 0) |((with_reducible refine jf (f:=13) rfl ?_);refine gL (some 7) Tryd.func13 #[.agg #[.slice A0_0 l0_0.length c0_0], .slice A1 l1.length c1] ?_;(with_reducible refine (jG.calls k _ _ l0_0 _ _ l1 false _ ?side1 ?side2 ?side3 ?side4 A3.out).mono ?_);(case side1=>exact cq (Kd.jH HR0_0.out HB.out));(case side2=>exact HC0_0.out);(case side3=>exact cq (Kd.jH HR1.out HB.out));(case side4=>exact HC1.out);rintro e w13 ⟨rfl,hb⟩;refine ⟨_,rfl,?_⟩;replace BK166:=am (ji (g:=gb166) (o:=.cells #[.slice A0_0 l0_0.length c0_0] 31 (0,0)) (kq BK166.out) hb);replace HB:=am (jc (Y18) hb);(try clear hb);(try clear hb2);(try clear hk);(try clear hi)))
  go_ret
  exact ⟨Y0,Y18⟩
def jtb.f (a0_0 : ByteArray) (a0_1 : Int) : Option (ByteArray × Int) := some (a0_0, a0_1)
set_option maxHeartbeats 8000000 in
set_option maxRecDepth 100000 in
theorem jtb.calls (a0_0 : ByteArray) (a0_1 : Int) (r1 : ByteArray) (r2 : Int) (w : World) (h : jtb.f a0_0 a0_1 = some (r1, r2)) :
  Calls Tryd.prog 27 #[.agg #[.string a0_0, .int .i64 a0_1]] w fun e w'=>e=.returned (.agg #[.string r1, .int .i64 r2])∧Below w.heap.size w w':=by
 have hu59:=Tryd.underlying59
 have hu63:=Tryd.underlying63
 have HB:=am (Below.refl w.heap.size w)
 have H:(some (a0_0,a0_1))=some (r1,r2):=h
 clear h
 simp only [Option.some.injEq,Prod.mk.injEq] at H
 obtain ⟨rfl,rfl⟩:=H
 go_enter Tryd.func27,Tryd.ntmps27
 go_wp2_with (first |((with_reducible refine jN (N:=1) rfl ?_);refine bE (N:=1) (cs:=#[.string a0_0, .int .i64 a0_1]) (t:=59) ?_;intro gb169 hg w2 hbox hb;have BK169:=am (hbox);have GW169:=am ((Y1:w.heap.size≤gb169));have GE169:=am ((Y1:w.heap.size≤gb169));replace HB:=am (jc (bq) hb);clear hb hbox hg) |((with_reducible refine jN (N:=2) rfl ?_);refine bE (N:=2) (cs:=#[.string (⟨#[]⟩:ByteArray), .int .i64 0]) (t:=63) ?_;intro gb170 hg w3 hbox hb;have BK170:=am (hbox);have GW170:=am ((Y36:w.heap.size≤gb170));have GE170:=am ((Y36:w.heap.size≤gb170));have NB169_170:=am ((by rw [hg];exact Nat.ne_of_lt (jEa (g:=gb169) (o:=.cells #[.string a0_0, .int .i64 a0_1] 59 (0,0)) (kq BK169.out)):gb169≠gb170));have NB170_169:=am ((by rw [hg];exact Nat.ne_of_gt (jEa (g:=gb169) (o:=.cells #[.string a0_0, .int .i64 a0_1] 59 (0,0)) (kq BK169.out)):gb170≠gb169));replace BK169:=am (ji (g:=gb169) (o:=.cells #[.string a0_0, .int .i64 a0_1] 59 (0,0)) (kq BK169.out) hb);replace HB:=am (jc (by repeat (first |(with_reducible first | exact HB.out | apply jA | apply je | apply jy | refine jB ?_ GE169.out) | exact HB.out)) hb);clear hb hbox hg) |((with_reducible refine jN (N:=3) rfl ?_);refine bE (N:=3) (cs:=#[.string (⟨#[]⟩:ByteArray), .int .i64 0]) (t:=63) ?_;intro gb171 hg w4 hbox hb;have BK171:=am (hbox);have GW171:=am ((Y37:w.heap.size≤gb171));have GE171:=am ((Y37:w.heap.size≤gb171));have NB169_171:=am ((by rw [hg];exact Nat.ne_of_lt (jEa (g:=gb169) (o:=.cells #[.string a0_0, .int .i64 a0_1] 59 (0,0)) (kq BK169.out)):gb169≠gb171));have NB171_169:=am ((by rw [hg];exact Nat.ne_of_gt (jEa (g:=gb169) (o:=.cells #[.string a0_0, .int .i64 a0_1] 59 (0,0)) (kq BK169.out)):gb171≠gb169));have NB170_171:=am ((by rw [hg];exact Nat.ne_of_lt (jEa (g:=gb170) (o:=.cells #[.string (⟨#[]⟩:ByteArray), .int .i64 0] 63 (0,0)) (kq BK170.out)):gb170≠gb171));have NB171_170:=am ((by rw [hg];exact Nat.ne_of_gt (jEa (g:=gb170) (o:=.cells #[.string (⟨#[]⟩:ByteArray), .int .i64 0] 63 (0,0)) (kq BK170.out)):gb171≠gb170));replace BK169:=am (ji (g:=gb169) (o:=.cells #[.string a0_0, .int .i64 a0_1] 59 (0,0)) (kq BK169.out) hb);replace BK170:=am (ji (g:=gb170) (o:=.cells #[.string (⟨#[]⟩:ByteArray), .int .i64 0] 63 (0,0)) (kq BK170.out) hb);replace HB:=am (jc (by repeat (first |(with_reducible first | exact HB.out | apply jA | apply je | apply jy | refine jB ?_ GE169.out | refine jB ?_ GE170.out) | exact HB.out)) hb);clear hb hbox hg;have hnb5:=NB169_170.out;have hnc5:=NB170_169.out;have hnb6:=NB169_171.out;have hnc6:=NB171_169.out;have hcz7_0:=bc0 BK169.out;have hcz7_1:=bc1 BK169.out;have hfz7_0:=ja BK169.out 0;have hfz7_1:=ja BK169.out 1;have hnb8:=NB171_170.out;have hnc8:=NB170_171.out;have hcz9_0:=bc0 BK171.out;have hcz9_1:=bc1 BK171.out;have hfz9_0:=ja BK171.out 0;have hfz9_1:=ja BK171.out 1;have hcz10_0:=bc0 BK170.out;have hcz10_1:=bc1 BK170.out;have hfz10_0:=ja BK170.out 0;have hfz10_1:=ja BK170.out 1))
 refine bodyPost_ret (results_cell_row rfl _ _ gb170 63 #[.string a0_0, .int .i64 a0_1] (0,0) _ rfl (by (with_reducible repeat (first | refine jO ?_ _ | refine jI ?_ | refine jJ ?_ _));refine jjb (cs:=#[.string a0_0, .int .i64 0]) ?_ 1 _ rfl;(with_reducible repeat (first | refine jO ?_ _ | refine jI ?_ | refine jJ ?_ _));refine jjb (cs:=#[.string (⟨#[]⟩:ByteArray), .int .i64 0]) ?_ 0 _ rfl;(with_reducible repeat (first | refine jO ?_ _ | refine jI ?_ | refine jJ ?_ _));refine jkb ?_ NB170_171.out _;(with_reducible repeat (first | refine jO ?_ _ | refine jI ?_ | refine jJ ?_ _));refine jkb ?_ NB170_171.out _;(with_reducible repeat (first | refine jO ?_ _ | refine jI ?_ | refine jJ ?_ _));exact BK170.out) Tryd.underlying63 rfl (by kernel_rfl)) rfl ?_
 exact ⟨Y0,by repeat (first |(with_reducible first | exact HB.out | apply jA | apply je | apply jy | refine jB ?_ GE169.out | refine jB ?_ GE170.out | refine jB ?_ GE171.out) | exact HB.out)⟩
def jda.l0 : Nat → List (S59) → List (S63) → Int → Option ((List (S63)))
 | 0,_,_,_=>none
 | k+1,x0,x3,x4=>if x4<(x0.length:Int) then (if 0≤x4 then ((jtb.f ((jdb x0 x4).f0) ((jdb x0 x4).f1)).bind fun bt176=>(if x4<(x3.length:Int) then (jda.l0 k x0 (x3.set (x4:Int).toNat (⟨bt176.1,bt176.2⟩:S63)) (wrap64 (x4+1))) else (none))) else (none)) else (some x3)
def jda.f (k : Nat) (l0 : List (S59)) : Option ((List (S63))) := if 0 ≤ (l0.length : Int) then (if ((l0.length : Int) : Int).toNat ≤ 11728124029610 then (jda.l0 k l0 (List.replicate ((l0.length : Int) : Int).toNat z63) 0) else (none)) else (none)
set_option maxHeartbeats 8000000 in
set_option maxRecDepth 100000 in
theorem jda.calls (k : Nat) (A0 : Option Addr) (c0 : Nat) (l0 : List (S59)) (r : List (S63)) (w : World) (hr0 : Kd.C k59 w A0 l0.length l0) (hc0 : l0.length ≤ c0) (h : jda.f k l0 = some r) :
  Calls Tryd.prog 15 #[.slice A0 l0.length c0] w fun e w'=>∃ v0_:Value,e=.returned (v0_)∧Kd.R k63 63 w' w.heap.size (fun _=>True) v0_ r∧Below w.heap.size w w':=by
 have hu59:=Tryd.underlying59
 have hu63:=Tryd.underlying63
 have HR0:=am hr0
 have HC0:=am hc0
 clear hr0 hc0
 have HB:=am (Below.refl w.heap.size w)
 have H:(if 0≤(l0.length:Int) then (if ((l0.length:Int):Int).toNat≤11728124029610 then (jda.l0 k l0 (List.replicate ((l0.length:Int):Int).toNat z63) 0) else (none)) else (none))=some r:=h
 clear h
 by_cases c2:0≤(l0.length:Int)
 ·rw [if_pos c2] at H
  have c2b0:=ezT c2
  have c2b1:decide (0≤(l0.length:Int))=true:=dzT c2
  clear c2
  by_cases c3:((l0.length:Int):Int).toNat≤11728124029610
  ·rw [if_pos c3] at H
   have c3b0:=ezT c3
   have c3b1:decide (((l0.length:Int):Int).toNat≤11728124029610)=true:=dzT c3
   clear c3
   obtain ⟨y172,hy172⟩:∃ y_:List (S63),y_=(List.replicate ((l0.length:Int):Int).toNat z63):=⟨_,rfl⟩
   replace H:(jda.l0 k l0 y172 0)=some r:=by first |(rw [hy172];with_reducible exact H) |(have H2_:=(Option.bind_some _ _).symm.trans H;rw [hy172];with_reducible exact H2_) |(have H2_:=(Option.bind_some _ _).symm.trans H;with_reducible exact H2_) | with_reducible exact H |(rw [hy172];exact H) | exact H
   have Ny172:=am hy172
   clear hy172
   have H':=am H
   clear H
   go_enter Tryd.func15,Tryd.ntmps15
   go_wp2_with (first |((with_reducible refine jN (N:=7) rfl ?_);refine Kd.R_make k63 _ 63 rfl (N:=7) rfl 29 _ _ rfl (l0.length:Int) rfl rfl Tryd.underlying29 (.agg #[(.string ⟨#[]⟩),(.int .i64 0)]) 24 info63 rfl (by decide) (by omega) z63 (ok:=fun _=>True) (okp:=fun _=>True) (k63_mkM _ _ _ z63 ) (fun _ hk=>hk) trivial (ozD (uq)) (Nat.le_trans (Nat.mul_le_mul_right _ (ozD (uq):(l0.length:Int).toNat≤11728124029610)) (by omega)) (Below.refl _ _) (Nat.le_refl _) ?_;intro v173 w4 ho5 hb hg_ hnew_;clear hg_ hnew_;(first | rw [← Ny172.out] at ho5 |(simp only [Int.reduceToNat] at ho5;rw [← Ny172.out] at ho5));have HO174:=am (Kd.jRa ho5 (jP (bq)));replace HB:=am (jc (bq) hb);clear hb ho5))
   go_loopg [4] k (fun kq v4 w'=>∃ (x3_1:List (S63)) (x4_1:Int),v4=.int .i64 x4_1∧jD (jda.l0 kq l0 x3_1 x4_1=some r)∧jD (kq≤k)∧jD (Kd.R k63 63 w' w.heap.size (fun _=>True) v173 x3_1)∧jD (Below w.heap.size w w'))
   case atStart=>exact ⟨(y172),(0),(sq),H',⟨Nat.le_refl _⟩,⟨rq HO174.out⟩,⟨bq⟩⟩
   case round =>
    clear H'
    try clear c1
    try clear c2
    try clear c2b0
    try clear c2b1
    try clear p2
    try clear c3
    try clear c3b0
    try clear c3b1
    obtain ⟨x3_1,x4_1,rfl,HA,HK1,HO_3,HB⟩:=hrel
    cases gk with
    | zero=>exact absurd HA.out (by simp [jda.l0])
    | succ k1 =>
     have H:=HA.out
     clear HA
     simp only [jda.l0] at H
     by_cases c6:x4_1<(l0.length:Int)
     ·rw [if_pos c6] at H
      have c6b0:decide (x4_1<(l0.length:Int))=true:=dzT c6
      clear c6
      by_cases c7:0≤x4_1
      ·rw [if_pos c7] at H
       have c7b0:decide (0≤x4_1)=true:=dzT c7
       clear c7
       replace H:=bzS H
       obtain ⟨⟨t176,t177⟩,A80,H⟩:=H
       replace H:(if x4_1<(x3_1.length:Int) then (jda.l0 k1 l0 (x3_1.set (x4_1:Int).toNat (⟨t176,t177⟩:S63)) (wrap64 (x4_1+1))) else (none))=some r:=H
       have A8:=am A80
       clear A80
       by_cases c9:x4_1<(x3_1.length:Int)
       ·rw [if_pos c9] at H
        have c9b0:decide (x4_1<(x3_1.length:Int))=true:=dzT c9
        clear c9
        obtain ⟨y178,hy178⟩:∃ y_:List (S63),y_=(x3_1.set (x4_1:Int).toNat (⟨t176,t177⟩:S63)):=⟨_,rfl⟩
        replace H:(jda.l0 k1 l0 y178 (wrap64 (x4_1+1)))=some r:=by first |(rw [hy178];with_reducible exact H) |(have H2_:=(Option.bind_some _ _).symm.trans H;rw [hy178];with_reducible exact H2_) |(have H2_:=(Option.bind_some _ _).symm.trans H;with_reducible exact H2_) | with_reducible exact H |(rw [hy178];exact H) | exact H
        have Ny178:=am hy178
        clear hy178
        have H':=am H
        clear H
        have p175:0≤(x4_1:Int):=ozD (uq)
        have q175:x4_1<(l0.length:Int):=ozD (uq)
        obtain ⟨ad175,e175,hx175_0,hx175_1⟩:=at_T59 HR0.out x4_1 p175 q175
        cases e175
        replace hx175_0:=cb HB.out hx175_0
        replace hx175_1:=cb HB.out hx175_1
        replace p175:=ezT p175
        replace q175:=ezT q175
        go_wp2_with (first |((with_reducible refine jf (f:=27) rfl ?_);refine gL (some 20) Tryd.func27 #[.agg #[.string ((jdb l0 x4_1).f0), .int .i64 ((jdb l0 x4_1).f1)]] ?_;(with_reducible refine (jtb.calls ((jdb l0 x4_1).f0) ((jdb l0 x4_1).f1) t176 t177 _ A8.out).mono ?_);rintro e w11 ⟨rfl,hb⟩;refine ⟨_,rfl,?_⟩;replace HO_3:=am (Kd.jqa (rq HO_3.out) hb);replace HB:=am (jc (bq) hb);(try clear hb);(try clear hb2);(try clear hk);(try clear hi);have p10:0≤(x4_1:Int):=ozD (uq);have q10:(x4_1:Int)<((x3_1.length:Int):Int):=ozD (uq);obtain ⟨go10,co10,eo10,gb10,gl10,cl10,HG10⟩:=Kd.R_form HO_3.out (by omega);(first | cases eo10 |(injection eo10 with ea_ en_ ec_;(first | subst ea_ |(injection ea_ with ea_;subst ea_));subst ec_;clear en_));have GB10:=am gb10;have GG10:=am HG10;clear gb10 gl10 HG10;obtain ⟨ce10,hcl10,hM10,hcc10,hfr10⟩:=Kd.R_elem HO_3.out z63 (x4_1:Int) p10 q10;obtain rfl:=k63_openM hM10;have hx10_0:w11.cell? ⟨go10,(x4_1:Int).toNat * 2,none⟩=some (.string ((jE x3_1 x4_1).f0)):=hcc10 0 _ rfl;have hx10_1:w11.cell? ⟨go10,(x4_1:Int).toNat * 2+1,none⟩=some (.int .i64 ((jE x3_1 x4_1).f1)):=hcc10 1 _ rfl;have hf10_0:w11.frozen? ⟨go10,(x4_1:Int).toNat * 2,none⟩=false:=hfr10 0;have hf10_1:w11.frozen? ⟨go10,(x4_1:Int).toNat * 2+1,none⟩=false:=hfr10 1;clear hcl10 hcc10 hfr10 hM10;replace p10:=ezT p10;replace q10:=ezT q10;have HX12:=am (show Kd.R k63 63 w11 w.heap.size (fun _=>True) (.slice (some ⟨go10,0,none⟩) x3_1.length co10) x3_1 from (rq HO_3.out));obtain ⟨ce12,hcl12,hM12,hcc12,hfr12⟩:=Kd.R_elem HX12.out z63 (x4_1:Int) (ozD (uq)) (by have h_:(x4_1:Int)<((x3_1.length:Int):Int):=ozD (uq);first | exact h_ |(have e_:=(Kd.jT HO_3.out).1;omega) | simpa using h_);obtain rfl:=k63_openM hM12;have HP12:=Kd.R_seg HX12.out (x4_1:Int) (ozD (uq)) (by have h_:(x4_1:Int)<((x3_1.length:Int):Int):=ozD (uq);first | exact h_ |(have e_:=(Kd.jT HO_3.out).1;omega) | simpa using h_) (seg:=[.string t176, .int .i64 t177]) (j:=0) hcl12 hcc12 (show 2≤2 from by decide) (x':=(⟨t176,t177⟩:S63)) (k63_mkM _ _ _ (⟨t176,t177⟩:S63) ) (fun _ hk=>hk);have hx12_0:=hcc12 0 _ rfl;(try simp only [show (k63).sz=2 from rfl,Nat.mul_one,Nat.add_zero] at hx12_0);have hf12_0:=hfr12 0;(try simp only [show (k63).sz=2 from rfl,Nat.mul_one,Nat.add_zero] at hf12_0);have hx12_1:=hcc12 1 _ rfl;(try simp only [show (k63).sz=2 from rfl,Nat.mul_one,Nat.add_zero] at hx12_1);have hf12_1:=hfr12 1;(try simp only [show (k63).sz=2 from rfl,Nat.mul_one,Nat.add_zero] at hf12_1);clear hcl12 hcc12 hfr12 hM12) |((with_reducible refine gate_store (t:=63) (p:=21) rfl ?_);refine store_event (t:=63) (p:=21) (v:=?vo_w13) (w1:=((w11.setCell ⟨go10,(x4_1:Int).toNat * 2,none⟩ (.string t176)).setCell ⟨go10,(x4_1:Int).toNat * 2+1,none⟩ (.int .i64 t177))) ?hg ?ho ?hn ?hr ?_;(case ho=>rfl);(case hg=>rfl);(case hn=>rfl);(case hr=>exact Y11);intro w13 hw;have hg:w11.grownBy w13 (some go10):=(by rw [hw];exact HP12.2);have hp_:Kd.R k63 63 w13 w.heap.size (fun _=>True) (.slice (some ⟨go10,0,none⟩) x3_1.length co10) y178:=(by rw [hw,Ny178.out];exact HP12.1);clear HP12;replace HO_3:=am (hp_);replace HB:=am ((by rw [hw];exact jB (jB (HB.out) GB10.out) GB10.out:Below w.heap.size w w13));clear hg hw hp_))
        go_roundg k1
        case measure=>have:=HK1.out;omega
        case rel=>exact ⟨(y178),(wrap64 (x4_1+1)),(sq),H',⟨by have:=HK1.out;omega⟩,⟨rq HO_3.out⟩,⟨bq⟩⟩
       ·rw [if_neg c9] at H
        exact absurd H (by simp)
      ·rw [if_neg c7] at H
       exact absurd H (by simp)
     ·rw [if_neg c6] at H
      have c6b0:decide (x4_1<(l0.length:Int))=false:=dzF c6
      clear c6
      obtain rfl:=Option.some.inj H
      go_wp2
      go_ret
      exact ⟨_,Y0,rq HO_3.out,bq⟩
  ·rw [if_neg c3] at H
   exact absurd H (by simp)
 ·rw [if_neg c2] at H
  exact absurd H (by simp)
def jca.f (k : Nat) (l0_0 : List (S59)) : Option ((List (S63))) := (jda.f k l0_0).bind fun t182 => (some t182)
set_option maxHeartbeats 8000000 in
set_option maxRecDepth 100000 in
theorem jca.calls (k : Nat) (A0_0 : Option Addr) (c0_0 : Nat) (l0_0 : List (S59)) (r : List (S63)) (w : World) (hr0_0 : Kd.C k59 w A0_0 l0_0.length l0_0) (hc0_0 : l0_0.length ≤ c0_0) (h : jca.f k l0_0 = some r) :
  Calls Tryd.prog 7 #[.agg #[.slice A0_0 l0_0.length c0_0]] w fun e w'=>∃ v0_:Value,e=.returned (.agg #[v0_])∧Kd.R k63 63 w' w.heap.size (fun _=>True) v0_ r∧Below w.heap.size w w':=by
 have hu24:=Tryd.underlying24
 have hu31:=Tryd.underlying31
 have HR0_0:=am hr0_0
 have HC0_0:=am hc0_0
 clear hr0_0 hc0_0
 have HB:=am (Below.refl w.heap.size w)
 have H:((jda.f k l0_0).bind fun t182=>(some t182))=some r:=h
 clear h
 replace H:=bzS H
 obtain ⟨t182,A20,H⟩:=H
 replace H:(some t182)=some r:=H
 have A2:=am A20
 clear A20
 obtain rfl:=Option.some.inj H
 go_enter Tryd.func7,Tryd.ntmps7
 go_wp2_with (first |((with_reducible refine jN (N:=1) rfl ?_);refine bE (N:=1) (cs:=#[.slice A0_0 l0_0.length c0_0]) (t:=24) ?_;intro gb179 hg w3 hbox hb;have BK179:=am (hbox);have GW179:=am ((Y1:w.heap.size≤gb179));have GE179:=am ((Y1:w.heap.size≤gb179));replace HB:=am (jc (bq) hb);clear hb hbox hg) |((with_reducible refine jN (N:=2) rfl ?_);refine bE (N:=2) (cs:=#[.slice none 0 0]) (t:=31) ?_;intro gb180 hg w4 hbox hb;have BK180:=am (hbox);have GW180:=am ((Y38:w.heap.size≤gb180));have GE180:=am ((Y38:w.heap.size≤gb180));have NB179_180:=am ((by rw [hg];exact Nat.ne_of_lt (jEa (g:=gb179) (o:=.cells #[.slice A0_0 l0_0.length c0_0] 24 (0,0)) (kq BK179.out)):gb179≠gb180));have NB180_179:=am ((by rw [hg];exact Nat.ne_of_gt (jEa (g:=gb179) (o:=.cells #[.slice A0_0 l0_0.length c0_0] 24 (0,0)) (kq BK179.out)):gb180≠gb179));replace BK179:=am (ji (g:=gb179) (o:=.cells #[.slice A0_0 l0_0.length c0_0] 24 (0,0)) (kq BK179.out) hb);replace HB:=am (jc (by repeat (first |(with_reducible first | exact HB.out | apply jA | apply je | apply jy | refine jB ?_ GE179.out) | exact HB.out)) hb);clear hb hbox hg) |((with_reducible refine jN (N:=3) rfl ?_);refine bE (N:=3) (cs:=#[.slice none 0 0]) (t:=31) ?_;intro gb181 hg w5 hbox hb;have BK181:=am (hbox);have GW181:=am ((Y39:w.heap.size≤gb181));have GE181:=am ((Y39:w.heap.size≤gb181));have NB179_181:=am ((by rw [hg];exact Nat.ne_of_lt (jEa (g:=gb179) (o:=.cells #[.slice A0_0 l0_0.length c0_0] 24 (0,0)) (kq BK179.out)):gb179≠gb181));have NB181_179:=am ((by rw [hg];exact Nat.ne_of_gt (jEa (g:=gb179) (o:=.cells #[.slice A0_0 l0_0.length c0_0] 24 (0,0)) (kq BK179.out)):gb181≠gb179));have NB180_181:=am ((by rw [hg];exact Nat.ne_of_lt (jEa (g:=gb180) (o:=.cells #[.slice none 0 0] 31 (0,0)) (kq BK180.out)):gb180≠gb181));have NB181_180:=am ((by rw [hg];exact Nat.ne_of_gt (jEa (g:=gb180) (o:=.cells #[.slice none 0 0] 31 (0,0)) (kq BK180.out)):gb181≠gb180));replace BK179:=am (ji (g:=gb179) (o:=.cells #[.slice A0_0 l0_0.length c0_0] 24 (0,0)) (kq BK179.out) hb);replace BK180:=am (ji (g:=gb180) (o:=.cells #[.slice none 0 0] 31 (0,0)) (kq BK180.out) hb);replace HB:=am (jc (by repeat (first |(with_reducible first | exact HB.out | apply jA | apply je | apply jy | refine jB ?_ GE179.out | refine jB ?_ GE180.out) | exact HB.out)) hb);clear hb hbox hg;have hnb6:=NB179_180.out;have hnc6:=NB180_179.out;have hnb7:=NB179_181.out;have hnc7:=NB181_179.out;have hcz8_0:=bc0 BK179.out;have hfz8_0:=ja BK179.out 0) |((with_reducible refine jf (f:=15) rfl ?_);refine gL (some 6) Tryd.func15 #[.slice A0_0 l0_0.length c0_0] ?_;(with_reducible refine (jda.calls k _ _ l0_0 t182 _ ?side1 ?side2 A2.out).mono ?_);(case side1=>exact cq (Kd.jH HR0_0.out HB.out));(case side2=>exact HC0_0.out);rintro e w9 ⟨v183,rfl,ho0,hb⟩;refine ⟨_,rfl,?_⟩;have HO184:=am (Kd.jRa ho0 (jP (Y27)));replace BK179:=am (ji (g:=gb179) (o:=.cells #[.slice A0_0 l0_0.length c0_0] 24 (0,0)) (kq BK179.out) hb);replace BK180:=am (ji (g:=gb180) (o:=.cells #[.slice none 0 0] 31 (0,0)) (kq BK180.out) hb);replace BK181:=am (ji (g:=gb181) (o:=.cells #[.slice none 0 0] 31 (0,0)) (kq BK181.out) hb);replace HB:=am (jc (Y27) hb);(try clear hb);(try clear hb2);(try clear hk);(try clear hi);(try clear ho0);obtain ⟨Ao10,co10,eo10⟩:=Kd.jKa HO184.out;subst eo10;have hnb11:=NB181_180.out;have hnc11:=NB180_181.out;have hcz12_0:=bc0 BK181.out;have hfz12_0:=ja BK181.out 0;have hcz13_0:=bc0 BK180.out;have hfz13_0:=ja BK180.out 0))
 refine bodyPost_ret (results_cell_row rfl _ _ gb180 31 #[.slice Ao10 t182.length co10] (0,0) _ rfl (by (with_reducible repeat (first | refine jO ?_ _ | refine jI ?_ | refine jJ ?_ _));refine jjb (cs:=#[.slice none 0 0]) ?_ 0 _ rfl;(with_reducible repeat (first | refine jO ?_ _ | refine jI ?_ | refine jJ ?_ _));refine jkb ?_ NB180_181.out _;(with_reducible repeat (first | refine jO ?_ _ | refine jI ?_ | refine jJ ?_ _));exact BK180.out) Tryd.underlying31 rfl (by kernel_rfl)) rfl ?_
 exact ⟨_,Y0,by (with_reducible repeat (first | apply Kd.jPb | apply Kd.jOb | apply Kd.jLb));exact Kd.jKb (Kd.R_far (p:=⟨gb180,0,none⟩) (Kd.R_far (p:=⟨gb181,0,none⟩) (Kd.R_types (Kd.R_types HO184.out BK181.out (by decide)) BK180.out (by decide)) (fun _ hk=>hk.1.2) (.slice Ao10 t182.length co10)) (fun _ hk=>hk.2) (.slice Ao10 t182.length co10)) (fun _ hk=>trivial),Y27⟩
def jCb.f (a0_0 : Int) (a0_1 : Int) (a0_2 : Int) (a0_3 : Int) : Option (Int × Int × Int × Int) := some (a0_0, a0_1, a0_2, a0_3)
set_option maxHeartbeats 8000000 in
set_option maxRecDepth 100000 in
theorem jCb.calls (a0_0 : Int) (a0_1 : Int) (a0_2 : Int) (a0_3 : Int) (r1 : Int) (r2 : Int) (r3 : Int) (r4 : Int) (w : World) (h : jCb.f a0_0 a0_1 a0_2 a0_3 = some (r1, r2, r3, r4)) :
  Calls Tryd.prog 16 #[.agg #[.int .i64 a0_0, .int .i64 a0_1, .int .i64 a0_2, .int .i64 a0_3]] w fun e w'=>e=.returned (.agg #[.int .i64 r1, .int .i64 r2, .int .i64 r3, .int .i64 r4])∧Below w.heap.size w w':=by
 have hu44:=Tryd.underlying44
 have hu42:=Tryd.underlying42
 have HB:=am (Below.refl w.heap.size w)
 have H:(some (a0_0,a0_1,a0_2,a0_3))=some (r1,r2,r3,r4):=h
 clear h
 simp only [Option.some.injEq,Prod.mk.injEq] at H
 obtain ⟨rfl,rfl,rfl,rfl⟩:=H
 go_enter Tryd.func16,Tryd.ntmps16
 go_wp2_with (first |((with_reducible refine jN (N:=1) rfl ?_);refine bE (N:=1) (cs:=#[.int .i64 a0_0, .int .i64 a0_1, .int .i64 a0_2, .int .i64 a0_3]) (t:=44) ?_;intro gb185 hg w2 hbox hb;have BK185:=am (hbox);have GW185:=am ((Y1:w.heap.size≤gb185));have GE185:=am ((Y1:w.heap.size≤gb185));replace HB:=am (jc (bq) hb);clear hb hbox hg) |((with_reducible refine jN (N:=2) rfl ?_);refine bE (N:=2) (cs:=#[.int .i64 0, .int .i64 0, .int .i64 0, .int .i64 0]) (t:=42) ?_;intro gb186 hg w3 hbox hb;have BK186:=am (hbox);have GW186:=am ((Y40:w.heap.size≤gb186));have GE186:=am ((Y40:w.heap.size≤gb186));have NB185_186:=am ((Y41:gb185≠gb186));have NB186_185:=am ((Y42:gb186≠gb185));replace BK185:=am (ji (g:=gb185) (o:=.cells #[.int .i64 a0_0, .int .i64 a0_1, .int .i64 a0_2, .int .i64 a0_3] 44 (0,0)) (kq BK185.out) hb);replace HB:=am (jc (by repeat (first |(with_reducible first | exact HB.out | apply jA | apply je | apply jy | refine jB ?_ GE185.out) | exact HB.out)) hb);clear hb hbox hg) |((with_reducible refine jN (N:=3) rfl ?_);refine bE (N:=3) (cs:=#[.int .i64 0, .int .i64 0, .int .i64 0, .int .i64 0]) (t:=42) ?_;intro gb187 hg w4 hbox hb;have BK187:=am (hbox);have GW187:=am ((Y43:w.heap.size≤gb187));have GE187:=am ((Y43:w.heap.size≤gb187));have NB185_187:=am ((Y41:gb185≠gb187));have NB187_185:=am ((Y42:gb187≠gb185));have NB186_187:=am ((by rw [hg];exact Nat.ne_of_lt (jEa (g:=gb186) (o:=.cells #[.int .i64 0, .int .i64 0, .int .i64 0, .int .i64 0] 42 (0,0)) (kq BK186.out)):gb186≠gb187));have NB187_186:=am ((by rw [hg];exact Nat.ne_of_gt (jEa (g:=gb186) (o:=.cells #[.int .i64 0, .int .i64 0, .int .i64 0, .int .i64 0] 42 (0,0)) (kq BK186.out)):gb187≠gb186));replace BK185:=am (ji (g:=gb185) (o:=.cells #[.int .i64 a0_0, .int .i64 a0_1, .int .i64 a0_2, .int .i64 a0_3] 44 (0,0)) (kq BK185.out) hb);replace BK186:=am (ji (g:=gb186) (o:=.cells #[.int .i64 0, .int .i64 0, .int .i64 0, .int .i64 0] 42 (0,0)) (kq BK186.out) hb);replace HB:=am (jc (by repeat (first |(with_reducible first | exact HB.out | apply jA | apply je | apply jy | refine jB ?_ GE185.out | refine jB ?_ GE186.out) | exact HB.out)) hb);clear hb hbox hg;have hnb5:=NB185_186.out;have hnc5:=NB186_185.out;have hnb6:=NB185_187.out;have hnc6:=NB187_185.out;have hcz7_0:=bc0 BK185.out;have hcz7_1:=bc1 BK185.out;have hcz7_2:=bc2 BK185.out;have hcz7_3:=bc3 BK185.out;have hfz7_0:=ja BK185.out 0;have hfz7_1:=ja BK185.out 1;have hfz7_2:=ja BK185.out 2;have hfz7_3:=ja BK185.out 3;have hnb8:=NB187_186.out;have hnc8:=NB186_187.out;have hcz9_0:=bc0 BK187.out;have hcz9_1:=bc1 BK187.out;have hcz9_2:=bc2 BK187.out;have hcz9_3:=bc3 BK187.out;have hfz9_0:=ja BK187.out 0;have hfz9_1:=ja BK187.out 1;have hfz9_2:=ja BK187.out 2;have hfz9_3:=ja BK187.out 3;have hcz10_0:=bc0 BK186.out;have hcz10_1:=bc1 BK186.out;have hcz10_2:=bc2 BK186.out;have hcz10_3:=bc3 BK186.out;have hfz10_0:=ja BK186.out 0;have hfz10_1:=ja BK186.out 1;have hfz10_2:=ja BK186.out 2;have hfz10_3:=ja BK186.out 3))
 refine bodyPost_ret (results_cell_row rfl _ _ gb186 42 #[.int .i64 a0_0, .int .i64 a0_1, .int .i64 a0_2, .int .i64 a0_3] (0,0) _ rfl (by (with_reducible repeat (first | refine jO ?_ _ | refine jI ?_ | refine jJ ?_ _));refine jjb (cs:=#[.int .i64 a0_0, .int .i64 a0_1, .int .i64 a0_2, .int .i64 0]) ?_ 3 _ rfl;(with_reducible repeat (first | refine jO ?_ _ | refine jI ?_ | refine jJ ?_ _));refine jjb (cs:=#[.int .i64 a0_0, .int .i64 a0_1, .int .i64 0, .int .i64 0]) ?_ 2 _ rfl;(with_reducible repeat (first | refine jO ?_ _ | refine jI ?_ | refine jJ ?_ _));refine jjb (cs:=#[.int .i64 a0_0, .int .i64 0, .int .i64 0, .int .i64 0]) ?_ 1 _ rfl;(with_reducible repeat (first | refine jO ?_ _ | refine jI ?_ | refine jJ ?_ _));refine jjb (cs:=#[.int .i64 0, .int .i64 0, .int .i64 0, .int .i64 0]) ?_ 0 _ rfl;(with_reducible repeat (first | refine jO ?_ _ | refine jI ?_ | refine jJ ?_ _));refine jkb ?_ NB186_187.out _;(with_reducible repeat (first | refine jO ?_ _ | refine jI ?_ | refine jJ ?_ _));refine jkb ?_ NB186_187.out _;(with_reducible repeat (first | refine jO ?_ _ | refine jI ?_ | refine jJ ?_ _));refine jkb ?_ NB186_187.out _;(with_reducible repeat (first | refine jO ?_ _ | refine jI ?_ | refine jJ ?_ _));refine jkb ?_ NB186_187.out _;(with_reducible repeat (first | refine jO ?_ _ | refine jI ?_ | refine jJ ?_ _));exact BK186.out) Tryd.underlying42 rfl (by kernel_rfl)) rfl ?_
 exact ⟨Y0,by repeat (first |(with_reducible first | exact HB.out | apply jA | apply je | apply jy | refine jB ?_ GE185.out | refine jB ?_ GE186.out | refine jB ?_ GE187.out) | exact HB.out)⟩
def jC.l0 : Nat → List (S44) → List (S42) → Int → Option ((List (S42)))
 | 0,_,_,_=>none
 | k+1,x0,x3,x4=>if x4<(x0.length:Int) then (if 0≤x4 then ((jCb.f ((jmb x0 x4).f0) ((jmb x0 x4).f1) ((jmb x0 x4).f2) ((jmb x0 x4).f3)).bind fun bt192=>(if x4<(x3.length:Int) then (jC.l0 k x0 (x3.set (x4:Int).toNat (⟨bt192.1,bt192.2.1,bt192.2.2.1,bt192.2.2.2⟩:S42)) (wrap64 (x4+1))) else (none))) else (none)) else (some x3)
def jC.f (k : Nat) (l0 : List (S44)) : Option ((List (S42))) := if 0 ≤ (l0.length : Int) then (if ((l0.length : Int) : Int).toNat ≤ 8796093022208 then (jC.l0 k l0 (List.replicate ((l0.length : Int) : Int).toNat z42) 0) else (none)) else (none)
set_option maxHeartbeats 8000000 in
set_option maxRecDepth 100000 in
theorem jC.calls (k : Nat) (A0 : Option Addr) (c0 : Nat) (l0 : List (S44)) (r : List (S42)) (w : World) (hr0 : Kd.C k44 w A0 l0.length l0) (hc0 : l0.length ≤ c0) (h : jC.f k l0 = some r) :
  Calls Tryd.prog 8 #[.slice A0 l0.length c0] w fun e w'=>∃ v0_:Value,e=.returned (v0_)∧Kd.R k42 42 w' w.heap.size (fun _=>True) v0_ r∧Below w.heap.size w w':=by
 have hu44:=Tryd.underlying44
 have hu42:=Tryd.underlying42
 have HR0:=am hr0
 have HC0:=am hc0
 clear hr0 hc0
 have HB:=am (Below.refl w.heap.size w)
 have H:(if 0≤(l0.length:Int) then (if ((l0.length:Int):Int).toNat≤8796093022208 then (jC.l0 k l0 (List.replicate ((l0.length:Int):Int).toNat z42) 0) else (none)) else (none))=some r:=h
 clear h
 by_cases c2:0≤(l0.length:Int)
 ·rw [if_pos c2] at H
  have c2b0:=ezT c2
  have c2b1:decide (0≤(l0.length:Int))=true:=dzT c2
  clear c2
  by_cases c3:((l0.length:Int):Int).toNat≤8796093022208
  ·rw [if_pos c3] at H
   have c3b0:=ezT c3
   have c3b1:decide (((l0.length:Int):Int).toNat≤8796093022208)=true:=dzT c3
   clear c3
   obtain ⟨y188,hy188⟩:∃ y_:List (S42),y_=(List.replicate ((l0.length:Int):Int).toNat z42):=⟨_,rfl⟩
   replace H:(jC.l0 k l0 y188 0)=some r:=by first |(rw [hy188];with_reducible exact H) |(have H2_:=(Option.bind_some _ _).symm.trans H;rw [hy188];with_reducible exact H2_) |(have H2_:=(Option.bind_some _ _).symm.trans H;with_reducible exact H2_) | with_reducible exact H |(rw [hy188];exact H) | exact H
   have Ny188:=am hy188
   clear hy188
   have H':=am H
   clear H
   go_enter Tryd.func8,Tryd.ntmps8
   go_wp2_with (first |((with_reducible refine jN (N:=7) rfl ?_);refine Kd.R_make k42 _ 42 rfl (N:=7) rfl 33 _ _ rfl (l0.length:Int) rfl rfl Tryd.underlying33 (.agg #[(.int .i64 0),(.int .i64 0),(.int .i64 0),(.int .i64 0)]) 32 info42 rfl (by decide) (by omega) z42 (ok:=fun _=>True) (okp:=fun _=>True) (k42_mkM _ _ _ z42 ) (fun _ hk=>hk) trivial (ozD (uq)) (Nat.le_trans (Nat.mul_le_mul_right _ (ozD (uq):(l0.length:Int).toNat≤8796093022208)) (by omega)) (Below.refl _ _) (Nat.le_refl _) ?_;intro v189 w4 ho5 hb hg_ hnew_;clear hg_ hnew_;(first | rw [← Ny188.out] at ho5 |(simp only [Int.reduceToNat] at ho5;rw [← Ny188.out] at ho5));have HO190:=am (Kd.jRa ho5 (jP (bq)));replace HB:=am (jc (bq) hb);clear hb ho5))
   go_loopg [4] k (fun kq v4 w'=>∃ (x3_1:List (S42)) (x4_1:Int),v4=.int .i64 x4_1∧jD (jC.l0 kq l0 x3_1 x4_1=some r)∧jD (kq≤k)∧jD (Kd.R k42 42 w' w.heap.size (fun _=>True) v189 x3_1)∧jD (Below w.heap.size w w'))
   case atStart=>exact ⟨(y188),(0),(sq),H',⟨Nat.le_refl _⟩,⟨rq HO190.out⟩,⟨bq⟩⟩
   case round =>
    clear H'
    try clear c2
    try clear c2b0
    try clear c2b1
    try clear p2
    try clear c3
    try clear c3b0
    try clear c3b1
    obtain ⟨x3_1,x4_1,rfl,HA,HK1,HO_3,HB⟩:=hrel
    cases gk with
    | zero=>exact absurd HA.out (by simp [jC.l0])
    | succ k1 =>
     have H:=HA.out
     clear HA
     simp only [jC.l0] at H
     by_cases c6:x4_1<(l0.length:Int)
     ·rw [if_pos c6] at H
      have c6b0:decide (x4_1<(l0.length:Int))=true:=dzT c6
      clear c6
      by_cases c7:0≤x4_1
      ·rw [if_pos c7] at H
       have c7b0:decide (0≤x4_1)=true:=dzT c7
       clear c7
       replace H:=bzS H
       obtain ⟨⟨t192,t193,t194,t195⟩,A80,H⟩:=H
       replace H:(if x4_1<(x3_1.length:Int) then (jC.l0 k1 l0 (x3_1.set (x4_1:Int).toNat (⟨t192,t193,t194,t195⟩:S42)) (wrap64 (x4_1+1))) else (none))=some r:=H
       have A8:=am A80
       clear A80
       by_cases c9:x4_1<(x3_1.length:Int)
       ·rw [if_pos c9] at H
        have c9b0:decide (x4_1<(x3_1.length:Int))=true:=dzT c9
        clear c9
        obtain ⟨y196,hy196⟩:∃ y_:List (S42),y_=(x3_1.set (x4_1:Int).toNat (⟨t192,t193,t194,t195⟩:S42)):=⟨_,rfl⟩
        replace H:(jC.l0 k1 l0 y196 (wrap64 (x4_1+1)))=some r:=by first |(rw [hy196];with_reducible exact H) |(have H2_:=(Option.bind_some _ _).symm.trans H;rw [hy196];with_reducible exact H2_) |(have H2_:=(Option.bind_some _ _).symm.trans H;with_reducible exact H2_) | with_reducible exact H |(rw [hy196];exact H) | exact H
        have Ny196:=am hy196
        clear hy196
        have H':=am H
        clear H
        have p191:0≤(x4_1:Int):=ozD (uq)
        have q191:x4_1<(l0.length:Int):=ozD (uq)
        obtain ⟨ad191,e191,hx191_0,hx191_1,hx191_2,hx191_3⟩:=at_T44 HR0.out x4_1 p191 q191
        cases e191
        replace hx191_0:=cb HB.out hx191_0
        replace hx191_1:=cb HB.out hx191_1
        replace hx191_2:=cb HB.out hx191_2
        replace hx191_3:=cb HB.out hx191_3
        replace p191:=ezT p191
        replace q191:=ezT q191
        go_wp2_with (first |((with_reducible refine jf (f:=16) rfl ?_);refine gL (some 20) Tryd.func16 #[.agg #[.int .i64 ((jmb l0 x4_1).f0), .int .i64 ((jmb l0 x4_1).f1), .int .i64 ((jmb l0 x4_1).f2), .int .i64 ((jmb l0 x4_1).f3)]] ?_;(with_reducible refine (jCb.calls ((jmb l0 x4_1).f0) ((jmb l0 x4_1).f1) ((jmb l0 x4_1).f2) ((jmb l0 x4_1).f3) t192 t193 t194 t195 _ A8.out).mono ?_);rintro e w11 ⟨rfl,hb⟩;refine ⟨_,rfl,?_⟩;replace HO_3:=am (Kd.jqa (rq HO_3.out) hb);replace HB:=am (jc (bq) hb);(try clear hb);(try clear hb2);(try clear hk);(try clear hi);have p10:0≤(x4_1:Int):=ozD (uq);have q10:(x4_1:Int)<((x3_1.length:Int):Int):=ozD (uq);obtain ⟨go10,co10,eo10,gb10,gl10,cl10,HG10⟩:=Kd.R_form HO_3.out (by omega);(first | cases eo10 |(injection eo10 with ea_ en_ ec_;(first | subst ea_ |(injection ea_ with ea_;subst ea_));subst ec_;clear en_));have GB10:=am gb10;have GG10:=am HG10;clear gb10 gl10 HG10;obtain ⟨ce10,hcl10,hM10,hcc10,hfr10⟩:=Kd.R_elem HO_3.out z42 (x4_1:Int) p10 q10;obtain rfl:=k42_openM hM10;have hx10_0:w11.cell? ⟨go10,(x4_1:Int).toNat * 4,none⟩=some (.int .i64 ((jb x3_1 x4_1).f0)):=hcc10 0 _ rfl;have hx10_1:w11.cell? ⟨go10,(x4_1:Int).toNat * 4+1,none⟩=some (.int .i64 ((jb x3_1 x4_1).f1)):=hcc10 1 _ rfl;have hx10_2:w11.cell? ⟨go10,(x4_1:Int).toNat * 4+2,none⟩=some (.int .i64 ((jb x3_1 x4_1).f2)):=hcc10 2 _ rfl;have hx10_3:w11.cell? ⟨go10,(x4_1:Int).toNat * 4+3,none⟩=some (.int .i64 ((jb x3_1 x4_1).f3)):=hcc10 3 _ rfl;have hf10_0:w11.frozen? ⟨go10,(x4_1:Int).toNat * 4,none⟩=false:=hfr10 0;have hf10_1:w11.frozen? ⟨go10,(x4_1:Int).toNat * 4+1,none⟩=false:=hfr10 1;have hf10_2:w11.frozen? ⟨go10,(x4_1:Int).toNat * 4+2,none⟩=false:=hfr10 2;have hf10_3:w11.frozen? ⟨go10,(x4_1:Int).toNat * 4+3,none⟩=false:=hfr10 3;clear hcl10 hcc10 hfr10 hM10;replace p10:=ezT p10;replace q10:=ezT q10;have HX12:=am (show Kd.R k42 42 w11 w.heap.size (fun _=>True) (.slice (some ⟨go10,0,none⟩) x3_1.length co10) x3_1 from (rq HO_3.out));obtain ⟨ce12,hcl12,hM12,hcc12,hfr12⟩:=Kd.R_elem HX12.out z42 (x4_1:Int) (ozD (uq)) (by have h_:(x4_1:Int)<((x3_1.length:Int):Int):=ozD (uq);first | exact h_ |(have e_:=(Kd.jT HO_3.out).1;omega) | simpa using h_);obtain rfl:=k42_openM hM12;have HP12:=Kd.R_seg HX12.out (x4_1:Int) (ozD (uq)) (by have h_:(x4_1:Int)<((x3_1.length:Int):Int):=ozD (uq);first | exact h_ |(have e_:=(Kd.jT HO_3.out).1;omega) | simpa using h_) (seg:=[.int .i64 t192, .int .i64 t193, .int .i64 t194, .int .i64 t195]) (j:=0) hcl12 hcc12 (show 4≤4 from by decide) (x':=(⟨t192,t193,t194,t195⟩:S42)) (k42_mkM _ _ _ (⟨t192,t193,t194,t195⟩:S42) ) (fun _ hk=>hk);have hx12_0:=hcc12 0 _ rfl;(try simp only [show (k42).sz=4 from rfl,Nat.mul_one,Nat.add_zero] at hx12_0);have hf12_0:=hfr12 0;(try simp only [show (k42).sz=4 from rfl,Nat.mul_one,Nat.add_zero] at hf12_0);have hx12_1:=hcc12 1 _ rfl;(try simp only [show (k42).sz=4 from rfl,Nat.mul_one,Nat.add_zero] at hx12_1);have hf12_1:=hfr12 1;(try simp only [show (k42).sz=4 from rfl,Nat.mul_one,Nat.add_zero] at hf12_1);have hx12_2:=hcc12 2 _ rfl;(try simp only [show (k42).sz=4 from rfl,Nat.mul_one,Nat.add_zero] at hx12_2);have hf12_2:=hfr12 2;(try simp only [show (k42).sz=4 from rfl,Nat.mul_one,Nat.add_zero] at hf12_2);have hx12_3:=hcc12 3 _ rfl;(try simp only [show (k42).sz=4 from rfl,Nat.mul_one,Nat.add_zero] at hx12_3);have hf12_3:=hfr12 3;(try simp only [show (k42).sz=4 from rfl,Nat.mul_one,Nat.add_zero] at hf12_3);clear hcl12 hcc12 hfr12 hM12) |((with_reducible refine gate_store (t:=42) (p:=21) rfl ?_);refine store_event (t:=42) (p:=21) (v:=?vo_w13) (w1:=((((w11.setCell ⟨go10,(x4_1:Int).toNat * 4,none⟩ (.int .i64 t192)).setCell ⟨go10,(x4_1:Int).toNat * 4+1,none⟩ (.int .i64 t193)).setCell ⟨go10,(x4_1:Int).toNat * 4+2,none⟩ (.int .i64 t194)).setCell ⟨go10,(x4_1:Int).toNat * 4+3,none⟩ (.int .i64 t195))) ?hg ?ho ?hn ?hr ?_;(case ho=>rfl);(case hg=>rfl);(case hn=>rfl);(case hr=>exact Y11);intro w13 hw;have hg:w11.grownBy w13 (some go10):=(by rw [hw];exact HP12.2);have hp_:Kd.R k42 42 w13 w.heap.size (fun _=>True) (.slice (some ⟨go10,0,none⟩) x3_1.length co10) y196:=(by rw [hw,Ny196.out];exact HP12.1);clear HP12;replace HO_3:=am (hp_);replace HB:=am ((by rw [hw];exact jB (jB (jB (jB (HB.out) GB10.out) GB10.out) GB10.out) GB10.out:Below w.heap.size w w13));clear hg hw hp_))
        go_roundg k1
        case measure=>have:=HK1.out;omega
        case rel=>exact ⟨(y196),(wrap64 (x4_1+1)),(sq),H',⟨by have:=HK1.out;omega⟩,⟨rq HO_3.out⟩,⟨bq⟩⟩
       ·rw [if_neg c9] at H
        exact absurd H (by simp)
      ·rw [if_neg c7] at H
       exact absurd H (by simp)
     ·rw [if_neg c6] at H
      have c6b0:decide (x4_1<(l0.length:Int))=false:=dzF c6
      clear c6
      obtain rfl:=Option.some.inj H
      go_wp2
      go_ret
      exact ⟨_,Y0,rq HO_3.out,bq⟩
  ·rw [if_neg c3] at H
   exact absurd H (by simp)
 ·rw [if_neg c2] at H
  exact absurd H (by simp)
def jv.f (a0 : Int) (a1 : Int) (a2 : Int) : Option (Bool) := if a0 ≥ a1 then (some (decide (a0 ≤ a2))) else (some false)
set_option maxHeartbeats 8000000 in
set_option maxRecDepth 100000 in
theorem jv.calls (a0 : Int) (a1 : Int) (a2 : Int) (r : Bool) (w : World) (h : jv.f a0 a1 a2 = some r) :
  Calls Tryd.prog 30 #[.int .i64 a0, .int .i64 a1, .int .i64 a2] w fun e w'=>e=.returned (.bool r)∧jAa w w':=by
 have H:(if a0≥a1 then (some (decide (a0≤a2))) else (some false))=some r:=h
 clear h
 by_cases c4:a0≥a1
 ·rw [if_pos c4] at H
  have c4b0:decide (a1≤a0)=true:=dzT c4
  clear c4
  obtain rfl:=Option.some.inj H
  go_enter Tryd.func30,Tryd.ntmps30
  go_wp2
  go_ret
  exact ⟨sq,Y2⟩
 ·rw [if_neg c4] at H
  have c4b0:decide (a1≤a0)=false:=dzF c4
  clear c4
  obtain rfl:=Option.some.inj H
  go_enter Tryd.func30,Tryd.ntmps30
  go_wp2
  go_ret
  exact ⟨sq,Y2⟩
def jsa.l0 : Nat → ByteArray → Int → Int → Option (Bool)
 | 0,_,_,_=>none
 | k+1,x0,x5,x6=>if x6<x5 then (if 0≤x6 then (if x6<(x0.size:Int) then (if (bt x0 x6)<97 then (some false) else (if (bt x0 x6) > 122 then (some false) else (jsa.l0 k x0 x5 (wrap64 (x6+1))))) else (none)) else (none)) else ((jv.f (x0.size:Int) 1 6).bind fun t197=>(some t197))
def jsa.f (k : Nat) (a0 : ByteArray) : Option (Bool) := jsa.l0 k a0 (a0.size : Int) 0
set_option maxHeartbeats 8000000 in
set_option maxRecDepth 100000 in
theorem jsa.calls (k : Nat) (a0 : ByteArray) (r : Bool) (w : World) (h : jsa.f k a0 = some r) :
  Calls Tryd.prog 49 #[.string a0] w fun e w'=>e=.returned (.bool r)∧jAa w w':=by
 have H:(jsa.l0 k a0 (a0.size:Int) 0)=some r:=h
 clear h
 have H':=am H
 clear H
 go_enter Tryd.func49,Tryd.ntmps49
 go_wp2
 go_loopg [6] k (fun kq v6 w'=>∃ (x6_1:Int),v6=.int .i64 x6_1∧jD (jsa.l0 kq a0 (a0.size:Int) x6_1=some r)∧jD (kq≤k)∧jAa w w')
 case atStart=>exact ⟨(0),(sq),H',⟨Nat.le_refl _⟩,Y2⟩
 case round =>
  clear H'
  obtain ⟨x6_1,rfl,HA,HK1,⟨m1,rfl⟩⟩:=hrel
  cases gk with
  | zero=>exact absurd HA.out (by simp [jsa.l0])
  | succ k1 =>
   have H:=HA.out
   clear HA
   simp only [jsa.l0] at H
   by_cases c2:x6_1<(a0.size:Int)
   ·rw [if_pos c2] at H
    have c2b0:decide (x6_1<(a0.size:Int))=true:=dzT c2
    clear c2
    by_cases c3:0≤x6_1
    ·rw [if_pos c3] at H
     have c3b0:decide (0≤x6_1)=true:=dzT c3
     clear c3
     by_cases c4:x6_1<(a0.size:Int)
     ·rw [if_pos c4] at H
      have c4b0:decide (x6_1<(a0.size:Int))=true:=dzT c4
      clear c4
      by_cases c6:(bt a0 x6_1)<97
      ·rw [if_pos c6] at H
       have c6b0:decide ((bt a0 x6_1)<97)=true:=dzT c6
       clear c6
       obtain rfl:=Option.some.inj H
       have p5:0≤(x6_1:Int):=ozD (uq)
       have q5:x6_1<(a0.size:Int):=ozD (uq)
       have hx5:=bt_at a0 x6_1
       replace p5:=ezT p5
       replace q5:=ezT q5
       go_wp2
       go_ret
       exact ⟨sq,Y2⟩
      ·rw [if_neg c6] at H
       have c6b0:decide ((bt a0 x6_1)<97)=false:=dzF c6
       clear c6
       by_cases c8:(bt a0 x6_1) > 122
       ·rw [if_pos c8] at H
        have c8b0:decide (122<(bt a0 x6_1))=true:=dzT c8
        clear c8
        obtain rfl:=Option.some.inj H
        have p5:0≤(x6_1:Int):=ozD (uq)
        have q5:x6_1<(a0.size:Int):=ozD (uq)
        have hx5:=bt_at a0 x6_1
        replace p5:=ezT p5
        replace q5:=ezT q5
        have p7:0≤(x6_1:Int):=ozD (uq)
        have q7:x6_1<(a0.size:Int):=ozD (uq)
        have hx7:=bt_at a0 x6_1
        replace p7:=ezT p7
        replace q7:=ezT q7
        go_wp2
        go_ret
        exact ⟨sq,Y2⟩
       ·rw [if_neg c8] at H
        have c8b0:decide (122<(bt a0 x6_1))=false:=dzF c8
        clear c8
        have H':=am H
        clear H
        have p5:0≤(x6_1:Int):=ozD (uq)
        have q5:x6_1<(a0.size:Int):=ozD (uq)
        have hx5:=bt_at a0 x6_1
        replace p5:=ezT p5
        replace q5:=ezT q5
        have p7:0≤(x6_1:Int):=ozD (uq)
        have q7:x6_1<(a0.size:Int):=ozD (uq)
        have hx7:=bt_at a0 x6_1
        replace p7:=ezT p7
        replace q7:=ezT q7
        go_wp2
        go_roundg k1
        case measure=>have:=HK1.out;omega
        case rel=>exact ⟨(wrap64 (x6_1+1)),(sq),H',⟨by have:=HK1.out;omega⟩,Y2⟩
     ·rw [if_neg c4] at H
      exact absurd H (by simp)
    ·rw [if_neg c3] at H
     exact absurd H (by simp)
   ·rw [if_neg c2] at H
    have c2b0:decide (x6_1<(a0.size:Int))=false:=dzF c2
    clear c2
    replace H:=bzS H
    obtain ⟨t197,A90,H⟩:=H
    replace H:(some t197)=some r:=H
    have A9:=am A90
    clear A90
    obtain rfl:=Option.some.inj H
    go_wp2_with (first |((with_reducible refine jf (f:=30) rfl ?_);refine gL (some 22) Tryd.func30 #[.int .i64 (a0.size:Int), .int .i64 1, .int .i64 6] ?_;(with_reducible refine (jv.calls (a0.size:Int) 1 6 t197 _ A9.out).mono ?_);rintro e w' ⟨rfl,⟨nd,rfl⟩⟩;refine ⟨_,rfl,?_⟩))
    go_ret
    exact ⟨sq,Y2⟩

theorem impl_named1_calls (a b : ByteArray) (p : Int) (B : Nat) (w : World) (hB : B < w.heap.size) (hc : w.cell? ⟨B, 0, none⟩ = some (.string b)) :
  Calls Tryd.prog 66 #[.agg #[.string a, .int .i64 p], .pointer (some ⟨B,0,none⟩)] w fun e w'=>e=.returned (.bool (a.toList == b.toList))∧Below w.heap.size w w':=by
 have hne:B≠w.heap.size:=by omega
 go_enter Tryd.func66,Tryd.ntmps66
 go_wp2
 go_ret
 exact ⟨rfl,(Below.refl _ _).alloc (Nat.le_refl _) _⟩
set_option maxHeartbeats 8000000 in
set_option maxRecDepth 100000 in
theorem impl_named_idx (A_ : Option Addr) (c_ : Nat) (l : List (S63)) (B0_ : Nat) (p : S63 → Option Bool) (r : Int) (w : World) (hr : Kd.C k63 w A_ l.length l) (h : idxFrom p l 0 = some r)
  (hp:∀ W,Below w.heap.size w W→∀ (x:S63) (b:Bool),p x=some b→Calls Tryd.prog 66 #[.agg #[.string x.f0, .int .i64 x.f1], .pointer (some ⟨B0_,0,none⟩)] W fun e w'=>e=.returned (.bool b)∧Below W.heap.size W w') :
  Calls Tryd.prog 65 #[.slice A_ l.length c_, .func (.func 66) #[] #[.pointer (some ⟨B0_,0,none⟩)]] w fun e w'=>e=.returned (.int .i64 r)∧Below w.heap.size w w':=by
 have hm:l.length≤9223372036854775807:=Kd.C_max hr
 have HR:=am hr
 have HP:=am hp
 have H0:=am h
 clear hr hp h
 go_enter Tryd.func65,Tryd.ntmps65
 go_wp2
 go_loopw [5,8] (fun i5 i8 wr=>∃ k:Nat,k≤l.length∧i8=.int .i64 k∧jD (idxFrom p (l.drop k) k=some r)∧Below w.heap.size w wr) (fun _ i8 _=>l.length - (intOf i8).toNat)
 case atStart=>exact ⟨0,Nat.zero_le _,rfl,H0,Below.refl _ _⟩
 case round =>
  clear H0
  obtain ⟨k,hk,rfl,HA,hb⟩:=hrel
  by_cases hlt:k<l.length
  ·have HB:=am (idxFrom_step hlt HA.out)
   clear HA
   obtain ⟨ad,rfl,hx0,hx1⟩:=jJb HR.out (k:Int) (by omega) (by omega)
   have hrd:jE l (k:Int)=l[k]:=by simp [jE,List.getD_eq_getElem?_getD,hlt]
   replace hx0:=jk hb hx0
   replace hx1:=jk hb hx1
   rw [hrd] at hx0 hx1
   simp only [Int.toNat_natCast] at hx0 hx1
   clear hrd
   obtain ⟨b,hb1,hb0⟩:=HB.out
   have HQ:=am hb1
   clear hb1 HB
   cases b with
   | true =>
    have HZ:=am (by simpa using hb0:(k:Int)=r)
    clear hb0
    go_wp2_with (go_at_call 66;refine (HP.out _ hb _ _ HQ.out).mono ?_;rintro e w' ⟨rfl,hb2⟩)
    go_ret
    exact ⟨by rw [← HZ.out];rfl,jK hb hb.size hb2⟩
   | false =>
    have HZ:=am (by simpa using hb0:idxFrom p (l.drop (k+1)) (k+1)=some r)
    clear hb0
    go_wp2_with (go_at_call 66;refine (HP.out _ hb _ _ HQ.out).mono ?_;rintro e w' ⟨rfl,hb2⟩)
    go_roundw
    case rel=>exact ⟨k+1,hlt,by go_num,HZ,jK hb hb.size hb2⟩
    case measure=>simp [intOf];omega
  ·have HZ:=am (idxFrom_end (by omega) HA.out)
   clear HA
   go_wp2
   go_ret
   exact ⟨by rw [HZ.out];rfl,hb⟩
def jxa.f (l0_0 : List S63) (a1 : ByteArray) : Option Int := idxFrom (fun x : S63 => some (x.f0.toList == a1.toList)) l0_0 0
set_option maxHeartbeats 8000000 in
set_option maxRecDepth 100000 in
theorem jxa.calls (A0_0 : Option Addr) (c0_0 : Nat) (l0_0 : List (S63)) (a1 : ByteArray) (r : Int) (w : World) (hr0_0 : Kd.C k63 w A0_0 l0_0.length l0_0) (hc0_0 : l0_0.length ≤ c0_0) (h : jxa.f l0_0 a1 = some r) :
  Calls Tryd.prog 50 #[.agg #[.slice A0_0 l0_0.length c0_0], .string a1] w fun e w'=>e=.returned (.int .i64 r)∧Below w.heap.size w w':=by
 have hu31:=Tryd.underlying31
 have HF:=am (fun W (hb:Below w.heap.size w W) (B:Nat) (hB:B<W.heap.size) (hc:W.cell? ⟨B,0,none⟩=some (.string a1))=>impl_named_idx A0_0 c0_0 l0_0 B (fun x:S63=>some (x.f0.toList == a1.toList)) r W (Kd.jH hr0_0 hb) h (fun W' hb' x b hx=>by
  obtain rfl:=Option.some.inj hx
  exact impl_named1_calls x.f0 a1 x.f1 B W' (Nat.lt_of_lt_of_le hB hb'.size) (jk hb' hc)))
 clear h hr0_0
 go_enter Tryd.func50,Tryd.ntmps50
 go_wp2_with (go_at_call 65;refine (HF.out _ (((Below.refl _ _).alloc (Nat.le_refl _) _).alloc (by simp) _) _ (by simp) (by simp)).mono ?_;rintro e w' ⟨rfl,hb2⟩)
 go_ret
 exact ⟨rfl,(((Below.refl _ _).alloc (Nat.le_refl _) _).alloc (by simp) _).trans (hb2.mono (by simp;omega))⟩
mutual
def jl.l0 : Nat → List (S63) → Int → Int → List (S63) → Option (Bool)
 | 0,_,_,_,_=>none
 | k+1,x6,x7,x8,x199000=>if x8<x7 then (if 0≤x8 then (if x8<(x6.length:Int) then ((jsa.f k ((jE x6 x8).f0)).bind fun t202=>(if t202=true then ((jxa.f x199000 ((jE x6 x8).f0)).bind fun t203=>(if t203=x8 then (if x8=0 then (if ((jE x6 x8).f1)=(-1) then (if x8 > 0 then ((jv.f ((jE x6 x8).f1) 0 (wrap64 (x8 - 1))).bind fun t204=>(jl.j1 k x6 x7 x8 (!t204) x199000)) else (jl.j1 k x6 x7 x8 false x199000)) else (jl.j1 k x6 x7 x8 true x199000)) else (if x8 > 0 then ((jv.f ((jE x6 x8).f1) 0 (wrap64 (x8 - 1))).bind fun t205=>(jl.j1 k x6 x7 x8 (!t205) x199000)) else (jl.j1 k x6 x7 x8 false x199000))) else (jl.j1 k x6 x7 x8 true x199000))) else (jl.j1 k x6 x7 x8 true x199000))) else (none)) else (none)) else ((jv.f (x199000.length:Int) 1 8).bind fun t199=>(some t199))
def jl.j1 : Nat → List (S63) → Int → Int → Bool → List (S63) → Option (Bool)
 | 0,_,_,_,_,_=>none
 | k+1,x6,x7,x8,x45,x199000=>if x45=true then (some false) else (jl.l0 k x6 x7 (wrap64 (x8+1)) x199000)
end
def jl.f (k : Nat) (l0_0 : List (S63)) : Option (Bool) := jl.l0 k l0_0 (l0_0.length : Int) 0 l0_0
set_option maxHeartbeats 8000000 in
set_option maxRecDepth 100000 in
theorem jl.calls (k : Nat) (A0_0 : Option Addr) (c0_0 : Nat) (l0_0 : List (S63)) (r : Bool) (w : World) (hr0_0 : Kd.C k63 w A0_0 l0_0.length l0_0) (hc0_0 : l0_0.length ≤ c0_0) (h : jl.f k l0_0 = some r) :
  Calls Tryd.prog 28 #[.agg #[.slice A0_0 l0_0.length c0_0]] w fun e w'=>e=.returned (.bool r)∧Below w.heap.size w w':=by
 have hu31:=Tryd.underlying31
 have hu63:=Tryd.underlying63
 have HR0_0:=am hr0_0
 have HC0_0:=am hc0_0
 clear hr0_0 hc0_0
 have HB:=am (Below.refl w.heap.size w)
 have H:(jl.l0 k l0_0 (l0_0.length:Int) 0 l0_0)=some r:=h
 clear h
 have H':=am H
 clear H
 go_enter Tryd.func28,Tryd.ntmps28
 go_wp2_with (first |((with_reducible refine jN (N:=1) rfl ?_);refine bE (N:=1) (cs:=#[.slice A0_0 l0_0.length c0_0]) (t:=31) ?_;intro gb198 hg w2 hbox hb;have BK198:=am (hbox);have GW198:=am ((Y1:w.heap.size≤gb198));have GE198:=am ((Y1:w.heap.size≤gb198));replace HB:=am (jc (bq) hb);clear hb hbox hg;have hcz3_0:=bc0 BK198.out;have hfz3_0:=ja BK198.out 0))
 go_loopg [8] k (fun kq v8 w'=>∃ (x8_1:Int),v8=.int .i64 x8_1∧jD (jl.l0 kq l0_0 (l0_0.length:Int) x8_1 l0_0=some r)∧jD (kq≤k)∧jD (w'.heap[gb198]?=some (.cells #[(.slice A0_0 l0_0.length c0_0)] 31 (0,0)))∧jD (Below w.heap.size w w'))
 case atStart=>exact ⟨(0),(sq),H',⟨Nat.le_refl _⟩,⟨kq BK198.out⟩,⟨Y28⟩⟩
 case round =>
  clear H'
  try clear c2
  try clear p2
  try clear hcz3_0
  try clear hfz3_0
  obtain ⟨x8_1,rfl,HA,HK1,BK198,HB⟩:=hrel
  cases gk with
  | zero=>exact absurd HA.out (by simp [jl.l0])
  | succ k1 =>
   have H:=HA.out
   clear HA
   simp only [jl.l0] at H
   by_cases c4:x8_1<(l0_0.length:Int)
   ·rw [if_pos c4] at H
    have c4b0:decide (x8_1<(l0_0.length:Int))=true:=dzT c4
    clear c4
    by_cases c5:0≤x8_1
    ·rw [if_pos c5] at H
     have c5b0:decide (0≤x8_1)=true:=dzT c5
     clear c5
     by_cases c6:x8_1<(l0_0.length:Int)
     ·rw [if_pos c6] at H
      have c6b0:decide (x8_1<(l0_0.length:Int))=true:=dzT c6
      clear c6
      have HC7:=am H
      clear H
      have p200:0≤(x8_1:Int):=ozD (uq)
      have q200:x8_1<(l0_0.length:Int):=ozD (uq)
      obtain ⟨ad200,e200,hx200_0,hx200_1⟩:=jJb HR0_0.out x8_1 p200 q200
      cases e200
      replace hx200_0:=cb HB.out hx200_0
      replace hx200_1:=cb HB.out hx200_1
      replace p200:=ezT p200
      replace q200:=ezT q200
      go_upto_region 4 with (first |((with_reducible refine jN (N:=4) rfl ?_);refine bE (N:=4) (cs:=#[.string (⟨#[]⟩:ByteArray), .int .i64 0]) (t:=63) ?_;intro gb201 hg w8 hbox hb;have BK201:=am (hbox);have GW201:=am ((Y44:w.heap.size≤gb201));have GE201:=am ((Y44:w.heap.size≤gb201));have NB198_201:=am ((by rw [hg];exact Nat.ne_of_lt (jEa (g:=gb198) (o:=.cells #[.slice (some ad200) l0_0.length c0_0] 31 (0,0)) (kq BK198.out)):gb198≠gb201));have NB201_198:=am ((by rw [hg];exact Nat.ne_of_gt (jEa (g:=gb198) (o:=.cells #[.slice (some ad200) l0_0.length c0_0] 31 (0,0)) (kq BK198.out)):gb201≠gb198));replace BK198:=am (ji (g:=gb198) (o:=.cells #[.slice (some ad200) l0_0.length c0_0] 31 (0,0)) (kq BK198.out) hb);replace HB:=am (jc (Y28) hb);clear hb hbox hg;have hnb9:=NB201_198.out;have hnc9:=NB198_201.out;have hcz10_0:=bc0 BK201.out;have hcz10_1:=bc1 BK201.out;have hfz10_0:=ja BK201.out 0;have hfz10_1:=ja BK201.out 1))
      (try simp only [Act.put,List.setIfInBounds_toArray,List.set_cons_zero,List.set_cons_succ])
      go_cut [45] (fun v45 wc=>∃ (kq:Nat) (x45_6:Bool),v45=.bool x45_6∧jD (jl.j1 kq l0_0 (l0_0.length:Int) x8_1 x45_6 l0_0=some r)∧jD (kq≤k1)∧jD (wc.heap[gb198]?=some (.cells #[(.slice (some ad200) l0_0.length c0_0)] 31 (0,0)))∧jD (wc.heap[gb201]?=some (.cells #[.string ((jE l0_0 x8_1).f0), .int .i64 ((jE l0_0 x8_1).f1)] 63 (0,0)))∧jD (Below w.heap.size w wc))
      case first =>
       have H:=HC7.out
       clear HC7
       replace H:=bzS H
       obtain ⟨t202,A110,H⟩:=H
       replace H:(if t202=true then ((jxa.f l0_0 ((jE l0_0 x8_1).f0)).bind fun t203=>(if t203=x8_1 then (if x8_1=0 then (if ((jE l0_0 x8_1).f1)=(-1) then (if x8_1 > 0 then ((jv.f ((jE l0_0 x8_1).f1) 0 (wrap64 (x8_1 - 1))).bind fun t204=>(jl.j1 k1 l0_0 (l0_0.length:Int) x8_1 (!t204) l0_0)) else (jl.j1 k1 l0_0 (l0_0.length:Int) x8_1 false l0_0)) else (jl.j1 k1 l0_0 (l0_0.length:Int) x8_1 true l0_0)) else (if x8_1 > 0 then ((jv.f ((jE l0_0 x8_1).f1) 0 (wrap64 (x8_1 - 1))).bind fun t205=>(jl.j1 k1 l0_0 (l0_0.length:Int) x8_1 (!t205) l0_0)) else (jl.j1 k1 l0_0 (l0_0.length:Int) x8_1 false l0_0))) else (jl.j1 k1 l0_0 (l0_0.length:Int) x8_1 true l0_0))) else (jl.j1 k1 l0_0 (l0_0.length:Int) x8_1 true l0_0))=some r:=H
       have A11:=am A110
       clear A110
       by_cases c12:t202=true
       ·subst c12
        have H1:((jxa.f l0_0 ((jE l0_0 x8_1).f0)).bind fun t203=>(if t203=x8_1 then (if x8_1=0 then (if ((jE l0_0 x8_1).f1)=(-1) then (if x8_1 > 0 then ((jv.f ((jE l0_0 x8_1).f1) 0 (wrap64 (x8_1 - 1))).bind fun t204=>(jl.j1 k1 l0_0 (l0_0.length:Int) x8_1 (!t204) l0_0)) else (jl.j1 k1 l0_0 (l0_0.length:Int) x8_1 false l0_0)) else (jl.j1 k1 l0_0 (l0_0.length:Int) x8_1 true l0_0)) else (if x8_1 > 0 then ((jv.f ((jE l0_0 x8_1).f1) 0 (wrap64 (x8_1 - 1))).bind fun t205=>(jl.j1 k1 l0_0 (l0_0.length:Int) x8_1 (!t205) l0_0)) else (jl.j1 k1 l0_0 (l0_0.length:Int) x8_1 false l0_0))) else (jl.j1 k1 l0_0 (l0_0.length:Int) x8_1 true l0_0)))=some r:=by rw [if_pos rfl] at H;exact H
        clear H
        have H:=H1
        clear H1
        replace H:=bzS H
        obtain ⟨t203,A130,H⟩:=H
        replace H:(if t203=x8_1 then (if x8_1=0 then (if ((jE l0_0 x8_1).f1)=(-1) then (if x8_1 > 0 then ((jv.f ((jE l0_0 x8_1).f1) 0 (wrap64 (x8_1 - 1))).bind fun t204=>(jl.j1 k1 l0_0 (l0_0.length:Int) x8_1 (!t204) l0_0)) else (jl.j1 k1 l0_0 (l0_0.length:Int) x8_1 false l0_0)) else (jl.j1 k1 l0_0 (l0_0.length:Int) x8_1 true l0_0)) else (if x8_1 > 0 then ((jv.f ((jE l0_0 x8_1).f1) 0 (wrap64 (x8_1 - 1))).bind fun t205=>(jl.j1 k1 l0_0 (l0_0.length:Int) x8_1 (!t205) l0_0)) else (jl.j1 k1 l0_0 (l0_0.length:Int) x8_1 false l0_0))) else (jl.j1 k1 l0_0 (l0_0.length:Int) x8_1 true l0_0))=some r:=H
        have A13:=am A130
        clear A130
        by_cases c14:t203=x8_1
        ·rw [if_pos c14] at H
         have c14b0:(t203 == x8_1)=true:=beq_iff_eq.mpr c14
         have c14b1:(t203 != x8_1)=false:=bne_eq_false_iff_eq.mpr c14
         clear c14
         (first | rw [c14b0] |(simp only [jlb,job];rw [c14b0]) | skip)
         by_cases c15:x8_1=0
         ·rw [if_pos c15] at H
          have c15b0:(x8_1 == 0)=true:=beq_iff_eq.mpr c15
          have c15b1:(x8_1 != 0)=false:=bne_eq_false_iff_eq.mpr c15
          clear c15
          by_cases c16:((jE l0_0 x8_1).f1)=(-1)
          ·rw [if_pos c16] at H
           have c16b0:(((jE l0_0 x8_1).f1) == (-1))=true:=beq_iff_eq.mpr c16
           have c16b1:(((jE l0_0 x8_1).f1) != (-1))=false:=bne_eq_false_iff_eq.mpr c16
           clear c16
           by_cases c17:x8_1 > 0
           ·rw [if_pos c17] at H
            have c17b0:decide (0<x8_1)=true:=dzT c17
            clear c17
            replace H:=bzS H
            obtain ⟨t204,A180,H⟩:=H
            replace H:(jl.j1 k1 l0_0 (l0_0.length:Int) x8_1 (!t204) l0_0)=some r:=H
            have A18:=am A180
            clear A180
            have H':=am H
            clear H
            have hnb19:=NB201_198.out
            have hnc19:=NB198_201.out
            have hcz20_0:=bc0 BK201.out
            have hcz20_1:=bc1 BK201.out
            have hfz20_0:=ja BK201.out 0
            have hfz20_1:=ja BK201.out 1
            go_wp2_with (first |((with_reducible refine jf (f:=49) rfl ?_);refine gL (some 15) Tryd.func49 #[.string ((jE l0_0 x8_1).f0)] ?_;(with_reducible refine (jsa.calls k1 ((jE l0_0 x8_1).f0) true _ A11.out).mono ?_);rintro e w' ⟨rfl,⟨nd,rfl⟩⟩;refine ⟨_,rfl,?_⟩;have hcz21_0:=bc0 BK198.out;have hfz21_0:=ja BK198.out 0) |(go_at_call 50;(with_reducible refine (jxa.calls _ _ l0_0 ((jE l0_0 x8_1).f0) t203 _ ?side1 ?side2 A13.out).mono ?_);(case side1=>exact Kd.jH HR0_0.out (Y3));(case side2=>exact HC0_0.out);rintro e w22 ⟨rfl,hb⟩;replace BK198:=am (ji (g:=gb198) (o:=.cells #[.slice (some ad200) l0_0.length c0_0] 31 (0,0)) (Y15) hb);replace BK201:=am (ji (g:=gb201) (o:=.cells #[.string ((jE l0_0 x8_1).f0), .int .i64 ((jE l0_0 x8_1).f1)] 63 (0,0)) (Y16) hb);replace HB:=am (jc (Y3) hb);(try clear hb);(try clear hb2);(try clear hk);(try clear hi);have hcz23_0:=bc0 BK201.out;have hcz23_1:=bc1 BK201.out;have hfz23_0:=ja BK201.out 0;have hfz23_1:=ja BK201.out 1) |(go_at_call 30;(with_reducible refine (jv.calls ((jE l0_0 x8_1).f1) 0 (wrap64 (x8_1 - 1)) t204 _ A18.out).mono ?_);rintro e w' ⟨rfl,⟨nd,rfl⟩⟩))
            go_meet
            case rel=>exact ⟨_,(!t204),(sq),H',⟨by have:=HK1.out;first | omega | exact Nat.le_refl _⟩,⟨kq BK198.out⟩,⟨kq BK201.out⟩,⟨Y3⟩⟩
           ·rw [if_neg c17] at H
            have c17b0:decide (0<x8_1)=false:=dzF c17
            clear c17
            have H':=am H
            clear H
            have hnb24:=NB201_198.out
            have hnc24:=NB198_201.out
            have hcz25_0:=bc0 BK201.out
            have hcz25_1:=bc1 BK201.out
            have hfz25_0:=ja BK201.out 0
            have hfz25_1:=ja BK201.out 1
            go_wp2_with (first |((with_reducible refine jf (f:=49) rfl ?_);refine gL (some 15) Tryd.func49 #[.string ((jE l0_0 x8_1).f0)] ?_;(with_reducible refine (jsa.calls k1 ((jE l0_0 x8_1).f0) true _ A11.out).mono ?_);rintro e w' ⟨rfl,⟨nd,rfl⟩⟩;refine ⟨_,rfl,?_⟩;have hcz26_0:=bc0 BK198.out;have hfz26_0:=ja BK198.out 0) |(go_at_call 50;(with_reducible refine (jxa.calls _ _ l0_0 ((jE l0_0 x8_1).f0) t203 _ ?side1 ?side2 A13.out).mono ?_);(case side1=>exact Kd.jH HR0_0.out (Y3));(case side2=>exact HC0_0.out);rintro e w27 ⟨rfl,hb⟩;replace BK198:=am (ji (g:=gb198) (o:=.cells #[.slice (some ad200) l0_0.length c0_0] 31 (0,0)) (Y15) hb);replace BK201:=am (ji (g:=gb201) (o:=.cells #[.string ((jE l0_0 x8_1).f0), .int .i64 ((jE l0_0 x8_1).f1)] 63 (0,0)) (Y16) hb);replace HB:=am (jc (Y3) hb);(try clear hb);(try clear hb2);(try clear hk);(try clear hi);have hcz28_0:=bc0 BK201.out;have hcz28_1:=bc1 BK201.out;have hfz28_0:=ja BK201.out 0;have hfz28_1:=ja BK201.out 1))
            go_meet
            case rel=>exact ⟨_,(false),(sq),H',⟨by have:=HK1.out;first | omega | exact Nat.le_refl _⟩,⟨kq BK198.out⟩,⟨kq BK201.out⟩,⟨Y3⟩⟩
          ·rw [if_neg c16] at H
           have c16b0:(((jE l0_0 x8_1).f1) == (-1))=false:=beq_eq_false_iff_ne.mpr c16
           have c16b1:(((jE l0_0 x8_1).f1) != (-1))=true:=bne_iff_ne.mpr c16
           have H':=am H
           clear H
           have hnb29:=NB201_198.out
           have hnc29:=NB198_201.out
           have hcz30_0:=bc0 BK201.out
           have hcz30_1:=bc1 BK201.out
           have hfz30_0:=ja BK201.out 0
           have hfz30_1:=ja BK201.out 1
           go_wp2_with (first |((with_reducible refine jf (f:=49) rfl ?_);refine gL (some 15) Tryd.func49 #[.string ((jE l0_0 x8_1).f0)] ?_;(with_reducible refine (jsa.calls k1 ((jE l0_0 x8_1).f0) true _ A11.out).mono ?_);rintro e w' ⟨rfl,⟨nd,rfl⟩⟩;refine ⟨_,rfl,?_⟩;have hcz31_0:=bc0 BK198.out;have hfz31_0:=ja BK198.out 0) |(go_at_call 50;(with_reducible refine (jxa.calls _ _ l0_0 ((jE l0_0 x8_1).f0) t203 _ ?side1 ?side2 A13.out).mono ?_);(case side1=>exact Kd.jH HR0_0.out (Y3));(case side2=>exact HC0_0.out);rintro e w32 ⟨rfl,hb⟩;replace BK198:=am (ji (g:=gb198) (o:=.cells #[.slice (some ad200) l0_0.length c0_0] 31 (0,0)) (Y15) hb);replace BK201:=am (ji (g:=gb201) (o:=.cells #[.string ((jE l0_0 x8_1).f0), .int .i64 ((jE l0_0 x8_1).f1)] 63 (0,0)) (Y16) hb);replace HB:=am (jc (Y3) hb);(try clear hb);(try clear hb2);(try clear hk);(try clear hi);have hcz33_0:=bc0 BK201.out;have hcz33_1:=bc1 BK201.out;have hfz33_0:=ja BK201.out 0;have hfz33_1:=ja BK201.out 1))
           go_meet
           case rel=>exact ⟨_,(true),(sq),H',⟨by have:=HK1.out;first | omega | exact Nat.le_refl _⟩,⟨kq BK198.out⟩,⟨kq BK201.out⟩,⟨Y3⟩⟩
         ·rw [if_neg c15] at H
          have c15b0:(x8_1 == 0)=false:=beq_eq_false_iff_ne.mpr c15
          have c15b1:(x8_1 != 0)=true:=bne_iff_ne.mpr c15
          by_cases c34:x8_1 > 0
          ·rw [if_pos c34] at H
           have c34b0:decide (0<x8_1)=true:=dzT c34
           clear c34
           replace H:=bzS H
           obtain ⟨t205,A350,H⟩:=H
           replace H:(jl.j1 k1 l0_0 (l0_0.length:Int) x8_1 (!t205) l0_0)=some r:=H
           have A35:=am A350
           clear A350
           have H':=am H
           clear H
           have hnb36:=NB201_198.out
           have hnc36:=NB198_201.out
           have hcz37_0:=bc0 BK201.out
           have hcz37_1:=bc1 BK201.out
           have hfz37_0:=ja BK201.out 0
           have hfz37_1:=ja BK201.out 1
           go_wp2_with (first |((with_reducible refine jf (f:=49) rfl ?_);refine gL (some 15) Tryd.func49 #[.string ((jE l0_0 x8_1).f0)] ?_;(with_reducible refine (jsa.calls k1 ((jE l0_0 x8_1).f0) true _ A11.out).mono ?_);rintro e w' ⟨rfl,⟨nd,rfl⟩⟩;refine ⟨_,rfl,?_⟩;have hcz38_0:=bc0 BK198.out;have hfz38_0:=ja BK198.out 0) |(go_at_call 50;(with_reducible refine (jxa.calls _ _ l0_0 ((jE l0_0 x8_1).f0) t203 _ ?side1 ?side2 A13.out).mono ?_);(case side1=>exact Kd.jH HR0_0.out (Y3));(case side2=>exact HC0_0.out);rintro e w39 ⟨rfl,hb⟩;replace BK198:=am (ji (g:=gb198) (o:=.cells #[.slice (some ad200) l0_0.length c0_0] 31 (0,0)) (Y15) hb);replace BK201:=am (ji (g:=gb201) (o:=.cells #[.string ((jE l0_0 x8_1).f0), .int .i64 ((jE l0_0 x8_1).f1)] 63 (0,0)) (Y16) hb);replace HB:=am (jc (Y3) hb);(try clear hb);(try clear hb2);(try clear hk);(try clear hi);have hcz40_0:=bc0 BK201.out;have hcz40_1:=bc1 BK201.out;have hfz40_0:=ja BK201.out 0;have hfz40_1:=ja BK201.out 1) |(go_at_call 30;(with_reducible refine (jv.calls ((jE l0_0 x8_1).f1) 0 (wrap64 (x8_1 - 1)) t205 _ A35.out).mono ?_);rintro e w' ⟨rfl,⟨nd,rfl⟩⟩))
           go_meet
           case rel=>exact ⟨_,(!t205),(sq),H',⟨by have:=HK1.out;first | omega | exact Nat.le_refl _⟩,⟨kq BK198.out⟩,⟨kq BK201.out⟩,⟨Y3⟩⟩
          ·rw [if_neg c34] at H
           have c34b0:decide (0<x8_1)=false:=dzF c34
           clear c34
           have H':=am H
           clear H
           have hnb41:=NB201_198.out
           have hnc41:=NB198_201.out
           have hcz42_0:=bc0 BK201.out
           have hcz42_1:=bc1 BK201.out
           have hfz42_0:=ja BK201.out 0
           have hfz42_1:=ja BK201.out 1
           go_wp2_with (first |((with_reducible refine jf (f:=49) rfl ?_);refine gL (some 15) Tryd.func49 #[.string ((jE l0_0 x8_1).f0)] ?_;(with_reducible refine (jsa.calls k1 ((jE l0_0 x8_1).f0) true _ A11.out).mono ?_);rintro e w' ⟨rfl,⟨nd,rfl⟩⟩;refine ⟨_,rfl,?_⟩;have hcz43_0:=bc0 BK198.out;have hfz43_0:=ja BK198.out 0) |(go_at_call 50;(with_reducible refine (jxa.calls _ _ l0_0 ((jE l0_0 x8_1).f0) t203 _ ?side1 ?side2 A13.out).mono ?_);(case side1=>exact Kd.jH HR0_0.out (Y3));(case side2=>exact HC0_0.out);rintro e w44 ⟨rfl,hb⟩;replace BK198:=am (ji (g:=gb198) (o:=.cells #[.slice (some ad200) l0_0.length c0_0] 31 (0,0)) (Y15) hb);replace BK201:=am (ji (g:=gb201) (o:=.cells #[.string ((jE l0_0 x8_1).f0), .int .i64 ((jE l0_0 x8_1).f1)] 63 (0,0)) (Y16) hb);replace HB:=am (jc (Y3) hb);(try clear hb);(try clear hb2);(try clear hk);(try clear hi)))
           go_meet
           case rel=>exact ⟨_,(false),(sq),H',⟨by have:=HK1.out;first | omega | exact Nat.le_refl _⟩,⟨kq BK198.out⟩,⟨kq BK201.out⟩,⟨Y3⟩⟩
        ·rw [if_neg c14] at H
         have c14b0:(t203 == x8_1)=false:=beq_eq_false_iff_ne.mpr c14
         have c14b1:(t203 != x8_1)=true:=bne_iff_ne.mpr c14
         (first | rw [c14b0] |(simp only [jlb,job];rw [c14b0]) | skip)
         have H':=am H
         clear H
         have hnb45:=NB201_198.out
         have hnc45:=NB198_201.out
         have hcz46_0:=bc0 BK201.out
         have hcz46_1:=bc1 BK201.out
         have hfz46_0:=ja BK201.out 0
         have hfz46_1:=ja BK201.out 1
         go_wp2_with (first |((with_reducible refine jf (f:=49) rfl ?_);refine gL (some 15) Tryd.func49 #[.string ((jE l0_0 x8_1).f0)] ?_;(with_reducible refine (jsa.calls k1 ((jE l0_0 x8_1).f0) true _ A11.out).mono ?_);rintro e w' ⟨rfl,⟨nd,rfl⟩⟩;refine ⟨_,rfl,?_⟩;have hcz47_0:=bc0 BK198.out;have hfz47_0:=ja BK198.out 0) |(go_at_call 50;(with_reducible refine (jxa.calls _ _ l0_0 ((jE l0_0 x8_1).f0) t203 _ ?side1 ?side2 A13.out).mono ?_);(case side1=>exact Kd.jH HR0_0.out (Y3));(case side2=>exact HC0_0.out);rintro e w48 ⟨rfl,hb⟩;replace BK198:=am (ji (g:=gb198) (o:=.cells #[.slice (some ad200) l0_0.length c0_0] 31 (0,0)) (Y15) hb);replace BK201:=am (ji (g:=gb201) (o:=.cells #[.string ((jE l0_0 x8_1).f0), .int .i64 ((jE l0_0 x8_1).f1)] 63 (0,0)) (Y16) hb);replace HB:=am (jc (Y3) hb);(try clear hb);(try clear hb2);(try clear hk);(try clear hi)))
         go_meet
         case rel=>exact ⟨_,(true),(sq),H',⟨by have:=HK1.out;first | omega | exact Nat.le_refl _⟩,⟨kq BK198.out⟩,⟨kq BK201.out⟩,⟨Y3⟩⟩
       ·replace c12:=Bool.eq_false_iff.mpr c12
        subst c12
        have H1:(jl.j1 k1 l0_0 (l0_0.length:Int) x8_1 true l0_0)=some r:=by rw [if_neg (show ¬ (false=true) by decide)] at H;exact H
        clear H
        have H:=H1
        clear H1
        have H':=am H
        clear H
        have hnb49:=NB201_198.out
        have hnc49:=NB198_201.out
        have hcz50_0:=bc0 BK201.out
        have hcz50_1:=bc1 BK201.out
        have hfz50_0:=ja BK201.out 0
        have hfz50_1:=ja BK201.out 1
        go_wp2_with (first |((with_reducible refine jf (f:=49) rfl ?_);refine gL (some 15) Tryd.func49 #[.string ((jE l0_0 x8_1).f0)] ?_;(with_reducible refine (jsa.calls k1 ((jE l0_0 x8_1).f0) false _ A11.out).mono ?_);rintro e w' ⟨rfl,⟨nd,rfl⟩⟩;refine ⟨_,rfl,?_⟩))
        go_meet
        case rel=>exact ⟨_,(true),(sq),H',⟨by have:=HK1.out;first | omega | exact Nat.le_refl _⟩,⟨by (with_reducible repeat (first | refine jO ?_ _ | refine jI ?_ | refine jJ ?_ _));refine jkb ?_ NB198_201.out _;(with_reducible repeat (first | refine jO ?_ _ | refine jI ?_ | refine jJ ?_ _));refine jkb ?_ NB198_201.out _;(with_reducible repeat (first | refine jO ?_ _ | refine jI ?_ | refine jJ ?_ _));exact BK198.out⟩,⟨by (with_reducible repeat (first | refine jO ?_ _ | refine jI ?_ | refine jJ ?_ _));refine jjb (cs:=#[.string ((jE l0_0 x8_1).f0), .int .i64 0]) ?_ 1 _ rfl;(with_reducible repeat (first | refine jO ?_ _ | refine jI ?_ | refine jJ ?_ _));refine jjb (cs:=#[.string (⟨#[]⟩:ByteArray), .int .i64 0]) ?_ 0 _ rfl;(with_reducible repeat (first | refine jO ?_ _ | refine jI ?_ | refine jJ ?_ _));exact BK201.out⟩,⟨Y3⟩⟩
      case rest =>
       clear HC7
       try clear c1
       try clear c2
       try clear p2
       try clear q2
       try clear hx2
       try clear c3
       try clear c4
       try clear c4b0
       try clear c5
       try clear c5b0
       try clear c6
       try clear c6b0
       try clear p6
       try clear c9
       try clear c12
       try clear c14
       try clear c14b0
       try clear c14b1
       try clear c15
       try clear c15b0
       try clear c15b1
       try clear c16
       try clear c16b0
       try clear c16b1
       try clear c17
       try clear c17b0
       try clear c19
       try clear p20
       try clear q20
       try clear hx20
       try clear c24
       try clear c28
       try clear c29
       try clear c34
       try clear c34b0
       try clear c36
       try clear c41
       try clear c45
       try clear c49
       try clear hcz10_0
       try clear hcz10_1
       try clear hcz20_0
       try clear hcz20_1
       try clear hcz21_0
       try clear hcz23_0
       try clear hcz23_1
       try clear hcz25_0
       try clear hcz25_1
       try clear hcz26_0
       try clear hcz28_0
       try clear hcz28_1
       try clear hcz30_0
       try clear hcz30_1
       try clear hcz31_0
       try clear hcz33_0
       try clear hcz33_1
       try clear hcz37_0
       try clear hcz37_1
       try clear hcz38_0
       try clear hcz3_0
       try clear hcz40_0
       try clear hcz40_1
       try clear hcz42_0
       try clear hcz42_1
       try clear hcz43_0
       try clear hcz46_0
       try clear hcz46_1
       try clear hcz47_0
       try clear hcz50_0
       try clear hcz50_1
       try clear hfz10_0
       try clear hfz10_1
       try clear hfz20_0
       try clear hfz20_1
       try clear hfz21_0
       try clear hfz23_0
       try clear hfz23_1
       try clear hfz25_0
       try clear hfz25_1
       try clear hfz26_0
       try clear hfz28_0
       try clear hfz28_1
       try clear hfz30_0
       try clear hfz30_1
       try clear hfz31_0
       try clear hfz33_0
       try clear hfz33_1
       try clear hfz37_0
       try clear hfz37_1
       try clear hfz38_0
       try clear hfz3_0
       try clear hfz40_0
       try clear hfz40_1
       try clear hfz42_0
       try clear hfz42_1
       try clear hfz43_0
       try clear hfz46_0
       try clear hfz46_1
       try clear hfz47_0
       try clear hfz50_0
       try clear hfz50_1
       try clear hx200_0
       try clear hx200_1
       try clear p2
       try clear p200
       try clear q200
       obtain ⟨kq,x45_6,rfl,HA,HJ6,BK198,BK201,HB⟩:=hcut
       cases kq with
       | zero=>exact absurd HA.out (by simp [jl.j1])
       | succ kj6 =>
        have H:=HA.out
        clear HA
        simp only [jl.j1] at H
        by_cases c51:x45_6=true
        ·subst c51
         have H1:(some false)=some r:=by rw [if_pos rfl] at H;exact H
         clear H
         have H:=H1
         clear H1
         obtain rfl:=Option.some.inj H
         go_wp2
         go_ret
         exact ⟨Y0,Y3⟩
        ·replace c51:=Bool.eq_false_iff.mpr c51
         subst c51
         have H1:(jl.l0 kj6 l0_0 (l0_0.length:Int) (wrap64 (x8_1+1)) l0_0)=some r:=by rw [if_neg (show ¬ (false=true) by decide)] at H;exact H
         clear H
         have H:=H1
         clear H1
         have H':=am H
         clear H
         go_wp2
         go_roundg kj6
         case measure=>have:=HK1.out;have:=HJ6.out;omega
         case rel=>exact ⟨(wrap64 (x8_1+1)),(sq),H',⟨by have:=HK1.out;have:=HJ6.out;omega⟩,⟨kq BK198.out⟩,⟨Y3⟩⟩
     ·rw [if_neg c6] at H
      exact absurd H (by simp)
    ·rw [if_neg c5] at H
     exact absurd H (by simp)
   ·rw [if_neg c4] at H
    have c4b0:decide (x8_1<(l0_0.length:Int))=false:=dzF c4
    clear c4
    replace H:=bzS H
    obtain ⟨t199,A520,H⟩:=H
    replace H:(some t199)=some r:=H
    have A52:=am A520
    clear A520
    obtain rfl:=Option.some.inj H
    have hcz53_0:=bc0 BK198.out
    have hfz53_0:=ja BK198.out 0
    go_wp2_with (first |((with_reducible refine jf (f:=30) rfl ?_);refine gL (some 50) Tryd.func30 #[.int .i64 (l0_0.length:Int), .int .i64 1, .int .i64 8] ?_;(with_reducible refine (jv.calls (l0_0.length:Int) 1 8 t199 _ A52.out).mono ?_);rintro e w' ⟨rfl,⟨nd,rfl⟩⟩;refine ⟨_,rfl,?_⟩))
    go_ret
    exact ⟨Y0,Y28⟩
def jIa.f (a0 : Int) : Option (Bool) := (jv.f a0 0 99).bind fun t206 => (some t206)
set_option maxHeartbeats 8000000 in
set_option maxRecDepth 100000 in
theorem jIa.calls (a0 : Int) (r : Bool) (w : World) (h : jIa.f a0 = some r) :
  Calls Tryd.prog 51 #[.int .i64 a0] w fun e w'=>e=.returned (.bool r)∧jAa w w':=by
 have H:((jv.f a0 0 99).bind fun t206=>(some t206))=some r:=h
 clear h
 replace H:=bzS H
 obtain ⟨t206,A20,H⟩:=H
 replace H:(some t206)=some r:=H
 have A2:=am A20
 clear A20
 obtain rfl:=Option.some.inj H
 go_enter Tryd.func51,Tryd.ntmps51
 go_wp2_with (first |((with_reducible refine jf (f:=30) rfl ?_);refine gL (some 4) Tryd.func30 #[.int .i64 a0, .int .i64 0, .int .i64 99] ?_;(with_reducible refine (jv.calls a0 0 99 t206 _ A2.out).mono ?_);rintro e w' ⟨rfl,⟨nd,rfl⟩⟩;refine ⟨_,rfl,?_⟩))
 go_ret
 exact ⟨sq,Y2⟩
def jGa.f (l0_0 : List (S63)) (a1 : Int) : Option (Bool) := (jv.f a1 0 (wrap64 ((l0_0.length : Int) - 1))).bind fun t208 => (some t208)
set_option maxHeartbeats 8000000 in
set_option maxRecDepth 100000 in
theorem jGa.calls (A0_0 : Option Addr) (c0_0 : Nat) (l0_0 : List (S63)) (a1 : Int) (r : Bool) (w : World) (hr0_0 : Kd.C k63 w A0_0 l0_0.length l0_0) (hc0_0 : l0_0.length ≤ c0_0) (h : jGa.f l0_0 a1 = some r) :
  Calls Tryd.prog 52 #[.agg #[.slice A0_0 l0_0.length c0_0], .int .i64 a1] w fun e w'=>e=.returned (.bool r)∧Below w.heap.size w w':=by
 have hu31:=Tryd.underlying31
 have HR0_0:=am hr0_0
 have HC0_0:=am hc0_0
 clear hr0_0 hc0_0
 have HB:=am (Below.refl w.heap.size w)
 have H:((jv.f a1 0 (wrap64 ((l0_0.length:Int) - 1))).bind fun t208=>(some t208))=some r:=h
 clear h
 replace H:=bzS H
 obtain ⟨t208,A30,H⟩:=H
 replace H:(some t208)=some r:=H
 have A3:=am A30
 clear A30
 obtain rfl:=Option.some.inj H
 go_enter Tryd.func52,Tryd.ntmps52
 go_wp2_with (first |((with_reducible refine jN (N:=2) rfl ?_);refine bE (N:=2) (cs:=#[.slice A0_0 l0_0.length c0_0]) (t:=31) ?_;intro gb207 hg w4 hbox hb;have BK207:=am (hbox);have GW207:=am ((Y1:w.heap.size≤gb207));have GE207:=am ((Y1:w.heap.size≤gb207));replace HB:=am (jc (bq) hb);clear hb hbox hg;have hcz5_0:=bc0 BK207.out;have hfz5_0:=ja BK207.out 0) |((with_reducible refine jf (f:=30) rfl ?_);refine gL (some 10) Tryd.func30 #[.int .i64 a1, .int .i64 0, .int .i64 (wrap64 ((l0_0.length:Int) - 1))] ?_;(with_reducible refine (jv.calls a1 0 (wrap64 ((l0_0.length:Int) - 1)) t208 _ A3.out).mono ?_);rintro e w' ⟨rfl,⟨nd,rfl⟩⟩;refine ⟨_,rfl,?_⟩))
 go_ret
 exact ⟨Y0,by repeat (first |(with_reducible first | exact HB.out | apply jA | apply je | apply jy | refine jB ?_ GE207.out) | exact HB.out)⟩
def jba.j0 : Nat → Int → Bool → Int → Int → Int → Int → List (S63) → Option (Bool)
 | 0,_,_,_,_,_,_,_=>none
 | k+1,x6,x7,x210000,x210001,x210002,x210003,x211000=>if x7=true then ((jIa.f x210002).bind fun t211=>(if t211=true then (some (x210003 == 0)) else (some false))) else (if x6=2 then ((jGa.f x211000 x210002).bind fun t212=>(if t212=true then ((jIa.f x210003).bind fun t213=>(some t213)) else (some false))) else (if x6=8 then ((jGa.f x211000 x210002).bind fun t214=>(if t214=true then (some (x210003 == 0)) else (some false))) else (if x6=11 then ((jv.f x210002 0 9).bind fun t215=>(if t215=true then ((jv.f x210003 0 1).bind fun t216=>(some t216)) else (some false))) else (if x6=12 then ((jv.f x210002 0 3).bind fun t217=>(if t217=true then (some (x210003 == 0)) else (some false))) else ((jv.f x210001 0 12).bind fun t218=>(if t218=true then (if x210002=0 then (some (x210003 == 0)) else (some false)) else (some false)))))))
def jba.f (k : Nat) (a0_0 : Int) (a0_1 : Int) (a0_2 : Int) (a0_3 : Int) (l1_0 : List (S63)) : Option (Bool) := if a0_1 = 1 then (jba.j0 k a0_1 (a0_1 == 1) a0_0 a0_1 a0_2 a0_3 l1_0) else (jba.j0 k a0_1 (a0_1 == 4) a0_0 a0_1 a0_2 a0_3 l1_0)
set_option maxHeartbeats 8000000 in
set_option maxRecDepth 100000 in
theorem jba.calls (k : Nat) (a0_0 : Int) (a0_1 : Int) (a0_2 : Int) (a0_3 : Int) (A1_0 : Option Addr) (c1_0 : Nat) (l1_0 : List (S63)) (r : Bool) (w : World) (hr1_0 : Kd.C k63 w A1_0 l1_0.length l1_0) (hc1_0 : l1_0.length ≤ c1_0) (h : jba.f k a0_0 a0_1 a0_2 a0_3 l1_0 = some r) :
  Calls Tryd.prog 29 #[.agg #[.int .i64 a0_0, .int .i64 a0_1, .int .i64 a0_2, .int .i64 a0_3], .agg #[.slice A1_0 l1_0.length c1_0]] w fun e w'=>e=.returned (.bool r)∧Below w.heap.size w w':=by
 have hu42:=Tryd.underlying42
 have hu31:=Tryd.underlying31
 have HR1_0:=am hr1_0
 have HC1_0:=am hc1_0
 clear hr1_0 hc1_0
 have HB:=am (Below.refl w.heap.size w)
 have H:(if a0_1=1 then (jba.j0 k a0_1 (a0_1 == 1) a0_0 a0_1 a0_2 a0_3 l1_0) else (jba.j0 k a0_1 (a0_1 == 4) a0_0 a0_1 a0_2 a0_3 l1_0))=some r:=h
 clear h
 have HC3:=am H
 clear H
 go_enter Tryd.func29,Tryd.ntmps29
 go_upto_if 7 with (first |((with_reducible refine jN (N:=2) rfl ?_);refine bE (N:=2) (cs:=#[.int .i64 a0_0, .int .i64 a0_1, .int .i64 a0_2, .int .i64 a0_3]) (t:=42) ?_;intro gb209 hg w4 hbox hb;have BK209:=am (hbox);have GW209:=am ((Y1:w.heap.size≤gb209));have GE209:=am ((Y1:w.heap.size≤gb209));replace HB:=am (jc (bq) hb);clear hb hbox hg) |((with_reducible refine jN (N:=3) rfl ?_);refine bE (N:=3) (cs:=#[.slice A1_0 l1_0.length c1_0]) (t:=31) ?_;intro gb210 hg w5 hbox hb;have BK210:=am (hbox);have GW210:=am ((Y45:w.heap.size≤gb210));have GE210:=am ((Y45:w.heap.size≤gb210));have NB209_210:=am ((by rw [hg];exact Nat.ne_of_lt (jEa (g:=gb209) (o:=.cells #[.int .i64 a0_0, .int .i64 a0_1, .int .i64 a0_2, .int .i64 a0_3] 42 (0,0)) (kq BK209.out)):gb209≠gb210));have NB210_209:=am ((by rw [hg];exact Nat.ne_of_gt (jEa (g:=gb209) (o:=.cells #[.int .i64 a0_0, .int .i64 a0_1, .int .i64 a0_2, .int .i64 a0_3] 42 (0,0)) (kq BK209.out)):gb210≠gb209));replace BK209:=am (ji (g:=gb209) (o:=.cells #[.int .i64 a0_0, .int .i64 a0_1, .int .i64 a0_2, .int .i64 a0_3] 42 (0,0)) (kq BK209.out) hb);replace HB:=am (jc (by repeat (first |(with_reducible first | exact HB.out | apply jA | apply je | apply jy | refine jB ?_ GE209.out) | exact HB.out)) hb);clear hb hbox hg;have hnb6:=NB209_210.out;have hnc6:=NB210_209.out;have hcz7_0:=bc0 BK209.out;have hcz7_1:=bc1 BK209.out;have hcz7_2:=bc2 BK209.out;have hcz7_3:=bc3 BK209.out;have hfz7_0:=ja BK209.out 0;have hfz7_1:=ja BK209.out 1;have hfz7_2:=ja BK209.out 2;have hfz7_3:=ja BK209.out 3))
 (try simp only [Act.put,List.setIfInBounds_toArray,List.set_cons_zero,List.set_cons_succ])
 go_cut [7] (fun v7 wc=>∃ (kq:Nat) (x7_2:Bool),v7=.bool x7_2∧jD (jba.j0 kq a0_1 x7_2 a0_0 a0_1 a0_2 a0_3 l1_0=some r)∧jD (kq≤k)∧jD (wc.heap[gb209]?=some (.cells #[.int .i64 a0_0, .int .i64 a0_1, .int .i64 a0_2, .int .i64 a0_3] 42 (0,0)))∧jD (wc.heap[gb210]?=some (.cells #[(.slice A1_0 l1_0.length c1_0)] 31 (0,0)))∧jD (Below w.heap.size w wc))
 case first =>
  have H:=HC3.out
  clear HC3
  by_cases c8:a0_1=1
  ·rw [if_pos c8] at H
   have c8b0:(a0_1 == 1)=true:=beq_iff_eq.mpr c8
   have c8b1:(a0_1 != 1)=false:=bne_eq_false_iff_eq.mpr c8
   clear c8
   (first | rw [c8b0] |(simp only [jlb,job];rw [c8b0]) | skip)
   have H':=am H
   clear H
   go_wp2
   go_meet
   case rel=>exact ⟨_,((a0_1 == 1)),(sq),H',⟨by first | omega | exact Nat.le_refl _⟩,⟨kq BK209.out⟩,⟨kq BK210.out⟩,⟨Y5⟩⟩
  ·rw [if_neg c8] at H
   have c8b0:(a0_1 == 1)=false:=beq_eq_false_iff_ne.mpr c8
   have c8b1:(a0_1 != 1)=true:=bne_iff_ne.mpr c8
   (first | rw [c8b0] |(simp only [jlb,job];rw [c8b0]) | skip)
   have H':=am H
   clear H
   go_wp2
   go_meet
   case rel=>exact ⟨_,((a0_1 == 4)),(sq),H',⟨by first | omega | exact Nat.le_refl _⟩,⟨kq BK209.out⟩,⟨kq BK210.out⟩,⟨Y5⟩⟩
 case rest =>
  clear HC3
  try clear c1
  try clear c2
  try clear p2
  try clear c6
  try clear c8
  try clear c8b0
  try clear c8b1
  try clear hcz7_0
  try clear hcz7_1
  try clear hcz7_2
  try clear hcz7_3
  try clear hfz7_0
  try clear hfz7_1
  try clear hfz7_2
  try clear hfz7_3
  obtain ⟨kq,x7_2,rfl,HA,HJ2,BK209,BK210,HB⟩:=hcut
  cases kq with
  | zero=>exact absurd HA.out (by simp [jba.j0])
  | succ kj2 =>
   have H:=HA.out
   clear HA
   simp only [jba.j0] at H
   by_cases c9:x7_2=true
   ·subst c9
    have H1:((jIa.f a0_2).bind fun t211=>(if t211=true then (some (a0_3 == 0)) else (some false)))=some r:=by rw [if_pos rfl] at H;exact H
    clear H
    have H:=H1
    clear H1
    replace H:=bzS H
    obtain ⟨t211,A100,H⟩:=H
    replace H:(if t211=true then (some (a0_3 == 0)) else (some false))=some r:=H
    have A10:=am A100
    clear A100
    by_cases c11:t211=true
    ·subst c11
     have H1:(some (a0_3 == 0))=some r:=by rw [if_pos rfl] at H;exact H
     clear H
     have H:=H1
     clear H1
     obtain rfl:=Option.some.inj H
     have hnb12:=NB209_210.out
     have hnc12:=NB210_209.out
     have hcz13_0:=bc0 BK209.out
     have hcz13_1:=bc1 BK209.out
     have hcz13_2:=bc2 BK209.out
     have hcz13_3:=bc3 BK209.out
     have hfz13_0:=ja BK209.out 0
     have hfz13_1:=ja BK209.out 1
     have hfz13_2:=ja BK209.out 2
     have hfz13_3:=ja BK209.out 3
     go_wp2_with (first |((with_reducible refine jf (f:=51) rfl ?_);refine gL (some 12) Tryd.func51 #[.int .i64 a0_2] ?_;(with_reducible refine (jIa.calls a0_2 true _ A10.out).mono ?_);rintro e w' ⟨rfl,⟨nd,rfl⟩⟩;refine ⟨_,rfl,?_⟩))
     go_ret
     exact ⟨Y0,Y5⟩
    ·replace c11:=Bool.eq_false_iff.mpr c11
     subst c11
     have H1:(some false)=some r:=by rw [if_neg (show ¬ (false=true) by decide)] at H;exact H
     clear H
     have H:=H1
     clear H1
     obtain rfl:=Option.some.inj H
     have hnb14:=NB209_210.out
     have hnc14:=NB210_209.out
     have hcz15_0:=bc0 BK209.out
     have hcz15_1:=bc1 BK209.out
     have hcz15_2:=bc2 BK209.out
     have hcz15_3:=bc3 BK209.out
     have hfz15_0:=ja BK209.out 0
     have hfz15_1:=ja BK209.out 1
     have hfz15_2:=ja BK209.out 2
     have hfz15_3:=ja BK209.out 3
     go_wp2_with (first |((with_reducible refine jf (f:=51) rfl ?_);refine gL (some 12) Tryd.func51 #[.int .i64 a0_2] ?_;(with_reducible refine (jIa.calls a0_2 false _ A10.out).mono ?_);rintro e w' ⟨rfl,⟨nd,rfl⟩⟩;refine ⟨_,rfl,?_⟩))
     go_ret
     exact ⟨Y0,Y5⟩
   ·replace c9:=Bool.eq_false_iff.mpr c9
    subst c9
    have H1:(if a0_1=2 then ((jGa.f l1_0 a0_2).bind fun t212=>(if t212=true then ((jIa.f a0_3).bind fun t213=>(some t213)) else (some false))) else (if a0_1=8 then ((jGa.f l1_0 a0_2).bind fun t214=>(if t214=true then (some (a0_3 == 0)) else (some false))) else (if a0_1=11 then ((jv.f a0_2 0 9).bind fun t215=>(if t215=true then ((jv.f a0_3 0 1).bind fun t216=>(some t216)) else (some false))) else (if a0_1=12 then ((jv.f a0_2 0 3).bind fun t217=>(if t217=true then (some (a0_3 == 0)) else (some false))) else ((jv.f a0_1 0 12).bind fun t218=>(if t218=true then (if a0_2=0 then (some (a0_3 == 0)) else (some false)) else (some false)))))))=some r:=by rw [if_neg (show ¬ (false=true) by decide)] at H;exact H
    clear H
    have H:=H1
    clear H1
    by_cases c16:a0_1=2
    ·rw [if_pos c16] at H
     have c16b0:(a0_1 == 2)=true:=beq_iff_eq.mpr c16
     have c16b1:(a0_1 != 2)=false:=bne_eq_false_iff_eq.mpr c16
     clear c16
     replace H:=bzS H
     obtain ⟨t212,A170,H⟩:=H
     replace H:(if t212=true then ((jIa.f a0_3).bind fun t213=>(some t213)) else (some false))=some r:=H
     have A17:=am A170
     clear A170
     by_cases c18:t212=true
     ·subst c18
      have H1:((jIa.f a0_3).bind fun t213=>(some t213))=some r:=by rw [if_pos rfl] at H;exact H
      clear H
      have H:=H1
      clear H1
      replace H:=bzS H
      obtain ⟨t213,A190,H⟩:=H
      replace H:(some t213)=some r:=H
      have A19:=am A190
      clear A190
      obtain rfl:=Option.some.inj H
      have hnb20:=NB210_209.out
      have hnc20:=NB209_210.out
      have hcz21_0:=bc0 BK210.out
      have hfz21_0:=ja BK210.out 0
      have hcz22_0:=bc0 BK209.out
      have hcz22_1:=bc1 BK209.out
      have hcz22_2:=bc2 BK209.out
      have hcz22_3:=bc3 BK209.out
      have hfz22_0:=ja BK209.out 0
      have hfz22_1:=ja BK209.out 1
      have hfz22_2:=ja BK209.out 2
      have hfz22_3:=ja BK209.out 3
      go_wp2_with (first |((with_reducible refine jf (f:=52) rfl ?_);refine gL (some 23) Tryd.func52 #[.agg #[.slice A1_0 l1_0.length c1_0], .int .i64 a0_2] ?_;(with_reducible refine (jGa.calls _ _ l1_0 a0_2 true _ ?side1 ?side2 A17.out).mono ?_);(case side1=>exact cq (Kd.jH HR1_0.out HB.out));(case side2=>exact HC1_0.out);rintro e w23 ⟨rfl,hb⟩;refine ⟨_,rfl,?_⟩;replace BK209:=am (ji (g:=gb209) (o:=.cells #[.int .i64 a0_0, .int .i64 a0_1, .int .i64 a0_2, .int .i64 a0_3] 42 (0,0)) (kq BK209.out) hb);replace BK210:=am (ji (g:=gb210) (o:=.cells #[.slice A1_0 l1_0.length c1_0] 31 (0,0)) (kq BK210.out) hb);replace HB:=am (jc (Y5) hb);(try clear hb);(try clear hb2);(try clear hk);(try clear hi);have hcz24_0:=bc0 BK209.out;have hcz24_1:=bc1 BK209.out;have hcz24_2:=bc2 BK209.out;have hcz24_3:=bc3 BK209.out;have hfz24_0:=ja BK209.out 0;have hfz24_1:=ja BK209.out 1;have hfz24_2:=ja BK209.out 2;have hfz24_3:=ja BK209.out 3) |(go_at_call 51;(with_reducible refine (jIa.calls a0_3 t213 _ A19.out).mono ?_);rintro e w' ⟨rfl,⟨nd,rfl⟩⟩))
      go_ret
      exact ⟨Y0,Y5⟩
     ·replace c18:=Bool.eq_false_iff.mpr c18
      subst c18
      have H1:(some false)=some r:=by rw [if_neg (show ¬ (false=true) by decide)] at H;exact H
      clear H
      have H:=H1
      clear H1
      obtain rfl:=Option.some.inj H
      have hnb25:=NB210_209.out
      have hnc25:=NB209_210.out
      have hcz26_0:=bc0 BK210.out
      have hfz26_0:=ja BK210.out 0
      have hcz27_0:=bc0 BK209.out
      have hcz27_1:=bc1 BK209.out
      have hcz27_2:=bc2 BK209.out
      have hcz27_3:=bc3 BK209.out
      have hfz27_0:=ja BK209.out 0
      have hfz27_1:=ja BK209.out 1
      have hfz27_2:=ja BK209.out 2
      have hfz27_3:=ja BK209.out 3
      go_wp2_with (first |((with_reducible refine jf (f:=52) rfl ?_);refine gL (some 23) Tryd.func52 #[.agg #[.slice A1_0 l1_0.length c1_0], .int .i64 a0_2] ?_;(with_reducible refine (jGa.calls _ _ l1_0 a0_2 false _ ?side1 ?side2 A17.out).mono ?_);(case side1=>exact cq (Kd.jH HR1_0.out HB.out));(case side2=>exact HC1_0.out);rintro e w28 ⟨rfl,hb⟩;refine ⟨_,rfl,?_⟩;replace BK209:=am (ji (g:=gb209) (o:=.cells #[.int .i64 a0_0, .int .i64 a0_1, .int .i64 a0_2, .int .i64 a0_3] 42 (0,0)) (kq BK209.out) hb);replace BK210:=am (ji (g:=gb210) (o:=.cells #[.slice A1_0 l1_0.length c1_0] 31 (0,0)) (kq BK210.out) hb);replace HB:=am (jc (Y5) hb);(try clear hb);(try clear hb2);(try clear hk);(try clear hi)))
      go_ret
      exact ⟨Y0,Y5⟩
    ·rw [if_neg c16] at H
     have c16b0:(a0_1 == 2)=false:=beq_eq_false_iff_ne.mpr c16
     have c16b1:(a0_1 != 2)=true:=bne_iff_ne.mpr c16
     by_cases c29:a0_1=8
     ·rw [if_pos c29] at H
      have c29b0:(a0_1 == 8)=true:=beq_iff_eq.mpr c29
      have c29b1:(a0_1 != 8)=false:=bne_eq_false_iff_eq.mpr c29
      clear c29
      replace H:=bzS H
      obtain ⟨t214,A300,H⟩:=H
      replace H:(if t214=true then (some (a0_3 == 0)) else (some false))=some r:=H
      have A30:=am A300
      clear A300
      by_cases c31:t214=true
      ·subst c31
       have H1:(some (a0_3 == 0))=some r:=by rw [if_pos rfl] at H;exact H
       clear H
       have H:=H1
       clear H1
       obtain rfl:=Option.some.inj H
       have hnb32:=NB210_209.out
       have hnc32:=NB209_210.out
       have hcz33_0:=bc0 BK210.out
       have hfz33_0:=ja BK210.out 0
       have hcz34_0:=bc0 BK209.out
       have hcz34_1:=bc1 BK209.out
       have hcz34_2:=bc2 BK209.out
       have hcz34_3:=bc3 BK209.out
       have hfz34_0:=ja BK209.out 0
       have hfz34_1:=ja BK209.out 1
       have hfz34_2:=ja BK209.out 2
       have hfz34_3:=ja BK209.out 3
       go_wp2_with (first |((with_reducible refine jf (f:=52) rfl ?_);refine gL (some 34) Tryd.func52 #[.agg #[.slice A1_0 l1_0.length c1_0], .int .i64 a0_2] ?_;(with_reducible refine (jGa.calls _ _ l1_0 a0_2 true _ ?side1 ?side2 A30.out).mono ?_);(case side1=>exact cq (Kd.jH HR1_0.out HB.out));(case side2=>exact HC1_0.out);rintro e w35 ⟨rfl,hb⟩;refine ⟨_,rfl,?_⟩;replace BK209:=am (ji (g:=gb209) (o:=.cells #[.int .i64 a0_0, .int .i64 a0_1, .int .i64 a0_2, .int .i64 a0_3] 42 (0,0)) (kq BK209.out) hb);replace BK210:=am (ji (g:=gb210) (o:=.cells #[.slice A1_0 l1_0.length c1_0] 31 (0,0)) (kq BK210.out) hb);replace HB:=am (jc (Y5) hb);(try clear hb);(try clear hb2);(try clear hk);(try clear hi);have hcz36_0:=bc0 BK209.out;have hcz36_1:=bc1 BK209.out;have hcz36_2:=bc2 BK209.out;have hcz36_3:=bc3 BK209.out;have hfz36_0:=ja BK209.out 0;have hfz36_1:=ja BK209.out 1;have hfz36_2:=ja BK209.out 2;have hfz36_3:=ja BK209.out 3))
       go_ret
       exact ⟨Y0,Y5⟩
      ·replace c31:=Bool.eq_false_iff.mpr c31
       subst c31
       have H1:(some false)=some r:=by rw [if_neg (show ¬ (false=true) by decide)] at H;exact H
       clear H
       have H:=H1
       clear H1
       obtain rfl:=Option.some.inj H
       have hnb37:=NB210_209.out
       have hnc37:=NB209_210.out
       have hcz38_0:=bc0 BK210.out
       have hfz38_0:=ja BK210.out 0
       have hcz39_0:=bc0 BK209.out
       have hcz39_1:=bc1 BK209.out
       have hcz39_2:=bc2 BK209.out
       have hcz39_3:=bc3 BK209.out
       have hfz39_0:=ja BK209.out 0
       have hfz39_1:=ja BK209.out 1
       have hfz39_2:=ja BK209.out 2
       have hfz39_3:=ja BK209.out 3
       go_wp2_with (first |((with_reducible refine jf (f:=52) rfl ?_);refine gL (some 34) Tryd.func52 #[.agg #[.slice A1_0 l1_0.length c1_0], .int .i64 a0_2] ?_;(with_reducible refine (jGa.calls _ _ l1_0 a0_2 false _ ?side1 ?side2 A30.out).mono ?_);(case side1=>exact cq (Kd.jH HR1_0.out HB.out));(case side2=>exact HC1_0.out);rintro e w40 ⟨rfl,hb⟩;refine ⟨_,rfl,?_⟩;replace BK209:=am (ji (g:=gb209) (o:=.cells #[.int .i64 a0_0, .int .i64 a0_1, .int .i64 a0_2, .int .i64 a0_3] 42 (0,0)) (kq BK209.out) hb);replace BK210:=am (ji (g:=gb210) (o:=.cells #[.slice A1_0 l1_0.length c1_0] 31 (0,0)) (kq BK210.out) hb);replace HB:=am (jc (Y5) hb);(try clear hb);(try clear hb2);(try clear hk);(try clear hi)))
       go_ret
       exact ⟨Y0,Y5⟩
     ·rw [if_neg c29] at H
      have c29b0:(a0_1 == 8)=false:=beq_eq_false_iff_ne.mpr c29
      have c29b1:(a0_1 != 8)=true:=bne_iff_ne.mpr c29
      by_cases c41:a0_1=11
      ·rw [if_pos c41] at H
       have c41b0:(a0_1 == 11)=true:=beq_iff_eq.mpr c41
       have c41b1:(a0_1 != 11)=false:=bne_eq_false_iff_eq.mpr c41
       clear c41
       replace H:=bzS H
       obtain ⟨t215,A420,H⟩:=H
       replace H:(if t215=true then ((jv.f a0_3 0 1).bind fun t216=>(some t216)) else (some false))=some r:=H
       have A42:=am A420
       clear A420
       by_cases c43:t215=true
       ·subst c43
        have H1:((jv.f a0_3 0 1).bind fun t216=>(some t216))=some r:=by rw [if_pos rfl] at H;exact H
        clear H
        have H:=H1
        clear H1
        replace H:=bzS H
        obtain ⟨t216,A440,H⟩:=H
        replace H:(some t216)=some r:=H
        have A44:=am A440
        clear A440
        obtain rfl:=Option.some.inj H
        have hnb45:=NB209_210.out
        have hnc45:=NB210_209.out
        have hcz46_0:=bc0 BK209.out
        have hcz46_1:=bc1 BK209.out
        have hcz46_2:=bc2 BK209.out
        have hcz46_3:=bc3 BK209.out
        have hfz46_0:=ja BK209.out 0
        have hfz46_1:=ja BK209.out 1
        have hfz46_2:=ja BK209.out 2
        have hfz46_3:=ja BK209.out 3
        go_wp2_with (first |((with_reducible refine jf (f:=30) rfl ?_);refine gL (some 44) Tryd.func30 #[.int .i64 a0_2, .int .i64 0, .int .i64 9] ?_;(with_reducible refine (jv.calls a0_2 0 9 true _ A42.out).mono ?_);rintro e w' ⟨rfl,⟨nd,rfl⟩⟩;refine ⟨_,rfl,?_⟩) |(go_at_call 30;(with_reducible refine (jv.calls a0_3 0 1 t216 _ A44.out).mono ?_);rintro e w' ⟨rfl,⟨nd,rfl⟩⟩))
        go_ret
        exact ⟨Y0,Y5⟩
       ·replace c43:=Bool.eq_false_iff.mpr c43
        subst c43
        have H1:(some false)=some r:=by rw [if_neg (show ¬ (false=true) by decide)] at H;exact H
        clear H
        have H:=H1
        clear H1
        obtain rfl:=Option.some.inj H
        have hnb47:=NB209_210.out
        have hnc47:=NB210_209.out
        have hcz48_0:=bc0 BK209.out
        have hcz48_1:=bc1 BK209.out
        have hcz48_2:=bc2 BK209.out
        have hcz48_3:=bc3 BK209.out
        have hfz48_0:=ja BK209.out 0
        have hfz48_1:=ja BK209.out 1
        have hfz48_2:=ja BK209.out 2
        have hfz48_3:=ja BK209.out 3
        go_wp2_with (first |((with_reducible refine jf (f:=30) rfl ?_);refine gL (some 44) Tryd.func30 #[.int .i64 a0_2, .int .i64 0, .int .i64 9] ?_;(with_reducible refine (jv.calls a0_2 0 9 false _ A42.out).mono ?_);rintro e w' ⟨rfl,⟨nd,rfl⟩⟩;refine ⟨_,rfl,?_⟩))
        go_ret
        exact ⟨Y0,Y5⟩
      ·rw [if_neg c41] at H
       have c41b0:(a0_1 == 11)=false:=beq_eq_false_iff_ne.mpr c41
       have c41b1:(a0_1 != 11)=true:=bne_iff_ne.mpr c41
       by_cases c49:a0_1=12
       ·rw [if_pos c49] at H
        have c49b0:(a0_1 == 12)=true:=beq_iff_eq.mpr c49
        have c49b1:(a0_1 != 12)=false:=bne_eq_false_iff_eq.mpr c49
        clear c49
        replace H:=bzS H
        obtain ⟨t217,A500,H⟩:=H
        replace H:(if t217=true then (some (a0_3 == 0)) else (some false))=some r:=H
        have A50:=am A500
        clear A500
        by_cases c51:t217=true
        ·subst c51
         have H1:(some (a0_3 == 0))=some r:=by rw [if_pos rfl] at H;exact H
         clear H
         have H:=H1
         clear H1
         obtain rfl:=Option.some.inj H
         have hnb52:=NB209_210.out
         have hnc52:=NB210_209.out
         have hcz53_0:=bc0 BK209.out
         have hcz53_1:=bc1 BK209.out
         have hcz53_2:=bc2 BK209.out
         have hcz53_3:=bc3 BK209.out
         have hfz53_0:=ja BK209.out 0
         have hfz53_1:=ja BK209.out 1
         have hfz53_2:=ja BK209.out 2
         have hfz53_3:=ja BK209.out 3
         go_wp2_with (first |((with_reducible refine jf (f:=30) rfl ?_);refine gL (some 54) Tryd.func30 #[.int .i64 a0_2, .int .i64 0, .int .i64 3] ?_;(with_reducible refine (jv.calls a0_2 0 3 true _ A50.out).mono ?_);rintro e w' ⟨rfl,⟨nd,rfl⟩⟩;refine ⟨_,rfl,?_⟩))
         go_ret
         exact ⟨Y0,Y5⟩
        ·replace c51:=Bool.eq_false_iff.mpr c51
         subst c51
         have H1:(some false)=some r:=by rw [if_neg (show ¬ (false=true) by decide)] at H;exact H
         clear H
         have H:=H1
         clear H1
         obtain rfl:=Option.some.inj H
         have hnb54:=NB209_210.out
         have hnc54:=NB210_209.out
         have hcz55_0:=bc0 BK209.out
         have hcz55_1:=bc1 BK209.out
         have hcz55_2:=bc2 BK209.out
         have hcz55_3:=bc3 BK209.out
         have hfz55_0:=ja BK209.out 0
         have hfz55_1:=ja BK209.out 1
         have hfz55_2:=ja BK209.out 2
         have hfz55_3:=ja BK209.out 3
         go_wp2_with (first |((with_reducible refine jf (f:=30) rfl ?_);refine gL (some 54) Tryd.func30 #[.int .i64 a0_2, .int .i64 0, .int .i64 3] ?_;(with_reducible refine (jv.calls a0_2 0 3 false _ A50.out).mono ?_);rintro e w' ⟨rfl,⟨nd,rfl⟩⟩;refine ⟨_,rfl,?_⟩))
         go_ret
         exact ⟨Y0,Y5⟩
       ·rw [if_neg c49] at H
        have c49b0:(a0_1 == 12)=false:=beq_eq_false_iff_ne.mpr c49
        have c49b1:(a0_1 != 12)=true:=bne_iff_ne.mpr c49
        replace H:=bzS H
        obtain ⟨t218,A560,H⟩:=H
        replace H:(if t218=true then (if a0_2=0 then (some (a0_3 == 0)) else (some false)) else (some false))=some r:=H
        have A56:=am A560
        clear A560
        by_cases c57:t218=true
        ·subst c57
         have H1:(if a0_2=0 then (some (a0_3 == 0)) else (some false))=some r:=by rw [if_pos rfl] at H;exact H
         clear H
         have H:=H1
         clear H1
         by_cases c58:a0_2=0
         ·rw [if_pos c58] at H
          have c58b0:(a0_2 == 0)=true:=beq_iff_eq.mpr c58
          have c58b1:(a0_2 != 0)=false:=bne_eq_false_iff_eq.mpr c58
          clear c58
          obtain rfl:=Option.some.inj H
          have hnb59:=NB209_210.out
          have hnc59:=NB210_209.out
          have hcz60_0:=bc0 BK209.out
          have hcz60_1:=bc1 BK209.out
          have hcz60_2:=bc2 BK209.out
          have hcz60_3:=bc3 BK209.out
          have hfz60_0:=ja BK209.out 0
          have hfz60_1:=ja BK209.out 1
          have hfz60_2:=ja BK209.out 2
          have hfz60_3:=ja BK209.out 3
          go_wp2_with (first |((with_reducible refine jf (f:=30) rfl ?_);refine gL (some 62) Tryd.func30 #[.int .i64 a0_1, .int .i64 0, .int .i64 12] ?_;(with_reducible refine (jv.calls a0_1 0 12 true _ A56.out).mono ?_);rintro e w' ⟨rfl,⟨nd,rfl⟩⟩;refine ⟨_,rfl,?_⟩))
          go_ret
          exact ⟨Y0,Y5⟩
         ·rw [if_neg c58] at H
          have c58b0:(a0_2 == 0)=false:=beq_eq_false_iff_ne.mpr c58
          have c58b1:(a0_2 != 0)=true:=bne_iff_ne.mpr c58
          obtain rfl:=Option.some.inj H
          have hnb61:=NB209_210.out
          have hnc61:=NB210_209.out
          have hcz62_0:=bc0 BK209.out
          have hcz62_1:=bc1 BK209.out
          have hcz62_2:=bc2 BK209.out
          have hcz62_3:=bc3 BK209.out
          have hfz62_0:=ja BK209.out 0
          have hfz62_1:=ja BK209.out 1
          have hfz62_2:=ja BK209.out 2
          have hfz62_3:=ja BK209.out 3
          go_wp2_with (first |((with_reducible refine jf (f:=30) rfl ?_);refine gL (some 62) Tryd.func30 #[.int .i64 a0_1, .int .i64 0, .int .i64 12] ?_;(with_reducible refine (jv.calls a0_1 0 12 true _ A56.out).mono ?_);rintro e w' ⟨rfl,⟨nd,rfl⟩⟩;refine ⟨_,rfl,?_⟩))
          go_ret
          exact ⟨Y0,Y5⟩
        ·replace c57:=Bool.eq_false_iff.mpr c57
         subst c57
         have H1:(some false)=some r:=by rw [if_neg (show ¬ (false=true) by decide)] at H;exact H
         clear H
         have H:=H1
         clear H1
         obtain rfl:=Option.some.inj H
         have hnb63:=NB209_210.out
         have hnc63:=NB210_209.out
         have hcz64_0:=bc0 BK209.out
         have hcz64_1:=bc1 BK209.out
         have hcz64_2:=bc2 BK209.out
         have hcz64_3:=bc3 BK209.out
         have hfz64_0:=ja BK209.out 0
         have hfz64_1:=ja BK209.out 1
         have hfz64_2:=ja BK209.out 2
         have hfz64_3:=ja BK209.out 3
         go_wp2_with (first |((with_reducible refine jf (f:=30) rfl ?_);refine gL (some 62) Tryd.func30 #[.int .i64 a0_1, .int .i64 0, .int .i64 12] ?_;(with_reducible refine (jv.calls a0_1 0 12 false _ A56.out).mono ?_);rintro e w' ⟨rfl,⟨nd,rfl⟩⟩;refine ⟨_,rfl,?_⟩))
         go_ret
         exact ⟨Y0,Y5⟩
def jTa.f (a0_0 : Int) (a0_1 : Int) (a0_2 : Int) (a0_3 : Int) : Option (Bool) := (jv.f a0_1 7 12).bind fun t220 => (some t220)
set_option maxHeartbeats 8000000 in
set_option maxRecDepth 100000 in
theorem jTa.calls (a0_0 : Int) (a0_1 : Int) (a0_2 : Int) (a0_3 : Int) (r : Bool) (w : World) (h : jTa.f a0_0 a0_1 a0_2 a0_3 = some r) :
  Calls Tryd.prog 31 #[.agg #[.int .i64 a0_0, .int .i64 a0_1, .int .i64 a0_2, .int .i64 a0_3]] w fun e w'=>e=.returned (.bool r)∧Below w.heap.size w w':=by
 have hu42:=Tryd.underlying42
 have HB:=am (Below.refl w.heap.size w)
 have H:((jv.f a0_1 7 12).bind fun t220=>(some t220))=some r:=h
 clear h
 replace H:=bzS H
 obtain ⟨t220,A20,H⟩:=H
 replace H:(some t220)=some r:=H
 have A2:=am A20
 clear A20
 obtain rfl:=Option.some.inj H
 go_enter Tryd.func31,Tryd.ntmps31
 go_wp2_with (first |((with_reducible refine jN (N:=1) rfl ?_);refine bE (N:=1) (cs:=#[.int .i64 a0_0, .int .i64 a0_1, .int .i64 a0_2, .int .i64 a0_3]) (t:=42) ?_;intro gb219 hg w3 hbox hb;have BK219:=am (hbox);have GW219:=am ((Y1:w.heap.size≤gb219));have GE219:=am ((Y1:w.heap.size≤gb219));replace HB:=am (jc (bq) hb);clear hb hbox hg;have hcz4_0:=bc0 BK219.out;have hcz4_1:=bc1 BK219.out;have hcz4_2:=bc2 BK219.out;have hcz4_3:=bc3 BK219.out;have hfz4_0:=ja BK219.out 0;have hfz4_1:=ja BK219.out 1;have hfz4_2:=ja BK219.out 2;have hfz4_3:=ja BK219.out 3) |((with_reducible refine jf (f:=30) rfl ?_);refine gL (some 5) Tryd.func30 #[.int .i64 a0_1, .int .i64 7, .int .i64 12] ?_;(with_reducible refine (jv.calls a0_1 7 12 t220 _ A2.out).mono ?_);rintro e w' ⟨rfl,⟨nd,rfl⟩⟩;refine ⟨_,rfl,?_⟩))
 go_ret
 exact ⟨Y0,by repeat (first |(with_reducible first | exact HB.out | apply jA | apply je | apply jy | refine jB ?_ GE219.out) | exact HB.out)⟩
def jS.l0 : Nat → List (S42) → Int → Int → Option (Int)
 | 0,_,_,_=>none
 | k+1,x0,x1,x5=>if x5<(x0.length:Int) then (if 0≤x5 then (if 0≤x1 then (if x1<(x0.length:Int) then (if ((jb x0 x5).f0) > ((jb x0 x1).f0) then (jS.l0 k x0 x1 (wrap64 (x5+1))) else (some x5)) else (none)) else (none)) else (none)) else (some x5)
def jS.f (k : Nat) (l0 : List (S42)) (a1 : Int) : Option (Int) := jS.l0 k l0 a1 (wrap64 (a1 + 1))
set_option maxHeartbeats 8000000 in
set_option maxRecDepth 100000 in
theorem jS.calls (k : Nat) (A0 : Option Addr) (c0 : Nat) (l0 : List (S42)) (a1 : Int) (r : Int) (w : World) (hr0 : Kd.C k42 w A0 l0.length l0) (hc0 : l0.length ≤ c0) (h : jS.f k l0 a1 = some r) :
  Calls Tryd.prog 56 #[.slice A0 l0.length c0, .int .i64 a1] w fun e w'=>e=.returned (.int .i64 r)∧jAa w w':=by
 have HR0:=am hr0
 have HC0:=am hc0
 clear hr0 hc0
 have H:(jS.l0 k l0 a1 (wrap64 (a1+1)))=some r:=h
 clear h
 have H':=am H
 clear H
 go_enter Tryd.func56,Tryd.ntmps56
 go_wp2
 repeat (go_quiet (fail);try go_wp2)
 go_loopg [5] k (fun kq v5 w'=>∃ (x5_1:Int),v5=.int .i64 x5_1∧jD (jS.l0 kq l0 a1 x5_1=some r)∧jD (kq≤k)∧jAa w w')
 case atStart=>exact ⟨(wrap64 (a1+1)),(sq),H',⟨Nat.le_refl _⟩,Y2⟩
 case round =>
  clear H'
  try clear p2
  obtain ⟨x5_1,rfl,HA,HK1,⟨m1,rfl⟩⟩:=hrel
  cases gk with
  | zero=>exact absurd HA.out (by simp [jS.l0])
  | succ k1 =>
   have H:=HA.out
   clear HA
   simp only [jS.l0] at H
   by_cases c3:x5_1<(l0.length:Int)
   ·rw [if_pos c3] at H
    have c3b0:decide (x5_1<(l0.length:Int))=true:=dzT c3
    clear c3
    by_cases c4:0≤x5_1
    ·rw [if_pos c4] at H
     have c4b0:decide (0≤x5_1)=true:=dzT c4
     clear c4
     by_cases c5:0≤a1
     ·rw [if_pos c5] at H
      have c5b0:decide (0≤a1)=true:=dzT c5
      clear c5
      by_cases c6:a1<(l0.length:Int)
      ·rw [if_pos c6] at H
       have c6b0:decide (a1<(l0.length:Int))=true:=dzT c6
       clear c6
       by_cases c7:((jb l0 x5_1).f0) > ((jb l0 a1).f0)
       ·rw [if_pos c7] at H
        have c7b0:decide (((jb l0 a1).f0)<((jb l0 x5_1).f0))=true:=dzT c7
        clear c7
        have H':=am H
        clear H
        have p221:0≤(x5_1:Int):=ozD (uq)
        have q221:x5_1<(l0.length:Int):=ozD (uq)
        obtain ⟨ad221,e221,hx221_0,hx221_1,hx221_2,hx221_3⟩:=jla HR0.out x5_1 p221 q221
        cases e221
        replace p221:=ezT p221
        replace q221:=ezT q221
        have p222:0≤(a1:Int):=ozD (uq)
        have q222:a1<(l0.length:Int):=ozD (uq)
        obtain ⟨ad222,e222,hx222_0,hx222_1,hx222_2,hx222_3⟩:=jla HR0.out a1 p222 q222
        obtain rfl:ad221=ad222:=(by injection e222)
        replace p222:=ezT p222
        replace q222:=ezT q222
        go_wp2
        repeat (go_quiet (fail);try go_wp2)
        go_roundg k1
        case measure=>have:=HK1.out;omega
        case rel=>exact ⟨(wrap64 (x5_1+1)),(sq),H',⟨by have:=HK1.out;omega⟩,Y2⟩
       ·rw [if_neg c7] at H
        have c7b0:decide (((jb l0 a1).f0)<((jb l0 x5_1).f0))=false:=dzF c7
        clear c7
        obtain rfl:=Option.some.inj H
        have p221:0≤(x5_1:Int):=ozD (uq)
        have q221:x5_1<(l0.length:Int):=ozD (uq)
        obtain ⟨ad221,e221,hx221_0,hx221_1,hx221_2,hx221_3⟩:=jla HR0.out x5_1 p221 q221
        cases e221
        replace p221:=ezT p221
        replace q221:=ezT q221
        have p222:0≤(a1:Int):=ozD (uq)
        have q222:a1<(l0.length:Int):=ozD (uq)
        obtain ⟨ad222,e222,hx222_0,hx222_1,hx222_2,hx222_3⟩:=jla HR0.out a1 p222 q222
        obtain rfl:ad221=ad222:=(by injection e222)
        replace p222:=ezT p222
        replace q222:=ezT q222
        go_wp2
        repeat (go_quiet (fail);try go_wp2)
        go_ret
        exact ⟨sq,Y2⟩
      ·rw [if_neg c6] at H
       exact absurd H (by simp)
     ·rw [if_neg c5] at H
      exact absurd H (by simp)
    ·rw [if_neg c4] at H
     exact absurd H (by simp)
   ·rw [if_neg c3] at H
    have c3b0:decide (x5_1<(l0.length:Int))=false:=dzF c3
    clear c3
    obtain rfl:=Option.some.inj H
    go_wp2
    repeat (go_quiet (fail);try go_wp2)
    go_ret
    exact ⟨sq,Y2⟩
def jga.l0 : Nat → List (S42) → Int → List Int → Int → Option (List Int)
 | 0,_,_,_,_=>none
 | k+1,x0,x2,x7,x8=>if x8<x2 then (if x7.length<17592186044416 then ((jS.f k x0 x8).bind fun t229=>(jga.l0 k x0 x2 (x7 ++ [x8]) t229)) else (none)) else (some x7)
def jga.f (k : Nat) (l0 : List (S42)) (a1 : Int) (a2 : Int) : Option (List Int) := jga.l0 k l0 a2 (([] : List Int)) a1
set_option maxHeartbeats 8000000 in
set_option maxRecDepth 100000 in
theorem jga.calls (k : Nat) (A0 : Option Addr) (c0 : Nat) (l0 : List (S42)) (a1 : Int) (a2 : Int) (r : List Int) (w : World) (hr0 : Kd.C k42 w A0 l0.length l0) (hc0 : l0.length ≤ c0) (h : jga.f k l0 a1 a2 = some r) :
  Calls Tryd.prog 53 #[.slice A0 l0.length c0, .int .i64 a1, .int .i64 a2] w fun e w'=>∃ v0_:Value,e=.returned (v0_)∧Kd.R (Kd.int .i64) 3 w' w.heap.size (fun _=>True) v0_ r∧Below w.heap.size w w':=by
 have HR0:=am hr0
 have HC0:=am hc0
 clear hr0 hc0
 have HB:=am (Below.refl w.heap.size w)
 have H:(jga.l0 k l0 a2 (([]:List Int)) a1)=some r:=h
 clear h
 obtain ⟨y223,hy223⟩:∃ y_:List Int,y_=(([]:List Int)):=⟨_,rfl⟩
 replace H:(jga.l0 k l0 a2 y223 a1)=some r:=by first |(rw [hy223];with_reducible exact H) |(have H2_:=(Option.bind_some _ _).symm.trans H;rw [hy223];with_reducible exact H2_) |(have H2_:=(Option.bind_some _ _).symm.trans H;with_reducible exact H2_) | with_reducible exact H |(rw [hy223];exact H) | exact H
 have Ny223:=am hy223
 clear hy223
 have H':=am H
 clear H
 go_enter Tryd.func53,Tryd.ntmps53
 go_wp2_with (first |((with_reducible refine jN (N:=9) rfl ?_);refine Kd.R_lit (Kd.int .i64) _ 3 ?hg (N:=9) ?hd (xs:=([]:List Int)) (inner:=[]) (ok:=fun _=>True) (okp:=fun _=>True) ?hr ?hp (fun _ hk=>hk) trivial (Below.refl _ _) (Nat.le_refl _) (by simp) ?_;(case hd=>rfl);(case hg=>rfl);(case hr=>exact Y11);(case hp=>exact (Reps.none _ _));intro v224 w4 ho5 hb hg_ hnew_;clear hg_ hnew_;(first | rw [← Ny223.out] at ho5 |(simp only [Int.reduceToNat] at ho5;rw [← Ny223.out] at ho5));have HO225:=am (Kd.jRa ho5 (jP (bq)));replace HB:=am (jc (bq) hb);clear hb ho5))
 go_loopg [7,8] k (fun kq v7 v8 w'=>∃ (x7_1:List Int) (x8_1:Int),v8=.int .i64 x8_1∧jD (jga.l0 kq l0 a2 x7_1 x8_1=some r)∧jD (kq≤k)∧jD (Kd.R (Kd.int .i64) 3 w' w.heap.size (fun _=>True) v7 x7_1)∧jD (Below w.heap.size w w'))
 case atStart=>exact ⟨(y223),(a1),(sq),H',⟨Nat.le_refl _⟩,⟨rq HO225.out⟩,⟨bq⟩⟩
 case round =>
  clear H'
  try clear p2
  try clear c5
  obtain ⟨x7_1,x8_1,rfl,HA,HK1,HO_7,HB⟩:=hrel
  cases gk with
  | zero=>exact absurd HA.out (by simp [jga.l0])
  | succ k1 =>
   have H:=HA.out
   clear HA
   simp only [jga.l0] at H
   by_cases c6:x8_1<a2
   ·rw [if_pos c6] at H
    have c6b0:decide (x8_1<a2)=true:=dzT c6
    clear c6
    by_cases c7:x7_1.length<17592186044416
    ·rw [if_pos c7] at H
     have LMc7:=am c7
     clear c7
     obtain ⟨y226,hy226⟩:∃ y_:List Int,y_=(x7_1 ++ [x8_1]):=⟨_,rfl⟩
     replace H:((jS.f k1 l0 x8_1).bind fun t229=>(jga.l0 k1 l0 a2 y226 t229))=some r:=by first |(rw [hy226];with_reducible exact H) |(have H2_:=(Option.bind_some _ _).symm.trans H;rw [hy226];with_reducible exact H2_) |(have H2_:=(Option.bind_some _ _).symm.trans H;with_reducible exact H2_) | with_reducible exact H |(rw [hy226];exact H) | exact H
     have Ny226:=am hy226
     clear hy226
     replace H:=bzS H
     obtain ⟨t229,A80,H⟩:=H
     replace H:(jga.l0 k1 l0 a2 y226 t229)=some r:=H
     have A8:=am A80
     clear A80
     have H':=am H
     clear H
     go_wp2_with (first |((with_reducible refine jub (b:=.append) (xs:=#[.tmp 17, .tmp 19]) rfl ?_);at_builtin;refine Kd.R_append (Kd.int .i64) (w0:=w) w.heap.size rfl (.tmp 17) (.tmp 19) 81 3 (.int .i64 0) 8 rfl Tryd.underlying81 info3 rfl (by decide) (by omega) u7 x7_1 x8_1 [.int .i64 x8_1] (fun _=>True) (fun _=>False) rfl rfl ?aP (fun _ hk=>hk.elim) ?aF ?aO ?aB ?aS ?aL ?_;(case aP=>exact rfl);(case aB=>exact (bq));(case aF=>exact (fun _ _=>trivial));(case aO=>exact (rq HO_7.out));(case aS=>exact (jP (bq)));(case aL=>have:=LMc7.out;omega);intro v227 w9 ho hb hg hat;rw [← Ny226.out] at ho;have n0_:=am (hb);have n1_:=am (ho);clear HB HO_7;have HB:=n0_;have HO228:=n1_;clear n0_ n1_ ho hb hg hat) |((with_reducible refine jf (f:=56) rfl ?_);refine gL (some 16) Tryd.func56 #[.slice A0 l0.length c0, .int .i64 x8_1] ?_;(with_reducible refine (jS.calls k1 _ _ l0 x8_1 t229 _ ?side1 ?side2 A8.out).mono ?_);(case side1=>exact cq (Kd.jH HR0.out HB.out));(case side2=>exact HC0.out);rintro e w' ⟨rfl,⟨nd,rfl⟩⟩;refine ⟨_,rfl,?_⟩))
     go_roundg k1
     case measure=>have:=HK1.out;omega
     case rel=>exact ⟨(y226),(t229),(sq),H',⟨by have:=HK1.out;omega⟩,⟨rq HO228.out⟩,⟨bq⟩⟩
    ·rw [if_neg c7] at H
     exact absurd H (by simp)
   ·rw [if_neg c6] at H
    have c6b0:decide (x8_1<a2)=false:=dzF c6
    clear c6
    obtain rfl:=Option.some.inj H
    go_wp2
    go_ret
    exact ⟨_,Y0,rq HO_7.out,bq⟩
end Go.Proofs.YtegpknnlggkcpaaDoor.P
end
