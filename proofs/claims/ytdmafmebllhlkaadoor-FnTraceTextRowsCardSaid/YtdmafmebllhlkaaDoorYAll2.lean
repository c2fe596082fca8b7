/- One part of the proofs on this program: functions of the program as plain functions, that the code comes to them, and facts on them. -/
import Derived.Lib.AppendIntMem
import Derived.Lib.SmallJoins
import Derived.Shelf.Strconv.Itoa3
import Derived.Shelf.Strings.OnBuilder
import Derived.Test.YtdmafmebllhlkaaDoorYAll1
import Derived.Test.YtdmafmebllhlkaaDoorYWAuto
section
namespace Go.Proofs.YtdmafmebllhlkaaDoor.P
open Go.RowKit Go.Proofs.YtdmafmebllhlkaaDoorW.PrintWords Go.Proofs.YtdmafmebllhlkaaDoorW.PrintLast Go.Proofs.YtdmafmebllhlkaaDoorW.PrintMore
attribute [local go_sem] jX jV jha jga jO jN jW jU jh
set_option linter.unusedVariables false
set_option linter.unusedSimpArgs false
attribute [local go_sem high] eqA38
def jD.l0 : Nat → List (S38) → List (S42) → List (S38) → Int → Int → Option ((List (S42)))
 | 0,_,_,_,_,_=>none
 | k+1,x0,x3,x7,x8,x9=>if x9<x8 then (if 0≤x9 then (if x9<(x7.length:Int) then (if x9 > 0 then (if 0≤(wrap64 (x9 - 1)) then (if (wrap64 (x9 - 1))<(x0.length:Int) then (if ((((jb x0 (wrap64 (x9 - 1))).f0).toList) == (((jb x7 x9).f0).toList) && (((jb x0 (wrap64 (x9 - 1))).f1) == ((jb x7 x9).f1)))=true then (if 0≤(wrap64 ((x3.length:Int) - 1)) then (if (wrap64 ((x3.length:Int) - 1))<(x3.length:Int) then (jD.l0 k x0 (x3.set ((wrap64 ((x3.length:Int) - 1)):Int).toNat (⟨(⟨(ja x3 (wrap64 ((x3.length:Int) - 1))).f0.f0,(ja x3 (wrap64 ((x3.length:Int) - 1))).f0.f1⟩:S38),wrap64 (((ja x3 (wrap64 ((x3.length:Int) - 1))).f1)+1)⟩:S42)) x7 x8 (wrap64 (x9+1))) else (none)) else (none)) else (if x3.length<4398046511104 then (jD.l0 k x0 (x3 ++ [(⟨(⟨(jb x7 x9).f0,(jb x7 x9).f1⟩:S38),1⟩:S42)]) x7 x8 (wrap64 (x9+1))) else (none))) else (none)) else (none)) else (if x3.length<4398046511104 then (jD.l0 k x0 (x3 ++ [(⟨(⟨(jb x7 x9).f0,(jb x7 x9).f1⟩:S38),1⟩:S42)]) x7 x8 (wrap64 (x9+1))) else (none))) else (none)) else (none)) else ((impl_Row.f x3).bind fun t155=>(some t155))
def jD.f (k : Nat) (l0 : List (S38)) : Option ((List (S42))) := jD.l0 k l0 (([] : List (S42))) l0 (l0.length : Int) 0
set_option maxHeartbeats 8000000 in
set_option maxRecDepth 100000 in
theorem jD.calls (k : Nat) (A0 : Option Addr) (c0 : Nat) (l0 : List (S38)) (r : List (S42)) (w : World) (hr0 : Kd.C k38 w A0 l0.length l0) (hc0 : l0.length ≤ c0) (h : jD.f k l0 = some r) :
  Calls Tryd.prog 17 #[.slice A0 l0.length c0] w fun e w'=>∃ v0_:Value,e=.returned (v0_)∧Kd.R k42 42 w' w.heap.size (fun _=>True) v0_ r∧Below w.heap.size w w':=by
 have hu38:=Tryd.underlying38
 have hu42:=Tryd.underlying42
 have HR0:=am hr0
 have HC0:=am hc0
 clear hr0 hc0
 have HB:=am (Below.refl w.heap.size w)
 have H:(jD.l0 k l0 (([]:List (S42))) l0 (l0.length:Int) 0)=some r:=h
 clear h
 obtain ⟨y152,hy152⟩:∃ y_:List (S42),y_=(([]:List (S42))):=⟨_,rfl⟩
 replace H:(jD.l0 k l0 y152 l0 (l0.length:Int) 0)=some r:=by first |(rw [hy152];with_reducible exact H) |(have H2_:=(Option.bind_some _ _).symm.trans H;rw [hy152];with_reducible exact H2_) |(have H2_:=(Option.bind_some _ _).symm.trans H;with_reducible exact H2_) | with_reducible exact H |(rw [hy152];exact H) | exact H
 have Ny152:=am hy152
 clear hy152
 have H':=am H
 clear H
 go_enter Tryd.func17,Tryd.ntmps17
 go_wp2_with (first |((with_reducible refine jK (N:=6) rfl ?_);refine Kd.R_lit k42 _ 42 ?hg (N:=6) ?hd (xs:=([]:List (S42))) (inner:=[]) (ok:=fun _=>True) (okp:=fun _=>True) ?hr ?hp (fun _ hk=>hk) trivial (Below.refl _ _) (Nat.le_refl _) (by simp) ?_;(case hd=>rfl);(case hg=>rfl);(case hr=>exact Y3);(case hp=>exact (Reps.none _ _));intro v153 w2 ho3 hb hg_ hnew_;clear hg_ hnew_;(first | rw [← Ny152.out] at ho3 |(simp only [Int.reduceToNat] at ho3;rw [← Ny152.out] at ho3));have HO154:=am (Kd.jca ho3 (jA (bq)));replace HB:=am (jg (bq) hb);clear hb ho3))
 repeat (go_quiet (first |((with_reducible refine jK (N:=6) rfl ?_);refine Kd.R_lit k42 _ 42 ?hg (N:=6) ?hd (xs:=([]:List (S42))) (inner:=[]) (ok:=fun _=>True) (okp:=fun _=>True) ?hr ?hp (fun _ hk=>hk) trivial (Below.refl _ _) (Nat.le_refl _) (by simp) ?_;(case hd=>rfl);(case hg=>rfl);(case hr=>exact Y3);(case hp=>exact (Reps.none _ _));intro v153 w2 ho3 hb hg_ hnew_;clear hg_ hnew_;(first | rw [← Ny152.out] at ho3 |(simp only [Int.reduceToNat] at ho3;rw [← Ny152.out] at ho3));have HO154:=am (Kd.jca ho3 (jA (bq)));replace HB:=am (jg (bq) hb);clear hb ho3));try go_wp2_with (first |((with_reducible refine jK (N:=6) rfl ?_);refine Kd.R_lit k42 _ 42 ?hg (N:=6) ?hd (xs:=([]:List (S42))) (inner:=[]) (ok:=fun _=>True) (okp:=fun _=>True) ?hr ?hp (fun _ hk=>hk) trivial (Below.refl _ _) (Nat.le_refl _) (by simp) ?_;(case hd=>rfl);(case hg=>rfl);(case hr=>exact Y3);(case hp=>exact (Reps.none _ _));intro v153 w2 ho3 hb hg_ hnew_;clear hg_ hnew_;(first | rw [← Ny152.out] at ho3 |(simp only [Int.reduceToNat] at ho3;rw [← Ny152.out] at ho3));have HO154:=am (Kd.jca ho3 (jA (bq)));replace HB:=am (jg (bq) hb);clear hb ho3)))
 go_loopg [3,9] k (fun kq v3 v9 w'=>∃ (x3_1:List (S42)) (x9_1:Int),v9=.int .i64 x9_1∧jy (jD.l0 kq l0 x3_1 l0 (l0.length:Int) x9_1=some r)∧jy (kq≤k)∧jy (Kd.R k42 42 w' w.heap.size (fun _=>True) v3 x3_1)∧jy (Below w.heap.size w w'))
 case atStart=>exact ⟨(y152),(0),(sq),H',⟨Nat.le_refl _⟩,⟨rq HO154.out⟩,⟨bq⟩⟩
 case round =>
  clear H'
  try clear c1
  try clear p2
  obtain ⟨x3_1,x9_1,rfl,HA,HK1,HO_3,HB⟩:=hrel
  cases gk with
  | zero=>exact absurd HA.out (by simp [jD.l0])
  | succ k1 =>
   have H:=HA.out
   clear HA
   simp only [jD.l0] at H
   by_cases c4:x9_1<(l0.length:Int)
   ·rw [if_pos c4] at H
    have c4b0:decide (x9_1<(l0.length:Int))=true:=dzT c4
    clear c4
    by_cases c5:0≤x9_1
    ·rw [if_pos c5] at H
     have c5b0:decide (0≤x9_1)=true:=dzT c5
     clear c5
     by_cases c6:x9_1<(l0.length:Int)
     ·rw [if_pos c6] at H
      have c6b0:decide (x9_1<(l0.length:Int))=true:=dzT c6
      clear c6
      by_cases c7:x9_1 > 0
      ·rw [if_pos c7] at H
       have c7b0:decide (0<x9_1)=true:=dzT c7
       clear c7
       obtain ⟨ji8,hji8⟩:∃ j_:Int,(wrap64 (x9_1 - 1))=j_:=⟨_,rfl⟩
       replace H:(if 0≤(ji8) then (if (ji8)<(l0.length:Int) then (if ((((jb l0 (ji8)).f0).toList) == (((jb l0 x9_1).f0).toList) && (((jb l0 (ji8)).f1) == ((jb l0 x9_1).f1)))=true then (if 0≤(wrap64 ((x3_1.length:Int) - 1)) then (if (wrap64 ((x3_1.length:Int) - 1))<(x3_1.length:Int) then (jD.l0 k1 l0 (x3_1.set ((wrap64 ((x3_1.length:Int) - 1)):Int).toNat (⟨(⟨(ja x3_1 (wrap64 ((x3_1.length:Int) - 1))).f0.f0,(ja x3_1 (wrap64 ((x3_1.length:Int) - 1))).f0.f1⟩:S38),wrap64 (((ja x3_1 (wrap64 ((x3_1.length:Int) - 1))).f1)+1)⟩:S42)) l0 (l0.length:Int) (wrap64 (x9_1+1))) else (none)) else (none)) else (if x3_1.length<4398046511104 then (jD.l0 k1 l0 (x3_1 ++ [(⟨(⟨(jb l0 x9_1).f0,(jb l0 x9_1).f1⟩:S38),1⟩:S42)]) l0 (l0.length:Int) (wrap64 (x9_1+1))) else (none))) else (none)) else (none))=some r:=by first |(rw [hji8] at H;exact H) |(simp only [hji8] at H ⊢;exact H)
       have hji8w:(IntKind.i64.wrap (x9_1 - 1))=ji8:=(i64_w _).trans hji8
       by_cases c9:0≤(ji8)
       ·rw [if_pos c9] at H
        have c9b0:decide (0≤(ji8))=true:=dzT c9
        clear c9
        by_cases c10:(ji8)<(l0.length:Int)
        ·rw [if_pos c10] at H
         have c10b0:decide ((ji8)<(l0.length:Int))=true:=dzT c10
         clear c10
         by_cases c11:((((jb l0 (ji8)).f0).toList) == (((jb l0 x9_1).f0).toList) && (((jb l0 (ji8)).f1) == ((jb l0 x9_1).f1)))=true
         ·rw [if_pos c11] at H
          have c11b0:((((jb l0 (ji8)).f0).toList) == (((jb l0 x9_1).f0).toList) && (((jb l0 (ji8)).f1) == ((jb l0 x9_1).f1)))=true:=c11
          (try (have c11b1:decide ((((jb l0 (ji8)).f0).toList)=(((jb l0 x9_1).f0).toList) && (((jb l0 (ji8)).f1) == ((jb l0 x9_1).f1)))=true:=by simpa using c11))
          (try (have c11b2:((((jb l0 (ji8)).f0).toList) == (((jb l0 x9_1).f0).toList) && (((jb l0 (ji8)).f1) == ((jb l0 x9_1).f1)))=true:=by simpa using c11))
          clear c11
          obtain ⟨ji12,hji12⟩:∃ j_:Int,(wrap64 ((x3_1.length:Int) - 1))=j_:=⟨_,rfl⟩
          replace H:(if 0≤(ji12) then (if (ji12)<(x3_1.length:Int) then (jD.l0 k1 l0 (x3_1.set ((ji12):Int).toNat (⟨(⟨(ja x3_1 (ji12)).f0.f0,(ja x3_1 (ji12)).f0.f1⟩:S38),wrap64 (((ja x3_1 (ji12)).f1)+1)⟩:S42)) l0 (l0.length:Int) (wrap64 (x9_1+1))) else (none)) else (none))=some r:=by first |(rw [hji12] at H;exact H) |(simp only [hji12] at H ⊢;exact H)
          have hji12w:(IntKind.i64.wrap ((x3_1.length:Int) - 1))=ji12:=(i64_w _).trans hji12
          by_cases c13:0≤(ji12)
          ·rw [if_pos c13] at H
           have c13b0:decide (0≤(ji12))=true:=dzT c13
           clear c13
           by_cases c14:(ji12)<(x3_1.length:Int)
           ·rw [if_pos c14] at H
            have c14b0:decide ((ji12)<(x3_1.length:Int))=true:=dzT c14
            clear c14
            obtain ⟨y162,hy162⟩:∃ y_:List (S42),y_=(x3_1.set ((ji12):Int).toNat (⟨(⟨(ja x3_1 (ji12)).f0.f0,(ja x3_1 (ji12)).f0.f1⟩:S38),wrap64 (((ja x3_1 (ji12)).f1)+1)⟩:S42)):=⟨_,rfl⟩
            replace H:(jD.l0 k1 l0 y162 l0 (l0.length:Int) (wrap64 (x9_1+1)))=some r:=by first |(rw [hy162];with_reducible exact H) |(have H2_:=(Option.bind_some _ _).symm.trans H;rw [hy162];with_reducible exact H2_) |(have H2_:=(Option.bind_some _ _).symm.trans H;with_reducible exact H2_) | with_reducible exact H |(rw [hy162];exact H) | exact H
            have Ny162:=am hy162
            clear hy162
            have H':=am H
            clear H
            have p158:0≤(x9_1:Int):=ozD (uq)
            have q158:x9_1<(l0.length:Int):=ozD (uq)
            obtain ⟨ad158,e158,hx158_0,hx158_1⟩:=jNa HR0.out x9_1 p158 q158
            cases e158
            replace hx158_0:=cb HB.out hx158_0
            replace hx158_1:=cb HB.out hx158_1
            replace p158:=ezT p158
            replace q158:=ezT q158
            go_wp2_with (first |((with_reducible refine jK (N:=5) rfl ?_);refine bE (N:=5) (cs:=#[.string (⟨#[]⟩:ByteArray), .int .i64 0]) (t:=38) ?_;intro gb159 hg w16 hbox hb;have BK159:=am (hbox);have GW159:=am ((Y5:w.heap.size≤gb159));have GE159:=am ((Y5:w.heap.size≤gb159));replace HO_3:=am (Kd.jM (rq HO_3.out) hb);replace HB:=am (jg (bq) hb);clear hb hbox hg;have hcz17_0:=bc0 BK159.out;have hcz17_1:=bc1 BK159.out;have hfz17_0:=jl BK159.out 0;have hfz17_1:=jl BK159.out 1) |((with_reducible refine jqa (t:=38) (p:=5) rfl ?_);(try (rw [jya w16];generalize hq_:World.drewN w16 _=w16;have n0_:=am (Kd.R_at hq_ HO_3.out);have n1_:=am (blk_at hq_ BK159.out);have n2_:=am (jPa hq_ HB.out);clear hq_ HO_3 BK159 HB;have HO_3:=n0_;have BK159:=n1_;have HB:=n2_;clear n0_ n1_ n2_));refine jja (t:=38) (p:=5) (v:=?vo_w18) (w1:=((w16.setCell ⟨gb159,0,none⟩ (.string ((jb l0 x9_1).f0))).setCell ⟨gb159,1,none⟩ (.int .i64 ((jb l0 x9_1).f1)))) ?hg ?ho ?hn ?hr ?_;(case ho=>rfl);(case hg=>rfl);(case hn=>rfl);(case hr=>exact Y3);intro w18 hw;have n0_:jy (Kd.R k42 42 w18 w.heap.size (fun _=>True) u3 x3_1):=⟨(by rw [hw];exact (Y10))⟩;have n1_:jy (w18.heap[gb159]?=some (.cells #[.string ((jb l0 x9_1).f0), .int .i64 ((jb l0 x9_1).f1)] 38 (0,0))):=⟨(by rw [hw];exact (Y11))⟩;have n2_:jy (Below w.heap.size w w18):=⟨(by rw [hw];exact (Y6))⟩;clear hw HO_3 BK159 HB;have HO_3:=n0_;have BK159:=n1_;have HB:=n2_;clear n0_ n1_ n2_;have p160:0≤((ji8):Int):=ozD (uq);have q160:(ji8)<(l0.length:Int):=ozD (uq);obtain ⟨ad160,e160,hx160_0,hx160_1⟩:=jNa HR0.out (ji8) p160 q160;obtain rfl:ad158=ad160:=(by injection e160);replace hx160_0:=cb HB.out hx160_0;replace hx160_1:=cb HB.out hx160_1;replace p160:=ezT p160;replace q160:=ezT q160;have hcz19_0:=bc0 BK159.out;have hcz19_1:=bc1 BK159.out;have hfz19_0:=jl BK159.out 0;have hfz19_1:=jl BK159.out 1;obtain ⟨Ao20,co20,eo20⟩:=Kd.jda HO_3.out;subst eo20;have p161:0≤((ji12):Int):=ozD (uq);have q161:(ji12)<(x3_1.length:Int):=ozD (uq);obtain ⟨ad161,e161,hx161_0,hx161_1,hx161_2⟩:=jRa (Kd.jo HO_3.out).2.2 (ji12) p161 q161;cases e161;replace p161:=ezT p161;replace q161:=ezT q161;have p15:0≤((ji12):Int):=ozD (uq);have q15:((ji12):Int)<((x3_1.length:Int):Int):=ozD (uq);obtain ⟨go15,co15,eo15,gb15,gl15,cl15,HG15⟩:=Kd.R_form HO_3.out (by omega);(first | cases eo15 |(injection eo15 with ea_ en_ ec_;(first | subst ea_ |(injection ea_ with ea_;subst ea_));subst ec_;clear en_));have GB15:=am gb15;have GG15:=am HG15;clear gb15 gl15 HG15;(first | simp only [add_plain] at hx161_0 | skip);(first | simp only [add_plain] at hx161_1 | skip);(first | simp only [add_plain] at hx161_2 | skip);obtain ⟨ce15,hcl15,hM15,hcc15,hfr15⟩:=Kd.jCa HO_3.out z42 ((ji12):Int) p15 q15;obtain rfl:=jna hM15;have hx15_0:w18.cell? ⟨go15,((ji12):Int).toNat * 3,none⟩=some (.string ((ja x3_1 (ji12)).f0.f0)):=hcc15 0 _ rfl;have hx15_1:w18.cell? ⟨go15,((ji12):Int).toNat * 3+1,none⟩=some (.int .i64 ((ja x3_1 (ji12)).f0.f1)):=hcc15 1 _ rfl;have hx15_2:w18.cell? ⟨go15,((ji12):Int).toNat * 3+2,none⟩=some (.int .i64 ((ja x3_1 (ji12)).f1)):=hcc15 2 _ rfl;have hf15_0:w18.frozen? ⟨go15,((ji12):Int).toNat * 3,none⟩=false:=hfr15 0;have hf15_1:w18.frozen? ⟨go15,((ji12):Int).toNat * 3+1,none⟩=false:=hfr15 1;have hf15_2:w18.frozen? ⟨go15,((ji12):Int).toNat * 3+2,none⟩=false:=hfr15 2;clear hcl15 hcc15 hfr15 hM15;replace p15:=ezT p15;replace q15:=ezT q15;have HX21:=am (show Kd.R k42 42 w18 w.heap.size (fun _=>True) (.slice (some ⟨go15,0,none⟩) x3_1.length co20) x3_1 from (rq HO_3.out));obtain ⟨ce21,hcl21,hM21,hcc21,hfr21⟩:=Kd.jCa HX21.out z42 ((ji12):Int) (ozD (uq)) (by have h_:((ji12):Int)<((x3_1.length:Int):Int):=ozD (uq);first | exact h_ |(have e_:=(Kd.jo HO_3.out).1;omega) | simpa using h_);obtain rfl:=jna hM21;have HP21:=Kd.R_seg HX21.out ((ji12):Int) (ozD (uq)) (by have h_:((ji12):Int)<((x3_1.length:Int):Int):=ozD (uq);first | exact h_ |(have e_:=(Kd.jo HO_3.out).1;omega) | simpa using h_) (seg:=[.int .i64 (wrap64 (((ja x3_1 (ji12)).f1)+1))]) (j:=2) hcl21 hcc21 (show 3≤3 from by decide) (x':=(⟨(⟨(ja x3_1 (ji12)).f0.f0,(ja x3_1 (ji12)).f0.f1⟩:S38),wrap64 (((ja x3_1 (ji12)).f1)+1)⟩:S42)) (jla _ _ _ (⟨(⟨(ja x3_1 (ji12)).f0.f0,(ja x3_1 (ji12)).f0.f1⟩:S38),wrap64 (((ja x3_1 (ji12)).f1)+1)⟩:S42) ) (fun _ hk=>hk);have hx21_2:=hcc21 2 _ rfl;(try simp only [show (k42).sz=3 from rfl,Nat.mul_one,Nat.add_zero] at hx21_2);have hf21_2:=hfr21 2;(try simp only [show (k42).sz=3 from rfl,Nat.mul_one,Nat.add_zero] at hf21_2);clear hcl21 hcc21 hfr21 hM21) |((with_reducible refine jqa (t:=3) (p:=34) rfl ?_);(try (rw [jya w18];generalize hq_:World.drewN w18 _=w18;have n0_:=am (Kd.R_at hq_ HO_3.out);have n1_:=am (blk_at hq_ BK159.out);have n2_:=am (jPa hq_ HB.out);clear hq_ HO_3 BK159 HB;have HO_3:=n0_;have BK159:=n1_;have HB:=n2_;clear n0_ n1_ n2_;(try (have HX21:=am (show Kd.R k42 42 w18 w.heap.size (fun _=>True) (.slice (some ⟨go15,0,none⟩) x3_1.length co20) x3_1 from (rq HO_3.out))));(try (obtain ⟨ce21,hcl21,hM21,hcc21,hfr21⟩:=Kd.jCa HX21.out z42 ((ji12):Int) (ozD (uq)) (by have h_:((ji12):Int)<((x3_1.length:Int):Int):=ozD (uq);first | exact h_ |(have e_:=(Kd.jo HO_3.out).1;omega) | simpa using h_)));(try (obtain rfl:=jna hM21));(try (have HP21:=Kd.R_seg HX21.out ((ji12):Int) (ozD (uq)) (by have h_:((ji12):Int)<((x3_1.length:Int):Int):=ozD (uq);first | exact h_ |(have e_:=(Kd.jo HO_3.out).1;omega) | simpa using h_) (seg:=[.int .i64 (wrap64 (((ja x3_1 (ji12)).f1)+1))]) (j:=2) hcl21 hcc21 (show 3≤3 from by decide) (x':=(⟨(⟨(ja x3_1 (ji12)).f0.f0,(ja x3_1 (ji12)).f0.f1⟩:S38),wrap64 (((ja x3_1 (ji12)).f1)+1)⟩:S42)) (jla _ _ _ (⟨(⟨(ja x3_1 (ji12)).f0.f0,(ja x3_1 (ji12)).f0.f1⟩:S38),wrap64 (((ja x3_1 (ji12)).f1)+1)⟩:S42) ) (fun _ hk=>hk)));(try (have hx21_2:=hcc21 2 _ rfl));(try (try simp only [show (k42).sz=3 from rfl,Nat.mul_one,Nat.add_zero] at hx21_2));(try (have hf21_2:=hfr21 2));(try (try simp only [show (k42).sz=3 from rfl,Nat.mul_one,Nat.add_zero] at hf21_2));(try (clear hcl21 hcc21 hfr21 hM21))));refine jja (t:=3) (p:=34) (v:=?vo_w22) (w1:=(w18.setCell ⟨go15,((ji12):Int).toNat * 3+2,none⟩ (.int .i64 (wrap64 (((ja x3_1 (ji12)).f1)+1))))) ?hg ?ho ?hn ?hr ?_;(case ho=>rfl);(case hg=>rfl);(case hn=>rfl);(case hr=>exact Y3);intro w22 hw;have hg:w18.grownBy w22 (some go15):=(by rw [hw];exact HP21.2);have hp_:Kd.R k42 42 w22 w.heap.size (fun _=>True) (.slice (some ⟨go15,0,none⟩) x3_1.length co20) y162:=(by rw [hw,Ny162.out];exact HP21.1);clear HP21;replace BK159:=am (jra (g:=gb159) (o:=.cells #[.string ((jb l0 x9_1).f0), .int .i64 ((jb l0 x9_1).f1)] 38 (0,0)) (kq BK159.out) hg (Kd.R_ne HO_3.out BK159.out (by decide)));replace HO_3:=am (hp_);replace HB:=am ((by rw [hw];exact jR (HB.out) GB15.out:Below w.heap.size w w22));clear hg hw hp_))
            repeat (go_quiet (first |((with_reducible refine jK (N:=5) rfl ?_);refine bE (N:=5) (cs:=#[.string (⟨#[]⟩:ByteArray), .int .i64 0]) (t:=38) ?_;intro gb159 hg w16 hbox hb;have BK159:=am (hbox);have GW159:=am ((Y5:w.heap.size≤gb159));have GE159:=am ((Y5:w.heap.size≤gb159));replace HO_3:=am (Kd.jM (rq HO_3.out) hb);replace HB:=am (jg (bq) hb);clear hb hbox hg;have hcz17_0:=bc0 BK159.out;have hcz17_1:=bc1 BK159.out;have hfz17_0:=jl BK159.out 0;have hfz17_1:=jl BK159.out 1) |((with_reducible refine jqa (t:=38) (p:=5) rfl ?_);(try (rw [jya w16];generalize hq_:World.drewN w16 _=w16;have n0_:=am (Kd.R_at hq_ HO_3.out);have n1_:=am (blk_at hq_ BK159.out);have n2_:=am (jPa hq_ HB.out);clear hq_ HO_3 BK159 HB;have HO_3:=n0_;have BK159:=n1_;have HB:=n2_;clear n0_ n1_ n2_));refine jja (t:=38) (p:=5) (v:=?vo_w18) (w1:=((w16.setCell ⟨gb159,0,none⟩ (.string ((jb l0 x9_1).f0))).setCell ⟨gb159,1,none⟩ (.int .i64 ((jb l0 x9_1).f1)))) ?hg ?ho ?hn ?hr ?_;(case ho=>rfl);(case hg=>rfl);(case hn=>rfl);(case hr=>exact Y3);intro w18 hw;have n0_:jy (Kd.R k42 42 w18 w.heap.size (fun _=>True) u3 x3_1):=⟨(by rw [hw];exact (Y10))⟩;have n1_:jy (w18.heap[gb159]?=some (.cells #[.string ((jb l0 x9_1).f0), .int .i64 ((jb l0 x9_1).f1)] 38 (0,0))):=⟨(by rw [hw];exact (Y11))⟩;have n2_:jy (Below w.heap.size w w18):=⟨(by rw [hw];exact (Y6))⟩;clear hw HO_3 BK159 HB;have HO_3:=n0_;have BK159:=n1_;have HB:=n2_;clear n0_ n1_ n2_;have p160:0≤((ji8):Int):=ozD (uq);have q160:(ji8)<(l0.length:Int):=ozD (uq);obtain ⟨ad160,e160,hx160_0,hx160_1⟩:=jNa HR0.out (ji8) p160 q160;obtain rfl:ad158=ad160:=(by injection e160);replace hx160_0:=cb HB.out hx160_0;replace hx160_1:=cb HB.out hx160_1;replace p160:=ezT p160;replace q160:=ezT q160;have hcz19_0:=bc0 BK159.out;have hcz19_1:=bc1 BK159.out;have hfz19_0:=jl BK159.out 0;have hfz19_1:=jl BK159.out 1;obtain ⟨Ao20,co20,eo20⟩:=Kd.jda HO_3.out;subst eo20;have p161:0≤((ji12):Int):=ozD (uq);have q161:(ji12)<(x3_1.length:Int):=ozD (uq);obtain ⟨ad161,e161,hx161_0,hx161_1,hx161_2⟩:=jRa (Kd.jo HO_3.out).2.2 (ji12) p161 q161;cases e161;replace p161:=ezT p161;replace q161:=ezT q161;have p15:0≤((ji12):Int):=ozD (uq);have q15:((ji12):Int)<((x3_1.length:Int):Int):=ozD (uq);obtain ⟨go15,co15,eo15,gb15,gl15,cl15,HG15⟩:=Kd.R_form HO_3.out (by omega);(first | cases eo15 |(injection eo15 with ea_ en_ ec_;(first | subst ea_ |(injection ea_ with ea_;subst ea_));subst ec_;clear en_));have GB15:=am gb15;have GG15:=am HG15;clear gb15 gl15 HG15;(first | simp only [add_plain] at hx161_0 | skip);(first | simp only [add_plain] at hx161_1 | skip);(first | simp only [add_plain] at hx161_2 | skip);obtain ⟨ce15,hcl15,hM15,hcc15,hfr15⟩:=Kd.jCa HO_3.out z42 ((ji12):Int) p15 q15;obtain rfl:=jna hM15;have hx15_0:w18.cell? ⟨go15,((ji12):Int).toNat * 3,none⟩=some (.string ((ja x3_1 (ji12)).f0.f0)):=hcc15 0 _ rfl;have hx15_1:w18.cell? ⟨go15,((ji12):Int).toNat * 3+1,none⟩=some (.int .i64 ((ja x3_1 (ji12)).f0.f1)):=hcc15 1 _ rfl;have hx15_2:w18.cell? ⟨go15,((ji12):Int).toNat * 3+2,none⟩=some (.int .i64 ((ja x3_1 (ji12)).f1)):=hcc15 2 _ rfl;have hf15_0:w18.frozen? ⟨go15,((ji12):Int).toNat * 3,none⟩=false:=hfr15 0;have hf15_1:w18.frozen? ⟨go15,((ji12):Int).toNat * 3+1,none⟩=false:=hfr15 1;have hf15_2:w18.frozen? ⟨go15,((ji12):Int).toNat * 3+2,none⟩=false:=hfr15 2;clear hcl15 hcc15 hfr15 hM15;replace p15:=ezT p15;replace q15:=ezT q15;have HX21:=am (show Kd.R k42 42 w18 w.heap.size (fun _=>True) (.slice (some ⟨go15,0,none⟩) x3_1.length co20) x3_1 from (rq HO_3.out));obtain ⟨ce21,hcl21,hM21,hcc21,hfr21⟩:=Kd.jCa HX21.out z42 ((ji12):Int) (ozD (uq)) (by have h_:((ji12):Int)<((x3_1.length:Int):Int):=ozD (uq);first | exact h_ |(have e_:=(Kd.jo HO_3.out).1;omega) | simpa using h_);obtain rfl:=jna hM21;have HP21:=Kd.R_seg HX21.out ((ji12):Int) (ozD (uq)) (by have h_:((ji12):Int)<((x3_1.length:Int):Int):=ozD (uq);first | exact h_ |(have e_:=(Kd.jo HO_3.out).1;omega) | simpa using h_) (seg:=[.int .i64 (wrap64 (((ja x3_1 (ji12)).f1)+1))]) (j:=2) hcl21 hcc21 (show 3≤3 from by decide) (x':=(⟨(⟨(ja x3_1 (ji12)).f0.f0,(ja x3_1 (ji12)).f0.f1⟩:S38),wrap64 (((ja x3_1 (ji12)).f1)+1)⟩:S42)) (jla _ _ _ (⟨(⟨(ja x3_1 (ji12)).f0.f0,(ja x3_1 (ji12)).f0.f1⟩:S38),wrap64 (((ja x3_1 (ji12)).f1)+1)⟩:S42) ) (fun _ hk=>hk);have hx21_2:=hcc21 2 _ rfl;(try simp only [show (k42).sz=3 from rfl,Nat.mul_one,Nat.add_zero] at hx21_2);have hf21_2:=hfr21 2;(try simp only [show (k42).sz=3 from rfl,Nat.mul_one,Nat.add_zero] at hf21_2);clear hcl21 hcc21 hfr21 hM21) |((with_reducible refine jqa (t:=3) (p:=34) rfl ?_);(try (rw [jya w18];generalize hq_:World.drewN w18 _=w18;have n0_:=am (Kd.R_at hq_ HO_3.out);have n1_:=am (blk_at hq_ BK159.out);have n2_:=am (jPa hq_ HB.out);clear hq_ HO_3 BK159 HB;have HO_3:=n0_;have BK159:=n1_;have HB:=n2_;clear n0_ n1_ n2_;(try (have HX21:=am (show Kd.R k42 42 w18 w.heap.size (fun _=>True) (.slice (some ⟨go15,0,none⟩) x3_1.length co20) x3_1 from (rq HO_3.out))));(try (obtain ⟨ce21,hcl21,hM21,hcc21,hfr21⟩:=Kd.jCa HX21.out z42 ((ji12):Int) (ozD (uq)) (by have h_:((ji12):Int)<((x3_1.length:Int):Int):=ozD (uq);first | exact h_ |(have e_:=(Kd.jo HO_3.out).1;omega) | simpa using h_)));(try (obtain rfl:=jna hM21));(try (have HP21:=Kd.R_seg HX21.out ((ji12):Int) (ozD (uq)) (by have h_:((ji12):Int)<((x3_1.length:Int):Int):=ozD (uq);first | exact h_ |(have e_:=(Kd.jo HO_3.out).1;omega) | simpa using h_) (seg:=[.int .i64 (wrap64 (((ja x3_1 (ji12)).f1)+1))]) (j:=2) hcl21 hcc21 (show 3≤3 from by decide) (x':=(⟨(⟨(ja x3_1 (ji12)).f0.f0,(ja x3_1 (ji12)).f0.f1⟩:S38),wrap64 (((ja x3_1 (ji12)).f1)+1)⟩:S42)) (jla _ _ _ (⟨(⟨(ja x3_1 (ji12)).f0.f0,(ja x3_1 (ji12)).f0.f1⟩:S38),wrap64 (((ja x3_1 (ji12)).f1)+1)⟩:S42) ) (fun _ hk=>hk)));(try (have hx21_2:=hcc21 2 _ rfl));(try (try simp only [show (k42).sz=3 from rfl,Nat.mul_one,Nat.add_zero] at hx21_2));(try (have hf21_2:=hfr21 2));(try (try simp only [show (k42).sz=3 from rfl,Nat.mul_one,Nat.add_zero] at hf21_2));(try (clear hcl21 hcc21 hfr21 hM21))));refine jja (t:=3) (p:=34) (v:=?vo_w22) (w1:=(w18.setCell ⟨go15,((ji12):Int).toNat * 3+2,none⟩ (.int .i64 (wrap64 (((ja x3_1 (ji12)).f1)+1))))) ?hg ?ho ?hn ?hr ?_;(case ho=>rfl);(case hg=>rfl);(case hn=>rfl);(case hr=>exact Y3);intro w22 hw;have hg:w18.grownBy w22 (some go15):=(by rw [hw];exact HP21.2);have hp_:Kd.R k42 42 w22 w.heap.size (fun _=>True) (.slice (some ⟨go15,0,none⟩) x3_1.length co20) y162:=(by rw [hw,Ny162.out];exact HP21.1);clear HP21;replace BK159:=am (jra (g:=gb159) (o:=.cells #[.string ((jb l0 x9_1).f0), .int .i64 ((jb l0 x9_1).f1)] 38 (0,0)) (kq BK159.out) hg (Kd.R_ne HO_3.out BK159.out (by decide)));replace HO_3:=am (hp_);replace HB:=am ((by rw [hw];exact jR (HB.out) GB15.out:Below w.heap.size w w22));clear hg hw hp_));try go_wp2_with (first |((with_reducible refine jK (N:=5) rfl ?_);refine bE (N:=5) (cs:=#[.string (⟨#[]⟩:ByteArray), .int .i64 0]) (t:=38) ?_;intro gb159 hg w16 hbox hb;have BK159:=am (hbox);have GW159:=am ((Y5:w.heap.size≤gb159));have GE159:=am ((Y5:w.heap.size≤gb159));replace HO_3:=am (Kd.jM (rq HO_3.out) hb);replace HB:=am (jg (bq) hb);clear hb hbox hg;have hcz17_0:=bc0 BK159.out;have hcz17_1:=bc1 BK159.out;have hfz17_0:=jl BK159.out 0;have hfz17_1:=jl BK159.out 1) |((with_reducible refine jqa (t:=38) (p:=5) rfl ?_);(try (rw [jya w16];generalize hq_:World.drewN w16 _=w16;have n0_:=am (Kd.R_at hq_ HO_3.out);have n1_:=am (blk_at hq_ BK159.out);have n2_:=am (jPa hq_ HB.out);clear hq_ HO_3 BK159 HB;have HO_3:=n0_;have BK159:=n1_;have HB:=n2_;clear n0_ n1_ n2_));refine jja (t:=38) (p:=5) (v:=?vo_w18) (w1:=((w16.setCell ⟨gb159,0,none⟩ (.string ((jb l0 x9_1).f0))).setCell ⟨gb159,1,none⟩ (.int .i64 ((jb l0 x9_1).f1)))) ?hg ?ho ?hn ?hr ?_;(case ho=>rfl);(case hg=>rfl);(case hn=>rfl);(case hr=>exact Y3);intro w18 hw;have n0_:jy (Kd.R k42 42 w18 w.heap.size (fun _=>True) u3 x3_1):=⟨(by rw [hw];exact (Y10))⟩;have n1_:jy (w18.heap[gb159]?=some (.cells #[.string ((jb l0 x9_1).f0), .int .i64 ((jb l0 x9_1).f1)] 38 (0,0))):=⟨(by rw [hw];exact (Y11))⟩;have n2_:jy (Below w.heap.size w w18):=⟨(by rw [hw];exact (Y6))⟩;clear hw HO_3 BK159 HB;have HO_3:=n0_;have BK159:=n1_;have HB:=n2_;clear n0_ n1_ n2_;have p160:0≤((ji8):Int):=ozD (uq);have q160:(ji8)<(l0.length:Int):=ozD (uq);obtain ⟨ad160,e160,hx160_0,hx160_1⟩:=jNa HR0.out (ji8) p160 q160;obtain rfl:ad158=ad160:=(by injection e160);replace hx160_0:=cb HB.out hx160_0;replace hx160_1:=cb HB.out hx160_1;replace p160:=ezT p160;replace q160:=ezT q160;have hcz19_0:=bc0 BK159.out;have hcz19_1:=bc1 BK159.out;have hfz19_0:=jl BK159.out 0;have hfz19_1:=jl BK159.out 1;obtain ⟨Ao20,co20,eo20⟩:=Kd.jda HO_3.out;subst eo20;have p161:0≤((ji12):Int):=ozD (uq);have q161:(ji12)<(x3_1.length:Int):=ozD (uq);obtain ⟨ad161,e161,hx161_0,hx161_1,hx161_2⟩:=jRa (Kd.jo HO_3.out).2.2 (ji12) p161 q161;cases e161;replace p161:=ezT p161;replace q161:=ezT q161;have p15:0≤((ji12):Int):=ozD (uq);have q15:((ji12):Int)<((x3_1.length:Int):Int):=ozD (uq);obtain ⟨go15,co15,eo15,gb15,gl15,cl15,HG15⟩:=Kd.R_form HO_3.out (by omega);(first | cases eo15 |(injection eo15 with ea_ en_ ec_;(first | subst ea_ |(injection ea_ with ea_;subst ea_));subst ec_;clear en_));have GB15:=am gb15;have GG15:=am HG15;clear gb15 gl15 HG15;(first | simp only [add_plain] at hx161_0 | skip);(first | simp only [add_plain] at hx161_1 | skip);(first | simp only [add_plain] at hx161_2 | skip);obtain ⟨ce15,hcl15,hM15,hcc15,hfr15⟩:=Kd.jCa HO_3.out z42 ((ji12):Int) p15 q15;obtain rfl:=jna hM15;have hx15_0:w18.cell? ⟨go15,((ji12):Int).toNat * 3,none⟩=some (.string ((ja x3_1 (ji12)).f0.f0)):=hcc15 0 _ rfl;have hx15_1:w18.cell? ⟨go15,((ji12):Int).toNat * 3+1,none⟩=some (.int .i64 ((ja x3_1 (ji12)).f0.f1)):=hcc15 1 _ rfl;have hx15_2:w18.cell? ⟨go15,((ji12):Int).toNat * 3+2,none⟩=some (.int .i64 ((ja x3_1 (ji12)).f1)):=hcc15 2 _ rfl;have hf15_0:w18.frozen? ⟨go15,((ji12):Int).toNat * 3,none⟩=false:=hfr15 0;have hf15_1:w18.frozen? ⟨go15,((ji12):Int).toNat * 3+1,none⟩=false:=hfr15 1;have hf15_2:w18.frozen? ⟨go15,((ji12):Int).toNat * 3+2,none⟩=false:=hfr15 2;clear hcl15 hcc15 hfr15 hM15;replace p15:=ezT p15;replace q15:=ezT q15;have HX21:=am (show Kd.R k42 42 w18 w.heap.size (fun _=>True) (.slice (some ⟨go15,0,none⟩) x3_1.length co20) x3_1 from (rq HO_3.out));obtain ⟨ce21,hcl21,hM21,hcc21,hfr21⟩:=Kd.jCa HX21.out z42 ((ji12):Int) (ozD (uq)) (by have h_:((ji12):Int)<((x3_1.length:Int):Int):=ozD (uq);first | exact h_ |(have e_:=(Kd.jo HO_3.out).1;omega) | simpa using h_);obtain rfl:=jna hM21;have HP21:=Kd.R_seg HX21.out ((ji12):Int) (ozD (uq)) (by have h_:((ji12):Int)<((x3_1.length:Int):Int):=ozD (uq);first | exact h_ |(have e_:=(Kd.jo HO_3.out).1;omega) | simpa using h_) (seg:=[.int .i64 (wrap64 (((ja x3_1 (ji12)).f1)+1))]) (j:=2) hcl21 hcc21 (show 3≤3 from by decide) (x':=(⟨(⟨(ja x3_1 (ji12)).f0.f0,(ja x3_1 (ji12)).f0.f1⟩:S38),wrap64 (((ja x3_1 (ji12)).f1)+1)⟩:S42)) (jla _ _ _ (⟨(⟨(ja x3_1 (ji12)).f0.f0,(ja x3_1 (ji12)).f0.f1⟩:S38),wrap64 (((ja x3_1 (ji12)).f1)+1)⟩:S42) ) (fun _ hk=>hk);have hx21_2:=hcc21 2 _ rfl;(try simp only [show (k42).sz=3 from rfl,Nat.mul_one,Nat.add_zero] at hx21_2);have hf21_2:=hfr21 2;(try simp only [show (k42).sz=3 from rfl,Nat.mul_one,Nat.add_zero] at hf21_2);clear hcl21 hcc21 hfr21 hM21) |((with_reducible refine jqa (t:=3) (p:=34) rfl ?_);(try (rw [jya w18];generalize hq_:World.drewN w18 _=w18;have n0_:=am (Kd.R_at hq_ HO_3.out);have n1_:=am (blk_at hq_ BK159.out);have n2_:=am (jPa hq_ HB.out);clear hq_ HO_3 BK159 HB;have HO_3:=n0_;have BK159:=n1_;have HB:=n2_;clear n0_ n1_ n2_;(try (have HX21:=am (show Kd.R k42 42 w18 w.heap.size (fun _=>True) (.slice (some ⟨go15,0,none⟩) x3_1.length co20) x3_1 from (rq HO_3.out))));(try (obtain ⟨ce21,hcl21,hM21,hcc21,hfr21⟩:=Kd.jCa HX21.out z42 ((ji12):Int) (ozD (uq)) (by have h_:((ji12):Int)<((x3_1.length:Int):Int):=ozD (uq);first | exact h_ |(have e_:=(Kd.jo HO_3.out).1;omega) | simpa using h_)));(try (obtain rfl:=jna hM21));(try (have HP21:=Kd.R_seg HX21.out ((ji12):Int) (ozD (uq)) (by have h_:((ji12):Int)<((x3_1.length:Int):Int):=ozD (uq);first | exact h_ |(have e_:=(Kd.jo HO_3.out).1;omega) | simpa using h_) (seg:=[.int .i64 (wrap64 (((ja x3_1 (ji12)).f1)+1))]) (j:=2) hcl21 hcc21 (show 3≤3 from by decide) (x':=(⟨(⟨(ja x3_1 (ji12)).f0.f0,(ja x3_1 (ji12)).f0.f1⟩:S38),wrap64 (((ja x3_1 (ji12)).f1)+1)⟩:S42)) (jla _ _ _ (⟨(⟨(ja x3_1 (ji12)).f0.f0,(ja x3_1 (ji12)).f0.f1⟩:S38),wrap64 (((ja x3_1 (ji12)).f1)+1)⟩:S42) ) (fun _ hk=>hk)));(try (have hx21_2:=hcc21 2 _ rfl));(try (try simp only [show (k42).sz=3 from rfl,Nat.mul_one,Nat.add_zero] at hx21_2));(try (have hf21_2:=hfr21 2));(try (try simp only [show (k42).sz=3 from rfl,Nat.mul_one,Nat.add_zero] at hf21_2));(try (clear hcl21 hcc21 hfr21 hM21))));refine jja (t:=3) (p:=34) (v:=?vo_w22) (w1:=(w18.setCell ⟨go15,((ji12):Int).toNat * 3+2,none⟩ (.int .i64 (wrap64 (((ja x3_1 (ji12)).f1)+1))))) ?hg ?ho ?hn ?hr ?_;(case ho=>rfl);(case hg=>rfl);(case hn=>rfl);(case hr=>exact Y3);intro w22 hw;have hg:w18.grownBy w22 (some go15):=(by rw [hw];exact HP21.2);have hp_:Kd.R k42 42 w22 w.heap.size (fun _=>True) (.slice (some ⟨go15,0,none⟩) x3_1.length co20) y162:=(by rw [hw,Ny162.out];exact HP21.1);clear HP21;replace BK159:=am (jra (g:=gb159) (o:=.cells #[.string ((jb l0 x9_1).f0), .int .i64 ((jb l0 x9_1).f1)] 38 (0,0)) (kq BK159.out) hg (Kd.R_ne HO_3.out BK159.out (by decide)));replace HO_3:=am (hp_);replace HB:=am ((by rw [hw];exact jR (HB.out) GB15.out:Below w.heap.size w w22));clear hg hw hp_)))
            go_roundg k1
            case measure=>have:=HK1.out;omega
            case rel=>exact ⟨(y162),(wrap64 (x9_1+1)),(sq),H',⟨by have:=HK1.out;omega⟩,⟨rq HO_3.out⟩,⟨Y6⟩⟩
           ·rw [if_neg c14] at H
            exact absurd H (by simp)
          ·rw [if_neg c13] at H
           exact absurd H (by simp)
         ·rw [if_neg c11] at H
          have c11b0:((((jb l0 (ji8)).f0).toList) == (((jb l0 x9_1).f0).toList) && (((jb l0 (ji8)).f1) == ((jb l0 x9_1).f1)))=false:=by simpa using c11
          (try (have c11b1:decide ((((jb l0 (ji8)).f0).toList)=(((jb l0 x9_1).f0).toList) && (((jb l0 (ji8)).f1) == ((jb l0 x9_1).f1)))=false:=by simpa using c11))
          (try (have c11b2:((((jb l0 (ji8)).f0).toList) == (((jb l0 x9_1).f0).toList) && (((jb l0 (ji8)).f1) == ((jb l0 x9_1).f1)))=false:=by simpa using c11))
          (try (have c11b3:¬ ((((jb l0 (ji8)).f0).toList)=(((jb l0 x9_1).f0).toList) && (((jb l0 (ji8)).f1) == ((jb l0 x9_1).f1))):=by simpa using c11))
          clear c11
          by_cases c23:x3_1.length<4398046511104
          ·rw [if_pos c23] at H
           have LMc23:=am c23
           clear c23
           obtain ⟨y163,hy163⟩:∃ y_:List (S42),y_=(x3_1 ++ [(⟨(⟨(jb l0 x9_1).f0,(jb l0 x9_1).f1⟩:S38),1⟩:S42)]):=⟨_,rfl⟩
           replace H:(jD.l0 k1 l0 y163 l0 (l0.length:Int) (wrap64 (x9_1+1)))=some r:=by first |(rw [hy163];with_reducible exact H) |(have H2_:=(Option.bind_some _ _).symm.trans H;rw [hy163];with_reducible exact H2_) |(have H2_:=(Option.bind_some _ _).symm.trans H;with_reducible exact H2_) | with_reducible exact H |(rw [hy163];exact H) | exact H
           have Ny163:=am hy163
           clear hy163
           have H':=am H
           clear H
           have p158:0≤(x9_1:Int):=ozD (uq)
           have q158:x9_1<(l0.length:Int):=ozD (uq)
           obtain ⟨ad158,e158,hx158_0,hx158_1⟩:=jNa HR0.out x9_1 p158 q158
           cases e158
           replace hx158_0:=cb HB.out hx158_0
           replace hx158_1:=cb HB.out hx158_1
           replace p158:=ezT p158
           replace q158:=ezT q158
           go_wp2_with (first |((with_reducible refine jK (N:=5) rfl ?_);refine bE (N:=5) (cs:=#[.string (⟨#[]⟩:ByteArray), .int .i64 0]) (t:=38) ?_;intro gb159 hg w24 hbox hb;have BK159:=am (hbox);have GW159:=am ((Y5:w.heap.size≤gb159));have GE159:=am ((Y5:w.heap.size≤gb159));replace HO_3:=am (Kd.jM (rq HO_3.out) hb);replace HB:=am (jg (bq) hb);clear hb hbox hg;have hcz25_0:=bc0 BK159.out;have hcz25_1:=bc1 BK159.out;have hfz25_0:=jl BK159.out 0;have hfz25_1:=jl BK159.out 1;have p160:0≤((ji8):Int):=ozD (uq);have q160:(ji8)<(l0.length:Int):=ozD (uq);obtain ⟨ad160,e160,hx160_0,hx160_1⟩:=jNa HR0.out (ji8) p160 q160;obtain rfl:ad158=ad160:=(by injection e160);have hn160_0:ad158.block≠gb159:=Nat.ne_of_lt (Nat.lt_of_lt_of_le (by have:=World.block_lt_of_cell? _ _ hx160_0;first | rwa [add_block] at this | exact this) GW159.out);have hn160_1:ad158.block≠gb159:=Nat.ne_of_lt (Nat.lt_of_lt_of_le (by have:=World.block_lt_of_cell? _ _ hx160_0;first | rwa [add_block] at this | exact this) GW159.out);replace hx160_0:=cb HB.out hx160_0;replace hx160_1:=cb HB.out hx160_1;replace hx160_0:=(cell_far (p:=⟨gb159,0,none⟩) (Y17) (.string ((jb l0 x9_1).f0))).trans hx160_0;replace hx160_1:=(cell_far (p:=⟨gb159,0,none⟩) (Y17) (.string ((jb l0 x9_1).f0))).trans hx160_1;replace hx160_0:=(cell_far (p:=⟨gb159,1,none⟩) (Y18) (.int .i64 ((jb l0 x9_1).f1))).trans hx160_0;replace hx160_1:=(cell_far (p:=⟨gb159,1,none⟩) (Y18) (.int .i64 ((jb l0 x9_1).f1))).trans hx160_1;(try have hy160_0:=fun (n_:Nat)=>(show ((((w24.drewN n_).setCell ⟨gb159,0,none⟩ (.string ((jb l0 x9_1).f0))).setCell ⟨gb159,1,none⟩ (.int .i64 ((jb l0 x9_1).f1)))).cell? _=some _ from hx160_0));(try have hy160_1:=fun (n_:Nat)=>(show ((((w24.drewN n_).setCell ⟨gb159,0,none⟩ (.string ((jb l0 x9_1).f0))).setCell ⟨gb159,1,none⟩ (.int .i64 ((jb l0 x9_1).f1)))).cell? _=some _ from hx160_1));clear hn160_0 hn160_1;replace p160:=ezT p160;replace q160:=ezT q160) |((with_reducible refine jP (b:=.append) (xs:=#[.tmp 35, .tmp 38]) rfl ?_);at_builtin;refine Kd.jua k42 (w0:=w) w.heap.size rfl (.tmp 35) (.tmp 38) 32 42 (.agg #[(.string ⟨#[]⟩),(.int .i64 0),(.int .i64 0)]) 32 rfl Tryd.underlying32 jUa rfl (by decide) (by omega) u3 x3_1 (⟨(⟨(jb l0 x9_1).f0,(jb l0 x9_1).f1⟩:S38),1⟩:S42) [.string ((jb l0 x9_1).f0), .int .i64 ((jb l0 x9_1).f1), .int .i64 1] (fun _=>True) (fun _=>False) rfl (Y3) ?aP (fun _ hk=>hk.elim) ?aF ?aO ?aB ?aS ?aL ?_;(case aP=>exact jla _ _ _ (⟨(⟨(jb l0 x9_1).f0,(jb l0 x9_1).f1⟩:S38),1⟩:S42));(case aB=>exact (Y6));(case aF=>exact (fun _ _=>trivial));(case aO=>exact (Y10));(case aS=>exact (jA (Y6)));(case aL=>have:=LMc23.out;omega);intro v164 w26 ho hb hg hat;rw [← Ny163.out] at ho;have n0_:=am (jra (g:=gb159) (o:=.cells #[.string ((jb l0 x9_1).f0), .int .i64 ((jb l0 x9_1).f1)] 38 (0,0)) (Y11) hg (Kd.R_ne HO_3.out BK159.out (by decide)));have n1_:=am (hb);have n2_:=am (ho);clear BK159 HB HO_3;have BK159:=n0_;have HB:=n1_;have HO165:=n2_;clear n0_ n1_ n2_ ho hb hg hat))
           repeat (go_quiet (first |((with_reducible refine jK (N:=5) rfl ?_);refine bE (N:=5) (cs:=#[.string (⟨#[]⟩:ByteArray), .int .i64 0]) (t:=38) ?_;intro gb159 hg w24 hbox hb;have BK159:=am (hbox);have GW159:=am ((Y5:w.heap.size≤gb159));have GE159:=am ((Y5:w.heap.size≤gb159));replace HO_3:=am (Kd.jM (rq HO_3.out) hb);replace HB:=am (jg (bq) hb);clear hb hbox hg;have hcz25_0:=bc0 BK159.out;have hcz25_1:=bc1 BK159.out;have hfz25_0:=jl BK159.out 0;have hfz25_1:=jl BK159.out 1;have p160:0≤((ji8):Int):=ozD (uq);have q160:(ji8)<(l0.length:Int):=ozD (uq);obtain ⟨ad160,e160,hx160_0,hx160_1⟩:=jNa HR0.out (ji8) p160 q160;obtain rfl:ad158=ad160:=(by injection e160);have hn160_0:ad158.block≠gb159:=Nat.ne_of_lt (Nat.lt_of_lt_of_le (by have:=World.block_lt_of_cell? _ _ hx160_0;first | rwa [add_block] at this | exact this) GW159.out);have hn160_1:ad158.block≠gb159:=Nat.ne_of_lt (Nat.lt_of_lt_of_le (by have:=World.block_lt_of_cell? _ _ hx160_0;first | rwa [add_block] at this | exact this) GW159.out);replace hx160_0:=cb HB.out hx160_0;replace hx160_1:=cb HB.out hx160_1;replace hx160_0:=(cell_far (p:=⟨gb159,0,none⟩) (Y17) (.string ((jb l0 x9_1).f0))).trans hx160_0;replace hx160_1:=(cell_far (p:=⟨gb159,0,none⟩) (Y17) (.string ((jb l0 x9_1).f0))).trans hx160_1;replace hx160_0:=(cell_far (p:=⟨gb159,1,none⟩) (Y18) (.int .i64 ((jb l0 x9_1).f1))).trans hx160_0;replace hx160_1:=(cell_far (p:=⟨gb159,1,none⟩) (Y18) (.int .i64 ((jb l0 x9_1).f1))).trans hx160_1;(try have hy160_0:=fun (n_:Nat)=>(show ((((w24.drewN n_).setCell ⟨gb159,0,none⟩ (.string ((jb l0 x9_1).f0))).setCell ⟨gb159,1,none⟩ (.int .i64 ((jb l0 x9_1).f1)))).cell? _=some _ from hx160_0));(try have hy160_1:=fun (n_:Nat)=>(show ((((w24.drewN n_).setCell ⟨gb159,0,none⟩ (.string ((jb l0 x9_1).f0))).setCell ⟨gb159,1,none⟩ (.int .i64 ((jb l0 x9_1).f1)))).cell? _=some _ from hx160_1));clear hn160_0 hn160_1;replace p160:=ezT p160;replace q160:=ezT q160) |((with_reducible refine jP (b:=.append) (xs:=#[.tmp 35, .tmp 38]) rfl ?_);at_builtin;refine Kd.jua k42 (w0:=w) w.heap.size rfl (.tmp 35) (.tmp 38) 32 42 (.agg #[(.string ⟨#[]⟩),(.int .i64 0),(.int .i64 0)]) 32 rfl Tryd.underlying32 jUa rfl (by decide) (by omega) u3 x3_1 (⟨(⟨(jb l0 x9_1).f0,(jb l0 x9_1).f1⟩:S38),1⟩:S42) [.string ((jb l0 x9_1).f0), .int .i64 ((jb l0 x9_1).f1), .int .i64 1] (fun _=>True) (fun _=>False) rfl (Y3) ?aP (fun _ hk=>hk.elim) ?aF ?aO ?aB ?aS ?aL ?_;(case aP=>exact jla _ _ _ (⟨(⟨(jb l0 x9_1).f0,(jb l0 x9_1).f1⟩:S38),1⟩:S42));(case aB=>exact (Y6));(case aF=>exact (fun _ _=>trivial));(case aO=>exact (Y10));(case aS=>exact (jA (Y6)));(case aL=>have:=LMc23.out;omega);intro v164 w26 ho hb hg hat;rw [← Ny163.out] at ho;have n0_:=am (jra (g:=gb159) (o:=.cells #[.string ((jb l0 x9_1).f0), .int .i64 ((jb l0 x9_1).f1)] 38 (0,0)) (Y11) hg (Kd.R_ne HO_3.out BK159.out (by decide)));have n1_:=am (hb);have n2_:=am (ho);clear BK159 HB HO_3;have BK159:=n0_;have HB:=n1_;have HO165:=n2_;clear n0_ n1_ n2_ ho hb hg hat));try go_wp2_with (first |((with_reducible refine jK (N:=5) rfl ?_);refine bE (N:=5) (cs:=#[.string (⟨#[]⟩:ByteArray), .int .i64 0]) (t:=38) ?_;intro gb159 hg w24 hbox hb;have BK159:=am (hbox);have GW159:=am ((Y5:w.heap.size≤gb159));have GE159:=am ((Y5:w.heap.size≤gb159));replace HO_3:=am (Kd.jM (rq HO_3.out) hb);replace HB:=am (jg (bq) hb);clear hb hbox hg;have hcz25_0:=bc0 BK159.out;have hcz25_1:=bc1 BK159.out;have hfz25_0:=jl BK159.out 0;have hfz25_1:=jl BK159.out 1;have p160:0≤((ji8):Int):=ozD (uq);have q160:(ji8)<(l0.length:Int):=ozD (uq);obtain ⟨ad160,e160,hx160_0,hx160_1⟩:=jNa HR0.out (ji8) p160 q160;obtain rfl:ad158=ad160:=(by injection e160);have hn160_0:ad158.block≠gb159:=Nat.ne_of_lt (Nat.lt_of_lt_of_le (by have:=World.block_lt_of_cell? _ _ hx160_0;first | rwa [add_block] at this | exact this) GW159.out);have hn160_1:ad158.block≠gb159:=Nat.ne_of_lt (Nat.lt_of_lt_of_le (by have:=World.block_lt_of_cell? _ _ hx160_0;first | rwa [add_block] at this | exact this) GW159.out);replace hx160_0:=cb HB.out hx160_0;replace hx160_1:=cb HB.out hx160_1;replace hx160_0:=(cell_far (p:=⟨gb159,0,none⟩) (Y17) (.string ((jb l0 x9_1).f0))).trans hx160_0;replace hx160_1:=(cell_far (p:=⟨gb159,0,none⟩) (Y17) (.string ((jb l0 x9_1).f0))).trans hx160_1;replace hx160_0:=(cell_far (p:=⟨gb159,1,none⟩) (Y18) (.int .i64 ((jb l0 x9_1).f1))).trans hx160_0;replace hx160_1:=(cell_far (p:=⟨gb159,1,none⟩) (Y18) (.int .i64 ((jb l0 x9_1).f1))).trans hx160_1;(try have hy160_0:=fun (n_:Nat)=>(show ((((w24.drewN n_).setCell ⟨gb159,0,none⟩ (.string ((jb l0 x9_1).f0))).setCell ⟨gb159,1,none⟩ (.int .i64 ((jb l0 x9_1).f1)))).cell? _=some _ from hx160_0));(try have hy160_1:=fun (n_:Nat)=>(show ((((w24.drewN n_).setCell ⟨gb159,0,none⟩ (.string ((jb l0 x9_1).f0))).setCell ⟨gb159,1,none⟩ (.int .i64 ((jb l0 x9_1).f1)))).cell? _=some _ from hx160_1));clear hn160_0 hn160_1;replace p160:=ezT p160;replace q160:=ezT q160) |((with_reducible refine jP (b:=.append) (xs:=#[.tmp 35, .tmp 38]) rfl ?_);at_builtin;refine Kd.jua k42 (w0:=w) w.heap.size rfl (.tmp 35) (.tmp 38) 32 42 (.agg #[(.string ⟨#[]⟩),(.int .i64 0),(.int .i64 0)]) 32 rfl Tryd.underlying32 jUa rfl (by decide) (by omega) u3 x3_1 (⟨(⟨(jb l0 x9_1).f0,(jb l0 x9_1).f1⟩:S38),1⟩:S42) [.string ((jb l0 x9_1).f0), .int .i64 ((jb l0 x9_1).f1), .int .i64 1] (fun _=>True) (fun _=>False) rfl (Y3) ?aP (fun _ hk=>hk.elim) ?aF ?aO ?aB ?aS ?aL ?_;(case aP=>exact jla _ _ _ (⟨(⟨(jb l0 x9_1).f0,(jb l0 x9_1).f1⟩:S38),1⟩:S42));(case aB=>exact (Y6));(case aF=>exact (fun _ _=>trivial));(case aO=>exact (Y10));(case aS=>exact (jA (Y6)));(case aL=>have:=LMc23.out;omega);intro v164 w26 ho hb hg hat;rw [← Ny163.out] at ho;have n0_:=am (jra (g:=gb159) (o:=.cells #[.string ((jb l0 x9_1).f0), .int .i64 ((jb l0 x9_1).f1)] 38 (0,0)) (Y11) hg (Kd.R_ne HO_3.out BK159.out (by decide)));have n1_:=am (hb);have n2_:=am (ho);clear BK159 HB HO_3;have BK159:=n0_;have HB:=n1_;have HO165:=n2_;clear n0_ n1_ n2_ ho hb hg hat)))
           go_roundg k1
           case measure=>have:=HK1.out;omega
           case rel=>exact ⟨(y163),(wrap64 (x9_1+1)),(sq),H',⟨by have:=HK1.out;omega⟩,⟨rq HO165.out⟩,⟨Y6⟩⟩
          ·rw [if_neg c23] at H
           exact absurd H (by simp)
        ·rw [if_neg c10] at H
         exact absurd H (by simp)
       ·rw [if_neg c9] at H
        exact absurd H (by simp)
      ·rw [if_neg c7] at H
       have c7b0:decide (0<x9_1)=false:=dzF c7
       clear c7
       by_cases c27:x3_1.length<4398046511104
       ·rw [if_pos c27] at H
        have LMc27:=am c27
        clear c27
        obtain ⟨y166,hy166⟩:∃ y_:List (S42),y_=(x3_1 ++ [(⟨(⟨(jb l0 x9_1).f0,(jb l0 x9_1).f1⟩:S38),1⟩:S42)]):=⟨_,rfl⟩
        replace H:(jD.l0 k1 l0 y166 l0 (l0.length:Int) (wrap64 (x9_1+1)))=some r:=by first |(rw [hy166];with_reducible exact H) |(have H2_:=(Option.bind_some _ _).symm.trans H;rw [hy166];with_reducible exact H2_) |(have H2_:=(Option.bind_some _ _).symm.trans H;with_reducible exact H2_) | with_reducible exact H |(rw [hy166];exact H) | exact H
        have Ny166:=am hy166
        clear hy166
        have H':=am H
        clear H
        have p158:0≤(x9_1:Int):=ozD (uq)
        have q158:x9_1<(l0.length:Int):=ozD (uq)
        obtain ⟨ad158,e158,hx158_0,hx158_1⟩:=jNa HR0.out x9_1 p158 q158
        cases e158
        replace hx158_0:=cb HB.out hx158_0
        replace hx158_1:=cb HB.out hx158_1
        replace p158:=ezT p158
        replace q158:=ezT q158
        go_wp2_with (first |((with_reducible refine jK (N:=5) rfl ?_);refine bE (N:=5) (cs:=#[.string (⟨#[]⟩:ByteArray), .int .i64 0]) (t:=38) ?_;intro gb159 hg w28 hbox hb;have BK159:=am (hbox);have GW159:=am ((Y5:w.heap.size≤gb159));have GE159:=am ((Y5:w.heap.size≤gb159));replace HO_3:=am (Kd.jM (rq HO_3.out) hb);replace HB:=am (jg (bq) hb);clear hb hbox hg;have hcz29_0:=bc0 BK159.out;have hcz29_1:=bc1 BK159.out;have hfz29_0:=jl BK159.out 0;have hfz29_1:=jl BK159.out 1) |((with_reducible refine jP (b:=.append) (xs:=#[.tmp 35, .tmp 38]) rfl ?_);at_builtin;refine Kd.jua k42 (w0:=w) w.heap.size rfl (.tmp 35) (.tmp 38) 32 42 (.agg #[(.string ⟨#[]⟩),(.int .i64 0),(.int .i64 0)]) 32 rfl Tryd.underlying32 jUa rfl (by decide) (by omega) u3 x3_1 (⟨(⟨(jb l0 x9_1).f0,(jb l0 x9_1).f1⟩:S38),1⟩:S42) [.string ((jb l0 x9_1).f0), .int .i64 ((jb l0 x9_1).f1), .int .i64 1] (fun _=>True) (fun _=>False) rfl (Y3) ?aP (fun _ hk=>hk.elim) ?aF ?aO ?aB ?aS ?aL ?_;(case aP=>exact jla _ _ _ (⟨(⟨(jb l0 x9_1).f0,(jb l0 x9_1).f1⟩:S38),1⟩:S42));(case aB=>exact (Y6));(case aF=>exact (fun _ _=>trivial));(case aO=>exact (Y10));(case aS=>exact (jA (Y6)));(case aL=>have:=LMc27.out;omega);intro v167 w30 ho hb hg hat;rw [← Ny166.out] at ho;have n0_:=am (jra (g:=gb159) (o:=.cells #[.string ((jb l0 x9_1).f0), .int .i64 ((jb l0 x9_1).f1)] 38 (0,0)) (Y11) hg (Kd.R_ne HO_3.out BK159.out (by decide)));have n1_:=am (hb);have n2_:=am (ho);clear BK159 HB HO_3;have BK159:=n0_;have HB:=n1_;have HO168:=n2_;clear n0_ n1_ n2_ ho hb hg hat))
        repeat (go_quiet (first |((with_reducible refine jK (N:=5) rfl ?_);refine bE (N:=5) (cs:=#[.string (⟨#[]⟩:ByteArray), .int .i64 0]) (t:=38) ?_;intro gb159 hg w28 hbox hb;have BK159:=am (hbox);have GW159:=am ((Y5:w.heap.size≤gb159));have GE159:=am ((Y5:w.heap.size≤gb159));replace HO_3:=am (Kd.jM (rq HO_3.out) hb);replace HB:=am (jg (bq) hb);clear hb hbox hg;have hcz29_0:=bc0 BK159.out;have hcz29_1:=bc1 BK159.out;have hfz29_0:=jl BK159.out 0;have hfz29_1:=jl BK159.out 1) |((with_reducible refine jP (b:=.append) (xs:=#[.tmp 35, .tmp 38]) rfl ?_);at_builtin;refine Kd.jua k42 (w0:=w) w.heap.size rfl (.tmp 35) (.tmp 38) 32 42 (.agg #[(.string ⟨#[]⟩),(.int .i64 0),(.int .i64 0)]) 32 rfl Tryd.underlying32 jUa rfl (by decide) (by omega) u3 x3_1 (⟨(⟨(jb l0 x9_1).f0,(jb l0 x9_1).f1⟩:S38),1⟩:S42) [.string ((jb l0 x9_1).f0), .int .i64 ((jb l0 x9_1).f1), .int .i64 1] (fun _=>True) (fun _=>False) rfl (Y3) ?aP (fun _ hk=>hk.elim) ?aF ?aO ?aB ?aS ?aL ?_;(case aP=>exact jla _ _ _ (⟨(⟨(jb l0 x9_1).f0,(jb l0 x9_1).f1⟩:S38),1⟩:S42));(case aB=>exact (Y6));(case aF=>exact (fun _ _=>trivial));(case aO=>exact (Y10));(case aS=>exact (jA (Y6)));(case aL=>have:=LMc27.out;omega);intro v167 w30 ho hb hg hat;rw [← Ny166.out] at ho;have n0_:=am (jra (g:=gb159) (o:=.cells #[.string ((jb l0 x9_1).f0), .int .i64 ((jb l0 x9_1).f1)] 38 (0,0)) (Y11) hg (Kd.R_ne HO_3.out BK159.out (by decide)));have n1_:=am (hb);have n2_:=am (ho);clear BK159 HB HO_3;have BK159:=n0_;have HB:=n1_;have HO168:=n2_;clear n0_ n1_ n2_ ho hb hg hat));try go_wp2_with (first |((with_reducible refine jK (N:=5) rfl ?_);refine bE (N:=5) (cs:=#[.string (⟨#[]⟩:ByteArray), .int .i64 0]) (t:=38) ?_;intro gb159 hg w28 hbox hb;have BK159:=am (hbox);have GW159:=am ((Y5:w.heap.size≤gb159));have GE159:=am ((Y5:w.heap.size≤gb159));replace HO_3:=am (Kd.jM (rq HO_3.out) hb);replace HB:=am (jg (bq) hb);clear hb hbox hg;have hcz29_0:=bc0 BK159.out;have hcz29_1:=bc1 BK159.out;have hfz29_0:=jl BK159.out 0;have hfz29_1:=jl BK159.out 1) |((with_reducible refine jP (b:=.append) (xs:=#[.tmp 35, .tmp 38]) rfl ?_);at_builtin;refine Kd.jua k42 (w0:=w) w.heap.size rfl (.tmp 35) (.tmp 38) 32 42 (.agg #[(.string ⟨#[]⟩),(.int .i64 0),(.int .i64 0)]) 32 rfl Tryd.underlying32 jUa rfl (by decide) (by omega) u3 x3_1 (⟨(⟨(jb l0 x9_1).f0,(jb l0 x9_1).f1⟩:S38),1⟩:S42) [.string ((jb l0 x9_1).f0), .int .i64 ((jb l0 x9_1).f1), .int .i64 1] (fun _=>True) (fun _=>False) rfl (Y3) ?aP (fun _ hk=>hk.elim) ?aF ?aO ?aB ?aS ?aL ?_;(case aP=>exact jla _ _ _ (⟨(⟨(jb l0 x9_1).f0,(jb l0 x9_1).f1⟩:S38),1⟩:S42));(case aB=>exact (Y6));(case aF=>exact (fun _ _=>trivial));(case aO=>exact (Y10));(case aS=>exact (jA (Y6)));(case aL=>have:=LMc27.out;omega);intro v167 w30 ho hb hg hat;rw [← Ny166.out] at ho;have n0_:=am (jra (g:=gb159) (o:=.cells #[.string ((jb l0 x9_1).f0), .int .i64 ((jb l0 x9_1).f1)] 38 (0,0)) (Y11) hg (Kd.R_ne HO_3.out BK159.out (by decide)));have n1_:=am (hb);have n2_:=am (ho);clear BK159 HB HO_3;have BK159:=n0_;have HB:=n1_;have HO168:=n2_;clear n0_ n1_ n2_ ho hb hg hat)))
        go_roundg k1
        case measure=>have:=HK1.out;omega
        case rel=>exact ⟨(y166),(wrap64 (x9_1+1)),(sq),H',⟨by have:=HK1.out;omega⟩,⟨rq HO168.out⟩,⟨Y6⟩⟩
       ·rw [if_neg c27] at H
        exact absurd H (by simp)
     ·rw [if_neg c6] at H
      exact absurd H (by simp)
    ·rw [if_neg c5] at H
     exact absurd H (by simp)
   ·rw [if_neg c4] at H
    have c4b0:decide (x9_1<(l0.length:Int))=false:=dzF c4
    clear c4
    replace H:=bzS H
    obtain ⟨t155,A310,H⟩:=H
    replace H:(some t155)=some r:=H
    have A31:=am A310
    clear A310
    obtain rfl:=Option.some.inj H
    obtain ⟨Ao32,co32,eo32⟩:=Kd.jda HO_3.out
    subst eo32
    go_wp2_with (first |(go_at_call 30;(with_reducible refine (impl_Row.calls (fun k_=>some k_=(.slice Ao32 x3_1.length co32:Value).ownBlock) (.slice Ao32 x3_1.length co32) x3_1 t155 w _ ?side1 ?side2 A31.out).mono ?_);(case side1=>exact Y20);(case side2=>exact Kd.R_tight rfl HO_3.out);rintro e w33 ⟨v156,rfl,ho0,hb,hkp⟩;have n0_:=am (Kd.jT (ok':=fun k_=>True) ho0 (fun k_ hk_=>trivial));have n1_:=am (hb);clear HB HO_3;have HO157:=n0_;have HB:=n1_;clear n0_ n1_;(try clear hb);(try clear hkp);(try clear ho0)))
    repeat (go_quiet (first |(go_at_call 30;(with_reducible refine (impl_Row.calls (fun k_=>some k_=(.slice Ao32 x3_1.length co32:Value).ownBlock) (.slice Ao32 x3_1.length co32) x3_1 t155 w _ ?side1 ?side2 A31.out).mono ?_);(case side1=>exact Y20);(case side2=>exact Kd.R_tight rfl HO_3.out);rintro e w33 ⟨v156,rfl,ho0,hb,hkp⟩;have n0_:=am (Kd.jT (ok':=fun k_=>True) ho0 (fun k_ hk_=>trivial));have n1_:=am (hb);clear HB HO_3;have HO157:=n0_;have HB:=n1_;clear n0_ n1_;(try clear hb);(try clear hkp);(try clear ho0)));try go_wp2_with (first |(go_at_call 30;(with_reducible refine (impl_Row.calls (fun k_=>some k_=(.slice Ao32 x3_1.length co32:Value).ownBlock) (.slice Ao32 x3_1.length co32) x3_1 t155 w _ ?side1 ?side2 A31.out).mono ?_);(case side1=>exact Y20);(case side2=>exact Kd.R_tight rfl HO_3.out);rintro e w33 ⟨v156,rfl,ho0,hb,hkp⟩;have n0_:=am (Kd.jT (ok':=fun k_=>True) ho0 (fun k_ hk_=>trivial));have n1_:=am (hb);clear HB HO_3;have HO157:=n0_;have HB:=n1_;clear n0_ n1_;(try clear hb);(try clear hkp);(try clear ho0))))
    go_ret
    exact ⟨_,Y4,rq HO157.out,bq⟩
def sh171_ren : Go.Shelf.Ren := ⟨fun | 171 => 18 | 243 => 31 | 246 => 42 | 283 => 46 | 284 => 47 | 285 => 48 | 286 => 49 | 129 => 53 | 317 => 52 | 318 => 54 | 319 => 55 | 320 => 56 | 337 => 57 | 338 => 58 | n => n, fun | 3 => 3 | 9 => 9 | 2 => 2 | 4 => 4 | 171 => 73 | 0 => 0 | 53 => 74 | 37 => 29 | 5 => 5 | 173 => 77 | 212 => 83 | 51 => 84 | 20 => 20 | 213 => 85 | 46 => 87 | 232 => 90 | 233 => 91 | n => n, fun | 17 => 0 | 18 => 2 | 19 => 3 | n => n⟩
theorem sh171 : Go.Proofs.LaysM.n171 Tryd.prog sh171_ren := {
 mixed:=by kernel_rfl
 f129:=Tryd.func53.trans (congrArg some (by kernel_rfl))
 f171:=Tryd.func18.trans (congrArg some (by kernel_rfl))
 f243:=Tryd.func31.trans (congrArg some (by kernel_rfl))
 f246:=Tryd.func42.trans (congrArg some (by kernel_rfl))
 f283:=Tryd.func46.trans (congrArg some (by kernel_rfl))
 f284:=Tryd.func47.trans (congrArg some (by kernel_rfl))
 f285:=Tryd.func48.trans (congrArg some (by kernel_rfl))
 f286:=Tryd.func49.trans (congrArg some (by kernel_rfl))
 f317:=Tryd.func52.trans (congrArg some (by kernel_rfl))
 f318:=Tryd.func54.trans (congrArg some (by kernel_rfl))
 f319:=Tryd.func55.trans (congrArg some (by kernel_rfl))
 f320:=Tryd.func56.trans (congrArg some (by kernel_rfl))
 f337:=Tryd.func57.trans (congrArg some (by kernel_rfl))
 f338:=Tryd.func58.trans (congrArg some (by kernel_rfl))
 t0:=Tryd.underlying0
 a0:=Tryd.isAgg0
 z0:=Tryd.sizeOf0
 v0:=Tryd.zeroValue0
 t2:=Tryd.underlying2
 a2:=Tryd.isAgg2
 z2:=Tryd.sizeOf2
 v2:=Tryd.zeroValue2
 t3:=Tryd.underlying3
 a3:=Tryd.isAgg3
 z3:=Tryd.sizeOf3
 v3:=Tryd.zeroValue3
 t4:=Tryd.underlying4
 a4:=Tryd.isAgg4
 z4:=Tryd.sizeOf4
 v4:=Tryd.zeroValue4
 t5:=Tryd.underlying5
 a5:=Tryd.isAgg5
 z5:=Tryd.sizeOf5
 v5:=Tryd.zeroValue5
 t9:=Tryd.underlying9
 a9:=Tryd.isAgg9
 z9:=Tryd.sizeOf9
 v9:=Tryd.zeroValue9
 t20:=Tryd.underlying20
 a20:=Tryd.isAgg20
 z20:=Tryd.sizeOf20
 v20:=Tryd.zeroValue20
 t37:=Tryd.underlying29
 a37:=Tryd.isAgg29
 z37:=Tryd.sizeOf29
 v37:=Tryd.zeroValue29
 t46:=Tryd.underlying87
 a46:=Tryd.isAgg87
 z46:=Tryd.sizeOf87
 v46:=Tryd.zeroValue87
 t51:=Tryd.underlying84
 a51:=Tryd.isAgg84
 z51:=Tryd.sizeOf84
 v51:=Tryd.zeroValue84
 t53:=Tryd.underlying74
 a53:=Tryd.isAgg74
 z53:=Tryd.sizeOf74
 v53:=Tryd.zeroValue74
 t171:=Tryd.underlying73
 a171:=Tryd.isAgg73
 z171:=Tryd.sizeOf73
 v171:=Tryd.zeroValue73
 t173:=Tryd.underlying77
 a173:=Tryd.isAgg77
 z173:=Tryd.sizeOf77
 v173:=Tryd.zeroValue77
 t212:=Tryd.underlying83
 a212:=Tryd.isAgg83
 z212:=Tryd.sizeOf83
 v212:=Tryd.zeroValue83
 t213:=Tryd.underlying85
 a213:=Tryd.isAgg85
 z213:=Tryd.sizeOf85
 t232:=Tryd.underlying90
 a232:=Tryd.isAgg90
 z232:=Tryd.sizeOf90
 v232:=Tryd.zeroValue90
 t233:=Tryd.underlying91
 a233:=Tryd.isAgg91
 z233:=Tryd.sizeOf91
 v233:=Tryd.zeroValue91
 g17:=by kernel_rfl
 g18:=by kernel_rfl
 g19:=by kernel_rfl
 i0:=by kernel_rfl
 i2:=by kernel_rfl
 i3:=by kernel_rfl
 i4:=by kernel_rfl
 i5:=by kernel_rfl
 i9:=by kernel_rfl
 i20:=by kernel_rfl
 i37:=by kernel_rfl
 i46:=by kernel_rfl
 i51:=by kernel_rfl
 i53:=by kernel_rfl
 i171:=by kernel_rfl
 i173:=by kernel_rfl
 i212:=by kernel_rfl
 i232:=by kernel_rfl
 i233:=by kernel_rfl
 m17:=by kernel_rfl
 m18:=by kernel_rfl
 m19:=by kernel_rfl }
theorem tabSt {w W : World} (h : Lib.TabIs Tryd.prog w "internal/strconv.uint64pow10" .u64 Lib.pow10Tab) (hb : Below w.heap.size w W) : Lib.TabIs Tryd.prog W "internal/strconv.uint64pow10" .u64 Lib.pow10Tab := Go.Joins.tab_stays (show Tryd.prog.globalNamed "internal/strconv.uint64pow10" = some 0 by kernel_rfl) h hb (Nat.le_refl _)
def strconv_Itoa.f (a0 : Int) : Option ByteArray := if 0 ≤ a0 then (if a0 < 1000 then some ⟨(Lib.itoa a0).toArray⟩ else none) else none
set_option maxHeartbeats 8000000 in
set_option maxRecDepth 100000 in
theorem strconv_Itoa.calls (a0 : Int) (r : ByteArray) (w : World) (h : strconv_Itoa.f a0 = some r) (htab : Lib.TabIs Tryd.prog w "internal/strconv.uint64pow10" .u64 Lib.pow10Tab) :
  Calls Tryd.prog 18 #[.int .i64 a0] w fun e w'=>e=.returned (.string r)∧Below w.heap.size w w':=by
 unfold strconv_Itoa.f at h
 by_cases h0:0≤a0
 ·rw [if_pos h0] at h
  by_cases h1:a0<1000
  ·rw [if_pos h1] at h
   obtain rfl:=Option.some.inj h
   refine Calls.mono (show Calls Tryd.prog 18 _ w _ from Go.Proofs.Any.strconv_Itoa sh171 a0 (by omega) (by omega) w htab) ?_
   rintro e w' ⟨rfl,j,os,rfl⟩
   exact ⟨rfl,Go.Lib.below_grow _ _ (Nat.le_refl _) _ _⟩
  ·rw [if_neg h1] at h;cases h
 ·rw [if_neg h0] at h;cases h

def sh156_ren : Go.Shelf.Ren := ⟨fun | 156 => 19 | 165 => 32 | 166 => 33 | 169 => 34 | 240 => 43 | 241 => 44 | 276 => 50 | 277 => 51 | n => n, fun | 31 => 40 | 9 => 9 | 3 => 3 | 4 => 4 | 0 => 0 | 20 => 20 | 72 => 56 | 76 => 60 | 70 => 54 | 37 => 29 | 75 => 59 | 127 => 71 | 164 => 79 | 5 => 5 | 80 => 62 | n => n, fun | n => n⟩
theorem sh156 : Go.Proofs.Lays.n156 Tryd.prog sh156_ren := {
 mixed:=by kernel_rfl
 f156:=Tryd.func19.trans (congrArg some (by kernel_rfl))
 f165:=Tryd.func32.trans (congrArg some (by kernel_rfl))
 f166:=Tryd.func33.trans (congrArg some (by kernel_rfl))
 f169:=Tryd.func34.trans (congrArg some (by kernel_rfl))
 f240:=Tryd.func43.trans (congrArg some (by kernel_rfl))
 f241:=Tryd.func44.trans (congrArg some (by kernel_rfl))
 f276:=Tryd.func50.trans (congrArg some (by kernel_rfl))
 f277:=Tryd.func51.trans (congrArg some (by kernel_rfl))
 t0:=Tryd.underlying0
 a0:=Tryd.isAgg0
 z0:=Tryd.sizeOf0
 v0:=Tryd.zeroValue0
 t3:=Tryd.underlying3
 a3:=Tryd.isAgg3
 z3:=Tryd.sizeOf3
 v3:=Tryd.zeroValue3
 t4:=Tryd.underlying4
 a4:=Tryd.isAgg4
 z4:=Tryd.sizeOf4
 v4:=Tryd.zeroValue4
 t9:=Tryd.underlying9
 a9:=Tryd.isAgg9
 z9:=Tryd.sizeOf9
 v9:=Tryd.zeroValue9
 t20:=Tryd.underlying20
 a20:=Tryd.isAgg20
 z20:=Tryd.sizeOf20
 v20:=Tryd.zeroValue20
 t31:=Tryd.underlying40
 a31:=Tryd.isAgg40
 z31:=Tryd.sizeOf40
 v31:=Tryd.zeroValue40
 t37:=Tryd.underlying29
 a37:=Tryd.isAgg29
 z37:=Tryd.sizeOf29
 v37:=Tryd.zeroValue29
 t70:=Tryd.underlying54
 a70:=Tryd.isAgg54
 z70:=Tryd.sizeOf54
 v70:=Tryd.zeroValue54
 t72:=Tryd.underlying56
 a72:=Tryd.isAgg56
 z72:=Tryd.sizeOf56
 v72:=Tryd.zeroValue56
 t75:=Tryd.underlying59
 a75:=Tryd.isAgg59
 z75:=Tryd.sizeOf59
 v75:=Tryd.zeroValue59
 t76:=Tryd.underlying60
 a76:=Tryd.isAgg60
 z76:=Tryd.sizeOf60
 v76:=Tryd.zeroValue60
 t127:=Tryd.underlying71
 a127:=Tryd.isAgg71
 z127:=Tryd.sizeOf71
 v127:=Tryd.zeroValue71
 t164:=Tryd.underlying79
 a164:=Tryd.isAgg79
 z164:=Tryd.sizeOf79
 v164:=Tryd.zeroValue79 }
theorem sh156x : Go.Proofs.Builder.Extra Tryd.prog sh156_ren := { sizeBuilder := by kernel_rfl, liesBuilder := by kernel_rfl, t5 := Tryd.underlying5, a5 := Tryd.isAgg5, z5 := Tryd.sizeOf5, v5 := Tryd.zeroValue5, infoByte := by kernel_rfl, cellsByte := by kernel_rfl, sizeByte := by kernel_rfl, neB5 := by decide }
theorem join_at {e base : Nat} {ok : Nat → Prop} {W : World} {A : Option Addr} {n c : Nat} {xs : List ByteArray} (h : Kd.R Kd.string e W base ok (.slice A n c) xs) : xs.length = 0 ∨ ∃ g o, A = some ⟨g, o, none⟩ ∧ g < W.heap.size := by
 obtain ⟨_,inner,ho,_⟩:=h
 rcases ho.2 with ⟨he,h0⟩ | ⟨g,cap,cur,he,hg,hh,_⟩
 ·exact .inl h0
 ·right
  cases he
  exact ⟨g,0,rfl,(Array.getElem?_eq_some_iff.1 hh).1⟩
def joinT (l0 : List ByteArray) (a1 : ByteArray) : ByteArray := ⟨(Lib.join (l0.map (·.data.toList)) a1.data.toList).toArray⟩
def strings_Join.f (l0 : List ByteArray) (a1 : ByteArray) : Option ByteArray := if l0.length ≤ 140737488355328 ∧ (Lib.join (l0.map (·.data.toList)) a1.data.toList).length ≤ 140737488355328 then some (joinT l0 a1) else none
set_option maxHeartbeats 8000000 in
set_option maxRecDepth 100000 in
theorem strings_Join.calls (A0 : Option Addr) (c0 : Nat) (l0 : List ByteArray) (a1 : ByteArray) (r : ByteArray) (w : World) (hr0 : Kd.C Kd.string w A0 l0.length l0) (hc0 : l0.length ≤ c0) (h : strings_Join.f l0 a1 = some r) (hA : l0.length = 0 ∨ ∃ g o, A0 = some ⟨g, o, none⟩ ∧ g < w.heap.size) :
  Calls Tryd.prog 19 #[.slice A0 l0.length c0, .string a1] w fun e w'=>e=.returned (.string r)∧Below w.heap.size w w':=by
 unfold strings_Join.f at h
 by_cases hk:l0.length≤140737488355328∧(Lib.join (l0.map (·.data.toList)) a1.data.toList).length≤140737488355328
 ·rw [if_pos hk] at h
  obtain rfl:=Option.some.inj h
  cases l0 with
  | nil=>exact (show Calls Tryd.prog 19 _ w _ from Go.Proofs.Any.strings_Join_none sh156 sh156x A0 c0 a1 w).mono (fun e w' ⟨he,hw⟩=>⟨he,hw ▸ Below.refl _ _⟩)
  | cons x xs =>
   rcases hA with hA | ⟨g,o,rfl,hg⟩
   ·simp at hA
   ·refine (show Calls Tryd.prog 19 _ w _ from Go.Proofs.Any.strings_Join sh156 sh156x g o c0 (x :: xs) a1 w (fun j y hj=>?_) hg hk.1 hc0 hk.2)
    obtain ⟨ad,e1,e2⟩:=hr0.2.2 (by simp)
    obtain rfl:=Option.some.inj e1
    obtain ⟨c,h1,h2,h3⟩:=e2 j y hj
    have h4:=h3 0 (.string y) (by rw [show c=[.string y] from h2];rfl)
    have e3:(⟨g,o,none⟩:Addr).add (j * Kd.string.sz+0)=⟨g,o+j,none⟩:=by
     rw [show Kd.string.sz=1 from rfl,Nat.mul_one,Nat.add_zero]
     unfold Addr.add
     split
     ·simp_all
     ·rfl
    rw [e3] at h4
    exact h4
 ·rw [if_neg hk] at h;cases h
def jf.l0 : Nat → List ByteArray → List (S42) → Int → Int → Option (ByteArray)
 | 0,_,_,_,_=>none
 | k+1,x3,x12,x13,x14=>if x14<x13 then (if 0≤x14 then (if x14<(x12.length:Int) then (if ((ja x12 x14).f0.f0).size+1≤9223372036854775807 then ((strconv_Itoa.f ((ja x12 x14).f0.f1)).bind fun t197=>(if (((ja x12 x14).f0.f0) ++ (⟨#[58]⟩:ByteArray)).size+t197.size≤9223372036854775807 then (if ((ja x12 x14).f1)=1 then (if x3.length<8796093022208 then (jf.l0 k (x3 ++ [(((ja x12 x14).f0.f0) ++ (⟨#[58]⟩:ByteArray)) ++ t197]) x12 x13 (wrap64 (x14+1))) else (none)) else ((strconv_Itoa.f ((ja x12 x14).f1)).bind fun t201=>(if 1+t201.size≤9223372036854775807 then (if ((((ja x12 x14).f0.f0) ++ (⟨#[58]⟩:ByteArray)) ++ t197).size+((⟨#[42]⟩:ByteArray) ++ t201).size≤9223372036854775807 then (if x3.length<8796093022208 then (jf.l0 k (x3 ++ [((((ja x12 x14).f0.f0) ++ (⟨#[58]⟩:ByteArray)) ++ t197) ++ ((⟨#[42]⟩:ByteArray) ++ t201)]) x12 x13 (wrap64 (x14+1))) else (none)) else (none)) else (none)))) else (none))) else (none)) else (none)) else (none)) else ((strings_Join.f x3 (⟨#[32]⟩:ByteArray)).bind fun t194=>(some t194))
def jf.f (k : Nat) (l0 : List (S38)) : Option (ByteArray) := (jw.f k l0).bind fun t187 => (if t187 = true then ((jD.f k l0).bind fun t191 => (jf.l0 k (([] : List ByteArray)) t191 (t191.length : Int) 0)) else (some (⟨#[]⟩ : ByteArray)))
def jf.T7 : Bool × List (List Nat × List Nat) := (true, [([], []), ([0], [0]), ([1], [1]), ([2], [2]), ([], []), ([4], [4]), ([5], [5]), ([6], [6]), ([3, 7], [3, 7]), ([8, 7, 0, 1, 2, 3, 4, 5, 6, 7, 8], [8])])
def jf.B7 : List Nat := [0, 1, 3, 7, 0, 16, 48, 112, 255, 511]
theorem jf.tab7 : rtab .any (opsOf Tryd.f8 7) = jf.T7 := by kernel_rfl
theorem jf.bits7 : waitsOk jf.T7.2 jf.B7 = true := by kernel_rfl
set_option maxHeartbeats 8000000 in
set_option maxRecDepth 100000 in
theorem jf.calls (k : Nat) (A0 : Option Addr) (c0 : Nat) (l0 : List (S38)) (r : ByteArray) (w : World) (hr0 : Kd.C k38 w A0 l0.length l0) (hc0 : l0.length ≤ c0) (h : jf.f k l0 = some r) (htab : Lib.TabIs Tryd.prog w "internal/strconv.uint64pow10" .u64 Lib.pow10Tab) :
  Calls Tryd.prog 8 #[.slice A0 l0.length c0] w fun e w'=>e=.returned (.string r)∧Below w.heap.size w w':=by
 have HT:=am (fun (W:World) (hb_:Below w.heap.size w W)=>tabSt htab hb_)
 clear htab
 have hu42:=Tryd.underlying42
 have HR0:=am hr0
 have HC0:=am hc0
 clear hr0 hc0
 have HB:=am (Below.refl w.heap.size w)
 have H:((jw.f k l0).bind fun t187=>(if t187=true then ((jD.f k l0).bind fun t191=>(jf.l0 k (([]:List ByteArray)) t191 (t191.length:Int) 0)) else (some (⟨#[]⟩:ByteArray))))=some r:=h
 clear h
 replace H:=bzS H
 obtain ⟨t187,A20,H⟩:=H
 replace H:(if t187=true then ((jD.f k l0).bind fun t191=>(jf.l0 k (([]:List ByteArray)) t191 (t191.length:Int) 0)) else (some (⟨#[]⟩:ByteArray)))=some r:=H
 have A2:=am A20
 clear A20
 by_cases c3:t187=true
 ·subst c3
  have H1:((jD.f k l0).bind fun t191=>(jf.l0 k (([]:List ByteArray)) t191 (t191.length:Int) 0))=some r:=by rw [if_pos rfl] at H;exact H
  clear H
  have H:=H1
  clear H1
  obtain ⟨y188,hy188⟩:∃ y_:List ByteArray,y_=(([]:List ByteArray)):=⟨_,rfl⟩
  replace H:((jD.f k l0).bind fun t191=>(jf.l0 k y188 t191 (t191.length:Int) 0))=some r:=by first |(rw [hy188];with_reducible exact H) |(have H2_:=(Option.bind_some _ _).symm.trans H;rw [hy188];with_reducible exact H2_) |(have H2_:=(Option.bind_some _ _).symm.trans H;with_reducible exact H2_) | with_reducible exact H |(rw [hy188];exact H) | exact H
  have Ny188:=am hy188
  clear hy188
  replace H:=bzS H
  obtain ⟨t191,A40,H⟩:=H
  replace H:(jf.l0 k y188 t191 (t191.length:Int) 0)=some r:=H
  have A4:=am A40
  clear A40
  have H':=am H
  clear H
  go_enter Tryd.func8,Tryd.ntmps8
  go_wp2_with (first |((with_reducible refine jk (f:=11) rfl ?_);refine gL (some 8) Tryd.func11 #[.slice A0 l0.length c0] ?_;(with_reducible refine (jw.calls k _ _ l0 true _ ?side1 ?side2 A2.out).mono ?_);(case side1=>exact Y9);(case side2=>exact HC0.out);rintro e w5 ⟨rfl,hb⟩;refine ⟨_,rfl,?_⟩;replace HB:=am (jg (bq) hb);(try clear hb);(try clear hb2);(try clear hk);(try clear hi)) |((with_reducible refine jK (N:=10) rfl ?_);refine Kd.R_lit Kd.string _ 9 ?hg (N:=10) ?hd (xs:=([]:List ByteArray)) (inner:=[]) (ok:=fun _=>True) (okp:=fun _=>True) ?hr ?hp (fun _ hk=>hk) trivial (Below.refl _ _) (Nat.le_refl _) (by simp) ?_;(case hd=>rfl);(case hg=>rfl);(case hr=>exact Y3);(case hp=>exact (Reps.none _ _));intro v189 w6 ho7 hb hg_ hnew_;clear hg_ hnew_;(first | rw [← Ny188.out] at ho7 |(simp only [Int.reduceToNat] at ho7;rw [← Ny188.out] at ho7));have HO190:=am (Kd.jca ho7 (jA (bq)));replace HB:=am (jg (bq) hb);clear hb ho7) |((with_reducible refine jk (f:=17) rfl ?_);refine gL (some 12) Tryd.func17 #[.slice A0 l0.length c0] ?_;(with_reducible refine (jD.calls k _ _ l0 t191 _ ?side1 ?side2 A4.out).mono ?_);(case side1=>exact cq (Kd.C_below HR0.out HB.out));(case side2=>exact HC0.out);rintro e w8 ⟨v192,rfl,ho0,hb⟩;refine ⟨_,rfl,?_⟩;have HO193:=am (Kd.jca ho0 (jA (bq)));replace HO190:=am (Kd.jM (rq HO190.out) hb);replace HB:=am (jg (bq) hb);(try clear hb);(try clear hb2);(try clear hk);(try clear hi);(try clear ho0);obtain ⟨Ao9,co9,eo9⟩:=Kd.jda HO193.out;subst eo9))
  go_loopg [3,14] k (fun kq v3 v14 w'=>∃ (x3_1:List ByteArray) (x14_1:Int),v14=.int .i64 x14_1∧jy (jf.l0 kq x3_1 t191 (t191.length:Int) x14_1=some r)∧jy (kq≤k)∧jy (Kd.R Kd.string 9 w' w.heap.size (fun _=>True) v3 x3_1)∧jy (Kd.R k42 42 w' w.heap.size (fun _=>True) (.slice Ao9 t191.length co9) t191)∧jy (Below w.heap.size w w'))
  case atStart=>exact ⟨(y188),(0),(sq),H',⟨Nat.le_refl _⟩,⟨rq HO190.out⟩,⟨rq HO193.out⟩,⟨bq⟩⟩
  case round =>
   clear H'
   try clear c1
   try clear p2
   try clear c3
   try clear c8
   obtain ⟨x3_1,x14_1,rfl,HA,HK1,HO_3,HO_12,HB⟩:=hrel
   cases gk with
   | zero=>exact absurd HA.out (by simp [jf.l0])
   | succ k1 =>
    have H:=HA.out
    clear HA
    simp only [jf.l0] at H
    by_cases c10:x14_1<(t191.length:Int)
    ·rw [if_pos c10] at H
     have c10b0:decide (x14_1<(t191.length:Int))=true:=dzT c10
     clear c10
     by_cases c11:0≤x14_1
     ·rw [if_pos c11] at H
      have c11b0:decide (0≤x14_1)=true:=dzT c11
      clear c11
      by_cases c12:x14_1<(t191.length:Int)
      ·rw [if_pos c12] at H
       have c12b0:decide (x14_1<(t191.length:Int))=true:=dzT c12
       clear c12
       by_cases c13:((ja t191 x14_1).f0.f0).size+1≤9223372036854775807
       ·rw [if_pos c13] at H
        have c13b0:=ezT c13
        have c13b1:decide (((ja t191 x14_1).f0.f0).size+1≤9223372036854775807)=true:=dzT c13
        try have c13b2:(9223372036854775807<((ja t191 x14_1).f0.f0).size+1)=False:=eq_false (Nat.not_lt.2 c13)
        replace H:=bzS H
        obtain ⟨t197,A140,H⟩:=H
        replace H:(if (((ja t191 x14_1).f0.f0) ++ (⟨#[58]⟩:ByteArray)).size+t197.size≤9223372036854775807 then (if ((ja t191 x14_1).f1)=1 then (if x3_1.length<8796093022208 then (jf.l0 k1 (x3_1 ++ [(((ja t191 x14_1).f0.f0) ++ (⟨#[58]⟩:ByteArray)) ++ t197]) t191 (t191.length:Int) (wrap64 (x14_1+1))) else (none)) else ((strconv_Itoa.f ((ja t191 x14_1).f1)).bind fun t201=>(if 1+t201.size≤9223372036854775807 then (if ((((ja t191 x14_1).f0.f0) ++ (⟨#[58]⟩:ByteArray)) ++ t197).size+((⟨#[42]⟩:ByteArray) ++ t201).size≤9223372036854775807 then (if x3_1.length<8796093022208 then (jf.l0 k1 (x3_1 ++ [((((ja t191 x14_1).f0.f0) ++ (⟨#[58]⟩:ByteArray)) ++ t197) ++ ((⟨#[42]⟩:ByteArray) ++ t201)]) t191 (t191.length:Int) (wrap64 (x14_1+1))) else (none)) else (none)) else (none)))) else (none))=some r:=H
        have A14:=am A140
        clear A140
        by_cases c15:(((ja t191 x14_1).f0.f0) ++ (⟨#[58]⟩:ByteArray)).size+t197.size≤9223372036854775807
        ·rw [if_pos c15] at H
         have c15b0:=ezT c15
         have c15b1:decide ((((ja t191 x14_1).f0.f0) ++ (⟨#[58]⟩:ByteArray)).size+t197.size≤9223372036854775807)=true:=dzT c15
         try have c15b2:(9223372036854775807<(((ja t191 x14_1).f0.f0) ++ (⟨#[58]⟩:ByteArray)).size+t197.size)=False:=eq_false (Nat.not_lt.2 c15)
         try have c15s:(9223372036854775807<((ja t191 x14_1).f0.f0).size+1+t197.size)=False:=eq_false (Nat.not_lt.2 (by have h_:=c15;simp only [ByteArray.size_append] at h_;exact h_))
         by_cases c16:((ja t191 x14_1).f1)=1
         ·rw [if_pos c16] at H
          have c16b0:(((ja t191 x14_1).f1) == 1)=true:=beq_iff_eq.mpr c16
          have c16b1:(((ja t191 x14_1).f1) != 1)=false:=bne_eq_false_iff_eq.mpr c16
          clear c16
          by_cases c17:x3_1.length<8796093022208
          ·rw [if_pos c17] at H
           have LMc17:=am c17
           clear c17
           obtain ⟨y198,hy198⟩:∃ y_:List ByteArray,y_=(x3_1 ++ [(((ja t191 x14_1).f0.f0) ++ (⟨#[58]⟩:ByteArray)) ++ t197]):=⟨_,rfl⟩
           replace H:(jf.l0 k1 y198 t191 (t191.length:Int) (wrap64 (x14_1+1)))=some r:=by first |(rw [hy198];with_reducible exact H) |(have H2_:=(Option.bind_some _ _).symm.trans H;rw [hy198];with_reducible exact H2_) |(have H2_:=(Option.bind_some _ _).symm.trans H;with_reducible exact H2_) | with_reducible exact H |(rw [hy198];exact H) | exact H
           have Ny198:=am hy198
           clear hy198
           have H':=am H
           clear H
           have p195:0≤(x14_1:Int):=ozD (uq)
           have q195:x14_1<(t191.length:Int):=ozD (uq)
           obtain ⟨ad195,e195,hx195_0,hx195_1,hx195_2⟩:=jRa (Kd.jo HO_12.out).2.2 x14_1 p195 q195
           cases e195
           replace p195:=ezT p195
           replace q195:=ezT q195
           try go_wp2_with (first |((with_reducible refine jK (N:=5) rfl ?_);refine bE (N:=5) (cs:=#[.string (⟨#[]⟩:ByteArray), .int .i64 0, .int .i64 0]) (t:=42) ?_;intro gb196 hg w18 hbox hb;have BK196:=am (hbox);have GW196:=am ((Y5:w.heap.size≤gb196));have GE196:=am ((Y5:w.heap.size≤gb196));replace HO_3:=am (Kd.jM (rq HO_3.out) hb);replace HO_12:=am (Kd.jM (Kd.R_elderB (rq HO_12.out) gb196 (Nat.le_of_eq hg.symm)) hb);replace HB:=am (jg (bq) hb);clear hb hbox hg;have hcz19_0:=bc0 BK196.out;have hcz19_1:=bc1 BK196.out;have hcz19_2:=bc2 BK196.out;have hfz19_0:=jl BK196.out 0;have hfz19_1:=jl BK196.out 1;have hfz19_2:=jl BK196.out 2))
           have n0_:jy (Kd.R Kd.string 9 (((w18.setCell ⟨gb196,0,none⟩ (.string ((ja t191 x14_1).f0.f0))).setCell ⟨gb196,1,none⟩ (.int .i64 ((ja t191 x14_1).f0.f1))).setCell ⟨gb196,2,none⟩ (.int .i64 ((ja t191 x14_1).f1))) w.heap.size (fun _=>True) u3 x3_1):=⟨by (with_reducible repeat (first | apply Kd.jMa | apply Kd.jFa | apply Kd.jOa));exact Kd.jT (Kd.R_far (p:=⟨gb196,2,none⟩) (Kd.R_far (p:=⟨gb196,1,none⟩) (Kd.R_far (p:=⟨gb196,0,none⟩) (Kd.R_types HO_3.out BK196.out (by decide)) (fun _ hk=>hk.2) (.string ((ja t191 x14_1).f0.f0))) (fun _ hk=>hk.2) (.int .i64 ((ja t191 x14_1).f0.f1))) (fun _ hk=>hk.2) (.int .i64 ((ja t191 x14_1).f1))) (fun _ hk=>trivial)⟩
           have n1_:jy (Kd.R k42 42 (((w18.setCell ⟨gb196,0,none⟩ (.string ((ja t191 x14_1).f0.f0))).setCell ⟨gb196,1,none⟩ (.int .i64 ((ja t191 x14_1).f0.f1))).setCell ⟨gb196,2,none⟩ (.int .i64 ((ja t191 x14_1).f1))) w.heap.size (fun k_=>k_≠gb196) (.slice (some ad195) t191.length co9) t191):=⟨by (with_reducible repeat (first | apply Kd.jMa | apply Kd.jFa | apply Kd.jOa));exact Kd.jT (Kd.R_far (p:=⟨gb196,2,none⟩) (Kd.R_far (p:=⟨gb196,1,none⟩) (Kd.R_far (p:=⟨gb196,0,none⟩) (Kd.jT HO_12.out (fun k_ hk=>(⟨hk,hk.2⟩:_∧k_≠gb196))) (fun _ hk=>hk.2) (.string ((ja t191 x14_1).f0.f0))) (fun _ hk=>hk.2) (.int .i64 ((ja t191 x14_1).f0.f1))) (fun _ hk=>hk.2) (.int .i64 ((ja t191 x14_1).f1))) (fun _ hk=>hk.1.2)⟩
           have n2_:jy ((((w18.setCell ⟨gb196,0,none⟩ (.string ((ja t191 x14_1).f0.f0))).setCell ⟨gb196,1,none⟩ (.int .i64 ((ja t191 x14_1).f0.f1))).setCell ⟨gb196,2,none⟩ (.int .i64 ((ja t191 x14_1).f1))).heap[gb196]?=some (.cells #[.string ((ja t191 x14_1).f0.f0), .int .i64 ((ja t191 x14_1).f0.f1), .int .i64 ((ja t191 x14_1).f1)] 42 (0,0))):=⟨by (with_reducible repeat (first | refine jaa ?_ _ | refine jea ?_ | refine jba ?_ _));refine jLa (cs:=#[.string ((ja t191 x14_1).f0.f0), .int .i64 ((ja t191 x14_1).f0.f1), .int .i64 0]) ?_ 2 _ rfl;(with_reducible repeat (first | refine jaa ?_ _ | refine jea ?_ | refine jba ?_ _));refine jLa (cs:=#[.string ((ja t191 x14_1).f0.f0), .int .i64 0, .int .i64 0]) ?_ 1 _ rfl;(with_reducible repeat (first | refine jaa ?_ _ | refine jea ?_ | refine jba ?_ _));refine jLa (cs:=#[.string (⟨#[]⟩:ByteArray), .int .i64 0, .int .i64 0]) ?_ 0 _ rfl;(with_reducible repeat (first | refine jaa ?_ _ | refine jea ?_ | refine jba ?_ _));exact BK196.out⟩
           have n3_:jy (Below w.heap.size w (((w18.setCell ⟨gb196,0,none⟩ (.string ((ja t191 x14_1).f0.f0))).setCell ⟨gb196,1,none⟩ (.int .i64 ((ja t191 x14_1).f0.f1))).setCell ⟨gb196,2,none⟩ (.int .i64 ((ja t191 x14_1).f1)))):=⟨Y8⟩
           (try clear HO_3)
           (try clear HO_12)
           (try clear BK196)
           (try clear HB)
           generalize (((w18.setCell ⟨gb196,0,none⟩ (.string ((ja t191 x14_1).f0.f0))).setCell ⟨gb196,1,none⟩ (.int .i64 ((ja t191 x14_1).f0.f1))).setCell ⟨gb196,2,none⟩ (.int .i64 ((ja t191 x14_1).f1)))=w20 at n0_ n1_ n2_ n3_ ⊢
           have HO_3:=n0_
           have HO_12:=n1_
           have BK196:=n2_
           have HB:=n3_
           clear n0_ n1_ n2_ n3_
           replace HO_3:=am (Kd.jOa HO_3.out)
           replace HO_12:=am (Kd.jOa HO_12.out)
           replace BK196:=am (jea BK196.out)
           replace HB:=am (jQ HB.out)
           refine start_ (n:=10) (S:=fun w'=>w'.cell? ⟨gb196,0,none⟩=some (.string ((ja t191 x14_1).f0.f0))∧w'.cell? ⟨gb196,1,none⟩=some (.int .i64 ((ja t191 x14_1).f0.f1))∧w'.cell? ⟨gb196,2,none⟩=some (.int .i64 ((ja t191 x14_1).f1))) (ds:=[]) #[false,false,false,false,false,false,false,false,false,false] (by kernel_rfl) rfl rfl ⟨(jwa BK196.out 0).trans rfl,(jwa BK196.out 1).trans rfl,(jwa BK196.out 2).trans rfl⟩ (fun hHeld=>?_);refine with_tabW jf.tab7 jf.bits7 (fun HT_ HW_=>?_)
           generalize w20.drew=w21 at HO_3 HO_12 BK196 HB hHeld ⊢
           refine pq (i:=0) (N:=some 18) #[true,false,false,false,false,false,false,false,false,false] ?_
           refine pq (i:=1) (N:=some 19) #[true,true,false,false,false,false,false,false,false,false] ?_
           refine pq (i:=4) (N:=some 22) #[true,true,false,false,true,false,false,false,false,false] ?_
           refine pq (i:=5) (N:=some 23) #[true,true,false,false,true,true,false,false,false,false] ?_
           refine take_ (i:=2) (N:=some 20) (v:=?_) (a':=?_) #[true,true,true,false,true,true,false,false,false,false] rfl rfl (take_ofW HT_.out HW_.out (by kernel_rfl)) (fun _ _ _ h=>h) (Or.inl ⟨by rfl,?_⟩) hHeld ?_ ?_
           rotate_left
           ·rintro w' ⟨s0,s1,s2⟩
            go_simp
            with_reducible rfl
           rotate_left
           ·exact sa
           refine pq (i:=3) (N:=some 21) #[true,true,true,true,true,true,false,false,false,false] ?_
           refine take_ (i:=6) (N:=some 24) (v:=?_) (a':=?_) #[true,true,true,true,true,true,true,false,false,false] rfl rfl (take_ofW HT_.out HW_.out (by kernel_rfl)) (fun _ _ _ h=>h) (Or.inl ⟨by rfl,?_⟩) hHeld ?_ ?_
           rotate_left
           ·rintro w' ⟨s0,s1,s2⟩
            go_simp
            with_reducible rfl
           rotate_left
           ·exact sa
           refine one_ (i:=7) (N:=some 25) #[true,true,true,true,true,true,true,true,false,false] rfl rfl (one_of HT_.out (by kernel_rfl)) (by decide) (fun K hK=>?_)
           refine goes_ Tryd.func18 (by kernel_rfl) rfl #[.int .i64 ((ja t191 x14_1).f0.f1)] (by rfl) rfl rfl (aq) ?_
           with_reducible refine (strconv_Itoa.calls ((ja t191 x14_1).f0.f1) t197 _ A14.out (HT.out _ (Y8))).mono ?_
           rintro e w22 ⟨rfl,hb⟩
           refine ⟨_,rfl,?_⟩
           replace HO_3:=am (Kd.jM (rq HO_3.out) hb)
           replace HO_12:=am (Kd.jM (rq HO_12.out) hb)
           replace BK196:=am (jXa (g:=gb196) (o:=.cells #[.string ((ja t191 x14_1).f0.f0), .int .i64 ((ja t191 x14_1).f0.f1), .int .i64 ((ja t191 x14_1).f1)] 42 (0,0)) (kq BK196.out) hb)
           replace HB:=am (jg (Y8) hb)
           (try clear hb)
           (try clear hb2)
           (try clear hk)
           (try clear hi)
           refine hK.out _ _ ⟨(jwa BK196.out 0).trans rfl,(jwa BK196.out 1).trans rfl,(jwa BK196.out 2).trans rfl⟩ (fun hHeld=>?_)
           clear hK K
           refine norm_ (a':=?_) ?_ ?_
           rotate_left
           ·show Act.put _ (some 25) _=_
            simp only [Act.put,List.setIfInBounds_toArray,List.set_cons_zero,List.set_cons_succ,i64_w,i32_w]
            rfl
           refine pq (i:=8) (N:=some 26) #[true,true,true,true,true,true,true,true,true,false] ?_
           refine pq (i:=9) (N:=some 6) #[true,true,true,true,true,true,true,true,true,true] ?_
           refine done_ (done_of HT_.out (by kernel_rfl)) ?_
           have hcz23_0:=bc0 BK196.out
           have hcz23_1:=bc1 BK196.out
           have hcz23_2:=bc2 BK196.out
           have hfz23_0:=jl BK196.out 0
           have hfz23_1:=jl BK196.out 1
           have hfz23_2:=jl BK196.out 2
           try go_wp2_with (first |((with_reducible refine jP (b:=.append) (xs:=#[.tmp 36, .tmp 38]) rfl ?_);at_builtin;refine Kd.jua Kd.string (w0:=w) w.heap.size rfl (.tmp 36) (.tmp 38) 40 9 (.string ⟨#[]⟩) 16 rfl Tryd.underlying40 info9 rfl (by decide) (by omega) u3 x3_1 ((((ja t191 x14_1).f0.f0) ++ (⟨#[58]⟩:ByteArray)) ++ t197) [.string ((((ja t191 x14_1).f0.f0) ++ (⟨#[58]⟩:ByteArray)) ++ t197)] (fun _=>True) (fun _=>False) rfl rfl ?aP (fun _ hk=>hk.elim) ?aF ?aO ?aB ?aS ?aL ?_;(case aP=>exact rfl);(case aB=>exact (Y8));(case aF=>exact (fun _ _=>trivial));(case aO=>exact (rq HO_3.out));(case aS=>exact (jA (Y8)));(case aL=>have:=LMc17.out;omega);intro v199 w24 ho hb hg hat;rw [← Ny198.out] at ho;have n0_:=am (Kd.R_over' (rq HO_12.out) (Kd.R_typed (rq HO_3.out)) (by decide) hg);have n1_:=am (jra (g:=gb196) (o:=.cells #[.string ((ja t191 x14_1).f0.f0), .int .i64 ((ja t191 x14_1).f0.f1), .int .i64 ((ja t191 x14_1).f1)] 42 (0,0)) (kq BK196.out) hg (Kd.R_ne HO_3.out BK196.out (by decide)));have n2_:=am (hb);have n3_:=am (ho);clear HO_12 BK196 HB HO_3;have HO_12:=n0_;have BK196:=n1_;have HB:=n2_;have HO200:=n3_;clear n0_ n1_ n2_ n3_ ho hb hg hat))
           go_roundg k1
           case measure=>have:=HK1.out;omega
           case rel=>exact ⟨(y198),(wrap64 (x14_1+1)),(sq),H',⟨by have:=HK1.out;omega⟩,⟨rq HO200.out⟩,⟨by (with_reducible repeat (first | apply Kd.jMa | apply Kd.jFa | apply Kd.jOa));exact Kd.jT HO_12.out (fun _ hk=>trivial)⟩,⟨Y8⟩⟩
          ·rw [if_neg c17] at H
           exact absurd H (by simp)
         ·rw [if_neg c16] at H
          have c16b0:(((ja t191 x14_1).f1) == 1)=false:=beq_eq_false_iff_ne.mpr c16
          have c16b1:(((ja t191 x14_1).f1) != 1)=true:=bne_iff_ne.mpr c16
          replace H:=bzS H
          obtain ⟨t201,A250,H⟩:=H
          replace H:(if 1+t201.size≤9223372036854775807 then (if ((((ja t191 x14_1).f0.f0) ++ (⟨#[58]⟩:ByteArray)) ++ t197).size+((⟨#[42]⟩:ByteArray) ++ t201).size≤9223372036854775807 then (if x3_1.length<8796093022208 then (jf.l0 k1 (x3_1 ++ [((((ja t191 x14_1).f0.f0) ++ (⟨#[58]⟩:ByteArray)) ++ t197) ++ ((⟨#[42]⟩:ByteArray) ++ t201)]) t191 (t191.length:Int) (wrap64 (x14_1+1))) else (none)) else (none)) else (none))=some r:=H
          have A25:=am A250
          clear A250
          by_cases c26:1+t201.size≤9223372036854775807
          ·rw [if_pos c26] at H
           have c26b0:=ezT c26
           have c26b1:decide (1+t201.size≤9223372036854775807)=true:=dzT c26
           try have c26b2:(9223372036854775807<1+t201.size)=False:=eq_false (Nat.not_lt.2 c26)
           by_cases c27:((((ja t191 x14_1).f0.f0) ++ (⟨#[58]⟩:ByteArray)) ++ t197).size+((⟨#[42]⟩:ByteArray) ++ t201).size≤9223372036854775807
           ·rw [if_pos c27] at H
            have c27b0:=ezT c27
            have c27b1:decide (((((ja t191 x14_1).f0.f0) ++ (⟨#[58]⟩:ByteArray)) ++ t197).size+((⟨#[42]⟩:ByteArray) ++ t201).size≤9223372036854775807)=true:=dzT c27
            try have c27b2:(9223372036854775807<((((ja t191 x14_1).f0.f0) ++ (⟨#[58]⟩:ByteArray)) ++ t197).size+((⟨#[42]⟩:ByteArray) ++ t201).size)=False:=eq_false (Nat.not_lt.2 c27)
            try have c27s:(9223372036854775807<((ja t191 x14_1).f0.f0).size+1+t197.size+1+t201.size)=False:=eq_false (Nat.not_lt.2 (by have h_:=c27;simp only [ByteArray.size_append] at h_;exact h_))
            by_cases c28:x3_1.length<8796093022208
            ·rw [if_pos c28] at H
             have LMc28:=am c28
             clear c28
             obtain ⟨y202,hy202⟩:∃ y_:List ByteArray,y_=(x3_1 ++ [((((ja t191 x14_1).f0.f0) ++ (⟨#[58]⟩:ByteArray)) ++ t197) ++ ((⟨#[42]⟩:ByteArray) ++ t201)]):=⟨_,rfl⟩
             replace H:(jf.l0 k1 y202 t191 (t191.length:Int) (wrap64 (x14_1+1)))=some r:=by first |(rw [hy202];with_reducible exact H) |(have H2_:=(Option.bind_some _ _).symm.trans H;rw [hy202];with_reducible exact H2_) |(have H2_:=(Option.bind_some _ _).symm.trans H;with_reducible exact H2_) | with_reducible exact H |(rw [hy202];exact H) | exact H
             have Ny202:=am hy202
             clear hy202
             have H':=am H
             clear H
             have p195:0≤(x14_1:Int):=ozD (uq)
             have q195:x14_1<(t191.length:Int):=ozD (uq)
             obtain ⟨ad195,e195,hx195_0,hx195_1,hx195_2⟩:=jRa (Kd.jo HO_12.out).2.2 x14_1 p195 q195
             cases e195
             replace p195:=ezT p195
             replace q195:=ezT q195
             try go_wp2_with (first |((with_reducible refine jK (N:=5) rfl ?_);refine bE (N:=5) (cs:=#[.string (⟨#[]⟩:ByteArray), .int .i64 0, .int .i64 0]) (t:=42) ?_;intro gb196 hg w29 hbox hb;have BK196:=am (hbox);have GW196:=am ((Y5:w.heap.size≤gb196));have GE196:=am ((Y5:w.heap.size≤gb196));replace HO_3:=am (Kd.jM (rq HO_3.out) hb);replace HO_12:=am (Kd.jM (Kd.R_elderB (rq HO_12.out) gb196 (Nat.le_of_eq hg.symm)) hb);replace HB:=am (jg (bq) hb);clear hb hbox hg;have hcz30_0:=bc0 BK196.out;have hcz30_1:=bc1 BK196.out;have hcz30_2:=bc2 BK196.out;have hfz30_0:=jl BK196.out 0;have hfz30_1:=jl BK196.out 1;have hfz30_2:=jl BK196.out 2))
             have n0_:jy (Kd.R Kd.string 9 (((w29.setCell ⟨gb196,0,none⟩ (.string ((ja t191 x14_1).f0.f0))).setCell ⟨gb196,1,none⟩ (.int .i64 ((ja t191 x14_1).f0.f1))).setCell ⟨gb196,2,none⟩ (.int .i64 ((ja t191 x14_1).f1))) w.heap.size (fun _=>True) u3 x3_1):=⟨by (with_reducible repeat (first | apply Kd.jMa | apply Kd.jFa | apply Kd.jOa));exact Kd.jT (Kd.R_far (p:=⟨gb196,2,none⟩) (Kd.R_far (p:=⟨gb196,1,none⟩) (Kd.R_far (p:=⟨gb196,0,none⟩) (Kd.R_types HO_3.out BK196.out (by decide)) (fun _ hk=>hk.2) (.string ((ja t191 x14_1).f0.f0))) (fun _ hk=>hk.2) (.int .i64 ((ja t191 x14_1).f0.f1))) (fun _ hk=>hk.2) (.int .i64 ((ja t191 x14_1).f1))) (fun _ hk=>trivial)⟩
             have n1_:jy (Kd.R k42 42 (((w29.setCell ⟨gb196,0,none⟩ (.string ((ja t191 x14_1).f0.f0))).setCell ⟨gb196,1,none⟩ (.int .i64 ((ja t191 x14_1).f0.f1))).setCell ⟨gb196,2,none⟩ (.int .i64 ((ja t191 x14_1).f1))) w.heap.size (fun k_=>k_≠gb196) (.slice (some ad195) t191.length co9) t191):=⟨by (with_reducible repeat (first | apply Kd.jMa | apply Kd.jFa | apply Kd.jOa));exact Kd.jT (Kd.R_far (p:=⟨gb196,2,none⟩) (Kd.R_far (p:=⟨gb196,1,none⟩) (Kd.R_far (p:=⟨gb196,0,none⟩) (Kd.jT HO_12.out (fun k_ hk=>(⟨hk,hk.2⟩:_∧k_≠gb196))) (fun _ hk=>hk.2) (.string ((ja t191 x14_1).f0.f0))) (fun _ hk=>hk.2) (.int .i64 ((ja t191 x14_1).f0.f1))) (fun _ hk=>hk.2) (.int .i64 ((ja t191 x14_1).f1))) (fun _ hk=>hk.1.2)⟩
             have n2_:jy ((((w29.setCell ⟨gb196,0,none⟩ (.string ((ja t191 x14_1).f0.f0))).setCell ⟨gb196,1,none⟩ (.int .i64 ((ja t191 x14_1).f0.f1))).setCell ⟨gb196,2,none⟩ (.int .i64 ((ja t191 x14_1).f1))).heap[gb196]?=some (.cells #[.string ((ja t191 x14_1).f0.f0), .int .i64 ((ja t191 x14_1).f0.f1), .int .i64 ((ja t191 x14_1).f1)] 42 (0,0))):=⟨by (with_reducible repeat (first | refine jaa ?_ _ | refine jea ?_ | refine jba ?_ _));refine jLa (cs:=#[.string ((ja t191 x14_1).f0.f0), .int .i64 ((ja t191 x14_1).f0.f1), .int .i64 0]) ?_ 2 _ rfl;(with_reducible repeat (first | refine jaa ?_ _ | refine jea ?_ | refine jba ?_ _));refine jLa (cs:=#[.string ((ja t191 x14_1).f0.f0), .int .i64 0, .int .i64 0]) ?_ 1 _ rfl;(with_reducible repeat (first | refine jaa ?_ _ | refine jea ?_ | refine jba ?_ _));refine jLa (cs:=#[.string (⟨#[]⟩:ByteArray), .int .i64 0, .int .i64 0]) ?_ 0 _ rfl;(with_reducible repeat (first | refine jaa ?_ _ | refine jea ?_ | refine jba ?_ _));exact BK196.out⟩
             have n3_:jy (Below w.heap.size w (((w29.setCell ⟨gb196,0,none⟩ (.string ((ja t191 x14_1).f0.f0))).setCell ⟨gb196,1,none⟩ (.int .i64 ((ja t191 x14_1).f0.f1))).setCell ⟨gb196,2,none⟩ (.int .i64 ((ja t191 x14_1).f1)))):=⟨Y8⟩
             (try clear HO_3)
             (try clear HO_12)
             (try clear BK196)
             (try clear HB)
             generalize (((w29.setCell ⟨gb196,0,none⟩ (.string ((ja t191 x14_1).f0.f0))).setCell ⟨gb196,1,none⟩ (.int .i64 ((ja t191 x14_1).f0.f1))).setCell ⟨gb196,2,none⟩ (.int .i64 ((ja t191 x14_1).f1)))=w31 at n0_ n1_ n2_ n3_ ⊢
             have HO_3:=n0_
             have HO_12:=n1_
             have BK196:=n2_
             have HB:=n3_
             clear n0_ n1_ n2_ n3_
             replace HO_3:=am (Kd.jOa HO_3.out)
             replace HO_12:=am (Kd.jOa HO_12.out)
             replace BK196:=am (jea BK196.out)
             replace HB:=am (jQ HB.out)
             refine start_ (n:=10) (S:=fun w'=>w'.cell? ⟨gb196,0,none⟩=some (.string ((ja t191 x14_1).f0.f0))∧w'.cell? ⟨gb196,1,none⟩=some (.int .i64 ((ja t191 x14_1).f0.f1))∧w'.cell? ⟨gb196,2,none⟩=some (.int .i64 ((ja t191 x14_1).f1))) (ds:=[]) #[false,false,false,false,false,false,false,false,false,false] (by kernel_rfl) rfl rfl ⟨(jwa BK196.out 0).trans rfl,(jwa BK196.out 1).trans rfl,(jwa BK196.out 2).trans rfl⟩ (fun hHeld=>?_);refine with_tabW jf.tab7 jf.bits7 (fun HT_ HW_=>?_)
             generalize w31.drew=w32 at HO_3 HO_12 BK196 HB hHeld ⊢
             refine pq (i:=0) (N:=some 18) #[true,false,false,false,false,false,false,false,false,false] ?_
             refine pq (i:=1) (N:=some 19) #[true,true,false,false,false,false,false,false,false,false] ?_
             refine pq (i:=4) (N:=some 22) #[true,true,false,false,true,false,false,false,false,false] ?_
             refine pq (i:=5) (N:=some 23) #[true,true,false,false,true,true,false,false,false,false] ?_
             refine take_ (i:=2) (N:=some 20) (v:=?_) (a':=?_) #[true,true,true,false,true,true,false,false,false,false] rfl rfl (take_ofW HT_.out HW_.out (by kernel_rfl)) (fun _ _ _ h=>h) (Or.inl ⟨by rfl,?_⟩) hHeld ?_ ?_
             rotate_left
             ·rintro w' ⟨s0,s1,s2⟩
              go_simp
              with_reducible rfl
             rotate_left
             ·exact sa
             refine pq (i:=3) (N:=some 21) #[true,true,true,true,true,true,false,false,false,false] ?_
             refine take_ (i:=6) (N:=some 24) (v:=?_) (a':=?_) #[true,true,true,true,true,true,true,false,false,false] rfl rfl (take_ofW HT_.out HW_.out (by kernel_rfl)) (fun _ _ _ h=>h) (Or.inl ⟨by rfl,?_⟩) hHeld ?_ ?_
             rotate_left
             ·rintro w' ⟨s0,s1,s2⟩
              go_simp
              with_reducible rfl
             rotate_left
             ·exact sa
             refine one_ (i:=7) (N:=some 25) #[true,true,true,true,true,true,true,true,false,false] rfl rfl (one_of HT_.out (by kernel_rfl)) (by decide) (fun K hK=>?_)
             refine goes_ Tryd.func18 (by kernel_rfl) rfl #[.int .i64 ((ja t191 x14_1).f0.f1)] (by rfl) rfl rfl (aq) ?_
             with_reducible refine (strconv_Itoa.calls ((ja t191 x14_1).f0.f1) t197 _ A14.out (HT.out _ (Y8))).mono ?_
             rintro e w33 ⟨rfl,hb⟩
             refine ⟨_,rfl,?_⟩
             replace HO_3:=am (Kd.jM (rq HO_3.out) hb)
             replace HO_12:=am (Kd.jM (rq HO_12.out) hb)
             replace BK196:=am (jXa (g:=gb196) (o:=.cells #[.string ((ja t191 x14_1).f0.f0), .int .i64 ((ja t191 x14_1).f0.f1), .int .i64 ((ja t191 x14_1).f1)] 42 (0,0)) (kq BK196.out) hb)
             replace HB:=am (jg (Y8) hb)
             (try clear hb)
             (try clear hb2)
             (try clear hk)
             (try clear hi)
             refine hK.out _ _ ⟨(jwa BK196.out 0).trans rfl,(jwa BK196.out 1).trans rfl,(jwa BK196.out 2).trans rfl⟩ (fun hHeld=>?_)
             clear hK K
             refine norm_ (a':=?_) ?_ ?_
             rotate_left
             ·show Act.put _ (some 25) _=_
              simp only [Act.put,List.setIfInBounds_toArray,List.set_cons_zero,List.set_cons_succ,i64_w,i32_w]
              rfl
             refine pq (i:=8) (N:=some 26) #[true,true,true,true,true,true,true,true,true,false] ?_
             refine pq (i:=9) (N:=some 6) #[true,true,true,true,true,true,true,true,true,true] ?_
             refine done_ (done_of HT_.out (by kernel_rfl)) ?_
             have hcz34_0:=bc0 BK196.out
             have hcz34_1:=bc1 BK196.out
             have hcz34_2:=bc2 BK196.out
             have hfz34_0:=jl BK196.out 0
             have hfz34_1:=jl BK196.out 1
             have hfz34_2:=jl BK196.out 2
             try go_wp2_with (first |((with_reducible refine jk (f:=18) rfl ?_);refine gL (some 33) Tryd.func18 #[.int .i64 ((ja t191 x14_1).f1)] ?_;(with_reducible refine (strconv_Itoa.calls ((ja t191 x14_1).f1) t201 _ A25.out (HT.out _ (Y8))).mono ?_);rintro e w35 ⟨rfl,hb⟩;refine ⟨_,rfl,?_⟩;replace HO_3:=am (Kd.jM (rq HO_3.out) hb);replace HO_12:=am (Kd.jM (rq HO_12.out) hb);replace BK196:=am (jXa (g:=gb196) (o:=.cells #[.string ((ja t191 x14_1).f0.f0), .int .i64 ((ja t191 x14_1).f0.f1), .int .i64 ((ja t191 x14_1).f1)] 42 (0,0)) (kq BK196.out) hb);replace HB:=am (jg (Y8) hb);(try clear hb);(try clear hb2);(try clear hk);(try clear hi)) |((with_reducible refine jP (b:=.append) (xs:=#[.tmp 36, .tmp 38]) rfl ?_);at_builtin;refine Kd.jua Kd.string (w0:=w) w.heap.size rfl (.tmp 36) (.tmp 38) 40 9 (.string ⟨#[]⟩) 16 rfl Tryd.underlying40 info9 rfl (by decide) (by omega) u3 x3_1 (((((ja t191 x14_1).f0.f0) ++ (⟨#[58]⟩:ByteArray)) ++ t197) ++ ((⟨#[42]⟩:ByteArray) ++ t201)) [.string (((((ja t191 x14_1).f0.f0) ++ (⟨#[58]⟩:ByteArray)) ++ t197) ++ ((⟨#[42]⟩:ByteArray) ++ t201))] (fun _=>True) (fun _=>False) rfl rfl ?aP (fun _ hk=>hk.elim) ?aF ?aO ?aB ?aS ?aL ?_;(case aP=>exact rfl);(case aB=>exact (Y8));(case aF=>exact (fun _ _=>trivial));(case aO=>exact (rq HO_3.out));(case aS=>exact (jA (Y8)));(case aL=>have:=LMc28.out;omega);intro v203 w36 ho hb hg hat;rw [← Ny202.out] at ho;have n0_:=am (Kd.R_over' (rq HO_12.out) (Kd.R_typed (rq HO_3.out)) (by decide) hg);have n1_:=am (jra (g:=gb196) (o:=.cells #[.string ((ja t191 x14_1).f0.f0), .int .i64 ((ja t191 x14_1).f0.f1), .int .i64 ((ja t191 x14_1).f1)] 42 (0,0)) (kq BK196.out) hg (Kd.R_ne HO_3.out BK196.out (by decide)));have n2_:=am (hb);have n3_:=am (ho);clear HO_12 BK196 HB HO_3;have HO_12:=n0_;have BK196:=n1_;have HB:=n2_;have HO204:=n3_;clear n0_ n1_ n2_ n3_ ho hb hg hat))
             go_roundg k1
             case measure=>have:=HK1.out;omega
             case rel=>exact ⟨(y202),(wrap64 (x14_1+1)),(sq),H',⟨by have:=HK1.out;omega⟩,⟨rq HO204.out⟩,⟨by (with_reducible repeat (first | apply Kd.jMa | apply Kd.jFa | apply Kd.jOa));exact Kd.jT HO_12.out (fun _ hk=>trivial)⟩,⟨Y8⟩⟩
            ·rw [if_neg c28] at H
             exact absurd H (by simp)
           ·rw [if_neg c27] at H
            exact absurd H (by simp)
          ·rw [if_neg c26] at H
           exact absurd H (by simp)
        ·rw [if_neg c15] at H
         exact absurd H (by simp)
       ·rw [if_neg c13] at H
        exact absurd H (by simp)
      ·rw [if_neg c12] at H
       exact absurd H (by simp)
     ·rw [if_neg c11] at H
      exact absurd H (by simp)
    ·rw [if_neg c10] at H
     have c10b0:decide (x14_1<(t191.length:Int))=false:=dzF c10
     clear c10
     replace H:=bzS H
     obtain ⟨t194,A370,H⟩:=H
     replace H:(some t194)=some r:=H
     have A37:=am A370
     clear A370
     obtain rfl:=Option.some.inj H
     obtain ⟨Ao38,co38,eo38⟩:=Kd.jda HO_3.out
     subst eo38
     go_wp2_with (first |((with_reducible refine jk (f:=19) rfl ?_);refine gL (some 42) Tryd.func19 #[.slice Ao38 x3_1.length co38, .string (⟨#[32]⟩:ByteArray)] ?_;(with_reducible refine (strings_Join.calls _ _ x3_1 (⟨#[32]⟩:ByteArray) t194 _ ?side1 ?side2 A37.out (join_at (rq HO_3.out))).mono ?_);(case side1=>exact cq (Kd.jo HO_3.out).2.2);(case side2=>exact (Kd.jo HO_3.out).2.1);rintro e w39 ⟨rfl,hb⟩;refine ⟨_,rfl,?_⟩;replace HO_3:=am (Kd.jM (rq HO_3.out) hb);replace HO_12:=am (Kd.jM (rq HO_12.out) hb);replace HB:=am (jg (bq) hb);(try clear hb);(try clear hb2);(try clear hk);(try clear hi)))
     go_ret
     exact ⟨Y4,bq⟩
 ·replace c3:=Bool.eq_false_iff.mpr c3
  subst c3
  have H1:(some (⟨#[]⟩:ByteArray))=some r:=by rw [if_neg (show ¬ (false=true) by decide)] at H;exact H
  clear H
  have H:=H1
  clear H1
  obtain rfl:=Option.some.inj H
  go_enter Tryd.func8,Tryd.ntmps8
  go_wp2_with (first |((with_reducible refine jk (f:=11) rfl ?_);refine gL (some 8) Tryd.func11 #[.slice A0 l0.length c0] ?_;(with_reducible refine (jw.calls k _ _ l0 false _ ?side1 ?side2 A2.out).mono ?_);(case side1=>exact Y9);(case side2=>exact HC0.out);rintro e w40 ⟨rfl,hb⟩;refine ⟨_,rfl,?_⟩;replace HB:=am (jg (bq) hb);(try clear hb);(try clear hb2);(try clear hk);(try clear hi)))
  go_ret
  exact ⟨Y4,bq⟩
def jr (w0 W : World) (g : Nat) (f0 : List Int) (f1 : Int) : Prop := ∃ A0 c0, W.heap[g]? = some (.cells #[.slice A0 f0.length c0, .int .i64 f1] 68 (0, 0)) ∧ w0.heap.size ≤ g ∧ Kd.C (Kd.int .u8) w0 A0 f0.length f0
theorem jr.grown {w0 W : World} {g : Nat} {f0 : List Int} {f1 : Int} {W1 : World} {row : Option Nat} (h : jr w0 W g f0 f1) (hw : W.grownBy W1 row) (hne : some g ≠ row) : jr w0 W1 g f0 f1 := by
 obtain ⟨A0,c0,hb,hg,hr0⟩:=h
 exact ⟨A0,c0,jra hb hw hne,hg,hr0⟩
theorem jr.kept {w0 W : World} {g : Nat} {f0 : List Int} {f1 : Int} {W1 : World} {S : Nat → Prop} (h : jr w0 W g f0 f1) (hk : Kept W W1 S) (hne : ¬ S g) : jr w0 W1 g f0 f1 := by
 obtain ⟨A0,c0,hb,hg,hr0⟩:=h
 exact ⟨A0,c0,blk_kept hb hk hne,hg,hr0⟩
theorem jr.below {w0 W : World} {g : Nat} {f0 : List Int} {f1 : Int} {W1 : World} (h : jr w0 W g f0 f1) (hw : Below W.heap.size W W1) : jr w0 W1 g f0 f1 := h.grown (grown_of_below hw none) (by simp)
theorem jr.alloc {w0 W : World} {g : Nat} {f0 : List Int} {f1 : Int} (h : jr w0 W g f0 f1) (o : Obj) : jr w0 (W.alloc o) g f0 f1 := h.below (jJ (Below.refl _ _) o)
theorem jr.drewN {w0 W : World} {g : Nat} {f0 : List Int} {f1 : Int} (h : jr w0 W g f0 f1) (m : Nat) : jr w0 (W.drewN m) g f0 f1 := h
theorem jr.drew {w0 W : World} {g : Nat} {f0 : List Int} {f1 : Int} (h : jr w0 W g f0 f1) : jr w0 W.drew g f0 f1 := h
theorem jr.at_ {w0 W : World} {g : Nat} {f0 : List Int} {f1 : Int} {w' : World} {m : Nat} (hq : W.drewN m = w') (h : jr w0 W g f0 f1) : jr w0 w' g f0 f1 := by subst hq; exact jr.drewN h m
theorem jr.apart {w0 W : World} {g : Nat} {f0 : List Int} {f1 : Int} {α : Type} {d : Kd α} {e : Nat} {base : Nat} {ok : Nat → Prop} {v : Value} {xs : List α} (h : jr w0 W g f0 f1) (ho : d.R e W base ok v xs) (ht : ∀ q, q ∈ e :: d.E → q ≠ 68) : d.R e W base (fun k => ok k ∧ k ≠ g) v xs := by
 obtain ⟨A0,c0,hb,hg,hr0⟩:=h
 exact Kd.R_types ho hb ht
theorem jr.own_ne {w0 W : World} {g : Nat} {f0 : List Int} {f1 : Int} {α : Type} {d : Kd α} {e : Nat} {base : Nat} {ok : Nat → Prop} {v : Value} {xs : List α} (h : jr w0 W g f0 f1) (ho : d.R e W base ok v xs) (ht : e ≠ 68) : some g ≠ v.ownBlock := by
 obtain ⟨A0,c0,hb,hg,hr0⟩:=h
 exact Kd.R_ne ho hb ht
theorem jr.lt {w0 W : World} {g : Nat} {f0 : List Int} {f1 : Int} (h : jr w0 W g f0 f1) : g < W.heap.size := by
 obtain ⟨A0,c0,hb,hg,hr0⟩:=h
 exact blk_lt hb
theorem jr.ge {w0 W : World} {g : Nat} {f0 : List Int} {f1 : Int} (h : jr w0 W g f0 f1) : w0.heap.size ≤ g := by
 obtain ⟨A0,c0,hb,hg,hr0⟩:=h
 exact hg
theorem jr.far {w0 W : World} {g : Nat} {f0 : List Int} {f1 : Int} {p : Addr} (h : jr w0 W g f0 f1) (hne : g ≠ p.block) (u : Value) : jr w0 (W.setCell p u) g f0 f1 := by
 obtain ⟨A0,c0,hb,hg,hr0⟩:=h
 exact ⟨A0,c0,blk_far hb hne u,hg,hr0⟩
theorem cellS68_0 {W : World} {g : Nat} {A0 : Option Addr} {c0 : Nat} {f0 : List Int} {f1 : Int} (h : W.heap[g]? = some (.cells #[.slice A0 f0.length c0, .int .i64 f1] 68 (0, 0))) : W.cell? ⟨g, 0, none⟩ = some (.slice A0 f0.length c0) := (jwa h 0).trans rfl
theorem cellS68_1 {W : World} {g : Nat} {A0 : Option Addr} {c0 : Nat} {f0 : List Int} {f1 : Int} (h : W.heap[g]? = some (.cells #[.slice A0 f0.length c0, .int .i64 f1] 68 (0, 0))) : W.cell? ⟨g, 1, none⟩ = some (.int .i64 f1) := (jwa h 1).trans rfl
theorem jr.set_1 {w0 W : World} {g : Nat} {f0 : List Int} {f1 : Int} (h : jr w0 W g f0 f1) (x : Int) : jr w0 (W.setCell ⟨g, 1, none⟩ (.int .i64 x)) g f0 x := by
 obtain ⟨A0,c0,hb,hg,hr0⟩:=h
 exact ⟨A0,c0,by simpa using blk_set hb 1 (.int .i64 x),hg,hr0⟩
def jd.j0 : Nat → Int → Bool → List Int → Int → Option (Int × Int)
 | 0,_,_,_,_=>none
 | k+1,x1,x24,x1000,x1001=>if x24=true then (some (0,x1001)) else (if (wrap64 (x1001 - 1))<(x1000.length:Int) then (if 0≤(wrap64 (x1001 - 1)) then (if x1=0 then (none) else (some (Int.tmod (wrap64 (rd x1000 (wrap64 (x1001 - 1)))) x1,x1001))) else (none)) else (if (x1000.length:Int)=0 then (none) else (if 0≤(Int.tmod (wrap64 (x1001 - 1)) (x1000.length:Int)) then (if (Int.tmod (wrap64 (x1001 - 1)) (x1000.length:Int))<(x1000.length:Int) then (if 0≤(Int.tmod (wrap64 ((wrap64 ((wrap64 (x1001 - 1)) * 7))+3)) (x1000.length:Int)) then (if (Int.tmod (wrap64 ((wrap64 ((wrap64 (x1001 - 1)) * 7))+3)) (x1000.length:Int))<(x1000.length:Int) then (if x1=0 then (none) else (some (Int.tmod (Go.bits .xor .i64 (wrap64 ((wrap64 ((wrap64 ((wrap64 ((wrap64 (rd x1000 (Int.tmod (wrap64 (x1001 - 1)) (x1000.length:Int)))) * 131))+(wrap64 ((wrap64 (rd x1000 (Int.tmod (wrap64 ((wrap64 ((wrap64 (x1001 - 1)) * 7))+3)) (x1000.length:Int)))) * 1117))))+(wrap64 ((wrap64 (x1001 - 1)) * 29))))+(wrap64 ((wrap64 (Int.tdiv (wrap64 (x1001 - 1)) (x1000.length:Int))) * 53)))) (wrap64 (Int.tdiv (wrap64 ((wrap64 ((wrap64 ((wrap64 ((wrap64 (rd x1000 (Int.tmod (wrap64 (x1001 - 1)) (x1000.length:Int)))) * 131))+(wrap64 ((wrap64 (rd x1000 (Int.tmod (wrap64 ((wrap64 ((wrap64 (x1001 - 1)) * 7))+3)) (x1000.length:Int)))) * 1117))))+(wrap64 ((wrap64 (x1001 - 1)) * 29))))+(wrap64 ((wrap64 (Int.tdiv (wrap64 (x1001 - 1)) (x1000.length:Int))) * 53)))) 64))) x1,x1001))) else (none)) else (none)) else (none)) else (none))))
def jd.f (k : Nat) (s0_0 : List Int) (s0_1 : Int) (a1 : Int) : Option (Int × Int) := if a1 < 1 then (jd.j0 k a1 true s0_0 (wrap64 (s0_1 + 1))) else (jd.j0 k a1 ((s0_0.length : Int) == 0) s0_0 (wrap64 (s0_1 + 1)))
set_option maxHeartbeats 8000000 in
set_option maxRecDepth 100000 in
theorem jd.calls (k : Nat) (g : Nat) (s0_0 : List Int) (s0_1 : Int) (a1 : Int) (r1 : Int) (r2 : Int) (w0 w : World) (hI : jr w0 w g s0_0 s0_1) (hB : Below w0.heap.size w0 w) (h : jd.f k s0_0 s0_1 a1 = some (r1, r2)) :
  Calls Tryd.prog 36 #[.pointer (some ⟨g,0,none⟩), .int .i64 a1] w fun e w'=>e=.returned (.int .i64 r1)∧jr w0 w' g s0_0 r2∧Below w0.heap.size w0 w'∧ji w w' g none:=by
 have HI0:=am hI
 have HK:=am (ji.refl w g none)
 have HL:=am hB.size
 clear hI
 have HW0:=am hB.size
 have HB:=am hB
 clear hB
 have H:(if a1<1 then (jd.j0 k a1 true s0_0 (wrap64 (s0_1+1))) else (jd.j0 k a1 ((s0_0.length:Int) == 0) s0_0 (wrap64 (s0_1+1))))=some (r1,r2):=h
 clear h
 have HC3:=am H
 clear H
 obtain ⟨ASz4_0,cSz4_0,HGz4,hgz4,HSz4_0⟩:=HI0.out
 have hcz4_0:=cellS68_0 HGz4
 have hcz4_1:=cellS68_1 HGz4
 have hfz4_1:=jl HGz4 1
 clear HGz4 hgz4
 go_enter Tryd.func36,Tryd.ntmps36
 go_upto_region 2 with (fail)
 repeat (go_quiet (fail);go_upto_region 2 with (fail))
 go_cut [24] (fun v24 wc=>∃ (kq:Nat) (x24_2:Bool),v24=.bool x24_2∧jy (jd.j0 kq a1 x24_2 s0_0 (wrap64 (s0_1+1))=some (r1,r2))∧jy (kq≤k)∧jy (jr w0 wc g s0_0 (wrap64 (s0_1+1)))∧jy (ji w wc g none)∧jy (Below w0.heap.size w0 wc))
 case first =>
  have H:=HC3.out
  clear HC3
  by_cases c5:a1<1
  ·rw [if_pos c5] at H
   have c5b0:decide (a1<1)=true:=dzT c5
   clear c5
   (first | rw [c5b0] |(simp only [i64_w,i32_w];rw [c5b0]) | skip)
   have H':=am H
   clear H
   go_wp2
   repeat (go_quiet (fail);try go_wp2)
   go_meet
   case rel=>exact ⟨_,(true),(sq),H',⟨by first | omega | exact Nat.le_refl _⟩,⟨Y0⟩,⟨Y1⟩,⟨Y2⟩⟩
  ·rw [if_neg c5] at H
   have c5b0:decide (a1<1)=false:=dzF c5
   clear c5
   (first | rw [c5b0] |(simp only [i64_w,i32_w];rw [c5b0]) | skip)
   have H':=am H
   clear H
   obtain ⟨ASz6_0,cSz6_0,HGz6,hgz6,HSz6_0⟩:=HI0.out
   have hcz6_0:=cellS68_0 HGz6
   have hcz6_1:=cellS68_1 HGz6
   have hfz6_1:=jl HGz6 1
   clear HGz6 hgz6
   go_wp2
   repeat (go_quiet (fail);try go_wp2)
   go_meet
   case rel=>exact ⟨_,(((s0_0.length:Int) == 0)),(sq),H',⟨by first | omega | exact Nat.le_refl _⟩,⟨Y0⟩,⟨Y1⟩,⟨Y2⟩⟩
 case rest =>
  clear HC3
  try clear p2
  try clear c3
  try clear c5
  try clear c5b0
  try clear p6
  try clear hcz4_0
  try clear hcz4_1
  try clear hcz6_0
  try clear hcz6_1
  try clear hfz4_1
  try clear hfz6_1
  obtain ⟨kq,x24_2,rfl,HA,HJ2,HI0,HK,HB⟩:=hcut
  cases kq with
  | zero=>exact absurd HA.out (by simp [jd.j0])
  | succ kj2 =>
   have H:=HA.out
   clear HA
   simp only [jd.j0] at H
   by_cases c7:x24_2=true
   ·subst c7
    have H1:(some (0,(wrap64 (s0_1+1))))=some (r1,r2):=by rw [if_pos rfl] at H;exact H
    clear H
    have H:=H1
    clear H1
    simp only [Option.some.injEq,Prod.mk.injEq] at H
    obtain ⟨rfl,rfl⟩:=H
    go_wp2
    repeat (go_quiet (fail);try go_wp2)
    go_ret
    exact ⟨Y4,Y0,Y2,Y1⟩
   ·replace c7:=Bool.eq_false_iff.mpr c7
    subst c7
    have H1:(if (wrap64 ((wrap64 (s0_1+1)) - 1))<(s0_0.length:Int) then (if 0≤(wrap64 ((wrap64 (s0_1+1)) - 1)) then (if a1=0 then (none) else (some (Int.tmod (wrap64 (rd s0_0 (wrap64 ((wrap64 (s0_1+1)) - 1)))) a1,(wrap64 (s0_1+1))))) else (none)) else (if (s0_0.length:Int)=0 then (none) else (if 0≤(Int.tmod (wrap64 ((wrap64 (s0_1+1)) - 1)) (s0_0.length:Int)) then (if (Int.tmod (wrap64 ((wrap64 (s0_1+1)) - 1)) (s0_0.length:Int))<(s0_0.length:Int) then (if 0≤(Int.tmod (wrap64 ((wrap64 ((wrap64 ((wrap64 (s0_1+1)) - 1)) * 7))+3)) (s0_0.length:Int)) then (if (Int.tmod (wrap64 ((wrap64 ((wrap64 ((wrap64 (s0_1+1)) - 1)) * 7))+3)) (s0_0.length:Int))<(s0_0.length:Int) then (if a1=0 then (none) else (some (Int.tmod (Go.bits .xor .i64 (wrap64 ((wrap64 ((wrap64 ((wrap64 ((wrap64 (rd s0_0 (Int.tmod (wrap64 ((wrap64 (s0_1+1)) - 1)) (s0_0.length:Int)))) * 131))+(wrap64 ((wrap64 (rd s0_0 (Int.tmod (wrap64 ((wrap64 ((wrap64 ((wrap64 (s0_1+1)) - 1)) * 7))+3)) (s0_0.length:Int)))) * 1117))))+(wrap64 ((wrap64 ((wrap64 (s0_1+1)) - 1)) * 29))))+(wrap64 ((wrap64 (Int.tdiv (wrap64 ((wrap64 (s0_1+1)) - 1)) (s0_0.length:Int))) * 53)))) (wrap64 (Int.tdiv (wrap64 ((wrap64 ((wrap64 ((wrap64 ((wrap64 (rd s0_0 (Int.tmod (wrap64 ((wrap64 (s0_1+1)) - 1)) (s0_0.length:Int)))) * 131))+(wrap64 ((wrap64 (rd s0_0 (Int.tmod (wrap64 ((wrap64 ((wrap64 ((wrap64 (s0_1+1)) - 1)) * 7))+3)) (s0_0.length:Int)))) * 1117))))+(wrap64 ((wrap64 ((wrap64 (s0_1+1)) - 1)) * 29))))+(wrap64 ((wrap64 (Int.tdiv (wrap64 ((wrap64 (s0_1+1)) - 1)) (s0_0.length:Int))) * 53)))) 64))) a1,(wrap64 (s0_1+1))))) else (none)) else (none)) else (none)) else (none))))=some (r1,r2):=by rw [if_neg (show ¬ (false=true) by decide)] at H;exact H
    clear H
    have H:=H1
    clear H1
    by_cases c8:(wrap64 ((wrap64 (s0_1+1)) - 1))<(s0_0.length:Int)
    ·rw [if_pos c8] at H
     have c8b0:decide ((wrap64 ((wrap64 (s0_1+1)) - 1))<(s0_0.length:Int))=true:=dzT c8
     clear c8
     obtain ⟨ji9,hji9⟩:∃ j_:Int,(wrap64 ((wrap64 (s0_1+1)) - 1))=j_:=⟨_,rfl⟩
     replace H:(if 0≤(ji9) then (if a1=0 then (none) else (some (Int.tmod (wrap64 (rd s0_0 (ji9))) a1,(wrap64 (s0_1+1))))) else (none))=some (r1,r2):=by first |(rw [hji9] at H;exact H) |(simp only [hji9] at H ⊢;exact H)
     (try rw [hji9] at c8b0)
     have hji9w:(IntKind.i64.wrap ((wrap64 (s0_1+1)) - 1))=ji9:=(i64_w _).trans hji9
     by_cases c10:0≤(ji9)
     ·rw [if_pos c10] at H
      have c10b0:decide (0≤(ji9))=true:=dzT c10
      clear c10
      by_cases c11:a1=0
      ·rw [if_pos c11] at H
       exact absurd H (by simp)
      ·rw [if_neg c11] at H
       have c11b0:(a1 == 0)=false:=beq_eq_false_iff_ne.mpr c11
       have c11b1:(a1 != 0)=true:=bne_iff_ne.mpr c11
       simp only [Option.some.injEq,Prod.mk.injEq] at H
       obtain ⟨rfl,rfl⟩:=H
       obtain ⟨ASz12_0,cSz12_0,HGz12,hgz12,HSz12_0⟩:=HI0.out
       have hcz12_0:=cellS68_0 HGz12
       have hcz12_1:=cellS68_1 HGz12
       have hfz12_1:=jl HGz12 1
       clear HGz12 hgz12
       have p223:0≤((ji9):Int):=ozD (uq)
       have q223:(ji9)<(s0_0.length:Int):=ozD (uq)
       obtain ⟨ad223,e223,hx223_0⟩:=Kd.at_int HSz12_0 (ji9) p223 q223
       cases e223
       replace hx223_0:=jma HB.out hx223_0
       replace p223:=ezT p223
       replace q223:=ezT q223
       go_wp2
       repeat (go_quiet (fail);try go_wp2)
       go_ret
       exact ⟨by first | rfl |(simp [jJa,jIa] <;> rfl) |(simp only [← hji9];first | rfl |(simp [jJa,jIa] <;> rfl)) |(simp [*,jJa,jIa] <;> rfl),Y0,Y2,Y1⟩
     ·rw [if_neg c10] at H
      exact absurd H (by simp)
    ·rw [if_neg c8] at H
     have c8b0:decide ((wrap64 ((wrap64 (s0_1+1)) - 1))<(s0_0.length:Int))=false:=dzF c8
     clear c8
     by_cases c13:(s0_0.length:Int)=0
     ·rw [if_pos c13] at H
      exact absurd H (by simp)
     ·rw [if_neg c13] at H
      have c13b0:((s0_0.length:Int) == 0)=false:=beq_eq_false_iff_ne.mpr c13
      have c13b1:((s0_0.length:Int) != 0)=true:=bne_iff_ne.mpr c13
      have c13b2:¬ (s0_0=[]):=fun h_=>c13 (by rw [h_];rfl)
      obtain ⟨ji14,hji14⟩:∃ j_:Int,(Int.tmod (wrap64 ((wrap64 (s0_1+1)) - 1)) (s0_0.length:Int))=j_:=⟨_,rfl⟩
      replace H:(if 0≤(ji14) then (if (ji14)<(s0_0.length:Int) then (if 0≤(Int.tmod (wrap64 ((wrap64 ((wrap64 ((wrap64 (s0_1+1)) - 1)) * 7))+3)) (s0_0.length:Int)) then (if (Int.tmod (wrap64 ((wrap64 ((wrap64 ((wrap64 (s0_1+1)) - 1)) * 7))+3)) (s0_0.length:Int))<(s0_0.length:Int) then (if a1=0 then (none) else (some (Int.tmod (Go.bits .xor .i64 (wrap64 ((wrap64 ((wrap64 ((wrap64 ((wrap64 (rd s0_0 (ji14))) * 131))+(wrap64 ((wrap64 (rd s0_0 (Int.tmod (wrap64 ((wrap64 ((wrap64 ((wrap64 (s0_1+1)) - 1)) * 7))+3)) (s0_0.length:Int)))) * 1117))))+(wrap64 ((wrap64 ((wrap64 (s0_1+1)) - 1)) * 29))))+(wrap64 ((wrap64 (Int.tdiv (wrap64 ((wrap64 (s0_1+1)) - 1)) (s0_0.length:Int))) * 53)))) (wrap64 (Int.tdiv (wrap64 ((wrap64 ((wrap64 ((wrap64 ((wrap64 (rd s0_0 (ji14))) * 131))+(wrap64 ((wrap64 (rd s0_0 (Int.tmod (wrap64 ((wrap64 ((wrap64 ((wrap64 (s0_1+1)) - 1)) * 7))+3)) (s0_0.length:Int)))) * 1117))))+(wrap64 ((wrap64 ((wrap64 (s0_1+1)) - 1)) * 29))))+(wrap64 ((wrap64 (Int.tdiv (wrap64 ((wrap64 (s0_1+1)) - 1)) (s0_0.length:Int))) * 53)))) 64))) a1,(wrap64 (s0_1+1))))) else (none)) else (none)) else (none)) else (none))=some (r1,r2):=by first |(rw [hji14] at H;exact H) |(simp only [hji14] at H ⊢;exact H)
      by_cases c15:0≤(ji14)
      ·rw [if_pos c15] at H
       have c15b0:decide (0≤(ji14))=true:=dzT c15
       clear c15
       by_cases c16:(ji14)<(s0_0.length:Int)
       ·rw [if_pos c16] at H
        have c16b0:decide ((ji14)<(s0_0.length:Int))=true:=dzT c16
        clear c16
        obtain ⟨ji17,hji17⟩:∃ j_:Int,(Int.tmod (wrap64 ((wrap64 ((wrap64 ((wrap64 (s0_1+1)) - 1)) * 7))+3)) (s0_0.length:Int))=j_:=⟨_,rfl⟩
        replace H:(if 0≤(ji17) then (if (ji17)<(s0_0.length:Int) then (if a1=0 then (none) else (some (Int.tmod (Go.bits .xor .i64 (wrap64 ((wrap64 ((wrap64 ((wrap64 ((wrap64 (rd s0_0 (ji14))) * 131))+(wrap64 ((wrap64 (rd s0_0 (ji17))) * 1117))))+(wrap64 ((wrap64 ((wrap64 (s0_1+1)) - 1)) * 29))))+(wrap64 ((wrap64 (Int.tdiv (wrap64 ((wrap64 (s0_1+1)) - 1)) (s0_0.length:Int))) * 53)))) (wrap64 (Int.tdiv (wrap64 ((wrap64 ((wrap64 ((wrap64 ((wrap64 (rd s0_0 (ji14))) * 131))+(wrap64 ((wrap64 (rd s0_0 (ji17))) * 1117))))+(wrap64 ((wrap64 ((wrap64 (s0_1+1)) - 1)) * 29))))+(wrap64 ((wrap64 (Int.tdiv (wrap64 ((wrap64 (s0_1+1)) - 1)) (s0_0.length:Int))) * 53)))) 64))) a1,(wrap64 (s0_1+1))))) else (none)) else (none))=some (r1,r2):=by first |(rw [hji17] at H;exact H) |(simp only [hji17] at H ⊢;exact H)
        by_cases c18:0≤(ji17)
        ·rw [if_pos c18] at H
         have c18b0:decide (0≤(ji17))=true:=dzT c18
         clear c18
         by_cases c19:(ji17)<(s0_0.length:Int)
         ·rw [if_pos c19] at H
          have c19b0:decide ((ji17)<(s0_0.length:Int))=true:=dzT c19
          clear c19
          by_cases c20:a1=0
          ·rw [if_pos c20] at H
           exact absurd H (by simp)
          ·rw [if_neg c20] at H
           have c20b0:(a1 == 0)=false:=beq_eq_false_iff_ne.mpr c20
           have c20b1:(a1 != 0)=true:=bne_iff_ne.mpr c20
           simp only [Option.some.injEq,Prod.mk.injEq] at H
           obtain ⟨rfl,rfl⟩:=H
           obtain ⟨ASz21_0,cSz21_0,HGz21,hgz21,HSz21_0⟩:=HI0.out
           have hcz21_0:=cellS68_0 HGz21
           have hcz21_1:=cellS68_1 HGz21
           have hfz21_1:=jl HGz21 1
           clear HGz21 hgz21
           have p224:0≤((ji14):Int):=ozD (uq)
           have q224:(ji14)<(s0_0.length:Int):=ozD (uq)
           obtain ⟨ad224,e224,hx224_0⟩:=Kd.at_int HSz21_0 (ji14) p224 q224
           cases e224
           replace hx224_0:=jma HB.out hx224_0
           replace p224:=ezT p224
           replace q224:=ezT q224
           have p225:0≤((ji17):Int):=ozD (uq)
           have q225:(ji17)<(s0_0.length:Int):=ozD (uq)
           obtain ⟨ad225,e225,hx225_0⟩:=Kd.at_int HSz21_0 (ji17) p225 q225
           obtain rfl:ad224=ad225:=(by injection e225)
           replace hx225_0:=jma HB.out hx225_0
           replace p225:=ezT p225
           replace q225:=ezT q225
           go_wp2
           repeat (go_quiet (fail);try go_wp2)
           go_ret
           exact ⟨by first | rfl |(simp [jJa,jIa] <;> rfl) |(simp only [← hji14,← hji17];first | rfl |(simp [jJa,jIa] <;> rfl)) |(simp [*,jJa,jIa] <;> rfl),Y0,Y2,Y1⟩
         ·rw [if_neg c19] at H
          exact absurd H (by simp)
        ·rw [if_neg c18] at H
         exact absurd H (by simp)
       ·rw [if_neg c16] at H
        exact absurd H (by simp)
      ·rw [if_neg c15] at H
       exact absurd H (by simp)
def jq.f (k : Nat) (s0_0 : List Int) (s0_1 : Int) (l1 : List Int) : Option (Int × Int) := (jd.f k s0_0 s0_1 (l1.length : Int)).bind fun bt226 => (if 0 ≤ bt226.1 then (if bt226.1 < (l1.length : Int) then (some (rd l1 bt226.1, bt226.2)) else (none)) else (none))
set_option maxHeartbeats 8000000 in
set_option maxRecDepth 100000 in
theorem jq.calls (k : Nat) (g : Nat) (s0_0 : List Int) (s0_1 : Int) (A1 : Option Addr) (c1 : Nat) (l1 : List Int) (r1 : Int) (r2 : Int) (w0 w : World) (hI : jr w0 w g s0_0 s0_1) (hB : Below w0.heap.size w0 w) (hr1 : Kd.C (Kd.int .i64) w A1 l1.length l1) (hc1 : l1.length ≤ c1) (hf1 : ∀ ad, A1 = some ad → 0 < l1.length → ad.block ≠ g) (h : jq.f k s0_0 s0_1 l1 = some (r1, r2)) :
  Calls Tryd.prog 38 #[.pointer (some ⟨g,0,none⟩), .slice A1 l1.length c1] w fun e w'=>e=.returned (.int .i64 r1)∧jr w0 w' g s0_0 r2∧Below w0.heap.size w0 w'∧ji w w' g none:=by
 have HR1:=am hr1
 have HC1:=am hc1
 clear hr1 hc1
 have HI0:=am hI
 have HK:=am (ji.refl w g none)
 have HL:=am hB.size
 clear hI
 have HW0:=am hB.size
 have HB:=am hB
 clear hB
 have H:((jd.f k s0_0 s0_1 (l1.length:Int)).bind fun bt226=>(if 0≤bt226.1 then (if bt226.1<(l1.length:Int) then (some (rd l1 bt226.1,bt226.2)) else (none)) else (none)))=some (r1,r2):=h
 clear h
 replace H:=bzS H
 obtain ⟨⟨t226,t227⟩,A30,H⟩:=H
 replace H:(if 0≤t226 then (if t226<(l1.length:Int) then (some (rd l1 t226,t227)) else (none)) else (none))=some (r1,r2):=H
 have A3:=am A30
 clear A30
 by_cases c4:0≤t226
 ·rw [if_pos c4] at H
  have c4b0:decide (0≤t226)=true:=dzT c4
  clear c4
  by_cases c5:t226<(l1.length:Int)
  ·rw [if_pos c5] at H
   have c5b0:decide (t226<(l1.length:Int))=true:=dzT c5
   clear c5
   simp only [Option.some.injEq,Prod.mk.injEq] at H
   obtain ⟨rfl,rfl⟩:=H
   go_enter Tryd.func38,Tryd.ntmps38
   go_wp2_with (first |((with_reducible refine jk (f:=36) rfl ?_);refine gL (some 9) Tryd.func36 #[.pointer (some ⟨g,0,none⟩), .int .i64 (l1.length:Int)] ?_;(with_reducible refine (jd.calls k g s0_0 s0_1 (l1.length:Int) t226 t227 w0 _ ?side1 ?side2 A3.out).mono ?_);(case side1=>exact Y0);(case side2=>exact Y2);rintro e w6 ⟨rfl,hi,hb,hk⟩;refine ⟨_,rfl,?_⟩;replace HK:=am (ji.trans (Y1) hk (.inl rfl));replace HB:=am (hb);replace HI0:=am (hi);(try clear hb);(try clear hb2);(try clear hk);(try clear hi);have p228:0≤(t226:Int):=ozD (uq);have q228:t226<(l1.length:Int):=ozD (uq);obtain ⟨ad228,e228,hx228_0⟩:=Kd.at_int HR1.out t226 p228 q228;cases e228;replace hx228_0:=keep_cell HK.out hx228_0 (by first |(rw [add_block];exact hf1 _ rfl (by omega)) | exact hf1 _ rfl (by omega) | exact hf1 ad228 rfl (by omega));replace p228:=ezT p228;replace q228:=ezT q228))
   go_ret
   exact ⟨Y4,Y0,Y2,Y1⟩
  ·rw [if_neg c5] at H
   exact absurd H (by simp)
 ·rw [if_neg c4] at H
  exact absurd H (by simp)
def jH.f (k : Nat) (s0_0 : List Int) (s0_1 : Int) (l1 : List ByteArray) : Option (ByteArray × Int) := (jd.f k s0_0 s0_1 (l1.length : Int)).bind fun bt229 => (if 0 ≤ bt229.1 then (if bt229.1 < (l1.length : Int) then (some (rdOf ByteArray.empty l1 bt229.1, bt229.2)) else (none)) else (none))
set_option maxHeartbeats 8000000 in
set_option maxRecDepth 100000 in
theorem jH.calls (k : Nat) (g : Nat) (s0_0 : List Int) (s0_1 : Int) (A1 : Option Addr) (c1 : Nat) (l1 : List ByteArray) (r1 : ByteArray) (r2 : Int) (w0 w : World) (hI : jr w0 w g s0_0 s0_1) (hB : Below w0.heap.size w0 w) (hr1 : Kd.C Kd.string w A1 l1.length l1) (hc1 : l1.length ≤ c1) (hf1 : ∀ ad, A1 = some ad → 0 < l1.length → ad.block ≠ g) (h : jH.f k s0_0 s0_1 l1 = some (r1, r2)) :
  Calls Tryd.prog 37 #[.pointer (some ⟨g,0,none⟩), .slice A1 l1.length c1] w fun e w'=>e=.returned (.string r1)∧jr w0 w' g s0_0 r2∧Below w0.heap.size w0 w'∧ji w w' g none:=by
 have HR1:=am hr1
 have HC1:=am hc1
 clear hr1 hc1
 have HI0:=am hI
 have HK:=am (ji.refl w g none)
 have HL:=am hB.size
 clear hI
 have HW0:=am hB.size
 have HB:=am hB
 clear hB
 have H:((jd.f k s0_0 s0_1 (l1.length:Int)).bind fun bt229=>(if 0≤bt229.1 then (if bt229.1<(l1.length:Int) then (some (rdOf ByteArray.empty l1 bt229.1,bt229.2)) else (none)) else (none)))=some (r1,r2):=h
 clear h
 replace H:=bzS H
 obtain ⟨⟨t229,t230⟩,A30,H⟩:=H
 replace H:(if 0≤t229 then (if t229<(l1.length:Int) then (some (rdOf ByteArray.empty l1 t229,t230)) else (none)) else (none))=some (r1,r2):=H
 have A3:=am A30
 clear A30
 by_cases c4:0≤t229
 ·rw [if_pos c4] at H
  have c4b0:decide (0≤t229)=true:=dzT c4
  clear c4
  by_cases c5:t229<(l1.length:Int)
  ·rw [if_pos c5] at H
   have c5b0:decide (t229<(l1.length:Int))=true:=dzT c5
   clear c5
   simp only [Option.some.injEq,Prod.mk.injEq] at H
   obtain ⟨rfl,rfl⟩:=H
   go_enter Tryd.func37,Tryd.ntmps37
   go_wp2_with (first |((with_reducible refine jk (f:=36) rfl ?_);refine gL (some 9) Tryd.func36 #[.pointer (some ⟨g,0,none⟩), .int .i64 (l1.length:Int)] ?_;(with_reducible refine (jd.calls k g s0_0 s0_1 (l1.length:Int) t229 t230 w0 _ ?side1 ?side2 A3.out).mono ?_);(case side1=>exact Y0);(case side2=>exact Y2);rintro e w6 ⟨rfl,hi,hb,hk⟩;refine ⟨_,rfl,?_⟩;replace HK:=am (ji.trans (Y1) hk (.inl rfl));replace HB:=am (hb);replace HI0:=am (hi);(try clear hb);(try clear hb2);(try clear hk);(try clear hi);have p231:0≤(t229:Int):=ozD (uq);have q231:t229<(l1.length:Int):=ozD (uq);obtain ⟨ad231,e231,hx231_0⟩:=Kd.at_string HR1.out t229 p231 q231;cases e231;replace hx231_0:=keep_cell HK.out hx231_0 (by first |(rw [add_block];exact hf1 _ rfl (by omega)) | exact hf1 _ rfl (by omega) | exact hf1 ad231 rfl (by omega));replace p231:=ezT p231;replace q231:=ezT q231))
   go_ret
   exact ⟨Y4,Y0,Y2,Y1⟩
  ·rw [if_neg c5] at H
   exact absurd H (by simp)
 ·rw [if_neg c4] at H
  exact absurd H (by simp)
def jEa.f (k : Nat) (s0_0 : List Int) (s0_1 : Int) : Option (ByteArray × Int × Int) := (jH.f k s0_0 s0_1 (([(⟨#[102]⟩ : ByteArray), (⟨#[103]⟩ : ByteArray), (⟨#[109, 97, 105, 110]⟩ : ByteArray), (⟨#[102]⟩ : ByteArray)] : List ByteArray))).bind fun bt236 => ((jq.f k s0_0 bt236.2 (([3, 7, 3, 999] : List Int))).bind fun bt241 => (some (bt236.1, bt241.1, bt241.2)))
set_option maxHeartbeats 8000000 in
set_option maxRecDepth 100000 in
theorem jEa.calls (k : Nat) (g : Nat) (s0_0 : List Int) (s0_1 : Int) (r1 : ByteArray) (r2 : Int) (r3 : Int) (w0 w : World) (hI : jr w0 w g s0_0 s0_1) (hB : Below w0.heap.size w0 w) (h : jEa.f k s0_0 s0_1 = some (r1, r2, r3)) :
  Calls Tryd.prog 45 #[.pointer (some ⟨g,0,none⟩)] w fun e w'=>e=.returned (.agg #[.string r1, .int .i64 r2])∧jr w0 w' g s0_0 r3∧Below w0.heap.size w0 w'∧ji w w' g none:=by
 have hu38:=Tryd.underlying38
 have HI0:=am hI
 have HK:=am (ji.refl w g none)
 have HL:=am hB.size
 clear hI
 have HW0:=am hB.size
 have HB:=am hB
 clear hB
 have H:((jH.f k s0_0 s0_1 (([(⟨#[102]⟩:ByteArray),(⟨#[103]⟩:ByteArray),(⟨#[109,97,105,110]⟩:ByteArray),(⟨#[102]⟩:ByteArray)]:List ByteArray))).bind fun bt236=>((jq.f k s0_0 bt236.2 (([3,7,3,999]:List Int))).bind fun bt241=>(some (bt236.1,bt241.1,bt241.2))))=some (r1,r2,r3):=h
 clear h
 obtain ⟨y233,hy233⟩:∃ y_:List ByteArray,y_=(([(⟨#[102]⟩:ByteArray),(⟨#[103]⟩:ByteArray),(⟨#[109,97,105,110]⟩:ByteArray),(⟨#[102]⟩:ByteArray)]:List ByteArray)):=⟨_,rfl⟩
 replace H:((jH.f k s0_0 s0_1 y233).bind fun bt236=>((jq.f k s0_0 bt236.2 (([3,7,3,999]:List Int))).bind fun bt241=>(some (bt236.1,bt241.1,bt241.2))))=some (r1,r2,r3):=by first |(rw [hy233];with_reducible exact H) |(have H2_:=(Option.bind_some _ _).symm.trans H;rw [hy233];with_reducible exact H2_) |(have H2_:=(Option.bind_some _ _).symm.trans H;with_reducible exact H2_) | with_reducible exact H |(rw [hy233];exact H) | exact H
 have Ny233:=am hy233
 clear hy233
 replace H:=bzS H
 obtain ⟨⟨t236,t237⟩,A20,H⟩:=H
 replace H:((jq.f k s0_0 t237 (([3,7,3,999]:List Int))).bind fun bt241=>(some (t236,bt241.1,bt241.2)))=some (r1,r2,r3):=H
 have A2:=am A20
 clear A20
 obtain ⟨y238,hy238⟩:∃ y_:List Int,y_=(([3,7,3,999]:List Int)):=⟨_,rfl⟩
 replace H:((jq.f k s0_0 t237 y238).bind fun bt241=>(some (t236,bt241.1,bt241.2)))=some (r1,r2,r3):=by first |(rw [hy238];with_reducible exact H) |(have H2_:=(Option.bind_some _ _).symm.trans H;rw [hy238];with_reducible exact H2_) |(have H2_:=(Option.bind_some _ _).symm.trans H;with_reducible exact H2_) | with_reducible exact H |(rw [hy238];exact H) | exact H
 have Ny238:=am hy238
 clear hy238
 replace H:=bzS H
 obtain ⟨⟨t241,t242⟩,A30,H⟩:=H
 replace H:(some (t236,t241,t242))=some (r1,r2,r3):=H
 have A3:=am A30
 clear A30
 simp only [Option.some.injEq,Prod.mk.injEq] at H
 obtain ⟨rfl,rfl,rfl⟩:=H
 go_enter Tryd.func45,Tryd.ntmps45
 go_wp2_with (first |((with_reducible refine jK (N:=2) rfl ?_);refine bE (N:=2) (cs:=#[.string (⟨#[]⟩:ByteArray), .int .i64 0]) (t:=38) ?_;intro gb232 hg w4 hbox hb;have BK232:=am (hbox);have GW232:=am ((Y21:w.heap.size≤gb232));have GE232:=am ((Nat.le_trans HW0.out (Y21:w.heap.size≤gb232):w0.heap.size≤gb232));have NB0_232:=am ((by rw [hg];exact Nat.ne_of_lt (jr.lt (show jr w0 _ g s0_0 s0_1 from by repeat (first |(with_reducible first | exact HI0.out | apply jr.alloc | apply jr.drewN | apply jr.drew | apply jr.set_1) | exact HI0.out))):g≠gb232));have NB232_0:=am ((by rw [hg];exact Nat.ne_of_gt (jr.lt (show jr w0 _ g s0_0 s0_1 from by repeat (first |(with_reducible first | exact HI0.out | apply jr.alloc | apply jr.drewN | apply jr.drew | apply jr.set_1) | exact HI0.out))):gb232≠g));replace HK:=am (ji.trans (Y1) (ji.of_below hb g none) (.inl rfl));replace HB:=am (jg (Y2) hb);replace HI0:=am (jr.below (Y0) hb);clear hb hbox hg) |((with_reducible refine jK (N:=4) rfl ?_);refine Kd.R_lit Kd.string _ 9 ?hg (N:=4) ?hd (xs:=([(⟨#[102]⟩:ByteArray),(⟨#[103]⟩:ByteArray),(⟨#[109,97,105,110]⟩:ByteArray),(⟨#[102]⟩:ByteArray)]:List ByteArray)) (inner:=[.string (⟨#[102]⟩:ByteArray), .string (⟨#[103]⟩:ByteArray), .string (⟨#[109,97,105,110]⟩:ByteArray), .string (⟨#[102]⟩:ByteArray)]) (ok:=fun _=>True) (okp:=fun _=>True) ?hr ?hp (fun _ hk=>hk) trivial (Below.refl _ _) (Nat.le_refl _) (by simp) ?_;(case hd=>rfl);(case hg=>rfl);(case hr=>exact Y3);(case hp=>exact (Reps.one (show Kd.M Kd.string _ _ _ (⟨#[102]⟩:ByteArray) [.string (⟨#[102]⟩:ByteArray)] from rfl) (Reps.one (show Kd.M Kd.string _ _ _ (⟨#[103]⟩:ByteArray) [.string (⟨#[103]⟩:ByteArray)] from rfl) (Reps.one (show Kd.M Kd.string _ _ _ (⟨#[109,97,105,110]⟩:ByteArray) [.string (⟨#[109,97,105,110]⟩:ByteArray)] from rfl) (Reps.one (show Kd.M Kd.string _ _ _ (⟨#[102]⟩:ByteArray) [.string (⟨#[102]⟩:ByteArray)] from rfl) (Reps.none _ _))))));intro v234 w5 ho6 hb hg_ hnew_;clear hg_ hnew_;(first | rw [← Ny233.out] at ho6 |(simp only [Int.reduceToNat] at ho6;rw [← Ny233.out] at ho6));have HO235:=am (Kd.jca ho6 (jpa (w:=w) (g:=g) (row:=none) (Y15)));replace BK232:=am (jXa (g:=gb232) (o:=.cells #[.string (⟨#[]⟩:ByteArray), .int .i64 0] 38 (0,0)) (kq BK232.out) hb);replace HK:=am (ji.trans (Y15) (ji.of_below hb g none) (.inl rfl));replace HB:=am (jg (Y19) hb);replace HI0:=am (jr.below (Y14) hb);clear hb ho6;obtain ⟨Ao7,co7,eo7⟩:=Kd.jda HO235.out;subst eo7) |((with_reducible refine jk (f:=37) rfl ?_);refine gL (some 5) Tryd.func37 #[.pointer (some ⟨g,0,none⟩), .slice Ao7 y233.length co7] ?_;(with_reducible refine (jH.calls k g s0_0 s0_1 _ _ y233 t236 t237 w0 _ ?side1 ?side2 ?side3 ?side4 ?side5 A2.out).mono ?_);(case side1=>exact Y14);(case side2=>exact Y19);(case side3=>exact cq (Kd.jo HO235.out).2.2);(case side4=>exact (Kd.jo HO235.out).2.1);(case side5=>exact jWa (jr.own_ne HI0.out HO235.out (by decide)));rintro e w8 ⟨rfl,hi,hb,hk⟩;refine ⟨_,rfl,?_⟩;replace BK232:=am (ji.blk hk (g':=gb232) (o:=.cells #[.string (⟨#[]⟩:ByteArray), .int .i64 0] 38 (0,0)) (kq BK232.out) NB232_0.out (by simp));replace HO235:=am (Kd.jT (Kd.jBa (jr.apart (show jr w0 _ g s0_0 s0_1 from Y14) (rq HO235.out) (by decide)) hk (fun _ h=>h.2)) (fun _ h=>h.1));replace HK:=am (ji.trans (Y15) hk (.inl rfl));replace HB:=am (hb);replace HI0:=am (hi);(try clear hb);(try clear hb2);(try clear hk);(try clear hi)) |((with_reducible refine jK (N:=7) rfl ?_);refine Kd.R_lit (Kd.int .i64) _ 3 ?hg (N:=7) ?hd (xs:=([3,7,3,999]:List Int)) (inner:=[.int .i64 3, .int .i64 7, .int .i64 3, .int .i64 999]) (ok:=fun _=>True) (okp:=fun _=>True) ?hr ?hp (fun _ hk=>hk) trivial (Below.refl _ _) (Nat.le_refl _) (by simp) ?_;(case hd=>rfl);(case hg=>rfl);(case hr=>exact Y3);(case hp=>exact (Reps.one (show Kd.M (Kd.int .i64) _ _ _ 3 [.int .i64 3] from rfl) (Reps.one (show Kd.M (Kd.int .i64) _ _ _ 7 [.int .i64 7] from rfl) (Reps.one (show Kd.M (Kd.int .i64) _ _ _ 3 [.int .i64 3] from rfl) (Reps.one (show Kd.M (Kd.int .i64) _ _ _ 999 [.int .i64 999] from rfl) (Reps.none _ _))))));intro v239 w9 ho10 hb hg_ hnew_;clear hg_ hnew_;(first | rw [← Ny238.out] at ho10 |(simp only [Int.reduceToNat] at ho10;rw [← Ny238.out] at ho10));have HO240:=am (Kd.jca ho10 (jpa (w:=w) (g:=g) (row:=none) (Y15)));replace HO235:=am (Kd.jM (rq HO235.out) hb);replace BK232:=am (jXa (g:=gb232) (o:=.cells #[.string (⟨#[]⟩:ByteArray), .int .i64 0] 38 (0,0)) (kq BK232.out) hb);replace HK:=am (ji.trans (Y15) (ji.of_below hb g none) (.inl rfl));replace HB:=am (jg (Y19) hb);replace HI0:=am (jr.below (Y14) hb);clear hb ho10;obtain ⟨Ao11,co11,eo11⟩:=Kd.jda HO240.out;subst eo11) |((with_reducible refine jk (f:=38) rfl ?_);refine gL (some 8) Tryd.func38 #[.pointer (some ⟨g,0,none⟩), .slice Ao11 y238.length co11] ?_;(with_reducible refine (jq.calls k g s0_0 t237 _ _ y238 t241 t242 w0 _ ?side1 ?side2 ?side3 ?side4 ?side5 A3.out).mono ?_);(case side1=>exact Y14);(case side2=>exact Y19);(case side3=>exact cq (Kd.jo HO240.out).2.2);(case side4=>exact (Kd.jo HO240.out).2.1);(case side5=>exact jWa (jr.own_ne HI0.out HO240.out (by decide)));rintro e w12 ⟨rfl,hi,hb,hk⟩;refine ⟨_,rfl,?_⟩;replace BK232:=am (ji.blk hk (g':=gb232) (o:=.cells #[.string (⟨#[]⟩:ByteArray), .int .i64 0] 38 (0,0)) (kq BK232.out) NB232_0.out (by simp));replace HO235:=am (Kd.jT (Kd.jBa (jr.apart (show jr w0 _ g s0_0 t237 from Y14) (rq HO235.out) (by decide)) hk (fun _ h=>h.2)) (fun _ h=>h.1));replace HO240:=am (Kd.jT (Kd.jBa (jr.apart (show jr w0 _ g s0_0 t237 from Y14) (rq HO240.out) (by decide)) hk (fun _ h=>h.2)) (fun _ h=>h.1));replace HK:=am (ji.trans (Y15) hk (.inl rfl));replace HB:=am (hb);replace HI0:=am (hi);(try clear hb);(try clear hb2);(try clear hk);(try clear hi);have hnb13:=NB232_0.out;have hnc13:=NB0_232.out;have hcz14_0:=bc0 BK232.out;have hcz14_1:=bc1 BK232.out;have hfz14_0:=jl BK232.out 0;have hfz14_1:=jl BK232.out 1))
 refine bodyPost_ret (results_cell_row rfl _ _ gb232 38 #[.string t236, .int .i64 t241] (0,0) _ rfl (by (with_reducible repeat (first | refine jaa ?_ _ | refine jea ?_ | refine jba ?_ _));refine jLa (cs:=#[.string t236, .int .i64 0]) ?_ 1 _ rfl;(with_reducible repeat (first | refine jaa ?_ _ | refine jea ?_ | refine jba ?_ _));refine jLa (cs:=#[.string (⟨#[]⟩:ByteArray), .int .i64 0]) ?_ 0 _ rfl;(with_reducible repeat (first | refine jaa ?_ _ | refine jea ?_ | refine jba ?_ _));exact BK232.out) Tryd.underlying38 rfl (by kernel_rfl)) rfl ?_
 exact ⟨Y4,Y14,Y19,Y15⟩
end Go.Proofs.YtdmafmebllhlkaaDoor.P
end
