/- One part of the proofs on this program: functions of the program as plain functions, that the code comes to them, and facts on them. -/
import Derived.Lib.AppendIntMem
import Derived.Lib.SmallJoins
import Derived.Shelf.Strconv.Itoa3
import Derived.Shelf.Strings.OnBuilder
import Derived.Test.YtdmafmebllhlkaaDoorYAll1
import Derived.Test.YtdmafmebllhlkaaDoorYWAuto
section
namespace Go.Proofs.YtdmafmebllhlkaaDoor.P
open Go.RowKit Go.Proofs.YtdmafmebllhlkaaDoorW.PrintWords Go.Proofs.YtdmafmebllhlkaaDoorW.PrintLast Go.Proofs.YtdmafmebllhlkaaDoorW.PrintMore
attribute [local go_sem] jN jL jT jS jD jC jM jK jc
set_option linter.unusedVariables false
set_option linter.unusedSimpArgs false
attribute [local go_sem high] eqA38
def jE.l0 : Nat → List (S38) → List (S42) → List (S38) → Int → Int → Option ((List (S42)))
 | 0,_,_,_,_,_=>none
 | k+1,x0,x3,x7,x8,x9=>if x9<x8 then (if 0≤x9 then (if x9<(x7.length:Int) then (if x9 > 0 then (if 0≤(wrap64 (x9 - 1)) then (if (wrap64 (x9 - 1))<(x0.length:Int) then (if ((((jb x0 (wrap64 (x9 - 1))).f0).toList) == (((jb x7 x9).f0).toList) && (((jb x0 (wrap64 (x9 - 1))).f1) == ((jb x7 x9).f1)))=true then (if 0≤(wrap64 ((x3.length:Int) - 1)) then (if (wrap64 ((x3.length:Int) - 1))<(x3.length:Int) then (jE.l0 k x0 (x3.set ((wrap64 ((x3.length:Int) - 1)):Int).toNat (⟨(⟨(ja x3 (wrap64 ((x3.length:Int) - 1))).f0.f0,(ja x3 (wrap64 ((x3.length:Int) - 1))).f0.f1⟩:S38),wrap64 (((ja x3 (wrap64 ((x3.length:Int) - 1))).f1)+1)⟩:S42)) x7 x8 (wrap64 (x9+1))) else (none)) else (none)) else (if x3.length<4398046511104 then (jE.l0 k x0 (x3 ++ [(⟨(⟨(jb x7 x9).f0,(jb x7 x9).f1⟩:S38),1⟩:S42)]) x7 x8 (wrap64 (x9+1))) else (none))) else (none)) else (none)) else (if x3.length<4398046511104 then (jE.l0 k x0 (x3 ++ [(⟨(⟨(jb x7 x9).f0,(jb x7 x9).f1⟩:S38),1⟩:S42)]) x7 x8 (wrap64 (x9+1))) else (none))) else (none)) else (none)) else ((impl_Row.f x3).bind fun t155=>(some t155))
def jE.f (k : Nat) (l0 : List (S38)) : Option ((List (S42))) := jE.l0 k l0 (([] : List (S42))) l0 (l0.length : Int) 0
set_option maxHeartbeats 8000000 in
set_option maxRecDepth 100000 in
theorem jE.calls (k : Nat) (A0 : Option Addr) (c0 : Nat) (l0 : List (S38)) (r : List (S42)) (w : World) (hr0 : Kd.C k38 w A0 l0.length l0) (hc0 : l0.length ≤ c0) (h : jE.f k l0 = some r) :
  Calls Tryd.prog 17 #[.slice A0 l0.length c0] w fun e w'=>∃ v0_:Value,e=.returned (v0_)∧Kd.R k42 42 w' w.heap.size (fun _=>True) v0_ r∧Below w.heap.size w w':=by
 have hu38:=Tryd.underlying38
 have hu42:=Tryd.underlying42
 have HR0:=am hr0
 have HC0:=am hc0
 clear hr0 hc0
 have HB:=am (Below.refl w.heap.size w)
 have H:(jE.l0 k l0 (([]:List (S42))) l0 (l0.length:Int) 0)=some r:=h
 clear h
 obtain ⟨y152,hy152⟩:∃ y_:List (S42),y_=(([]:List (S42))):=⟨_,rfl⟩
 replace H:(jE.l0 k l0 y152 l0 (l0.length:Int) 0)=some r:=by first |(rw [hy152];with_reducible exact H) |(have H2_:=(Option.bind_some _ _).symm.trans H;rw [hy152];with_reducible exact H2_) |(have H2_:=(Option.bind_some _ _).symm.trans H;with_reducible exact H2_) | with_reducible exact H |(rw [hy152];exact H) | exact H
 have Ny152:=am hy152
 clear hy152
 have H':=am H
 clear H
 go_enter Tryd.func17,Tryd.ntmps17
 go_wp2_with (first |((with_reducible refine jH (N:=6) rfl ?_);refine Kd.R_lit k42 _ 42 ?hg (N:=6) ?hd (xs:=([]:List (S42))) (inner:=[]) (ok:=fun _=>True) (okp:=fun _=>True) ?hr ?hp (fun _ hk=>hk) trivial (Below.refl _ _) (Nat.le_refl _) (by simp) ?_;(case hd=>rfl);(case hg=>rfl);(case hr=>exact Y2);(case hp=>exact (Reps.none _ _));intro v153 w2 ho3 hb hg_ hnew_;clear hg_ hnew_;(first | rw [← Ny152.out] at ho3 |(simp only [Int.reduceToNat] at ho3;rw [← Ny152.out] at ho3));have HO154:=am (Kd.jma ho3 (jm (bq)));replace HB:=am (jf (bq) hb);clear hb ho3))
 repeat (go_quiet (first |((with_reducible refine jH (N:=6) rfl ?_);refine Kd.R_lit k42 _ 42 ?hg (N:=6) ?hd (xs:=([]:List (S42))) (inner:=[]) (ok:=fun _=>True) (okp:=fun _=>True) ?hr ?hp (fun _ hk=>hk) trivial (Below.refl _ _) (Nat.le_refl _) (by simp) ?_;(case hd=>rfl);(case hg=>rfl);(case hr=>exact Y2);(case hp=>exact (Reps.none _ _));intro v153 w2 ho3 hb hg_ hnew_;clear hg_ hnew_;(first | rw [← Ny152.out] at ho3 |(simp only [Int.reduceToNat] at ho3;rw [← Ny152.out] at ho3));have HO154:=am (Kd.jma ho3 (jm (bq)));replace HB:=am (jf (bq) hb);clear hb ho3));try go_wp2_with (first |((with_reducible refine jH (N:=6) rfl ?_);refine Kd.R_lit k42 _ 42 ?hg (N:=6) ?hd (xs:=([]:List (S42))) (inner:=[]) (ok:=fun _=>True) (okp:=fun _=>True) ?hr ?hp (fun _ hk=>hk) trivial (Below.refl _ _) (Nat.le_refl _) (by simp) ?_;(case hd=>rfl);(case hg=>rfl);(case hr=>exact Y2);(case hp=>exact (Reps.none _ _));intro v153 w2 ho3 hb hg_ hnew_;clear hg_ hnew_;(first | rw [← Ny152.out] at ho3 |(simp only [Int.reduceToNat] at ho3;rw [← Ny152.out] at ho3));have HO154:=am (Kd.jma ho3 (jm (bq)));replace HB:=am (jf (bq) hb);clear hb ho3)))
 go_loopg [3,9] k (fun kq v3 v9 w'=>∃ (x3_1:List (S42)) (x9_1:Int),v9=.int .i64 x9_1∧jA (jE.l0 kq l0 x3_1 l0 (l0.length:Int) x9_1=some r)∧jA (kq≤k)∧jA (Kd.R k42 42 w' w.heap.size (fun _=>True) v3 x3_1)∧jA (Below w.heap.size w w'))
 case atStart=>exact ⟨(y152),(0),(sq),H',⟨Nat.le_refl _⟩,⟨rq HO154.out⟩,⟨bq⟩⟩
 case round =>
  clear H'
  try clear c1
  try clear p2
  obtain ⟨x3_1,x9_1,rfl,HA,HK1,HO_3,HB⟩:=hrel
  cases gk with
  | zero=>exact absurd HA.out (by simp [jE.l0])
  | succ k1 =>
   have H:=HA.out
   clear HA
   simp only [jE.l0] at H
   by_cases c4:x9_1<(l0.length:Int)
   ·rw [if_pos c4] at H
    have c4b0:decide (x9_1<(l0.length:Int))=true:=dzT c4
    clear c4
    by_cases c5:0≤x9_1
    ·rw [if_pos c5] at H
     have c5b0:decide (0≤x9_1)=true:=dzT c5
     clear c5
     by_cases c6:x9_1<(l0.length:Int)
     ·rw [if_pos c6] at H
      have c6b0:decide (x9_1<(l0.length:Int))=true:=dzT c6
      clear c6
      by_cases c7:x9_1 > 0
      ·rw [if_pos c7] at H
       have c7b0:decide (0<x9_1)=true:=dzT c7
       clear c7
       obtain ⟨ji8,hji8⟩:∃ j_:Int,(wrap64 (x9_1 - 1))=j_:=⟨_,rfl⟩
       replace H:(if 0≤(ji8) then (if (ji8)<(l0.length:Int) then (if ((((jb l0 (ji8)).f0).toList) == (((jb l0 x9_1).f0).toList) && (((jb l0 (ji8)).f1) == ((jb l0 x9_1).f1)))=true then (if 0≤(wrap64 ((x3_1.length:Int) - 1)) then (if (wrap64 ((x3_1.length:Int) - 1))<(x3_1.length:Int) then (jE.l0 k1 l0 (x3_1.set ((wrap64 ((x3_1.length:Int) - 1)):Int).toNat (⟨(⟨(ja x3_1 (wrap64 ((x3_1.length:Int) - 1))).f0.f0,(ja x3_1 (wrap64 ((x3_1.length:Int) - 1))).f0.f1⟩:S38),wrap64 (((ja x3_1 (wrap64 ((x3_1.length:Int) - 1))).f1)+1)⟩:S42)) l0 (l0.length:Int) (wrap64 (x9_1+1))) else (none)) else (none)) else (if x3_1.length<4398046511104 then (jE.l0 k1 l0 (x3_1 ++ [(⟨(⟨(jb l0 x9_1).f0,(jb l0 x9_1).f1⟩:S38),1⟩:S42)]) l0 (l0.length:Int) (wrap64 (x9_1+1))) else (none))) else (none)) else (none))=some r:=by first |(rw [hji8] at H;exact H) |(simp only [hji8] at H ⊢;exact H)
       have hji8w:(IntKind.i64.wrap (x9_1 - 1))=ji8:=(i64_w _).trans hji8
       by_cases c9:0≤(ji8)
       ·rw [if_pos c9] at H
        have c9b0:decide (0≤(ji8))=true:=dzT c9
        clear c9
        by_cases c10:(ji8)<(l0.length:Int)
        ·rw [if_pos c10] at H
         have c10b0:decide ((ji8)<(l0.length:Int))=true:=dzT c10
         clear c10
         by_cases c11:((((jb l0 (ji8)).f0).toList) == (((jb l0 x9_1).f0).toList) && (((jb l0 (ji8)).f1) == ((jb l0 x9_1).f1)))=true
         ·rw [if_pos c11] at H
          have c11b0:((((jb l0 (ji8)).f0).toList) == (((jb l0 x9_1).f0).toList) && (((jb l0 (ji8)).f1) == ((jb l0 x9_1).f1)))=true:=c11
          (try (have c11b1:decide ((((jb l0 (ji8)).f0).toList)=(((jb l0 x9_1).f0).toList) && (((jb l0 (ji8)).f1) == ((jb l0 x9_1).f1)))=true:=by simpa using c11))
          (try (have c11b2:((((jb l0 (ji8)).f0).toList) == (((jb l0 x9_1).f0).toList) && (((jb l0 (ji8)).f1) == ((jb l0 x9_1).f1)))=true:=by simpa using c11))
          clear c11
          obtain ⟨ji12,hji12⟩:∃ j_:Int,(wrap64 ((x3_1.length:Int) - 1))=j_:=⟨_,rfl⟩
          replace H:(if 0≤(ji12) then (if (ji12)<(x3_1.length:Int) then (jE.l0 k1 l0 (x3_1.set ((ji12):Int).toNat (⟨(⟨(ja x3_1 (ji12)).f0.f0,(ja x3_1 (ji12)).f0.f1⟩:S38),wrap64 (((ja x3_1 (ji12)).f1)+1)⟩:S42)) l0 (l0.length:Int) (wrap64 (x9_1+1))) else (none)) else (none))=some r:=by first |(rw [hji12] at H;exact H) |(simp only [hji12] at H ⊢;exact H)
          have hji12w:(IntKind.i64.wrap ((x3_1.length:Int) - 1))=ji12:=(i64_w _).trans hji12
          by_cases c13:0≤(ji12)
          ·rw [if_pos c13] at H
           have c13b0:decide (0≤(ji12))=true:=dzT c13
           clear c13
           by_cases c14:(ji12)<(x3_1.length:Int)
           ·rw [if_pos c14] at H
            have c14b0:decide ((ji12)<(x3_1.length:Int))=true:=dzT c14
            clear c14
            obtain ⟨y162,hy162⟩:∃ y_:List (S42),y_=(x3_1.set ((ji12):Int).toNat (⟨(⟨(ja x3_1 (ji12)).f0.f0,(ja x3_1 (ji12)).f0.f1⟩:S38),wrap64 (((ja x3_1 (ji12)).f1)+1)⟩:S42)):=⟨_,rfl⟩
            replace H:(jE.l0 k1 l0 y162 l0 (l0.length:Int) (wrap64 (x9_1+1)))=some r:=by first |(rw [hy162];with_reducible exact H) |(have H2_:=(Option.bind_some _ _).symm.trans H;rw [hy162];with_reducible exact H2_) |(have H2_:=(Option.bind_some _ _).symm.trans H;with_reducible exact H2_) | with_reducible exact H |(rw [hy162];exact H) | exact H
            have Ny162:=am hy162
            clear hy162
            have H':=am H
            clear H
            have p158:0≤(x9_1:Int):=ozD (uq)
            have q158:x9_1<(l0.length:Int):=ozD (uq)
            obtain ⟨ad158,e158,hx158_0,hx158_1⟩:=jqa HR0.out x9_1 p158 q158
            cases e158
            replace hx158_0:=cb HB.out hx158_0
            replace hx158_1:=cb HB.out hx158_1
            replace p158:=ezT p158
            replace q158:=ezT q158
            go_wp2_with (first |((with_reducible refine jH (N:=5) rfl ?_);refine bE (N:=5) (cs:=#[.string (⟨#[]⟩:ByteArray), .int .i64 0]) (t:=38) ?_;intro gb159 hg w16 hbox hb;have BK159:=am (hbox);have GW159:=am ((Y0:w.heap.size≤gb159));have GE159:=am ((Y0:w.heap.size≤gb159));replace HO_3:=am (Kd.jP (rq HO_3.out) hb);replace HB:=am (jf (bq) hb);clear hb hbox hg;have hcz17_0:=bc0 BK159.out;have hcz17_1:=bc1 BK159.out;have hfz17_0:=je BK159.out 0;have hfz17_1:=je BK159.out 1) |((with_reducible refine jga (t:=38) (p:=5) rfl ?_);(try (rw [jka w16];generalize hq_:World.drewN w16 _=w16;have n0_:=am (Kd.R_at hq_ HO_3.out);have n1_:=am (blk_at hq_ BK159.out);have n2_:=am (jDa hq_ HB.out);clear hq_ HO_3 BK159 HB;have HO_3:=n0_;have BK159:=n1_;have HB:=n2_;clear n0_ n1_ n2_));refine jda (t:=38) (p:=5) (v:=?vo_w18) (w1:=((w16.setCell ⟨gb159,0,none⟩ (.string ((jb l0 x9_1).f0))).setCell ⟨gb159,1,none⟩ (.int .i64 ((jb l0 x9_1).f1)))) ?hg ?ho ?hn ?hr ?_;(case ho=>rfl);(case hg=>rfl);(case hn=>rfl);(case hr=>exact Y2);intro w18 hw;have n0_:jA (Kd.R k42 42 w18 w.heap.size (fun _=>True) u3 x3_1):=⟨(by rw [hw];exact (Y7))⟩;have n1_:jA (w18.heap[gb159]?=some (.cells #[.string ((jb l0 x9_1).f0), .int .i64 ((jb l0 x9_1).f1)] 38 (0,0))):=⟨(by rw [hw];exact (Y8))⟩;have n2_:jA (Below w.heap.size w w18):=⟨(by rw [hw];exact (Y3))⟩;clear hw HO_3 BK159 HB;have HO_3:=n0_;have BK159:=n1_;have HB:=n2_;clear n0_ n1_ n2_;have p160:0≤((ji8):Int):=ozD (uq);have q160:(ji8)<(l0.length:Int):=ozD (uq);obtain ⟨ad160,e160,hx160_0,hx160_1⟩:=jqa HR0.out (ji8) p160 q160;obtain rfl:ad158=ad160:=(by injection e160);replace hx160_0:=cb HB.out hx160_0;replace hx160_1:=cb HB.out hx160_1;replace p160:=ezT p160;replace q160:=ezT q160;have hcz19_0:=bc0 BK159.out;have hcz19_1:=bc1 BK159.out;have hfz19_0:=je BK159.out 0;have hfz19_1:=je BK159.out 1;obtain ⟨Ao20,co20,eo20⟩:=Kd.joa HO_3.out;subst eo20;have p161:0≤((ji12):Int):=ozD (uq);have q161:(ji12)<(x3_1.length:Int):=ozD (uq);obtain ⟨ad161,e161,hx161_0,hx161_1,hx161_2⟩:=jEa (Kd.jk HO_3.out).2.2 (ji12) p161 q161;cases e161;replace p161:=ezT p161;replace q161:=ezT q161;have p15:0≤((ji12):Int):=ozD (uq);have q15:((ji12):Int)<((x3_1.length:Int):Int):=ozD (uq);obtain ⟨go15,co15,eo15,gb15,gl15,cl15,HG15⟩:=Kd.R_form HO_3.out (by omega);(first | cases eo15 |(injection eo15 with ea_ en_ ec_;(first | subst ea_ |(injection ea_ with ea_;subst ea_));subst ec_;clear en_));have GB15:=am gb15;have GG15:=am HG15;clear gb15 gl15 HG15;(first | simp only [add_plain] at hx161_0 | skip);(first | simp only [add_plain] at hx161_1 | skip);(first | simp only [add_plain] at hx161_2 | skip);obtain ⟨ce15,hcl15,hM15,hcc15,hfr15⟩:=Kd.jBa HO_3.out z42 ((ji12):Int) p15 q15;obtain rfl:=jca hM15;have hx15_0:w18.cell? ⟨go15,((ji12):Int).toNat * 3,none⟩=some (.string ((ja x3_1 (ji12)).f0.f0)):=hcc15 0 _ rfl;have hx15_1:w18.cell? ⟨go15,((ji12):Int).toNat * 3+1,none⟩=some (.int .i64 ((ja x3_1 (ji12)).f0.f1)):=hcc15 1 _ rfl;have hx15_2:w18.cell? ⟨go15,((ji12):Int).toNat * 3+2,none⟩=some (.int .i64 ((ja x3_1 (ji12)).f1)):=hcc15 2 _ rfl;have hf15_0:w18.frozen? ⟨go15,((ji12):Int).toNat * 3,none⟩=false:=hfr15 0;have hf15_1:w18.frozen? ⟨go15,((ji12):Int).toNat * 3+1,none⟩=false:=hfr15 1;have hf15_2:w18.frozen? ⟨go15,((ji12):Int).toNat * 3+2,none⟩=false:=hfr15 2;clear hcl15 hcc15 hfr15 hM15;replace p15:=ezT p15;replace q15:=ezT q15;have HX21:=am (show Kd.R k42 42 w18 w.heap.size (fun _=>True) (.slice (some ⟨go15,0,none⟩) x3_1.length co20) x3_1 from (rq HO_3.out));obtain ⟨ce21,hcl21,hM21,hcc21,hfr21⟩:=Kd.jBa HX21.out z42 ((ji12):Int) (ozD (uq)) (by have h_:((ji12):Int)<((x3_1.length:Int):Int):=ozD (uq);first | exact h_ |(have e_:=(Kd.jk HO_3.out).1;omega) | simpa using h_);obtain rfl:=jca hM21;have HP21:=Kd.R_seg HX21.out ((ji12):Int) (ozD (uq)) (by have h_:((ji12):Int)<((x3_1.length:Int):Int):=ozD (uq);first | exact h_ |(have e_:=(Kd.jk HO_3.out).1;omega) | simpa using h_) (seg:=[.int .i64 (wrap64 (((ja x3_1 (ji12)).f1)+1))]) (j:=2) hcl21 hcc21 (show 3≤3 from by decide) (x':=(⟨(⟨(ja x3_1 (ji12)).f0.f0,(ja x3_1 (ji12)).f0.f1⟩:S38),wrap64 (((ja x3_1 (ji12)).f1)+1)⟩:S42)) (jba _ _ _ (⟨(⟨(ja x3_1 (ji12)).f0.f0,(ja x3_1 (ji12)).f0.f1⟩:S38),wrap64 (((ja x3_1 (ji12)).f1)+1)⟩:S42) ) (fun _ hk=>hk);have hx21_2:=hcc21 2 _ rfl;(try simp only [show (k42).sz=3 from rfl,Nat.mul_one,Nat.add_zero] at hx21_2);have hf21_2:=hfr21 2;(try simp only [show (k42).sz=3 from rfl,Nat.mul_one,Nat.add_zero] at hf21_2);clear hcl21 hcc21 hfr21 hM21) |((with_reducible refine jga (t:=3) (p:=34) rfl ?_);(try (rw [jka w18];generalize hq_:World.drewN w18 _=w18;have n0_:=am (Kd.R_at hq_ HO_3.out);have n1_:=am (blk_at hq_ BK159.out);have n2_:=am (jDa hq_ HB.out);clear hq_ HO_3 BK159 HB;have HO_3:=n0_;have BK159:=n1_;have HB:=n2_;clear n0_ n1_ n2_;(try (have HX21:=am (show Kd.R k42 42 w18 w.heap.size (fun _=>True) (.slice (some ⟨go15,0,none⟩) x3_1.length co20) x3_1 from (rq HO_3.out))));(try (obtain ⟨ce21,hcl21,hM21,hcc21,hfr21⟩:=Kd.jBa HX21.out z42 ((ji12):Int) (ozD (uq)) (by have h_:((ji12):Int)<((x3_1.length:Int):Int):=ozD (uq);first | exact h_ |(have e_:=(Kd.jk HO_3.out).1;omega) | simpa using h_)));(try (obtain rfl:=jca hM21));(try (have HP21:=Kd.R_seg HX21.out ((ji12):Int) (ozD (uq)) (by have h_:((ji12):Int)<((x3_1.length:Int):Int):=ozD (uq);first | exact h_ |(have e_:=(Kd.jk HO_3.out).1;omega) | simpa using h_) (seg:=[.int .i64 (wrap64 (((ja x3_1 (ji12)).f1)+1))]) (j:=2) hcl21 hcc21 (show 3≤3 from by decide) (x':=(⟨(⟨(ja x3_1 (ji12)).f0.f0,(ja x3_1 (ji12)).f0.f1⟩:S38),wrap64 (((ja x3_1 (ji12)).f1)+1)⟩:S42)) (jba _ _ _ (⟨(⟨(ja x3_1 (ji12)).f0.f0,(ja x3_1 (ji12)).f0.f1⟩:S38),wrap64 (((ja x3_1 (ji12)).f1)+1)⟩:S42) ) (fun _ hk=>hk)));(try (have hx21_2:=hcc21 2 _ rfl));(try (try simp only [show (k42).sz=3 from rfl,Nat.mul_one,Nat.add_zero] at hx21_2));(try (have hf21_2:=hfr21 2));(try (try simp only [show (k42).sz=3 from rfl,Nat.mul_one,Nat.add_zero] at hf21_2));(try (clear hcl21 hcc21 hfr21 hM21))));refine jda (t:=3) (p:=34) (v:=?vo_w22) (w1:=(w18.setCell ⟨go15,((ji12):Int).toNat * 3+2,none⟩ (.int .i64 (wrap64 (((ja x3_1 (ji12)).f1)+1))))) ?hg ?ho ?hn ?hr ?_;(case ho=>rfl);(case hg=>rfl);(case hn=>rfl);(case hr=>exact Y2);intro w22 hw;have hg:w18.grownBy w22 (some go15):=(by rw [hw];exact HP21.2);have hp_:Kd.R k42 42 w22 w.heap.size (fun _=>True) (.slice (some ⟨go15,0,none⟩) x3_1.length co20) y162:=(by rw [hw,Ny162.out];exact HP21.1);clear HP21;replace BK159:=am (jfa (g:=gb159) (o:=.cells #[.string ((jb l0 x9_1).f0), .int .i64 ((jb l0 x9_1).f1)] 38 (0,0)) (kq BK159.out) hg (Kd.R_ne HO_3.out BK159.out (by decide)));replace HO_3:=am (hp_);replace HB:=am ((by rw [hw];exact jI (HB.out) GB15.out:Below w.heap.size w w22));clear hg hw hp_))
            repeat (go_quiet (first |((with_reducible refine jH (N:=5) rfl ?_);refine bE (N:=5) (cs:=#[.string (⟨#[]⟩:ByteArray), .int .i64 0]) (t:=38) ?_;intro gb159 hg w16 hbox hb;have BK159:=am (hbox);have GW159:=am ((Y0:w.heap.size≤gb159));have GE159:=am ((Y0:w.heap.size≤gb159));replace HO_3:=am (Kd.jP (rq HO_3.out) hb);replace HB:=am (jf (bq) hb);clear hb hbox hg;have hcz17_0:=bc0 BK159.out;have hcz17_1:=bc1 BK159.out;have hfz17_0:=je BK159.out 0;have hfz17_1:=je BK159.out 1) |((with_reducible refine jga (t:=38) (p:=5) rfl ?_);(try (rw [jka w16];generalize hq_:World.drewN w16 _=w16;have n0_:=am (Kd.R_at hq_ HO_3.out);have n1_:=am (blk_at hq_ BK159.out);have n2_:=am (jDa hq_ HB.out);clear hq_ HO_3 BK159 HB;have HO_3:=n0_;have BK159:=n1_;have HB:=n2_;clear n0_ n1_ n2_));refine jda (t:=38) (p:=5) (v:=?vo_w18) (w1:=((w16.setCell ⟨gb159,0,none⟩ (.string ((jb l0 x9_1).f0))).setCell ⟨gb159,1,none⟩ (.int .i64 ((jb l0 x9_1).f1)))) ?hg ?ho ?hn ?hr ?_;(case ho=>rfl);(case hg=>rfl);(case hn=>rfl);(case hr=>exact Y2);intro w18 hw;have n0_:jA (Kd.R k42 42 w18 w.heap.size (fun _=>True) u3 x3_1):=⟨(by rw [hw];exact (Y7))⟩;have n1_:jA (w18.heap[gb159]?=some (.cells #[.string ((jb l0 x9_1).f0), .int .i64 ((jb l0 x9_1).f1)] 38 (0,0))):=⟨(by rw [hw];exact (Y8))⟩;have n2_:jA (Below w.heap.size w w18):=⟨(by rw [hw];exact (Y3))⟩;clear hw HO_3 BK159 HB;have HO_3:=n0_;have BK159:=n1_;have HB:=n2_;clear n0_ n1_ n2_;have p160:0≤((ji8):Int):=ozD (uq);have q160:(ji8)<(l0.length:Int):=ozD (uq);obtain ⟨ad160,e160,hx160_0,hx160_1⟩:=jqa HR0.out (ji8) p160 q160;obtain rfl:ad158=ad160:=(by injection e160);replace hx160_0:=cb HB.out hx160_0;replace hx160_1:=cb HB.out hx160_1;replace p160:=ezT p160;replace q160:=ezT q160;have hcz19_0:=bc0 BK159.out;have hcz19_1:=bc1 BK159.out;have hfz19_0:=je BK159.out 0;have hfz19_1:=je BK159.out 1;obtain ⟨Ao20,co20,eo20⟩:=Kd.joa HO_3.out;subst eo20;have p161:0≤((ji12):Int):=ozD (uq);have q161:(ji12)<(x3_1.length:Int):=ozD (uq);obtain ⟨ad161,e161,hx161_0,hx161_1,hx161_2⟩:=jEa (Kd.jk HO_3.out).2.2 (ji12) p161 q161;cases e161;replace p161:=ezT p161;replace q161:=ezT q161;have p15:0≤((ji12):Int):=ozD (uq);have q15:((ji12):Int)<((x3_1.length:Int):Int):=ozD (uq);obtain ⟨go15,co15,eo15,gb15,gl15,cl15,HG15⟩:=Kd.R_form HO_3.out (by omega);(first | cases eo15 |(injection eo15 with ea_ en_ ec_;(first | subst ea_ |(injection ea_ with ea_;subst ea_));subst ec_;clear en_));have GB15:=am gb15;have GG15:=am HG15;clear gb15 gl15 HG15;(first | simp only [add_plain] at hx161_0 | skip);(first | simp only [add_plain] at hx161_1 | skip);(first | simp only [add_plain] at hx161_2 | skip);obtain ⟨ce15,hcl15,hM15,hcc15,hfr15⟩:=Kd.jBa HO_3.out z42 ((ji12):Int) p15 q15;obtain rfl:=jca hM15;have hx15_0:w18.cell? ⟨go15,((ji12):Int).toNat * 3,none⟩=some (.string ((ja x3_1 (ji12)).f0.f0)):=hcc15 0 _ rfl;have hx15_1:w18.cell? ⟨go15,((ji12):Int).toNat * 3+1,none⟩=some (.int .i64 ((ja x3_1 (ji12)).f0.f1)):=hcc15 1 _ rfl;have hx15_2:w18.cell? ⟨go15,((ji12):Int).toNat * 3+2,none⟩=some (.int .i64 ((ja x3_1 (ji12)).f1)):=hcc15 2 _ rfl;have hf15_0:w18.frozen? ⟨go15,((ji12):Int).toNat * 3,none⟩=false:=hfr15 0;have hf15_1:w18.frozen? ⟨go15,((ji12):Int).toNat * 3+1,none⟩=false:=hfr15 1;have hf15_2:w18.frozen? ⟨go15,((ji12):Int).toNat * 3+2,none⟩=false:=hfr15 2;clear hcl15 hcc15 hfr15 hM15;replace p15:=ezT p15;replace q15:=ezT q15;have HX21:=am (show Kd.R k42 42 w18 w.heap.size (fun _=>True) (.slice (some ⟨go15,0,none⟩) x3_1.length co20) x3_1 from (rq HO_3.out));obtain ⟨ce21,hcl21,hM21,hcc21,hfr21⟩:=Kd.jBa HX21.out z42 ((ji12):Int) (ozD (uq)) (by have h_:((ji12):Int)<((x3_1.length:Int):Int):=ozD (uq);first | exact h_ |(have e_:=(Kd.jk HO_3.out).1;omega) | simpa using h_);obtain rfl:=jca hM21;have HP21:=Kd.R_seg HX21.out ((ji12):Int) (ozD (uq)) (by have h_:((ji12):Int)<((x3_1.length:Int):Int):=ozD (uq);first | exact h_ |(have e_:=(Kd.jk HO_3.out).1;omega) | simpa using h_) (seg:=[.int .i64 (wrap64 (((ja x3_1 (ji12)).f1)+1))]) (j:=2) hcl21 hcc21 (show 3≤3 from by decide) (x':=(⟨(⟨(ja x3_1 (ji12)).f0.f0,(ja x3_1 (ji12)).f0.f1⟩:S38),wrap64 (((ja x3_1 (ji12)).f1)+1)⟩:S42)) (jba _ _ _ (⟨(⟨(ja x3_1 (ji12)).f0.f0,(ja x3_1 (ji12)).f0.f1⟩:S38),wrap64 (((ja x3_1 (ji12)).f1)+1)⟩:S42) ) (fun _ hk=>hk);have hx21_2:=hcc21 2 _ rfl;(try simp only [show (k42).sz=3 from rfl,Nat.mul_one,Nat.add_zero] at hx21_2);have hf21_2:=hfr21 2;(try simp only [show (k42).sz=3 from rfl,Nat.mul_one,Nat.add_zero] at hf21_2);clear hcl21 hcc21 hfr21 hM21) |((with_reducible refine jga (t:=3) (p:=34) rfl ?_);(try (rw [jka w18];generalize hq_:World.drewN w18 _=w18;have n0_:=am (Kd.R_at hq_ HO_3.out);have n1_:=am (blk_at hq_ BK159.out);have n2_:=am (jDa hq_ HB.out);clear hq_ HO_3 BK159 HB;have HO_3:=n0_;have BK159:=n1_;have HB:=n2_;clear n0_ n1_ n2_;(try (have HX21:=am (show Kd.R k42 42 w18 w.heap.size (fun _=>True) (.slice (some ⟨go15,0,none⟩) x3_1.length co20) x3_1 from (rq HO_3.out))));(try (obtain ⟨ce21,hcl21,hM21,hcc21,hfr21⟩:=Kd.jBa HX21.out z42 ((ji12):Int) (ozD (uq)) (by have h_:((ji12):Int)<((x3_1.length:Int):Int):=ozD (uq);first | exact h_ |(have e_:=(Kd.jk HO_3.out).1;omega) | simpa using h_)));(try (obtain rfl:=jca hM21));(try (have HP21:=Kd.R_seg HX21.out ((ji12):Int) (ozD (uq)) (by have h_:((ji12):Int)<((x3_1.length:Int):Int):=ozD (uq);first | exact h_ |(have e_:=(Kd.jk HO_3.out).1;omega) | simpa using h_) (seg:=[.int .i64 (wrap64 (((ja x3_1 (ji12)).f1)+1))]) (j:=2) hcl21 hcc21 (show 3≤3 from by decide) (x':=(⟨(⟨(ja x3_1 (ji12)).f0.f0,(ja x3_1 (ji12)).f0.f1⟩:S38),wrap64 (((ja x3_1 (ji12)).f1)+1)⟩:S42)) (jba _ _ _ (⟨(⟨(ja x3_1 (ji12)).f0.f0,(ja x3_1 (ji12)).f0.f1⟩:S38),wrap64 (((ja x3_1 (ji12)).f1)+1)⟩:S42) ) (fun _ hk=>hk)));(try (have hx21_2:=hcc21 2 _ rfl));(try (try simp only [show (k42).sz=3 from rfl,Nat.mul_one,Nat.add_zero] at hx21_2));(try (have hf21_2:=hfr21 2));(try (try simp only [show (k42).sz=3 from rfl,Nat.mul_one,Nat.add_zero] at hf21_2));(try (clear hcl21 hcc21 hfr21 hM21))));refine jda (t:=3) (p:=34) (v:=?vo_w22) (w1:=(w18.setCell ⟨go15,((ji12):Int).toNat * 3+2,none⟩ (.int .i64 (wrap64 (((ja x3_1 (ji12)).f1)+1))))) ?hg ?ho ?hn ?hr ?_;(case ho=>rfl);(case hg=>rfl);(case hn=>rfl);(case hr=>exact Y2);intro w22 hw;have hg:w18.grownBy w22 (some go15):=(by rw [hw];exact HP21.2);have hp_:Kd.R k42 42 w22 w.heap.size (fun _=>True) (.slice (some ⟨go15,0,none⟩) x3_1.length co20) y162:=(by rw [hw,Ny162.out];exact HP21.1);clear HP21;replace BK159:=am (jfa (g:=gb159) (o:=.cells #[.string ((jb l0 x9_1).f0), .int .i64 ((jb l0 x9_1).f1)] 38 (0,0)) (kq BK159.out) hg (Kd.R_ne HO_3.out BK159.out (by decide)));replace HO_3:=am (hp_);replace HB:=am ((by rw [hw];exact jI (HB.out) GB15.out:Below w.heap.size w w22));clear hg hw hp_));try go_wp2_with (first |((with_reducible refine jH (N:=5) rfl ?_);refine bE (N:=5) (cs:=#[.string (⟨#[]⟩:ByteArray), .int .i64 0]) (t:=38) ?_;intro gb159 hg w16 hbox hb;have BK159:=am (hbox);have GW159:=am ((Y0:w.heap.size≤gb159));have GE159:=am ((Y0:w.heap.size≤gb159));replace HO_3:=am (Kd.jP (rq HO_3.out) hb);replace HB:=am (jf (bq) hb);clear hb hbox hg;have hcz17_0:=bc0 BK159.out;have hcz17_1:=bc1 BK159.out;have hfz17_0:=je BK159.out 0;have hfz17_1:=je BK159.out 1) |((with_reducible refine jga (t:=38) (p:=5) rfl ?_);(try (rw [jka w16];generalize hq_:World.drewN w16 _=w16;have n0_:=am (Kd.R_at hq_ HO_3.out);have n1_:=am (blk_at hq_ BK159.out);have n2_:=am (jDa hq_ HB.out);clear hq_ HO_3 BK159 HB;have HO_3:=n0_;have BK159:=n1_;have HB:=n2_;clear n0_ n1_ n2_));refine jda (t:=38) (p:=5) (v:=?vo_w18) (w1:=((w16.setCell ⟨gb159,0,none⟩ (.string ((jb l0 x9_1).f0))).setCell ⟨gb159,1,none⟩ (.int .i64 ((jb l0 x9_1).f1)))) ?hg ?ho ?hn ?hr ?_;(case ho=>rfl);(case hg=>rfl);(case hn=>rfl);(case hr=>exact Y2);intro w18 hw;have n0_:jA (Kd.R k42 42 w18 w.heap.size (fun _=>True) u3 x3_1):=⟨(by rw [hw];exact (Y7))⟩;have n1_:jA (w18.heap[gb159]?=some (.cells #[.string ((jb l0 x9_1).f0), .int .i64 ((jb l0 x9_1).f1)] 38 (0,0))):=⟨(by rw [hw];exact (Y8))⟩;have n2_:jA (Below w.heap.size w w18):=⟨(by rw [hw];exact (Y3))⟩;clear hw HO_3 BK159 HB;have HO_3:=n0_;have BK159:=n1_;have HB:=n2_;clear n0_ n1_ n2_;have p160:0≤((ji8):Int):=ozD (uq);have q160:(ji8)<(l0.length:Int):=ozD (uq);obtain ⟨ad160,e160,hx160_0,hx160_1⟩:=jqa HR0.out (ji8) p160 q160;obtain rfl:ad158=ad160:=(by injection e160);replace hx160_0:=cb HB.out hx160_0;replace hx160_1:=cb HB.out hx160_1;replace p160:=ezT p160;replace q160:=ezT q160;have hcz19_0:=bc0 BK159.out;have hcz19_1:=bc1 BK159.out;have hfz19_0:=je BK159.out 0;have hfz19_1:=je BK159.out 1;obtain ⟨Ao20,co20,eo20⟩:=Kd.joa HO_3.out;subst eo20;have p161:0≤((ji12):Int):=ozD (uq);have q161:(ji12)<(x3_1.length:Int):=ozD (uq);obtain ⟨ad161,e161,hx161_0,hx161_1,hx161_2⟩:=jEa (Kd.jk HO_3.out).2.2 (ji12) p161 q161;cases e161;replace p161:=ezT p161;replace q161:=ezT q161;have p15:0≤((ji12):Int):=ozD (uq);have q15:((ji12):Int)<((x3_1.length:Int):Int):=ozD (uq);obtain ⟨go15,co15,eo15,gb15,gl15,cl15,HG15⟩:=Kd.R_form HO_3.out (by omega);(first | cases eo15 |(injection eo15 with ea_ en_ ec_;(first | subst ea_ |(injection ea_ with ea_;subst ea_));subst ec_;clear en_));have GB15:=am gb15;have GG15:=am HG15;clear gb15 gl15 HG15;(first | simp only [add_plain] at hx161_0 | skip);(first | simp only [add_plain] at hx161_1 | skip);(first | simp only [add_plain] at hx161_2 | skip);obtain ⟨ce15,hcl15,hM15,hcc15,hfr15⟩:=Kd.jBa HO_3.out z42 ((ji12):Int) p15 q15;obtain rfl:=jca hM15;have hx15_0:w18.cell? ⟨go15,((ji12):Int).toNat * 3,none⟩=some (.string ((ja x3_1 (ji12)).f0.f0)):=hcc15 0 _ rfl;have hx15_1:w18.cell? ⟨go15,((ji12):Int).toNat * 3+1,none⟩=some (.int .i64 ((ja x3_1 (ji12)).f0.f1)):=hcc15 1 _ rfl;have hx15_2:w18.cell? ⟨go15,((ji12):Int).toNat * 3+2,none⟩=some (.int .i64 ((ja x3_1 (ji12)).f1)):=hcc15 2 _ rfl;have hf15_0:w18.frozen? ⟨go15,((ji12):Int).toNat * 3,none⟩=false:=hfr15 0;have hf15_1:w18.frozen? ⟨go15,((ji12):Int).toNat * 3+1,none⟩=false:=hfr15 1;have hf15_2:w18.frozen? ⟨go15,((ji12):Int).toNat * 3+2,none⟩=false:=hfr15 2;clear hcl15 hcc15 hfr15 hM15;replace p15:=ezT p15;replace q15:=ezT q15;have HX21:=am (show Kd.R k42 42 w18 w.heap.size (fun _=>True) (.slice (some ⟨go15,0,none⟩) x3_1.length co20) x3_1 from (rq HO_3.out));obtain ⟨ce21,hcl21,hM21,hcc21,hfr21⟩:=Kd.jBa HX21.out z42 ((ji12):Int) (ozD (uq)) (by have h_:((ji12):Int)<((x3_1.length:Int):Int):=ozD (uq);first | exact h_ |(have e_:=(Kd.jk HO_3.out).1;omega) | simpa using h_);obtain rfl:=jca hM21;have HP21:=Kd.R_seg HX21.out ((ji12):Int) (ozD (uq)) (by have h_:((ji12):Int)<((x3_1.length:Int):Int):=ozD (uq);first | exact h_ |(have e_:=(Kd.jk HO_3.out).1;omega) | simpa using h_) (seg:=[.int .i64 (wrap64 (((ja x3_1 (ji12)).f1)+1))]) (j:=2) hcl21 hcc21 (show 3≤3 from by decide) (x':=(⟨(⟨(ja x3_1 (ji12)).f0.f0,(ja x3_1 (ji12)).f0.f1⟩:S38),wrap64 (((ja x3_1 (ji12)).f1)+1)⟩:S42)) (jba _ _ _ (⟨(⟨(ja x3_1 (ji12)).f0.f0,(ja x3_1 (ji12)).f0.f1⟩:S38),wrap64 (((ja x3_1 (ji12)).f1)+1)⟩:S42) ) (fun _ hk=>hk);have hx21_2:=hcc21 2 _ rfl;(try simp only [show (k42).sz=3 from rfl,Nat.mul_one,Nat.add_zero] at hx21_2);have hf21_2:=hfr21 2;(try simp only [show (k42).sz=3 from rfl,Nat.mul_one,Nat.add_zero] at hf21_2);clear hcl21 hcc21 hfr21 hM21) |((with_reducible refine jga (t:=3) (p:=34) rfl ?_);(try (rw [jka w18];generalize hq_:World.drewN w18 _=w18;have n0_:=am (Kd.R_at hq_ HO_3.out);have n1_:=am (blk_at hq_ BK159.out);have n2_:=am (jDa hq_ HB.out);clear hq_ HO_3 BK159 HB;have HO_3:=n0_;have BK159:=n1_;have HB:=n2_;clear n0_ n1_ n2_;(try (have HX21:=am (show Kd.R k42 42 w18 w.heap.size (fun _=>True) (.slice (some ⟨go15,0,none⟩) x3_1.length co20) x3_1 from (rq HO_3.out))));(try (obtain ⟨ce21,hcl21,hM21,hcc21,hfr21⟩:=Kd.jBa HX21.out z42 ((ji12):Int) (ozD (uq)) (by have h_:((ji12):Int)<((x3_1.length:Int):Int):=ozD (uq);first | exact h_ |(have e_:=(Kd.jk HO_3.out).1;omega) | simpa using h_)));(try (obtain rfl:=jca hM21));(try (have HP21:=Kd.R_seg HX21.out ((ji12):Int) (ozD (uq)) (by have h_:((ji12):Int)<((x3_1.length:Int):Int):=ozD (uq);first | exact h_ |(have e_:=(Kd.jk HO_3.out).1;omega) | simpa using h_) (seg:=[.int .i64 (wrap64 (((ja x3_1 (ji12)).f1)+1))]) (j:=2) hcl21 hcc21 (show 3≤3 from by decide) (x':=(⟨(⟨(ja x3_1 (ji12)).f0.f0,(ja x3_1 (ji12)).f0.f1⟩:S38),wrap64 (((ja x3_1 (ji12)).f1)+1)⟩:S42)) (jba _ _ _ (⟨(⟨(ja x3_1 (ji12)).f0.f0,(ja x3_1 (ji12)).f0.f1⟩:S38),wrap64 (((ja x3_1 (ji12)).f1)+1)⟩:S42) ) (fun _ hk=>hk)));(try (have hx21_2:=hcc21 2 _ rfl));(try (try simp only [show (k42).sz=3 from rfl,Nat.mul_one,Nat.add_zero] at hx21_2));(try (have hf21_2:=hfr21 2));(try (try simp only [show (k42).sz=3 from rfl,Nat.mul_one,Nat.add_zero] at hf21_2));(try (clear hcl21 hcc21 hfr21 hM21))));refine jda (t:=3) (p:=34) (v:=?vo_w22) (w1:=(w18.setCell ⟨go15,((ji12):Int).toNat * 3+2,none⟩ (.int .i64 (wrap64 (((ja x3_1 (ji12)).f1)+1))))) ?hg ?ho ?hn ?hr ?_;(case ho=>rfl);(case hg=>rfl);(case hn=>rfl);(case hr=>exact Y2);intro w22 hw;have hg:w18.grownBy w22 (some go15):=(by rw [hw];exact HP21.2);have hp_:Kd.R k42 42 w22 w.heap.size (fun _=>True) (.slice (some ⟨go15,0,none⟩) x3_1.length co20) y162:=(by rw [hw,Ny162.out];exact HP21.1);clear HP21;replace BK159:=am (jfa (g:=gb159) (o:=.cells #[.string ((jb l0 x9_1).f0), .int .i64 ((jb l0 x9_1).f1)] 38 (0,0)) (kq BK159.out) hg (Kd.R_ne HO_3.out BK159.out (by decide)));replace HO_3:=am (hp_);replace HB:=am ((by rw [hw];exact jI (HB.out) GB15.out:Below w.heap.size w w22));clear hg hw hp_)))
            go_roundg k1
            case measure=>have:=HK1.out;omega
            case rel=>exact ⟨(y162),(wrap64 (x9_1+1)),(sq),H',⟨by have:=HK1.out;omega⟩,⟨rq HO_3.out⟩,⟨Y3⟩⟩
           ·rw [if_neg c14] at H
            exact absurd H (by simp)
          ·rw [if_neg c13] at H
           exact absurd H (by simp)
         ·rw [if_neg c11] at H
          have c11b0:((((jb l0 (ji8)).f0).toList) == (((jb l0 x9_1).f0).toList) && (((jb l0 (ji8)).f1) == ((jb l0 x9_1).f1)))=false:=by simpa using c11
          (try (have c11b1:decide ((((jb l0 (ji8)).f0).toList)=(((jb l0 x9_1).f0).toList) && (((jb l0 (ji8)).f1) == ((jb l0 x9_1).f1)))=false:=by simpa using c11))
          (try (have c11b2:((((jb l0 (ji8)).f0).toList) == (((jb l0 x9_1).f0).toList) && (((jb l0 (ji8)).f1) == ((jb l0 x9_1).f1)))=false:=by simpa using c11))
          (try (have c11b3:¬ ((((jb l0 (ji8)).f0).toList)=(((jb l0 x9_1).f0).toList) && (((jb l0 (ji8)).f1) == ((jb l0 x9_1).f1))):=by simpa using c11))
          clear c11
          by_cases c23:x3_1.length<4398046511104
          ·rw [if_pos c23] at H
           have LMc23:=am c23
           clear c23
           obtain ⟨y163,hy163⟩:∃ y_:List (S42),y_=(x3_1 ++ [(⟨(⟨(jb l0 x9_1).f0,(jb l0 x9_1).f1⟩:S38),1⟩:S42)]):=⟨_,rfl⟩
           replace H:(jE.l0 k1 l0 y163 l0 (l0.length:Int) (wrap64 (x9_1+1)))=some r:=by first |(rw [hy163];with_reducible exact H) |(have H2_:=(Option.bind_some _ _).symm.trans H;rw [hy163];with_reducible exact H2_) |(have H2_:=(Option.bind_some _ _).symm.trans H;with_reducible exact H2_) | with_reducible exact H |(rw [hy163];exact H) | exact H
           have Ny163:=am hy163
           clear hy163
           have H':=am H
           clear H
           have p158:0≤(x9_1:Int):=ozD (uq)
           have q158:x9_1<(l0.length:Int):=ozD (uq)
           obtain ⟨ad158,e158,hx158_0,hx158_1⟩:=jqa HR0.out x9_1 p158 q158
           cases e158
           replace hx158_0:=cb HB.out hx158_0
           replace hx158_1:=cb HB.out hx158_1
           replace p158:=ezT p158
           replace q158:=ezT q158
           go_wp2_with (first |((with_reducible refine jH (N:=5) rfl ?_);refine bE (N:=5) (cs:=#[.string (⟨#[]⟩:ByteArray), .int .i64 0]) (t:=38) ?_;intro gb159 hg w24 hbox hb;have BK159:=am (hbox);have GW159:=am ((Y0:w.heap.size≤gb159));have GE159:=am ((Y0:w.heap.size≤gb159));replace HO_3:=am (Kd.jP (rq HO_3.out) hb);replace HB:=am (jf (bq) hb);clear hb hbox hg;have hcz25_0:=bc0 BK159.out;have hcz25_1:=bc1 BK159.out;have hfz25_0:=je BK159.out 0;have hfz25_1:=je BK159.out 1;have p160:0≤((ji8):Int):=ozD (uq);have q160:(ji8)<(l0.length:Int):=ozD (uq);obtain ⟨ad160,e160,hx160_0,hx160_1⟩:=jqa HR0.out (ji8) p160 q160;obtain rfl:ad158=ad160:=(by injection e160);have hn160_0:ad158.block≠gb159:=Nat.ne_of_lt (Nat.lt_of_lt_of_le (by have:=World.block_lt_of_cell? _ _ hx160_0;first | rwa [add_block] at this | exact this) GW159.out);have hn160_1:ad158.block≠gb159:=Nat.ne_of_lt (Nat.lt_of_lt_of_le (by have:=World.block_lt_of_cell? _ _ hx160_0;first | rwa [add_block] at this | exact this) GW159.out);replace hx160_0:=cb HB.out hx160_0;replace hx160_1:=cb HB.out hx160_1;replace hx160_0:=(cell_far (p:=⟨gb159,0,none⟩) (Y9) (.string ((jb l0 x9_1).f0))).trans hx160_0;replace hx160_1:=(cell_far (p:=⟨gb159,0,none⟩) (Y9) (.string ((jb l0 x9_1).f0))).trans hx160_1;replace hx160_0:=(cell_far (p:=⟨gb159,1,none⟩) (Y10) (.int .i64 ((jb l0 x9_1).f1))).trans hx160_0;replace hx160_1:=(cell_far (p:=⟨gb159,1,none⟩) (Y10) (.int .i64 ((jb l0 x9_1).f1))).trans hx160_1;(try have hy160_0:=fun (n_:Nat)=>(show ((((w24.drewN n_).setCell ⟨gb159,0,none⟩ (.string ((jb l0 x9_1).f0))).setCell ⟨gb159,1,none⟩ (.int .i64 ((jb l0 x9_1).f1)))).cell? _=some _ from hx160_0));(try have hy160_1:=fun (n_:Nat)=>(show ((((w24.drewN n_).setCell ⟨gb159,0,none⟩ (.string ((jb l0 x9_1).f0))).setCell ⟨gb159,1,none⟩ (.int .i64 ((jb l0 x9_1).f1)))).cell? _=some _ from hx160_1));clear hn160_0 hn160_1;replace p160:=ezT p160;replace q160:=ezT q160) |((with_reducible refine jO (b:=.append) (xs:=#[.tmp 35, .tmp 38]) rfl ?_);at_builtin;refine Kd.jha k42 (w0:=w) w.heap.size rfl (.tmp 35) (.tmp 38) 32 42 (.agg #[(.string ⟨#[]⟩),(.int .i64 0),(.int .i64 0)]) 32 rfl Tryd.underlying32 jLa rfl (by decide) (by omega) u3 x3_1 (⟨(⟨(jb l0 x9_1).f0,(jb l0 x9_1).f1⟩:S38),1⟩:S42) [.string ((jb l0 x9_1).f0), .int .i64 ((jb l0 x9_1).f1), .int .i64 1] (fun _=>True) (fun _=>False) rfl (Y2) ?aP (fun _ hk=>hk.elim) ?aF ?aO ?aB ?aS ?aL ?_;(case aP=>exact jba _ _ _ (⟨(⟨(jb l0 x9_1).f0,(jb l0 x9_1).f1⟩:S38),1⟩:S42));(case aB=>exact (Y3));(case aF=>exact (fun _ _=>trivial));(case aO=>exact (Y7));(case aS=>exact (jm (Y3)));(case aL=>have:=LMc23.out;omega);intro v164 w26 ho hb hg hat;rw [← Ny163.out] at ho;have n0_:=am (jfa (g:=gb159) (o:=.cells #[.string ((jb l0 x9_1).f0), .int .i64 ((jb l0 x9_1).f1)] 38 (0,0)) (Y8) hg (Kd.R_ne HO_3.out BK159.out (by decide)));have n1_:=am (hb);have n2_:=am (ho);clear BK159 HB HO_3;have BK159:=n0_;have HB:=n1_;have HO165:=n2_;clear n0_ n1_ n2_ ho hb hg hat))
           repeat (go_quiet (first |((with_reducible refine jH (N:=5) rfl ?_);refine bE (N:=5) (cs:=#[.string (⟨#[]⟩:ByteArray), .int .i64 0]) (t:=38) ?_;intro gb159 hg w24 hbox hb;have BK159:=am (hbox);have GW159:=am ((Y0:w.heap.size≤gb159));have GE159:=am ((Y0:w.heap.size≤gb159));replace HO_3:=am (Kd.jP (rq HO_3.out) hb);replace HB:=am (jf (bq) hb);clear hb hbox hg;have hcz25_0:=bc0 BK159.out;have hcz25_1:=bc1 BK159.out;have hfz25_0:=je BK159.out 0;have hfz25_1:=je BK159.out 1;have p160:0≤((ji8):Int):=ozD (uq);have q160:(ji8)<(l0.length:Int):=ozD (uq);obtain ⟨ad160,e160,hx160_0,hx160_1⟩:=jqa HR0.out (ji8) p160 q160;obtain rfl:ad158=ad160:=(by injection e160);have hn160_0:ad158.block≠gb159:=Nat.ne_of_lt (Nat.lt_of_lt_of_le (by have:=World.block_lt_of_cell? _ _ hx160_0;first | rwa [add_block] at this | exact this) GW159.out);have hn160_1:ad158.block≠gb159:=Nat.ne_of_lt (Nat.lt_of_lt_of_le (by have:=World.block_lt_of_cell? _ _ hx160_0;first | rwa [add_block] at this | exact this) GW159.out);replace hx160_0:=cb HB.out hx160_0;replace hx160_1:=cb HB.out hx160_1;replace hx160_0:=(cell_far (p:=⟨gb159,0,none⟩) (Y9) (.string ((jb l0 x9_1).f0))).trans hx160_0;replace hx160_1:=(cell_far (p:=⟨gb159,0,none⟩) (Y9) (.string ((jb l0 x9_1).f0))).trans hx160_1;replace hx160_0:=(cell_far (p:=⟨gb159,1,none⟩) (Y10) (.int .i64 ((jb l0 x9_1).f1))).trans hx160_0;replace hx160_1:=(cell_far (p:=⟨gb159,1,none⟩) (Y10) (.int .i64 ((jb l0 x9_1).f1))).trans hx160_1;(try have hy160_0:=fun (n_:Nat)=>(show ((((w24.drewN n_).setCell ⟨gb159,0,none⟩ (.string ((jb l0 x9_1).f0))).setCell ⟨gb159,1,none⟩ (.int .i64 ((jb l0 x9_1).f1)))).cell? _=some _ from hx160_0));(try have hy160_1:=fun (n_:Nat)=>(show ((((w24.drewN n_).setCell ⟨gb159,0,none⟩ (.string ((jb l0 x9_1).f0))).setCell ⟨gb159,1,none⟩ (.int .i64 ((jb l0 x9_1).f1)))).cell? _=some _ from hx160_1));clear hn160_0 hn160_1;replace p160:=ezT p160;replace q160:=ezT q160) |((with_reducible refine jO (b:=.append) (xs:=#[.tmp 35, .tmp 38]) rfl ?_);at_builtin;refine Kd.jha k42 (w0:=w) w.heap.size rfl (.tmp 35) (.tmp 38) 32 42 (.agg #[(.string ⟨#[]⟩),(.int .i64 0),(.int .i64 0)]) 32 rfl Tryd.underlying32 jLa rfl (by decide) (by omega) u3 x3_1 (⟨(⟨(jb l0 x9_1).f0,(jb l0 x9_1).f1⟩:S38),1⟩:S42) [.string ((jb l0 x9_1).f0), .int .i64 ((jb l0 x9_1).f1), .int .i64 1] (fun _=>True) (fun _=>False) rfl (Y2) ?aP (fun _ hk=>hk.elim) ?aF ?aO ?aB ?aS ?aL ?_;(case aP=>exact jba _ _ _ (⟨(⟨(jb l0 x9_1).f0,(jb l0 x9_1).f1⟩:S38),1⟩:S42));(case aB=>exact (Y3));(case aF=>exact (fun _ _=>trivial));(case aO=>exact (Y7));(case aS=>exact (jm (Y3)));(case aL=>have:=LMc23.out;omega);intro v164 w26 ho hb hg hat;rw [← Ny163.out] at ho;have n0_:=am (jfa (g:=gb159) (o:=.cells #[.string ((jb l0 x9_1).f0), .int .i64 ((jb l0 x9_1).f1)] 38 (0,0)) (Y8) hg (Kd.R_ne HO_3.out BK159.out (by decide)));have n1_:=am (hb);have n2_:=am (ho);clear BK159 HB HO_3;have BK159:=n0_;have HB:=n1_;have HO165:=n2_;clear n0_ n1_ n2_ ho hb hg hat));try go_wp2_with (first |((with_reducible refine jH (N:=5) rfl ?_);refine bE (N:=5) (cs:=#[.string (⟨#[]⟩:ByteArray), .int .i64 0]) (t:=38) ?_;intro gb159 hg w24 hbox hb;have BK159:=am (hbox);have GW159:=am ((Y0:w.heap.size≤gb159));have GE159:=am ((Y0:w.heap.size≤gb159));replace HO_3:=am (Kd.jP (rq HO_3.out) hb);replace HB:=am (jf (bq) hb);clear hb hbox hg;have hcz25_0:=bc0 BK159.out;have hcz25_1:=bc1 BK159.out;have hfz25_0:=je BK159.out 0;have hfz25_1:=je BK159.out 1;have p160:0≤((ji8):Int):=ozD (uq);have q160:(ji8)<(l0.length:Int):=ozD (uq);obtain ⟨ad160,e160,hx160_0,hx160_1⟩:=jqa HR0.out (ji8) p160 q160;obtain rfl:ad158=ad160:=(by injection e160);have hn160_0:ad158.block≠gb159:=Nat.ne_of_lt (Nat.lt_of_lt_of_le (by have:=World.block_lt_of_cell? _ _ hx160_0;first | rwa [add_block] at this | exact this) GW159.out);have hn160_1:ad158.block≠gb159:=Nat.ne_of_lt (Nat.lt_of_lt_of_le (by have:=World.block_lt_of_cell? _ _ hx160_0;first | rwa [add_block] at this | exact this) GW159.out);replace hx160_0:=cb HB.out hx160_0;replace hx160_1:=cb HB.out hx160_1;replace hx160_0:=(cell_far (p:=⟨gb159,0,none⟩) (Y9) (.string ((jb l0 x9_1).f0))).trans hx160_0;replace hx160_1:=(cell_far (p:=⟨gb159,0,none⟩) (Y9) (.string ((jb l0 x9_1).f0))).trans hx160_1;replace hx160_0:=(cell_far (p:=⟨gb159,1,none⟩) (Y10) (.int .i64 ((jb l0 x9_1).f1))).trans hx160_0;replace hx160_1:=(cell_far (p:=⟨gb159,1,none⟩) (Y10) (.int .i64 ((jb l0 x9_1).f1))).trans hx160_1;(try have hy160_0:=fun (n_:Nat)=>(show ((((w24.drewN n_).setCell ⟨gb159,0,none⟩ (.string ((jb l0 x9_1).f0))).setCell ⟨gb159,1,none⟩ (.int .i64 ((jb l0 x9_1).f1)))).cell? _=some _ from hx160_0));(try have hy160_1:=fun (n_:Nat)=>(show ((((w24.drewN n_).setCell ⟨gb159,0,none⟩ (.string ((jb l0 x9_1).f0))).setCell ⟨gb159,1,none⟩ (.int .i64 ((jb l0 x9_1).f1)))).cell? _=some _ from hx160_1));clear hn160_0 hn160_1;replace p160:=ezT p160;replace q160:=ezT q160) |((with_reducible refine jO (b:=.append) (xs:=#[.tmp 35, .tmp 38]) rfl ?_);at_builtin;refine Kd.jha k42 (w0:=w) w.heap.size rfl (.tmp 35) (.tmp 38) 32 42 (.agg #[(.string ⟨#[]⟩),(.int .i64 0),(.int .i64 0)]) 32 rfl Tryd.underlying32 jLa rfl (by decide) (by omega) u3 x3_1 (⟨(⟨(jb l0 x9_1).f0,(jb l0 x9_1).f1⟩:S38),1⟩:S42) [.string ((jb l0 x9_1).f0), .int .i64 ((jb l0 x9_1).f1), .int .i64 1] (fun _=>True) (fun _=>False) rfl (Y2) ?aP (fun _ hk=>hk.elim) ?aF ?aO ?aB ?aS ?aL ?_;(case aP=>exact jba _ _ _ (⟨(⟨(jb l0 x9_1).f0,(jb l0 x9_1).f1⟩:S38),1⟩:S42));(case aB=>exact (Y3));(case aF=>exact (fun _ _=>trivial));(case aO=>exact (Y7));(case aS=>exact (jm (Y3)));(case aL=>have:=LMc23.out;omega);intro v164 w26 ho hb hg hat;rw [← Ny163.out] at ho;have n0_:=am (jfa (g:=gb159) (o:=.cells #[.string ((jb l0 x9_1).f0), .int .i64 ((jb l0 x9_1).f1)] 38 (0,0)) (Y8) hg (Kd.R_ne HO_3.out BK159.out (by decide)));have n1_:=am (hb);have n2_:=am (ho);clear BK159 HB HO_3;have BK159:=n0_;have HB:=n1_;have HO165:=n2_;clear n0_ n1_ n2_ ho hb hg hat)))
           go_roundg k1
           case measure=>have:=HK1.out;omega
           case rel=>exact ⟨(y163),(wrap64 (x9_1+1)),(sq),H',⟨by have:=HK1.out;omega⟩,⟨rq HO165.out⟩,⟨Y3⟩⟩
          ·rw [if_neg c23] at H
           exact absurd H (by simp)
        ·rw [if_neg c10] at H
         exact absurd H (by simp)
       ·rw [if_neg c9] at H
        exact absurd H (by simp)
      ·rw [if_neg c7] at H
       have c7b0:decide (0<x9_1)=false:=dzF c7
       clear c7
       by_cases c27:x3_1.length<4398046511104
       ·rw [if_pos c27] at H
        have LMc27:=am c27
        clear c27
        obtain ⟨y166,hy166⟩:∃ y_:List (S42),y_=(x3_1 ++ [(⟨(⟨(jb l0 x9_1).f0,(jb l0 x9_1).f1⟩:S38),1⟩:S42)]):=⟨_,rfl⟩
        replace H:(jE.l0 k1 l0 y166 l0 (l0.length:Int) (wrap64 (x9_1+1)))=some r:=by first |(rw [hy166];with_reducible exact H) |(have H2_:=(Option.bind_some _ _).symm.trans H;rw [hy166];with_reducible exact H2_) |(have H2_:=(Option.bind_some _ _).symm.trans H;with_reducible exact H2_) | with_reducible exact H |(rw [hy166];exact H) | exact H
        have Ny166:=am hy166
        clear hy166
        have H':=am H
        clear H
        have p158:0≤(x9_1:Int):=ozD (uq)
        have q158:x9_1<(l0.length:Int):=ozD (uq)
        obtain ⟨ad158,e158,hx158_0,hx158_1⟩:=jqa HR0.out x9_1 p158 q158
        cases e158
        replace hx158_0:=cb HB.out hx158_0
        replace hx158_1:=cb HB.out hx158_1
        replace p158:=ezT p158
        replace q158:=ezT q158
        go_wp2_with (first |((with_reducible refine jH (N:=5) rfl ?_);refine bE (N:=5) (cs:=#[.string (⟨#[]⟩:ByteArray), .int .i64 0]) (t:=38) ?_;intro gb159 hg w28 hbox hb;have BK159:=am (hbox);have GW159:=am ((Y0:w.heap.size≤gb159));have GE159:=am ((Y0:w.heap.size≤gb159));replace HO_3:=am (Kd.jP (rq HO_3.out) hb);replace HB:=am (jf (bq) hb);clear hb hbox hg;have hcz29_0:=bc0 BK159.out;have hcz29_1:=bc1 BK159.out;have hfz29_0:=je BK159.out 0;have hfz29_1:=je BK159.out 1) |((with_reducible refine jO (b:=.append) (xs:=#[.tmp 35, .tmp 38]) rfl ?_);at_builtin;refine Kd.jha k42 (w0:=w) w.heap.size rfl (.tmp 35) (.tmp 38) 32 42 (.agg #[(.string ⟨#[]⟩),(.int .i64 0),(.int .i64 0)]) 32 rfl Tryd.underlying32 jLa rfl (by decide) (by omega) u3 x3_1 (⟨(⟨(jb l0 x9_1).f0,(jb l0 x9_1).f1⟩:S38),1⟩:S42) [.string ((jb l0 x9_1).f0), .int .i64 ((jb l0 x9_1).f1), .int .i64 1] (fun _=>True) (fun _=>False) rfl (Y2) ?aP (fun _ hk=>hk.elim) ?aF ?aO ?aB ?aS ?aL ?_;(case aP=>exact jba _ _ _ (⟨(⟨(jb l0 x9_1).f0,(jb l0 x9_1).f1⟩:S38),1⟩:S42));(case aB=>exact (Y3));(case aF=>exact (fun _ _=>trivial));(case aO=>exact (Y7));(case aS=>exact (jm (Y3)));(case aL=>have:=LMc27.out;omega);intro v167 w30 ho hb hg hat;rw [← Ny166.out] at ho;have n0_:=am (jfa (g:=gb159) (o:=.cells #[.string ((jb l0 x9_1).f0), .int .i64 ((jb l0 x9_1).f1)] 38 (0,0)) (Y8) hg (Kd.R_ne HO_3.out BK159.out (by decide)));have n1_:=am (hb);have n2_:=am (ho);clear BK159 HB HO_3;have BK159:=n0_;have HB:=n1_;have HO168:=n2_;clear n0_ n1_ n2_ ho hb hg hat))
        repeat (go_quiet (first |((with_reducible refine jH (N:=5) rfl ?_);refine bE (N:=5) (cs:=#[.string (⟨#[]⟩:ByteArray), .int .i64 0]) (t:=38) ?_;intro gb159 hg w28 hbox hb;have BK159:=am (hbox);have GW159:=am ((Y0:w.heap.size≤gb159));have GE159:=am ((Y0:w.heap.size≤gb159));replace HO_3:=am (Kd.jP (rq HO_3.out) hb);replace HB:=am (jf (bq) hb);clear hb hbox hg;have hcz29_0:=bc0 BK159.out;have hcz29_1:=bc1 BK159.out;have hfz29_0:=je BK159.out 0;have hfz29_1:=je BK159.out 1) |((with_reducible refine jO (b:=.append) (xs:=#[.tmp 35, .tmp 38]) rfl ?_);at_builtin;refine Kd.jha k42 (w0:=w) w.heap.size rfl (.tmp 35) (.tmp 38) 32 42 (.agg #[(.string ⟨#[]⟩),(.int .i64 0),(.int .i64 0)]) 32 rfl Tryd.underlying32 jLa rfl (by decide) (by omega) u3 x3_1 (⟨(⟨(jb l0 x9_1).f0,(jb l0 x9_1).f1⟩:S38),1⟩:S42) [.string ((jb l0 x9_1).f0), .int .i64 ((jb l0 x9_1).f1), .int .i64 1] (fun _=>True) (fun _=>False) rfl (Y2) ?aP (fun _ hk=>hk.elim) ?aF ?aO ?aB ?aS ?aL ?_;(case aP=>exact jba _ _ _ (⟨(⟨(jb l0 x9_1).f0,(jb l0 x9_1).f1⟩:S38),1⟩:S42));(case aB=>exact (Y3));(case aF=>exact (fun _ _=>trivial));(case aO=>exact (Y7));(case aS=>exact (jm (Y3)));(case aL=>have:=LMc27.out;omega);intro v167 w30 ho hb hg hat;rw [← Ny166.out] at ho;have n0_:=am (jfa (g:=gb159) (o:=.cells #[.string ((jb l0 x9_1).f0), .int .i64 ((jb l0 x9_1).f1)] 38 (0,0)) (Y8) hg (Kd.R_ne HO_3.out BK159.out (by decide)));have n1_:=am (hb);have n2_:=am (ho);clear BK159 HB HO_3;have BK159:=n0_;have HB:=n1_;have HO168:=n2_;clear n0_ n1_ n2_ ho hb hg hat));try go_wp2_with (first |((with_reducible refine jH (N:=5) rfl ?_);refine bE (N:=5) (cs:=#[.string (⟨#[]⟩:ByteArray), .int .i64 0]) (t:=38) ?_;intro gb159 hg w28 hbox hb;have BK159:=am (hbox);have GW159:=am ((Y0:w.heap.size≤gb159));have GE159:=am ((Y0:w.heap.size≤gb159));replace HO_3:=am (Kd.jP (rq HO_3.out) hb);replace HB:=am (jf (bq) hb);clear hb hbox hg;have hcz29_0:=bc0 BK159.out;have hcz29_1:=bc1 BK159.out;have hfz29_0:=je BK159.out 0;have hfz29_1:=je BK159.out 1) |((with_reducible refine jO (b:=.append) (xs:=#[.tmp 35, .tmp 38]) rfl ?_);at_builtin;refine Kd.jha k42 (w0:=w) w.heap.size rfl (.tmp 35) (.tmp 38) 32 42 (.agg #[(.string ⟨#[]⟩),(.int .i64 0),(.int .i64 0)]) 32 rfl Tryd.underlying32 jLa rfl (by decide) (by omega) u3 x3_1 (⟨(⟨(jb l0 x9_1).f0,(jb l0 x9_1).f1⟩:S38),1⟩:S42) [.string ((jb l0 x9_1).f0), .int .i64 ((jb l0 x9_1).f1), .int .i64 1] (fun _=>True) (fun _=>False) rfl (Y2) ?aP (fun _ hk=>hk.elim) ?aF ?aO ?aB ?aS ?aL ?_;(case aP=>exact jba _ _ _ (⟨(⟨(jb l0 x9_1).f0,(jb l0 x9_1).f1⟩:S38),1⟩:S42));(case aB=>exact (Y3));(case aF=>exact (fun _ _=>trivial));(case aO=>exact (Y7));(case aS=>exact (jm (Y3)));(case aL=>have:=LMc27.out;omega);intro v167 w30 ho hb hg hat;rw [← Ny166.out] at ho;have n0_:=am (jfa (g:=gb159) (o:=.cells #[.string ((jb l0 x9_1).f0), .int .i64 ((jb l0 x9_1).f1)] 38 (0,0)) (Y8) hg (Kd.R_ne HO_3.out BK159.out (by decide)));have n1_:=am (hb);have n2_:=am (ho);clear BK159 HB HO_3;have BK159:=n0_;have HB:=n1_;have HO168:=n2_;clear n0_ n1_ n2_ ho hb hg hat)))
        go_roundg k1
        case measure=>have:=HK1.out;omega
        case rel=>exact ⟨(y166),(wrap64 (x9_1+1)),(sq),H',⟨by have:=HK1.out;omega⟩,⟨rq HO168.out⟩,⟨Y3⟩⟩
       ·rw [if_neg c27] at H
        exact absurd H (by simp)
     ·rw [if_neg c6] at H
      exact absurd H (by simp)
    ·rw [if_neg c5] at H
     exact absurd H (by simp)
   ·rw [if_neg c4] at H
    have c4b0:decide (x9_1<(l0.length:Int))=false:=dzF c4
    clear c4
    replace H:=bzS H
    obtain ⟨t155,A310,H⟩:=H
    replace H:(some t155)=some r:=H
    have A31:=am A310
    clear A310
    obtain rfl:=Option.some.inj H
    obtain ⟨Ao32,co32,eo32⟩:=Kd.joa HO_3.out
    subst eo32
    go_wp2_with (first |(go_at_call 30;(with_reducible refine (impl_Row.calls (fun k_=>some k_=(.slice Ao32 x3_1.length co32:Value).ownBlock) (.slice Ao32 x3_1.length co32) x3_1 t155 w _ ?side1 ?side2 A31.out).mono ?_);(case side1=>exact Y12);(case side2=>exact Kd.R_tight rfl HO_3.out);rintro e w33 ⟨v156,rfl,ho0,hb,hkp⟩;have n0_:=am (Kd.jra (ok':=fun k_=>True) ho0 (fun k_ hk_=>trivial));have n1_:=am (hb);clear HB HO_3;have HO157:=n0_;have HB:=n1_;clear n0_ n1_;(try clear hb);(try clear hkp);(try clear ho0)))
    repeat (go_quiet (first |(go_at_call 30;(with_reducible refine (impl_Row.calls (fun k_=>some k_=(.slice Ao32 x3_1.length co32:Value).ownBlock) (.slice Ao32 x3_1.length co32) x3_1 t155 w _ ?side1 ?side2 A31.out).mono ?_);(case side1=>exact Y12);(case side2=>exact Kd.R_tight rfl HO_3.out);rintro e w33 ⟨v156,rfl,ho0,hb,hkp⟩;have n0_:=am (Kd.jra (ok':=fun k_=>True) ho0 (fun k_ hk_=>trivial));have n1_:=am (hb);clear HB HO_3;have HO157:=n0_;have HB:=n1_;clear n0_ n1_;(try clear hb);(try clear hkp);(try clear ho0)));try go_wp2_with (first |(go_at_call 30;(with_reducible refine (impl_Row.calls (fun k_=>some k_=(.slice Ao32 x3_1.length co32:Value).ownBlock) (.slice Ao32 x3_1.length co32) x3_1 t155 w _ ?side1 ?side2 A31.out).mono ?_);(case side1=>exact Y12);(case side2=>exact Kd.R_tight rfl HO_3.out);rintro e w33 ⟨v156,rfl,ho0,hb,hkp⟩;have n0_:=am (Kd.jra (ok':=fun k_=>True) ho0 (fun k_ hk_=>trivial));have n1_:=am (hb);clear HB HO_3;have HO157:=n0_;have HB:=n1_;clear n0_ n1_;(try clear hb);(try clear hkp);(try clear ho0))))
    go_ret
    exact ⟨_,Y1,rq HO157.out,bq⟩
def sh171_ren : Go.Shelf.Ren := ⟨fun | 171 => 18 | 243 => 31 | 246 => 42 | 283 => 46 | 284 => 47 | 285 => 48 | 286 => 49 | 129 => 53 | 317 => 52 | 318 => 54 | 319 => 55 | 320 => 56 | 337 => 57 | 338 => 58 | n => n, fun | 3 => 3 | 9 => 9 | 2 => 2 | 4 => 4 | 171 => 73 | 0 => 0 | 53 => 74 | 37 => 29 | 5 => 5 | 173 => 77 | 212 => 83 | 51 => 84 | 20 => 20 | 213 => 85 | 46 => 87 | 232 => 90 | 233 => 91 | n => n, fun | 17 => 0 | 18 => 2 | 19 => 3 | n => n⟩
theorem sh171 : Go.Proofs.LaysM.n171 Tryd.prog sh171_ren := {
 mixed:=by kernel_rfl
 f129:=Tryd.func53.trans (congrArg some (by kernel_rfl))
 f171:=Tryd.func18.trans (congrArg some (by kernel_rfl))
 f243:=Tryd.func31.trans (congrArg some (by kernel_rfl))
 f246:=Tryd.func42.trans (congrArg some (by kernel_rfl))
 f283:=Tryd.func46.trans (congrArg some (by kernel_rfl))
 f284:=Tryd.func47.trans (congrArg some (by kernel_rfl))
 f285:=Tryd.func48.trans (congrArg some (by kernel_rfl))
 f286:=Tryd.func49.trans (congrArg some (by kernel_rfl))
 f317:=Tryd.func52.trans (congrArg some (by kernel_rfl))
 f318:=Tryd.func54.trans (congrArg some (by kernel_rfl))
 f319:=Tryd.func55.trans (congrArg some (by kernel_rfl))
 f320:=Tryd.func56.trans (congrArg some (by kernel_rfl))
 f337:=Tryd.func57.trans (congrArg some (by kernel_rfl))
 f338:=Tryd.func58.trans (congrArg some (by kernel_rfl))
 t0:=Tryd.underlying0
 a0:=Tryd.isAgg0
 z0:=Tryd.sizeOf0
 v0:=Tryd.zeroValue0
 t2:=Tryd.underlying2
 a2:=Tryd.isAgg2
 z2:=Tryd.sizeOf2
 v2:=Tryd.zeroValue2
 t3:=Tryd.underlying3
 a3:=Tryd.isAgg3
 z3:=Tryd.sizeOf3
 v3:=Tryd.zeroValue3
 t4:=Tryd.underlying4
 a4:=Tryd.isAgg4
 z4:=Tryd.sizeOf4
 v4:=Tryd.zeroValue4
 t5:=Tryd.underlying5
 a5:=Tryd.isAgg5
 z5:=Tryd.sizeOf5
 v5:=Tryd.zeroValue5
 t9:=Tryd.underlying9
 a9:=Tryd.isAgg9
 z9:=Tryd.sizeOf9
 v9:=Tryd.zeroValue9
 t20:=Tryd.underlying20
 a20:=Tryd.isAgg20
 z20:=Tryd.sizeOf20
 v20:=Tryd.zeroValue20
 t37:=Tryd.underlying29
 a37:=Tryd.isAgg29
 z37:=Tryd.sizeOf29
 v37:=Tryd.zeroValue29
 t46:=Tryd.underlying87
 a46:=Tryd.isAgg87
 z46:=Tryd.sizeOf87
 v46:=Tryd.zeroValue87
 t51:=Tryd.underlying84
 a51:=Tryd.isAgg84
 z51:=Tryd.sizeOf84
 v51:=Tryd.zeroValue84
 t53:=Tryd.underlying74
 a53:=Tryd.isAgg74
 z53:=Tryd.sizeOf74
 v53:=Tryd.zeroValue74
 t171:=Tryd.underlying73
 a171:=Tryd.isAgg73
 z171:=Tryd.sizeOf73
 v171:=Tryd.zeroValue73
 t173:=Tryd.underlying77
 a173:=Tryd.isAgg77
 z173:=Tryd.sizeOf77
 v173:=Tryd.zeroValue77
 t212:=Tryd.underlying83
 a212:=Tryd.isAgg83
 z212:=Tryd.sizeOf83
 v212:=Tryd.zeroValue83
 t213:=Tryd.underlying85
 a213:=Tryd.isAgg85
 z213:=Tryd.sizeOf85
 t232:=Tryd.underlying90
 a232:=Tryd.isAgg90
 z232:=Tryd.sizeOf90
 v232:=Tryd.zeroValue90
 t233:=Tryd.underlying91
 a233:=Tryd.isAgg91
 z233:=Tryd.sizeOf91
 v233:=Tryd.zeroValue91
 g17:=by kernel_rfl
 g18:=by kernel_rfl
 g19:=by kernel_rfl
 i0:=by kernel_rfl
 i2:=by kernel_rfl
 i3:=by kernel_rfl
 i4:=by kernel_rfl
 i5:=by kernel_rfl
 i9:=by kernel_rfl
 i20:=by kernel_rfl
 i37:=by kernel_rfl
 i46:=by kernel_rfl
 i51:=by kernel_rfl
 i53:=by kernel_rfl
 i171:=by kernel_rfl
 i173:=by kernel_rfl
 i212:=by kernel_rfl
 i232:=by kernel_rfl
 i233:=by kernel_rfl
 m17:=by kernel_rfl
 m18:=by kernel_rfl
 m19:=by kernel_rfl }
theorem tabSt {w W : World} (h : Lib.TabIs Tryd.prog w "internal/strconv.uint64pow10" .u64 Lib.pow10Tab) (hb : Below w.heap.size w W) : Lib.TabIs Tryd.prog W "internal/strconv.uint64pow10" .u64 Lib.pow10Tab := Go.Joins.tab_stays (show Tryd.prog.globalNamed "internal/strconv.uint64pow10" = some 0 by kernel_rfl) h hb (Nat.le_refl _)
def strconv_Itoa.f (a0 : Int) : Option ByteArray := if 0 ≤ a0 then (if a0 < 1000 then some ⟨(Lib.itoa a0).toArray⟩ else none) else none
set_option maxHeartbeats 8000000 in
set_option maxRecDepth 100000 in
theorem strconv_Itoa.calls (a0 : Int) (r : ByteArray) (w : World) (h : strconv_Itoa.f a0 = some r) (htab : Lib.TabIs Tryd.prog w "internal/strconv.uint64pow10" .u64 Lib.pow10Tab) :
  Calls Tryd.prog 18 #[.int .i64 a0] w fun e w'=>e=.returned (.string r)∧Below w.heap.size w w':=by
 unfold strconv_Itoa.f at h
 by_cases h0:0≤a0
 ·rw [if_pos h0] at h
  by_cases h1:a0<1000
  ·rw [if_pos h1] at h
   obtain rfl:=Option.some.inj h
   refine Calls.mono (show Calls Tryd.prog 18 _ w _ from Go.Proofs.Any.strconv_Itoa sh171 a0 (by omega) (by omega) w htab) ?_
   rintro e w' ⟨rfl,j,os,rfl⟩
   exact ⟨rfl,Go.Lib.below_grow _ _ (Nat.le_refl _) _ _⟩
  ·rw [if_neg h1] at h;cases h
 ·rw [if_neg h0] at h;cases h

def sh156_ren : Go.Shelf.Ren := ⟨fun | 156 => 19 | 165 => 32 | 166 => 33 | 169 => 34 | 240 => 43 | 241 => 44 | 276 => 50 | 277 => 51 | n => n, fun | 31 => 40 | 9 => 9 | 3 => 3 | 4 => 4 | 0 => 0 | 20 => 20 | 72 => 56 | 76 => 60 | 70 => 54 | 37 => 29 | 75 => 59 | 127 => 71 | 164 => 79 | 5 => 5 | 80 => 62 | n => n, fun | n => n⟩
theorem sh156 : Go.Proofs.Lays.n156 Tryd.prog sh156_ren := {
 mixed:=by kernel_rfl
 f156:=Tryd.func19.trans (congrArg some (by kernel_rfl))
 f165:=Tryd.func32.trans (congrArg some (by kernel_rfl))
 f166:=Tryd.func33.trans (congrArg some (by kernel_rfl))
 f169:=Tryd.func34.trans (congrArg some (by kernel_rfl))
 f240:=Tryd.func43.trans (congrArg some (by kernel_rfl))
 f241:=Tryd.func44.trans (congrArg some (by kernel_rfl))
 f276:=Tryd.func50.trans (congrArg some (by kernel_rfl))
 f277:=Tryd.func51.trans (congrArg some (by kernel_rfl))
 t0:=Tryd.underlying0
 a0:=Tryd.isAgg0
 z0:=Tryd.sizeOf0
 v0:=Tryd.zeroValue0
 t3:=Tryd.underlying3
 a3:=Tryd.isAgg3
 z3:=Tryd.sizeOf3
 v3:=Tryd.zeroValue3
 t4:=Tryd.underlying4
 a4:=Tryd.isAgg4
 z4:=Tryd.sizeOf4
 v4:=Tryd.zeroValue4
 t9:=Tryd.underlying9
 a9:=Tryd.isAgg9
 z9:=Tryd.sizeOf9
 v9:=Tryd.zeroValue9
 t20:=Tryd.underlying20
 a20:=Tryd.isAgg20
 z20:=Tryd.sizeOf20
 v20:=Tryd.zeroValue20
 t31:=Tryd.underlying40
 a31:=Tryd.isAgg40
 z31:=Tryd.sizeOf40
 v31:=Tryd.zeroValue40
 t37:=Tryd.underlying29
 a37:=Tryd.isAgg29
 z37:=Tryd.sizeOf29
 v37:=Tryd.zeroValue29
 t70:=Tryd.underlying54
 a70:=Tryd.isAgg54
 z70:=Tryd.sizeOf54
 v70:=Tryd.zeroValue54
 t72:=Tryd.underlying56
 a72:=Tryd.isAgg56
 z72:=Tryd.sizeOf56
 v72:=Tryd.zeroValue56
 t75:=Tryd.underlying59
 a75:=Tryd.isAgg59
 z75:=Tryd.sizeOf59
 v75:=Tryd.zeroValue59
 t76:=Tryd.underlying60
 a76:=Tryd.isAgg60
 z76:=Tryd.sizeOf60
 v76:=Tryd.zeroValue60
 t127:=Tryd.underlying71
 a127:=Tryd.isAgg71
 z127:=Tryd.sizeOf71
 v127:=Tryd.zeroValue71
 t164:=Tryd.underlying79
 a164:=Tryd.isAgg79
 z164:=Tryd.sizeOf79
 v164:=Tryd.zeroValue79 }
theorem sh156x : Go.Proofs.Builder.Extra Tryd.prog sh156_ren := { sizeBuilder := by kernel_rfl, liesBuilder := by kernel_rfl, t5 := Tryd.underlying5, a5 := Tryd.isAgg5, z5 := Tryd.sizeOf5, v5 := Tryd.zeroValue5, infoByte := by kernel_rfl, cellsByte := by kernel_rfl, sizeByte := by kernel_rfl, neB5 := by decide }
theorem join_at {e base : Nat} {ok : Nat → Prop} {W : World} {A : Option Addr} {n c : Nat} {xs : List ByteArray} (h : Kd.R Kd.string e W base ok (.slice A n c) xs) : xs.length = 0 ∨ ∃ g o, A = some ⟨g, o, none⟩ ∧ g < W.heap.size := by
 obtain ⟨_,inner,ho,_⟩:=h
 rcases ho.2 with ⟨he,h0⟩ | ⟨g,cap,cur,he,hg,hh,_⟩
 ·exact .inl h0
 ·right
  cases he
  exact ⟨g,0,rfl,(Array.getElem?_eq_some_iff.1 hh).1⟩
def joinT (l0 : List ByteArray) (a1 : ByteArray) : ByteArray := ⟨(Lib.join (l0.map (·.data.toList)) a1.data.toList).toArray⟩
def strings_Join.f (l0 : List ByteArray) (a1 : ByteArray) : Option ByteArray := if l0.length ≤ 140737488355328 ∧ (Lib.join (l0.map (·.data.toList)) a1.data.toList).length ≤ 140737488355328 then some (joinT l0 a1) else none
set_option maxHeartbeats 8000000 in
set_option maxRecDepth 100000 in
theorem strings_Join.calls (A0 : Option Addr) (c0 : Nat) (l0 : List ByteArray) (a1 : ByteArray) (r : ByteArray) (w : World) (hr0 : Kd.C Kd.string w A0 l0.length l0) (hc0 : l0.length ≤ c0) (h : strings_Join.f l0 a1 = some r) (hA : l0.length = 0 ∨ ∃ g o, A0 = some ⟨g, o, none⟩ ∧ g < w.heap.size) :
  Calls Tryd.prog 19 #[.slice A0 l0.length c0, .string a1] w fun e w'=>e=.returned (.string r)∧Below w.heap.size w w':=by
 unfold strings_Join.f at h
 by_cases hk:l0.length≤140737488355328∧(Lib.join (l0.map (·.data.toList)) a1.data.toList).length≤140737488355328
 ·rw [if_pos hk] at h
  obtain rfl:=Option.some.inj h
  cases l0 with
  | nil=>exact (show Calls Tryd.prog 19 _ w _ from Go.Proofs.Any.strings_Join_none sh156 sh156x A0 c0 a1 w).mono (fun e w' ⟨he,hw⟩=>⟨he,hw ▸ Below.refl _ _⟩)
  | cons x xs =>
   rcases hA with hA | ⟨g,o,rfl,hg⟩
   ·simp at hA
   ·refine (show Calls Tryd.prog 19 _ w _ from Go.Proofs.Any.strings_Join sh156 sh156x g o c0 (x :: xs) a1 w (fun j y hj=>?_) hg hk.1 hc0 hk.2)
    obtain ⟨ad,e1,e2⟩:=hr0.2.2 (by simp)
    obtain rfl:=Option.some.inj e1
    obtain ⟨c,h1,h2,h3⟩:=e2 j y hj
    have h4:=h3 0 (.string y) (by rw [show c=[.string y] from h2];rfl)
    have e3:(⟨g,o,none⟩:Addr).add (j * Kd.string.sz+0)=⟨g,o+j,none⟩:=by
     rw [show Kd.string.sz=1 from rfl,Nat.mul_one,Nat.add_zero]
     unfold Addr.add
     split
     ·simp_all
     ·rfl
    rw [e3] at h4
    exact h4
 ·rw [if_neg hk] at h;cases h
def jd.l0 : Nat → List ByteArray → List (S42) → Int → Int → Option (ByteArray)
 | 0,_,_,_,_=>none
 | k+1,x3,x12,x13,x14=>if x14<x13 then (if 0≤x14 then (if x14<(x12.length:Int) then (if ((ja x12 x14).f0.f0).size+1≤9223372036854775807 then ((strconv_Itoa.f ((ja x12 x14).f0.f1)).bind fun t197=>(if (((ja x12 x14).f0.f0) ++ (⟨#[58]⟩:ByteArray)).size+t197.size≤9223372036854775807 then (if ((ja x12 x14).f1)=1 then (if x3.length<8796093022208 then (jd.l0 k (x3 ++ [(((ja x12 x14).f0.f0) ++ (⟨#[58]⟩:ByteArray)) ++ t197]) x12 x13 (wrap64 (x14+1))) else (none)) else ((strconv_Itoa.f ((ja x12 x14).f1)).bind fun t201=>(if 1+t201.size≤9223372036854775807 then (if ((((ja x12 x14).f0.f0) ++ (⟨#[58]⟩:ByteArray)) ++ t197).size+((⟨#[42]⟩:ByteArray) ++ t201).size≤9223372036854775807 then (if x3.length<8796093022208 then (jd.l0 k (x3 ++ [((((ja x12 x14).f0.f0) ++ (⟨#[58]⟩:ByteArray)) ++ t197) ++ ((⟨#[42]⟩:ByteArray) ++ t201)]) x12 x13 (wrap64 (x14+1))) else (none)) else (none)) else (none)))) else (none))) else (none)) else (none)) else (none)) else ((strings_Join.f x3 (⟨#[32]⟩:ByteArray)).bind fun t194=>(some t194))
def jd.f (k : Nat) (l0 : List (S38)) : Option (ByteArray) := (jU.f k l0).bind fun t187 => (if t187 = true then ((jE.f k l0).bind fun t191 => (jd.l0 k (([] : List ByteArray)) t191 (t191.length : Int) 0)) else (some (⟨#[]⟩ : ByteArray)))
def jd.T7 : Bool × List (List Nat × List Nat) := (true, [([], []), ([0], [0]), ([1], [1]), ([2], [2]), ([], []), ([4], [4]), ([5], [5]), ([6], [6]), ([3, 7], [3, 7]), ([8, 7, 0, 1, 2, 3, 4, 5, 6, 7, 8], [8])])
def jd.B7 : List Nat := [0, 1, 3, 7, 0, 16, 48, 112, 255, 511]
theorem jd.tab7 : rtab .any (opsOf Tryd.f8 7) = jd.T7 := by kernel_rfl
theorem jd.bits7 : waitsOk jd.T7.2 jd.B7 = true := by kernel_rfl
set_option maxHeartbeats 8000000 in
set_option maxRecDepth 100000 in
theorem jd.calls (k : Nat) (A0 : Option Addr) (c0 : Nat) (l0 : List (S38)) (r : ByteArray) (w : World) (hr0 : Kd.C k38 w A0 l0.length l0) (hc0 : l0.length ≤ c0) (h : jd.f k l0 = some r) (htab : Lib.TabIs Tryd.prog w "internal/strconv.uint64pow10" .u64 Lib.pow10Tab) :
  Calls Tryd.prog 8 #[.slice A0 l0.length c0] w fun e w'=>e=.returned (.string r)∧Below w.heap.size w w':=by
 have HT:=am (fun (W:World) (hb_:Below w.heap.size w W)=>tabSt htab hb_)
 clear htab
 have hu42:=Tryd.underlying42
 have HR0:=am hr0
 have HC0:=am hc0
 clear hr0 hc0
 have HB:=am (Below.refl w.heap.size w)
 have H:((jU.f k l0).bind fun t187=>(if t187=true then ((jE.f k l0).bind fun t191=>(jd.l0 k (([]:List ByteArray)) t191 (t191.length:Int) 0)) else (some (⟨#[]⟩:ByteArray))))=some r:=h
 clear h
 replace H:=bzS H
 obtain ⟨t187,A20,H⟩:=H
 replace H:(if t187=true then ((jE.f k l0).bind fun t191=>(jd.l0 k (([]:List ByteArray)) t191 (t191.length:Int) 0)) else (some (⟨#[]⟩:ByteArray)))=some r:=H
 have A2:=am A20
 clear A20
 by_cases c3:t187=true
 ·subst c3
  have H1:((jE.f k l0).bind fun t191=>(jd.l0 k (([]:List ByteArray)) t191 (t191.length:Int) 0))=some r:=by rw [if_pos rfl] at H;exact H
  clear H
  have H:=H1
  clear H1
  obtain ⟨y188,hy188⟩:∃ y_:List ByteArray,y_=(([]:List ByteArray)):=⟨_,rfl⟩
  replace H:((jE.f k l0).bind fun t191=>(jd.l0 k y188 t191 (t191.length:Int) 0))=some r:=by first |(rw [hy188];with_reducible exact H) |(have H2_:=(Option.bind_some _ _).symm.trans H;rw [hy188];with_reducible exact H2_) |(have H2_:=(Option.bind_some _ _).symm.trans H;with_reducible exact H2_) | with_reducible exact H |(rw [hy188];exact H) | exact H
  have Ny188:=am hy188
  clear hy188
  replace H:=bzS H
  obtain ⟨t191,A40,H⟩:=H
  replace H:(jd.l0 k y188 t191 (t191.length:Int) 0)=some r:=H
  have A4:=am A40
  clear A40
  have H':=am H
  clear H
  go_enter Tryd.func8,Tryd.ntmps8
  go_wp2_with (first |((with_reducible refine jo (f:=11) rfl ?_);refine gL (some 8) Tryd.func11 #[.slice A0 l0.length c0] ?_;(with_reducible refine (jU.calls k _ _ l0 true _ ?side1 ?side2 A2.out).mono ?_);(case side1=>exact Y6);(case side2=>exact HC0.out);rintro e w5 ⟨rfl,hb⟩;refine ⟨_,rfl,?_⟩;replace HB:=am (jf (bq) hb);(try clear hb);(try clear hb2);(try clear hk);(try clear hi)) |((with_reducible refine jH (N:=10) rfl ?_);refine Kd.R_lit Kd.string _ 9 ?hg (N:=10) ?hd (xs:=([]:List ByteArray)) (inner:=[]) (ok:=fun _=>True) (okp:=fun _=>True) ?hr ?hp (fun _ hk=>hk) trivial (Below.refl _ _) (Nat.le_refl _) (by simp) ?_;(case hd=>rfl);(case hg=>rfl);(case hr=>exact Y2);(case hp=>exact (Reps.none _ _));intro v189 w6 ho7 hb hg_ hnew_;clear hg_ hnew_;(first | rw [← Ny188.out] at ho7 |(simp only [Int.reduceToNat] at ho7;rw [← Ny188.out] at ho7));have HO190:=am (Kd.jma ho7 (jm (bq)));replace HB:=am (jf (bq) hb);clear hb ho7) |((with_reducible refine jo (f:=17) rfl ?_);refine gL (some 12) Tryd.func17 #[.slice A0 l0.length c0] ?_;(with_reducible refine (jE.calls k _ _ l0 t191 _ ?side1 ?side2 A4.out).mono ?_);(case side1=>exact cq (Kd.jPa HR0.out HB.out));(case side2=>exact HC0.out);rintro e w8 ⟨v192,rfl,ho0,hb⟩;refine ⟨_,rfl,?_⟩;have HO193:=am (Kd.jma ho0 (jm (bq)));replace HO190:=am (Kd.jP (rq HO190.out) hb);replace HB:=am (jf (bq) hb);(try clear hb);(try clear hb2);(try clear hk);(try clear hi);(try clear ho0);obtain ⟨Ao9,co9,eo9⟩:=Kd.joa HO193.out;subst eo9))
  go_loopg [3,14] k (fun kq v3 v14 w'=>∃ (x3_1:List ByteArray) (x14_1:Int),v14=.int .i64 x14_1∧jA (jd.l0 kq x3_1 t191 (t191.length:Int) x14_1=some r)∧jA (kq≤k)∧jA (Kd.R Kd.string 9 w' w.heap.size (fun _=>True) v3 x3_1)∧jA (Kd.R k42 42 w' w.heap.size (fun _=>True) (.slice Ao9 t191.length co9) t191)∧jA (Below w.heap.size w w'))
  case atStart=>exact ⟨(y188),(0),(sq),H',⟨Nat.le_refl _⟩,⟨rq HO190.out⟩,⟨rq HO193.out⟩,⟨bq⟩⟩
  case round =>
   clear H'
   try clear c1
   try clear p2
   try clear c3
   try clear c8
   obtain ⟨x3_1,x14_1,rfl,HA,HK1,HO_3,HO_12,HB⟩:=hrel
   cases gk with
   | zero=>exact absurd HA.out (by simp [jd.l0])
   | succ k1 =>
    have H:=HA.out
    clear HA
    simp only [jd.l0] at H
    by_cases c10:x14_1<(t191.length:Int)
    ·rw [if_pos c10] at H
     have c10b0:decide (x14_1<(t191.length:Int))=true:=dzT c10
     clear c10
     by_cases c11:0≤x14_1
     ·rw [if_pos c11] at H
      have c11b0:decide (0≤x14_1)=true:=dzT c11
      clear c11
      by_cases c12:x14_1<(t191.length:Int)
      ·rw [if_pos c12] at H
       have c12b0:decide (x14_1<(t191.length:Int))=true:=dzT c12
       clear c12
       by_cases c13:((ja t191 x14_1).f0.f0).size+1≤9223372036854775807
       ·rw [if_pos c13] at H
        have c13b0:=ezT c13
        have c13b1:decide (((ja t191 x14_1).f0.f0).size+1≤9223372036854775807)=true:=dzT c13
        try have c13b2:(9223372036854775807<((ja t191 x14_1).f0.f0).size+1)=False:=eq_false (Nat.not_lt.2 c13)
        replace H:=bzS H
        obtain ⟨t197,A140,H⟩:=H
        replace H:(if (((ja t191 x14_1).f0.f0) ++ (⟨#[58]⟩:ByteArray)).size+t197.size≤9223372036854775807 then (if ((ja t191 x14_1).f1)=1 then (if x3_1.length<8796093022208 then (jd.l0 k1 (x3_1 ++ [(((ja t191 x14_1).f0.f0) ++ (⟨#[58]⟩:ByteArray)) ++ t197]) t191 (t191.length:Int) (wrap64 (x14_1+1))) else (none)) else ((strconv_Itoa.f ((ja t191 x14_1).f1)).bind fun t201=>(if 1+t201.size≤9223372036854775807 then (if ((((ja t191 x14_1).f0.f0) ++ (⟨#[58]⟩:ByteArray)) ++ t197).size+((⟨#[42]⟩:ByteArray) ++ t201).size≤9223372036854775807 then (if x3_1.length<8796093022208 then (jd.l0 k1 (x3_1 ++ [((((ja t191 x14_1).f0.f0) ++ (⟨#[58]⟩:ByteArray)) ++ t197) ++ ((⟨#[42]⟩:ByteArray) ++ t201)]) t191 (t191.length:Int) (wrap64 (x14_1+1))) else (none)) else (none)) else (none)))) else (none))=some r:=H
        have A14:=am A140
        clear A140
        by_cases c15:(((ja t191 x14_1).f0.f0) ++ (⟨#[58]⟩:ByteArray)).size+t197.size≤9223372036854775807
        ·rw [if_pos c15] at H
         have c15b0:=ezT c15
         have c15b1:decide ((((ja t191 x14_1).f0.f0) ++ (⟨#[58]⟩:ByteArray)).size+t197.size≤9223372036854775807)=true:=dzT c15
         try have c15b2:(9223372036854775807<(((ja t191 x14_1).f0.f0) ++ (⟨#[58]⟩:ByteArray)).size+t197.size)=False:=eq_false (Nat.not_lt.2 c15)
         try have c15s:(9223372036854775807<((ja t191 x14_1).f0.f0).size+1+t197.size)=False:=eq_false (Nat.not_lt.2 (by have h_:=c15;simp only [ByteArray.size_append] at h_;exact h_))
         by_cases c16:((ja t191 x14_1).f1)=1
         ·rw [if_pos c16] at H
          have c16b0:(((ja t191 x14_1).f1) == 1)=true:=beq_iff_eq.mpr c16
          have c16b1:(((ja t191 x14_1).f1) != 1)=false:=bne_eq_false_iff_eq.mpr c16
          clear c16
          by_cases c17:x3_1.length<8796093022208
          ·rw [if_pos c17] at H
           have LMc17:=am c17
           clear c17
           obtain ⟨y198,hy198⟩:∃ y_:List ByteArray,y_=(x3_1 ++ [(((ja t191 x14_1).f0.f0) ++ (⟨#[58]⟩:ByteArray)) ++ t197]):=⟨_,rfl⟩
           replace H:(jd.l0 k1 y198 t191 (t191.length:Int) (wrap64 (x14_1+1)))=some r:=by first |(rw [hy198];with_reducible exact H) |(have H2_:=(Option.bind_some _ _).symm.trans H;rw [hy198];with_reducible exact H2_) |(have H2_:=(Option.bind_some _ _).symm.trans H;with_reducible exact H2_) | with_reducible exact H |(rw [hy198];exact H) | exact H
           have Ny198:=am hy198
           clear hy198
           have H':=am H
           clear H
           have p195:0≤(x14_1:Int):=ozD (uq)
           have q195:x14_1<(t191.length:Int):=ozD (uq)
           obtain ⟨ad195,e195,hx195_0,hx195_1,hx195_2⟩:=jEa (Kd.jk HO_12.out).2.2 x14_1 p195 q195
           cases e195
           replace p195:=ezT p195
           replace q195:=ezT q195
           try go_wp2_with (first |((with_reducible refine jH (N:=5) rfl ?_);refine bE (N:=5) (cs:=#[.string (⟨#[]⟩:ByteArray), .int .i64 0, .int .i64 0]) (t:=42) ?_;intro gb196 hg w18 hbox hb;have BK196:=am (hbox);have GW196:=am ((Y0:w.heap.size≤gb196));have GE196:=am ((Y0:w.heap.size≤gb196));replace HO_3:=am (Kd.jP (rq HO_3.out) hb);replace HO_12:=am (Kd.jP (Kd.R_elderB (rq HO_12.out) gb196 (Nat.le_of_eq hg.symm)) hb);replace HB:=am (jf (bq) hb);clear hb hbox hg;have hcz19_0:=bc0 BK196.out;have hcz19_1:=bc1 BK196.out;have hcz19_2:=bc2 BK196.out;have hfz19_0:=je BK196.out 0;have hfz19_1:=je BK196.out 1;have hfz19_2:=je BK196.out 2))
           have n0_:jA (Kd.R Kd.string 9 (((w18.setCell ⟨gb196,0,none⟩ (.string ((ja t191 x14_1).f0.f0))).setCell ⟨gb196,1,none⟩ (.int .i64 ((ja t191 x14_1).f0.f1))).setCell ⟨gb196,2,none⟩ (.int .i64 ((ja t191 x14_1).f1))) w.heap.size (fun _=>True) u3 x3_1):=⟨by (with_reducible repeat (first | apply Kd.R_alloc | apply Kd.jOa | apply Kd.R_drew));exact Kd.jra (Kd.R_far (p:=⟨gb196,2,none⟩) (Kd.R_far (p:=⟨gb196,1,none⟩) (Kd.R_far (p:=⟨gb196,0,none⟩) (Kd.R_types HO_3.out BK196.out (by decide)) (fun _ hk=>hk.2) (.string ((ja t191 x14_1).f0.f0))) (fun _ hk=>hk.2) (.int .i64 ((ja t191 x14_1).f0.f1))) (fun _ hk=>hk.2) (.int .i64 ((ja t191 x14_1).f1))) (fun _ hk=>trivial)⟩
           have n1_:jA (Kd.R k42 42 (((w18.setCell ⟨gb196,0,none⟩ (.string ((ja t191 x14_1).f0.f0))).setCell ⟨gb196,1,none⟩ (.int .i64 ((ja t191 x14_1).f0.f1))).setCell ⟨gb196,2,none⟩ (.int .i64 ((ja t191 x14_1).f1))) w.heap.size (fun k_=>k_≠gb196) (.slice (some ad195) t191.length co9) t191):=⟨by (with_reducible repeat (first | apply Kd.R_alloc | apply Kd.jOa | apply Kd.R_drew));exact Kd.jra (Kd.R_far (p:=⟨gb196,2,none⟩) (Kd.R_far (p:=⟨gb196,1,none⟩) (Kd.R_far (p:=⟨gb196,0,none⟩) (Kd.jra HO_12.out (fun k_ hk=>(⟨hk,hk.2⟩:_∧k_≠gb196))) (fun _ hk=>hk.2) (.string ((ja t191 x14_1).f0.f0))) (fun _ hk=>hk.2) (.int .i64 ((ja t191 x14_1).f0.f1))) (fun _ hk=>hk.2) (.int .i64 ((ja t191 x14_1).f1))) (fun _ hk=>hk.1.2)⟩
           have n2_:jA ((((w18.setCell ⟨gb196,0,none⟩ (.string ((ja t191 x14_1).f0.f0))).setCell ⟨gb196,1,none⟩ (.int .i64 ((ja t191 x14_1).f0.f1))).setCell ⟨gb196,2,none⟩ (.int .i64 ((ja t191 x14_1).f1))).heap[gb196]?=some (.cells #[.string ((ja t191 x14_1).f0.f0), .int .i64 ((ja t191 x14_1).f0.f1), .int .i64 ((ja t191 x14_1).f1)] 42 (0,0))):=⟨by (with_reducible repeat (first | refine jX ?_ _ | refine jZ ?_ | refine jY ?_ _));refine jKa (cs:=#[.string ((ja t191 x14_1).f0.f0), .int .i64 ((ja t191 x14_1).f0.f1), .int .i64 0]) ?_ 2 _ rfl;(with_reducible repeat (first | refine jX ?_ _ | refine jZ ?_ | refine jY ?_ _));refine jKa (cs:=#[.string ((ja t191 x14_1).f0.f0), .int .i64 0, .int .i64 0]) ?_ 1 _ rfl;(with_reducible repeat (first | refine jX ?_ _ | refine jZ ?_ | refine jY ?_ _));refine jKa (cs:=#[.string (⟨#[]⟩:ByteArray), .int .i64 0, .int .i64 0]) ?_ 0 _ rfl;(with_reducible repeat (first | refine jX ?_ _ | refine jZ ?_ | refine jY ?_ _));exact BK196.out⟩
           have n3_:jA (Below w.heap.size w (((w18.setCell ⟨gb196,0,none⟩ (.string ((ja t191 x14_1).f0.f0))).setCell ⟨gb196,1,none⟩ (.int .i64 ((ja t191 x14_1).f0.f1))).setCell ⟨gb196,2,none⟩ (.int .i64 ((ja t191 x14_1).f1)))):=⟨Y5⟩
           (try clear HO_3)
           (try clear HO_12)
           (try clear BK196)
           (try clear HB)
           generalize (((w18.setCell ⟨gb196,0,none⟩ (.string ((ja t191 x14_1).f0.f0))).setCell ⟨gb196,1,none⟩ (.int .i64 ((ja t191 x14_1).f0.f1))).setCell ⟨gb196,2,none⟩ (.int .i64 ((ja t191 x14_1).f1)))=w20 at n0_ n1_ n2_ n3_ ⊢
           have HO_3:=n0_
           have HO_12:=n1_
           have BK196:=n2_
           have HB:=n3_
           clear n0_ n1_ n2_ n3_
           replace HO_3:=am (Kd.R_drew HO_3.out)
           replace HO_12:=am (Kd.R_drew HO_12.out)
           replace BK196:=am (jZ BK196.out)
           replace HB:=am (jJ HB.out)
           refine start_ (n:=10) (S:=fun w'=>w'.cell? ⟨gb196,0,none⟩=some (.string ((ja t191 x14_1).f0.f0))∧w'.cell? ⟨gb196,1,none⟩=some (.int .i64 ((ja t191 x14_1).f0.f1))∧w'.cell? ⟨gb196,2,none⟩=some (.int .i64 ((ja t191 x14_1).f1))) (ds:=[]) #[false,false,false,false,false,false,false,false,false,false] (by kernel_rfl) rfl rfl ⟨(jna BK196.out 0).trans rfl,(jna BK196.out 1).trans rfl,(jna BK196.out 2).trans rfl⟩ (fun hHeld=>?_);refine with_tabW jd.tab7 jd.bits7 (fun HT_ HW_=>?_)
           generalize w20.drew=w21 at HO_3 HO_12 BK196 HB hHeld ⊢
           refine pq (i:=0) (N:=some 18) #[true,false,false,false,false,false,false,false,false,false] ?_
           refine pq (i:=1) (N:=some 19) #[true,true,false,false,false,false,false,false,false,false] ?_
           refine pq (i:=4) (N:=some 22) #[true,true,false,false,true,false,false,false,false,false] ?_
           refine pq (i:=5) (N:=some 23) #[true,true,false,false,true,true,false,false,false,false] ?_
           refine take_ (i:=2) (N:=some 20) (v:=?_) (a':=?_) #[true,true,true,false,true,true,false,false,false,false] rfl rfl (jHa HT_.out HW_.out (by kernel_rfl)) (fun _ _ _ h=>h) (Or.inl ⟨by rfl,?_⟩) hHeld ?_ ?_
           rotate_left
           ·rintro w' ⟨s0,s1,s2⟩
            go_simp
            with_reducible rfl
           rotate_left
           ·exact sa
           refine pq (i:=3) (N:=some 21) #[true,true,true,true,true,true,false,false,false,false] ?_
           refine take_ (i:=6) (N:=some 24) (v:=?_) (a':=?_) #[true,true,true,true,true,true,true,false,false,false] rfl rfl (jHa HT_.out HW_.out (by kernel_rfl)) (fun _ _ _ h=>h) (Or.inl ⟨by rfl,?_⟩) hHeld ?_ ?_
           rotate_left
           ·rintro w' ⟨s0,s1,s2⟩
            go_simp
            with_reducible rfl
           rotate_left
           ·exact sa
           refine one_ (i:=7) (N:=some 25) #[true,true,true,true,true,true,true,true,false,false] rfl rfl (one_of HT_.out (by kernel_rfl)) (by decide) (fun K hK=>?_)
           refine goes_ Tryd.func18 (by kernel_rfl) rfl #[.int .i64 ((ja t191 x14_1).f0.f1)] (by rfl) rfl rfl (aq) ?_
           with_reducible refine (strconv_Itoa.calls ((ja t191 x14_1).f0.f1) t197 _ A14.out (HT.out _ (Y5))).mono ?_
           rintro e w22 ⟨rfl,hb⟩
           refine ⟨_,rfl,?_⟩
           replace HO_3:=am (Kd.jP (rq HO_3.out) hb)
           replace HO_12:=am (Kd.jP (rq HO_12.out) hb)
           replace BK196:=am (jta (g:=gb196) (o:=.cells #[.string ((ja t191 x14_1).f0.f0), .int .i64 ((ja t191 x14_1).f0.f1), .int .i64 ((ja t191 x14_1).f1)] 42 (0,0)) (kq BK196.out) hb)
           replace HB:=am (jf (Y5) hb)
           (try clear hb)
           (try clear hb2)
           (try clear hk)
           (try clear hi)
           refine hK.out _ _ ⟨(jna BK196.out 0).trans rfl,(jna BK196.out 1).trans rfl,(jna BK196.out 2).trans rfl⟩ (fun hHeld=>?_)
           clear hK K
           refine norm_ (a':=?_) ?_ ?_
           rotate_left
           ·show Act.put _ (some 25) _=_
            simp only [Act.put,List.setIfInBounds_toArray,List.set_cons_zero,List.set_cons_succ,i64_w,i32_w]
            rfl
           refine pq (i:=8) (N:=some 26) #[true,true,true,true,true,true,true,true,true,false] ?_
           refine pq (i:=9) (N:=some 6) #[true,true,true,true,true,true,true,true,true,true] ?_
           refine done_ (done_of HT_.out (by kernel_rfl)) ?_
           have hcz23_0:=bc0 BK196.out
           have hcz23_1:=bc1 BK196.out
           have hcz23_2:=bc2 BK196.out
           have hfz23_0:=je BK196.out 0
           have hfz23_1:=je BK196.out 1
           have hfz23_2:=je BK196.out 2
           try go_wp2_with (first |((with_reducible refine jO (b:=.append) (xs:=#[.tmp 36, .tmp 38]) rfl ?_);at_builtin;refine Kd.jha Kd.string (w0:=w) w.heap.size rfl (.tmp 36) (.tmp 38) 40 9 (.string ⟨#[]⟩) 16 rfl Tryd.underlying40 info9 rfl (by decide) (by omega) u3 x3_1 ((((ja t191 x14_1).f0.f0) ++ (⟨#[58]⟩:ByteArray)) ++ t197) [.string ((((ja t191 x14_1).f0.f0) ++ (⟨#[58]⟩:ByteArray)) ++ t197)] (fun _=>True) (fun _=>False) rfl rfl ?aP (fun _ hk=>hk.elim) ?aF ?aO ?aB ?aS ?aL ?_;(case aP=>exact rfl);(case aB=>exact (Y5));(case aF=>exact (fun _ _=>trivial));(case aO=>exact (rq HO_3.out));(case aS=>exact (jm (Y5)));(case aL=>have:=LMc17.out;omega);intro v199 w24 ho hb hg hat;rw [← Ny198.out] at ho;have n0_:=am (Kd.R_over' (rq HO_12.out) (Kd.R_typed (rq HO_3.out)) (by decide) hg);have n1_:=am (jfa (g:=gb196) (o:=.cells #[.string ((ja t191 x14_1).f0.f0), .int .i64 ((ja t191 x14_1).f0.f1), .int .i64 ((ja t191 x14_1).f1)] 42 (0,0)) (kq BK196.out) hg (Kd.R_ne HO_3.out BK196.out (by decide)));have n2_:=am (hb);have n3_:=am (ho);clear HO_12 BK196 HB HO_3;have HO_12:=n0_;have BK196:=n1_;have HB:=n2_;have HO200:=n3_;clear n0_ n1_ n2_ n3_ ho hb hg hat))
           go_roundg k1
           case measure=>have:=HK1.out;omega
           case rel=>exact ⟨(y198),(wrap64 (x14_1+1)),(sq),H',⟨by have:=HK1.out;omega⟩,⟨rq HO200.out⟩,⟨by (with_reducible repeat (first | apply Kd.R_alloc | apply Kd.jOa | apply Kd.R_drew));exact Kd.jra HO_12.out (fun _ hk=>trivial)⟩,⟨Y5⟩⟩
          ·rw [if_neg c17] at H
           exact absurd H (by simp)
         ·rw [if_neg c16] at H
          have c16b0:(((ja t191 x14_1).f1) == 1)=false:=beq_eq_false_iff_ne.mpr c16
          have c16b1:(((ja t191 x14_1).f1) != 1)=true:=bne_iff_ne.mpr c16
          replace H:=bzS H
          obtain ⟨t201,A250,H⟩:=H
          replace H:(if 1+t201.size≤9223372036854775807 then (if ((((ja t191 x14_1).f0.f0) ++ (⟨#[58]⟩:ByteArray)) ++ t197).size+((⟨#[42]⟩:ByteArray) ++ t201).size≤9223372036854775807 then (if x3_1.length<8796093022208 then (jd.l0 k1 (x3_1 ++ [((((ja t191 x14_1).f0.f0) ++ (⟨#[58]⟩:ByteArray)) ++ t197) ++ ((⟨#[42]⟩:ByteArray) ++ t201)]) t191 (t191.length:Int) (wrap64 (x14_1+1))) else (none)) else (none)) else (none))=some r:=H
          have A25:=am A250
          clear A250
          by_cases c26:1+t201.size≤9223372036854775807
          ·rw [if_pos c26] at H
           have c26b0:=ezT c26
           have c26b1:decide (1+t201.size≤9223372036854775807)=true:=dzT c26
           try have c26b2:(9223372036854775807<1+t201.size)=False:=eq_false (Nat.not_lt.2 c26)
           by_cases c27:((((ja t191 x14_1).f0.f0) ++ (⟨#[58]⟩:ByteArray)) ++ t197).size+((⟨#[42]⟩:ByteArray) ++ t201).size≤9223372036854775807
           ·rw [if_pos c27] at H
            have c27b0:=ezT c27
            have c27b1:decide (((((ja t191 x14_1).f0.f0) ++ (⟨#[58]⟩:ByteArray)) ++ t197).size+((⟨#[42]⟩:ByteArray) ++ t201).size≤9223372036854775807)=true:=dzT c27
            try have c27b2:(9223372036854775807<((((ja t191 x14_1).f0.f0) ++ (⟨#[58]⟩:ByteArray)) ++ t197).size+((⟨#[42]⟩:ByteArray) ++ t201).size)=False:=eq_false (Nat.not_lt.2 c27)
            try have c27s:(9223372036854775807<((ja t191 x14_1).f0.f0).size+1+t197.size+1+t201.size)=False:=eq_false (Nat.not_lt.2 (by have h_:=c27;simp only [ByteArray.size_append] at h_;exact h_))
            by_cases c28:x3_1.length<8796093022208
            ·rw [if_pos c28] at H
             have LMc28:=am c28
             clear c28
             obtain ⟨y202,hy202⟩:∃ y_:List ByteArray,y_=(x3_1 ++ [((((ja t191 x14_1).f0.f0) ++ (⟨#[58]⟩:ByteArray)) ++ t197) ++ ((⟨#[42]⟩:ByteArray) ++ t201)]):=⟨_,rfl⟩
             replace H:(jd.l0 k1 y202 t191 (t191.length:Int) (wrap64 (x14_1+1)))=some r:=by first |(rw [hy202];with_reducible exact H) |(have H2_:=(Option.bind_some _ _).symm.trans H;rw [hy202];with_reducible exact H2_) |(have H2_:=(Option.bind_some _ _).symm.trans H;with_reducible exact H2_) | with_reducible exact H |(rw [hy202];exact H) | exact H
             have Ny202:=am hy202
             clear hy202
             have H':=am H
             clear H
             have p195:0≤(x14_1:Int):=ozD (uq)
             have q195:x14_1<(t191.length:Int):=ozD (uq)
             obtain ⟨ad195,e195,hx195_0,hx195_1,hx195_2⟩:=jEa (Kd.jk HO_12.out).2.2 x14_1 p195 q195
             cases e195
             replace p195:=ezT p195
             replace q195:=ezT q195
             try go_wp2_with (first |((with_reducible refine jH (N:=5) rfl ?_);refine bE (N:=5) (cs:=#[.string (⟨#[]⟩:ByteArray), .int .i64 0, .int .i64 0]) (t:=42) ?_;intro gb196 hg w29 hbox hb;have BK196:=am (hbox);have GW196:=am ((Y0:w.heap.size≤gb196));have GE196:=am ((Y0:w.heap.size≤gb196));replace HO_3:=am (Kd.jP (rq HO_3.out) hb);replace HO_12:=am (Kd.jP (Kd.R_elderB (rq HO_12.out) gb196 (Nat.le_of_eq hg.symm)) hb);replace HB:=am (jf (bq) hb);clear hb hbox hg;have hcz30_0:=bc0 BK196.out;have hcz30_1:=bc1 BK196.out;have hcz30_2:=bc2 BK196.out;have hfz30_0:=je BK196.out 0;have hfz30_1:=je BK196.out 1;have hfz30_2:=je BK196.out 2))
             have n0_:jA (Kd.R Kd.string 9 (((w29.setCell ⟨gb196,0,none⟩ (.string ((ja t191 x14_1).f0.f0))).setCell ⟨gb196,1,none⟩ (.int .i64 ((ja t191 x14_1).f0.f1))).setCell ⟨gb196,2,none⟩ (.int .i64 ((ja t191 x14_1).f1))) w.heap.size (fun _=>True) u3 x3_1):=⟨by (with_reducible repeat (first | apply Kd.R_alloc | apply Kd.jOa | apply Kd.R_drew));exact Kd.jra (Kd.R_far (p:=⟨gb196,2,none⟩) (Kd.R_far (p:=⟨gb196,1,none⟩) (Kd.R_far (p:=⟨gb196,0,none⟩) (Kd.R_types HO_3.out BK196.out (by decide)) (fun _ hk=>hk.2) (.string ((ja t191 x14_1).f0.f0))) (fun _ hk=>hk.2) (.int .i64 ((ja t191 x14_1).f0.f1))) (fun _ hk=>hk.2) (.int .i64 ((ja t191 x14_1).f1))) (fun _ hk=>trivial)⟩
             have n1_:jA (Kd.R k42 42 (((w29.setCell ⟨gb196,0,none⟩ (.string ((ja t191 x14_1).f0.f0))).setCell ⟨gb196,1,none⟩ (.int .i64 ((ja t191 x14_1).f0.f1))).setCell ⟨gb196,2,none⟩ (.int .i64 ((ja t191 x14_1).f1))) w.heap.size (fun k_=>k_≠gb196) (.slice (some ad195) t191.length co9) t191):=⟨by (with_reducible repeat (first | apply Kd.R_alloc | apply Kd.jOa | apply Kd.R_drew));exact Kd.jra (Kd.R_far (p:=⟨gb196,2,none⟩) (Kd.R_far (p:=⟨gb196,1,none⟩) (Kd.R_far (p:=⟨gb196,0,none⟩) (Kd.jra HO_12.out (fun k_ hk=>(⟨hk,hk.2⟩:_∧k_≠gb196))) (fun _ hk=>hk.2) (.string ((ja t191 x14_1).f0.f0))) (fun _ hk=>hk.2) (.int .i64 ((ja t191 x14_1).f0.f1))) (fun _ hk=>hk.2) (.int .i64 ((ja t191 x14_1).f1))) (fun _ hk=>hk.1.2)⟩
             have n2_:jA ((((w29.setCell ⟨gb196,0,none⟩ (.string ((ja t191 x14_1).f0.f0))).setCell ⟨gb196,1,none⟩ (.int .i64 ((ja t191 x14_1).f0.f1))).setCell ⟨gb196,2,none⟩ (.int .i64 ((ja t191 x14_1).f1))).heap[gb196]?=some (.cells #[.string ((ja t191 x14_1).f0.f0), .int .i64 ((ja t191 x14_1).f0.f1), .int .i64 ((ja t191 x14_1).f1)] 42 (0,0))):=⟨by (with_reducible repeat (first | refine jX ?_ _ | refine jZ ?_ | refine jY ?_ _));refine jKa (cs:=#[.string ((ja t191 x14_1).f0.f0), .int .i64 ((ja t191 x14_1).f0.f1), .int .i64 0]) ?_ 2 _ rfl;(with_reducible repeat (first | refine jX ?_ _ | refine jZ ?_ | refine jY ?_ _));refine jKa (cs:=#[.string ((ja t191 x14_1).f0.f0), .int .i64 0, .int .i64 0]) ?_ 1 _ rfl;(with_reducible repeat (first | refine jX ?_ _ | refine jZ ?_ | refine jY ?_ _));refine jKa (cs:=#[.string (⟨#[]⟩:ByteArray), .int .i64 0, .int .i64 0]) ?_ 0 _ rfl;(with_reducible repeat (first | refine jX ?_ _ | refine jZ ?_ | refine jY ?_ _));exact BK196.out⟩
             have n3_:jA (Below w.heap.size w (((w29.setCell ⟨gb196,0,none⟩ (.string ((ja t191 x14_1).f0.f0))).setCell ⟨gb196,1,none⟩ (.int .i64 ((ja t191 x14_1).f0.f1))).setCell ⟨gb196,2,none⟩ (.int .i64 ((ja t191 x14_1).f1)))):=⟨Y5⟩
             (try clear HO_3)
             (try clear HO_12)
             (try clear BK196)
             (try clear HB)
             generalize (((w29.setCell ⟨gb196,0,none⟩ (.string ((ja t191 x14_1).f0.f0))).setCell ⟨gb196,1,none⟩ (.int .i64 ((ja t191 x14_1).f0.f1))).setCell ⟨gb196,2,none⟩ (.int .i64 ((ja t191 x14_1).f1)))=w31 at n0_ n1_ n2_ n3_ ⊢
             have HO_3:=n0_
             have HO_12:=n1_
             have BK196:=n2_
             have HB:=n3_
             clear n0_ n1_ n2_ n3_
             replace HO_3:=am (Kd.R_drew HO_3.out)
             replace HO_12:=am (Kd.R_drew HO_12.out)
             replace BK196:=am (jZ BK196.out)
             replace HB:=am (jJ HB.out)
             refine start_ (n:=10) (S:=fun w'=>w'.cell? ⟨gb196,0,none⟩=some (.string ((ja t191 x14_1).f0.f0))∧w'.cell? ⟨gb196,1,none⟩=some (.int .i64 ((ja t191 x14_1).f0.f1))∧w'.cell? ⟨gb196,2,none⟩=some (.int .i64 ((ja t191 x14_1).f1))) (ds:=[]) #[false,false,false,false,false,false,false,false,false,false] (by kernel_rfl) rfl rfl ⟨(jna BK196.out 0).trans rfl,(jna BK196.out 1).trans rfl,(jna BK196.out 2).trans rfl⟩ (fun hHeld=>?_);refine with_tabW jd.tab7 jd.bits7 (fun HT_ HW_=>?_)
             generalize w31.drew=w32 at HO_3 HO_12 BK196 HB hHeld ⊢
             refine pq (i:=0) (N:=some 18) #[true,false,false,false,false,false,false,false,false,false] ?_
             refine pq (i:=1) (N:=some 19) #[true,true,false,false,false,false,false,false,false,false] ?_
             refine pq (i:=4) (N:=some 22) #[true,true,false,false,true,false,false,false,false,false] ?_
             refine pq (i:=5) (N:=some 23) #[true,true,false,false,true,true,false,false,false,false] ?_
             refine take_ (i:=2) (N:=some 20) (v:=?_) (a':=?_) #[true,true,true,false,true,true,false,false,false,false] rfl rfl (jHa HT_.out HW_.out (by kernel_rfl)) (fun _ _ _ h=>h) (Or.inl ⟨by rfl,?_⟩) hHeld ?_ ?_
             rotate_left
             ·rintro w' ⟨s0,s1,s2⟩
              go_simp
              with_reducible rfl
             rotate_left
             ·exact sa
             refine pq (i:=3) (N:=some 21) #[true,true,true,true,true,true,false,false,false,false] ?_
             refine take_ (i:=6) (N:=some 24) (v:=?_) (a':=?_) #[true,true,true,true,true,true,true,false,false,false] rfl rfl (jHa HT_.out HW_.out (by kernel_rfl)) (fun _ _ _ h=>h) (Or.inl ⟨by rfl,?_⟩) hHeld ?_ ?_
             rotate_left
             ·rintro w' ⟨s0,s1,s2⟩
              go_simp
              with_reducible rfl
             rotate_left
             ·exact sa
             refine one_ (i:=7) (N:=some 25) #[true,true,true,true,true,true,true,true,false,false] rfl rfl (one_of HT_.out (by kernel_rfl)) (by decide) (fun K hK=>?_)
             refine goes_ Tryd.func18 (by kernel_rfl) rfl #[.int .i64 ((ja t191 x14_1).f0.f1)] (by rfl) rfl rfl (aq) ?_
             with_reducible refine (strconv_Itoa.calls ((ja t191 x14_1).f0.f1) t197 _ A14.out (HT.out _ (Y5))).mono ?_
             rintro e w33 ⟨rfl,hb⟩
             refine ⟨_,rfl,?_⟩
             replace HO_3:=am (Kd.jP (rq HO_3.out) hb)
             replace HO_12:=am (Kd.jP (rq HO_12.out) hb)
             replace BK196:=am (jta (g:=gb196) (o:=.cells #[.string ((ja t191 x14_1).f0.f0), .int .i64 ((ja t191 x14_1).f0.f1), .int .i64 ((ja t191 x14_1).f1)] 42 (0,0)) (kq BK196.out) hb)
             replace HB:=am (jf (Y5) hb)
             (try clear hb)
             (try clear hb2)
             (try clear hk)
             (try clear hi)
             refine hK.out _ _ ⟨(jna BK196.out 0).trans rfl,(jna BK196.out 1).trans rfl,(jna BK196.out 2).trans rfl⟩ (fun hHeld=>?_)
             clear hK K
             refine norm_ (a':=?_) ?_ ?_
             rotate_left
             ·show Act.put _ (some 25) _=_
              simp only [Act.put,List.setIfInBounds_toArray,List.set_cons_zero,List.set_cons_succ,i64_w,i32_w]
              rfl
             refine pq (i:=8) (N:=some 26) #[true,true,true,true,true,true,true,true,true,false] ?_
             refine pq (i:=9) (N:=some 6) #[true,true,true,true,true,true,true,true,true,true] ?_
             refine done_ (done_of HT_.out (by kernel_rfl)) ?_
             have hcz34_0:=bc0 BK196.out
             have hcz34_1:=bc1 BK196.out
             have hcz34_2:=bc2 BK196.out
             have hfz34_0:=je BK196.out 0
             have hfz34_1:=je BK196.out 1
             have hfz34_2:=je BK196.out 2
             try go_wp2_with (first |((with_reducible refine jo (f:=18) rfl ?_);refine gL (some 33) Tryd.func18 #[.int .i64 ((ja t191 x14_1).f1)] ?_;(with_reducible refine (strconv_Itoa.calls ((ja t191 x14_1).f1) t201 _ A25.out (HT.out _ (Y5))).mono ?_);rintro e w35 ⟨rfl,hb⟩;refine ⟨_,rfl,?_⟩;replace HO_3:=am (Kd.jP (rq HO_3.out) hb);replace HO_12:=am (Kd.jP (rq HO_12.out) hb);replace BK196:=am (jta (g:=gb196) (o:=.cells #[.string ((ja t191 x14_1).f0.f0), .int .i64 ((ja t191 x14_1).f0.f1), .int .i64 ((ja t191 x14_1).f1)] 42 (0,0)) (kq BK196.out) hb);replace HB:=am (jf (Y5) hb);(try clear hb);(try clear hb2);(try clear hk);(try clear hi)) |((with_reducible refine jO (b:=.append) (xs:=#[.tmp 36, .tmp 38]) rfl ?_);at_builtin;refine Kd.jha Kd.string (w0:=w) w.heap.size rfl (.tmp 36) (.tmp 38) 40 9 (.string ⟨#[]⟩) 16 rfl Tryd.underlying40 info9 rfl (by decide) (by omega) u3 x3_1 (((((ja t191 x14_1).f0.f0) ++ (⟨#[58]⟩:ByteArray)) ++ t197) ++ ((⟨#[42]⟩:ByteArray) ++ t201)) [.string (((((ja t191 x14_1).f0.f0) ++ (⟨#[58]⟩:ByteArray)) ++ t197) ++ ((⟨#[42]⟩:ByteArray) ++ t201))] (fun _=>True) (fun _=>False) rfl rfl ?aP (fun _ hk=>hk.elim) ?aF ?aO ?aB ?aS ?aL ?_;(case aP=>exact rfl);(case aB=>exact (Y5));(case aF=>exact (fun _ _=>trivial));(case aO=>exact (rq HO_3.out));(case aS=>exact (jm (Y5)));(case aL=>have:=LMc28.out;omega);intro v203 w36 ho hb hg hat;rw [← Ny202.out] at ho;have n0_:=am (Kd.R_over' (rq HO_12.out) (Kd.R_typed (rq HO_3.out)) (by decide) hg);have n1_:=am (jfa (g:=gb196) (o:=.cells #[.string ((ja t191 x14_1).f0.f0), .int .i64 ((ja t191 x14_1).f0.f1), .int .i64 ((ja t191 x14_1).f1)] 42 (0,0)) (kq BK196.out) hg (Kd.R_ne HO_3.out BK196.out (by decide)));have n2_:=am (hb);have n3_:=am (ho);clear HO_12 BK196 HB HO_3;have HO_12:=n0_;have BK196:=n1_;have HB:=n2_;have HO204:=n3_;clear n0_ n1_ n2_ n3_ ho hb hg hat))
             go_roundg k1
             case measure=>have:=HK1.out;omega
             case rel=>exact ⟨(y202),(wrap64 (x14_1+1)),(sq),H',⟨by have:=HK1.out;omega⟩,⟨rq HO204.out⟩,⟨by (with_reducible repeat (first | apply Kd.R_alloc | apply Kd.jOa | apply Kd.R_drew));exact Kd.jra HO_12.out (fun _ hk=>trivial)⟩,⟨Y5⟩⟩
            ·rw [if_neg c28] at H
             exact absurd H (by simp)
           ·rw [if_neg c27] at H
            exact absurd H (by simp)
          ·rw [if_neg c26] at H
           exact absurd H (by simp)
        ·rw [if_neg c15] at H
         exact absurd H (by simp)
       ·rw [if_neg c13] at H
        exact absurd H (by simp)
      ·rw [if_neg c12] at H
       exact absurd H (by simp)
     ·rw [if_neg c11] at H
      exact absurd H (by simp)
    ·rw [if_neg c10] at H
     have c10b0:decide (x14_1<(t191.length:Int))=false:=dzF c10
     clear c10
     replace H:=bzS H
     obtain ⟨t194,A370,H⟩:=H
     replace H:(some t194)=some r:=H
     have A37:=am A370
     clear A370
     obtain rfl:=Option.some.inj H
     obtain ⟨Ao38,co38,eo38⟩:=Kd.joa HO_3.out
     subst eo38
     go_wp2_with (first |((with_reducible refine jo (f:=19) rfl ?_);refine gL (some 42) Tryd.func19 #[.slice Ao38 x3_1.length co38, .string (⟨#[32]⟩:ByteArray)] ?_;(with_reducible refine (strings_Join.calls _ _ x3_1 (⟨#[32]⟩:ByteArray) t194 _ ?side1 ?side2 A37.out (join_at (rq HO_3.out))).mono ?_);(case side1=>exact cq (Kd.jk HO_3.out).2.2);(case side2=>exact (Kd.jk HO_3.out).2.1);rintro e w39 ⟨rfl,hb⟩;refine ⟨_,rfl,?_⟩;replace HO_3:=am (Kd.jP (rq HO_3.out) hb);replace HO_12:=am (Kd.jP (rq HO_12.out) hb);replace HB:=am (jf (bq) hb);(try clear hb);(try clear hb2);(try clear hk);(try clear hi)))
     go_ret
     exact ⟨Y1,bq⟩
 ·replace c3:=Bool.eq_false_iff.mpr c3
  subst c3
  have H1:(some (⟨#[]⟩:ByteArray))=some r:=by rw [if_neg (show ¬ (false=true) by decide)] at H;exact H
  clear H
  have H:=H1
  clear H1
  obtain rfl:=Option.some.inj H
  go_enter Tryd.func8,Tryd.ntmps8
  go_wp2_with (first |((with_reducible refine jo (f:=11) rfl ?_);refine gL (some 8) Tryd.func11 #[.slice A0 l0.length c0] ?_;(with_reducible refine (jU.calls k _ _ l0 false _ ?side1 ?side2 A2.out).mono ?_);(case side1=>exact Y6);(case side2=>exact HC0.out);rintro e w40 ⟨rfl,hb⟩;refine ⟨_,rfl,?_⟩;replace HB:=am (jf (bq) hb);(try clear hb);(try clear hb2);(try clear hk);(try clear hi)))
  go_ret
  exact ⟨Y1,bq⟩
def jpa.f (a0_0 : ByteArray) (a0_1 : Int) (a1_0 : ByteArray) (a1_1 : Int) : Option (Bool) := if a0_0.toList = a1_0.toList then (if a0_1 = a1_1 then (some true) else (some false)) else (some false)
set_option maxHeartbeats 8000000 in
set_option maxRecDepth 100000 in
theorem jpa.calls (a0_0 : ByteArray) (a0_1 : Int) (a1_0 : ByteArray) (a1_1 : Int) (r : Bool) (w : World) (h : jpa.f a0_0 a0_1 a1_0 a1_1 = some r) :
  Calls Tryd.prog 20 #[.agg #[.string a0_0, .int .i64 a0_1], .agg #[.string a1_0, .int .i64 a1_1]] w fun e w'=>e=.returned (.bool r)∧Below w.heap.size w w':=by
 have hu38:=Tryd.underlying38
 have HB:=am (Below.refl w.heap.size w)
 have H:(if a0_0.toList=a1_0.toList then (if a0_1=a1_1 then (some true) else (some false)) else (some false))=some r:=h
 clear h
 by_cases c3:a0_0.toList=a1_0.toList
 ·rw [if_pos c3] at H
  have c3b0:(a0_0.toList == a1_0.toList)=true:=beq_iff_eq.mpr c3
  have c3b1:(a0_0.toList != a1_0.toList)=false:=bne_eq_false_iff_eq.mpr c3
  clear c3
  by_cases c4:a0_1=a1_1
  ·rw [if_pos c4] at H
   have c4b0:(a0_1 == a1_1)=true:=beq_iff_eq.mpr c4
   have c4b1:(a0_1 != a1_1)=false:=bne_eq_false_iff_eq.mpr c4
   clear c4
   obtain rfl:=Option.some.inj H
   go_enter Tryd.func20,Tryd.ntmps20
   go_wp2_with (first |((with_reducible refine jH (N:=2) rfl ?_);refine bE (N:=2) (cs:=#[.string a0_0, .int .i64 a0_1]) (t:=38) ?_;intro gb205 hg w5 hbox hb;have BK205:=am (hbox);have GW205:=am ((Y0:w.heap.size≤gb205));have GE205:=am ((Y0:w.heap.size≤gb205));replace HB:=am (jf (bq) hb);clear hb hbox hg) |((with_reducible refine jH (N:=3) rfl ?_);refine bE (N:=3) (cs:=#[.string a1_0, .int .i64 a1_1]) (t:=38) ?_;intro gb206 hg w6 hbox hb;have BK206:=am (hbox);have GW206:=am ((Y11:w.heap.size≤gb206));have GE206:=am ((Y11:w.heap.size≤gb206));have NB205_206:=am ((Y13:gb205≠gb206));have NB206_205:=am ((Y14:gb206≠gb205));replace BK205:=am (jta (g:=gb205) (o:=.cells #[.string a0_0, .int .i64 a0_1] 38 (0,0)) (kq BK205.out) hb);replace HB:=am (jf (Y15) hb);clear hb hbox hg;have hnb7:=NB205_206.out;have hnc7:=NB206_205.out;have hcz8_0:=bc0 BK205.out;have hcz8_1:=bc1 BK205.out;have hfz8_0:=je BK205.out 0;have hfz8_1:=je BK205.out 1;have hcz9_0:=bc0 BK206.out;have hcz9_1:=bc1 BK206.out;have hfz9_0:=je BK206.out 0;have hfz9_1:=je BK206.out 1))
   go_ret
   exact ⟨Y1,Y16⟩
  ·rw [if_neg c4] at H
   have c4b0:(a0_1 == a1_1)=false:=beq_eq_false_iff_ne.mpr c4
   have c4b1:(a0_1 != a1_1)=true:=bne_iff_ne.mpr c4
   obtain rfl:=Option.some.inj H
   go_enter Tryd.func20,Tryd.ntmps20
   go_wp2_with (first |((with_reducible refine jH (N:=2) rfl ?_);refine bE (N:=2) (cs:=#[.string a0_0, .int .i64 a0_1]) (t:=38) ?_;intro gb205 hg w10 hbox hb;have BK205:=am (hbox);have GW205:=am ((Y0:w.heap.size≤gb205));have GE205:=am ((Y0:w.heap.size≤gb205));replace HB:=am (jf (bq) hb);clear hb hbox hg) |((with_reducible refine jH (N:=3) rfl ?_);refine bE (N:=3) (cs:=#[.string a1_0, .int .i64 a1_1]) (t:=38) ?_;intro gb206 hg w11 hbox hb;have BK206:=am (hbox);have GW206:=am ((Y11:w.heap.size≤gb206));have GE206:=am ((Y11:w.heap.size≤gb206));have NB205_206:=am ((Y13:gb205≠gb206));have NB206_205:=am ((Y14:gb206≠gb205));replace BK205:=am (jta (g:=gb205) (o:=.cells #[.string a0_0, .int .i64 a0_1] 38 (0,0)) (kq BK205.out) hb);replace HB:=am (jf (Y15) hb);clear hb hbox hg;have hnb12:=NB205_206.out;have hnc12:=NB206_205.out;have hcz13_0:=bc0 BK205.out;have hcz13_1:=bc1 BK205.out;have hfz13_0:=je BK205.out 0;have hfz13_1:=je BK205.out 1;have hcz14_0:=bc0 BK206.out;have hcz14_1:=bc1 BK206.out;have hfz14_0:=je BK206.out 0;have hfz14_1:=je BK206.out 1))
   go_ret
   exact ⟨Y1,Y16⟩
 ·rw [if_neg c3] at H
  have c3b0:(a0_0.toList == a1_0.toList)=false:=beq_eq_false_iff_ne.mpr c3
  have c3b1:(a0_0.toList != a1_0.toList)=true:=bne_iff_ne.mpr c3
  obtain rfl:=Option.some.inj H
  go_enter Tryd.func20,Tryd.ntmps20
  go_wp2_with (first |((with_reducible refine jH (N:=2) rfl ?_);refine bE (N:=2) (cs:=#[.string a0_0, .int .i64 a0_1]) (t:=38) ?_;intro gb205 hg w15 hbox hb;have BK205:=am (hbox);have GW205:=am ((Y0:w.heap.size≤gb205));have GE205:=am ((Y0:w.heap.size≤gb205));replace HB:=am (jf (bq) hb);clear hb hbox hg) |((with_reducible refine jH (N:=3) rfl ?_);refine bE (N:=3) (cs:=#[.string a1_0, .int .i64 a1_1]) (t:=38) ?_;intro gb206 hg w16 hbox hb;have BK206:=am (hbox);have GW206:=am ((Y11:w.heap.size≤gb206));have GE206:=am ((Y11:w.heap.size≤gb206));have NB205_206:=am ((Y13:gb205≠gb206));have NB206_205:=am ((Y14:gb206≠gb205));replace BK205:=am (jta (g:=gb205) (o:=.cells #[.string a0_0, .int .i64 a0_1] 38 (0,0)) (kq BK205.out) hb);replace HB:=am (jf (Y15) hb);clear hb hbox hg;have hnb17:=NB205_206.out;have hnc17:=NB206_205.out;have hcz18_0:=bc0 BK205.out;have hcz18_1:=bc1 BK205.out;have hfz18_0:=je BK205.out 0;have hfz18_1:=je BK205.out 1;have hcz19_0:=bc0 BK206.out;have hcz19_1:=bc1 BK206.out;have hfz19_0:=je BK206.out 0;have hfz19_1:=je BK206.out 1))
  go_ret
  exact ⟨Y1,Y16⟩
def jh.l0 : Nat → List (S38) → List (S38) → Int → Option (Bool)
 | 0,_,_,_=>none
 | k+1,x0,x1,x5=>if x5<(x0.length:Int) then (if 0≤x5 then (if x5<(x1.length:Int) then ((jpa.f ((jb x0 x5).f0) ((jb x0 x5).f1) ((jb x1 x5).f0) ((jb x1 x5).f1)).bind fun t209=>(if t209=true then (jh.l0 k x0 x1 (wrap64 (x5+1))) else (some false))) else (none)) else (none)) else (some true)
def jh.f (k : Nat) (l0 : List (S38)) (l1 : List (S38)) : Option (Bool) := if (l0.length : Int) = (l1.length : Int) then (jh.l0 k l0 l1 0) else (some false)
def jh.T6 : Bool × List (List Nat × List Nat) := (true, [([], []), ([], []), ([0, 1], [0, 1]), ([2], [2]), ([], []), ([], []), ([4, 5], [4, 5]), ([6], [6]), ([3, 7], [3, 7]), ([8], [8])])
def jh.B6 : List Nat := [0, 0, 3, 7, 0, 0, 48, 112, 255, 511]
theorem jh.tab6 : rtab .any (opsOf Tryd.f9 6) = jh.T6 := by kernel_rfl
theorem jh.bits6 : waitsOk jh.T6.2 jh.B6 = true := by kernel_rfl
set_option maxHeartbeats 8000000 in
set_option maxRecDepth 100000 in
theorem jh.calls (k : Nat) (A0 : Option Addr) (c0 : Nat) (l0 : List (S38)) (A1 : Option Addr) (c1 : Nat) (l1 : List (S38)) (r : Bool) (w : World) (hr0 : Kd.C k38 w A0 l0.length l0) (hc0 : l0.length ≤ c0) (hr1 : Kd.C k38 w A1 l1.length l1) (hc1 : l1.length ≤ c1) (h : jh.f k l0 l1 = some r) :
  Calls Tryd.prog 9 #[.slice A0 l0.length c0, .slice A1 l1.length c1] w fun e w'=>e=.returned (.bool r)∧Below w.heap.size w w':=by
 have hu38:=Tryd.underlying38
 have HR0:=am hr0
 have HC0:=am hc0
 clear hr0 hc0
 have HR1:=am hr1
 have HC1:=am hc1
 clear hr1 hc1
 have HB:=am (Below.refl w.heap.size w)
 have H:(if (l0.length:Int)=(l1.length:Int) then (jh.l0 k l0 l1 0) else (some false))=some r:=h
 clear h
 by_cases c3:(l0.length:Int)=(l1.length:Int)
 ·rw [if_pos c3] at H
  have c3b0:((l0.length:Int) == (l1.length:Int))=true:=beq_iff_eq.mpr c3
  have c3b1:((l0.length:Int) != (l1.length:Int))=false:=bne_eq_false_iff_eq.mpr c3
  have c3b2:(l0.length == l1.length)=true:=by first | simpa using c3 |(simp at c3 ⊢;omega)
  clear c3
  have H':=am H
  clear H
  go_enter Tryd.func9,Tryd.ntmps9
  go_wp2
  go_loopg [5] k (fun kq v5 w'=>∃ (x5_1:Int),v5=.int .i64 x5_1∧jA (jh.l0 kq l0 l1 x5_1=some r)∧jA (kq≤k)∧jA (Below w.heap.size w w'))
  case atStart=>exact ⟨(0),(sq),H',⟨Nat.le_refl _⟩,⟨bq⟩⟩
  case round =>
   clear H'
   try clear c1
   try clear p2
   try clear c3
   try clear c3b0
   try clear c3b1
   try clear c3b2
   obtain ⟨x5_1,rfl,HA,HK1,HB⟩:=hrel
   cases gk with
   | zero=>exact absurd HA.out (by simp [jh.l0])
   | succ k1 =>
    have H:=HA.out
    clear HA
    simp only [jh.l0] at H
    by_cases c4:x5_1<(l0.length:Int)
    ·rw [if_pos c4] at H
     have c4b0:decide (x5_1<(l0.length:Int))=true:=dzT c4
     clear c4
     by_cases c5:0≤x5_1
     ·rw [if_pos c5] at H
      have c5b0:decide (0≤x5_1)=true:=dzT c5
      clear c5
      by_cases c6:x5_1<(l1.length:Int)
      ·rw [if_pos c6] at H
       have c6b0:decide (x5_1<(l1.length:Int))=true:=dzT c6
       clear c6
       replace H:=bzS H
       obtain ⟨t209,A70,H⟩:=H
       replace H:(if t209=true then (jh.l0 k1 l0 l1 (wrap64 (x5_1+1))) else (some false))=some r:=H
       have A7:=am A70
       clear A70
       by_cases c8:t209=true
       ·subst c8
        have H1:(jh.l0 k1 l0 l1 (wrap64 (x5_1+1)))=some r:=by rw [if_pos rfl] at H;exact H
        clear H
        have H:=H1
        clear H1
        have H':=am H
        clear H
        try go_wp2
        replace HB:=am (jJ HB.out)
        have p207:0≤(x5_1:Int):=ozD (uq)
        have q207:x5_1<(l0.length:Int):=ozD (uq)
        obtain ⟨ad207,e207,hx207_0,hx207_1⟩:=jqa HR0.out x5_1 p207 q207
        have hw207_1:=hx207_1
        have hw207_0:=hx207_0
        cases e207
        replace hx207_0:=cb HB.out hx207_0
        replace hx207_1:=cb HB.out hx207_1
        replace p207:=ezT p207
        replace q207:=ezT q207
        have p208:0≤(x5_1:Int):=ozD (uq)
        have q208:x5_1<(l1.length:Int):=ozD (uq)
        obtain ⟨ad208,e208,hx208_0,hx208_1⟩:=jqa HR1.out x5_1 p208 q208
        have hw208_1:=hx208_1
        have hw208_0:=hx208_0
        cases e208
        replace hx208_0:=cb HB.out hx208_0
        replace hx208_1:=cb HB.out hx208_1
        replace p208:=ezT p208
        replace q208:=ezT q208
        refine start_ (n:=10) (S:=fun w'=>w'.cell? (ad207.add ((x5_1).toNat * 2))=some (.string ((jb l0 x5_1).f0))∧w'.cell? ⟨(ad207.add ((x5_1).toNat * 2)).block,(ad207.add ((x5_1).toNat * 2)).off+1,none⟩=some (.int .i64 ((jb l0 x5_1).f1))∧w'.cell? (ad208.add ((x5_1).toNat * 2))=some (.string ((jb l1 x5_1).f0))∧w'.cell? ⟨(ad208.add ((x5_1).toNat * 2)).block,(ad208.add ((x5_1).toNat * 2)).off+1,none⟩=some (.int .i64 ((jb l1 x5_1).f1))) (ds:=[]) #[false,false,false,false,false,false,false,false,false,false] (by kernel_rfl) rfl rfl ⟨((HB.out.cell (World.block_lt_of_cell? w _ hw207_0)).trans hw207_0),((HB.out.cell (World.block_lt_of_cell? w _ hw207_1)).trans hw207_1),((HB.out.cell (World.block_lt_of_cell? w _ hw208_0)).trans hw208_0),((HB.out.cell (World.block_lt_of_cell? w _ hw208_1)).trans hw208_1)⟩ (fun hHeld=>?_);refine with_tabW jh.tab6 jh.bits6 (fun HT_ HW_=>?_)
        generalize wr.drew=w9 at HB hx207_0 hx207_1 hx208_0 hx208_1 hHeld ⊢
        refine pq (i:=0) (N:=some 17) #[true,false,false,false,false,false,false,false,false,false] ?_
        refine pq (i:=1) (N:=some 18) #[true,true,false,false,false,false,false,false,false,false] ?_
        refine pq (i:=2) (N:=some 19) #[true,true,true,false,false,false,false,false,false,false] ?_
        refine pq (i:=4) (N:=some 21) #[true,true,true,false,true,false,false,false,false,false] ?_
        refine pq (i:=5) (N:=some 22) #[true,true,true,false,true,true,false,false,false,false] ?_
        refine pq (i:=6) (N:=some 23) #[true,true,true,false,true,true,true,false,false,false] ?_
        refine take_ (i:=3) (N:=some 20) (v:=?_) (a':=?_) #[true,true,true,true,true,true,true,false,false,false] rfl rfl (jHa HT_.out HW_.out (by kernel_rfl)) (fun _ _ _ h=>h) (Or.inl ⟨by rfl,?_⟩) hHeld ?_ ?_
        rotate_left
        ·rintro w' ⟨s0,s1,s2,s3⟩
         go_simp
         with_reducible rfl
        rotate_left
        ·exact sa
        refine take_ (i:=7) (N:=some 24) (v:=?_) (a':=?_) #[true,true,true,true,true,true,true,true,false,false] rfl rfl (jHa HT_.out HW_.out (by kernel_rfl)) (fun _ _ _ h=>h) (Or.inl ⟨by rfl,?_⟩) hHeld ?_ ?_
        rotate_left
        ·rintro w' ⟨s0,s1,s2,s3⟩
         go_simp
         with_reducible rfl
        rotate_left
        ·exact sa
        refine one_ (i:=8) (N:=some 25) #[true,true,true,true,true,true,true,true,true,false] rfl rfl (one_of HT_.out (by kernel_rfl)) (by decide) (fun K hK=>?_)
        refine goes_ Tryd.func20 (by kernel_rfl) rfl #[.agg #[.string ((jb l0 x5_1).f0), .int .i64 ((jb l0 x5_1).f1)], .agg #[.string ((jb l1 x5_1).f0), .int .i64 ((jb l1 x5_1).f1)]] (by rfl) rfl rfl (aq) ?_
        with_reducible refine (jpa.calls ((jb l0 x5_1).f0) ((jb l0 x5_1).f1) ((jb l1 x5_1).f0) ((jb l1 x5_1).f1) true _ A7.out).mono ?_
        rintro e w10 ⟨rfl,hb⟩
        refine ⟨_,rfl,?_⟩
        replace HB:=am (jf (bq) hb)
        (try clear hb)
        (try clear hb2)
        (try clear hk)
        (try clear hi)
        refine hK.out _ _ ⟨((HB.out.cell (World.block_lt_of_cell? w _ hw207_0)).trans hw207_0),((HB.out.cell (World.block_lt_of_cell? w _ hw207_1)).trans hw207_1),((HB.out.cell (World.block_lt_of_cell? w _ hw208_0)).trans hw208_0),((HB.out.cell (World.block_lt_of_cell? w _ hw208_1)).trans hw208_1)⟩ (fun hHeld=>?_)
        clear hK K
        refine norm_ (a':=?_) ?_ ?_
        rotate_left
        ·show Act.put _ (some 25) _=_
         simp only [Act.put,List.setIfInBounds_toArray,List.set_cons_zero,List.set_cons_succ,i64_w,i32_w]
         rfl
        refine pq (i:=9) (N:=some 26) #[true,true,true,true,true,true,true,true,true,true] ?_
        refine done_ (done_of HT_.out (by kernel_rfl)) ?_
        try go_wp2
        go_roundg k1
        case measure=>have:=HK1.out;omega
        case rel=>exact ⟨(wrap64 (x5_1+1)),(sq),H',⟨by have:=HK1.out;omega⟩,⟨bq⟩⟩
       ·replace c8:=Bool.eq_false_iff.mpr c8
        subst c8
        have H1:(some false)=some r:=by rw [if_neg (show ¬ (false=true) by decide)] at H;exact H
        clear H
        have H:=H1
        clear H1
        obtain rfl:=Option.some.inj H
        try go_wp2
        replace HB:=am (jJ HB.out)
        have p207:0≤(x5_1:Int):=ozD (uq)
        have q207:x5_1<(l0.length:Int):=ozD (uq)
        obtain ⟨ad207,e207,hx207_0,hx207_1⟩:=jqa HR0.out x5_1 p207 q207
        have hw207_1:=hx207_1
        have hw207_0:=hx207_0
        cases e207
        replace hx207_0:=cb HB.out hx207_0
        replace hx207_1:=cb HB.out hx207_1
        replace p207:=ezT p207
        replace q207:=ezT q207
        have p208:0≤(x5_1:Int):=ozD (uq)
        have q208:x5_1<(l1.length:Int):=ozD (uq)
        obtain ⟨ad208,e208,hx208_0,hx208_1⟩:=jqa HR1.out x5_1 p208 q208
        have hw208_1:=hx208_1
        have hw208_0:=hx208_0
        cases e208
        replace hx208_0:=cb HB.out hx208_0
        replace hx208_1:=cb HB.out hx208_1
        replace p208:=ezT p208
        replace q208:=ezT q208
        refine start_ (n:=10) (S:=fun w'=>w'.cell? (ad207.add ((x5_1).toNat * 2))=some (.string ((jb l0 x5_1).f0))∧w'.cell? ⟨(ad207.add ((x5_1).toNat * 2)).block,(ad207.add ((x5_1).toNat * 2)).off+1,none⟩=some (.int .i64 ((jb l0 x5_1).f1))∧w'.cell? (ad208.add ((x5_1).toNat * 2))=some (.string ((jb l1 x5_1).f0))∧w'.cell? ⟨(ad208.add ((x5_1).toNat * 2)).block,(ad208.add ((x5_1).toNat * 2)).off+1,none⟩=some (.int .i64 ((jb l1 x5_1).f1))) (ds:=[]) #[false,false,false,false,false,false,false,false,false,false] (by kernel_rfl) rfl rfl ⟨((HB.out.cell (World.block_lt_of_cell? w _ hw207_0)).trans hw207_0),((HB.out.cell (World.block_lt_of_cell? w _ hw207_1)).trans hw207_1),((HB.out.cell (World.block_lt_of_cell? w _ hw208_0)).trans hw208_0),((HB.out.cell (World.block_lt_of_cell? w _ hw208_1)).trans hw208_1)⟩ (fun hHeld=>?_);refine with_tabW jh.tab6 jh.bits6 (fun HT_ HW_=>?_)
        generalize wr.drew=w11 at HB hx207_0 hx207_1 hx208_0 hx208_1 hHeld ⊢
        refine pq (i:=0) (N:=some 17) #[true,false,false,false,false,false,false,false,false,false] ?_
        refine pq (i:=1) (N:=some 18) #[true,true,false,false,false,false,false,false,false,false] ?_
        refine pq (i:=2) (N:=some 19) #[true,true,true,false,false,false,false,false,false,false] ?_
        refine pq (i:=4) (N:=some 21) #[true,true,true,false,true,false,false,false,false,false] ?_
        refine pq (i:=5) (N:=some 22) #[true,true,true,false,true,true,false,false,false,false] ?_
        refine pq (i:=6) (N:=some 23) #[true,true,true,false,true,true,true,false,false,false] ?_
        refine take_ (i:=3) (N:=some 20) (v:=?_) (a':=?_) #[true,true,true,true,true,true,true,false,false,false] rfl rfl (jHa HT_.out HW_.out (by kernel_rfl)) (fun _ _ _ h=>h) (Or.inl ⟨by rfl,?_⟩) hHeld ?_ ?_
        rotate_left
        ·rintro w' ⟨s0,s1,s2,s3⟩
         go_simp
         with_reducible rfl
        rotate_left
        ·exact sa
        refine take_ (i:=7) (N:=some 24) (v:=?_) (a':=?_) #[true,true,true,true,true,true,true,true,false,false] rfl rfl (jHa HT_.out HW_.out (by kernel_rfl)) (fun _ _ _ h=>h) (Or.inl ⟨by rfl,?_⟩) hHeld ?_ ?_
        rotate_left
        ·rintro w' ⟨s0,s1,s2,s3⟩
         go_simp
         with_reducible rfl
        rotate_left
        ·exact sa
        refine one_ (i:=8) (N:=some 25) #[true,true,true,true,true,true,true,true,true,false] rfl rfl (one_of HT_.out (by kernel_rfl)) (by decide) (fun K hK=>?_)
        refine goes_ Tryd.func20 (by kernel_rfl) rfl #[.agg #[.string ((jb l0 x5_1).f0), .int .i64 ((jb l0 x5_1).f1)], .agg #[.string ((jb l1 x5_1).f0), .int .i64 ((jb l1 x5_1).f1)]] (by rfl) rfl rfl (aq) ?_
        with_reducible refine (jpa.calls ((jb l0 x5_1).f0) ((jb l0 x5_1).f1) ((jb l1 x5_1).f0) ((jb l1 x5_1).f1) false _ A7.out).mono ?_
        rintro e w12 ⟨rfl,hb⟩
        refine ⟨_,rfl,?_⟩
        replace HB:=am (jf (bq) hb)
        (try clear hb)
        (try clear hb2)
        (try clear hk)
        (try clear hi)
        refine hK.out _ _ ⟨((HB.out.cell (World.block_lt_of_cell? w _ hw207_0)).trans hw207_0),((HB.out.cell (World.block_lt_of_cell? w _ hw207_1)).trans hw207_1),((HB.out.cell (World.block_lt_of_cell? w _ hw208_0)).trans hw208_0),((HB.out.cell (World.block_lt_of_cell? w _ hw208_1)).trans hw208_1)⟩ (fun hHeld=>?_)
        clear hK K
        refine norm_ (a':=?_) ?_ ?_
        rotate_left
        ·show Act.put _ (some 25) _=_
         simp only [Act.put,List.setIfInBounds_toArray,List.set_cons_zero,List.set_cons_succ,i64_w,i32_w]
         rfl
        refine pq (i:=9) (N:=some 26) #[true,true,true,true,true,true,true,true,true,true] ?_
        refine done_ (done_of HT_.out (by kernel_rfl)) ?_
        try go_wp2
        go_ret
        exact ⟨Y1,bq⟩
      ·rw [if_neg c6] at H
       exact absurd H (by simp)
     ·rw [if_neg c5] at H
      exact absurd H (by simp)
    ·rw [if_neg c4] at H
     have c4b0:decide (x5_1<(l0.length:Int))=false:=dzF c4
     clear c4
     obtain rfl:=Option.some.inj H
     go_wp2
     go_ret
     exact ⟨Y1,bq⟩
 ·rw [if_neg c3] at H
  have c3b0:((l0.length:Int) == (l1.length:Int))=false:=beq_eq_false_iff_ne.mpr c3
  have c3b1:((l0.length:Int) != (l1.length:Int))=true:=bne_iff_ne.mpr c3
  have c3b2:(l0.length == l1.length)=false:=by first | simpa using c3 |(simp at c3 ⊢;omega)
  obtain rfl:=Option.some.inj H
  go_enter Tryd.func9,Tryd.ntmps9
  go_wp2
  go_ret
  exact ⟨Y1,bq⟩
def jR.f (k : Nat) (l0 : List (S37)) : Option (Bool) := (jr.f k l0 1048576).bind fun t210 => (if t210 < 0 then (some true) else ((jg.f k l0).bind fun t211 => ((jW.f k t211).bind fun t214 => ((jg.f k l0).bind fun t215 => ((jd.f k t215).bind fun t218 => (if t218.toList = t214.toList then ((jg.f k l0).bind fun t219 => ((jh.f k t215 t219).bind fun t222 => (if t222 = true then (some true) else (some false)))) else (some false)))))))
set_option maxHeartbeats 8000000 in
set_option maxRecDepth 100000 in
theorem jR.calls (k : Nat) (A0 : Option Addr) (c0 : Nat) (l0 : List (S37)) (r : Bool) (w : World) (hr0 : Kd.C k37 w A0 l0.length l0) (hc0 : l0.length ≤ c0) (hT : r = true) (h : jR.f k l0 = some r) (htab : Lib.TabIs Tryd.prog w "internal/strconv.uint64pow10" .u64 Lib.pow10Tab) :
  Calls Tryd.prog 3 #[.slice A0 l0.length c0] w fun e w'=>e=.returned (.bool r)∧Below w.heap.size w w':=by
 have HT:=am (fun (W:World) (hb_:Below w.heap.size w W)=>tabSt htab hb_)
 clear htab
 have HR0:=am hr0
 have HC0:=am hc0
 clear hr0 hc0
 have HB:=am (Below.refl w.heap.size w)
 have H:((jr.f k l0 1048576).bind fun t210=>(if t210<0 then (some true) else ((jg.f k l0).bind fun t211=>((jW.f k t211).bind fun t214=>((jg.f k l0).bind fun t215=>((jd.f k t215).bind fun t218=>(if t218.toList=t214.toList then ((jg.f k l0).bind fun t219=>((jh.f k t215 t219).bind fun t222=>(if t222=true then (some true) else (some false)))) else (some false))))))))=some r:=h
 clear h
 replace H:=bzS H
 obtain ⟨t210,A20,H⟩:=H
 replace H:(if t210<0 then (some true) else ((jg.f k l0).bind fun t211=>((jW.f k t211).bind fun t214=>((jg.f k l0).bind fun t215=>((jd.f k t215).bind fun t218=>(if t218.toList=t214.toList then ((jg.f k l0).bind fun t219=>((jh.f k t215 t219).bind fun t222=>(if t222=true then (some true) else (some false)))) else (some false)))))))=some r:=H
 have A2:=am A20
 clear A20
 by_cases c3:t210<0
 ·rw [if_pos c3] at H
  have c3b0:decide (t210<0)=true:=dzT c3
  clear c3
  obtain rfl:=Option.some.inj H
  go_enter Tryd.func3,Tryd.ntmps3
  go_wp2_with (first |((with_reducible refine jo (f:=5) rfl ?_);refine gL (some 9) Tryd.func5 #[.slice A0 l0.length c0, .int .i64 1048576] ?_;(with_reducible refine (jr.calls k _ _ l0 1048576 t210 _ ?side1 ?side2 A2.out).mono ?_);(case side1=>exact Y6);(case side2=>exact HC0.out);rintro e w4 ⟨rfl,hb⟩;refine ⟨_,rfl,?_⟩;replace HB:=am (jf (bq) hb);(try clear hb);(try clear hb2);(try clear hk);(try clear hi)))
  go_ret
  exact ⟨Y1,bq⟩
 ·rw [if_neg c3] at H
  have c3b0:decide (t210<0)=false:=dzF c3
  clear c3
  replace H:=bzS H
  obtain ⟨t211,A50,H⟩:=H
  replace H:((jW.f k t211).bind fun t214=>((jg.f k l0).bind fun t215=>((jd.f k t215).bind fun t218=>(if t218.toList=t214.toList then ((jg.f k l0).bind fun t219=>((jh.f k t215 t219).bind fun t222=>(if t222=true then (some true) else (some false)))) else (some false)))))=some r:=H
  have A5:=am A50
  clear A50
  replace H:=bzS H
  obtain ⟨t214,A60,H⟩:=H
  replace H:((jg.f k l0).bind fun t215=>((jd.f k t215).bind fun t218=>(if t218.toList=t214.toList then ((jg.f k l0).bind fun t219=>((jh.f k t215 t219).bind fun t222=>(if t222=true then (some true) else (some false)))) else (some false))))=some r:=H
  have A6:=am A60
  clear A60
  replace H:=bzS H
  obtain ⟨t215,A70,H⟩:=H
  replace H:((jd.f k t215).bind fun t218=>(if t218.toList=t214.toList then ((jg.f k l0).bind fun t219=>((jh.f k t215 t219).bind fun t222=>(if t222=true then (some true) else (some false)))) else (some false)))=some r:=H
  have A7:=am A70
  clear A70
  replace H:=bzS H
  obtain ⟨t218,A80,H⟩:=H
  replace H:(if t218.toList=t214.toList then ((jg.f k l0).bind fun t219=>((jh.f k t215 t219).bind fun t222=>(if t222=true then (some true) else (some false)))) else (some false))=some r:=H
  have A8:=am A80
  clear A80
  by_cases c9:t218.toList=t214.toList
  ·rw [if_pos c9] at H
   have c9b0:(t218.toList == t214.toList)=true:=beq_iff_eq.mpr c9
   have c9b1:(t218.toList != t214.toList)=false:=bne_eq_false_iff_eq.mpr c9
   clear c9
   replace H:=bzS H
   obtain ⟨t219,A100,H⟩:=H
   replace H:((jh.f k t215 t219).bind fun t222=>(if t222=true then (some true) else (some false)))=some r:=H
   have A10:=am A100
   clear A100
   replace H:=bzS H
   obtain ⟨t222,A110,H⟩:=H
   replace H:(if t222=true then (some true) else (some false))=some r:=H
   have A11:=am A110
   clear A110
   by_cases c12:t222=true
   ·subst c12
    have H1:(some true)=some r:=by rw [if_pos rfl] at H;exact H
    clear H
    have H:=H1
    clear H1
    obtain rfl:=Option.some.inj H
    go_enter Tryd.func3,Tryd.ntmps3
    go_wp2_with (first |((with_reducible refine jo (f:=5) rfl ?_);refine gL (some 9) Tryd.func5 #[.slice A0 l0.length c0, .int .i64 1048576] ?_;(with_reducible refine (jr.calls k _ _ l0 1048576 t210 _ ?side1 ?side2 A2.out).mono ?_);(case side1=>exact Y6);(case side2=>exact HC0.out);rintro e w13 ⟨rfl,hb⟩;refine ⟨_,rfl,?_⟩;replace HB:=am (jf (bq) hb);(try clear hb);(try clear hb2);(try clear hk);(try clear hi)) |((with_reducible refine jo (f:=7) rfl ?_);refine gL (some 13) Tryd.func7 #[.slice A0 l0.length c0] ?_;(with_reducible refine (jg.calls k _ _ l0 t211 _ ?side1 ?side2 A5.out).mono ?_);(case side1=>exact cq (Kd.jPa HR0.out HB.out));(case side2=>exact HC0.out);rintro e w14 ⟨v212,rfl,ho0,hb⟩;refine ⟨_,rfl,?_⟩;have HO213:=am (Kd.jma ho0 (jm (bq)));replace HB:=am (jf (bq) hb);(try clear hb);(try clear hb2);(try clear hk);(try clear hi);(try clear ho0);obtain ⟨Ao15,co15,eo15⟩:=Kd.joa HO213.out;subst eo15) |((with_reducible refine jo (f:=6) rfl ?_);refine gL (some 14) Tryd.func6 #[.slice Ao15 t211.length co15] ?_;(with_reducible refine (jW.calls k _ _ t211 t214 _ ?side1 ?side2 A6.out).mono ?_);(case side1=>exact cq (Kd.jk HO213.out).2.2);(case side2=>exact (Kd.jk HO213.out).2.1);rintro e w16 ⟨rfl,hb⟩;refine ⟨_,rfl,?_⟩;replace HO213:=am (Kd.jP (rq HO213.out) hb);replace HB:=am (jf (bq) hb);(try clear hb);(try clear hb2);(try clear hk);(try clear hi)) |((with_reducible refine jo (f:=7) rfl ?_);refine gL (some 16) Tryd.func7 #[.slice A0 l0.length c0] ?_;(with_reducible refine (jg.calls k _ _ l0 t215 _ ?side1 ?side2 A7.out).mono ?_);(case side1=>exact cq (Kd.jPa HR0.out HB.out));(case side2=>exact HC0.out);rintro e w17 ⟨v216,rfl,ho0,hb⟩;refine ⟨_,rfl,?_⟩;have HO217:=am (Kd.jma (Kd.R_new' ho0 (Kd.R_lt (rq HO213.out))) (jm (bq)));replace HO213:=am (Kd.R_elder' (rq HO213.out) (Kd.R_base ho0) hb);replace HB:=am (jf (bq) hb);(try clear hb);(try clear hb2);(try clear hk);(try clear hi);(try clear ho0);obtain ⟨Ao18,co18,eo18⟩:=Kd.joa HO217.out;subst eo18) |((with_reducible refine jo (f:=8) rfl ?_);refine gL (some 18) Tryd.func8 #[.slice Ao18 t215.length co18] ?_;(with_reducible refine (jd.calls k _ _ t215 t218 _ ?side1 ?side2 A8.out (HT.out _ (bq))).mono ?_);(case side1=>exact cq (Kd.jk HO217.out).2.2);(case side2=>exact (Kd.jk HO217.out).2.1);rintro e w19 ⟨rfl,hb⟩;refine ⟨_,rfl,?_⟩;replace HO213:=am (Kd.jP (rq HO213.out) hb);replace HO217:=am (Kd.jP (rq HO217.out) hb);replace HB:=am (jf (bq) hb);(try clear hb);(try clear hb2);(try clear hk);(try clear hi)) |((with_reducible refine jo (f:=7) rfl ?_);refine gL (some 24) Tryd.func7 #[.slice A0 l0.length c0] ?_;(with_reducible refine (jg.calls k _ _ l0 t219 _ ?side1 ?side2 A10.out).mono ?_);(case side1=>exact cq (Kd.jPa HR0.out HB.out));(case side2=>exact HC0.out);rintro e w20 ⟨v220,rfl,ho0,hb⟩;refine ⟨_,rfl,?_⟩;have HO221:=am (Kd.jma (Kd.R_new' (Kd.R_new' ho0 (Kd.R_lt (rq HO213.out))) (Kd.R_lt (rq HO217.out))) (jm (bq)));replace HO213:=am (Kd.R_elder' (rq HO213.out) (Kd.R_base ho0) hb);replace HO217:=am (Kd.R_elder' (rq HO217.out) (Kd.R_base ho0) hb);replace HB:=am (jf (bq) hb);(try clear hb);(try clear hb2);(try clear hk);(try clear hi);(try clear ho0);obtain ⟨Ao21,co21,eo21⟩:=Kd.joa HO221.out;subst eo21) |((with_reducible refine jo (f:=9) rfl ?_);refine gL (some 25) Tryd.func9 #[.slice Ao18 t215.length co18, .slice Ao21 t219.length co21] ?_;(with_reducible refine (jh.calls k _ _ t215 _ _ t219 true _ ?side1 ?side2 ?side3 ?side4 A11.out).mono ?_);(case side1=>exact cq (Kd.jk HO217.out).2.2);(case side2=>exact (Kd.jk HO217.out).2.1);(case side3=>exact cq (Kd.jk HO221.out).2.2);(case side4=>exact (Kd.jk HO221.out).2.1);rintro e w22 ⟨rfl,hb⟩;refine ⟨_,rfl,?_⟩;replace HO213:=am (Kd.jP (rq HO213.out) hb);replace HO217:=am (Kd.jP (rq HO217.out) hb);replace HO221:=am (Kd.jP (rq HO221.out) hb);replace HB:=am (jf (bq) hb);(try clear hb);(try clear hb2);(try clear hk);(try clear hi)))
    go_ret
    exact ⟨Y1,bq⟩
   ·replace c12:=Bool.eq_false_iff.mpr c12
    subst c12
    have H1:(some false)=some r:=by rw [if_neg (show ¬ (false=true) by decide)] at H;exact H
    clear H
    have H:=H1
    clear H1
    exact absurd ((Option.some.inj H).trans hT) Bool.false_ne_true
  ·rw [if_neg c9] at H
   have c9b0:(t218.toList == t214.toList)=false:=beq_eq_false_iff_ne.mpr c9
   have c9b1:(t218.toList != t214.toList)=true:=bne_iff_ne.mpr c9
   exact absurd ((Option.some.inj H).trans hT) Bool.false_ne_true
def jGa (w0 W : World) (g : Nat) (f0 : List Int) (f1 : Int) : Prop := ∃ A0 c0, W.heap[g]? = some (.cells #[.slice A0 f0.length c0, .int .i64 f1] 68 (0, 0)) ∧ w0.heap.size ≤ g ∧ Kd.C (Kd.int .u8) w0 A0 f0.length f0
theorem jGa.grown {w0 W : World} {g : Nat} {f0 : List Int} {f1 : Int} {W1 : World} {row : Option Nat} (h : jGa w0 W g f0 f1) (hw : W.grownBy W1 row) (hne : some g ≠ row) : jGa w0 W1 g f0 f1 := by
 obtain ⟨A0,c0,hb,hg,hr0⟩:=h
 exact ⟨A0,c0,jfa hb hw hne,hg,hr0⟩
theorem jGa.kept {w0 W : World} {g : Nat} {f0 : List Int} {f1 : Int} {W1 : World} {S : Nat → Prop} (h : jGa w0 W g f0 f1) (hk : Kept W W1 S) (hne : ¬ S g) : jGa w0 W1 g f0 f1 := by
 obtain ⟨A0,c0,hb,hg,hr0⟩:=h
 exact ⟨A0,c0,blk_kept hb hk hne,hg,hr0⟩
theorem jGa.below {w0 W : World} {g : Nat} {f0 : List Int} {f1 : Int} {W1 : World} (h : jGa w0 W g f0 f1) (hw : Below W.heap.size W W1) : jGa w0 W1 g f0 f1 := h.grown (grown_of_below hw none) (by simp)
theorem jGa.alloc {w0 W : World} {g : Nat} {f0 : List Int} {f1 : Int} (h : jGa w0 W g f0 f1) (o : Obj) : jGa w0 (W.alloc o) g f0 f1 := h.below (jG (Below.refl _ _) o)
theorem jGa.drewN {w0 W : World} {g : Nat} {f0 : List Int} {f1 : Int} (h : jGa w0 W g f0 f1) (m : Nat) : jGa w0 (W.drewN m) g f0 f1 := h
theorem jGa.drew {w0 W : World} {g : Nat} {f0 : List Int} {f1 : Int} (h : jGa w0 W g f0 f1) : jGa w0 W.drew g f0 f1 := h
theorem jGa.apart {w0 W : World} {g : Nat} {f0 : List Int} {f1 : Int} {α : Type} {d : Kd α} {e : Nat} {base : Nat} {ok : Nat → Prop} {v : Value} {xs : List α} (h : jGa w0 W g f0 f1) (ho : d.R e W base ok v xs) (ht : ∀ q, q ∈ e :: d.E → q ≠ 68) : d.R e W base (fun k => ok k ∧ k ≠ g) v xs := by
 obtain ⟨A0,c0,hb,hg,hr0⟩:=h
 exact Kd.R_types ho hb ht
theorem jGa.own_ne {w0 W : World} {g : Nat} {f0 : List Int} {f1 : Int} {α : Type} {d : Kd α} {e : Nat} {base : Nat} {ok : Nat → Prop} {v : Value} {xs : List α} (h : jGa w0 W g f0 f1) (ho : d.R e W base ok v xs) (ht : e ≠ 68) : some g ≠ v.ownBlock := by
 obtain ⟨A0,c0,hb,hg,hr0⟩:=h
 exact Kd.R_ne ho hb ht
end Go.Proofs.YtdmafmebllhlkaaDoor.P
end
