/- One part of the proofs on this program: functions of the program as plain functions, that the code comes to them, and facts on them. -/
import Derived.Test.YtbbmgiloikkpiaaYAll1
import Derived.Test.YtbbmgiloikkpiaaYWAuto
section
namespace Go.Proofs.Ytbbmgiloikkpiaa.P
open Go.RowKit Go.Proofs.YtbbmgiloikkpiaaW.PrintWords Go.Proofs.YtbbmgiloikkpiaaW.PrintLast Go.Proofs.YtbbmgiloikkpiaaW.PrintMore
attribute [local go_sem] jaa jY joa jna jR jQ jZ jX jh
set_option linter.unusedVariables false
set_option linter.unusedSimpArgs false
def jDb.f (k : Nat) (l0 : List (S51)) (a1_0 : Int) (a1_1 : Int) (a1_2 : Int) : Option ((List (S51))) := (jCb.f k 0 7 0 0 l0).bind fun t159 => (if a1_0 = 0 then ((some (([(⟨0, 10, 0, 0⟩ : S51), (⟨1, 1, a1_1, 0⟩ : S51)] : List (S51)) : List (S51))).bind fun y162 => (if t159.length + y162.length < 4398046511104 then (some (t159 ++ y162)) else (none))) else (if a1_0 = 2 then ((some (([(⟨0, 8, a1_1, 0⟩ : S51), (⟨1, 0, 0, 0⟩ : S51)] : List (S51)) : List (S51))).bind fun y168 => (if t159.length + y168.length < 4398046511104 then (some (t159 ++ y168)) else (none))) else (if a1_0 = 3 then ((some (([(⟨0, 10, 0, 0⟩ : S51), (⟨1, 2, a1_1, a1_2⟩ : S51)] : List (S51)) : List (S51))).bind fun y174 => (if t159.length + y174.length < 4398046511104 then (some (t159 ++ y174)) else (none))) else ((some (([(⟨0, 8, 0, 0⟩ : S51), (⟨1, 1, a1_1, 0⟩ : S51), (⟨1, 3, 0, 0⟩ : S51)] : List (S51)) : List (S51))).bind fun y180 => (if t159.length + y180.length < 4398046511104 then (some (t159 ++ y180)) else (none))))))
set_option maxHeartbeats 8000000 in
set_option maxRecDepth 100000 in
theorem jDb.calls (k : Nat) (A0 : Option Addr) (c0 : Nat) (l0 : List (S51)) (a1_0 : Int) (a1_1 : Int) (a1_2 : Int) (r : List (S51)) (w : World) (hr0 : Kd.C k51 w A0 l0.length l0) (hc0 : l0.length ≤ c0) (h : jDb.f k l0 a1_0 a1_1 a1_2 = some r) :
  Calls Try.prog 20 #[.slice A0 l0.length c0, .agg #[.int .i64 a1_0, .int .i64 a1_1, .int .i64 a1_2]] w fun e w'=>∃ v0_:Value,e=.returned (v0_)∧Kd.R k51 51 w' w.heap.size (fun _=>True) v0_ r∧Below w.heap.size w w':=by
 have hu54:=Try.underlying54
 have hu51:=Try.underlying51
 have HR0:=am hr0
 have HC0:=am hc0
 clear hr0 hc0
 have HB:=am (Below.refl w.heap.size w)
 have H:((jCb.f k 0 7 0 0 l0).bind fun t159=>(if a1_0=0 then ((some (([(⟨0,10,0,0⟩:S51),(⟨1,1,a1_1,0⟩:S51)]:List (S51)):List (S51))).bind fun y162=>(if t159.length+y162.length<4398046511104 then (some (t159 ++ y162)) else (none))) else (if a1_0=2 then ((some (([(⟨0,8,a1_1,0⟩:S51),(⟨1,0,0,0⟩:S51)]:List (S51)):List (S51))).bind fun y168=>(if t159.length+y168.length<4398046511104 then (some (t159 ++ y168)) else (none))) else (if a1_0=3 then ((some (([(⟨0,10,0,0⟩:S51),(⟨1,2,a1_1,a1_2⟩:S51)]:List (S51)):List (S51))).bind fun y174=>(if t159.length+y174.length<4398046511104 then (some (t159 ++ y174)) else (none))) else ((some (([(⟨0,8,0,0⟩:S51),(⟨1,1,a1_1,0⟩:S51),(⟨1,3,0,0⟩:S51)]:List (S51)):List (S51))).bind fun y180=>(if t159.length+y180.length<4398046511104 then (some (t159 ++ y180)) else (none)))))))=some r:=h
 clear h
 replace H:=bzS H
 obtain ⟨t159,A30,H⟩:=H
 replace H:(if a1_0=0 then ((some (([(⟨0,10,0,0⟩:S51),(⟨1,1,a1_1,0⟩:S51)]:List (S51)):List (S51))).bind fun y162=>(if t159.length+y162.length<4398046511104 then (some (t159 ++ y162)) else (none))) else (if a1_0=2 then ((some (([(⟨0,8,a1_1,0⟩:S51),(⟨1,0,0,0⟩:S51)]:List (S51)):List (S51))).bind fun y168=>(if t159.length+y168.length<4398046511104 then (some (t159 ++ y168)) else (none))) else (if a1_0=3 then ((some (([(⟨0,10,0,0⟩:S51),(⟨1,2,a1_1,a1_2⟩:S51)]:List (S51)):List (S51))).bind fun y174=>(if t159.length+y174.length<4398046511104 then (some (t159 ++ y174)) else (none))) else ((some (([(⟨0,8,0,0⟩:S51),(⟨1,1,a1_1,0⟩:S51),(⟨1,3,0,0⟩:S51)]:List (S51)):List (S51))).bind fun y180=>(if t159.length+y180.length<4398046511104 then (some (t159 ++ y180)) else (none))))))=some r:=H
 have A3:=am A30
 clear A30
 by_cases c4:a1_0=0
 ·rw [if_pos c4] at H
  have c4b0:(a1_0 == 0)=true:=beq_iff_eq.mpr c4
  have c4b1:(a1_0 != 0)=false:=bne_eq_false_iff_eq.mpr c4
  clear c4
  obtain ⟨y162,hy162⟩:∃ y_:List (S51),y_=(([(⟨0,10,0,0⟩:S51),(⟨1,1,a1_1,0⟩:S51)]:List (S51))):=⟨_,rfl⟩
  replace H:(if t159.length+y162.length<4398046511104 then (some (t159 ++ y162)) else (none))=some r:=by first |(rw [hy162];with_reducible exact H) |(have H2_:=(Option.bind_some _ _).symm.trans H;rw [hy162];with_reducible exact H2_) |(have H2_:=(Option.bind_some _ _).symm.trans H;with_reducible exact H2_) | with_reducible exact H |(rw [hy162];exact H) | exact H
  have Ny162:=am hy162
  clear hy162
  by_cases c5:t159.length+y162.length<4398046511104
  ·rw [if_pos c5] at H
   have LMc5:=am c5
   clear c5
   obtain ⟨y165,hy165⟩:∃ y_:List (S51),y_=(t159 ++ y162):=⟨_,rfl⟩
   replace H:(some y165)=some r:=by first |(rw [hy165];with_reducible exact H) |(have H2_:=(Option.bind_some _ _).symm.trans H;rw [hy165];with_reducible exact H2_) |(have H2_:=(Option.bind_some _ _).symm.trans H;with_reducible exact H2_) | with_reducible exact H |(rw [hy165];exact H) | exact H
   have Ny165:=am hy165
   clear hy165
   obtain rfl:=Option.some.inj H
   go_enter Try.func20,Try.ntmps20
   go_wp2_with (first |((with_reducible refine jB (N:=3) rfl ?_);refine bE (N:=3) (cs:=#[.int .i64 a1_0, .int .i64 a1_1, .int .i64 a1_2]) (t:=54) ?_;intro gb158 hg w6 hbox hb;have BK158:=am (hbox);have GW158:=am ((Y1:w.heap.size≤gb158));have GE158:=am ((Y1:w.heap.size≤gb158));replace HB:=am (jc (bq) hb);clear hb hbox hg) |((with_reducible refine jg (f:=36) rfl ?_);refine gL (some 8) Try.func36 #[.agg #[.int .i64 0, .int .i64 7, .int .i64 0, .int .i64 0], .slice A0 l0.length c0] ?_;(with_reducible refine (jCb.calls k 0 7 0 0 _ _ l0 t159 _ ?side1 ?side2 A3.out).mono ?_);(case side1=>exact cq (Kd.jF HR0.out HB.out));(case side2=>exact HC0.out);rintro e w7 ⟨v160,rfl,ho0,hb⟩;refine ⟨_,rfl,?_⟩;have HO161:=am (Kd.jra ho0 (jv (Y6)));replace BK158:=am (je (g:=gb158) (o:=.cells #[.int .i64 a1_0, .int .i64 a1_1, .int .i64 a1_2] 54 (0,0)) (kq BK158.out) hb);replace HB:=am (jc (Y6) hb);(try clear hb);(try clear hb2);(try clear hk);(try clear hi);(try clear ho0);have hcz8_0:=bc0 BK158.out;have hcz8_1:=bc1 BK158.out;have hcz8_2:=bc2 BK158.out;have hfz8_0:=ja BK158.out 0;have hfz8_1:=ja BK158.out 1;have hfz8_2:=ja BK158.out 2) |((with_reducible refine jB (N:=18) rfl ?_);refine Kd.R_lit k51 _ 51 ?hg (N:=18) ?hd (xs:=([(⟨0,10,0,0⟩:S51),(⟨1,1,a1_1,0⟩:S51)]:List (S51))) (inner:=[.int .i64 0, .int .i64 10, .int .i64 0, .int .i64 0, .int .i64 1, .int .i64 1, .int .i64 a1_1, .int .i64 0]) (ok:=fun _=>True) (okp:=fun _=>True) ?hr ?hp (fun _ hk=>hk) trivial (Below.refl _ _) (Nat.le_refl _) (by simp) ?_;(case hd=>rfl);(case hg=>rfl);(case hr=>exact Y4);(case hp=>exact (Reps.c4 (show Kd.M k51 _ _ _ (⟨0,10,0,0⟩:S51) [.int .i64 0, .int .i64 10, .int .i64 0, .int .i64 0] from (jfb _ _ _ (⟨0,10,0,0⟩:S51) )) (Reps.c4 (show Kd.M k51 _ _ _ (⟨1,1,a1_1,0⟩:S51) [.int .i64 1, .int .i64 1, .int .i64 a1_1, .int .i64 0] from (jfb _ _ _ (⟨1,1,a1_1,0⟩:S51) )) (Reps.none _ _))));intro v163 w9 ho10 hb hg_ hnew_;clear hg_ hnew_;(first | rw [← Ny162.out] at ho10 |(simp only [Int.reduceToNat] at ho10;rw [← Ny162.out] at ho10));have HO164:=am (Kd.jra (Kd.jBb ho10 (Kd.R_lt (rq HO161.out))) (jv (Y6)));replace HO161:=am (Kd.jYa (rq HO161.out) (Kd.jlb ho10) hb);replace BK158:=am (je (g:=gb158) (o:=.cells #[.int .i64 a1_0, .int .i64 a1_1, .int .i64 a1_2] 54 (0,0)) (kq BK158.out) hb);replace HB:=am (jc (Y6) hb);clear hb ho10;obtain ⟨Ao12,co12,eo12⟩:=Kd.jga HO164.out;subst eo12) |((with_reducible refine jgb (b:=.append) (xs:=#[.tmp 13, .tmp 18]) rfl ?_);at_builtin;refine Kd.jPb k51 (w0:=w) w.heap.size rfl (.tmp 13) (.tmp 18) 30 51 (.agg #[(.int .i64 0),(.int .i64 0),(.int .i64 0),(.int .i64 0)]) 32 rfl Try.underlying30 info51 rfl (by decide) (by omega) v160 t159 y162 _ _ _ (fun k_=>some k_≠(.slice Ao12 y162.length co12:Value).ownBlock) (fun _=>False) rfl rfl ?aO ?aR (fun _ _ h=>h) (fun _ h=>h.elim) ?aF ?aB ?aS ?aL ?_;(case aR=>repeat (first | exact (Kd.jw HO164.out).2.2 |(with_reducible refine Kd.jMc ?_ _) |(with_reducible refine Kd.jEc ?_ _) |(with_reducible refine Kd.C_drew ?_)));(case aB=>exact (Y6));(case aF=>exact (fun k_ hk=>Kd.fresh' (Kd.R_lt (rq HO164.out)) k_ hk));(case aO=>exact (Y42));(case aS=>exact (jv (Y6)));(case aL=>have:=LMc5.out;omega);intro v166 w11 ho hb hg hat;rw [← Ny165.out] at ho;have n0_:=am (jvc (g:=gb158) (o:=.cells #[.int .i64 a1_0, .int .i64 a1_1, .int .i64 a1_2] 54 (0,0)) (kq BK158.out) hg (Kd.R_ne HO161.out BK158.out (by decide)));have n1_:=am (Kd.R_after (ok:=(fun _=>True)) (rq HO164.out) hg hat);have n2_:=am (hb);have n3_:=am (ho);clear BK158 HO164 HB HO161;have BK158:=n0_;have HO164:=n1_;have HB:=n2_;have HO167:=n3_;clear n0_ n1_ n2_ n3_ ho hb hg hat))
   go_ret
   exact ⟨_,Y0,by (with_reducible repeat (first | apply Kd.jGa | apply Kd.jKa | apply Kd.jLa));exact Kd.jca HO167.out (fun _ hk=>trivial),Y6⟩
  ·rw [if_neg c5] at H
   exact absurd H (by simp)
 ·rw [if_neg c4] at H
  have c4b0:(a1_0 == 0)=false:=beq_eq_false_iff_ne.mpr c4
  have c4b1:(a1_0 != 0)=true:=bne_iff_ne.mpr c4
  by_cases c13:a1_0=2
  ·rw [if_pos c13] at H
   have c13b0:(a1_0 == 2)=true:=beq_iff_eq.mpr c13
   have c13b1:(a1_0 != 2)=false:=bne_eq_false_iff_eq.mpr c13
   clear c13
   obtain ⟨y168,hy168⟩:∃ y_:List (S51),y_=(([(⟨0,8,a1_1,0⟩:S51),(⟨1,0,0,0⟩:S51)]:List (S51))):=⟨_,rfl⟩
   replace H:(if t159.length+y168.length<4398046511104 then (some (t159 ++ y168)) else (none))=some r:=by first |(rw [hy168];with_reducible exact H) |(have H2_:=(Option.bind_some _ _).symm.trans H;rw [hy168];with_reducible exact H2_) |(have H2_:=(Option.bind_some _ _).symm.trans H;with_reducible exact H2_) | with_reducible exact H |(rw [hy168];exact H) | exact H
   have Ny168:=am hy168
   clear hy168
   by_cases c14:t159.length+y168.length<4398046511104
   ·rw [if_pos c14] at H
    have LMc14:=am c14
    clear c14
    obtain ⟨y171,hy171⟩:∃ y_:List (S51),y_=(t159 ++ y168):=⟨_,rfl⟩
    replace H:(some y171)=some r:=by first |(rw [hy171];with_reducible exact H) |(have H2_:=(Option.bind_some _ _).symm.trans H;rw [hy171];with_reducible exact H2_) |(have H2_:=(Option.bind_some _ _).symm.trans H;with_reducible exact H2_) | with_reducible exact H |(rw [hy171];exact H) | exact H
    have Ny171:=am hy171
    clear hy171
    obtain rfl:=Option.some.inj H
    go_enter Try.func20,Try.ntmps20
    go_wp2_with (first |((with_reducible refine jB (N:=3) rfl ?_);refine bE (N:=3) (cs:=#[.int .i64 a1_0, .int .i64 a1_1, .int .i64 a1_2]) (t:=54) ?_;intro gb158 hg w15 hbox hb;have BK158:=am (hbox);have GW158:=am ((Y1:w.heap.size≤gb158));have GE158:=am ((Y1:w.heap.size≤gb158));replace HB:=am (jc (bq) hb);clear hb hbox hg) |((with_reducible refine jg (f:=36) rfl ?_);refine gL (some 8) Try.func36 #[.agg #[.int .i64 0, .int .i64 7, .int .i64 0, .int .i64 0], .slice A0 l0.length c0] ?_;(with_reducible refine (jCb.calls k 0 7 0 0 _ _ l0 t159 _ ?side1 ?side2 A3.out).mono ?_);(case side1=>exact cq (Kd.jF HR0.out HB.out));(case side2=>exact HC0.out);rintro e w16 ⟨v160,rfl,ho0,hb⟩;refine ⟨_,rfl,?_⟩;have HO161:=am (Kd.jra ho0 (jv (Y6)));replace BK158:=am (je (g:=gb158) (o:=.cells #[.int .i64 a1_0, .int .i64 a1_1, .int .i64 a1_2] 54 (0,0)) (kq BK158.out) hb);replace HB:=am (jc (Y6) hb);(try clear hb);(try clear hb2);(try clear hk);(try clear hi);(try clear ho0);have hcz17_0:=bc0 BK158.out;have hcz17_1:=bc1 BK158.out;have hcz17_2:=bc2 BK158.out;have hfz17_0:=ja BK158.out 0;have hfz17_1:=ja BK158.out 1;have hfz17_2:=ja BK158.out 2) |((with_reducible refine jB (N:=27) rfl ?_);refine Kd.R_lit k51 _ 51 ?hg (N:=27) ?hd (xs:=([(⟨0,8,a1_1,0⟩:S51),(⟨1,0,0,0⟩:S51)]:List (S51))) (inner:=[.int .i64 0, .int .i64 8, .int .i64 a1_1, .int .i64 0, .int .i64 1, .int .i64 0, .int .i64 0, .int .i64 0]) (ok:=fun _=>True) (okp:=fun _=>True) ?hr ?hp (fun _ hk=>hk) trivial (Below.refl _ _) (Nat.le_refl _) (by simp) ?_;(case hd=>rfl);(case hg=>rfl);(case hr=>exact Y4);(case hp=>exact (Reps.c4 (show Kd.M k51 _ _ _ (⟨0,8,a1_1,0⟩:S51) [.int .i64 0, .int .i64 8, .int .i64 a1_1, .int .i64 0] from (jfb _ _ _ (⟨0,8,a1_1,0⟩:S51) )) (Reps.c4 (show Kd.M k51 _ _ _ (⟨1,0,0,0⟩:S51) [.int .i64 1, .int .i64 0, .int .i64 0, .int .i64 0] from (jfb _ _ _ (⟨1,0,0,0⟩:S51) )) (Reps.none _ _))));intro v169 w18 ho19 hb hg_ hnew_;clear hg_ hnew_;(first | rw [← Ny168.out] at ho19 |(simp only [Int.reduceToNat] at ho19;rw [← Ny168.out] at ho19));have HO170:=am (Kd.jra (Kd.jBb ho19 (Kd.R_lt (rq HO161.out))) (jv (Y6)));replace HO161:=am (Kd.jYa (rq HO161.out) (Kd.jlb ho19) hb);replace BK158:=am (je (g:=gb158) (o:=.cells #[.int .i64 a1_0, .int .i64 a1_1, .int .i64 a1_2] 54 (0,0)) (kq BK158.out) hb);replace HB:=am (jc (Y6) hb);clear hb ho19;obtain ⟨Ao21,co21,eo21⟩:=Kd.jga HO170.out;subst eo21) |((with_reducible refine jgb (b:=.append) (xs:=#[.tmp 22, .tmp 27]) rfl ?_);at_builtin;refine Kd.jPb k51 (w0:=w) w.heap.size rfl (.tmp 22) (.tmp 27) 30 51 (.agg #[(.int .i64 0),(.int .i64 0),(.int .i64 0),(.int .i64 0)]) 32 rfl Try.underlying30 info51 rfl (by decide) (by omega) v160 t159 y168 _ _ _ (fun k_=>some k_≠(.slice Ao21 y168.length co21:Value).ownBlock) (fun _=>False) rfl rfl ?aO ?aR (fun _ _ h=>h) (fun _ h=>h.elim) ?aF ?aB ?aS ?aL ?_;(case aR=>repeat (first | exact (Kd.jw HO170.out).2.2 |(with_reducible refine Kd.jMc ?_ _) |(with_reducible refine Kd.jEc ?_ _) |(with_reducible refine Kd.C_drew ?_)));(case aB=>exact (Y6));(case aF=>exact (fun k_ hk=>Kd.fresh' (Kd.R_lt (rq HO170.out)) k_ hk));(case aO=>exact (Y42));(case aS=>exact (jv (Y6)));(case aL=>have:=LMc14.out;omega);intro v172 w20 ho hb hg hat;rw [← Ny171.out] at ho;have n0_:=am (jvc (g:=gb158) (o:=.cells #[.int .i64 a1_0, .int .i64 a1_1, .int .i64 a1_2] 54 (0,0)) (kq BK158.out) hg (Kd.R_ne HO161.out BK158.out (by decide)));have n1_:=am (Kd.R_after (ok:=(fun _=>True)) (rq HO170.out) hg hat);have n2_:=am (hb);have n3_:=am (ho);clear BK158 HO170 HB HO161;have BK158:=n0_;have HO170:=n1_;have HB:=n2_;have HO173:=n3_;clear n0_ n1_ n2_ n3_ ho hb hg hat))
    go_ret
    exact ⟨_,Y0,by (with_reducible repeat (first | apply Kd.jGa | apply Kd.jKa | apply Kd.jLa));exact Kd.jca HO173.out (fun _ hk=>trivial),Y6⟩
   ·rw [if_neg c14] at H
    exact absurd H (by simp)
  ·rw [if_neg c13] at H
   have c13b0:(a1_0 == 2)=false:=beq_eq_false_iff_ne.mpr c13
   have c13b1:(a1_0 != 2)=true:=bne_iff_ne.mpr c13
   by_cases c22:a1_0=3
   ·rw [if_pos c22] at H
    have c22b0:(a1_0 == 3)=true:=beq_iff_eq.mpr c22
    have c22b1:(a1_0 != 3)=false:=bne_eq_false_iff_eq.mpr c22
    clear c22
    obtain ⟨y174,hy174⟩:∃ y_:List (S51),y_=(([(⟨0,10,0,0⟩:S51),(⟨1,2,a1_1,a1_2⟩:S51)]:List (S51))):=⟨_,rfl⟩
    replace H:(if t159.length+y174.length<4398046511104 then (some (t159 ++ y174)) else (none))=some r:=by first |(rw [hy174];with_reducible exact H) |(have H2_:=(Option.bind_some _ _).symm.trans H;rw [hy174];with_reducible exact H2_) |(have H2_:=(Option.bind_some _ _).symm.trans H;with_reducible exact H2_) | with_reducible exact H |(rw [hy174];exact H) | exact H
    have Ny174:=am hy174
    clear hy174
    by_cases c23:t159.length+y174.length<4398046511104
    ·rw [if_pos c23] at H
     have LMc23:=am c23
     clear c23
     obtain ⟨y177,hy177⟩:∃ y_:List (S51),y_=(t159 ++ y174):=⟨_,rfl⟩
     replace H:(some y177)=some r:=by first |(rw [hy177];with_reducible exact H) |(have H2_:=(Option.bind_some _ _).symm.trans H;rw [hy177];with_reducible exact H2_) |(have H2_:=(Option.bind_some _ _).symm.trans H;with_reducible exact H2_) | with_reducible exact H |(rw [hy177];exact H) | exact H
     have Ny177:=am hy177
     clear hy177
     obtain rfl:=Option.some.inj H
     go_enter Try.func20,Try.ntmps20
     go_wp2_with (first |((with_reducible refine jB (N:=3) rfl ?_);refine bE (N:=3) (cs:=#[.int .i64 a1_0, .int .i64 a1_1, .int .i64 a1_2]) (t:=54) ?_;intro gb158 hg w24 hbox hb;have BK158:=am (hbox);have GW158:=am ((Y1:w.heap.size≤gb158));have GE158:=am ((Y1:w.heap.size≤gb158));replace HB:=am (jc (bq) hb);clear hb hbox hg) |((with_reducible refine jg (f:=36) rfl ?_);refine gL (some 8) Try.func36 #[.agg #[.int .i64 0, .int .i64 7, .int .i64 0, .int .i64 0], .slice A0 l0.length c0] ?_;(with_reducible refine (jCb.calls k 0 7 0 0 _ _ l0 t159 _ ?side1 ?side2 A3.out).mono ?_);(case side1=>exact cq (Kd.jF HR0.out HB.out));(case side2=>exact HC0.out);rintro e w25 ⟨v160,rfl,ho0,hb⟩;refine ⟨_,rfl,?_⟩;have HO161:=am (Kd.jra ho0 (jv (Y6)));replace BK158:=am (je (g:=gb158) (o:=.cells #[.int .i64 a1_0, .int .i64 a1_1, .int .i64 a1_2] 54 (0,0)) (kq BK158.out) hb);replace HB:=am (jc (Y6) hb);(try clear hb);(try clear hb2);(try clear hk);(try clear hi);(try clear ho0);have hcz26_0:=bc0 BK158.out;have hcz26_1:=bc1 BK158.out;have hcz26_2:=bc2 BK158.out;have hfz26_0:=ja BK158.out 0;have hfz26_1:=ja BK158.out 1;have hfz26_2:=ja BK158.out 2) |((with_reducible refine jB (N:=38) rfl ?_);refine Kd.R_lit k51 _ 51 ?hg (N:=38) ?hd (xs:=([(⟨0,10,0,0⟩:S51),(⟨1,2,a1_1,a1_2⟩:S51)]:List (S51))) (inner:=[.int .i64 0, .int .i64 10, .int .i64 0, .int .i64 0, .int .i64 1, .int .i64 2, .int .i64 a1_1, .int .i64 a1_2]) (ok:=fun _=>True) (okp:=fun _=>True) ?hr ?hp (fun _ hk=>hk) trivial (Below.refl _ _) (Nat.le_refl _) (by simp) ?_;(case hd=>rfl);(case hg=>rfl);(case hr=>exact Y4);(case hp=>exact (Reps.c4 (show Kd.M k51 _ _ _ (⟨0,10,0,0⟩:S51) [.int .i64 0, .int .i64 10, .int .i64 0, .int .i64 0] from (jfb _ _ _ (⟨0,10,0,0⟩:S51) )) (Reps.c4 (show Kd.M k51 _ _ _ (⟨1,2,a1_1,a1_2⟩:S51) [.int .i64 1, .int .i64 2, .int .i64 a1_1, .int .i64 a1_2] from (jfb _ _ _ (⟨1,2,a1_1,a1_2⟩:S51) )) (Reps.none _ _))));intro v175 w27 ho28 hb hg_ hnew_;clear hg_ hnew_;(first | rw [← Ny174.out] at ho28 |(simp only [Int.reduceToNat] at ho28;rw [← Ny174.out] at ho28));have HO176:=am (Kd.jra (Kd.jBb ho28 (Kd.R_lt (rq HO161.out))) (jv (Y6)));replace HO161:=am (Kd.jYa (rq HO161.out) (Kd.jlb ho28) hb);replace BK158:=am (je (g:=gb158) (o:=.cells #[.int .i64 a1_0, .int .i64 a1_1, .int .i64 a1_2] 54 (0,0)) (kq BK158.out) hb);replace HB:=am (jc (Y6) hb);clear hb ho28;obtain ⟨Ao30,co30,eo30⟩:=Kd.jga HO176.out;subst eo30) |((with_reducible refine jgb (b:=.append) (xs:=#[.tmp 31, .tmp 38]) rfl ?_);at_builtin;refine Kd.jPb k51 (w0:=w) w.heap.size rfl (.tmp 31) (.tmp 38) 30 51 (.agg #[(.int .i64 0),(.int .i64 0),(.int .i64 0),(.int .i64 0)]) 32 rfl Try.underlying30 info51 rfl (by decide) (by omega) v160 t159 y174 _ _ _ (fun k_=>some k_≠(.slice Ao30 y174.length co30:Value).ownBlock) (fun _=>False) rfl rfl ?aO ?aR (fun _ _ h=>h) (fun _ h=>h.elim) ?aF ?aB ?aS ?aL ?_;(case aR=>repeat (first | exact (Kd.jw HO176.out).2.2 |(with_reducible refine Kd.jMc ?_ _) |(with_reducible refine Kd.jEc ?_ _) |(with_reducible refine Kd.C_drew ?_)));(case aB=>exact (Y6));(case aF=>exact (fun k_ hk=>Kd.fresh' (Kd.R_lt (rq HO176.out)) k_ hk));(case aO=>exact (Y42));(case aS=>exact (jv (Y6)));(case aL=>have:=LMc23.out;omega);intro v178 w29 ho hb hg hat;rw [← Ny177.out] at ho;have n0_:=am (jvc (g:=gb158) (o:=.cells #[.int .i64 a1_0, .int .i64 a1_1, .int .i64 a1_2] 54 (0,0)) (kq BK158.out) hg (Kd.R_ne HO161.out BK158.out (by decide)));have n1_:=am (Kd.R_after (ok:=(fun _=>True)) (rq HO176.out) hg hat);have n2_:=am (hb);have n3_:=am (ho);clear BK158 HO176 HB HO161;have BK158:=n0_;have HO176:=n1_;have HB:=n2_;have HO179:=n3_;clear n0_ n1_ n2_ n3_ ho hb hg hat))
     go_ret
     exact ⟨_,Y0,by (with_reducible repeat (first | apply Kd.jGa | apply Kd.jKa | apply Kd.jLa));exact Kd.jca HO179.out (fun _ hk=>trivial),Y6⟩
    ·rw [if_neg c23] at H
     exact absurd H (by simp)
   ·rw [if_neg c22] at H
    have c22b0:(a1_0 == 3)=false:=beq_eq_false_iff_ne.mpr c22
    have c22b1:(a1_0 != 3)=true:=bne_iff_ne.mpr c22
    obtain ⟨y180,hy180⟩:∃ y_:List (S51),y_=(([(⟨0,8,0,0⟩:S51),(⟨1,1,a1_1,0⟩:S51),(⟨1,3,0,0⟩:S51)]:List (S51))):=⟨_,rfl⟩
    replace H:(if t159.length+y180.length<4398046511104 then (some (t159 ++ y180)) else (none))=some r:=by first |(rw [hy180];with_reducible exact H) |(have H2_:=(Option.bind_some _ _).symm.trans H;rw [hy180];with_reducible exact H2_) |(have H2_:=(Option.bind_some _ _).symm.trans H;with_reducible exact H2_) | with_reducible exact H |(rw [hy180];exact H) | exact H
    have Ny180:=am hy180
    clear hy180
    by_cases c31:t159.length+y180.length<4398046511104
    ·rw [if_pos c31] at H
     have LMc31:=am c31
     clear c31
     obtain ⟨y183,hy183⟩:∃ y_:List (S51),y_=(t159 ++ y180):=⟨_,rfl⟩
     replace H:(some y183)=some r:=by first |(rw [hy183];with_reducible exact H) |(have H2_:=(Option.bind_some _ _).symm.trans H;rw [hy183];with_reducible exact H2_) |(have H2_:=(Option.bind_some _ _).symm.trans H;with_reducible exact H2_) | with_reducible exact H |(rw [hy183];exact H) | exact H
     have Ny183:=am hy183
     clear hy183
     obtain rfl:=Option.some.inj H
     go_enter Try.func20,Try.ntmps20
     go_wp2_with (first |((with_reducible refine jB (N:=3) rfl ?_);refine bE (N:=3) (cs:=#[.int .i64 a1_0, .int .i64 a1_1, .int .i64 a1_2]) (t:=54) ?_;intro gb158 hg w32 hbox hb;have BK158:=am (hbox);have GW158:=am ((Y1:w.heap.size≤gb158));have GE158:=am ((Y1:w.heap.size≤gb158));replace HB:=am (jc (bq) hb);clear hb hbox hg) |((with_reducible refine jg (f:=36) rfl ?_);refine gL (some 8) Try.func36 #[.agg #[.int .i64 0, .int .i64 7, .int .i64 0, .int .i64 0], .slice A0 l0.length c0] ?_;(with_reducible refine (jCb.calls k 0 7 0 0 _ _ l0 t159 _ ?side1 ?side2 A3.out).mono ?_);(case side1=>exact cq (Kd.jF HR0.out HB.out));(case side2=>exact HC0.out);rintro e w33 ⟨v160,rfl,ho0,hb⟩;refine ⟨_,rfl,?_⟩;have HO161:=am (Kd.jra ho0 (jv (Y6)));replace BK158:=am (je (g:=gb158) (o:=.cells #[.int .i64 a1_0, .int .i64 a1_1, .int .i64 a1_2] 54 (0,0)) (kq BK158.out) hb);replace HB:=am (jc (Y6) hb);(try clear hb);(try clear hb2);(try clear hk);(try clear hi);(try clear ho0);have hcz34_0:=bc0 BK158.out;have hcz34_1:=bc1 BK158.out;have hcz34_2:=bc2 BK158.out;have hfz34_0:=ja BK158.out 0;have hfz34_1:=ja BK158.out 1;have hfz34_2:=ja BK158.out 2) |((with_reducible refine jB (N:=46) rfl ?_);refine Kd.R_lit k51 _ 51 ?hg (N:=46) ?hd (xs:=([(⟨0,8,0,0⟩:S51),(⟨1,1,a1_1,0⟩:S51),(⟨1,3,0,0⟩:S51)]:List (S51))) (inner:=[.int .i64 0, .int .i64 8, .int .i64 0, .int .i64 0, .int .i64 1, .int .i64 1, .int .i64 a1_1, .int .i64 0, .int .i64 1, .int .i64 3, .int .i64 0, .int .i64 0]) (ok:=fun _=>True) (okp:=fun _=>True) ?hr ?hp (fun _ hk=>hk) trivial (Below.refl _ _) (Nat.le_refl _) (by simp) ?_;(case hd=>rfl);(case hg=>rfl);(case hr=>exact Y4);(case hp=>exact (Reps.c4 (show Kd.M k51 _ _ _ (⟨0,8,0,0⟩:S51) [.int .i64 0, .int .i64 8, .int .i64 0, .int .i64 0] from (jfb _ _ _ (⟨0,8,0,0⟩:S51) )) (Reps.c4 (show Kd.M k51 _ _ _ (⟨1,1,a1_1,0⟩:S51) [.int .i64 1, .int .i64 1, .int .i64 a1_1, .int .i64 0] from (jfb _ _ _ (⟨1,1,a1_1,0⟩:S51) )) (Reps.c4 (show Kd.M k51 _ _ _ (⟨1,3,0,0⟩:S51) [.int .i64 1, .int .i64 3, .int .i64 0, .int .i64 0] from (jfb _ _ _ (⟨1,3,0,0⟩:S51) )) (Reps.none _ _)))));intro v181 w35 ho36 hb hg_ hnew_;clear hg_ hnew_;(first | rw [← Ny180.out] at ho36 |(simp only [Int.reduceToNat] at ho36;rw [← Ny180.out] at ho36));have HO182:=am (Kd.jra (Kd.jBb ho36 (Kd.R_lt (rq HO161.out))) (jv (Y6)));replace HO161:=am (Kd.jYa (rq HO161.out) (Kd.jlb ho36) hb);replace BK158:=am (je (g:=gb158) (o:=.cells #[.int .i64 a1_0, .int .i64 a1_1, .int .i64 a1_2] 54 (0,0)) (kq BK158.out) hb);replace HB:=am (jc (Y6) hb);clear hb ho36;obtain ⟨Ao38,co38,eo38⟩:=Kd.jga HO182.out;subst eo38) |((with_reducible refine jgb (b:=.append) (xs:=#[.tmp 40, .tmp 46]) rfl ?_);at_builtin;refine Kd.jPb k51 (w0:=w) w.heap.size rfl (.tmp 40) (.tmp 46) 30 51 (.agg #[(.int .i64 0),(.int .i64 0),(.int .i64 0),(.int .i64 0)]) 32 rfl Try.underlying30 info51 rfl (by decide) (by omega) v160 t159 y180 _ _ _ (fun k_=>some k_≠(.slice Ao38 y180.length co38:Value).ownBlock) (fun _=>False) rfl rfl ?aO ?aR (fun _ _ h=>h) (fun _ h=>h.elim) ?aF ?aB ?aS ?aL ?_;(case aR=>repeat (first | exact (Kd.jw HO182.out).2.2 |(with_reducible refine Kd.jMc ?_ _) |(with_reducible refine Kd.jEc ?_ _) |(with_reducible refine Kd.C_drew ?_)));(case aB=>exact (Y6));(case aF=>exact (fun k_ hk=>Kd.fresh' (Kd.R_lt (rq HO182.out)) k_ hk));(case aO=>exact (Y42));(case aS=>exact (jv (Y6)));(case aL=>have:=LMc31.out;omega);intro v184 w37 ho hb hg hat;rw [← Ny183.out] at ho;have n0_:=am (jvc (g:=gb158) (o:=.cells #[.int .i64 a1_0, .int .i64 a1_1, .int .i64 a1_2] 54 (0,0)) (kq BK158.out) hg (Kd.R_ne HO161.out BK158.out (by decide)));have n1_:=am (Kd.R_after (ok:=(fun _=>True)) (rq HO182.out) hg hat);have n2_:=am (hb);have n3_:=am (ho);clear BK158 HO182 HB HO161;have BK158:=n0_;have HO182:=n1_;have HB:=n2_;have HO185:=n3_;clear n0_ n1_ n2_ n3_ ho hb hg hat))
     go_ret
     exact ⟨_,Y0,by (with_reducible repeat (first | apply Kd.jGa | apply Kd.jKa | apply Kd.jLa));exact Kd.jca HO185.out (fun _ hk=>trivial),Y6⟩
    ·rw [if_neg c31] at H
     exact absurd H (by simp)
def jma.j0 : Nat → Int → Bool → List (S75) → Int → Int → Int → Int → Option (Bool)
 | 0,_,_,_,_,_,_,_=>none
 | k+1,x6,x7,x187000,x188000,x188001,x188002,x188003=>if x7=true then ((jy.f x188002 0 99).bind fun t188=>(if t188=true then (some (x188003 == 0)) else (some false))) else (if x6=2 then ((jja.f x187000 x188002).bind fun t189=>(if t189=true then ((jy.f x188003 0 99).bind fun t190=>(some t190)) else (some false))) else (if x6=8 then ((jja.f x187000 x188002).bind fun t191=>(if t191=true then (some (x188003 == 0)) else (some false))) else (if x6=11 then ((jy.f x188002 0 9).bind fun t192=>(if t192=true then ((jy.f x188003 0 1).bind fun t193=>(some t193)) else (some false))) else (if x6=12 then ((jy.f x188002 0 3).bind fun t194=>(if t194=true then (some (x188003 == 0)) else (some false))) else ((jy.f x188001 0 10).bind fun t195=>(if t195=true then (if x188002=0 then (some (x188003 == 0)) else (some false)) else (some false)))))))
def jma.f (k : Nat) (l0_0 : List (S75)) (a1_0 : Int) (a1_1 : Int) (a1_2 : Int) (a1_3 : Int) : Option (Bool) := if a1_1 = 1 then (jma.j0 k a1_1 (a1_1 == 1) l0_0 a1_0 a1_1 a1_2 a1_3) else (jma.j0 k a1_1 (a1_1 == 4) l0_0 a1_0 a1_1 a1_2 a1_3)
set_option maxHeartbeats 8000000 in
set_option maxRecDepth 100000 in
theorem jma.calls (k : Nat) (A0_0 : Option Addr) (c0_0 : Nat) (l0_0 : List (S75)) (a1_0 : Int) (a1_1 : Int) (a1_2 : Int) (a1_3 : Int) (r : Bool) (w : World) (hr0_0 : Kd.C k75 w A0_0 l0_0.length l0_0) (hc0_0 : l0_0.length ≤ c0_0) (h : jma.f k l0_0 a1_0 a1_1 a1_2 a1_3 = some r) :
  Calls Try.prog 68 #[.agg #[.slice A0_0 l0_0.length c0_0], .agg #[.int .i64 a1_0, .int .i64 a1_1, .int .i64 a1_2, .int .i64 a1_3]] w fun e w'=>e=.returned (.bool r)∧Below w.heap.size w w':=by
 have hu35:=Try.underlying35
 have hu51:=Try.underlying51
 have HR0_0:=am hr0_0
 have HC0_0:=am hc0_0
 clear hr0_0 hc0_0
 have HB:=am (Below.refl w.heap.size w)
 have H:(if a1_1=1 then (jma.j0 k a1_1 (a1_1 == 1) l0_0 a1_0 a1_1 a1_2 a1_3) else (jma.j0 k a1_1 (a1_1 == 4) l0_0 a1_0 a1_1 a1_2 a1_3))=some r:=h
 clear h
 have HC3:=am H
 clear H
 go_enter Try.func68,Try.ntmps68
 go_upto_if 7 with (first |((with_reducible refine jB (N:=2) rfl ?_);refine bE (N:=2) (cs:=#[.slice A0_0 l0_0.length c0_0]) (t:=35) ?_;intro gb186 hg w4 hbox hb;have BK186:=am (hbox);have GW186:=am ((Y1:w.heap.size≤gb186));have GE186:=am ((Y1:w.heap.size≤gb186));replace HB:=am (jc (bq) hb);clear hb hbox hg) |((with_reducible refine jB (N:=3) rfl ?_);refine bE (N:=3) (cs:=#[.int .i64 a1_0, .int .i64 a1_1, .int .i64 a1_2, .int .i64 a1_3]) (t:=51) ?_;intro gb187 hg w5 hbox hb;have BK187:=am (hbox);have GW187:=am ((Y71:w.heap.size≤gb187));have GE187:=am ((Y71:w.heap.size≤gb187));have NB186_187:=am ((by rw [hg];exact Nat.ne_of_lt (jza (g:=gb186) (o:=.cells #[.slice A0_0 l0_0.length c0_0] 35 (0,0)) (kq BK186.out)):gb186≠gb187));have NB187_186:=am ((by rw [hg];exact Nat.ne_of_gt (jza (g:=gb186) (o:=.cells #[.slice A0_0 l0_0.length c0_0] 35 (0,0)) (kq BK186.out)):gb187≠gb186));replace BK186:=am (je (g:=gb186) (o:=.cells #[.slice A0_0 l0_0.length c0_0] 35 (0,0)) (kq BK186.out) hb);replace HB:=am (jc (by repeat (first |(with_reducible first | exact HB.out | apply jk | apply jf | apply jm | refine jl ?_ GE186.out) | exact HB.out)) hb);clear hb hbox hg;have hnb6:=NB187_186.out;have hnc6:=NB186_187.out;have hcz7_0:=bc0 BK187.out;have hcz7_1:=bc1 BK187.out;have hcz7_2:=bc2 BK187.out;have hcz7_3:=bc3 BK187.out;have hfz7_0:=ja BK187.out 0;have hfz7_1:=ja BK187.out 1;have hfz7_2:=ja BK187.out 2;have hfz7_3:=ja BK187.out 3))
 (try simp only [Act.put,List.setIfInBounds_toArray,List.set_cons_zero,List.set_cons_succ])
 go_cut [7] (fun v7 wc=>∃ (kq:Nat) (x7_2:Bool),v7=.bool x7_2∧jq (jma.j0 kq a1_1 x7_2 l0_0 a1_0 a1_1 a1_2 a1_3=some r)∧jq (kq≤k)∧jq (wc.heap[gb186]?=some (.cells #[(.slice A0_0 l0_0.length c0_0)] 35 (0,0)))∧jq (wc.heap[gb187]?=some (.cells #[.int .i64 a1_0, .int .i64 a1_1, .int .i64 a1_2, .int .i64 a1_3] 51 (0,0)))∧jq (Below w.heap.size w wc))
 case first =>
  have H:=HC3.out
  clear HC3
  by_cases c8:a1_1=1
  ·rw [if_pos c8] at H
   have c8b0:(a1_1 == 1)=true:=beq_iff_eq.mpr c8
   have c8b1:(a1_1 != 1)=false:=bne_eq_false_iff_eq.mpr c8
   clear c8
   (first | rw [c8b0] |(simp only [jcb,jdb];rw [c8b0]) | skip)
   have H':=am H
   clear H
   go_wp2
   go_meet
   case rel=>exact ⟨_,((a1_1 == 1)),(sq),H',⟨Y15⟩,⟨kq BK186.out⟩,⟨kq BK187.out⟩,⟨Y9⟩⟩
  ·rw [if_neg c8] at H
   have c8b0:(a1_1 == 1)=false:=beq_eq_false_iff_ne.mpr c8
   have c8b1:(a1_1 != 1)=true:=bne_iff_ne.mpr c8
   (first | rw [c8b0] |(simp only [jcb,jdb];rw [c8b0]) | skip)
   have H':=am H
   clear H
   go_wp2
   go_meet
   case rel=>exact ⟨_,((a1_1 == 4)),(sq),H',⟨Y15⟩,⟨kq BK186.out⟩,⟨kq BK187.out⟩,⟨Y9⟩⟩
 case rest =>
  clear HC3
  try clear p2
  try clear c6
  try clear c8
  try clear c8b0
  try clear c8b1
  try clear hcz7_0
  try clear hcz7_1
  try clear hcz7_2
  try clear hcz7_3
  try clear hfz7_0
  try clear hfz7_1
  try clear hfz7_2
  try clear hfz7_3
  obtain ⟨kq,x7_2,rfl,HA,HJ2,BK186,BK187,HB⟩:=hcut
  cases kq with
  | zero=>exact absurd HA.out (by simp [jma.j0])
  | succ kj2 =>
   have H:=HA.out
   clear HA
   simp only [jma.j0] at H
   by_cases c9:x7_2=true
   ·subst c9
    have H1:((jy.f a1_2 0 99).bind fun t188=>(if t188=true then (some (a1_3 == 0)) else (some false)))=some r:=by rw [if_pos rfl] at H;exact H
    clear H
    have H:=H1
    clear H1
    replace H:=bzS H
    obtain ⟨t188,A100,H⟩:=H
    replace H:(if t188=true then (some (a1_3 == 0)) else (some false))=some r:=H
    have A10:=am A100
    clear A100
    by_cases c11:t188=true
    ·subst c11
     have H1:(some (a1_3 == 0))=some r:=by rw [if_pos rfl] at H;exact H
     clear H
     have H:=H1
     clear H1
     obtain rfl:=Option.some.inj H
     have hnb12:=NB187_186.out
     have hnc12:=NB186_187.out
     have hcz13_0:=bc0 BK187.out
     have hcz13_1:=bc1 BK187.out
     have hcz13_2:=bc2 BK187.out
     have hcz13_3:=bc3 BK187.out
     have hfz13_0:=ja BK187.out 0
     have hfz13_1:=ja BK187.out 1
     have hfz13_2:=ja BK187.out 2
     have hfz13_3:=ja BK187.out 3
     go_wp2_with (first |((with_reducible refine jg (f:=55) rfl ?_);refine gL (some 12) Try.func55 #[.int .i64 a1_2, .int .i64 0, .int .i64 99] ?_;(with_reducible refine (jy.calls a1_2 0 99 true _ A10.out).mono ?_);rintro e w' ⟨rfl,⟨nd,rfl⟩⟩;refine ⟨_,rfl,?_⟩))
     go_ret
     exact ⟨Y0,Y9⟩
    ·replace c11:=Bool.eq_false_iff.mpr c11
     subst c11
     have H1:(some false)=some r:=by rw [if_neg (show ¬ (false=true) by decide)] at H;exact H
     clear H
     have H:=H1
     clear H1
     obtain rfl:=Option.some.inj H
     have hnb14:=NB187_186.out
     have hnc14:=NB186_187.out
     have hcz15_0:=bc0 BK187.out
     have hcz15_1:=bc1 BK187.out
     have hcz15_2:=bc2 BK187.out
     have hcz15_3:=bc3 BK187.out
     have hfz15_0:=ja BK187.out 0
     have hfz15_1:=ja BK187.out 1
     have hfz15_2:=ja BK187.out 2
     have hfz15_3:=ja BK187.out 3
     go_wp2_with (first |((with_reducible refine jg (f:=55) rfl ?_);refine gL (some 12) Try.func55 #[.int .i64 a1_2, .int .i64 0, .int .i64 99] ?_;(with_reducible refine (jy.calls a1_2 0 99 false _ A10.out).mono ?_);rintro e w' ⟨rfl,⟨nd,rfl⟩⟩;refine ⟨_,rfl,?_⟩))
     go_ret
     exact ⟨Y0,Y9⟩
   ·replace c9:=Bool.eq_false_iff.mpr c9
    subst c9
    have H1:(if a1_1=2 then ((jja.f l0_0 a1_2).bind fun t189=>(if t189=true then ((jy.f a1_3 0 99).bind fun t190=>(some t190)) else (some false))) else (if a1_1=8 then ((jja.f l0_0 a1_2).bind fun t191=>(if t191=true then (some (a1_3 == 0)) else (some false))) else (if a1_1=11 then ((jy.f a1_2 0 9).bind fun t192=>(if t192=true then ((jy.f a1_3 0 1).bind fun t193=>(some t193)) else (some false))) else (if a1_1=12 then ((jy.f a1_2 0 3).bind fun t194=>(if t194=true then (some (a1_3 == 0)) else (some false))) else ((jy.f a1_1 0 10).bind fun t195=>(if t195=true then (if a1_2=0 then (some (a1_3 == 0)) else (some false)) else (some false)))))))=some r:=by rw [if_neg (show ¬ (false=true) by decide)] at H;exact H
    clear H
    have H:=H1
    clear H1
    by_cases c16:a1_1=2
    ·rw [if_pos c16] at H
     have c16b0:(a1_1 == 2)=true:=beq_iff_eq.mpr c16
     have c16b1:(a1_1 != 2)=false:=bne_eq_false_iff_eq.mpr c16
     clear c16
     replace H:=bzS H
     obtain ⟨t189,A170,H⟩:=H
     replace H:(if t189=true then ((jy.f a1_3 0 99).bind fun t190=>(some t190)) else (some false))=some r:=H
     have A17:=am A170
     clear A170
     by_cases c18:t189=true
     ·subst c18
      have H1:((jy.f a1_3 0 99).bind fun t190=>(some t190))=some r:=by rw [if_pos rfl] at H;exact H
      clear H
      have H:=H1
      clear H1
      replace H:=bzS H
      obtain ⟨t190,A190,H⟩:=H
      replace H:(some t190)=some r:=H
      have A19:=am A190
      clear A190
      obtain rfl:=Option.some.inj H
      have hnb20:=NB186_187.out
      have hnc20:=NB187_186.out
      have hcz21_0:=bc0 BK186.out
      have hfz21_0:=ja BK186.out 0
      have hcz22_0:=bc0 BK187.out
      have hcz22_1:=bc1 BK187.out
      have hcz22_2:=bc2 BK187.out
      have hcz22_3:=bc3 BK187.out
      have hfz22_0:=ja BK187.out 0
      have hfz22_1:=ja BK187.out 1
      have hfz22_2:=ja BK187.out 2
      have hfz22_3:=ja BK187.out 3
      go_wp2_with (first |((with_reducible refine jg (f:=54) rfl ?_);refine gL (some 23) Try.func54 #[.agg #[.slice A0_0 l0_0.length c0_0], .int .i64 a1_2] ?_;(with_reducible refine (jja.calls _ _ l0_0 a1_2 true _ ?side1 ?side2 A17.out).mono ?_);(case side1=>exact cq (Kd.jF HR0_0.out HB.out));(case side2=>exact HC0_0.out);rintro e w23 ⟨rfl,hb⟩;refine ⟨_,rfl,?_⟩;replace BK186:=am (je (g:=gb186) (o:=.cells #[.slice A0_0 l0_0.length c0_0] 35 (0,0)) (kq BK186.out) hb);replace BK187:=am (je (g:=gb187) (o:=.cells #[.int .i64 a1_0, .int .i64 a1_1, .int .i64 a1_2, .int .i64 a1_3] 51 (0,0)) (kq BK187.out) hb);replace HB:=am (jc (Y9) hb);(try clear hb);(try clear hb2);(try clear hk);(try clear hi);have hcz24_0:=bc0 BK187.out;have hcz24_1:=bc1 BK187.out;have hcz24_2:=bc2 BK187.out;have hcz24_3:=bc3 BK187.out;have hfz24_0:=ja BK187.out 0;have hfz24_1:=ja BK187.out 1;have hfz24_2:=ja BK187.out 2;have hfz24_3:=ja BK187.out 3) |(go_at_call 55;(with_reducible refine (jy.calls a1_3 0 99 t190 _ A19.out).mono ?_);rintro e w' ⟨rfl,⟨nd,rfl⟩⟩))
      go_ret
      exact ⟨Y0,Y9⟩
     ·replace c18:=Bool.eq_false_iff.mpr c18
      subst c18
      have H1:(some false)=some r:=by rw [if_neg (show ¬ (false=true) by decide)] at H;exact H
      clear H
      have H:=H1
      clear H1
      obtain rfl:=Option.some.inj H
      have hnb25:=NB186_187.out
      have hnc25:=NB187_186.out
      have hcz26_0:=bc0 BK186.out
      have hfz26_0:=ja BK186.out 0
      have hcz27_0:=bc0 BK187.out
      have hcz27_1:=bc1 BK187.out
      have hcz27_2:=bc2 BK187.out
      have hcz27_3:=bc3 BK187.out
      have hfz27_0:=ja BK187.out 0
      have hfz27_1:=ja BK187.out 1
      have hfz27_2:=ja BK187.out 2
      have hfz27_3:=ja BK187.out 3
      go_wp2_with (first |((with_reducible refine jg (f:=54) rfl ?_);refine gL (some 23) Try.func54 #[.agg #[.slice A0_0 l0_0.length c0_0], .int .i64 a1_2] ?_;(with_reducible refine (jja.calls _ _ l0_0 a1_2 false _ ?side1 ?side2 A17.out).mono ?_);(case side1=>exact cq (Kd.jF HR0_0.out HB.out));(case side2=>exact HC0_0.out);rintro e w28 ⟨rfl,hb⟩;refine ⟨_,rfl,?_⟩;replace BK186:=am (je (g:=gb186) (o:=.cells #[.slice A0_0 l0_0.length c0_0] 35 (0,0)) (kq BK186.out) hb);replace BK187:=am (je (g:=gb187) (o:=.cells #[.int .i64 a1_0, .int .i64 a1_1, .int .i64 a1_2, .int .i64 a1_3] 51 (0,0)) (kq BK187.out) hb);replace HB:=am (jc (Y9) hb);(try clear hb);(try clear hb2);(try clear hk);(try clear hi)))
      go_ret
      exact ⟨Y0,Y9⟩
    ·rw [if_neg c16] at H
     have c16b0:(a1_1 == 2)=false:=beq_eq_false_iff_ne.mpr c16
     have c16b1:(a1_1 != 2)=true:=bne_iff_ne.mpr c16
     by_cases c29:a1_1=8
     ·rw [if_pos c29] at H
      have c29b0:(a1_1 == 8)=true:=beq_iff_eq.mpr c29
      have c29b1:(a1_1 != 8)=false:=bne_eq_false_iff_eq.mpr c29
      clear c29
      replace H:=bzS H
      obtain ⟨t191,A300,H⟩:=H
      replace H:(if t191=true then (some (a1_3 == 0)) else (some false))=some r:=H
      have A30:=am A300
      clear A300
      by_cases c31:t191=true
      ·subst c31
       have H1:(some (a1_3 == 0))=some r:=by rw [if_pos rfl] at H;exact H
       clear H
       have H:=H1
       clear H1
       obtain rfl:=Option.some.inj H
       have hnb32:=NB186_187.out
       have hnc32:=NB187_186.out
       have hcz33_0:=bc0 BK186.out
       have hfz33_0:=ja BK186.out 0
       have hcz34_0:=bc0 BK187.out
       have hcz34_1:=bc1 BK187.out
       have hcz34_2:=bc2 BK187.out
       have hcz34_3:=bc3 BK187.out
       have hfz34_0:=ja BK187.out 0
       have hfz34_1:=ja BK187.out 1
       have hfz34_2:=ja BK187.out 2
       have hfz34_3:=ja BK187.out 3
       go_wp2_with (first |((with_reducible refine jg (f:=54) rfl ?_);refine gL (some 34) Try.func54 #[.agg #[.slice A0_0 l0_0.length c0_0], .int .i64 a1_2] ?_;(with_reducible refine (jja.calls _ _ l0_0 a1_2 true _ ?side1 ?side2 A30.out).mono ?_);(case side1=>exact cq (Kd.jF HR0_0.out HB.out));(case side2=>exact HC0_0.out);rintro e w35 ⟨rfl,hb⟩;refine ⟨_,rfl,?_⟩;replace BK186:=am (je (g:=gb186) (o:=.cells #[.slice A0_0 l0_0.length c0_0] 35 (0,0)) (kq BK186.out) hb);replace BK187:=am (je (g:=gb187) (o:=.cells #[.int .i64 a1_0, .int .i64 a1_1, .int .i64 a1_2, .int .i64 a1_3] 51 (0,0)) (kq BK187.out) hb);replace HB:=am (jc (Y9) hb);(try clear hb);(try clear hb2);(try clear hk);(try clear hi);have hcz36_0:=bc0 BK187.out;have hcz36_1:=bc1 BK187.out;have hcz36_2:=bc2 BK187.out;have hcz36_3:=bc3 BK187.out;have hfz36_0:=ja BK187.out 0;have hfz36_1:=ja BK187.out 1;have hfz36_2:=ja BK187.out 2;have hfz36_3:=ja BK187.out 3))
       go_ret
       exact ⟨Y0,Y9⟩
      ·replace c31:=Bool.eq_false_iff.mpr c31
       subst c31
       have H1:(some false)=some r:=by rw [if_neg (show ¬ (false=true) by decide)] at H;exact H
       clear H
       have H:=H1
       clear H1
       obtain rfl:=Option.some.inj H
       have hnb37:=NB186_187.out
       have hnc37:=NB187_186.out
       have hcz38_0:=bc0 BK186.out
       have hfz38_0:=ja BK186.out 0
       have hcz39_0:=bc0 BK187.out
       have hcz39_1:=bc1 BK187.out
       have hcz39_2:=bc2 BK187.out
       have hcz39_3:=bc3 BK187.out
       have hfz39_0:=ja BK187.out 0
       have hfz39_1:=ja BK187.out 1
       have hfz39_2:=ja BK187.out 2
       have hfz39_3:=ja BK187.out 3
       go_wp2_with (first |((with_reducible refine jg (f:=54) rfl ?_);refine gL (some 34) Try.func54 #[.agg #[.slice A0_0 l0_0.length c0_0], .int .i64 a1_2] ?_;(with_reducible refine (jja.calls _ _ l0_0 a1_2 false _ ?side1 ?side2 A30.out).mono ?_);(case side1=>exact cq (Kd.jF HR0_0.out HB.out));(case side2=>exact HC0_0.out);rintro e w40 ⟨rfl,hb⟩;refine ⟨_,rfl,?_⟩;replace BK186:=am (je (g:=gb186) (o:=.cells #[.slice A0_0 l0_0.length c0_0] 35 (0,0)) (kq BK186.out) hb);replace BK187:=am (je (g:=gb187) (o:=.cells #[.int .i64 a1_0, .int .i64 a1_1, .int .i64 a1_2, .int .i64 a1_3] 51 (0,0)) (kq BK187.out) hb);replace HB:=am (jc (Y9) hb);(try clear hb);(try clear hb2);(try clear hk);(try clear hi)))
       go_ret
       exact ⟨Y0,Y9⟩
     ·rw [if_neg c29] at H
      have c29b0:(a1_1 == 8)=false:=beq_eq_false_iff_ne.mpr c29
      have c29b1:(a1_1 != 8)=true:=bne_iff_ne.mpr c29
      by_cases c41:a1_1=11
      ·rw [if_pos c41] at H
       have c41b0:(a1_1 == 11)=true:=beq_iff_eq.mpr c41
       have c41b1:(a1_1 != 11)=false:=bne_eq_false_iff_eq.mpr c41
       clear c41
       replace H:=bzS H
       obtain ⟨t192,A420,H⟩:=H
       replace H:(if t192=true then ((jy.f a1_3 0 1).bind fun t193=>(some t193)) else (some false))=some r:=H
       have A42:=am A420
       clear A420
       by_cases c43:t192=true
       ·subst c43
        have H1:((jy.f a1_3 0 1).bind fun t193=>(some t193))=some r:=by rw [if_pos rfl] at H;exact H
        clear H
        have H:=H1
        clear H1
        replace H:=bzS H
        obtain ⟨t193,A440,H⟩:=H
        replace H:(some t193)=some r:=H
        have A44:=am A440
        clear A440
        obtain rfl:=Option.some.inj H
        have hnb45:=NB187_186.out
        have hnc45:=NB186_187.out
        have hcz46_0:=bc0 BK187.out
        have hcz46_1:=bc1 BK187.out
        have hcz46_2:=bc2 BK187.out
        have hcz46_3:=bc3 BK187.out
        have hfz46_0:=ja BK187.out 0
        have hfz46_1:=ja BK187.out 1
        have hfz46_2:=ja BK187.out 2
        have hfz46_3:=ja BK187.out 3
        go_wp2_with (first |((with_reducible refine jg (f:=55) rfl ?_);refine gL (some 44) Try.func55 #[.int .i64 a1_2, .int .i64 0, .int .i64 9] ?_;(with_reducible refine (jy.calls a1_2 0 9 true _ A42.out).mono ?_);rintro e w' ⟨rfl,⟨nd,rfl⟩⟩;refine ⟨_,rfl,?_⟩) |(go_at_call 55;(with_reducible refine (jy.calls a1_3 0 1 t193 _ A44.out).mono ?_);rintro e w' ⟨rfl,⟨nd,rfl⟩⟩))
        go_ret
        exact ⟨Y0,Y9⟩
       ·replace c43:=Bool.eq_false_iff.mpr c43
        subst c43
        have H1:(some false)=some r:=by rw [if_neg (show ¬ (false=true) by decide)] at H;exact H
        clear H
        have H:=H1
        clear H1
        obtain rfl:=Option.some.inj H
        have hnb47:=NB187_186.out
        have hnc47:=NB186_187.out
        have hcz48_0:=bc0 BK187.out
        have hcz48_1:=bc1 BK187.out
        have hcz48_2:=bc2 BK187.out
        have hcz48_3:=bc3 BK187.out
        have hfz48_0:=ja BK187.out 0
        have hfz48_1:=ja BK187.out 1
        have hfz48_2:=ja BK187.out 2
        have hfz48_3:=ja BK187.out 3
        go_wp2_with (first |((with_reducible refine jg (f:=55) rfl ?_);refine gL (some 44) Try.func55 #[.int .i64 a1_2, .int .i64 0, .int .i64 9] ?_;(with_reducible refine (jy.calls a1_2 0 9 false _ A42.out).mono ?_);rintro e w' ⟨rfl,⟨nd,rfl⟩⟩;refine ⟨_,rfl,?_⟩))
        go_ret
        exact ⟨Y0,Y9⟩
      ·rw [if_neg c41] at H
       have c41b0:(a1_1 == 11)=false:=beq_eq_false_iff_ne.mpr c41
       have c41b1:(a1_1 != 11)=true:=bne_iff_ne.mpr c41
       by_cases c49:a1_1=12
       ·rw [if_pos c49] at H
        have c49b0:(a1_1 == 12)=true:=beq_iff_eq.mpr c49
        have c49b1:(a1_1 != 12)=false:=bne_eq_false_iff_eq.mpr c49
        clear c49
        replace H:=bzS H
        obtain ⟨t194,A500,H⟩:=H
        replace H:(if t194=true then (some (a1_3 == 0)) else (some false))=some r:=H
        have A50:=am A500
        clear A500
        by_cases c51:t194=true
        ·subst c51
         have H1:(some (a1_3 == 0))=some r:=by rw [if_pos rfl] at H;exact H
         clear H
         have H:=H1
         clear H1
         obtain rfl:=Option.some.inj H
         have hnb52:=NB187_186.out
         have hnc52:=NB186_187.out
         have hcz53_0:=bc0 BK187.out
         have hcz53_1:=bc1 BK187.out
         have hcz53_2:=bc2 BK187.out
         have hcz53_3:=bc3 BK187.out
         have hfz53_0:=ja BK187.out 0
         have hfz53_1:=ja BK187.out 1
         have hfz53_2:=ja BK187.out 2
         have hfz53_3:=ja BK187.out 3
         go_wp2_with (first |((with_reducible refine jg (f:=55) rfl ?_);refine gL (some 54) Try.func55 #[.int .i64 a1_2, .int .i64 0, .int .i64 3] ?_;(with_reducible refine (jy.calls a1_2 0 3 true _ A50.out).mono ?_);rintro e w' ⟨rfl,⟨nd,rfl⟩⟩;refine ⟨_,rfl,?_⟩))
         go_ret
         exact ⟨Y0,Y9⟩
        ·replace c51:=Bool.eq_false_iff.mpr c51
         subst c51
         have H1:(some false)=some r:=by rw [if_neg (show ¬ (false=true) by decide)] at H;exact H
         clear H
         have H:=H1
         clear H1
         obtain rfl:=Option.some.inj H
         have hnb54:=NB187_186.out
         have hnc54:=NB186_187.out
         have hcz55_0:=bc0 BK187.out
         have hcz55_1:=bc1 BK187.out
         have hcz55_2:=bc2 BK187.out
         have hcz55_3:=bc3 BK187.out
         have hfz55_0:=ja BK187.out 0
         have hfz55_1:=ja BK187.out 1
         have hfz55_2:=ja BK187.out 2
         have hfz55_3:=ja BK187.out 3
         go_wp2_with (first |((with_reducible refine jg (f:=55) rfl ?_);refine gL (some 54) Try.func55 #[.int .i64 a1_2, .int .i64 0, .int .i64 3] ?_;(with_reducible refine (jy.calls a1_2 0 3 false _ A50.out).mono ?_);rintro e w' ⟨rfl,⟨nd,rfl⟩⟩;refine ⟨_,rfl,?_⟩))
         go_ret
         exact ⟨Y0,Y9⟩
       ·rw [if_neg c49] at H
        have c49b0:(a1_1 == 12)=false:=beq_eq_false_iff_ne.mpr c49
        have c49b1:(a1_1 != 12)=true:=bne_iff_ne.mpr c49
        replace H:=bzS H
        obtain ⟨t195,A560,H⟩:=H
        replace H:(if t195=true then (if a1_2=0 then (some (a1_3 == 0)) else (some false)) else (some false))=some r:=H
        have A56:=am A560
        clear A560
        by_cases c57:t195=true
        ·subst c57
         have H1:(if a1_2=0 then (some (a1_3 == 0)) else (some false))=some r:=by rw [if_pos rfl] at H;exact H
         clear H
         have H:=H1
         clear H1
         by_cases c58:a1_2=0
         ·rw [if_pos c58] at H
          have c58b0:(a1_2 == 0)=true:=beq_iff_eq.mpr c58
          have c58b1:(a1_2 != 0)=false:=bne_eq_false_iff_eq.mpr c58
          clear c58
          obtain rfl:=Option.some.inj H
          have hnb59:=NB187_186.out
          have hnc59:=NB186_187.out
          have hcz60_0:=bc0 BK187.out
          have hcz60_1:=bc1 BK187.out
          have hcz60_2:=bc2 BK187.out
          have hcz60_3:=bc3 BK187.out
          have hfz60_0:=ja BK187.out 0
          have hfz60_1:=ja BK187.out 1
          have hfz60_2:=ja BK187.out 2
          have hfz60_3:=ja BK187.out 3
          go_wp2_with (first |((with_reducible refine jg (f:=55) rfl ?_);refine gL (some 62) Try.func55 #[.int .i64 a1_1, .int .i64 0, .int .i64 10] ?_;(with_reducible refine (jy.calls a1_1 0 10 true _ A56.out).mono ?_);rintro e w' ⟨rfl,⟨nd,rfl⟩⟩;refine ⟨_,rfl,?_⟩))
          go_ret
          exact ⟨Y0,Y9⟩
         ·rw [if_neg c58] at H
          have c58b0:(a1_2 == 0)=false:=beq_eq_false_iff_ne.mpr c58
          have c58b1:(a1_2 != 0)=true:=bne_iff_ne.mpr c58
          obtain rfl:=Option.some.inj H
          have hnb61:=NB187_186.out
          have hnc61:=NB186_187.out
          have hcz62_0:=bc0 BK187.out
          have hcz62_1:=bc1 BK187.out
          have hcz62_2:=bc2 BK187.out
          have hcz62_3:=bc3 BK187.out
          have hfz62_0:=ja BK187.out 0
          have hfz62_1:=ja BK187.out 1
          have hfz62_2:=ja BK187.out 2
          have hfz62_3:=ja BK187.out 3
          go_wp2_with (first |((with_reducible refine jg (f:=55) rfl ?_);refine gL (some 62) Try.func55 #[.int .i64 a1_1, .int .i64 0, .int .i64 10] ?_;(with_reducible refine (jy.calls a1_1 0 10 true _ A56.out).mono ?_);rintro e w' ⟨rfl,⟨nd,rfl⟩⟩;refine ⟨_,rfl,?_⟩))
          go_ret
          exact ⟨Y0,Y9⟩
        ·replace c57:=Bool.eq_false_iff.mpr c57
         subst c57
         have H1:(some false)=some r:=by rw [if_neg (show ¬ (false=true) by decide)] at H;exact H
         clear H
         have H:=H1
         clear H1
         obtain rfl:=Option.some.inj H
         have hnb63:=NB187_186.out
         have hnc63:=NB186_187.out
         have hcz64_0:=bc0 BK187.out
         have hcz64_1:=bc1 BK187.out
         have hcz64_2:=bc2 BK187.out
         have hcz64_3:=bc3 BK187.out
         have hfz64_0:=ja BK187.out 0
         have hfz64_1:=ja BK187.out 1
         have hfz64_2:=ja BK187.out 2
         have hfz64_3:=ja BK187.out 3
         go_wp2_with (first |((with_reducible refine jg (f:=55) rfl ?_);refine gL (some 62) Try.func55 #[.int .i64 a1_1, .int .i64 0, .int .i64 10] ?_;(with_reducible refine (jy.calls a1_1 0 10 false _ A56.out).mono ?_);rintro e w' ⟨rfl,⟨nd,rfl⟩⟩;refine ⟨_,rfl,?_⟩))
         go_ret
         exact ⟨Y0,Y9⟩
def jFc.f (a0 : Int) : Option (Bool) := (jy.f a0 7 12).bind fun t196 => (some t196)
set_option maxHeartbeats 8000000 in
set_option maxRecDepth 100000 in
theorem jFc.calls (a0 : Int) (r : Bool) (w : World) (h : jFc.f a0 = some r) :
  Calls Try.prog 69 #[.int .i64 a0] w fun e w'=>e=.returned (.bool r)∧jZa w w':=by
 have H:((jy.f a0 7 12).bind fun t196=>(some t196))=some r:=h
 clear h
 replace H:=bzS H
 obtain ⟨t196,A20,H⟩:=H
 replace H:(some t196)=some r:=H
 have A2:=am A20
 clear A20
 obtain rfl:=Option.some.inj H
 go_enter Try.func69,Try.ntmps69
 go_wp2_with (first |((with_reducible refine jg (f:=55) rfl ?_);refine gL (some 4) Try.func55 #[.int .i64 a0, .int .i64 7, .int .i64 12] ?_;(with_reducible refine (jy.calls a0 7 12 t196 _ A2.out).mono ?_);rintro e w' ⟨rfl,⟨nd,rfl⟩⟩;refine ⟨_,rfl,?_⟩))
 go_ret
 exact ⟨sq,Y2⟩
def jkb.f (a0 : Int) : Option (Bool) := (jy.f a0 8 10).bind fun t197 => (some t197)
set_option maxHeartbeats 8000000 in
set_option maxRecDepth 100000 in
theorem jkb.calls (a0 : Int) (r : Bool) (w : World) (h : jkb.f a0 = some r) :
  Calls Try.prog 72 #[.int .i64 a0] w fun e w'=>e=.returned (.bool r)∧jZa w w':=by
 have H:((jy.f a0 8 10).bind fun t197=>(some t197))=some r:=h
 clear h
 replace H:=bzS H
 obtain ⟨t197,A20,H⟩:=H
 replace H:(some t197)=some r:=H
 have A2:=am A20
 clear A20
 obtain rfl:=Option.some.inj H
 go_enter Try.func72,Try.ntmps72
 go_wp2_with (first |((with_reducible refine jg (f:=55) rfl ?_);refine gL (some 4) Try.func55 #[.int .i64 a0, .int .i64 8, .int .i64 10] ?_;(with_reducible refine (jy.calls a0 8 10 t197 _ A2.out).mono ?_);rintro e w' ⟨rfl,⟨nd,rfl⟩⟩;refine ⟨_,rfl,?_⟩))
 go_ret
 exact ⟨sq,Y2⟩
def jka.l0 : Nat → List (S51) → Int → Int → Option (Int)
 | 0,_,_,_=>none
 | k+1,x0,x1,x5=>if x5<(x0.length:Int) then (if 0≤x5 then (if 0≤x1 then (if x1<(x0.length:Int) then (if ((jd x0 x5).f0) > ((jd x0 x1).f0) then (jka.l0 k x0 x1 (wrap64 (x5+1))) else (some x5)) else (none)) else (none)) else (none)) else (some x5)
def jka.f (k : Nat) (l0 : List (S51)) (a1 : Int) : Option (Int) := jka.l0 k l0 a1 (wrap64 (a1 + 1))
set_option maxHeartbeats 8000000 in
set_option maxRecDepth 100000 in
theorem jka.calls (k : Nat) (A0 : Option Addr) (c0 : Nat) (l0 : List (S51)) (a1 : Int) (r : Int) (w : World) (hr0 : Kd.C k51 w A0 l0.length l0) (hc0 : l0.length ≤ c0) (h : jka.f k l0 a1 = some r) :
  Calls Try.prog 82 #[.slice A0 l0.length c0, .int .i64 a1] w fun e w'=>e=.returned (.int .i64 r)∧jZa w w':=by
 have HR0:=am hr0
 have HC0:=am hc0
 clear hr0 hc0
 have H:(jka.l0 k l0 a1 (wrap64 (a1+1)))=some r:=h
 clear h
 have H':=am H
 clear H
 go_enter Try.func82,Try.ntmps82
 go_wp2
 repeat (go_quiet (fail);try go_wp2)
 go_loopg [5] k (fun kq v5 w'=>∃ (x5_1:Int),v5=.int .i64 x5_1∧jq (jka.l0 kq l0 a1 x5_1=some r)∧jq (kq≤k)∧jZa w w')
 case atStart=>exact ⟨(wrap64 (a1+1)),(sq),H',⟨Nat.le_refl _⟩,Y2⟩
 case round =>
  clear H'
  try clear p2
  obtain ⟨x5_1,rfl,HA,HK1,⟨m1,rfl⟩⟩:=hrel
  cases gk with
  | zero=>exact absurd HA.out (by simp [jka.l0])
  | succ k1 =>
   have H:=HA.out
   clear HA
   simp only [jka.l0] at H
   by_cases c3:x5_1<(l0.length:Int)
   ·rw [if_pos c3] at H
    have c3b0:decide (x5_1<(l0.length:Int))=true:=dzT c3
    clear c3
    by_cases c4:0≤x5_1
    ·rw [if_pos c4] at H
     have c4b0:decide (0≤x5_1)=true:=dzT c4
     clear c4
     by_cases c5:0≤a1
     ·rw [if_pos c5] at H
      have c5b0:decide (0≤a1)=true:=dzT c5
      clear c5
      by_cases c6:a1<(l0.length:Int)
      ·rw [if_pos c6] at H
       have c6b0:decide (a1<(l0.length:Int))=true:=dzT c6
       clear c6
       by_cases c7:((jd l0 x5_1).f0) > ((jd l0 a1).f0)
       ·rw [if_pos c7] at H
        have c7b0:decide (((jd l0 a1).f0)<((jd l0 x5_1).f0))=true:=dzT c7
        clear c7
        have H':=am H
        clear H
        have p198:0≤(x5_1:Int):=ozD (uq)
        have q198:x5_1<(l0.length:Int):=ozD (uq)
        obtain ⟨ad198,e198,hx198_0,hx198_1,hx198_2,hx198_3⟩:=jAa HR0.out x5_1 p198 q198
        cases e198
        replace p198:=ezT p198
        replace q198:=ezT q198
        have p199:0≤(a1:Int):=ozD (uq)
        have q199:a1<(l0.length:Int):=ozD (uq)
        obtain ⟨ad199,e199,hx199_0,hx199_1,hx199_2,hx199_3⟩:=jAa HR0.out a1 p199 q199
        obtain rfl:ad198=ad199:=(by injection e199)
        replace p199:=ezT p199
        replace q199:=ezT q199
        go_wp2
        repeat (go_quiet (fail);try go_wp2)
        go_roundg k1
        case measure=>have:=HK1.out;omega
        case rel=>exact ⟨(wrap64 (x5_1+1)),(sq),H',⟨by have:=HK1.out;omega⟩,Y2⟩
       ·rw [if_neg c7] at H
        have c7b0:decide (((jd l0 a1).f0)<((jd l0 x5_1).f0))=false:=dzF c7
        clear c7
        obtain rfl:=Option.some.inj H
        have p198:0≤(x5_1:Int):=ozD (uq)
        have q198:x5_1<(l0.length:Int):=ozD (uq)
        obtain ⟨ad198,e198,hx198_0,hx198_1,hx198_2,hx198_3⟩:=jAa HR0.out x5_1 p198 q198
        cases e198
        replace p198:=ezT p198
        replace q198:=ezT q198
        have p199:0≤(a1:Int):=ozD (uq)
        have q199:a1<(l0.length:Int):=ozD (uq)
        obtain ⟨ad199,e199,hx199_0,hx199_1,hx199_2,hx199_3⟩:=jAa HR0.out a1 p199 q199
        obtain rfl:ad198=ad199:=(by injection e199)
        replace p199:=ezT p199
        replace q199:=ezT q199
        go_wp2
        repeat (go_quiet (fail);try go_wp2)
        go_ret
        exact ⟨sq,Y2⟩
      ·rw [if_neg c6] at H
       exact absurd H (by simp)
     ·rw [if_neg c5] at H
      exact absurd H (by simp)
    ·rw [if_neg c4] at H
     exact absurd H (by simp)
   ·rw [if_neg c3] at H
    have c3b0:decide (x5_1<(l0.length:Int))=false:=dzF c3
    clear c3
    obtain rfl:=Option.some.inj H
    go_wp2
    repeat (go_quiet (fail);try go_wp2)
    go_ret
    exact ⟨sq,Y2⟩
def jWa.f (k : Nat) (l0 : List (S51)) (a1 : Int) : Option (Int) := (jka.f k l0 a1).bind fun t200 => (if t200 < (l0.length : Int) then (if 0 ≤ t200 then (if 0 ≤ a1 then (if a1 < (l0.length : Int) then (if ((jd l0 t200).f0) = ((jd l0 a1).f0) then (some t200) else (some (l0.length : Int))) else (none)) else (none)) else (none)) else (some (l0.length : Int)))
set_option maxHeartbeats 8000000 in
set_option maxRecDepth 100000 in
theorem jWa.calls (k : Nat) (A0 : Option Addr) (c0 : Nat) (l0 : List (S51)) (a1 : Int) (r : Int) (w : World) (hr0 : Kd.C k51 w A0 l0.length l0) (hc0 : l0.length ≤ c0) (h : jWa.f k l0 a1 = some r) :
  Calls Try.prog 81 #[.slice A0 l0.length c0, .int .i64 a1] w fun e w'=>e=.returned (.int .i64 r)∧jZa w w':=by
 have HR0:=am hr0
 have HC0:=am hc0
 clear hr0 hc0
 have H:((jka.f k l0 a1).bind fun t200=>(if t200<(l0.length:Int) then (if 0≤t200 then (if 0≤a1 then (if a1<(l0.length:Int) then (if ((jd l0 t200).f0)=((jd l0 a1).f0) then (some t200) else (some (l0.length:Int))) else (none)) else (none)) else (none)) else (some (l0.length:Int))))=some r:=h
 clear h
 replace H:=bzS H
 obtain ⟨t200,A30,H⟩:=H
 replace H:(if t200<(l0.length:Int) then (if 0≤t200 then (if 0≤a1 then (if a1<(l0.length:Int) then (if ((jd l0 t200).f0)=((jd l0 a1).f0) then (some t200) else (some (l0.length:Int))) else (none)) else (none)) else (none)) else (some (l0.length:Int)))=some r:=H
 have A3:=am A30
 clear A30
 by_cases c4:t200<(l0.length:Int)
 ·rw [if_pos c4] at H
  have c4b0:decide (t200<(l0.length:Int))=true:=dzT c4
  clear c4
  by_cases c5:0≤t200
  ·rw [if_pos c5] at H
   have c5b0:decide (0≤t200)=true:=dzT c5
   clear c5
   by_cases c6:0≤a1
   ·rw [if_pos c6] at H
    have c6b0:decide (0≤a1)=true:=dzT c6
    clear c6
    by_cases c7:a1<(l0.length:Int)
    ·rw [if_pos c7] at H
     have c7b0:decide (a1<(l0.length:Int))=true:=dzT c7
     clear c7
     by_cases c8:((jd l0 t200).f0)=((jd l0 a1).f0)
     ·rw [if_pos c8] at H
      have c8b0:(((jd l0 t200).f0) == ((jd l0 a1).f0))=true:=beq_iff_eq.mpr c8
      have c8b1:(((jd l0 t200).f0) != ((jd l0 a1).f0))=false:=bne_eq_false_iff_eq.mpr c8
      clear c8
      obtain rfl:=Option.some.inj H
      go_enter Try.func81,Try.ntmps81
      have p201:0≤(t200:Int):=ozD (uq)
      have q201:t200<(l0.length:Int):=ozD (uq)
      obtain ⟨ad201,e201,hx201_0,hx201_1,hx201_2,hx201_3⟩:=jAa HR0.out t200 p201 q201
      cases e201
      replace p201:=ezT p201
      replace q201:=ezT q201
      have p202:0≤(a1:Int):=ozD (uq)
      have q202:a1<(l0.length:Int):=ozD (uq)
      obtain ⟨ad202,e202,hx202_0,hx202_1,hx202_2,hx202_3⟩:=jAa HR0.out a1 p202 q202
      obtain rfl:ad201=ad202:=(by injection e202)
      replace p202:=ezT p202
      replace q202:=ezT q202
      go_wp2_with (first |(go_at_call 82;(with_reducible refine (jka.calls k _ _ l0 a1 t200 _ ?side1 ?side2 A3.out).mono ?_);(case side1=>exact Y16);(case side2=>exact HC0.out);rintro e w' ⟨rfl,⟨nd,rfl⟩⟩;(try first | exact ⟨rfl,_,World.drewN_drewN _ _ _⟩ | exact ⟨rfl,_,Eq.trans (World.drewN_drewN _ _ _) (congrArg (World.drewN _) (Nat.add_assoc _ _ _))⟩)))
      repeat (go_quiet (first |(go_at_call 82;(with_reducible refine (jka.calls k _ _ l0 a1 t200 _ ?side1 ?side2 A3.out).mono ?_);(case side1=>exact Y16);(case side2=>exact HC0.out);rintro e w' ⟨rfl,⟨nd,rfl⟩⟩;(try first | exact ⟨rfl,_,World.drewN_drewN _ _ _⟩ | exact ⟨rfl,_,Eq.trans (World.drewN_drewN _ _ _) (congrArg (World.drewN _) (Nat.add_assoc _ _ _))⟩)));try go_wp2_with (first |(go_at_call 82;(with_reducible refine (jka.calls k _ _ l0 a1 t200 _ ?side1 ?side2 A3.out).mono ?_);(case side1=>exact Y16);(case side2=>exact HC0.out);rintro e w' ⟨rfl,⟨nd,rfl⟩⟩;(try first | exact ⟨rfl,_,World.drewN_drewN _ _ _⟩ | exact ⟨rfl,_,Eq.trans (World.drewN_drewN _ _ _) (congrArg (World.drewN _) (Nat.add_assoc _ _ _))⟩))))
      go_ret
      exact ⟨sq,Y2⟩
     ·rw [if_neg c8] at H
      have c8b0:(((jd l0 t200).f0) == ((jd l0 a1).f0))=false:=beq_eq_false_iff_ne.mpr c8
      have c8b1:(((jd l0 t200).f0) != ((jd l0 a1).f0))=true:=bne_iff_ne.mpr c8
      obtain rfl:=Option.some.inj H
      go_enter Try.func81,Try.ntmps81
      have p201:0≤(t200:Int):=ozD (uq)
      have q201:t200<(l0.length:Int):=ozD (uq)
      obtain ⟨ad201,e201,hx201_0,hx201_1,hx201_2,hx201_3⟩:=jAa HR0.out t200 p201 q201
      cases e201
      replace p201:=ezT p201
      replace q201:=ezT q201
      have p202:0≤(a1:Int):=ozD (uq)
      have q202:a1<(l0.length:Int):=ozD (uq)
      obtain ⟨ad202,e202,hx202_0,hx202_1,hx202_2,hx202_3⟩:=jAa HR0.out a1 p202 q202
      obtain rfl:ad201=ad202:=(by injection e202)
      replace p202:=ezT p202
      replace q202:=ezT q202
      go_wp2_with (first |(go_at_call 82;(with_reducible refine (jka.calls k _ _ l0 a1 t200 _ ?side1 ?side2 A3.out).mono ?_);(case side1=>exact Y16);(case side2=>exact HC0.out);rintro e w' ⟨rfl,⟨nd,rfl⟩⟩;(try first | exact ⟨rfl,_,World.drewN_drewN _ _ _⟩ | exact ⟨rfl,_,Eq.trans (World.drewN_drewN _ _ _) (congrArg (World.drewN _) (Nat.add_assoc _ _ _))⟩)))
      repeat (go_quiet (first |(go_at_call 82;(with_reducible refine (jka.calls k _ _ l0 a1 t200 _ ?side1 ?side2 A3.out).mono ?_);(case side1=>exact Y16);(case side2=>exact HC0.out);rintro e w' ⟨rfl,⟨nd,rfl⟩⟩;(try first | exact ⟨rfl,_,World.drewN_drewN _ _ _⟩ | exact ⟨rfl,_,Eq.trans (World.drewN_drewN _ _ _) (congrArg (World.drewN _) (Nat.add_assoc _ _ _))⟩)));try go_wp2_with (first |(go_at_call 82;(with_reducible refine (jka.calls k _ _ l0 a1 t200 _ ?side1 ?side2 A3.out).mono ?_);(case side1=>exact Y16);(case side2=>exact HC0.out);rintro e w' ⟨rfl,⟨nd,rfl⟩⟩;(try first | exact ⟨rfl,_,World.drewN_drewN _ _ _⟩ | exact ⟨rfl,_,Eq.trans (World.drewN_drewN _ _ _) (congrArg (World.drewN _) (Nat.add_assoc _ _ _))⟩))))
      go_ret
      exact ⟨sq,Y2⟩
    ·rw [if_neg c7] at H
     exact absurd H (by simp)
   ·rw [if_neg c6] at H
    exact absurd H (by simp)
  ·rw [if_neg c5] at H
   exact absurd H (by simp)
 ·rw [if_neg c4] at H
  have c4b0:decide (t200<(l0.length:Int))=false:=dzF c4
  clear c4
  obtain rfl:=Option.some.inj H
  go_enter Try.func81,Try.ntmps81
  go_wp2_with (first |(go_at_call 82;(with_reducible refine (jka.calls k _ _ l0 a1 t200 _ ?side1 ?side2 A3.out).mono ?_);(case side1=>exact Y16);(case side2=>exact HC0.out);rintro e w' ⟨rfl,⟨nd,rfl⟩⟩;(try first | exact ⟨rfl,_,World.drewN_drewN _ _ _⟩ | exact ⟨rfl,_,Eq.trans (World.drewN_drewN _ _ _) (congrArg (World.drewN _) (Nat.add_assoc _ _ _))⟩)))
  repeat (go_quiet (first |(go_at_call 82;(with_reducible refine (jka.calls k _ _ l0 a1 t200 _ ?side1 ?side2 A3.out).mono ?_);(case side1=>exact Y16);(case side2=>exact HC0.out);rintro e w' ⟨rfl,⟨nd,rfl⟩⟩;(try first | exact ⟨rfl,_,World.drewN_drewN _ _ _⟩ | exact ⟨rfl,_,Eq.trans (World.drewN_drewN _ _ _) (congrArg (World.drewN _) (Nat.add_assoc _ _ _))⟩)));try go_wp2_with (first |(go_at_call 82;(with_reducible refine (jka.calls k _ _ l0 a1 t200 _ ?side1 ?side2 A3.out).mono ?_);(case side1=>exact Y16);(case side2=>exact HC0.out);rintro e w' ⟨rfl,⟨nd,rfl⟩⟩;(try first | exact ⟨rfl,_,World.drewN_drewN _ _ _⟩ | exact ⟨rfl,_,Eq.trans (World.drewN_drewN _ _ _) (congrArg (World.drewN _) (Nat.add_assoc _ _ _))⟩))))
  go_ret
  exact ⟨sq,Y2⟩
def jEa.l0 : Nat → List (S51) → List Int → Int → Option (List Int)
 | 0,_,_,_=>none
 | k+1,x0,x5,x6=>if x6<(x0.length:Int) then (if 0≤x6 then ((jkb.f ((jd x0 x6).f1)).bind fun t208=>(if t208=true then (if x5.length<17592186044416 then ((jWa.f k x0 x6).bind fun t212=>(jEa.l0 k x0 (x5 ++ [x6]) t212)) else (none)) else (some x5))) else (none)) else (some x5)
def jEa.f (k : Nat) (l0 : List (S51)) (a1 : Int) : Option (List Int) := (jWa.f k l0 a1).bind fun t206 => (jEa.l0 k l0 (([a1] : List Int)) t206)
set_option maxHeartbeats 8000000 in
set_option maxRecDepth 100000 in
theorem jEa.calls (k : Nat) (A0 : Option Addr) (c0 : Nat) (l0 : List (S51)) (a1 : Int) (r : List Int) (w : World) (hr0 : Kd.C k51 w A0 l0.length l0) (hc0 : l0.length ≤ c0) (h : jEa.f k l0 a1 = some r) :
  Calls Try.prog 80 #[.slice A0 l0.length c0, .int .i64 a1] w fun e w'=>∃ v0_:Value,e=.returned (v0_)∧Kd.R (Kd.int .i64) 3 w' w.heap.size (fun _=>True) v0_ r∧Below w.heap.size w w':=by
 have HR0:=am hr0
 have HC0:=am hc0
 clear hr0 hc0
 have HB:=am (Below.refl w.heap.size w)
 have H:((jWa.f k l0 a1).bind fun t206=>(jEa.l0 k l0 (([a1]:List Int)) t206))=some r:=h
 clear h
 obtain ⟨y203,hy203⟩:∃ y_:List Int,y_=(([a1]:List Int)):=⟨_,rfl⟩
 replace H:((jWa.f k l0 a1).bind fun t206=>(jEa.l0 k l0 y203 t206))=some r:=by first |(rw [hy203];with_reducible exact H) |(have H2_:=(Option.bind_some _ _).symm.trans H;rw [hy203];with_reducible exact H2_) |(have H2_:=(Option.bind_some _ _).symm.trans H;with_reducible exact H2_) | with_reducible exact H |(rw [hy203];exact H) | exact H
 have Ny203:=am hy203
 clear hy203
 replace H:=bzS H
 obtain ⟨t206,A30,H⟩:=H
 replace H:(jEa.l0 k l0 y203 t206)=some r:=H
 have A3:=am A30
 clear A30
 have H':=am H
 clear H
 go_enter Try.func80,Try.ntmps80
 go_wp2_with (first |((with_reducible refine jB (N:=8) rfl ?_);refine Kd.R_lit (Kd.int .i64) _ 3 ?hg (N:=8) ?hd (xs:=([a1]:List Int)) (inner:=[.int .i64 a1]) (ok:=fun _=>True) (okp:=fun _=>True) ?hr ?hp (fun _ hk=>hk) trivial (Below.refl _ _) (Nat.le_refl _) (by simp) ?_;(case hd=>rfl);(case hg=>rfl);(case hr=>exact Y4);(case hp=>exact (Reps.one (show Kd.M (Kd.int .i64) _ _ _ a1 [.int .i64 a1] from rfl) (Reps.none _ _)));intro v204 w4 ho5 hb hg_ hnew_;clear hg_ hnew_;(first | rw [← Ny203.out] at ho5 |(simp only [Int.reduceToNat] at ho5;rw [← Ny203.out] at ho5));have HO205:=am (Kd.jra ho5 (jv (bq)));replace HB:=am (jc (bq) hb);clear hb ho5) |((with_reducible refine jg (f:=81) rfl ?_);refine gL (some 11) Try.func81 #[.slice A0 l0.length c0, .int .i64 a1] ?_;(with_reducible refine (jWa.calls k _ _ l0 a1 t206 _ ?side1 ?side2 A3.out).mono ?_);(case side1=>exact cq (Kd.jF HR0.out HB.out));(case side2=>exact HC0.out);rintro e w' ⟨rfl,⟨nd,rfl⟩⟩;refine ⟨_,rfl,?_⟩))
 go_loopg [5,6] k (fun kq v5 v6 w'=>∃ (x5_1:List Int) (x6_1:Int),v6=.int .i64 x6_1∧jq (jEa.l0 kq l0 x5_1 x6_1=some r)∧jq (kq≤k)∧jq (Kd.R (Kd.int .i64) 3 w' w.heap.size (fun _=>True) v5 x5_1)∧jq (Below w.heap.size w w'))
 case atStart=>exact ⟨(y203),(t206),(sq),H',⟨Nat.le_refl _⟩,⟨rq HO205.out⟩,⟨bq⟩⟩
 case round =>
  clear H'
  try clear p2
  obtain ⟨x5_1,x6_1,rfl,HA,HK1,HO_5,HB⟩:=hrel
  cases gk with
  | zero=>exact absurd HA.out (by simp [jEa.l0])
  | succ k1 =>
   have H:=HA.out
   clear HA
   simp only [jEa.l0] at H
   by_cases c6:x6_1<(l0.length:Int)
   ·rw [if_pos c6] at H
    have c6b0:decide (x6_1<(l0.length:Int))=true:=dzT c6
    clear c6
    by_cases c7:0≤x6_1
    ·rw [if_pos c7] at H
     have c7b0:decide (0≤x6_1)=true:=dzT c7
     clear c7
     replace H:=bzS H
     obtain ⟨t208,A80,H⟩:=H
     replace H:(if t208=true then (if x5_1.length<17592186044416 then ((jWa.f k1 l0 x6_1).bind fun t212=>(jEa.l0 k1 l0 (x5_1 ++ [x6_1]) t212)) else (none)) else (some x5_1))=some r:=H
     have A8:=am A80
     clear A80
     by_cases c9:t208=true
     ·subst c9
      have H1:(if x5_1.length<17592186044416 then ((jWa.f k1 l0 x6_1).bind fun t212=>(jEa.l0 k1 l0 (x5_1 ++ [x6_1]) t212)) else (none))=some r:=by rw [if_pos rfl] at H;exact H
      clear H
      have H:=H1
      clear H1
      by_cases c10:x5_1.length<17592186044416
      ·rw [if_pos c10] at H
       have LMc10:=am c10
       clear c10
       obtain ⟨y209,hy209⟩:∃ y_:List Int,y_=(x5_1 ++ [x6_1]):=⟨_,rfl⟩
       replace H:((jWa.f k1 l0 x6_1).bind fun t212=>(jEa.l0 k1 l0 y209 t212))=some r:=by first |(rw [hy209];with_reducible exact H) |(have H2_:=(Option.bind_some _ _).symm.trans H;rw [hy209];with_reducible exact H2_) |(have H2_:=(Option.bind_some _ _).symm.trans H;with_reducible exact H2_) | with_reducible exact H |(rw [hy209];exact H) | exact H
       have Ny209:=am hy209
       clear hy209
       replace H:=bzS H
       obtain ⟨t212,A110,H⟩:=H
       replace H:(jEa.l0 k1 l0 y209 t212)=some r:=H
       have A11:=am A110
       clear A110
       have H':=am H
       clear H
       have p207:0≤(x6_1:Int):=ozD (uq)
       have q207:x6_1<(l0.length:Int):=ozD (uq)
       obtain ⟨ad207,e207,hx207_0,hx207_1,hx207_2,hx207_3⟩:=jAa HR0.out x6_1 p207 q207
       cases e207
       replace hx207_0:=cb HB.out hx207_0
       replace hx207_1:=cb HB.out hx207_1
       replace hx207_2:=cb HB.out hx207_2
       replace hx207_3:=cb HB.out hx207_3
       replace p207:=ezT p207
       replace q207:=ezT q207
       go_wp2_with (first |(go_at_call 72;(with_reducible refine (jkb.calls ((jd l0 x6_1).f1) true _ A8.out).mono ?_);rintro e w' ⟨rfl,⟨nd,rfl⟩⟩) |((with_reducible refine jgb (b:=.append) (xs:=#[.tmp 27, .tmp 29]) rfl ?_);at_builtin;refine Kd.R_append (Kd.int .i64) (w0:=w) w.heap.size rfl (.tmp 27) (.tmp 29) 102 3 (.int .i64 0) 8 rfl Try.underlying102 info3 rfl (by decide) (by omega) u5 x5_1 x6_1 [.int .i64 x6_1] (fun _=>True) (fun _=>False) rfl rfl ?aP (fun _ hk=>hk.elim) ?aF ?aO ?aB ?aS ?aL ?_;(case aP=>exact rfl);(case aB=>exact (bq));(case aF=>exact (fun _ _=>trivial));(case aO=>exact (rq HO_5.out));(case aS=>exact (jv (bq)));(case aL=>have:=LMc10.out;omega);intro v210 w12 ho hb hg hat;rw [← Ny209.out] at ho;have n0_:=am (hb);have n1_:=am (ho);clear HB HO_5;have HB:=n0_;have HO211:=n1_;clear n0_ n1_ ho hb hg hat) |((with_reducible refine jg (f:=81) rfl ?_);refine gL (some 26) Try.func81 #[.slice (some ad207) l0.length c0, .int .i64 x6_1] ?_;(with_reducible refine (jWa.calls k1 _ _ l0 x6_1 t212 _ ?side1 ?side2 A11.out).mono ?_);(case side1=>exact cq (Kd.jF HR0.out HB.out));(case side2=>exact HC0.out);rintro e w' ⟨rfl,⟨nd,rfl⟩⟩;refine ⟨_,rfl,?_⟩))
       go_roundg k1
       case measure=>have:=HK1.out;omega
       case rel=>exact ⟨(y209),(t212),(sq),H',⟨by have:=HK1.out;omega⟩,⟨rq HO211.out⟩,⟨bq⟩⟩
      ·rw [if_neg c10] at H
       exact absurd H (by simp)
     ·replace c9:=Bool.eq_false_iff.mpr c9
      subst c9
      have H1:(some x5_1)=some r:=by rw [if_neg (show ¬ (false=true) by decide)] at H;exact H
      clear H
      have H:=H1
      clear H1
      obtain rfl:=Option.some.inj H
      have p207:0≤(x6_1:Int):=ozD (uq)
      have q207:x6_1<(l0.length:Int):=ozD (uq)
      obtain ⟨ad207,e207,hx207_0,hx207_1,hx207_2,hx207_3⟩:=jAa HR0.out x6_1 p207 q207
      cases e207
      replace hx207_0:=cb HB.out hx207_0
      replace hx207_1:=cb HB.out hx207_1
      replace hx207_2:=cb HB.out hx207_2
      replace hx207_3:=cb HB.out hx207_3
      replace p207:=ezT p207
      replace q207:=ezT q207
      go_wp2_with (first |(go_at_call 72;(with_reducible refine (jkb.calls ((jd l0 x6_1).f1) false _ A8.out).mono ?_);rintro e w' ⟨rfl,⟨nd,rfl⟩⟩))
      go_ret
      exact ⟨_,Y0,rq HO_5.out,bq⟩
    ·rw [if_neg c7] at H
     exact absurd H (by simp)
   ·rw [if_neg c6] at H
    have c6b0:decide (x6_1<(l0.length:Int))=false:=dzF c6
    clear c6
    obtain rfl:=Option.some.inj H
    go_wp2
    go_ret
    exact ⟨_,Y0,rq HO_5.out,bq⟩
mutual
def jC.l0 : Nat → List (S51) → List Int → Int → Int → Option (Bool)
 | 0,_,_,_,_=>none
 | k+1,x0,x5,x6,x7=>if x7<(x5.length:Int) then (if 0≤x7 then (if 0≤(rd x5 x7) then (if (rd x5 x7)<(x0.length:Int) then (if ((jd x0 (rd x5 x7)).f1)=8 then (jC.j1 k x0 x5 (wrap64 (x6+1)) x7 ((jd x0 (rd x5 x7)).f1)) else (jC.j1 k x0 x5 x6 x7 ((jd x0 (rd x5 x7)).f1))) else (none)) else (none)) else (none)) else (if (x5.length:Int) > 1 then (some (decide (x6≤6))) else (some false))
def jC.j1 : Nat → List (S51) → List Int → Int → Int → Int → Option (Bool)
 | 0,_,_,_,_,_=>none
 | k+1,x0,x5,x6,x7,x8=>if x7 > 1 then (if 0≤(wrap64 (x7 - 1)) then (if (wrap64 (x7 - 1))<(x5.length:Int) then (if 0≤(rd x5 (wrap64 (x7 - 1))) then (if (rd x5 (wrap64 (x7 - 1)))<(x0.length:Int) then (if x8<((jd x0 (rd x5 (wrap64 (x7 - 1)))).f1) then (jC.j2 k x0 x5 x6 x7 true) else (if x8=((jd x0 (rd x5 (wrap64 (x7 - 1)))).f1) then (if x8=8 then (if x8=9 then (jC.j2 k x0 x5 x6 x7 (x6 == 0)) else (jC.j2 k x0 x5 x6 x7 false)) else (jC.j2 k x0 x5 x6 x7 true)) else (if x8=9 then (jC.j2 k x0 x5 x6 x7 (x6 == 0)) else (jC.j2 k x0 x5 x6 x7 false)))) else (none)) else (none)) else (none)) else (none)) else (if x8=9 then (jC.j2 k x0 x5 x6 x7 (x6 == 0)) else (jC.j2 k x0 x5 x6 x7 false))
def jC.j2 : Nat → List (S51) → List Int → Int → Int → Bool → Option (Bool)
 | 0,_,_,_,_,_=>none
 | k+1,x0,x5,x6,x7,x69=>if x69=true then (some false) else (jC.l0 k x0 x5 x6 (wrap64 (x7+1)))
end
def jC.f (k : Nat) (l0 : List (S51)) (a1 : Int) : Option (Bool) := (jEa.f k l0 a1).bind fun t213 => (jC.l0 k l0 t213 0 1)
set_option maxHeartbeats 8000000 in
set_option maxRecDepth 100000 in
theorem jC.calls (k : Nat) (A0 : Option Addr) (c0 : Nat) (l0 : List (S51)) (a1 : Int) (r : Bool) (w : World) (hr0 : Kd.C k51 w A0 l0.length l0) (hc0 : l0.length ≤ c0) (h : jC.f k l0 a1 = some r) :
  Calls Try.prog 70 #[.slice A0 l0.length c0, .int .i64 a1] w fun e w'=>e=.returned (.bool r)∧Below w.heap.size w w':=by
 have HR0:=am hr0
 have HC0:=am hc0
 clear hr0 hc0
 have HB:=am (Below.refl w.heap.size w)
 have H:((jEa.f k l0 a1).bind fun t213=>(jC.l0 k l0 t213 0 1))=some r:=h
 clear h
 replace H:=bzS H
 obtain ⟨t213,A30,H⟩:=H
 replace H:(jC.l0 k l0 t213 0 1)=some r:=H
 have A3:=am A30
 clear A30
 have H':=am H
 clear H
 go_enter Try.func70,Try.ntmps70
 go_wp2_with (first |((with_reducible refine jg (f:=80) rfl ?_);refine gL (some 11) Try.func80 #[.slice A0 l0.length c0, .int .i64 a1] ?_;(with_reducible refine (jEa.calls k _ _ l0 a1 t213 _ ?side1 ?side2 A3.out).mono ?_);(case side1=>exact Y16);(case side2=>exact HC0.out);rintro e w4 ⟨v214,rfl,ho0,hb⟩;refine ⟨_,rfl,?_⟩;have HO215:=am (Kd.jra ho0 (jv (bq)));replace HB:=am (jc (bq) hb);(try clear hb);(try clear hb2);(try clear hk);(try clear hi);(try clear ho0)))
 go_loopg [6,7] k (fun kq v6 v7 w'=>∃ (x6_1:Int) (x7_1:Int),v6=.int .i64 x6_1∧v7=.int .i64 x7_1∧jq (jC.l0 kq l0 t213 x6_1 x7_1=some r)∧jq (kq≤k)∧jq (Kd.R (Kd.int .i64) 3 w' w.heap.size (fun _=>True) v214 t213)∧jq (Below w.heap.size w w'))
 case atStart=>exact ⟨(0),(1),(sq),(sq),H',⟨Nat.le_refl _⟩,⟨rq HO215.out⟩,⟨bq⟩⟩
 case round =>
  clear H'
  try clear p2
  obtain ⟨x6_1,x7_1,rfl,rfl,HA,HK1,HO_5,HB⟩:=hrel
  cases gk with
  | zero=>exact absurd HA.out (by simp [jC.l0])
  | succ k1 =>
   have H:=HA.out
   clear HA
   simp only [jC.l0] at H
   by_cases c5:x7_1<(t213.length:Int)
   ·rw [if_pos c5] at H
    have c5b0:decide (x7_1<(t213.length:Int))=true:=dzT c5
    clear c5
    by_cases c6:0≤x7_1
    ·rw [if_pos c6] at H
     have c6b0:decide (0≤x7_1)=true:=dzT c6
     clear c6
     by_cases c7:0≤(rd t213 x7_1)
     ·rw [if_pos c7] at H
      have c7b0:decide (0≤(rd t213 x7_1))=true:=dzT c7
      clear c7
      by_cases c8:(rd t213 x7_1)<(l0.length:Int)
      ·rw [if_pos c8] at H
       have c8b0:decide ((rd t213 x7_1)<(l0.length:Int))=true:=dzT c8
       clear c8
       have HC9:=am H
       clear H
       obtain ⟨Ao10,co10,eo10⟩:=Kd.jga HO_5.out
       subst eo10
       have p216:0≤(x7_1:Int):=ozD (uq)
       have q216:x7_1<(t213.length:Int):=ozD (uq)
       obtain ⟨ad216,e216,hx216_0⟩:=Kd.jpc (Kd.jw HO_5.out).2.2 x7_1 p216 q216
       cases e216
       replace p216:=ezT p216
       replace q216:=ezT q216
       have p217:0≤((rd t213 x7_1):Int):=ozD (uq)
       have q217:(rd t213 x7_1)<(l0.length:Int):=ozD (uq)
       obtain ⟨ad217,e217,hx217_0,hx217_1,hx217_2,hx217_3⟩:=jAa HR0.out (rd t213 x7_1) p217 q217
       cases e217
       replace hx217_0:=cb HB.out hx217_0
       replace hx217_1:=cb HB.out hx217_1
       replace hx217_2:=cb HB.out hx217_2
       replace hx217_3:=cb HB.out hx217_3
       replace p217:=ezT p217
       replace q217:=ezT q217
       go_upto_if 27 with (fail)
       go_cut [6] (fun v6 wc=>∃ (kq:Nat) (x6_8:Int),v6=.int .i64 x6_8∧jq (jC.j1 kq l0 t213 x6_8 x7_1 ((jd l0 (rd t213 x7_1)).f1)=some r)∧jq (kq≤k1)∧jq (Kd.R (Kd.int .i64) 3 wc w.heap.size (fun _=>True) (.slice (some ad216) t213.length co10) t213)∧jq (Below w.heap.size w wc))
       case first =>
        have H:=HC9.out
        clear HC9
        by_cases c11:((jd l0 (rd t213 x7_1)).f1)=8
        ·rw [if_pos c11] at H
         have c11b0:(((jd l0 (rd t213 x7_1)).f1) == 8)=true:=beq_iff_eq.mpr c11
         have c11b1:(((jd l0 (rd t213 x7_1)).f1) != 8)=false:=bne_eq_false_iff_eq.mpr c11
         clear c11
         (first | rw [c11b0] |(simp only [jcb,jdb];rw [c11b0]) | skip)
         have H':=am H
         clear H
         go_wp2
         go_meet
         case rel=>exact ⟨_,(wrap64 (x6_1+1)),(sq),H',⟨by have:=HK1.out;first | omega | exact Nat.le_refl _⟩,⟨rq HO_5.out⟩,⟨bq⟩⟩
        ·rw [if_neg c11] at H
         have c11b0:(((jd l0 (rd t213 x7_1)).f1) == 8)=false:=beq_eq_false_iff_ne.mpr c11
         have c11b1:(((jd l0 (rd t213 x7_1)).f1) != 8)=true:=bne_iff_ne.mpr c11
         (first | rw [c11b0] |(simp only [jcb,jdb];rw [c11b0]) | skip)
         have H':=am H
         clear H
         go_wp2
         go_meet
         case rel=>exact ⟨_,(x6_1),(sq),H',⟨by have:=HK1.out;first | omega | exact Nat.le_refl _⟩,⟨rq HO_5.out⟩,⟨bq⟩⟩
       case rest =>
        clear HC9
        try clear c1
        try clear p2
        try clear q2
        try clear hx2
        try clear c5
        try clear c5b0
        try clear c6
        try clear c6b0
        try clear p6
        try clear c7
        try clear c7b0
        try clear c8
        try clear c8b0
        try clear c11
        try clear c11b0
        try clear c11b1
        try clear hx216_0
        try clear hx217_0
        try clear hx217_1
        try clear hx217_2
        try clear hx217_3
        try clear p2
        try clear p216
        try clear p217
        try clear q216
        try clear q217
        obtain ⟨kq,x6_8,rfl,HA,HJ8,HO_5,HB⟩:=hcut
        cases kq with
        | zero=>exact absurd HA.out (by simp [jC.j1])
        | succ kj8 =>
         have H:=HA.out
         clear HA
         simp only [jC.j1] at H
         have HC12:=am H
         clear H
         go_upto_region 9 with (fail)
         go_cut [69] (fun v69 wc=>∃ (kq:Nat) (x69_11:Bool),v69=.bool x69_11∧jq (jC.j2 kq l0 t213 x6_8 x7_1 x69_11=some r)∧jq (kq≤kj8)∧jq (Kd.R (Kd.int .i64) 3 wc w.heap.size (fun _=>True) (.slice (some ad216) t213.length co10) t213)∧jq (Below w.heap.size w wc))
         case first =>
          have H:=HC12.out
          clear HC12
          by_cases c13:x7_1 > 1
          ·rw [if_pos c13] at H
           have c13b0:decide (1<x7_1)=true:=dzT c13
           clear c13
           (first | rw [c13b0] |(simp only [jcb,jdb];rw [c13b0]) | skip)
           obtain ⟨ji14,hji14⟩:∃ j_:Int,(wrap64 (x7_1 - 1))=j_:=⟨_,rfl⟩
           replace H:(if 0≤(ji14) then (if (ji14)<(t213.length:Int) then (if 0≤(rd t213 (ji14)) then (if (rd t213 (ji14))<(l0.length:Int) then (if ((jd l0 (rd t213 x7_1)).f1)<((jd l0 (rd t213 (ji14))).f1) then (jC.j2 kj8 l0 t213 x6_8 x7_1 true) else (if ((jd l0 (rd t213 x7_1)).f1)=((jd l0 (rd t213 (ji14))).f1) then (if ((jd l0 (rd t213 x7_1)).f1)=8 then (if ((jd l0 (rd t213 x7_1)).f1)=9 then (jC.j2 kj8 l0 t213 x6_8 x7_1 (x6_8 == 0)) else (jC.j2 kj8 l0 t213 x6_8 x7_1 false)) else (jC.j2 kj8 l0 t213 x6_8 x7_1 true)) else (if ((jd l0 (rd t213 x7_1)).f1)=9 then (jC.j2 kj8 l0 t213 x6_8 x7_1 (x6_8 == 0)) else (jC.j2 kj8 l0 t213 x6_8 x7_1 false)))) else (none)) else (none)) else (none)) else (none))=some r:=by first |(rw [hji14] at H;exact H) |(simp only [hji14] at H ⊢;exact H)
           have hji14w:(IntKind.i64.wrap (x7_1 - 1))=ji14:=(jcb _).trans hji14
           by_cases c15:0≤(ji14)
           ·rw [if_pos c15] at H
            have c15b0:decide (0≤(ji14))=true:=dzT c15
            clear c15
            by_cases c16:(ji14)<(t213.length:Int)
            ·rw [if_pos c16] at H
             have c16b0:decide ((ji14)<(t213.length:Int))=true:=dzT c16
             clear c16
             by_cases c17:0≤(rd t213 (ji14))
             ·rw [if_pos c17] at H
              have c17b0:decide (0≤(rd t213 (ji14)))=true:=dzT c17
              clear c17
              by_cases c18:(rd t213 (ji14))<(l0.length:Int)
              ·rw [if_pos c18] at H
               have c18b0:decide ((rd t213 (ji14))<(l0.length:Int))=true:=dzT c18
               clear c18
               by_cases c19:((jd l0 (rd t213 x7_1)).f1)<((jd l0 (rd t213 (ji14))).f1)
               ·rw [if_pos c19] at H
                have c19b0:decide (((jd l0 (rd t213 x7_1)).f1)<((jd l0 (rd t213 (ji14))).f1))=true:=dzT c19
                clear c19
                have H':=am H
                clear H
                have p218:0≤((ji14):Int):=ozD (uq)
                have q218:(ji14)<(t213.length:Int):=ozD (uq)
                obtain ⟨ad218,e218,hx218_0⟩:=Kd.jpc (Kd.jw HO_5.out).2.2 (ji14) p218 q218
                obtain rfl:ad216=ad218:=(by injection e218)
                replace p218:=ezT p218
                replace q218:=ezT q218
                have p219:0≤((rd t213 (ji14)):Int):=ozD (uq)
                have q219:(rd t213 (ji14))<(l0.length:Int):=ozD (uq)
                obtain ⟨ad219,e219,hx219_0,hx219_1,hx219_2,hx219_3⟩:=jAa HR0.out (rd t213 (ji14)) p219 q219
                obtain rfl:ad217=ad219:=(by injection e219)
                replace hx219_0:=cb HB.out hx219_0
                replace hx219_1:=cb HB.out hx219_1
                replace hx219_2:=cb HB.out hx219_2
                replace hx219_3:=cb HB.out hx219_3
                replace p219:=ezT p219
                replace q219:=ezT q219
                go_wp2
                go_meet
                case rel=>exact ⟨_,(true),(sq),H',⟨by have:=HK1.out;have:=HJ8.out;first | omega | exact Nat.le_refl _⟩,⟨rq HO_5.out⟩,⟨bq⟩⟩
               ·rw [if_neg c19] at H
                have c19b0:decide (((jd l0 (rd t213 x7_1)).f1)<((jd l0 (rd t213 (ji14))).f1))=false:=dzF c19
                clear c19
                by_cases c20:((jd l0 (rd t213 x7_1)).f1)=((jd l0 (rd t213 (ji14))).f1)
                ·rw [if_pos c20] at H
                 have c20b0:(((jd l0 (rd t213 x7_1)).f1) == ((jd l0 (rd t213 (ji14))).f1))=true:=beq_iff_eq.mpr c20
                 have c20b1:(((jd l0 (rd t213 x7_1)).f1) != ((jd l0 (rd t213 (ji14))).f1))=false:=bne_eq_false_iff_eq.mpr c20
                 clear c20
                 by_cases c21:((jd l0 (rd t213 x7_1)).f1)=8
                 ·rw [if_pos c21] at H
                  have c21b0:(((jd l0 (rd t213 x7_1)).f1) == 8)=true:=beq_iff_eq.mpr c21
                  have c21b1:(((jd l0 (rd t213 x7_1)).f1) != 8)=false:=bne_eq_false_iff_eq.mpr c21
                  clear c21
                  by_cases c22:((jd l0 (rd t213 x7_1)).f1)=9
                  ·rw [if_pos c22] at H
                   have c22b0:(((jd l0 (rd t213 x7_1)).f1) == 9)=true:=beq_iff_eq.mpr c22
                   have c22b1:(((jd l0 (rd t213 x7_1)).f1) != 9)=false:=bne_eq_false_iff_eq.mpr c22
                   clear c22
                   have H':=am H
                   clear H
                   have p218:0≤((ji14):Int):=ozD (uq)
                   have q218:(ji14)<(t213.length:Int):=ozD (uq)
                   obtain ⟨ad218,e218,hx218_0⟩:=Kd.jpc (Kd.jw HO_5.out).2.2 (ji14) p218 q218
                   obtain rfl:ad216=ad218:=(by injection e218)
                   replace p218:=ezT p218
                   replace q218:=ezT q218
                   have p219:0≤((rd t213 (ji14)):Int):=ozD (uq)
                   have q219:(rd t213 (ji14))<(l0.length:Int):=ozD (uq)
                   obtain ⟨ad219,e219,hx219_0,hx219_1,hx219_2,hx219_3⟩:=jAa HR0.out (rd t213 (ji14)) p219 q219
                   obtain rfl:ad217=ad219:=(by injection e219)
                   replace hx219_0:=cb HB.out hx219_0
                   replace hx219_1:=cb HB.out hx219_1
                   replace hx219_2:=cb HB.out hx219_2
                   replace hx219_3:=cb HB.out hx219_3
                   replace p219:=ezT p219
                   replace q219:=ezT q219
                   have p220:0≤((ji14):Int):=ozD (uq)
                   have q220:(ji14)<(t213.length:Int):=ozD (uq)
                   obtain ⟨ad220,e220,hx220_0⟩:=Kd.jpc (Kd.jw HO_5.out).2.2 (ji14) p220 q220
                   obtain rfl:ad216=ad220:=(by injection e220)
                   replace p220:=ezT p220
                   replace q220:=ezT q220
                   have p221:0≤((rd t213 (ji14)):Int):=ozD (uq)
                   have q221:(rd t213 (ji14))<(l0.length:Int):=ozD (uq)
                   obtain ⟨ad221,e221,hx221_0,hx221_1,hx221_2,hx221_3⟩:=jAa HR0.out (rd t213 (ji14)) p221 q221
                   obtain rfl:ad217=ad221:=(by injection e221)
                   replace hx221_0:=cb HB.out hx221_0
                   replace hx221_1:=cb HB.out hx221_1
                   replace hx221_2:=cb HB.out hx221_2
                   replace hx221_3:=cb HB.out hx221_3
                   replace p221:=ezT p221
                   replace q221:=ezT q221
                   go_wp2
                   go_meet
                   case rel=>exact ⟨_,((x6_8 == 0)),(sq),H',⟨by have:=HK1.out;have:=HJ8.out;first | omega | exact Nat.le_refl _⟩,⟨rq HO_5.out⟩,⟨bq⟩⟩
                  ·rw [if_neg c22] at H
                   have c22b0:(((jd l0 (rd t213 x7_1)).f1) == 9)=false:=beq_eq_false_iff_ne.mpr c22
                   have c22b1:(((jd l0 (rd t213 x7_1)).f1) != 9)=true:=bne_iff_ne.mpr c22
                   have H':=am H
                   clear H
                   have p218:0≤((ji14):Int):=ozD (uq)
                   have q218:(ji14)<(t213.length:Int):=ozD (uq)
                   obtain ⟨ad218,e218,hx218_0⟩:=Kd.jpc (Kd.jw HO_5.out).2.2 (ji14) p218 q218
                   obtain rfl:ad216=ad218:=(by injection e218)
                   replace p218:=ezT p218
                   replace q218:=ezT q218
                   have p219:0≤((rd t213 (ji14)):Int):=ozD (uq)
                   have q219:(rd t213 (ji14))<(l0.length:Int):=ozD (uq)
                   obtain ⟨ad219,e219,hx219_0,hx219_1,hx219_2,hx219_3⟩:=jAa HR0.out (rd t213 (ji14)) p219 q219
                   obtain rfl:ad217=ad219:=(by injection e219)
                   replace hx219_0:=cb HB.out hx219_0
                   replace hx219_1:=cb HB.out hx219_1
                   replace hx219_2:=cb HB.out hx219_2
                   replace hx219_3:=cb HB.out hx219_3
                   replace p219:=ezT p219
                   replace q219:=ezT q219
                   have p220:0≤((ji14):Int):=ozD (uq)
                   have q220:(ji14)<(t213.length:Int):=ozD (uq)
                   obtain ⟨ad220,e220,hx220_0⟩:=Kd.jpc (Kd.jw HO_5.out).2.2 (ji14) p220 q220
                   obtain rfl:ad216=ad220:=(by injection e220)
                   replace p220:=ezT p220
                   replace q220:=ezT q220
                   have p221:0≤((rd t213 (ji14)):Int):=ozD (uq)
                   have q221:(rd t213 (ji14))<(l0.length:Int):=ozD (uq)
                   obtain ⟨ad221,e221,hx221_0,hx221_1,hx221_2,hx221_3⟩:=jAa HR0.out (rd t213 (ji14)) p221 q221
                   obtain rfl:ad217=ad221:=(by injection e221)
                   replace hx221_0:=cb HB.out hx221_0
                   replace hx221_1:=cb HB.out hx221_1
                   replace hx221_2:=cb HB.out hx221_2
                   replace hx221_3:=cb HB.out hx221_3
                   replace p221:=ezT p221
                   replace q221:=ezT q221
                   go_wp2
                   go_meet
                   case rel=>exact ⟨_,(false),(sq),H',⟨by have:=HK1.out;have:=HJ8.out;first | omega | exact Nat.le_refl _⟩,⟨rq HO_5.out⟩,⟨bq⟩⟩
                 ·rw [if_neg c21] at H
                  have c21b0:(((jd l0 (rd t213 x7_1)).f1) == 8)=false:=beq_eq_false_iff_ne.mpr c21
                  have c21b1:(((jd l0 (rd t213 x7_1)).f1) != 8)=true:=bne_iff_ne.mpr c21
                  have H':=am H
                  clear H
                  have p218:0≤((ji14):Int):=ozD (uq)
                  have q218:(ji14)<(t213.length:Int):=ozD (uq)
                  obtain ⟨ad218,e218,hx218_0⟩:=Kd.jpc (Kd.jw HO_5.out).2.2 (ji14) p218 q218
                  obtain rfl:ad216=ad218:=(by injection e218)
                  replace p218:=ezT p218
                  replace q218:=ezT q218
                  have p219:0≤((rd t213 (ji14)):Int):=ozD (uq)
                  have q219:(rd t213 (ji14))<(l0.length:Int):=ozD (uq)
                  obtain ⟨ad219,e219,hx219_0,hx219_1,hx219_2,hx219_3⟩:=jAa HR0.out (rd t213 (ji14)) p219 q219
                  obtain rfl:ad217=ad219:=(by injection e219)
                  replace hx219_0:=cb HB.out hx219_0
                  replace hx219_1:=cb HB.out hx219_1
                  replace hx219_2:=cb HB.out hx219_2
                  replace hx219_3:=cb HB.out hx219_3
                  replace p219:=ezT p219
                  replace q219:=ezT q219
                  have p220:0≤((ji14):Int):=ozD (uq)
                  have q220:(ji14)<(t213.length:Int):=ozD (uq)
                  obtain ⟨ad220,e220,hx220_0⟩:=Kd.jpc (Kd.jw HO_5.out).2.2 (ji14) p220 q220
                  obtain rfl:ad216=ad220:=(by injection e220)
                  replace p220:=ezT p220
                  replace q220:=ezT q220
                  have p221:0≤((rd t213 (ji14)):Int):=ozD (uq)
                  have q221:(rd t213 (ji14))<(l0.length:Int):=ozD (uq)
                  obtain ⟨ad221,e221,hx221_0,hx221_1,hx221_2,hx221_3⟩:=jAa HR0.out (rd t213 (ji14)) p221 q221
                  obtain rfl:ad217=ad221:=(by injection e221)
                  replace hx221_0:=cb HB.out hx221_0
                  replace hx221_1:=cb HB.out hx221_1
                  replace hx221_2:=cb HB.out hx221_2
                  replace hx221_3:=cb HB.out hx221_3
                  replace p221:=ezT p221
                  replace q221:=ezT q221
                  go_wp2
                  go_meet
                  case rel=>exact ⟨_,(true),(sq),H',⟨by have:=HK1.out;have:=HJ8.out;first | omega | exact Nat.le_refl _⟩,⟨rq HO_5.out⟩,⟨bq⟩⟩
                ·rw [if_neg c20] at H
                 have c20b0:(((jd l0 (rd t213 x7_1)).f1) == ((jd l0 (rd t213 (ji14))).f1))=false:=beq_eq_false_iff_ne.mpr c20
                 have c20b1:(((jd l0 (rd t213 x7_1)).f1) != ((jd l0 (rd t213 (ji14))).f1))=true:=bne_iff_ne.mpr c20
                 by_cases c23:((jd l0 (rd t213 x7_1)).f1)=9
                 ·rw [if_pos c23] at H
                  have c23b0:(((jd l0 (rd t213 x7_1)).f1) == 9)=true:=beq_iff_eq.mpr c23
                  have c23b1:(((jd l0 (rd t213 x7_1)).f1) != 9)=false:=bne_eq_false_iff_eq.mpr c23
                  clear c23
                  have H':=am H
                  clear H
                  have p218:0≤((ji14):Int):=ozD (uq)
                  have q218:(ji14)<(t213.length:Int):=ozD (uq)
                  obtain ⟨ad218,e218,hx218_0⟩:=Kd.jpc (Kd.jw HO_5.out).2.2 (ji14) p218 q218
                  obtain rfl:ad216=ad218:=(by injection e218)
                  replace p218:=ezT p218
                  replace q218:=ezT q218
                  have p219:0≤((rd t213 (ji14)):Int):=ozD (uq)
                  have q219:(rd t213 (ji14))<(l0.length:Int):=ozD (uq)
                  obtain ⟨ad219,e219,hx219_0,hx219_1,hx219_2,hx219_3⟩:=jAa HR0.out (rd t213 (ji14)) p219 q219
                  obtain rfl:ad217=ad219:=(by injection e219)
                  replace hx219_0:=cb HB.out hx219_0
                  replace hx219_1:=cb HB.out hx219_1
                  replace hx219_2:=cb HB.out hx219_2
                  replace hx219_3:=cb HB.out hx219_3
                  replace p219:=ezT p219
                  replace q219:=ezT q219
                  have p220:0≤((ji14):Int):=ozD (uq)
                  have q220:(ji14)<(t213.length:Int):=ozD (uq)
                  obtain ⟨ad220,e220,hx220_0⟩:=Kd.jpc (Kd.jw HO_5.out).2.2 (ji14) p220 q220
                  obtain rfl:ad216=ad220:=(by injection e220)
                  replace p220:=ezT p220
                  replace q220:=ezT q220
                  have p221:0≤((rd t213 (ji14)):Int):=ozD (uq)
                  have q221:(rd t213 (ji14))<(l0.length:Int):=ozD (uq)
                  obtain ⟨ad221,e221,hx221_0,hx221_1,hx221_2,hx221_3⟩:=jAa HR0.out (rd t213 (ji14)) p221 q221
                  obtain rfl:ad217=ad221:=(by injection e221)
                  replace hx221_0:=cb HB.out hx221_0
                  replace hx221_1:=cb HB.out hx221_1
                  replace hx221_2:=cb HB.out hx221_2
                  replace hx221_3:=cb HB.out hx221_3
                  replace p221:=ezT p221
                  replace q221:=ezT q221
                  go_wp2
                  go_meet
                  case rel=>exact ⟨_,((x6_8 == 0)),(sq),H',⟨by have:=HK1.out;have:=HJ8.out;first | omega | exact Nat.le_refl _⟩,⟨rq HO_5.out⟩,⟨bq⟩⟩
                 ·rw [if_neg c23] at H
                  have c23b0:(((jd l0 (rd t213 x7_1)).f1) == 9)=false:=beq_eq_false_iff_ne.mpr c23
                  have c23b1:(((jd l0 (rd t213 x7_1)).f1) != 9)=true:=bne_iff_ne.mpr c23
                  have H':=am H
                  clear H
                  have p218:0≤((ji14):Int):=ozD (uq)
                  have q218:(ji14)<(t213.length:Int):=ozD (uq)
                  obtain ⟨ad218,e218,hx218_0⟩:=Kd.jpc (Kd.jw HO_5.out).2.2 (ji14) p218 q218
                  obtain rfl:ad216=ad218:=(by injection e218)
                  replace p218:=ezT p218
                  replace q218:=ezT q218
                  have p219:0≤((rd t213 (ji14)):Int):=ozD (uq)
                  have q219:(rd t213 (ji14))<(l0.length:Int):=ozD (uq)
                  obtain ⟨ad219,e219,hx219_0,hx219_1,hx219_2,hx219_3⟩:=jAa HR0.out (rd t213 (ji14)) p219 q219
                  obtain rfl:ad217=ad219:=(by injection e219)
                  replace hx219_0:=cb HB.out hx219_0
                  replace hx219_1:=cb HB.out hx219_1
                  replace hx219_2:=cb HB.out hx219_2
                  replace hx219_3:=cb HB.out hx219_3
                  replace p219:=ezT p219
                  replace q219:=ezT q219
                  have p220:0≤((ji14):Int):=ozD (uq)
                  have q220:(ji14)<(t213.length:Int):=ozD (uq)
                  obtain ⟨ad220,e220,hx220_0⟩:=Kd.jpc (Kd.jw HO_5.out).2.2 (ji14) p220 q220
                  obtain rfl:ad216=ad220:=(by injection e220)
                  replace p220:=ezT p220
                  replace q220:=ezT q220
                  have p221:0≤((rd t213 (ji14)):Int):=ozD (uq)
                  have q221:(rd t213 (ji14))<(l0.length:Int):=ozD (uq)
                  obtain ⟨ad221,e221,hx221_0,hx221_1,hx221_2,hx221_3⟩:=jAa HR0.out (rd t213 (ji14)) p221 q221
                  obtain rfl:ad217=ad221:=(by injection e221)
                  replace hx221_0:=cb HB.out hx221_0
                  replace hx221_1:=cb HB.out hx221_1
                  replace hx221_2:=cb HB.out hx221_2
                  replace hx221_3:=cb HB.out hx221_3
                  replace p221:=ezT p221
                  replace q221:=ezT q221
                  go_wp2
                  go_meet
                  case rel=>exact ⟨_,(false),(sq),H',⟨by have:=HK1.out;have:=HJ8.out;first | omega | exact Nat.le_refl _⟩,⟨rq HO_5.out⟩,⟨bq⟩⟩
              ·rw [if_neg c18] at H
               exact absurd H (by simp)
             ·rw [if_neg c17] at H
              exact absurd H (by simp)
            ·rw [if_neg c16] at H
             exact absurd H (by simp)
           ·rw [if_neg c15] at H
            exact absurd H (by simp)
          ·rw [if_neg c13] at H
           have c13b0:decide (1<x7_1)=false:=dzF c13
           clear c13
           (first | rw [c13b0] |(simp only [jcb,jdb];rw [c13b0]) | skip)
           by_cases c24:((jd l0 (rd t213 x7_1)).f1)=9
           ·rw [if_pos c24] at H
            have c24b0:(((jd l0 (rd t213 x7_1)).f1) == 9)=true:=beq_iff_eq.mpr c24
            have c24b1:(((jd l0 (rd t213 x7_1)).f1) != 9)=false:=bne_eq_false_iff_eq.mpr c24
            clear c24
            have H':=am H
            clear H
            go_wp2
            go_meet
            case rel=>exact ⟨_,((x6_8 == 0)),(sq),H',⟨by have:=HK1.out;have:=HJ8.out;first | omega | exact Nat.le_refl _⟩,⟨rq HO_5.out⟩,⟨bq⟩⟩
           ·rw [if_neg c24] at H
            have c24b0:(((jd l0 (rd t213 x7_1)).f1) == 9)=false:=beq_eq_false_iff_ne.mpr c24
            have c24b1:(((jd l0 (rd t213 x7_1)).f1) != 9)=true:=bne_iff_ne.mpr c24
            have H':=am H
            clear H
            go_wp2
            go_meet
            case rel=>exact ⟨_,(false),(sq),H',⟨by have:=HK1.out;have:=HJ8.out;first | omega | exact Nat.le_refl _⟩,⟨rq HO_5.out⟩,⟨bq⟩⟩
         case rest =>
          clear HC12
          try clear c1
          try clear c2
          try clear p2
          try clear q2
          try clear hx2
          try clear c5
          try clear c5b0
          try clear c6
          try clear c6b0
          try clear p6
          try clear c7
          try clear c7b0
          try clear c8
          try clear c8b0
          try clear c11
          try clear c11b0
          try clear c11b1
          try clear c13
          try clear c13b0
          try clear c15
          try clear c15b0
          try clear c16
          try clear c16b0
          try clear c17
          try clear c17b0
          try clear c18
          try clear c18b0
          try clear c19
          try clear c19b0
          try clear c20
          try clear c20b0
          try clear c20b1
          try clear c21
          try clear c21b0
          try clear c21b1
          try clear p21
          try clear q21
          try clear hx21
          try clear c22
          try clear c22b0
          try clear c22b1
          try clear p22
          try clear q22
          try clear hx22
          try clear c23
          try clear c23b0
          try clear c23b1
          try clear c24
          try clear c24b0
          try clear c24b1
          try clear hx216_0
          try clear hx217_0
          try clear hx217_1
          try clear hx217_2
          try clear hx217_3
          try clear hx218_0
          try clear hx219_0
          try clear hx219_1
          try clear hx219_2
          try clear hx219_3
          try clear hx220_0
          try clear hx221_0
          try clear hx221_1
          try clear hx221_2
          try clear hx221_3
          try clear p2
          try clear p216
          try clear p217
          try clear p218
          try clear p219
          try clear p220
          try clear p221
          try clear p6
          try clear q2
          try clear q216
          try clear q217
          try clear q218
          try clear q219
          try clear q220
          try clear q221
          obtain ⟨kq,x69_11,rfl,HA,HJ11,HO_5,HB⟩:=hcut
          cases kq with
          | zero=>exact absurd HA.out (by simp [jC.j2])
          | succ kj11 =>
           have H:=HA.out
           clear HA
           simp only [jC.j2] at H
           by_cases c25:x69_11=true
           ·subst c25
            have H1:(some false)=some r:=by rw [if_pos rfl] at H;exact H
            clear H
            have H:=H1
            clear H1
            obtain rfl:=Option.some.inj H
            go_wp2
            go_ret
            exact ⟨Y0,bq⟩
           ·replace c25:=Bool.eq_false_iff.mpr c25
            subst c25
            have H1:(jC.l0 kj11 l0 t213 x6_8 (wrap64 (x7_1+1)))=some r:=by rw [if_neg (show ¬ (false=true) by decide)] at H;exact H
            clear H
            have H:=H1
            clear H1
            have H':=am H
            clear H
            go_wp2
            go_roundg kj11
            case measure=>have:=HK1.out;have:=HJ8.out;have:=HJ11.out;omega
            case rel=>exact ⟨(x6_8),(wrap64 (x7_1+1)),(sq),(sq),H',⟨by have:=HK1.out;have:=HJ8.out;have:=HJ11.out;omega⟩,⟨rq HO_5.out⟩,⟨bq⟩⟩
      ·rw [if_neg c8] at H
       exact absurd H (by simp)
     ·rw [if_neg c7] at H
      exact absurd H (by simp)
    ·rw [if_neg c6] at H
     exact absurd H (by simp)
   ·rw [if_neg c5] at H
    have c5b0:decide (x7_1<(t213.length:Int))=false:=dzF c5
    clear c5
    by_cases c26:(t213.length:Int) > 1
    ·rw [if_pos c26] at H
     have c26b0:decide (1<(t213.length:Int))=true:=dzT c26
     have c26b1:decide (1<t213.length)=true:=dzT (by omega)
     clear c26
     obtain rfl:=Option.some.inj H
     obtain ⟨Ao27,co27,eo27⟩:=Kd.jga HO_5.out
     subst eo27
     go_wp2
     go_ret
     exact ⟨Y0,bq⟩
    ·rw [if_neg c26] at H
     have c26b0:decide (1<(t213.length:Int))=false:=dzF c26
     have c26b1:decide (1<t213.length)=false:=dzF (by omega)
     clear c26
     obtain rfl:=Option.some.inj H
     obtain ⟨Ao28,co28,eo28⟩:=Kd.jga HO_5.out
     subst eo28
     go_wp2
     go_ret
     exact ⟨Y0,bq⟩
def jRa.l0 : Nat → List (S51) → Int → Int → Option (Bool)
 | 0,_,_,_=>none
 | k+1,x0,x5,x6=>if x6≥0 then (if 0≤x6 then (if x6<(x0.length:Int) then (if ((jd x0 x6).f0)<x5 then (if ((jd x0 x6).f1)=12 then (some true) else (jRa.l0 k x0 ((jd x0 x6).f0) (wrap64 (x6 - 1)))) else (jRa.l0 k x0 x5 (wrap64 (x6 - 1)))) else (none)) else (none)) else (some false)
def jRa.f (k : Nat) (l0 : List (S51)) (a1 : Int) : Option (Bool) := if 0 ≤ a1 then (if a1 < (l0.length : Int) then (jRa.l0 k l0 ((jd l0 a1).f0) (wrap64 (a1 - 1))) else (none)) else (none)
set_option maxHeartbeats 8000000 in
set_option maxRecDepth 100000 in
theorem jRa.calls (k : Nat) (A0 : Option Addr) (c0 : Nat) (l0 : List (S51)) (a1 : Int) (r : Bool) (w : World) (hr0 : Kd.C k51 w A0 l0.length l0) (hc0 : l0.length ≤ c0) (h : jRa.f k l0 a1 = some r) :
  Calls Try.prog 71 #[.slice A0 l0.length c0, .int .i64 a1] w fun e w'=>e=.returned (.bool r)∧jZa w w':=by
 have HR0:=am hr0
 have HC0:=am hc0
 clear hr0 hc0
 have H:(if 0≤a1 then (if a1<(l0.length:Int) then (jRa.l0 k l0 ((jd l0 a1).f0) (wrap64 (a1 - 1))) else (none)) else (none))=some r:=h
 clear h
 by_cases c3:0≤a1
 ·rw [if_pos c3] at H
  have c3b0:decide (0≤a1)=true:=dzT c3
  clear c3
  by_cases c4:a1<(l0.length:Int)
  ·rw [if_pos c4] at H
   have c4b0:decide (a1<(l0.length:Int))=true:=dzT c4
   clear c4
   have H':=am H
   clear H
   have p222:0≤(a1:Int):=ozD (uq)
   have q222:a1<(l0.length:Int):=ozD (uq)
   obtain ⟨ad222,e222,hx222_0,hx222_1,hx222_2,hx222_3⟩:=jAa HR0.out a1 p222 q222
   cases e222
   replace p222:=ezT p222
   replace q222:=ezT q222
   go_enter Try.func71,Try.ntmps71
   go_wp2
   go_loopg [5,6] k (fun kq v5 v6 w'=>∃ (x5_1:Int) (x6_1:Int),v5=.int .i64 x5_1∧v6=.int .i64 x6_1∧jq (jRa.l0 kq l0 x5_1 x6_1=some r)∧jq (kq≤k)∧jZa w w')
   case atStart=>exact ⟨((jd l0 a1).f0),(wrap64 (a1 - 1)),(sq),(sq),H',⟨Nat.le_refl _⟩,Y2⟩
   case round =>
    clear H'
    try clear p2
    try clear q2
    try clear hx2
    try clear c3
    try clear c3b0
    try clear c4
    try clear c4b0
    try clear hx222_0
    try clear hx222_1
    try clear hx222_2
    try clear hx222_3
    try clear p222
    try clear q222
    obtain ⟨x5_1,x6_1,rfl,rfl,HA,HK1,⟨m1,rfl⟩⟩:=hrel
    cases gk with
    | zero=>exact absurd HA.out (by simp [jRa.l0])
    | succ k1 =>
     have H:=HA.out
     clear HA
     simp only [jRa.l0] at H
     by_cases c5:x6_1≥0
     ·rw [if_pos c5] at H
      have c5b0:decide (0≤x6_1)=true:=dzT c5
      clear c5
      by_cases c6:0≤x6_1
      ·rw [if_pos c6] at H
       have c6b0:decide (0≤x6_1)=true:=dzT c6
       clear c6
       by_cases c7:x6_1<(l0.length:Int)
       ·rw [if_pos c7] at H
        have c7b0:decide (x6_1<(l0.length:Int))=true:=dzT c7
        clear c7
        by_cases c8:((jd l0 x6_1).f0)<x5_1
        ·rw [if_pos c8] at H
         have c8b0:decide (((jd l0 x6_1).f0)<x5_1)=true:=dzT c8
         clear c8
         by_cases c9:((jd l0 x6_1).f1)=12
         ·rw [if_pos c9] at H
          have c9b0:(((jd l0 x6_1).f1) == 12)=true:=beq_iff_eq.mpr c9
          have c9b1:(((jd l0 x6_1).f1) != 12)=false:=bne_eq_false_iff_eq.mpr c9
          clear c9
          obtain rfl:=Option.some.inj H
          have p223:0≤(x6_1:Int):=ozD (uq)
          have q223:x6_1<(l0.length:Int):=ozD (uq)
          obtain ⟨ad223,e223,hx223_0,hx223_1,hx223_2,hx223_3⟩:=jAa HR0.out x6_1 p223 q223
          obtain rfl:ad222=ad223:=(by injection e223)
          replace p223:=ezT p223
          replace q223:=ezT q223
          have p224:0≤(x6_1:Int):=ozD (uq)
          have q224:x6_1<(l0.length:Int):=ozD (uq)
          obtain ⟨ad224,e224,hx224_0,hx224_1,hx224_2,hx224_3⟩:=jAa HR0.out x6_1 p224 q224
          obtain rfl:ad222=ad224:=(by injection e224)
          replace p224:=ezT p224
          replace q224:=ezT q224
          have p225:0≤(x6_1:Int):=ozD (uq)
          have q225:x6_1<(l0.length:Int):=ozD (uq)
          obtain ⟨ad225,e225,hx225_0,hx225_1,hx225_2,hx225_3⟩:=jAa HR0.out x6_1 p225 q225
          obtain rfl:ad222=ad225:=(by injection e225)
          replace p225:=ezT p225
          replace q225:=ezT q225
          go_wp2
          go_ret
          exact ⟨sq,Y2⟩
         ·rw [if_neg c9] at H
          have c9b0:(((jd l0 x6_1).f1) == 12)=false:=beq_eq_false_iff_ne.mpr c9
          have c9b1:(((jd l0 x6_1).f1) != 12)=true:=bne_iff_ne.mpr c9
          have H':=am H
          clear H
          have p223:0≤(x6_1:Int):=ozD (uq)
          have q223:x6_1<(l0.length:Int):=ozD (uq)
          obtain ⟨ad223,e223,hx223_0,hx223_1,hx223_2,hx223_3⟩:=jAa HR0.out x6_1 p223 q223
          obtain rfl:ad222=ad223:=(by injection e223)
          replace p223:=ezT p223
          replace q223:=ezT q223
          have p224:0≤(x6_1:Int):=ozD (uq)
          have q224:x6_1<(l0.length:Int):=ozD (uq)
          obtain ⟨ad224,e224,hx224_0,hx224_1,hx224_2,hx224_3⟩:=jAa HR0.out x6_1 p224 q224
          obtain rfl:ad222=ad224:=(by injection e224)
          replace p224:=ezT p224
          replace q224:=ezT q224
          have p225:0≤(x6_1:Int):=ozD (uq)
          have q225:x6_1<(l0.length:Int):=ozD (uq)
          obtain ⟨ad225,e225,hx225_0,hx225_1,hx225_2,hx225_3⟩:=jAa HR0.out x6_1 p225 q225
          obtain rfl:ad222=ad225:=(by injection e225)
          replace p225:=ezT p225
          replace q225:=ezT q225
          go_wp2
          go_roundg k1
          case measure=>have:=HK1.out;omega
          case rel=>exact ⟨((jd l0 x6_1).f0),(wrap64 (x6_1 - 1)),(sq),(sq),H',⟨by have:=HK1.out;omega⟩,Y2⟩
        ·rw [if_neg c8] at H
         have c8b0:decide (((jd l0 x6_1).f0)<x5_1)=false:=dzF c8
         clear c8
         have H':=am H
         clear H
         have p223:0≤(x6_1:Int):=ozD (uq)
         have q223:x6_1<(l0.length:Int):=ozD (uq)
         obtain ⟨ad223,e223,hx223_0,hx223_1,hx223_2,hx223_3⟩:=jAa HR0.out x6_1 p223 q223
         obtain rfl:ad222=ad223:=(by injection e223)
         replace p223:=ezT p223
         replace q223:=ezT q223
         go_wp2
         go_roundg k1
         case measure=>have:=HK1.out;omega
         case rel=>exact ⟨(x5_1),(wrap64 (x6_1 - 1)),(sq),(sq),H',⟨by have:=HK1.out;omega⟩,Y2⟩
       ·rw [if_neg c7] at H
        exact absurd H (by simp)
      ·rw [if_neg c6] at H
       exact absurd H (by simp)
     ·rw [if_neg c5] at H
      have c5b0:decide (0≤x6_1)=false:=dzF c5
      clear c5
      obtain rfl:=Option.some.inj H
      go_wp2
      go_ret
      exact ⟨sq,Y2⟩
  ·rw [if_neg c4] at H
   exact absurd H (by simp)
 ·rw [if_neg c3] at H
  exact absurd H (by simp)
def jVa.l0 : Nat → List (S51) → Int → Int → Option (Int)
 | 0,_,_,_=>none
 | k+1,x0,x1,x5=>if x5≥0 then (if 0≤x5 then (if x5<(x0.length:Int) then (if 0≤x1 then (if x1<(x0.length:Int) then (if ((jd x0 x5).f0)<((jd x0 x1).f0) then (some (-1)) else (if ((jd x0 x5).f0)=((jd x0 x1).f0) then (some x5) else (jVa.l0 k x0 x1 (wrap64 (x5 - 1))))) else (none)) else (none)) else (none)) else (none)) else (some (-1))
def jVa.f (k : Nat) (l0 : List (S51)) (a1 : Int) : Option (Int) := jVa.l0 k l0 a1 (wrap64 (a1 - 1))
set_option maxHeartbeats 8000000 in
set_option maxRecDepth 100000 in
theorem jVa.calls (k : Nat) (A0 : Option Addr) (c0 : Nat) (l0 : List (S51)) (a1 : Int) (r : Int) (w : World) (hr0 : Kd.C k51 w A0 l0.length l0) (hc0 : l0.length ≤ c0) (h : jVa.f k l0 a1 = some r) :
  Calls Try.prog 73 #[.slice A0 l0.length c0, .int .i64 a1] w fun e w'=>e=.returned (.int .i64 r)∧jZa w w':=by
 have HR0:=am hr0
 have HC0:=am hc0
 clear hr0 hc0
 have H:(jVa.l0 k l0 a1 (wrap64 (a1 - 1)))=some r:=h
 clear h
 have H':=am H
 clear H
 go_enter Try.func73,Try.ntmps73
 go_wp2
 repeat (go_quiet (fail);try go_wp2)
 go_loopg [5] k (fun kq v5 w'=>∃ (x5_1:Int),v5=.int .i64 x5_1∧jq (jVa.l0 kq l0 a1 x5_1=some r)∧jq (kq≤k)∧jZa w w')
 case atStart=>exact ⟨(wrap64 (a1 - 1)),(sq),H',⟨Nat.le_refl _⟩,Y2⟩
 case round =>
  clear H'
  try clear p2
  obtain ⟨x5_1,rfl,HA,HK1,⟨m1,rfl⟩⟩:=hrel
  cases gk with
  | zero=>exact absurd HA.out (by simp [jVa.l0])
  | succ k1 =>
   have H:=HA.out
   clear HA
   simp only [jVa.l0] at H
   by_cases c3:x5_1≥0
   ·rw [if_pos c3] at H
    have c3b0:decide (0≤x5_1)=true:=dzT c3
    clear c3
    by_cases c4:0≤x5_1
    ·rw [if_pos c4] at H
     have c4b0:decide (0≤x5_1)=true:=dzT c4
     clear c4
     by_cases c5:x5_1<(l0.length:Int)
     ·rw [if_pos c5] at H
      have c5b0:decide (x5_1<(l0.length:Int))=true:=dzT c5
      clear c5
      by_cases c6:0≤a1
      ·rw [if_pos c6] at H
       have c6b0:decide (0≤a1)=true:=dzT c6
       clear c6
       by_cases c7:a1<(l0.length:Int)
       ·rw [if_pos c7] at H
        have c7b0:decide (a1<(l0.length:Int))=true:=dzT c7
        clear c7
        by_cases c8:((jd l0 x5_1).f0)<((jd l0 a1).f0)
        ·rw [if_pos c8] at H
         have c8b0:decide (((jd l0 x5_1).f0)<((jd l0 a1).f0))=true:=dzT c8
         clear c8
         obtain rfl:=Option.some.inj H
         have p226:0≤(x5_1:Int):=ozD (uq)
         have q226:x5_1<(l0.length:Int):=ozD (uq)
         obtain ⟨ad226,e226,hx226_0,hx226_1,hx226_2,hx226_3⟩:=jAa HR0.out x5_1 p226 q226
         cases e226
         replace p226:=ezT p226
         replace q226:=ezT q226
         have p227:0≤(a1:Int):=ozD (uq)
         have q227:a1<(l0.length:Int):=ozD (uq)
         obtain ⟨ad227,e227,hx227_0,hx227_1,hx227_2,hx227_3⟩:=jAa HR0.out a1 p227 q227
         obtain rfl:ad226=ad227:=(by injection e227)
         replace p227:=ezT p227
         replace q227:=ezT q227
         go_wp2
         repeat (go_quiet (fail);try go_wp2)
         go_ret
         exact ⟨sq,Y2⟩
        ·rw [if_neg c8] at H
         have c8b0:decide (((jd l0 x5_1).f0)<((jd l0 a1).f0))=false:=dzF c8
         clear c8
         by_cases c9:((jd l0 x5_1).f0)=((jd l0 a1).f0)
         ·rw [if_pos c9] at H
          have c9b0:(((jd l0 x5_1).f0) == ((jd l0 a1).f0))=true:=beq_iff_eq.mpr c9
          have c9b1:(((jd l0 x5_1).f0) != ((jd l0 a1).f0))=false:=bne_eq_false_iff_eq.mpr c9
          clear c9
          obtain rfl:=Option.some.inj H
          have p226:0≤(x5_1:Int):=ozD (uq)
          have q226:x5_1<(l0.length:Int):=ozD (uq)
          obtain ⟨ad226,e226,hx226_0,hx226_1,hx226_2,hx226_3⟩:=jAa HR0.out x5_1 p226 q226
          cases e226
          replace p226:=ezT p226
          replace q226:=ezT q226
          have p227:0≤(a1:Int):=ozD (uq)
          have q227:a1<(l0.length:Int):=ozD (uq)
          obtain ⟨ad227,e227,hx227_0,hx227_1,hx227_2,hx227_3⟩:=jAa HR0.out a1 p227 q227
          obtain rfl:ad226=ad227:=(by injection e227)
          replace p227:=ezT p227
          replace q227:=ezT q227
          have p228:0≤(x5_1:Int):=ozD (uq)
          have q228:x5_1<(l0.length:Int):=ozD (uq)
          obtain ⟨ad228,e228,hx228_0,hx228_1,hx228_2,hx228_3⟩:=jAa HR0.out x5_1 p228 q228
          obtain rfl:ad226=ad228:=(by injection e228)
          replace p228:=ezT p228
          replace q228:=ezT q228
          have p229:0≤(a1:Int):=ozD (uq)
          have q229:a1<(l0.length:Int):=ozD (uq)
          obtain ⟨ad229,e229,hx229_0,hx229_1,hx229_2,hx229_3⟩:=jAa HR0.out a1 p229 q229
          obtain rfl:ad226=ad229:=(by injection e229)
          replace p229:=ezT p229
          replace q229:=ezT q229
          go_wp2
          repeat (go_quiet (fail);try go_wp2)
          go_ret
          exact ⟨sq,Y2⟩
         ·rw [if_neg c9] at H
          have c9b0:(((jd l0 x5_1).f0) == ((jd l0 a1).f0))=false:=beq_eq_false_iff_ne.mpr c9
          have c9b1:(((jd l0 x5_1).f0) != ((jd l0 a1).f0))=true:=bne_iff_ne.mpr c9
          have H':=am H
          clear H
          have p226:0≤(x5_1:Int):=ozD (uq)
          have q226:x5_1<(l0.length:Int):=ozD (uq)
          obtain ⟨ad226,e226,hx226_0,hx226_1,hx226_2,hx226_3⟩:=jAa HR0.out x5_1 p226 q226
          cases e226
          replace p226:=ezT p226
          replace q226:=ezT q226
          have p227:0≤(a1:Int):=ozD (uq)
          have q227:a1<(l0.length:Int):=ozD (uq)
          obtain ⟨ad227,e227,hx227_0,hx227_1,hx227_2,hx227_3⟩:=jAa HR0.out a1 p227 q227
          obtain rfl:ad226=ad227:=(by injection e227)
          replace p227:=ezT p227
          replace q227:=ezT q227
          have p228:0≤(x5_1:Int):=ozD (uq)
          have q228:x5_1<(l0.length:Int):=ozD (uq)
          obtain ⟨ad228,e228,hx228_0,hx228_1,hx228_2,hx228_3⟩:=jAa HR0.out x5_1 p228 q228
          obtain rfl:ad226=ad228:=(by injection e228)
          replace p228:=ezT p228
          replace q228:=ezT q228
          have p229:0≤(a1:Int):=ozD (uq)
          have q229:a1<(l0.length:Int):=ozD (uq)
          obtain ⟨ad229,e229,hx229_0,hx229_1,hx229_2,hx229_3⟩:=jAa HR0.out a1 p229 q229
          obtain rfl:ad226=ad229:=(by injection e229)
          replace p229:=ezT p229
          replace q229:=ezT q229
          go_wp2
          repeat (go_quiet (fail);try go_wp2)
          go_roundg k1
          case measure=>have:=HK1.out;omega
          case rel=>exact ⟨(wrap64 (x5_1 - 1)),(sq),H',⟨by have:=HK1.out;omega⟩,Y2⟩
       ·rw [if_neg c7] at H
        exact absurd H (by simp)
      ·rw [if_neg c6] at H
       exact absurd H (by simp)
     ·rw [if_neg c5] at H
      exact absurd H (by simp)
    ·rw [if_neg c4] at H
     exact absurd H (by simp)
   ·rw [if_neg c3] at H
    have c3b0:decide (0≤x5_1)=false:=dzF c3
    clear c3
    obtain rfl:=Option.some.inj H
    go_wp2
    repeat (go_quiet (fail);try go_wp2)
    go_ret
    exact ⟨sq,Y2⟩
end Go.Proofs.Ytbbmgiloikkpiaa.P
end
