/- One part of the proofs on this program: functions of the program as plain functions, that the code comes to them, and facts on them. -/
import Derived.Test.YtlhfcmbkjddgiaaYAll1
import Derived.Test.YtlhfcmbkjddgiaaYWAuto
section
namespace Go.Proofs.Ytlhfcmbkjddgiaa.P
open Go.RowKit Go.Proofs.YtlhfcmbkjddgiaaW.PrintWords Go.Proofs.YtlhfcmbkjddgiaaW.PrintLast Go.Proofs.YtlhfcmbkjddgiaaW.PrintMore
attribute [local go_sem] jca jaa jsa jra jQ jP jba jZ jk
set_option linter.unusedVariables false
set_option linter.unusedSimpArgs false
def jjb.f (k : Nat) (l0_0 : List Int) (l0_1 : List (S90)) (a0_2 : Int) (a1 : Int) (a2 : Int) : Option (List Int × (List (S90)) × Int) := (jpc.f l0_1 a1 a2).bind fun t151 => ((jwa.f k t151 (wrap64 ((t151.length : Int) - 1)) a0_2).bind fun t154 => (some (l0_0, t154, wrap64 ((t151.length : Int) - 1))))
set_option maxHeartbeats 8000000 in
set_option maxRecDepth 100000 in
theorem jjb.calls (k : Nat) (P0_0_ : Nat → Prop) (u9000_ : Value) (l0_0 : List Int) (A0_1 : Option Addr) (c0_1 : Nat) (l0_1 : List (S90)) (a0_2 : Int) (a1 : Int) (a2 : Int) (r1 : List Int) (r2 : List (S90)) (r3 : Int) (w0 w : World) (hB : Below w0.heap.size w0 w) (ho0_0 : Kd.R (Kd.int .i64) 3 w w0.heap.size P0_0_ u9000_ l0_0) (hr0_1 : ∀ W_, Kept w W_ (fun k_ => P0_0_ k_) → Kd.C k90 W_ A0_1 l0_1.length l0_1) (hc0_1 : l0_1.length ≤ c0_1) (h : jjb.f k l0_0 l0_1 a0_2 a1 a2 = some (r1, r2, r3)) :
  Calls Try.prog 68 #[.agg #[u9000_, .slice A0_1 l0_1.length c0_1, .int .i64 a0_2], .int .i64 a1, .int .i64 a2] w fun e w'=>∃ v0_ v1_:Value,e=.returned (.agg #[v0_,v1_, .int .i64 r3])∧Kd.R (Kd.int .i64) 3 w' w0.heap.size (fun k_=>(P0_0_ k_∨w.heap.size≤k_)) v0_ r1∧Kd.R k90 90 w' w0.heap.size (fun k_=>(P0_0_ k_∨w.heap.size≤k_)) v1_ r2∧Below w0.heap.size w0 w'∧Kept w w' (fun k_=>P0_0_ k_):=by
 have hu101:=Try.underlying101
 have hu53:=Try.underlying53
 have HO0_0:=am (show Kd.R (Kd.int .i64) 3 w w0.heap.size (fun k_=>(P0_0_ k_∨w.heap.size≤k_)) u9000_ l0_0 from Kd.jH ho0_0 (fun k_ hk=>(.inl hk)))
 have HR0_1:=am hr0_1
 have HC0_1:=am hc0_1
 clear hr0_1 hc0_1
 have HK:=am (Kept.refl w (fun k_=>P0_0_ k_))
 have HW0:=am hB.size
 have HB:=am hB
 clear hB
 have H:((jpc.f l0_1 a1 a2).bind fun t151=>((jwa.f k t151 (wrap64 ((t151.length:Int) - 1)) a0_2).bind fun t154=>(some (l0_0,t154,wrap64 ((t151.length:Int) - 1)))))=some (r1,r2,r3):=h
 clear h
 replace H:=bzS H
 obtain ⟨t151,A40,H⟩:=H
 replace H:((jwa.f k t151 (wrap64 ((t151.length:Int) - 1)) a0_2).bind fun t154=>(some (l0_0,t154,wrap64 ((t151.length:Int) - 1))))=some (r1,r2,r3):=H
 have A4:=am A40
 clear A40
 replace H:=bzS H
 obtain ⟨t154,A50,H⟩:=H
 replace H:(some (l0_0,t154,wrap64 ((t151.length:Int) - 1)))=some (r1,r2,r3):=H
 have A5:=am A50
 clear A50
 simp only [Option.some.injEq,Prod.mk.injEq] at H
 obtain ⟨rfl,rfl,rfl⟩:=H
 obtain ⟨Ao6,co6,eo6⟩:=Kd.jM HO0_0.out
 subst eo6
 go_enter Try.func68,Try.ntmps68
 go_wp2_with (first |((with_reducible refine jB (N:=3) rfl ?_);refine bE (N:=3) (cs:=#[.slice Ao6 l0_0.length co6, .slice A0_1 l0_1.length c0_1, .int .i64 a0_2]) (t:=101) ?_;intro gb149 hg w7 hbox hb;have BK149:=am (hbox);have GW149:=am ((by rw [hg];exact (by first | exact HK.out.1 | exact (show Kept w _ (fun k_=>P0_0_ k_) from by repeat (first |(with_reducible first | exact HK.out | apply Kept.alloc | apply Kept.drewN | apply Kept.drew) | exact HK.out)).1):w.heap.size≤gb149));have GE149:=am ((Y1:w0.heap.size≤gb149));replace HO0_0:=am (Kd.jG (rq HO0_0.out) hb);replace HK:=am (Kept.below (S:=(fun k_=>P0_0_ k_)) (Y54) hb);replace HB:=am (jb (bq) hb);clear hb hbox hg) |((with_reducible refine jB (N:=6) rfl ?_);refine bE (N:=6) (cs:=#[.slice none 0 0, .slice none 0 0, .int .i64 0]) (t:=101) ?_;intro gb150 hg w8 hbox hb;have BK150:=am (hbox);have GW150:=am ((by rw [hg];exact (by first | exact HK.out.1 | exact (show Kept w _ (fun k_=>P0_0_ k_) from by repeat (first |(with_reducible first | exact HK.out | apply Kept.alloc | apply Kept.drewN | apply Kept.drew | refine Kept.setCell ?_ (.inr GW149.out) _) | exact HK.out)).1):w.heap.size≤gb150));have GE150:=am ((by rw [hg];exact (jD (by repeat (first |(with_reducible first | exact HB.out | apply jo | apply jg | apply jq | refine jl ?_ GE149.out) | exact HB.out))):w0.heap.size≤gb150));have NB149_150:=am ((by rw [hg];exact Nat.ne_of_lt (jX (g:=gb149) (o:=.cells #[.slice Ao6 l0_0.length co6, .slice A0_1 l0_1.length c0_1, .int .i64 a0_2] 101 (0,0)) (kq BK149.out)):gb149≠gb150));have NB150_149:=am ((by rw [hg];exact Nat.ne_of_gt (jX (g:=gb149) (o:=.cells #[.slice Ao6 l0_0.length co6, .slice A0_1 l0_1.length c0_1, .int .i64 a0_2] 101 (0,0)) (kq BK149.out)):gb150≠gb149));replace HO0_0:=am (Kd.jG (rq HO0_0.out) hb);replace BK149:=am (je (g:=gb149) (o:=.cells #[.slice Ao6 l0_0.length co6, .slice A0_1 l0_1.length c0_1, .int .i64 a0_2] 101 (0,0)) (kq BK149.out) hb);replace HK:=am (Kept.below (S:=(fun k_=>P0_0_ k_)) (by repeat (first |(with_reducible first | exact HK.out | apply Kept.alloc | apply Kept.drewN | apply Kept.drew | refine Kept.setCell ?_ (.inr GW149.out) _) | exact HK.out)) hb);replace HB:=am (jb (by repeat (first |(with_reducible first | exact HB.out | apply jo | apply jg | apply jq | refine jl ?_ GE149.out) | exact HB.out)) hb);clear hb hbox hg;have hnb9:=NB149_150.out;have hnc9:=NB150_149.out;have hcz10_0:=bc0 BK149.out;have hcz10_1:=bc1 BK149.out;have hcz10_2:=bc2 BK149.out;have hfz10_0:=ja BK149.out 0;have hfz10_1:=ja BK149.out 1;have hfz10_2:=ja BK149.out 2) |((with_reducible refine jm (f:=96) rfl ?_);refine gL (some 12) Try.func96 #[.agg #[.slice A0_1 l0_1.length c0_1], .int .i64 a1, .int .i64 a2] ?_;(with_reducible refine (jpc.calls _ _ l0_1 a1 a2 t151 _ ?side1 ?side2 A4.out).mono ?_);(case side1=>exact Kd.jbd HR0_1.out (Y59));(case side2=>exact HC0_1.out);rintro e w11 ⟨v152,rfl,ho0,hb⟩;refine ⟨_,rfl,?_⟩;have HO153:=am (Kd.jda (Kd.R_newM (M:=fun k_=>(P0_0_ k_∨w.heap.size≤k_)) ho0 (by first | exact HK.out.1 | exact (show Kept w _ (fun k_=>P0_0_ k_) from by repeat (first |(with_reducible first | exact HK.out | apply Kept.alloc | apply Kept.drewN | apply Kept.drew | refine Kept.setCell ?_ (.inr GW149.out) _ | refine Kept.setCell ?_ (.inr GW150.out) _) | exact HK.out)).1) (fun k_ h_=>.inr h_)) (jD (Y60)));replace HO0_0:=am (Kd.jG (rq HO0_0.out) hb);replace BK149:=am (je (g:=gb149) (o:=.cells #[.slice Ao6 l0_0.length co6, .slice A0_1 l0_1.length c0_1, .int .i64 a0_2] 101 (0,0)) (kq BK149.out) hb);replace BK150:=am (je (g:=gb150) (o:=.cells #[.slice none 0 0, .slice none 0 0, .int .i64 0] 101 (0,0)) (kq BK150.out) hb);replace HK:=am (Kept.below (S:=(fun k_=>P0_0_ k_)) (Y59) hb);replace HB:=am (jb (Y60) hb);(try clear hb);(try clear hb2);(try clear hk);(try clear hi);(try clear ho0);obtain ⟨Ao12,co12,eo12⟩:=Kd.jM HO153.out;subst eo12;have hcz13_0:=bc0 BK149.out;have hcz13_1:=bc1 BK149.out;have hcz13_2:=bc2 BK149.out;have hfz13_0:=ja BK149.out 0;have hfz13_1:=ja BK149.out 1;have hfz13_2:=ja BK149.out 2) |((with_reducible refine jm (f:=97) rfl ?_);refine gL (some 24) Try.func97 #[.agg #[.slice Ao12 t151.length co12], .int .i64 (wrap64 ((t151.length:Int) - 1)), .int .i64 a0_2] ?_;(with_reducible refine (jwa.calls k _ _ t151 (wrap64 ((t151.length:Int) - 1)) a0_2 t154 _ ?side1 ?side2 A5.out).mono ?_);(case side1=>refine (Kd.jv (e:=90) (base:=w0.heap.size) (ok:=fun k_=>((P0_0_ k_∨w.heap.size≤k_)∧True)) (n:=t151.length) (c:=co12) ?_).2.2;exact (Y101));(case side2=>exact (Kd.jv HO153.out).2.1);rintro e w14 ⟨v155,rfl,ho0,hb⟩;refine ⟨_,rfl,?_⟩;have HO156:=am (Kd.jda (Kd.jec (Kd.R_newM (M:=fun k_=>(P0_0_ k_∨w.heap.size≤k_)) ho0 (show Kept w _ (fun k_=>P0_0_ k_) from Y59).1 (fun k_ h_=>.inr h_)) (Kd.R_lt (Y101))) (jD (Y60)));replace HO0_0:=am (Kd.jG (by (with_reducible repeat (first | apply Kd.jka | apply Kd.joa | apply Kd.jua));exact (Kd.jH (Kd.jEa (p:=⟨gb149,1,none⟩) (Kd.jha HO0_0.out BK149.out (by decide)) (fun _ hk=>hk.2) (.slice Ao12 t151.length co12)) (fun _ h_=>h_.1))) hb);replace HO153:=am (Kd.jqb (Y101) (Kd.jAb ho0) hb);replace BK149:=am (je (g:=gb149) (o:=.cells #[.slice Ao6 l0_0.length co6, .slice Ao12 t151.length co12, .int .i64 a0_2] 101 (0,0)) (by (with_reducible repeat (first | refine jf ?_ _ | refine ji ?_ | refine jd ?_ _));refine jna (cs:=#[.slice Ao6 l0_0.length co6, .slice A0_1 l0_1.length c0_1, .int .i64 a0_2]) ?_ 1 _ rfl;(with_reducible repeat (first | refine jf ?_ _ | refine ji ?_ | refine jd ?_ _));exact BK149.out) hb);replace BK150:=am (je (g:=gb150) (o:=.cells #[.slice none 0 0, .slice none 0 0, .int .i64 0] 101 (0,0)) (by (with_reducible repeat (first | refine jf ?_ _ | refine ji ?_ | refine jd ?_ _));refine jqa ?_ NB150_149.out _;(with_reducible repeat (first | refine jf ?_ _ | refine ji ?_ | refine jd ?_ _));exact BK150.out) hb);replace HK:=am (Kept.below (S:=(fun k_=>P0_0_ k_)) (Y59) hb);replace HB:=am (jb (Y60) hb);(try clear hb);(try clear hb2);(try clear hk);(try clear hi);(try clear ho0);obtain ⟨Ao15,co15,eo15⟩:=Kd.jM HO156.out;subst eo15;have hcz16_0:=bc0 BK149.out;have hcz16_1:=bc1 BK149.out;have hcz16_2:=bc2 BK149.out;have hfz16_0:=ja BK149.out 0;have hfz16_1:=ja BK149.out 1;have hfz16_2:=ja BK149.out 2;have hcz17_0:=bc0 BK150.out;have hcz17_1:=bc1 BK150.out;have hcz17_2:=bc2 BK150.out;have hfz17_0:=ja BK150.out 0;have hfz17_1:=ja BK150.out 1;have hfz17_2:=ja BK150.out 2))
 refine bodyPost_ret (results_cell_row rfl _ _ gb150 101 #[.slice Ao6 l0_0.length co6, .slice Ao15 t154.length co15, .int .i64 (wrap64 ((t151.length:Int) - 1))] (0,0) _ rfl (by (with_reducible repeat (first | refine jf ?_ _ | refine ji ?_ | refine jd ?_ _));refine jna (cs:=#[.slice Ao6 l0_0.length co6, .slice Ao15 t154.length co15, .int .i64 0]) ?_ 2 _ rfl;(with_reducible repeat (first | refine jf ?_ _ | refine ji ?_ | refine jd ?_ _));refine jna (cs:=#[.slice Ao6 l0_0.length co6, .slice none 0 0, .int .i64 0]) ?_ 1 _ rfl;(with_reducible repeat (first | refine jf ?_ _ | refine ji ?_ | refine jd ?_ _));refine jna (cs:=#[.slice none 0 0, .slice none 0 0, .int .i64 0]) ?_ 0 _ rfl;(with_reducible repeat (first | refine jf ?_ _ | refine ji ?_ | refine jd ?_ _));refine jqa ?_ NB150_149.out _;(with_reducible repeat (first | refine jf ?_ _ | refine ji ?_ | refine jd ?_ _));refine jqa ?_ NB150_149.out _;(with_reducible repeat (first | refine jf ?_ _ | refine ji ?_ | refine jd ?_ _));exact BK150.out) Try.underlying101 rfl (by kernel_rfl)) rfl ?_
 exact ⟨_,_,Y0,by (with_reducible repeat (first | apply Kd.jka | apply Kd.joa | apply Kd.jua));exact Kd.jH (Kd.jEa (p:=⟨gb150,2,none⟩) (Kd.jEa (p:=⟨gb150,1,none⟩) (Kd.jEa (p:=⟨gb150,0,none⟩) (Kd.jEa (p:=⟨gb149,2,none⟩) (Kd.jEa (p:=⟨gb149,1,none⟩) (Kd.jha (Kd.jha HO0_0.out BK149.out (by decide)) BK150.out (by decide)) (fun _ hk=>hk.1.2) (.slice Ao15 t154.length co15)) (fun _ hk=>hk.1.2) (.int .i64 (wrap64 ((t151.length:Int) - 1)))) (fun _ hk=>hk.2) (.slice Ao6 l0_0.length co6)) (fun _ hk=>hk.2) (.slice Ao15 t154.length co15)) (fun _ hk=>hk.2) (.int .i64 (wrap64 ((t151.length:Int) - 1)))) (fun _ hk=>hk.1.1),by (with_reducible repeat (first | apply Kd.jka | apply Kd.joa | apply Kd.jua));exact Kd.jH (Kd.jEa (p:=⟨gb150,2,none⟩) (Kd.jEa (p:=⟨gb150,1,none⟩) (Kd.jEa (p:=⟨gb150,0,none⟩) (Kd.jEa (p:=⟨gb149,2,none⟩) (Kd.jEa (p:=⟨gb149,1,none⟩) (Kd.jha (Kd.jha HO156.out BK149.out (by decide)) BK150.out (by decide)) (fun _ hk=>hk.1.2) (.slice Ao15 t154.length co15)) (fun _ hk=>hk.1.2) (.int .i64 (wrap64 ((t151.length:Int) - 1)))) (fun _ hk=>hk.2) (.slice Ao6 l0_0.length co6)) (fun _ hk=>hk.2) (.slice Ao15 t154.length co15)) (fun _ hk=>hk.2) (.int .i64 (wrap64 ((t151.length:Int) - 1)))) (fun _ hk=>hk.1.1.1.1),Y60,Y59⟩
def jQa.l0 : Nat → List Int → Int → Int → Option (Bool)
 | 0,_,_,_=>none
 | k+1,x0,x1,x5=>if x5<(x0.length:Int) then (if 0≤x5 then (if (rd x0 x5)=x1 then (some true) else (jQa.l0 k x0 x1 (wrap64 (x5+1)))) else (none)) else (some false)
def jQa.f (k : Nat) (l0 : List Int) (a1 : Int) : Option (Bool) := jQa.l0 k l0 a1 0
set_option maxHeartbeats 8000000 in
set_option maxRecDepth 100000 in
theorem jQa.calls (k : Nat) (A0 : Option Addr) (c0 : Nat) (l0 : List Int) (a1 : Int) (r : Bool) (w : World) (hr0 : Kd.C (Kd.int .i64) w A0 l0.length l0) (hc0 : l0.length ≤ c0) (h : jQa.f k l0 a1 = some r) :
  Calls Try.prog 98 #[.slice A0 l0.length c0, .int .i64 a1] w fun e w'=>e=.returned (.bool r)∧jBb w w':=by
 have HR0:=am hr0
 have HC0:=am hc0
 clear hr0 hc0
 have H:(jQa.l0 k l0 a1 0)=some r:=h
 clear h
 have H':=am H
 clear H
 go_enter Try.func98,Try.ntmps98
 go_wp2
 go_loopg [5] k (fun kq v5 w'=>∃ (x5_1:Int),v5=.int .i64 x5_1∧jF (jQa.l0 kq l0 a1 x5_1=some r)∧jF (kq≤k)∧jBb w w')
 case atStart=>exact ⟨(0),(sq),H',⟨Nat.le_refl _⟩,Y5⟩
 case round =>
  clear H'
  try clear p2
  obtain ⟨x5_1,rfl,HA,HK1,⟨m1,rfl⟩⟩:=hrel
  cases gk with
  | zero=>exact absurd HA.out (by simp [jQa.l0])
  | succ k1 =>
   have H:=HA.out
   clear HA
   simp only [jQa.l0] at H
   by_cases c3:x5_1<(l0.length:Int)
   ·rw [if_pos c3] at H
    have c3b0:decide (x5_1<(l0.length:Int))=true:=dzT c3
    clear c3
    by_cases c4:0≤x5_1
    ·rw [if_pos c4] at H
     have c4b0:decide (0≤x5_1)=true:=dzT c4
     clear c4
     by_cases c5:(rd l0 x5_1)=a1
     ·rw [if_pos c5] at H
      have c5b0:((rd l0 x5_1) == a1)=true:=beq_iff_eq.mpr c5
      have c5b1:((rd l0 x5_1) != a1)=false:=bne_eq_false_iff_eq.mpr c5
      clear c5
      obtain rfl:=Option.some.inj H
      have p157:0≤(x5_1:Int):=ozD (uq)
      have q157:x5_1<(l0.length:Int):=ozD (uq)
      obtain ⟨ad157,e157,hx157_0⟩:=Kd.jSc HR0.out x5_1 p157 q157
      cases e157
      replace p157:=ezT p157
      replace q157:=ezT q157
      go_wp2
      go_ret
      exact ⟨sq,Y5⟩
     ·rw [if_neg c5] at H
      have c5b0:((rd l0 x5_1) == a1)=false:=beq_eq_false_iff_ne.mpr c5
      have c5b1:((rd l0 x5_1) != a1)=true:=bne_iff_ne.mpr c5
      have H':=am H
      clear H
      have p157:0≤(x5_1:Int):=ozD (uq)
      have q157:x5_1<(l0.length:Int):=ozD (uq)
      obtain ⟨ad157,e157,hx157_0⟩:=Kd.jSc HR0.out x5_1 p157 q157
      cases e157
      replace p157:=ezT p157
      replace q157:=ezT q157
      go_wp2
      go_roundg k1
      case measure=>have:=HK1.out;omega
      case rel=>exact ⟨(wrap64 (x5_1+1)),(sq),H',⟨by have:=HK1.out;omega⟩,Y5⟩
    ·rw [if_neg c4] at H
     exact absurd H (by simp)
   ·rw [if_neg c3] at H
    have c3b0:decide (x5_1<(l0.length:Int))=false:=dzF c3
    clear c3
    obtain rfl:=Option.some.inj H
    go_wp2
    go_ret
    exact ⟨sq,Y5⟩
def jcb.l0 : Nat → Int → List Int → List (S106) → Option (List Int)
 | 0,_,_,_=>none
 | k+1,x1,x5,x159000=>if x1≥0 then (if x5.length<17592186044416 then (if 0≤x1 then (if x1<(x159000.length:Int) then (jcb.l0 k ((jC x159000 x1).f1) (x5 ++ [x1]) x159000) else (none)) else (none)) else (none)) else (some x5)
def jcb.f (k : Nat) (l0_0 : List (S106)) (a1 : Int) : Option (List Int) := jcb.l0 k a1 (([] : List Int)) l0_0
set_option maxHeartbeats 8000000 in
set_option maxRecDepth 100000 in
theorem jcb.calls (k : Nat) (A0_0 : Option Addr) (c0_0 : Nat) (l0_0 : List (S106)) (a1 : Int) (r : List Int) (w : World) (hr0_0 : Kd.C k106 w A0_0 l0_0.length l0_0) (hc0_0 : l0_0.length ≤ c0_0) (h : jcb.f k l0_0 a1 = some r) :
  Calls Try.prog 99 #[.agg #[.slice A0_0 l0_0.length c0_0], .int .i64 a1] w fun e w'=>∃ v0_:Value,e=.returned (v0_)∧Kd.R (Kd.int .i64) 3 w' w.heap.size (fun _=>True) v0_ r∧Below w.heap.size w w':=by
 have hu31:=Try.underlying31
 have HR0_0:=am hr0_0
 have HC0_0:=am hc0_0
 clear hr0_0 hc0_0
 have HB:=am (Below.refl w.heap.size w)
 have H:(jcb.l0 k a1 (([]:List Int)) l0_0)=some r:=h
 clear h
 obtain ⟨y159,hy159⟩:∃ y_:List Int,y_=(([]:List Int)):=⟨_,rfl⟩
 replace H:(jcb.l0 k a1 y159 l0_0)=some r:=by first |(rw [hy159];with_reducible exact H) |(have H2_:=(Option.bind_some _ _).symm.trans H;rw [hy159];with_reducible exact H2_) |(have H2_:=(Option.bind_some _ _).symm.trans H;with_reducible exact H2_) | with_reducible exact H |(rw [hy159];exact H) | exact H
 have Ny159:=am hy159
 clear hy159
 have H':=am H
 clear H
 go_enter Try.func99,Try.ntmps99
 go_wp2_with (first |((with_reducible refine jB (N:=2) rfl ?_);refine bE (N:=2) (cs:=#[.slice A0_0 l0_0.length c0_0]) (t:=31) ?_;intro gb158 hg w3 hbox hb;have BK158:=am (hbox);have GW158:=am ((Y1:w.heap.size≤gb158));have GE158:=am ((Y1:w.heap.size≤gb158));replace HB:=am (jb (bq) hb);clear hb hbox hg) |((with_reducible refine jB (N:=6) rfl ?_);refine Kd.jNc (Kd.int .i64) _ 3 ?hg (N:=6) ?hd (xs:=([]:List Int)) (inner:=[]) (ok:=fun _=>True) (okp:=fun _=>True) ?hr ?hp (fun _ hk=>hk) trivial (Below.refl _ _) (Nat.le_refl _) (by simp) ?_;(case hd=>rfl);(case hg=>rfl);(case hr=>exact Y3);(case hp=>exact (Reps.none _ _));intro v160 w4 ho5 hb hg_ hnew_;clear hg_ hnew_;(first | rw [← Ny159.out] at ho5 |(simp only [Int.reduceToNat] at ho5;rw [← Ny159.out] at ho5));have HO161:=am (Kd.jda ho5 (jD (Y51)));replace BK158:=am (je (g:=gb158) (o:=.cells #[.slice A0_0 l0_0.length c0_0] 31 (0,0)) (kq BK158.out) hb);replace HB:=am (jb (Y51) hb);clear hb ho5))
 go_loopg [1,5] k (fun kq v1 v5 w'=>∃ (x1_1:Int) (x5_1:List Int),v1=.int .i64 x1_1∧jF (jcb.l0 kq x1_1 x5_1 l0_0=some r)∧jF (kq≤k)∧jF (Kd.R (Kd.int .i64) 3 w' w.heap.size (fun _=>True) v5 x5_1)∧jF (w'.heap[gb158]?=some (.cells #[(.slice A0_0 l0_0.length c0_0)] 31 (0,0)))∧jF (Below w.heap.size w w'))
 case atStart=>exact ⟨(a1),(y159),(sq),H',⟨Nat.le_refl _⟩,⟨rq HO161.out⟩,⟨kq BK158.out⟩,⟨Y51⟩⟩
 case round =>
  clear H'
  try clear p2
  obtain ⟨x1_1,x5_1,rfl,HA,HK1,HO_5,BK158,HB⟩:=hrel
  cases gk with
  | zero=>exact absurd HA.out (by simp [jcb.l0])
  | succ k1 =>
   have H:=HA.out
   clear HA
   simp only [jcb.l0] at H
   by_cases c6:x1_1≥0
   ·rw [if_pos c6] at H
    have c6b0:decide (0≤x1_1)=true:=dzT c6
    clear c6
    by_cases c7:x5_1.length<17592186044416
    ·rw [if_pos c7] at H
     have LMc7:=am c7
     clear c7
     obtain ⟨y162,hy162⟩:∃ y_:List Int,y_=(x5_1 ++ [x1_1]):=⟨_,rfl⟩
     replace H:(if 0≤x1_1 then (if x1_1<(l0_0.length:Int) then (jcb.l0 k1 ((jC l0_0 x1_1).f1) y162 l0_0) else (none)) else (none))=some r:=by first |(rw [hy162];with_reducible exact H) |(have H2_:=(Option.bind_some _ _).symm.trans H;rw [hy162];with_reducible exact H2_) |(have H2_:=(Option.bind_some _ _).symm.trans H;with_reducible exact H2_) | with_reducible exact H |(rw [hy162];exact H) | exact H
     have Ny162:=am hy162
     clear hy162
     by_cases c8:0≤x1_1
     ·rw [if_pos c8] at H
      have c8b0:decide (0≤x1_1)=true:=dzT c8
      clear c8
      by_cases c9:x1_1<(l0_0.length:Int)
      ·rw [if_pos c9] at H
       have c9b0:decide (x1_1<(l0_0.length:Int))=true:=dzT c9
       clear c9
       have H':=am H
       clear H
       go_wp2_with (first |((with_reducible refine jib (b:=.append) (xs:=#[.tmp 15, .tmp 17]) rfl ?_);at_builtin;refine Kd.jnc (Kd.int .i64) (w0:=w) w.heap.size rfl (.tmp 15) (.tmp 17) 45 3 (.int .i64 0) 8 rfl Try.underlying45 info3 rfl (by decide) (by omega) u5 x5_1 x1_1 [.int .i64 x1_1] (fun _=>True) (fun _=>False) rfl rfl ?aP (fun _ hk=>hk.elim) ?aF ?aO ?aB ?aS ?aL ?_;(case aP=>exact rfl);(case aB=>exact (Y51));(case aF=>exact (fun _ _=>trivial));(case aO=>exact (rq HO_5.out));(case aS=>exact (jD (Y51)));(case aL=>have:=LMc7.out;omega);intro v163 w10 ho hb hg hat;rw [← Ny162.out] at ho;have n0_:=am (jU (g:=gb158) (o:=.cells #[.slice A0_0 l0_0.length c0_0] 31 (0,0)) (kq BK158.out) hg (Kd.R_ne HO_5.out BK158.out (by decide)));have n1_:=am (hb);have n2_:=am (ho);clear BK158 HB HO_5;have BK158:=n0_;have HB:=n1_;have HO164:=n2_;clear n0_ n1_ n2_ ho hb hg hat;have hcz11_0:=bc0 BK158.out;have hfz11_0:=ja BK158.out 0;have p165:0≤(x1_1:Int):=ozD (uq);have q165:x1_1<(l0_0.length:Int):=ozD (uq);obtain ⟨ad165,e165,hx165_0,hx165_1⟩:=jLc HR0_0.out x1_1 p165 q165;cases e165;replace hx165_0:=cb HB.out hx165_0;replace hx165_1:=cb HB.out hx165_1;replace p165:=ezT p165;replace q165:=ezT q165))
       go_roundg k1
       case measure=>have:=HK1.out;omega
       case rel=>exact ⟨((jC l0_0 x1_1).f1),(y162),(sq),H',⟨by have:=HK1.out;omega⟩,⟨rq HO164.out⟩,⟨kq BK158.out⟩,⟨Y51⟩⟩
      ·rw [if_neg c9] at H
       exact absurd H (by simp)
     ·rw [if_neg c8] at H
      exact absurd H (by simp)
    ·rw [if_neg c7] at H
     exact absurd H (by simp)
   ·rw [if_neg c6] at H
    have c6b0:decide (0≤x1_1)=false:=dzF c6
    clear c6
    obtain rfl:=Option.some.inj H
    go_wp2
    go_ret
    exact ⟨_,Y0,rq HO_5.out,Y51⟩
def jfd.f (k : Nat) (l0_0 : List (S106)) (a1 : Int) (a2 : Int) : Option (Bool) := (jcb.f k l0_0 a1).bind fun t167 => ((jQa.f k t167 a2).bind fun t170 => (some t170))
set_option maxHeartbeats 8000000 in
set_option maxRecDepth 100000 in
theorem jfd.calls (k : Nat) (A0_0 : Option Addr) (c0_0 : Nat) (l0_0 : List (S106)) (a1 : Int) (a2 : Int) (r : Bool) (w : World) (hr0_0 : Kd.C k106 w A0_0 l0_0.length l0_0) (hc0_0 : l0_0.length ≤ c0_0) (h : jfd.f k l0_0 a1 a2 = some r) :
  Calls Try.prog 69 #[.agg #[.slice A0_0 l0_0.length c0_0], .int .i64 a1, .int .i64 a2] w fun e w'=>e=.returned (.bool r)∧Below w.heap.size w w':=by
 have hu31:=Try.underlying31
 have HR0_0:=am hr0_0
 have HC0_0:=am hc0_0
 clear hr0_0 hc0_0
 have HB:=am (Below.refl w.heap.size w)
 have H:((jcb.f k l0_0 a1).bind fun t167=>((jQa.f k t167 a2).bind fun t170=>(some t170)))=some r:=h
 clear h
 replace H:=bzS H
 obtain ⟨t167,A40,H⟩:=H
 replace H:((jQa.f k t167 a2).bind fun t170=>(some t170))=some r:=H
 have A4:=am A40
 clear A40
 replace H:=bzS H
 obtain ⟨t170,A50,H⟩:=H
 replace H:(some t170)=some r:=H
 have A5:=am A50
 clear A50
 obtain rfl:=Option.some.inj H
 go_enter Try.func69,Try.ntmps69
 go_wp2_with (first |((with_reducible refine jB (N:=3) rfl ?_);refine bE (N:=3) (cs:=#[.slice A0_0 l0_0.length c0_0]) (t:=31) ?_;intro gb166 hg w6 hbox hb;have BK166:=am (hbox);have GW166:=am ((Y1:w.heap.size≤gb166));have GE166:=am ((Y1:w.heap.size≤gb166));replace HB:=am (jb (bq) hb);clear hb hbox hg;have hcz7_0:=bc0 BK166.out;have hfz7_0:=ja BK166.out 0) |((with_reducible refine jm (f:=99) rfl ?_);refine gL (some 9) Try.func99 #[.agg #[.slice A0_0 l0_0.length c0_0], .int .i64 a1] ?_;(with_reducible refine (jcb.calls k _ _ l0_0 a1 t167 _ ?side1 ?side2 A4.out).mono ?_);(case side1=>exact cq (Kd.jea HR0_0.out HB.out));(case side2=>exact HC0_0.out);rintro e w8 ⟨v168,rfl,ho0,hb⟩;refine ⟨_,rfl,?_⟩;have HO169:=am (Kd.jda ho0 (jD (Y102)));replace BK166:=am (je (g:=gb166) (o:=.cells #[.slice A0_0 l0_0.length c0_0] 31 (0,0)) (kq BK166.out) hb);replace HB:=am (jb (Y102) hb);(try clear hb);(try clear hb2);(try clear hk);(try clear hi);(try clear ho0);obtain ⟨Ao9,co9,eo9⟩:=Kd.jM HO169.out;subst eo9) |((with_reducible refine jm (f:=98) rfl ?_);refine gL (some 11) Try.func98 #[.slice Ao9 t167.length co9, .int .i64 a2] ?_;(with_reducible refine (jQa.calls k _ _ t167 a2 t170 _ ?side1 ?side2 A5.out).mono ?_);(case side1=>exact cq (Kd.jv HO169.out).2.2);(case side2=>exact (Kd.jv HO169.out).2.1);rintro e w' ⟨rfl,⟨nd,rfl⟩⟩;refine ⟨_,rfl,?_⟩))
 go_ret
 exact ⟨Y0,Y102⟩
def jMc (l : List Int) (x : Int) : Nat → Nat → Nat
 | 0,k=>k
 | n+1,k=>if (k:Int)<(l.length:Int)∧rd l (k:Int)<x then jMc l x n (k+1) else k
def soIns (l : List Int) (x : Int) : List Int := if jMc l x l.length 0 = l.length ∨ rd l (jMc l x l.length 0 : Nat) ≠ x then l.take (jMc l x l.length 0) ++ [x] ++ l.drop (jMc l x l.length 0) else l
def soAll : List Int → List Int → Option (List Int)
 | [],out=>some out
 | x :: r,out=>if out.length<17592186044410 then soAll r (soIns out x) else none
def jHb.f (l0 : List Int) : Option (List Int) := soAll l0 []
theorem so_empty (W : World) (base : Nat) (ok : Nat → Prop) (hb : base ≤ W.heap.size) (hok : ok W.heap.size) : Kd.R (Kd.int .i64) 3 (W.alloc (.cells #[] 3)) base ok (.slice (some ⟨W.heap.size, 0, none⟩) 0 0) [] := by
 refine Kd.R_of_own ?_ (fun k hk=>?_)
 ·exact World.weakRow_lit (base:=base) (e:=3) (size:=1) W #[] 0 hb (by simp [maxLen]) (by simp)
 ·simp [Value.ownBlock] at hk
  rw [← hk];exact hok
theorem so_one {W : World} {b : Nat} {x : Int} (h : W.cell? ⟨b, 0, none⟩ = some (.int .i64 x)) : Kd.C (Kd.int .i64) W (some ⟨b, 0, none⟩) 1 [x] :=
 Kd.jtc (d:=0) (h1:=fun _=>rfl) ⟨rfl,by simp,fun _=>⟨_,rfl,fun j hj=>by
  obtain rfl:j=0:=by simpa using hj
  exact h⟩⟩
theorem rc1 {w : World} {b : Nat} {v : Value} {l : List Value} {t : TypeId} (h : w.heap[b]? = some (.cells ⟨v :: l⟩ t (0, 0))) : w.cell? ⟨b, 0, none⟩ = some v := (jma h 0).trans rfl
theorem wp_name {P : Program} {c : Code} {Q : Exit → Act → World → Prop} {a : Act} {W : World} (h : ∀ W5, W5 = W → c.wp P Q a W5) : c.wp P Q a W := h W rfl
set_option maxHeartbeats 8000000 in
set_option maxRecDepth 100000 in
theorem jHb.calls (A0 : Option Addr) (c0 : Nat) (l0 : List Int) (r : List Int) (w : World) (hr0 : Kd.C (Kd.int .i64) w A0 l0.length l0) (hc0 : l0.length ≤ c0) (h : jHb.f l0 = some r) :
  Calls Try.prog 100 #[.slice A0 l0.length c0] w fun e w'=>∃ v0_:Value,e=.returned (v0_)∧Kd.R (Kd.int .i64) 3 w' w.heap.size (fun _=>True) v0_ r∧Below w.heap.size w w':=by
 have HR0:=am hr0
 have hm:l0.length≤9223372036854775807:=Kd.C_max hr0
 have H':=am (show soAll l0 []=some r from h)
 have HB:=am (Below.refl w.heap.size w)
 obtain ⟨i03,hi03,_,hsz3,_⟩:=info_parts info3
 clear hr0 h
 go_enter Try.func100,Try.ntmps100
 go_wp2_with ((with_reducible refine jB (N:=6) rfl ?_);refine Kd.jNc (Kd.int .i64) _ 3 ?hg (N:=6) ?hd (xs:=([]:List Int)) (inner:=[]) (ok:=fun _=>True) (okp:=fun _=>True) ?hr ?hp (fun _ hk=>hk) trivial (Below.refl _ _) (Nat.le_refl _) (by simp) ?_;(case hd=>rfl);(case hg=>rfl);(case hr=>exact Y3);(case hp=>exact (Reps.none _ _));intro v111 w4 ho5 hb hg_ hnew_;clear hg_ hnew_;have n0_:=am (Kd.jda ho5 (jD (bq)));have n2_:=am (jb (bq) hb);clear HB;have HO:=n0_;have HB:=n2_;clear n0_ n2_ hb ho5)
 go_loopw [3,4] (fun v3 v4 wr=>∃ (i:Nat) (out:List Int),i≤l0.length∧v4=.int .i64 i∧jF (soAll (l0.drop i) out=some r)∧jF (Kd.R (Kd.int .i64) 3 wr w.heap.size (fun _=>True) v3 out)∧jF (Below w.heap.size w wr)) (fun _ v4 _=>l0.length - (intOf v4).toNat)
 case atStart=>exact ⟨0,[],Nat.zero_le _,rfl,H',HO,HB⟩
 case round =>
  clear H' HO HB
  obtain ⟨i,out,hi,rfl,HA,HO,HB⟩:=hrel
  obtain ⟨Ao,co,eo⟩:=Kd.jM HO.out
  subst eo
  have hmo:out.length≤9223372036854775807:=Kd.C_max (Kd.jv HO.out).2.2
  by_cases hlt:i<l0.length
  ·have hA:=HA.out
   obtain ⟨ad,rfl,hx0⟩:=Kd.jSc HR0.out (i:Int) (by omega) (by omega)
   have hrd:rd l0 (i:Int)=l0[i]:=by simp [rd,List.getD_eq_getElem?_getD,hlt]
   rw [List.drop_eq_getElem_cons hlt,← hrd,soAll] at hA
   rw [Int.toNat_natCast] at hx0
   generalize rd l0 (i:Int)=x at hA hx0
   clear HA hrd
   by_cases hlen:out.length<17592186044410
   ·rw [if_pos hlen] at hA
    have HN:=am hA
    have HX:=am hx0
    have LM:=am hlen
    have hlb:=ezT (show (i:Int)<(l0.length:Int) by omega)
    clear hA hlen hx0
    go_wp2
    obtain ⟨W1,rfl⟩:∃ W1,W1=wr:=⟨_,rfl⟩
    go_loopw [5] (fun v5 w3=>∃ kk:Nat,kk≤out.length∧v5=.int .i64 kk∧jF (jMc out x (out.length - kk) kk=jMc out x out.length 0)∧jF (Kd.R (Kd.int .i64) 3 w3 w.heap.size (fun _=>True) (.slice Ao out.length co) out)∧jF (Below w.heap.size w w3)) (fun v5 _=>out.length - (intOf v5).toNat)
    case atStart=>exact ⟨0,Nat.zero_le _,rfl,⟨rfl⟩,HO,HB⟩
    case round =>
     clear HO HB
     obtain ⟨kk,hkk,rfl,HS,HO,HB⟩:=hrel
     have hx:=jI HB.out HX.out
     by_cases hk:kk<out.length
     ·obtain ⟨ado,rfl,hy⟩:=Kd.jSc (Kd.jv HO.out).2.2 (kk:Int) (by omega) (by omega)
      rw [Int.toNat_natCast] at hy
      have hkb:=ezT (show (kk:Int)<(out.length:Int) by omega)
      by_cases hc:rd out (kk:Int)<x
      ·have HS2:=am (show jMc out x (out.length - (kk+1)) (kk+1)=jMc out x out.length 0 by rw [← HS.out,show out.length - kk=(out.length - (kk+1))+1 by omega];conv=>rhs;rw [jMc];rw [if_pos ⟨by omega,hc⟩])
       have hcb:=dzT hc
       clear hc HS
       go_wp2
       repeat (go_quiet (fail);try go_wp2)
       go_roundw
       case rel=>exact ⟨kk+1,by omega,by go_num,HS2,⟨rq HO.out⟩,⟨(bq)⟩⟩
       case measure=>simp [intOf];omega
      ·have HE:=am (show jMc out x out.length 0=kk by rw [← HS.out,show out.length - kk=(out.length - (kk+1))+1 by omega,jMc,if_neg (fun h=>hc h.2)])
       have hcb:=dzF hc
       have hne:=eq_false (show ¬ (kk:Int)=(out.length:Int) by omega)
       have hneb:((kk:Int) == (out.length:Int))=false:=by simpa using hne
       clear hc HS hne
       by_cases hq:rd out (kk:Int)=x
       ·have hqb:(rd out (kk:Int) != x)=false:=by simpa using hq
        have HN2:=am (show soAll (l0.drop (i+1)) out=some r by have h:=HN.out;rw [soIns,HE.out,if_neg (fun h=>h.elim (fun e=>by omega) (fun e=>e hq))] at h;exact h)
        clear hq HE
        go_wp2
        repeat (go_quiet (fail);try go_wp2)
        go_roundw
        case rel=>exact ⟨i+1,out,hlt,by go_num,HN2,⟨rq HO.out⟩,⟨(bq)⟩⟩
        case measure=>simp [intOf];omega
       ·have hqb:(rd out (kk:Int) != x)=true:=by simpa using hq
        have HN2:=am (show soAll (l0.drop (i+1)) (out.take kk ++ [x] ++ out.drop kk)=some r by have h:=HN.out;rw [soIns,HE.out,if_pos (.inr hq)] at h;exact h)
        clear hq HE
        go_wp2
        repeat (go_quiet (fail);try go_wp2)
        refine wp_name (fun W5 hW5=>?_)
        have HO5:=am (show Kd.R (Kd.int .i64) 3 W5 w.heap.size (fun _=>True) (.slice (some ado) out.length co) out by rw [hW5];(with_reducible repeat (first | apply Kd.jka | apply Kd.joa | apply Kd.jua));exact HO.out)
        have HB5:=am (show Below w.heap.size w W5 by rw [hW5];exact (bq))
        clear hW5 HO HB
        refine wp_region_held (S:=fun W=>W.cell? (ad.add i)=some (.int .i64 x)) (by kernel_rfl) ?_
        change wpAnyH _ _ _ _ _ _ _ _ (World.drew _)
        have HB6:=am (jq HB5.out)
        have HO6:=am (Kd.jua HO5.out)
        obtain ⟨W6,hW6⟩:∃ W6,W6=W5.drew:=⟨_,rfl⟩
        rw [← hW6] at HB6 HO6
        rw [← hW6]
        clear hW6 HO5 HB5
        obtain ⟨ht1,ht2,ht3⟩:=print_take_int (P:=Try.prog) (k:=.i64) 45 3 Try.underlying45 hi03 hsz3 (some ado) co out (kk:Int) (by omega) (by omega) (Kd.jv HO6.out).2.1
        obtain ⟨AD,hd1,hd2,hd3⟩:=print_cut_int (P:=Try.prog) (k:=.i64) 45 3 Try.underlying45 hi03 hsz3 (some ado) co out (kk:Int) (by omega) (by omega) (Kd.jv HO6.out).2.1
        rw [Int.toNat_natCast] at ht1 ht2 ht3 hd1 hd2 hd3
        have CT:=am (fun W (hb:Below W6.heap.size W6 W)=>(Kd.jtc (h1:=fun _=>rfl) (ht2 _ (Kd.jqc (d:=(0:Int)) (Kd.jv (Kd.jG HO6.out hb)).2.2)):Kd.C (Kd.int .i64) W (some ado) (out.take kk).length (out.take kk)))
        have CD:=am (fun W (hb:Below W6.heap.size W6 W)=>(Kd.jtc (h1:=fun _=>rfl) (hd2 _ (Kd.jqc (d:=(0:Int)) (Kd.jv (Kd.jG HO6.out hb)).2.2)):Kd.C (Kd.int .i64) W AD (out.drop kk).length (out.drop kk)))
        have HL:=am (show (out.take kk).length+(out.drop kk).length=out.length by rw [List.length_take,List.length_drop];omega)
        clear ht2 ht3 hd2 hd3
        have HS6:=am (fun W (hb:Below W6.heap.size W6 W)=>jI (Below.trans HB6.out (hb.mono HB6.out.size)) HX.out)
        have HC6:=am (Below.refl W6.heap.size W6)
        generalize hT:out.take kk=T at ht1 CT HL HN2 ⊢
        generalize hD:out.drop kk=D at hd1 CD HL HN2 ⊢
        clear hT hD
        refine wpAnyH_take (i:=1) (v:=?_) rfl (by kernel_rfl) (by kernel_rfl) (by kernel_rfl) (fun _ _ _ h=>h) (Or.inl ⟨by rfl,?_⟩) (HS6.out _ (Below.refl _ _)) ?_
        rotate_left
        ·rintro W s1
         go_simp
         with_reducible rfl
        refine wpAnyH_take (i:=2) (v:=?_) rfl (by kernel_rfl) (by kernel_rfl) (by kernel_rfl) (fun _ _ _ h=>h) (Or.inl ⟨by rfl,?_⟩) (HS6.out _ (Below.refl _ _)) ?_
        rotate_left
        ·rintro W s1
         go_simp
         with_reducible rfl
        refine wpAnyH_take (i:=3) (v:=?_) rfl (by kernel_rfl) (by kernel_rfl) (by kernel_rfl) (fun _ _ _ h=>h) (Or.inl ⟨by rfl,?_⟩) (HS6.out _ (Below.refl _ _)) ?_
        rotate_left
        ·rintro W s1
         go_simp
         with_reducible rfl
        refine wpAnyH_take (i:=5) (v:=?_) rfl (by kernel_rfl) (by kernel_rfl) (by kernel_rfl) (fun _ _ _ h=>h) (Or.inl ⟨by rfl,?_⟩) (HS6.out _ (Below.refl _ _)) ?_
        rotate_left
        ·rintro W s1
         go_simp
         with_reducible rfl
        refine wpAnyH_take (i:=6) (v:=?_) rfl (by kernel_rfl) (by kernel_rfl) (by kernel_rfl) (fun _ _ _ h=>h) (Or.inl ⟨by rfl,?_⟩) (HS6.out _ (Below.refl _ _)) ?_
        rotate_left
        ·rintro W s1
         go_simp
         with_reducible rfl
        refine wpAnyH_take (i:=7) (v:=?_) rfl (by kernel_rfl) (by kernel_rfl) (by kernel_rfl) (fun _ _ _ h=>h) (Or.inl ⟨by rfl,?_⟩) (HS6.out _ (Below.refl _ _)) ?_
        rotate_left
        ·rintro W s1
         go_simp
         with_reducible rfl
        refine wpAnyH_take (i:=8) (v:=?_) rfl (by kernel_rfl) (by kernel_rfl) (by kernel_rfl) (fun _ _ _ h=>h) (Or.inl ⟨by rfl,?_⟩) (HS6.out _ (Below.refl _ _)) ?_
        rotate_left
        ·rintro W s1
         go_simp
         with_reducible rfl
        refine wpAnyH_take (i:=11) (v:=?_) rfl (by kernel_rfl) (by kernel_rfl) (by kernel_rfl) (fun _ _ _ h=>h) (Or.inl ⟨by rfl,?_⟩) (HS6.out _ (Below.refl _ _)) ?_
        rotate_left
        ·rintro W s1
         go_simp
         with_reducible rfl
        refine wpAnyH_take (i:=12) (v:=?_) rfl (by kernel_rfl) (by kernel_rfl) (by kernel_rfl) (fun _ _ _ h=>h) (Or.inl ⟨by rfl,?_⟩) (HS6.out _ (Below.refl _ _)) ?_
        rotate_left
        ·rintro W s1
         go_simp
         with_reducible rfl
        refine wpAnyH_take (i:=13) (v:=?_) rfl (by kernel_rfl) (by kernel_rfl) (by kernel_rfl) (fun _ _ _ h=>h) (Or.inl ⟨by rfl,?_⟩) (HS6.out _ (Below.refl _ _)) ?_
        rotate_left
        ·rintro W s1
         go_simp
         with_reducible rfl
        refine wpAnyH_all (rs:=[0,9]) (by kernel_rfl) (by simp) ?_
        intro ii hii
        rcases (show ii=0∨ii=9 by simpa using hii) with rfl | rfl
        ·clear hii
         refine wpOp_step rfl (fun K hK=>?_)
         go_simp
         have HV7:=am (so_empty (W6) W6.heap.size (fun _=>True) HC6.out.size trivial)
         have HC7:=am (jo HC6.out (.cells #[] 3))
         refine hK _ _ ⟨HS6.out _ HC7.out,?_⟩
         clear hK K
         refine wpAnyH_all (rs:=[4,9]) (by kernel_rfl) (by simp) ?_
         intro ii hii
         rcases (show ii=4∨ii=9 by simpa using hii) with rfl | rfl
         ·clear hii
          refine wpOp_step rfl (fun K hK=>?_)
          refine Kd.jpa (Kd.int .i64) (Rr:=Kd.K (Kd.int .i64) ((W6).alloc (.cells #[] 3))) (w0:=W6) (W:=(W6).alloc (.cells #[] 3)) W6.heap.size rfl (.tmp 45) (.tmp 48) 45 3 (.int .i64 0) 8 rfl Try.underlying45 info3 rfl (by decide) (by decide) (.slice (some ⟨W6.heap.size,0,none⟩) 0 0) (([]:List Int)) T (some ado) T.length co (fun _=>True) (fun _=>False) rfl rfl HV7.out (CT.out _ HC7.out) (fun _ _ h=>h) (fun _ hk=>hk.elim) (fun _ _=>trivial) HC7.out HC7.out.size (by have:=LM.out;have:=HL.out;simp only [List.length_append,List.length_nil,List.length_singleton];omega) ?_
          intro v8 w8 ho8 hb8 hg8 hat8
          have HV8:=am ho8
          have HC8:=am hb8
          clear ho8 hb8 hg8 hat8
          refine hK _ _ ⟨HS6.out _ HC8.out,?_⟩
          clear hK K
          refine wpAnyH_all (rs:=[9]) (by kernel_rfl) (by simp) ?_
          intro ii hii
          obtain rfl:ii=9:=by simpa using hii
          clear hii
          refine wpOp_step rfl (fun K hK=>?_)
          go_simp
          have HV9:=am (Kd.jka (Kd.jH (Kd.jEb HV8.out) (ok':=fun k=>k≠(w8.heap.size)) (fun k hk=>by have h:=hk.2.2.1;(try simp only [World.size_alloc] at h);omega)) (.cells #[.int .i64 x] 3))
          have LB9:=am (heap_alloc_new (w8) (.cells #[.int .i64 x] 3))
          have HC9:=am (jo HC8.out (.cells #[.int .i64 x] 3))
          refine hK _ _ ⟨HS6.out _ HC9.out,?_⟩
          clear hK K
          refine wpAnyH_all (rs:=[10]) (by kernel_rfl) (by simp) ?_
          intro ii hii
          obtain rfl:ii=10:=by simpa using hii
          clear hii
          refine wpOp_step rfl (fun K hK=>?_)
          refine Kd.jpa (Kd.int .i64) (Rr:=Kd.K (Kd.int .i64) ((w8).alloc (.cells #[.int .i64 x] 3))) (w0:=W6) (W:=(w8).alloc (.cells #[.int .i64 x] 3)) W6.heap.size rfl (.tmp 49) (.tmp 54) 45 3 (.int .i64 0) 8 rfl Try.underlying45 info3 rfl (by decide) (by decide) v8 (([]:List Int) ++ T) [x] (some ⟨(w8.heap.size),0,none⟩) 1 1 (fun k=>k≠(w8.heap.size)) (fun _=>False) rfl rfl HV9.out (so_one (rc1 LB9.out)) (fun _ _ h=>h) (fun _ hk=>hk.elim) (fun q hq hqe=>by have:=jX LB9.out;omega) HC9.out HC9.out.size (by have:=LM.out;have:=HL.out;simp only [List.length_append,List.length_nil,List.length_singleton];omega) ?_
          intro v10 w10 ho10 hb10 hg10 hat10
          have HV10:=am (Kd.jH ho10 (ok':=fun _=>True) (fun _ _=>trivial))
          have HC10:=am hb10
          clear ho10 hb10 hg10 hat10
          refine hK _ _ ⟨HS6.out _ HC10.out,?_⟩
          clear hK K
          refine wpAnyH_all (rs:=[14]) (by kernel_rfl) (by simp) ?_
          intro ii hii
          obtain rfl:ii=14:=by simpa using hii
          clear hii
          refine wpOp_step rfl (fun K hK=>?_)
          refine Kd.jpa (Kd.int .i64) (Rr:=Kd.K (Kd.int .i64) (w10)) (w0:=W6) (W:=w10) W6.heap.size rfl (.tmp 55) (.tmp 58) 45 3 (.int .i64 0) 8 rfl Try.underlying45 info3 rfl (by decide) (by decide) v10 (([]:List Int) ++ T ++ [x]) D AD D.length (co - kk) (fun _=>True) (fun _=>False) rfl rfl HV10.out (CD.out _ HC10.out) (fun _ _ h=>h) (fun _ hk=>hk.elim) (fun _ _=>trivial) HC10.out HC10.out.size (by have:=LM.out;have:=HL.out;simp only [List.length_append,List.length_nil,List.length_singleton];omega) ?_
          intro v11 w11 ho11 hb11 hg11 hat11
          have HV11:=am ho11
          have HC11:=am hb11
          clear ho11 hb11 hg11 hat11
          refine hK _ _ ⟨HS6.out _ HC11.out,?_⟩
          clear hK K
          refine wpAnyH_all (rs:=[15]) (by kernel_rfl) (by simp) ?_
          intro ii hii
          obtain rfl:ii=15:=by simpa using hii
          clear hii
          refine wpOp_step rfl (fun K hK=>?_)
          go_simp
          refine hK _ _ ⟨HS6.out _ HC11.out,?_⟩
          clear hK K
          refine wpAnyH_done (by kernel_rfl) ?_ _
          go_wp2
          have HB9:=am (Below.trans HB6.out (HC11.out.mono HB6.out.size))
          go_roundw
          case rel=>exact ⟨i+1,T ++ [x] ++ D,hlt,by go_num,HN2,⟨Kd.jH (Kd.jda HV11.out HB6.out.size) (fun _ _=>trivial)⟩,HB9⟩
          case measure=>simp [intOf];omega
         ·clear hii
          refine wpOp_step rfl (fun K hK=>?_)
          go_simp
          have HV8:=am (Kd.jka (Kd.jH (Kd.jEb HV7.out) (ok':=fun k=>k≠(W6.heap.size+1)) (fun k hk=>by have h:=hk.2.2.1;(try simp only [World.size_alloc] at h);omega)) (.cells #[.int .i64 x] 3))
          have LB8:=am (by have h:=heap_alloc_new ((W6).alloc (.cells #[] 3)) (.cells #[.int .i64 x] 3);simpa only [World.size_alloc] using h:(((W6).alloc (.cells #[] 3)).alloc (.cells #[.int .i64 x] 3)).heap[W6.heap.size+1]?=some (.cells #[.int .i64 x] 3 (0,0)))
          have HC8:=am (jo HC7.out (.cells #[.int .i64 x] 3))
          refine hK _ _ ⟨HS6.out _ HC8.out,?_⟩
          clear hK K
          refine wpAnyH_all (rs:=[4]) (by kernel_rfl) (by simp) ?_
          intro ii hii
          obtain rfl:ii=4:=by simpa using hii
          clear hii
          refine wpOp_step rfl (fun K hK=>?_)
          refine Kd.jpa (Kd.int .i64) (Rr:=Kd.K (Kd.int .i64) (((W6).alloc (.cells #[] 3)).alloc (.cells #[.int .i64 x] 3))) (w0:=W6) (W:=((W6).alloc (.cells #[] 3)).alloc (.cells #[.int .i64 x] 3)) W6.heap.size rfl (.tmp 45) (.tmp 48) 45 3 (.int .i64 0) 8 rfl Try.underlying45 info3 rfl (by decide) (by decide) (.slice (some ⟨W6.heap.size,0,none⟩) 0 0) (([]:List Int)) T (some ado) T.length co (fun k=>k≠(W6.heap.size+1)) (fun _=>False) rfl rfl HV8.out (CT.out _ HC8.out) (fun _ _ h=>h) (fun _ hk=>hk.elim) (fun q hq hqe=>by have:=jX LB8.out;omega) HC8.out HC8.out.size (by have:=LM.out;have:=HL.out;simp only [List.length_append,List.length_nil,List.length_singleton];omega) ?_
          intro v9 w9 ho9 hb9 hg9 hat9
          have HV9:=am ho9
          have HC9:=am hb9
          have LB9:=am (jU LB8.out hg9 (Kd.R_away HV8.out (fun q hq=>hq)))
          clear ho9 hb9 hg9 hat9
          refine hK _ _ ⟨HS6.out _ HC9.out,?_⟩
          clear hK K
          refine wpAnyH_all (rs:=[10]) (by kernel_rfl) (by simp) ?_
          intro ii hii
          obtain rfl:ii=10:=by simpa using hii
          clear hii
          refine wpOp_step rfl (fun K hK=>?_)
          refine Kd.jpa (Kd.int .i64) (Rr:=Kd.K (Kd.int .i64) (w9)) (w0:=W6) (W:=w9) W6.heap.size rfl (.tmp 49) (.tmp 54) 45 3 (.int .i64 0) 8 rfl Try.underlying45 info3 rfl (by decide) (by decide) v9 (([]:List Int) ++ T) [x] (some ⟨(W6.heap.size+1),0,none⟩) 1 1 (fun k=>k≠(W6.heap.size+1)) (fun _=>False) rfl rfl HV9.out (so_one (rc1 LB9.out)) (fun _ _ h=>h) (fun _ hk=>hk.elim) (fun q hq hqe=>by have:=jX LB9.out;omega) HC9.out HC9.out.size (by have:=LM.out;have:=HL.out;simp only [List.length_append,List.length_nil,List.length_singleton];omega) ?_
          intro v10 w10 ho10 hb10 hg10 hat10
          have HV10:=am (Kd.jH ho10 (ok':=fun _=>True) (fun _ _=>trivial))
          have HC10:=am hb10
          clear ho10 hb10 hg10 hat10
          refine hK _ _ ⟨HS6.out _ HC10.out,?_⟩
          clear hK K
          refine wpAnyH_all (rs:=[14]) (by kernel_rfl) (by simp) ?_
          intro ii hii
          obtain rfl:ii=14:=by simpa using hii
          clear hii
          refine wpOp_step rfl (fun K hK=>?_)
          refine Kd.jpa (Kd.int .i64) (Rr:=Kd.K (Kd.int .i64) (w10)) (w0:=W6) (W:=w10) W6.heap.size rfl (.tmp 55) (.tmp 58) 45 3 (.int .i64 0) 8 rfl Try.underlying45 info3 rfl (by decide) (by decide) v10 (([]:List Int) ++ T ++ [x]) D AD D.length (co - kk) (fun _=>True) (fun _=>False) rfl rfl HV10.out (CD.out _ HC10.out) (fun _ _ h=>h) (fun _ hk=>hk.elim) (fun _ _=>trivial) HC10.out HC10.out.size (by have:=LM.out;have:=HL.out;simp only [List.length_append,List.length_nil,List.length_singleton];omega) ?_
          intro v11 w11 ho11 hb11 hg11 hat11
          have HV11:=am ho11
          have HC11:=am hb11
          clear ho11 hb11 hg11 hat11
          refine hK _ _ ⟨HS6.out _ HC11.out,?_⟩
          clear hK K
          refine wpAnyH_all (rs:=[15]) (by kernel_rfl) (by simp) ?_
          intro ii hii
          obtain rfl:ii=15:=by simpa using hii
          clear hii
          refine wpOp_step rfl (fun K hK=>?_)
          go_simp
          refine hK _ _ ⟨HS6.out _ HC11.out,?_⟩
          clear hK K
          refine wpAnyH_done (by kernel_rfl) ?_ _
          go_wp2
          have HB9:=am (Below.trans HB6.out (HC11.out.mono HB6.out.size))
          go_roundw
          case rel=>exact ⟨i+1,T ++ [x] ++ D,hlt,by go_num,HN2,⟨Kd.jH (Kd.jda HV11.out HB6.out.size) (fun _ _=>trivial)⟩,HB9⟩
          case measure=>simp [intOf];omega
        ·clear hii
         refine wpOp_step rfl (fun K hK=>?_)
         go_simp
         have LB7:=am (heap_alloc_new (W6) (.cells #[.int .i64 x] 3))
         have HC7:=am (jo HC6.out (.cells #[.int .i64 x] 3))
         refine hK _ _ ⟨HS6.out _ HC7.out,?_⟩
         clear hK K
         refine wpAnyH_all (rs:=[0]) (by kernel_rfl) (by simp) ?_
         intro ii hii
         obtain rfl:ii=0:=by simpa using hii
         clear hii
         refine wpOp_step rfl (fun K hK=>?_)
         go_simp
         have HV8:=am (by have h:=so_empty ((W6).alloc (.cells #[.int .i64 x] 3)) W6.heap.size (fun k=>k≠(W6.heap.size)) HC7.out.size (by have:=jX LB7.out;omega);simpa only [World.size_alloc] using h:Kd.R (Kd.int .i64) 3 (((W6).alloc (.cells #[.int .i64 x] 3)).alloc (.cells #[] 3)) W6.heap.size (fun k=>k≠(W6.heap.size)) (.slice (some ⟨W6.heap.size+1,0,none⟩) 0 0) [])
         have HC8:=am (jo HC7.out (.cells #[] 3))
         have LB8:=am (jd LB7.out (.cells #[] 3))
         refine hK _ _ ⟨HS6.out _ HC8.out,?_⟩
         clear hK K
         refine wpAnyH_all (rs:=[4]) (by kernel_rfl) (by simp) ?_
         intro ii hii
         obtain rfl:ii=4:=by simpa using hii
         clear hii
         refine wpOp_step rfl (fun K hK=>?_)
         refine Kd.jpa (Kd.int .i64) (Rr:=Kd.K (Kd.int .i64) (((W6).alloc (.cells #[.int .i64 x] 3)).alloc (.cells #[] 3))) (w0:=W6) (W:=((W6).alloc (.cells #[.int .i64 x] 3)).alloc (.cells #[] 3)) W6.heap.size rfl (.tmp 45) (.tmp 48) 45 3 (.int .i64 0) 8 rfl Try.underlying45 info3 rfl (by decide) (by decide) (.slice (some ⟨W6.heap.size+1,0,none⟩) 0 0) (([]:List Int)) T (some ado) T.length co (fun k=>k≠(W6.heap.size)) (fun _=>False) rfl rfl HV8.out (CT.out _ HC8.out) (fun _ _ h=>h) (fun _ hk=>hk.elim) (fun q hq hqe=>by have:=jX LB8.out;omega) HC8.out HC8.out.size (by have:=LM.out;have:=HL.out;simp only [List.length_append,List.length_nil,List.length_singleton];omega) ?_
         intro v9 w9 ho9 hb9 hg9 hat9
         have HV9:=am ho9
         have HC9:=am hb9
         have LB9:=am (jU LB8.out hg9 (Kd.R_away HV8.out (fun q hq=>hq)))
         clear ho9 hb9 hg9 hat9
         refine hK _ _ ⟨HS6.out _ HC9.out,?_⟩
         clear hK K
         refine wpAnyH_all (rs:=[10]) (by kernel_rfl) (by simp) ?_
         intro ii hii
         obtain rfl:ii=10:=by simpa using hii
         clear hii
         refine wpOp_step rfl (fun K hK=>?_)
         refine Kd.jpa (Kd.int .i64) (Rr:=Kd.K (Kd.int .i64) (w9)) (w0:=W6) (W:=w9) W6.heap.size rfl (.tmp 49) (.tmp 54) 45 3 (.int .i64 0) 8 rfl Try.underlying45 info3 rfl (by decide) (by decide) v9 (([]:List Int) ++ T) [x] (some ⟨(W6.heap.size),0,none⟩) 1 1 (fun k=>k≠(W6.heap.size)) (fun _=>False) rfl rfl HV9.out (so_one (rc1 LB9.out)) (fun _ _ h=>h) (fun _ hk=>hk.elim) (fun q hq hqe=>by have:=jX LB9.out;omega) HC9.out HC9.out.size (by have:=LM.out;have:=HL.out;simp only [List.length_append,List.length_nil,List.length_singleton];omega) ?_
         intro v10 w10 ho10 hb10 hg10 hat10
         have HV10:=am (Kd.jH ho10 (ok':=fun _=>True) (fun _ _=>trivial))
         have HC10:=am hb10
         clear ho10 hb10 hg10 hat10
         refine hK _ _ ⟨HS6.out _ HC10.out,?_⟩
         clear hK K
         refine wpAnyH_all (rs:=[14]) (by kernel_rfl) (by simp) ?_
         intro ii hii
         obtain rfl:ii=14:=by simpa using hii
         clear hii
         refine wpOp_step rfl (fun K hK=>?_)
         refine Kd.jpa (Kd.int .i64) (Rr:=Kd.K (Kd.int .i64) (w10)) (w0:=W6) (W:=w10) W6.heap.size rfl (.tmp 55) (.tmp 58) 45 3 (.int .i64 0) 8 rfl Try.underlying45 info3 rfl (by decide) (by decide) v10 (([]:List Int) ++ T ++ [x]) D AD D.length (co - kk) (fun _=>True) (fun _=>False) rfl rfl HV10.out (CD.out _ HC10.out) (fun _ _ h=>h) (fun _ hk=>hk.elim) (fun _ _=>trivial) HC10.out HC10.out.size (by have:=LM.out;have:=HL.out;simp only [List.length_append,List.length_nil,List.length_singleton];omega) ?_
         intro v11 w11 ho11 hb11 hg11 hat11
         have HV11:=am ho11
         have HC11:=am hb11
         clear ho11 hb11 hg11 hat11
         refine hK _ _ ⟨HS6.out _ HC11.out,?_⟩
         clear hK K
         refine wpAnyH_all (rs:=[15]) (by kernel_rfl) (by simp) ?_
         intro ii hii
         obtain rfl:ii=15:=by simpa using hii
         clear hii
         refine wpOp_step rfl (fun K hK=>?_)
         go_simp
         refine hK _ _ ⟨HS6.out _ HC11.out,?_⟩
         clear hK K
         refine wpAnyH_done (by kernel_rfl) ?_ _
         go_wp2
         have HB9:=am (Below.trans HB6.out (HC11.out.mono HB6.out.size))
         go_roundw
         case rel=>exact ⟨i+1,T ++ [x] ++ D,hlt,by go_num,HN2,⟨Kd.jH (Kd.jda HV11.out HB6.out.size) (fun _ _=>trivial)⟩,HB9⟩
         case measure=>simp [intOf];omega
     ·obtain rfl:kk=out.length:=by omega
      have HE:=am (show jMc out x out.length 0=out.length by rw [← HS.out,Nat.sub_self];rfl)
      have HN2:=am (show soAll (l0.drop (i+1)) (out.take out.length ++ [x] ++ out.drop out.length)=some r by have h:=HN.out;rw [soIns,HE.out,if_pos (.inl rfl)] at h;exact h)
      have hkb:=eq_false (show ¬ (out.length:Int)<(out.length:Int) by omega)
      clear HS HE
      go_wp2
      repeat (go_quiet (fail);try go_wp2)
      refine wp_name (fun W5 hW5=>?_)
      have HO5:=am (show Kd.R (Kd.int .i64) 3 W5 w.heap.size (fun _=>True) (.slice Ao out.length co) out by rw [hW5];(with_reducible repeat (first | apply Kd.jka | apply Kd.joa | apply Kd.jua));exact HO.out)
      have HB5:=am (show Below w.heap.size w W5 by rw [hW5];exact (bq))
      clear hW5 HO HB
      refine wp_region_held (S:=fun W=>W.cell? (ad.add i)=some (.int .i64 x)) (by kernel_rfl) ?_
      change wpAnyH _ _ _ _ _ _ _ _ (World.drew _)
      have HB6:=am (jq HB5.out)
      have HO6:=am (Kd.jua HO5.out)
      obtain ⟨W6,hW6⟩:∃ W6,W6=W5.drew:=⟨_,rfl⟩
      rw [← hW6] at HB6 HO6
      rw [← hW6]
      clear hW6 HO5 HB5
      obtain ⟨ht1,ht2,ht3⟩:=print_take_int (P:=Try.prog) (k:=.i64) 45 3 Try.underlying45 hi03 hsz3 Ao co out (out.length:Int) (by omega) (by omega) (Kd.jv HO6.out).2.1
      obtain ⟨AD,hd1,hd2,hd3⟩:=print_cut_int (P:=Try.prog) (k:=.i64) 45 3 Try.underlying45 hi03 hsz3 Ao co out (out.length:Int) (by omega) (by omega) (Kd.jv HO6.out).2.1
      rw [Int.toNat_natCast] at ht1 ht2 ht3 hd1 hd2 hd3
      have CT:=am (fun W (hb:Below W6.heap.size W6 W)=>(Kd.jtc (h1:=fun _=>rfl) (ht2 _ (Kd.jqc (d:=(0:Int)) (Kd.jv (Kd.jG HO6.out hb)).2.2)):Kd.C (Kd.int .i64) W Ao (out.take out.length).length (out.take out.length)))
      have CD:=am (fun W (hb:Below W6.heap.size W6 W)=>(Kd.jtc (h1:=fun _=>rfl) (hd2 _ (Kd.jqc (d:=(0:Int)) (Kd.jv (Kd.jG HO6.out hb)).2.2)):Kd.C (Kd.int .i64) W AD (out.drop out.length).length (out.drop out.length)))
      have HL:=am (show (out.take out.length).length+(out.drop out.length).length=out.length by rw [List.length_take,List.length_drop];omega)
      clear ht2 ht3 hd2 hd3
      have HS6:=am (fun W (hb:Below W6.heap.size W6 W)=>jI (Below.trans HB6.out (hb.mono HB6.out.size)) HX.out)
      have HC6:=am (Below.refl W6.heap.size W6)
      generalize hT:out.take out.length=T at ht1 CT HL HN2 ⊢
      generalize hD:out.drop out.length=D at hd1 CD HL HN2 ⊢
      clear hT hD
      refine wpAnyH_take (i:=1) (v:=?_) rfl (by kernel_rfl) (by kernel_rfl) (by kernel_rfl) (fun _ _ _ h=>h) (Or.inl ⟨by rfl,?_⟩) (HS6.out _ (Below.refl _ _)) ?_
      rotate_left
      ·rintro W s1
       go_simp
       with_reducible rfl
      refine wpAnyH_take (i:=2) (v:=?_) rfl (by kernel_rfl) (by kernel_rfl) (by kernel_rfl) (fun _ _ _ h=>h) (Or.inl ⟨by rfl,?_⟩) (HS6.out _ (Below.refl _ _)) ?_
      rotate_left
      ·rintro W s1
       go_simp
       with_reducible rfl
      refine wpAnyH_take (i:=3) (v:=?_) rfl (by kernel_rfl) (by kernel_rfl) (by kernel_rfl) (fun _ _ _ h=>h) (Or.inl ⟨by rfl,?_⟩) (HS6.out _ (Below.refl _ _)) ?_
      rotate_left
      ·rintro W s1
       go_simp
       with_reducible rfl
      refine wpAnyH_take (i:=5) (v:=?_) rfl (by kernel_rfl) (by kernel_rfl) (by kernel_rfl) (fun _ _ _ h=>h) (Or.inl ⟨by rfl,?_⟩) (HS6.out _ (Below.refl _ _)) ?_
      rotate_left
      ·rintro W s1
       go_simp
       with_reducible rfl
      refine wpAnyH_take (i:=6) (v:=?_) rfl (by kernel_rfl) (by kernel_rfl) (by kernel_rfl) (fun _ _ _ h=>h) (Or.inl ⟨by rfl,?_⟩) (HS6.out _ (Below.refl _ _)) ?_
      rotate_left
      ·rintro W s1
       go_simp
       with_reducible rfl
      refine wpAnyH_take (i:=7) (v:=?_) rfl (by kernel_rfl) (by kernel_rfl) (by kernel_rfl) (fun _ _ _ h=>h) (Or.inl ⟨by rfl,?_⟩) (HS6.out _ (Below.refl _ _)) ?_
      rotate_left
      ·rintro W s1
       go_simp
       with_reducible rfl
      refine wpAnyH_take (i:=8) (v:=?_) rfl (by kernel_rfl) (by kernel_rfl) (by kernel_rfl) (fun _ _ _ h=>h) (Or.inl ⟨by rfl,?_⟩) (HS6.out _ (Below.refl _ _)) ?_
      rotate_left
      ·rintro W s1
       go_simp
       with_reducible rfl
      refine wpAnyH_take (i:=11) (v:=?_) rfl (by kernel_rfl) (by kernel_rfl) (by kernel_rfl) (fun _ _ _ h=>h) (Or.inl ⟨by rfl,?_⟩) (HS6.out _ (Below.refl _ _)) ?_
      rotate_left
      ·rintro W s1
       go_simp
       with_reducible rfl
      refine wpAnyH_take (i:=12) (v:=?_) rfl (by kernel_rfl) (by kernel_rfl) (by kernel_rfl) (fun _ _ _ h=>h) (Or.inl ⟨by rfl,?_⟩) (HS6.out _ (Below.refl _ _)) ?_
      rotate_left
      ·rintro W s1
       go_simp
       with_reducible rfl
      refine wpAnyH_take (i:=13) (v:=?_) rfl (by kernel_rfl) (by kernel_rfl) (by kernel_rfl) (fun _ _ _ h=>h) (Or.inl ⟨by rfl,?_⟩) (HS6.out _ (Below.refl _ _)) ?_
      rotate_left
      ·rintro W s1
       go_simp
       with_reducible rfl
      refine wpAnyH_all (rs:=[0,9]) (by kernel_rfl) (by simp) ?_
      intro ii hii
      rcases (show ii=0∨ii=9 by simpa using hii) with rfl | rfl
      ·clear hii
       refine wpOp_step rfl (fun K hK=>?_)
       go_simp
       have HV7:=am (so_empty (W6) W6.heap.size (fun _=>True) HC6.out.size trivial)
       have HC7:=am (jo HC6.out (.cells #[] 3))
       refine hK _ _ ⟨HS6.out _ HC7.out,?_⟩
       clear hK K
       refine wpAnyH_all (rs:=[4,9]) (by kernel_rfl) (by simp) ?_
       intro ii hii
       rcases (show ii=4∨ii=9 by simpa using hii) with rfl | rfl
       ·clear hii
        refine wpOp_step rfl (fun K hK=>?_)
        refine Kd.jpa (Kd.int .i64) (Rr:=Kd.K (Kd.int .i64) ((W6).alloc (.cells #[] 3))) (w0:=W6) (W:=(W6).alloc (.cells #[] 3)) W6.heap.size rfl (.tmp 45) (.tmp 48) 45 3 (.int .i64 0) 8 rfl Try.underlying45 info3 rfl (by decide) (by decide) (.slice (some ⟨W6.heap.size,0,none⟩) 0 0) (([]:List Int)) T Ao T.length co (fun _=>True) (fun _=>False) rfl rfl HV7.out (CT.out _ HC7.out) (fun _ _ h=>h) (fun _ hk=>hk.elim) (fun _ _=>trivial) HC7.out HC7.out.size (by have:=LM.out;have:=HL.out;simp only [List.length_append,List.length_nil,List.length_singleton];omega) ?_
        intro v8 w8 ho8 hb8 hg8 hat8
        have HV8:=am ho8
        have HC8:=am hb8
        clear ho8 hb8 hg8 hat8
        refine hK _ _ ⟨HS6.out _ HC8.out,?_⟩
        clear hK K
        refine wpAnyH_all (rs:=[9]) (by kernel_rfl) (by simp) ?_
        intro ii hii
        obtain rfl:ii=9:=by simpa using hii
        clear hii
        refine wpOp_step rfl (fun K hK=>?_)
        go_simp
        have HV9:=am (Kd.jka (Kd.jH (Kd.jEb HV8.out) (ok':=fun k=>k≠(w8.heap.size)) (fun k hk=>by have h:=hk.2.2.1;(try simp only [World.size_alloc] at h);omega)) (.cells #[.int .i64 x] 3))
        have LB9:=am (heap_alloc_new (w8) (.cells #[.int .i64 x] 3))
        have HC9:=am (jo HC8.out (.cells #[.int .i64 x] 3))
        refine hK _ _ ⟨HS6.out _ HC9.out,?_⟩
        clear hK K
        refine wpAnyH_all (rs:=[10]) (by kernel_rfl) (by simp) ?_
        intro ii hii
        obtain rfl:ii=10:=by simpa using hii
        clear hii
        refine wpOp_step rfl (fun K hK=>?_)
        refine Kd.jpa (Kd.int .i64) (Rr:=Kd.K (Kd.int .i64) ((w8).alloc (.cells #[.int .i64 x] 3))) (w0:=W6) (W:=(w8).alloc (.cells #[.int .i64 x] 3)) W6.heap.size rfl (.tmp 49) (.tmp 54) 45 3 (.int .i64 0) 8 rfl Try.underlying45 info3 rfl (by decide) (by decide) v8 (([]:List Int) ++ T) [x] (some ⟨(w8.heap.size),0,none⟩) 1 1 (fun k=>k≠(w8.heap.size)) (fun _=>False) rfl rfl HV9.out (so_one (rc1 LB9.out)) (fun _ _ h=>h) (fun _ hk=>hk.elim) (fun q hq hqe=>by have:=jX LB9.out;omega) HC9.out HC9.out.size (by have:=LM.out;have:=HL.out;simp only [List.length_append,List.length_nil,List.length_singleton];omega) ?_
        intro v10 w10 ho10 hb10 hg10 hat10
        have HV10:=am (Kd.jH ho10 (ok':=fun _=>True) (fun _ _=>trivial))
        have HC10:=am hb10
        clear ho10 hb10 hg10 hat10
        refine hK _ _ ⟨HS6.out _ HC10.out,?_⟩
        clear hK K
        refine wpAnyH_all (rs:=[14]) (by kernel_rfl) (by simp) ?_
        intro ii hii
        obtain rfl:ii=14:=by simpa using hii
        clear hii
        refine wpOp_step rfl (fun K hK=>?_)
        refine Kd.jpa (Kd.int .i64) (Rr:=Kd.K (Kd.int .i64) (w10)) (w0:=W6) (W:=w10) W6.heap.size rfl (.tmp 55) (.tmp 58) 45 3 (.int .i64 0) 8 rfl Try.underlying45 info3 rfl (by decide) (by decide) v10 (([]:List Int) ++ T ++ [x]) D AD D.length (co - out.length) (fun _=>True) (fun _=>False) rfl rfl HV10.out (CD.out _ HC10.out) (fun _ _ h=>h) (fun _ hk=>hk.elim) (fun _ _=>trivial) HC10.out HC10.out.size (by have:=LM.out;have:=HL.out;simp only [List.length_append,List.length_nil,List.length_singleton];omega) ?_
        intro v11 w11 ho11 hb11 hg11 hat11
        have HV11:=am ho11
        have HC11:=am hb11
        clear ho11 hb11 hg11 hat11
        refine hK _ _ ⟨HS6.out _ HC11.out,?_⟩
        clear hK K
        refine wpAnyH_all (rs:=[15]) (by kernel_rfl) (by simp) ?_
        intro ii hii
        obtain rfl:ii=15:=by simpa using hii
        clear hii
        refine wpOp_step rfl (fun K hK=>?_)
        go_simp
        refine hK _ _ ⟨HS6.out _ HC11.out,?_⟩
        clear hK K
        refine wpAnyH_done (by kernel_rfl) ?_ _
        go_wp2
        have HB9:=am (Below.trans HB6.out (HC11.out.mono HB6.out.size))
        go_roundw
        case rel=>exact ⟨i+1,T ++ [x] ++ D,hlt,by go_num,HN2,⟨Kd.jH (Kd.jda HV11.out HB6.out.size) (fun _ _=>trivial)⟩,HB9⟩
        case measure=>simp [intOf];omega
       ·clear hii
        refine wpOp_step rfl (fun K hK=>?_)
        go_simp
        have HV8:=am (Kd.jka (Kd.jH (Kd.jEb HV7.out) (ok':=fun k=>k≠(W6.heap.size+1)) (fun k hk=>by have h:=hk.2.2.1;(try simp only [World.size_alloc] at h);omega)) (.cells #[.int .i64 x] 3))
        have LB8:=am (by have h:=heap_alloc_new ((W6).alloc (.cells #[] 3)) (.cells #[.int .i64 x] 3);simpa only [World.size_alloc] using h:(((W6).alloc (.cells #[] 3)).alloc (.cells #[.int .i64 x] 3)).heap[W6.heap.size+1]?=some (.cells #[.int .i64 x] 3 (0,0)))
        have HC8:=am (jo HC7.out (.cells #[.int .i64 x] 3))
        refine hK _ _ ⟨HS6.out _ HC8.out,?_⟩
        clear hK K
        refine wpAnyH_all (rs:=[4]) (by kernel_rfl) (by simp) ?_
        intro ii hii
        obtain rfl:ii=4:=by simpa using hii
        clear hii
        refine wpOp_step rfl (fun K hK=>?_)
        refine Kd.jpa (Kd.int .i64) (Rr:=Kd.K (Kd.int .i64) (((W6).alloc (.cells #[] 3)).alloc (.cells #[.int .i64 x] 3))) (w0:=W6) (W:=((W6).alloc (.cells #[] 3)).alloc (.cells #[.int .i64 x] 3)) W6.heap.size rfl (.tmp 45) (.tmp 48) 45 3 (.int .i64 0) 8 rfl Try.underlying45 info3 rfl (by decide) (by decide) (.slice (some ⟨W6.heap.size,0,none⟩) 0 0) (([]:List Int)) T Ao T.length co (fun k=>k≠(W6.heap.size+1)) (fun _=>False) rfl rfl HV8.out (CT.out _ HC8.out) (fun _ _ h=>h) (fun _ hk=>hk.elim) (fun q hq hqe=>by have:=jX LB8.out;omega) HC8.out HC8.out.size (by have:=LM.out;have:=HL.out;simp only [List.length_append,List.length_nil,List.length_singleton];omega) ?_
        intro v9 w9 ho9 hb9 hg9 hat9
        have HV9:=am ho9
        have HC9:=am hb9
        have LB9:=am (jU LB8.out hg9 (Kd.R_away HV8.out (fun q hq=>hq)))
        clear ho9 hb9 hg9 hat9
        refine hK _ _ ⟨HS6.out _ HC9.out,?_⟩
        clear hK K
        refine wpAnyH_all (rs:=[10]) (by kernel_rfl) (by simp) ?_
        intro ii hii
        obtain rfl:ii=10:=by simpa using hii
        clear hii
        refine wpOp_step rfl (fun K hK=>?_)
        refine Kd.jpa (Kd.int .i64) (Rr:=Kd.K (Kd.int .i64) (w9)) (w0:=W6) (W:=w9) W6.heap.size rfl (.tmp 49) (.tmp 54) 45 3 (.int .i64 0) 8 rfl Try.underlying45 info3 rfl (by decide) (by decide) v9 (([]:List Int) ++ T) [x] (some ⟨(W6.heap.size+1),0,none⟩) 1 1 (fun k=>k≠(W6.heap.size+1)) (fun _=>False) rfl rfl HV9.out (so_one (rc1 LB9.out)) (fun _ _ h=>h) (fun _ hk=>hk.elim) (fun q hq hqe=>by have:=jX LB9.out;omega) HC9.out HC9.out.size (by have:=LM.out;have:=HL.out;simp only [List.length_append,List.length_nil,List.length_singleton];omega) ?_
        intro v10 w10 ho10 hb10 hg10 hat10
        have HV10:=am (Kd.jH ho10 (ok':=fun _=>True) (fun _ _=>trivial))
        have HC10:=am hb10
        clear ho10 hb10 hg10 hat10
        refine hK _ _ ⟨HS6.out _ HC10.out,?_⟩
        clear hK K
        refine wpAnyH_all (rs:=[14]) (by kernel_rfl) (by simp) ?_
        intro ii hii
        obtain rfl:ii=14:=by simpa using hii
        clear hii
        refine wpOp_step rfl (fun K hK=>?_)
        refine Kd.jpa (Kd.int .i64) (Rr:=Kd.K (Kd.int .i64) (w10)) (w0:=W6) (W:=w10) W6.heap.size rfl (.tmp 55) (.tmp 58) 45 3 (.int .i64 0) 8 rfl Try.underlying45 info3 rfl (by decide) (by decide) v10 (([]:List Int) ++ T ++ [x]) D AD D.length (co - out.length) (fun _=>True) (fun _=>False) rfl rfl HV10.out (CD.out _ HC10.out) (fun _ _ h=>h) (fun _ hk=>hk.elim) (fun _ _=>trivial) HC10.out HC10.out.size (by have:=LM.out;have:=HL.out;simp only [List.length_append,List.length_nil,List.length_singleton];omega) ?_
        intro v11 w11 ho11 hb11 hg11 hat11
        have HV11:=am ho11
        have HC11:=am hb11
        clear ho11 hb11 hg11 hat11
        refine hK _ _ ⟨HS6.out _ HC11.out,?_⟩
        clear hK K
        refine wpAnyH_all (rs:=[15]) (by kernel_rfl) (by simp) ?_
        intro ii hii
        obtain rfl:ii=15:=by simpa using hii
        clear hii
        refine wpOp_step rfl (fun K hK=>?_)
        go_simp
        refine hK _ _ ⟨HS6.out _ HC11.out,?_⟩
        clear hK K
        refine wpAnyH_done (by kernel_rfl) ?_ _
        go_wp2
        have HB9:=am (Below.trans HB6.out (HC11.out.mono HB6.out.size))
        go_roundw
        case rel=>exact ⟨i+1,T ++ [x] ++ D,hlt,by go_num,HN2,⟨Kd.jH (Kd.jda HV11.out HB6.out.size) (fun _ _=>trivial)⟩,HB9⟩
        case measure=>simp [intOf];omega
      ·clear hii
       refine wpOp_step rfl (fun K hK=>?_)
       go_simp
       have LB7:=am (heap_alloc_new (W6) (.cells #[.int .i64 x] 3))
       have HC7:=am (jo HC6.out (.cells #[.int .i64 x] 3))
       refine hK _ _ ⟨HS6.out _ HC7.out,?_⟩
       clear hK K
       refine wpAnyH_all (rs:=[0]) (by kernel_rfl) (by simp) ?_
       intro ii hii
       obtain rfl:ii=0:=by simpa using hii
       clear hii
       refine wpOp_step rfl (fun K hK=>?_)
       go_simp
       have HV8:=am (by have h:=so_empty ((W6).alloc (.cells #[.int .i64 x] 3)) W6.heap.size (fun k=>k≠(W6.heap.size)) HC7.out.size (by have:=jX LB7.out;omega);simpa only [World.size_alloc] using h:Kd.R (Kd.int .i64) 3 (((W6).alloc (.cells #[.int .i64 x] 3)).alloc (.cells #[] 3)) W6.heap.size (fun k=>k≠(W6.heap.size)) (.slice (some ⟨W6.heap.size+1,0,none⟩) 0 0) [])
       have HC8:=am (jo HC7.out (.cells #[] 3))
       have LB8:=am (jd LB7.out (.cells #[] 3))
       refine hK _ _ ⟨HS6.out _ HC8.out,?_⟩
       clear hK K
       refine wpAnyH_all (rs:=[4]) (by kernel_rfl) (by simp) ?_
       intro ii hii
       obtain rfl:ii=4:=by simpa using hii
       clear hii
       refine wpOp_step rfl (fun K hK=>?_)
       refine Kd.jpa (Kd.int .i64) (Rr:=Kd.K (Kd.int .i64) (((W6).alloc (.cells #[.int .i64 x] 3)).alloc (.cells #[] 3))) (w0:=W6) (W:=((W6).alloc (.cells #[.int .i64 x] 3)).alloc (.cells #[] 3)) W6.heap.size rfl (.tmp 45) (.tmp 48) 45 3 (.int .i64 0) 8 rfl Try.underlying45 info3 rfl (by decide) (by decide) (.slice (some ⟨W6.heap.size+1,0,none⟩) 0 0) (([]:List Int)) T Ao T.length co (fun k=>k≠(W6.heap.size)) (fun _=>False) rfl rfl HV8.out (CT.out _ HC8.out) (fun _ _ h=>h) (fun _ hk=>hk.elim) (fun q hq hqe=>by have:=jX LB8.out;omega) HC8.out HC8.out.size (by have:=LM.out;have:=HL.out;simp only [List.length_append,List.length_nil,List.length_singleton];omega) ?_
       intro v9 w9 ho9 hb9 hg9 hat9
       have HV9:=am ho9
       have HC9:=am hb9
       have LB9:=am (jU LB8.out hg9 (Kd.R_away HV8.out (fun q hq=>hq)))
       clear ho9 hb9 hg9 hat9
       refine hK _ _ ⟨HS6.out _ HC9.out,?_⟩
       clear hK K
       refine wpAnyH_all (rs:=[10]) (by kernel_rfl) (by simp) ?_
       intro ii hii
       obtain rfl:ii=10:=by simpa using hii
       clear hii
       refine wpOp_step rfl (fun K hK=>?_)
       refine Kd.jpa (Kd.int .i64) (Rr:=Kd.K (Kd.int .i64) (w9)) (w0:=W6) (W:=w9) W6.heap.size rfl (.tmp 49) (.tmp 54) 45 3 (.int .i64 0) 8 rfl Try.underlying45 info3 rfl (by decide) (by decide) v9 (([]:List Int) ++ T) [x] (some ⟨(W6.heap.size),0,none⟩) 1 1 (fun k=>k≠(W6.heap.size)) (fun _=>False) rfl rfl HV9.out (so_one (rc1 LB9.out)) (fun _ _ h=>h) (fun _ hk=>hk.elim) (fun q hq hqe=>by have:=jX LB9.out;omega) HC9.out HC9.out.size (by have:=LM.out;have:=HL.out;simp only [List.length_append,List.length_nil,List.length_singleton];omega) ?_
       intro v10 w10 ho10 hb10 hg10 hat10
       have HV10:=am (Kd.jH ho10 (ok':=fun _=>True) (fun _ _=>trivial))
       have HC10:=am hb10
       clear ho10 hb10 hg10 hat10
       refine hK _ _ ⟨HS6.out _ HC10.out,?_⟩
       clear hK K
       refine wpAnyH_all (rs:=[14]) (by kernel_rfl) (by simp) ?_
       intro ii hii
       obtain rfl:ii=14:=by simpa using hii
       clear hii
       refine wpOp_step rfl (fun K hK=>?_)
       refine Kd.jpa (Kd.int .i64) (Rr:=Kd.K (Kd.int .i64) (w10)) (w0:=W6) (W:=w10) W6.heap.size rfl (.tmp 55) (.tmp 58) 45 3 (.int .i64 0) 8 rfl Try.underlying45 info3 rfl (by decide) (by decide) v10 (([]:List Int) ++ T ++ [x]) D AD D.length (co - out.length) (fun _=>True) (fun _=>False) rfl rfl HV10.out (CD.out _ HC10.out) (fun _ _ h=>h) (fun _ hk=>hk.elim) (fun _ _=>trivial) HC10.out HC10.out.size (by have:=LM.out;have:=HL.out;simp only [List.length_append,List.length_nil,List.length_singleton];omega) ?_
       intro v11 w11 ho11 hb11 hg11 hat11
       have HV11:=am ho11
       have HC11:=am hb11
       clear ho11 hb11 hg11 hat11
       refine hK _ _ ⟨HS6.out _ HC11.out,?_⟩
       clear hK K
       refine wpAnyH_all (rs:=[15]) (by kernel_rfl) (by simp) ?_
       intro ii hii
       obtain rfl:ii=15:=by simpa using hii
       clear hii
       refine wpOp_step rfl (fun K hK=>?_)
       go_simp
       refine hK _ _ ⟨HS6.out _ HC11.out,?_⟩
       clear hK K
       refine wpAnyH_done (by kernel_rfl) ?_ _
       go_wp2
       have HB9:=am (Below.trans HB6.out (HC11.out.mono HB6.out.size))
       go_roundw
       case rel=>exact ⟨i+1,T ++ [x] ++ D,hlt,by go_num,HN2,⟨Kd.jH (Kd.jda HV11.out HB6.out.size) (fun _ _=>trivial)⟩,HB9⟩
       case measure=>simp [intOf];omega
   ·rw [if_neg hlen] at hA;cases hA
  ·have hA:=HA.out
   rw [List.drop_eq_nil_of_le (by omega)] at hA
   obtain rfl:=Option.some.inj (show some out=some r from hA)
   have hlb:=eq_false (show ¬ (i:Int)<(l0.length:Int) by omega)
   clear HA hA
   go_wp2
   go_ret
   exact ⟨_,rfl,rq HO.out,(bq)⟩
mutual
def jV.j0 : Nat → Int → List Int → Bool → List (S90) → Option (List Int)
 | 0,_,_,_,_=>none
 | k+1,x1,x2,x13,x172000=>if x13=true then (some x2) else (if x2.length<17592186044416 then (if 0≤x1 then (if x1<(x172000.length:Int) then ((jV.f k x172000 ((jA x172000 x1).f2) (x2 ++ [x1])).bind fun t177=>((jV.f k x172000 ((jA x172000 x1).f3) t177).bind fun t181=>(some t181))) else (none)) else (none)) else (none))
def jV.f : Nat → List (S90) → Int → List Int → Option (List Int)
 | 0,_,_,_=>none
 | k+1,l0_0,a1,l2=>if a1<0 then (jV.j0 k a1 l2 true l0_0) else ((jQa.f k l2 a1).bind fun t172=>(jV.j0 k a1 l2 t172 l0_0))
end
def jV.T4 : Bool × List (List Nat × List Nat) := (true, [([], []), ([], []), ([1], [1]), ([], []), ([2, 3], [2, 3]), ([4], [4]), ([5], [5]), ([], []), ([0, 6, 7], [0, 6, 7]), ([8, 8, 0, 1, 2, 3, 4, 5, 6, 7, 8], [7, 8])])
def jV.B4 : List Nat := [0, 0, 2, 0, 14, 30, 62, 0, 255, 511]
theorem jV.tab4 : rtab .any (opsOf Try.f101 4) = jV.T4 := by kernel_rfl
theorem jV.bits4 : joc jV.T4.2 jV.B4 = true := by kernel_rfl
def jV.T5 : Bool × List (List Nat × List Nat) := (true, [([], []), ([], []), ([1], [1]), ([], []), ([2, 3], [2, 3]), ([4], [4]), ([5], [5]), ([], []), ([0, 6, 7], [0, 6, 7]), ([8, 8, 0, 1, 2, 3, 4, 5, 6, 7, 8], [8])])
def jV.B5 : List Nat := [0, 0, 2, 0, 14, 30, 62, 0, 255, 511]
theorem jV.tab5 : rtab .any (opsOf Try.f101 5) = jV.T5 := by kernel_rfl
theorem jV.bits5 : joc jV.T5.2 jV.B5 = true := by kernel_rfl
set_option maxHeartbeats 8000000 in
set_option maxRecDepth 100000 in
theorem jV.calls (k : Nat) : ∀ (A0_0 : Option Addr) (c0_0 : Nat) (l0_0 : List (S90)) (a1 : Int) (P2_ : Nat → Prop) (u9000_ : Value) (l2 : List Int) (r : List Int) (w0 w : World) (hB : Below w0.heap.size w0 w) (hr0_0 : ∀ W_, Kept w W_ (fun k_ => P2_ k_) → Kd.C k90 W_ A0_0 l0_0.length l0_0) (hc0_0 : l0_0.length ≤ c0_0) (ho2 : Kd.R (Kd.int .i64) 3 w w0.heap.size P2_ u9000_ l2) (h : jV.f k l0_0 a1 l2 = some r),
  Calls Try.prog 101 #[.agg #[.slice A0_0 l0_0.length c0_0], .int .i64 a1,u9000_] w fun e w'=>∃ v0_:Value,e=.returned (v0_)∧Kd.R (Kd.int .i64) 3 w' w0.heap.size (fun k_=>(P2_ k_∨w.heap.size≤k_)) v0_ r∧Below w0.heap.size w0 w'∧Kept w w' (fun k_=>P2_ k_):=by
 induction k using Nat.strongRecOn with
 | _ k ih =>
 intro A0_0 c0_0 l0_0 a1 P2_ u9000_ l2 r w0 w hB hr0_0 hc0_0 ho2 h
 cases k with
 | zero=>exact absurd h (by simp [jV.f])
 | succ k =>
 simp only [jV.f] at h
 have hu53:=Try.underlying53
 have HR0_0:=am hr0_0
 have HC0_0:=am hc0_0
 clear hr0_0 hc0_0
 have HO2:=am (show Kd.R (Kd.int .i64) 3 w w0.heap.size (fun k_=>(P2_ k_∨w.heap.size≤k_)) u9000_ l2 from Kd.jH ho2 (fun k_ hk=>(.inl hk)))
 have HK:=am (Kept.refl w (fun k_=>P2_ k_))
 have HW0:=am hB.size
 have HB:=am hB
 clear hB
 have H:(if a1<0 then (jV.j0 k a1 l2 true l0_0) else ((jQa.f k l2 a1).bind fun t172=>(jV.j0 k a1 l2 t172 l0_0)))=some r:=h
 clear h
 have HC4:=am H
 clear H
 go_enter Try.func101,Try.ntmps101
 go_upto_region 1 with (first |((with_reducible refine jB (N:=3) rfl ?_);refine bE (N:=3) (cs:=#[.slice A0_0 l0_0.length c0_0]) (t:=53) ?_;intro gb171 hg w5 hbox hb;have BK171:=am (hbox);have GW171:=am ((by rw [hg];exact (by first | exact HK.out.1 | exact (show Kept w _ (fun k_=>P2_ k_) from by repeat (first |(with_reducible first | exact HK.out | apply Kept.alloc | apply Kept.drewN | apply Kept.drew) | exact HK.out)).1):w.heap.size≤gb171));have GE171:=am ((Y1:w0.heap.size≤gb171));replace HO2:=am (Kd.jG (rq HO2.out) hb);replace HK:=am (Kept.below (S:=(fun k_=>P2_ k_)) (Y54) hb);replace HB:=am (jb (bq) hb);clear hb hbox hg))
 (try simp only [Act.put,List.setIfInBounds_toArray,List.set_cons_zero,List.set_cons_succ])
 go_cut [13] (fun v13 wc=>∃ (kq:Nat) (x13_3:Bool),v13=.bool x13_3∧jF (jV.j0 kq a1 l2 x13_3 l0_0=some r)∧jF (kq≤k)∧jF (Kd.R (Kd.int .i64) 3 wc w0.heap.size (fun k_=>(P2_ k_∨w.heap.size≤k_)) u9000_ l2)∧jF (wc.heap[gb171]?=some (.cells #[(.slice A0_0 l0_0.length c0_0)] 53 (0,0)))∧jF (Kept w wc (fun k_=>P2_ k_))∧jF (Below w0.heap.size w0 wc))
 case first =>
  have H:=HC4.out
  clear HC4
  by_cases c6:a1<0
  ·rw [if_pos c6] at H
   have c6b0:decide (a1<0)=true:=dzT c6
   clear c6
   (first | rw [c6b0] |(simp only [jzb,jCb];rw [c6b0]) | skip)
   have H':=am H
   clear H
   go_wp2
   go_meet
   case rel=>exact ⟨_,(true),(sq),H',⟨Y17⟩,⟨rq HO2.out⟩,⟨kq BK171.out⟩,⟨Y37⟩,⟨Y41⟩⟩
  ·rw [if_neg c6] at H
   have c6b0:decide (a1<0)=false:=dzF c6
   clear c6
   (first | rw [c6b0] |(simp only [jzb,jCb];rw [c6b0]) | skip)
   replace H:=bzS H
   obtain ⟨t172,A70,H⟩:=H
   replace H:(jV.j0 k a1 l2 t172 l0_0)=some r:=H
   have A7:=am A70
   clear A70
   have H':=am H
   clear H
   obtain ⟨Ao8,co8,eo8⟩:=Kd.jM HO2.out
   subst eo8
   go_wp2_with (first |(go_at_call 98;(with_reducible refine (jQa.calls k _ _ l2 a1 t172 _ ?side1 ?side2 A7.out).mono ?_);(case side1=>exact cq (Kd.jv HO2.out).2.2);(case side2=>exact (Kd.jv HO2.out).2.1);rintro e w' ⟨rfl,⟨nd,rfl⟩⟩))
   go_meet
   case rel=>exact ⟨_,(t172),(sq),H',⟨Y17⟩,⟨rq HO2.out⟩,⟨kq BK171.out⟩,⟨Y37⟩,⟨Y41⟩⟩
 case rest =>
  clear HC4
  try clear c1
  try clear p2
  try clear c6
  try clear c6b0
  obtain ⟨kq,x13_3,rfl,HA,HJ3,HO_2,BK171,HK,HB⟩:=hcut
  cases kq with
  | zero=>exact absurd HA.out (by simp [jV.j0])
  | succ kj3 =>
   have H:=HA.out
   clear HA
   simp only [jV.j0] at H
   by_cases c9:x13_3=true
   ·subst c9
    have H1:(some l2)=some r:=by rw [if_pos rfl] at H;exact H
    clear H
    have H:=H1
    clear H1
    obtain rfl:=Option.some.inj H
    go_wp2
    go_ret
    exact ⟨_,Y0,rq HO_2.out,Y41,Y37⟩
   ·replace c9:=Bool.eq_false_iff.mpr c9
    subst c9
    have H1:(if l2.length<17592186044416 then (if 0≤a1 then (if a1<(l0_0.length:Int) then ((jV.f kj3 l0_0 ((jA l0_0 a1).f2) (l2 ++ [a1])).bind fun t177=>((jV.f kj3 l0_0 ((jA l0_0 a1).f3) t177).bind fun t181=>(some t181))) else (none)) else (none)) else (none))=some r:=by rw [if_neg (show ¬ (false=true) by decide)] at H;exact H
    clear H
    have H:=H1
    clear H1
    by_cases c10:l2.length<17592186044416
    ·rw [if_pos c10] at H
     have LMc10:=am c10
     clear c10
     obtain ⟨y173,hy173⟩:∃ y_:List Int,y_=(l2 ++ [a1]):=⟨_,rfl⟩
     replace H:(if 0≤a1 then (if a1<(l0_0.length:Int) then ((jV.f kj3 l0_0 ((jA l0_0 a1).f2) y173).bind fun t177=>((jV.f kj3 l0_0 ((jA l0_0 a1).f3) t177).bind fun t181=>(some t181))) else (none)) else (none))=some r:=by first |(rw [hy173];with_reducible exact H) |(have H2_:=(Option.bind_some _ _).symm.trans H;rw [hy173];with_reducible exact H2_) |(have H2_:=(Option.bind_some _ _).symm.trans H;with_reducible exact H2_) | with_reducible exact H |(rw [hy173];exact H) | exact H
     have Ny173:=am hy173
     clear hy173
     by_cases c11:0≤a1
     ·rw [if_pos c11] at H
      have c11b0:decide (0≤a1)=true:=dzT c11
      clear c11
      by_cases c12:a1<(l0_0.length:Int)
      ·rw [if_pos c12] at H
       have c12b0:decide (a1<(l0_0.length:Int))=true:=dzT c12
       clear c12
       replace H:=bzS H
       obtain ⟨t177,A130,H⟩:=H
       replace H:((jV.f kj3 l0_0 ((jA l0_0 a1).f3) t177).bind fun t181=>(some t181))=some r:=H
       have A13:=am A130
       clear A130
       replace H:=bzS H
       obtain ⟨t181,A140,H⟩:=H
       replace H:(some t181)=some r:=H
       have A14:=am A140
       clear A140
       obtain rfl:=Option.some.inj H
       try go_wp2_with (first |((with_reducible refine jib (b:=.append) (xs:=#[.tmp 15, .tmp 17]) rfl ?_);at_builtin;refine Kd.jnc (Kd.int .i64) (w0:=w0) w0.heap.size rfl (.tmp 15) (.tmp 17) 45 3 (.int .i64 0) 8 rfl Try.underlying45 info3 rfl (by decide) (by omega) u9000_ l2 a1 [.int .i64 a1] (fun k_=>(P2_ k_∨w.heap.size≤k_)) (fun _=>False) rfl rfl ?aP (fun _ hk=>hk.elim) ?aF ?aO ?aB ?aS ?aL ?_;(case aP=>exact rfl);(case aB=>exact (Y41));(case aF=>exact (fun k_ hk=>(.inr (Nat.le_trans (Y103) hk))));(case aO=>exact (rq HO_2.out));(case aS=>exact (jD (Y41)));(case aL=>have:=LMc10.out;omega);intro v174 w15 ho hb hg hat;rw [← Ny173.out] at ho;have n0_:=am (jU (g:=gb171) (o:=.cells #[.slice A0_0 l0_0.length c0_0] 53 (0,0)) (kq BK171.out) hg (Kd.R_ne HO_2.out BK171.out (by decide)));have n1_:=am (hb);have n2_:=am (Kept.jMb (S:=(fun k_=>P2_ k_)) hg (Y37) (fun k_ e_=>(HO_2.out.1 k_ e_)));have n3_:=am (ho);clear BK171 HB HK HO_2;have BK171:=n0_;have HB:=n1_;have HK:=n2_;have HO175:=n3_;clear n0_ n1_ n2_ n3_ ho hb hg hat))
       replace HO175:=am (Kd.jua HO175.out)
       replace BK171:=am (ji BK171.out)
       replace HK:=am (Kept.drew HK.out)
       replace HB:=am (jq HB.out)
       have p176:0≤(a1:Int):=ozD (uq)
       have q176:a1<(l0_0.length:Int):=ozD (uq)
       obtain ⟨ad176,e176,hx176_0,hx176_1,hx176_2,hx176_3,hx176_4⟩:=at_T90 (Kd.jbd HR0_0.out HK.out) a1 p176 q176
       have hw176_4:=hx176_4
       have hw176_3:=hx176_3
       have hw176_2:=hx176_2
       have hw176_1:=hx176_1
       have hw176_0:=hx176_0
       cases e176
       replace p176:=ezT p176
       replace q176:=ezT q176
       obtain ⟨Ao17,co17,eo17⟩:=Kd.jM HO175.out
       (first | subst eo17 |(injection eo17 with f1_ f2_ f3_;have f4_:=f1_.symm;have f5_:=f3_.symm;clear f1_ f2_ f3_;subst f4_;subst f5_))
       refine jFc (n:=10) (S:=fun w'=>w'.cell? ⟨gb171,0,none⟩=some (.slice (some ad176) l0_0.length c0_0)∧w'.cell? (ad176.add ((a1).toNat * 5))=some (.int .i64 ((jA l0_0 a1).f0))∧w'.cell? ⟨(ad176.add ((a1).toNat * 5)).block,(ad176.add ((a1).toNat * 5)).off+1,none⟩=some (.int .i64 ((jA l0_0 a1).f1))∧w'.cell? ⟨(ad176.add ((a1).toNat * 5)).block,(ad176.add ((a1).toNat * 5)).off+2,none⟩=some (.int .i64 ((jA l0_0 a1).f2))∧w'.cell? ⟨(ad176.add ((a1).toNat * 5)).block,(ad176.add ((a1).toNat * 5)).off+3,none⟩=some (.int .i64 ((jA l0_0 a1).f3))∧w'.cell? ⟨(ad176.add ((a1).toNat * 5)).block,(ad176.add ((a1).toNat * 5)).off+4,none⟩=some (.bool ((jA l0_0 a1).f4))) (ds:=[8]) #[false,false,false,false,false,false,false,false,false,false] (by kernel_rfl) rfl rfl ⟨(jma BK171.out 0).trans rfl,hx176_0,hx176_1,hx176_2,hx176_3,hx176_4⟩ (fun hHeld=>?_);refine jOb jV.tab4 jV.bits4 (fun HT_ HW_=>?_)
       generalize w15.drew=w16 at HO175 BK171 HK HB hx176_0 hx176_1 hx176_2 hx176_3 hx176_4 hHeld ⊢
       refine pq (i:=1) (N:=some 20) #[false,true,false,false,false,false,false,false,false,false] ?_
       refine pq (i:=3) (N:=some 22) #[false,true,false,true,false,false,false,false,false,false] ?_
       refine pq (i:=7) (N:=some 26) #[false,true,false,true,false,false,false,true,false,false] ?_
       refine jbc (i:=0) (N:=some 19) (v:=?_) (a':=?_) #[true,true,false,true,false,false,false,true,false,false] rfl rfl (jkb HT_.out HW_.out (by kernel_rfl)) (fun _ _ _ h=>h) (Or.inl ⟨by rfl,?_⟩) hHeld ?_ ?_
       rotate_left
       ·rintro w' ⟨s0,s1,s2,s3,s4,s5⟩
        go_simp
        with_reducible rfl
       rotate_left
       ·exact sa
       refine jbc (i:=2) (N:=some 21) (v:=?_) (a':=?_) #[true,true,true,true,false,false,false,true,false,false] rfl rfl (jkb HT_.out HW_.out (by kernel_rfl)) (fun _ _ _ h=>h) (Or.inl ⟨by rfl,?_⟩) hHeld ?_ ?_
       rotate_left
       ·rintro w' ⟨s0,s1,s2,s3,s4,s5⟩
        go_simp
        with_reducible rfl
       rotate_left
       ·exact sa
       refine pq (i:=4) (N:=some 23) #[true,true,true,true,true,false,false,true,false,false] ?_
       refine pq (i:=5) (N:=some 24) #[true,true,true,true,true,true,false,true,false,false] ?_
       refine jbc (i:=6) (N:=some 25) (v:=?_) (a':=?_) #[true,true,true,true,true,true,true,true,false,false] rfl rfl (jkb HT_.out HW_.out (by kernel_rfl)) (fun _ _ _ h=>h) (Or.inl ⟨by rfl,?_⟩) hHeld ?_ ?_
       rotate_left
       ·rintro w' ⟨s0,s1,s2,s3,s4,s5⟩
        go_simp
        with_reducible rfl
       rotate_left
       ·exact sa
       refine last_ (i:=8) (N:=some 27) #[true,true,true,true,true,true,true,true,true,false] rfl rfl (jRb HT_.out (by kernel_rfl)) (by decide) (fun K hK=>?_)
       refine goes_ Try.func101 (by kernel_rfl) rfl #[.agg #[.slice (some ad176) l0_0.length c0_0], .int .i64 ((jA l0_0 a1).f2), .slice Ao17 y173.length co17] (by rfl) rfl rfl (aq) ?_
       with_reducible refine (ih kj3 (by have:=HJ3.out;omega) _ _ l0_0 ((jA l0_0 a1).f2) (fun k_=>some k_=(.slice Ao17 y173.length co17:Value).ownBlock) (.slice Ao17 y173.length co17) y173 t177 w0 _ ?side1 ?side2 ?side3 ?side4 A13.out).mono ?_
       (case side1=>exact Y41)
       (case side2=>exact Kd.C_kept_call HR0_0.out (Y37) (fun k_ hs_=>(fun e_=>(HO175.out.1 k_ e_.symm)) hs_))
       (case side3=>exact HC0_0.out)
       (case side4=>exact Kd.jlc rfl HO175.out)
       rintro e w18 ⟨v178,rfl,ho0,hb,hkp⟩
       refine ⟨_,rfl,?_⟩
       have n0_:=am (jub (kq BK171.out) hkp (fun hs_=>(fun e_=>(Kd.R_ne HO175.out BK171.out (by decide)) e_) hs_))
       have n1_:=am (Kd.jH (ok':=fun k_=>(P2_ k_∨w.heap.size≤k_)) ho0 (fun k_ hk_=>Or.elim hk_ (fun hs_=>(HO175.out.1 k_ (hs_).symm)) (fun hn_=>(.inr (Nat.le_trans (Y103) hn_)))))
       have n2_:=am (Kept.then_ (S:=(fun k_=>P2_ k_)) (Y37) hkp (fun k_ hs_=>(fun e_=>(HO175.out.1 k_ e_.symm)) hs_))
       have n3_:=am (hb)
       clear BK171
       clear HK
       clear HB
       clear HO175
       have BK171:=n0_
       have HO179:=n1_
       have HK:=n2_
       have HB:=n3_
       clear n0_ n1_ n2_ n3_
       (try clear hb)
       (try clear hkp)
       (try clear ho0)
       refine hK.out _ _ ?_
       clear hK K
       refine jBc (a':=?_) ?_ ?_
       rotate_left
       ·show Act.put _ (some 27) _=_
        simp only [Act.put,List.setIfInBounds_toArray,List.set_cons_zero,List.set_cons_succ,jzb,jCb]
        rfl
       refine pq (i:=9) (N:=some 2) #[true,true,true,true,true,true,true,true,true,true] ?_
       refine done_ (jKc HT_.out (by kernel_rfl)) ?_
       try go_wp2
       replace HO179:=am (Kd.jua HO179.out)
       replace BK171:=am (ji BK171.out)
       replace HK:=am (Kept.drew HK.out)
       replace HB:=am (jq HB.out)
       have p180:0≤(a1:Int):=ozD (uq)
       have q180:a1<(l0_0.length:Int):=ozD (uq)
       obtain ⟨ad180,e180,hx180_0,hx180_1,hx180_2,hx180_3,hx180_4⟩:=at_T90 (Kd.jbd HR0_0.out HK.out) a1 p180 q180
       have hw180_4:=hx180_4
       have hw180_3:=hx180_3
       have hw180_2:=hx180_2
       have hw180_1:=hx180_1
       have hw180_0:=hx180_0
       obtain rfl:ad176=ad180:=(by injection e180)
       replace p180:=ezT p180
       replace q180:=ezT q180
       obtain ⟨Ao20,co20,eo20⟩:=Kd.jM HO179.out
       (first | subst eo20 |(injection eo20 with f1_ f2_ f3_;have f4_:=f1_.symm;have f5_:=f3_.symm;clear f1_ f2_ f3_;subst f4_;subst f5_))
       refine jFc (n:=10) (S:=fun w'=>w'.cell? ⟨gb171,0,none⟩=some (.slice (some ad176) l0_0.length c0_0)∧w'.cell? (ad176.add ((a1).toNat * 5))=some (.int .i64 ((jA l0_0 a1).f0))∧w'.cell? ⟨(ad176.add ((a1).toNat * 5)).block,(ad176.add ((a1).toNat * 5)).off+1,none⟩=some (.int .i64 ((jA l0_0 a1).f1))∧w'.cell? ⟨(ad176.add ((a1).toNat * 5)).block,(ad176.add ((a1).toNat * 5)).off+2,none⟩=some (.int .i64 ((jA l0_0 a1).f2))∧w'.cell? ⟨(ad176.add ((a1).toNat * 5)).block,(ad176.add ((a1).toNat * 5)).off+3,none⟩=some (.int .i64 ((jA l0_0 a1).f3))∧w'.cell? ⟨(ad176.add ((a1).toNat * 5)).block,(ad176.add ((a1).toNat * 5)).off+4,none⟩=some (.bool ((jA l0_0 a1).f4))) (ds:=[8]) #[false,false,false,false,false,false,false,false,false,false] (by kernel_rfl) rfl rfl ⟨(jma BK171.out 0).trans rfl,hx180_0,hx180_1,hx180_2,hx180_3,hx180_4⟩ (fun hHeld=>?_);refine jOb jV.tab5 jV.bits5 (fun HT_ HW_=>?_)
       generalize w18.drew=w19 at HO179 BK171 HK HB hx180_0 hx180_1 hx180_2 hx180_3 hx180_4 hHeld ⊢
       refine pq (i:=1) (N:=some 29) #[false,true,false,false,false,false,false,false,false,false] ?_
       refine pq (i:=3) (N:=some 31) #[false,true,false,true,false,false,false,false,false,false] ?_
       refine pq (i:=7) (N:=some 35) #[false,true,false,true,false,false,false,true,false,false] ?_
       refine jbc (i:=0) (N:=some 28) (v:=?_) (a':=?_) #[true,true,false,true,false,false,false,true,false,false] rfl rfl (jkb HT_.out HW_.out (by kernel_rfl)) (fun _ _ _ h=>h) (Or.inl ⟨by rfl,?_⟩) hHeld ?_ ?_
       rotate_left
       ·rintro w' ⟨s0,s1,s2,s3,s4,s5⟩
        go_simp
        with_reducible rfl
       rotate_left
       ·exact sa
       refine jbc (i:=2) (N:=some 30) (v:=?_) (a':=?_) #[true,true,true,true,false,false,false,true,false,false] rfl rfl (jkb HT_.out HW_.out (by kernel_rfl)) (fun _ _ _ h=>h) (Or.inl ⟨by rfl,?_⟩) hHeld ?_ ?_
       rotate_left
       ·rintro w' ⟨s0,s1,s2,s3,s4,s5⟩
        go_simp
        with_reducible rfl
       rotate_left
       ·exact sa
       refine pq (i:=4) (N:=some 32) #[true,true,true,true,true,false,false,true,false,false] ?_
       refine pq (i:=5) (N:=some 33) #[true,true,true,true,true,true,false,true,false,false] ?_
       refine jbc (i:=6) (N:=some 34) (v:=?_) (a':=?_) #[true,true,true,true,true,true,true,true,false,false] rfl rfl (jkb HT_.out HW_.out (by kernel_rfl)) (fun _ _ _ h=>h) (Or.inl ⟨by rfl,?_⟩) hHeld ?_ ?_
       rotate_left
       ·rintro w' ⟨s0,s1,s2,s3,s4,s5⟩
        go_simp
        with_reducible rfl
       rotate_left
       ·exact sa
       refine last_ (i:=8) (N:=some 36) #[true,true,true,true,true,true,true,true,true,false] rfl rfl (jRb HT_.out (by kernel_rfl)) (by decide) (fun K hK=>?_)
       refine goes_ Try.func101 (by kernel_rfl) rfl #[.agg #[.slice (some ad176) l0_0.length c0_0], .int .i64 ((jA l0_0 a1).f3), .slice Ao20 t177.length co20] (by rfl) rfl rfl (aq) ?_
       with_reducible refine (ih kj3 (by have:=HJ3.out;omega) _ _ l0_0 ((jA l0_0 a1).f3) (fun k_=>some k_=(.slice Ao20 t177.length co20:Value).ownBlock) (.slice Ao20 t177.length co20) t177 t181 w0 _ ?side1 ?side2 ?side3 ?side4 A14.out).mono ?_
       (case side1=>exact Y41)
       (case side2=>exact Kd.C_kept_call HR0_0.out (Y37) (fun k_ hs_=>(fun e_=>(HO179.out.1 k_ e_.symm)) hs_))
       (case side3=>exact HC0_0.out)
       (case side4=>exact Kd.jlc rfl HO179.out)
       rintro e w21 ⟨v182,rfl,ho0,hb,hkp⟩
       refine ⟨_,rfl,?_⟩
       have n0_:=am (jub (kq BK171.out) hkp (fun hs_=>(fun e_=>(Kd.R_ne HO179.out BK171.out (by decide)) e_) hs_))
       have n1_:=am (Kd.jH (ok':=fun k_=>(P2_ k_∨w.heap.size≤k_)) ho0 (fun k_ hk_=>Or.elim hk_ (fun hs_=>(HO179.out.1 k_ (hs_).symm)) (fun hn_=>(.inr (Nat.le_trans (Y103) hn_)))))
       have n2_:=am (Kept.then_ (S:=(fun k_=>P2_ k_)) (Y37) hkp (fun k_ hs_=>(fun e_=>(HO179.out.1 k_ e_.symm)) hs_))
       have n3_:=am (hb)
       clear BK171
       clear HK
       clear HB
       clear HO179
       have BK171:=n0_
       have HO183:=n1_
       have HK:=n2_
       have HB:=n3_
       clear n0_ n1_ n2_ n3_
       (try clear hb)
       (try clear hkp)
       (try clear ho0)
       refine hK.out _ _ ?_
       clear hK K
       refine jBc (a':=?_) ?_ ?_
       rotate_left
       ·show Act.put _ (some 36) _=_
        simp only [Act.put,List.setIfInBounds_toArray,List.set_cons_zero,List.set_cons_succ,jzb,jCb]
        rfl
       refine pq (i:=9) (N:=some 6) #[true,true,true,true,true,true,true,true,true,true] ?_
       refine done_ (jKc HT_.out (by kernel_rfl)) ?_
       try go_wp2
       go_ret
       exact ⟨_,Y0,rq HO183.out,Y41,Y37⟩
      ·rw [if_neg c12] at H
       exact absurd H (by simp)
     ·rw [if_neg c11] at H
      exact absurd H (by simp)
    ·rw [if_neg c10] at H
     exact absurd H (by simp)
def jKa.l0 : Nat → List Int → Int → Int → Option (Int)
 | 0,_,_,_=>none
 | k+1,x0,x1,x5=>if x5<(x0.length:Int) then (if 0≤x5 then (if (rd x0 x5)=x1 then (some x5) else (jKa.l0 k x0 x1 (wrap64 (x5+1)))) else (none)) else (some (-1))
def jKa.f (k : Nat) (l0 : List Int) (a1 : Int) : Option (Int) := jKa.l0 k l0 a1 0
set_option maxHeartbeats 8000000 in
set_option maxRecDepth 100000 in
theorem jKa.calls (k : Nat) (A0 : Option Addr) (c0 : Nat) (l0 : List Int) (a1 : Int) (r : Int) (w : World) (hr0 : Kd.C (Kd.int .i64) w A0 l0.length l0) (hc0 : l0.length ≤ c0) (h : jKa.f k l0 a1 = some r) :
  Calls Try.prog 102 #[.slice A0 l0.length c0, .int .i64 a1] w fun e w'=>e=.returned (.int .i64 r)∧jBb w w':=by
 have HR0:=am hr0
 have HC0:=am hc0
 clear hr0 hc0
 have H:(jKa.l0 k l0 a1 0)=some r:=h
 clear h
 have H':=am H
 clear H
 go_enter Try.func102,Try.ntmps102
 go_wp2
 go_loopg [5] k (fun kq v5 w'=>∃ (x5_1:Int),v5=.int .i64 x5_1∧jF (jKa.l0 kq l0 a1 x5_1=some r)∧jF (kq≤k)∧jBb w w')
 case atStart=>exact ⟨(0),(sq),H',⟨Nat.le_refl _⟩,Y5⟩
 case round =>
  clear H'
  try clear c1
  try clear p2
  obtain ⟨x5_1,rfl,HA,HK1,⟨m1,rfl⟩⟩:=hrel
  cases gk with
  | zero=>exact absurd HA.out (by simp [jKa.l0])
  | succ k1 =>
   have H:=HA.out
   clear HA
   simp only [jKa.l0] at H
   by_cases c3:x5_1<(l0.length:Int)
   ·rw [if_pos c3] at H
    have c3b0:decide (x5_1<(l0.length:Int))=true:=dzT c3
    clear c3
    by_cases c4:0≤x5_1
    ·rw [if_pos c4] at H
     have c4b0:decide (0≤x5_1)=true:=dzT c4
     clear c4
     by_cases c5:(rd l0 x5_1)=a1
     ·rw [if_pos c5] at H
      have c5b0:((rd l0 x5_1) == a1)=true:=beq_iff_eq.mpr c5
      have c5b1:((rd l0 x5_1) != a1)=false:=bne_eq_false_iff_eq.mpr c5
      clear c5
      obtain rfl:=Option.some.inj H
      have p184:0≤(x5_1:Int):=ozD (uq)
      have q184:x5_1<(l0.length:Int):=ozD (uq)
      obtain ⟨ad184,e184,hx184_0⟩:=Kd.jSc HR0.out x5_1 p184 q184
      cases e184
      replace p184:=ezT p184
      replace q184:=ezT q184
      go_wp2
      go_ret
      exact ⟨sq,Y5⟩
     ·rw [if_neg c5] at H
      have c5b0:((rd l0 x5_1) == a1)=false:=beq_eq_false_iff_ne.mpr c5
      have c5b1:((rd l0 x5_1) != a1)=true:=bne_iff_ne.mpr c5
      have H':=am H
      clear H
      have p184:0≤(x5_1:Int):=ozD (uq)
      have q184:x5_1<(l0.length:Int):=ozD (uq)
      obtain ⟨ad184,e184,hx184_0⟩:=Kd.jSc HR0.out x5_1 p184 q184
      cases e184
      replace p184:=ezT p184
      replace q184:=ezT q184
      go_wp2
      go_roundg k1
      case measure=>have:=HK1.out;omega
      case rel=>exact ⟨(wrap64 (x5_1+1)),(sq),H',⟨by have:=HK1.out;omega⟩,Y5⟩
    ·rw [if_neg c4] at H
     exact absurd H (by simp)
   ·rw [if_neg c3] at H
    have c3b0:decide (x5_1<(l0.length:Int))=false:=dzF c3
    clear c3
    obtain rfl:=Option.some.inj H
    go_wp2
    go_ret
    exact ⟨sq,Y5⟩
def jY.l0 : Nat → Int → List Int → Int → List (S90) → List (S90) → Option ((List (S90)) × Int)
 | 0,_,_,_,_,_=>none
 | k+1,x1,x6,x8,x186000,x200000=>if x8<(x6.length:Int) then (if 0≤x8 then (if 0≤(rd x6 x8) then (if (rd x6 x8)<(x186000.length:Int) then ((jKa.f k x6 ((jA x186000 (rd x6 x8)).f2)).bind fun t204=>((jKa.f k x6 ((jA x186000 (rd x6 x8)).f3)).bind fun t205=>(if x200000.length<3518437208883 then (jY.l0 k x1 x6 (wrap64 (x8+1)) x186000 (x200000 ++ [(⟨(jA x186000 (rd x6 x8)).f0,(jA x186000 (rd x6 x8)).f1,t204,t205,(jA x186000 (rd x6 x8)).f4⟩:S90)])) else (none)))) else (none)) else (none)) else (none)) else ((jKa.f k x6 x1).bind fun t200=>(some (x200000,t200)))
def jY.f (k : Nat) (l0_0 : List (S90)) (a1 : Int) : Option ((List (S90)) × Int) := (jV.f k l0_0 a1 (([] : List Int))).bind fun t190 => ((jHb.f t190).bind fun t193 => (jY.l0 k a1 t193 0 l0_0 (([] : List (S90)))))
def jY.T6 : Bool × List (List Nat × List Nat) := (true, [([], []), ([0], [0]), ([], []), ([], []), ([2, 3], [2, 3]), ([4], [4]), ([1, 5], [1, 5]), ([6], [6]), ([], []), ([8, 7, 0, 1, 2, 3, 4, 5, 6, 7, 8], [7, 8])])
def jY.B6 : List Nat := [0, 1, 0, 0, 12, 28, 63, 127, 0, 511]
theorem jY.tab6 : rtab .any (opsOf Try.f70 6) = jY.T6 := by kernel_rfl
theorem jY.bits6 : joc jY.T6.2 jY.B6 = true := by kernel_rfl
set_option maxHeartbeats 8000000 in
set_option maxRecDepth 100000 in
theorem jY.calls (k : Nat) (A0_0 : Option Addr) (c0_0 : Nat) (l0_0 : List (S90)) (a1 : Int) (r1 : List (S90)) (r2 : Int) (w : World) (hr0_0 : Kd.C k90 w A0_0 l0_0.length l0_0) (hc0_0 : l0_0.length ≤ c0_0) (h : jY.f k l0_0 a1 = some (r1, r2)) :
  Calls Try.prog 70 #[.agg #[.slice A0_0 l0_0.length c0_0], .int .i64 a1] w fun e w'=>∃ v0_:Value,e=.returned (.tuple #[.agg #[v0_], .int .i64 r2])∧Kd.R k90 90 w' w.heap.size (fun _=>True) v0_ r1∧Below w.heap.size w w':=by
 have hu53:=Try.underlying53
 have hu90:=Try.underlying90
 have HR0_0:=am hr0_0
 have HC0_0:=am hc0_0
 clear hr0_0 hc0_0
 have HB:=am (Below.refl w.heap.size w)
 have H:((jV.f k l0_0 a1 (([]:List Int))).bind fun t190=>((jHb.f t190).bind fun t193=>(jY.l0 k a1 t193 0 l0_0 (([]:List (S90))))))=some (r1,r2):=h
 clear h
 obtain ⟨y187,hy187⟩:∃ y_:List Int,y_=(([]:List Int)):=⟨_,rfl⟩
 replace H:((jV.f k l0_0 a1 y187).bind fun t190=>((jHb.f t190).bind fun t193=>(jY.l0 k a1 t193 0 l0_0 (([]:List (S90))))))=some (r1,r2):=by first |(rw [hy187];with_reducible exact H) |(have H2_:=(Option.bind_some _ _).symm.trans H;rw [hy187];with_reducible exact H2_) |(have H2_:=(Option.bind_some _ _).symm.trans H;with_reducible exact H2_) | with_reducible exact H |(rw [hy187];exact H) | exact H
 have Ny187:=am hy187
 clear hy187
 replace H:=bzS H
 obtain ⟨t190,A30,H⟩:=H
 replace H:((jHb.f t190).bind fun t193=>(jY.l0 k a1 t193 0 l0_0 (([]:List (S90)))))=some (r1,r2):=H
 have A3:=am A30
 clear A30
 replace H:=bzS H
 obtain ⟨t193,A40,H⟩:=H
 replace H:(jY.l0 k a1 t193 0 l0_0 (([]:List (S90))))=some (r1,r2):=H
 have A4:=am A40
 clear A40
 obtain ⟨y196,hy196⟩:∃ y_:List (S90),y_=(([]:List (S90))):=⟨_,rfl⟩
 replace H:(jY.l0 k a1 t193 0 l0_0 y196)=some (r1,r2):=by first |(rw [hy196];with_reducible exact H) |(have H2_:=(Option.bind_some _ _).symm.trans H;rw [hy196];with_reducible exact H2_) |(have H2_:=(Option.bind_some _ _).symm.trans H;with_reducible exact H2_) | with_reducible exact H |(rw [hy196];exact H) | exact H
 have Ny196:=am hy196
 clear hy196
 have H':=am H
 clear H
 go_enter Try.func70,Try.ntmps70
 go_wp2_with (first |((with_reducible refine jB (N:=2) rfl ?_);refine bE (N:=2) (cs:=#[.slice A0_0 l0_0.length c0_0]) (t:=53) ?_;intro gb185 hg w5 hbox hb;have BK185:=am (hbox);have GW185:=am ((Y1:w.heap.size≤gb185));have GE185:=am ((Y1:w.heap.size≤gb185));replace HB:=am (jb (bq) hb);clear hb hbox hg) |((with_reducible refine jB (N:=4) rfl ?_);refine bE (N:=4) (cs:=#[.slice none 0 0]) (t:=53) ?_;intro gb186 hg w6 hbox hb;have BK186:=am (hbox);have GW186:=am ((Y124:w.heap.size≤gb186));have GE186:=am ((Y124:w.heap.size≤gb186));have NB185_186:=am ((by rw [hg];exact Nat.ne_of_lt (jX (g:=gb185) (o:=.cells #[.slice A0_0 l0_0.length c0_0] 53 (0,0)) (kq BK185.out)):gb185≠gb186));have NB186_185:=am ((by rw [hg];exact Nat.ne_of_gt (jX (g:=gb185) (o:=.cells #[.slice A0_0 l0_0.length c0_0] 53 (0,0)) (kq BK185.out)):gb186≠gb185));replace BK185:=am (je (g:=gb185) (o:=.cells #[.slice A0_0 l0_0.length c0_0] 53 (0,0)) (kq BK185.out) hb);replace HB:=am (jb (by repeat (first |(with_reducible first | exact HB.out | apply jo | apply jg | apply jq | refine jl ?_ GE185.out) | exact HB.out)) hb);clear hb hbox hg;have hnb7:=NB185_186.out;have hnc7:=NB186_185.out;have hcz8_0:=bc0 BK185.out;have hfz8_0:=ja BK185.out 0) |((with_reducible refine jB (N:=12) rfl ?_);refine Kd.jNc (Kd.int .i64) _ 3 ?hg (N:=12) ?hd (xs:=([]:List Int)) (inner:=[]) (ok:=fun _=>True) (okp:=fun _=>True) ?hr ?hp (fun _ hk=>hk) trivial (Below.refl _ _) (Nat.le_refl _) (by simp) ?_;(case hd=>rfl);(case hg=>rfl);(case hr=>exact Y3);(case hp=>exact (Reps.none _ _));intro v188 w9 ho10 hb hg_ hnew_;clear hg_ hnew_;(first | rw [← Ny187.out] at ho10 |(simp only [Int.reduceToNat] at ho10;rw [← Ny187.out] at ho10));have HO189:=am (Kd.jda ho10 (jD (Y38)));replace BK185:=am (je (g:=gb185) (o:=.cells #[.slice A0_0 l0_0.length c0_0] 53 (0,0)) (kq BK185.out) hb);replace BK186:=am (je (g:=gb186) (o:=.cells #[.slice none 0 0] 53 (0,0)) (kq BK186.out) hb);replace HB:=am (jb (Y38) hb);clear hb ho10;obtain ⟨Ao11,co11,eo11⟩:=Kd.jM HO189.out;subst eo11) |((with_reducible refine jm (f:=101) rfl ?_);refine gL (some 13) Try.func101 #[.agg #[.slice A0_0 l0_0.length c0_0], .int .i64 a1, .slice Ao11 y187.length co11] ?_;(with_reducible refine (jV.calls k _ _ l0_0 a1 (fun k_=>some k_=(.slice Ao11 y187.length co11:Value).ownBlock) (.slice Ao11 y187.length co11) y187 t190 w _ ?side1 ?side2 ?side3 ?side4 A3.out).mono ?_);(case side1=>exact Y38);(case side2=>exact Kd.jXb k90_heap HR0_0.out (Y38) (fun k_ hs_=>(fun e_=>Kd.jAb HO189.out k_ e_.symm) hs_));(case side3=>exact HC0_0.out);(case side4=>exact Kd.jlc rfl HO189.out);rintro e w12 ⟨v191,rfl,ho0,hb,hkp⟩;refine ⟨_,rfl,?_⟩;have n0_:=am (jub (kq BK185.out) hkp (fun hs_=>(fun e_=>(Kd.R_ne HO189.out BK185.out (by decide)) e_) hs_));have n1_:=am (jub (kq BK186.out) hkp (fun hs_=>(fun e_=>(Kd.R_ne HO189.out BK186.out (by decide)) e_) hs_));have n2_:=am (Kd.jH (ok':=fun k_=>True) ho0 (fun k_ hk_=>trivial));have n3_:=am (hb);clear BK185 BK186 HB HO189;have BK185:=n0_;have BK186:=n1_;have HO192:=n2_;have HB:=n3_;clear n0_ n1_ n2_ n3_;(try clear hb);(try clear hkp);(try clear ho0);obtain ⟨Ao13,co13,eo13⟩:=Kd.jM HO192.out;subst eo13) |((with_reducible refine jm (f:=100) rfl ?_);refine gL (some 14) Try.func100 #[.slice Ao13 t190.length co13] ?_;(with_reducible refine (jHb.calls _ _ t190 t193 _ ?side1 ?side2 A4.out).mono ?_);(case side1=>exact cq (Kd.jv HO192.out).2.2);(case side2=>exact (Kd.jv HO192.out).2.1);rintro e w14 ⟨v194,rfl,ho0,hb⟩;refine ⟨_,rfl,?_⟩;have HO195:=am (Kd.jda (Kd.jec ho0 (Kd.R_lt (rq HO192.out))) (jD (Y38)));replace HO192:=am (Kd.jqb (rq HO192.out) (Kd.jAb ho0) hb);replace BK185:=am (je (g:=gb185) (o:=.cells #[.slice A0_0 l0_0.length c0_0] 53 (0,0)) (kq BK185.out) hb);replace BK186:=am (je (g:=gb186) (o:=.cells #[.slice none 0 0] 53 (0,0)) (kq BK186.out) hb);replace HB:=am (jb (Y38) hb);(try clear hb);(try clear hb2);(try clear hk);(try clear hi);(try clear ho0)) |((with_reducible refine jB (N:=15) rfl ?_);refine Kd.jNc k90 _ 90 ?hg (N:=15) ?hd (xs:=([]:List (S90))) (inner:=[]) (ok:=fun _=>True) (okp:=fun _=>True) ?hr ?hp (fun _ hk=>hk) trivial (Below.refl _ _) (Nat.le_refl _) (by simp) ?_;(case hd=>rfl);(case hg=>rfl);(case hr=>exact Y3);(case hp=>exact (Reps.none _ _));intro v197 w15 ho16 hb hg_ hnew_;clear hg_ hnew_;(first | rw [← Ny196.out] at ho16 |(simp only [Int.reduceToNat] at ho16;rw [← Ny196.out] at ho16));have HO198:=am (Kd.jda ho16 (jD (Y38)));replace HO192:=am (Kd.jG (rq HO192.out) hb);replace HO195:=am (Kd.jG (rq HO195.out) hb);replace BK185:=am (je (g:=gb185) (o:=.cells #[.slice A0_0 l0_0.length c0_0] 53 (0,0)) (kq BK185.out) hb);replace BK186:=am (je (g:=gb186) (o:=.cells #[.slice none 0 0] 53 (0,0)) (kq BK186.out) hb);replace HB:=am (jb (Y38) hb);clear hb ho16;obtain ⟨Ao17,co17,eo17⟩:=Kd.jM HO198.out;subst eo17) |((with_reducible refine jB (N:=7) rfl ?_);refine bE (N:=7) (cs:=#[.slice none 0 0]) (t:=53) ?_;intro gb199 hg w18 hbox hb;have BK199:=am (hbox);have GW199:=am ((Y125:w.heap.size≤gb199));have GE199:=am ((Y125:w.heap.size≤gb199));have NB185_199:=am ((by rw [hg];exact Nat.ne_of_lt (jX (g:=gb185) (o:=.cells #[.slice A0_0 l0_0.length c0_0] 53 (0,0)) (kq BK185.out)):gb185≠gb199));have NB199_185:=am ((by rw [hg];exact Nat.ne_of_gt (jX (g:=gb185) (o:=.cells #[.slice A0_0 l0_0.length c0_0] 53 (0,0)) (kq BK185.out)):gb199≠gb185));have NB186_199:=am ((by rw [hg];exact Nat.ne_of_lt (jX (g:=gb186) (o:=.cells #[.slice none 0 0] 53 (0,0)) (kq BK186.out)):gb186≠gb199));have NB199_186:=am ((by rw [hg];exact Nat.ne_of_gt (jX (g:=gb186) (o:=.cells #[.slice none 0 0] 53 (0,0)) (kq BK186.out)):gb199≠gb186));replace HO192:=am (Kd.jG (rq HO192.out) hb);replace HO195:=am (Kd.jG (rq HO195.out) hb);replace HO198:=am (Kd.jG (rq HO198.out) hb);replace BK185:=am (je (g:=gb185) (o:=.cells #[.slice A0_0 l0_0.length c0_0] 53 (0,0)) (kq BK185.out) hb);replace BK186:=am (je (g:=gb186) (o:=.cells #[.slice none 0 0] 53 (0,0)) (kq BK186.out) hb);replace HB:=am (jb (Y38) hb);clear hb hbox hg;have hnb19:=NB199_185.out;have hnc19:=NB185_199.out;have hnb20:=NB199_186.out;have hnc20:=NB186_199.out;have hcz21_0:=bc0 BK199.out;have hfz21_0:=ja BK199.out 0))
 go_loopg [8] k (fun kq v8 w'=>∃ (x8_1:Int) (x200000_1:List (S90)) (u200000:Value),v8=.int .i64 x8_1∧jF (jY.l0 kq a1 t193 x8_1 l0_0 x200000_1=some (r1,r2))∧jF (kq≤k)∧jF (Kd.R (Kd.int .i64) 3 w' w.heap.size (fun _=>True) v194 t193)∧jF (Kd.R k90 90 w' w.heap.size (fun _=>True) u200000 x200000_1)∧jF (w'.heap[gb185]?=some (.cells #[(.slice A0_0 l0_0.length c0_0)] 53 (0,0)))∧jF (w'.heap[gb186]?=some (.cells #[(.slice none 0 0)] 53 (0,0)))∧jF (w'.heap[gb199]?=some (.cells #[u200000] 53 (0,0)))∧jF (Below w.heap.size w w'))
 case atStart=>exact ⟨(0),(y196),(.slice Ao17 y196.length co17),(sq),H',⟨Nat.le_refl _⟩,⟨by (with_reducible repeat (first | apply Kd.jka | apply Kd.joa | apply Kd.jua));exact Kd.jH (Kd.jEa (p:=⟨gb199,0,none⟩) (Kd.jha HO195.out BK199.out (by decide)) (fun _ hk=>hk.2) (.slice Ao17 y196.length co17)) (fun _ hk=>trivial)⟩,⟨by (with_reducible repeat (first | apply Kd.jka | apply Kd.joa | apply Kd.jua));exact Kd.jH (Kd.jEa (p:=⟨gb199,0,none⟩) (Kd.jha HO198.out BK199.out (by decide)) (fun _ hk=>hk.2) (.slice Ao17 y196.length co17)) (fun _ hk=>trivial)⟩,⟨by (with_reducible repeat (first | refine jf ?_ _ | refine ji ?_ | refine jd ?_ _));refine jqa ?_ NB185_199.out _;(with_reducible repeat (first | refine jf ?_ _ | refine ji ?_ | refine jd ?_ _));exact BK185.out⟩,⟨by (with_reducible repeat (first | refine jf ?_ _ | refine ji ?_ | refine jd ?_ _));refine jqa ?_ NB186_199.out _;(with_reducible repeat (first | refine jf ?_ _ | refine ji ?_ | refine jd ?_ _));exact BK186.out⟩,⟨by (with_reducible repeat (first | refine jf ?_ _ | refine ji ?_ | refine jd ?_ _));refine jna (cs:=#[.slice none 0 0]) ?_ 0 _ rfl;(with_reducible repeat (first | refine jf ?_ _ | refine ji ?_ | refine jd ?_ _));exact BK199.out⟩,⟨Y104⟩⟩
 case round =>
  clear H'
  try clear c1
  try clear c2
  try clear p2
  try clear c7
  try clear c10
  try clear c19
  try clear c20
  try clear hcz21_0
  try clear hcz8_0
  try clear hfz21_0
  try clear hfz8_0
  obtain ⟨x8_1,x200000_1,u200000,rfl,HA,HK1,HO_6,HO_200000,BK185,BK186,BK199,HB⟩:=hrel
  cases gk with
  | zero=>exact absurd HA.out (by simp [jY.l0])
  | succ k1 =>
   have H:=HA.out
   clear HA
   simp only [jY.l0] at H
   by_cases c22:x8_1<(t193.length:Int)
   ·rw [if_pos c22] at H
    have c22b0:decide (x8_1<(t193.length:Int))=true:=dzT c22
    clear c22
    by_cases c23:0≤x8_1
    ·rw [if_pos c23] at H
     have c23b0:decide (0≤x8_1)=true:=dzT c23
     clear c23
     by_cases c24:0≤(rd t193 x8_1)
     ·rw [if_pos c24] at H
      have c24b0:decide (0≤(rd t193 x8_1))=true:=dzT c24
      clear c24
      by_cases c25:(rd t193 x8_1)<(l0_0.length:Int)
      ·rw [if_pos c25] at H
       have c25b0:decide ((rd t193 x8_1)<(l0_0.length:Int))=true:=dzT c25
       clear c25
       replace H:=bzS H
       obtain ⟨t204,A260,H⟩:=H
       replace H:((jKa.f k1 t193 ((jA l0_0 (rd t193 x8_1)).f3)).bind fun t205=>(if x200000_1.length<3518437208883 then (jY.l0 k1 a1 t193 (wrap64 (x8_1+1)) l0_0 (x200000_1 ++ [(⟨(jA l0_0 (rd t193 x8_1)).f0,(jA l0_0 (rd t193 x8_1)).f1,t204,t205,(jA l0_0 (rd t193 x8_1)).f4⟩:S90)])) else (none)))=some (r1,r2):=H
       have A26:=am A260
       clear A260
       replace H:=bzS H
       obtain ⟨t205,A270,H⟩:=H
       replace H:(if x200000_1.length<3518437208883 then (jY.l0 k1 a1 t193 (wrap64 (x8_1+1)) l0_0 (x200000_1 ++ [(⟨(jA l0_0 (rd t193 x8_1)).f0,(jA l0_0 (rd t193 x8_1)).f1,t204,t205,(jA l0_0 (rd t193 x8_1)).f4⟩:S90)])) else (none))=some (r1,r2):=H
       have A27:=am A270
       clear A270
       by_cases c28:x200000_1.length<3518437208883
       ·rw [if_pos c28] at H
        have LMc28:=am c28
        clear c28
        obtain ⟨y206,hy206⟩:∃ y_:List (S90),y_=(x200000_1 ++ [(⟨(jA l0_0 (rd t193 x8_1)).f0,(jA l0_0 (rd t193 x8_1)).f1,t204,t205,(jA l0_0 (rd t193 x8_1)).f4⟩:S90)]):=⟨_,rfl⟩
        replace H:(jY.l0 k1 a1 t193 (wrap64 (x8_1+1)) l0_0 y206)=some (r1,r2):=by first |(rw [hy206];with_reducible exact H) |(have H2_:=(Option.bind_some _ _).symm.trans H;rw [hy206];with_reducible exact H2_) |(have H2_:=(Option.bind_some _ _).symm.trans H;with_reducible exact H2_) | with_reducible exact H |(rw [hy206];exact H) | exact H
        have Ny206:=am hy206
        clear hy206
        have H':=am H
        clear H
        obtain ⟨Ao29,co29,eo29⟩:=Kd.jM HO_6.out
        subst eo29
        try go_wp2
        replace HO_6:=am (Kd.jua HO_6.out)
        replace HO_200000:=am (Kd.jua HO_200000.out)
        replace BK185:=am (ji BK185.out)
        replace BK186:=am (ji BK186.out)
        replace BK199:=am (ji BK199.out)
        replace HB:=am (jq HB.out)
        have p201:0≤(x8_1:Int):=ozD (uq)
        have q201:x8_1<(t193.length:Int):=ozD (uq)
        obtain ⟨ad201,e201,hx201_0⟩:=Kd.jSc (Kd.jv HO_6.out).2.2 x8_1 p201 q201
        cases e201
        replace p201:=ezT p201
        replace q201:=ezT q201
        have p202:0≤((rd t193 x8_1):Int):=ozD (uq)
        have q202:(rd t193 x8_1)<(l0_0.length:Int):=ozD (uq)
        obtain ⟨ad202,e202,hx202_0,hx202_1,hx202_2,hx202_3,hx202_4⟩:=at_T90 HR0_0.out (rd t193 x8_1) p202 q202
        have hw202_4:=hx202_4
        have hw202_3:=hx202_3
        have hw202_2:=hx202_2
        have hw202_1:=hx202_1
        have hw202_0:=hx202_0
        cases e202
        replace hx202_0:=cb HB.out hx202_0
        replace hx202_1:=cb HB.out hx202_1
        replace hx202_2:=cb HB.out hx202_2
        replace hx202_3:=cb HB.out hx202_3
        replace hx202_4:=cb HB.out hx202_4
        replace p202:=ezT p202
        replace q202:=ezT q202
        refine jFc (n:=10) (S:=fun w'=>w'.cell? ⟨gb185,0,none⟩=some (.slice (some ad202) l0_0.length c0_0)∧w'.cell? (ad201.add (x8_1).toNat)=some (.int .i64 (rd t193 x8_1))∧w'.cell? (ad202.add (((rd t193 x8_1)).toNat * 5))=some (.int .i64 ((jA l0_0 (rd t193 x8_1)).f0))∧w'.cell? ⟨(ad202.add (((rd t193 x8_1)).toNat * 5)).block,(ad202.add (((rd t193 x8_1)).toNat * 5)).off+1,none⟩=some (.int .i64 ((jA l0_0 (rd t193 x8_1)).f1))∧w'.cell? ⟨(ad202.add (((rd t193 x8_1)).toNat * 5)).block,(ad202.add (((rd t193 x8_1)).toNat * 5)).off+2,none⟩=some (.int .i64 ((jA l0_0 (rd t193 x8_1)).f2))∧w'.cell? ⟨(ad202.add (((rd t193 x8_1)).toNat * 5)).block,(ad202.add (((rd t193 x8_1)).toNat * 5)).off+3,none⟩=some (.int .i64 ((jA l0_0 (rd t193 x8_1)).f3))∧w'.cell? ⟨(ad202.add (((rd t193 x8_1)).toNat * 5)).block,(ad202.add (((rd t193 x8_1)).toNat * 5)).off+4,none⟩=some (.bool ((jA l0_0 (rd t193 x8_1)).f4))) (ds:=[]) #[false,false,false,false,false,false,false,false,false,false] (by kernel_rfl) rfl rfl ⟨(jma BK185.out 0).trans rfl,hx201_0,((HB.out.cell (World.block_lt_of_cell? w _ hw202_0)).trans hw202_0),((HB.out.cell (World.block_lt_of_cell? w _ hw202_1)).trans hw202_1),((HB.out.cell (World.block_lt_of_cell? w _ hw202_2)).trans hw202_2),((HB.out.cell (World.block_lt_of_cell? w _ hw202_3)).trans hw202_3),((HB.out.cell (World.block_lt_of_cell? w _ hw202_4)).trans hw202_4)⟩ (fun hHeld=>?_);refine jOb jY.tab6 jY.bits6 (fun HT_ HW_=>?_)
        generalize wr.drew=w30 at HO_6 HO_200000 BK185 BK186 BK199 HB hx201_0 hx202_0 hx202_1 hx202_2 hx202_3 hx202_4 hHeld ⊢
        refine pq (i:=0) (N:=some 23) #[true,false,false,false,false,false,false,false,false,false] ?_
        refine pq (i:=2) (N:=some 25) #[true,false,true,false,false,false,false,false,false,false] ?_
        refine pq (i:=3) (N:=some 26) #[true,false,true,true,false,false,false,false,false,false] ?_
        refine pq (i:=4) (N:=some 27) #[true,false,true,true,true,false,false,false,false,false] ?_
        refine jbc (i:=1) (N:=some 24) (v:=?_) (a':=?_) #[true,true,true,true,true,false,false,false,false,false] rfl rfl (jkb HT_.out HW_.out (by kernel_rfl)) (fun _ _ _ h=>h) (Or.inl ⟨by rfl,?_⟩) hHeld ?_ ?_
        rotate_left
        ·rintro w' ⟨s0,s1,s2,s3,s4,s5,s6⟩
         go_simp
         with_reducible rfl
        rotate_left
        ·exact sa
        refine jbc (i:=5) (N:=some 28) (v:=?_) (a':=?_) #[true,true,true,true,true,true,false,false,false,false] rfl rfl (jkb HT_.out HW_.out (by kernel_rfl)) (fun _ _ _ h=>h) (Or.inl ⟨by rfl,?_⟩) hHeld ?_ ?_
        rotate_left
        ·rintro w' ⟨s0,s1,s2,s3,s4,s5,s6⟩
         go_simp
         with_reducible rfl
        rotate_left
        ·exact sa
        refine pq (i:=6) (N:=some 29) #[true,true,true,true,true,true,true,false,false,false] ?_
        refine jbc (i:=7) (N:=some 30) (v:=?_) (a':=?_) #[true,true,true,true,true,true,true,true,false,false] rfl rfl (jkb HT_.out HW_.out (by kernel_rfl)) (fun _ _ _ h=>h) (Or.inl ⟨by rfl,?_⟩) hHeld ?_ ?_
        rotate_left
        ·rintro w' ⟨s0,s1,s2,s3,s4,s5,s6⟩
         go_simp
         with_reducible rfl
        rotate_left
        ·exact sa
        refine one_ (i:=8) (N:=some 9) #[true,true,true,true,true,true,true,true,true,false] rfl rfl (jRb HT_.out (by kernel_rfl)) (by decide) (fun K hK=>?_)
        refine box_step ?hg (N:=9) ?hd (cs:=#[.int .i64 0, .int .i64 0, .int .i64 0, .int .i64 0, .bool false]) (t:=90) ?hr ?_;(case hd=>rfl);(case hg=>rfl);(case hr=>exact Y3)
        intro gb203 hg w31 hbox hb
        have HS1_:=(hb.cell (World.block_lt_of_cell? _ _ (hHeld.2.1))).trans (hHeld.2.1)
        have BK203:=am (hbox)
        have GW203:=am ((Y126:w.heap.size≤gb203))
        have GE203:=am ((Y126:w.heap.size≤gb203))
        have NB185_203:=am ((by rw [hg];exact Nat.ne_of_lt (jX (g:=gb185) (o:=.cells #[.slice (some ad202) l0_0.length c0_0] 53 (0,0)) (kq BK185.out)):gb185≠gb203))
        have NB203_185:=am ((by rw [hg];exact Nat.ne_of_gt (jX (g:=gb185) (o:=.cells #[.slice (some ad202) l0_0.length c0_0] 53 (0,0)) (kq BK185.out)):gb203≠gb185))
        have NB186_203:=am ((by rw [hg];exact Nat.ne_of_lt (jX (g:=gb186) (o:=.cells #[.slice none 0 0] 53 (0,0)) (kq BK186.out)):gb186≠gb203))
        have NB203_186:=am ((by rw [hg];exact Nat.ne_of_gt (jX (g:=gb186) (o:=.cells #[.slice none 0 0] 53 (0,0)) (kq BK186.out)):gb203≠gb186))
        have NB199_203:=am ((by rw [hg];exact Nat.ne_of_lt (jX (g:=gb199) (o:=.cells #[u200000] 53 (0,0)) (kq BK199.out)):gb199≠gb203))
        have NB203_199:=am ((by rw [hg];exact Nat.ne_of_gt (jX (g:=gb199) (o:=.cells #[u200000] 53 (0,0)) (kq BK199.out)):gb203≠gb199))
        replace HO_6:=am (Kd.jG (rq HO_6.out) hb)
        replace HO_200000:=am (Kd.jG (Kd.R_elderB (rq HO_200000.out) gb203 (Nat.le_of_eq hg.symm)) hb)
        replace BK185:=am (je (g:=gb185) (o:=.cells #[.slice (some ad202) l0_0.length c0_0] 53 (0,0)) (kq BK185.out) hb)
        replace BK186:=am (je (g:=gb186) (o:=.cells #[.slice none 0 0] 53 (0,0)) (kq BK186.out) hb)
        replace BK199:=am (je (g:=gb199) (o:=.cells #[u200000] 53 (0,0)) (kq BK199.out) hb)
        replace HB:=am (jb (Y104) hb)
        clear hb hbox hg
        refine hK.out _ _ ⟨(jma BK185.out 0).trans rfl,HS1_,((HB.out.cell (World.block_lt_of_cell? w _ hw202_0)).trans hw202_0),((HB.out.cell (World.block_lt_of_cell? w _ hw202_1)).trans hw202_1),((HB.out.cell (World.block_lt_of_cell? w _ hw202_2)).trans hw202_2),((HB.out.cell (World.block_lt_of_cell? w _ hw202_3)).trans hw202_3),((HB.out.cell (World.block_lt_of_cell? w _ hw202_4)).trans hw202_4)⟩ (fun hHeld=>?_)
        clear hK K
        refine jBc (a':=?_) ?_ ?_
        rotate_left
        ·show Act.put _ (some 9) _=_
         simp only [Act.put,List.setIfInBounds_toArray,List.set_cons_zero,List.set_cons_succ,jzb,jCb]
         rfl
        refine one_ (i:=9) (N:=none) #[true,true,true,true,true,true,true,true,true,true] rfl rfl (jRb HT_.out (by kernel_rfl)) (by decide) (fun K hK=>?_)
        have hs32:w31.cell? ⟨gb203,0,none⟩=some (.int .i64 0):=(jma BK203.out 0).trans rfl
        have hfs32:=ja BK203.out 0
        have hns32_0:=NB185_203.out
        have hns32_1:=NB186_203.out
        have hns32_2:=NB199_203.out
        have hms32_0:=NB203_185.out
        have hms32_1:=NB203_186.out
        have hms32_2:=NB203_199.out
        have hs33:w31.cell? ⟨gb203,1,none⟩=some (.int .i64 0):=(jma BK203.out 1).trans rfl
        have hfs33:=ja BK203.out 1
        have hns33_0:=NB185_203.out
        have hns33_1:=NB186_203.out
        have hns33_2:=NB199_203.out
        have hms33_0:=NB203_185.out
        have hms33_1:=NB203_186.out
        have hms33_2:=NB203_199.out
        have hs34:w31.cell? ⟨gb203,2,none⟩=some (.int .i64 0):=(jma BK203.out 2).trans rfl
        have hfs34:=ja BK203.out 2
        have hns34_0:=NB185_203.out
        have hns34_1:=NB186_203.out
        have hns34_2:=NB199_203.out
        have hms34_0:=NB203_185.out
        have hms34_1:=NB203_186.out
        have hms34_2:=NB203_199.out
        have hs35:w31.cell? ⟨gb203,3,none⟩=some (.int .i64 0):=(jma BK203.out 3).trans rfl
        have hfs35:=ja BK203.out 3
        have hns35_0:=NB185_203.out
        have hns35_1:=NB186_203.out
        have hns35_2:=NB199_203.out
        have hms35_0:=NB203_185.out
        have hms35_1:=NB203_186.out
        have hms35_2:=NB203_199.out
        have hs36:w31.cell? ⟨gb203,4,none⟩=some (.bool false):=(jma BK203.out 4).trans rfl
        have hfs36:=ja BK203.out 4
        have hns36_0:=NB185_203.out
        have hns36_1:=NB186_203.out
        have hns36_2:=NB199_203.out
        have hms36_0:=NB203_185.out
        have hms36_1:=NB203_186.out
        have hms36_2:=NB203_199.out
        refine skip_ (w1:=?_) (by rfl) rfl ?_ ?_
        rotate_left
        ·go_simp
         rfl
        refine hK.out _ _ ⟨((cell_far (p:=⟨gb203,_,none⟩) NB185_203.out _).trans (((cell_far (p:=⟨gb203,_,none⟩) NB185_203.out _).trans (((cell_far (p:=⟨gb203,_,none⟩) NB185_203.out _).trans (((cell_far (p:=⟨gb203,_,none⟩) NB185_203.out _).trans (((cell_far (p:=⟨gb203,_,none⟩) NB185_203.out _).trans (hHeld.1)))))))))),((cell_far (p:=⟨gb203,_,none⟩) (Y61) _).trans (((cell_far (p:=⟨gb203,_,none⟩) (Y61) _).trans (((cell_far (p:=⟨gb203,_,none⟩) (Y61) _).trans (((cell_far (p:=⟨gb203,_,none⟩) (Y61) _).trans (((cell_far (p:=⟨gb203,_,none⟩) (Y61) _).trans (hHeld.2.1)))))))))),((cell_far (p:=⟨gb203,_,none⟩) (Y62) _).trans (((cell_far (p:=⟨gb203,_,none⟩) (Y62) _).trans (((cell_far (p:=⟨gb203,_,none⟩) (Y62) _).trans (((cell_far (p:=⟨gb203,_,none⟩) (Y62) _).trans (((cell_far (p:=⟨gb203,_,none⟩) (Y62) _).trans (hHeld.2.2.1)))))))))),((cell_far (p:=⟨gb203,_,none⟩) (Y63) _).trans (((cell_far (p:=⟨gb203,_,none⟩) (Y63) _).trans (((cell_far (p:=⟨gb203,_,none⟩) (Y63) _).trans (((cell_far (p:=⟨gb203,_,none⟩) (Y63) _).trans (((cell_far (p:=⟨gb203,_,none⟩) (Y63) _).trans (hHeld.2.2.2.1)))))))))),((cell_far (p:=⟨gb203,_,none⟩) (Y64) _).trans (((cell_far (p:=⟨gb203,_,none⟩) (Y64) _).trans (((cell_far (p:=⟨gb203,_,none⟩) (Y64) _).trans (((cell_far (p:=⟨gb203,_,none⟩) (Y64) _).trans (((cell_far (p:=⟨gb203,_,none⟩) (Y64) _).trans (hHeld.2.2.2.2.1)))))))))),((cell_far (p:=⟨gb203,_,none⟩) (Y65) _).trans (((cell_far (p:=⟨gb203,_,none⟩) (Y65) _).trans (((cell_far (p:=⟨gb203,_,none⟩) (Y65) _).trans (((cell_far (p:=⟨gb203,_,none⟩) (Y65) _).trans (((cell_far (p:=⟨gb203,_,none⟩) (Y65) _).trans (hHeld.2.2.2.2.2.1)))))))))),((cell_far (p:=⟨gb203,_,none⟩) (Y66) _).trans (((cell_far (p:=⟨gb203,_,none⟩) (Y66) _).trans (((cell_far (p:=⟨gb203,_,none⟩) (Y66) _).trans (((cell_far (p:=⟨gb203,_,none⟩) (Y66) _).trans (((cell_far (p:=⟨gb203,_,none⟩) (Y66) _).trans (hHeld.2.2.2.2.2.2))))))))))⟩ (fun hHeld=>?_)
        clear hK K
        refine done_ (jKc HT_.out (by kernel_rfl)) ?_
        have hnb37:=NB203_185.out
        have hnc37:=NB185_203.out
        have hnb38:=NB203_186.out
        have hnc38:=NB186_203.out
        have hnb39:=NB203_199.out
        have hnc39:=NB199_203.out
        have hcz40_0:=bc0 BK203.out
        have hcz40_1:=bc1 BK203.out
        have hcz40_2:=bc2 BK203.out
        have hcz40_3:=bc3 BK203.out
        have hcz40_4:w31.cell? ⟨gb203,4,none⟩=some (.bool false):=(jma BK203.out 4).trans rfl
        have hfz40_0:=ja BK203.out 0
        have hfz40_1:=ja BK203.out 1
        have hfz40_2:=ja BK203.out 2
        have hfz40_3:=ja BK203.out 3
        have hfz40_4:=ja BK203.out 4
        generalize jA l0_0 (rd t193 x8_1)=xx9 at *
        try go_wp2_with (first |((with_reducible refine jm (f:=102) rfl ?_);refine gL (some 34) Try.func102 #[.slice (some ad201) t193.length co29, .int .i64 (xx9.f2)] ?_;(with_reducible refine (jKa.calls k1 _ _ t193 (xx9.f2) t204 _ ?side1 ?side2 A26.out).mono ?_);(case side1=>refine (Kd.jv (e:=3) (base:=w.heap.size) (ok:=fun k_=>True) (n:=t193.length) (c:=co29) ?_).2.2;exact (by (with_reducible repeat (first | apply Kd.jka | apply Kd.joa | apply Kd.jua));exact (Kd.jH (Kd.jEa (p:=⟨gb203,4,none⟩) (Kd.jEa (p:=⟨gb203,3,none⟩) (Kd.jEa (p:=⟨gb203,2,none⟩) (Kd.jEa (p:=⟨gb203,1,none⟩) (Kd.jEa (p:=⟨gb203,0,none⟩) (Kd.jha HO_6.out BK203.out (by decide)) (fun _ hk=>hk.2) (.int .i64 (xx9.f0))) (fun _ hk=>hk.2) (.int .i64 (xx9.f1))) (fun _ hk=>hk.2) (.int .i64 (xx9.f2))) (fun _ hk=>hk.2) (.int .i64 (xx9.f3))) (fun _ hk=>hk.2) (.bool (xx9.f4))) (fun _ h_=>h_.1))));(case side2=>exact (Kd.jv HO_6.out).2.1);rintro e w' ⟨rfl,⟨nd,rfl⟩⟩;refine ⟨_,rfl,?_⟩) |((with_reducible refine jm (f:=102) rfl ?_);refine gL (some 39) Try.func102 #[.slice (some ad201) t193.length co29, .int .i64 (xx9.f3)] ?_;(with_reducible refine (jKa.calls k1 _ _ t193 (xx9.f3) t205 _ ?side1 ?side2 A27.out).mono ?_);(case side1=>refine (Kd.jv (e:=3) (base:=w.heap.size) (ok:=fun k_=>True) (n:=t193.length) (c:=co29) ?_).2.2;exact (by (with_reducible repeat (first | apply Kd.jka | apply Kd.joa | apply Kd.jua));exact (Kd.jH (Kd.jEa (p:=⟨gb203,2,none⟩) (Kd.jEa (p:=⟨gb203,4,none⟩) (Kd.jEa (p:=⟨gb203,3,none⟩) (Kd.jEa (p:=⟨gb203,2,none⟩) (Kd.jEa (p:=⟨gb203,1,none⟩) (Kd.jEa (p:=⟨gb203,0,none⟩) (Kd.jha HO_6.out BK203.out (by decide)) (fun _ hk=>hk.2) (.int .i64 (xx9.f0))) (fun _ hk=>hk.2) (.int .i64 (xx9.f1))) (fun _ hk=>hk.2) (.int .i64 (xx9.f2))) (fun _ hk=>hk.2) (.int .i64 (xx9.f3))) (fun _ hk=>hk.2) (.bool (xx9.f4))) (fun _ hk=>hk.2) (.int .i64 t204)) (fun _ h_=>h_.1))));(case side2=>exact (Kd.jv HO_6.out).2.1);rintro e w' ⟨rfl,⟨nd,rfl⟩⟩;refine ⟨_,rfl,?_⟩;have hnb41:=NB199_185.out;have hnc41:=NB185_199.out;have hnb42:=NB199_186.out;have hnc42:=NB186_199.out;have hcz43_0:=bc0 BK199.out;have hfz43_0:=ja BK199.out 0) |((with_reducible refine jib (b:=.append) (xs:=#[.tmp 42, .tmp 44]) rfl ?_);at_builtin;refine Kd.jnc k90 (w0:=w) w.heap.size rfl (.tmp 42) (.tmp 44) 51 90 (.agg #[(.int .i64 0),(.int .i64 0),(.int .i64 0),(.int .i64 0),(.bool false)]) 40 rfl Try.underlying51 info90 rfl (by decide) (by omega) u200000 x200000_1 (⟨xx9.f0,xx9.f1,t204,t205,xx9.f4⟩:S90) [.int .i64 (xx9.f0), .int .i64 (xx9.f1), .int .i64 t204, .int .i64 t205, .bool (xx9.f4)] (fun k_=>k_≠gb203) (fun _=>False) rfl (Y3) ?aP (fun _ hk=>hk.elim) ?aF ?aO ?aB ?aS ?aL ?_;(case aP=>exact k90_mkM _ _ _ (⟨xx9.f0,xx9.f1,t204,t205,xx9.f4⟩:S90));(case aB=>exact (Y105));(case aF=>exact (fun k_ hk=>Kd.freshB (g:=gb203) (o:=.cells #[.int .i64 (xx9.f0), .int .i64 (xx9.f1), .int .i64 t204, .int .i64 t205, .bool (xx9.f4)] 90 (0,0)) (Y127) k_ hk));(case aO=>(refine Kd.jH (ok:=fun k=>True∧k≠gb203) ?_ (fun _ hk=>hk.2));(with_reducible refine Kd.jEa ?_ (fun _ hk=>hk.2) _);(with_reducible apply Kd.joa);(with_reducible refine Kd.jEa ?_ (fun _ hk=>hk.2) _);(with_reducible apply Kd.joa);(with_reducible refine Kd.jEa ?_ (fun _ hk=>hk.2) _);(with_reducible refine Kd.jEa ?_ (fun _ hk=>hk.2) _);(with_reducible refine Kd.jEa ?_ (fun _ hk=>hk.2) _);(with_reducible refine Kd.jEa ?_ (fun _ hk=>hk.2) _);(with_reducible refine Kd.jEa ?_ (fun _ hk=>hk.2) _);exact HO_200000.out);(case aS=>exact (jD (Y105)));(case aL=>have:=LMc28.out;omega);intro v207 w44 ho hb hg hat;rw [← Ny206.out] at ho;have n0_:=am (Kd.jYc (e':=90) (d:=Kd.int .i64) (e:=3) (base:=w.heap.size) (ok:=fun k=>True) (u:=.slice (some ad201) t193.length co29) (xs:=t193) (by (refine Kd.jH (ok:=fun k=>True∧k≠gb203) ?_ (fun _ h_=>h_.1));(with_reducible refine Kd.jEa ?_ (fun _ hk=>hk.2) _);(with_reducible apply Kd.joa);(with_reducible refine Kd.jEa ?_ (fun _ hk=>hk.2) _);(with_reducible apply Kd.joa);(with_reducible refine Kd.jEa ?_ (fun _ hk=>hk.2) _);(with_reducible refine Kd.jEa ?_ (fun _ hk=>hk.2) _);(with_reducible refine Kd.jEa ?_ (fun _ hk=>hk.2) _);(with_reducible refine Kd.jEa ?_ (fun _ hk=>hk.2) _);(with_reducible refine Kd.jEa ?_ (fun _ hk=>hk.2) _);exact Kd.jha HO_6.out BK203.out (by decide)) (Kd.jKb (e:=90) (d:=k90) (base:=w.heap.size) (ok:=fun k=>True) (xs:=x200000_1) (by (refine Kd.jH (ok:=fun k=>True∧k≠gb203) ?_ (fun _ h_=>h_.1));(with_reducible refine Kd.jEa ?_ (fun _ hk=>hk.2) _);(with_reducible apply Kd.joa);(with_reducible refine Kd.jEa ?_ (fun _ hk=>hk.2) _);(with_reducible apply Kd.joa);(with_reducible refine Kd.jEa ?_ (fun _ hk=>hk.2) _);(with_reducible refine Kd.jEa ?_ (fun _ hk=>hk.2) _);(with_reducible refine Kd.jEa ?_ (fun _ hk=>hk.2) _);(with_reducible refine Kd.jEa ?_ (fun _ hk=>hk.2) _);(with_reducible refine Kd.jEa ?_ (fun _ hk=>hk.2) _);exact HO_200000.out)) (by decide) hg);have n1_:=am (jU (g:=gb185) (o:=.cells #[.slice (some ad202) l0_0.length c0_0] 53 (0,0)) (by (with_reducible repeat (first | refine jf ?_ _ | refine ji ?_ | refine jd ?_ _));refine jqa ?_ NB185_203.out _;(with_reducible repeat (first | refine jf ?_ _ | refine ji ?_ | refine jd ?_ _));refine jqa ?_ NB185_203.out _;(with_reducible repeat (first | refine jf ?_ _ | refine ji ?_ | refine jd ?_ _));refine jqa ?_ NB185_203.out _;(with_reducible repeat (first | refine jf ?_ _ | refine ji ?_ | refine jd ?_ _));refine jqa ?_ NB185_203.out _;(with_reducible repeat (first | refine jf ?_ _ | refine ji ?_ | refine jd ?_ _));refine jqa ?_ NB185_203.out _;(with_reducible repeat (first | refine jf ?_ _ | refine ji ?_ | refine jd ?_ _));refine jqa ?_ NB185_203.out _;(with_reducible repeat (first | refine jf ?_ _ | refine ji ?_ | refine jd ?_ _));refine jqa ?_ NB185_203.out _;(with_reducible repeat (first | refine jf ?_ _ | refine ji ?_ | refine jd ?_ _));exact BK185.out) hg (Kd.R_ne HO_200000.out BK185.out (by decide)));have n2_:=am (jU (g:=gb186) (o:=.cells #[.slice none 0 0] 53 (0,0)) (by (with_reducible repeat (first | refine jf ?_ _ | refine ji ?_ | refine jd ?_ _));refine jqa ?_ NB186_203.out _;(with_reducible repeat (first | refine jf ?_ _ | refine ji ?_ | refine jd ?_ _));refine jqa ?_ NB186_203.out _;(with_reducible repeat (first | refine jf ?_ _ | refine ji ?_ | refine jd ?_ _));refine jqa ?_ NB186_203.out _;(with_reducible repeat (first | refine jf ?_ _ | refine ji ?_ | refine jd ?_ _));refine jqa ?_ NB186_203.out _;(with_reducible repeat (first | refine jf ?_ _ | refine ji ?_ | refine jd ?_ _));refine jqa ?_ NB186_203.out _;(with_reducible repeat (first | refine jf ?_ _ | refine ji ?_ | refine jd ?_ _));refine jqa ?_ NB186_203.out _;(with_reducible repeat (first | refine jf ?_ _ | refine ji ?_ | refine jd ?_ _));refine jqa ?_ NB186_203.out _;(with_reducible repeat (first | refine jf ?_ _ | refine ji ?_ | refine jd ?_ _));exact BK186.out) hg (Kd.R_ne HO_200000.out BK186.out (by decide)));have n3_:=am (jU (g:=gb199) (o:=.cells #[u200000] 53 (0,0)) (by (with_reducible repeat (first | refine jf ?_ _ | refine ji ?_ | refine jd ?_ _));refine jqa ?_ NB199_203.out _;(with_reducible repeat (first | refine jf ?_ _ | refine ji ?_ | refine jd ?_ _));refine jqa ?_ NB199_203.out _;(with_reducible repeat (first | refine jf ?_ _ | refine ji ?_ | refine jd ?_ _));refine jqa ?_ NB199_203.out _;(with_reducible repeat (first | refine jf ?_ _ | refine ji ?_ | refine jd ?_ _));refine jqa ?_ NB199_203.out _;(with_reducible repeat (first | refine jf ?_ _ | refine ji ?_ | refine jd ?_ _));refine jqa ?_ NB199_203.out _;(with_reducible repeat (first | refine jf ?_ _ | refine ji ?_ | refine jd ?_ _));refine jqa ?_ NB199_203.out _;(with_reducible repeat (first | refine jf ?_ _ | refine ji ?_ | refine jd ?_ _));refine jqa ?_ NB199_203.out _;(with_reducible repeat (first | refine jf ?_ _ | refine ji ?_ | refine jd ?_ _));exact BK199.out) hg (Kd.R_ne HO_200000.out BK199.out (by decide)));have n4_:=am (jU (g:=gb203) (o:=.cells #[.int .i64 (xx9.f0), .int .i64 (xx9.f1), .int .i64 t204, .int .i64 t205, .bool (xx9.f4)] 90 (0,0)) (Y127) hg (Kd.R_away HO_200000.out (fun _ hk=>hk.2)));have n5_:=am (hb);have n6_:=am (ho);clear HO_6 BK185 BK186 BK199 BK203 HB HO_200000;have HO_6:=n0_;have BK185:=n1_;have BK186:=n2_;have BK199:=n3_;have BK203:=n4_;have HB:=n5_;have HO208:=n6_;clear n0_ n1_ n2_ n3_ n4_ n5_ n6_ ho hb hg hat;obtain ⟨Ao45,co45,eo45⟩:=Kd.jM HO208.out;subst eo45;have hcz46_0:=bc0 BK199.out;have hfz46_0:=ja BK199.out 0))
        go_roundg k1
        case measure=>have:=HK1.out;omega
        case rel=>exact ⟨(wrap64 (x8_1+1)),(y206),(.slice Ao45 y206.length co45),(sq),H',⟨by have:=HK1.out;omega⟩,⟨by (with_reducible repeat (first | apply Kd.jka | apply Kd.joa | apply Kd.jua));exact Kd.jH (Kd.jEa (p:=⟨gb199,0,none⟩) (Kd.jha HO_6.out BK199.out (by decide)) (fun _ hk=>hk.2) (.slice Ao45 y206.length co45)) (fun _ hk=>trivial)⟩,⟨by (with_reducible repeat (first | apply Kd.jka | apply Kd.joa | apply Kd.jua));exact Kd.jH (Kd.jEa (p:=⟨gb199,0,none⟩) (Kd.jha HO208.out BK199.out (by decide)) (fun _ hk=>hk.2) (.slice Ao45 y206.length co45)) (fun _ hk=>trivial)⟩,⟨by (with_reducible repeat (first | refine jf ?_ _ | refine ji ?_ | refine jd ?_ _));refine jqa ?_ NB185_199.out _;(with_reducible repeat (first | refine jf ?_ _ | refine ji ?_ | refine jd ?_ _));exact BK185.out⟩,⟨by (with_reducible repeat (first | refine jf ?_ _ | refine ji ?_ | refine jd ?_ _));refine jqa ?_ NB186_199.out _;(with_reducible repeat (first | refine jf ?_ _ | refine ji ?_ | refine jd ?_ _));exact BK186.out⟩,⟨by (with_reducible repeat (first | refine jf ?_ _ | refine ji ?_ | refine jd ?_ _));refine jna (cs:=#[u200000]) ?_ 0 _ rfl;(with_reducible repeat (first | refine jf ?_ _ | refine ji ?_ | refine jd ?_ _));exact BK199.out⟩,⟨Y105⟩⟩
       ·rw [if_neg c28] at H
        exact absurd H (by simp)
      ·rw [if_neg c25] at H
       exact absurd H (by simp)
     ·rw [if_neg c24] at H
      exact absurd H (by simp)
    ·rw [if_neg c23] at H
     exact absurd H (by simp)
   ·rw [if_neg c22] at H
    have c22b0:decide (x8_1<(t193.length:Int))=false:=dzF c22
    clear c22
    replace H:=bzS H
    obtain ⟨t200,A470,H⟩:=H
    replace H:(some (x200000_1,t200))=some (r1,r2):=H
    have A47:=am A470
    clear A470
    simp only [Option.some.injEq,Prod.mk.injEq] at H
    obtain ⟨rfl,rfl⟩:=H
    obtain ⟨Ao48,co48,eo48⟩:=Kd.jM HO_6.out
    subst eo48
    try go_wp2
    replace HO_6:=am (Kd.jua HO_6.out)
    replace HO_200000:=am (Kd.jua HO_200000.out)
    replace BK185:=am (ji BK185.out)
    replace BK186:=am (ji BK186.out)
    replace BK199:=am (ji BK199.out)
    replace HB:=am (jq HB.out)
    refine jFc (n:=6) (S:=fun w'=>w'.cell? ⟨gb199,0,none⟩=some (u200000)) (ds:=[]) #[false,false,false,false,false,false] (by kernel_rfl) rfl rfl ((jma BK199.out 0).trans rfl) (fun hHeld=>?_)
    generalize wr.drew=w49 at HO_6 HO_200000 BK185 BK186 BK199 HB hHeld ⊢
    refine pure_ (i:=1) (N:=some 48) (v:=?_) (a':=?_) #[false,true,false,false,false,false] rfl rfl (by kernel_rfl) (fun _ _ _ h=>h) (Or.inl ⟨by rfl,?_⟩) ?_ ?_
    rotate_left
    ·exact sb
    rotate_left
    ·exact sa
    refine pure_ (i:=2) (N:=some 49) (v:=?_) (a':=?_) #[false,true,true,false,false,false] rfl rfl (by kernel_rfl) (fun _ _ _ h=>h) (Or.inl ⟨by rfl,?_⟩) ?_ ?_
    rotate_left
    ·exact sb
    rotate_left
    ·exact sa
    refine jbc (i:=0) (N:=some 47) (v:=?_) (a':=?_) #[true,true,true,false,false,false] rfl rfl (by kernel_rfl) (fun _ _ _ h=>h) (Or.inl ⟨by rfl,?_⟩) hHeld ?_ ?_
    rotate_left
    ·intro w' s0
     go_simp
     with_reducible rfl
    rotate_left
    ·exact sa
    refine one_ (i:=3) (N:=some 50) #[true,true,true,true,false,false] rfl rfl (by kernel_rfl) (by decide) (fun K hK=>?_)
    refine goes_ Try.func102 (by kernel_rfl) rfl #[.slice Ao48 t193.length co48, .int .i64 a1] (by rfl) rfl rfl (aq) ?_
    with_reducible refine (jKa.calls k1 _ _ t193 a1 t200 _ ?side1 ?side2 A47.out).mono ?_
    (case side1=>exact cq (Kd.jv HO_6.out).2.2)
    (case side2=>exact (Kd.jv HO_6.out).2.1)
    rintro e w' ⟨rfl,⟨nd,rfl⟩⟩
    refine ⟨_,rfl,?_⟩
    obtain ⟨Ao50,co50,eo50⟩:=Kd.jM HO_200000.out
    (first | subst eo50 |(injection eo50 with f1_ f2_ f3_;have f4_:=f1_.symm;have f5_:=f3_.symm;clear f1_ f2_ f3_;subst f4_;subst f5_))
    refine hK.out _ _ ((jma BK199.out 0).trans rfl) (fun hHeld=>?_)
    clear hK K
    refine jBc (a':=?_) ?_ ?_
    rotate_left
    ·show Act.put _ (some 50) _=_
     simp only [Act.put,List.setIfInBounds_toArray,List.set_cons_zero,List.set_cons_succ,jzb,jCb]
     rfl
    refine one_ (i:=4) (N:=none) #[true,true,true,true,true,false] rfl rfl (by kernel_rfl) (by decide) (fun K hK=>?_)
    have hs51:w49.cell? ⟨gb186,0,none⟩=some (.slice none 0 0):=(jma BK186.out 0).trans rfl
    have hfs51:=ja BK186.out 0
    have hns51_0:=NB185_186.out
    have hns51_2:=NB199_186.out
    have hms51_0:=NB186_185.out
    have hms51_2:=NB186_199.out
    refine skip_ (w1:=?_) (by rfl) rfl ?_ ?_
    rotate_left
    ·go_simp
     rfl
    refine hK.out _ _ (((cell_far (p:=⟨gb186,_,none⟩) NB199_186.out _).trans (hHeld))) (fun hHeld=>?_)
    clear hK K
    refine pure_ (i:=5) (N:=some 5) (v:=?_) (a':=?_) #[true,true,true,true,true,true] rfl rfl (by kernel_rfl) (fun _ _ _ h=>h) (Or.inl ⟨by rfl,?_⟩) ?_ ?_
    rotate_left
    ·exact sb
    rotate_left
    ·exact sa
    refine done_ (by kernel_rfl) ?_
    try go_wp2
    refine bodyPost_ret (jfc rfl _ _ gb186 53 #[.slice Ao50 x200000_1.length co50] (0,0) _ rfl (by (with_reducible repeat (first | refine jf ?_ _ | refine ji ?_ | refine jd ?_ _));refine jna (cs:=#[.slice none 0 0]) ?_ 0 _ rfl;(with_reducible repeat (first | refine jf ?_ _ | refine ji ?_ | refine jd ?_ _));exact BK186.out) Try.underlying53 rfl (by kernel_rfl)) rfl ?_
    exact ⟨_,Y0,by (with_reducible repeat (first | apply Kd.jka | apply Kd.joa | apply Kd.jua));exact Kd.jH (Kd.jEa (p:=⟨gb186,0,none⟩) (Kd.jha HO_200000.out BK186.out (by decide)) (fun _ hk=>hk.2) (.slice Ao50 x200000_1.length co50)) (fun _ hk=>trivial),Y104⟩
end Go.Proofs.Ytlhfcmbkjddgiaa.P
end
