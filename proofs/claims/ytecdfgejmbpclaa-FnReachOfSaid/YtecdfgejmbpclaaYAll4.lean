/- One part of the proofs on this program: functions of the program as plain functions, that the code comes to them, and facts on them. -/
import Derived.Test.YtecdfgejmbpclaaYAll1
import Derived.Test.YtecdfgejmbpclaaYAll3
import Derived.Test.YtecdfgejmbpclaaYWAuto
section
namespace Go.Proofs.Ytecdfgejmbpclaa.P
open Go.RowKit Go.Proofs.YtecdfgejmbpclaaW.PrintWords Go.Proofs.YtecdfgejmbpclaaW.PrintLast Go.Proofs.YtecdfgejmbpclaaW.PrintMore
attribute [local go_sem] jxa jva jEa jDa jka jja jwa jua jD
set_option linter.unusedVariables false
set_option linter.unusedSimpArgs false
mutual
def jia.j0 : Nat → Int → Int → Bool → List (S54) → Option ((List (S54)))
 | 0,_,_,_,_=>none
 | k+1,x1,x2,x17,x325000=>if x17=true then (some x325000) else (jia.l0 k x1 x2 x2 x325000)
def jia.l0 : Nat → Int → Int → Int → List (S54) → Option ((List (S54)))
 | 0,_,_,_,_=>none
 | k+1,x1,x2,x8,x325000=>if 0≤x8 then (if x8<(x325000.length:Int) then (if ((ja x325000 x8).f3)≥0 then (if ((ja x325000 x8).f3)=x1 then ((some (x325000.set (x8:Int).toNat (⟨(ja x325000 x8).f0,(ja x325000 x8).f1,(ja x325000 x8).f2,(-1),(ja x325000 x8).f4⟩:S54):List (S54))).bind fun y328=>(if 0≤x1 then (if x1<(x325000.length:Int) then (some (y328.set (x1:Int).toNat (⟨(ja y328 x1).f0,(ja y328 x1).f1,(ja y328 x1).f2,x2,(ja y328 x1).f4⟩:S54))) else (none)) else (none))) else (jia.l0 k x1 x2 ((ja x325000 x8).f3) x325000)) else (if 0≤x1 then (if x1<(x325000.length:Int) then (some (x325000.set (x1:Int).toNat (⟨(ja x325000 x1).f0,(ja x325000 x1).f1,(ja x325000 x1).f2,x2,(ja x325000 x1).f4⟩:S54))) else (none)) else (none))) else (none)) else (none)
end
def jia.f (k : Nat) (l0_0 : List (S54)) (a1 : Int) (a2 : Int) : Option ((List (S54))) := (jab.f l0_0).bind fun t321 => (if a1 = a2 then (jia.j0 k a1 a2 true t321) else (jia.j0 k a1 a2 (decide (a2 < 0)) t321))
set_option maxHeartbeats 8000000 in
set_option maxRecDepth 100000 in
theorem jia.calls (k : Nat) (A0_0 : Option Addr) (c0_0 : Nat) (l0_0 : List (S54)) (a1 : Int) (a2 : Int) (r : List (S54)) (w : World) (hr0_0 : Kd.C k54 w A0_0 l0_0.length l0_0) (hc0_0 : l0_0.length ≤ c0_0) (h : jia.f k l0_0 a1 a2 = some r) :
  Calls Try.prog 92 #[.agg #[.slice A0_0 l0_0.length c0_0], .int .i64 a1, .int .i64 a2] w fun e w'=>∃ v0_:Value,e=.returned (.agg #[v0_])∧Kd.R k54 54 w' w.heap.size (fun _=>True) v0_ r∧Below w.heap.size w w':=by
 have hu32:=Try.underlying32
 have HR0_0:=am hr0_0
 have HC0_0:=am hc0_0
 clear hr0_0 hc0_0
 have HB:=am (Below.refl w.heap.size w)
 have H:((jab.f l0_0).bind fun t321=>(if a1=a2 then (jia.j0 k a1 a2 true t321) else (jia.j0 k a1 a2 (decide (a2<0)) t321)))=some r:=h
 clear h
 replace H:=bzS H
 obtain ⟨t321,A40,H⟩:=H
 replace H:(if a1=a2 then (jia.j0 k a1 a2 true t321) else (jia.j0 k a1 a2 (decide (a2<0)) t321))=some r:=H
 have A4:=am A40
 clear A40
 have HC5:=am H
 clear H
 go_enter Try.func92,Try.ntmps92
 go_upto_region 2 with (first |((with_reducible refine jI (N:=3) rfl ?_);refine bE (N:=3) (cs:=#[.slice A0_0 l0_0.length c0_0]) (t:=32) ?_;intro gb319 hg w6 hbox hb;have BK319:=am (hbox);have GW319:=am ((Y2:w.heap.size≤gb319));have GE319:=am ((Y2:w.heap.size≤gb319));replace HB:=am (jk (bq) hb);clear hb hbox hg) |((with_reducible refine jI (N:=6) rfl ?_);refine bE (N:=6) (cs:=#[.slice none 0 0]) (t:=32) ?_;intro gb320 hg w7 hbox hb;have BK320:=am (hbox);have GW320:=am ((Y140:w.heap.size≤gb320));have GE320:=am ((Y140:w.heap.size≤gb320));have NB319_320:=am ((by rw [hg];exact Nat.ne_of_lt (jca (g:=gb319) (o:=.cells #[.slice A0_0 l0_0.length c0_0] 32 (0,0)) (kq BK319.out)):gb319≠gb320));have NB320_319:=am ((by rw [hg];exact Nat.ne_of_gt (jca (g:=gb319) (o:=.cells #[.slice A0_0 l0_0.length c0_0] 32 (0,0)) (kq BK319.out)):gb320≠gb319));replace BK319:=am (jh (g:=gb319) (o:=.cells #[.slice A0_0 l0_0.length c0_0] 32 (0,0)) (kq BK319.out) hb);replace HB:=am (jk (by repeat (first |(with_reducible first | exact HB.out | apply jA | apply jq | apply jv | refine jm ?_ GE319.out) | exact HB.out)) hb);clear hb hbox hg;have hnb8:=NB319_320.out;have hnc8:=NB320_319.out;have hcz9_0:=bc0 BK319.out;have hfz9_0:=jc BK319.out 0) |((with_reducible refine jB (f:=67) rfl ?_);refine gL (some 10) Try.func67 #[.agg #[.slice A0_0 l0_0.length c0_0]] ?_;(with_reducible refine (jab.calls _ _ l0_0 t321 _ ?side1 ?side2 A4.out).mono ?_);(case side1=>exact cq (Kd.jha HR0_0.out HB.out));(case side2=>exact HC0_0.out);rintro e w10 ⟨v322,rfl,ho0,hb⟩;refine ⟨_,rfl,?_⟩;have HO323:=am (Kd.jea ho0 (jU (Y121)));replace BK319:=am (jh (g:=gb319) (o:=.cells #[.slice A0_0 l0_0.length c0_0] 32 (0,0)) (kq BK319.out) hb);replace BK320:=am (jh (g:=gb320) (o:=.cells #[.slice none 0 0] 32 (0,0)) (kq BK320.out) hb);replace HB:=am (jk (Y121) hb);(try clear hb);(try clear hb2);(try clear hk);(try clear hi);(try clear ho0)) |((with_reducible refine jI (N:=7) rfl ?_);refine bE (N:=7) (cs:=#[.slice none 0 0]) (t:=32) ?_;intro gb324 hg w11 hbox hb;have BK324:=am (hbox);have GW324:=am ((Y141:w.heap.size≤gb324));have GE324:=am ((Y141:w.heap.size≤gb324));have NB319_324:=am ((by rw [hg];exact Nat.ne_of_lt (jca (g:=gb319) (o:=.cells #[.slice A0_0 l0_0.length c0_0] 32 (0,0)) (kq BK319.out)):gb319≠gb324));have NB324_319:=am ((by rw [hg];exact Nat.ne_of_gt (jca (g:=gb319) (o:=.cells #[.slice A0_0 l0_0.length c0_0] 32 (0,0)) (kq BK319.out)):gb324≠gb319));have NB320_324:=am ((by rw [hg];exact Nat.ne_of_lt (jca (g:=gb320) (o:=.cells #[.slice none 0 0] 32 (0,0)) (kq BK320.out)):gb320≠gb324));have NB324_320:=am ((by rw [hg];exact Nat.ne_of_gt (jca (g:=gb320) (o:=.cells #[.slice none 0 0] 32 (0,0)) (kq BK320.out)):gb324≠gb320));replace HO323:=am (Kd.jaa (rq HO323.out) hb);replace BK319:=am (jh (g:=gb319) (o:=.cells #[.slice A0_0 l0_0.length c0_0] 32 (0,0)) (kq BK319.out) hb);replace BK320:=am (jh (g:=gb320) (o:=.cells #[.slice none 0 0] 32 (0,0)) (kq BK320.out) hb);replace HB:=am (jk (Y121) hb);clear hb hbox hg;obtain ⟨Ao12,co12,eo12⟩:=Kd.jW HO323.out;subst eo12;have hnb13:=NB324_319.out;have hnc13:=NB319_324.out;have hnb14:=NB324_320.out;have hnc14:=NB320_324.out;have hcz15_0:=bc0 BK324.out;have hfz15_0:=jc BK324.out 0))
 (try simp only [Act.put,List.setIfInBounds_toArray,List.set_cons_zero,List.set_cons_succ])
 go_cut [17] (fun v17 wc=>∃ (kq:Nat) (x17_4:Bool),v17=.bool x17_4∧jC (jia.j0 kq a1 a2 x17_4 t321=some r)∧jC (kq≤k)∧jC (Kd.R k54 54 wc w.heap.size (fun _=>True) (.slice Ao12 t321.length co12) t321)∧jC (wc.heap[gb319]?=some (.cells #[(.slice A0_0 l0_0.length c0_0)] 32 (0,0)))∧jC (wc.heap[gb320]?=some (.cells #[(.slice none 0 0)] 32 (0,0)))∧jC (wc.heap[gb324]?=some (.cells #[(.slice Ao12 t321.length co12)] 32 (0,0)))∧jC (Below w.heap.size w wc))
 case first =>
  have H:=HC5.out
  clear HC5
  by_cases c16:a1=a2
  ·rw [if_pos c16] at H
   have c16b0:(a1 == a2)=true:=beq_iff_eq.mpr c16
   have c16b1:(a1 != a2)=false:=bne_eq_false_iff_eq.mpr c16
   clear c16
   (first | rw [c16b0] |(simp only [jqb,jub];rw [c16b0]) | skip)
   have H':=am H
   clear H
   go_wp2
   go_meet
   case rel=>exact ⟨_,(true),(sq),H',⟨Y51⟩,⟨by (with_reducible repeat (first | apply Kd.jO | apply Kd.jQ | apply Kd.jM));exact Kd.jE (Kd.jX (p:=⟨gb324,0,none⟩) (Kd.jN HO323.out BK324.out (by decide)) (fun _ hk=>hk.2) (.slice Ao12 t321.length co12)) (fun _ hk=>trivial)⟩,⟨by (with_reducible repeat (first | refine je ?_ _ | refine jg ?_ | refine jf ?_ _));refine jJ ?_ NB319_324.out _;(with_reducible repeat (first | refine je ?_ _ | refine jg ?_ | refine jf ?_ _));exact BK319.out⟩,⟨by (with_reducible repeat (first | refine je ?_ _ | refine jg ?_ | refine jf ?_ _));refine jJ ?_ NB320_324.out _;(with_reducible repeat (first | refine je ?_ _ | refine jg ?_ | refine jf ?_ _));exact BK320.out⟩,⟨by (with_reducible repeat (first | refine je ?_ _ | refine jg ?_ | refine jf ?_ _));refine jla (cs:=#[.slice none 0 0]) ?_ 0 _ rfl;(with_reducible repeat (first | refine je ?_ _ | refine jg ?_ | refine jf ?_ _));exact BK324.out⟩,⟨Y60⟩⟩
  ·rw [if_neg c16] at H
   have c16b0:(a1 == a2)=false:=beq_eq_false_iff_ne.mpr c16
   have c16b1:(a1 != a2)=true:=bne_iff_ne.mpr c16
   (first | rw [c16b0] |(simp only [jqb,jub];rw [c16b0]) | skip)
   have H':=am H
   clear H
   go_wp2
   go_meet
   case rel=>exact ⟨_,(decide (a2<0)),(sq),H',⟨Y51⟩,⟨by (with_reducible repeat (first | apply Kd.jO | apply Kd.jQ | apply Kd.jM));exact Kd.jE (Kd.jX (p:=⟨gb324,0,none⟩) (Kd.jN HO323.out BK324.out (by decide)) (fun _ hk=>hk.2) (.slice Ao12 t321.length co12)) (fun _ hk=>trivial)⟩,⟨by (with_reducible repeat (first | refine je ?_ _ | refine jg ?_ | refine jf ?_ _));refine jJ ?_ NB319_324.out _;(with_reducible repeat (first | refine je ?_ _ | refine jg ?_ | refine jf ?_ _));exact BK319.out⟩,⟨by (with_reducible repeat (first | refine je ?_ _ | refine jg ?_ | refine jf ?_ _));refine jJ ?_ NB320_324.out _;(with_reducible repeat (first | refine je ?_ _ | refine jg ?_ | refine jf ?_ _));exact BK320.out⟩,⟨by (with_reducible repeat (first | refine je ?_ _ | refine jg ?_ | refine jf ?_ _));refine jla (cs:=#[.slice none 0 0]) ?_ 0 _ rfl;(with_reducible repeat (first | refine je ?_ _ | refine jg ?_ | refine jf ?_ _));exact BK324.out⟩,⟨Y60⟩⟩
 case rest =>
  clear HC5
  try clear c1
  try clear p2
  try clear c6
  try clear c8
  try clear c9
  try clear c13
  try clear c14
  try clear c16
  try clear c16b0
  try clear c16b1
  try clear hcz15_0
  try clear hcz9_0
  try clear hfz15_0
  try clear hfz9_0
  obtain ⟨kq,x17_4,rfl,HA,HJ4,HO_325000,BK319,BK320,BK324,HB⟩:=hcut
  cases kq with
  | zero=>exact absurd HA.out (by simp [jia.j0])
  | succ kj4 =>
   have H:=HA.out
   clear HA
   simp only [jia.j0] at H
   by_cases c17:x17_4=true
   ·subst c17
    have H1:(some t321)=some r:=by rw [if_pos rfl] at H;exact H
    clear H
    have H:=H1
    clear H1
    obtain rfl:=Option.some.inj H
    have hnb18:=NB324_319.out
    have hnc18:=NB319_324.out
    have hnb19:=NB324_320.out
    have hnc19:=NB320_324.out
    have hcz20_0:=bc0 BK324.out
    have hfz20_0:=jc BK324.out 0
    have hnb21:=NB320_319.out
    have hnc21:=NB319_320.out
    have hcz22_0:=bc0 BK320.out
    have hfz22_0:=jc BK320.out 0
    go_wp2
    refine bodyPost_ret (results_cell_row rfl _ _ gb320 32 #[.slice Ao12 t321.length co12] (0,0) _ rfl (Y122) Try.underlying32 rfl (by kernel_rfl)) rfl ?_
    exact ⟨_,Y1,by (with_reducible repeat (first | apply Kd.jO | apply Kd.jQ | apply Kd.jM));exact Kd.jE (Kd.jX (p:=⟨gb320,0,none⟩) (Kd.jN HO_325000.out BK320.out (by decide)) (fun _ hk=>hk.2) (.slice Ao12 t321.length co12)) (fun _ hk=>trivial),Y60⟩
   ·replace c17:=Bool.eq_false_iff.mpr c17
    subst c17
    have H1:(jia.l0 kj4 a1 a2 a2 t321)=some r:=by rw [if_neg (show ¬ (false=true) by decide)] at H;exact H
    clear H
    have H:=H1
    clear H1
    have H':=am H
    clear H
    go_wp2
    go_loopg [8] kj4 (fun kq v8 w'=>∃ (x8_2:Int) (x325000_2:List (S54)) (u325000:Value),v8=.int .i64 x8_2∧jC (jia.l0 kq a1 a2 x8_2 x325000_2=some r)∧jC (kq≤kj4)∧jC (Kd.R k54 54 w' w.heap.size (fun _=>True) u325000 x325000_2)∧jC (w'.heap[gb319]?=some (.cells #[(.slice A0_0 l0_0.length c0_0)] 32 (0,0)))∧jC (w'.heap[gb320]?=some (.cells #[(.slice none 0 0)] 32 (0,0)))∧jC (w'.heap[gb324]?=some (.cells #[u325000] 32 (0,0)))∧jC (Below w.heap.size w w'))
    case atStart=>exact ⟨(a2),(t321),(.slice Ao12 t321.length co12),(sq),H',⟨Nat.le_refl _⟩,⟨rq HO_325000.out⟩,⟨kq BK319.out⟩,⟨kq BK320.out⟩,⟨kq BK324.out⟩,⟨Y60⟩⟩
    case round =>
     clear H'
     try clear c1
     try clear c2
     try clear p2
     try clear c6
     try clear c8
     try clear c9
     try clear c13
     try clear c14
     try clear c16
     try clear c16b0
     try clear c16b1
     try clear c17
     try clear c18
     try clear c19
     try clear c21
     try clear hcz15_0
     try clear hcz20_0
     try clear hcz22_0
     try clear hcz9_0
     try clear hfz15_0
     try clear hfz20_0
     try clear hfz22_0
     try clear hfz9_0
     try clear p2
     obtain ⟨x8_2,x325000_2,u325000,rfl,HA,HK2,HO_325000,BK319,BK320,BK324,HB⟩:=hrel
     cases gk with
     | zero=>exact absurd HA.out (by simp [jia.l0])
     | succ k2 =>
      have H:=HA.out
      clear HA
      simp only [jia.l0] at H
      by_cases c23:0≤x8_2
      ·rw [if_pos c23] at H
       have c23b0:decide (0≤x8_2)=true:=dzT c23
       clear c23
       by_cases c24:x8_2<(x325000_2.length:Int)
       ·rw [if_pos c24] at H
        have c24b0:decide (x8_2<(x325000_2.length:Int))=true:=dzT c24
        clear c24
        by_cases c25:((ja x325000_2 x8_2).f3)≥0
        ·rw [if_pos c25] at H
         have c25b0:decide (0≤((ja x325000_2 x8_2).f3))=true:=dzT c25
         clear c25
         by_cases c26:((ja x325000_2 x8_2).f3)=a1
         ·rw [if_pos c26] at H
          have c26b0:(((ja x325000_2 x8_2).f3) == a1)=true:=beq_iff_eq.mpr c26
          have c26b1:(((ja x325000_2 x8_2).f3) != a1)=false:=bne_eq_false_iff_eq.mpr c26
          clear c26
          obtain ⟨y328,hy328⟩:∃ y_:List (S54),y_=(x325000_2.set (x8_2:Int).toNat (⟨(ja x325000_2 x8_2).f0,(ja x325000_2 x8_2).f1,(ja x325000_2 x8_2).f2,(-1),(ja x325000_2 x8_2).f4⟩:S54)):=⟨_,rfl⟩
          replace H:(if 0≤a1 then (if a1<(x325000_2.length:Int) then (some (y328.set (a1:Int).toNat (⟨(ja y328 a1).f0,(ja y328 a1).f1,(ja y328 a1).f2,a2,(ja y328 a1).f4⟩:S54))) else (none)) else (none))=some r:=by first |(rw [hy328];with_reducible exact H) |(have H2_:=(Option.bind_some _ _).symm.trans H;rw [hy328];with_reducible exact H2_) |(have H2_:=(Option.bind_some _ _).symm.trans H;with_reducible exact H2_) | with_reducible exact H |(rw [hy328];exact H) | exact H
          have Ny328:=am hy328
          clear hy328
          by_cases c28:0≤a1
          ·rw [if_pos c28] at H
           have c28b0:decide (0≤a1)=true:=dzT c28
           clear c28
           by_cases c29:a1<(x325000_2.length:Int)
           ·rw [if_pos c29] at H
            have c29b0:decide (a1<(x325000_2.length:Int))=true:=dzT c29
            clear c29
            obtain ⟨y329,hy329⟩:∃ y_:List (S54),y_=(y328.set (a1:Int).toNat (⟨(ja y328 a1).f0,(ja y328 a1).f1,(ja y328 a1).f2,a2,(ja y328 a1).f4⟩:S54)):=⟨_,rfl⟩
            replace H:(some y329)=some r:=by first |(rw [hy329];with_reducible exact H) |(have H2_:=(Option.bind_some _ _).symm.trans H;rw [hy329];with_reducible exact H2_) |(have H2_:=(Option.bind_some _ _).symm.trans H;with_reducible exact H2_) | with_reducible exact H |(rw [hy329];exact H) | exact H
            have Ny329:=am hy329
            clear hy329
            obtain rfl:=Option.some.inj H
            have hnb31:=NB324_319.out
            have hnc31:=NB319_324.out
            have hnb32:=NB324_320.out
            have hnc32:=NB320_324.out
            have hcz33_0:=bc0 BK324.out
            have hfz33_0:=jc BK324.out 0
            obtain ⟨Ao34,co34,eo34⟩:=Kd.jW HO_325000.out
            subst eo34
            have p325:0≤(x8_2:Int):=ozD (uq)
            have q325:x8_2<(x325000_2.length:Int):=ozD (uq)
            obtain ⟨ad325,e325,hx325_0,hx325_1,hx325_2,hx325_3,hx325_4⟩:=jvb (Kd.jw HO_325000.out).2.2 x8_2 p325 q325
            cases e325
            replace p325:=ezT p325
            replace q325:=ezT q325
            have p327:0≤(x8_2:Int):=ozD (uq)
            have q327:x8_2<(x325000_2.length:Int):=ozD (uq)
            obtain ⟨ad327,e327,hx327_0,hx327_1,hx327_2,hx327_3,hx327_4⟩:=jvb (Kd.jw HO_325000.out).2.2 x8_2 p327 q327
            obtain rfl:ad325=ad327:=(by injection e327)
            replace p327:=ezT p327
            replace q327:=ezT q327
            have p27:0≤(x8_2:Int):=ozD (uq)
            have q27:(x8_2:Int)<((x325000_2.length:Int):Int):=ozD (uq)
            obtain ⟨go27,co27,eo27,gb27,gl27,cl27,HG27⟩:=Kd.R_form HO_325000.out (by omega)
            (first | cases eo27 |(injection eo27 with ea_ en_ ec_;(first | subst ea_ |(injection ea_ with ea_;subst ea_));subst ec_;clear en_))
            have GB27:=am gb27
            have GG27:=am HG27
            clear gb27 gl27 HG27
            (first | simp only [add_plain] at hx325_0 | skip)
            (first | simp only [add_plain] at hx325_1 | skip)
            (first | simp only [add_plain] at hx325_2 | skip)
            (first | simp only [add_plain] at hx325_3 | skip)
            (first | simp only [add_plain] at hx325_4 | skip)
            (first | simp only [add_plain] at hx327_0 | skip)
            (first | simp only [add_plain] at hx327_1 | skip)
            (first | simp only [add_plain] at hx327_2 | skip)
            (first | simp only [add_plain] at hx327_3 | skip)
            (first | simp only [add_plain] at hx327_4 | skip)
            obtain ⟨ce27,hcl27,hM27,hcc27,hfr27⟩:=Kd.jzb HO_325000.out z54 (x8_2:Int) p27 q27
            obtain rfl:=jUa hM27
            have hx27_0:wr.cell? ⟨go27,(x8_2:Int).toNat * 5,none⟩=some (.int .i64 ((ja x325000_2 x8_2).f0)):=hcc27 0 _ rfl
            have hx27_1:wr.cell? ⟨go27,(x8_2:Int).toNat * 5+1,none⟩=some (.int .i64 ((ja x325000_2 x8_2).f1)):=hcc27 1 _ rfl
            have hx27_2:wr.cell? ⟨go27,(x8_2:Int).toNat * 5+2,none⟩=some (.int .i64 ((ja x325000_2 x8_2).f2)):=hcc27 2 _ rfl
            have hx27_3:wr.cell? ⟨go27,(x8_2:Int).toNat * 5+3,none⟩=some (.int .i64 ((ja x325000_2 x8_2).f3)):=hcc27 3 _ rfl
            have hx27_4:wr.cell? ⟨go27,(x8_2:Int).toNat * 5+4,none⟩=some (.bool ((ja x325000_2 x8_2).f4)):=hcc27 4 _ rfl
            have hf27_0:wr.frozen? ⟨go27,(x8_2:Int).toNat * 5,none⟩=false:=hfr27 0
            have hf27_1:wr.frozen? ⟨go27,(x8_2:Int).toNat * 5+1,none⟩=false:=hfr27 1
            have hf27_2:wr.frozen? ⟨go27,(x8_2:Int).toNat * 5+2,none⟩=false:=hfr27 2
            have hf27_3:wr.frozen? ⟨go27,(x8_2:Int).toNat * 5+3,none⟩=false:=hfr27 3
            have hf27_4:wr.frozen? ⟨go27,(x8_2:Int).toNat * 5+4,none⟩=false:=hfr27 4
            clear hcl27 hcc27 hfr27 hM27
            replace p27:=ezT p27
            replace q27:=ezT q27
            have HX35:=am (show Kd.R k54 54 wr w.heap.size (fun _=>True) (.slice (some ⟨go27,0,none⟩) x325000_2.length co34) x325000_2 from (rq HO_325000.out))
            obtain ⟨ce35,hcl35,hM35,hcc35,hfr35⟩:=Kd.jzb HX35.out z54 (x8_2:Int) (ozD (uq)) (by have h_:(x8_2:Int)<((x325000_2.length:Int):Int):=ozD (uq);first | exact h_ |(have e_:=(Kd.jw HO_325000.out).1;omega) | simpa using h_)
            obtain rfl:=jUa hM35
            have HP35:=Kd.R_seg HX35.out (x8_2:Int) (ozD (uq)) (by have h_:(x8_2:Int)<((x325000_2.length:Int):Int):=ozD (uq);first | exact h_ |(have e_:=(Kd.jw HO_325000.out).1;omega) | simpa using h_) (seg:=[.int .i64 (-1)]) (j:=3) hcl35 hcc35 (show 4≤5 from by decide) (x':=(⟨(ja x325000_2 x8_2).f0,(ja x325000_2 x8_2).f1,(ja x325000_2 x8_2).f2,(-1),(ja x325000_2 x8_2).f4⟩:S54)) (jZb _ _ _ (⟨(ja x325000_2 x8_2).f0,(ja x325000_2 x8_2).f1,(ja x325000_2 x8_2).f2,(-1),(ja x325000_2 x8_2).f4⟩:S54) ) (fun _ hk=>hk)
            have hx35_3:=hcc35 3 _ rfl
            (try simp only [show (k54).sz=5 from rfl,Nat.mul_one,Nat.add_zero] at hx35_3)
            have hf35_3:=hfr35 3
            (try simp only [show (k54).sz=5 from rfl,Nat.mul_one,Nat.add_zero] at hf35_3)
            clear hcl35 hcc35 hfr35 hM35
            go_wp2_with (first |((with_reducible refine jfc (t:=3) (p:=45) rfl ?_);refine jYb (t:=3) (p:=45) (v:=?vo_w36) (w1:=(wr.setCell ⟨go27,(x8_2:Int).toNat * 5+3,none⟩ (.int .i64 (-1)))) ?hg ?ho ?hn ?hr ?_;(case ho=>rfl);(case hg=>rfl);(case hn=>rfl);(case hr=>exact Y4);intro w36 hw;have hg:wr.grownBy w36 (some go27):=(by rw [hw];exact HP35.2);have hp_:Kd.R k54 54 w36 w.heap.size (fun _=>True) (.slice (some ⟨go27,0,none⟩) x325000_2.length co34) y328:=(by rw [hw,Ny328.out];exact HP35.1);clear HP35;replace BK319:=am (jAa (g:=gb319) (o:=.cells #[.slice A0_0 l0_0.length c0_0] 32 (0,0)) (kq BK319.out) hg (Kd.R_ne HO_325000.out BK319.out (by decide)));replace BK320:=am (jAa (g:=gb320) (o:=.cells #[.slice none 0 0] 32 (0,0)) (kq BK320.out) hg (Kd.R_ne HO_325000.out BK320.out (by decide)));replace BK324:=am (jAa (g:=gb324) (o:=.cells #[.slice (some ⟨go27,0,none⟩) x325000_2.length co34] 32 (0,0)) (kq BK324.out) hg (Kd.R_ne HO_325000.out BK324.out (by decide)));replace HO_325000:=am (hp_);replace HB:=am ((by rw [hw];exact jm (HB.out) GB27.out:Below w.heap.size w w36));clear hg hw hp_;have hcz37_0:=bc0 BK324.out;have hfz37_0:=jc BK324.out 0;have p30:0≤(a1:Int):=ozD (uq);have q30:(a1:Int)<((x325000_2.length:Int):Int):=ozD (uq);obtain ⟨ce30,hcl30,hM30,hcc30,hfr30⟩:=Kd.jzb HO_325000.out z54 (a1:Int) p30 q30;obtain rfl:=jUa hM30;have hx30_0:w36.cell? ⟨go27,(a1:Int).toNat * 5,none⟩=some (.int .i64 ((ja y328 a1).f0)):=hcc30 0 _ rfl;have hx30_1:w36.cell? ⟨go27,(a1:Int).toNat * 5+1,none⟩=some (.int .i64 ((ja y328 a1).f1)):=hcc30 1 _ rfl;have hx30_2:w36.cell? ⟨go27,(a1:Int).toNat * 5+2,none⟩=some (.int .i64 ((ja y328 a1).f2)):=hcc30 2 _ rfl;have hx30_3:w36.cell? ⟨go27,(a1:Int).toNat * 5+3,none⟩=some (.int .i64 ((ja y328 a1).f3)):=hcc30 3 _ rfl;have hx30_4:w36.cell? ⟨go27,(a1:Int).toNat * 5+4,none⟩=some (.bool ((ja y328 a1).f4)):=hcc30 4 _ rfl;have hf30_0:w36.frozen? ⟨go27,(a1:Int).toNat * 5,none⟩=false:=hfr30 0;have hf30_1:w36.frozen? ⟨go27,(a1:Int).toNat * 5+1,none⟩=false:=hfr30 1;have hf30_2:w36.frozen? ⟨go27,(a1:Int).toNat * 5+2,none⟩=false:=hfr30 2;have hf30_3:w36.frozen? ⟨go27,(a1:Int).toNat * 5+3,none⟩=false:=hfr30 3;have hf30_4:w36.frozen? ⟨go27,(a1:Int).toNat * 5+4,none⟩=false:=hfr30 4;clear hcl30 hcc30 hfr30 hM30;replace p30:=ezT p30;replace q30:=ezT q30;have HX38:=am (show Kd.R k54 54 w36 w.heap.size (fun _=>True) (.slice (some ⟨go27,0,none⟩) x325000_2.length co34) y328 from (rq HO_325000.out));obtain ⟨ce38,hcl38,hM38,hcc38,hfr38⟩:=Kd.jzb HX38.out z54 (a1:Int) (ozD (uq)) (by have h_:(a1:Int)<((x325000_2.length:Int):Int):=ozD (uq);first | exact h_ |(have e_:=(Kd.jw HO_325000.out).1;omega) | simpa using h_);obtain rfl:=jUa hM38;have HP38:=Kd.R_seg HX38.out (a1:Int) (ozD (uq)) (by have h_:(a1:Int)<((x325000_2.length:Int):Int):=ozD (uq);first | exact h_ |(have e_:=(Kd.jw HO_325000.out).1;omega) | simpa using h_) (seg:=[.int .i64 a2]) (j:=3) hcl38 hcc38 (show 4≤5 from by decide) (x':=(⟨(ja y328 a1).f0,(ja y328 a1).f1,(ja y328 a1).f2,a2,(ja y328 a1).f4⟩:S54)) (jZb _ _ _ (⟨(ja y328 a1).f0,(ja y328 a1).f1,(ja y328 a1).f2,a2,(ja y328 a1).f4⟩:S54) ) (fun _ hk=>hk);have hx38_3:=hcc38 3 _ rfl;(try simp only [show (k54).sz=5 from rfl,Nat.mul_one,Nat.add_zero] at hx38_3);have hf38_3:=hfr38 3;(try simp only [show (k54).sz=5 from rfl,Nat.mul_one,Nat.add_zero] at hf38_3);clear hcl38 hcc38 hfr38 hM38) |((with_reducible refine jfc (t:=3) (p:=51) rfl ?_);refine jYb (t:=3) (p:=51) (v:=?vo_w39) (w1:=(w36.setCell ⟨go27,(a1:Int).toNat * 5+3,none⟩ (.int .i64 a2))) ?hg ?ho ?hn ?hr ?_;(case ho=>rfl);(case hg=>rfl);(case hn=>rfl);(case hr=>exact Y4);intro w39 hw;have hg:w36.grownBy w39 (some go27):=(by rw [hw];exact HP38.2);have hp_:Kd.R k54 54 w39 w.heap.size (fun _=>True) (.slice (some ⟨go27,0,none⟩) x325000_2.length co34) y329:=(by rw [hw,Ny329.out];exact HP38.1);clear HP38;replace BK319:=am (jAa (g:=gb319) (o:=.cells #[.slice A0_0 l0_0.length c0_0] 32 (0,0)) (kq BK319.out) hg (Kd.R_ne HO_325000.out BK319.out (by decide)));replace BK320:=am (jAa (g:=gb320) (o:=.cells #[.slice none 0 0] 32 (0,0)) (kq BK320.out) hg (Kd.R_ne HO_325000.out BK320.out (by decide)));replace BK324:=am (jAa (g:=gb324) (o:=.cells #[.slice (some ⟨go27,0,none⟩) x325000_2.length co34] 32 (0,0)) (kq BK324.out) hg (Kd.R_ne HO_325000.out BK324.out (by decide)));replace HO_325000:=am (hp_);replace HB:=am ((by rw [hw];exact jm (HB.out) GB27.out:Below w.heap.size w w39));clear hg hw hp_;have hcz40_0:=bc0 BK324.out;have hfz40_0:=jc BK324.out 0;have hnb41:=NB320_319.out;have hnc41:=NB319_320.out;have hcz42_0:=bc0 BK320.out;have hfz42_0:=jc BK320.out 0))
            refine bodyPost_ret (results_cell_row rfl _ _ gb320 32 #[.slice (some ⟨go27,0,none⟩) x325000_2.length co34] (0,0) _ rfl (Y122) Try.underlying32 rfl (by kernel_rfl)) rfl ?_
            exact ⟨_,Y1,by (with_reducible repeat (first | apply Kd.jO | apply Kd.jQ | apply Kd.jM));exact Kd.jE (Kd.jX (p:=⟨gb320,0,none⟩) (Kd.jN HO_325000.out BK320.out (by decide)) (fun _ hk=>hk.2) (.slice (some ⟨go27,0,none⟩) x325000_2.length co34)) (fun _ hk=>trivial),Y60⟩
           ·rw [if_neg c29] at H
            exact absurd H (by simp)
          ·rw [if_neg c28] at H
           exact absurd H (by simp)
         ·rw [if_neg c26] at H
          have c26b0:(((ja x325000_2 x8_2).f3) == a1)=false:=beq_eq_false_iff_ne.mpr c26
          have c26b1:(((ja x325000_2 x8_2).f3) != a1)=true:=bne_iff_ne.mpr c26
          have H':=am H
          clear H
          have hnb43:=NB324_319.out
          have hnc43:=NB319_324.out
          have hnb44:=NB324_320.out
          have hnc44:=NB320_324.out
          have hcz45_0:=bc0 BK324.out
          have hfz45_0:=jc BK324.out 0
          obtain ⟨Ao46,co46,eo46⟩:=Kd.jW HO_325000.out
          subst eo46
          have p325:0≤(x8_2:Int):=ozD (uq)
          have q325:x8_2<(x325000_2.length:Int):=ozD (uq)
          obtain ⟨ad325,e325,hx325_0,hx325_1,hx325_2,hx325_3,hx325_4⟩:=jvb (Kd.jw HO_325000.out).2.2 x8_2 p325 q325
          cases e325
          replace p325:=ezT p325
          replace q325:=ezT q325
          have p327:0≤(x8_2:Int):=ozD (uq)
          have q327:x8_2<(x325000_2.length:Int):=ozD (uq)
          obtain ⟨ad327,e327,hx327_0,hx327_1,hx327_2,hx327_3,hx327_4⟩:=jvb (Kd.jw HO_325000.out).2.2 x8_2 p327 q327
          obtain rfl:ad325=ad327:=(by injection e327)
          replace p327:=ezT p327
          replace q327:=ezT q327
          have p330:0≤(x8_2:Int):=ozD (uq)
          have q330:x8_2<(x325000_2.length:Int):=ozD (uq)
          obtain ⟨ad330,e330,hx330_0,hx330_1,hx330_2,hx330_3,hx330_4⟩:=jvb (Kd.jw HO_325000.out).2.2 x8_2 p330 q330
          obtain rfl:ad325=ad330:=(by injection e330)
          replace p330:=ezT p330
          replace q330:=ezT q330
          go_wp2
          go_roundg k2
          case measure=>have:=HJ4.out;have:=HK2.out;omega
          case rel=>exact ⟨((ja x325000_2 x8_2).f3),(x325000_2),(.slice (some ad325) x325000_2.length co46),(sq),H',⟨by have:=HJ4.out;have:=HK2.out;omega⟩,⟨rq HO_325000.out⟩,⟨kq BK319.out⟩,⟨kq BK320.out⟩,⟨kq BK324.out⟩,⟨Y60⟩⟩
        ·rw [if_neg c25] at H
         have c25b0:decide (0≤((ja x325000_2 x8_2).f3))=false:=dzF c25
         clear c25
         by_cases c47:0≤a1
         ·rw [if_pos c47] at H
          have c47b0:decide (0≤a1)=true:=dzT c47
          clear c47
          by_cases c48:a1<(x325000_2.length:Int)
          ·rw [if_pos c48] at H
           have c48b0:decide (a1<(x325000_2.length:Int))=true:=dzT c48
           clear c48
           obtain ⟨y326,hy326⟩:∃ y_:List (S54),y_=(x325000_2.set (a1:Int).toNat (⟨(ja x325000_2 a1).f0,(ja x325000_2 a1).f1,(ja x325000_2 a1).f2,a2,(ja x325000_2 a1).f4⟩:S54)):=⟨_,rfl⟩
           replace H:(some y326)=some r:=by first |(rw [hy326];with_reducible exact H) |(have H2_:=(Option.bind_some _ _).symm.trans H;rw [hy326];with_reducible exact H2_) |(have H2_:=(Option.bind_some _ _).symm.trans H;with_reducible exact H2_) | with_reducible exact H |(rw [hy326];exact H) | exact H
           have Ny326:=am hy326
           clear hy326
           obtain rfl:=Option.some.inj H
           have hnb50:=NB324_319.out
           have hnc50:=NB319_324.out
           have hnb51:=NB324_320.out
           have hnc51:=NB320_324.out
           have hcz52_0:=bc0 BK324.out
           have hfz52_0:=jc BK324.out 0
           obtain ⟨Ao53,co53,eo53⟩:=Kd.jW HO_325000.out
           subst eo53
           have p325:0≤(x8_2:Int):=ozD (uq)
           have q325:x8_2<(x325000_2.length:Int):=ozD (uq)
           obtain ⟨ad325,e325,hx325_0,hx325_1,hx325_2,hx325_3,hx325_4⟩:=jvb (Kd.jw HO_325000.out).2.2 x8_2 p325 q325
           cases e325
           replace p325:=ezT p325
           replace q325:=ezT q325
           have p49:0≤(a1:Int):=ozD (uq)
           have q49:(a1:Int)<((x325000_2.length:Int):Int):=ozD (uq)
           obtain ⟨go49,co49,eo49,gb49,gl49,cl49,HG49⟩:=Kd.R_form HO_325000.out (by omega)
           (first | cases eo49 |(injection eo49 with ea_ en_ ec_;(first | subst ea_ |(injection ea_ with ea_;subst ea_));subst ec_;clear en_))
           have GB49:=am gb49
           have GG49:=am HG49
           clear gb49 gl49 HG49
           (first | simp only [add_plain] at hx325_0 | skip)
           (first | simp only [add_plain] at hx325_1 | skip)
           (first | simp only [add_plain] at hx325_2 | skip)
           (first | simp only [add_plain] at hx325_3 | skip)
           (first | simp only [add_plain] at hx325_4 | skip)
           (first | simp only [add_plain] at hx327_0 | skip)
           (first | simp only [add_plain] at hx327_1 | skip)
           (first | simp only [add_plain] at hx327_2 | skip)
           (first | simp only [add_plain] at hx327_3 | skip)
           (first | simp only [add_plain] at hx327_4 | skip)
           (first | simp only [add_plain] at hx330_0 | skip)
           (first | simp only [add_plain] at hx330_1 | skip)
           (first | simp only [add_plain] at hx330_2 | skip)
           (first | simp only [add_plain] at hx330_3 | skip)
           (first | simp only [add_plain] at hx330_4 | skip)
           obtain ⟨ce49,hcl49,hM49,hcc49,hfr49⟩:=Kd.jzb HO_325000.out z54 (a1:Int) p49 q49
           obtain rfl:=jUa hM49
           have hx49_0:wr.cell? ⟨go49,(a1:Int).toNat * 5,none⟩=some (.int .i64 ((ja x325000_2 a1).f0)):=hcc49 0 _ rfl
           have hx49_1:wr.cell? ⟨go49,(a1:Int).toNat * 5+1,none⟩=some (.int .i64 ((ja x325000_2 a1).f1)):=hcc49 1 _ rfl
           have hx49_2:wr.cell? ⟨go49,(a1:Int).toNat * 5+2,none⟩=some (.int .i64 ((ja x325000_2 a1).f2)):=hcc49 2 _ rfl
           have hx49_3:wr.cell? ⟨go49,(a1:Int).toNat * 5+3,none⟩=some (.int .i64 ((ja x325000_2 a1).f3)):=hcc49 3 _ rfl
           have hx49_4:wr.cell? ⟨go49,(a1:Int).toNat * 5+4,none⟩=some (.bool ((ja x325000_2 a1).f4)):=hcc49 4 _ rfl
           have hf49_0:wr.frozen? ⟨go49,(a1:Int).toNat * 5,none⟩=false:=hfr49 0
           have hf49_1:wr.frozen? ⟨go49,(a1:Int).toNat * 5+1,none⟩=false:=hfr49 1
           have hf49_2:wr.frozen? ⟨go49,(a1:Int).toNat * 5+2,none⟩=false:=hfr49 2
           have hf49_3:wr.frozen? ⟨go49,(a1:Int).toNat * 5+3,none⟩=false:=hfr49 3
           have hf49_4:wr.frozen? ⟨go49,(a1:Int).toNat * 5+4,none⟩=false:=hfr49 4
           clear hcl49 hcc49 hfr49 hM49
           replace p49:=ezT p49
           replace q49:=ezT q49
           have HX54:=am (show Kd.R k54 54 wr w.heap.size (fun _=>True) (.slice (some ⟨go49,0,none⟩) x325000_2.length co53) x325000_2 from (rq HO_325000.out))
           obtain ⟨ce54,hcl54,hM54,hcc54,hfr54⟩:=Kd.jzb HX54.out z54 (a1:Int) (ozD (uq)) (by have h_:(a1:Int)<((x325000_2.length:Int):Int):=ozD (uq);first | exact h_ |(have e_:=(Kd.jw HO_325000.out).1;omega) | simpa using h_)
           obtain rfl:=jUa hM54
           have HP54:=Kd.R_seg HX54.out (a1:Int) (ozD (uq)) (by have h_:(a1:Int)<((x325000_2.length:Int):Int):=ozD (uq);first | exact h_ |(have e_:=(Kd.jw HO_325000.out).1;omega) | simpa using h_) (seg:=[.int .i64 a2]) (j:=3) hcl54 hcc54 (show 4≤5 from by decide) (x':=(⟨(ja x325000_2 a1).f0,(ja x325000_2 a1).f1,(ja x325000_2 a1).f2,a2,(ja x325000_2 a1).f4⟩:S54)) (jZb _ _ _ (⟨(ja x325000_2 a1).f0,(ja x325000_2 a1).f1,(ja x325000_2 a1).f2,a2,(ja x325000_2 a1).f4⟩:S54) ) (fun _ hk=>hk)
           have hx54_3:=hcc54 3 _ rfl
           (try simp only [show (k54).sz=5 from rfl,Nat.mul_one,Nat.add_zero] at hx54_3)
           have hf54_3:=hfr54 3
           (try simp only [show (k54).sz=5 from rfl,Nat.mul_one,Nat.add_zero] at hf54_3)
           clear hcl54 hcc54 hfr54 hM54
           go_wp2_with (first |((with_reducible refine jfc (t:=3) (p:=51) rfl ?_);refine jYb (t:=3) (p:=51) (v:=?vo_w55) (w1:=(wr.setCell ⟨go49,(a1:Int).toNat * 5+3,none⟩ (.int .i64 a2))) ?hg ?ho ?hn ?hr ?_;(case ho=>rfl);(case hg=>rfl);(case hn=>rfl);(case hr=>exact Y4);intro w55 hw;have hg:wr.grownBy w55 (some go49):=(by rw [hw];exact HP54.2);have hp_:Kd.R k54 54 w55 w.heap.size (fun _=>True) (.slice (some ⟨go49,0,none⟩) x325000_2.length co53) y326:=(by rw [hw,Ny326.out];exact HP54.1);clear HP54;replace BK319:=am (jAa (g:=gb319) (o:=.cells #[.slice A0_0 l0_0.length c0_0] 32 (0,0)) (kq BK319.out) hg (Kd.R_ne HO_325000.out BK319.out (by decide)));replace BK320:=am (jAa (g:=gb320) (o:=.cells #[.slice none 0 0] 32 (0,0)) (kq BK320.out) hg (Kd.R_ne HO_325000.out BK320.out (by decide)));replace BK324:=am (jAa (g:=gb324) (o:=.cells #[.slice (some ⟨go49,0,none⟩) x325000_2.length co53] 32 (0,0)) (kq BK324.out) hg (Kd.R_ne HO_325000.out BK324.out (by decide)));replace HO_325000:=am (hp_);replace HB:=am ((by rw [hw];exact jm (HB.out) GB49.out:Below w.heap.size w w55));clear hg hw hp_;have hcz56_0:=bc0 BK324.out;have hfz56_0:=jc BK324.out 0;have hnb57:=NB320_319.out;have hnc57:=NB319_320.out;have hcz58_0:=bc0 BK320.out;have hfz58_0:=jc BK320.out 0))
           refine bodyPost_ret (results_cell_row rfl _ _ gb320 32 #[.slice (some ⟨go49,0,none⟩) x325000_2.length co53] (0,0) _ rfl (Y122) Try.underlying32 rfl (by kernel_rfl)) rfl ?_
           exact ⟨_,Y1,by (with_reducible repeat (first | apply Kd.jO | apply Kd.jQ | apply Kd.jM));exact Kd.jE (Kd.jX (p:=⟨gb320,0,none⟩) (Kd.jN HO_325000.out BK320.out (by decide)) (fun _ hk=>hk.2) (.slice (some ⟨go49,0,none⟩) x325000_2.length co53)) (fun _ hk=>trivial),Y60⟩
          ·rw [if_neg c48] at H
           exact absurd H (by simp)
         ·rw [if_neg c47] at H
          exact absurd H (by simp)
       ·rw [if_neg c24] at H
        exact absurd H (by simp)
      ·rw [if_neg c23] at H
       exact absurd H (by simp)
mutual
def jr.l0 : Nat → Int → List Int → Int → List (S94) → List (S54) → Option ((List (S54)) × Int)
 | 0,_,_,_,_,_=>none
 | k+1,x6,x1000,x1001,x332000,x337000=>if x6 > 0 then ((jl.f k x1000 x1001 (x332000.length:Int)).bind fun bt342=>((jy.f k x1000 bt342.2 (([1,2,3,0,99]:List Int))).bind fun bt347=>((jIb.f x337000 bt342.1 bt347.1).bind fun t349=>(jr.l0 k (wrap64 (x6 - 1)) x1000 bt347.2 x332000 t349)))) else ((jy.f k x1000 x1001 (([3,4,2,5,0]:List Int))).bind fun bt355=>(jr.l1 k bt355.1 x1000 bt355.2 x337000))
def jr.l1 : Nat → Int → List Int → Int → List (S54) → Option ((List (S54)) × Int)
 | 0,_,_,_,_=>none
 | k+1,x7,x1000,x1001,x337000=>if x7 > 0 then (jr.j2 k x7 (decide ((x337000.length:Int) > 1)) x1000 x1001 x337000) else (jr.j2 k x7 false x1000 x1001 x337000)
def jr.j2 : Nat → Int → Bool → List Int → Int → List (S54) → Option ((List (S54)) × Int)
 | 0,_,_,_,_,_=>none
 | k+1,x7,x39,x1000,x1001,x337000=>if x39=true then ((jl.f k x1000 x1001 (x337000.length:Int)).bind fun bt357=>((jl.f k x1000 bt357.2 (x337000.length:Int)).bind fun bt359=>(if bt357.1=bt359.1 then (if 0≤bt357.1 then (if bt357.1<(x337000.length:Int) then (jr.l1 k (wrap64 (x7 - 1)) x1000 bt359.2 (x337000.set (bt357.1:Int).toNat (⟨(ja x337000 bt357.1).f0,(ja x337000 bt357.1).f1,(ja x337000 bt357.1).f2,(ja x337000 bt357.1).f3,!((ja x337000 bt357.1).f4)⟩:S54))) else (none)) else (none)) else ((jl.f k x1000 bt359.2 3).bind fun bt363=>(if bt363.1=0 then (if 0≤bt357.1 then (if bt357.1<(x337000.length:Int) then ((some (x337000.set (bt357.1:Int).toNat (⟨(ja x337000 bt357.1).f0,(ja x337000 bt357.1).f1,bt359.1,(ja x337000 bt357.1).f3,(ja x337000 bt357.1).f4⟩:S54):List (S54))).bind fun y365=>(jr.l1 k (wrap64 (x7 - 1)) x1000 bt363.2 (y365.set (bt357.1:Int).toNat (⟨(ja y365 bt357.1).f0,(ja y365 bt357.1).f1,(ja y365 bt357.1).f2,(ja y365 bt357.1).f3,true⟩:S54)))) else (none)) else (none)) else ((jia.f k x337000 bt357.1 bt359.1).bind fun t367=>(jr.l1 k (wrap64 (x7 - 1)) x1000 bt363.2 t367))))))) else (some (x337000,x1001))
end
def jr.f (k : Nat) (s0_0 : List Int) (s0_1 : Int) (l1_0 : List (S94)) : Option ((List (S54)) × Int) := (jy.f k s0_0 s0_1 (([4, 5, 3, 6, 2, 1, 0] : List Int))).bind fun bt340 => (jr.l0 k bt340.1 s0_0 bt340.2 l1_0 (([] : List (S54))))
def jr.T5 : Bool × List (List Nat × List Nat) := (true, [([], []), ([], []), ([], []), ([2], [2]), ([3], [3]), ([1, 4], [1, 4]), ([], []), ([], []), ([6, 7, 5], [6, 7]), ([0, 5, 8, 8], [0, 5, 8]), ([9, 9, 0, 1, 2, 3, 4, 5, 6, 7, 8, 9], [9])])
def jr.B5 : List Nat := [0, 0, 0, 4, 12, 30, 0, 0, 254, 511, 1023]
theorem jr.tab5 : rtab .any (opsOf Try.f62 5) = jr.T5 := by kernel_rfl
theorem jr.bits5 : jxb jr.T5.2 jr.B5 = true := by kernel_rfl
def jr.T13 : Bool × List (List Nat × List Nat) := (true, [([], []), ([0], [0]), ([], []), ([], []), ([3], [3]), ([], []), ([4, 5], [4, 5]), ([6], [6]), ([7], [7]), ([8], [8]), ([1, 2, 0, 1, 2, 3, 4, 5, 6, 7, 8, 9], [1, 2]), ([10, 0, 1, 2, 3, 4, 5, 6, 7, 8, 9], [10]), ([11, 9, 0, 1, 2, 3, 4, 5, 6, 7, 8, 9], [9, 11])])
def jr.B13 : List Nat := [0, 1, 0, 0, 8, 0, 56, 120, 248, 504, 1023, 2047, 4095]
theorem jr.tab13 : rtab .any (opsOf Try.f62 13) = jr.T13 := by kernel_rfl
theorem jr.bits13 : jxb jr.T13.2 jr.B13 = true := by kernel_rfl
set_option maxHeartbeats 8000000 in
set_option maxRecDepth 100000 in
theorem jr.calls (k : Nat) (g : Nat) (s0_0 : List Int) (s0_1 : Int) (A1_0 : Option Addr) (c1_0 : Nat) (l1_0 : List (S94)) (r1 : List (S54)) (r2 : Int) (w0 w : World) (hI : jb w0 w g s0_0 s0_1) (hB : Below w0.heap.size w0 w) (hr1_0 : ∀ W_, jd w W_ g none → Kd.C k94 W_ A1_0 l1_0.length l1_0) (hc1_0 : l1_0.length ≤ c1_0) (h : jr.f k s0_0 s0_1 l1_0 = some (r1, r2)) :
  Calls Try.prog 62 #[.pointer (some ⟨g,0,none⟩), .agg #[.slice A1_0 l1_0.length c1_0]] w fun e w'=>∃ v0_:Value,e=.returned (.agg #[v0_])∧Kd.R k54 54 w' w.heap.size (fun _=>True) v0_ r1∧jb w0 w' g s0_0 r2∧Below w0.heap.size w0 w'∧jd w w' g none:=by
 have hu37:=Try.underlying37
 have hu32:=Try.underlying32
 have HR1_0:=am hr1_0
 have HC1_0:=am hc1_0
 clear hr1_0 hc1_0
 have HI0:=am hI
 have HK:=am (jd.refl w g none)
 have HL:=am hB.size
 clear hI
 have HW0:=am hB.size
 have HB:=am hB
 clear hB
 have H:((jy.f k s0_0 s0_1 (([4,5,3,6,2,1,0]:List Int))).bind fun bt340=>(jr.l0 k bt340.1 s0_0 bt340.2 l1_0 (([]:List (S54)))))=some (r1,r2):=h
 clear h
 obtain ⟨y333,hy333⟩:∃ y_:List (S54),y_=(([]:List (S54))):=⟨_,rfl⟩
 replace H:((jy.f k s0_0 s0_1 (([4,5,3,6,2,1,0]:List Int))).bind fun bt340=>(jr.l0 k bt340.1 s0_0 bt340.2 l1_0 y333))=some (r1,r2):=by first |(rw [hy333];with_reducible exact H) |(have H2_:=(Option.bind_some _ _).symm.trans H;rw [hy333];with_reducible exact H2_) |(have H2_:=(Option.bind_some _ _).symm.trans H;with_reducible exact H2_) | with_reducible exact H |(rw [hy333];exact H) | exact H
 have Ny333:=am hy333
 clear hy333
 obtain ⟨y337,hy337⟩:∃ y_:List Int,y_=(([4,5,3,6,2,1,0]:List Int)):=⟨_,rfl⟩
 replace H:((jy.f k s0_0 s0_1 y337).bind fun bt340=>(jr.l0 k bt340.1 s0_0 bt340.2 l1_0 y333))=some (r1,r2):=by first |(rw [hy337];with_reducible exact H) |(have H2_:=(Option.bind_some _ _).symm.trans H;rw [hy337];with_reducible exact H2_) |(have H2_:=(Option.bind_some _ _).symm.trans H;with_reducible exact H2_) | with_reducible exact H |(rw [hy337];exact H) | exact H
 have Ny337:=am hy337
 clear hy337
 replace H:=bzS H
 obtain ⟨⟨t340,t341⟩,A30,H⟩:=H
 replace H:(jr.l0 k t340 s0_0 t341 l1_0 y333)=some (r1,r2):=H
 have A3:=am A30
 clear A30
 have H':=am H
 clear H
 go_enter Try.func62,Try.ntmps62
 go_wp2_with (first |((with_reducible refine jI (N:=3) rfl ?_);(try (refine jVa (by rfl) ?_;dsimp only));refine jlb ?hg (N:=3) ?hd (cs:=#[.slice A1_0 l1_0.length c1_0]) (t:=37) ?hr ?_;(case hd=>rfl);(case hg=>rfl);(case hr=>exact Y4);intro gb331 hg w4 hbox hb;have BK331:=am (hbox);have GW331:=am ((Y7:w.heap.size≤gb331));have GE331:=am ((Nat.le_trans HW0.out (Y7:w.heap.size≤gb331):w0.heap.size≤gb331));have NB0_331:=am ((Y25:g≠gb331));have NB331_0:=am ((Y26:gb331≠g));replace HK:=am (jd.trans (Y14) (jd.of_below hb g none) (.inl rfl));replace HB:=am (jk (Y15) hb);replace HI0:=am (jb.below (Y13) hb);clear hb hbox hg) |((with_reducible refine jI (N:=4) rfl ?_);(try (refine jVa (by rfl) ?_;dsimp only));refine jlb ?hg (N:=4) ?hd (cs:=#[.slice none 0 0]) (t:=32) ?hr ?_;(case hd=>rfl);(case hg=>rfl);(case hr=>exact Y4);intro gb332 hg w5 hbox hb;have BK332:=am (hbox);have GW332:=am ((Y142:w.heap.size≤gb332));have GE332:=am ((Nat.le_trans HW0.out (Y142:w.heap.size≤gb332):w0.heap.size≤gb332));have NB331_332:=am ((by rw [hg];exact Nat.ne_of_lt (jca (g:=gb331) (o:=.cells #[.slice A1_0 l1_0.length c1_0] 37 (0,0)) (kq BK331.out)):gb331≠gb332));have NB332_331:=am ((by rw [hg];exact Nat.ne_of_gt (jca (g:=gb331) (o:=.cells #[.slice A1_0 l1_0.length c1_0] 37 (0,0)) (kq BK331.out)):gb332≠gb331));have NB0_332:=am ((by rw [hg];exact Nat.ne_of_lt (jb.lt (show jb w0 _ g s0_0 s0_1 from by repeat (first |(with_reducible first | exact HI0.out | apply jb.alloc | apply jb.drewN | apply jb.drew | apply jb.jhb | refine jb.far ?_ NB0_331.out _) | exact HI0.out))):g≠gb332));have NB332_0:=am ((by rw [hg];exact Nat.ne_of_gt (jb.lt (show jb w0 _ g s0_0 s0_1 from by repeat (first |(with_reducible first | exact HI0.out | apply jb.alloc | apply jb.drewN | apply jb.drew | apply jb.jhb | refine jb.far ?_ NB0_331.out _) | exact HI0.out))):gb332≠g));replace BK331:=am (jh (g:=gb331) (o:=.cells #[.slice A1_0 l1_0.length c1_0] 37 (0,0)) (kq BK331.out) hb);replace HK:=am (jd.trans (by repeat (first |(with_reducible first | exact HK.out | apply jd.set_ | apply jma | apply jZ | apply jna | refine jP ?_ GW331.out _) | exact HK.out)) (jd.of_below hb g none) (.inl rfl));replace HB:=am (jk (by repeat (first |(with_reducible first | exact HB.out | apply jA | apply jq | apply jv | refine jm ?_ (jb.ge HI0.out) | refine jm ?_ GE331.out) | exact HB.out)) hb);replace HI0:=am (jb.below (by repeat (first |(with_reducible first | exact HI0.out | apply jb.alloc | apply jb.drewN | apply jb.drew | apply jb.jhb | refine jb.far ?_ NB0_331.out _) | exact HI0.out)) hb);clear hb hbox hg) |((with_reducible refine jI (N:=10) rfl ?_);(try (refine jVa (by rfl) ?_;dsimp only));refine Kd.R_lit k54 _ 54 ?hg (N:=10) ?hd (xs:=([]:List (S54))) (inner:=[]) (ok:=fun _=>True) (okp:=fun _=>True) ?hr ?hp (fun _ hk=>hk) trivial (Below.refl _ _) (Nat.le_refl _) (by simp) ?_;(case hd=>rfl);(case hg=>rfl);(case hr=>exact Y4);(case hp=>exact (Reps.none _ _));intro v334 w6 ho7 hb hg_ hnew_;clear hg_ hnew_;(first | rw [← Ny333.out] at ho7 |(simp only [Int.reduceToNat] at ho7;rw [← Ny333.out] at ho7));have HO335:=am (Kd.jea ho7 (jda (w:=w) (g:=g) (row:=none) (Y123)));replace BK331:=am (jh (g:=gb331) (o:=.cells #[.slice A1_0 l1_0.length c1_0] 37 (0,0)) (kq BK331.out) hb);replace BK332:=am (jh (g:=gb332) (o:=.cells #[.slice none 0 0] 32 (0,0)) (kq BK332.out) hb);replace HK:=am (jd.trans (Y123) (jd.of_below hb g none) (.inl rfl));replace HB:=am (jk (Y143) hb);replace HI0:=am (jb.below (Y144) hb);clear hb ho7;obtain ⟨Ao8,co8,eo8⟩:=Kd.jW HO335.out;subst eo8) |((with_reducible refine jI (N:=5) rfl ?_);(try (refine jVa (by rfl) ?_;dsimp only));refine jlb ?hg (N:=5) ?hd (cs:=#[.slice none 0 0]) (t:=32) ?hr ?_;(case hd=>rfl);(case hg=>rfl);(case hr=>exact Y4);intro gb336 hg w9 hbox hb;have BK336:=am (hbox);have GW336:=am ((Y145:w.heap.size≤gb336));have GE336:=am ((Nat.le_trans HW0.out (Y145:w.heap.size≤gb336):w0.heap.size≤gb336));have NB331_336:=am ((by rw [hg];exact Nat.ne_of_lt (jca (g:=gb331) (o:=.cells #[.slice A1_0 l1_0.length c1_0] 37 (0,0)) (kq BK331.out)):gb331≠gb336));have NB336_331:=am ((by rw [hg];exact Nat.ne_of_gt (jca (g:=gb331) (o:=.cells #[.slice A1_0 l1_0.length c1_0] 37 (0,0)) (kq BK331.out)):gb336≠gb331));have NB332_336:=am ((by rw [hg];exact Nat.ne_of_lt (jca (g:=gb332) (o:=.cells #[.slice none 0 0] 32 (0,0)) (kq BK332.out)):gb332≠gb336));have NB336_332:=am ((by rw [hg];exact Nat.ne_of_gt (jca (g:=gb332) (o:=.cells #[.slice none 0 0] 32 (0,0)) (kq BK332.out)):gb336≠gb332));have NB0_336:=am ((by rw [hg];exact Nat.ne_of_lt (jb.lt (show jb w0 _ g s0_0 s0_1 from by repeat (first |(with_reducible first | exact HI0.out | apply jb.alloc | apply jb.drewN | apply jb.drew | apply jb.jhb | refine jb.far ?_ NB0_331.out _ | refine jb.far ?_ NB0_332.out _) | exact HI0.out))):g≠gb336));have NB336_0:=am ((by rw [hg];exact Nat.ne_of_gt (jb.lt (show jb w0 _ g s0_0 s0_1 from by repeat (first |(with_reducible first | exact HI0.out | apply jb.alloc | apply jb.drewN | apply jb.drew | apply jb.jhb | refine jb.far ?_ NB0_331.out _ | refine jb.far ?_ NB0_332.out _) | exact HI0.out))):gb336≠g));replace HO335:=am (Kd.jaa (rq HO335.out) hb);replace BK331:=am (jh (g:=gb331) (o:=.cells #[.slice A1_0 l1_0.length c1_0] 37 (0,0)) (kq BK331.out) hb);replace BK332:=am (jh (g:=gb332) (o:=.cells #[.slice none 0 0] 32 (0,0)) (kq BK332.out) hb);replace HK:=am (jd.trans (Y123) (jd.of_below hb g none) (.inl rfl));replace HB:=am (jk (Y143) hb);replace HI0:=am (jb.below (Y144) hb);clear hb hbox hg;have hnb10:=NB336_331.out;have hnc10:=NB331_336.out;have hnb11:=NB336_332.out;have hnc11:=NB332_336.out;have hnb12:=NB336_0.out;have hnc12:=NB0_336.out;have hcz13_0:=bc0 BK336.out;have hfz13_0:=jc BK336.out 0) |((with_reducible refine jI (N:=13) rfl ?_);(try (refine jVa (by rfl) ?_;dsimp only));refine Kd.R_lit (Kd.int .i64) _ 3 ?hg (N:=13) ?hd (xs:=([4,5,3,6,2,1,0]:List Int)) (inner:=[.int .i64 4, .int .i64 5, .int .i64 3, .int .i64 6, .int .i64 2, .int .i64 1, .int .i64 0]) (ok:=fun _=>True) (okp:=fun _=>True) ?hr ?hp (fun _ hk=>hk) trivial (Below.refl _ _) (Nat.le_refl _) (by simp) ?_;(case hd=>rfl);(case hg=>rfl);(case hr=>exact Y4);(case hp=>exact (Reps.one (show Kd.M (Kd.int .i64) _ _ _ 4 [.int .i64 4] from rfl) (Reps.one (show Kd.M (Kd.int .i64) _ _ _ 5 [.int .i64 5] from rfl) (Reps.one (show Kd.M (Kd.int .i64) _ _ _ 3 [.int .i64 3] from rfl) (Reps.one (show Kd.M (Kd.int .i64) _ _ _ 6 [.int .i64 6] from rfl) (Reps.one (show Kd.M (Kd.int .i64) _ _ _ 2 [.int .i64 2] from rfl) (Reps.one (show Kd.M (Kd.int .i64) _ _ _ 1 [.int .i64 1] from rfl) (Reps.one (show Kd.M (Kd.int .i64) _ _ _ 0 [.int .i64 0] from rfl) (Reps.none _ _)))))))));intro v338 w14 ho15 hb hg_ hnew_;clear hg_ hnew_;(first | rw [← Ny337.out] at ho15 |(simp only [Int.reduceToNat] at ho15;rw [← Ny337.out] at ho15));have HO339:=am (Kd.jea ho15 (jda (w:=w) (g:=g) (row:=none) (Y6)));replace HO335:=am (Kd.jaa (by (with_reducible repeat (first | apply Kd.jO | apply Kd.jQ | apply Kd.jM));exact (Kd.jE (Kd.jX (p:=⟨gb336,0,none⟩) (Kd.jN HO335.out BK336.out (by decide)) (fun _ hk=>hk.2) (.slice Ao8 y333.length co8)) (fun _ h_=>h_.1))) hb);replace BK331:=am (jh (g:=gb331) (o:=.cells #[.slice A1_0 l1_0.length c1_0] 37 (0,0)) (by (with_reducible repeat (first | refine je ?_ _ | refine jg ?_ | refine jf ?_ _));refine jJ ?_ NB331_336.out _;(with_reducible repeat (first | refine je ?_ _ | refine jg ?_ | refine jf ?_ _));exact BK331.out) hb);replace BK332:=am (jh (g:=gb332) (o:=.cells #[.slice none 0 0] 32 (0,0)) (by (with_reducible repeat (first | refine je ?_ _ | refine jg ?_ | refine jf ?_ _));refine jJ ?_ NB332_336.out _;(with_reducible repeat (first | refine je ?_ _ | refine jg ?_ | refine jf ?_ _));exact BK332.out) hb);replace BK336:=am (jh (g:=gb336) (o:=.cells #[.slice Ao8 y333.length co8] 32 (0,0)) (by (with_reducible repeat (first | refine je ?_ _ | refine jg ?_ | refine jf ?_ _));refine jla (cs:=#[.slice none 0 0]) ?_ 0 _ rfl;(with_reducible repeat (first | refine je ?_ _ | refine jg ?_ | refine jf ?_ _));exact BK336.out) hb);replace HK:=am (jd.trans (Y6) (jd.of_below hb g none) (.inl rfl));replace HB:=am (jk (Y8) hb);replace HI0:=am (jb.below (show jb w0 (w9.setCell ⟨gb336,0,none⟩ (.slice Ao8 y333.length co8)) g s0_0 s0_1 from Y3) hb);clear hb ho15;obtain ⟨Ao16,co16,eo16⟩:=Kd.jW HO339.out;subst eo16) |((with_reducible refine jB (f:=89) rfl ?_);refine gL (some 14) Try.func89 #[.pointer (some ⟨g,0,none⟩), .slice Ao16 y337.length co16] ?_;(with_reducible refine (jy.calls k g s0_0 s0_1 _ _ y337 t340 t341 w0 _ ?side1 ?side2 ?side3 ?side4 ?side5 A3.out).mono ?_);(case side1=>exact Y3);(case side2=>exact Y8);(case side3=>exact cq (Kd.jw HO339.out).2.2);(case side4=>exact (Kd.jw HO339.out).2.1);(case side5=>exact jwb (jb.own_ne HI0.out HO339.out (by decide)));rintro e w17 ⟨rfl,hi,hb,hk⟩;refine ⟨_,rfl,?_⟩;replace BK331:=am (jd.blk hk (g':=gb331) (o:=.cells #[.slice A1_0 l1_0.length c1_0] 37 (0,0)) (kq BK331.out) NB331_0.out (by simp));replace BK332:=am (jd.blk hk (g':=gb332) (o:=.cells #[.slice none 0 0] 32 (0,0)) (kq BK332.out) NB332_0.out (by simp));replace HO335:=am (Kd.jE (Kd.jqa (jb.apart (show jb w0 _ g s0_0 s0_1 from Y3) (rq HO335.out) (by decide)) hk (fun _ h=>h.2)) (fun _ h=>h.1));replace BK336:=am (jd.blk hk (g':=gb336) (o:=.cells #[.slice Ao8 y333.length co8] 32 (0,0)) (kq BK336.out) NB336_0.out (by simp));replace HO339:=am (Kd.jE (Kd.jqa (jb.apart (show jb w0 _ g s0_0 s0_1 from Y3) (rq HO339.out) (by decide)) hk (fun _ h=>h.2)) (fun _ h=>h.1));replace HK:=am (jd.trans (Y6) hk (.inl rfl));replace HB:=am (hb);replace HI0:=am (hi);(try clear hb);(try clear hb2);(try clear hk);(try clear hi)))
 go_loopg [6] k (fun kq v6 w'=>∃ (x6_1:Int) (x1001_1:Int) (x337000_1:List (S54)) (u337000:Value),v6=.int .i64 x6_1∧jC (jr.l0 kq x6_1 s0_0 x1001_1 l1_0 x337000_1=some (r1,r2))∧jC (kq≤k)∧jC (Kd.R k54 54 w' w.heap.size (fun _=>True) u337000 x337000_1)∧jC (w'.heap[gb331]?=some (.cells #[(.slice A1_0 l1_0.length c1_0)] 37 (0,0)))∧jC (w'.heap[gb332]?=some (.cells #[(.slice none 0 0)] 32 (0,0)))∧jC (w'.heap[gb336]?=some (.cells #[u337000] 32 (0,0)))∧jC (jb w0 w' g s0_0 x1001_1)∧jC (jd w w' g none)∧jC (Below w0.heap.size w0 w'))
 case atStart=>exact ⟨(t340),(t341),(y333),(.slice Ao8 y333.length co8),(sq),H',⟨Nat.le_refl _⟩,⟨rq HO335.out⟩,⟨kq BK331.out⟩,⟨kq BK332.out⟩,⟨kq BK336.out⟩,⟨Y3⟩,⟨Y6⟩,⟨Y8⟩⟩
 case round =>
  clear H'
  try clear c1
  try clear p2
  try clear c6
  try clear c8
  try clear c10
  try clear c11
  try clear c12
  try clear hcz13_0
  try clear hfz13_0
  obtain ⟨x6_1,x1001_1,x337000_1,u337000,rfl,HA,HK1,HO_337000,BK331,BK332,BK336,HI0,HK,HB⟩:=hrel
  cases gk with
  | zero=>exact absurd HA.out (by simp [jr.l0])
  | succ k1 =>
   have H:=HA.out
   clear HA
   simp only [jr.l0] at H
   by_cases c18:x6_1 > 0
   ·rw [if_pos c18] at H
    have c18b0:decide (0<x6_1)=true:=dzT c18
    clear c18
    replace H:=bzS H
    obtain ⟨⟨t342,t343⟩,A190,H⟩:=H
    replace H:((jy.f k1 s0_0 t343 (([1,2,3,0,99]:List Int))).bind fun bt347=>((jIb.f x337000_1 t342 bt347.1).bind fun t349=>(jr.l0 k1 (wrap64 (x6_1 - 1)) s0_0 bt347.2 l1_0 t349)))=some (r1,r2):=H
    have A19:=am A190
    clear A190
    obtain ⟨y344,hy344⟩:∃ y_:List Int,y_=(([1,2,3,0,99]:List Int)):=⟨_,rfl⟩
    replace H:((jy.f k1 s0_0 t343 y344).bind fun bt347=>((jIb.f x337000_1 t342 bt347.1).bind fun t349=>(jr.l0 k1 (wrap64 (x6_1 - 1)) s0_0 bt347.2 l1_0 t349)))=some (r1,r2):=by first |(rw [hy344];with_reducible exact H) |(have H2_:=(Option.bind_some _ _).symm.trans H;rw [hy344];with_reducible exact H2_) |(have H2_:=(Option.bind_some _ _).symm.trans H;with_reducible exact H2_) | with_reducible exact H |(rw [hy344];exact H) | exact H
    have Ny344:=am hy344
    clear hy344
    replace H:=bzS H
    obtain ⟨⟨t347,t348⟩,A200,H⟩:=H
    replace H:((jIb.f x337000_1 t342 t347).bind fun t349=>(jr.l0 k1 (wrap64 (x6_1 - 1)) s0_0 t348 l1_0 t349))=some (r1,r2):=H
    have A20:=am A200
    clear A200
    replace H:=bzS H
    obtain ⟨t349,A210,H⟩:=H
    replace H:(jr.l0 k1 (wrap64 (x6_1 - 1)) s0_0 t348 l1_0 t349)=some (r1,r2):=H
    have A21:=am A210
    clear A210
    have H':=am H
    clear H
    obtain ⟨Ao22,co22,eo22⟩:=Kd.jW HO_337000.out
    subst eo22
    try go_wp2
    replace HO_337000:=am (Kd.jM HO_337000.out)
    replace BK331:=am (jg BK331.out)
    replace BK332:=am (jg BK332.out)
    replace BK336:=am (jg BK336.out)
    replace HI0:=am (jb.drew HI0.out)
    replace HK:=am (jZ HK.out)
    replace HB:=am (jv HB.out)
    refine jHb (n:=11) (S:=fun w'=>w'.cell? ⟨gb336,0,none⟩=some (.slice Ao22 x337000_1.length co22)∧w'.cell? ⟨gb331,0,none⟩=some (.slice A1_0 l1_0.length c1_0)) (ds:=[10]) #[false,false,false,false,false,false,false,false,false,false,false] (by kernel_rfl) rfl rfl ⟨(jH BK336.out 0).trans rfl,(jH BK331.out 0).trans rfl⟩ (fun hHeld=>?_);refine jnb jr.tab5 jr.bits5 (fun HT_ HW_=>?_)
    generalize wr.drew=w23 at HO_337000 BK331 BK332 BK336 HI0 HK HB hHeld ⊢
    refine pq (i:=1) (N:=some 20) #[false,true,false,false,false,false,false,false,false,false,false] ?_
    refine pq (i:=2) (N:=some 21) #[false,true,true,false,false,false,false,false,false,false,false] ?_
    refine pq (i:=6) (N:=some 25) #[false,true,true,false,false,false,true,false,false,false,false] ?_
    refine job (i:=0) (N:=some 19) (v:=?_) (a':=?_) #[true,true,true,false,false,false,true,false,false,false,false] rfl rfl (jLa HT_.out HW_.out (by kernel_rfl)) (fun _ _ _ h=>h) (Or.inl ⟨by rfl,?_⟩) hHeld ?_ ?_
    rotate_left
    ·rintro w' ⟨s0,s1⟩
     go_simp
     with_reducible rfl
    rotate_left
    ·exact sa
    refine job (i:=3) (N:=some 22) (v:=?_) (a':=?_) #[true,true,true,true,false,false,true,false,false,false,false] rfl rfl (jLa HT_.out HW_.out (by kernel_rfl)) (fun _ _ _ h=>h) (Or.inl ⟨by rfl,?_⟩) hHeld ?_ ?_
    rotate_left
    ·rintro w' ⟨s0,s1⟩
     go_simp
     with_reducible rfl
    rotate_left
    ·exact sa
    refine pq (i:=4) (N:=some 23) #[true,true,true,true,true,false,true,false,false,false,false] ?_
    refine join_ (σ:=Value) 3 #[true,true,true,true,true,true,true,true,false,false,false] (fun s_=>[(24, .int .i64 t342),(26,s_)]) (fun s_ w'=>(w'.cell? ⟨gb336,0,none⟩=some (.slice Ao22 x337000_1.length co22)∧w'.cell? ⟨gb331,0,none⟩=some (.slice A1_0 l1_0.length c1_0))∧(Kd.R (Kd.int .i64) 3 w' w.heap.size (fun _=>True) s_ y344)∧(Kd.R k54 54 w' w.heap.size (fun _=>True) (.slice Ao22 x337000_1.length co22) x337000_1)∧(w'.heap[gb331]?=some (.cells #[.slice A1_0 l1_0.length c1_0] 37 (0,0)))∧(w'.heap[gb332]?=some (.cells #[.slice none 0 0] 32 (0,0)))∧(w'.heap[gb336]?=some (.cells #[.slice Ao22 x337000_1.length co22] 32 (0,0)))∧(jb w0 w' g s0_0 t343)∧(jd w w' g none)∧(Below w0.heap.size w0 w')) ?_ ?_
    rotate_left
    ·intro hCont
     refine two_ (i:=5) (j:=7) (Ni:=some 24) (Nj:=some 26) #[true,true,true,true,true,true,true,false,false,false,false] #[true,true,true,true,true,false,true,true,false,false,false] rfl rfl rfl rfl (two_of HT_.out (by kernel_rfl)) (by decide) (by decide) (fun K hK=>?_) (fun K hK=>?_)
     ·skip
      refine goes_ Try.func88 (by kernel_rfl) rfl #[.pointer (some ⟨g,0,none⟩), .int .i64 (l1_0.length:Int)] (by rfl) rfl rfl (aq) ?_
      with_reducible refine (jl.calls k1 g s0_0 x1001_1 (l1_0.length:Int) t342 t343 w0 _ ?side1 ?side2 A19.out).mono ?_
      (case side1=>exact Y3)
      (case side2=>exact Y8)
      rintro e w24 ⟨rfl,hi,hb,hk⟩
      refine ⟨_,rfl,?_⟩
      replace HO_337000:=am (Kd.jE (Kd.jqa (jb.apart (show jb w0 _ g s0_0 x1001_1 from Y3) (rq HO_337000.out) (by decide)) hk (fun _ h=>h.2)) (fun _ h=>h.1))
      replace BK331:=am (jd.blk hk (g':=gb331) (o:=.cells #[.slice A1_0 l1_0.length c1_0] 37 (0,0)) (kq BK331.out) NB331_0.out (by simp))
      replace BK332:=am (jd.blk hk (g':=gb332) (o:=.cells #[.slice none 0 0] 32 (0,0)) (kq BK332.out) NB332_0.out (by simp))
      replace BK336:=am (jd.blk hk (g':=gb336) (o:=.cells #[.slice Ao22 x337000_1.length co22] 32 (0,0)) (kq BK336.out) NB336_0.out (by simp))
      replace HK:=am (jd.trans (Y6) hk (.inl rfl))
      replace HB:=am (hb)
      replace HI0:=am (hi)
      (try clear hb)
      (try clear hb2)
      (try clear hk)
      (try clear hi)
      refine hK.out _ _ ⟨(jH BK336.out 0).trans rfl,(jH BK331.out 0).trans rfl⟩ (fun hHeld=>?_)
      clear hK K
      refine jMb (a':=?_) ?_ ?_
      rotate_left
      ·show Act.put _ (some 24) _=_
       simp only [Act.put,List.setIfInBounds_toArray,List.set_cons_zero,List.set_cons_succ,jqb,jub]
       rfl
      refine one_ (i:=7) (N:=some 26) #[true,true,true,true,true,true,true,true,false,false,false] rfl rfl (jZa HT_.out (by kernel_rfl)) (by decide) (fun K hK=>?_)
      refine Kd.jKb (Kd.int .i64) _ 3 ?hg (N:=26) ?hd (xs:=([1,2,3,0,99]:List Int)) (inner:=[.int .i64 1, .int .i64 2, .int .i64 3, .int .i64 0, .int .i64 99]) (ok:=fun _=>True) (okp:=fun _=>True) ?hr ?hp (fun _ hk=>hk) trivial (Below.refl _ _) (Nat.le_refl _) (by simp) ?_;(case hd=>rfl);(case hg=>rfl);(case hr=>exact Y4);(case hp=>exact (Reps.one (show Kd.M (Kd.int .i64) _ _ _ 1 [.int .i64 1] from rfl) (Reps.one (show Kd.M (Kd.int .i64) _ _ _ 2 [.int .i64 2] from rfl) (Reps.one (show Kd.M (Kd.int .i64) _ _ _ 3 [.int .i64 3] from rfl) (Reps.one (show Kd.M (Kd.int .i64) _ _ _ 0 [.int .i64 0] from rfl) (Reps.one (show Kd.M (Kd.int .i64) _ _ _ 99 [.int .i64 99] from rfl) (Reps.none _ _)))))))
      intro v345 w25 ho26 hb hg_ hnew_
      clear hg_ hnew_
      (first | rw [← Ny344.out] at ho26 |(simp only [Int.reduceToNat] at ho26;rw [← Ny344.out] at ho26))
      have HO346:=am (Kd.jea ho26 (jda (w:=w) (g:=g) (row:=none) (Y6)))
      replace HO_337000:=am (Kd.jaa (rq HO_337000.out) hb)
      replace BK331:=am (jh (g:=gb331) (o:=.cells #[.slice A1_0 l1_0.length c1_0] 37 (0,0)) (kq BK331.out) hb)
      replace BK332:=am (jh (g:=gb332) (o:=.cells #[.slice none 0 0] 32 (0,0)) (kq BK332.out) hb)
      replace BK336:=am (jh (g:=gb336) (o:=.cells #[.slice Ao22 x337000_1.length co22] 32 (0,0)) (kq BK336.out) hb)
      replace HK:=am (jd.trans (Y6) (jd.of_below hb g none) (.inl rfl))
      replace HB:=am (jk (Y8) hb)
      replace HI0:=am (jb.below (Y3) hb)
      clear hb ho26
      refine hK.out _ _ ⟨(jH BK336.out 0).trans rfl,(jH BK331.out 0).trans rfl⟩ (fun hHeld=>?_)
      clear hK K
      refine jMb (a':=?_) ?_ ?_
      rotate_left
      ·show Act.put _ (some 26) _=_
       simp only [Act.put,List.setIfInBounds_toArray,List.set_cons_zero,List.set_cons_succ,jqb,jub]
       rfl
      exact jMb (by simp only [putAll,Act.put,List.setIfInBounds_toArray,List.set_cons_zero,List.set_cons_succ]) (hCont (v345) _ ⟨hHeld,(rq HO346.out),(rq HO_337000.out),(kq BK331.out),(kq BK332.out),(kq BK336.out),(Y3),(Y6),(Y8)⟩)
     ·skip
      refine Kd.jKb (Kd.int .i64) _ 3 ?hg (N:=26) ?hd (xs:=([1,2,3,0,99]:List Int)) (inner:=[.int .i64 1, .int .i64 2, .int .i64 3, .int .i64 0, .int .i64 99]) (ok:=fun _=>True) (okp:=fun _=>True) ?hr ?hp (fun _ hk=>hk) trivial (Below.refl _ _) (Nat.le_refl _) (by simp) ?_;(case hd=>rfl);(case hg=>rfl);(case hr=>exact Y4);(case hp=>exact (Reps.one (show Kd.M (Kd.int .i64) _ _ _ 1 [.int .i64 1] from rfl) (Reps.one (show Kd.M (Kd.int .i64) _ _ _ 2 [.int .i64 2] from rfl) (Reps.one (show Kd.M (Kd.int .i64) _ _ _ 3 [.int .i64 3] from rfl) (Reps.one (show Kd.M (Kd.int .i64) _ _ _ 0 [.int .i64 0] from rfl) (Reps.one (show Kd.M (Kd.int .i64) _ _ _ 99 [.int .i64 99] from rfl) (Reps.none _ _)))))))
      intro v345 w24 ho25 hb hg_ hnew_
      clear hg_ hnew_
      (first | rw [← Ny344.out] at ho25 |(simp only [Int.reduceToNat] at ho25;rw [← Ny344.out] at ho25))
      have HO346:=am (Kd.jea ho25 (jda (w:=w) (g:=g) (row:=none) (Y6)))
      replace HO_337000:=am (Kd.jaa (rq HO_337000.out) hb)
      replace BK331:=am (jh (g:=gb331) (o:=.cells #[.slice A1_0 l1_0.length c1_0] 37 (0,0)) (kq BK331.out) hb)
      replace BK332:=am (jh (g:=gb332) (o:=.cells #[.slice none 0 0] 32 (0,0)) (kq BK332.out) hb)
      replace BK336:=am (jh (g:=gb336) (o:=.cells #[.slice Ao22 x337000_1.length co22] 32 (0,0)) (kq BK336.out) hb)
      replace HK:=am (jd.trans (Y6) (jd.of_below hb g none) (.inl rfl))
      replace HB:=am (jk (Y8) hb)
      replace HI0:=am (jb.below (Y3) hb)
      clear hb ho25
      refine hK.out _ _ ⟨(jH BK336.out 0).trans rfl,(jH BK331.out 0).trans rfl⟩ (fun hHeld=>?_)
      clear hK K
      refine jMb (a':=?_) ?_ ?_
      rotate_left
      ·show Act.put _ (some 26) _=_
       simp only [Act.put,List.setIfInBounds_toArray,List.set_cons_zero,List.set_cons_succ,jqb,jub]
       rfl
      refine one_ (i:=5) (N:=some 24) #[true,true,true,true,true,true,true,true,false,false,false] rfl rfl (jZa HT_.out (by kernel_rfl)) (by decide) (fun K hK=>?_)
      refine goes_ Try.func88 (by kernel_rfl) rfl #[.pointer (some ⟨g,0,none⟩), .int .i64 (l1_0.length:Int)] (by rfl) rfl rfl (aq) ?_
      with_reducible refine (jl.calls k1 g s0_0 x1001_1 (l1_0.length:Int) t342 t343 w0 _ ?side1 ?side2 A19.out).mono ?_
      (case side1=>exact Y3)
      (case side2=>exact Y8)
      rintro e w26 ⟨rfl,hi,hb,hk⟩
      refine ⟨_,rfl,?_⟩
      replace HO_337000:=am (Kd.jE (Kd.jqa (jb.apart (show jb w0 _ g s0_0 x1001_1 from Y3) (rq HO_337000.out) (by decide)) hk (fun _ h=>h.2)) (fun _ h=>h.1))
      replace BK331:=am (jd.blk hk (g':=gb331) (o:=.cells #[.slice A1_0 l1_0.length c1_0] 37 (0,0)) (kq BK331.out) NB331_0.out (by simp))
      replace BK332:=am (jd.blk hk (g':=gb332) (o:=.cells #[.slice none 0 0] 32 (0,0)) (kq BK332.out) NB332_0.out (by simp))
      replace BK336:=am (jd.blk hk (g':=gb336) (o:=.cells #[.slice Ao22 x337000_1.length co22] 32 (0,0)) (kq BK336.out) NB336_0.out (by simp))
      replace HO346:=am (Kd.jE (Kd.jqa (jb.apart (show jb w0 _ g s0_0 x1001_1 from Y3) (rq HO346.out) (by decide)) hk (fun _ h=>h.2)) (fun _ h=>h.1))
      replace HK:=am (jd.trans (Y6) hk (.inl rfl))
      replace HB:=am (hb)
      replace HI0:=am (hi)
      (try clear hb)
      (try clear hb2)
      (try clear hk)
      (try clear hi)
      refine hK.out _ _ ⟨(jH BK336.out 0).trans rfl,(jH BK331.out 0).trans rfl⟩ (fun hHeld=>?_)
      clear hK K
      refine jMb (a':=?_) ?_ ?_
      rotate_left
      ·show Act.put _ (some 24) _=_
       simp only [Act.put,List.setIfInBounds_toArray,List.set_cons_zero,List.set_cons_succ,jqb,jub]
       rfl
      exact jMb (by simp only [putAll,Act.put,List.setIfInBounds_toArray,List.set_cons_zero,List.set_cons_succ]) (hCont (v345) _ ⟨hHeld,(rq HO346.out),(rq HO_337000.out),(kq BK331.out),(kq BK332.out),(kq BK336.out),(Y3),(Y6),(Y8)⟩)
    rintro v345 w27 ⟨hS_,h0_,h1_,h2_,h3_,h4_,h5_,h6_,h7_⟩
    have n0_:jC (Kd.R (Kd.int .i64) 3 w27 w.heap.size (fun _=>True) v345 y344):=⟨h0_⟩
    have n1_:jC (Kd.R k54 54 w27 w.heap.size (fun _=>True) (.slice Ao22 x337000_1.length co22) x337000_1):=⟨h1_⟩
    have n2_:jC (w27.heap[gb331]?=some (.cells #[.slice A1_0 l1_0.length c1_0] 37 (0,0))):=⟨h2_⟩
    have n3_:jC (w27.heap[gb332]?=some (.cells #[.slice none 0 0] 32 (0,0))):=⟨h3_⟩
    have n4_:jC (w27.heap[gb336]?=some (.cells #[.slice Ao22 x337000_1.length co22] 32 (0,0))):=⟨h4_⟩
    have n5_:jC (jb w0 w27 g s0_0 t343):=⟨h5_⟩
    have n6_:jC (jd w w27 g none):=⟨h6_⟩
    have n7_:jC (Below w0.heap.size w0 w27):=⟨h7_⟩
    clear HO_337000
    clear BK331
    clear BK332
    clear BK336
    clear HI0
    clear HK
    clear HB
    clear h0_ h1_ h2_ h3_ h4_ h5_ h6_ h7_
    have HO346:=n0_
    have HO_337000:=n1_
    have BK331:=n2_
    have BK332:=n3_
    have BK336:=n4_
    have HI0:=n5_
    have HK:=n6_
    have HB:=n7_
    clear n0_ n1_ n2_ n3_ n4_ n5_ n6_ n7_
    have hHeld:w27.cell? ⟨gb336,0,none⟩=some (.slice Ao22 x337000_1.length co22)∧w27.cell? ⟨gb331,0,none⟩=some (.slice A1_0 l1_0.length c1_0):=hS_
    obtain ⟨Ao28,co28,eo28⟩:=Kd.jW HO346.out
    (first | subst eo28 |(injection eo28 with f1_ f2_ f3_;have f4_:=f1_.symm;have f5_:=f3_.symm;clear f1_ f2_ f3_;subst f4_;subst f5_))
    refine jMb (a':=?_) ?_ ?_
    rotate_left
    ·simp only [putAll,Act.put,List.setIfInBounds_toArray,List.set_cons_zero,List.set_cons_succ]
     rfl
    refine one_ (i:=8) (N:=some 27) #[true,true,true,true,true,true,true,true,true,false,false] rfl rfl (jZa HT_.out (by kernel_rfl)) (by decide) (fun K hK=>?_)
    refine goes_ Try.func89 (by kernel_rfl) rfl #[.pointer (some ⟨g,0,none⟩), .slice Ao28 y344.length co28] (by rfl) rfl rfl (aq) ?_
    with_reducible refine (jy.calls k1 g s0_0 t343 _ _ y344 t347 t348 w0 _ ?side1 ?side2 ?side3 ?side4 ?side5 A20.out).mono ?_
    (case side1=>exact Y3)
    (case side2=>exact Y8)
    (case side3=>exact cq (Kd.jw HO346.out).2.2)
    (case side4=>exact (Kd.jw HO346.out).2.1)
    (case side5=>exact jwb (jb.own_ne HI0.out HO346.out (by decide)))
    rintro e w29 ⟨rfl,hi,hb,hk⟩
    refine ⟨_,rfl,?_⟩
    replace HO_337000:=am (Kd.jE (Kd.jqa (jb.apart (show jb w0 _ g s0_0 t343 from Y3) (rq HO_337000.out) (by decide)) hk (fun _ h=>h.2)) (fun _ h=>h.1))
    replace BK331:=am (jd.blk hk (g':=gb331) (o:=.cells #[.slice A1_0 l1_0.length c1_0] 37 (0,0)) (kq BK331.out) NB331_0.out (by simp))
    replace BK332:=am (jd.blk hk (g':=gb332) (o:=.cells #[.slice none 0 0] 32 (0,0)) (kq BK332.out) NB332_0.out (by simp))
    replace BK336:=am (jd.blk hk (g':=gb336) (o:=.cells #[.slice Ao22 x337000_1.length co22] 32 (0,0)) (kq BK336.out) NB336_0.out (by simp))
    replace HO346:=am (Kd.jE (Kd.jqa (jb.apart (show jb w0 _ g s0_0 t343 from Y3) (rq HO346.out) (by decide)) hk (fun _ h=>h.2)) (fun _ h=>h.1))
    replace HK:=am (jd.trans (Y6) hk (.inl rfl))
    replace HB:=am (hb)
    replace HI0:=am (hi)
    (try clear hb)
    (try clear hb2)
    (try clear hk)
    (try clear hi)
    refine hK.out _ _ ⟨(jH BK336.out 0).trans rfl,(jH BK331.out 0).trans rfl⟩ (fun hHeld=>?_)
    clear hK K
    refine jMb (a':=?_) ?_ ?_
    rotate_left
    ·show Act.put _ (some 27) _=_
     simp only [Act.put,List.setIfInBounds_toArray,List.set_cons_zero,List.set_cons_succ,jqb,jub]
     rfl
    refine one_ (i:=9) (N:=some 28) #[true,true,true,true,true,true,true,true,true,true,false] rfl rfl (jZa HT_.out (by kernel_rfl)) (by decide) (fun K hK=>?_)
    refine goes_ Try.func91 (by kernel_rfl) rfl #[.agg #[.slice Ao22 x337000_1.length co22], .int .i64 t342, .int .i64 t347] (by rfl) rfl rfl (aq) ?_
    with_reducible refine (jIb.calls _ _ x337000_1 t342 t347 t349 _ ?side1 ?side2 A21.out).mono ?_
    (case side1=>exact cq (Kd.jw HO_337000.out).2.2)
    (case side2=>exact (Kd.jw HO_337000.out).2.1)
    rintro e w30 ⟨v350,rfl,ho0,hb⟩
    refine ⟨_,rfl,?_⟩
    have HO351:=am (Kd.jea (Kd.R_new' ho0 (Kd.R_lt (rq HO_337000.out))) (jda (w:=w) (g:=g) (row:=none) (Y6)))
    replace HO_337000:=am (Kd.jdc (rq HO_337000.out) (Kd.R_base ho0) hb)
    replace HO346:=am (Kd.jaa (rq HO346.out) hb)
    replace BK331:=am (jh (g:=gb331) (o:=.cells #[.slice A1_0 l1_0.length c1_0] 37 (0,0)) (kq BK331.out) hb)
    replace BK332:=am (jh (g:=gb332) (o:=.cells #[.slice none 0 0] 32 (0,0)) (kq BK332.out) hb)
    replace BK336:=am (jh (g:=gb336) (o:=.cells #[.slice Ao22 x337000_1.length co22] 32 (0,0)) (kq BK336.out) hb)
    replace HK:=am (jd.trans (Y6) (jd.of_below hb g none) (.inl rfl))
    replace HB:=am (jk (Y8) hb)
    replace HI0:=am (jb.below (Y3) hb)
    (try clear hb)
    (try clear hb2)
    (try clear hk)
    (try clear hi)
    (try clear ho0)
    obtain ⟨Ao31,co31,eo31⟩:=Kd.jW HO351.out
    (first | subst eo31 |(injection eo31 with f1_ f2_ f3_;have f4_:=f1_.symm;have f5_:=f3_.symm;clear f1_ f2_ f3_;subst f4_;subst f5_))
    refine hK.out _ _ ⟨(jH BK336.out 0).trans rfl,(jH BK331.out 0).trans rfl⟩ (fun hHeld=>?_)
    clear hK K
    refine jMb (a':=?_) ?_ ?_
    rotate_left
    ·show Act.put _ (some 28) _=_
     simp only [Act.put,List.setIfInBounds_toArray,List.set_cons_zero,List.set_cons_succ,jqb,jub]
     rfl
    refine last_ (i:=10) (N:=none) #[true,true,true,true,true,true,true,true,true,true,true] rfl rfl (jZa HT_.out (by kernel_rfl)) (by decide) (fun K hK=>?_)
    have hs32:w30.cell? ⟨gb336,0,none⟩=some (.slice Ao22 x337000_1.length co22):=(jH BK336.out 0).trans rfl
    have hfs32:=jc BK336.out 0
    have hns32_0:=NB331_336.out
    have hns32_1:=NB332_336.out
    have hms32_0:=NB336_331.out
    have hms32_1:=NB336_332.out
    refine jUb (w1:=?_) (by rfl) rfl ?_ ?_
    rotate_left
    ·go_simp
     rfl
    refine hK.out _ _ ?_
    clear hK K
    refine jgc (jNb HT_.out (by kernel_rfl)) ?_
    try go_wp2
    go_roundg k1
    case measure=>have:=HK1.out;omega
    case rel=>exact ⟨(wrap64 (x6_1 - 1)),(t348),(t349),(.slice Ao31 t349.length co31),(sq),H',⟨by have:=HK1.out;omega⟩,⟨by (with_reducible repeat (first | apply Kd.jO | apply Kd.jQ | apply Kd.jM));exact Kd.jE (Kd.jX (p:=⟨gb336,0,none⟩) (Kd.jN HO351.out BK336.out (by decide)) (fun _ hk=>hk.2) (.slice Ao31 t349.length co31)) (fun _ hk=>trivial)⟩,⟨by (with_reducible repeat (first | refine je ?_ _ | refine jg ?_ | refine jf ?_ _));refine jJ ?_ NB331_336.out _;(with_reducible repeat (first | refine je ?_ _ | refine jg ?_ | refine jf ?_ _));exact BK331.out⟩,⟨by (with_reducible repeat (first | refine je ?_ _ | refine jg ?_ | refine jf ?_ _));refine jJ ?_ NB332_336.out _;(with_reducible repeat (first | refine je ?_ _ | refine jg ?_ | refine jf ?_ _));exact BK332.out⟩,⟨by (with_reducible repeat (first | refine je ?_ _ | refine jg ?_ | refine jf ?_ _));refine jla (cs:=#[.slice Ao22 x337000_1.length co22]) ?_ 0 _ rfl;(with_reducible repeat (first | refine je ?_ _ | refine jg ?_ | refine jf ?_ _));exact BK336.out⟩,⟨Y3⟩,⟨Y6⟩,⟨Y8⟩⟩
   ·rw [if_neg c18] at H
    have c18b0:decide (0<x6_1)=false:=dzF c18
    clear c18
    obtain ⟨y352,hy352⟩:∃ y_:List Int,y_=(([3,4,2,5,0]:List Int)):=⟨_,rfl⟩
    replace H:((jy.f k1 s0_0 x1001_1 y352).bind fun bt355=>(jr.l1 k1 bt355.1 s0_0 bt355.2 x337000_1))=some (r1,r2):=by first |(rw [hy352];with_reducible exact H) |(have H2_:=(Option.bind_some _ _).symm.trans H;rw [hy352];with_reducible exact H2_) |(have H2_:=(Option.bind_some _ _).symm.trans H;with_reducible exact H2_) | with_reducible exact H |(rw [hy352];exact H) | exact H
    have Ny352:=am hy352
    clear hy352
    replace H:=bzS H
    obtain ⟨⟨t355,t356⟩,A330,H⟩:=H
    replace H:(jr.l1 k1 t355 s0_0 t356 x337000_1)=some (r1,r2):=H
    have A33:=am A330
    clear A330
    have H':=am H
    clear H
    go_wp2_with (first |((with_reducible refine jI (N:=30) rfl ?_);(try (refine jVa (by rfl) ?_;dsimp only));refine Kd.R_lit (Kd.int .i64) _ 3 ?hg (N:=30) ?hd (xs:=([3,4,2,5,0]:List Int)) (inner:=[.int .i64 3, .int .i64 4, .int .i64 2, .int .i64 5, .int .i64 0]) (ok:=fun _=>True) (okp:=fun _=>True) ?hr ?hp (fun _ hk=>hk) trivial (Below.refl _ _) (Nat.le_refl _) (by simp) ?_;(case hd=>rfl);(case hg=>rfl);(case hr=>exact Y4);(case hp=>exact (Reps.one (show Kd.M (Kd.int .i64) _ _ _ 3 [.int .i64 3] from rfl) (Reps.one (show Kd.M (Kd.int .i64) _ _ _ 4 [.int .i64 4] from rfl) (Reps.one (show Kd.M (Kd.int .i64) _ _ _ 2 [.int .i64 2] from rfl) (Reps.one (show Kd.M (Kd.int .i64) _ _ _ 5 [.int .i64 5] from rfl) (Reps.one (show Kd.M (Kd.int .i64) _ _ _ 0 [.int .i64 0] from rfl) (Reps.none _ _)))))));intro v353 w34 ho35 hb hg_ hnew_;clear hg_ hnew_;(first | rw [← Ny352.out] at ho35 |(simp only [Int.reduceToNat] at ho35;rw [← Ny352.out] at ho35));have HO354:=am (Kd.jea ho35 (jda (w:=w) (g:=g) (row:=none) (Y6)));replace HO_337000:=am (Kd.jaa (rq HO_337000.out) hb);replace BK331:=am (jh (g:=gb331) (o:=.cells #[.slice A1_0 l1_0.length c1_0] 37 (0,0)) (kq BK331.out) hb);replace BK332:=am (jh (g:=gb332) (o:=.cells #[.slice none 0 0] 32 (0,0)) (kq BK332.out) hb);replace BK336:=am (jh (g:=gb336) (o:=.cells #[u337000] 32 (0,0)) (kq BK336.out) hb);replace HK:=am (jd.trans (Y6) (jd.of_below hb g none) (.inl rfl));replace HB:=am (jk (Y8) hb);replace HI0:=am (jb.below (Y3) hb);clear hb ho35;obtain ⟨Ao36,co36,eo36⟩:=Kd.jW HO354.out;subst eo36) |((with_reducible refine jB (f:=89) rfl ?_);refine gL (some 31) Try.func89 #[.pointer (some ⟨g,0,none⟩), .slice Ao36 y352.length co36] ?_;(with_reducible refine (jy.calls k1 g s0_0 x1001_1 _ _ y352 t355 t356 w0 _ ?side1 ?side2 ?side3 ?side4 ?side5 A33.out).mono ?_);(case side1=>exact Y3);(case side2=>exact Y8);(case side3=>exact cq (Kd.jw HO354.out).2.2);(case side4=>exact (Kd.jw HO354.out).2.1);(case side5=>exact jwb (jb.own_ne HI0.out HO354.out (by decide)));rintro e w37 ⟨rfl,hi,hb,hk⟩;refine ⟨_,rfl,?_⟩;replace HO_337000:=am (Kd.jE (Kd.jqa (jb.apart (show jb w0 _ g s0_0 x1001_1 from Y3) (rq HO_337000.out) (by decide)) hk (fun _ h=>h.2)) (fun _ h=>h.1));replace BK331:=am (jd.blk hk (g':=gb331) (o:=.cells #[.slice A1_0 l1_0.length c1_0] 37 (0,0)) (kq BK331.out) NB331_0.out (by simp));replace BK332:=am (jd.blk hk (g':=gb332) (o:=.cells #[.slice none 0 0] 32 (0,0)) (kq BK332.out) NB332_0.out (by simp));replace BK336:=am (jd.blk hk (g':=gb336) (o:=.cells #[u337000] 32 (0,0)) (kq BK336.out) NB336_0.out (by simp));replace HO354:=am (Kd.jE (Kd.jqa (jb.apart (show jb w0 _ g s0_0 x1001_1 from Y3) (rq HO354.out) (by decide)) hk (fun _ h=>h.2)) (fun _ h=>h.1));replace HK:=am (jd.trans (Y6) hk (.inl rfl));replace HB:=am (hb);replace HI0:=am (hi);(try clear hb);(try clear hb2);(try clear hk);(try clear hi)))
    go_loopg [7] k1 (fun kq v7 w'=>∃ (x7_2:Int) (x1001_2:Int) (x337000_2:List (S54)) (u337000:Value),v7=.int .i64 x7_2∧jC (jr.l1 kq x7_2 s0_0 x1001_2 x337000_2=some (r1,r2))∧jC (kq≤k1)∧jC (Kd.R k54 54 w' w.heap.size (fun _=>True) u337000 x337000_2)∧jC (w'.heap[gb331]?=some (.cells #[(.slice A1_0 l1_0.length c1_0)] 37 (0,0)))∧jC (w'.heap[gb332]?=some (.cells #[(.slice none 0 0)] 32 (0,0)))∧jC (w'.heap[gb336]?=some (.cells #[u337000] 32 (0,0)))∧jC (jb w0 w' g s0_0 x1001_2)∧jC (jd w w' g none)∧jC (Below w0.heap.size w0 w'))
    case atStart=>exact ⟨(t355),(t356),(x337000_1),(u337000),(sq),H',⟨Nat.le_refl _⟩,⟨rq HO_337000.out⟩,⟨kq BK331.out⟩,⟨kq BK332.out⟩,⟨kq BK336.out⟩,⟨Y3⟩,⟨Y6⟩,⟨Y8⟩⟩
    case round =>
     clear H'
     try clear c1
     try clear p2
     try clear c6
     try clear p6
     try clear c8
     try clear c9
     try clear c10
     try clear c11
     try clear c12
     try clear c18
     try clear c18b0
     try clear hcz13_0
     try clear hfz13_0
     try clear p2
     obtain ⟨x7_2,x1001_2,x337000_2,u337000,rfl,HA,HK2,HO_337000,BK331,BK332,BK336,HI0,HK,HB⟩:=hrel
     cases gk with
     | zero=>exact absurd HA.out (by simp [jr.l1])
     | succ k2 =>
      have H:=HA.out
      clear HA
      simp only [jr.l1] at H
      have HC38:=am H
      clear H
      go_upto_region 7 with (fail)
      go_cut [39] (fun v39 wc=>∃ (kq:Nat) (x39_37:Bool),v39=.bool x39_37∧jC (jr.j2 kq x7_2 x39_37 s0_0 x1001_2 x337000_2=some (r1,r2))∧jC (kq≤k2)∧jC (Kd.R k54 54 wc w.heap.size (fun _=>True) u337000 x337000_2)∧jC (wc.heap[gb331]?=some (.cells #[(.slice A1_0 l1_0.length c1_0)] 37 (0,0)))∧jC (wc.heap[gb332]?=some (.cells #[(.slice none 0 0)] 32 (0,0)))∧jC (wc.heap[gb336]?=some (.cells #[u337000] 32 (0,0)))∧jC (jb w0 wc g s0_0 x1001_2)∧jC (jd w wc g none)∧jC (Below w0.heap.size w0 wc))
      case first =>
       have H:=HC38.out
       clear HC38
       by_cases c39:x7_2 > 0
       ·rw [if_pos c39] at H
        have c39b0:decide (0<x7_2)=true:=dzT c39
        clear c39
        (first | rw [c39b0] |(simp only [jqb,jub];rw [c39b0]) | skip)
        have H':=am H
        clear H
        have hnb40:=NB336_331.out
        have hnc40:=NB331_336.out
        have hnb41:=NB336_332.out
        have hnc41:=NB332_336.out
        have hnb42:=NB336_0.out
        have hnc42:=NB0_336.out
        have hcz43_0:=bc0 BK336.out
        have hfz43_0:=jc BK336.out 0
        obtain ⟨Ao44,co44,eo44⟩:=Kd.jW HO_337000.out
        subst eo44
        go_wp2
        go_meet
        case rel=>exact ⟨_,(decide ((x337000_2.length:Int) > 1)),(sq),H',⟨by have:=HK1.out;have:=HK2.out;first | omega | exact Nat.le_refl _⟩,⟨rq HO_337000.out⟩,⟨kq BK331.out⟩,⟨kq BK332.out⟩,⟨kq BK336.out⟩,⟨Y3⟩,⟨Y6⟩,⟨Y8⟩⟩
       ·rw [if_neg c39] at H
        have c39b0:decide (0<x7_2)=false:=dzF c39
        clear c39
        (first | rw [c39b0] |(simp only [jqb,jub];rw [c39b0]) | skip)
        have H':=am H
        clear H
        go_wp2
        go_meet
        case rel=>exact ⟨_,(false),(sq),H',⟨by have:=HK1.out;have:=HK2.out;first | omega | exact Nat.le_refl _⟩,⟨rq HO_337000.out⟩,⟨kq BK331.out⟩,⟨kq BK332.out⟩,⟨kq BK336.out⟩,⟨Y3⟩,⟨Y6⟩,⟨Y8⟩⟩
      case rest =>
       clear HC38
       try clear c1
       try clear p2
       try clear c3
       try clear c4
       try clear c6
       try clear p6
       try clear c8
       try clear c9
       try clear c10
       try clear c11
       try clear c12
       try clear c18
       try clear c18b0
       try clear c39
       try clear c39b0
       try clear c40
       try clear c41
       try clear c42
       try clear hcz13_0
       try clear hcz43_0
       try clear hfz13_0
       try clear hfz43_0
       try clear p2
       try clear p6
       obtain ⟨kq,x39_37,rfl,HA,HJ37,HO_337000,BK331,BK332,BK336,HI0,HK,HB⟩:=hcut
       cases kq with
       | zero=>exact absurd HA.out (by simp [jr.j2])
       | succ kj37 =>
        have H:=HA.out
        clear HA
        simp only [jr.j2] at H
        by_cases c45:x39_37=true
        ·subst c45
         have H1:((jl.f kj37 s0_0 x1001_2 (x337000_2.length:Int)).bind fun bt357=>((jl.f kj37 s0_0 bt357.2 (x337000_2.length:Int)).bind fun bt359=>(if bt357.1=bt359.1 then (if 0≤bt357.1 then (if bt357.1<(x337000_2.length:Int) then (jr.l1 kj37 (wrap64 (x7_2 - 1)) s0_0 bt359.2 (x337000_2.set (bt357.1:Int).toNat (⟨(ja x337000_2 bt357.1).f0,(ja x337000_2 bt357.1).f1,(ja x337000_2 bt357.1).f2,(ja x337000_2 bt357.1).f3,!((ja x337000_2 bt357.1).f4)⟩:S54))) else (none)) else (none)) else ((jl.f kj37 s0_0 bt359.2 3).bind fun bt363=>(if bt363.1=0 then (if 0≤bt357.1 then (if bt357.1<(x337000_2.length:Int) then ((some (x337000_2.set (bt357.1:Int).toNat (⟨(ja x337000_2 bt357.1).f0,(ja x337000_2 bt357.1).f1,bt359.1,(ja x337000_2 bt357.1).f3,(ja x337000_2 bt357.1).f4⟩:S54):List (S54))).bind fun y365=>(jr.l1 kj37 (wrap64 (x7_2 - 1)) s0_0 bt363.2 (y365.set (bt357.1:Int).toNat (⟨(ja y365 bt357.1).f0,(ja y365 bt357.1).f1,(ja y365 bt357.1).f2,(ja y365 bt357.1).f3,true⟩:S54)))) else (none)) else (none)) else ((jia.f kj37 x337000_2 bt357.1 bt359.1).bind fun t367=>(jr.l1 kj37 (wrap64 (x7_2 - 1)) s0_0 bt363.2 t367)))))))=some (r1,r2):=by rw [if_pos rfl] at H;exact H
         clear H
         have H:=H1
         clear H1
         replace H:=bzS H
         obtain ⟨⟨t357,t358⟩,A460,H⟩:=H
         replace H:((jl.f kj37 s0_0 t358 (x337000_2.length:Int)).bind fun bt359=>(if t357=bt359.1 then (if 0≤t357 then (if t357<(x337000_2.length:Int) then (jr.l1 kj37 (wrap64 (x7_2 - 1)) s0_0 bt359.2 (x337000_2.set (t357:Int).toNat (⟨(ja x337000_2 t357).f0,(ja x337000_2 t357).f1,(ja x337000_2 t357).f2,(ja x337000_2 t357).f3,!((ja x337000_2 t357).f4)⟩:S54))) else (none)) else (none)) else ((jl.f kj37 s0_0 bt359.2 3).bind fun bt363=>(if bt363.1=0 then (if 0≤t357 then (if t357<(x337000_2.length:Int) then ((some (x337000_2.set (t357:Int).toNat (⟨(ja x337000_2 t357).f0,(ja x337000_2 t357).f1,bt359.1,(ja x337000_2 t357).f3,(ja x337000_2 t357).f4⟩:S54):List (S54))).bind fun y365=>(jr.l1 kj37 (wrap64 (x7_2 - 1)) s0_0 bt363.2 (y365.set (t357:Int).toNat (⟨(ja y365 t357).f0,(ja y365 t357).f1,(ja y365 t357).f2,(ja y365 t357).f3,true⟩:S54)))) else (none)) else (none)) else ((jia.f kj37 x337000_2 t357 bt359.1).bind fun t367=>(jr.l1 kj37 (wrap64 (x7_2 - 1)) s0_0 bt363.2 t367))))))=some (r1,r2):=H
         have A46:=am A460
         clear A460
         replace H:=bzS H
         obtain ⟨⟨t359,t360⟩,A470,H⟩:=H
         replace H:(if t357=t359 then (if 0≤t357 then (if t357<(x337000_2.length:Int) then (jr.l1 kj37 (wrap64 (x7_2 - 1)) s0_0 t360 (x337000_2.set (t357:Int).toNat (⟨(ja x337000_2 t357).f0,(ja x337000_2 t357).f1,(ja x337000_2 t357).f2,(ja x337000_2 t357).f3,!((ja x337000_2 t357).f4)⟩:S54))) else (none)) else (none)) else ((jl.f kj37 s0_0 t360 3).bind fun bt363=>(if bt363.1=0 then (if 0≤t357 then (if t357<(x337000_2.length:Int) then ((some (x337000_2.set (t357:Int).toNat (⟨(ja x337000_2 t357).f0,(ja x337000_2 t357).f1,t359,(ja x337000_2 t357).f3,(ja x337000_2 t357).f4⟩:S54):List (S54))).bind fun y365=>(jr.l1 kj37 (wrap64 (x7_2 - 1)) s0_0 bt363.2 (y365.set (t357:Int).toNat (⟨(ja y365 t357).f0,(ja y365 t357).f1,(ja y365 t357).f2,(ja y365 t357).f3,true⟩:S54)))) else (none)) else (none)) else ((jia.f kj37 x337000_2 t357 t359).bind fun t367=>(jr.l1 kj37 (wrap64 (x7_2 - 1)) s0_0 bt363.2 t367)))))=some (r1,r2):=H
         have A47:=am A470
         clear A470
         by_cases c48:t357=t359
         ·rw [if_pos c48] at H
          have c48b0:(t357 == t359)=true:=beq_iff_eq.mpr c48
          have c48b1:(t357 != t359)=false:=bne_eq_false_iff_eq.mpr c48
          clear c48
          by_cases c49:0≤t357
          ·rw [if_pos c49] at H
           have c49b0:decide (0≤t357)=true:=dzT c49
           clear c49
           by_cases c50:t357<(x337000_2.length:Int)
           ·rw [if_pos c50] at H
            have c50b0:decide (t357<(x337000_2.length:Int))=true:=dzT c50
            clear c50
            obtain ⟨y362,hy362⟩:∃ y_:List (S54),y_=(x337000_2.set (t357:Int).toNat (⟨(ja x337000_2 t357).f0,(ja x337000_2 t357).f1,(ja x337000_2 t357).f2,(ja x337000_2 t357).f3,!((ja x337000_2 t357).f4)⟩:S54)):=⟨_,rfl⟩
            replace H:(jr.l1 kj37 (wrap64 (x7_2 - 1)) s0_0 t360 y362)=some (r1,r2):=by first |(rw [hy362];with_reducible exact H) |(have H2_:=(Option.bind_some _ _).symm.trans H;rw [hy362];with_reducible exact H2_) |(have H2_:=(Option.bind_some _ _).symm.trans H;with_reducible exact H2_) | with_reducible exact H |(rw [hy362];exact H) | exact H
            have Ny362:=am hy362
            clear hy362
            have H':=am H
            clear H
            have hnb52:=NB336_331.out
            have hnc52:=NB331_336.out
            have hnb53:=NB336_332.out
            have hnc53:=NB332_336.out
            have hnb54:=NB336_0.out
            have hnc54:=NB0_336.out
            have hcz55_0:=bc0 BK336.out
            have hfz55_0:=jc BK336.out 0
            obtain ⟨Ao56,co56,eo56⟩:=Kd.jW HO_337000.out
            subst eo56
            try go_wp2_with (first |((with_reducible refine jB (f:=88) rfl ?_);refine gL (some 46) Try.func88 #[.pointer (some ⟨g,0,none⟩), .int .i64 (x337000_2.length:Int)] ?_;(with_reducible refine (jl.calls kj37 g s0_0 x1001_2 (x337000_2.length:Int) t357 t358 w0 _ ?side1 ?side2 A46.out).mono ?_);(case side1=>exact Y3);(case side2=>exact Y8);rintro e w57 ⟨rfl,hi,hb,hk⟩;refine ⟨_,rfl,?_⟩;replace HO_337000:=am (Kd.jE (Kd.jqa (jb.apart (show jb w0 _ g s0_0 x1001_2 from Y3) (rq HO_337000.out) (by decide)) hk (fun _ h=>h.2)) (fun _ h=>h.1));replace BK331:=am (jd.blk hk (g':=gb331) (o:=.cells #[.slice A1_0 l1_0.length c1_0] 37 (0,0)) (kq BK331.out) NB331_0.out (by simp));replace BK332:=am (jd.blk hk (g':=gb332) (o:=.cells #[.slice none 0 0] 32 (0,0)) (kq BK332.out) NB332_0.out (by simp));replace BK336:=am (jd.blk hk (g':=gb336) (o:=.cells #[.slice Ao56 x337000_2.length co56] 32 (0,0)) (kq BK336.out) NB336_0.out (by simp));replace HK:=am (jd.trans (Y6) hk (.inl rfl));replace HB:=am (hb);replace HI0:=am (hi);(try clear hb);(try clear hb2);(try clear hk);(try clear hi);have hcz58_0:=bc0 BK336.out;have hfz58_0:=jc BK336.out 0) |((with_reducible refine jB (f:=88) rfl ?_);refine gL (some 51) Try.func88 #[.pointer (some ⟨g,0,none⟩), .int .i64 (x337000_2.length:Int)] ?_;(with_reducible refine (jl.calls kj37 g s0_0 t358 (x337000_2.length:Int) t359 t360 w0 _ ?side1 ?side2 A47.out).mono ?_);(case side1=>exact Y3);(case side2=>exact Y8);rintro e w59 ⟨rfl,hi,hb,hk⟩;refine ⟨_,rfl,?_⟩;replace HO_337000:=am (Kd.jE (Kd.jqa (jb.apart (show jb w0 _ g s0_0 t358 from Y3) (rq HO_337000.out) (by decide)) hk (fun _ h=>h.2)) (fun _ h=>h.1));replace BK331:=am (jd.blk hk (g':=gb331) (o:=.cells #[.slice A1_0 l1_0.length c1_0] 37 (0,0)) (kq BK331.out) NB331_0.out (by simp));replace BK332:=am (jd.blk hk (g':=gb332) (o:=.cells #[.slice none 0 0] 32 (0,0)) (kq BK332.out) NB332_0.out (by simp));replace BK336:=am (jd.blk hk (g':=gb336) (o:=.cells #[.slice Ao56 x337000_2.length co56] 32 (0,0)) (kq BK336.out) NB336_0.out (by simp));replace HK:=am (jd.trans (Y6) hk (.inl rfl));replace HB:=am (hb);replace HI0:=am (hi);(try clear hb);(try clear hb2);(try clear hk);(try clear hi)))
            replace HO_337000:=am (Kd.jM HO_337000.out)
            replace BK331:=am (jg BK331.out)
            replace BK332:=am (jg BK332.out)
            replace BK336:=am (jg BK336.out)
            replace HI0:=am (jb.drew HI0.out)
            replace HK:=am (jZ HK.out)
            replace HB:=am (jv HB.out)
            have p361:0≤(t357:Int):=ozD (uq)
            have q361:t357<(x337000_2.length:Int):=ozD (uq)
            obtain ⟨ad361,e361,hx361_0,hx361_1,hx361_2,hx361_3,hx361_4⟩:=jvb (Kd.jw HO_337000.out).2.2 t357 p361 q361
            cases e361
            replace p361:=ezT p361
            replace q361:=ezT q361
            have p51:0≤(t357:Int):=ozD (uq)
            have q51:(t357:Int)<((x337000_2.length:Int):Int):=ozD (uq)
            obtain ⟨go51,co51,eo51,gb51,gl51,cl51,HG51⟩:=Kd.R_form HO_337000.out (by omega)
            (first | cases eo51 |(injection eo51 with ea_ en_ ec_;(first | subst ea_ |(injection ea_ with ea_;subst ea_));subst ec_;clear en_))
            have GB51:=am gb51
            have GG51:=am HG51
            clear gb51 gl51 HG51
            (first | simp only [add_plain] at hx361_0 | skip)
            (first | simp only [add_plain] at hx361_1 | skip)
            (first | simp only [add_plain] at hx361_2 | skip)
            (first | simp only [add_plain] at hx361_3 | skip)
            (first | simp only [add_plain] at hx361_4 | skip)
            obtain ⟨ce51,hcl51,hM51,hcc51,hfr51⟩:=Kd.jzb HO_337000.out z54 (t357:Int) p51 q51
            obtain rfl:=jUa hM51
            have hx51_0:World.cell? _ ⟨go51,(t357:Int).toNat * 5,none⟩=some (.int .i64 ((ja x337000_2 t357).f0)):=hcc51 0 _ rfl
            have hx51_1:World.cell? _ ⟨go51,(t357:Int).toNat * 5+1,none⟩=some (.int .i64 ((ja x337000_2 t357).f1)):=hcc51 1 _ rfl
            have hx51_2:World.cell? _ ⟨go51,(t357:Int).toNat * 5+2,none⟩=some (.int .i64 ((ja x337000_2 t357).f2)):=hcc51 2 _ rfl
            have hx51_3:World.cell? _ ⟨go51,(t357:Int).toNat * 5+3,none⟩=some (.int .i64 ((ja x337000_2 t357).f3)):=hcc51 3 _ rfl
            have hx51_4:World.cell? _ ⟨go51,(t357:Int).toNat * 5+4,none⟩=some (.bool ((ja x337000_2 t357).f4)):=hcc51 4 _ rfl
            have hf51_0:World.frozen? _ ⟨go51,(t357:Int).toNat * 5,none⟩=false:=hfr51 0
            have hf51_1:World.frozen? _ ⟨go51,(t357:Int).toNat * 5+1,none⟩=false:=hfr51 1
            have hf51_2:World.frozen? _ ⟨go51,(t357:Int).toNat * 5+2,none⟩=false:=hfr51 2
            have hf51_3:World.frozen? _ ⟨go51,(t357:Int).toNat * 5+3,none⟩=false:=hfr51 3
            have hf51_4:World.frozen? _ ⟨go51,(t357:Int).toNat * 5+4,none⟩=false:=hfr51 4
            clear hcl51 hcc51 hfr51 hM51
            replace p51:=ezT p51
            replace q51:=ezT q51
            have HN0_go51:=am (show g≠go51 from by have h_:=jb.own_ne HI0.out HO_337000.out (by decide);intro e_;exact h_ (by rw [e_];rfl))
            obtain ⟨ce61,hcl61,hM61,hcc61,hfr61⟩:=Kd.jzb HO_337000.out z54 (t357:Int) (ozD (uq)) (by have h_:(t357:Int)<((x337000_2.length:Int):Int):=ozD (uq);first | exact h_ |(have e_:=(Kd.jw HO_337000.out).1;omega) | simpa using h_)
            obtain rfl:=jUa hM61
            have HP61:=(Kd.R_seg HO_337000.out (t357:Int) (ozD (uq)) (by have h_:(t357:Int)<((x337000_2.length:Int):Int):=ozD (uq);first | exact h_ |(have e_:=(Kd.jw HO_337000.out).1;omega) | simpa using h_) (seg:=[.bool (!((ja x337000_2 t357).f4))]) (j:=4) hcl61 hcc61 (show 5≤5 from by decide) (x':=(⟨(ja x337000_2 t357).f0,(ja x337000_2 t357).f1,(ja x337000_2 t357).f2,(ja x337000_2 t357).f3,!((ja x337000_2 t357).f4)⟩:S54)) (jZb _ _ _ (⟨(ja x337000_2 t357).f0,(ja x337000_2 t357).f1,(ja x337000_2 t357).f2,(ja x337000_2 t357).f3,!((ja x337000_2 t357).f4)⟩:S54) ) (fun _ hk=>hk)).1
            rw [← Ny362.out] at HP61
            have HQ61:=am HP61
            clear hcl61 hcc61 hfr61 hM61 HP61
            refine jHb (n:=13) (S:=fun w'=>w'.cell? ⟨gb336,0,none⟩=some (.slice (some ⟨go51,0,none⟩) x337000_2.length co56)∧w'.cell? ⟨go51,((t357).toNat * 5),none⟩=some (.int .i64 ((ja x337000_2 t357).f0))∧w'.cell? ⟨go51,((t357).toNat * 5)+1,none⟩=some (.int .i64 ((ja x337000_2 t357).f1))∧w'.cell? ⟨go51,((t357).toNat * 5)+2,none⟩=some (.int .i64 ((ja x337000_2 t357).f2))∧w'.cell? ⟨go51,((t357).toNat * 5)+3,none⟩=some (.int .i64 ((ja x337000_2 t357).f3))∧w'.cell? ⟨go51,((t357).toNat * 5)+4,none⟩=some (.bool ((ja x337000_2 t357).f4))) (ds:=[12]) #[false,false,false,false,false,false,false,false,false,false,false,false,false] (by kernel_rfl) rfl rfl ⟨(jH BK336.out 0).trans rfl,hx361_0,hx361_1,hx361_2,hx361_3,hx361_4⟩ (fun hHeld=>?_);refine jnb jr.tab13 jr.bits13 (fun HT_ HW_=>?_)
            generalize w59.drew=w60 at HO_337000 BK331 BK332 BK336 HI0 HK HB GG51 HQ61 hf51_0 hf51_1 hf51_2 hf51_3 hf51_4 hx361_0 hx361_1 hx361_2 hx361_3 hx361_4 hx51_0 hx51_1 hx51_2 hx51_3 hx51_4 hHeld ⊢
            refine pq (i:=0) (N:=some 60) #[true,false,false,false,false,false,false,false,false,false,false,false,false] ?_
            refine pq (i:=2) (N:=some 62) #[true,false,true,false,false,false,false,false,false,false,false,false,false] ?_
            refine pq (i:=3) (N:=some 63) #[true,false,true,true,false,false,false,false,false,false,false,false,false] ?_
            refine pq (i:=5) (N:=some 65) #[true,false,true,true,false,true,false,false,false,false,false,false,false] ?_
            refine job (i:=1) (N:=some 61) (v:=?_) (a':=?_) #[true,true,true,true,false,true,false,false,false,false,false,false,false] rfl rfl (jLa HT_.out HW_.out (by kernel_rfl)) (fun _ _ _ h=>h) (Or.inl ⟨by rfl,?_⟩) hHeld ?_ ?_
            rotate_left
            ·rintro w' ⟨s0,s1,s2,s3,s4,s5⟩
             go_simp
             with_reducible rfl
            rotate_left
            ·exact sa
            refine job (i:=4) (N:=some 64) (v:=?_) (a':=?_) #[true,true,true,true,true,true,false,false,false,false,false,false,false] rfl rfl (jLa HT_.out HW_.out (by kernel_rfl)) (fun _ _ _ h=>h) (Or.inl ⟨by rfl,?_⟩) hHeld ?_ ?_
            rotate_left
            ·rintro w' ⟨s0,s1,s2,s3,s4,s5⟩
             go_simp
             with_reducible rfl
            rotate_left
            ·exact sa
            refine pq (i:=6) (N:=some 66) #[true,true,true,true,true,true,true,false,false,false,false,false,false] ?_
            refine pq (i:=7) (N:=some 67) #[true,true,true,true,true,true,true,true,false,false,false,false,false] ?_
            refine job (i:=8) (N:=some 68) (v:=?_) (a':=?_) #[true,true,true,true,true,true,true,true,true,false,false,false,false] rfl rfl (jLa HT_.out HW_.out (by kernel_rfl)) (fun _ _ _ h=>h) (Or.inl ⟨by rfl,?_⟩) hHeld ?_ ?_
            rotate_left
            ·rintro w' ⟨s0,s1,s2,s3,s4,s5⟩
             go_simp
             with_reducible rfl
            rotate_left
            ·exact sa
            refine pq (i:=9) (N:=some 69) #[true,true,true,true,true,true,true,true,true,true,false,false,false] ?_
            refine pq (i:=10) (N:=some 70) #[true,true,true,true,true,true,true,true,true,true,true,false,false] ?_
            refine pq (i:=11) (N:=some 71) #[true,true,true,true,true,true,true,true,true,true,true,true,false] ?_
            refine last_ (i:=12) (N:=none) #[true,true,true,true,true,true,true,true,true,true,true,true,true] rfl rfl (jZa HT_.out (by kernel_rfl)) (by decide) (fun K hK=>?_)
            refine jUb (w1:=?_) (by rfl) rfl ?_ ?_
            rotate_left
            ·go_simp
             rfl
            refine hK.out _ _ ?_
            clear hK K
            refine jgc (jNb HT_.out (by kernel_rfl)) ?_
            try go_wp2
            go_roundg kj37
            case measure=>have:=HK1.out;have:=HK2.out;have:=HJ37.out;omega
            case rel=>exact ⟨(wrap64 (x7_2 - 1)),(t360),(y362),(.slice (some ⟨go51,0,none⟩) x337000_2.length co56),(sq),H',⟨by have:=HK1.out;have:=HK2.out;have:=HJ37.out;omega⟩,⟨rq HQ61.out⟩,⟨by (with_reducible repeat (first | refine je ?_ _ | refine jg ?_ | refine jf ?_ _));refine jJ ?_ (by have h_:=Kd.R_ne HO_337000.out BK331.out (by decide);intro e_;exact h_ (by rw [e_];rfl)) _;(with_reducible repeat (first | refine je ?_ _ | refine jg ?_ | refine jf ?_ _));exact BK331.out⟩,⟨by (with_reducible repeat (first | refine je ?_ _ | refine jg ?_ | refine jf ?_ _));refine jJ ?_ (by have h_:=Kd.R_ne HO_337000.out BK332.out (by decide);intro e_;exact h_ (by rw [e_];rfl)) _;(with_reducible repeat (first | refine je ?_ _ | refine jg ?_ | refine jf ?_ _));exact BK332.out⟩,⟨by (with_reducible repeat (first | refine je ?_ _ | refine jg ?_ | refine jf ?_ _));refine jJ ?_ (by have h_:=Kd.R_ne HO_337000.out BK336.out (by decide);intro e_;exact h_ (by rw [e_];rfl)) _;(with_reducible repeat (first | refine je ?_ _ | refine jg ?_ | refine jf ?_ _));exact BK336.out⟩,⟨by repeat (first |(with_reducible first | exact HI0.out | apply jb.alloc | apply jb.drewN | apply jb.drew | apply jb.jhb | refine jb.far ?_ HN0_go51.out _ | refine jb.far ?_ NB0_331.out _ | refine jb.far ?_ NB0_332.out _ | refine jb.far ?_ NB0_336.out _) | exact HI0.out)⟩,⟨by repeat (first |(with_reducible first | exact HK.out | apply jd.set_ | apply jma | apply jZ | apply jna | refine jP ?_ GB51.out _ | refine jP ?_ GW331.out _ | refine jP ?_ GW332.out _ | refine jP ?_ GW336.out _) | exact HK.out)⟩,⟨by repeat (first |(with_reducible first | exact HB.out | apply jA | apply jq | apply jv | refine jm ?_ (Nat.le_trans HL.out GB51.out) | refine jm ?_ (jb.ge HI0.out) | refine jm ?_ GE331.out | refine jm ?_ GE332.out | refine jm ?_ GE336.out) | exact HB.out)⟩⟩
           ·rw [if_neg c50] at H
            exact absurd H (by simp)
          ·rw [if_neg c49] at H
           exact absurd H (by simp)
         ·rw [if_neg c48] at H
          have c48b0:(t357 == t359)=false:=beq_eq_false_iff_ne.mpr c48
          have c48b1:(t357 != t359)=true:=bne_iff_ne.mpr c48
          replace H:=bzS H
          obtain ⟨⟨t363,t364⟩,A620,H⟩:=H
          replace H:(if t363=0 then (if 0≤t357 then (if t357<(x337000_2.length:Int) then ((some (x337000_2.set (t357:Int).toNat (⟨(ja x337000_2 t357).f0,(ja x337000_2 t357).f1,t359,(ja x337000_2 t357).f3,(ja x337000_2 t357).f4⟩:S54):List (S54))).bind fun y365=>(jr.l1 kj37 (wrap64 (x7_2 - 1)) s0_0 t364 (y365.set (t357:Int).toNat (⟨(ja y365 t357).f0,(ja y365 t357).f1,(ja y365 t357).f2,(ja y365 t357).f3,true⟩:S54)))) else (none)) else (none)) else ((jia.f kj37 x337000_2 t357 t359).bind fun t367=>(jr.l1 kj37 (wrap64 (x7_2 - 1)) s0_0 t364 t367)))=some (r1,r2):=H
          have A62:=am A620
          clear A620
          by_cases c63:t363=0
          ·rw [if_pos c63] at H
           have c63b0:(t363 == 0)=true:=beq_iff_eq.mpr c63
           have c63b1:(t363 != 0)=false:=bne_eq_false_iff_eq.mpr c63
           clear c63
           by_cases c64:0≤t357
           ·rw [if_pos c64] at H
            have c64b0:decide (0≤t357)=true:=dzT c64
            clear c64
            by_cases c65:t357<(x337000_2.length:Int)
            ·rw [if_pos c65] at H
             have c65b0:decide (t357<(x337000_2.length:Int))=true:=dzT c65
             clear c65
             obtain ⟨y365,hy365⟩:∃ y_:List (S54),y_=(x337000_2.set (t357:Int).toNat (⟨(ja x337000_2 t357).f0,(ja x337000_2 t357).f1,t359,(ja x337000_2 t357).f3,(ja x337000_2 t357).f4⟩:S54)):=⟨_,rfl⟩
             replace H:(jr.l1 kj37 (wrap64 (x7_2 - 1)) s0_0 t364 (y365.set (t357:Int).toNat (⟨(ja y365 t357).f0,(ja y365 t357).f1,(ja y365 t357).f2,(ja y365 t357).f3,true⟩:S54)))=some (r1,r2):=by first |(rw [hy365];with_reducible exact H) |(have H2_:=(Option.bind_some _ _).symm.trans H;rw [hy365];with_reducible exact H2_) |(have H2_:=(Option.bind_some _ _).symm.trans H;with_reducible exact H2_) | with_reducible exact H |(rw [hy365];exact H) | exact H
             have Ny365:=am hy365
             clear hy365
             obtain ⟨y366,hy366⟩:∃ y_:List (S54),y_=(y365.set (t357:Int).toNat (⟨(ja y365 t357).f0,(ja y365 t357).f1,(ja y365 t357).f2,(ja y365 t357).f3,true⟩:S54)):=⟨_,rfl⟩
             replace H:(jr.l1 kj37 (wrap64 (x7_2 - 1)) s0_0 t364 y366)=some (r1,r2):=by first |(rw [hy366];with_reducible exact H) |(have H2_:=(Option.bind_some _ _).symm.trans H;rw [hy366];with_reducible exact H2_) |(have H2_:=(Option.bind_some _ _).symm.trans H;with_reducible exact H2_) | with_reducible exact H |(rw [hy366];exact H) | exact H
             have Ny366:=am hy366
             clear hy366
             have H':=am H
             clear H
             have hnb68:=NB336_331.out
             have hnc68:=NB331_336.out
             have hnb69:=NB336_332.out
             have hnc69:=NB332_336.out
             have hnb70:=NB336_0.out
             have hnc70:=NB0_336.out
             have hcz71_0:=bc0 BK336.out
             have hfz71_0:=jc BK336.out 0
             obtain ⟨Ao72,co72,eo72⟩:=Kd.jW HO_337000.out
             subst eo72
             go_wp2_with (first |((with_reducible refine jB (f:=88) rfl ?_);refine gL (some 46) Try.func88 #[.pointer (some ⟨g,0,none⟩), .int .i64 (x337000_2.length:Int)] ?_;(with_reducible refine (jl.calls kj37 g s0_0 x1001_2 (x337000_2.length:Int) t357 t358 w0 _ ?side1 ?side2 A46.out).mono ?_);(case side1=>exact Y3);(case side2=>exact Y8);rintro e w73 ⟨rfl,hi,hb,hk⟩;refine ⟨_,rfl,?_⟩;replace HO_337000:=am (Kd.jE (Kd.jqa (jb.apart (show jb w0 _ g s0_0 x1001_2 from Y3) (rq HO_337000.out) (by decide)) hk (fun _ h=>h.2)) (fun _ h=>h.1));replace BK331:=am (jd.blk hk (g':=gb331) (o:=.cells #[.slice A1_0 l1_0.length c1_0] 37 (0,0)) (kq BK331.out) NB331_0.out (by simp));replace BK332:=am (jd.blk hk (g':=gb332) (o:=.cells #[.slice none 0 0] 32 (0,0)) (kq BK332.out) NB332_0.out (by simp));replace BK336:=am (jd.blk hk (g':=gb336) (o:=.cells #[.slice Ao72 x337000_2.length co72] 32 (0,0)) (kq BK336.out) NB336_0.out (by simp));replace HK:=am (jd.trans (Y6) hk (.inl rfl));replace HB:=am (hb);replace HI0:=am (hi);(try clear hb);(try clear hb2);(try clear hk);(try clear hi);have hcz74_0:=bc0 BK336.out;have hfz74_0:=jc BK336.out 0) |((with_reducible refine jB (f:=88) rfl ?_);refine gL (some 51) Try.func88 #[.pointer (some ⟨g,0,none⟩), .int .i64 (x337000_2.length:Int)] ?_;(with_reducible refine (jl.calls kj37 g s0_0 t358 (x337000_2.length:Int) t359 t360 w0 _ ?side1 ?side2 A47.out).mono ?_);(case side1=>exact Y3);(case side2=>exact Y8);rintro e w75 ⟨rfl,hi,hb,hk⟩;refine ⟨_,rfl,?_⟩;replace HO_337000:=am (Kd.jE (Kd.jqa (jb.apart (show jb w0 _ g s0_0 t358 from Y3) (rq HO_337000.out) (by decide)) hk (fun _ h=>h.2)) (fun _ h=>h.1));replace BK331:=am (jd.blk hk (g':=gb331) (o:=.cells #[.slice A1_0 l1_0.length c1_0] 37 (0,0)) (kq BK331.out) NB331_0.out (by simp));replace BK332:=am (jd.blk hk (g':=gb332) (o:=.cells #[.slice none 0 0] 32 (0,0)) (kq BK332.out) NB332_0.out (by simp));replace BK336:=am (jd.blk hk (g':=gb336) (o:=.cells #[.slice Ao72 x337000_2.length co72] 32 (0,0)) (kq BK336.out) NB336_0.out (by simp));replace HK:=am (jd.trans (Y6) hk (.inl rfl));replace HB:=am (hb);replace HI0:=am (hi);(try clear hb);(try clear hb2);(try clear hk);(try clear hi)) |((with_reducible refine jB (f:=88) rfl ?_);refine gL (some 74) Try.func88 #[.pointer (some ⟨g,0,none⟩), .int .i64 3] ?_;(with_reducible refine (jl.calls kj37 g s0_0 t360 3 t363 t364 w0 _ ?side1 ?side2 A62.out).mono ?_);(case side1=>exact Y3);(case side2=>exact Y8);rintro e w76 ⟨rfl,hi,hb,hk⟩;refine ⟨_,rfl,?_⟩;replace HO_337000:=am (Kd.jE (Kd.jqa (jb.apart (show jb w0 _ g s0_0 t360 from Y3) (rq HO_337000.out) (by decide)) hk (fun _ h=>h.2)) (fun _ h=>h.1));replace BK331:=am (jd.blk hk (g':=gb331) (o:=.cells #[.slice A1_0 l1_0.length c1_0] 37 (0,0)) (kq BK331.out) NB331_0.out (by simp));replace BK332:=am (jd.blk hk (g':=gb332) (o:=.cells #[.slice none 0 0] 32 (0,0)) (kq BK332.out) NB332_0.out (by simp));replace BK336:=am (jd.blk hk (g':=gb336) (o:=.cells #[.slice Ao72 x337000_2.length co72] 32 (0,0)) (kq BK336.out) NB336_0.out (by simp));replace HK:=am (jd.trans (Y6) hk (.inl rfl));replace HB:=am (hb);replace HI0:=am (hi);(try clear hb);(try clear hb2);(try clear hk);(try clear hi);have hcz77_0:=bc0 BK336.out;have hfz77_0:=jc BK336.out 0;have p66:0≤(t357:Int):=ozD (uq);have q66:(t357:Int)<((x337000_2.length:Int):Int):=ozD (uq);obtain ⟨go66,co66,eo66,gb66,gl66,cl66,HG66⟩:=Kd.R_form HO_337000.out (by omega);(first | cases eo66 |(injection eo66 with ea_ en_ ec_;(first | subst ea_ |(injection ea_ with ea_;subst ea_));subst ec_;clear en_));have GB66:=am gb66;have GG66:=am HG66;clear gb66 gl66 HG66;obtain ⟨ce66,hcl66,hM66,hcc66,hfr66⟩:=Kd.jzb HO_337000.out z54 (t357:Int) p66 q66;obtain rfl:=jUa hM66;have hx66_0:w76.cell? ⟨go66,(t357:Int).toNat * 5,none⟩=some (.int .i64 ((ja x337000_2 t357).f0)):=hcc66 0 _ rfl;have hx66_1:w76.cell? ⟨go66,(t357:Int).toNat * 5+1,none⟩=some (.int .i64 ((ja x337000_2 t357).f1)):=hcc66 1 _ rfl;have hx66_2:w76.cell? ⟨go66,(t357:Int).toNat * 5+2,none⟩=some (.int .i64 ((ja x337000_2 t357).f2)):=hcc66 2 _ rfl;have hx66_3:w76.cell? ⟨go66,(t357:Int).toNat * 5+3,none⟩=some (.int .i64 ((ja x337000_2 t357).f3)):=hcc66 3 _ rfl;have hx66_4:w76.cell? ⟨go66,(t357:Int).toNat * 5+4,none⟩=some (.bool ((ja x337000_2 t357).f4)):=hcc66 4 _ rfl;have hf66_0:w76.frozen? ⟨go66,(t357:Int).toNat * 5,none⟩=false:=hfr66 0;have hf66_1:w76.frozen? ⟨go66,(t357:Int).toNat * 5+1,none⟩=false:=hfr66 1;have hf66_2:w76.frozen? ⟨go66,(t357:Int).toNat * 5+2,none⟩=false:=hfr66 2;have hf66_3:w76.frozen? ⟨go66,(t357:Int).toNat * 5+3,none⟩=false:=hfr66 3;have hf66_4:w76.frozen? ⟨go66,(t357:Int).toNat * 5+4,none⟩=false:=hfr66 4;clear hcl66 hcc66 hfr66 hM66;replace p66:=ezT p66;replace q66:=ezT q66;have HX78:=am (show Kd.R k54 54 w76 w.heap.size (fun _=>True) (.slice (some ⟨go66,0,none⟩) x337000_2.length co72) x337000_2 from (rq HO_337000.out));obtain ⟨ce78,hcl78,hM78,hcc78,hfr78⟩:=Kd.jzb HX78.out z54 (t357:Int) (ozD (uq)) (by have h_:(t357:Int)<((x337000_2.length:Int):Int):=ozD (uq);first | exact h_ |(have e_:=(Kd.jw HO_337000.out).1;omega) | simpa using h_);obtain rfl:=jUa hM78;have HP78:=Kd.R_seg HX78.out (t357:Int) (ozD (uq)) (by have h_:(t357:Int)<((x337000_2.length:Int):Int):=ozD (uq);first | exact h_ |(have e_:=(Kd.jw HO_337000.out).1;omega) | simpa using h_) (seg:=[.int .i64 t359]) (j:=2) hcl78 hcc78 (show 3≤5 from by decide) (x':=(⟨(ja x337000_2 t357).f0,(ja x337000_2 t357).f1,t359,(ja x337000_2 t357).f3,(ja x337000_2 t357).f4⟩:S54)) (jZb _ _ _ (⟨(ja x337000_2 t357).f0,(ja x337000_2 t357).f1,t359,(ja x337000_2 t357).f3,(ja x337000_2 t357).f4⟩:S54) ) (fun _ hk=>hk);have hx78_2:=hcc78 2 _ rfl;(try simp only [show (k54).sz=5 from rfl,Nat.mul_one,Nat.add_zero] at hx78_2);have hf78_2:=hfr78 2;(try simp only [show (k54).sz=5 from rfl,Nat.mul_one,Nat.add_zero] at hf78_2);clear hcl78 hcc78 hfr78 hM78) |((with_reducible refine jfc (t:=3) (p:=81) rfl ?_);refine jYb (t:=3) (p:=81) (v:=?vo_w79) (w1:=(w76.setCell ⟨go66,(t357:Int).toNat * 5+2,none⟩ (.int .i64 t359))) ?hg ?ho ?hn ?hr ?_;(case ho=>rfl);(case hg=>rfl);(case hn=>rfl);(case hr=>exact Y4);intro w79 hw;have hg:w76.grownBy w79 (some go66):=(by rw [hw];exact HP78.2);have hp_:Kd.R k54 54 w79 w.heap.size (fun _=>True) (.slice (some ⟨go66,0,none⟩) x337000_2.length co72) y365:=(by rw [hw,Ny365.out];exact HP78.1);clear HP78;replace BK331:=am (jAa (g:=gb331) (o:=.cells #[.slice A1_0 l1_0.length c1_0] 37 (0,0)) (kq BK331.out) hg (Kd.R_ne HO_337000.out BK331.out (by decide)));replace BK332:=am (jAa (g:=gb332) (o:=.cells #[.slice none 0 0] 32 (0,0)) (kq BK332.out) hg (Kd.R_ne HO_337000.out BK332.out (by decide)));replace BK336:=am (jAa (g:=gb336) (o:=.cells #[.slice (some ⟨go66,0,none⟩) x337000_2.length co72] 32 (0,0)) (kq BK336.out) hg (Kd.R_ne HO_337000.out BK336.out (by decide)));replace HI0:=am (jb.grown (Y3) hg (jb.own_ne HI0.out HO_337000.out (by decide)));replace HB:=am ((by rw [hw];exact jm (HB.out) (Nat.le_trans HL.out GB66.out):Below w0.heap.size w0 w79));replace HK:=am (jd.trans (Y6) (jd.of_grown hg g) (Kd.R_base2 HO_337000.out));replace HO_337000:=am (hp_);clear hg hw hp_;have hcz80_0:=bc0 BK336.out;have hfz80_0:=jc BK336.out 0;have p67:0≤(t357:Int):=ozD (uq);have q67:(t357:Int)<((x337000_2.length:Int):Int):=ozD (uq);obtain ⟨ce67,hcl67,hM67,hcc67,hfr67⟩:=Kd.jzb HO_337000.out z54 (t357:Int) p67 q67;obtain rfl:=jUa hM67;have hx67_0:w79.cell? ⟨go66,(t357:Int).toNat * 5,none⟩=some (.int .i64 ((ja y365 t357).f0)):=hcc67 0 _ rfl;have hx67_1:w79.cell? ⟨go66,(t357:Int).toNat * 5+1,none⟩=some (.int .i64 ((ja y365 t357).f1)):=hcc67 1 _ rfl;have hx67_2:w79.cell? ⟨go66,(t357:Int).toNat * 5+2,none⟩=some (.int .i64 ((ja y365 t357).f2)):=hcc67 2 _ rfl;have hx67_3:w79.cell? ⟨go66,(t357:Int).toNat * 5+3,none⟩=some (.int .i64 ((ja y365 t357).f3)):=hcc67 3 _ rfl;have hx67_4:w79.cell? ⟨go66,(t357:Int).toNat * 5+4,none⟩=some (.bool ((ja y365 t357).f4)):=hcc67 4 _ rfl;have hf67_0:w79.frozen? ⟨go66,(t357:Int).toNat * 5,none⟩=false:=hfr67 0;have hf67_1:w79.frozen? ⟨go66,(t357:Int).toNat * 5+1,none⟩=false:=hfr67 1;have hf67_2:w79.frozen? ⟨go66,(t357:Int).toNat * 5+2,none⟩=false:=hfr67 2;have hf67_3:w79.frozen? ⟨go66,(t357:Int).toNat * 5+3,none⟩=false:=hfr67 3;have hf67_4:w79.frozen? ⟨go66,(t357:Int).toNat * 5+4,none⟩=false:=hfr67 4;clear hcl67 hcc67 hfr67 hM67;replace p67:=ezT p67;replace q67:=ezT q67;have HX81:=am (show Kd.R k54 54 w79 w.heap.size (fun _=>True) (.slice (some ⟨go66,0,none⟩) x337000_2.length co72) y365 from (rq HO_337000.out));obtain ⟨ce81,hcl81,hM81,hcc81,hfr81⟩:=Kd.jzb HX81.out z54 (t357:Int) (ozD (uq)) (by have h_:(t357:Int)<((x337000_2.length:Int):Int):=ozD (uq);first | exact h_ |(have e_:=(Kd.jw HO_337000.out).1;omega) | simpa using h_);obtain rfl:=jUa hM81;have HP81:=Kd.R_seg HX81.out (t357:Int) (ozD (uq)) (by have h_:(t357:Int)<((x337000_2.length:Int):Int):=ozD (uq);first | exact h_ |(have e_:=(Kd.jw HO_337000.out).1;omega) | simpa using h_) (seg:=[.bool true]) (j:=4) hcl81 hcc81 (show 5≤5 from by decide) (x':=(⟨(ja y365 t357).f0,(ja y365 t357).f1,(ja y365 t357).f2,(ja y365 t357).f3,true⟩:S54)) (jZb _ _ _ (⟨(ja y365 t357).f0,(ja y365 t357).f1,(ja y365 t357).f2,(ja y365 t357).f3,true⟩:S54) ) (fun _ hk=>hk);have hx81_4:=hcc81 4 _ rfl;(try simp only [show (k54).sz=5 from rfl,Nat.mul_one,Nat.add_zero] at hx81_4);have hf81_4:=hfr81 4;(try simp only [show (k54).sz=5 from rfl,Nat.mul_one,Nat.add_zero] at hf81_4);clear hcl81 hcc81 hfr81 hM81) |((with_reducible refine jfc (t:=4) (p:=86) rfl ?_);refine jYb (t:=4) (p:=86) (v:=?vo_w82) (w1:=(w79.setCell ⟨go66,(t357:Int).toNat * 5+4,none⟩ (.bool true))) ?hg ?ho ?hn ?hr ?_;(case ho=>rfl);(case hg=>rfl);(case hn=>rfl);(case hr=>exact Y4);intro w82 hw;have hg:w79.grownBy w82 (some go66):=(by rw [hw];exact HP81.2);have hp_:Kd.R k54 54 w82 w.heap.size (fun _=>True) (.slice (some ⟨go66,0,none⟩) x337000_2.length co72) y366:=(by rw [hw,Ny366.out];exact HP81.1);clear HP81;replace BK331:=am (jAa (g:=gb331) (o:=.cells #[.slice A1_0 l1_0.length c1_0] 37 (0,0)) (kq BK331.out) hg (Kd.R_ne HO_337000.out BK331.out (by decide)));replace BK332:=am (jAa (g:=gb332) (o:=.cells #[.slice none 0 0] 32 (0,0)) (kq BK332.out) hg (Kd.R_ne HO_337000.out BK332.out (by decide)));replace BK336:=am (jAa (g:=gb336) (o:=.cells #[.slice (some ⟨go66,0,none⟩) x337000_2.length co72] 32 (0,0)) (kq BK336.out) hg (Kd.R_ne HO_337000.out BK336.out (by decide)));replace HI0:=am (jb.grown (Y3) hg (jb.own_ne HI0.out HO_337000.out (by decide)));replace HB:=am ((by rw [hw];exact jm (HB.out) (Nat.le_trans HL.out GB66.out):Below w0.heap.size w0 w82));replace HK:=am (jd.trans (Y6) (jd.of_grown hg g) (Kd.R_base2 HO_337000.out));replace HO_337000:=am (hp_);clear hg hw hp_))
             go_roundg kj37
             case measure=>have:=HK1.out;have:=HK2.out;have:=HJ37.out;omega
             case rel=>exact ⟨(wrap64 (x7_2 - 1)),(t364),(y366),(.slice (some ⟨go66,0,none⟩) x337000_2.length co72),(sq),H',⟨by have:=HK1.out;have:=HK2.out;have:=HJ37.out;omega⟩,⟨rq HO_337000.out⟩,⟨kq BK331.out⟩,⟨kq BK332.out⟩,⟨kq BK336.out⟩,⟨Y3⟩,⟨Y6⟩,⟨Y8⟩⟩
            ·rw [if_neg c65] at H
             exact absurd H (by simp)
           ·rw [if_neg c64] at H
            exact absurd H (by simp)
          ·rw [if_neg c63] at H
           have c63b0:(t363 == 0)=false:=beq_eq_false_iff_ne.mpr c63
           have c63b1:(t363 != 0)=true:=bne_iff_ne.mpr c63
           replace H:=bzS H
           obtain ⟨t367,A830,H⟩:=H
           replace H:(jr.l1 kj37 (wrap64 (x7_2 - 1)) s0_0 t364 t367)=some (r1,r2):=H
           have A83:=am A830
           clear A830
           have H':=am H
           clear H
           have hnb84:=NB336_331.out
           have hnc84:=NB331_336.out
           have hnb85:=NB336_332.out
           have hnc85:=NB332_336.out
           have hnb86:=NB336_0.out
           have hnc86:=NB0_336.out
           have hcz87_0:=bc0 BK336.out
           have hfz87_0:=jc BK336.out 0
           obtain ⟨Ao88,co88,eo88⟩:=Kd.jW HO_337000.out
           subst eo88
           go_wp2_with (first |((with_reducible refine jB (f:=88) rfl ?_);refine gL (some 46) Try.func88 #[.pointer (some ⟨g,0,none⟩), .int .i64 (x337000_2.length:Int)] ?_;(with_reducible refine (jl.calls kj37 g s0_0 x1001_2 (x337000_2.length:Int) t357 t358 w0 _ ?side1 ?side2 A46.out).mono ?_);(case side1=>exact Y3);(case side2=>exact Y8);rintro e w89 ⟨rfl,hi,hb,hk⟩;refine ⟨_,rfl,?_⟩;replace HO_337000:=am (Kd.jE (Kd.jqa (jb.apart (show jb w0 _ g s0_0 x1001_2 from Y3) (rq HO_337000.out) (by decide)) hk (fun _ h=>h.2)) (fun _ h=>h.1));replace BK331:=am (jd.blk hk (g':=gb331) (o:=.cells #[.slice A1_0 l1_0.length c1_0] 37 (0,0)) (kq BK331.out) NB331_0.out (by simp));replace BK332:=am (jd.blk hk (g':=gb332) (o:=.cells #[.slice none 0 0] 32 (0,0)) (kq BK332.out) NB332_0.out (by simp));replace BK336:=am (jd.blk hk (g':=gb336) (o:=.cells #[.slice Ao88 x337000_2.length co88] 32 (0,0)) (kq BK336.out) NB336_0.out (by simp));replace HK:=am (jd.trans (Y6) hk (.inl rfl));replace HB:=am (hb);replace HI0:=am (hi);(try clear hb);(try clear hb2);(try clear hk);(try clear hi);have hcz90_0:=bc0 BK336.out;have hfz90_0:=jc BK336.out 0) |((with_reducible refine jB (f:=88) rfl ?_);refine gL (some 51) Try.func88 #[.pointer (some ⟨g,0,none⟩), .int .i64 (x337000_2.length:Int)] ?_;(with_reducible refine (jl.calls kj37 g s0_0 t358 (x337000_2.length:Int) t359 t360 w0 _ ?side1 ?side2 A47.out).mono ?_);(case side1=>exact Y3);(case side2=>exact Y8);rintro e w91 ⟨rfl,hi,hb,hk⟩;refine ⟨_,rfl,?_⟩;replace HO_337000:=am (Kd.jE (Kd.jqa (jb.apart (show jb w0 _ g s0_0 t358 from Y3) (rq HO_337000.out) (by decide)) hk (fun _ h=>h.2)) (fun _ h=>h.1));replace BK331:=am (jd.blk hk (g':=gb331) (o:=.cells #[.slice A1_0 l1_0.length c1_0] 37 (0,0)) (kq BK331.out) NB331_0.out (by simp));replace BK332:=am (jd.blk hk (g':=gb332) (o:=.cells #[.slice none 0 0] 32 (0,0)) (kq BK332.out) NB332_0.out (by simp));replace BK336:=am (jd.blk hk (g':=gb336) (o:=.cells #[.slice Ao88 x337000_2.length co88] 32 (0,0)) (kq BK336.out) NB336_0.out (by simp));replace HK:=am (jd.trans (Y6) hk (.inl rfl));replace HB:=am (hb);replace HI0:=am (hi);(try clear hb);(try clear hb2);(try clear hk);(try clear hi)) |((with_reducible refine jB (f:=88) rfl ?_);refine gL (some 74) Try.func88 #[.pointer (some ⟨g,0,none⟩), .int .i64 3] ?_;(with_reducible refine (jl.calls kj37 g s0_0 t360 3 t363 t364 w0 _ ?side1 ?side2 A62.out).mono ?_);(case side1=>exact Y3);(case side2=>exact Y8);rintro e w92 ⟨rfl,hi,hb,hk⟩;refine ⟨_,rfl,?_⟩;replace HO_337000:=am (Kd.jE (Kd.jqa (jb.apart (show jb w0 _ g s0_0 t360 from Y3) (rq HO_337000.out) (by decide)) hk (fun _ h=>h.2)) (fun _ h=>h.1));replace BK331:=am (jd.blk hk (g':=gb331) (o:=.cells #[.slice A1_0 l1_0.length c1_0] 37 (0,0)) (kq BK331.out) NB331_0.out (by simp));replace BK332:=am (jd.blk hk (g':=gb332) (o:=.cells #[.slice none 0 0] 32 (0,0)) (kq BK332.out) NB332_0.out (by simp));replace BK336:=am (jd.blk hk (g':=gb336) (o:=.cells #[.slice Ao88 x337000_2.length co88] 32 (0,0)) (kq BK336.out) NB336_0.out (by simp));replace HK:=am (jd.trans (Y6) hk (.inl rfl));replace HB:=am (hb);replace HI0:=am (hi);(try clear hb);(try clear hb2);(try clear hk);(try clear hi);have hcz93_0:=bc0 BK336.out;have hfz93_0:=jc BK336.out 0) |((with_reducible refine jB (f:=92) rfl ?_);refine gL (some 55) Try.func92 #[.agg #[.slice Ao88 x337000_2.length co88], .int .i64 t357, .int .i64 t359] ?_;(with_reducible refine (jia.calls kj37 _ _ x337000_2 t357 t359 t367 _ ?side1 ?side2 A83.out).mono ?_);(case side1=>exact cq (Kd.jw HO_337000.out).2.2);(case side2=>exact (Kd.jw HO_337000.out).2.1);rintro e w94 ⟨v368,rfl,ho0,hb⟩;refine ⟨_,rfl,?_⟩;have HO369:=am (Kd.jea (Kd.R_new' ho0 (Kd.R_lt (rq HO_337000.out))) (jda (w:=w) (g:=g) (row:=none) (Y6)));replace HO_337000:=am (Kd.jdc (rq HO_337000.out) (Kd.R_base ho0) hb);replace BK331:=am (jh (g:=gb331) (o:=.cells #[.slice A1_0 l1_0.length c1_0] 37 (0,0)) (kq BK331.out) hb);replace BK332:=am (jh (g:=gb332) (o:=.cells #[.slice none 0 0] 32 (0,0)) (kq BK332.out) hb);replace BK336:=am (jh (g:=gb336) (o:=.cells #[.slice Ao88 x337000_2.length co88] 32 (0,0)) (kq BK336.out) hb);replace HK:=am (jd.trans (Y6) (jd.of_below hb g none) (.inl rfl));replace HB:=am (jk (Y8) hb);replace HI0:=am (jb.below (Y3) hb);(try clear hb);(try clear hb2);(try clear hk);(try clear hi);(try clear ho0);obtain ⟨Ao95,co95,eo95⟩:=Kd.jW HO369.out;subst eo95;have hcz96_0:=bc0 BK336.out;have hfz96_0:=jc BK336.out 0))
           go_roundg kj37
           case measure=>have:=HK1.out;have:=HK2.out;have:=HJ37.out;omega
           case rel=>exact ⟨(wrap64 (x7_2 - 1)),(t364),(t367),(.slice Ao95 t367.length co95),(sq),H',⟨by have:=HK1.out;have:=HK2.out;have:=HJ37.out;omega⟩,⟨by (with_reducible repeat (first | apply Kd.jO | apply Kd.jQ | apply Kd.jM));exact Kd.jE (Kd.jX (p:=⟨gb336,0,none⟩) (Kd.jN HO369.out BK336.out (by decide)) (fun _ hk=>hk.2) (.slice Ao95 t367.length co95)) (fun _ hk=>trivial)⟩,⟨by (with_reducible repeat (first | refine je ?_ _ | refine jg ?_ | refine jf ?_ _));refine jJ ?_ NB331_336.out _;(with_reducible repeat (first | refine je ?_ _ | refine jg ?_ | refine jf ?_ _));exact BK331.out⟩,⟨by (with_reducible repeat (first | refine je ?_ _ | refine jg ?_ | refine jf ?_ _));refine jJ ?_ NB332_336.out _;(with_reducible repeat (first | refine je ?_ _ | refine jg ?_ | refine jf ?_ _));exact BK332.out⟩,⟨by (with_reducible repeat (first | refine je ?_ _ | refine jg ?_ | refine jf ?_ _));refine jla (cs:=#[.slice Ao88 x337000_2.length co88]) ?_ 0 _ rfl;(with_reducible repeat (first | refine je ?_ _ | refine jg ?_ | refine jf ?_ _));exact BK336.out⟩,⟨Y3⟩,⟨Y6⟩,⟨Y8⟩⟩
        ·replace c45:=Bool.eq_false_iff.mpr c45
         subst c45
         have H1:(some (x337000_2,x1001_2))=some (r1,r2):=by rw [if_neg (show ¬ (false=true) by decide)] at H;exact H
         clear H
         have H:=H1
         clear H1
         simp only [Option.some.injEq,Prod.mk.injEq] at H
         obtain ⟨rfl,rfl⟩:=H
         have hnb97:=NB336_331.out
         have hnc97:=NB331_336.out
         have hnb98:=NB336_332.out
         have hnc98:=NB332_336.out
         have hnb99:=NB336_0.out
         have hnc99:=NB0_336.out
         have hcz100_0:=bc0 BK336.out
         have hfz100_0:=jc BK336.out 0
         obtain ⟨Ao101,co101,eo101⟩:=Kd.jW HO_337000.out
         subst eo101
         have hnb102:=NB332_331.out
         have hnc102:=NB331_332.out
         have hnb103:=NB332_0.out
         have hnc103:=NB0_332.out
         have hcz104_0:=bc0 BK332.out
         have hfz104_0:=jc BK332.out 0
         go_wp2
         refine bodyPost_ret (results_cell_row rfl _ _ gb332 32 #[.slice Ao101 x337000_2.length co101] (0,0) _ rfl (by (with_reducible repeat (first | refine je ?_ _ | refine jg ?_ | refine jf ?_ _));refine jla (cs:=#[.slice none 0 0]) ?_ 0 _ rfl;(with_reducible repeat (first | refine je ?_ _ | refine jg ?_ | refine jf ?_ _));exact BK332.out) Try.underlying32 rfl (by kernel_rfl)) rfl ?_
         exact ⟨_,Y1,by (with_reducible repeat (first | apply Kd.jO | apply Kd.jQ | apply Kd.jM));exact Kd.jE (Kd.jX (p:=⟨gb332,0,none⟩) (Kd.jN HO_337000.out BK332.out (by decide)) (fun _ hk=>hk.2) (.slice Ao101 x337000_2.length co101)) (fun _ hk=>trivial),Y3,Y8,Y6⟩
end Go.Proofs.Ytecdfgejmbpclaa.P
end
