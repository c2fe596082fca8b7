/- One part of the proofs on this program: functions of the program as plain functions, that the code comes to them, and facts on them. -/
import Derived.Test.YteibechlncphnaaDoorYAll1
import Derived.Test.YteibechlncphnaaDoorYAll2
import Derived.Test.YteibechlncphnaaDoorYWAuto
section
namespace Go.Proofs.YteibechlncphnaaDoor.P
open Go.RowKit Go.Proofs.YteibechlncphnaaDoorW.PrintWords Go.Proofs.YteibechlncphnaaDoorW.PrintLast Go.Proofs.YteibechlncphnaaDoorW.PrintMore
attribute [local go_sem] jS jQ jba jaa jK jJ jR jP jg
set_option linter.unusedVariables false
set_option linter.unusedSimpArgs false
mutual
def jo.l0 : Nat → Int → List (S99) → List (S66) → Option (Bool)
 | 0,_,_,_=>none
 | k+1,x5,x352000,x353000=>if x5<(x353000.length:Int) then (if 0≤x5 then ((jsa.f x352000 ((jb x353000 x5).f0)).bind fun t355=>(if t355=true then ((jF.f ((jb x353000 x5).f1) 0 99).bind fun t356=>(if t356=true then ((jqa.f x353000 x5).bind fun t357=>(jo.j1 k x5 (!t357) x352000 x353000)) else (jo.j1 k x5 true x352000 x353000))) else (jo.j1 k x5 true x352000 x353000))) else (none)) else (jo.l1 k 0 x352000 x353000)
def jo.j1 : Nat → Int → Bool → List (S99) → List (S66) → Option (Bool)
 | 0,_,_,_,_=>none
 | k+1,x5,x37,x352000,x353000=>if x37=true then (some false) else (jo.l0 k (wrap64 (x5+1)) x352000 x353000)
def jo.l1 : Nat → Int → List (S99) → List (S66) → Option (Bool)
 | 0,_,_,_=>none
 | k+1,x7,x352000,x353000=>if x7<(x353000.length:Int) then ((jU.f k x353000 x7).bind fun t359=>(if 0≤(wrap64 ((t359.length:Int) - 1)) then (if (wrap64 ((t359.length:Int) - 1))<(t359.length:Int) then (if 0≤(rd t359 (wrap64 ((t359.length:Int) - 1))) then (if (rd t359 (wrap64 ((t359.length:Int) - 1)))<(x353000.length:Int) then (if ((jb x353000 (rd t359 (wrap64 ((t359.length:Int) - 1)))).f3)≥0 then (some false) else (jo.l1 k (wrap64 (x7+1)) x352000 x353000)) else (none)) else (none)) else (none)) else (none))) else ((jy.f k x352000).bind fun t358=>(if t358=true then (some (decide ((x353000.length:Int)≤24))) else (some false)))
end
def jo.f (k : Nat) (l0_0 : List (S99)) (l1_0 : List (S66)) : Option (Bool) := jo.l0 k 0 l0_0 l1_0
set_option maxHeartbeats 8000000 in
set_option maxRecDepth 100000 in
theorem jo.calls (k : Nat) (A0_0 : Option Addr) (c0_0 : Nat) (l0_0 : List (S99)) (A1_0 : Option Addr) (c1_0 : Nat) (l1_0 : List (S66)) (r : Bool) (w : World) (hr0_0 : Kd.C k99 w A0_0 l0_0.length l0_0) (hc0_0 : l0_0.length ≤ c0_0) (hr1_0 : Kd.C k66 w A1_0 l1_0.length l1_0) (hc1_0 : l1_0.length ≤ c1_0) (h : jo.f k l0_0 l1_0 = some r) :
  Calls Tryd.prog 48 #[.agg #[.slice A0_0 l0_0.length c0_0], .agg #[.slice A1_0 l1_0.length c1_0]] w fun e w'=>e=.returned (.bool r)∧Below w.heap.size w w':=by
 have hu25:=Tryd.underlying25
 have hu28:=Tryd.underlying28
 have hu66:=Tryd.underlying66
 have HR0_0:=am hr0_0
 have HC0_0:=am hc0_0
 clear hr0_0 hc0_0
 have HR1_0:=am hr1_0
 have HC1_0:=am hc1_0
 clear hr1_0 hc1_0
 have HB:=am (Below.refl w.heap.size w)
 have H:(jo.l0 k 0 l0_0 l1_0)=some r:=h
 clear h
 have H':=am H
 clear H
 go_enter Tryd.func48,Tryd.ntmps48
 go_wp2_with (first |((with_reducible refine jr (N:=2) rfl ?_);(try (refine jYa (by rfl) ?_;dsimp only));refine jeb ?hg (N:=2) ?hd (cs:=#[.slice A0_0 l0_0.length c0_0]) (t:=25) ?hr ?_;(case hd=>rfl);(case hg=>rfl);(case hr=>exact Y6);intro gb351 hg w3 hbox hb;have BK351:=am (hbox);have GW351:=am ((Y0:w.heap.size≤gb351));have GE351:=am ((Y0:w.heap.size≤gb351));replace HB:=am (jd (bq) hb);clear hb hbox hg) |((with_reducible refine jr (N:=3) rfl ?_);(try (refine jYa (by rfl) ?_;dsimp only));refine jeb ?hg (N:=3) ?hd (cs:=#[.slice A1_0 l1_0.length c1_0]) (t:=28) ?hr ?_;(case hd=>rfl);(case hg=>rfl);(case hr=>exact Y6);intro gb352 hg w4 hbox hb;have BK352:=am (hbox);have GW352:=am ((Y22:w.heap.size≤gb352));have GE352:=am ((Y22:w.heap.size≤gb352));have NB351_352:=am ((Y23:gb351≠gb352));have NB352_351:=am ((Y24:gb352≠gb351));replace BK351:=am (jc (g:=gb351) (o:=.cells #[.slice A0_0 l0_0.length c0_0] 25 (0,0)) (kq BK351.out) hb);replace HB:=am (jd (Y64) hb);clear hb hbox hg))
 repeat (go_quiet (first |((with_reducible refine jr (N:=2) rfl ?_);(try (refine jYa (by rfl) ?_;dsimp only));refine jeb ?hg (N:=2) ?hd (cs:=#[.slice A0_0 l0_0.length c0_0]) (t:=25) ?hr ?_;(case hd=>rfl);(case hg=>rfl);(case hr=>exact Y6);intro gb351 hg w3 hbox hb;have BK351:=am (hbox);have GW351:=am ((Y0:w.heap.size≤gb351));have GE351:=am ((Y0:w.heap.size≤gb351));replace HB:=am (jd (bq) hb);clear hb hbox hg) |((with_reducible refine jr (N:=3) rfl ?_);(try (refine jYa (by rfl) ?_;dsimp only));refine jeb ?hg (N:=3) ?hd (cs:=#[.slice A1_0 l1_0.length c1_0]) (t:=28) ?hr ?_;(case hd=>rfl);(case hg=>rfl);(case hr=>exact Y6);intro gb352 hg w4 hbox hb;have BK352:=am (hbox);have GW352:=am ((Y22:w.heap.size≤gb352));have GE352:=am ((Y22:w.heap.size≤gb352));have NB351_352:=am ((Y23:gb351≠gb352));have NB352_351:=am ((Y24:gb352≠gb351));replace BK351:=am (jc (g:=gb351) (o:=.cells #[.slice A0_0 l0_0.length c0_0] 25 (0,0)) (kq BK351.out) hb);replace HB:=am (jd (Y64) hb);clear hb hbox hg));try go_wp2_with (first |((with_reducible refine jr (N:=2) rfl ?_);(try (refine jYa (by rfl) ?_;dsimp only));refine jeb ?hg (N:=2) ?hd (cs:=#[.slice A0_0 l0_0.length c0_0]) (t:=25) ?hr ?_;(case hd=>rfl);(case hg=>rfl);(case hr=>exact Y6);intro gb351 hg w3 hbox hb;have BK351:=am (hbox);have GW351:=am ((Y0:w.heap.size≤gb351));have GE351:=am ((Y0:w.heap.size≤gb351));replace HB:=am (jd (bq) hb);clear hb hbox hg) |((with_reducible refine jr (N:=3) rfl ?_);(try (refine jYa (by rfl) ?_;dsimp only));refine jeb ?hg (N:=3) ?hd (cs:=#[.slice A1_0 l1_0.length c1_0]) (t:=28) ?hr ?_;(case hd=>rfl);(case hg=>rfl);(case hr=>exact Y6);intro gb352 hg w4 hbox hb;have BK352:=am (hbox);have GW352:=am ((Y22:w.heap.size≤gb352));have GE352:=am ((Y22:w.heap.size≤gb352));have NB351_352:=am ((Y23:gb351≠gb352));have NB352_351:=am ((Y24:gb352≠gb351));replace BK351:=am (jc (g:=gb351) (o:=.cells #[.slice A0_0 l0_0.length c0_0] 25 (0,0)) (kq BK351.out) hb);replace HB:=am (jd (Y64) hb);clear hb hbox hg)))
 go_loopg [5] k (fun kq v5 w'=>∃ (x5_1:Int),v5=.int .i64 x5_1∧jH (jo.l0 kq x5_1 l0_0 l1_0=some r)∧jH (kq≤k)∧jH (w'.heap[gb351]?=some (.cells #[(.slice A0_0 l0_0.length c0_0)] 25 (0,0)))∧jH (w'.heap[gb352]?=some (.cells #[(.slice A1_0 l1_0.length c1_0)] 28 (0,0)))∧jH (Below w.heap.size w w'))
 case atStart=>exact ⟨(0),(sq),H',⟨Nat.le_refl _⟩,⟨kq BK351.out⟩,⟨kq BK352.out⟩,⟨Y3⟩⟩
 case round =>
  clear H'
  try clear c1
  try clear p2
  try clear c4
  obtain ⟨x5_1,rfl,HA,HK1,BK351,BK352,HB⟩:=hrel
  cases gk with
  | zero=>exact absurd HA.out (by simp [jo.l0])
  | succ k1 =>
   have H:=HA.out
   clear HA
   simp only [jo.l0] at H
   by_cases c5:x5_1<(l1_0.length:Int)
   ·rw [if_pos c5] at H
    have c5b0:decide (x5_1<(l1_0.length:Int))=true:=dzT c5
    clear c5
    by_cases c6:0≤x5_1
    ·rw [if_pos c6] at H
     have c6b0:decide (0≤x5_1)=true:=dzT c6
     clear c6
     have HC7:=am H
     clear H
     have hnb8:=NB352_351.out
     have hnc8:=NB351_352.out
     have hcz9_0:=bc0 BK352.out
     have hfz9_0:=ja BK352.out 0
     have p353:0≤(x5_1:Int):=ozD (uq)
     have q353:x5_1<(l1_0.length:Int):=ozD (uq)
     obtain ⟨ad353,e353,hx353_0,hx353_1,hx353_2,hx353_3,hx353_4⟩:=jLa HR1_0.out x5_1 p353 q353
     cases e353
     replace hx353_0:=cb HB.out hx353_0
     replace hx353_1:=cb HB.out hx353_1
     replace hx353_2:=cb HB.out hx353_2
     replace hx353_3:=cb HB.out hx353_3
     replace hx353_4:=cb HB.out hx353_4
     replace p353:=ezT p353
     replace q353:=ezT q353
     go_upto_region 5 with (first |((with_reducible refine jr (N:=6) rfl ?_);(try (refine jYa (by rfl) ?_;dsimp only));refine jeb ?hg (N:=6) ?hd (cs:=#[.int .i64 0, .int .i64 0, .int .i64 0, .int .i64 0, .bool false]) (t:=66) ?hr ?_;(case hd=>rfl);(case hg=>rfl);(case hr=>exact Y6);intro gb354 hg w10 hbox hb;have BK354:=am (hbox);have GW354:=am ((Y25:w.heap.size≤gb354));have GE354:=am ((Y25:w.heap.size≤gb354));have NB351_354:=am ((Y23:gb351≠gb354));have NB354_351:=am ((Y24:gb354≠gb351));have NB352_354:=am ((Y65:gb352≠gb354));have NB354_352:=am ((Y66:gb354≠gb352));replace BK351:=am (jc (g:=gb351) (o:=.cells #[.slice A0_0 l0_0.length c0_0] 25 (0,0)) (kq BK351.out) hb);replace BK352:=am (jc (g:=gb352) (o:=.cells #[.slice (some ad353) l1_0.length c1_0] 28 (0,0)) (kq BK352.out) hb);replace HB:=am (jd (Y3) hb);clear hb hbox hg;have hnb11:=NB354_351.out;have hnc11:=NB351_354.out;have hnb12:=NB354_352.out;have hnc12:=NB352_354.out;have hcz13_0:=bc0 BK354.out;have hcz13_1:=bc1 BK354.out;have hcz13_2:=bc2 BK354.out;have hcz13_3:=bc3 BK354.out;have hcz13_4:w10.cell? ⟨gb354,4,none⟩=some (.bool false):=(jC BK354.out 4).trans rfl;have hfz13_0:=ja BK354.out 0;have hfz13_1:=ja BK354.out 1;have hfz13_2:=ja BK354.out 2;have hfz13_3:=ja BK354.out 3;have hfz13_4:=ja BK354.out 4))
     repeat (go_quiet (first |((with_reducible refine jr (N:=6) rfl ?_);(try (refine jYa (by rfl) ?_;dsimp only));refine jeb ?hg (N:=6) ?hd (cs:=#[.int .i64 0, .int .i64 0, .int .i64 0, .int .i64 0, .bool false]) (t:=66) ?hr ?_;(case hd=>rfl);(case hg=>rfl);(case hr=>exact Y6);intro gb354 hg w10 hbox hb;have BK354:=am (hbox);have GW354:=am ((Y25:w.heap.size≤gb354));have GE354:=am ((Y25:w.heap.size≤gb354));have NB351_354:=am ((Y23:gb351≠gb354));have NB354_351:=am ((Y24:gb354≠gb351));have NB352_354:=am ((Y65:gb352≠gb354));have NB354_352:=am ((Y66:gb354≠gb352));replace BK351:=am (jc (g:=gb351) (o:=.cells #[.slice A0_0 l0_0.length c0_0] 25 (0,0)) (kq BK351.out) hb);replace BK352:=am (jc (g:=gb352) (o:=.cells #[.slice (some ad353) l1_0.length c1_0] 28 (0,0)) (kq BK352.out) hb);replace HB:=am (jd (Y3) hb);clear hb hbox hg;have hnb11:=NB354_351.out;have hnc11:=NB351_354.out;have hnb12:=NB354_352.out;have hnc12:=NB352_354.out;have hcz13_0:=bc0 BK354.out;have hcz13_1:=bc1 BK354.out;have hcz13_2:=bc2 BK354.out;have hcz13_3:=bc3 BK354.out;have hcz13_4:w10.cell? ⟨gb354,4,none⟩=some (.bool false):=(jC BK354.out 4).trans rfl;have hfz13_0:=ja BK354.out 0;have hfz13_1:=ja BK354.out 1;have hfz13_2:=ja BK354.out 2;have hfz13_3:=ja BK354.out 3;have hfz13_4:=ja BK354.out 4));go_upto_region 5 with (first |((with_reducible refine jr (N:=6) rfl ?_);(try (refine jYa (by rfl) ?_;dsimp only));refine jeb ?hg (N:=6) ?hd (cs:=#[.int .i64 0, .int .i64 0, .int .i64 0, .int .i64 0, .bool false]) (t:=66) ?hr ?_;(case hd=>rfl);(case hg=>rfl);(case hr=>exact Y6);intro gb354 hg w10 hbox hb;have BK354:=am (hbox);have GW354:=am ((Y25:w.heap.size≤gb354));have GE354:=am ((Y25:w.heap.size≤gb354));have NB351_354:=am ((Y23:gb351≠gb354));have NB354_351:=am ((Y24:gb354≠gb351));have NB352_354:=am ((Y65:gb352≠gb354));have NB354_352:=am ((Y66:gb354≠gb352));replace BK351:=am (jc (g:=gb351) (o:=.cells #[.slice A0_0 l0_0.length c0_0] 25 (0,0)) (kq BK351.out) hb);replace BK352:=am (jc (g:=gb352) (o:=.cells #[.slice (some ad353) l1_0.length c1_0] 28 (0,0)) (kq BK352.out) hb);replace HB:=am (jd (Y3) hb);clear hb hbox hg;have hnb11:=NB354_351.out;have hnc11:=NB351_354.out;have hnb12:=NB354_352.out;have hnc12:=NB352_354.out;have hcz13_0:=bc0 BK354.out;have hcz13_1:=bc1 BK354.out;have hcz13_2:=bc2 BK354.out;have hcz13_3:=bc3 BK354.out;have hcz13_4:w10.cell? ⟨gb354,4,none⟩=some (.bool false):=(jC BK354.out 4).trans rfl;have hfz13_0:=ja BK354.out 0;have hfz13_1:=ja BK354.out 1;have hfz13_2:=ja BK354.out 2;have hfz13_3:=ja BK354.out 3;have hfz13_4:=ja BK354.out 4)))
     (try simp only [Act.put,List.setIfInBounds_toArray,List.set_cons_zero,List.set_cons_succ])
     go_cut [37] (fun v37 wc=>∃ (kq:Nat) (x37_6:Bool),v37=.bool x37_6∧jH (jo.j1 kq x5_1 x37_6 l0_0 l1_0=some r)∧jH (kq≤k1)∧jH (wc.heap[gb351]?=some (.cells #[(.slice A0_0 l0_0.length c0_0)] 25 (0,0)))∧jH (wc.heap[gb352]?=some (.cells #[(.slice (some ad353) l1_0.length c1_0)] 28 (0,0)))∧jH (wc.heap[gb354]?=some (.cells #[.int .i64 ((jb l1_0 x5_1).f0), .int .i64 ((jb l1_0 x5_1).f1), .int .i64 ((jb l1_0 x5_1).f2), .int .i64 ((jb l1_0 x5_1).f3), .bool ((jb l1_0 x5_1).f4)] 66 (0,0)))∧jH (Below w.heap.size w wc))
     case first =>
      have H:=HC7.out
      clear HC7
      replace H:=bzS H
      obtain ⟨t355,A140,H⟩:=H
      replace H:(if t355=true then ((jF.f ((jb l1_0 x5_1).f1) 0 99).bind fun t356=>(if t356=true then ((jqa.f l1_0 x5_1).bind fun t357=>(jo.j1 k1 x5_1 (!t357) l0_0 l1_0)) else (jo.j1 k1 x5_1 true l0_0 l1_0))) else (jo.j1 k1 x5_1 true l0_0 l1_0))=some r:=H
      have A14:=am A140
      clear A140
      by_cases c15:t355=true
      ·subst c15
       have H1:((jF.f ((jb l1_0 x5_1).f1) 0 99).bind fun t356=>(if t356=true then ((jqa.f l1_0 x5_1).bind fun t357=>(jo.j1 k1 x5_1 (!t357) l0_0 l1_0)) else (jo.j1 k1 x5_1 true l0_0 l1_0)))=some r:=by rw [if_pos rfl] at H;exact H
       clear H
       have H:=H1
       clear H1
       replace H:=bzS H
       obtain ⟨t356,A160,H⟩:=H
       replace H:(if t356=true then ((jqa.f l1_0 x5_1).bind fun t357=>(jo.j1 k1 x5_1 (!t357) l0_0 l1_0)) else (jo.j1 k1 x5_1 true l0_0 l1_0))=some r:=H
       have A16:=am A160
       clear A160
       by_cases c17:t356=true
       ·subst c17
        have H1:((jqa.f l1_0 x5_1).bind fun t357=>(jo.j1 k1 x5_1 (!t357) l0_0 l1_0))=some r:=by rw [if_pos rfl] at H;exact H
        clear H
        have H:=H1
        clear H1
        replace H:=bzS H
        obtain ⟨t357,A180,H⟩:=H
        replace H:(jo.j1 k1 x5_1 (!t357) l0_0 l1_0)=some r:=H
        have A18:=am A180
        clear A180
        have H':=am H
        clear H
        have hnb19:=NB351_352.out
        have hnc19:=NB352_351.out
        have hnb20:=NB351_354.out
        have hnc20:=NB354_351.out
        have hcz21_0:=bc0 BK351.out
        have hfz21_0:=ja BK351.out 0
        have hnb22:=NB354_352.out
        have hnc22:=NB352_354.out
        have hcz23_0:=bc0 BK354.out
        have hcz23_1:=bc1 BK354.out
        have hcz23_2:=bc2 BK354.out
        have hcz23_3:=bc3 BK354.out
        have hcz23_4:w10.cell? ⟨gb354,4,none⟩=some (.bool false):=(jC BK354.out 4).trans rfl
        have hfz23_0:=ja BK354.out 0
        have hfz23_1:=ja BK354.out 1
        have hfz23_2:=ja BK354.out 2
        have hfz23_3:=ja BK354.out 3
        have hfz23_4:=ja BK354.out 4
        go_wp2_with (first |(go_at_call 78;(with_reducible refine (jsa.calls _ _ l0_0 ((jb l1_0 x5_1).f0) true _ ?side1 ?side2 A14.out).mono ?_);(case side1=>exact Kd.jD HR0_0.out (Y4));(case side2=>exact HC0_0.out);rintro e w24 ⟨rfl,hb⟩;replace BK351:=am (jc (g:=gb351) (o:=.cells #[.slice A0_0 l0_0.length c0_0] 25 (0,0)) (Y11) hb);replace BK352:=am (jc (g:=gb352) (o:=.cells #[.slice (some ad353) l1_0.length c1_0] 28 (0,0)) (Y12) hb);replace BK354:=am (jc (g:=gb354) (o:=.cells #[.int .i64 ((jb l1_0 x5_1).f0), .int .i64 ((jb l1_0 x5_1).f1), .int .i64 ((jb l1_0 x5_1).f2), .int .i64 ((jb l1_0 x5_1).f3), .bool ((jb l1_0 x5_1).f4)] 66 (0,0)) (Y13) hb);replace HB:=am (jd (Y4) hb);(try clear hb);(try clear hb2);(try clear hk);(try clear hi);have hcz25_0:=bc0 BK354.out;have hcz25_1:=bc1 BK354.out;have hcz25_2:=bc2 BK354.out;have hcz25_3:=bc3 BK354.out;have hcz25_4:w24.cell? ⟨gb354,4,none⟩=some (.bool ((jb l1_0 x5_1).f4)):=(jC BK354.out 4).trans rfl;have hfz25_0:=ja BK354.out 0;have hfz25_1:=ja BK354.out 1;have hfz25_2:=ja BK354.out 2;have hfz25_3:=ja BK354.out 3;have hfz25_4:=ja BK354.out 4) |(go_at_call 79;(with_reducible refine (jF.calls ((jb l1_0 x5_1).f1) 0 99 true _ A16.out).mono ?_);rintro e w' ⟨rfl,⟨nd,rfl⟩⟩;(try first | exact ⟨rfl,_,World.drewN_drewN _ _ _⟩ | exact ⟨rfl,_,Eq.trans (World.drewN_drewN _ _ _) (congrArg (World.drewN _) (Nat.add_assoc _ _ _))⟩);have hcz26_0:=bc0 BK352.out;have hfz26_0:=ja BK352.out 0) |(go_at_call 80;(with_reducible refine (jqa.calls _ _ l1_0 x5_1 t357 _ ?side1 ?side2 A18.out).mono ?_);(case side1=>exact Y67);(case side2=>exact HC1_0.out);rintro e w27 ⟨rfl,hb⟩;replace BK351:=am (jc (g:=gb351) (o:=.cells #[.slice A0_0 l0_0.length c0_0] 25 (0,0)) (kq BK351.out) hb);replace BK352:=am (jc (g:=gb352) (o:=.cells #[.slice (some ad353) l1_0.length c1_0] 28 (0,0)) (kq BK352.out) hb);replace BK354:=am (jc (g:=gb354) (o:=.cells #[.int .i64 ((jb l1_0 x5_1).f0), .int .i64 ((jb l1_0 x5_1).f1), .int .i64 ((jb l1_0 x5_1).f2), .int .i64 ((jb l1_0 x5_1).f3), .bool ((jb l1_0 x5_1).f4)] 66 (0,0)) (kq BK354.out) hb);replace HB:=am (jd (Y4) hb);(try clear hb);(try clear hb2);(try clear hk);(try clear hi)))
        repeat (go_quiet (first |(go_at_call 78;(with_reducible refine (jsa.calls _ _ l0_0 ((jb l1_0 x5_1).f0) true _ ?side1 ?side2 A14.out).mono ?_);(case side1=>exact Kd.jD HR0_0.out (Y4));(case side2=>exact HC0_0.out);rintro e w24 ⟨rfl,hb⟩;replace BK351:=am (jc (g:=gb351) (o:=.cells #[.slice A0_0 l0_0.length c0_0] 25 (0,0)) (Y11) hb);replace BK352:=am (jc (g:=gb352) (o:=.cells #[.slice (some ad353) l1_0.length c1_0] 28 (0,0)) (Y12) hb);replace BK354:=am (jc (g:=gb354) (o:=.cells #[.int .i64 ((jb l1_0 x5_1).f0), .int .i64 ((jb l1_0 x5_1).f1), .int .i64 ((jb l1_0 x5_1).f2), .int .i64 ((jb l1_0 x5_1).f3), .bool ((jb l1_0 x5_1).f4)] 66 (0,0)) (Y13) hb);replace HB:=am (jd (Y4) hb);(try clear hb);(try clear hb2);(try clear hk);(try clear hi);have hcz25_0:=bc0 BK354.out;have hcz25_1:=bc1 BK354.out;have hcz25_2:=bc2 BK354.out;have hcz25_3:=bc3 BK354.out;have hcz25_4:w24.cell? ⟨gb354,4,none⟩=some (.bool ((jb l1_0 x5_1).f4)):=(jC BK354.out 4).trans rfl;have hfz25_0:=ja BK354.out 0;have hfz25_1:=ja BK354.out 1;have hfz25_2:=ja BK354.out 2;have hfz25_3:=ja BK354.out 3;have hfz25_4:=ja BK354.out 4) |(go_at_call 79;(with_reducible refine (jF.calls ((jb l1_0 x5_1).f1) 0 99 true _ A16.out).mono ?_);rintro e w' ⟨rfl,⟨nd,rfl⟩⟩;(try first | exact ⟨rfl,_,World.drewN_drewN _ _ _⟩ | exact ⟨rfl,_,Eq.trans (World.drewN_drewN _ _ _) (congrArg (World.drewN _) (Nat.add_assoc _ _ _))⟩);have hcz26_0:=bc0 BK352.out;have hfz26_0:=ja BK352.out 0) |(go_at_call 80;(with_reducible refine (jqa.calls _ _ l1_0 x5_1 t357 _ ?side1 ?side2 A18.out).mono ?_);(case side1=>exact Y67);(case side2=>exact HC1_0.out);rintro e w27 ⟨rfl,hb⟩;replace BK351:=am (jc (g:=gb351) (o:=.cells #[.slice A0_0 l0_0.length c0_0] 25 (0,0)) (kq BK351.out) hb);replace BK352:=am (jc (g:=gb352) (o:=.cells #[.slice (some ad353) l1_0.length c1_0] 28 (0,0)) (kq BK352.out) hb);replace BK354:=am (jc (g:=gb354) (o:=.cells #[.int .i64 ((jb l1_0 x5_1).f0), .int .i64 ((jb l1_0 x5_1).f1), .int .i64 ((jb l1_0 x5_1).f2), .int .i64 ((jb l1_0 x5_1).f3), .bool ((jb l1_0 x5_1).f4)] 66 (0,0)) (kq BK354.out) hb);replace HB:=am (jd (Y4) hb);(try clear hb);(try clear hb2);(try clear hk);(try clear hi)));try go_wp2_with (first |(go_at_call 78;(with_reducible refine (jsa.calls _ _ l0_0 ((jb l1_0 x5_1).f0) true _ ?side1 ?side2 A14.out).mono ?_);(case side1=>exact Kd.jD HR0_0.out (Y4));(case side2=>exact HC0_0.out);rintro e w24 ⟨rfl,hb⟩;replace BK351:=am (jc (g:=gb351) (o:=.cells #[.slice A0_0 l0_0.length c0_0] 25 (0,0)) (Y11) hb);replace BK352:=am (jc (g:=gb352) (o:=.cells #[.slice (some ad353) l1_0.length c1_0] 28 (0,0)) (Y12) hb);replace BK354:=am (jc (g:=gb354) (o:=.cells #[.int .i64 ((jb l1_0 x5_1).f0), .int .i64 ((jb l1_0 x5_1).f1), .int .i64 ((jb l1_0 x5_1).f2), .int .i64 ((jb l1_0 x5_1).f3), .bool ((jb l1_0 x5_1).f4)] 66 (0,0)) (Y13) hb);replace HB:=am (jd (Y4) hb);(try clear hb);(try clear hb2);(try clear hk);(try clear hi);have hcz25_0:=bc0 BK354.out;have hcz25_1:=bc1 BK354.out;have hcz25_2:=bc2 BK354.out;have hcz25_3:=bc3 BK354.out;have hcz25_4:w24.cell? ⟨gb354,4,none⟩=some (.bool ((jb l1_0 x5_1).f4)):=(jC BK354.out 4).trans rfl;have hfz25_0:=ja BK354.out 0;have hfz25_1:=ja BK354.out 1;have hfz25_2:=ja BK354.out 2;have hfz25_3:=ja BK354.out 3;have hfz25_4:=ja BK354.out 4) |(go_at_call 79;(with_reducible refine (jF.calls ((jb l1_0 x5_1).f1) 0 99 true _ A16.out).mono ?_);rintro e w' ⟨rfl,⟨nd,rfl⟩⟩;(try first | exact ⟨rfl,_,World.drewN_drewN _ _ _⟩ | exact ⟨rfl,_,Eq.trans (World.drewN_drewN _ _ _) (congrArg (World.drewN _) (Nat.add_assoc _ _ _))⟩);have hcz26_0:=bc0 BK352.out;have hfz26_0:=ja BK352.out 0) |(go_at_call 80;(with_reducible refine (jqa.calls _ _ l1_0 x5_1 t357 _ ?side1 ?side2 A18.out).mono ?_);(case side1=>exact Y67);(case side2=>exact HC1_0.out);rintro e w27 ⟨rfl,hb⟩;replace BK351:=am (jc (g:=gb351) (o:=.cells #[.slice A0_0 l0_0.length c0_0] 25 (0,0)) (kq BK351.out) hb);replace BK352:=am (jc (g:=gb352) (o:=.cells #[.slice (some ad353) l1_0.length c1_0] 28 (0,0)) (kq BK352.out) hb);replace BK354:=am (jc (g:=gb354) (o:=.cells #[.int .i64 ((jb l1_0 x5_1).f0), .int .i64 ((jb l1_0 x5_1).f1), .int .i64 ((jb l1_0 x5_1).f2), .int .i64 ((jb l1_0 x5_1).f3), .bool ((jb l1_0 x5_1).f4)] 66 (0,0)) (kq BK354.out) hb);replace HB:=am (jd (Y4) hb);(try clear hb);(try clear hb2);(try clear hk);(try clear hi))))
        go_meet
        case rel=>exact ⟨_,(!t357),(sq),H',⟨by have:=HK1.out;first | omega | exact Nat.le_refl _⟩,⟨kq BK351.out⟩,⟨kq BK352.out⟩,⟨kq BK354.out⟩,⟨Y4⟩⟩
       ·replace c17:=Bool.eq_false_iff.mpr c17
        subst c17
        have H1:(jo.j1 k1 x5_1 true l0_0 l1_0)=some r:=by rw [if_neg (show ¬ (false=true) by decide)] at H;exact H
        clear H
        have H:=H1
        clear H1
        have H':=am H
        clear H
        have hnb28:=NB351_352.out
        have hnc28:=NB352_351.out
        have hnb29:=NB351_354.out
        have hnc29:=NB354_351.out
        have hcz30_0:=bc0 BK351.out
        have hfz30_0:=ja BK351.out 0
        have hnb31:=NB354_352.out
        have hnc31:=NB352_354.out
        have hcz32_0:=bc0 BK354.out
        have hcz32_1:=bc1 BK354.out
        have hcz32_2:=bc2 BK354.out
        have hcz32_3:=bc3 BK354.out
        have hcz32_4:w10.cell? ⟨gb354,4,none⟩=some (.bool false):=(jC BK354.out 4).trans rfl
        have hfz32_0:=ja BK354.out 0
        have hfz32_1:=ja BK354.out 1
        have hfz32_2:=ja BK354.out 2
        have hfz32_3:=ja BK354.out 3
        have hfz32_4:=ja BK354.out 4
        go_wp2_with (first |(go_at_call 78;(with_reducible refine (jsa.calls _ _ l0_0 ((jb l1_0 x5_1).f0) true _ ?side1 ?side2 A14.out).mono ?_);(case side1=>exact Kd.jD HR0_0.out (Y4));(case side2=>exact HC0_0.out);rintro e w33 ⟨rfl,hb⟩;replace BK351:=am (jc (g:=gb351) (o:=.cells #[.slice A0_0 l0_0.length c0_0] 25 (0,0)) (Y11) hb);replace BK352:=am (jc (g:=gb352) (o:=.cells #[.slice (some ad353) l1_0.length c1_0] 28 (0,0)) (Y12) hb);replace BK354:=am (jc (g:=gb354) (o:=.cells #[.int .i64 ((jb l1_0 x5_1).f0), .int .i64 ((jb l1_0 x5_1).f1), .int .i64 ((jb l1_0 x5_1).f2), .int .i64 ((jb l1_0 x5_1).f3), .bool ((jb l1_0 x5_1).f4)] 66 (0,0)) (Y13) hb);replace HB:=am (jd (Y4) hb);(try clear hb);(try clear hb2);(try clear hk);(try clear hi);have hcz34_0:=bc0 BK354.out;have hcz34_1:=bc1 BK354.out;have hcz34_2:=bc2 BK354.out;have hcz34_3:=bc3 BK354.out;have hcz34_4:w33.cell? ⟨gb354,4,none⟩=some (.bool ((jb l1_0 x5_1).f4)):=(jC BK354.out 4).trans rfl;have hfz34_0:=ja BK354.out 0;have hfz34_1:=ja BK354.out 1;have hfz34_2:=ja BK354.out 2;have hfz34_3:=ja BK354.out 3;have hfz34_4:=ja BK354.out 4) |(go_at_call 79;(with_reducible refine (jF.calls ((jb l1_0 x5_1).f1) 0 99 false _ A16.out).mono ?_);rintro e w' ⟨rfl,⟨nd,rfl⟩⟩;(try first | exact ⟨rfl,_,World.drewN_drewN _ _ _⟩ | exact ⟨rfl,_,Eq.trans (World.drewN_drewN _ _ _) (congrArg (World.drewN _) (Nat.add_assoc _ _ _))⟩)))
        repeat (go_quiet (first |(go_at_call 78;(with_reducible refine (jsa.calls _ _ l0_0 ((jb l1_0 x5_1).f0) true _ ?side1 ?side2 A14.out).mono ?_);(case side1=>exact Kd.jD HR0_0.out (Y4));(case side2=>exact HC0_0.out);rintro e w33 ⟨rfl,hb⟩;replace BK351:=am (jc (g:=gb351) (o:=.cells #[.slice A0_0 l0_0.length c0_0] 25 (0,0)) (Y11) hb);replace BK352:=am (jc (g:=gb352) (o:=.cells #[.slice (some ad353) l1_0.length c1_0] 28 (0,0)) (Y12) hb);replace BK354:=am (jc (g:=gb354) (o:=.cells #[.int .i64 ((jb l1_0 x5_1).f0), .int .i64 ((jb l1_0 x5_1).f1), .int .i64 ((jb l1_0 x5_1).f2), .int .i64 ((jb l1_0 x5_1).f3), .bool ((jb l1_0 x5_1).f4)] 66 (0,0)) (Y13) hb);replace HB:=am (jd (Y4) hb);(try clear hb);(try clear hb2);(try clear hk);(try clear hi);have hcz34_0:=bc0 BK354.out;have hcz34_1:=bc1 BK354.out;have hcz34_2:=bc2 BK354.out;have hcz34_3:=bc3 BK354.out;have hcz34_4:w33.cell? ⟨gb354,4,none⟩=some (.bool ((jb l1_0 x5_1).f4)):=(jC BK354.out 4).trans rfl;have hfz34_0:=ja BK354.out 0;have hfz34_1:=ja BK354.out 1;have hfz34_2:=ja BK354.out 2;have hfz34_3:=ja BK354.out 3;have hfz34_4:=ja BK354.out 4) |(go_at_call 79;(with_reducible refine (jF.calls ((jb l1_0 x5_1).f1) 0 99 false _ A16.out).mono ?_);rintro e w' ⟨rfl,⟨nd,rfl⟩⟩;(try first | exact ⟨rfl,_,World.drewN_drewN _ _ _⟩ | exact ⟨rfl,_,Eq.trans (World.drewN_drewN _ _ _) (congrArg (World.drewN _) (Nat.add_assoc _ _ _))⟩)));try go_wp2_with (first |(go_at_call 78;(with_reducible refine (jsa.calls _ _ l0_0 ((jb l1_0 x5_1).f0) true _ ?side1 ?side2 A14.out).mono ?_);(case side1=>exact Kd.jD HR0_0.out (Y4));(case side2=>exact HC0_0.out);rintro e w33 ⟨rfl,hb⟩;replace BK351:=am (jc (g:=gb351) (o:=.cells #[.slice A0_0 l0_0.length c0_0] 25 (0,0)) (Y11) hb);replace BK352:=am (jc (g:=gb352) (o:=.cells #[.slice (some ad353) l1_0.length c1_0] 28 (0,0)) (Y12) hb);replace BK354:=am (jc (g:=gb354) (o:=.cells #[.int .i64 ((jb l1_0 x5_1).f0), .int .i64 ((jb l1_0 x5_1).f1), .int .i64 ((jb l1_0 x5_1).f2), .int .i64 ((jb l1_0 x5_1).f3), .bool ((jb l1_0 x5_1).f4)] 66 (0,0)) (Y13) hb);replace HB:=am (jd (Y4) hb);(try clear hb);(try clear hb2);(try clear hk);(try clear hi);have hcz34_0:=bc0 BK354.out;have hcz34_1:=bc1 BK354.out;have hcz34_2:=bc2 BK354.out;have hcz34_3:=bc3 BK354.out;have hcz34_4:w33.cell? ⟨gb354,4,none⟩=some (.bool ((jb l1_0 x5_1).f4)):=(jC BK354.out 4).trans rfl;have hfz34_0:=ja BK354.out 0;have hfz34_1:=ja BK354.out 1;have hfz34_2:=ja BK354.out 2;have hfz34_3:=ja BK354.out 3;have hfz34_4:=ja BK354.out 4) |(go_at_call 79;(with_reducible refine (jF.calls ((jb l1_0 x5_1).f1) 0 99 false _ A16.out).mono ?_);rintro e w' ⟨rfl,⟨nd,rfl⟩⟩;(try first | exact ⟨rfl,_,World.drewN_drewN _ _ _⟩ | exact ⟨rfl,_,Eq.trans (World.drewN_drewN _ _ _) (congrArg (World.drewN _) (Nat.add_assoc _ _ _))⟩))))
        go_meet
        case rel=>exact ⟨_,(true),(sq),H',⟨by have:=HK1.out;first | omega | exact Nat.le_refl _⟩,⟨kq BK351.out⟩,⟨kq BK352.out⟩,⟨kq BK354.out⟩,⟨Y4⟩⟩
      ·replace c15:=Bool.eq_false_iff.mpr c15
       subst c15
       have H1:(jo.j1 k1 x5_1 true l0_0 l1_0)=some r:=by rw [if_neg (show ¬ (false=true) by decide)] at H;exact H
       clear H
       have H:=H1
       clear H1
       have H':=am H
       clear H
       have hnb35:=NB351_352.out
       have hnc35:=NB352_351.out
       have hnb36:=NB351_354.out
       have hnc36:=NB354_351.out
       have hcz37_0:=bc0 BK351.out
       have hfz37_0:=ja BK351.out 0
       have hnb38:=NB354_352.out
       have hnc38:=NB352_354.out
       have hcz39_0:=bc0 BK354.out
       have hcz39_1:=bc1 BK354.out
       have hcz39_2:=bc2 BK354.out
       have hcz39_3:=bc3 BK354.out
       have hcz39_4:w10.cell? ⟨gb354,4,none⟩=some (.bool false):=(jC BK354.out 4).trans rfl
       have hfz39_0:=ja BK354.out 0
       have hfz39_1:=ja BK354.out 1
       have hfz39_2:=ja BK354.out 2
       have hfz39_3:=ja BK354.out 3
       have hfz39_4:=ja BK354.out 4
       go_wp2_with (first |(go_at_call 78;(with_reducible refine (jsa.calls _ _ l0_0 ((jb l1_0 x5_1).f0) false _ ?side1 ?side2 A14.out).mono ?_);(case side1=>exact Kd.jD HR0_0.out (Y4));(case side2=>exact HC0_0.out);rintro e w40 ⟨rfl,hb⟩;replace BK351:=am (jc (g:=gb351) (o:=.cells #[.slice A0_0 l0_0.length c0_0] 25 (0,0)) (Y11) hb);replace BK352:=am (jc (g:=gb352) (o:=.cells #[.slice (some ad353) l1_0.length c1_0] 28 (0,0)) (Y12) hb);replace BK354:=am (jc (g:=gb354) (o:=.cells #[.int .i64 ((jb l1_0 x5_1).f0), .int .i64 ((jb l1_0 x5_1).f1), .int .i64 ((jb l1_0 x5_1).f2), .int .i64 ((jb l1_0 x5_1).f3), .bool ((jb l1_0 x5_1).f4)] 66 (0,0)) (Y13) hb);replace HB:=am (jd (Y4) hb);(try clear hb);(try clear hb2);(try clear hk);(try clear hi)))
       repeat (go_quiet (first |(go_at_call 78;(with_reducible refine (jsa.calls _ _ l0_0 ((jb l1_0 x5_1).f0) false _ ?side1 ?side2 A14.out).mono ?_);(case side1=>exact Kd.jD HR0_0.out (Y4));(case side2=>exact HC0_0.out);rintro e w40 ⟨rfl,hb⟩;replace BK351:=am (jc (g:=gb351) (o:=.cells #[.slice A0_0 l0_0.length c0_0] 25 (0,0)) (Y11) hb);replace BK352:=am (jc (g:=gb352) (o:=.cells #[.slice (some ad353) l1_0.length c1_0] 28 (0,0)) (Y12) hb);replace BK354:=am (jc (g:=gb354) (o:=.cells #[.int .i64 ((jb l1_0 x5_1).f0), .int .i64 ((jb l1_0 x5_1).f1), .int .i64 ((jb l1_0 x5_1).f2), .int .i64 ((jb l1_0 x5_1).f3), .bool ((jb l1_0 x5_1).f4)] 66 (0,0)) (Y13) hb);replace HB:=am (jd (Y4) hb);(try clear hb);(try clear hb2);(try clear hk);(try clear hi)));try go_wp2_with (first |(go_at_call 78;(with_reducible refine (jsa.calls _ _ l0_0 ((jb l1_0 x5_1).f0) false _ ?side1 ?side2 A14.out).mono ?_);(case side1=>exact Kd.jD HR0_0.out (Y4));(case side2=>exact HC0_0.out);rintro e w40 ⟨rfl,hb⟩;replace BK351:=am (jc (g:=gb351) (o:=.cells #[.slice A0_0 l0_0.length c0_0] 25 (0,0)) (Y11) hb);replace BK352:=am (jc (g:=gb352) (o:=.cells #[.slice (some ad353) l1_0.length c1_0] 28 (0,0)) (Y12) hb);replace BK354:=am (jc (g:=gb354) (o:=.cells #[.int .i64 ((jb l1_0 x5_1).f0), .int .i64 ((jb l1_0 x5_1).f1), .int .i64 ((jb l1_0 x5_1).f2), .int .i64 ((jb l1_0 x5_1).f3), .bool ((jb l1_0 x5_1).f4)] 66 (0,0)) (Y13) hb);replace HB:=am (jd (Y4) hb);(try clear hb);(try clear hb2);(try clear hk);(try clear hi))))
       go_meet
       case rel=>exact ⟨_,(true),(sq),H',⟨by have:=HK1.out;first | omega | exact Nat.le_refl _⟩,⟨kq BK351.out⟩,⟨kq BK352.out⟩,⟨kq BK354.out⟩,⟨Y4⟩⟩
     case rest =>
      clear HC7
      try clear c1
      try clear c2
      try clear p2
      try clear c3
      try clear p3
      try clear q3
      try clear hx3
      try clear c4
      try clear c5
      try clear c5b0
      try clear c6
      try clear c6b0
      try clear c8
      try clear c11
      try clear c12
      try clear c15
      try clear c17
      try clear c19
      try clear c20
      try clear c22
      try clear c28
      try clear c29
      try clear c31
      try clear c35
      try clear p35
      try clear q35
      try clear hx35
      try clear c36
      try clear c38
      try clear hcz13_0
      try clear hcz13_1
      try clear hcz13_2
      try clear hcz13_3
      try clear hcz13_4
      try clear hcz21_0
      try clear hcz23_0
      try clear hcz23_1
      try clear hcz23_2
      try clear hcz23_3
      try clear hcz23_4
      try clear hcz25_0
      try clear hcz25_1
      try clear hcz25_2
      try clear hcz25_3
      try clear hcz25_4
      try clear hcz26_0
      try clear hcz30_0
      try clear hcz32_0
      try clear hcz32_1
      try clear hcz32_2
      try clear hcz32_3
      try clear hcz32_4
      try clear hcz34_0
      try clear hcz34_1
      try clear hcz34_2
      try clear hcz34_3
      try clear hcz34_4
      try clear hcz37_0
      try clear hcz39_0
      try clear hcz39_1
      try clear hcz39_2
      try clear hcz39_3
      try clear hcz39_4
      try clear hcz9_0
      try clear hfz13_0
      try clear hfz13_1
      try clear hfz13_2
      try clear hfz13_3
      try clear hfz13_4
      try clear hfz21_0
      try clear hfz23_0
      try clear hfz23_1
      try clear hfz23_2
      try clear hfz23_3
      try clear hfz23_4
      try clear hfz25_0
      try clear hfz25_1
      try clear hfz25_2
      try clear hfz25_3
      try clear hfz25_4
      try clear hfz26_0
      try clear hfz30_0
      try clear hfz32_0
      try clear hfz32_1
      try clear hfz32_2
      try clear hfz32_3
      try clear hfz32_4
      try clear hfz34_0
      try clear hfz34_1
      try clear hfz34_2
      try clear hfz34_3
      try clear hfz34_4
      try clear hfz37_0
      try clear hfz39_0
      try clear hfz39_1
      try clear hfz39_2
      try clear hfz39_3
      try clear hfz39_4
      try clear hfz9_0
      try clear hx353_0
      try clear hx353_1
      try clear hx353_2
      try clear hx353_3
      try clear hx353_4
      try clear p2
      try clear p353
      try clear q353
      obtain ⟨kq,x37_6,rfl,HA,HJ6,BK351,BK352,BK354,HB⟩:=hcut
      cases kq with
      | zero=>exact absurd HA.out (by simp [jo.j1])
      | succ kj6 =>
       have H:=HA.out
       clear HA
       simp only [jo.j1] at H
       by_cases c41:x37_6=true
       ·subst c41
        have H1:(some false)=some r:=by rw [if_pos rfl] at H;exact H
        clear H
        have H:=H1
        clear H1
        obtain rfl:=Option.some.inj H
        go_wp2
        repeat (go_quiet (fail);try go_wp2)
        go_ret
        exact ⟨Y1,Y4⟩
       ·replace c41:=Bool.eq_false_iff.mpr c41
        subst c41
        have H1:(jo.l0 kj6 (wrap64 (x5_1+1)) l0_0 l1_0)=some r:=by rw [if_neg (show ¬ (false=true) by decide)] at H;exact H
        clear H
        have H:=H1
        clear H1
        have H':=am H
        clear H
        go_wp2
        repeat (go_quiet (fail);try go_wp2)
        go_roundg kj6
        case measure=>have:=HK1.out;have:=HJ6.out;omega
        case rel=>exact ⟨(wrap64 (x5_1+1)),(sq),H',⟨by have:=HK1.out;have:=HJ6.out;omega⟩,⟨kq BK351.out⟩,⟨kq BK352.out⟩,⟨Y4⟩⟩
    ·rw [if_neg c6] at H
     exact absurd H (by simp)
   ·rw [if_neg c5] at H
    have c5b0:decide (x5_1<(l1_0.length:Int))=false:=dzF c5
    clear c5
    have H':=am H
    clear H
    have hnb42:=NB352_351.out
    have hnc42:=NB351_352.out
    have hcz43_0:=bc0 BK352.out
    have hfz43_0:=ja BK352.out 0
    go_wp2
    repeat (go_quiet (fail);try go_wp2)
    go_loopg [7] k1 (fun kq v7 w'=>∃ (x7_2:Int),v7=.int .i64 x7_2∧jH (jo.l1 kq x7_2 l0_0 l1_0=some r)∧jH (kq≤k1)∧jH (w'.heap[gb351]?=some (.cells #[(.slice A0_0 l0_0.length c0_0)] 25 (0,0)))∧jH (w'.heap[gb352]?=some (.cells #[(.slice A1_0 l1_0.length c1_0)] 28 (0,0)))∧jH (Below w.heap.size w w'))
    case atStart=>exact ⟨(0),(sq),H',⟨Nat.le_refl _⟩,⟨kq BK351.out⟩,⟨kq BK352.out⟩,⟨Y3⟩⟩
    case round =>
     clear H'
     try clear c1
     try clear c2
     try clear p2
     try clear c3
     try clear p3
     try clear q3
     try clear hx3
     try clear c4
     try clear c5
     try clear c5b0
     try clear c6
     try clear c6b0
     try clear p6
     try clear c8
     try clear c11
     try clear c12
     try clear c15
     try clear c17
     try clear c19
     try clear c20
     try clear c22
     try clear c28
     try clear c29
     try clear c31
     try clear c35
     try clear p35
     try clear q35
     try clear hx35
     try clear c36
     try clear c38
     try clear c41
     try clear c42
     try clear hcz13_0
     try clear hcz13_1
     try clear hcz13_2
     try clear hcz13_3
     try clear hcz13_4
     try clear hcz21_0
     try clear hcz23_0
     try clear hcz23_1
     try clear hcz23_2
     try clear hcz23_3
     try clear hcz23_4
     try clear hcz25_0
     try clear hcz25_1
     try clear hcz25_2
     try clear hcz25_3
     try clear hcz25_4
     try clear hcz26_0
     try clear hcz30_0
     try clear hcz32_0
     try clear hcz32_1
     try clear hcz32_2
     try clear hcz32_3
     try clear hcz32_4
     try clear hcz34_0
     try clear hcz34_1
     try clear hcz34_2
     try clear hcz34_3
     try clear hcz34_4
     try clear hcz37_0
     try clear hcz39_0
     try clear hcz39_1
     try clear hcz39_2
     try clear hcz39_3
     try clear hcz39_4
     try clear hcz43_0
     try clear hcz9_0
     try clear hfz13_0
     try clear hfz13_1
     try clear hfz13_2
     try clear hfz13_3
     try clear hfz13_4
     try clear hfz21_0
     try clear hfz23_0
     try clear hfz23_1
     try clear hfz23_2
     try clear hfz23_3
     try clear hfz23_4
     try clear hfz25_0
     try clear hfz25_1
     try clear hfz25_2
     try clear hfz25_3
     try clear hfz25_4
     try clear hfz26_0
     try clear hfz30_0
     try clear hfz32_0
     try clear hfz32_1
     try clear hfz32_2
     try clear hfz32_3
     try clear hfz32_4
     try clear hfz34_0
     try clear hfz34_1
     try clear hfz34_2
     try clear hfz34_3
     try clear hfz34_4
     try clear hfz37_0
     try clear hfz39_0
     try clear hfz39_1
     try clear hfz39_2
     try clear hfz39_3
     try clear hfz39_4
     try clear hfz43_0
     try clear hfz9_0
     try clear hx353_0
     try clear hx353_1
     try clear hx353_2
     try clear hx353_3
     try clear hx353_4
     try clear p2
     try clear p3
     try clear p35
     try clear p353
     try clear q3
     try clear q35
     try clear q353
     obtain ⟨x7_2,rfl,HA,HK2,BK351,BK352,HB⟩:=hrel
     cases gk with
     | zero=>exact absurd HA.out (by simp [jo.l1])
     | succ k2 =>
      have H:=HA.out
      clear HA
      simp only [jo.l1] at H
      by_cases c44:x7_2<(l1_0.length:Int)
      ·rw [if_pos c44] at H
       have c44b0:decide (x7_2<(l1_0.length:Int))=true:=dzT c44
       clear c44
       replace H:=bzS H
       obtain ⟨t359,A450,H⟩:=H
       replace H:(if 0≤(wrap64 ((t359.length:Int) - 1)) then (if (wrap64 ((t359.length:Int) - 1))<(t359.length:Int) then (if 0≤(rd t359 (wrap64 ((t359.length:Int) - 1))) then (if (rd t359 (wrap64 ((t359.length:Int) - 1)))<(l1_0.length:Int) then (if ((jb l1_0 (rd t359 (wrap64 ((t359.length:Int) - 1)))).f3)≥0 then (some false) else (jo.l1 k2 (wrap64 (x7_2+1)) l0_0 l1_0)) else (none)) else (none)) else (none)) else (none))=some r:=H
       have A45:=am A450
       clear A450
       obtain ⟨ji46,hji46⟩:∃ j_:Int,(wrap64 ((t359.length:Int) - 1))=j_:=⟨_,rfl⟩
       replace H:(if 0≤(ji46) then (if (ji46)<(t359.length:Int) then (if 0≤(rd t359 (ji46)) then (if (rd t359 (ji46))<(l1_0.length:Int) then (if ((jb l1_0 (rd t359 (ji46))).f3)≥0 then (some false) else (jo.l1 k2 (wrap64 (x7_2+1)) l0_0 l1_0)) else (none)) else (none)) else (none)) else (none))=some r:=by first |(rw [hji46] at H;exact H) |(simp only [hji46] at H ⊢;exact H)
       (try rw [hji46] at A45)
       have hji46w:(IntKind.i64.wrap ((t359.length:Int) - 1))=ji46:=(jEb _).trans hji46
       by_cases c47:0≤(ji46)
       ·rw [if_pos c47] at H
        have c47b0:decide (0≤(ji46))=true:=dzT c47
        clear c47
        by_cases c48:(ji46)<(t359.length:Int)
        ·rw [if_pos c48] at H
         have c48b0:decide ((ji46)<(t359.length:Int))=true:=dzT c48
         clear c48
         by_cases c49:0≤(rd t359 (ji46))
         ·rw [if_pos c49] at H
          have c49b0:decide (0≤(rd t359 (ji46)))=true:=dzT c49
          clear c49
          by_cases c50:(rd t359 (ji46))<(l1_0.length:Int)
          ·rw [if_pos c50] at H
           have c50b0:decide ((rd t359 (ji46))<(l1_0.length:Int))=true:=dzT c50
           clear c50
           by_cases c51:((jb l1_0 (rd t359 (ji46))).f3)≥0
           ·rw [if_pos c51] at H
            have c51b0:decide (0≤((jb l1_0 (rd t359 (ji46))).f3))=true:=dzT c51
            clear c51
            obtain rfl:=Option.some.inj H
            have hnb52:=NB352_351.out
            have hnc52:=NB351_352.out
            have hcz53_0:=bc0 BK352.out
            have hfz53_0:=ja BK352.out 0
            go_wp2_with (first |(go_at_call 81;(with_reducible refine (jU.calls k2 _ _ l1_0 x7_2 t359 _ ?side1 ?side2 A45.out).mono ?_);(case side1=>exact cq (Kd.jD HR1_0.out HB.out));(case side2=>exact HC1_0.out);rintro e w54 ⟨v360,rfl,ho0,hb⟩;have HO361:=am (Kd.jGa ho0 (jE (Y3)));replace BK351:=am (jc (g:=gb351) (o:=.cells #[.slice A0_0 l0_0.length c0_0] 25 (0,0)) (kq BK351.out) hb);replace BK352:=am (jc (g:=gb352) (o:=.cells #[.slice A1_0 l1_0.length c1_0] 28 (0,0)) (kq BK352.out) hb);replace HB:=am (jd (Y3) hb);(try clear hb);(try clear hb2);(try clear hk);(try clear hi);(try clear ho0);have hcz55_0:=bc0 BK352.out;have hfz55_0:=ja BK352.out 0;obtain ⟨Ao56,co56,eo56⟩:=Kd.jEa HO361.out;subst eo56;have p362:0≤((ji46):Int):=ozD (uq);have q362:(ji46)<(t359.length:Int):=ozD (uq);obtain ⟨ad362,e362,hx362_0⟩:=Kd.jtb (Kd.jN HO361.out).2.2 (ji46) p362 q362;cases e362;replace p362:=ezT p362;replace q362:=ezT q362;have p363:0≤((rd t359 (ji46)):Int):=ozD (uq);have q363:(rd t359 (ji46))<(l1_0.length:Int):=ozD (uq);obtain ⟨ad363,e363,hx363_0,hx363_1,hx363_2,hx363_3,hx363_4⟩:=jLa HR1_0.out (rd t359 (ji46)) p363 q363;cases e363;replace hx363_0:=cb HB.out hx363_0;replace hx363_1:=cb HB.out hx363_1;replace hx363_2:=cb HB.out hx363_2;replace hx363_3:=cb HB.out hx363_3;replace hx363_4:=cb HB.out hx363_4;replace p363:=ezT p363;replace q363:=ezT q363))
            repeat (go_quiet (first |(go_at_call 81;(with_reducible refine (jU.calls k2 _ _ l1_0 x7_2 t359 _ ?side1 ?side2 A45.out).mono ?_);(case side1=>exact cq (Kd.jD HR1_0.out HB.out));(case side2=>exact HC1_0.out);rintro e w54 ⟨v360,rfl,ho0,hb⟩;have HO361:=am (Kd.jGa ho0 (jE (Y3)));replace BK351:=am (jc (g:=gb351) (o:=.cells #[.slice A0_0 l0_0.length c0_0] 25 (0,0)) (kq BK351.out) hb);replace BK352:=am (jc (g:=gb352) (o:=.cells #[.slice A1_0 l1_0.length c1_0] 28 (0,0)) (kq BK352.out) hb);replace HB:=am (jd (Y3) hb);(try clear hb);(try clear hb2);(try clear hk);(try clear hi);(try clear ho0);have hcz55_0:=bc0 BK352.out;have hfz55_0:=ja BK352.out 0;obtain ⟨Ao56,co56,eo56⟩:=Kd.jEa HO361.out;subst eo56;have p362:0≤((ji46):Int):=ozD (uq);have q362:(ji46)<(t359.length:Int):=ozD (uq);obtain ⟨ad362,e362,hx362_0⟩:=Kd.jtb (Kd.jN HO361.out).2.2 (ji46) p362 q362;cases e362;replace p362:=ezT p362;replace q362:=ezT q362;have p363:0≤((rd t359 (ji46)):Int):=ozD (uq);have q363:(rd t359 (ji46))<(l1_0.length:Int):=ozD (uq);obtain ⟨ad363,e363,hx363_0,hx363_1,hx363_2,hx363_3,hx363_4⟩:=jLa HR1_0.out (rd t359 (ji46)) p363 q363;cases e363;replace hx363_0:=cb HB.out hx363_0;replace hx363_1:=cb HB.out hx363_1;replace hx363_2:=cb HB.out hx363_2;replace hx363_3:=cb HB.out hx363_3;replace hx363_4:=cb HB.out hx363_4;replace p363:=ezT p363;replace q363:=ezT q363));try go_wp2_with (first |(go_at_call 81;(with_reducible refine (jU.calls k2 _ _ l1_0 x7_2 t359 _ ?side1 ?side2 A45.out).mono ?_);(case side1=>exact cq (Kd.jD HR1_0.out HB.out));(case side2=>exact HC1_0.out);rintro e w54 ⟨v360,rfl,ho0,hb⟩;have HO361:=am (Kd.jGa ho0 (jE (Y3)));replace BK351:=am (jc (g:=gb351) (o:=.cells #[.slice A0_0 l0_0.length c0_0] 25 (0,0)) (kq BK351.out) hb);replace BK352:=am (jc (g:=gb352) (o:=.cells #[.slice A1_0 l1_0.length c1_0] 28 (0,0)) (kq BK352.out) hb);replace HB:=am (jd (Y3) hb);(try clear hb);(try clear hb2);(try clear hk);(try clear hi);(try clear ho0);have hcz55_0:=bc0 BK352.out;have hfz55_0:=ja BK352.out 0;obtain ⟨Ao56,co56,eo56⟩:=Kd.jEa HO361.out;subst eo56;have p362:0≤((ji46):Int):=ozD (uq);have q362:(ji46)<(t359.length:Int):=ozD (uq);obtain ⟨ad362,e362,hx362_0⟩:=Kd.jtb (Kd.jN HO361.out).2.2 (ji46) p362 q362;cases e362;replace p362:=ezT p362;replace q362:=ezT q362;have p363:0≤((rd t359 (ji46)):Int):=ozD (uq);have q363:(rd t359 (ji46))<(l1_0.length:Int):=ozD (uq);obtain ⟨ad363,e363,hx363_0,hx363_1,hx363_2,hx363_3,hx363_4⟩:=jLa HR1_0.out (rd t359 (ji46)) p363 q363;cases e363;replace hx363_0:=cb HB.out hx363_0;replace hx363_1:=cb HB.out hx363_1;replace hx363_2:=cb HB.out hx363_2;replace hx363_3:=cb HB.out hx363_3;replace hx363_4:=cb HB.out hx363_4;replace p363:=ezT p363;replace q363:=ezT q363)))
            go_ret
            exact ⟨by first | rfl |(simp [errW_none,errW_some] <;> rfl) |(simp only [← hji46];first | rfl |(simp [errW_none,errW_some] <;> rfl)) |(simp [*,errW_none,errW_some] <;> rfl),Y3⟩
           ·rw [if_neg c51] at H
            have c51b0:decide (0≤((jb l1_0 (rd t359 (ji46))).f3))=false:=dzF c51
            clear c51
            have H':=am H
            clear H
            have hnb57:=NB352_351.out
            have hnc57:=NB351_352.out
            have hcz58_0:=bc0 BK352.out
            have hfz58_0:=ja BK352.out 0
            go_wp2_with (first |(go_at_call 81;(with_reducible refine (jU.calls k2 _ _ l1_0 x7_2 t359 _ ?side1 ?side2 A45.out).mono ?_);(case side1=>exact cq (Kd.jD HR1_0.out HB.out));(case side2=>exact HC1_0.out);rintro e w59 ⟨v360,rfl,ho0,hb⟩;have HO361:=am (Kd.jGa ho0 (jE (Y3)));replace BK351:=am (jc (g:=gb351) (o:=.cells #[.slice A0_0 l0_0.length c0_0] 25 (0,0)) (kq BK351.out) hb);replace BK352:=am (jc (g:=gb352) (o:=.cells #[.slice A1_0 l1_0.length c1_0] 28 (0,0)) (kq BK352.out) hb);replace HB:=am (jd (Y3) hb);(try clear hb);(try clear hb2);(try clear hk);(try clear hi);(try clear ho0);have hcz60_0:=bc0 BK352.out;have hfz60_0:=ja BK352.out 0;obtain ⟨Ao61,co61,eo61⟩:=Kd.jEa HO361.out;subst eo61;have p362:0≤((ji46):Int):=ozD (uq);have q362:(ji46)<(t359.length:Int):=ozD (uq);obtain ⟨ad362,e362,hx362_0⟩:=Kd.jtb (Kd.jN HO361.out).2.2 (ji46) p362 q362;cases e362;replace p362:=ezT p362;replace q362:=ezT q362;have p363:0≤((rd t359 (ji46)):Int):=ozD (uq);have q363:(rd t359 (ji46))<(l1_0.length:Int):=ozD (uq);obtain ⟨ad363,e363,hx363_0,hx363_1,hx363_2,hx363_3,hx363_4⟩:=jLa HR1_0.out (rd t359 (ji46)) p363 q363;cases e363;replace hx363_0:=cb HB.out hx363_0;replace hx363_1:=cb HB.out hx363_1;replace hx363_2:=cb HB.out hx363_2;replace hx363_3:=cb HB.out hx363_3;replace hx363_4:=cb HB.out hx363_4;replace p363:=ezT p363;replace q363:=ezT q363))
            repeat (go_quiet (first |(go_at_call 81;(with_reducible refine (jU.calls k2 _ _ l1_0 x7_2 t359 _ ?side1 ?side2 A45.out).mono ?_);(case side1=>exact cq (Kd.jD HR1_0.out HB.out));(case side2=>exact HC1_0.out);rintro e w59 ⟨v360,rfl,ho0,hb⟩;have HO361:=am (Kd.jGa ho0 (jE (Y3)));replace BK351:=am (jc (g:=gb351) (o:=.cells #[.slice A0_0 l0_0.length c0_0] 25 (0,0)) (kq BK351.out) hb);replace BK352:=am (jc (g:=gb352) (o:=.cells #[.slice A1_0 l1_0.length c1_0] 28 (0,0)) (kq BK352.out) hb);replace HB:=am (jd (Y3) hb);(try clear hb);(try clear hb2);(try clear hk);(try clear hi);(try clear ho0);have hcz60_0:=bc0 BK352.out;have hfz60_0:=ja BK352.out 0;obtain ⟨Ao61,co61,eo61⟩:=Kd.jEa HO361.out;subst eo61;have p362:0≤((ji46):Int):=ozD (uq);have q362:(ji46)<(t359.length:Int):=ozD (uq);obtain ⟨ad362,e362,hx362_0⟩:=Kd.jtb (Kd.jN HO361.out).2.2 (ji46) p362 q362;cases e362;replace p362:=ezT p362;replace q362:=ezT q362;have p363:0≤((rd t359 (ji46)):Int):=ozD (uq);have q363:(rd t359 (ji46))<(l1_0.length:Int):=ozD (uq);obtain ⟨ad363,e363,hx363_0,hx363_1,hx363_2,hx363_3,hx363_4⟩:=jLa HR1_0.out (rd t359 (ji46)) p363 q363;cases e363;replace hx363_0:=cb HB.out hx363_0;replace hx363_1:=cb HB.out hx363_1;replace hx363_2:=cb HB.out hx363_2;replace hx363_3:=cb HB.out hx363_3;replace hx363_4:=cb HB.out hx363_4;replace p363:=ezT p363;replace q363:=ezT q363));try go_wp2_with (first |(go_at_call 81;(with_reducible refine (jU.calls k2 _ _ l1_0 x7_2 t359 _ ?side1 ?side2 A45.out).mono ?_);(case side1=>exact cq (Kd.jD HR1_0.out HB.out));(case side2=>exact HC1_0.out);rintro e w59 ⟨v360,rfl,ho0,hb⟩;have HO361:=am (Kd.jGa ho0 (jE (Y3)));replace BK351:=am (jc (g:=gb351) (o:=.cells #[.slice A0_0 l0_0.length c0_0] 25 (0,0)) (kq BK351.out) hb);replace BK352:=am (jc (g:=gb352) (o:=.cells #[.slice A1_0 l1_0.length c1_0] 28 (0,0)) (kq BK352.out) hb);replace HB:=am (jd (Y3) hb);(try clear hb);(try clear hb2);(try clear hk);(try clear hi);(try clear ho0);have hcz60_0:=bc0 BK352.out;have hfz60_0:=ja BK352.out 0;obtain ⟨Ao61,co61,eo61⟩:=Kd.jEa HO361.out;subst eo61;have p362:0≤((ji46):Int):=ozD (uq);have q362:(ji46)<(t359.length:Int):=ozD (uq);obtain ⟨ad362,e362,hx362_0⟩:=Kd.jtb (Kd.jN HO361.out).2.2 (ji46) p362 q362;cases e362;replace p362:=ezT p362;replace q362:=ezT q362;have p363:0≤((rd t359 (ji46)):Int):=ozD (uq);have q363:(rd t359 (ji46))<(l1_0.length:Int):=ozD (uq);obtain ⟨ad363,e363,hx363_0,hx363_1,hx363_2,hx363_3,hx363_4⟩:=jLa HR1_0.out (rd t359 (ji46)) p363 q363;cases e363;replace hx363_0:=cb HB.out hx363_0;replace hx363_1:=cb HB.out hx363_1;replace hx363_2:=cb HB.out hx363_2;replace hx363_3:=cb HB.out hx363_3;replace hx363_4:=cb HB.out hx363_4;replace p363:=ezT p363;replace q363:=ezT q363)))
            go_roundg k2
            case measure=>have:=HK1.out;have:=HK2.out;omega
            case rel=>exact ⟨(wrap64 (x7_2+1)),(sq),H',⟨by have:=HK1.out;have:=HK2.out;omega⟩,⟨kq BK351.out⟩,⟨kq BK352.out⟩,⟨Y3⟩⟩
          ·rw [if_neg c50] at H
           exact absurd H (by simp)
         ·rw [if_neg c49] at H
          exact absurd H (by simp)
        ·rw [if_neg c48] at H
         exact absurd H (by simp)
       ·rw [if_neg c47] at H
        exact absurd H (by simp)
      ·rw [if_neg c44] at H
       have c44b0:decide (x7_2<(l1_0.length:Int))=false:=dzF c44
       clear c44
       replace H:=bzS H
       obtain ⟨t358,A620,H⟩:=H
       replace H:(if t358=true then (some (decide ((l1_0.length:Int)≤24))) else (some false))=some r:=H
       have A62:=am A620
       clear A620
       by_cases c63:t358=true
       ·subst c63
        have H1:(some (decide ((l1_0.length:Int)≤24)))=some r:=by rw [if_pos rfl] at H;exact H
        clear H
        have H:=H1
        clear H1
        obtain rfl:=Option.some.inj H
        have hnb64:=NB352_351.out
        have hnc64:=NB351_352.out
        have hcz65_0:=bc0 BK352.out
        have hfz65_0:=ja BK352.out 0
        have hcz66_0:=bc0 BK351.out
        have hfz66_0:=ja BK351.out 0
        go_wp2_with (first |(go_at_call 82;(with_reducible refine (jy.calls k2 _ _ l0_0 true _ ?side1 ?side2 A62.out).mono ?_);(case side1=>exact cq (Kd.jD HR0_0.out HB.out));(case side2=>exact HC0_0.out);rintro e w67 ⟨rfl,hb⟩;replace BK351:=am (jc (g:=gb351) (o:=.cells #[.slice A0_0 l0_0.length c0_0] 25 (0,0)) (kq BK351.out) hb);replace BK352:=am (jc (g:=gb352) (o:=.cells #[.slice A1_0 l1_0.length c1_0] 28 (0,0)) (kq BK352.out) hb);replace HB:=am (jd (Y3) hb);(try clear hb);(try clear hb2);(try clear hk);(try clear hi);have hcz68_0:=bc0 BK352.out;have hfz68_0:=ja BK352.out 0))
        repeat (go_quiet (first |(go_at_call 82;(with_reducible refine (jy.calls k2 _ _ l0_0 true _ ?side1 ?side2 A62.out).mono ?_);(case side1=>exact cq (Kd.jD HR0_0.out HB.out));(case side2=>exact HC0_0.out);rintro e w67 ⟨rfl,hb⟩;replace BK351:=am (jc (g:=gb351) (o:=.cells #[.slice A0_0 l0_0.length c0_0] 25 (0,0)) (kq BK351.out) hb);replace BK352:=am (jc (g:=gb352) (o:=.cells #[.slice A1_0 l1_0.length c1_0] 28 (0,0)) (kq BK352.out) hb);replace HB:=am (jd (Y3) hb);(try clear hb);(try clear hb2);(try clear hk);(try clear hi);have hcz68_0:=bc0 BK352.out;have hfz68_0:=ja BK352.out 0));try go_wp2_with (first |(go_at_call 82;(with_reducible refine (jy.calls k2 _ _ l0_0 true _ ?side1 ?side2 A62.out).mono ?_);(case side1=>exact cq (Kd.jD HR0_0.out HB.out));(case side2=>exact HC0_0.out);rintro e w67 ⟨rfl,hb⟩;replace BK351:=am (jc (g:=gb351) (o:=.cells #[.slice A0_0 l0_0.length c0_0] 25 (0,0)) (kq BK351.out) hb);replace BK352:=am (jc (g:=gb352) (o:=.cells #[.slice A1_0 l1_0.length c1_0] 28 (0,0)) (kq BK352.out) hb);replace HB:=am (jd (Y3) hb);(try clear hb);(try clear hb2);(try clear hk);(try clear hi);have hcz68_0:=bc0 BK352.out;have hfz68_0:=ja BK352.out 0)))
        go_ret
        exact ⟨Y1,Y3⟩
       ·replace c63:=Bool.eq_false_iff.mpr c63
        subst c63
        have H1:(some false)=some r:=by rw [if_neg (show ¬ (false=true) by decide)] at H;exact H
        clear H
        have H:=H1
        clear H1
        obtain rfl:=Option.some.inj H
        have hnb69:=NB352_351.out
        have hnc69:=NB351_352.out
        have hcz70_0:=bc0 BK352.out
        have hfz70_0:=ja BK352.out 0
        have hcz71_0:=bc0 BK351.out
        have hfz71_0:=ja BK351.out 0
        go_wp2_with (first |(go_at_call 82;(with_reducible refine (jy.calls k2 _ _ l0_0 false _ ?side1 ?side2 A62.out).mono ?_);(case side1=>exact cq (Kd.jD HR0_0.out HB.out));(case side2=>exact HC0_0.out);rintro e w72 ⟨rfl,hb⟩;replace BK351:=am (jc (g:=gb351) (o:=.cells #[.slice A0_0 l0_0.length c0_0] 25 (0,0)) (kq BK351.out) hb);replace BK352:=am (jc (g:=gb352) (o:=.cells #[.slice A1_0 l1_0.length c1_0] 28 (0,0)) (kq BK352.out) hb);replace HB:=am (jd (Y3) hb);(try clear hb);(try clear hb2);(try clear hk);(try clear hi)))
        repeat (go_quiet (first |(go_at_call 82;(with_reducible refine (jy.calls k2 _ _ l0_0 false _ ?side1 ?side2 A62.out).mono ?_);(case side1=>exact cq (Kd.jD HR0_0.out HB.out));(case side2=>exact HC0_0.out);rintro e w72 ⟨rfl,hb⟩;replace BK351:=am (jc (g:=gb351) (o:=.cells #[.slice A0_0 l0_0.length c0_0] 25 (0,0)) (kq BK351.out) hb);replace BK352:=am (jc (g:=gb352) (o:=.cells #[.slice A1_0 l1_0.length c1_0] 28 (0,0)) (kq BK352.out) hb);replace HB:=am (jd (Y3) hb);(try clear hb);(try clear hb2);(try clear hk);(try clear hi)));try go_wp2_with (first |(go_at_call 82;(with_reducible refine (jy.calls k2 _ _ l0_0 false _ ?side1 ?side2 A62.out).mono ?_);(case side1=>exact cq (Kd.jD HR0_0.out HB.out));(case side2=>exact HC0_0.out);rintro e w72 ⟨rfl,hb⟩;replace BK351:=am (jc (g:=gb351) (o:=.cells #[.slice A0_0 l0_0.length c0_0] 25 (0,0)) (kq BK351.out) hb);replace BK352:=am (jc (g:=gb352) (o:=.cells #[.slice A1_0 l1_0.length c1_0] 28 (0,0)) (kq BK352.out) hb);replace HB:=am (jd (Y3) hb);(try clear hb);(try clear hb2);(try clear hk);(try clear hi))))
        go_ret
        exact ⟨Y1,Y3⟩
def jKa.f (l0_0 : List (S66)) (a1 : Int) : Option (Bool) := (jF.f a1 0 (wrap64 ((l0_0.length : Int) - 1))).bind fun t365 => (some t365)
set_option maxHeartbeats 8000000 in
set_option maxRecDepth 100000 in
theorem jKa.calls (A0_0 : Option Addr) (c0_0 : Nat) (l0_0 : List (S66)) (a1 : Int) (r : Bool) (w : World) (hr0_0 : Kd.C k66 w A0_0 l0_0.length l0_0) (hc0_0 : l0_0.length ≤ c0_0) (h : jKa.f l0_0 a1 = some r) :
  Calls Tryd.prog 55 #[.agg #[.slice A0_0 l0_0.length c0_0], .int .i64 a1] w fun e w'=>e=.returned (.bool r)∧Below w.heap.size w w':=by
 have hu28:=Tryd.underlying28
 have HR0_0:=am hr0_0
 have HC0_0:=am hc0_0
 clear hr0_0 hc0_0
 have HB:=am (Below.refl w.heap.size w)
 have H:((jF.f a1 0 (wrap64 ((l0_0.length:Int) - 1))).bind fun t365=>(some t365))=some r:=h
 clear h
 replace H:=bzS H
 obtain ⟨t365,A30,H⟩:=H
 replace H:(some t365)=some r:=H
 have A3:=am A30
 clear A30
 obtain rfl:=Option.some.inj H
 go_enter Tryd.func55,Tryd.ntmps55
 go_wp2_with (first |((with_reducible refine jr (N:=2) rfl ?_);refine bE (N:=2) (cs:=#[.slice A0_0 l0_0.length c0_0]) (t:=28) ?_;intro gb364 hg w4 hbox hb;have BK364:=am (hbox);have GW364:=am ((Y0:w.heap.size≤gb364));have GE364:=am ((Y0:w.heap.size≤gb364));replace HB:=am (jd (bq) hb);clear hb hbox hg;have hcz5_0:=bc0 BK364.out;have hfz5_0:=ja BK364.out 0) |((with_reducible refine jB (f:=79) rfl ?_);refine gL (some 10) Tryd.func79 #[.int .i64 a1, .int .i64 0, .int .i64 (wrap64 ((l0_0.length:Int) - 1))] ?_;(with_reducible refine (jF.calls a1 0 (wrap64 ((l0_0.length:Int) - 1)) t365 _ A3.out).mono ?_);rintro e w' ⟨rfl,⟨nd,rfl⟩⟩;refine ⟨_,rfl,?_⟩))
 go_ret
 exact ⟨Y1,by repeat (first |(with_reducible first | exact HB.out | apply jh | apply je | apply jk | refine jf ?_ GE364.out) | exact HB.out)⟩
def jIa.f (k : Nat) (l0_0 : List (S99)) (l1_0 : List (S66)) (a2 : Int) : Option (Bool) := (jo.f k l0_0 l1_0).bind fun t368 => (if t368 = true then ((jKa.f l1_0 a2).bind fun t369 => (some t369)) else (some false))
set_option maxHeartbeats 8000000 in
set_option maxRecDepth 100000 in
theorem jIa.calls (k : Nat) (A0_0 : Option Addr) (c0_0 : Nat) (l0_0 : List (S99)) (A1_0 : Option Addr) (c1_0 : Nat) (l1_0 : List (S66)) (a2 : Int) (r : Bool) (w : World) (hr0_0 : Kd.C k99 w A0_0 l0_0.length l0_0) (hc0_0 : l0_0.length ≤ c0_0) (hr1_0 : Kd.C k66 w A1_0 l1_0.length l1_0) (hc1_0 : l1_0.length ≤ c1_0) (h : jIa.f k l0_0 l1_0 a2 = some r) :
  Calls Tryd.prog 31 #[.agg #[.slice A0_0 l0_0.length c0_0], .agg #[.slice A1_0 l1_0.length c1_0], .int .i64 a2] w fun e w'=>e=.returned (.bool r)∧Below w.heap.size w w':=by
 have hu25:=Tryd.underlying25
 have hu28:=Tryd.underlying28
 have HR0_0:=am hr0_0
 have HC0_0:=am hc0_0
 clear hr0_0 hc0_0
 have HR1_0:=am hr1_0
 have HC1_0:=am hc1_0
 clear hr1_0 hc1_0
 have HB:=am (Below.refl w.heap.size w)
 have H:((jo.f k l0_0 l1_0).bind fun t368=>(if t368=true then ((jKa.f l1_0 a2).bind fun t369=>(some t369)) else (some false)))=some r:=h
 clear h
 replace H:=bzS H
 obtain ⟨t368,A40,H⟩:=H
 replace H:(if t368=true then ((jKa.f l1_0 a2).bind fun t369=>(some t369)) else (some false))=some r:=H
 have A4:=am A40
 clear A40
 by_cases c5:t368=true
 ·subst c5
  have H1:((jKa.f l1_0 a2).bind fun t369=>(some t369))=some r:=by rw [if_pos rfl] at H;exact H
  clear H
  have H:=H1
  clear H1
  replace H:=bzS H
  obtain ⟨t369,A60,H⟩:=H
  replace H:(some t369)=some r:=H
  have A6:=am A60
  clear A60
  obtain rfl:=Option.some.inj H
  go_enter Tryd.func31,Tryd.ntmps31
  go_wp2_with (first |((with_reducible refine jr (N:=3) rfl ?_);refine bE (N:=3) (cs:=#[.slice A0_0 l0_0.length c0_0]) (t:=25) ?_;intro gb366 hg w7 hbox hb;have BK366:=am (hbox);have GW366:=am ((Y0:w.heap.size≤gb366));have GE366:=am ((Y0:w.heap.size≤gb366));replace HB:=am (jd (bq) hb);clear hb hbox hg) |((with_reducible refine jr (N:=4) rfl ?_);refine bE (N:=4) (cs:=#[.slice A1_0 l1_0.length c1_0]) (t:=28) ?_;intro gb367 hg w8 hbox hb;have BK367:=am (hbox);have GW367:=am ((Y49:w.heap.size≤gb367));have GE367:=am ((Y49:w.heap.size≤gb367));have NB366_367:=am ((by rw [hg];exact Nat.ne_of_lt (jT (g:=gb366) (o:=.cells #[.slice A0_0 l0_0.length c0_0] 25 (0,0)) (kq BK366.out)):gb366≠gb367));have NB367_366:=am ((by rw [hg];exact Nat.ne_of_gt (jT (g:=gb366) (o:=.cells #[.slice A0_0 l0_0.length c0_0] 25 (0,0)) (kq BK366.out)):gb367≠gb366));replace BK366:=am (jc (g:=gb366) (o:=.cells #[.slice A0_0 l0_0.length c0_0] 25 (0,0)) (kq BK366.out) hb);replace HB:=am (jd (Y82) hb);clear hb hbox hg;have hnb9:=NB366_367.out;have hnc9:=NB367_366.out;have hcz10_0:=bc0 BK366.out;have hfz10_0:=ja BK366.out 0;have hcz11_0:=bc0 BK367.out;have hfz11_0:=ja BK367.out 0) |((with_reducible refine jB (f:=48) rfl ?_);refine gL (some 9) Tryd.func48 #[.agg #[.slice A0_0 l0_0.length c0_0], .agg #[.slice A1_0 l1_0.length c1_0]] ?_;(with_reducible refine (jo.calls k _ _ l0_0 _ _ l1_0 true _ ?side1 ?side2 ?side3 ?side4 A4.out).mono ?_);(case side1=>exact cq (Kd.jD HR0_0.out HB.out));(case side2=>exact HC0_0.out);(case side3=>exact cq (Kd.jD HR1_0.out HB.out));(case side4=>exact HC1_0.out);rintro e w12 ⟨rfl,hb⟩;refine ⟨_,rfl,?_⟩;replace BK366:=am (jc (g:=gb366) (o:=.cells #[.slice A0_0 l0_0.length c0_0] 25 (0,0)) (kq BK366.out) hb);replace BK367:=am (jc (g:=gb367) (o:=.cells #[.slice A1_0 l1_0.length c1_0] 28 (0,0)) (kq BK367.out) hb);replace HB:=am (jd (Y33) hb);(try clear hb);(try clear hb2);(try clear hk);(try clear hi);have hcz13_0:=bc0 BK367.out;have hfz13_0:=ja BK367.out 0) |(go_at_call 55;(with_reducible refine (jKa.calls _ _ l1_0 a2 t369 _ ?side1 ?side2 A6.out).mono ?_);(case side1=>exact cq (Kd.jD HR1_0.out HB.out));(case side2=>exact HC1_0.out);rintro e w14 ⟨rfl,hb⟩;replace BK366:=am (jc (g:=gb366) (o:=.cells #[.slice A0_0 l0_0.length c0_0] 25 (0,0)) (kq BK366.out) hb);replace BK367:=am (jc (g:=gb367) (o:=.cells #[.slice A1_0 l1_0.length c1_0] 28 (0,0)) (kq BK367.out) hb);replace HB:=am (jd (Y33) hb);(try clear hb);(try clear hb2);(try clear hk);(try clear hi)))
  go_ret
  exact ⟨Y1,Y33⟩
 ·replace c5:=Bool.eq_false_iff.mpr c5
  subst c5
  have H1:(some false)=some r:=by rw [if_neg (show ¬ (false=true) by decide)] at H;exact H
  clear H
  have H:=H1
  clear H1
  obtain rfl:=Option.some.inj H
  go_enter Tryd.func31,Tryd.ntmps31
  go_wp2_with (first |((with_reducible refine jr (N:=3) rfl ?_);refine bE (N:=3) (cs:=#[.slice A0_0 l0_0.length c0_0]) (t:=25) ?_;intro gb366 hg w15 hbox hb;have BK366:=am (hbox);have GW366:=am ((Y0:w.heap.size≤gb366));have GE366:=am ((Y0:w.heap.size≤gb366));replace HB:=am (jd (bq) hb);clear hb hbox hg) |((with_reducible refine jr (N:=4) rfl ?_);refine bE (N:=4) (cs:=#[.slice A1_0 l1_0.length c1_0]) (t:=28) ?_;intro gb367 hg w16 hbox hb;have BK367:=am (hbox);have GW367:=am ((Y49:w.heap.size≤gb367));have GE367:=am ((Y49:w.heap.size≤gb367));have NB366_367:=am ((by rw [hg];exact Nat.ne_of_lt (jT (g:=gb366) (o:=.cells #[.slice A0_0 l0_0.length c0_0] 25 (0,0)) (kq BK366.out)):gb366≠gb367));have NB367_366:=am ((by rw [hg];exact Nat.ne_of_gt (jT (g:=gb366) (o:=.cells #[.slice A0_0 l0_0.length c0_0] 25 (0,0)) (kq BK366.out)):gb367≠gb366));replace BK366:=am (jc (g:=gb366) (o:=.cells #[.slice A0_0 l0_0.length c0_0] 25 (0,0)) (kq BK366.out) hb);replace HB:=am (jd (Y82) hb);clear hb hbox hg;have hnb17:=NB366_367.out;have hnc17:=NB367_366.out;have hcz18_0:=bc0 BK366.out;have hfz18_0:=ja BK366.out 0;have hcz19_0:=bc0 BK367.out;have hfz19_0:=ja BK367.out 0) |((with_reducible refine jB (f:=48) rfl ?_);refine gL (some 9) Tryd.func48 #[.agg #[.slice A0_0 l0_0.length c0_0], .agg #[.slice A1_0 l1_0.length c1_0]] ?_;(with_reducible refine (jo.calls k _ _ l0_0 _ _ l1_0 false _ ?side1 ?side2 ?side3 ?side4 A4.out).mono ?_);(case side1=>exact cq (Kd.jD HR0_0.out HB.out));(case side2=>exact HC0_0.out);(case side3=>exact cq (Kd.jD HR1_0.out HB.out));(case side4=>exact HC1_0.out);rintro e w20 ⟨rfl,hb⟩;refine ⟨_,rfl,?_⟩;replace BK366:=am (jc (g:=gb366) (o:=.cells #[.slice A0_0 l0_0.length c0_0] 25 (0,0)) (kq BK366.out) hb);replace BK367:=am (jc (g:=gb367) (o:=.cells #[.slice A1_0 l1_0.length c1_0] 28 (0,0)) (kq BK367.out) hb);replace HB:=am (jd (Y33) hb);(try clear hb);(try clear hb2);(try clear hk);(try clear hi)))
  go_ret
  exact ⟨Y1,Y33⟩
def jFa.f (l0_0 : List (S66)) (a1 : Int) : Option (Int) := if 0 ≤ a1 then (if a1 < (l0_0.length : Int) then (if ((jb l0_0 a1).f2) ≥ 0 then (some ((jb l0_0 a1).f2)) else (if ((jb l0_0 a1).f4 = true) then (some (-1)) else (some ((jb l0_0 a1).f3)))) else (none)) else (none)
set_option maxHeartbeats 8000000 in
set_option maxRecDepth 100000 in
theorem jFa.calls (A0_0 : Option Addr) (c0_0 : Nat) (l0_0 : List (S66)) (a1 : Int) (r : Int) (w : World) (hr0_0 : Kd.C k66 w A0_0 l0_0.length l0_0) (hc0_0 : l0_0.length ≤ c0_0) (h : jFa.f l0_0 a1 = some r) :
  Calls Tryd.prog 57 #[.agg #[.slice A0_0 l0_0.length c0_0], .int .i64 a1] w fun e w'=>e=.returned (.int .i64 r)∧Below w.heap.size w w':=by
 have hu28:=Tryd.underlying28
 have hu66:=Tryd.underlying66
 have HR0_0:=am hr0_0
 have HC0_0:=am hc0_0
 clear hr0_0 hc0_0
 have HB:=am (Below.refl w.heap.size w)
 have H:(if 0≤a1 then (if a1<(l0_0.length:Int) then (if ((jb l0_0 a1).f2)≥0 then (some ((jb l0_0 a1).f2)) else (if ((jb l0_0 a1).f4=true) then (some (-1)) else (some ((jb l0_0 a1).f3)))) else (none)) else (none))=some r:=h
 clear h
 by_cases c3:0≤a1
 ·rw [if_pos c3] at H
  have c3b0:decide (0≤a1)=true:=dzT c3
  clear c3
  by_cases c4:a1<(l0_0.length:Int)
  ·rw [if_pos c4] at H
   have c4b0:decide (a1<(l0_0.length:Int))=true:=dzT c4
   clear c4
   by_cases c5:((jb l0_0 a1).f2)≥0
   ·rw [if_pos c5] at H
    have c5b0:decide (0≤((jb l0_0 a1).f2))=true:=dzT c5
    clear c5
    obtain rfl:=Option.some.inj H
    go_enter Tryd.func57,Tryd.ntmps57
    go_wp2_with (first |((with_reducible refine jr (N:=2) rfl ?_);refine bE (N:=2) (cs:=#[.slice A0_0 l0_0.length c0_0]) (t:=28) ?_;intro gb370 hg w6 hbox hb;have BK370:=am (hbox);have GW370:=am ((Y0:w.heap.size≤gb370));have GE370:=am ((Y0:w.heap.size≤gb370));replace HB:=am (jd (bq) hb);clear hb hbox hg;have hcz7_0:=bc0 BK370.out;have hfz7_0:=ja BK370.out 0;have p371:0≤(a1:Int):=ozD (uq);have q371:a1<(l0_0.length:Int):=ozD (uq);obtain ⟨ad371,e371,hx371_0,hx371_1,hx371_2,hx371_3,hx371_4⟩:=jLa HR0_0.out a1 p371 q371;cases e371;replace hx371_0:=cb HB.out hx371_0;replace hx371_1:=cb HB.out hx371_1;replace hx371_2:=cb HB.out hx371_2;replace hx371_3:=cb HB.out hx371_3;replace hx371_4:=cb HB.out hx371_4;replace p371:=ezT p371;replace q371:=ezT q371) |((with_reducible refine jr (N:=5) rfl ?_);refine bE (N:=5) (cs:=#[.int .i64 0, .int .i64 0, .int .i64 0, .int .i64 0, .bool false]) (t:=66) ?_;intro gb372 hg w8 hbox hb;have BK372:=am (hbox);have GW372:=am ((Y26:w.heap.size≤gb372));have GE372:=am ((Y26:w.heap.size≤gb372));have NB370_372:=am ((Y68:gb370≠gb372));have NB372_370:=am ((Y69:gb372≠gb370));replace BK370:=am (jc (g:=gb370) (o:=.cells #[.slice (some ad371) l0_0.length c0_0] 28 (0,0)) (kq BK370.out) hb);replace HB:=am (jd (Y70) hb);clear hb hbox hg;have hnb9:=NB372_370.out;have hnc9:=NB370_372.out;have hcz10_0:=bc0 BK372.out;have hcz10_1:=bc1 BK372.out;have hcz10_2:=bc2 BK372.out;have hcz10_3:=bc3 BK372.out;have hcz10_4:w8.cell? ⟨gb372,4,none⟩=some (.bool false):=(jC BK372.out 4).trans rfl;have hfz10_0:=ja BK372.out 0;have hfz10_1:=ja BK372.out 1;have hfz10_2:=ja BK372.out 2;have hfz10_3:=ja BK372.out 3;have hfz10_4:=ja BK372.out 4))
    go_ret
    exact ⟨Y1,Y71⟩
   ·rw [if_neg c5] at H
    have c5b0:decide (0≤((jb l0_0 a1).f2))=false:=dzF c5
    clear c5
    obtain ⟨bq11,hbq11⟩:∃ b_:Bool,b_=((jb l0_0 a1).f4):=⟨_,rfl⟩
    replace H:(if (bq11=true) then (some (-1)) else (some ((jb l0_0 a1).f3)))=some r:=by rw [← hbq11] at H;exact H
    have Nbq11:=am hbq11
    clear hbq11
    by_cases c12:(bq11=true)
    ·subst c12
     have H1:(some (-1))=some r:=by rw [if_pos rfl] at H;exact H
     clear H
     have H:=H1
     clear H1
     obtain rfl:=Option.some.inj H
     go_enter Tryd.func57,Tryd.ntmps57
     go_wp2_with (first |((with_reducible refine jr (N:=2) rfl ?_);refine bE (N:=2) (cs:=#[.slice A0_0 l0_0.length c0_0]) (t:=28) ?_;intro gb370 hg w13 hbox hb;have BK370:=am (hbox);have GW370:=am ((Y0:w.heap.size≤gb370));have GE370:=am ((Y0:w.heap.size≤gb370));replace HB:=am (jd (bq) hb);clear hb hbox hg;have hcz14_0:=bc0 BK370.out;have hfz14_0:=ja BK370.out 0;have p371:0≤(a1:Int):=ozD (uq);have q371:a1<(l0_0.length:Int):=ozD (uq);obtain ⟨ad371,e371,hx371_0,hx371_1,hx371_2,hx371_3,hx371_4⟩:=jLa HR0_0.out a1 p371 q371;(try rw [← Nbq11.out] at hx371_4);cases e371;replace hx371_0:=cb HB.out hx371_0;replace hx371_1:=cb HB.out hx371_1;replace hx371_2:=cb HB.out hx371_2;replace hx371_3:=cb HB.out hx371_3;replace hx371_4:=cb HB.out hx371_4;replace p371:=ezT p371;replace q371:=ezT q371) |((with_reducible refine jr (N:=5) rfl ?_);refine bE (N:=5) (cs:=#[.int .i64 0, .int .i64 0, .int .i64 0, .int .i64 0, .bool false]) (t:=66) ?_;intro gb372 hg w15 hbox hb;have BK372:=am (hbox);have GW372:=am ((Y26:w.heap.size≤gb372));have GE372:=am ((Y26:w.heap.size≤gb372));have NB370_372:=am ((Y68:gb370≠gb372));have NB372_370:=am ((Y69:gb372≠gb370));replace BK370:=am (jc (g:=gb370) (o:=.cells #[.slice (some ad371) l0_0.length c0_0] 28 (0,0)) (kq BK370.out) hb);replace HB:=am (jd (Y70) hb);clear hb hbox hg;have hnb16:=NB372_370.out;have hnc16:=NB370_372.out;have hcz17_0:=bc0 BK372.out;have hcz17_1:=bc1 BK372.out;have hcz17_2:=bc2 BK372.out;have hcz17_3:=bc3 BK372.out;have hcz17_4:w15.cell? ⟨gb372,4,none⟩=some (.bool false):=(jC BK372.out 4).trans rfl;have hfz17_0:=ja BK372.out 0;have hfz17_1:=ja BK372.out 1;have hfz17_2:=ja BK372.out 2;have hfz17_3:=ja BK372.out 3;have hfz17_4:=ja BK372.out 4))
     go_ret
     exact ⟨Y1,Y71⟩
    ·replace c12:=Bool.eq_false_iff.mpr c12
     subst c12
     have H1:(some ((jb l0_0 a1).f3))=some r:=by rw [if_neg (show ¬ (false=true) by decide)] at H;exact H
     clear H
     have H:=H1
     clear H1
     obtain rfl:=Option.some.inj H
     go_enter Tryd.func57,Tryd.ntmps57
     go_wp2_with (first |((with_reducible refine jr (N:=2) rfl ?_);refine bE (N:=2) (cs:=#[.slice A0_0 l0_0.length c0_0]) (t:=28) ?_;intro gb370 hg w18 hbox hb;have BK370:=am (hbox);have GW370:=am ((Y0:w.heap.size≤gb370));have GE370:=am ((Y0:w.heap.size≤gb370));replace HB:=am (jd (bq) hb);clear hb hbox hg;have hcz19_0:=bc0 BK370.out;have hfz19_0:=ja BK370.out 0;have p371:0≤(a1:Int):=ozD (uq);have q371:a1<(l0_0.length:Int):=ozD (uq);obtain ⟨ad371,e371,hx371_0,hx371_1,hx371_2,hx371_3,hx371_4⟩:=jLa HR0_0.out a1 p371 q371;(try rw [← Nbq11.out] at hx371_4);cases e371;replace hx371_0:=cb HB.out hx371_0;replace hx371_1:=cb HB.out hx371_1;replace hx371_2:=cb HB.out hx371_2;replace hx371_3:=cb HB.out hx371_3;replace hx371_4:=cb HB.out hx371_4;replace p371:=ezT p371;replace q371:=ezT q371) |((with_reducible refine jr (N:=5) rfl ?_);refine bE (N:=5) (cs:=#[.int .i64 0, .int .i64 0, .int .i64 0, .int .i64 0, .bool false]) (t:=66) ?_;intro gb372 hg w20 hbox hb;have BK372:=am (hbox);have GW372:=am ((Y26:w.heap.size≤gb372));have GE372:=am ((Y26:w.heap.size≤gb372));have NB370_372:=am ((Y68:gb370≠gb372));have NB372_370:=am ((Y69:gb372≠gb370));replace BK370:=am (jc (g:=gb370) (o:=.cells #[.slice (some ad371) l0_0.length c0_0] 28 (0,0)) (kq BK370.out) hb);replace HB:=am (jd (Y70) hb);clear hb hbox hg;have hnb21:=NB372_370.out;have hnc21:=NB370_372.out;have hcz22_0:=bc0 BK372.out;have hcz22_1:=bc1 BK372.out;have hcz22_2:=bc2 BK372.out;have hcz22_3:=bc3 BK372.out;have hcz22_4:w20.cell? ⟨gb372,4,none⟩=some (.bool false):=(jC BK372.out 4).trans rfl;have hfz22_0:=ja BK372.out 0;have hfz22_1:=ja BK372.out 1;have hfz22_2:=ja BK372.out 2;have hfz22_3:=ja BK372.out 3;have hfz22_4:=ja BK372.out 4))
     go_ret
     exact ⟨Y1,Y71⟩
  ·rw [if_neg c4] at H
   exact absurd H (by simp)
 ·rw [if_neg c3] at H
  exact absurd H (by simp)
def jta.l0 : Nat → Int → List Int → List (S66) → Option (List Int)
 | 0,_,_,_=>none
 | k+1,x1,x5,x374000=>if x1≥0 then ((jna.f k x5 x1).bind fun t377=>(if t377=true then (some x5) else (if x5.length<17592186044416 then ((jFa.f x374000 x1).bind fun t381=>(jta.l0 k t381 (x5 ++ [x1]) x374000)) else (none)))) else (some x5)
def jta.f (k : Nat) (l0_0 : List (S66)) (a1 : Int) : Option (List Int) := jta.l0 k a1 (([] : List Int)) l0_0
set_option maxHeartbeats 8000000 in
set_option maxRecDepth 100000 in
theorem jta.calls (k : Nat) (A0_0 : Option Addr) (c0_0 : Nat) (l0_0 : List (S66)) (a1 : Int) (r : List Int) (w : World) (hr0_0 : Kd.C k66 w A0_0 l0_0.length l0_0) (hc0_0 : l0_0.length ≤ c0_0) (h : jta.f k l0_0 a1 = some r) :
  Calls Tryd.prog 32 #[.agg #[.slice A0_0 l0_0.length c0_0], .int .i64 a1] w fun e w'=>∃ v0_:Value,e=.returned (v0_)∧Kd.R (Kd.int .i64) 3 w' w.heap.size (fun _=>True) v0_ r∧Below w.heap.size w w':=by
 have hu28:=Tryd.underlying28
 have HR0_0:=am hr0_0
 have HC0_0:=am hc0_0
 clear hr0_0 hc0_0
 have HB:=am (Below.refl w.heap.size w)
 have H:(jta.l0 k a1 (([]:List Int)) l0_0)=some r:=h
 clear h
 obtain ⟨y374,hy374⟩:∃ y_:List Int,y_=(([]:List Int)):=⟨_,rfl⟩
 replace H:(jta.l0 k a1 y374 l0_0)=some r:=by first |(rw [hy374];with_reducible exact H) |(have H2_:=(Option.bind_some _ _).symm.trans H;rw [hy374];with_reducible exact H2_) |(have H2_:=(Option.bind_some _ _).symm.trans H;with_reducible exact H2_) | with_reducible exact H |(rw [hy374];exact H) | exact H
 have Ny374:=am hy374
 clear hy374
 have H':=am H
 clear H
 go_enter Tryd.func32,Tryd.ntmps32
 go_wp2_with (first |((with_reducible refine jr (N:=2) rfl ?_);refine bE (N:=2) (cs:=#[.slice A0_0 l0_0.length c0_0]) (t:=28) ?_;intro gb373 hg w3 hbox hb;have BK373:=am (hbox);have GW373:=am ((Y0:w.heap.size≤gb373));have GE373:=am ((Y0:w.heap.size≤gb373));replace HB:=am (jd (bq) hb);clear hb hbox hg) |((with_reducible refine jr (N:=6) rfl ?_);refine Kd.R_lit (Kd.int .i64) _ 3 ?hg (N:=6) ?hd (xs:=([]:List Int)) (inner:=[]) (ok:=fun _=>True) (okp:=fun _=>True) ?hr ?hp (fun _ hk=>hk) trivial (Below.refl _ _) (Nat.le_refl _) (by simp) ?_;(case hd=>rfl);(case hg=>rfl);(case hr=>exact Y6);(case hp=>exact (Reps.none _ _));intro v375 w4 ho5 hb hg_ hnew_;clear hg_ hnew_;(first | rw [← Ny374.out] at ho5 |(simp only [Int.reduceToNat] at ho5;rw [← Ny374.out] at ho5));have HO376:=am (Kd.jGa ho5 (jE (Y14)));replace BK373:=am (jc (g:=gb373) (o:=.cells #[.slice A0_0 l0_0.length c0_0] 28 (0,0)) (kq BK373.out) hb);replace HB:=am (jd (Y14) hb);clear hb ho5))
 go_loopg [1,5] k (fun kq v1 v5 w'=>∃ (x1_1:Int) (x5_1:List Int),v1=.int .i64 x1_1∧jH (jta.l0 kq x1_1 x5_1 l0_0=some r)∧jH (kq≤k)∧jH (Kd.R (Kd.int .i64) 3 w' w.heap.size (fun _=>True) v5 x5_1)∧jH (w'.heap[gb373]?=some (.cells #[(.slice A0_0 l0_0.length c0_0)] 28 (0,0)))∧jH (Below w.heap.size w w'))
 case atStart=>exact ⟨(a1),(y374),(sq),H',⟨Nat.le_refl _⟩,⟨rq HO376.out⟩,⟨kq BK373.out⟩,⟨Y14⟩⟩
 case round =>
  clear H'
  try clear p2
  try clear c3
  obtain ⟨x1_1,x5_1,rfl,HA,HK1,HO_5,BK373,HB⟩:=hrel
  cases gk with
  | zero=>exact absurd HA.out (by simp [jta.l0])
  | succ k1 =>
   have H:=HA.out
   clear HA
   simp only [jta.l0] at H
   by_cases c6:x1_1≥0
   ·rw [if_pos c6] at H
    have c6b0:decide (0≤x1_1)=true:=dzT c6
    clear c6
    replace H:=bzS H
    obtain ⟨t377,A70,H⟩:=H
    replace H:(if t377=true then (some x5_1) else (if x5_1.length<17592186044416 then ((jFa.f l0_0 x1_1).bind fun t381=>(jta.l0 k1 t381 (x5_1 ++ [x1_1]) l0_0)) else (none)))=some r:=H
    have A7:=am A70
    clear A70
    by_cases c8:t377=true
    ·subst c8
     have H1:(some x5_1)=some r:=by rw [if_pos rfl] at H;exact H
     clear H
     have H:=H1
     clear H1
     obtain rfl:=Option.some.inj H
     obtain ⟨Ao9,co9,eo9⟩:=Kd.jEa HO_5.out
     subst eo9
     go_wp2_with (first |(go_at_call 56;(with_reducible refine (jna.calls k1 _ _ x5_1 x1_1 true _ ?side1 ?side2 A7.out).mono ?_);(case side1=>exact cq (Kd.jN HO_5.out).2.2);(case side2=>exact (Kd.jN HO_5.out).2.1);rintro e w' ⟨rfl,⟨nd,rfl⟩⟩))
     go_ret
     exact ⟨_,Y1,rq HO_5.out,Y14⟩
    ·replace c8:=Bool.eq_false_iff.mpr c8
     subst c8
     have H1:(if x5_1.length<17592186044416 then ((jFa.f l0_0 x1_1).bind fun t381=>(jta.l0 k1 t381 (x5_1 ++ [x1_1]) l0_0)) else (none))=some r:=by rw [if_neg (show ¬ (false=true) by decide)] at H;exact H
     clear H
     have H:=H1
     clear H1
     by_cases c10:x5_1.length<17592186044416
     ·rw [if_pos c10] at H
      have LMc10:=am c10
      clear c10
      obtain ⟨y378,hy378⟩:∃ y_:List Int,y_=(x5_1 ++ [x1_1]):=⟨_,rfl⟩
      replace H:((jFa.f l0_0 x1_1).bind fun t381=>(jta.l0 k1 t381 y378 l0_0))=some r:=by first |(rw [hy378];with_reducible exact H) |(have H2_:=(Option.bind_some _ _).symm.trans H;rw [hy378];with_reducible exact H2_) |(have H2_:=(Option.bind_some _ _).symm.trans H;with_reducible exact H2_) | with_reducible exact H |(rw [hy378];exact H) | exact H
      have Ny378:=am hy378
      clear hy378
      replace H:=bzS H
      obtain ⟨t381,A110,H⟩:=H
      replace H:(jta.l0 k1 t381 y378 l0_0)=some r:=H
      have A11:=am A110
      clear A110
      have H':=am H
      clear H
      obtain ⟨Ao12,co12,eo12⟩:=Kd.jEa HO_5.out
      subst eo12
      go_wp2_with (first |(go_at_call 56;(with_reducible refine (jna.calls k1 _ _ x5_1 x1_1 false _ ?side1 ?side2 A7.out).mono ?_);(case side1=>exact cq (Kd.jN HO_5.out).2.2);(case side2=>exact (Kd.jN HO_5.out).2.1);rintro e w' ⟨rfl,⟨nd,rfl⟩⟩) |((with_reducible refine jCb (b:=.append) (xs:=#[.tmp 15, .tmp 17]) rfl ?_);at_builtin;refine Kd.R_append (Kd.int .i64) (w0:=w) w.heap.size rfl (.tmp 15) (.tmp 17) 32 3 (.int .i64 0) 8 rfl Tryd.underlying32 info3 rfl (by decide) (by omega) (.slice Ao12 x5_1.length co12) x5_1 x1_1 [.int .i64 x1_1] (fun _=>True) (fun _=>False) rfl rfl ?aP (fun _ hk=>hk.elim) ?aF ?aO ?aB ?aS ?aL ?_;(case aP=>exact rfl);(case aB=>exact (Y14));(case aF=>exact (fun _ _=>trivial));(case aO=>exact (rq HO_5.out));(case aS=>exact (jE (Y14)));(case aL=>have:=LMc10.out;omega);intro v379 w13 ho hb hg hat;rw [← Ny378.out] at ho;have n0_:=am (blk_grown (g:=gb373) (o:=.cells #[.slice A0_0 l0_0.length c0_0] 28 (0,0)) (kq BK373.out) hg (Kd.R_ne HO_5.out BK373.out (by decide)));have n1_:=am (hb);have n2_:=am (ho);clear BK373 HB HO_5;have BK373:=n0_;have HB:=n1_;have HO380:=n2_;clear n0_ n1_ n2_ ho hb hg hat;have hcz14_0:=bc0 BK373.out;have hfz14_0:=ja BK373.out 0) |((with_reducible refine jB (f:=57) rfl ?_);refine gL (some 21) Tryd.func57 #[.agg #[.slice A0_0 l0_0.length c0_0], .int .i64 x1_1] ?_;(with_reducible refine (jFa.calls _ _ l0_0 x1_1 t381 _ ?side1 ?side2 A11.out).mono ?_);(case side1=>exact cq (Kd.jD HR0_0.out HB.out));(case side2=>exact HC0_0.out);rintro e w15 ⟨rfl,hb⟩;refine ⟨_,rfl,?_⟩;replace HO380:=am (Kd.jfa (rq HO380.out) hb);replace BK373:=am (jc (g:=gb373) (o:=.cells #[.slice A0_0 l0_0.length c0_0] 28 (0,0)) (kq BK373.out) hb);replace HB:=am (jd (Y14) hb);(try clear hb);(try clear hb2);(try clear hk);(try clear hi)))
      go_roundg k1
      case measure=>have:=HK1.out;omega
      case rel=>exact ⟨(t381),(y378),(sq),H',⟨by have:=HK1.out;omega⟩,⟨rq HO380.out⟩,⟨kq BK373.out⟩,⟨Y14⟩⟩
     ·rw [if_neg c10] at H
      exact absurd H (by simp)
   ·rw [if_neg c6] at H
    have c6b0:decide (0≤x1_1)=false:=dzF c6
    clear c6
    obtain rfl:=Option.some.inj H
    go_wp2
    go_ret
    exact ⟨_,Y1,rq HO_5.out,Y14⟩
def jva.f : Nat → Int → Option (ByteArray)
 | 0,_=>none
 | k+1,a0=>if a0<10 then (if 0≤a0 then (if a0≤(wrap64 (a0+1)) then (if (wrap64 (a0+1))≤10 then (some ((⟨#[48,49,50,51,52,53,54,55,56,57]⟩:ByteArray).extract (a0:Int).toNat ((wrap64 (a0+1)):Int).toNat)) else (none)) else (none)) else (none)) else ((jva.f k (wrap64 (Int.tdiv a0 10))).bind fun t488=>((jva.f k (Int.tmod a0 10)).bind fun t489=>(if t488.size+t489.size≤9223372036854775807 then (some (t488 ++ t489)) else (none))))
set_option maxHeartbeats 8000000 in
set_option maxRecDepth 100000 in
theorem jva.calls (k : Nat) : ∀ (a0 : Int) (r : ByteArray) (w : World) (h : jva.f k a0 = some r),
  Calls Tryd.prog 87 #[.int .i64 a0] w fun e w'=>e=.returned (.string r)∧jMa w w':=by
 induction k using Nat.strongRecOn with
 | _ k ih =>
 intro a0 r w h
 cases k with
 | zero=>exact absurd h (by simp [jva.f])
 | succ k =>
 simp only [jva.f] at h
 have H:(if a0<10 then (if 0≤a0 then (if a0≤(wrap64 (a0+1)) then (if (wrap64 (a0+1))≤10 then (some ((⟨#[48,49,50,51,52,53,54,55,56,57]⟩:ByteArray).extract (a0:Int).toNat ((wrap64 (a0+1)):Int).toNat)) else (none)) else (none)) else (none)) else ((jva.f k (wrap64 (Int.tdiv a0 10))).bind fun t488=>((jva.f k (Int.tmod a0 10)).bind fun t489=>(if t488.size+t489.size≤9223372036854775807 then (some (t488 ++ t489)) else (none)))))=some r:=h
 clear h
 by_cases c2:a0<10
 ·rw [if_pos c2] at H
  have c2b0:decide (a0<10)=true:=dzT c2
  clear c2
  by_cases c3:0≤a0
  ·rw [if_pos c3] at H
   have c3b0:=ezT c3
   have c3b1:decide (0≤a0)=true:=dzT c3
   clear c3
   by_cases c4:a0≤(wrap64 (a0+1))
   ·rw [if_pos c4] at H
    have c4b0:=ezT c4
    have c4b1:decide (a0≤(wrap64 (a0+1)))=true:=dzT c4
    by_cases c5:(wrap64 (a0+1))≤10
    ·rw [if_pos c5] at H
     have c5b0:=ezT c5
     have c5b1:decide ((wrap64 (a0+1))≤10)=true:=dzT c5
     obtain rfl:=Option.some.inj H
     go_enter Tryd.func87,Tryd.ntmps87
     go_wp2
     go_ret
     exact ⟨sq,Y2⟩
    ·rw [if_neg c5] at H
     exact absurd H (by simp)
   ·rw [if_neg c4] at H
    exact absurd H (by simp)
  ·rw [if_neg c3] at H
   exact absurd H (by simp)
 ·rw [if_neg c2] at H
  have c2b0:decide (a0<10)=false:=dzF c2
  clear c2
  replace H:=bzS H
  obtain ⟨t488,A60,H⟩:=H
  replace H:((jva.f k (Int.tmod a0 10)).bind fun t489=>(if t488.size+t489.size≤9223372036854775807 then (some (t488 ++ t489)) else (none)))=some r:=H
  have A6:=am A60
  clear A60
  replace H:=bzS H
  obtain ⟨t489,A70,H⟩:=H
  replace H:(if t488.size+t489.size≤9223372036854775807 then (some (t488 ++ t489)) else (none))=some r:=H
  have A7:=am A70
  clear A70
  by_cases c8:t488.size+t489.size≤9223372036854775807
  ·rw [if_pos c8] at H
   have c8b0:=ezT c8
   have c8b1:decide (t488.size+t489.size≤9223372036854775807)=true:=dzT c8
   try have c8b2:(9223372036854775807<t488.size+t489.size)=False:=eq_false (Nat.not_lt.2 c8)
   obtain rfl:=Option.some.inj H
   go_enter Tryd.func87,Tryd.ntmps87
   go_wp2_with (first |((with_reducible refine jB (f:=87) rfl ?_);refine gL (some 11) Tryd.func87 #[.int .i64 (wrap64 (Int.tdiv a0 10))] ?_;(with_reducible refine (ih k (by omega) (wrap64 (Int.tdiv a0 10)) t488 _ A6.out).mono ?_);rintro e w' ⟨rfl,⟨nd,rfl⟩⟩;refine ⟨_,rfl,?_⟩) |((with_reducible refine jB (f:=87) rfl ?_);refine gL (some 14) Tryd.func87 #[.int .i64 (Int.tmod a0 10)] ?_;(with_reducible refine (ih k (by omega) (Int.tmod a0 10) t489 _ A7.out).mono ?_);rintro e w' ⟨rfl,⟨nd,rfl⟩⟩;refine ⟨_,rfl,?_⟩))
   go_ret
   exact ⟨sq,Y2⟩
  ·rw [if_neg c8] at H
   exact absurd H (by simp)
def jNa.f (k : Nat) (l0_0 : List (S99)) (a1 : Int) (a2 : Int) : Option (ByteArray) := if 0 ≤ a1 then (if a1 < (l0_0.length : Int) then (if ((jA l0_0 a1).f0).size + 1 ≤ 9223372036854775807 then ((jva.f k a2).bind fun t492 => (if (((jA l0_0 a1).f0) ++ (⟨#[58]⟩ : ByteArray)).size + t492.size ≤ 9223372036854775807 then (some ((((jA l0_0 a1).f0) ++ (⟨#[58]⟩ : ByteArray)) ++ t492)) else (none))) else (none)) else (none)) else (none)
set_option maxHeartbeats 8000000 in
set_option maxRecDepth 100000 in
theorem jNa.calls (k : Nat) (A0_0 : Option Addr) (c0_0 : Nat) (l0_0 : List (S99)) (a1 : Int) (a2 : Int) (r : ByteArray) (w : World) (hr0_0 : Kd.C k99 w A0_0 l0_0.length l0_0) (hc0_0 : l0_0.length ≤ c0_0) (h : jNa.f k l0_0 a1 a2 = some r) :
  Calls Tryd.prog 61 #[.agg #[.slice A0_0 l0_0.length c0_0], .int .i64 a1, .int .i64 a2] w fun e w'=>e=.returned (.string r)∧Below w.heap.size w w':=by
 have hu25:=Tryd.underlying25
 have HR0_0:=am hr0_0
 have HC0_0:=am hc0_0
 clear hr0_0 hc0_0
 have HB:=am (Below.refl w.heap.size w)
 have H:(if 0≤a1 then (if a1<(l0_0.length:Int) then (if ((jA l0_0 a1).f0).size+1≤9223372036854775807 then ((jva.f k a2).bind fun t492=>(if (((jA l0_0 a1).f0) ++ (⟨#[58]⟩:ByteArray)).size+t492.size≤9223372036854775807 then (some ((((jA l0_0 a1).f0) ++ (⟨#[58]⟩:ByteArray)) ++ t492)) else (none))) else (none)) else (none)) else (none))=some r:=h
 clear h
 by_cases c4:0≤a1
 ·rw [if_pos c4] at H
  have c4b0:decide (0≤a1)=true:=dzT c4
  clear c4
  by_cases c5:a1<(l0_0.length:Int)
  ·rw [if_pos c5] at H
   have c5b0:decide (a1<(l0_0.length:Int))=true:=dzT c5
   clear c5
   by_cases c6:((jA l0_0 a1).f0).size+1≤9223372036854775807
   ·rw [if_pos c6] at H
    have c6b0:=ezT c6
    have c6b1:decide (((jA l0_0 a1).f0).size+1≤9223372036854775807)=true:=dzT c6
    try have c6b2:(9223372036854775807<((jA l0_0 a1).f0).size+1)=False:=eq_false (Nat.not_lt.2 c6)
    replace H:=bzS H
    obtain ⟨t492,A70,H⟩:=H
    replace H:(if (((jA l0_0 a1).f0) ++ (⟨#[58]⟩:ByteArray)).size+t492.size≤9223372036854775807 then (some ((((jA l0_0 a1).f0) ++ (⟨#[58]⟩:ByteArray)) ++ t492)) else (none))=some r:=H
    have A7:=am A70
    clear A70
    by_cases c8:(((jA l0_0 a1).f0) ++ (⟨#[58]⟩:ByteArray)).size+t492.size≤9223372036854775807
    ·rw [if_pos c8] at H
     have c8b0:=ezT c8
     have c8b1:decide ((((jA l0_0 a1).f0) ++ (⟨#[58]⟩:ByteArray)).size+t492.size≤9223372036854775807)=true:=dzT c8
     try have c8b2:(9223372036854775807<(((jA l0_0 a1).f0) ++ (⟨#[58]⟩:ByteArray)).size+t492.size)=False:=eq_false (Nat.not_lt.2 c8)
     try have c8s:(9223372036854775807<((jA l0_0 a1).f0).size+1+t492.size)=False:=eq_false (Nat.not_lt.2 (by have h_:=c8;simp only [ByteArray.size_append] at h_;exact h_))
     obtain rfl:=Option.some.inj H
     go_enter Tryd.func61,Tryd.ntmps61
     go_wp2_with (first |((with_reducible refine jr (N:=3) rfl ?_);refine bE (N:=3) (cs:=#[.slice A0_0 l0_0.length c0_0]) (t:=25) ?_;intro gb490 hg w9 hbox hb;have BK490:=am (hbox);have GW490:=am ((Y0:w.heap.size≤gb490));have GE490:=am ((Y0:w.heap.size≤gb490));replace HB:=am (jd (bq) hb);clear hb hbox hg;have hcz10_0:=bc0 BK490.out;have hfz10_0:=ja BK490.out 0;have p491:0≤(a1:Int):=ozD (uq);have q491:a1<(l0_0.length:Int):=ozD (uq);obtain ⟨ad491,e491,hx491_0,hx491_1⟩:=jxb HR0_0.out a1 p491 q491;cases e491;replace hx491_0:=cb HB.out hx491_0;replace hx491_1:=cb HB.out hx491_1;replace p491:=ezT p491;replace q491:=ezT q491) |(go_at_call 87;(with_reducible refine (jva.calls k a2 t492 _ A7.out).mono ?_);rintro e w' ⟨rfl,⟨nd,rfl⟩⟩;(try first | exact ⟨rfl,_,World.drewN_drewN _ _ _⟩ | exact ⟨rfl,_,Eq.trans (World.drewN_drewN _ _ _) (congrArg (World.drewN _) (Nat.add_assoc _ _ _))⟩)))
     repeat (go_quiet (first |((with_reducible refine jr (N:=3) rfl ?_);refine bE (N:=3) (cs:=#[.slice A0_0 l0_0.length c0_0]) (t:=25) ?_;intro gb490 hg w9 hbox hb;have BK490:=am (hbox);have GW490:=am ((Y0:w.heap.size≤gb490));have GE490:=am ((Y0:w.heap.size≤gb490));replace HB:=am (jd (bq) hb);clear hb hbox hg;have hcz10_0:=bc0 BK490.out;have hfz10_0:=ja BK490.out 0;have p491:0≤(a1:Int):=ozD (uq);have q491:a1<(l0_0.length:Int):=ozD (uq);obtain ⟨ad491,e491,hx491_0,hx491_1⟩:=jxb HR0_0.out a1 p491 q491;cases e491;replace hx491_0:=cb HB.out hx491_0;replace hx491_1:=cb HB.out hx491_1;replace p491:=ezT p491;replace q491:=ezT q491) |(go_at_call 87;(with_reducible refine (jva.calls k a2 t492 _ A7.out).mono ?_);rintro e w' ⟨rfl,⟨nd,rfl⟩⟩;(try first | exact ⟨rfl,_,World.drewN_drewN _ _ _⟩ | exact ⟨rfl,_,Eq.trans (World.drewN_drewN _ _ _) (congrArg (World.drewN _) (Nat.add_assoc _ _ _))⟩)));try go_wp2_with (first |((with_reducible refine jr (N:=3) rfl ?_);refine bE (N:=3) (cs:=#[.slice A0_0 l0_0.length c0_0]) (t:=25) ?_;intro gb490 hg w9 hbox hb;have BK490:=am (hbox);have GW490:=am ((Y0:w.heap.size≤gb490));have GE490:=am ((Y0:w.heap.size≤gb490));replace HB:=am (jd (bq) hb);clear hb hbox hg;have hcz10_0:=bc0 BK490.out;have hfz10_0:=ja BK490.out 0;have p491:0≤(a1:Int):=ozD (uq);have q491:a1<(l0_0.length:Int):=ozD (uq);obtain ⟨ad491,e491,hx491_0,hx491_1⟩:=jxb HR0_0.out a1 p491 q491;cases e491;replace hx491_0:=cb HB.out hx491_0;replace hx491_1:=cb HB.out hx491_1;replace p491:=ezT p491;replace q491:=ezT q491) |(go_at_call 87;(with_reducible refine (jva.calls k a2 t492 _ A7.out).mono ?_);rintro e w' ⟨rfl,⟨nd,rfl⟩⟩;(try first | exact ⟨rfl,_,World.drewN_drewN _ _ _⟩ | exact ⟨rfl,_,Eq.trans (World.drewN_drewN _ _ _) (congrArg (World.drewN _) (Nat.add_assoc _ _ _))⟩))))
     go_ret
     exact ⟨Y1,by repeat (first |(with_reducible first | exact HB.out | apply jh | apply je | apply jk | refine jf ?_ GE490.out) | exact HB.out)⟩
    ·rw [if_neg c8] at H
     exact absurd H (by simp)
   ·rw [if_neg c6] at H
    exact absurd H (by simp)
  ·rw [if_neg c5] at H
   exact absurd H (by simp)
 ·rw [if_neg c4] at H
  exact absurd H (by simp)
mutual
def jl.l0 : Nat → List Int → ByteArray → Int → List (S99) → List (S66) → Option (ByteArray)
 | 0,_,_,_,_,_=>none
 | k+1,x7,x8,x9,x494000,x495000=>if x9≥0 then (if 0≤x9 then (if x9<(x7.length:Int) then (if 0≤(rd x7 x9) then (if (rd x7 x9)<(x495000.length:Int) then ((jNa.f k x494000 ((jb x495000 (rd x7 x9)).f0) ((jb x495000 (rd x7 x9)).f1)).bind fun t501=>(if x8.size+t501.size≤9223372036854775807 then (if x9 > 0 then (if 0≤(wrap64 (x9 - 1)) then (if (wrap64 (x9 - 1))<(x7.length:Int) then (if 0≤(rd x7 (wrap64 (x9 - 1))) then (if (rd x7 (wrap64 (x9 - 1)))<(x495000.length:Int) then (jl.j1 k x7 (x8 ++ t501) x9 (decide (((jb x495000 (rd x7 (wrap64 (x9 - 1)))).f2)≥0)) x494000 x495000) else (none)) else (none)) else (none)) else (none)) else (jl.j1 k x7 (x8 ++ t501) x9 false x494000 x495000)) else (none))) else (none)) else (none)) else (none)) else (none)) else (some x8)
def jl.j1 : Nat → List Int → ByteArray → Int → Bool → List (S99) → List (S66) → Option (ByteArray)
 | 0,_,_,_,_,_,_=>none
 | k+1,x7,x8,x9,x51,x494000,x495000=>if x51=true then (if x8.size+3≤9223372036854775807 then (jl.l0 k x7 (x8 ++ (⟨#[32,62,32]⟩:ByteArray)) (wrap64 (x9 - 1)) x494000 x495000) else (none)) else (if x9 > 0 then (if x8.size+3≤9223372036854775807 then (jl.l0 k x7 (x8 ++ (⟨#[32,126,32]⟩:ByteArray)) (wrap64 (x9 - 1)) x494000 x495000) else (none)) else (jl.l0 k x7 x8 (wrap64 (x9 - 1)) x494000 x495000))
end
def jl.f (k : Nat) (l0_0 : List (S99)) (l1_0 : List (S66)) (a2 : Int) : Option (ByteArray) := (jta.f k l1_0 a2).bind fun t495 => (jl.l0 k t495 (⟨#[]⟩ : ByteArray) (wrap64 ((t495.length : Int) - 1)) l0_0 l1_0)
def jl.T6 : Bool × List (List Nat × List Nat) := (true, [([], []), ([0], [0]), ([], []), ([], []), ([2, 3], [2, 3]), ([4], [4]), ([1, 5], [1, 5]), ([6], [6]), ([], []), ([8, 7, 0, 1, 2, 3, 4, 5, 6, 7, 8], [7, 8])])
def jl.B6 : List Nat := [0, 1, 0, 0, 12, 28, 63, 127, 0, 511]
theorem jl.tab6 : rtab .any (opsOf Tryd.f36 6) = jl.T6 := by kernel_rfl
theorem jl.bits6 : waitsOk jl.T6.2 jl.B6 = true := by kernel_rfl
def jl.T8 : Bool × List (List Nat × List Nat) := (true, [([], []), ([0], [0]), ([1], [1]), ([2], [2]), ([3, 2], [2, 3]), ([2], [2]), ([2], [2]), ([6, 2], [2, 6]), ([5, 7, 2], [2, 5, 7]), ([8, 2], [2, 8]), ([4, 9, 2], [2, 4, 9]), ([10, 2], [2, 10]), ([11, 2], [2, 11]), ([12, 2], [2, 12]), ([2, 13], [2, 13])])
def jl.B8 : List Nat := [0, 1, 3, 7, 15, 7, 7, 71, 231, 487, 1023, 2047, 4095, 8191, 16383]
theorem jl.tab8 : rtab .any (opsOf Tryd.f36 8) = jl.T8 := by kernel_rfl
theorem jl.bits8 : waitsOk jl.T8.2 jl.B8 = true := by kernel_rfl
set_option maxHeartbeats 8000000 in
set_option maxRecDepth 100000 in
theorem jl.calls (k : Nat) (A0_0 : Option Addr) (c0_0 : Nat) (l0_0 : List (S99)) (A1_0 : Option Addr) (c1_0 : Nat) (l1_0 : List (S66)) (a2 : Int) (r : ByteArray) (w : World) (hr0_0 : Kd.C k99 w A0_0 l0_0.length l0_0) (hc0_0 : l0_0.length ≤ c0_0) (hr1_0 : Kd.C k66 w A1_0 l1_0.length l1_0) (hc1_0 : l1_0.length ≤ c1_0) (h : jl.f k l0_0 l1_0 a2 = some r) :
  Calls Tryd.prog 36 #[.agg #[.slice A0_0 l0_0.length c0_0], .agg #[.slice A1_0 l1_0.length c1_0], .int .i64 a2] w fun e w'=>e=.returned (.string r)∧Below w.heap.size w w':=by
 have hu25:=Tryd.underlying25
 have hu28:=Tryd.underlying28
 have hu66:=Tryd.underlying66
 have HR0_0:=am hr0_0
 have HC0_0:=am hc0_0
 clear hr0_0 hc0_0
 have HR1_0:=am hr1_0
 have HC1_0:=am hc1_0
 clear hr1_0 hc1_0
 have HB:=am (Below.refl w.heap.size w)
 have H:((jta.f k l1_0 a2).bind fun t495=>(jl.l0 k t495 (⟨#[]⟩:ByteArray) (wrap64 ((t495.length:Int) - 1)) l0_0 l1_0))=some r:=h
 clear h
 replace H:=bzS H
 obtain ⟨t495,A40,H⟩:=H
 replace H:(jl.l0 k t495 (⟨#[]⟩:ByteArray) (wrap64 ((t495.length:Int) - 1)) l0_0 l1_0)=some r:=H
 have A4:=am A40
 clear A40
 have H':=am H
 clear H
 go_enter Tryd.func36,Tryd.ntmps36
 go_wp2_with (first |((with_reducible refine jr (N:=3) rfl ?_);refine bE (N:=3) (cs:=#[.slice A0_0 l0_0.length c0_0]) (t:=25) ?_;intro gb493 hg w5 hbox hb;have BK493:=am (hbox);have GW493:=am ((Y0:w.heap.size≤gb493));have GE493:=am ((Y0:w.heap.size≤gb493));replace HB:=am (jd (bq) hb);clear hb hbox hg) |((with_reducible refine jr (N:=4) rfl ?_);refine bE (N:=4) (cs:=#[.slice A1_0 l1_0.length c1_0]) (t:=28) ?_;intro gb494 hg w6 hbox hb;have BK494:=am (hbox);have GW494:=am ((Y83:w.heap.size≤gb494));have GE494:=am ((Y83:w.heap.size≤gb494));have NB493_494:=am ((by rw [hg];exact Nat.ne_of_lt (jT (g:=gb493) (o:=.cells #[.slice A0_0 l0_0.length c0_0] 25 (0,0)) (kq BK493.out)):gb493≠gb494));have NB494_493:=am ((by rw [hg];exact Nat.ne_of_gt (jT (g:=gb493) (o:=.cells #[.slice A0_0 l0_0.length c0_0] 25 (0,0)) (kq BK493.out)):gb494≠gb493));replace BK493:=am (jc (g:=gb493) (o:=.cells #[.slice A0_0 l0_0.length c0_0] 25 (0,0)) (kq BK493.out) hb);replace HB:=am (jd (by repeat (first |(with_reducible first | exact HB.out | apply jh | apply je | apply jk | refine jf ?_ GE493.out) | exact HB.out)) hb);clear hb hbox hg;have hnb7:=NB494_493.out;have hnc7:=NB493_494.out;have hcz8_0:=bc0 BK494.out;have hfz8_0:=ja BK494.out 0) |((with_reducible refine jB (f:=32) rfl ?_);refine gL (some 13) Tryd.func32 #[.agg #[.slice A1_0 l1_0.length c1_0], .int .i64 a2] ?_;(with_reducible refine (jta.calls k _ _ l1_0 a2 t495 _ ?side1 ?side2 A4.out).mono ?_);(case side1=>exact cq (Kd.jD HR1_0.out HB.out));(case side2=>exact HC1_0.out);rintro e w9 ⟨v496,rfl,ho0,hb⟩;refine ⟨_,rfl,?_⟩;have HO497:=am (Kd.jGa ho0 (jE (Y34)));replace BK493:=am (jc (g:=gb493) (o:=.cells #[.slice A0_0 l0_0.length c0_0] 25 (0,0)) (kq BK493.out) hb);replace BK494:=am (jc (g:=gb494) (o:=.cells #[.slice A1_0 l1_0.length c1_0] 28 (0,0)) (kq BK494.out) hb);replace HB:=am (jd (Y34) hb);(try clear hb);(try clear hb2);(try clear hk);(try clear hi);(try clear ho0);obtain ⟨Ao10,co10,eo10⟩:=Kd.jEa HO497.out;subst eo10))
 go_loopg [8,9] k (fun kq v8 v9 w'=>∃ (x8_1:ByteArray) (x9_1:Int),v8=.string x8_1∧v9=.int .i64 x9_1∧jH (jl.l0 kq t495 x8_1 x9_1 l0_0 l1_0=some r)∧jH (kq≤k)∧jH (Kd.R (Kd.int .i64) 3 w' w.heap.size (fun _=>True) (.slice Ao10 t495.length co10) t495)∧jH (w'.heap[gb493]?=some (.cells #[(.slice A0_0 l0_0.length c0_0)] 25 (0,0)))∧jH (w'.heap[gb494]?=some (.cells #[(.slice A1_0 l1_0.length c1_0)] 28 (0,0)))∧jH (Below w.heap.size w w'))
 case atStart=>exact ⟨((⟨#[]⟩:ByteArray)),(wrap64 ((t495.length:Int) - 1)),(sq),(sq),H',⟨Nat.le_refl _⟩,⟨rq HO497.out⟩,⟨kq BK493.out⟩,⟨kq BK494.out⟩,⟨Y34⟩⟩
 case round =>
  clear H'
  try clear c1
  try clear p2
  try clear c3
  try clear p6
  try clear c7
  try clear hcz8_0
  try clear hfz8_0
  obtain ⟨x8_1,x9_1,rfl,rfl,HA,HK1,HO_7,BK493,BK494,HB⟩:=hrel
  cases gk with
  | zero=>exact absurd HA.out (by simp [jl.l0])
  | succ k1 =>
   have H:=HA.out
   clear HA
   simp only [jl.l0] at H
   by_cases c11:x9_1≥0
   ·rw [if_pos c11] at H
    have c11b0:decide (0≤x9_1)=true:=dzT c11
    clear c11
    by_cases c12:0≤x9_1
    ·rw [if_pos c12] at H
     have c12b0:decide (0≤x9_1)=true:=dzT c12
     clear c12
     by_cases c13:x9_1<(t495.length:Int)
     ·rw [if_pos c13] at H
      have c13b0:decide (x9_1<(t495.length:Int))=true:=dzT c13
      clear c13
      by_cases c14:0≤(rd t495 x9_1)
      ·rw [if_pos c14] at H
       have c14b0:decide (0≤(rd t495 x9_1))=true:=dzT c14
       clear c14
       by_cases c15:(rd t495 x9_1)<(l1_0.length:Int)
       ·rw [if_pos c15] at H
        have c15b0:decide ((rd t495 x9_1)<(l1_0.length:Int))=true:=dzT c15
        clear c15
        replace H:=bzS H
        obtain ⟨t501,A160,H⟩:=H
        replace H:(if x8_1.size+t501.size≤9223372036854775807 then (if x9_1 > 0 then (if 0≤(wrap64 (x9_1 - 1)) then (if (wrap64 (x9_1 - 1))<(t495.length:Int) then (if 0≤(rd t495 (wrap64 (x9_1 - 1))) then (if (rd t495 (wrap64 (x9_1 - 1)))<(l1_0.length:Int) then (jl.j1 k1 t495 (x8_1 ++ t501) x9_1 (decide (((jb l1_0 (rd t495 (wrap64 (x9_1 - 1)))).f2)≥0)) l0_0 l1_0) else (none)) else (none)) else (none)) else (none)) else (jl.j1 k1 t495 (x8_1 ++ t501) x9_1 false l0_0 l1_0)) else (none))=some r:=H
        have A16:=am A160
        clear A160
        by_cases c17:x8_1.size+t501.size≤9223372036854775807
        ·rw [if_pos c17] at H
         have c17b0:=ezT c17
         have c17b1:decide (x8_1.size+t501.size≤9223372036854775807)=true:=dzT c17
         try have c17b2:(9223372036854775807<x8_1.size+t501.size)=False:=eq_false (Nat.not_lt.2 c17)
         have HC18:=am H
         clear H
         try go_wp2
         replace HO_7:=am (Kd.jWa HO_7.out)
         replace BK493:=am (jv BK493.out)
         replace BK494:=am (jv BK494.out)
         replace HB:=am (jk HB.out)
         have p498:0≤(x9_1:Int):=ozD (uq)
         have q498:x9_1<(t495.length:Int):=ozD (uq)
         obtain ⟨ad498,e498,hx498_0⟩:=Kd.jtb (Kd.jN HO_7.out).2.2 x9_1 p498 q498
         cases e498
         replace p498:=ezT p498
         replace q498:=ezT q498
         have p499:0≤((rd t495 x9_1):Int):=ozD (uq)
         have q499:(rd t495 x9_1)<(l1_0.length:Int):=ozD (uq)
         obtain ⟨ad499,e499,hx499_0,hx499_1,hx499_2,hx499_3,hx499_4⟩:=jLa HR1_0.out (rd t495 x9_1) p499 q499
         have hw499_4:=hx499_4
         have hw499_3:=hx499_3
         have hw499_2:=hx499_2
         have hw499_1:=hx499_1
         have hw499_0:=hx499_0
         cases e499
         replace hx499_0:=cb HB.out hx499_0
         replace hx499_1:=cb HB.out hx499_1
         replace hx499_2:=cb HB.out hx499_2
         replace hx499_3:=cb HB.out hx499_3
         replace hx499_4:=cb HB.out hx499_4
         replace p499:=ezT p499
         replace q499:=ezT q499
         refine start_ (n:=10) (S:=fun w'=>w'.cell? ⟨gb494,0,none⟩=some (.slice (some ad499) l1_0.length c1_0)∧w'.cell? (ad498.add (x9_1).toNat)=some (.int .i64 (rd t495 x9_1))∧w'.cell? (ad499.add (((rd t495 x9_1)).toNat * 5))=some (.int .i64 ((jb l1_0 (rd t495 x9_1)).f0))∧w'.cell? ⟨(ad499.add (((rd t495 x9_1)).toNat * 5)).block,(ad499.add (((rd t495 x9_1)).toNat * 5)).off+1,none⟩=some (.int .i64 ((jb l1_0 (rd t495 x9_1)).f1))∧w'.cell? ⟨(ad499.add (((rd t495 x9_1)).toNat * 5)).block,(ad499.add (((rd t495 x9_1)).toNat * 5)).off+2,none⟩=some (.int .i64 ((jb l1_0 (rd t495 x9_1)).f2))∧w'.cell? ⟨(ad499.add (((rd t495 x9_1)).toNat * 5)).block,(ad499.add (((rd t495 x9_1)).toNat * 5)).off+3,none⟩=some (.int .i64 ((jb l1_0 (rd t495 x9_1)).f3))∧w'.cell? ⟨(ad499.add (((rd t495 x9_1)).toNat * 5)).block,(ad499.add (((rd t495 x9_1)).toNat * 5)).off+4,none⟩=some (.bool ((jb l1_0 (rd t495 x9_1)).f4))) (ds:=[]) #[false,false,false,false,false,false,false,false,false,false] (by kernel_rfl) rfl rfl ⟨(jC BK494.out 0).trans rfl,hx498_0,((HB.out.cell (World.block_lt_of_cell? w _ hw499_0)).trans hw499_0),((HB.out.cell (World.block_lt_of_cell? w _ hw499_1)).trans hw499_1),((HB.out.cell (World.block_lt_of_cell? w _ hw499_2)).trans hw499_2),((HB.out.cell (World.block_lt_of_cell? w _ hw499_3)).trans hw499_3),((HB.out.cell (World.block_lt_of_cell? w _ hw499_4)).trans hw499_4)⟩ (fun hHeld=>?_);refine jwb jl.tab6 jl.bits6 (fun HT_ HW_=>?_)
         generalize wr.drew=w19 at HO_7 BK493 BK494 HB hx498_0 hx499_0 hx499_1 hx499_2 hx499_3 hx499_4 hHeld ⊢
         refine pq (i:=0) (N:=some 21) #[true,false,false,false,false,false,false,false,false,false] ?_
         refine pq (i:=2) (N:=some 23) #[true,false,true,false,false,false,false,false,false,false] ?_
         refine pq (i:=3) (N:=some 24) #[true,false,true,true,false,false,false,false,false,false] ?_
         refine pq (i:=4) (N:=some 25) #[true,false,true,true,true,false,false,false,false,false] ?_
         refine jzb (i:=1) (N:=some 22) (v:=?_) (a':=?_) #[true,true,true,true,true,false,false,false,false,false] rfl rfl (jUa HT_.out HW_.out (by kernel_rfl)) (fun _ _ _ h=>h) (Or.inl ⟨by rfl,?_⟩) hHeld ?_ ?_
         rotate_left
         ·rintro w' ⟨s0,s1,s2,s3,s4,s5,s6⟩
          go_simp
          with_reducible rfl
         rotate_left
         ·exact sa
         refine jzb (i:=5) (N:=some 26) (v:=?_) (a':=?_) #[true,true,true,true,true,true,false,false,false,false] rfl rfl (jUa HT_.out HW_.out (by kernel_rfl)) (fun _ _ _ h=>h) (Or.inl ⟨by rfl,?_⟩) hHeld ?_ ?_
         rotate_left
         ·rintro w' ⟨s0,s1,s2,s3,s4,s5,s6⟩
          go_simp
          with_reducible rfl
         rotate_left
         ·exact sa
         refine pq (i:=6) (N:=some 27) #[true,true,true,true,true,true,true,false,false,false] ?_
         refine jzb (i:=7) (N:=some 28) (v:=?_) (a':=?_) #[true,true,true,true,true,true,true,true,false,false] rfl rfl (jUa HT_.out HW_.out (by kernel_rfl)) (fun _ _ _ h=>h) (Or.inl ⟨by rfl,?_⟩) hHeld ?_ ?_
         rotate_left
         ·rintro w' ⟨s0,s1,s2,s3,s4,s5,s6⟩
          go_simp
          with_reducible rfl
         rotate_left
         ·exact sa
         refine one_ (i:=8) (N:=some 10) #[true,true,true,true,true,true,true,true,true,false] rfl rfl (one_of HT_.out (by kernel_rfl)) (by decide) (fun K hK=>?_)
         refine box_step ?hg (N:=10) ?hd (cs:=#[.int .i64 0, .int .i64 0, .int .i64 0, .int .i64 0, .bool false]) (t:=66) ?hr ?_;(case hd=>rfl);(case hg=>rfl);(case hr=>exact Y6)
         intro gb500 hg w20 hbox hb
         have HS1_:=(hb.cell (World.block_lt_of_cell? _ _ (hHeld.2.1))).trans (hHeld.2.1)
         have BK500:=am (hbox)
         have GW500:=am ((Y84:w.heap.size≤gb500))
         have GE500:=am ((Y84:w.heap.size≤gb500))
         have NB493_500:=am ((by rw [hg];exact Nat.ne_of_lt (jT (g:=gb493) (o:=.cells #[.slice A0_0 l0_0.length c0_0] 25 (0,0)) (kq BK493.out)):gb493≠gb500))
         have NB500_493:=am ((by rw [hg];exact Nat.ne_of_gt (jT (g:=gb493) (o:=.cells #[.slice A0_0 l0_0.length c0_0] 25 (0,0)) (kq BK493.out)):gb500≠gb493))
         have NB494_500:=am ((by rw [hg];exact Nat.ne_of_lt (jT (g:=gb494) (o:=.cells #[.slice (some ad499) l1_0.length c1_0] 28 (0,0)) (kq BK494.out)):gb494≠gb500))
         have NB500_494:=am ((by rw [hg];exact Nat.ne_of_gt (jT (g:=gb494) (o:=.cells #[.slice (some ad499) l1_0.length c1_0] 28 (0,0)) (kq BK494.out)):gb500≠gb494))
         replace HO_7:=am (Kd.jfa (rq HO_7.out) hb)
         replace BK493:=am (jc (g:=gb493) (o:=.cells #[.slice A0_0 l0_0.length c0_0] 25 (0,0)) (kq BK493.out) hb)
         replace BK494:=am (jc (g:=gb494) (o:=.cells #[.slice (some ad499) l1_0.length c1_0] 28 (0,0)) (kq BK494.out) hb)
         replace HB:=am (jd (Y34) hb)
         clear hb hbox hg
         refine hK.out _ _ ⟨(jC BK494.out 0).trans rfl,HS1_,((HB.out.cell (World.block_lt_of_cell? w _ hw499_0)).trans hw499_0),((HB.out.cell (World.block_lt_of_cell? w _ hw499_1)).trans hw499_1),((HB.out.cell (World.block_lt_of_cell? w _ hw499_2)).trans hw499_2),((HB.out.cell (World.block_lt_of_cell? w _ hw499_3)).trans hw499_3),((HB.out.cell (World.block_lt_of_cell? w _ hw499_4)).trans hw499_4)⟩ (fun hHeld=>?_)
         clear hK K
         refine norm_ (a':=?_) ?_ ?_
         rotate_left
         ·show Act.put _ (some 10) _=_
          simp only [Act.put,List.setIfInBounds_toArray,List.set_cons_zero,List.set_cons_succ,jEb,i32_w]
          rfl
         refine one_ (i:=9) (N:=none) #[true,true,true,true,true,true,true,true,true,true] rfl rfl (one_of HT_.out (by kernel_rfl)) (by decide) (fun K hK=>?_)
         have hs21:w20.cell? ⟨gb500,0,none⟩=some (.int .i64 0):=(jC BK500.out 0).trans rfl
         have hfs21:=ja BK500.out 0
         have hns21_0:=NB493_500.out
         have hns21_1:=NB494_500.out
         have hms21_0:=NB500_493.out
         have hms21_1:=NB500_494.out
         have hs22:w20.cell? ⟨gb500,1,none⟩=some (.int .i64 0):=(jC BK500.out 1).trans rfl
         have hfs22:=ja BK500.out 1
         have hns22_0:=NB493_500.out
         have hns22_1:=NB494_500.out
         have hms22_0:=NB500_493.out
         have hms22_1:=NB500_494.out
         have hs23:w20.cell? ⟨gb500,2,none⟩=some (.int .i64 0):=(jC BK500.out 2).trans rfl
         have hfs23:=ja BK500.out 2
         have hns23_0:=NB493_500.out
         have hns23_1:=NB494_500.out
         have hms23_0:=NB500_493.out
         have hms23_1:=NB500_494.out
         have hs24:w20.cell? ⟨gb500,3,none⟩=some (.int .i64 0):=(jC BK500.out 3).trans rfl
         have hfs24:=ja BK500.out 3
         have hns24_0:=NB493_500.out
         have hns24_1:=NB494_500.out
         have hms24_0:=NB500_493.out
         have hms24_1:=NB500_494.out
         have hs25:w20.cell? ⟨gb500,4,none⟩=some (.bool false):=(jC BK500.out 4).trans rfl
         have hfs25:=ja BK500.out 4
         have hns25_0:=NB493_500.out
         have hns25_1:=NB494_500.out
         have hms25_0:=NB500_493.out
         have hms25_1:=NB500_494.out
         refine skip_ (w1:=?_) (by rfl) rfl ?_ ?_
         rotate_left
         ·go_simp
          rfl
         refine hK.out _ _ ⟨((cell_far (p:=⟨gb500,_,none⟩) NB494_500.out _).trans (((cell_far (p:=⟨gb500,_,none⟩) NB494_500.out _).trans (((cell_far (p:=⟨gb500,_,none⟩) NB494_500.out _).trans (((cell_far (p:=⟨gb500,_,none⟩) NB494_500.out _).trans (((cell_far (p:=⟨gb500,_,none⟩) NB494_500.out _).trans (hHeld.1)))))))))),((cell_far (p:=⟨gb500,_,none⟩) (Y35) _).trans (((cell_far (p:=⟨gb500,_,none⟩) (Y35) _).trans (((cell_far (p:=⟨gb500,_,none⟩) (Y35) _).trans (((cell_far (p:=⟨gb500,_,none⟩) (Y35) _).trans (((cell_far (p:=⟨gb500,_,none⟩) (Y35) _).trans (hHeld.2.1)))))))))),((cell_far (p:=⟨gb500,_,none⟩) (Y36) _).trans (((cell_far (p:=⟨gb500,_,none⟩) (Y36) _).trans (((cell_far (p:=⟨gb500,_,none⟩) (Y36) _).trans (((cell_far (p:=⟨gb500,_,none⟩) (Y36) _).trans (((cell_far (p:=⟨gb500,_,none⟩) (Y36) _).trans (hHeld.2.2.1)))))))))),((cell_far (p:=⟨gb500,_,none⟩) (Y37) _).trans (((cell_far (p:=⟨gb500,_,none⟩) (Y37) _).trans (((cell_far (p:=⟨gb500,_,none⟩) (Y37) _).trans (((cell_far (p:=⟨gb500,_,none⟩) (Y37) _).trans (((cell_far (p:=⟨gb500,_,none⟩) (Y37) _).trans (hHeld.2.2.2.1)))))))))),((cell_far (p:=⟨gb500,_,none⟩) (Y38) _).trans (((cell_far (p:=⟨gb500,_,none⟩) (Y38) _).trans (((cell_far (p:=⟨gb500,_,none⟩) (Y38) _).trans (((cell_far (p:=⟨gb500,_,none⟩) (Y38) _).trans (((cell_far (p:=⟨gb500,_,none⟩) (Y38) _).trans (hHeld.2.2.2.2.1)))))))))),((cell_far (p:=⟨gb500,_,none⟩) (Y39) _).trans (((cell_far (p:=⟨gb500,_,none⟩) (Y39) _).trans (((cell_far (p:=⟨gb500,_,none⟩) (Y39) _).trans (((cell_far (p:=⟨gb500,_,none⟩) (Y39) _).trans (((cell_far (p:=⟨gb500,_,none⟩) (Y39) _).trans (hHeld.2.2.2.2.2.1)))))))))),((cell_far (p:=⟨gb500,_,none⟩) (Y40) _).trans (((cell_far (p:=⟨gb500,_,none⟩) (Y40) _).trans (((cell_far (p:=⟨gb500,_,none⟩) (Y40) _).trans (((cell_far (p:=⟨gb500,_,none⟩) (Y40) _).trans (((cell_far (p:=⟨gb500,_,none⟩) (Y40) _).trans (hHeld.2.2.2.2.2.2))))))))))⟩ (fun hHeld=>?_)
         clear hK K
         refine done_ (done_of HT_.out (by kernel_rfl)) ?_
         have hnb26:=NB493_494.out
         have hnc26:=NB494_493.out
         have hnb27:=NB493_500.out
         have hnc27:=NB500_493.out
         have hcz28_0:=bc0 BK493.out
         have hfz28_0:=ja BK493.out 0
         have hnb29:=NB500_494.out
         have hnc29:=NB494_500.out
         have hcz30_0:=bc0 BK500.out
         have hcz30_1:=bc1 BK500.out
         have hcz30_2:=bc2 BK500.out
         have hcz30_3:=bc3 BK500.out
         have hcz30_4:w20.cell? ⟨gb500,4,none⟩=some (.bool false):=(jC BK500.out 4).trans rfl
         have hfz30_0:=ja BK500.out 0
         have hfz30_1:=ja BK500.out 1
         have hfz30_2:=ja BK500.out 2
         have hfz30_3:=ja BK500.out 3
         have hfz30_4:=ja BK500.out 4
         go_upto_region 8 with (first |((with_reducible refine jB (f:=61) rfl ?_);refine gL (some 35) Tryd.func61 #[.agg #[.slice A0_0 l0_0.length c0_0], .int .i64 ((jb l1_0 (rd t495 x9_1)).f0), .int .i64 ((jb l1_0 (rd t495 x9_1)).f1)] ?_;(with_reducible refine (jNa.calls k1 _ _ l0_0 ((jb l1_0 (rd t495 x9_1)).f0) ((jb l1_0 (rd t495 x9_1)).f1) t501 _ ?side1 ?side2 A16.out).mono ?_);(case side1=>exact Kd.jD HR0_0.out (Y18));(case side2=>exact HC0_0.out);rintro e w31 ⟨rfl,hb⟩;refine ⟨_,rfl,?_⟩;replace HO_7:=am (Kd.jfa (by (with_reducible repeat (first | apply Kd.jpb | apply Kd.jyb | apply Kd.jWa));exact (Kd.jcb (Kd.R_far (p:=⟨gb500,4,none⟩) (Kd.R_far (p:=⟨gb500,3,none⟩) (Kd.R_far (p:=⟨gb500,2,none⟩) (Kd.R_far (p:=⟨gb500,1,none⟩) (Kd.R_far (p:=⟨gb500,0,none⟩) (Kd.jnb HO_7.out BK500.out (by decide)) (fun _ hk=>hk.2) (.int .i64 ((jb l1_0 (rd t495 x9_1)).f0))) (fun _ hk=>hk.2) (.int .i64 ((jb l1_0 (rd t495 x9_1)).f1))) (fun _ hk=>hk.2) (.int .i64 ((jb l1_0 (rd t495 x9_1)).f2))) (fun _ hk=>hk.2) (.int .i64 ((jb l1_0 (rd t495 x9_1)).f3))) (fun _ hk=>hk.2) (.bool ((jb l1_0 (rd t495 x9_1)).f4))) (fun _ h_=>h_.1))) hb);replace BK493:=am (jc (g:=gb493) (o:=.cells #[.slice A0_0 l0_0.length c0_0] 25 (0,0)) (by (with_reducible repeat (first | refine jm ?_ _ | refine jv ?_ | refine jw ?_ _));refine jma ?_ NB493_500.out _;(with_reducible repeat (first | refine jm ?_ _ | refine jv ?_ | refine jw ?_ _));refine jma ?_ NB493_500.out _;(with_reducible repeat (first | refine jm ?_ _ | refine jv ?_ | refine jw ?_ _));refine jma ?_ NB493_500.out _;(with_reducible repeat (first | refine jm ?_ _ | refine jv ?_ | refine jw ?_ _));refine jma ?_ NB493_500.out _;(with_reducible repeat (first | refine jm ?_ _ | refine jv ?_ | refine jw ?_ _));refine jma ?_ NB493_500.out _;(with_reducible repeat (first | refine jm ?_ _ | refine jv ?_ | refine jw ?_ _));exact BK493.out) hb);replace BK494:=am (jc (g:=gb494) (o:=.cells #[.slice (some ad499) l1_0.length c1_0] 28 (0,0)) (by (with_reducible repeat (first | refine jm ?_ _ | refine jv ?_ | refine jw ?_ _));refine jma ?_ NB494_500.out _;(with_reducible repeat (first | refine jm ?_ _ | refine jv ?_ | refine jw ?_ _));refine jma ?_ NB494_500.out _;(with_reducible repeat (first | refine jm ?_ _ | refine jv ?_ | refine jw ?_ _));refine jma ?_ NB494_500.out _;(with_reducible repeat (first | refine jm ?_ _ | refine jv ?_ | refine jw ?_ _));refine jma ?_ NB494_500.out _;(with_reducible repeat (first | refine jm ?_ _ | refine jv ?_ | refine jw ?_ _));refine jma ?_ NB494_500.out _;(with_reducible repeat (first | refine jm ?_ _ | refine jv ?_ | refine jw ?_ _));exact BK494.out) hb);replace BK500:=am (jc (g:=gb500) (o:=.cells #[.int .i64 ((jb l1_0 (rd t495 x9_1)).f0), .int .i64 ((jb l1_0 (rd t495 x9_1)).f1), .int .i64 ((jb l1_0 (rd t495 x9_1)).f2), .int .i64 ((jb l1_0 (rd t495 x9_1)).f3), .bool ((jb l1_0 (rd t495 x9_1)).f4)] 66 (0,0)) (by (with_reducible repeat (first | refine jm ?_ _ | refine jv ?_ | refine jw ?_ _));refine jDa (cs:=#[.int .i64 ((jb l1_0 (rd t495 x9_1)).f0), .int .i64 ((jb l1_0 (rd t495 x9_1)).f1), .int .i64 ((jb l1_0 (rd t495 x9_1)).f2), .int .i64 ((jb l1_0 (rd t495 x9_1)).f3), .bool false]) ?_ 4 _ rfl;(with_reducible repeat (first | refine jm ?_ _ | refine jv ?_ | refine jw ?_ _));refine jDa (cs:=#[.int .i64 ((jb l1_0 (rd t495 x9_1)).f0), .int .i64 ((jb l1_0 (rd t495 x9_1)).f1), .int .i64 ((jb l1_0 (rd t495 x9_1)).f2), .int .i64 0, .bool false]) ?_ 3 _ rfl;(with_reducible repeat (first | refine jm ?_ _ | refine jv ?_ | refine jw ?_ _));refine jDa (cs:=#[.int .i64 ((jb l1_0 (rd t495 x9_1)).f0), .int .i64 ((jb l1_0 (rd t495 x9_1)).f1), .int .i64 0, .int .i64 0, .bool false]) ?_ 2 _ rfl;(with_reducible repeat (first | refine jm ?_ _ | refine jv ?_ | refine jw ?_ _));refine jDa (cs:=#[.int .i64 ((jb l1_0 (rd t495 x9_1)).f0), .int .i64 0, .int .i64 0, .int .i64 0, .bool false]) ?_ 1 _ rfl;(with_reducible repeat (first | refine jm ?_ _ | refine jv ?_ | refine jw ?_ _));refine jDa (cs:=#[.int .i64 0, .int .i64 0, .int .i64 0, .int .i64 0, .bool false]) ?_ 0 _ rfl;(with_reducible repeat (first | refine jm ?_ _ | refine jv ?_ | refine jw ?_ _));exact BK500.out) hb);replace HB:=am (jd (Y18) hb);(try clear hb);(try clear hb2);(try clear hk);(try clear hi)))
         (try simp only [Act.put,List.setIfInBounds_toArray,List.set_cons_zero,List.set_cons_succ])
         go_cut [51] (fun v51 wc=>∃ (kq:Nat) (x51_17:Bool),v51=.bool x51_17∧jH (jl.j1 kq t495 (x8_1 ++ t501) x9_1 x51_17 l0_0 l1_0=some r)∧jH (kq≤k1)∧jH (Kd.R (Kd.int .i64) 3 wc w.heap.size (fun _=>True) (.slice (some ad498) t495.length co10) t495)∧jH (wc.heap[gb493]?=some (.cells #[(.slice A0_0 l0_0.length c0_0)] 25 (0,0)))∧jH (wc.heap[gb494]?=some (.cells #[(.slice (some ad499) l1_0.length c1_0)] 28 (0,0)))∧jH (wc.heap[gb500]?=some (.cells #[.int .i64 ((jb l1_0 (rd t495 x9_1)).f0), .int .i64 ((jb l1_0 (rd t495 x9_1)).f1), .int .i64 ((jb l1_0 (rd t495 x9_1)).f2), .int .i64 ((jb l1_0 (rd t495 x9_1)).f3), .bool ((jb l1_0 (rd t495 x9_1)).f4)] 66 (0,0)))∧jH (Below w.heap.size w wc))
         case first =>
          have H:=HC18.out
          clear HC18
          by_cases c32:x9_1 > 0
          ·rw [if_pos c32] at H
           have c32b0:decide (0<x9_1)=true:=dzT c32
           clear c32
           (first | rw [c32b0] |(simp only [jEb,i32_w];rw [c32b0]) | skip)
           obtain ⟨ji33,hji33⟩:∃ j_:Int,(wrap64 (x9_1 - 1))=j_:=⟨_,rfl⟩
           replace H:(if 0≤(ji33) then (if (ji33)<(t495.length:Int) then (if 0≤(rd t495 (ji33)) then (if (rd t495 (ji33))<(l1_0.length:Int) then (jl.j1 k1 t495 (x8_1 ++ t501) x9_1 (decide (((jb l1_0 (rd t495 (ji33))).f2)≥0)) l0_0 l1_0) else (none)) else (none)) else (none)) else (none))=some r:=by first |(rw [hji33] at H;exact H) |(simp only [hji33] at H ⊢;exact H)
           have hji33w:(IntKind.i64.wrap (x9_1 - 1))=ji33:=(jEb _).trans hji33
           by_cases c34:0≤(ji33)
           ·rw [if_pos c34] at H
            have c34b0:decide (0≤(ji33))=true:=dzT c34
            clear c34
            by_cases c35:(ji33)<(t495.length:Int)
            ·rw [if_pos c35] at H
             have c35b0:decide ((ji33)<(t495.length:Int))=true:=dzT c35
             clear c35
             by_cases c36:0≤(rd t495 (ji33))
             ·rw [if_pos c36] at H
              have c36b0:decide (0≤(rd t495 (ji33)))=true:=dzT c36
              clear c36
              by_cases c37:(rd t495 (ji33))<(l1_0.length:Int)
              ·rw [if_pos c37] at H
               have c37b0:decide ((rd t495 (ji33))<(l1_0.length:Int))=true:=dzT c37
               clear c37
               have H':=am H
               clear H
               try go_wp2
               replace HO_7:=am (Kd.jWa HO_7.out)
               replace BK493:=am (jv BK493.out)
               replace BK494:=am (jv BK494.out)
               replace BK500:=am (jv BK500.out)
               replace HB:=am (jk HB.out)
               have p502:0≤((ji33):Int):=ozD (uq)
               have q502:(ji33)<(t495.length:Int):=ozD (uq)
               obtain ⟨ad502,e502,hx502_0⟩:=Kd.jtb (Kd.jN HO_7.out).2.2 (ji33) p502 q502
               obtain rfl:ad498=ad502:=(by injection e502)
               replace p502:=ezT p502
               replace q502:=ezT q502
               have p503:0≤((rd t495 (ji33)):Int):=ozD (uq)
               have q503:(rd t495 (ji33))<(l1_0.length:Int):=ozD (uq)
               obtain ⟨ad503,e503,hx503_0,hx503_1,hx503_2,hx503_3,hx503_4⟩:=jLa HR1_0.out (rd t495 (ji33)) p503 q503
               have hw503_4:=hx503_4
               have hw503_3:=hx503_3
               have hw503_2:=hx503_2
               have hw503_1:=hx503_1
               have hw503_0:=hx503_0
               obtain rfl:ad499=ad503:=(by injection e503)
               replace hx503_0:=cb HB.out hx503_0
               replace hx503_1:=cb HB.out hx503_1
               replace hx503_2:=cb HB.out hx503_2
               replace hx503_3:=cb HB.out hx503_3
               replace hx503_4:=cb HB.out hx503_4
               replace p503:=ezT p503
               replace q503:=ezT q503
               refine start_ (n:=15) (S:=fun w'=>w'.cell? ⟨gb494,0,none⟩=some (.slice (some ad499) l1_0.length c1_0)∧w'.cell? (ad498.add ((ji33)).toNat)=some (.int .i64 (rd t495 (ji33)))∧w'.cell? (ad499.add (((rd t495 (ji33))).toNat * 5))=some (.int .i64 ((jb l1_0 (rd t495 (ji33))).f0))∧w'.cell? ⟨(ad499.add (((rd t495 (ji33))).toNat * 5)).block,(ad499.add (((rd t495 (ji33))).toNat * 5)).off+1,none⟩=some (.int .i64 ((jb l1_0 (rd t495 (ji33))).f1))∧w'.cell? ⟨(ad499.add (((rd t495 (ji33))).toNat * 5)).block,(ad499.add (((rd t495 (ji33))).toNat * 5)).off+2,none⟩=some (.int .i64 ((jb l1_0 (rd t495 (ji33))).f2))∧w'.cell? ⟨(ad499.add (((rd t495 (ji33))).toNat * 5)).block,(ad499.add (((rd t495 (ji33))).toNat * 5)).off+3,none⟩=some (.int .i64 ((jb l1_0 (rd t495 (ji33))).f3))∧w'.cell? ⟨(ad499.add (((rd t495 (ji33))).toNat * 5)).block,(ad499.add (((rd t495 (ji33))).toNat * 5)).off+4,none⟩=some (.bool ((jb l1_0 (rd t495 (ji33))).f4))) (ds:=[]) #[false,false,false,false,false,false,false,false,false,false,false,false,false,false,false] (by kernel_rfl) rfl rfl ⟨(jC BK494.out 0).trans rfl,hx502_0,((HB.out.cell (World.block_lt_of_cell? w _ hw503_0)).trans hw503_0),((HB.out.cell (World.block_lt_of_cell? w _ hw503_1)).trans hw503_1),((HB.out.cell (World.block_lt_of_cell? w _ hw503_2)).trans hw503_2),((HB.out.cell (World.block_lt_of_cell? w _ hw503_3)).trans hw503_3),((HB.out.cell (World.block_lt_of_cell? w _ hw503_4)).trans hw503_4)⟩ (fun hHeld=>?_);refine jwb jl.tab8 jl.bits8 (fun HT_ HW_=>?_)
               generalize w31.drew=w38 at HO_7 BK493 BK494 BK500 HB hx502_0 hx503_0 hx503_1 hx503_2 hx503_3 hx503_4 hHeld ⊢
               refine pq (i:=0) (N:=some 37) #[true,false,false,false,false,false,false,false,false,false,false,false,false,false,false] ?_
               refine pq (i:=1) (N:=some 38) #[true,true,false,false,false,false,false,false,false,false,false,false,false,false,false] ?_
               refine pq (i:=2) (N:=some 39) #[true,true,true,false,false,false,false,false,false,false,false,false,false,false,false] ?_
               refine pq (i:=3) (N:=some 40) #[true,true,true,true,false,false,false,false,false,false,false,false,false,false,false] ?_
               refine pq (i:=5) (N:=some 42) #[true,true,true,true,false,true,false,false,false,false,false,false,false,false,false] ?_
               refine pq (i:=6) (N:=some 43) #[true,true,true,true,false,true,true,false,false,false,false,false,false,false,false] ?_
               refine pq (i:=7) (N:=some 44) #[true,true,true,true,false,true,true,true,false,false,false,false,false,false,false] ?_
               refine pq (i:=8) (N:=some 45) #[true,true,true,true,false,true,true,true,true,false,false,false,false,false,false] ?_
               refine jzb (i:=4) (N:=some 41) (v:=?_) (a':=?_) #[true,true,true,true,true,true,true,true,true,false,false,false,false,false,false] rfl rfl (jUa HT_.out HW_.out (by kernel_rfl)) (fun _ _ _ h=>h) (Or.inl ⟨by rfl,?_⟩) hHeld ?_ ?_
               rotate_left
               ·rintro w' ⟨s0,s1,s2,s3,s4,s5,s6⟩
                go_simp
                with_reducible rfl
               rotate_left
               ·exact sa
               refine jzb (i:=9) (N:=some 46) (v:=?_) (a':=?_) #[true,true,true,true,true,true,true,true,true,true,false,false,false,false,false] rfl rfl (jUa HT_.out HW_.out (by kernel_rfl)) (fun _ _ _ h=>h) (Or.inl ⟨by rfl,?_⟩) hHeld ?_ ?_
               rotate_left
               ·rintro w' ⟨s0,s1,s2,s3,s4,s5,s6⟩
                go_simp
                with_reducible rfl
               rotate_left
               ·exact sa
               refine pq (i:=10) (N:=some 47) #[true,true,true,true,true,true,true,true,true,true,true,false,false,false,false] ?_
               refine pq (i:=11) (N:=some 48) #[true,true,true,true,true,true,true,true,true,true,true,true,false,false,false] ?_
               refine jzb (i:=12) (N:=some 49) (v:=?_) (a':=?_) #[true,true,true,true,true,true,true,true,true,true,true,true,true,false,false] rfl rfl (jUa HT_.out HW_.out (by kernel_rfl)) (fun _ _ _ h=>h) (Or.inl ⟨by rfl,?_⟩) hHeld ?_ ?_
               rotate_left
               ·rintro w' ⟨s0,s1,s2,s3,s4,s5,s6⟩
                go_simp
                with_reducible rfl
               rotate_left
               ·exact sa
               refine pq (i:=13) (N:=some 50) #[true,true,true,true,true,true,true,true,true,true,true,true,true,true,false] ?_
               refine pq (i:=14) (N:=some 51) #[true,true,true,true,true,true,true,true,true,true,true,true,true,true,true] ?_
               refine done_ (done_of HT_.out (by kernel_rfl)) ?_
               try go_wp2
               go_meet
               case rel=>exact ⟨_,(decide (((jb l1_0 (rd t495 (ji33))).f2)≥0)),(by first | rfl |(simp;done) |(simp only [← hji33] <;> (first | rfl | simp)) |(simp [*];done)),H',⟨by have:=HK1.out;first | omega | exact Nat.le_refl _⟩,⟨rq HO_7.out⟩,⟨kq BK493.out⟩,⟨kq BK494.out⟩,⟨kq BK500.out⟩,⟨Y18⟩⟩
              ·rw [if_neg c37] at H
               exact absurd H (by simp)
             ·rw [if_neg c36] at H
              exact absurd H (by simp)
            ·rw [if_neg c35] at H
             exact absurd H (by simp)
           ·rw [if_neg c34] at H
            exact absurd H (by simp)
          ·rw [if_neg c32] at H
           have c32b0:decide (0<x9_1)=false:=dzF c32
           clear c32
           (first | rw [c32b0] |(simp only [jEb,i32_w];rw [c32b0]) | skip)
           have H':=am H
           clear H
           try go_wp2
           replace HO_7:=am (Kd.jWa HO_7.out)
           replace BK493:=am (jv BK493.out)
           replace BK494:=am (jv BK494.out)
           replace BK500:=am (jv BK500.out)
           replace HB:=am (jk HB.out)
           refine start_ (n:=15) (S:=fun w'=>True) (ds:=[]) #[false,false,false,false,false,false,false,false,false,false,false,false,false,false,false] (by kernel_rfl) rfl rfl trivial (fun hHeld=>?_);refine jwb jl.tab8 jl.bits8 (fun HT_ HW_=>?_)
           generalize w31.drew=w39 at HO_7 BK493 BK494 BK500 HB hHeld ⊢
           refine pq (i:=0) (N:=some 37) #[true,false,false,false,false,false,false,false,false,false,false,false,false,false,false] ?_
           refine pq (i:=1) (N:=some 38) #[true,true,false,false,false,false,false,false,false,false,false,false,false,false,false] ?_
           refine pq (i:=2) (N:=some 39) #[true,true,true,false,false,false,false,false,false,false,false,false,false,false,false] ?_
           refine pure_ (i:=3) (N:=some 40) (v:=undef) (a':=?_) #[true,true,true,true,false,false,false,false,false,false,false,false,false,false,false] rfl rfl (any_of HT_.out (by kernel_rfl)) (fun _ _ _ h=>h) (Or.inr ⟨by rfl,rfl⟩) ?_ ?_
           rotate_left
           ·exact sa
           refine pure_ (i:=4) (N:=some 41) (v:=undef) (a':=?_) #[true,true,true,true,true,false,false,false,false,false,false,false,false,false,false] rfl rfl (any_of HT_.out (by kernel_rfl)) (fun _ _ _ h=>h) (Or.inr ⟨by rfl,rfl⟩) ?_ ?_
           rotate_left
           ·exact sa
           refine pure_ (i:=5) (N:=some 42) (v:=undef) (a':=?_) #[true,true,true,true,true,true,false,false,false,false,false,false,false,false,false] rfl rfl (any_of HT_.out (by kernel_rfl)) (fun _ _ _ h=>h) (Or.inr ⟨by rfl,rfl⟩) ?_ ?_
           rotate_left
           ·exact sa
           refine pure_ (i:=6) (N:=some 43) (v:=undef) (a':=?_) #[true,true,true,true,true,true,true,false,false,false,false,false,false,false,false] rfl rfl (any_of HT_.out (by kernel_rfl)) (fun _ _ _ h=>h) (Or.inr ⟨by rfl,rfl⟩) ?_ ?_
           rotate_left
           ·exact sa
           refine pure_ (i:=7) (N:=some 44) (v:=undef) (a':=?_) #[true,true,true,true,true,true,true,true,false,false,false,false,false,false,false] rfl rfl (any_of HT_.out (by kernel_rfl)) (fun _ _ _ h=>h) (Or.inr ⟨by rfl,rfl⟩) ?_ ?_
           rotate_left
           ·exact sa
           refine pure_ (i:=8) (N:=some 45) (v:=undef) (a':=?_) #[true,true,true,true,true,true,true,true,true,false,false,false,false,false,false] rfl rfl (any_of HT_.out (by kernel_rfl)) (fun _ _ _ h=>h) (Or.inr ⟨by rfl,rfl⟩) ?_ ?_
           rotate_left
           ·exact sa
           refine pure_ (i:=9) (N:=some 46) (v:=undef) (a':=?_) #[true,true,true,true,true,true,true,true,true,true,false,false,false,false,false] rfl rfl (any_of HT_.out (by kernel_rfl)) (fun _ _ _ h=>h) (Or.inr ⟨by rfl,rfl⟩) ?_ ?_
           rotate_left
           ·exact sa
           refine pure_ (i:=10) (N:=some 47) (v:=undef) (a':=?_) #[true,true,true,true,true,true,true,true,true,true,true,false,false,false,false] rfl rfl (any_of HT_.out (by kernel_rfl)) (fun _ _ _ h=>h) (Or.inr ⟨by rfl,rfl⟩) ?_ ?_
           rotate_left
           ·exact sa
           refine pure_ (i:=11) (N:=some 48) (v:=undef) (a':=?_) #[true,true,true,true,true,true,true,true,true,true,true,true,false,false,false] rfl rfl (any_of HT_.out (by kernel_rfl)) (fun _ _ _ h=>h) (Or.inr ⟨by rfl,rfl⟩) ?_ ?_
           rotate_left
           ·exact sa
           refine pure_ (i:=12) (N:=some 49) (v:=undef) (a':=?_) #[true,true,true,true,true,true,true,true,true,true,true,true,true,false,false] rfl rfl (any_of HT_.out (by kernel_rfl)) (fun _ _ _ h=>h) (Or.inr ⟨by rfl,rfl⟩) ?_ ?_
           rotate_left
           ·exact sa
           refine pure_ (i:=13) (N:=some 50) (v:=undef) (a':=?_) #[true,true,true,true,true,true,true,true,true,true,true,true,true,true,false] rfl rfl (any_of HT_.out (by kernel_rfl)) (fun _ _ _ h=>h) (Or.inr ⟨by rfl,rfl⟩) ?_ ?_
           rotate_left
           ·exact sa
           refine pq (i:=14) (N:=some 51) #[true,true,true,true,true,true,true,true,true,true,true,true,true,true,true] ?_
           refine done_ (done_of HT_.out (by kernel_rfl)) ?_
           try go_wp2
           go_meet
           case rel=>exact ⟨_,(false),(sq),H',⟨by have:=HK1.out;first | omega | exact Nat.le_refl _⟩,⟨rq HO_7.out⟩,⟨kq BK493.out⟩,⟨kq BK494.out⟩,⟨kq BK500.out⟩,⟨Y18⟩⟩
         case rest =>
          clear HC18
          try clear c1
          try clear c2
          try clear p2
          try clear c3
          try clear p4
          try clear q4
          try clear hx4
          try clear p5
          try clear q5
          try clear hx5
          try clear c6
          try clear p6
          try clear c7
          try clear c11
          try clear c11b0
          try clear c12
          try clear c12b0
          try clear c13
          try clear c13b0
          try clear c14
          try clear c14b0
          try clear c15
          try clear c15b0
          try clear c17
          try clear c17b0
          try clear c17b1
          try clear c17b2
          try clear c26
          try clear c27
          try clear c29
          try clear c32
          try clear c32b0
          try clear c34
          try clear c34b0
          try clear c35
          try clear c35b0
          try clear c36
          try clear c36b0
          try clear c37
          try clear c37b0
          try clear hcz28_0
          try clear hcz30_0
          try clear hcz30_1
          try clear hcz30_2
          try clear hcz30_3
          try clear hcz30_4
          try clear hcz8_0
          try clear hfz28_0
          try clear hfz30_0
          try clear hfz30_1
          try clear hfz30_2
          try clear hfz30_3
          try clear hfz30_4
          try clear hfz8_0
          try clear hx498_0
          try clear hx499_0
          try clear hx499_1
          try clear hx499_2
          try clear hx499_3
          try clear hx499_4
          try clear hx502_0
          try clear hx503_0
          try clear hx503_1
          try clear hx503_2
          try clear hx503_3
          try clear hx503_4
          try clear p2
          try clear p498
          try clear p499
          try clear p502
          try clear p503
          try clear p6
          try clear q498
          try clear q499
          try clear q502
          try clear q503
          obtain ⟨kq,x51_17,rfl,HA,HJ17,HO_7,BK493,BK494,BK500,HB⟩:=hcut
          cases kq with
          | zero=>exact absurd HA.out (by simp [jl.j1])
          | succ kj17 =>
           have H:=HA.out
           clear HA
           simp only [jl.j1] at H
           by_cases c40:x51_17=true
           ·subst c40
            have H1:(if (x8_1 ++ t501).size+3≤9223372036854775807 then (jl.l0 kj17 t495 ((x8_1 ++ t501) ++ (⟨#[32,62,32]⟩:ByteArray)) (wrap64 (x9_1 - 1)) l0_0 l1_0) else (none))=some r:=by rw [if_pos rfl] at H;exact H
            clear H
            have H:=H1
            clear H1
            by_cases c41:(x8_1 ++ t501).size+3≤9223372036854775807
            ·rw [if_pos c41] at H
             have c41b0:=ezT c41
             have c41b1:decide ((x8_1 ++ t501).size+3≤9223372036854775807)=true:=dzT c41
             try have c41b2:(9223372036854775807<(x8_1 ++ t501).size+3)=False:=eq_false (Nat.not_lt.2 c41)
             try have c41s:(9223372036854775807<x8_1.size+t501.size+3)=False:=eq_false (Nat.not_lt.2 (by have h_:=c41;simp only [ByteArray.size_append] at h_;exact h_))
             have H':=am H
             clear H
             go_wp2
             go_roundg kj17
             case measure=>have:=HK1.out;have:=HJ17.out;omega
             case rel=>exact ⟨((x8_1 ++ t501) ++ (⟨#[32,62,32]⟩:ByteArray)),(wrap64 (x9_1 - 1)),(sq),(sq),H',⟨by have:=HK1.out;have:=HJ17.out;omega⟩,⟨rq HO_7.out⟩,⟨kq BK493.out⟩,⟨kq BK494.out⟩,⟨Y18⟩⟩
            ·rw [if_neg c41] at H
             exact absurd H (by simp)
           ·replace c40:=Bool.eq_false_iff.mpr c40
            subst c40
            have H1:(if x9_1 > 0 then (if (x8_1 ++ t501).size+3≤9223372036854775807 then (jl.l0 kj17 t495 ((x8_1 ++ t501) ++ (⟨#[32,126,32]⟩:ByteArray)) (wrap64 (x9_1 - 1)) l0_0 l1_0) else (none)) else (jl.l0 kj17 t495 (x8_1 ++ t501) (wrap64 (x9_1 - 1)) l0_0 l1_0))=some r:=by rw [if_neg (show ¬ (false=true) by decide)] at H;exact H
            clear H
            have H:=H1
            clear H1
            by_cases c42:x9_1 > 0
            ·rw [if_pos c42] at H
             have c42b0:decide (0<x9_1)=true:=dzT c42
             clear c42
             by_cases c43:(x8_1 ++ t501).size+3≤9223372036854775807
             ·rw [if_pos c43] at H
              have c43b0:=ezT c43
              have c43b1:decide ((x8_1 ++ t501).size+3≤9223372036854775807)=true:=dzT c43
              try have c43b2:(9223372036854775807<(x8_1 ++ t501).size+3)=False:=eq_false (Nat.not_lt.2 c43)
              try have c43s:(9223372036854775807<x8_1.size+t501.size+3)=False:=eq_false (Nat.not_lt.2 (by have h_:=c43;simp only [ByteArray.size_append] at h_;exact h_))
              have H':=am H
              clear H
              go_wp2
              go_roundg kj17
              case measure=>have:=HK1.out;have:=HJ17.out;omega
              case rel=>exact ⟨((x8_1 ++ t501) ++ (⟨#[32,126,32]⟩:ByteArray)),(wrap64 (x9_1 - 1)),(sq),(sq),H',⟨by have:=HK1.out;have:=HJ17.out;omega⟩,⟨rq HO_7.out⟩,⟨kq BK493.out⟩,⟨kq BK494.out⟩,⟨Y18⟩⟩
             ·rw [if_neg c43] at H
              exact absurd H (by simp)
            ·rw [if_neg c42] at H
             have c42b0:decide (0<x9_1)=false:=dzF c42
             clear c42
             have H':=am H
             clear H
             go_wp2
             go_roundg kj17
             case measure=>have:=HK1.out;have:=HJ17.out;omega
             case rel=>exact ⟨((x8_1 ++ t501)),(wrap64 (x9_1 - 1)),(sq),(sq),H',⟨by have:=HK1.out;have:=HJ17.out;omega⟩,⟨rq HO_7.out⟩,⟨kq BK493.out⟩,⟨kq BK494.out⟩,⟨Y18⟩⟩
        ·rw [if_neg c17] at H
         exact absurd H (by simp)
       ·rw [if_neg c15] at H
        exact absurd H (by simp)
      ·rw [if_neg c14] at H
       exact absurd H (by simp)
     ·rw [if_neg c13] at H
      exact absurd H (by simp)
    ·rw [if_neg c12] at H
     exact absurd H (by simp)
   ·rw [if_neg c11] at H
    have c11b0:decide (0≤x9_1)=false:=dzF c11
    clear c11
    obtain rfl:=Option.some.inj H
    go_wp2
    go_ret
    exact ⟨Y1,Y34⟩
end Go.Proofs.YteibechlncphnaaDoor.P
end
