/- One part of the proofs on this program: functions of the program as plain functions, that the code comes to them, and facts on them. -/
import Derived.Test.YtecdfgejmbpclaaYAll1
import Derived.Test.YtecdfgejmbpclaaYAll6
import Derived.Test.YtecdfgejmbpclaaYWAuto
section
namespace Go.Proofs.Ytecdfgejmbpclaa.P
open Go.RowKit Go.Proofs.YtecdfgejmbpclaaW.PrintWords Go.Proofs.YtecdfgejmbpclaaW.PrintLast Go.Proofs.YtecdfgejmbpclaaW.PrintMore
attribute [local go_sem] jxa jva jGa jFa jna jma jwa jua jD
set_option linter.unusedVariables false
set_option linter.unusedSimpArgs false
mutual
def jE.l0 : Nat → Int → List (S94) → List (S54) → Option (Bool)
 | 0,_,_,_=>none
 | k+1,x5,x121000,x122000=>if x5<(x122000.length:Int) then (if 0≤x5 then ((jMa.f x121000 ((jb x122000 x5).f0)).bind fun t124=>(if t124=true then ((jQ.f ((jb x122000 x5).f1) 0 99).bind fun t125=>(if t125=true then ((jIa.f x122000 x5).bind fun t126=>(jE.j1 k x5 (!t126) x121000 x122000)) else (jE.j1 k x5 true x121000 x122000))) else (jE.j1 k x5 true x121000 x122000))) else (none)) else (jE.l1 k 0 x121000 x122000)
def jE.j1 : Nat → Int → Bool → List (S94) → List (S54) → Option (Bool)
 | 0,_,_,_,_=>none
 | k+1,x5,x37,x121000,x122000=>if x37=true then (some false) else (jE.l0 k (wrap64 (x5+1)) x121000 x122000)
def jE.l1 : Nat → Int → List (S94) → List (S54) → Option (Bool)
 | 0,_,_,_=>none
 | k+1,x7,x121000,x122000=>if x7<(x122000.length:Int) then ((jea.f k x122000 x7).bind fun t128=>(if 0≤(wrap64 ((t128.length:Int) - 1)) then (if (wrap64 ((t128.length:Int) - 1))<(t128.length:Int) then (if 0≤(rd t128 (wrap64 ((t128.length:Int) - 1))) then (if (rd t128 (wrap64 ((t128.length:Int) - 1)))<(x122000.length:Int) then (if ((jb x122000 (rd t128 (wrap64 ((t128.length:Int) - 1)))).f3)≥0 then (some false) else (jE.l1 k (wrap64 (x7+1)) x121000 x122000)) else (none)) else (none)) else (none)) else (none))) else ((jJ.f k x121000).bind fun t127=>(if t127=true then (some (decide ((x122000.length:Int)≤24))) else (some false)))
end
def jE.f (k : Nat) (l0_0 : List (S94)) (l1_0 : List (S54)) : Option (Bool) := jE.l0 k 0 l0_0 l1_0
set_option maxHeartbeats 8000000 in
set_option maxRecDepth 100000 in
theorem jE.calls (k : Nat) (A0_0 : Option Addr) (c0_0 : Nat) (l0_0 : List (S94)) (A1_0 : Option Addr) (c1_0 : Nat) (l1_0 : List (S54)) (r : Bool) (w : World) (hr0_0 : Kd.C k94 w A0_0 l0_0.length l0_0) (hc0_0 : l0_0.length ≤ c0_0) (hr1_0 : Kd.C k54 w A1_0 l1_0.length l1_0) (hc1_0 : l1_0.length ≤ c1_0) (h : jE.f k l0_0 l1_0 = some r) :
  Calls Try.prog 66 #[.agg #[.slice A0_0 l0_0.length c0_0], .agg #[.slice A1_0 l1_0.length c1_0]] w fun e w'=>e=.returned (.bool r)∧Below w.heap.size w w':=by
 have hu37:=Try.underlying37
 have hu32:=Try.underlying32
 have hu54:=Try.underlying54
 have HR0_0:=am hr0_0
 have HC0_0:=am hc0_0
 clear hr0_0 hc0_0
 have HR1_0:=am hr1_0
 have HC1_0:=am hc1_0
 clear hr1_0 hc1_0
 have HB:=am (Below.refl w.heap.size w)
 have H:(jE.l0 k 0 l0_0 l1_0)=some r:=h
 clear h
 have H':=am H
 clear H
 go_enter Try.func66,Try.ntmps66
 go_wp2_with (first |((with_reducible refine jG (N:=2) rfl ?_);(try (refine jLa (by rfl) ?_;dsimp only));refine jWa ?hg (N:=2) ?hd (cs:=#[.slice A0_0 l0_0.length c0_0]) (t:=37) ?hr ?_;(case hd=>rfl);(case hg=>rfl);(case hr=>exact Y3);intro gb120 hg w3 hbox hb;have BK120:=am (hbox);have GW120:=am ((Y0:w.heap.size≤gb120));have GE120:=am ((Y0:w.heap.size≤gb120));replace HB:=am (jf (bq) hb);clear hb hbox hg) |((with_reducible refine jG (N:=3) rfl ?_);(try (refine jLa (by rfl) ?_;dsimp only));refine jWa ?hg (N:=3) ?hd (cs:=#[.slice A1_0 l1_0.length c1_0]) (t:=32) ?hr ?_;(case hd=>rfl);(case hg=>rfl);(case hr=>exact Y3);intro gb121 hg w4 hbox hb;have BK121:=am (hbox);have GW121:=am ((Y77:w.heap.size≤gb121));have GE121:=am ((Y77:w.heap.size≤gb121));have NB120_121:=am ((Y78:gb120≠gb121));have NB121_120:=am ((Y79:gb121≠gb120));replace BK120:=am (jc (g:=gb120) (o:=.cells #[.slice A0_0 l0_0.length c0_0] 37 (0,0)) (kq BK120.out) hb);replace HB:=am (jf (Y126) hb);clear hb hbox hg))
 repeat (go_quiet (first |((with_reducible refine jG (N:=2) rfl ?_);(try (refine jLa (by rfl) ?_;dsimp only));refine jWa ?hg (N:=2) ?hd (cs:=#[.slice A0_0 l0_0.length c0_0]) (t:=37) ?hr ?_;(case hd=>rfl);(case hg=>rfl);(case hr=>exact Y3);intro gb120 hg w3 hbox hb;have BK120:=am (hbox);have GW120:=am ((Y0:w.heap.size≤gb120));have GE120:=am ((Y0:w.heap.size≤gb120));replace HB:=am (jf (bq) hb);clear hb hbox hg) |((with_reducible refine jG (N:=3) rfl ?_);(try (refine jLa (by rfl) ?_;dsimp only));refine jWa ?hg (N:=3) ?hd (cs:=#[.slice A1_0 l1_0.length c1_0]) (t:=32) ?hr ?_;(case hd=>rfl);(case hg=>rfl);(case hr=>exact Y3);intro gb121 hg w4 hbox hb;have BK121:=am (hbox);have GW121:=am ((Y77:w.heap.size≤gb121));have GE121:=am ((Y77:w.heap.size≤gb121));have NB120_121:=am ((Y78:gb120≠gb121));have NB121_120:=am ((Y79:gb121≠gb120));replace BK120:=am (jc (g:=gb120) (o:=.cells #[.slice A0_0 l0_0.length c0_0] 37 (0,0)) (kq BK120.out) hb);replace HB:=am (jf (Y126) hb);clear hb hbox hg));try go_wp2_with (first |((with_reducible refine jG (N:=2) rfl ?_);(try (refine jLa (by rfl) ?_;dsimp only));refine jWa ?hg (N:=2) ?hd (cs:=#[.slice A0_0 l0_0.length c0_0]) (t:=37) ?hr ?_;(case hd=>rfl);(case hg=>rfl);(case hr=>exact Y3);intro gb120 hg w3 hbox hb;have BK120:=am (hbox);have GW120:=am ((Y0:w.heap.size≤gb120));have GE120:=am ((Y0:w.heap.size≤gb120));replace HB:=am (jf (bq) hb);clear hb hbox hg) |((with_reducible refine jG (N:=3) rfl ?_);(try (refine jLa (by rfl) ?_;dsimp only));refine jWa ?hg (N:=3) ?hd (cs:=#[.slice A1_0 l1_0.length c1_0]) (t:=32) ?hr ?_;(case hd=>rfl);(case hg=>rfl);(case hr=>exact Y3);intro gb121 hg w4 hbox hb;have BK121:=am (hbox);have GW121:=am ((Y77:w.heap.size≤gb121));have GE121:=am ((Y77:w.heap.size≤gb121));have NB120_121:=am ((Y78:gb120≠gb121));have NB121_120:=am ((Y79:gb121≠gb120));replace BK120:=am (jc (g:=gb120) (o:=.cells #[.slice A0_0 l0_0.length c0_0] 37 (0,0)) (kq BK120.out) hb);replace HB:=am (jf (Y126) hb);clear hb hbox hg)))
 go_loopg [5] k (fun kq v5 w'=>∃ (x5_1:Int),v5=.int .i64 x5_1∧jB (jE.l0 kq x5_1 l0_0 l1_0=some r)∧jB (kq≤k)∧jB (w'.heap[gb120]?=some (.cells #[(.slice A0_0 l0_0.length c0_0)] 37 (0,0)))∧jB (w'.heap[gb121]?=some (.cells #[(.slice A1_0 l1_0.length c1_0)] 32 (0,0)))∧jB (Below w.heap.size w w'))
 case atStart=>exact ⟨(0),(sq),H',⟨Nat.le_refl _⟩,⟨kq BK120.out⟩,⟨kq BK121.out⟩,⟨Y12⟩⟩
 case round =>
  clear H'
  try clear c1
  try clear p2
  obtain ⟨x5_1,rfl,HA,HK1,BK120,BK121,HB⟩:=hrel
  cases gk with
  | zero=>exact absurd HA.out (by simp [jE.l0])
  | succ k1 =>
   have H:=HA.out
   clear HA
   simp only [jE.l0] at H
   by_cases c5:x5_1<(l1_0.length:Int)
   ·rw [if_pos c5] at H
    have c5b0:decide (x5_1<(l1_0.length:Int))=true:=dzT c5
    clear c5
    by_cases c6:0≤x5_1
    ·rw [if_pos c6] at H
     have c6b0:decide (0≤x5_1)=true:=dzT c6
     clear c6
     have HC7:=am H
     clear H
     have hnb8:=NB121_120.out
     have hnc8:=NB120_121.out
     have hcz9_0:=bc0 BK121.out
     have hfz9_0:=je BK121.out 0
     have p122:0≤(x5_1:Int):=ozD (uq)
     have q122:x5_1<(l1_0.length:Int):=ozD (uq)
     obtain ⟨ad122,e122,hx122_0,hx122_1,hx122_2,hx122_3,hx122_4⟩:=jpb HR1_0.out x5_1 p122 q122
     cases e122
     replace hx122_0:=cb HB.out hx122_0
     replace hx122_1:=cb HB.out hx122_1
     replace hx122_2:=cb HB.out hx122_2
     replace hx122_3:=cb HB.out hx122_3
     replace hx122_4:=cb HB.out hx122_4
     replace p122:=ezT p122
     replace q122:=ezT q122
     go_upto_region 5 with (first |((with_reducible refine jG (N:=6) rfl ?_);(try (refine jLa (by rfl) ?_;dsimp only));refine jWa ?hg (N:=6) ?hd (cs:=#[.int .i64 0, .int .i64 0, .int .i64 0, .int .i64 0, .bool false]) (t:=54) ?hr ?_;(case hd=>rfl);(case hg=>rfl);(case hr=>exact Y3);intro gb123 hg w10 hbox hb;have BK123:=am (hbox);have GW123:=am ((Y80:w.heap.size≤gb123));have GE123:=am ((Y80:w.heap.size≤gb123));have NB120_123:=am ((Y78:gb120≠gb123));have NB123_120:=am ((Y79:gb123≠gb120));have NB121_123:=am ((Y127:gb121≠gb123));have NB123_121:=am ((Y128:gb123≠gb121));replace BK120:=am (jc (g:=gb120) (o:=.cells #[.slice A0_0 l0_0.length c0_0] 37 (0,0)) (kq BK120.out) hb);replace BK121:=am (jc (g:=gb121) (o:=.cells #[.slice (some ad122) l1_0.length c1_0] 32 (0,0)) (kq BK121.out) hb);replace HB:=am (jf (Y12) hb);clear hb hbox hg;have hnb11:=NB123_120.out;have hnc11:=NB120_123.out;have hnb12:=NB123_121.out;have hnc12:=NB121_123.out;have hcz13_0:=bc0 BK123.out;have hcz13_1:=bc1 BK123.out;have hcz13_2:=bc2 BK123.out;have hcz13_3:=bc3 BK123.out;have hcz13_4:w10.cell? ⟨gb123,4,none⟩=some (.bool false):=(jI BK123.out 4).trans rfl;have hfz13_0:=je BK123.out 0;have hfz13_1:=je BK123.out 1;have hfz13_2:=je BK123.out 2;have hfz13_3:=je BK123.out 3;have hfz13_4:=je BK123.out 4))
     repeat (go_quiet (first |((with_reducible refine jG (N:=6) rfl ?_);(try (refine jLa (by rfl) ?_;dsimp only));refine jWa ?hg (N:=6) ?hd (cs:=#[.int .i64 0, .int .i64 0, .int .i64 0, .int .i64 0, .bool false]) (t:=54) ?hr ?_;(case hd=>rfl);(case hg=>rfl);(case hr=>exact Y3);intro gb123 hg w10 hbox hb;have BK123:=am (hbox);have GW123:=am ((Y80:w.heap.size≤gb123));have GE123:=am ((Y80:w.heap.size≤gb123));have NB120_123:=am ((Y78:gb120≠gb123));have NB123_120:=am ((Y79:gb123≠gb120));have NB121_123:=am ((Y127:gb121≠gb123));have NB123_121:=am ((Y128:gb123≠gb121));replace BK120:=am (jc (g:=gb120) (o:=.cells #[.slice A0_0 l0_0.length c0_0] 37 (0,0)) (kq BK120.out) hb);replace BK121:=am (jc (g:=gb121) (o:=.cells #[.slice (some ad122) l1_0.length c1_0] 32 (0,0)) (kq BK121.out) hb);replace HB:=am (jf (Y12) hb);clear hb hbox hg;have hnb11:=NB123_120.out;have hnc11:=NB120_123.out;have hnb12:=NB123_121.out;have hnc12:=NB121_123.out;have hcz13_0:=bc0 BK123.out;have hcz13_1:=bc1 BK123.out;have hcz13_2:=bc2 BK123.out;have hcz13_3:=bc3 BK123.out;have hcz13_4:w10.cell? ⟨gb123,4,none⟩=some (.bool false):=(jI BK123.out 4).trans rfl;have hfz13_0:=je BK123.out 0;have hfz13_1:=je BK123.out 1;have hfz13_2:=je BK123.out 2;have hfz13_3:=je BK123.out 3;have hfz13_4:=je BK123.out 4));go_upto_region 5 with (first |((with_reducible refine jG (N:=6) rfl ?_);(try (refine jLa (by rfl) ?_;dsimp only));refine jWa ?hg (N:=6) ?hd (cs:=#[.int .i64 0, .int .i64 0, .int .i64 0, .int .i64 0, .bool false]) (t:=54) ?hr ?_;(case hd=>rfl);(case hg=>rfl);(case hr=>exact Y3);intro gb123 hg w10 hbox hb;have BK123:=am (hbox);have GW123:=am ((Y80:w.heap.size≤gb123));have GE123:=am ((Y80:w.heap.size≤gb123));have NB120_123:=am ((Y78:gb120≠gb123));have NB123_120:=am ((Y79:gb123≠gb120));have NB121_123:=am ((Y127:gb121≠gb123));have NB123_121:=am ((Y128:gb123≠gb121));replace BK120:=am (jc (g:=gb120) (o:=.cells #[.slice A0_0 l0_0.length c0_0] 37 (0,0)) (kq BK120.out) hb);replace BK121:=am (jc (g:=gb121) (o:=.cells #[.slice (some ad122) l1_0.length c1_0] 32 (0,0)) (kq BK121.out) hb);replace HB:=am (jf (Y12) hb);clear hb hbox hg;have hnb11:=NB123_120.out;have hnc11:=NB120_123.out;have hnb12:=NB123_121.out;have hnc12:=NB121_123.out;have hcz13_0:=bc0 BK123.out;have hcz13_1:=bc1 BK123.out;have hcz13_2:=bc2 BK123.out;have hcz13_3:=bc3 BK123.out;have hcz13_4:w10.cell? ⟨gb123,4,none⟩=some (.bool false):=(jI BK123.out 4).trans rfl;have hfz13_0:=je BK123.out 0;have hfz13_1:=je BK123.out 1;have hfz13_2:=je BK123.out 2;have hfz13_3:=je BK123.out 3;have hfz13_4:=je BK123.out 4)))
     (try simp only [Act.put,List.setIfInBounds_toArray,List.set_cons_zero,List.set_cons_succ])
     go_cut [37] (fun v37 wc=>∃ (kq:Nat) (x37_6:Bool),v37=.bool x37_6∧jB (jE.j1 kq x5_1 x37_6 l0_0 l1_0=some r)∧jB (kq≤k1)∧jB (wc.heap[gb120]?=some (.cells #[(.slice A0_0 l0_0.length c0_0)] 37 (0,0)))∧jB (wc.heap[gb121]?=some (.cells #[(.slice (some ad122) l1_0.length c1_0)] 32 (0,0)))∧jB (wc.heap[gb123]?=some (.cells #[.int .i64 ((jb l1_0 x5_1).f0), .int .i64 ((jb l1_0 x5_1).f1), .int .i64 ((jb l1_0 x5_1).f2), .int .i64 ((jb l1_0 x5_1).f3), .bool ((jb l1_0 x5_1).f4)] 54 (0,0)))∧jB (Below w.heap.size w wc))
     case first =>
      have H:=HC7.out
      clear HC7
      replace H:=bzS H
      obtain ⟨t124,A140,H⟩:=H
      replace H:(if t124=true then ((jQ.f ((jb l1_0 x5_1).f1) 0 99).bind fun t125=>(if t125=true then ((jIa.f l1_0 x5_1).bind fun t126=>(jE.j1 k1 x5_1 (!t126) l0_0 l1_0)) else (jE.j1 k1 x5_1 true l0_0 l1_0))) else (jE.j1 k1 x5_1 true l0_0 l1_0))=some r:=H
      have A14:=am A140
      clear A140
      by_cases c15:t124=true
      ·subst c15
       have H1:((jQ.f ((jb l1_0 x5_1).f1) 0 99).bind fun t125=>(if t125=true then ((jIa.f l1_0 x5_1).bind fun t126=>(jE.j1 k1 x5_1 (!t126) l0_0 l1_0)) else (jE.j1 k1 x5_1 true l0_0 l1_0)))=some r:=by rw [if_pos rfl] at H;exact H
       clear H
       have H:=H1
       clear H1
       replace H:=bzS H
       obtain ⟨t125,A160,H⟩:=H
       replace H:(if t125=true then ((jIa.f l1_0 x5_1).bind fun t126=>(jE.j1 k1 x5_1 (!t126) l0_0 l1_0)) else (jE.j1 k1 x5_1 true l0_0 l1_0))=some r:=H
       have A16:=am A160
       clear A160
       by_cases c17:t125=true
       ·subst c17
        have H1:((jIa.f l1_0 x5_1).bind fun t126=>(jE.j1 k1 x5_1 (!t126) l0_0 l1_0))=some r:=by rw [if_pos rfl] at H;exact H
        clear H
        have H:=H1
        clear H1
        replace H:=bzS H
        obtain ⟨t126,A180,H⟩:=H
        replace H:(jE.j1 k1 x5_1 (!t126) l0_0 l1_0)=some r:=H
        have A18:=am A180
        clear A180
        have H':=am H
        clear H
        have hnb19:=NB120_121.out
        have hnc19:=NB121_120.out
        have hnb20:=NB120_123.out
        have hnc20:=NB123_120.out
        have hcz21_0:=bc0 BK120.out
        have hfz21_0:=je BK120.out 0
        have hnb22:=NB123_121.out
        have hnc22:=NB121_123.out
        have hcz23_0:=bc0 BK123.out
        have hcz23_1:=bc1 BK123.out
        have hcz23_2:=bc2 BK123.out
        have hcz23_3:=bc3 BK123.out
        have hcz23_4:w10.cell? ⟨gb123,4,none⟩=some (.bool false):=(jI BK123.out 4).trans rfl
        have hfz23_0:=je BK123.out 0
        have hfz23_1:=je BK123.out 1
        have hfz23_2:=je BK123.out 2
        have hfz23_3:=je BK123.out 3
        have hfz23_4:=je BK123.out 4
        go_wp2_with (first |(go_at_call 97;(with_reducible refine (jMa.calls _ _ l0_0 ((jb l1_0 x5_1).f0) true _ ?side1 ?side2 A14.out).mono ?_);(case side1=>exact Kd.jca HR0_0.out (Y16));(case side2=>exact HC0_0.out);rintro e w24 ⟨rfl,hb⟩;replace BK120:=am (jc (g:=gb120) (o:=.cells #[.slice A0_0 l0_0.length c0_0] 37 (0,0)) (Y44) hb);replace BK121:=am (jc (g:=gb121) (o:=.cells #[.slice (some ad122) l1_0.length c1_0] 32 (0,0)) (Y45) hb);replace BK123:=am (jc (g:=gb123) (o:=.cells #[.int .i64 ((jb l1_0 x5_1).f0), .int .i64 ((jb l1_0 x5_1).f1), .int .i64 ((jb l1_0 x5_1).f2), .int .i64 ((jb l1_0 x5_1).f3), .bool ((jb l1_0 x5_1).f4)] 54 (0,0)) (Y46) hb);replace HB:=am (jf (Y16) hb);(try clear hb);(try clear hb2);(try clear hk);(try clear hi);have hcz25_0:=bc0 BK123.out;have hcz25_1:=bc1 BK123.out;have hcz25_2:=bc2 BK123.out;have hcz25_3:=bc3 BK123.out;have hcz25_4:w24.cell? ⟨gb123,4,none⟩=some (.bool ((jb l1_0 x5_1).f4)):=(jI BK123.out 4).trans rfl;have hfz25_0:=je BK123.out 0;have hfz25_1:=je BK123.out 1;have hfz25_2:=je BK123.out 2;have hfz25_3:=je BK123.out 3;have hfz25_4:=je BK123.out 4) |(go_at_call 98;(with_reducible refine (jQ.calls ((jb l1_0 x5_1).f1) 0 99 true _ A16.out).mono ?_);rintro e w' ⟨rfl,⟨nd,rfl⟩⟩;(try first | exact ⟨rfl,_,World.drewN_drewN _ _ _⟩ | exact ⟨rfl,_,Eq.trans (World.drewN_drewN _ _ _) (congrArg (World.drewN _) (Nat.add_assoc _ _ _))⟩);have hcz26_0:=bc0 BK121.out;have hfz26_0:=je BK121.out 0) |(go_at_call 99;(with_reducible refine (jIa.calls _ _ l1_0 x5_1 t126 _ ?side1 ?side2 A18.out).mono ?_);(case side1=>exact Y129);(case side2=>exact HC1_0.out);rintro e w27 ⟨rfl,hb⟩;replace BK120:=am (jc (g:=gb120) (o:=.cells #[.slice A0_0 l0_0.length c0_0] 37 (0,0)) (kq BK120.out) hb);replace BK121:=am (jc (g:=gb121) (o:=.cells #[.slice (some ad122) l1_0.length c1_0] 32 (0,0)) (kq BK121.out) hb);replace BK123:=am (jc (g:=gb123) (o:=.cells #[.int .i64 ((jb l1_0 x5_1).f0), .int .i64 ((jb l1_0 x5_1).f1), .int .i64 ((jb l1_0 x5_1).f2), .int .i64 ((jb l1_0 x5_1).f3), .bool ((jb l1_0 x5_1).f4)] 54 (0,0)) (kq BK123.out) hb);replace HB:=am (jf (Y16) hb);(try clear hb);(try clear hb2);(try clear hk);(try clear hi)))
        repeat (go_quiet (first |(go_at_call 97;(with_reducible refine (jMa.calls _ _ l0_0 ((jb l1_0 x5_1).f0) true _ ?side1 ?side2 A14.out).mono ?_);(case side1=>exact Kd.jca HR0_0.out (Y16));(case side2=>exact HC0_0.out);rintro e w24 ⟨rfl,hb⟩;replace BK120:=am (jc (g:=gb120) (o:=.cells #[.slice A0_0 l0_0.length c0_0] 37 (0,0)) (Y44) hb);replace BK121:=am (jc (g:=gb121) (o:=.cells #[.slice (some ad122) l1_0.length c1_0] 32 (0,0)) (Y45) hb);replace BK123:=am (jc (g:=gb123) (o:=.cells #[.int .i64 ((jb l1_0 x5_1).f0), .int .i64 ((jb l1_0 x5_1).f1), .int .i64 ((jb l1_0 x5_1).f2), .int .i64 ((jb l1_0 x5_1).f3), .bool ((jb l1_0 x5_1).f4)] 54 (0,0)) (Y46) hb);replace HB:=am (jf (Y16) hb);(try clear hb);(try clear hb2);(try clear hk);(try clear hi);have hcz25_0:=bc0 BK123.out;have hcz25_1:=bc1 BK123.out;have hcz25_2:=bc2 BK123.out;have hcz25_3:=bc3 BK123.out;have hcz25_4:w24.cell? ⟨gb123,4,none⟩=some (.bool ((jb l1_0 x5_1).f4)):=(jI BK123.out 4).trans rfl;have hfz25_0:=je BK123.out 0;have hfz25_1:=je BK123.out 1;have hfz25_2:=je BK123.out 2;have hfz25_3:=je BK123.out 3;have hfz25_4:=je BK123.out 4) |(go_at_call 98;(with_reducible refine (jQ.calls ((jb l1_0 x5_1).f1) 0 99 true _ A16.out).mono ?_);rintro e w' ⟨rfl,⟨nd,rfl⟩⟩;(try first | exact ⟨rfl,_,World.drewN_drewN _ _ _⟩ | exact ⟨rfl,_,Eq.trans (World.drewN_drewN _ _ _) (congrArg (World.drewN _) (Nat.add_assoc _ _ _))⟩);have hcz26_0:=bc0 BK121.out;have hfz26_0:=je BK121.out 0) |(go_at_call 99;(with_reducible refine (jIa.calls _ _ l1_0 x5_1 t126 _ ?side1 ?side2 A18.out).mono ?_);(case side1=>exact Y129);(case side2=>exact HC1_0.out);rintro e w27 ⟨rfl,hb⟩;replace BK120:=am (jc (g:=gb120) (o:=.cells #[.slice A0_0 l0_0.length c0_0] 37 (0,0)) (kq BK120.out) hb);replace BK121:=am (jc (g:=gb121) (o:=.cells #[.slice (some ad122) l1_0.length c1_0] 32 (0,0)) (kq BK121.out) hb);replace BK123:=am (jc (g:=gb123) (o:=.cells #[.int .i64 ((jb l1_0 x5_1).f0), .int .i64 ((jb l1_0 x5_1).f1), .int .i64 ((jb l1_0 x5_1).f2), .int .i64 ((jb l1_0 x5_1).f3), .bool ((jb l1_0 x5_1).f4)] 54 (0,0)) (kq BK123.out) hb);replace HB:=am (jf (Y16) hb);(try clear hb);(try clear hb2);(try clear hk);(try clear hi)));try go_wp2_with (first |(go_at_call 97;(with_reducible refine (jMa.calls _ _ l0_0 ((jb l1_0 x5_1).f0) true _ ?side1 ?side2 A14.out).mono ?_);(case side1=>exact Kd.jca HR0_0.out (Y16));(case side2=>exact HC0_0.out);rintro e w24 ⟨rfl,hb⟩;replace BK120:=am (jc (g:=gb120) (o:=.cells #[.slice A0_0 l0_0.length c0_0] 37 (0,0)) (Y44) hb);replace BK121:=am (jc (g:=gb121) (o:=.cells #[.slice (some ad122) l1_0.length c1_0] 32 (0,0)) (Y45) hb);replace BK123:=am (jc (g:=gb123) (o:=.cells #[.int .i64 ((jb l1_0 x5_1).f0), .int .i64 ((jb l1_0 x5_1).f1), .int .i64 ((jb l1_0 x5_1).f2), .int .i64 ((jb l1_0 x5_1).f3), .bool ((jb l1_0 x5_1).f4)] 54 (0,0)) (Y46) hb);replace HB:=am (jf (Y16) hb);(try clear hb);(try clear hb2);(try clear hk);(try clear hi);have hcz25_0:=bc0 BK123.out;have hcz25_1:=bc1 BK123.out;have hcz25_2:=bc2 BK123.out;have hcz25_3:=bc3 BK123.out;have hcz25_4:w24.cell? ⟨gb123,4,none⟩=some (.bool ((jb l1_0 x5_1).f4)):=(jI BK123.out 4).trans rfl;have hfz25_0:=je BK123.out 0;have hfz25_1:=je BK123.out 1;have hfz25_2:=je BK123.out 2;have hfz25_3:=je BK123.out 3;have hfz25_4:=je BK123.out 4) |(go_at_call 98;(with_reducible refine (jQ.calls ((jb l1_0 x5_1).f1) 0 99 true _ A16.out).mono ?_);rintro e w' ⟨rfl,⟨nd,rfl⟩⟩;(try first | exact ⟨rfl,_,World.drewN_drewN _ _ _⟩ | exact ⟨rfl,_,Eq.trans (World.drewN_drewN _ _ _) (congrArg (World.drewN _) (Nat.add_assoc _ _ _))⟩);have hcz26_0:=bc0 BK121.out;have hfz26_0:=je BK121.out 0) |(go_at_call 99;(with_reducible refine (jIa.calls _ _ l1_0 x5_1 t126 _ ?side1 ?side2 A18.out).mono ?_);(case side1=>exact Y129);(case side2=>exact HC1_0.out);rintro e w27 ⟨rfl,hb⟩;replace BK120:=am (jc (g:=gb120) (o:=.cells #[.slice A0_0 l0_0.length c0_0] 37 (0,0)) (kq BK120.out) hb);replace BK121:=am (jc (g:=gb121) (o:=.cells #[.slice (some ad122) l1_0.length c1_0] 32 (0,0)) (kq BK121.out) hb);replace BK123:=am (jc (g:=gb123) (o:=.cells #[.int .i64 ((jb l1_0 x5_1).f0), .int .i64 ((jb l1_0 x5_1).f1), .int .i64 ((jb l1_0 x5_1).f2), .int .i64 ((jb l1_0 x5_1).f3), .bool ((jb l1_0 x5_1).f4)] 54 (0,0)) (kq BK123.out) hb);replace HB:=am (jf (Y16) hb);(try clear hb);(try clear hb2);(try clear hk);(try clear hi))))
        go_meet
        case rel=>exact ⟨_,(!t126),(sq),H',⟨by have:=HK1.out;first | omega | exact Nat.le_refl _⟩,⟨kq BK120.out⟩,⟨kq BK121.out⟩,⟨kq BK123.out⟩,⟨Y16⟩⟩
       ·replace c17:=Bool.eq_false_iff.mpr c17
        subst c17
        have H1:(jE.j1 k1 x5_1 true l0_0 l1_0)=some r:=by rw [if_neg (show ¬ (false=true) by decide)] at H;exact H
        clear H
        have H:=H1
        clear H1
        have H':=am H
        clear H
        have hnb28:=NB120_121.out
        have hnc28:=NB121_120.out
        have hnb29:=NB120_123.out
        have hnc29:=NB123_120.out
        have hcz30_0:=bc0 BK120.out
        have hfz30_0:=je BK120.out 0
        have hnb31:=NB123_121.out
        have hnc31:=NB121_123.out
        have hcz32_0:=bc0 BK123.out
        have hcz32_1:=bc1 BK123.out
        have hcz32_2:=bc2 BK123.out
        have hcz32_3:=bc3 BK123.out
        have hcz32_4:w10.cell? ⟨gb123,4,none⟩=some (.bool false):=(jI BK123.out 4).trans rfl
        have hfz32_0:=je BK123.out 0
        have hfz32_1:=je BK123.out 1
        have hfz32_2:=je BK123.out 2
        have hfz32_3:=je BK123.out 3
        have hfz32_4:=je BK123.out 4
        go_wp2_with (first |(go_at_call 97;(with_reducible refine (jMa.calls _ _ l0_0 ((jb l1_0 x5_1).f0) true _ ?side1 ?side2 A14.out).mono ?_);(case side1=>exact Kd.jca HR0_0.out (Y16));(case side2=>exact HC0_0.out);rintro e w33 ⟨rfl,hb⟩;replace BK120:=am (jc (g:=gb120) (o:=.cells #[.slice A0_0 l0_0.length c0_0] 37 (0,0)) (Y44) hb);replace BK121:=am (jc (g:=gb121) (o:=.cells #[.slice (some ad122) l1_0.length c1_0] 32 (0,0)) (Y45) hb);replace BK123:=am (jc (g:=gb123) (o:=.cells #[.int .i64 ((jb l1_0 x5_1).f0), .int .i64 ((jb l1_0 x5_1).f1), .int .i64 ((jb l1_0 x5_1).f2), .int .i64 ((jb l1_0 x5_1).f3), .bool ((jb l1_0 x5_1).f4)] 54 (0,0)) (Y46) hb);replace HB:=am (jf (Y16) hb);(try clear hb);(try clear hb2);(try clear hk);(try clear hi);have hcz34_0:=bc0 BK123.out;have hcz34_1:=bc1 BK123.out;have hcz34_2:=bc2 BK123.out;have hcz34_3:=bc3 BK123.out;have hcz34_4:w33.cell? ⟨gb123,4,none⟩=some (.bool ((jb l1_0 x5_1).f4)):=(jI BK123.out 4).trans rfl;have hfz34_0:=je BK123.out 0;have hfz34_1:=je BK123.out 1;have hfz34_2:=je BK123.out 2;have hfz34_3:=je BK123.out 3;have hfz34_4:=je BK123.out 4) |(go_at_call 98;(with_reducible refine (jQ.calls ((jb l1_0 x5_1).f1) 0 99 false _ A16.out).mono ?_);rintro e w' ⟨rfl,⟨nd,rfl⟩⟩;(try first | exact ⟨rfl,_,World.drewN_drewN _ _ _⟩ | exact ⟨rfl,_,Eq.trans (World.drewN_drewN _ _ _) (congrArg (World.drewN _) (Nat.add_assoc _ _ _))⟩)))
        repeat (go_quiet (first |(go_at_call 97;(with_reducible refine (jMa.calls _ _ l0_0 ((jb l1_0 x5_1).f0) true _ ?side1 ?side2 A14.out).mono ?_);(case side1=>exact Kd.jca HR0_0.out (Y16));(case side2=>exact HC0_0.out);rintro e w33 ⟨rfl,hb⟩;replace BK120:=am (jc (g:=gb120) (o:=.cells #[.slice A0_0 l0_0.length c0_0] 37 (0,0)) (Y44) hb);replace BK121:=am (jc (g:=gb121) (o:=.cells #[.slice (some ad122) l1_0.length c1_0] 32 (0,0)) (Y45) hb);replace BK123:=am (jc (g:=gb123) (o:=.cells #[.int .i64 ((jb l1_0 x5_1).f0), .int .i64 ((jb l1_0 x5_1).f1), .int .i64 ((jb l1_0 x5_1).f2), .int .i64 ((jb l1_0 x5_1).f3), .bool ((jb l1_0 x5_1).f4)] 54 (0,0)) (Y46) hb);replace HB:=am (jf (Y16) hb);(try clear hb);(try clear hb2);(try clear hk);(try clear hi);have hcz34_0:=bc0 BK123.out;have hcz34_1:=bc1 BK123.out;have hcz34_2:=bc2 BK123.out;have hcz34_3:=bc3 BK123.out;have hcz34_4:w33.cell? ⟨gb123,4,none⟩=some (.bool ((jb l1_0 x5_1).f4)):=(jI BK123.out 4).trans rfl;have hfz34_0:=je BK123.out 0;have hfz34_1:=je BK123.out 1;have hfz34_2:=je BK123.out 2;have hfz34_3:=je BK123.out 3;have hfz34_4:=je BK123.out 4) |(go_at_call 98;(with_reducible refine (jQ.calls ((jb l1_0 x5_1).f1) 0 99 false _ A16.out).mono ?_);rintro e w' ⟨rfl,⟨nd,rfl⟩⟩;(try first | exact ⟨rfl,_,World.drewN_drewN _ _ _⟩ | exact ⟨rfl,_,Eq.trans (World.drewN_drewN _ _ _) (congrArg (World.drewN _) (Nat.add_assoc _ _ _))⟩)));try go_wp2_with (first |(go_at_call 97;(with_reducible refine (jMa.calls _ _ l0_0 ((jb l1_0 x5_1).f0) true _ ?side1 ?side2 A14.out).mono ?_);(case side1=>exact Kd.jca HR0_0.out (Y16));(case side2=>exact HC0_0.out);rintro e w33 ⟨rfl,hb⟩;replace BK120:=am (jc (g:=gb120) (o:=.cells #[.slice A0_0 l0_0.length c0_0] 37 (0,0)) (Y44) hb);replace BK121:=am (jc (g:=gb121) (o:=.cells #[.slice (some ad122) l1_0.length c1_0] 32 (0,0)) (Y45) hb);replace BK123:=am (jc (g:=gb123) (o:=.cells #[.int .i64 ((jb l1_0 x5_1).f0), .int .i64 ((jb l1_0 x5_1).f1), .int .i64 ((jb l1_0 x5_1).f2), .int .i64 ((jb l1_0 x5_1).f3), .bool ((jb l1_0 x5_1).f4)] 54 (0,0)) (Y46) hb);replace HB:=am (jf (Y16) hb);(try clear hb);(try clear hb2);(try clear hk);(try clear hi);have hcz34_0:=bc0 BK123.out;have hcz34_1:=bc1 BK123.out;have hcz34_2:=bc2 BK123.out;have hcz34_3:=bc3 BK123.out;have hcz34_4:w33.cell? ⟨gb123,4,none⟩=some (.bool ((jb l1_0 x5_1).f4)):=(jI BK123.out 4).trans rfl;have hfz34_0:=je BK123.out 0;have hfz34_1:=je BK123.out 1;have hfz34_2:=je BK123.out 2;have hfz34_3:=je BK123.out 3;have hfz34_4:=je BK123.out 4) |(go_at_call 98;(with_reducible refine (jQ.calls ((jb l1_0 x5_1).f1) 0 99 false _ A16.out).mono ?_);rintro e w' ⟨rfl,⟨nd,rfl⟩⟩;(try first | exact ⟨rfl,_,World.drewN_drewN _ _ _⟩ | exact ⟨rfl,_,Eq.trans (World.drewN_drewN _ _ _) (congrArg (World.drewN _) (Nat.add_assoc _ _ _))⟩))))
        go_meet
        case rel=>exact ⟨_,(true),(sq),H',⟨by have:=HK1.out;first | omega | exact Nat.le_refl _⟩,⟨kq BK120.out⟩,⟨kq BK121.out⟩,⟨kq BK123.out⟩,⟨Y16⟩⟩
      ·replace c15:=Bool.eq_false_iff.mpr c15
       subst c15
       have H1:(jE.j1 k1 x5_1 true l0_0 l1_0)=some r:=by rw [if_neg (show ¬ (false=true) by decide)] at H;exact H
       clear H
       have H:=H1
       clear H1
       have H':=am H
       clear H
       have hnb35:=NB120_121.out
       have hnc35:=NB121_120.out
       have hnb36:=NB120_123.out
       have hnc36:=NB123_120.out
       have hcz37_0:=bc0 BK120.out
       have hfz37_0:=je BK120.out 0
       have hnb38:=NB123_121.out
       have hnc38:=NB121_123.out
       have hcz39_0:=bc0 BK123.out
       have hcz39_1:=bc1 BK123.out
       have hcz39_2:=bc2 BK123.out
       have hcz39_3:=bc3 BK123.out
       have hcz39_4:w10.cell? ⟨gb123,4,none⟩=some (.bool false):=(jI BK123.out 4).trans rfl
       have hfz39_0:=je BK123.out 0
       have hfz39_1:=je BK123.out 1
       have hfz39_2:=je BK123.out 2
       have hfz39_3:=je BK123.out 3
       have hfz39_4:=je BK123.out 4
       go_wp2_with (first |(go_at_call 97;(with_reducible refine (jMa.calls _ _ l0_0 ((jb l1_0 x5_1).f0) false _ ?side1 ?side2 A14.out).mono ?_);(case side1=>exact Kd.jca HR0_0.out (Y16));(case side2=>exact HC0_0.out);rintro e w40 ⟨rfl,hb⟩;replace BK120:=am (jc (g:=gb120) (o:=.cells #[.slice A0_0 l0_0.length c0_0] 37 (0,0)) (Y44) hb);replace BK121:=am (jc (g:=gb121) (o:=.cells #[.slice (some ad122) l1_0.length c1_0] 32 (0,0)) (Y45) hb);replace BK123:=am (jc (g:=gb123) (o:=.cells #[.int .i64 ((jb l1_0 x5_1).f0), .int .i64 ((jb l1_0 x5_1).f1), .int .i64 ((jb l1_0 x5_1).f2), .int .i64 ((jb l1_0 x5_1).f3), .bool ((jb l1_0 x5_1).f4)] 54 (0,0)) (Y46) hb);replace HB:=am (jf (Y16) hb);(try clear hb);(try clear hb2);(try clear hk);(try clear hi)))
       repeat (go_quiet (first |(go_at_call 97;(with_reducible refine (jMa.calls _ _ l0_0 ((jb l1_0 x5_1).f0) false _ ?side1 ?side2 A14.out).mono ?_);(case side1=>exact Kd.jca HR0_0.out (Y16));(case side2=>exact HC0_0.out);rintro e w40 ⟨rfl,hb⟩;replace BK120:=am (jc (g:=gb120) (o:=.cells #[.slice A0_0 l0_0.length c0_0] 37 (0,0)) (Y44) hb);replace BK121:=am (jc (g:=gb121) (o:=.cells #[.slice (some ad122) l1_0.length c1_0] 32 (0,0)) (Y45) hb);replace BK123:=am (jc (g:=gb123) (o:=.cells #[.int .i64 ((jb l1_0 x5_1).f0), .int .i64 ((jb l1_0 x5_1).f1), .int .i64 ((jb l1_0 x5_1).f2), .int .i64 ((jb l1_0 x5_1).f3), .bool ((jb l1_0 x5_1).f4)] 54 (0,0)) (Y46) hb);replace HB:=am (jf (Y16) hb);(try clear hb);(try clear hb2);(try clear hk);(try clear hi)));try go_wp2_with (first |(go_at_call 97;(with_reducible refine (jMa.calls _ _ l0_0 ((jb l1_0 x5_1).f0) false _ ?side1 ?side2 A14.out).mono ?_);(case side1=>exact Kd.jca HR0_0.out (Y16));(case side2=>exact HC0_0.out);rintro e w40 ⟨rfl,hb⟩;replace BK120:=am (jc (g:=gb120) (o:=.cells #[.slice A0_0 l0_0.length c0_0] 37 (0,0)) (Y44) hb);replace BK121:=am (jc (g:=gb121) (o:=.cells #[.slice (some ad122) l1_0.length c1_0] 32 (0,0)) (Y45) hb);replace BK123:=am (jc (g:=gb123) (o:=.cells #[.int .i64 ((jb l1_0 x5_1).f0), .int .i64 ((jb l1_0 x5_1).f1), .int .i64 ((jb l1_0 x5_1).f2), .int .i64 ((jb l1_0 x5_1).f3), .bool ((jb l1_0 x5_1).f4)] 54 (0,0)) (Y46) hb);replace HB:=am (jf (Y16) hb);(try clear hb);(try clear hb2);(try clear hk);(try clear hi))))
       go_meet
       case rel=>exact ⟨_,(true),(sq),H',⟨by have:=HK1.out;first | omega | exact Nat.le_refl _⟩,⟨kq BK120.out⟩,⟨kq BK121.out⟩,⟨kq BK123.out⟩,⟨Y16⟩⟩
     case rest =>
      clear HC7
      try clear c1
      try clear p1
      try clear q1
      try clear hx1
      try clear c2
      try clear p2
      try clear c3
      try clear c5
      try clear c5b0
      try clear c6
      try clear c6b0
      try clear c8
      try clear c11
      try clear c12
      try clear p12
      try clear q12
      try clear hx12
      try clear c15
      try clear c17
      try clear c19
      try clear c20
      try clear c22
      try clear c28
      try clear c29
      try clear c31
      try clear c35
      try clear c36
      try clear c38
      try clear hcz13_0
      try clear hcz13_1
      try clear hcz13_2
      try clear hcz13_3
      try clear hcz13_4
      try clear hcz21_0
      try clear hcz23_0
      try clear hcz23_1
      try clear hcz23_2
      try clear hcz23_3
      try clear hcz23_4
      try clear hcz25_0
      try clear hcz25_1
      try clear hcz25_2
      try clear hcz25_3
      try clear hcz25_4
      try clear hcz26_0
      try clear hcz30_0
      try clear hcz32_0
      try clear hcz32_1
      try clear hcz32_2
      try clear hcz32_3
      try clear hcz32_4
      try clear hcz34_0
      try clear hcz34_1
      try clear hcz34_2
      try clear hcz34_3
      try clear hcz34_4
      try clear hcz37_0
      try clear hcz39_0
      try clear hcz39_1
      try clear hcz39_2
      try clear hcz39_3
      try clear hcz39_4
      try clear hcz9_0
      try clear hfz13_0
      try clear hfz13_1
      try clear hfz13_2
      try clear hfz13_3
      try clear hfz13_4
      try clear hfz21_0
      try clear hfz23_0
      try clear hfz23_1
      try clear hfz23_2
      try clear hfz23_3
      try clear hfz23_4
      try clear hfz25_0
      try clear hfz25_1
      try clear hfz25_2
      try clear hfz25_3
      try clear hfz25_4
      try clear hfz26_0
      try clear hfz30_0
      try clear hfz32_0
      try clear hfz32_1
      try clear hfz32_2
      try clear hfz32_3
      try clear hfz32_4
      try clear hfz34_0
      try clear hfz34_1
      try clear hfz34_2
      try clear hfz34_3
      try clear hfz34_4
      try clear hfz37_0
      try clear hfz39_0
      try clear hfz39_1
      try clear hfz39_2
      try clear hfz39_3
      try clear hfz39_4
      try clear hfz9_0
      try clear hx122_0
      try clear hx122_1
      try clear hx122_2
      try clear hx122_3
      try clear hx122_4
      try clear p122
      try clear p2
      try clear q122
      obtain ⟨kq,x37_6,rfl,HA,HJ6,BK120,BK121,BK123,HB⟩:=hcut
      cases kq with
      | zero=>exact absurd HA.out (by simp [jE.j1])
      | succ kj6 =>
       have H:=HA.out
       clear HA
       simp only [jE.j1] at H
       by_cases c41:x37_6=true
       ·subst c41
        have H1:(some false)=some r:=by rw [if_pos rfl] at H;exact H
        clear H
        have H:=H1
        clear H1
        obtain rfl:=Option.some.inj H
        go_wp2
        repeat (go_quiet (fail);try go_wp2)
        go_ret
        exact ⟨Y2,Y16⟩
       ·replace c41:=Bool.eq_false_iff.mpr c41
        subst c41
        have H1:(jE.l0 kj6 (wrap64 (x5_1+1)) l0_0 l1_0)=some r:=by rw [if_neg (show ¬ (false=true) by decide)] at H;exact H
        clear H
        have H:=H1
        clear H1
        have H':=am H
        clear H
        go_wp2
        repeat (go_quiet (fail);try go_wp2)
        go_roundg kj6
        case measure=>have:=HK1.out;have:=HJ6.out;omega
        case rel=>exact ⟨(wrap64 (x5_1+1)),(sq),H',⟨by have:=HK1.out;have:=HJ6.out;omega⟩,⟨kq BK120.out⟩,⟨kq BK121.out⟩,⟨Y16⟩⟩
    ·rw [if_neg c6] at H
     exact absurd H (by simp)
   ·rw [if_neg c5] at H
    have c5b0:decide (x5_1<(l1_0.length:Int))=false:=dzF c5
    clear c5
    have H':=am H
    clear H
    have hnb42:=NB121_120.out
    have hnc42:=NB120_121.out
    have hcz43_0:=bc0 BK121.out
    have hfz43_0:=je BK121.out 0
    go_wp2
    repeat (go_quiet (fail);try go_wp2)
    go_loopg [7] k1 (fun kq v7 w'=>∃ (x7_2:Int),v7=.int .i64 x7_2∧jB (jE.l1 kq x7_2 l0_0 l1_0=some r)∧jB (kq≤k1)∧jB (w'.heap[gb120]?=some (.cells #[(.slice A0_0 l0_0.length c0_0)] 37 (0,0)))∧jB (w'.heap[gb121]?=some (.cells #[(.slice A1_0 l1_0.length c1_0)] 32 (0,0)))∧jB (Below w.heap.size w w'))
    case atStart=>exact ⟨(0),(sq),H',⟨Nat.le_refl _⟩,⟨kq BK120.out⟩,⟨kq BK121.out⟩,⟨Y12⟩⟩
    case round =>
     clear H'
     try clear c1
     try clear p1
     try clear q1
     try clear hx1
     try clear c2
     try clear p2
     try clear c3
     try clear c4
     try clear c5
     try clear c5b0
     try clear c6
     try clear c6b0
     try clear p6
     try clear c8
     try clear c11
     try clear c12
     try clear p12
     try clear q12
     try clear hx12
     try clear c15
     try clear c17
     try clear c19
     try clear c20
     try clear c22
     try clear c28
     try clear c29
     try clear c31
     try clear c35
     try clear c36
     try clear c38
     try clear c41
     try clear c42
     try clear hcz13_0
     try clear hcz13_1
     try clear hcz13_2
     try clear hcz13_3
     try clear hcz13_4
     try clear hcz21_0
     try clear hcz23_0
     try clear hcz23_1
     try clear hcz23_2
     try clear hcz23_3
     try clear hcz23_4
     try clear hcz25_0
     try clear hcz25_1
     try clear hcz25_2
     try clear hcz25_3
     try clear hcz25_4
     try clear hcz26_0
     try clear hcz30_0
     try clear hcz32_0
     try clear hcz32_1
     try clear hcz32_2
     try clear hcz32_3
     try clear hcz32_4
     try clear hcz34_0
     try clear hcz34_1
     try clear hcz34_2
     try clear hcz34_3
     try clear hcz34_4
     try clear hcz37_0
     try clear hcz39_0
     try clear hcz39_1
     try clear hcz39_2
     try clear hcz39_3
     try clear hcz39_4
     try clear hcz43_0
     try clear hcz9_0
     try clear hfz13_0
     try clear hfz13_1
     try clear hfz13_2
     try clear hfz13_3
     try clear hfz13_4
     try clear hfz21_0
     try clear hfz23_0
     try clear hfz23_1
     try clear hfz23_2
     try clear hfz23_3
     try clear hfz23_4
     try clear hfz25_0
     try clear hfz25_1
     try clear hfz25_2
     try clear hfz25_3
     try clear hfz25_4
     try clear hfz26_0
     try clear hfz30_0
     try clear hfz32_0
     try clear hfz32_1
     try clear hfz32_2
     try clear hfz32_3
     try clear hfz32_4
     try clear hfz34_0
     try clear hfz34_1
     try clear hfz34_2
     try clear hfz34_3
     try clear hfz34_4
     try clear hfz37_0
     try clear hfz39_0
     try clear hfz39_1
     try clear hfz39_2
     try clear hfz39_3
     try clear hfz39_4
     try clear hfz43_0
     try clear hfz9_0
     try clear hx122_0
     try clear hx122_1
     try clear hx122_2
     try clear hx122_3
     try clear hx122_4
     try clear p1
     try clear p12
     try clear p122
     try clear p2
     try clear q1
     try clear q12
     try clear q122
     obtain ⟨x7_2,rfl,HA,HK2,BK120,BK121,HB⟩:=hrel
     cases gk with
     | zero=>exact absurd HA.out (by simp [jE.l1])
     | succ k2 =>
      have H:=HA.out
      clear HA
      simp only [jE.l1] at H
      by_cases c44:x7_2<(l1_0.length:Int)
      ·rw [if_pos c44] at H
       have c44b0:decide (x7_2<(l1_0.length:Int))=true:=dzT c44
       clear c44
       replace H:=bzS H
       obtain ⟨t128,A450,H⟩:=H
       replace H:(if 0≤(wrap64 ((t128.length:Int) - 1)) then (if (wrap64 ((t128.length:Int) - 1))<(t128.length:Int) then (if 0≤(rd t128 (wrap64 ((t128.length:Int) - 1))) then (if (rd t128 (wrap64 ((t128.length:Int) - 1)))<(l1_0.length:Int) then (if ((jb l1_0 (rd t128 (wrap64 ((t128.length:Int) - 1)))).f3)≥0 then (some false) else (jE.l1 k2 (wrap64 (x7_2+1)) l0_0 l1_0)) else (none)) else (none)) else (none)) else (none))=some r:=H
       have A45:=am A450
       clear A450
       obtain ⟨ji46,hji46⟩:∃ j_:Int,(wrap64 ((t128.length:Int) - 1))=j_:=⟨_,rfl⟩
       replace H:(if 0≤(ji46) then (if (ji46)<(t128.length:Int) then (if 0≤(rd t128 (ji46)) then (if (rd t128 (ji46))<(l1_0.length:Int) then (if ((jb l1_0 (rd t128 (ji46))).f3)≥0 then (some false) else (jE.l1 k2 (wrap64 (x7_2+1)) l0_0 l1_0)) else (none)) else (none)) else (none)) else (none))=some r:=by first |(rw [hji46] at H;exact H) |(simp only [hji46] at H ⊢;exact H)
       (try rw [hji46] at A45)
       have hji46w:(IntKind.i64.wrap ((t128.length:Int) - 1))=ji46:=(jqb _).trans hji46
       by_cases c47:0≤(ji46)
       ·rw [if_pos c47] at H
        have c47b0:decide (0≤(ji46))=true:=dzT c47
        clear c47
        by_cases c48:(ji46)<(t128.length:Int)
        ·rw [if_pos c48] at H
         have c48b0:decide ((ji46)<(t128.length:Int))=true:=dzT c48
         clear c48
         by_cases c49:0≤(rd t128 (ji46))
         ·rw [if_pos c49] at H
          have c49b0:decide (0≤(rd t128 (ji46)))=true:=dzT c49
          clear c49
          by_cases c50:(rd t128 (ji46))<(l1_0.length:Int)
          ·rw [if_pos c50] at H
           have c50b0:decide ((rd t128 (ji46))<(l1_0.length:Int))=true:=dzT c50
           clear c50
           by_cases c51:((jb l1_0 (rd t128 (ji46))).f3)≥0
           ·rw [if_pos c51] at H
            have c51b0:decide (0≤((jb l1_0 (rd t128 (ji46))).f3))=true:=dzT c51
            clear c51
            obtain rfl:=Option.some.inj H
            have hnb52:=NB121_120.out
            have hnc52:=NB120_121.out
            have hcz53_0:=bc0 BK121.out
            have hfz53_0:=je BK121.out 0
            go_wp2_with (first |(go_at_call 58;(with_reducible refine (jea.calls k2 _ _ l1_0 x7_2 t128 _ ?side1 ?side2 A45.out).mono ?_);(case side1=>exact cq (Kd.jca HR1_0.out HB.out));(case side2=>exact HC1_0.out);rintro e w54 ⟨v129,rfl,ho0,hb⟩;have HO130:=am (Kd.jV ho0 (jK (Y12)));replace BK120:=am (jc (g:=gb120) (o:=.cells #[.slice A0_0 l0_0.length c0_0] 37 (0,0)) (kq BK120.out) hb);replace BK121:=am (jc (g:=gb121) (o:=.cells #[.slice A1_0 l1_0.length c1_0] 32 (0,0)) (kq BK121.out) hb);replace HB:=am (jf (Y12) hb);(try clear hb);(try clear hb2);(try clear hk);(try clear hi);(try clear ho0);have hcz55_0:=bc0 BK121.out;have hfz55_0:=je BK121.out 0;obtain ⟨Ao56,co56,eo56⟩:=Kd.jN HO130.out;subst eo56;have p131:0≤((ji46):Int):=ozD (uq);have q131:(ji46)<(t128.length:Int):=ozD (uq);obtain ⟨ad131,e131,hx131_0⟩:=Kd.jYa (Kd.jm HO130.out).2.2 (ji46) p131 q131;cases e131;replace p131:=ezT p131;replace q131:=ezT q131;have p132:0≤((rd t128 (ji46)):Int):=ozD (uq);have q132:(rd t128 (ji46))<(l1_0.length:Int):=ozD (uq);obtain ⟨ad132,e132,hx132_0,hx132_1,hx132_2,hx132_3,hx132_4⟩:=jpb HR1_0.out (rd t128 (ji46)) p132 q132;cases e132;replace hx132_0:=cb HB.out hx132_0;replace hx132_1:=cb HB.out hx132_1;replace hx132_2:=cb HB.out hx132_2;replace hx132_3:=cb HB.out hx132_3;replace hx132_4:=cb HB.out hx132_4;replace p132:=ezT p132;replace q132:=ezT q132))
            repeat (go_quiet (first |(go_at_call 58;(with_reducible refine (jea.calls k2 _ _ l1_0 x7_2 t128 _ ?side1 ?side2 A45.out).mono ?_);(case side1=>exact cq (Kd.jca HR1_0.out HB.out));(case side2=>exact HC1_0.out);rintro e w54 ⟨v129,rfl,ho0,hb⟩;have HO130:=am (Kd.jV ho0 (jK (Y12)));replace BK120:=am (jc (g:=gb120) (o:=.cells #[.slice A0_0 l0_0.length c0_0] 37 (0,0)) (kq BK120.out) hb);replace BK121:=am (jc (g:=gb121) (o:=.cells #[.slice A1_0 l1_0.length c1_0] 32 (0,0)) (kq BK121.out) hb);replace HB:=am (jf (Y12) hb);(try clear hb);(try clear hb2);(try clear hk);(try clear hi);(try clear ho0);have hcz55_0:=bc0 BK121.out;have hfz55_0:=je BK121.out 0;obtain ⟨Ao56,co56,eo56⟩:=Kd.jN HO130.out;subst eo56;have p131:0≤((ji46):Int):=ozD (uq);have q131:(ji46)<(t128.length:Int):=ozD (uq);obtain ⟨ad131,e131,hx131_0⟩:=Kd.jYa (Kd.jm HO130.out).2.2 (ji46) p131 q131;cases e131;replace p131:=ezT p131;replace q131:=ezT q131;have p132:0≤((rd t128 (ji46)):Int):=ozD (uq);have q132:(rd t128 (ji46))<(l1_0.length:Int):=ozD (uq);obtain ⟨ad132,e132,hx132_0,hx132_1,hx132_2,hx132_3,hx132_4⟩:=jpb HR1_0.out (rd t128 (ji46)) p132 q132;cases e132;replace hx132_0:=cb HB.out hx132_0;replace hx132_1:=cb HB.out hx132_1;replace hx132_2:=cb HB.out hx132_2;replace hx132_3:=cb HB.out hx132_3;replace hx132_4:=cb HB.out hx132_4;replace p132:=ezT p132;replace q132:=ezT q132));try go_wp2_with (first |(go_at_call 58;(with_reducible refine (jea.calls k2 _ _ l1_0 x7_2 t128 _ ?side1 ?side2 A45.out).mono ?_);(case side1=>exact cq (Kd.jca HR1_0.out HB.out));(case side2=>exact HC1_0.out);rintro e w54 ⟨v129,rfl,ho0,hb⟩;have HO130:=am (Kd.jV ho0 (jK (Y12)));replace BK120:=am (jc (g:=gb120) (o:=.cells #[.slice A0_0 l0_0.length c0_0] 37 (0,0)) (kq BK120.out) hb);replace BK121:=am (jc (g:=gb121) (o:=.cells #[.slice A1_0 l1_0.length c1_0] 32 (0,0)) (kq BK121.out) hb);replace HB:=am (jf (Y12) hb);(try clear hb);(try clear hb2);(try clear hk);(try clear hi);(try clear ho0);have hcz55_0:=bc0 BK121.out;have hfz55_0:=je BK121.out 0;obtain ⟨Ao56,co56,eo56⟩:=Kd.jN HO130.out;subst eo56;have p131:0≤((ji46):Int):=ozD (uq);have q131:(ji46)<(t128.length:Int):=ozD (uq);obtain ⟨ad131,e131,hx131_0⟩:=Kd.jYa (Kd.jm HO130.out).2.2 (ji46) p131 q131;cases e131;replace p131:=ezT p131;replace q131:=ezT q131;have p132:0≤((rd t128 (ji46)):Int):=ozD (uq);have q132:(rd t128 (ji46))<(l1_0.length:Int):=ozD (uq);obtain ⟨ad132,e132,hx132_0,hx132_1,hx132_2,hx132_3,hx132_4⟩:=jpb HR1_0.out (rd t128 (ji46)) p132 q132;cases e132;replace hx132_0:=cb HB.out hx132_0;replace hx132_1:=cb HB.out hx132_1;replace hx132_2:=cb HB.out hx132_2;replace hx132_3:=cb HB.out hx132_3;replace hx132_4:=cb HB.out hx132_4;replace p132:=ezT p132;replace q132:=ezT q132)))
            go_ret
            exact ⟨by first | rfl |(simp [jkb,jjb] <;> rfl) |(simp only [← hji46];first | rfl |(simp [jkb,jjb] <;> rfl)) |(simp [*,jkb,jjb] <;> rfl),Y12⟩
           ·rw [if_neg c51] at H
            have c51b0:decide (0≤((jb l1_0 (rd t128 (ji46))).f3))=false:=dzF c51
            clear c51
            have H':=am H
            clear H
            have hnb57:=NB121_120.out
            have hnc57:=NB120_121.out
            have hcz58_0:=bc0 BK121.out
            have hfz58_0:=je BK121.out 0
            go_wp2_with (first |(go_at_call 58;(with_reducible refine (jea.calls k2 _ _ l1_0 x7_2 t128 _ ?side1 ?side2 A45.out).mono ?_);(case side1=>exact cq (Kd.jca HR1_0.out HB.out));(case side2=>exact HC1_0.out);rintro e w59 ⟨v129,rfl,ho0,hb⟩;have HO130:=am (Kd.jV ho0 (jK (Y12)));replace BK120:=am (jc (g:=gb120) (o:=.cells #[.slice A0_0 l0_0.length c0_0] 37 (0,0)) (kq BK120.out) hb);replace BK121:=am (jc (g:=gb121) (o:=.cells #[.slice A1_0 l1_0.length c1_0] 32 (0,0)) (kq BK121.out) hb);replace HB:=am (jf (Y12) hb);(try clear hb);(try clear hb2);(try clear hk);(try clear hi);(try clear ho0);have hcz60_0:=bc0 BK121.out;have hfz60_0:=je BK121.out 0;obtain ⟨Ao61,co61,eo61⟩:=Kd.jN HO130.out;subst eo61;have p131:0≤((ji46):Int):=ozD (uq);have q131:(ji46)<(t128.length:Int):=ozD (uq);obtain ⟨ad131,e131,hx131_0⟩:=Kd.jYa (Kd.jm HO130.out).2.2 (ji46) p131 q131;cases e131;replace p131:=ezT p131;replace q131:=ezT q131;have p132:0≤((rd t128 (ji46)):Int):=ozD (uq);have q132:(rd t128 (ji46))<(l1_0.length:Int):=ozD (uq);obtain ⟨ad132,e132,hx132_0,hx132_1,hx132_2,hx132_3,hx132_4⟩:=jpb HR1_0.out (rd t128 (ji46)) p132 q132;cases e132;replace hx132_0:=cb HB.out hx132_0;replace hx132_1:=cb HB.out hx132_1;replace hx132_2:=cb HB.out hx132_2;replace hx132_3:=cb HB.out hx132_3;replace hx132_4:=cb HB.out hx132_4;replace p132:=ezT p132;replace q132:=ezT q132))
            repeat (go_quiet (first |(go_at_call 58;(with_reducible refine (jea.calls k2 _ _ l1_0 x7_2 t128 _ ?side1 ?side2 A45.out).mono ?_);(case side1=>exact cq (Kd.jca HR1_0.out HB.out));(case side2=>exact HC1_0.out);rintro e w59 ⟨v129,rfl,ho0,hb⟩;have HO130:=am (Kd.jV ho0 (jK (Y12)));replace BK120:=am (jc (g:=gb120) (o:=.cells #[.slice A0_0 l0_0.length c0_0] 37 (0,0)) (kq BK120.out) hb);replace BK121:=am (jc (g:=gb121) (o:=.cells #[.slice A1_0 l1_0.length c1_0] 32 (0,0)) (kq BK121.out) hb);replace HB:=am (jf (Y12) hb);(try clear hb);(try clear hb2);(try clear hk);(try clear hi);(try clear ho0);have hcz60_0:=bc0 BK121.out;have hfz60_0:=je BK121.out 0;obtain ⟨Ao61,co61,eo61⟩:=Kd.jN HO130.out;subst eo61;have p131:0≤((ji46):Int):=ozD (uq);have q131:(ji46)<(t128.length:Int):=ozD (uq);obtain ⟨ad131,e131,hx131_0⟩:=Kd.jYa (Kd.jm HO130.out).2.2 (ji46) p131 q131;cases e131;replace p131:=ezT p131;replace q131:=ezT q131;have p132:0≤((rd t128 (ji46)):Int):=ozD (uq);have q132:(rd t128 (ji46))<(l1_0.length:Int):=ozD (uq);obtain ⟨ad132,e132,hx132_0,hx132_1,hx132_2,hx132_3,hx132_4⟩:=jpb HR1_0.out (rd t128 (ji46)) p132 q132;cases e132;replace hx132_0:=cb HB.out hx132_0;replace hx132_1:=cb HB.out hx132_1;replace hx132_2:=cb HB.out hx132_2;replace hx132_3:=cb HB.out hx132_3;replace hx132_4:=cb HB.out hx132_4;replace p132:=ezT p132;replace q132:=ezT q132));try go_wp2_with (first |(go_at_call 58;(with_reducible refine (jea.calls k2 _ _ l1_0 x7_2 t128 _ ?side1 ?side2 A45.out).mono ?_);(case side1=>exact cq (Kd.jca HR1_0.out HB.out));(case side2=>exact HC1_0.out);rintro e w59 ⟨v129,rfl,ho0,hb⟩;have HO130:=am (Kd.jV ho0 (jK (Y12)));replace BK120:=am (jc (g:=gb120) (o:=.cells #[.slice A0_0 l0_0.length c0_0] 37 (0,0)) (kq BK120.out) hb);replace BK121:=am (jc (g:=gb121) (o:=.cells #[.slice A1_0 l1_0.length c1_0] 32 (0,0)) (kq BK121.out) hb);replace HB:=am (jf (Y12) hb);(try clear hb);(try clear hb2);(try clear hk);(try clear hi);(try clear ho0);have hcz60_0:=bc0 BK121.out;have hfz60_0:=je BK121.out 0;obtain ⟨Ao61,co61,eo61⟩:=Kd.jN HO130.out;subst eo61;have p131:0≤((ji46):Int):=ozD (uq);have q131:(ji46)<(t128.length:Int):=ozD (uq);obtain ⟨ad131,e131,hx131_0⟩:=Kd.jYa (Kd.jm HO130.out).2.2 (ji46) p131 q131;cases e131;replace p131:=ezT p131;replace q131:=ezT q131;have p132:0≤((rd t128 (ji46)):Int):=ozD (uq);have q132:(rd t128 (ji46))<(l1_0.length:Int):=ozD (uq);obtain ⟨ad132,e132,hx132_0,hx132_1,hx132_2,hx132_3,hx132_4⟩:=jpb HR1_0.out (rd t128 (ji46)) p132 q132;cases e132;replace hx132_0:=cb HB.out hx132_0;replace hx132_1:=cb HB.out hx132_1;replace hx132_2:=cb HB.out hx132_2;replace hx132_3:=cb HB.out hx132_3;replace hx132_4:=cb HB.out hx132_4;replace p132:=ezT p132;replace q132:=ezT q132)))
            go_roundg k2
            case measure=>have:=HK1.out;have:=HK2.out;omega
            case rel=>exact ⟨(wrap64 (x7_2+1)),(sq),H',⟨by have:=HK1.out;have:=HK2.out;omega⟩,⟨kq BK120.out⟩,⟨kq BK121.out⟩,⟨Y12⟩⟩
          ·rw [if_neg c50] at H
           exact absurd H (by simp)
         ·rw [if_neg c49] at H
          exact absurd H (by simp)
        ·rw [if_neg c48] at H
         exact absurd H (by simp)
       ·rw [if_neg c47] at H
        exact absurd H (by simp)
      ·rw [if_neg c44] at H
       have c44b0:decide (x7_2<(l1_0.length:Int))=false:=dzF c44
       clear c44
       replace H:=bzS H
       obtain ⟨t127,A620,H⟩:=H
       replace H:(if t127=true then (some (decide ((l1_0.length:Int)≤24))) else (some false))=some r:=H
       have A62:=am A620
       clear A620
       by_cases c63:t127=true
       ·subst c63
        have H1:(some (decide ((l1_0.length:Int)≤24)))=some r:=by rw [if_pos rfl] at H;exact H
        clear H
        have H:=H1
        clear H1
        obtain rfl:=Option.some.inj H
        have hnb64:=NB121_120.out
        have hnc64:=NB120_121.out
        have hcz65_0:=bc0 BK121.out
        have hfz65_0:=je BK121.out 0
        have hcz66_0:=bc0 BK120.out
        have hfz66_0:=je BK120.out 0
        go_wp2_with (first |(go_at_call 100;(with_reducible refine (jJ.calls k2 _ _ l0_0 true _ ?side1 ?side2 A62.out).mono ?_);(case side1=>exact cq (Kd.jca HR0_0.out HB.out));(case side2=>exact HC0_0.out);rintro e w67 ⟨rfl,hb⟩;replace BK120:=am (jc (g:=gb120) (o:=.cells #[.slice A0_0 l0_0.length c0_0] 37 (0,0)) (kq BK120.out) hb);replace BK121:=am (jc (g:=gb121) (o:=.cells #[.slice A1_0 l1_0.length c1_0] 32 (0,0)) (kq BK121.out) hb);replace HB:=am (jf (Y12) hb);(try clear hb);(try clear hb2);(try clear hk);(try clear hi);have hcz68_0:=bc0 BK121.out;have hfz68_0:=je BK121.out 0))
        repeat (go_quiet (first |(go_at_call 100;(with_reducible refine (jJ.calls k2 _ _ l0_0 true _ ?side1 ?side2 A62.out).mono ?_);(case side1=>exact cq (Kd.jca HR0_0.out HB.out));(case side2=>exact HC0_0.out);rintro e w67 ⟨rfl,hb⟩;replace BK120:=am (jc (g:=gb120) (o:=.cells #[.slice A0_0 l0_0.length c0_0] 37 (0,0)) (kq BK120.out) hb);replace BK121:=am (jc (g:=gb121) (o:=.cells #[.slice A1_0 l1_0.length c1_0] 32 (0,0)) (kq BK121.out) hb);replace HB:=am (jf (Y12) hb);(try clear hb);(try clear hb2);(try clear hk);(try clear hi);have hcz68_0:=bc0 BK121.out;have hfz68_0:=je BK121.out 0));try go_wp2_with (first |(go_at_call 100;(with_reducible refine (jJ.calls k2 _ _ l0_0 true _ ?side1 ?side2 A62.out).mono ?_);(case side1=>exact cq (Kd.jca HR0_0.out HB.out));(case side2=>exact HC0_0.out);rintro e w67 ⟨rfl,hb⟩;replace BK120:=am (jc (g:=gb120) (o:=.cells #[.slice A0_0 l0_0.length c0_0] 37 (0,0)) (kq BK120.out) hb);replace BK121:=am (jc (g:=gb121) (o:=.cells #[.slice A1_0 l1_0.length c1_0] 32 (0,0)) (kq BK121.out) hb);replace HB:=am (jf (Y12) hb);(try clear hb);(try clear hb2);(try clear hk);(try clear hi);have hcz68_0:=bc0 BK121.out;have hfz68_0:=je BK121.out 0)))
        go_ret
        exact ⟨Y2,Y12⟩
       ·replace c63:=Bool.eq_false_iff.mpr c63
        subst c63
        have H1:(some false)=some r:=by rw [if_neg (show ¬ (false=true) by decide)] at H;exact H
        clear H
        have H:=H1
        clear H1
        obtain rfl:=Option.some.inj H
        have hnb69:=NB121_120.out
        have hnc69:=NB120_121.out
        have hcz70_0:=bc0 BK121.out
        have hfz70_0:=je BK121.out 0
        have hcz71_0:=bc0 BK120.out
        have hfz71_0:=je BK120.out 0
        go_wp2_with (first |(go_at_call 100;(with_reducible refine (jJ.calls k2 _ _ l0_0 false _ ?side1 ?side2 A62.out).mono ?_);(case side1=>exact cq (Kd.jca HR0_0.out HB.out));(case side2=>exact HC0_0.out);rintro e w72 ⟨rfl,hb⟩;replace BK120:=am (jc (g:=gb120) (o:=.cells #[.slice A0_0 l0_0.length c0_0] 37 (0,0)) (kq BK120.out) hb);replace BK121:=am (jc (g:=gb121) (o:=.cells #[.slice A1_0 l1_0.length c1_0] 32 (0,0)) (kq BK121.out) hb);replace HB:=am (jf (Y12) hb);(try clear hb);(try clear hb2);(try clear hk);(try clear hi)))
        repeat (go_quiet (first |(go_at_call 100;(with_reducible refine (jJ.calls k2 _ _ l0_0 false _ ?side1 ?side2 A62.out).mono ?_);(case side1=>exact cq (Kd.jca HR0_0.out HB.out));(case side2=>exact HC0_0.out);rintro e w72 ⟨rfl,hb⟩;replace BK120:=am (jc (g:=gb120) (o:=.cells #[.slice A0_0 l0_0.length c0_0] 37 (0,0)) (kq BK120.out) hb);replace BK121:=am (jc (g:=gb121) (o:=.cells #[.slice A1_0 l1_0.length c1_0] 32 (0,0)) (kq BK121.out) hb);replace HB:=am (jf (Y12) hb);(try clear hb);(try clear hb2);(try clear hk);(try clear hi)));try go_wp2_with (first |(go_at_call 100;(with_reducible refine (jJ.calls k2 _ _ l0_0 false _ ?side1 ?side2 A62.out).mono ?_);(case side1=>exact cq (Kd.jca HR0_0.out HB.out));(case side2=>exact HC0_0.out);rintro e w72 ⟨rfl,hb⟩;replace BK120:=am (jc (g:=gb120) (o:=.cells #[.slice A0_0 l0_0.length c0_0] 37 (0,0)) (kq BK120.out) hb);replace BK121:=am (jc (g:=gb121) (o:=.cells #[.slice A1_0 l1_0.length c1_0] 32 (0,0)) (kq BK121.out) hb);replace HB:=am (jf (Y12) hb);(try clear hb);(try clear hb2);(try clear hk);(try clear hi))))
        go_ret
        exact ⟨Y2,Y12⟩
def jhb.f (l0_0 : List (S54)) (a1 : Int) : Option (Bool) := (jQ.f a1 0 (wrap64 ((l0_0.length : Int) - 1))).bind fun t134 => (some t134)
set_option maxHeartbeats 8000000 in
set_option maxRecDepth 100000 in
theorem jhb.calls (A0_0 : Option Addr) (c0_0 : Nat) (l0_0 : List (S54)) (a1 : Int) (r : Bool) (w : World) (hr0_0 : Kd.C k54 w A0_0 l0_0.length l0_0) (hc0_0 : l0_0.length ≤ c0_0) (h : jhb.f l0_0 a1 = some r) :
  Calls Try.prog 69 #[.agg #[.slice A0_0 l0_0.length c0_0], .int .i64 a1] w fun e w'=>e=.returned (.bool r)∧Below w.heap.size w w':=by
 have hu32:=Try.underlying32
 have HR0_0:=am hr0_0
 have HC0_0:=am hc0_0
 clear hr0_0 hc0_0
 have HB:=am (Below.refl w.heap.size w)
 have H:((jQ.f a1 0 (wrap64 ((l0_0.length:Int) - 1))).bind fun t134=>(some t134))=some r:=h
 clear h
 replace H:=bzS H
 obtain ⟨t134,A30,H⟩:=H
 replace H:(some t134)=some r:=H
 have A3:=am A30
 clear A30
 obtain rfl:=Option.some.inj H
 go_enter Try.func69,Try.ntmps69
 go_wp2_with (first |((with_reducible refine jG (N:=2) rfl ?_);refine bE (N:=2) (cs:=#[.slice A0_0 l0_0.length c0_0]) (t:=32) ?_;intro gb133 hg w4 hbox hb;have BK133:=am (hbox);have GW133:=am ((Y0:w.heap.size≤gb133));have GE133:=am ((Y0:w.heap.size≤gb133));replace HB:=am (jf (bq) hb);clear hb hbox hg;have hcz5_0:=bc0 BK133.out;have hfz5_0:=je BK133.out 0) |((with_reducible refine jA (f:=98) rfl ?_);refine gL (some 10) Try.func98 #[.int .i64 a1, .int .i64 0, .int .i64 (wrap64 ((l0_0.length:Int) - 1))] ?_;(with_reducible refine (jQ.calls a1 0 (wrap64 ((l0_0.length:Int) - 1)) t134 _ A3.out).mono ?_);rintro e w' ⟨rfl,⟨nd,rfl⟩⟩;refine ⟨_,rfl,?_⟩))
 go_ret
 exact ⟨Y2,by repeat (first |(with_reducible first | exact HB.out | apply jC | apply jr | apply jy | refine jq ?_ GE133.out) | exact HB.out)⟩
def jbb.f (k : Nat) (l0_0 : List (S94)) (l1_0 : List (S54)) (a2 : Int) : Option (Bool) := (jE.f k l0_0 l1_0).bind fun t137 => (if t137 = true then ((jhb.f l1_0 a2).bind fun t138 => (some t138)) else (some false))
set_option maxHeartbeats 8000000 in
set_option maxRecDepth 100000 in
theorem jbb.calls (k : Nat) (A0_0 : Option Addr) (c0_0 : Nat) (l0_0 : List (S94)) (A1_0 : Option Addr) (c1_0 : Nat) (l1_0 : List (S54)) (a2 : Int) (r : Bool) (w : World) (hr0_0 : Kd.C k94 w A0_0 l0_0.length l0_0) (hc0_0 : l0_0.length ≤ c0_0) (hr1_0 : Kd.C k54 w A1_0 l1_0.length l1_0) (hc1_0 : l1_0.length ≤ c1_0) (h : jbb.f k l0_0 l1_0 a2 = some r) :
  Calls Try.prog 41 #[.agg #[.slice A0_0 l0_0.length c0_0], .agg #[.slice A1_0 l1_0.length c1_0], .int .i64 a2] w fun e w'=>e=.returned (.bool r)∧Below w.heap.size w w':=by
 have hu37:=Try.underlying37
 have hu32:=Try.underlying32
 have HR0_0:=am hr0_0
 have HC0_0:=am hc0_0
 clear hr0_0 hc0_0
 have HR1_0:=am hr1_0
 have HC1_0:=am hc1_0
 clear hr1_0 hc1_0
 have HB:=am (Below.refl w.heap.size w)
 have H:((jE.f k l0_0 l1_0).bind fun t137=>(if t137=true then ((jhb.f l1_0 a2).bind fun t138=>(some t138)) else (some false)))=some r:=h
 clear h
 replace H:=bzS H
 obtain ⟨t137,A40,H⟩:=H
 replace H:(if t137=true then ((jhb.f l1_0 a2).bind fun t138=>(some t138)) else (some false))=some r:=H
 have A4:=am A40
 clear A40
 by_cases c5:t137=true
 ·subst c5
  have H1:((jhb.f l1_0 a2).bind fun t138=>(some t138))=some r:=by rw [if_pos rfl] at H;exact H
  clear H
  have H:=H1
  clear H1
  replace H:=bzS H
  obtain ⟨t138,A60,H⟩:=H
  replace H:(some t138)=some r:=H
  have A6:=am A60
  clear A60
  obtain rfl:=Option.some.inj H
  go_enter Try.func41,Try.ntmps41
  go_wp2_with (first |((with_reducible refine jG (N:=3) rfl ?_);refine bE (N:=3) (cs:=#[.slice A0_0 l0_0.length c0_0]) (t:=37) ?_;intro gb135 hg w7 hbox hb;have BK135:=am (hbox);have GW135:=am ((Y0:w.heap.size≤gb135));have GE135:=am ((Y0:w.heap.size≤gb135));replace HB:=am (jf (bq) hb);clear hb hbox hg) |((with_reducible refine jG (N:=4) rfl ?_);refine bE (N:=4) (cs:=#[.slice A1_0 l1_0.length c1_0]) (t:=32) ?_;intro gb136 hg w8 hbox hb;have BK136:=am (hbox);have GW136:=am ((Y110:w.heap.size≤gb136));have GE136:=am ((Y110:w.heap.size≤gb136));have NB135_136:=am ((by rw [hg];exact Nat.ne_of_lt (jha (g:=gb135) (o:=.cells #[.slice A0_0 l0_0.length c0_0] 37 (0,0)) (kq BK135.out)):gb135≠gb136));have NB136_135:=am ((by rw [hg];exact Nat.ne_of_gt (jha (g:=gb135) (o:=.cells #[.slice A0_0 l0_0.length c0_0] 37 (0,0)) (kq BK135.out)):gb136≠gb135));replace BK135:=am (jc (g:=gb135) (o:=.cells #[.slice A0_0 l0_0.length c0_0] 37 (0,0)) (kq BK135.out) hb);replace HB:=am (jf (Y162) hb);clear hb hbox hg;have hnb9:=NB135_136.out;have hnc9:=NB136_135.out;have hcz10_0:=bc0 BK135.out;have hfz10_0:=je BK135.out 0;have hcz11_0:=bc0 BK136.out;have hfz11_0:=je BK136.out 0) |((with_reducible refine jA (f:=66) rfl ?_);refine gL (some 9) Try.func66 #[.agg #[.slice A0_0 l0_0.length c0_0], .agg #[.slice A1_0 l1_0.length c1_0]] ?_;(with_reducible refine (jE.calls k _ _ l0_0 _ _ l1_0 true _ ?side1 ?side2 ?side3 ?side4 A4.out).mono ?_);(case side1=>exact cq (Kd.jca HR0_0.out HB.out));(case side2=>exact HC0_0.out);(case side3=>exact cq (Kd.jca HR1_0.out HB.out));(case side4=>exact HC1_0.out);rintro e w12 ⟨rfl,hb⟩;refine ⟨_,rfl,?_⟩;replace BK135:=am (jc (g:=gb135) (o:=.cells #[.slice A0_0 l0_0.length c0_0] 37 (0,0)) (kq BK135.out) hb);replace BK136:=am (jc (g:=gb136) (o:=.cells #[.slice A1_0 l1_0.length c1_0] 32 (0,0)) (kq BK136.out) hb);replace HB:=am (jf (Y91) hb);(try clear hb);(try clear hb2);(try clear hk);(try clear hi);have hcz13_0:=bc0 BK136.out;have hfz13_0:=je BK136.out 0) |(go_at_call 69;(with_reducible refine (jhb.calls _ _ l1_0 a2 t138 _ ?side1 ?side2 A6.out).mono ?_);(case side1=>exact cq (Kd.jca HR1_0.out HB.out));(case side2=>exact HC1_0.out);rintro e w14 ⟨rfl,hb⟩;replace BK135:=am (jc (g:=gb135) (o:=.cells #[.slice A0_0 l0_0.length c0_0] 37 (0,0)) (kq BK135.out) hb);replace BK136:=am (jc (g:=gb136) (o:=.cells #[.slice A1_0 l1_0.length c1_0] 32 (0,0)) (kq BK136.out) hb);replace HB:=am (jf (Y91) hb);(try clear hb);(try clear hb2);(try clear hk);(try clear hi)))
  go_ret
  exact ⟨Y2,Y91⟩
 ·replace c5:=Bool.eq_false_iff.mpr c5
  subst c5
  have H1:(some false)=some r:=by rw [if_neg (show ¬ (false=true) by decide)] at H;exact H
  clear H
  have H:=H1
  clear H1
  obtain rfl:=Option.some.inj H
  go_enter Try.func41,Try.ntmps41
  go_wp2_with (first |((with_reducible refine jG (N:=3) rfl ?_);refine bE (N:=3) (cs:=#[.slice A0_0 l0_0.length c0_0]) (t:=37) ?_;intro gb135 hg w15 hbox hb;have BK135:=am (hbox);have GW135:=am ((Y0:w.heap.size≤gb135));have GE135:=am ((Y0:w.heap.size≤gb135));replace HB:=am (jf (bq) hb);clear hb hbox hg) |((with_reducible refine jG (N:=4) rfl ?_);refine bE (N:=4) (cs:=#[.slice A1_0 l1_0.length c1_0]) (t:=32) ?_;intro gb136 hg w16 hbox hb;have BK136:=am (hbox);have GW136:=am ((Y110:w.heap.size≤gb136));have GE136:=am ((Y110:w.heap.size≤gb136));have NB135_136:=am ((by rw [hg];exact Nat.ne_of_lt (jha (g:=gb135) (o:=.cells #[.slice A0_0 l0_0.length c0_0] 37 (0,0)) (kq BK135.out)):gb135≠gb136));have NB136_135:=am ((by rw [hg];exact Nat.ne_of_gt (jha (g:=gb135) (o:=.cells #[.slice A0_0 l0_0.length c0_0] 37 (0,0)) (kq BK135.out)):gb136≠gb135));replace BK135:=am (jc (g:=gb135) (o:=.cells #[.slice A0_0 l0_0.length c0_0] 37 (0,0)) (kq BK135.out) hb);replace HB:=am (jf (Y162) hb);clear hb hbox hg;have hnb17:=NB135_136.out;have hnc17:=NB136_135.out;have hcz18_0:=bc0 BK135.out;have hfz18_0:=je BK135.out 0;have hcz19_0:=bc0 BK136.out;have hfz19_0:=je BK136.out 0) |((with_reducible refine jA (f:=66) rfl ?_);refine gL (some 9) Try.func66 #[.agg #[.slice A0_0 l0_0.length c0_0], .agg #[.slice A1_0 l1_0.length c1_0]] ?_;(with_reducible refine (jE.calls k _ _ l0_0 _ _ l1_0 false _ ?side1 ?side2 ?side3 ?side4 A4.out).mono ?_);(case side1=>exact cq (Kd.jca HR0_0.out HB.out));(case side2=>exact HC0_0.out);(case side3=>exact cq (Kd.jca HR1_0.out HB.out));(case side4=>exact HC1_0.out);rintro e w20 ⟨rfl,hb⟩;refine ⟨_,rfl,?_⟩;replace BK135:=am (jc (g:=gb135) (o:=.cells #[.slice A0_0 l0_0.length c0_0] 37 (0,0)) (kq BK135.out) hb);replace BK136:=am (jc (g:=gb136) (o:=.cells #[.slice A1_0 l1_0.length c1_0] 32 (0,0)) (kq BK136.out) hb);replace HB:=am (jf (Y91) hb);(try clear hb);(try clear hb2);(try clear hk);(try clear hi)))
  go_ret
  exact ⟨Y2,Y91⟩
def jfa.f (k : Nat) (l0_0 : List (S94)) (l1_0 : List (S54)) (a2 : Int) : Option (List Int) := (jbb.f k l0_0 l1_0 a2).bind fun t617 => (if t617 = true then ((jea.f k l1_0 a2).bind fun t618 => (some t618)) else (some ([] : List Int)))
set_option maxHeartbeats 8000000 in
set_option maxRecDepth 100000 in
theorem jfa.calls (k : Nat) (A0_0 : Option Addr) (c0_0 : Nat) (l0_0 : List (S94)) (A1_0 : Option Addr) (c1_0 : Nat) (l1_0 : List (S54)) (a2 : Int) (r : List Int) (w : World) (hr0_0 : Kd.C k94 w A0_0 l0_0.length l0_0) (hc0_0 : l0_0.length ≤ c0_0) (hr1_0 : Kd.C k54 w A1_0 l1_0.length l1_0) (hc1_0 : l1_0.length ≤ c1_0) (h : jfa.f k l0_0 l1_0 a2 = some r) :
  Calls Try.prog 28 #[.agg #[.slice A0_0 l0_0.length c0_0], .agg #[.slice A1_0 l1_0.length c1_0], .int .i64 a2] w fun e w'=>∃ v0_:Value,e=.returned (v0_)∧Kd.R (Kd.int .i64) 3 w' w.heap.size (fun _=>True) v0_ r∧Below w.heap.size w w':=by
 have hu37:=Try.underlying37
 have hu32:=Try.underlying32
 have HR0_0:=am hr0_0
 have HC0_0:=am hc0_0
 clear hr0_0 hc0_0
 have HR1_0:=am hr1_0
 have HC1_0:=am hc1_0
 clear hr1_0 hc1_0
 have HB:=am (Below.refl w.heap.size w)
 have H:((jbb.f k l0_0 l1_0 a2).bind fun t617=>(if t617=true then ((jea.f k l1_0 a2).bind fun t618=>(some t618)) else (some ([]:List Int))))=some r:=h
 clear h
 replace H:=bzS H
 obtain ⟨t617,A40,H⟩:=H
 replace H:(if t617=true then ((jea.f k l1_0 a2).bind fun t618=>(some t618)) else (some ([]:List Int)))=some r:=H
 have A4:=am A40
 clear A40
 by_cases c5:t617=true
 ·subst c5
  have H1:((jea.f k l1_0 a2).bind fun t618=>(some t618))=some r:=by rw [if_pos rfl] at H;exact H
  clear H
  have H:=H1
  clear H1
  replace H:=bzS H
  obtain ⟨t618,A60,H⟩:=H
  replace H:(some t618)=some r:=H
  have A6:=am A60
  clear A60
  obtain rfl:=Option.some.inj H
  go_enter Try.func28,Try.ntmps28
  go_wp2_with (first |((with_reducible refine jG (N:=3) rfl ?_);refine bE (N:=3) (cs:=#[.slice A0_0 l0_0.length c0_0]) (t:=37) ?_;intro gb615 hg w7 hbox hb;have BK615:=am (hbox);have GW615:=am ((Y0:w.heap.size≤gb615));have GE615:=am ((Y0:w.heap.size≤gb615));replace HB:=am (jf (bq) hb);clear hb hbox hg) |((with_reducible refine jG (N:=4) rfl ?_);refine bE (N:=4) (cs:=#[.slice A1_0 l1_0.length c1_0]) (t:=32) ?_;intro gb616 hg w8 hbox hb;have BK616:=am (hbox);have GW616:=am ((Y111:w.heap.size≤gb616));have GE616:=am ((Y111:w.heap.size≤gb616));have NB615_616:=am ((by rw [hg];exact Nat.ne_of_lt (jha (g:=gb615) (o:=.cells #[.slice A0_0 l0_0.length c0_0] 37 (0,0)) (kq BK615.out)):gb615≠gb616));have NB616_615:=am ((by rw [hg];exact Nat.ne_of_gt (jha (g:=gb615) (o:=.cells #[.slice A0_0 l0_0.length c0_0] 37 (0,0)) (kq BK615.out)):gb616≠gb615));replace BK615:=am (jc (g:=gb615) (o:=.cells #[.slice A0_0 l0_0.length c0_0] 37 (0,0)) (kq BK615.out) hb);replace HB:=am (jf (Y163) hb);clear hb hbox hg;have hnb9:=NB615_616.out;have hnc9:=NB616_615.out;have hcz10_0:=bc0 BK615.out;have hfz10_0:=je BK615.out 0;have hcz11_0:=bc0 BK616.out;have hfz11_0:=je BK616.out 0) |((with_reducible refine jA (f:=41) rfl ?_);refine gL (some 10) Try.func41 #[.agg #[.slice A0_0 l0_0.length c0_0], .agg #[.slice A1_0 l1_0.length c1_0], .int .i64 a2] ?_;(with_reducible refine (jbb.calls k _ _ l0_0 _ _ l1_0 a2 true _ ?side1 ?side2 ?side3 ?side4 A4.out).mono ?_);(case side1=>exact cq (Kd.jca HR0_0.out HB.out));(case side2=>exact HC0_0.out);(case side3=>exact cq (Kd.jca HR1_0.out HB.out));(case side4=>exact HC1_0.out);rintro e w12 ⟨rfl,hb⟩;refine ⟨_,rfl,?_⟩;replace BK615:=am (jc (g:=gb615) (o:=.cells #[.slice A0_0 l0_0.length c0_0] 37 (0,0)) (kq BK615.out) hb);replace BK616:=am (jc (g:=gb616) (o:=.cells #[.slice A1_0 l1_0.length c1_0] 32 (0,0)) (kq BK616.out) hb);replace HB:=am (jf (Y81) hb);(try clear hb);(try clear hb2);(try clear hk);(try clear hi);have hcz13_0:=bc0 BK616.out;have hfz13_0:=je BK616.out 0) |((with_reducible refine jA (f:=58) rfl ?_);refine gL (some 14) Try.func58 #[.agg #[.slice A1_0 l1_0.length c1_0], .int .i64 a2] ?_;(with_reducible refine (jea.calls k _ _ l1_0 a2 t618 _ ?side1 ?side2 A6.out).mono ?_);(case side1=>exact cq (Kd.jca HR1_0.out HB.out));(case side2=>exact HC1_0.out);rintro e w14 ⟨v619,rfl,ho0,hb⟩;refine ⟨_,rfl,?_⟩;have HO620:=am (Kd.jV ho0 (jK (Y81)));replace BK615:=am (jc (g:=gb615) (o:=.cells #[.slice A0_0 l0_0.length c0_0] 37 (0,0)) (kq BK615.out) hb);replace BK616:=am (jc (g:=gb616) (o:=.cells #[.slice A1_0 l1_0.length c1_0] 32 (0,0)) (kq BK616.out) hb);replace HB:=am (jf (Y81) hb);(try clear hb);(try clear hb2);(try clear hk);(try clear hi);(try clear ho0)))
  go_ret
  exact ⟨_,Y2,rq HO620.out,Y81⟩
 ·replace c5:=Bool.eq_false_iff.mpr c5
  subst c5
  have H1:(some ([]:List Int))=some r:=by rw [if_neg (show ¬ (false=true) by decide)] at H;exact H
  clear H
  have H:=H1
  clear H1
  obtain rfl:=Option.some.inj H
  go_enter Try.func28,Try.ntmps28
  go_wp2_with (first |((with_reducible refine jG (N:=3) rfl ?_);refine bE (N:=3) (cs:=#[.slice A0_0 l0_0.length c0_0]) (t:=37) ?_;intro gb615 hg w15 hbox hb;have BK615:=am (hbox);have GW615:=am ((Y0:w.heap.size≤gb615));have GE615:=am ((Y0:w.heap.size≤gb615));replace HB:=am (jf (bq) hb);clear hb hbox hg) |((with_reducible refine jG (N:=4) rfl ?_);refine bE (N:=4) (cs:=#[.slice A1_0 l1_0.length c1_0]) (t:=32) ?_;intro gb616 hg w16 hbox hb;have BK616:=am (hbox);have GW616:=am ((Y111:w.heap.size≤gb616));have GE616:=am ((Y111:w.heap.size≤gb616));have NB615_616:=am ((by rw [hg];exact Nat.ne_of_lt (jha (g:=gb615) (o:=.cells #[.slice A0_0 l0_0.length c0_0] 37 (0,0)) (kq BK615.out)):gb615≠gb616));have NB616_615:=am ((by rw [hg];exact Nat.ne_of_gt (jha (g:=gb615) (o:=.cells #[.slice A0_0 l0_0.length c0_0] 37 (0,0)) (kq BK615.out)):gb616≠gb615));replace BK615:=am (jc (g:=gb615) (o:=.cells #[.slice A0_0 l0_0.length c0_0] 37 (0,0)) (kq BK615.out) hb);replace HB:=am (jf (Y163) hb);clear hb hbox hg;have hnb17:=NB615_616.out;have hnc17:=NB616_615.out;have hcz18_0:=bc0 BK615.out;have hfz18_0:=je BK615.out 0;have hcz19_0:=bc0 BK616.out;have hfz19_0:=je BK616.out 0) |((with_reducible refine jA (f:=41) rfl ?_);refine gL (some 10) Try.func41 #[.agg #[.slice A0_0 l0_0.length c0_0], .agg #[.slice A1_0 l1_0.length c1_0], .int .i64 a2] ?_;(with_reducible refine (jbb.calls k _ _ l0_0 _ _ l1_0 a2 false _ ?side1 ?side2 ?side3 ?side4 A4.out).mono ?_);(case side1=>exact cq (Kd.jca HR0_0.out HB.out));(case side2=>exact HC0_0.out);(case side3=>exact cq (Kd.jca HR1_0.out HB.out));(case side4=>exact HC1_0.out);rintro e w20 ⟨rfl,hb⟩;refine ⟨_,rfl,?_⟩;replace BK615:=am (jc (g:=gb615) (o:=.cells #[.slice A0_0 l0_0.length c0_0] 37 (0,0)) (kq BK615.out) hb);replace BK616:=am (jc (g:=gb616) (o:=.cells #[.slice A1_0 l1_0.length c1_0] 32 (0,0)) (kq BK616.out) hb);replace HB:=am (jf (Y81) hb);(try clear hb);(try clear hb2);(try clear hk);(try clear hi)))
  go_ret
  exact ⟨_,Y2,Y94,Y81⟩
end Go.Proofs.Ytecdfgejmbpclaa.P
end
