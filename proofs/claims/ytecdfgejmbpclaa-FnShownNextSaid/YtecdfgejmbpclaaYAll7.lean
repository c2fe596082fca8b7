/- One part of the proofs on this program: functions of the program as plain functions, that the code comes to them, and facts on them. -/
import Derived.Test.YtecdfgejmbpclaaYAll1
import Derived.Test.YtecdfgejmbpclaaYAll6
import Derived.Test.YtecdfgejmbpclaaYWAuto
section
namespace Go.Proofs.Ytecdfgejmbpclaa.P
open Go.RowKit Go.Proofs.YtecdfgejmbpclaaW.PrintWords Go.Proofs.YtecdfgejmbpclaaW.PrintLast Go.Proofs.YtecdfgejmbpclaaW.PrintMore
attribute [local go_sem] jqa joa jwa jva jea jda jpa jna jA
set_option linter.unusedVariables false
set_option linter.unusedSimpArgs false
mutual
def jE.l0 : Nat → Int → List (S94) → List (S54) → Option (Bool)
 | 0,_,_,_=>none
 | k+1,x5,x128000,x129000=>if x5<(x129000.length:Int) then (if 0≤x5 then ((jGa.f x128000 ((ja x129000 x5).f0)).bind fun t131=>(if t131=true then ((jM.f ((ja x129000 x5).f1) 0 99).bind fun t132=>(if t132=true then ((jDa.f x129000 x5).bind fun t133=>(jE.j1 k x5 (!t133) x128000 x129000)) else (jE.j1 k x5 true x128000 x129000))) else (jE.j1 k x5 true x128000 x129000))) else (none)) else (jE.l1 k 0 x128000 x129000)
def jE.j1 : Nat → Int → Bool → List (S94) → List (S54) → Option (Bool)
 | 0,_,_,_,_=>none
 | k+1,x5,x37,x128000,x129000=>if x37=true then (some false) else (jE.l0 k (wrap64 (x5+1)) x128000 x129000)
def jE.l1 : Nat → Int → List (S94) → List (S54) → Option (Bool)
 | 0,_,_,_=>none
 | k+1,x7,x128000,x129000=>if x7<(x129000.length:Int) then ((jka.f k x129000 x7).bind fun t135=>(if 0≤(wrap64 ((t135.length:Int) - 1)) then (if (wrap64 ((t135.length:Int) - 1))<(t135.length:Int) then (if 0≤(rd t135 (wrap64 ((t135.length:Int) - 1))) then (if (rd t135 (wrap64 ((t135.length:Int) - 1)))<(x129000.length:Int) then (if ((ja x129000 (rd t135 (wrap64 ((t135.length:Int) - 1)))).f3)≥0 then (some false) else (jE.l1 k (wrap64 (x7+1)) x128000 x129000)) else (none)) else (none)) else (none)) else (none))) else ((jI.f k x128000).bind fun t134=>(if t134=true then (some (decide ((x129000.length:Int)≤24))) else (some false)))
end
def jE.f (k : Nat) (l0_0 : List (S94)) (l1_0 : List (S54)) : Option (Bool) := jE.l0 k 0 l0_0 l1_0
set_option maxHeartbeats 8000000 in
set_option maxRecDepth 100000 in
theorem jE.calls (k : Nat) (A0_0 : Option Addr) (c0_0 : Nat) (l0_0 : List (S94)) (A1_0 : Option Addr) (c1_0 : Nat) (l1_0 : List (S54)) (r : Bool) (w : World) (hr0_0 : Kd.C k94 w A0_0 l0_0.length l0_0) (hc0_0 : l0_0.length ≤ c0_0) (hr1_0 : Kd.C k54 w A1_0 l1_0.length l1_0) (hc1_0 : l1_0.length ≤ c1_0) (h : jE.f k l0_0 l1_0 = some r) :
  Calls Try.prog 66 #[.agg #[.slice A0_0 l0_0.length c0_0], .agg #[.slice A1_0 l1_0.length c1_0]] w fun e w'=>e=.returned (.bool r)∧Below w.heap.size w w':=by
 have hu37:=Try.underlying37
 have hu32:=Try.underlying32
 have hu54:=Try.underlying54
 have HR0_0:=am hr0_0
 have HC0_0:=am hc0_0
 clear hr0_0 hc0_0
 have HR1_0:=am hr1_0
 have HC1_0:=am hc1_0
 clear hr1_0 hc1_0
 have HB:=am (Below.refl w.heap.size w)
 have H:(jE.l0 k 0 l0_0 l1_0)=some r:=h
 clear h
 have H':=am H
 clear H
 go_enter Try.func66,Try.ntmps66
 go_wp2_with (first |((with_reducible refine jD (N:=2) rfl ?_);(try (refine jVa (by rfl) ?_;dsimp only));refine jlb ?hg (N:=2) ?hd (cs:=#[.slice A0_0 l0_0.length c0_0]) (t:=37) ?hr ?_;(case hd=>rfl);(case hg=>rfl);(case hr=>exact Y4);intro gb127 hg w3 hbox hb;have BK127:=am (hbox);have GW127:=am ((Y0:w.heap.size≤gb127));have GE127:=am ((Y0:w.heap.size≤gb127));replace HB:=am (jf (bq) hb);clear hb hbox hg) |((with_reducible refine jD (N:=3) rfl ?_);(try (refine jVa (by rfl) ?_;dsimp only));refine jlb ?hg (N:=3) ?hd (cs:=#[.slice A1_0 l1_0.length c1_0]) (t:=32) ?hr ?_;(case hd=>rfl);(case hg=>rfl);(case hr=>exact Y4);intro gb128 hg w4 hbox hb;have BK128:=am (hbox);have GW128:=am ((Y78:w.heap.size≤gb128));have GE128:=am ((Y78:w.heap.size≤gb128));have NB127_128:=am ((Y79:gb127≠gb128));have NB128_127:=am ((Y80:gb128≠gb127));replace BK127:=am (je (g:=gb127) (o:=.cells #[.slice A0_0 l0_0.length c0_0] 37 (0,0)) (kq BK127.out) hb);replace HB:=am (jf (Y132) hb);clear hb hbox hg))
 repeat (go_quiet (first |((with_reducible refine jD (N:=2) rfl ?_);(try (refine jVa (by rfl) ?_;dsimp only));refine jlb ?hg (N:=2) ?hd (cs:=#[.slice A0_0 l0_0.length c0_0]) (t:=37) ?hr ?_;(case hd=>rfl);(case hg=>rfl);(case hr=>exact Y4);intro gb127 hg w3 hbox hb;have BK127:=am (hbox);have GW127:=am ((Y0:w.heap.size≤gb127));have GE127:=am ((Y0:w.heap.size≤gb127));replace HB:=am (jf (bq) hb);clear hb hbox hg) |((with_reducible refine jD (N:=3) rfl ?_);(try (refine jVa (by rfl) ?_;dsimp only));refine jlb ?hg (N:=3) ?hd (cs:=#[.slice A1_0 l1_0.length c1_0]) (t:=32) ?hr ?_;(case hd=>rfl);(case hg=>rfl);(case hr=>exact Y4);intro gb128 hg w4 hbox hb;have BK128:=am (hbox);have GW128:=am ((Y78:w.heap.size≤gb128));have GE128:=am ((Y78:w.heap.size≤gb128));have NB127_128:=am ((Y79:gb127≠gb128));have NB128_127:=am ((Y80:gb128≠gb127));replace BK127:=am (je (g:=gb127) (o:=.cells #[.slice A0_0 l0_0.length c0_0] 37 (0,0)) (kq BK127.out) hb);replace HB:=am (jf (Y132) hb);clear hb hbox hg));try go_wp2_with (first |((with_reducible refine jD (N:=2) rfl ?_);(try (refine jVa (by rfl) ?_;dsimp only));refine jlb ?hg (N:=2) ?hd (cs:=#[.slice A0_0 l0_0.length c0_0]) (t:=37) ?hr ?_;(case hd=>rfl);(case hg=>rfl);(case hr=>exact Y4);intro gb127 hg w3 hbox hb;have BK127:=am (hbox);have GW127:=am ((Y0:w.heap.size≤gb127));have GE127:=am ((Y0:w.heap.size≤gb127));replace HB:=am (jf (bq) hb);clear hb hbox hg) |((with_reducible refine jD (N:=3) rfl ?_);(try (refine jVa (by rfl) ?_;dsimp only));refine jlb ?hg (N:=3) ?hd (cs:=#[.slice A1_0 l1_0.length c1_0]) (t:=32) ?hr ?_;(case hd=>rfl);(case hg=>rfl);(case hr=>exact Y4);intro gb128 hg w4 hbox hb;have BK128:=am (hbox);have GW128:=am ((Y78:w.heap.size≤gb128));have GE128:=am ((Y78:w.heap.size≤gb128));have NB127_128:=am ((Y79:gb127≠gb128));have NB128_127:=am ((Y80:gb128≠gb127));replace BK127:=am (je (g:=gb127) (o:=.cells #[.slice A0_0 l0_0.length c0_0] 37 (0,0)) (kq BK127.out) hb);replace HB:=am (jf (Y132) hb);clear hb hbox hg)))
 go_loopg [5] k (fun kq v5 w'=>∃ (x5_1:Int),v5=.int .i64 x5_1∧jC (jE.l0 kq x5_1 l0_0 l1_0=some r)∧jC (kq≤k)∧jC (w'.heap[gb127]?=some (.cells #[(.slice A0_0 l0_0.length c0_0)] 37 (0,0)))∧jC (w'.heap[gb128]?=some (.cells #[(.slice A1_0 l1_0.length c1_0)] 32 (0,0)))∧jC (Below w.heap.size w w'))
 case atStart=>exact ⟨(0),(sq),H',⟨Nat.le_refl _⟩,⟨kq BK127.out⟩,⟨kq BK128.out⟩,⟨Y11⟩⟩
 case round =>
  clear H'
  try clear c1
  try clear p2
  obtain ⟨x5_1,rfl,HA,HK1,BK127,BK128,HB⟩:=hrel
  cases gk with
  | zero=>exact absurd HA.out (by simp [jE.l0])
  | succ k1 =>
   have H:=HA.out
   clear HA
   simp only [jE.l0] at H
   by_cases c5:x5_1<(l1_0.length:Int)
   ·rw [if_pos c5] at H
    have c5b0:decide (x5_1<(l1_0.length:Int))=true:=dzT c5
    clear c5
    by_cases c6:0≤x5_1
    ·rw [if_pos c6] at H
     have c6b0:decide (0≤x5_1)=true:=dzT c6
     clear c6
     have HC7:=am H
     clear H
     have hnb8:=NB128_127.out
     have hnc8:=NB127_128.out
     have hcz9_0:=bc0 BK128.out
     have hfz9_0:=jb BK128.out 0
     have p129:0≤(x5_1:Int):=ozD (uq)
     have q129:x5_1<(l1_0.length:Int):=ozD (uq)
     obtain ⟨ad129,e129,hx129_0,hx129_1,hx129_2,hx129_3,hx129_4⟩:=jdb HR1_0.out x5_1 p129 q129
     cases e129
     replace hx129_0:=cb HB.out hx129_0
     replace hx129_1:=cb HB.out hx129_1
     replace hx129_2:=cb HB.out hx129_2
     replace hx129_3:=cb HB.out hx129_3
     replace hx129_4:=cb HB.out hx129_4
     replace p129:=ezT p129
     replace q129:=ezT q129
     go_upto_region 5 with (first |((with_reducible refine jD (N:=6) rfl ?_);(try (refine jVa (by rfl) ?_;dsimp only));refine jlb ?hg (N:=6) ?hd (cs:=#[.int .i64 0, .int .i64 0, .int .i64 0, .int .i64 0, .bool false]) (t:=54) ?hr ?_;(case hd=>rfl);(case hg=>rfl);(case hr=>exact Y4);intro gb130 hg w10 hbox hb;have BK130:=am (hbox);have GW130:=am ((Y81:w.heap.size≤gb130));have GE130:=am ((Y81:w.heap.size≤gb130));have NB127_130:=am ((Y79:gb127≠gb130));have NB130_127:=am ((Y80:gb130≠gb127));have NB128_130:=am ((Y133:gb128≠gb130));have NB130_128:=am ((Y134:gb130≠gb128));replace BK127:=am (je (g:=gb127) (o:=.cells #[.slice A0_0 l0_0.length c0_0] 37 (0,0)) (kq BK127.out) hb);replace BK128:=am (je (g:=gb128) (o:=.cells #[.slice (some ad129) l1_0.length c1_0] 32 (0,0)) (kq BK128.out) hb);replace HB:=am (jf (Y11) hb);clear hb hbox hg;have hnb11:=NB130_127.out;have hnc11:=NB127_130.out;have hnb12:=NB130_128.out;have hnc12:=NB128_130.out;have hcz13_0:=bc0 BK130.out;have hcz13_1:=bc1 BK130.out;have hcz13_2:=bc2 BK130.out;have hcz13_3:=bc3 BK130.out;have hcz13_4:w10.cell? ⟨gb130,4,none⟩=some (.bool false):=(jG BK130.out 4).trans rfl;have hfz13_0:=jb BK130.out 0;have hfz13_1:=jb BK130.out 1;have hfz13_2:=jb BK130.out 2;have hfz13_3:=jb BK130.out 3;have hfz13_4:=jb BK130.out 4))
     repeat (go_quiet (first |((with_reducible refine jD (N:=6) rfl ?_);(try (refine jVa (by rfl) ?_;dsimp only));refine jlb ?hg (N:=6) ?hd (cs:=#[.int .i64 0, .int .i64 0, .int .i64 0, .int .i64 0, .bool false]) (t:=54) ?hr ?_;(case hd=>rfl);(case hg=>rfl);(case hr=>exact Y4);intro gb130 hg w10 hbox hb;have BK130:=am (hbox);have GW130:=am ((Y81:w.heap.size≤gb130));have GE130:=am ((Y81:w.heap.size≤gb130));have NB127_130:=am ((Y79:gb127≠gb130));have NB130_127:=am ((Y80:gb130≠gb127));have NB128_130:=am ((Y133:gb128≠gb130));have NB130_128:=am ((Y134:gb130≠gb128));replace BK127:=am (je (g:=gb127) (o:=.cells #[.slice A0_0 l0_0.length c0_0] 37 (0,0)) (kq BK127.out) hb);replace BK128:=am (je (g:=gb128) (o:=.cells #[.slice (some ad129) l1_0.length c1_0] 32 (0,0)) (kq BK128.out) hb);replace HB:=am (jf (Y11) hb);clear hb hbox hg;have hnb11:=NB130_127.out;have hnc11:=NB127_130.out;have hnb12:=NB130_128.out;have hnc12:=NB128_130.out;have hcz13_0:=bc0 BK130.out;have hcz13_1:=bc1 BK130.out;have hcz13_2:=bc2 BK130.out;have hcz13_3:=bc3 BK130.out;have hcz13_4:w10.cell? ⟨gb130,4,none⟩=some (.bool false):=(jG BK130.out 4).trans rfl;have hfz13_0:=jb BK130.out 0;have hfz13_1:=jb BK130.out 1;have hfz13_2:=jb BK130.out 2;have hfz13_3:=jb BK130.out 3;have hfz13_4:=jb BK130.out 4));go_upto_region 5 with (first |((with_reducible refine jD (N:=6) rfl ?_);(try (refine jVa (by rfl) ?_;dsimp only));refine jlb ?hg (N:=6) ?hd (cs:=#[.int .i64 0, .int .i64 0, .int .i64 0, .int .i64 0, .bool false]) (t:=54) ?hr ?_;(case hd=>rfl);(case hg=>rfl);(case hr=>exact Y4);intro gb130 hg w10 hbox hb;have BK130:=am (hbox);have GW130:=am ((Y81:w.heap.size≤gb130));have GE130:=am ((Y81:w.heap.size≤gb130));have NB127_130:=am ((Y79:gb127≠gb130));have NB130_127:=am ((Y80:gb130≠gb127));have NB128_130:=am ((Y133:gb128≠gb130));have NB130_128:=am ((Y134:gb130≠gb128));replace BK127:=am (je (g:=gb127) (o:=.cells #[.slice A0_0 l0_0.length c0_0] 37 (0,0)) (kq BK127.out) hb);replace BK128:=am (je (g:=gb128) (o:=.cells #[.slice (some ad129) l1_0.length c1_0] 32 (0,0)) (kq BK128.out) hb);replace HB:=am (jf (Y11) hb);clear hb hbox hg;have hnb11:=NB130_127.out;have hnc11:=NB127_130.out;have hnb12:=NB130_128.out;have hnc12:=NB128_130.out;have hcz13_0:=bc0 BK130.out;have hcz13_1:=bc1 BK130.out;have hcz13_2:=bc2 BK130.out;have hcz13_3:=bc3 BK130.out;have hcz13_4:w10.cell? ⟨gb130,4,none⟩=some (.bool false):=(jG BK130.out 4).trans rfl;have hfz13_0:=jb BK130.out 0;have hfz13_1:=jb BK130.out 1;have hfz13_2:=jb BK130.out 2;have hfz13_3:=jb BK130.out 3;have hfz13_4:=jb BK130.out 4)))
     (try simp only [Act.put,List.setIfInBounds_toArray,List.set_cons_zero,List.set_cons_succ])
     go_cut [37] (fun v37 wc=>∃ (kq:Nat) (x37_6:Bool),v37=.bool x37_6∧jC (jE.j1 kq x5_1 x37_6 l0_0 l1_0=some r)∧jC (kq≤k1)∧jC (wc.heap[gb127]?=some (.cells #[(.slice A0_0 l0_0.length c0_0)] 37 (0,0)))∧jC (wc.heap[gb128]?=some (.cells #[(.slice (some ad129) l1_0.length c1_0)] 32 (0,0)))∧jC (wc.heap[gb130]?=some (.cells #[.int .i64 ((ja l1_0 x5_1).f0), .int .i64 ((ja l1_0 x5_1).f1), .int .i64 ((ja l1_0 x5_1).f2), .int .i64 ((ja l1_0 x5_1).f3), .bool ((ja l1_0 x5_1).f4)] 54 (0,0)))∧jC (Below w.heap.size w wc))
     case first =>
      have H:=HC7.out
      clear HC7
      replace H:=bzS H
      obtain ⟨t131,A140,H⟩:=H
      replace H:(if t131=true then ((jM.f ((ja l1_0 x5_1).f1) 0 99).bind fun t132=>(if t132=true then ((jDa.f l1_0 x5_1).bind fun t133=>(jE.j1 k1 x5_1 (!t133) l0_0 l1_0)) else (jE.j1 k1 x5_1 true l0_0 l1_0))) else (jE.j1 k1 x5_1 true l0_0 l1_0))=some r:=H
      have A14:=am A140
      clear A140
      by_cases c15:t131=true
      ·subst c15
       have H1:((jM.f ((ja l1_0 x5_1).f1) 0 99).bind fun t132=>(if t132=true then ((jDa.f l1_0 x5_1).bind fun t133=>(jE.j1 k1 x5_1 (!t133) l0_0 l1_0)) else (jE.j1 k1 x5_1 true l0_0 l1_0)))=some r:=by rw [if_pos rfl] at H;exact H
       clear H
       have H:=H1
       clear H1
       replace H:=bzS H
       obtain ⟨t132,A160,H⟩:=H
       replace H:(if t132=true then ((jDa.f l1_0 x5_1).bind fun t133=>(jE.j1 k1 x5_1 (!t133) l0_0 l1_0)) else (jE.j1 k1 x5_1 true l0_0 l1_0))=some r:=H
       have A16:=am A160
       clear A160
       by_cases c17:t132=true
       ·subst c17
        have H1:((jDa.f l1_0 x5_1).bind fun t133=>(jE.j1 k1 x5_1 (!t133) l0_0 l1_0))=some r:=by rw [if_pos rfl] at H;exact H
        clear H
        have H:=H1
        clear H1
        replace H:=bzS H
        obtain ⟨t133,A180,H⟩:=H
        replace H:(jE.j1 k1 x5_1 (!t133) l0_0 l1_0)=some r:=H
        have A18:=am A180
        clear A180
        have H':=am H
        clear H
        have hnb19:=NB127_128.out
        have hnc19:=NB128_127.out
        have hnb20:=NB127_130.out
        have hnc20:=NB130_127.out
        have hcz21_0:=bc0 BK127.out
        have hfz21_0:=jb BK127.out 0
        have hnb22:=NB130_128.out
        have hnc22:=NB128_130.out
        have hcz23_0:=bc0 BK130.out
        have hcz23_1:=bc1 BK130.out
        have hcz23_2:=bc2 BK130.out
        have hcz23_3:=bc3 BK130.out
        have hcz23_4:w10.cell? ⟨gb130,4,none⟩=some (.bool false):=(jG BK130.out 4).trans rfl
        have hfz23_0:=jb BK130.out 0
        have hfz23_1:=jb BK130.out 1
        have hfz23_2:=jb BK130.out 2
        have hfz23_3:=jb BK130.out 3
        have hfz23_4:=jb BK130.out 4
        go_wp2_with (first |(go_at_call 97;(with_reducible refine (jGa.calls _ _ l0_0 ((ja l1_0 x5_1).f0) true _ ?side1 ?side2 A14.out).mono ?_);(case side1=>exact Kd.jaa HR0_0.out (Y15));(case side2=>exact HC0_0.out);rintro e w24 ⟨rfl,hb⟩;replace BK127:=am (je (g:=gb127) (o:=.cells #[.slice A0_0 l0_0.length c0_0] 37 (0,0)) (Y42) hb);replace BK128:=am (je (g:=gb128) (o:=.cells #[.slice (some ad129) l1_0.length c1_0] 32 (0,0)) (Y43) hb);replace BK130:=am (je (g:=gb130) (o:=.cells #[.int .i64 ((ja l1_0 x5_1).f0), .int .i64 ((ja l1_0 x5_1).f1), .int .i64 ((ja l1_0 x5_1).f2), .int .i64 ((ja l1_0 x5_1).f3), .bool ((ja l1_0 x5_1).f4)] 54 (0,0)) (Y44) hb);replace HB:=am (jf (Y15) hb);(try clear hb);(try clear hb2);(try clear hk);(try clear hi);have hcz25_0:=bc0 BK130.out;have hcz25_1:=bc1 BK130.out;have hcz25_2:=bc2 BK130.out;have hcz25_3:=bc3 BK130.out;have hcz25_4:w24.cell? ⟨gb130,4,none⟩=some (.bool ((ja l1_0 x5_1).f4)):=(jG BK130.out 4).trans rfl;have hfz25_0:=jb BK130.out 0;have hfz25_1:=jb BK130.out 1;have hfz25_2:=jb BK130.out 2;have hfz25_3:=jb BK130.out 3;have hfz25_4:=jb BK130.out 4) |(go_at_call 98;(with_reducible refine (jM.calls ((ja l1_0 x5_1).f1) 0 99 true _ A16.out).mono ?_);rintro e w' ⟨rfl,⟨nd,rfl⟩⟩;(try first | exact ⟨rfl,_,World.drewN_drewN _ _ _⟩ | exact ⟨rfl,_,Eq.trans (World.drewN_drewN _ _ _) (congrArg (World.drewN _) (Nat.add_assoc _ _ _))⟩);have hcz26_0:=bc0 BK128.out;have hfz26_0:=jb BK128.out 0) |(go_at_call 99;(with_reducible refine (jDa.calls _ _ l1_0 x5_1 t133 _ ?side1 ?side2 A18.out).mono ?_);(case side1=>exact Y135);(case side2=>exact HC1_0.out);rintro e w27 ⟨rfl,hb⟩;replace BK127:=am (je (g:=gb127) (o:=.cells #[.slice A0_0 l0_0.length c0_0] 37 (0,0)) (kq BK127.out) hb);replace BK128:=am (je (g:=gb128) (o:=.cells #[.slice (some ad129) l1_0.length c1_0] 32 (0,0)) (kq BK128.out) hb);replace BK130:=am (je (g:=gb130) (o:=.cells #[.int .i64 ((ja l1_0 x5_1).f0), .int .i64 ((ja l1_0 x5_1).f1), .int .i64 ((ja l1_0 x5_1).f2), .int .i64 ((ja l1_0 x5_1).f3), .bool ((ja l1_0 x5_1).f4)] 54 (0,0)) (kq BK130.out) hb);replace HB:=am (jf (Y15) hb);(try clear hb);(try clear hb2);(try clear hk);(try clear hi)))
        repeat (go_quiet (first |(go_at_call 97;(with_reducible refine (jGa.calls _ _ l0_0 ((ja l1_0 x5_1).f0) true _ ?side1 ?side2 A14.out).mono ?_);(case side1=>exact Kd.jaa HR0_0.out (Y15));(case side2=>exact HC0_0.out);rintro e w24 ⟨rfl,hb⟩;replace BK127:=am (je (g:=gb127) (o:=.cells #[.slice A0_0 l0_0.length c0_0] 37 (0,0)) (Y42) hb);replace BK128:=am (je (g:=gb128) (o:=.cells #[.slice (some ad129) l1_0.length c1_0] 32 (0,0)) (Y43) hb);replace BK130:=am (je (g:=gb130) (o:=.cells #[.int .i64 ((ja l1_0 x5_1).f0), .int .i64 ((ja l1_0 x5_1).f1), .int .i64 ((ja l1_0 x5_1).f2), .int .i64 ((ja l1_0 x5_1).f3), .bool ((ja l1_0 x5_1).f4)] 54 (0,0)) (Y44) hb);replace HB:=am (jf (Y15) hb);(try clear hb);(try clear hb2);(try clear hk);(try clear hi);have hcz25_0:=bc0 BK130.out;have hcz25_1:=bc1 BK130.out;have hcz25_2:=bc2 BK130.out;have hcz25_3:=bc3 BK130.out;have hcz25_4:w24.cell? ⟨gb130,4,none⟩=some (.bool ((ja l1_0 x5_1).f4)):=(jG BK130.out 4).trans rfl;have hfz25_0:=jb BK130.out 0;have hfz25_1:=jb BK130.out 1;have hfz25_2:=jb BK130.out 2;have hfz25_3:=jb BK130.out 3;have hfz25_4:=jb BK130.out 4) |(go_at_call 98;(with_reducible refine (jM.calls ((ja l1_0 x5_1).f1) 0 99 true _ A16.out).mono ?_);rintro e w' ⟨rfl,⟨nd,rfl⟩⟩;(try first | exact ⟨rfl,_,World.drewN_drewN _ _ _⟩ | exact ⟨rfl,_,Eq.trans (World.drewN_drewN _ _ _) (congrArg (World.drewN _) (Nat.add_assoc _ _ _))⟩);have hcz26_0:=bc0 BK128.out;have hfz26_0:=jb BK128.out 0) |(go_at_call 99;(with_reducible refine (jDa.calls _ _ l1_0 x5_1 t133 _ ?side1 ?side2 A18.out).mono ?_);(case side1=>exact Y135);(case side2=>exact HC1_0.out);rintro e w27 ⟨rfl,hb⟩;replace BK127:=am (je (g:=gb127) (o:=.cells #[.slice A0_0 l0_0.length c0_0] 37 (0,0)) (kq BK127.out) hb);replace BK128:=am (je (g:=gb128) (o:=.cells #[.slice (some ad129) l1_0.length c1_0] 32 (0,0)) (kq BK128.out) hb);replace BK130:=am (je (g:=gb130) (o:=.cells #[.int .i64 ((ja l1_0 x5_1).f0), .int .i64 ((ja l1_0 x5_1).f1), .int .i64 ((ja l1_0 x5_1).f2), .int .i64 ((ja l1_0 x5_1).f3), .bool ((ja l1_0 x5_1).f4)] 54 (0,0)) (kq BK130.out) hb);replace HB:=am (jf (Y15) hb);(try clear hb);(try clear hb2);(try clear hk);(try clear hi)));try go_wp2_with (first |(go_at_call 97;(with_reducible refine (jGa.calls _ _ l0_0 ((ja l1_0 x5_1).f0) true _ ?side1 ?side2 A14.out).mono ?_);(case side1=>exact Kd.jaa HR0_0.out (Y15));(case side2=>exact HC0_0.out);rintro e w24 ⟨rfl,hb⟩;replace BK127:=am (je (g:=gb127) (o:=.cells #[.slice A0_0 l0_0.length c0_0] 37 (0,0)) (Y42) hb);replace BK128:=am (je (g:=gb128) (o:=.cells #[.slice (some ad129) l1_0.length c1_0] 32 (0,0)) (Y43) hb);replace BK130:=am (je (g:=gb130) (o:=.cells #[.int .i64 ((ja l1_0 x5_1).f0), .int .i64 ((ja l1_0 x5_1).f1), .int .i64 ((ja l1_0 x5_1).f2), .int .i64 ((ja l1_0 x5_1).f3), .bool ((ja l1_0 x5_1).f4)] 54 (0,0)) (Y44) hb);replace HB:=am (jf (Y15) hb);(try clear hb);(try clear hb2);(try clear hk);(try clear hi);have hcz25_0:=bc0 BK130.out;have hcz25_1:=bc1 BK130.out;have hcz25_2:=bc2 BK130.out;have hcz25_3:=bc3 BK130.out;have hcz25_4:w24.cell? ⟨gb130,4,none⟩=some (.bool ((ja l1_0 x5_1).f4)):=(jG BK130.out 4).trans rfl;have hfz25_0:=jb BK130.out 0;have hfz25_1:=jb BK130.out 1;have hfz25_2:=jb BK130.out 2;have hfz25_3:=jb BK130.out 3;have hfz25_4:=jb BK130.out 4) |(go_at_call 98;(with_reducible refine (jM.calls ((ja l1_0 x5_1).f1) 0 99 true _ A16.out).mono ?_);rintro e w' ⟨rfl,⟨nd,rfl⟩⟩;(try first | exact ⟨rfl,_,World.drewN_drewN _ _ _⟩ | exact ⟨rfl,_,Eq.trans (World.drewN_drewN _ _ _) (congrArg (World.drewN _) (Nat.add_assoc _ _ _))⟩);have hcz26_0:=bc0 BK128.out;have hfz26_0:=jb BK128.out 0) |(go_at_call 99;(with_reducible refine (jDa.calls _ _ l1_0 x5_1 t133 _ ?side1 ?side2 A18.out).mono ?_);(case side1=>exact Y135);(case side2=>exact HC1_0.out);rintro e w27 ⟨rfl,hb⟩;replace BK127:=am (je (g:=gb127) (o:=.cells #[.slice A0_0 l0_0.length c0_0] 37 (0,0)) (kq BK127.out) hb);replace BK128:=am (je (g:=gb128) (o:=.cells #[.slice (some ad129) l1_0.length c1_0] 32 (0,0)) (kq BK128.out) hb);replace BK130:=am (je (g:=gb130) (o:=.cells #[.int .i64 ((ja l1_0 x5_1).f0), .int .i64 ((ja l1_0 x5_1).f1), .int .i64 ((ja l1_0 x5_1).f2), .int .i64 ((ja l1_0 x5_1).f3), .bool ((ja l1_0 x5_1).f4)] 54 (0,0)) (kq BK130.out) hb);replace HB:=am (jf (Y15) hb);(try clear hb);(try clear hb2);(try clear hk);(try clear hi))))
        go_meet
        case rel=>exact ⟨_,(!t133),(sq),H',⟨by have:=HK1.out;first | omega | exact Nat.le_refl _⟩,⟨kq BK127.out⟩,⟨kq BK128.out⟩,⟨kq BK130.out⟩,⟨Y15⟩⟩
       ·replace c17:=Bool.eq_false_iff.mpr c17
        subst c17
        have H1:(jE.j1 k1 x5_1 true l0_0 l1_0)=some r:=by rw [if_neg (show ¬ (false=true) by decide)] at H;exact H
        clear H
        have H:=H1
        clear H1
        have H':=am H
        clear H
        have hnb28:=NB127_128.out
        have hnc28:=NB128_127.out
        have hnb29:=NB127_130.out
        have hnc29:=NB130_127.out
        have hcz30_0:=bc0 BK127.out
        have hfz30_0:=jb BK127.out 0
        have hnb31:=NB130_128.out
        have hnc31:=NB128_130.out
        have hcz32_0:=bc0 BK130.out
        have hcz32_1:=bc1 BK130.out
        have hcz32_2:=bc2 BK130.out
        have hcz32_3:=bc3 BK130.out
        have hcz32_4:w10.cell? ⟨gb130,4,none⟩=some (.bool false):=(jG BK130.out 4).trans rfl
        have hfz32_0:=jb BK130.out 0
        have hfz32_1:=jb BK130.out 1
        have hfz32_2:=jb BK130.out 2
        have hfz32_3:=jb BK130.out 3
        have hfz32_4:=jb BK130.out 4
        go_wp2_with (first |(go_at_call 97;(with_reducible refine (jGa.calls _ _ l0_0 ((ja l1_0 x5_1).f0) true _ ?side1 ?side2 A14.out).mono ?_);(case side1=>exact Kd.jaa HR0_0.out (Y15));(case side2=>exact HC0_0.out);rintro e w33 ⟨rfl,hb⟩;replace BK127:=am (je (g:=gb127) (o:=.cells #[.slice A0_0 l0_0.length c0_0] 37 (0,0)) (Y42) hb);replace BK128:=am (je (g:=gb128) (o:=.cells #[.slice (some ad129) l1_0.length c1_0] 32 (0,0)) (Y43) hb);replace BK130:=am (je (g:=gb130) (o:=.cells #[.int .i64 ((ja l1_0 x5_1).f0), .int .i64 ((ja l1_0 x5_1).f1), .int .i64 ((ja l1_0 x5_1).f2), .int .i64 ((ja l1_0 x5_1).f3), .bool ((ja l1_0 x5_1).f4)] 54 (0,0)) (Y44) hb);replace HB:=am (jf (Y15) hb);(try clear hb);(try clear hb2);(try clear hk);(try clear hi);have hcz34_0:=bc0 BK130.out;have hcz34_1:=bc1 BK130.out;have hcz34_2:=bc2 BK130.out;have hcz34_3:=bc3 BK130.out;have hcz34_4:w33.cell? ⟨gb130,4,none⟩=some (.bool ((ja l1_0 x5_1).f4)):=(jG BK130.out 4).trans rfl;have hfz34_0:=jb BK130.out 0;have hfz34_1:=jb BK130.out 1;have hfz34_2:=jb BK130.out 2;have hfz34_3:=jb BK130.out 3;have hfz34_4:=jb BK130.out 4) |(go_at_call 98;(with_reducible refine (jM.calls ((ja l1_0 x5_1).f1) 0 99 false _ A16.out).mono ?_);rintro e w' ⟨rfl,⟨nd,rfl⟩⟩;(try first | exact ⟨rfl,_,World.drewN_drewN _ _ _⟩ | exact ⟨rfl,_,Eq.trans (World.drewN_drewN _ _ _) (congrArg (World.drewN _) (Nat.add_assoc _ _ _))⟩)))
        repeat (go_quiet (first |(go_at_call 97;(with_reducible refine (jGa.calls _ _ l0_0 ((ja l1_0 x5_1).f0) true _ ?side1 ?side2 A14.out).mono ?_);(case side1=>exact Kd.jaa HR0_0.out (Y15));(case side2=>exact HC0_0.out);rintro e w33 ⟨rfl,hb⟩;replace BK127:=am (je (g:=gb127) (o:=.cells #[.slice A0_0 l0_0.length c0_0] 37 (0,0)) (Y42) hb);replace BK128:=am (je (g:=gb128) (o:=.cells #[.slice (some ad129) l1_0.length c1_0] 32 (0,0)) (Y43) hb);replace BK130:=am (je (g:=gb130) (o:=.cells #[.int .i64 ((ja l1_0 x5_1).f0), .int .i64 ((ja l1_0 x5_1).f1), .int .i64 ((ja l1_0 x5_1).f2), .int .i64 ((ja l1_0 x5_1).f3), .bool ((ja l1_0 x5_1).f4)] 54 (0,0)) (Y44) hb);replace HB:=am (jf (Y15) hb);(try clear hb);(try clear hb2);(try clear hk);(try clear hi);have hcz34_0:=bc0 BK130.out;have hcz34_1:=bc1 BK130.out;have hcz34_2:=bc2 BK130.out;have hcz34_3:=bc3 BK130.out;have hcz34_4:w33.cell? ⟨gb130,4,none⟩=some (.bool ((ja l1_0 x5_1).f4)):=(jG BK130.out 4).trans rfl;have hfz34_0:=jb BK130.out 0;have hfz34_1:=jb BK130.out 1;have hfz34_2:=jb BK130.out 2;have hfz34_3:=jb BK130.out 3;have hfz34_4:=jb BK130.out 4) |(go_at_call 98;(with_reducible refine (jM.calls ((ja l1_0 x5_1).f1) 0 99 false _ A16.out).mono ?_);rintro e w' ⟨rfl,⟨nd,rfl⟩⟩;(try first | exact ⟨rfl,_,World.drewN_drewN _ _ _⟩ | exact ⟨rfl,_,Eq.trans (World.drewN_drewN _ _ _) (congrArg (World.drewN _) (Nat.add_assoc _ _ _))⟩)));try go_wp2_with (first |(go_at_call 97;(with_reducible refine (jGa.calls _ _ l0_0 ((ja l1_0 x5_1).f0) true _ ?side1 ?side2 A14.out).mono ?_);(case side1=>exact Kd.jaa HR0_0.out (Y15));(case side2=>exact HC0_0.out);rintro e w33 ⟨rfl,hb⟩;replace BK127:=am (je (g:=gb127) (o:=.cells #[.slice A0_0 l0_0.length c0_0] 37 (0,0)) (Y42) hb);replace BK128:=am (je (g:=gb128) (o:=.cells #[.slice (some ad129) l1_0.length c1_0] 32 (0,0)) (Y43) hb);replace BK130:=am (je (g:=gb130) (o:=.cells #[.int .i64 ((ja l1_0 x5_1).f0), .int .i64 ((ja l1_0 x5_1).f1), .int .i64 ((ja l1_0 x5_1).f2), .int .i64 ((ja l1_0 x5_1).f3), .bool ((ja l1_0 x5_1).f4)] 54 (0,0)) (Y44) hb);replace HB:=am (jf (Y15) hb);(try clear hb);(try clear hb2);(try clear hk);(try clear hi);have hcz34_0:=bc0 BK130.out;have hcz34_1:=bc1 BK130.out;have hcz34_2:=bc2 BK130.out;have hcz34_3:=bc3 BK130.out;have hcz34_4:w33.cell? ⟨gb130,4,none⟩=some (.bool ((ja l1_0 x5_1).f4)):=(jG BK130.out 4).trans rfl;have hfz34_0:=jb BK130.out 0;have hfz34_1:=jb BK130.out 1;have hfz34_2:=jb BK130.out 2;have hfz34_3:=jb BK130.out 3;have hfz34_4:=jb BK130.out 4) |(go_at_call 98;(with_reducible refine (jM.calls ((ja l1_0 x5_1).f1) 0 99 false _ A16.out).mono ?_);rintro e w' ⟨rfl,⟨nd,rfl⟩⟩;(try first | exact ⟨rfl,_,World.drewN_drewN _ _ _⟩ | exact ⟨rfl,_,Eq.trans (World.drewN_drewN _ _ _) (congrArg (World.drewN _) (Nat.add_assoc _ _ _))⟩))))
        go_meet
        case rel=>exact ⟨_,(true),(sq),H',⟨by have:=HK1.out;first | omega | exact Nat.le_refl _⟩,⟨kq BK127.out⟩,⟨kq BK128.out⟩,⟨kq BK130.out⟩,⟨Y15⟩⟩
      ·replace c15:=Bool.eq_false_iff.mpr c15
       subst c15
       have H1:(jE.j1 k1 x5_1 true l0_0 l1_0)=some r:=by rw [if_neg (show ¬ (false=true) by decide)] at H;exact H
       clear H
       have H:=H1
       clear H1
       have H':=am H
       clear H
       have hnb35:=NB127_128.out
       have hnc35:=NB128_127.out
       have hnb36:=NB127_130.out
       have hnc36:=NB130_127.out
       have hcz37_0:=bc0 BK127.out
       have hfz37_0:=jb BK127.out 0
       have hnb38:=NB130_128.out
       have hnc38:=NB128_130.out
       have hcz39_0:=bc0 BK130.out
       have hcz39_1:=bc1 BK130.out
       have hcz39_2:=bc2 BK130.out
       have hcz39_3:=bc3 BK130.out
       have hcz39_4:w10.cell? ⟨gb130,4,none⟩=some (.bool false):=(jG BK130.out 4).trans rfl
       have hfz39_0:=jb BK130.out 0
       have hfz39_1:=jb BK130.out 1
       have hfz39_2:=jb BK130.out 2
       have hfz39_3:=jb BK130.out 3
       have hfz39_4:=jb BK130.out 4
       go_wp2_with (first |(go_at_call 97;(with_reducible refine (jGa.calls _ _ l0_0 ((ja l1_0 x5_1).f0) false _ ?side1 ?side2 A14.out).mono ?_);(case side1=>exact Kd.jaa HR0_0.out (Y15));(case side2=>exact HC0_0.out);rintro e w40 ⟨rfl,hb⟩;replace BK127:=am (je (g:=gb127) (o:=.cells #[.slice A0_0 l0_0.length c0_0] 37 (0,0)) (Y42) hb);replace BK128:=am (je (g:=gb128) (o:=.cells #[.slice (some ad129) l1_0.length c1_0] 32 (0,0)) (Y43) hb);replace BK130:=am (je (g:=gb130) (o:=.cells #[.int .i64 ((ja l1_0 x5_1).f0), .int .i64 ((ja l1_0 x5_1).f1), .int .i64 ((ja l1_0 x5_1).f2), .int .i64 ((ja l1_0 x5_1).f3), .bool ((ja l1_0 x5_1).f4)] 54 (0,0)) (Y44) hb);replace HB:=am (jf (Y15) hb);(try clear hb);(try clear hb2);(try clear hk);(try clear hi)))
       repeat (go_quiet (first |(go_at_call 97;(with_reducible refine (jGa.calls _ _ l0_0 ((ja l1_0 x5_1).f0) false _ ?side1 ?side2 A14.out).mono ?_);(case side1=>exact Kd.jaa HR0_0.out (Y15));(case side2=>exact HC0_0.out);rintro e w40 ⟨rfl,hb⟩;replace BK127:=am (je (g:=gb127) (o:=.cells #[.slice A0_0 l0_0.length c0_0] 37 (0,0)) (Y42) hb);replace BK128:=am (je (g:=gb128) (o:=.cells #[.slice (some ad129) l1_0.length c1_0] 32 (0,0)) (Y43) hb);replace BK130:=am (je (g:=gb130) (o:=.cells #[.int .i64 ((ja l1_0 x5_1).f0), .int .i64 ((ja l1_0 x5_1).f1), .int .i64 ((ja l1_0 x5_1).f2), .int .i64 ((ja l1_0 x5_1).f3), .bool ((ja l1_0 x5_1).f4)] 54 (0,0)) (Y44) hb);replace HB:=am (jf (Y15) hb);(try clear hb);(try clear hb2);(try clear hk);(try clear hi)));try go_wp2_with (first |(go_at_call 97;(with_reducible refine (jGa.calls _ _ l0_0 ((ja l1_0 x5_1).f0) false _ ?side1 ?side2 A14.out).mono ?_);(case side1=>exact Kd.jaa HR0_0.out (Y15));(case side2=>exact HC0_0.out);rintro e w40 ⟨rfl,hb⟩;replace BK127:=am (je (g:=gb127) (o:=.cells #[.slice A0_0 l0_0.length c0_0] 37 (0,0)) (Y42) hb);replace BK128:=am (je (g:=gb128) (o:=.cells #[.slice (some ad129) l1_0.length c1_0] 32 (0,0)) (Y43) hb);replace BK130:=am (je (g:=gb130) (o:=.cells #[.int .i64 ((ja l1_0 x5_1).f0), .int .i64 ((ja l1_0 x5_1).f1), .int .i64 ((ja l1_0 x5_1).f2), .int .i64 ((ja l1_0 x5_1).f3), .bool ((ja l1_0 x5_1).f4)] 54 (0,0)) (Y44) hb);replace HB:=am (jf (Y15) hb);(try clear hb);(try clear hb2);(try clear hk);(try clear hi))))
       go_meet
       case rel=>exact ⟨_,(true),(sq),H',⟨by have:=HK1.out;first | omega | exact Nat.le_refl _⟩,⟨kq BK127.out⟩,⟨kq BK128.out⟩,⟨kq BK130.out⟩,⟨Y15⟩⟩
     case rest =>
      clear HC7
      try clear c1
      try clear p1
      try clear q1
      try clear hx1
      try clear c2
      try clear p2
      try clear c3
      try clear c5
      try clear c5b0
      try clear c6
      try clear c6b0
      try clear c8
      try clear c11
      try clear c12
      try clear p12
      try clear q12
      try clear hx12
      try clear c15
      try clear c17
      try clear c19
      try clear c20
      try clear c22
      try clear c28
      try clear c29
      try clear c31
      try clear c35
      try clear c36
      try clear c38
      try clear hcz13_0
      try clear hcz13_1
      try clear hcz13_2
      try clear hcz13_3
      try clear hcz13_4
      try clear hcz21_0
      try clear hcz23_0
      try clear hcz23_1
      try clear hcz23_2
      try clear hcz23_3
      try clear hcz23_4
      try clear hcz25_0
      try clear hcz25_1
      try clear hcz25_2
      try clear hcz25_3
      try clear hcz25_4
      try clear hcz26_0
      try clear hcz30_0
      try clear hcz32_0
      try clear hcz32_1
      try clear hcz32_2
      try clear hcz32_3
      try clear hcz32_4
      try clear hcz34_0
      try clear hcz34_1
      try clear hcz34_2
      try clear hcz34_3
      try clear hcz34_4
      try clear hcz37_0
      try clear hcz39_0
      try clear hcz39_1
      try clear hcz39_2
      try clear hcz39_3
      try clear hcz39_4
      try clear hcz9_0
      try clear hfz13_0
      try clear hfz13_1
      try clear hfz13_2
      try clear hfz13_3
      try clear hfz13_4
      try clear hfz21_0
      try clear hfz23_0
      try clear hfz23_1
      try clear hfz23_2
      try clear hfz23_3
      try clear hfz23_4
      try clear hfz25_0
      try clear hfz25_1
      try clear hfz25_2
      try clear hfz25_3
      try clear hfz25_4
      try clear hfz26_0
      try clear hfz30_0
      try clear hfz32_0
      try clear hfz32_1
      try clear hfz32_2
      try clear hfz32_3
      try clear hfz32_4
      try clear hfz34_0
      try clear hfz34_1
      try clear hfz34_2
      try clear hfz34_3
      try clear hfz34_4
      try clear hfz37_0
      try clear hfz39_0
      try clear hfz39_1
      try clear hfz39_2
      try clear hfz39_3
      try clear hfz39_4
      try clear hfz9_0
      try clear hx129_0
      try clear hx129_1
      try clear hx129_2
      try clear hx129_3
      try clear hx129_4
      try clear p129
      try clear p2
      try clear q129
      obtain ⟨kq,x37_6,rfl,HA,HJ6,BK127,BK128,BK130,HB⟩:=hcut
      cases kq with
      | zero=>exact absurd HA.out (by simp [jE.j1])
      | succ kj6 =>
       have H:=HA.out
       clear HA
       simp only [jE.j1] at H
       by_cases c41:x37_6=true
       ·subst c41
        have H1:(some false)=some r:=by rw [if_pos rfl] at H;exact H
        clear H
        have H:=H1
        clear H1
        obtain rfl:=Option.some.inj H
        go_wp2
        repeat (go_quiet (fail);try go_wp2)
        go_ret
        exact ⟨Y1,Y15⟩
       ·replace c41:=Bool.eq_false_iff.mpr c41
        subst c41
        have H1:(jE.l0 kj6 (wrap64 (x5_1+1)) l0_0 l1_0)=some r:=by rw [if_neg (show ¬ (false=true) by decide)] at H;exact H
        clear H
        have H:=H1
        clear H1
        have H':=am H
        clear H
        go_wp2
        repeat (go_quiet (fail);try go_wp2)
        go_roundg kj6
        case measure=>have:=HK1.out;have:=HJ6.out;omega
        case rel=>exact ⟨(wrap64 (x5_1+1)),(sq),H',⟨by have:=HK1.out;have:=HJ6.out;omega⟩,⟨kq BK127.out⟩,⟨kq BK128.out⟩,⟨Y15⟩⟩
    ·rw [if_neg c6] at H
     exact absurd H (by simp)
   ·rw [if_neg c5] at H
    have c5b0:decide (x5_1<(l1_0.length:Int))=false:=dzF c5
    clear c5
    have H':=am H
    clear H
    have hnb42:=NB128_127.out
    have hnc42:=NB127_128.out
    have hcz43_0:=bc0 BK128.out
    have hfz43_0:=jb BK128.out 0
    go_wp2
    repeat (go_quiet (fail);try go_wp2)
    go_loopg [7] k1 (fun kq v7 w'=>∃ (x7_2:Int),v7=.int .i64 x7_2∧jC (jE.l1 kq x7_2 l0_0 l1_0=some r)∧jC (kq≤k1)∧jC (w'.heap[gb127]?=some (.cells #[(.slice A0_0 l0_0.length c0_0)] 37 (0,0)))∧jC (w'.heap[gb128]?=some (.cells #[(.slice A1_0 l1_0.length c1_0)] 32 (0,0)))∧jC (Below w.heap.size w w'))
    case atStart=>exact ⟨(0),(sq),H',⟨Nat.le_refl _⟩,⟨kq BK127.out⟩,⟨kq BK128.out⟩,⟨Y11⟩⟩
    case round =>
     clear H'
     try clear c1
     try clear p1
     try clear q1
     try clear hx1
     try clear c2
     try clear p2
     try clear c3
     try clear c4
     try clear c5
     try clear c5b0
     try clear c6
     try clear c6b0
     try clear p6
     try clear c8
     try clear c11
     try clear c12
     try clear p12
     try clear q12
     try clear hx12
     try clear c15
     try clear c17
     try clear c19
     try clear c20
     try clear c22
     try clear c28
     try clear c29
     try clear c31
     try clear c35
     try clear c36
     try clear c38
     try clear c41
     try clear c42
     try clear hcz13_0
     try clear hcz13_1
     try clear hcz13_2
     try clear hcz13_3
     try clear hcz13_4
     try clear hcz21_0
     try clear hcz23_0
     try clear hcz23_1
     try clear hcz23_2
     try clear hcz23_3
     try clear hcz23_4
     try clear hcz25_0
     try clear hcz25_1
     try clear hcz25_2
     try clear hcz25_3
     try clear hcz25_4
     try clear hcz26_0
     try clear hcz30_0
     try clear hcz32_0
     try clear hcz32_1
     try clear hcz32_2
     try clear hcz32_3
     try clear hcz32_4
     try clear hcz34_0
     try clear hcz34_1
     try clear hcz34_2
     try clear hcz34_3
     try clear hcz34_4
     try clear hcz37_0
     try clear hcz39_0
     try clear hcz39_1
     try clear hcz39_2
     try clear hcz39_3
     try clear hcz39_4
     try clear hcz43_0
     try clear hcz9_0
     try clear hfz13_0
     try clear hfz13_1
     try clear hfz13_2
     try clear hfz13_3
     try clear hfz13_4
     try clear hfz21_0
     try clear hfz23_0
     try clear hfz23_1
     try clear hfz23_2
     try clear hfz23_3
     try clear hfz23_4
     try clear hfz25_0
     try clear hfz25_1
     try clear hfz25_2
     try clear hfz25_3
     try clear hfz25_4
     try clear hfz26_0
     try clear hfz30_0
     try clear hfz32_0
     try clear hfz32_1
     try clear hfz32_2
     try clear hfz32_3
     try clear hfz32_4
     try clear hfz34_0
     try clear hfz34_1
     try clear hfz34_2
     try clear hfz34_3
     try clear hfz34_4
     try clear hfz37_0
     try clear hfz39_0
     try clear hfz39_1
     try clear hfz39_2
     try clear hfz39_3
     try clear hfz39_4
     try clear hfz43_0
     try clear hfz9_0
     try clear hx129_0
     try clear hx129_1
     try clear hx129_2
     try clear hx129_3
     try clear hx129_4
     try clear p1
     try clear p12
     try clear p129
     try clear p2
     try clear q1
     try clear q12
     try clear q129
     obtain ⟨x7_2,rfl,HA,HK2,BK127,BK128,HB⟩:=hrel
     cases gk with
     | zero=>exact absurd HA.out (by simp [jE.l1])
     | succ k2 =>
      have H:=HA.out
      clear HA
      simp only [jE.l1] at H
      by_cases c44:x7_2<(l1_0.length:Int)
      ·rw [if_pos c44] at H
       have c44b0:decide (x7_2<(l1_0.length:Int))=true:=dzT c44
       clear c44
       replace H:=bzS H
       obtain ⟨t135,A450,H⟩:=H
       replace H:(if 0≤(wrap64 ((t135.length:Int) - 1)) then (if (wrap64 ((t135.length:Int) - 1))<(t135.length:Int) then (if 0≤(rd t135 (wrap64 ((t135.length:Int) - 1))) then (if (rd t135 (wrap64 ((t135.length:Int) - 1)))<(l1_0.length:Int) then (if ((ja l1_0 (rd t135 (wrap64 ((t135.length:Int) - 1)))).f3)≥0 then (some false) else (jE.l1 k2 (wrap64 (x7_2+1)) l0_0 l1_0)) else (none)) else (none)) else (none)) else (none))=some r:=H
       have A45:=am A450
       clear A450
       obtain ⟨ji46,hji46⟩:∃ j_:Int,(wrap64 ((t135.length:Int) - 1))=j_:=⟨_,rfl⟩
       replace H:(if 0≤(ji46) then (if (ji46)<(t135.length:Int) then (if 0≤(rd t135 (ji46)) then (if (rd t135 (ji46))<(l1_0.length:Int) then (if ((ja l1_0 (rd t135 (ji46))).f3)≥0 then (some false) else (jE.l1 k2 (wrap64 (x7_2+1)) l0_0 l1_0)) else (none)) else (none)) else (none)) else (none))=some r:=by first |(rw [hji46] at H;exact H) |(simp only [hji46] at H ⊢;exact H)
       (try rw [hji46] at A45)
       have hji46w:(IntKind.i64.wrap ((t135.length:Int) - 1))=ji46:=(job _).trans hji46
       by_cases c47:0≤(ji46)
       ·rw [if_pos c47] at H
        have c47b0:decide (0≤(ji46))=true:=dzT c47
        clear c47
        by_cases c48:(ji46)<(t135.length:Int)
        ·rw [if_pos c48] at H
         have c48b0:decide ((ji46)<(t135.length:Int))=true:=dzT c48
         clear c48
         by_cases c49:0≤(rd t135 (ji46))
         ·rw [if_pos c49] at H
          have c49b0:decide (0≤(rd t135 (ji46)))=true:=dzT c49
          clear c49
          by_cases c50:(rd t135 (ji46))<(l1_0.length:Int)
          ·rw [if_pos c50] at H
           have c50b0:decide ((rd t135 (ji46))<(l1_0.length:Int))=true:=dzT c50
           clear c50
           by_cases c51:((ja l1_0 (rd t135 (ji46))).f3)≥0
           ·rw [if_pos c51] at H
            have c51b0:decide (0≤((ja l1_0 (rd t135 (ji46))).f3))=true:=dzT c51
            clear c51
            obtain rfl:=Option.some.inj H
            have hnb52:=NB128_127.out
            have hnc52:=NB127_128.out
            have hcz53_0:=bc0 BK128.out
            have hfz53_0:=jb BK128.out 0
            go_wp2_with (first |(go_at_call 58;(with_reducible refine (jka.calls k2 _ _ l1_0 x7_2 t135 _ ?side1 ?side2 A45.out).mono ?_);(case side1=>exact cq (Kd.jaa HR1_0.out HB.out));(case side2=>exact HC1_0.out);rintro e w54 ⟨v136,rfl,ho0,hb⟩;have HO137:=am (Kd.jia ho0 (jR (Y11)));replace BK127:=am (je (g:=gb127) (o:=.cells #[.slice A0_0 l0_0.length c0_0] 37 (0,0)) (kq BK127.out) hb);replace BK128:=am (je (g:=gb128) (o:=.cells #[.slice A1_0 l1_0.length c1_0] 32 (0,0)) (kq BK128.out) hb);replace HB:=am (jf (Y11) hb);(try clear hb);(try clear hb2);(try clear hk);(try clear hi);(try clear ho0);have hcz55_0:=bc0 BK128.out;have hfz55_0:=jb BK128.out 0;obtain ⟨Ao56,co56,eo56⟩:=Kd.jZ HO137.out;subst eo56;have p138:0≤((ji46):Int):=ozD (uq);have q138:(ji46)<(t135.length:Int):=ozD (uq);obtain ⟨ad138,e138,hx138_0⟩:=Kd.jCb (Kd.jB HO137.out).2.2 (ji46) p138 q138;cases e138;replace p138:=ezT p138;replace q138:=ezT q138;have p139:0≤((rd t135 (ji46)):Int):=ozD (uq);have q139:(rd t135 (ji46))<(l1_0.length:Int):=ozD (uq);obtain ⟨ad139,e139,hx139_0,hx139_1,hx139_2,hx139_3,hx139_4⟩:=jdb HR1_0.out (rd t135 (ji46)) p139 q139;cases e139;replace hx139_0:=cb HB.out hx139_0;replace hx139_1:=cb HB.out hx139_1;replace hx139_2:=cb HB.out hx139_2;replace hx139_3:=cb HB.out hx139_3;replace hx139_4:=cb HB.out hx139_4;replace p139:=ezT p139;replace q139:=ezT q139))
            repeat (go_quiet (first |(go_at_call 58;(with_reducible refine (jka.calls k2 _ _ l1_0 x7_2 t135 _ ?side1 ?side2 A45.out).mono ?_);(case side1=>exact cq (Kd.jaa HR1_0.out HB.out));(case side2=>exact HC1_0.out);rintro e w54 ⟨v136,rfl,ho0,hb⟩;have HO137:=am (Kd.jia ho0 (jR (Y11)));replace BK127:=am (je (g:=gb127) (o:=.cells #[.slice A0_0 l0_0.length c0_0] 37 (0,0)) (kq BK127.out) hb);replace BK128:=am (je (g:=gb128) (o:=.cells #[.slice A1_0 l1_0.length c1_0] 32 (0,0)) (kq BK128.out) hb);replace HB:=am (jf (Y11) hb);(try clear hb);(try clear hb2);(try clear hk);(try clear hi);(try clear ho0);have hcz55_0:=bc0 BK128.out;have hfz55_0:=jb BK128.out 0;obtain ⟨Ao56,co56,eo56⟩:=Kd.jZ HO137.out;subst eo56;have p138:0≤((ji46):Int):=ozD (uq);have q138:(ji46)<(t135.length:Int):=ozD (uq);obtain ⟨ad138,e138,hx138_0⟩:=Kd.jCb (Kd.jB HO137.out).2.2 (ji46) p138 q138;cases e138;replace p138:=ezT p138;replace q138:=ezT q138;have p139:0≤((rd t135 (ji46)):Int):=ozD (uq);have q139:(rd t135 (ji46))<(l1_0.length:Int):=ozD (uq);obtain ⟨ad139,e139,hx139_0,hx139_1,hx139_2,hx139_3,hx139_4⟩:=jdb HR1_0.out (rd t135 (ji46)) p139 q139;cases e139;replace hx139_0:=cb HB.out hx139_0;replace hx139_1:=cb HB.out hx139_1;replace hx139_2:=cb HB.out hx139_2;replace hx139_3:=cb HB.out hx139_3;replace hx139_4:=cb HB.out hx139_4;replace p139:=ezT p139;replace q139:=ezT q139));try go_wp2_with (first |(go_at_call 58;(with_reducible refine (jka.calls k2 _ _ l1_0 x7_2 t135 _ ?side1 ?side2 A45.out).mono ?_);(case side1=>exact cq (Kd.jaa HR1_0.out HB.out));(case side2=>exact HC1_0.out);rintro e w54 ⟨v136,rfl,ho0,hb⟩;have HO137:=am (Kd.jia ho0 (jR (Y11)));replace BK127:=am (je (g:=gb127) (o:=.cells #[.slice A0_0 l0_0.length c0_0] 37 (0,0)) (kq BK127.out) hb);replace BK128:=am (je (g:=gb128) (o:=.cells #[.slice A1_0 l1_0.length c1_0] 32 (0,0)) (kq BK128.out) hb);replace HB:=am (jf (Y11) hb);(try clear hb);(try clear hb2);(try clear hk);(try clear hi);(try clear ho0);have hcz55_0:=bc0 BK128.out;have hfz55_0:=jb BK128.out 0;obtain ⟨Ao56,co56,eo56⟩:=Kd.jZ HO137.out;subst eo56;have p138:0≤((ji46):Int):=ozD (uq);have q138:(ji46)<(t135.length:Int):=ozD (uq);obtain ⟨ad138,e138,hx138_0⟩:=Kd.jCb (Kd.jB HO137.out).2.2 (ji46) p138 q138;cases e138;replace p138:=ezT p138;replace q138:=ezT q138;have p139:0≤((rd t135 (ji46)):Int):=ozD (uq);have q139:(rd t135 (ji46))<(l1_0.length:Int):=ozD (uq);obtain ⟨ad139,e139,hx139_0,hx139_1,hx139_2,hx139_3,hx139_4⟩:=jdb HR1_0.out (rd t135 (ji46)) p139 q139;cases e139;replace hx139_0:=cb HB.out hx139_0;replace hx139_1:=cb HB.out hx139_1;replace hx139_2:=cb HB.out hx139_2;replace hx139_3:=cb HB.out hx139_3;replace hx139_4:=cb HB.out hx139_4;replace p139:=ezT p139;replace q139:=ezT q139)))
            go_ret
            exact ⟨by first | rfl |(simp [jub,jtb] <;> rfl) |(simp only [← hji46];first | rfl |(simp [jub,jtb] <;> rfl)) |(simp [*,jub,jtb] <;> rfl),Y11⟩
           ·rw [if_neg c51] at H
            have c51b0:decide (0≤((ja l1_0 (rd t135 (ji46))).f3))=false:=dzF c51
            clear c51
            have H':=am H
            clear H
            have hnb57:=NB128_127.out
            have hnc57:=NB127_128.out
            have hcz58_0:=bc0 BK128.out
            have hfz58_0:=jb BK128.out 0
            go_wp2_with (first |(go_at_call 58;(with_reducible refine (jka.calls k2 _ _ l1_0 x7_2 t135 _ ?side1 ?side2 A45.out).mono ?_);(case side1=>exact cq (Kd.jaa HR1_0.out HB.out));(case side2=>exact HC1_0.out);rintro e w59 ⟨v136,rfl,ho0,hb⟩;have HO137:=am (Kd.jia ho0 (jR (Y11)));replace BK127:=am (je (g:=gb127) (o:=.cells #[.slice A0_0 l0_0.length c0_0] 37 (0,0)) (kq BK127.out) hb);replace BK128:=am (je (g:=gb128) (o:=.cells #[.slice A1_0 l1_0.length c1_0] 32 (0,0)) (kq BK128.out) hb);replace HB:=am (jf (Y11) hb);(try clear hb);(try clear hb2);(try clear hk);(try clear hi);(try clear ho0);have hcz60_0:=bc0 BK128.out;have hfz60_0:=jb BK128.out 0;obtain ⟨Ao61,co61,eo61⟩:=Kd.jZ HO137.out;subst eo61;have p138:0≤((ji46):Int):=ozD (uq);have q138:(ji46)<(t135.length:Int):=ozD (uq);obtain ⟨ad138,e138,hx138_0⟩:=Kd.jCb (Kd.jB HO137.out).2.2 (ji46) p138 q138;cases e138;replace p138:=ezT p138;replace q138:=ezT q138;have p139:0≤((rd t135 (ji46)):Int):=ozD (uq);have q139:(rd t135 (ji46))<(l1_0.length:Int):=ozD (uq);obtain ⟨ad139,e139,hx139_0,hx139_1,hx139_2,hx139_3,hx139_4⟩:=jdb HR1_0.out (rd t135 (ji46)) p139 q139;cases e139;replace hx139_0:=cb HB.out hx139_0;replace hx139_1:=cb HB.out hx139_1;replace hx139_2:=cb HB.out hx139_2;replace hx139_3:=cb HB.out hx139_3;replace hx139_4:=cb HB.out hx139_4;replace p139:=ezT p139;replace q139:=ezT q139))
            repeat (go_quiet (first |(go_at_call 58;(with_reducible refine (jka.calls k2 _ _ l1_0 x7_2 t135 _ ?side1 ?side2 A45.out).mono ?_);(case side1=>exact cq (Kd.jaa HR1_0.out HB.out));(case side2=>exact HC1_0.out);rintro e w59 ⟨v136,rfl,ho0,hb⟩;have HO137:=am (Kd.jia ho0 (jR (Y11)));replace BK127:=am (je (g:=gb127) (o:=.cells #[.slice A0_0 l0_0.length c0_0] 37 (0,0)) (kq BK127.out) hb);replace BK128:=am (je (g:=gb128) (o:=.cells #[.slice A1_0 l1_0.length c1_0] 32 (0,0)) (kq BK128.out) hb);replace HB:=am (jf (Y11) hb);(try clear hb);(try clear hb2);(try clear hk);(try clear hi);(try clear ho0);have hcz60_0:=bc0 BK128.out;have hfz60_0:=jb BK128.out 0;obtain ⟨Ao61,co61,eo61⟩:=Kd.jZ HO137.out;subst eo61;have p138:0≤((ji46):Int):=ozD (uq);have q138:(ji46)<(t135.length:Int):=ozD (uq);obtain ⟨ad138,e138,hx138_0⟩:=Kd.jCb (Kd.jB HO137.out).2.2 (ji46) p138 q138;cases e138;replace p138:=ezT p138;replace q138:=ezT q138;have p139:0≤((rd t135 (ji46)):Int):=ozD (uq);have q139:(rd t135 (ji46))<(l1_0.length:Int):=ozD (uq);obtain ⟨ad139,e139,hx139_0,hx139_1,hx139_2,hx139_3,hx139_4⟩:=jdb HR1_0.out (rd t135 (ji46)) p139 q139;cases e139;replace hx139_0:=cb HB.out hx139_0;replace hx139_1:=cb HB.out hx139_1;replace hx139_2:=cb HB.out hx139_2;replace hx139_3:=cb HB.out hx139_3;replace hx139_4:=cb HB.out hx139_4;replace p139:=ezT p139;replace q139:=ezT q139));try go_wp2_with (first |(go_at_call 58;(with_reducible refine (jka.calls k2 _ _ l1_0 x7_2 t135 _ ?side1 ?side2 A45.out).mono ?_);(case side1=>exact cq (Kd.jaa HR1_0.out HB.out));(case side2=>exact HC1_0.out);rintro e w59 ⟨v136,rfl,ho0,hb⟩;have HO137:=am (Kd.jia ho0 (jR (Y11)));replace BK127:=am (je (g:=gb127) (o:=.cells #[.slice A0_0 l0_0.length c0_0] 37 (0,0)) (kq BK127.out) hb);replace BK128:=am (je (g:=gb128) (o:=.cells #[.slice A1_0 l1_0.length c1_0] 32 (0,0)) (kq BK128.out) hb);replace HB:=am (jf (Y11) hb);(try clear hb);(try clear hb2);(try clear hk);(try clear hi);(try clear ho0);have hcz60_0:=bc0 BK128.out;have hfz60_0:=jb BK128.out 0;obtain ⟨Ao61,co61,eo61⟩:=Kd.jZ HO137.out;subst eo61;have p138:0≤((ji46):Int):=ozD (uq);have q138:(ji46)<(t135.length:Int):=ozD (uq);obtain ⟨ad138,e138,hx138_0⟩:=Kd.jCb (Kd.jB HO137.out).2.2 (ji46) p138 q138;cases e138;replace p138:=ezT p138;replace q138:=ezT q138;have p139:0≤((rd t135 (ji46)):Int):=ozD (uq);have q139:(rd t135 (ji46))<(l1_0.length:Int):=ozD (uq);obtain ⟨ad139,e139,hx139_0,hx139_1,hx139_2,hx139_3,hx139_4⟩:=jdb HR1_0.out (rd t135 (ji46)) p139 q139;cases e139;replace hx139_0:=cb HB.out hx139_0;replace hx139_1:=cb HB.out hx139_1;replace hx139_2:=cb HB.out hx139_2;replace hx139_3:=cb HB.out hx139_3;replace hx139_4:=cb HB.out hx139_4;replace p139:=ezT p139;replace q139:=ezT q139)))
            go_roundg k2
            case measure=>have:=HK1.out;have:=HK2.out;omega
            case rel=>exact ⟨(wrap64 (x7_2+1)),(sq),H',⟨by have:=HK1.out;have:=HK2.out;omega⟩,⟨kq BK127.out⟩,⟨kq BK128.out⟩,⟨Y11⟩⟩
          ·rw [if_neg c50] at H
           exact absurd H (by simp)
         ·rw [if_neg c49] at H
          exact absurd H (by simp)
        ·rw [if_neg c48] at H
         exact absurd H (by simp)
       ·rw [if_neg c47] at H
        exact absurd H (by simp)
      ·rw [if_neg c44] at H
       have c44b0:decide (x7_2<(l1_0.length:Int))=false:=dzF c44
       clear c44
       replace H:=bzS H
       obtain ⟨t134,A620,H⟩:=H
       replace H:(if t134=true then (some (decide ((l1_0.length:Int)≤24))) else (some false))=some r:=H
       have A62:=am A620
       clear A620
       by_cases c63:t134=true
       ·subst c63
        have H1:(some (decide ((l1_0.length:Int)≤24)))=some r:=by rw [if_pos rfl] at H;exact H
        clear H
        have H:=H1
        clear H1
        obtain rfl:=Option.some.inj H
        have hnb64:=NB128_127.out
        have hnc64:=NB127_128.out
        have hcz65_0:=bc0 BK128.out
        have hfz65_0:=jb BK128.out 0
        have hcz66_0:=bc0 BK127.out
        have hfz66_0:=jb BK127.out 0
        go_wp2_with (first |(go_at_call 100;(with_reducible refine (jI.calls k2 _ _ l0_0 true _ ?side1 ?side2 A62.out).mono ?_);(case side1=>exact cq (Kd.jaa HR0_0.out HB.out));(case side2=>exact HC0_0.out);rintro e w67 ⟨rfl,hb⟩;replace BK127:=am (je (g:=gb127) (o:=.cells #[.slice A0_0 l0_0.length c0_0] 37 (0,0)) (kq BK127.out) hb);replace BK128:=am (je (g:=gb128) (o:=.cells #[.slice A1_0 l1_0.length c1_0] 32 (0,0)) (kq BK128.out) hb);replace HB:=am (jf (Y11) hb);(try clear hb);(try clear hb2);(try clear hk);(try clear hi);have hcz68_0:=bc0 BK128.out;have hfz68_0:=jb BK128.out 0))
        repeat (go_quiet (first |(go_at_call 100;(with_reducible refine (jI.calls k2 _ _ l0_0 true _ ?side1 ?side2 A62.out).mono ?_);(case side1=>exact cq (Kd.jaa HR0_0.out HB.out));(case side2=>exact HC0_0.out);rintro e w67 ⟨rfl,hb⟩;replace BK127:=am (je (g:=gb127) (o:=.cells #[.slice A0_0 l0_0.length c0_0] 37 (0,0)) (kq BK127.out) hb);replace BK128:=am (je (g:=gb128) (o:=.cells #[.slice A1_0 l1_0.length c1_0] 32 (0,0)) (kq BK128.out) hb);replace HB:=am (jf (Y11) hb);(try clear hb);(try clear hb2);(try clear hk);(try clear hi);have hcz68_0:=bc0 BK128.out;have hfz68_0:=jb BK128.out 0));try go_wp2_with (first |(go_at_call 100;(with_reducible refine (jI.calls k2 _ _ l0_0 true _ ?side1 ?side2 A62.out).mono ?_);(case side1=>exact cq (Kd.jaa HR0_0.out HB.out));(case side2=>exact HC0_0.out);rintro e w67 ⟨rfl,hb⟩;replace BK127:=am (je (g:=gb127) (o:=.cells #[.slice A0_0 l0_0.length c0_0] 37 (0,0)) (kq BK127.out) hb);replace BK128:=am (je (g:=gb128) (o:=.cells #[.slice A1_0 l1_0.length c1_0] 32 (0,0)) (kq BK128.out) hb);replace HB:=am (jf (Y11) hb);(try clear hb);(try clear hb2);(try clear hk);(try clear hi);have hcz68_0:=bc0 BK128.out;have hfz68_0:=jb BK128.out 0)))
        go_ret
        exact ⟨Y1,Y11⟩
       ·replace c63:=Bool.eq_false_iff.mpr c63
        subst c63
        have H1:(some false)=some r:=by rw [if_neg (show ¬ (false=true) by decide)] at H;exact H
        clear H
        have H:=H1
        clear H1
        obtain rfl:=Option.some.inj H
        have hnb69:=NB128_127.out
        have hnc69:=NB127_128.out
        have hcz70_0:=bc0 BK128.out
        have hfz70_0:=jb BK128.out 0
        have hcz71_0:=bc0 BK127.out
        have hfz71_0:=jb BK127.out 0
        go_wp2_with (first |(go_at_call 100;(with_reducible refine (jI.calls k2 _ _ l0_0 false _ ?side1 ?side2 A62.out).mono ?_);(case side1=>exact cq (Kd.jaa HR0_0.out HB.out));(case side2=>exact HC0_0.out);rintro e w72 ⟨rfl,hb⟩;replace BK127:=am (je (g:=gb127) (o:=.cells #[.slice A0_0 l0_0.length c0_0] 37 (0,0)) (kq BK127.out) hb);replace BK128:=am (je (g:=gb128) (o:=.cells #[.slice A1_0 l1_0.length c1_0] 32 (0,0)) (kq BK128.out) hb);replace HB:=am (jf (Y11) hb);(try clear hb);(try clear hb2);(try clear hk);(try clear hi)))
        repeat (go_quiet (first |(go_at_call 100;(with_reducible refine (jI.calls k2 _ _ l0_0 false _ ?side1 ?side2 A62.out).mono ?_);(case side1=>exact cq (Kd.jaa HR0_0.out HB.out));(case side2=>exact HC0_0.out);rintro e w72 ⟨rfl,hb⟩;replace BK127:=am (je (g:=gb127) (o:=.cells #[.slice A0_0 l0_0.length c0_0] 37 (0,0)) (kq BK127.out) hb);replace BK128:=am (je (g:=gb128) (o:=.cells #[.slice A1_0 l1_0.length c1_0] 32 (0,0)) (kq BK128.out) hb);replace HB:=am (jf (Y11) hb);(try clear hb);(try clear hb2);(try clear hk);(try clear hi)));try go_wp2_with (first |(go_at_call 100;(with_reducible refine (jI.calls k2 _ _ l0_0 false _ ?side1 ?side2 A62.out).mono ?_);(case side1=>exact cq (Kd.jaa HR0_0.out HB.out));(case side2=>exact HC0_0.out);rintro e w72 ⟨rfl,hb⟩;replace BK127:=am (je (g:=gb127) (o:=.cells #[.slice A0_0 l0_0.length c0_0] 37 (0,0)) (kq BK127.out) hb);replace BK128:=am (je (g:=gb128) (o:=.cells #[.slice A1_0 l1_0.length c1_0] 32 (0,0)) (kq BK128.out) hb);replace HB:=am (jf (Y11) hb);(try clear hb);(try clear hb2);(try clear hk);(try clear hi))))
        go_ret
        exact ⟨Y1,Y11⟩
def jhb.f (l0_0 : List (S54)) (a1 : Int) : Option (Bool) := (jM.f a1 0 (wrap64 ((l0_0.length : Int) - 1))).bind fun t141 => (some t141)
set_option maxHeartbeats 8000000 in
set_option maxRecDepth 100000 in
theorem jhb.calls (A0_0 : Option Addr) (c0_0 : Nat) (l0_0 : List (S54)) (a1 : Int) (r : Bool) (w : World) (hr0_0 : Kd.C k54 w A0_0 l0_0.length l0_0) (hc0_0 : l0_0.length ≤ c0_0) (h : jhb.f l0_0 a1 = some r) :
  Calls Try.prog 69 #[.agg #[.slice A0_0 l0_0.length c0_0], .int .i64 a1] w fun e w'=>e=.returned (.bool r)∧Below w.heap.size w w':=by
 have hu32:=Try.underlying32
 have HR0_0:=am hr0_0
 have HC0_0:=am hc0_0
 clear hr0_0 hc0_0
 have HB:=am (Below.refl w.heap.size w)
 have H:((jM.f a1 0 (wrap64 ((l0_0.length:Int) - 1))).bind fun t141=>(some t141))=some r:=h
 clear h
 replace H:=bzS H
 obtain ⟨t141,A30,H⟩:=H
 replace H:(some t141)=some r:=H
 have A3:=am A30
 clear A30
 obtain rfl:=Option.some.inj H
 go_enter Try.func69,Try.ntmps69
 go_wp2_with (first |((with_reducible refine jD (N:=2) rfl ?_);refine bE (N:=2) (cs:=#[.slice A0_0 l0_0.length c0_0]) (t:=32) ?_;intro gb140 hg w4 hbox hb;have BK140:=am (hbox);have GW140:=am ((Y0:w.heap.size≤gb140));have GE140:=am ((Y0:w.heap.size≤gb140));replace HB:=am (jf (bq) hb);clear hb hbox hg;have hcz5_0:=bc0 BK140.out;have hfz5_0:=jb BK140.out 0) |((with_reducible refine jy (f:=98) rfl ?_);refine gL (some 10) Try.func98 #[.int .i64 a1, .int .i64 0, .int .i64 (wrap64 ((l0_0.length:Int) - 1))] ?_;(with_reducible refine (jM.calls a1 0 (wrap64 ((l0_0.length:Int) - 1)) t141 _ A3.out).mono ?_);rintro e w' ⟨rfl,⟨nd,rfl⟩⟩;refine ⟨_,rfl,?_⟩))
 go_ret
 exact ⟨Y1,by repeat (first |(with_reducible first | exact HB.out | apply jw | apply jo | apply jr | refine jm ?_ GE140.out) | exact HB.out)⟩
def jab.f (k : Nat) (l0_0 : List (S94)) (l1_0 : List (S54)) (a2 : Int) : Option (Bool) := (jE.f k l0_0 l1_0).bind fun t144 => (if t144 = true then ((jhb.f l1_0 a2).bind fun t145 => (some t145)) else (some false))
set_option maxHeartbeats 8000000 in
set_option maxRecDepth 100000 in
theorem jab.calls (k : Nat) (A0_0 : Option Addr) (c0_0 : Nat) (l0_0 : List (S94)) (A1_0 : Option Addr) (c1_0 : Nat) (l1_0 : List (S54)) (a2 : Int) (r : Bool) (w : World) (hr0_0 : Kd.C k94 w A0_0 l0_0.length l0_0) (hc0_0 : l0_0.length ≤ c0_0) (hr1_0 : Kd.C k54 w A1_0 l1_0.length l1_0) (hc1_0 : l1_0.length ≤ c1_0) (h : jab.f k l0_0 l1_0 a2 = some r) :
  Calls Try.prog 41 #[.agg #[.slice A0_0 l0_0.length c0_0], .agg #[.slice A1_0 l1_0.length c1_0], .int .i64 a2] w fun e w'=>e=.returned (.bool r)∧Below w.heap.size w w':=by
 have hu37:=Try.underlying37
 have hu32:=Try.underlying32
 have HR0_0:=am hr0_0
 have HC0_0:=am hc0_0
 clear hr0_0 hc0_0
 have HR1_0:=am hr1_0
 have HC1_0:=am hc1_0
 clear hr1_0 hc1_0
 have HB:=am (Below.refl w.heap.size w)
 have H:((jE.f k l0_0 l1_0).bind fun t144=>(if t144=true then ((jhb.f l1_0 a2).bind fun t145=>(some t145)) else (some false)))=some r:=h
 clear h
 replace H:=bzS H
 obtain ⟨t144,A40,H⟩:=H
 replace H:(if t144=true then ((jhb.f l1_0 a2).bind fun t145=>(some t145)) else (some false))=some r:=H
 have A4:=am A40
 clear A40
 by_cases c5:t144=true
 ·subst c5
  have H1:((jhb.f l1_0 a2).bind fun t145=>(some t145))=some r:=by rw [if_pos rfl] at H;exact H
  clear H
  have H:=H1
  clear H1
  replace H:=bzS H
  obtain ⟨t145,A60,H⟩:=H
  replace H:(some t145)=some r:=H
  have A6:=am A60
  clear A60
  obtain rfl:=Option.some.inj H
  go_enter Try.func41,Try.ntmps41
  go_wp2_with (first |((with_reducible refine jD (N:=3) rfl ?_);refine bE (N:=3) (cs:=#[.slice A0_0 l0_0.length c0_0]) (t:=37) ?_;intro gb142 hg w7 hbox hb;have BK142:=am (hbox);have GW142:=am ((Y0:w.heap.size≤gb142));have GE142:=am ((Y0:w.heap.size≤gb142));replace HB:=am (jf (bq) hb);clear hb hbox hg) |((with_reducible refine jD (N:=4) rfl ?_);refine bE (N:=4) (cs:=#[.slice A1_0 l1_0.length c1_0]) (t:=32) ?_;intro gb143 hg w8 hbox hb;have BK143:=am (hbox);have GW143:=am ((Y107:w.heap.size≤gb143));have GE143:=am ((Y107:w.heap.size≤gb143));have NB142_143:=am ((by rw [hg];exact Nat.ne_of_lt (jca (g:=gb142) (o:=.cells #[.slice A0_0 l0_0.length c0_0] 37 (0,0)) (kq BK142.out)):gb142≠gb143));have NB143_142:=am ((by rw [hg];exact Nat.ne_of_gt (jca (g:=gb142) (o:=.cells #[.slice A0_0 l0_0.length c0_0] 37 (0,0)) (kq BK142.out)):gb143≠gb142));replace BK142:=am (je (g:=gb142) (o:=.cells #[.slice A0_0 l0_0.length c0_0] 37 (0,0)) (kq BK142.out) hb);replace HB:=am (jf (Y165) hb);clear hb hbox hg;have hnb9:=NB142_143.out;have hnc9:=NB143_142.out;have hcz10_0:=bc0 BK142.out;have hfz10_0:=jb BK142.out 0;have hcz11_0:=bc0 BK143.out;have hfz11_0:=jb BK143.out 0) |((with_reducible refine jy (f:=66) rfl ?_);refine gL (some 9) Try.func66 #[.agg #[.slice A0_0 l0_0.length c0_0], .agg #[.slice A1_0 l1_0.length c1_0]] ?_;(with_reducible refine (jE.calls k _ _ l0_0 _ _ l1_0 true _ ?side1 ?side2 ?side3 ?side4 A4.out).mono ?_);(case side1=>exact cq (Kd.jaa HR0_0.out HB.out));(case side2=>exact HC0_0.out);(case side3=>exact cq (Kd.jaa HR1_0.out HB.out));(case side4=>exact HC1_0.out);rintro e w12 ⟨rfl,hb⟩;refine ⟨_,rfl,?_⟩;replace BK142:=am (je (g:=gb142) (o:=.cells #[.slice A0_0 l0_0.length c0_0] 37 (0,0)) (kq BK142.out) hb);replace BK143:=am (je (g:=gb143) (o:=.cells #[.slice A1_0 l1_0.length c1_0] 32 (0,0)) (kq BK143.out) hb);replace HB:=am (jf (Y89) hb);(try clear hb);(try clear hb2);(try clear hk);(try clear hi);have hcz13_0:=bc0 BK143.out;have hfz13_0:=jb BK143.out 0) |(go_at_call 69;(with_reducible refine (jhb.calls _ _ l1_0 a2 t145 _ ?side1 ?side2 A6.out).mono ?_);(case side1=>exact cq (Kd.jaa HR1_0.out HB.out));(case side2=>exact HC1_0.out);rintro e w14 ⟨rfl,hb⟩;replace BK142:=am (je (g:=gb142) (o:=.cells #[.slice A0_0 l0_0.length c0_0] 37 (0,0)) (kq BK142.out) hb);replace BK143:=am (je (g:=gb143) (o:=.cells #[.slice A1_0 l1_0.length c1_0] 32 (0,0)) (kq BK143.out) hb);replace HB:=am (jf (Y89) hb);(try clear hb);(try clear hb2);(try clear hk);(try clear hi)))
  go_ret
  exact ⟨Y1,Y89⟩
 ·replace c5:=Bool.eq_false_iff.mpr c5
  subst c5
  have H1:(some false)=some r:=by rw [if_neg (show ¬ (false=true) by decide)] at H;exact H
  clear H
  have H:=H1
  clear H1
  obtain rfl:=Option.some.inj H
  go_enter Try.func41,Try.ntmps41
  go_wp2_with (first |((with_reducible refine jD (N:=3) rfl ?_);refine bE (N:=3) (cs:=#[.slice A0_0 l0_0.length c0_0]) (t:=37) ?_;intro gb142 hg w15 hbox hb;have BK142:=am (hbox);have GW142:=am ((Y0:w.heap.size≤gb142));have GE142:=am ((Y0:w.heap.size≤gb142));replace HB:=am (jf (bq) hb);clear hb hbox hg) |((with_reducible refine jD (N:=4) rfl ?_);refine bE (N:=4) (cs:=#[.slice A1_0 l1_0.length c1_0]) (t:=32) ?_;intro gb143 hg w16 hbox hb;have BK143:=am (hbox);have GW143:=am ((Y107:w.heap.size≤gb143));have GE143:=am ((Y107:w.heap.size≤gb143));have NB142_143:=am ((by rw [hg];exact Nat.ne_of_lt (jca (g:=gb142) (o:=.cells #[.slice A0_0 l0_0.length c0_0] 37 (0,0)) (kq BK142.out)):gb142≠gb143));have NB143_142:=am ((by rw [hg];exact Nat.ne_of_gt (jca (g:=gb142) (o:=.cells #[.slice A0_0 l0_0.length c0_0] 37 (0,0)) (kq BK142.out)):gb143≠gb142));replace BK142:=am (je (g:=gb142) (o:=.cells #[.slice A0_0 l0_0.length c0_0] 37 (0,0)) (kq BK142.out) hb);replace HB:=am (jf (Y165) hb);clear hb hbox hg;have hnb17:=NB142_143.out;have hnc17:=NB143_142.out;have hcz18_0:=bc0 BK142.out;have hfz18_0:=jb BK142.out 0;have hcz19_0:=bc0 BK143.out;have hfz19_0:=jb BK143.out 0) |((with_reducible refine jy (f:=66) rfl ?_);refine gL (some 9) Try.func66 #[.agg #[.slice A0_0 l0_0.length c0_0], .agg #[.slice A1_0 l1_0.length c1_0]] ?_;(with_reducible refine (jE.calls k _ _ l0_0 _ _ l1_0 false _ ?side1 ?side2 ?side3 ?side4 A4.out).mono ?_);(case side1=>exact cq (Kd.jaa HR0_0.out HB.out));(case side2=>exact HC0_0.out);(case side3=>exact cq (Kd.jaa HR1_0.out HB.out));(case side4=>exact HC1_0.out);rintro e w20 ⟨rfl,hb⟩;refine ⟨_,rfl,?_⟩;replace BK142:=am (je (g:=gb142) (o:=.cells #[.slice A0_0 l0_0.length c0_0] 37 (0,0)) (kq BK142.out) hb);replace BK143:=am (je (g:=gb143) (o:=.cells #[.slice A1_0 l1_0.length c1_0] 32 (0,0)) (kq BK143.out) hb);replace HB:=am (jf (Y89) hb);(try clear hb);(try clear hb2);(try clear hk);(try clear hi)))
  go_ret
  exact ⟨Y1,Y89⟩

def jFa.f (k : Nat) (l0_0 : List (S94)) (l1_0 : List (S54)) (a2 : Int) : Option (Int) := (jab.f k l0_0 l1_0 a2).bind fun t784 => (if t784 = true then ((jWa.f l1_0 a2).bind fun t785 => (some t785)) else (some (-2)))
set_option maxHeartbeats 8000000 in
set_option maxRecDepth 100000 in
theorem jFa.calls (k : Nat) (A0_0 : Option Addr) (c0_0 : Nat) (l0_0 : List (S94)) (A1_0 : Option Addr) (c1_0 : Nat) (l1_0 : List (S54)) (a2 : Int) (r : Int) (w : World) (hr0_0 : Kd.C k94 w A0_0 l0_0.length l0_0) (hc0_0 : l0_0.length ≤ c0_0) (hr1_0 : Kd.C k54 w A1_0 l1_0.length l1_0) (hc1_0 : l1_0.length ≤ c1_0) (h : jFa.f k l0_0 l1_0 a2 = some r) :
  Calls Try.prog 32 #[.agg #[.slice A0_0 l0_0.length c0_0], .agg #[.slice A1_0 l1_0.length c1_0], .int .i64 a2] w fun e w'=>e=.returned (.int .i64 r)∧Below w.heap.size w w':=by
 have hu37:=Try.underlying37
 have hu32:=Try.underlying32
 have HR0_0:=am hr0_0
 have HC0_0:=am hc0_0
 clear hr0_0 hc0_0
 have HR1_0:=am hr1_0
 have HC1_0:=am hc1_0
 clear hr1_0 hc1_0
 have HB:=am (Below.refl w.heap.size w)
 have H:((jab.f k l0_0 l1_0 a2).bind fun t784=>(if t784=true then ((jWa.f l1_0 a2).bind fun t785=>(some t785)) else (some (-2))))=some r:=h
 clear h
 replace H:=bzS H
 obtain ⟨t784,A40,H⟩:=H
 replace H:(if t784=true then ((jWa.f l1_0 a2).bind fun t785=>(some t785)) else (some (-2)))=some r:=H
 have A4:=am A40
 clear A40
 by_cases c5:t784=true
 ·subst c5
  have H1:((jWa.f l1_0 a2).bind fun t785=>(some t785))=some r:=by rw [if_pos rfl] at H;exact H
  clear H
  have H:=H1
  clear H1
  replace H:=bzS H
  obtain ⟨t785,A60,H⟩:=H
  replace H:(some t785)=some r:=H
  have A6:=am A60
  clear A60
  obtain rfl:=Option.some.inj H
  go_enter Try.func32,Try.ntmps32
  go_wp2_with (first |((with_reducible refine jD (N:=3) rfl ?_);refine bE (N:=3) (cs:=#[.slice A0_0 l0_0.length c0_0]) (t:=37) ?_;intro gb782 hg w7 hbox hb;have BK782:=am (hbox);have GW782:=am ((Y0:w.heap.size≤gb782));have GE782:=am ((Y0:w.heap.size≤gb782));replace HB:=am (jf (bq) hb);clear hb hbox hg) |((with_reducible refine jD (N:=4) rfl ?_);refine bE (N:=4) (cs:=#[.slice A1_0 l1_0.length c1_0]) (t:=32) ?_;intro gb783 hg w8 hbox hb;have BK783:=am (hbox);have GW783:=am ((Y108:w.heap.size≤gb783));have GE783:=am ((Y108:w.heap.size≤gb783));have NB782_783:=am ((by rw [hg];exact Nat.ne_of_lt (jca (g:=gb782) (o:=.cells #[.slice A0_0 l0_0.length c0_0] 37 (0,0)) (kq BK782.out)):gb782≠gb783));have NB783_782:=am ((by rw [hg];exact Nat.ne_of_gt (jca (g:=gb782) (o:=.cells #[.slice A0_0 l0_0.length c0_0] 37 (0,0)) (kq BK782.out)):gb783≠gb782));replace BK782:=am (je (g:=gb782) (o:=.cells #[.slice A0_0 l0_0.length c0_0] 37 (0,0)) (kq BK782.out) hb);replace HB:=am (jf (Y166) hb);clear hb hbox hg;have hnb9:=NB782_783.out;have hnc9:=NB783_782.out;have hcz10_0:=bc0 BK782.out;have hfz10_0:=jb BK782.out 0;have hcz11_0:=bc0 BK783.out;have hfz11_0:=jb BK783.out 0) |((with_reducible refine jy (f:=41) rfl ?_);refine gL (some 10) Try.func41 #[.agg #[.slice A0_0 l0_0.length c0_0], .agg #[.slice A1_0 l1_0.length c1_0], .int .i64 a2] ?_;(with_reducible refine (jab.calls k _ _ l0_0 _ _ l1_0 a2 true _ ?side1 ?side2 ?side3 ?side4 A4.out).mono ?_);(case side1=>exact cq (Kd.jaa HR0_0.out HB.out));(case side2=>exact HC0_0.out);(case side3=>exact cq (Kd.jaa HR1_0.out HB.out));(case side4=>exact HC1_0.out);rintro e w12 ⟨rfl,hb⟩;refine ⟨_,rfl,?_⟩;replace BK782:=am (je (g:=gb782) (o:=.cells #[.slice A0_0 l0_0.length c0_0] 37 (0,0)) (kq BK782.out) hb);replace BK783:=am (je (g:=gb783) (o:=.cells #[.slice A1_0 l1_0.length c1_0] 32 (0,0)) (kq BK783.out) hb);replace HB:=am (jf (Y90) hb);(try clear hb);(try clear hb2);(try clear hk);(try clear hi);have hcz13_0:=bc0 BK783.out;have hfz13_0:=jb BK783.out 0) |((with_reducible refine jy (f:=60) rfl ?_);refine gL (some 14) Try.func60 #[.agg #[.slice A1_0 l1_0.length c1_0], .int .i64 a2] ?_;(with_reducible refine (jWa.calls _ _ l1_0 a2 t785 _ ?side1 ?side2 A6.out).mono ?_);(case side1=>exact cq (Kd.jaa HR1_0.out HB.out));(case side2=>exact HC1_0.out);rintro e w14 ⟨rfl,hb⟩;refine ⟨_,rfl,?_⟩;replace BK782:=am (je (g:=gb782) (o:=.cells #[.slice A0_0 l0_0.length c0_0] 37 (0,0)) (kq BK782.out) hb);replace BK783:=am (je (g:=gb783) (o:=.cells #[.slice A1_0 l1_0.length c1_0] 32 (0,0)) (kq BK783.out) hb);replace HB:=am (jf (Y90) hb);(try clear hb);(try clear hb2);(try clear hk);(try clear hi)))
  go_ret
  exact ⟨Y1,Y90⟩
 ·replace c5:=Bool.eq_false_iff.mpr c5
  subst c5
  have H1:(some (-2))=some r:=by rw [if_neg (show ¬ (false=true) by decide)] at H;exact H
  clear H
  have H:=H1
  clear H1
  obtain rfl:=Option.some.inj H
  go_enter Try.func32,Try.ntmps32
  go_wp2_with (first |((with_reducible refine jD (N:=3) rfl ?_);refine bE (N:=3) (cs:=#[.slice A0_0 l0_0.length c0_0]) (t:=37) ?_;intro gb782 hg w15 hbox hb;have BK782:=am (hbox);have GW782:=am ((Y0:w.heap.size≤gb782));have GE782:=am ((Y0:w.heap.size≤gb782));replace HB:=am (jf (bq) hb);clear hb hbox hg) |((with_reducible refine jD (N:=4) rfl ?_);refine bE (N:=4) (cs:=#[.slice A1_0 l1_0.length c1_0]) (t:=32) ?_;intro gb783 hg w16 hbox hb;have BK783:=am (hbox);have GW783:=am ((Y108:w.heap.size≤gb783));have GE783:=am ((Y108:w.heap.size≤gb783));have NB782_783:=am ((by rw [hg];exact Nat.ne_of_lt (jca (g:=gb782) (o:=.cells #[.slice A0_0 l0_0.length c0_0] 37 (0,0)) (kq BK782.out)):gb782≠gb783));have NB783_782:=am ((by rw [hg];exact Nat.ne_of_gt (jca (g:=gb782) (o:=.cells #[.slice A0_0 l0_0.length c0_0] 37 (0,0)) (kq BK782.out)):gb783≠gb782));replace BK782:=am (je (g:=gb782) (o:=.cells #[.slice A0_0 l0_0.length c0_0] 37 (0,0)) (kq BK782.out) hb);replace HB:=am (jf (Y166) hb);clear hb hbox hg;have hnb17:=NB782_783.out;have hnc17:=NB783_782.out;have hcz18_0:=bc0 BK782.out;have hfz18_0:=jb BK782.out 0;have hcz19_0:=bc0 BK783.out;have hfz19_0:=jb BK783.out 0) |((with_reducible refine jy (f:=41) rfl ?_);refine gL (some 10) Try.func41 #[.agg #[.slice A0_0 l0_0.length c0_0], .agg #[.slice A1_0 l1_0.length c1_0], .int .i64 a2] ?_;(with_reducible refine (jab.calls k _ _ l0_0 _ _ l1_0 a2 false _ ?side1 ?side2 ?side3 ?side4 A4.out).mono ?_);(case side1=>exact cq (Kd.jaa HR0_0.out HB.out));(case side2=>exact HC0_0.out);(case side3=>exact cq (Kd.jaa HR1_0.out HB.out));(case side4=>exact HC1_0.out);rintro e w20 ⟨rfl,hb⟩;refine ⟨_,rfl,?_⟩;replace BK782:=am (je (g:=gb782) (o:=.cells #[.slice A0_0 l0_0.length c0_0] 37 (0,0)) (kq BK782.out) hb);replace BK783:=am (je (g:=gb783) (o:=.cells #[.slice A1_0 l1_0.length c1_0] 32 (0,0)) (kq BK783.out) hb);replace HB:=am (jf (Y90) hb);(try clear hb);(try clear hb2);(try clear hk);(try clear hi)))
  go_ret
  exact ⟨Y1,Y90⟩
def jQ.j0 : Nat → Int → Int → Bool → List (S94) → List (S54) → Option (Bool)
 | 0,_,_,_,_,_=>none
 | k+1,x5,x6,x30,x794000,x795000=>if x30=true then ((jFa.f k x794000 x795000 x5).bind fun t797=>(some (x6 == t797))) else (if 0≤x5 then (if x5<(x795000.length:Int) then (if x6=((ja x795000 x5).f2) then ((jRa.f k x794000 x795000 x5).bind fun t800=>((jHa.f k t800 x6).bind fun t803=>(some t803))) else (if x6=((ja x795000 x5).f3) then (if ((ja x795000 x5).f2)<0 then (if ((ja x795000 x5).f4=true) then (some false) else ((jRa.f k x794000 x795000 x5).bind fun t804=>((jHa.f k t804 x6).bind fun t807=>(some t807)))) else (some false)) else (some false))) else (none)) else (none))
def jQ.f (k : Nat) (l0 : List Int) : Option (Bool) := if (l0.length : Int) > 1048576 then (some true) else ((jSa.f k l0).bind fun bt786 => ((jcb.f k bt786.1 bt786.2.1 bt786.2.2).bind fun t795 => ((jFa.f k bt786.1 bt786.2.1 bt786.2.2).bind fun t796 => (if t795 = t796 then (jQ.j0 k bt786.2.2 t795 (decide (t795 < 0)) bt786.1 bt786.2.1) else (jQ.j0 k bt786.2.2 t795 true bt786.1 bt786.2.1)))))
set_option maxHeartbeats 8000000 in
set_option maxRecDepth 100000 in
theorem jQ.calls (k : Nat) (A0 : Option Addr) (c0 : Nat) (l0 : List Int) (r : Bool) (w : World) (hr0 : Kd.C (Kd.int .u8) w A0 l0.length l0) (hc0 : l0.length ≤ c0) (hT : r = true) (h : jQ.f k l0 = some r) :
  Calls Try.prog 6 #[.slice A0 l0.length c0] w fun e w'=>e=.returned (.bool r)∧Below w.heap.size w w':=by
 have hu37:=Try.underlying37
 have hu32:=Try.underlying32
 have hu54:=Try.underlying54
 have HR0:=am hr0
 have HC0:=am hc0
 clear hr0 hc0
 have HB:=am (Below.refl w.heap.size w)
 have H:(if (l0.length:Int) > 1048576 then (some true) else ((jSa.f k l0).bind fun bt786=>((jcb.f k bt786.1 bt786.2.1 bt786.2.2).bind fun t795=>((jFa.f k bt786.1 bt786.2.1 bt786.2.2).bind fun t796=>(if t795=t796 then (jQ.j0 k bt786.2.2 t795 (decide (t795<0)) bt786.1 bt786.2.1) else (jQ.j0 k bt786.2.2 t795 true bt786.1 bt786.2.1))))))=some r:=h
 clear h
 by_cases c2:(l0.length:Int) > 1048576
 ·rw [if_pos c2] at H
  have c2b0:decide (1048576<(l0.length:Int))=true:=dzT c2
  have c2b1:decide (1048576<l0.length)=true:=dzT (by omega)
  clear c2
  obtain rfl:=Option.some.inj H
  go_enter Try.func6,Try.ntmps6
  go_wp2
  go_ret
  exact ⟨Y1,bq⟩
 ·rw [if_neg c2] at H
  have c2b0:decide (1048576<(l0.length:Int))=false:=dzF c2
  have c2b1:decide (1048576<l0.length)=false:=dzF (by omega)
  clear c2
  replace H:=bzS H
  obtain ⟨⟨t786,t789,t792⟩,A30,H⟩:=H
  replace H:((jcb.f k t786 t789 t792).bind fun t795=>((jFa.f k t786 t789 t792).bind fun t796=>(if t795=t796 then (jQ.j0 k t792 t795 (decide (t795<0)) t786 t789) else (jQ.j0 k t792 t795 true t786 t789))))=some r:=H
  have A3:=am A30
  clear A30
  replace H:=bzS H
  obtain ⟨t795,A40,H⟩:=H
  replace H:((jFa.f k t786 t789 t792).bind fun t796=>(if t795=t796 then (jQ.j0 k t792 t795 (decide (t795<0)) t786 t789) else (jQ.j0 k t792 t795 true t786 t789)))=some r:=H
  have A4:=am A40
  clear A40
  have HC5:=am H
  clear H
  go_enter Try.func6,Try.ntmps6
  go_upto_region 5 with (first |((with_reducible refine jy (f:=30) rfl ?_);refine gL (some 13) Try.func30 #[.slice A0 l0.length c0] ?_;(with_reducible refine (jSa.calls k _ _ l0 t786 t789 t792 _ ?side1 ?side2 A3.out).mono ?_);(case side1=>exact Y136);(case side2=>exact HC0.out);rintro e w6 ⟨v787,v790,rfl,ho0,ho1,hb⟩;refine ⟨_,rfl,?_⟩;have HO788:=am (Kd.jia ho0 (jR (bq)));have HO791:=am (Kd.jia ho1 (jR (bq)));replace HB:=am (jf (bq) hb);(try clear hb);(try clear hb2);(try clear hk);(try clear hi);(try clear ho0);(try clear ho1)) |((with_reducible refine jD (N:=3) rfl ?_);refine bE (N:=3) (cs:=#[.slice none 0 0]) (t:=37) ?_;intro gb793 hg w7 hbox hb;have BK793:=am (hbox);have GW793:=am ((Y0:w.heap.size≤gb793));have GE793:=am ((Y0:w.heap.size≤gb793));replace HO788:=am (Kd.jX (rq HO788.out) hb);replace HO791:=am (Kd.jX (rq HO791.out) hb);replace HB:=am (jf (bq) hb);clear hb hbox hg) |((with_reducible refine jD (N:=4) rfl ?_);refine bE (N:=4) (cs:=#[.slice none 0 0]) (t:=32) ?_;intro gb794 hg w8 hbox hb;have BK794:=am (hbox);have GW794:=am ((Y167:w.heap.size≤gb794));have GE794:=am ((Y167:w.heap.size≤gb794));have NB793_794:=am ((by rw [hg];exact Nat.ne_of_lt (jca (g:=gb793) (o:=.cells #[.slice none 0 0] 37 (0,0)) (kq BK793.out)):gb793≠gb794));have NB794_793:=am ((by rw [hg];exact Nat.ne_of_gt (jca (g:=gb793) (o:=.cells #[.slice none 0 0] 37 (0,0)) (kq BK793.out)):gb794≠gb793));replace HO788:=am (Kd.jX (rq HO788.out) hb);replace HO791:=am (Kd.jX (rq HO791.out) hb);replace BK793:=am (je (g:=gb793) (o:=.cells #[.slice none 0 0] 37 (0,0)) (kq BK793.out) hb);replace HB:=am (jf (by repeat (first |(with_reducible first | exact HB.out | apply jw | apply jo | apply jr | refine jm ?_ GE793.out) | exact HB.out)) hb);clear hb hbox hg;obtain ⟨Ao9,co9,eo9⟩:=Kd.jZ HO788.out;subst eo9;have hnb10:=NB793_794.out;have hnc10:=NB794_793.out;have hcz11_0:=bc0 BK793.out;have hfz11_0:=jb BK793.out 0;obtain ⟨Ao12,co12,eo12⟩:=Kd.jZ HO791.out;subst eo12;have hcz13_0:=bc0 BK794.out;have hfz13_0:=jb BK794.out 0) |((with_reducible refine jy (f:=31) rfl ?_);refine gL (some 20) Try.func31 #[.agg #[.slice Ao9 t786.length co9], .agg #[.slice Ao12 t789.length co12], .int .i64 t792] ?_;(with_reducible refine (jcb.calls k _ _ t786 _ _ t789 t792 t795 _ ?side1 ?side2 ?side3 ?side4 A4.out).mono ?_);(case side1=>refine (Kd.jB (e:=94) (base:=w.heap.size) (ok:=fun k_=>True) (n:=t786.length) (c:=co9) ?_).2.2;exact (Y168));(case side2=>exact (Kd.jB HO788.out).2.1);(case side3=>refine (Kd.jB (e:=54) (base:=w.heap.size) (ok:=fun k_=>True) (n:=t789.length) (c:=co12) ?_).2.2;exact (Y169));(case side4=>exact (Kd.jB HO791.out).2.1);rintro e w14 ⟨rfl,hb⟩;refine ⟨_,rfl,?_⟩;replace HO788:=am (Kd.jX (Y168) hb);replace HO791:=am (Kd.jX (Y169) hb);replace BK793:=am (je (g:=gb793) (o:=.cells #[.slice Ao9 t786.length co9] 37 (0,0)) (by (with_reducible repeat (first | refine jh ?_ _ | refine jg ?_ | refine jk ?_ _));refine jO ?_ NB793_794.out _;(with_reducible repeat (first | refine jh ?_ _ | refine jg ?_ | refine jk ?_ _));refine jya (cs:=#[.slice none 0 0]) ?_ 0 _ rfl;(with_reducible repeat (first | refine jh ?_ _ | refine jg ?_ | refine jk ?_ _));exact BK793.out) hb);replace BK794:=am (je (g:=gb794) (o:=.cells #[.slice Ao12 t789.length co12] 32 (0,0)) (by (with_reducible repeat (first | refine jh ?_ _ | refine jg ?_ | refine jk ?_ _));refine jya (cs:=#[.slice none 0 0]) ?_ 0 _ rfl;(with_reducible repeat (first | refine jh ?_ _ | refine jg ?_ | refine jk ?_ _));refine jO ?_ NB794_793.out _;(with_reducible repeat (first | refine jh ?_ _ | refine jg ?_ | refine jk ?_ _));exact BK794.out) hb);replace HB:=am (jf (Y45) hb);(try clear hb);(try clear hb2);(try clear hk);(try clear hi)))
  (try simp only [Act.put,List.setIfInBounds_toArray,List.set_cons_zero,List.set_cons_succ])
  go_cut [30] (fun v30 wc=>∃ (kq:Nat) (x30_4:Bool),v30=.bool x30_4∧jC (jQ.j0 kq t792 t795 x30_4 t786 t789=some r)∧jC (kq≤k)∧jC (Kd.R k94 94 wc w.heap.size (fun _=>True) (.slice Ao9 t786.length co9) t786)∧jC (Kd.R k54 54 wc w.heap.size (fun _=>True) (.slice Ao12 t789.length co12) t789)∧jC (wc.heap[gb793]?=some (.cells #[(.slice Ao9 t786.length co9)] 37 (0,0)))∧jC (wc.heap[gb794]?=some (.cells #[(.slice Ao12 t789.length co12)] 32 (0,0)))∧jC (Below w.heap.size w wc))
  case first =>
   have H:=HC5.out
   clear HC5
   replace H:=bzS H
   obtain ⟨t796,A150,H⟩:=H
   replace H:(if t795=t796 then (jQ.j0 k t792 t795 (decide (t795<0)) t786 t789) else (jQ.j0 k t792 t795 true t786 t789))=some r:=H
   have A15:=am A150
   clear A150
   by_cases c16:t795=t796
   ·rw [if_pos c16] at H
    have c16b0:(t795 == t796)=true:=beq_iff_eq.mpr c16
    have c16b1:(t795 != t796)=false:=bne_eq_false_iff_eq.mpr c16
    clear c16
    (first | rw [c16b0] |(simp only [job,jsb];rw [c16b0]) | skip)
    have H':=am H
    clear H
    have hnb17:=NB793_794.out
    have hnc17:=NB794_793.out
    have hcz18_0:=bc0 BK793.out
    have hfz18_0:=jb BK793.out 0
    have hcz19_0:=bc0 BK794.out
    have hfz19_0:=jb BK794.out 0
    go_wp2_with (first |((with_reducible refine jy (f:=32) rfl ?_);refine gL (some 25) Try.func32 #[.agg #[.slice Ao9 t786.length co9], .agg #[.slice Ao12 t789.length co12], .int .i64 t792] ?_;(with_reducible refine (jFa.calls k _ _ t786 _ _ t789 t792 t796 _ ?side1 ?side2 ?side3 ?side4 A15.out).mono ?_);(case side1=>exact cq (Kd.jB HO788.out).2.2);(case side2=>exact (Kd.jB HO788.out).2.1);(case side3=>exact cq (Kd.jB HO791.out).2.2);(case side4=>exact (Kd.jB HO791.out).2.1);rintro e w20 ⟨rfl,hb⟩;refine ⟨_,rfl,?_⟩;replace HO788:=am (Kd.jX (rq HO788.out) hb);replace HO791:=am (Kd.jX (rq HO791.out) hb);replace BK793:=am (je (g:=gb793) (o:=.cells #[.slice Ao9 t786.length co9] 37 (0,0)) (kq BK793.out) hb);replace BK794:=am (je (g:=gb794) (o:=.cells #[.slice Ao12 t789.length co12] 32 (0,0)) (kq BK794.out) hb);replace HB:=am (jf (Y45) hb);(try clear hb);(try clear hb2);(try clear hk);(try clear hi)))
    go_meet
    case rel=>exact ⟨_,(decide (t795<0)),(sq),H',⟨Y60⟩,⟨rq HO788.out⟩,⟨rq HO791.out⟩,⟨kq BK793.out⟩,⟨kq BK794.out⟩,⟨Y45⟩⟩
   ·rw [if_neg c16] at H
    have c16b0:(t795 == t796)=false:=beq_eq_false_iff_ne.mpr c16
    have c16b1:(t795 != t796)=true:=bne_iff_ne.mpr c16
    (first | rw [c16b0] |(simp only [job,jsb];rw [c16b0]) | skip)
    have H':=am H
    clear H
    have hnb21:=NB793_794.out
    have hnc21:=NB794_793.out
    have hcz22_0:=bc0 BK793.out
    have hfz22_0:=jb BK793.out 0
    have hcz23_0:=bc0 BK794.out
    have hfz23_0:=jb BK794.out 0
    go_wp2_with (first |((with_reducible refine jy (f:=32) rfl ?_);refine gL (some 25) Try.func32 #[.agg #[.slice Ao9 t786.length co9], .agg #[.slice Ao12 t789.length co12], .int .i64 t792] ?_;(with_reducible refine (jFa.calls k _ _ t786 _ _ t789 t792 t796 _ ?side1 ?side2 ?side3 ?side4 A15.out).mono ?_);(case side1=>exact cq (Kd.jB HO788.out).2.2);(case side2=>exact (Kd.jB HO788.out).2.1);(case side3=>exact cq (Kd.jB HO791.out).2.2);(case side4=>exact (Kd.jB HO791.out).2.1);rintro e w24 ⟨rfl,hb⟩;refine ⟨_,rfl,?_⟩;replace HO788:=am (Kd.jX (rq HO788.out) hb);replace HO791:=am (Kd.jX (rq HO791.out) hb);replace BK793:=am (je (g:=gb793) (o:=.cells #[.slice Ao9 t786.length co9] 37 (0,0)) (kq BK793.out) hb);replace BK794:=am (je (g:=gb794) (o:=.cells #[.slice Ao12 t789.length co12] 32 (0,0)) (kq BK794.out) hb);replace HB:=am (jf (Y45) hb);(try clear hb);(try clear hb2);(try clear hk);(try clear hi)))
    go_meet
    case rel=>exact ⟨_,(true),(sq),H',⟨Y60⟩,⟨rq HO788.out⟩,⟨rq HO791.out⟩,⟨kq BK793.out⟩,⟨kq BK794.out⟩,⟨Y45⟩⟩
  case rest =>
   clear HC5
   try clear c1
   try clear c2
   try clear c2b0
   try clear c2b1
   try clear p2
   try clear c3
   try clear c6
   try clear c10
   try clear c16
   try clear c16b0
   try clear c16b1
   try clear c17
   try clear c21
   try clear hcz11_0
   try clear hcz13_0
   try clear hcz18_0
   try clear hcz19_0
   try clear hcz22_0
   try clear hcz23_0
   try clear hfz11_0
   try clear hfz13_0
   try clear hfz18_0
   try clear hfz19_0
   try clear hfz22_0
   try clear hfz23_0
   obtain ⟨kq,x30_4,rfl,HA,HJ4,HO_794000,HO_795000,BK793,BK794,HB⟩:=hcut
   cases kq with
   | zero=>exact absurd HA.out (by simp [jQ.j0])
   | succ kj4 =>
    have H:=HA.out
    clear HA
    simp only [jQ.j0] at H
    by_cases c25:x30_4=true
    ·subst c25
     have H1:((jFa.f kj4 t786 t789 t792).bind fun t797=>(some (t795 == t797)))=some r:=by rw [if_pos rfl] at H;exact H
     clear H
     have H:=H1
     clear H1
     replace H:=bzS H
     obtain ⟨t797,A260,H⟩:=H
     replace H:(some (t795 == t797))=some r:=H
     have A26:=am A260
     clear A260
     obtain rfl:=Option.some.inj H
     have hnb27:=NB793_794.out
     have hnc27:=NB794_793.out
     have hcz28_0:=bc0 BK793.out
     have hfz28_0:=jb BK793.out 0
     have hcz29_0:=bc0 BK794.out
     have hfz29_0:=jb BK794.out 0
     go_wp2_with (first |((with_reducible refine jy (f:=32) rfl ?_);refine gL (some 35) Try.func32 #[.agg #[.slice Ao9 t786.length co9], .agg #[.slice Ao12 t789.length co12], .int .i64 t792] ?_;(with_reducible refine (jFa.calls kj4 _ _ t786 _ _ t789 t792 t797 _ ?side1 ?side2 ?side3 ?side4 A26.out).mono ?_);(case side1=>exact cq (Kd.jB HO_794000.out).2.2);(case side2=>exact (Kd.jB HO_794000.out).2.1);(case side3=>exact cq (Kd.jB HO_795000.out).2.2);(case side4=>exact (Kd.jB HO_795000.out).2.1);rintro e w30 ⟨rfl,hb⟩;refine ⟨_,rfl,?_⟩;replace HO_794000:=am (Kd.jX (rq HO_794000.out) hb);replace HO_795000:=am (Kd.jX (rq HO_795000.out) hb);replace BK793:=am (je (g:=gb793) (o:=.cells #[.slice Ao9 t786.length co9] 37 (0,0)) (kq BK793.out) hb);replace BK794:=am (je (g:=gb794) (o:=.cells #[.slice Ao12 t789.length co12] 32 (0,0)) (kq BK794.out) hb);replace HB:=am (jf (Y45) hb);(try clear hb);(try clear hb2);(try clear hk);(try clear hi)))
     go_ret
     exact ⟨Y1,Y45⟩
    ·replace c25:=Bool.eq_false_iff.mpr c25
     subst c25
     have H1:(if 0≤t792 then (if t792<(t789.length:Int) then (if t795=((ja t789 t792).f2) then ((jRa.f kj4 t786 t789 t792).bind fun t800=>((jHa.f kj4 t800 t795).bind fun t803=>(some t803))) else (if t795=((ja t789 t792).f3) then (if ((ja t789 t792).f2)<0 then (if ((ja t789 t792).f4=true) then (some false) else ((jRa.f kj4 t786 t789 t792).bind fun t804=>((jHa.f kj4 t804 t795).bind fun t807=>(some t807)))) else (some false)) else (some false))) else (none)) else (none))=some r:=by rw [if_neg (show ¬ (false=true) by decide)] at H;exact H
     clear H
     have H:=H1
     clear H1
     by_cases c31:0≤t792
     ·rw [if_pos c31] at H
      have c31b0:decide (0≤t792)=true:=dzT c31
      clear c31
      by_cases c32:t792<(t789.length:Int)
      ·rw [if_pos c32] at H
       have c32b0:decide (t792<(t789.length:Int))=true:=dzT c32
       clear c32
       by_cases c33:t795=((ja t789 t792).f2)
       ·rw [if_pos c33] at H
        have c33b0:(t795 == ((ja t789 t792).f2))=true:=beq_iff_eq.mpr c33
        have c33b1:(t795 != ((ja t789 t792).f2))=false:=bne_eq_false_iff_eq.mpr c33
        clear c33
        replace H:=bzS H
        obtain ⟨t800,A340,H⟩:=H
        replace H:((jHa.f kj4 t800 t795).bind fun t803=>(some t803))=some r:=H
        have A34:=am A340
        clear A340
        replace H:=bzS H
        obtain ⟨t803,A350,H⟩:=H
        replace H:(some t803)=some r:=H
        have A35:=am A350
        clear A350
        obtain rfl:=Option.some.inj H
        have hnb36:=NB794_793.out
        have hnc36:=NB793_794.out
        have hcz37_0:=bc0 BK794.out
        have hfz37_0:=jb BK794.out 0
        have p798:0≤(t792:Int):=ozD (uq)
        have q798:t792<(t789.length:Int):=ozD (uq)
        obtain ⟨ad798,e798,hx798_0,hx798_1,hx798_2,hx798_3,hx798_4⟩:=jdb (Kd.jB HO_795000.out).2.2 t792 p798 q798
        cases e798
        replace p798:=ezT p798
        replace q798:=ezT q798
        go_wp2_with (first |((with_reducible refine jD (N:=7) rfl ?_);refine bE (N:=7) (cs:=#[.int .i64 0, .int .i64 0, .int .i64 0, .int .i64 0, .bool false]) (t:=54) ?_;intro gb799 hg w38 hbox hb;have BK799:=am (hbox);have GW799:=am ((Y109:w.heap.size≤gb799));have GE799:=am ((Y109:w.heap.size≤gb799));have NB793_799:=am ((by rw [hg];exact Nat.ne_of_lt (jca (g:=gb793) (o:=.cells #[.slice Ao9 t786.length co9] 37 (0,0)) (kq BK793.out)):gb793≠gb799));have NB799_793:=am ((by rw [hg];exact Nat.ne_of_gt (jca (g:=gb793) (o:=.cells #[.slice Ao9 t786.length co9] 37 (0,0)) (kq BK793.out)):gb799≠gb793));have NB794_799:=am ((Y170:gb794≠gb799));have NB799_794:=am ((Y171:gb799≠gb794));replace HO_794000:=am (Kd.jX (rq HO_794000.out) hb);replace HO_795000:=am (Kd.jX (Kd.R_elderB (rq HO_795000.out) gb799 (Nat.le_of_eq hg.symm)) hb);replace BK793:=am (je (g:=gb793) (o:=.cells #[.slice Ao9 t786.length co9] 37 (0,0)) (kq BK793.out) hb);replace BK794:=am (je (g:=gb794) (o:=.cells #[.slice (some ad798) t789.length co12] 32 (0,0)) (kq BK794.out) hb);replace HB:=am (jf (Y45) hb);clear hb hbox hg;have hnb39:=NB799_793.out;have hnc39:=NB793_799.out;have hnb40:=NB799_794.out;have hnc40:=NB794_799.out;have hcz41_0:=bc0 BK799.out;have hcz41_1:=bc1 BK799.out;have hcz41_2:=bc2 BK799.out;have hcz41_3:=bc3 BK799.out;have hcz41_4:w38.cell? ⟨gb799,4,none⟩=some (.bool false):=(jG BK799.out 4).trans rfl;have hfz41_0:=jb BK799.out 0;have hfz41_1:=jb BK799.out 1;have hfz41_2:=jb BK799.out 2;have hfz41_3:=jb BK799.out 3;have hfz41_4:=jb BK799.out 4;have hcz42_0:=bc0 BK793.out;have hfz42_0:=jb BK793.out 0;have hcz43_0:=bc0 BK794.out;have hfz43_0:=jb BK794.out 0) |(go_at_call 21;(with_reducible refine (jRa.calls kj4 _ _ t786 _ _ t789 t792 t800 _ ?side1 ?side2 ?side3 ?side4 A34.out).mono ?_);(case side1=>refine (Kd.jB (e:=94) (base:=w.heap.size) (ok:=fun k_=>True) (n:=t786.length) (c:=co9) ?_).2.2;exact (Y172));(case side2=>exact (Kd.jB HO_794000.out).2.1);(case side3=>refine (Kd.jB (e:=54) (base:=w.heap.size) (ok:=fun k_=>(True∧k_≠gb799)) (n:=t789.length) (c:=co12) ?_).2.2;exact (Y173));(case side4=>exact (Kd.jB HO_795000.out).2.1);rintro e w44 ⟨v801,rfl,ho0,hb⟩;have HO802:=am (Kd.jia ho0 (jR (Y82)));replace HO_794000:=am (Kd.jX (Y172) hb);replace HO_795000:=am (Kd.jX (Y173) hb);replace BK793:=am (je (g:=gb793) (o:=.cells #[.slice Ao9 t786.length co9] 37 (0,0)) (Y174) hb);replace BK794:=am (je (g:=gb794) (o:=.cells #[.slice (some ad798) t789.length co12] 32 (0,0)) (Y175) hb);replace BK799:=am (je (g:=gb799) (o:=.cells #[.int .i64 ((ja t789 t792).f0), .int .i64 ((ja t789 t792).f1), .int .i64 ((ja t789 t792).f2), .int .i64 ((ja t789 t792).f3), .bool ((ja t789 t792).f4)] 54 (0,0)) (Y176) hb);replace HB:=am (jf (Y82) hb);(try clear hb);(try clear hb2);(try clear hk);(try clear hi);(try clear ho0);obtain ⟨Ao45,co45,eo45⟩:=Kd.jZ HO802.out;subst eo45) |(go_at_call 29;(with_reducible refine (jHa.calls kj4 _ _ t800 t795 t803 _ ?side1 ?side2 A35.out).mono ?_);(case side1=>exact cq (Kd.jB HO802.out).2.2);(case side2=>exact (Kd.jB HO802.out).2.1);rintro e w' ⟨rfl,⟨nd,rfl⟩⟩))
        go_ret
        exact ⟨Y1,Y82⟩
       ·rw [if_neg c33] at H
        have c33b0:(t795 == ((ja t789 t792).f2))=false:=beq_eq_false_iff_ne.mpr c33
        have c33b1:(t795 != ((ja t789 t792).f2))=true:=bne_iff_ne.mpr c33
        by_cases c46:t795=((ja t789 t792).f3)
        ·rw [if_pos c46] at H
         have c46b0:(t795 == ((ja t789 t792).f3))=true:=beq_iff_eq.mpr c46
         have c46b1:(t795 != ((ja t789 t792).f3))=false:=bne_eq_false_iff_eq.mpr c46
         clear c46
         by_cases c47:((ja t789 t792).f2)<0
         ·rw [if_pos c47] at H
          have c47b0:decide (((ja t789 t792).f2)<0)=true:=dzT c47
          clear c47
          obtain ⟨bq48,hbq48⟩:∃ b_:Bool,b_=((ja t789 t792).f4):=⟨_,rfl⟩
          replace H:(if (bq48=true) then (some false) else ((jRa.f kj4 t786 t789 t792).bind fun t804=>((jHa.f kj4 t804 t795).bind fun t807=>(some t807))))=some r:=by rw [← hbq48] at H;exact H
          have Nbq48:=am hbq48
          clear hbq48
          by_cases c49:(bq48=true)
          ·subst c49
           have H1:(some false)=some r:=by rw [if_pos rfl] at H;exact H
           clear H
           have H:=H1
           clear H1
           exact absurd ((Option.some.inj H).trans hT) Bool.false_ne_true
          ·replace c49:=Bool.eq_false_iff.mpr c49
           subst c49
           have H1:((jRa.f kj4 t786 t789 t792).bind fun t804=>((jHa.f kj4 t804 t795).bind fun t807=>(some t807)))=some r:=by rw [if_neg (show ¬ (false=true) by decide)] at H;exact H
           clear H
           have H:=H1
           clear H1
           replace H:=bzS H
           obtain ⟨t804,A500,H⟩:=H
           replace H:((jHa.f kj4 t804 t795).bind fun t807=>(some t807))=some r:=H
           have A50:=am A500
           clear A500
           replace H:=bzS H
           obtain ⟨t807,A510,H⟩:=H
           replace H:(some t807)=some r:=H
           have A51:=am A510
           clear A510
           obtain rfl:=Option.some.inj H
           have hnb52:=NB794_793.out
           have hnc52:=NB793_794.out
           have hcz53_0:=bc0 BK794.out
           have hfz53_0:=jb BK794.out 0
           have p798:0≤(t792:Int):=ozD (uq)
           have q798:t792<(t789.length:Int):=ozD (uq)
           obtain ⟨ad798,e798,hx798_0,hx798_1,hx798_2,hx798_3,hx798_4⟩:=jdb (Kd.jB HO_795000.out).2.2 t792 p798 q798
           (try rw [← Nbq48.out] at hx798_4)
           cases e798
           replace p798:=ezT p798
           replace q798:=ezT q798
           go_wp2_with (first |((with_reducible refine jD (N:=7) rfl ?_);refine bE (N:=7) (cs:=#[.int .i64 0, .int .i64 0, .int .i64 0, .int .i64 0, .bool false]) (t:=54) ?_;intro gb799 hg w54 hbox hb;have BK799:=am (hbox);have GW799:=am ((Y109:w.heap.size≤gb799));have GE799:=am ((Y109:w.heap.size≤gb799));have NB793_799:=am ((by rw [hg];exact Nat.ne_of_lt (jca (g:=gb793) (o:=.cells #[.slice Ao9 t786.length co9] 37 (0,0)) (kq BK793.out)):gb793≠gb799));have NB799_793:=am ((by rw [hg];exact Nat.ne_of_gt (jca (g:=gb793) (o:=.cells #[.slice Ao9 t786.length co9] 37 (0,0)) (kq BK793.out)):gb799≠gb793));have NB794_799:=am ((Y170:gb794≠gb799));have NB799_794:=am ((Y171:gb799≠gb794));replace HO_794000:=am (Kd.jX (rq HO_794000.out) hb);replace HO_795000:=am (Kd.jX (Kd.R_elderB (rq HO_795000.out) gb799 (Nat.le_of_eq hg.symm)) hb);replace BK793:=am (je (g:=gb793) (o:=.cells #[.slice Ao9 t786.length co9] 37 (0,0)) (kq BK793.out) hb);replace BK794:=am (je (g:=gb794) (o:=.cells #[.slice (some ad798) t789.length co12] 32 (0,0)) (kq BK794.out) hb);replace HB:=am (jf (Y45) hb);clear hb hbox hg;have hnb55:=NB799_793.out;have hnc55:=NB793_799.out;have hnb56:=NB799_794.out;have hnc56:=NB794_799.out;have hcz57_0:=bc0 BK799.out;have hcz57_1:=bc1 BK799.out;have hcz57_2:=bc2 BK799.out;have hcz57_3:=bc3 BK799.out;have hcz57_4:w54.cell? ⟨gb799,4,none⟩=some (.bool false):=(jG BK799.out 4).trans rfl;have hfz57_0:=jb BK799.out 0;have hfz57_1:=jb BK799.out 1;have hfz57_2:=jb BK799.out 2;have hfz57_3:=jb BK799.out 3;have hfz57_4:=jb BK799.out 4;have hcz58_0:=bc0 BK793.out;have hfz58_0:=jb BK793.out 0;have hcz59_0:=bc0 BK794.out;have hfz59_0:=jb BK794.out 0) |(go_at_call 21;(with_reducible refine (jRa.calls kj4 _ _ t786 _ _ t789 t792 t804 _ ?side1 ?side2 ?side3 ?side4 A50.out).mono ?_);(case side1=>refine (Kd.jB (e:=94) (base:=w.heap.size) (ok:=fun k_=>True) (n:=t786.length) (c:=co9) ?_).2.2;exact (Y177));(case side2=>exact (Kd.jB HO_794000.out).2.1);(case side3=>refine (Kd.jB (e:=54) (base:=w.heap.size) (ok:=fun k_=>(True∧k_≠gb799)) (n:=t789.length) (c:=co12) ?_).2.2;exact (Y178));(case side4=>exact (Kd.jB HO_795000.out).2.1);rintro e w60 ⟨v805,rfl,ho0,hb⟩;have HO806:=am (Kd.jia ho0 (jR (Y82)));replace HO_794000:=am (Kd.jX (Y177) hb);replace HO_795000:=am (Kd.jX (Y178) hb);replace BK793:=am (je (g:=gb793) (o:=.cells #[.slice Ao9 t786.length co9] 37 (0,0)) (Y174) hb);replace BK794:=am (je (g:=gb794) (o:=.cells #[.slice (some ad798) t789.length co12] 32 (0,0)) (Y175) hb);replace BK799:=am (je (g:=gb799) (o:=.cells #[.int .i64 ((ja t789 t792).f0), .int .i64 ((ja t789 t792).f1), .int .i64 ((ja t789 t792).f2), .int .i64 ((ja t789 t792).f3), .bool false] 54 (0,0)) (Y176) hb);replace HB:=am (jf (Y82) hb);(try clear hb);(try clear hb2);(try clear hk);(try clear hi);(try clear ho0);obtain ⟨Ao61,co61,eo61⟩:=Kd.jZ HO806.out;subst eo61) |(go_at_call 29;(with_reducible refine (jHa.calls kj4 _ _ t804 t795 t807 _ ?side1 ?side2 A51.out).mono ?_);(case side1=>exact cq (Kd.jB HO806.out).2.2);(case side2=>exact (Kd.jB HO806.out).2.1);rintro e w' ⟨rfl,⟨nd,rfl⟩⟩))
           go_ret
           exact ⟨Y1,Y82⟩
         ·rw [if_neg c47] at H
          have c47b0:decide (((ja t789 t792).f2)<0)=false:=dzF c47
          clear c47
          exact absurd ((Option.some.inj H).trans hT) Bool.false_ne_true
        ·rw [if_neg c46] at H
         have c46b0:(t795 == ((ja t789 t792).f3))=false:=beq_eq_false_iff_ne.mpr c46
         have c46b1:(t795 != ((ja t789 t792).f3))=true:=bne_iff_ne.mpr c46
         exact absurd ((Option.some.inj H).trans hT) Bool.false_ne_true
      ·rw [if_neg c32] at H
       exact absurd H (by simp)
     ·rw [if_neg c31] at H
      exact absurd H (by simp)
def jQ.Pure : Prop := ∀ (l0 : List Int), l0.length ≤ maxLen → l0.length * 1 ≤ 140737488351232 → (∀ x ∈ l0, (Lit.int .u8 x).wf = true) → ∃ k, jQ.f k l0 = some true
theorem jQ.walk (P : jQ.Pure) (a0 : Option Addr) (len0 cap0 : Nat) (z0 : List Int) (w : World) (w0 : (a0 = none ∧ len0 = 0 ∧ cap0 = 0 ∧ z0 = []) ∨ ∃ x, a0 = some x ∧ len0 ≤ cap0 ∧ cap0 ≤ maxLen ∧ z0.length = cap0 ∧ (∀ i, i < z0.length → w.cell? (x.add i) = some (.int .u8 (z0.getD i 0))) ∧ ∀ n ∈ z0, (Lit.int .u8 n).wf = true) (y0 : len0 * 1 ≤ 140737488351232) :
  Calls Try.prog 6 #[.slice a0 len0 cap0] w fun e w'=>e=.returned (.bool true)∧Below w.heap.size w w':=by
 obtain ⟨l0,rfl,hr0,hm0,hw0,hc0⟩:=jYa.ofRowC w0
 obtain ⟨k,h⟩:=P l0 hm0 y0 hw0
 refine (jQ.calls k _ _ l0 true w (Kd.C_of_reads (d:=(0:Int)) (h1:=fun _=>rfl) hr0) hc0 rfl h).mono ?_
 rintro e w' ⟨rfl,hd⟩
 exact ⟨rfl,hd⟩
end Go.Proofs.Ytecdfgejmbpclaa.P
end
