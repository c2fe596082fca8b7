/- One part of the proofs on this program: functions of the program as plain functions, that the code comes to them, and facts on them. -/
import Derived.Test.YtecdfgejmbpclaaYAll1
import Derived.Test.YtecdfgejmbpclaaYAll2
import Derived.Test.YtecdfgejmbpclaaYAll6
import Derived.Test.YtecdfgejmbpclaaYAll7
import Derived.Test.YtecdfgejmbpclaaYWAuto
section
namespace Go.Proofs.Ytecdfgejmbpclaa.P
open Go.RowKit Go.Proofs.YtecdfgejmbpclaaW.PrintWords Go.Proofs.YtecdfgejmbpclaaW.PrintLast Go.Proofs.YtecdfgejmbpclaaW.PrintMore
attribute [local go_sem] jxa jva jGa jFa jna jma jwa jua jD
set_option linter.unusedVariables false
set_option linter.unusedSimpArgs false
mutual
def jo.j0 : Nat → Int → List Int → Bool → List (S94) → List (S54) → Option (Bool)
 | 0,_,_,_,_,_=>none
 | k+1,x5,x6,x33,x629000,x630000=>if x33=true then ((jfa.f k x629000 x630000 x5).bind fun t637=>((jT.f k x6 t637).bind fun t640=>(some t640))) else ((jib.f k x629000 x630000 x5).bind fun t641=>(jo.l0 k x6 t641 0 x630000))
def jo.l0 : Nat → List Int → List Int → Int → List (S54) → Option (Bool)
 | 0,_,_,_,_=>none
 | k+1,x6,x7,x8,x630000=>if x8<(x6.length:Int) then (if 0≤x8 then (if x8≤(x6.length:Int) then ((jka.f k (x6.take (x8:Int).toNat) (rd x6 x8)).bind fun t651=>(if t651=true then (jo.j2 k x6 x7 x8 true x630000) else ((jka.f k x7 (rd x6 x8)).bind fun t653=>(if t653=true then (if x8 > 0 then (if 0≤(wrap64 (x8 - 1)) then (if (wrap64 (x8 - 1))<(x6.length:Int) then (if 0≤(rd x6 (wrap64 (x8 - 1))) then (if (rd x6 (wrap64 (x8 - 1)))<(x630000.length:Int) then (jo.j2 k x6 x7 x8 (((jb x630000 (rd x6 (wrap64 (x8 - 1)))).f3) != (rd x6 x8)) x630000) else (none)) else (none)) else (none)) else (none)) else (jo.j2 k x6 x7 x8 false x630000)) else (jo.j2 k x6 x7 x8 true x630000))))) else (none)) else (none)) else (if 0≤(wrap64 ((x6.length:Int) - 1)) then (if (wrap64 ((x6.length:Int) - 1))<(x6.length:Int) then (if 0≤(rd x6 (wrap64 ((x6.length:Int) - 1))) then (if (rd x6 (wrap64 ((x6.length:Int) - 1)))<(x630000.length:Int) then (some (((jb x630000 (rd x6 (wrap64 ((x6.length:Int) - 1)))).f3) == (-1))) else (none)) else (none)) else (none)) else (none))
def jo.j2 : Nat → List Int → List Int → Int → Bool → List (S54) → Option (Bool)
 | 0,_,_,_,_,_=>none
 | k+1,x6,x7,x8,x87,x630000=>if x87=true then (some false) else (jo.l0 k x6 x7 (wrap64 (x8+1)) x630000)
end
def jo.f (k : Nat) (l0 : List Int) : Option (Bool) := if (l0.length : Int) > 1048576 then (some true) else ((jza.f k l0).bind fun bt621 => ((jKa.f k bt621.1 bt621.2.1 bt621.2.2).bind fun t630 => ((jfa.f k bt621.1 bt621.2.1 bt621.2.2).bind fun t633 => ((jT.f k t630 t633).bind fun t636 => (if t636 = true then (jo.j0 k bt621.2.2 t630 ((t630.length : Int) == 0) bt621.1 bt621.2.1) else (jo.j0 k bt621.2.2 t630 true bt621.1 bt621.2.1))))))
set_option maxHeartbeats 8000000 in
set_option maxRecDepth 100000 in
theorem jo.calls (k : Nat) (A0 : Option Addr) (c0 : Nat) (l0 : List Int) (r : Bool) (w : World) (hr0 : Kd.C (Kd.int .u8) w A0 l0.length l0) (hc0 : l0.length ≤ c0) (hT : r = true) (h : jo.f k l0 = some r) :
  Calls Try.prog 5 #[.slice A0 l0.length c0] w fun e w'=>e=.returned (.bool r)∧Below w.heap.size w w':=by
 have hu37:=Try.underlying37
 have hu32:=Try.underlying32
 have HR0:=am hr0
 have HC0:=am hc0
 clear hr0 hc0
 have HB:=am (Below.refl w.heap.size w)
 have H:(if (l0.length:Int) > 1048576 then (some true) else ((jza.f k l0).bind fun bt621=>((jKa.f k bt621.1 bt621.2.1 bt621.2.2).bind fun t630=>((jfa.f k bt621.1 bt621.2.1 bt621.2.2).bind fun t633=>((jT.f k t630 t633).bind fun t636=>(if t636=true then (jo.j0 k bt621.2.2 t630 ((t630.length:Int) == 0) bt621.1 bt621.2.1) else (jo.j0 k bt621.2.2 t630 true bt621.1 bt621.2.1)))))))=some r:=h
 clear h
 by_cases c2:(l0.length:Int) > 1048576
 ·rw [if_pos c2] at H
  have c2b0:decide (1048576<(l0.length:Int))=true:=dzT c2
  have c2b1:decide (1048576<l0.length)=true:=dzT (by omega)
  clear c2
  obtain rfl:=Option.some.inj H
  go_enter Try.func5,Try.ntmps5
  go_wp2
  repeat (go_quiet (fail);try go_wp2)
  go_ret
  exact ⟨Y2,bq⟩
 ·rw [if_neg c2] at H
  have c2b0:decide (1048576<(l0.length:Int))=false:=dzF c2
  have c2b1:decide (1048576<l0.length)=false:=dzF (by omega)
  clear c2
  replace H:=bzS H
  obtain ⟨⟨t621,t624,t627⟩,A30,H⟩:=H
  replace H:((jKa.f k t621 t624 t627).bind fun t630=>((jfa.f k t621 t624 t627).bind fun t633=>((jT.f k t630 t633).bind fun t636=>(if t636=true then (jo.j0 k t627 t630 ((t630.length:Int) == 0) t621 t624) else (jo.j0 k t627 t630 true t621 t624)))))=some r:=H
  have A3:=am A30
  clear A30
  replace H:=bzS H
  obtain ⟨t630,A40,H⟩:=H
  replace H:((jfa.f k t621 t624 t627).bind fun t633=>((jT.f k t630 t633).bind fun t636=>(if t636=true then (jo.j0 k t627 t630 ((t630.length:Int) == 0) t621 t624) else (jo.j0 k t627 t630 true t621 t624))))=some r:=H
  have A4:=am A40
  clear A40
  have HC5:=am H
  clear H
  go_enter Try.func5,Try.ntmps5
  go_upto_region 5 with (first |(go_at_call 25;(with_reducible refine (jza.calls k _ _ l0 t621 t624 t627 _ ?side1 ?side2 A3.out).mono ?_);(case side1=>exact Y92);(case side2=>exact HC0.out);rintro e w6 ⟨v622,v625,rfl,ho0,ho1,hb⟩;have HO623:=am (Kd.jV ho0 (jK (bq)));have HO626:=am (Kd.jV ho1 (jK (bq)));replace HB:=am (jf (bq) hb);(try clear hb);(try clear hb2);(try clear hk);(try clear hi);(try clear ho0);(try clear ho1)) |((with_reducible refine jG (N:=3) rfl ?_);(try (refine jLa (by rfl) ?_;dsimp only));refine jWa ?hg (N:=3) ?hd (cs:=#[.slice none 0 0]) (t:=37) ?hr ?_;(case hd=>rfl);(case hg=>rfl);(case hr=>exact Y3);intro gb628 hg w7 hbox hb;have BK628:=am (hbox);have GW628:=am ((Y0:w.heap.size≤gb628));have GE628:=am ((Y0:w.heap.size≤gb628));replace HO623:=am (Kd.jO (rq HO623.out) hb);replace HO626:=am (Kd.jO (rq HO626.out) hb);replace HB:=am (jf (bq) hb);clear hb hbox hg) |((with_reducible refine jG (N:=4) rfl ?_);(try (refine jLa (by rfl) ?_;dsimp only));refine jWa ?hg (N:=4) ?hd (cs:=#[.slice none 0 0]) (t:=32) ?hr ?_;(case hd=>rfl);(case hg=>rfl);(case hr=>exact Y3);intro gb629 hg w8 hbox hb;have BK629:=am (hbox);have GW629:=am ((Y82:w.heap.size≤gb629));have GE629:=am ((Y82:w.heap.size≤gb629));have NB628_629:=am ((Y130:gb628≠gb629));have NB629_628:=am ((Y131:gb629≠gb628));replace HO623:=am (Kd.jO (rq HO623.out) hb);replace HO626:=am (Kd.jO (rq HO626.out) hb);replace BK628:=am (jc (g:=gb628) (o:=.cells #[.slice none 0 0] 37 (0,0)) (kq BK628.out) hb);replace HB:=am (jf (Y132) hb);clear hb hbox hg;obtain ⟨Ao9,co9,eo9⟩:=Kd.jN HO623.out;subst eo9;have hnb10:=NB628_629.out;have hnc10:=NB629_628.out;have hcz11_0:=bc0 BK628.out;have hfz11_0:=je BK628.out 0;obtain ⟨Ao12,co12,eo12⟩:=Kd.jN HO626.out;subst eo12;have hcz13_0:=bc0 BK629.out;have hfz13_0:=je BK629.out 0) |(go_at_call 26;(with_reducible refine (jKa.calls k _ _ t621 _ _ t624 t627 t630 _ ?side1 ?side2 ?side3 ?side4 A4.out).mono ?_);(case side1=>refine (Kd.jm (e:=94) (base:=w.heap.size) (ok:=fun k_=>True) (n:=t621.length) (c:=co9) ?_).2.2;exact (Y83));(case side2=>exact (Kd.jm HO623.out).2.1);(case side3=>refine (Kd.jm (e:=54) (base:=w.heap.size) (ok:=fun k_=>True) (n:=t624.length) (c:=co12) ?_).2.2;exact (Y84));(case side4=>exact (Kd.jm HO626.out).2.1);rintro e w14 ⟨v631,rfl,ho0,hb⟩;have HO632:=am (Kd.jV ho0 (jK (Y5)));replace HO623:=am (Kd.jO (Y83) hb);replace HO626:=am (Kd.jO (Y84) hb);replace BK628:=am (jc (g:=gb628) (o:=.cells #[.slice Ao9 t621.length co9] 37 (0,0)) (Y133) hb);replace BK629:=am (jc (g:=gb629) (o:=.cells #[.slice Ao12 t624.length co12] 32 (0,0)) (Y134) hb);replace HB:=am (jf (Y5) hb);(try clear hb);(try clear hb2);(try clear hk);(try clear hi);(try clear ho0)))
  repeat (go_quiet (first |(go_at_call 25;(with_reducible refine (jza.calls k _ _ l0 t621 t624 t627 _ ?side1 ?side2 A3.out).mono ?_);(case side1=>exact Y92);(case side2=>exact HC0.out);rintro e w6 ⟨v622,v625,rfl,ho0,ho1,hb⟩;have HO623:=am (Kd.jV ho0 (jK (bq)));have HO626:=am (Kd.jV ho1 (jK (bq)));replace HB:=am (jf (bq) hb);(try clear hb);(try clear hb2);(try clear hk);(try clear hi);(try clear ho0);(try clear ho1)) |((with_reducible refine jG (N:=3) rfl ?_);(try (refine jLa (by rfl) ?_;dsimp only));refine jWa ?hg (N:=3) ?hd (cs:=#[.slice none 0 0]) (t:=37) ?hr ?_;(case hd=>rfl);(case hg=>rfl);(case hr=>exact Y3);intro gb628 hg w7 hbox hb;have BK628:=am (hbox);have GW628:=am ((Y0:w.heap.size≤gb628));have GE628:=am ((Y0:w.heap.size≤gb628));replace HO623:=am (Kd.jO (rq HO623.out) hb);replace HO626:=am (Kd.jO (rq HO626.out) hb);replace HB:=am (jf (bq) hb);clear hb hbox hg) |((with_reducible refine jG (N:=4) rfl ?_);(try (refine jLa (by rfl) ?_;dsimp only));refine jWa ?hg (N:=4) ?hd (cs:=#[.slice none 0 0]) (t:=32) ?hr ?_;(case hd=>rfl);(case hg=>rfl);(case hr=>exact Y3);intro gb629 hg w8 hbox hb;have BK629:=am (hbox);have GW629:=am ((Y82:w.heap.size≤gb629));have GE629:=am ((Y82:w.heap.size≤gb629));have NB628_629:=am ((Y130:gb628≠gb629));have NB629_628:=am ((Y131:gb629≠gb628));replace HO623:=am (Kd.jO (rq HO623.out) hb);replace HO626:=am (Kd.jO (rq HO626.out) hb);replace BK628:=am (jc (g:=gb628) (o:=.cells #[.slice none 0 0] 37 (0,0)) (kq BK628.out) hb);replace HB:=am (jf (Y132) hb);clear hb hbox hg;obtain ⟨Ao9,co9,eo9⟩:=Kd.jN HO623.out;subst eo9;have hnb10:=NB628_629.out;have hnc10:=NB629_628.out;have hcz11_0:=bc0 BK628.out;have hfz11_0:=je BK628.out 0;obtain ⟨Ao12,co12,eo12⟩:=Kd.jN HO626.out;subst eo12;have hcz13_0:=bc0 BK629.out;have hfz13_0:=je BK629.out 0) |(go_at_call 26;(with_reducible refine (jKa.calls k _ _ t621 _ _ t624 t627 t630 _ ?side1 ?side2 ?side3 ?side4 A4.out).mono ?_);(case side1=>refine (Kd.jm (e:=94) (base:=w.heap.size) (ok:=fun k_=>True) (n:=t621.length) (c:=co9) ?_).2.2;exact (Y83));(case side2=>exact (Kd.jm HO623.out).2.1);(case side3=>refine (Kd.jm (e:=54) (base:=w.heap.size) (ok:=fun k_=>True) (n:=t624.length) (c:=co12) ?_).2.2;exact (Y84));(case side4=>exact (Kd.jm HO626.out).2.1);rintro e w14 ⟨v631,rfl,ho0,hb⟩;have HO632:=am (Kd.jV ho0 (jK (Y5)));replace HO623:=am (Kd.jO (Y83) hb);replace HO626:=am (Kd.jO (Y84) hb);replace BK628:=am (jc (g:=gb628) (o:=.cells #[.slice Ao9 t621.length co9] 37 (0,0)) (Y133) hb);replace BK629:=am (jc (g:=gb629) (o:=.cells #[.slice Ao12 t624.length co12] 32 (0,0)) (Y134) hb);replace HB:=am (jf (Y5) hb);(try clear hb);(try clear hb2);(try clear hk);(try clear hi);(try clear ho0)));go_upto_region 5 with (first |(go_at_call 25;(with_reducible refine (jza.calls k _ _ l0 t621 t624 t627 _ ?side1 ?side2 A3.out).mono ?_);(case side1=>exact Y92);(case side2=>exact HC0.out);rintro e w6 ⟨v622,v625,rfl,ho0,ho1,hb⟩;have HO623:=am (Kd.jV ho0 (jK (bq)));have HO626:=am (Kd.jV ho1 (jK (bq)));replace HB:=am (jf (bq) hb);(try clear hb);(try clear hb2);(try clear hk);(try clear hi);(try clear ho0);(try clear ho1)) |((with_reducible refine jG (N:=3) rfl ?_);(try (refine jLa (by rfl) ?_;dsimp only));refine jWa ?hg (N:=3) ?hd (cs:=#[.slice none 0 0]) (t:=37) ?hr ?_;(case hd=>rfl);(case hg=>rfl);(case hr=>exact Y3);intro gb628 hg w7 hbox hb;have BK628:=am (hbox);have GW628:=am ((Y0:w.heap.size≤gb628));have GE628:=am ((Y0:w.heap.size≤gb628));replace HO623:=am (Kd.jO (rq HO623.out) hb);replace HO626:=am (Kd.jO (rq HO626.out) hb);replace HB:=am (jf (bq) hb);clear hb hbox hg) |((with_reducible refine jG (N:=4) rfl ?_);(try (refine jLa (by rfl) ?_;dsimp only));refine jWa ?hg (N:=4) ?hd (cs:=#[.slice none 0 0]) (t:=32) ?hr ?_;(case hd=>rfl);(case hg=>rfl);(case hr=>exact Y3);intro gb629 hg w8 hbox hb;have BK629:=am (hbox);have GW629:=am ((Y82:w.heap.size≤gb629));have GE629:=am ((Y82:w.heap.size≤gb629));have NB628_629:=am ((Y130:gb628≠gb629));have NB629_628:=am ((Y131:gb629≠gb628));replace HO623:=am (Kd.jO (rq HO623.out) hb);replace HO626:=am (Kd.jO (rq HO626.out) hb);replace BK628:=am (jc (g:=gb628) (o:=.cells #[.slice none 0 0] 37 (0,0)) (kq BK628.out) hb);replace HB:=am (jf (Y132) hb);clear hb hbox hg;obtain ⟨Ao9,co9,eo9⟩:=Kd.jN HO623.out;subst eo9;have hnb10:=NB628_629.out;have hnc10:=NB629_628.out;have hcz11_0:=bc0 BK628.out;have hfz11_0:=je BK628.out 0;obtain ⟨Ao12,co12,eo12⟩:=Kd.jN HO626.out;subst eo12;have hcz13_0:=bc0 BK629.out;have hfz13_0:=je BK629.out 0) |(go_at_call 26;(with_reducible refine (jKa.calls k _ _ t621 _ _ t624 t627 t630 _ ?side1 ?side2 ?side3 ?side4 A4.out).mono ?_);(case side1=>refine (Kd.jm (e:=94) (base:=w.heap.size) (ok:=fun k_=>True) (n:=t621.length) (c:=co9) ?_).2.2;exact (Y83));(case side2=>exact (Kd.jm HO623.out).2.1);(case side3=>refine (Kd.jm (e:=54) (base:=w.heap.size) (ok:=fun k_=>True) (n:=t624.length) (c:=co12) ?_).2.2;exact (Y84));(case side4=>exact (Kd.jm HO626.out).2.1);rintro e w14 ⟨v631,rfl,ho0,hb⟩;have HO632:=am (Kd.jV ho0 (jK (Y5)));replace HO623:=am (Kd.jO (Y83) hb);replace HO626:=am (Kd.jO (Y84) hb);replace BK628:=am (jc (g:=gb628) (o:=.cells #[.slice Ao9 t621.length co9] 37 (0,0)) (Y133) hb);replace BK629:=am (jc (g:=gb629) (o:=.cells #[.slice Ao12 t624.length co12] 32 (0,0)) (Y134) hb);replace HB:=am (jf (Y5) hb);(try clear hb);(try clear hb2);(try clear hk);(try clear hi);(try clear ho0))))
  (try simp only [Act.put,List.setIfInBounds_toArray,List.set_cons_zero,List.set_cons_succ])
  go_cut [33] (fun v33 wc=>∃ (kq:Nat) (x33_4:Bool),v33=.bool x33_4∧jB (jo.j0 kq t627 t630 x33_4 t621 t624=some r)∧jB (kq≤k)∧jB (Kd.R (Kd.int .i64) 3 wc w.heap.size (fun _=>True) v631 t630)∧jB (Kd.R k94 94 wc w.heap.size (fun _=>True) (.slice Ao9 t621.length co9) t621)∧jB (Kd.R k54 54 wc w.heap.size (fun _=>True) (.slice Ao12 t624.length co12) t624)∧jB (wc.heap[gb628]?=some (.cells #[(.slice Ao9 t621.length co9)] 37 (0,0)))∧jB (wc.heap[gb629]?=some (.cells #[(.slice Ao12 t624.length co12)] 32 (0,0)))∧jB (Below w.heap.size w wc))
  case first =>
   have H:=HC5.out
   clear HC5
   replace H:=bzS H
   obtain ⟨t633,A150,H⟩:=H
   replace H:((jT.f k t630 t633).bind fun t636=>(if t636=true then (jo.j0 k t627 t630 ((t630.length:Int) == 0) t621 t624) else (jo.j0 k t627 t630 true t621 t624)))=some r:=H
   have A15:=am A150
   clear A150
   replace H:=bzS H
   obtain ⟨t636,A160,H⟩:=H
   replace H:(if t636=true then (jo.j0 k t627 t630 ((t630.length:Int) == 0) t621 t624) else (jo.j0 k t627 t630 true t621 t624))=some r:=H
   have A16:=am A160
   clear A160
   by_cases c17:t636=true
   ·subst c17
    have H1:(jo.j0 k t627 t630 ((t630.length:Int) == 0) t621 t624)=some r:=by rw [if_pos rfl] at H;exact H
    clear H
    have H:=H1
    clear H1
    have H':=am H
    clear H
    have hnb18:=NB628_629.out
    have hnc18:=NB629_628.out
    have hcz19_0:=bc0 BK628.out
    have hfz19_0:=je BK628.out 0
    have hcz20_0:=bc0 BK629.out
    have hfz20_0:=je BK629.out 0
    go_wp2_with (first |(go_at_call 28;(with_reducible refine (jfa.calls k _ _ t621 _ _ t624 t627 t633 _ ?side1 ?side2 ?side3 ?side4 A15.out).mono ?_);(case side1=>exact cq (Kd.jm HO623.out).2.2);(case side2=>exact (Kd.jm HO623.out).2.1);(case side3=>exact cq (Kd.jm HO626.out).2.2);(case side4=>exact (Kd.jm HO626.out).2.1);rintro e w21 ⟨v634,rfl,ho0,hb⟩;have HO635:=am (Kd.jV (Kd.jMb ho0 (Kd.R_lt (rq HO632.out))) (jK (Y5)));replace HO623:=am (Kd.jO (rq HO623.out) hb);replace HO626:=am (Kd.jO (rq HO626.out) hb);replace HO632:=am (Kd.job (rq HO632.out) (Kd.jNb ho0) hb);replace BK628:=am (jc (g:=gb628) (o:=.cells #[.slice Ao9 t621.length co9] 37 (0,0)) (kq BK628.out) hb);replace BK629:=am (jc (g:=gb629) (o:=.cells #[.slice Ao12 t624.length co12] 32 (0,0)) (kq BK629.out) hb);replace HB:=am (jf (Y5) hb);(try clear hb);(try clear hb2);(try clear hk);(try clear hi);(try clear ho0);obtain ⟨Ao22,co22,eo22⟩:=Kd.jN HO632.out;subst eo22;obtain ⟨Ao23,co23,eo23⟩:=Kd.jN HO635.out;subst eo23) |(go_at_call 27;(with_reducible refine (jT.calls k _ _ t630 _ _ t633 true _ ?side1 ?side2 ?side3 ?side4 A16.out).mono ?_);(case side1=>exact cq (Kd.jm HO632.out).2.2);(case side2=>exact (Kd.jm HO632.out).2.1);(case side3=>exact cq (Kd.jm HO635.out).2.2);(case side4=>exact (Kd.jm HO635.out).2.1);rintro e w' ⟨rfl,⟨nd,rfl⟩⟩;(try first | exact ⟨rfl,_,World.drewN_drewN _ _ _⟩ | exact ⟨rfl,_,Eq.trans (World.drewN_drewN _ _ _) (congrArg (World.drewN _) (Nat.add_assoc _ _ _))⟩)))
    repeat (go_quiet (first |(go_at_call 28;(with_reducible refine (jfa.calls k _ _ t621 _ _ t624 t627 t633 _ ?side1 ?side2 ?side3 ?side4 A15.out).mono ?_);(case side1=>exact cq (Kd.jm HO623.out).2.2);(case side2=>exact (Kd.jm HO623.out).2.1);(case side3=>exact cq (Kd.jm HO626.out).2.2);(case side4=>exact (Kd.jm HO626.out).2.1);rintro e w21 ⟨v634,rfl,ho0,hb⟩;have HO635:=am (Kd.jV (Kd.jMb ho0 (Kd.R_lt (rq HO632.out))) (jK (Y5)));replace HO623:=am (Kd.jO (rq HO623.out) hb);replace HO626:=am (Kd.jO (rq HO626.out) hb);replace HO632:=am (Kd.job (rq HO632.out) (Kd.jNb ho0) hb);replace BK628:=am (jc (g:=gb628) (o:=.cells #[.slice Ao9 t621.length co9] 37 (0,0)) (kq BK628.out) hb);replace BK629:=am (jc (g:=gb629) (o:=.cells #[.slice Ao12 t624.length co12] 32 (0,0)) (kq BK629.out) hb);replace HB:=am (jf (Y5) hb);(try clear hb);(try clear hb2);(try clear hk);(try clear hi);(try clear ho0);obtain ⟨Ao22,co22,eo22⟩:=Kd.jN HO632.out;subst eo22;obtain ⟨Ao23,co23,eo23⟩:=Kd.jN HO635.out;subst eo23) |(go_at_call 27;(with_reducible refine (jT.calls k _ _ t630 _ _ t633 true _ ?side1 ?side2 ?side3 ?side4 A16.out).mono ?_);(case side1=>exact cq (Kd.jm HO632.out).2.2);(case side2=>exact (Kd.jm HO632.out).2.1);(case side3=>exact cq (Kd.jm HO635.out).2.2);(case side4=>exact (Kd.jm HO635.out).2.1);rintro e w' ⟨rfl,⟨nd,rfl⟩⟩;(try first | exact ⟨rfl,_,World.drewN_drewN _ _ _⟩ | exact ⟨rfl,_,Eq.trans (World.drewN_drewN _ _ _) (congrArg (World.drewN _) (Nat.add_assoc _ _ _))⟩)));try go_wp2_with (first |(go_at_call 28;(with_reducible refine (jfa.calls k _ _ t621 _ _ t624 t627 t633 _ ?side1 ?side2 ?side3 ?side4 A15.out).mono ?_);(case side1=>exact cq (Kd.jm HO623.out).2.2);(case side2=>exact (Kd.jm HO623.out).2.1);(case side3=>exact cq (Kd.jm HO626.out).2.2);(case side4=>exact (Kd.jm HO626.out).2.1);rintro e w21 ⟨v634,rfl,ho0,hb⟩;have HO635:=am (Kd.jV (Kd.jMb ho0 (Kd.R_lt (rq HO632.out))) (jK (Y5)));replace HO623:=am (Kd.jO (rq HO623.out) hb);replace HO626:=am (Kd.jO (rq HO626.out) hb);replace HO632:=am (Kd.job (rq HO632.out) (Kd.jNb ho0) hb);replace BK628:=am (jc (g:=gb628) (o:=.cells #[.slice Ao9 t621.length co9] 37 (0,0)) (kq BK628.out) hb);replace BK629:=am (jc (g:=gb629) (o:=.cells #[.slice Ao12 t624.length co12] 32 (0,0)) (kq BK629.out) hb);replace HB:=am (jf (Y5) hb);(try clear hb);(try clear hb2);(try clear hk);(try clear hi);(try clear ho0);obtain ⟨Ao22,co22,eo22⟩:=Kd.jN HO632.out;subst eo22;obtain ⟨Ao23,co23,eo23⟩:=Kd.jN HO635.out;subst eo23) |(go_at_call 27;(with_reducible refine (jT.calls k _ _ t630 _ _ t633 true _ ?side1 ?side2 ?side3 ?side4 A16.out).mono ?_);(case side1=>exact cq (Kd.jm HO632.out).2.2);(case side2=>exact (Kd.jm HO632.out).2.1);(case side3=>exact cq (Kd.jm HO635.out).2.2);(case side4=>exact (Kd.jm HO635.out).2.1);rintro e w' ⟨rfl,⟨nd,rfl⟩⟩;(try first | exact ⟨rfl,_,World.drewN_drewN _ _ _⟩ | exact ⟨rfl,_,Eq.trans (World.drewN_drewN _ _ _) (congrArg (World.drewN _) (Nat.add_assoc _ _ _))⟩))))
    go_meet
    case rel=>exact ⟨_,(((t630.length:Int) == 0)),(sq),H',⟨Y61⟩,⟨by (with_reducible repeat (first | apply Kd.jW | apply Kd.jY | apply Kd.jU));exact Kd.jH HO632.out (fun _ hk=>trivial)⟩,⟨rq HO623.out⟩,⟨rq HO626.out⟩,⟨kq BK628.out⟩,⟨kq BK629.out⟩,⟨Y5⟩⟩
   ·replace c17:=Bool.eq_false_iff.mpr c17
    subst c17
    have H1:(jo.j0 k t627 t630 true t621 t624)=some r:=by rw [if_neg (show ¬ (false=true) by decide)] at H;exact H
    clear H
    have H:=H1
    clear H1
    have H':=am H
    clear H
    have hnb24:=NB628_629.out
    have hnc24:=NB629_628.out
    have hcz25_0:=bc0 BK628.out
    have hfz25_0:=je BK628.out 0
    have hcz26_0:=bc0 BK629.out
    have hfz26_0:=je BK629.out 0
    go_wp2_with (first |(go_at_call 28;(with_reducible refine (jfa.calls k _ _ t621 _ _ t624 t627 t633 _ ?side1 ?side2 ?side3 ?side4 A15.out).mono ?_);(case side1=>exact cq (Kd.jm HO623.out).2.2);(case side2=>exact (Kd.jm HO623.out).2.1);(case side3=>exact cq (Kd.jm HO626.out).2.2);(case side4=>exact (Kd.jm HO626.out).2.1);rintro e w27 ⟨v634,rfl,ho0,hb⟩;have HO635:=am (Kd.jV (Kd.jMb ho0 (Kd.R_lt (rq HO632.out))) (jK (Y5)));replace HO623:=am (Kd.jO (rq HO623.out) hb);replace HO626:=am (Kd.jO (rq HO626.out) hb);replace HO632:=am (Kd.job (rq HO632.out) (Kd.jNb ho0) hb);replace BK628:=am (jc (g:=gb628) (o:=.cells #[.slice Ao9 t621.length co9] 37 (0,0)) (kq BK628.out) hb);replace BK629:=am (jc (g:=gb629) (o:=.cells #[.slice Ao12 t624.length co12] 32 (0,0)) (kq BK629.out) hb);replace HB:=am (jf (Y5) hb);(try clear hb);(try clear hb2);(try clear hk);(try clear hi);(try clear ho0);obtain ⟨Ao28,co28,eo28⟩:=Kd.jN HO632.out;subst eo28;obtain ⟨Ao29,co29,eo29⟩:=Kd.jN HO635.out;subst eo29) |(go_at_call 27;(with_reducible refine (jT.calls k _ _ t630 _ _ t633 false _ ?side1 ?side2 ?side3 ?side4 A16.out).mono ?_);(case side1=>exact cq (Kd.jm HO632.out).2.2);(case side2=>exact (Kd.jm HO632.out).2.1);(case side3=>exact cq (Kd.jm HO635.out).2.2);(case side4=>exact (Kd.jm HO635.out).2.1);rintro e w' ⟨rfl,⟨nd,rfl⟩⟩;(try first | exact ⟨rfl,_,World.drewN_drewN _ _ _⟩ | exact ⟨rfl,_,Eq.trans (World.drewN_drewN _ _ _) (congrArg (World.drewN _) (Nat.add_assoc _ _ _))⟩)))
    repeat (go_quiet (first |(go_at_call 28;(with_reducible refine (jfa.calls k _ _ t621 _ _ t624 t627 t633 _ ?side1 ?side2 ?side3 ?side4 A15.out).mono ?_);(case side1=>exact cq (Kd.jm HO623.out).2.2);(case side2=>exact (Kd.jm HO623.out).2.1);(case side3=>exact cq (Kd.jm HO626.out).2.2);(case side4=>exact (Kd.jm HO626.out).2.1);rintro e w27 ⟨v634,rfl,ho0,hb⟩;have HO635:=am (Kd.jV (Kd.jMb ho0 (Kd.R_lt (rq HO632.out))) (jK (Y5)));replace HO623:=am (Kd.jO (rq HO623.out) hb);replace HO626:=am (Kd.jO (rq HO626.out) hb);replace HO632:=am (Kd.job (rq HO632.out) (Kd.jNb ho0) hb);replace BK628:=am (jc (g:=gb628) (o:=.cells #[.slice Ao9 t621.length co9] 37 (0,0)) (kq BK628.out) hb);replace BK629:=am (jc (g:=gb629) (o:=.cells #[.slice Ao12 t624.length co12] 32 (0,0)) (kq BK629.out) hb);replace HB:=am (jf (Y5) hb);(try clear hb);(try clear hb2);(try clear hk);(try clear hi);(try clear ho0);obtain ⟨Ao28,co28,eo28⟩:=Kd.jN HO632.out;subst eo28;obtain ⟨Ao29,co29,eo29⟩:=Kd.jN HO635.out;subst eo29) |(go_at_call 27;(with_reducible refine (jT.calls k _ _ t630 _ _ t633 false _ ?side1 ?side2 ?side3 ?side4 A16.out).mono ?_);(case side1=>exact cq (Kd.jm HO632.out).2.2);(case side2=>exact (Kd.jm HO632.out).2.1);(case side3=>exact cq (Kd.jm HO635.out).2.2);(case side4=>exact (Kd.jm HO635.out).2.1);rintro e w' ⟨rfl,⟨nd,rfl⟩⟩;(try first | exact ⟨rfl,_,World.drewN_drewN _ _ _⟩ | exact ⟨rfl,_,Eq.trans (World.drewN_drewN _ _ _) (congrArg (World.drewN _) (Nat.add_assoc _ _ _))⟩)));try go_wp2_with (first |(go_at_call 28;(with_reducible refine (jfa.calls k _ _ t621 _ _ t624 t627 t633 _ ?side1 ?side2 ?side3 ?side4 A15.out).mono ?_);(case side1=>exact cq (Kd.jm HO623.out).2.2);(case side2=>exact (Kd.jm HO623.out).2.1);(case side3=>exact cq (Kd.jm HO626.out).2.2);(case side4=>exact (Kd.jm HO626.out).2.1);rintro e w27 ⟨v634,rfl,ho0,hb⟩;have HO635:=am (Kd.jV (Kd.jMb ho0 (Kd.R_lt (rq HO632.out))) (jK (Y5)));replace HO623:=am (Kd.jO (rq HO623.out) hb);replace HO626:=am (Kd.jO (rq HO626.out) hb);replace HO632:=am (Kd.job (rq HO632.out) (Kd.jNb ho0) hb);replace BK628:=am (jc (g:=gb628) (o:=.cells #[.slice Ao9 t621.length co9] 37 (0,0)) (kq BK628.out) hb);replace BK629:=am (jc (g:=gb629) (o:=.cells #[.slice Ao12 t624.length co12] 32 (0,0)) (kq BK629.out) hb);replace HB:=am (jf (Y5) hb);(try clear hb);(try clear hb2);(try clear hk);(try clear hi);(try clear ho0);obtain ⟨Ao28,co28,eo28⟩:=Kd.jN HO632.out;subst eo28;obtain ⟨Ao29,co29,eo29⟩:=Kd.jN HO635.out;subst eo29) |(go_at_call 27;(with_reducible refine (jT.calls k _ _ t630 _ _ t633 false _ ?side1 ?side2 ?side3 ?side4 A16.out).mono ?_);(case side1=>exact cq (Kd.jm HO632.out).2.2);(case side2=>exact (Kd.jm HO632.out).2.1);(case side3=>exact cq (Kd.jm HO635.out).2.2);(case side4=>exact (Kd.jm HO635.out).2.1);rintro e w' ⟨rfl,⟨nd,rfl⟩⟩;(try first | exact ⟨rfl,_,World.drewN_drewN _ _ _⟩ | exact ⟨rfl,_,Eq.trans (World.drewN_drewN _ _ _) (congrArg (World.drewN _) (Nat.add_assoc _ _ _))⟩))))
    go_meet
    case rel=>exact ⟨_,(true),(sq),H',⟨Y61⟩,⟨by (with_reducible repeat (first | apply Kd.jW | apply Kd.jY | apply Kd.jU));exact Kd.jH HO632.out (fun _ hk=>trivial)⟩,⟨rq HO623.out⟩,⟨rq HO626.out⟩,⟨kq BK628.out⟩,⟨kq BK629.out⟩,⟨Y5⟩⟩
  case rest =>
   clear HC5
   try clear c1
   try clear c2
   try clear c2b0
   try clear c2b1
   try clear p2
   try clear c5
   try clear c10
   try clear c17
   try clear c18
   try clear c24
   try clear hcz11_0
   try clear hcz13_0
   try clear hcz19_0
   try clear hcz20_0
   try clear hcz25_0
   try clear hcz26_0
   try clear hfz11_0
   try clear hfz13_0
   try clear hfz19_0
   try clear hfz20_0
   try clear hfz25_0
   try clear hfz26_0
   obtain ⟨kq,x33_4,rfl,HA,HJ4,HO_6,HO_629000,HO_630000,BK628,BK629,HB⟩:=hcut
   cases kq with
   | zero=>exact absurd HA.out (by simp [jo.j0])
   | succ kj4 =>
    have H:=HA.out
    clear HA
    simp only [jo.j0] at H
    by_cases c30:x33_4=true
    ·subst c30
     have H1:((jfa.f kj4 t621 t624 t627).bind fun t637=>((jT.f kj4 t630 t637).bind fun t640=>(some t640)))=some r:=by rw [if_pos rfl] at H;exact H
     clear H
     have H:=H1
     clear H1
     replace H:=bzS H
     obtain ⟨t637,A310,H⟩:=H
     replace H:((jT.f kj4 t630 t637).bind fun t640=>(some t640))=some r:=H
     have A31:=am A310
     clear A310
     replace H:=bzS H
     obtain ⟨t640,A320,H⟩:=H
     replace H:(some t640)=some r:=H
     have A32:=am A320
     clear A320
     obtain rfl:=Option.some.inj H
     have hnb33:=NB628_629.out
     have hnc33:=NB629_628.out
     have hcz34_0:=bc0 BK628.out
     have hfz34_0:=je BK628.out 0
     have hcz35_0:=bc0 BK629.out
     have hfz35_0:=je BK629.out 0
     go_wp2_with (first |(go_at_call 28;(with_reducible refine (jfa.calls kj4 _ _ t621 _ _ t624 t627 t637 _ ?side1 ?side2 ?side3 ?side4 A31.out).mono ?_);(case side1=>exact cq (Kd.jm HO_629000.out).2.2);(case side2=>exact (Kd.jm HO_629000.out).2.1);(case side3=>exact cq (Kd.jm HO_630000.out).2.2);(case side4=>exact (Kd.jm HO_630000.out).2.1);rintro e w36 ⟨v638,rfl,ho0,hb⟩;have HO639:=am (Kd.jV (Kd.jMb ho0 (Kd.R_lt (rq HO_6.out))) (jK (Y5)));replace HO_6:=am (Kd.job (rq HO_6.out) (Kd.jNb ho0) hb);replace HO_629000:=am (Kd.jO (rq HO_629000.out) hb);replace HO_630000:=am (Kd.jO (rq HO_630000.out) hb);replace BK628:=am (jc (g:=gb628) (o:=.cells #[.slice Ao9 t621.length co9] 37 (0,0)) (kq BK628.out) hb);replace BK629:=am (jc (g:=gb629) (o:=.cells #[.slice Ao12 t624.length co12] 32 (0,0)) (kq BK629.out) hb);replace HB:=am (jf (Y5) hb);(try clear hb);(try clear hb2);(try clear hk);(try clear hi);(try clear ho0);obtain ⟨Ao37,co37,eo37⟩:=Kd.jN HO_6.out;subst eo37;obtain ⟨Ao38,co38,eo38⟩:=Kd.jN HO639.out;subst eo38) |(go_at_call 27;(with_reducible refine (jT.calls kj4 _ _ t630 _ _ t637 t640 _ ?side1 ?side2 ?side3 ?side4 A32.out).mono ?_);(case side1=>exact cq (Kd.jm HO_6.out).2.2);(case side2=>exact (Kd.jm HO_6.out).2.1);(case side3=>exact cq (Kd.jm HO639.out).2.2);(case side4=>exact (Kd.jm HO639.out).2.1);rintro e w' ⟨rfl,⟨nd,rfl⟩⟩;(try first | exact ⟨rfl,_,World.drewN_drewN _ _ _⟩ | exact ⟨rfl,_,Eq.trans (World.drewN_drewN _ _ _) (congrArg (World.drewN _) (Nat.add_assoc _ _ _))⟩)))
     repeat (go_quiet (first |(go_at_call 28;(with_reducible refine (jfa.calls kj4 _ _ t621 _ _ t624 t627 t637 _ ?side1 ?side2 ?side3 ?side4 A31.out).mono ?_);(case side1=>exact cq (Kd.jm HO_629000.out).2.2);(case side2=>exact (Kd.jm HO_629000.out).2.1);(case side3=>exact cq (Kd.jm HO_630000.out).2.2);(case side4=>exact (Kd.jm HO_630000.out).2.1);rintro e w36 ⟨v638,rfl,ho0,hb⟩;have HO639:=am (Kd.jV (Kd.jMb ho0 (Kd.R_lt (rq HO_6.out))) (jK (Y5)));replace HO_6:=am (Kd.job (rq HO_6.out) (Kd.jNb ho0) hb);replace HO_629000:=am (Kd.jO (rq HO_629000.out) hb);replace HO_630000:=am (Kd.jO (rq HO_630000.out) hb);replace BK628:=am (jc (g:=gb628) (o:=.cells #[.slice Ao9 t621.length co9] 37 (0,0)) (kq BK628.out) hb);replace BK629:=am (jc (g:=gb629) (o:=.cells #[.slice Ao12 t624.length co12] 32 (0,0)) (kq BK629.out) hb);replace HB:=am (jf (Y5) hb);(try clear hb);(try clear hb2);(try clear hk);(try clear hi);(try clear ho0);obtain ⟨Ao37,co37,eo37⟩:=Kd.jN HO_6.out;subst eo37;obtain ⟨Ao38,co38,eo38⟩:=Kd.jN HO639.out;subst eo38) |(go_at_call 27;(with_reducible refine (jT.calls kj4 _ _ t630 _ _ t637 t640 _ ?side1 ?side2 ?side3 ?side4 A32.out).mono ?_);(case side1=>exact cq (Kd.jm HO_6.out).2.2);(case side2=>exact (Kd.jm HO_6.out).2.1);(case side3=>exact cq (Kd.jm HO639.out).2.2);(case side4=>exact (Kd.jm HO639.out).2.1);rintro e w' ⟨rfl,⟨nd,rfl⟩⟩;(try first | exact ⟨rfl,_,World.drewN_drewN _ _ _⟩ | exact ⟨rfl,_,Eq.trans (World.drewN_drewN _ _ _) (congrArg (World.drewN _) (Nat.add_assoc _ _ _))⟩)));try go_wp2_with (first |(go_at_call 28;(with_reducible refine (jfa.calls kj4 _ _ t621 _ _ t624 t627 t637 _ ?side1 ?side2 ?side3 ?side4 A31.out).mono ?_);(case side1=>exact cq (Kd.jm HO_629000.out).2.2);(case side2=>exact (Kd.jm HO_629000.out).2.1);(case side3=>exact cq (Kd.jm HO_630000.out).2.2);(case side4=>exact (Kd.jm HO_630000.out).2.1);rintro e w36 ⟨v638,rfl,ho0,hb⟩;have HO639:=am (Kd.jV (Kd.jMb ho0 (Kd.R_lt (rq HO_6.out))) (jK (Y5)));replace HO_6:=am (Kd.job (rq HO_6.out) (Kd.jNb ho0) hb);replace HO_629000:=am (Kd.jO (rq HO_629000.out) hb);replace HO_630000:=am (Kd.jO (rq HO_630000.out) hb);replace BK628:=am (jc (g:=gb628) (o:=.cells #[.slice Ao9 t621.length co9] 37 (0,0)) (kq BK628.out) hb);replace BK629:=am (jc (g:=gb629) (o:=.cells #[.slice Ao12 t624.length co12] 32 (0,0)) (kq BK629.out) hb);replace HB:=am (jf (Y5) hb);(try clear hb);(try clear hb2);(try clear hk);(try clear hi);(try clear ho0);obtain ⟨Ao37,co37,eo37⟩:=Kd.jN HO_6.out;subst eo37;obtain ⟨Ao38,co38,eo38⟩:=Kd.jN HO639.out;subst eo38) |(go_at_call 27;(with_reducible refine (jT.calls kj4 _ _ t630 _ _ t637 t640 _ ?side1 ?side2 ?side3 ?side4 A32.out).mono ?_);(case side1=>exact cq (Kd.jm HO_6.out).2.2);(case side2=>exact (Kd.jm HO_6.out).2.1);(case side3=>exact cq (Kd.jm HO639.out).2.2);(case side4=>exact (Kd.jm HO639.out).2.1);rintro e w' ⟨rfl,⟨nd,rfl⟩⟩;(try first | exact ⟨rfl,_,World.drewN_drewN _ _ _⟩ | exact ⟨rfl,_,Eq.trans (World.drewN_drewN _ _ _) (congrArg (World.drewN _) (Nat.add_assoc _ _ _))⟩))))
     go_ret
     exact ⟨Y2,Y5⟩
    ·replace c30:=Bool.eq_false_iff.mpr c30
     subst c30
     have H1:((jib.f kj4 t621 t624 t627).bind fun t641=>(jo.l0 kj4 t630 t641 0 t624))=some r:=by rw [if_neg (show ¬ (false=true) by decide)] at H;exact H
     clear H
     have H:=H1
     clear H1
     replace H:=bzS H
     obtain ⟨t641,A390,H⟩:=H
     replace H:(jo.l0 kj4 t630 t641 0 t624)=some r:=H
     have A39:=am A390
     clear A390
     have H':=am H
     clear H
     have hnb40:=NB628_629.out
     have hnc40:=NB629_628.out
     have hcz41_0:=bc0 BK628.out
     have hfz41_0:=je BK628.out 0
     have hcz42_0:=bc0 BK629.out
     have hfz42_0:=je BK629.out 0
     go_wp2_with (first |(go_at_call 21;(with_reducible refine (jib.calls kj4 _ _ t621 _ _ t624 t627 t641 _ ?side1 ?side2 ?side3 ?side4 A39.out).mono ?_);(case side1=>exact cq (Kd.jm HO_629000.out).2.2);(case side2=>exact (Kd.jm HO_629000.out).2.1);(case side3=>exact cq (Kd.jm HO_630000.out).2.2);(case side4=>exact (Kd.jm HO_630000.out).2.1);rintro e w43 ⟨v642,rfl,ho0,hb⟩;have HO643:=am (Kd.jV (Kd.jMb ho0 (Kd.R_lt (rq HO_6.out))) (jK (Y5)));replace HO_6:=am (Kd.job (rq HO_6.out) (Kd.jNb ho0) hb);replace HO_629000:=am (Kd.jO (rq HO_629000.out) hb);replace HO_630000:=am (Kd.jO (rq HO_630000.out) hb);replace BK628:=am (jc (g:=gb628) (o:=.cells #[.slice Ao9 t621.length co9] 37 (0,0)) (kq BK628.out) hb);replace BK629:=am (jc (g:=gb629) (o:=.cells #[.slice Ao12 t624.length co12] 32 (0,0)) (kq BK629.out) hb);replace HB:=am (jf (Y5) hb);(try clear hb);(try clear hb2);(try clear hk);(try clear hi);(try clear ho0)))
     repeat (go_quiet (first |(go_at_call 21;(with_reducible refine (jib.calls kj4 _ _ t621 _ _ t624 t627 t641 _ ?side1 ?side2 ?side3 ?side4 A39.out).mono ?_);(case side1=>exact cq (Kd.jm HO_629000.out).2.2);(case side2=>exact (Kd.jm HO_629000.out).2.1);(case side3=>exact cq (Kd.jm HO_630000.out).2.2);(case side4=>exact (Kd.jm HO_630000.out).2.1);rintro e w43 ⟨v642,rfl,ho0,hb⟩;have HO643:=am (Kd.jV (Kd.jMb ho0 (Kd.R_lt (rq HO_6.out))) (jK (Y5)));replace HO_6:=am (Kd.job (rq HO_6.out) (Kd.jNb ho0) hb);replace HO_629000:=am (Kd.jO (rq HO_629000.out) hb);replace HO_630000:=am (Kd.jO (rq HO_630000.out) hb);replace BK628:=am (jc (g:=gb628) (o:=.cells #[.slice Ao9 t621.length co9] 37 (0,0)) (kq BK628.out) hb);replace BK629:=am (jc (g:=gb629) (o:=.cells #[.slice Ao12 t624.length co12] 32 (0,0)) (kq BK629.out) hb);replace HB:=am (jf (Y5) hb);(try clear hb);(try clear hb2);(try clear hk);(try clear hi);(try clear ho0)));try go_wp2_with (first |(go_at_call 21;(with_reducible refine (jib.calls kj4 _ _ t621 _ _ t624 t627 t641 _ ?side1 ?side2 ?side3 ?side4 A39.out).mono ?_);(case side1=>exact cq (Kd.jm HO_629000.out).2.2);(case side2=>exact (Kd.jm HO_629000.out).2.1);(case side3=>exact cq (Kd.jm HO_630000.out).2.2);(case side4=>exact (Kd.jm HO_630000.out).2.1);rintro e w43 ⟨v642,rfl,ho0,hb⟩;have HO643:=am (Kd.jV (Kd.jMb ho0 (Kd.R_lt (rq HO_6.out))) (jK (Y5)));replace HO_6:=am (Kd.job (rq HO_6.out) (Kd.jNb ho0) hb);replace HO_629000:=am (Kd.jO (rq HO_629000.out) hb);replace HO_630000:=am (Kd.jO (rq HO_630000.out) hb);replace BK628:=am (jc (g:=gb628) (o:=.cells #[.slice Ao9 t621.length co9] 37 (0,0)) (kq BK628.out) hb);replace BK629:=am (jc (g:=gb629) (o:=.cells #[.slice Ao12 t624.length co12] 32 (0,0)) (kq BK629.out) hb);replace HB:=am (jf (Y5) hb);(try clear hb);(try clear hb2);(try clear hk);(try clear hi);(try clear ho0))))
     go_loopg [8] kj4 (fun kq v8 w'=>∃ (x8_2:Int),v8=.int .i64 x8_2∧jB (jo.l0 kq t630 t641 x8_2 t624=some r)∧jB (kq≤kj4)∧jB (Kd.R (Kd.int .i64) 3 w' w.heap.size (fun k_=>some k_≠(v642:Value).ownBlock) v631 t630)∧jB (Kd.R (Kd.int .i64) 3 w' w.heap.size (fun k_=>some k_≠(v631:Value).ownBlock) v642 t641)∧jB (Kd.R k94 94 w' w.heap.size (fun _=>True) (.slice Ao9 t621.length co9) t621)∧jB (Kd.R k54 54 w' w.heap.size (fun _=>True) (.slice Ao12 t624.length co12) t624)∧jB (w'.heap[gb628]?=some (.cells #[(.slice Ao9 t621.length co9)] 37 (0,0)))∧jB (w'.heap[gb629]?=some (.cells #[(.slice Ao12 t624.length co12)] 32 (0,0)))∧jB (Below w.heap.size w w'))
     case atStart=>exact ⟨(0),(sq),H',⟨Nat.le_refl _⟩,⟨by (with_reducible repeat (first | apply Kd.jW | apply Kd.jY | apply Kd.jU));exact Kd.jH HO_6.out (fun _ hk=>hk.2)⟩,⟨by (with_reducible repeat (first | apply Kd.jW | apply Kd.jY | apply Kd.jU));exact Kd.jH HO643.out (fun _ hk=>hk.2)⟩,⟨rq HO_629000.out⟩,⟨rq HO_630000.out⟩,⟨kq BK628.out⟩,⟨kq BK629.out⟩,⟨Y5⟩⟩
     case round =>
      clear H'
      try clear c1
      try clear c2
      try clear c2b0
      try clear c2b1
      try clear p2
      try clear c3
      try clear c4
      try clear c5
      try clear c10
      try clear c17
      try clear c18
      try clear c24
      try clear c30
      try clear c33
      try clear c40
      try clear hcz11_0
      try clear hcz13_0
      try clear hcz19_0
      try clear hcz20_0
      try clear hcz25_0
      try clear hcz26_0
      try clear hcz34_0
      try clear hcz35_0
      try clear hcz41_0
      try clear hcz42_0
      try clear hfz11_0
      try clear hfz13_0
      try clear hfz19_0
      try clear hfz20_0
      try clear hfz25_0
      try clear hfz26_0
      try clear hfz34_0
      try clear hfz35_0
      try clear hfz41_0
      try clear hfz42_0
      try clear p2
      obtain ⟨x8_2,rfl,HA,HK2,HO_6,HO_7,HO_629000,HO_630000,BK628,BK629,HB⟩:=hrel
      cases gk with
      | zero=>exact absurd HA.out (by simp [jo.l0])
      | succ k2 =>
       have H:=HA.out
       clear HA
       simp only [jo.l0] at H
       by_cases c44:x8_2<(t630.length:Int)
       ·rw [if_pos c44] at H
        have c44b0:decide (x8_2<(t630.length:Int))=true:=dzT c44
        clear c44
        have HC45:=am H
        clear H
        obtain ⟨Ao46,co46,eo46⟩:=Kd.jN HO_6.out
        subst eo46
        go_upto_region 11 with (fail)
        repeat (go_quiet (fail);go_upto_region 11 with (fail))
        go_cut [87] (fun v87 wc=>∃ (kq:Nat) (x87_44:Bool),v87=.bool x87_44∧jB (jo.j2 kq t630 t641 x8_2 x87_44 t624=some r)∧jB (kq≤k2)∧jB (Kd.R (Kd.int .i64) 3 wc w.heap.size (fun k_=>some k_≠(v642:Value).ownBlock) (.slice Ao46 t630.length co46) t630)∧jB (Kd.R (Kd.int .i64) 3 wc w.heap.size (fun k_=>some k_≠((.slice Ao46 t630.length co46):Value).ownBlock) v642 t641)∧jB (Kd.R k94 94 wc w.heap.size (fun _=>True) (.slice Ao9 t621.length co9) t621)∧jB (Kd.R k54 54 wc w.heap.size (fun _=>True) (.slice Ao12 t624.length co12) t624)∧jB (wc.heap[gb628]?=some (.cells #[(.slice Ao9 t621.length co9)] 37 (0,0)))∧jB (wc.heap[gb629]?=some (.cells #[(.slice Ao12 t624.length co12)] 32 (0,0)))∧jB (Below w.heap.size w wc))
        case first =>
         have H:=HC45.out
         clear HC45
         by_cases c47:0≤x8_2
         ·rw [if_pos c47] at H
          have c47b0:=ezT c47
          have c47b1:decide (0≤x8_2)=true:=dzT c47
          clear c47
          by_cases c48:x8_2≤(t630.length:Int)
          ·rw [if_pos c48] at H
           have c48b0:=ezT c48
           have c48b1:decide (x8_2≤(t630.length:Int))=true:=dzT c48
           clear c48
           obtain ⟨y646,hy646⟩:∃ y_:List Int,y_=(t630.take (x8_2:Int).toNat):=⟨_,rfl⟩
           replace H:((jka.f k2 y646 (rd t630 x8_2)).bind fun t651=>(if t651=true then (jo.j2 k2 t630 t641 x8_2 true t624) else ((jka.f k2 t641 (rd t630 x8_2)).bind fun t653=>(if t653=true then (if x8_2 > 0 then (if 0≤(wrap64 (x8_2 - 1)) then (if (wrap64 (x8_2 - 1))<(t630.length:Int) then (if 0≤(rd t630 (wrap64 (x8_2 - 1))) then (if (rd t630 (wrap64 (x8_2 - 1)))<(t624.length:Int) then (jo.j2 k2 t630 t641 x8_2 (((jb t624 (rd t630 (wrap64 (x8_2 - 1)))).f3) != (rd t630 x8_2)) t624) else (none)) else (none)) else (none)) else (none)) else (jo.j2 k2 t630 t641 x8_2 false t624)) else (jo.j2 k2 t630 t641 x8_2 true t624)))))=some r:=by first |(rw [hy646];with_reducible exact H) |(have H2_:=(Option.bind_some _ _).symm.trans H;rw [hy646];with_reducible exact H2_) |(have H2_:=(Option.bind_some _ _).symm.trans H;with_reducible exact H2_) | with_reducible exact H |(rw [hy646];exact H) | exact H
           have Ny646:=am hy646
           clear hy646
           replace H:=bzS H
           obtain ⟨t651,A490,H⟩:=H
           replace H:(if t651=true then (jo.j2 k2 t630 t641 x8_2 true t624) else ((jka.f k2 t641 (rd t630 x8_2)).bind fun t653=>(if t653=true then (if x8_2 > 0 then (if 0≤(wrap64 (x8_2 - 1)) then (if (wrap64 (x8_2 - 1))<(t630.length:Int) then (if 0≤(rd t630 (wrap64 (x8_2 - 1))) then (if (rd t630 (wrap64 (x8_2 - 1)))<(t624.length:Int) then (jo.j2 k2 t630 t641 x8_2 (((jb t624 (rd t630 (wrap64 (x8_2 - 1)))).f3) != (rd t630 x8_2)) t624) else (none)) else (none)) else (none)) else (none)) else (jo.j2 k2 t630 t641 x8_2 false t624)) else (jo.j2 k2 t630 t641 x8_2 true t624))))=some r:=H
           have A49:=am A490
           clear A490
           by_cases c50:t651=true
           ·subst c50
            have H1:(jo.j2 k2 t630 t641 x8_2 true t624)=some r:=by rw [if_pos rfl] at H;exact H
            clear H
            have H:=H1
            clear H1
            have H':=am H
            clear H
            have q51:(x8_2:Int)≤((t630.length:Int):Int):=ozD (uq)
            obtain ⟨i051,hi051,_,hsz51,_⟩:=info_parts info3
            have hroom51:t630.length≤co46:=(Kd.jm HO_6.out).2.1
            have hC51:Kd.C (Kd.int .i64) _ Ao46 t630.length t630:=(Kd.jm HO_6.out).2.2
            have hcut51:=cut_to (P:=Try.prog) 45 3 .i64 Try.underlying45 hi051 Ao46 t630.length co46 x8_2 (ozD (uq)) q51 hroom51
            have hr51:=Kd.C_take (m:=(x8_2:Int).toNat) hC51 (by omega)
            have hy51:y646.length=(x8_2:Int).toNat:=(by rw [Ny646.out,List.length_take];omega)
            rw [← Ny646.out] at hr51
            rw [← hy51] at hcut51
            have HR649:=am hr51
            have HC649:=am (show y646.length≤co46 from by omega)
            clear hr51 hC51 hroom51 hi051 hsz51
            have KY51:=am hy51
            clear hy51
            have KL51:=am (show (x8_2:Int).toNat≤t630.length from by omega)
            replace q51:=ezT q51
            have p650:0≤(x8_2:Int):=ozD (uq)
            have q650:x8_2<(t630.length:Int):=ozD (uq)
            obtain ⟨ad650,e650,hx650_0⟩:=Kd.jYa (Kd.jm HO_6.out).2.2 x8_2 p650 q650
            cases e650
            replace p650:=ezT p650
            replace q650:=ezT q650
            go_wp2_with (first |(go_at_call 29;(with_reducible refine (jka.calls k2 _ _ y646 (rd t630 x8_2) true _ ?side1 ?side2 A49.out).mono ?_);(case side1=>exact Y40);(case side2=>exact HC649.out);rintro e w' ⟨rfl,⟨nd,rfl⟩⟩;(try first | exact ⟨rfl,_,World.drewN_drewN _ _ _⟩ | exact ⟨rfl,_,Eq.trans (World.drewN_drewN _ _ _) (congrArg (World.drewN _) (Nat.add_assoc _ _ _))⟩)))
            repeat (go_quiet (first |(go_at_call 29;(with_reducible refine (jka.calls k2 _ _ y646 (rd t630 x8_2) true _ ?side1 ?side2 A49.out).mono ?_);(case side1=>exact Y40);(case side2=>exact HC649.out);rintro e w' ⟨rfl,⟨nd,rfl⟩⟩;(try first | exact ⟨rfl,_,World.drewN_drewN _ _ _⟩ | exact ⟨rfl,_,Eq.trans (World.drewN_drewN _ _ _) (congrArg (World.drewN _) (Nat.add_assoc _ _ _))⟩)));try go_wp2_with (first |(go_at_call 29;(with_reducible refine (jka.calls k2 _ _ y646 (rd t630 x8_2) true _ ?side1 ?side2 A49.out).mono ?_);(case side1=>exact Y40);(case side2=>exact HC649.out);rintro e w' ⟨rfl,⟨nd,rfl⟩⟩;(try first | exact ⟨rfl,_,World.drewN_drewN _ _ _⟩ | exact ⟨rfl,_,Eq.trans (World.drewN_drewN _ _ _) (congrArg (World.drewN _) (Nat.add_assoc _ _ _))⟩))))
            go_meet
            case rel=>exact ⟨_,(true),(sq),H',⟨by have:=HJ4.out;have:=HK2.out;first | omega | exact Nat.le_refl _⟩,⟨rq HO_6.out⟩,⟨rq HO_7.out⟩,⟨rq HO_629000.out⟩,⟨rq HO_630000.out⟩,⟨kq BK628.out⟩,⟨kq BK629.out⟩,⟨Y5⟩⟩
           ·replace c50:=Bool.eq_false_iff.mpr c50
            subst c50
            have H1:((jka.f k2 t641 (rd t630 x8_2)).bind fun t653=>(if t653=true then (if x8_2 > 0 then (if 0≤(wrap64 (x8_2 - 1)) then (if (wrap64 (x8_2 - 1))<(t630.length:Int) then (if 0≤(rd t630 (wrap64 (x8_2 - 1))) then (if (rd t630 (wrap64 (x8_2 - 1)))<(t624.length:Int) then (jo.j2 k2 t630 t641 x8_2 (((jb t624 (rd t630 (wrap64 (x8_2 - 1)))).f3) != (rd t630 x8_2)) t624) else (none)) else (none)) else (none)) else (none)) else (jo.j2 k2 t630 t641 x8_2 false t624)) else (jo.j2 k2 t630 t641 x8_2 true t624)))=some r:=by rw [if_neg (show ¬ (false=true) by decide)] at H;exact H
            clear H
            have H:=H1
            clear H1
            replace H:=bzS H
            obtain ⟨t653,A520,H⟩:=H
            replace H:(if t653=true then (if x8_2 > 0 then (if 0≤(wrap64 (x8_2 - 1)) then (if (wrap64 (x8_2 - 1))<(t630.length:Int) then (if 0≤(rd t630 (wrap64 (x8_2 - 1))) then (if (rd t630 (wrap64 (x8_2 - 1)))<(t624.length:Int) then (jo.j2 k2 t630 t641 x8_2 (((jb t624 (rd t630 (wrap64 (x8_2 - 1)))).f3) != (rd t630 x8_2)) t624) else (none)) else (none)) else (none)) else (none)) else (jo.j2 k2 t630 t641 x8_2 false t624)) else (jo.j2 k2 t630 t641 x8_2 true t624))=some r:=H
            have A52:=am A520
            clear A520
            by_cases c53:t653=true
            ·subst c53
             have H1:(if x8_2 > 0 then (if 0≤(wrap64 (x8_2 - 1)) then (if (wrap64 (x8_2 - 1))<(t630.length:Int) then (if 0≤(rd t630 (wrap64 (x8_2 - 1))) then (if (rd t630 (wrap64 (x8_2 - 1)))<(t624.length:Int) then (jo.j2 k2 t630 t641 x8_2 (((jb t624 (rd t630 (wrap64 (x8_2 - 1)))).f3) != (rd t630 x8_2)) t624) else (none)) else (none)) else (none)) else (none)) else (jo.j2 k2 t630 t641 x8_2 false t624))=some r:=by rw [if_pos rfl] at H;exact H
             clear H
             have H:=H1
             clear H1
             by_cases c54:x8_2 > 0
             ·rw [if_pos c54] at H
              have c54b0:decide (0<x8_2)=true:=dzT c54
              clear c54
              (first | rw [c54b0] |(simp only [jqb,jwb];rw [c54b0]) | skip)
              obtain ⟨ji55,hji55⟩:∃ j_:Int,(wrap64 (x8_2 - 1))=j_:=⟨_,rfl⟩
              replace H:(if 0≤(ji55) then (if (ji55)<(t630.length:Int) then (if 0≤(rd t630 (ji55)) then (if (rd t630 (ji55))<(t624.length:Int) then (jo.j2 k2 t630 t641 x8_2 (((jb t624 (rd t630 (ji55))).f3) != (rd t630 x8_2)) t624) else (none)) else (none)) else (none)) else (none))=some r:=by first |(rw [hji55] at H;exact H) |(simp only [hji55] at H ⊢;exact H)
              (try rw [hji55] at A49)
              (try rw [hji55] at A52)
              have hji55w:(IntKind.i64.wrap (x8_2 - 1))=ji55:=(jqb _).trans hji55
              by_cases c56:0≤(ji55)
              ·rw [if_pos c56] at H
               have c56b0:decide (0≤(ji55))=true:=dzT c56
               clear c56
               by_cases c57:(ji55)<(t630.length:Int)
               ·rw [if_pos c57] at H
                have c57b0:decide ((ji55)<(t630.length:Int))=true:=dzT c57
                clear c57
                by_cases c58:0≤(rd t630 (ji55))
                ·rw [if_pos c58] at H
                 have c58b0:decide (0≤(rd t630 (ji55)))=true:=dzT c58
                 clear c58
                 by_cases c59:(rd t630 (ji55))<(t624.length:Int)
                 ·rw [if_pos c59] at H
                  have c59b0:decide ((rd t630 (ji55))<(t624.length:Int))=true:=dzT c59
                  clear c59
                  have H':=am H
                  clear H
                  have q60:(x8_2:Int)≤((t630.length:Int):Int):=ozD (uq)
                  obtain ⟨i060,hi060,_,hsz60,_⟩:=info_parts info3
                  have hroom60:t630.length≤co46:=(Kd.jm HO_6.out).2.1
                  have hC60:Kd.C (Kd.int .i64) _ Ao46 t630.length t630:=(Kd.jm HO_6.out).2.2
                  have hcut60:=cut_to (P:=Try.prog) 45 3 .i64 Try.underlying45 hi060 Ao46 t630.length co46 x8_2 (ozD (uq)) q60 hroom60
                  have hr60:=Kd.C_take (m:=(x8_2:Int).toNat) hC60 (by omega)
                  have hy60:y646.length=(x8_2:Int).toNat:=(by rw [Ny646.out,List.length_take];omega)
                  rw [← Ny646.out] at hr60
                  rw [← hy60] at hcut60
                  have HR649:=am hr60
                  have HC649:=am (show y646.length≤co46 from by omega)
                  clear hr60 hC60 hroom60 hi060 hsz60
                  have KY60:=am hy60
                  clear hy60
                  have KL60:=am (show (x8_2:Int).toNat≤t630.length from by omega)
                  replace q60:=ezT q60
                  have p650:0≤(x8_2:Int):=ozD (uq)
                  have q650:x8_2<(t630.length:Int):=ozD (uq)
                  obtain ⟨ad650,e650,hx650_0⟩:=Kd.jYa (Kd.jm HO_6.out).2.2 x8_2 p650 q650
                  cases e650
                  replace p650:=ezT p650
                  replace q650:=ezT q650
                  have p652:0≤(x8_2:Int):=ozD (uq)
                  have q652:x8_2<(t630.length:Int):=ozD (uq)
                  obtain ⟨ad652,e652,hx652_0⟩:=Kd.jYa (Kd.jm HO_6.out).2.2 x8_2 p652 q652
                  obtain rfl:ad650=ad652:=(by injection e652)
                  replace p652:=ezT p652
                  replace q652:=ezT q652
                  obtain ⟨Ao61,co61,eo61⟩:=Kd.jN HO_7.out
                  subst eo61
                  have hnb62:=NB629_628.out
                  have hnc62:=NB628_629.out
                  have hcz63_0:=bc0 BK629.out
                  have hfz63_0:=je BK629.out 0
                  have p654:0≤((ji55):Int):=ozD (uq)
                  have q654:(ji55)<(t630.length:Int):=ozD (uq)
                  obtain ⟨ad654,e654,hx654_0⟩:=Kd.jYa (Kd.jm HO_6.out).2.2 (ji55) p654 q654
                  obtain rfl:ad650=ad654:=(by injection e654)
                  replace p654:=ezT p654
                  replace q654:=ezT q654
                  have p655:0≤((rd t630 (ji55)):Int):=ozD (uq)
                  have q655:(rd t630 (ji55))<(t624.length:Int):=ozD (uq)
                  obtain ⟨ad655,e655,hx655_0,hx655_1,hx655_2,hx655_3,hx655_4⟩:=jpb (Kd.jm HO_630000.out).2.2 (rd t630 (ji55)) p655 q655
                  cases e655
                  replace p655:=ezT p655
                  replace q655:=ezT q655
                  have p656:0≤(x8_2:Int):=ozD (uq)
                  have q656:x8_2<(t630.length:Int):=ozD (uq)
                  obtain ⟨ad656,e656,hx656_0⟩:=Kd.jYa (Kd.jm HO_6.out).2.2 x8_2 p656 q656
                  obtain rfl:ad650=ad656:=(by injection e656)
                  replace p656:=ezT p656
                  replace q656:=ezT q656
                  go_wp2_with (first |(go_at_call 29;(with_reducible refine (jka.calls k2 _ _ y646 (rd t630 x8_2) false _ ?side1 ?side2 A49.out).mono ?_);(case side1=>exact Y40);(case side2=>exact HC649.out);rintro e w' ⟨rfl,⟨nd,rfl⟩⟩;(try first | exact ⟨rfl,_,World.drewN_drewN _ _ _⟩ | exact ⟨rfl,_,Eq.trans (World.drewN_drewN _ _ _) (congrArg (World.drewN _) (Nat.add_assoc _ _ _))⟩)) |(go_at_call 29;(with_reducible refine (jka.calls k2 _ _ t641 (rd t630 x8_2) true _ ?side1 ?side2 A52.out).mono ?_);(case side1=>exact cq (Kd.jm HO_7.out).2.2);(case side2=>exact (Kd.jm HO_7.out).2.1);rintro e w' ⟨rfl,⟨nd,rfl⟩⟩;(try first | exact ⟨rfl,_,World.drewN_drewN _ _ _⟩ | exact ⟨rfl,_,Eq.trans (World.drewN_drewN _ _ _) (congrArg (World.drewN _) (Nat.add_assoc _ _ _))⟩)))
                  repeat (go_quiet (first |(go_at_call 29;(with_reducible refine (jka.calls k2 _ _ y646 (rd t630 x8_2) false _ ?side1 ?side2 A49.out).mono ?_);(case side1=>exact Y40);(case side2=>exact HC649.out);rintro e w' ⟨rfl,⟨nd,rfl⟩⟩;(try first | exact ⟨rfl,_,World.drewN_drewN _ _ _⟩ | exact ⟨rfl,_,Eq.trans (World.drewN_drewN _ _ _) (congrArg (World.drewN _) (Nat.add_assoc _ _ _))⟩)) |(go_at_call 29;(with_reducible refine (jka.calls k2 _ _ t641 (rd t630 x8_2) true _ ?side1 ?side2 A52.out).mono ?_);(case side1=>exact cq (Kd.jm HO_7.out).2.2);(case side2=>exact (Kd.jm HO_7.out).2.1);rintro e w' ⟨rfl,⟨nd,rfl⟩⟩;(try first | exact ⟨rfl,_,World.drewN_drewN _ _ _⟩ | exact ⟨rfl,_,Eq.trans (World.drewN_drewN _ _ _) (congrArg (World.drewN _) (Nat.add_assoc _ _ _))⟩)));try go_wp2_with (first |(go_at_call 29;(with_reducible refine (jka.calls k2 _ _ y646 (rd t630 x8_2) false _ ?side1 ?side2 A49.out).mono ?_);(case side1=>exact Y40);(case side2=>exact HC649.out);rintro e w' ⟨rfl,⟨nd,rfl⟩⟩;(try first | exact ⟨rfl,_,World.drewN_drewN _ _ _⟩ | exact ⟨rfl,_,Eq.trans (World.drewN_drewN _ _ _) (congrArg (World.drewN _) (Nat.add_assoc _ _ _))⟩)) |(go_at_call 29;(with_reducible refine (jka.calls k2 _ _ t641 (rd t630 x8_2) true _ ?side1 ?side2 A52.out).mono ?_);(case side1=>exact cq (Kd.jm HO_7.out).2.2);(case side2=>exact (Kd.jm HO_7.out).2.1);rintro e w' ⟨rfl,⟨nd,rfl⟩⟩;(try first | exact ⟨rfl,_,World.drewN_drewN _ _ _⟩ | exact ⟨rfl,_,Eq.trans (World.drewN_drewN _ _ _) (congrArg (World.drewN _) (Nat.add_assoc _ _ _))⟩))))
                  go_meet
                  case rel=>exact ⟨_,((((jb t624 (rd t630 (ji55))).f3) != (rd t630 x8_2))),(by first | rfl |(simp;done) |(simp only [← hji55] <;> (first | rfl | simp)) |(simp [*];done)),H',⟨by have:=HJ4.out;have:=HK2.out;first | omega | exact Nat.le_refl _⟩,⟨rq HO_6.out⟩,⟨rq HO_7.out⟩,⟨rq HO_629000.out⟩,⟨rq HO_630000.out⟩,⟨kq BK628.out⟩,⟨kq BK629.out⟩,⟨Y5⟩⟩
                 ·rw [if_neg c59] at H
                  exact absurd H (by simp)
                ·rw [if_neg c58] at H
                 exact absurd H (by simp)
               ·rw [if_neg c57] at H
                exact absurd H (by simp)
              ·rw [if_neg c56] at H
               exact absurd H (by simp)
             ·rw [if_neg c54] at H
              have c54b0:decide (0<x8_2)=false:=dzF c54
              clear c54
              (first | rw [c54b0] |(simp only [jqb,jwb];rw [c54b0]) | skip)
              have H':=am H
              clear H
              have q64:(x8_2:Int)≤((t630.length:Int):Int):=ozD (uq)
              obtain ⟨i064,hi064,_,hsz64,_⟩:=info_parts info3
              have hroom64:t630.length≤co46:=(Kd.jm HO_6.out).2.1
              have hC64:Kd.C (Kd.int .i64) _ Ao46 t630.length t630:=(Kd.jm HO_6.out).2.2
              have hcut64:=cut_to (P:=Try.prog) 45 3 .i64 Try.underlying45 hi064 Ao46 t630.length co46 x8_2 (ozD (uq)) q64 hroom64
              have hr64:=Kd.C_take (m:=(x8_2:Int).toNat) hC64 (by omega)
              have hy64:y646.length=(x8_2:Int).toNat:=(by rw [Ny646.out,List.length_take];omega)
              rw [← Ny646.out] at hr64
              rw [← hy64] at hcut64
              have HR649:=am hr64
              have HC649:=am (show y646.length≤co46 from by omega)
              clear hr64 hC64 hroom64 hi064 hsz64
              have KY64:=am hy64
              clear hy64
              have KL64:=am (show (x8_2:Int).toNat≤t630.length from by omega)
              replace q64:=ezT q64
              have p650:0≤(x8_2:Int):=ozD (uq)
              have q650:x8_2<(t630.length:Int):=ozD (uq)
              obtain ⟨ad650,e650,hx650_0⟩:=Kd.jYa (Kd.jm HO_6.out).2.2 x8_2 p650 q650
              cases e650
              replace p650:=ezT p650
              replace q650:=ezT q650
              have p652:0≤(x8_2:Int):=ozD (uq)
              have q652:x8_2<(t630.length:Int):=ozD (uq)
              obtain ⟨ad652,e652,hx652_0⟩:=Kd.jYa (Kd.jm HO_6.out).2.2 x8_2 p652 q652
              obtain rfl:ad650=ad652:=(by injection e652)
              replace p652:=ezT p652
              replace q652:=ezT q652
              obtain ⟨Ao65,co65,eo65⟩:=Kd.jN HO_7.out
              subst eo65
              go_wp2_with (first |(go_at_call 29;(with_reducible refine (jka.calls k2 _ _ y646 (rd t630 x8_2) false _ ?side1 ?side2 A49.out).mono ?_);(case side1=>exact Y40);(case side2=>exact HC649.out);rintro e w' ⟨rfl,⟨nd,rfl⟩⟩;(try first | exact ⟨rfl,_,World.drewN_drewN _ _ _⟩ | exact ⟨rfl,_,Eq.trans (World.drewN_drewN _ _ _) (congrArg (World.drewN _) (Nat.add_assoc _ _ _))⟩)) |(go_at_call 29;(with_reducible refine (jka.calls k2 _ _ t641 (rd t630 x8_2) true _ ?side1 ?side2 A52.out).mono ?_);(case side1=>exact cq (Kd.jm HO_7.out).2.2);(case side2=>exact (Kd.jm HO_7.out).2.1);rintro e w' ⟨rfl,⟨nd,rfl⟩⟩;(try first | exact ⟨rfl,_,World.drewN_drewN _ _ _⟩ | exact ⟨rfl,_,Eq.trans (World.drewN_drewN _ _ _) (congrArg (World.drewN _) (Nat.add_assoc _ _ _))⟩)))
              repeat (go_quiet (first |(go_at_call 29;(with_reducible refine (jka.calls k2 _ _ y646 (rd t630 x8_2) false _ ?side1 ?side2 A49.out).mono ?_);(case side1=>exact Y40);(case side2=>exact HC649.out);rintro e w' ⟨rfl,⟨nd,rfl⟩⟩;(try first | exact ⟨rfl,_,World.drewN_drewN _ _ _⟩ | exact ⟨rfl,_,Eq.trans (World.drewN_drewN _ _ _) (congrArg (World.drewN _) (Nat.add_assoc _ _ _))⟩)) |(go_at_call 29;(with_reducible refine (jka.calls k2 _ _ t641 (rd t630 x8_2) true _ ?side1 ?side2 A52.out).mono ?_);(case side1=>exact cq (Kd.jm HO_7.out).2.2);(case side2=>exact (Kd.jm HO_7.out).2.1);rintro e w' ⟨rfl,⟨nd,rfl⟩⟩;(try first | exact ⟨rfl,_,World.drewN_drewN _ _ _⟩ | exact ⟨rfl,_,Eq.trans (World.drewN_drewN _ _ _) (congrArg (World.drewN _) (Nat.add_assoc _ _ _))⟩)));try go_wp2_with (first |(go_at_call 29;(with_reducible refine (jka.calls k2 _ _ y646 (rd t630 x8_2) false _ ?side1 ?side2 A49.out).mono ?_);(case side1=>exact Y40);(case side2=>exact HC649.out);rintro e w' ⟨rfl,⟨nd,rfl⟩⟩;(try first | exact ⟨rfl,_,World.drewN_drewN _ _ _⟩ | exact ⟨rfl,_,Eq.trans (World.drewN_drewN _ _ _) (congrArg (World.drewN _) (Nat.add_assoc _ _ _))⟩)) |(go_at_call 29;(with_reducible refine (jka.calls k2 _ _ t641 (rd t630 x8_2) true _ ?side1 ?side2 A52.out).mono ?_);(case side1=>exact cq (Kd.jm HO_7.out).2.2);(case side2=>exact (Kd.jm HO_7.out).2.1);rintro e w' ⟨rfl,⟨nd,rfl⟩⟩;(try first | exact ⟨rfl,_,World.drewN_drewN _ _ _⟩ | exact ⟨rfl,_,Eq.trans (World.drewN_drewN _ _ _) (congrArg (World.drewN _) (Nat.add_assoc _ _ _))⟩))))
              go_meet
              case rel=>exact ⟨_,(false),(sq),H',⟨by have:=HJ4.out;have:=HK2.out;first | omega | exact Nat.le_refl _⟩,⟨rq HO_6.out⟩,⟨rq HO_7.out⟩,⟨rq HO_629000.out⟩,⟨rq HO_630000.out⟩,⟨kq BK628.out⟩,⟨kq BK629.out⟩,⟨Y5⟩⟩
            ·replace c53:=Bool.eq_false_iff.mpr c53
             subst c53
             have H1:(jo.j2 k2 t630 t641 x8_2 true t624)=some r:=by rw [if_neg (show ¬ (false=true) by decide)] at H;exact H
             clear H
             have H:=H1
             clear H1
             have H':=am H
             clear H
             have q66:(x8_2:Int)≤((t630.length:Int):Int):=ozD (uq)
             obtain ⟨i066,hi066,_,hsz66,_⟩:=info_parts info3
             have hroom66:t630.length≤co46:=(Kd.jm HO_6.out).2.1
             have hC66:Kd.C (Kd.int .i64) _ Ao46 t630.length t630:=(Kd.jm HO_6.out).2.2
             have hcut66:=cut_to (P:=Try.prog) 45 3 .i64 Try.underlying45 hi066 Ao46 t630.length co46 x8_2 (ozD (uq)) q66 hroom66
             have hr66:=Kd.C_take (m:=(x8_2:Int).toNat) hC66 (by omega)
             have hy66:y646.length=(x8_2:Int).toNat:=(by rw [Ny646.out,List.length_take];omega)
             rw [← Ny646.out] at hr66
             rw [← hy66] at hcut66
             have HR649:=am hr66
             have HC649:=am (show y646.length≤co46 from by omega)
             clear hr66 hC66 hroom66 hi066 hsz66
             have KY66:=am hy66
             clear hy66
             have KL66:=am (show (x8_2:Int).toNat≤t630.length from by omega)
             replace q66:=ezT q66
             have p650:0≤(x8_2:Int):=ozD (uq)
             have q650:x8_2<(t630.length:Int):=ozD (uq)
             obtain ⟨ad650,e650,hx650_0⟩:=Kd.jYa (Kd.jm HO_6.out).2.2 x8_2 p650 q650
             cases e650
             replace p650:=ezT p650
             replace q650:=ezT q650
             have p652:0≤(x8_2:Int):=ozD (uq)
             have q652:x8_2<(t630.length:Int):=ozD (uq)
             obtain ⟨ad652,e652,hx652_0⟩:=Kd.jYa (Kd.jm HO_6.out).2.2 x8_2 p652 q652
             obtain rfl:ad650=ad652:=(by injection e652)
             replace p652:=ezT p652
             replace q652:=ezT q652
             obtain ⟨Ao67,co67,eo67⟩:=Kd.jN HO_7.out
             subst eo67
             go_wp2_with (first |(go_at_call 29;(with_reducible refine (jka.calls k2 _ _ y646 (rd t630 x8_2) false _ ?side1 ?side2 A49.out).mono ?_);(case side1=>exact Y40);(case side2=>exact HC649.out);rintro e w' ⟨rfl,⟨nd,rfl⟩⟩;(try first | exact ⟨rfl,_,World.drewN_drewN _ _ _⟩ | exact ⟨rfl,_,Eq.trans (World.drewN_drewN _ _ _) (congrArg (World.drewN _) (Nat.add_assoc _ _ _))⟩)) |(go_at_call 29;(with_reducible refine (jka.calls k2 _ _ t641 (rd t630 x8_2) false _ ?side1 ?side2 A52.out).mono ?_);(case side1=>exact cq (Kd.jm HO_7.out).2.2);(case side2=>exact (Kd.jm HO_7.out).2.1);rintro e w' ⟨rfl,⟨nd,rfl⟩⟩;(try first | exact ⟨rfl,_,World.drewN_drewN _ _ _⟩ | exact ⟨rfl,_,Eq.trans (World.drewN_drewN _ _ _) (congrArg (World.drewN _) (Nat.add_assoc _ _ _))⟩)))
             repeat (go_quiet (first |(go_at_call 29;(with_reducible refine (jka.calls k2 _ _ y646 (rd t630 x8_2) false _ ?side1 ?side2 A49.out).mono ?_);(case side1=>exact Y40);(case side2=>exact HC649.out);rintro e w' ⟨rfl,⟨nd,rfl⟩⟩;(try first | exact ⟨rfl,_,World.drewN_drewN _ _ _⟩ | exact ⟨rfl,_,Eq.trans (World.drewN_drewN _ _ _) (congrArg (World.drewN _) (Nat.add_assoc _ _ _))⟩)) |(go_at_call 29;(with_reducible refine (jka.calls k2 _ _ t641 (rd t630 x8_2) false _ ?side1 ?side2 A52.out).mono ?_);(case side1=>exact cq (Kd.jm HO_7.out).2.2);(case side2=>exact (Kd.jm HO_7.out).2.1);rintro e w' ⟨rfl,⟨nd,rfl⟩⟩;(try first | exact ⟨rfl,_,World.drewN_drewN _ _ _⟩ | exact ⟨rfl,_,Eq.trans (World.drewN_drewN _ _ _) (congrArg (World.drewN _) (Nat.add_assoc _ _ _))⟩)));try go_wp2_with (first |(go_at_call 29;(with_reducible refine (jka.calls k2 _ _ y646 (rd t630 x8_2) false _ ?side1 ?side2 A49.out).mono ?_);(case side1=>exact Y40);(case side2=>exact HC649.out);rintro e w' ⟨rfl,⟨nd,rfl⟩⟩;(try first | exact ⟨rfl,_,World.drewN_drewN _ _ _⟩ | exact ⟨rfl,_,Eq.trans (World.drewN_drewN _ _ _) (congrArg (World.drewN _) (Nat.add_assoc _ _ _))⟩)) |(go_at_call 29;(with_reducible refine (jka.calls k2 _ _ t641 (rd t630 x8_2) false _ ?side1 ?side2 A52.out).mono ?_);(case side1=>exact cq (Kd.jm HO_7.out).2.2);(case side2=>exact (Kd.jm HO_7.out).2.1);rintro e w' ⟨rfl,⟨nd,rfl⟩⟩;(try first | exact ⟨rfl,_,World.drewN_drewN _ _ _⟩ | exact ⟨rfl,_,Eq.trans (World.drewN_drewN _ _ _) (congrArg (World.drewN _) (Nat.add_assoc _ _ _))⟩))))
             go_meet
             case rel=>exact ⟨_,(true),(sq),H',⟨by have:=HJ4.out;have:=HK2.out;first | omega | exact Nat.le_refl _⟩,⟨rq HO_6.out⟩,⟨rq HO_7.out⟩,⟨rq HO_629000.out⟩,⟨rq HO_630000.out⟩,⟨kq BK628.out⟩,⟨kq BK629.out⟩,⟨Y5⟩⟩
          ·rw [if_neg c48] at H
           exact absurd H (by simp)
         ·rw [if_neg c47] at H
          exact absurd H (by simp)
        case rest =>
         clear HC45
         try clear c1
         try clear c2
         try clear c2b0
         try clear c2b1
         try clear p2
         try clear c3
         try clear c4
         try clear c5
         try clear q5
         try clear c6
         try clear p6
         try clear q6
         try clear hx6
         try clear c10
         try clear c17
         try clear c18
         try clear c24
         try clear c30
         try clear c33
         try clear c40
         try clear c44
         try clear c44b0
         try clear c47
         try clear c47b0
         try clear c47b1
         try clear c48
         try clear c48b0
         try clear c48b1
         try clear c50
         try clear q51
         try clear c53
         try clear c54
         try clear c54b0
         try clear c56
         try clear c56b0
         try clear c57
         try clear c57b0
         try clear c58
         try clear c58b0
         try clear c59
         try clear c59b0
         try clear q60
         try clear c62
         try clear p64
         try clear q64
         try clear p65
         try clear q65
         try clear hx65
         try clear q66
         try clear hcz11_0
         try clear hcz13_0
         try clear hcz19_0
         try clear hcz20_0
         try clear hcz25_0
         try clear hcz26_0
         try clear hcz34_0
         try clear hcz35_0
         try clear hcz41_0
         try clear hcz42_0
         try clear hcz63_0
         try clear hfz11_0
         try clear hfz13_0
         try clear hfz19_0
         try clear hfz20_0
         try clear hfz25_0
         try clear hfz26_0
         try clear hfz34_0
         try clear hfz35_0
         try clear hfz41_0
         try clear hfz42_0
         try clear hfz63_0
         try clear hx650_0
         try clear hx652_0
         try clear hx654_0
         try clear hx655_0
         try clear hx655_1
         try clear hx655_2
         try clear hx655_3
         try clear hx655_4
         try clear hx656_0
         try clear p2
         try clear p650
         try clear p652
         try clear p654
         try clear p655
         try clear p656
         try clear q51
         try clear q60
         try clear q64
         try clear q650
         try clear q652
         try clear q654
         try clear q655
         try clear q656
         try clear q66
         obtain ⟨kq,x87_44,rfl,HA,HJ44,HO_6,HO_7,HO_629000,HO_630000,BK628,BK629,HB⟩:=hcut
         cases kq with
         | zero=>exact absurd HA.out (by simp [jo.j2])
         | succ kj44 =>
          have H:=HA.out
          clear HA
          simp only [jo.j2] at H
          by_cases c68:x87_44=true
          ·subst c68
           have H1:(some false)=some r:=by rw [if_pos rfl] at H;exact H
           clear H
           have H:=H1
           clear H1
           exact absurd ((Option.some.inj H).trans hT) Bool.false_ne_true
          ·replace c68:=Bool.eq_false_iff.mpr c68
           subst c68
           have H1:(jo.l0 kj44 t630 t641 (wrap64 (x8_2+1)) t624)=some r:=by rw [if_neg (show ¬ (false=true) by decide)] at H;exact H
           clear H
           have H:=H1
           clear H1
           have H':=am H
           clear H
           go_wp2
           repeat (go_quiet (fail);try go_wp2)
           go_roundg kj44
           case measure=>have:=HJ4.out;have:=HK2.out;have:=HJ44.out;omega
           case rel=>exact ⟨(wrap64 (x8_2+1)),(sq),H',⟨by have:=HJ4.out;have:=HK2.out;have:=HJ44.out;omega⟩,⟨rq HO_6.out⟩,⟨rq HO_7.out⟩,⟨rq HO_629000.out⟩,⟨rq HO_630000.out⟩,⟨kq BK628.out⟩,⟨kq BK629.out⟩,⟨Y5⟩⟩
       ·rw [if_neg c44] at H
        have c44b0:decide (x8_2<(t630.length:Int))=false:=dzF c44
        clear c44
        obtain ⟨ji69,hji69⟩:∃ j_:Int,(wrap64 ((t630.length:Int) - 1))=j_:=⟨_,rfl⟩
        replace H:(if 0≤(ji69) then (if (ji69)<(t630.length:Int) then (if 0≤(rd t630 (ji69)) then (if (rd t630 (ji69))<(t624.length:Int) then (some (((jb t624 (rd t630 (ji69))).f3) == (-1))) else (none)) else (none)) else (none)) else (none))=some r:=by first |(rw [hji69] at H;exact H) |(simp only [hji69] at H ⊢;exact H)
        have hji69w:(IntKind.i64.wrap ((t630.length:Int) - 1))=ji69:=(jqb _).trans hji69
        by_cases c70:0≤(ji69)
        ·rw [if_pos c70] at H
         have c70b0:decide (0≤(ji69))=true:=dzT c70
         clear c70
         by_cases c71:(ji69)<(t630.length:Int)
         ·rw [if_pos c71] at H
          have c71b0:decide ((ji69)<(t630.length:Int))=true:=dzT c71
          clear c71
          by_cases c72:0≤(rd t630 (ji69))
          ·rw [if_pos c72] at H
           have c72b0:decide (0≤(rd t630 (ji69)))=true:=dzT c72
           clear c72
           by_cases c73:(rd t630 (ji69))<(t624.length:Int)
           ·rw [if_pos c73] at H
            have c73b0:decide ((rd t630 (ji69))<(t624.length:Int))=true:=dzT c73
            clear c73
            obtain rfl:=Option.some.inj H
            obtain ⟨Ao74,co74,eo74⟩:=Kd.jN HO_6.out
            subst eo74
            have hnb75:=NB629_628.out
            have hnc75:=NB628_629.out
            have hcz76_0:=bc0 BK629.out
            have hfz76_0:=je BK629.out 0
            have p644:0≤((ji69):Int):=ozD (uq)
            have q644:(ji69)<(t630.length:Int):=ozD (uq)
            obtain ⟨ad644,e644,hx644_0⟩:=Kd.jYa (Kd.jm HO_6.out).2.2 (ji69) p644 q644
            cases e644
            replace p644:=ezT p644
            replace q644:=ezT q644
            have p645:0≤((rd t630 (ji69)):Int):=ozD (uq)
            have q645:(rd t630 (ji69))<(t624.length:Int):=ozD (uq)
            obtain ⟨ad645,e645,hx645_0,hx645_1,hx645_2,hx645_3,hx645_4⟩:=jpb (Kd.jm HO_630000.out).2.2 (rd t630 (ji69)) p645 q645
            cases e645
            replace p645:=ezT p645
            replace q645:=ezT q645
            go_wp2
            repeat (go_quiet (fail);try go_wp2)
            go_ret
            exact ⟨by first | rfl |(simp [jkb,jjb] <;> rfl) |(simp only [← hji69];first | rfl |(simp [jkb,jjb] <;> rfl)) |(simp [*,jkb,jjb] <;> rfl),Y5⟩
           ·rw [if_neg c73] at H
            exact absurd H (by simp)
          ·rw [if_neg c72] at H
           exact absurd H (by simp)
         ·rw [if_neg c71] at H
          exact absurd H (by simp)
        ·rw [if_neg c70] at H
         exact absurd H (by simp)
def jo.Pure : Prop := ∀ (l0 : List Int), l0.length ≤ maxLen → l0.length * 1 ≤ 140737488351232 → (∀ x ∈ l0, (Lit.int .u8 x).wf = true) → ∃ k, jo.f k l0 = some true
theorem jo.walk (P : jo.Pure) (a0 : Option Addr) (len0 cap0 : Nat) (z0 : List Int) (w : World) (w0 : (a0 = none ∧ len0 = 0 ∧ cap0 = 0 ∧ z0 = []) ∨ ∃ x, a0 = some x ∧ len0 ≤ cap0 ∧ cap0 ≤ maxLen ∧ z0.length = cap0 ∧ (∀ i, i < z0.length → w.cell? (x.add i) = some (.int .u8 (z0.getD i 0))) ∧ ∀ n ∈ z0, (Lit.int .u8 n).wf = true) (y0 : len0 * 1 ≤ 140737488351232) :
  Calls Try.prog 5 #[.slice a0 len0 cap0] w fun e w'=>e=.returned (.bool true)∧Below w.heap.size w w':=by
 obtain ⟨l0,rfl,hr0,hm0,hw0,hc0⟩:=jZa.ofRowC w0
 obtain ⟨k,h⟩:=P l0 hm0 y0 hw0
 refine (jo.calls k _ _ l0 true w (Kd.C_of_reads (d:=(0:Int)) (h1:=fun _=>rfl) hr0) hc0 rfl h).mono ?_
 rintro e w' ⟨rfl,hd⟩
 exact ⟨rfl,hd⟩
end Go.Proofs.Ytecdfgejmbpclaa.P
end
