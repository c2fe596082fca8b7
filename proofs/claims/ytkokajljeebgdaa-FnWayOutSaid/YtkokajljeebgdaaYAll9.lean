/- One part of the proofs on this program: functions of the program as plain functions, that the code comes to them, and facts on them. -/
import Derived.Test.YtkokajljeebgdaaYAll1
import Derived.Test.YtkokajljeebgdaaYAll2
import Derived.Test.YtkokajljeebgdaaYAll6
import Derived.Test.YtkokajljeebgdaaYAll7
import Derived.Test.YtkokajljeebgdaaYAll8
import Derived.Test.YtkokajljeebgdaaYWAuto
section
namespace Go.Proofs.Ytkokajljeebgdaa.P
open Go.RowKit Go.Proofs.YtkokajljeebgdaaW.PrintWords Go.Proofs.YtkokajljeebgdaaW.PrintLast Go.Proofs.YtkokajljeebgdaaW.PrintMore
attribute [local go_sem] jqa joa jBa jAa jfa jea jpa jna jk
set_option linter.unusedVariables false
set_option linter.unusedSimpArgs false
mutual
def jl.j0 : Nat → List (S52) → Int → List Int → Bool → List (S87) → Option (Bool)
 | 0,_,_,_,_,_=>none
 | k+1,x4,x5,x6,x44,x630000=>if x44=true then ((jGa.f k x630000 x4 x5).bind fun t638=>((jV.f k x6 t638).bind fun t641=>(some t641))) else (jl.l0 k x4 x5 x6 0)
def jl.l0 : Nat → List (S52) → Int → List Int → Int → Option (Bool)
 | 0,_,_,_,_=>none
 | k+1,x4,x5,x6,x7=>if x7<(x6.length:Int) then (if 0≤x7 then (if 0≤(rd x6 x7) then (if (rd x6 x7)<(x4.length:Int) then (if x7≤(x6.length:Int) then ((jLa.f k (x6.take (x7:Int).toNat) (rd x6 x7)).bind fun t650=>(if t650=true then (jl.j2 k x4 x5 x6 x7 true) else (if ((jc x4 (rd x6 x7)).f1)=11 then (if (rd x6 x7)≥x5 then (jl.j2 k x4 x5 x6 x7 true) else (if 0≤x5 then (if x5<(x4.length:Int) then (jl.j2 k x4 x5 x6 x7 (decide (((jc x4 (rd x6 x7)).f0)≥((jc x4 x5).f0)))) else (none)) else (none))) else (if ((jc x4 (rd x6 x7)).f1)=10 then (if 0≤x5 then (if x5<(x4.length:Int) then (jl.j2 k x4 x5 x6 x7 (decide (((jc x4 (rd x6 x7)).f0)≥((jc x4 x5).f0)))) else (none)) else (none)) else (jl.j2 k x4 x5 x6 x7 true))))) else (none)) else (none)) else (none)) else (none)) else (if 0≤x5 then (if x5<(x4.length:Int) then (some (decide ((x6.length:Int)≤((jc x4 x5).f0)))) else (none)) else (none))
def jl.j2 : Nat → List (S52) → Int → List Int → Int → Bool → Option (Bool)
 | 0,_,_,_,_,_=>none
 | k+1,x4,x5,x6,x7,x108=>if x108=true then (some false) else (jl.l0 k x4 x5 x6 (wrap64 (x7+1)))
end
def jl.f (k : Nat) (l0 : List Int) : Option (Bool) := if (l0.length : Int) > 1048576 then (some true) else ((jrb.f k l0).bind fun bt622 => ((jHb.f k bt622.1 bt622.2.1 bt622.2.2).bind fun t630 => ((jGa.f k bt622.1 bt622.2.1 bt622.2.2).bind fun t633 => ((jV.f k t630 t633).bind fun t636 => (if t636 = true then ((jr.f k bt622.1 bt622.2.1).bind fun t637 => (if t637 = true then (if bt622.2.2 < 0 then (jl.j0 k bt622.2.1 bt622.2.2 t630 true bt622.1) else (jl.j0 k bt622.2.1 bt622.2.2 t630 (decide (bt622.2.2 ≥ (bt622.2.1.length : Int))) bt622.1)) else (jl.j0 k bt622.2.1 bt622.2.2 t630 true bt622.1))) else (jl.j0 k bt622.2.1 bt622.2.2 t630 true bt622.1))))))
set_option maxHeartbeats 8000000 in
set_option maxRecDepth 100000 in
theorem jl.calls (k : Nat) (A0 : Option Addr) (c0 : Nat) (l0 : List Int) (r : Bool) (w : World) (hr0 : Kd.C (Kd.int .u8) w A0 l0.length l0) (hc0 : l0.length ≤ c0) (hT : r = true) (h : jl.f k l0 = some r) :
  Calls Try.prog 8 #[.slice A0 l0.length c0] w fun e w'=>e=.returned (.bool r)∧Below w.heap.size w w':=by
 have hu32:=Try.underlying32
 have HR0:=am hr0
 have HC0:=am hc0
 clear hr0 hc0
 have HB:=am (Below.refl w.heap.size w)
 have H:(if (l0.length:Int) > 1048576 then (some true) else ((jrb.f k l0).bind fun bt622=>((jHb.f k bt622.1 bt622.2.1 bt622.2.2).bind fun t630=>((jGa.f k bt622.1 bt622.2.1 bt622.2.2).bind fun t633=>((jV.f k t630 t633).bind fun t636=>(if t636=true then ((jr.f k bt622.1 bt622.2.1).bind fun t637=>(if t637=true then (if bt622.2.2<0 then (jl.j0 k bt622.2.1 bt622.2.2 t630 true bt622.1) else (jl.j0 k bt622.2.1 bt622.2.2 t630 (decide (bt622.2.2≥(bt622.2.1.length:Int))) bt622.1)) else (jl.j0 k bt622.2.1 bt622.2.2 t630 true bt622.1))) else (jl.j0 k bt622.2.1 bt622.2.2 t630 true bt622.1)))))))=some r:=h
 clear h
 by_cases c2:(l0.length:Int) > 1048576
 ·rw [if_pos c2] at H
  have c2b0:decide (1048576<(l0.length:Int))=true:=dzT c2
  have c2b1:decide (1048576<l0.length)=true:=dzT (by omega)
  clear c2
  obtain rfl:=Option.some.inj H
  go_enter Try.func8,Try.ntmps8
  go_wp2
  repeat (go_quiet (fail);try go_wp2)
  go_ret
  exact ⟨Y0,bq⟩
 ·rw [if_neg c2] at H
  have c2b0:decide (1048576<(l0.length:Int))=false:=dzF c2
  have c2b1:decide (1048576<l0.length)=false:=dzF (by omega)
  clear c2
  replace H:=bzS H
  obtain ⟨⟨t622,t625,t628⟩,A30,H⟩:=H
  replace H:((jHb.f k t622 t625 t628).bind fun t630=>((jGa.f k t622 t625 t628).bind fun t633=>((jV.f k t630 t633).bind fun t636=>(if t636=true then ((jr.f k t622 t625).bind fun t637=>(if t637=true then (if t628<0 then (jl.j0 k t625 t628 t630 true t622) else (jl.j0 k t625 t628 t630 (decide (t628≥(t625.length:Int))) t622)) else (jl.j0 k t625 t628 t630 true t622))) else (jl.j0 k t625 t628 t630 true t622)))))=some r:=H
  have A3:=am A30
  clear A30
  replace H:=bzS H
  obtain ⟨t630,A40,H⟩:=H
  replace H:((jGa.f k t622 t625 t628).bind fun t633=>((jV.f k t630 t633).bind fun t636=>(if t636=true then ((jr.f k t622 t625).bind fun t637=>(if t637=true then (if t628<0 then (jl.j0 k t625 t628 t630 true t622) else (jl.j0 k t625 t628 t630 (decide (t628≥(t625.length:Int))) t622)) else (jl.j0 k t625 t628 t630 true t622))) else (jl.j0 k t625 t628 t630 true t622))))=some r:=H
  have A4:=am A40
  clear A40
  have HC5:=am H
  clear H
  go_enter Try.func8,Try.ntmps8
  go_upto_region 5 with (first |(go_at_call 38;(with_reducible refine (jrb.calls k _ _ l0 t622 t625 t628 _ ?side1 ?side2 A3.out).mono ?_);(case side1=>exact Y32);(case side2=>exact HC0.out);rintro e w6 ⟨v623,v626,rfl,ho0,ho1,hb⟩;have HO624:=am (Kd.jQ ho0 (jN (bq)));have HO627:=am (Kd.Q_lower ho1 (jN (bq)));replace HB:=am (je (bq) hb);(try clear hb);(try clear hb2);(try clear hk);(try clear hi);(try clear ho0);(try clear ho1)) |((with_reducible refine jM (N:=3) rfl ?_);(try (refine jcc (by rfl) ?_;dsimp only));refine jhc ?hg (N:=3) ?hd (cs:=#[.slice none 0 0]) (t:=32) ?hr ?_;(case hd=>rfl);(case hg=>rfl);(case hr=>exact Y7);intro gb629 hg w7 hbox hb;have BK629:=am (hbox);have GW629:=am ((Y10:w.heap.size≤gb629));have GE629:=am ((Y10:w.heap.size≤gb629));replace HO624:=am (Kd.jT (rq HO624.out) hb);replace HO627:=am (Kd.jcb (Y19) hb);replace HB:=am (je (bq) hb);clear hb hbox hg;obtain ⟨Ao8,co8,eo8⟩:=Kd.jU HO624.out;subst eo8;have hcz9_0:=bc0 BK629.out;have hfz9_0:=ja BK629.out 0;obtain ⟨Ao10,co10,eo10,_⟩:=Kd.Q_slice HO627.out;subst eo10) |(go_at_call 39;(with_reducible refine (jHb.calls k _ _ t622 _ _ t625 t628 t630 _ ?side1 ?side2 ?side3 ?side4 A4.out).mono ?_);(case side1=>refine (Kd.jh (e:=87) (base:=w.heap.size) (ok:=fun k_=>True) (n:=t622.length) (c:=co8) ?_).2.2;exact (Y70));(case side2=>exact (Kd.jh HO624.out).2.1);(case side3=>refine (Kd.jka (e:=52) (base:=w.heap.size) (ok:=fun k_=>True) (n:=t625.length) (c:=co10) ?_).2.2;exact (Y71));(case side4=>exact (Kd.jka HO627.out).2.1);rintro e w11 ⟨v631,rfl,ho0,hb⟩;have HO632:=am (Kd.jQ ho0 (jN (Y3)));replace HO624:=am (Kd.jT (Y70) hb);replace HO627:=am (Kd.jcb (Y71) hb);replace BK629:=am (jm (g:=gb629) (o:=.cells #[.slice Ao8 t622.length co8] 32 (0,0)) (Y100) hb);replace HB:=am (je (Y3) hb);(try clear hb);(try clear hb2);(try clear hk);(try clear hi);(try clear ho0)))
  repeat (go_quiet (first |(go_at_call 38;(with_reducible refine (jrb.calls k _ _ l0 t622 t625 t628 _ ?side1 ?side2 A3.out).mono ?_);(case side1=>exact Y32);(case side2=>exact HC0.out);rintro e w6 ⟨v623,v626,rfl,ho0,ho1,hb⟩;have HO624:=am (Kd.jQ ho0 (jN (bq)));have HO627:=am (Kd.Q_lower ho1 (jN (bq)));replace HB:=am (je (bq) hb);(try clear hb);(try clear hb2);(try clear hk);(try clear hi);(try clear ho0);(try clear ho1)) |((with_reducible refine jM (N:=3) rfl ?_);(try (refine jcc (by rfl) ?_;dsimp only));refine jhc ?hg (N:=3) ?hd (cs:=#[.slice none 0 0]) (t:=32) ?hr ?_;(case hd=>rfl);(case hg=>rfl);(case hr=>exact Y7);intro gb629 hg w7 hbox hb;have BK629:=am (hbox);have GW629:=am ((Y10:w.heap.size≤gb629));have GE629:=am ((Y10:w.heap.size≤gb629));replace HO624:=am (Kd.jT (rq HO624.out) hb);replace HO627:=am (Kd.jcb (Y19) hb);replace HB:=am (je (bq) hb);clear hb hbox hg;obtain ⟨Ao8,co8,eo8⟩:=Kd.jU HO624.out;subst eo8;have hcz9_0:=bc0 BK629.out;have hfz9_0:=ja BK629.out 0;obtain ⟨Ao10,co10,eo10,_⟩:=Kd.Q_slice HO627.out;subst eo10) |(go_at_call 39;(with_reducible refine (jHb.calls k _ _ t622 _ _ t625 t628 t630 _ ?side1 ?side2 ?side3 ?side4 A4.out).mono ?_);(case side1=>refine (Kd.jh (e:=87) (base:=w.heap.size) (ok:=fun k_=>True) (n:=t622.length) (c:=co8) ?_).2.2;exact (Y70));(case side2=>exact (Kd.jh HO624.out).2.1);(case side3=>refine (Kd.jka (e:=52) (base:=w.heap.size) (ok:=fun k_=>True) (n:=t625.length) (c:=co10) ?_).2.2;exact (Y71));(case side4=>exact (Kd.jka HO627.out).2.1);rintro e w11 ⟨v631,rfl,ho0,hb⟩;have HO632:=am (Kd.jQ ho0 (jN (Y3)));replace HO624:=am (Kd.jT (Y70) hb);replace HO627:=am (Kd.jcb (Y71) hb);replace BK629:=am (jm (g:=gb629) (o:=.cells #[.slice Ao8 t622.length co8] 32 (0,0)) (Y100) hb);replace HB:=am (je (Y3) hb);(try clear hb);(try clear hb2);(try clear hk);(try clear hi);(try clear ho0)));go_upto_region 5 with (first |(go_at_call 38;(with_reducible refine (jrb.calls k _ _ l0 t622 t625 t628 _ ?side1 ?side2 A3.out).mono ?_);(case side1=>exact Y32);(case side2=>exact HC0.out);rintro e w6 ⟨v623,v626,rfl,ho0,ho1,hb⟩;have HO624:=am (Kd.jQ ho0 (jN (bq)));have HO627:=am (Kd.Q_lower ho1 (jN (bq)));replace HB:=am (je (bq) hb);(try clear hb);(try clear hb2);(try clear hk);(try clear hi);(try clear ho0);(try clear ho1)) |((with_reducible refine jM (N:=3) rfl ?_);(try (refine jcc (by rfl) ?_;dsimp only));refine jhc ?hg (N:=3) ?hd (cs:=#[.slice none 0 0]) (t:=32) ?hr ?_;(case hd=>rfl);(case hg=>rfl);(case hr=>exact Y7);intro gb629 hg w7 hbox hb;have BK629:=am (hbox);have GW629:=am ((Y10:w.heap.size≤gb629));have GE629:=am ((Y10:w.heap.size≤gb629));replace HO624:=am (Kd.jT (rq HO624.out) hb);replace HO627:=am (Kd.jcb (Y19) hb);replace HB:=am (je (bq) hb);clear hb hbox hg;obtain ⟨Ao8,co8,eo8⟩:=Kd.jU HO624.out;subst eo8;have hcz9_0:=bc0 BK629.out;have hfz9_0:=ja BK629.out 0;obtain ⟨Ao10,co10,eo10,_⟩:=Kd.Q_slice HO627.out;subst eo10) |(go_at_call 39;(with_reducible refine (jHb.calls k _ _ t622 _ _ t625 t628 t630 _ ?side1 ?side2 ?side3 ?side4 A4.out).mono ?_);(case side1=>refine (Kd.jh (e:=87) (base:=w.heap.size) (ok:=fun k_=>True) (n:=t622.length) (c:=co8) ?_).2.2;exact (Y70));(case side2=>exact (Kd.jh HO624.out).2.1);(case side3=>refine (Kd.jka (e:=52) (base:=w.heap.size) (ok:=fun k_=>True) (n:=t625.length) (c:=co10) ?_).2.2;exact (Y71));(case side4=>exact (Kd.jka HO627.out).2.1);rintro e w11 ⟨v631,rfl,ho0,hb⟩;have HO632:=am (Kd.jQ ho0 (jN (Y3)));replace HO624:=am (Kd.jT (Y70) hb);replace HO627:=am (Kd.jcb (Y71) hb);replace BK629:=am (jm (g:=gb629) (o:=.cells #[.slice Ao8 t622.length co8] 32 (0,0)) (Y100) hb);replace HB:=am (je (Y3) hb);(try clear hb);(try clear hb2);(try clear hk);(try clear hi);(try clear ho0))))
  (try simp only [Act.put,List.setIfInBounds_toArray,List.set_cons_zero,List.set_cons_succ])
  go_cut [44] (fun v44 wc=>∃ (kq:Nat) (x44_4:Bool),v44=.bool x44_4∧jq (jl.j0 kq t625 t628 t630 x44_4 t622=some r)∧jq (kq≤k)∧jq (Kd.Q k52 52 wc w.heap.size (fun _=>True) (.slice Ao10 t625.length co10) t625)∧jq (Kd.R (Kd.int .i64) 3 wc w.heap.size (fun _=>True) v631 t630)∧jq (Kd.R k87 87 wc w.heap.size (fun _=>True) (.slice Ao8 t622.length co8) t622)∧jq (wc.heap[gb629]?=some (.cells #[(.slice Ao8 t622.length co8)] 32 (0,0)))∧jq (Below w.heap.size w wc))
  case first =>
   have H:=HC5.out
   clear HC5
   replace H:=bzS H
   obtain ⟨t633,A120,H⟩:=H
   replace H:((jV.f k t630 t633).bind fun t636=>(if t636=true then ((jr.f k t622 t625).bind fun t637=>(if t637=true then (if t628<0 then (jl.j0 k t625 t628 t630 true t622) else (jl.j0 k t625 t628 t630 (decide (t628≥(t625.length:Int))) t622)) else (jl.j0 k t625 t628 t630 true t622))) else (jl.j0 k t625 t628 t630 true t622)))=some r:=H
   have A12:=am A120
   clear A120
   replace H:=bzS H
   obtain ⟨t636,A130,H⟩:=H
   replace H:(if t636=true then ((jr.f k t622 t625).bind fun t637=>(if t637=true then (if t628<0 then (jl.j0 k t625 t628 t630 true t622) else (jl.j0 k t625 t628 t630 (decide (t628≥(t625.length:Int))) t622)) else (jl.j0 k t625 t628 t630 true t622))) else (jl.j0 k t625 t628 t630 true t622))=some r:=H
   have A13:=am A130
   clear A130
   by_cases c14:t636=true
   ·subst c14
    have H1:((jr.f k t622 t625).bind fun t637=>(if t637=true then (if t628<0 then (jl.j0 k t625 t628 t630 true t622) else (jl.j0 k t625 t628 t630 (decide (t628≥(t625.length:Int))) t622)) else (jl.j0 k t625 t628 t630 true t622)))=some r:=by rw [if_pos rfl] at H;exact H
    clear H
    have H:=H1
    clear H1
    replace H:=bzS H
    obtain ⟨t637,A150,H⟩:=H
    replace H:(if t637=true then (if t628<0 then (jl.j0 k t625 t628 t630 true t622) else (jl.j0 k t625 t628 t630 (decide (t628≥(t625.length:Int))) t622)) else (jl.j0 k t625 t628 t630 true t622))=some r:=H
    have A15:=am A150
    clear A150
    by_cases c16:t637=true
    ·subst c16
     have H1:(if t628<0 then (jl.j0 k t625 t628 t630 true t622) else (jl.j0 k t625 t628 t630 (decide (t628≥(t625.length:Int))) t622))=some r:=by rw [if_pos rfl] at H;exact H
     clear H
     have H:=H1
     clear H1
     by_cases c17:t628<0
     ·rw [if_pos c17] at H
      have c17b0:decide (t628<0)=true:=dzT c17
      clear c17
      (first | rw [c17b0] |(simp only [jhb,jpb];rw [c17b0]) | skip)
      have H':=am H
      clear H
      have hcz18_0:=bc0 BK629.out
      have hfz18_0:=ja BK629.out 0
      go_wp2_with (first |(go_at_call 40;(with_reducible refine (jGa.calls k _ _ t622 _ _ t625 t628 t633 _ ?side1 ?side2 ?side3 ?side4 A12.out).mono ?_);(case side1=>exact cq (Kd.jh HO624.out).2.2);(case side2=>exact (Kd.jh HO624.out).2.1);(case side3=>exact cq (Kd.jka HO627.out).2.2);(case side4=>exact (Kd.jka HO627.out).2.1);rintro e w19 ⟨v634,rfl,ho0,hb⟩;have HO635:=am (Kd.jQ (Kd.jxb ho0 (Kd.R_lt (rq HO632.out))) (jN (Y3)));replace HO624:=am (Kd.jT (rq HO624.out) hb);replace HO627:=am (Kd.jcb (Y19) hb);replace HO632:=am (Kd.job (rq HO632.out) (Kd.jyb ho0) hb);replace BK629:=am (jm (g:=gb629) (o:=.cells #[.slice Ao8 t622.length co8] 32 (0,0)) (kq BK629.out) hb);replace HB:=am (je (Y3) hb);(try clear hb);(try clear hb2);(try clear hk);(try clear hi);(try clear ho0);obtain ⟨Ao20,co20,eo20⟩:=Kd.jU HO632.out;subst eo20;obtain ⟨Ao21,co21,eo21⟩:=Kd.jU HO635.out;subst eo21) |(go_at_call 27;(with_reducible refine (jV.calls k _ _ t630 _ _ t633 true _ ?side1 ?side2 ?side3 ?side4 A13.out).mono ?_);(case side1=>exact cq (Kd.jh HO632.out).2.2);(case side2=>exact (Kd.jh HO632.out).2.1);(case side3=>exact cq (Kd.jh HO635.out).2.2);(case side4=>exact (Kd.jh HO635.out).2.1);rintro e w' ⟨rfl,⟨nd,rfl⟩⟩;(try first | exact ⟨rfl,_,World.drewN_drewN _ _ _⟩ | exact ⟨rfl,_,Eq.trans (World.drewN_drewN _ _ _) (congrArg (World.drewN _) (Nat.add_assoc _ _ _))⟩);have hcz22_0:=bc0 BK629.out;have hfz22_0:=ja BK629.out 0) |(go_at_call 29;(with_reducible refine (jr.calls k _ _ t622 _ _ t625 true _ ?side1 ?side2 ?side3 ?side4 A15.out).mono ?_);(case side1=>exact cq (Kd.jh HO624.out).2.2);(case side2=>exact (Kd.jh HO624.out).2.1);(case side3=>exact cq (Kd.jka HO627.out).2.2);(case side4=>exact (Kd.jka HO627.out).2.1);rintro e w23 ⟨rfl,hb⟩;replace HO624:=am (Kd.jT (rq HO624.out) hb);replace HO627:=am (Kd.jcb (Y19) hb);replace HO632:=am (Kd.jT (rq HO632.out) hb);replace HO635:=am (Kd.jT (rq HO635.out) hb);replace BK629:=am (jm (g:=gb629) (o:=.cells #[.slice Ao8 t622.length co8] 32 (0,0)) (kq BK629.out) hb);replace HB:=am (je (Y3) hb);(try clear hb);(try clear hb2);(try clear hk);(try clear hi)))
      repeat (go_quiet (first |(go_at_call 40;(with_reducible refine (jGa.calls k _ _ t622 _ _ t625 t628 t633 _ ?side1 ?side2 ?side3 ?side4 A12.out).mono ?_);(case side1=>exact cq (Kd.jh HO624.out).2.2);(case side2=>exact (Kd.jh HO624.out).2.1);(case side3=>exact cq (Kd.jka HO627.out).2.2);(case side4=>exact (Kd.jka HO627.out).2.1);rintro e w19 ⟨v634,rfl,ho0,hb⟩;have HO635:=am (Kd.jQ (Kd.jxb ho0 (Kd.R_lt (rq HO632.out))) (jN (Y3)));replace HO624:=am (Kd.jT (rq HO624.out) hb);replace HO627:=am (Kd.jcb (Y19) hb);replace HO632:=am (Kd.job (rq HO632.out) (Kd.jyb ho0) hb);replace BK629:=am (jm (g:=gb629) (o:=.cells #[.slice Ao8 t622.length co8] 32 (0,0)) (kq BK629.out) hb);replace HB:=am (je (Y3) hb);(try clear hb);(try clear hb2);(try clear hk);(try clear hi);(try clear ho0);obtain ⟨Ao20,co20,eo20⟩:=Kd.jU HO632.out;subst eo20;obtain ⟨Ao21,co21,eo21⟩:=Kd.jU HO635.out;subst eo21) |(go_at_call 27;(with_reducible refine (jV.calls k _ _ t630 _ _ t633 true _ ?side1 ?side2 ?side3 ?side4 A13.out).mono ?_);(case side1=>exact cq (Kd.jh HO632.out).2.2);(case side2=>exact (Kd.jh HO632.out).2.1);(case side3=>exact cq (Kd.jh HO635.out).2.2);(case side4=>exact (Kd.jh HO635.out).2.1);rintro e w' ⟨rfl,⟨nd,rfl⟩⟩;(try first | exact ⟨rfl,_,World.drewN_drewN _ _ _⟩ | exact ⟨rfl,_,Eq.trans (World.drewN_drewN _ _ _) (congrArg (World.drewN _) (Nat.add_assoc _ _ _))⟩);have hcz22_0:=bc0 BK629.out;have hfz22_0:=ja BK629.out 0) |(go_at_call 29;(with_reducible refine (jr.calls k _ _ t622 _ _ t625 true _ ?side1 ?side2 ?side3 ?side4 A15.out).mono ?_);(case side1=>exact cq (Kd.jh HO624.out).2.2);(case side2=>exact (Kd.jh HO624.out).2.1);(case side3=>exact cq (Kd.jka HO627.out).2.2);(case side4=>exact (Kd.jka HO627.out).2.1);rintro e w23 ⟨rfl,hb⟩;replace HO624:=am (Kd.jT (rq HO624.out) hb);replace HO627:=am (Kd.jcb (Y19) hb);replace HO632:=am (Kd.jT (rq HO632.out) hb);replace HO635:=am (Kd.jT (rq HO635.out) hb);replace BK629:=am (jm (g:=gb629) (o:=.cells #[.slice Ao8 t622.length co8] 32 (0,0)) (kq BK629.out) hb);replace HB:=am (je (Y3) hb);(try clear hb);(try clear hb2);(try clear hk);(try clear hi)));try go_wp2_with (first |(go_at_call 40;(with_reducible refine (jGa.calls k _ _ t622 _ _ t625 t628 t633 _ ?side1 ?side2 ?side3 ?side4 A12.out).mono ?_);(case side1=>exact cq (Kd.jh HO624.out).2.2);(case side2=>exact (Kd.jh HO624.out).2.1);(case side3=>exact cq (Kd.jka HO627.out).2.2);(case side4=>exact (Kd.jka HO627.out).2.1);rintro e w19 ⟨v634,rfl,ho0,hb⟩;have HO635:=am (Kd.jQ (Kd.jxb ho0 (Kd.R_lt (rq HO632.out))) (jN (Y3)));replace HO624:=am (Kd.jT (rq HO624.out) hb);replace HO627:=am (Kd.jcb (Y19) hb);replace HO632:=am (Kd.job (rq HO632.out) (Kd.jyb ho0) hb);replace BK629:=am (jm (g:=gb629) (o:=.cells #[.slice Ao8 t622.length co8] 32 (0,0)) (kq BK629.out) hb);replace HB:=am (je (Y3) hb);(try clear hb);(try clear hb2);(try clear hk);(try clear hi);(try clear ho0);obtain ⟨Ao20,co20,eo20⟩:=Kd.jU HO632.out;subst eo20;obtain ⟨Ao21,co21,eo21⟩:=Kd.jU HO635.out;subst eo21) |(go_at_call 27;(with_reducible refine (jV.calls k _ _ t630 _ _ t633 true _ ?side1 ?side2 ?side3 ?side4 A13.out).mono ?_);(case side1=>exact cq (Kd.jh HO632.out).2.2);(case side2=>exact (Kd.jh HO632.out).2.1);(case side3=>exact cq (Kd.jh HO635.out).2.2);(case side4=>exact (Kd.jh HO635.out).2.1);rintro e w' ⟨rfl,⟨nd,rfl⟩⟩;(try first | exact ⟨rfl,_,World.drewN_drewN _ _ _⟩ | exact ⟨rfl,_,Eq.trans (World.drewN_drewN _ _ _) (congrArg (World.drewN _) (Nat.add_assoc _ _ _))⟩);have hcz22_0:=bc0 BK629.out;have hfz22_0:=ja BK629.out 0) |(go_at_call 29;(with_reducible refine (jr.calls k _ _ t622 _ _ t625 true _ ?side1 ?side2 ?side3 ?side4 A15.out).mono ?_);(case side1=>exact cq (Kd.jh HO624.out).2.2);(case side2=>exact (Kd.jh HO624.out).2.1);(case side3=>exact cq (Kd.jka HO627.out).2.2);(case side4=>exact (Kd.jka HO627.out).2.1);rintro e w23 ⟨rfl,hb⟩;replace HO624:=am (Kd.jT (rq HO624.out) hb);replace HO627:=am (Kd.jcb (Y19) hb);replace HO632:=am (Kd.jT (rq HO632.out) hb);replace HO635:=am (Kd.jT (rq HO635.out) hb);replace BK629:=am (jm (g:=gb629) (o:=.cells #[.slice Ao8 t622.length co8] 32 (0,0)) (kq BK629.out) hb);replace HB:=am (je (Y3) hb);(try clear hb);(try clear hb2);(try clear hk);(try clear hi))))
      go_meet
      case rel=>exact ⟨_,(true),(sq),H',⟨Y35⟩,⟨by (with_reducible repeat (first | apply Kd.jJb | apply Kd.jIb | apply Kd.jYb));exact HO627.out⟩,⟨by (with_reducible repeat (first | apply Kd.jY | apply Kd.jX | apply Kd.jia));exact Kd.jE HO632.out (fun _ hk=>trivial)⟩,⟨rq HO624.out⟩,⟨kq BK629.out⟩,⟨Y3⟩⟩
     ·rw [if_neg c17] at H
      have c17b0:decide (t628<0)=false:=dzF c17
      clear c17
      (first | rw [c17b0] |(simp only [jhb,jpb];rw [c17b0]) | skip)
      have H':=am H
      clear H
      have hcz24_0:=bc0 BK629.out
      have hfz24_0:=ja BK629.out 0
      go_wp2_with (first |(go_at_call 40;(with_reducible refine (jGa.calls k _ _ t622 _ _ t625 t628 t633 _ ?side1 ?side2 ?side3 ?side4 A12.out).mono ?_);(case side1=>exact cq (Kd.jh HO624.out).2.2);(case side2=>exact (Kd.jh HO624.out).2.1);(case side3=>exact cq (Kd.jka HO627.out).2.2);(case side4=>exact (Kd.jka HO627.out).2.1);rintro e w25 ⟨v634,rfl,ho0,hb⟩;have HO635:=am (Kd.jQ (Kd.jxb ho0 (Kd.R_lt (rq HO632.out))) (jN (Y3)));replace HO624:=am (Kd.jT (rq HO624.out) hb);replace HO627:=am (Kd.jcb (Y19) hb);replace HO632:=am (Kd.job (rq HO632.out) (Kd.jyb ho0) hb);replace BK629:=am (jm (g:=gb629) (o:=.cells #[.slice Ao8 t622.length co8] 32 (0,0)) (kq BK629.out) hb);replace HB:=am (je (Y3) hb);(try clear hb);(try clear hb2);(try clear hk);(try clear hi);(try clear ho0);obtain ⟨Ao26,co26,eo26⟩:=Kd.jU HO632.out;subst eo26;obtain ⟨Ao27,co27,eo27⟩:=Kd.jU HO635.out;subst eo27) |(go_at_call 27;(with_reducible refine (jV.calls k _ _ t630 _ _ t633 true _ ?side1 ?side2 ?side3 ?side4 A13.out).mono ?_);(case side1=>exact cq (Kd.jh HO632.out).2.2);(case side2=>exact (Kd.jh HO632.out).2.1);(case side3=>exact cq (Kd.jh HO635.out).2.2);(case side4=>exact (Kd.jh HO635.out).2.1);rintro e w' ⟨rfl,⟨nd,rfl⟩⟩;(try first | exact ⟨rfl,_,World.drewN_drewN _ _ _⟩ | exact ⟨rfl,_,Eq.trans (World.drewN_drewN _ _ _) (congrArg (World.drewN _) (Nat.add_assoc _ _ _))⟩);have hcz28_0:=bc0 BK629.out;have hfz28_0:=ja BK629.out 0) |(go_at_call 29;(with_reducible refine (jr.calls k _ _ t622 _ _ t625 true _ ?side1 ?side2 ?side3 ?side4 A15.out).mono ?_);(case side1=>exact cq (Kd.jh HO624.out).2.2);(case side2=>exact (Kd.jh HO624.out).2.1);(case side3=>exact cq (Kd.jka HO627.out).2.2);(case side4=>exact (Kd.jka HO627.out).2.1);rintro e w29 ⟨rfl,hb⟩;replace HO624:=am (Kd.jT (rq HO624.out) hb);replace HO627:=am (Kd.jcb (Y19) hb);replace HO632:=am (Kd.jT (rq HO632.out) hb);replace HO635:=am (Kd.jT (rq HO635.out) hb);replace BK629:=am (jm (g:=gb629) (o:=.cells #[.slice Ao8 t622.length co8] 32 (0,0)) (kq BK629.out) hb);replace HB:=am (je (Y3) hb);(try clear hb);(try clear hb2);(try clear hk);(try clear hi)))
      repeat (go_quiet (first |(go_at_call 40;(with_reducible refine (jGa.calls k _ _ t622 _ _ t625 t628 t633 _ ?side1 ?side2 ?side3 ?side4 A12.out).mono ?_);(case side1=>exact cq (Kd.jh HO624.out).2.2);(case side2=>exact (Kd.jh HO624.out).2.1);(case side3=>exact cq (Kd.jka HO627.out).2.2);(case side4=>exact (Kd.jka HO627.out).2.1);rintro e w25 ⟨v634,rfl,ho0,hb⟩;have HO635:=am (Kd.jQ (Kd.jxb ho0 (Kd.R_lt (rq HO632.out))) (jN (Y3)));replace HO624:=am (Kd.jT (rq HO624.out) hb);replace HO627:=am (Kd.jcb (Y19) hb);replace HO632:=am (Kd.job (rq HO632.out) (Kd.jyb ho0) hb);replace BK629:=am (jm (g:=gb629) (o:=.cells #[.slice Ao8 t622.length co8] 32 (0,0)) (kq BK629.out) hb);replace HB:=am (je (Y3) hb);(try clear hb);(try clear hb2);(try clear hk);(try clear hi);(try clear ho0);obtain ⟨Ao26,co26,eo26⟩:=Kd.jU HO632.out;subst eo26;obtain ⟨Ao27,co27,eo27⟩:=Kd.jU HO635.out;subst eo27) |(go_at_call 27;(with_reducible refine (jV.calls k _ _ t630 _ _ t633 true _ ?side1 ?side2 ?side3 ?side4 A13.out).mono ?_);(case side1=>exact cq (Kd.jh HO632.out).2.2);(case side2=>exact (Kd.jh HO632.out).2.1);(case side3=>exact cq (Kd.jh HO635.out).2.2);(case side4=>exact (Kd.jh HO635.out).2.1);rintro e w' ⟨rfl,⟨nd,rfl⟩⟩;(try first | exact ⟨rfl,_,World.drewN_drewN _ _ _⟩ | exact ⟨rfl,_,Eq.trans (World.drewN_drewN _ _ _) (congrArg (World.drewN _) (Nat.add_assoc _ _ _))⟩);have hcz28_0:=bc0 BK629.out;have hfz28_0:=ja BK629.out 0) |(go_at_call 29;(with_reducible refine (jr.calls k _ _ t622 _ _ t625 true _ ?side1 ?side2 ?side3 ?side4 A15.out).mono ?_);(case side1=>exact cq (Kd.jh HO624.out).2.2);(case side2=>exact (Kd.jh HO624.out).2.1);(case side3=>exact cq (Kd.jka HO627.out).2.2);(case side4=>exact (Kd.jka HO627.out).2.1);rintro e w29 ⟨rfl,hb⟩;replace HO624:=am (Kd.jT (rq HO624.out) hb);replace HO627:=am (Kd.jcb (Y19) hb);replace HO632:=am (Kd.jT (rq HO632.out) hb);replace HO635:=am (Kd.jT (rq HO635.out) hb);replace BK629:=am (jm (g:=gb629) (o:=.cells #[.slice Ao8 t622.length co8] 32 (0,0)) (kq BK629.out) hb);replace HB:=am (je (Y3) hb);(try clear hb);(try clear hb2);(try clear hk);(try clear hi)));try go_wp2_with (first |(go_at_call 40;(with_reducible refine (jGa.calls k _ _ t622 _ _ t625 t628 t633 _ ?side1 ?side2 ?side3 ?side4 A12.out).mono ?_);(case side1=>exact cq (Kd.jh HO624.out).2.2);(case side2=>exact (Kd.jh HO624.out).2.1);(case side3=>exact cq (Kd.jka HO627.out).2.2);(case side4=>exact (Kd.jka HO627.out).2.1);rintro e w25 ⟨v634,rfl,ho0,hb⟩;have HO635:=am (Kd.jQ (Kd.jxb ho0 (Kd.R_lt (rq HO632.out))) (jN (Y3)));replace HO624:=am (Kd.jT (rq HO624.out) hb);replace HO627:=am (Kd.jcb (Y19) hb);replace HO632:=am (Kd.job (rq HO632.out) (Kd.jyb ho0) hb);replace BK629:=am (jm (g:=gb629) (o:=.cells #[.slice Ao8 t622.length co8] 32 (0,0)) (kq BK629.out) hb);replace HB:=am (je (Y3) hb);(try clear hb);(try clear hb2);(try clear hk);(try clear hi);(try clear ho0);obtain ⟨Ao26,co26,eo26⟩:=Kd.jU HO632.out;subst eo26;obtain ⟨Ao27,co27,eo27⟩:=Kd.jU HO635.out;subst eo27) |(go_at_call 27;(with_reducible refine (jV.calls k _ _ t630 _ _ t633 true _ ?side1 ?side2 ?side3 ?side4 A13.out).mono ?_);(case side1=>exact cq (Kd.jh HO632.out).2.2);(case side2=>exact (Kd.jh HO632.out).2.1);(case side3=>exact cq (Kd.jh HO635.out).2.2);(case side4=>exact (Kd.jh HO635.out).2.1);rintro e w' ⟨rfl,⟨nd,rfl⟩⟩;(try first | exact ⟨rfl,_,World.drewN_drewN _ _ _⟩ | exact ⟨rfl,_,Eq.trans (World.drewN_drewN _ _ _) (congrArg (World.drewN _) (Nat.add_assoc _ _ _))⟩);have hcz28_0:=bc0 BK629.out;have hfz28_0:=ja BK629.out 0) |(go_at_call 29;(with_reducible refine (jr.calls k _ _ t622 _ _ t625 true _ ?side1 ?side2 ?side3 ?side4 A15.out).mono ?_);(case side1=>exact cq (Kd.jh HO624.out).2.2);(case side2=>exact (Kd.jh HO624.out).2.1);(case side3=>exact cq (Kd.jka HO627.out).2.2);(case side4=>exact (Kd.jka HO627.out).2.1);rintro e w29 ⟨rfl,hb⟩;replace HO624:=am (Kd.jT (rq HO624.out) hb);replace HO627:=am (Kd.jcb (Y19) hb);replace HO632:=am (Kd.jT (rq HO632.out) hb);replace HO635:=am (Kd.jT (rq HO635.out) hb);replace BK629:=am (jm (g:=gb629) (o:=.cells #[.slice Ao8 t622.length co8] 32 (0,0)) (kq BK629.out) hb);replace HB:=am (je (Y3) hb);(try clear hb);(try clear hb2);(try clear hk);(try clear hi))))
      go_meet
      case rel=>exact ⟨_,(decide (t628≥(t625.length:Int))),(sq),H',⟨Y35⟩,⟨by (with_reducible repeat (first | apply Kd.jJb | apply Kd.jIb | apply Kd.jYb));exact HO627.out⟩,⟨by (with_reducible repeat (first | apply Kd.jY | apply Kd.jX | apply Kd.jia));exact Kd.jE HO632.out (fun _ hk=>trivial)⟩,⟨rq HO624.out⟩,⟨kq BK629.out⟩,⟨Y3⟩⟩
    ·replace c16:=Bool.eq_false_iff.mpr c16
     subst c16
     have H1:(jl.j0 k t625 t628 t630 true t622)=some r:=by rw [if_neg (show ¬ (false=true) by decide)] at H;exact H
     clear H
     have H:=H1
     clear H1
     have H':=am H
     clear H
     have hcz30_0:=bc0 BK629.out
     have hfz30_0:=ja BK629.out 0
     go_wp2_with (first |(go_at_call 40;(with_reducible refine (jGa.calls k _ _ t622 _ _ t625 t628 t633 _ ?side1 ?side2 ?side3 ?side4 A12.out).mono ?_);(case side1=>exact cq (Kd.jh HO624.out).2.2);(case side2=>exact (Kd.jh HO624.out).2.1);(case side3=>exact cq (Kd.jka HO627.out).2.2);(case side4=>exact (Kd.jka HO627.out).2.1);rintro e w31 ⟨v634,rfl,ho0,hb⟩;have HO635:=am (Kd.jQ (Kd.jxb ho0 (Kd.R_lt (rq HO632.out))) (jN (Y3)));replace HO624:=am (Kd.jT (rq HO624.out) hb);replace HO627:=am (Kd.jcb (Y19) hb);replace HO632:=am (Kd.job (rq HO632.out) (Kd.jyb ho0) hb);replace BK629:=am (jm (g:=gb629) (o:=.cells #[.slice Ao8 t622.length co8] 32 (0,0)) (kq BK629.out) hb);replace HB:=am (je (Y3) hb);(try clear hb);(try clear hb2);(try clear hk);(try clear hi);(try clear ho0);obtain ⟨Ao32,co32,eo32⟩:=Kd.jU HO632.out;subst eo32;obtain ⟨Ao33,co33,eo33⟩:=Kd.jU HO635.out;subst eo33) |(go_at_call 27;(with_reducible refine (jV.calls k _ _ t630 _ _ t633 true _ ?side1 ?side2 ?side3 ?side4 A13.out).mono ?_);(case side1=>exact cq (Kd.jh HO632.out).2.2);(case side2=>exact (Kd.jh HO632.out).2.1);(case side3=>exact cq (Kd.jh HO635.out).2.2);(case side4=>exact (Kd.jh HO635.out).2.1);rintro e w' ⟨rfl,⟨nd,rfl⟩⟩;(try first | exact ⟨rfl,_,World.drewN_drewN _ _ _⟩ | exact ⟨rfl,_,Eq.trans (World.drewN_drewN _ _ _) (congrArg (World.drewN _) (Nat.add_assoc _ _ _))⟩);have hcz34_0:=bc0 BK629.out;have hfz34_0:=ja BK629.out 0) |(go_at_call 29;(with_reducible refine (jr.calls k _ _ t622 _ _ t625 false _ ?side1 ?side2 ?side3 ?side4 A15.out).mono ?_);(case side1=>exact cq (Kd.jh HO624.out).2.2);(case side2=>exact (Kd.jh HO624.out).2.1);(case side3=>exact cq (Kd.jka HO627.out).2.2);(case side4=>exact (Kd.jka HO627.out).2.1);rintro e w35 ⟨rfl,hb⟩;replace HO624:=am (Kd.jT (rq HO624.out) hb);replace HO627:=am (Kd.jcb (Y19) hb);replace HO632:=am (Kd.jT (rq HO632.out) hb);replace HO635:=am (Kd.jT (rq HO635.out) hb);replace BK629:=am (jm (g:=gb629) (o:=.cells #[.slice Ao8 t622.length co8] 32 (0,0)) (kq BK629.out) hb);replace HB:=am (je (Y3) hb);(try clear hb);(try clear hb2);(try clear hk);(try clear hi)))
     repeat (go_quiet (first |(go_at_call 40;(with_reducible refine (jGa.calls k _ _ t622 _ _ t625 t628 t633 _ ?side1 ?side2 ?side3 ?side4 A12.out).mono ?_);(case side1=>exact cq (Kd.jh HO624.out).2.2);(case side2=>exact (Kd.jh HO624.out).2.1);(case side3=>exact cq (Kd.jka HO627.out).2.2);(case side4=>exact (Kd.jka HO627.out).2.1);rintro e w31 ⟨v634,rfl,ho0,hb⟩;have HO635:=am (Kd.jQ (Kd.jxb ho0 (Kd.R_lt (rq HO632.out))) (jN (Y3)));replace HO624:=am (Kd.jT (rq HO624.out) hb);replace HO627:=am (Kd.jcb (Y19) hb);replace HO632:=am (Kd.job (rq HO632.out) (Kd.jyb ho0) hb);replace BK629:=am (jm (g:=gb629) (o:=.cells #[.slice Ao8 t622.length co8] 32 (0,0)) (kq BK629.out) hb);replace HB:=am (je (Y3) hb);(try clear hb);(try clear hb2);(try clear hk);(try clear hi);(try clear ho0);obtain ⟨Ao32,co32,eo32⟩:=Kd.jU HO632.out;subst eo32;obtain ⟨Ao33,co33,eo33⟩:=Kd.jU HO635.out;subst eo33) |(go_at_call 27;(with_reducible refine (jV.calls k _ _ t630 _ _ t633 true _ ?side1 ?side2 ?side3 ?side4 A13.out).mono ?_);(case side1=>exact cq (Kd.jh HO632.out).2.2);(case side2=>exact (Kd.jh HO632.out).2.1);(case side3=>exact cq (Kd.jh HO635.out).2.2);(case side4=>exact (Kd.jh HO635.out).2.1);rintro e w' ⟨rfl,⟨nd,rfl⟩⟩;(try first | exact ⟨rfl,_,World.drewN_drewN _ _ _⟩ | exact ⟨rfl,_,Eq.trans (World.drewN_drewN _ _ _) (congrArg (World.drewN _) (Nat.add_assoc _ _ _))⟩);have hcz34_0:=bc0 BK629.out;have hfz34_0:=ja BK629.out 0) |(go_at_call 29;(with_reducible refine (jr.calls k _ _ t622 _ _ t625 false _ ?side1 ?side2 ?side3 ?side4 A15.out).mono ?_);(case side1=>exact cq (Kd.jh HO624.out).2.2);(case side2=>exact (Kd.jh HO624.out).2.1);(case side3=>exact cq (Kd.jka HO627.out).2.2);(case side4=>exact (Kd.jka HO627.out).2.1);rintro e w35 ⟨rfl,hb⟩;replace HO624:=am (Kd.jT (rq HO624.out) hb);replace HO627:=am (Kd.jcb (Y19) hb);replace HO632:=am (Kd.jT (rq HO632.out) hb);replace HO635:=am (Kd.jT (rq HO635.out) hb);replace BK629:=am (jm (g:=gb629) (o:=.cells #[.slice Ao8 t622.length co8] 32 (0,0)) (kq BK629.out) hb);replace HB:=am (je (Y3) hb);(try clear hb);(try clear hb2);(try clear hk);(try clear hi)));try go_wp2_with (first |(go_at_call 40;(with_reducible refine (jGa.calls k _ _ t622 _ _ t625 t628 t633 _ ?side1 ?side2 ?side3 ?side4 A12.out).mono ?_);(case side1=>exact cq (Kd.jh HO624.out).2.2);(case side2=>exact (Kd.jh HO624.out).2.1);(case side3=>exact cq (Kd.jka HO627.out).2.2);(case side4=>exact (Kd.jka HO627.out).2.1);rintro e w31 ⟨v634,rfl,ho0,hb⟩;have HO635:=am (Kd.jQ (Kd.jxb ho0 (Kd.R_lt (rq HO632.out))) (jN (Y3)));replace HO624:=am (Kd.jT (rq HO624.out) hb);replace HO627:=am (Kd.jcb (Y19) hb);replace HO632:=am (Kd.job (rq HO632.out) (Kd.jyb ho0) hb);replace BK629:=am (jm (g:=gb629) (o:=.cells #[.slice Ao8 t622.length co8] 32 (0,0)) (kq BK629.out) hb);replace HB:=am (je (Y3) hb);(try clear hb);(try clear hb2);(try clear hk);(try clear hi);(try clear ho0);obtain ⟨Ao32,co32,eo32⟩:=Kd.jU HO632.out;subst eo32;obtain ⟨Ao33,co33,eo33⟩:=Kd.jU HO635.out;subst eo33) |(go_at_call 27;(with_reducible refine (jV.calls k _ _ t630 _ _ t633 true _ ?side1 ?side2 ?side3 ?side4 A13.out).mono ?_);(case side1=>exact cq (Kd.jh HO632.out).2.2);(case side2=>exact (Kd.jh HO632.out).2.1);(case side3=>exact cq (Kd.jh HO635.out).2.2);(case side4=>exact (Kd.jh HO635.out).2.1);rintro e w' ⟨rfl,⟨nd,rfl⟩⟩;(try first | exact ⟨rfl,_,World.drewN_drewN _ _ _⟩ | exact ⟨rfl,_,Eq.trans (World.drewN_drewN _ _ _) (congrArg (World.drewN _) (Nat.add_assoc _ _ _))⟩);have hcz34_0:=bc0 BK629.out;have hfz34_0:=ja BK629.out 0) |(go_at_call 29;(with_reducible refine (jr.calls k _ _ t622 _ _ t625 false _ ?side1 ?side2 ?side3 ?side4 A15.out).mono ?_);(case side1=>exact cq (Kd.jh HO624.out).2.2);(case side2=>exact (Kd.jh HO624.out).2.1);(case side3=>exact cq (Kd.jka HO627.out).2.2);(case side4=>exact (Kd.jka HO627.out).2.1);rintro e w35 ⟨rfl,hb⟩;replace HO624:=am (Kd.jT (rq HO624.out) hb);replace HO627:=am (Kd.jcb (Y19) hb);replace HO632:=am (Kd.jT (rq HO632.out) hb);replace HO635:=am (Kd.jT (rq HO635.out) hb);replace BK629:=am (jm (g:=gb629) (o:=.cells #[.slice Ao8 t622.length co8] 32 (0,0)) (kq BK629.out) hb);replace HB:=am (je (Y3) hb);(try clear hb);(try clear hb2);(try clear hk);(try clear hi))))
     go_meet
     case rel=>exact ⟨_,(true),(sq),H',⟨Y35⟩,⟨by (with_reducible repeat (first | apply Kd.jJb | apply Kd.jIb | apply Kd.jYb));exact HO627.out⟩,⟨by (with_reducible repeat (first | apply Kd.jY | apply Kd.jX | apply Kd.jia));exact Kd.jE HO632.out (fun _ hk=>trivial)⟩,⟨rq HO624.out⟩,⟨kq BK629.out⟩,⟨Y3⟩⟩
   ·replace c14:=Bool.eq_false_iff.mpr c14
    subst c14
    have H1:(jl.j0 k t625 t628 t630 true t622)=some r:=by rw [if_neg (show ¬ (false=true) by decide)] at H;exact H
    clear H
    have H:=H1
    clear H1
    have H':=am H
    clear H
    have hcz36_0:=bc0 BK629.out
    have hfz36_0:=ja BK629.out 0
    go_wp2_with (first |(go_at_call 40;(with_reducible refine (jGa.calls k _ _ t622 _ _ t625 t628 t633 _ ?side1 ?side2 ?side3 ?side4 A12.out).mono ?_);(case side1=>exact cq (Kd.jh HO624.out).2.2);(case side2=>exact (Kd.jh HO624.out).2.1);(case side3=>exact cq (Kd.jka HO627.out).2.2);(case side4=>exact (Kd.jka HO627.out).2.1);rintro e w37 ⟨v634,rfl,ho0,hb⟩;have HO635:=am (Kd.jQ (Kd.jxb ho0 (Kd.R_lt (rq HO632.out))) (jN (Y3)));replace HO624:=am (Kd.jT (rq HO624.out) hb);replace HO627:=am (Kd.jcb (Y19) hb);replace HO632:=am (Kd.job (rq HO632.out) (Kd.jyb ho0) hb);replace BK629:=am (jm (g:=gb629) (o:=.cells #[.slice Ao8 t622.length co8] 32 (0,0)) (kq BK629.out) hb);replace HB:=am (je (Y3) hb);(try clear hb);(try clear hb2);(try clear hk);(try clear hi);(try clear ho0);obtain ⟨Ao38,co38,eo38⟩:=Kd.jU HO632.out;subst eo38;obtain ⟨Ao39,co39,eo39⟩:=Kd.jU HO635.out;subst eo39) |(go_at_call 27;(with_reducible refine (jV.calls k _ _ t630 _ _ t633 false _ ?side1 ?side2 ?side3 ?side4 A13.out).mono ?_);(case side1=>exact cq (Kd.jh HO632.out).2.2);(case side2=>exact (Kd.jh HO632.out).2.1);(case side3=>exact cq (Kd.jh HO635.out).2.2);(case side4=>exact (Kd.jh HO635.out).2.1);rintro e w' ⟨rfl,⟨nd,rfl⟩⟩;(try first | exact ⟨rfl,_,World.drewN_drewN _ _ _⟩ | exact ⟨rfl,_,Eq.trans (World.drewN_drewN _ _ _) (congrArg (World.drewN _) (Nat.add_assoc _ _ _))⟩)))
    repeat (go_quiet (first |(go_at_call 40;(with_reducible refine (jGa.calls k _ _ t622 _ _ t625 t628 t633 _ ?side1 ?side2 ?side3 ?side4 A12.out).mono ?_);(case side1=>exact cq (Kd.jh HO624.out).2.2);(case side2=>exact (Kd.jh HO624.out).2.1);(case side3=>exact cq (Kd.jka HO627.out).2.2);(case side4=>exact (Kd.jka HO627.out).2.1);rintro e w37 ⟨v634,rfl,ho0,hb⟩;have HO635:=am (Kd.jQ (Kd.jxb ho0 (Kd.R_lt (rq HO632.out))) (jN (Y3)));replace HO624:=am (Kd.jT (rq HO624.out) hb);replace HO627:=am (Kd.jcb (Y19) hb);replace HO632:=am (Kd.job (rq HO632.out) (Kd.jyb ho0) hb);replace BK629:=am (jm (g:=gb629) (o:=.cells #[.slice Ao8 t622.length co8] 32 (0,0)) (kq BK629.out) hb);replace HB:=am (je (Y3) hb);(try clear hb);(try clear hb2);(try clear hk);(try clear hi);(try clear ho0);obtain ⟨Ao38,co38,eo38⟩:=Kd.jU HO632.out;subst eo38;obtain ⟨Ao39,co39,eo39⟩:=Kd.jU HO635.out;subst eo39) |(go_at_call 27;(with_reducible refine (jV.calls k _ _ t630 _ _ t633 false _ ?side1 ?side2 ?side3 ?side4 A13.out).mono ?_);(case side1=>exact cq (Kd.jh HO632.out).2.2);(case side2=>exact (Kd.jh HO632.out).2.1);(case side3=>exact cq (Kd.jh HO635.out).2.2);(case side4=>exact (Kd.jh HO635.out).2.1);rintro e w' ⟨rfl,⟨nd,rfl⟩⟩;(try first | exact ⟨rfl,_,World.drewN_drewN _ _ _⟩ | exact ⟨rfl,_,Eq.trans (World.drewN_drewN _ _ _) (congrArg (World.drewN _) (Nat.add_assoc _ _ _))⟩)));try go_wp2_with (first |(go_at_call 40;(with_reducible refine (jGa.calls k _ _ t622 _ _ t625 t628 t633 _ ?side1 ?side2 ?side3 ?side4 A12.out).mono ?_);(case side1=>exact cq (Kd.jh HO624.out).2.2);(case side2=>exact (Kd.jh HO624.out).2.1);(case side3=>exact cq (Kd.jka HO627.out).2.2);(case side4=>exact (Kd.jka HO627.out).2.1);rintro e w37 ⟨v634,rfl,ho0,hb⟩;have HO635:=am (Kd.jQ (Kd.jxb ho0 (Kd.R_lt (rq HO632.out))) (jN (Y3)));replace HO624:=am (Kd.jT (rq HO624.out) hb);replace HO627:=am (Kd.jcb (Y19) hb);replace HO632:=am (Kd.job (rq HO632.out) (Kd.jyb ho0) hb);replace BK629:=am (jm (g:=gb629) (o:=.cells #[.slice Ao8 t622.length co8] 32 (0,0)) (kq BK629.out) hb);replace HB:=am (je (Y3) hb);(try clear hb);(try clear hb2);(try clear hk);(try clear hi);(try clear ho0);obtain ⟨Ao38,co38,eo38⟩:=Kd.jU HO632.out;subst eo38;obtain ⟨Ao39,co39,eo39⟩:=Kd.jU HO635.out;subst eo39) |(go_at_call 27;(with_reducible refine (jV.calls k _ _ t630 _ _ t633 false _ ?side1 ?side2 ?side3 ?side4 A13.out).mono ?_);(case side1=>exact cq (Kd.jh HO632.out).2.2);(case side2=>exact (Kd.jh HO632.out).2.1);(case side3=>exact cq (Kd.jh HO635.out).2.2);(case side4=>exact (Kd.jh HO635.out).2.1);rintro e w' ⟨rfl,⟨nd,rfl⟩⟩;(try first | exact ⟨rfl,_,World.drewN_drewN _ _ _⟩ | exact ⟨rfl,_,Eq.trans (World.drewN_drewN _ _ _) (congrArg (World.drewN _) (Nat.add_assoc _ _ _))⟩))))
    go_meet
    case rel=>exact ⟨_,(true),(sq),H',⟨Y35⟩,⟨by (with_reducible repeat (first | apply Kd.jJb | apply Kd.jIb | apply Kd.jYb));exact HO627.out⟩,⟨by (with_reducible repeat (first | apply Kd.jY | apply Kd.jX | apply Kd.jia));exact Kd.jE HO632.out (fun _ hk=>trivial)⟩,⟨rq HO624.out⟩,⟨kq BK629.out⟩,⟨Y3⟩⟩
  case rest =>
   clear HC5
   try clear c1
   try clear c2
   try clear c2b0
   try clear c2b1
   try clear p2
   try clear c8
   try clear c14
   try clear c16
   try clear c17
   try clear c17b0
   try clear hcz18_0
   try clear hcz22_0
   try clear hcz24_0
   try clear hcz28_0
   try clear hcz30_0
   try clear hcz34_0
   try clear hcz36_0
   try clear hcz9_0
   try clear hfz18_0
   try clear hfz22_0
   try clear hfz24_0
   try clear hfz28_0
   try clear hfz30_0
   try clear hfz34_0
   try clear hfz36_0
   try clear hfz9_0
   obtain ⟨kq,x44_4,rfl,HA,HJ4,HO_4,HO_6,HO_630000,BK629,HB⟩:=hcut
   cases kq with
   | zero=>exact absurd HA.out (by simp [jl.j0])
   | succ kj4 =>
    have H:=HA.out
    clear HA
    simp only [jl.j0] at H
    by_cases c40:x44_4=true
    ·subst c40
     have H1:((jGa.f kj4 t622 t625 t628).bind fun t638=>((jV.f kj4 t630 t638).bind fun t641=>(some t641)))=some r:=by rw [if_pos rfl] at H;exact H
     clear H
     have H:=H1
     clear H1
     replace H:=bzS H
     obtain ⟨t638,A410,H⟩:=H
     replace H:((jV.f kj4 t630 t638).bind fun t641=>(some t641))=some r:=H
     have A41:=am A410
     clear A410
     replace H:=bzS H
     obtain ⟨t641,A420,H⟩:=H
     replace H:(some t641)=some r:=H
     have A42:=am A420
     clear A420
     obtain rfl:=Option.some.inj H
     have hcz43_0:=bc0 BK629.out
     have hfz43_0:=ja BK629.out 0
     go_wp2_with (first |(go_at_call 40;(with_reducible refine (jGa.calls kj4 _ _ t622 _ _ t625 t628 t638 _ ?side1 ?side2 ?side3 ?side4 A41.out).mono ?_);(case side1=>exact cq (Kd.jh HO_630000.out).2.2);(case side2=>exact (Kd.jh HO_630000.out).2.1);(case side3=>exact cq (Kd.jka HO_4.out).2.2);(case side4=>exact (Kd.jka HO_4.out).2.1);rintro e w44 ⟨v639,rfl,ho0,hb⟩;have HO640:=am (Kd.jQ (Kd.jxb ho0 (Kd.R_lt (rq HO_6.out))) (jN (Y3)));replace HO_4:=am (Kd.jcb (Y101) hb);replace HO_6:=am (Kd.job (rq HO_6.out) (Kd.jyb ho0) hb);replace HO_630000:=am (Kd.jT (rq HO_630000.out) hb);replace BK629:=am (jm (g:=gb629) (o:=.cells #[.slice Ao8 t622.length co8] 32 (0,0)) (kq BK629.out) hb);replace HB:=am (je (Y3) hb);(try clear hb);(try clear hb2);(try clear hk);(try clear hi);(try clear ho0);obtain ⟨Ao45,co45,eo45⟩:=Kd.jU HO_6.out;subst eo45;obtain ⟨Ao46,co46,eo46⟩:=Kd.jU HO640.out;subst eo46) |(go_at_call 27;(with_reducible refine (jV.calls kj4 _ _ t630 _ _ t638 t641 _ ?side1 ?side2 ?side3 ?side4 A42.out).mono ?_);(case side1=>exact cq (Kd.jh HO_6.out).2.2);(case side2=>exact (Kd.jh HO_6.out).2.1);(case side3=>exact cq (Kd.jh HO640.out).2.2);(case side4=>exact (Kd.jh HO640.out).2.1);rintro e w' ⟨rfl,⟨nd,rfl⟩⟩;(try first | exact ⟨rfl,_,World.drewN_drewN _ _ _⟩ | exact ⟨rfl,_,Eq.trans (World.drewN_drewN _ _ _) (congrArg (World.drewN _) (Nat.add_assoc _ _ _))⟩)))
     repeat (go_quiet (first |(go_at_call 40;(with_reducible refine (jGa.calls kj4 _ _ t622 _ _ t625 t628 t638 _ ?side1 ?side2 ?side3 ?side4 A41.out).mono ?_);(case side1=>exact cq (Kd.jh HO_630000.out).2.2);(case side2=>exact (Kd.jh HO_630000.out).2.1);(case side3=>exact cq (Kd.jka HO_4.out).2.2);(case side4=>exact (Kd.jka HO_4.out).2.1);rintro e w44 ⟨v639,rfl,ho0,hb⟩;have HO640:=am (Kd.jQ (Kd.jxb ho0 (Kd.R_lt (rq HO_6.out))) (jN (Y3)));replace HO_4:=am (Kd.jcb (Y101) hb);replace HO_6:=am (Kd.job (rq HO_6.out) (Kd.jyb ho0) hb);replace HO_630000:=am (Kd.jT (rq HO_630000.out) hb);replace BK629:=am (jm (g:=gb629) (o:=.cells #[.slice Ao8 t622.length co8] 32 (0,0)) (kq BK629.out) hb);replace HB:=am (je (Y3) hb);(try clear hb);(try clear hb2);(try clear hk);(try clear hi);(try clear ho0);obtain ⟨Ao45,co45,eo45⟩:=Kd.jU HO_6.out;subst eo45;obtain ⟨Ao46,co46,eo46⟩:=Kd.jU HO640.out;subst eo46) |(go_at_call 27;(with_reducible refine (jV.calls kj4 _ _ t630 _ _ t638 t641 _ ?side1 ?side2 ?side3 ?side4 A42.out).mono ?_);(case side1=>exact cq (Kd.jh HO_6.out).2.2);(case side2=>exact (Kd.jh HO_6.out).2.1);(case side3=>exact cq (Kd.jh HO640.out).2.2);(case side4=>exact (Kd.jh HO640.out).2.1);rintro e w' ⟨rfl,⟨nd,rfl⟩⟩;(try first | exact ⟨rfl,_,World.drewN_drewN _ _ _⟩ | exact ⟨rfl,_,Eq.trans (World.drewN_drewN _ _ _) (congrArg (World.drewN _) (Nat.add_assoc _ _ _))⟩)));try go_wp2_with (first |(go_at_call 40;(with_reducible refine (jGa.calls kj4 _ _ t622 _ _ t625 t628 t638 _ ?side1 ?side2 ?side3 ?side4 A41.out).mono ?_);(case side1=>exact cq (Kd.jh HO_630000.out).2.2);(case side2=>exact (Kd.jh HO_630000.out).2.1);(case side3=>exact cq (Kd.jka HO_4.out).2.2);(case side4=>exact (Kd.jka HO_4.out).2.1);rintro e w44 ⟨v639,rfl,ho0,hb⟩;have HO640:=am (Kd.jQ (Kd.jxb ho0 (Kd.R_lt (rq HO_6.out))) (jN (Y3)));replace HO_4:=am (Kd.jcb (Y101) hb);replace HO_6:=am (Kd.job (rq HO_6.out) (Kd.jyb ho0) hb);replace HO_630000:=am (Kd.jT (rq HO_630000.out) hb);replace BK629:=am (jm (g:=gb629) (o:=.cells #[.slice Ao8 t622.length co8] 32 (0,0)) (kq BK629.out) hb);replace HB:=am (je (Y3) hb);(try clear hb);(try clear hb2);(try clear hk);(try clear hi);(try clear ho0);obtain ⟨Ao45,co45,eo45⟩:=Kd.jU HO_6.out;subst eo45;obtain ⟨Ao46,co46,eo46⟩:=Kd.jU HO640.out;subst eo46) |(go_at_call 27;(with_reducible refine (jV.calls kj4 _ _ t630 _ _ t638 t641 _ ?side1 ?side2 ?side3 ?side4 A42.out).mono ?_);(case side1=>exact cq (Kd.jh HO_6.out).2.2);(case side2=>exact (Kd.jh HO_6.out).2.1);(case side3=>exact cq (Kd.jh HO640.out).2.2);(case side4=>exact (Kd.jh HO640.out).2.1);rintro e w' ⟨rfl,⟨nd,rfl⟩⟩;(try first | exact ⟨rfl,_,World.drewN_drewN _ _ _⟩ | exact ⟨rfl,_,Eq.trans (World.drewN_drewN _ _ _) (congrArg (World.drewN _) (Nat.add_assoc _ _ _))⟩))))
     go_ret
     exact ⟨Y0,Y3⟩
    ·replace c40:=Bool.eq_false_iff.mpr c40
     subst c40
     have H1:(jl.l0 kj4 t625 t628 t630 0)=some r:=by rw [if_neg (show ¬ (false=true) by decide)] at H;exact H
     clear H
     have H:=H1
     clear H1
     have H':=am H
     clear H
     go_wp2
     repeat (go_quiet (fail);try go_wp2)
     go_loopg [7] kj4 (fun kq v7 w'=>∃ (x7_2:Int),v7=.int .i64 x7_2∧jq (jl.l0 kq t625 t628 t630 x7_2=some r)∧jq (kq≤kj4)∧jq (Kd.Q k52 52 w' w.heap.size (fun _=>True) (.slice Ao10 t625.length co10) t625)∧jq (Kd.R (Kd.int .i64) 3 w' w.heap.size (fun _=>True) v631 t630)∧jq (Kd.R k87 87 w' w.heap.size (fun _=>True) (.slice Ao8 t622.length co8) t622)∧jq (w'.heap[gb629]?=some (.cells #[(.slice Ao8 t622.length co8)] 32 (0,0)))∧jq (Below w.heap.size w w'))
     case atStart=>exact ⟨(0),(sq),H',⟨Nat.le_refl _⟩,⟨by (with_reducible repeat (first | apply Kd.jJb | apply Kd.jIb | apply Kd.jYb));exact HO_4.out⟩,⟨rq HO_6.out⟩,⟨rq HO_630000.out⟩,⟨kq BK629.out⟩,⟨Y3⟩⟩
     case round =>
      clear H'
      try clear c1
      try clear c2
      try clear c2b0
      try clear c2b1
      try clear p2
      try clear c4
      try clear c8
      try clear c14
      try clear c16
      try clear c17
      try clear c17b0
      try clear c40
      try clear hcz18_0
      try clear hcz22_0
      try clear hcz24_0
      try clear hcz28_0
      try clear hcz30_0
      try clear hcz34_0
      try clear hcz36_0
      try clear hcz43_0
      try clear hcz9_0
      try clear hfz18_0
      try clear hfz22_0
      try clear hfz24_0
      try clear hfz28_0
      try clear hfz30_0
      try clear hfz34_0
      try clear hfz36_0
      try clear hfz43_0
      try clear hfz9_0
      try clear p2
      obtain ⟨x7_2,rfl,HA,HK2,HO_4,HO_6,HO_630000,BK629,HB⟩:=hrel
      cases gk with
      | zero=>exact absurd HA.out (by simp [jl.l0])
      | succ k2 =>
       have H:=HA.out
       clear HA
       simp only [jl.l0] at H
       by_cases c47:x7_2<(t630.length:Int)
       ·rw [if_pos c47] at H
        have c47b0:decide (x7_2<(t630.length:Int))=true:=dzT c47
        clear c47
        by_cases c48:0≤x7_2
        ·rw [if_pos c48] at H
         have c48b0:decide (0≤x7_2)=true:=dzT c48
         clear c48
         by_cases c49:0≤(rd t630 x7_2)
         ·rw [if_pos c49] at H
          have c49b0:decide (0≤(rd t630 x7_2))=true:=dzT c49
          clear c49
          by_cases c50:(rd t630 x7_2)<(t625.length:Int)
          ·rw [if_pos c50] at H
           have c50b0:decide ((rd t630 x7_2)<(t625.length:Int))=true:=dzT c50
           clear c50
           have HC51:=am H
           clear H
           obtain ⟨Ao52,co52,eo52⟩:=Kd.jU HO_6.out
           subst eo52
           have p643:0≤(x7_2:Int):=ozD (uq)
           have q643:x7_2<(t630.length:Int):=ozD (uq)
           obtain ⟨ad643,e643,hx643_0⟩:=Kd.jgb (Kd.jh HO_6.out).2.2 x7_2 p643 q643
           cases e643
           replace p643:=ezT p643
           replace q643:=ezT q643
           have p644:0≤((rd t630 x7_2):Int):=ozD (uq)
           have q644:(rd t630 x7_2)<(t625.length:Int):=ozD (uq)
           obtain ⟨ad644,e644,hx644_0,hx644_1,hx644_2,hx644_3⟩:=jta (Kd.jka HO_4.out).2.2 (rd t630 x7_2) p644 q644
           cases e644
           replace p644:=ezT p644
           replace q644:=ezT q644
           go_upto_region 11 with (fail)
           repeat (go_quiet (fail);go_upto_region 11 with (fail))
           go_cut [108] (fun v108 wc=>∃ (kq:Nat) (x108_50:Bool),v108=.bool x108_50∧jq (jl.j2 kq t625 t628 t630 x7_2 x108_50=some r)∧jq (kq≤k2)∧jq (Kd.Q k52 52 wc w.heap.size (fun _=>True) (.slice (some ad644) t625.length co10) t625)∧jq (Kd.R (Kd.int .i64) 3 wc w.heap.size (fun _=>True) (.slice (some ad643) t630.length co52) t630)∧jq (Kd.R k87 87 wc w.heap.size (fun _=>True) (.slice Ao8 t622.length co8) t622)∧jq (wc.heap[gb629]?=some (.cells #[(.slice Ao8 t622.length co8)] 32 (0,0)))∧jq (Below w.heap.size w wc))
           case first =>
            have H:=HC51.out
            clear HC51
            have c53b0:=ezT (ozD (uq):0≤x7_2)
            by_cases c54:x7_2≤(t630.length:Int)
            ·rw [if_pos c54] at H
             have c54b0:=ezT c54
             have c54b1:decide (x7_2≤(t630.length:Int))=true:=dzT c54
             clear c54
             obtain ⟨y645,hy645⟩:∃ y_:List Int,y_=(t630.take (x7_2:Int).toNat):=⟨_,rfl⟩
             replace H:((jLa.f k2 y645 (rd t630 x7_2)).bind fun t650=>(if t650=true then (jl.j2 k2 t625 t628 t630 x7_2 true) else (if ((jc t625 (rd t630 x7_2)).f1)=11 then (if (rd t630 x7_2)≥t628 then (jl.j2 k2 t625 t628 t630 x7_2 true) else (if 0≤t628 then (if t628<(t625.length:Int) then (jl.j2 k2 t625 t628 t630 x7_2 (decide (((jc t625 (rd t630 x7_2)).f0)≥((jc t625 t628).f0)))) else (none)) else (none))) else (if ((jc t625 (rd t630 x7_2)).f1)=10 then (if 0≤t628 then (if t628<(t625.length:Int) then (jl.j2 k2 t625 t628 t630 x7_2 (decide (((jc t625 (rd t630 x7_2)).f0)≥((jc t625 t628).f0)))) else (none)) else (none)) else (jl.j2 k2 t625 t628 t630 x7_2 true)))))=some r:=by first |(rw [hy645];with_reducible exact H) |(have H2_:=(Option.bind_some _ _).symm.trans H;rw [hy645];with_reducible exact H2_) |(have H2_:=(Option.bind_some _ _).symm.trans H;with_reducible exact H2_) | with_reducible exact H |(rw [hy645];exact H) | exact H
             have Ny645:=am hy645
             clear hy645
             replace H:=bzS H
             obtain ⟨t650,A550,H⟩:=H
             replace H:(if t650=true then (jl.j2 k2 t625 t628 t630 x7_2 true) else (if ((jc t625 (rd t630 x7_2)).f1)=11 then (if (rd t630 x7_2)≥t628 then (jl.j2 k2 t625 t628 t630 x7_2 true) else (if 0≤t628 then (if t628<(t625.length:Int) then (jl.j2 k2 t625 t628 t630 x7_2 (decide (((jc t625 (rd t630 x7_2)).f0)≥((jc t625 t628).f0)))) else (none)) else (none))) else (if ((jc t625 (rd t630 x7_2)).f1)=10 then (if 0≤t628 then (if t628<(t625.length:Int) then (jl.j2 k2 t625 t628 t630 x7_2 (decide (((jc t625 (rd t630 x7_2)).f0)≥((jc t625 t628).f0)))) else (none)) else (none)) else (jl.j2 k2 t625 t628 t630 x7_2 true))))=some r:=H
             have A55:=am A550
             clear A550
             by_cases c56:t650=true
             ·subst c56
              have H1:(jl.j2 k2 t625 t628 t630 x7_2 true)=some r:=by rw [if_pos rfl] at H;exact H
              clear H
              have H:=H1
              clear H1
              have H':=am H
              clear H
              have q57:(x7_2:Int)≤((t630.length:Int):Int):=ozD (uq)
              obtain ⟨i057,hi057,_,hsz57,_⟩:=info_parts info3
              have hroom57:t630.length≤co52:=(Kd.jh HO_6.out).2.1
              have hC57:Kd.C (Kd.int .i64) _ (some ad643) t630.length t630:=(Kd.jh HO_6.out).2.2
              have hcut57:=cut_to (P:=Try.prog) 28 3 .i64 Try.underlying28 hi057 (some ad643) t630.length co52 x7_2 (ozD (uq)) q57 hroom57
              have hr57:=Kd.C_take (m:=(x7_2:Int).toNat) hC57 (by omega)
              have hy57:y645.length=(x7_2:Int).toNat:=(by rw [Ny645.out,List.length_take];omega)
              rw [← Ny645.out] at hr57
              rw [← hy57] at hcut57
              have HR648:=am hr57
              have HC648:=am (show y645.length≤co52 from by omega)
              clear hr57 hC57 hroom57 hi057 hsz57
              have KY57:=am hy57
              clear hy57
              have KL57:=am (show (x7_2:Int).toNat≤t630.length from by omega)
              replace q57:=ezT q57
              have p649:0≤(x7_2:Int):=ozD (uq)
              have q649:x7_2<(t630.length:Int):=ozD (uq)
              obtain ⟨ad649,e649,hx649_0⟩:=Kd.jgb (Kd.jh HO_6.out).2.2 x7_2 p649 q649
              obtain rfl:ad643=ad649:=(by injection e649)
              replace p649:=ezT p649
              replace q649:=ezT q649
              go_wp2_with (first |(go_at_call 33;(with_reducible refine (jLa.calls k2 _ _ y645 (rd t630 x7_2) true _ ?side1 ?side2 A55.out).mono ?_);(case side1=>exact Y34);(case side2=>exact HC648.out);rintro e w' ⟨rfl,⟨nd,rfl⟩⟩;(try first | exact ⟨rfl,_,World.drewN_drewN _ _ _⟩ | exact ⟨rfl,_,Eq.trans (World.drewN_drewN _ _ _) (congrArg (World.drewN _) (Nat.add_assoc _ _ _))⟩)))
              repeat (go_quiet (first |(go_at_call 33;(with_reducible refine (jLa.calls k2 _ _ y645 (rd t630 x7_2) true _ ?side1 ?side2 A55.out).mono ?_);(case side1=>exact Y34);(case side2=>exact HC648.out);rintro e w' ⟨rfl,⟨nd,rfl⟩⟩;(try first | exact ⟨rfl,_,World.drewN_drewN _ _ _⟩ | exact ⟨rfl,_,Eq.trans (World.drewN_drewN _ _ _) (congrArg (World.drewN _) (Nat.add_assoc _ _ _))⟩)));try go_wp2_with (first |(go_at_call 33;(with_reducible refine (jLa.calls k2 _ _ y645 (rd t630 x7_2) true _ ?side1 ?side2 A55.out).mono ?_);(case side1=>exact Y34);(case side2=>exact HC648.out);rintro e w' ⟨rfl,⟨nd,rfl⟩⟩;(try first | exact ⟨rfl,_,World.drewN_drewN _ _ _⟩ | exact ⟨rfl,_,Eq.trans (World.drewN_drewN _ _ _) (congrArg (World.drewN _) (Nat.add_assoc _ _ _))⟩))))
              go_meet
              case rel=>exact ⟨_,(true),(sq),H',⟨by have:=HJ4.out;have:=HK2.out;first | omega | exact Nat.le_refl _⟩,⟨by (with_reducible repeat (first | apply Kd.jJb | apply Kd.jIb | apply Kd.jYb));exact HO_4.out⟩,⟨rq HO_6.out⟩,⟨rq HO_630000.out⟩,⟨kq BK629.out⟩,⟨Y3⟩⟩
             ·replace c56:=Bool.eq_false_iff.mpr c56
              subst c56
              have H1:(if ((jc t625 (rd t630 x7_2)).f1)=11 then (if (rd t630 x7_2)≥t628 then (jl.j2 k2 t625 t628 t630 x7_2 true) else (if 0≤t628 then (if t628<(t625.length:Int) then (jl.j2 k2 t625 t628 t630 x7_2 (decide (((jc t625 (rd t630 x7_2)).f0)≥((jc t625 t628).f0)))) else (none)) else (none))) else (if ((jc t625 (rd t630 x7_2)).f1)=10 then (if 0≤t628 then (if t628<(t625.length:Int) then (jl.j2 k2 t625 t628 t630 x7_2 (decide (((jc t625 (rd t630 x7_2)).f0)≥((jc t625 t628).f0)))) else (none)) else (none)) else (jl.j2 k2 t625 t628 t630 x7_2 true)))=some r:=by rw [if_neg (show ¬ (false=true) by decide)] at H;exact H
              clear H
              have H:=H1
              clear H1
              by_cases c58:((jc t625 (rd t630 x7_2)).f1)=11
              ·rw [if_pos c58] at H
               have c58b0:(((jc t625 (rd t630 x7_2)).f1) == 11)=true:=beq_iff_eq.mpr c58
               have c58b1:(((jc t625 (rd t630 x7_2)).f1) != 11)=false:=bne_eq_false_iff_eq.mpr c58
               clear c58
               (first | rw [c58b0] |(simp only [jhb,jpb];rw [c58b0]) | skip)
               by_cases c59:(rd t630 x7_2)≥t628
               ·rw [if_pos c59] at H
                have c59b0:decide (t628≤(rd t630 x7_2))=true:=dzT c59
                clear c59
                have H':=am H
                clear H
                have q60:(x7_2:Int)≤((t630.length:Int):Int):=ozD (uq)
                obtain ⟨i060,hi060,_,hsz60,_⟩:=info_parts info3
                have hroom60:t630.length≤co52:=(Kd.jh HO_6.out).2.1
                have hC60:Kd.C (Kd.int .i64) _ (some ad643) t630.length t630:=(Kd.jh HO_6.out).2.2
                have hcut60:=cut_to (P:=Try.prog) 28 3 .i64 Try.underlying28 hi060 (some ad643) t630.length co52 x7_2 (ozD (uq)) q60 hroom60
                have hr60:=Kd.C_take (m:=(x7_2:Int).toNat) hC60 (by omega)
                have hy60:y645.length=(x7_2:Int).toNat:=(by rw [Ny645.out,List.length_take];omega)
                rw [← Ny645.out] at hr60
                rw [← hy60] at hcut60
                have HR648:=am hr60
                have HC648:=am (show y645.length≤co52 from by omega)
                clear hr60 hC60 hroom60 hi060 hsz60
                have KY60:=am hy60
                clear hy60
                have KL60:=am (show (x7_2:Int).toNat≤t630.length from by omega)
                replace q60:=ezT q60
                have p649:0≤(x7_2:Int):=ozD (uq)
                have q649:x7_2<(t630.length:Int):=ozD (uq)
                obtain ⟨ad649,e649,hx649_0⟩:=Kd.jgb (Kd.jh HO_6.out).2.2 x7_2 p649 q649
                obtain rfl:ad643=ad649:=(by injection e649)
                replace p649:=ezT p649
                replace q649:=ezT q649
                have p651:0≤(x7_2:Int):=ozD (uq)
                have q651:x7_2<(t630.length:Int):=ozD (uq)
                obtain ⟨ad651,e651,hx651_0⟩:=Kd.jgb (Kd.jh HO_6.out).2.2 x7_2 p651 q651
                obtain rfl:ad643=ad651:=(by injection e651)
                replace p651:=ezT p651
                replace q651:=ezT q651
                go_wp2_with (first |(go_at_call 33;(with_reducible refine (jLa.calls k2 _ _ y645 (rd t630 x7_2) false _ ?side1 ?side2 A55.out).mono ?_);(case side1=>exact Y34);(case side2=>exact HC648.out);rintro e w' ⟨rfl,⟨nd,rfl⟩⟩;(try first | exact ⟨rfl,_,World.drewN_drewN _ _ _⟩ | exact ⟨rfl,_,Eq.trans (World.drewN_drewN _ _ _) (congrArg (World.drewN _) (Nat.add_assoc _ _ _))⟩)))
                repeat (go_quiet (first |(go_at_call 33;(with_reducible refine (jLa.calls k2 _ _ y645 (rd t630 x7_2) false _ ?side1 ?side2 A55.out).mono ?_);(case side1=>exact Y34);(case side2=>exact HC648.out);rintro e w' ⟨rfl,⟨nd,rfl⟩⟩;(try first | exact ⟨rfl,_,World.drewN_drewN _ _ _⟩ | exact ⟨rfl,_,Eq.trans (World.drewN_drewN _ _ _) (congrArg (World.drewN _) (Nat.add_assoc _ _ _))⟩)));try go_wp2_with (first |(go_at_call 33;(with_reducible refine (jLa.calls k2 _ _ y645 (rd t630 x7_2) false _ ?side1 ?side2 A55.out).mono ?_);(case side1=>exact Y34);(case side2=>exact HC648.out);rintro e w' ⟨rfl,⟨nd,rfl⟩⟩;(try first | exact ⟨rfl,_,World.drewN_drewN _ _ _⟩ | exact ⟨rfl,_,Eq.trans (World.drewN_drewN _ _ _) (congrArg (World.drewN _) (Nat.add_assoc _ _ _))⟩))))
                go_meet
                case rel=>exact ⟨_,(true),(sq),H',⟨by have:=HJ4.out;have:=HK2.out;first | omega | exact Nat.le_refl _⟩,⟨by (with_reducible repeat (first | apply Kd.jJb | apply Kd.jIb | apply Kd.jYb));exact HO_4.out⟩,⟨rq HO_6.out⟩,⟨rq HO_630000.out⟩,⟨kq BK629.out⟩,⟨Y3⟩⟩
               ·rw [if_neg c59] at H
                have c59b0:decide (t628≤(rd t630 x7_2))=false:=dzF c59
                clear c59
                by_cases c61:0≤t628
                ·rw [if_pos c61] at H
                 have c61b0:decide (0≤t628)=true:=dzT c61
                 clear c61
                 by_cases c62:t628<(t625.length:Int)
                 ·rw [if_pos c62] at H
                  have c62b0:decide (t628<(t625.length:Int))=true:=dzT c62
                  clear c62
                  have H':=am H
                  clear H
                  have q63:(x7_2:Int)≤((t630.length:Int):Int):=ozD (uq)
                  obtain ⟨i063,hi063,_,hsz63,_⟩:=info_parts info3
                  have hroom63:t630.length≤co52:=(Kd.jh HO_6.out).2.1
                  have hC63:Kd.C (Kd.int .i64) _ (some ad643) t630.length t630:=(Kd.jh HO_6.out).2.2
                  have hcut63:=cut_to (P:=Try.prog) 28 3 .i64 Try.underlying28 hi063 (some ad643) t630.length co52 x7_2 (ozD (uq)) q63 hroom63
                  have hr63:=Kd.C_take (m:=(x7_2:Int).toNat) hC63 (by omega)
                  have hy63:y645.length=(x7_2:Int).toNat:=(by rw [Ny645.out,List.length_take];omega)
                  rw [← Ny645.out] at hr63
                  rw [← hy63] at hcut63
                  have HR648:=am hr63
                  have HC648:=am (show y645.length≤co52 from by omega)
                  clear hr63 hC63 hroom63 hi063 hsz63
                  have KY63:=am hy63
                  clear hy63
                  have KL63:=am (show (x7_2:Int).toNat≤t630.length from by omega)
                  replace q63:=ezT q63
                  have p649:0≤(x7_2:Int):=ozD (uq)
                  have q649:x7_2<(t630.length:Int):=ozD (uq)
                  obtain ⟨ad649,e649,hx649_0⟩:=Kd.jgb (Kd.jh HO_6.out).2.2 x7_2 p649 q649
                  obtain rfl:ad643=ad649:=(by injection e649)
                  replace p649:=ezT p649
                  replace q649:=ezT q649
                  have p651:0≤(x7_2:Int):=ozD (uq)
                  have q651:x7_2<(t630.length:Int):=ozD (uq)
                  obtain ⟨ad651,e651,hx651_0⟩:=Kd.jgb (Kd.jh HO_6.out).2.2 x7_2 p651 q651
                  obtain rfl:ad643=ad651:=(by injection e651)
                  replace p651:=ezT p651
                  replace q651:=ezT q651
                  have p652:0≤(x7_2:Int):=ozD (uq)
                  have q652:x7_2<(t630.length:Int):=ozD (uq)
                  obtain ⟨ad652,e652,hx652_0⟩:=Kd.jgb (Kd.jh HO_6.out).2.2 x7_2 p652 q652
                  obtain rfl:ad643=ad652:=(by injection e652)
                  replace p652:=ezT p652
                  replace q652:=ezT q652
                  have p653:0≤((rd t630 x7_2):Int):=ozD (uq)
                  have q653:(rd t630 x7_2)<(t625.length:Int):=ozD (uq)
                  obtain ⟨ad653,e653,hx653_0,hx653_1,hx653_2,hx653_3⟩:=jta (Kd.jka HO_4.out).2.2 (rd t630 x7_2) p653 q653
                  obtain rfl:ad644=ad653:=(by injection e653)
                  replace p653:=ezT p653
                  replace q653:=ezT q653
                  have p654:0≤(t628:Int):=ozD (uq)
                  have q654:t628<(t625.length:Int):=ozD (uq)
                  obtain ⟨ad654,e654,hx654_0,hx654_1,hx654_2,hx654_3⟩:=jta (Kd.jka HO_4.out).2.2 t628 p654 q654
                  obtain rfl:ad644=ad654:=(by injection e654)
                  replace p654:=ezT p654
                  replace q654:=ezT q654
                  go_wp2_with (first |(go_at_call 33;(with_reducible refine (jLa.calls k2 _ _ y645 (rd t630 x7_2) false _ ?side1 ?side2 A55.out).mono ?_);(case side1=>exact Y34);(case side2=>exact HC648.out);rintro e w' ⟨rfl,⟨nd,rfl⟩⟩;(try first | exact ⟨rfl,_,World.drewN_drewN _ _ _⟩ | exact ⟨rfl,_,Eq.trans (World.drewN_drewN _ _ _) (congrArg (World.drewN _) (Nat.add_assoc _ _ _))⟩)))
                  repeat (go_quiet (first |(go_at_call 33;(with_reducible refine (jLa.calls k2 _ _ y645 (rd t630 x7_2) false _ ?side1 ?side2 A55.out).mono ?_);(case side1=>exact Y34);(case side2=>exact HC648.out);rintro e w' ⟨rfl,⟨nd,rfl⟩⟩;(try first | exact ⟨rfl,_,World.drewN_drewN _ _ _⟩ | exact ⟨rfl,_,Eq.trans (World.drewN_drewN _ _ _) (congrArg (World.drewN _) (Nat.add_assoc _ _ _))⟩)));try go_wp2_with (first |(go_at_call 33;(with_reducible refine (jLa.calls k2 _ _ y645 (rd t630 x7_2) false _ ?side1 ?side2 A55.out).mono ?_);(case side1=>exact Y34);(case side2=>exact HC648.out);rintro e w' ⟨rfl,⟨nd,rfl⟩⟩;(try first | exact ⟨rfl,_,World.drewN_drewN _ _ _⟩ | exact ⟨rfl,_,Eq.trans (World.drewN_drewN _ _ _) (congrArg (World.drewN _) (Nat.add_assoc _ _ _))⟩))))
                  go_meet
                  case rel=>exact ⟨_,(decide (((jc t625 (rd t630 x7_2)).f0)≥((jc t625 t628).f0))),(sq),H',⟨by have:=HJ4.out;have:=HK2.out;first | omega | exact Nat.le_refl _⟩,⟨by (with_reducible repeat (first | apply Kd.jJb | apply Kd.jIb | apply Kd.jYb));exact HO_4.out⟩,⟨rq HO_6.out⟩,⟨rq HO_630000.out⟩,⟨kq BK629.out⟩,⟨Y3⟩⟩
                 ·rw [if_neg c62] at H
                  exact absurd H (by simp)
                ·rw [if_neg c61] at H
                 exact absurd H (by simp)
              ·rw [if_neg c58] at H
               have c58b0:(((jc t625 (rd t630 x7_2)).f1) == 11)=false:=beq_eq_false_iff_ne.mpr c58
               have c58b1:(((jc t625 (rd t630 x7_2)).f1) != 11)=true:=bne_iff_ne.mpr c58
               (first | rw [c58b0] |(simp only [jhb,jpb];rw [c58b0]) | skip)
               by_cases c64:((jc t625 (rd t630 x7_2)).f1)=10
               ·rw [if_pos c64] at H
                have c64b0:(((jc t625 (rd t630 x7_2)).f1) == 10)=true:=beq_iff_eq.mpr c64
                have c64b1:(((jc t625 (rd t630 x7_2)).f1) != 10)=false:=bne_eq_false_iff_eq.mpr c64
                clear c64
                by_cases c65:0≤t628
                ·rw [if_pos c65] at H
                 have c65b0:decide (0≤t628)=true:=dzT c65
                 clear c65
                 by_cases c66:t628<(t625.length:Int)
                 ·rw [if_pos c66] at H
                  have c66b0:decide (t628<(t625.length:Int))=true:=dzT c66
                  clear c66
                  have H':=am H
                  clear H
                  have q67:(x7_2:Int)≤((t630.length:Int):Int):=ozD (uq)
                  obtain ⟨i067,hi067,_,hsz67,_⟩:=info_parts info3
                  have hroom67:t630.length≤co52:=(Kd.jh HO_6.out).2.1
                  have hC67:Kd.C (Kd.int .i64) _ (some ad643) t630.length t630:=(Kd.jh HO_6.out).2.2
                  have hcut67:=cut_to (P:=Try.prog) 28 3 .i64 Try.underlying28 hi067 (some ad643) t630.length co52 x7_2 (ozD (uq)) q67 hroom67
                  have hr67:=Kd.C_take (m:=(x7_2:Int).toNat) hC67 (by omega)
                  have hy67:y645.length=(x7_2:Int).toNat:=(by rw [Ny645.out,List.length_take];omega)
                  rw [← Ny645.out] at hr67
                  rw [← hy67] at hcut67
                  have HR648:=am hr67
                  have HC648:=am (show y645.length≤co52 from by omega)
                  clear hr67 hC67 hroom67 hi067 hsz67
                  have KY67:=am hy67
                  clear hy67
                  have KL67:=am (show (x7_2:Int).toNat≤t630.length from by omega)
                  replace q67:=ezT q67
                  have p649:0≤(x7_2:Int):=ozD (uq)
                  have q649:x7_2<(t630.length:Int):=ozD (uq)
                  obtain ⟨ad649,e649,hx649_0⟩:=Kd.jgb (Kd.jh HO_6.out).2.2 x7_2 p649 q649
                  obtain rfl:ad643=ad649:=(by injection e649)
                  replace p649:=ezT p649
                  replace q649:=ezT q649
                  have p655:0≤(x7_2:Int):=ozD (uq)
                  have q655:x7_2<(t630.length:Int):=ozD (uq)
                  obtain ⟨ad655,e655,hx655_0⟩:=Kd.jgb (Kd.jh HO_6.out).2.2 x7_2 p655 q655
                  obtain rfl:ad643=ad655:=(by injection e655)
                  replace p655:=ezT p655
                  replace q655:=ezT q655
                  have p656:0≤((rd t630 x7_2):Int):=ozD (uq)
                  have q656:(rd t630 x7_2)<(t625.length:Int):=ozD (uq)
                  obtain ⟨ad656,e656,hx656_0,hx656_1,hx656_2,hx656_3⟩:=jta (Kd.jka HO_4.out).2.2 (rd t630 x7_2) p656 q656
                  obtain rfl:ad644=ad656:=(by injection e656)
                  replace p656:=ezT p656
                  replace q656:=ezT q656
                  have p657:0≤(t628:Int):=ozD (uq)
                  have q657:t628<(t625.length:Int):=ozD (uq)
                  obtain ⟨ad657,e657,hx657_0,hx657_1,hx657_2,hx657_3⟩:=jta (Kd.jka HO_4.out).2.2 t628 p657 q657
                  obtain rfl:ad644=ad657:=(by injection e657)
                  replace p657:=ezT p657
                  replace q657:=ezT q657
                  go_wp2_with (first |(go_at_call 33;(with_reducible refine (jLa.calls k2 _ _ y645 (rd t630 x7_2) false _ ?side1 ?side2 A55.out).mono ?_);(case side1=>exact Y34);(case side2=>exact HC648.out);rintro e w' ⟨rfl,⟨nd,rfl⟩⟩;(try first | exact ⟨rfl,_,World.drewN_drewN _ _ _⟩ | exact ⟨rfl,_,Eq.trans (World.drewN_drewN _ _ _) (congrArg (World.drewN _) (Nat.add_assoc _ _ _))⟩)))
                  repeat (go_quiet (first |(go_at_call 33;(with_reducible refine (jLa.calls k2 _ _ y645 (rd t630 x7_2) false _ ?side1 ?side2 A55.out).mono ?_);(case side1=>exact Y34);(case side2=>exact HC648.out);rintro e w' ⟨rfl,⟨nd,rfl⟩⟩;(try first | exact ⟨rfl,_,World.drewN_drewN _ _ _⟩ | exact ⟨rfl,_,Eq.trans (World.drewN_drewN _ _ _) (congrArg (World.drewN _) (Nat.add_assoc _ _ _))⟩)));try go_wp2_with (first |(go_at_call 33;(with_reducible refine (jLa.calls k2 _ _ y645 (rd t630 x7_2) false _ ?side1 ?side2 A55.out).mono ?_);(case side1=>exact Y34);(case side2=>exact HC648.out);rintro e w' ⟨rfl,⟨nd,rfl⟩⟩;(try first | exact ⟨rfl,_,World.drewN_drewN _ _ _⟩ | exact ⟨rfl,_,Eq.trans (World.drewN_drewN _ _ _) (congrArg (World.drewN _) (Nat.add_assoc _ _ _))⟩))))
                  go_meet
                  case rel=>exact ⟨_,(decide (((jc t625 (rd t630 x7_2)).f0)≥((jc t625 t628).f0))),(sq),H',⟨by have:=HJ4.out;have:=HK2.out;first | omega | exact Nat.le_refl _⟩,⟨by (with_reducible repeat (first | apply Kd.jJb | apply Kd.jIb | apply Kd.jYb));exact HO_4.out⟩,⟨rq HO_6.out⟩,⟨rq HO_630000.out⟩,⟨kq BK629.out⟩,⟨Y3⟩⟩
                 ·rw [if_neg c66] at H
                  exact absurd H (by simp)
                ·rw [if_neg c65] at H
                 exact absurd H (by simp)
               ·rw [if_neg c64] at H
                have c64b0:(((jc t625 (rd t630 x7_2)).f1) == 10)=false:=beq_eq_false_iff_ne.mpr c64
                have c64b1:(((jc t625 (rd t630 x7_2)).f1) != 10)=true:=bne_iff_ne.mpr c64
                have H':=am H
                clear H
                have q68:(x7_2:Int)≤((t630.length:Int):Int):=ozD (uq)
                obtain ⟨i068,hi068,_,hsz68,_⟩:=info_parts info3
                have hroom68:t630.length≤co52:=(Kd.jh HO_6.out).2.1
                have hC68:Kd.C (Kd.int .i64) _ (some ad643) t630.length t630:=(Kd.jh HO_6.out).2.2
                have hcut68:=cut_to (P:=Try.prog) 28 3 .i64 Try.underlying28 hi068 (some ad643) t630.length co52 x7_2 (ozD (uq)) q68 hroom68
                have hr68:=Kd.C_take (m:=(x7_2:Int).toNat) hC68 (by omega)
                have hy68:y645.length=(x7_2:Int).toNat:=(by rw [Ny645.out,List.length_take];omega)
                rw [← Ny645.out] at hr68
                rw [← hy68] at hcut68
                have HR648:=am hr68
                have HC648:=am (show y645.length≤co52 from by omega)
                clear hr68 hC68 hroom68 hi068 hsz68
                have KY68:=am hy68
                clear hy68
                have KL68:=am (show (x7_2:Int).toNat≤t630.length from by omega)
                replace q68:=ezT q68
                have p649:0≤(x7_2:Int):=ozD (uq)
                have q649:x7_2<(t630.length:Int):=ozD (uq)
                obtain ⟨ad649,e649,hx649_0⟩:=Kd.jgb (Kd.jh HO_6.out).2.2 x7_2 p649 q649
                obtain rfl:ad643=ad649:=(by injection e649)
                replace p649:=ezT p649
                replace q649:=ezT q649
                go_wp2_with (first |(go_at_call 33;(with_reducible refine (jLa.calls k2 _ _ y645 (rd t630 x7_2) false _ ?side1 ?side2 A55.out).mono ?_);(case side1=>exact Y34);(case side2=>exact HC648.out);rintro e w' ⟨rfl,⟨nd,rfl⟩⟩;(try first | exact ⟨rfl,_,World.drewN_drewN _ _ _⟩ | exact ⟨rfl,_,Eq.trans (World.drewN_drewN _ _ _) (congrArg (World.drewN _) (Nat.add_assoc _ _ _))⟩)))
                repeat (go_quiet (first |(go_at_call 33;(with_reducible refine (jLa.calls k2 _ _ y645 (rd t630 x7_2) false _ ?side1 ?side2 A55.out).mono ?_);(case side1=>exact Y34);(case side2=>exact HC648.out);rintro e w' ⟨rfl,⟨nd,rfl⟩⟩;(try first | exact ⟨rfl,_,World.drewN_drewN _ _ _⟩ | exact ⟨rfl,_,Eq.trans (World.drewN_drewN _ _ _) (congrArg (World.drewN _) (Nat.add_assoc _ _ _))⟩)));try go_wp2_with (first |(go_at_call 33;(with_reducible refine (jLa.calls k2 _ _ y645 (rd t630 x7_2) false _ ?side1 ?side2 A55.out).mono ?_);(case side1=>exact Y34);(case side2=>exact HC648.out);rintro e w' ⟨rfl,⟨nd,rfl⟩⟩;(try first | exact ⟨rfl,_,World.drewN_drewN _ _ _⟩ | exact ⟨rfl,_,Eq.trans (World.drewN_drewN _ _ _) (congrArg (World.drewN _) (Nat.add_assoc _ _ _))⟩))))
                go_meet
                case rel=>exact ⟨_,(true),(sq),H',⟨by have:=HJ4.out;have:=HK2.out;first | omega | exact Nat.le_refl _⟩,⟨by (with_reducible repeat (first | apply Kd.jJb | apply Kd.jIb | apply Kd.jYb));exact HO_4.out⟩,⟨rq HO_6.out⟩,⟨rq HO_630000.out⟩,⟨kq BK629.out⟩,⟨Y3⟩⟩
            ·rw [if_neg c54] at H
             exact absurd H (by simp)
           case rest =>
            clear HC51
            try clear c1
            try clear c2
            try clear c2b0
            try clear c2b1
            try clear p2
            try clear c4
            try clear c5
            try clear q5
            try clear c6
            try clear p6
            try clear q6
            try clear hx6
            try clear c8
            try clear c14
            try clear c16
            try clear c17
            try clear c17b0
            try clear c40
            try clear c47
            try clear c47b0
            try clear c48
            try clear c48b0
            try clear c49
            try clear c49b0
            try clear c50
            try clear c50b0
            try clear c53
            try clear c53b0
            try clear c54
            try clear c54b0
            try clear c54b1
            try clear c56
            try clear q57
            try clear c58
            try clear c58b0
            try clear c58b1
            try clear c59
            try clear c59b0
            try clear q60
            try clear c61
            try clear c61b0
            try clear c62
            try clear c62b0
            try clear q63
            try clear c64
            try clear c64b0
            try clear c64b1
            try clear p64
            try clear q64
            try clear hx64
            try clear c65
            try clear c65b0
            try clear p65
            try clear q65
            try clear hx65
            try clear c66
            try clear c66b0
            try clear q67
            try clear q68
            try clear hcz18_0
            try clear hcz22_0
            try clear hcz24_0
            try clear hcz28_0
            try clear hcz30_0
            try clear hcz34_0
            try clear hcz36_0
            try clear hcz43_0
            try clear hcz9_0
            try clear hfz18_0
            try clear hfz22_0
            try clear hfz24_0
            try clear hfz28_0
            try clear hfz30_0
            try clear hfz34_0
            try clear hfz36_0
            try clear hfz43_0
            try clear hfz9_0
            try clear hx643_0
            try clear hx644_0
            try clear hx644_1
            try clear hx644_2
            try clear hx644_3
            try clear hx649_0
            try clear hx651_0
            try clear hx652_0
            try clear hx653_0
            try clear hx653_1
            try clear hx653_2
            try clear hx653_3
            try clear hx654_0
            try clear hx654_1
            try clear hx654_2
            try clear hx654_3
            try clear hx655_0
            try clear hx656_0
            try clear hx656_1
            try clear hx656_2
            try clear hx656_3
            try clear hx657_0
            try clear hx657_1
            try clear hx657_2
            try clear hx657_3
            try clear p2
            try clear p643
            try clear p644
            try clear p649
            try clear p651
            try clear p652
            try clear p653
            try clear p654
            try clear p655
            try clear p656
            try clear p657
            try clear q57
            try clear q60
            try clear q63
            try clear q643
            try clear q644
            try clear q649
            try clear q651
            try clear q652
            try clear q653
            try clear q654
            try clear q655
            try clear q656
            try clear q657
            try clear q67
            try clear q68
            obtain ⟨kq,x108_50,rfl,HA,HJ50,HO_4,HO_6,HO_630000,BK629,HB⟩:=hcut
            cases kq with
            | zero=>exact absurd HA.out (by simp [jl.j2])
            | succ kj50 =>
             have H:=HA.out
             clear HA
             simp only [jl.j2] at H
             by_cases c69:x108_50=true
             ·subst c69
              have H1:(some false)=some r:=by rw [if_pos rfl] at H;exact H
              clear H
              have H:=H1
              clear H1
              exact absurd ((Option.some.inj H).trans hT) Bool.false_ne_true
             ·replace c69:=Bool.eq_false_iff.mpr c69
              subst c69
              have H1:(jl.l0 kj50 t625 t628 t630 (wrap64 (x7_2+1)))=some r:=by rw [if_neg (show ¬ (false=true) by decide)] at H;exact H
              clear H
              have H:=H1
              clear H1
              have H':=am H
              clear H
              go_wp2
              repeat (go_quiet (fail);try go_wp2)
              go_roundg kj50
              case measure=>have:=HJ4.out;have:=HK2.out;have:=HJ50.out;omega
              case rel=>exact ⟨(wrap64 (x7_2+1)),(sq),H',⟨by have:=HJ4.out;have:=HK2.out;have:=HJ50.out;omega⟩,⟨by (with_reducible repeat (first | apply Kd.jJb | apply Kd.jIb | apply Kd.jYb));exact HO_4.out⟩,⟨rq HO_6.out⟩,⟨rq HO_630000.out⟩,⟨kq BK629.out⟩,⟨Y3⟩⟩
          ·rw [if_neg c50] at H
           exact absurd H (by simp)
         ·rw [if_neg c49] at H
          exact absurd H (by simp)
        ·rw [if_neg c48] at H
         exact absurd H (by simp)
       ·rw [if_neg c47] at H
        have c47b0:decide (x7_2<(t630.length:Int))=false:=dzF c47
        clear c47
        by_cases c70:0≤t628
        ·rw [if_pos c70] at H
         have c70b0:decide (0≤t628)=true:=dzT c70
         clear c70
         by_cases c71:t628<(t625.length:Int)
         ·rw [if_pos c71] at H
          have c71b0:decide (t628<(t625.length:Int))=true:=dzT c71
          clear c71
          obtain rfl:=Option.some.inj H
          obtain ⟨Ao72,co72,eo72⟩:=Kd.jU HO_6.out
          subst eo72
          have p642:0≤(t628:Int):=ozD (uq)
          have q642:t628<(t625.length:Int):=ozD (uq)
          obtain ⟨ad642,e642,hx642_0,hx642_1,hx642_2,hx642_3⟩:=jta (Kd.jka HO_4.out).2.2 t628 p642 q642
          cases e642
          replace p642:=ezT p642
          replace q642:=ezT q642
          go_wp2
          repeat (go_quiet (fail);try go_wp2)
          go_ret
          exact ⟨Y0,Y3⟩
         ·rw [if_neg c71] at H
          exact absurd H (by simp)
        ·rw [if_neg c70] at H
         exact absurd H (by simp)
def jl.Pure : Prop := ∀ (l0 : List Int), l0.length ≤ maxLen → l0.length * 1 ≤ 140737488351232 → (∀ x ∈ l0, (Lit.int .u8 x).wf = true) → ∃ k, jl.f k l0 = some true
theorem jl.walk (P : jl.Pure) (a0 : Option Addr) (len0 cap0 : Nat) (z0 : List Int) (w : World) (w0 : (a0 = none ∧ len0 = 0 ∧ cap0 = 0 ∧ z0 = []) ∨ ∃ x, a0 = some x ∧ len0 ≤ cap0 ∧ cap0 ≤ maxLen ∧ z0.length = cap0 ∧ (∀ i, i < z0.length → w.cell? (x.add i) = some (.int .u8 (z0.getD i 0))) ∧ ∀ n ∈ z0, (Lit.int .u8 n).wf = true) (y0 : len0 * 1 ≤ 140737488351232) :
  Calls Try.prog 8 #[.slice a0 len0 cap0] w fun e w'=>e=.returned (.bool true)∧Below w.heap.size w w':=by
 obtain ⟨l0,rfl,hr0,hm0,hw0,hc0⟩:=jsb.ofRowC w0
 obtain ⟨k,h⟩:=P l0 hm0 y0 hw0
 refine (jl.calls k _ _ l0 true w (Kd.C_of_reads (d:=(0:Int)) (h1:=fun _=>rfl) hr0) hc0 rfl h).mono ?_
 rintro e w' ⟨rfl,hd⟩
 exact ⟨rfl,hd⟩
end Go.Proofs.Ytkokajljeebgdaa.P
end
