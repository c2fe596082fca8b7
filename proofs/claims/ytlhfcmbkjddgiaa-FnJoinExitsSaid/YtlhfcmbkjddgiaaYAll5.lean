/- One part of the proofs on this program: functions of the program as plain functions, that the code comes to them, and facts on them. -/
import Derived.Test.YtlhfcmbkjddgiaaYAll1
import Derived.Test.YtlhfcmbkjddgiaaYAll2
import Derived.Test.YtlhfcmbkjddgiaaYAll4
import Derived.Test.YtlhfcmbkjddgiaaYWAuto
section
namespace Go.Proofs.Ytlhfcmbkjddgiaa.P
open Go.RowKit Go.Proofs.YtlhfcmbkjddgiaaW.PrintWords Go.Proofs.YtlhfcmbkjddgiaaW.PrintLast Go.Proofs.YtlhfcmbkjddgiaaW.PrintMore
attribute [local go_sem] jha jfa jqa jpa jW jV jga jea jl
set_option linter.unusedVariables false
set_option linter.unusedSimpArgs false
attribute [local go_sem high] eqA50
mutual
def jf.j0 : Nat → List (S44) → List (S44) → List (S44) → Bool → List (S44) → Bool → Bool → List (S106) → Option (Bool)
 | 0,_,_,_,_,_,_,_,_=>none
 | k+1,x4,x5,x6,x7,x8,x9,x56,x858000=>if x56=true then ((jna.f k x6 x8).bind fun t867=>(if t867=true then (some (x7 == x9)) else (some false))) else (jf.l0 k x4 x5 x6 (-1) x858000)
def jf.l0 : Nat → List (S44) → List (S44) → List (S44) → Int → List (S106) → Option (Bool)
 | 0,_,_,_,_,_=>none
 | k+1,x4,x5,x6,x10,x858000=>if x10<(x858000.length:Int) then (if x10≥0 then (jf.j2 k x4 x5 x6 x10 x858000 true x10 5) else (jf.j2 k x4 x5 x6 x10 x858000 false 0 0)) else (some true)
def jf.j2 : Nat → List (S44) → List (S44) → List (S44) → Int → List (S106) → Bool → Int → Int → Option (Bool)
 | 0,_,_,_,_,_,_,_,_=>none
 | k+1,x4,x5,x6,x10,x858000,x869000,x869001,x869002=>(jKa.f k x858000 x6 x869000 x869001 x869002).bind fun bt869=>((jKa.f k x858000 x5 x869000 x869001 x869002).bind fun bt878=>((jGa.f k x858000 bt878.1 bt878.2.1 bt878.2.2.1 bt878.2.2.2).bind fun bt887=>((jKa.f k x858000 x4 bt887.1 bt887.2.1 bt887.2.2.1).bind fun bt892=>((jGa.f k x858000 bt869.1 bt869.2.1 bt869.2.2.1 bt869.2.2.2).bind fun bt901=>((jGa.f k x858000 bt892.1 bt892.2.1 bt892.2.2.1 bt892.2.2.2).bind fun bt906=>(if bt887.2.2.2=true then (if bt901.2.2.2=true then (if bt906.2.2.2=true then (if (!(bt901.1 == bt906.1) ||(!(bt901.2.1 == bt906.2.1) ||(!(bt901.2.2.1 == bt906.2.2.1))))=true then (jf.j3 k x4 x5 x6 x10 true x858000) else ((some (([]:List Int):List Int)).bind fun y911=>(if y911.length+bt878.1.length<17592186044416 then ((some (y911 ++ bt878.1:List Int)).bind fun y914=>(if y914.length+bt892.1.length<17592186044416 then ((jma.f k bt869.1 (y914 ++ bt892.1)).bind fun t920=>(jf.j3 k x4 x5 x6 x10 (!t920) x858000)) else (none))) else (none)))) else (jf.j3 k x4 x5 x6 x10 true x858000)) else (jf.j3 k x4 x5 x6 x10 true x858000)) else (jf.j3 k x4 x5 x6 x10 true x858000)))))))
def jf.j3 : Nat → List (S44) → List (S44) → List (S44) → Int → Bool → List (S106) → Option (Bool)
 | 0,_,_,_,_,_,_=>none
 | k+1,x4,x5,x6,x10,x134,x858000=>if x134=true then (some false) else (jf.l0 k x4 x5 x6 (wrap64 (x10+1)) x858000)
end
def jf.f (k : Nat) (l0 : List Int) : Option (Bool) := if (l0.length : Int) > 1048576 then (some true) else ((jva.f k l0).bind fun bt848 => ((jda.f k bt848.1 bt848.2.1 bt848.2.2).bind fun bt858 => ((jT.f k bt848.1 bt848.2.1 bt848.2.2).bind fun bt862 => ((jna.f k bt858.1 bt862.1).bind fun t866 => (if t866 = true then (if (bt858.2 != bt862.2) = true then (jf.j0 k bt848.2.1 bt848.2.2 bt858.1 bt858.2 bt862.1 bt862.2 true bt848.1) else (jf.j0 k bt848.2.1 bt848.2.2 bt858.1 bt858.2 bt862.1 bt862.2 (!bt858.2) bt848.1)) else (jf.j0 k bt848.2.1 bt848.2.2 bt858.1 bt858.2 bt862.1 bt862.2 true bt848.1))))))
def jf.T20 : Bool × List (List Nat × List Nat) := (true, [([], []), ([0], [0]), ([1], [1]), ([2], [2]), ([3, 2], [2, 3]), ([2, 4], [2, 4]), ([5, 2], [5]), ([6], [6]), ([7, 6], [6, 7]), ([6, 8], [6, 8]), ([9, 6], [9]), ([10], [10]), ([10], [10]), ([11, 12, 10], [10, 11, 12]), ([10, 13], [10, 13]), ([14, 10], [14]), ([15], [15]), ([16, 15], [15, 16]), ([15], [15]), ([15], [15]), ([19, 15], [15, 19]), ([18, 20, 15, 15], [15, 18, 20]), ([15], [15]), ([22, 15], [15, 22]), ([21, 23, 21, 15], [15, 21, 23]), ([17, 24, 24, 15], [15, 17, 24]), ([25, 15], [15, 25]), ([15, 26], [15, 26])])
def jf.B20 : List Nat := [0, 1, 3, 7, 15, 31, 63, 127, 255, 511, 1023, 2047, 2047, 8191, 16383, 32767, 65535, 131071, 65535, 65535, 589823, 1900543, 65535, 4259839, 16580607, 33554431, 67108863, 134217727]
theorem jf.tab20 : rtab .any (opsOf Try.f7 20) = jf.T20 := by kernel_rfl
theorem jf.bits20 : jec jf.T20.2 jf.B20 = true := by kernel_rfl
set_option maxHeartbeats 8000000 in
set_option maxRecDepth 100000 in
theorem jf.calls (k : Nat) (A0 : Option Addr) (c0 : Nat) (l0 : List Int) (r : Bool) (w : World) (hr0 : Kd.C (Kd.int .u8) w A0 l0.length l0) (hc0 : l0.length ≤ c0) (hT : r = true) (h : jf.f k l0 = some r) :
  Calls Try.prog 7 #[.slice A0 l0.length c0] w fun e w'=>e=.returned (.bool r)∧Below w.heap.size w w':=by
 have hu31:=Try.underlying31
 have hu50:=Try.underlying50
 have hu55:=Try.underlying55
 have HR0:=am hr0
 have HC0:=am hc0
 clear hr0 hc0
 have HB:=am (Below.refl w.heap.size w)
 have H:(if (l0.length:Int) > 1048576 then (some true) else ((jva.f k l0).bind fun bt848=>((jda.f k bt848.1 bt848.2.1 bt848.2.2).bind fun bt858=>((jT.f k bt848.1 bt848.2.1 bt848.2.2).bind fun bt862=>((jna.f k bt858.1 bt862.1).bind fun t866=>(if t866=true then (if (bt858.2 != bt862.2)=true then (jf.j0 k bt848.2.1 bt848.2.2 bt858.1 bt858.2 bt862.1 bt862.2 true bt848.1) else (jf.j0 k bt848.2.1 bt848.2.2 bt858.1 bt858.2 bt862.1 bt862.2 (!bt858.2) bt848.1)) else (jf.j0 k bt848.2.1 bt848.2.2 bt858.1 bt858.2 bt862.1 bt862.2 true bt848.1)))))))=some r:=h
 clear h
 by_cases c2:(l0.length:Int) > 1048576
 ·rw [if_pos c2] at H
  have c2b0:decide (1048576<(l0.length:Int))=true:=dzT c2
  have c2b1:decide (1048576<l0.length)=true:=dzT (by omega)
  clear c2
  obtain rfl:=Option.some.inj H
  go_enter Try.func7,Try.ntmps7
  go_wp2
  go_ret
  exact ⟨Y0,bq⟩
 ·rw [if_neg c2] at H
  have c2b0:decide (1048576<(l0.length:Int))=false:=dzF c2
  have c2b1:decide (1048576<l0.length)=false:=dzF (by omega)
  clear c2
  replace H:=bzS H
  obtain ⟨⟨t848,t851,t854⟩,A30,H⟩:=H
  replace H:((jda.f k t848 t851 t854).bind fun bt858=>((jT.f k t848 t851 t854).bind fun bt862=>((jna.f k bt858.1 bt862.1).bind fun t866=>(if t866=true then (if (bt858.2 != bt862.2)=true then (jf.j0 k t851 t854 bt858.1 bt858.2 bt862.1 bt862.2 true t848) else (jf.j0 k t851 t854 bt858.1 bt858.2 bt862.1 bt862.2 (!bt858.2) t848)) else (jf.j0 k t851 t854 bt858.1 bt858.2 bt862.1 bt862.2 true t848)))))=some r:=H
  have A3:=am A30
  clear A30
  replace H:=bzS H
  obtain ⟨⟨t858,t861⟩,A40,H⟩:=H
  replace H:((jT.f k t848 t851 t854).bind fun bt862=>((jna.f k t858 bt862.1).bind fun t866=>(if t866=true then (if (t861 != bt862.2)=true then (jf.j0 k t851 t854 t858 t861 bt862.1 bt862.2 true t848) else (jf.j0 k t851 t854 t858 t861 bt862.1 bt862.2 (!t861) t848)) else (jf.j0 k t851 t854 t858 t861 bt862.1 bt862.2 true t848))))=some r:=H
  have A4:=am A40
  clear A40
  replace H:=bzS H
  obtain ⟨⟨t862,t865⟩,A50,H⟩:=H
  replace H:((jna.f k t858 t862).bind fun t866=>(if t866=true then (if (t861 != t865)=true then (jf.j0 k t851 t854 t858 t861 t862 t865 true t848) else (jf.j0 k t851 t854 t858 t861 t862 t865 (!t861) t848)) else (jf.j0 k t851 t854 t858 t861 t862 t865 true t848)))=some r:=H
  have A5:=am A50
  clear A50
  have HC6:=am H
  clear H
  go_enter Try.func7,Try.ntmps7
  go_upto_region 6 with (first |((with_reducible refine jy (f:=32) rfl ?_);refine gL (some 26) Try.func32 #[.slice A0 l0.length c0] ?_;(with_reducible refine (jva.calls k _ _ l0 t848 t851 t854 _ ?side1 ?side2 A3.out).mono ?_);(case side1=>exact Y125);(case side2=>exact HC0.out);rintro e w7 ⟨v849,v852,v855,rfl,ho0,ho1,ho2,hb⟩;refine ⟨_,rfl,?_⟩;have HO850:=am (Kd.jua ho0 (jY (bq)));have HO853:=am (Kd.jua ho1 (jY (bq)));have HO856:=am (Kd.jua ho2 (jY (bq)));replace HB:=am (jk (bq) hb);(try clear hb);(try clear hb2);(try clear hk);(try clear hi);(try clear ho0);(try clear ho1);(try clear ho2)) |((with_reducible refine jP (N:=3) rfl ?_);(try (refine jHa (by rfl) ?_;dsimp only));refine jOa ?hg (N:=3) ?hd (cs:=#[.slice none 0 0]) (t:=31) ?hr ?_;(case hd=>rfl);(case hg=>rfl);(case hr=>exact Y2);intro gb857 hg w8 hbox hb;have BK857:=am (hbox);have GW857:=am ((Y3:w.heap.size≤gb857));have GE857:=am ((Y3:w.heap.size≤gb857));replace HO850:=am (Kd.jM (rq HO850.out) hb);replace HO853:=am (Kd.jM (rq HO853.out) hb);replace HO856:=am (Kd.jM (rq HO856.out) hb);replace HB:=am (jk (bq) hb);clear hb hbox hg;obtain ⟨Ao9,co9,eo9⟩:=Kd.jja HO850.out;subst eo9;have hcz10_0:=bc0 BK857.out;have hfz10_0:=jd BK857.out 0) |((with_reducible refine gate_store (t:=31) (p:=3) rfl ?_);refine jxc (t:=31) (p:=3) (v:=?vo_w11) (w1:=(w8.setCell ⟨gb857,0,none⟩ (.slice Ao9 t848.length co9))) ?hg ?ho ?hn ?hr ?_;(case ho=>rfl);(case hg=>rfl);(case hn=>rfl);(case hr=>exact Y2);intro w11 hw;have n0_:jv (Kd.R k106 106 w11 w.heap.size (fun _=>True) (.slice Ao9 t848.length co9) t848):=⟨(by rw [hw];exact (by (with_reducible repeat (first | apply Kd.jK | apply Kd.jL | apply Kd.jH));exact Kd.jD (Kd.jB (p:=⟨gb857,0,none⟩) (Kd.jN HO850.out BK857.out (by decide)) (fun _ hk=>hk.2) (.slice Ao9 t848.length co9)) (fun _ hk=>trivial)))⟩;have n1_:jv (Kd.R k44 44 w11 w.heap.size (fun k_=>some k_≠(v855:Value).ownBlock) v852 t851):=⟨(by rw [hw];exact (by (with_reducible repeat (first | apply Kd.jK | apply Kd.jL | apply Kd.jH));exact Kd.jD (Kd.jB (p:=⟨gb857,0,none⟩) (Kd.jN HO853.out BK857.out (by decide)) (fun _ hk=>hk.2) (.slice Ao9 t848.length co9)) (fun _ hk=>hk.1)))⟩;have n2_:jv (Kd.R k44 44 w11 w.heap.size (fun k_=>some k_≠(v852:Value).ownBlock) v855 t854):=⟨(by rw [hw];exact (by (with_reducible repeat (first | apply Kd.jK | apply Kd.jL | apply Kd.jH));exact Kd.jD (Kd.jB (p:=⟨gb857,0,none⟩) (Kd.jN HO856.out BK857.out (by decide)) (fun _ hk=>hk.2) (.slice Ao9 t848.length co9)) (fun _ hk=>hk.1)))⟩;have n3_:jv (w11.heap[gb857]?=some (.cells #[.slice Ao9 t848.length co9] 31 (0,0))):=⟨(by rw [hw];exact (by (with_reducible repeat (first | refine jb ?_ _ | refine jc ?_ | refine ja ?_ _));refine jO (cs:=#[.slice none 0 0]) ?_ 0 _ rfl;(with_reducible repeat (first | refine jb ?_ _ | refine jc ?_ | refine ja ?_ _));exact BK857.out))⟩;have n4_:jv (Below w.heap.size w w11):=⟨(by rw [hw];exact (Y30))⟩;clear hw HO850 HO853 HO856 BK857 HB;have HO850:=n0_;have HO853:=n1_;have HO856:=n2_;have BK857:=n3_;have HB:=n4_;clear n0_ n1_ n2_ n3_ n4_;have hcz12_0:=bc0 BK857.out;have hfz12_0:=jd BK857.out 0;obtain ⟨Ao13,co13,eo13⟩:=Kd.jja HO853.out;subst eo13;obtain ⟨Ao14,co14,eo14⟩:=Kd.jja HO856.out;subst eo14) |((with_reducible refine jy (f:=18) rfl ?_);refine gL (some 34) Try.func18 #[.agg #[.slice Ao9 t848.length co9], .slice Ao13 t851.length co13, .slice Ao14 t854.length co14] ?_;(with_reducible refine (jda.calls k _ _ t848 (fun k_=>some k_=(.slice Ao13 t851.length co13:Value).ownBlock) _ _ t851 (fun k_=>some k_=(.slice Ao14 t854.length co14:Value).ownBlock) _ _ t854 t858 t861 _ ?side1 ?side2 ?side3 ?side4 A4.out).mono ?_);(case side1=>exact cq (Kd.jE HO850.out).2.2);(case side2=>exact (Kd.jE HO850.out).2.1);(case side3=>exact Kd.R_V (Kd.R_tight rfl (Kd.jN (Kd.R_apart' (HO853.out) (Kd.jfb HO850.out) (by decide)) BK857.out (by decide))));(case side4=>exact Kd.R_V (Kd.R_tight rfl (Kd.jN (Kd.R_apart' (HO856.out) (Kd.jfb HO850.out) (by decide)) BK857.out (by decide))));rintro e w15 ⟨v859,rfl,ho0,hb⟩;refine ⟨_,rfl,?_⟩;have HO860:=am (Kd.jua (Kd.jic (Kd.jic (Kd.jD (ok':=fun k_=>True) ho0 (fun _ hk_=>trivial)) (Kd.R_lt (rq HO853.out))) (Kd.R_lt (rq HO856.out))) (jY (Y30)));replace HO850:=am (Kd.jM (rq HO850.out) hb);replace HO853:=am (Kd.jIb (rq HO853.out) (Kd.jRb ho0) hb);replace HO856:=am (Kd.jIb (rq HO856.out) (Kd.jRb ho0) hb);replace BK857:=am (je (g:=gb857) (o:=.cells #[.slice Ao9 t848.length co9] 31 (0,0)) (kq BK857.out) hb);replace HB:=am (jk (Y30) hb);(try clear hb);(try clear hb2);(try clear hk);(try clear hi);(try clear ho0);have hcz16_0:=bc0 BK857.out;have hfz16_0:=jd BK857.out 0) |((with_reducible refine jy (f:=33) rfl ?_);refine gL (some 41) Try.func33 #[.agg #[.slice Ao9 t848.length co9], .slice Ao13 t851.length co13, .slice Ao14 t854.length co14] ?_;(with_reducible refine (jT.calls k _ _ t848 _ _ t851 _ _ t854 t862 t865 _ ?side1 ?side2 ?side3 ?side4 ?side5 ?side6 A5.out).mono ?_);(case side1=>exact cq (Kd.jE HO850.out).2.2);(case side2=>exact (Kd.jE HO850.out).2.1);(case side3=>exact cq (Kd.jE HO853.out).2.2);(case side4=>exact (Kd.jE HO853.out).2.1);(case side5=>exact cq (Kd.jE HO856.out).2.2);(case side6=>exact (Kd.jE HO856.out).2.1);rintro e w17 ⟨v863,rfl,ho0,hb⟩;refine ⟨_,rfl,?_⟩;have HO864:=am (Kd.jua (Kd.jic (Kd.jic (Kd.jic ho0 (Kd.R_lt (rq HO853.out))) (Kd.R_lt (rq HO856.out))) (Kd.R_lt (rq HO860.out))) (jY (Y30)));replace HO850:=am (Kd.jM (rq HO850.out) hb);replace HO853:=am (Kd.jIb (rq HO853.out) (Kd.jRb ho0) hb);replace HO856:=am (Kd.jIb (rq HO856.out) (Kd.jRb ho0) hb);replace HO860:=am (Kd.jIb (rq HO860.out) (Kd.jRb ho0) hb);replace BK857:=am (je (g:=gb857) (o:=.cells #[.slice Ao9 t848.length co9] 31 (0,0)) (kq BK857.out) hb);replace HB:=am (jk (Y30) hb);(try clear hb);(try clear hb2);(try clear hk);(try clear hi);(try clear ho0)))
  (try simp only [Act.put,List.setIfInBounds_toArray,List.set_cons_zero,List.set_cons_succ])
  go_cut [56] (fun v56 wc=>∃ (kq:Nat) (x56_5:Bool),v56=.bool x56_5∧jv (jf.j0 kq t851 t854 t858 t861 t862 t865 x56_5 t848=some r)∧jv (kq≤k)∧jv (Kd.R k44 44 wc w.heap.size (fun k_=>some k_≠((.slice Ao14 t854.length co14):Value).ownBlock∧some k_≠(v859:Value).ownBlock∧some k_≠(v863:Value).ownBlock) (.slice Ao13 t851.length co13) t851)∧jv (Kd.R k44 44 wc w.heap.size (fun k_=>some k_≠((.slice Ao13 t851.length co13):Value).ownBlock∧some k_≠(v859:Value).ownBlock∧some k_≠(v863:Value).ownBlock) (.slice Ao14 t854.length co14) t854)∧jv (Kd.R k44 44 wc w.heap.size (fun k_=>some k_≠((.slice Ao13 t851.length co13):Value).ownBlock∧some k_≠((.slice Ao14 t854.length co14):Value).ownBlock∧some k_≠(v863:Value).ownBlock) v859 t858)∧jv (Kd.R k44 44 wc w.heap.size (fun k_=>some k_≠((.slice Ao13 t851.length co13):Value).ownBlock∧some k_≠((.slice Ao14 t854.length co14):Value).ownBlock∧some k_≠(v859:Value).ownBlock) v863 t862)∧jv (Kd.R k106 106 wc w.heap.size (fun _=>True) (.slice Ao9 t848.length co9) t848)∧jv (wc.heap[gb857]?=some (.cells #[(.slice Ao9 t848.length co9)] 31 (0,0)))∧jv (Below w.heap.size w wc))
  case first =>
   have H:=HC6.out
   clear HC6
   replace H:=bzS H
   obtain ⟨t866,A180,H⟩:=H
   replace H:(if t866=true then (if (t861 != t865)=true then (jf.j0 k t851 t854 t858 t861 t862 t865 true t848) else (jf.j0 k t851 t854 t858 t861 t862 t865 (!t861) t848)) else (jf.j0 k t851 t854 t858 t861 t862 t865 true t848))=some r:=H
   have A18:=am A180
   clear A180
   by_cases c19:t866=true
   ·subst c19
    have H1:(if (t861 != t865)=true then (jf.j0 k t851 t854 t858 t861 t862 t865 true t848) else (jf.j0 k t851 t854 t858 t861 t862 t865 (!t861) t848))=some r:=by rw [if_pos rfl] at H;exact H
    clear H
    have H:=H1
    clear H1
    by_cases c20:(t861 != t865)=true
    ·rw [if_pos c20] at H
     have c20b0:(t861 != t865)=true:=c20
     (try (have c20b1:decide (t861=t865)=false:=by simpa using c20))
     (try (have c20b2:(t861 == t865)=false:=by simpa using c20))
     (try (have c20b3:¬ (t861=t865):=by simpa using c20))
     clear c20
     (first | rw [c20b0] |(simp only [jyb,jBb];rw [c20b0]) | skip)
     have H':=am H
     clear H
     obtain ⟨Ao21,co21,eo21⟩:=Kd.jja HO860.out
     subst eo21
     obtain ⟨Ao22,co22,eo22⟩:=Kd.jja HO864.out
     subst eo22
     go_wp2_with (first |((with_reducible refine jy (f:=31) rfl ?_);refine gL (some 46) Try.func31 #[.slice Ao21 t858.length co21, .slice Ao22 t862.length co22] ?_;(with_reducible refine (jna.calls k _ _ t858 _ _ t862 true _ ?side1 ?side2 ?side3 ?side4 A18.out).mono ?_);(case side1=>exact cq (Kd.jE HO860.out).2.2);(case side2=>exact (Kd.jE HO860.out).2.1);(case side3=>exact cq (Kd.jE HO864.out).2.2);(case side4=>exact (Kd.jE HO864.out).2.1);rintro e w' ⟨rfl,⟨nd,rfl⟩⟩;refine ⟨_,rfl,?_⟩))
     go_meet
     case rel=>exact ⟨_,(true),(sq),H',⟨Y16⟩,⟨by (with_reducible repeat (first | apply Kd.jK | apply Kd.jL | apply Kd.jH));exact Kd.jD HO853.out (fun _ hk=>⟨hk.1.1,⟨hk.1.2,hk.2⟩⟩)⟩,⟨by (with_reducible repeat (first | apply Kd.jK | apply Kd.jL | apply Kd.jH));exact Kd.jD HO856.out (fun _ hk=>⟨hk.1.1,⟨hk.1.2,hk.2⟩⟩)⟩,⟨by (with_reducible repeat (first | apply Kd.jK | apply Kd.jL | apply Kd.jH));exact Kd.jD HO860.out (fun _ hk=>⟨hk.1.1.2,⟨hk.1.2,hk.2⟩⟩)⟩,⟨by (with_reducible repeat (first | apply Kd.jK | apply Kd.jL | apply Kd.jH));exact Kd.jD HO864.out (fun _ hk=>⟨hk.1.1.2,⟨hk.1.2,hk.2⟩⟩)⟩,⟨rq HO850.out⟩,⟨kq BK857.out⟩,⟨Y30⟩⟩
    ·rw [if_neg c20] at H
     have c20b0:(t861 != t865)=false:=by simpa using c20
     (try (have c20b1:decide (t861=t865)=true:=by simpa using c20))
     (try (have c20b2:(t861 == t865)=true:=by simpa using c20))
     clear c20
     (first | rw [c20b0] |(simp only [jyb,jBb];rw [c20b0]) | skip)
     have H':=am H
     clear H
     obtain ⟨Ao23,co23,eo23⟩:=Kd.jja HO860.out
     subst eo23
     obtain ⟨Ao24,co24,eo24⟩:=Kd.jja HO864.out
     subst eo24
     go_wp2_with (first |((with_reducible refine jy (f:=31) rfl ?_);refine gL (some 46) Try.func31 #[.slice Ao23 t858.length co23, .slice Ao24 t862.length co24] ?_;(with_reducible refine (jna.calls k _ _ t858 _ _ t862 true _ ?side1 ?side2 ?side3 ?side4 A18.out).mono ?_);(case side1=>exact cq (Kd.jE HO860.out).2.2);(case side2=>exact (Kd.jE HO860.out).2.1);(case side3=>exact cq (Kd.jE HO864.out).2.2);(case side4=>exact (Kd.jE HO864.out).2.1);rintro e w' ⟨rfl,⟨nd,rfl⟩⟩;refine ⟨_,rfl,?_⟩))
     go_meet
     case rel=>exact ⟨_,(!t861),(sq),H',⟨Y16⟩,⟨by (with_reducible repeat (first | apply Kd.jK | apply Kd.jL | apply Kd.jH));exact Kd.jD HO853.out (fun _ hk=>⟨hk.1.1,⟨hk.1.2,hk.2⟩⟩)⟩,⟨by (with_reducible repeat (first | apply Kd.jK | apply Kd.jL | apply Kd.jH));exact Kd.jD HO856.out (fun _ hk=>⟨hk.1.1,⟨hk.1.2,hk.2⟩⟩)⟩,⟨by (with_reducible repeat (first | apply Kd.jK | apply Kd.jL | apply Kd.jH));exact Kd.jD HO860.out (fun _ hk=>⟨hk.1.1.2,⟨hk.1.2,hk.2⟩⟩)⟩,⟨by (with_reducible repeat (first | apply Kd.jK | apply Kd.jL | apply Kd.jH));exact Kd.jD HO864.out (fun _ hk=>⟨hk.1.1.2,⟨hk.1.2,hk.2⟩⟩)⟩,⟨rq HO850.out⟩,⟨kq BK857.out⟩,⟨Y30⟩⟩
   ·replace c19:=Bool.eq_false_iff.mpr c19
    subst c19
    have H1:(jf.j0 k t851 t854 t858 t861 t862 t865 true t848)=some r:=by rw [if_neg (show ¬ (false=true) by decide)] at H;exact H
    clear H
    have H:=H1
    clear H1
    have H':=am H
    clear H
    obtain ⟨Ao25,co25,eo25⟩:=Kd.jja HO860.out
    subst eo25
    obtain ⟨Ao26,co26,eo26⟩:=Kd.jja HO864.out
    subst eo26
    go_wp2_with (first |((with_reducible refine jy (f:=31) rfl ?_);refine gL (some 46) Try.func31 #[.slice Ao25 t858.length co25, .slice Ao26 t862.length co26] ?_;(with_reducible refine (jna.calls k _ _ t858 _ _ t862 false _ ?side1 ?side2 ?side3 ?side4 A18.out).mono ?_);(case side1=>exact cq (Kd.jE HO860.out).2.2);(case side2=>exact (Kd.jE HO860.out).2.1);(case side3=>exact cq (Kd.jE HO864.out).2.2);(case side4=>exact (Kd.jE HO864.out).2.1);rintro e w' ⟨rfl,⟨nd,rfl⟩⟩;refine ⟨_,rfl,?_⟩))
    go_meet
    case rel=>exact ⟨_,(true),(sq),H',⟨Y16⟩,⟨by (with_reducible repeat (first | apply Kd.jK | apply Kd.jL | apply Kd.jH));exact Kd.jD HO853.out (fun _ hk=>⟨hk.1.1,⟨hk.1.2,hk.2⟩⟩)⟩,⟨by (with_reducible repeat (first | apply Kd.jK | apply Kd.jL | apply Kd.jH));exact Kd.jD HO856.out (fun _ hk=>⟨hk.1.1,⟨hk.1.2,hk.2⟩⟩)⟩,⟨by (with_reducible repeat (first | apply Kd.jK | apply Kd.jL | apply Kd.jH));exact Kd.jD HO860.out (fun _ hk=>⟨hk.1.1.2,⟨hk.1.2,hk.2⟩⟩)⟩,⟨by (with_reducible repeat (first | apply Kd.jK | apply Kd.jL | apply Kd.jH));exact Kd.jD HO864.out (fun _ hk=>⟨hk.1.1.2,⟨hk.1.2,hk.2⟩⟩)⟩,⟨rq HO850.out⟩,⟨kq BK857.out⟩,⟨Y30⟩⟩
  case rest =>
   clear HC6
   try clear c1
   try clear c2
   try clear c2b0
   try clear c2b1
   try clear p2
   try clear c3
   try clear c7
   try clear c18
   try clear c19
   try clear c20
   try clear c20b0
   try clear c20b1
   try clear c20b2
   try clear hcz10_0
   try clear hcz12_0
   try clear hcz16_0
   try clear hfz10_0
   try clear hfz12_0
   try clear hfz16_0
   obtain ⟨kq,x56_5,rfl,HA,HJ5,HO_4,HO_5,HO_6,HO_8,HO_858000,BK857,HB⟩:=hcut
   cases kq with
   | zero=>exact absurd HA.out (by simp [jf.j0])
   | succ kj5 =>
    have H:=HA.out
    clear HA
    simp only [jf.j0] at H
    by_cases c27:x56_5=true
    ·subst c27
     have H1:((jna.f kj5 t858 t862).bind fun t867=>(if t867=true then (some (t861 == t865)) else (some false)))=some r:=by rw [if_pos rfl] at H;exact H
     clear H
     have H:=H1
     clear H1
     replace H:=bzS H
     obtain ⟨t867,A280,H⟩:=H
     replace H:(if t867=true then (some (t861 == t865)) else (some false))=some r:=H
     have A28:=am A280
     clear A280
     by_cases c29:t867=true
     ·subst c29
      have H1:(some (t861 == t865))=some r:=by rw [if_pos rfl] at H;exact H
      clear H
      have H:=H1
      clear H1
      obtain rfl:=Option.some.inj H
      obtain ⟨Ao30,co30,eo30⟩:=Kd.jja HO_6.out
      subst eo30
      obtain ⟨Ao31,co31,eo31⟩:=Kd.jja HO_8.out
      subst eo31
      go_wp2_with (first |((with_reducible refine jy (f:=31) rfl ?_);refine gL (some 59) Try.func31 #[.slice Ao30 t858.length co30, .slice Ao31 t862.length co31] ?_;(with_reducible refine (jna.calls kj5 _ _ t858 _ _ t862 true _ ?side1 ?side2 ?side3 ?side4 A28.out).mono ?_);(case side1=>exact cq (Kd.jE HO_6.out).2.2);(case side2=>exact (Kd.jE HO_6.out).2.1);(case side3=>exact cq (Kd.jE HO_8.out).2.2);(case side4=>exact (Kd.jE HO_8.out).2.1);rintro e w' ⟨rfl,⟨nd,rfl⟩⟩;refine ⟨_,rfl,?_⟩))
      go_ret
      exact ⟨Y0,Y30⟩
     ·replace c29:=Bool.eq_false_iff.mpr c29
      subst c29
      have H1:(some false)=some r:=by rw [if_neg (show ¬ (false=true) by decide)] at H;exact H
      clear H
      have H:=H1
      clear H1
      exact absurd ((Option.some.inj H).trans hT) Bool.false_ne_true
    ·replace c27:=Bool.eq_false_iff.mpr c27
     subst c27
     have H1:(jf.l0 kj5 t851 t854 t858 (-1) t848)=some r:=by rw [if_neg (show ¬ (false=true) by decide)] at H;exact H
     clear H
     have H:=H1
     clear H1
     have H':=am H
     clear H
     go_wp2
     go_loopg [10] kj5 (fun kq v10 w'=>∃ (x10_2:Int),v10=.int .i64 x10_2∧jv (jf.l0 kq t851 t854 t858 x10_2 t848=some r)∧jv (kq≤kj5)∧jv (Kd.R k44 44 w' w.heap.size (fun k_=>some k_≠((.slice Ao14 t854.length co14):Value).ownBlock∧some k_≠(v859:Value).ownBlock) (.slice Ao13 t851.length co13) t851)∧jv (Kd.R k44 44 w' w.heap.size (fun k_=>some k_≠((.slice Ao13 t851.length co13):Value).ownBlock∧some k_≠(v859:Value).ownBlock) (.slice Ao14 t854.length co14) t854)∧jv (Kd.R k44 44 w' w.heap.size (fun k_=>some k_≠((.slice Ao13 t851.length co13):Value).ownBlock∧some k_≠((.slice Ao14 t854.length co14):Value).ownBlock) v859 t858)∧jv (Kd.R k106 106 w' w.heap.size (fun _=>True) (.slice Ao9 t848.length co9) t848)∧jv (w'.heap[gb857]?=some (.cells #[(.slice Ao9 t848.length co9)] 31 (0,0)))∧jv (Below w.heap.size w w'))
     case atStart=>exact ⟨((-1)),(sq),H',⟨Nat.le_refl _⟩,⟨by (with_reducible repeat (first | apply Kd.jK | apply Kd.jL | apply Kd.jH));exact Kd.jD HO_4.out (fun _ hk=>⟨hk.1,hk.2.1⟩)⟩,⟨by (with_reducible repeat (first | apply Kd.jK | apply Kd.jL | apply Kd.jH));exact Kd.jD HO_5.out (fun _ hk=>⟨hk.1,hk.2.1⟩)⟩,⟨by (with_reducible repeat (first | apply Kd.jK | apply Kd.jL | apply Kd.jH));exact Kd.jD HO_6.out (fun _ hk=>⟨hk.1,hk.2.1⟩)⟩,⟨rq HO_858000.out⟩,⟨kq BK857.out⟩,⟨Y30⟩⟩
     case round =>
      clear H'
      try clear c1
      try clear c2
      try clear c2b0
      try clear c2b1
      try clear p2
      try clear c3
      try clear c7
      try clear c18
      try clear c19
      try clear c20
      try clear c20b0
      try clear c20b1
      try clear c20b2
      try clear c27
      try clear c29
      try clear c31
      try clear hcz10_0
      try clear hcz12_0
      try clear hcz16_0
      try clear hfz10_0
      try clear hfz12_0
      try clear hfz16_0
      try clear p2
      obtain ⟨x10_2,rfl,HA,HK2,HO_4,HO_5,HO_6,HO_858000,BK857,HB⟩:=hrel
      cases gk with
      | zero=>exact absurd HA.out (by simp [jf.l0])
      | succ k2 =>
       have H:=HA.out
       clear HA
       simp only [jf.l0] at H
       by_cases c32:x10_2<(t848.length:Int)
       ·rw [if_pos c32] at H
        have c32b0:decide (x10_2<(t848.length:Int))=true:=dzT c32
        clear c32
        have HC33:=am H
        clear H
        have hcz34_0:=bc0 BK857.out
        have hfz34_0:=jd BK857.out 0
        go_upto_if 74 with (first |((with_reducible refine jP (N:=11) rfl ?_);(try (refine jHa (by rfl) ?_;dsimp only));refine jOa ?hg (N:=11) ?hd (cs:=#[.bool false, .int .i64 0, .int .i64 0]) (t:=50) ?hr ?_;(case hd=>rfl);(case hg=>rfl);(case hr=>exact Y2);intro gb868 hg w35 hbox hb;have BK868:=am (hbox);have GW868:=am ((Y139:w.heap.size≤gb868));have GE868:=am ((Y139:w.heap.size≤gb868));have NB857_868:=am ((Y50:gb857≠gb868));have NB868_857:=am ((Y51:gb868≠gb857));replace HO_4:=am (Kd.jM (rq HO_4.out) hb);replace HO_5:=am (Kd.jM (rq HO_5.out) hb);replace HO_6:=am (Kd.jM (rq HO_6.out) hb);replace HO_858000:=am (Kd.jM (rq HO_858000.out) hb);replace BK857:=am (je (g:=gb857) (o:=.cells #[.slice Ao9 t848.length co9] 31 (0,0)) (kq BK857.out) hb);replace HB:=am (jk (Y30) hb);clear hb hbox hg;have hnb36:=NB868_857.out;have hnc36:=NB857_868.out;have hcz37_0:=bc0 BK868.out;have hcz37_1:=bc1 BK868.out;have hcz37_2:=bc2 BK868.out;have hfz37_0:=jd BK868.out 0;have hfz37_1:=jd BK868.out 1;have hfz37_2:=jd BK868.out 2))
        (try simp only [Act.put,List.setIfInBounds_toArray,List.set_cons_zero,List.set_cons_succ])
        go_cut [] (fun wc=>∃ (kq:Nat) (x869000_32:Bool) (x869001_32:Int) (x869002_32:Int),jv (jf.j2 kq t851 t854 t858 x10_2 t848 x869000_32 x869001_32 x869002_32=some r)∧jv (kq≤k2)∧jv (Kd.R k44 44 wc w.heap.size (fun k_=>some k_≠((.slice Ao14 t854.length co14):Value).ownBlock∧some k_≠(v859:Value).ownBlock) (.slice Ao13 t851.length co13) t851)∧jv (Kd.R k44 44 wc w.heap.size (fun k_=>some k_≠((.slice Ao13 t851.length co13):Value).ownBlock∧some k_≠(v859:Value).ownBlock) (.slice Ao14 t854.length co14) t854)∧jv (Kd.R k44 44 wc w.heap.size (fun k_=>some k_≠((.slice Ao13 t851.length co13):Value).ownBlock∧some k_≠((.slice Ao14 t854.length co14):Value).ownBlock) v859 t858)∧jv (Kd.R k106 106 wc w.heap.size (fun _=>True) (.slice Ao9 t848.length co9) t848)∧jv (wc.heap[gb857]?=some (.cells #[(.slice Ao9 t848.length co9)] 31 (0,0)))∧jv (wc.heap[gb868]?=some (.cells #[.bool x869000_32, .int .i64 x869001_32, .int .i64 x869002_32] 50 (0,0)))∧jv (Below w.heap.size w wc))
        case first =>
         have H:=HC33.out
         clear HC33
         by_cases c38:x10_2≥0
         ·rw [if_pos c38] at H
          have c38b0:decide (0≤x10_2)=true:=dzT c38
          clear c38
          (first | rw [c38b0] |(simp only [jyb,jBb];rw [c38b0]) | skip)
          have H':=am H
          clear H
          have hnb39:=NB868_857.out
          have hnc39:=NB857_868.out
          have hcz40_0:=bc0 BK868.out
          have hcz40_1:=bc1 BK868.out
          have hcz40_2:=bc2 BK868.out
          have hfz40_0:=jd BK868.out 0
          have hfz40_1:=jd BK868.out 1
          have hfz40_2:=jd BK868.out 2
          go_wp2
          go_meet
          case rel=>exact ⟨_,(true),(x10_2),(5),H',⟨by have:=HJ5.out;have:=HK2.out;first | omega | exact Nat.le_refl _⟩,⟨by (with_reducible repeat (first | apply Kd.jK | apply Kd.jL | apply Kd.jH));exact Kd.jD (Kd.jB (p:=⟨gb868,2,none⟩) (Kd.jB (p:=⟨gb868,1,none⟩) (Kd.jB (p:=⟨gb868,0,none⟩) (Kd.jB (p:=⟨gb868,2,none⟩) (Kd.jB (p:=⟨gb868,1,none⟩) (Kd.jB (p:=⟨gb868,0,none⟩) (Kd.jN HO_4.out BK868.out (by decide)) (fun _ hk=>hk.2) (.bool false)) (fun _ hk=>hk.2) (.int .i64 0)) (fun _ hk=>hk.2) (.int .i64 0)) (fun _ hk=>hk.2) (.bool true)) (fun _ hk=>hk.2) (.int .i64 x10_2)) (fun _ hk=>hk.2) (.int .i64 5)) (fun _ hk=>⟨hk.1.1,hk.1.2⟩)⟩,⟨by (with_reducible repeat (first | apply Kd.jK | apply Kd.jL | apply Kd.jH));exact Kd.jD (Kd.jB (p:=⟨gb868,2,none⟩) (Kd.jB (p:=⟨gb868,1,none⟩) (Kd.jB (p:=⟨gb868,0,none⟩) (Kd.jB (p:=⟨gb868,2,none⟩) (Kd.jB (p:=⟨gb868,1,none⟩) (Kd.jB (p:=⟨gb868,0,none⟩) (Kd.jN HO_5.out BK868.out (by decide)) (fun _ hk=>hk.2) (.bool false)) (fun _ hk=>hk.2) (.int .i64 0)) (fun _ hk=>hk.2) (.int .i64 0)) (fun _ hk=>hk.2) (.bool true)) (fun _ hk=>hk.2) (.int .i64 x10_2)) (fun _ hk=>hk.2) (.int .i64 5)) (fun _ hk=>⟨hk.1.1,hk.1.2⟩)⟩,⟨by (with_reducible repeat (first | apply Kd.jK | apply Kd.jL | apply Kd.jH));exact Kd.jD (Kd.jB (p:=⟨gb868,2,none⟩) (Kd.jB (p:=⟨gb868,1,none⟩) (Kd.jB (p:=⟨gb868,0,none⟩) (Kd.jB (p:=⟨gb868,2,none⟩) (Kd.jB (p:=⟨gb868,1,none⟩) (Kd.jB (p:=⟨gb868,0,none⟩) (Kd.jN HO_6.out BK868.out (by decide)) (fun _ hk=>hk.2) (.bool false)) (fun _ hk=>hk.2) (.int .i64 0)) (fun _ hk=>hk.2) (.int .i64 0)) (fun _ hk=>hk.2) (.bool true)) (fun _ hk=>hk.2) (.int .i64 x10_2)) (fun _ hk=>hk.2) (.int .i64 5)) (fun _ hk=>⟨hk.1.1,hk.1.2⟩)⟩,⟨by (with_reducible repeat (first | apply Kd.jK | apply Kd.jL | apply Kd.jH));exact Kd.jD (Kd.jB (p:=⟨gb868,2,none⟩) (Kd.jB (p:=⟨gb868,1,none⟩) (Kd.jB (p:=⟨gb868,0,none⟩) (Kd.jB (p:=⟨gb868,2,none⟩) (Kd.jB (p:=⟨gb868,1,none⟩) (Kd.jB (p:=⟨gb868,0,none⟩) (Kd.jN HO_858000.out BK868.out (by decide)) (fun _ hk=>hk.2) (.bool false)) (fun _ hk=>hk.2) (.int .i64 0)) (fun _ hk=>hk.2) (.int .i64 0)) (fun _ hk=>hk.2) (.bool true)) (fun _ hk=>hk.2) (.int .i64 x10_2)) (fun _ hk=>hk.2) (.int .i64 5)) (fun _ hk=>trivial)⟩,⟨by (with_reducible repeat (first | refine jb ?_ _ | refine jc ?_ | refine ja ?_ _));refine jr ?_ NB857_868.out _;(with_reducible repeat (first | refine jb ?_ _ | refine jc ?_ | refine ja ?_ _));refine jr ?_ NB857_868.out _;(with_reducible repeat (first | refine jb ?_ _ | refine jc ?_ | refine ja ?_ _));refine jr ?_ NB857_868.out _;(with_reducible repeat (first | refine jb ?_ _ | refine jc ?_ | refine ja ?_ _));refine jr ?_ NB857_868.out _;(with_reducible repeat (first | refine jb ?_ _ | refine jc ?_ | refine ja ?_ _));refine jr ?_ NB857_868.out _;(with_reducible repeat (first | refine jb ?_ _ | refine jc ?_ | refine ja ?_ _));refine jr ?_ NB857_868.out _;(with_reducible repeat (first | refine jb ?_ _ | refine jc ?_ | refine ja ?_ _));exact BK857.out⟩,⟨by (with_reducible repeat (first | refine jb ?_ _ | refine jc ?_ | refine ja ?_ _));refine jO (cs:=#[.bool true, .int .i64 x10_2, .int .i64 0]) ?_ 2 _ rfl;(with_reducible repeat (first | refine jb ?_ _ | refine jc ?_ | refine ja ?_ _));refine jO (cs:=#[.bool true, .int .i64 0, .int .i64 0]) ?_ 1 _ rfl;(with_reducible repeat (first | refine jb ?_ _ | refine jc ?_ | refine ja ?_ _));refine jO (cs:=#[.bool false, .int .i64 0, .int .i64 0]) ?_ 0 _ rfl;(with_reducible repeat (first | refine jb ?_ _ | refine jc ?_ | refine ja ?_ _));refine jO (cs:=#[.bool false, .int .i64 0, .int .i64 0]) ?_ 2 _ rfl;(with_reducible repeat (first | refine jb ?_ _ | refine jc ?_ | refine ja ?_ _));refine jO (cs:=#[.bool false, .int .i64 0, .int .i64 0]) ?_ 1 _ rfl;(with_reducible repeat (first | refine jb ?_ _ | refine jc ?_ | refine ja ?_ _));refine jO (cs:=#[.bool false, .int .i64 0, .int .i64 0]) ?_ 0 _ rfl;(with_reducible repeat (first | refine jb ?_ _ | refine jc ?_ | refine ja ?_ _));exact BK868.out⟩,⟨Y55⟩⟩
         ·rw [if_neg c38] at H
          have c38b0:decide (0≤x10_2)=false:=dzF c38
          clear c38
          (first | rw [c38b0] |(simp only [jyb,jBb];rw [c38b0]) | skip)
          have H':=am H
          clear H
          go_wp2
          go_meet
          case rel=>exact ⟨_,(false),(0),(0),H',⟨by have:=HJ5.out;have:=HK2.out;first | omega | exact Nat.le_refl _⟩,⟨by (with_reducible repeat (first | apply Kd.jK | apply Kd.jL | apply Kd.jH));exact Kd.jD (Kd.jB (p:=⟨gb868,2,none⟩) (Kd.jB (p:=⟨gb868,1,none⟩) (Kd.jB (p:=⟨gb868,0,none⟩) (Kd.jN HO_4.out BK868.out (by decide)) (fun _ hk=>hk.2) (.bool false)) (fun _ hk=>hk.2) (.int .i64 0)) (fun _ hk=>hk.2) (.int .i64 0)) (fun _ hk=>⟨hk.1.1,hk.1.2⟩)⟩,⟨by (with_reducible repeat (first | apply Kd.jK | apply Kd.jL | apply Kd.jH));exact Kd.jD (Kd.jB (p:=⟨gb868,2,none⟩) (Kd.jB (p:=⟨gb868,1,none⟩) (Kd.jB (p:=⟨gb868,0,none⟩) (Kd.jN HO_5.out BK868.out (by decide)) (fun _ hk=>hk.2) (.bool false)) (fun _ hk=>hk.2) (.int .i64 0)) (fun _ hk=>hk.2) (.int .i64 0)) (fun _ hk=>⟨hk.1.1,hk.1.2⟩)⟩,⟨by (with_reducible repeat (first | apply Kd.jK | apply Kd.jL | apply Kd.jH));exact Kd.jD (Kd.jB (p:=⟨gb868,2,none⟩) (Kd.jB (p:=⟨gb868,1,none⟩) (Kd.jB (p:=⟨gb868,0,none⟩) (Kd.jN HO_6.out BK868.out (by decide)) (fun _ hk=>hk.2) (.bool false)) (fun _ hk=>hk.2) (.int .i64 0)) (fun _ hk=>hk.2) (.int .i64 0)) (fun _ hk=>⟨hk.1.1,hk.1.2⟩)⟩,⟨by (with_reducible repeat (first | apply Kd.jK | apply Kd.jL | apply Kd.jH));exact Kd.jD (Kd.jB (p:=⟨gb868,2,none⟩) (Kd.jB (p:=⟨gb868,1,none⟩) (Kd.jB (p:=⟨gb868,0,none⟩) (Kd.jN HO_858000.out BK868.out (by decide)) (fun _ hk=>hk.2) (.bool false)) (fun _ hk=>hk.2) (.int .i64 0)) (fun _ hk=>hk.2) (.int .i64 0)) (fun _ hk=>trivial)⟩,⟨by (with_reducible repeat (first | refine jb ?_ _ | refine jc ?_ | refine ja ?_ _));refine jr ?_ NB857_868.out _;(with_reducible repeat (first | refine jb ?_ _ | refine jc ?_ | refine ja ?_ _));refine jr ?_ NB857_868.out _;(with_reducible repeat (first | refine jb ?_ _ | refine jc ?_ | refine ja ?_ _));refine jr ?_ NB857_868.out _;(with_reducible repeat (first | refine jb ?_ _ | refine jc ?_ | refine ja ?_ _));exact BK857.out⟩,⟨by (with_reducible repeat (first | refine jb ?_ _ | refine jc ?_ | refine ja ?_ _));refine jO (cs:=#[.bool false, .int .i64 0, .int .i64 0]) ?_ 2 _ rfl;(with_reducible repeat (first | refine jb ?_ _ | refine jc ?_ | refine ja ?_ _));refine jO (cs:=#[.bool false, .int .i64 0, .int .i64 0]) ?_ 1 _ rfl;(with_reducible repeat (first | refine jb ?_ _ | refine jc ?_ | refine ja ?_ _));refine jO (cs:=#[.bool false, .int .i64 0, .int .i64 0]) ?_ 0 _ rfl;(with_reducible repeat (first | refine jb ?_ _ | refine jc ?_ | refine ja ?_ _));exact BK868.out⟩,⟨Y55⟩⟩
        case rest =>
         clear HC33
         try clear c1
         try clear c2
         try clear c2b0
         try clear c2b1
         try clear p2
         try clear c3
         try clear c7
         try clear c18
         try clear c19
         try clear c20
         try clear c20b0
         try clear c20b1
         try clear c20b2
         try clear c27
         try clear c29
         try clear c31
         try clear c32
         try clear c32b0
         try clear c33
         try clear c36
         try clear c38
         try clear c38b0
         try clear c39
         try clear hcz10_0
         try clear hcz12_0
         try clear hcz16_0
         try clear hcz34_0
         try clear hcz37_0
         try clear hcz37_1
         try clear hcz37_2
         try clear hcz40_0
         try clear hcz40_1
         try clear hcz40_2
         try clear hfz10_0
         try clear hfz12_0
         try clear hfz16_0
         try clear hfz34_0
         try clear hfz37_0
         try clear hfz37_1
         try clear hfz37_2
         try clear hfz40_0
         try clear hfz40_1
         try clear hfz40_2
         try clear p2
         obtain ⟨kq,x869000_32,x869001_32,x869002_32,HA,HJ32,HO_4,HO_5,HO_6,HO_858000,BK857,BK868,HB⟩:=hcut
         cases kq with
         | zero=>exact absurd HA.out (by simp [jf.j2])
         | succ kj32 =>
          have H:=HA.out
          clear HA
          simp only [jf.j2] at H
          replace H:=bzS H
          obtain ⟨⟨t869,t872,t873,t874⟩,A410,H⟩:=H
          replace H:((jKa.f kj32 t848 t854 x869000_32 x869001_32 x869002_32).bind fun bt878=>((jGa.f kj32 t848 bt878.1 bt878.2.1 bt878.2.2.1 bt878.2.2.2).bind fun bt887=>((jKa.f kj32 t848 t851 bt887.1 bt887.2.1 bt887.2.2.1).bind fun bt892=>((jGa.f kj32 t848 t869 t872 t873 t874).bind fun bt901=>((jGa.f kj32 t848 bt892.1 bt892.2.1 bt892.2.2.1 bt892.2.2.2).bind fun bt906=>(if bt887.2.2.2=true then (if bt901.2.2.2=true then (if bt906.2.2.2=true then (if (!(bt901.1 == bt906.1) ||(!(bt901.2.1 == bt906.2.1) ||(!(bt901.2.2.1 == bt906.2.2.1))))=true then (jf.j3 kj32 t851 t854 t858 x10_2 true t848) else ((some (([]:List Int):List Int)).bind fun y911=>(if y911.length+bt878.1.length<17592186044416 then ((some (y911 ++ bt878.1:List Int)).bind fun y914=>(if y914.length+bt892.1.length<17592186044416 then ((jma.f kj32 t869 (y914 ++ bt892.1)).bind fun t920=>(jf.j3 kj32 t851 t854 t858 x10_2 (!t920) t848)) else (none))) else (none)))) else (jf.j3 kj32 t851 t854 t858 x10_2 true t848)) else (jf.j3 kj32 t851 t854 t858 x10_2 true t848)) else (jf.j3 kj32 t851 t854 t858 x10_2 true t848)))))))=some r:=H
          have A41:=am A410
          clear A410
          replace H:=bzS H
          obtain ⟨⟨t878,t881,t882,t883⟩,A420,H⟩:=H
          replace H:((jGa.f kj32 t848 t878 t881 t882 t883).bind fun bt887=>((jKa.f kj32 t848 t851 bt887.1 bt887.2.1 bt887.2.2.1).bind fun bt892=>((jGa.f kj32 t848 t869 t872 t873 t874).bind fun bt901=>((jGa.f kj32 t848 bt892.1 bt892.2.1 bt892.2.2.1 bt892.2.2.2).bind fun bt906=>(if bt887.2.2.2=true then (if bt901.2.2.2=true then (if bt906.2.2.2=true then (if (!(bt901.1 == bt906.1) ||(!(bt901.2.1 == bt906.2.1) ||(!(bt901.2.2.1 == bt906.2.2.1))))=true then (jf.j3 kj32 t851 t854 t858 x10_2 true t848) else ((some (([]:List Int):List Int)).bind fun y911=>(if y911.length+t878.length<17592186044416 then ((some (y911 ++ t878:List Int)).bind fun y914=>(if y914.length+bt892.1.length<17592186044416 then ((jma.f kj32 t869 (y914 ++ bt892.1)).bind fun t920=>(jf.j3 kj32 t851 t854 t858 x10_2 (!t920) t848)) else (none))) else (none)))) else (jf.j3 kj32 t851 t854 t858 x10_2 true t848)) else (jf.j3 kj32 t851 t854 t858 x10_2 true t848)) else (jf.j3 kj32 t851 t854 t858 x10_2 true t848))))))=some r:=H
          have A42:=am A420
          clear A420
          replace H:=bzS H
          obtain ⟨⟨t887,t888,t889,t890⟩,A430,H⟩:=H
          replace H:((jKa.f kj32 t848 t851 t887 t888 t889).bind fun bt892=>((jGa.f kj32 t848 t869 t872 t873 t874).bind fun bt901=>((jGa.f kj32 t848 bt892.1 bt892.2.1 bt892.2.2.1 bt892.2.2.2).bind fun bt906=>(if t890=true then (if bt901.2.2.2=true then (if bt906.2.2.2=true then (if (!(bt901.1 == bt906.1) ||(!(bt901.2.1 == bt906.2.1) ||(!(bt901.2.2.1 == bt906.2.2.1))))=true then (jf.j3 kj32 t851 t854 t858 x10_2 true t848) else ((some (([]:List Int):List Int)).bind fun y911=>(if y911.length+t878.length<17592186044416 then ((some (y911 ++ t878:List Int)).bind fun y914=>(if y914.length+bt892.1.length<17592186044416 then ((jma.f kj32 t869 (y914 ++ bt892.1)).bind fun t920=>(jf.j3 kj32 t851 t854 t858 x10_2 (!t920) t848)) else (none))) else (none)))) else (jf.j3 kj32 t851 t854 t858 x10_2 true t848)) else (jf.j3 kj32 t851 t854 t858 x10_2 true t848)) else (jf.j3 kj32 t851 t854 t858 x10_2 true t848)))))=some r:=H
          have A43:=am A430
          clear A430
          replace H:=bzS H
          obtain ⟨⟨t892,t895,t896,t897⟩,A440,H⟩:=H
          replace H:((jGa.f kj32 t848 t869 t872 t873 t874).bind fun bt901=>((jGa.f kj32 t848 t892 t895 t896 t897).bind fun bt906=>(if t890=true then (if bt901.2.2.2=true then (if bt906.2.2.2=true then (if (!(bt901.1 == bt906.1) ||(!(bt901.2.1 == bt906.2.1) ||(!(bt901.2.2.1 == bt906.2.2.1))))=true then (jf.j3 kj32 t851 t854 t858 x10_2 true t848) else ((some (([]:List Int):List Int)).bind fun y911=>(if y911.length+t878.length<17592186044416 then ((some (y911 ++ t878:List Int)).bind fun y914=>(if y914.length+t892.length<17592186044416 then ((jma.f kj32 t869 (y914 ++ t892)).bind fun t920=>(jf.j3 kj32 t851 t854 t858 x10_2 (!t920) t848)) else (none))) else (none)))) else (jf.j3 kj32 t851 t854 t858 x10_2 true t848)) else (jf.j3 kj32 t851 t854 t858 x10_2 true t848)) else (jf.j3 kj32 t851 t854 t858 x10_2 true t848))))=some r:=H
          have A44:=am A440
          clear A440
          replace H:=bzS H
          obtain ⟨⟨t901,t902,t903,t904⟩,A450,H⟩:=H
          replace H:((jGa.f kj32 t848 t892 t895 t896 t897).bind fun bt906=>(if t890=true then (if t904=true then (if bt906.2.2.2=true then (if (!(t901 == bt906.1) ||(!(t902 == bt906.2.1) ||(!(t903 == bt906.2.2.1))))=true then (jf.j3 kj32 t851 t854 t858 x10_2 true t848) else ((some (([]:List Int):List Int)).bind fun y911=>(if y911.length+t878.length<17592186044416 then ((some (y911 ++ t878:List Int)).bind fun y914=>(if y914.length+t892.length<17592186044416 then ((jma.f kj32 t869 (y914 ++ t892)).bind fun t920=>(jf.j3 kj32 t851 t854 t858 x10_2 (!t920) t848)) else (none))) else (none)))) else (jf.j3 kj32 t851 t854 t858 x10_2 true t848)) else (jf.j3 kj32 t851 t854 t858 x10_2 true t848)) else (jf.j3 kj32 t851 t854 t858 x10_2 true t848)))=some r:=H
          have A45:=am A450
          clear A450
          replace H:=bzS H
          obtain ⟨⟨t906,t907,t908,t909⟩,A460,H⟩:=H
          replace H:(if t890=true then (if t904=true then (if t909=true then (if (!(t901 == t906) ||(!(t902 == t907) ||(!(t903 == t908))))=true then (jf.j3 kj32 t851 t854 t858 x10_2 true t848) else ((some (([]:List Int):List Int)).bind fun y911=>(if y911.length+t878.length<17592186044416 then ((some (y911 ++ t878:List Int)).bind fun y914=>(if y914.length+t892.length<17592186044416 then ((jma.f kj32 t869 (y914 ++ t892)).bind fun t920=>(jf.j3 kj32 t851 t854 t858 x10_2 (!t920) t848)) else (none))) else (none)))) else (jf.j3 kj32 t851 t854 t858 x10_2 true t848)) else (jf.j3 kj32 t851 t854 t858 x10_2 true t848)) else (jf.j3 kj32 t851 t854 t858 x10_2 true t848))=some r:=H
          have A46:=am A460
          clear A460
          have HC47:=am H
          clear H
          have hnb48:=NB857_868.out
          have hnc48:=NB868_857.out
          have hcz49_0:=bc0 BK857.out
          have hfz49_0:=jd BK857.out 0
          have hcz50_0:=bc0 BK868.out
          have hcz50_1:=bc1 BK868.out
          have hcz50_2:=bc2 BK868.out
          have hfz50_0:=jd BK868.out 0
          have hfz50_1:=jd BK868.out 1
          have hfz50_2:=jd BK868.out 2
          obtain ⟨Ao51,co51,eo51⟩:=Kd.jja HO_6.out
          subst eo51
          go_upto_region 20 with (first |((with_reducible refine jy (f:=23) rfl ?_);refine gL (some 80) Try.func23 #[.agg #[.slice Ao9 t848.length co9], .slice Ao51 t858.length co51, .agg #[.bool x869000_32, .int .i64 x869001_32, .int .i64 x869002_32]] ?_;(with_reducible refine (jKa.calls kj32 _ _ t848 _ _ t858 x869000_32 x869001_32 x869002_32 t869 t872 t873 t874 _ ?side1 ?side2 ?side3 ?side4 A41.out).mono ?_);(case side1=>exact cq (Kd.jE HO_858000.out).2.2);(case side2=>exact (Kd.jE HO_858000.out).2.1);(case side3=>exact cq (Kd.jE HO_6.out).2.2);(case side4=>exact (Kd.jE HO_6.out).2.1);rintro e w52 ⟨v870,v875,rfl,ho0,ho1,hb⟩;refine ⟨_,rfl,?_⟩;have HO871:=am (Kd.jua ho0 (jY (Y55)));have HO876:=am (Kd.jua ho1 (jY (Y55)));replace HO_4:=am (Kd.jM (rq HO_4.out) hb);replace HO_5:=am (Kd.jM (rq HO_5.out) hb);replace HO_6:=am (Kd.jM (rq HO_6.out) hb);replace HO_858000:=am (Kd.jM (rq HO_858000.out) hb);replace BK857:=am (je (g:=gb857) (o:=.cells #[.slice Ao9 t848.length co9] 31 (0,0)) (kq BK857.out) hb);replace BK868:=am (je (g:=gb868) (o:=.cells #[.bool x869000_32, .int .i64 x869001_32, .int .i64 x869002_32] 50 (0,0)) (kq BK868.out) hb);replace HB:=am (jk (Y55) hb);(try clear hb);(try clear hb2);(try clear hk);(try clear hi);(try clear ho0);(try clear ho1)) |((with_reducible refine jP (N:=12) rfl ?_);(try (refine jHa (by rfl) ?_;dsimp only));refine jOa ?hg (N:=12) ?hd (cs:=#[.slice none 0 0, .int .i64 0, .int .i64 0, .slice none 0 0]) (t:=55) ?hr ?_;(case hd=>rfl);(case hg=>rfl);(case hr=>exact Y2);intro gb877 hg w53 hbox hb;have BK877:=am (hbox);have GW877:=am ((Y140:w.heap.size≤gb877));have GE877:=am ((Y140:w.heap.size≤gb877));have NB857_877:=am ((Y50:gb857≠gb877));have NB877_857:=am ((Y51:gb877≠gb857));have NB868_877:=am ((Y56:gb868≠gb877));have NB877_868:=am ((Y57:gb877≠gb868));replace HO_4:=am (Kd.jM (rq HO_4.out) hb);replace HO_5:=am (Kd.jM (rq HO_5.out) hb);replace HO_6:=am (Kd.jM (rq HO_6.out) hb);replace HO_858000:=am (Kd.jM (rq HO_858000.out) hb);replace HO871:=am (Kd.jM (rq HO871.out) hb);replace HO876:=am (Kd.jM (rq HO876.out) hb);replace BK857:=am (je (g:=gb857) (o:=.cells #[.slice Ao9 t848.length co9] 31 (0,0)) (kq BK857.out) hb);replace BK868:=am (je (g:=gb868) (o:=.cells #[.bool x869000_32, .int .i64 x869001_32, .int .i64 x869002_32] 50 (0,0)) (kq BK868.out) hb);replace HB:=am (jk (Y55) hb);clear hb hbox hg;obtain ⟨Ao54,co54,eo54⟩:=Kd.jja HO871.out;subst eo54;have hnb55:=NB877_857.out;have hnc55:=NB857_877.out;have hnb56:=NB877_868.out;have hnc56:=NB868_877.out;have hcz57_0:=bc0 BK877.out;have hcz57_1:=bc1 BK877.out;have hcz57_2:=bc2 BK877.out;have hcz57_3:=bc3 BK877.out;have hfz57_0:=jd BK877.out 0;have hfz57_1:=jd BK877.out 1;have hfz57_2:=jd BK877.out 2;have hfz57_3:=jd BK877.out 3;obtain ⟨Ao58,co58,eo58⟩:=Kd.jja HO876.out;subst eo58;have hcz59_0:=bc0 BK857.out;have hfz59_0:=jd BK857.out 0;have hcz60_0:=bc0 BK868.out;have hcz60_1:=bc1 BK868.out;have hcz60_2:=bc2 BK868.out;have hfz60_0:=jd BK868.out 0;have hfz60_1:=jd BK868.out 1;have hfz60_2:=jd BK868.out 2) |((with_reducible refine jy (f:=23) rfl ?_);refine gL (some 84) Try.func23 #[.agg #[.slice Ao9 t848.length co9], .slice Ao14 t854.length co14, .agg #[.bool x869000_32, .int .i64 x869001_32, .int .i64 x869002_32]] ?_;(with_reducible refine (jKa.calls kj32 _ _ t848 _ _ t854 x869000_32 x869001_32 x869002_32 t878 t881 t882 t883 _ ?side1 ?side2 ?side3 ?side4 A42.out).mono ?_);(case side1=>refine (Kd.jE (e:=106) (base:=w.heap.size) (ok:=fun k_=>True) (n:=t848.length) (c:=co9) ?_).2.2;exact (Y141));(case side2=>exact (Kd.jE HO_858000.out).2.1);(case side3=>refine (Kd.jE (e:=44) (base:=w.heap.size) (ok:=fun k_=>(some k_≠(.slice Ao13 t851.length co13:Value).ownBlock∧some k_≠(.slice Ao51 t858.length co51:Value).ownBlock)) (n:=t854.length) (c:=co14) ?_).2.2;exact (Y142));(case side4=>exact (Kd.jE HO_5.out).2.1);rintro e w61 ⟨v879,v884,rfl,ho0,ho1,hb⟩;refine ⟨_,rfl,?_⟩;have HO880:=am (Kd.jua (Kd.jic ho0 (Kd.R_lt (Y143))) (jY (Y92)));have HO885:=am (Kd.jua (Kd.jic ho1 (Kd.R_lt (Y144))) (jY (Y92)));replace HO_4:=am (Kd.jM (by (with_reducible repeat (first | apply Kd.jK | apply Kd.jL | apply Kd.jH));exact (Kd.jD (Kd.jB (p:=⟨gb877,3,none⟩) (Kd.jB (p:=⟨gb877,2,none⟩) (Kd.jB (p:=⟨gb877,1,none⟩) (Kd.jB (p:=⟨gb877,0,none⟩) (Kd.jN HO_4.out BK877.out (by decide)) (fun _ hk=>hk.2) (.slice Ao54 t869.length co54)) (fun _ hk=>hk.2) (.int .i64 t872)) (fun _ hk=>hk.2) (.int .i64 t873)) (fun _ hk=>hk.2) (.slice Ao58 t874.length co58)) (fun _ h_=>h_.1))) hb);replace HO_5:=am (Kd.jM (Y142) hb);replace HO_6:=am (Kd.jM (by (with_reducible repeat (first | apply Kd.jK | apply Kd.jL | apply Kd.jH));exact (Kd.jD (Kd.jB (p:=⟨gb877,3,none⟩) (Kd.jB (p:=⟨gb877,2,none⟩) (Kd.jB (p:=⟨gb877,1,none⟩) (Kd.jB (p:=⟨gb877,0,none⟩) (Kd.jN HO_6.out BK877.out (by decide)) (fun _ hk=>hk.2) (.slice Ao54 t869.length co54)) (fun _ hk=>hk.2) (.int .i64 t872)) (fun _ hk=>hk.2) (.int .i64 t873)) (fun _ hk=>hk.2) (.slice Ao58 t874.length co58)) (fun _ h_=>h_.1))) hb);replace HO_858000:=am (Kd.jM (Y141) hb);replace HO871:=am (Kd.jIb (Y143) (Kd.jRb ho0) hb);replace HO876:=am (Kd.jIb (Y144) (Kd.jRb ho1) hb);replace BK857:=am (je (g:=gb857) (o:=.cells #[.slice Ao9 t848.length co9] 31 (0,0)) (by (with_reducible repeat (first | refine jb ?_ _ | refine jc ?_ | refine ja ?_ _));refine jr ?_ NB857_877.out _;(with_reducible repeat (first | refine jb ?_ _ | refine jc ?_ | refine ja ?_ _));refine jr ?_ NB857_877.out _;(with_reducible repeat (first | refine jb ?_ _ | refine jc ?_ | refine ja ?_ _));refine jr ?_ NB857_877.out _;(with_reducible repeat (first | refine jb ?_ _ | refine jc ?_ | refine ja ?_ _));refine jr ?_ NB857_877.out _;(with_reducible repeat (first | refine jb ?_ _ | refine jc ?_ | refine ja ?_ _));exact BK857.out) hb);replace BK868:=am (je (g:=gb868) (o:=.cells #[.bool x869000_32, .int .i64 x869001_32, .int .i64 x869002_32] 50 (0,0)) (by (with_reducible repeat (first | refine jb ?_ _ | refine jc ?_ | refine ja ?_ _));refine jr ?_ NB868_877.out _;(with_reducible repeat (first | refine jb ?_ _ | refine jc ?_ | refine ja ?_ _));refine jr ?_ NB868_877.out _;(with_reducible repeat (first | refine jb ?_ _ | refine jc ?_ | refine ja ?_ _));refine jr ?_ NB868_877.out _;(with_reducible repeat (first | refine jb ?_ _ | refine jc ?_ | refine ja ?_ _));refine jr ?_ NB868_877.out _;(with_reducible repeat (first | refine jb ?_ _ | refine jc ?_ | refine ja ?_ _));exact BK868.out) hb);replace BK877:=am (je (g:=gb877) (o:=.cells #[.slice Ao54 t869.length co54, .int .i64 t872, .int .i64 t873, .slice Ao58 t874.length co58] 55 (0,0)) (by (with_reducible repeat (first | refine jb ?_ _ | refine jc ?_ | refine ja ?_ _));refine jO (cs:=#[.slice Ao54 t869.length co54, .int .i64 t872, .int .i64 t873, .slice none 0 0]) ?_ 3 _ rfl;(with_reducible repeat (first | refine jb ?_ _ | refine jc ?_ | refine ja ?_ _));refine jO (cs:=#[.slice Ao54 t869.length co54, .int .i64 t872, .int .i64 0, .slice none 0 0]) ?_ 2 _ rfl;(with_reducible repeat (first | refine jb ?_ _ | refine jc ?_ | refine ja ?_ _));refine jO (cs:=#[.slice Ao54 t869.length co54, .int .i64 0, .int .i64 0, .slice none 0 0]) ?_ 1 _ rfl;(with_reducible repeat (first | refine jb ?_ _ | refine jc ?_ | refine ja ?_ _));refine jO (cs:=#[.slice none 0 0, .int .i64 0, .int .i64 0, .slice none 0 0]) ?_ 0 _ rfl;(with_reducible repeat (first | refine jb ?_ _ | refine jc ?_ | refine ja ?_ _));exact BK877.out) hb);replace HB:=am (jk (Y92) hb);(try clear hb);(try clear hb2);(try clear hk);(try clear hi);(try clear ho0);(try clear ho1)) |((with_reducible refine jP (N:=13) rfl ?_);(try (refine jHa (by rfl) ?_;dsimp only));refine jOa ?hg (N:=13) ?hd (cs:=#[.slice none 0 0, .int .i64 0, .int .i64 0, .slice none 0 0]) (t:=55) ?hr ?_;(case hd=>rfl);(case hg=>rfl);(case hr=>exact Y2);intro gb886 hg w62 hbox hb;have BK886:=am (hbox);have GW886:=am ((Y145:w.heap.size≤gb886));have GE886:=am ((Y145:w.heap.size≤gb886));have NB857_886:=am ((Y50:gb857≠gb886));have NB886_857:=am ((Y51:gb886≠gb857));have NB868_886:=am ((Y56:gb868≠gb886));have NB886_868:=am ((Y57:gb886≠gb868));have NB877_886:=am ((Y74:gb877≠gb886));have NB886_877:=am ((Y75:gb886≠gb877));replace HO_4:=am (Kd.jM (rq HO_4.out) hb);replace HO_5:=am (Kd.jM (rq HO_5.out) hb);replace HO_6:=am (Kd.jM (rq HO_6.out) hb);replace HO_858000:=am (Kd.jM (rq HO_858000.out) hb);replace HO871:=am (Kd.jM (rq HO871.out) hb);replace HO876:=am (Kd.jM (rq HO876.out) hb);replace HO880:=am (Kd.jM (rq HO880.out) hb);replace HO885:=am (Kd.jM (rq HO885.out) hb);replace BK857:=am (je (g:=gb857) (o:=.cells #[.slice Ao9 t848.length co9] 31 (0,0)) (kq BK857.out) hb);replace BK868:=am (je (g:=gb868) (o:=.cells #[.bool x869000_32, .int .i64 x869001_32, .int .i64 x869002_32] 50 (0,0)) (kq BK868.out) hb);replace BK877:=am (je (g:=gb877) (o:=.cells #[.slice Ao54 t869.length co54, .int .i64 t872, .int .i64 t873, .slice Ao58 t874.length co58] 55 (0,0)) (kq BK877.out) hb);replace HB:=am (jk (Y92) hb);clear hb hbox hg;obtain ⟨Ao63,co63,eo63⟩:=Kd.jja HO880.out;subst eo63;have hnb64:=NB886_857.out;have hnc64:=NB857_886.out;have hnb65:=NB886_868.out;have hnc65:=NB868_886.out;have hnb66:=NB886_877.out;have hnc66:=NB877_886.out;have hcz67_0:=bc0 BK886.out;have hcz67_1:=bc1 BK886.out;have hcz67_2:=bc2 BK886.out;have hcz67_3:=bc3 BK886.out;have hfz67_0:=jd BK886.out 0;have hfz67_1:=jd BK886.out 1;have hfz67_2:=jd BK886.out 2;have hfz67_3:=jd BK886.out 3;obtain ⟨Ao68,co68,eo68⟩:=Kd.jja HO885.out;subst eo68;have hcz69_0:=bc0 BK857.out;have hfz69_0:=jd BK857.out 0) |((with_reducible refine jy (f:=24) rfl ?_);refine gL (some 88) Try.func24 #[.agg #[.slice Ao9 t848.length co9], .agg #[.slice Ao63 t878.length co63, .int .i64 t881, .int .i64 t882, .slice Ao68 t883.length co68]] ?_;(with_reducible refine (jGa.calls kj32 _ _ t848 _ _ t878 t881 t882 _ _ t883 t887 t888 t889 t890 _ ?side1 ?side2 ?side3 ?side4 ?side5 ?side6 A43.out).mono ?_);(case side1=>refine (Kd.jE (e:=106) (base:=w.heap.size) (ok:=fun k_=>True) (n:=t848.length) (c:=co9) ?_).2.2;exact (Y146));(case side2=>exact (Kd.jE HO_858000.out).2.1);(case side3=>refine (Kd.jE (e:=3) (base:=w.heap.size) (ok:=fun k_=>(True∧some k_≠(.slice Ao54 t869.length co54:Value).ownBlock)) (n:=t878.length) (c:=co63) ?_).2.2;exact (Y147));(case side4=>exact (Kd.jE HO880.out).2.1);(case side5=>refine (Kd.jE (e:=90) (base:=w.heap.size) (ok:=fun k_=>(True∧some k_≠(.slice Ao58 t874.length co58:Value).ownBlock)) (n:=t883.length) (c:=co68) ?_).2.2;exact (Y148));(case side6=>exact (Kd.jE HO885.out).2.1);rintro e w70 ⟨rfl,hb⟩;refine ⟨_,rfl,?_⟩;replace HO_4:=am (Kd.jM (by (with_reducible repeat (first | apply Kd.jK | apply Kd.jL | apply Kd.jH));exact (Kd.jD (Kd.jB (p:=⟨gb886,3,none⟩) (Kd.jB (p:=⟨gb886,2,none⟩) (Kd.jB (p:=⟨gb886,1,none⟩) (Kd.jB (p:=⟨gb886,0,none⟩) (Kd.jN HO_4.out BK886.out (by decide)) (fun _ hk=>hk.2) (.slice Ao63 t878.length co63)) (fun _ hk=>hk.2) (.int .i64 t881)) (fun _ hk=>hk.2) (.int .i64 t882)) (fun _ hk=>hk.2) (.slice Ao68 t883.length co68)) (fun _ h_=>h_.1))) hb);replace HO_5:=am (Kd.jM (by (with_reducible repeat (first | apply Kd.jK | apply Kd.jL | apply Kd.jH));exact (Kd.jD (Kd.jB (p:=⟨gb886,3,none⟩) (Kd.jB (p:=⟨gb886,2,none⟩) (Kd.jB (p:=⟨gb886,1,none⟩) (Kd.jB (p:=⟨gb886,0,none⟩) (Kd.jN HO_5.out BK886.out (by decide)) (fun _ hk=>hk.2) (.slice Ao63 t878.length co63)) (fun _ hk=>hk.2) (.int .i64 t881)) (fun _ hk=>hk.2) (.int .i64 t882)) (fun _ hk=>hk.2) (.slice Ao68 t883.length co68)) (fun _ h_=>h_.1))) hb);replace HO_6:=am (Kd.jM (by (with_reducible repeat (first | apply Kd.jK | apply Kd.jL | apply Kd.jH));exact (Kd.jD (Kd.jB (p:=⟨gb886,3,none⟩) (Kd.jB (p:=⟨gb886,2,none⟩) (Kd.jB (p:=⟨gb886,1,none⟩) (Kd.jB (p:=⟨gb886,0,none⟩) (Kd.jN HO_6.out BK886.out (by decide)) (fun _ hk=>hk.2) (.slice Ao63 t878.length co63)) (fun _ hk=>hk.2) (.int .i64 t881)) (fun _ hk=>hk.2) (.int .i64 t882)) (fun _ hk=>hk.2) (.slice Ao68 t883.length co68)) (fun _ h_=>h_.1))) hb);replace HO_858000:=am (Kd.jM (Y146) hb);replace HO871:=am (Kd.jM (by (with_reducible repeat (first | apply Kd.jK | apply Kd.jL | apply Kd.jH));exact (Kd.jD (Kd.jB (p:=⟨gb886,3,none⟩) (Kd.jB (p:=⟨gb886,2,none⟩) (Kd.jB (p:=⟨gb886,1,none⟩) (Kd.jB (p:=⟨gb886,0,none⟩) (Kd.jN HO871.out BK886.out (by decide)) (fun _ hk=>hk.2) (.slice Ao63 t878.length co63)) (fun _ hk=>hk.2) (.int .i64 t881)) (fun _ hk=>hk.2) (.int .i64 t882)) (fun _ hk=>hk.2) (.slice Ao68 t883.length co68)) (fun _ h_=>h_.1))) hb);replace HO876:=am (Kd.jM (by (with_reducible repeat (first | apply Kd.jK | apply Kd.jL | apply Kd.jH));exact (Kd.jD (Kd.jB (p:=⟨gb886,3,none⟩) (Kd.jB (p:=⟨gb886,2,none⟩) (Kd.jB (p:=⟨gb886,1,none⟩) (Kd.jB (p:=⟨gb886,0,none⟩) (Kd.jN HO876.out BK886.out (by decide)) (fun _ hk=>hk.2) (.slice Ao63 t878.length co63)) (fun _ hk=>hk.2) (.int .i64 t881)) (fun _ hk=>hk.2) (.int .i64 t882)) (fun _ hk=>hk.2) (.slice Ao68 t883.length co68)) (fun _ h_=>h_.1))) hb);replace HO880:=am (Kd.jM (Y147) hb);replace HO885:=am (Kd.jM (Y148) hb);replace BK857:=am (je (g:=gb857) (o:=.cells #[.slice Ao9 t848.length co9] 31 (0,0)) (by (with_reducible repeat (first | refine jb ?_ _ | refine jc ?_ | refine ja ?_ _));refine jr ?_ NB857_886.out _;(with_reducible repeat (first | refine jb ?_ _ | refine jc ?_ | refine ja ?_ _));refine jr ?_ NB857_886.out _;(with_reducible repeat (first | refine jb ?_ _ | refine jc ?_ | refine ja ?_ _));refine jr ?_ NB857_886.out _;(with_reducible repeat (first | refine jb ?_ _ | refine jc ?_ | refine ja ?_ _));refine jr ?_ NB857_886.out _;(with_reducible repeat (first | refine jb ?_ _ | refine jc ?_ | refine ja ?_ _));exact BK857.out) hb);replace BK868:=am (je (g:=gb868) (o:=.cells #[.bool x869000_32, .int .i64 x869001_32, .int .i64 x869002_32] 50 (0,0)) (by (with_reducible repeat (first | refine jb ?_ _ | refine jc ?_ | refine ja ?_ _));refine jr ?_ NB868_886.out _;(with_reducible repeat (first | refine jb ?_ _ | refine jc ?_ | refine ja ?_ _));refine jr ?_ NB868_886.out _;(with_reducible repeat (first | refine jb ?_ _ | refine jc ?_ | refine ja ?_ _));refine jr ?_ NB868_886.out _;(with_reducible repeat (first | refine jb ?_ _ | refine jc ?_ | refine ja ?_ _));refine jr ?_ NB868_886.out _;(with_reducible repeat (first | refine jb ?_ _ | refine jc ?_ | refine ja ?_ _));exact BK868.out) hb);replace BK877:=am (je (g:=gb877) (o:=.cells #[.slice Ao54 t869.length co54, .int .i64 t872, .int .i64 t873, .slice Ao58 t874.length co58] 55 (0,0)) (by (with_reducible repeat (first | refine jb ?_ _ | refine jc ?_ | refine ja ?_ _));refine jr ?_ NB877_886.out _;(with_reducible repeat (first | refine jb ?_ _ | refine jc ?_ | refine ja ?_ _));refine jr ?_ NB877_886.out _;(with_reducible repeat (first | refine jb ?_ _ | refine jc ?_ | refine ja ?_ _));refine jr ?_ NB877_886.out _;(with_reducible repeat (first | refine jb ?_ _ | refine jc ?_ | refine ja ?_ _));refine jr ?_ NB877_886.out _;(with_reducible repeat (first | refine jb ?_ _ | refine jc ?_ | refine ja ?_ _));exact BK877.out) hb);replace BK886:=am (je (g:=gb886) (o:=.cells #[.slice Ao63 t878.length co63, .int .i64 t881, .int .i64 t882, .slice Ao68 t883.length co68] 55 (0,0)) (by (with_reducible repeat (first | refine jb ?_ _ | refine jc ?_ | refine ja ?_ _));refine jO (cs:=#[.slice Ao63 t878.length co63, .int .i64 t881, .int .i64 t882, .slice none 0 0]) ?_ 3 _ rfl;(with_reducible repeat (first | refine jb ?_ _ | refine jc ?_ | refine ja ?_ _));refine jO (cs:=#[.slice Ao63 t878.length co63, .int .i64 t881, .int .i64 0, .slice none 0 0]) ?_ 2 _ rfl;(with_reducible repeat (first | refine jb ?_ _ | refine jc ?_ | refine ja ?_ _));refine jO (cs:=#[.slice Ao63 t878.length co63, .int .i64 0, .int .i64 0, .slice none 0 0]) ?_ 1 _ rfl;(with_reducible repeat (first | refine jb ?_ _ | refine jc ?_ | refine ja ?_ _));refine jO (cs:=#[.slice none 0 0, .int .i64 0, .int .i64 0, .slice none 0 0]) ?_ 0 _ rfl;(with_reducible repeat (first | refine jb ?_ _ | refine jc ?_ | refine ja ?_ _));exact BK886.out) hb);replace HB:=am (jk (Y149) hb);(try clear hb);(try clear hb2);(try clear hk);(try clear hi)) |((with_reducible refine jP (N:=14) rfl ?_);(try (refine jHa (by rfl) ?_;dsimp only));refine jOa ?hg (N:=14) ?hd (cs:=#[.bool false, .int .i64 0, .int .i64 0]) (t:=50) ?hr ?_;(case hd=>rfl);(case hg=>rfl);(case hr=>exact Y2);intro gb891 hg w71 hbox hb;have BK891:=am (hbox);have GW891:=am ((Y150:w.heap.size≤gb891));have GE891:=am ((Y150:w.heap.size≤gb891));have NB857_891:=am ((Y50:gb857≠gb891));have NB891_857:=am ((Y51:gb891≠gb857));have NB868_891:=am ((Y56:gb868≠gb891));have NB891_868:=am ((Y57:gb891≠gb868));have NB877_891:=am ((Y74:gb877≠gb891));have NB891_877:=am ((Y75:gb891≠gb877));have NB886_891:=am ((Y93:gb886≠gb891));have NB891_886:=am ((Y94:gb891≠gb886));replace HO_4:=am (Kd.jM (rq HO_4.out) hb);replace HO_5:=am (Kd.jM (rq HO_5.out) hb);replace HO_6:=am (Kd.jM (rq HO_6.out) hb);replace HO_858000:=am (Kd.jM (rq HO_858000.out) hb);replace HO871:=am (Kd.jM (rq HO871.out) hb);replace HO876:=am (Kd.jM (rq HO876.out) hb);replace HO880:=am (Kd.jM (rq HO880.out) hb);replace HO885:=am (Kd.jM (rq HO885.out) hb);replace BK857:=am (je (g:=gb857) (o:=.cells #[.slice Ao9 t848.length co9] 31 (0,0)) (kq BK857.out) hb);replace BK868:=am (je (g:=gb868) (o:=.cells #[.bool x869000_32, .int .i64 x869001_32, .int .i64 x869002_32] 50 (0,0)) (kq BK868.out) hb);replace BK877:=am (je (g:=gb877) (o:=.cells #[.slice Ao54 t869.length co54, .int .i64 t872, .int .i64 t873, .slice Ao58 t874.length co58] 55 (0,0)) (kq BK877.out) hb);replace BK886:=am (je (g:=gb886) (o:=.cells #[.slice Ao63 t878.length co63, .int .i64 t881, .int .i64 t882, .slice Ao68 t883.length co68] 55 (0,0)) (kq BK886.out) hb);replace HB:=am (jk (Y149) hb);clear hb hbox hg;have hnb72:=NB891_857.out;have hnc72:=NB857_891.out;have hnb73:=NB891_868.out;have hnc73:=NB868_891.out;have hnb74:=NB891_877.out;have hnc74:=NB877_891.out;have hnb75:=NB891_886.out;have hnc75:=NB886_891.out;have hcz76_0:=bc0 BK891.out;have hcz76_1:=bc1 BK891.out;have hcz76_2:=bc2 BK891.out;have hfz76_0:=jd BK891.out 0;have hfz76_1:=jd BK891.out 1;have hfz76_2:=jd BK891.out 2;have hcz77_0:=bc0 BK857.out;have hfz77_0:=jd BK857.out 0) |((with_reducible refine jy (f:=23) rfl ?_);refine gL (some 94) Try.func23 #[.agg #[.slice Ao9 t848.length co9], .slice Ao13 t851.length co13, .agg #[.bool t887, .int .i64 t888, .int .i64 t889]] ?_;(with_reducible refine (jKa.calls kj32 _ _ t848 _ _ t851 t887 t888 t889 t892 t895 t896 t897 _ ?side1 ?side2 ?side3 ?side4 A44.out).mono ?_);(case side1=>refine (Kd.jE (e:=106) (base:=w.heap.size) (ok:=fun k_=>True) (n:=t848.length) (c:=co9) ?_).2.2;exact (Y151));(case side2=>exact (Kd.jE HO_858000.out).2.1);(case side3=>refine (Kd.jE (e:=44) (base:=w.heap.size) (ok:=fun k_=>(some k_≠(.slice Ao14 t854.length co14:Value).ownBlock∧some k_≠(.slice Ao51 t858.length co51:Value).ownBlock)) (n:=t851.length) (c:=co13) ?_).2.2;exact (Y152));(case side4=>exact (Kd.jE HO_4.out).2.1);rintro e w78 ⟨v893,v898,rfl,ho0,ho1,hb⟩;refine ⟨_,rfl,?_⟩;have HO894:=am (Kd.jua (Kd.jic (Kd.jic ho0 (Kd.R_lt (Y153))) (Kd.R_lt (Y154))) (jY (Y95)));have HO899:=am (Kd.jua (Kd.jic (Kd.jic ho1 (Kd.R_lt (Y155))) (Kd.R_lt (Y156))) (jY (Y95)));replace HO_4:=am (Kd.jM (Y152) hb);replace HO_5:=am (Kd.jM (by (with_reducible repeat (first | apply Kd.jK | apply Kd.jL | apply Kd.jH));exact (Kd.jD (Kd.jB (p:=⟨gb891,2,none⟩) (Kd.jB (p:=⟨gb891,1,none⟩) (Kd.jB (p:=⟨gb891,0,none⟩) (Kd.jN HO_5.out BK891.out (by decide)) (fun _ hk=>hk.2) (.bool t887)) (fun _ hk=>hk.2) (.int .i64 t888)) (fun _ hk=>hk.2) (.int .i64 t889)) (fun _ h_=>h_.1))) hb);replace HO_6:=am (Kd.jM (by (with_reducible repeat (first | apply Kd.jK | apply Kd.jL | apply Kd.jH));exact (Kd.jD (Kd.jB (p:=⟨gb891,2,none⟩) (Kd.jB (p:=⟨gb891,1,none⟩) (Kd.jB (p:=⟨gb891,0,none⟩) (Kd.jN HO_6.out BK891.out (by decide)) (fun _ hk=>hk.2) (.bool t887)) (fun _ hk=>hk.2) (.int .i64 t888)) (fun _ hk=>hk.2) (.int .i64 t889)) (fun _ h_=>h_.1))) hb);replace HO_858000:=am (Kd.jM (Y151) hb);replace HO871:=am (Kd.jIb (Y153) (Kd.jRb ho0) hb);replace HO876:=am (Kd.jIb (Y155) (Kd.jRb ho1) hb);replace HO880:=am (Kd.jIb (Y154) (Kd.jRb ho0) hb);replace HO885:=am (Kd.jIb (Y156) (Kd.jRb ho1) hb);replace BK857:=am (je (g:=gb857) (o:=.cells #[.slice Ao9 t848.length co9] 31 (0,0)) (by (with_reducible repeat (first | refine jb ?_ _ | refine jc ?_ | refine ja ?_ _));refine jr ?_ NB857_891.out _;(with_reducible repeat (first | refine jb ?_ _ | refine jc ?_ | refine ja ?_ _));refine jr ?_ NB857_891.out _;(with_reducible repeat (first | refine jb ?_ _ | refine jc ?_ | refine ja ?_ _));refine jr ?_ NB857_891.out _;(with_reducible repeat (first | refine jb ?_ _ | refine jc ?_ | refine ja ?_ _));exact BK857.out) hb);replace BK868:=am (je (g:=gb868) (o:=.cells #[.bool x869000_32, .int .i64 x869001_32, .int .i64 x869002_32] 50 (0,0)) (by (with_reducible repeat (first | refine jb ?_ _ | refine jc ?_ | refine ja ?_ _));refine jr ?_ NB868_891.out _;(with_reducible repeat (first | refine jb ?_ _ | refine jc ?_ | refine ja ?_ _));refine jr ?_ NB868_891.out _;(with_reducible repeat (first | refine jb ?_ _ | refine jc ?_ | refine ja ?_ _));refine jr ?_ NB868_891.out _;(with_reducible repeat (first | refine jb ?_ _ | refine jc ?_ | refine ja ?_ _));exact BK868.out) hb);replace BK877:=am (je (g:=gb877) (o:=.cells #[.slice Ao54 t869.length co54, .int .i64 t872, .int .i64 t873, .slice Ao58 t874.length co58] 55 (0,0)) (by (with_reducible repeat (first | refine jb ?_ _ | refine jc ?_ | refine ja ?_ _));refine jr ?_ NB877_891.out _;(with_reducible repeat (first | refine jb ?_ _ | refine jc ?_ | refine ja ?_ _));refine jr ?_ NB877_891.out _;(with_reducible repeat (first | refine jb ?_ _ | refine jc ?_ | refine ja ?_ _));refine jr ?_ NB877_891.out _;(with_reducible repeat (first | refine jb ?_ _ | refine jc ?_ | refine ja ?_ _));exact BK877.out) hb);replace BK886:=am (je (g:=gb886) (o:=.cells #[.slice Ao63 t878.length co63, .int .i64 t881, .int .i64 t882, .slice Ao68 t883.length co68] 55 (0,0)) (by (with_reducible repeat (first | refine jb ?_ _ | refine jc ?_ | refine ja ?_ _));refine jr ?_ NB886_891.out _;(with_reducible repeat (first | refine jb ?_ _ | refine jc ?_ | refine ja ?_ _));refine jr ?_ NB886_891.out _;(with_reducible repeat (first | refine jb ?_ _ | refine jc ?_ | refine ja ?_ _));refine jr ?_ NB886_891.out _;(with_reducible repeat (first | refine jb ?_ _ | refine jc ?_ | refine ja ?_ _));exact BK886.out) hb);replace BK891:=am (je (g:=gb891) (o:=.cells #[.bool t887, .int .i64 t888, .int .i64 t889] 50 (0,0)) (by (with_reducible repeat (first | refine jb ?_ _ | refine jc ?_ | refine ja ?_ _));refine jO (cs:=#[.bool t887, .int .i64 t888, .int .i64 0]) ?_ 2 _ rfl;(with_reducible repeat (first | refine jb ?_ _ | refine jc ?_ | refine ja ?_ _));refine jO (cs:=#[.bool t887, .int .i64 0, .int .i64 0]) ?_ 1 _ rfl;(with_reducible repeat (first | refine jb ?_ _ | refine jc ?_ | refine ja ?_ _));refine jO (cs:=#[.bool false, .int .i64 0, .int .i64 0]) ?_ 0 _ rfl;(with_reducible repeat (first | refine jb ?_ _ | refine jc ?_ | refine ja ?_ _));exact BK891.out) hb);replace HB:=am (jk (Y95) hb);(try clear hb);(try clear hb2);(try clear hk);(try clear hi);(try clear ho0);(try clear ho1)) |((with_reducible refine jP (N:=16) rfl ?_);(try (refine jHa (by rfl) ?_;dsimp only));refine jOa ?hg (N:=16) ?hd (cs:=#[.slice none 0 0, .int .i64 0, .int .i64 0, .slice none 0 0]) (t:=55) ?hr ?_;(case hd=>rfl);(case hg=>rfl);(case hr=>exact Y2);intro gb900 hg w79 hbox hb;have BK900:=am (hbox);have GW900:=am ((Y157:w.heap.size≤gb900));have GE900:=am ((Y157:w.heap.size≤gb900));have NB857_900:=am ((Y50:gb857≠gb900));have NB900_857:=am ((Y51:gb900≠gb857));have NB868_900:=am ((Y56:gb868≠gb900));have NB900_868:=am ((Y57:gb900≠gb868));have NB877_900:=am ((Y74:gb877≠gb900));have NB900_877:=am ((Y75:gb900≠gb877));have NB886_900:=am ((Y93:gb886≠gb900));have NB900_886:=am ((Y94:gb900≠gb886));have NB891_900:=am ((Y104:gb891≠gb900));have NB900_891:=am ((Y105:gb900≠gb891));replace HO_4:=am (Kd.jM (rq HO_4.out) hb);replace HO_5:=am (Kd.jM (rq HO_5.out) hb);replace HO_6:=am (Kd.jM (rq HO_6.out) hb);replace HO_858000:=am (Kd.jM (rq HO_858000.out) hb);replace HO871:=am (Kd.jM (rq HO871.out) hb);replace HO876:=am (Kd.jM (rq HO876.out) hb);replace HO880:=am (Kd.jM (rq HO880.out) hb);replace HO885:=am (Kd.jM (rq HO885.out) hb);replace HO894:=am (Kd.jM (rq HO894.out) hb);replace HO899:=am (Kd.jM (rq HO899.out) hb);replace BK857:=am (je (g:=gb857) (o:=.cells #[.slice Ao9 t848.length co9] 31 (0,0)) (kq BK857.out) hb);replace BK868:=am (je (g:=gb868) (o:=.cells #[.bool x869000_32, .int .i64 x869001_32, .int .i64 x869002_32] 50 (0,0)) (kq BK868.out) hb);replace BK877:=am (je (g:=gb877) (o:=.cells #[.slice Ao54 t869.length co54, .int .i64 t872, .int .i64 t873, .slice Ao58 t874.length co58] 55 (0,0)) (kq BK877.out) hb);replace BK886:=am (je (g:=gb886) (o:=.cells #[.slice Ao63 t878.length co63, .int .i64 t881, .int .i64 t882, .slice Ao68 t883.length co68] 55 (0,0)) (kq BK886.out) hb);replace BK891:=am (je (g:=gb891) (o:=.cells #[.bool t887, .int .i64 t888, .int .i64 t889] 50 (0,0)) (kq BK891.out) hb);replace HB:=am (jk (Y95) hb);clear hb hbox hg;obtain ⟨Ao80,co80,eo80⟩:=Kd.jja HO894.out;subst eo80;have hnb81:=NB900_857.out;have hnc81:=NB857_900.out;have hnb82:=NB900_868.out;have hnc82:=NB868_900.out;have hnb83:=NB900_877.out;have hnc83:=NB877_900.out;have hnb84:=NB900_886.out;have hnc84:=NB886_900.out;have hnb85:=NB900_891.out;have hnc85:=NB891_900.out;have hcz86_0:=bc0 BK900.out;have hcz86_1:=bc1 BK900.out;have hcz86_2:=bc2 BK900.out;have hcz86_3:=bc3 BK900.out;have hfz86_0:=jd BK900.out 0;have hfz86_1:=jd BK900.out 1;have hfz86_2:=jd BK900.out 2;have hfz86_3:=jd BK900.out 3;obtain ⟨Ao87,co87,eo87⟩:=Kd.jja HO899.out;subst eo87;have hcz88_0:=bc0 BK857.out;have hfz88_0:=jd BK857.out 0;have hcz89_0:=bc0 BK877.out;have hcz89_1:=bc1 BK877.out;have hcz89_2:=bc2 BK877.out;have hcz89_3:=bc3 BK877.out;have hfz89_0:=jd BK877.out 0;have hfz89_1:=jd BK877.out 1;have hfz89_2:=jd BK877.out 2;have hfz89_3:=jd BK877.out 3) |((with_reducible refine jy (f:=24) rfl ?_);refine gL (some 98) Try.func24 #[.agg #[.slice Ao9 t848.length co9], .agg #[.slice Ao54 t869.length co54, .int .i64 t872, .int .i64 t873, .slice Ao58 t874.length co58]] ?_;(with_reducible refine (jGa.calls kj32 _ _ t848 _ _ t869 t872 t873 _ _ t874 t901 t902 t903 t904 _ ?side1 ?side2 ?side3 ?side4 ?side5 ?side6 A45.out).mono ?_);(case side1=>refine (Kd.jE (e:=106) (base:=w.heap.size) (ok:=fun k_=>True) (n:=t848.length) (c:=co9) ?_).2.2;exact (Y158));(case side2=>exact (Kd.jE HO_858000.out).2.1);(case side3=>refine (Kd.jE (e:=3) (base:=w.heap.size) (ok:=fun k_=>((True∧some k_≠(.slice Ao63 t878.length co63:Value).ownBlock)∧some k_≠(.slice Ao80 t892.length co80:Value).ownBlock)) (n:=t869.length) (c:=co54) ?_).2.2;exact (Y159));(case side4=>exact (Kd.jE HO871.out).2.1);(case side5=>refine (Kd.jE (e:=90) (base:=w.heap.size) (ok:=fun k_=>((True∧some k_≠(.slice Ao68 t883.length co68:Value).ownBlock)∧some k_≠(.slice Ao87 t897.length co87:Value).ownBlock)) (n:=t874.length) (c:=co58) ?_).2.2;exact (Y160));(case side6=>exact (Kd.jE HO876.out).2.1);rintro e w90 ⟨rfl,hb⟩;refine ⟨_,rfl,?_⟩;replace HO_4:=am (Kd.jM (by (with_reducible repeat (first | apply Kd.jK | apply Kd.jL | apply Kd.jH));exact (Kd.jD (Kd.jB (p:=⟨gb900,3,none⟩) (Kd.jB (p:=⟨gb900,2,none⟩) (Kd.jB (p:=⟨gb900,1,none⟩) (Kd.jB (p:=⟨gb900,0,none⟩) (Kd.jN HO_4.out BK900.out (by decide)) (fun _ hk=>hk.2) (.slice Ao80 t892.length co80)) (fun _ hk=>hk.2) (.int .i64 t895)) (fun _ hk=>hk.2) (.int .i64 t896)) (fun _ hk=>hk.2) (.slice Ao87 t897.length co87)) (fun _ h_=>h_.1))) hb);replace HO_5:=am (Kd.jM (by (with_reducible repeat (first | apply Kd.jK | apply Kd.jL | apply Kd.jH));exact (Kd.jD (Kd.jB (p:=⟨gb900,3,none⟩) (Kd.jB (p:=⟨gb900,2,none⟩) (Kd.jB (p:=⟨gb900,1,none⟩) (Kd.jB (p:=⟨gb900,0,none⟩) (Kd.jN HO_5.out BK900.out (by decide)) (fun _ hk=>hk.2) (.slice Ao80 t892.length co80)) (fun _ hk=>hk.2) (.int .i64 t895)) (fun _ hk=>hk.2) (.int .i64 t896)) (fun _ hk=>hk.2) (.slice Ao87 t897.length co87)) (fun _ h_=>h_.1))) hb);replace HO_6:=am (Kd.jM (by (with_reducible repeat (first | apply Kd.jK | apply Kd.jL | apply Kd.jH));exact (Kd.jD (Kd.jB (p:=⟨gb900,3,none⟩) (Kd.jB (p:=⟨gb900,2,none⟩) (Kd.jB (p:=⟨gb900,1,none⟩) (Kd.jB (p:=⟨gb900,0,none⟩) (Kd.jN HO_6.out BK900.out (by decide)) (fun _ hk=>hk.2) (.slice Ao80 t892.length co80)) (fun _ hk=>hk.2) (.int .i64 t895)) (fun _ hk=>hk.2) (.int .i64 t896)) (fun _ hk=>hk.2) (.slice Ao87 t897.length co87)) (fun _ h_=>h_.1))) hb);replace HO_858000:=am (Kd.jM (Y158) hb);replace HO871:=am (Kd.jM (Y159) hb);replace HO876:=am (Kd.jM (Y160) hb);replace HO880:=am (Kd.jM (by (with_reducible repeat (first | apply Kd.jK | apply Kd.jL | apply Kd.jH));exact (Kd.jD (Kd.jB (p:=⟨gb900,3,none⟩) (Kd.jB (p:=⟨gb900,2,none⟩) (Kd.jB (p:=⟨gb900,1,none⟩) (Kd.jB (p:=⟨gb900,0,none⟩) (Kd.jN HO880.out BK900.out (by decide)) (fun _ hk=>hk.2) (.slice Ao80 t892.length co80)) (fun _ hk=>hk.2) (.int .i64 t895)) (fun _ hk=>hk.2) (.int .i64 t896)) (fun _ hk=>hk.2) (.slice Ao87 t897.length co87)) (fun _ h_=>h_.1))) hb);replace HO885:=am (Kd.jM (by (with_reducible repeat (first | apply Kd.jK | apply Kd.jL | apply Kd.jH));exact (Kd.jD (Kd.jB (p:=⟨gb900,3,none⟩) (Kd.jB (p:=⟨gb900,2,none⟩) (Kd.jB (p:=⟨gb900,1,none⟩) (Kd.jB (p:=⟨gb900,0,none⟩) (Kd.jN HO885.out BK900.out (by decide)) (fun _ hk=>hk.2) (.slice Ao80 t892.length co80)) (fun _ hk=>hk.2) (.int .i64 t895)) (fun _ hk=>hk.2) (.int .i64 t896)) (fun _ hk=>hk.2) (.slice Ao87 t897.length co87)) (fun _ h_=>h_.1))) hb);replace HO894:=am (Kd.jM (by (with_reducible repeat (first | apply Kd.jK | apply Kd.jL | apply Kd.jH));exact (Kd.jD (Kd.jB (p:=⟨gb900,3,none⟩) (Kd.jB (p:=⟨gb900,2,none⟩) (Kd.jB (p:=⟨gb900,1,none⟩) (Kd.jB (p:=⟨gb900,0,none⟩) (Kd.jN HO894.out BK900.out (by decide)) (fun _ hk=>hk.2) (.slice Ao80 t892.length co80)) (fun _ hk=>hk.2) (.int .i64 t895)) (fun _ hk=>hk.2) (.int .i64 t896)) (fun _ hk=>hk.2) (.slice Ao87 t897.length co87)) (fun _ h_=>h_.1))) hb);replace HO899:=am (Kd.jM (by (with_reducible repeat (first | apply Kd.jK | apply Kd.jL | apply Kd.jH));exact (Kd.jD (Kd.jB (p:=⟨gb900,3,none⟩) (Kd.jB (p:=⟨gb900,2,none⟩) (Kd.jB (p:=⟨gb900,1,none⟩) (Kd.jB (p:=⟨gb900,0,none⟩) (Kd.jN HO899.out BK900.out (by decide)) (fun _ hk=>hk.2) (.slice Ao80 t892.length co80)) (fun _ hk=>hk.2) (.int .i64 t895)) (fun _ hk=>hk.2) (.int .i64 t896)) (fun _ hk=>hk.2) (.slice Ao87 t897.length co87)) (fun _ h_=>h_.1))) hb);replace BK857:=am (je (g:=gb857) (o:=.cells #[.slice Ao9 t848.length co9] 31 (0,0)) (by (with_reducible repeat (first | refine jb ?_ _ | refine jc ?_ | refine ja ?_ _));refine jr ?_ NB857_900.out _;(with_reducible repeat (first | refine jb ?_ _ | refine jc ?_ | refine ja ?_ _));refine jr ?_ NB857_900.out _;(with_reducible repeat (first | refine jb ?_ _ | refine jc ?_ | refine ja ?_ _));refine jr ?_ NB857_900.out _;(with_reducible repeat (first | refine jb ?_ _ | refine jc ?_ | refine ja ?_ _));refine jr ?_ NB857_900.out _;(with_reducible repeat (first | refine jb ?_ _ | refine jc ?_ | refine ja ?_ _));exact BK857.out) hb);replace BK868:=am (je (g:=gb868) (o:=.cells #[.bool x869000_32, .int .i64 x869001_32, .int .i64 x869002_32] 50 (0,0)) (by (with_reducible repeat (first | refine jb ?_ _ | refine jc ?_ | refine ja ?_ _));refine jr ?_ NB868_900.out _;(with_reducible repeat (first | refine jb ?_ _ | refine jc ?_ | refine ja ?_ _));refine jr ?_ NB868_900.out _;(with_reducible repeat (first | refine jb ?_ _ | refine jc ?_ | refine ja ?_ _));refine jr ?_ NB868_900.out _;(with_reducible repeat (first | refine jb ?_ _ | refine jc ?_ | refine ja ?_ _));refine jr ?_ NB868_900.out _;(with_reducible repeat (first | refine jb ?_ _ | refine jc ?_ | refine ja ?_ _));exact BK868.out) hb);replace BK877:=am (je (g:=gb877) (o:=.cells #[.slice Ao54 t869.length co54, .int .i64 t872, .int .i64 t873, .slice Ao58 t874.length co58] 55 (0,0)) (by (with_reducible repeat (first | refine jb ?_ _ | refine jc ?_ | refine ja ?_ _));refine jr ?_ NB877_900.out _;(with_reducible repeat (first | refine jb ?_ _ | refine jc ?_ | refine ja ?_ _));refine jr ?_ NB877_900.out _;(with_reducible repeat (first | refine jb ?_ _ | refine jc ?_ | refine ja ?_ _));refine jr ?_ NB877_900.out _;(with_reducible repeat (first | refine jb ?_ _ | refine jc ?_ | refine ja ?_ _));refine jr ?_ NB877_900.out _;(with_reducible repeat (first | refine jb ?_ _ | refine jc ?_ | refine ja ?_ _));exact BK877.out) hb);replace BK886:=am (je (g:=gb886) (o:=.cells #[.slice Ao63 t878.length co63, .int .i64 t881, .int .i64 t882, .slice Ao68 t883.length co68] 55 (0,0)) (by (with_reducible repeat (first | refine jb ?_ _ | refine jc ?_ | refine ja ?_ _));refine jr ?_ NB886_900.out _;(with_reducible repeat (first | refine jb ?_ _ | refine jc ?_ | refine ja ?_ _));refine jr ?_ NB886_900.out _;(with_reducible repeat (first | refine jb ?_ _ | refine jc ?_ | refine ja ?_ _));refine jr ?_ NB886_900.out _;(with_reducible repeat (first | refine jb ?_ _ | refine jc ?_ | refine ja ?_ _));refine jr ?_ NB886_900.out _;(with_reducible repeat (first | refine jb ?_ _ | refine jc ?_ | refine ja ?_ _));exact BK886.out) hb);replace BK891:=am (je (g:=gb891) (o:=.cells #[.bool t887, .int .i64 t888, .int .i64 t889] 50 (0,0)) (by (with_reducible repeat (first | refine jb ?_ _ | refine jc ?_ | refine ja ?_ _));refine jr ?_ NB891_900.out _;(with_reducible repeat (first | refine jb ?_ _ | refine jc ?_ | refine ja ?_ _));refine jr ?_ NB891_900.out _;(with_reducible repeat (first | refine jb ?_ _ | refine jc ?_ | refine ja ?_ _));refine jr ?_ NB891_900.out _;(with_reducible repeat (first | refine jb ?_ _ | refine jc ?_ | refine ja ?_ _));refine jr ?_ NB891_900.out _;(with_reducible repeat (first | refine jb ?_ _ | refine jc ?_ | refine ja ?_ _));exact BK891.out) hb);replace BK900:=am (je (g:=gb900) (o:=.cells #[.slice Ao80 t892.length co80, .int .i64 t895, .int .i64 t896, .slice Ao87 t897.length co87] 55 (0,0)) (by (with_reducible repeat (first | refine jb ?_ _ | refine jc ?_ | refine ja ?_ _));refine jO (cs:=#[.slice Ao80 t892.length co80, .int .i64 t895, .int .i64 t896, .slice none 0 0]) ?_ 3 _ rfl;(with_reducible repeat (first | refine jb ?_ _ | refine jc ?_ | refine ja ?_ _));refine jO (cs:=#[.slice Ao80 t892.length co80, .int .i64 t895, .int .i64 0, .slice none 0 0]) ?_ 2 _ rfl;(with_reducible repeat (first | refine jb ?_ _ | refine jc ?_ | refine ja ?_ _));refine jO (cs:=#[.slice Ao80 t892.length co80, .int .i64 0, .int .i64 0, .slice none 0 0]) ?_ 1 _ rfl;(with_reducible repeat (first | refine jb ?_ _ | refine jc ?_ | refine ja ?_ _));refine jO (cs:=#[.slice none 0 0, .int .i64 0, .int .i64 0, .slice none 0 0]) ?_ 0 _ rfl;(with_reducible repeat (first | refine jb ?_ _ | refine jc ?_ | refine ja ?_ _));exact BK900.out) hb);replace HB:=am (jk (Y161) hb);(try clear hb);(try clear hb2);(try clear hk);(try clear hi)) |((with_reducible refine jP (N:=17) rfl ?_);(try (refine jHa (by rfl) ?_;dsimp only));refine jOa ?hg (N:=17) ?hd (cs:=#[.bool false, .int .i64 0, .int .i64 0]) (t:=50) ?hr ?_;(case hd=>rfl);(case hg=>rfl);(case hr=>exact Y2);intro gb905 hg w91 hbox hb;have BK905:=am (hbox);have GW905:=am ((Y162:w.heap.size≤gb905));have GE905:=am ((Y162:w.heap.size≤gb905));have NB857_905:=am ((Y50:gb857≠gb905));have NB905_857:=am ((Y51:gb905≠gb857));have NB868_905:=am ((Y56:gb868≠gb905));have NB905_868:=am ((Y57:gb905≠gb868));have NB877_905:=am ((Y74:gb877≠gb905));have NB905_877:=am ((Y75:gb905≠gb877));have NB886_905:=am ((Y93:gb886≠gb905));have NB905_886:=am ((Y94:gb905≠gb886));have NB891_905:=am ((Y104:gb891≠gb905));have NB905_891:=am ((Y105:gb905≠gb891));have NB900_905:=am ((Y163:gb900≠gb905));have NB905_900:=am ((Y164:gb905≠gb900));replace HO_4:=am (Kd.jM (rq HO_4.out) hb);replace HO_5:=am (Kd.jM (rq HO_5.out) hb);replace HO_6:=am (Kd.jM (rq HO_6.out) hb);replace HO_858000:=am (Kd.jM (rq HO_858000.out) hb);replace HO871:=am (Kd.jM (rq HO871.out) hb);replace HO876:=am (Kd.jM (rq HO876.out) hb);replace HO880:=am (Kd.jM (rq HO880.out) hb);replace HO885:=am (Kd.jM (rq HO885.out) hb);replace HO894:=am (Kd.jM (rq HO894.out) hb);replace HO899:=am (Kd.jM (rq HO899.out) hb);replace BK857:=am (je (g:=gb857) (o:=.cells #[.slice Ao9 t848.length co9] 31 (0,0)) (kq BK857.out) hb);replace BK868:=am (je (g:=gb868) (o:=.cells #[.bool x869000_32, .int .i64 x869001_32, .int .i64 x869002_32] 50 (0,0)) (kq BK868.out) hb);replace BK877:=am (je (g:=gb877) (o:=.cells #[.slice Ao54 t869.length co54, .int .i64 t872, .int .i64 t873, .slice Ao58 t874.length co58] 55 (0,0)) (kq BK877.out) hb);replace BK886:=am (je (g:=gb886) (o:=.cells #[.slice Ao63 t878.length co63, .int .i64 t881, .int .i64 t882, .slice Ao68 t883.length co68] 55 (0,0)) (kq BK886.out) hb);replace BK891:=am (je (g:=gb891) (o:=.cells #[.bool t887, .int .i64 t888, .int .i64 t889] 50 (0,0)) (kq BK891.out) hb);replace BK900:=am (je (g:=gb900) (o:=.cells #[.slice Ao80 t892.length co80, .int .i64 t895, .int .i64 t896, .slice Ao87 t897.length co87] 55 (0,0)) (kq BK900.out) hb);replace HB:=am (jk (Y161) hb);clear hb hbox hg;have hnb92:=NB905_857.out;have hnc92:=NB857_905.out;have hnb93:=NB905_868.out;have hnc93:=NB868_905.out;have hnb94:=NB905_877.out;have hnc94:=NB877_905.out;have hnb95:=NB905_886.out;have hnc95:=NB886_905.out;have hnb96:=NB905_891.out;have hnc96:=NB891_905.out;have hnb97:=NB905_900.out;have hnc97:=NB900_905.out;have hcz98_0:=bc0 BK905.out;have hcz98_1:=bc1 BK905.out;have hcz98_2:=bc2 BK905.out;have hfz98_0:=jd BK905.out 0;have hfz98_1:=jd BK905.out 1;have hfz98_2:=jd BK905.out 2;have hcz99_0:=bc0 BK857.out;have hfz99_0:=jd BK857.out 0;have hcz100_0:=bc0 BK900.out;have hcz100_1:=bc1 BK900.out;have hcz100_2:=bc2 BK900.out;have hcz100_3:=bc3 BK900.out;have hfz100_0:=jd BK900.out 0;have hfz100_1:=jd BK900.out 1;have hfz100_2:=jd BK900.out 2;have hfz100_3:=jd BK900.out 3) |((with_reducible refine jy (f:=24) rfl ?_);refine gL (some 104) Try.func24 #[.agg #[.slice Ao9 t848.length co9], .agg #[.slice Ao80 t892.length co80, .int .i64 t895, .int .i64 t896, .slice Ao87 t897.length co87]] ?_;(with_reducible refine (jGa.calls kj32 _ _ t848 _ _ t892 t895 t896 _ _ t897 t906 t907 t908 t909 _ ?side1 ?side2 ?side3 ?side4 ?side5 ?side6 A46.out).mono ?_);(case side1=>refine (Kd.jE (e:=106) (base:=w.heap.size) (ok:=fun k_=>True) (n:=t848.length) (c:=co9) ?_).2.2;exact (Y165));(case side2=>exact (Kd.jE HO_858000.out).2.1);(case side3=>refine (Kd.jE (e:=3) (base:=w.heap.size) (ok:=fun k_=>((True∧some k_≠(.slice Ao54 t869.length co54:Value).ownBlock)∧some k_≠(.slice Ao63 t878.length co63:Value).ownBlock)) (n:=t892.length) (c:=co80) ?_).2.2;exact (Y166));(case side4=>exact (Kd.jE HO894.out).2.1);(case side5=>refine (Kd.jE (e:=90) (base:=w.heap.size) (ok:=fun k_=>((True∧some k_≠(.slice Ao58 t874.length co58:Value).ownBlock)∧some k_≠(.slice Ao68 t883.length co68:Value).ownBlock)) (n:=t897.length) (c:=co87) ?_).2.2;exact (Y167));(case side6=>exact (Kd.jE HO899.out).2.1);rintro e w101 ⟨rfl,hb⟩;refine ⟨_,rfl,?_⟩;replace HO_4:=am (Kd.jM (by (with_reducible repeat (first | apply Kd.jK | apply Kd.jL | apply Kd.jH));exact (Kd.jD (Kd.jB (p:=⟨gb905,2,none⟩) (Kd.jB (p:=⟨gb905,1,none⟩) (Kd.jB (p:=⟨gb905,0,none⟩) (Kd.jN HO_4.out BK905.out (by decide)) (fun _ hk=>hk.2) (.bool t901)) (fun _ hk=>hk.2) (.int .i64 t902)) (fun _ hk=>hk.2) (.int .i64 t903)) (fun _ h_=>h_.1))) hb);replace HO_5:=am (Kd.jM (by (with_reducible repeat (first | apply Kd.jK | apply Kd.jL | apply Kd.jH));exact (Kd.jD (Kd.jB (p:=⟨gb905,2,none⟩) (Kd.jB (p:=⟨gb905,1,none⟩) (Kd.jB (p:=⟨gb905,0,none⟩) (Kd.jN HO_5.out BK905.out (by decide)) (fun _ hk=>hk.2) (.bool t901)) (fun _ hk=>hk.2) (.int .i64 t902)) (fun _ hk=>hk.2) (.int .i64 t903)) (fun _ h_=>h_.1))) hb);replace HO_6:=am (Kd.jM (by (with_reducible repeat (first | apply Kd.jK | apply Kd.jL | apply Kd.jH));exact (Kd.jD (Kd.jB (p:=⟨gb905,2,none⟩) (Kd.jB (p:=⟨gb905,1,none⟩) (Kd.jB (p:=⟨gb905,0,none⟩) (Kd.jN HO_6.out BK905.out (by decide)) (fun _ hk=>hk.2) (.bool t901)) (fun _ hk=>hk.2) (.int .i64 t902)) (fun _ hk=>hk.2) (.int .i64 t903)) (fun _ h_=>h_.1))) hb);replace HO_858000:=am (Kd.jM (Y165) hb);replace HO871:=am (Kd.jM (by (with_reducible repeat (first | apply Kd.jK | apply Kd.jL | apply Kd.jH));exact (Kd.jD (Kd.jB (p:=⟨gb905,2,none⟩) (Kd.jB (p:=⟨gb905,1,none⟩) (Kd.jB (p:=⟨gb905,0,none⟩) (Kd.jN HO871.out BK905.out (by decide)) (fun _ hk=>hk.2) (.bool t901)) (fun _ hk=>hk.2) (.int .i64 t902)) (fun _ hk=>hk.2) (.int .i64 t903)) (fun _ h_=>h_.1))) hb);replace HO876:=am (Kd.jM (by (with_reducible repeat (first | apply Kd.jK | apply Kd.jL | apply Kd.jH));exact (Kd.jD (Kd.jB (p:=⟨gb905,2,none⟩) (Kd.jB (p:=⟨gb905,1,none⟩) (Kd.jB (p:=⟨gb905,0,none⟩) (Kd.jN HO876.out BK905.out (by decide)) (fun _ hk=>hk.2) (.bool t901)) (fun _ hk=>hk.2) (.int .i64 t902)) (fun _ hk=>hk.2) (.int .i64 t903)) (fun _ h_=>h_.1))) hb);replace HO880:=am (Kd.jM (by (with_reducible repeat (first | apply Kd.jK | apply Kd.jL | apply Kd.jH));exact (Kd.jD (Kd.jB (p:=⟨gb905,2,none⟩) (Kd.jB (p:=⟨gb905,1,none⟩) (Kd.jB (p:=⟨gb905,0,none⟩) (Kd.jN HO880.out BK905.out (by decide)) (fun _ hk=>hk.2) (.bool t901)) (fun _ hk=>hk.2) (.int .i64 t902)) (fun _ hk=>hk.2) (.int .i64 t903)) (fun _ h_=>h_.1))) hb);replace HO885:=am (Kd.jM (by (with_reducible repeat (first | apply Kd.jK | apply Kd.jL | apply Kd.jH));exact (Kd.jD (Kd.jB (p:=⟨gb905,2,none⟩) (Kd.jB (p:=⟨gb905,1,none⟩) (Kd.jB (p:=⟨gb905,0,none⟩) (Kd.jN HO885.out BK905.out (by decide)) (fun _ hk=>hk.2) (.bool t901)) (fun _ hk=>hk.2) (.int .i64 t902)) (fun _ hk=>hk.2) (.int .i64 t903)) (fun _ h_=>h_.1))) hb);replace HO894:=am (Kd.jM (Y166) hb);replace HO899:=am (Kd.jM (Y167) hb);replace BK857:=am (je (g:=gb857) (o:=.cells #[.slice Ao9 t848.length co9] 31 (0,0)) (by (with_reducible repeat (first | refine jb ?_ _ | refine jc ?_ | refine ja ?_ _));refine jr ?_ NB857_905.out _;(with_reducible repeat (first | refine jb ?_ _ | refine jc ?_ | refine ja ?_ _));refine jr ?_ NB857_905.out _;(with_reducible repeat (first | refine jb ?_ _ | refine jc ?_ | refine ja ?_ _));refine jr ?_ NB857_905.out _;(with_reducible repeat (first | refine jb ?_ _ | refine jc ?_ | refine ja ?_ _));exact BK857.out) hb);replace BK868:=am (je (g:=gb868) (o:=.cells #[.bool x869000_32, .int .i64 x869001_32, .int .i64 x869002_32] 50 (0,0)) (by (with_reducible repeat (first | refine jb ?_ _ | refine jc ?_ | refine ja ?_ _));refine jr ?_ NB868_905.out _;(with_reducible repeat (first | refine jb ?_ _ | refine jc ?_ | refine ja ?_ _));refine jr ?_ NB868_905.out _;(with_reducible repeat (first | refine jb ?_ _ | refine jc ?_ | refine ja ?_ _));refine jr ?_ NB868_905.out _;(with_reducible repeat (first | refine jb ?_ _ | refine jc ?_ | refine ja ?_ _));exact BK868.out) hb);replace BK877:=am (je (g:=gb877) (o:=.cells #[.slice Ao54 t869.length co54, .int .i64 t872, .int .i64 t873, .slice Ao58 t874.length co58] 55 (0,0)) (by (with_reducible repeat (first | refine jb ?_ _ | refine jc ?_ | refine ja ?_ _));refine jr ?_ NB877_905.out _;(with_reducible repeat (first | refine jb ?_ _ | refine jc ?_ | refine ja ?_ _));refine jr ?_ NB877_905.out _;(with_reducible repeat (first | refine jb ?_ _ | refine jc ?_ | refine ja ?_ _));refine jr ?_ NB877_905.out _;(with_reducible repeat (first | refine jb ?_ _ | refine jc ?_ | refine ja ?_ _));exact BK877.out) hb);replace BK886:=am (je (g:=gb886) (o:=.cells #[.slice Ao63 t878.length co63, .int .i64 t881, .int .i64 t882, .slice Ao68 t883.length co68] 55 (0,0)) (by (with_reducible repeat (first | refine jb ?_ _ | refine jc ?_ | refine ja ?_ _));refine jr ?_ NB886_905.out _;(with_reducible repeat (first | refine jb ?_ _ | refine jc ?_ | refine ja ?_ _));refine jr ?_ NB886_905.out _;(with_reducible repeat (first | refine jb ?_ _ | refine jc ?_ | refine ja ?_ _));refine jr ?_ NB886_905.out _;(with_reducible repeat (first | refine jb ?_ _ | refine jc ?_ | refine ja ?_ _));exact BK886.out) hb);replace BK891:=am (je (g:=gb891) (o:=.cells #[.bool t887, .int .i64 t888, .int .i64 t889] 50 (0,0)) (by (with_reducible repeat (first | refine jb ?_ _ | refine jc ?_ | refine ja ?_ _));refine jr ?_ NB891_905.out _;(with_reducible repeat (first | refine jb ?_ _ | refine jc ?_ | refine ja ?_ _));refine jr ?_ NB891_905.out _;(with_reducible repeat (first | refine jb ?_ _ | refine jc ?_ | refine ja ?_ _));refine jr ?_ NB891_905.out _;(with_reducible repeat (first | refine jb ?_ _ | refine jc ?_ | refine ja ?_ _));exact BK891.out) hb);replace BK900:=am (je (g:=gb900) (o:=.cells #[.slice Ao80 t892.length co80, .int .i64 t895, .int .i64 t896, .slice Ao87 t897.length co87] 55 (0,0)) (by (with_reducible repeat (first | refine jb ?_ _ | refine jc ?_ | refine ja ?_ _));refine jr ?_ NB900_905.out _;(with_reducible repeat (first | refine jb ?_ _ | refine jc ?_ | refine ja ?_ _));refine jr ?_ NB900_905.out _;(with_reducible repeat (first | refine jb ?_ _ | refine jc ?_ | refine ja ?_ _));refine jr ?_ NB900_905.out _;(with_reducible repeat (first | refine jb ?_ _ | refine jc ?_ | refine ja ?_ _));exact BK900.out) hb);replace BK905:=am (je (g:=gb905) (o:=.cells #[.bool t901, .int .i64 t902, .int .i64 t903] 50 (0,0)) (by (with_reducible repeat (first | refine jb ?_ _ | refine jc ?_ | refine ja ?_ _));refine jO (cs:=#[.bool t901, .int .i64 t902, .int .i64 0]) ?_ 2 _ rfl;(with_reducible repeat (first | refine jb ?_ _ | refine jc ?_ | refine ja ?_ _));refine jO (cs:=#[.bool t901, .int .i64 0, .int .i64 0]) ?_ 1 _ rfl;(with_reducible repeat (first | refine jb ?_ _ | refine jc ?_ | refine ja ?_ _));refine jO (cs:=#[.bool false, .int .i64 0, .int .i64 0]) ?_ 0 _ rfl;(with_reducible repeat (first | refine jb ?_ _ | refine jc ?_ | refine ja ?_ _));exact BK905.out) hb);replace HB:=am (jk (Y168) hb);(try clear hb);(try clear hb2);(try clear hk);(try clear hi)) |((with_reducible refine jP (N:=19) rfl ?_);(try (refine jHa (by rfl) ?_;dsimp only));refine jOa ?hg (N:=19) ?hd (cs:=#[.bool false, .int .i64 0, .int .i64 0]) (t:=50) ?hr ?_;(case hd=>rfl);(case hg=>rfl);(case hr=>exact Y2);intro gb910 hg w102 hbox hb;have BK910:=am (hbox);have GW910:=am ((Y169:w.heap.size≤gb910));have GE910:=am ((Y169:w.heap.size≤gb910));have NB857_910:=am ((Y50:gb857≠gb910));have NB910_857:=am ((Y51:gb910≠gb857));have NB868_910:=am ((Y56:gb868≠gb910));have NB910_868:=am ((Y57:gb910≠gb868));have NB877_910:=am ((Y74:gb877≠gb910));have NB910_877:=am ((Y75:gb910≠gb877));have NB886_910:=am ((Y93:gb886≠gb910));have NB910_886:=am ((Y94:gb910≠gb886));have NB891_910:=am ((Y104:gb891≠gb910));have NB910_891:=am ((Y105:gb910≠gb891));have NB900_910:=am ((Y163:gb900≠gb910));have NB910_900:=am ((Y164:gb910≠gb900));have NB905_910:=am ((by rw [hg];exact Nat.ne_of_lt (jta (g:=gb905) (o:=.cells #[.bool t901, .int .i64 t902, .int .i64 t903] 50 (0,0)) (kq BK905.out)):gb905≠gb910));have NB910_905:=am ((by rw [hg];exact Nat.ne_of_gt (jta (g:=gb905) (o:=.cells #[.bool t901, .int .i64 t902, .int .i64 t903] 50 (0,0)) (kq BK905.out)):gb910≠gb905));replace HO_4:=am (Kd.jM (rq HO_4.out) hb);replace HO_5:=am (Kd.jM (rq HO_5.out) hb);replace HO_6:=am (Kd.jM (rq HO_6.out) hb);replace HO_858000:=am (Kd.jM (rq HO_858000.out) hb);replace HO871:=am (Kd.jM (rq HO871.out) hb);replace HO876:=am (Kd.jM (rq HO876.out) hb);replace HO880:=am (Kd.jM (rq HO880.out) hb);replace HO885:=am (Kd.jM (rq HO885.out) hb);replace HO894:=am (Kd.jM (rq HO894.out) hb);replace HO899:=am (Kd.jM (rq HO899.out) hb);replace BK857:=am (je (g:=gb857) (o:=.cells #[.slice Ao9 t848.length co9] 31 (0,0)) (kq BK857.out) hb);replace BK868:=am (je (g:=gb868) (o:=.cells #[.bool x869000_32, .int .i64 x869001_32, .int .i64 x869002_32] 50 (0,0)) (kq BK868.out) hb);replace BK877:=am (je (g:=gb877) (o:=.cells #[.slice Ao54 t869.length co54, .int .i64 t872, .int .i64 t873, .slice Ao58 t874.length co58] 55 (0,0)) (kq BK877.out) hb);replace BK886:=am (je (g:=gb886) (o:=.cells #[.slice Ao63 t878.length co63, .int .i64 t881, .int .i64 t882, .slice Ao68 t883.length co68] 55 (0,0)) (kq BK886.out) hb);replace BK891:=am (je (g:=gb891) (o:=.cells #[.bool t887, .int .i64 t888, .int .i64 t889] 50 (0,0)) (kq BK891.out) hb);replace BK900:=am (je (g:=gb900) (o:=.cells #[.slice Ao80 t892.length co80, .int .i64 t895, .int .i64 t896, .slice Ao87 t897.length co87] 55 (0,0)) (kq BK900.out) hb);replace BK905:=am (je (g:=gb905) (o:=.cells #[.bool t901, .int .i64 t902, .int .i64 t903] 50 (0,0)) (kq BK905.out) hb);replace HB:=am (jk (Y168) hb);clear hb hbox hg;have hnb103:=NB910_857.out;have hnc103:=NB857_910.out;have hnb104:=NB910_868.out;have hnc104:=NB868_910.out;have hnb105:=NB910_877.out;have hnc105:=NB877_910.out;have hnb106:=NB910_886.out;have hnc106:=NB886_910.out;have hnb107:=NB910_891.out;have hnc107:=NB891_910.out;have hnb108:=NB910_900.out;have hnc108:=NB900_910.out;have hnb109:=NB910_905.out;have hnc109:=NB905_910.out;have hcz110_0:=bc0 BK910.out;have hcz110_1:=bc1 BK910.out;have hcz110_2:=bc2 BK910.out;have hfz110_0:=jd BK910.out 0;have hfz110_1:=jd BK910.out 1;have hfz110_2:=jd BK910.out 2))
          (try simp only [Act.put,List.setIfInBounds_toArray,List.set_cons_zero,List.set_cons_succ])
          go_cut [134] (fun v134 wc=>∃ (kq:Nat) (x134_46:Bool),v134=.bool x134_46∧jv (jf.j3 kq t851 t854 t858 x10_2 x134_46 t848=some r)∧jv (kq≤kj32)∧jv (Kd.R k44 44 wc w.heap.size (fun k_=>some k_≠((.slice Ao14 t854.length co14):Value).ownBlock∧some k_≠((.slice Ao51 t858.length co51):Value).ownBlock) (.slice Ao13 t851.length co13) t851)∧jv (Kd.R k44 44 wc w.heap.size (fun k_=>some k_≠((.slice Ao13 t851.length co13):Value).ownBlock∧some k_≠((.slice Ao51 t858.length co51):Value).ownBlock) (.slice Ao14 t854.length co14) t854)∧jv (Kd.R k44 44 wc w.heap.size (fun k_=>some k_≠((.slice Ao13 t851.length co13):Value).ownBlock∧some k_≠((.slice Ao14 t854.length co14):Value).ownBlock) (.slice Ao51 t858.length co51) t858)∧jv (Kd.R k106 106 wc w.heap.size (fun _=>True) (.slice Ao9 t848.length co9) t848)∧jv (Kd.R (Kd.int .i64) 3 wc w.heap.size (fun k_=>some k_≠((.slice Ao63 t878.length co63):Value).ownBlock∧some k_≠((.slice Ao80 t892.length co80):Value).ownBlock) (.slice Ao54 t869.length co54) t869)∧jv (Kd.R k90 90 wc w.heap.size (fun k_=>some k_≠((.slice Ao68 t883.length co68):Value).ownBlock∧some k_≠((.slice Ao87 t897.length co87):Value).ownBlock) (.slice Ao58 t874.length co58) t874)∧jv (Kd.R (Kd.int .i64) 3 wc w.heap.size (fun k_=>some k_≠((.slice Ao54 t869.length co54):Value).ownBlock∧some k_≠((.slice Ao80 t892.length co80):Value).ownBlock) (.slice Ao63 t878.length co63) t878)∧jv (Kd.R k90 90 wc w.heap.size (fun k_=>some k_≠((.slice Ao58 t874.length co58):Value).ownBlock∧some k_≠((.slice Ao87 t897.length co87):Value).ownBlock) (.slice Ao68 t883.length co68) t883)∧jv (Kd.R (Kd.int .i64) 3 wc w.heap.size (fun k_=>some k_≠((.slice Ao54 t869.length co54):Value).ownBlock∧some k_≠((.slice Ao63 t878.length co63):Value).ownBlock) (.slice Ao80 t892.length co80) t892)∧jv (Kd.R k90 90 wc w.heap.size (fun k_=>some k_≠((.slice Ao58 t874.length co58):Value).ownBlock∧some k_≠((.slice Ao68 t883.length co68):Value).ownBlock) (.slice Ao87 t897.length co87) t897)∧jv (wc.heap[gb857]?=some (.cells #[(.slice Ao9 t848.length co9)] 31 (0,0)))∧jv (wc.heap[gb868]?=some (.cells #[.bool x869000_32, .int .i64 x869001_32, .int .i64 x869002_32] 50 (0,0)))∧jv (wc.heap[gb877]?=some (.cells #[(.slice Ao54 t869.length co54), .int .i64 t872, .int .i64 t873,(.slice Ao58 t874.length co58)] 55 (0,0)))∧jv (wc.heap[gb886]?=some (.cells #[(.slice Ao63 t878.length co63), .int .i64 t881, .int .i64 t882,(.slice Ao68 t883.length co68)] 55 (0,0)))∧jv (wc.heap[gb891]?=some (.cells #[.bool t887, .int .i64 t888, .int .i64 t889] 50 (0,0)))∧jv (wc.heap[gb900]?=some (.cells #[(.slice Ao80 t892.length co80), .int .i64 t895, .int .i64 t896,(.slice Ao87 t897.length co87)] 55 (0,0)))∧jv (wc.heap[gb905]?=some (.cells #[.bool t901, .int .i64 t902, .int .i64 t903] 50 (0,0)))∧jv (wc.heap[gb910]?=some (.cells #[.bool t906, .int .i64 t907, .int .i64 t908] 50 (0,0)))∧jv (Below w.heap.size w wc))
          case first =>
           have H:=HC47.out
           clear HC47
           by_cases c111:t890=true
           ·subst c111
            have H1:(if t904=true then (if t909=true then (if (!(t901 == t906) ||(!(t902 == t907) ||(!(t903 == t908))))=true then (jf.j3 kj32 t851 t854 t858 x10_2 true t848) else ((some (([]:List Int):List Int)).bind fun y911=>(if y911.length+t878.length<17592186044416 then ((some (y911 ++ t878:List Int)).bind fun y914=>(if y914.length+t892.length<17592186044416 then ((jma.f kj32 t869 (y914 ++ t892)).bind fun t920=>(jf.j3 kj32 t851 t854 t858 x10_2 (!t920) t848)) else (none))) else (none)))) else (jf.j3 kj32 t851 t854 t858 x10_2 true t848)) else (jf.j3 kj32 t851 t854 t858 x10_2 true t848))=some r:=by rw [if_pos rfl] at H;exact H
            clear H
            have H:=H1
            clear H1
            by_cases c112:t904=true
            ·subst c112
             have H1:(if t909=true then (if (!(t901 == t906) ||(!(t902 == t907) ||(!(t903 == t908))))=true then (jf.j3 kj32 t851 t854 t858 x10_2 true t848) else ((some (([]:List Int):List Int)).bind fun y911=>(if y911.length+t878.length<17592186044416 then ((some (y911 ++ t878:List Int)).bind fun y914=>(if y914.length+t892.length<17592186044416 then ((jma.f kj32 t869 (y914 ++ t892)).bind fun t920=>(jf.j3 kj32 t851 t854 t858 x10_2 (!t920) t848)) else (none))) else (none)))) else (jf.j3 kj32 t851 t854 t858 x10_2 true t848))=some r:=by rw [if_pos rfl] at H;exact H
             clear H
             have H:=H1
             clear H1
             by_cases c113:t909=true
             ·subst c113
              have H1:(if (!(t901 == t906) ||(!(t902 == t907) ||(!(t903 == t908))))=true then (jf.j3 kj32 t851 t854 t858 x10_2 true t848) else ((some (([]:List Int):List Int)).bind fun y911=>(if y911.length+t878.length<17592186044416 then ((some (y911 ++ t878:List Int)).bind fun y914=>(if y914.length+t892.length<17592186044416 then ((jma.f kj32 t869 (y914 ++ t892)).bind fun t920=>(jf.j3 kj32 t851 t854 t858 x10_2 (!t920) t848)) else (none))) else (none))))=some r:=by rw [if_pos rfl] at H;exact H
              clear H
              have H:=H1
              clear H1
              by_cases c114:(!(t901 == t906) ||(!(t902 == t907) ||(!(t903 == t908))))=true
              ·rw [if_pos c114] at H
               have c114b0:(!(t901 == t906) ||(!(t902 == t907) ||(!(t903 == t908))))=true:=c114
               clear c114
               (first | rw [c114b0] |(simp only [jyb,jBb];rw [c114b0]) | skip)
               have H':=am H
               clear H
               try go_wp2
               have n0_:jv (Kd.R k44 44 (((w102.setCell ⟨gb910,0,none⟩ (.bool t906)).setCell ⟨gb910,1,none⟩ (.int .i64 t907)).setCell ⟨gb910,2,none⟩ (.int .i64 t908)) w.heap.size (fun k_=>some k_≠(.slice Ao14 t854.length co14:Value).ownBlock∧some k_≠(.slice Ao51 t858.length co51:Value).ownBlock) (.slice Ao13 t851.length co13) t851):=⟨by (with_reducible repeat (first | apply Kd.jK | apply Kd.jL | apply Kd.jH));exact Kd.jD (Kd.jB (p:=⟨gb910,2,none⟩) (Kd.jB (p:=⟨gb910,1,none⟩) (Kd.jB (p:=⟨gb910,0,none⟩) (Kd.jN HO_4.out BK910.out (by decide)) (fun _ hk=>hk.2) (.bool t906)) (fun _ hk=>hk.2) (.int .i64 t907)) (fun _ hk=>hk.2) (.int .i64 t908)) (fun _ hk=>⟨hk.1.1,hk.1.2⟩)⟩
               have n1_:jv (Kd.R k44 44 (((w102.setCell ⟨gb910,0,none⟩ (.bool t906)).setCell ⟨gb910,1,none⟩ (.int .i64 t907)).setCell ⟨gb910,2,none⟩ (.int .i64 t908)) w.heap.size (fun k_=>some k_≠(.slice Ao13 t851.length co13:Value).ownBlock∧some k_≠(.slice Ao51 t858.length co51:Value).ownBlock) (.slice Ao14 t854.length co14) t854):=⟨by (with_reducible repeat (first | apply Kd.jK | apply Kd.jL | apply Kd.jH));exact Kd.jD (Kd.jB (p:=⟨gb910,2,none⟩) (Kd.jB (p:=⟨gb910,1,none⟩) (Kd.jB (p:=⟨gb910,0,none⟩) (Kd.jN HO_5.out BK910.out (by decide)) (fun _ hk=>hk.2) (.bool t906)) (fun _ hk=>hk.2) (.int .i64 t907)) (fun _ hk=>hk.2) (.int .i64 t908)) (fun _ hk=>⟨hk.1.1,hk.1.2⟩)⟩
               have n2_:jv (Kd.R k44 44 (((w102.setCell ⟨gb910,0,none⟩ (.bool t906)).setCell ⟨gb910,1,none⟩ (.int .i64 t907)).setCell ⟨gb910,2,none⟩ (.int .i64 t908)) w.heap.size (fun k_=>some k_≠(.slice Ao13 t851.length co13:Value).ownBlock∧some k_≠(.slice Ao14 t854.length co14:Value).ownBlock) (.slice Ao51 t858.length co51) t858):=⟨by (with_reducible repeat (first | apply Kd.jK | apply Kd.jL | apply Kd.jH));exact Kd.jD (Kd.jB (p:=⟨gb910,2,none⟩) (Kd.jB (p:=⟨gb910,1,none⟩) (Kd.jB (p:=⟨gb910,0,none⟩) (Kd.jN HO_6.out BK910.out (by decide)) (fun _ hk=>hk.2) (.bool t906)) (fun _ hk=>hk.2) (.int .i64 t907)) (fun _ hk=>hk.2) (.int .i64 t908)) (fun _ hk=>⟨hk.1.1,hk.1.2⟩)⟩
               have n3_:jv (Kd.R k106 106 (((w102.setCell ⟨gb910,0,none⟩ (.bool t906)).setCell ⟨gb910,1,none⟩ (.int .i64 t907)).setCell ⟨gb910,2,none⟩ (.int .i64 t908)) w.heap.size (fun _=>True) (.slice Ao9 t848.length co9) t848):=⟨by (with_reducible repeat (first | apply Kd.jK | apply Kd.jL | apply Kd.jH));exact Kd.jD (Kd.jB (p:=⟨gb910,2,none⟩) (Kd.jB (p:=⟨gb910,1,none⟩) (Kd.jB (p:=⟨gb910,0,none⟩) (Kd.jN HO_858000.out BK910.out (by decide)) (fun _ hk=>hk.2) (.bool t906)) (fun _ hk=>hk.2) (.int .i64 t907)) (fun _ hk=>hk.2) (.int .i64 t908)) (fun _ hk=>trivial)⟩
               have n4_:jv (Kd.R (Kd.int .i64) 3 (((w102.setCell ⟨gb910,0,none⟩ (.bool t906)).setCell ⟨gb910,1,none⟩ (.int .i64 t907)).setCell ⟨gb910,2,none⟩ (.int .i64 t908)) w.heap.size (fun k_=>some k_≠(.slice Ao63 t878.length co63:Value).ownBlock∧some k_≠(.slice Ao80 t892.length co80:Value).ownBlock) (.slice Ao54 t869.length co54) t869):=⟨by (with_reducible repeat (first | apply Kd.jK | apply Kd.jL | apply Kd.jH));exact Kd.jD (Kd.jB (p:=⟨gb910,2,none⟩) (Kd.jB (p:=⟨gb910,1,none⟩) (Kd.jB (p:=⟨gb910,0,none⟩) (Kd.jN HO871.out BK910.out (by decide)) (fun _ hk=>hk.2) (.bool t906)) (fun _ hk=>hk.2) (.int .i64 t907)) (fun _ hk=>hk.2) (.int .i64 t908)) (fun _ hk=>⟨hk.1.1.2,hk.1.2⟩)⟩
               have n5_:jv (Kd.R k90 90 (((w102.setCell ⟨gb910,0,none⟩ (.bool t906)).setCell ⟨gb910,1,none⟩ (.int .i64 t907)).setCell ⟨gb910,2,none⟩ (.int .i64 t908)) w.heap.size (fun k_=>some k_≠(.slice Ao68 t883.length co68:Value).ownBlock∧some k_≠(.slice Ao87 t897.length co87:Value).ownBlock) (.slice Ao58 t874.length co58) t874):=⟨by (with_reducible repeat (first | apply Kd.jK | apply Kd.jL | apply Kd.jH));exact Kd.jD (Kd.jB (p:=⟨gb910,2,none⟩) (Kd.jB (p:=⟨gb910,1,none⟩) (Kd.jB (p:=⟨gb910,0,none⟩) (Kd.jN HO876.out BK910.out (by decide)) (fun _ hk=>hk.2) (.bool t906)) (fun _ hk=>hk.2) (.int .i64 t907)) (fun _ hk=>hk.2) (.int .i64 t908)) (fun _ hk=>⟨hk.1.1.2,hk.1.2⟩)⟩
               have n6_:jv (Kd.R (Kd.int .i64) 3 (((w102.setCell ⟨gb910,0,none⟩ (.bool t906)).setCell ⟨gb910,1,none⟩ (.int .i64 t907)).setCell ⟨gb910,2,none⟩ (.int .i64 t908)) w.heap.size (fun k_=>some k_≠(.slice Ao54 t869.length co54:Value).ownBlock∧some k_≠(.slice Ao80 t892.length co80:Value).ownBlock) (.slice Ao63 t878.length co63) t878):=⟨by (with_reducible repeat (first | apply Kd.jK | apply Kd.jL | apply Kd.jH));exact Kd.jD (Kd.jB (p:=⟨gb910,2,none⟩) (Kd.jB (p:=⟨gb910,1,none⟩) (Kd.jB (p:=⟨gb910,0,none⟩) (Kd.jN HO880.out BK910.out (by decide)) (fun _ hk=>hk.2) (.bool t906)) (fun _ hk=>hk.2) (.int .i64 t907)) (fun _ hk=>hk.2) (.int .i64 t908)) (fun _ hk=>⟨hk.1.1.2,hk.1.2⟩)⟩
               have n7_:jv (Kd.R k90 90 (((w102.setCell ⟨gb910,0,none⟩ (.bool t906)).setCell ⟨gb910,1,none⟩ (.int .i64 t907)).setCell ⟨gb910,2,none⟩ (.int .i64 t908)) w.heap.size (fun k_=>some k_≠(.slice Ao58 t874.length co58:Value).ownBlock∧some k_≠(.slice Ao87 t897.length co87:Value).ownBlock) (.slice Ao68 t883.length co68) t883):=⟨by (with_reducible repeat (first | apply Kd.jK | apply Kd.jL | apply Kd.jH));exact Kd.jD (Kd.jB (p:=⟨gb910,2,none⟩) (Kd.jB (p:=⟨gb910,1,none⟩) (Kd.jB (p:=⟨gb910,0,none⟩) (Kd.jN HO885.out BK910.out (by decide)) (fun _ hk=>hk.2) (.bool t906)) (fun _ hk=>hk.2) (.int .i64 t907)) (fun _ hk=>hk.2) (.int .i64 t908)) (fun _ hk=>⟨hk.1.1.2,hk.1.2⟩)⟩
               have n8_:jv (Kd.R (Kd.int .i64) 3 (((w102.setCell ⟨gb910,0,none⟩ (.bool t906)).setCell ⟨gb910,1,none⟩ (.int .i64 t907)).setCell ⟨gb910,2,none⟩ (.int .i64 t908)) w.heap.size (fun k_=>some k_≠(.slice Ao54 t869.length co54:Value).ownBlock∧some k_≠(.slice Ao63 t878.length co63:Value).ownBlock) (.slice Ao80 t892.length co80) t892):=⟨by (with_reducible repeat (first | apply Kd.jK | apply Kd.jL | apply Kd.jH));exact Kd.jD (Kd.jB (p:=⟨gb910,2,none⟩) (Kd.jB (p:=⟨gb910,1,none⟩) (Kd.jB (p:=⟨gb910,0,none⟩) (Kd.jN HO894.out BK910.out (by decide)) (fun _ hk=>hk.2) (.bool t906)) (fun _ hk=>hk.2) (.int .i64 t907)) (fun _ hk=>hk.2) (.int .i64 t908)) (fun _ hk=>⟨hk.1.1.2,hk.1.2⟩)⟩
               have n9_:jv (Kd.R k90 90 (((w102.setCell ⟨gb910,0,none⟩ (.bool t906)).setCell ⟨gb910,1,none⟩ (.int .i64 t907)).setCell ⟨gb910,2,none⟩ (.int .i64 t908)) w.heap.size (fun k_=>some k_≠(.slice Ao58 t874.length co58:Value).ownBlock∧some k_≠(.slice Ao68 t883.length co68:Value).ownBlock) (.slice Ao87 t897.length co87) t897):=⟨by (with_reducible repeat (first | apply Kd.jK | apply Kd.jL | apply Kd.jH));exact Kd.jD (Kd.jB (p:=⟨gb910,2,none⟩) (Kd.jB (p:=⟨gb910,1,none⟩) (Kd.jB (p:=⟨gb910,0,none⟩) (Kd.jN HO899.out BK910.out (by decide)) (fun _ hk=>hk.2) (.bool t906)) (fun _ hk=>hk.2) (.int .i64 t907)) (fun _ hk=>hk.2) (.int .i64 t908)) (fun _ hk=>⟨hk.1.1.2,hk.1.2⟩)⟩
               have n10_:jv ((((w102.setCell ⟨gb910,0,none⟩ (.bool t906)).setCell ⟨gb910,1,none⟩ (.int .i64 t907)).setCell ⟨gb910,2,none⟩ (.int .i64 t908)).heap[gb857]?=some (.cells #[.slice Ao9 t848.length co9] 31 (0,0))):=⟨by (with_reducible repeat (first | refine jb ?_ _ | refine jc ?_ | refine ja ?_ _));refine jr ?_ NB857_910.out _;(with_reducible repeat (first | refine jb ?_ _ | refine jc ?_ | refine ja ?_ _));refine jr ?_ NB857_910.out _;(with_reducible repeat (first | refine jb ?_ _ | refine jc ?_ | refine ja ?_ _));refine jr ?_ NB857_910.out _;(with_reducible repeat (first | refine jb ?_ _ | refine jc ?_ | refine ja ?_ _));exact BK857.out⟩
               have n11_:jv ((((w102.setCell ⟨gb910,0,none⟩ (.bool t906)).setCell ⟨gb910,1,none⟩ (.int .i64 t907)).setCell ⟨gb910,2,none⟩ (.int .i64 t908)).heap[gb868]?=some (.cells #[.bool x869000_32, .int .i64 x869001_32, .int .i64 x869002_32] 50 (0,0))):=⟨by (with_reducible repeat (first | refine jb ?_ _ | refine jc ?_ | refine ja ?_ _));refine jr ?_ NB868_910.out _;(with_reducible repeat (first | refine jb ?_ _ | refine jc ?_ | refine ja ?_ _));refine jr ?_ NB868_910.out _;(with_reducible repeat (first | refine jb ?_ _ | refine jc ?_ | refine ja ?_ _));refine jr ?_ NB868_910.out _;(with_reducible repeat (first | refine jb ?_ _ | refine jc ?_ | refine ja ?_ _));exact BK868.out⟩
               have n12_:jv ((((w102.setCell ⟨gb910,0,none⟩ (.bool t906)).setCell ⟨gb910,1,none⟩ (.int .i64 t907)).setCell ⟨gb910,2,none⟩ (.int .i64 t908)).heap[gb877]?=some (.cells #[.slice Ao54 t869.length co54, .int .i64 t872, .int .i64 t873, .slice Ao58 t874.length co58] 55 (0,0))):=⟨by (with_reducible repeat (first | refine jb ?_ _ | refine jc ?_ | refine ja ?_ _));refine jr ?_ NB877_910.out _;(with_reducible repeat (first | refine jb ?_ _ | refine jc ?_ | refine ja ?_ _));refine jr ?_ NB877_910.out _;(with_reducible repeat (first | refine jb ?_ _ | refine jc ?_ | refine ja ?_ _));refine jr ?_ NB877_910.out _;(with_reducible repeat (first | refine jb ?_ _ | refine jc ?_ | refine ja ?_ _));exact BK877.out⟩
               have n13_:jv ((((w102.setCell ⟨gb910,0,none⟩ (.bool t906)).setCell ⟨gb910,1,none⟩ (.int .i64 t907)).setCell ⟨gb910,2,none⟩ (.int .i64 t908)).heap[gb886]?=some (.cells #[.slice Ao63 t878.length co63, .int .i64 t881, .int .i64 t882, .slice Ao68 t883.length co68] 55 (0,0))):=⟨by (with_reducible repeat (first | refine jb ?_ _ | refine jc ?_ | refine ja ?_ _));refine jr ?_ NB886_910.out _;(with_reducible repeat (first | refine jb ?_ _ | refine jc ?_ | refine ja ?_ _));refine jr ?_ NB886_910.out _;(with_reducible repeat (first | refine jb ?_ _ | refine jc ?_ | refine ja ?_ _));refine jr ?_ NB886_910.out _;(with_reducible repeat (first | refine jb ?_ _ | refine jc ?_ | refine ja ?_ _));exact BK886.out⟩
               have n14_:jv ((((w102.setCell ⟨gb910,0,none⟩ (.bool t906)).setCell ⟨gb910,1,none⟩ (.int .i64 t907)).setCell ⟨gb910,2,none⟩ (.int .i64 t908)).heap[gb891]?=some (.cells #[.bool t887, .int .i64 t888, .int .i64 t889] 50 (0,0))):=⟨by (with_reducible repeat (first | refine jb ?_ _ | refine jc ?_ | refine ja ?_ _));refine jr ?_ NB891_910.out _;(with_reducible repeat (first | refine jb ?_ _ | refine jc ?_ | refine ja ?_ _));refine jr ?_ NB891_910.out _;(with_reducible repeat (first | refine jb ?_ _ | refine jc ?_ | refine ja ?_ _));refine jr ?_ NB891_910.out _;(with_reducible repeat (first | refine jb ?_ _ | refine jc ?_ | refine ja ?_ _));exact BK891.out⟩
               have n15_:jv ((((w102.setCell ⟨gb910,0,none⟩ (.bool t906)).setCell ⟨gb910,1,none⟩ (.int .i64 t907)).setCell ⟨gb910,2,none⟩ (.int .i64 t908)).heap[gb900]?=some (.cells #[.slice Ao80 t892.length co80, .int .i64 t895, .int .i64 t896, .slice Ao87 t897.length co87] 55 (0,0))):=⟨by (with_reducible repeat (first | refine jb ?_ _ | refine jc ?_ | refine ja ?_ _));refine jr ?_ NB900_910.out _;(with_reducible repeat (first | refine jb ?_ _ | refine jc ?_ | refine ja ?_ _));refine jr ?_ NB900_910.out _;(with_reducible repeat (first | refine jb ?_ _ | refine jc ?_ | refine ja ?_ _));refine jr ?_ NB900_910.out _;(with_reducible repeat (first | refine jb ?_ _ | refine jc ?_ | refine ja ?_ _));exact BK900.out⟩
               have n16_:jv ((((w102.setCell ⟨gb910,0,none⟩ (.bool t906)).setCell ⟨gb910,1,none⟩ (.int .i64 t907)).setCell ⟨gb910,2,none⟩ (.int .i64 t908)).heap[gb905]?=some (.cells #[.bool t901, .int .i64 t902, .int .i64 t903] 50 (0,0))):=⟨by (with_reducible repeat (first | refine jb ?_ _ | refine jc ?_ | refine ja ?_ _));refine jr ?_ NB905_910.out _;(with_reducible repeat (first | refine jb ?_ _ | refine jc ?_ | refine ja ?_ _));refine jr ?_ NB905_910.out _;(with_reducible repeat (first | refine jb ?_ _ | refine jc ?_ | refine ja ?_ _));refine jr ?_ NB905_910.out _;(with_reducible repeat (first | refine jb ?_ _ | refine jc ?_ | refine ja ?_ _));exact BK905.out⟩
               have n17_:jv ((((w102.setCell ⟨gb910,0,none⟩ (.bool t906)).setCell ⟨gb910,1,none⟩ (.int .i64 t907)).setCell ⟨gb910,2,none⟩ (.int .i64 t908)).heap[gb910]?=some (.cells #[.bool t906, .int .i64 t907, .int .i64 t908] 50 (0,0))):=⟨by (with_reducible repeat (first | refine jb ?_ _ | refine jc ?_ | refine ja ?_ _));refine jO (cs:=#[.bool t906, .int .i64 t907, .int .i64 0]) ?_ 2 _ rfl;(with_reducible repeat (first | refine jb ?_ _ | refine jc ?_ | refine ja ?_ _));refine jO (cs:=#[.bool t906, .int .i64 0, .int .i64 0]) ?_ 1 _ rfl;(with_reducible repeat (first | refine jb ?_ _ | refine jc ?_ | refine ja ?_ _));refine jO (cs:=#[.bool false, .int .i64 0, .int .i64 0]) ?_ 0 _ rfl;(with_reducible repeat (first | refine jb ?_ _ | refine jc ?_ | refine ja ?_ _));exact BK910.out⟩
               have n18_:jv (Below w.heap.size w (((w102.setCell ⟨gb910,0,none⟩ (.bool t906)).setCell ⟨gb910,1,none⟩ (.int .i64 t907)).setCell ⟨gb910,2,none⟩ (.int .i64 t908))):=⟨Y15⟩
               (try clear HO_4)
               (try clear HO_5)
               (try clear HO_6)
               (try clear HO_858000)
               (try clear HO871)
               (try clear HO876)
               (try clear HO880)
               (try clear HO885)
               (try clear HO894)
               (try clear HO899)
               (try clear BK857)
               (try clear BK868)
               (try clear BK877)
               (try clear BK886)
               (try clear BK891)
               (try clear BK900)
               (try clear BK905)
               (try clear BK910)
               (try clear HB)
               generalize (((w102.setCell ⟨gb910,0,none⟩ (.bool t906)).setCell ⟨gb910,1,none⟩ (.int .i64 t907)).setCell ⟨gb910,2,none⟩ (.int .i64 t908))=w115 at n0_ n1_ n2_ n3_ n4_ n5_ n6_ n7_ n8_ n9_ n10_ n11_ n12_ n13_ n14_ n15_ n16_ n17_ n18_ ⊢
               have HO_4:=n0_
               have HO_5:=n1_
               have HO_6:=n2_
               have HO_858000:=n3_
               have HO871:=n4_
               have HO876:=n5_
               have HO880:=n6_
               have HO885:=n7_
               have HO894:=n8_
               have HO899:=n9_
               have BK857:=n10_
               have BK868:=n11_
               have BK877:=n12_
               have BK886:=n13_
               have BK891:=n14_
               have BK900:=n15_
               have BK905:=n16_
               have BK910:=n17_
               have HB:=n18_
               clear n0_ n1_ n2_ n3_ n4_ n5_ n6_ n7_ n8_ n9_ n10_ n11_ n12_ n13_ n14_ n15_ n16_ n17_ n18_
               replace HO_4:=am (Kd.jH HO_4.out)
               replace HO_5:=am (Kd.jH HO_5.out)
               replace HO_6:=am (Kd.jH HO_6.out)
               replace HO_858000:=am (Kd.jH HO_858000.out)
               replace HO871:=am (Kd.jH HO871.out)
               replace HO876:=am (Kd.jH HO876.out)
               replace HO880:=am (Kd.jH HO880.out)
               replace HO885:=am (Kd.jH HO885.out)
               replace HO894:=am (Kd.jH HO894.out)
               replace HO899:=am (Kd.jH HO899.out)
               replace BK857:=am (jc BK857.out)
               replace BK868:=am (jc BK868.out)
               replace BK877:=am (jc BK877.out)
               replace BK886:=am (jc BK886.out)
               replace BK891:=am (jc BK891.out)
               replace BK900:=am (jc BK900.out)
               replace BK905:=am (jc BK905.out)
               replace BK910:=am (jc BK910.out)
               replace HB:=am (jF HB.out)
               refine jkc (n:=28) (S:=fun w'=>w'.cell? ⟨gb905,0,none⟩=some (.bool t901)∧w'.cell? ⟨gb905,1,none⟩=some (.int .i64 t902)∧w'.cell? ⟨gb905,2,none⟩=some (.int .i64 t903)∧w'.cell? ⟨gb910,0,none⟩=some (.bool t906)∧w'.cell? ⟨gb910,1,none⟩=some (.int .i64 t907)∧w'.cell? ⟨gb910,2,none⟩=some (.int .i64 t908)) (ds:=[]) #[false,false,false,false,false,false,false,false,false,false,false,false,false,false,false,false,false,false,false,false,false,false,false,false,false,false,false,false] (by kernel_rfl) rfl rfl ⟨(jh BK905.out 0).trans rfl,(jh BK905.out 1).trans rfl,(jh BK905.out 2).trans rfl,(jh BK910.out 0).trans rfl,(jh BK910.out 1).trans rfl,(jh BK910.out 2).trans rfl⟩ (fun hHeld=>?_);refine jJb jf.tab20 jf.bits20 (fun HT_ HW_=>?_)
               generalize w115.drew=w116 at HO_4 HO_5 HO_6 HO_858000 HO871 HO876 HO880 HO885 HO894 HO899 BK857 BK868 BK877 BK886 BK891 BK900 BK905 BK910 HB hHeld ⊢
               refine pq (i:=0) (N:=some 107) #[true,false,false,false,false,false,false,false,false,false,false,false,false,false,false,false,false,false,false,false,false,false,false,false,false,false,false,false] ?_
               refine pq (i:=1) (N:=some 108) #[true,true,false,false,false,false,false,false,false,false,false,false,false,false,false,false,false,false,false,false,false,false,false,false,false,false,false,false] ?_
               refine pq (i:=2) (N:=some 109) #[true,true,true,false,false,false,false,false,false,false,false,false,false,false,false,false,false,false,false,false,false,false,false,false,false,false,false,false] ?_
               refine pq (i:=3) (N:=some 110) #[true,true,true,true,false,false,false,false,false,false,false,false,false,false,false,false,false,false,false,false,false,false,false,false,false,false,false,false] ?_
               refine pq (i:=4) (N:=some 111) #[true,true,true,true,true,false,false,false,false,false,false,false,false,false,false,false,false,false,false,false,false,false,false,false,false,false,false,false] ?_
               refine pq (i:=5) (N:=some 112) #[true,true,true,true,true,true,false,false,false,false,false,false,false,false,false,false,false,false,false,false,false,false,false,false,false,false,false,false] ?_
               refine pq (i:=6) (N:=some 113) #[true,true,true,true,true,true,true,false,false,false,false,false,false,false,false,false,false,false,false,false,false,false,false,false,false,false,false,false] ?_
               refine pq (i:=7) (N:=some 114) #[true,true,true,true,true,true,true,true,false,false,false,false,false,false,false,false,false,false,false,false,false,false,false,false,false,false,false,false] ?_
               refine pq (i:=8) (N:=some 115) #[true,true,true,true,true,true,true,true,true,false,false,false,false,false,false,false,false,false,false,false,false,false,false,false,false,false,false,false] ?_
               refine pq (i:=9) (N:=some 116) #[true,true,true,true,true,true,true,true,true,true,false,false,false,false,false,false,false,false,false,false,false,false,false,false,false,false,false,false] ?_
               refine pq (i:=10) (N:=some 117) #[true,true,true,true,true,true,true,true,true,true,true,false,false,false,false,false,false,false,false,false,false,false,false,false,false,false,false,false] ?_
               refine jYb (i:=11) (N:=some 118) (v:=?_) (a':=?_) #[true,true,true,true,true,true,true,true,true,true,true,true,false,false,false,false,false,false,false,false,false,false,false,false,false,false,false,false] rfl rfl (jvb HT_.out HW_.out (by kernel_rfl)) (fun _ _ _ h=>h) (Or.inl ⟨by rfl,?_⟩) hHeld ?_ ?_
               rotate_left
               ·rintro w' ⟨s0,s1,s2,s3,s4,s5⟩
                go_simp
                with_reducible rfl
               rotate_left
               ·exact sa
               refine jYb (i:=12) (N:=some 119) (v:=?_) (a':=?_) #[true,true,true,true,true,true,true,true,true,true,true,true,true,false,false,false,false,false,false,false,false,false,false,false,false,false,false,false] rfl rfl (jvb HT_.out HW_.out (by kernel_rfl)) (fun _ _ _ h=>h) (Or.inl ⟨by rfl,?_⟩) hHeld ?_ ?_
               rotate_left
               ·rintro w' ⟨s0,s1,s2,s3,s4,s5⟩
                go_simp
                with_reducible rfl
               rotate_left
               ·exact sa
               refine pq (i:=13) (N:=some 120) #[true,true,true,true,true,true,true,true,true,true,true,true,true,true,false,false,false,false,false,false,false,false,false,false,false,false,false,false] ?_
               refine pq (i:=14) (N:=some 121) #[true,true,true,true,true,true,true,true,true,true,true,true,true,true,true,false,false,false,false,false,false,false,false,false,false,false,false,false] ?_
               refine pq (i:=15) (N:=some 122) #[true,true,true,true,true,true,true,true,true,true,true,true,true,true,true,true,false,false,false,false,false,false,false,false,false,false,false,false] ?_
               refine jVa (i:=16) (N:=some 123) (v:=undef) (a':=?_) #[true,true,true,true,true,true,true,true,true,true,true,true,true,true,true,true,true,false,false,false,false,false,false,false,false,false,false,false] rfl rfl (jJa HT_.out (by kernel_rfl)) (fun _ _ _ h=>h) (Or.inr ⟨by rfl,rfl⟩) ?_ ?_
               rotate_left
               ·exact sa
               refine jVa (i:=17) (N:=some 124) (v:=undef) (a':=?_) #[true,true,true,true,true,true,true,true,true,true,true,true,true,true,true,true,true,true,false,false,false,false,false,false,false,false,false,false] rfl rfl (jJa HT_.out (by kernel_rfl)) (fun _ _ _ h=>h) (Or.inr ⟨by rfl,rfl⟩) ?_ ?_
               rotate_left
               ·exact sa
               refine jVa (i:=18) (N:=some 125) (v:=undef) (a':=?_) #[true,true,true,true,true,true,true,true,true,true,true,true,true,true,true,true,true,true,true,false,false,false,false,false,false,false,false,false] rfl rfl (jJa HT_.out (by kernel_rfl)) (fun _ _ _ h=>h) (Or.inr ⟨by rfl,rfl⟩) ?_ ?_
               rotate_left
               ·exact sa
               refine jVa (i:=19) (N:=some 126) (v:=undef) (a':=?_) #[true,true,true,true,true,true,true,true,true,true,true,true,true,true,true,true,true,true,true,true,false,false,false,false,false,false,false,false] rfl rfl (jJa HT_.out (by kernel_rfl)) (fun _ _ _ h=>h) (Or.inr ⟨by rfl,rfl⟩) ?_ ?_
               rotate_left
               ·exact sa
               refine jVa (i:=20) (N:=some 127) (v:=undef) (a':=?_) #[true,true,true,true,true,true,true,true,true,true,true,true,true,true,true,true,true,true,true,true,true,false,false,false,false,false,false,false] rfl rfl (jJa HT_.out (by kernel_rfl)) (fun _ _ _ h=>h) (Or.inr ⟨by rfl,rfl⟩) ?_ ?_
               rotate_left
               ·exact sa
               refine jVa (i:=21) (N:=some 128) (v:=undef) (a':=?_) #[true,true,true,true,true,true,true,true,true,true,true,true,true,true,true,true,true,true,true,true,true,true,false,false,false,false,false,false] rfl rfl (jJa HT_.out (by kernel_rfl)) (fun _ _ _ h=>h) (Or.inr ⟨by rfl,rfl⟩) ?_ ?_
               rotate_left
               ·exact sa
               refine jVa (i:=22) (N:=some 129) (v:=undef) (a':=?_) #[true,true,true,true,true,true,true,true,true,true,true,true,true,true,true,true,true,true,true,true,true,true,true,false,false,false,false,false] rfl rfl (jJa HT_.out (by kernel_rfl)) (fun _ _ _ h=>h) (Or.inr ⟨by rfl,rfl⟩) ?_ ?_
               rotate_left
               ·exact sa
               refine jVa (i:=23) (N:=some 130) (v:=undef) (a':=?_) #[true,true,true,true,true,true,true,true,true,true,true,true,true,true,true,true,true,true,true,true,true,true,true,true,false,false,false,false] rfl rfl (jJa HT_.out (by kernel_rfl)) (fun _ _ _ h=>h) (Or.inr ⟨by rfl,rfl⟩) ?_ ?_
               rotate_left
               ·exact sa
               refine jVa (i:=24) (N:=some 131) (v:=undef) (a':=?_) #[true,true,true,true,true,true,true,true,true,true,true,true,true,true,true,true,true,true,true,true,true,true,true,true,true,false,false,false] rfl rfl (jJa HT_.out (by kernel_rfl)) (fun _ _ _ h=>h) (Or.inr ⟨by rfl,rfl⟩) ?_ ?_
               rotate_left
               ·exact sa
               refine jVa (i:=25) (N:=some 132) (v:=undef) (a':=?_) #[true,true,true,true,true,true,true,true,true,true,true,true,true,true,true,true,true,true,true,true,true,true,true,true,true,true,false,false] rfl rfl (jJa HT_.out (by kernel_rfl)) (fun _ _ _ h=>h) (Or.inr ⟨by rfl,rfl⟩) ?_ ?_
               rotate_left
               ·exact sa
               refine jVa (i:=26) (N:=some 133) (v:=undef) (a':=?_) #[true,true,true,true,true,true,true,true,true,true,true,true,true,true,true,true,true,true,true,true,true,true,true,true,true,true,true,false] rfl rfl (jJa HT_.out (by kernel_rfl)) (fun _ _ _ h=>h) (Or.inr ⟨by rfl,rfl⟩) ?_ ?_
               rotate_left
               ·exact sa
               refine pq (i:=27) (N:=some 134) #[true,true,true,true,true,true,true,true,true,true,true,true,true,true,true,true,true,true,true,true,true,true,true,true,true,true,true,true] ?_
               refine done_ (jgc HT_.out (by kernel_rfl)) ?_
               try go_wp2
               go_meet
               case rel=>exact ⟨_,(true),(sq),H',⟨by have:=HJ5.out;have:=HK2.out;have:=HJ32.out;first | omega | exact Nat.le_refl _⟩,⟨rq HO_4.out⟩,⟨rq HO_5.out⟩,⟨rq HO_6.out⟩,⟨rq HO_858000.out⟩,⟨rq HO871.out⟩,⟨rq HO876.out⟩,⟨rq HO880.out⟩,⟨rq HO885.out⟩,⟨rq HO894.out⟩,⟨rq HO899.out⟩,⟨kq BK857.out⟩,⟨kq BK868.out⟩,⟨kq BK877.out⟩,⟨kq BK886.out⟩,⟨kq BK891.out⟩,⟨kq BK900.out⟩,⟨kq BK905.out⟩,⟨kq BK910.out⟩,⟨Y15⟩⟩
              ·rw [if_neg c114] at H
               have c114b0:(!(t901 == t906) ||(!(t902 == t907) ||(!(t903 == t908))))=false:=by simpa using c114
               clear c114
               (first | rw [c114b0] |(simp only [jyb,jBb];rw [c114b0]) | skip)
               obtain ⟨y911,hy911⟩:∃ y_:List Int,y_=(([]:List Int)):=⟨_,rfl⟩
               replace H:(if y911.length+t878.length<17592186044416 then ((some (y911 ++ t878:List Int)).bind fun y914=>(if y914.length+t892.length<17592186044416 then ((jma.f kj32 t869 (y914 ++ t892)).bind fun t920=>(jf.j3 kj32 t851 t854 t858 x10_2 (!t920) t848)) else (none))) else (none))=some r:=by first |(rw [hy911];with_reducible exact H) |(have H2_:=(Option.bind_some _ _).symm.trans H;rw [hy911];with_reducible exact H2_) |(have H2_:=(Option.bind_some _ _).symm.trans H;with_reducible exact H2_) | with_reducible exact H |(rw [hy911];exact H) | exact H
               have Ny911:=am hy911
               clear hy911
               by_cases c117:y911.length+t878.length<17592186044416
               ·rw [if_pos c117] at H
                have LMc117:=am c117
                clear c117
                obtain ⟨y914,hy914⟩:∃ y_:List Int,y_=(y911 ++ t878):=⟨_,rfl⟩
                replace H:(if y914.length+t892.length<17592186044416 then ((jma.f kj32 t869 (y914 ++ t892)).bind fun t920=>(jf.j3 kj32 t851 t854 t858 x10_2 (!t920) t848)) else (none))=some r:=by first |(rw [hy914];with_reducible exact H) |(have H2_:=(Option.bind_some _ _).symm.trans H;rw [hy914];with_reducible exact H2_) |(have H2_:=(Option.bind_some _ _).symm.trans H;with_reducible exact H2_) | with_reducible exact H |(rw [hy914];exact H) | exact H
                have Ny914:=am hy914
                clear hy914
                by_cases c118:y914.length+t892.length<17592186044416
                ·rw [if_pos c118] at H
                 have LMc118:=am c118
                 clear c118
                 obtain ⟨y917,hy917⟩:∃ y_:List Int,y_=(y914 ++ t892):=⟨_,rfl⟩
                 replace H:((jma.f kj32 t869 y917).bind fun t920=>(jf.j3 kj32 t851 t854 t858 x10_2 (!t920) t848))=some r:=by first |(rw [hy917];with_reducible exact H) |(have H2_:=(Option.bind_some _ _).symm.trans H;rw [hy917];with_reducible exact H2_) |(have H2_:=(Option.bind_some _ _).symm.trans H;with_reducible exact H2_) | with_reducible exact H |(rw [hy917];exact H) | exact H
                 have Ny917:=am hy917
                 clear hy917
                 replace H:=bzS H
                 obtain ⟨t920,A1190,H⟩:=H
                 replace H:(jf.j3 kj32 t851 t854 t858 x10_2 (!t920) t848)=some r:=H
                 have A119:=am A1190
                 clear A1190
                 have H':=am H
                 clear H
                 try go_wp2
                 have n0_:jv (Kd.R k44 44 (((w102.setCell ⟨gb910,0,none⟩ (.bool t906)).setCell ⟨gb910,1,none⟩ (.int .i64 t907)).setCell ⟨gb910,2,none⟩ (.int .i64 t908)) w.heap.size (fun k_=>some k_≠(.slice Ao14 t854.length co14:Value).ownBlock∧some k_≠(.slice Ao51 t858.length co51:Value).ownBlock) (.slice Ao13 t851.length co13) t851):=⟨by (with_reducible repeat (first | apply Kd.jK | apply Kd.jL | apply Kd.jH));exact Kd.jD (Kd.jB (p:=⟨gb910,2,none⟩) (Kd.jB (p:=⟨gb910,1,none⟩) (Kd.jB (p:=⟨gb910,0,none⟩) (Kd.jN HO_4.out BK910.out (by decide)) (fun _ hk=>hk.2) (.bool t906)) (fun _ hk=>hk.2) (.int .i64 t907)) (fun _ hk=>hk.2) (.int .i64 t908)) (fun _ hk=>⟨hk.1.1,hk.1.2⟩)⟩
                 have n1_:jv (Kd.R k44 44 (((w102.setCell ⟨gb910,0,none⟩ (.bool t906)).setCell ⟨gb910,1,none⟩ (.int .i64 t907)).setCell ⟨gb910,2,none⟩ (.int .i64 t908)) w.heap.size (fun k_=>some k_≠(.slice Ao13 t851.length co13:Value).ownBlock∧some k_≠(.slice Ao51 t858.length co51:Value).ownBlock) (.slice Ao14 t854.length co14) t854):=⟨by (with_reducible repeat (first | apply Kd.jK | apply Kd.jL | apply Kd.jH));exact Kd.jD (Kd.jB (p:=⟨gb910,2,none⟩) (Kd.jB (p:=⟨gb910,1,none⟩) (Kd.jB (p:=⟨gb910,0,none⟩) (Kd.jN HO_5.out BK910.out (by decide)) (fun _ hk=>hk.2) (.bool t906)) (fun _ hk=>hk.2) (.int .i64 t907)) (fun _ hk=>hk.2) (.int .i64 t908)) (fun _ hk=>⟨hk.1.1,hk.1.2⟩)⟩
                 have n2_:jv (Kd.R k44 44 (((w102.setCell ⟨gb910,0,none⟩ (.bool t906)).setCell ⟨gb910,1,none⟩ (.int .i64 t907)).setCell ⟨gb910,2,none⟩ (.int .i64 t908)) w.heap.size (fun k_=>some k_≠(.slice Ao13 t851.length co13:Value).ownBlock∧some k_≠(.slice Ao14 t854.length co14:Value).ownBlock) (.slice Ao51 t858.length co51) t858):=⟨by (with_reducible repeat (first | apply Kd.jK | apply Kd.jL | apply Kd.jH));exact Kd.jD (Kd.jB (p:=⟨gb910,2,none⟩) (Kd.jB (p:=⟨gb910,1,none⟩) (Kd.jB (p:=⟨gb910,0,none⟩) (Kd.jN HO_6.out BK910.out (by decide)) (fun _ hk=>hk.2) (.bool t906)) (fun _ hk=>hk.2) (.int .i64 t907)) (fun _ hk=>hk.2) (.int .i64 t908)) (fun _ hk=>⟨hk.1.1,hk.1.2⟩)⟩
                 have n3_:jv (Kd.R k106 106 (((w102.setCell ⟨gb910,0,none⟩ (.bool t906)).setCell ⟨gb910,1,none⟩ (.int .i64 t907)).setCell ⟨gb910,2,none⟩ (.int .i64 t908)) w.heap.size (fun _=>True) (.slice Ao9 t848.length co9) t848):=⟨by (with_reducible repeat (first | apply Kd.jK | apply Kd.jL | apply Kd.jH));exact Kd.jD (Kd.jB (p:=⟨gb910,2,none⟩) (Kd.jB (p:=⟨gb910,1,none⟩) (Kd.jB (p:=⟨gb910,0,none⟩) (Kd.jN HO_858000.out BK910.out (by decide)) (fun _ hk=>hk.2) (.bool t906)) (fun _ hk=>hk.2) (.int .i64 t907)) (fun _ hk=>hk.2) (.int .i64 t908)) (fun _ hk=>trivial)⟩
                 have n4_:jv (Kd.R (Kd.int .i64) 3 (((w102.setCell ⟨gb910,0,none⟩ (.bool t906)).setCell ⟨gb910,1,none⟩ (.int .i64 t907)).setCell ⟨gb910,2,none⟩ (.int .i64 t908)) w.heap.size (fun k_=>some k_≠(.slice Ao63 t878.length co63:Value).ownBlock∧some k_≠(.slice Ao80 t892.length co80:Value).ownBlock) (.slice Ao54 t869.length co54) t869):=⟨by (with_reducible repeat (first | apply Kd.jK | apply Kd.jL | apply Kd.jH));exact Kd.jD (Kd.jB (p:=⟨gb910,2,none⟩) (Kd.jB (p:=⟨gb910,1,none⟩) (Kd.jB (p:=⟨gb910,0,none⟩) (Kd.jN HO871.out BK910.out (by decide)) (fun _ hk=>hk.2) (.bool t906)) (fun _ hk=>hk.2) (.int .i64 t907)) (fun _ hk=>hk.2) (.int .i64 t908)) (fun _ hk=>⟨hk.1.1.2,hk.1.2⟩)⟩
                 have n5_:jv (Kd.R k90 90 (((w102.setCell ⟨gb910,0,none⟩ (.bool t906)).setCell ⟨gb910,1,none⟩ (.int .i64 t907)).setCell ⟨gb910,2,none⟩ (.int .i64 t908)) w.heap.size (fun k_=>some k_≠(.slice Ao68 t883.length co68:Value).ownBlock∧some k_≠(.slice Ao87 t897.length co87:Value).ownBlock) (.slice Ao58 t874.length co58) t874):=⟨by (with_reducible repeat (first | apply Kd.jK | apply Kd.jL | apply Kd.jH));exact Kd.jD (Kd.jB (p:=⟨gb910,2,none⟩) (Kd.jB (p:=⟨gb910,1,none⟩) (Kd.jB (p:=⟨gb910,0,none⟩) (Kd.jN HO876.out BK910.out (by decide)) (fun _ hk=>hk.2) (.bool t906)) (fun _ hk=>hk.2) (.int .i64 t907)) (fun _ hk=>hk.2) (.int .i64 t908)) (fun _ hk=>⟨hk.1.1.2,hk.1.2⟩)⟩
                 have n6_:jv (Kd.R (Kd.int .i64) 3 (((w102.setCell ⟨gb910,0,none⟩ (.bool t906)).setCell ⟨gb910,1,none⟩ (.int .i64 t907)).setCell ⟨gb910,2,none⟩ (.int .i64 t908)) w.heap.size (fun k_=>some k_≠(.slice Ao54 t869.length co54:Value).ownBlock∧some k_≠(.slice Ao80 t892.length co80:Value).ownBlock) (.slice Ao63 t878.length co63) t878):=⟨by (with_reducible repeat (first | apply Kd.jK | apply Kd.jL | apply Kd.jH));exact Kd.jD (Kd.jB (p:=⟨gb910,2,none⟩) (Kd.jB (p:=⟨gb910,1,none⟩) (Kd.jB (p:=⟨gb910,0,none⟩) (Kd.jN HO880.out BK910.out (by decide)) (fun _ hk=>hk.2) (.bool t906)) (fun _ hk=>hk.2) (.int .i64 t907)) (fun _ hk=>hk.2) (.int .i64 t908)) (fun _ hk=>⟨hk.1.1.2,hk.1.2⟩)⟩
                 have n7_:jv (Kd.R k90 90 (((w102.setCell ⟨gb910,0,none⟩ (.bool t906)).setCell ⟨gb910,1,none⟩ (.int .i64 t907)).setCell ⟨gb910,2,none⟩ (.int .i64 t908)) w.heap.size (fun k_=>some k_≠(.slice Ao58 t874.length co58:Value).ownBlock∧some k_≠(.slice Ao87 t897.length co87:Value).ownBlock) (.slice Ao68 t883.length co68) t883):=⟨by (with_reducible repeat (first | apply Kd.jK | apply Kd.jL | apply Kd.jH));exact Kd.jD (Kd.jB (p:=⟨gb910,2,none⟩) (Kd.jB (p:=⟨gb910,1,none⟩) (Kd.jB (p:=⟨gb910,0,none⟩) (Kd.jN HO885.out BK910.out (by decide)) (fun _ hk=>hk.2) (.bool t906)) (fun _ hk=>hk.2) (.int .i64 t907)) (fun _ hk=>hk.2) (.int .i64 t908)) (fun _ hk=>⟨hk.1.1.2,hk.1.2⟩)⟩
                 have n8_:jv (Kd.R (Kd.int .i64) 3 (((w102.setCell ⟨gb910,0,none⟩ (.bool t906)).setCell ⟨gb910,1,none⟩ (.int .i64 t907)).setCell ⟨gb910,2,none⟩ (.int .i64 t908)) w.heap.size (fun k_=>some k_≠(.slice Ao54 t869.length co54:Value).ownBlock∧some k_≠(.slice Ao63 t878.length co63:Value).ownBlock) (.slice Ao80 t892.length co80) t892):=⟨by (with_reducible repeat (first | apply Kd.jK | apply Kd.jL | apply Kd.jH));exact Kd.jD (Kd.jB (p:=⟨gb910,2,none⟩) (Kd.jB (p:=⟨gb910,1,none⟩) (Kd.jB (p:=⟨gb910,0,none⟩) (Kd.jN HO894.out BK910.out (by decide)) (fun _ hk=>hk.2) (.bool t906)) (fun _ hk=>hk.2) (.int .i64 t907)) (fun _ hk=>hk.2) (.int .i64 t908)) (fun _ hk=>⟨hk.1.1.2,hk.1.2⟩)⟩
                 have n9_:jv (Kd.R k90 90 (((w102.setCell ⟨gb910,0,none⟩ (.bool t906)).setCell ⟨gb910,1,none⟩ (.int .i64 t907)).setCell ⟨gb910,2,none⟩ (.int .i64 t908)) w.heap.size (fun k_=>some k_≠(.slice Ao58 t874.length co58:Value).ownBlock∧some k_≠(.slice Ao68 t883.length co68:Value).ownBlock) (.slice Ao87 t897.length co87) t897):=⟨by (with_reducible repeat (first | apply Kd.jK | apply Kd.jL | apply Kd.jH));exact Kd.jD (Kd.jB (p:=⟨gb910,2,none⟩) (Kd.jB (p:=⟨gb910,1,none⟩) (Kd.jB (p:=⟨gb910,0,none⟩) (Kd.jN HO899.out BK910.out (by decide)) (fun _ hk=>hk.2) (.bool t906)) (fun _ hk=>hk.2) (.int .i64 t907)) (fun _ hk=>hk.2) (.int .i64 t908)) (fun _ hk=>⟨hk.1.1.2,hk.1.2⟩)⟩
                 have n10_:jv ((((w102.setCell ⟨gb910,0,none⟩ (.bool t906)).setCell ⟨gb910,1,none⟩ (.int .i64 t907)).setCell ⟨gb910,2,none⟩ (.int .i64 t908)).heap[gb857]?=some (.cells #[.slice Ao9 t848.length co9] 31 (0,0))):=⟨by (with_reducible repeat (first | refine jb ?_ _ | refine jc ?_ | refine ja ?_ _));refine jr ?_ NB857_910.out _;(with_reducible repeat (first | refine jb ?_ _ | refine jc ?_ | refine ja ?_ _));refine jr ?_ NB857_910.out _;(with_reducible repeat (first | refine jb ?_ _ | refine jc ?_ | refine ja ?_ _));refine jr ?_ NB857_910.out _;(with_reducible repeat (first | refine jb ?_ _ | refine jc ?_ | refine ja ?_ _));exact BK857.out⟩
                 have n11_:jv ((((w102.setCell ⟨gb910,0,none⟩ (.bool t906)).setCell ⟨gb910,1,none⟩ (.int .i64 t907)).setCell ⟨gb910,2,none⟩ (.int .i64 t908)).heap[gb868]?=some (.cells #[.bool x869000_32, .int .i64 x869001_32, .int .i64 x869002_32] 50 (0,0))):=⟨by (with_reducible repeat (first | refine jb ?_ _ | refine jc ?_ | refine ja ?_ _));refine jr ?_ NB868_910.out _;(with_reducible repeat (first | refine jb ?_ _ | refine jc ?_ | refine ja ?_ _));refine jr ?_ NB868_910.out _;(with_reducible repeat (first | refine jb ?_ _ | refine jc ?_ | refine ja ?_ _));refine jr ?_ NB868_910.out _;(with_reducible repeat (first | refine jb ?_ _ | refine jc ?_ | refine ja ?_ _));exact BK868.out⟩
                 have n12_:jv ((((w102.setCell ⟨gb910,0,none⟩ (.bool t906)).setCell ⟨gb910,1,none⟩ (.int .i64 t907)).setCell ⟨gb910,2,none⟩ (.int .i64 t908)).heap[gb877]?=some (.cells #[.slice Ao54 t869.length co54, .int .i64 t872, .int .i64 t873, .slice Ao58 t874.length co58] 55 (0,0))):=⟨by (with_reducible repeat (first | refine jb ?_ _ | refine jc ?_ | refine ja ?_ _));refine jr ?_ NB877_910.out _;(with_reducible repeat (first | refine jb ?_ _ | refine jc ?_ | refine ja ?_ _));refine jr ?_ NB877_910.out _;(with_reducible repeat (first | refine jb ?_ _ | refine jc ?_ | refine ja ?_ _));refine jr ?_ NB877_910.out _;(with_reducible repeat (first | refine jb ?_ _ | refine jc ?_ | refine ja ?_ _));exact BK877.out⟩
                 have n13_:jv ((((w102.setCell ⟨gb910,0,none⟩ (.bool t906)).setCell ⟨gb910,1,none⟩ (.int .i64 t907)).setCell ⟨gb910,2,none⟩ (.int .i64 t908)).heap[gb886]?=some (.cells #[.slice Ao63 t878.length co63, .int .i64 t881, .int .i64 t882, .slice Ao68 t883.length co68] 55 (0,0))):=⟨by (with_reducible repeat (first | refine jb ?_ _ | refine jc ?_ | refine ja ?_ _));refine jr ?_ NB886_910.out _;(with_reducible repeat (first | refine jb ?_ _ | refine jc ?_ | refine ja ?_ _));refine jr ?_ NB886_910.out _;(with_reducible repeat (first | refine jb ?_ _ | refine jc ?_ | refine ja ?_ _));refine jr ?_ NB886_910.out _;(with_reducible repeat (first | refine jb ?_ _ | refine jc ?_ | refine ja ?_ _));exact BK886.out⟩
                 have n14_:jv ((((w102.setCell ⟨gb910,0,none⟩ (.bool t906)).setCell ⟨gb910,1,none⟩ (.int .i64 t907)).setCell ⟨gb910,2,none⟩ (.int .i64 t908)).heap[gb891]?=some (.cells #[.bool t887, .int .i64 t888, .int .i64 t889] 50 (0,0))):=⟨by (with_reducible repeat (first | refine jb ?_ _ | refine jc ?_ | refine ja ?_ _));refine jr ?_ NB891_910.out _;(with_reducible repeat (first | refine jb ?_ _ | refine jc ?_ | refine ja ?_ _));refine jr ?_ NB891_910.out _;(with_reducible repeat (first | refine jb ?_ _ | refine jc ?_ | refine ja ?_ _));refine jr ?_ NB891_910.out _;(with_reducible repeat (first | refine jb ?_ _ | refine jc ?_ | refine ja ?_ _));exact BK891.out⟩
                 have n15_:jv ((((w102.setCell ⟨gb910,0,none⟩ (.bool t906)).setCell ⟨gb910,1,none⟩ (.int .i64 t907)).setCell ⟨gb910,2,none⟩ (.int .i64 t908)).heap[gb900]?=some (.cells #[.slice Ao80 t892.length co80, .int .i64 t895, .int .i64 t896, .slice Ao87 t897.length co87] 55 (0,0))):=⟨by (with_reducible repeat (first | refine jb ?_ _ | refine jc ?_ | refine ja ?_ _));refine jr ?_ NB900_910.out _;(with_reducible repeat (first | refine jb ?_ _ | refine jc ?_ | refine ja ?_ _));refine jr ?_ NB900_910.out _;(with_reducible repeat (first | refine jb ?_ _ | refine jc ?_ | refine ja ?_ _));refine jr ?_ NB900_910.out _;(with_reducible repeat (first | refine jb ?_ _ | refine jc ?_ | refine ja ?_ _));exact BK900.out⟩
                 have n16_:jv ((((w102.setCell ⟨gb910,0,none⟩ (.bool t906)).setCell ⟨gb910,1,none⟩ (.int .i64 t907)).setCell ⟨gb910,2,none⟩ (.int .i64 t908)).heap[gb905]?=some (.cells #[.bool t901, .int .i64 t902, .int .i64 t903] 50 (0,0))):=⟨by (with_reducible repeat (first | refine jb ?_ _ | refine jc ?_ | refine ja ?_ _));refine jr ?_ NB905_910.out _;(with_reducible repeat (first | refine jb ?_ _ | refine jc ?_ | refine ja ?_ _));refine jr ?_ NB905_910.out _;(with_reducible repeat (first | refine jb ?_ _ | refine jc ?_ | refine ja ?_ _));refine jr ?_ NB905_910.out _;(with_reducible repeat (first | refine jb ?_ _ | refine jc ?_ | refine ja ?_ _));exact BK905.out⟩
                 have n17_:jv ((((w102.setCell ⟨gb910,0,none⟩ (.bool t906)).setCell ⟨gb910,1,none⟩ (.int .i64 t907)).setCell ⟨gb910,2,none⟩ (.int .i64 t908)).heap[gb910]?=some (.cells #[.bool t906, .int .i64 t907, .int .i64 t908] 50 (0,0))):=⟨by (with_reducible repeat (first | refine jb ?_ _ | refine jc ?_ | refine ja ?_ _));refine jO (cs:=#[.bool t906, .int .i64 t907, .int .i64 0]) ?_ 2 _ rfl;(with_reducible repeat (first | refine jb ?_ _ | refine jc ?_ | refine ja ?_ _));refine jO (cs:=#[.bool t906, .int .i64 0, .int .i64 0]) ?_ 1 _ rfl;(with_reducible repeat (first | refine jb ?_ _ | refine jc ?_ | refine ja ?_ _));refine jO (cs:=#[.bool false, .int .i64 0, .int .i64 0]) ?_ 0 _ rfl;(with_reducible repeat (first | refine jb ?_ _ | refine jc ?_ | refine ja ?_ _));exact BK910.out⟩
                 have n18_:jv (Below w.heap.size w (((w102.setCell ⟨gb910,0,none⟩ (.bool t906)).setCell ⟨gb910,1,none⟩ (.int .i64 t907)).setCell ⟨gb910,2,none⟩ (.int .i64 t908))):=⟨Y15⟩
                 (try clear HO_4)
                 (try clear HO_5)
                 (try clear HO_6)
                 (try clear HO_858000)
                 (try clear HO871)
                 (try clear HO876)
                 (try clear HO880)
                 (try clear HO885)
                 (try clear HO894)
                 (try clear HO899)
                 (try clear BK857)
                 (try clear BK868)
                 (try clear BK877)
                 (try clear BK886)
                 (try clear BK891)
                 (try clear BK900)
                 (try clear BK905)
                 (try clear BK910)
                 (try clear HB)
                 generalize (((w102.setCell ⟨gb910,0,none⟩ (.bool t906)).setCell ⟨gb910,1,none⟩ (.int .i64 t907)).setCell ⟨gb910,2,none⟩ (.int .i64 t908))=w120 at n0_ n1_ n2_ n3_ n4_ n5_ n6_ n7_ n8_ n9_ n10_ n11_ n12_ n13_ n14_ n15_ n16_ n17_ n18_ ⊢
                 have HO_4:=n0_
                 have HO_5:=n1_
                 have HO_6:=n2_
                 have HO_858000:=n3_
                 have HO871:=n4_
                 have HO876:=n5_
                 have HO880:=n6_
                 have HO885:=n7_
                 have HO894:=n8_
                 have HO899:=n9_
                 have BK857:=n10_
                 have BK868:=n11_
                 have BK877:=n12_
                 have BK886:=n13_
                 have BK891:=n14_
                 have BK900:=n15_
                 have BK905:=n16_
                 have BK910:=n17_
                 have HB:=n18_
                 clear n0_ n1_ n2_ n3_ n4_ n5_ n6_ n7_ n8_ n9_ n10_ n11_ n12_ n13_ n14_ n15_ n16_ n17_ n18_
                 replace HO_4:=am (Kd.jH HO_4.out)
                 replace HO_5:=am (Kd.jH HO_5.out)
                 replace HO_6:=am (Kd.jH HO_6.out)
                 replace HO_858000:=am (Kd.jH HO_858000.out)
                 replace HO871:=am (Kd.jH HO871.out)
                 replace HO876:=am (Kd.jH HO876.out)
                 replace HO880:=am (Kd.jH HO880.out)
                 replace HO885:=am (Kd.jH HO885.out)
                 replace HO894:=am (Kd.jH HO894.out)
                 replace HO899:=am (Kd.jH HO899.out)
                 replace BK857:=am (jc BK857.out)
                 replace BK868:=am (jc BK868.out)
                 replace BK877:=am (jc BK877.out)
                 replace BK886:=am (jc BK886.out)
                 replace BK891:=am (jc BK891.out)
                 replace BK900:=am (jc BK900.out)
                 replace BK905:=am (jc BK905.out)
                 replace BK910:=am (jc BK910.out)
                 replace HB:=am (jF HB.out)
                 refine jkc (n:=28) (S:=fun w'=>w'.cell? ⟨gb905,0,none⟩=some (.bool t901)∧w'.cell? ⟨gb905,1,none⟩=some (.int .i64 t902)∧w'.cell? ⟨gb905,2,none⟩=some (.int .i64 t903)∧w'.cell? ⟨gb910,0,none⟩=some (.bool t906)∧w'.cell? ⟨gb910,1,none⟩=some (.int .i64 t907)∧w'.cell? ⟨gb910,2,none⟩=some (.int .i64 t908)∧w'.cell? ⟨gb877,0,none⟩=some (.slice Ao54 t869.length co54)∧w'.cell? ⟨gb877,1,none⟩=some (.int .i64 t872)∧w'.cell? ⟨gb877,2,none⟩=some (.int .i64 t873)∧w'.cell? ⟨gb877,3,none⟩=some (.slice Ao58 t874.length co58)∧w'.cell? ⟨gb886,0,none⟩=some (.slice Ao63 t878.length co63)∧w'.cell? ⟨gb886,1,none⟩=some (.int .i64 t881)∧w'.cell? ⟨gb886,2,none⟩=some (.int .i64 t882)∧w'.cell? ⟨gb886,3,none⟩=some (.slice Ao68 t883.length co68)∧w'.cell? ⟨gb900,0,none⟩=some (.slice Ao80 t892.length co80)∧w'.cell? ⟨gb900,1,none⟩=some (.int .i64 t895)∧w'.cell? ⟨gb900,2,none⟩=some (.int .i64 t896)∧w'.cell? ⟨gb900,3,none⟩=some (.slice Ao87 t897.length co87)) (ds:=[]) #[false,false,false,false,false,false,false,false,false,false,false,false,false,false,false,false,false,false,false,false,false,false,false,false,false,false,false,false] (by kernel_rfl) rfl rfl ⟨(jh BK905.out 0).trans rfl,(jh BK905.out 1).trans rfl,(jh BK905.out 2).trans rfl,(jh BK910.out 0).trans rfl,(jh BK910.out 1).trans rfl,(jh BK910.out 2).trans rfl,(jh BK877.out 0).trans rfl,(jh BK877.out 1).trans rfl,(jh BK877.out 2).trans rfl,(jh BK877.out 3).trans rfl,(jh BK886.out 0).trans rfl,(jh BK886.out 1).trans rfl,(jh BK886.out 2).trans rfl,(jh BK886.out 3).trans rfl,(jh BK900.out 0).trans rfl,(jh BK900.out 1).trans rfl,(jh BK900.out 2).trans rfl,(jh BK900.out 3).trans rfl⟩ (fun hHeld=>?_);refine jJb jf.tab20 jf.bits20 (fun HT_ HW_=>?_)
                 generalize w120.drew=w121 at HO_4 HO_5 HO_6 HO_858000 HO871 HO876 HO880 HO885 HO894 HO899 BK857 BK868 BK877 BK886 BK891 BK900 BK905 BK910 HB hHeld ⊢
                 refine pq (i:=0) (N:=some 107) #[true,false,false,false,false,false,false,false,false,false,false,false,false,false,false,false,false,false,false,false,false,false,false,false,false,false,false,false] ?_
                 refine pq (i:=1) (N:=some 108) #[true,true,false,false,false,false,false,false,false,false,false,false,false,false,false,false,false,false,false,false,false,false,false,false,false,false,false,false] ?_
                 refine pq (i:=2) (N:=some 109) #[true,true,true,false,false,false,false,false,false,false,false,false,false,false,false,false,false,false,false,false,false,false,false,false,false,false,false,false] ?_
                 refine pq (i:=3) (N:=some 110) #[true,true,true,true,false,false,false,false,false,false,false,false,false,false,false,false,false,false,false,false,false,false,false,false,false,false,false,false] ?_
                 refine pq (i:=4) (N:=some 111) #[true,true,true,true,true,false,false,false,false,false,false,false,false,false,false,false,false,false,false,false,false,false,false,false,false,false,false,false] ?_
                 refine pq (i:=5) (N:=some 112) #[true,true,true,true,true,true,false,false,false,false,false,false,false,false,false,false,false,false,false,false,false,false,false,false,false,false,false,false] ?_
                 refine pq (i:=6) (N:=some 113) #[true,true,true,true,true,true,true,false,false,false,false,false,false,false,false,false,false,false,false,false,false,false,false,false,false,false,false,false] ?_
                 refine pq (i:=7) (N:=some 114) #[true,true,true,true,true,true,true,true,false,false,false,false,false,false,false,false,false,false,false,false,false,false,false,false,false,false,false,false] ?_
                 refine pq (i:=8) (N:=some 115) #[true,true,true,true,true,true,true,true,true,false,false,false,false,false,false,false,false,false,false,false,false,false,false,false,false,false,false,false] ?_
                 refine pq (i:=9) (N:=some 116) #[true,true,true,true,true,true,true,true,true,true,false,false,false,false,false,false,false,false,false,false,false,false,false,false,false,false,false,false] ?_
                 refine pq (i:=10) (N:=some 117) #[true,true,true,true,true,true,true,true,true,true,true,false,false,false,false,false,false,false,false,false,false,false,false,false,false,false,false,false] ?_
                 refine jYb (i:=11) (N:=some 118) (v:=?_) (a':=?_) #[true,true,true,true,true,true,true,true,true,true,true,true,false,false,false,false,false,false,false,false,false,false,false,false,false,false,false,false] rfl rfl (jvb HT_.out HW_.out (by kernel_rfl)) (fun _ _ _ h=>h) (Or.inl ⟨by rfl,?_⟩) hHeld ?_ ?_
                 rotate_left
                 ·rintro w' ⟨s0,s1,s2,s3,s4,s5,s6,s7,s8,s9,s10,s11,s12,s13,s14,s15,s16,s17⟩
                  go_simp
                  with_reducible rfl
                 rotate_left
                 ·exact sa
                 refine jYb (i:=12) (N:=some 119) (v:=?_) (a':=?_) #[true,true,true,true,true,true,true,true,true,true,true,true,true,false,false,false,false,false,false,false,false,false,false,false,false,false,false,false] rfl rfl (jvb HT_.out HW_.out (by kernel_rfl)) (fun _ _ _ h=>h) (Or.inl ⟨by rfl,?_⟩) hHeld ?_ ?_
                 rotate_left
                 ·rintro w' ⟨s0,s1,s2,s3,s4,s5,s6,s7,s8,s9,s10,s11,s12,s13,s14,s15,s16,s17⟩
                  go_simp
                  with_reducible rfl
                 rotate_left
                 ·exact sa
                 refine pq (i:=13) (N:=some 120) #[true,true,true,true,true,true,true,true,true,true,true,true,true,true,false,false,false,false,false,false,false,false,false,false,false,false,false,false] ?_
                 refine pq (i:=14) (N:=some 121) #[true,true,true,true,true,true,true,true,true,true,true,true,true,true,true,false,false,false,false,false,false,false,false,false,false,false,false,false] ?_
                 refine pq (i:=15) (N:=some 122) #[true,true,true,true,true,true,true,true,true,true,true,true,true,true,true,true,false,false,false,false,false,false,false,false,false,false,false,false] ?_
                 refine pq (i:=16) (N:=some 123) #[true,true,true,true,true,true,true,true,true,true,true,true,true,true,true,true,true,false,false,false,false,false,false,false,false,false,false,false] ?_
                 refine pq (i:=19) (N:=some 126) #[true,true,true,true,true,true,true,true,true,true,true,true,true,true,true,true,true,false,false,true,false,false,false,false,false,false,false,false] ?_
                 refine pq (i:=22) (N:=some 129) #[true,true,true,true,true,true,true,true,true,true,true,true,true,true,true,true,true,false,false,true,false,false,true,false,false,false,false,false] ?_
                 refine jYb (i:=17) (N:=some 124) (v:=?_) (a':=?_) #[true,true,true,true,true,true,true,true,true,true,true,true,true,true,true,true,true,true,false,true,false,false,true,false,false,false,false,false] rfl rfl (jvb HT_.out HW_.out (by kernel_rfl)) (fun _ _ _ h=>h) (Or.inl ⟨by rfl,?_⟩) hHeld ?_ ?_
                 rotate_left
                 ·rintro w' ⟨s0,s1,s2,s3,s4,s5,s6,s7,s8,s9,s10,s11,s12,s13,s14,s15,s16,s17⟩
                  go_simp
                  with_reducible rfl
                 rotate_left
                 ·exact sa
                 refine jYb (i:=20) (N:=some 127) (v:=?_) (a':=?_) #[true,true,true,true,true,true,true,true,true,true,true,true,true,true,true,true,true,true,false,true,true,false,true,false,false,false,false,false] rfl rfl (jvb HT_.out HW_.out (by kernel_rfl)) (fun _ _ _ h=>h) (Or.inl ⟨by rfl,?_⟩) hHeld ?_ ?_
                 rotate_left
                 ·rintro w' ⟨s0,s1,s2,s3,s4,s5,s6,s7,s8,s9,s10,s11,s12,s13,s14,s15,s16,s17⟩
                  go_simp
                  with_reducible rfl
                 rotate_left
                 ·exact sa
                 refine jYb (i:=23) (N:=some 130) (v:=?_) (a':=?_) #[true,true,true,true,true,true,true,true,true,true,true,true,true,true,true,true,true,true,false,true,true,false,true,true,false,false,false,false] rfl rfl (jvb HT_.out HW_.out (by kernel_rfl)) (fun _ _ _ h=>h) (Or.inl ⟨by rfl,?_⟩) hHeld ?_ ?_
                 rotate_left
                 ·rintro w' ⟨s0,s1,s2,s3,s4,s5,s6,s7,s8,s9,s10,s11,s12,s13,s14,s15,s16,s17⟩
                  go_simp
                  with_reducible rfl
                 rotate_left
                 ·exact sa
                 refine one_ (i:=18) (N:=some 125) #[true,true,true,true,true,true,true,true,true,true,true,true,true,true,true,true,true,true,true,true,true,false,true,true,false,false,false,false] rfl rfl (jFb HT_.out (by kernel_rfl)) (by decide) (fun K hK=>?_)
                 refine Kd.jvc (Kd.int .i64) _ 3 ?hg (N:=125) ?hd (xs:=([]:List Int)) (inner:=[]) (ok:=fun _=>True) (okp:=fun _=>True) ?hr ?hp (fun _ hk=>hk) trivial (Below.refl _ _) (Nat.le_refl _) (by simp) ?_;(case hd=>rfl);(case hg=>rfl);(case hr=>exact Y2);(case hp=>exact (Reps.none _ _))
                 intro v912 w122 ho123 hb hg_ hnew_
                 clear hg_ hnew_
                 (first | rw [← Ny911.out] at ho123 |(simp only [Int.reduceToNat] at ho123;rw [← Ny911.out] at ho123))
                 have HO913:=am (Kd.jua (Kd.jic (Kd.jic (Kd.jic ho123 (Kd.R_lt (rq HO871.out))) (Kd.R_lt (rq HO880.out))) (Kd.R_lt (rq HO894.out))) (jY (Y15)))
                 replace HO_4:=am (Kd.jM (rq HO_4.out) hb)
                 replace HO_5:=am (Kd.jM (rq HO_5.out) hb)
                 replace HO_6:=am (Kd.jM (rq HO_6.out) hb)
                 replace HO_858000:=am (Kd.jM (rq HO_858000.out) hb)
                 replace HO871:=am (Kd.jIb (rq HO871.out) (Kd.jRb ho123) hb)
                 replace HO876:=am (Kd.jM (rq HO876.out) hb)
                 replace HO880:=am (Kd.jIb (rq HO880.out) (Kd.jRb ho123) hb)
                 replace HO885:=am (Kd.jM (rq HO885.out) hb)
                 replace HO894:=am (Kd.jIb (rq HO894.out) (Kd.jRb ho123) hb)
                 replace HO899:=am (Kd.jM (rq HO899.out) hb)
                 replace BK857:=am (je (g:=gb857) (o:=.cells #[.slice Ao9 t848.length co9] 31 (0,0)) (kq BK857.out) hb)
                 replace BK868:=am (je (g:=gb868) (o:=.cells #[.bool x869000_32, .int .i64 x869001_32, .int .i64 x869002_32] 50 (0,0)) (kq BK868.out) hb)
                 replace BK877:=am (je (g:=gb877) (o:=.cells #[.slice Ao54 t869.length co54, .int .i64 t872, .int .i64 t873, .slice Ao58 t874.length co58] 55 (0,0)) (kq BK877.out) hb)
                 replace BK886:=am (je (g:=gb886) (o:=.cells #[.slice Ao63 t878.length co63, .int .i64 t881, .int .i64 t882, .slice Ao68 t883.length co68] 55 (0,0)) (kq BK886.out) hb)
                 replace BK891:=am (je (g:=gb891) (o:=.cells #[.bool t887, .int .i64 t888, .int .i64 t889] 50 (0,0)) (kq BK891.out) hb)
                 replace BK900:=am (je (g:=gb900) (o:=.cells #[.slice Ao80 t892.length co80, .int .i64 t895, .int .i64 t896, .slice Ao87 t897.length co87] 55 (0,0)) (kq BK900.out) hb)
                 replace BK905:=am (je (g:=gb905) (o:=.cells #[.bool t901, .int .i64 t902, .int .i64 t903] 50 (0,0)) (kq BK905.out) hb)
                 replace BK910:=am (je (g:=gb910) (o:=.cells #[.bool t906, .int .i64 t907, .int .i64 t908] 50 (0,0)) (kq BK910.out) hb)
                 replace HB:=am (jk (Y15) hb)
                 clear hb ho123
                 refine hK.out _ _ ⟨(jh BK905.out 0).trans rfl,(jh BK905.out 1).trans rfl,(jh BK905.out 2).trans rfl,(jh BK910.out 0).trans rfl,(jh BK910.out 1).trans rfl,(jh BK910.out 2).trans rfl,(jh BK877.out 0).trans rfl,(jh BK877.out 1).trans rfl,(jh BK877.out 2).trans rfl,(jh BK877.out 3).trans rfl,(jh BK886.out 0).trans rfl,(jh BK886.out 1).trans rfl,(jh BK886.out 2).trans rfl,(jh BK886.out 3).trans rfl,(jh BK900.out 0).trans rfl,(jh BK900.out 1).trans rfl,(jh BK900.out 2).trans rfl,(jh BK900.out 3).trans rfl⟩ (fun hHeld=>?_)
                 clear hK K
                 refine jjc (a':=?_) ?_ ?_
                 rotate_left
                 ·show Act.put _ (some 125) _=_
                  simp only [Act.put,List.setIfInBounds_toArray,List.set_cons_zero,List.set_cons_succ,jyb,jBb]
                  rfl
                 refine one_ (i:=21) (N:=some 128) #[true,true,true,true,true,true,true,true,true,true,true,true,true,true,true,true,true,true,true,true,true,true,true,true,false,false,false,false] rfl rfl (jFb HT_.out (by kernel_rfl)) (by decide) (fun K hK=>?_)
                 refine Kd.jpc (Kd.int .i64) (w0:=w) w.heap.size (by rfl) (.tmp 125) (.tmp 127) 45 3 (.int .i64 0) 8 rfl Try.underlying45 info3 rfl (by decide) (by omega) v912 y911 t878 _ _ _ (fun k_=>some k_≠(.slice Ao54 t869.length co54:Value).ownBlock∧some k_≠(.slice Ao63 t878.length co63:Value).ownBlock∧some k_≠(.slice Ao80 t892.length co80:Value).ownBlock) (fun _=>False) rfl rfl ?aO ?aR (fun _ _ h=>h) (fun _ h=>h.elim) ?aF ?aB ?aS ?aL ?_
                 (case aR=>repeat (first | exact (Kd.jE HO880.out).2.2 |(with_reducible refine Kd.C_alloc ?_ _) |(with_reducible refine Kd.C_drewN ?_ _) |(with_reducible refine Kd.C_drew ?_)))
                 (case aB=>exact (Y15))
                 (case aF=>exact (fun k_ hk=>⟨Kd.fresh' (Kd.R_lt (rq HO871.out)) k_ hk,Kd.fresh' (Kd.R_lt (rq HO880.out)) k_ hk,Kd.fresh' (Kd.R_lt (rq HO894.out)) k_ hk⟩))
                 (case aO=>exact (by (with_reducible repeat (first | apply Kd.jK | apply Kd.jL | apply Kd.jH));exact Kd.jD HO913.out (fun _ hk=>⟨hk.1.1.2,⟨hk.1.2,hk.2⟩⟩)))
                 (case aS=>exact (jY (Y15)))
                 (case aL=>have:=LMc117.out;omega)
                 intro v915 w124 ho hb hg hat
                 rw [← Ny914.out] at ho
                 have n0_:=am (Kd.jhb (rq HO_4.out) (Kd.jfb (rq HO913.out)) (by decide) hg)
                 have n1_:=am (Kd.jhb (rq HO_5.out) (Kd.jfb (rq HO913.out)) (by decide) hg)
                 have n2_:=am (Kd.jhb (rq HO_6.out) (Kd.jfb (rq HO913.out)) (by decide) hg)
                 have n3_:=am (Kd.jhb (rq HO_858000.out) (Kd.jfb (rq HO913.out)) (by decide) hg)
                 have n4_:=am (jla (g:=gb857) (o:=.cells #[.slice Ao9 t848.length co9] 31 (0,0)) (kq BK857.out) hg (Kd.R_ne HO913.out BK857.out (by decide)))
                 have n5_:=am (jla (g:=gb868) (o:=.cells #[.bool x869000_32, .int .i64 x869001_32, .int .i64 x869002_32] 50 (0,0)) (kq BK868.out) hg (Kd.R_ne HO913.out BK868.out (by decide)))
                 have n6_:=am (Kd.R_after (ok:=(fun k_=>some k_≠(.slice Ao63 t878.length co63:Value).ownBlock∧some k_≠(.slice Ao80 t892.length co80:Value).ownBlock)) (rq HO871.out) hg hat)
                 have n7_:=am (Kd.jhb (rq HO876.out) (Kd.jfb (rq HO913.out)) (by decide) hg)
                 have n8_:=am (jla (g:=gb877) (o:=.cells #[.slice Ao54 t869.length co54, .int .i64 t872, .int .i64 t873, .slice Ao58 t874.length co58] 55 (0,0)) (kq BK877.out) hg (Kd.R_ne HO913.out BK877.out (by decide)))
                 have n9_:=am (Kd.R_after (ok:=(fun k_=>some k_≠(.slice Ao54 t869.length co54:Value).ownBlock∧some k_≠(.slice Ao80 t892.length co80:Value).ownBlock)) (rq HO880.out) hg hat)
                 have n10_:=am (Kd.jhb (rq HO885.out) (Kd.jfb (rq HO913.out)) (by decide) hg)
                 have n11_:=am (jla (g:=gb886) (o:=.cells #[.slice Ao63 t878.length co63, .int .i64 t881, .int .i64 t882, .slice Ao68 t883.length co68] 55 (0,0)) (kq BK886.out) hg (Kd.R_ne HO913.out BK886.out (by decide)))
                 have n12_:=am (jla (g:=gb891) (o:=.cells #[.bool t887, .int .i64 t888, .int .i64 t889] 50 (0,0)) (kq BK891.out) hg (Kd.R_ne HO913.out BK891.out (by decide)))
                 have n13_:=am (Kd.R_after (ok:=(fun k_=>some k_≠(.slice Ao54 t869.length co54:Value).ownBlock∧some k_≠(.slice Ao63 t878.length co63:Value).ownBlock)) (rq HO894.out) hg hat)
                 have n14_:=am (Kd.jhb (rq HO899.out) (Kd.jfb (rq HO913.out)) (by decide) hg)
                 have n15_:=am (jla (g:=gb900) (o:=.cells #[.slice Ao80 t892.length co80, .int .i64 t895, .int .i64 t896, .slice Ao87 t897.length co87] 55 (0,0)) (kq BK900.out) hg (Kd.R_ne HO913.out BK900.out (by decide)))
                 have n16_:=am (jla (g:=gb905) (o:=.cells #[.bool t901, .int .i64 t902, .int .i64 t903] 50 (0,0)) (kq BK905.out) hg (Kd.R_ne HO913.out BK905.out (by decide)))
                 have n17_:=am (jla (g:=gb910) (o:=.cells #[.bool t906, .int .i64 t907, .int .i64 t908] 50 (0,0)) (kq BK910.out) hg (Kd.R_ne HO913.out BK910.out (by decide)))
                 have n18_:=am (hb)
                 have n19_:=am (ho)
                 clear HO_4
                 clear HO_5
                 clear HO_6
                 clear HO_858000
                 clear BK857
                 clear BK868
                 clear HO871
                 clear HO876
                 clear BK877
                 clear HO880
                 clear HO885
                 clear BK886
                 clear BK891
                 clear HO894
                 clear HO899
                 clear BK900
                 clear BK905
                 clear BK910
                 clear HB
                 clear HO913
                 have HO_4:=n0_
                 have HO_5:=n1_
                 have HO_6:=n2_
                 have HO_858000:=n3_
                 have BK857:=n4_
                 have BK868:=n5_
                 have HO871:=n6_
                 have HO876:=n7_
                 have BK877:=n8_
                 have HO880:=n9_
                 have HO885:=n10_
                 have BK886:=n11_
                 have BK891:=n12_
                 have HO894:=n13_
                 have HO899:=n14_
                 have BK900:=n15_
                 have BK905:=n16_
                 have BK910:=n17_
                 have HB:=n18_
                 have HO916:=n19_
                 clear n0_ n1_ n2_ n3_ n4_ n5_ n6_ n7_ n8_ n9_ n10_ n11_ n12_ n13_ n14_ n15_ n16_ n17_ n18_ n19_
                 clear ho hb hg hat
                 refine hK.out _ _ ⟨(jh BK905.out 0).trans rfl,(jh BK905.out 1).trans rfl,(jh BK905.out 2).trans rfl,(jh BK910.out 0).trans rfl,(jh BK910.out 1).trans rfl,(jh BK910.out 2).trans rfl,(jh BK877.out 0).trans rfl,(jh BK877.out 1).trans rfl,(jh BK877.out 2).trans rfl,(jh BK877.out 3).trans rfl,(jh BK886.out 0).trans rfl,(jh BK886.out 1).trans rfl,(jh BK886.out 2).trans rfl,(jh BK886.out 3).trans rfl,(jh BK900.out 0).trans rfl,(jh BK900.out 1).trans rfl,(jh BK900.out 2).trans rfl,(jh BK900.out 3).trans rfl⟩ (fun hHeld=>?_)
                 clear hK K
                 refine jjc (a':=?_) ?_ ?_
                 rotate_left
                 ·show Act.put _ (some 128) _=_
                  simp only [Act.put,List.setIfInBounds_toArray,List.set_cons_zero,List.set_cons_succ,jyb,jBb]
                  rfl
                 refine one_ (i:=24) (N:=some 131) #[true,true,true,true,true,true,true,true,true,true,true,true,true,true,true,true,true,true,true,true,true,true,true,true,true,false,false,false] rfl rfl (jFb HT_.out (by kernel_rfl)) (by decide) (fun K hK=>?_)
                 refine Kd.jpc (Kd.int .i64) (w0:=w) w.heap.size (by rfl) (.tmp 128) (.tmp 130) 45 3 (.int .i64 0) 8 rfl Try.underlying45 info3 rfl (by decide) (by omega) v915 y914 t892 _ _ _ (fun k_=>some k_≠(.slice Ao54 t869.length co54:Value).ownBlock∧some k_≠(.slice Ao63 t878.length co63:Value).ownBlock∧some k_≠(.slice Ao80 t892.length co80:Value).ownBlock) (fun _=>False) rfl rfl ?aO ?aR (fun _ _ h=>h) (fun _ h=>h.elim) ?aF ?aB ?aS ?aL ?_
                 (case aR=>repeat (first | exact (Kd.jE HO894.out).2.2 |(with_reducible refine Kd.C_alloc ?_ _) |(with_reducible refine Kd.C_drewN ?_ _) |(with_reducible refine Kd.C_drew ?_)))
                 (case aB=>exact (Y15))
                 (case aF=>exact (fun k_ hk=>⟨Kd.fresh' (Kd.R_lt (rq HO871.out)) k_ hk,Kd.fresh' (Kd.R_lt (rq HO880.out)) k_ hk,Kd.fresh' (Kd.R_lt (rq HO894.out)) k_ hk⟩))
                 (case aO=>exact (rq HO916.out))
                 (case aS=>exact (jY (Y15)))
                 (case aL=>have:=LMc118.out;omega)
                 intro v918 w125 ho hb hg hat
                 rw [← Ny917.out] at ho
                 have n0_:=am (Kd.jhb (rq HO_4.out) (Kd.jfb (rq HO916.out)) (by decide) hg)
                 have n1_:=am (Kd.jhb (rq HO_5.out) (Kd.jfb (rq HO916.out)) (by decide) hg)
                 have n2_:=am (Kd.jhb (rq HO_6.out) (Kd.jfb (rq HO916.out)) (by decide) hg)
                 have n3_:=am (Kd.jhb (rq HO_858000.out) (Kd.jfb (rq HO916.out)) (by decide) hg)
                 have n4_:=am (jla (g:=gb857) (o:=.cells #[.slice Ao9 t848.length co9] 31 (0,0)) (kq BK857.out) hg (Kd.R_ne HO916.out BK857.out (by decide)))
                 have n5_:=am (jla (g:=gb868) (o:=.cells #[.bool x869000_32, .int .i64 x869001_32, .int .i64 x869002_32] 50 (0,0)) (kq BK868.out) hg (Kd.R_ne HO916.out BK868.out (by decide)))
                 have n6_:=am (Kd.R_after (ok:=(fun k_=>some k_≠(.slice Ao63 t878.length co63:Value).ownBlock∧some k_≠(.slice Ao80 t892.length co80:Value).ownBlock)) (rq HO871.out) hg hat)
                 have n7_:=am (Kd.jhb (rq HO876.out) (Kd.jfb (rq HO916.out)) (by decide) hg)
                 have n8_:=am (jla (g:=gb877) (o:=.cells #[.slice Ao54 t869.length co54, .int .i64 t872, .int .i64 t873, .slice Ao58 t874.length co58] 55 (0,0)) (kq BK877.out) hg (Kd.R_ne HO916.out BK877.out (by decide)))
                 have n9_:=am (Kd.R_after (ok:=(fun k_=>some k_≠(.slice Ao54 t869.length co54:Value).ownBlock∧some k_≠(.slice Ao80 t892.length co80:Value).ownBlock)) (rq HO880.out) hg hat)
                 have n10_:=am (Kd.jhb (rq HO885.out) (Kd.jfb (rq HO916.out)) (by decide) hg)
                 have n11_:=am (jla (g:=gb886) (o:=.cells #[.slice Ao63 t878.length co63, .int .i64 t881, .int .i64 t882, .slice Ao68 t883.length co68] 55 (0,0)) (kq BK886.out) hg (Kd.R_ne HO916.out BK886.out (by decide)))
                 have n12_:=am (jla (g:=gb891) (o:=.cells #[.bool t887, .int .i64 t888, .int .i64 t889] 50 (0,0)) (kq BK891.out) hg (Kd.R_ne HO916.out BK891.out (by decide)))
                 have n13_:=am (Kd.R_after (ok:=(fun k_=>some k_≠(.slice Ao54 t869.length co54:Value).ownBlock∧some k_≠(.slice Ao63 t878.length co63:Value).ownBlock)) (rq HO894.out) hg hat)
                 have n14_:=am (Kd.jhb (rq HO899.out) (Kd.jfb (rq HO916.out)) (by decide) hg)
                 have n15_:=am (jla (g:=gb900) (o:=.cells #[.slice Ao80 t892.length co80, .int .i64 t895, .int .i64 t896, .slice Ao87 t897.length co87] 55 (0,0)) (kq BK900.out) hg (Kd.R_ne HO916.out BK900.out (by decide)))
                 have n16_:=am (jla (g:=gb905) (o:=.cells #[.bool t901, .int .i64 t902, .int .i64 t903] 50 (0,0)) (kq BK905.out) hg (Kd.R_ne HO916.out BK905.out (by decide)))
                 have n17_:=am (jla (g:=gb910) (o:=.cells #[.bool t906, .int .i64 t907, .int .i64 t908] 50 (0,0)) (kq BK910.out) hg (Kd.R_ne HO916.out BK910.out (by decide)))
                 have n18_:=am (hb)
                 have n19_:=am (ho)
                 clear HO_4
                 clear HO_5
                 clear HO_6
                 clear HO_858000
                 clear BK857
                 clear BK868
                 clear HO871
                 clear HO876
                 clear BK877
                 clear HO880
                 clear HO885
                 clear BK886
                 clear BK891
                 clear HO894
                 clear HO899
                 clear BK900
                 clear BK905
                 clear BK910
                 clear HB
                 clear HO916
                 have HO_4:=n0_
                 have HO_5:=n1_
                 have HO_6:=n2_
                 have HO_858000:=n3_
                 have BK857:=n4_
                 have BK868:=n5_
                 have HO871:=n6_
                 have HO876:=n7_
                 have BK877:=n8_
                 have HO880:=n9_
                 have HO885:=n10_
                 have BK886:=n11_
                 have BK891:=n12_
                 have HO894:=n13_
                 have HO899:=n14_
                 have BK900:=n15_
                 have BK905:=n16_
                 have BK910:=n17_
                 have HB:=n18_
                 have HO919:=n19_
                 clear n0_ n1_ n2_ n3_ n4_ n5_ n6_ n7_ n8_ n9_ n10_ n11_ n12_ n13_ n14_ n15_ n16_ n17_ n18_ n19_
                 clear ho hb hg hat
                 obtain ⟨Ao126,co126,eo126⟩:=Kd.jja HO919.out
                 (first | subst eo126 |(injection eo126 with f1_ f2_ f3_;have f4_:=f1_.symm;have f5_:=f3_.symm;clear f1_ f2_ f3_;subst f4_;subst f5_))
                 refine hK.out _ _ ⟨(jh BK905.out 0).trans rfl,(jh BK905.out 1).trans rfl,(jh BK905.out 2).trans rfl,(jh BK910.out 0).trans rfl,(jh BK910.out 1).trans rfl,(jh BK910.out 2).trans rfl,(jh BK877.out 0).trans rfl,(jh BK877.out 1).trans rfl,(jh BK877.out 2).trans rfl,(jh BK877.out 3).trans rfl,(jh BK886.out 0).trans rfl,(jh BK886.out 1).trans rfl,(jh BK886.out 2).trans rfl,(jh BK886.out 3).trans rfl,(jh BK900.out 0).trans rfl,(jh BK900.out 1).trans rfl,(jh BK900.out 2).trans rfl,(jh BK900.out 3).trans rfl⟩ (fun hHeld=>?_)
                 clear hK K
                 refine jjc (a':=?_) ?_ ?_
                 rotate_left
                 ·show Act.put _ (some 131) _=_
                  simp only [Act.put,List.setIfInBounds_toArray,List.set_cons_zero,List.set_cons_succ,jyb,jBb]
                  rfl
                 refine one_ (i:=25) (N:=some 132) #[true,true,true,true,true,true,true,true,true,true,true,true,true,true,true,true,true,true,true,true,true,true,true,true,true,true,false,false] rfl rfl (jFb HT_.out (by kernel_rfl)) (by decide) (fun K hK=>?_)
                 refine goes_ Try.func21 (by kernel_rfl) rfl #[.slice Ao54 t869.length co54, .slice Ao126 y917.length co126] (by rfl) rfl rfl (aq) ?_
                 with_reducible refine (jma.calls kj32 _ _ t869 _ _ y917 t920 _ ?side1 ?side2 ?side3 ?side4 A119.out).mono ?_
                 (case side1=>exact cq (Kd.jE HO871.out).2.2)
                 (case side2=>exact (Kd.jE HO871.out).2.1)
                 (case side3=>exact cq (Kd.jE HO919.out).2.2)
                 (case side4=>exact (Kd.jE HO919.out).2.1)
                 rintro e w' ⟨rfl,⟨nd,rfl⟩⟩
                 refine ⟨_,rfl,?_⟩
                 refine hK.out _ _ ⟨(jh BK905.out 0).trans rfl,(jh BK905.out 1).trans rfl,(jh BK905.out 2).trans rfl,(jh BK910.out 0).trans rfl,(jh BK910.out 1).trans rfl,(jh BK910.out 2).trans rfl,(jh BK877.out 0).trans rfl,(jh BK877.out 1).trans rfl,(jh BK877.out 2).trans rfl,(jh BK877.out 3).trans rfl,(jh BK886.out 0).trans rfl,(jh BK886.out 1).trans rfl,(jh BK886.out 2).trans rfl,(jh BK886.out 3).trans rfl,(jh BK900.out 0).trans rfl,(jh BK900.out 1).trans rfl,(jh BK900.out 2).trans rfl,(jh BK900.out 3).trans rfl⟩ (fun hHeld=>?_)
                 clear hK K
                 refine jjc (a':=?_) ?_ ?_
                 rotate_left
                 ·show Act.put _ (some 132) _=_
                  simp only [Act.put,List.setIfInBounds_toArray,List.set_cons_zero,List.set_cons_succ,jyb,jBb]
                  rfl
                 refine pq (i:=26) (N:=some 133) #[true,true,true,true,true,true,true,true,true,true,true,true,true,true,true,true,true,true,true,true,true,true,true,true,true,true,true,false] ?_
                 refine pq (i:=27) (N:=some 134) #[true,true,true,true,true,true,true,true,true,true,true,true,true,true,true,true,true,true,true,true,true,true,true,true,true,true,true,true] ?_
                 refine done_ (jgc HT_.out (by kernel_rfl)) ?_
                 try go_wp2
                 go_meet
                 case rel=>exact ⟨_,(!t920),(sq),H',⟨by have:=HJ5.out;have:=HK2.out;have:=HJ32.out;first | omega | exact Nat.le_refl _⟩,⟨rq HO_4.out⟩,⟨rq HO_5.out⟩,⟨rq HO_6.out⟩,⟨rq HO_858000.out⟩,⟨by (with_reducible repeat (first | apply Kd.jK | apply Kd.jL | apply Kd.jH));exact Kd.jD HO871.out (fun _ hk=>⟨hk.1.1,hk.1.2⟩)⟩,⟨rq HO876.out⟩,⟨by (with_reducible repeat (first | apply Kd.jK | apply Kd.jL | apply Kd.jH));exact Kd.jD HO880.out (fun _ hk=>⟨hk.1.1,hk.1.2⟩)⟩,⟨rq HO885.out⟩,⟨by (with_reducible repeat (first | apply Kd.jK | apply Kd.jL | apply Kd.jH));exact Kd.jD HO894.out (fun _ hk=>⟨hk.1.1,hk.1.2⟩)⟩,⟨rq HO899.out⟩,⟨kq BK857.out⟩,⟨kq BK868.out⟩,⟨kq BK877.out⟩,⟨kq BK886.out⟩,⟨kq BK891.out⟩,⟨kq BK900.out⟩,⟨kq BK905.out⟩,⟨kq BK910.out⟩,⟨Y15⟩⟩
                ·rw [if_neg c118] at H
                 exact absurd H (by simp)
               ·rw [if_neg c117] at H
                exact absurd H (by simp)
             ·replace c113:=Bool.eq_false_iff.mpr c113
              subst c113
              have H1:(jf.j3 kj32 t851 t854 t858 x10_2 true t848)=some r:=by rw [if_neg (show ¬ (false=true) by decide)] at H;exact H
              clear H
              have H:=H1
              clear H1
              have H':=am H
              clear H
              try go_wp2
              have n0_:jv (Kd.R k44 44 (((w102.setCell ⟨gb910,0,none⟩ (.bool t906)).setCell ⟨gb910,1,none⟩ (.int .i64 t907)).setCell ⟨gb910,2,none⟩ (.int .i64 t908)) w.heap.size (fun k_=>some k_≠(.slice Ao14 t854.length co14:Value).ownBlock∧some k_≠(.slice Ao51 t858.length co51:Value).ownBlock) (.slice Ao13 t851.length co13) t851):=⟨by (with_reducible repeat (first | apply Kd.jK | apply Kd.jL | apply Kd.jH));exact Kd.jD (Kd.jB (p:=⟨gb910,2,none⟩) (Kd.jB (p:=⟨gb910,1,none⟩) (Kd.jB (p:=⟨gb910,0,none⟩) (Kd.jN HO_4.out BK910.out (by decide)) (fun _ hk=>hk.2) (.bool t906)) (fun _ hk=>hk.2) (.int .i64 t907)) (fun _ hk=>hk.2) (.int .i64 t908)) (fun _ hk=>⟨hk.1.1,hk.1.2⟩)⟩
              have n1_:jv (Kd.R k44 44 (((w102.setCell ⟨gb910,0,none⟩ (.bool t906)).setCell ⟨gb910,1,none⟩ (.int .i64 t907)).setCell ⟨gb910,2,none⟩ (.int .i64 t908)) w.heap.size (fun k_=>some k_≠(.slice Ao13 t851.length co13:Value).ownBlock∧some k_≠(.slice Ao51 t858.length co51:Value).ownBlock) (.slice Ao14 t854.length co14) t854):=⟨by (with_reducible repeat (first | apply Kd.jK | apply Kd.jL | apply Kd.jH));exact Kd.jD (Kd.jB (p:=⟨gb910,2,none⟩) (Kd.jB (p:=⟨gb910,1,none⟩) (Kd.jB (p:=⟨gb910,0,none⟩) (Kd.jN HO_5.out BK910.out (by decide)) (fun _ hk=>hk.2) (.bool t906)) (fun _ hk=>hk.2) (.int .i64 t907)) (fun _ hk=>hk.2) (.int .i64 t908)) (fun _ hk=>⟨hk.1.1,hk.1.2⟩)⟩
              have n2_:jv (Kd.R k44 44 (((w102.setCell ⟨gb910,0,none⟩ (.bool t906)).setCell ⟨gb910,1,none⟩ (.int .i64 t907)).setCell ⟨gb910,2,none⟩ (.int .i64 t908)) w.heap.size (fun k_=>some k_≠(.slice Ao13 t851.length co13:Value).ownBlock∧some k_≠(.slice Ao14 t854.length co14:Value).ownBlock) (.slice Ao51 t858.length co51) t858):=⟨by (with_reducible repeat (first | apply Kd.jK | apply Kd.jL | apply Kd.jH));exact Kd.jD (Kd.jB (p:=⟨gb910,2,none⟩) (Kd.jB (p:=⟨gb910,1,none⟩) (Kd.jB (p:=⟨gb910,0,none⟩) (Kd.jN HO_6.out BK910.out (by decide)) (fun _ hk=>hk.2) (.bool t906)) (fun _ hk=>hk.2) (.int .i64 t907)) (fun _ hk=>hk.2) (.int .i64 t908)) (fun _ hk=>⟨hk.1.1,hk.1.2⟩)⟩
              have n3_:jv (Kd.R k106 106 (((w102.setCell ⟨gb910,0,none⟩ (.bool t906)).setCell ⟨gb910,1,none⟩ (.int .i64 t907)).setCell ⟨gb910,2,none⟩ (.int .i64 t908)) w.heap.size (fun _=>True) (.slice Ao9 t848.length co9) t848):=⟨by (with_reducible repeat (first | apply Kd.jK | apply Kd.jL | apply Kd.jH));exact Kd.jD (Kd.jB (p:=⟨gb910,2,none⟩) (Kd.jB (p:=⟨gb910,1,none⟩) (Kd.jB (p:=⟨gb910,0,none⟩) (Kd.jN HO_858000.out BK910.out (by decide)) (fun _ hk=>hk.2) (.bool t906)) (fun _ hk=>hk.2) (.int .i64 t907)) (fun _ hk=>hk.2) (.int .i64 t908)) (fun _ hk=>trivial)⟩
              have n4_:jv (Kd.R (Kd.int .i64) 3 (((w102.setCell ⟨gb910,0,none⟩ (.bool t906)).setCell ⟨gb910,1,none⟩ (.int .i64 t907)).setCell ⟨gb910,2,none⟩ (.int .i64 t908)) w.heap.size (fun k_=>some k_≠(.slice Ao63 t878.length co63:Value).ownBlock∧some k_≠(.slice Ao80 t892.length co80:Value).ownBlock) (.slice Ao54 t869.length co54) t869):=⟨by (with_reducible repeat (first | apply Kd.jK | apply Kd.jL | apply Kd.jH));exact Kd.jD (Kd.jB (p:=⟨gb910,2,none⟩) (Kd.jB (p:=⟨gb910,1,none⟩) (Kd.jB (p:=⟨gb910,0,none⟩) (Kd.jN HO871.out BK910.out (by decide)) (fun _ hk=>hk.2) (.bool t906)) (fun _ hk=>hk.2) (.int .i64 t907)) (fun _ hk=>hk.2) (.int .i64 t908)) (fun _ hk=>⟨hk.1.1.2,hk.1.2⟩)⟩
              have n5_:jv (Kd.R k90 90 (((w102.setCell ⟨gb910,0,none⟩ (.bool t906)).setCell ⟨gb910,1,none⟩ (.int .i64 t907)).setCell ⟨gb910,2,none⟩ (.int .i64 t908)) w.heap.size (fun k_=>some k_≠(.slice Ao68 t883.length co68:Value).ownBlock∧some k_≠(.slice Ao87 t897.length co87:Value).ownBlock) (.slice Ao58 t874.length co58) t874):=⟨by (with_reducible repeat (first | apply Kd.jK | apply Kd.jL | apply Kd.jH));exact Kd.jD (Kd.jB (p:=⟨gb910,2,none⟩) (Kd.jB (p:=⟨gb910,1,none⟩) (Kd.jB (p:=⟨gb910,0,none⟩) (Kd.jN HO876.out BK910.out (by decide)) (fun _ hk=>hk.2) (.bool t906)) (fun _ hk=>hk.2) (.int .i64 t907)) (fun _ hk=>hk.2) (.int .i64 t908)) (fun _ hk=>⟨hk.1.1.2,hk.1.2⟩)⟩
              have n6_:jv (Kd.R (Kd.int .i64) 3 (((w102.setCell ⟨gb910,0,none⟩ (.bool t906)).setCell ⟨gb910,1,none⟩ (.int .i64 t907)).setCell ⟨gb910,2,none⟩ (.int .i64 t908)) w.heap.size (fun k_=>some k_≠(.slice Ao54 t869.length co54:Value).ownBlock∧some k_≠(.slice Ao80 t892.length co80:Value).ownBlock) (.slice Ao63 t878.length co63) t878):=⟨by (with_reducible repeat (first | apply Kd.jK | apply Kd.jL | apply Kd.jH));exact Kd.jD (Kd.jB (p:=⟨gb910,2,none⟩) (Kd.jB (p:=⟨gb910,1,none⟩) (Kd.jB (p:=⟨gb910,0,none⟩) (Kd.jN HO880.out BK910.out (by decide)) (fun _ hk=>hk.2) (.bool t906)) (fun _ hk=>hk.2) (.int .i64 t907)) (fun _ hk=>hk.2) (.int .i64 t908)) (fun _ hk=>⟨hk.1.1.2,hk.1.2⟩)⟩
              have n7_:jv (Kd.R k90 90 (((w102.setCell ⟨gb910,0,none⟩ (.bool t906)).setCell ⟨gb910,1,none⟩ (.int .i64 t907)).setCell ⟨gb910,2,none⟩ (.int .i64 t908)) w.heap.size (fun k_=>some k_≠(.slice Ao58 t874.length co58:Value).ownBlock∧some k_≠(.slice Ao87 t897.length co87:Value).ownBlock) (.slice Ao68 t883.length co68) t883):=⟨by (with_reducible repeat (first | apply Kd.jK | apply Kd.jL | apply Kd.jH));exact Kd.jD (Kd.jB (p:=⟨gb910,2,none⟩) (Kd.jB (p:=⟨gb910,1,none⟩) (Kd.jB (p:=⟨gb910,0,none⟩) (Kd.jN HO885.out BK910.out (by decide)) (fun _ hk=>hk.2) (.bool t906)) (fun _ hk=>hk.2) (.int .i64 t907)) (fun _ hk=>hk.2) (.int .i64 t908)) (fun _ hk=>⟨hk.1.1.2,hk.1.2⟩)⟩
              have n8_:jv (Kd.R (Kd.int .i64) 3 (((w102.setCell ⟨gb910,0,none⟩ (.bool t906)).setCell ⟨gb910,1,none⟩ (.int .i64 t907)).setCell ⟨gb910,2,none⟩ (.int .i64 t908)) w.heap.size (fun k_=>some k_≠(.slice Ao54 t869.length co54:Value).ownBlock∧some k_≠(.slice Ao63 t878.length co63:Value).ownBlock) (.slice Ao80 t892.length co80) t892):=⟨by (with_reducible repeat (first | apply Kd.jK | apply Kd.jL | apply Kd.jH));exact Kd.jD (Kd.jB (p:=⟨gb910,2,none⟩) (Kd.jB (p:=⟨gb910,1,none⟩) (Kd.jB (p:=⟨gb910,0,none⟩) (Kd.jN HO894.out BK910.out (by decide)) (fun _ hk=>hk.2) (.bool t906)) (fun _ hk=>hk.2) (.int .i64 t907)) (fun _ hk=>hk.2) (.int .i64 t908)) (fun _ hk=>⟨hk.1.1.2,hk.1.2⟩)⟩
              have n9_:jv (Kd.R k90 90 (((w102.setCell ⟨gb910,0,none⟩ (.bool t906)).setCell ⟨gb910,1,none⟩ (.int .i64 t907)).setCell ⟨gb910,2,none⟩ (.int .i64 t908)) w.heap.size (fun k_=>some k_≠(.slice Ao58 t874.length co58:Value).ownBlock∧some k_≠(.slice Ao68 t883.length co68:Value).ownBlock) (.slice Ao87 t897.length co87) t897):=⟨by (with_reducible repeat (first | apply Kd.jK | apply Kd.jL | apply Kd.jH));exact Kd.jD (Kd.jB (p:=⟨gb910,2,none⟩) (Kd.jB (p:=⟨gb910,1,none⟩) (Kd.jB (p:=⟨gb910,0,none⟩) (Kd.jN HO899.out BK910.out (by decide)) (fun _ hk=>hk.2) (.bool t906)) (fun _ hk=>hk.2) (.int .i64 t907)) (fun _ hk=>hk.2) (.int .i64 t908)) (fun _ hk=>⟨hk.1.1.2,hk.1.2⟩)⟩
              have n10_:jv ((((w102.setCell ⟨gb910,0,none⟩ (.bool t906)).setCell ⟨gb910,1,none⟩ (.int .i64 t907)).setCell ⟨gb910,2,none⟩ (.int .i64 t908)).heap[gb857]?=some (.cells #[.slice Ao9 t848.length co9] 31 (0,0))):=⟨by (with_reducible repeat (first | refine jb ?_ _ | refine jc ?_ | refine ja ?_ _));refine jr ?_ NB857_910.out _;(with_reducible repeat (first | refine jb ?_ _ | refine jc ?_ | refine ja ?_ _));refine jr ?_ NB857_910.out _;(with_reducible repeat (first | refine jb ?_ _ | refine jc ?_ | refine ja ?_ _));refine jr ?_ NB857_910.out _;(with_reducible repeat (first | refine jb ?_ _ | refine jc ?_ | refine ja ?_ _));exact BK857.out⟩
              have n11_:jv ((((w102.setCell ⟨gb910,0,none⟩ (.bool t906)).setCell ⟨gb910,1,none⟩ (.int .i64 t907)).setCell ⟨gb910,2,none⟩ (.int .i64 t908)).heap[gb868]?=some (.cells #[.bool x869000_32, .int .i64 x869001_32, .int .i64 x869002_32] 50 (0,0))):=⟨by (with_reducible repeat (first | refine jb ?_ _ | refine jc ?_ | refine ja ?_ _));refine jr ?_ NB868_910.out _;(with_reducible repeat (first | refine jb ?_ _ | refine jc ?_ | refine ja ?_ _));refine jr ?_ NB868_910.out _;(with_reducible repeat (first | refine jb ?_ _ | refine jc ?_ | refine ja ?_ _));refine jr ?_ NB868_910.out _;(with_reducible repeat (first | refine jb ?_ _ | refine jc ?_ | refine ja ?_ _));exact BK868.out⟩
              have n12_:jv ((((w102.setCell ⟨gb910,0,none⟩ (.bool t906)).setCell ⟨gb910,1,none⟩ (.int .i64 t907)).setCell ⟨gb910,2,none⟩ (.int .i64 t908)).heap[gb877]?=some (.cells #[.slice Ao54 t869.length co54, .int .i64 t872, .int .i64 t873, .slice Ao58 t874.length co58] 55 (0,0))):=⟨by (with_reducible repeat (first | refine jb ?_ _ | refine jc ?_ | refine ja ?_ _));refine jr ?_ NB877_910.out _;(with_reducible repeat (first | refine jb ?_ _ | refine jc ?_ | refine ja ?_ _));refine jr ?_ NB877_910.out _;(with_reducible repeat (first | refine jb ?_ _ | refine jc ?_ | refine ja ?_ _));refine jr ?_ NB877_910.out _;(with_reducible repeat (first | refine jb ?_ _ | refine jc ?_ | refine ja ?_ _));exact BK877.out⟩
              have n13_:jv ((((w102.setCell ⟨gb910,0,none⟩ (.bool t906)).setCell ⟨gb910,1,none⟩ (.int .i64 t907)).setCell ⟨gb910,2,none⟩ (.int .i64 t908)).heap[gb886]?=some (.cells #[.slice Ao63 t878.length co63, .int .i64 t881, .int .i64 t882, .slice Ao68 t883.length co68] 55 (0,0))):=⟨by (with_reducible repeat (first | refine jb ?_ _ | refine jc ?_ | refine ja ?_ _));refine jr ?_ NB886_910.out _;(with_reducible repeat (first | refine jb ?_ _ | refine jc ?_ | refine ja ?_ _));refine jr ?_ NB886_910.out _;(with_reducible repeat (first | refine jb ?_ _ | refine jc ?_ | refine ja ?_ _));refine jr ?_ NB886_910.out _;(with_reducible repeat (first | refine jb ?_ _ | refine jc ?_ | refine ja ?_ _));exact BK886.out⟩
              have n14_:jv ((((w102.setCell ⟨gb910,0,none⟩ (.bool t906)).setCell ⟨gb910,1,none⟩ (.int .i64 t907)).setCell ⟨gb910,2,none⟩ (.int .i64 t908)).heap[gb891]?=some (.cells #[.bool t887, .int .i64 t888, .int .i64 t889] 50 (0,0))):=⟨by (with_reducible repeat (first | refine jb ?_ _ | refine jc ?_ | refine ja ?_ _));refine jr ?_ NB891_910.out _;(with_reducible repeat (first | refine jb ?_ _ | refine jc ?_ | refine ja ?_ _));refine jr ?_ NB891_910.out _;(with_reducible repeat (first | refine jb ?_ _ | refine jc ?_ | refine ja ?_ _));refine jr ?_ NB891_910.out _;(with_reducible repeat (first | refine jb ?_ _ | refine jc ?_ | refine ja ?_ _));exact BK891.out⟩
              have n15_:jv ((((w102.setCell ⟨gb910,0,none⟩ (.bool t906)).setCell ⟨gb910,1,none⟩ (.int .i64 t907)).setCell ⟨gb910,2,none⟩ (.int .i64 t908)).heap[gb900]?=some (.cells #[.slice Ao80 t892.length co80, .int .i64 t895, .int .i64 t896, .slice Ao87 t897.length co87] 55 (0,0))):=⟨by (with_reducible repeat (first | refine jb ?_ _ | refine jc ?_ | refine ja ?_ _));refine jr ?_ NB900_910.out _;(with_reducible repeat (first | refine jb ?_ _ | refine jc ?_ | refine ja ?_ _));refine jr ?_ NB900_910.out _;(with_reducible repeat (first | refine jb ?_ _ | refine jc ?_ | refine ja ?_ _));refine jr ?_ NB900_910.out _;(with_reducible repeat (first | refine jb ?_ _ | refine jc ?_ | refine ja ?_ _));exact BK900.out⟩
              have n16_:jv ((((w102.setCell ⟨gb910,0,none⟩ (.bool t906)).setCell ⟨gb910,1,none⟩ (.int .i64 t907)).setCell ⟨gb910,2,none⟩ (.int .i64 t908)).heap[gb905]?=some (.cells #[.bool t901, .int .i64 t902, .int .i64 t903] 50 (0,0))):=⟨by (with_reducible repeat (first | refine jb ?_ _ | refine jc ?_ | refine ja ?_ _));refine jr ?_ NB905_910.out _;(with_reducible repeat (first | refine jb ?_ _ | refine jc ?_ | refine ja ?_ _));refine jr ?_ NB905_910.out _;(with_reducible repeat (first | refine jb ?_ _ | refine jc ?_ | refine ja ?_ _));refine jr ?_ NB905_910.out _;(with_reducible repeat (first | refine jb ?_ _ | refine jc ?_ | refine ja ?_ _));exact BK905.out⟩
              have n17_:jv ((((w102.setCell ⟨gb910,0,none⟩ (.bool t906)).setCell ⟨gb910,1,none⟩ (.int .i64 t907)).setCell ⟨gb910,2,none⟩ (.int .i64 t908)).heap[gb910]?=some (.cells #[.bool t906, .int .i64 t907, .int .i64 t908] 50 (0,0))):=⟨by (with_reducible repeat (first | refine jb ?_ _ | refine jc ?_ | refine ja ?_ _));refine jO (cs:=#[.bool t906, .int .i64 t907, .int .i64 0]) ?_ 2 _ rfl;(with_reducible repeat (first | refine jb ?_ _ | refine jc ?_ | refine ja ?_ _));refine jO (cs:=#[.bool t906, .int .i64 0, .int .i64 0]) ?_ 1 _ rfl;(with_reducible repeat (first | refine jb ?_ _ | refine jc ?_ | refine ja ?_ _));refine jO (cs:=#[.bool false, .int .i64 0, .int .i64 0]) ?_ 0 _ rfl;(with_reducible repeat (first | refine jb ?_ _ | refine jc ?_ | refine ja ?_ _));exact BK910.out⟩
              have n18_:jv (Below w.heap.size w (((w102.setCell ⟨gb910,0,none⟩ (.bool t906)).setCell ⟨gb910,1,none⟩ (.int .i64 t907)).setCell ⟨gb910,2,none⟩ (.int .i64 t908))):=⟨Y15⟩
              (try clear HO_4)
              (try clear HO_5)
              (try clear HO_6)
              (try clear HO_858000)
              (try clear HO871)
              (try clear HO876)
              (try clear HO880)
              (try clear HO885)
              (try clear HO894)
              (try clear HO899)
              (try clear BK857)
              (try clear BK868)
              (try clear BK877)
              (try clear BK886)
              (try clear BK891)
              (try clear BK900)
              (try clear BK905)
              (try clear BK910)
              (try clear HB)
              generalize (((w102.setCell ⟨gb910,0,none⟩ (.bool t906)).setCell ⟨gb910,1,none⟩ (.int .i64 t907)).setCell ⟨gb910,2,none⟩ (.int .i64 t908))=w127 at n0_ n1_ n2_ n3_ n4_ n5_ n6_ n7_ n8_ n9_ n10_ n11_ n12_ n13_ n14_ n15_ n16_ n17_ n18_ ⊢
              have HO_4:=n0_
              have HO_5:=n1_
              have HO_6:=n2_
              have HO_858000:=n3_
              have HO871:=n4_
              have HO876:=n5_
              have HO880:=n6_
              have HO885:=n7_
              have HO894:=n8_
              have HO899:=n9_
              have BK857:=n10_
              have BK868:=n11_
              have BK877:=n12_
              have BK886:=n13_
              have BK891:=n14_
              have BK900:=n15_
              have BK905:=n16_
              have BK910:=n17_
              have HB:=n18_
              clear n0_ n1_ n2_ n3_ n4_ n5_ n6_ n7_ n8_ n9_ n10_ n11_ n12_ n13_ n14_ n15_ n16_ n17_ n18_
              replace HO_4:=am (Kd.jH HO_4.out)
              replace HO_5:=am (Kd.jH HO_5.out)
              replace HO_6:=am (Kd.jH HO_6.out)
              replace HO_858000:=am (Kd.jH HO_858000.out)
              replace HO871:=am (Kd.jH HO871.out)
              replace HO876:=am (Kd.jH HO876.out)
              replace HO880:=am (Kd.jH HO880.out)
              replace HO885:=am (Kd.jH HO885.out)
              replace HO894:=am (Kd.jH HO894.out)
              replace HO899:=am (Kd.jH HO899.out)
              replace BK857:=am (jc BK857.out)
              replace BK868:=am (jc BK868.out)
              replace BK877:=am (jc BK877.out)
              replace BK886:=am (jc BK886.out)
              replace BK891:=am (jc BK891.out)
              replace BK900:=am (jc BK900.out)
              replace BK905:=am (jc BK905.out)
              replace BK910:=am (jc BK910.out)
              replace HB:=am (jF HB.out)
              refine jkc (n:=28) (S:=fun w'=>True) (ds:=[]) #[false,false,false,false,false,false,false,false,false,false,false,false,false,false,false,false,false,false,false,false,false,false,false,false,false,false,false,false] (by kernel_rfl) rfl rfl trivial (fun hHeld=>?_);refine jJb jf.tab20 jf.bits20 (fun HT_ HW_=>?_)
              generalize w127.drew=w128 at HO_4 HO_5 HO_6 HO_858000 HO871 HO876 HO880 HO885 HO894 HO899 BK857 BK868 BK877 BK886 BK891 BK900 BK905 BK910 HB hHeld ⊢
              refine pq (i:=0) (N:=some 107) #[true,false,false,false,false,false,false,false,false,false,false,false,false,false,false,false,false,false,false,false,false,false,false,false,false,false,false,false] ?_
              refine pq (i:=1) (N:=some 108) #[true,true,false,false,false,false,false,false,false,false,false,false,false,false,false,false,false,false,false,false,false,false,false,false,false,false,false,false] ?_
              refine pq (i:=2) (N:=some 109) #[true,true,true,false,false,false,false,false,false,false,false,false,false,false,false,false,false,false,false,false,false,false,false,false,false,false,false,false] ?_
              refine pq (i:=3) (N:=some 110) #[true,true,true,true,false,false,false,false,false,false,false,false,false,false,false,false,false,false,false,false,false,false,false,false,false,false,false,false] ?_
              refine pq (i:=4) (N:=some 111) #[true,true,true,true,true,false,false,false,false,false,false,false,false,false,false,false,false,false,false,false,false,false,false,false,false,false,false,false] ?_
              refine pq (i:=5) (N:=some 112) #[true,true,true,true,true,true,false,false,false,false,false,false,false,false,false,false,false,false,false,false,false,false,false,false,false,false,false,false] ?_
              refine pq (i:=6) (N:=some 113) #[true,true,true,true,true,true,true,false,false,false,false,false,false,false,false,false,false,false,false,false,false,false,false,false,false,false,false,false] ?_
              refine pq (i:=7) (N:=some 114) #[true,true,true,true,true,true,true,true,false,false,false,false,false,false,false,false,false,false,false,false,false,false,false,false,false,false,false,false] ?_
              refine pq (i:=8) (N:=some 115) #[true,true,true,true,true,true,true,true,true,false,false,false,false,false,false,false,false,false,false,false,false,false,false,false,false,false,false,false] ?_
              refine pq (i:=9) (N:=some 116) #[true,true,true,true,true,true,true,true,true,true,false,false,false,false,false,false,false,false,false,false,false,false,false,false,false,false,false,false] ?_
              refine pq (i:=10) (N:=some 117) #[true,true,true,true,true,true,true,true,true,true,true,false,false,false,false,false,false,false,false,false,false,false,false,false,false,false,false,false] ?_
              refine jVa (i:=11) (N:=some 118) (v:=undef) (a':=?_) #[true,true,true,true,true,true,true,true,true,true,true,true,false,false,false,false,false,false,false,false,false,false,false,false,false,false,false,false] rfl rfl (jJa HT_.out (by kernel_rfl)) (fun _ _ _ h=>h) (Or.inr ⟨by rfl,rfl⟩) ?_ ?_
              rotate_left
              ·exact sa
              refine jVa (i:=12) (N:=some 119) (v:=undef) (a':=?_) #[true,true,true,true,true,true,true,true,true,true,true,true,true,false,false,false,false,false,false,false,false,false,false,false,false,false,false,false] rfl rfl (jJa HT_.out (by kernel_rfl)) (fun _ _ _ h=>h) (Or.inr ⟨by rfl,rfl⟩) ?_ ?_
              rotate_left
              ·exact sa
              refine jVa (i:=13) (N:=some 120) (v:=undef) (a':=?_) #[true,true,true,true,true,true,true,true,true,true,true,true,true,true,false,false,false,false,false,false,false,false,false,false,false,false,false,false] rfl rfl (jJa HT_.out (by kernel_rfl)) (fun _ _ _ h=>h) (Or.inr ⟨by rfl,rfl⟩) ?_ ?_
              rotate_left
              ·exact sa
              refine pq (i:=14) (N:=some 121) #[true,true,true,true,true,true,true,true,true,true,true,true,true,true,true,false,false,false,false,false,false,false,false,false,false,false,false,false] ?_
              refine pq (i:=15) (N:=some 122) #[true,true,true,true,true,true,true,true,true,true,true,true,true,true,true,true,false,false,false,false,false,false,false,false,false,false,false,false] ?_
              refine jVa (i:=16) (N:=some 123) (v:=undef) (a':=?_) #[true,true,true,true,true,true,true,true,true,true,true,true,true,true,true,true,true,false,false,false,false,false,false,false,false,false,false,false] rfl rfl (jJa HT_.out (by kernel_rfl)) (fun _ _ _ h=>h) (Or.inr ⟨by rfl,rfl⟩) ?_ ?_
              rotate_left
              ·exact sa
              refine jVa (i:=17) (N:=some 124) (v:=undef) (a':=?_) #[true,true,true,true,true,true,true,true,true,true,true,true,true,true,true,true,true,true,false,false,false,false,false,false,false,false,false,false] rfl rfl (jJa HT_.out (by kernel_rfl)) (fun _ _ _ h=>h) (Or.inr ⟨by rfl,rfl⟩) ?_ ?_
              rotate_left
              ·exact sa
              refine jVa (i:=18) (N:=some 125) (v:=undef) (a':=?_) #[true,true,true,true,true,true,true,true,true,true,true,true,true,true,true,true,true,true,true,false,false,false,false,false,false,false,false,false] rfl rfl (jJa HT_.out (by kernel_rfl)) (fun _ _ _ h=>h) (Or.inr ⟨by rfl,rfl⟩) ?_ ?_
              rotate_left
              ·exact sa
              refine jVa (i:=19) (N:=some 126) (v:=undef) (a':=?_) #[true,true,true,true,true,true,true,true,true,true,true,true,true,true,true,true,true,true,true,true,false,false,false,false,false,false,false,false] rfl rfl (jJa HT_.out (by kernel_rfl)) (fun _ _ _ h=>h) (Or.inr ⟨by rfl,rfl⟩) ?_ ?_
              rotate_left
              ·exact sa
              refine jVa (i:=20) (N:=some 127) (v:=undef) (a':=?_) #[true,true,true,true,true,true,true,true,true,true,true,true,true,true,true,true,true,true,true,true,true,false,false,false,false,false,false,false] rfl rfl (jJa HT_.out (by kernel_rfl)) (fun _ _ _ h=>h) (Or.inr ⟨by rfl,rfl⟩) ?_ ?_
              rotate_left
              ·exact sa
              refine jVa (i:=21) (N:=some 128) (v:=undef) (a':=?_) #[true,true,true,true,true,true,true,true,true,true,true,true,true,true,true,true,true,true,true,true,true,true,false,false,false,false,false,false] rfl rfl (jJa HT_.out (by kernel_rfl)) (fun _ _ _ h=>h) (Or.inr ⟨by rfl,rfl⟩) ?_ ?_
              rotate_left
              ·exact sa
              refine jVa (i:=22) (N:=some 129) (v:=undef) (a':=?_) #[true,true,true,true,true,true,true,true,true,true,true,true,true,true,true,true,true,true,true,true,true,true,true,false,false,false,false,false] rfl rfl (jJa HT_.out (by kernel_rfl)) (fun _ _ _ h=>h) (Or.inr ⟨by rfl,rfl⟩) ?_ ?_
              rotate_left
              ·exact sa
              refine jVa (i:=23) (N:=some 130) (v:=undef) (a':=?_) #[true,true,true,true,true,true,true,true,true,true,true,true,true,true,true,true,true,true,true,true,true,true,true,true,false,false,false,false] rfl rfl (jJa HT_.out (by kernel_rfl)) (fun _ _ _ h=>h) (Or.inr ⟨by rfl,rfl⟩) ?_ ?_
              rotate_left
              ·exact sa
              refine jVa (i:=24) (N:=some 131) (v:=undef) (a':=?_) #[true,true,true,true,true,true,true,true,true,true,true,true,true,true,true,true,true,true,true,true,true,true,true,true,true,false,false,false] rfl rfl (jJa HT_.out (by kernel_rfl)) (fun _ _ _ h=>h) (Or.inr ⟨by rfl,rfl⟩) ?_ ?_
              rotate_left
              ·exact sa
              refine jVa (i:=25) (N:=some 132) (v:=undef) (a':=?_) #[true,true,true,true,true,true,true,true,true,true,true,true,true,true,true,true,true,true,true,true,true,true,true,true,true,true,false,false] rfl rfl (jJa HT_.out (by kernel_rfl)) (fun _ _ _ h=>h) (Or.inr ⟨by rfl,rfl⟩) ?_ ?_
              rotate_left
              ·exact sa
              refine jVa (i:=26) (N:=some 133) (v:=undef) (a':=?_) #[true,true,true,true,true,true,true,true,true,true,true,true,true,true,true,true,true,true,true,true,true,true,true,true,true,true,true,false] rfl rfl (jJa HT_.out (by kernel_rfl)) (fun _ _ _ h=>h) (Or.inr ⟨by rfl,rfl⟩) ?_ ?_
              rotate_left
              ·exact sa
              refine pq (i:=27) (N:=some 134) #[true,true,true,true,true,true,true,true,true,true,true,true,true,true,true,true,true,true,true,true,true,true,true,true,true,true,true,true] ?_
              refine done_ (jgc HT_.out (by kernel_rfl)) ?_
              try go_wp2
              go_meet
              case rel=>exact ⟨_,(true),(sq),H',⟨by have:=HJ5.out;have:=HK2.out;have:=HJ32.out;first | omega | exact Nat.le_refl _⟩,⟨rq HO_4.out⟩,⟨rq HO_5.out⟩,⟨rq HO_6.out⟩,⟨rq HO_858000.out⟩,⟨rq HO871.out⟩,⟨rq HO876.out⟩,⟨rq HO880.out⟩,⟨rq HO885.out⟩,⟨rq HO894.out⟩,⟨rq HO899.out⟩,⟨kq BK857.out⟩,⟨kq BK868.out⟩,⟨kq BK877.out⟩,⟨kq BK886.out⟩,⟨kq BK891.out⟩,⟨kq BK900.out⟩,⟨kq BK905.out⟩,⟨kq BK910.out⟩,⟨Y15⟩⟩
            ·replace c112:=Bool.eq_false_iff.mpr c112
             subst c112
             have H1:(jf.j3 kj32 t851 t854 t858 x10_2 true t848)=some r:=by rw [if_neg (show ¬ (false=true) by decide)] at H;exact H
             clear H
             have H:=H1
             clear H1
             have H':=am H
             clear H
             try go_wp2
             have n0_:jv (Kd.R k44 44 (((w102.setCell ⟨gb910,0,none⟩ (.bool t906)).setCell ⟨gb910,1,none⟩ (.int .i64 t907)).setCell ⟨gb910,2,none⟩ (.int .i64 t908)) w.heap.size (fun k_=>some k_≠(.slice Ao14 t854.length co14:Value).ownBlock∧some k_≠(.slice Ao51 t858.length co51:Value).ownBlock) (.slice Ao13 t851.length co13) t851):=⟨by (with_reducible repeat (first | apply Kd.jK | apply Kd.jL | apply Kd.jH));exact Kd.jD (Kd.jB (p:=⟨gb910,2,none⟩) (Kd.jB (p:=⟨gb910,1,none⟩) (Kd.jB (p:=⟨gb910,0,none⟩) (Kd.jN HO_4.out BK910.out (by decide)) (fun _ hk=>hk.2) (.bool t906)) (fun _ hk=>hk.2) (.int .i64 t907)) (fun _ hk=>hk.2) (.int .i64 t908)) (fun _ hk=>⟨hk.1.1,hk.1.2⟩)⟩
             have n1_:jv (Kd.R k44 44 (((w102.setCell ⟨gb910,0,none⟩ (.bool t906)).setCell ⟨gb910,1,none⟩ (.int .i64 t907)).setCell ⟨gb910,2,none⟩ (.int .i64 t908)) w.heap.size (fun k_=>some k_≠(.slice Ao13 t851.length co13:Value).ownBlock∧some k_≠(.slice Ao51 t858.length co51:Value).ownBlock) (.slice Ao14 t854.length co14) t854):=⟨by (with_reducible repeat (first | apply Kd.jK | apply Kd.jL | apply Kd.jH));exact Kd.jD (Kd.jB (p:=⟨gb910,2,none⟩) (Kd.jB (p:=⟨gb910,1,none⟩) (Kd.jB (p:=⟨gb910,0,none⟩) (Kd.jN HO_5.out BK910.out (by decide)) (fun _ hk=>hk.2) (.bool t906)) (fun _ hk=>hk.2) (.int .i64 t907)) (fun _ hk=>hk.2) (.int .i64 t908)) (fun _ hk=>⟨hk.1.1,hk.1.2⟩)⟩
             have n2_:jv (Kd.R k44 44 (((w102.setCell ⟨gb910,0,none⟩ (.bool t906)).setCell ⟨gb910,1,none⟩ (.int .i64 t907)).setCell ⟨gb910,2,none⟩ (.int .i64 t908)) w.heap.size (fun k_=>some k_≠(.slice Ao13 t851.length co13:Value).ownBlock∧some k_≠(.slice Ao14 t854.length co14:Value).ownBlock) (.slice Ao51 t858.length co51) t858):=⟨by (with_reducible repeat (first | apply Kd.jK | apply Kd.jL | apply Kd.jH));exact Kd.jD (Kd.jB (p:=⟨gb910,2,none⟩) (Kd.jB (p:=⟨gb910,1,none⟩) (Kd.jB (p:=⟨gb910,0,none⟩) (Kd.jN HO_6.out BK910.out (by decide)) (fun _ hk=>hk.2) (.bool t906)) (fun _ hk=>hk.2) (.int .i64 t907)) (fun _ hk=>hk.2) (.int .i64 t908)) (fun _ hk=>⟨hk.1.1,hk.1.2⟩)⟩
             have n3_:jv (Kd.R k106 106 (((w102.setCell ⟨gb910,0,none⟩ (.bool t906)).setCell ⟨gb910,1,none⟩ (.int .i64 t907)).setCell ⟨gb910,2,none⟩ (.int .i64 t908)) w.heap.size (fun _=>True) (.slice Ao9 t848.length co9) t848):=⟨by (with_reducible repeat (first | apply Kd.jK | apply Kd.jL | apply Kd.jH));exact Kd.jD (Kd.jB (p:=⟨gb910,2,none⟩) (Kd.jB (p:=⟨gb910,1,none⟩) (Kd.jB (p:=⟨gb910,0,none⟩) (Kd.jN HO_858000.out BK910.out (by decide)) (fun _ hk=>hk.2) (.bool t906)) (fun _ hk=>hk.2) (.int .i64 t907)) (fun _ hk=>hk.2) (.int .i64 t908)) (fun _ hk=>trivial)⟩
             have n4_:jv (Kd.R (Kd.int .i64) 3 (((w102.setCell ⟨gb910,0,none⟩ (.bool t906)).setCell ⟨gb910,1,none⟩ (.int .i64 t907)).setCell ⟨gb910,2,none⟩ (.int .i64 t908)) w.heap.size (fun k_=>some k_≠(.slice Ao63 t878.length co63:Value).ownBlock∧some k_≠(.slice Ao80 t892.length co80:Value).ownBlock) (.slice Ao54 t869.length co54) t869):=⟨by (with_reducible repeat (first | apply Kd.jK | apply Kd.jL | apply Kd.jH));exact Kd.jD (Kd.jB (p:=⟨gb910,2,none⟩) (Kd.jB (p:=⟨gb910,1,none⟩) (Kd.jB (p:=⟨gb910,0,none⟩) (Kd.jN HO871.out BK910.out (by decide)) (fun _ hk=>hk.2) (.bool t906)) (fun _ hk=>hk.2) (.int .i64 t907)) (fun _ hk=>hk.2) (.int .i64 t908)) (fun _ hk=>⟨hk.1.1.2,hk.1.2⟩)⟩
             have n5_:jv (Kd.R k90 90 (((w102.setCell ⟨gb910,0,none⟩ (.bool t906)).setCell ⟨gb910,1,none⟩ (.int .i64 t907)).setCell ⟨gb910,2,none⟩ (.int .i64 t908)) w.heap.size (fun k_=>some k_≠(.slice Ao68 t883.length co68:Value).ownBlock∧some k_≠(.slice Ao87 t897.length co87:Value).ownBlock) (.slice Ao58 t874.length co58) t874):=⟨by (with_reducible repeat (first | apply Kd.jK | apply Kd.jL | apply Kd.jH));exact Kd.jD (Kd.jB (p:=⟨gb910,2,none⟩) (Kd.jB (p:=⟨gb910,1,none⟩) (Kd.jB (p:=⟨gb910,0,none⟩) (Kd.jN HO876.out BK910.out (by decide)) (fun _ hk=>hk.2) (.bool t906)) (fun _ hk=>hk.2) (.int .i64 t907)) (fun _ hk=>hk.2) (.int .i64 t908)) (fun _ hk=>⟨hk.1.1.2,hk.1.2⟩)⟩
             have n6_:jv (Kd.R (Kd.int .i64) 3 (((w102.setCell ⟨gb910,0,none⟩ (.bool t906)).setCell ⟨gb910,1,none⟩ (.int .i64 t907)).setCell ⟨gb910,2,none⟩ (.int .i64 t908)) w.heap.size (fun k_=>some k_≠(.slice Ao54 t869.length co54:Value).ownBlock∧some k_≠(.slice Ao80 t892.length co80:Value).ownBlock) (.slice Ao63 t878.length co63) t878):=⟨by (with_reducible repeat (first | apply Kd.jK | apply Kd.jL | apply Kd.jH));exact Kd.jD (Kd.jB (p:=⟨gb910,2,none⟩) (Kd.jB (p:=⟨gb910,1,none⟩) (Kd.jB (p:=⟨gb910,0,none⟩) (Kd.jN HO880.out BK910.out (by decide)) (fun _ hk=>hk.2) (.bool t906)) (fun _ hk=>hk.2) (.int .i64 t907)) (fun _ hk=>hk.2) (.int .i64 t908)) (fun _ hk=>⟨hk.1.1.2,hk.1.2⟩)⟩
             have n7_:jv (Kd.R k90 90 (((w102.setCell ⟨gb910,0,none⟩ (.bool t906)).setCell ⟨gb910,1,none⟩ (.int .i64 t907)).setCell ⟨gb910,2,none⟩ (.int .i64 t908)) w.heap.size (fun k_=>some k_≠(.slice Ao58 t874.length co58:Value).ownBlock∧some k_≠(.slice Ao87 t897.length co87:Value).ownBlock) (.slice Ao68 t883.length co68) t883):=⟨by (with_reducible repeat (first | apply Kd.jK | apply Kd.jL | apply Kd.jH));exact Kd.jD (Kd.jB (p:=⟨gb910,2,none⟩) (Kd.jB (p:=⟨gb910,1,none⟩) (Kd.jB (p:=⟨gb910,0,none⟩) (Kd.jN HO885.out BK910.out (by decide)) (fun _ hk=>hk.2) (.bool t906)) (fun _ hk=>hk.2) (.int .i64 t907)) (fun _ hk=>hk.2) (.int .i64 t908)) (fun _ hk=>⟨hk.1.1.2,hk.1.2⟩)⟩
             have n8_:jv (Kd.R (Kd.int .i64) 3 (((w102.setCell ⟨gb910,0,none⟩ (.bool t906)).setCell ⟨gb910,1,none⟩ (.int .i64 t907)).setCell ⟨gb910,2,none⟩ (.int .i64 t908)) w.heap.size (fun k_=>some k_≠(.slice Ao54 t869.length co54:Value).ownBlock∧some k_≠(.slice Ao63 t878.length co63:Value).ownBlock) (.slice Ao80 t892.length co80) t892):=⟨by (with_reducible repeat (first | apply Kd.jK | apply Kd.jL | apply Kd.jH));exact Kd.jD (Kd.jB (p:=⟨gb910,2,none⟩) (Kd.jB (p:=⟨gb910,1,none⟩) (Kd.jB (p:=⟨gb910,0,none⟩) (Kd.jN HO894.out BK910.out (by decide)) (fun _ hk=>hk.2) (.bool t906)) (fun _ hk=>hk.2) (.int .i64 t907)) (fun _ hk=>hk.2) (.int .i64 t908)) (fun _ hk=>⟨hk.1.1.2,hk.1.2⟩)⟩
             have n9_:jv (Kd.R k90 90 (((w102.setCell ⟨gb910,0,none⟩ (.bool t906)).setCell ⟨gb910,1,none⟩ (.int .i64 t907)).setCell ⟨gb910,2,none⟩ (.int .i64 t908)) w.heap.size (fun k_=>some k_≠(.slice Ao58 t874.length co58:Value).ownBlock∧some k_≠(.slice Ao68 t883.length co68:Value).ownBlock) (.slice Ao87 t897.length co87) t897):=⟨by (with_reducible repeat (first | apply Kd.jK | apply Kd.jL | apply Kd.jH));exact Kd.jD (Kd.jB (p:=⟨gb910,2,none⟩) (Kd.jB (p:=⟨gb910,1,none⟩) (Kd.jB (p:=⟨gb910,0,none⟩) (Kd.jN HO899.out BK910.out (by decide)) (fun _ hk=>hk.2) (.bool t906)) (fun _ hk=>hk.2) (.int .i64 t907)) (fun _ hk=>hk.2) (.int .i64 t908)) (fun _ hk=>⟨hk.1.1.2,hk.1.2⟩)⟩
             have n10_:jv ((((w102.setCell ⟨gb910,0,none⟩ (.bool t906)).setCell ⟨gb910,1,none⟩ (.int .i64 t907)).setCell ⟨gb910,2,none⟩ (.int .i64 t908)).heap[gb857]?=some (.cells #[.slice Ao9 t848.length co9] 31 (0,0))):=⟨by (with_reducible repeat (first | refine jb ?_ _ | refine jc ?_ | refine ja ?_ _));refine jr ?_ NB857_910.out _;(with_reducible repeat (first | refine jb ?_ _ | refine jc ?_ | refine ja ?_ _));refine jr ?_ NB857_910.out _;(with_reducible repeat (first | refine jb ?_ _ | refine jc ?_ | refine ja ?_ _));refine jr ?_ NB857_910.out _;(with_reducible repeat (first | refine jb ?_ _ | refine jc ?_ | refine ja ?_ _));exact BK857.out⟩
             have n11_:jv ((((w102.setCell ⟨gb910,0,none⟩ (.bool t906)).setCell ⟨gb910,1,none⟩ (.int .i64 t907)).setCell ⟨gb910,2,none⟩ (.int .i64 t908)).heap[gb868]?=some (.cells #[.bool x869000_32, .int .i64 x869001_32, .int .i64 x869002_32] 50 (0,0))):=⟨by (with_reducible repeat (first | refine jb ?_ _ | refine jc ?_ | refine ja ?_ _));refine jr ?_ NB868_910.out _;(with_reducible repeat (first | refine jb ?_ _ | refine jc ?_ | refine ja ?_ _));refine jr ?_ NB868_910.out _;(with_reducible repeat (first | refine jb ?_ _ | refine jc ?_ | refine ja ?_ _));refine jr ?_ NB868_910.out _;(with_reducible repeat (first | refine jb ?_ _ | refine jc ?_ | refine ja ?_ _));exact BK868.out⟩
             have n12_:jv ((((w102.setCell ⟨gb910,0,none⟩ (.bool t906)).setCell ⟨gb910,1,none⟩ (.int .i64 t907)).setCell ⟨gb910,2,none⟩ (.int .i64 t908)).heap[gb877]?=some (.cells #[.slice Ao54 t869.length co54, .int .i64 t872, .int .i64 t873, .slice Ao58 t874.length co58] 55 (0,0))):=⟨by (with_reducible repeat (first | refine jb ?_ _ | refine jc ?_ | refine ja ?_ _));refine jr ?_ NB877_910.out _;(with_reducible repeat (first | refine jb ?_ _ | refine jc ?_ | refine ja ?_ _));refine jr ?_ NB877_910.out _;(with_reducible repeat (first | refine jb ?_ _ | refine jc ?_ | refine ja ?_ _));refine jr ?_ NB877_910.out _;(with_reducible repeat (first | refine jb ?_ _ | refine jc ?_ | refine ja ?_ _));exact BK877.out⟩
             have n13_:jv ((((w102.setCell ⟨gb910,0,none⟩ (.bool t906)).setCell ⟨gb910,1,none⟩ (.int .i64 t907)).setCell ⟨gb910,2,none⟩ (.int .i64 t908)).heap[gb886]?=some (.cells #[.slice Ao63 t878.length co63, .int .i64 t881, .int .i64 t882, .slice Ao68 t883.length co68] 55 (0,0))):=⟨by (with_reducible repeat (first | refine jb ?_ _ | refine jc ?_ | refine ja ?_ _));refine jr ?_ NB886_910.out _;(with_reducible repeat (first | refine jb ?_ _ | refine jc ?_ | refine ja ?_ _));refine jr ?_ NB886_910.out _;(with_reducible repeat (first | refine jb ?_ _ | refine jc ?_ | refine ja ?_ _));refine jr ?_ NB886_910.out _;(with_reducible repeat (first | refine jb ?_ _ | refine jc ?_ | refine ja ?_ _));exact BK886.out⟩
             have n14_:jv ((((w102.setCell ⟨gb910,0,none⟩ (.bool t906)).setCell ⟨gb910,1,none⟩ (.int .i64 t907)).setCell ⟨gb910,2,none⟩ (.int .i64 t908)).heap[gb891]?=some (.cells #[.bool t887, .int .i64 t888, .int .i64 t889] 50 (0,0))):=⟨by (with_reducible repeat (first | refine jb ?_ _ | refine jc ?_ | refine ja ?_ _));refine jr ?_ NB891_910.out _;(with_reducible repeat (first | refine jb ?_ _ | refine jc ?_ | refine ja ?_ _));refine jr ?_ NB891_910.out _;(with_reducible repeat (first | refine jb ?_ _ | refine jc ?_ | refine ja ?_ _));refine jr ?_ NB891_910.out _;(with_reducible repeat (first | refine jb ?_ _ | refine jc ?_ | refine ja ?_ _));exact BK891.out⟩
             have n15_:jv ((((w102.setCell ⟨gb910,0,none⟩ (.bool t906)).setCell ⟨gb910,1,none⟩ (.int .i64 t907)).setCell ⟨gb910,2,none⟩ (.int .i64 t908)).heap[gb900]?=some (.cells #[.slice Ao80 t892.length co80, .int .i64 t895, .int .i64 t896, .slice Ao87 t897.length co87] 55 (0,0))):=⟨by (with_reducible repeat (first | refine jb ?_ _ | refine jc ?_ | refine ja ?_ _));refine jr ?_ NB900_910.out _;(with_reducible repeat (first | refine jb ?_ _ | refine jc ?_ | refine ja ?_ _));refine jr ?_ NB900_910.out _;(with_reducible repeat (first | refine jb ?_ _ | refine jc ?_ | refine ja ?_ _));refine jr ?_ NB900_910.out _;(with_reducible repeat (first | refine jb ?_ _ | refine jc ?_ | refine ja ?_ _));exact BK900.out⟩
             have n16_:jv ((((w102.setCell ⟨gb910,0,none⟩ (.bool t906)).setCell ⟨gb910,1,none⟩ (.int .i64 t907)).setCell ⟨gb910,2,none⟩ (.int .i64 t908)).heap[gb905]?=some (.cells #[.bool t901, .int .i64 t902, .int .i64 t903] 50 (0,0))):=⟨by (with_reducible repeat (first | refine jb ?_ _ | refine jc ?_ | refine ja ?_ _));refine jr ?_ NB905_910.out _;(with_reducible repeat (first | refine jb ?_ _ | refine jc ?_ | refine ja ?_ _));refine jr ?_ NB905_910.out _;(with_reducible repeat (first | refine jb ?_ _ | refine jc ?_ | refine ja ?_ _));refine jr ?_ NB905_910.out _;(with_reducible repeat (first | refine jb ?_ _ | refine jc ?_ | refine ja ?_ _));exact BK905.out⟩
             have n17_:jv ((((w102.setCell ⟨gb910,0,none⟩ (.bool t906)).setCell ⟨gb910,1,none⟩ (.int .i64 t907)).setCell ⟨gb910,2,none⟩ (.int .i64 t908)).heap[gb910]?=some (.cells #[.bool t906, .int .i64 t907, .int .i64 t908] 50 (0,0))):=⟨by (with_reducible repeat (first | refine jb ?_ _ | refine jc ?_ | refine ja ?_ _));refine jO (cs:=#[.bool t906, .int .i64 t907, .int .i64 0]) ?_ 2 _ rfl;(with_reducible repeat (first | refine jb ?_ _ | refine jc ?_ | refine ja ?_ _));refine jO (cs:=#[.bool t906, .int .i64 0, .int .i64 0]) ?_ 1 _ rfl;(with_reducible repeat (first | refine jb ?_ _ | refine jc ?_ | refine ja ?_ _));refine jO (cs:=#[.bool false, .int .i64 0, .int .i64 0]) ?_ 0 _ rfl;(with_reducible repeat (first | refine jb ?_ _ | refine jc ?_ | refine ja ?_ _));exact BK910.out⟩
             have n18_:jv (Below w.heap.size w (((w102.setCell ⟨gb910,0,none⟩ (.bool t906)).setCell ⟨gb910,1,none⟩ (.int .i64 t907)).setCell ⟨gb910,2,none⟩ (.int .i64 t908))):=⟨Y15⟩
             (try clear HO_4)
             (try clear HO_5)
             (try clear HO_6)
             (try clear HO_858000)
             (try clear HO871)
             (try clear HO876)
             (try clear HO880)
             (try clear HO885)
             (try clear HO894)
             (try clear HO899)
             (try clear BK857)
             (try clear BK868)
             (try clear BK877)
             (try clear BK886)
             (try clear BK891)
             (try clear BK900)
             (try clear BK905)
             (try clear BK910)
             (try clear HB)
             generalize (((w102.setCell ⟨gb910,0,none⟩ (.bool t906)).setCell ⟨gb910,1,none⟩ (.int .i64 t907)).setCell ⟨gb910,2,none⟩ (.int .i64 t908))=w129 at n0_ n1_ n2_ n3_ n4_ n5_ n6_ n7_ n8_ n9_ n10_ n11_ n12_ n13_ n14_ n15_ n16_ n17_ n18_ ⊢
             have HO_4:=n0_
             have HO_5:=n1_
             have HO_6:=n2_
             have HO_858000:=n3_
             have HO871:=n4_
             have HO876:=n5_
             have HO880:=n6_
             have HO885:=n7_
             have HO894:=n8_
             have HO899:=n9_
             have BK857:=n10_
             have BK868:=n11_
             have BK877:=n12_
             have BK886:=n13_
             have BK891:=n14_
             have BK900:=n15_
             have BK905:=n16_
             have BK910:=n17_
             have HB:=n18_
             clear n0_ n1_ n2_ n3_ n4_ n5_ n6_ n7_ n8_ n9_ n10_ n11_ n12_ n13_ n14_ n15_ n16_ n17_ n18_
             replace HO_4:=am (Kd.jH HO_4.out)
             replace HO_5:=am (Kd.jH HO_5.out)
             replace HO_6:=am (Kd.jH HO_6.out)
             replace HO_858000:=am (Kd.jH HO_858000.out)
             replace HO871:=am (Kd.jH HO871.out)
             replace HO876:=am (Kd.jH HO876.out)
             replace HO880:=am (Kd.jH HO880.out)
             replace HO885:=am (Kd.jH HO885.out)
             replace HO894:=am (Kd.jH HO894.out)
             replace HO899:=am (Kd.jH HO899.out)
             replace BK857:=am (jc BK857.out)
             replace BK868:=am (jc BK868.out)
             replace BK877:=am (jc BK877.out)
             replace BK886:=am (jc BK886.out)
             replace BK891:=am (jc BK891.out)
             replace BK900:=am (jc BK900.out)
             replace BK905:=am (jc BK905.out)
             replace BK910:=am (jc BK910.out)
             replace HB:=am (jF HB.out)
             refine jkc (n:=28) (S:=fun w'=>True) (ds:=[]) #[false,false,false,false,false,false,false,false,false,false,false,false,false,false,false,false,false,false,false,false,false,false,false,false,false,false,false,false] (by kernel_rfl) rfl rfl trivial (fun hHeld=>?_);refine jJb jf.tab20 jf.bits20 (fun HT_ HW_=>?_)
             generalize w129.drew=w130 at HO_4 HO_5 HO_6 HO_858000 HO871 HO876 HO880 HO885 HO894 HO899 BK857 BK868 BK877 BK886 BK891 BK900 BK905 BK910 HB hHeld ⊢
             refine pq (i:=0) (N:=some 107) #[true,false,false,false,false,false,false,false,false,false,false,false,false,false,false,false,false,false,false,false,false,false,false,false,false,false,false,false] ?_
             refine pq (i:=1) (N:=some 108) #[true,true,false,false,false,false,false,false,false,false,false,false,false,false,false,false,false,false,false,false,false,false,false,false,false,false,false,false] ?_
             refine pq (i:=2) (N:=some 109) #[true,true,true,false,false,false,false,false,false,false,false,false,false,false,false,false,false,false,false,false,false,false,false,false,false,false,false,false] ?_
             refine pq (i:=3) (N:=some 110) #[true,true,true,true,false,false,false,false,false,false,false,false,false,false,false,false,false,false,false,false,false,false,false,false,false,false,false,false] ?_
             refine pq (i:=4) (N:=some 111) #[true,true,true,true,true,false,false,false,false,false,false,false,false,false,false,false,false,false,false,false,false,false,false,false,false,false,false,false] ?_
             refine pq (i:=5) (N:=some 112) #[true,true,true,true,true,true,false,false,false,false,false,false,false,false,false,false,false,false,false,false,false,false,false,false,false,false,false,false] ?_
             refine pq (i:=6) (N:=some 113) #[true,true,true,true,true,true,true,false,false,false,false,false,false,false,false,false,false,false,false,false,false,false,false,false,false,false,false,false] ?_
             refine jVa (i:=7) (N:=some 114) (v:=undef) (a':=?_) #[true,true,true,true,true,true,true,true,false,false,false,false,false,false,false,false,false,false,false,false,false,false,false,false,false,false,false,false] rfl rfl (jJa HT_.out (by kernel_rfl)) (fun _ _ _ h=>h) (Or.inr ⟨by rfl,rfl⟩) ?_ ?_
             rotate_left
             ·exact sa
             refine jVa (i:=8) (N:=some 115) (v:=undef) (a':=?_) #[true,true,true,true,true,true,true,true,true,false,false,false,false,false,false,false,false,false,false,false,false,false,false,false,false,false,false,false] rfl rfl (jJa HT_.out (by kernel_rfl)) (fun _ _ _ h=>h) (Or.inr ⟨by rfl,rfl⟩) ?_ ?_
             rotate_left
             ·exact sa
             refine pq (i:=9) (N:=some 116) #[true,true,true,true,true,true,true,true,true,true,false,false,false,false,false,false,false,false,false,false,false,false,false,false,false,false,false,false] ?_
             refine pq (i:=10) (N:=some 117) #[true,true,true,true,true,true,true,true,true,true,true,false,false,false,false,false,false,false,false,false,false,false,false,false,false,false,false,false] ?_
             refine jVa (i:=11) (N:=some 118) (v:=undef) (a':=?_) #[true,true,true,true,true,true,true,true,true,true,true,true,false,false,false,false,false,false,false,false,false,false,false,false,false,false,false,false] rfl rfl (jJa HT_.out (by kernel_rfl)) (fun _ _ _ h=>h) (Or.inr ⟨by rfl,rfl⟩) ?_ ?_
             rotate_left
             ·exact sa
             refine jVa (i:=12) (N:=some 119) (v:=undef) (a':=?_) #[true,true,true,true,true,true,true,true,true,true,true,true,true,false,false,false,false,false,false,false,false,false,false,false,false,false,false,false] rfl rfl (jJa HT_.out (by kernel_rfl)) (fun _ _ _ h=>h) (Or.inr ⟨by rfl,rfl⟩) ?_ ?_
             rotate_left
             ·exact sa
             refine jVa (i:=13) (N:=some 120) (v:=undef) (a':=?_) #[true,true,true,true,true,true,true,true,true,true,true,true,true,true,false,false,false,false,false,false,false,false,false,false,false,false,false,false] rfl rfl (jJa HT_.out (by kernel_rfl)) (fun _ _ _ h=>h) (Or.inr ⟨by rfl,rfl⟩) ?_ ?_
             rotate_left
             ·exact sa
             refine pq (i:=14) (N:=some 121) #[true,true,true,true,true,true,true,true,true,true,true,true,true,true,true,false,false,false,false,false,false,false,false,false,false,false,false,false] ?_
             refine pq (i:=15) (N:=some 122) #[true,true,true,true,true,true,true,true,true,true,true,true,true,true,true,true,false,false,false,false,false,false,false,false,false,false,false,false] ?_
             refine jVa (i:=16) (N:=some 123) (v:=undef) (a':=?_) #[true,true,true,true,true,true,true,true,true,true,true,true,true,true,true,true,true,false,false,false,false,false,false,false,false,false,false,false] rfl rfl (jJa HT_.out (by kernel_rfl)) (fun _ _ _ h=>h) (Or.inr ⟨by rfl,rfl⟩) ?_ ?_
             rotate_left
             ·exact sa
             refine jVa (i:=17) (N:=some 124) (v:=undef) (a':=?_) #[true,true,true,true,true,true,true,true,true,true,true,true,true,true,true,true,true,true,false,false,false,false,false,false,false,false,false,false] rfl rfl (jJa HT_.out (by kernel_rfl)) (fun _ _ _ h=>h) (Or.inr ⟨by rfl,rfl⟩) ?_ ?_
             rotate_left
             ·exact sa
             refine jVa (i:=18) (N:=some 125) (v:=undef) (a':=?_) #[true,true,true,true,true,true,true,true,true,true,true,true,true,true,true,true,true,true,true,false,false,false,false,false,false,false,false,false] rfl rfl (jJa HT_.out (by kernel_rfl)) (fun _ _ _ h=>h) (Or.inr ⟨by rfl,rfl⟩) ?_ ?_
             rotate_left
             ·exact sa
             refine jVa (i:=19) (N:=some 126) (v:=undef) (a':=?_) #[true,true,true,true,true,true,true,true,true,true,true,true,true,true,true,true,true,true,true,true,false,false,false,false,false,false,false,false] rfl rfl (jJa HT_.out (by kernel_rfl)) (fun _ _ _ h=>h) (Or.inr ⟨by rfl,rfl⟩) ?_ ?_
             rotate_left
             ·exact sa
             refine jVa (i:=20) (N:=some 127) (v:=undef) (a':=?_) #[true,true,true,true,true,true,true,true,true,true,true,true,true,true,true,true,true,true,true,true,true,false,false,false,false,false,false,false] rfl rfl (jJa HT_.out (by kernel_rfl)) (fun _ _ _ h=>h) (Or.inr ⟨by rfl,rfl⟩) ?_ ?_
             rotate_left
             ·exact sa
             refine jVa (i:=21) (N:=some 128) (v:=undef) (a':=?_) #[true,true,true,true,true,true,true,true,true,true,true,true,true,true,true,true,true,true,true,true,true,true,false,false,false,false,false,false] rfl rfl (jJa HT_.out (by kernel_rfl)) (fun _ _ _ h=>h) (Or.inr ⟨by rfl,rfl⟩) ?_ ?_
             rotate_left
             ·exact sa
             refine jVa (i:=22) (N:=some 129) (v:=undef) (a':=?_) #[true,true,true,true,true,true,true,true,true,true,true,true,true,true,true,true,true,true,true,true,true,true,true,false,false,false,false,false] rfl rfl (jJa HT_.out (by kernel_rfl)) (fun _ _ _ h=>h) (Or.inr ⟨by rfl,rfl⟩) ?_ ?_
             rotate_left
             ·exact sa
             refine jVa (i:=23) (N:=some 130) (v:=undef) (a':=?_) #[true,true,true,true,true,true,true,true,true,true,true,true,true,true,true,true,true,true,true,true,true,true,true,true,false,false,false,false] rfl rfl (jJa HT_.out (by kernel_rfl)) (fun _ _ _ h=>h) (Or.inr ⟨by rfl,rfl⟩) ?_ ?_
             rotate_left
             ·exact sa
             refine jVa (i:=24) (N:=some 131) (v:=undef) (a':=?_) #[true,true,true,true,true,true,true,true,true,true,true,true,true,true,true,true,true,true,true,true,true,true,true,true,true,false,false,false] rfl rfl (jJa HT_.out (by kernel_rfl)) (fun _ _ _ h=>h) (Or.inr ⟨by rfl,rfl⟩) ?_ ?_
             rotate_left
             ·exact sa
             refine jVa (i:=25) (N:=some 132) (v:=undef) (a':=?_) #[true,true,true,true,true,true,true,true,true,true,true,true,true,true,true,true,true,true,true,true,true,true,true,true,true,true,false,false] rfl rfl (jJa HT_.out (by kernel_rfl)) (fun _ _ _ h=>h) (Or.inr ⟨by rfl,rfl⟩) ?_ ?_
             rotate_left
             ·exact sa
             refine jVa (i:=26) (N:=some 133) (v:=undef) (a':=?_) #[true,true,true,true,true,true,true,true,true,true,true,true,true,true,true,true,true,true,true,true,true,true,true,true,true,true,true,false] rfl rfl (jJa HT_.out (by kernel_rfl)) (fun _ _ _ h=>h) (Or.inr ⟨by rfl,rfl⟩) ?_ ?_
             rotate_left
             ·exact sa
             refine pq (i:=27) (N:=some 134) #[true,true,true,true,true,true,true,true,true,true,true,true,true,true,true,true,true,true,true,true,true,true,true,true,true,true,true,true] ?_
             refine done_ (jgc HT_.out (by kernel_rfl)) ?_
             try go_wp2
             go_meet
             case rel=>exact ⟨_,(true),(sq),H',⟨by have:=HJ5.out;have:=HK2.out;have:=HJ32.out;first | omega | exact Nat.le_refl _⟩,⟨rq HO_4.out⟩,⟨rq HO_5.out⟩,⟨rq HO_6.out⟩,⟨rq HO_858000.out⟩,⟨rq HO871.out⟩,⟨rq HO876.out⟩,⟨rq HO880.out⟩,⟨rq HO885.out⟩,⟨rq HO894.out⟩,⟨rq HO899.out⟩,⟨kq BK857.out⟩,⟨kq BK868.out⟩,⟨kq BK877.out⟩,⟨kq BK886.out⟩,⟨kq BK891.out⟩,⟨kq BK900.out⟩,⟨kq BK905.out⟩,⟨kq BK910.out⟩,⟨Y15⟩⟩
           ·replace c111:=Bool.eq_false_iff.mpr c111
            subst c111
            have H1:(jf.j3 kj32 t851 t854 t858 x10_2 true t848)=some r:=by rw [if_neg (show ¬ (false=true) by decide)] at H;exact H
            clear H
            have H:=H1
            clear H1
            have H':=am H
            clear H
            try go_wp2
            have n0_:jv (Kd.R k44 44 (((w102.setCell ⟨gb910,0,none⟩ (.bool t906)).setCell ⟨gb910,1,none⟩ (.int .i64 t907)).setCell ⟨gb910,2,none⟩ (.int .i64 t908)) w.heap.size (fun k_=>some k_≠(.slice Ao14 t854.length co14:Value).ownBlock∧some k_≠(.slice Ao51 t858.length co51:Value).ownBlock) (.slice Ao13 t851.length co13) t851):=⟨by (with_reducible repeat (first | apply Kd.jK | apply Kd.jL | apply Kd.jH));exact Kd.jD (Kd.jB (p:=⟨gb910,2,none⟩) (Kd.jB (p:=⟨gb910,1,none⟩) (Kd.jB (p:=⟨gb910,0,none⟩) (Kd.jN HO_4.out BK910.out (by decide)) (fun _ hk=>hk.2) (.bool t906)) (fun _ hk=>hk.2) (.int .i64 t907)) (fun _ hk=>hk.2) (.int .i64 t908)) (fun _ hk=>⟨hk.1.1,hk.1.2⟩)⟩
            have n1_:jv (Kd.R k44 44 (((w102.setCell ⟨gb910,0,none⟩ (.bool t906)).setCell ⟨gb910,1,none⟩ (.int .i64 t907)).setCell ⟨gb910,2,none⟩ (.int .i64 t908)) w.heap.size (fun k_=>some k_≠(.slice Ao13 t851.length co13:Value).ownBlock∧some k_≠(.slice Ao51 t858.length co51:Value).ownBlock) (.slice Ao14 t854.length co14) t854):=⟨by (with_reducible repeat (first | apply Kd.jK | apply Kd.jL | apply Kd.jH));exact Kd.jD (Kd.jB (p:=⟨gb910,2,none⟩) (Kd.jB (p:=⟨gb910,1,none⟩) (Kd.jB (p:=⟨gb910,0,none⟩) (Kd.jN HO_5.out BK910.out (by decide)) (fun _ hk=>hk.2) (.bool t906)) (fun _ hk=>hk.2) (.int .i64 t907)) (fun _ hk=>hk.2) (.int .i64 t908)) (fun _ hk=>⟨hk.1.1,hk.1.2⟩)⟩
            have n2_:jv (Kd.R k44 44 (((w102.setCell ⟨gb910,0,none⟩ (.bool t906)).setCell ⟨gb910,1,none⟩ (.int .i64 t907)).setCell ⟨gb910,2,none⟩ (.int .i64 t908)) w.heap.size (fun k_=>some k_≠(.slice Ao13 t851.length co13:Value).ownBlock∧some k_≠(.slice Ao14 t854.length co14:Value).ownBlock) (.slice Ao51 t858.length co51) t858):=⟨by (with_reducible repeat (first | apply Kd.jK | apply Kd.jL | apply Kd.jH));exact Kd.jD (Kd.jB (p:=⟨gb910,2,none⟩) (Kd.jB (p:=⟨gb910,1,none⟩) (Kd.jB (p:=⟨gb910,0,none⟩) (Kd.jN HO_6.out BK910.out (by decide)) (fun _ hk=>hk.2) (.bool t906)) (fun _ hk=>hk.2) (.int .i64 t907)) (fun _ hk=>hk.2) (.int .i64 t908)) (fun _ hk=>⟨hk.1.1,hk.1.2⟩)⟩
            have n3_:jv (Kd.R k106 106 (((w102.setCell ⟨gb910,0,none⟩ (.bool t906)).setCell ⟨gb910,1,none⟩ (.int .i64 t907)).setCell ⟨gb910,2,none⟩ (.int .i64 t908)) w.heap.size (fun _=>True) (.slice Ao9 t848.length co9) t848):=⟨by (with_reducible repeat (first | apply Kd.jK | apply Kd.jL | apply Kd.jH));exact Kd.jD (Kd.jB (p:=⟨gb910,2,none⟩) (Kd.jB (p:=⟨gb910,1,none⟩) (Kd.jB (p:=⟨gb910,0,none⟩) (Kd.jN HO_858000.out BK910.out (by decide)) (fun _ hk=>hk.2) (.bool t906)) (fun _ hk=>hk.2) (.int .i64 t907)) (fun _ hk=>hk.2) (.int .i64 t908)) (fun _ hk=>trivial)⟩
            have n4_:jv (Kd.R (Kd.int .i64) 3 (((w102.setCell ⟨gb910,0,none⟩ (.bool t906)).setCell ⟨gb910,1,none⟩ (.int .i64 t907)).setCell ⟨gb910,2,none⟩ (.int .i64 t908)) w.heap.size (fun k_=>some k_≠(.slice Ao63 t878.length co63:Value).ownBlock∧some k_≠(.slice Ao80 t892.length co80:Value).ownBlock) (.slice Ao54 t869.length co54) t869):=⟨by (with_reducible repeat (first | apply Kd.jK | apply Kd.jL | apply Kd.jH));exact Kd.jD (Kd.jB (p:=⟨gb910,2,none⟩) (Kd.jB (p:=⟨gb910,1,none⟩) (Kd.jB (p:=⟨gb910,0,none⟩) (Kd.jN HO871.out BK910.out (by decide)) (fun _ hk=>hk.2) (.bool t906)) (fun _ hk=>hk.2) (.int .i64 t907)) (fun _ hk=>hk.2) (.int .i64 t908)) (fun _ hk=>⟨hk.1.1.2,hk.1.2⟩)⟩
            have n5_:jv (Kd.R k90 90 (((w102.setCell ⟨gb910,0,none⟩ (.bool t906)).setCell ⟨gb910,1,none⟩ (.int .i64 t907)).setCell ⟨gb910,2,none⟩ (.int .i64 t908)) w.heap.size (fun k_=>some k_≠(.slice Ao68 t883.length co68:Value).ownBlock∧some k_≠(.slice Ao87 t897.length co87:Value).ownBlock) (.slice Ao58 t874.length co58) t874):=⟨by (with_reducible repeat (first | apply Kd.jK | apply Kd.jL | apply Kd.jH));exact Kd.jD (Kd.jB (p:=⟨gb910,2,none⟩) (Kd.jB (p:=⟨gb910,1,none⟩) (Kd.jB (p:=⟨gb910,0,none⟩) (Kd.jN HO876.out BK910.out (by decide)) (fun _ hk=>hk.2) (.bool t906)) (fun _ hk=>hk.2) (.int .i64 t907)) (fun _ hk=>hk.2) (.int .i64 t908)) (fun _ hk=>⟨hk.1.1.2,hk.1.2⟩)⟩
            have n6_:jv (Kd.R (Kd.int .i64) 3 (((w102.setCell ⟨gb910,0,none⟩ (.bool t906)).setCell ⟨gb910,1,none⟩ (.int .i64 t907)).setCell ⟨gb910,2,none⟩ (.int .i64 t908)) w.heap.size (fun k_=>some k_≠(.slice Ao54 t869.length co54:Value).ownBlock∧some k_≠(.slice Ao80 t892.length co80:Value).ownBlock) (.slice Ao63 t878.length co63) t878):=⟨by (with_reducible repeat (first | apply Kd.jK | apply Kd.jL | apply Kd.jH));exact Kd.jD (Kd.jB (p:=⟨gb910,2,none⟩) (Kd.jB (p:=⟨gb910,1,none⟩) (Kd.jB (p:=⟨gb910,0,none⟩) (Kd.jN HO880.out BK910.out (by decide)) (fun _ hk=>hk.2) (.bool t906)) (fun _ hk=>hk.2) (.int .i64 t907)) (fun _ hk=>hk.2) (.int .i64 t908)) (fun _ hk=>⟨hk.1.1.2,hk.1.2⟩)⟩
            have n7_:jv (Kd.R k90 90 (((w102.setCell ⟨gb910,0,none⟩ (.bool t906)).setCell ⟨gb910,1,none⟩ (.int .i64 t907)).setCell ⟨gb910,2,none⟩ (.int .i64 t908)) w.heap.size (fun k_=>some k_≠(.slice Ao58 t874.length co58:Value).ownBlock∧some k_≠(.slice Ao87 t897.length co87:Value).ownBlock) (.slice Ao68 t883.length co68) t883):=⟨by (with_reducible repeat (first | apply Kd.jK | apply Kd.jL | apply Kd.jH));exact Kd.jD (Kd.jB (p:=⟨gb910,2,none⟩) (Kd.jB (p:=⟨gb910,1,none⟩) (Kd.jB (p:=⟨gb910,0,none⟩) (Kd.jN HO885.out BK910.out (by decide)) (fun _ hk=>hk.2) (.bool t906)) (fun _ hk=>hk.2) (.int .i64 t907)) (fun _ hk=>hk.2) (.int .i64 t908)) (fun _ hk=>⟨hk.1.1.2,hk.1.2⟩)⟩
            have n8_:jv (Kd.R (Kd.int .i64) 3 (((w102.setCell ⟨gb910,0,none⟩ (.bool t906)).setCell ⟨gb910,1,none⟩ (.int .i64 t907)).setCell ⟨gb910,2,none⟩ (.int .i64 t908)) w.heap.size (fun k_=>some k_≠(.slice Ao54 t869.length co54:Value).ownBlock∧some k_≠(.slice Ao63 t878.length co63:Value).ownBlock) (.slice Ao80 t892.length co80) t892):=⟨by (with_reducible repeat (first | apply Kd.jK | apply Kd.jL | apply Kd.jH));exact Kd.jD (Kd.jB (p:=⟨gb910,2,none⟩) (Kd.jB (p:=⟨gb910,1,none⟩) (Kd.jB (p:=⟨gb910,0,none⟩) (Kd.jN HO894.out BK910.out (by decide)) (fun _ hk=>hk.2) (.bool t906)) (fun _ hk=>hk.2) (.int .i64 t907)) (fun _ hk=>hk.2) (.int .i64 t908)) (fun _ hk=>⟨hk.1.1.2,hk.1.2⟩)⟩
            have n9_:jv (Kd.R k90 90 (((w102.setCell ⟨gb910,0,none⟩ (.bool t906)).setCell ⟨gb910,1,none⟩ (.int .i64 t907)).setCell ⟨gb910,2,none⟩ (.int .i64 t908)) w.heap.size (fun k_=>some k_≠(.slice Ao58 t874.length co58:Value).ownBlock∧some k_≠(.slice Ao68 t883.length co68:Value).ownBlock) (.slice Ao87 t897.length co87) t897):=⟨by (with_reducible repeat (first | apply Kd.jK | apply Kd.jL | apply Kd.jH));exact Kd.jD (Kd.jB (p:=⟨gb910,2,none⟩) (Kd.jB (p:=⟨gb910,1,none⟩) (Kd.jB (p:=⟨gb910,0,none⟩) (Kd.jN HO899.out BK910.out (by decide)) (fun _ hk=>hk.2) (.bool t906)) (fun _ hk=>hk.2) (.int .i64 t907)) (fun _ hk=>hk.2) (.int .i64 t908)) (fun _ hk=>⟨hk.1.1.2,hk.1.2⟩)⟩
            have n10_:jv ((((w102.setCell ⟨gb910,0,none⟩ (.bool t906)).setCell ⟨gb910,1,none⟩ (.int .i64 t907)).setCell ⟨gb910,2,none⟩ (.int .i64 t908)).heap[gb857]?=some (.cells #[.slice Ao9 t848.length co9] 31 (0,0))):=⟨by (with_reducible repeat (first | refine jb ?_ _ | refine jc ?_ | refine ja ?_ _));refine jr ?_ NB857_910.out _;(with_reducible repeat (first | refine jb ?_ _ | refine jc ?_ | refine ja ?_ _));refine jr ?_ NB857_910.out _;(with_reducible repeat (first | refine jb ?_ _ | refine jc ?_ | refine ja ?_ _));refine jr ?_ NB857_910.out _;(with_reducible repeat (first | refine jb ?_ _ | refine jc ?_ | refine ja ?_ _));exact BK857.out⟩
            have n11_:jv ((((w102.setCell ⟨gb910,0,none⟩ (.bool t906)).setCell ⟨gb910,1,none⟩ (.int .i64 t907)).setCell ⟨gb910,2,none⟩ (.int .i64 t908)).heap[gb868]?=some (.cells #[.bool x869000_32, .int .i64 x869001_32, .int .i64 x869002_32] 50 (0,0))):=⟨by (with_reducible repeat (first | refine jb ?_ _ | refine jc ?_ | refine ja ?_ _));refine jr ?_ NB868_910.out _;(with_reducible repeat (first | refine jb ?_ _ | refine jc ?_ | refine ja ?_ _));refine jr ?_ NB868_910.out _;(with_reducible repeat (first | refine jb ?_ _ | refine jc ?_ | refine ja ?_ _));refine jr ?_ NB868_910.out _;(with_reducible repeat (first | refine jb ?_ _ | refine jc ?_ | refine ja ?_ _));exact BK868.out⟩
            have n12_:jv ((((w102.setCell ⟨gb910,0,none⟩ (.bool t906)).setCell ⟨gb910,1,none⟩ (.int .i64 t907)).setCell ⟨gb910,2,none⟩ (.int .i64 t908)).heap[gb877]?=some (.cells #[.slice Ao54 t869.length co54, .int .i64 t872, .int .i64 t873, .slice Ao58 t874.length co58] 55 (0,0))):=⟨by (with_reducible repeat (first | refine jb ?_ _ | refine jc ?_ | refine ja ?_ _));refine jr ?_ NB877_910.out _;(with_reducible repeat (first | refine jb ?_ _ | refine jc ?_ | refine ja ?_ _));refine jr ?_ NB877_910.out _;(with_reducible repeat (first | refine jb ?_ _ | refine jc ?_ | refine ja ?_ _));refine jr ?_ NB877_910.out _;(with_reducible repeat (first | refine jb ?_ _ | refine jc ?_ | refine ja ?_ _));exact BK877.out⟩
            have n13_:jv ((((w102.setCell ⟨gb910,0,none⟩ (.bool t906)).setCell ⟨gb910,1,none⟩ (.int .i64 t907)).setCell ⟨gb910,2,none⟩ (.int .i64 t908)).heap[gb886]?=some (.cells #[.slice Ao63 t878.length co63, .int .i64 t881, .int .i64 t882, .slice Ao68 t883.length co68] 55 (0,0))):=⟨by (with_reducible repeat (first | refine jb ?_ _ | refine jc ?_ | refine ja ?_ _));refine jr ?_ NB886_910.out _;(with_reducible repeat (first | refine jb ?_ _ | refine jc ?_ | refine ja ?_ _));refine jr ?_ NB886_910.out _;(with_reducible repeat (first | refine jb ?_ _ | refine jc ?_ | refine ja ?_ _));refine jr ?_ NB886_910.out _;(with_reducible repeat (first | refine jb ?_ _ | refine jc ?_ | refine ja ?_ _));exact BK886.out⟩
            have n14_:jv ((((w102.setCell ⟨gb910,0,none⟩ (.bool t906)).setCell ⟨gb910,1,none⟩ (.int .i64 t907)).setCell ⟨gb910,2,none⟩ (.int .i64 t908)).heap[gb891]?=some (.cells #[.bool t887, .int .i64 t888, .int .i64 t889] 50 (0,0))):=⟨by (with_reducible repeat (first | refine jb ?_ _ | refine jc ?_ | refine ja ?_ _));refine jr ?_ NB891_910.out _;(with_reducible repeat (first | refine jb ?_ _ | refine jc ?_ | refine ja ?_ _));refine jr ?_ NB891_910.out _;(with_reducible repeat (first | refine jb ?_ _ | refine jc ?_ | refine ja ?_ _));refine jr ?_ NB891_910.out _;(with_reducible repeat (first | refine jb ?_ _ | refine jc ?_ | refine ja ?_ _));exact BK891.out⟩
            have n15_:jv ((((w102.setCell ⟨gb910,0,none⟩ (.bool t906)).setCell ⟨gb910,1,none⟩ (.int .i64 t907)).setCell ⟨gb910,2,none⟩ (.int .i64 t908)).heap[gb900]?=some (.cells #[.slice Ao80 t892.length co80, .int .i64 t895, .int .i64 t896, .slice Ao87 t897.length co87] 55 (0,0))):=⟨by (with_reducible repeat (first | refine jb ?_ _ | refine jc ?_ | refine ja ?_ _));refine jr ?_ NB900_910.out _;(with_reducible repeat (first | refine jb ?_ _ | refine jc ?_ | refine ja ?_ _));refine jr ?_ NB900_910.out _;(with_reducible repeat (first | refine jb ?_ _ | refine jc ?_ | refine ja ?_ _));refine jr ?_ NB900_910.out _;(with_reducible repeat (first | refine jb ?_ _ | refine jc ?_ | refine ja ?_ _));exact BK900.out⟩
            have n16_:jv ((((w102.setCell ⟨gb910,0,none⟩ (.bool t906)).setCell ⟨gb910,1,none⟩ (.int .i64 t907)).setCell ⟨gb910,2,none⟩ (.int .i64 t908)).heap[gb905]?=some (.cells #[.bool t901, .int .i64 t902, .int .i64 t903] 50 (0,0))):=⟨by (with_reducible repeat (first | refine jb ?_ _ | refine jc ?_ | refine ja ?_ _));refine jr ?_ NB905_910.out _;(with_reducible repeat (first | refine jb ?_ _ | refine jc ?_ | refine ja ?_ _));refine jr ?_ NB905_910.out _;(with_reducible repeat (first | refine jb ?_ _ | refine jc ?_ | refine ja ?_ _));refine jr ?_ NB905_910.out _;(with_reducible repeat (first | refine jb ?_ _ | refine jc ?_ | refine ja ?_ _));exact BK905.out⟩
            have n17_:jv ((((w102.setCell ⟨gb910,0,none⟩ (.bool t906)).setCell ⟨gb910,1,none⟩ (.int .i64 t907)).setCell ⟨gb910,2,none⟩ (.int .i64 t908)).heap[gb910]?=some (.cells #[.bool t906, .int .i64 t907, .int .i64 t908] 50 (0,0))):=⟨by (with_reducible repeat (first | refine jb ?_ _ | refine jc ?_ | refine ja ?_ _));refine jO (cs:=#[.bool t906, .int .i64 t907, .int .i64 0]) ?_ 2 _ rfl;(with_reducible repeat (first | refine jb ?_ _ | refine jc ?_ | refine ja ?_ _));refine jO (cs:=#[.bool t906, .int .i64 0, .int .i64 0]) ?_ 1 _ rfl;(with_reducible repeat (first | refine jb ?_ _ | refine jc ?_ | refine ja ?_ _));refine jO (cs:=#[.bool false, .int .i64 0, .int .i64 0]) ?_ 0 _ rfl;(with_reducible repeat (first | refine jb ?_ _ | refine jc ?_ | refine ja ?_ _));exact BK910.out⟩
            have n18_:jv (Below w.heap.size w (((w102.setCell ⟨gb910,0,none⟩ (.bool t906)).setCell ⟨gb910,1,none⟩ (.int .i64 t907)).setCell ⟨gb910,2,none⟩ (.int .i64 t908))):=⟨Y15⟩
            (try clear HO_4)
            (try clear HO_5)
            (try clear HO_6)
            (try clear HO_858000)
            (try clear HO871)
            (try clear HO876)
            (try clear HO880)
            (try clear HO885)
            (try clear HO894)
            (try clear HO899)
            (try clear BK857)
            (try clear BK868)
            (try clear BK877)
            (try clear BK886)
            (try clear BK891)
            (try clear BK900)
            (try clear BK905)
            (try clear BK910)
            (try clear HB)
            generalize (((w102.setCell ⟨gb910,0,none⟩ (.bool t906)).setCell ⟨gb910,1,none⟩ (.int .i64 t907)).setCell ⟨gb910,2,none⟩ (.int .i64 t908))=w131 at n0_ n1_ n2_ n3_ n4_ n5_ n6_ n7_ n8_ n9_ n10_ n11_ n12_ n13_ n14_ n15_ n16_ n17_ n18_ ⊢
            have HO_4:=n0_
            have HO_5:=n1_
            have HO_6:=n2_
            have HO_858000:=n3_
            have HO871:=n4_
            have HO876:=n5_
            have HO880:=n6_
            have HO885:=n7_
            have HO894:=n8_
            have HO899:=n9_
            have BK857:=n10_
            have BK868:=n11_
            have BK877:=n12_
            have BK886:=n13_
            have BK891:=n14_
            have BK900:=n15_
            have BK905:=n16_
            have BK910:=n17_
            have HB:=n18_
            clear n0_ n1_ n2_ n3_ n4_ n5_ n6_ n7_ n8_ n9_ n10_ n11_ n12_ n13_ n14_ n15_ n16_ n17_ n18_
            replace HO_4:=am (Kd.jH HO_4.out)
            replace HO_5:=am (Kd.jH HO_5.out)
            replace HO_6:=am (Kd.jH HO_6.out)
            replace HO_858000:=am (Kd.jH HO_858000.out)
            replace HO871:=am (Kd.jH HO871.out)
            replace HO876:=am (Kd.jH HO876.out)
            replace HO880:=am (Kd.jH HO880.out)
            replace HO885:=am (Kd.jH HO885.out)
            replace HO894:=am (Kd.jH HO894.out)
            replace HO899:=am (Kd.jH HO899.out)
            replace BK857:=am (jc BK857.out)
            replace BK868:=am (jc BK868.out)
            replace BK877:=am (jc BK877.out)
            replace BK886:=am (jc BK886.out)
            replace BK891:=am (jc BK891.out)
            replace BK900:=am (jc BK900.out)
            replace BK905:=am (jc BK905.out)
            replace BK910:=am (jc BK910.out)
            replace HB:=am (jF HB.out)
            refine jkc (n:=28) (S:=fun w'=>True) (ds:=[]) #[false,false,false,false,false,false,false,false,false,false,false,false,false,false,false,false,false,false,false,false,false,false,false,false,false,false,false,false] (by kernel_rfl) rfl rfl trivial (fun hHeld=>?_);refine jJb jf.tab20 jf.bits20 (fun HT_ HW_=>?_)
            generalize w131.drew=w132 at HO_4 HO_5 HO_6 HO_858000 HO871 HO876 HO880 HO885 HO894 HO899 BK857 BK868 BK877 BK886 BK891 BK900 BK905 BK910 HB hHeld ⊢
            refine pq (i:=0) (N:=some 107) #[true,false,false,false,false,false,false,false,false,false,false,false,false,false,false,false,false,false,false,false,false,false,false,false,false,false,false,false] ?_
            refine pq (i:=1) (N:=some 108) #[true,true,false,false,false,false,false,false,false,false,false,false,false,false,false,false,false,false,false,false,false,false,false,false,false,false,false,false] ?_
            refine pq (i:=2) (N:=some 109) #[true,true,true,false,false,false,false,false,false,false,false,false,false,false,false,false,false,false,false,false,false,false,false,false,false,false,false,false] ?_
            refine jVa (i:=3) (N:=some 110) (v:=undef) (a':=?_) #[true,true,true,true,false,false,false,false,false,false,false,false,false,false,false,false,false,false,false,false,false,false,false,false,false,false,false,false] rfl rfl (jJa HT_.out (by kernel_rfl)) (fun _ _ _ h=>h) (Or.inr ⟨by rfl,rfl⟩) ?_ ?_
            rotate_left
            ·exact sa
            refine jVa (i:=4) (N:=some 111) (v:=undef) (a':=?_) #[true,true,true,true,true,false,false,false,false,false,false,false,false,false,false,false,false,false,false,false,false,false,false,false,false,false,false,false] rfl rfl (jJa HT_.out (by kernel_rfl)) (fun _ _ _ h=>h) (Or.inr ⟨by rfl,rfl⟩) ?_ ?_
            rotate_left
            ·exact sa
            refine pq (i:=5) (N:=some 112) #[true,true,true,true,true,true,false,false,false,false,false,false,false,false,false,false,false,false,false,false,false,false,false,false,false,false,false,false] ?_
            refine pq (i:=6) (N:=some 113) #[true,true,true,true,true,true,true,false,false,false,false,false,false,false,false,false,false,false,false,false,false,false,false,false,false,false,false,false] ?_
            refine jVa (i:=7) (N:=some 114) (v:=undef) (a':=?_) #[true,true,true,true,true,true,true,true,false,false,false,false,false,false,false,false,false,false,false,false,false,false,false,false,false,false,false,false] rfl rfl (jJa HT_.out (by kernel_rfl)) (fun _ _ _ h=>h) (Or.inr ⟨by rfl,rfl⟩) ?_ ?_
            rotate_left
            ·exact sa
            refine jVa (i:=8) (N:=some 115) (v:=undef) (a':=?_) #[true,true,true,true,true,true,true,true,true,false,false,false,false,false,false,false,false,false,false,false,false,false,false,false,false,false,false,false] rfl rfl (jJa HT_.out (by kernel_rfl)) (fun _ _ _ h=>h) (Or.inr ⟨by rfl,rfl⟩) ?_ ?_
            rotate_left
            ·exact sa
            refine pq (i:=9) (N:=some 116) #[true,true,true,true,true,true,true,true,true,true,false,false,false,false,false,false,false,false,false,false,false,false,false,false,false,false,false,false] ?_
            refine pq (i:=10) (N:=some 117) #[true,true,true,true,true,true,true,true,true,true,true,false,false,false,false,false,false,false,false,false,false,false,false,false,false,false,false,false] ?_
            refine jVa (i:=11) (N:=some 118) (v:=undef) (a':=?_) #[true,true,true,true,true,true,true,true,true,true,true,true,false,false,false,false,false,false,false,false,false,false,false,false,false,false,false,false] rfl rfl (jJa HT_.out (by kernel_rfl)) (fun _ _ _ h=>h) (Or.inr ⟨by rfl,rfl⟩) ?_ ?_
            rotate_left
            ·exact sa
            refine jVa (i:=12) (N:=some 119) (v:=undef) (a':=?_) #[true,true,true,true,true,true,true,true,true,true,true,true,true,false,false,false,false,false,false,false,false,false,false,false,false,false,false,false] rfl rfl (jJa HT_.out (by kernel_rfl)) (fun _ _ _ h=>h) (Or.inr ⟨by rfl,rfl⟩) ?_ ?_
            rotate_left
            ·exact sa
            refine jVa (i:=13) (N:=some 120) (v:=undef) (a':=?_) #[true,true,true,true,true,true,true,true,true,true,true,true,true,true,false,false,false,false,false,false,false,false,false,false,false,false,false,false] rfl rfl (jJa HT_.out (by kernel_rfl)) (fun _ _ _ h=>h) (Or.inr ⟨by rfl,rfl⟩) ?_ ?_
            rotate_left
            ·exact sa
            refine pq (i:=14) (N:=some 121) #[true,true,true,true,true,true,true,true,true,true,true,true,true,true,true,false,false,false,false,false,false,false,false,false,false,false,false,false] ?_
            refine pq (i:=15) (N:=some 122) #[true,true,true,true,true,true,true,true,true,true,true,true,true,true,true,true,false,false,false,false,false,false,false,false,false,false,false,false] ?_
            refine jVa (i:=16) (N:=some 123) (v:=undef) (a':=?_) #[true,true,true,true,true,true,true,true,true,true,true,true,true,true,true,true,true,false,false,false,false,false,false,false,false,false,false,false] rfl rfl (jJa HT_.out (by kernel_rfl)) (fun _ _ _ h=>h) (Or.inr ⟨by rfl,rfl⟩) ?_ ?_
            rotate_left
            ·exact sa
            refine jVa (i:=17) (N:=some 124) (v:=undef) (a':=?_) #[true,true,true,true,true,true,true,true,true,true,true,true,true,true,true,true,true,true,false,false,false,false,false,false,false,false,false,false] rfl rfl (jJa HT_.out (by kernel_rfl)) (fun _ _ _ h=>h) (Or.inr ⟨by rfl,rfl⟩) ?_ ?_
            rotate_left
            ·exact sa
            refine jVa (i:=18) (N:=some 125) (v:=undef) (a':=?_) #[true,true,true,true,true,true,true,true,true,true,true,true,true,true,true,true,true,true,true,false,false,false,false,false,false,false,false,false] rfl rfl (jJa HT_.out (by kernel_rfl)) (fun _ _ _ h=>h) (Or.inr ⟨by rfl,rfl⟩) ?_ ?_
            rotate_left
            ·exact sa
            refine jVa (i:=19) (N:=some 126) (v:=undef) (a':=?_) #[true,true,true,true,true,true,true,true,true,true,true,true,true,true,true,true,true,true,true,true,false,false,false,false,false,false,false,false] rfl rfl (jJa HT_.out (by kernel_rfl)) (fun _ _ _ h=>h) (Or.inr ⟨by rfl,rfl⟩) ?_ ?_
            rotate_left
            ·exact sa
            refine jVa (i:=20) (N:=some 127) (v:=undef) (a':=?_) #[true,true,true,true,true,true,true,true,true,true,true,true,true,true,true,true,true,true,true,true,true,false,false,false,false,false,false,false] rfl rfl (jJa HT_.out (by kernel_rfl)) (fun _ _ _ h=>h) (Or.inr ⟨by rfl,rfl⟩) ?_ ?_
            rotate_left
            ·exact sa
            refine jVa (i:=21) (N:=some 128) (v:=undef) (a':=?_) #[true,true,true,true,true,true,true,true,true,true,true,true,true,true,true,true,true,true,true,true,true,true,false,false,false,false,false,false] rfl rfl (jJa HT_.out (by kernel_rfl)) (fun _ _ _ h=>h) (Or.inr ⟨by rfl,rfl⟩) ?_ ?_
            rotate_left
            ·exact sa
            refine jVa (i:=22) (N:=some 129) (v:=undef) (a':=?_) #[true,true,true,true,true,true,true,true,true,true,true,true,true,true,true,true,true,true,true,true,true,true,true,false,false,false,false,false] rfl rfl (jJa HT_.out (by kernel_rfl)) (fun _ _ _ h=>h) (Or.inr ⟨by rfl,rfl⟩) ?_ ?_
            rotate_left
            ·exact sa
            refine jVa (i:=23) (N:=some 130) (v:=undef) (a':=?_) #[true,true,true,true,true,true,true,true,true,true,true,true,true,true,true,true,true,true,true,true,true,true,true,true,false,false,false,false] rfl rfl (jJa HT_.out (by kernel_rfl)) (fun _ _ _ h=>h) (Or.inr ⟨by rfl,rfl⟩) ?_ ?_
            rotate_left
            ·exact sa
            refine jVa (i:=24) (N:=some 131) (v:=undef) (a':=?_) #[true,true,true,true,true,true,true,true,true,true,true,true,true,true,true,true,true,true,true,true,true,true,true,true,true,false,false,false] rfl rfl (jJa HT_.out (by kernel_rfl)) (fun _ _ _ h=>h) (Or.inr ⟨by rfl,rfl⟩) ?_ ?_
            rotate_left
            ·exact sa
            refine jVa (i:=25) (N:=some 132) (v:=undef) (a':=?_) #[true,true,true,true,true,true,true,true,true,true,true,true,true,true,true,true,true,true,true,true,true,true,true,true,true,true,false,false] rfl rfl (jJa HT_.out (by kernel_rfl)) (fun _ _ _ h=>h) (Or.inr ⟨by rfl,rfl⟩) ?_ ?_
            rotate_left
            ·exact sa
            refine jVa (i:=26) (N:=some 133) (v:=undef) (a':=?_) #[true,true,true,true,true,true,true,true,true,true,true,true,true,true,true,true,true,true,true,true,true,true,true,true,true,true,true,false] rfl rfl (jJa HT_.out (by kernel_rfl)) (fun _ _ _ h=>h) (Or.inr ⟨by rfl,rfl⟩) ?_ ?_
            rotate_left
            ·exact sa
            refine pq (i:=27) (N:=some 134) #[true,true,true,true,true,true,true,true,true,true,true,true,true,true,true,true,true,true,true,true,true,true,true,true,true,true,true,true] ?_
            refine done_ (jgc HT_.out (by kernel_rfl)) ?_
            try go_wp2
            go_meet
            case rel=>exact ⟨_,(true),(sq),H',⟨by have:=HJ5.out;have:=HK2.out;have:=HJ32.out;first | omega | exact Nat.le_refl _⟩,⟨rq HO_4.out⟩,⟨rq HO_5.out⟩,⟨rq HO_6.out⟩,⟨rq HO_858000.out⟩,⟨rq HO871.out⟩,⟨rq HO876.out⟩,⟨rq HO880.out⟩,⟨rq HO885.out⟩,⟨rq HO894.out⟩,⟨rq HO899.out⟩,⟨kq BK857.out⟩,⟨kq BK868.out⟩,⟨kq BK877.out⟩,⟨kq BK886.out⟩,⟨kq BK891.out⟩,⟨kq BK900.out⟩,⟨kq BK905.out⟩,⟨kq BK910.out⟩,⟨Y15⟩⟩
          case rest =>
           clear HC47
           try clear c1
           try clear p2
           try clear c11
           try clear c111
           try clear c112
           obtain ⟨kq,x134_46,rfl,HA,HJ46,HO_4,HO_5,HO_6,HO_858000,HO_878000,HO_878003,HO_887000,HO_887003,HO_901000,HO_901003,BK857,BK868,BK877,BK886,BK891,BK900,BK905,BK910,HB⟩:=hcut
           cases kq with
           | zero=>exact absurd HA.out (by simp [jf.j3])
           | succ kj46 =>
            have H:=HA.out
            clear HA
            simp only [jf.j3] at H
            by_cases c133:x134_46=true
            ·subst c133
             have H1:(some false)=some r:=by rw [if_pos rfl] at H;exact H
             clear H
             have H:=H1
             clear H1
             exact absurd ((Option.some.inj H).trans hT) Bool.false_ne_true
            ·replace c133:=Bool.eq_false_iff.mpr c133
             subst c133
             have H1:(jf.l0 kj46 t851 t854 t858 (wrap64 (x10_2+1)) t848)=some r:=by rw [if_neg (show ¬ (false=true) by decide)] at H;exact H
             clear H
             have H:=H1
             clear H1
             have H':=am H
             clear H
             go_wp2
             go_roundg kj46
             case measure=>have:=HJ5.out;have:=HK2.out;have:=HJ32.out;have:=HJ46.out;omega
             case rel=>exact ⟨(wrap64 (x10_2+1)),(sq),H',⟨by have:=HJ5.out;have:=HK2.out;have:=HJ32.out;have:=HJ46.out;omega⟩,⟨rq HO_4.out⟩,⟨rq HO_5.out⟩,⟨rq HO_6.out⟩,⟨rq HO_858000.out⟩,⟨kq BK857.out⟩,⟨Y15⟩⟩
       ·rw [if_neg c32] at H
        have c32b0:decide (x10_2<(t848.length:Int))=false:=dzF c32
        clear c32
        obtain rfl:=Option.some.inj H
        have hcz134_0:=bc0 BK857.out
        have hfz134_0:=jd BK857.out 0
        go_wp2
        go_ret
        exact ⟨Y0,Y30⟩
def jf.Pure : Prop := ∀ (l0 : List Int), l0.length ≤ maxLen → l0.length * 1 ≤ 140737488351232 → (∀ x ∈ l0, (Lit.int .u8 x).wf = true) → ∃ k, jf.f k l0 = some true
theorem jf.walk (P : jf.Pure) (a0 : Option Addr) (len0 cap0 : Nat) (z0 : List Int) (w : World) (w0 : (a0 = none ∧ len0 = 0 ∧ cap0 = 0 ∧ z0 = []) ∨ ∃ x, a0 = some x ∧ len0 ≤ cap0 ∧ cap0 ≤ maxLen ∧ z0.length = cap0 ∧ (∀ i, i < z0.length → w.cell? (x.add i) = some (.int .u8 (z0.getD i 0))) ∧ ∀ n ∈ z0, (Lit.int .u8 n).wf = true) (y0 : len0 * 1 ≤ 140737488351232) :
  Calls Try.prog 7 #[.slice a0 len0 cap0] w fun e w'=>e=.returned (.bool true)∧Below w.heap.size w w':=by
 obtain ⟨l0,rfl,hr0,hm0,hw0,hc0⟩:=jgb.ofRowC w0
 obtain ⟨k,h⟩:=P l0 hm0 y0 hw0
 refine (jf.calls k _ _ l0 true w (Kd.C_of_reads (d:=(0:Int)) (h1:=fun _=>rfl) hr0) hc0 rfl h).mono ?_
 rintro e w' ⟨rfl,hd⟩
 exact ⟨rfl,hd⟩
end Go.Proofs.Ytlhfcmbkjddgiaa.P
end
