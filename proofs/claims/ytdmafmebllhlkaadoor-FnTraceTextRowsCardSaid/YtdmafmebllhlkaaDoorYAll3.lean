/- One part of the proofs on this program: functions of the program as plain functions, that the code comes to them, and facts on them. -/
import Derived.Test.YtdmafmebllhlkaaDoorYAll1
import Derived.Test.YtdmafmebllhlkaaDoorYAll2
import Derived.Test.YtdmafmebllhlkaaDoorYWAuto
section
namespace Go.Proofs.YtdmafmebllhlkaaDoor.P
open Go.RowKit Go.Proofs.YtdmafmebllhlkaaDoorW.PrintWords Go.Proofs.YtdmafmebllhlkaaDoorW.PrintLast Go.Proofs.YtdmafmebllhlkaaDoorW.PrintMore
attribute [local go_sem] jX jV jha jga jO jN jW jU jh
set_option linter.unusedVariables false
set_option linter.unusedSimpArgs false
mutual
def je.l0 : Nat → List (S38) → Int → List Int → Int → Option ((List (S38)) × Int)
 | 0,_,_,_,_=>none
 | k+1,x3,x4,x1000,x1001=>if x4 > 0 then ((jEa.f k x1000 x1001).bind fun bt251=>((jq.f k x1000 bt251.2.2 (([1,1,2,3]:List Int))).bind fun bt258=>(je.l1 k x3 x4 bt258.1 x1000 bt258.2 bt251.1 bt251.2.1))) else (some (x3,x1001))
def je.l1 : Nat → List (S38) → Int → Int → List Int → Int → ByteArray → Int → Option ((List (S38)) × Int)
 | 0,_,_,_,_,_,_,_=>none
 | k+1,x3,x4,x6,x1000,x1001,x255000,x255001=>if x6 > 0 then (if (x3.length:Int)<12 then (if x3.length<5864062014805 then (je.l1 k (x3 ++ [(⟨x255000,x255001⟩:S38)]) x4 (wrap64 (x6 - 1)) x1000 x1001 x255000 x255001) else (none)) else (je.l0 k x3 (wrap64 (x4 - 1)) x1000 x1001)) else (je.l0 k x3 (wrap64 (x4 - 1)) x1000 x1001)
end
def je.f (k : Nat) (s0_0 : List Int) (s0_1 : Int) : Option ((List (S38)) × Int) := (jq.f k s0_0 s0_1 (([3, 4, 2, 5, 1, 0, 6] : List Int))).bind fun bt249 => (je.l0 k (([] : List (S38))) bt249.1 s0_0 bt249.2)
set_option maxHeartbeats 8000000 in
set_option maxRecDepth 100000 in
theorem je.calls (k : Nat) (g : Nat) (s0_0 : List Int) (s0_1 : Int) (r1 : List (S38)) (r2 : Int) (w0 w : World) (hI : jr w0 w g s0_0 s0_1) (hB : Below w0.heap.size w0 w) (h : je.f k s0_0 s0_1 = some (r1, r2)) :
  Calls Tryd.prog 35 #[.pointer (some ⟨g,0,none⟩)] w fun e w'=>∃ v0_:Value,e=.returned (v0_)∧Kd.R k38 38 w' w.heap.size (fun _=>True) v0_ r1∧jr w0 w' g s0_0 r2∧Below w0.heap.size w0 w'∧ji w w' g none:=by
 have hu38:=Tryd.underlying38
 have HI0:=am hI
 have HK:=am (ji.refl w g none)
 have HL:=am hB.size
 clear hI
 have HW0:=am hB.size
 have HB:=am hB
 clear hB
 have H:((jq.f k s0_0 s0_1 (([3,4,2,5,1,0,6]:List Int))).bind fun bt249=>(je.l0 k (([]:List (S38))) bt249.1 s0_0 bt249.2))=some (r1,r2):=h
 clear h
 obtain ⟨y243,hy243⟩:∃ y_:List (S38),y_=(([]:List (S38))):=⟨_,rfl⟩
 replace H:((jq.f k s0_0 s0_1 (([3,4,2,5,1,0,6]:List Int))).bind fun bt249=>(je.l0 k y243 bt249.1 s0_0 bt249.2))=some (r1,r2):=by first |(rw [hy243];with_reducible exact H) |(have H2_:=(Option.bind_some _ _).symm.trans H;rw [hy243];with_reducible exact H2_) |(have H2_:=(Option.bind_some _ _).symm.trans H;with_reducible exact H2_) | with_reducible exact H |(rw [hy243];exact H) | exact H
 have Ny243:=am hy243
 clear hy243
 obtain ⟨y246,hy246⟩:∃ y_:List Int,y_=(([3,4,2,5,1,0,6]:List Int)):=⟨_,rfl⟩
 replace H:((jq.f k s0_0 s0_1 y246).bind fun bt249=>(je.l0 k y243 bt249.1 s0_0 bt249.2))=some (r1,r2):=by first |(rw [hy246];with_reducible exact H) |(have H2_:=(Option.bind_some _ _).symm.trans H;rw [hy246];with_reducible exact H2_) |(have H2_:=(Option.bind_some _ _).symm.trans H;with_reducible exact H2_) | with_reducible exact H |(rw [hy246];exact H) | exact H
 have Ny246:=am hy246
 clear hy246
 replace H:=bzS H
 obtain ⟨⟨t249,t250⟩,A20,H⟩:=H
 replace H:(je.l0 k y243 t249 s0_0 t250)=some (r1,r2):=H
 have A2:=am A20
 clear A20
 have H':=am H
 clear H
 go_enter Tryd.func35,Tryd.ntmps35
 go_wp2_with (first |((with_reducible refine jK (N:=7) rfl ?_);(try (refine jVa (by rfl) ?_;dsimp only));refine Kd.R_lit k38 _ 38 ?hg (N:=7) ?hd (xs:=([]:List (S38))) (inner:=[]) (ok:=fun _=>True) (okp:=fun _=>True) ?hr ?hp (fun _ hk=>hk) trivial (Below.refl _ _) (Nat.le_refl _) (by simp) ?_;(case hd=>rfl);(case hg=>rfl);(case hr=>exact Y3);(case hp=>exact (Reps.none _ _));intro v244 w3 ho4 hb hg_ hnew_;clear hg_ hnew_;(first | rw [← Ny243.out] at ho4 |(simp only [Int.reduceToNat] at ho4;rw [← Ny243.out] at ho4));have HO245:=am (Kd.jca ho4 (jpa (w:=w) (g:=g) (row:=none) (Y1)));replace HK:=am (ji.trans (Y1) (ji.of_below hb g none) (.inl rfl));replace HB:=am (jg (Y2) hb);replace HI0:=am (jr.below (Y0) hb);clear hb ho4) |((with_reducible refine jK (N:=9) rfl ?_);(try (refine jVa (by rfl) ?_;dsimp only));refine Kd.R_lit (Kd.int .i64) _ 3 ?hg (N:=9) ?hd (xs:=([3,4,2,5,1,0,6]:List Int)) (inner:=[.int .i64 3, .int .i64 4, .int .i64 2, .int .i64 5, .int .i64 1, .int .i64 0, .int .i64 6]) (ok:=fun _=>True) (okp:=fun _=>True) ?hr ?hp (fun _ hk=>hk) trivial (Below.refl _ _) (Nat.le_refl _) (by simp) ?_;(case hd=>rfl);(case hg=>rfl);(case hr=>exact Y3);(case hp=>exact (Reps.one (show Kd.M (Kd.int .i64) _ _ _ 3 [.int .i64 3] from rfl) (Reps.one (show Kd.M (Kd.int .i64) _ _ _ 4 [.int .i64 4] from rfl) (Reps.one (show Kd.M (Kd.int .i64) _ _ _ 2 [.int .i64 2] from rfl) (Reps.one (show Kd.M (Kd.int .i64) _ _ _ 5 [.int .i64 5] from rfl) (Reps.one (show Kd.M (Kd.int .i64) _ _ _ 1 [.int .i64 1] from rfl) (Reps.one (show Kd.M (Kd.int .i64) _ _ _ 0 [.int .i64 0] from rfl) (Reps.one (show Kd.M (Kd.int .i64) _ _ _ 6 [.int .i64 6] from rfl) (Reps.none _ _)))))))));intro v247 w5 ho6 hb hg_ hnew_;clear hg_ hnew_;(first | rw [← Ny246.out] at ho6 |(simp only [Int.reduceToNat] at ho6;rw [← Ny246.out] at ho6));have HO248:=am (Kd.jca ho6 (jpa (w:=w) (g:=g) (row:=none) (Y1)));replace HO245:=am (Kd.jM (rq HO245.out) hb);replace HK:=am (ji.trans (Y1) (ji.of_below hb g none) (.inl rfl));replace HB:=am (jg (Y2) hb);replace HI0:=am (jr.below (Y0) hb);clear hb ho6;obtain ⟨Ao7,co7,eo7⟩:=Kd.jda HO248.out;subst eo7) |((with_reducible refine jk (f:=38) rfl ?_);refine gL (some 10) Tryd.func38 #[.pointer (some ⟨g,0,none⟩), .slice Ao7 y246.length co7] ?_;(with_reducible refine (jq.calls k g s0_0 s0_1 _ _ y246 t249 t250 w0 _ ?side1 ?side2 ?side3 ?side4 ?side5 A2.out).mono ?_);(case side1=>exact Y0);(case side2=>exact Y2);(case side3=>exact cq (Kd.jo HO248.out).2.2);(case side4=>exact (Kd.jo HO248.out).2.1);(case side5=>exact jWa (jr.own_ne HI0.out HO248.out (by decide)));rintro e w8 ⟨rfl,hi,hb,hk⟩;refine ⟨_,rfl,?_⟩;replace HO245:=am (Kd.jT (Kd.jBa (jr.apart (show jr w0 _ g s0_0 s0_1 from Y0) (rq HO245.out) (by decide)) hk (fun _ h=>h.2)) (fun _ h=>h.1));replace HO248:=am (Kd.jT (Kd.jBa (jr.apart (show jr w0 _ g s0_0 s0_1 from Y0) (rq HO248.out) (by decide)) hk (fun _ h=>h.2)) (fun _ h=>h.1));replace HK:=am (ji.trans (Y1) hk (.inl rfl));replace HB:=am (hb);replace HI0:=am (hi);(try clear hb);(try clear hb2);(try clear hk);(try clear hi)))
 go_loopg [3,4] k (fun kq v3 v4 w'=>∃ (x3_1:List (S38)) (x4_1:Int) (x1001_1:Int),v4=.int .i64 x4_1∧jy (je.l0 kq x3_1 x4_1 s0_0 x1001_1=some (r1,r2))∧jy (kq≤k)∧jy (Kd.R k38 38 w' w.heap.size (fun _=>True) v3 x3_1)∧jy (jr w0 w' g s0_0 x1001_1)∧jy (ji w w' g none)∧jy (Below w0.heap.size w0 w'))
 case atStart=>exact ⟨(y243),(t249),(t250),(sq),H',⟨Nat.le_refl _⟩,⟨rq HO245.out⟩,⟨Y0⟩,⟨Y1⟩,⟨Y2⟩⟩
 case round =>
  clear H'
  try clear p2
  try clear c3
  obtain ⟨x3_1,x4_1,x1001_1,rfl,HA,HK1,HO_3,HI0,HK,HB⟩:=hrel
  cases gk with
  | zero=>exact absurd HA.out (by simp [je.l0])
  | succ k1 =>
   have H:=HA.out
   clear HA
   simp only [je.l0] at H
   by_cases c9:x4_1 > 0
   ·rw [if_pos c9] at H
    have c9b0:decide (0<x4_1)=true:=dzT c9
    clear c9
    replace H:=bzS H
    obtain ⟨⟨t251,t252,t253⟩,A100,H⟩:=H
    replace H:((jq.f k1 s0_0 t253 (([1,1,2,3]:List Int))).bind fun bt258=>(je.l1 k1 x3_1 x4_1 bt258.1 s0_0 bt258.2 t251 t252))=some (r1,r2):=H
    have A10:=am A100
    clear A100
    obtain ⟨y255,hy255⟩:∃ y_:List Int,y_=(([1,1,2,3]:List Int)):=⟨_,rfl⟩
    replace H:((jq.f k1 s0_0 t253 y255).bind fun bt258=>(je.l1 k1 x3_1 x4_1 bt258.1 s0_0 bt258.2 t251 t252))=some (r1,r2):=by first |(rw [hy255];with_reducible exact H) |(have H2_:=(Option.bind_some _ _).symm.trans H;rw [hy255];with_reducible exact H2_) |(have H2_:=(Option.bind_some _ _).symm.trans H;with_reducible exact H2_) | with_reducible exact H |(rw [hy255];exact H) | exact H
    have Ny255:=am hy255
    clear hy255
    replace H:=bzS H
    obtain ⟨⟨t258,t259⟩,A110,H⟩:=H
    replace H:(je.l1 k1 x3_1 x4_1 t258 s0_0 t259 t251 t252)=some (r1,r2):=H
    have A11:=am A110
    clear A110
    have H':=am H
    clear H
    go_wp2_with (first |((with_reducible refine jk (f:=45) rfl ?_);refine gL (some 16) Tryd.func45 #[.pointer (some ⟨g,0,none⟩)] ?_;(with_reducible refine (jEa.calls k1 g s0_0 x1001_1 t251 t252 t253 w0 _ ?side1 ?side2 A10.out).mono ?_);(case side1=>exact Y0);(case side2=>exact Y2);rintro e w12 ⟨rfl,hi,hb,hk⟩;refine ⟨_,rfl,?_⟩;replace HO_3:=am (Kd.jT (Kd.jBa (jr.apart (show jr w0 _ g s0_0 x1001_1 from Y0) (rq HO_3.out) (by decide)) hk (fun _ h=>h.2)) (fun _ h=>h.1));replace HK:=am (ji.trans (Y1) hk (.inl rfl));replace HB:=am (hb);replace HI0:=am (hi);(try clear hb);(try clear hb2);(try clear hk);(try clear hi)) |((with_reducible refine jK (N:=5) rfl ?_);(try (refine jVa (by rfl) ?_;dsimp only));refine box_event ?hg (N:=5) ?hd (cs:=#[.string (⟨#[]⟩:ByteArray), .int .i64 0]) (t:=38) ?hr ?_;(case hd=>rfl);(case hg=>rfl);(case hr=>exact Y3);intro gb254 hg w13 hbox hb;have BK254:=am (hbox);have GW254:=am ((Y21:w.heap.size≤gb254));have GE254:=am ((Nat.le_trans HW0.out (Y21:w.heap.size≤gb254):w0.heap.size≤gb254));have NB0_254:=am ((by rw [hg];exact Nat.ne_of_lt (jr.lt (show jr w0 _ g s0_0 t253 from by repeat (first |(with_reducible first | exact HI0.out | apply jr.alloc | apply jr.drewN | apply jr.drew | apply jr.set_1) | exact HI0.out))):g≠gb254));have NB254_0:=am ((by rw [hg];exact Nat.ne_of_gt (jr.lt (show jr w0 _ g s0_0 t253 from by repeat (first |(with_reducible first | exact HI0.out | apply jr.alloc | apply jr.drewN | apply jr.drew | apply jr.set_1) | exact HI0.out))):gb254≠g));replace HO_3:=am (Kd.jM (Kd.R_elderB (rq HO_3.out) gb254 (Nat.le_of_eq hg.symm)) hb);replace HK:=am (ji.trans (Y1) (ji.of_below hb g none) (.inl rfl));replace HB:=am (jg (Y2) hb);replace HI0:=am (jr.below (Y0) hb);clear hb hbox hg;have hnb14:=NB254_0.out;have hnc14:=NB0_254.out;have hcz15_0:=bc0 BK254.out;have hcz15_1:=bc1 BK254.out;have hfz15_0:=jl BK254.out 0;have hfz15_1:=jl BK254.out 1) |((with_reducible refine jK (N:=18) rfl ?_);(try (refine jVa (by rfl) ?_;dsimp only));refine Kd.R_lit (Kd.int .i64) _ 3 ?hg (N:=18) ?hd (xs:=([1,1,2,3]:List Int)) (inner:=[.int .i64 1, .int .i64 1, .int .i64 2, .int .i64 3]) (ok:=fun _=>True) (okp:=fun _=>True) ?hr ?hp (fun _ hk=>hk) trivial (Below.refl _ _) (Nat.le_refl _) (by simp) ?_;(case hd=>rfl);(case hg=>rfl);(case hr=>exact Y3);(case hp=>exact (Reps.one (show Kd.M (Kd.int .i64) _ _ _ 1 [.int .i64 1] from rfl) (Reps.one (show Kd.M (Kd.int .i64) _ _ _ 1 [.int .i64 1] from rfl) (Reps.one (show Kd.M (Kd.int .i64) _ _ _ 2 [.int .i64 2] from rfl) (Reps.one (show Kd.M (Kd.int .i64) _ _ _ 3 [.int .i64 3] from rfl) (Reps.none _ _))))));intro v256 w16 ho17 hb hg_ hnew_;clear hg_ hnew_;(first | rw [← Ny255.out] at ho17 |(simp only [Int.reduceToNat] at ho17;rw [← Ny255.out] at ho17));have HO257:=am (Kd.jca ho17 (jpa (w:=w) (g:=g) (row:=none) (Y12)));replace HO_3:=am (Kd.jM (by (with_reducible repeat (first | apply Kd.jMa | apply Kd.jFa | apply Kd.jOa));exact (Kd.jT (Kd.R_far (p:=⟨gb254,1,none⟩) (Kd.R_far (p:=⟨gb254,0,none⟩) (Kd.jT HO_3.out (fun k_ hk=>(⟨hk,hk.2⟩:_∧k_≠gb254))) (fun _ hk=>hk.2) (.string t251)) (fun _ hk=>hk.2) (.int .i64 t252)) (fun _ h_=>h_.1))) hb);replace BK254:=am (jXa (g:=gb254) (o:=.cells #[.string t251, .int .i64 t252] 38 (0,0)) (by (with_reducible repeat (first | refine jaa ?_ _ | refine jea ?_ | refine jba ?_ _));refine jLa (cs:=#[.string t251, .int .i64 0]) ?_ 1 _ rfl;(with_reducible repeat (first | refine jaa ?_ _ | refine jea ?_ | refine jba ?_ _));refine jLa (cs:=#[.string (⟨#[]⟩:ByteArray), .int .i64 0]) ?_ 0 _ rfl;(with_reducible repeat (first | refine jaa ?_ _ | refine jea ?_ | refine jba ?_ _));exact BK254.out) hb);replace HK:=am (ji.trans (Y12) (ji.of_below hb g none) (.inl rfl));replace HB:=am (jg (Y16) hb);replace HI0:=am (jr.below (show jr w0 ((w13.setCell ⟨gb254,0,none⟩ (.string t251)).setCell ⟨gb254,1,none⟩ (.int .i64 t252)) g s0_0 t253 from Y13) hb);clear hb ho17;obtain ⟨Ao18,co18,eo18⟩:=Kd.jda HO257.out;subst eo18) |((with_reducible refine jk (f:=38) rfl ?_);refine gL (some 19) Tryd.func38 #[.pointer (some ⟨g,0,none⟩), .slice Ao18 y255.length co18] ?_;(with_reducible refine (jq.calls k1 g s0_0 t253 _ _ y255 t258 t259 w0 _ ?side1 ?side2 ?side3 ?side4 ?side5 A11.out).mono ?_);(case side1=>exact Y13);(case side2=>exact Y16);(case side3=>exact cq (Kd.jo HO257.out).2.2);(case side4=>exact (Kd.jo HO257.out).2.1);(case side5=>exact jWa (jr.own_ne HI0.out HO257.out (by decide)));rintro e w19 ⟨rfl,hi,hb,hk⟩;refine ⟨_,rfl,?_⟩;replace HO_3:=am (Kd.jT (Kd.jBa (jr.apart (show jr w0 _ g s0_0 t253 from Y13) (rq HO_3.out) (by decide)) hk (fun _ h=>h.2)) (fun _ h=>h.1));replace BK254:=am (ji.blk hk (g':=gb254) (o:=.cells #[.string t251, .int .i64 t252] 38 (0,0)) (kq BK254.out) NB254_0.out (by simp));replace HO257:=am (Kd.jT (Kd.jBa (jr.apart (show jr w0 _ g s0_0 t253 from Y13) (rq HO257.out) (by decide)) hk (fun _ h=>h.2)) (fun _ h=>h.1));replace HK:=am (ji.trans (Y12) hk (.inl rfl));replace HB:=am (hb);replace HI0:=am (hi);(try clear hb);(try clear hb2);(try clear hk);(try clear hi)))
    go_loopg [3,6] k1 (fun kq v3 v6 w'=>∃ (x3_2:List (S38)) (x6_2:Int),v6=.int .i64 x6_2∧jy (je.l1 kq x3_2 x4_1 x6_2 s0_0 t259 t251 t252=some (r1,r2))∧jy (kq≤k1)∧jy (Kd.R k38 38 w' w.heap.size (fun k_=>k_≠gb254) v3 x3_2)∧jy (w'.heap[gb254]?=some (.cells #[.string t251, .int .i64 t252] 38 (0,0)))∧jy (jr w0 w' g s0_0 t259)∧jy (ji w w' g none)∧jy (Below w0.heap.size w0 w'))
    case atStart=>exact ⟨(x3_1),(t258),(sq),H',⟨Nat.le_refl _⟩,⟨by (with_reducible repeat (first | apply Kd.jMa | apply Kd.jFa | apply Kd.jOa));exact Kd.jT HO_3.out (fun _ hk=>hk.2)⟩,⟨kq BK254.out⟩,⟨Y13⟩,⟨Y12⟩,⟨Y16⟩⟩
    case round =>
     clear H'
     try clear c1
     try clear p2
     try clear c3
     try clear c4
     try clear c9
     try clear c9b0
     try clear c14
     try clear hcz15_0
     try clear hcz15_1
     try clear hfz15_0
     try clear hfz15_1
     try clear p2
     obtain ⟨x3_2,x6_2,rfl,HA,HK2,HO_3,BK254,HI0,HK,HB⟩:=hrel
     cases gk with
     | zero=>exact absurd HA.out (by simp [je.l1])
     | succ k2 =>
      have H:=HA.out
      clear HA
      simp only [je.l1] at H
      by_cases c20:x6_2 > 0
      ·rw [if_pos c20] at H
       have c20b0:decide (0<x6_2)=true:=dzT c20
       clear c20
       by_cases c21:(x3_2.length:Int)<12
       ·rw [if_pos c21] at H
        have c21b0:decide ((x3_2.length:Int)<12)=true:=dzT c21
        have c21b1:decide (x3_2.length<12)=true:=dzT (by omega)
        clear c21
        by_cases c22:x3_2.length<5864062014805
        ·rw [if_pos c22] at H
         have LMc22:=am c22
         clear c22
         obtain ⟨y260,hy260⟩:∃ y_:List (S38),y_=(x3_2 ++ [(⟨t251,t252⟩:S38)]):=⟨_,rfl⟩
         replace H:(je.l1 k2 y260 x4_1 (wrap64 (x6_2 - 1)) s0_0 t259 t251 t252)=some (r1,r2):=by first |(rw [hy260];with_reducible exact H) |(have H2_:=(Option.bind_some _ _).symm.trans H;rw [hy260];with_reducible exact H2_) |(have H2_:=(Option.bind_some _ _).symm.trans H;with_reducible exact H2_) | with_reducible exact H |(rw [hy260];exact H) | exact H
         have Ny260:=am hy260
         clear hy260
         have H':=am H
         clear H
         obtain ⟨Ao23,co23,eo23⟩:=Kd.jda HO_3.out
         subst eo23
         have hnb24:=NB254_0.out
         have hnc24:=NB0_254.out
         have hcz25_0:=bc0 BK254.out
         have hcz25_1:=bc1 BK254.out
         have hfz25_0:=jl BK254.out 0
         have hfz25_1:=jl BK254.out 1
         go_wp2_with (first |((with_reducible refine jP (b:=.append) (xs:=#[.tmp 29, .tmp 31]) rfl ?_);(try (refine jVa (by rfl) ?_;dsimp only));at_builtin;refine Kd.jua k38 w.heap.size rfl (.tmp 29) (.tmp 31) 25 38 (.agg #[(.string ⟨#[]⟩),(.int .i64 0)]) 24 rfl Tryd.underlying25 info38 rfl (by decide) (by omega) (.slice Ao23 x3_2.length co23) x3_2 (⟨t251,t252⟩:S38) [.string t251, .int .i64 t252] (fun k_=>k_≠gb254) (fun _=>False) rfl rfl ?aP (fun _ hk=>hk.elim) ?aF ?aO (Below.refl _ _) ?aS ?aL ?_;(case aP=>exact k38_mkM _ _ _ (⟨t251,t252⟩:S38));(case aF=>exact (fun k_ hk=>Kd.freshB (g:=gb254) (o:=.cells #[.string t251, .int .i64 t252] 38 (0,0)) (kq BK254.out) k_ hk));(case aO=>exact (rq HO_3.out));(case aS=>exact (jpa (w:=w) (g:=g) (row:=none) (Y12)));(case aL=>have:=LMc22.out;omega);intro v261 w26 ho hb hg hat;rw [← Ny260.out] at ho;have n0_:=am (jra (g:=gb254) (o:=.cells #[.string t251, .int .i64 t252] 38 (0,0)) (kq BK254.out) hg (Kd.R_away HO_3.out (fun _ hk=>hk)));have n1_:=am (jr.grown (Y13) hg (jr.own_ne HI0.out HO_3.out (by decide)));have n2_:=am (below_weaken (Y16) HL.out hb);have n3_:=am (ji.trans (Y12) (ji.of_grown hg g) (Kd.R_base2 HO_3.out));have n4_:=am (ho);clear BK254 HI0 HB HK HO_3;have BK254:=n0_;have HI0:=n1_;have HB:=n2_;have HK:=n3_;have HO262:=n4_;clear n0_ n1_ n2_ n3_ n4_ ho hb hg hat))
         go_roundg k2
         case measure=>have:=HK1.out;have:=HK2.out;omega
         case rel=>exact ⟨(y260),(wrap64 (x6_2 - 1)),(sq),H',⟨by have:=HK1.out;have:=HK2.out;omega⟩,⟨rq HO262.out⟩,⟨kq BK254.out⟩,⟨Y13⟩,⟨Y12⟩,⟨Y16⟩⟩
        ·rw [if_neg c22] at H
         exact absurd H (by simp)
       ·rw [if_neg c21] at H
        have c21b0:decide ((x3_2.length:Int)<12)=false:=dzF c21
        have c21b1:decide (x3_2.length<12)=false:=dzF (by omega)
        clear c21
        have H':=am H
        clear H
        obtain ⟨Ao27,co27,eo27⟩:=Kd.jda HO_3.out
        subst eo27
        go_wp2
        go_roundg k2
        case measure=>have:=HK1.out;have:=HK2.out;omega
        case rel=>exact ⟨(x3_2),(wrap64 (x4_1 - 1)),(t259),(sq),H',⟨by have:=HK1.out;have:=HK2.out;omega⟩,⟨by (with_reducible repeat (first | apply Kd.jMa | apply Kd.jFa | apply Kd.jOa));exact Kd.jT HO_3.out (fun _ hk=>trivial)⟩,⟨Y13⟩,⟨Y12⟩,⟨Y16⟩⟩
      ·rw [if_neg c20] at H
       have c20b0:decide (0<x6_2)=false:=dzF c20
       clear c20
       have H':=am H
       clear H
       go_wp2
       go_roundg k2
       case measure=>have:=HK1.out;have:=HK2.out;omega
       case rel=>exact ⟨(x3_2),(wrap64 (x4_1 - 1)),(t259),(sq),H',⟨by have:=HK1.out;have:=HK2.out;omega⟩,⟨by (with_reducible repeat (first | apply Kd.jMa | apply Kd.jFa | apply Kd.jOa));exact Kd.jT HO_3.out (fun _ hk=>trivial)⟩,⟨Y13⟩,⟨Y12⟩,⟨Y16⟩⟩
   ·rw [if_neg c9] at H
    have c9b0:decide (0<x4_1)=false:=dzF c9
    clear c9
    simp only [Option.some.injEq,Prod.mk.injEq] at H
    obtain ⟨rfl,rfl⟩:=H
    go_wp2
    go_ret
    exact ⟨_,Y4,rq HO_3.out,Y0,Y2,Y1⟩
def jia.f (k : Nat) (s0_0 : List Int) (s0_1 : Int) : Option ((List (S38)) × Int) := (je.f k s0_0 s0_1).bind fun bt263 => (if (bt263.1.length : Int) > 0 then ((jd.f k s0_0 bt263.2 (bt263.1.length : Int)).bind fun bt267 => ((jd.f k s0_0 bt267.2 24).bind fun bt269 => (if bt269.1 = 0 then ((jH.f k s0_0 bt269.2 (([(⟨#[]⟩ : ByteArray), (⟨#[70]⟩ : ByteArray), (⟨#[116, 111, 111, 108, 111, 110, 103]⟩ : ByteArray)] : List ByteArray))).bind fun bt274 => (if 0 ≤ bt267.1 then (if bt267.1 < (bt263.1.length : Int) then (some ((bt263.1.set (bt267.1 : Int).toNat (⟨bt274.1, (jb bt263.1 bt267.1).f1⟩ : S38)), bt274.2)) else (none)) else (none))) else (if bt269.1 = 1 then ((jq.f k s0_0 bt269.2 (([0, 1000] : List Int))).bind fun bt280 => (if 0 ≤ bt267.1 then (if bt267.1 < (bt263.1.length : Int) then (some ((bt263.1.set (bt267.1 : Int).toNat (⟨(jb bt263.1 bt267.1).f0, bt280.1⟩ : S38)), bt280.2)) else (none)) else (none))) else (some (bt263.1, bt269.2)))))) else (some (bt263.1, bt263.2)))
set_option maxHeartbeats 8000000 in
set_option maxRecDepth 100000 in
theorem jia.calls (k : Nat) (g : Nat) (s0_0 : List Int) (s0_1 : Int) (r1 : List (S38)) (r2 : Int) (w0 w : World) (hI : jr w0 w g s0_0 s0_1) (hB : Below w0.heap.size w0 w) (h : jia.f k s0_0 s0_1 = some (r1, r2)) :
  Calls Tryd.prog 21 #[.pointer (some ⟨g,0,none⟩)] w fun e w'=>∃ v0_:Value,e=.returned (v0_)∧Kd.R k38 38 w' w.heap.size (fun _=>True) v0_ r1∧jr w0 w' g s0_0 r2∧Below w0.heap.size w0 w'∧ji w w' g none:=by
 have HI0:=am hI
 have HK:=am (ji.refl w g none)
 have HL:=am hB.size
 clear hI
 have HW0:=am hB.size
 have HB:=am hB
 clear hB
 have H:((je.f k s0_0 s0_1).bind fun bt263=>(if (bt263.1.length:Int) > 0 then ((jd.f k s0_0 bt263.2 (bt263.1.length:Int)).bind fun bt267=>((jd.f k s0_0 bt267.2 24).bind fun bt269=>(if bt269.1=0 then ((jH.f k s0_0 bt269.2 (([(⟨#[]⟩:ByteArray),(⟨#[70]⟩:ByteArray),(⟨#[116,111,111,108,111,110,103]⟩:ByteArray)]:List ByteArray))).bind fun bt274=>(if 0≤bt267.1 then (if bt267.1<(bt263.1.length:Int) then (some ((bt263.1.set (bt267.1:Int).toNat (⟨bt274.1,(jb bt263.1 bt267.1).f1⟩:S38)),bt274.2)) else (none)) else (none))) else (if bt269.1=1 then ((jq.f k s0_0 bt269.2 (([0,1000]:List Int))).bind fun bt280=>(if 0≤bt267.1 then (if bt267.1<(bt263.1.length:Int) then (some ((bt263.1.set (bt267.1:Int).toNat (⟨(jb bt263.1 bt267.1).f0,bt280.1⟩:S38)),bt280.2)) else (none)) else (none))) else (some (bt263.1,bt269.2)))))) else (some (bt263.1,bt263.2))))=some (r1,r2):=h
 clear h
 replace H:=bzS H
 obtain ⟨⟨t263,t266⟩,A20,H⟩:=H
 replace H:(if (t263.length:Int) > 0 then ((jd.f k s0_0 t266 (t263.length:Int)).bind fun bt267=>((jd.f k s0_0 bt267.2 24).bind fun bt269=>(if bt269.1=0 then ((jH.f k s0_0 bt269.2 (([(⟨#[]⟩:ByteArray),(⟨#[70]⟩:ByteArray),(⟨#[116,111,111,108,111,110,103]⟩:ByteArray)]:List ByteArray))).bind fun bt274=>(if 0≤bt267.1 then (if bt267.1<(t263.length:Int) then (some ((t263.set (bt267.1:Int).toNat (⟨bt274.1,(jb t263 bt267.1).f1⟩:S38)),bt274.2)) else (none)) else (none))) else (if bt269.1=1 then ((jq.f k s0_0 bt269.2 (([0,1000]:List Int))).bind fun bt280=>(if 0≤bt267.1 then (if bt267.1<(t263.length:Int) then (some ((t263.set (bt267.1:Int).toNat (⟨(jb t263 bt267.1).f0,bt280.1⟩:S38)),bt280.2)) else (none)) else (none))) else (some (t263,bt269.2)))))) else (some (t263,t266)))=some (r1,r2):=H
 have A2:=am A20
 clear A20
 by_cases c3:(t263.length:Int) > 0
 ·rw [if_pos c3] at H
  have c3b0:decide (0<(t263.length:Int))=true:=dzT c3
  have c3b1:decide (0<t263.length)=true:=dzT (by omega)
  clear c3
  replace H:=bzS H
  obtain ⟨⟨t267,t268⟩,A40,H⟩:=H
  replace H:((jd.f k s0_0 t268 24).bind fun bt269=>(if bt269.1=0 then ((jH.f k s0_0 bt269.2 (([(⟨#[]⟩:ByteArray),(⟨#[70]⟩:ByteArray),(⟨#[116,111,111,108,111,110,103]⟩:ByteArray)]:List ByteArray))).bind fun bt274=>(if 0≤t267 then (if t267<(t263.length:Int) then (some ((t263.set (t267:Int).toNat (⟨bt274.1,(jb t263 t267).f1⟩:S38)),bt274.2)) else (none)) else (none))) else (if bt269.1=1 then ((jq.f k s0_0 bt269.2 (([0,1000]:List Int))).bind fun bt280=>(if 0≤t267 then (if t267<(t263.length:Int) then (some ((t263.set (t267:Int).toNat (⟨(jb t263 t267).f0,bt280.1⟩:S38)),bt280.2)) else (none)) else (none))) else (some (t263,bt269.2)))))=some (r1,r2):=H
  have A4:=am A40
  clear A40
  replace H:=bzS H
  obtain ⟨⟨t269,t270⟩,A50,H⟩:=H
  replace H:(if t269=0 then ((jH.f k s0_0 t270 (([(⟨#[]⟩:ByteArray),(⟨#[70]⟩:ByteArray),(⟨#[116,111,111,108,111,110,103]⟩:ByteArray)]:List ByteArray))).bind fun bt274=>(if 0≤t267 then (if t267<(t263.length:Int) then (some ((t263.set (t267:Int).toNat (⟨bt274.1,(jb t263 t267).f1⟩:S38)),bt274.2)) else (none)) else (none))) else (if t269=1 then ((jq.f k s0_0 t270 (([0,1000]:List Int))).bind fun bt280=>(if 0≤t267 then (if t267<(t263.length:Int) then (some ((t263.set (t267:Int).toNat (⟨(jb t263 t267).f0,bt280.1⟩:S38)),bt280.2)) else (none)) else (none))) else (some (t263,t270))))=some (r1,r2):=H
  have A5:=am A50
  clear A50
  by_cases c6:t269=0
  ·rw [if_pos c6] at H
   have c6b0:(t269 == 0)=true:=beq_iff_eq.mpr c6
   have c6b1:(t269 != 0)=false:=bne_eq_false_iff_eq.mpr c6
   clear c6
   obtain ⟨y271,hy271⟩:∃ y_:List ByteArray,y_=(([(⟨#[]⟩:ByteArray),(⟨#[70]⟩:ByteArray),(⟨#[116,111,111,108,111,110,103]⟩:ByteArray)]:List ByteArray)):=⟨_,rfl⟩
   replace H:((jH.f k s0_0 t270 y271).bind fun bt274=>(if 0≤t267 then (if t267<(t263.length:Int) then (some ((t263.set (t267:Int).toNat (⟨bt274.1,(jb t263 t267).f1⟩:S38)),bt274.2)) else (none)) else (none)))=some (r1,r2):=by first |(rw [hy271];with_reducible exact H) |(have H2_:=(Option.bind_some _ _).symm.trans H;rw [hy271];with_reducible exact H2_) |(have H2_:=(Option.bind_some _ _).symm.trans H;with_reducible exact H2_) | with_reducible exact H |(rw [hy271];exact H) | exact H
   have Ny271:=am hy271
   clear hy271
   replace H:=bzS H
   obtain ⟨⟨t274,t275⟩,A70,H⟩:=H
   replace H:(if 0≤t267 then (if t267<(t263.length:Int) then (some ((t263.set (t267:Int).toNat (⟨t274,(jb t263 t267).f1⟩:S38)),t275)) else (none)) else (none))=some (r1,r2):=H
   have A7:=am A70
   clear A70
   by_cases c8:0≤t267
   ·rw [if_pos c8] at H
    have c8b0:decide (0≤t267)=true:=dzT c8
    clear c8
    by_cases c9:t267<(t263.length:Int)
    ·rw [if_pos c9] at H
     have c9b0:decide (t267<(t263.length:Int))=true:=dzT c9
     clear c9
     obtain ⟨y276,hy276⟩:∃ y_:List (S38),y_=(t263.set (t267:Int).toNat (⟨t274,(jb t263 t267).f1⟩:S38)):=⟨_,rfl⟩
     replace H:(some (y276,t275))=some (r1,r2):=by first |(rw [hy276];with_reducible exact H) |(have H2_:=(Option.bind_some _ _).symm.trans H;rw [hy276];with_reducible exact H2_) |(have H2_:=(Option.bind_some _ _).symm.trans H;with_reducible exact H2_) | with_reducible exact H |(rw [hy276];exact H) | exact H
     have Ny276:=am hy276
     clear hy276
     simp only [Option.some.injEq,Prod.mk.injEq] at H
     obtain ⟨rfl,rfl⟩:=H
     go_enter Tryd.func21,Tryd.ntmps21
     go_wp2_with (first |((with_reducible refine jk (f:=35) rfl ?_);refine gL (some 6) Tryd.func35 #[.pointer (some ⟨g,0,none⟩)] ?_;(with_reducible refine (je.calls k g s0_0 s0_1 t263 t266 w0 _ ?side1 ?side2 A2.out).mono ?_);(case side1=>exact Y0);(case side2=>exact Y2);rintro e w11 ⟨v264,rfl,ho0,hi,hb,hk⟩;refine ⟨_,rfl,?_⟩;have HO265:=am (Kd.jca ho0 (jpa (w:=w) (g:=g) (row:=none) (Y1)));replace HK:=am (ji.trans (Y1) hk (.inl rfl));replace HB:=am (hb);replace HI0:=am (hi);(try clear hb);(try clear hb2);(try clear hk);(try clear hi);(try clear ho0);obtain ⟨Ao12,co12,eo12⟩:=Kd.jda HO265.out;subst eo12) |((with_reducible refine jk (f:=36) rfl ?_);refine gL (some 13) Tryd.func36 #[.pointer (some ⟨g,0,none⟩), .int .i64 (t263.length:Int)] ?_;(with_reducible refine (jd.calls k g s0_0 t266 (t263.length:Int) t267 t268 w0 _ ?side1 ?side2 A4.out).mono ?_);(case side1=>exact Y0);(case side2=>exact Y2);rintro e w13 ⟨rfl,hi,hb,hk⟩;refine ⟨_,rfl,?_⟩;replace HO265:=am (Kd.jT (Kd.jBa (jr.apart (show jr w0 _ g s0_0 t266 from Y0) (rq HO265.out) (by decide)) hk (fun _ h=>h.2)) (fun _ h=>h.1));replace HK:=am (ji.trans (Y1) hk (.inl rfl));replace HB:=am (hb);replace HI0:=am (hi);(try clear hb);(try clear hb2);(try clear hk);(try clear hi)) |((with_reducible refine jk (f:=36) rfl ?_);refine gL (some 15) Tryd.func36 #[.pointer (some ⟨g,0,none⟩), .int .i64 24] ?_;(with_reducible refine (jd.calls k g s0_0 t268 24 t269 t270 w0 _ ?side1 ?side2 A5.out).mono ?_);(case side1=>exact Y0);(case side2=>exact Y2);rintro e w14 ⟨rfl,hi,hb,hk⟩;refine ⟨_,rfl,?_⟩;replace HO265:=am (Kd.jT (Kd.jBa (jr.apart (show jr w0 _ g s0_0 t268 from Y0) (rq HO265.out) (by decide)) hk (fun _ h=>h.2)) (fun _ h=>h.1));replace HK:=am (ji.trans (Y1) hk (.inl rfl));replace HB:=am (hb);replace HI0:=am (hi);(try clear hb);(try clear hb2);(try clear hk);(try clear hi)) |((with_reducible refine jK (N:=21) rfl ?_);refine Kd.R_lit Kd.string _ 9 ?hg (N:=21) ?hd (xs:=([(⟨#[]⟩:ByteArray),(⟨#[70]⟩:ByteArray),(⟨#[116,111,111,108,111,110,103]⟩:ByteArray)]:List ByteArray)) (inner:=[.string (⟨#[]⟩:ByteArray), .string (⟨#[70]⟩:ByteArray), .string (⟨#[116,111,111,108,111,110,103]⟩:ByteArray)]) (ok:=fun _=>True) (okp:=fun _=>True) ?hr ?hp (fun _ hk=>hk) trivial (Below.refl _ _) (Nat.le_refl _) (by simp) ?_;(case hd=>rfl);(case hg=>rfl);(case hr=>exact Y3);(case hp=>exact (Reps.one (show Kd.M Kd.string _ _ _ (⟨#[]⟩:ByteArray) [.string (⟨#[]⟩:ByteArray)] from rfl) (Reps.one (show Kd.M Kd.string _ _ _ (⟨#[70]⟩:ByteArray) [.string (⟨#[70]⟩:ByteArray)] from rfl) (Reps.one (show Kd.M Kd.string _ _ _ (⟨#[116,111,111,108,111,110,103]⟩:ByteArray) [.string (⟨#[116,111,111,108,111,110,103]⟩:ByteArray)] from rfl) (Reps.none _ _)))));intro v272 w15 ho16 hb hg_ hnew_;clear hg_ hnew_;(first | rw [← Ny271.out] at ho16 |(simp only [Int.reduceToNat] at ho16;rw [← Ny271.out] at ho16));have HO273:=am (Kd.jca ho16 (jpa (w:=w) (g:=g) (row:=none) (Y1)));replace HO265:=am (Kd.jM (rq HO265.out) hb);replace HK:=am (ji.trans (Y1) (ji.of_below hb g none) (.inl rfl));replace HB:=am (jg (Y2) hb);replace HI0:=am (jr.below (Y0) hb);clear hb ho16;obtain ⟨Ao17,co17,eo17⟩:=Kd.jda HO273.out;subst eo17) |((with_reducible refine jk (f:=37) rfl ?_);refine gL (some 22) Tryd.func37 #[.pointer (some ⟨g,0,none⟩), .slice Ao17 y271.length co17] ?_;(with_reducible refine (jH.calls k g s0_0 t270 _ _ y271 t274 t275 w0 _ ?side1 ?side2 ?side3 ?side4 ?side5 A7.out).mono ?_);(case side1=>exact Y0);(case side2=>exact Y2);(case side3=>exact cq (Kd.jo HO273.out).2.2);(case side4=>exact (Kd.jo HO273.out).2.1);(case side5=>exact jWa (jr.own_ne HI0.out HO273.out (by decide)));rintro e w18 ⟨rfl,hi,hb,hk⟩;refine ⟨_,rfl,?_⟩;replace HO265:=am (Kd.jT (Kd.jBa (jr.apart (show jr w0 _ g s0_0 t270 from Y0) (rq HO265.out) (by decide)) hk (fun _ h=>h.2)) (fun _ h=>h.1));replace HO273:=am (Kd.jT (Kd.jBa (jr.apart (show jr w0 _ g s0_0 t270 from Y0) (rq HO273.out) (by decide)) hk (fun _ h=>h.2)) (fun _ h=>h.1));replace HK:=am (ji.trans (Y1) hk (.inl rfl));replace HB:=am (hb);replace HI0:=am (hi);(try clear hb);(try clear hb2);(try clear hk);(try clear hi);have p10:0≤(t267:Int):=ozD (uq);have q10:(t267:Int)<((t263.length:Int):Int):=ozD (uq);obtain ⟨go10,co10,eo10,gb10,gl10,cl10,HG10⟩:=Kd.R_form HO265.out (by omega);(first | cases eo10 |(injection eo10 with ea_ en_ ec_;(first | subst ea_ |(injection ea_ with ea_;subst ea_));subst ec_;clear en_));have GB10:=am gb10;have GG10:=am HG10;clear gb10 gl10 HG10;obtain ⟨ce10,hcl10,hM10,hcc10,hfr10⟩:=Kd.jCa HO265.out z38 (t267:Int) p10 q10;obtain rfl:=k38_openM hM10;have hx10_0:w18.cell? ⟨go10,(t267:Int).toNat * 2,none⟩=some (.string ((jb t263 t267).f0)):=hcc10 0 _ rfl;have hx10_1:w18.cell? ⟨go10,(t267:Int).toNat * 2+1,none⟩=some (.int .i64 ((jb t263 t267).f1)):=hcc10 1 _ rfl;have hf10_0:w18.frozen? ⟨go10,(t267:Int).toNat * 2,none⟩=false:=hfr10 0;have hf10_1:w18.frozen? ⟨go10,(t267:Int).toNat * 2+1,none⟩=false:=hfr10 1;clear hcl10 hcc10 hfr10 hM10;replace p10:=ezT p10;replace q10:=ezT q10;have HX19:=am (show Kd.R k38 38 w18 w.heap.size (fun _=>True) (.slice (some ⟨go10,0,none⟩) t263.length co12) t263 from (rq HO265.out));obtain ⟨ce19,hcl19,hM19,hcc19,hfr19⟩:=Kd.jCa HX19.out z38 (t267:Int) (ozD (uq)) (by have h_:(t267:Int)<((t263.length:Int):Int):=ozD (uq);first | exact h_ |(have e_:=(Kd.jo HO265.out).1;omega) | simpa using h_);obtain rfl:=k38_openM hM19;have HP19:=Kd.R_seg HX19.out (t267:Int) (ozD (uq)) (by have h_:(t267:Int)<((t263.length:Int):Int):=ozD (uq);first | exact h_ |(have e_:=(Kd.jo HO265.out).1;omega) | simpa using h_) (seg:=[.string t274]) (j:=0) hcl19 hcc19 (show 1≤2 from by decide) (x':=(⟨t274,(jb t263 t267).f1⟩:S38)) (k38_mkM _ _ _ (⟨t274,(jb t263 t267).f1⟩:S38) ) (fun _ hk=>hk);have hx19_0:=hcc19 0 _ rfl;(try simp only [show (k38).sz=2 from rfl,Nat.mul_one,Nat.add_zero] at hx19_0);have hf19_0:=hfr19 0;(try simp only [show (k38).sz=2 from rfl,Nat.mul_one,Nat.add_zero] at hf19_0);clear hcl19 hcc19 hfr19 hM19) |((with_reducible refine jqa (t:=9) (p:=24) rfl ?_);refine jja (t:=9) (p:=24) (v:=?vo_w20) (w1:=(w18.setCell ⟨go10,(t267:Int).toNat * 2,none⟩ (.string t274))) ?hg ?ho ?hn ?hr ?_;(case ho=>rfl);(case hg=>rfl);(case hn=>rfl);(case hr=>exact Y3);intro w20 hw;have hg:w18.grownBy w20 (some go10):=(by rw [hw];exact HP19.2);have hp_:Kd.R k38 38 w20 w.heap.size (fun _=>True) (.slice (some ⟨go10,0,none⟩) t263.length co12) y276:=(by rw [hw,Ny276.out];exact HP19.1);clear HP19;replace HI0:=am (jr.grown (Y0) hg (jr.own_ne HI0.out HO265.out (by decide)));replace HO273:=am (Kd.R_over' (v:=(.slice (some ⟨go10,0,none⟩) t263.length co12)) (rq HO273.out) (Kd.R_typed HO265.out) (by decide) hg);replace HB:=am ((by rw [hw];exact jR (HB.out) (Nat.le_trans HL.out GB10.out):Below w0.heap.size w0 w20));replace HK:=am (ji.trans (Y1) (ji.of_grown hg g) (Kd.R_base2 HO265.out));replace HO265:=am (hp_);clear hg hw hp_))
     go_ret
     exact ⟨_,Y4,rq HO265.out,Y0,Y2,Y1⟩
    ·rw [if_neg c9] at H
     exact absurd H (by simp)
   ·rw [if_neg c8] at H
    exact absurd H (by simp)
  ·rw [if_neg c6] at H
   have c6b0:(t269 == 0)=false:=beq_eq_false_iff_ne.mpr c6
   have c6b1:(t269 != 0)=true:=bne_iff_ne.mpr c6
   by_cases c21:t269=1
   ·rw [if_pos c21] at H
    have c21b0:(t269 == 1)=true:=beq_iff_eq.mpr c21
    have c21b1:(t269 != 1)=false:=bne_eq_false_iff_eq.mpr c21
    clear c21
    obtain ⟨y277,hy277⟩:∃ y_:List Int,y_=(([0,1000]:List Int)):=⟨_,rfl⟩
    replace H:((jq.f k s0_0 t270 y277).bind fun bt280=>(if 0≤t267 then (if t267<(t263.length:Int) then (some ((t263.set (t267:Int).toNat (⟨(jb t263 t267).f0,bt280.1⟩:S38)),bt280.2)) else (none)) else (none)))=some (r1,r2):=by first |(rw [hy277];with_reducible exact H) |(have H2_:=(Option.bind_some _ _).symm.trans H;rw [hy277];with_reducible exact H2_) |(have H2_:=(Option.bind_some _ _).symm.trans H;with_reducible exact H2_) | with_reducible exact H |(rw [hy277];exact H) | exact H
    have Ny277:=am hy277
    clear hy277
    replace H:=bzS H
    obtain ⟨⟨t280,t281⟩,A220,H⟩:=H
    replace H:(if 0≤t267 then (if t267<(t263.length:Int) then (some ((t263.set (t267:Int).toNat (⟨(jb t263 t267).f0,t280⟩:S38)),t281)) else (none)) else (none))=some (r1,r2):=H
    have A22:=am A220
    clear A220
    by_cases c23:0≤t267
    ·rw [if_pos c23] at H
     have c23b0:decide (0≤t267)=true:=dzT c23
     clear c23
     by_cases c24:t267<(t263.length:Int)
     ·rw [if_pos c24] at H
      have c24b0:decide (t267<(t263.length:Int))=true:=dzT c24
      clear c24
      obtain ⟨y282,hy282⟩:∃ y_:List (S38),y_=(t263.set (t267:Int).toNat (⟨(jb t263 t267).f0,t280⟩:S38)):=⟨_,rfl⟩
      replace H:(some (y282,t281))=some (r1,r2):=by first |(rw [hy282];with_reducible exact H) |(have H2_:=(Option.bind_some _ _).symm.trans H;rw [hy282];with_reducible exact H2_) |(have H2_:=(Option.bind_some _ _).symm.trans H;with_reducible exact H2_) | with_reducible exact H |(rw [hy282];exact H) | exact H
      have Ny282:=am hy282
      clear hy282
      simp only [Option.some.injEq,Prod.mk.injEq] at H
      obtain ⟨rfl,rfl⟩:=H
      go_enter Tryd.func21,Tryd.ntmps21
      go_wp2_with (first |((with_reducible refine jk (f:=35) rfl ?_);refine gL (some 6) Tryd.func35 #[.pointer (some ⟨g,0,none⟩)] ?_;(with_reducible refine (je.calls k g s0_0 s0_1 t263 t266 w0 _ ?side1 ?side2 A2.out).mono ?_);(case side1=>exact Y0);(case side2=>exact Y2);rintro e w26 ⟨v264,rfl,ho0,hi,hb,hk⟩;refine ⟨_,rfl,?_⟩;have HO265:=am (Kd.jca ho0 (jpa (w:=w) (g:=g) (row:=none) (Y1)));replace HK:=am (ji.trans (Y1) hk (.inl rfl));replace HB:=am (hb);replace HI0:=am (hi);(try clear hb);(try clear hb2);(try clear hk);(try clear hi);(try clear ho0);obtain ⟨Ao27,co27,eo27⟩:=Kd.jda HO265.out;subst eo27) |((with_reducible refine jk (f:=36) rfl ?_);refine gL (some 13) Tryd.func36 #[.pointer (some ⟨g,0,none⟩), .int .i64 (t263.length:Int)] ?_;(with_reducible refine (jd.calls k g s0_0 t266 (t263.length:Int) t267 t268 w0 _ ?side1 ?side2 A4.out).mono ?_);(case side1=>exact Y0);(case side2=>exact Y2);rintro e w28 ⟨rfl,hi,hb,hk⟩;refine ⟨_,rfl,?_⟩;replace HO265:=am (Kd.jT (Kd.jBa (jr.apart (show jr w0 _ g s0_0 t266 from Y0) (rq HO265.out) (by decide)) hk (fun _ h=>h.2)) (fun _ h=>h.1));replace HK:=am (ji.trans (Y1) hk (.inl rfl));replace HB:=am (hb);replace HI0:=am (hi);(try clear hb);(try clear hb2);(try clear hk);(try clear hi)) |((with_reducible refine jk (f:=36) rfl ?_);refine gL (some 15) Tryd.func36 #[.pointer (some ⟨g,0,none⟩), .int .i64 24] ?_;(with_reducible refine (jd.calls k g s0_0 t268 24 t269 t270 w0 _ ?side1 ?side2 A5.out).mono ?_);(case side1=>exact Y0);(case side2=>exact Y2);rintro e w29 ⟨rfl,hi,hb,hk⟩;refine ⟨_,rfl,?_⟩;replace HO265:=am (Kd.jT (Kd.jBa (jr.apart (show jr w0 _ g s0_0 t268 from Y0) (rq HO265.out) (by decide)) hk (fun _ h=>h.2)) (fun _ h=>h.1));replace HK:=am (ji.trans (Y1) hk (.inl rfl));replace HB:=am (hb);replace HI0:=am (hi);(try clear hb);(try clear hb2);(try clear hk);(try clear hi)) |((with_reducible refine jK (N:=30) rfl ?_);refine Kd.R_lit (Kd.int .i64) _ 3 ?hg (N:=30) ?hd (xs:=([0,1000]:List Int)) (inner:=[.int .i64 0, .int .i64 1000]) (ok:=fun _=>True) (okp:=fun _=>True) ?hr ?hp (fun _ hk=>hk) trivial (Below.refl _ _) (Nat.le_refl _) (by simp) ?_;(case hd=>rfl);(case hg=>rfl);(case hr=>exact Y3);(case hp=>exact (Reps.one (show Kd.M (Kd.int .i64) _ _ _ 0 [.int .i64 0] from rfl) (Reps.one (show Kd.M (Kd.int .i64) _ _ _ 1000 [.int .i64 1000] from rfl) (Reps.none _ _))));intro v278 w30 ho31 hb hg_ hnew_;clear hg_ hnew_;(first | rw [← Ny277.out] at ho31 |(simp only [Int.reduceToNat] at ho31;rw [← Ny277.out] at ho31));have HO279:=am (Kd.jca ho31 (jpa (w:=w) (g:=g) (row:=none) (Y1)));replace HO265:=am (Kd.jM (rq HO265.out) hb);replace HK:=am (ji.trans (Y1) (ji.of_below hb g none) (.inl rfl));replace HB:=am (jg (Y2) hb);replace HI0:=am (jr.below (Y0) hb);clear hb ho31;obtain ⟨Ao32,co32,eo32⟩:=Kd.jda HO279.out;subst eo32) |((with_reducible refine jk (f:=38) rfl ?_);refine gL (some 31) Tryd.func38 #[.pointer (some ⟨g,0,none⟩), .slice Ao32 y277.length co32] ?_;(with_reducible refine (jq.calls k g s0_0 t270 _ _ y277 t280 t281 w0 _ ?side1 ?side2 ?side3 ?side4 ?side5 A22.out).mono ?_);(case side1=>exact Y0);(case side2=>exact Y2);(case side3=>exact cq (Kd.jo HO279.out).2.2);(case side4=>exact (Kd.jo HO279.out).2.1);(case side5=>exact jWa (jr.own_ne HI0.out HO279.out (by decide)));rintro e w33 ⟨rfl,hi,hb,hk⟩;refine ⟨_,rfl,?_⟩;replace HO265:=am (Kd.jT (Kd.jBa (jr.apart (show jr w0 _ g s0_0 t270 from Y0) (rq HO265.out) (by decide)) hk (fun _ h=>h.2)) (fun _ h=>h.1));replace HO279:=am (Kd.jT (Kd.jBa (jr.apart (show jr w0 _ g s0_0 t270 from Y0) (rq HO279.out) (by decide)) hk (fun _ h=>h.2)) (fun _ h=>h.1));replace HK:=am (ji.trans (Y1) hk (.inl rfl));replace HB:=am (hb);replace HI0:=am (hi);(try clear hb);(try clear hb2);(try clear hk);(try clear hi);have p25:0≤(t267:Int):=ozD (uq);have q25:(t267:Int)<((t263.length:Int):Int):=ozD (uq);obtain ⟨go25,co25,eo25,gb25,gl25,cl25,HG25⟩:=Kd.R_form HO265.out (by omega);(first | cases eo25 |(injection eo25 with ea_ en_ ec_;(first | subst ea_ |(injection ea_ with ea_;subst ea_));subst ec_;clear en_));have GB25:=am gb25;have GG25:=am HG25;clear gb25 gl25 HG25;obtain ⟨ce25,hcl25,hM25,hcc25,hfr25⟩:=Kd.jCa HO265.out z38 (t267:Int) p25 q25;obtain rfl:=k38_openM hM25;have hx25_0:w33.cell? ⟨go25,(t267:Int).toNat * 2,none⟩=some (.string ((jb t263 t267).f0)):=hcc25 0 _ rfl;have hx25_1:w33.cell? ⟨go25,(t267:Int).toNat * 2+1,none⟩=some (.int .i64 ((jb t263 t267).f1)):=hcc25 1 _ rfl;have hf25_0:w33.frozen? ⟨go25,(t267:Int).toNat * 2,none⟩=false:=hfr25 0;have hf25_1:w33.frozen? ⟨go25,(t267:Int).toNat * 2+1,none⟩=false:=hfr25 1;clear hcl25 hcc25 hfr25 hM25;replace p25:=ezT p25;replace q25:=ezT q25;have HX34:=am (show Kd.R k38 38 w33 w.heap.size (fun _=>True) (.slice (some ⟨go25,0,none⟩) t263.length co27) t263 from (rq HO265.out));obtain ⟨ce34,hcl34,hM34,hcc34,hfr34⟩:=Kd.jCa HX34.out z38 (t267:Int) (ozD (uq)) (by have h_:(t267:Int)<((t263.length:Int):Int):=ozD (uq);first | exact h_ |(have e_:=(Kd.jo HO265.out).1;omega) | simpa using h_);obtain rfl:=k38_openM hM34;have HP34:=Kd.R_seg HX34.out (t267:Int) (ozD (uq)) (by have h_:(t267:Int)<((t263.length:Int):Int):=ozD (uq);first | exact h_ |(have e_:=(Kd.jo HO265.out).1;omega) | simpa using h_) (seg:=[.int .i64 t280]) (j:=1) hcl34 hcc34 (show 2≤2 from by decide) (x':=(⟨(jb t263 t267).f0,t280⟩:S38)) (k38_mkM _ _ _ (⟨(jb t263 t267).f0,t280⟩:S38) ) (fun _ hk=>hk);have hx34_1:=hcc34 1 _ rfl;(try simp only [show (k38).sz=2 from rfl,Nat.mul_one,Nat.add_zero] at hx34_1);have hf34_1:=hfr34 1;(try simp only [show (k38).sz=2 from rfl,Nat.mul_one,Nat.add_zero] at hf34_1);clear hcl34 hcc34 hfr34 hM34) |((with_reducible refine jqa (t:=3) (p:=33) rfl ?_);refine jja (t:=3) (p:=33) (v:=?vo_w35) (w1:=(w33.setCell ⟨go25,(t267:Int).toNat * 2+1,none⟩ (.int .i64 t280))) ?hg ?ho ?hn ?hr ?_;(case ho=>rfl);(case hg=>rfl);(case hn=>rfl);(case hr=>exact Y3);intro w35 hw;have hg:w33.grownBy w35 (some go25):=(by rw [hw];exact HP34.2);have hp_:Kd.R k38 38 w35 w.heap.size (fun _=>True) (.slice (some ⟨go25,0,none⟩) t263.length co27) y282:=(by rw [hw,Ny282.out];exact HP34.1);clear HP34;replace HI0:=am (jr.grown (Y0) hg (jr.own_ne HI0.out HO265.out (by decide)));replace HO279:=am (Kd.R_over' (v:=(.slice (some ⟨go25,0,none⟩) t263.length co27)) (rq HO279.out) (Kd.R_typed HO265.out) (by decide) hg);replace HB:=am ((by rw [hw];exact jR (HB.out) (Nat.le_trans HL.out GB25.out):Below w0.heap.size w0 w35));replace HK:=am (ji.trans (Y1) (ji.of_grown hg g) (Kd.R_base2 HO265.out));replace HO265:=am (hp_);clear hg hw hp_))
      go_ret
      exact ⟨_,Y4,rq HO265.out,Y0,Y2,Y1⟩
     ·rw [if_neg c24] at H
      exact absurd H (by simp)
    ·rw [if_neg c23] at H
     exact absurd H (by simp)
   ·rw [if_neg c21] at H
    have c21b0:(t269 == 1)=false:=beq_eq_false_iff_ne.mpr c21
    have c21b1:(t269 != 1)=true:=bne_iff_ne.mpr c21
    simp only [Option.some.injEq,Prod.mk.injEq] at H
    obtain ⟨rfl,rfl⟩:=H
    go_enter Tryd.func21,Tryd.ntmps21
    go_wp2_with (first |((with_reducible refine jk (f:=35) rfl ?_);refine gL (some 6) Tryd.func35 #[.pointer (some ⟨g,0,none⟩)] ?_;(with_reducible refine (je.calls k g s0_0 s0_1 t263 t266 w0 _ ?side1 ?side2 A2.out).mono ?_);(case side1=>exact Y0);(case side2=>exact Y2);rintro e w36 ⟨v264,rfl,ho0,hi,hb,hk⟩;refine ⟨_,rfl,?_⟩;have HO265:=am (Kd.jca ho0 (jpa (w:=w) (g:=g) (row:=none) (Y1)));replace HK:=am (ji.trans (Y1) hk (.inl rfl));replace HB:=am (hb);replace HI0:=am (hi);(try clear hb);(try clear hb2);(try clear hk);(try clear hi);(try clear ho0);obtain ⟨Ao37,co37,eo37⟩:=Kd.jda HO265.out;subst eo37) |((with_reducible refine jk (f:=36) rfl ?_);refine gL (some 13) Tryd.func36 #[.pointer (some ⟨g,0,none⟩), .int .i64 (t263.length:Int)] ?_;(with_reducible refine (jd.calls k g s0_0 t266 (t263.length:Int) t267 t268 w0 _ ?side1 ?side2 A4.out).mono ?_);(case side1=>exact Y0);(case side2=>exact Y2);rintro e w38 ⟨rfl,hi,hb,hk⟩;refine ⟨_,rfl,?_⟩;replace HO265:=am (Kd.jT (Kd.jBa (jr.apart (show jr w0 _ g s0_0 t266 from Y0) (rq HO265.out) (by decide)) hk (fun _ h=>h.2)) (fun _ h=>h.1));replace HK:=am (ji.trans (Y1) hk (.inl rfl));replace HB:=am (hb);replace HI0:=am (hi);(try clear hb);(try clear hb2);(try clear hk);(try clear hi)) |((with_reducible refine jk (f:=36) rfl ?_);refine gL (some 15) Tryd.func36 #[.pointer (some ⟨g,0,none⟩), .int .i64 24] ?_;(with_reducible refine (jd.calls k g s0_0 t268 24 t269 t270 w0 _ ?side1 ?side2 A5.out).mono ?_);(case side1=>exact Y0);(case side2=>exact Y2);rintro e w39 ⟨rfl,hi,hb,hk⟩;refine ⟨_,rfl,?_⟩;replace HO265:=am (Kd.jT (Kd.jBa (jr.apart (show jr w0 _ g s0_0 t268 from Y0) (rq HO265.out) (by decide)) hk (fun _ h=>h.2)) (fun _ h=>h.1));replace HK:=am (ji.trans (Y1) hk (.inl rfl));replace HB:=am (hb);replace HI0:=am (hi);(try clear hb);(try clear hb2);(try clear hk);(try clear hi)))
    go_ret
    exact ⟨_,Y4,rq HO265.out,Y0,Y2,Y1⟩
 ·rw [if_neg c3] at H
  have c3b0:decide (0<(t263.length:Int))=false:=dzF c3
  have c3b1:decide (0<t263.length)=false:=dzF (by omega)
  clear c3
  simp only [Option.some.injEq,Prod.mk.injEq] at H
  obtain ⟨rfl,rfl⟩:=H
  go_enter Tryd.func21,Tryd.ntmps21
  go_wp2_with (first |((with_reducible refine jk (f:=35) rfl ?_);refine gL (some 6) Tryd.func35 #[.pointer (some ⟨g,0,none⟩)] ?_;(with_reducible refine (je.calls k g s0_0 s0_1 t263 t266 w0 _ ?side1 ?side2 A2.out).mono ?_);(case side1=>exact Y0);(case side2=>exact Y2);rintro e w40 ⟨v264,rfl,ho0,hi,hb,hk⟩;refine ⟨_,rfl,?_⟩;have HO265:=am (Kd.jca ho0 (jpa (w:=w) (g:=g) (row:=none) (Y1)));replace HK:=am (ji.trans (Y1) hk (.inl rfl));replace HB:=am (hb);replace HI0:=am (hi);(try clear hb);(try clear hb2);(try clear hk);(try clear hi);(try clear ho0);obtain ⟨Ao41,co41,eo41⟩:=Kd.jda HO265.out;subst eo41))
  go_ret
  exact ⟨_,Y4,rq HO265.out,Y0,Y2,Y1⟩
def joa.f (l0 : List Int) : Option (List Int × Int) := if (l0.length : Int) > 2000 then (if 2000 ≤ (l0.length : Int) then (some (l0.take 2000, 0)) else (none)) else (some (l0, 0))
set_option maxHeartbeats 8000000 in
set_option maxRecDepth 100000 in
theorem joa.calls (A0 : Option Addr) (c0 : Nat) (l0 : List Int) (r1 : List Int) (r2 : Int) (w0 w : World) (hB : Below w0.heap.size w0 w) (hr0 : Kd.C (Kd.int .u8) w0 A0 l0.length l0) (hc0 : l0.length ≤ c0) (h : joa.f l0 = some (r1, r2)) :
  Calls Tryd.prog 22 #[.slice A0 l0.length c0] w fun e w'=>∃ g_:Nat,e=.returned (.pointer (some ⟨g_,0,none⟩))∧jr w0 w' g_ r1 r2∧Below w0.heap.size w0 w'∧Below w.heap.size w w':=by
 have hu68:=Tryd.underlying68
 have HR0:=am hr0
 have HC0:=am hc0
 clear hr0 hc0
 have HBW:=am (Below.refl w.heap.size w)
 have HW0:=am hB.size
 have HB:=am hB
 clear hB
 have H:(if (l0.length:Int) > 2000 then (if 2000≤(l0.length:Int) then (some (l0.take 2000,0)) else (none)) else (some (l0,0)))=some (r1,r2):=h
 clear h
 by_cases c2:(l0.length:Int) > 2000
 ·rw [if_pos c2] at H
  have c2b0:decide (2000<(l0.length:Int))=true:=dzT c2
  have c2b1:decide (2000<l0.length)=true:=dzT (by omega)
  clear c2
  by_cases c3:2000≤(l0.length:Int)
  ·rw [if_pos c3] at H
   have c3b0:=ezT c3
   have c3b1:decide (2000≤(l0.length:Int))=true:=dzT c3
   clear c3
   simp only [Option.some.injEq,Prod.mk.injEq] at H
   obtain ⟨rfl,rfl⟩:=H
   obtain ⟨i04,hi04,_,hsz4,_⟩:=info_parts info5
   obtain ⟨hcut4,hA4,hC4⟩:=print_take_of (P:=Tryd.prog) (Value.int .u8) 0 29 5 .i64 Tryd.underlying29 hi04 hsz4 A0 c0 l0 2000 (by omega) (ozD (uq)) HC0.out
   have HR283:=am (Kd.C_of_reads (h1:=fun _=>rfl) (hA4 _ (Kd.reads_of_C HR0.out)))
   have HC283:=am hC4
   clear hA4 hC4 hi04 hsz4
   go_enter Tryd.func22,Tryd.ntmps22
   go_wp2_with (first |((with_reducible refine jK (N:=10) rfl ?_);refine bE (N:=10) (cs:=#[.slice A0 (l0.take 2000).length c0, .int .i64 0]) (t:=68) ?_;intro gb284 hg w5 hbox hb;have BK284:=am (hbox);have GW284:=am ((Y22:w.heap.size≤gb284));have GE284:=am ((Nat.le_trans HW0.out (Y22:w.heap.size≤gb284):w0.heap.size≤gb284));replace HBW:=am (jg HBW.out hb);replace HB:=am (jg (bq) hb);clear hb hbox hg))
   go_ret
   exact ⟨_,rfl,(show jr w0 _ gb284 (l0.take 2000) 0 from ⟨_,_,kq BK284.out,GE284.out,HR283.out⟩),by repeat (first |(with_reducible first | exact HB.out | apply jJ | apply jB | apply jQ | refine jR ?_ GE284.out) | exact HB.out),by repeat (first |(with_reducible first | exact HBW.out | apply jJ | apply jB | apply jQ | refine jR ?_ GW284.out) | exact HBW.out)⟩
  ·rw [if_neg c3] at H
   exact absurd H (by simp)
 ·rw [if_neg c2] at H
  have c2b0:decide (2000<(l0.length:Int))=false:=dzF c2
  have c2b1:decide (2000<l0.length)=false:=dzF (by omega)
  clear c2
  simp only [Option.some.injEq,Prod.mk.injEq] at H
  obtain ⟨rfl,rfl⟩:=H
  go_enter Tryd.func22,Tryd.ntmps22
  go_wp2_with (first |((with_reducible refine jK (N:=10) rfl ?_);refine bE (N:=10) (cs:=#[.slice A0 l0.length c0, .int .i64 0]) (t:=68) ?_;intro gb285 hg w6 hbox hb;have BK285:=am (hbox);have GW285:=am ((Y22:w.heap.size≤gb285));have GE285:=am ((Nat.le_trans HW0.out (Y22:w.heap.size≤gb285):w0.heap.size≤gb285));replace HBW:=am (jg HBW.out hb);replace HB:=am (jg (bq) hb);clear hb hbox hg))
  go_ret
  exact ⟨_,rfl,(show jr w0 _ gb285 l0 0 from ⟨_,_,kq BK285.out,GE285.out,HR0.out⟩),by repeat (first |(with_reducible first | exact HB.out | apply jJ | apply jB | apply jQ | refine jR ?_ GE285.out) | exact HB.out),by repeat (first |(with_reducible first | exact HBW.out | apply jJ | apply jB | apply jQ | refine jR ?_ GW285.out) | exact HBW.out)⟩
def jY.f (k : Nat) (l0 : List Int) : Option ((List (S38))) := (joa.f l0).bind fun bt286 => ((jia.f k bt286.1 bt286.2).bind fun bt289 => (some bt289.1))
set_option maxHeartbeats 8000000 in
set_option maxRecDepth 100000 in
theorem jY.calls (k : Nat) (A0 : Option Addr) (c0 : Nat) (l0 : List Int) (r : List (S38)) (w : World) (hr0 : Kd.C (Kd.int .u8) w A0 l0.length l0) (hc0 : l0.length ≤ c0) (h : jY.f k l0 = some r) :
  Calls Tryd.prog 10 #[.slice A0 l0.length c0] w fun e w'=>∃ v0_:Value,e=.returned (v0_)∧Kd.R k38 38 w' w.heap.size (fun _=>True) v0_ r∧Below w.heap.size w w':=by
 have HR0:=am hr0
 have HC0:=am hc0
 clear hr0 hc0
 have HB:=am (Below.refl w.heap.size w)
 have H:((joa.f l0).bind fun bt286=>((jia.f k bt286.1 bt286.2).bind fun bt289=>(some bt289.1)))=some r:=h
 clear h
 replace H:=bzS H
 obtain ⟨⟨t286,t287⟩,A20,H⟩:=H
 replace H:((jia.f k t286 t287).bind fun bt289=>(some bt289.1))=some r:=H
 have A2:=am A20
 clear A20
 replace H:=bzS H
 obtain ⟨⟨t289,t292⟩,A30,H⟩:=H
 replace H:(some t289)=some r:=H
 have A3:=am A30
 clear A30
 obtain rfl:=Option.some.inj H
 go_enter Tryd.func10,Tryd.ntmps10
 go_wp2_with (first |((with_reducible refine jk (f:=22) rfl ?_);refine gL (some 4) Tryd.func22 #[.slice A0 l0.length c0] ?_;(with_reducible refine (joa.calls _ _ l0 t286 t287 w _ ?side1 ?side2 ?side3 A2.out).mono ?_);(case side1=>exact Y20);(case side2=>exact HR0.out);(case side3=>exact HC0.out);rintro e w4 ⟨g288,rfl,hi,hb,hb2⟩;refine ⟨_,rfl,?_⟩;have HI288:=am (hi);replace HB:=am (hb);(try clear hb);(try clear hb2);(try clear hk);(try clear hi)) |((with_reducible refine jk (f:=21) rfl ?_);refine gL (some 5) Tryd.func21 #[.pointer (some ⟨g288,0,none⟩)] ?_;(with_reducible refine (jia.calls k g288 t286 t287 t289 t292 w _ ?side1 ?side2 A3.out).mono ?_);(case side1=>repeat (first |(with_reducible first | exact HI288.out | apply jr.alloc | apply jr.drewN | apply jr.drew | apply jr.set_1) | exact HI288.out));(case side2=>exact Y23);rintro e w5 ⟨v290,rfl,ho0,hi,hb,hk⟩;refine ⟨_,rfl,?_⟩;have HO291:=am (Kd.jca ho0 (jA (Y23)));replace HB:=am (hb);replace HI288:=am (hi);(try clear hb);(try clear hb2);(try clear hk);(try clear hi);(try clear ho0)))
 go_ret
 exact ⟨_,Y4,rq HO291.out,Y23⟩
def jva.f (k : Nat) (l0 : List (S38)) : Option ((List (S42))) := (jw.f k l0).bind fun t293 => (if t293 = true then ((jD.f k l0).bind fun t294 => (some t294)) else (some ([] : List (S42))))
set_option maxHeartbeats 8000000 in
set_option maxRecDepth 100000 in
theorem jva.calls (k : Nat) (A0 : Option Addr) (c0 : Nat) (l0 : List (S38)) (r : List (S42)) (w : World) (hr0 : Kd.C k38 w A0 l0.length l0) (hc0 : l0.length ≤ c0) (h : jva.f k l0 = some r) :
  Calls Tryd.prog 12 #[.slice A0 l0.length c0] w fun e w'=>∃ v0_:Value,e=.returned (v0_)∧Kd.R k42 42 w' w.heap.size (fun _=>True) v0_ r∧Below w.heap.size w w':=by
 have HR0:=am hr0
 have HC0:=am hc0
 clear hr0 hc0
 have HB:=am (Below.refl w.heap.size w)
 have H:((jw.f k l0).bind fun t293=>(if t293=true then ((jD.f k l0).bind fun t294=>(some t294)) else (some ([]:List (S42)))))=some r:=h
 clear h
 replace H:=bzS H
 obtain ⟨t293,A20,H⟩:=H
 replace H:(if t293=true then ((jD.f k l0).bind fun t294=>(some t294)) else (some ([]:List (S42))))=some r:=H
 have A2:=am A20
 clear A20
 by_cases c3:t293=true
 ·subst c3
  have H1:((jD.f k l0).bind fun t294=>(some t294))=some r:=by rw [if_pos rfl] at H;exact H
  clear H
  have H:=H1
  clear H1
  replace H:=bzS H
  obtain ⟨t294,A40,H⟩:=H
  replace H:(some t294)=some r:=H
  have A4:=am A40
  clear A40
  obtain rfl:=Option.some.inj H
  go_enter Tryd.func12,Tryd.ntmps12
  go_wp2_with (first |((with_reducible refine jk (f:=11) rfl ?_);refine gL (some 4) Tryd.func11 #[.slice A0 l0.length c0] ?_;(with_reducible refine (jw.calls k _ _ l0 true _ ?side1 ?side2 A2.out).mono ?_);(case side1=>exact Y9);(case side2=>exact HC0.out);rintro e w5 ⟨rfl,hb⟩;refine ⟨_,rfl,?_⟩;replace HB:=am (jg (bq) hb);(try clear hb);(try clear hb2);(try clear hk);(try clear hi)) |((with_reducible refine jk (f:=17) rfl ?_);refine gL (some 7) Tryd.func17 #[.slice A0 l0.length c0] ?_;(with_reducible refine (jD.calls k _ _ l0 t294 _ ?side1 ?side2 A4.out).mono ?_);(case side1=>exact cq (Kd.C_below HR0.out HB.out));(case side2=>exact HC0.out);rintro e w6 ⟨v295,rfl,ho0,hb⟩;refine ⟨_,rfl,?_⟩;have HO296:=am (Kd.jca ho0 (jA (bq)));replace HB:=am (jg (bq) hb);(try clear hb);(try clear hb2);(try clear hk);(try clear hi);(try clear ho0)))
  go_ret
  exact ⟨_,Y4,rq HO296.out,bq⟩
 ·replace c3:=Bool.eq_false_iff.mpr c3
  subst c3
  have H1:(some ([]:List (S42)))=some r:=by rw [if_neg (show ¬ (false=true) by decide)] at H;exact H
  clear H
  have H:=H1
  clear H1
  obtain rfl:=Option.some.inj H
  go_enter Tryd.func12,Tryd.ntmps12
  go_wp2_with (first |((with_reducible refine jk (f:=11) rfl ?_);refine gL (some 4) Tryd.func11 #[.slice A0 l0.length c0] ?_;(with_reducible refine (jw.calls k _ _ l0 false _ ?side1 ?side2 A2.out).mono ?_);(case side1=>exact Y9);(case side2=>exact HC0.out);rintro e w7 ⟨rfl,hb⟩;refine ⟨_,rfl,?_⟩;replace HB:=am (jg (bq) hb);(try clear hb);(try clear hb2);(try clear hk);(try clear hi)))
  go_ret
  exact ⟨_,Y4,by first | exact Kd.R_nil _ _ _ _ _ | exact Kd.N_nil _ _ _ _ _ | exact Kd.V_nil _ _ _ _ _ | exact Kd.Q_nil _ _ _ _ _ | exact Kd.S_nil _ _ _ _ _,bq⟩
mutual
def jc.j0 : Nat → List (S38) → ByteArray → Bool → Option (Bool)
 | 0,_,_,_=>none
 | k+1,x3,x4,x22=>if x22=true then ((jL.f k x3).bind fun t303=>(some (x4.toList == t303.toList))) else (jc.l0 k x3 x4 0 0)
def jc.l0 : Nat → List (S38) → ByteArray → Int → Int → Option (Bool)
 | 0,_,_,_,_=>none
 | k+1,x3,x4,x5,x6=>if x6<(x4.size:Int) then (if 0≤x6 then (if (bt x4 x6)=58 then (jc.l0 k x3 x4 (wrap64 (x5+1)) (wrap64 (x6+1))) else (jc.l0 k x3 x4 x5 (wrap64 (x6+1)))) else (none)) else ((jva.f k x3).bind fun t304=>(some (x5 == (t304.length:Int))))
end
def jc.f (k : Nat) (l0 : List Int) : Option (Bool) := if (l0.length : Int) > 1048576 then (some true) else ((jY.f k l0).bind fun t297 => ((jf.f k t297).bind fun t300 => ((jL.f k t297).bind fun t301 => (if t300.toList = t301.toList then ((jw.f k t297).bind fun t302 => (jc.j0 k t297 t300 (!t302))) else (jc.j0 k t297 t300 true)))))
set_option maxHeartbeats 8000000 in
set_option maxRecDepth 100000 in
theorem jc.calls (k : Nat) (A0 : Option Addr) (c0 : Nat) (l0 : List Int) (r : Bool) (w : World) (hr0 : Kd.C (Kd.int .u8) w A0 l0.length l0) (hc0 : l0.length ≤ c0) (hT : r = true) (h : jc.f k l0 = some r) (htab : Lib.TabIs Tryd.prog w "internal/strconv.uint64pow10" .u64 Lib.pow10Tab) :
  Calls Tryd.prog 4 #[.slice A0 l0.length c0] w fun e w'=>e=.returned (.bool r)∧Below w.heap.size w w':=by
 have HT:=am (fun (W:World) (hb_:Below w.heap.size w W)=>tabSt htab hb_)
 clear htab
 have HR0:=am hr0
 have HC0:=am hc0
 clear hr0 hc0
 have HB:=am (Below.refl w.heap.size w)
 have H:(if (l0.length:Int) > 1048576 then (some true) else ((jY.f k l0).bind fun t297=>((jf.f k t297).bind fun t300=>((jL.f k t297).bind fun t301=>(if t300.toList=t301.toList then ((jw.f k t297).bind fun t302=>(jc.j0 k t297 t300 (!t302))) else (jc.j0 k t297 t300 true))))))=some r:=h
 clear h
 by_cases c2:(l0.length:Int) > 1048576
 ·rw [if_pos c2] at H
  have c2b0:decide (1048576<(l0.length:Int))=true:=dzT c2
  have c2b1:decide (1048576<l0.length)=true:=dzT (by omega)
  clear c2
  obtain rfl:=Option.some.inj H
  go_enter Tryd.func4,Tryd.ntmps4
  go_wp2
  go_ret
  exact ⟨Y4,bq⟩
 ·rw [if_neg c2] at H
  have c2b0:decide (1048576<(l0.length:Int))=false:=dzF c2
  have c2b1:decide (1048576<l0.length)=false:=dzF (by omega)
  clear c2
  replace H:=bzS H
  obtain ⟨t297,A30,H⟩:=H
  replace H:((jf.f k t297).bind fun t300=>((jL.f k t297).bind fun t301=>(if t300.toList=t301.toList then ((jw.f k t297).bind fun t302=>(jc.j0 k t297 t300 (!t302))) else (jc.j0 k t297 t300 true))))=some r:=H
  have A3:=am A30
  clear A30
  replace H:=bzS H
  obtain ⟨t300,A40,H⟩:=H
  replace H:((jL.f k t297).bind fun t301=>(if t300.toList=t301.toList then ((jw.f k t297).bind fun t302=>(jc.j0 k t297 t300 (!t302))) else (jc.j0 k t297 t300 true)))=some r:=H
  have A4:=am A40
  clear A40
  have HC5:=am H
  clear H
  go_enter Tryd.func4,Tryd.ntmps4
  go_upto_region 5 with (first |((with_reducible refine jk (f:=10) rfl ?_);refine gL (some 11) Tryd.func10 #[.slice A0 l0.length c0] ?_;(with_reducible refine (jY.calls k _ _ l0 t297 _ ?side1 ?side2 A3.out).mono ?_);(case side1=>exact Y9);(case side2=>exact HC0.out);rintro e w6 ⟨v298,rfl,ho0,hb⟩;refine ⟨_,rfl,?_⟩;have HO299:=am (Kd.jca ho0 (jA (bq)));replace HB:=am (jg (bq) hb);(try clear hb);(try clear hb2);(try clear hk);(try clear hi);(try clear ho0);obtain ⟨Ao7,co7,eo7⟩:=Kd.jda HO299.out;subst eo7) |((with_reducible refine jk (f:=8) rfl ?_);refine gL (some 13) Tryd.func8 #[.slice Ao7 t297.length co7] ?_;(with_reducible refine (jf.calls k _ _ t297 t300 _ ?side1 ?side2 A4.out (HT.out _ (bq))).mono ?_);(case side1=>exact cq (Kd.jo HO299.out).2.2);(case side2=>exact (Kd.jo HO299.out).2.1);rintro e w8 ⟨rfl,hb⟩;refine ⟨_,rfl,?_⟩;replace HO299:=am (Kd.jM (rq HO299.out) hb);replace HB:=am (jg (bq) hb);(try clear hb);(try clear hb2);(try clear hk);(try clear hi)))
  (try simp only [Act.put,List.setIfInBounds_toArray,List.set_cons_zero,List.set_cons_succ])
  go_cut [22] (fun v22 wc=>∃ (kq:Nat) (x22_4:Bool),v22=.bool x22_4∧jy (jc.j0 kq t297 t300 x22_4=some r)∧jy (kq≤k)∧jy (Kd.R k38 38 wc w.heap.size (fun _=>True) (.slice Ao7 t297.length co7) t297)∧jy (Below w.heap.size w wc))
  case first =>
   have H:=HC5.out
   clear HC5
   replace H:=bzS H
   obtain ⟨t301,A90,H⟩:=H
   replace H:(if t300.toList=t301.toList then ((jw.f k t297).bind fun t302=>(jc.j0 k t297 t300 (!t302))) else (jc.j0 k t297 t300 true))=some r:=H
   have A9:=am A90
   clear A90
   by_cases c10:t300.toList=t301.toList
   ·rw [if_pos c10] at H
    have c10b0:(t300.toList == t301.toList)=true:=beq_iff_eq.mpr c10
    have c10b1:(t300.toList != t301.toList)=false:=bne_eq_false_iff_eq.mpr c10
    clear c10
    (first | rw [c10b0] |(simp only [i64_w,i32_w];rw [c10b0]) | skip)
    replace H:=bzS H
    obtain ⟨t302,A110,H⟩:=H
    replace H:(jc.j0 k t297 t300 (!t302))=some r:=H
    have A11:=am A110
    clear A110
    have H':=am H
    clear H
    go_wp2_with (first |((with_reducible refine jk (f:=6) rfl ?_);refine gL (some 16) Tryd.func6 #[.slice Ao7 t297.length co7] ?_;(with_reducible refine (jL.calls k _ _ t297 t301 _ ?side1 ?side2 A9.out).mono ?_);(case side1=>exact cq (Kd.jo HO299.out).2.2);(case side2=>exact (Kd.jo HO299.out).2.1);rintro e w12 ⟨rfl,hb⟩;refine ⟨_,rfl,?_⟩;replace HO299:=am (Kd.jM (rq HO299.out) hb);replace HB:=am (jg (bq) hb);(try clear hb);(try clear hb2);(try clear hk);(try clear hi)) |(go_at_call 11;(with_reducible refine (jw.calls k _ _ t297 t302 _ ?side1 ?side2 A11.out).mono ?_);(case side1=>exact cq (Kd.jo HO299.out).2.2);(case side2=>exact (Kd.jo HO299.out).2.1);rintro e w13 ⟨rfl,hb⟩;replace HO299:=am (Kd.jM (rq HO299.out) hb);replace HB:=am (jg (bq) hb);(try clear hb);(try clear hb2);(try clear hk);(try clear hi)))
    go_meet
    case rel=>exact ⟨_,(!t302),(sq),H',⟨by first | omega | exact Nat.le_refl _⟩,⟨rq HO299.out⟩,⟨bq⟩⟩
   ·rw [if_neg c10] at H
    have c10b0:(t300.toList == t301.toList)=false:=beq_eq_false_iff_ne.mpr c10
    have c10b1:(t300.toList != t301.toList)=true:=bne_iff_ne.mpr c10
    (first | rw [c10b0] |(simp only [i64_w,i32_w];rw [c10b0]) | skip)
    have H':=am H
    clear H
    go_wp2_with (first |((with_reducible refine jk (f:=6) rfl ?_);refine gL (some 16) Tryd.func6 #[.slice Ao7 t297.length co7] ?_;(with_reducible refine (jL.calls k _ _ t297 t301 _ ?side1 ?side2 A9.out).mono ?_);(case side1=>exact cq (Kd.jo HO299.out).2.2);(case side2=>exact (Kd.jo HO299.out).2.1);rintro e w14 ⟨rfl,hb⟩;refine ⟨_,rfl,?_⟩;replace HO299:=am (Kd.jM (rq HO299.out) hb);replace HB:=am (jg (bq) hb);(try clear hb);(try clear hb2);(try clear hk);(try clear hi)))
    go_meet
    case rel=>exact ⟨_,(true),(sq),H',⟨by first | omega | exact Nat.le_refl _⟩,⟨rq HO299.out⟩,⟨bq⟩⟩
  case rest =>
   clear HC5
   try clear c1
   try clear c2
   try clear c2b0
   try clear c2b1
   try clear p2
   try clear c4
   try clear c6
   try clear c8
   try clear c10
   try clear c10b0
   try clear c10b1
   obtain ⟨kq,x22_4,rfl,HA,HJ4,HO_3,HB⟩:=hcut
   cases kq with
   | zero=>exact absurd HA.out (by simp [jc.j0])
   | succ kj4 =>
    have H:=HA.out
    clear HA
    simp only [jc.j0] at H
    by_cases c15:x22_4=true
    ·subst c15
     have H1:((jL.f kj4 t297).bind fun t303=>(some (t300.toList == t303.toList)))=some r:=by rw [if_pos rfl] at H;exact H
     clear H
     have H:=H1
     clear H1
     replace H:=bzS H
     obtain ⟨t303,A160,H⟩:=H
     replace H:(some (t300.toList == t303.toList))=some r:=H
     have A16:=am A160
     clear A160
     obtain rfl:=Option.some.inj H
     go_wp2_with (first |((with_reducible refine jk (f:=6) rfl ?_);refine gL (some 25) Tryd.func6 #[.slice Ao7 t297.length co7] ?_;(with_reducible refine (jL.calls kj4 _ _ t297 t303 _ ?side1 ?side2 A16.out).mono ?_);(case side1=>exact cq (Kd.jo HO_3.out).2.2);(case side2=>exact (Kd.jo HO_3.out).2.1);rintro e w17 ⟨rfl,hb⟩;refine ⟨_,rfl,?_⟩;replace HO_3:=am (Kd.jM (rq HO_3.out) hb);replace HB:=am (jg (bq) hb);(try clear hb);(try clear hb2);(try clear hk);(try clear hi)))
     go_ret
     exact ⟨Y4,bq⟩
    ·replace c15:=Bool.eq_false_iff.mpr c15
     subst c15
     have H1:(jc.l0 kj4 t297 t300 0 0)=some r:=by rw [if_neg (show ¬ (false=true) by decide)] at H;exact H
     clear H
     have H:=H1
     clear H1
     have H':=am H
     clear H
     go_wp2
     go_loopg [5,6] kj4 (fun kq v5 v6 w'=>∃ (x5_2:Int) (x6_2:Int),v5=.int .i64 x5_2∧v6=.int .i64 x6_2∧jy (jc.l0 kq t297 t300 x5_2 x6_2=some r)∧jy (kq≤kj4)∧jy (Kd.R k38 38 w' w.heap.size (fun _=>True) (.slice Ao7 t297.length co7) t297)∧jy (Below w.heap.size w w'))
     case atStart=>exact ⟨(0),(0),(sq),(sq),H',⟨Nat.le_refl _⟩,⟨rq HO_3.out⟩,⟨bq⟩⟩
     case round =>
      clear H'
      try clear c1
      try clear c2
      try clear c2b0
      try clear c2b1
      try clear p2
      try clear c4
      try clear c6
      try clear c8
      try clear c10
      try clear c10b0
      try clear c10b1
      try clear c15
      try clear p2
      obtain ⟨x5_2,x6_2,rfl,rfl,HA,HK2,HO_3,HB⟩:=hrel
      cases gk with
      | zero=>exact absurd HA.out (by simp [jc.l0])
      | succ k2 =>
       have H:=HA.out
       clear HA
       simp only [jc.l0] at H
       by_cases c18:x6_2<(t300.size:Int)
       ·rw [if_pos c18] at H
        have c18b0:decide (x6_2<(t300.size:Int))=true:=dzT c18
        clear c18
        by_cases c19:0≤x6_2
        ·rw [if_pos c19] at H
         have c19b0:decide (0≤x6_2)=true:=dzT c19
         clear c19
         by_cases c21:(bt t300 x6_2)=58
         ·rw [if_pos c21] at H
          have c21b0:((bt t300 x6_2) == 58)=true:=beq_iff_eq.mpr c21
          have c21b1:((bt t300 x6_2) != 58)=false:=bne_eq_false_iff_eq.mpr c21
          clear c21
          have H':=am H
          clear H
          have p20:0≤(x6_2:Int):=ozD (uq)
          have q20:x6_2<(t300.size:Int):=ozD (uq)
          have hx20:=bt_at t300 x6_2
          replace p20:=ezT p20
          replace q20:=ezT q20
          go_wp2
          go_roundg k2
          case measure=>have:=HJ4.out;have:=HK2.out;omega
          case rel=>exact ⟨(wrap64 (x5_2+1)),(wrap64 (x6_2+1)),(sq),(sq),H',⟨by have:=HJ4.out;have:=HK2.out;omega⟩,⟨rq HO_3.out⟩,⟨bq⟩⟩
         ·rw [if_neg c21] at H
          have c21b0:((bt t300 x6_2) == 58)=false:=beq_eq_false_iff_ne.mpr c21
          have c21b1:((bt t300 x6_2) != 58)=true:=bne_iff_ne.mpr c21
          have H':=am H
          clear H
          have p20:0≤(x6_2:Int):=ozD (uq)
          have q20:x6_2<(t300.size:Int):=ozD (uq)
          have hx20:=bt_at t300 x6_2
          replace p20:=ezT p20
          replace q20:=ezT q20
          go_wp2
          go_roundg k2
          case measure=>have:=HJ4.out;have:=HK2.out;omega
          case rel=>exact ⟨(x5_2),(wrap64 (x6_2+1)),(sq),(sq),H',⟨by have:=HJ4.out;have:=HK2.out;omega⟩,⟨rq HO_3.out⟩,⟨bq⟩⟩
        ·rw [if_neg c19] at H
         exact absurd H (by simp)
       ·rw [if_neg c18] at H
        have c18b0:decide (x6_2<(t300.size:Int))=false:=dzF c18
        clear c18
        replace H:=bzS H
        obtain ⟨t304,A220,H⟩:=H
        replace H:(some (x5_2 == (t304.length:Int)))=some r:=H
        have A22:=am A220
        clear A220
        obtain rfl:=Option.some.inj H
        go_wp2_with (first |((with_reducible refine jk (f:=12) rfl ?_);refine gL (some 41) Tryd.func12 #[.slice Ao7 t297.length co7] ?_;(with_reducible refine (jva.calls k2 _ _ t297 t304 _ ?side1 ?side2 A22.out).mono ?_);(case side1=>exact cq (Kd.jo HO_3.out).2.2);(case side2=>exact (Kd.jo HO_3.out).2.1);rintro e w23 ⟨v305,rfl,ho0,hb⟩;refine ⟨_,rfl,?_⟩;have HO306:=am (Kd.jca ho0 (jA (bq)));replace HO_3:=am (Kd.jM (rq HO_3.out) hb);replace HB:=am (jg (bq) hb);(try clear hb);(try clear hb2);(try clear hk);(try clear hi);(try clear ho0);obtain ⟨Ao24,co24,eo24⟩:=Kd.jda HO306.out;subst eo24))
        go_ret
        exact ⟨Y4,bq⟩
def jc.Pure : Prop := ∀ (l0 : List Int), l0.length ≤ maxLen → l0.length * 1 ≤ 140737488351232 → (∀ x ∈ l0, (Lit.int .u8 x).wf = true) → ∃ k, jc.f k l0 = some true
theorem jc.walk (P : jc.Pure) (a0 : Option Addr) (len0 cap0 : Nat) (z0 : List Int) (w : World) (w0 : (a0 = none ∧ len0 = 0 ∧ cap0 = 0 ∧ z0 = []) ∨ ∃ x, a0 = some x ∧ len0 ≤ cap0 ∧ cap0 ≤ maxLen ∧ z0.length = cap0 ∧ (∀ i, i < z0.length → w.cell? (x.add i) = some (.int .u8 (z0.getD i 0))) ∧ ∀ n ∈ z0, (Lit.int .u8 n).wf = true) (y0 : len0 * 1 ≤ 140737488351232) (htab : Lib.TabIs Tryd.prog w "internal/strconv.uint64pow10" .u64 Lib.pow10Tab) :
  Calls Tryd.prog 4 #[.slice a0 len0 cap0] w fun e w'=>e=.returned (.bool true)∧Below w.heap.size w w':=by
 obtain ⟨l0,rfl,hr0,hm0,hw0,hc0⟩:=jfa.ofRowC w0
 obtain ⟨k,h⟩:=P l0 hm0 y0 hw0
 refine (jc.calls k _ _ l0 true w (Kd.C_of_reads (d:=(0:Int)) (h1:=fun _=>rfl) hr0) hc0 rfl h htab).mono ?_
 rintro e w' ⟨rfl,hd⟩
 exact ⟨rfl,hd⟩
end Go.Proofs.YtdmafmebllhlkaaDoor.P
end
