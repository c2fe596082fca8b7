/- One part of the proofs on this program: functions of the program as plain functions, that the code comes to them, and facts on them. -/
import Derived.Test.YtecdfgejmbpclaaYAll1
import Derived.Test.YtecdfgejmbpclaaYWAuto
section
namespace Go.Proofs.Ytecdfgejmbpclaa.P
open Go.RowKit Go.Proofs.YtecdfgejmbpclaaW.PrintWords Go.Proofs.YtecdfgejmbpclaaW.PrintLast Go.Proofs.YtecdfgejmbpclaaW.PrintMore
attribute [local go_sem] jka jia jEa jDa jba jaa jja jha jv
set_option linter.unusedVariables false
set_option linter.unusedSimpArgs false
def jib.f (l0_0 : List (S54)) (a1 : Int) : Option (Bool) := (jN.f a1 0 (wrap64 ((l0_0.length : Int) - 1))).bind fun t141 => (some t141)
set_option maxHeartbeats 8000000 in
set_option maxRecDepth 100000 in
theorem jib.calls (A0_0 : Option Addr) (c0_0 : Nat) (l0_0 : List (S54)) (a1 : Int) (r : Bool) (w : World) (hr0_0 : Kd.C k54 w A0_0 l0_0.length l0_0) (hc0_0 : l0_0.length ≤ c0_0) (h : jib.f l0_0 a1 = some r) :
  Calls Try.prog 69 #[.agg #[.slice A0_0 l0_0.length c0_0], .int .i64 a1] w fun e w'=>e=.returned (.bool r)∧Below w.heap.size w w':=by
 have hu32:=Try.underlying32
 have HR0_0:=am hr0_0
 have HC0_0:=am hc0_0
 clear hr0_0 hc0_0
 have HB:=am (Below.refl w.heap.size w)
 have H:((jN.f a1 0 (wrap64 ((l0_0.length:Int) - 1))).bind fun t141=>(some t141))=some r:=h
 clear h
 replace H:=bzS H
 obtain ⟨t141,A30,H⟩:=H
 replace H:(some t141)=some r:=H
 have A3:=am A30
 clear A30
 obtain rfl:=Option.some.inj H
 go_enter Try.func69,Try.ntmps69
 go_wp2_with (first |((with_reducible refine jD (N:=2) rfl ?_);refine bE (N:=2) (cs:=#[.slice A0_0 l0_0.length c0_0]) (t:=32) ?_;intro gb140 hg w4 hbox hb;have BK140:=am (hbox);have GW140:=am ((Y0:w.heap.size≤gb140));have GE140:=am ((Y0:w.heap.size≤gb140));replace HB:=am (je (bq) hb);clear hb hbox hg;have hcz5_0:=bc0 BK140.out;have hfz5_0:=jb BK140.out 0) |((with_reducible refine jE (f:=98) rfl ?_);refine gL (some 10) Try.func98 #[.int .i64 a1, .int .i64 0, .int .i64 (wrap64 ((l0_0.length:Int) - 1))] ?_;(with_reducible refine (jN.calls a1 0 (wrap64 ((l0_0.length:Int) - 1)) t141 _ A3.out).mono ?_);rintro e w' ⟨rfl,⟨nd,rfl⟩⟩;refine ⟨_,rfl,?_⟩))
 go_ret
 exact ⟨Y1,by repeat (first |(with_reducible first | exact HB.out | apply jo | apply jl | apply jm | refine jk ?_ GE140.out) | exact HB.out)⟩
def jeb.f (k : Nat) (l0_0 : List (S94)) (l1_0 : List (S54)) (a2 : Int) : Option (Bool) := (jB.f k l0_0 l1_0).bind fun t144 => (if t144 = true then ((jib.f l1_0 a2).bind fun t145 => (some t145)) else (some false))
set_option maxHeartbeats 8000000 in
set_option maxRecDepth 100000 in
theorem jeb.calls (k : Nat) (A0_0 : Option Addr) (c0_0 : Nat) (l0_0 : List (S94)) (A1_0 : Option Addr) (c1_0 : Nat) (l1_0 : List (S54)) (a2 : Int) (r : Bool) (w : World) (hr0_0 : Kd.C k94 w A0_0 l0_0.length l0_0) (hc0_0 : l0_0.length ≤ c0_0) (hr1_0 : Kd.C k54 w A1_0 l1_0.length l1_0) (hc1_0 : l1_0.length ≤ c1_0) (h : jeb.f k l0_0 l1_0 a2 = some r) :
  Calls Try.prog 41 #[.agg #[.slice A0_0 l0_0.length c0_0], .agg #[.slice A1_0 l1_0.length c1_0], .int .i64 a2] w fun e w'=>e=.returned (.bool r)∧Below w.heap.size w w':=by
 have hu37:=Try.underlying37
 have hu32:=Try.underlying32
 have HR0_0:=am hr0_0
 have HC0_0:=am hc0_0
 clear hr0_0 hc0_0
 have HR1_0:=am hr1_0
 have HC1_0:=am hc1_0
 clear hr1_0 hc1_0
 have HB:=am (Below.refl w.heap.size w)
 have H:((jB.f k l0_0 l1_0).bind fun t144=>(if t144=true then ((jib.f l1_0 a2).bind fun t145=>(some t145)) else (some false)))=some r:=h
 clear h
 replace H:=bzS H
 obtain ⟨t144,A40,H⟩:=H
 replace H:(if t144=true then ((jib.f l1_0 a2).bind fun t145=>(some t145)) else (some false))=some r:=H
 have A4:=am A40
 clear A40
 by_cases c5:t144=true
 ·subst c5
  have H1:((jib.f l1_0 a2).bind fun t145=>(some t145))=some r:=by rw [if_pos rfl] at H;exact H
  clear H
  have H:=H1
  clear H1
  replace H:=bzS H
  obtain ⟨t145,A60,H⟩:=H
  replace H:(some t145)=some r:=H
  have A6:=am A60
  clear A60
  obtain rfl:=Option.some.inj H
  go_enter Try.func41,Try.ntmps41
  go_wp2_with (first |((with_reducible refine jD (N:=3) rfl ?_);refine bE (N:=3) (cs:=#[.slice A0_0 l0_0.length c0_0]) (t:=37) ?_;intro gb142 hg w7 hbox hb;have BK142:=am (hbox);have GW142:=am ((Y0:w.heap.size≤gb142));have GE142:=am ((Y0:w.heap.size≤gb142));replace HB:=am (je (bq) hb);clear hb hbox hg) |((with_reducible refine jD (N:=4) rfl ?_);refine bE (N:=4) (cs:=#[.slice A1_0 l1_0.length c1_0]) (t:=32) ?_;intro gb143 hg w8 hbox hb;have BK143:=am (hbox);have GW143:=am ((Y57:w.heap.size≤gb143));have GE143:=am ((Y57:w.heap.size≤gb143));have NB142_143:=am ((by rw [hg];exact Nat.ne_of_lt (jP (g:=gb142) (o:=.cells #[.slice A0_0 l0_0.length c0_0] 37 (0,0)) (kq BK142.out)):gb142≠gb143));have NB143_142:=am ((by rw [hg];exact Nat.ne_of_gt (jP (g:=gb142) (o:=.cells #[.slice A0_0 l0_0.length c0_0] 37 (0,0)) (kq BK142.out)):gb143≠gb142));replace BK142:=am (ja (g:=gb142) (o:=.cells #[.slice A0_0 l0_0.length c0_0] 37 (0,0)) (kq BK142.out) hb);replace HB:=am (je (Y114) hb);clear hb hbox hg;have hnb9:=NB142_143.out;have hnc9:=NB143_142.out;have hcz10_0:=bc0 BK142.out;have hfz10_0:=jb BK142.out 0;have hcz11_0:=bc0 BK143.out;have hfz11_0:=jb BK143.out 0) |((with_reducible refine jE (f:=66) rfl ?_);refine gL (some 9) Try.func66 #[.agg #[.slice A0_0 l0_0.length c0_0], .agg #[.slice A1_0 l1_0.length c1_0]] ?_;(with_reducible refine (jB.calls k _ _ l0_0 _ _ l1_0 true _ ?side1 ?side2 ?side3 ?side4 A4.out).mono ?_);(case side1=>exact cq (Kd.jK HR0_0.out HB.out));(case side2=>exact HC0_0.out);(case side3=>exact cq (Kd.jK HR1_0.out HB.out));(case side4=>exact HC1_0.out);rintro e w12 ⟨rfl,hb⟩;refine ⟨_,rfl,?_⟩;replace BK142:=am (ja (g:=gb142) (o:=.cells #[.slice A0_0 l0_0.length c0_0] 37 (0,0)) (kq BK142.out) hb);replace BK143:=am (ja (g:=gb143) (o:=.cells #[.slice A1_0 l1_0.length c1_0] 32 (0,0)) (kq BK143.out) hb);replace HB:=am (je (Y44) hb);(try clear hb);(try clear hb2);(try clear hk);(try clear hi);have hcz13_0:=bc0 BK143.out;have hfz13_0:=jb BK143.out 0) |(go_at_call 69;(with_reducible refine (jib.calls _ _ l1_0 a2 t145 _ ?side1 ?side2 A6.out).mono ?_);(case side1=>exact cq (Kd.jK HR1_0.out HB.out));(case side2=>exact HC1_0.out);rintro e w14 ⟨rfl,hb⟩;replace BK142:=am (ja (g:=gb142) (o:=.cells #[.slice A0_0 l0_0.length c0_0] 37 (0,0)) (kq BK142.out) hb);replace BK143:=am (ja (g:=gb143) (o:=.cells #[.slice A1_0 l1_0.length c1_0] 32 (0,0)) (kq BK143.out) hb);replace HB:=am (je (Y44) hb);(try clear hb);(try clear hb2);(try clear hk);(try clear hi)))
  go_ret
  exact ⟨Y1,Y44⟩
 ·replace c5:=Bool.eq_false_iff.mpr c5
  subst c5
  have H1:(some false)=some r:=by rw [if_neg (show ¬ (false=true) by decide)] at H;exact H
  clear H
  have H:=H1
  clear H1
  obtain rfl:=Option.some.inj H
  go_enter Try.func41,Try.ntmps41
  go_wp2_with (first |((with_reducible refine jD (N:=3) rfl ?_);refine bE (N:=3) (cs:=#[.slice A0_0 l0_0.length c0_0]) (t:=37) ?_;intro gb142 hg w15 hbox hb;have BK142:=am (hbox);have GW142:=am ((Y0:w.heap.size≤gb142));have GE142:=am ((Y0:w.heap.size≤gb142));replace HB:=am (je (bq) hb);clear hb hbox hg) |((with_reducible refine jD (N:=4) rfl ?_);refine bE (N:=4) (cs:=#[.slice A1_0 l1_0.length c1_0]) (t:=32) ?_;intro gb143 hg w16 hbox hb;have BK143:=am (hbox);have GW143:=am ((Y57:w.heap.size≤gb143));have GE143:=am ((Y57:w.heap.size≤gb143));have NB142_143:=am ((by rw [hg];exact Nat.ne_of_lt (jP (g:=gb142) (o:=.cells #[.slice A0_0 l0_0.length c0_0] 37 (0,0)) (kq BK142.out)):gb142≠gb143));have NB143_142:=am ((by rw [hg];exact Nat.ne_of_gt (jP (g:=gb142) (o:=.cells #[.slice A0_0 l0_0.length c0_0] 37 (0,0)) (kq BK142.out)):gb143≠gb142));replace BK142:=am (ja (g:=gb142) (o:=.cells #[.slice A0_0 l0_0.length c0_0] 37 (0,0)) (kq BK142.out) hb);replace HB:=am (je (Y114) hb);clear hb hbox hg;have hnb17:=NB142_143.out;have hnc17:=NB143_142.out;have hcz18_0:=bc0 BK142.out;have hfz18_0:=jb BK142.out 0;have hcz19_0:=bc0 BK143.out;have hfz19_0:=jb BK143.out 0) |((with_reducible refine jE (f:=66) rfl ?_);refine gL (some 9) Try.func66 #[.agg #[.slice A0_0 l0_0.length c0_0], .agg #[.slice A1_0 l1_0.length c1_0]] ?_;(with_reducible refine (jB.calls k _ _ l0_0 _ _ l1_0 false _ ?side1 ?side2 ?side3 ?side4 A4.out).mono ?_);(case side1=>exact cq (Kd.jK HR0_0.out HB.out));(case side2=>exact HC0_0.out);(case side3=>exact cq (Kd.jK HR1_0.out HB.out));(case side4=>exact HC1_0.out);rintro e w20 ⟨rfl,hb⟩;refine ⟨_,rfl,?_⟩;replace BK142:=am (ja (g:=gb142) (o:=.cells #[.slice A0_0 l0_0.length c0_0] 37 (0,0)) (kq BK142.out) hb);replace BK143:=am (ja (g:=gb143) (o:=.cells #[.slice A1_0 l1_0.length c1_0] 32 (0,0)) (kq BK143.out) hb);replace HB:=am (je (Y44) hb);(try clear hb);(try clear hb2);(try clear hk);(try clear hi)))
  go_ret
  exact ⟨Y1,Y44⟩
def jbc (l : List Int) (x : Int) : Nat → Nat → Nat
 | 0,k=>k
 | n+1,k=>if (k:Int)<(l.length:Int)∧rd l (k:Int)<x then jbc l x n (k+1) else k
def soIns (l : List Int) (x : Int) : List Int := if jbc l x l.length 0 = l.length ∨ rd l (jbc l x l.length 0 : Nat) ≠ x then l.take (jbc l x l.length 0) ++ [x] ++ l.drop (jbc l x l.length 0) else l
def soAll : List Int → List Int → Option (List Int)
 | [],out=>some out
 | x :: r,out=>if out.length<17592186044410 then soAll r (soIns out x) else none
def jnb.f (l0 : List Int) : Option (List Int) := soAll l0 []
theorem so_empty (W : World) (base : Nat) (ok : Nat → Prop) (hb : base ≤ W.heap.size) (hok : ok W.heap.size) : Kd.R (Kd.int .i64) 3 (W.alloc (.cells #[] 3)) base ok (.slice (some ⟨W.heap.size, 0, none⟩) 0 0) [] := by
 refine Kd.R_of_own ?_ (fun k hk=>?_)
 ·exact World.weakRow_lit (base:=base) (e:=3) (size:=1) W #[] 0 hb (by simp [maxLen]) (by simp)
 ·simp [Value.ownBlock] at hk
  rw [← hk];exact hok
theorem so_one {W : World} {b : Nat} {x : Int} (h : W.cell? ⟨b, 0, none⟩ = some (.int .i64 x)) : Kd.C (Kd.int .i64) W (some ⟨b, 0, none⟩) 1 [x] :=
 Kd.jnc (d:=0) (h1:=fun _=>rfl) ⟨rfl,by simp,fun _=>⟨_,rfl,fun j hj=>by
  obtain rfl:j=0:=by simpa using hj
  exact h⟩⟩
theorem rc1 {w : World} {b : Nat} {v : Value} {l : List Value} {t : TypeId} (h : w.heap[b]? = some (.cells ⟨v :: l⟩ t (0, 0))) : w.cell? ⟨b, 0, none⟩ = some v := (jr h 0).trans rfl
theorem wp_name {P : Program} {c : Code} {Q : Exit → Act → World → Prop} {a : Act} {W : World} (h : ∀ W5, W5 = W → c.wp P Q a W5) : c.wp P Q a W := h W rfl
set_option maxHeartbeats 8000000 in
set_option maxRecDepth 100000 in
theorem jnb.calls (A0 : Option Addr) (c0 : Nat) (l0 : List Int) (r : List Int) (w : World) (hr0 : Kd.C (Kd.int .i64) w A0 l0.length l0) (hc0 : l0.length ≤ c0) (h : jnb.f l0 = some r) :
  Calls Try.prog 52 #[.slice A0 l0.length c0] w fun e w'=>∃ v0_:Value,e=.returned (v0_)∧Kd.R (Kd.int .i64) 3 w' w.heap.size (fun _=>True) v0_ r∧Below w.heap.size w w':=by
 have HR0:=am hr0
 have hm:l0.length≤9223372036854775807:=Kd.C_max hr0
 have H':=am (show soAll l0 []=some r from h)
 have HB:=am (Below.refl w.heap.size w)
 obtain ⟨i03,hi03,_,hsz3,_⟩:=info_parts info3
 clear hr0 h
 go_enter Try.func52,Try.ntmps52
 go_wp2_with ((with_reducible refine jD (N:=6) rfl ?_);refine Kd.R_lit (Kd.int .i64) _ 3 ?hg (N:=6) ?hd (xs:=([]:List Int)) (inner:=[]) (ok:=fun _=>True) (okp:=fun _=>True) ?hr ?hp (fun _ hk=>hk) trivial (Below.refl _ _) (Nat.le_refl _) (by simp) ?_;(case hd=>rfl);(case hg=>rfl);(case hr=>exact Y3);(case hp=>exact (Reps.none _ _));intro v111 w4 ho5 hb hg_ hnew_;clear hg_ hnew_;have n0_:=am (Kd.jna ho5 (jA (bq)));have n2_:=am (je (bq) hb);clear HB;have HO:=n0_;have HB:=n2_;clear n0_ n2_ hb ho5)
 go_loopw [3,4] (fun v3 v4 wr=>∃ (i:Nat) (out:List Int),i≤l0.length∧v4=.int .i64 i∧jw (soAll (l0.drop i) out=some r)∧jw (Kd.R (Kd.int .i64) 3 wr w.heap.size (fun _=>True) v3 out)∧jw (Below w.heap.size w wr)) (fun _ v4 _=>l0.length - (intOf v4).toNat)
 case atStart=>exact ⟨0,[],Nat.zero_le _,rfl,H',HO,HB⟩
 case round =>
  clear H' HO HB
  obtain ⟨i,out,hi,rfl,HA,HO,HB⟩:=hrel
  obtain ⟨Ao,co,eo⟩:=Kd.jca HO.out
  subst eo
  have hmo:out.length≤9223372036854775807:=Kd.C_max (Kd.jq HO.out).2.2
  by_cases hlt:i<l0.length
  ·have hA:=HA.out
   obtain ⟨ad,rfl,hx0⟩:=Kd.jKb HR0.out (i:Int) (by omega) (by omega)
   have hrd:rd l0 (i:Int)=l0[i]:=by simp [rd,List.getD_eq_getElem?_getD,hlt]
   rw [List.drop_eq_getElem_cons hlt,← hrd,soAll] at hA
   rw [Int.toNat_natCast] at hx0
   generalize rd l0 (i:Int)=x at hA hx0
   clear HA hrd
   by_cases hlen:out.length<17592186044410
   ·rw [if_pos hlen] at hA
    have HN:=am hA
    have HX:=am hx0
    have LM:=am hlen
    have hlb:=ezT (show (i:Int)<(l0.length:Int) by omega)
    clear hA hlen hx0
    go_wp2
    obtain ⟨W1,rfl⟩:∃ W1,W1=wr:=⟨_,rfl⟩
    go_loopw [5] (fun v5 w3=>∃ kk:Nat,kk≤out.length∧v5=.int .i64 kk∧jw (jbc out x (out.length - kk) kk=jbc out x out.length 0)∧jw (Kd.R (Kd.int .i64) 3 w3 w.heap.size (fun _=>True) (.slice Ao out.length co) out)∧jw (Below w.heap.size w w3)) (fun v5 _=>out.length - (intOf v5).toNat)
    case atStart=>exact ⟨0,Nat.zero_le _,rfl,⟨rfl⟩,HO,HB⟩
    case round =>
     clear HO HB
     obtain ⟨kk,hkk,rfl,HS,HO,HB⟩:=hrel
     have hx:=jCa HB.out HX.out
     by_cases hk:kk<out.length
     ·obtain ⟨ado,rfl,hy⟩:=Kd.jKb (Kd.jq HO.out).2.2 (kk:Int) (by omega) (by omega)
      rw [Int.toNat_natCast] at hy
      have hkb:=ezT (show (kk:Int)<(out.length:Int) by omega)
      by_cases hc:rd out (kk:Int)<x
      ·have HS2:=am (show jbc out x (out.length - (kk+1)) (kk+1)=jbc out x out.length 0 by rw [← HS.out,show out.length - kk=(out.length - (kk+1))+1 by omega];conv=>rhs;rw [jbc];rw [if_pos ⟨by omega,hc⟩])
       have hcb:=dzT hc
       clear hc HS
       go_wp2
       repeat (go_quiet (fail);try go_wp2)
       go_roundw
       case rel=>exact ⟨kk+1,by omega,by go_num,HS2,⟨rq HO.out⟩,⟨(bq)⟩⟩
       case measure=>simp [intOf];omega
      ·have HE:=am (show jbc out x out.length 0=kk by rw [← HS.out,show out.length - kk=(out.length - (kk+1))+1 by omega,jbc,if_neg (fun h=>hc h.2)])
       have hcb:=dzF hc
       have hne:=eq_false (show ¬ (kk:Int)=(out.length:Int) by omega)
       have hneb:((kk:Int) == (out.length:Int))=false:=by simpa using hne
       clear hc HS hne
       by_cases hq:rd out (kk:Int)=x
       ·have hqb:(rd out (kk:Int) != x)=false:=by simpa using hq
        have HN2:=am (show soAll (l0.drop (i+1)) out=some r by have h:=HN.out;rw [soIns,HE.out,if_neg (fun h=>h.elim (fun e=>by omega) (fun e=>e hq))] at h;exact h)
        clear hq HE
        go_wp2
        repeat (go_quiet (fail);try go_wp2)
        go_roundw
        case rel=>exact ⟨i+1,out,hlt,by go_num,HN2,⟨rq HO.out⟩,⟨(bq)⟩⟩
        case measure=>simp [intOf];omega
       ·have hqb:(rd out (kk:Int) != x)=true:=by simpa using hq
        have HN2:=am (show soAll (l0.drop (i+1)) (out.take kk ++ [x] ++ out.drop kk)=some r by have h:=HN.out;rw [soIns,HE.out,if_pos (.inr hq)] at h;exact h)
        clear hq HE
        go_wp2
        repeat (go_quiet (fail);try go_wp2)
        refine wp_name (fun W5 hW5=>?_)
        have HO5:=am (show Kd.R (Kd.int .i64) 3 W5 w.heap.size (fun _=>True) (.slice (some ado) out.length co) out by rw [hW5];(with_reducible repeat (first | apply Kd.jM | apply Kd.jL | apply Kd.jQ));exact HO.out)
        have HB5:=am (show Below w.heap.size w W5 by rw [hW5];exact (bq))
        clear hW5 HO HB
        refine wp_region_held (S:=fun W=>W.cell? (ad.add i)=some (.int .i64 x)) (by kernel_rfl) ?_
        change wpAnyH _ _ _ _ _ _ _ _ (World.drew _)
        have HB6:=am (jm HB5.out)
        have HO6:=am (Kd.jQ HO5.out)
        obtain ⟨W6,hW6⟩:∃ W6,W6=W5.drew:=⟨_,rfl⟩
        rw [← hW6] at HB6 HO6
        rw [← hW6]
        clear hW6 HO5 HB5
        obtain ⟨ht1,ht2,ht3⟩:=print_take_int (P:=Try.prog) (k:=.i64) 45 3 Try.underlying45 hi03 hsz3 (some ado) co out (kk:Int) (by omega) (by omega) (Kd.jq HO6.out).2.1
        obtain ⟨AD,hd1,hd2,hd3⟩:=print_cut_int (P:=Try.prog) (k:=.i64) 45 3 Try.underlying45 hi03 hsz3 (some ado) co out (kk:Int) (by omega) (by omega) (Kd.jq HO6.out).2.1
        rw [Int.toNat_natCast] at ht1 ht2 ht3 hd1 hd2 hd3
        have CT:=am (fun W (hb:Below W6.heap.size W6 W)=>(Kd.jnc (h1:=fun _=>rfl) (ht2 _ (Kd.jkc (d:=(0:Int)) (Kd.jq (Kd.jy HO6.out hb)).2.2)):Kd.C (Kd.int .i64) W (some ado) (out.take kk).length (out.take kk)))
        have CD:=am (fun W (hb:Below W6.heap.size W6 W)=>(Kd.jnc (h1:=fun _=>rfl) (hd2 _ (Kd.jkc (d:=(0:Int)) (Kd.jq (Kd.jy HO6.out hb)).2.2)):Kd.C (Kd.int .i64) W AD (out.drop kk).length (out.drop kk)))
        have HL:=am (show (out.take kk).length+(out.drop kk).length=out.length by rw [List.length_take,List.length_drop];omega)
        clear ht2 ht3 hd2 hd3
        have HS6:=am (fun W (hb:Below W6.heap.size W6 W)=>jCa (Below.trans HB6.out (hb.mono HB6.out.size)) HX.out)
        have HC6:=am (Below.refl W6.heap.size W6)
        generalize hT:out.take kk=T at ht1 CT HL HN2 ⊢
        generalize hD:out.drop kk=D at hd1 CD HL HN2 ⊢
        clear hT hD
        refine wpAnyH_take (i:=1) (v:=?_) rfl (by kernel_rfl) (by kernel_rfl) (by kernel_rfl) (fun _ _ _ h=>h) (Or.inl ⟨by rfl,?_⟩) (HS6.out _ (Below.refl _ _)) ?_
        rotate_left
        ·rintro W s1
         go_simp
         with_reducible rfl
        refine wpAnyH_take (i:=2) (v:=?_) rfl (by kernel_rfl) (by kernel_rfl) (by kernel_rfl) (fun _ _ _ h=>h) (Or.inl ⟨by rfl,?_⟩) (HS6.out _ (Below.refl _ _)) ?_
        rotate_left
        ·rintro W s1
         go_simp
         with_reducible rfl
        refine wpAnyH_take (i:=3) (v:=?_) rfl (by kernel_rfl) (by kernel_rfl) (by kernel_rfl) (fun _ _ _ h=>h) (Or.inl ⟨by rfl,?_⟩) (HS6.out _ (Below.refl _ _)) ?_
        rotate_left
        ·rintro W s1
         go_simp
         with_reducible rfl
        refine wpAnyH_take (i:=5) (v:=?_) rfl (by kernel_rfl) (by kernel_rfl) (by kernel_rfl) (fun _ _ _ h=>h) (Or.inl ⟨by rfl,?_⟩) (HS6.out _ (Below.refl _ _)) ?_
        rotate_left
        ·rintro W s1
         go_simp
         with_reducible rfl
        refine wpAnyH_take (i:=6) (v:=?_) rfl (by kernel_rfl) (by kernel_rfl) (by kernel_rfl) (fun _ _ _ h=>h) (Or.inl ⟨by rfl,?_⟩) (HS6.out _ (Below.refl _ _)) ?_
        rotate_left
        ·rintro W s1
         go_simp
         with_reducible rfl
        refine wpAnyH_take (i:=7) (v:=?_) rfl (by kernel_rfl) (by kernel_rfl) (by kernel_rfl) (fun _ _ _ h=>h) (Or.inl ⟨by rfl,?_⟩) (HS6.out _ (Below.refl _ _)) ?_
        rotate_left
        ·rintro W s1
         go_simp
         with_reducible rfl
        refine wpAnyH_take (i:=8) (v:=?_) rfl (by kernel_rfl) (by kernel_rfl) (by kernel_rfl) (fun _ _ _ h=>h) (Or.inl ⟨by rfl,?_⟩) (HS6.out _ (Below.refl _ _)) ?_
        rotate_left
        ·rintro W s1
         go_simp
         with_reducible rfl
        refine wpAnyH_take (i:=11) (v:=?_) rfl (by kernel_rfl) (by kernel_rfl) (by kernel_rfl) (fun _ _ _ h=>h) (Or.inl ⟨by rfl,?_⟩) (HS6.out _ (Below.refl _ _)) ?_
        rotate_left
        ·rintro W s1
         go_simp
         with_reducible rfl
        refine wpAnyH_take (i:=12) (v:=?_) rfl (by kernel_rfl) (by kernel_rfl) (by kernel_rfl) (fun _ _ _ h=>h) (Or.inl ⟨by rfl,?_⟩) (HS6.out _ (Below.refl _ _)) ?_
        rotate_left
        ·rintro W s1
         go_simp
         with_reducible rfl
        refine wpAnyH_take (i:=13) (v:=?_) rfl (by kernel_rfl) (by kernel_rfl) (by kernel_rfl) (fun _ _ _ h=>h) (Or.inl ⟨by rfl,?_⟩) (HS6.out _ (Below.refl _ _)) ?_
        rotate_left
        ·rintro W s1
         go_simp
         with_reducible rfl
        refine wpAnyH_all (rs:=[0,9]) (by kernel_rfl) (by simp) ?_
        intro ii hii
        rcases (show ii=0∨ii=9 by simpa using hii) with rfl | rfl
        ·clear hii
         refine wpOp_step rfl (fun K hK=>?_)
         go_simp
         have HV7:=am (so_empty (W6) W6.heap.size (fun _=>True) HC6.out.size trivial)
         have HC7:=am (jo HC6.out (.cells #[] 3))
         refine hK _ _ ⟨HS6.out _ HC7.out,?_⟩
         clear hK K
         refine wpAnyH_all (rs:=[4,9]) (by kernel_rfl) (by simp) ?_
         intro ii hii
         rcases (show ii=4∨ii=9 by simpa using hii) with rfl | rfl
         ·clear hii
          refine wpOp_step rfl (fun K hK=>?_)
          refine Kd.jZ (Kd.int .i64) (Rr:=Kd.K (Kd.int .i64) ((W6).alloc (.cells #[] 3))) (w0:=W6) (W:=(W6).alloc (.cells #[] 3)) W6.heap.size rfl (.tmp 45) (.tmp 48) 45 3 (.int .i64 0) 8 rfl Try.underlying45 info3 rfl (by decide) (by decide) (.slice (some ⟨W6.heap.size,0,none⟩) 0 0) (([]:List Int)) T (some ado) T.length co (fun _=>True) (fun _=>False) rfl rfl HV7.out (CT.out _ HC7.out) (fun _ _ h=>h) (fun _ hk=>hk.elim) (fun _ _=>trivial) HC7.out HC7.out.size (by have:=LM.out;have:=HL.out;simp only [List.length_append,List.length_nil,List.length_singleton];omega) ?_
          intro v8 w8 ho8 hb8 hg8 hat8
          have HV8:=am ho8
          have HC8:=am hb8
          clear ho8 hb8 hg8 hat8
          refine hK _ _ ⟨HS6.out _ HC8.out,?_⟩
          clear hK K
          refine wpAnyH_all (rs:=[9]) (by kernel_rfl) (by simp) ?_
          intro ii hii
          obtain rfl:ii=9:=by simpa using hii
          clear hii
          refine wpOp_step rfl (fun K hK=>?_)
          go_simp
          have HV9:=am (Kd.jM (Kd.jI (Kd.jOb HV8.out) (ok':=fun k=>k≠(w8.heap.size)) (fun k hk=>by have h:=hk.2.2.1;(try simp only [World.size_alloc] at h);omega)) (.cells #[.int .i64 x] 3))
          have LB9:=am (heap_alloc_new (w8) (.cells #[.int .i64 x] 3))
          have HC9:=am (jo HC8.out (.cells #[.int .i64 x] 3))
          refine hK _ _ ⟨HS6.out _ HC9.out,?_⟩
          clear hK K
          refine wpAnyH_all (rs:=[10]) (by kernel_rfl) (by simp) ?_
          intro ii hii
          obtain rfl:ii=10:=by simpa using hii
          clear hii
          refine wpOp_step rfl (fun K hK=>?_)
          refine Kd.jZ (Kd.int .i64) (Rr:=Kd.K (Kd.int .i64) ((w8).alloc (.cells #[.int .i64 x] 3))) (w0:=W6) (W:=(w8).alloc (.cells #[.int .i64 x] 3)) W6.heap.size rfl (.tmp 49) (.tmp 54) 45 3 (.int .i64 0) 8 rfl Try.underlying45 info3 rfl (by decide) (by decide) v8 (([]:List Int) ++ T) [x] (some ⟨(w8.heap.size),0,none⟩) 1 1 (fun k=>k≠(w8.heap.size)) (fun _=>False) rfl rfl HV9.out (so_one (rc1 LB9.out)) (fun _ _ h=>h) (fun _ hk=>hk.elim) (fun q hq hqe=>by have:=jP LB9.out;omega) HC9.out HC9.out.size (by have:=LM.out;have:=HL.out;simp only [List.length_append,List.length_nil,List.length_singleton];omega) ?_
          intro v10 w10 ho10 hb10 hg10 hat10
          have HV10:=am (Kd.jI ho10 (ok':=fun _=>True) (fun _ _=>trivial))
          have HC10:=am hb10
          clear ho10 hb10 hg10 hat10
          refine hK _ _ ⟨HS6.out _ HC10.out,?_⟩
          clear hK K
          refine wpAnyH_all (rs:=[14]) (by kernel_rfl) (by simp) ?_
          intro ii hii
          obtain rfl:ii=14:=by simpa using hii
          clear hii
          refine wpOp_step rfl (fun K hK=>?_)
          refine Kd.jZ (Kd.int .i64) (Rr:=Kd.K (Kd.int .i64) (w10)) (w0:=W6) (W:=w10) W6.heap.size rfl (.tmp 55) (.tmp 58) 45 3 (.int .i64 0) 8 rfl Try.underlying45 info3 rfl (by decide) (by decide) v10 (([]:List Int) ++ T ++ [x]) D AD D.length (co - kk) (fun _=>True) (fun _=>False) rfl rfl HV10.out (CD.out _ HC10.out) (fun _ _ h=>h) (fun _ hk=>hk.elim) (fun _ _=>trivial) HC10.out HC10.out.size (by have:=LM.out;have:=HL.out;simp only [List.length_append,List.length_nil,List.length_singleton];omega) ?_
          intro v11 w11 ho11 hb11 hg11 hat11
          have HV11:=am ho11
          have HC11:=am hb11
          clear ho11 hb11 hg11 hat11
          refine hK _ _ ⟨HS6.out _ HC11.out,?_⟩
          clear hK K
          refine wpAnyH_all (rs:=[15]) (by kernel_rfl) (by simp) ?_
          intro ii hii
          obtain rfl:ii=15:=by simpa using hii
          clear hii
          refine wpOp_step rfl (fun K hK=>?_)
          go_simp
          refine hK _ _ ⟨HS6.out _ HC11.out,?_⟩
          clear hK K
          refine wpAnyH_done (by kernel_rfl) ?_ _
          go_wp2
          have HB9:=am (Below.trans HB6.out (HC11.out.mono HB6.out.size))
          go_roundw
          case rel=>exact ⟨i+1,T ++ [x] ++ D,hlt,by go_num,HN2,⟨Kd.jI (Kd.jna HV11.out HB6.out.size) (fun _ _=>trivial)⟩,HB9⟩
          case measure=>simp [intOf];omega
         ·clear hii
          refine wpOp_step rfl (fun K hK=>?_)
          go_simp
          have HV8:=am (Kd.jM (Kd.jI (Kd.jOb HV7.out) (ok':=fun k=>k≠(W6.heap.size+1)) (fun k hk=>by have h:=hk.2.2.1;(try simp only [World.size_alloc] at h);omega)) (.cells #[.int .i64 x] 3))
          have LB8:=am (by have h:=heap_alloc_new ((W6).alloc (.cells #[] 3)) (.cells #[.int .i64 x] 3);simpa only [World.size_alloc] using h:(((W6).alloc (.cells #[] 3)).alloc (.cells #[.int .i64 x] 3)).heap[W6.heap.size+1]?=some (.cells #[.int .i64 x] 3 (0,0)))
          have HC8:=am (jo HC7.out (.cells #[.int .i64 x] 3))
          refine hK _ _ ⟨HS6.out _ HC8.out,?_⟩
          clear hK K
          refine wpAnyH_all (rs:=[4]) (by kernel_rfl) (by simp) ?_
          intro ii hii
          obtain rfl:ii=4:=by simpa using hii
          clear hii
          refine wpOp_step rfl (fun K hK=>?_)
          refine Kd.jZ (Kd.int .i64) (Rr:=Kd.K (Kd.int .i64) (((W6).alloc (.cells #[] 3)).alloc (.cells #[.int .i64 x] 3))) (w0:=W6) (W:=((W6).alloc (.cells #[] 3)).alloc (.cells #[.int .i64 x] 3)) W6.heap.size rfl (.tmp 45) (.tmp 48) 45 3 (.int .i64 0) 8 rfl Try.underlying45 info3 rfl (by decide) (by decide) (.slice (some ⟨W6.heap.size,0,none⟩) 0 0) (([]:List Int)) T (some ado) T.length co (fun k=>k≠(W6.heap.size+1)) (fun _=>False) rfl rfl HV8.out (CT.out _ HC8.out) (fun _ _ h=>h) (fun _ hk=>hk.elim) (fun q hq hqe=>by have:=jP LB8.out;omega) HC8.out HC8.out.size (by have:=LM.out;have:=HL.out;simp only [List.length_append,List.length_nil,List.length_singleton];omega) ?_
          intro v9 w9 ho9 hb9 hg9 hat9
          have HV9:=am ho9
          have HC9:=am hb9
          have LB9:=am (jab LB8.out hg9 (Kd.R_away HV8.out (fun q hq=>hq)))
          clear ho9 hb9 hg9 hat9
          refine hK _ _ ⟨HS6.out _ HC9.out,?_⟩
          clear hK K
          refine wpAnyH_all (rs:=[10]) (by kernel_rfl) (by simp) ?_
          intro ii hii
          obtain rfl:ii=10:=by simpa using hii
          clear hii
          refine wpOp_step rfl (fun K hK=>?_)
          refine Kd.jZ (Kd.int .i64) (Rr:=Kd.K (Kd.int .i64) (w9)) (w0:=W6) (W:=w9) W6.heap.size rfl (.tmp 49) (.tmp 54) 45 3 (.int .i64 0) 8 rfl Try.underlying45 info3 rfl (by decide) (by decide) v9 (([]:List Int) ++ T) [x] (some ⟨(W6.heap.size+1),0,none⟩) 1 1 (fun k=>k≠(W6.heap.size+1)) (fun _=>False) rfl rfl HV9.out (so_one (rc1 LB9.out)) (fun _ _ h=>h) (fun _ hk=>hk.elim) (fun q hq hqe=>by have:=jP LB9.out;omega) HC9.out HC9.out.size (by have:=LM.out;have:=HL.out;simp only [List.length_append,List.length_nil,List.length_singleton];omega) ?_
          intro v10 w10 ho10 hb10 hg10 hat10
          have HV10:=am (Kd.jI ho10 (ok':=fun _=>True) (fun _ _=>trivial))
          have HC10:=am hb10
          clear ho10 hb10 hg10 hat10
          refine hK _ _ ⟨HS6.out _ HC10.out,?_⟩
          clear hK K
          refine wpAnyH_all (rs:=[14]) (by kernel_rfl) (by simp) ?_
          intro ii hii
          obtain rfl:ii=14:=by simpa using hii
          clear hii
          refine wpOp_step rfl (fun K hK=>?_)
          refine Kd.jZ (Kd.int .i64) (Rr:=Kd.K (Kd.int .i64) (w10)) (w0:=W6) (W:=w10) W6.heap.size rfl (.tmp 55) (.tmp 58) 45 3 (.int .i64 0) 8 rfl Try.underlying45 info3 rfl (by decide) (by decide) v10 (([]:List Int) ++ T ++ [x]) D AD D.length (co - kk) (fun _=>True) (fun _=>False) rfl rfl HV10.out (CD.out _ HC10.out) (fun _ _ h=>h) (fun _ hk=>hk.elim) (fun _ _=>trivial) HC10.out HC10.out.size (by have:=LM.out;have:=HL.out;simp only [List.length_append,List.length_nil,List.length_singleton];omega) ?_
          intro v11 w11 ho11 hb11 hg11 hat11
          have HV11:=am ho11
          have HC11:=am hb11
          clear ho11 hb11 hg11 hat11
          refine hK _ _ ⟨HS6.out _ HC11.out,?_⟩
          clear hK K
          refine wpAnyH_all (rs:=[15]) (by kernel_rfl) (by simp) ?_
          intro ii hii
          obtain rfl:ii=15:=by simpa using hii
          clear hii
          refine wpOp_step rfl (fun K hK=>?_)
          go_simp
          refine hK _ _ ⟨HS6.out _ HC11.out,?_⟩
          clear hK K
          refine wpAnyH_done (by kernel_rfl) ?_ _
          go_wp2
          have HB9:=am (Below.trans HB6.out (HC11.out.mono HB6.out.size))
          go_roundw
          case rel=>exact ⟨i+1,T ++ [x] ++ D,hlt,by go_num,HN2,⟨Kd.jI (Kd.jna HV11.out HB6.out.size) (fun _ _=>trivial)⟩,HB9⟩
          case measure=>simp [intOf];omega
        ·clear hii
         refine wpOp_step rfl (fun K hK=>?_)
         go_simp
         have LB7:=am (heap_alloc_new (W6) (.cells #[.int .i64 x] 3))
         have HC7:=am (jo HC6.out (.cells #[.int .i64 x] 3))
         refine hK _ _ ⟨HS6.out _ HC7.out,?_⟩
         clear hK K
         refine wpAnyH_all (rs:=[0]) (by kernel_rfl) (by simp) ?_
         intro ii hii
         obtain rfl:ii=0:=by simpa using hii
         clear hii
         refine wpOp_step rfl (fun K hK=>?_)
         go_simp
         have HV8:=am (by have h:=so_empty ((W6).alloc (.cells #[.int .i64 x] 3)) W6.heap.size (fun k=>k≠(W6.heap.size)) HC7.out.size (by have:=jP LB7.out;omega);simpa only [World.size_alloc] using h:Kd.R (Kd.int .i64) 3 (((W6).alloc (.cells #[.int .i64 x] 3)).alloc (.cells #[] 3)) W6.heap.size (fun k=>k≠(W6.heap.size)) (.slice (some ⟨W6.heap.size+1,0,none⟩) 0 0) [])
         have HC8:=am (jo HC7.out (.cells #[] 3))
         have LB8:=am (jg LB7.out (.cells #[] 3))
         refine hK _ _ ⟨HS6.out _ HC8.out,?_⟩
         clear hK K
         refine wpAnyH_all (rs:=[4]) (by kernel_rfl) (by simp) ?_
         intro ii hii
         obtain rfl:ii=4:=by simpa using hii
         clear hii
         refine wpOp_step rfl (fun K hK=>?_)
         refine Kd.jZ (Kd.int .i64) (Rr:=Kd.K (Kd.int .i64) (((W6).alloc (.cells #[.int .i64 x] 3)).alloc (.cells #[] 3))) (w0:=W6) (W:=((W6).alloc (.cells #[.int .i64 x] 3)).alloc (.cells #[] 3)) W6.heap.size rfl (.tmp 45) (.tmp 48) 45 3 (.int .i64 0) 8 rfl Try.underlying45 info3 rfl (by decide) (by decide) (.slice (some ⟨W6.heap.size+1,0,none⟩) 0 0) (([]:List Int)) T (some ado) T.length co (fun k=>k≠(W6.heap.size)) (fun _=>False) rfl rfl HV8.out (CT.out _ HC8.out) (fun _ _ h=>h) (fun _ hk=>hk.elim) (fun q hq hqe=>by have:=jP LB8.out;omega) HC8.out HC8.out.size (by have:=LM.out;have:=HL.out;simp only [List.length_append,List.length_nil,List.length_singleton];omega) ?_
         intro v9 w9 ho9 hb9 hg9 hat9
         have HV9:=am ho9
         have HC9:=am hb9
         have LB9:=am (jab LB8.out hg9 (Kd.R_away HV8.out (fun q hq=>hq)))
         clear ho9 hb9 hg9 hat9
         refine hK _ _ ⟨HS6.out _ HC9.out,?_⟩
         clear hK K
         refine wpAnyH_all (rs:=[10]) (by kernel_rfl) (by simp) ?_
         intro ii hii
         obtain rfl:ii=10:=by simpa using hii
         clear hii
         refine wpOp_step rfl (fun K hK=>?_)
         refine Kd.jZ (Kd.int .i64) (Rr:=Kd.K (Kd.int .i64) (w9)) (w0:=W6) (W:=w9) W6.heap.size rfl (.tmp 49) (.tmp 54) 45 3 (.int .i64 0) 8 rfl Try.underlying45 info3 rfl (by decide) (by decide) v9 (([]:List Int) ++ T) [x] (some ⟨(W6.heap.size),0,none⟩) 1 1 (fun k=>k≠(W6.heap.size)) (fun _=>False) rfl rfl HV9.out (so_one (rc1 LB9.out)) (fun _ _ h=>h) (fun _ hk=>hk.elim) (fun q hq hqe=>by have:=jP LB9.out;omega) HC9.out HC9.out.size (by have:=LM.out;have:=HL.out;simp only [List.length_append,List.length_nil,List.length_singleton];omega) ?_
         intro v10 w10 ho10 hb10 hg10 hat10
         have HV10:=am (Kd.jI ho10 (ok':=fun _=>True) (fun _ _=>trivial))
         have HC10:=am hb10
         clear ho10 hb10 hg10 hat10
         refine hK _ _ ⟨HS6.out _ HC10.out,?_⟩
         clear hK K
         refine wpAnyH_all (rs:=[14]) (by kernel_rfl) (by simp) ?_
         intro ii hii
         obtain rfl:ii=14:=by simpa using hii
         clear hii
         refine wpOp_step rfl (fun K hK=>?_)
         refine Kd.jZ (Kd.int .i64) (Rr:=Kd.K (Kd.int .i64) (w10)) (w0:=W6) (W:=w10) W6.heap.size rfl (.tmp 55) (.tmp 58) 45 3 (.int .i64 0) 8 rfl Try.underlying45 info3 rfl (by decide) (by decide) v10 (([]:List Int) ++ T ++ [x]) D AD D.length (co - kk) (fun _=>True) (fun _=>False) rfl rfl HV10.out (CD.out _ HC10.out) (fun _ _ h=>h) (fun _ hk=>hk.elim) (fun _ _=>trivial) HC10.out HC10.out.size (by have:=LM.out;have:=HL.out;simp only [List.length_append,List.length_nil,List.length_singleton];omega) ?_
         intro v11 w11 ho11 hb11 hg11 hat11
         have HV11:=am ho11
         have HC11:=am hb11
         clear ho11 hb11 hg11 hat11
         refine hK _ _ ⟨HS6.out _ HC11.out,?_⟩
         clear hK K
         refine wpAnyH_all (rs:=[15]) (by kernel_rfl) (by simp) ?_
         intro ii hii
         obtain rfl:ii=15:=by simpa using hii
         clear hii
         refine wpOp_step rfl (fun K hK=>?_)
         go_simp
         refine hK _ _ ⟨HS6.out _ HC11.out,?_⟩
         clear hK K
         refine wpAnyH_done (by kernel_rfl) ?_ _
         go_wp2
         have HB9:=am (Below.trans HB6.out (HC11.out.mono HB6.out.size))
         go_roundw
         case rel=>exact ⟨i+1,T ++ [x] ++ D,hlt,by go_num,HN2,⟨Kd.jI (Kd.jna HV11.out HB6.out.size) (fun _ _=>trivial)⟩,HB9⟩
         case measure=>simp [intOf];omega
     ·obtain rfl:kk=out.length:=by omega
      have HE:=am (show jbc out x out.length 0=out.length by rw [← HS.out,Nat.sub_self];rfl)
      have HN2:=am (show soAll (l0.drop (i+1)) (out.take out.length ++ [x] ++ out.drop out.length)=some r by have h:=HN.out;rw [soIns,HE.out,if_pos (.inl rfl)] at h;exact h)
      have hkb:=eq_false (show ¬ (out.length:Int)<(out.length:Int) by omega)
      clear HS HE
      go_wp2
      repeat (go_quiet (fail);try go_wp2)
      refine wp_name (fun W5 hW5=>?_)
      have HO5:=am (show Kd.R (Kd.int .i64) 3 W5 w.heap.size (fun _=>True) (.slice Ao out.length co) out by rw [hW5];(with_reducible repeat (first | apply Kd.jM | apply Kd.jL | apply Kd.jQ));exact HO.out)
      have HB5:=am (show Below w.heap.size w W5 by rw [hW5];exact (bq))
      clear hW5 HO HB
      refine wp_region_held (S:=fun W=>W.cell? (ad.add i)=some (.int .i64 x)) (by kernel_rfl) ?_
      change wpAnyH _ _ _ _ _ _ _ _ (World.drew _)
      have HB6:=am (jm HB5.out)
      have HO6:=am (Kd.jQ HO5.out)
      obtain ⟨W6,hW6⟩:∃ W6,W6=W5.drew:=⟨_,rfl⟩
      rw [← hW6] at HB6 HO6
      rw [← hW6]
      clear hW6 HO5 HB5
      obtain ⟨ht1,ht2,ht3⟩:=print_take_int (P:=Try.prog) (k:=.i64) 45 3 Try.underlying45 hi03 hsz3 Ao co out (out.length:Int) (by omega) (by omega) (Kd.jq HO6.out).2.1
      obtain ⟨AD,hd1,hd2,hd3⟩:=print_cut_int (P:=Try.prog) (k:=.i64) 45 3 Try.underlying45 hi03 hsz3 Ao co out (out.length:Int) (by omega) (by omega) (Kd.jq HO6.out).2.1
      rw [Int.toNat_natCast] at ht1 ht2 ht3 hd1 hd2 hd3
      have CT:=am (fun W (hb:Below W6.heap.size W6 W)=>(Kd.jnc (h1:=fun _=>rfl) (ht2 _ (Kd.jkc (d:=(0:Int)) (Kd.jq (Kd.jy HO6.out hb)).2.2)):Kd.C (Kd.int .i64) W Ao (out.take out.length).length (out.take out.length)))
      have CD:=am (fun W (hb:Below W6.heap.size W6 W)=>(Kd.jnc (h1:=fun _=>rfl) (hd2 _ (Kd.jkc (d:=(0:Int)) (Kd.jq (Kd.jy HO6.out hb)).2.2)):Kd.C (Kd.int .i64) W AD (out.drop out.length).length (out.drop out.length)))
      have HL:=am (show (out.take out.length).length+(out.drop out.length).length=out.length by rw [List.length_take,List.length_drop];omega)
      clear ht2 ht3 hd2 hd3
      have HS6:=am (fun W (hb:Below W6.heap.size W6 W)=>jCa (Below.trans HB6.out (hb.mono HB6.out.size)) HX.out)
      have HC6:=am (Below.refl W6.heap.size W6)
      generalize hT:out.take out.length=T at ht1 CT HL HN2 ⊢
      generalize hD:out.drop out.length=D at hd1 CD HL HN2 ⊢
      clear hT hD
      refine wpAnyH_take (i:=1) (v:=?_) rfl (by kernel_rfl) (by kernel_rfl) (by kernel_rfl) (fun _ _ _ h=>h) (Or.inl ⟨by rfl,?_⟩) (HS6.out _ (Below.refl _ _)) ?_
      rotate_left
      ·rintro W s1
       go_simp
       with_reducible rfl
      refine wpAnyH_take (i:=2) (v:=?_) rfl (by kernel_rfl) (by kernel_rfl) (by kernel_rfl) (fun _ _ _ h=>h) (Or.inl ⟨by rfl,?_⟩) (HS6.out _ (Below.refl _ _)) ?_
      rotate_left
      ·rintro W s1
       go_simp
       with_reducible rfl
      refine wpAnyH_take (i:=3) (v:=?_) rfl (by kernel_rfl) (by kernel_rfl) (by kernel_rfl) (fun _ _ _ h=>h) (Or.inl ⟨by rfl,?_⟩) (HS6.out _ (Below.refl _ _)) ?_
      rotate_left
      ·rintro W s1
       go_simp
       with_reducible rfl
      refine wpAnyH_take (i:=5) (v:=?_) rfl (by kernel_rfl) (by kernel_rfl) (by kernel_rfl) (fun _ _ _ h=>h) (Or.inl ⟨by rfl,?_⟩) (HS6.out _ (Below.refl _ _)) ?_
      rotate_left
      ·rintro W s1
       go_simp
       with_reducible rfl
      refine wpAnyH_take (i:=6) (v:=?_) rfl (by kernel_rfl) (by kernel_rfl) (by kernel_rfl) (fun _ _ _ h=>h) (Or.inl ⟨by rfl,?_⟩) (HS6.out _ (Below.refl _ _)) ?_
      rotate_left
      ·rintro W s1
       go_simp
       with_reducible rfl
      refine wpAnyH_take (i:=7) (v:=?_) rfl (by kernel_rfl) (by kernel_rfl) (by kernel_rfl) (fun _ _ _ h=>h) (Or.inl ⟨by rfl,?_⟩) (HS6.out _ (Below.refl _ _)) ?_
      rotate_left
      ·rintro W s1
       go_simp
       with_reducible rfl
      refine wpAnyH_take (i:=8) (v:=?_) rfl (by kernel_rfl) (by kernel_rfl) (by kernel_rfl) (fun _ _ _ h=>h) (Or.inl ⟨by rfl,?_⟩) (HS6.out _ (Below.refl _ _)) ?_
      rotate_left
      ·rintro W s1
       go_simp
       with_reducible rfl
      refine wpAnyH_take (i:=11) (v:=?_) rfl (by kernel_rfl) (by kernel_rfl) (by kernel_rfl) (fun _ _ _ h=>h) (Or.inl ⟨by rfl,?_⟩) (HS6.out _ (Below.refl _ _)) ?_
      rotate_left
      ·rintro W s1
       go_simp
       with_reducible rfl
      refine wpAnyH_take (i:=12) (v:=?_) rfl (by kernel_rfl) (by kernel_rfl) (by kernel_rfl) (fun _ _ _ h=>h) (Or.inl ⟨by rfl,?_⟩) (HS6.out _ (Below.refl _ _)) ?_
      rotate_left
      ·rintro W s1
       go_simp
       with_reducible rfl
      refine wpAnyH_take (i:=13) (v:=?_) rfl (by kernel_rfl) (by kernel_rfl) (by kernel_rfl) (fun _ _ _ h=>h) (Or.inl ⟨by rfl,?_⟩) (HS6.out _ (Below.refl _ _)) ?_
      rotate_left
      ·rintro W s1
       go_simp
       with_reducible rfl
      refine wpAnyH_all (rs:=[0,9]) (by kernel_rfl) (by simp) ?_
      intro ii hii
      rcases (show ii=0∨ii=9 by simpa using hii) with rfl | rfl
      ·clear hii
       refine wpOp_step rfl (fun K hK=>?_)
       go_simp
       have HV7:=am (so_empty (W6) W6.heap.size (fun _=>True) HC6.out.size trivial)
       have HC7:=am (jo HC6.out (.cells #[] 3))
       refine hK _ _ ⟨HS6.out _ HC7.out,?_⟩
       clear hK K
       refine wpAnyH_all (rs:=[4,9]) (by kernel_rfl) (by simp) ?_
       intro ii hii
       rcases (show ii=4∨ii=9 by simpa using hii) with rfl | rfl
       ·clear hii
        refine wpOp_step rfl (fun K hK=>?_)
        refine Kd.jZ (Kd.int .i64) (Rr:=Kd.K (Kd.int .i64) ((W6).alloc (.cells #[] 3))) (w0:=W6) (W:=(W6).alloc (.cells #[] 3)) W6.heap.size rfl (.tmp 45) (.tmp 48) 45 3 (.int .i64 0) 8 rfl Try.underlying45 info3 rfl (by decide) (by decide) (.slice (some ⟨W6.heap.size,0,none⟩) 0 0) (([]:List Int)) T Ao T.length co (fun _=>True) (fun _=>False) rfl rfl HV7.out (CT.out _ HC7.out) (fun _ _ h=>h) (fun _ hk=>hk.elim) (fun _ _=>trivial) HC7.out HC7.out.size (by have:=LM.out;have:=HL.out;simp only [List.length_append,List.length_nil,List.length_singleton];omega) ?_
        intro v8 w8 ho8 hb8 hg8 hat8
        have HV8:=am ho8
        have HC8:=am hb8
        clear ho8 hb8 hg8 hat8
        refine hK _ _ ⟨HS6.out _ HC8.out,?_⟩
        clear hK K
        refine wpAnyH_all (rs:=[9]) (by kernel_rfl) (by simp) ?_
        intro ii hii
        obtain rfl:ii=9:=by simpa using hii
        clear hii
        refine wpOp_step rfl (fun K hK=>?_)
        go_simp
        have HV9:=am (Kd.jM (Kd.jI (Kd.jOb HV8.out) (ok':=fun k=>k≠(w8.heap.size)) (fun k hk=>by have h:=hk.2.2.1;(try simp only [World.size_alloc] at h);omega)) (.cells #[.int .i64 x] 3))
        have LB9:=am (heap_alloc_new (w8) (.cells #[.int .i64 x] 3))
        have HC9:=am (jo HC8.out (.cells #[.int .i64 x] 3))
        refine hK _ _ ⟨HS6.out _ HC9.out,?_⟩
        clear hK K
        refine wpAnyH_all (rs:=[10]) (by kernel_rfl) (by simp) ?_
        intro ii hii
        obtain rfl:ii=10:=by simpa using hii
        clear hii
        refine wpOp_step rfl (fun K hK=>?_)
        refine Kd.jZ (Kd.int .i64) (Rr:=Kd.K (Kd.int .i64) ((w8).alloc (.cells #[.int .i64 x] 3))) (w0:=W6) (W:=(w8).alloc (.cells #[.int .i64 x] 3)) W6.heap.size rfl (.tmp 49) (.tmp 54) 45 3 (.int .i64 0) 8 rfl Try.underlying45 info3 rfl (by decide) (by decide) v8 (([]:List Int) ++ T) [x] (some ⟨(w8.heap.size),0,none⟩) 1 1 (fun k=>k≠(w8.heap.size)) (fun _=>False) rfl rfl HV9.out (so_one (rc1 LB9.out)) (fun _ _ h=>h) (fun _ hk=>hk.elim) (fun q hq hqe=>by have:=jP LB9.out;omega) HC9.out HC9.out.size (by have:=LM.out;have:=HL.out;simp only [List.length_append,List.length_nil,List.length_singleton];omega) ?_
        intro v10 w10 ho10 hb10 hg10 hat10
        have HV10:=am (Kd.jI ho10 (ok':=fun _=>True) (fun _ _=>trivial))
        have HC10:=am hb10
        clear ho10 hb10 hg10 hat10
        refine hK _ _ ⟨HS6.out _ HC10.out,?_⟩
        clear hK K
        refine wpAnyH_all (rs:=[14]) (by kernel_rfl) (by simp) ?_
        intro ii hii
        obtain rfl:ii=14:=by simpa using hii
        clear hii
        refine wpOp_step rfl (fun K hK=>?_)
        refine Kd.jZ (Kd.int .i64) (Rr:=Kd.K (Kd.int .i64) (w10)) (w0:=W6) (W:=w10) W6.heap.size rfl (.tmp 55) (.tmp 58) 45 3 (.int .i64 0) 8 rfl Try.underlying45 info3 rfl (by decide) (by decide) v10 (([]:List Int) ++ T ++ [x]) D AD D.length (co - out.length) (fun _=>True) (fun _=>False) rfl rfl HV10.out (CD.out _ HC10.out) (fun _ _ h=>h) (fun _ hk=>hk.elim) (fun _ _=>trivial) HC10.out HC10.out.size (by have:=LM.out;have:=HL.out;simp only [List.length_append,List.length_nil,List.length_singleton];omega) ?_
        intro v11 w11 ho11 hb11 hg11 hat11
        have HV11:=am ho11
        have HC11:=am hb11
        clear ho11 hb11 hg11 hat11
        refine hK _ _ ⟨HS6.out _ HC11.out,?_⟩
        clear hK K
        refine wpAnyH_all (rs:=[15]) (by kernel_rfl) (by simp) ?_
        intro ii hii
        obtain rfl:ii=15:=by simpa using hii
        clear hii
        refine wpOp_step rfl (fun K hK=>?_)
        go_simp
        refine hK _ _ ⟨HS6.out _ HC11.out,?_⟩
        clear hK K
        refine wpAnyH_done (by kernel_rfl) ?_ _
        go_wp2
        have HB9:=am (Below.trans HB6.out (HC11.out.mono HB6.out.size))
        go_roundw
        case rel=>exact ⟨i+1,T ++ [x] ++ D,hlt,by go_num,HN2,⟨Kd.jI (Kd.jna HV11.out HB6.out.size) (fun _ _=>trivial)⟩,HB9⟩
        case measure=>simp [intOf];omega
       ·clear hii
        refine wpOp_step rfl (fun K hK=>?_)
        go_simp
        have HV8:=am (Kd.jM (Kd.jI (Kd.jOb HV7.out) (ok':=fun k=>k≠(W6.heap.size+1)) (fun k hk=>by have h:=hk.2.2.1;(try simp only [World.size_alloc] at h);omega)) (.cells #[.int .i64 x] 3))
        have LB8:=am (by have h:=heap_alloc_new ((W6).alloc (.cells #[] 3)) (.cells #[.int .i64 x] 3);simpa only [World.size_alloc] using h:(((W6).alloc (.cells #[] 3)).alloc (.cells #[.int .i64 x] 3)).heap[W6.heap.size+1]?=some (.cells #[.int .i64 x] 3 (0,0)))
        have HC8:=am (jo HC7.out (.cells #[.int .i64 x] 3))
        refine hK _ _ ⟨HS6.out _ HC8.out,?_⟩
        clear hK K
        refine wpAnyH_all (rs:=[4]) (by kernel_rfl) (by simp) ?_
        intro ii hii
        obtain rfl:ii=4:=by simpa using hii
        clear hii
        refine wpOp_step rfl (fun K hK=>?_)
        refine Kd.jZ (Kd.int .i64) (Rr:=Kd.K (Kd.int .i64) (((W6).alloc (.cells #[] 3)).alloc (.cells #[.int .i64 x] 3))) (w0:=W6) (W:=((W6).alloc (.cells #[] 3)).alloc (.cells #[.int .i64 x] 3)) W6.heap.size rfl (.tmp 45) (.tmp 48) 45 3 (.int .i64 0) 8 rfl Try.underlying45 info3 rfl (by decide) (by decide) (.slice (some ⟨W6.heap.size,0,none⟩) 0 0) (([]:List Int)) T Ao T.length co (fun k=>k≠(W6.heap.size+1)) (fun _=>False) rfl rfl HV8.out (CT.out _ HC8.out) (fun _ _ h=>h) (fun _ hk=>hk.elim) (fun q hq hqe=>by have:=jP LB8.out;omega) HC8.out HC8.out.size (by have:=LM.out;have:=HL.out;simp only [List.length_append,List.length_nil,List.length_singleton];omega) ?_
        intro v9 w9 ho9 hb9 hg9 hat9
        have HV9:=am ho9
        have HC9:=am hb9
        have LB9:=am (jab LB8.out hg9 (Kd.R_away HV8.out (fun q hq=>hq)))
        clear ho9 hb9 hg9 hat9
        refine hK _ _ ⟨HS6.out _ HC9.out,?_⟩
        clear hK K
        refine wpAnyH_all (rs:=[10]) (by kernel_rfl) (by simp) ?_
        intro ii hii
        obtain rfl:ii=10:=by simpa using hii
        clear hii
        refine wpOp_step rfl (fun K hK=>?_)
        refine Kd.jZ (Kd.int .i64) (Rr:=Kd.K (Kd.int .i64) (w9)) (w0:=W6) (W:=w9) W6.heap.size rfl (.tmp 49) (.tmp 54) 45 3 (.int .i64 0) 8 rfl Try.underlying45 info3 rfl (by decide) (by decide) v9 (([]:List Int) ++ T) [x] (some ⟨(W6.heap.size+1),0,none⟩) 1 1 (fun k=>k≠(W6.heap.size+1)) (fun _=>False) rfl rfl HV9.out (so_one (rc1 LB9.out)) (fun _ _ h=>h) (fun _ hk=>hk.elim) (fun q hq hqe=>by have:=jP LB9.out;omega) HC9.out HC9.out.size (by have:=LM.out;have:=HL.out;simp only [List.length_append,List.length_nil,List.length_singleton];omega) ?_
        intro v10 w10 ho10 hb10 hg10 hat10
        have HV10:=am (Kd.jI ho10 (ok':=fun _=>True) (fun _ _=>trivial))
        have HC10:=am hb10
        clear ho10 hb10 hg10 hat10
        refine hK _ _ ⟨HS6.out _ HC10.out,?_⟩
        clear hK K
        refine wpAnyH_all (rs:=[14]) (by kernel_rfl) (by simp) ?_
        intro ii hii
        obtain rfl:ii=14:=by simpa using hii
        clear hii
        refine wpOp_step rfl (fun K hK=>?_)
        refine Kd.jZ (Kd.int .i64) (Rr:=Kd.K (Kd.int .i64) (w10)) (w0:=W6) (W:=w10) W6.heap.size rfl (.tmp 55) (.tmp 58) 45 3 (.int .i64 0) 8 rfl Try.underlying45 info3 rfl (by decide) (by decide) v10 (([]:List Int) ++ T ++ [x]) D AD D.length (co - out.length) (fun _=>True) (fun _=>False) rfl rfl HV10.out (CD.out _ HC10.out) (fun _ _ h=>h) (fun _ hk=>hk.elim) (fun _ _=>trivial) HC10.out HC10.out.size (by have:=LM.out;have:=HL.out;simp only [List.length_append,List.length_nil,List.length_singleton];omega) ?_
        intro v11 w11 ho11 hb11 hg11 hat11
        have HV11:=am ho11
        have HC11:=am hb11
        clear ho11 hb11 hg11 hat11
        refine hK _ _ ⟨HS6.out _ HC11.out,?_⟩
        clear hK K
        refine wpAnyH_all (rs:=[15]) (by kernel_rfl) (by simp) ?_
        intro ii hii
        obtain rfl:ii=15:=by simpa using hii
        clear hii
        refine wpOp_step rfl (fun K hK=>?_)
        go_simp
        refine hK _ _ ⟨HS6.out _ HC11.out,?_⟩
        clear hK K
        refine wpAnyH_done (by kernel_rfl) ?_ _
        go_wp2
        have HB9:=am (Below.trans HB6.out (HC11.out.mono HB6.out.size))
        go_roundw
        case rel=>exact ⟨i+1,T ++ [x] ++ D,hlt,by go_num,HN2,⟨Kd.jI (Kd.jna HV11.out HB6.out.size) (fun _ _=>trivial)⟩,HB9⟩
        case measure=>simp [intOf];omega
      ·clear hii
       refine wpOp_step rfl (fun K hK=>?_)
       go_simp
       have LB7:=am (heap_alloc_new (W6) (.cells #[.int .i64 x] 3))
       have HC7:=am (jo HC6.out (.cells #[.int .i64 x] 3))
       refine hK _ _ ⟨HS6.out _ HC7.out,?_⟩
       clear hK K
       refine wpAnyH_all (rs:=[0]) (by kernel_rfl) (by simp) ?_
       intro ii hii
       obtain rfl:ii=0:=by simpa using hii
       clear hii
       refine wpOp_step rfl (fun K hK=>?_)
       go_simp
       have HV8:=am (by have h:=so_empty ((W6).alloc (.cells #[.int .i64 x] 3)) W6.heap.size (fun k=>k≠(W6.heap.size)) HC7.out.size (by have:=jP LB7.out;omega);simpa only [World.size_alloc] using h:Kd.R (Kd.int .i64) 3 (((W6).alloc (.cells #[.int .i64 x] 3)).alloc (.cells #[] 3)) W6.heap.size (fun k=>k≠(W6.heap.size)) (.slice (some ⟨W6.heap.size+1,0,none⟩) 0 0) [])
       have HC8:=am (jo HC7.out (.cells #[] 3))
       have LB8:=am (jg LB7.out (.cells #[] 3))
       refine hK _ _ ⟨HS6.out _ HC8.out,?_⟩
       clear hK K
       refine wpAnyH_all (rs:=[4]) (by kernel_rfl) (by simp) ?_
       intro ii hii
       obtain rfl:ii=4:=by simpa using hii
       clear hii
       refine wpOp_step rfl (fun K hK=>?_)
       refine Kd.jZ (Kd.int .i64) (Rr:=Kd.K (Kd.int .i64) (((W6).alloc (.cells #[.int .i64 x] 3)).alloc (.cells #[] 3))) (w0:=W6) (W:=((W6).alloc (.cells #[.int .i64 x] 3)).alloc (.cells #[] 3)) W6.heap.size rfl (.tmp 45) (.tmp 48) 45 3 (.int .i64 0) 8 rfl Try.underlying45 info3 rfl (by decide) (by decide) (.slice (some ⟨W6.heap.size+1,0,none⟩) 0 0) (([]:List Int)) T Ao T.length co (fun k=>k≠(W6.heap.size)) (fun _=>False) rfl rfl HV8.out (CT.out _ HC8.out) (fun _ _ h=>h) (fun _ hk=>hk.elim) (fun q hq hqe=>by have:=jP LB8.out;omega) HC8.out HC8.out.size (by have:=LM.out;have:=HL.out;simp only [List.length_append,List.length_nil,List.length_singleton];omega) ?_
       intro v9 w9 ho9 hb9 hg9 hat9
       have HV9:=am ho9
       have HC9:=am hb9
       have LB9:=am (jab LB8.out hg9 (Kd.R_away HV8.out (fun q hq=>hq)))
       clear ho9 hb9 hg9 hat9
       refine hK _ _ ⟨HS6.out _ HC9.out,?_⟩
       clear hK K
       refine wpAnyH_all (rs:=[10]) (by kernel_rfl) (by simp) ?_
       intro ii hii
       obtain rfl:ii=10:=by simpa using hii
       clear hii
       refine wpOp_step rfl (fun K hK=>?_)
       refine Kd.jZ (Kd.int .i64) (Rr:=Kd.K (Kd.int .i64) (w9)) (w0:=W6) (W:=w9) W6.heap.size rfl (.tmp 49) (.tmp 54) 45 3 (.int .i64 0) 8 rfl Try.underlying45 info3 rfl (by decide) (by decide) v9 (([]:List Int) ++ T) [x] (some ⟨(W6.heap.size),0,none⟩) 1 1 (fun k=>k≠(W6.heap.size)) (fun _=>False) rfl rfl HV9.out (so_one (rc1 LB9.out)) (fun _ _ h=>h) (fun _ hk=>hk.elim) (fun q hq hqe=>by have:=jP LB9.out;omega) HC9.out HC9.out.size (by have:=LM.out;have:=HL.out;simp only [List.length_append,List.length_nil,List.length_singleton];omega) ?_
       intro v10 w10 ho10 hb10 hg10 hat10
       have HV10:=am (Kd.jI ho10 (ok':=fun _=>True) (fun _ _=>trivial))
       have HC10:=am hb10
       clear ho10 hb10 hg10 hat10
       refine hK _ _ ⟨HS6.out _ HC10.out,?_⟩
       clear hK K
       refine wpAnyH_all (rs:=[14]) (by kernel_rfl) (by simp) ?_
       intro ii hii
       obtain rfl:ii=14:=by simpa using hii
       clear hii
       refine wpOp_step rfl (fun K hK=>?_)
       refine Kd.jZ (Kd.int .i64) (Rr:=Kd.K (Kd.int .i64) (w10)) (w0:=W6) (W:=w10) W6.heap.size rfl (.tmp 55) (.tmp 58) 45 3 (.int .i64 0) 8 rfl Try.underlying45 info3 rfl (by decide) (by decide) v10 (([]:List Int) ++ T ++ [x]) D AD D.length (co - out.length) (fun _=>True) (fun _=>False) rfl rfl HV10.out (CD.out _ HC10.out) (fun _ _ h=>h) (fun _ hk=>hk.elim) (fun _ _=>trivial) HC10.out HC10.out.size (by have:=LM.out;have:=HL.out;simp only [List.length_append,List.length_nil,List.length_singleton];omega) ?_
       intro v11 w11 ho11 hb11 hg11 hat11
       have HV11:=am ho11
       have HC11:=am hb11
       clear ho11 hb11 hg11 hat11
       refine hK _ _ ⟨HS6.out _ HC11.out,?_⟩
       clear hK K
       refine wpAnyH_all (rs:=[15]) (by kernel_rfl) (by simp) ?_
       intro ii hii
       obtain rfl:ii=15:=by simpa using hii
       clear hii
       refine wpOp_step rfl (fun K hK=>?_)
       go_simp
       refine hK _ _ ⟨HS6.out _ HC11.out,?_⟩
       clear hK K
       refine wpAnyH_done (by kernel_rfl) ?_ _
       go_wp2
       have HB9:=am (Below.trans HB6.out (HC11.out.mono HB6.out.size))
       go_roundw
       case rel=>exact ⟨i+1,T ++ [x] ++ D,hlt,by go_num,HN2,⟨Kd.jI (Kd.jna HV11.out HB6.out.size) (fun _ _=>trivial)⟩,HB9⟩
       case measure=>simp [intOf];omega
   ·rw [if_neg hlen] at hA;cases hA
  ·have hA:=HA.out
   rw [List.drop_eq_nil_of_le (by omega)] at hA
   obtain rfl:=Option.some.inj (show some out=some r from hA)
   have hlb:=eq_false (show ¬ (i:Int)<(l0.length:Int) by omega)
   clear HA hA
   go_wp2
   go_ret
   exact ⟨_,rfl,rq HO.out,(bq)⟩
mutual
def jR.j0 : Nat → Int → List Int → Bool → List (S54) → Option (List Int)
 | 0,_,_,_,_=>none
 | k+1,x1,x2,x13,x147000=>if x13=true then (some x2) else (if x2.length<17592186044416 then (if 0≤x1 then (if x1<(x147000.length:Int) then ((jR.f k x147000 ((jd x147000 x1).f2) (x2 ++ [x1])).bind fun t152=>((jR.f k x147000 ((jd x147000 x1).f3) t152).bind fun t156=>(some t156))) else (none)) else (none)) else (none))
def jR.f : Nat → List (S54) → Int → List Int → Option (List Int)
 | 0,_,_,_=>none
 | k+1,l0_0,a1,l2=>if a1<0 then (jR.j0 k a1 l2 true l0_0) else ((jHa.f k l2 a1).bind fun t147=>(jR.j0 k a1 l2 t147 l0_0))
end
def jR.T4 : Bool × List (List Nat × List Nat) := (true, [([], []), ([], []), ([1], [1]), ([], []), ([2, 3], [2, 3]), ([4], [4]), ([5], [5]), ([], []), ([0, 6, 7], [0, 6, 7]), ([8, 8, 0, 1, 2, 3, 4, 5, 6, 7, 8], [7, 8])])
def jR.B4 : List Nat := [0, 0, 2, 0, 14, 30, 62, 0, 255, 511]
theorem jR.tab4 : rtab .any (opsOf Try.f53 4) = jR.T4 := by kernel_rfl
theorem jR.bits4 : jWb jR.T4.2 jR.B4 = true := by kernel_rfl
def jR.T5 : Bool × List (List Nat × List Nat) := (true, [([], []), ([], []), ([1], [1]), ([], []), ([2, 3], [2, 3]), ([4], [4]), ([5], [5]), ([], []), ([0, 6, 7], [0, 6, 7]), ([8, 8, 0, 1, 2, 3, 4, 5, 6, 7, 8], [8])])
def jR.B5 : List Nat := [0, 0, 2, 0, 14, 30, 62, 0, 255, 511]
theorem jR.tab5 : rtab .any (opsOf Try.f53 5) = jR.T5 := by kernel_rfl
theorem jR.bits5 : jWb jR.T5.2 jR.B5 = true := by kernel_rfl
set_option maxHeartbeats 8000000 in
set_option maxRecDepth 100000 in
theorem jR.calls (k : Nat) : ∀ (A0_0 : Option Addr) (c0_0 : Nat) (l0_0 : List (S54)) (a1 : Int) (P2_ : Nat → Prop) (u9000_ : Value) (l2 : List Int) (r : List Int) (w0 w : World) (hB : Below w0.heap.size w0 w) (hr0_0 : ∀ W_, Kept w W_ (fun k_ => P2_ k_) → Kd.C k54 W_ A0_0 l0_0.length l0_0) (hc0_0 : l0_0.length ≤ c0_0) (ho2 : Kd.R (Kd.int .i64) 3 w w0.heap.size P2_ u9000_ l2) (h : jR.f k l0_0 a1 l2 = some r),
  Calls Try.prog 53 #[.agg #[.slice A0_0 l0_0.length c0_0], .int .i64 a1,u9000_] w fun e w'=>∃ v0_:Value,e=.returned (v0_)∧Kd.R (Kd.int .i64) 3 w' w0.heap.size (fun k_=>(P2_ k_∨w.heap.size≤k_)) v0_ r∧Below w0.heap.size w0 w'∧Kept w w' (fun k_=>P2_ k_):=by
 induction k using Nat.strongRecOn with
 | _ k ih =>
 intro A0_0 c0_0 l0_0 a1 P2_ u9000_ l2 r w0 w hB hr0_0 hc0_0 ho2 h
 cases k with
 | zero=>exact absurd h (by simp [jR.f])
 | succ k =>
 simp only [jR.f] at h
 have hu32:=Try.underlying32
 have HR0_0:=am hr0_0
 have HC0_0:=am hc0_0
 clear hr0_0 hc0_0
 have HO2:=am (show Kd.R (Kd.int .i64) 3 w w0.heap.size (fun k_=>(P2_ k_∨w.heap.size≤k_)) u9000_ l2 from Kd.jI ho2 (fun k_ hk=>(.inl hk)))
 have HK:=am (Kept.refl w (fun k_=>P2_ k_))
 have HW0:=am hB.size
 have HB:=am hB
 clear hB
 have H:(if a1<0 then (jR.j0 k a1 l2 true l0_0) else ((jHa.f k l2 a1).bind fun t147=>(jR.j0 k a1 l2 t147 l0_0)))=some r:=h
 clear h
 have HC4:=am H
 clear H
 go_enter Try.func53,Try.ntmps53
 go_upto_region 1 with (first |((with_reducible refine jD (N:=3) rfl ?_);refine bE (N:=3) (cs:=#[.slice A0_0 l0_0.length c0_0]) (t:=32) ?_;intro gb146 hg w5 hbox hb;have BK146:=am (hbox);have GW146:=am ((by rw [hg];exact (by first | exact HK.out.1 | exact (show Kept w _ (fun k_=>P2_ k_) from by repeat (first |(with_reducible first | exact HK.out | apply Kept.alloc | apply Kept.drewN | apply Kept.drew) | exact HK.out)).1):w.heap.size≤gb146));have GE146:=am ((Y0:w0.heap.size≤gb146));replace HO2:=am (Kd.jy (rq HO2.out) hb);replace HK:=am (Kept.below (S:=(fun k_=>P2_ k_)) (Y10) hb);replace HB:=am (je (bq) hb);clear hb hbox hg))
 (try simp only [Act.put,List.setIfInBounds_toArray,List.set_cons_zero,List.set_cons_succ])
 go_cut [13] (fun v13 wc=>∃ (kq:Nat) (x13_3:Bool),v13=.bool x13_3∧jw (jR.j0 kq a1 l2 x13_3 l0_0=some r)∧jw (kq≤k)∧jw (Kd.R (Kd.int .i64) 3 wc w0.heap.size (fun k_=>(P2_ k_∨w.heap.size≤k_)) u9000_ l2)∧jw (wc.heap[gb146]?=some (.cells #[(.slice A0_0 l0_0.length c0_0)] 32 (0,0)))∧jw (Kept w wc (fun k_=>P2_ k_))∧jw (Below w0.heap.size w0 wc))
 case first =>
  have H:=HC4.out
  clear HC4
  by_cases c6:a1<0
  ·rw [if_pos c6] at H
   have c6b0:decide (a1<0)=true:=dzT c6
   clear c6
   (first | rw [c6b0] |(simp only [jZa,jdb];rw [c6b0]) | skip)
   have H':=am H
   clear H
   go_wp2
   go_meet
   case rel=>exact ⟨_,(true),(sq),H',⟨by first | omega | exact Nat.le_refl _⟩,⟨rq HO2.out⟩,⟨kq BK146.out⟩,⟨Y22⟩,⟨Y26⟩⟩
  ·rw [if_neg c6] at H
   have c6b0:decide (a1<0)=false:=dzF c6
   clear c6
   (first | rw [c6b0] |(simp only [jZa,jdb];rw [c6b0]) | skip)
   replace H:=bzS H
   obtain ⟨t147,A70,H⟩:=H
   replace H:(jR.j0 k a1 l2 t147 l0_0)=some r:=H
   have A7:=am A70
   clear A70
   have H':=am H
   clear H
   obtain ⟨Ao8,co8,eo8⟩:=Kd.jca HO2.out
   subst eo8
   go_wp2_with (first |(go_at_call 80;(with_reducible refine (jHa.calls k _ _ l2 a1 t147 _ ?side1 ?side2 A7.out).mono ?_);(case side1=>exact cq (Kd.jq HO2.out).2.2);(case side2=>exact (Kd.jq HO2.out).2.1);rintro e w' ⟨rfl,⟨nd,rfl⟩⟩))
   go_meet
   case rel=>exact ⟨_,(t147),(sq),H',⟨by first | omega | exact Nat.le_refl _⟩,⟨rq HO2.out⟩,⟨kq BK146.out⟩,⟨Y22⟩,⟨Y26⟩⟩
 case rest =>
  clear HC4
  try clear p2
  try clear c5
  try clear c6
  try clear c6b0
  obtain ⟨kq,x13_3,rfl,HA,HJ3,HO_2,BK146,HK,HB⟩:=hcut
  cases kq with
  | zero=>exact absurd HA.out (by simp [jR.j0])
  | succ kj3 =>
   have H:=HA.out
   clear HA
   simp only [jR.j0] at H
   by_cases c9:x13_3=true
   ·subst c9
    have H1:(some l2)=some r:=by rw [if_pos rfl] at H;exact H
    clear H
    have H:=H1
    clear H1
    obtain rfl:=Option.some.inj H
    go_wp2
    go_ret
    exact ⟨_,Y1,rq HO_2.out,Y26,Y22⟩
   ·replace c9:=Bool.eq_false_iff.mpr c9
    subst c9
    have H1:(if l2.length<17592186044416 then (if 0≤a1 then (if a1<(l0_0.length:Int) then ((jR.f kj3 l0_0 ((jd l0_0 a1).f2) (l2 ++ [a1])).bind fun t152=>((jR.f kj3 l0_0 ((jd l0_0 a1).f3) t152).bind fun t156=>(some t156))) else (none)) else (none)) else (none))=some r:=by rw [if_neg (show ¬ (false=true) by decide)] at H;exact H
    clear H
    have H:=H1
    clear H1
    by_cases c10:l2.length<17592186044416
    ·rw [if_pos c10] at H
     have LMc10:=am c10
     clear c10
     obtain ⟨y148,hy148⟩:∃ y_:List Int,y_=(l2 ++ [a1]):=⟨_,rfl⟩
     replace H:(if 0≤a1 then (if a1<(l0_0.length:Int) then ((jR.f kj3 l0_0 ((jd l0_0 a1).f2) y148).bind fun t152=>((jR.f kj3 l0_0 ((jd l0_0 a1).f3) t152).bind fun t156=>(some t156))) else (none)) else (none))=some r:=by first |(rw [hy148];with_reducible exact H) |(have H2_:=(Option.bind_some _ _).symm.trans H;rw [hy148];with_reducible exact H2_) |(have H2_:=(Option.bind_some _ _).symm.trans H;with_reducible exact H2_) | with_reducible exact H |(rw [hy148];exact H) | exact H
     have Ny148:=am hy148
     clear hy148
     by_cases c11:0≤a1
     ·rw [if_pos c11] at H
      have c11b0:decide (0≤a1)=true:=dzT c11
      clear c11
      by_cases c12:a1<(l0_0.length:Int)
      ·rw [if_pos c12] at H
       have c12b0:decide (a1<(l0_0.length:Int))=true:=dzT c12
       clear c12
       replace H:=bzS H
       obtain ⟨t152,A130,H⟩:=H
       replace H:((jR.f kj3 l0_0 ((jd l0_0 a1).f3) t152).bind fun t156=>(some t156))=some r:=H
       have A13:=am A130
       clear A130
       replace H:=bzS H
       obtain ⟨t156,A140,H⟩:=H
       replace H:(some t156)=some r:=H
       have A14:=am A140
       clear A140
       obtain rfl:=Option.some.inj H
       try go_wp2_with (first |((with_reducible refine jJb (b:=.append) (xs:=#[.tmp 15, .tmp 17]) rfl ?_);at_builtin;refine Kd.R_append (Kd.int .i64) (w0:=w0) w0.heap.size rfl (.tmp 15) (.tmp 17) 45 3 (.int .i64 0) 8 rfl Try.underlying45 info3 rfl (by decide) (by omega) u9000_ l2 a1 [.int .i64 a1] (fun k_=>(P2_ k_∨w.heap.size≤k_)) (fun _=>False) rfl rfl ?aP (fun _ hk=>hk.elim) ?aF ?aO ?aB ?aS ?aL ?_;(case aP=>exact rfl);(case aB=>exact (Y26));(case aF=>exact (fun k_ hk=>(.inr (Nat.le_trans (Y97) hk))));(case aO=>exact (rq HO_2.out));(case aS=>exact (jA (Y26)));(case aL=>have:=LMc10.out;omega);intro v149 w15 ho hb hg hat;rw [← Ny148.out] at ho;have n0_:=am (jab (g:=gb146) (o:=.cells #[.slice A0_0 l0_0.length c0_0] 32 (0,0)) (kq BK146.out) hg (Kd.R_ne HO_2.out BK146.out (by decide)));have n1_:=am (hb);have n2_:=am (Kept.jXb (S:=(fun k_=>P2_ k_)) hg (Y22) (fun k_ e_=>(HO_2.out.1 k_ e_)));have n3_:=am (ho);clear BK146 HB HK HO_2;have BK146:=n0_;have HB:=n1_;have HK:=n2_;have HO150:=n3_;clear n0_ n1_ n2_ n3_ ho hb hg hat))
       replace HO150:=am (Kd.jQ HO150.out)
       replace BK146:=am (jh BK146.out)
       replace HK:=am (Kept.drew HK.out)
       replace HB:=am (jm HB.out)
       have p151:0≤(a1:Int):=ozD (uq)
       have q151:a1<(l0_0.length:Int):=ozD (uq)
       obtain ⟨ad151,e151,hx151_0,hx151_1,hx151_2,hx151_3,hx151_4⟩:=jOa (Kd.C_kept_now HR0_0.out HK.out) a1 p151 q151
       have hw151_4:=hx151_4
       have hw151_3:=hx151_3
       have hw151_2:=hx151_2
       have hw151_1:=hx151_1
       have hw151_0:=hx151_0
       cases e151
       replace p151:=ezT p151
       replace q151:=ezT q151
       obtain ⟨Ao17,co17,eo17⟩:=Kd.jca HO150.out
       (first | subst eo17 |(injection eo17 with f1_ f2_ f3_;have f4_:=f1_.symm;have f5_:=f3_.symm;clear f1_ f2_ f3_;subst f4_;subst f5_))
       refine jdc (n:=10) (S:=fun w'=>w'.cell? ⟨gb146,0,none⟩=some (.slice (some ad151) l0_0.length c0_0)∧w'.cell? (ad151.add ((a1).toNat * 5))=some (.int .i64 ((jd l0_0 a1).f0))∧w'.cell? ⟨(ad151.add ((a1).toNat * 5)).block,(ad151.add ((a1).toNat * 5)).off+1,none⟩=some (.int .i64 ((jd l0_0 a1).f1))∧w'.cell? ⟨(ad151.add ((a1).toNat * 5)).block,(ad151.add ((a1).toNat * 5)).off+2,none⟩=some (.int .i64 ((jd l0_0 a1).f2))∧w'.cell? ⟨(ad151.add ((a1).toNat * 5)).block,(ad151.add ((a1).toNat * 5)).off+3,none⟩=some (.int .i64 ((jd l0_0 a1).f3))∧w'.cell? ⟨(ad151.add ((a1).toNat * 5)).block,(ad151.add ((a1).toNat * 5)).off+4,none⟩=some (.bool ((jd l0_0 a1).f4))) (ds:=[8]) #[false,false,false,false,false,false,false,false,false,false] (by kernel_rfl) rfl rfl ⟨(jr BK146.out 0).trans rfl,hx151_0,hx151_1,hx151_2,hx151_3,hx151_4⟩ (fun hHeld=>?_);refine jBb jR.tab4 jR.bits4 (fun HT_ HW_=>?_)
       generalize w15.drew=w16 at HO150 BK146 HK HB hx151_0 hx151_1 hx151_2 hx151_3 hx151_4 hHeld ⊢
       refine pq (i:=1) (N:=some 20) #[false,true,false,false,false,false,false,false,false,false] ?_
       refine pq (i:=3) (N:=some 22) #[false,true,false,true,false,false,false,false,false,false] ?_
       refine pq (i:=7) (N:=some 26) #[false,true,false,true,false,false,false,true,false,false] ?_
       refine jCb (i:=0) (N:=some 19) (v:=?_) (a':=?_) #[true,true,false,true,false,false,false,true,false,false] rfl rfl (jTa HT_.out HW_.out (by kernel_rfl)) (fun _ _ _ h=>h) (Or.inl ⟨by rfl,?_⟩) hHeld ?_ ?_
       rotate_left
       ·rintro w' ⟨s0,s1,s2,s3,s4,s5⟩
        go_simp
        with_reducible rfl
       rotate_left
       ·exact sa
       refine jCb (i:=2) (N:=some 21) (v:=?_) (a':=?_) #[true,true,true,true,false,false,false,true,false,false] rfl rfl (jTa HT_.out HW_.out (by kernel_rfl)) (fun _ _ _ h=>h) (Or.inl ⟨by rfl,?_⟩) hHeld ?_ ?_
       rotate_left
       ·rintro w' ⟨s0,s1,s2,s3,s4,s5⟩
        go_simp
        with_reducible rfl
       rotate_left
       ·exact sa
       refine pq (i:=4) (N:=some 23) #[true,true,true,true,true,false,false,true,false,false] ?_
       refine pq (i:=5) (N:=some 24) #[true,true,true,true,true,true,false,true,false,false] ?_
       refine jCb (i:=6) (N:=some 25) (v:=?_) (a':=?_) #[true,true,true,true,true,true,true,true,false,false] rfl rfl (jTa HT_.out HW_.out (by kernel_rfl)) (fun _ _ _ h=>h) (Or.inl ⟨by rfl,?_⟩) hHeld ?_ ?_
       rotate_left
       ·rintro w' ⟨s0,s1,s2,s3,s4,s5⟩
        go_simp
        with_reducible rfl
       rotate_left
       ·exact sa
       refine last_ (i:=8) (N:=some 27) #[true,true,true,true,true,true,true,true,true,false] rfl rfl (jlb HT_.out (by kernel_rfl)) (by decide) (fun K hK=>?_)
       refine jDb Try.func53 (by kernel_rfl) rfl #[.agg #[.slice (some ad151) l0_0.length c0_0], .int .i64 ((jd l0_0 a1).f2), .slice Ao17 y148.length co17] (by rfl) rfl rfl (aq) ?_
       with_reducible refine (ih kj3 (by have:=HJ3.out;omega) _ _ l0_0 ((jd l0_0 a1).f2) (fun k_=>some k_=(.slice Ao17 y148.length co17:Value).ownBlock) (.slice Ao17 y148.length co17) y148 t152 w0 _ ?side1 ?side2 ?side3 ?side4 A13.out).mono ?_
       (case side1=>exact Y26)
       (case side2=>exact Kd.C_kept_call HR0_0.out (Y22) (fun k_ hs_=>(fun e_=>(HO150.out.1 k_ e_.symm)) hs_))
       (case side3=>exact HC0_0.out)
       (case side4=>exact Kd.jqc rfl HO150.out)
       rintro e w18 ⟨v153,rfl,ho0,hb,hkp⟩
       refine ⟨_,rfl,?_⟩
       have n0_:=am (jSa (kq BK146.out) hkp (fun hs_=>(fun e_=>(Kd.R_ne HO150.out BK146.out (by decide)) e_) hs_))
       have n1_:=am (Kd.jI (ok':=fun k_=>(P2_ k_∨w.heap.size≤k_)) ho0 (fun k_ hk_=>Or.elim hk_ (fun hs_=>(HO150.out.1 k_ (hs_).symm)) (fun hn_=>(.inr (Nat.le_trans (Y97) hn_)))))
       have n2_:=am (Kept.then_ (S:=(fun k_=>P2_ k_)) (Y22) hkp (fun k_ hs_=>(fun e_=>(HO150.out.1 k_ e_.symm)) hs_))
       have n3_:=am (hb)
       clear BK146
       clear HK
       clear HB
       clear HO150
       have BK146:=n0_
       have HO154:=n1_
       have HK:=n2_
       have HB:=n3_
       clear n0_ n1_ n2_ n3_
       (try clear hb)
       (try clear hkp)
       (try clear ho0)
       refine hK.out _ _ ?_
       clear hK K
       refine jYa (a':=?_) ?_ ?_
       rotate_left
       ·show Act.put _ (some 27) _=_
        simp only [Act.put,List.setIfInBounds_toArray,List.set_cons_zero,List.set_cons_succ,jZa,jdb]
        rfl
       refine pq (i:=9) (N:=some 2) #[true,true,true,true,true,true,true,true,true,true] ?_
       refine done_ (jic HT_.out (by kernel_rfl)) ?_
       try go_wp2
       replace HO154:=am (Kd.jQ HO154.out)
       replace BK146:=am (jh BK146.out)
       replace HK:=am (Kept.drew HK.out)
       replace HB:=am (jm HB.out)
       have p155:0≤(a1:Int):=ozD (uq)
       have q155:a1<(l0_0.length:Int):=ozD (uq)
       obtain ⟨ad155,e155,hx155_0,hx155_1,hx155_2,hx155_3,hx155_4⟩:=jOa (Kd.C_kept_now HR0_0.out HK.out) a1 p155 q155
       have hw155_4:=hx155_4
       have hw155_3:=hx155_3
       have hw155_2:=hx155_2
       have hw155_1:=hx155_1
       have hw155_0:=hx155_0
       obtain rfl:ad151=ad155:=(by injection e155)
       replace p155:=ezT p155
       replace q155:=ezT q155
       obtain ⟨Ao20,co20,eo20⟩:=Kd.jca HO154.out
       (first | subst eo20 |(injection eo20 with f1_ f2_ f3_;have f4_:=f1_.symm;have f5_:=f3_.symm;clear f1_ f2_ f3_;subst f4_;subst f5_))
       refine jdc (n:=10) (S:=fun w'=>w'.cell? ⟨gb146,0,none⟩=some (.slice (some ad151) l0_0.length c0_0)∧w'.cell? (ad151.add ((a1).toNat * 5))=some (.int .i64 ((jd l0_0 a1).f0))∧w'.cell? ⟨(ad151.add ((a1).toNat * 5)).block,(ad151.add ((a1).toNat * 5)).off+1,none⟩=some (.int .i64 ((jd l0_0 a1).f1))∧w'.cell? ⟨(ad151.add ((a1).toNat * 5)).block,(ad151.add ((a1).toNat * 5)).off+2,none⟩=some (.int .i64 ((jd l0_0 a1).f2))∧w'.cell? ⟨(ad151.add ((a1).toNat * 5)).block,(ad151.add ((a1).toNat * 5)).off+3,none⟩=some (.int .i64 ((jd l0_0 a1).f3))∧w'.cell? ⟨(ad151.add ((a1).toNat * 5)).block,(ad151.add ((a1).toNat * 5)).off+4,none⟩=some (.bool ((jd l0_0 a1).f4))) (ds:=[8]) #[false,false,false,false,false,false,false,false,false,false] (by kernel_rfl) rfl rfl ⟨(jr BK146.out 0).trans rfl,hx155_0,hx155_1,hx155_2,hx155_3,hx155_4⟩ (fun hHeld=>?_);refine jBb jR.tab5 jR.bits5 (fun HT_ HW_=>?_)
       generalize w18.drew=w19 at HO154 BK146 HK HB hx155_0 hx155_1 hx155_2 hx155_3 hx155_4 hHeld ⊢
       refine pq (i:=1) (N:=some 29) #[false,true,false,false,false,false,false,false,false,false] ?_
       refine pq (i:=3) (N:=some 31) #[false,true,false,true,false,false,false,false,false,false] ?_
       refine pq (i:=7) (N:=some 35) #[false,true,false,true,false,false,false,true,false,false] ?_
       refine jCb (i:=0) (N:=some 28) (v:=?_) (a':=?_) #[true,true,false,true,false,false,false,true,false,false] rfl rfl (jTa HT_.out HW_.out (by kernel_rfl)) (fun _ _ _ h=>h) (Or.inl ⟨by rfl,?_⟩) hHeld ?_ ?_
       rotate_left
       ·rintro w' ⟨s0,s1,s2,s3,s4,s5⟩
        go_simp
        with_reducible rfl
       rotate_left
       ·exact sa
       refine jCb (i:=2) (N:=some 30) (v:=?_) (a':=?_) #[true,true,true,true,false,false,false,true,false,false] rfl rfl (jTa HT_.out HW_.out (by kernel_rfl)) (fun _ _ _ h=>h) (Or.inl ⟨by rfl,?_⟩) hHeld ?_ ?_
       rotate_left
       ·rintro w' ⟨s0,s1,s2,s3,s4,s5⟩
        go_simp
        with_reducible rfl
       rotate_left
       ·exact sa
       refine pq (i:=4) (N:=some 32) #[true,true,true,true,true,false,false,true,false,false] ?_
       refine pq (i:=5) (N:=some 33) #[true,true,true,true,true,true,false,true,false,false] ?_
       refine jCb (i:=6) (N:=some 34) (v:=?_) (a':=?_) #[true,true,true,true,true,true,true,true,false,false] rfl rfl (jTa HT_.out HW_.out (by kernel_rfl)) (fun _ _ _ h=>h) (Or.inl ⟨by rfl,?_⟩) hHeld ?_ ?_
       rotate_left
       ·rintro w' ⟨s0,s1,s2,s3,s4,s5⟩
        go_simp
        with_reducible rfl
       rotate_left
       ·exact sa
       refine last_ (i:=8) (N:=some 36) #[true,true,true,true,true,true,true,true,true,false] rfl rfl (jlb HT_.out (by kernel_rfl)) (by decide) (fun K hK=>?_)
       refine jDb Try.func53 (by kernel_rfl) rfl #[.agg #[.slice (some ad151) l0_0.length c0_0], .int .i64 ((jd l0_0 a1).f3), .slice Ao20 t152.length co20] (by rfl) rfl rfl (aq) ?_
       with_reducible refine (ih kj3 (by have:=HJ3.out;omega) _ _ l0_0 ((jd l0_0 a1).f3) (fun k_=>some k_=(.slice Ao20 t152.length co20:Value).ownBlock) (.slice Ao20 t152.length co20) t152 t156 w0 _ ?side1 ?side2 ?side3 ?side4 A14.out).mono ?_
       (case side1=>exact Y26)
       (case side2=>exact Kd.C_kept_call HR0_0.out (Y22) (fun k_ hs_=>(fun e_=>(HO154.out.1 k_ e_.symm)) hs_))
       (case side3=>exact HC0_0.out)
       (case side4=>exact Kd.jqc rfl HO154.out)
       rintro e w21 ⟨v157,rfl,ho0,hb,hkp⟩
       refine ⟨_,rfl,?_⟩
       have n0_:=am (jSa (kq BK146.out) hkp (fun hs_=>(fun e_=>(Kd.R_ne HO154.out BK146.out (by decide)) e_) hs_))
       have n1_:=am (Kd.jI (ok':=fun k_=>(P2_ k_∨w.heap.size≤k_)) ho0 (fun k_ hk_=>Or.elim hk_ (fun hs_=>(HO154.out.1 k_ (hs_).symm)) (fun hn_=>(.inr (Nat.le_trans (Y97) hn_)))))
       have n2_:=am (Kept.then_ (S:=(fun k_=>P2_ k_)) (Y22) hkp (fun k_ hs_=>(fun e_=>(HO154.out.1 k_ e_.symm)) hs_))
       have n3_:=am (hb)
       clear BK146
       clear HK
       clear HB
       clear HO154
       have BK146:=n0_
       have HO158:=n1_
       have HK:=n2_
       have HB:=n3_
       clear n0_ n1_ n2_ n3_
       (try clear hb)
       (try clear hkp)
       (try clear ho0)
       refine hK.out _ _ ?_
       clear hK K
       refine jYa (a':=?_) ?_ ?_
       rotate_left
       ·show Act.put _ (some 36) _=_
        simp only [Act.put,List.setIfInBounds_toArray,List.set_cons_zero,List.set_cons_succ,jZa,jdb]
        rfl
       refine pq (i:=9) (N:=some 6) #[true,true,true,true,true,true,true,true,true,true] ?_
       refine done_ (jic HT_.out (by kernel_rfl)) ?_
       try go_wp2
       go_ret
       exact ⟨_,Y1,rq HO158.out,Y26,Y22⟩
      ·rw [if_neg c12] at H
       exact absurd H (by simp)
     ·rw [if_neg c11] at H
      exact absurd H (by simp)
    ·rw [if_neg c10] at H
     exact absurd H (by simp)
def jBa.l0 : Nat → List Int → Int → Int → Option (Int)
 | 0,_,_,_=>none
 | k+1,x0,x1,x5=>if x5<(x0.length:Int) then (if 0≤x5 then (if (rd x0 x5)=x1 then (some x5) else (jBa.l0 k x0 x1 (wrap64 (x5+1)))) else (none)) else (some (-1))
def jBa.f (k : Nat) (l0 : List Int) (a1 : Int) : Option (Int) := jBa.l0 k l0 a1 0
set_option maxHeartbeats 8000000 in
set_option maxRecDepth 100000 in
theorem jBa.calls (k : Nat) (A0 : Option Addr) (c0 : Nat) (l0 : List Int) (a1 : Int) (r : Int) (w : World) (hr0 : Kd.C (Kd.int .i64) w A0 l0.length l0) (hc0 : l0.length ≤ c0) (h : jBa.f k l0 a1 = some r) :
  Calls Try.prog 70 #[.slice A0 l0.length c0, .int .i64 a1] w fun e w'=>e=.returned (.int .i64 r)∧jgb w w':=by
 have HR0:=am hr0
 have HC0:=am hc0
 clear hr0 hc0
 have H:(jBa.l0 k l0 a1 0)=some r:=h
 clear h
 have H':=am H
 clear H
 go_enter Try.func70,Try.ntmps70
 go_wp2
 go_loopg [5] k (fun kq v5 w'=>∃ (x5_1:Int),v5=.int .i64 x5_1∧jw (jBa.l0 kq l0 a1 x5_1=some r)∧jw (kq≤k)∧jgb w w')
 case atStart=>exact ⟨(0),(sq),H',⟨Nat.le_refl _⟩,Y2⟩
 case round =>
  clear H'
  try clear p2
  obtain ⟨x5_1,rfl,HA,HK1,⟨m1,rfl⟩⟩:=hrel
  cases gk with
  | zero=>exact absurd HA.out (by simp [jBa.l0])
  | succ k1 =>
   have H:=HA.out
   clear HA
   simp only [jBa.l0] at H
   by_cases c3:x5_1<(l0.length:Int)
   ·rw [if_pos c3] at H
    have c3b0:decide (x5_1<(l0.length:Int))=true:=dzT c3
    clear c3
    by_cases c4:0≤x5_1
    ·rw [if_pos c4] at H
     have c4b0:decide (0≤x5_1)=true:=dzT c4
     clear c4
     by_cases c5:(rd l0 x5_1)=a1
     ·rw [if_pos c5] at H
      have c5b0:((rd l0 x5_1) == a1)=true:=beq_iff_eq.mpr c5
      have c5b1:((rd l0 x5_1) != a1)=false:=bne_eq_false_iff_eq.mpr c5
      clear c5
      obtain rfl:=Option.some.inj H
      have p159:0≤(x5_1:Int):=ozD (uq)
      have q159:x5_1<(l0.length:Int):=ozD (uq)
      obtain ⟨ad159,e159,hx159_0⟩:=Kd.jKb HR0.out x5_1 p159 q159
      cases e159
      replace p159:=ezT p159
      replace q159:=ezT q159
      go_wp2
      go_ret
      exact ⟨sq,Y2⟩
     ·rw [if_neg c5] at H
      have c5b0:((rd l0 x5_1) == a1)=false:=beq_eq_false_iff_ne.mpr c5
      have c5b1:((rd l0 x5_1) != a1)=true:=bne_iff_ne.mpr c5
      have H':=am H
      clear H
      have p159:0≤(x5_1:Int):=ozD (uq)
      have q159:x5_1<(l0.length:Int):=ozD (uq)
      obtain ⟨ad159,e159,hx159_0⟩:=Kd.jKb HR0.out x5_1 p159 q159
      cases e159
      replace p159:=ezT p159
      replace q159:=ezT q159
      go_wp2
      go_roundg k1
      case measure=>have:=HK1.out;omega
      case rel=>exact ⟨(wrap64 (x5_1+1)),(sq),H',⟨by have:=HK1.out;omega⟩,Y2⟩
    ·rw [if_neg c4] at H
     exact absurd H (by simp)
   ·rw [if_neg c3] at H
    have c3b0:decide (x5_1<(l0.length:Int))=false:=dzF c3
    clear c3
    obtain rfl:=Option.some.inj H
    go_wp2
    go_ret
    exact ⟨sq,Y2⟩
def jS.l0 : Nat → Int → List Int → Int → List (S54) → List (S54) → Option ((List (S54)) × Int)
 | 0,_,_,_,_,_=>none
 | k+1,x1,x6,x8,x161000,x175000=>if x8<(x6.length:Int) then (if 0≤x8 then (if 0≤(rd x6 x8) then (if (rd x6 x8)<(x161000.length:Int) then ((jBa.f k x6 ((jd x161000 (rd x6 x8)).f2)).bind fun t179=>((jBa.f k x6 ((jd x161000 (rd x6 x8)).f3)).bind fun t180=>(if x175000.length<3518437208883 then (jS.l0 k x1 x6 (wrap64 (x8+1)) x161000 (x175000 ++ [(⟨(jd x161000 (rd x6 x8)).f0,(jd x161000 (rd x6 x8)).f1,t179,t180,(jd x161000 (rd x6 x8)).f4⟩:S54)])) else (none)))) else (none)) else (none)) else (none)) else ((jBa.f k x6 x1).bind fun t175=>(some (x175000,t175)))
def jS.f (k : Nat) (l0_0 : List (S54)) (a1 : Int) : Option ((List (S54)) × Int) := (jR.f k l0_0 a1 (([] : List Int))).bind fun t165 => ((jnb.f t165).bind fun t168 => (jS.l0 k a1 t168 0 l0_0 (([] : List (S54)))))
def jS.T6 : Bool × List (List Nat × List Nat) := (true, [([], []), ([0], [0]), ([], []), ([], []), ([2, 3], [2, 3]), ([4], [4]), ([1, 5], [1, 5]), ([6], [6]), ([], []), ([8, 7, 0, 1, 2, 3, 4, 5, 6, 7, 8], [7, 8])])
def jS.B6 : List Nat := [0, 1, 0, 0, 12, 28, 63, 127, 0, 511]
theorem jS.tab6 : rtab .any (opsOf Try.f42 6) = jS.T6 := by kernel_rfl
theorem jS.bits6 : jWb jS.T6.2 jS.B6 = true := by kernel_rfl
set_option maxHeartbeats 8000000 in
set_option maxRecDepth 100000 in
theorem jS.calls (k : Nat) (A0_0 : Option Addr) (c0_0 : Nat) (l0_0 : List (S54)) (a1 : Int) (r1 : List (S54)) (r2 : Int) (w : World) (hr0_0 : Kd.C k54 w A0_0 l0_0.length l0_0) (hc0_0 : l0_0.length ≤ c0_0) (h : jS.f k l0_0 a1 = some (r1, r2)) :
  Calls Try.prog 42 #[.agg #[.slice A0_0 l0_0.length c0_0], .int .i64 a1] w fun e w'=>∃ v0_:Value,e=.returned (.tuple #[.agg #[v0_], .int .i64 r2])∧Kd.R k54 54 w' w.heap.size (fun _=>True) v0_ r1∧Below w.heap.size w w':=by
 have hu32:=Try.underlying32
 have hu54:=Try.underlying54
 have HR0_0:=am hr0_0
 have HC0_0:=am hc0_0
 clear hr0_0 hc0_0
 have HB:=am (Below.refl w.heap.size w)
 have H:((jR.f k l0_0 a1 (([]:List Int))).bind fun t165=>((jnb.f t165).bind fun t168=>(jS.l0 k a1 t168 0 l0_0 (([]:List (S54))))))=some (r1,r2):=h
 clear h
 obtain ⟨y162,hy162⟩:∃ y_:List Int,y_=(([]:List Int)):=⟨_,rfl⟩
 replace H:((jR.f k l0_0 a1 y162).bind fun t165=>((jnb.f t165).bind fun t168=>(jS.l0 k a1 t168 0 l0_0 (([]:List (S54))))))=some (r1,r2):=by first |(rw [hy162];with_reducible exact H) |(have H2_:=(Option.bind_some _ _).symm.trans H;rw [hy162];with_reducible exact H2_) |(have H2_:=(Option.bind_some _ _).symm.trans H;with_reducible exact H2_) | with_reducible exact H |(rw [hy162];exact H) | exact H
 have Ny162:=am hy162
 clear hy162
 replace H:=bzS H
 obtain ⟨t165,A30,H⟩:=H
 replace H:((jnb.f t165).bind fun t168=>(jS.l0 k a1 t168 0 l0_0 (([]:List (S54)))))=some (r1,r2):=H
 have A3:=am A30
 clear A30
 replace H:=bzS H
 obtain ⟨t168,A40,H⟩:=H
 replace H:(jS.l0 k a1 t168 0 l0_0 (([]:List (S54))))=some (r1,r2):=H
 have A4:=am A40
 clear A40
 obtain ⟨y171,hy171⟩:∃ y_:List (S54),y_=(([]:List (S54))):=⟨_,rfl⟩
 replace H:(jS.l0 k a1 t168 0 l0_0 y171)=some (r1,r2):=by first |(rw [hy171];with_reducible exact H) |(have H2_:=(Option.bind_some _ _).symm.trans H;rw [hy171];with_reducible exact H2_) |(have H2_:=(Option.bind_some _ _).symm.trans H;with_reducible exact H2_) | with_reducible exact H |(rw [hy171];exact H) | exact H
 have Ny171:=am hy171
 clear hy171
 have H':=am H
 clear H
 go_enter Try.func42,Try.ntmps42
 go_wp2_with (first |((with_reducible refine jD (N:=2) rfl ?_);refine bE (N:=2) (cs:=#[.slice A0_0 l0_0.length c0_0]) (t:=32) ?_;intro gb160 hg w5 hbox hb;have BK160:=am (hbox);have GW160:=am ((Y0:w.heap.size≤gb160));have GE160:=am ((Y0:w.heap.size≤gb160));replace HB:=am (je (bq) hb);clear hb hbox hg) |((with_reducible refine jD (N:=4) rfl ?_);refine bE (N:=4) (cs:=#[.slice none 0 0]) (t:=32) ?_;intro gb161 hg w6 hbox hb;have BK161:=am (hbox);have GW161:=am ((Y115:w.heap.size≤gb161));have GE161:=am ((Y115:w.heap.size≤gb161));have NB160_161:=am ((by rw [hg];exact Nat.ne_of_lt (jP (g:=gb160) (o:=.cells #[.slice A0_0 l0_0.length c0_0] 32 (0,0)) (kq BK160.out)):gb160≠gb161));have NB161_160:=am ((by rw [hg];exact Nat.ne_of_gt (jP (g:=gb160) (o:=.cells #[.slice A0_0 l0_0.length c0_0] 32 (0,0)) (kq BK160.out)):gb161≠gb160));replace BK160:=am (ja (g:=gb160) (o:=.cells #[.slice A0_0 l0_0.length c0_0] 32 (0,0)) (kq BK160.out) hb);replace HB:=am (je (by repeat (first |(with_reducible first | exact HB.out | apply jo | apply jl | apply jm | refine jk ?_ GE160.out) | exact HB.out)) hb);clear hb hbox hg;have hnb7:=NB160_161.out;have hnc7:=NB161_160.out;have hcz8_0:=bc0 BK160.out;have hfz8_0:=jb BK160.out 0) |((with_reducible refine jD (N:=12) rfl ?_);refine Kd.R_lit (Kd.int .i64) _ 3 ?hg (N:=12) ?hd (xs:=([]:List Int)) (inner:=[]) (ok:=fun _=>True) (okp:=fun _=>True) ?hr ?hp (fun _ hk=>hk) trivial (Below.refl _ _) (Nat.le_refl _) (by simp) ?_;(case hd=>rfl);(case hg=>rfl);(case hr=>exact Y3);(case hp=>exact (Reps.none _ _));intro v163 w9 ho10 hb hg_ hnew_;clear hg_ hnew_;(first | rw [← Ny162.out] at ho10 |(simp only [Int.reduceToNat] at ho10;rw [← Ny162.out] at ho10));have HO164:=am (Kd.jna ho10 (jA (Y23)));replace BK160:=am (ja (g:=gb160) (o:=.cells #[.slice A0_0 l0_0.length c0_0] 32 (0,0)) (kq BK160.out) hb);replace BK161:=am (ja (g:=gb161) (o:=.cells #[.slice none 0 0] 32 (0,0)) (kq BK161.out) hb);replace HB:=am (je (Y23) hb);clear hb ho10;obtain ⟨Ao11,co11,eo11⟩:=Kd.jca HO164.out;subst eo11) |((with_reducible refine jE (f:=53) rfl ?_);refine gL (some 13) Try.func53 #[.agg #[.slice A0_0 l0_0.length c0_0], .int .i64 a1, .slice Ao11 y162.length co11] ?_;(with_reducible refine (jR.calls k _ _ l0_0 a1 (fun k_=>some k_=(.slice Ao11 y162.length co11:Value).ownBlock) (.slice Ao11 y162.length co11) y162 t165 w _ ?side1 ?side2 ?side3 ?side4 A3.out).mono ?_);(case side1=>exact Y23);(case side2=>exact Kd.C_kept_came k54_heap HR0_0.out (Y23) (fun k_ hs_=>(fun e_=>Kd.jQa HO164.out k_ e_.symm) hs_));(case side3=>exact HC0_0.out);(case side4=>exact Kd.jqc rfl HO164.out);rintro e w12 ⟨v166,rfl,ho0,hb,hkp⟩;refine ⟨_,rfl,?_⟩;have n0_:=am (jSa (kq BK160.out) hkp (fun hs_=>(fun e_=>(Kd.R_ne HO164.out BK160.out (by decide)) e_) hs_));have n1_:=am (jSa (kq BK161.out) hkp (fun hs_=>(fun e_=>(Kd.R_ne HO164.out BK161.out (by decide)) e_) hs_));have n2_:=am (Kd.jI (ok':=fun k_=>True) ho0 (fun k_ hk_=>trivial));have n3_:=am (hb);clear BK160 BK161 HB HO164;have BK160:=n0_;have BK161:=n1_;have HO167:=n2_;have HB:=n3_;clear n0_ n1_ n2_ n3_;(try clear hb);(try clear hkp);(try clear ho0);obtain ⟨Ao13,co13,eo13⟩:=Kd.jca HO167.out;subst eo13) |((with_reducible refine jE (f:=52) rfl ?_);refine gL (some 14) Try.func52 #[.slice Ao13 t165.length co13] ?_;(with_reducible refine (jnb.calls _ _ t165 t168 _ ?side1 ?side2 A4.out).mono ?_);(case side1=>exact cq (Kd.jq HO167.out).2.2);(case side2=>exact (Kd.jq HO167.out).2.1);rintro e w14 ⟨v169,rfl,ho0,hb⟩;refine ⟨_,rfl,?_⟩;have HO170:=am (Kd.jna (Kd.jRa ho0 (Kd.R_lt (rq HO167.out))) (jA (Y23)));replace HO167:=am (Kd.jta (rq HO167.out) (Kd.jQa ho0) hb);replace BK160:=am (ja (g:=gb160) (o:=.cells #[.slice A0_0 l0_0.length c0_0] 32 (0,0)) (kq BK160.out) hb);replace BK161:=am (ja (g:=gb161) (o:=.cells #[.slice none 0 0] 32 (0,0)) (kq BK161.out) hb);replace HB:=am (je (Y23) hb);(try clear hb);(try clear hb2);(try clear hk);(try clear hi);(try clear ho0)) |((with_reducible refine jD (N:=15) rfl ?_);refine Kd.R_lit k54 _ 54 ?hg (N:=15) ?hd (xs:=([]:List (S54))) (inner:=[]) (ok:=fun _=>True) (okp:=fun _=>True) ?hr ?hp (fun _ hk=>hk) trivial (Below.refl _ _) (Nat.le_refl _) (by simp) ?_;(case hd=>rfl);(case hg=>rfl);(case hr=>exact Y3);(case hp=>exact (Reps.none _ _));intro v172 w15 ho16 hb hg_ hnew_;clear hg_ hnew_;(first | rw [← Ny171.out] at ho16 |(simp only [Int.reduceToNat] at ho16;rw [← Ny171.out] at ho16));have HO173:=am (Kd.jna ho16 (jA (Y23)));replace HO167:=am (Kd.jy (rq HO167.out) hb);replace HO170:=am (Kd.jy (rq HO170.out) hb);replace BK160:=am (ja (g:=gb160) (o:=.cells #[.slice A0_0 l0_0.length c0_0] 32 (0,0)) (kq BK160.out) hb);replace BK161:=am (ja (g:=gb161) (o:=.cells #[.slice none 0 0] 32 (0,0)) (kq BK161.out) hb);replace HB:=am (je (Y23) hb);clear hb ho16;obtain ⟨Ao17,co17,eo17⟩:=Kd.jca HO173.out;subst eo17) |((with_reducible refine jD (N:=7) rfl ?_);refine bE (N:=7) (cs:=#[.slice none 0 0]) (t:=32) ?_;intro gb174 hg w18 hbox hb;have BK174:=am (hbox);have GW174:=am ((Y116:w.heap.size≤gb174));have GE174:=am ((Y116:w.heap.size≤gb174));have NB160_174:=am ((by rw [hg];exact Nat.ne_of_lt (jP (g:=gb160) (o:=.cells #[.slice A0_0 l0_0.length c0_0] 32 (0,0)) (kq BK160.out)):gb160≠gb174));have NB174_160:=am ((by rw [hg];exact Nat.ne_of_gt (jP (g:=gb160) (o:=.cells #[.slice A0_0 l0_0.length c0_0] 32 (0,0)) (kq BK160.out)):gb174≠gb160));have NB161_174:=am ((by rw [hg];exact Nat.ne_of_lt (jP (g:=gb161) (o:=.cells #[.slice none 0 0] 32 (0,0)) (kq BK161.out)):gb161≠gb174));have NB174_161:=am ((by rw [hg];exact Nat.ne_of_gt (jP (g:=gb161) (o:=.cells #[.slice none 0 0] 32 (0,0)) (kq BK161.out)):gb174≠gb161));replace HO167:=am (Kd.jy (rq HO167.out) hb);replace HO170:=am (Kd.jy (rq HO170.out) hb);replace HO173:=am (Kd.jy (rq HO173.out) hb);replace BK160:=am (ja (g:=gb160) (o:=.cells #[.slice A0_0 l0_0.length c0_0] 32 (0,0)) (kq BK160.out) hb);replace BK161:=am (ja (g:=gb161) (o:=.cells #[.slice none 0 0] 32 (0,0)) (kq BK161.out) hb);replace HB:=am (je (Y23) hb);clear hb hbox hg;have hnb19:=NB174_160.out;have hnc19:=NB160_174.out;have hnb20:=NB174_161.out;have hnc20:=NB161_174.out;have hcz21_0:=bc0 BK174.out;have hfz21_0:=jb BK174.out 0))
 go_loopg [8] k (fun kq v8 w'=>∃ (x8_1:Int) (x175000_1:List (S54)) (u175000:Value),v8=.int .i64 x8_1∧jw (jS.l0 kq a1 t168 x8_1 l0_0 x175000_1=some (r1,r2))∧jw (kq≤k)∧jw (Kd.R (Kd.int .i64) 3 w' w.heap.size (fun _=>True) v169 t168)∧jw (Kd.R k54 54 w' w.heap.size (fun _=>True) u175000 x175000_1)∧jw (w'.heap[gb160]?=some (.cells #[(.slice A0_0 l0_0.length c0_0)] 32 (0,0)))∧jw (w'.heap[gb161]?=some (.cells #[(.slice none 0 0)] 32 (0,0)))∧jw (w'.heap[gb174]?=some (.cells #[u175000] 32 (0,0)))∧jw (Below w.heap.size w w'))
 case atStart=>exact ⟨(0),(y171),(.slice Ao17 y171.length co17),(sq),H',⟨Nat.le_refl _⟩,⟨by (with_reducible repeat (first | apply Kd.jM | apply Kd.jL | apply Kd.jQ));exact Kd.jI (Kd.jya (p:=⟨gb174,0,none⟩) (Kd.jwa HO170.out BK174.out (by decide)) (fun _ hk=>hk.2) (.slice Ao17 y171.length co17)) (fun _ hk=>trivial)⟩,⟨by (with_reducible repeat (first | apply Kd.jM | apply Kd.jL | apply Kd.jQ));exact Kd.jI (Kd.jya (p:=⟨gb174,0,none⟩) (Kd.jwa HO173.out BK174.out (by decide)) (fun _ hk=>hk.2) (.slice Ao17 y171.length co17)) (fun _ hk=>trivial)⟩,⟨by (with_reducible repeat (first | refine jf ?_ _ | refine jh ?_ | refine jg ?_ _));refine jO ?_ NB160_174.out _;(with_reducible repeat (first | refine jf ?_ _ | refine jh ?_ | refine jg ?_ _));exact BK160.out⟩,⟨by (with_reducible repeat (first | refine jf ?_ _ | refine jh ?_ | refine jg ?_ _));refine jO ?_ NB161_174.out _;(with_reducible repeat (first | refine jf ?_ _ | refine jh ?_ | refine jg ?_ _));exact BK161.out⟩,⟨by (with_reducible repeat (first | refine jf ?_ _ | refine jh ?_ | refine jg ?_ _));refine jza (cs:=#[.slice none 0 0]) ?_ 0 _ rfl;(with_reducible repeat (first | refine jf ?_ _ | refine jh ?_ | refine jg ?_ _));exact BK174.out⟩,⟨Y98⟩⟩
 case round =>
  clear H'
  try clear c1
  try clear c2
  try clear p2
  try clear c4
  try clear c5
  try clear c7
  try clear c19
  try clear c20
  try clear hcz21_0
  try clear hcz8_0
  try clear hfz21_0
  try clear hfz8_0
  obtain ⟨x8_1,x175000_1,u175000,rfl,HA,HK1,HO_6,HO_175000,BK160,BK161,BK174,HB⟩:=hrel
  cases gk with
  | zero=>exact absurd HA.out (by simp [jS.l0])
  | succ k1 =>
   have H:=HA.out
   clear HA
   simp only [jS.l0] at H
   by_cases c22:x8_1<(t168.length:Int)
   ·rw [if_pos c22] at H
    have c22b0:decide (x8_1<(t168.length:Int))=true:=dzT c22
    clear c22
    by_cases c23:0≤x8_1
    ·rw [if_pos c23] at H
     have c23b0:decide (0≤x8_1)=true:=dzT c23
     clear c23
     by_cases c24:0≤(rd t168 x8_1)
     ·rw [if_pos c24] at H
      have c24b0:decide (0≤(rd t168 x8_1))=true:=dzT c24
      clear c24
      by_cases c25:(rd t168 x8_1)<(l0_0.length:Int)
      ·rw [if_pos c25] at H
       have c25b0:decide ((rd t168 x8_1)<(l0_0.length:Int))=true:=dzT c25
       clear c25
       replace H:=bzS H
       obtain ⟨t179,A260,H⟩:=H
       replace H:((jBa.f k1 t168 ((jd l0_0 (rd t168 x8_1)).f3)).bind fun t180=>(if x175000_1.length<3518437208883 then (jS.l0 k1 a1 t168 (wrap64 (x8_1+1)) l0_0 (x175000_1 ++ [(⟨(jd l0_0 (rd t168 x8_1)).f0,(jd l0_0 (rd t168 x8_1)).f1,t179,t180,(jd l0_0 (rd t168 x8_1)).f4⟩:S54)])) else (none)))=some (r1,r2):=H
       have A26:=am A260
       clear A260
       replace H:=bzS H
       obtain ⟨t180,A270,H⟩:=H
       replace H:(if x175000_1.length<3518437208883 then (jS.l0 k1 a1 t168 (wrap64 (x8_1+1)) l0_0 (x175000_1 ++ [(⟨(jd l0_0 (rd t168 x8_1)).f0,(jd l0_0 (rd t168 x8_1)).f1,t179,t180,(jd l0_0 (rd t168 x8_1)).f4⟩:S54)])) else (none))=some (r1,r2):=H
       have A27:=am A270
       clear A270
       by_cases c28:x175000_1.length<3518437208883
       ·rw [if_pos c28] at H
        have LMc28:=am c28
        clear c28
        obtain ⟨y181,hy181⟩:∃ y_:List (S54),y_=(x175000_1 ++ [(⟨(jd l0_0 (rd t168 x8_1)).f0,(jd l0_0 (rd t168 x8_1)).f1,t179,t180,(jd l0_0 (rd t168 x8_1)).f4⟩:S54)]):=⟨_,rfl⟩
        replace H:(jS.l0 k1 a1 t168 (wrap64 (x8_1+1)) l0_0 y181)=some (r1,r2):=by first |(rw [hy181];with_reducible exact H) |(have H2_:=(Option.bind_some _ _).symm.trans H;rw [hy181];with_reducible exact H2_) |(have H2_:=(Option.bind_some _ _).symm.trans H;with_reducible exact H2_) | with_reducible exact H |(rw [hy181];exact H) | exact H
        have Ny181:=am hy181
        clear hy181
        have H':=am H
        clear H
        obtain ⟨Ao29,co29,eo29⟩:=Kd.jca HO_6.out
        subst eo29
        try go_wp2
        replace HO_6:=am (Kd.jQ HO_6.out)
        replace HO_175000:=am (Kd.jQ HO_175000.out)
        replace BK160:=am (jh BK160.out)
        replace BK161:=am (jh BK161.out)
        replace BK174:=am (jh BK174.out)
        replace HB:=am (jm HB.out)
        have p176:0≤(x8_1:Int):=ozD (uq)
        have q176:x8_1<(t168.length:Int):=ozD (uq)
        obtain ⟨ad176,e176,hx176_0⟩:=Kd.jKb (Kd.jq HO_6.out).2.2 x8_1 p176 q176
        cases e176
        replace p176:=ezT p176
        replace q176:=ezT q176
        have p177:0≤((rd t168 x8_1):Int):=ozD (uq)
        have q177:(rd t168 x8_1)<(l0_0.length:Int):=ozD (uq)
        obtain ⟨ad177,e177,hx177_0,hx177_1,hx177_2,hx177_3,hx177_4⟩:=jOa HR0_0.out (rd t168 x8_1) p177 q177
        have hw177_4:=hx177_4
        have hw177_3:=hx177_3
        have hw177_2:=hx177_2
        have hw177_1:=hx177_1
        have hw177_0:=hx177_0
        cases e177
        replace hx177_0:=cb HB.out hx177_0
        replace hx177_1:=cb HB.out hx177_1
        replace hx177_2:=cb HB.out hx177_2
        replace hx177_3:=cb HB.out hx177_3
        replace hx177_4:=cb HB.out hx177_4
        replace p177:=ezT p177
        replace q177:=ezT q177
        refine jdc (n:=10) (S:=fun w'=>w'.cell? ⟨gb160,0,none⟩=some (.slice (some ad177) l0_0.length c0_0)∧w'.cell? (ad176.add (x8_1).toNat)=some (.int .i64 (rd t168 x8_1))∧w'.cell? (ad177.add (((rd t168 x8_1)).toNat * 5))=some (.int .i64 ((jd l0_0 (rd t168 x8_1)).f0))∧w'.cell? ⟨(ad177.add (((rd t168 x8_1)).toNat * 5)).block,(ad177.add (((rd t168 x8_1)).toNat * 5)).off+1,none⟩=some (.int .i64 ((jd l0_0 (rd t168 x8_1)).f1))∧w'.cell? ⟨(ad177.add (((rd t168 x8_1)).toNat * 5)).block,(ad177.add (((rd t168 x8_1)).toNat * 5)).off+2,none⟩=some (.int .i64 ((jd l0_0 (rd t168 x8_1)).f2))∧w'.cell? ⟨(ad177.add (((rd t168 x8_1)).toNat * 5)).block,(ad177.add (((rd t168 x8_1)).toNat * 5)).off+3,none⟩=some (.int .i64 ((jd l0_0 (rd t168 x8_1)).f3))∧w'.cell? ⟨(ad177.add (((rd t168 x8_1)).toNat * 5)).block,(ad177.add (((rd t168 x8_1)).toNat * 5)).off+4,none⟩=some (.bool ((jd l0_0 (rd t168 x8_1)).f4))) (ds:=[]) #[false,false,false,false,false,false,false,false,false,false] (by kernel_rfl) rfl rfl ⟨(jr BK160.out 0).trans rfl,hx176_0,((HB.out.cell (World.block_lt_of_cell? w _ hw177_0)).trans hw177_0),((HB.out.cell (World.block_lt_of_cell? w _ hw177_1)).trans hw177_1),((HB.out.cell (World.block_lt_of_cell? w _ hw177_2)).trans hw177_2),((HB.out.cell (World.block_lt_of_cell? w _ hw177_3)).trans hw177_3),((HB.out.cell (World.block_lt_of_cell? w _ hw177_4)).trans hw177_4)⟩ (fun hHeld=>?_);refine jBb jS.tab6 jS.bits6 (fun HT_ HW_=>?_)
        generalize wr.drew=w30 at HO_6 HO_175000 BK160 BK161 BK174 HB hx176_0 hx177_0 hx177_1 hx177_2 hx177_3 hx177_4 hHeld ⊢
        refine pq (i:=0) (N:=some 23) #[true,false,false,false,false,false,false,false,false,false] ?_
        refine pq (i:=2) (N:=some 25) #[true,false,true,false,false,false,false,false,false,false] ?_
        refine pq (i:=3) (N:=some 26) #[true,false,true,true,false,false,false,false,false,false] ?_
        refine pq (i:=4) (N:=some 27) #[true,false,true,true,true,false,false,false,false,false] ?_
        refine jCb (i:=1) (N:=some 24) (v:=?_) (a':=?_) #[true,true,true,true,true,false,false,false,false,false] rfl rfl (jTa HT_.out HW_.out (by kernel_rfl)) (fun _ _ _ h=>h) (Or.inl ⟨by rfl,?_⟩) hHeld ?_ ?_
        rotate_left
        ·rintro w' ⟨s0,s1,s2,s3,s4,s5,s6⟩
         go_simp
         with_reducible rfl
        rotate_left
        ·exact sa
        refine jCb (i:=5) (N:=some 28) (v:=?_) (a':=?_) #[true,true,true,true,true,true,false,false,false,false] rfl rfl (jTa HT_.out HW_.out (by kernel_rfl)) (fun _ _ _ h=>h) (Or.inl ⟨by rfl,?_⟩) hHeld ?_ ?_
        rotate_left
        ·rintro w' ⟨s0,s1,s2,s3,s4,s5,s6⟩
         go_simp
         with_reducible rfl
        rotate_left
        ·exact sa
        refine pq (i:=6) (N:=some 29) #[true,true,true,true,true,true,true,false,false,false] ?_
        refine jCb (i:=7) (N:=some 30) (v:=?_) (a':=?_) #[true,true,true,true,true,true,true,true,false,false] rfl rfl (jTa HT_.out HW_.out (by kernel_rfl)) (fun _ _ _ h=>h) (Or.inl ⟨by rfl,?_⟩) hHeld ?_ ?_
        rotate_left
        ·rintro w' ⟨s0,s1,s2,s3,s4,s5,s6⟩
         go_simp
         with_reducible rfl
        rotate_left
        ·exact sa
        refine one_ (i:=8) (N:=some 9) #[true,true,true,true,true,true,true,true,true,false] rfl rfl (jlb HT_.out (by kernel_rfl)) (by decide) (fun K hK=>?_)
        refine jYb ?hg (N:=9) ?hd (cs:=#[.int .i64 0, .int .i64 0, .int .i64 0, .int .i64 0, .bool false]) (t:=54) ?hr ?_;(case hd=>rfl);(case hg=>rfl);(case hr=>exact Y3)
        intro gb178 hg w31 hbox hb
        have HS1_:=(hb.cell (World.block_lt_of_cell? _ _ (hHeld.2.1))).trans (hHeld.2.1)
        have BK178:=am (hbox)
        have GW178:=am ((Y117:w.heap.size≤gb178))
        have GE178:=am ((Y117:w.heap.size≤gb178))
        have NB160_178:=am ((by rw [hg];exact Nat.ne_of_lt (jP (g:=gb160) (o:=.cells #[.slice (some ad177) l0_0.length c0_0] 32 (0,0)) (kq BK160.out)):gb160≠gb178))
        have NB178_160:=am ((by rw [hg];exact Nat.ne_of_gt (jP (g:=gb160) (o:=.cells #[.slice (some ad177) l0_0.length c0_0] 32 (0,0)) (kq BK160.out)):gb178≠gb160))
        have NB161_178:=am ((by rw [hg];exact Nat.ne_of_lt (jP (g:=gb161) (o:=.cells #[.slice none 0 0] 32 (0,0)) (kq BK161.out)):gb161≠gb178))
        have NB178_161:=am ((by rw [hg];exact Nat.ne_of_gt (jP (g:=gb161) (o:=.cells #[.slice none 0 0] 32 (0,0)) (kq BK161.out)):gb178≠gb161))
        have NB174_178:=am ((by rw [hg];exact Nat.ne_of_lt (jP (g:=gb174) (o:=.cells #[u175000] 32 (0,0)) (kq BK174.out)):gb174≠gb178))
        have NB178_174:=am ((by rw [hg];exact Nat.ne_of_gt (jP (g:=gb174) (o:=.cells #[u175000] 32 (0,0)) (kq BK174.out)):gb178≠gb174))
        replace HO_6:=am (Kd.jy (rq HO_6.out) hb)
        replace HO_175000:=am (Kd.jy (Kd.R_elderB (rq HO_175000.out) gb178 (Nat.le_of_eq hg.symm)) hb)
        replace BK160:=am (ja (g:=gb160) (o:=.cells #[.slice (some ad177) l0_0.length c0_0] 32 (0,0)) (kq BK160.out) hb)
        replace BK161:=am (ja (g:=gb161) (o:=.cells #[.slice none 0 0] 32 (0,0)) (kq BK161.out) hb)
        replace BK174:=am (ja (g:=gb174) (o:=.cells #[u175000] 32 (0,0)) (kq BK174.out) hb)
        replace HB:=am (je (Y98) hb)
        clear hb hbox hg
        refine hK.out _ _ ⟨(jr BK160.out 0).trans rfl,HS1_,((HB.out.cell (World.block_lt_of_cell? w _ hw177_0)).trans hw177_0),((HB.out.cell (World.block_lt_of_cell? w _ hw177_1)).trans hw177_1),((HB.out.cell (World.block_lt_of_cell? w _ hw177_2)).trans hw177_2),((HB.out.cell (World.block_lt_of_cell? w _ hw177_3)).trans hw177_3),((HB.out.cell (World.block_lt_of_cell? w _ hw177_4)).trans hw177_4)⟩ (fun hHeld=>?_)
        clear hK K
        refine jYa (a':=?_) ?_ ?_
        rotate_left
        ·show Act.put _ (some 9) _=_
         simp only [Act.put,List.setIfInBounds_toArray,List.set_cons_zero,List.set_cons_succ,jZa,jdb]
         rfl
        refine one_ (i:=9) (N:=none) #[true,true,true,true,true,true,true,true,true,true] rfl rfl (jlb HT_.out (by kernel_rfl)) (by decide) (fun K hK=>?_)
        have hs32:w31.cell? ⟨gb178,0,none⟩=some (.int .i64 0):=(jr BK178.out 0).trans rfl
        have hfs32:=jb BK178.out 0
        have hns32_0:=NB160_178.out
        have hns32_1:=NB161_178.out
        have hns32_2:=NB174_178.out
        have hms32_0:=NB178_160.out
        have hms32_1:=NB178_161.out
        have hms32_2:=NB178_174.out
        have hs33:w31.cell? ⟨gb178,1,none⟩=some (.int .i64 0):=(jr BK178.out 1).trans rfl
        have hfs33:=jb BK178.out 1
        have hns33_0:=NB160_178.out
        have hns33_1:=NB161_178.out
        have hns33_2:=NB174_178.out
        have hms33_0:=NB178_160.out
        have hms33_1:=NB178_161.out
        have hms33_2:=NB178_174.out
        have hs34:w31.cell? ⟨gb178,2,none⟩=some (.int .i64 0):=(jr BK178.out 2).trans rfl
        have hfs34:=jb BK178.out 2
        have hns34_0:=NB160_178.out
        have hns34_1:=NB161_178.out
        have hns34_2:=NB174_178.out
        have hms34_0:=NB178_160.out
        have hms34_1:=NB178_161.out
        have hms34_2:=NB178_174.out
        have hs35:w31.cell? ⟨gb178,3,none⟩=some (.int .i64 0):=(jr BK178.out 3).trans rfl
        have hfs35:=jb BK178.out 3
        have hns35_0:=NB160_178.out
        have hns35_1:=NB161_178.out
        have hns35_2:=NB174_178.out
        have hms35_0:=NB178_160.out
        have hms35_1:=NB178_161.out
        have hms35_2:=NB178_174.out
        have hs36:w31.cell? ⟨gb178,4,none⟩=some (.bool false):=(jr BK178.out 4).trans rfl
        have hfs36:=jb BK178.out 4
        have hns36_0:=NB160_178.out
        have hns36_1:=NB161_178.out
        have hns36_2:=NB174_178.out
        have hms36_0:=NB178_160.out
        have hms36_1:=NB178_161.out
        have hms36_2:=NB178_174.out
        refine skip_ (w1:=?_) (by rfl) rfl ?_ ?_
        rotate_left
        ·go_simp
         rfl
        refine hK.out _ _ ⟨((cell_far (p:=⟨gb178,_,none⟩) NB160_178.out _).trans (((cell_far (p:=⟨gb178,_,none⟩) NB160_178.out _).trans (((cell_far (p:=⟨gb178,_,none⟩) NB160_178.out _).trans (((cell_far (p:=⟨gb178,_,none⟩) NB160_178.out _).trans (((cell_far (p:=⟨gb178,_,none⟩) NB160_178.out _).trans (hHeld.1)))))))))),((cell_far (p:=⟨gb178,_,none⟩) (Y45) _).trans (((cell_far (p:=⟨gb178,_,none⟩) (Y45) _).trans (((cell_far (p:=⟨gb178,_,none⟩) (Y45) _).trans (((cell_far (p:=⟨gb178,_,none⟩) (Y45) _).trans (((cell_far (p:=⟨gb178,_,none⟩) (Y45) _).trans (hHeld.2.1)))))))))),((cell_far (p:=⟨gb178,_,none⟩) (Y46) _).trans (((cell_far (p:=⟨gb178,_,none⟩) (Y46) _).trans (((cell_far (p:=⟨gb178,_,none⟩) (Y46) _).trans (((cell_far (p:=⟨gb178,_,none⟩) (Y46) _).trans (((cell_far (p:=⟨gb178,_,none⟩) (Y46) _).trans (hHeld.2.2.1)))))))))),((cell_far (p:=⟨gb178,_,none⟩) (Y47) _).trans (((cell_far (p:=⟨gb178,_,none⟩) (Y47) _).trans (((cell_far (p:=⟨gb178,_,none⟩) (Y47) _).trans (((cell_far (p:=⟨gb178,_,none⟩) (Y47) _).trans (((cell_far (p:=⟨gb178,_,none⟩) (Y47) _).trans (hHeld.2.2.2.1)))))))))),((cell_far (p:=⟨gb178,_,none⟩) (Y48) _).trans (((cell_far (p:=⟨gb178,_,none⟩) (Y48) _).trans (((cell_far (p:=⟨gb178,_,none⟩) (Y48) _).trans (((cell_far (p:=⟨gb178,_,none⟩) (Y48) _).trans (((cell_far (p:=⟨gb178,_,none⟩) (Y48) _).trans (hHeld.2.2.2.2.1)))))))))),((cell_far (p:=⟨gb178,_,none⟩) (Y49) _).trans (((cell_far (p:=⟨gb178,_,none⟩) (Y49) _).trans (((cell_far (p:=⟨gb178,_,none⟩) (Y49) _).trans (((cell_far (p:=⟨gb178,_,none⟩) (Y49) _).trans (((cell_far (p:=⟨gb178,_,none⟩) (Y49) _).trans (hHeld.2.2.2.2.2.1)))))))))),((cell_far (p:=⟨gb178,_,none⟩) (Y50) _).trans (((cell_far (p:=⟨gb178,_,none⟩) (Y50) _).trans (((cell_far (p:=⟨gb178,_,none⟩) (Y50) _).trans (((cell_far (p:=⟨gb178,_,none⟩) (Y50) _).trans (((cell_far (p:=⟨gb178,_,none⟩) (Y50) _).trans (hHeld.2.2.2.2.2.2))))))))))⟩ (fun hHeld=>?_)
        clear hK K
        refine done_ (jic HT_.out (by kernel_rfl)) ?_
        have hnb37:=NB178_160.out
        have hnc37:=NB160_178.out
        have hnb38:=NB178_161.out
        have hnc38:=NB161_178.out
        have hnb39:=NB178_174.out
        have hnc39:=NB174_178.out
        have hcz40_0:=bc0 BK178.out
        have hcz40_1:=bc1 BK178.out
        have hcz40_2:=bc2 BK178.out
        have hcz40_3:=bc3 BK178.out
        have hcz40_4:w31.cell? ⟨gb178,4,none⟩=some (.bool false):=(jr BK178.out 4).trans rfl
        have hfz40_0:=jb BK178.out 0
        have hfz40_1:=jb BK178.out 1
        have hfz40_2:=jb BK178.out 2
        have hfz40_3:=jb BK178.out 3
        have hfz40_4:=jb BK178.out 4
        generalize jd l0_0 (rd t168 x8_1)=xx9 at *
        try go_wp2_with (first |((with_reducible refine jE (f:=70) rfl ?_);refine gL (some 34) Try.func70 #[.slice (some ad176) t168.length co29, .int .i64 (xx9.f2)] ?_;(with_reducible refine (jBa.calls k1 _ _ t168 (xx9.f2) t179 _ ?side1 ?side2 A26.out).mono ?_);(case side1=>refine (Kd.jq (e:=3) (base:=w.heap.size) (ok:=fun k_=>True) (n:=t168.length) (c:=co29) ?_).2.2;exact (by (with_reducible repeat (first | apply Kd.jM | apply Kd.jL | apply Kd.jQ));exact (Kd.jI (Kd.jya (p:=⟨gb178,4,none⟩) (Kd.jya (p:=⟨gb178,3,none⟩) (Kd.jya (p:=⟨gb178,2,none⟩) (Kd.jya (p:=⟨gb178,1,none⟩) (Kd.jya (p:=⟨gb178,0,none⟩) (Kd.jwa HO_6.out BK178.out (by decide)) (fun _ hk=>hk.2) (.int .i64 (xx9.f0))) (fun _ hk=>hk.2) (.int .i64 (xx9.f1))) (fun _ hk=>hk.2) (.int .i64 (xx9.f2))) (fun _ hk=>hk.2) (.int .i64 (xx9.f3))) (fun _ hk=>hk.2) (.bool (xx9.f4))) (fun _ h_=>h_.1))));(case side2=>exact (Kd.jq HO_6.out).2.1);rintro e w' ⟨rfl,⟨nd,rfl⟩⟩;refine ⟨_,rfl,?_⟩) |((with_reducible refine jE (f:=70) rfl ?_);refine gL (some 39) Try.func70 #[.slice (some ad176) t168.length co29, .int .i64 (xx9.f3)] ?_;(with_reducible refine (jBa.calls k1 _ _ t168 (xx9.f3) t180 _ ?side1 ?side2 A27.out).mono ?_);(case side1=>refine (Kd.jq (e:=3) (base:=w.heap.size) (ok:=fun k_=>True) (n:=t168.length) (c:=co29) ?_).2.2;exact (by (with_reducible repeat (first | apply Kd.jM | apply Kd.jL | apply Kd.jQ));exact (Kd.jI (Kd.jya (p:=⟨gb178,2,none⟩) (Kd.jya (p:=⟨gb178,4,none⟩) (Kd.jya (p:=⟨gb178,3,none⟩) (Kd.jya (p:=⟨gb178,2,none⟩) (Kd.jya (p:=⟨gb178,1,none⟩) (Kd.jya (p:=⟨gb178,0,none⟩) (Kd.jwa HO_6.out BK178.out (by decide)) (fun _ hk=>hk.2) (.int .i64 (xx9.f0))) (fun _ hk=>hk.2) (.int .i64 (xx9.f1))) (fun _ hk=>hk.2) (.int .i64 (xx9.f2))) (fun _ hk=>hk.2) (.int .i64 (xx9.f3))) (fun _ hk=>hk.2) (.bool (xx9.f4))) (fun _ hk=>hk.2) (.int .i64 t179)) (fun _ h_=>h_.1))));(case side2=>exact (Kd.jq HO_6.out).2.1);rintro e w' ⟨rfl,⟨nd,rfl⟩⟩;refine ⟨_,rfl,?_⟩;have hnb41:=NB174_160.out;have hnc41:=NB160_174.out;have hnb42:=NB174_161.out;have hnc42:=NB161_174.out;have hcz43_0:=bc0 BK174.out;have hfz43_0:=jb BK174.out 0) |((with_reducible refine jJb (b:=.append) (xs:=#[.tmp 42, .tmp 44]) rfl ?_);at_builtin;refine Kd.R_append k54 (w0:=w) w.heap.size rfl (.tmp 42) (.tmp 44) 30 54 (.agg #[(.int .i64 0),(.int .i64 0),(.int .i64 0),(.int .i64 0),(.bool false)]) 40 rfl Try.underlying30 info54 rfl (by decide) (by omega) u175000 x175000_1 (⟨xx9.f0,xx9.f1,t179,t180,xx9.f4⟩:S54) [.int .i64 (xx9.f0), .int .i64 (xx9.f1), .int .i64 t179, .int .i64 t180, .bool (xx9.f4)] (fun k_=>k_≠gb178) (fun _=>False) rfl (Y3) ?aP (fun _ hk=>hk.elim) ?aF ?aO ?aB ?aS ?aL ?_;(case aP=>exact jpc _ _ _ (⟨xx9.f0,xx9.f1,t179,t180,xx9.f4⟩:S54));(case aB=>exact (Y99));(case aF=>exact (fun k_ hk=>Kd.freshB (g:=gb178) (o:=.cells #[.int .i64 (xx9.f0), .int .i64 (xx9.f1), .int .i64 t179, .int .i64 t180, .bool (xx9.f4)] 54 (0,0)) (Y118) k_ hk));(case aO=>(refine Kd.jI (ok:=fun k=>True∧k≠gb178) ?_ (fun _ hk=>hk.2));(with_reducible refine Kd.jya ?_ (fun _ hk=>hk.2) _);(with_reducible apply Kd.jL);(with_reducible refine Kd.jya ?_ (fun _ hk=>hk.2) _);(with_reducible apply Kd.jL);(with_reducible refine Kd.jya ?_ (fun _ hk=>hk.2) _);(with_reducible refine Kd.jya ?_ (fun _ hk=>hk.2) _);(with_reducible refine Kd.jya ?_ (fun _ hk=>hk.2) _);(with_reducible refine Kd.jya ?_ (fun _ hk=>hk.2) _);(with_reducible refine Kd.jya ?_ (fun _ hk=>hk.2) _);exact HO_175000.out);(case aS=>exact (jA (Y99)));(case aL=>have:=LMc28.out;omega);intro v182 w44 ho hb hg hat;rw [← Ny181.out] at ho;have n0_:=am (Kd.R_over' (e':=54) (d:=Kd.int .i64) (e:=3) (base:=w.heap.size) (ok:=fun k=>True) (u:=.slice (some ad176) t168.length co29) (xs:=t168) (by (refine Kd.jI (ok:=fun k=>True∧k≠gb178) ?_ (fun _ h_=>h_.1));(with_reducible refine Kd.jya ?_ (fun _ hk=>hk.2) _);(with_reducible apply Kd.jL);(with_reducible refine Kd.jya ?_ (fun _ hk=>hk.2) _);(with_reducible apply Kd.jL);(with_reducible refine Kd.jya ?_ (fun _ hk=>hk.2) _);(with_reducible refine Kd.jya ?_ (fun _ hk=>hk.2) _);(with_reducible refine Kd.jya ?_ (fun _ hk=>hk.2) _);(with_reducible refine Kd.jya ?_ (fun _ hk=>hk.2) _);(with_reducible refine Kd.jya ?_ (fun _ hk=>hk.2) _);exact Kd.jwa HO_6.out BK178.out (by decide)) (Kd.jjc (e:=54) (d:=k54) (base:=w.heap.size) (ok:=fun k=>True) (xs:=x175000_1) (by (refine Kd.jI (ok:=fun k=>True∧k≠gb178) ?_ (fun _ h_=>h_.1));(with_reducible refine Kd.jya ?_ (fun _ hk=>hk.2) _);(with_reducible apply Kd.jL);(with_reducible refine Kd.jya ?_ (fun _ hk=>hk.2) _);(with_reducible apply Kd.jL);(with_reducible refine Kd.jya ?_ (fun _ hk=>hk.2) _);(with_reducible refine Kd.jya ?_ (fun _ hk=>hk.2) _);(with_reducible refine Kd.jya ?_ (fun _ hk=>hk.2) _);(with_reducible refine Kd.jya ?_ (fun _ hk=>hk.2) _);(with_reducible refine Kd.jya ?_ (fun _ hk=>hk.2) _);exact HO_175000.out)) (by decide) hg);have n1_:=am (jab (g:=gb160) (o:=.cells #[.slice (some ad177) l0_0.length c0_0] 32 (0,0)) (by (with_reducible repeat (first | refine jf ?_ _ | refine jh ?_ | refine jg ?_ _));refine jO ?_ NB160_178.out _;(with_reducible repeat (first | refine jf ?_ _ | refine jh ?_ | refine jg ?_ _));refine jO ?_ NB160_178.out _;(with_reducible repeat (first | refine jf ?_ _ | refine jh ?_ | refine jg ?_ _));refine jO ?_ NB160_178.out _;(with_reducible repeat (first | refine jf ?_ _ | refine jh ?_ | refine jg ?_ _));refine jO ?_ NB160_178.out _;(with_reducible repeat (first | refine jf ?_ _ | refine jh ?_ | refine jg ?_ _));refine jO ?_ NB160_178.out _;(with_reducible repeat (first | refine jf ?_ _ | refine jh ?_ | refine jg ?_ _));refine jO ?_ NB160_178.out _;(with_reducible repeat (first | refine jf ?_ _ | refine jh ?_ | refine jg ?_ _));refine jO ?_ NB160_178.out _;(with_reducible repeat (first | refine jf ?_ _ | refine jh ?_ | refine jg ?_ _));exact BK160.out) hg (Kd.R_ne HO_175000.out BK160.out (by decide)));have n2_:=am (jab (g:=gb161) (o:=.cells #[.slice none 0 0] 32 (0,0)) (by (with_reducible repeat (first | refine jf ?_ _ | refine jh ?_ | refine jg ?_ _));refine jO ?_ NB161_178.out _;(with_reducible repeat (first | refine jf ?_ _ | refine jh ?_ | refine jg ?_ _));refine jO ?_ NB161_178.out _;(with_reducible repeat (first | refine jf ?_ _ | refine jh ?_ | refine jg ?_ _));refine jO ?_ NB161_178.out _;(with_reducible repeat (first | refine jf ?_ _ | refine jh ?_ | refine jg ?_ _));refine jO ?_ NB161_178.out _;(with_reducible repeat (first | refine jf ?_ _ | refine jh ?_ | refine jg ?_ _));refine jO ?_ NB161_178.out _;(with_reducible repeat (first | refine jf ?_ _ | refine jh ?_ | refine jg ?_ _));refine jO ?_ NB161_178.out _;(with_reducible repeat (first | refine jf ?_ _ | refine jh ?_ | refine jg ?_ _));refine jO ?_ NB161_178.out _;(with_reducible repeat (first | refine jf ?_ _ | refine jh ?_ | refine jg ?_ _));exact BK161.out) hg (Kd.R_ne HO_175000.out BK161.out (by decide)));have n3_:=am (jab (g:=gb174) (o:=.cells #[u175000] 32 (0,0)) (by (with_reducible repeat (first | refine jf ?_ _ | refine jh ?_ | refine jg ?_ _));refine jO ?_ NB174_178.out _;(with_reducible repeat (first | refine jf ?_ _ | refine jh ?_ | refine jg ?_ _));refine jO ?_ NB174_178.out _;(with_reducible repeat (first | refine jf ?_ _ | refine jh ?_ | refine jg ?_ _));refine jO ?_ NB174_178.out _;(with_reducible repeat (first | refine jf ?_ _ | refine jh ?_ | refine jg ?_ _));refine jO ?_ NB174_178.out _;(with_reducible repeat (first | refine jf ?_ _ | refine jh ?_ | refine jg ?_ _));refine jO ?_ NB174_178.out _;(with_reducible repeat (first | refine jf ?_ _ | refine jh ?_ | refine jg ?_ _));refine jO ?_ NB174_178.out _;(with_reducible repeat (first | refine jf ?_ _ | refine jh ?_ | refine jg ?_ _));refine jO ?_ NB174_178.out _;(with_reducible repeat (first | refine jf ?_ _ | refine jh ?_ | refine jg ?_ _));exact BK174.out) hg (Kd.R_ne HO_175000.out BK174.out (by decide)));have n4_:=am (jab (g:=gb178) (o:=.cells #[.int .i64 (xx9.f0), .int .i64 (xx9.f1), .int .i64 t179, .int .i64 t180, .bool (xx9.f4)] 54 (0,0)) (Y118) hg (Kd.R_away HO_175000.out (fun _ hk=>hk.2)));have n5_:=am (hb);have n6_:=am (ho);clear HO_6 BK160 BK161 BK174 BK178 HB HO_175000;have HO_6:=n0_;have BK160:=n1_;have BK161:=n2_;have BK174:=n3_;have BK178:=n4_;have HB:=n5_;have HO183:=n6_;clear n0_ n1_ n2_ n3_ n4_ n5_ n6_ ho hb hg hat;obtain ⟨Ao45,co45,eo45⟩:=Kd.jca HO183.out;subst eo45;have hcz46_0:=bc0 BK174.out;have hfz46_0:=jb BK174.out 0))
        go_roundg k1
        case measure=>have:=HK1.out;omega
        case rel=>exact ⟨(wrap64 (x8_1+1)),(y181),(.slice Ao45 y181.length co45),(sq),H',⟨by have:=HK1.out;omega⟩,⟨by (with_reducible repeat (first | apply Kd.jM | apply Kd.jL | apply Kd.jQ));exact Kd.jI (Kd.jya (p:=⟨gb174,0,none⟩) (Kd.jwa HO_6.out BK174.out (by decide)) (fun _ hk=>hk.2) (.slice Ao45 y181.length co45)) (fun _ hk=>trivial)⟩,⟨by (with_reducible repeat (first | apply Kd.jM | apply Kd.jL | apply Kd.jQ));exact Kd.jI (Kd.jya (p:=⟨gb174,0,none⟩) (Kd.jwa HO183.out BK174.out (by decide)) (fun _ hk=>hk.2) (.slice Ao45 y181.length co45)) (fun _ hk=>trivial)⟩,⟨by (with_reducible repeat (first | refine jf ?_ _ | refine jh ?_ | refine jg ?_ _));refine jO ?_ NB160_174.out _;(with_reducible repeat (first | refine jf ?_ _ | refine jh ?_ | refine jg ?_ _));exact BK160.out⟩,⟨by (with_reducible repeat (first | refine jf ?_ _ | refine jh ?_ | refine jg ?_ _));refine jO ?_ NB161_174.out _;(with_reducible repeat (first | refine jf ?_ _ | refine jh ?_ | refine jg ?_ _));exact BK161.out⟩,⟨by (with_reducible repeat (first | refine jf ?_ _ | refine jh ?_ | refine jg ?_ _));refine jza (cs:=#[u175000]) ?_ 0 _ rfl;(with_reducible repeat (first | refine jf ?_ _ | refine jh ?_ | refine jg ?_ _));exact BK174.out⟩,⟨Y99⟩⟩
       ·rw [if_neg c28] at H
        exact absurd H (by simp)
      ·rw [if_neg c25] at H
       exact absurd H (by simp)
     ·rw [if_neg c24] at H
      exact absurd H (by simp)
    ·rw [if_neg c23] at H
     exact absurd H (by simp)
   ·rw [if_neg c22] at H
    have c22b0:decide (x8_1<(t168.length:Int))=false:=dzF c22
    clear c22
    replace H:=bzS H
    obtain ⟨t175,A470,H⟩:=H
    replace H:(some (x175000_1,t175))=some (r1,r2):=H
    have A47:=am A470
    clear A470
    simp only [Option.some.injEq,Prod.mk.injEq] at H
    obtain ⟨rfl,rfl⟩:=H
    obtain ⟨Ao48,co48,eo48⟩:=Kd.jca HO_6.out
    subst eo48
    try go_wp2
    replace HO_6:=am (Kd.jQ HO_6.out)
    replace HO_175000:=am (Kd.jQ HO_175000.out)
    replace BK160:=am (jh BK160.out)
    replace BK161:=am (jh BK161.out)
    replace BK174:=am (jh BK174.out)
    replace HB:=am (jm HB.out)
    refine jdc (n:=6) (S:=fun w'=>w'.cell? ⟨gb174,0,none⟩=some (u175000)) (ds:=[]) #[false,false,false,false,false,false] (by kernel_rfl) rfl rfl ((jr BK174.out 0).trans rfl) (fun hHeld=>?_)
    generalize wr.drew=w49 at HO_6 HO_175000 BK160 BK161 BK174 HB hHeld ⊢
    refine pure_ (i:=1) (N:=some 48) (v:=?_) (a':=?_) #[false,true,false,false,false,false] rfl rfl (by kernel_rfl) (fun _ _ _ h=>h) (Or.inl ⟨by rfl,?_⟩) ?_ ?_
    rotate_left
    ·exact sb
    rotate_left
    ·exact sa
    refine pure_ (i:=2) (N:=some 49) (v:=?_) (a':=?_) #[false,true,true,false,false,false] rfl rfl (by kernel_rfl) (fun _ _ _ h=>h) (Or.inl ⟨by rfl,?_⟩) ?_ ?_
    rotate_left
    ·exact sb
    rotate_left
    ·exact sa
    refine jCb (i:=0) (N:=some 47) (v:=?_) (a':=?_) #[true,true,true,false,false,false] rfl rfl (by kernel_rfl) (fun _ _ _ h=>h) (Or.inl ⟨by rfl,?_⟩) hHeld ?_ ?_
    rotate_left
    ·intro w' s0
     go_simp
     with_reducible rfl
    rotate_left
    ·exact sa
    refine one_ (i:=3) (N:=some 50) #[true,true,true,true,false,false] rfl rfl (by kernel_rfl) (by decide) (fun K hK=>?_)
    refine jDb Try.func70 (by kernel_rfl) rfl #[.slice Ao48 t168.length co48, .int .i64 a1] (by rfl) rfl rfl (aq) ?_
    with_reducible refine (jBa.calls k1 _ _ t168 a1 t175 _ ?side1 ?side2 A47.out).mono ?_
    (case side1=>exact cq (Kd.jq HO_6.out).2.2)
    (case side2=>exact (Kd.jq HO_6.out).2.1)
    rintro e w' ⟨rfl,⟨nd,rfl⟩⟩
    refine ⟨_,rfl,?_⟩
    obtain ⟨Ao50,co50,eo50⟩:=Kd.jca HO_175000.out
    (first | subst eo50 |(injection eo50 with f1_ f2_ f3_;have f4_:=f1_.symm;have f5_:=f3_.symm;clear f1_ f2_ f3_;subst f4_;subst f5_))
    refine hK.out _ _ ((jr BK174.out 0).trans rfl) (fun hHeld=>?_)
    clear hK K
    refine jYa (a':=?_) ?_ ?_
    rotate_left
    ·show Act.put _ (some 50) _=_
     simp only [Act.put,List.setIfInBounds_toArray,List.set_cons_zero,List.set_cons_succ,jZa,jdb]
     rfl
    refine one_ (i:=4) (N:=none) #[true,true,true,true,true,false] rfl rfl (by kernel_rfl) (by decide) (fun K hK=>?_)
    have hs51:w49.cell? ⟨gb161,0,none⟩=some (.slice none 0 0):=(jr BK161.out 0).trans rfl
    have hfs51:=jb BK161.out 0
    have hns51_0:=NB160_161.out
    have hns51_2:=NB174_161.out
    have hms51_0:=NB161_160.out
    have hms51_2:=NB161_174.out
    refine skip_ (w1:=?_) (by rfl) rfl ?_ ?_
    rotate_left
    ·go_simp
     rfl
    refine hK.out _ _ (((cell_far (p:=⟨gb161,_,none⟩) NB174_161.out _).trans (hHeld))) (fun hHeld=>?_)
    clear hK K
    refine pure_ (i:=5) (N:=some 5) (v:=?_) (a':=?_) #[true,true,true,true,true,true] rfl rfl (by kernel_rfl) (fun _ _ _ h=>h) (Or.inl ⟨by rfl,?_⟩) ?_ ?_
    rotate_left
    ·exact sb
    rotate_left
    ·exact sa
    refine done_ (by kernel_rfl) ?_
    try go_wp2
    refine bodyPost_ret (jZb rfl _ _ gb161 32 #[.slice Ao50 x175000_1.length co50] (0,0) _ rfl (by (with_reducible repeat (first | refine jf ?_ _ | refine jh ?_ | refine jg ?_ _));refine jza (cs:=#[.slice none 0 0]) ?_ 0 _ rfl;(with_reducible repeat (first | refine jf ?_ _ | refine jh ?_ | refine jg ?_ _));exact BK161.out) Try.underlying32 rfl (by kernel_rfl)) rfl ?_
    exact ⟨_,Y1,by (with_reducible repeat (first | apply Kd.jM | apply Kd.jL | apply Kd.jQ));exact Kd.jI (Kd.jya (p:=⟨gb161,0,none⟩) (Kd.jwa HO_175000.out BK161.out (by decide)) (fun _ hk=>hk.2) (.slice Ao50 x175000_1.length co50)) (fun _ hk=>trivial),Y98⟩
def jua.f (k : Nat) (l0_0 : List (S94)) (l1_0 : List (S54)) (a2 : Int) : Option ((List (S54)) × Int) := (jeb.f k l0_0 l1_0 a2).bind fun t187 => (if t187 = true then ((jS.f k l1_0 a2).bind fun bt188 => (some (bt188.1, bt188.2))) else (some (([] : List (S54)), (-1))))
set_option maxHeartbeats 8000000 in
set_option maxRecDepth 100000 in
theorem jua.calls (k : Nat) (A0_0 : Option Addr) (c0_0 : Nat) (l0_0 : List (S94)) (A1_0 : Option Addr) (c1_0 : Nat) (l1_0 : List (S54)) (a2 : Int) (r1 : List (S54)) (r2 : Int) (w : World) (hr0_0 : Kd.C k94 w A0_0 l0_0.length l0_0) (hc0_0 : l0_0.length ≤ c0_0) (hr1_0 : Kd.C k54 w A1_0 l1_0.length l1_0) (hc1_0 : l1_0.length ≤ c1_0) (h : jua.f k l0_0 l1_0 a2 = some (r1, r2)) :
  Calls Try.prog 11 #[.agg #[.slice A0_0 l0_0.length c0_0], .agg #[.slice A1_0 l1_0.length c1_0], .int .i64 a2] w fun e w'=>∃ v0_:Value,e=.returned (.tuple #[.agg #[v0_], .int .i64 r2])∧Kd.R k54 54 w' w.heap.size (fun _=>True) v0_ r1∧Below w.heap.size w w':=by
 have hu37:=Try.underlying37
 have hu32:=Try.underlying32
 have HR0_0:=am hr0_0
 have HC0_0:=am hc0_0
 clear hr0_0 hc0_0
 have HR1_0:=am hr1_0
 have HC1_0:=am hc1_0
 clear hr1_0 hc1_0
 have HB:=am (Below.refl w.heap.size w)
 have H:((jeb.f k l0_0 l1_0 a2).bind fun t187=>(if t187=true then ((jS.f k l1_0 a2).bind fun bt188=>(some (bt188.1,bt188.2))) else (some (([]:List (S54)),(-1)))))=some (r1,r2):=h
 clear h
 replace H:=bzS H
 obtain ⟨t187,A40,H⟩:=H
 replace H:(if t187=true then ((jS.f k l1_0 a2).bind fun bt188=>(some (bt188.1,bt188.2))) else (some (([]:List (S54)),(-1))))=some (r1,r2):=H
 have A4:=am A40
 clear A40
 by_cases c5:t187=true
 ·subst c5
  have H1:((jS.f k l1_0 a2).bind fun bt188=>(some (bt188.1,bt188.2)))=some (r1,r2):=by rw [if_pos rfl] at H;exact H
  clear H
  have H:=H1
  clear H1
  replace H:=bzS H
  obtain ⟨⟨t188,t191⟩,A60,H⟩:=H
  replace H:(some (t188,t191))=some (r1,r2):=H
  have A6:=am A60
  clear A60
  simp only [Option.some.injEq,Prod.mk.injEq] at H
  obtain ⟨rfl,rfl⟩:=H
  go_enter Try.func11,Try.ntmps11
  go_wp2_with (first |((with_reducible refine jD (N:=3) rfl ?_);refine bE (N:=3) (cs:=#[.slice A0_0 l0_0.length c0_0]) (t:=37) ?_;intro gb184 hg w7 hbox hb;have BK184:=am (hbox);have GW184:=am ((Y0:w.heap.size≤gb184));have GE184:=am ((Y0:w.heap.size≤gb184));replace HB:=am (je (bq) hb);clear hb hbox hg) |((with_reducible refine jD (N:=4) rfl ?_);refine bE (N:=4) (cs:=#[.slice A1_0 l1_0.length c1_0]) (t:=32) ?_;intro gb185 hg w8 hbox hb;have BK185:=am (hbox);have GW185:=am ((Y58:w.heap.size≤gb185));have GE185:=am ((Y58:w.heap.size≤gb185));have NB184_185:=am ((Y59:gb184≠gb185));have NB185_184:=am ((Y60:gb185≠gb184));replace BK184:=am (ja (g:=gb184) (o:=.cells #[.slice A0_0 l0_0.length c0_0] 37 (0,0)) (kq BK184.out) hb);replace HB:=am (je (Y119) hb);clear hb hbox hg) |((with_reducible refine jD (N:=6) rfl ?_);refine bE (N:=6) (cs:=#[.slice none 0 0]) (t:=32) ?_;intro gb186 hg w9 hbox hb;have BK186:=am (hbox);have GW186:=am ((Y61:w.heap.size≤gb186));have GE186:=am ((Y61:w.heap.size≤gb186));have NB184_186:=am ((Y59:gb184≠gb186));have NB186_184:=am ((Y60:gb186≠gb184));have NB185_186:=am ((by rw [hg];exact Nat.ne_of_lt (jP (g:=gb185) (o:=.cells #[.slice A1_0 l1_0.length c1_0] 32 (0,0)) (kq BK185.out)):gb185≠gb186));have NB186_185:=am ((by rw [hg];exact Nat.ne_of_gt (jP (g:=gb185) (o:=.cells #[.slice A1_0 l1_0.length c1_0] 32 (0,0)) (kq BK185.out)):gb186≠gb185));replace BK184:=am (ja (g:=gb184) (o:=.cells #[.slice A0_0 l0_0.length c0_0] 37 (0,0)) (kq BK184.out) hb);replace BK185:=am (ja (g:=gb185) (o:=.cells #[.slice A1_0 l1_0.length c1_0] 32 (0,0)) (kq BK185.out) hb);replace HB:=am (je (Y120) hb);clear hb hbox hg;have hnb10:=NB184_185.out;have hnc10:=NB185_184.out;have hnb11:=NB184_186.out;have hnc11:=NB186_184.out;have hcz12_0:=bc0 BK184.out;have hfz12_0:=jb BK184.out 0;have hnb13:=NB185_186.out;have hnc13:=NB186_185.out;have hcz14_0:=bc0 BK185.out;have hfz14_0:=jb BK185.out 0) |((with_reducible refine jE (f:=41) rfl ?_);refine gL (some 11) Try.func41 #[.agg #[.slice A0_0 l0_0.length c0_0], .agg #[.slice A1_0 l1_0.length c1_0], .int .i64 a2] ?_;(with_reducible refine (jeb.calls k _ _ l0_0 _ _ l1_0 a2 true _ ?side1 ?side2 ?side3 ?side4 A4.out).mono ?_);(case side1=>exact cq (Kd.jK HR0_0.out HB.out));(case side2=>exact HC0_0.out);(case side3=>exact cq (Kd.jK HR1_0.out HB.out));(case side4=>exact HC1_0.out);rintro e w15 ⟨rfl,hb⟩;refine ⟨_,rfl,?_⟩;replace BK184:=am (ja (g:=gb184) (o:=.cells #[.slice A0_0 l0_0.length c0_0] 37 (0,0)) (kq BK184.out) hb);replace BK185:=am (ja (g:=gb185) (o:=.cells #[.slice A1_0 l1_0.length c1_0] 32 (0,0)) (kq BK185.out) hb);replace BK186:=am (ja (g:=gb186) (o:=.cells #[.slice none 0 0] 32 (0,0)) (kq BK186.out) hb);replace HB:=am (je (Y35) hb);(try clear hb);(try clear hb2);(try clear hk);(try clear hi);have hcz16_0:=bc0 BK185.out;have hfz16_0:=jb BK185.out 0) |((with_reducible refine jE (f:=42) rfl ?_);refine gL (some 16) Try.func42 #[.agg #[.slice A1_0 l1_0.length c1_0], .int .i64 a2] ?_;(with_reducible refine (jS.calls k _ _ l1_0 a2 t188 t191 _ ?side1 ?side2 A6.out).mono ?_);(case side1=>exact cq (Kd.jK HR1_0.out HB.out));(case side2=>exact HC1_0.out);rintro e w17 ⟨v189,rfl,ho0,hb⟩;refine ⟨_,rfl,?_⟩;have HO190:=am (Kd.jna ho0 (jA (Y35)));replace BK184:=am (ja (g:=gb184) (o:=.cells #[.slice A0_0 l0_0.length c0_0] 37 (0,0)) (kq BK184.out) hb);replace BK185:=am (ja (g:=gb185) (o:=.cells #[.slice A1_0 l1_0.length c1_0] 32 (0,0)) (kq BK185.out) hb);replace BK186:=am (ja (g:=gb186) (o:=.cells #[.slice none 0 0] 32 (0,0)) (kq BK186.out) hb);replace HB:=am (je (Y35) hb);(try clear hb);(try clear hb2);(try clear hk);(try clear hi);(try clear ho0);obtain ⟨Ao18,co18,eo18⟩:=Kd.jca HO190.out;subst eo18;have hcz19_0:=bc0 BK186.out;have hfz19_0:=jb BK186.out 0))
  refine bodyPost_ret (jZb rfl _ _ gb186 32 #[.slice Ao18 t188.length co18] (0,0) _ rfl (Y121) Try.underlying32 rfl (by kernel_rfl)) rfl ?_
  exact ⟨_,Y1,by (with_reducible repeat (first | apply Kd.jM | apply Kd.jL | apply Kd.jQ));exact Kd.jI (Kd.jya (p:=⟨gb186,0,none⟩) (Kd.jwa HO190.out BK186.out (by decide)) (fun _ hk=>hk.2) (.slice Ao18 t188.length co18)) (fun _ hk=>trivial),Y35⟩
 ·replace c5:=Bool.eq_false_iff.mpr c5
  subst c5
  have H1:(some (([]:List (S54)),(-1)))=some (r1,r2):=by rw [if_neg (show ¬ (false=true) by decide)] at H;exact H
  clear H
  have H:=H1
  clear H1
  simp only [Option.some.injEq,Prod.mk.injEq] at H
  obtain ⟨rfl,rfl⟩:=H
  go_enter Try.func11,Try.ntmps11
  go_wp2_with (first |((with_reducible refine jD (N:=3) rfl ?_);refine bE (N:=3) (cs:=#[.slice A0_0 l0_0.length c0_0]) (t:=37) ?_;intro gb184 hg w20 hbox hb;have BK184:=am (hbox);have GW184:=am ((Y0:w.heap.size≤gb184));have GE184:=am ((Y0:w.heap.size≤gb184));replace HB:=am (je (bq) hb);clear hb hbox hg) |((with_reducible refine jD (N:=4) rfl ?_);refine bE (N:=4) (cs:=#[.slice A1_0 l1_0.length c1_0]) (t:=32) ?_;intro gb185 hg w21 hbox hb;have BK185:=am (hbox);have GW185:=am ((Y58:w.heap.size≤gb185));have GE185:=am ((Y58:w.heap.size≤gb185));have NB184_185:=am ((Y59:gb184≠gb185));have NB185_184:=am ((Y60:gb185≠gb184));replace BK184:=am (ja (g:=gb184) (o:=.cells #[.slice A0_0 l0_0.length c0_0] 37 (0,0)) (kq BK184.out) hb);replace HB:=am (je (Y119) hb);clear hb hbox hg) |((with_reducible refine jD (N:=6) rfl ?_);refine bE (N:=6) (cs:=#[.slice none 0 0]) (t:=32) ?_;intro gb186 hg w22 hbox hb;have BK186:=am (hbox);have GW186:=am ((Y61:w.heap.size≤gb186));have GE186:=am ((Y61:w.heap.size≤gb186));have NB184_186:=am ((Y59:gb184≠gb186));have NB186_184:=am ((Y60:gb186≠gb184));have NB185_186:=am ((by rw [hg];exact Nat.ne_of_lt (jP (g:=gb185) (o:=.cells #[.slice A1_0 l1_0.length c1_0] 32 (0,0)) (kq BK185.out)):gb185≠gb186));have NB186_185:=am ((by rw [hg];exact Nat.ne_of_gt (jP (g:=gb185) (o:=.cells #[.slice A1_0 l1_0.length c1_0] 32 (0,0)) (kq BK185.out)):gb186≠gb185));replace BK184:=am (ja (g:=gb184) (o:=.cells #[.slice A0_0 l0_0.length c0_0] 37 (0,0)) (kq BK184.out) hb);replace BK185:=am (ja (g:=gb185) (o:=.cells #[.slice A1_0 l1_0.length c1_0] 32 (0,0)) (kq BK185.out) hb);replace HB:=am (je (Y120) hb);clear hb hbox hg;have hnb23:=NB184_185.out;have hnc23:=NB185_184.out;have hnb24:=NB184_186.out;have hnc24:=NB186_184.out;have hcz25_0:=bc0 BK184.out;have hfz25_0:=jb BK184.out 0;have hnb26:=NB185_186.out;have hnc26:=NB186_185.out;have hcz27_0:=bc0 BK185.out;have hfz27_0:=jb BK185.out 0) |((with_reducible refine jE (f:=41) rfl ?_);refine gL (some 11) Try.func41 #[.agg #[.slice A0_0 l0_0.length c0_0], .agg #[.slice A1_0 l1_0.length c1_0], .int .i64 a2] ?_;(with_reducible refine (jeb.calls k _ _ l0_0 _ _ l1_0 a2 false _ ?side1 ?side2 ?side3 ?side4 A4.out).mono ?_);(case side1=>exact cq (Kd.jK HR0_0.out HB.out));(case side2=>exact HC0_0.out);(case side3=>exact cq (Kd.jK HR1_0.out HB.out));(case side4=>exact HC1_0.out);rintro e w28 ⟨rfl,hb⟩;refine ⟨_,rfl,?_⟩;replace BK184:=am (ja (g:=gb184) (o:=.cells #[.slice A0_0 l0_0.length c0_0] 37 (0,0)) (kq BK184.out) hb);replace BK185:=am (ja (g:=gb185) (o:=.cells #[.slice A1_0 l1_0.length c1_0] 32 (0,0)) (kq BK185.out) hb);replace BK186:=am (ja (g:=gb186) (o:=.cells #[.slice none 0 0] 32 (0,0)) (kq BK186.out) hb);replace HB:=am (je (Y35) hb);(try clear hb);(try clear hb2);(try clear hk);(try clear hi);have hcz29_0:=bc0 BK186.out;have hfz29_0:=jb BK186.out 0))
  refine bodyPost_ret (jZb rfl _ _ gb186 32 #[.slice none 0 0] (0,0) _ rfl (Y121) Try.underlying32 rfl (by kernel_rfl)) rfl ?_
  exact ⟨_,Y1,Y122,Y35⟩
def jVb.f (a0_0 : ByteArray) (a0_1 : Int) : Option (ByteArray × Int) := some (a0_0, a0_1)
set_option maxHeartbeats 8000000 in
set_option maxRecDepth 100000 in
theorem jVb.calls (a0_0 : ByteArray) (a0_1 : Int) (r1 : ByteArray) (r2 : Int) (w : World) (h : jVb.f a0_0 a0_1 = some (r1, r2)) :
  Calls Try.prog 71 #[.agg #[.string a0_0, .int .i64 a0_1]] w fun e w'=>e=.returned (.agg #[.string r1, .int .i64 r2])∧Below w.heap.size w w':=by
 have hu92:=Try.underlying92
 have hu94:=Try.underlying94
 have HB:=am (Below.refl w.heap.size w)
 have H:(some (a0_0,a0_1))=some (r1,r2):=h
 clear h
 simp only [Option.some.injEq,Prod.mk.injEq] at H
 obtain ⟨rfl,rfl⟩:=H
 go_enter Try.func71,Try.ntmps71
 go_wp2_with (first |((with_reducible refine jD (N:=1) rfl ?_);refine bE (N:=1) (cs:=#[.string a0_0, .int .i64 a0_1]) (t:=92) ?_;intro gb192 hg w2 hbox hb;have BK192:=am (hbox);have GW192:=am ((Y0:w.heap.size≤gb192));have GE192:=am ((Y0:w.heap.size≤gb192));replace HB:=am (je (bq) hb);clear hb hbox hg) |((with_reducible refine jD (N:=2) rfl ?_);refine bE (N:=2) (cs:=#[.string (⟨#[]⟩:ByteArray), .int .i64 0]) (t:=94) ?_;intro gb193 hg w3 hbox hb;have BK193:=am (hbox);have GW193:=am ((Y123:w.heap.size≤gb193));have GE193:=am ((Y123:w.heap.size≤gb193));have NB192_193:=am ((by rw [hg];exact Nat.ne_of_lt (jP (g:=gb192) (o:=.cells #[.string a0_0, .int .i64 a0_1] 92 (0,0)) (kq BK192.out)):gb192≠gb193));have NB193_192:=am ((by rw [hg];exact Nat.ne_of_gt (jP (g:=gb192) (o:=.cells #[.string a0_0, .int .i64 a0_1] 92 (0,0)) (kq BK192.out)):gb193≠gb192));replace BK192:=am (ja (g:=gb192) (o:=.cells #[.string a0_0, .int .i64 a0_1] 92 (0,0)) (kq BK192.out) hb);replace HB:=am (je (by repeat (first |(with_reducible first | exact HB.out | apply jo | apply jl | apply jm | refine jk ?_ GE192.out) | exact HB.out)) hb);clear hb hbox hg) |((with_reducible refine jD (N:=3) rfl ?_);refine bE (N:=3) (cs:=#[.string (⟨#[]⟩:ByteArray), .int .i64 0]) (t:=94) ?_;intro gb194 hg w4 hbox hb;have BK194:=am (hbox);have GW194:=am ((Y124:w.heap.size≤gb194));have GE194:=am ((Y124:w.heap.size≤gb194));have NB192_194:=am ((by rw [hg];exact Nat.ne_of_lt (jP (g:=gb192) (o:=.cells #[.string a0_0, .int .i64 a0_1] 92 (0,0)) (kq BK192.out)):gb192≠gb194));have NB194_192:=am ((by rw [hg];exact Nat.ne_of_gt (jP (g:=gb192) (o:=.cells #[.string a0_0, .int .i64 a0_1] 92 (0,0)) (kq BK192.out)):gb194≠gb192));have NB193_194:=am ((by rw [hg];exact Nat.ne_of_lt (jP (g:=gb193) (o:=.cells #[.string (⟨#[]⟩:ByteArray), .int .i64 0] 94 (0,0)) (kq BK193.out)):gb193≠gb194));have NB194_193:=am ((by rw [hg];exact Nat.ne_of_gt (jP (g:=gb193) (o:=.cells #[.string (⟨#[]⟩:ByteArray), .int .i64 0] 94 (0,0)) (kq BK193.out)):gb194≠gb193));replace BK192:=am (ja (g:=gb192) (o:=.cells #[.string a0_0, .int .i64 a0_1] 92 (0,0)) (kq BK192.out) hb);replace BK193:=am (ja (g:=gb193) (o:=.cells #[.string (⟨#[]⟩:ByteArray), .int .i64 0] 94 (0,0)) (kq BK193.out) hb);replace HB:=am (je (by repeat (first |(with_reducible first | exact HB.out | apply jo | apply jl | apply jm | refine jk ?_ GE192.out | refine jk ?_ GE193.out) | exact HB.out)) hb);clear hb hbox hg;have hnb5:=NB192_193.out;have hnc5:=NB193_192.out;have hnb6:=NB192_194.out;have hnc6:=NB194_192.out;have hcz7_0:=bc0 BK192.out;have hcz7_1:=bc1 BK192.out;have hfz7_0:=jb BK192.out 0;have hfz7_1:=jb BK192.out 1;have hnb8:=NB194_193.out;have hnc8:=NB193_194.out;have hcz9_0:=bc0 BK194.out;have hcz9_1:=bc1 BK194.out;have hfz9_0:=jb BK194.out 0;have hfz9_1:=jb BK194.out 1;have hcz10_0:=bc0 BK193.out;have hcz10_1:=bc1 BK193.out;have hfz10_0:=jb BK193.out 0;have hfz10_1:=jb BK193.out 1))
 refine bodyPost_ret (results_cell_row rfl _ _ gb193 94 #[.string a0_0, .int .i64 a0_1] (0,0) _ rfl (by (with_reducible repeat (first | refine jf ?_ _ | refine jh ?_ | refine jg ?_ _));refine jza (cs:=#[.string a0_0, .int .i64 0]) ?_ 1 _ rfl;(with_reducible repeat (first | refine jf ?_ _ | refine jh ?_ | refine jg ?_ _));refine jza (cs:=#[.string (⟨#[]⟩:ByteArray), .int .i64 0]) ?_ 0 _ rfl;(with_reducible repeat (first | refine jf ?_ _ | refine jh ?_ | refine jg ?_ _));refine jO ?_ NB193_194.out _;(with_reducible repeat (first | refine jf ?_ _ | refine jh ?_ | refine jg ?_ _));refine jO ?_ NB193_194.out _;(with_reducible repeat (first | refine jf ?_ _ | refine jh ?_ | refine jg ?_ _));exact BK193.out) Try.underlying94 rfl (by kernel_rfl)) rfl ?_
 exact ⟨Y1,by repeat (first |(with_reducible first | exact HB.out | apply jo | apply jl | apply jm | refine jk ?_ GE192.out | refine jk ?_ GE193.out | refine jk ?_ GE194.out) | exact HB.out)⟩
end Go.Proofs.Ytecdfgejmbpclaa.P
end
