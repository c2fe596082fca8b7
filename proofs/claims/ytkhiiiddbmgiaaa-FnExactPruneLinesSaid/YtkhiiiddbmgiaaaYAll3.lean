/- One part of the proofs on this program: functions of the program as plain functions, that the code comes to them, and facts on them. -/
import Derived.Test.YtkhiiiddbmgiaaaYAll1
import Derived.Test.YtkhiiiddbmgiaaaYAll2
import Derived.Test.YtkhiiiddbmgiaaaYWAuto
section
namespace Go.Proofs.Ytkhiiiddbmgiaaa.P
open Go.RowKit Go.Proofs.YtkhiiiddbmgiaaaW.PrintWords Go.Proofs.YtkhiiiddbmgiaaaW.PrintLast Go.Proofs.YtkhiiiddbmgiaaaW.PrintMore
attribute [local go_sem] jca jaa jpa joa jS jR jba jZ jg
set_option linter.unusedVariables false
set_option linter.unusedSimpArgs false
mutual
def jm.l0 : Nat → List (S78) → Int → Int → List (S78) → Option (Bool)
 | 0,_,_,_,_=>none
 | k+1,x6,x7,x8,x205000=>if x8<x7 then (if 0≤x8 then (if x8<(x6.length:Int) then ((jwa.f k ((jF x6 x8).f0)).bind fun t208=>(if t208=true then ((jza.f x205000 ((jF x6 x8).f0)).bind fun t209=>(if t209=x8 then (if x8=0 then (if ((jF x6 x8).f1)=(-1) then (if x8 > 0 then ((jB.f ((jF x6 x8).f1) 0 (wrap64 (x8 - 1))).bind fun t210=>(jm.j1 k x6 x7 x8 (!t210) x205000)) else (jm.j1 k x6 x7 x8 false x205000)) else (jm.j1 k x6 x7 x8 true x205000)) else (if x8 > 0 then ((jB.f ((jF x6 x8).f1) 0 (wrap64 (x8 - 1))).bind fun t211=>(jm.j1 k x6 x7 x8 (!t211) x205000)) else (jm.j1 k x6 x7 x8 false x205000))) else (jm.j1 k x6 x7 x8 true x205000))) else (jm.j1 k x6 x7 x8 true x205000))) else (none)) else (none)) else ((jB.f (x205000.length:Int) 1 8).bind fun t205=>(some t205))
def jm.j1 : Nat → List (S78) → Int → Int → Bool → List (S78) → Option (Bool)
 | 0,_,_,_,_,_=>none
 | k+1,x6,x7,x8,x45,x205000=>if x45=true then (some false) else (jm.l0 k x6 x7 (wrap64 (x8+1)) x205000)
end
def jm.f (k : Nat) (l0_0 : List (S78)) : Option (Bool) := jm.l0 k l0_0 (l0_0.length : Int) 0 l0_0
set_option maxHeartbeats 8000000 in
set_option maxRecDepth 100000 in
theorem jm.calls (k : Nat) (A0_0 : Option Addr) (c0_0 : Nat) (l0_0 : List (S78)) (r : Bool) (w : World) (hr0_0 : Kd.C k78 w A0_0 l0_0.length l0_0) (hc0_0 : l0_0.length ≤ c0_0) (h : jm.f k l0_0 = some r) :
  Calls Try.prog 51 #[.agg #[.slice A0_0 l0_0.length c0_0]] w fun e w'=>e=.returned (.bool r)∧Below w.heap.size w w':=by
 have hu32:=Try.underlying32
 have hu78:=Try.underlying78
 have HR0_0:=am hr0_0
 have HC0_0:=am hc0_0
 clear hr0_0 hc0_0
 have HB:=am (Below.refl w.heap.size w)
 have H:(jm.l0 k l0_0 (l0_0.length:Int) 0 l0_0)=some r:=h
 clear h
 have H':=am H
 clear H
 go_enter Try.func51,Try.ntmps51
 go_wp2_with (first |((with_reducible refine jO (N:=1) rfl ?_);refine bE (N:=1) (cs:=#[.slice A0_0 l0_0.length c0_0]) (t:=32) ?_;intro gb204 hg w2 hbox hb;have BK204:=am (hbox);have GW204:=am ((Y1:w.heap.size≤gb204));have GE204:=am ((Y1:w.heap.size≤gb204));replace HB:=am (jd (bq) hb);clear hb hbox hg;have hcz3_0:=bc0 BK204.out;have hfz3_0:=ja BK204.out 0))
 go_loopg [8] k (fun kq v8 w'=>∃ (x8_1:Int),v8=.int .i64 x8_1∧jv (jm.l0 kq l0_0 (l0_0.length:Int) x8_1 l0_0=some r)∧jv (kq≤k)∧jv (w'.heap[gb204]?=some (.cells #[(.slice A0_0 l0_0.length c0_0)] 32 (0,0)))∧jv (Below w.heap.size w w'))
 case atStart=>exact ⟨(0),(sq),H',⟨Nat.le_refl _⟩,⟨kq BK204.out⟩,⟨Y27⟩⟩
 case round =>
  clear H'
  try clear p2
  try clear hcz3_0
  try clear hfz3_0
  obtain ⟨x8_1,rfl,HA,HK1,BK204,HB⟩:=hrel
  cases gk with
  | zero=>exact absurd HA.out (by simp [jm.l0])
  | succ k1 =>
   have H:=HA.out
   clear HA
   simp only [jm.l0] at H
   by_cases c4:x8_1<(l0_0.length:Int)
   ·rw [if_pos c4] at H
    have c4b0:decide (x8_1<(l0_0.length:Int))=true:=dzT c4
    clear c4
    by_cases c5:0≤x8_1
    ·rw [if_pos c5] at H
     have c5b0:decide (0≤x8_1)=true:=dzT c5
     clear c5
     by_cases c6:x8_1<(l0_0.length:Int)
     ·rw [if_pos c6] at H
      have c6b0:decide (x8_1<(l0_0.length:Int))=true:=dzT c6
      clear c6
      have HC7:=am H
      clear H
      have p206:0≤(x8_1:Int):=ozD (uq)
      have q206:x8_1<(l0_0.length:Int):=ozD (uq)
      obtain ⟨ad206,e206,hx206_0,hx206_1⟩:=at_T78 HR0_0.out x8_1 p206 q206
      cases e206
      replace hx206_0:=cb HB.out hx206_0
      replace hx206_1:=cb HB.out hx206_1
      replace p206:=ezT p206
      replace q206:=ezT q206
      go_upto_region 4 with (first |((with_reducible refine jO (N:=4) rfl ?_);refine bE (N:=4) (cs:=#[.string (⟨#[]⟩:ByteArray), .int .i64 0]) (t:=78) ?_;intro gb207 hg w8 hbox hb;have BK207:=am (hbox);have GW207:=am ((Y43:w.heap.size≤gb207));have GE207:=am ((Y43:w.heap.size≤gb207));have NB204_207:=am ((by rw [hg];exact Nat.ne_of_lt (jHa (g:=gb204) (o:=.cells #[.slice (some ad206) l0_0.length c0_0] 32 (0,0)) (kq BK204.out)):gb204≠gb207));have NB207_204:=am ((by rw [hg];exact Nat.ne_of_gt (jHa (g:=gb204) (o:=.cells #[.slice (some ad206) l0_0.length c0_0] 32 (0,0)) (kq BK204.out)):gb207≠gb204));replace BK204:=am (jl (g:=gb204) (o:=.cells #[.slice (some ad206) l0_0.length c0_0] 32 (0,0)) (kq BK204.out) hb);replace HB:=am (jd (Y27) hb);clear hb hbox hg;have hnb9:=NB207_204.out;have hnc9:=NB204_207.out;have hcz10_0:=bc0 BK207.out;have hcz10_1:=bc1 BK207.out;have hfz10_0:=ja BK207.out 0;have hfz10_1:=ja BK207.out 1))
      (try simp only [Act.put,List.setIfInBounds_toArray,List.set_cons_zero,List.set_cons_succ])
      go_cut [45] (fun v45 wc=>∃ (kq:Nat) (x45_6:Bool),v45=.bool x45_6∧jv (jm.j1 kq l0_0 (l0_0.length:Int) x8_1 x45_6 l0_0=some r)∧jv (kq≤k1)∧jv (wc.heap[gb204]?=some (.cells #[(.slice (some ad206) l0_0.length c0_0)] 32 (0,0)))∧jv (wc.heap[gb207]?=some (.cells #[.string ((jF l0_0 x8_1).f0), .int .i64 ((jF l0_0 x8_1).f1)] 78 (0,0)))∧jv (Below w.heap.size w wc))
      case first =>
       have H:=HC7.out
       clear HC7
       replace H:=bzS H
       obtain ⟨t208,A110,H⟩:=H
       replace H:(if t208=true then ((jza.f l0_0 ((jF l0_0 x8_1).f0)).bind fun t209=>(if t209=x8_1 then (if x8_1=0 then (if ((jF l0_0 x8_1).f1)=(-1) then (if x8_1 > 0 then ((jB.f ((jF l0_0 x8_1).f1) 0 (wrap64 (x8_1 - 1))).bind fun t210=>(jm.j1 k1 l0_0 (l0_0.length:Int) x8_1 (!t210) l0_0)) else (jm.j1 k1 l0_0 (l0_0.length:Int) x8_1 false l0_0)) else (jm.j1 k1 l0_0 (l0_0.length:Int) x8_1 true l0_0)) else (if x8_1 > 0 then ((jB.f ((jF l0_0 x8_1).f1) 0 (wrap64 (x8_1 - 1))).bind fun t211=>(jm.j1 k1 l0_0 (l0_0.length:Int) x8_1 (!t211) l0_0)) else (jm.j1 k1 l0_0 (l0_0.length:Int) x8_1 false l0_0))) else (jm.j1 k1 l0_0 (l0_0.length:Int) x8_1 true l0_0))) else (jm.j1 k1 l0_0 (l0_0.length:Int) x8_1 true l0_0))=some r:=H
       have A11:=am A110
       clear A110
       by_cases c12:t208=true
       ·subst c12
        have H1:((jza.f l0_0 ((jF l0_0 x8_1).f0)).bind fun t209=>(if t209=x8_1 then (if x8_1=0 then (if ((jF l0_0 x8_1).f1)=(-1) then (if x8_1 > 0 then ((jB.f ((jF l0_0 x8_1).f1) 0 (wrap64 (x8_1 - 1))).bind fun t210=>(jm.j1 k1 l0_0 (l0_0.length:Int) x8_1 (!t210) l0_0)) else (jm.j1 k1 l0_0 (l0_0.length:Int) x8_1 false l0_0)) else (jm.j1 k1 l0_0 (l0_0.length:Int) x8_1 true l0_0)) else (if x8_1 > 0 then ((jB.f ((jF l0_0 x8_1).f1) 0 (wrap64 (x8_1 - 1))).bind fun t211=>(jm.j1 k1 l0_0 (l0_0.length:Int) x8_1 (!t211) l0_0)) else (jm.j1 k1 l0_0 (l0_0.length:Int) x8_1 false l0_0))) else (jm.j1 k1 l0_0 (l0_0.length:Int) x8_1 true l0_0)))=some r:=by rw [if_pos rfl] at H;exact H
        clear H
        have H:=H1
        clear H1
        replace H:=bzS H
        obtain ⟨t209,A130,H⟩:=H
        replace H:(if t209=x8_1 then (if x8_1=0 then (if ((jF l0_0 x8_1).f1)=(-1) then (if x8_1 > 0 then ((jB.f ((jF l0_0 x8_1).f1) 0 (wrap64 (x8_1 - 1))).bind fun t210=>(jm.j1 k1 l0_0 (l0_0.length:Int) x8_1 (!t210) l0_0)) else (jm.j1 k1 l0_0 (l0_0.length:Int) x8_1 false l0_0)) else (jm.j1 k1 l0_0 (l0_0.length:Int) x8_1 true l0_0)) else (if x8_1 > 0 then ((jB.f ((jF l0_0 x8_1).f1) 0 (wrap64 (x8_1 - 1))).bind fun t211=>(jm.j1 k1 l0_0 (l0_0.length:Int) x8_1 (!t211) l0_0)) else (jm.j1 k1 l0_0 (l0_0.length:Int) x8_1 false l0_0))) else (jm.j1 k1 l0_0 (l0_0.length:Int) x8_1 true l0_0))=some r:=H
        have A13:=am A130
        clear A130
        by_cases c14:t209=x8_1
        ·rw [if_pos c14] at H
         have c14b0:(t209 == x8_1)=true:=beq_iff_eq.mpr c14
         have c14b1:(t209 != x8_1)=false:=bne_eq_false_iff_eq.mpr c14
         clear c14
         (first | rw [c14b0] |(simp only [jnb,jrb];rw [c14b0]) | skip)
         by_cases c15:x8_1=0
         ·rw [if_pos c15] at H
          have c15b0:(x8_1 == 0)=true:=beq_iff_eq.mpr c15
          have c15b1:(x8_1 != 0)=false:=bne_eq_false_iff_eq.mpr c15
          clear c15
          by_cases c16:((jF l0_0 x8_1).f1)=(-1)
          ·rw [if_pos c16] at H
           have c16b0:(((jF l0_0 x8_1).f1) == (-1))=true:=beq_iff_eq.mpr c16
           have c16b1:(((jF l0_0 x8_1).f1) != (-1))=false:=bne_eq_false_iff_eq.mpr c16
           clear c16
           by_cases c17:x8_1 > 0
           ·rw [if_pos c17] at H
            have c17b0:decide (0<x8_1)=true:=dzT c17
            clear c17
            replace H:=bzS H
            obtain ⟨t210,A180,H⟩:=H
            replace H:(jm.j1 k1 l0_0 (l0_0.length:Int) x8_1 (!t210) l0_0)=some r:=H
            have A18:=am A180
            clear A180
            have H':=am H
            clear H
            have hnb19:=NB207_204.out
            have hnc19:=NB204_207.out
            have hcz20_0:=bc0 BK207.out
            have hcz20_1:=bc1 BK207.out
            have hfz20_0:=ja BK207.out 0
            have hfz20_1:=ja BK207.out 1
            go_wp2_with (first |((with_reducible refine jf (f:=78) rfl ?_);refine gL (some 15) Try.func78 #[.string ((jF l0_0 x8_1).f0)] ?_;(with_reducible refine (jwa.calls k1 ((jF l0_0 x8_1).f0) true _ A11.out).mono ?_);rintro e w' ⟨rfl,⟨nd,rfl⟩⟩;refine ⟨_,rfl,?_⟩;have hcz21_0:=bc0 BK204.out;have hfz21_0:=ja BK204.out 0) |(go_at_call 79;(with_reducible refine (jza.calls _ _ l0_0 ((jF l0_0 x8_1).f0) t209 _ ?side1 ?side2 A13.out).mono ?_);(case side1=>exact Kd.jJ HR0_0.out (Y4));(case side2=>exact HC0_0.out);rintro e w22 ⟨rfl,hb⟩;replace BK204:=am (jl (g:=gb204) (o:=.cells #[.slice (some ad206) l0_0.length c0_0] 32 (0,0)) (Y15) hb);replace BK207:=am (jl (g:=gb207) (o:=.cells #[.string ((jF l0_0 x8_1).f0), .int .i64 ((jF l0_0 x8_1).f1)] 78 (0,0)) (Y16) hb);replace HB:=am (jd (Y4) hb);(try clear hb);(try clear hb2);(try clear hk);(try clear hi);have hcz23_0:=bc0 BK207.out;have hcz23_1:=bc1 BK207.out;have hfz23_0:=ja BK207.out 0;have hfz23_1:=ja BK207.out 1) |(go_at_call 53;(with_reducible refine (jB.calls ((jF l0_0 x8_1).f1) 0 (wrap64 (x8_1 - 1)) t210 _ A18.out).mono ?_);rintro e w' ⟨rfl,⟨nd,rfl⟩⟩))
            go_meet
            case rel=>exact ⟨_,(!t210),(sq),H',⟨by have:=HK1.out;first | omega | exact Nat.le_refl _⟩,⟨kq BK204.out⟩,⟨kq BK207.out⟩,⟨Y4⟩⟩
           ·rw [if_neg c17] at H
            have c17b0:decide (0<x8_1)=false:=dzF c17
            clear c17
            have H':=am H
            clear H
            have hnb24:=NB207_204.out
            have hnc24:=NB204_207.out
            have hcz25_0:=bc0 BK207.out
            have hcz25_1:=bc1 BK207.out
            have hfz25_0:=ja BK207.out 0
            have hfz25_1:=ja BK207.out 1
            go_wp2_with (first |((with_reducible refine jf (f:=78) rfl ?_);refine gL (some 15) Try.func78 #[.string ((jF l0_0 x8_1).f0)] ?_;(with_reducible refine (jwa.calls k1 ((jF l0_0 x8_1).f0) true _ A11.out).mono ?_);rintro e w' ⟨rfl,⟨nd,rfl⟩⟩;refine ⟨_,rfl,?_⟩;have hcz26_0:=bc0 BK204.out;have hfz26_0:=ja BK204.out 0) |(go_at_call 79;(with_reducible refine (jza.calls _ _ l0_0 ((jF l0_0 x8_1).f0) t209 _ ?side1 ?side2 A13.out).mono ?_);(case side1=>exact Kd.jJ HR0_0.out (Y4));(case side2=>exact HC0_0.out);rintro e w27 ⟨rfl,hb⟩;replace BK204:=am (jl (g:=gb204) (o:=.cells #[.slice (some ad206) l0_0.length c0_0] 32 (0,0)) (Y15) hb);replace BK207:=am (jl (g:=gb207) (o:=.cells #[.string ((jF l0_0 x8_1).f0), .int .i64 ((jF l0_0 x8_1).f1)] 78 (0,0)) (Y16) hb);replace HB:=am (jd (Y4) hb);(try clear hb);(try clear hb2);(try clear hk);(try clear hi);have hcz28_0:=bc0 BK207.out;have hcz28_1:=bc1 BK207.out;have hfz28_0:=ja BK207.out 0;have hfz28_1:=ja BK207.out 1))
            go_meet
            case rel=>exact ⟨_,(false),(sq),H',⟨by have:=HK1.out;first | omega | exact Nat.le_refl _⟩,⟨kq BK204.out⟩,⟨kq BK207.out⟩,⟨Y4⟩⟩
          ·rw [if_neg c16] at H
           have c16b0:(((jF l0_0 x8_1).f1) == (-1))=false:=beq_eq_false_iff_ne.mpr c16
           have c16b1:(((jF l0_0 x8_1).f1) != (-1))=true:=bne_iff_ne.mpr c16
           have H':=am H
           clear H
           have hnb29:=NB207_204.out
           have hnc29:=NB204_207.out
           have hcz30_0:=bc0 BK207.out
           have hcz30_1:=bc1 BK207.out
           have hfz30_0:=ja BK207.out 0
           have hfz30_1:=ja BK207.out 1
           go_wp2_with (first |((with_reducible refine jf (f:=78) rfl ?_);refine gL (some 15) Try.func78 #[.string ((jF l0_0 x8_1).f0)] ?_;(with_reducible refine (jwa.calls k1 ((jF l0_0 x8_1).f0) true _ A11.out).mono ?_);rintro e w' ⟨rfl,⟨nd,rfl⟩⟩;refine ⟨_,rfl,?_⟩;have hcz31_0:=bc0 BK204.out;have hfz31_0:=ja BK204.out 0) |(go_at_call 79;(with_reducible refine (jza.calls _ _ l0_0 ((jF l0_0 x8_1).f0) t209 _ ?side1 ?side2 A13.out).mono ?_);(case side1=>exact Kd.jJ HR0_0.out (Y4));(case side2=>exact HC0_0.out);rintro e w32 ⟨rfl,hb⟩;replace BK204:=am (jl (g:=gb204) (o:=.cells #[.slice (some ad206) l0_0.length c0_0] 32 (0,0)) (Y15) hb);replace BK207:=am (jl (g:=gb207) (o:=.cells #[.string ((jF l0_0 x8_1).f0), .int .i64 ((jF l0_0 x8_1).f1)] 78 (0,0)) (Y16) hb);replace HB:=am (jd (Y4) hb);(try clear hb);(try clear hb2);(try clear hk);(try clear hi);have hcz33_0:=bc0 BK207.out;have hcz33_1:=bc1 BK207.out;have hfz33_0:=ja BK207.out 0;have hfz33_1:=ja BK207.out 1))
           go_meet
           case rel=>exact ⟨_,(true),(sq),H',⟨by have:=HK1.out;first | omega | exact Nat.le_refl _⟩,⟨kq BK204.out⟩,⟨kq BK207.out⟩,⟨Y4⟩⟩
         ·rw [if_neg c15] at H
          have c15b0:(x8_1 == 0)=false:=beq_eq_false_iff_ne.mpr c15
          have c15b1:(x8_1 != 0)=true:=bne_iff_ne.mpr c15
          by_cases c34:x8_1 > 0
          ·rw [if_pos c34] at H
           have c34b0:decide (0<x8_1)=true:=dzT c34
           clear c34
           replace H:=bzS H
           obtain ⟨t211,A350,H⟩:=H
           replace H:(jm.j1 k1 l0_0 (l0_0.length:Int) x8_1 (!t211) l0_0)=some r:=H
           have A35:=am A350
           clear A350
           have H':=am H
           clear H
           have hnb36:=NB207_204.out
           have hnc36:=NB204_207.out
           have hcz37_0:=bc0 BK207.out
           have hcz37_1:=bc1 BK207.out
           have hfz37_0:=ja BK207.out 0
           have hfz37_1:=ja BK207.out 1
           go_wp2_with (first |((with_reducible refine jf (f:=78) rfl ?_);refine gL (some 15) Try.func78 #[.string ((jF l0_0 x8_1).f0)] ?_;(with_reducible refine (jwa.calls k1 ((jF l0_0 x8_1).f0) true _ A11.out).mono ?_);rintro e w' ⟨rfl,⟨nd,rfl⟩⟩;refine ⟨_,rfl,?_⟩;have hcz38_0:=bc0 BK204.out;have hfz38_0:=ja BK204.out 0) |(go_at_call 79;(with_reducible refine (jza.calls _ _ l0_0 ((jF l0_0 x8_1).f0) t209 _ ?side1 ?side2 A13.out).mono ?_);(case side1=>exact Kd.jJ HR0_0.out (Y4));(case side2=>exact HC0_0.out);rintro e w39 ⟨rfl,hb⟩;replace BK204:=am (jl (g:=gb204) (o:=.cells #[.slice (some ad206) l0_0.length c0_0] 32 (0,0)) (Y15) hb);replace BK207:=am (jl (g:=gb207) (o:=.cells #[.string ((jF l0_0 x8_1).f0), .int .i64 ((jF l0_0 x8_1).f1)] 78 (0,0)) (Y16) hb);replace HB:=am (jd (Y4) hb);(try clear hb);(try clear hb2);(try clear hk);(try clear hi);have hcz40_0:=bc0 BK207.out;have hcz40_1:=bc1 BK207.out;have hfz40_0:=ja BK207.out 0;have hfz40_1:=ja BK207.out 1) |(go_at_call 53;(with_reducible refine (jB.calls ((jF l0_0 x8_1).f1) 0 (wrap64 (x8_1 - 1)) t211 _ A35.out).mono ?_);rintro e w' ⟨rfl,⟨nd,rfl⟩⟩))
           go_meet
           case rel=>exact ⟨_,(!t211),(sq),H',⟨by have:=HK1.out;first | omega | exact Nat.le_refl _⟩,⟨kq BK204.out⟩,⟨kq BK207.out⟩,⟨Y4⟩⟩
          ·rw [if_neg c34] at H
           have c34b0:decide (0<x8_1)=false:=dzF c34
           clear c34
           have H':=am H
           clear H
           have hnb41:=NB207_204.out
           have hnc41:=NB204_207.out
           have hcz42_0:=bc0 BK207.out
           have hcz42_1:=bc1 BK207.out
           have hfz42_0:=ja BK207.out 0
           have hfz42_1:=ja BK207.out 1
           go_wp2_with (first |((with_reducible refine jf (f:=78) rfl ?_);refine gL (some 15) Try.func78 #[.string ((jF l0_0 x8_1).f0)] ?_;(with_reducible refine (jwa.calls k1 ((jF l0_0 x8_1).f0) true _ A11.out).mono ?_);rintro e w' ⟨rfl,⟨nd,rfl⟩⟩;refine ⟨_,rfl,?_⟩;have hcz43_0:=bc0 BK204.out;have hfz43_0:=ja BK204.out 0) |(go_at_call 79;(with_reducible refine (jza.calls _ _ l0_0 ((jF l0_0 x8_1).f0) t209 _ ?side1 ?side2 A13.out).mono ?_);(case side1=>exact Kd.jJ HR0_0.out (Y4));(case side2=>exact HC0_0.out);rintro e w44 ⟨rfl,hb⟩;replace BK204:=am (jl (g:=gb204) (o:=.cells #[.slice (some ad206) l0_0.length c0_0] 32 (0,0)) (Y15) hb);replace BK207:=am (jl (g:=gb207) (o:=.cells #[.string ((jF l0_0 x8_1).f0), .int .i64 ((jF l0_0 x8_1).f1)] 78 (0,0)) (Y16) hb);replace HB:=am (jd (Y4) hb);(try clear hb);(try clear hb2);(try clear hk);(try clear hi)))
           go_meet
           case rel=>exact ⟨_,(false),(sq),H',⟨by have:=HK1.out;first | omega | exact Nat.le_refl _⟩,⟨kq BK204.out⟩,⟨kq BK207.out⟩,⟨Y4⟩⟩
        ·rw [if_neg c14] at H
         have c14b0:(t209 == x8_1)=false:=beq_eq_false_iff_ne.mpr c14
         have c14b1:(t209 != x8_1)=true:=bne_iff_ne.mpr c14
         (first | rw [c14b0] |(simp only [jnb,jrb];rw [c14b0]) | skip)
         have H':=am H
         clear H
         have hnb45:=NB207_204.out
         have hnc45:=NB204_207.out
         have hcz46_0:=bc0 BK207.out
         have hcz46_1:=bc1 BK207.out
         have hfz46_0:=ja BK207.out 0
         have hfz46_1:=ja BK207.out 1
         go_wp2_with (first |((with_reducible refine jf (f:=78) rfl ?_);refine gL (some 15) Try.func78 #[.string ((jF l0_0 x8_1).f0)] ?_;(with_reducible refine (jwa.calls k1 ((jF l0_0 x8_1).f0) true _ A11.out).mono ?_);rintro e w' ⟨rfl,⟨nd,rfl⟩⟩;refine ⟨_,rfl,?_⟩;have hcz47_0:=bc0 BK204.out;have hfz47_0:=ja BK204.out 0) |(go_at_call 79;(with_reducible refine (jza.calls _ _ l0_0 ((jF l0_0 x8_1).f0) t209 _ ?side1 ?side2 A13.out).mono ?_);(case side1=>exact Kd.jJ HR0_0.out (Y4));(case side2=>exact HC0_0.out);rintro e w48 ⟨rfl,hb⟩;replace BK204:=am (jl (g:=gb204) (o:=.cells #[.slice (some ad206) l0_0.length c0_0] 32 (0,0)) (Y15) hb);replace BK207:=am (jl (g:=gb207) (o:=.cells #[.string ((jF l0_0 x8_1).f0), .int .i64 ((jF l0_0 x8_1).f1)] 78 (0,0)) (Y16) hb);replace HB:=am (jd (Y4) hb);(try clear hb);(try clear hb2);(try clear hk);(try clear hi)))
         go_meet
         case rel=>exact ⟨_,(true),(sq),H',⟨by have:=HK1.out;first | omega | exact Nat.le_refl _⟩,⟨kq BK204.out⟩,⟨kq BK207.out⟩,⟨Y4⟩⟩
       ·replace c12:=Bool.eq_false_iff.mpr c12
        subst c12
        have H1:(jm.j1 k1 l0_0 (l0_0.length:Int) x8_1 true l0_0)=some r:=by rw [if_neg (show ¬ (false=true) by decide)] at H;exact H
        clear H
        have H:=H1
        clear H1
        have H':=am H
        clear H
        have hnb49:=NB207_204.out
        have hnc49:=NB204_207.out
        have hcz50_0:=bc0 BK207.out
        have hcz50_1:=bc1 BK207.out
        have hfz50_0:=ja BK207.out 0
        have hfz50_1:=ja BK207.out 1
        go_wp2_with (first |((with_reducible refine jf (f:=78) rfl ?_);refine gL (some 15) Try.func78 #[.string ((jF l0_0 x8_1).f0)] ?_;(with_reducible refine (jwa.calls k1 ((jF l0_0 x8_1).f0) false _ A11.out).mono ?_);rintro e w' ⟨rfl,⟨nd,rfl⟩⟩;refine ⟨_,rfl,?_⟩))
        go_meet
        case rel=>exact ⟨_,(true),(sq),H',⟨by have:=HK1.out;first | omega | exact Nat.le_refl _⟩,⟨by (with_reducible repeat (first | refine jU ?_ _ | refine jna ?_ | refine jga ?_ _));refine jwb ?_ NB204_207.out _;(with_reducible repeat (first | refine jU ?_ _ | refine jna ?_ | refine jga ?_ _));refine jwb ?_ NB204_207.out _;(with_reducible repeat (first | refine jU ?_ _ | refine jna ?_ | refine jga ?_ _));exact BK204.out⟩,⟨by (with_reducible repeat (first | refine jU ?_ _ | refine jna ?_ | refine jga ?_ _));refine jvb (cs:=#[.string ((jF l0_0 x8_1).f0), .int .i64 0]) ?_ 1 _ rfl;(with_reducible repeat (first | refine jU ?_ _ | refine jna ?_ | refine jga ?_ _));refine jvb (cs:=#[.string (⟨#[]⟩:ByteArray), .int .i64 0]) ?_ 0 _ rfl;(with_reducible repeat (first | refine jU ?_ _ | refine jna ?_ | refine jga ?_ _));exact BK207.out⟩,⟨Y4⟩⟩
      case rest =>
       clear HC7
       try clear c1
       try clear c2
       try clear p2
       try clear q2
       try clear hx2
       try clear c3
       try clear c4
       try clear c4b0
       try clear c5
       try clear c5b0
       try clear c6
       try clear c6b0
       try clear p6
       try clear c7
       try clear c9
       try clear c12
       try clear c14
       try clear c14b0
       try clear c14b1
       try clear c15
       try clear c15b0
       try clear c15b1
       try clear c16
       try clear c16b0
       try clear c16b1
       try clear c17
       try clear c17b0
       try clear c19
       try clear p20
       try clear q20
       try clear hx20
       try clear c24
       try clear c29
       try clear c34
       try clear c34b0
       try clear c36
       try clear c41
       try clear c45
       try clear c49
       try clear hcz10_0
       try clear hcz10_1
       try clear hcz20_0
       try clear hcz20_1
       try clear hcz21_0
       try clear hcz23_0
       try clear hcz23_1
       try clear hcz25_0
       try clear hcz25_1
       try clear hcz26_0
       try clear hcz28_0
       try clear hcz28_1
       try clear hcz30_0
       try clear hcz30_1
       try clear hcz31_0
       try clear hcz33_0
       try clear hcz33_1
       try clear hcz37_0
       try clear hcz37_1
       try clear hcz38_0
       try clear hcz3_0
       try clear hcz40_0
       try clear hcz40_1
       try clear hcz42_0
       try clear hcz42_1
       try clear hcz43_0
       try clear hcz46_0
       try clear hcz46_1
       try clear hcz47_0
       try clear hcz50_0
       try clear hcz50_1
       try clear hfz10_0
       try clear hfz10_1
       try clear hfz20_0
       try clear hfz20_1
       try clear hfz21_0
       try clear hfz23_0
       try clear hfz23_1
       try clear hfz25_0
       try clear hfz25_1
       try clear hfz26_0
       try clear hfz28_0
       try clear hfz28_1
       try clear hfz30_0
       try clear hfz30_1
       try clear hfz31_0
       try clear hfz33_0
       try clear hfz33_1
       try clear hfz37_0
       try clear hfz37_1
       try clear hfz38_0
       try clear hfz3_0
       try clear hfz40_0
       try clear hfz40_1
       try clear hfz42_0
       try clear hfz42_1
       try clear hfz43_0
       try clear hfz46_0
       try clear hfz46_1
       try clear hfz47_0
       try clear hfz50_0
       try clear hfz50_1
       try clear hx206_0
       try clear hx206_1
       try clear p2
       try clear p206
       try clear q206
       obtain ⟨kq,x45_6,rfl,HA,HJ6,BK204,BK207,HB⟩:=hcut
       cases kq with
       | zero=>exact absurd HA.out (by simp [jm.j1])
       | succ kj6 =>
        have H:=HA.out
        clear HA
        simp only [jm.j1] at H
        by_cases c51:x45_6=true
        ·subst c51
         have H1:(some false)=some r:=by rw [if_pos rfl] at H;exact H
         clear H
         have H:=H1
         clear H1
         obtain rfl:=Option.some.inj H
         go_wp2
         go_ret
         exact ⟨Y0,Y4⟩
        ·replace c51:=Bool.eq_false_iff.mpr c51
         subst c51
         have H1:(jm.l0 kj6 l0_0 (l0_0.length:Int) (wrap64 (x8_1+1)) l0_0)=some r:=by rw [if_neg (show ¬ (false=true) by decide)] at H;exact H
         clear H
         have H:=H1
         clear H1
         have H':=am H
         clear H
         go_wp2
         go_roundg kj6
         case measure=>have:=HK1.out;have:=HJ6.out;omega
         case rel=>exact ⟨(wrap64 (x8_1+1)),(sq),H',⟨by have:=HK1.out;have:=HJ6.out;omega⟩,⟨kq BK204.out⟩,⟨Y4⟩⟩
     ·rw [if_neg c6] at H
      exact absurd H (by simp)
    ·rw [if_neg c5] at H
     exact absurd H (by simp)
   ·rw [if_neg c4] at H
    have c4b0:decide (x8_1<(l0_0.length:Int))=false:=dzF c4
    clear c4
    replace H:=bzS H
    obtain ⟨t205,A520,H⟩:=H
    replace H:(some t205)=some r:=H
    have A52:=am A520
    clear A520
    obtain rfl:=Option.some.inj H
    have hcz53_0:=bc0 BK204.out
    have hfz53_0:=ja BK204.out 0
    go_wp2_with (first |((with_reducible refine jf (f:=53) rfl ?_);refine gL (some 50) Try.func53 #[.int .i64 (l0_0.length:Int), .int .i64 1, .int .i64 8] ?_;(with_reducible refine (jB.calls (l0_0.length:Int) 1 8 t205 _ A52.out).mono ?_);rintro e w' ⟨rfl,⟨nd,rfl⟩⟩;refine ⟨_,rfl,?_⟩))
    go_ret
    exact ⟨Y0,Y27⟩
def jMa.f (a0 : Int) : Option (Bool) := (jB.f a0 0 99).bind fun t212 => (some t212)
set_option maxHeartbeats 8000000 in
set_option maxRecDepth 100000 in
theorem jMa.calls (a0 : Int) (r : Bool) (w : World) (h : jMa.f a0 = some r) :
  Calls Try.prog 80 #[.int .i64 a0] w fun e w'=>e=.returned (.bool r)∧jEa w w':=by
 have H:((jB.f a0 0 99).bind fun t212=>(some t212))=some r:=h
 clear h
 replace H:=bzS H
 obtain ⟨t212,A20,H⟩:=H
 replace H:(some t212)=some r:=H
 have A2:=am A20
 clear A20
 obtain rfl:=Option.some.inj H
 go_enter Try.func80,Try.ntmps80
 go_wp2_with (first |((with_reducible refine jf (f:=53) rfl ?_);refine gL (some 4) Try.func53 #[.int .i64 a0, .int .i64 0, .int .i64 99] ?_;(with_reducible refine (jB.calls a0 0 99 t212 _ A2.out).mono ?_);rintro e w' ⟨rfl,⟨nd,rfl⟩⟩;refine ⟨_,rfl,?_⟩))
 go_ret
 exact ⟨sq,Y2⟩
def jJa.f (l0_0 : List (S78)) (a1 : Int) : Option (Bool) := (jB.f a1 0 (wrap64 ((l0_0.length : Int) - 1))).bind fun t214 => (some t214)
set_option maxHeartbeats 8000000 in
set_option maxRecDepth 100000 in
theorem jJa.calls (A0_0 : Option Addr) (c0_0 : Nat) (l0_0 : List (S78)) (a1 : Int) (r : Bool) (w : World) (hr0_0 : Kd.C k78 w A0_0 l0_0.length l0_0) (hc0_0 : l0_0.length ≤ c0_0) (h : jJa.f l0_0 a1 = some r) :
  Calls Try.prog 81 #[.agg #[.slice A0_0 l0_0.length c0_0], .int .i64 a1] w fun e w'=>e=.returned (.bool r)∧Below w.heap.size w w':=by
 have hu32:=Try.underlying32
 have HR0_0:=am hr0_0
 have HC0_0:=am hc0_0
 clear hr0_0 hc0_0
 have HB:=am (Below.refl w.heap.size w)
 have H:((jB.f a1 0 (wrap64 ((l0_0.length:Int) - 1))).bind fun t214=>(some t214))=some r:=h
 clear h
 replace H:=bzS H
 obtain ⟨t214,A30,H⟩:=H
 replace H:(some t214)=some r:=H
 have A3:=am A30
 clear A30
 obtain rfl:=Option.some.inj H
 go_enter Try.func81,Try.ntmps81
 go_wp2_with (first |((with_reducible refine jO (N:=2) rfl ?_);refine bE (N:=2) (cs:=#[.slice A0_0 l0_0.length c0_0]) (t:=32) ?_;intro gb213 hg w4 hbox hb;have BK213:=am (hbox);have GW213:=am ((Y1:w.heap.size≤gb213));have GE213:=am ((Y1:w.heap.size≤gb213));replace HB:=am (jd (bq) hb);clear hb hbox hg;have hcz5_0:=bc0 BK213.out;have hfz5_0:=ja BK213.out 0) |((with_reducible refine jf (f:=53) rfl ?_);refine gL (some 10) Try.func53 #[.int .i64 a1, .int .i64 0, .int .i64 (wrap64 ((l0_0.length:Int) - 1))] ?_;(with_reducible refine (jB.calls a1 0 (wrap64 ((l0_0.length:Int) - 1)) t214 _ A3.out).mono ?_);rintro e w' ⟨rfl,⟨nd,rfl⟩⟩;refine ⟨_,rfl,?_⟩))
 go_ret
 exact ⟨Y0,by repeat (first |(with_reducible first | exact HB.out | apply jD | apply jh | apply jC | refine jA ?_ GE213.out) | exact HB.out)⟩
def jia.j0 : Nat → Int → Bool → Int → Int → Int → Int → List (S78) → Option (Bool)
 | 0,_,_,_,_,_,_,_=>none
 | k+1,x6,x7,x216000,x216001,x216002,x216003,x217000=>if x7=true then ((jMa.f x216002).bind fun t217=>(if t217=true then (some (x216003 == 0)) else (some false))) else (if x6=2 then ((jJa.f x217000 x216002).bind fun t218=>(if t218=true then ((jMa.f x216003).bind fun t219=>(some t219)) else (some false))) else (if x6=8 then ((jJa.f x217000 x216002).bind fun t220=>(if t220=true then (some (x216003 == 0)) else (some false))) else (if x6=11 then ((jB.f x216002 0 9).bind fun t221=>(if t221=true then ((jB.f x216003 0 1).bind fun t222=>(some t222)) else (some false))) else (if x6=12 then ((jB.f x216002 0 3).bind fun t223=>(if t223=true then (some (x216003 == 0)) else (some false))) else ((jB.f x216001 0 12).bind fun t224=>(if t224=true then (if x216002=0 then (some (x216003 == 0)) else (some false)) else (some false)))))))
def jia.f (k : Nat) (a0_0 : Int) (a0_1 : Int) (a0_2 : Int) (a0_3 : Int) (l1_0 : List (S78)) : Option (Bool) := if a0_1 = 1 then (jia.j0 k a0_1 (a0_1 == 1) a0_0 a0_1 a0_2 a0_3 l1_0) else (jia.j0 k a0_1 (a0_1 == 4) a0_0 a0_1 a0_2 a0_3 l1_0)
set_option maxHeartbeats 8000000 in
set_option maxRecDepth 100000 in
theorem jia.calls (k : Nat) (a0_0 : Int) (a0_1 : Int) (a0_2 : Int) (a0_3 : Int) (A1_0 : Option Addr) (c1_0 : Nat) (l1_0 : List (S78)) (r : Bool) (w : World) (hr1_0 : Kd.C k78 w A1_0 l1_0.length l1_0) (hc1_0 : l1_0.length ≤ c1_0) (h : jia.f k a0_0 a0_1 a0_2 a0_3 l1_0 = some r) :
  Calls Try.prog 52 #[.agg #[.int .i64 a0_0, .int .i64 a0_1, .int .i64 a0_2, .int .i64 a0_3], .agg #[.slice A1_0 l1_0.length c1_0]] w fun e w'=>e=.returned (.bool r)∧Below w.heap.size w w':=by
 have hu52:=Try.underlying52
 have hu32:=Try.underlying32
 have HR1_0:=am hr1_0
 have HC1_0:=am hc1_0
 clear hr1_0 hc1_0
 have HB:=am (Below.refl w.heap.size w)
 have H:(if a0_1=1 then (jia.j0 k a0_1 (a0_1 == 1) a0_0 a0_1 a0_2 a0_3 l1_0) else (jia.j0 k a0_1 (a0_1 == 4) a0_0 a0_1 a0_2 a0_3 l1_0))=some r:=h
 clear h
 have HC3:=am H
 clear H
 go_enter Try.func52,Try.ntmps52
 go_upto_if 7 with (first |((with_reducible refine jO (N:=2) rfl ?_);refine bE (N:=2) (cs:=#[.int .i64 a0_0, .int .i64 a0_1, .int .i64 a0_2, .int .i64 a0_3]) (t:=52) ?_;intro gb215 hg w4 hbox hb;have BK215:=am (hbox);have GW215:=am ((Y1:w.heap.size≤gb215));have GE215:=am ((Y1:w.heap.size≤gb215));replace HB:=am (jd (bq) hb);clear hb hbox hg) |((with_reducible refine jO (N:=3) rfl ?_);refine bE (N:=3) (cs:=#[.slice A1_0 l1_0.length c1_0]) (t:=32) ?_;intro gb216 hg w5 hbox hb;have BK216:=am (hbox);have GW216:=am ((Y44:w.heap.size≤gb216));have GE216:=am ((Y44:w.heap.size≤gb216));have NB215_216:=am ((by rw [hg];exact Nat.ne_of_lt (jHa (g:=gb215) (o:=.cells #[.int .i64 a0_0, .int .i64 a0_1, .int .i64 a0_2, .int .i64 a0_3] 52 (0,0)) (kq BK215.out)):gb215≠gb216));have NB216_215:=am ((by rw [hg];exact Nat.ne_of_gt (jHa (g:=gb215) (o:=.cells #[.int .i64 a0_0, .int .i64 a0_1, .int .i64 a0_2, .int .i64 a0_3] 52 (0,0)) (kq BK215.out)):gb216≠gb215));replace BK215:=am (jl (g:=gb215) (o:=.cells #[.int .i64 a0_0, .int .i64 a0_1, .int .i64 a0_2, .int .i64 a0_3] 52 (0,0)) (kq BK215.out) hb);replace HB:=am (jd (by repeat (first |(with_reducible first | exact HB.out | apply jD | apply jh | apply jC | refine jA ?_ GE215.out) | exact HB.out)) hb);clear hb hbox hg;have hnb6:=NB215_216.out;have hnc6:=NB216_215.out;have hcz7_0:=bc0 BK215.out;have hcz7_1:=bc1 BK215.out;have hcz7_2:=bc2 BK215.out;have hcz7_3:=bc3 BK215.out;have hfz7_0:=ja BK215.out 0;have hfz7_1:=ja BK215.out 1;have hfz7_2:=ja BK215.out 2;have hfz7_3:=ja BK215.out 3))
 (try simp only [Act.put,List.setIfInBounds_toArray,List.set_cons_zero,List.set_cons_succ])
 go_cut [7] (fun v7 wc=>∃ (kq:Nat) (x7_2:Bool),v7=.bool x7_2∧jv (jia.j0 kq a0_1 x7_2 a0_0 a0_1 a0_2 a0_3 l1_0=some r)∧jv (kq≤k)∧jv (wc.heap[gb215]?=some (.cells #[.int .i64 a0_0, .int .i64 a0_1, .int .i64 a0_2, .int .i64 a0_3] 52 (0,0)))∧jv (wc.heap[gb216]?=some (.cells #[(.slice A1_0 l1_0.length c1_0)] 32 (0,0)))∧jv (Below w.heap.size w wc))
 case first =>
  have H:=HC3.out
  clear HC3
  by_cases c8:a0_1=1
  ·rw [if_pos c8] at H
   have c8b0:(a0_1 == 1)=true:=beq_iff_eq.mpr c8
   have c8b1:(a0_1 != 1)=false:=bne_eq_false_iff_eq.mpr c8
   clear c8
   (first | rw [c8b0] |(simp only [jnb,jrb];rw [c8b0]) | skip)
   have H':=am H
   clear H
   go_wp2
   go_meet
   case rel=>exact ⟨_,((a0_1 == 1)),(sq),H',⟨Y14⟩,⟨kq BK215.out⟩,⟨kq BK216.out⟩,⟨Y6⟩⟩
  ·rw [if_neg c8] at H
   have c8b0:(a0_1 == 1)=false:=beq_eq_false_iff_ne.mpr c8
   have c8b1:(a0_1 != 1)=true:=bne_iff_ne.mpr c8
   (first | rw [c8b0] |(simp only [jnb,jrb];rw [c8b0]) | skip)
   have H':=am H
   clear H
   go_wp2
   go_meet
   case rel=>exact ⟨_,((a0_1 == 4)),(sq),H',⟨Y14⟩,⟨kq BK215.out⟩,⟨kq BK216.out⟩,⟨Y6⟩⟩
 case rest =>
  clear HC3
  try clear c1
  try clear p2
  try clear c5
  try clear c6
  try clear c8
  try clear c8b0
  try clear c8b1
  try clear hcz7_0
  try clear hcz7_1
  try clear hcz7_2
  try clear hcz7_3
  try clear hfz7_0
  try clear hfz7_1
  try clear hfz7_2
  try clear hfz7_3
  obtain ⟨kq,x7_2,rfl,HA,HJ2,BK215,BK216,HB⟩:=hcut
  cases kq with
  | zero=>exact absurd HA.out (by simp [jia.j0])
  | succ kj2 =>
   have H:=HA.out
   clear HA
   simp only [jia.j0] at H
   by_cases c9:x7_2=true
   ·subst c9
    have H1:((jMa.f a0_2).bind fun t217=>(if t217=true then (some (a0_3 == 0)) else (some false)))=some r:=by rw [if_pos rfl] at H;exact H
    clear H
    have H:=H1
    clear H1
    replace H:=bzS H
    obtain ⟨t217,A100,H⟩:=H
    replace H:(if t217=true then (some (a0_3 == 0)) else (some false))=some r:=H
    have A10:=am A100
    clear A100
    by_cases c11:t217=true
    ·subst c11
     have H1:(some (a0_3 == 0))=some r:=by rw [if_pos rfl] at H;exact H
     clear H
     have H:=H1
     clear H1
     obtain rfl:=Option.some.inj H
     have hnb12:=NB215_216.out
     have hnc12:=NB216_215.out
     have hcz13_0:=bc0 BK215.out
     have hcz13_1:=bc1 BK215.out
     have hcz13_2:=bc2 BK215.out
     have hcz13_3:=bc3 BK215.out
     have hfz13_0:=ja BK215.out 0
     have hfz13_1:=ja BK215.out 1
     have hfz13_2:=ja BK215.out 2
     have hfz13_3:=ja BK215.out 3
     go_wp2_with (first |((with_reducible refine jf (f:=80) rfl ?_);refine gL (some 12) Try.func80 #[.int .i64 a0_2] ?_;(with_reducible refine (jMa.calls a0_2 true _ A10.out).mono ?_);rintro e w' ⟨rfl,⟨nd,rfl⟩⟩;refine ⟨_,rfl,?_⟩))
     go_ret
     exact ⟨Y0,Y6⟩
    ·replace c11:=Bool.eq_false_iff.mpr c11
     subst c11
     have H1:(some false)=some r:=by rw [if_neg (show ¬ (false=true) by decide)] at H;exact H
     clear H
     have H:=H1
     clear H1
     obtain rfl:=Option.some.inj H
     have hnb14:=NB215_216.out
     have hnc14:=NB216_215.out
     have hcz15_0:=bc0 BK215.out
     have hcz15_1:=bc1 BK215.out
     have hcz15_2:=bc2 BK215.out
     have hcz15_3:=bc3 BK215.out
     have hfz15_0:=ja BK215.out 0
     have hfz15_1:=ja BK215.out 1
     have hfz15_2:=ja BK215.out 2
     have hfz15_3:=ja BK215.out 3
     go_wp2_with (first |((with_reducible refine jf (f:=80) rfl ?_);refine gL (some 12) Try.func80 #[.int .i64 a0_2] ?_;(with_reducible refine (jMa.calls a0_2 false _ A10.out).mono ?_);rintro e w' ⟨rfl,⟨nd,rfl⟩⟩;refine ⟨_,rfl,?_⟩))
     go_ret
     exact ⟨Y0,Y6⟩
   ·replace c9:=Bool.eq_false_iff.mpr c9
    subst c9
    have H1:(if a0_1=2 then ((jJa.f l1_0 a0_2).bind fun t218=>(if t218=true then ((jMa.f a0_3).bind fun t219=>(some t219)) else (some false))) else (if a0_1=8 then ((jJa.f l1_0 a0_2).bind fun t220=>(if t220=true then (some (a0_3 == 0)) else (some false))) else (if a0_1=11 then ((jB.f a0_2 0 9).bind fun t221=>(if t221=true then ((jB.f a0_3 0 1).bind fun t222=>(some t222)) else (some false))) else (if a0_1=12 then ((jB.f a0_2 0 3).bind fun t223=>(if t223=true then (some (a0_3 == 0)) else (some false))) else ((jB.f a0_1 0 12).bind fun t224=>(if t224=true then (if a0_2=0 then (some (a0_3 == 0)) else (some false)) else (some false)))))))=some r:=by rw [if_neg (show ¬ (false=true) by decide)] at H;exact H
    clear H
    have H:=H1
    clear H1
    by_cases c16:a0_1=2
    ·rw [if_pos c16] at H
     have c16b0:(a0_1 == 2)=true:=beq_iff_eq.mpr c16
     have c16b1:(a0_1 != 2)=false:=bne_eq_false_iff_eq.mpr c16
     clear c16
     replace H:=bzS H
     obtain ⟨t218,A170,H⟩:=H
     replace H:(if t218=true then ((jMa.f a0_3).bind fun t219=>(some t219)) else (some false))=some r:=H
     have A17:=am A170
     clear A170
     by_cases c18:t218=true
     ·subst c18
      have H1:((jMa.f a0_3).bind fun t219=>(some t219))=some r:=by rw [if_pos rfl] at H;exact H
      clear H
      have H:=H1
      clear H1
      replace H:=bzS H
      obtain ⟨t219,A190,H⟩:=H
      replace H:(some t219)=some r:=H
      have A19:=am A190
      clear A190
      obtain rfl:=Option.some.inj H
      have hnb20:=NB216_215.out
      have hnc20:=NB215_216.out
      have hcz21_0:=bc0 BK216.out
      have hfz21_0:=ja BK216.out 0
      have hcz22_0:=bc0 BK215.out
      have hcz22_1:=bc1 BK215.out
      have hcz22_2:=bc2 BK215.out
      have hcz22_3:=bc3 BK215.out
      have hfz22_0:=ja BK215.out 0
      have hfz22_1:=ja BK215.out 1
      have hfz22_2:=ja BK215.out 2
      have hfz22_3:=ja BK215.out 3
      go_wp2_with (first |((with_reducible refine jf (f:=81) rfl ?_);refine gL (some 23) Try.func81 #[.agg #[.slice A1_0 l1_0.length c1_0], .int .i64 a0_2] ?_;(with_reducible refine (jJa.calls _ _ l1_0 a0_2 true _ ?side1 ?side2 A17.out).mono ?_);(case side1=>exact cq (Kd.jJ HR1_0.out HB.out));(case side2=>exact HC1_0.out);rintro e w23 ⟨rfl,hb⟩;refine ⟨_,rfl,?_⟩;replace BK215:=am (jl (g:=gb215) (o:=.cells #[.int .i64 a0_0, .int .i64 a0_1, .int .i64 a0_2, .int .i64 a0_3] 52 (0,0)) (kq BK215.out) hb);replace BK216:=am (jl (g:=gb216) (o:=.cells #[.slice A1_0 l1_0.length c1_0] 32 (0,0)) (kq BK216.out) hb);replace HB:=am (jd (Y6) hb);(try clear hb);(try clear hb2);(try clear hk);(try clear hi);have hcz24_0:=bc0 BK215.out;have hcz24_1:=bc1 BK215.out;have hcz24_2:=bc2 BK215.out;have hcz24_3:=bc3 BK215.out;have hfz24_0:=ja BK215.out 0;have hfz24_1:=ja BK215.out 1;have hfz24_2:=ja BK215.out 2;have hfz24_3:=ja BK215.out 3) |(go_at_call 80;(with_reducible refine (jMa.calls a0_3 t219 _ A19.out).mono ?_);rintro e w' ⟨rfl,⟨nd,rfl⟩⟩))
      go_ret
      exact ⟨Y0,Y6⟩
     ·replace c18:=Bool.eq_false_iff.mpr c18
      subst c18
      have H1:(some false)=some r:=by rw [if_neg (show ¬ (false=true) by decide)] at H;exact H
      clear H
      have H:=H1
      clear H1
      obtain rfl:=Option.some.inj H
      have hnb25:=NB216_215.out
      have hnc25:=NB215_216.out
      have hcz26_0:=bc0 BK216.out
      have hfz26_0:=ja BK216.out 0
      have hcz27_0:=bc0 BK215.out
      have hcz27_1:=bc1 BK215.out
      have hcz27_2:=bc2 BK215.out
      have hcz27_3:=bc3 BK215.out
      have hfz27_0:=ja BK215.out 0
      have hfz27_1:=ja BK215.out 1
      have hfz27_2:=ja BK215.out 2
      have hfz27_3:=ja BK215.out 3
      go_wp2_with (first |((with_reducible refine jf (f:=81) rfl ?_);refine gL (some 23) Try.func81 #[.agg #[.slice A1_0 l1_0.length c1_0], .int .i64 a0_2] ?_;(with_reducible refine (jJa.calls _ _ l1_0 a0_2 false _ ?side1 ?side2 A17.out).mono ?_);(case side1=>exact cq (Kd.jJ HR1_0.out HB.out));(case side2=>exact HC1_0.out);rintro e w28 ⟨rfl,hb⟩;refine ⟨_,rfl,?_⟩;replace BK215:=am (jl (g:=gb215) (o:=.cells #[.int .i64 a0_0, .int .i64 a0_1, .int .i64 a0_2, .int .i64 a0_3] 52 (0,0)) (kq BK215.out) hb);replace BK216:=am (jl (g:=gb216) (o:=.cells #[.slice A1_0 l1_0.length c1_0] 32 (0,0)) (kq BK216.out) hb);replace HB:=am (jd (Y6) hb);(try clear hb);(try clear hb2);(try clear hk);(try clear hi)))
      go_ret
      exact ⟨Y0,Y6⟩
    ·rw [if_neg c16] at H
     have c16b0:(a0_1 == 2)=false:=beq_eq_false_iff_ne.mpr c16
     have c16b1:(a0_1 != 2)=true:=bne_iff_ne.mpr c16
     by_cases c29:a0_1=8
     ·rw [if_pos c29] at H
      have c29b0:(a0_1 == 8)=true:=beq_iff_eq.mpr c29
      have c29b1:(a0_1 != 8)=false:=bne_eq_false_iff_eq.mpr c29
      clear c29
      replace H:=bzS H
      obtain ⟨t220,A300,H⟩:=H
      replace H:(if t220=true then (some (a0_3 == 0)) else (some false))=some r:=H
      have A30:=am A300
      clear A300
      by_cases c31:t220=true
      ·subst c31
       have H1:(some (a0_3 == 0))=some r:=by rw [if_pos rfl] at H;exact H
       clear H
       have H:=H1
       clear H1
       obtain rfl:=Option.some.inj H
       have hnb32:=NB216_215.out
       have hnc32:=NB215_216.out
       have hcz33_0:=bc0 BK216.out
       have hfz33_0:=ja BK216.out 0
       have hcz34_0:=bc0 BK215.out
       have hcz34_1:=bc1 BK215.out
       have hcz34_2:=bc2 BK215.out
       have hcz34_3:=bc3 BK215.out
       have hfz34_0:=ja BK215.out 0
       have hfz34_1:=ja BK215.out 1
       have hfz34_2:=ja BK215.out 2
       have hfz34_3:=ja BK215.out 3
       go_wp2_with (first |((with_reducible refine jf (f:=81) rfl ?_);refine gL (some 34) Try.func81 #[.agg #[.slice A1_0 l1_0.length c1_0], .int .i64 a0_2] ?_;(with_reducible refine (jJa.calls _ _ l1_0 a0_2 true _ ?side1 ?side2 A30.out).mono ?_);(case side1=>exact cq (Kd.jJ HR1_0.out HB.out));(case side2=>exact HC1_0.out);rintro e w35 ⟨rfl,hb⟩;refine ⟨_,rfl,?_⟩;replace BK215:=am (jl (g:=gb215) (o:=.cells #[.int .i64 a0_0, .int .i64 a0_1, .int .i64 a0_2, .int .i64 a0_3] 52 (0,0)) (kq BK215.out) hb);replace BK216:=am (jl (g:=gb216) (o:=.cells #[.slice A1_0 l1_0.length c1_0] 32 (0,0)) (kq BK216.out) hb);replace HB:=am (jd (Y6) hb);(try clear hb);(try clear hb2);(try clear hk);(try clear hi);have hcz36_0:=bc0 BK215.out;have hcz36_1:=bc1 BK215.out;have hcz36_2:=bc2 BK215.out;have hcz36_3:=bc3 BK215.out;have hfz36_0:=ja BK215.out 0;have hfz36_1:=ja BK215.out 1;have hfz36_2:=ja BK215.out 2;have hfz36_3:=ja BK215.out 3))
       go_ret
       exact ⟨Y0,Y6⟩
      ·replace c31:=Bool.eq_false_iff.mpr c31
       subst c31
       have H1:(some false)=some r:=by rw [if_neg (show ¬ (false=true) by decide)] at H;exact H
       clear H
       have H:=H1
       clear H1
       obtain rfl:=Option.some.inj H
       have hnb37:=NB216_215.out
       have hnc37:=NB215_216.out
       have hcz38_0:=bc0 BK216.out
       have hfz38_0:=ja BK216.out 0
       have hcz39_0:=bc0 BK215.out
       have hcz39_1:=bc1 BK215.out
       have hcz39_2:=bc2 BK215.out
       have hcz39_3:=bc3 BK215.out
       have hfz39_0:=ja BK215.out 0
       have hfz39_1:=ja BK215.out 1
       have hfz39_2:=ja BK215.out 2
       have hfz39_3:=ja BK215.out 3
       go_wp2_with (first |((with_reducible refine jf (f:=81) rfl ?_);refine gL (some 34) Try.func81 #[.agg #[.slice A1_0 l1_0.length c1_0], .int .i64 a0_2] ?_;(with_reducible refine (jJa.calls _ _ l1_0 a0_2 false _ ?side1 ?side2 A30.out).mono ?_);(case side1=>exact cq (Kd.jJ HR1_0.out HB.out));(case side2=>exact HC1_0.out);rintro e w40 ⟨rfl,hb⟩;refine ⟨_,rfl,?_⟩;replace BK215:=am (jl (g:=gb215) (o:=.cells #[.int .i64 a0_0, .int .i64 a0_1, .int .i64 a0_2, .int .i64 a0_3] 52 (0,0)) (kq BK215.out) hb);replace BK216:=am (jl (g:=gb216) (o:=.cells #[.slice A1_0 l1_0.length c1_0] 32 (0,0)) (kq BK216.out) hb);replace HB:=am (jd (Y6) hb);(try clear hb);(try clear hb2);(try clear hk);(try clear hi)))
       go_ret
       exact ⟨Y0,Y6⟩
     ·rw [if_neg c29] at H
      have c29b0:(a0_1 == 8)=false:=beq_eq_false_iff_ne.mpr c29
      have c29b1:(a0_1 != 8)=true:=bne_iff_ne.mpr c29
      by_cases c41:a0_1=11
      ·rw [if_pos c41] at H
       have c41b0:(a0_1 == 11)=true:=beq_iff_eq.mpr c41
       have c41b1:(a0_1 != 11)=false:=bne_eq_false_iff_eq.mpr c41
       clear c41
       replace H:=bzS H
       obtain ⟨t221,A420,H⟩:=H
       replace H:(if t221=true then ((jB.f a0_3 0 1).bind fun t222=>(some t222)) else (some false))=some r:=H
       have A42:=am A420
       clear A420
       by_cases c43:t221=true
       ·subst c43
        have H1:((jB.f a0_3 0 1).bind fun t222=>(some t222))=some r:=by rw [if_pos rfl] at H;exact H
        clear H
        have H:=H1
        clear H1
        replace H:=bzS H
        obtain ⟨t222,A440,H⟩:=H
        replace H:(some t222)=some r:=H
        have A44:=am A440
        clear A440
        obtain rfl:=Option.some.inj H
        have hnb45:=NB215_216.out
        have hnc45:=NB216_215.out
        have hcz46_0:=bc0 BK215.out
        have hcz46_1:=bc1 BK215.out
        have hcz46_2:=bc2 BK215.out
        have hcz46_3:=bc3 BK215.out
        have hfz46_0:=ja BK215.out 0
        have hfz46_1:=ja BK215.out 1
        have hfz46_2:=ja BK215.out 2
        have hfz46_3:=ja BK215.out 3
        go_wp2_with (first |((with_reducible refine jf (f:=53) rfl ?_);refine gL (some 44) Try.func53 #[.int .i64 a0_2, .int .i64 0, .int .i64 9] ?_;(with_reducible refine (jB.calls a0_2 0 9 true _ A42.out).mono ?_);rintro e w' ⟨rfl,⟨nd,rfl⟩⟩;refine ⟨_,rfl,?_⟩) |(go_at_call 53;(with_reducible refine (jB.calls a0_3 0 1 t222 _ A44.out).mono ?_);rintro e w' ⟨rfl,⟨nd,rfl⟩⟩))
        go_ret
        exact ⟨Y0,Y6⟩
       ·replace c43:=Bool.eq_false_iff.mpr c43
        subst c43
        have H1:(some false)=some r:=by rw [if_neg (show ¬ (false=true) by decide)] at H;exact H
        clear H
        have H:=H1
        clear H1
        obtain rfl:=Option.some.inj H
        have hnb47:=NB215_216.out
        have hnc47:=NB216_215.out
        have hcz48_0:=bc0 BK215.out
        have hcz48_1:=bc1 BK215.out
        have hcz48_2:=bc2 BK215.out
        have hcz48_3:=bc3 BK215.out
        have hfz48_0:=ja BK215.out 0
        have hfz48_1:=ja BK215.out 1
        have hfz48_2:=ja BK215.out 2
        have hfz48_3:=ja BK215.out 3
        go_wp2_with (first |((with_reducible refine jf (f:=53) rfl ?_);refine gL (some 44) Try.func53 #[.int .i64 a0_2, .int .i64 0, .int .i64 9] ?_;(with_reducible refine (jB.calls a0_2 0 9 false _ A42.out).mono ?_);rintro e w' ⟨rfl,⟨nd,rfl⟩⟩;refine ⟨_,rfl,?_⟩))
        go_ret
        exact ⟨Y0,Y6⟩
      ·rw [if_neg c41] at H
       have c41b0:(a0_1 == 11)=false:=beq_eq_false_iff_ne.mpr c41
       have c41b1:(a0_1 != 11)=true:=bne_iff_ne.mpr c41
       by_cases c49:a0_1=12
       ·rw [if_pos c49] at H
        have c49b0:(a0_1 == 12)=true:=beq_iff_eq.mpr c49
        have c49b1:(a0_1 != 12)=false:=bne_eq_false_iff_eq.mpr c49
        clear c49
        replace H:=bzS H
        obtain ⟨t223,A500,H⟩:=H
        replace H:(if t223=true then (some (a0_3 == 0)) else (some false))=some r:=H
        have A50:=am A500
        clear A500
        by_cases c51:t223=true
        ·subst c51
         have H1:(some (a0_3 == 0))=some r:=by rw [if_pos rfl] at H;exact H
         clear H
         have H:=H1
         clear H1
         obtain rfl:=Option.some.inj H
         have hnb52:=NB215_216.out
         have hnc52:=NB216_215.out
         have hcz53_0:=bc0 BK215.out
         have hcz53_1:=bc1 BK215.out
         have hcz53_2:=bc2 BK215.out
         have hcz53_3:=bc3 BK215.out
         have hfz53_0:=ja BK215.out 0
         have hfz53_1:=ja BK215.out 1
         have hfz53_2:=ja BK215.out 2
         have hfz53_3:=ja BK215.out 3
         go_wp2_with (first |((with_reducible refine jf (f:=53) rfl ?_);refine gL (some 54) Try.func53 #[.int .i64 a0_2, .int .i64 0, .int .i64 3] ?_;(with_reducible refine (jB.calls a0_2 0 3 true _ A50.out).mono ?_);rintro e w' ⟨rfl,⟨nd,rfl⟩⟩;refine ⟨_,rfl,?_⟩))
         go_ret
         exact ⟨Y0,Y6⟩
        ·replace c51:=Bool.eq_false_iff.mpr c51
         subst c51
         have H1:(some false)=some r:=by rw [if_neg (show ¬ (false=true) by decide)] at H;exact H
         clear H
         have H:=H1
         clear H1
         obtain rfl:=Option.some.inj H
         have hnb54:=NB215_216.out
         have hnc54:=NB216_215.out
         have hcz55_0:=bc0 BK215.out
         have hcz55_1:=bc1 BK215.out
         have hcz55_2:=bc2 BK215.out
         have hcz55_3:=bc3 BK215.out
         have hfz55_0:=ja BK215.out 0
         have hfz55_1:=ja BK215.out 1
         have hfz55_2:=ja BK215.out 2
         have hfz55_3:=ja BK215.out 3
         go_wp2_with (first |((with_reducible refine jf (f:=53) rfl ?_);refine gL (some 54) Try.func53 #[.int .i64 a0_2, .int .i64 0, .int .i64 3] ?_;(with_reducible refine (jB.calls a0_2 0 3 false _ A50.out).mono ?_);rintro e w' ⟨rfl,⟨nd,rfl⟩⟩;refine ⟨_,rfl,?_⟩))
         go_ret
         exact ⟨Y0,Y6⟩
       ·rw [if_neg c49] at H
        have c49b0:(a0_1 == 12)=false:=beq_eq_false_iff_ne.mpr c49
        have c49b1:(a0_1 != 12)=true:=bne_iff_ne.mpr c49
        replace H:=bzS H
        obtain ⟨t224,A560,H⟩:=H
        replace H:(if t224=true then (if a0_2=0 then (some (a0_3 == 0)) else (some false)) else (some false))=some r:=H
        have A56:=am A560
        clear A560
        by_cases c57:t224=true
        ·subst c57
         have H1:(if a0_2=0 then (some (a0_3 == 0)) else (some false))=some r:=by rw [if_pos rfl] at H;exact H
         clear H
         have H:=H1
         clear H1
         by_cases c58:a0_2=0
         ·rw [if_pos c58] at H
          have c58b0:(a0_2 == 0)=true:=beq_iff_eq.mpr c58
          have c58b1:(a0_2 != 0)=false:=bne_eq_false_iff_eq.mpr c58
          clear c58
          obtain rfl:=Option.some.inj H
          have hnb59:=NB215_216.out
          have hnc59:=NB216_215.out
          have hcz60_0:=bc0 BK215.out
          have hcz60_1:=bc1 BK215.out
          have hcz60_2:=bc2 BK215.out
          have hcz60_3:=bc3 BK215.out
          have hfz60_0:=ja BK215.out 0
          have hfz60_1:=ja BK215.out 1
          have hfz60_2:=ja BK215.out 2
          have hfz60_3:=ja BK215.out 3
          go_wp2_with (first |((with_reducible refine jf (f:=53) rfl ?_);refine gL (some 62) Try.func53 #[.int .i64 a0_1, .int .i64 0, .int .i64 12] ?_;(with_reducible refine (jB.calls a0_1 0 12 true _ A56.out).mono ?_);rintro e w' ⟨rfl,⟨nd,rfl⟩⟩;refine ⟨_,rfl,?_⟩))
          go_ret
          exact ⟨Y0,Y6⟩
         ·rw [if_neg c58] at H
          have c58b0:(a0_2 == 0)=false:=beq_eq_false_iff_ne.mpr c58
          have c58b1:(a0_2 != 0)=true:=bne_iff_ne.mpr c58
          obtain rfl:=Option.some.inj H
          have hnb61:=NB215_216.out
          have hnc61:=NB216_215.out
          have hcz62_0:=bc0 BK215.out
          have hcz62_1:=bc1 BK215.out
          have hcz62_2:=bc2 BK215.out
          have hcz62_3:=bc3 BK215.out
          have hfz62_0:=ja BK215.out 0
          have hfz62_1:=ja BK215.out 1
          have hfz62_2:=ja BK215.out 2
          have hfz62_3:=ja BK215.out 3
          go_wp2_with (first |((with_reducible refine jf (f:=53) rfl ?_);refine gL (some 62) Try.func53 #[.int .i64 a0_1, .int .i64 0, .int .i64 12] ?_;(with_reducible refine (jB.calls a0_1 0 12 true _ A56.out).mono ?_);rintro e w' ⟨rfl,⟨nd,rfl⟩⟩;refine ⟨_,rfl,?_⟩))
          go_ret
          exact ⟨Y0,Y6⟩
        ·replace c57:=Bool.eq_false_iff.mpr c57
         subst c57
         have H1:(some false)=some r:=by rw [if_neg (show ¬ (false=true) by decide)] at H;exact H
         clear H
         have H:=H1
         clear H1
         obtain rfl:=Option.some.inj H
         have hnb63:=NB215_216.out
         have hnc63:=NB216_215.out
         have hcz64_0:=bc0 BK215.out
         have hcz64_1:=bc1 BK215.out
         have hcz64_2:=bc2 BK215.out
         have hcz64_3:=bc3 BK215.out
         have hfz64_0:=ja BK215.out 0
         have hfz64_1:=ja BK215.out 1
         have hfz64_2:=ja BK215.out 2
         have hfz64_3:=ja BK215.out 3
         go_wp2_with (first |((with_reducible refine jf (f:=53) rfl ?_);refine gL (some 62) Try.func53 #[.int .i64 a0_1, .int .i64 0, .int .i64 12] ?_;(with_reducible refine (jB.calls a0_1 0 12 false _ A56.out).mono ?_);rintro e w' ⟨rfl,⟨nd,rfl⟩⟩;refine ⟨_,rfl,?_⟩))
         go_ret
         exact ⟨Y0,Y6⟩
def jVa.f (a0_0 : Int) (a0_1 : Int) (a0_2 : Int) (a0_3 : Int) : Option (Bool) := (jB.f a0_1 7 12).bind fun t226 => (some t226)
set_option maxHeartbeats 8000000 in
set_option maxRecDepth 100000 in
theorem jVa.calls (a0_0 : Int) (a0_1 : Int) (a0_2 : Int) (a0_3 : Int) (r : Bool) (w : World) (h : jVa.f a0_0 a0_1 a0_2 a0_3 = some r) :
  Calls Try.prog 54 #[.agg #[.int .i64 a0_0, .int .i64 a0_1, .int .i64 a0_2, .int .i64 a0_3]] w fun e w'=>e=.returned (.bool r)∧Below w.heap.size w w':=by
 have hu52:=Try.underlying52
 have HB:=am (Below.refl w.heap.size w)
 have H:((jB.f a0_1 7 12).bind fun t226=>(some t226))=some r:=h
 clear h
 replace H:=bzS H
 obtain ⟨t226,A20,H⟩:=H
 replace H:(some t226)=some r:=H
 have A2:=am A20
 clear A20
 obtain rfl:=Option.some.inj H
 go_enter Try.func54,Try.ntmps54
 go_wp2_with (first |((with_reducible refine jO (N:=1) rfl ?_);refine bE (N:=1) (cs:=#[.int .i64 a0_0, .int .i64 a0_1, .int .i64 a0_2, .int .i64 a0_3]) (t:=52) ?_;intro gb225 hg w3 hbox hb;have BK225:=am (hbox);have GW225:=am ((Y1:w.heap.size≤gb225));have GE225:=am ((Y1:w.heap.size≤gb225));replace HB:=am (jd (bq) hb);clear hb hbox hg;have hcz4_0:=bc0 BK225.out;have hcz4_1:=bc1 BK225.out;have hcz4_2:=bc2 BK225.out;have hcz4_3:=bc3 BK225.out;have hfz4_0:=ja BK225.out 0;have hfz4_1:=ja BK225.out 1;have hfz4_2:=ja BK225.out 2;have hfz4_3:=ja BK225.out 3) |((with_reducible refine jf (f:=53) rfl ?_);refine gL (some 5) Try.func53 #[.int .i64 a0_1, .int .i64 7, .int .i64 12] ?_;(with_reducible refine (jB.calls a0_1 7 12 t226 _ A2.out).mono ?_);rintro e w' ⟨rfl,⟨nd,rfl⟩⟩;refine ⟨_,rfl,?_⟩))
 go_ret
 exact ⟨Y0,by repeat (first |(with_reducible first | exact HB.out | apply jD | apply jh | apply jC | refine jA ?_ GE225.out) | exact HB.out)⟩
mutual
def jN.l0 : Nat → List (S52) → Int → List Int → Int → Option (List Int)
 | 0,_,_,_,_=>none
 | k+1,x0,x1,x5,x6=>if x6<(x0.length:Int) then (if 0≤x6 then (if 0≤x1 then (if x1<(x0.length:Int) then (if ((jb x0 x6).f0)=((jb x0 x1).f0) then ((jB.f ((jb x0 x6).f1) 8 10).bind fun t236=>(jN.j1 k x0 x1 x5 x6 t236)) else (jN.j1 k x0 x1 x5 x6 false)) else (none)) else (none)) else (none)) else (jN.j1 k x0 x1 x5 x6 false)
def jN.j1 : Nat → List (S52) → Int → List Int → Int → Bool → Option (List Int)
 | 0,_,_,_,_,_=>none
 | k+1,x0,x1,x5,x6,x36=>if x36=true then (if x5.length<17592186044416 then ((jY.f k x0 x6).bind fun t240=>(jN.l0 k x0 x1 (x5 ++ [x6]) t240)) else (none)) else (some x5)
end
def jN.f (k : Nat) (l0 : List (S52)) (a1 : Int) : Option (List Int) := (jY.f k l0 a1).bind fun t232 => (jN.l0 k l0 a1 (([a1] : List Int)) t232)
set_option maxHeartbeats 8000000 in
set_option maxRecDepth 100000 in
theorem jN.calls (k : Nat) (A0 : Option Addr) (c0 : Nat) (l0 : List (S52)) (a1 : Int) (r : List Int) (w : World) (hr0 : Kd.C k52 w A0 l0.length l0) (hc0 : l0.length ≤ c0) (h : jN.f k l0 a1 = some r) :
  Calls Try.prog 68 #[.slice A0 l0.length c0, .int .i64 a1] w fun e w'=>∃ v0_:Value,e=.returned (v0_)∧Kd.R (Kd.int .i64) 3 w' w.heap.size (fun _=>True) v0_ r∧Below w.heap.size w w':=by
 have HR0:=am hr0
 have HC0:=am hc0
 clear hr0 hc0
 have HB:=am (Below.refl w.heap.size w)
 have H:((jY.f k l0 a1).bind fun t232=>(jN.l0 k l0 a1 (([a1]:List Int)) t232))=some r:=h
 clear h
 obtain ⟨y229,hy229⟩:∃ y_:List Int,y_=(([a1]:List Int)):=⟨_,rfl⟩
 replace H:((jY.f k l0 a1).bind fun t232=>(jN.l0 k l0 a1 y229 t232))=some r:=by first |(rw [hy229];with_reducible exact H) |(have H2_:=(Option.bind_some _ _).symm.trans H;rw [hy229];with_reducible exact H2_) |(have H2_:=(Option.bind_some _ _).symm.trans H;with_reducible exact H2_) | with_reducible exact H |(rw [hy229];exact H) | exact H
 have Ny229:=am hy229
 clear hy229
 replace H:=bzS H
 obtain ⟨t232,A30,H⟩:=H
 replace H:(jN.l0 k l0 a1 y229 t232)=some r:=H
 have A3:=am A30
 clear A30
 have H':=am H
 clear H
 go_enter Try.func68,Try.ntmps68
 go_wp2_with (first |((with_reducible refine jO (N:=8) rfl ?_);refine Kd.R_lit (Kd.int .i64) _ 3 ?hg (N:=8) ?hd (xs:=([a1]:List Int)) (inner:=[.int .i64 a1]) (ok:=fun _=>True) (okp:=fun _=>True) ?hr ?hp (fun _ hk=>hk) trivial (Below.refl _ _) (Nat.le_refl _) (by simp) ?_;(case hd=>rfl);(case hg=>rfl);(case hr=>exact Y7);(case hp=>exact (Reps.one (show Kd.M (Kd.int .i64) _ _ _ a1 [.int .i64 a1] from rfl) (Reps.none _ _)));intro v230 w4 ho5 hb hg_ hnew_;clear hg_ hnew_;(first | rw [← Ny229.out] at ho5 |(simp only [Int.reduceToNat] at ho5;rw [← Ny229.out] at ho5));have HO231:=am (Kd.jLa ho5 (jL (bq)));replace HB:=am (jd (bq) hb);clear hb ho5) |(go_at_call 62;(with_reducible refine (jY.calls k _ _ l0 a1 t232 _ ?side1 ?side2 A3.out).mono ?_);(case side1=>exact cq (Kd.jJ HR0.out HB.out));(case side2=>exact HC0.out);rintro e w' ⟨rfl,⟨nd,rfl⟩⟩;(try first | exact ⟨rfl,_,World.drewN_drewN _ _ _⟩ | exact ⟨rfl,_,Eq.trans (World.drewN_drewN _ _ _) (congrArg (World.drewN _) (Nat.add_assoc _ _ _))⟩)))
 repeat (go_quiet (first |((with_reducible refine jO (N:=8) rfl ?_);refine Kd.R_lit (Kd.int .i64) _ 3 ?hg (N:=8) ?hd (xs:=([a1]:List Int)) (inner:=[.int .i64 a1]) (ok:=fun _=>True) (okp:=fun _=>True) ?hr ?hp (fun _ hk=>hk) trivial (Below.refl _ _) (Nat.le_refl _) (by simp) ?_;(case hd=>rfl);(case hg=>rfl);(case hr=>exact Y7);(case hp=>exact (Reps.one (show Kd.M (Kd.int .i64) _ _ _ a1 [.int .i64 a1] from rfl) (Reps.none _ _)));intro v230 w4 ho5 hb hg_ hnew_;clear hg_ hnew_;(first | rw [← Ny229.out] at ho5 |(simp only [Int.reduceToNat] at ho5;rw [← Ny229.out] at ho5));have HO231:=am (Kd.jLa ho5 (jL (bq)));replace HB:=am (jd (bq) hb);clear hb ho5) |(go_at_call 62;(with_reducible refine (jY.calls k _ _ l0 a1 t232 _ ?side1 ?side2 A3.out).mono ?_);(case side1=>exact cq (Kd.jJ HR0.out HB.out));(case side2=>exact HC0.out);rintro e w' ⟨rfl,⟨nd,rfl⟩⟩;(try first | exact ⟨rfl,_,World.drewN_drewN _ _ _⟩ | exact ⟨rfl,_,Eq.trans (World.drewN_drewN _ _ _) (congrArg (World.drewN _) (Nat.add_assoc _ _ _))⟩)));try go_wp2_with (first |((with_reducible refine jO (N:=8) rfl ?_);refine Kd.R_lit (Kd.int .i64) _ 3 ?hg (N:=8) ?hd (xs:=([a1]:List Int)) (inner:=[.int .i64 a1]) (ok:=fun _=>True) (okp:=fun _=>True) ?hr ?hp (fun _ hk=>hk) trivial (Below.refl _ _) (Nat.le_refl _) (by simp) ?_;(case hd=>rfl);(case hg=>rfl);(case hr=>exact Y7);(case hp=>exact (Reps.one (show Kd.M (Kd.int .i64) _ _ _ a1 [.int .i64 a1] from rfl) (Reps.none _ _)));intro v230 w4 ho5 hb hg_ hnew_;clear hg_ hnew_;(first | rw [← Ny229.out] at ho5 |(simp only [Int.reduceToNat] at ho5;rw [← Ny229.out] at ho5));have HO231:=am (Kd.jLa ho5 (jL (bq)));replace HB:=am (jd (bq) hb);clear hb ho5) |(go_at_call 62;(with_reducible refine (jY.calls k _ _ l0 a1 t232 _ ?side1 ?side2 A3.out).mono ?_);(case side1=>exact cq (Kd.jJ HR0.out HB.out));(case side2=>exact HC0.out);rintro e w' ⟨rfl,⟨nd,rfl⟩⟩;(try first | exact ⟨rfl,_,World.drewN_drewN _ _ _⟩ | exact ⟨rfl,_,Eq.trans (World.drewN_drewN _ _ _) (congrArg (World.drewN _) (Nat.add_assoc _ _ _))⟩))))
 go_loopg [5,6] k (fun kq v5 v6 w'=>∃ (x5_1:List Int) (x6_1:Int),v6=.int .i64 x6_1∧jv (jN.l0 kq l0 a1 x5_1 x6_1=some r)∧jv (kq≤k)∧jv (Kd.R (Kd.int .i64) 3 w' w.heap.size (fun _=>True) v5 x5_1)∧jv (Below w.heap.size w w'))
 case atStart=>exact ⟨(y229),(t232),(sq),H',⟨Nat.le_refl _⟩,⟨rq HO231.out⟩,⟨bq⟩⟩
 case round =>
  clear H'
  try clear p2
  obtain ⟨x5_1,x6_1,rfl,HA,HK1,HO_5,HB⟩:=hrel
  cases gk with
  | zero=>exact absurd HA.out (by simp [jN.l0])
  | succ k1 =>
   have H:=HA.out
   clear HA
   simp only [jN.l0] at H
   have HC6:=am H
   clear H
   go_upto_region 3 with (fail)
   repeat (go_quiet (fail);go_upto_region 3 with (fail))
   go_cut [36] (fun v36 wc=>∃ (kq:Nat) (x36_5:Bool),v36=.bool x36_5∧jv (jN.j1 kq l0 a1 x5_1 x6_1 x36_5=some r)∧jv (kq≤k1)∧jv (Kd.R (Kd.int .i64) 3 wc w.heap.size (fun _=>True) u5 x5_1)∧jv (Below w.heap.size w wc))
   case first =>
    have H:=HC6.out
    clear HC6
    by_cases c7:x6_1<(l0.length:Int)
    ·rw [if_pos c7] at H
     have c7b0:decide (x6_1<(l0.length:Int))=true:=dzT c7
     clear c7
     (first | rw [c7b0] |(simp only [jnb,jrb];rw [c7b0]) | skip)
     by_cases c8:0≤x6_1
     ·rw [if_pos c8] at H
      have c8b0:decide (0≤x6_1)=true:=dzT c8
      clear c8
      by_cases c9:0≤a1
      ·rw [if_pos c9] at H
       have c9b0:decide (0≤a1)=true:=dzT c9
       clear c9
       by_cases c10:a1<(l0.length:Int)
       ·rw [if_pos c10] at H
        have c10b0:decide (a1<(l0.length:Int))=true:=dzT c10
        clear c10
        by_cases c11:((jb l0 x6_1).f0)=((jb l0 a1).f0)
        ·rw [if_pos c11] at H
         have c11b0:(((jb l0 x6_1).f0) == ((jb l0 a1).f0))=true:=beq_iff_eq.mpr c11
         have c11b1:(((jb l0 x6_1).f0) != ((jb l0 a1).f0))=false:=bne_eq_false_iff_eq.mpr c11
         clear c11
         replace H:=bzS H
         obtain ⟨t236,A120,H⟩:=H
         replace H:(jN.j1 k1 l0 a1 x5_1 x6_1 t236)=some r:=H
         have A12:=am A120
         clear A120
         have H':=am H
         clear H
         have p233:0≤(x6_1:Int):=ozD (uq)
         have q233:x6_1<(l0.length:Int):=ozD (uq)
         obtain ⟨ad233,e233,hx233_0,hx233_1,hx233_2,hx233_3⟩:=jX HR0.out x6_1 p233 q233
         cases e233
         replace hx233_0:=cb HB.out hx233_0
         replace hx233_1:=cb HB.out hx233_1
         replace hx233_2:=cb HB.out hx233_2
         replace hx233_3:=cb HB.out hx233_3
         replace p233:=ezT p233
         replace q233:=ezT q233
         have p234:0≤(a1:Int):=ozD (uq)
         have q234:a1<(l0.length:Int):=ozD (uq)
         obtain ⟨ad234,e234,hx234_0,hx234_1,hx234_2,hx234_3⟩:=jX HR0.out a1 p234 q234
         obtain rfl:ad233=ad234:=(by injection e234)
         replace hx234_0:=cb HB.out hx234_0
         replace hx234_1:=cb HB.out hx234_1
         replace hx234_2:=cb HB.out hx234_2
         replace hx234_3:=cb HB.out hx234_3
         replace p234:=ezT p234
         replace q234:=ezT q234
         have p235:0≤(x6_1:Int):=ozD (uq)
         have q235:x6_1<(l0.length:Int):=ozD (uq)
         obtain ⟨ad235,e235,hx235_0,hx235_1,hx235_2,hx235_3⟩:=jX HR0.out x6_1 p235 q235
         obtain rfl:ad233=ad235:=(by injection e235)
         replace hx235_0:=cb HB.out hx235_0
         replace hx235_1:=cb HB.out hx235_1
         replace hx235_2:=cb HB.out hx235_2
         replace hx235_3:=cb HB.out hx235_3
         replace p235:=ezT p235
         replace q235:=ezT q235
         go_wp2_with (first |(go_at_call 53;(with_reducible refine (jB.calls ((jb l0 x6_1).f1) 8 10 t236 _ A12.out).mono ?_);rintro e w' ⟨rfl,⟨nd,rfl⟩⟩;(try first | exact ⟨rfl,_,World.drewN_drewN _ _ _⟩ | exact ⟨rfl,_,Eq.trans (World.drewN_drewN _ _ _) (congrArg (World.drewN _) (Nat.add_assoc _ _ _))⟩)))
         repeat (go_quiet (first |(go_at_call 53;(with_reducible refine (jB.calls ((jb l0 x6_1).f1) 8 10 t236 _ A12.out).mono ?_);rintro e w' ⟨rfl,⟨nd,rfl⟩⟩;(try first | exact ⟨rfl,_,World.drewN_drewN _ _ _⟩ | exact ⟨rfl,_,Eq.trans (World.drewN_drewN _ _ _) (congrArg (World.drewN _) (Nat.add_assoc _ _ _))⟩)));try go_wp2_with (first |(go_at_call 53;(with_reducible refine (jB.calls ((jb l0 x6_1).f1) 8 10 t236 _ A12.out).mono ?_);rintro e w' ⟨rfl,⟨nd,rfl⟩⟩;(try first | exact ⟨rfl,_,World.drewN_drewN _ _ _⟩ | exact ⟨rfl,_,Eq.trans (World.drewN_drewN _ _ _) (congrArg (World.drewN _) (Nat.add_assoc _ _ _))⟩))))
         go_meet
         case rel=>exact ⟨_,(t236),(sq),H',⟨by have:=HK1.out;first | omega | exact Nat.le_refl _⟩,⟨rq HO_5.out⟩,⟨bq⟩⟩
        ·rw [if_neg c11] at H
         have c11b0:(((jb l0 x6_1).f0) == ((jb l0 a1).f0))=false:=beq_eq_false_iff_ne.mpr c11
         have c11b1:(((jb l0 x6_1).f0) != ((jb l0 a1).f0))=true:=bne_iff_ne.mpr c11
         have H':=am H
         clear H
         have p233:0≤(x6_1:Int):=ozD (uq)
         have q233:x6_1<(l0.length:Int):=ozD (uq)
         obtain ⟨ad233,e233,hx233_0,hx233_1,hx233_2,hx233_3⟩:=jX HR0.out x6_1 p233 q233
         cases e233
         replace hx233_0:=cb HB.out hx233_0
         replace hx233_1:=cb HB.out hx233_1
         replace hx233_2:=cb HB.out hx233_2
         replace hx233_3:=cb HB.out hx233_3
         replace p233:=ezT p233
         replace q233:=ezT q233
         have p234:0≤(a1:Int):=ozD (uq)
         have q234:a1<(l0.length:Int):=ozD (uq)
         obtain ⟨ad234,e234,hx234_0,hx234_1,hx234_2,hx234_3⟩:=jX HR0.out a1 p234 q234
         obtain rfl:ad233=ad234:=(by injection e234)
         replace hx234_0:=cb HB.out hx234_0
         replace hx234_1:=cb HB.out hx234_1
         replace hx234_2:=cb HB.out hx234_2
         replace hx234_3:=cb HB.out hx234_3
         replace p234:=ezT p234
         replace q234:=ezT q234
         go_wp2
         repeat (go_quiet (fail);try go_wp2)
         go_meet
         case rel=>exact ⟨_,(false),(sq),H',⟨by have:=HK1.out;first | omega | exact Nat.le_refl _⟩,⟨rq HO_5.out⟩,⟨bq⟩⟩
       ·rw [if_neg c10] at H
        exact absurd H (by simp)
      ·rw [if_neg c9] at H
       exact absurd H (by simp)
     ·rw [if_neg c8] at H
      exact absurd H (by simp)
    ·rw [if_neg c7] at H
     have c7b0:decide (x6_1<(l0.length:Int))=false:=dzF c7
     clear c7
     (first | rw [c7b0] |(simp only [jnb,jrb];rw [c7b0]) | skip)
     have H':=am H
     clear H
     go_wp2
     repeat (go_quiet (fail);try go_wp2)
     go_meet
     case rel=>exact ⟨_,(false),(sq),H',⟨by have:=HK1.out;first | omega | exact Nat.le_refl _⟩,⟨rq HO_5.out⟩,⟨bq⟩⟩
   case rest =>
    clear HC6
    try clear c1
    try clear p2
    try clear q2
    try clear hx2
    try clear c6
    try clear c7
    try clear c7b0
    try clear c8
    try clear c8b0
    try clear c9
    try clear c9b0
    try clear c10
    try clear c10b0
    try clear c11
    try clear c11b0
    try clear c11b1
    try clear hx233_0
    try clear hx233_1
    try clear hx233_2
    try clear hx233_3
    try clear hx234_0
    try clear hx234_1
    try clear hx234_2
    try clear hx234_3
    try clear hx235_0
    try clear hx235_1
    try clear hx235_2
    try clear hx235_3
    try clear p2
    try clear p233
    try clear p234
    try clear p235
    try clear q233
    try clear q234
    try clear q235
    obtain ⟨kq,x36_5,rfl,HA,HJ5,HO_5,HB⟩:=hcut
    cases kq with
    | zero=>exact absurd HA.out (by simp [jN.j1])
    | succ kj5 =>
     have H:=HA.out
     clear HA
     simp only [jN.j1] at H
     by_cases c13:x36_5=true
     ·subst c13
      have H1:(if x5_1.length<17592186044416 then ((jY.f kj5 l0 x6_1).bind fun t240=>(jN.l0 kj5 l0 a1 (x5_1 ++ [x6_1]) t240)) else (none))=some r:=by rw [if_pos rfl] at H;exact H
      clear H
      have H:=H1
      clear H1
      by_cases c14:x5_1.length<17592186044416
      ·rw [if_pos c14] at H
       have LMc14:=am c14
       clear c14
       obtain ⟨y237,hy237⟩:∃ y_:List Int,y_=(x5_1 ++ [x6_1]):=⟨_,rfl⟩
       replace H:((jY.f kj5 l0 x6_1).bind fun t240=>(jN.l0 kj5 l0 a1 y237 t240))=some r:=by first |(rw [hy237];with_reducible exact H) |(have H2_:=(Option.bind_some _ _).symm.trans H;rw [hy237];with_reducible exact H2_) |(have H2_:=(Option.bind_some _ _).symm.trans H;with_reducible exact H2_) | with_reducible exact H |(rw [hy237];exact H) | exact H
       have Ny237:=am hy237
       clear hy237
       replace H:=bzS H
       obtain ⟨t240,A150,H⟩:=H
       replace H:(jN.l0 kj5 l0 a1 y237 t240)=some r:=H
       have A15:=am A150
       clear A150
       have H':=am H
       clear H
       go_wp2_with (first |((with_reducible refine jcb (b:=.append) (xs:=#[.tmp 40, .tmp 42]) rfl ?_);at_builtin;refine Kd.jVb (Kd.int .i64) (w0:=w) w.heap.size rfl (.tmp 40) (.tmp 42) 40 3 (.int .i64 0) 8 rfl Try.underlying40 info3 rfl (by decide) (by omega) u5 x5_1 x6_1 [.int .i64 x6_1] (fun _=>True) (fun _=>False) rfl rfl ?aP (fun _ hk=>hk.elim) ?aF ?aO ?aB ?aS ?aL ?_;(case aP=>exact rfl);(case aB=>exact (bq));(case aF=>exact (fun _ _=>trivial));(case aO=>exact (rq HO_5.out));(case aS=>exact (jL (bq)));(case aL=>have:=LMc14.out;omega);intro v238 w16 ho hb hg hat;rw [← Ny237.out] at ho;have n0_:=am (hb);have n1_:=am (ho);clear HB HO_5;have HB:=n0_;have HO239:=n1_;clear n0_ n1_ ho hb hg hat) |(go_at_call 62;(with_reducible refine (jY.calls kj5 _ _ l0 x6_1 t240 _ ?side1 ?side2 A15.out).mono ?_);(case side1=>exact cq (Kd.jJ HR0.out HB.out));(case side2=>exact HC0.out);rintro e w' ⟨rfl,⟨nd,rfl⟩⟩;(try first | exact ⟨rfl,_,World.drewN_drewN _ _ _⟩ | exact ⟨rfl,_,Eq.trans (World.drewN_drewN _ _ _) (congrArg (World.drewN _) (Nat.add_assoc _ _ _))⟩)))
       repeat (go_quiet (first |((with_reducible refine jcb (b:=.append) (xs:=#[.tmp 40, .tmp 42]) rfl ?_);at_builtin;refine Kd.jVb (Kd.int .i64) (w0:=w) w.heap.size rfl (.tmp 40) (.tmp 42) 40 3 (.int .i64 0) 8 rfl Try.underlying40 info3 rfl (by decide) (by omega) u5 x5_1 x6_1 [.int .i64 x6_1] (fun _=>True) (fun _=>False) rfl rfl ?aP (fun _ hk=>hk.elim) ?aF ?aO ?aB ?aS ?aL ?_;(case aP=>exact rfl);(case aB=>exact (bq));(case aF=>exact (fun _ _=>trivial));(case aO=>exact (rq HO_5.out));(case aS=>exact (jL (bq)));(case aL=>have:=LMc14.out;omega);intro v238 w16 ho hb hg hat;rw [← Ny237.out] at ho;have n0_:=am (hb);have n1_:=am (ho);clear HB HO_5;have HB:=n0_;have HO239:=n1_;clear n0_ n1_ ho hb hg hat) |(go_at_call 62;(with_reducible refine (jY.calls kj5 _ _ l0 x6_1 t240 _ ?side1 ?side2 A15.out).mono ?_);(case side1=>exact cq (Kd.jJ HR0.out HB.out));(case side2=>exact HC0.out);rintro e w' ⟨rfl,⟨nd,rfl⟩⟩;(try first | exact ⟨rfl,_,World.drewN_drewN _ _ _⟩ | exact ⟨rfl,_,Eq.trans (World.drewN_drewN _ _ _) (congrArg (World.drewN _) (Nat.add_assoc _ _ _))⟩)));try go_wp2_with (first |((with_reducible refine jcb (b:=.append) (xs:=#[.tmp 40, .tmp 42]) rfl ?_);at_builtin;refine Kd.jVb (Kd.int .i64) (w0:=w) w.heap.size rfl (.tmp 40) (.tmp 42) 40 3 (.int .i64 0) 8 rfl Try.underlying40 info3 rfl (by decide) (by omega) u5 x5_1 x6_1 [.int .i64 x6_1] (fun _=>True) (fun _=>False) rfl rfl ?aP (fun _ hk=>hk.elim) ?aF ?aO ?aB ?aS ?aL ?_;(case aP=>exact rfl);(case aB=>exact (bq));(case aF=>exact (fun _ _=>trivial));(case aO=>exact (rq HO_5.out));(case aS=>exact (jL (bq)));(case aL=>have:=LMc14.out;omega);intro v238 w16 ho hb hg hat;rw [← Ny237.out] at ho;have n0_:=am (hb);have n1_:=am (ho);clear HB HO_5;have HB:=n0_;have HO239:=n1_;clear n0_ n1_ ho hb hg hat) |(go_at_call 62;(with_reducible refine (jY.calls kj5 _ _ l0 x6_1 t240 _ ?side1 ?side2 A15.out).mono ?_);(case side1=>exact cq (Kd.jJ HR0.out HB.out));(case side2=>exact HC0.out);rintro e w' ⟨rfl,⟨nd,rfl⟩⟩;(try first | exact ⟨rfl,_,World.drewN_drewN _ _ _⟩ | exact ⟨rfl,_,Eq.trans (World.drewN_drewN _ _ _) (congrArg (World.drewN _) (Nat.add_assoc _ _ _))⟩))))
       go_roundg kj5
       case measure=>have:=HK1.out;have:=HJ5.out;omega
       case rel=>exact ⟨(y237),(t240),(sq),H',⟨by have:=HK1.out;have:=HJ5.out;omega⟩,⟨rq HO239.out⟩,⟨bq⟩⟩
      ·rw [if_neg c14] at H
       exact absurd H (by simp)
     ·replace c13:=Bool.eq_false_iff.mpr c13
      subst c13
      have H1:(some x5_1)=some r:=by rw [if_neg (show ¬ (false=true) by decide)] at H;exact H
      clear H
      have H:=H1
      clear H1
      obtain rfl:=Option.some.inj H
      go_wp2
      repeat (go_quiet (fail);try go_wp2)
      go_ret
      exact ⟨_,Y0,rq HO_5.out,bq⟩
def jqa.l0 : Nat → List (S52) → Int → List Int → Int → Option (List Int)
 | 0,_,_,_,_=>none
 | k+1,x0,x2,x7,x8=>if x8<x2 then (if x7.length<17592186044416 then ((jY.f k x0 x8).bind fun t247=>(jqa.l0 k x0 x2 (x7 ++ [x8]) t247)) else (none)) else (some x7)
def jqa.f (k : Nat) (l0 : List (S52)) (a1 : Int) (a2 : Int) : Option (List Int) := jqa.l0 k l0 a2 (([] : List Int)) a1
set_option maxHeartbeats 8000000 in
set_option maxRecDepth 100000 in
theorem jqa.calls (k : Nat) (A0 : Option Addr) (c0 : Nat) (l0 : List (S52)) (a1 : Int) (a2 : Int) (r : List Int) (w : World) (hr0 : Kd.C k52 w A0 l0.length l0) (hc0 : l0.length ≤ c0) (h : jqa.f k l0 a1 a2 = some r) :
  Calls Try.prog 82 #[.slice A0 l0.length c0, .int .i64 a1, .int .i64 a2] w fun e w'=>∃ v0_:Value,e=.returned (v0_)∧Kd.R (Kd.int .i64) 3 w' w.heap.size (fun _=>True) v0_ r∧Below w.heap.size w w':=by
 have HR0:=am hr0
 have HC0:=am hc0
 clear hr0 hc0
 have HB:=am (Below.refl w.heap.size w)
 have H:(jqa.l0 k l0 a2 (([]:List Int)) a1)=some r:=h
 clear h
 obtain ⟨y241,hy241⟩:∃ y_:List Int,y_=(([]:List Int)):=⟨_,rfl⟩
 replace H:(jqa.l0 k l0 a2 y241 a1)=some r:=by first |(rw [hy241];with_reducible exact H) |(have H2_:=(Option.bind_some _ _).symm.trans H;rw [hy241];with_reducible exact H2_) |(have H2_:=(Option.bind_some _ _).symm.trans H;with_reducible exact H2_) | with_reducible exact H |(rw [hy241];exact H) | exact H
 have Ny241:=am hy241
 clear hy241
 have H':=am H
 clear H
 go_enter Try.func82,Try.ntmps82
 go_wp2_with (first |((with_reducible refine jO (N:=9) rfl ?_);refine Kd.R_lit (Kd.int .i64) _ 3 ?hg (N:=9) ?hd (xs:=([]:List Int)) (inner:=[]) (ok:=fun _=>True) (okp:=fun _=>True) ?hr ?hp (fun _ hk=>hk) trivial (Below.refl _ _) (Nat.le_refl _) (by simp) ?_;(case hd=>rfl);(case hg=>rfl);(case hr=>exact Y7);(case hp=>exact (Reps.none _ _));intro v242 w4 ho5 hb hg_ hnew_;clear hg_ hnew_;(first | rw [← Ny241.out] at ho5 |(simp only [Int.reduceToNat] at ho5;rw [← Ny241.out] at ho5));have HO243:=am (Kd.jLa ho5 (jL (bq)));replace HB:=am (jd (bq) hb);clear hb ho5))
 go_loopg [7,8] k (fun kq v7 v8 w'=>∃ (x7_1:List Int) (x8_1:Int),v8=.int .i64 x8_1∧jv (jqa.l0 kq l0 a2 x7_1 x8_1=some r)∧jv (kq≤k)∧jv (Kd.R (Kd.int .i64) 3 w' w.heap.size (fun _=>True) v7 x7_1)∧jv (Below w.heap.size w w'))
 case atStart=>exact ⟨(y241),(a1),(sq),H',⟨Nat.le_refl _⟩,⟨rq HO243.out⟩,⟨bq⟩⟩
 case round =>
  clear H'
  try clear p2
  obtain ⟨x7_1,x8_1,rfl,HA,HK1,HO_7,HB⟩:=hrel
  cases gk with
  | zero=>exact absurd HA.out (by simp [jqa.l0])
  | succ k1 =>
   have H:=HA.out
   clear HA
   simp only [jqa.l0] at H
   by_cases c6:x8_1<a2
   ·rw [if_pos c6] at H
    have c6b0:decide (x8_1<a2)=true:=dzT c6
    clear c6
    by_cases c7:x7_1.length<17592186044416
    ·rw [if_pos c7] at H
     have LMc7:=am c7
     clear c7
     obtain ⟨y244,hy244⟩:∃ y_:List Int,y_=(x7_1 ++ [x8_1]):=⟨_,rfl⟩
     replace H:((jY.f k1 l0 x8_1).bind fun t247=>(jqa.l0 k1 l0 a2 y244 t247))=some r:=by first |(rw [hy244];with_reducible exact H) |(have H2_:=(Option.bind_some _ _).symm.trans H;rw [hy244];with_reducible exact H2_) |(have H2_:=(Option.bind_some _ _).symm.trans H;with_reducible exact H2_) | with_reducible exact H |(rw [hy244];exact H) | exact H
     have Ny244:=am hy244
     clear hy244
     replace H:=bzS H
     obtain ⟨t247,A80,H⟩:=H
     replace H:(jqa.l0 k1 l0 a2 y244 t247)=some r:=H
     have A8:=am A80
     clear A80
     have H':=am H
     clear H
     go_wp2_with (first |((with_reducible refine jcb (b:=.append) (xs:=#[.tmp 17, .tmp 19]) rfl ?_);at_builtin;refine Kd.jVb (Kd.int .i64) (w0:=w) w.heap.size rfl (.tmp 17) (.tmp 19) 40 3 (.int .i64 0) 8 rfl Try.underlying40 info3 rfl (by decide) (by omega) u7 x7_1 x8_1 [.int .i64 x8_1] (fun _=>True) (fun _=>False) rfl rfl ?aP (fun _ hk=>hk.elim) ?aF ?aO ?aB ?aS ?aL ?_;(case aP=>exact rfl);(case aB=>exact (bq));(case aF=>exact (fun _ _=>trivial));(case aO=>exact (rq HO_7.out));(case aS=>exact (jL (bq)));(case aL=>have:=LMc7.out;omega);intro v245 w9 ho hb hg hat;rw [← Ny244.out] at ho;have n0_:=am (hb);have n1_:=am (ho);clear HB HO_7;have HB:=n0_;have HO246:=n1_;clear n0_ n1_ ho hb hg hat) |((with_reducible refine jf (f:=62) rfl ?_);refine gL (some 16) Try.func62 #[.slice A0 l0.length c0, .int .i64 x8_1] ?_;(with_reducible refine (jY.calls k1 _ _ l0 x8_1 t247 _ ?side1 ?side2 A8.out).mono ?_);(case side1=>exact cq (Kd.jJ HR0.out HB.out));(case side2=>exact HC0.out);rintro e w' ⟨rfl,⟨nd,rfl⟩⟩;refine ⟨_,rfl,?_⟩))
     go_roundg k1
     case measure=>have:=HK1.out;omega
     case rel=>exact ⟨(y244),(t247),(sq),H',⟨by have:=HK1.out;omega⟩,⟨rq HO246.out⟩,⟨bq⟩⟩
    ·rw [if_neg c7] at H
     exact absurd H (by simp)
   ·rw [if_neg c6] at H
    have c6b0:decide (x8_1<a2)=false:=dzF c6
    clear c6
    obtain rfl:=Option.some.inj H
    go_wp2
    go_ret
    exact ⟨_,Y0,rq HO_7.out,bq⟩
def jxa.go (p : List S52) : List Int → Int → Int → Option (Option Int)
 | [],ex,_=>some (some ex)
 | k :: ks,ex,last=>if 0≤k then if k<(p.length:Int) then
   if (jb p k).f1=8 then if last≤8 then jxa.go p ks (ex+1) (jb p k).f1 else some none
   else if (jb p k).f1=9 then if last=8 then jxa.go p ks ex (jb p k).f1 else some none
   else if (jb p k).f1=10 then if last<10 then jxa.go p ks ex (jb p k).f1 else some none
   else some none
  else none else none
def jxa.f (l0 : List S52) (l1 : List Int) : Option Bool := if 1 ≤ l1.length then (jxa.go l0 (l1.drop 1) 0 7).bind fun r => match r with | none => some false | some ex => some (decide (1 < l1.length) && decide (ex ≤ 6)) else none
theorem jxa.step {p : List S52} {l : List Int} {k : Nat} {ex last : Int} {r : Option Int} (hk : k < l.length) (h : jxa.go p (l.drop k) ex last = some r) : jxa.go p (l[k] :: l.drop (k + 1)) ex last = some r := by
 rw [← List.drop_eq_getElem_cons hk];exact h
set_option maxHeartbeats 8000000 in
set_option maxRecDepth 100000 in
theorem jxa.calls (A0 : Option Addr) (c0 : Nat) (l0 : List S52) (A1 : Option Addr) (c1 : Nat) (l1 : List Int) (r : Bool) (w : World) (hr0 : Kd.C k52 w A0 l0.length l0) (hc0 : l0.length ≤ c0) (hr1 : Kd.C (Kd.int .i64) w A1 l1.length l1) (hc1 : l1.length ≤ c1) (h : jxa.f l0 l1 = some r) :
  Calls Try.prog 83 #[.slice A0 l0.length c0, .slice A1 l1.length c1] w fun e w'=>e=.returned (.bool r)∧jEa w w':=by
 have hu52:=Try.underlying52
 have hm:l1.length≤9223372036854775807:=Kd.C_max hr1
 simp only [jxa.f] at h
 by_cases h1:1≤l1.length
 ·rw [if_pos h1] at h
  obtain ⟨q,hq,h⟩:=bzS h
  have HR0:=am hr0
  have HR1:=am hr1
  have H0:=am hq
  have HZ:=am h
  have h1b:(1:Int)≤(l1.length:Int):=by omega
  obtain ⟨i03,hi03,_,hsz3,_⟩:=info_parts info3
  obtain ⟨A',hcut,hA',hC'⟩:=print_drop_of (P:=Try.prog) (Value.int .i64) (0:Int) 40 3 .i64 Try.underlying40 hi03 hsz3 A1 c1 l1 1 (by omega) h1b hc1
  replace hA':=hA' _ (Kd.reads_of_C hr1)
  rw [show ((1:Int)).toNat=1 from rfl] at hcut hA' hC'
  generalize hl2:l1.drop 1=l2 at hcut hA' hC' H0
  have hdl:l2.length<l1.length:=by rw [← hl2,List.length_drop];omega
  clear hl2
  have HS:=am hA'
  clear hr0 hr1 hq h hA' hi03 hsz3
  go_enter Try.func83,Try.ntmps83
  go_wp2
  go_loop [5,6,13] (fun i5 i6 i13=>∃ (k:Nat) (ex last:Int),i13=.int .i64 k∧i5=.int .i64 ex∧i6=.int .i64 last∧k≤l2.length∧0≤ex∧ex≤(k:Int)∧jv (jxa.go l0 (l2.drop k) ex last=some q)) (fun _ _ i13=>l2.length - (intOf i13).toNat)
  case atStart=>exact ⟨0,0,7,rfl,rfl,rfl,Nat.zero_le _,by omega,by omega,H0⟩
  case round =>
   clear H0
   obtain ⟨k,ex,last,rfl,rfl,rfl,hk,hx0,hx1,HA⟩:=hrel
   by_cases hlt:k<l2.length
   ·have HB:=am (jxa.step hlt HA.out)
    clear HA
    have HC:=HS.out
    obtain ⟨ad,rfl,hx⟩:=Kd.jFb (Kd.C_of_reads (h1:=fun _=>rfl) HC) (k:Int) (by omega) (by omega)
    have hrd:rd l2 (k:Int)=l2[k]:=by simp only [rd,Int.toNat_natCast,List.getD_eq_getElem?_getD,List.getElem?_eq_getElem hlt,Option.getD_some]
    rw [hrd,Int.toNat_natCast] at hx
    clear hrd HC
    have hgo:=HB.out
    generalize l2[k]=x at hgo hx
    simp only [jxa.go] at hgo
    clear HB
    by_cases h0:0≤x
    ·rw [if_pos h0] at hgo
     by_cases h2:x<(l0.length:Int)
     ·rw [if_pos h2] at hgo
      obtain ⟨ad0,rfl,hy0,hy1,hy2,hy3⟩:=jX HR0.out x h0 h2
      generalize hkd:(jb l0 x).f1=kd at hgo hy1
      clear hkd
      have q2:=ezT h2
      have q0:=ezT h0
      clear h0 h2
      by_cases e8:kd=8
      ·subst e8
       rw [if_pos rfl] at hgo
       by_cases hl:last≤8
       ·rw [if_pos hl] at hgo
        have hlb:=dzT hl
        clear hl
        have HG:=am hgo
        clear hgo HZ
        go_wp2
        go_round
        case rel=>exact ⟨k+1,ex+1,_,by go_num,rfl,rfl,hlt,by omega,by omega,HG⟩
        case measure=>simp [intOf];omega
       ·rw [if_neg hl] at hgo
        have hlb:=dzF hl
        clear hl
        obtain rfl:none=q:=by simpa using hgo
        have HR:=am (by simpa using HZ.out:r=false)
        clear hgo HZ
        go_wp2
        go_ret
        exact ⟨by rw [HR.out];rfl,jEa.refl _⟩
      ·rw [if_neg e8] at hgo
       have e8b:(kd == 8)=false:=beq_eq_false_iff_ne.2 e8
       clear e8
       by_cases e9:kd=9
       ·subst e9
        rw [if_pos rfl] at hgo
        by_cases hl:last=8
        ·rw [if_pos hl] at hgo
         have hlb:(last == 8)=true:=beq_iff_eq.2 hl
         clear hl
         have HG:=am hgo
         clear hgo HZ
         go_wp2
         go_round
         case rel=>exact ⟨k+1,ex,_,by go_num,rfl,rfl,hlt,by omega,by omega,HG⟩
         case measure=>simp [intOf];omega
        ·rw [if_neg hl] at hgo
         have hlb:(last == 8)=false:=beq_eq_false_iff_ne.2 hl
         clear hl
         obtain rfl:none=q:=by simpa using hgo
         have HR:=am (by simpa using HZ.out:r=false)
         clear hgo HZ
         go_wp2
         go_ret
         exact ⟨by rw [HR.out];rfl,jEa.refl _⟩
       ·rw [if_neg e9] at hgo
        have e9b:(kd == 9)=false:=beq_eq_false_iff_ne.2 e9
        clear e9
        by_cases e10:kd=10
        ·subst e10
         rw [if_pos rfl] at hgo
         by_cases hl:last<10
         ·rw [if_pos hl] at hgo
          have hlb:=dzT hl
          clear hl
          have HG:=am hgo
          clear hgo HZ
          go_wp2
          go_round
          case rel=>exact ⟨k+1,ex,_,by go_num,rfl,rfl,hlt,by omega,by omega,HG⟩
          case measure=>simp [intOf];omega
         ·rw [if_neg hl] at hgo
          have hlb:=dzF hl
          clear hl
          obtain rfl:none=q:=by simpa using hgo
          have HR:=am (by simpa using HZ.out:r=false)
          clear hgo HZ
          go_wp2
          go_ret
          exact ⟨by rw [HR.out];rfl,jEa.refl _⟩
        ·rw [if_neg e10] at hgo
         have e10b:(kd == 10)=false:=beq_eq_false_iff_ne.2 e10
         clear e10
         obtain rfl:none=q:=by simpa using hgo
         have HR:=am (by simpa using HZ.out:r=false)
         clear hgo HZ
         go_wp2
         go_ret
         exact ⟨by rw [HR.out];rfl,jEa.refl _⟩
     ·rw [if_neg h2] at hgo
      cases hgo
    ·rw [if_neg h0] at hgo
     cases hgo
   ·have hgo:=HA.out
    rw [List.drop_eq_nil_of_le (by omega)] at hgo
    obtain rfl:some ex=q:=by simpa [jxa.go] using hgo
    clear hgo HA
    have HY:=am (Option.some.inj HZ.out)
    clear HZ
    by_cases h1c:1<l1.length
    ·have hb1:=dzT h1c
     go_wp2
     go_ret
     exact ⟨by rw [← HY.out,hb1];rfl,jEa.refl _⟩
    ·have hb1:=dzF h1c
     go_wp2
     go_ret
     exact ⟨by rw [← HY.out,hb1];rfl,jEa.refl _⟩
 ·rw [if_neg h1] at h
  cases h
mutual
def je.l0 : Nat → List (S52) → Bool → List Int → Int → Option (Bool)
 | 0,_,_,_,_=>none
 | k+1,x0,x3,x9,x10=>if x10<(x9.length:Int) then (if 0≤x10 then (if 0≤(rd x9 x10) then (if (rd x9 x10)<(x0.length:Int) then (if ((jb x0 (rd x9 x10)).f1)=5 then (je.j1 k x0 x3 x9 x10 (rd x9 x10) ((jb x0 (rd x9 x10)).f1) ((jb x0 (rd x9 x10)).f1) (((jb x0 (rd x9 x10)).f1) == 5)) else (je.j1 k x0 x3 x9 x10 (rd x9 x10) ((jb x0 (rd x9 x10)).f1) ((jb x0 (rd x9 x10)).f1) (((jb x0 (rd x9 x10)).f1) == 6))) else (none)) else (none)) else (none)) else (some true)
def je.j1 : Nat → List (S52) → Bool → List Int → Int → Int → Int → Int → Bool → Option (Bool)
 | 0,_,_,_,_,_,_,_,_=>none
 | k+1,x0,x3,x9,x10,x11,x12,x35,x36=>if x36=true then (if x3=true then (je.l0 k x0 x3 x9 (wrap64 (x10+1))) else (some false)) else (if x35=8 then (je.j2 k x0 x3 x9 x10 x11 x12 x35 (x35 == 8)) else (if x35=9 then (je.j2 k x0 x3 x9 x10 x11 x12 x35 (x35 == 9)) else (je.j2 k x0 x3 x9 x10 x11 x12 x35 (x35 == 10))))
def je.j2 : Nat → List (S52) → Bool → List Int → Int → Int → Int → Int → Bool → Option (Bool)
 | 0,_,_,_,_,_,_,_,_=>none
 | k+1,x0,x3,x9,x10,x11,x12,x35,x41=>if x41=true then (some false) else (if x35=7 then ((jN.f k x0 x11).bind fun t253=>((jxa.f x0 t253).bind fun t256=>(if t256=true then (je.l1 k x0 x3 x9 x10 t253 t253 (t253.length:Int) 0) else (some false)))) else (if x35=11 then (je.j4 k x0 x3 x9 x10 x11 x12 (x35 == 11)) else (je.j4 k x0 x3 x9 x10 x11 x12 (x35 == 12))))
def je.l1 : Nat → List (S52) → Bool → List Int → Int → List Int → List Int → Int → Int → Option (Bool)
 | 0,_,_,_,_,_,_,_,_=>none
 | k+1,x0,x3,x9,x10,x13,x54,x55,x56=>if x56<x55 then (if 0≤x56 then (if x56<(x54.length:Int) then ((jY.f k x0 (rd x54 x56)).bind fun t258=>((je.f k x0 (wrap64 ((rd x54 x56)+1)) t258 x3).bind fun t259=>(if t259=true then (je.l1 k x0 x3 x9 x10 x13 x54 x55 (wrap64 (x56+1))) else (some false)))) else (none)) else (none)) else (je.l0 k x0 x3 x9 (wrap64 ((wrap64 (x10+(wrap64 ((x13.length:Int) - 1))))+1)))
def je.j4 : Nat → List (S52) → Bool → List Int → Int → Int → Int → Bool → Option (Bool)
 | 0,_,_,_,_,_,_,_=>none
 | k+1,x0,x3,x9,x10,x11,x12,x75=>if x75=true then ((jY.f k x0 x11).bind fun t260=>(if x3=true then ((je.f k x0 (wrap64 (x11+1)) t260 true).bind fun t261=>(if t261=true then (je.l0 k x0 x3 x9 (wrap64 (x10+1))) else (some false))) else ((je.f k x0 (wrap64 (x11+1)) t260 (x12 == 12)).bind fun t262=>(if t262=true then (je.l0 k x0 x3 x9 (wrap64 (x10+1))) else (some false))))) else (je.l0 k x0 x3 x9 (wrap64 (x10+1)))
def je.f : Nat → List (S52) → Int → Int → Bool → Option (Bool)
 | 0,_,_,_,_=>none
 | k+1,l0,a1,a2,a3=>(jqa.f k l0 a1 a2).bind fun t248=>(je.l0 k l0 a3 t248 0)
end
set_option maxHeartbeats 8000000 in
set_option maxRecDepth 100000 in
theorem je.calls (k : Nat) : ∀ (A0 : Option Addr) (c0 : Nat) (l0 : List (S52)) (a1 : Int) (a2 : Int) (a3 : Bool) (r : Bool) (w : World) (hr0 : Kd.C k52 w A0 l0.length l0) (hc0 : l0.length ≤ c0) (h : je.f k l0 a1 a2 a3 = some r),
  Calls Try.prog 55 #[.slice A0 l0.length c0, .int .i64 a1, .int .i64 a2, .bool a3] w fun e w'=>e=.returned (.bool r)∧Below w.heap.size w w':=by
 induction k using Nat.strongRecOn with
 | _ k ih =>
 intro A0 c0 l0 a1 a2 a3 r w hr0 hc0 h
 cases k with
 | zero=>exact absurd h (by simp [je.f])
 | succ k =>
 simp only [je.f] at h
 have HR0:=am hr0
 have HC0:=am hc0
 clear hr0 hc0
 have HB:=am (Below.refl w.heap.size w)
 have H:((jqa.f k l0 a1 a2).bind fun t248=>(je.l0 k l0 a3 t248 0))=some r:=h
 clear h
 replace H:=bzS H
 obtain ⟨t248,A50,H⟩:=H
 replace H:(je.l0 k l0 a3 t248 0)=some r:=H
 have A5:=am A50
 clear A50
 have H':=am H
 clear H
 go_enter Try.func55,Try.ntmps55
 go_wp2_with (first |((with_reducible refine jf (f:=82) rfl ?_);refine gL (some 19) Try.func82 #[.slice A0 l0.length c0, .int .i64 a1, .int .i64 a2] ?_;(with_reducible refine (jqa.calls k _ _ l0 a1 a2 t248 _ ?side1 ?side2 A5.out).mono ?_);(case side1=>exact Y11);(case side2=>exact HC0.out);rintro e w6 ⟨v249,rfl,ho0,hb⟩;refine ⟨_,rfl,?_⟩;have HO250:=am (Kd.jLa ho0 (jL (bq)));replace HB:=am (jd (bq) hb);(try clear hb);(try clear hb2);(try clear hk);(try clear hi);(try clear ho0)))
 go_loopg [10] k (fun kq v10 w'=>∃ (x10_1:Int),v10=.int .i64 x10_1∧jv (je.l0 kq l0 a3 t248 x10_1=some r)∧jv (kq≤k)∧jv (Kd.R (Kd.int .i64) 3 w' w.heap.size (fun _=>True) v249 t248)∧jv (Below w.heap.size w w'))
 case atStart=>exact ⟨(0),(sq),H',⟨Nat.le_refl _⟩,⟨rq HO250.out⟩,⟨bq⟩⟩
 case round =>
  clear H'
  try clear p2
  try clear c5
  obtain ⟨x10_1,rfl,HA,HK1,HO_9,HB⟩:=hrel
  cases gk with
  | zero=>exact absurd HA.out (by simp [je.l0])
  | succ k1 =>
   have H:=HA.out
   clear HA
   simp only [je.l0] at H
   by_cases c7:x10_1<(t248.length:Int)
   ·rw [if_pos c7] at H
    have c7b0:decide (x10_1<(t248.length:Int))=true:=dzT c7
    clear c7
    by_cases c8:0≤x10_1
    ·rw [if_pos c8] at H
     have c8b0:decide (0≤x10_1)=true:=dzT c8
     clear c8
     by_cases c9:0≤(rd t248 x10_1)
     ·rw [if_pos c9] at H
      have c9b0:decide (0≤(rd t248 x10_1))=true:=dzT c9
      clear c9
      by_cases c10:(rd t248 x10_1)<(l0.length:Int)
      ·rw [if_pos c10] at H
       have c10b0:decide ((rd t248 x10_1)<(l0.length:Int))=true:=dzT c10
       clear c10
       have HC11:=am H
       clear H
       obtain ⟨Ao12,co12,eo12⟩:=Kd.jOa HO_9.out
       subst eo12
       have p251:0≤(x10_1:Int):=ozD (uq)
       have q251:x10_1<(t248.length:Int):=ozD (uq)
       obtain ⟨ad251,e251,hx251_0⟩:=Kd.jFb (Kd.jG HO_9.out).2.2 x10_1 p251 q251
       cases e251
       replace p251:=ezT p251
       replace q251:=ezT q251
       have p252:0≤((rd t248 x10_1):Int):=ozD (uq)
       have q252:(rd t248 x10_1)<(l0.length:Int):=ozD (uq)
       obtain ⟨ad252,e252,hx252_0,hx252_1,hx252_2,hx252_3⟩:=jX HR0.out (rd t248 x10_1) p252 q252
       cases e252
       replace hx252_0:=cb HB.out hx252_0
       replace hx252_1:=cb HB.out hx252_1
       replace hx252_2:=cb HB.out hx252_2
       replace hx252_3:=cb HB.out hx252_3
       replace p252:=ezT p252
       replace q252:=ezT q252
       go_upto_if 36 with (fail)
       go_cut [36] (fun v36 wc=>∃ (kq:Nat) (x36_10:Bool),v36=.bool x36_10∧jv (je.j1 kq l0 a3 t248 x10_1 (rd t248 x10_1) ((jb l0 (rd t248 x10_1)).f1) ((jb l0 (rd t248 x10_1)).f1) x36_10=some r)∧jv (kq≤k1)∧jv (Kd.R (Kd.int .i64) 3 wc w.heap.size (fun _=>True) (.slice (some ad251) t248.length co12) t248)∧jv (Below w.heap.size w wc))
       case first =>
        have H:=HC11.out
        clear HC11
        by_cases c13:((jb l0 (rd t248 x10_1)).f1)=5
        ·rw [if_pos c13] at H
         have c13b0:(((jb l0 (rd t248 x10_1)).f1) == 5)=true:=beq_iff_eq.mpr c13
         have c13b1:(((jb l0 (rd t248 x10_1)).f1) != 5)=false:=bne_eq_false_iff_eq.mpr c13
         clear c13
         (first | rw [c13b0] |(simp only [jnb,jrb];rw [c13b0]) | skip)
         have H':=am H
         clear H
         go_wp2
         go_meet
         case rel=>exact ⟨_,((((jb l0 (rd t248 x10_1)).f1) == 5)),(sq),H',⟨by have:=HK1.out;first | omega | exact Nat.le_refl _⟩,⟨rq HO_9.out⟩,⟨bq⟩⟩
        ·rw [if_neg c13] at H
         have c13b0:(((jb l0 (rd t248 x10_1)).f1) == 5)=false:=beq_eq_false_iff_ne.mpr c13
         have c13b1:(((jb l0 (rd t248 x10_1)).f1) != 5)=true:=bne_iff_ne.mpr c13
         (first | rw [c13b0] |(simp only [jnb,jrb];rw [c13b0]) | skip)
         have H':=am H
         clear H
         go_wp2
         go_meet
         case rel=>exact ⟨_,((((jb l0 (rd t248 x10_1)).f1) == 6)),(sq),H',⟨by have:=HK1.out;first | omega | exact Nat.le_refl _⟩,⟨rq HO_9.out⟩,⟨bq⟩⟩
       case rest =>
        clear HC11
        try clear c1
        try clear p2
        try clear q2
        try clear hx2
        try clear c5
        try clear c7
        try clear c7b0
        try clear c8
        try clear c8b0
        try clear c9
        try clear c9b0
        try clear c10
        try clear c10b0
        try clear c13
        try clear c13b0
        try clear c13b1
        try clear hx251_0
        try clear hx252_0
        try clear hx252_1
        try clear hx252_2
        try clear hx252_3
        try clear p2
        try clear p251
        try clear p252
        try clear q251
        try clear q252
        obtain ⟨kq,x36_10,rfl,HA,HJ10,HO_9,HB⟩:=hcut
        cases kq with
        | zero=>exact absurd HA.out (by simp [je.j1])
        | succ kj10 =>
         have H:=HA.out
         clear HA
         simp only [je.j1] at H
         by_cases c14:x36_10=true
         ·subst c14
          have H1:(if a3=true then (je.l0 kj10 l0 a3 t248 (wrap64 (x10_1+1))) else (some false))=some r:=by rw [if_pos rfl] at H;exact H
          clear H
          have H:=H1
          clear H1
          by_cases c15:a3=true
          ·subst c15
           have H1:(je.l0 kj10 l0 true t248 (wrap64 (x10_1+1)))=some r:=by rw [if_pos rfl] at H;exact H
           clear H
           have H:=H1
           clear H1
           have H':=am H
           clear H
           go_wp2
           go_roundg kj10
           case measure=>have:=HK1.out;have:=HJ10.out;omega
           case rel=>exact ⟨(wrap64 (x10_1+1)),(sq),H',⟨by have:=HK1.out;have:=HJ10.out;omega⟩,⟨rq HO_9.out⟩,⟨bq⟩⟩
          ·replace c15:=Bool.eq_false_iff.mpr c15
           subst c15
           have H1:(some false)=some r:=by rw [if_neg (show ¬ (false=true) by decide)] at H;exact H
           clear H
           have H:=H1
           clear H1
           obtain rfl:=Option.some.inj H
           go_wp2
           go_ret
           exact ⟨Y0,bq⟩
         ·replace c14:=Bool.eq_false_iff.mpr c14
          subst c14
          have H1:(if ((jb l0 (rd t248 x10_1)).f1)=8 then (je.j2 kj10 l0 a3 t248 x10_1 (rd t248 x10_1) ((jb l0 (rd t248 x10_1)).f1) ((jb l0 (rd t248 x10_1)).f1) (((jb l0 (rd t248 x10_1)).f1) == 8)) else (if ((jb l0 (rd t248 x10_1)).f1)=9 then (je.j2 kj10 l0 a3 t248 x10_1 (rd t248 x10_1) ((jb l0 (rd t248 x10_1)).f1) ((jb l0 (rd t248 x10_1)).f1) (((jb l0 (rd t248 x10_1)).f1) == 9)) else (je.j2 kj10 l0 a3 t248 x10_1 (rd t248 x10_1) ((jb l0 (rd t248 x10_1)).f1) ((jb l0 (rd t248 x10_1)).f1) (((jb l0 (rd t248 x10_1)).f1) == 10))))=some r:=by rw [if_neg (show ¬ (false=true) by decide)] at H;exact H
          clear H
          have H:=H1
          clear H1
          have HC16:=am H
          clear H
          go_upto_if 41 with (fail)
          go_cut [41] (fun v41 wc=>∃ (kq:Nat) (x41_15:Bool),v41=.bool x41_15∧jv (je.j2 kq l0 a3 t248 x10_1 (rd t248 x10_1) ((jb l0 (rd t248 x10_1)).f1) ((jb l0 (rd t248 x10_1)).f1) x41_15=some r)∧jv (kq≤kj10)∧jv (Kd.R (Kd.int .i64) 3 wc w.heap.size (fun _=>True) (.slice (some ad251) t248.length co12) t248)∧jv (Below w.heap.size w wc))
          case first =>
           have H:=HC16.out
           clear HC16
           by_cases c17:((jb l0 (rd t248 x10_1)).f1)=8
           ·rw [if_pos c17] at H
            have c17b0:(((jb l0 (rd t248 x10_1)).f1) == 8)=true:=beq_iff_eq.mpr c17
            have c17b1:(((jb l0 (rd t248 x10_1)).f1) != 8)=false:=bne_eq_false_iff_eq.mpr c17
            clear c17
            (first | rw [c17b0] |(simp only [jnb,jrb];rw [c17b0]) | skip)
            have H':=am H
            clear H
            go_wp2
            go_meet
            case rel=>exact ⟨_,((((jb l0 (rd t248 x10_1)).f1) == 8)),(sq),H',⟨by have:=HK1.out;have:=HJ10.out;first | omega | exact Nat.le_refl _⟩,⟨rq HO_9.out⟩,⟨bq⟩⟩
           ·rw [if_neg c17] at H
            have c17b0:(((jb l0 (rd t248 x10_1)).f1) == 8)=false:=beq_eq_false_iff_ne.mpr c17
            have c17b1:(((jb l0 (rd t248 x10_1)).f1) != 8)=true:=bne_iff_ne.mpr c17
            (first | rw [c17b0] |(simp only [jnb,jrb];rw [c17b0]) | skip)
            by_cases c18:((jb l0 (rd t248 x10_1)).f1)=9
            ·rw [if_pos c18] at H
             have c18b0:(((jb l0 (rd t248 x10_1)).f1) == 9)=true:=beq_iff_eq.mpr c18
             have c18b1:(((jb l0 (rd t248 x10_1)).f1) != 9)=false:=bne_eq_false_iff_eq.mpr c18
             clear c18
             have H':=am H
             clear H
             go_wp2
             go_meet
             case rel=>exact ⟨_,((((jb l0 (rd t248 x10_1)).f1) == 9)),(sq),H',⟨by have:=HK1.out;have:=HJ10.out;first | omega | exact Nat.le_refl _⟩,⟨rq HO_9.out⟩,⟨bq⟩⟩
            ·rw [if_neg c18] at H
             have c18b0:(((jb l0 (rd t248 x10_1)).f1) == 9)=false:=beq_eq_false_iff_ne.mpr c18
             have c18b1:(((jb l0 (rd t248 x10_1)).f1) != 9)=true:=bne_iff_ne.mpr c18
             have H':=am H
             clear H
             go_wp2
             go_meet
             case rel=>exact ⟨_,((((jb l0 (rd t248 x10_1)).f1) == 10)),(sq),H',⟨by have:=HK1.out;have:=HJ10.out;first | omega | exact Nat.le_refl _⟩,⟨rq HO_9.out⟩,⟨bq⟩⟩
          case rest =>
           clear HC16
           try clear c1
           try clear p2
           try clear q2
           try clear hx2
           try clear c5
           try clear p6
           try clear c7
           try clear c7b0
           try clear c8
           try clear c8b0
           try clear c9
           try clear c9b0
           try clear c10
           try clear c10b0
           try clear c13
           try clear c13b0
           try clear c13b1
           try clear c14
           try clear c15
           try clear c17
           try clear c17b0
           try clear c17b1
           try clear c18
           try clear c18b0
           try clear c18b1
           try clear hx251_0
           try clear hx252_0
           try clear hx252_1
           try clear hx252_2
           try clear hx252_3
           try clear p2
           try clear p251
           try clear p252
           try clear q2
           try clear q251
           try clear q252
           obtain ⟨kq,x41_15,rfl,HA,HJ15,HO_9,HB⟩:=hcut
           cases kq with
           | zero=>exact absurd HA.out (by simp [je.j2])
           | succ kj15 =>
            have H:=HA.out
            clear HA
            simp only [je.j2] at H
            by_cases c19:x41_15=true
            ·subst c19
             have H1:(some false)=some r:=by rw [if_pos rfl] at H;exact H
             clear H
             have H:=H1
             clear H1
             obtain rfl:=Option.some.inj H
             go_wp2
             go_ret
             exact ⟨Y0,bq⟩
            ·replace c19:=Bool.eq_false_iff.mpr c19
             subst c19
             have H1:(if ((jb l0 (rd t248 x10_1)).f1)=7 then ((jN.f kj15 l0 (rd t248 x10_1)).bind fun t253=>((jxa.f l0 t253).bind fun t256=>(if t256=true then (je.l1 kj15 l0 a3 t248 x10_1 t253 t253 (t253.length:Int) 0) else (some false)))) else (if ((jb l0 (rd t248 x10_1)).f1)=11 then (je.j4 kj15 l0 a3 t248 x10_1 (rd t248 x10_1) ((jb l0 (rd t248 x10_1)).f1) (((jb l0 (rd t248 x10_1)).f1) == 11)) else (je.j4 kj15 l0 a3 t248 x10_1 (rd t248 x10_1) ((jb l0 (rd t248 x10_1)).f1) (((jb l0 (rd t248 x10_1)).f1) == 12))))=some r:=by rw [if_neg (show ¬ (false=true) by decide)] at H;exact H
             clear H
             have H:=H1
             clear H1
             by_cases c20:((jb l0 (rd t248 x10_1)).f1)=7
             ·rw [if_pos c20] at H
              have c20b0:(((jb l0 (rd t248 x10_1)).f1) == 7)=true:=beq_iff_eq.mpr c20
              have c20b1:(((jb l0 (rd t248 x10_1)).f1) != 7)=false:=bne_eq_false_iff_eq.mpr c20
              clear c20
              replace H:=bzS H
              obtain ⟨t253,A210,H⟩:=H
              replace H:((jxa.f l0 t253).bind fun t256=>(if t256=true then (je.l1 kj15 l0 a3 t248 x10_1 t253 t253 (t253.length:Int) 0) else (some false)))=some r:=H
              have A21:=am A210
              clear A210
              replace H:=bzS H
              obtain ⟨t256,A220,H⟩:=H
              replace H:(if t256=true then (je.l1 kj15 l0 a3 t248 x10_1 t253 t253 (t253.length:Int) 0) else (some false))=some r:=H
              have A22:=am A220
              clear A220
              by_cases c23:t256=true
              ·subst c23
               have H1:(je.l1 kj15 l0 a3 t248 x10_1 t253 t253 (t253.length:Int) 0)=some r:=by rw [if_pos rfl] at H;exact H
               clear H
               have H:=H1
               clear H1
               have H':=am H
               clear H
               go_wp2_with (first |((with_reducible refine jf (f:=68) rfl ?_);refine gL (some 49) Try.func68 #[.slice (some ad252) l0.length c0, .int .i64 (rd t248 x10_1)] ?_;(with_reducible refine (jN.calls kj15 _ _ l0 (rd t248 x10_1) t253 _ ?side1 ?side2 A21.out).mono ?_);(case side1=>exact cq (Kd.jJ HR0.out HB.out));(case side2=>exact HC0.out);rintro e w24 ⟨v254,rfl,ho0,hb⟩;refine ⟨_,rfl,?_⟩;have HO255:=am (Kd.jLa (Kd.jkb ho0 (Kd.R_lt (rq HO_9.out))) (jL (bq)));replace HO_9:=am (Kd.jNa (rq HO_9.out) (Kd.jlb ho0) hb);replace HB:=am (jd (bq) hb);(try clear hb);(try clear hb2);(try clear hk);(try clear hi);(try clear ho0);obtain ⟨Ao25,co25,eo25⟩:=Kd.jOa HO255.out;subst eo25) |((with_reducible refine jf (f:=83) rfl ?_);refine gL (some 52) Try.func83 #[.slice (some ad252) l0.length c0, .slice Ao25 t253.length co25] ?_;(with_reducible refine (jxa.calls _ _ l0 _ _ t253 true _ ?side1 ?side2 ?side3 ?side4 A22.out).mono ?_);(case side1=>exact cq (Kd.jJ HR0.out HB.out));(case side2=>exact HC0.out);(case side3=>exact cq (Kd.jG HO255.out).2.2);(case side4=>exact (Kd.jG HO255.out).2.1);rintro e w' ⟨rfl,⟨nd,rfl⟩⟩;refine ⟨_,rfl,?_⟩))
               go_loopg [56] kj15 (fun kq v56 w'=>∃ (x56_4:Int),v56=.int .i64 x56_4∧jv (je.l1 kq l0 a3 t248 x10_1 t253 t253 (t253.length:Int) x56_4=some r)∧jv (kq≤kj15)∧jv (Kd.R (Kd.int .i64) 3 w' w.heap.size (fun k_=>some k_≠((.slice Ao25 t253.length co25):Value).ownBlock∧some k_≠((.slice Ao25 t253.length co25):Value).ownBlock) (.slice (some ad251) t248.length co12) t248)∧jv (Kd.R (Kd.int .i64) 3 w' w.heap.size (fun k_=>some k_≠((.slice (some ad251) t248.length co12):Value).ownBlock) (.slice Ao25 t253.length co25) t253)∧jv (Kd.R (Kd.int .i64) 3 w' w.heap.size (fun k_=>some k_≠((.slice (some ad251) t248.length co12):Value).ownBlock) (.slice Ao25 t253.length co25) t253)∧jv (Below w.heap.size w w'))
               case atStart=>exact ⟨(0),(sq),H',⟨Nat.le_refl _⟩,⟨by (with_reducible repeat (first | apply Kd.jib | apply Kd.jhb | apply Kd.jfb));exact Kd.jGa HO_9.out (fun _ hk=>⟨hk.2,hk.2⟩)⟩,⟨by (with_reducible repeat (first | apply Kd.jib | apply Kd.jhb | apply Kd.jfb));exact Kd.jGa HO255.out (fun _ hk=>hk.2)⟩,⟨by (with_reducible repeat (first | apply Kd.jib | apply Kd.jhb | apply Kd.jfb));exact Kd.jGa HO255.out (fun _ hk=>hk.2)⟩,⟨bq⟩⟩
               case round =>
                clear H'
                try clear c1
                try clear c2
                try clear p2
                try clear q2
                try clear hx2
                try clear c5
                try clear c6
                try clear p6
                try clear c7
                try clear c7b0
                try clear c8
                try clear c8b0
                try clear c9
                try clear c9b0
                try clear c10
                try clear c10b0
                try clear c13
                try clear c13b0
                try clear c13b1
                try clear c14
                try clear c15
                try clear c17
                try clear c17b0
                try clear c17b1
                try clear c18
                try clear c18b0
                try clear c18b1
                try clear c19
                try clear c20
                try clear c20b0
                try clear c20b1
                try clear c23
                try clear p25
                try clear q25
                try clear hx25
                try clear hx251_0
                try clear hx252_0
                try clear hx252_1
                try clear hx252_2
                try clear hx252_3
                try clear p2
                try clear p251
                try clear p252
                try clear p6
                try clear q2
                try clear q251
                try clear q252
                obtain ⟨x56_4,rfl,HA,HK4,HO_9,HO_13,HO_54,HB⟩:=hrel
                cases gk with
                | zero=>exact absurd HA.out (by simp [je.l1])
                | succ k4 =>
                 have H:=HA.out
                 clear HA
                 simp only [je.l1] at H
                 by_cases c26:x56_4<(t253.length:Int)
                 ·rw [if_pos c26] at H
                  have c26b0:decide (x56_4<(t253.length:Int))=true:=dzT c26
                  clear c26
                  by_cases c27:0≤x56_4
                  ·rw [if_pos c27] at H
                   have c27b0:decide (0≤x56_4)=true:=dzT c27
                   clear c27
                   by_cases c28:x56_4<(t253.length:Int)
                   ·rw [if_pos c28] at H
                    have c28b0:decide (x56_4<(t253.length:Int))=true:=dzT c28
                    clear c28
                    replace H:=bzS H
                    obtain ⟨t258,A290,H⟩:=H
                    replace H:((je.f k4 l0 (wrap64 ((rd t253 x56_4)+1)) t258 a3).bind fun t259=>(if t259=true then (je.l1 k4 l0 a3 t248 x10_1 t253 t253 (t253.length:Int) (wrap64 (x56_4+1))) else (some false)))=some r:=H
                    have A29:=am A290
                    clear A290
                    replace H:=bzS H
                    obtain ⟨t259,A300,H⟩:=H
                    replace H:(if t259=true then (je.l1 k4 l0 a3 t248 x10_1 t253 t253 (t253.length:Int) (wrap64 (x56_4+1))) else (some false))=some r:=H
                    have A30:=am A300
                    clear A300
                    by_cases c31:t259=true
                    ·subst c31
                     have H1:(je.l1 k4 l0 a3 t248 x10_1 t253 t253 (t253.length:Int) (wrap64 (x56_4+1)))=some r:=by rw [if_pos rfl] at H;exact H
                     clear H
                     have H:=H1
                     clear H1
                     have H':=am H
                     clear H
                     have p257:0≤(x56_4:Int):=ozD (uq)
                     have q257:x56_4<(t253.length:Int):=ozD (uq)
                     obtain ⟨ad257,e257,hx257_0⟩:=Kd.jFb (Kd.jG HO_54.out).2.2 x56_4 p257 q257
                     cases e257
                     replace p257:=ezT p257
                     replace q257:=ezT q257
                     go_wp2_with (first |((with_reducible refine jf (f:=62) rfl ?_);refine gL (some 65) Try.func62 #[.slice (some ad252) l0.length c0, .int .i64 (rd t253 x56_4)] ?_;(with_reducible refine (jY.calls k4 _ _ l0 (rd t253 x56_4) t258 _ ?side1 ?side2 A29.out).mono ?_);(case side1=>exact cq (Kd.jJ HR0.out HB.out));(case side2=>exact HC0.out);rintro e w' ⟨rfl,⟨nd,rfl⟩⟩;refine ⟨_,rfl,?_⟩) |((with_reducible refine jf (f:=55) rfl ?_);refine gL (some 67) Try.func55 #[.slice (some ad252) l0.length c0, .int .i64 (wrap64 ((rd t253 x56_4)+1)), .int .i64 t258, .bool a3] ?_;(with_reducible refine (ih k4 (by have:=HK1.out;have:=HJ10.out;have:=HJ15.out;have:=HK4.out;omega) _ _ l0 (wrap64 ((rd t253 x56_4)+1)) t258 a3 true _ ?side1 ?side2 A30.out).mono ?_);(case side1=>exact cq (Kd.jJ HR0.out (bq)));(case side2=>exact HC0.out);rintro e w32 ⟨rfl,hb⟩;refine ⟨_,rfl,?_⟩;replace HO_9:=am (Kd.jP (rq HO_9.out) hb);replace HO_13:=am (Kd.jP (rq HO_13.out) hb);replace HO_54:=am (Kd.jP (rq HO_54.out) hb);replace HB:=am (jd (bq) hb);(try clear hb);(try clear hb2);(try clear hk);(try clear hi)))
                     go_roundg k4
                     case measure=>have:=HK1.out;have:=HJ10.out;have:=HJ15.out;have:=HK4.out;omega
                     case rel=>exact ⟨(wrap64 (x56_4+1)),(sq),H',⟨by have:=HK1.out;have:=HJ10.out;have:=HJ15.out;have:=HK4.out;omega⟩,⟨rq HO_9.out⟩,⟨rq HO_13.out⟩,⟨rq HO_54.out⟩,⟨bq⟩⟩
                    ·replace c31:=Bool.eq_false_iff.mpr c31
                     subst c31
                     have H1:(some false)=some r:=by rw [if_neg (show ¬ (false=true) by decide)] at H;exact H
                     clear H
                     have H:=H1
                     clear H1
                     obtain rfl:=Option.some.inj H
                     have p257:0≤(x56_4:Int):=ozD (uq)
                     have q257:x56_4<(t253.length:Int):=ozD (uq)
                     obtain ⟨ad257,e257,hx257_0⟩:=Kd.jFb (Kd.jG HO_54.out).2.2 x56_4 p257 q257
                     cases e257
                     replace p257:=ezT p257
                     replace q257:=ezT q257
                     go_wp2_with (first |((with_reducible refine jf (f:=62) rfl ?_);refine gL (some 65) Try.func62 #[.slice (some ad252) l0.length c0, .int .i64 (rd t253 x56_4)] ?_;(with_reducible refine (jY.calls k4 _ _ l0 (rd t253 x56_4) t258 _ ?side1 ?side2 A29.out).mono ?_);(case side1=>exact cq (Kd.jJ HR0.out HB.out));(case side2=>exact HC0.out);rintro e w' ⟨rfl,⟨nd,rfl⟩⟩;refine ⟨_,rfl,?_⟩) |((with_reducible refine jf (f:=55) rfl ?_);refine gL (some 67) Try.func55 #[.slice (some ad252) l0.length c0, .int .i64 (wrap64 ((rd t253 x56_4)+1)), .int .i64 t258, .bool a3] ?_;(with_reducible refine (ih k4 (by have:=HK1.out;have:=HJ10.out;have:=HJ15.out;have:=HK4.out;omega) _ _ l0 (wrap64 ((rd t253 x56_4)+1)) t258 a3 false _ ?side1 ?side2 A30.out).mono ?_);(case side1=>exact cq (Kd.jJ HR0.out (bq)));(case side2=>exact HC0.out);rintro e w33 ⟨rfl,hb⟩;refine ⟨_,rfl,?_⟩;replace HO_9:=am (Kd.jP (rq HO_9.out) hb);replace HO_13:=am (Kd.jP (rq HO_13.out) hb);replace HO_54:=am (Kd.jP (rq HO_54.out) hb);replace HB:=am (jd (bq) hb);(try clear hb);(try clear hb2);(try clear hk);(try clear hi)))
                     go_ret
                     exact ⟨Y0,bq⟩
                   ·rw [if_neg c28] at H
                    exact absurd H (by simp)
                  ·rw [if_neg c27] at H
                   exact absurd H (by simp)
                 ·rw [if_neg c26] at H
                  have c26b0:decide (x56_4<(t253.length:Int))=false:=dzF c26
                  clear c26
                  have H':=am H
                  clear H
                  go_wp2
                  go_roundg k4
                  case measure=>have:=HK1.out;have:=HJ10.out;have:=HJ15.out;have:=HK4.out;omega
                  case rel=>exact ⟨(wrap64 ((wrap64 (x10_1+(wrap64 ((t253.length:Int) - 1))))+1)),(sq),H',⟨by have:=HK1.out;have:=HJ10.out;have:=HJ15.out;have:=HK4.out;omega⟩,⟨by (with_reducible repeat (first | apply Kd.jib | apply Kd.jhb | apply Kd.jfb));exact Kd.jGa HO_9.out (fun _ hk=>trivial)⟩,⟨bq⟩⟩
              ·replace c23:=Bool.eq_false_iff.mpr c23
               subst c23
               have H1:(some false)=some r:=by rw [if_neg (show ¬ (false=true) by decide)] at H;exact H
               clear H
               have H:=H1
               clear H1
               obtain rfl:=Option.some.inj H
               go_wp2_with (first |((with_reducible refine jf (f:=68) rfl ?_);refine gL (some 49) Try.func68 #[.slice (some ad252) l0.length c0, .int .i64 (rd t248 x10_1)] ?_;(with_reducible refine (jN.calls kj15 _ _ l0 (rd t248 x10_1) t253 _ ?side1 ?side2 A21.out).mono ?_);(case side1=>exact cq (Kd.jJ HR0.out HB.out));(case side2=>exact HC0.out);rintro e w34 ⟨v254,rfl,ho0,hb⟩;refine ⟨_,rfl,?_⟩;have HO255:=am (Kd.jLa (Kd.jkb ho0 (Kd.R_lt (rq HO_9.out))) (jL (bq)));replace HO_9:=am (Kd.jNa (rq HO_9.out) (Kd.jlb ho0) hb);replace HB:=am (jd (bq) hb);(try clear hb);(try clear hb2);(try clear hk);(try clear hi);(try clear ho0);obtain ⟨Ao35,co35,eo35⟩:=Kd.jOa HO255.out;subst eo35) |((with_reducible refine jf (f:=83) rfl ?_);refine gL (some 52) Try.func83 #[.slice (some ad252) l0.length c0, .slice Ao35 t253.length co35] ?_;(with_reducible refine (jxa.calls _ _ l0 _ _ t253 false _ ?side1 ?side2 ?side3 ?side4 A22.out).mono ?_);(case side1=>exact cq (Kd.jJ HR0.out HB.out));(case side2=>exact HC0.out);(case side3=>exact cq (Kd.jG HO255.out).2.2);(case side4=>exact (Kd.jG HO255.out).2.1);rintro e w' ⟨rfl,⟨nd,rfl⟩⟩;refine ⟨_,rfl,?_⟩))
               go_ret
               exact ⟨Y0,bq⟩
             ·rw [if_neg c20] at H
              have c20b0:(((jb l0 (rd t248 x10_1)).f1) == 7)=false:=beq_eq_false_iff_ne.mpr c20
              have c20b1:(((jb l0 (rd t248 x10_1)).f1) != 7)=true:=bne_iff_ne.mpr c20
              have HC36:=am H
              clear H
              go_upto_if 75 with (fail)
              go_cut [75] (fun v75 wc=>∃ (kq:Nat) (x75_35:Bool),v75=.bool x75_35∧jv (je.j4 kq l0 a3 t248 x10_1 (rd t248 x10_1) ((jb l0 (rd t248 x10_1)).f1) x75_35=some r)∧jv (kq≤kj15)∧jv (Kd.R (Kd.int .i64) 3 wc w.heap.size (fun _=>True) (.slice (some ad251) t248.length co12) t248)∧jv (Below w.heap.size w wc))
              case first =>
               have H:=HC36.out
               clear HC36
               by_cases c37:((jb l0 (rd t248 x10_1)).f1)=11
               ·rw [if_pos c37] at H
                have c37b0:(((jb l0 (rd t248 x10_1)).f1) == 11)=true:=beq_iff_eq.mpr c37
                have c37b1:(((jb l0 (rd t248 x10_1)).f1) != 11)=false:=bne_eq_false_iff_eq.mpr c37
                clear c37
                (first | rw [c37b0] |(simp only [jnb,jrb];rw [c37b0]) | skip)
                have H':=am H
                clear H
                go_wp2
                go_meet
                case rel=>exact ⟨_,((((jb l0 (rd t248 x10_1)).f1) == 11)),(sq),H',⟨by have:=HK1.out;have:=HJ10.out;have:=HJ15.out;first | omega | exact Nat.le_refl _⟩,⟨rq HO_9.out⟩,⟨bq⟩⟩
               ·rw [if_neg c37] at H
                have c37b0:(((jb l0 (rd t248 x10_1)).f1) == 11)=false:=beq_eq_false_iff_ne.mpr c37
                have c37b1:(((jb l0 (rd t248 x10_1)).f1) != 11)=true:=bne_iff_ne.mpr c37
                (first | rw [c37b0] |(simp only [jnb,jrb];rw [c37b0]) | skip)
                have H':=am H
                clear H
                go_wp2
                go_meet
                case rel=>exact ⟨_,((((jb l0 (rd t248 x10_1)).f1) == 12)),(sq),H',⟨by have:=HK1.out;have:=HJ10.out;have:=HJ15.out;first | omega | exact Nat.le_refl _⟩,⟨rq HO_9.out⟩,⟨bq⟩⟩
              case rest =>
               clear HC36
               try clear c1
               try clear c2
               try clear p2
               try clear q2
               try clear hx2
               try clear c3
               try clear c5
               try clear c6
               try clear p6
               try clear c7
               try clear c7b0
               try clear c8
               try clear c8b0
               try clear c9
               try clear c9b0
               try clear c10
               try clear c10b0
               try clear c13
               try clear c13b0
               try clear c13b1
               try clear c14
               try clear c15
               try clear c17
               try clear c17b0
               try clear c17b1
               try clear c18
               try clear c18b0
               try clear c18b1
               try clear c19
               try clear c20
               try clear c20b0
               try clear c20b1
               try clear c23
               try clear p25
               try clear q25
               try clear hx25
               try clear c26
               try clear c26b0
               try clear c27
               try clear c27b0
               try clear c28
               try clear c28b0
               try clear c31
               try clear c37
               try clear c37b0
               try clear c37b1
               try clear hx251_0
               try clear hx252_0
               try clear hx252_1
               try clear hx252_2
               try clear hx252_3
               try clear hx257_0
               try clear p2
               try clear p25
               try clear p251
               try clear p252
               try clear p257
               try clear p6
               try clear q2
               try clear q25
               try clear q251
               try clear q252
               try clear q257
               obtain ⟨kq,x75_35,rfl,HA,HJ35,HO_9,HB⟩:=hcut
               cases kq with
               | zero=>exact absurd HA.out (by simp [je.j4])
               | succ kj35 =>
                have H:=HA.out
                clear HA
                simp only [je.j4] at H
                by_cases c38:x75_35=true
                ·subst c38
                 have H1:((jY.f kj35 l0 (rd t248 x10_1)).bind fun t260=>(if a3=true then ((je.f kj35 l0 (wrap64 ((rd t248 x10_1)+1)) t260 true).bind fun t261=>(if t261=true then (je.l0 kj35 l0 a3 t248 (wrap64 (x10_1+1))) else (some false))) else ((je.f kj35 l0 (wrap64 ((rd t248 x10_1)+1)) t260 (((jb l0 (rd t248 x10_1)).f1) == 12)).bind fun t262=>(if t262=true then (je.l0 kj35 l0 a3 t248 (wrap64 (x10_1+1))) else (some false)))))=some r:=by rw [if_pos rfl] at H;exact H
                 clear H
                 have H:=H1
                 clear H1
                 replace H:=bzS H
                 obtain ⟨t260,A390,H⟩:=H
                 replace H:(if a3=true then ((je.f kj35 l0 (wrap64 ((rd t248 x10_1)+1)) t260 true).bind fun t261=>(if t261=true then (je.l0 kj35 l0 a3 t248 (wrap64 (x10_1+1))) else (some false))) else ((je.f kj35 l0 (wrap64 ((rd t248 x10_1)+1)) t260 (((jb l0 (rd t248 x10_1)).f1) == 12)).bind fun t262=>(if t262=true then (je.l0 kj35 l0 a3 t248 (wrap64 (x10_1+1))) else (some false))))=some r:=H
                 have A39:=am A390
                 clear A390
                 by_cases c40:a3=true
                 ·subst c40
                  have H1:((je.f kj35 l0 (wrap64 ((rd t248 x10_1)+1)) t260 true).bind fun t261=>(if t261=true then (je.l0 kj35 l0 true t248 (wrap64 (x10_1+1))) else (some false)))=some r:=by rw [if_pos rfl] at H;exact H
                  clear H
                  have H:=H1
                  clear H1
                  replace H:=bzS H
                  obtain ⟨t261,A410,H⟩:=H
                  replace H:(if t261=true then (je.l0 kj35 l0 true t248 (wrap64 (x10_1+1))) else (some false))=some r:=H
                  have A41:=am A410
                  clear A410
                  by_cases c42:t261=true
                  ·subst c42
                   have H1:(je.l0 kj35 l0 true t248 (wrap64 (x10_1+1)))=some r:=by rw [if_pos rfl] at H;exact H
                   clear H
                   have H:=H1
                   clear H1
                   have H':=am H
                   clear H
                   go_wp2_with (first |((with_reducible refine jf (f:=62) rfl ?_);refine gL (some 83) Try.func62 #[.slice (some ad252) l0.length c0, .int .i64 (rd t248 x10_1)] ?_;(with_reducible refine (jY.calls kj35 _ _ l0 (rd t248 x10_1) t260 _ ?side1 ?side2 A39.out).mono ?_);(case side1=>exact cq (Kd.jJ HR0.out HB.out));(case side2=>exact HC0.out);rintro e w' ⟨rfl,⟨nd,rfl⟩⟩;refine ⟨_,rfl,?_⟩) |((with_reducible refine jf (f:=55) rfl ?_);refine gL (some 89) Try.func55 #[.slice (some ad252) l0.length c0, .int .i64 (wrap64 ((rd t248 x10_1)+1)), .int .i64 t260, .bool true] ?_;(with_reducible refine (ih kj35 (by have:=HK1.out;have:=HJ10.out;have:=HJ15.out;have:=HJ35.out;omega) _ _ l0 (wrap64 ((rd t248 x10_1)+1)) t260 true true _ ?side1 ?side2 A41.out).mono ?_);(case side1=>exact cq (Kd.jJ HR0.out (bq)));(case side2=>exact HC0.out);rintro e w43 ⟨rfl,hb⟩;refine ⟨_,rfl,?_⟩;replace HO_9:=am (Kd.jP (rq HO_9.out) hb);replace HB:=am (jd (bq) hb);(try clear hb);(try clear hb2);(try clear hk);(try clear hi)))
                   go_roundg kj35
                   case measure=>have:=HK1.out;have:=HJ10.out;have:=HJ15.out;have:=HJ35.out;omega
                   case rel=>exact ⟨(wrap64 (x10_1+1)),(sq),H',⟨by have:=HK1.out;have:=HJ10.out;have:=HJ15.out;have:=HJ35.out;omega⟩,⟨rq HO_9.out⟩,⟨bq⟩⟩
                  ·replace c42:=Bool.eq_false_iff.mpr c42
                   subst c42
                   have H1:(some false)=some r:=by rw [if_neg (show ¬ (false=true) by decide)] at H;exact H
                   clear H
                   have H:=H1
                   clear H1
                   obtain rfl:=Option.some.inj H
                   go_wp2_with (first |((with_reducible refine jf (f:=62) rfl ?_);refine gL (some 83) Try.func62 #[.slice (some ad252) l0.length c0, .int .i64 (rd t248 x10_1)] ?_;(with_reducible refine (jY.calls kj35 _ _ l0 (rd t248 x10_1) t260 _ ?side1 ?side2 A39.out).mono ?_);(case side1=>exact cq (Kd.jJ HR0.out HB.out));(case side2=>exact HC0.out);rintro e w' ⟨rfl,⟨nd,rfl⟩⟩;refine ⟨_,rfl,?_⟩) |((with_reducible refine jf (f:=55) rfl ?_);refine gL (some 89) Try.func55 #[.slice (some ad252) l0.length c0, .int .i64 (wrap64 ((rd t248 x10_1)+1)), .int .i64 t260, .bool true] ?_;(with_reducible refine (ih kj35 (by have:=HK1.out;have:=HJ10.out;have:=HJ15.out;have:=HJ35.out;omega) _ _ l0 (wrap64 ((rd t248 x10_1)+1)) t260 true false _ ?side1 ?side2 A41.out).mono ?_);(case side1=>exact cq (Kd.jJ HR0.out (bq)));(case side2=>exact HC0.out);rintro e w44 ⟨rfl,hb⟩;refine ⟨_,rfl,?_⟩;replace HO_9:=am (Kd.jP (rq HO_9.out) hb);replace HB:=am (jd (bq) hb);(try clear hb);(try clear hb2);(try clear hk);(try clear hi)))
                   go_ret
                   exact ⟨Y0,bq⟩
                 ·replace c40:=Bool.eq_false_iff.mpr c40
                  subst c40
                  have H1:((je.f kj35 l0 (wrap64 ((rd t248 x10_1)+1)) t260 (((jb l0 (rd t248 x10_1)).f1) == 12)).bind fun t262=>(if t262=true then (je.l0 kj35 l0 false t248 (wrap64 (x10_1+1))) else (some false)))=some r:=by rw [if_neg (show ¬ (false=true) by decide)] at H;exact H
                  clear H
                  have H:=H1
                  clear H1
                  replace H:=bzS H
                  obtain ⟨t262,A450,H⟩:=H
                  replace H:(if t262=true then (je.l0 kj35 l0 false t248 (wrap64 (x10_1+1))) else (some false))=some r:=H
                  have A45:=am A450
                  clear A450
                  by_cases c46:t262=true
                  ·subst c46
                   have H1:(je.l0 kj35 l0 false t248 (wrap64 (x10_1+1)))=some r:=by rw [if_pos rfl] at H;exact H
                   clear H
                   have H:=H1
                   clear H1
                   have H':=am H
                   clear H
                   go_wp2_with (first |((with_reducible refine jf (f:=62) rfl ?_);refine gL (some 83) Try.func62 #[.slice (some ad252) l0.length c0, .int .i64 (rd t248 x10_1)] ?_;(with_reducible refine (jY.calls kj35 _ _ l0 (rd t248 x10_1) t260 _ ?side1 ?side2 A39.out).mono ?_);(case side1=>exact cq (Kd.jJ HR0.out HB.out));(case side2=>exact HC0.out);rintro e w' ⟨rfl,⟨nd,rfl⟩⟩;refine ⟨_,rfl,?_⟩) |((with_reducible refine jf (f:=55) rfl ?_);refine gL (some 89) Try.func55 #[.slice (some ad252) l0.length c0, .int .i64 (wrap64 ((rd t248 x10_1)+1)), .int .i64 t260, .bool (((jb l0 (rd t248 x10_1)).f1) == 12)] ?_;(with_reducible refine (ih kj35 (by have:=HK1.out;have:=HJ10.out;have:=HJ15.out;have:=HJ35.out;omega) _ _ l0 (wrap64 ((rd t248 x10_1)+1)) t260 (((jb l0 (rd t248 x10_1)).f1) == 12) true _ ?side1 ?side2 A45.out).mono ?_);(case side1=>exact cq (Kd.jJ HR0.out (bq)));(case side2=>exact HC0.out);rintro e w47 ⟨rfl,hb⟩;refine ⟨_,rfl,?_⟩;replace HO_9:=am (Kd.jP (rq HO_9.out) hb);replace HB:=am (jd (bq) hb);(try clear hb);(try clear hb2);(try clear hk);(try clear hi)))
                   go_roundg kj35
                   case measure=>have:=HK1.out;have:=HJ10.out;have:=HJ15.out;have:=HJ35.out;omega
                   case rel=>exact ⟨(wrap64 (x10_1+1)),(sq),H',⟨by have:=HK1.out;have:=HJ10.out;have:=HJ15.out;have:=HJ35.out;omega⟩,⟨rq HO_9.out⟩,⟨bq⟩⟩
                  ·replace c46:=Bool.eq_false_iff.mpr c46
                   subst c46
                   have H1:(some false)=some r:=by rw [if_neg (show ¬ (false=true) by decide)] at H;exact H
                   clear H
                   have H:=H1
                   clear H1
                   obtain rfl:=Option.some.inj H
                   go_wp2_with (first |((with_reducible refine jf (f:=62) rfl ?_);refine gL (some 83) Try.func62 #[.slice (some ad252) l0.length c0, .int .i64 (rd t248 x10_1)] ?_;(with_reducible refine (jY.calls kj35 _ _ l0 (rd t248 x10_1) t260 _ ?side1 ?side2 A39.out).mono ?_);(case side1=>exact cq (Kd.jJ HR0.out HB.out));(case side2=>exact HC0.out);rintro e w' ⟨rfl,⟨nd,rfl⟩⟩;refine ⟨_,rfl,?_⟩) |((with_reducible refine jf (f:=55) rfl ?_);refine gL (some 89) Try.func55 #[.slice (some ad252) l0.length c0, .int .i64 (wrap64 ((rd t248 x10_1)+1)), .int .i64 t260, .bool (((jb l0 (rd t248 x10_1)).f1) == 12)] ?_;(with_reducible refine (ih kj35 (by have:=HK1.out;have:=HJ10.out;have:=HJ15.out;have:=HJ35.out;omega) _ _ l0 (wrap64 ((rd t248 x10_1)+1)) t260 (((jb l0 (rd t248 x10_1)).f1) == 12) false _ ?side1 ?side2 A45.out).mono ?_);(case side1=>exact cq (Kd.jJ HR0.out (bq)));(case side2=>exact HC0.out);rintro e w48 ⟨rfl,hb⟩;refine ⟨_,rfl,?_⟩;replace HO_9:=am (Kd.jP (rq HO_9.out) hb);replace HB:=am (jd (bq) hb);(try clear hb);(try clear hb2);(try clear hk);(try clear hi)))
                   go_ret
                   exact ⟨Y0,bq⟩
                ·replace c38:=Bool.eq_false_iff.mpr c38
                 subst c38
                 have H1:(je.l0 kj35 l0 a3 t248 (wrap64 (x10_1+1)))=some r:=by rw [if_neg (show ¬ (false=true) by decide)] at H;exact H
                 clear H
                 have H:=H1
                 clear H1
                 have H':=am H
                 clear H
                 go_wp2
                 go_roundg kj35
                 case measure=>have:=HK1.out;have:=HJ10.out;have:=HJ15.out;have:=HJ35.out;omega
                 case rel=>exact ⟨(wrap64 (x10_1+1)),(sq),H',⟨by have:=HK1.out;have:=HJ10.out;have:=HJ15.out;have:=HJ35.out;omega⟩,⟨rq HO_9.out⟩,⟨bq⟩⟩
      ·rw [if_neg c10] at H
       exact absurd H (by simp)
     ·rw [if_neg c9] at H
      exact absurd H (by simp)
    ·rw [if_neg c8] at H
     exact absurd H (by simp)
   ·rw [if_neg c7] at H
    have c7b0:decide (x10_1<(t248.length:Int))=false:=dzF c7
    clear c7
    obtain rfl:=Option.some.inj H
    obtain ⟨Ao49,co49,eo49⟩:=Kd.jOa HO_9.out
    subst eo49
    go_wp2
    go_ret
    exact ⟨Y0,bq⟩
end Go.Proofs.Ytkhiiiddbmgiaaa.P
end
