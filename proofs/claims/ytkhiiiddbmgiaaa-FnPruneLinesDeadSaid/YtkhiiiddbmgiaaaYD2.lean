/- One part of the proofs on this program: functions of the program as plain functions, that the code comes to them, and facts on them. -/
import Derived.Test.YtkhiiiddbmgiaaaYD1
import Derived.Test.YtkhiiiddbmgiaaaYWAuto
section
namespace Go.Proofs.Ytkhiiiddbmgiaaa.P
open Go.RowKit Go.Proofs.YtkhiiiddbmgiaaaW.PrintWords Go.Proofs.YtkhiiiddbmgiaaaW.PrintLast Go.Proofs.YtkhiiiddbmgiaaaW.PrintMore
attribute [local go_sem] jea jca jsa jra jR jQ jda jba jg
set_option linter.unusedVariables false
set_option linter.unusedSimpArgs false
def jGa.l0 : Nat → List (S78) → ByteArray → Int → Option (Int)
 | 0,_,_,_=>none
 | k+1,x0,x1,x5=>if x5<(x0.length:Int) then (if 0≤x5 then (if ((jaa x0 x5).f0).toList=x1.toList then (some x5) else (jGa.l0 k x0 x1 (wrap64 (x5+1)))) else (none)) else (some (-1))
def jGa.f (k : Nat) (l0 : List (S78)) (a1 : ByteArray) : Option (Int) := jGa.l0 k l0 a1 0
set_option maxHeartbeats 8000000 in
set_option maxRecDepth 100000 in
theorem jGa.calls (k : Nat) (A0 : Option Addr) (c0 : Nat) (l0 : List (S78)) (a1 : ByteArray) (r : Int) (w : World) (hr0 : Kd.C k78 w A0 l0.length l0) (hc0 : l0.length ≤ c0) (h : jGa.f k l0 a1 = some r) :
  Calls Try.prog 92 #[.slice A0 l0.length c0, .string a1] w fun e w'=>e=.returned (.int .i64 r)∧jXa w w':=by
 have HR0:=am hr0
 have HC0:=am hc0
 clear hr0 hc0
 have H:(jGa.l0 k l0 a1 0)=some r:=h
 clear h
 have H':=am H
 clear H
 go_enter Try.func92,Try.ntmps92
 go_wp2
 go_loopg [5] k (fun kq v5 w'=>∃ (x5_1:Int),v5=.int .i64 x5_1∧jl (jGa.l0 kq l0 a1 x5_1=some r)∧jl (kq≤k)∧jXa w w')
 case atStart=>exact ⟨(0),(sq),H',⟨Nat.le_refl _⟩,Y3⟩
 case round =>
  clear H'
  try clear p2
  obtain ⟨x5_1,rfl,HA,HK1,⟨m1,rfl⟩⟩:=hrel
  cases gk with
  | zero=>exact absurd HA.out (by simp [jGa.l0])
  | succ k1 =>
   have H:=HA.out
   clear HA
   simp only [jGa.l0] at H
   by_cases c3:x5_1<(l0.length:Int)
   ·rw [if_pos c3] at H
    have c3b0:decide (x5_1<(l0.length:Int))=true:=dzT c3
    clear c3
    by_cases c4:0≤x5_1
    ·rw [if_pos c4] at H
     have c4b0:decide (0≤x5_1)=true:=dzT c4
     clear c4
     by_cases c5:((jaa l0 x5_1).f0).toList=a1.toList
     ·rw [if_pos c5] at H
      have c5b0:(((jaa l0 x5_1).f0).toList == a1.toList)=true:=beq_iff_eq.mpr c5
      have c5b1:(((jaa l0 x5_1).f0).toList != a1.toList)=false:=bne_eq_false_iff_eq.mpr c5
      clear c5
      obtain rfl:=Option.some.inj H
      have p153:0≤(x5_1:Int):=ozD (uq)
      have q153:x5_1<(l0.length:Int):=ozD (uq)
      obtain ⟨ad153,e153,hx153_0,hx153_1⟩:=at_T78 HR0.out x5_1 p153 q153
      cases e153
      replace p153:=ezT p153
      replace q153:=ezT q153
      go_wp2
      go_ret
      exact ⟨sq,Y3⟩
     ·rw [if_neg c5] at H
      have c5b0:(((jaa l0 x5_1).f0).toList == a1.toList)=false:=beq_eq_false_iff_ne.mpr c5
      have c5b1:(((jaa l0 x5_1).f0).toList != a1.toList)=true:=bne_iff_ne.mpr c5
      have H':=am H
      clear H
      have p153:0≤(x5_1:Int):=ozD (uq)
      have q153:x5_1<(l0.length:Int):=ozD (uq)
      obtain ⟨ad153,e153,hx153_0,hx153_1⟩:=at_T78 HR0.out x5_1 p153 q153
      cases e153
      replace p153:=ezT p153
      replace q153:=ezT q153
      go_wp2
      go_roundg k1
      case measure=>have:=HK1.out;omega
      case rel=>exact ⟨(wrap64 (x5_1+1)),(sq),H',⟨by have:=HK1.out;omega⟩,Y3⟩
    ·rw [if_neg c4] at H
     exact absurd H (by simp)
   ·rw [if_neg c3] at H
    have c3b0:decide (x5_1<(l0.length:Int))=false:=dzF c3
    clear c3
    obtain rfl:=Option.some.inj H
    go_wp2
    go_ret
    exact ⟨sq,Y3⟩
mutual
def jM.l0 : Nat → Int → List (S78) → Option (Bool)
 | 0,_,_=>none
 | k+1,x3,x155000=>if x3<(x155000.length:Int) then (if 0≤x3 then ((jKa.f k ((jaa x155000 x3).f0)).bind fun t158=>(if t158=true then (if x3≤(x155000.length:Int) then ((jGa.f k (x155000.take (x3:Int).toNat) ((jaa x155000 x3).f0)).bind fun t163=>(if t163≥0 then (jM.j1 k x3 true x155000) else (if x3=0 then (if ((jaa x155000 x3).f1)=(-1) then (if x3 > 0 then ((jH.f ((jaa x155000 x3).f1) 0 (wrap64 (x3 - 1))).bind fun t164=>(jM.j1 k x3 (!t164) x155000)) else (jM.j1 k x3 false x155000)) else (jM.j1 k x3 true x155000)) else (if x3 > 0 then ((jH.f ((jaa x155000 x3).f1) 0 (wrap64 (x3 - 1))).bind fun t165=>(jM.j1 k x3 (!t165) x155000)) else (jM.j1 k x3 false x155000))))) else (none)) else (jM.j1 k x3 true x155000))) else (none)) else ((jH.f (x155000.length:Int) 1 8).bind fun t155=>(some t155))
def jM.j1 : Nat → Int → Bool → List (S78) → Option (Bool)
 | 0,_,_,_=>none
 | k+1,x3,x51,x155000=>if x51=true then (some false) else (jM.l0 k (wrap64 (x3+1)) x155000)
end
def jM.f (k : Nat) (l0_0 : List (S78)) : Option (Bool) := jM.l0 k 0 l0_0
set_option maxHeartbeats 8000000 in
set_option maxRecDepth 100000 in
theorem jM.calls (k : Nat) (A0_0 : Option Addr) (c0_0 : Nat) (l0_0 : List (S78)) (r : Bool) (w : World) (hr0_0 : Kd.C k78 w A0_0 l0_0.length l0_0) (hc0_0 : l0_0.length ≤ c0_0) (h : jM.f k l0_0 = some r) :
  Calls Try.prog 58 #[.agg #[.slice A0_0 l0_0.length c0_0]] w fun e w'=>e=.returned (.bool r)∧Below w.heap.size w w':=by
 have hu32:=Try.underlying32
 have hu78:=Try.underlying78
 have HR0_0:=am hr0_0
 have HC0_0:=am hc0_0
 clear hr0_0 hc0_0
 have HB:=am (Below.refl w.heap.size w)
 have H:(jM.l0 k 0 l0_0)=some r:=h
 clear h
 have H':=am H
 clear H
 go_enter Try.func58,Try.ntmps58
 go_wp2_with (first |((with_reducible refine jP (N:=1) rfl ?_);refine bE (N:=1) (cs:=#[.slice A0_0 l0_0.length c0_0]) (t:=32) ?_;intro gb154 hg w2 hbox hb;have BK154:=am (hbox);have GW154:=am ((Y11:w.heap.size≤gb154));have GE154:=am ((Y11:w.heap.size≤gb154));replace HB:=am (ji (bq) hb);clear hb hbox hg))
 go_loopg [3] k (fun kq v3 w'=>∃ (x3_1:Int),v3=.int .i64 x3_1∧jl (jM.l0 kq x3_1 l0_0=some r)∧jl (kq≤k)∧jl (w'.heap[gb154]?=some (.cells #[(.slice A0_0 l0_0.length c0_0)] 32 (0,0)))∧jl (Below w.heap.size w w'))
 case atStart=>exact ⟨(0),(sq),H',⟨Nat.le_refl _⟩,⟨kq BK154.out⟩,⟨Y33⟩⟩
 case round =>
  clear H'
  try clear c1
  try clear p2
  obtain ⟨x3_1,rfl,HA,HK1,BK154,HB⟩:=hrel
  cases gk with
  | zero=>exact absurd HA.out (by simp [jM.l0])
  | succ k1 =>
   have H:=HA.out
   clear HA
   simp only [jM.l0] at H
   by_cases c3:x3_1<(l0_0.length:Int)
   ·rw [if_pos c3] at H
    have c3b0:decide (x3_1<(l0_0.length:Int))=true:=dzT c3
    clear c3
    by_cases c4:0≤x3_1
    ·rw [if_pos c4] at H
     have c4b0:decide (0≤x3_1)=true:=dzT c4
     clear c4
     have HC5:=am H
     clear H
     have hcz6_0:=bc0 BK154.out
     have hfz6_0:=ja BK154.out 0
     have p156:0≤(x3_1:Int):=ozD (uq)
     have q156:x3_1<(l0_0.length:Int):=ozD (uq)
     obtain ⟨ad156,e156,hx156_0,hx156_1⟩:=at_T78 HR0_0.out x3_1 p156 q156
     cases e156
     replace hx156_0:=cb HB.out hx156_0
     replace hx156_1:=cb HB.out hx156_1
     replace p156:=ezT p156
     replace q156:=ezT q156
     go_upto_region 5 with (first |((with_reducible refine jP (N:=4) rfl ?_);refine bE (N:=4) (cs:=#[.string (⟨#[]⟩:ByteArray), .int .i64 0]) (t:=78) ?_;intro gb157 hg w7 hbox hb;have BK157:=am (hbox);have GW157:=am ((Y89:w.heap.size≤gb157));have GE157:=am ((Y89:w.heap.size≤gb157));have NB154_157:=am ((by rw [hg];exact Nat.ne_of_lt (jEb (g:=gb154) (o:=.cells #[.slice (some ad156) l0_0.length c0_0] 32 (0,0)) (kq BK154.out)):gb154≠gb157));have NB157_154:=am ((by rw [hg];exact Nat.ne_of_gt (jEb (g:=gb154) (o:=.cells #[.slice (some ad156) l0_0.length c0_0] 32 (0,0)) (kq BK154.out)):gb157≠gb154));replace BK154:=am (jr (g:=gb154) (o:=.cells #[.slice (some ad156) l0_0.length c0_0] 32 (0,0)) (kq BK154.out) hb);replace HB:=am (ji (Y33) hb);clear hb hbox hg;have hnb8:=NB157_154.out;have hnc8:=NB154_157.out;have hcz9_0:=bc0 BK157.out;have hcz9_1:=bc1 BK157.out;have hfz9_0:=ja BK157.out 0;have hfz9_1:=ja BK157.out 1))
     (try simp only [Act.put,List.setIfInBounds_toArray,List.set_cons_zero,List.set_cons_succ])
     go_cut [51] (fun v51 wc=>∃ (kq:Nat) (x51_4:Bool),v51=.bool x51_4∧jl (jM.j1 kq x3_1 x51_4 l0_0=some r)∧jl (kq≤k1)∧jl (wc.heap[gb154]?=some (.cells #[(.slice (some ad156) l0_0.length c0_0)] 32 (0,0)))∧jl (wc.heap[gb157]?=some (.cells #[.string ((jaa l0_0 x3_1).f0), .int .i64 ((jaa l0_0 x3_1).f1)] 78 (0,0)))∧jl (Below w.heap.size w wc))
     case first =>
      have n0_:jl (((w7.setCell ⟨gb157,0,none⟩ (.string ((jaa l0_0 x3_1).f0))).setCell ⟨gb157,1,none⟩ (.int .i64 ((jaa l0_0 x3_1).f1))).heap[gb154]?=some (.cells #[.slice (some ad156) l0_0.length c0_0] 32 (0,0))):=⟨by (with_reducible repeat (first | refine jv ?_ _ | refine jD ?_ | refine jA ?_ _));refine jib ?_ NB154_157.out _;(with_reducible repeat (first | refine jv ?_ _ | refine jD ?_ | refine jA ?_ _));refine jib ?_ NB154_157.out _;(with_reducible repeat (first | refine jv ?_ _ | refine jD ?_ | refine jA ?_ _));exact BK154.out⟩
      have n1_:jl (((w7.setCell ⟨gb157,0,none⟩ (.string ((jaa l0_0 x3_1).f0))).setCell ⟨gb157,1,none⟩ (.int .i64 ((jaa l0_0 x3_1).f1))).heap[gb157]?=some (.cells #[.string ((jaa l0_0 x3_1).f0), .int .i64 ((jaa l0_0 x3_1).f1)] 78 (0,0))):=⟨by (with_reducible repeat (first | refine jv ?_ _ | refine jD ?_ | refine jA ?_ _));refine jVa (cs:=#[.string ((jaa l0_0 x3_1).f0), .int .i64 0]) ?_ 1 _ rfl;(with_reducible repeat (first | refine jv ?_ _ | refine jD ?_ | refine jA ?_ _));refine jVa (cs:=#[.string (⟨#[]⟩:ByteArray), .int .i64 0]) ?_ 0 _ rfl;(with_reducible repeat (first | refine jv ?_ _ | refine jD ?_ | refine jA ?_ _));exact BK157.out⟩
      have n2_:jl (Below w.heap.size w ((w7.setCell ⟨gb157,0,none⟩ (.string ((jaa l0_0 x3_1).f0))).setCell ⟨gb157,1,none⟩ (.int .i64 ((jaa l0_0 x3_1).f1)))):=⟨Y81⟩
      clear BK154 BK157 HB hcz9_0 hcz9_1 hfz9_0 hfz9_1
      generalize ((w7.setCell ⟨gb157,0,none⟩ (.string ((jaa l0_0 x3_1).f0))).setCell ⟨gb157,1,none⟩ (.int .i64 ((jaa l0_0 x3_1).f1)))=w16 at n0_ n1_ n2_ ⊢
      have BK154:=n0_
      have BK157:=n1_
      have HB:=n2_
      clear n0_ n1_ n2_
      have HRW:=am (Kd.jZ HR0_0.out HB.out)
      have e0:w16.cell? ⟨gb157,0,none⟩=some (.string ((jaa l0_0 x3_1).f0)):=(jJ BK157.out 0).trans rfl
      have e1:w16.cell? ⟨gb157,1,none⟩=some (.int .i64 ((jaa l0_0 x3_1).f1)):=(jJ BK157.out 1).trans rfl
      have e2:w16.cell? ⟨gb154,0,none⟩=some (.slice (some ad156) l0_0.length c0_0):=(jJ BK154.out 0).trans rfl
      have H:=HC5.out
      clear HC5
      obtain ⟨v,hv,H⟩:=bzS H
      have HN:=am (fun W=>(jKa.calls k1 _ v W hv).mono fun e w' h=>(⟨h.1,h.2.out⟩:e=.returned (.bool v)∧∃ m,w'=W.drewN m))
      clear hv hx156_0 hx156_1
      generalize hgx:jaa l0_0 x3_1=x at H e0 e1 HN BK157
      have HGX:=am hgx
      clear hgx
      cases v with
      | false =>
       have H':=am (show jM.j1 k1 x3_1 true l0_0=some r from H)
       clear H
       go_big_quiet ((go_at_call 91;exact Calls.quiet_of (HN.out _)))
       go_wp2
       go_meet
       case rel=>exact ⟨_,_,rfl,H',⟨by have:=HK1.out;omega⟩,⟨jv BK154.out _⟩,⟨by rw [HGX.out];exact jv BK157.out _⟩,⟨jm HB.out _⟩⟩
      | true =>
       replace H:(if x3_1≤(l0_0.length:Int) then ((jGa.f k1 (l0_0.take (x3_1:Int).toNat) x.f0).bind fun t163=>(if t163≥0 then (jM.j1 k1 x3_1 true l0_0) else (if x3_1=0 then (if x.f1=(-1) then (if x3_1 > 0 then ((jH.f x.f1 0 (wrap64 (x3_1 - 1))).bind fun t164=>(jM.j1 k1 x3_1 (!t164) l0_0)) else (jM.j1 k1 x3_1 false l0_0)) else (jM.j1 k1 x3_1 true l0_0)) else (if x3_1 > 0 then ((jH.f x.f1 0 (wrap64 (x3_1 - 1))).bind fun t165=>(jM.j1 k1 x3_1 (!t165) l0_0)) else (jM.j1 k1 x3_1 false l0_0))))) else (none))=some r:=H
       have hle:x3_1≤(l0_0.length:Int):=by have:=ozD c3b0;omega
       have h0:0≤x3_1:=ozD c4b0
       rw [if_pos hle] at H
       obtain ⟨c,hc,H⟩:=bzS H
       obtain ⟨i0,hi0,_,_,_⟩:=info_parts info78
       have hcut:=cut_to (P:=Try.prog) 30 78 .i64 Try.underlying30 hi0 (some ad156) l0_0.length c0_0 x3_1 h0 hle HC0_0.out
       have hr18:=Kd.C_take (m:=(x3_1:Int).toNat) HRW.out (by omega)
       obtain ⟨y,hy⟩:∃ y:List S78,y=l0_0.take (x3_1:Int).toNat:=⟨_,rfl⟩
       have hyl:y.length=(x3_1:Int).toNat:=by rw [hy,List.length_take];omega
       have hyc:y.length≤c0_0:=by have:=HC0_0.out;omega
       rw [← hy] at hr18
       rw [← hyl] at hcut
       rw [← hy] at hc
       have HCN:=am (fun m=>(jGa.calls k1 _ _ y x.f0 c (w16.drewN m) (Kd.jlc hr18 m) hyc hc).mono fun e w' h=>(⟨h.1,h.2.out⟩:e=.returned (.int .i64 c)∧∃ m',w'=(w16.drewN m).drewN m'))
       clear hr18 hc hy hyl hyc
       have b0:=ezT h0
       have b1:=ezT hle
       by_cases hc0:c≥0
       ·rw [if_pos hc0] at H
        have b2:decide (0≤c)=true:=dzT hc0
        have H':=am H
        clear H hc0 h0 hle
        go_big_quiet (first |(go_at_call 91;exact Calls.quiet_of (HN.out _)) |(go_at_call 92;exact Calls.quiet_of (HCN.out _)))
        go_wp2
        go_meet
        case rel=>exact ⟨_,_,rfl,H',⟨by have:=HK1.out;omega⟩,⟨jv BK154.out _⟩,⟨by rw [HGX.out];exact jv BK157.out _⟩,⟨jm HB.out _⟩⟩
       ·rw [if_neg hc0] at H
        have b2:decide (0≤c)=false:=dzF hc0
        clear hc0
        by_cases hz:x3_1=0
        ·rw [if_pos hz] at H
         have b3:(x3_1 == 0)=true:=beq_iff_eq.2 hz
         have b4:decide (0<x3_1)=false:=dzF (by omega)
         by_cases hf:x.f1 = -1
         ·rw [if_pos hf,if_neg (by omega)] at H
          have b5:(x.f1 != -1)=false:=by simpa using hf
          have H':=am H
          clear H hf h0 hle hz
          go_big_quiet (first |(go_at_call 91;exact Calls.quiet_of (HN.out _)) |(go_at_call 92;exact Calls.quiet_of (HCN.out _)))
          go_wp2
          go_meet
          case rel=>exact ⟨_,_,rfl,H',⟨by have:=HK1.out;omega⟩,⟨jv BK154.out _⟩,⟨by rw [HGX.out];exact jv BK157.out _⟩,⟨jm HB.out _⟩⟩
         ·rw [if_neg hf] at H
          have b5:(x.f1 != -1)=true:=by simpa using hf
          have H':=am H
          clear H hf h0 hle hz
          go_big_quiet (first |(go_at_call 91;exact Calls.quiet_of (HN.out _)) |(go_at_call 92;exact Calls.quiet_of (HCN.out _)))
          go_wp2
          go_meet
          case rel=>exact ⟨_,_,rfl,H',⟨by have:=HK1.out;omega⟩,⟨jv BK154.out _⟩,⟨by rw [HGX.out];exact jv BK157.out _⟩,⟨jm HB.out _⟩⟩
        ·rw [if_neg hz,if_pos (by omega)] at H
         have b3:(x3_1 == 0)=false:=beq_eq_false_iff_ne.2 hz
         have b4:decide (0<x3_1)=true:=dzT (by omega)
         obtain ⟨t,ht,H⟩:=bzS H
         have H':=am H
         have HI:=am (fun W=>(jH.calls _ _ _ t W ht).mono fun e w' h=>(⟨h.1,h.2.out⟩:e=.returned (.bool t)∧∃ m,w'=W.drewN m))
         clear H ht h0 hle hz
         go_big_quiet (first |(go_at_call 91;exact Calls.quiet_of (HN.out _)) |(go_at_call 92;exact Calls.quiet_of (HCN.out _)) |(go_at_call 85;exact Calls.quiet_of (HI.out _)))
         go_wp2
         go_meet
         case rel=>exact ⟨_,_,rfl,H',⟨by have:=HK1.out;omega⟩,⟨jv BK154.out _⟩,⟨by rw [HGX.out];exact jv BK157.out _⟩,⟨jm HB.out _⟩⟩
     case rest =>
      clear HC5
      try clear c1
      try clear c2
      try clear p2
      try clear c3
      try clear q3
      try clear p6
      try clear c11
      try clear c12
      try clear c13
      try clear c21
      try clear c32
      try clear c32b0
      try clear q39
      try clear q39
      obtain ⟨kq,x51_4,rfl,HA,HJ4,BK154,BK157,HB⟩:=hcut
      cases kq with
      | zero=>exact absurd HA.out (by simp [jM.j1])
      | succ kj4 =>
       have H:=HA.out
       clear HA
       simp only [jM.j1] at H
       by_cases c42:x51_4=true
       ·subst c42
        have H1:(some false)=some r:=by rw [if_pos rfl] at H;exact H
        clear H
        have H:=H1
        clear H1
        obtain rfl:=Option.some.inj H
        go_wp2
        go_ret
        exact ⟨Y0,Y81⟩
       ·replace c42:=Bool.eq_false_iff.mpr c42
        subst c42
        have H1:(jM.l0 kj4 (wrap64 (x3_1+1)) l0_0)=some r:=by rw [if_neg (show ¬ (false=true) by decide)] at H;exact H
        clear H
        have H:=H1
        clear H1
        have H':=am H
        clear H
        go_wp2
        go_roundg kj4
        case measure=>have:=HK1.out;have:=HJ4.out;omega
        case rel=>exact ⟨(wrap64 (x3_1+1)),(sq),H',⟨by have:=HK1.out;have:=HJ4.out;omega⟩,⟨kq BK154.out⟩,⟨Y81⟩⟩
    ·rw [if_neg c4] at H
     exact absurd H (by simp)
   ·rw [if_neg c3] at H
    have c3b0:decide (x3_1<(l0_0.length:Int))=false:=dzF c3
    clear c3
    replace H:=bzS H
    obtain ⟨t155,A430,H⟩:=H
    replace H:(some t155)=some r:=H
    have A43:=am A430
    clear A430
    obtain rfl:=Option.some.inj H
    have hcz44_0:=bc0 BK154.out
    have hfz44_0:=ja BK154.out 0
    go_wp2_with (first |((with_reducible refine jd (f:=85) rfl ?_);refine gL (some 55) Try.func85 #[.int .i64 (l0_0.length:Int), .int .i64 1, .int .i64 8] ?_;(with_reducible refine (jH.calls (l0_0.length:Int) 1 8 t155 _ A43.out).mono ?_);rintro e w' ⟨rfl,⟨nd,rfl⟩⟩;refine ⟨_,rfl,?_⟩))
    go_ret
    exact ⟨Y0,Y33⟩
def jV.l0 : Nat → List (S52) → Int → List (S78) → Option (Bool)
 | 0,_,_,_=>none
 | k+1,x1,x5,x155000=>if x5<(x1.length:Int) then ((jq.f k x155000 x1 x5).bind fun t156=>(if t156=true then (jV.l0 k x1 (wrap64 (x5+1)) x155000) else (some false))) else ((jM.f k x155000).bind fun t155=>(if t155=true then (some (decide ((x1.length:Int)≤24))) else (some false)))
def jV.f (k : Nat) (l0_0 : List (S78)) (l1 : List (S52)) : Option (Bool) := jV.l0 k l1 0 l0_0
set_option maxHeartbeats 8000000 in
set_option maxRecDepth 100000 in
theorem jV.calls (k : Nat) (A0_0 : Option Addr) (c0_0 : Nat) (l0_0 : List (S78)) (A1 : Option Addr) (c1 : Nat) (l1 : List (S52)) (r : Bool) (w : World) (hr0_0 : Kd.C k78 w A0_0 l0_0.length l0_0) (hc0_0 : l0_0.length ≤ c0_0) (hr1 : Kd.C k52 w A1 l1.length l1) (hc1 : l1.length ≤ c1) (h : jV.f k l0_0 l1 = some r) :
  Calls Try.prog 29 #[.agg #[.slice A0_0 l0_0.length c0_0], .slice A1 l1.length c1] w fun e w'=>e=.returned (.bool r)∧Below w.heap.size w w':=by
 have hu32:=Try.underlying32
 have HR0_0:=am hr0_0
 have HC0_0:=am hc0_0
 clear hr0_0 hc0_0
 have HR1:=am hr1
 have HC1:=am hc1
 clear hr1 hc1
 have HB:=am (Below.refl w.heap.size w)
 have H:(jV.l0 k l1 0 l0_0)=some r:=h
 clear h
 have H':=am H
 clear H
 go_enter Try.func29,Try.ntmps29
 go_wp2_with (first |((with_reducible refine jP (N:=2) rfl ?_);(try (refine gate_guard (by rfl) ?_;dsimp only));refine box_event ?hg (N:=2) ?hd (cs:=#[.slice A0_0 l0_0.length c0_0]) (t:=32) ?hr ?_;(case hd=>rfl);(case hg=>rfl);(case hr=>exact Y8);intro gb154 hg w3 hbox hb;have BK154:=am (hbox);have GW154:=am ((Y11:w.heap.size≤gb154));have GE154:=am ((Y11:w.heap.size≤gb154));replace HB:=am (ji (bq) hb);clear hb hbox hg))
 go_loopg [5] k (fun kq v5 w'=>∃ (x5_1:Int),v5=.int .i64 x5_1∧jl (jV.l0 kq l1 x5_1 l0_0=some r)∧jl (kq≤k)∧jl (w'.heap[gb154]?=some (.cells #[(.slice A0_0 l0_0.length c0_0)] 32 (0,0)))∧jl (Below w.heap.size w w'))
 case atStart=>exact ⟨(0),(sq),H',⟨Nat.le_refl _⟩,⟨kq BK154.out⟩,⟨Y33⟩⟩
 case round =>
  clear H'
  try clear c1
  try clear c2
  try clear p2
  obtain ⟨x5_1,rfl,HA,HK1,BK154,HB⟩:=hrel
  cases gk with
  | zero=>exact absurd HA.out (by simp [jV.l0])
  | succ k1 =>
   have H:=HA.out
   clear HA
   simp only [jV.l0] at H
   by_cases c4:x5_1<(l1.length:Int)
   ·rw [if_pos c4] at H
    have c4b0:decide (x5_1<(l1.length:Int))=true:=dzT c4
    clear c4
    replace H:=bzS H
    obtain ⟨t156,A50,H⟩:=H
    replace H:(if t156=true then (jV.l0 k1 l1 (wrap64 (x5_1+1)) l0_0) else (some false))=some r:=H
    have A5:=am A50
    clear A50
    by_cases c6:t156=true
    ·subst c6
     have H1:(jV.l0 k1 l1 (wrap64 (x5_1+1)) l0_0)=some r:=by rw [if_pos rfl] at H;exact H
     clear H
     have H:=H1
     clear H1
     have H':=am H
     clear H
     have hcz7_0:=bc0 BK154.out
     have hfz7_0:=ja BK154.out 0
     go_wp2_with (first |((with_reducible refine jd (f:=57) rfl ?_);refine gL (some 15) Try.func57 #[.agg #[.slice A0_0 l0_0.length c0_0], .slice A1 l1.length c1, .int .i64 x5_1] ?_;(with_reducible refine (jq.calls k1 _ _ l0_0 _ _ l1 x5_1 true _ ?side1 ?side2 ?side3 ?side4 A5.out).mono ?_);(case side1=>exact cq (Kd.jZ HR0_0.out HB.out));(case side2=>exact HC0_0.out);(case side3=>exact cq (Kd.jZ HR1.out HB.out));(case side4=>exact HC1.out);rintro e w8 ⟨rfl,hb⟩;refine ⟨_,rfl,?_⟩;replace BK154:=am (jr (g:=gb154) (o:=.cells #[.slice A0_0 l0_0.length c0_0] 32 (0,0)) (kq BK154.out) hb);replace HB:=am (ji (Y33) hb);(try clear hb);(try clear hb2);(try clear hk);(try clear hi)))
     go_roundg k1
     case measure=>have:=HK1.out;omega
     case rel=>exact ⟨(wrap64 (x5_1+1)),(sq),H',⟨by have:=HK1.out;omega⟩,⟨kq BK154.out⟩,⟨Y33⟩⟩
    ·replace c6:=Bool.eq_false_iff.mpr c6
     subst c6
     have H1:(some false)=some r:=by rw [if_neg (show ¬ (false=true) by decide)] at H;exact H
     clear H
     have H:=H1
     clear H1
     obtain rfl:=Option.some.inj H
     have hcz9_0:=bc0 BK154.out
     have hfz9_0:=ja BK154.out 0
     go_wp2_with (first |((with_reducible refine jd (f:=57) rfl ?_);refine gL (some 15) Try.func57 #[.agg #[.slice A0_0 l0_0.length c0_0], .slice A1 l1.length c1, .int .i64 x5_1] ?_;(with_reducible refine (jq.calls k1 _ _ l0_0 _ _ l1 x5_1 false _ ?side1 ?side2 ?side3 ?side4 A5.out).mono ?_);(case side1=>exact cq (Kd.jZ HR0_0.out HB.out));(case side2=>exact HC0_0.out);(case side3=>exact cq (Kd.jZ HR1.out HB.out));(case side4=>exact HC1.out);rintro e w10 ⟨rfl,hb⟩;refine ⟨_,rfl,?_⟩;replace BK154:=am (jr (g:=gb154) (o:=.cells #[.slice A0_0 l0_0.length c0_0] 32 (0,0)) (kq BK154.out) hb);replace HB:=am (ji (Y33) hb);(try clear hb);(try clear hb2);(try clear hk);(try clear hi)))
     go_ret
     exact ⟨Y0,Y33⟩
   ·rw [if_neg c4] at H
    have c4b0:decide (x5_1<(l1.length:Int))=false:=dzF c4
    clear c4
    replace H:=bzS H
    obtain ⟨t155,A110,H⟩:=H
    replace H:(if t155=true then (some (decide ((l1.length:Int)≤24))) else (some false))=some r:=H
    have A11:=am A110
    clear A110
    by_cases c12:t155=true
    ·subst c12
     have H1:(some (decide ((l1.length:Int)≤24)))=some r:=by rw [if_pos rfl] at H;exact H
     clear H
     have H:=H1
     clear H1
     obtain rfl:=Option.some.inj H
     have hcz13_0:=bc0 BK154.out
     have hfz13_0:=ja BK154.out 0
     go_wp2_with (first |((with_reducible refine jd (f:=58) rfl ?_);refine gL (some 18) Try.func58 #[.agg #[.slice A0_0 l0_0.length c0_0]] ?_;(with_reducible refine (jM.calls k1 _ _ l0_0 true _ ?side1 ?side2 A11.out).mono ?_);(case side1=>exact cq (Kd.jZ HR0_0.out HB.out));(case side2=>exact HC0_0.out);rintro e w14 ⟨rfl,hb⟩;refine ⟨_,rfl,?_⟩;replace BK154:=am (jr (g:=gb154) (o:=.cells #[.slice A0_0 l0_0.length c0_0] 32 (0,0)) (kq BK154.out) hb);replace HB:=am (ji (Y33) hb);(try clear hb);(try clear hb2);(try clear hk);(try clear hi)))
     go_ret
     exact ⟨Y0,Y33⟩
    ·replace c12:=Bool.eq_false_iff.mpr c12
     subst c12
     have H1:(some false)=some r:=by rw [if_neg (show ¬ (false=true) by decide)] at H;exact H
     clear H
     have H:=H1
     clear H1
     obtain rfl:=Option.some.inj H
     have hcz15_0:=bc0 BK154.out
     have hfz15_0:=ja BK154.out 0
     go_wp2_with (first |((with_reducible refine jd (f:=58) rfl ?_);refine gL (some 18) Try.func58 #[.agg #[.slice A0_0 l0_0.length c0_0]] ?_;(with_reducible refine (jM.calls k1 _ _ l0_0 false _ ?side1 ?side2 A11.out).mono ?_);(case side1=>exact cq (Kd.jZ HR0_0.out HB.out));(case side2=>exact HC0_0.out);rintro e w16 ⟨rfl,hb⟩;refine ⟨_,rfl,?_⟩;replace BK154:=am (jr (g:=gb154) (o:=.cells #[.slice A0_0 l0_0.length c0_0] 32 (0,0)) (kq BK154.out) hb);replace HB:=am (ji (Y33) hb);(try clear hb);(try clear hb2);(try clear hk);(try clear hi)))
     go_ret
     exact ⟨Y0,Y33⟩
def jBb.f (a0 : Int) : Option (Bool) := (jH.f a0 2 6).bind fun t157 => (some t157)
set_option maxHeartbeats 8000000 in
set_option maxRecDepth 100000 in
theorem jBb.calls (a0 : Int) (r : Bool) (w : World) (h : jBb.f a0 = some r) :
  Calls Try.prog 59 #[.int .i64 a0] w fun e w'=>e=.returned (.bool r)∧jXa w w':=by
 have H:((jH.f a0 2 6).bind fun t157=>(some t157))=some r:=h
 clear h
 replace H:=bzS H
 obtain ⟨t157,A20,H⟩:=H
 replace H:(some t157)=some r:=H
 have A2:=am A20
 clear A20
 obtain rfl:=Option.some.inj H
 go_enter Try.func59,Try.ntmps59
 go_wp2_with (first |((with_reducible refine jd (f:=85) rfl ?_);refine gL (some 4) Try.func85 #[.int .i64 a0, .int .i64 2, .int .i64 6] ?_;(with_reducible refine (jH.calls a0 2 6 t157 _ A2.out).mono ?_);rintro e w' ⟨rfl,⟨nd,rfl⟩⟩;refine ⟨_,rfl,?_⟩))
 go_ret
 exact ⟨sq,Y3⟩
mutual
def jY.l0 : Nat → List (S52) → Int → Int → Option (Bool)
 | 0,_,_,_=>none
 | k+1,x0,x1,x5=>if x5≥0 then (if 0≤x5 then (if x5<(x0.length:Int) then (if 0≤x1 then (if x1<(x0.length:Int) then (jY.j1 k x0 x1 x5 (decide (((jc x0 x5).f0)≥((jc x0 x1).f0)))) else (none)) else (none)) else (none)) else (none)) else (jY.j1 k x0 x1 x5 false)
def jY.j1 : Nat → List (S52) → Int → Int → Bool → Option (Bool)
 | 0,_,_,_,_=>none
 | k+1,x0,x1,x5,x22=>if x22=true then (if 0≤x5 then (if x5<(x0.length:Int) then (if 0≤x1 then (if x1<(x0.length:Int) then (if ((jc x0 x5).f0)=((jc x0 x1).f0) then ((jBb.f ((jc x0 x5).f1)).bind fun t163=>(if t163=true then (some true) else (jY.l0 k x0 x1 (wrap64 (x5 - 1))))) else (jY.l0 k x0 x1 (wrap64 (x5 - 1)))) else (none)) else (none)) else (none)) else (none)) else (some false)
end
def jY.f (k : Nat) (l0 : List (S52)) (a1 : Int) : Option (Bool) := jY.l0 k l0 a1 (wrap64 (a1 - 1))
set_option maxHeartbeats 8000000 in
set_option maxRecDepth 100000 in
theorem jY.calls (k : Nat) (A0 : Option Addr) (c0 : Nat) (l0 : List (S52)) (a1 : Int) (r : Bool) (w : World) (hr0 : Kd.C k52 w A0 l0.length l0) (hc0 : l0.length ≤ c0) (h : jY.f k l0 a1 = some r) :
  Calls Try.prog 30 #[.slice A0 l0.length c0, .int .i64 a1] w fun e w'=>e=.returned (.bool r)∧jXa w w':=by
 have HR0:=am hr0
 have HC0:=am hc0
 clear hr0 hc0
 have H:(jY.l0 k l0 a1 (wrap64 (a1 - 1)))=some r:=h
 clear h
 have H':=am H
 clear H
 go_enter Try.func30,Try.ntmps30
 go_wp2
 repeat (go_quiet (fail);try go_wp2)
 go_loopg [5] k (fun kq v5 w'=>∃ (x5_1:Int),v5=.int .i64 x5_1∧jl (jY.l0 kq l0 a1 x5_1=some r)∧jl (kq≤k)∧jXa w w')
 case atStart=>exact ⟨(wrap64 (a1 - 1)),(sq),H',⟨Nat.le_refl _⟩,Y3⟩
 case round =>
  clear H'
  try clear p2
  obtain ⟨x5_1,rfl,HA,HK1,⟨m1,rfl⟩⟩:=hrel
  cases gk with
  | zero=>exact absurd HA.out (by simp [jY.l0])
  | succ k1 =>
   have H:=HA.out
   clear HA
   simp only [jY.l0] at H
   have HC3:=am H
   clear H
   go_upto_region 2 with (fail)
   repeat (go_quiet (fail);go_upto_region 2 with (fail))
   go_cut [22] (fun v22 wc=>∃ (kq:Nat) (x22_2:Bool),v22=.bool x22_2∧jl (jY.j1 kq l0 a1 x5_1 x22_2=some r)∧jl (kq≤k1)∧jXa w wc)
   case first =>
    have H:=HC3.out
    clear HC3
    by_cases c4:x5_1≥0
    ·rw [if_pos c4] at H
     have c4b0:decide (0≤x5_1)=true:=dzT c4
     clear c4
     (first | rw [c4b0] |(simp only [jkb,jnb];rw [c4b0]) | skip)
     by_cases c5:0≤x5_1
     ·rw [if_pos c5] at H
      have c5b0:decide (0≤x5_1)=true:=dzT c5
      clear c5
      by_cases c6:x5_1<(l0.length:Int)
      ·rw [if_pos c6] at H
       have c6b0:decide (x5_1<(l0.length:Int))=true:=dzT c6
       clear c6
       by_cases c7:0≤a1
       ·rw [if_pos c7] at H
        have c7b0:decide (0≤a1)=true:=dzT c7
        clear c7
        by_cases c8:a1<(l0.length:Int)
        ·rw [if_pos c8] at H
         have c8b0:decide (a1<(l0.length:Int))=true:=dzT c8
         clear c8
         have H':=am H
         clear H
         have p158:0≤(x5_1:Int):=ozD (uq)
         have q158:x5_1<(l0.length:Int):=ozD (uq)
         obtain ⟨ad158,e158,hx158_0,hx158_1,hx158_2,hx158_3⟩:=jua HR0.out x5_1 p158 q158
         cases e158
         replace p158:=ezT p158
         replace q158:=ezT q158
         have p159:0≤(a1:Int):=ozD (uq)
         have q159:a1<(l0.length:Int):=ozD (uq)
         obtain ⟨ad159,e159,hx159_0,hx159_1,hx159_2,hx159_3⟩:=jua HR0.out a1 p159 q159
         obtain rfl:ad158=ad159:=(by injection e159)
         replace p159:=ezT p159
         replace q159:=ezT q159
         go_wp2
         repeat (go_quiet (fail);try go_wp2)
         go_meet
         case rel=>exact ⟨_,(decide (((jc l0 x5_1).f0)≥((jc l0 a1).f0))),(sq),H',⟨by have:=HK1.out;first | omega | exact Nat.le_refl _⟩,Y3⟩
        ·rw [if_neg c8] at H
         exact absurd H (by simp)
       ·rw [if_neg c7] at H
        exact absurd H (by simp)
      ·rw [if_neg c6] at H
       exact absurd H (by simp)
     ·rw [if_neg c5] at H
      exact absurd H (by simp)
    ·rw [if_neg c4] at H
     have c4b0:decide (0≤x5_1)=false:=dzF c4
     clear c4
     (first | rw [c4b0] |(simp only [jkb,jnb];rw [c4b0]) | skip)
     have H':=am H
     clear H
     go_wp2
     repeat (go_quiet (fail);try go_wp2)
     go_meet
     case rel=>exact ⟨_,(false),(sq),H',⟨by have:=HK1.out;first | omega | exact Nat.le_refl _⟩,Y3⟩
   case rest =>
    clear HC3
    try clear p1
    try clear q1
    try clear hx1
    try clear p2
    try clear c3
    try clear c4
    try clear c4b0
    try clear c5
    try clear c5b0
    try clear c6
    try clear c6b0
    try clear p6
    try clear c7
    try clear c7b0
    try clear c8
    try clear c8b0
    try clear hx158_0
    try clear hx158_1
    try clear hx158_2
    try clear hx158_3
    try clear hx159_0
    try clear hx159_1
    try clear hx159_2
    try clear hx159_3
    try clear p158
    try clear p159
    try clear p2
    try clear q158
    try clear q159
    obtain ⟨kq,x22_2,rfl,HA,HJ2,⟨mc2,rfl⟩⟩:=hcut
    cases kq with
    | zero=>exact absurd HA.out (by simp [jY.j1])
    | succ kj2 =>
     have H:=HA.out
     clear HA
     simp only [jY.j1] at H
     by_cases c9:x22_2=true
     ·subst c9
      have H1:(if 0≤x5_1 then (if x5_1<(l0.length:Int) then (if 0≤a1 then (if a1<(l0.length:Int) then (if ((jc l0 x5_1).f0)=((jc l0 a1).f0) then ((jBb.f ((jc l0 x5_1).f1)).bind fun t163=>(if t163=true then (some true) else (jY.l0 kj2 l0 a1 (wrap64 (x5_1 - 1))))) else (jY.l0 kj2 l0 a1 (wrap64 (x5_1 - 1)))) else (none)) else (none)) else (none)) else (none))=some r:=by rw [if_pos rfl] at H;exact H
      clear H
      have H:=H1
      clear H1
      by_cases c10:0≤x5_1
      ·rw [if_pos c10] at H
       have c10b0:decide (0≤x5_1)=true:=dzT c10
       clear c10
       by_cases c11:x5_1<(l0.length:Int)
       ·rw [if_pos c11] at H
        have c11b0:decide (x5_1<(l0.length:Int))=true:=dzT c11
        clear c11
        by_cases c12:0≤a1
        ·rw [if_pos c12] at H
         have c12b0:decide (0≤a1)=true:=dzT c12
         clear c12
         by_cases c13:a1<(l0.length:Int)
         ·rw [if_pos c13] at H
          have c13b0:decide (a1<(l0.length:Int))=true:=dzT c13
          clear c13
          by_cases c14:((jc l0 x5_1).f0)=((jc l0 a1).f0)
          ·rw [if_pos c14] at H
           have c14b0:(((jc l0 x5_1).f0) == ((jc l0 a1).f0))=true:=beq_iff_eq.mpr c14
           have c14b1:(((jc l0 x5_1).f0) != ((jc l0 a1).f0))=false:=bne_eq_false_iff_eq.mpr c14
           clear c14
           replace H:=bzS H
           obtain ⟨t163,A150,H⟩:=H
           replace H:(if t163=true then (some true) else (jY.l0 kj2 l0 a1 (wrap64 (x5_1 - 1))))=some r:=H
           have A15:=am A150
           clear A150
           by_cases c16:t163=true
           ·subst c16
            have H1:(some true)=some r:=by rw [if_pos rfl] at H;exact H
            clear H
            have H:=H1
            clear H1
            obtain rfl:=Option.some.inj H
            have p160:0≤(x5_1:Int):=ozD (uq)
            have q160:x5_1<(l0.length:Int):=ozD (uq)
            obtain ⟨ad160,e160,hx160_0,hx160_1,hx160_2,hx160_3⟩:=jua HR0.out x5_1 p160 q160
            cases e160
            replace p160:=ezT p160
            replace q160:=ezT q160
            have p161:0≤(a1:Int):=ozD (uq)
            have q161:a1<(l0.length:Int):=ozD (uq)
            obtain ⟨ad161,e161,hx161_0,hx161_1,hx161_2,hx161_3⟩:=jua HR0.out a1 p161 q161
            obtain rfl:ad160=ad161:=(by injection e161)
            replace p161:=ezT p161
            replace q161:=ezT q161
            have p162:0≤(x5_1:Int):=ozD (uq)
            have q162:x5_1<(l0.length:Int):=ozD (uq)
            obtain ⟨ad162,e162,hx162_0,hx162_1,hx162_2,hx162_3⟩:=jua HR0.out x5_1 p162 q162
            obtain rfl:ad160=ad162:=(by injection e162)
            replace p162:=ezT p162
            replace q162:=ezT q162
            go_wp2_with (first |(go_at_call 59;(with_reducible refine (jBb.calls ((jc l0 x5_1).f1) true _ A15.out).mono ?_);rintro e w' ⟨rfl,⟨nd,rfl⟩⟩;(try first | exact ⟨rfl,_,World.drewN_drewN _ _ _⟩ | exact ⟨rfl,_,Eq.trans (World.drewN_drewN _ _ _) (congrArg (World.drewN _) (Nat.add_assoc _ _ _))⟩)))
            repeat (go_quiet (first |(go_at_call 59;(with_reducible refine (jBb.calls ((jc l0 x5_1).f1) true _ A15.out).mono ?_);rintro e w' ⟨rfl,⟨nd,rfl⟩⟩;(try first | exact ⟨rfl,_,World.drewN_drewN _ _ _⟩ | exact ⟨rfl,_,Eq.trans (World.drewN_drewN _ _ _) (congrArg (World.drewN _) (Nat.add_assoc _ _ _))⟩)));try go_wp2_with (first |(go_at_call 59;(with_reducible refine (jBb.calls ((jc l0 x5_1).f1) true _ A15.out).mono ?_);rintro e w' ⟨rfl,⟨nd,rfl⟩⟩;(try first | exact ⟨rfl,_,World.drewN_drewN _ _ _⟩ | exact ⟨rfl,_,Eq.trans (World.drewN_drewN _ _ _) (congrArg (World.drewN _) (Nat.add_assoc _ _ _))⟩))))
            go_ret
            exact ⟨sq,Y3⟩
           ·replace c16:=Bool.eq_false_iff.mpr c16
            subst c16
            have H1:(jY.l0 kj2 l0 a1 (wrap64 (x5_1 - 1)))=some r:=by rw [if_neg (show ¬ (false=true) by decide)] at H;exact H
            clear H
            have H:=H1
            clear H1
            have H':=am H
            clear H
            have p160:0≤(x5_1:Int):=ozD (uq)
            have q160:x5_1<(l0.length:Int):=ozD (uq)
            obtain ⟨ad160,e160,hx160_0,hx160_1,hx160_2,hx160_3⟩:=jua HR0.out x5_1 p160 q160
            cases e160
            replace p160:=ezT p160
            replace q160:=ezT q160
            have p161:0≤(a1:Int):=ozD (uq)
            have q161:a1<(l0.length:Int):=ozD (uq)
            obtain ⟨ad161,e161,hx161_0,hx161_1,hx161_2,hx161_3⟩:=jua HR0.out a1 p161 q161
            obtain rfl:ad160=ad161:=(by injection e161)
            replace p161:=ezT p161
            replace q161:=ezT q161
            have p162:0≤(x5_1:Int):=ozD (uq)
            have q162:x5_1<(l0.length:Int):=ozD (uq)
            obtain ⟨ad162,e162,hx162_0,hx162_1,hx162_2,hx162_3⟩:=jua HR0.out x5_1 p162 q162
            obtain rfl:ad160=ad162:=(by injection e162)
            replace p162:=ezT p162
            replace q162:=ezT q162
            go_wp2_with (first |(go_at_call 59;(with_reducible refine (jBb.calls ((jc l0 x5_1).f1) false _ A15.out).mono ?_);rintro e w' ⟨rfl,⟨nd,rfl⟩⟩;(try first | exact ⟨rfl,_,World.drewN_drewN _ _ _⟩ | exact ⟨rfl,_,Eq.trans (World.drewN_drewN _ _ _) (congrArg (World.drewN _) (Nat.add_assoc _ _ _))⟩)))
            repeat (go_quiet (first |(go_at_call 59;(with_reducible refine (jBb.calls ((jc l0 x5_1).f1) false _ A15.out).mono ?_);rintro e w' ⟨rfl,⟨nd,rfl⟩⟩;(try first | exact ⟨rfl,_,World.drewN_drewN _ _ _⟩ | exact ⟨rfl,_,Eq.trans (World.drewN_drewN _ _ _) (congrArg (World.drewN _) (Nat.add_assoc _ _ _))⟩)));try go_wp2_with (first |(go_at_call 59;(with_reducible refine (jBb.calls ((jc l0 x5_1).f1) false _ A15.out).mono ?_);rintro e w' ⟨rfl,⟨nd,rfl⟩⟩;(try first | exact ⟨rfl,_,World.drewN_drewN _ _ _⟩ | exact ⟨rfl,_,Eq.trans (World.drewN_drewN _ _ _) (congrArg (World.drewN _) (Nat.add_assoc _ _ _))⟩))))
            go_roundg kj2
            case measure=>have:=HK1.out;have:=HJ2.out;omega
            case rel=>exact ⟨(wrap64 (x5_1 - 1)),(sq),H',⟨by have:=HK1.out;have:=HJ2.out;omega⟩,Y3⟩
          ·rw [if_neg c14] at H
           have c14b0:(((jc l0 x5_1).f0) == ((jc l0 a1).f0))=false:=beq_eq_false_iff_ne.mpr c14
           have c14b1:(((jc l0 x5_1).f0) != ((jc l0 a1).f0))=true:=bne_iff_ne.mpr c14
           have H':=am H
           clear H
           have p160:0≤(x5_1:Int):=ozD (uq)
           have q160:x5_1<(l0.length:Int):=ozD (uq)
           obtain ⟨ad160,e160,hx160_0,hx160_1,hx160_2,hx160_3⟩:=jua HR0.out x5_1 p160 q160
           cases e160
           replace p160:=ezT p160
           replace q160:=ezT q160
           have p161:0≤(a1:Int):=ozD (uq)
           have q161:a1<(l0.length:Int):=ozD (uq)
           obtain ⟨ad161,e161,hx161_0,hx161_1,hx161_2,hx161_3⟩:=jua HR0.out a1 p161 q161
           obtain rfl:ad160=ad161:=(by injection e161)
           replace p161:=ezT p161
           replace q161:=ezT q161
           go_wp2
           repeat (go_quiet (fail);try go_wp2)
           go_roundg kj2
           case measure=>have:=HK1.out;have:=HJ2.out;omega
           case rel=>exact ⟨(wrap64 (x5_1 - 1)),(sq),H',⟨by have:=HK1.out;have:=HJ2.out;omega⟩,Y3⟩
         ·rw [if_neg c13] at H
          exact absurd H (by simp)
        ·rw [if_neg c12] at H
         exact absurd H (by simp)
       ·rw [if_neg c11] at H
        exact absurd H (by simp)
      ·rw [if_neg c10] at H
       exact absurd H (by simp)
     ·replace c9:=Bool.eq_false_iff.mpr c9
      subst c9
      have H1:(some false)=some r:=by rw [if_neg (show ¬ (false=true) by decide)] at H;exact H
      clear H
      have H:=H1
      clear H1
      obtain rfl:=Option.some.inj H
      go_wp2
      repeat (go_quiet (fail);try go_wp2)
      go_ret
      exact ⟨sq,Y3⟩
def jT.l0 : Nat → List (S52) → List (S52) → Int → Option ((List (S52)))
 | 0,_,_,_=>none
 | k+1,x1,x5,x6=>if x6<(x1.length:Int) then ((jY.f k x1 x6).bind fun t169=>(if t169=true then ((joa.f k x1 x6).bind fun t170=>(jT.l0 k x1 x5 t170)) else (if 0≤x6 then (if x5.length<4398046511104 then (jT.l0 k x1 (x5 ++ [(⟨(jc x1 x6).f0,(jc x1 x6).f1,(jc x1 x6).f2,(jc x1 x6).f3⟩:S52)]) (wrap64 (x6+1))) else (none)) else (none)))) else (some x5)
def jT.f (k : Nat) (l0_0 : List (S78)) (l1 : List (S52)) : Option ((List (S52))) := (jV.f k l0_0 l1).bind fun t165 => (if t165 = true then (jT.l0 k l1 (([] : List (S52))) 0) else (some ([] : List (S52))))
set_option maxHeartbeats 8000000 in
set_option maxRecDepth 100000 in
theorem jT.calls (k : Nat) (A0_0 : Option Addr) (c0_0 : Nat) (l0_0 : List (S78)) (A1 : Option Addr) (c1 : Nat) (l1 : List (S52)) (r : List (S52)) (w : World) (hr0_0 : Kd.C k78 w A0_0 l0_0.length l0_0) (hc0_0 : l0_0.length ≤ c0_0) (hr1 : Kd.C k52 w A1 l1.length l1) (hc1 : l1.length ≤ c1) (h : jT.f k l0_0 l1 = some r) :
  Calls Try.prog 9 #[.agg #[.slice A0_0 l0_0.length c0_0], .slice A1 l1.length c1] w fun e w'=>∃ v0_:Value,e=.returned (v0_)∧Kd.R k52 52 w' w.heap.size (fun _=>True) v0_ r∧Below w.heap.size w w':=by
 have hu32:=Try.underlying32
 have hu52:=Try.underlying52
 have HR0_0:=am hr0_0
 have HC0_0:=am hc0_0
 clear hr0_0 hc0_0
 have HR1:=am hr1
 have HC1:=am hc1
 clear hr1 hc1
 have HB:=am (Below.refl w.heap.size w)
 have H:((jV.f k l0_0 l1).bind fun t165=>(if t165=true then (jT.l0 k l1 (([]:List (S52))) 0) else (some ([]:List (S52)))))=some r:=h
 clear h
 replace H:=bzS H
 obtain ⟨t165,A30,H⟩:=H
 replace H:(if t165=true then (jT.l0 k l1 (([]:List (S52))) 0) else (some ([]:List (S52))))=some r:=H
 have A3:=am A30
 clear A30
 by_cases c4:t165=true
 ·subst c4
  have H1:(jT.l0 k l1 (([]:List (S52))) 0)=some r:=by rw [if_pos rfl] at H;exact H
  clear H
  have H:=H1
  clear H1
  obtain ⟨y166,hy166⟩:∃ y_:List (S52),y_=(([]:List (S52))):=⟨_,rfl⟩
  replace H:(jT.l0 k l1 y166 0)=some r:=by first |(rw [hy166];with_reducible exact H) |(have H2_:=(Option.bind_some _ _).symm.trans H;rw [hy166];with_reducible exact H2_) |(have H2_:=(Option.bind_some _ _).symm.trans H;with_reducible exact H2_) | with_reducible exact H |(rw [hy166];exact H) | exact H
  have Ny166:=am hy166
  clear hy166
  have H':=am H
  clear H
  go_enter Try.func9,Try.ntmps9
  go_wp2_with (first |((with_reducible refine jP (N:=2) rfl ?_);refine bE (N:=2) (cs:=#[.slice A0_0 l0_0.length c0_0]) (t:=32) ?_;intro gb164 hg w5 hbox hb;have BK164:=am (hbox);have GW164:=am ((Y11:w.heap.size≤gb164));have GE164:=am ((Y11:w.heap.size≤gb164));replace HB:=am (ji (bq) hb);clear hb hbox hg;have hcz6_0:=bc0 BK164.out;have hfz6_0:=ja BK164.out 0) |((with_reducible refine jd (f:=29) rfl ?_);refine gL (some 9) Try.func29 #[.agg #[.slice A0_0 l0_0.length c0_0], .slice A1 l1.length c1] ?_;(with_reducible refine (jV.calls k _ _ l0_0 _ _ l1 true _ ?side1 ?side2 ?side3 ?side4 A3.out).mono ?_);(case side1=>exact cq (Kd.jZ HR0_0.out HB.out));(case side2=>exact HC0_0.out);(case side3=>exact cq (Kd.jZ HR1.out HB.out));(case side4=>exact HC1.out);rintro e w7 ⟨rfl,hb⟩;refine ⟨_,rfl,?_⟩;replace BK164:=am (jr (g:=gb164) (o:=.cells #[.slice A0_0 l0_0.length c0_0] 32 (0,0)) (kq BK164.out) hb);replace HB:=am (ji (Y39) hb);(try clear hb);(try clear hb2);(try clear hk);(try clear hi)) |((with_reducible refine jP (N:=11) rfl ?_);refine Kd.jYb k52 _ 52 ?hg (N:=11) ?hd (xs:=([]:List (S52))) (inner:=[]) (ok:=fun _=>True) (okp:=fun _=>True) ?hr ?hp (fun _ hk=>hk) trivial (Below.refl _ _) (Nat.le_refl _) (by simp) ?_;(case hd=>rfl);(case hg=>rfl);(case hr=>exact Y8);(case hp=>exact (Reps.none _ _));intro v167 w8 ho9 hb hg_ hnew_;clear hg_ hnew_;(first | rw [← Ny166.out] at ho9 |(simp only [Int.reduceToNat] at ho9;rw [← Ny166.out] at ho9));have HO168:=am (Kd.jfa ho9 (jka (Y39)));replace BK164:=am (jr (g:=gb164) (o:=.cells #[.slice A0_0 l0_0.length c0_0] 32 (0,0)) (kq BK164.out) hb);replace HB:=am (ji (Y39) hb);clear hb ho9))
  go_loopg [5,6] k (fun kq v5 v6 w'=>∃ (x5_1:List (S52)) (x6_1:Int),v6=.int .i64 x6_1∧jl (jT.l0 kq l1 x5_1 x6_1=some r)∧jl (kq≤k)∧jl (Kd.R k52 52 w' w.heap.size (fun _=>True) v5 x5_1)∧jl (w'.heap[gb164]?=some (.cells #[(.slice A0_0 l0_0.length c0_0)] 32 (0,0)))∧jl (Below w.heap.size w w'))
  case atStart=>exact ⟨(y166),(0),(sq),H',⟨Nat.le_refl _⟩,⟨rq HO168.out⟩,⟨kq BK164.out⟩,⟨Y39⟩⟩
  case round =>
   clear H'
   try clear c1
   try clear c2
   try clear p2
   try clear c4
   try clear c9
   try clear hcz6_0
   try clear hfz6_0
   obtain ⟨x5_1,x6_1,rfl,HA,HK1,HO_5,BK164,HB⟩:=hrel
   cases gk with
   | zero=>exact absurd HA.out (by simp [jT.l0])
   | succ k1 =>
    have H:=HA.out
    clear HA
    simp only [jT.l0] at H
    by_cases c10:x6_1<(l1.length:Int)
    ·rw [if_pos c10] at H
     have c10b0:decide (x6_1<(l1.length:Int))=true:=dzT c10
     clear c10
     replace H:=bzS H
     obtain ⟨t169,A110,H⟩:=H
     replace H:(if t169=true then ((joa.f k1 l1 x6_1).bind fun t170=>(jT.l0 k1 l1 x5_1 t170)) else (if 0≤x6_1 then (if x5_1.length<4398046511104 then (jT.l0 k1 l1 (x5_1 ++ [(⟨(jc l1 x6_1).f0,(jc l1 x6_1).f1,(jc l1 x6_1).f2,(jc l1 x6_1).f3⟩:S52)]) (wrap64 (x6_1+1))) else (none)) else (none)))=some r:=H
     have A11:=am A110
     clear A110
     by_cases c12:t169=true
     ·subst c12
      have H1:((joa.f k1 l1 x6_1).bind fun t170=>(jT.l0 k1 l1 x5_1 t170))=some r:=by rw [if_pos rfl] at H;exact H
      clear H
      have H:=H1
      clear H1
      replace H:=bzS H
      obtain ⟨t170,A130,H⟩:=H
      replace H:(jT.l0 k1 l1 x5_1 t170)=some r:=H
      have A13:=am A130
      clear A130
      have H':=am H
      clear H
      go_wp2_with (first |((with_reducible refine jd (f:=30) rfl ?_);refine gL (some 18) Try.func30 #[.slice A1 l1.length c1, .int .i64 x6_1] ?_;(with_reducible refine (jY.calls k1 _ _ l1 x6_1 true _ ?side1 ?side2 A11.out).mono ?_);(case side1=>exact cq (Kd.jZ HR1.out HB.out));(case side2=>exact HC1.out);rintro e w' ⟨rfl,⟨nd,rfl⟩⟩;refine ⟨_,rfl,?_⟩) |((with_reducible refine jd (f:=31) rfl ?_);refine gL (some 21) Try.func31 #[.slice A1 l1.length c1, .int .i64 x6_1] ?_;(with_reducible refine (joa.calls k1 _ _ l1 x6_1 t170 _ ?side1 ?side2 A13.out).mono ?_);(case side1=>repeat (first | exact (Kd.jZ HR1.out (by repeat (first |(with_reducible first | exact HB.out | apply jN | apply jm | apply jO | refine jS ?_ GE164.out) | exact HB.out))) |(with_reducible refine Kd.jqc ?_ _) |(with_reducible refine Kd.jlc ?_ _) |(with_reducible refine Kd.C_drew ?_)));(case side2=>exact HC1.out);rintro e w' ⟨rfl,⟨nd,rfl⟩⟩;refine ⟨_,rfl,?_⟩))
      go_roundg k1
      case measure=>have:=HK1.out;omega
      case rel=>exact ⟨(x5_1),(t170),(sq),H',⟨by have:=HK1.out;omega⟩,⟨rq HO_5.out⟩,⟨kq BK164.out⟩,⟨Y39⟩⟩
     ·replace c12:=Bool.eq_false_iff.mpr c12
      subst c12
      have H1:(if 0≤x6_1 then (if x5_1.length<4398046511104 then (jT.l0 k1 l1 (x5_1 ++ [(⟨(jc l1 x6_1).f0,(jc l1 x6_1).f1,(jc l1 x6_1).f2,(jc l1 x6_1).f3⟩:S52)]) (wrap64 (x6_1+1))) else (none)) else (none))=some r:=by rw [if_neg (show ¬ (false=true) by decide)] at H;exact H
      clear H
      have H:=H1
      clear H1
      by_cases c14:0≤x6_1
      ·rw [if_pos c14] at H
       have c14b0:decide (0≤x6_1)=true:=dzT c14
       clear c14
       by_cases c15:x5_1.length<4398046511104
       ·rw [if_pos c15] at H
        have LMc15:=am c15
        clear c15
        obtain ⟨y172,hy172⟩:∃ y_:List (S52),y_=(x5_1 ++ [(⟨(jc l1 x6_1).f0,(jc l1 x6_1).f1,(jc l1 x6_1).f2,(jc l1 x6_1).f3⟩:S52)]):=⟨_,rfl⟩
        replace H:(jT.l0 k1 l1 y172 (wrap64 (x6_1+1)))=some r:=by first |(rw [hy172];with_reducible exact H) |(have H2_:=(Option.bind_some _ _).symm.trans H;rw [hy172];with_reducible exact H2_) |(have H2_:=(Option.bind_some _ _).symm.trans H;with_reducible exact H2_) | with_reducible exact H |(rw [hy172];exact H) | exact H
        have Ny172:=am hy172
        clear hy172
        have H':=am H
        clear H
        go_wp2_with (first |((with_reducible refine jd (f:=30) rfl ?_);refine gL (some 18) Try.func30 #[.slice A1 l1.length c1, .int .i64 x6_1] ?_;(with_reducible refine (jY.calls k1 _ _ l1 x6_1 false _ ?side1 ?side2 A11.out).mono ?_);(case side1=>exact cq (Kd.jZ HR1.out HB.out));(case side2=>exact HC1.out);rintro e w' ⟨rfl,⟨nd,rfl⟩⟩;refine ⟨_,rfl,?_⟩;have p171:0≤(x6_1:Int):=ozD (uq);have q171:x6_1<(l1.length:Int):=ozD (uq);obtain ⟨ad171,e171,hx171_0,hx171_1,hx171_2,hx171_3⟩:=jua HR1.out x6_1 p171 q171;cases e171;replace hx171_0:=cb HB.out hx171_0;replace hx171_1:=cb HB.out hx171_1;replace hx171_2:=cb HB.out hx171_2;replace hx171_3:=cb HB.out hx171_3;replace p171:=ezT p171;replace q171:=ezT q171) |((with_reducible refine jEa (b:=.append) (xs:=#[.tmp 22, .tmp 27]) rfl ?_);at_builtin;refine Kd.jGb k52 (w0:=w) w.heap.size rfl (.tmp 22) (.tmp 27) 28 52 (.agg #[(.int .i64 0),(.int .i64 0),(.int .i64 0),(.int .i64 0)]) 32 rfl Try.underlying28 jac rfl (by decide) (by omega) u5 x5_1 (⟨(jc l1 x6_1).f0,(jc l1 x6_1).f1,(jc l1 x6_1).f2,(jc l1 x6_1).f3⟩:S52) [.int .i64 ((jc l1 x6_1).f0), .int .i64 ((jc l1 x6_1).f1), .int .i64 ((jc l1 x6_1).f2), .int .i64 ((jc l1 x6_1).f3)] (fun _=>True) (fun _=>False) rfl rfl ?aP (fun _ hk=>hk.elim) ?aF ?aO ?aB ?aS ?aL ?_;(case aP=>exact jpb _ _ _ (⟨(jc l1 x6_1).f0,(jc l1 x6_1).f1,(jc l1 x6_1).f2,(jc l1 x6_1).f3⟩:S52));(case aB=>exact (Y39));(case aF=>exact (fun _ _=>trivial));(case aO=>exact (rq HO_5.out));(case aS=>exact (jka (Y39)));(case aL=>have:=LMc15.out;omega);intro v173 w16 ho hb hg hat;rw [← Ny172.out] at ho;have n0_:=am (jOa (g:=gb164) (o:=.cells #[.slice A0_0 l0_0.length c0_0] 32 (0,0)) (kq BK164.out) hg (Kd.R_ne HO_5.out BK164.out (by decide)));have n1_:=am (hb);have n2_:=am (ho);clear BK164 HB HO_5;have BK164:=n0_;have HB:=n1_;have HO174:=n2_;clear n0_ n1_ n2_ ho hb hg hat))
        go_roundg k1
        case measure=>have:=HK1.out;omega
        case rel=>exact ⟨(y172),(wrap64 (x6_1+1)),(sq),H',⟨by have:=HK1.out;omega⟩,⟨rq HO174.out⟩,⟨kq BK164.out⟩,⟨Y39⟩⟩
       ·rw [if_neg c15] at H
        exact absurd H (by simp)
      ·rw [if_neg c14] at H
       exact absurd H (by simp)
    ·rw [if_neg c10] at H
     have c10b0:decide (x6_1<(l1.length:Int))=false:=dzF c10
     clear c10
     obtain rfl:=Option.some.inj H
     go_wp2
     go_ret
     exact ⟨_,Y0,rq HO_5.out,Y39⟩
 ·replace c4:=Bool.eq_false_iff.mpr c4
  subst c4
  have H1:(some ([]:List (S52)))=some r:=by rw [if_neg (show ¬ (false=true) by decide)] at H;exact H
  clear H
  have H:=H1
  clear H1
  obtain rfl:=Option.some.inj H
  go_enter Try.func9,Try.ntmps9
  go_wp2_with (first |((with_reducible refine jP (N:=2) rfl ?_);refine bE (N:=2) (cs:=#[.slice A0_0 l0_0.length c0_0]) (t:=32) ?_;intro gb164 hg w17 hbox hb;have BK164:=am (hbox);have GW164:=am ((Y11:w.heap.size≤gb164));have GE164:=am ((Y11:w.heap.size≤gb164));replace HB:=am (ji (bq) hb);clear hb hbox hg;have hcz18_0:=bc0 BK164.out;have hfz18_0:=ja BK164.out 0) |((with_reducible refine jd (f:=29) rfl ?_);refine gL (some 9) Try.func29 #[.agg #[.slice A0_0 l0_0.length c0_0], .slice A1 l1.length c1] ?_;(with_reducible refine (jV.calls k _ _ l0_0 _ _ l1 false _ ?side1 ?side2 ?side3 ?side4 A3.out).mono ?_);(case side1=>exact cq (Kd.jZ HR0_0.out HB.out));(case side2=>exact HC0_0.out);(case side3=>exact cq (Kd.jZ HR1.out HB.out));(case side4=>exact HC1.out);rintro e w19 ⟨rfl,hb⟩;refine ⟨_,rfl,?_⟩;replace BK164:=am (jr (g:=gb164) (o:=.cells #[.slice A0_0 l0_0.length c0_0] 32 (0,0)) (kq BK164.out) hb);replace HB:=am (ji (Y39) hb);(try clear hb);(try clear hb2);(try clear hk);(try clear hi)))
  go_ret
  exact ⟨_,Y0,Y90,Y39⟩
def jK.f (a0 : Int) (a1 : Int) (a2 : Int) : Option (Bool) := if a0 ≥ a1 then (some (decide (a0 ≤ a2))) else (some false)
set_option maxHeartbeats 8000000 in
set_option maxRecDepth 100000 in
theorem jK.calls (a0 : Int) (a1 : Int) (a2 : Int) (r : Bool) (w : World) (h : jK.f a0 a1 a2 = some r) :
  Calls Try.prog 53 #[.int .i64 a0, .int .i64 a1, .int .i64 a2] w fun e w'=>e=.returned (.bool r)∧jXa w w':=by
 have H:(if a0≥a1 then (some (decide (a0≤a2))) else (some false))=some r:=h
 clear h
 by_cases c4:a0≥a1
 ·rw [if_pos c4] at H
  have c4b0:decide (a1≤a0)=true:=dzT c4
  clear c4
  obtain rfl:=Option.some.inj H
  go_enter Try.func53,Try.ntmps53
  go_wp2
  go_ret
  exact ⟨sq,Y3⟩
 ·rw [if_neg c4] at H
  have c4b0:decide (a1≤a0)=false:=dzF c4
  clear c4
  obtain rfl:=Option.some.inj H
  go_enter Try.func53,Try.ntmps53
  go_wp2
  go_ret
  exact ⟨sq,Y3⟩
def jLa.l0 : Nat → ByteArray → Int → Int → Option (Bool)
 | 0,_,_,_=>none
 | k+1,x0,x5,x6=>if x6<x5 then (if 0≤x6 then (if x6<(x0.size:Int) then (if (bt x0 x6)<97 then (some false) else (if (bt x0 x6) > 122 then (some false) else (jLa.l0 k x0 x5 (wrap64 (x6+1))))) else (none)) else (none)) else ((jK.f (x0.size:Int) 1 6).bind fun t203=>(some t203))
def jLa.f (k : Nat) (a0 : ByteArray) : Option (Bool) := jLa.l0 k a0 (a0.size : Int) 0
set_option maxHeartbeats 8000000 in
set_option maxRecDepth 100000 in
theorem jLa.calls (k : Nat) (a0 : ByteArray) (r : Bool) (w : World) (h : jLa.f k a0 = some r) :
  Calls Try.prog 78 #[.string a0] w fun e w'=>e=.returned (.bool r)∧jXa w w':=by
 have H:(jLa.l0 k a0 (a0.size:Int) 0)=some r:=h
 clear h
 have H':=am H
 clear H
 go_enter Try.func78,Try.ntmps78
 go_wp2
 go_loopg [6] k (fun kq v6 w'=>∃ (x6_1:Int),v6=.int .i64 x6_1∧jl (jLa.l0 kq a0 (a0.size:Int) x6_1=some r)∧jl (kq≤k)∧jXa w w')
 case atStart=>exact ⟨(0),(sq),H',⟨Nat.le_refl _⟩,Y3⟩
 case round =>
  clear H'
  obtain ⟨x6_1,rfl,HA,HK1,⟨m1,rfl⟩⟩:=hrel
  cases gk with
  | zero=>exact absurd HA.out (by simp [jLa.l0])
  | succ k1 =>
   have H:=HA.out
   clear HA
   simp only [jLa.l0] at H
   by_cases c2:x6_1<(a0.size:Int)
   ·rw [if_pos c2] at H
    have c2b0:decide (x6_1<(a0.size:Int))=true:=dzT c2
    clear c2
    by_cases c3:0≤x6_1
    ·rw [if_pos c3] at H
     have c3b0:decide (0≤x6_1)=true:=dzT c3
     clear c3
     by_cases c4:x6_1<(a0.size:Int)
     ·rw [if_pos c4] at H
      have c4b0:decide (x6_1<(a0.size:Int))=true:=dzT c4
      clear c4
      by_cases c6:(bt a0 x6_1)<97
      ·rw [if_pos c6] at H
       have c6b0:decide ((bt a0 x6_1)<97)=true:=dzT c6
       clear c6
       obtain rfl:=Option.some.inj H
       have p5:0≤(x6_1:Int):=ozD (uq)
       have q5:x6_1<(a0.size:Int):=ozD (uq)
       have hx5:=bt_at a0 x6_1
       replace p5:=ezT p5
       replace q5:=ezT q5
       go_wp2
       go_ret
       exact ⟨sq,Y3⟩
      ·rw [if_neg c6] at H
       have c6b0:decide ((bt a0 x6_1)<97)=false:=dzF c6
       clear c6
       by_cases c8:(bt a0 x6_1) > 122
       ·rw [if_pos c8] at H
        have c8b0:decide (122<(bt a0 x6_1))=true:=dzT c8
        clear c8
        obtain rfl:=Option.some.inj H
        have p5:0≤(x6_1:Int):=ozD (uq)
        have q5:x6_1<(a0.size:Int):=ozD (uq)
        have hx5:=bt_at a0 x6_1
        replace p5:=ezT p5
        replace q5:=ezT q5
        have p7:0≤(x6_1:Int):=ozD (uq)
        have q7:x6_1<(a0.size:Int):=ozD (uq)
        have hx7:=bt_at a0 x6_1
        replace p7:=ezT p7
        replace q7:=ezT q7
        go_wp2
        go_ret
        exact ⟨sq,Y3⟩
       ·rw [if_neg c8] at H
        have c8b0:decide (122<(bt a0 x6_1))=false:=dzF c8
        clear c8
        have H':=am H
        clear H
        have p5:0≤(x6_1:Int):=ozD (uq)
        have q5:x6_1<(a0.size:Int):=ozD (uq)
        have hx5:=bt_at a0 x6_1
        replace p5:=ezT p5
        replace q5:=ezT q5
        have p7:0≤(x6_1:Int):=ozD (uq)
        have q7:x6_1<(a0.size:Int):=ozD (uq)
        have hx7:=bt_at a0 x6_1
        replace p7:=ezT p7
        replace q7:=ezT q7
        go_wp2
        go_roundg k1
        case measure=>have:=HK1.out;omega
        case rel=>exact ⟨(wrap64 (x6_1+1)),(sq),H',⟨by have:=HK1.out;omega⟩,Y3⟩
     ·rw [if_neg c4] at H
      exact absurd H (by simp)
    ·rw [if_neg c3] at H
     exact absurd H (by simp)
   ·rw [if_neg c2] at H
    have c2b0:decide (x6_1<(a0.size:Int))=false:=dzF c2
    clear c2
    replace H:=bzS H
    obtain ⟨t203,A90,H⟩:=H
    replace H:(some t203)=some r:=H
    have A9:=am A90
    clear A90
    obtain rfl:=Option.some.inj H
    go_wp2_with (first |((with_reducible refine jd (f:=53) rfl ?_);refine gL (some 22) Try.func53 #[.int .i64 (a0.size:Int), .int .i64 1, .int .i64 6] ?_;(with_reducible refine (jK.calls (a0.size:Int) 1 6 t203 _ A9.out).mono ?_);rintro e w' ⟨rfl,⟨nd,rfl⟩⟩;refine ⟨_,rfl,?_⟩))
    go_ret
    exact ⟨sq,Y3⟩

theorem impl_named1_calls (a b : ByteArray) (p : Int) (B : Nat) (w : World) (hB : B < w.heap.size) (hc : w.cell? ⟨B, 0, none⟩ = some (.string b)) :
  Calls Try.prog 102 #[.agg #[.string a, .int .i64 p], .pointer (some ⟨B,0,none⟩)] w fun e w'=>e=.returned (.bool (a.toList == b.toList))∧Below w.heap.size w w':=by
 have hne:B≠w.heap.size:=by omega
 go_enter Try.func102,Try.ntmps102
 go_wp2
 go_ret
 exact ⟨rfl,(Below.refl _ _).alloc (Nat.le_refl _) _⟩
set_option maxHeartbeats 8000000 in
set_option maxRecDepth 100000 in
theorem impl_named_idx (A_ : Option Addr) (c_ : Nat) (l : List (S78)) (B0_ : Nat) (p : S78 → Option Bool) (r : Int) (w : World) (hr : Kd.C k78 w A_ l.length l) (h : idxFrom p l 0 = some r)
  (hp:∀ W,Below w.heap.size w W→∀ (x:S78) (b:Bool),p x=some b→Calls Try.prog 102 #[.agg #[.string x.f0, .int .i64 x.f1], .pointer (some ⟨B0_,0,none⟩)] W fun e w'=>e=.returned (.bool b)∧Below W.heap.size W w') :
  Calls Try.prog 101 #[.slice A_ l.length c_, .func (.func 102) #[] #[.pointer (some ⟨B0_,0,none⟩)]] w fun e w'=>e=.returned (.int .i64 r)∧Below w.heap.size w w':=by
 have hm:l.length≤9223372036854775807:=Kd.C_max hr
 have HR:=am hr
 have HP:=am hp
 have H0:=am h
 clear hr hp h
 go_enter Try.func101,Try.ntmps101
 go_wp2
 go_loopw [5,8] (fun i5 i8 wr=>∃ k:Nat,k≤l.length∧i8=.int .i64 k∧jl (idxFrom p (l.drop k) k=some r)∧Below w.heap.size w wr) (fun _ i8 _=>l.length - (intOf i8).toNat)
 case atStart=>exact ⟨0,Nat.zero_le _,rfl,H0,Below.refl _ _⟩
 case round =>
  clear H0
  obtain ⟨k,hk,rfl,HA,hb⟩:=hrel
  by_cases hlt:k<l.length
  ·have HB:=am (idxFrom_step hlt HA.out)
   clear HA
   obtain ⟨ad,rfl,hx0,hx1⟩:=at_T78 HR.out (k:Int) (by omega) (by omega)
   have hrd:jaa l (k:Int)=l[k]:=by simp [jaa,List.getD_eq_getElem?_getD,hlt]
   replace hx0:=jia hb hx0
   replace hx1:=jia hb hx1
   rw [hrd] at hx0 hx1
   simp only [Int.toNat_natCast] at hx0 hx1
   clear hrd
   obtain ⟨b,hb1,hb0⟩:=HB.out
   have HQ:=am hb1
   clear hb1 HB
   cases b with
   | true =>
    have HZ:=am (by simpa using hb0:(k:Int)=r)
    clear hb0
    go_wp2_with (go_at_call 102;refine (HP.out _ hb _ _ HQ.out).mono ?_;rintro e w' ⟨rfl,hb2⟩)
    go_ret
    exact ⟨by rw [← HZ.out];rfl,jga hb hb.size hb2⟩
   | false =>
    have HZ:=am (by simpa using hb0:idxFrom p (l.drop (k+1)) (k+1)=some r)
    clear hb0
    go_wp2_with (go_at_call 102;refine (HP.out _ hb _ _ HQ.out).mono ?_;rintro e w' ⟨rfl,hb2⟩)
    go_roundw
    case rel=>exact ⟨k+1,hlt,by go_num,HZ,jga hb hb.size hb2⟩
    case measure=>simp [intOf];omega
  ·have HZ:=am (idxFrom_end (by omega) HA.out)
   clear HA
   go_wp2
   go_ret
   exact ⟨by rw [HZ.out];rfl,hb⟩
def jSa.f (l0_0 : List S78) (a1 : ByteArray) : Option Int := idxFrom (fun x : S78 => some (x.f0.toList == a1.toList)) l0_0 0
set_option maxHeartbeats 8000000 in
set_option maxRecDepth 100000 in
theorem jSa.calls (A0_0 : Option Addr) (c0_0 : Nat) (l0_0 : List (S78)) (a1 : ByteArray) (r : Int) (w : World) (hr0_0 : Kd.C k78 w A0_0 l0_0.length l0_0) (hc0_0 : l0_0.length ≤ c0_0) (h : jSa.f l0_0 a1 = some r) :
  Calls Try.prog 79 #[.agg #[.slice A0_0 l0_0.length c0_0], .string a1] w fun e w'=>e=.returned (.int .i64 r)∧Below w.heap.size w w':=by
 have hu32:=Try.underlying32
 have HF:=am (fun W (hb:Below w.heap.size w W) (B:Nat) (hB:B<W.heap.size) (hc:W.cell? ⟨B,0,none⟩=some (.string a1))=>impl_named_idx A0_0 c0_0 l0_0 B (fun x:S78=>some (x.f0.toList == a1.toList)) r W (Kd.jZ hr0_0 hb) h (fun W' hb' x b hx=>by
  obtain rfl:=Option.some.inj hx
  exact impl_named1_calls x.f0 a1 x.f1 B W' (Nat.lt_of_lt_of_le hB hb'.size) (jia hb' hc)))
 clear h hr0_0
 go_enter Try.func79,Try.ntmps79
 go_wp2_with (go_at_call 101;refine (HF.out _ (((Below.refl _ _).alloc (Nat.le_refl _) _).alloc (by simp) _) _ (by simp) (by simp)).mono ?_;rintro e w' ⟨rfl,hb2⟩)
 go_ret
 exact ⟨rfl,(((Below.refl _ _).alloc (Nat.le_refl _) _).alloc (by simp) _).trans (hb2.mono (by simp;omega))⟩
mutual
def jE.l0 : Nat → List (S78) → Int → Int → List (S78) → Option (Bool)
 | 0,_,_,_,_=>none
 | k+1,x6,x7,x8,x205000=>if x8<x7 then (if 0≤x8 then (if x8<(x6.length:Int) then ((jLa.f k ((jaa x6 x8).f0)).bind fun t208=>(if t208=true then ((jSa.f x205000 ((jaa x6 x8).f0)).bind fun t209=>(if t209=x8 then (if x8=0 then (if ((jaa x6 x8).f1)=(-1) then (if x8 > 0 then ((jK.f ((jaa x6 x8).f1) 0 (wrap64 (x8 - 1))).bind fun t210=>(jE.j1 k x6 x7 x8 (!t210) x205000)) else (jE.j1 k x6 x7 x8 false x205000)) else (jE.j1 k x6 x7 x8 true x205000)) else (if x8 > 0 then ((jK.f ((jaa x6 x8).f1) 0 (wrap64 (x8 - 1))).bind fun t211=>(jE.j1 k x6 x7 x8 (!t211) x205000)) else (jE.j1 k x6 x7 x8 false x205000))) else (jE.j1 k x6 x7 x8 true x205000))) else (jE.j1 k x6 x7 x8 true x205000))) else (none)) else (none)) else ((jK.f (x205000.length:Int) 1 8).bind fun t205=>(some t205))
def jE.j1 : Nat → List (S78) → Int → Int → Bool → List (S78) → Option (Bool)
 | 0,_,_,_,_,_=>none
 | k+1,x6,x7,x8,x45,x205000=>if x45=true then (some false) else (jE.l0 k x6 x7 (wrap64 (x8+1)) x205000)
end
def jE.f (k : Nat) (l0_0 : List (S78)) : Option (Bool) := jE.l0 k l0_0 (l0_0.length : Int) 0 l0_0
set_option maxHeartbeats 8000000 in
set_option maxRecDepth 100000 in
theorem jE.calls (k : Nat) (A0_0 : Option Addr) (c0_0 : Nat) (l0_0 : List (S78)) (r : Bool) (w : World) (hr0_0 : Kd.C k78 w A0_0 l0_0.length l0_0) (hc0_0 : l0_0.length ≤ c0_0) (h : jE.f k l0_0 = some r) :
  Calls Try.prog 51 #[.agg #[.slice A0_0 l0_0.length c0_0]] w fun e w'=>e=.returned (.bool r)∧Below w.heap.size w w':=by
 have hu32:=Try.underlying32
 have hu78:=Try.underlying78
 have HR0_0:=am hr0_0
 have HC0_0:=am hc0_0
 clear hr0_0 hc0_0
 have HB:=am (Below.refl w.heap.size w)
 have H:(jE.l0 k l0_0 (l0_0.length:Int) 0 l0_0)=some r:=h
 clear h
 have H':=am H
 clear H
 go_enter Try.func51,Try.ntmps51
 go_wp2_with (first |((with_reducible refine jP (N:=1) rfl ?_);refine bE (N:=1) (cs:=#[.slice A0_0 l0_0.length c0_0]) (t:=32) ?_;intro gb204 hg w2 hbox hb;have BK204:=am (hbox);have GW204:=am ((Y11:w.heap.size≤gb204));have GE204:=am ((Y11:w.heap.size≤gb204));replace HB:=am (ji (bq) hb);clear hb hbox hg;have hcz3_0:=bc0 BK204.out;have hfz3_0:=ja BK204.out 0))
 go_loopg [8] k (fun kq v8 w'=>∃ (x8_1:Int),v8=.int .i64 x8_1∧jl (jE.l0 kq l0_0 (l0_0.length:Int) x8_1 l0_0=some r)∧jl (kq≤k)∧jl (w'.heap[gb204]?=some (.cells #[(.slice A0_0 l0_0.length c0_0)] 32 (0,0)))∧jl (Below w.heap.size w w'))
 case atStart=>exact ⟨(0),(sq),H',⟨Nat.le_refl _⟩,⟨kq BK204.out⟩,⟨Y82⟩⟩
 case round =>
  clear H'
  try clear p2
  try clear hcz3_0
  try clear hfz3_0
  obtain ⟨x8_1,rfl,HA,HK1,BK204,HB⟩:=hrel
  cases gk with
  | zero=>exact absurd HA.out (by simp [jE.l0])
  | succ k1 =>
   have H:=HA.out
   clear HA
   simp only [jE.l0] at H
   by_cases c4:x8_1<(l0_0.length:Int)
   ·rw [if_pos c4] at H
    have c4b0:decide (x8_1<(l0_0.length:Int))=true:=dzT c4
    clear c4
    by_cases c5:0≤x8_1
    ·rw [if_pos c5] at H
     have c5b0:decide (0≤x8_1)=true:=dzT c5
     clear c5
     by_cases c6:x8_1<(l0_0.length:Int)
     ·rw [if_pos c6] at H
      have c6b0:decide (x8_1<(l0_0.length:Int))=true:=dzT c6
      clear c6
      have HC7:=am H
      clear H
      have p206:0≤(x8_1:Int):=ozD (uq)
      have q206:x8_1<(l0_0.length:Int):=ozD (uq)
      obtain ⟨ad206,e206,hx206_0,hx206_1⟩:=at_T78 HR0_0.out x8_1 p206 q206
      cases e206
      replace hx206_0:=cb HB.out hx206_0
      replace hx206_1:=cb HB.out hx206_1
      replace p206:=ezT p206
      replace q206:=ezT q206
      go_upto_region 4 with (first |((with_reducible refine jP (N:=4) rfl ?_);refine bE (N:=4) (cs:=#[.string (⟨#[]⟩:ByteArray), .int .i64 0]) (t:=78) ?_;intro gb207 hg w8 hbox hb;have BK207:=am (hbox);have GW207:=am ((Y91:w.heap.size≤gb207));have GE207:=am ((Y91:w.heap.size≤gb207));have NB204_207:=am ((by rw [hg];exact Nat.ne_of_lt (jEb (g:=gb204) (o:=.cells #[.slice (some ad206) l0_0.length c0_0] 32 (0,0)) (kq BK204.out)):gb204≠gb207));have NB207_204:=am ((by rw [hg];exact Nat.ne_of_gt (jEb (g:=gb204) (o:=.cells #[.slice (some ad206) l0_0.length c0_0] 32 (0,0)) (kq BK204.out)):gb207≠gb204));replace BK204:=am (jr (g:=gb204) (o:=.cells #[.slice (some ad206) l0_0.length c0_0] 32 (0,0)) (kq BK204.out) hb);replace HB:=am (ji (Y82) hb);clear hb hbox hg;have hnb9:=NB207_204.out;have hnc9:=NB204_207.out;have hcz10_0:=bc0 BK207.out;have hcz10_1:=bc1 BK207.out;have hfz10_0:=ja BK207.out 0;have hfz10_1:=ja BK207.out 1))
      (try simp only [Act.put,List.setIfInBounds_toArray,List.set_cons_zero,List.set_cons_succ])
      go_cut [45] (fun v45 wc=>∃ (kq:Nat) (x45_6:Bool),v45=.bool x45_6∧jl (jE.j1 kq l0_0 (l0_0.length:Int) x8_1 x45_6 l0_0=some r)∧jl (kq≤k1)∧jl (wc.heap[gb204]?=some (.cells #[(.slice (some ad206) l0_0.length c0_0)] 32 (0,0)))∧jl (wc.heap[gb207]?=some (.cells #[.string ((jaa l0_0 x8_1).f0), .int .i64 ((jaa l0_0 x8_1).f1)] 78 (0,0)))∧jl (Below w.heap.size w wc))
      case first =>
       have H:=HC7.out
       clear HC7
       replace H:=bzS H
       obtain ⟨t208,A110,H⟩:=H
       replace H:(if t208=true then ((jSa.f l0_0 ((jaa l0_0 x8_1).f0)).bind fun t209=>(if t209=x8_1 then (if x8_1=0 then (if ((jaa l0_0 x8_1).f1)=(-1) then (if x8_1 > 0 then ((jK.f ((jaa l0_0 x8_1).f1) 0 (wrap64 (x8_1 - 1))).bind fun t210=>(jE.j1 k1 l0_0 (l0_0.length:Int) x8_1 (!t210) l0_0)) else (jE.j1 k1 l0_0 (l0_0.length:Int) x8_1 false l0_0)) else (jE.j1 k1 l0_0 (l0_0.length:Int) x8_1 true l0_0)) else (if x8_1 > 0 then ((jK.f ((jaa l0_0 x8_1).f1) 0 (wrap64 (x8_1 - 1))).bind fun t211=>(jE.j1 k1 l0_0 (l0_0.length:Int) x8_1 (!t211) l0_0)) else (jE.j1 k1 l0_0 (l0_0.length:Int) x8_1 false l0_0))) else (jE.j1 k1 l0_0 (l0_0.length:Int) x8_1 true l0_0))) else (jE.j1 k1 l0_0 (l0_0.length:Int) x8_1 true l0_0))=some r:=H
       have A11:=am A110
       clear A110
       by_cases c12:t208=true
       ·subst c12
        have H1:((jSa.f l0_0 ((jaa l0_0 x8_1).f0)).bind fun t209=>(if t209=x8_1 then (if x8_1=0 then (if ((jaa l0_0 x8_1).f1)=(-1) then (if x8_1 > 0 then ((jK.f ((jaa l0_0 x8_1).f1) 0 (wrap64 (x8_1 - 1))).bind fun t210=>(jE.j1 k1 l0_0 (l0_0.length:Int) x8_1 (!t210) l0_0)) else (jE.j1 k1 l0_0 (l0_0.length:Int) x8_1 false l0_0)) else (jE.j1 k1 l0_0 (l0_0.length:Int) x8_1 true l0_0)) else (if x8_1 > 0 then ((jK.f ((jaa l0_0 x8_1).f1) 0 (wrap64 (x8_1 - 1))).bind fun t211=>(jE.j1 k1 l0_0 (l0_0.length:Int) x8_1 (!t211) l0_0)) else (jE.j1 k1 l0_0 (l0_0.length:Int) x8_1 false l0_0))) else (jE.j1 k1 l0_0 (l0_0.length:Int) x8_1 true l0_0)))=some r:=by rw [if_pos rfl] at H;exact H
        clear H
        have H:=H1
        clear H1
        replace H:=bzS H
        obtain ⟨t209,A130,H⟩:=H
        replace H:(if t209=x8_1 then (if x8_1=0 then (if ((jaa l0_0 x8_1).f1)=(-1) then (if x8_1 > 0 then ((jK.f ((jaa l0_0 x8_1).f1) 0 (wrap64 (x8_1 - 1))).bind fun t210=>(jE.j1 k1 l0_0 (l0_0.length:Int) x8_1 (!t210) l0_0)) else (jE.j1 k1 l0_0 (l0_0.length:Int) x8_1 false l0_0)) else (jE.j1 k1 l0_0 (l0_0.length:Int) x8_1 true l0_0)) else (if x8_1 > 0 then ((jK.f ((jaa l0_0 x8_1).f1) 0 (wrap64 (x8_1 - 1))).bind fun t211=>(jE.j1 k1 l0_0 (l0_0.length:Int) x8_1 (!t211) l0_0)) else (jE.j1 k1 l0_0 (l0_0.length:Int) x8_1 false l0_0))) else (jE.j1 k1 l0_0 (l0_0.length:Int) x8_1 true l0_0))=some r:=H
        have A13:=am A130
        clear A130
        by_cases c14:t209=x8_1
        ·rw [if_pos c14] at H
         have c14b0:(t209 == x8_1)=true:=beq_iff_eq.mpr c14
         have c14b1:(t209 != x8_1)=false:=bne_eq_false_iff_eq.mpr c14
         clear c14
         (first | rw [c14b0] |(simp only [jkb,jnb];rw [c14b0]) | skip)
         by_cases c15:x8_1=0
         ·rw [if_pos c15] at H
          have c15b0:(x8_1 == 0)=true:=beq_iff_eq.mpr c15
          have c15b1:(x8_1 != 0)=false:=bne_eq_false_iff_eq.mpr c15
          clear c15
          by_cases c16:((jaa l0_0 x8_1).f1)=(-1)
          ·rw [if_pos c16] at H
           have c16b0:(((jaa l0_0 x8_1).f1) == (-1))=true:=beq_iff_eq.mpr c16
           have c16b1:(((jaa l0_0 x8_1).f1) != (-1))=false:=bne_eq_false_iff_eq.mpr c16
           clear c16
           by_cases c17:x8_1 > 0
           ·rw [if_pos c17] at H
            have c17b0:decide (0<x8_1)=true:=dzT c17
            clear c17
            replace H:=bzS H
            obtain ⟨t210,A180,H⟩:=H
            replace H:(jE.j1 k1 l0_0 (l0_0.length:Int) x8_1 (!t210) l0_0)=some r:=H
            have A18:=am A180
            clear A180
            have H':=am H
            clear H
            have hnb19:=NB207_204.out
            have hnc19:=NB204_207.out
            have hcz20_0:=bc0 BK207.out
            have hcz20_1:=bc1 BK207.out
            have hfz20_0:=ja BK207.out 0
            have hfz20_1:=ja BK207.out 1
            go_wp2_with (first |((with_reducible refine jd (f:=78) rfl ?_);refine gL (some 15) Try.func78 #[.string ((jaa l0_0 x8_1).f0)] ?_;(with_reducible refine (jLa.calls k1 ((jaa l0_0 x8_1).f0) true _ A11.out).mono ?_);rintro e w' ⟨rfl,⟨nd,rfl⟩⟩;refine ⟨_,rfl,?_⟩;have hcz21_0:=bc0 BK204.out;have hfz21_0:=ja BK204.out 0) |(go_at_call 79;(with_reducible refine (jSa.calls _ _ l0_0 ((jaa l0_0 x8_1).f0) t209 _ ?side1 ?side2 A13.out).mono ?_);(case side1=>exact Kd.jZ HR0_0.out (Y19));(case side2=>exact HC0_0.out);rintro e w22 ⟨rfl,hb⟩;replace BK204:=am (jr (g:=gb204) (o:=.cells #[.slice (some ad206) l0_0.length c0_0] 32 (0,0)) (Y56) hb);replace BK207:=am (jr (g:=gb207) (o:=.cells #[.string ((jaa l0_0 x8_1).f0), .int .i64 ((jaa l0_0 x8_1).f1)] 78 (0,0)) (Y57) hb);replace HB:=am (ji (Y19) hb);(try clear hb);(try clear hb2);(try clear hk);(try clear hi);have hcz23_0:=bc0 BK207.out;have hcz23_1:=bc1 BK207.out;have hfz23_0:=ja BK207.out 0;have hfz23_1:=ja BK207.out 1) |(go_at_call 53;(with_reducible refine (jK.calls ((jaa l0_0 x8_1).f1) 0 (wrap64 (x8_1 - 1)) t210 _ A18.out).mono ?_);rintro e w' ⟨rfl,⟨nd,rfl⟩⟩))
            go_meet
            case rel=>exact ⟨_,(!t210),(sq),H',⟨by have:=HK1.out;first | omega | exact Nat.le_refl _⟩,⟨kq BK204.out⟩,⟨kq BK207.out⟩,⟨Y19⟩⟩
           ·rw [if_neg c17] at H
            have c17b0:decide (0<x8_1)=false:=dzF c17
            clear c17
            have H':=am H
            clear H
            have hnb24:=NB207_204.out
            have hnc24:=NB204_207.out
            have hcz25_0:=bc0 BK207.out
            have hcz25_1:=bc1 BK207.out
            have hfz25_0:=ja BK207.out 0
            have hfz25_1:=ja BK207.out 1
            go_wp2_with (first |((with_reducible refine jd (f:=78) rfl ?_);refine gL (some 15) Try.func78 #[.string ((jaa l0_0 x8_1).f0)] ?_;(with_reducible refine (jLa.calls k1 ((jaa l0_0 x8_1).f0) true _ A11.out).mono ?_);rintro e w' ⟨rfl,⟨nd,rfl⟩⟩;refine ⟨_,rfl,?_⟩;have hcz26_0:=bc0 BK204.out;have hfz26_0:=ja BK204.out 0) |(go_at_call 79;(with_reducible refine (jSa.calls _ _ l0_0 ((jaa l0_0 x8_1).f0) t209 _ ?side1 ?side2 A13.out).mono ?_);(case side1=>exact Kd.jZ HR0_0.out (Y19));(case side2=>exact HC0_0.out);rintro e w27 ⟨rfl,hb⟩;replace BK204:=am (jr (g:=gb204) (o:=.cells #[.slice (some ad206) l0_0.length c0_0] 32 (0,0)) (Y56) hb);replace BK207:=am (jr (g:=gb207) (o:=.cells #[.string ((jaa l0_0 x8_1).f0), .int .i64 ((jaa l0_0 x8_1).f1)] 78 (0,0)) (Y57) hb);replace HB:=am (ji (Y19) hb);(try clear hb);(try clear hb2);(try clear hk);(try clear hi);have hcz28_0:=bc0 BK207.out;have hcz28_1:=bc1 BK207.out;have hfz28_0:=ja BK207.out 0;have hfz28_1:=ja BK207.out 1))
            go_meet
            case rel=>exact ⟨_,(false),(sq),H',⟨by have:=HK1.out;first | omega | exact Nat.le_refl _⟩,⟨kq BK204.out⟩,⟨kq BK207.out⟩,⟨Y19⟩⟩
          ·rw [if_neg c16] at H
           have c16b0:(((jaa l0_0 x8_1).f1) == (-1))=false:=beq_eq_false_iff_ne.mpr c16
           have c16b1:(((jaa l0_0 x8_1).f1) != (-1))=true:=bne_iff_ne.mpr c16
           have H':=am H
           clear H
           have hnb29:=NB207_204.out
           have hnc29:=NB204_207.out
           have hcz30_0:=bc0 BK207.out
           have hcz30_1:=bc1 BK207.out
           have hfz30_0:=ja BK207.out 0
           have hfz30_1:=ja BK207.out 1
           go_wp2_with (first |((with_reducible refine jd (f:=78) rfl ?_);refine gL (some 15) Try.func78 #[.string ((jaa l0_0 x8_1).f0)] ?_;(with_reducible refine (jLa.calls k1 ((jaa l0_0 x8_1).f0) true _ A11.out).mono ?_);rintro e w' ⟨rfl,⟨nd,rfl⟩⟩;refine ⟨_,rfl,?_⟩;have hcz31_0:=bc0 BK204.out;have hfz31_0:=ja BK204.out 0) |(go_at_call 79;(with_reducible refine (jSa.calls _ _ l0_0 ((jaa l0_0 x8_1).f0) t209 _ ?side1 ?side2 A13.out).mono ?_);(case side1=>exact Kd.jZ HR0_0.out (Y19));(case side2=>exact HC0_0.out);rintro e w32 ⟨rfl,hb⟩;replace BK204:=am (jr (g:=gb204) (o:=.cells #[.slice (some ad206) l0_0.length c0_0] 32 (0,0)) (Y56) hb);replace BK207:=am (jr (g:=gb207) (o:=.cells #[.string ((jaa l0_0 x8_1).f0), .int .i64 ((jaa l0_0 x8_1).f1)] 78 (0,0)) (Y57) hb);replace HB:=am (ji (Y19) hb);(try clear hb);(try clear hb2);(try clear hk);(try clear hi);have hcz33_0:=bc0 BK207.out;have hcz33_1:=bc1 BK207.out;have hfz33_0:=ja BK207.out 0;have hfz33_1:=ja BK207.out 1))
           go_meet
           case rel=>exact ⟨_,(true),(sq),H',⟨by have:=HK1.out;first | omega | exact Nat.le_refl _⟩,⟨kq BK204.out⟩,⟨kq BK207.out⟩,⟨Y19⟩⟩
         ·rw [if_neg c15] at H
          have c15b0:(x8_1 == 0)=false:=beq_eq_false_iff_ne.mpr c15
          have c15b1:(x8_1 != 0)=true:=bne_iff_ne.mpr c15
          by_cases c34:x8_1 > 0
          ·rw [if_pos c34] at H
           have c34b0:decide (0<x8_1)=true:=dzT c34
           clear c34
           replace H:=bzS H
           obtain ⟨t211,A350,H⟩:=H
           replace H:(jE.j1 k1 l0_0 (l0_0.length:Int) x8_1 (!t211) l0_0)=some r:=H
           have A35:=am A350
           clear A350
           have H':=am H
           clear H
           have hnb36:=NB207_204.out
           have hnc36:=NB204_207.out
           have hcz37_0:=bc0 BK207.out
           have hcz37_1:=bc1 BK207.out
           have hfz37_0:=ja BK207.out 0
           have hfz37_1:=ja BK207.out 1
           go_wp2_with (first |((with_reducible refine jd (f:=78) rfl ?_);refine gL (some 15) Try.func78 #[.string ((jaa l0_0 x8_1).f0)] ?_;(with_reducible refine (jLa.calls k1 ((jaa l0_0 x8_1).f0) true _ A11.out).mono ?_);rintro e w' ⟨rfl,⟨nd,rfl⟩⟩;refine ⟨_,rfl,?_⟩;have hcz38_0:=bc0 BK204.out;have hfz38_0:=ja BK204.out 0) |(go_at_call 79;(with_reducible refine (jSa.calls _ _ l0_0 ((jaa l0_0 x8_1).f0) t209 _ ?side1 ?side2 A13.out).mono ?_);(case side1=>exact Kd.jZ HR0_0.out (Y19));(case side2=>exact HC0_0.out);rintro e w39 ⟨rfl,hb⟩;replace BK204:=am (jr (g:=gb204) (o:=.cells #[.slice (some ad206) l0_0.length c0_0] 32 (0,0)) (Y56) hb);replace BK207:=am (jr (g:=gb207) (o:=.cells #[.string ((jaa l0_0 x8_1).f0), .int .i64 ((jaa l0_0 x8_1).f1)] 78 (0,0)) (Y57) hb);replace HB:=am (ji (Y19) hb);(try clear hb);(try clear hb2);(try clear hk);(try clear hi);have hcz40_0:=bc0 BK207.out;have hcz40_1:=bc1 BK207.out;have hfz40_0:=ja BK207.out 0;have hfz40_1:=ja BK207.out 1) |(go_at_call 53;(with_reducible refine (jK.calls ((jaa l0_0 x8_1).f1) 0 (wrap64 (x8_1 - 1)) t211 _ A35.out).mono ?_);rintro e w' ⟨rfl,⟨nd,rfl⟩⟩))
           go_meet
           case rel=>exact ⟨_,(!t211),(sq),H',⟨by have:=HK1.out;first | omega | exact Nat.le_refl _⟩,⟨kq BK204.out⟩,⟨kq BK207.out⟩,⟨Y19⟩⟩
          ·rw [if_neg c34] at H
           have c34b0:decide (0<x8_1)=false:=dzF c34
           clear c34
           have H':=am H
           clear H
           have hnb41:=NB207_204.out
           have hnc41:=NB204_207.out
           have hcz42_0:=bc0 BK207.out
           have hcz42_1:=bc1 BK207.out
           have hfz42_0:=ja BK207.out 0
           have hfz42_1:=ja BK207.out 1
           go_wp2_with (first |((with_reducible refine jd (f:=78) rfl ?_);refine gL (some 15) Try.func78 #[.string ((jaa l0_0 x8_1).f0)] ?_;(with_reducible refine (jLa.calls k1 ((jaa l0_0 x8_1).f0) true _ A11.out).mono ?_);rintro e w' ⟨rfl,⟨nd,rfl⟩⟩;refine ⟨_,rfl,?_⟩;have hcz43_0:=bc0 BK204.out;have hfz43_0:=ja BK204.out 0) |(go_at_call 79;(with_reducible refine (jSa.calls _ _ l0_0 ((jaa l0_0 x8_1).f0) t209 _ ?side1 ?side2 A13.out).mono ?_);(case side1=>exact Kd.jZ HR0_0.out (Y19));(case side2=>exact HC0_0.out);rintro e w44 ⟨rfl,hb⟩;replace BK204:=am (jr (g:=gb204) (o:=.cells #[.slice (some ad206) l0_0.length c0_0] 32 (0,0)) (Y56) hb);replace BK207:=am (jr (g:=gb207) (o:=.cells #[.string ((jaa l0_0 x8_1).f0), .int .i64 ((jaa l0_0 x8_1).f1)] 78 (0,0)) (Y57) hb);replace HB:=am (ji (Y19) hb);(try clear hb);(try clear hb2);(try clear hk);(try clear hi)))
           go_meet
           case rel=>exact ⟨_,(false),(sq),H',⟨by have:=HK1.out;first | omega | exact Nat.le_refl _⟩,⟨kq BK204.out⟩,⟨kq BK207.out⟩,⟨Y19⟩⟩
        ·rw [if_neg c14] at H
         have c14b0:(t209 == x8_1)=false:=beq_eq_false_iff_ne.mpr c14
         have c14b1:(t209 != x8_1)=true:=bne_iff_ne.mpr c14
         (first | rw [c14b0] |(simp only [jkb,jnb];rw [c14b0]) | skip)
         have H':=am H
         clear H
         have hnb45:=NB207_204.out
         have hnc45:=NB204_207.out
         have hcz46_0:=bc0 BK207.out
         have hcz46_1:=bc1 BK207.out
         have hfz46_0:=ja BK207.out 0
         have hfz46_1:=ja BK207.out 1
         go_wp2_with (first |((with_reducible refine jd (f:=78) rfl ?_);refine gL (some 15) Try.func78 #[.string ((jaa l0_0 x8_1).f0)] ?_;(with_reducible refine (jLa.calls k1 ((jaa l0_0 x8_1).f0) true _ A11.out).mono ?_);rintro e w' ⟨rfl,⟨nd,rfl⟩⟩;refine ⟨_,rfl,?_⟩;have hcz47_0:=bc0 BK204.out;have hfz47_0:=ja BK204.out 0) |(go_at_call 79;(with_reducible refine (jSa.calls _ _ l0_0 ((jaa l0_0 x8_1).f0) t209 _ ?side1 ?side2 A13.out).mono ?_);(case side1=>exact Kd.jZ HR0_0.out (Y19));(case side2=>exact HC0_0.out);rintro e w48 ⟨rfl,hb⟩;replace BK204:=am (jr (g:=gb204) (o:=.cells #[.slice (some ad206) l0_0.length c0_0] 32 (0,0)) (Y56) hb);replace BK207:=am (jr (g:=gb207) (o:=.cells #[.string ((jaa l0_0 x8_1).f0), .int .i64 ((jaa l0_0 x8_1).f1)] 78 (0,0)) (Y57) hb);replace HB:=am (ji (Y19) hb);(try clear hb);(try clear hb2);(try clear hk);(try clear hi)))
         go_meet
         case rel=>exact ⟨_,(true),(sq),H',⟨by have:=HK1.out;first | omega | exact Nat.le_refl _⟩,⟨kq BK204.out⟩,⟨kq BK207.out⟩,⟨Y19⟩⟩
       ·replace c12:=Bool.eq_false_iff.mpr c12
        subst c12
        have H1:(jE.j1 k1 l0_0 (l0_0.length:Int) x8_1 true l0_0)=some r:=by rw [if_neg (show ¬ (false=true) by decide)] at H;exact H
        clear H
        have H:=H1
        clear H1
        have H':=am H
        clear H
        have hnb49:=NB207_204.out
        have hnc49:=NB204_207.out
        have hcz50_0:=bc0 BK207.out
        have hcz50_1:=bc1 BK207.out
        have hfz50_0:=ja BK207.out 0
        have hfz50_1:=ja BK207.out 1
        go_wp2_with (first |((with_reducible refine jd (f:=78) rfl ?_);refine gL (some 15) Try.func78 #[.string ((jaa l0_0 x8_1).f0)] ?_;(with_reducible refine (jLa.calls k1 ((jaa l0_0 x8_1).f0) false _ A11.out).mono ?_);rintro e w' ⟨rfl,⟨nd,rfl⟩⟩;refine ⟨_,rfl,?_⟩))
        go_meet
        case rel=>exact ⟨_,(true),(sq),H',⟨by have:=HK1.out;first | omega | exact Nat.le_refl _⟩,⟨by (with_reducible repeat (first | refine jv ?_ _ | refine jD ?_ | refine jA ?_ _));refine jib ?_ NB204_207.out _;(with_reducible repeat (first | refine jv ?_ _ | refine jD ?_ | refine jA ?_ _));refine jib ?_ NB204_207.out _;(with_reducible repeat (first | refine jv ?_ _ | refine jD ?_ | refine jA ?_ _));exact BK204.out⟩,⟨by (with_reducible repeat (first | refine jv ?_ _ | refine jD ?_ | refine jA ?_ _));refine jVa (cs:=#[.string ((jaa l0_0 x8_1).f0), .int .i64 0]) ?_ 1 _ rfl;(with_reducible repeat (first | refine jv ?_ _ | refine jD ?_ | refine jA ?_ _));refine jVa (cs:=#[.string (⟨#[]⟩:ByteArray), .int .i64 0]) ?_ 0 _ rfl;(with_reducible repeat (first | refine jv ?_ _ | refine jD ?_ | refine jA ?_ _));exact BK207.out⟩,⟨Y19⟩⟩
      case rest =>
       clear HC7
       try clear c1
       try clear c2
       try clear p2
       try clear q2
       try clear hx2
       try clear c3
       try clear c4
       try clear c4b0
       try clear c5
       try clear c5b0
       try clear c6
       try clear c6b0
       try clear p6
       try clear c7
       try clear c9
       try clear c12
       try clear c14
       try clear c14b0
       try clear c14b1
       try clear c15
       try clear c15b0
       try clear c15b1
       try clear c16
       try clear c16b0
       try clear c16b1
       try clear c17
       try clear c17b0
       try clear c19
       try clear p20
       try clear q20
       try clear hx20
       try clear c24
       try clear c29
       try clear c34
       try clear c34b0
       try clear c36
       try clear c41
       try clear c45
       try clear c49
       try clear hcz10_0
       try clear hcz10_1
       try clear hcz20_0
       try clear hcz20_1
       try clear hcz21_0
       try clear hcz23_0
       try clear hcz23_1
       try clear hcz25_0
       try clear hcz25_1
       try clear hcz26_0
       try clear hcz28_0
       try clear hcz28_1
       try clear hcz30_0
       try clear hcz30_1
       try clear hcz31_0
       try clear hcz33_0
       try clear hcz33_1
       try clear hcz37_0
       try clear hcz37_1
       try clear hcz38_0
       try clear hcz3_0
       try clear hcz40_0
       try clear hcz40_1
       try clear hcz42_0
       try clear hcz42_1
       try clear hcz43_0
       try clear hcz46_0
       try clear hcz46_1
       try clear hcz47_0
       try clear hcz50_0
       try clear hcz50_1
       try clear hfz10_0
       try clear hfz10_1
       try clear hfz20_0
       try clear hfz20_1
       try clear hfz21_0
       try clear hfz23_0
       try clear hfz23_1
       try clear hfz25_0
       try clear hfz25_1
       try clear hfz26_0
       try clear hfz28_0
       try clear hfz28_1
       try clear hfz30_0
       try clear hfz30_1
       try clear hfz31_0
       try clear hfz33_0
       try clear hfz33_1
       try clear hfz37_0
       try clear hfz37_1
       try clear hfz38_0
       try clear hfz3_0
       try clear hfz40_0
       try clear hfz40_1
       try clear hfz42_0
       try clear hfz42_1
       try clear hfz43_0
       try clear hfz46_0
       try clear hfz46_1
       try clear hfz47_0
       try clear hfz50_0
       try clear hfz50_1
       try clear hx206_0
       try clear hx206_1
       try clear p2
       try clear p206
       try clear q206
       obtain ⟨kq,x45_6,rfl,HA,HJ6,BK204,BK207,HB⟩:=hcut
       cases kq with
       | zero=>exact absurd HA.out (by simp [jE.j1])
       | succ kj6 =>
        have H:=HA.out
        clear HA
        simp only [jE.j1] at H
        by_cases c51:x45_6=true
        ·subst c51
         have H1:(some false)=some r:=by rw [if_pos rfl] at H;exact H
         clear H
         have H:=H1
         clear H1
         obtain rfl:=Option.some.inj H
         go_wp2
         go_ret
         exact ⟨Y0,Y19⟩
        ·replace c51:=Bool.eq_false_iff.mpr c51
         subst c51
         have H1:(jE.l0 kj6 l0_0 (l0_0.length:Int) (wrap64 (x8_1+1)) l0_0)=some r:=by rw [if_neg (show ¬ (false=true) by decide)] at H;exact H
         clear H
         have H:=H1
         clear H1
         have H':=am H
         clear H
         go_wp2
         go_roundg kj6
         case measure=>have:=HK1.out;have:=HJ6.out;omega
         case rel=>exact ⟨(wrap64 (x8_1+1)),(sq),H',⟨by have:=HK1.out;have:=HJ6.out;omega⟩,⟨kq BK204.out⟩,⟨Y19⟩⟩
     ·rw [if_neg c6] at H
      exact absurd H (by simp)
    ·rw [if_neg c5] at H
     exact absurd H (by simp)
   ·rw [if_neg c4] at H
    have c4b0:decide (x8_1<(l0_0.length:Int))=false:=dzF c4
    clear c4
    replace H:=bzS H
    obtain ⟨t205,A520,H⟩:=H
    replace H:(some t205)=some r:=H
    have A52:=am A520
    clear A520
    obtain rfl:=Option.some.inj H
    have hcz53_0:=bc0 BK204.out
    have hfz53_0:=ja BK204.out 0
    go_wp2_with (first |((with_reducible refine jd (f:=53) rfl ?_);refine gL (some 50) Try.func53 #[.int .i64 (l0_0.length:Int), .int .i64 1, .int .i64 8] ?_;(with_reducible refine (jK.calls (l0_0.length:Int) 1 8 t205 _ A52.out).mono ?_);rintro e w' ⟨rfl,⟨nd,rfl⟩⟩;refine ⟨_,rfl,?_⟩))
    go_ret
    exact ⟨Y0,Y82⟩
def job.f (a0 : Int) : Option (Bool) := (jK.f a0 0 99).bind fun t212 => (some t212)
set_option maxHeartbeats 8000000 in
set_option maxRecDepth 100000 in
theorem job.calls (a0 : Int) (r : Bool) (w : World) (h : job.f a0 = some r) :
  Calls Try.prog 80 #[.int .i64 a0] w fun e w'=>e=.returned (.bool r)∧jXa w w':=by
 have H:((jK.f a0 0 99).bind fun t212=>(some t212))=some r:=h
 clear h
 replace H:=bzS H
 obtain ⟨t212,A20,H⟩:=H
 replace H:(some t212)=some r:=H
 have A2:=am A20
 clear A20
 obtain rfl:=Option.some.inj H
 go_enter Try.func80,Try.ntmps80
 go_wp2_with (first |((with_reducible refine jd (f:=53) rfl ?_);refine gL (some 4) Try.func53 #[.int .i64 a0, .int .i64 0, .int .i64 99] ?_;(with_reducible refine (jK.calls a0 0 99 t212 _ A2.out).mono ?_);rintro e w' ⟨rfl,⟨nd,rfl⟩⟩;refine ⟨_,rfl,?_⟩))
 go_ret
 exact ⟨sq,Y3⟩
def jfb.f (l0_0 : List (S78)) (a1 : Int) : Option (Bool) := (jK.f a1 0 (wrap64 ((l0_0.length : Int) - 1))).bind fun t214 => (some t214)
set_option maxHeartbeats 8000000 in
set_option maxRecDepth 100000 in
theorem jfb.calls (A0_0 : Option Addr) (c0_0 : Nat) (l0_0 : List (S78)) (a1 : Int) (r : Bool) (w : World) (hr0_0 : Kd.C k78 w A0_0 l0_0.length l0_0) (hc0_0 : l0_0.length ≤ c0_0) (h : jfb.f l0_0 a1 = some r) :
  Calls Try.prog 81 #[.agg #[.slice A0_0 l0_0.length c0_0], .int .i64 a1] w fun e w'=>e=.returned (.bool r)∧Below w.heap.size w w':=by
 have hu32:=Try.underlying32
 have HR0_0:=am hr0_0
 have HC0_0:=am hc0_0
 clear hr0_0 hc0_0
 have HB:=am (Below.refl w.heap.size w)
 have H:((jK.f a1 0 (wrap64 ((l0_0.length:Int) - 1))).bind fun t214=>(some t214))=some r:=h
 clear h
 replace H:=bzS H
 obtain ⟨t214,A30,H⟩:=H
 replace H:(some t214)=some r:=H
 have A3:=am A30
 clear A30
 obtain rfl:=Option.some.inj H
 go_enter Try.func81,Try.ntmps81
 go_wp2_with (first |((with_reducible refine jP (N:=2) rfl ?_);refine bE (N:=2) (cs:=#[.slice A0_0 l0_0.length c0_0]) (t:=32) ?_;intro gb213 hg w4 hbox hb;have BK213:=am (hbox);have GW213:=am ((Y11:w.heap.size≤gb213));have GE213:=am ((Y11:w.heap.size≤gb213));replace HB:=am (ji (bq) hb);clear hb hbox hg;have hcz5_0:=bc0 BK213.out;have hfz5_0:=ja BK213.out 0) |((with_reducible refine jd (f:=53) rfl ?_);refine gL (some 10) Try.func53 #[.int .i64 a1, .int .i64 0, .int .i64 (wrap64 ((l0_0.length:Int) - 1))] ?_;(with_reducible refine (jK.calls a1 0 (wrap64 ((l0_0.length:Int) - 1)) t214 _ A3.out).mono ?_);rintro e w' ⟨rfl,⟨nd,rfl⟩⟩;refine ⟨_,rfl,?_⟩))
 go_ret
 exact ⟨Y0,by repeat (first |(with_reducible first | exact HB.out | apply jN | apply jm | apply jO | refine jS ?_ GE213.out) | exact HB.out)⟩
def jAa.j0 : Nat → Int → Bool → Int → Int → Int → Int → List (S78) → Option (Bool)
 | 0,_,_,_,_,_,_,_=>none
 | k+1,x6,x7,x216000,x216001,x216002,x216003,x217000=>if x7=true then ((job.f x216002).bind fun t217=>(if t217=true then (some (x216003 == 0)) else (some false))) else (if x6=2 then ((jfb.f x217000 x216002).bind fun t218=>(if t218=true then ((job.f x216003).bind fun t219=>(some t219)) else (some false))) else (if x6=8 then ((jfb.f x217000 x216002).bind fun t220=>(if t220=true then (some (x216003 == 0)) else (some false))) else (if x6=11 then ((jK.f x216002 0 9).bind fun t221=>(if t221=true then ((jK.f x216003 0 1).bind fun t222=>(some t222)) else (some false))) else (if x6=12 then ((jK.f x216002 0 3).bind fun t223=>(if t223=true then (some (x216003 == 0)) else (some false))) else ((jK.f x216001 0 12).bind fun t224=>(if t224=true then (if x216002=0 then (some (x216003 == 0)) else (some false)) else (some false)))))))
def jAa.f (k : Nat) (a0_0 : Int) (a0_1 : Int) (a0_2 : Int) (a0_3 : Int) (l1_0 : List (S78)) : Option (Bool) := if a0_1 = 1 then (jAa.j0 k a0_1 (a0_1 == 1) a0_0 a0_1 a0_2 a0_3 l1_0) else (jAa.j0 k a0_1 (a0_1 == 4) a0_0 a0_1 a0_2 a0_3 l1_0)
set_option maxHeartbeats 8000000 in
set_option maxRecDepth 100000 in
theorem jAa.calls (k : Nat) (a0_0 : Int) (a0_1 : Int) (a0_2 : Int) (a0_3 : Int) (A1_0 : Option Addr) (c1_0 : Nat) (l1_0 : List (S78)) (r : Bool) (w : World) (hr1_0 : Kd.C k78 w A1_0 l1_0.length l1_0) (hc1_0 : l1_0.length ≤ c1_0) (h : jAa.f k a0_0 a0_1 a0_2 a0_3 l1_0 = some r) :
  Calls Try.prog 52 #[.agg #[.int .i64 a0_0, .int .i64 a0_1, .int .i64 a0_2, .int .i64 a0_3], .agg #[.slice A1_0 l1_0.length c1_0]] w fun e w'=>e=.returned (.bool r)∧Below w.heap.size w w':=by
 have hu52:=Try.underlying52
 have hu32:=Try.underlying32
 have HR1_0:=am hr1_0
 have HC1_0:=am hc1_0
 clear hr1_0 hc1_0
 have HB:=am (Below.refl w.heap.size w)
 have H:(if a0_1=1 then (jAa.j0 k a0_1 (a0_1 == 1) a0_0 a0_1 a0_2 a0_3 l1_0) else (jAa.j0 k a0_1 (a0_1 == 4) a0_0 a0_1 a0_2 a0_3 l1_0))=some r:=h
 clear h
 have HC3:=am H
 clear H
 go_enter Try.func52,Try.ntmps52
 go_upto_if 7 with (first |((with_reducible refine jP (N:=2) rfl ?_);refine bE (N:=2) (cs:=#[.int .i64 a0_0, .int .i64 a0_1, .int .i64 a0_2, .int .i64 a0_3]) (t:=52) ?_;intro gb215 hg w4 hbox hb;have BK215:=am (hbox);have GW215:=am ((Y11:w.heap.size≤gb215));have GE215:=am ((Y11:w.heap.size≤gb215));replace HB:=am (ji (bq) hb);clear hb hbox hg) |((with_reducible refine jP (N:=3) rfl ?_);refine bE (N:=3) (cs:=#[.slice A1_0 l1_0.length c1_0]) (t:=32) ?_;intro gb216 hg w5 hbox hb;have BK216:=am (hbox);have GW216:=am ((Y92:w.heap.size≤gb216));have GE216:=am ((Y92:w.heap.size≤gb216));have NB215_216:=am ((by rw [hg];exact Nat.ne_of_lt (jEb (g:=gb215) (o:=.cells #[.int .i64 a0_0, .int .i64 a0_1, .int .i64 a0_2, .int .i64 a0_3] 52 (0,0)) (kq BK215.out)):gb215≠gb216));have NB216_215:=am ((by rw [hg];exact Nat.ne_of_gt (jEb (g:=gb215) (o:=.cells #[.int .i64 a0_0, .int .i64 a0_1, .int .i64 a0_2, .int .i64 a0_3] 52 (0,0)) (kq BK215.out)):gb216≠gb215));replace BK215:=am (jr (g:=gb215) (o:=.cells #[.int .i64 a0_0, .int .i64 a0_1, .int .i64 a0_2, .int .i64 a0_3] 52 (0,0)) (kq BK215.out) hb);replace HB:=am (ji (by repeat (first |(with_reducible first | exact HB.out | apply jN | apply jm | apply jO | refine jS ?_ GE215.out) | exact HB.out)) hb);clear hb hbox hg;have hnb6:=NB215_216.out;have hnc6:=NB216_215.out;have hcz7_0:=bc0 BK215.out;have hcz7_1:=bc1 BK215.out;have hcz7_2:=bc2 BK215.out;have hcz7_3:=bc3 BK215.out;have hfz7_0:=ja BK215.out 0;have hfz7_1:=ja BK215.out 1;have hfz7_2:=ja BK215.out 2;have hfz7_3:=ja BK215.out 3))
 (try simp only [Act.put,List.setIfInBounds_toArray,List.set_cons_zero,List.set_cons_succ])
 go_cut [7] (fun v7 wc=>∃ (kq:Nat) (x7_2:Bool),v7=.bool x7_2∧jl (jAa.j0 kq a0_1 x7_2 a0_0 a0_1 a0_2 a0_3 l1_0=some r)∧jl (kq≤k)∧jl (wc.heap[gb215]?=some (.cells #[.int .i64 a0_0, .int .i64 a0_1, .int .i64 a0_2, .int .i64 a0_3] 52 (0,0)))∧jl (wc.heap[gb216]?=some (.cells #[(.slice A1_0 l1_0.length c1_0)] 32 (0,0)))∧jl (Below w.heap.size w wc))
 case first =>
  have H:=HC3.out
  clear HC3
  by_cases c8:a0_1=1
  ·rw [if_pos c8] at H
   have c8b0:(a0_1 == 1)=true:=beq_iff_eq.mpr c8
   have c8b1:(a0_1 != 1)=false:=bne_eq_false_iff_eq.mpr c8
   clear c8
   (first | rw [c8b0] |(simp only [jkb,jnb];rw [c8b0]) | skip)
   have H':=am H
   clear H
   go_wp2
   go_meet
   case rel=>exact ⟨_,((a0_1 == 1)),(sq),H',⟨Y42⟩,⟨kq BK215.out⟩,⟨kq BK216.out⟩,⟨Y21⟩⟩
  ·rw [if_neg c8] at H
   have c8b0:(a0_1 == 1)=false:=beq_eq_false_iff_ne.mpr c8
   have c8b1:(a0_1 != 1)=true:=bne_iff_ne.mpr c8
   (first | rw [c8b0] |(simp only [jkb,jnb];rw [c8b0]) | skip)
   have H':=am H
   clear H
   go_wp2
   go_meet
   case rel=>exact ⟨_,((a0_1 == 4)),(sq),H',⟨Y42⟩,⟨kq BK215.out⟩,⟨kq BK216.out⟩,⟨Y21⟩⟩
 case rest =>
  clear HC3
  try clear c1
  try clear p2
  try clear c5
  try clear c6
  try clear c8
  try clear c8b0
  try clear c8b1
  try clear hcz7_0
  try clear hcz7_1
  try clear hcz7_2
  try clear hcz7_3
  try clear hfz7_0
  try clear hfz7_1
  try clear hfz7_2
  try clear hfz7_3
  obtain ⟨kq,x7_2,rfl,HA,HJ2,BK215,BK216,HB⟩:=hcut
  cases kq with
  | zero=>exact absurd HA.out (by simp [jAa.j0])
  | succ kj2 =>
   have H:=HA.out
   clear HA
   simp only [jAa.j0] at H
   by_cases c9:x7_2=true
   ·subst c9
    have H1:((job.f a0_2).bind fun t217=>(if t217=true then (some (a0_3 == 0)) else (some false)))=some r:=by rw [if_pos rfl] at H;exact H
    clear H
    have H:=H1
    clear H1
    replace H:=bzS H
    obtain ⟨t217,A100,H⟩:=H
    replace H:(if t217=true then (some (a0_3 == 0)) else (some false))=some r:=H
    have A10:=am A100
    clear A100
    by_cases c11:t217=true
    ·subst c11
     have H1:(some (a0_3 == 0))=some r:=by rw [if_pos rfl] at H;exact H
     clear H
     have H:=H1
     clear H1
     obtain rfl:=Option.some.inj H
     have hnb12:=NB215_216.out
     have hnc12:=NB216_215.out
     have hcz13_0:=bc0 BK215.out
     have hcz13_1:=bc1 BK215.out
     have hcz13_2:=bc2 BK215.out
     have hcz13_3:=bc3 BK215.out
     have hfz13_0:=ja BK215.out 0
     have hfz13_1:=ja BK215.out 1
     have hfz13_2:=ja BK215.out 2
     have hfz13_3:=ja BK215.out 3
     go_wp2_with (first |((with_reducible refine jd (f:=80) rfl ?_);refine gL (some 12) Try.func80 #[.int .i64 a0_2] ?_;(with_reducible refine (job.calls a0_2 true _ A10.out).mono ?_);rintro e w' ⟨rfl,⟨nd,rfl⟩⟩;refine ⟨_,rfl,?_⟩))
     go_ret
     exact ⟨Y0,Y21⟩
    ·replace c11:=Bool.eq_false_iff.mpr c11
     subst c11
     have H1:(some false)=some r:=by rw [if_neg (show ¬ (false=true) by decide)] at H;exact H
     clear H
     have H:=H1
     clear H1
     obtain rfl:=Option.some.inj H
     have hnb14:=NB215_216.out
     have hnc14:=NB216_215.out
     have hcz15_0:=bc0 BK215.out
     have hcz15_1:=bc1 BK215.out
     have hcz15_2:=bc2 BK215.out
     have hcz15_3:=bc3 BK215.out
     have hfz15_0:=ja BK215.out 0
     have hfz15_1:=ja BK215.out 1
     have hfz15_2:=ja BK215.out 2
     have hfz15_3:=ja BK215.out 3
     go_wp2_with (first |((with_reducible refine jd (f:=80) rfl ?_);refine gL (some 12) Try.func80 #[.int .i64 a0_2] ?_;(with_reducible refine (job.calls a0_2 false _ A10.out).mono ?_);rintro e w' ⟨rfl,⟨nd,rfl⟩⟩;refine ⟨_,rfl,?_⟩))
     go_ret
     exact ⟨Y0,Y21⟩
   ·replace c9:=Bool.eq_false_iff.mpr c9
    subst c9
    have H1:(if a0_1=2 then ((jfb.f l1_0 a0_2).bind fun t218=>(if t218=true then ((job.f a0_3).bind fun t219=>(some t219)) else (some false))) else (if a0_1=8 then ((jfb.f l1_0 a0_2).bind fun t220=>(if t220=true then (some (a0_3 == 0)) else (some false))) else (if a0_1=11 then ((jK.f a0_2 0 9).bind fun t221=>(if t221=true then ((jK.f a0_3 0 1).bind fun t222=>(some t222)) else (some false))) else (if a0_1=12 then ((jK.f a0_2 0 3).bind fun t223=>(if t223=true then (some (a0_3 == 0)) else (some false))) else ((jK.f a0_1 0 12).bind fun t224=>(if t224=true then (if a0_2=0 then (some (a0_3 == 0)) else (some false)) else (some false)))))))=some r:=by rw [if_neg (show ¬ (false=true) by decide)] at H;exact H
    clear H
    have H:=H1
    clear H1
    by_cases c16:a0_1=2
    ·rw [if_pos c16] at H
     have c16b0:(a0_1 == 2)=true:=beq_iff_eq.mpr c16
     have c16b1:(a0_1 != 2)=false:=bne_eq_false_iff_eq.mpr c16
     clear c16
     replace H:=bzS H
     obtain ⟨t218,A170,H⟩:=H
     replace H:(if t218=true then ((job.f a0_3).bind fun t219=>(some t219)) else (some false))=some r:=H
     have A17:=am A170
     clear A170
     by_cases c18:t218=true
     ·subst c18
      have H1:((job.f a0_3).bind fun t219=>(some t219))=some r:=by rw [if_pos rfl] at H;exact H
      clear H
      have H:=H1
      clear H1
      replace H:=bzS H
      obtain ⟨t219,A190,H⟩:=H
      replace H:(some t219)=some r:=H
      have A19:=am A190
      clear A190
      obtain rfl:=Option.some.inj H
      have hnb20:=NB216_215.out
      have hnc20:=NB215_216.out
      have hcz21_0:=bc0 BK216.out
      have hfz21_0:=ja BK216.out 0
      have hcz22_0:=bc0 BK215.out
      have hcz22_1:=bc1 BK215.out
      have hcz22_2:=bc2 BK215.out
      have hcz22_3:=bc3 BK215.out
      have hfz22_0:=ja BK215.out 0
      have hfz22_1:=ja BK215.out 1
      have hfz22_2:=ja BK215.out 2
      have hfz22_3:=ja BK215.out 3
      go_wp2_with (first |((with_reducible refine jd (f:=81) rfl ?_);refine gL (some 23) Try.func81 #[.agg #[.slice A1_0 l1_0.length c1_0], .int .i64 a0_2] ?_;(with_reducible refine (jfb.calls _ _ l1_0 a0_2 true _ ?side1 ?side2 A17.out).mono ?_);(case side1=>exact cq (Kd.jZ HR1_0.out HB.out));(case side2=>exact HC1_0.out);rintro e w23 ⟨rfl,hb⟩;refine ⟨_,rfl,?_⟩;replace BK215:=am (jr (g:=gb215) (o:=.cells #[.int .i64 a0_0, .int .i64 a0_1, .int .i64 a0_2, .int .i64 a0_3] 52 (0,0)) (kq BK215.out) hb);replace BK216:=am (jr (g:=gb216) (o:=.cells #[.slice A1_0 l1_0.length c1_0] 32 (0,0)) (kq BK216.out) hb);replace HB:=am (ji (Y21) hb);(try clear hb);(try clear hb2);(try clear hk);(try clear hi);have hcz24_0:=bc0 BK215.out;have hcz24_1:=bc1 BK215.out;have hcz24_2:=bc2 BK215.out;have hcz24_3:=bc3 BK215.out;have hfz24_0:=ja BK215.out 0;have hfz24_1:=ja BK215.out 1;have hfz24_2:=ja BK215.out 2;have hfz24_3:=ja BK215.out 3) |(go_at_call 80;(with_reducible refine (job.calls a0_3 t219 _ A19.out).mono ?_);rintro e w' ⟨rfl,⟨nd,rfl⟩⟩))
      go_ret
      exact ⟨Y0,Y21⟩
     ·replace c18:=Bool.eq_false_iff.mpr c18
      subst c18
      have H1:(some false)=some r:=by rw [if_neg (show ¬ (false=true) by decide)] at H;exact H
      clear H
      have H:=H1
      clear H1
      obtain rfl:=Option.some.inj H
      have hnb25:=NB216_215.out
      have hnc25:=NB215_216.out
      have hcz26_0:=bc0 BK216.out
      have hfz26_0:=ja BK216.out 0
      have hcz27_0:=bc0 BK215.out
      have hcz27_1:=bc1 BK215.out
      have hcz27_2:=bc2 BK215.out
      have hcz27_3:=bc3 BK215.out
      have hfz27_0:=ja BK215.out 0
      have hfz27_1:=ja BK215.out 1
      have hfz27_2:=ja BK215.out 2
      have hfz27_3:=ja BK215.out 3
      go_wp2_with (first |((with_reducible refine jd (f:=81) rfl ?_);refine gL (some 23) Try.func81 #[.agg #[.slice A1_0 l1_0.length c1_0], .int .i64 a0_2] ?_;(with_reducible refine (jfb.calls _ _ l1_0 a0_2 false _ ?side1 ?side2 A17.out).mono ?_);(case side1=>exact cq (Kd.jZ HR1_0.out HB.out));(case side2=>exact HC1_0.out);rintro e w28 ⟨rfl,hb⟩;refine ⟨_,rfl,?_⟩;replace BK215:=am (jr (g:=gb215) (o:=.cells #[.int .i64 a0_0, .int .i64 a0_1, .int .i64 a0_2, .int .i64 a0_3] 52 (0,0)) (kq BK215.out) hb);replace BK216:=am (jr (g:=gb216) (o:=.cells #[.slice A1_0 l1_0.length c1_0] 32 (0,0)) (kq BK216.out) hb);replace HB:=am (ji (Y21) hb);(try clear hb);(try clear hb2);(try clear hk);(try clear hi)))
      go_ret
      exact ⟨Y0,Y21⟩
    ·rw [if_neg c16] at H
     have c16b0:(a0_1 == 2)=false:=beq_eq_false_iff_ne.mpr c16
     have c16b1:(a0_1 != 2)=true:=bne_iff_ne.mpr c16
     by_cases c29:a0_1=8
     ·rw [if_pos c29] at H
      have c29b0:(a0_1 == 8)=true:=beq_iff_eq.mpr c29
      have c29b1:(a0_1 != 8)=false:=bne_eq_false_iff_eq.mpr c29
      clear c29
      replace H:=bzS H
      obtain ⟨t220,A300,H⟩:=H
      replace H:(if t220=true then (some (a0_3 == 0)) else (some false))=some r:=H
      have A30:=am A300
      clear A300
      by_cases c31:t220=true
      ·subst c31
       have H1:(some (a0_3 == 0))=some r:=by rw [if_pos rfl] at H;exact H
       clear H
       have H:=H1
       clear H1
       obtain rfl:=Option.some.inj H
       have hnb32:=NB216_215.out
       have hnc32:=NB215_216.out
       have hcz33_0:=bc0 BK216.out
       have hfz33_0:=ja BK216.out 0
       have hcz34_0:=bc0 BK215.out
       have hcz34_1:=bc1 BK215.out
       have hcz34_2:=bc2 BK215.out
       have hcz34_3:=bc3 BK215.out
       have hfz34_0:=ja BK215.out 0
       have hfz34_1:=ja BK215.out 1
       have hfz34_2:=ja BK215.out 2
       have hfz34_3:=ja BK215.out 3
       go_wp2_with (first |((with_reducible refine jd (f:=81) rfl ?_);refine gL (some 34) Try.func81 #[.agg #[.slice A1_0 l1_0.length c1_0], .int .i64 a0_2] ?_;(with_reducible refine (jfb.calls _ _ l1_0 a0_2 true _ ?side1 ?side2 A30.out).mono ?_);(case side1=>exact cq (Kd.jZ HR1_0.out HB.out));(case side2=>exact HC1_0.out);rintro e w35 ⟨rfl,hb⟩;refine ⟨_,rfl,?_⟩;replace BK215:=am (jr (g:=gb215) (o:=.cells #[.int .i64 a0_0, .int .i64 a0_1, .int .i64 a0_2, .int .i64 a0_3] 52 (0,0)) (kq BK215.out) hb);replace BK216:=am (jr (g:=gb216) (o:=.cells #[.slice A1_0 l1_0.length c1_0] 32 (0,0)) (kq BK216.out) hb);replace HB:=am (ji (Y21) hb);(try clear hb);(try clear hb2);(try clear hk);(try clear hi);have hcz36_0:=bc0 BK215.out;have hcz36_1:=bc1 BK215.out;have hcz36_2:=bc2 BK215.out;have hcz36_3:=bc3 BK215.out;have hfz36_0:=ja BK215.out 0;have hfz36_1:=ja BK215.out 1;have hfz36_2:=ja BK215.out 2;have hfz36_3:=ja BK215.out 3))
       go_ret
       exact ⟨Y0,Y21⟩
      ·replace c31:=Bool.eq_false_iff.mpr c31
       subst c31
       have H1:(some false)=some r:=by rw [if_neg (show ¬ (false=true) by decide)] at H;exact H
       clear H
       have H:=H1
       clear H1
       obtain rfl:=Option.some.inj H
       have hnb37:=NB216_215.out
       have hnc37:=NB215_216.out
       have hcz38_0:=bc0 BK216.out
       have hfz38_0:=ja BK216.out 0
       have hcz39_0:=bc0 BK215.out
       have hcz39_1:=bc1 BK215.out
       have hcz39_2:=bc2 BK215.out
       have hcz39_3:=bc3 BK215.out
       have hfz39_0:=ja BK215.out 0
       have hfz39_1:=ja BK215.out 1
       have hfz39_2:=ja BK215.out 2
       have hfz39_3:=ja BK215.out 3
       go_wp2_with (first |((with_reducible refine jd (f:=81) rfl ?_);refine gL (some 34) Try.func81 #[.agg #[.slice A1_0 l1_0.length c1_0], .int .i64 a0_2] ?_;(with_reducible refine (jfb.calls _ _ l1_0 a0_2 false _ ?side1 ?side2 A30.out).mono ?_);(case side1=>exact cq (Kd.jZ HR1_0.out HB.out));(case side2=>exact HC1_0.out);rintro e w40 ⟨rfl,hb⟩;refine ⟨_,rfl,?_⟩;replace BK215:=am (jr (g:=gb215) (o:=.cells #[.int .i64 a0_0, .int .i64 a0_1, .int .i64 a0_2, .int .i64 a0_3] 52 (0,0)) (kq BK215.out) hb);replace BK216:=am (jr (g:=gb216) (o:=.cells #[.slice A1_0 l1_0.length c1_0] 32 (0,0)) (kq BK216.out) hb);replace HB:=am (ji (Y21) hb);(try clear hb);(try clear hb2);(try clear hk);(try clear hi)))
       go_ret
       exact ⟨Y0,Y21⟩
     ·rw [if_neg c29] at H
      have c29b0:(a0_1 == 8)=false:=beq_eq_false_iff_ne.mpr c29
      have c29b1:(a0_1 != 8)=true:=bne_iff_ne.mpr c29
      by_cases c41:a0_1=11
      ·rw [if_pos c41] at H
       have c41b0:(a0_1 == 11)=true:=beq_iff_eq.mpr c41
       have c41b1:(a0_1 != 11)=false:=bne_eq_false_iff_eq.mpr c41
       clear c41
       replace H:=bzS H
       obtain ⟨t221,A420,H⟩:=H
       replace H:(if t221=true then ((jK.f a0_3 0 1).bind fun t222=>(some t222)) else (some false))=some r:=H
       have A42:=am A420
       clear A420
       by_cases c43:t221=true
       ·subst c43
        have H1:((jK.f a0_3 0 1).bind fun t222=>(some t222))=some r:=by rw [if_pos rfl] at H;exact H
        clear H
        have H:=H1
        clear H1
        replace H:=bzS H
        obtain ⟨t222,A440,H⟩:=H
        replace H:(some t222)=some r:=H
        have A44:=am A440
        clear A440
        obtain rfl:=Option.some.inj H
        have hnb45:=NB215_216.out
        have hnc45:=NB216_215.out
        have hcz46_0:=bc0 BK215.out
        have hcz46_1:=bc1 BK215.out
        have hcz46_2:=bc2 BK215.out
        have hcz46_3:=bc3 BK215.out
        have hfz46_0:=ja BK215.out 0
        have hfz46_1:=ja BK215.out 1
        have hfz46_2:=ja BK215.out 2
        have hfz46_3:=ja BK215.out 3
        go_wp2_with (first |((with_reducible refine jd (f:=53) rfl ?_);refine gL (some 44) Try.func53 #[.int .i64 a0_2, .int .i64 0, .int .i64 9] ?_;(with_reducible refine (jK.calls a0_2 0 9 true _ A42.out).mono ?_);rintro e w' ⟨rfl,⟨nd,rfl⟩⟩;refine ⟨_,rfl,?_⟩) |(go_at_call 53;(with_reducible refine (jK.calls a0_3 0 1 t222 _ A44.out).mono ?_);rintro e w' ⟨rfl,⟨nd,rfl⟩⟩))
        go_ret
        exact ⟨Y0,Y21⟩
       ·replace c43:=Bool.eq_false_iff.mpr c43
        subst c43
        have H1:(some false)=some r:=by rw [if_neg (show ¬ (false=true) by decide)] at H;exact H
        clear H
        have H:=H1
        clear H1
        obtain rfl:=Option.some.inj H
        have hnb47:=NB215_216.out
        have hnc47:=NB216_215.out
        have hcz48_0:=bc0 BK215.out
        have hcz48_1:=bc1 BK215.out
        have hcz48_2:=bc2 BK215.out
        have hcz48_3:=bc3 BK215.out
        have hfz48_0:=ja BK215.out 0
        have hfz48_1:=ja BK215.out 1
        have hfz48_2:=ja BK215.out 2
        have hfz48_3:=ja BK215.out 3
        go_wp2_with (first |((with_reducible refine jd (f:=53) rfl ?_);refine gL (some 44) Try.func53 #[.int .i64 a0_2, .int .i64 0, .int .i64 9] ?_;(with_reducible refine (jK.calls a0_2 0 9 false _ A42.out).mono ?_);rintro e w' ⟨rfl,⟨nd,rfl⟩⟩;refine ⟨_,rfl,?_⟩))
        go_ret
        exact ⟨Y0,Y21⟩
      ·rw [if_neg c41] at H
       have c41b0:(a0_1 == 11)=false:=beq_eq_false_iff_ne.mpr c41
       have c41b1:(a0_1 != 11)=true:=bne_iff_ne.mpr c41
       by_cases c49:a0_1=12
       ·rw [if_pos c49] at H
        have c49b0:(a0_1 == 12)=true:=beq_iff_eq.mpr c49
        have c49b1:(a0_1 != 12)=false:=bne_eq_false_iff_eq.mpr c49
        clear c49
        replace H:=bzS H
        obtain ⟨t223,A500,H⟩:=H
        replace H:(if t223=true then (some (a0_3 == 0)) else (some false))=some r:=H
        have A50:=am A500
        clear A500
        by_cases c51:t223=true
        ·subst c51
         have H1:(some (a0_3 == 0))=some r:=by rw [if_pos rfl] at H;exact H
         clear H
         have H:=H1
         clear H1
         obtain rfl:=Option.some.inj H
         have hnb52:=NB215_216.out
         have hnc52:=NB216_215.out
         have hcz53_0:=bc0 BK215.out
         have hcz53_1:=bc1 BK215.out
         have hcz53_2:=bc2 BK215.out
         have hcz53_3:=bc3 BK215.out
         have hfz53_0:=ja BK215.out 0
         have hfz53_1:=ja BK215.out 1
         have hfz53_2:=ja BK215.out 2
         have hfz53_3:=ja BK215.out 3
         go_wp2_with (first |((with_reducible refine jd (f:=53) rfl ?_);refine gL (some 54) Try.func53 #[.int .i64 a0_2, .int .i64 0, .int .i64 3] ?_;(with_reducible refine (jK.calls a0_2 0 3 true _ A50.out).mono ?_);rintro e w' ⟨rfl,⟨nd,rfl⟩⟩;refine ⟨_,rfl,?_⟩))
         go_ret
         exact ⟨Y0,Y21⟩
        ·replace c51:=Bool.eq_false_iff.mpr c51
         subst c51
         have H1:(some false)=some r:=by rw [if_neg (show ¬ (false=true) by decide)] at H;exact H
         clear H
         have H:=H1
         clear H1
         obtain rfl:=Option.some.inj H
         have hnb54:=NB215_216.out
         have hnc54:=NB216_215.out
         have hcz55_0:=bc0 BK215.out
         have hcz55_1:=bc1 BK215.out
         have hcz55_2:=bc2 BK215.out
         have hcz55_3:=bc3 BK215.out
         have hfz55_0:=ja BK215.out 0
         have hfz55_1:=ja BK215.out 1
         have hfz55_2:=ja BK215.out 2
         have hfz55_3:=ja BK215.out 3
         go_wp2_with (first |((with_reducible refine jd (f:=53) rfl ?_);refine gL (some 54) Try.func53 #[.int .i64 a0_2, .int .i64 0, .int .i64 3] ?_;(with_reducible refine (jK.calls a0_2 0 3 false _ A50.out).mono ?_);rintro e w' ⟨rfl,⟨nd,rfl⟩⟩;refine ⟨_,rfl,?_⟩))
         go_ret
         exact ⟨Y0,Y21⟩
       ·rw [if_neg c49] at H
        have c49b0:(a0_1 == 12)=false:=beq_eq_false_iff_ne.mpr c49
        have c49b1:(a0_1 != 12)=true:=bne_iff_ne.mpr c49
        replace H:=bzS H
        obtain ⟨t224,A560,H⟩:=H
        replace H:(if t224=true then (if a0_2=0 then (some (a0_3 == 0)) else (some false)) else (some false))=some r:=H
        have A56:=am A560
        clear A560
        by_cases c57:t224=true
        ·subst c57
         have H1:(if a0_2=0 then (some (a0_3 == 0)) else (some false))=some r:=by rw [if_pos rfl] at H;exact H
         clear H
         have H:=H1
         clear H1
         by_cases c58:a0_2=0
         ·rw [if_pos c58] at H
          have c58b0:(a0_2 == 0)=true:=beq_iff_eq.mpr c58
          have c58b1:(a0_2 != 0)=false:=bne_eq_false_iff_eq.mpr c58
          clear c58
          obtain rfl:=Option.some.inj H
          have hnb59:=NB215_216.out
          have hnc59:=NB216_215.out
          have hcz60_0:=bc0 BK215.out
          have hcz60_1:=bc1 BK215.out
          have hcz60_2:=bc2 BK215.out
          have hcz60_3:=bc3 BK215.out
          have hfz60_0:=ja BK215.out 0
          have hfz60_1:=ja BK215.out 1
          have hfz60_2:=ja BK215.out 2
          have hfz60_3:=ja BK215.out 3
          go_wp2_with (first |((with_reducible refine jd (f:=53) rfl ?_);refine gL (some 62) Try.func53 #[.int .i64 a0_1, .int .i64 0, .int .i64 12] ?_;(with_reducible refine (jK.calls a0_1 0 12 true _ A56.out).mono ?_);rintro e w' ⟨rfl,⟨nd,rfl⟩⟩;refine ⟨_,rfl,?_⟩))
          go_ret
          exact ⟨Y0,Y21⟩
         ·rw [if_neg c58] at H
          have c58b0:(a0_2 == 0)=false:=beq_eq_false_iff_ne.mpr c58
          have c58b1:(a0_2 != 0)=true:=bne_iff_ne.mpr c58
          obtain rfl:=Option.some.inj H
          have hnb61:=NB215_216.out
          have hnc61:=NB216_215.out
          have hcz62_0:=bc0 BK215.out
          have hcz62_1:=bc1 BK215.out
          have hcz62_2:=bc2 BK215.out
          have hcz62_3:=bc3 BK215.out
          have hfz62_0:=ja BK215.out 0
          have hfz62_1:=ja BK215.out 1
          have hfz62_2:=ja BK215.out 2
          have hfz62_3:=ja BK215.out 3
          go_wp2_with (first |((with_reducible refine jd (f:=53) rfl ?_);refine gL (some 62) Try.func53 #[.int .i64 a0_1, .int .i64 0, .int .i64 12] ?_;(with_reducible refine (jK.calls a0_1 0 12 true _ A56.out).mono ?_);rintro e w' ⟨rfl,⟨nd,rfl⟩⟩;refine ⟨_,rfl,?_⟩))
          go_ret
          exact ⟨Y0,Y21⟩
        ·replace c57:=Bool.eq_false_iff.mpr c57
         subst c57
         have H1:(some false)=some r:=by rw [if_neg (show ¬ (false=true) by decide)] at H;exact H
         clear H
         have H:=H1
         clear H1
         obtain rfl:=Option.some.inj H
         have hnb63:=NB215_216.out
         have hnc63:=NB216_215.out
         have hcz64_0:=bc0 BK215.out
         have hcz64_1:=bc1 BK215.out
         have hcz64_2:=bc2 BK215.out
         have hcz64_3:=bc3 BK215.out
         have hfz64_0:=ja BK215.out 0
         have hfz64_1:=ja BK215.out 1
         have hfz64_2:=ja BK215.out 2
         have hfz64_3:=ja BK215.out 3
         go_wp2_with (first |((with_reducible refine jd (f:=53) rfl ?_);refine gL (some 62) Try.func53 #[.int .i64 a0_1, .int .i64 0, .int .i64 12] ?_;(with_reducible refine (jK.calls a0_1 0 12 false _ A56.out).mono ?_);rintro e w' ⟨rfl,⟨nd,rfl⟩⟩;refine ⟨_,rfl,?_⟩))
         go_ret
         exact ⟨Y0,Y21⟩
def jIb.f (a0_0 : Int) (a0_1 : Int) (a0_2 : Int) (a0_3 : Int) : Option (Bool) := (jK.f a0_1 7 12).bind fun t226 => (some t226)
set_option maxHeartbeats 8000000 in
set_option maxRecDepth 100000 in
theorem jIb.calls (a0_0 : Int) (a0_1 : Int) (a0_2 : Int) (a0_3 : Int) (r : Bool) (w : World) (h : jIb.f a0_0 a0_1 a0_2 a0_3 = some r) :
  Calls Try.prog 54 #[.agg #[.int .i64 a0_0, .int .i64 a0_1, .int .i64 a0_2, .int .i64 a0_3]] w fun e w'=>e=.returned (.bool r)∧Below w.heap.size w w':=by
 have hu52:=Try.underlying52
 have HB:=am (Below.refl w.heap.size w)
 have H:((jK.f a0_1 7 12).bind fun t226=>(some t226))=some r:=h
 clear h
 replace H:=bzS H
 obtain ⟨t226,A20,H⟩:=H
 replace H:(some t226)=some r:=H
 have A2:=am A20
 clear A20
 obtain rfl:=Option.some.inj H
 go_enter Try.func54,Try.ntmps54
 go_wp2_with (first |((with_reducible refine jP (N:=1) rfl ?_);refine bE (N:=1) (cs:=#[.int .i64 a0_0, .int .i64 a0_1, .int .i64 a0_2, .int .i64 a0_3]) (t:=52) ?_;intro gb225 hg w3 hbox hb;have BK225:=am (hbox);have GW225:=am ((Y11:w.heap.size≤gb225));have GE225:=am ((Y11:w.heap.size≤gb225));replace HB:=am (ji (bq) hb);clear hb hbox hg;have hcz4_0:=bc0 BK225.out;have hcz4_1:=bc1 BK225.out;have hcz4_2:=bc2 BK225.out;have hcz4_3:=bc3 BK225.out;have hfz4_0:=ja BK225.out 0;have hfz4_1:=ja BK225.out 1;have hfz4_2:=ja BK225.out 2;have hfz4_3:=ja BK225.out 3) |((with_reducible refine jd (f:=53) rfl ?_);refine gL (some 5) Try.func53 #[.int .i64 a0_1, .int .i64 7, .int .i64 12] ?_;(with_reducible refine (jK.calls a0_1 7 12 t226 _ A2.out).mono ?_);rintro e w' ⟨rfl,⟨nd,rfl⟩⟩;refine ⟨_,rfl,?_⟩))
 go_ret
 exact ⟨Y0,by repeat (first |(with_reducible first | exact HB.out | apply jN | apply jm | apply jO | refine jS ?_ GE225.out) | exact HB.out)⟩
def jpa.l0 : Nat → List (S52) → Int → Int → Option (Int)
 | 0,_,_,_=>none
 | k+1,x0,x1,x5=>if x5<(x0.length:Int) then (if 0≤x5 then (if 0≤x1 then (if x1<(x0.length:Int) then (if ((jc x0 x5).f0) > ((jc x0 x1).f0) then (jpa.l0 k x0 x1 (wrap64 (x5+1))) else (some x5)) else (none)) else (none)) else (none)) else (some x5)
def jpa.f (k : Nat) (l0 : List (S52)) (a1 : Int) : Option (Int) := jpa.l0 k l0 a1 (wrap64 (a1 + 1))
set_option maxHeartbeats 8000000 in
set_option maxRecDepth 100000 in
theorem jpa.calls (k : Nat) (A0 : Option Addr) (c0 : Nat) (l0 : List (S52)) (a1 : Int) (r : Int) (w : World) (hr0 : Kd.C k52 w A0 l0.length l0) (hc0 : l0.length ≤ c0) (h : jpa.f k l0 a1 = some r) :
  Calls Try.prog 62 #[.slice A0 l0.length c0, .int .i64 a1] w fun e w'=>e=.returned (.int .i64 r)∧jXa w w':=by
 have HR0:=am hr0
 have HC0:=am hc0
 clear hr0 hc0
 have H:(jpa.l0 k l0 a1 (wrap64 (a1+1)))=some r:=h
 clear h
 have H':=am H
 clear H
 go_enter Try.func62,Try.ntmps62
 go_wp2
 repeat (go_quiet (fail);try go_wp2)
 go_loopg [5] k (fun kq v5 w'=>∃ (x5_1:Int),v5=.int .i64 x5_1∧jl (jpa.l0 kq l0 a1 x5_1=some r)∧jl (kq≤k)∧jXa w w')
 case atStart=>exact ⟨(wrap64 (a1+1)),(sq),H',⟨Nat.le_refl _⟩,Y3⟩
 case round =>
  clear H'
  try clear p2
  obtain ⟨x5_1,rfl,HA,HK1,⟨m1,rfl⟩⟩:=hrel
  cases gk with
  | zero=>exact absurd HA.out (by simp [jpa.l0])
  | succ k1 =>
   have H:=HA.out
   clear HA
   simp only [jpa.l0] at H
   by_cases c3:x5_1<(l0.length:Int)
   ·rw [if_pos c3] at H
    have c3b0:decide (x5_1<(l0.length:Int))=true:=dzT c3
    clear c3
    by_cases c4:0≤x5_1
    ·rw [if_pos c4] at H
     have c4b0:decide (0≤x5_1)=true:=dzT c4
     clear c4
     by_cases c5:0≤a1
     ·rw [if_pos c5] at H
      have c5b0:decide (0≤a1)=true:=dzT c5
      clear c5
      by_cases c6:a1<(l0.length:Int)
      ·rw [if_pos c6] at H
       have c6b0:decide (a1<(l0.length:Int))=true:=dzT c6
       clear c6
       by_cases c7:((jc l0 x5_1).f0) > ((jc l0 a1).f0)
       ·rw [if_pos c7] at H
        have c7b0:decide (((jc l0 a1).f0)<((jc l0 x5_1).f0))=true:=dzT c7
        clear c7
        have H':=am H
        clear H
        have p227:0≤(x5_1:Int):=ozD (uq)
        have q227:x5_1<(l0.length:Int):=ozD (uq)
        obtain ⟨ad227,e227,hx227_0,hx227_1,hx227_2,hx227_3⟩:=jua HR0.out x5_1 p227 q227
        cases e227
        replace p227:=ezT p227
        replace q227:=ezT q227
        have p228:0≤(a1:Int):=ozD (uq)
        have q228:a1<(l0.length:Int):=ozD (uq)
        obtain ⟨ad228,e228,hx228_0,hx228_1,hx228_2,hx228_3⟩:=jua HR0.out a1 p228 q228
        obtain rfl:ad227=ad228:=(by injection e228)
        replace p228:=ezT p228
        replace q228:=ezT q228
        go_wp2
        repeat (go_quiet (fail);try go_wp2)
        go_roundg k1
        case measure=>have:=HK1.out;omega
        case rel=>exact ⟨(wrap64 (x5_1+1)),(sq),H',⟨by have:=HK1.out;omega⟩,Y3⟩
       ·rw [if_neg c7] at H
        have c7b0:decide (((jc l0 a1).f0)<((jc l0 x5_1).f0))=false:=dzF c7
        clear c7
        obtain rfl:=Option.some.inj H
        have p227:0≤(x5_1:Int):=ozD (uq)
        have q227:x5_1<(l0.length:Int):=ozD (uq)
        obtain ⟨ad227,e227,hx227_0,hx227_1,hx227_2,hx227_3⟩:=jua HR0.out x5_1 p227 q227
        cases e227
        replace p227:=ezT p227
        replace q227:=ezT q227
        have p228:0≤(a1:Int):=ozD (uq)
        have q228:a1<(l0.length:Int):=ozD (uq)
        obtain ⟨ad228,e228,hx228_0,hx228_1,hx228_2,hx228_3⟩:=jua HR0.out a1 p228 q228
        obtain rfl:ad227=ad228:=(by injection e228)
        replace p228:=ezT p228
        replace q228:=ezT q228
        go_wp2
        repeat (go_quiet (fail);try go_wp2)
        go_ret
        exact ⟨sq,Y3⟩
      ·rw [if_neg c6] at H
       exact absurd H (by simp)
     ·rw [if_neg c5] at H
      exact absurd H (by simp)
    ·rw [if_neg c4] at H
     exact absurd H (by simp)
   ·rw [if_neg c3] at H
    have c3b0:decide (x5_1<(l0.length:Int))=false:=dzF c3
    clear c3
    obtain rfl:=Option.some.inj H
    go_wp2
    repeat (go_quiet (fail);try go_wp2)
    go_ret
    exact ⟨sq,Y3⟩
end Go.Proofs.Ytkhiiiddbmgiaaa.P
end
