/- One part of the proofs on this program: functions of the program as plain functions, that the code comes to them, and facts on them. -/
import Derived.Test.YtbcjbcjpoddkoaaYAll1
import Derived.Test.YtbcjbcjpoddkoaaYWAuto
section
namespace Go.Proofs.Ytbcjbcjpoddkoaa.P
open Go.RowKit Go.Proofs.YtbcjbcjpoddkoaaW.PrintWords Go.Proofs.YtbcjbcjpoddkoaaW.PrintLast Go.Proofs.YtbcjbcjpoddkoaaW.PrintMore
attribute [local go_sem] jra jpa jCa jBa jga jfa jqa joa jo
set_option linter.unusedVariables false
set_option linter.unusedSimpArgs false
def jFa.l0 : Nat → ByteArray → Int → Option (Bool)
 | 0,_,_=>none
 | k+1,x0,x3=>if x3<(x0.size:Int) then (if 0≤x3 then (if (bt x0 x3)<97 then (some false) else (if (bt x0 x3) > 122 then (some false) else (jFa.l0 k x0 (wrap64 (x3+1))))) else (none)) else ((jL.f (x0.size:Int) 1 6).bind fun t152=>(some t152))
def jFa.f (k : Nat) (a0 : ByteArray) : Option (Bool) := jFa.l0 k a0 0
set_option maxHeartbeats 8000000 in
set_option maxRecDepth 100000 in
theorem jFa.calls (k : Nat) (a0 : ByteArray) (r : Bool) (w : World) (h : jFa.f k a0 = some r) :
  Calls Try.prog 92 #[.string a0] w fun e w'=>e=.returned (.bool r)∧jdb w w':=by
 have H:(jFa.l0 k a0 0)=some r:=h
 clear h
 have H':=am H
 clear H
 go_enter Try.func92,Try.ntmps92
 go_wp2
 go_loopg [3] k (fun kq v3 w'=>∃ (x3_1:Int),v3=.int .i64 x3_1∧jl (jFa.l0 kq a0 x3_1=some r)∧jl (kq≤k)∧jdb w w')
 case atStart=>exact ⟨(0),(sq),H',⟨Nat.le_refl _⟩,Y5⟩
 case round =>
  clear H'
  obtain ⟨x3_1,rfl,HA,HK1,⟨m1,rfl⟩⟩:=hrel
  cases gk with
  | zero=>exact absurd HA.out (by simp [jFa.l0])
  | succ k1 =>
   have H:=HA.out
   clear HA
   simp only [jFa.l0] at H
   by_cases c2:x3_1<(a0.size:Int)
   ·rw [if_pos c2] at H
    have c2b0:decide (x3_1<(a0.size:Int))=true:=dzT c2
    clear c2
    by_cases c3:0≤x3_1
    ·rw [if_pos c3] at H
     have c3b0:decide (0≤x3_1)=true:=dzT c3
     clear c3
     by_cases c5:(bt a0 x3_1)<97
     ·rw [if_pos c5] at H
      have c5b0:decide ((bt a0 x3_1)<97)=true:=dzT c5
      clear c5
      obtain rfl:=Option.some.inj H
      have p4:0≤(x3_1:Int):=ozD (uq)
      have q4:x3_1<(a0.size:Int):=ozD (uq)
      have hx4:=bt_at a0 x3_1
      replace p4:=ezT p4
      replace q4:=ezT q4
      go_wp2
      go_ret
      exact ⟨sq,Y5⟩
     ·rw [if_neg c5] at H
      have c5b0:decide ((bt a0 x3_1)<97)=false:=dzF c5
      clear c5
      by_cases c7:(bt a0 x3_1) > 122
      ·rw [if_pos c7] at H
       have c7b0:decide (122<(bt a0 x3_1))=true:=dzT c7
       clear c7
       obtain rfl:=Option.some.inj H
       have p4:0≤(x3_1:Int):=ozD (uq)
       have q4:x3_1<(a0.size:Int):=ozD (uq)
       have hx4:=bt_at a0 x3_1
       replace p4:=ezT p4
       replace q4:=ezT q4
       have p6:0≤(x3_1:Int):=ozD (uq)
       have q6:x3_1<(a0.size:Int):=ozD (uq)
       have hx6:=bt_at a0 x3_1
       replace p6:=ezT p6
       replace q6:=ezT q6
       go_wp2
       go_ret
       exact ⟨sq,Y5⟩
      ·rw [if_neg c7] at H
       have c7b0:decide (122<(bt a0 x3_1))=false:=dzF c7
       clear c7
       have H':=am H
       clear H
       have p4:0≤(x3_1:Int):=ozD (uq)
       have q4:x3_1<(a0.size:Int):=ozD (uq)
       have hx4:=bt_at a0 x3_1
       replace p4:=ezT p4
       replace q4:=ezT q4
       have p6:0≤(x3_1:Int):=ozD (uq)
       have q6:x3_1<(a0.size:Int):=ozD (uq)
       have hx6:=bt_at a0 x3_1
       replace p6:=ezT p6
       replace q6:=ezT q6
       go_wp2
       go_roundg k1
       case measure=>have:=HK1.out;omega
       case rel=>exact ⟨(wrap64 (x3_1+1)),(sq),H',⟨by have:=HK1.out;omega⟩,Y5⟩
    ·rw [if_neg c3] at H
     exact absurd H (by simp)
   ·rw [if_neg c2] at H
    have c2b0:decide (x3_1<(a0.size:Int))=false:=dzF c2
    clear c2
    replace H:=bzS H
    obtain ⟨t152,A80,H⟩:=H
    replace H:(some t152)=some r:=H
    have A8:=am A80
    clear A80
    obtain rfl:=Option.some.inj H
    go_wp2_with (first |((with_reducible refine jg (f:=60) rfl ?_);refine gL (some 22) Try.func60 #[.int .i64 (a0.size:Int), .int .i64 1, .int .i64 6] ?_;(with_reducible refine (jL.calls (a0.size:Int) 1 6 t152 _ A8.out).mono ?_);rintro e w' ⟨rfl,⟨nd,rfl⟩⟩;refine ⟨_,rfl,?_⟩))
    go_ret
    exact ⟨sq,Y5⟩
def jDa.l0 : Nat → List (S98) → ByteArray → Int → Option (Int)
 | 0,_,_,_=>none
 | k+1,x0,x1,x5=>if x5<(x0.length:Int) then (if 0≤x5 then (if ((jY x0 x5).f0).toList=x1.toList then (some x5) else (jDa.l0 k x0 x1 (wrap64 (x5+1)))) else (none)) else (some (-1))
def jDa.f (k : Nat) (l0 : List (S98)) (a1 : ByteArray) : Option (Int) := jDa.l0 k l0 a1 0
set_option maxHeartbeats 8000000 in
set_option maxRecDepth 100000 in
theorem jDa.calls (k : Nat) (A0 : Option Addr) (c0 : Nat) (l0 : List (S98)) (a1 : ByteArray) (r : Int) (w : World) (hr0 : Kd.C k98 w A0 l0.length l0) (hc0 : l0.length ≤ c0) (h : jDa.f k l0 a1 = some r) :
  Calls Try.prog 93 #[.slice A0 l0.length c0, .string a1] w fun e w'=>e=.returned (.int .i64 r)∧jdb w w':=by
 have HR0:=am hr0
 have HC0:=am hc0
 clear hr0 hc0
 have H:(jDa.l0 k l0 a1 0)=some r:=h
 clear h
 have H':=am H
 clear H
 go_enter Try.func93,Try.ntmps93
 go_wp2
 go_loopg [5] k (fun kq v5 w'=>∃ (x5_1:Int),v5=.int .i64 x5_1∧jl (jDa.l0 kq l0 a1 x5_1=some r)∧jl (kq≤k)∧jdb w w')
 case atStart=>exact ⟨(0),(sq),H',⟨Nat.le_refl _⟩,Y5⟩
 case round =>
  clear H'
  try clear p2
  obtain ⟨x5_1,rfl,HA,HK1,⟨m1,rfl⟩⟩:=hrel
  cases gk with
  | zero=>exact absurd HA.out (by simp [jDa.l0])
  | succ k1 =>
   have H:=HA.out
   clear HA
   simp only [jDa.l0] at H
   by_cases c3:x5_1<(l0.length:Int)
   ·rw [if_pos c3] at H
    have c3b0:decide (x5_1<(l0.length:Int))=true:=dzT c3
    clear c3
    by_cases c4:0≤x5_1
    ·rw [if_pos c4] at H
     have c4b0:decide (0≤x5_1)=true:=dzT c4
     clear c4
     by_cases c5:((jY l0 x5_1).f0).toList=a1.toList
     ·rw [if_pos c5] at H
      have c5b0:(((jY l0 x5_1).f0).toList == a1.toList)=true:=beq_iff_eq.mpr c5
      have c5b1:(((jY l0 x5_1).f0).toList != a1.toList)=false:=bne_eq_false_iff_eq.mpr c5
      clear c5
      obtain rfl:=Option.some.inj H
      have p153:0≤(x5_1:Int):=ozD (uq)
      have q153:x5_1<(l0.length:Int):=ozD (uq)
      obtain ⟨ad153,e153,hx153_0,hx153_1⟩:=at_T98 HR0.out x5_1 p153 q153
      cases e153
      replace p153:=ezT p153
      replace q153:=ezT q153
      go_wp2
      go_ret
      exact ⟨sq,Y5⟩
     ·rw [if_neg c5] at H
      have c5b0:(((jY l0 x5_1).f0).toList == a1.toList)=false:=beq_eq_false_iff_ne.mpr c5
      have c5b1:(((jY l0 x5_1).f0).toList != a1.toList)=true:=bne_iff_ne.mpr c5
      have H':=am H
      clear H
      have p153:0≤(x5_1:Int):=ozD (uq)
      have q153:x5_1<(l0.length:Int):=ozD (uq)
      obtain ⟨ad153,e153,hx153_0,hx153_1⟩:=at_T98 HR0.out x5_1 p153 q153
      cases e153
      replace p153:=ezT p153
      replace q153:=ezT q153
      go_wp2
      go_roundg k1
      case measure=>have:=HK1.out;omega
      case rel=>exact ⟨(wrap64 (x5_1+1)),(sq),H',⟨by have:=HK1.out;omega⟩,Y5⟩
    ·rw [if_neg c4] at H
     exact absurd H (by simp)
   ·rw [if_neg c3] at H
    have c3b0:decide (x5_1<(l0.length:Int))=false:=dzF c3
    clear c3
    obtain rfl:=Option.some.inj H
    go_wp2
    go_ret
    exact ⟨sq,Y5⟩
mutual
def jO.l0 : Nat → Int → List (S98) → Option (Bool)
 | 0,_,_=>none
 | k+1,x3,x155000=>if x3<(x155000.length:Int) then (if 0≤x3 then ((jFa.f k ((jY x155000 x3).f0)).bind fun t158=>(if t158=true then (if x3≤(x155000.length:Int) then ((jDa.f k (x155000.take (x3:Int).toNat) ((jY x155000 x3).f0)).bind fun t163=>(if t163≥0 then (jO.j1 k x3 true x155000) else (if x3=0 then (if ((jY x155000 x3).f1)=(-1) then (if x3 > 0 then ((jL.f ((jY x155000 x3).f1) 0 (wrap64 (x3 - 1))).bind fun t164=>(jO.j1 k x3 (!t164) x155000)) else (jO.j1 k x3 false x155000)) else (jO.j1 k x3 true x155000)) else (if x3 > 0 then ((jL.f ((jY x155000 x3).f1) 0 (wrap64 (x3 - 1))).bind fun t165=>(jO.j1 k x3 (!t165) x155000)) else (jO.j1 k x3 false x155000))))) else (none)) else (jO.j1 k x3 true x155000))) else (none)) else ((jL.f (x155000.length:Int) 1 8).bind fun t155=>(some t155))
def jO.j1 : Nat → Int → Bool → List (S98) → Option (Bool)
 | 0,_,_,_=>none
 | k+1,x3,x51,x155000=>if x51=true then (some false) else (jO.l0 k (wrap64 (x3+1)) x155000)
end
def jO.f (k : Nat) (l0_0 : List (S98)) : Option (Bool) := jO.l0 k 0 l0_0
set_option maxHeartbeats 8000000 in
set_option maxRecDepth 100000 in
theorem jO.calls (k : Nat) (A0_0 : Option Addr) (c0_0 : Nat) (l0_0 : List (S98)) (r : Bool) (w : World) (hr0_0 : Kd.C k98 w A0_0 l0_0.length l0_0) (hc0_0 : l0_0.length ≤ c0_0) (h : jO.f k l0_0 = some r) :
  Calls Try.prog 64 #[.agg #[.slice A0_0 l0_0.length c0_0]] w fun e w'=>e=.returned (.bool r)∧Below w.heap.size w w':=by
 have hu32:=Try.underlying32
 have hu98:=Try.underlying98
 have HR0_0:=am hr0_0
 have HC0_0:=am hc0_0
 clear hr0_0 hc0_0
 have HB:=am (Below.refl w.heap.size w)
 have H:(jO.l0 k 0 l0_0)=some r:=h
 clear h
 have H':=am H
 clear H
 go_enter Try.func64,Try.ntmps64
 go_wp2_with (first |((with_reducible refine jQ (N:=1) rfl ?_);refine bE (N:=1) (cs:=#[.slice A0_0 l0_0.length c0_0]) (t:=32) ?_;intro gb154 hg w2 hbox hb;have BK154:=am (hbox);have GW154:=am ((Y13:w.heap.size≤gb154));have GE154:=am ((Y13:w.heap.size≤gb154));replace HB:=am (ji (bq) hb);clear hb hbox hg))
 go_loopg [3] k (fun kq v3 w'=>∃ (x3_1:Int),v3=.int .i64 x3_1∧jl (jO.l0 kq x3_1 l0_0=some r)∧jl (kq≤k)∧jl (w'.heap[gb154]?=some (.cells #[(.slice A0_0 l0_0.length c0_0)] 32 (0,0)))∧jl (Below w.heap.size w w'))
 case atStart=>exact ⟨(0),(sq),H',⟨Nat.le_refl _⟩,⟨kq BK154.out⟩,⟨Y33⟩⟩
 case round =>
  clear H'
  try clear c1
  try clear p2
  obtain ⟨x3_1,rfl,HA,HK1,BK154,HB⟩:=hrel
  cases gk with
  | zero=>exact absurd HA.out (by simp [jO.l0])
  | succ k1 =>
   have H:=HA.out
   clear HA
   simp only [jO.l0] at H
   by_cases c3:x3_1<(l0_0.length:Int)
   ·rw [if_pos c3] at H
    have c3b0:decide (x3_1<(l0_0.length:Int))=true:=dzT c3
    clear c3
    by_cases c4:0≤x3_1
    ·rw [if_pos c4] at H
     have c4b0:decide (0≤x3_1)=true:=dzT c4
     clear c4
     have HC5:=am H
     clear H
     have hcz6_0:=bc0 BK154.out
     have hfz6_0:=ja BK154.out 0
     have p156:0≤(x3_1:Int):=ozD (uq)
     have q156:x3_1<(l0_0.length:Int):=ozD (uq)
     obtain ⟨ad156,e156,hx156_0,hx156_1⟩:=at_T98 HR0_0.out x3_1 p156 q156
     cases e156
     replace hx156_0:=cb HB.out hx156_0
     replace hx156_1:=cb HB.out hx156_1
     replace p156:=ezT p156
     replace q156:=ezT q156
     go_upto_region 5 with (first |((with_reducible refine jQ (N:=4) rfl ?_);refine bE (N:=4) (cs:=#[.string (⟨#[]⟩:ByteArray), .int .i64 0]) (t:=98) ?_;intro gb157 hg w7 hbox hb;have BK157:=am (hbox);have GW157:=am ((Y88:w.heap.size≤gb157));have GE157:=am ((Y88:w.heap.size≤gb157));have NB154_157:=am ((by rw [hg];exact Nat.ne_of_lt (jtb (g:=gb154) (o:=.cells #[.slice (some ad156) l0_0.length c0_0] 32 (0,0)) (kq BK154.out)):gb154≠gb157));have NB157_154:=am ((by rw [hg];exact Nat.ne_of_gt (jtb (g:=gb154) (o:=.cells #[.slice (some ad156) l0_0.length c0_0] 32 (0,0)) (kq BK154.out)):gb157≠gb154));replace BK154:=am (jq (g:=gb154) (o:=.cells #[.slice (some ad156) l0_0.length c0_0] 32 (0,0)) (kq BK154.out) hb);replace HB:=am (ji (Y33) hb);clear hb hbox hg;have hnb8:=NB157_154.out;have hnc8:=NB154_157.out;have hcz9_0:=bc0 BK157.out;have hcz9_1:=bc1 BK157.out;have hfz9_0:=ja BK157.out 0;have hfz9_1:=ja BK157.out 1))
     (try simp only [Act.put,List.setIfInBounds_toArray,List.set_cons_zero,List.set_cons_succ])
     go_cut [51] (fun v51 wc=>∃ (kq:Nat) (x51_4:Bool),v51=.bool x51_4∧jl (jO.j1 kq x3_1 x51_4 l0_0=some r)∧jl (kq≤k1)∧jl (wc.heap[gb154]?=some (.cells #[(.slice (some ad156) l0_0.length c0_0)] 32 (0,0)))∧jl (wc.heap[gb157]?=some (.cells #[.string ((jY l0_0 x3_1).f0), .int .i64 ((jY l0_0 x3_1).f1)] 98 (0,0)))∧jl (Below w.heap.size w wc))
     case first =>
      have n0_:jl (((w7.setCell ⟨gb157,0,none⟩ (.string ((jY l0_0 x3_1).f0))).setCell ⟨gb157,1,none⟩ (.int .i64 ((jY l0_0 x3_1).f1))).heap[gb154]?=some (.cells #[.slice (some ad156) l0_0.length c0_0] 32 (0,0))):=⟨by (with_reducible repeat (first | refine jw ?_ _ | refine jE ?_ | refine jB ?_ _));refine jcb ?_ NB154_157.out _;(with_reducible repeat (first | refine jw ?_ _ | refine jE ?_ | refine jB ?_ _));refine jcb ?_ NB154_157.out _;(with_reducible repeat (first | refine jw ?_ _ | refine jE ?_ | refine jB ?_ _));exact BK154.out⟩
      have n1_:jl (((w7.setCell ⟨gb157,0,none⟩ (.string ((jY l0_0 x3_1).f0))).setCell ⟨gb157,1,none⟩ (.int .i64 ((jY l0_0 x3_1).f1))).heap[gb157]?=some (.cells #[.string ((jY l0_0 x3_1).f0), .int .i64 ((jY l0_0 x3_1).f1)] 98 (0,0))):=⟨by (with_reducible repeat (first | refine jw ?_ _ | refine jE ?_ | refine jB ?_ _));refine jQa (cs:=#[.string ((jY l0_0 x3_1).f0), .int .i64 0]) ?_ 1 _ rfl;(with_reducible repeat (first | refine jw ?_ _ | refine jE ?_ | refine jB ?_ _));refine jQa (cs:=#[.string (⟨#[]⟩:ByteArray), .int .i64 0]) ?_ 0 _ rfl;(with_reducible repeat (first | refine jw ?_ _ | refine jE ?_ | refine jB ?_ _));exact BK157.out⟩
      have n2_:jl (Below w.heap.size w ((w7.setCell ⟨gb157,0,none⟩ (.string ((jY l0_0 x3_1).f0))).setCell ⟨gb157,1,none⟩ (.int .i64 ((jY l0_0 x3_1).f1)))):=⟨Y80⟩
      clear BK154 BK157 HB hcz9_0 hcz9_1 hfz9_0 hfz9_1
      generalize ((w7.setCell ⟨gb157,0,none⟩ (.string ((jY l0_0 x3_1).f0))).setCell ⟨gb157,1,none⟩ (.int .i64 ((jY l0_0 x3_1).f1)))=w16 at n0_ n1_ n2_ ⊢
      have BK154:=n0_
      have BK157:=n1_
      have HB:=n2_
      clear n0_ n1_ n2_
      have HRW:=am (Kd.jka HR0_0.out HB.out)
      have e0:w16.cell? ⟨gb157,0,none⟩=some (.string ((jY l0_0 x3_1).f0)):=(jK BK157.out 0).trans rfl
      have e1:w16.cell? ⟨gb157,1,none⟩=some (.int .i64 ((jY l0_0 x3_1).f1)):=(jK BK157.out 1).trans rfl
      have e2:w16.cell? ⟨gb154,0,none⟩=some (.slice (some ad156) l0_0.length c0_0):=(jK BK154.out 0).trans rfl
      have H:=HC5.out
      clear HC5
      obtain ⟨v,hv,H⟩:=bzS H
      have HN:=am (fun W=>(jFa.calls k1 _ v W hv).mono fun e w' h=>(⟨h.1,h.2.out⟩:e=.returned (.bool v)∧∃ m,w'=W.drewN m))
      clear hv hx156_0 hx156_1
      generalize hgx:jY l0_0 x3_1=x at H e0 e1 HN BK157
      have HGX:=am hgx
      clear hgx
      cases v with
      | false =>
       have H':=am (show jO.j1 k1 x3_1 true l0_0=some r from H)
       clear H
       go_big_quiet ((go_at_call 92;exact Calls.quiet_of (HN.out _)))
       go_wp2
       go_meet
       case rel=>exact ⟨_,_,rfl,H',⟨by have:=HK1.out;omega⟩,⟨jw BK154.out _⟩,⟨by rw [HGX.out];exact jw BK157.out _⟩,⟨jv HB.out _⟩⟩
      | true =>
       replace H:(if x3_1≤(l0_0.length:Int) then ((jDa.f k1 (l0_0.take (x3_1:Int).toNat) x.f0).bind fun t163=>(if t163≥0 then (jO.j1 k1 x3_1 true l0_0) else (if x3_1=0 then (if x.f1=(-1) then (if x3_1 > 0 then ((jL.f x.f1 0 (wrap64 (x3_1 - 1))).bind fun t164=>(jO.j1 k1 x3_1 (!t164) l0_0)) else (jO.j1 k1 x3_1 false l0_0)) else (jO.j1 k1 x3_1 true l0_0)) else (if x3_1 > 0 then ((jL.f x.f1 0 (wrap64 (x3_1 - 1))).bind fun t165=>(jO.j1 k1 x3_1 (!t165) l0_0)) else (jO.j1 k1 x3_1 false l0_0))))) else (none))=some r:=H
       have hle:x3_1≤(l0_0.length:Int):=by have:=ozD c3b0;omega
       have h0:0≤x3_1:=ozD c4b0
       rw [if_pos hle] at H
       obtain ⟨c,hc,H⟩:=bzS H
       obtain ⟨i0,hi0,_,_,_⟩:=info_parts info98
       have hcut:=cut_to (P:=Try.prog) 30 98 .i64 Try.underlying30 hi0 (some ad156) l0_0.length c0_0 x3_1 h0 hle HC0_0.out
       have hr18:=Kd.C_take (m:=(x3_1:Int).toNat) HRW.out (by omega)
       obtain ⟨y,hy⟩:∃ y:List S98,y=l0_0.take (x3_1:Int).toNat:=⟨_,rfl⟩
       have hyl:y.length=(x3_1:Int).toNat:=by rw [hy,List.length_take];omega
       have hyc:y.length≤c0_0:=by have:=HC0_0.out;omega
       rw [← hy] at hr18
       rw [← hyl] at hcut
       rw [← hy] at hc
       have HCN:=am (fun m=>(jDa.calls k1 _ _ y x.f0 c (w16.drewN m) (Kd.jcc hr18 m) hyc hc).mono fun e w' h=>(⟨h.1,h.2.out⟩:e=.returned (.int .i64 c)∧∃ m',w'=(w16.drewN m).drewN m'))
       clear hr18 hc hy hyl hyc
       have b0:=ezT h0
       have b1:=ezT hle
       by_cases hc0:c≥0
       ·rw [if_pos hc0] at H
        have b2:decide (0≤c)=true:=dzT hc0
        have H':=am H
        clear H hc0 h0 hle
        go_big_quiet (first |(go_at_call 92;exact Calls.quiet_of (HN.out _)) |(go_at_call 93;exact Calls.quiet_of (HCN.out _)))
        go_wp2
        go_meet
        case rel=>exact ⟨_,_,rfl,H',⟨by have:=HK1.out;omega⟩,⟨jw BK154.out _⟩,⟨by rw [HGX.out];exact jw BK157.out _⟩,⟨jv HB.out _⟩⟩
       ·rw [if_neg hc0] at H
        have b2:decide (0≤c)=false:=dzF hc0
        clear hc0
        by_cases hz:x3_1=0
        ·rw [if_pos hz] at H
         have b3:(x3_1 == 0)=true:=beq_iff_eq.2 hz
         have b4:decide (0<x3_1)=false:=dzF (by omega)
         by_cases hf:x.f1 = -1
         ·rw [if_pos hf,if_neg (by omega)] at H
          have b5:(x.f1 != -1)=false:=by simpa using hf
          have H':=am H
          clear H hf h0 hle hz
          go_big_quiet (first |(go_at_call 92;exact Calls.quiet_of (HN.out _)) |(go_at_call 93;exact Calls.quiet_of (HCN.out _)))
          go_wp2
          go_meet
          case rel=>exact ⟨_,_,rfl,H',⟨by have:=HK1.out;omega⟩,⟨jw BK154.out _⟩,⟨by rw [HGX.out];exact jw BK157.out _⟩,⟨jv HB.out _⟩⟩
         ·rw [if_neg hf] at H
          have b5:(x.f1 != -1)=true:=by simpa using hf
          have H':=am H
          clear H hf h0 hle hz
          go_big_quiet (first |(go_at_call 92;exact Calls.quiet_of (HN.out _)) |(go_at_call 93;exact Calls.quiet_of (HCN.out _)))
          go_wp2
          go_meet
          case rel=>exact ⟨_,_,rfl,H',⟨by have:=HK1.out;omega⟩,⟨jw BK154.out _⟩,⟨by rw [HGX.out];exact jw BK157.out _⟩,⟨jv HB.out _⟩⟩
        ·rw [if_neg hz,if_pos (by omega)] at H
         have b3:(x3_1 == 0)=false:=beq_eq_false_iff_ne.2 hz
         have b4:decide (0<x3_1)=true:=dzT (by omega)
         obtain ⟨t,ht,H⟩:=bzS H
         have H':=am H
         have HI:=am (fun W=>(jL.calls _ _ _ t W ht).mono fun e w' h=>(⟨h.1,h.2.out⟩:e=.returned (.bool t)∧∃ m,w'=W.drewN m))
         clear H ht h0 hle hz
         go_big_quiet (first |(go_at_call 92;exact Calls.quiet_of (HN.out _)) |(go_at_call 93;exact Calls.quiet_of (HCN.out _)) |(go_at_call 60;exact Calls.quiet_of (HI.out _)))
         go_wp2
         go_meet
         case rel=>exact ⟨_,_,rfl,H',⟨by have:=HK1.out;omega⟩,⟨jw BK154.out _⟩,⟨by rw [HGX.out];exact jw BK157.out _⟩,⟨jv HB.out _⟩⟩
     case rest =>
      clear HC5
      try clear c1
      try clear c2
      try clear p2
      try clear c3
      try clear q3
      try clear p6
      try clear c11
      try clear c12
      try clear c13
      try clear c21
      try clear c32
      try clear c32b0
      try clear q39
      try clear q39
      obtain ⟨kq,x51_4,rfl,HA,HJ4,BK154,BK157,HB⟩:=hcut
      cases kq with
      | zero=>exact absurd HA.out (by simp [jO.j1])
      | succ kj4 =>
       have H:=HA.out
       clear HA
       simp only [jO.j1] at H
       by_cases c42:x51_4=true
       ·subst c42
        have H1:(some false)=some r:=by rw [if_pos rfl] at H;exact H
        clear H
        have H:=H1
        clear H1
        obtain rfl:=Option.some.inj H
        go_wp2
        go_ret
        exact ⟨Y0,Y80⟩
       ·replace c42:=Bool.eq_false_iff.mpr c42
        subst c42
        have H1:(jO.l0 kj4 (wrap64 (x3_1+1)) l0_0)=some r:=by rw [if_neg (show ¬ (false=true) by decide)] at H;exact H
        clear H
        have H:=H1
        clear H1
        have H':=am H
        clear H
        go_wp2
        go_roundg kj4
        case measure=>have:=HK1.out;have:=HJ4.out;omega
        case rel=>exact ⟨(wrap64 (x3_1+1)),(sq),H',⟨by have:=HK1.out;have:=HJ4.out;omega⟩,⟨kq BK154.out⟩,⟨Y80⟩⟩
    ·rw [if_neg c4] at H
     exact absurd H (by simp)
   ·rw [if_neg c3] at H
    have c3b0:decide (x3_1<(l0_0.length:Int))=false:=dzF c3
    clear c3
    replace H:=bzS H
    obtain ⟨t155,A430,H⟩:=H
    replace H:(some t155)=some r:=H
    have A43:=am A430
    clear A430
    obtain rfl:=Option.some.inj H
    have hcz44_0:=bc0 BK154.out
    have hfz44_0:=ja BK154.out 0
    go_wp2_with (first |((with_reducible refine jg (f:=60) rfl ?_);refine gL (some 55) Try.func60 #[.int .i64 (l0_0.length:Int), .int .i64 1, .int .i64 8] ?_;(with_reducible refine (jL.calls (l0_0.length:Int) 1 8 t155 _ A43.out).mono ?_);rintro e w' ⟨rfl,⟨nd,rfl⟩⟩;refine ⟨_,rfl,?_⟩))
    go_ret
    exact ⟨Y0,Y33⟩
def jV.l0 : Nat → List (S59) → Int → List (S98) → Option (Bool)
 | 0,_,_,_=>none
 | k+1,x1,x5,x155000=>if x5<(x1.length:Int) then ((jr.f k x155000 x1 x5).bind fun t156=>(if t156=true then (jV.l0 k x1 (wrap64 (x5+1)) x155000) else (some false))) else ((jO.f k x155000).bind fun t155=>(if t155=true then (some (decide ((x1.length:Int)≤24))) else (some false)))
def jV.f (k : Nat) (l0_0 : List (S98)) (l1 : List (S59)) : Option (Bool) := jV.l0 k l1 0 l0_0
set_option maxHeartbeats 8000000 in
set_option maxRecDepth 100000 in
theorem jV.calls (k : Nat) (A0_0 : Option Addr) (c0_0 : Nat) (l0_0 : List (S98)) (A1 : Option Addr) (c1 : Nat) (l1 : List (S59)) (r : Bool) (w : World) (hr0_0 : Kd.C k98 w A0_0 l0_0.length l0_0) (hc0_0 : l0_0.length ≤ c0_0) (hr1 : Kd.C k59 w A1 l1.length l1) (hc1 : l1.length ≤ c1) (h : jV.f k l0_0 l1 = some r) :
  Calls Try.prog 29 #[.agg #[.slice A0_0 l0_0.length c0_0], .slice A1 l1.length c1] w fun e w'=>e=.returned (.bool r)∧Below w.heap.size w w':=by
 have hu32:=Try.underlying32
 have HR0_0:=am hr0_0
 have HC0_0:=am hc0_0
 clear hr0_0 hc0_0
 have HR1:=am hr1
 have HC1:=am hc1
 clear hr1 hc1
 have HB:=am (Below.refl w.heap.size w)
 have H:(jV.l0 k l1 0 l0_0)=some r:=h
 clear h
 have H':=am H
 clear H
 go_enter Try.func29,Try.ntmps29
 go_wp2_with (first |((with_reducible refine jQ (N:=2) rfl ?_);(try (refine gate_guard (by rfl) ?_;dsimp only));refine box_event ?hg (N:=2) ?hd (cs:=#[.slice A0_0 l0_0.length c0_0]) (t:=32) ?hr ?_;(case hd=>rfl);(case hg=>rfl);(case hr=>exact Y8);intro gb154 hg w3 hbox hb;have BK154:=am (hbox);have GW154:=am ((Y13:w.heap.size≤gb154));have GE154:=am ((Y13:w.heap.size≤gb154));replace HB:=am (ji (bq) hb);clear hb hbox hg))
 go_loopg [5] k (fun kq v5 w'=>∃ (x5_1:Int),v5=.int .i64 x5_1∧jl (jV.l0 kq l1 x5_1 l0_0=some r)∧jl (kq≤k)∧jl (w'.heap[gb154]?=some (.cells #[(.slice A0_0 l0_0.length c0_0)] 32 (0,0)))∧jl (Below w.heap.size w w'))
 case atStart=>exact ⟨(0),(sq),H',⟨Nat.le_refl _⟩,⟨kq BK154.out⟩,⟨Y33⟩⟩
 case round =>
  clear H'
  try clear c1
  try clear c2
  try clear p2
  obtain ⟨x5_1,rfl,HA,HK1,BK154,HB⟩:=hrel
  cases gk with
  | zero=>exact absurd HA.out (by simp [jV.l0])
  | succ k1 =>
   have H:=HA.out
   clear HA
   simp only [jV.l0] at H
   by_cases c4:x5_1<(l1.length:Int)
   ·rw [if_pos c4] at H
    have c4b0:decide (x5_1<(l1.length:Int))=true:=dzT c4
    clear c4
    replace H:=bzS H
    obtain ⟨t156,A50,H⟩:=H
    replace H:(if t156=true then (jV.l0 k1 l1 (wrap64 (x5_1+1)) l0_0) else (some false))=some r:=H
    have A5:=am A50
    clear A50
    by_cases c6:t156=true
    ·subst c6
     have H1:(jV.l0 k1 l1 (wrap64 (x5_1+1)) l0_0)=some r:=by rw [if_pos rfl] at H;exact H
     clear H
     have H:=H1
     clear H1
     have H':=am H
     clear H
     have hcz7_0:=bc0 BK154.out
     have hfz7_0:=ja BK154.out 0
     go_wp2_with (first |((with_reducible refine jg (f:=63) rfl ?_);refine gL (some 15) Try.func63 #[.agg #[.slice A0_0 l0_0.length c0_0], .slice A1 l1.length c1, .int .i64 x5_1] ?_;(with_reducible refine (jr.calls k1 _ _ l0_0 _ _ l1 x5_1 true _ ?side1 ?side2 ?side3 ?side4 A5.out).mono ?_);(case side1=>exact cq (Kd.jka HR0_0.out HB.out));(case side2=>exact HC0_0.out);(case side3=>exact cq (Kd.jka HR1.out HB.out));(case side4=>exact HC1.out);rintro e w8 ⟨rfl,hb⟩;refine ⟨_,rfl,?_⟩;replace BK154:=am (jq (g:=gb154) (o:=.cells #[.slice A0_0 l0_0.length c0_0] 32 (0,0)) (kq BK154.out) hb);replace HB:=am (ji (Y33) hb);(try clear hb);(try clear hb2);(try clear hk);(try clear hi)))
     go_roundg k1
     case measure=>have:=HK1.out;omega
     case rel=>exact ⟨(wrap64 (x5_1+1)),(sq),H',⟨by have:=HK1.out;omega⟩,⟨kq BK154.out⟩,⟨Y33⟩⟩
    ·replace c6:=Bool.eq_false_iff.mpr c6
     subst c6
     have H1:(some false)=some r:=by rw [if_neg (show ¬ (false=true) by decide)] at H;exact H
     clear H
     have H:=H1
     clear H1
     obtain rfl:=Option.some.inj H
     have hcz9_0:=bc0 BK154.out
     have hfz9_0:=ja BK154.out 0
     go_wp2_with (first |((with_reducible refine jg (f:=63) rfl ?_);refine gL (some 15) Try.func63 #[.agg #[.slice A0_0 l0_0.length c0_0], .slice A1 l1.length c1, .int .i64 x5_1] ?_;(with_reducible refine (jr.calls k1 _ _ l0_0 _ _ l1 x5_1 false _ ?side1 ?side2 ?side3 ?side4 A5.out).mono ?_);(case side1=>exact cq (Kd.jka HR0_0.out HB.out));(case side2=>exact HC0_0.out);(case side3=>exact cq (Kd.jka HR1.out HB.out));(case side4=>exact HC1.out);rintro e w10 ⟨rfl,hb⟩;refine ⟨_,rfl,?_⟩;replace BK154:=am (jq (g:=gb154) (o:=.cells #[.slice A0_0 l0_0.length c0_0] 32 (0,0)) (kq BK154.out) hb);replace HB:=am (ji (Y33) hb);(try clear hb);(try clear hb2);(try clear hk);(try clear hi)))
     go_ret
     exact ⟨Y0,Y33⟩
   ·rw [if_neg c4] at H
    have c4b0:decide (x5_1<(l1.length:Int))=false:=dzF c4
    clear c4
    replace H:=bzS H
    obtain ⟨t155,A110,H⟩:=H
    replace H:(if t155=true then (some (decide ((l1.length:Int)≤24))) else (some false))=some r:=H
    have A11:=am A110
    clear A110
    by_cases c12:t155=true
    ·subst c12
     have H1:(some (decide ((l1.length:Int)≤24)))=some r:=by rw [if_pos rfl] at H;exact H
     clear H
     have H:=H1
     clear H1
     obtain rfl:=Option.some.inj H
     have hcz13_0:=bc0 BK154.out
     have hfz13_0:=ja BK154.out 0
     go_wp2_with (first |((with_reducible refine jg (f:=64) rfl ?_);refine gL (some 18) Try.func64 #[.agg #[.slice A0_0 l0_0.length c0_0]] ?_;(with_reducible refine (jO.calls k1 _ _ l0_0 true _ ?side1 ?side2 A11.out).mono ?_);(case side1=>exact cq (Kd.jka HR0_0.out HB.out));(case side2=>exact HC0_0.out);rintro e w14 ⟨rfl,hb⟩;refine ⟨_,rfl,?_⟩;replace BK154:=am (jq (g:=gb154) (o:=.cells #[.slice A0_0 l0_0.length c0_0] 32 (0,0)) (kq BK154.out) hb);replace HB:=am (ji (Y33) hb);(try clear hb);(try clear hb2);(try clear hk);(try clear hi)))
     go_ret
     exact ⟨Y0,Y33⟩
    ·replace c12:=Bool.eq_false_iff.mpr c12
     subst c12
     have H1:(some false)=some r:=by rw [if_neg (show ¬ (false=true) by decide)] at H;exact H
     clear H
     have H:=H1
     clear H1
     obtain rfl:=Option.some.inj H
     have hcz15_0:=bc0 BK154.out
     have hfz15_0:=ja BK154.out 0
     go_wp2_with (first |((with_reducible refine jg (f:=64) rfl ?_);refine gL (some 18) Try.func64 #[.agg #[.slice A0_0 l0_0.length c0_0]] ?_;(with_reducible refine (jO.calls k1 _ _ l0_0 false _ ?side1 ?side2 A11.out).mono ?_);(case side1=>exact cq (Kd.jka HR0_0.out HB.out));(case side2=>exact HC0_0.out);rintro e w16 ⟨rfl,hb⟩;refine ⟨_,rfl,?_⟩;replace BK154:=am (jq (g:=gb154) (o:=.cells #[.slice A0_0 l0_0.length c0_0] 32 (0,0)) (kq BK154.out) hb);replace HB:=am (ji (Y33) hb);(try clear hb);(try clear hb2);(try clear hk);(try clear hi)))
     go_ret
     exact ⟨Y0,Y33⟩
mutual
def jG.l0 : Nat → List (S59) → List (S48) → Int → Option ((List (S48)))
 | 0,_,_,_=>none
 | k+1,x0,x3,x4=>if x4≥0 then (if 0≤x4 then (if x4<(x0.length:Int) then (if ((jd x0 x4).f1)=11 then (jG.j1 k x0 x3 x4 (((jd x0 x4).f3) == 1)) else (jG.j1 k x0 x3 x4 false)) else (none)) else (none)) else (some x3)
def jG.j1 : Nat → List (S59) → List (S48) → Int → Bool → Option ((List (S48)))
 | 0,_,_,_,_=>none
 | k+1,x0,x3,x4,x28=>if x28=true then ((jia.f k x0 x4).bind fun t162=>(if x3.length<4398046511104 then (jG.j2 k x0 (x3 ++ [(⟨wrap64 (x4+1),t162,x4,0⟩:S48)]) x4) else (none))) else (jG.j2 k x0 x3 x4)
def jG.j2 : Nat → List (S59) → List (S48) → Int → Option ((List (S48)))
 | 0,_,_,_=>none
 | k+1,x0,x3,x4=>if 0≤x4 then (if x4<(x0.length:Int) then (if ((jd x0 x4).f1)=7 then ((jva.f k x0 x4).bind fun t167=>(jG.l1 k x0 x3 x4 t167 1)) else (jG.l0 k x0 x3 (wrap64 (x4 - 1)))) else (none)) else (none)
def jG.l1 : Nat → List (S59) → List (S48) → Int → List Int → Int → Option ((List (S48)))
 | 0,_,_,_,_,_=>none
 | k+1,x0,x3,x4,x5,x6=>if x6<(x5.length:Int) then (if 0≤x6 then (if 0≤(rd x5 x6) then (if (rd x5 x6)<(x0.length:Int) then (if ((jd x0 (rd x5 x6)).f1)=8 then ((jia.f k x0 x4).bind fun t172=>(if x3.length<4398046511104 then (jG.l1 k x0 (x3 ++ [(⟨wrap64 (x4+1),t172,rd x5 x6,(jd x0 (rd x5 x6)).f2⟩:S48)]) x4 x5 (wrap64 (x6+1))) else (none))) else (jG.l1 k x0 x3 x4 x5 (wrap64 (x6+1)))) else (none)) else (none)) else (none)) else (jG.l0 k x0 x3 (wrap64 (x4 - 1)))
end
def jG.f (k : Nat) (l0 : List (S59)) : Option ((List (S48))) := jG.l0 k l0 (([] : List (S48))) (wrap64 ((l0.length : Int) - 1))
def jG.T13 : Bool × List (List Nat × List Nat) := (true, [([], []), ([], []), ([1], [1]), ([], []), ([], []), ([3, 4], [3, 4]), ([], []), ([], []), ([6, 7], [6, 7]), ([8], [8]), ([], []), ([], []), ([], []), ([11, 12], [11, 12]), ([13], [13]), ([10, 14], [10, 14]), ([15], [15]), ([16], [16]), ([2, 5, 9, 17], [2, 5, 9, 17]), ([18], [18]), ([0, 19, 5], [0, 19]), ([20, 20, 0, 1, 2, 3, 4, 5, 6, 7, 8, 9, 10, 11, 12, 13, 14, 15, 16, 17, 18, 19, 20], [0, 20])])
def jG.B13 : List Nat := [0, 0, 2, 0, 0, 24, 0, 0, 192, 448, 0, 0, 0, 6144, 14336, 31744, 64512, 130048, 262142, 524286, 1048575, 2097151]
theorem jG.tab13 : rtab .any (opsOf Try.f30 13) = jG.T13 := by kernel_rfl
theorem jG.bits13 : jpc jG.T13.2 jG.B13 = true := by kernel_rfl
set_option maxHeartbeats 8000000 in
set_option maxRecDepth 100000 in
theorem jG.calls (k : Nat) (A0 : Option Addr) (c0 : Nat) (l0 : List (S59)) (r : List (S48)) (w : World) (hr0 : Kd.C k59 w A0 l0.length l0) (hc0 : l0.length ≤ c0) (h : jG.f k l0 = some r) :
  Calls Try.prog 30 #[.slice A0 l0.length c0] w fun e w'=>∃ v0_:Value,e=.returned (v0_)∧Kd.R k48 48 w' w.heap.size (fun _=>True) v0_ r∧Below w.heap.size w w':=by
 have hu48:=Try.underlying48
 have HR0:=am hr0
 have HC0:=am hc0
 clear hr0 hc0
 have HB:=am (Below.refl w.heap.size w)
 have H:(jG.l0 k l0 (([]:List (S48))) (wrap64 ((l0.length:Int) - 1)))=some r:=h
 clear h
 obtain ⟨y157,hy157⟩:∃ y_:List (S48),y_=(([]:List (S48))):=⟨_,rfl⟩
 replace H:(jG.l0 k l0 y157 (wrap64 ((l0.length:Int) - 1)))=some r:=by first |(rw [hy157];with_reducible exact H) |(have H2_:=(Option.bind_some _ _).symm.trans H;rw [hy157];with_reducible exact H2_) |(have H2_:=(Option.bind_some _ _).symm.trans H;with_reducible exact H2_) | with_reducible exact H |(rw [hy157];exact H) | exact H
 have Ny157:=am hy157
 clear hy157
 have H':=am H
 clear H
 go_enter Try.func30,Try.ntmps30
 go_wp2_with (first |((with_reducible refine jQ (N:=7) rfl ?_);refine Kd.jMb k48 _ 48 ?hg (N:=7) ?hd (xs:=([]:List (S48))) (inner:=[]) (ok:=fun _=>True) (okp:=fun _=>True) ?hr ?hp (fun _ hk=>hk) trivial (Below.refl _ _) (Nat.le_refl _) (by simp) ?_;(case hd=>rfl);(case hg=>rfl);(case hr=>exact Y8);(case hp=>exact (Reps.none _ _));intro v158 w2 ho3 hb hg_ hnew_;clear hg_ hnew_;(first | rw [← Ny157.out] at ho3 |(simp only [Int.reduceToNat] at ho3;rw [← Ny157.out] at ho3));have HO159:=am (Kd.jX ho3 (jda (bq)));replace HB:=am (ji (bq) hb);clear hb ho3))
 go_loopg [3,4] k (fun kq v3 v4 w'=>∃ (x3_1:List (S48)) (x4_1:Int),v4=.int .i64 x4_1∧jl (jG.l0 kq l0 x3_1 x4_1=some r)∧jl (kq≤k)∧jl (Kd.R k48 48 w' w.heap.size (fun _=>True) v3 x3_1)∧jl (Below w.heap.size w w'))
 case atStart=>exact ⟨(y157),(wrap64 ((l0.length:Int) - 1)),(sq),H',⟨Nat.le_refl _⟩,⟨rq HO159.out⟩,⟨bq⟩⟩
 case round =>
  clear H'
  try clear p2
  try clear c3
  obtain ⟨x3_1,x4_1,rfl,HA,HK1,HO_3,HB⟩:=hrel
  cases gk with
  | zero=>exact absurd HA.out (by simp [jG.l0])
  | succ k1 =>
   have H:=HA.out
   clear HA
   simp only [jG.l0] at H
   by_cases c4:x4_1≥0
   ·rw [if_pos c4] at H
    have c4b0:decide (0≤x4_1)=true:=dzT c4
    clear c4
    have HC5:=am H
    clear H
    go_upto_region 5 with (fail)
    go_cut [28] (fun v28 wc=>∃ (kq:Nat) (x28_4:Bool),v28=.bool x28_4∧jl (jG.j1 kq l0 x3_1 x4_1 x28_4=some r)∧jl (kq≤k1)∧jl (Kd.R k48 48 wc w.heap.size (fun _=>True) u3 x3_1)∧jl (Below w.heap.size w wc))
    case first =>
     have H:=HC5.out
     clear HC5
     by_cases c6:0≤x4_1
     ·rw [if_pos c6] at H
      have c6b0:decide (0≤x4_1)=true:=dzT c6
      clear c6
      (first | rw [c6b0] |(simp only [jeb,jhb];rw [c6b0]) | skip)
      by_cases c7:x4_1<(l0.length:Int)
      ·rw [if_pos c7] at H
       have c7b0:decide (x4_1<(l0.length:Int))=true:=dzT c7
       clear c7
       by_cases c8:((jd l0 x4_1).f1)=11
       ·rw [if_pos c8] at H
        have c8b0:(((jd l0 x4_1).f1) == 11)=true:=beq_iff_eq.mpr c8
        have c8b1:(((jd l0 x4_1).f1) != 11)=false:=bne_eq_false_iff_eq.mpr c8
        clear c8
        have H':=am H
        clear H
        have p160:0≤(x4_1:Int):=ozD (uq)
        have q160:x4_1<(l0.length:Int):=ozD (uq)
        obtain ⟨ad160,e160,hx160_0,hx160_1,hx160_2,hx160_3⟩:=jza HR0.out x4_1 p160 q160
        cases e160
        replace hx160_0:=cb HB.out hx160_0
        replace hx160_1:=cb HB.out hx160_1
        replace hx160_2:=cb HB.out hx160_2
        replace hx160_3:=cb HB.out hx160_3
        replace p160:=ezT p160
        replace q160:=ezT q160
        have p161:0≤(x4_1:Int):=ozD (uq)
        have q161:x4_1<(l0.length:Int):=ozD (uq)
        obtain ⟨ad161,e161,hx161_0,hx161_1,hx161_2,hx161_3⟩:=jza HR0.out x4_1 p161 q161
        obtain rfl:ad160=ad161:=(by injection e161)
        replace hx161_0:=cb HB.out hx161_0
        replace hx161_1:=cb HB.out hx161_1
        replace hx161_2:=cb HB.out hx161_2
        replace hx161_3:=cb HB.out hx161_3
        replace p161:=ezT p161
        replace q161:=ezT q161
        go_wp2
        go_meet
        case rel=>exact ⟨_,((((jd l0 x4_1).f3) == 1)),(sq),H',⟨by have:=HK1.out;first | omega | exact Nat.le_refl _⟩,⟨rq HO_3.out⟩,⟨bq⟩⟩
       ·rw [if_neg c8] at H
        have c8b0:(((jd l0 x4_1).f1) == 11)=false:=beq_eq_false_iff_ne.mpr c8
        have c8b1:(((jd l0 x4_1).f1) != 11)=true:=bne_iff_ne.mpr c8
        have H':=am H
        clear H
        have p160:0≤(x4_1:Int):=ozD (uq)
        have q160:x4_1<(l0.length:Int):=ozD (uq)
        obtain ⟨ad160,e160,hx160_0,hx160_1,hx160_2,hx160_3⟩:=jza HR0.out x4_1 p160 q160
        cases e160
        replace hx160_0:=cb HB.out hx160_0
        replace hx160_1:=cb HB.out hx160_1
        replace hx160_2:=cb HB.out hx160_2
        replace hx160_3:=cb HB.out hx160_3
        replace p160:=ezT p160
        replace q160:=ezT q160
        go_wp2
        go_meet
        case rel=>exact ⟨_,(false),(sq),H',⟨by have:=HK1.out;first | omega | exact Nat.le_refl _⟩,⟨rq HO_3.out⟩,⟨bq⟩⟩
      ·rw [if_neg c7] at H
       exact absurd H (by simp)
     ·rw [if_neg c6] at H
      exact absurd H (by simp)
    case rest =>
     clear HC5
     try clear p1
     try clear q1
     try clear hx1
     try clear p2
     try clear c3
     try clear c4
     try clear c4b0
     try clear c6
     try clear c6b0
     try clear p6
     try clear c7
     try clear c7b0
     try clear c8
     try clear c8b0
     try clear c8b1
     try clear hx160_0
     try clear hx160_1
     try clear hx160_2
     try clear hx160_3
     try clear hx161_0
     try clear hx161_1
     try clear hx161_2
     try clear hx161_3
     try clear p160
     try clear p161
     try clear p2
     try clear q160
     try clear q161
     obtain ⟨kq,x28_4,rfl,HA,HJ4,HO_3,HB⟩:=hcut
     cases kq with
     | zero=>exact absurd HA.out (by simp [jG.j1])
     | succ kj4 =>
      have H:=HA.out
      clear HA
      simp only [jG.j1] at H
      have HC9:=am H
      clear H
      go_upto_if 28 with (fail)
      go_cut [3] (fun v3 wc=>∃ (kq:Nat) (x3_8:List (S48)),jl (jG.j2 kq l0 x3_8 x4_1=some r)∧jl (kq≤kj4)∧jl (Kd.R k48 48 wc w.heap.size (fun _=>True) v3 x3_8)∧jl (Below w.heap.size w wc))
      case first =>
       have H:=HC9.out
       clear HC9
       by_cases c10:x28_4=true
       ·subst c10
        have H1:((jia.f kj4 l0 x4_1).bind fun t162=>(if x3_1.length<4398046511104 then (jG.j2 kj4 l0 (x3_1 ++ [(⟨wrap64 (x4_1+1),t162,x4_1,0⟩:S48)]) x4_1) else (none)))=some r:=by rw [if_pos rfl] at H;exact H
        clear H
        have H:=H1
        clear H1
        replace H:=bzS H
        obtain ⟨t162,A110,H⟩:=H
        replace H:(if x3_1.length<4398046511104 then (jG.j2 kj4 l0 (x3_1 ++ [(⟨wrap64 (x4_1+1),t162,x4_1,0⟩:S48)]) x4_1) else (none))=some r:=H
        have A11:=am A110
        clear A110
        by_cases c12:x3_1.length<4398046511104
        ·rw [if_pos c12] at H
         have LMc12:=am c12
         clear c12
         obtain ⟨y163,hy163⟩:∃ y_:List (S48),y_=(x3_1 ++ [(⟨wrap64 (x4_1+1),t162,x4_1,0⟩:S48)]):=⟨_,rfl⟩
         replace H:(jG.j2 kj4 l0 y163 x4_1)=some r:=by first |(rw [hy163];with_reducible exact H) |(have H2_:=(Option.bind_some _ _).symm.trans H;rw [hy163];with_reducible exact H2_) |(have H2_:=(Option.bind_some _ _).symm.trans H;with_reducible exact H2_) | with_reducible exact H |(rw [hy163];exact H) | exact H
         have Ny163:=am hy163
         clear hy163
         have H':=am H
         clear H
         go_wp2_with (first |((with_reducible refine jg (f:=65) rfl ?_);refine gL (some 34) Try.func65 #[.slice A0 l0.length c0, .int .i64 x4_1] ?_;(with_reducible refine (jia.calls kj4 _ _ l0 x4_1 t162 _ ?side1 ?side2 A11.out).mono ?_);(case side1=>exact cq (Kd.jka HR0.out HB.out));(case side2=>exact HC0.out);rintro e w' ⟨rfl,⟨nd,rfl⟩⟩;refine ⟨_,rfl,?_⟩) |((with_reducible refine jJa (b:=.append) (xs:=#[.tmp 29, .tmp 37]) rfl ?_);at_builtin;refine Kd.jVb k48 (w0:=w) w.heap.size rfl (.tmp 29) (.tmp 37) 28 48 (.agg #[(.int .i64 0),(.int .i64 0),(.int .i64 0),(.int .i64 0)]) 32 rfl Try.underlying28 info48 rfl (by decide) (by omega) u3 x3_1 (⟨wrap64 (x4_1+1),t162,x4_1,0⟩:S48) [.int .i64 (wrap64 (x4_1+1)), .int .i64 t162, .int .i64 x4_1, .int .i64 0] (fun _=>True) (fun _=>False) rfl rfl ?aP (fun _ hk=>hk.elim) ?aF ?aO ?aB ?aS ?aL ?_;(case aP=>exact k48_mkM _ _ _ (⟨wrap64 (x4_1+1),t162,x4_1,0⟩:S48));(case aB=>exact (bq));(case aF=>exact (fun _ _=>trivial));(case aO=>exact (rq HO_3.out));(case aS=>exact (jda (bq)));(case aL=>have:=LMc12.out;omega);intro v164 w13 ho hb hg hat;rw [← Ny163.out] at ho;have n0_:=am (hb);have n1_:=am (ho);clear HB HO_3;have HB:=n0_;have HO165:=n1_;clear n0_ n1_ ho hb hg hat))
         go_meet
         case rel=>exact ⟨_,(y163),H',⟨by have:=HK1.out;have:=HJ4.out;first | omega | exact Nat.le_refl _⟩,⟨rq HO165.out⟩,⟨bq⟩⟩
        ·rw [if_neg c12] at H
         exact absurd H (by simp)
       ·replace c10:=Bool.eq_false_iff.mpr c10
        subst c10
        have H1:(jG.j2 kj4 l0 x3_1 x4_1)=some r:=by rw [if_neg (show ¬ (false=true) by decide)] at H;exact H
        clear H
        have H:=H1
        clear H1
        have H':=am H
        clear H
        go_wp2
        go_meet
        case rel=>exact ⟨_,(x3_1),H',⟨by have:=HK1.out;have:=HJ4.out;first | omega | exact Nat.le_refl _⟩,⟨rq HO_3.out⟩,⟨bq⟩⟩
      case rest =>
       clear HC9
       try clear c1
       try clear p1
       try clear q1
       try clear hx1
       try clear p2
       try clear c3
       try clear c4
       try clear c4b0
       try clear c6
       try clear c6b0
       try clear p6
       try clear c7
       try clear c7b0
       try clear c8
       try clear c8b0
       try clear c8b1
       try clear c10
       try clear c12
       try clear hx160_0
       try clear hx160_1
       try clear hx160_2
       try clear hx160_3
       try clear hx161_0
       try clear hx161_1
       try clear hx161_2
       try clear hx161_3
       try clear p1
       try clear p160
       try clear p161
       try clear p2
       try clear p6
       try clear q1
       try clear q160
       try clear q161
       obtain ⟨kq,x3_8,HA,HJ8,HO_3,HB⟩:=hcut
       cases kq with
       | zero=>exact absurd HA.out (by simp [jG.j2])
       | succ kj8 =>
        have H:=HA.out
        clear HA
        simp only [jG.j2] at H
        by_cases c14:0≤x4_1
        ·rw [if_pos c14] at H
         have c14b0:decide (0≤x4_1)=true:=dzT c14
         clear c14
         by_cases c15:x4_1<(l0.length:Int)
         ·rw [if_pos c15] at H
          have c15b0:decide (x4_1<(l0.length:Int))=true:=dzT c15
          clear c15
          by_cases c16:((jd l0 x4_1).f1)=7
          ·rw [if_pos c16] at H
           have c16b0:(((jd l0 x4_1).f1) == 7)=true:=beq_iff_eq.mpr c16
           have c16b1:(((jd l0 x4_1).f1) != 7)=false:=bne_eq_false_iff_eq.mpr c16
           clear c16
           replace H:=bzS H
           obtain ⟨t167,A170,H⟩:=H
           replace H:(jG.l1 kj8 l0 x3_8 x4_1 t167 1)=some r:=H
           have A17:=am A170
           clear A170
           have H':=am H
           clear H
           have p166:0≤(x4_1:Int):=ozD (uq)
           have q166:x4_1<(l0.length:Int):=ozD (uq)
           obtain ⟨ad166,e166,hx166_0,hx166_1,hx166_2,hx166_3⟩:=jza HR0.out x4_1 p166 q166
           cases e166
           replace hx166_0:=cb HB.out hx166_0
           replace hx166_1:=cb HB.out hx166_1
           replace hx166_2:=cb HB.out hx166_2
           replace hx166_3:=cb HB.out hx166_3
           replace p166:=ezT p166
           replace q166:=ezT q166
           go_wp2_with (first |((with_reducible refine jg (f:=66) rfl ?_);refine gL (some 47) Try.func66 #[.slice (some ad166) l0.length c0, .int .i64 x4_1] ?_;(with_reducible refine (jva.calls kj8 _ _ l0 x4_1 t167 _ ?side1 ?side2 A17.out).mono ?_);(case side1=>exact cq (Kd.jka HR0.out HB.out));(case side2=>exact HC0.out);rintro e w18 ⟨v168,rfl,ho0,hb⟩;refine ⟨_,rfl,?_⟩;have HO169:=am (Kd.jX ho0 (jda (bq)));replace HO_3:=am (Kd.jja (rq HO_3.out) hb);replace HB:=am (ji (bq) hb);(try clear hb);(try clear hb2);(try clear hk);(try clear hi);(try clear ho0)))
           go_loopg [3,6] kj8 (fun kq v3 v6 w'=>∃ (x3_4:List (S48)) (x6_4:Int),v6=.int .i64 x6_4∧jl (jG.l1 kq l0 x3_4 x4_1 t167 x6_4=some r)∧jl (kq≤kj8)∧jl (Kd.R k48 48 w' w.heap.size (fun _=>True) v3 x3_4)∧jl (Kd.R (Kd.int .i64) 3 w' w.heap.size (fun _=>True) v168 t167)∧jl (Below w.heap.size w w'))
           case atStart=>exact ⟨(x3_8),(1),(sq),H',⟨Nat.le_refl _⟩,⟨rq HO_3.out⟩,⟨rq HO169.out⟩,⟨bq⟩⟩
           case round =>
            clear H'
            try clear c1
            try clear p1
            try clear q1
            try clear hx1
            try clear p2
            try clear c3
            try clear c4
            try clear c4b0
            try clear c6
            try clear c6b0
            try clear p6
            try clear c7
            try clear c7b0
            try clear c8
            try clear c8b0
            try clear c8b1
            try clear c10
            try clear c12
            try clear c14
            try clear c14b0
            try clear c15
            try clear c15b0
            try clear c16
            try clear c16b0
            try clear c16b1
            try clear p16
            try clear q16
            try clear hx16
            try clear hx160_0
            try clear hx160_1
            try clear hx160_2
            try clear hx160_3
            try clear hx161_0
            try clear hx161_1
            try clear hx161_2
            try clear hx161_3
            try clear hx166_0
            try clear hx166_1
            try clear hx166_2
            try clear hx166_3
            try clear p1
            try clear p160
            try clear p161
            try clear p166
            try clear p2
            try clear p6
            try clear q1
            try clear q160
            try clear q161
            try clear q166
            obtain ⟨x3_4,x6_4,rfl,HA,HK4,HO_3,HO_5,HB⟩:=hrel
            cases gk with
            | zero=>exact absurd HA.out (by simp [jG.l1])
            | succ k4 =>
             have H:=HA.out
             clear HA
             simp only [jG.l1] at H
             by_cases c19:x6_4<(t167.length:Int)
             ·rw [if_pos c19] at H
              have c19b0:decide (x6_4<(t167.length:Int))=true:=dzT c19
              clear c19
              by_cases c20:0≤x6_4
              ·rw [if_pos c20] at H
               have c20b0:decide (0≤x6_4)=true:=dzT c20
               clear c20
               by_cases c21:0≤(rd t167 x6_4)
               ·rw [if_pos c21] at H
                have c21b0:decide (0≤(rd t167 x6_4))=true:=dzT c21
                clear c21
                by_cases c22:(rd t167 x6_4)<(l0.length:Int)
                ·rw [if_pos c22] at H
                 have c22b0:decide ((rd t167 x6_4)<(l0.length:Int))=true:=dzT c22
                 clear c22
                 by_cases c23:((jd l0 (rd t167 x6_4)).f1)=8
                 ·rw [if_pos c23] at H
                  have c23b0:(((jd l0 (rd t167 x6_4)).f1) == 8)=true:=beq_iff_eq.mpr c23
                  have c23b1:(((jd l0 (rd t167 x6_4)).f1) != 8)=false:=bne_eq_false_iff_eq.mpr c23
                  clear c23
                  replace H:=bzS H
                  obtain ⟨t172,A240,H⟩:=H
                  replace H:(if x3_4.length<4398046511104 then (jG.l1 k4 l0 (x3_4 ++ [(⟨wrap64 (x4_1+1),t172,rd t167 x6_4,(jd l0 (rd t167 x6_4)).f2⟩:S48)]) x4_1 t167 (wrap64 (x6_4+1))) else (none))=some r:=H
                  have A24:=am A240
                  clear A240
                  by_cases c25:x3_4.length<4398046511104
                  ·rw [if_pos c25] at H
                   have LMc25:=am c25
                   clear c25
                   obtain ⟨y176,hy176⟩:∃ y_:List (S48),y_=(x3_4 ++ [(⟨wrap64 (x4_1+1),t172,rd t167 x6_4,(jd l0 (rd t167 x6_4)).f2⟩:S48)]):=⟨_,rfl⟩
                   replace H:(jG.l1 k4 l0 y176 x4_1 t167 (wrap64 (x6_4+1)))=some r:=by first |(rw [hy176];with_reducible exact H) |(have H2_:=(Option.bind_some _ _).symm.trans H;rw [hy176];with_reducible exact H2_) |(have H2_:=(Option.bind_some _ _).symm.trans H;with_reducible exact H2_) | with_reducible exact H |(rw [hy176];exact H) | exact H
                   have Ny176:=am hy176
                   clear hy176
                   have H':=am H
                   clear H
                   obtain ⟨Ao26,co26,eo26⟩:=Kd.jaa HO_5.out
                   subst eo26
                   have p170:0≤(x6_4:Int):=ozD (uq)
                   have q170:x6_4<(t167.length:Int):=ozD (uq)
                   obtain ⟨ad170,e170,hx170_0⟩:=Kd.jyb (Kd.jm HO_5.out).2.2 x6_4 p170 q170
                   cases e170
                   replace p170:=ezT p170
                   replace q170:=ezT q170
                   have p171:0≤((rd t167 x6_4):Int):=ozD (uq)
                   have q171:(rd t167 x6_4)<(l0.length:Int):=ozD (uq)
                   obtain ⟨ad171,e171,hx171_0,hx171_1,hx171_2,hx171_3⟩:=jza HR0.out (rd t167 x6_4) p171 q171
                   obtain rfl:ad166=ad171:=(by injection e171)
                   replace hx171_0:=cb HB.out hx171_0
                   replace hx171_1:=cb HB.out hx171_1
                   replace hx171_2:=cb HB.out hx171_2
                   replace hx171_3:=cb HB.out hx171_3
                   replace p171:=ezT p171
                   replace q171:=ezT q171
                   try go_wp2
                   replace HO_3:=am (Kd.jma HO_3.out)
                   replace HO_5:=am (Kd.jma HO_5.out)
                   replace HB:=am (jW HB.out)
                   have p173:0≤(x6_4:Int):=ozD (uq)
                   have q173:x6_4<(t167.length:Int):=ozD (uq)
                   obtain ⟨ad173,e173,hx173_0⟩:=Kd.jyb (Kd.jm HO_5.out).2.2 x6_4 p173 q173
                   obtain rfl:ad170=ad173:=(by injection e173)
                   replace p173:=ezT p173
                   replace q173:=ezT q173
                   have p174:0≤(x6_4:Int):=ozD (uq)
                   have q174:x6_4<(t167.length:Int):=ozD (uq)
                   obtain ⟨ad174,e174,hx174_0⟩:=Kd.jyb (Kd.jm HO_5.out).2.2 x6_4 p174 q174
                   obtain rfl:ad170=ad174:=(by injection e174)
                   replace p174:=ezT p174
                   replace q174:=ezT q174
                   have p175:0≤((rd t167 x6_4):Int):=ozD (uq)
                   have q175:(rd t167 x6_4)<(l0.length:Int):=ozD (uq)
                   obtain ⟨ad175,e175,hx175_0,hx175_1,hx175_2,hx175_3⟩:=jza HR0.out (rd t167 x6_4) p175 q175
                   have hw175_3:=hx175_3
                   have hw175_2:=hx175_2
                   have hw175_1:=hx175_1
                   have hw175_0:=hx175_0
                   obtain rfl:ad166=ad175:=(by injection e175)
                   replace hx175_0:=cb HB.out hx175_0
                   replace hx175_1:=cb HB.out hx175_1
                   replace hx175_2:=cb HB.out hx175_2
                   replace hx175_3:=cb HB.out hx175_3
                   replace p175:=ezT p175
                   replace q175:=ezT q175
                   refine start_ (n:=22) (S:=fun w'=>w'.cell? (ad170.add (x6_4).toNat)=some (.int .i64 (rd t167 x6_4))∧w'.cell? (ad170.add (x6_4).toNat)=some (.int .i64 (rd t167 x6_4))∧w'.cell? (ad166.add (((rd t167 x6_4)).toNat * 4))=some (.int .i64 ((jd l0 (rd t167 x6_4)).f0))∧w'.cell? ⟨(ad166.add (((rd t167 x6_4)).toNat * 4)).block,(ad166.add (((rd t167 x6_4)).toNat * 4)).off+1,none⟩=some (.int .i64 ((jd l0 (rd t167 x6_4)).f1))∧w'.cell? ⟨(ad166.add (((rd t167 x6_4)).toNat * 4)).block,(ad166.add (((rd t167 x6_4)).toNat * 4)).off+2,none⟩=some (.int .i64 ((jd l0 (rd t167 x6_4)).f2))∧w'.cell? ⟨(ad166.add (((rd t167 x6_4)).toNat * 4)).block,(ad166.add (((rd t167 x6_4)).toNat * 4)).off+3,none⟩=some (.int .i64 ((jd l0 (rd t167 x6_4)).f3))) (ds:=[19,20]) #[false,false,false,false,false,false,false,false,false,false,false,false,false,false,false,false,false,false,false,false,false,false] (by kernel_rfl) rfl rfl ⟨hx173_0,hx174_0,((HB.out.cell (World.block_lt_of_cell? w _ hw175_0)).trans hw175_0),((HB.out.cell (World.block_lt_of_cell? w _ hw175_1)).trans hw175_1),((HB.out.cell (World.block_lt_of_cell? w _ hw175_2)).trans hw175_2),((HB.out.cell (World.block_lt_of_cell? w _ hw175_3)).trans hw175_3)⟩ (fun hHeld=>?_);refine jrc jG.tab13 jG.bits13 (fun HT_ HW_=>?_)
                   generalize wr.drew=w27 at HO_3 HO_5 HB hx173_0 hx174_0 hx175_0 hx175_1 hx175_2 hx175_3 hHeld ⊢
                   refine pq (i:=0) (N:=some 63) #[true,false,false,false,false,false,false,false,false,false,false,false,false,false,false,false,false,false,false,false,false,false] ?_
                   refine pq (i:=1) (N:=some 64) #[true,true,false,false,false,false,false,false,false,false,false,false,false,false,false,false,false,false,false,false,false,false] ?_
                   refine pq (i:=2) (N:=some 65) #[true,true,true,false,false,false,false,false,false,false,false,false,false,false,false,false,false,false,false,false,false,false] ?_
                   refine pq (i:=3) (N:=some 66) #[true,true,true,true,false,false,false,false,false,false,false,false,false,false,false,false,false,false,false,false,false,false] ?_
                   refine pq (i:=4) (N:=some 67) #[true,true,true,true,true,false,false,false,false,false,false,false,false,false,false,false,false,false,false,false,false,false] ?_
                   refine pq (i:=6) (N:=some 69) #[true,true,true,true,true,false,true,false,false,false,false,false,false,false,false,false,false,false,false,false,false,false] ?_
                   refine pq (i:=7) (N:=some 70) #[true,true,true,true,true,false,true,true,false,false,false,false,false,false,false,false,false,false,false,false,false,false] ?_
                   refine pq (i:=8) (N:=some 71) #[true,true,true,true,true,false,true,true,true,false,false,false,false,false,false,false,false,false,false,false,false,false] ?_
                   refine pq (i:=10) (N:=some 73) #[true,true,true,true,true,false,true,true,true,false,true,false,false,false,false,false,false,false,false,false,false,false] ?_
                   refine pq (i:=11) (N:=some 74) #[true,true,true,true,true,false,true,true,true,false,true,true,false,false,false,false,false,false,false,false,false,false] ?_
                   refine pq (i:=12) (N:=some 75) #[true,true,true,true,true,false,true,true,true,false,true,true,true,false,false,false,false,false,false,false,false,false] ?_
                   refine pq (i:=13) (N:=some 76) #[true,true,true,true,true,false,true,true,true,false,true,true,true,true,false,false,false,false,false,false,false,false] ?_
                   refine take_ (i:=9) (N:=some 72) (v:=?_) (a':=?_) #[true,true,true,true,true,false,true,true,true,true,true,true,true,true,false,false,false,false,false,false,false,false] rfl rfl (jNb HT_.out HW_.out (by kernel_rfl)) (fun _ _ _ h=>h) (Or.inl ⟨by rfl,?_⟩) hHeld ?_ ?_
                   rotate_left
                   ·rintro w' ⟨s0,s1,s2,s3,s4,s5⟩
                    go_simp
                    with_reducible rfl
                   rotate_left
                   ·exact sa
                   refine take_ (i:=14) (N:=some 77) (v:=?_) (a':=?_) #[true,true,true,true,true,false,true,true,true,true,true,true,true,true,true,false,false,false,false,false,false,false] rfl rfl (jNb HT_.out HW_.out (by kernel_rfl)) (fun _ _ _ h=>h) (Or.inl ⟨by rfl,?_⟩) hHeld ?_ ?_
                   rotate_left
                   ·rintro w' ⟨s0,s1,s2,s3,s4,s5⟩
                    go_simp
                    with_reducible rfl
                   rotate_left
                   ·exact sa
                   refine pq (i:=15) (N:=some 78) #[true,true,true,true,true,false,true,true,true,true,true,true,true,true,true,true,false,false,false,false,false,false] ?_
                   refine pq (i:=16) (N:=some 79) #[true,true,true,true,true,false,true,true,true,true,true,true,true,true,true,true,true,false,false,false,false,false] ?_
                   refine take_ (i:=17) (N:=some 80) (v:=?_) (a':=?_) #[true,true,true,true,true,false,true,true,true,true,true,true,true,true,true,true,true,true,false,false,false,false] rfl rfl (jNb HT_.out HW_.out (by kernel_rfl)) (fun _ _ _ h=>h) (Or.inl ⟨by rfl,?_⟩) hHeld ?_ ?_
                   rotate_left
                   ·rintro w' ⟨s0,s1,s2,s3,s4,s5⟩
                    go_simp
                    with_reducible rfl
                   rotate_left
                   ·exact sa
                   refine one_ (i:=5) (N:=some 68) #[true,true,true,true,true,true,true,true,true,true,true,true,true,true,true,true,true,true,false,false,false,false] rfl rfl (jLb HT_.out (by kernel_rfl)) (by decide) (fun K hK=>?_)
                   refine goes_ Try.func65 (by kernel_rfl) rfl #[.slice (some ad166) l0.length c0, .int .i64 x4_1] (by rfl) rfl rfl (aq) ?_
                   with_reducible refine (jia.calls k4 _ _ l0 x4_1 t172 _ ?side1 ?side2 A24.out).mono ?_
                   (case side1=>exact cq (Kd.jka HR0.out HB.out))
                   (case side2=>exact HC0.out)
                   rintro e w' ⟨rfl,⟨nd,rfl⟩⟩
                   refine ⟨_,rfl,?_⟩
                   refine hK.out _ _ ⟨hHeld.1,hHeld.2.1,((HB.out.cell (World.block_lt_of_cell? w _ hw175_0)).trans hw175_0),((HB.out.cell (World.block_lt_of_cell? w _ hw175_1)).trans hw175_1),((HB.out.cell (World.block_lt_of_cell? w _ hw175_2)).trans hw175_2),((HB.out.cell (World.block_lt_of_cell? w _ hw175_3)).trans hw175_3)⟩ (fun hHeld=>?_)
                   clear hK K
                   refine jRb (a':=?_) ?_ ?_
                   rotate_left
                   ·show Act.put _ (some 68) _=_
                    simp only [Act.put,List.setIfInBounds_toArray,List.set_cons_zero,List.set_cons_succ,jeb,jhb]
                    rfl
                   refine pq (i:=18) (N:=some 81) #[true,true,true,true,true,true,true,true,true,true,true,true,true,true,true,true,true,true,true,false,false,false] ?_
                   refine last_ (i:=19) (N:=some 82) #[true,true,true,true,true,true,true,true,true,true,true,true,true,true,true,true,true,true,true,true,false,false] rfl rfl (jLb HT_.out (by kernel_rfl)) (by decide) (fun K hK=>?_)
                   refine value_ (w1:=?_) (v:=?_) (by rfl) rfl ?_ ?_
                   rotate_left 2
                   ·go_simp
                    constructor
                    ·rfl
                    ·rfl
                   refine hK.out _ _ ?_
                   clear hK K
                   refine jRb (a':=?_) ?_ ?_
                   rotate_left
                   ·show Act.put _ (some 82) _=_
                    simp only [Act.put,List.setIfInBounds_toArray,List.set_cons_zero,List.set_cons_succ,jeb,jhb]
                    rfl
                   refine last_ (i:=20) (N:=some 83) #[true,true,true,true,true,true,true,true,true,true,true,true,true,true,true,true,true,true,true,true,true,false] rfl rfl (jLb HT_.out (by kernel_rfl)) (by decide) (fun K hK=>?_)
                   refine Kd.R_append_step k48 (w0:=w) w.heap.size (by rfl) (.tmp 63) (.tmp 82) 28 48 (.agg #[(.int .i64 0),(.int .i64 0),(.int .i64 0),(.int .i64 0)]) 32 rfl Try.underlying28 info48 rfl (by decide) (by omega) u3 x3_4 (⟨wrap64 (x4_1+1),t172,rd t167 x6_4,(jd l0 (rd t167 x6_4)).f2⟩:S48) [.int .i64 (wrap64 (x4_1+1)), .int .i64 t172, .int .i64 (rd t167 x6_4), .int .i64 ((jd l0 (rd t167 x6_4)).f2)] (fun _=>True) (fun _=>False) rfl rfl ?aP (fun _ hk=>hk.elim) ?aF ?aO ?aB ?aS ?aL ?_
                   (case aP=>exact k48_mkM _ _ _ (⟨wrap64 (x4_1+1),t172,rd t167 x6_4,(jd l0 (rd t167 x6_4)).f2⟩:S48))
                   (case aB=>exact (bq))
                   (case aF=>exact (fun _ _=>trivial))
                   (case aO=>exact (rq HO_3.out))
                   (case aS=>exact (jda (bq)))
                   (case aL=>have:=LMc25.out;omega)
                   intro v177 w28 ho hb hg hat
                   rw [← Ny176.out] at ho
                   have n0_:=am (Kd.jbc (rq HO_5.out) (Kd.jac (rq HO_3.out)) (by decide) hg)
                   have n1_:=am (hb)
                   have n2_:=am (ho)
                   clear HO_5
                   clear HB
                   clear HO_3
                   have HO_5:=n0_
                   have HB:=n1_
                   have HO178:=n2_
                   clear n0_ n1_ n2_
                   clear ho hb hg hat
                   refine hK.out _ _ ?_
                   clear hK K
                   refine jRb (a':=?_) ?_ ?_
                   rotate_left
                   ·show Act.put _ (some 83) _=_
                    simp only [Act.put,List.setIfInBounds_toArray,List.set_cons_zero,List.set_cons_succ,jeb,jhb]
                    rfl
                   refine pq (i:=21) (N:=some 3) #[true,true,true,true,true,true,true,true,true,true,true,true,true,true,true,true,true,true,true,true,true,true] ?_
                   refine done_ (done_of HT_.out (by kernel_rfl)) ?_
                   try go_wp2
                   go_roundg k4
                   case measure=>have:=HK1.out;have:=HJ4.out;have:=HJ8.out;have:=HK4.out;omega
                   case rel=>exact ⟨(y176),(wrap64 (x6_4+1)),(sq),H',⟨by have:=HK1.out;have:=HJ4.out;have:=HJ8.out;have:=HK4.out;omega⟩,⟨rq HO178.out⟩,⟨rq HO_5.out⟩,⟨bq⟩⟩
                  ·rw [if_neg c25] at H
                   exact absurd H (by simp)
                 ·rw [if_neg c23] at H
                  have c23b0:(((jd l0 (rd t167 x6_4)).f1) == 8)=false:=beq_eq_false_iff_ne.mpr c23
                  have c23b1:(((jd l0 (rd t167 x6_4)).f1) != 8)=true:=bne_iff_ne.mpr c23
                  have H':=am H
                  clear H
                  obtain ⟨Ao29,co29,eo29⟩:=Kd.jaa HO_5.out
                  subst eo29
                  have p170:0≤(x6_4:Int):=ozD (uq)
                  have q170:x6_4<(t167.length:Int):=ozD (uq)
                  obtain ⟨ad170,e170,hx170_0⟩:=Kd.jyb (Kd.jm HO_5.out).2.2 x6_4 p170 q170
                  cases e170
                  replace p170:=ezT p170
                  replace q170:=ezT q170
                  have p171:0≤((rd t167 x6_4):Int):=ozD (uq)
                  have q171:(rd t167 x6_4)<(l0.length:Int):=ozD (uq)
                  obtain ⟨ad171,e171,hx171_0,hx171_1,hx171_2,hx171_3⟩:=jza HR0.out (rd t167 x6_4) p171 q171
                  obtain rfl:ad166=ad171:=(by injection e171)
                  replace hx171_0:=cb HB.out hx171_0
                  replace hx171_1:=cb HB.out hx171_1
                  replace hx171_2:=cb HB.out hx171_2
                  replace hx171_3:=cb HB.out hx171_3
                  replace p171:=ezT p171
                  replace q171:=ezT q171
                  go_wp2
                  go_roundg k4
                  case measure=>have:=HK1.out;have:=HJ4.out;have:=HJ8.out;have:=HK4.out;omega
                  case rel=>exact ⟨(x3_4),(wrap64 (x6_4+1)),(sq),H',⟨by have:=HK1.out;have:=HJ4.out;have:=HJ8.out;have:=HK4.out;omega⟩,⟨rq HO_3.out⟩,⟨rq HO_5.out⟩,⟨bq⟩⟩
                ·rw [if_neg c22] at H
                 exact absurd H (by simp)
               ·rw [if_neg c21] at H
                exact absurd H (by simp)
              ·rw [if_neg c20] at H
               exact absurd H (by simp)
             ·rw [if_neg c19] at H
              have c19b0:decide (x6_4<(t167.length:Int))=false:=dzF c19
              clear c19
              have H':=am H
              clear H
              obtain ⟨Ao30,co30,eo30⟩:=Kd.jaa HO_5.out
              subst eo30
              go_wp2
              go_roundg k4
              case measure=>have:=HK1.out;have:=HJ4.out;have:=HJ8.out;have:=HK4.out;omega
              case rel=>exact ⟨(x3_4),(wrap64 (x4_1 - 1)),(sq),H',⟨by have:=HK1.out;have:=HJ4.out;have:=HJ8.out;have:=HK4.out;omega⟩,⟨rq HO_3.out⟩,⟨bq⟩⟩
          ·rw [if_neg c16] at H
           have c16b0:(((jd l0 x4_1).f1) == 7)=false:=beq_eq_false_iff_ne.mpr c16
           have c16b1:(((jd l0 x4_1).f1) != 7)=true:=bne_iff_ne.mpr c16
           have H':=am H
           clear H
           have p166:0≤(x4_1:Int):=ozD (uq)
           have q166:x4_1<(l0.length:Int):=ozD (uq)
           obtain ⟨ad166,e166,hx166_0,hx166_1,hx166_2,hx166_3⟩:=jza HR0.out x4_1 p166 q166
           cases e166
           replace hx166_0:=cb HB.out hx166_0
           replace hx166_1:=cb HB.out hx166_1
           replace hx166_2:=cb HB.out hx166_2
           replace hx166_3:=cb HB.out hx166_3
           replace p166:=ezT p166
           replace q166:=ezT q166
           go_wp2
           go_roundg kj8
           case measure=>have:=HK1.out;have:=HJ4.out;have:=HJ8.out;omega
           case rel=>exact ⟨(x3_8),(wrap64 (x4_1 - 1)),(sq),H',⟨by have:=HK1.out;have:=HJ4.out;have:=HJ8.out;omega⟩,⟨rq HO_3.out⟩,⟨bq⟩⟩
         ·rw [if_neg c15] at H
          exact absurd H (by simp)
        ·rw [if_neg c14] at H
         exact absurd H (by simp)
   ·rw [if_neg c4] at H
    have c4b0:decide (0≤x4_1)=false:=dzF c4
    clear c4
    obtain rfl:=Option.some.inj H
    go_wp2
    go_ret
    exact ⟨_,Y0,rq HO_3.out,bq⟩
def jEa.f (k : Nat) (l0_0 : List (S98)) (l1 : List (S59)) : Option ((List (S48))) := (jV.f k l0_0 l1).bind fun t180 => (if t180 = true then ((jG.f k l1).bind fun t181 => (some t181)) else (some ([] : List (S48))))
set_option maxHeartbeats 8000000 in
set_option maxRecDepth 100000 in
theorem jEa.calls (k : Nat) (A0_0 : Option Addr) (c0_0 : Nat) (l0_0 : List (S98)) (A1 : Option Addr) (c1 : Nat) (l1 : List (S59)) (r : List (S48)) (w : World) (hr0_0 : Kd.C k98 w A0_0 l0_0.length l0_0) (hc0_0 : l0_0.length ≤ c0_0) (hr1 : Kd.C k59 w A1 l1.length l1) (hc1 : l1.length ≤ c1) (h : jEa.f k l0_0 l1 = some r) :
  Calls Try.prog 9 #[.agg #[.slice A0_0 l0_0.length c0_0], .slice A1 l1.length c1] w fun e w'=>∃ v0_:Value,e=.returned (v0_)∧Kd.R k48 48 w' w.heap.size (fun _=>True) v0_ r∧Below w.heap.size w w':=by
 have hu32:=Try.underlying32
 have HR0_0:=am hr0_0
 have HC0_0:=am hc0_0
 clear hr0_0 hc0_0
 have HR1:=am hr1
 have HC1:=am hc1
 clear hr1 hc1
 have HB:=am (Below.refl w.heap.size w)
 have H:((jV.f k l0_0 l1).bind fun t180=>(if t180=true then ((jG.f k l1).bind fun t181=>(some t181)) else (some ([]:List (S48)))))=some r:=h
 clear h
 replace H:=bzS H
 obtain ⟨t180,A30,H⟩:=H
 replace H:(if t180=true then ((jG.f k l1).bind fun t181=>(some t181)) else (some ([]:List (S48))))=some r:=H
 have A3:=am A30
 clear A30
 by_cases c4:t180=true
 ·subst c4
  have H1:((jG.f k l1).bind fun t181=>(some t181))=some r:=by rw [if_pos rfl] at H;exact H
  clear H
  have H:=H1
  clear H1
  replace H:=bzS H
  obtain ⟨t181,A50,H⟩:=H
  replace H:(some t181)=some r:=H
  have A5:=am A50
  clear A50
  obtain rfl:=Option.some.inj H
  go_enter Try.func9,Try.ntmps9
  go_wp2_with (first |((with_reducible refine jQ (N:=2) rfl ?_);refine bE (N:=2) (cs:=#[.slice A0_0 l0_0.length c0_0]) (t:=32) ?_;intro gb179 hg w6 hbox hb;have BK179:=am (hbox);have GW179:=am ((Y13:w.heap.size≤gb179));have GE179:=am ((Y13:w.heap.size≤gb179));replace HB:=am (ji (bq) hb);clear hb hbox hg;have hcz7_0:=bc0 BK179.out;have hfz7_0:=ja BK179.out 0) |((with_reducible refine jg (f:=29) rfl ?_);refine gL (some 7) Try.func29 #[.agg #[.slice A0_0 l0_0.length c0_0], .slice A1 l1.length c1] ?_;(with_reducible refine (jV.calls k _ _ l0_0 _ _ l1 true _ ?side1 ?side2 ?side3 ?side4 A3.out).mono ?_);(case side1=>exact cq (Kd.jka HR0_0.out HB.out));(case side2=>exact HC0_0.out);(case side3=>exact cq (Kd.jka HR1.out HB.out));(case side4=>exact HC1.out);rintro e w8 ⟨rfl,hb⟩;refine ⟨_,rfl,?_⟩;replace BK179:=am (jq (g:=gb179) (o:=.cells #[.slice A0_0 l0_0.length c0_0] 32 (0,0)) (kq BK179.out) hb);replace HB:=am (ji (Y53) hb);(try clear hb);(try clear hb2);(try clear hk);(try clear hi)) |((with_reducible refine jg (f:=30) rfl ?_);refine gL (some 10) Try.func30 #[.slice A1 l1.length c1] ?_;(with_reducible refine (jG.calls k _ _ l1 t181 _ ?side1 ?side2 A5.out).mono ?_);(case side1=>exact cq (Kd.jka HR1.out HB.out));(case side2=>exact HC1.out);rintro e w9 ⟨v182,rfl,ho0,hb⟩;refine ⟨_,rfl,?_⟩;have HO183:=am (Kd.jX ho0 (jda (Y53)));replace BK179:=am (jq (g:=gb179) (o:=.cells #[.slice A0_0 l0_0.length c0_0] 32 (0,0)) (kq BK179.out) hb);replace HB:=am (ji (Y53) hb);(try clear hb);(try clear hb2);(try clear hk);(try clear hi);(try clear ho0)))
  go_ret
  exact ⟨_,Y0,rq HO183.out,Y53⟩
 ·replace c4:=Bool.eq_false_iff.mpr c4
  subst c4
  have H1:(some ([]:List (S48)))=some r:=by rw [if_neg (show ¬ (false=true) by decide)] at H;exact H
  clear H
  have H:=H1
  clear H1
  obtain rfl:=Option.some.inj H
  go_enter Try.func9,Try.ntmps9
  go_wp2_with (first |((with_reducible refine jQ (N:=2) rfl ?_);refine bE (N:=2) (cs:=#[.slice A0_0 l0_0.length c0_0]) (t:=32) ?_;intro gb179 hg w10 hbox hb;have BK179:=am (hbox);have GW179:=am ((Y13:w.heap.size≤gb179));have GE179:=am ((Y13:w.heap.size≤gb179));replace HB:=am (ji (bq) hb);clear hb hbox hg;have hcz11_0:=bc0 BK179.out;have hfz11_0:=ja BK179.out 0) |((with_reducible refine jg (f:=29) rfl ?_);refine gL (some 7) Try.func29 #[.agg #[.slice A0_0 l0_0.length c0_0], .slice A1 l1.length c1] ?_;(with_reducible refine (jV.calls k _ _ l0_0 _ _ l1 false _ ?side1 ?side2 ?side3 ?side4 A3.out).mono ?_);(case side1=>exact cq (Kd.jka HR0_0.out HB.out));(case side2=>exact HC0_0.out);(case side3=>exact cq (Kd.jka HR1.out HB.out));(case side4=>exact HC1.out);rintro e w12 ⟨rfl,hb⟩;refine ⟨_,rfl,?_⟩;replace BK179:=am (jq (g:=gb179) (o:=.cells #[.slice A0_0 l0_0.length c0_0] 32 (0,0)) (kq BK179.out) hb);replace HB:=am (ji (Y53) hb);(try clear hb);(try clear hb2);(try clear hk);(try clear hi)))
  go_ret
  exact ⟨_,Y0,Y89,Y53⟩
def jN.f (a0 : Int) (a1 : Int) (a2 : Int) : Option (Bool) := if a0 ≥ a1 then (some (decide (a0 ≤ a2))) else (some false)
set_option maxHeartbeats 8000000 in
set_option maxRecDepth 100000 in
theorem jN.calls (a0 : Int) (a1 : Int) (a2 : Int) (r : Bool) (w : World) (h : jN.f a0 a1 a2 = some r) :
  Calls Try.prog 45 #[.int .i64 a0, .int .i64 a1, .int .i64 a2] w fun e w'=>e=.returned (.bool r)∧jdb w w':=by
 have H:(if a0≥a1 then (some (decide (a0≤a2))) else (some false))=some r:=h
 clear h
 by_cases c4:a0≥a1
 ·rw [if_pos c4] at H
  have c4b0:decide (a1≤a0)=true:=dzT c4
  clear c4
  obtain rfl:=Option.some.inj H
  go_enter Try.func45,Try.ntmps45
  go_wp2
  go_ret
  exact ⟨sq,Y5⟩
 ·rw [if_neg c4] at H
  have c4b0:decide (a1≤a0)=false:=dzF c4
  clear c4
  obtain rfl:=Option.some.inj H
  go_enter Try.func45,Try.ntmps45
  go_wp2
  go_ret
  exact ⟨sq,Y5⟩
def jGa.l0 : Nat → ByteArray → Int → Int → Option (Bool)
 | 0,_,_,_=>none
 | k+1,x0,x5,x6=>if x6<x5 then (if 0≤x6 then (if x6<(x0.size:Int) then (if (bt x0 x6)<97 then (some false) else (if (bt x0 x6) > 122 then (some false) else (jGa.l0 k x0 x5 (wrap64 (x6+1))))) else (none)) else (none)) else ((jN.f (x0.size:Int) 1 6).bind fun t212=>(some t212))
def jGa.f (k : Nat) (a0 : ByteArray) : Option (Bool) := jGa.l0 k a0 (a0.size : Int) 0
set_option maxHeartbeats 8000000 in
set_option maxRecDepth 100000 in
theorem jGa.calls (k : Nat) (a0 : ByteArray) (r : Bool) (w : World) (h : jGa.f k a0 = some r) :
  Calls Try.prog 73 #[.string a0] w fun e w'=>e=.returned (.bool r)∧jdb w w':=by
 have H:(jGa.l0 k a0 (a0.size:Int) 0)=some r:=h
 clear h
 have H':=am H
 clear H
 go_enter Try.func73,Try.ntmps73
 go_wp2
 go_loopg [6] k (fun kq v6 w'=>∃ (x6_1:Int),v6=.int .i64 x6_1∧jl (jGa.l0 kq a0 (a0.size:Int) x6_1=some r)∧jl (kq≤k)∧jdb w w')
 case atStart=>exact ⟨(0),(sq),H',⟨Nat.le_refl _⟩,Y5⟩
 case round =>
  clear H'
  obtain ⟨x6_1,rfl,HA,HK1,⟨m1,rfl⟩⟩:=hrel
  cases gk with
  | zero=>exact absurd HA.out (by simp [jGa.l0])
  | succ k1 =>
   have H:=HA.out
   clear HA
   simp only [jGa.l0] at H
   by_cases c2:x6_1<(a0.size:Int)
   ·rw [if_pos c2] at H
    have c2b0:decide (x6_1<(a0.size:Int))=true:=dzT c2
    clear c2
    by_cases c3:0≤x6_1
    ·rw [if_pos c3] at H
     have c3b0:decide (0≤x6_1)=true:=dzT c3
     clear c3
     by_cases c4:x6_1<(a0.size:Int)
     ·rw [if_pos c4] at H
      have c4b0:decide (x6_1<(a0.size:Int))=true:=dzT c4
      clear c4
      by_cases c6:(bt a0 x6_1)<97
      ·rw [if_pos c6] at H
       have c6b0:decide ((bt a0 x6_1)<97)=true:=dzT c6
       clear c6
       obtain rfl:=Option.some.inj H
       have p5:0≤(x6_1:Int):=ozD (uq)
       have q5:x6_1<(a0.size:Int):=ozD (uq)
       have hx5:=bt_at a0 x6_1
       replace p5:=ezT p5
       replace q5:=ezT q5
       go_wp2
       go_ret
       exact ⟨sq,Y5⟩
      ·rw [if_neg c6] at H
       have c6b0:decide ((bt a0 x6_1)<97)=false:=dzF c6
       clear c6
       by_cases c8:(bt a0 x6_1) > 122
       ·rw [if_pos c8] at H
        have c8b0:decide (122<(bt a0 x6_1))=true:=dzT c8
        clear c8
        obtain rfl:=Option.some.inj H
        have p5:0≤(x6_1:Int):=ozD (uq)
        have q5:x6_1<(a0.size:Int):=ozD (uq)
        have hx5:=bt_at a0 x6_1
        replace p5:=ezT p5
        replace q5:=ezT q5
        have p7:0≤(x6_1:Int):=ozD (uq)
        have q7:x6_1<(a0.size:Int):=ozD (uq)
        have hx7:=bt_at a0 x6_1
        replace p7:=ezT p7
        replace q7:=ezT q7
        go_wp2
        go_ret
        exact ⟨sq,Y5⟩
       ·rw [if_neg c8] at H
        have c8b0:decide (122<(bt a0 x6_1))=false:=dzF c8
        clear c8
        have H':=am H
        clear H
        have p5:0≤(x6_1:Int):=ozD (uq)
        have q5:x6_1<(a0.size:Int):=ozD (uq)
        have hx5:=bt_at a0 x6_1
        replace p5:=ezT p5
        replace q5:=ezT q5
        have p7:0≤(x6_1:Int):=ozD (uq)
        have q7:x6_1<(a0.size:Int):=ozD (uq)
        have hx7:=bt_at a0 x6_1
        replace p7:=ezT p7
        replace q7:=ezT q7
        go_wp2
        go_roundg k1
        case measure=>have:=HK1.out;omega
        case rel=>exact ⟨(wrap64 (x6_1+1)),(sq),H',⟨by have:=HK1.out;omega⟩,Y5⟩
     ·rw [if_neg c4] at H
      exact absurd H (by simp)
    ·rw [if_neg c3] at H
     exact absurd H (by simp)
   ·rw [if_neg c2] at H
    have c2b0:decide (x6_1<(a0.size:Int))=false:=dzF c2
    clear c2
    replace H:=bzS H
    obtain ⟨t212,A90,H⟩:=H
    replace H:(some t212)=some r:=H
    have A9:=am A90
    clear A90
    obtain rfl:=Option.some.inj H
    go_wp2_with (first |((with_reducible refine jg (f:=45) rfl ?_);refine gL (some 22) Try.func45 #[.int .i64 (a0.size:Int), .int .i64 1, .int .i64 6] ?_;(with_reducible refine (jN.calls (a0.size:Int) 1 6 t212 _ A9.out).mono ?_);rintro e w' ⟨rfl,⟨nd,rfl⟩⟩;refine ⟨_,rfl,?_⟩))
    go_ret
    exact ⟨sq,Y5⟩

theorem impl_named1_calls (a b : ByteArray) (p : Int) (B : Nat) (w : World) (hB : B < w.heap.size) (hc : w.cell? ⟨B, 0, none⟩ = some (.string b)) :
  Calls Try.prog 100 #[.agg #[.string a, .int .i64 p], .pointer (some ⟨B,0,none⟩)] w fun e w'=>e=.returned (.bool (a.toList == b.toList))∧Below w.heap.size w w':=by
 have hne:B≠w.heap.size:=by omega
 go_enter Try.func100,Try.ntmps100
 go_wp2
 go_ret
 exact ⟨rfl,(Below.refl _ _).alloc (Nat.le_refl _) _⟩
set_option maxHeartbeats 8000000 in
set_option maxRecDepth 100000 in
theorem impl_named_idx (A_ : Option Addr) (c_ : Nat) (l : List (S98)) (B0_ : Nat) (p : S98 → Option Bool) (r : Int) (w : World) (hr : Kd.C k98 w A_ l.length l) (h : idxFrom p l 0 = some r)
  (hp:∀ W,Below w.heap.size w W→∀ (x:S98) (b:Bool),p x=some b→Calls Try.prog 100 #[.agg #[.string x.f0, .int .i64 x.f1], .pointer (some ⟨B0_,0,none⟩)] W fun e w'=>e=.returned (.bool b)∧Below W.heap.size W w') :
  Calls Try.prog 99 #[.slice A_ l.length c_, .func (.func 100) #[] #[.pointer (some ⟨B0_,0,none⟩)]] w fun e w'=>e=.returned (.int .i64 r)∧Below w.heap.size w w':=by
 have hm:l.length≤9223372036854775807:=Kd.C_max hr
 have HR:=am hr
 have HP:=am hp
 have H0:=am h
 clear hr hp h
 go_enter Try.func99,Try.ntmps99
 go_wp2
 go_loopw [5,8] (fun i5 i8 wr=>∃ k:Nat,k≤l.length∧i8=.int .i64 k∧jl (idxFrom p (l.drop k) k=some r)∧Below w.heap.size w wr) (fun _ i8 _=>l.length - (intOf i8).toNat)
 case atStart=>exact ⟨0,Nat.zero_le _,rfl,H0,Below.refl _ _⟩
 case round =>
  clear H0
  obtain ⟨k,hk,rfl,HA,hb⟩:=hrel
  by_cases hlt:k<l.length
  ·have HB:=am (idxFrom_step hlt HA.out)
   clear HA
   obtain ⟨ad,rfl,hx0,hx1⟩:=at_T98 HR.out (k:Int) (by omega) (by omega)
   have hrd:jY l (k:Int)=l[k]:=by simp [jY,List.getD_eq_getElem?_getD,hlt]
   replace hx0:=jta hb hx0
   replace hx1:=jta hb hx1
   rw [hrd] at hx0 hx1
   simp only [Int.toNat_natCast] at hx0 hx1
   clear hrd
   obtain ⟨b,hb1,hb0⟩:=HB.out
   have HQ:=am hb1
   clear hb1 HB
   cases b with
   | true =>
    have HZ:=am (by simpa using hb0:(k:Int)=r)
    clear hb0
    go_wp2_with (go_at_call 100;refine (HP.out _ hb _ _ HQ.out).mono ?_;rintro e w' ⟨rfl,hb2⟩)
    go_ret
    exact ⟨by rw [← HZ.out];rfl,jca hb hb.size hb2⟩
   | false =>
    have HZ:=am (by simpa using hb0:idxFrom p (l.drop (k+1)) (k+1)=some r)
    clear hb0
    go_wp2_with (go_at_call 100;refine (HP.out _ hb _ _ HQ.out).mono ?_;rintro e w' ⟨rfl,hb2⟩)
    go_roundw
    case rel=>exact ⟨k+1,hlt,by go_num,HZ,jca hb hb.size hb2⟩
    case measure=>simp [intOf];omega
  ·have HZ:=am (idxFrom_end (by omega) HA.out)
   clear HA
   go_wp2
   go_ret
   exact ⟨by rw [HZ.out];rfl,hb⟩
def jNa.f (l0_0 : List S98) (a1 : ByteArray) : Option Int := idxFrom (fun x : S98 => some (x.f0.toList == a1.toList)) l0_0 0
set_option maxHeartbeats 8000000 in
set_option maxRecDepth 100000 in
theorem jNa.calls (A0_0 : Option Addr) (c0_0 : Nat) (l0_0 : List (S98)) (a1 : ByteArray) (r : Int) (w : World) (hr0_0 : Kd.C k98 w A0_0 l0_0.length l0_0) (hc0_0 : l0_0.length ≤ c0_0) (h : jNa.f l0_0 a1 = some r) :
  Calls Try.prog 74 #[.agg #[.slice A0_0 l0_0.length c0_0], .string a1] w fun e w'=>e=.returned (.int .i64 r)∧Below w.heap.size w w':=by
 have hu32:=Try.underlying32
 have HF:=am (fun W (hb:Below w.heap.size w W) (B:Nat) (hB:B<W.heap.size) (hc:W.cell? ⟨B,0,none⟩=some (.string a1))=>impl_named_idx A0_0 c0_0 l0_0 B (fun x:S98=>some (x.f0.toList == a1.toList)) r W (Kd.jka hr0_0 hb) h (fun W' hb' x b hx=>by
  obtain rfl:=Option.some.inj hx
  exact impl_named1_calls x.f0 a1 x.f1 B W' (Nat.lt_of_lt_of_le hB hb'.size) (jta hb' hc)))
 clear h hr0_0
 go_enter Try.func74,Try.ntmps74
 go_wp2_with (go_at_call 99;refine (HF.out _ (((Below.refl _ _).alloc (Nat.le_refl _) _).alloc (by simp) _) _ (by simp) (by simp)).mono ?_;rintro e w' ⟨rfl,hb2⟩)
 go_ret
 exact ⟨rfl,(((Below.refl _ _).alloc (Nat.le_refl _) _).alloc (by simp) _).trans (hb2.mono (by simp;omega))⟩
mutual
def jD.l0 : Nat → List (S98) → Int → Int → List (S98) → Option (Bool)
 | 0,_,_,_,_=>none
 | k+1,x6,x7,x8,x214000=>if x8<x7 then (if 0≤x8 then (if x8<(x6.length:Int) then ((jGa.f k ((jY x6 x8).f0)).bind fun t217=>(if t217=true then ((jNa.f x214000 ((jY x6 x8).f0)).bind fun t218=>(if t218=x8 then (if x8=0 then (if ((jY x6 x8).f1)=(-1) then (if x8 > 0 then ((jN.f ((jY x6 x8).f1) 0 (wrap64 (x8 - 1))).bind fun t219=>(jD.j1 k x6 x7 x8 (!t219) x214000)) else (jD.j1 k x6 x7 x8 false x214000)) else (jD.j1 k x6 x7 x8 true x214000)) else (if x8 > 0 then ((jN.f ((jY x6 x8).f1) 0 (wrap64 (x8 - 1))).bind fun t220=>(jD.j1 k x6 x7 x8 (!t220) x214000)) else (jD.j1 k x6 x7 x8 false x214000))) else (jD.j1 k x6 x7 x8 true x214000))) else (jD.j1 k x6 x7 x8 true x214000))) else (none)) else (none)) else ((jN.f (x214000.length:Int) 1 8).bind fun t214=>(some t214))
def jD.j1 : Nat → List (S98) → Int → Int → Bool → List (S98) → Option (Bool)
 | 0,_,_,_,_,_=>none
 | k+1,x6,x7,x8,x45,x214000=>if x45=true then (some false) else (jD.l0 k x6 x7 (wrap64 (x8+1)) x214000)
end
def jD.f (k : Nat) (l0_0 : List (S98)) : Option (Bool) := jD.l0 k l0_0 (l0_0.length : Int) 0 l0_0
set_option maxHeartbeats 8000000 in
set_option maxRecDepth 100000 in
theorem jD.calls (k : Nat) (A0_0 : Option Addr) (c0_0 : Nat) (l0_0 : List (S98)) (r : Bool) (w : World) (hr0_0 : Kd.C k98 w A0_0 l0_0.length l0_0) (hc0_0 : l0_0.length ≤ c0_0) (h : jD.f k l0_0 = some r) :
  Calls Try.prog 43 #[.agg #[.slice A0_0 l0_0.length c0_0]] w fun e w'=>e=.returned (.bool r)∧Below w.heap.size w w':=by
 have hu32:=Try.underlying32
 have hu98:=Try.underlying98
 have HR0_0:=am hr0_0
 have HC0_0:=am hc0_0
 clear hr0_0 hc0_0
 have HB:=am (Below.refl w.heap.size w)
 have H:(jD.l0 k l0_0 (l0_0.length:Int) 0 l0_0)=some r:=h
 clear h
 have H':=am H
 clear H
 go_enter Try.func43,Try.ntmps43
 go_wp2_with (first |((with_reducible refine jQ (N:=1) rfl ?_);refine bE (N:=1) (cs:=#[.slice A0_0 l0_0.length c0_0]) (t:=32) ?_;intro gb213 hg w2 hbox hb;have BK213:=am (hbox);have GW213:=am ((Y13:w.heap.size≤gb213));have GE213:=am ((Y13:w.heap.size≤gb213));replace HB:=am (ji (bq) hb);clear hb hbox hg;have hcz3_0:=bc0 BK213.out;have hfz3_0:=ja BK213.out 0))
 go_loopg [8] k (fun kq v8 w'=>∃ (x8_1:Int),v8=.int .i64 x8_1∧jl (jD.l0 kq l0_0 (l0_0.length:Int) x8_1 l0_0=some r)∧jl (kq≤k)∧jl (w'.heap[gb213]?=some (.cells #[(.slice A0_0 l0_0.length c0_0)] 32 (0,0)))∧jl (Below w.heap.size w w'))
 case atStart=>exact ⟨(0),(sq),H',⟨Nat.le_refl _⟩,⟨kq BK213.out⟩,⟨Y81⟩⟩
 case round =>
  clear H'
  try clear p2
  try clear hcz3_0
  try clear hfz3_0
  obtain ⟨x8_1,rfl,HA,HK1,BK213,HB⟩:=hrel
  cases gk with
  | zero=>exact absurd HA.out (by simp [jD.l0])
  | succ k1 =>
   have H:=HA.out
   clear HA
   simp only [jD.l0] at H
   by_cases c4:x8_1<(l0_0.length:Int)
   ·rw [if_pos c4] at H
    have c4b0:decide (x8_1<(l0_0.length:Int))=true:=dzT c4
    clear c4
    by_cases c5:0≤x8_1
    ·rw [if_pos c5] at H
     have c5b0:decide (0≤x8_1)=true:=dzT c5
     clear c5
     by_cases c6:x8_1<(l0_0.length:Int)
     ·rw [if_pos c6] at H
      have c6b0:decide (x8_1<(l0_0.length:Int))=true:=dzT c6
      clear c6
      have HC7:=am H
      clear H
      have p215:0≤(x8_1:Int):=ozD (uq)
      have q215:x8_1<(l0_0.length:Int):=ozD (uq)
      obtain ⟨ad215,e215,hx215_0,hx215_1⟩:=at_T98 HR0_0.out x8_1 p215 q215
      cases e215
      replace hx215_0:=cb HB.out hx215_0
      replace hx215_1:=cb HB.out hx215_1
      replace p215:=ezT p215
      replace q215:=ezT q215
      go_upto_region 4 with (first |((with_reducible refine jQ (N:=4) rfl ?_);refine bE (N:=4) (cs:=#[.string (⟨#[]⟩:ByteArray), .int .i64 0]) (t:=98) ?_;intro gb216 hg w8 hbox hb;have BK216:=am (hbox);have GW216:=am ((Y90:w.heap.size≤gb216));have GE216:=am ((Y90:w.heap.size≤gb216));have NB213_216:=am ((by rw [hg];exact Nat.ne_of_lt (jtb (g:=gb213) (o:=.cells #[.slice (some ad215) l0_0.length c0_0] 32 (0,0)) (kq BK213.out)):gb213≠gb216));have NB216_213:=am ((by rw [hg];exact Nat.ne_of_gt (jtb (g:=gb213) (o:=.cells #[.slice (some ad215) l0_0.length c0_0] 32 (0,0)) (kq BK213.out)):gb216≠gb213));replace BK213:=am (jq (g:=gb213) (o:=.cells #[.slice (some ad215) l0_0.length c0_0] 32 (0,0)) (kq BK213.out) hb);replace HB:=am (ji (Y81) hb);clear hb hbox hg;have hnb9:=NB216_213.out;have hnc9:=NB213_216.out;have hcz10_0:=bc0 BK216.out;have hcz10_1:=bc1 BK216.out;have hfz10_0:=ja BK216.out 0;have hfz10_1:=ja BK216.out 1))
      (try simp only [Act.put,List.setIfInBounds_toArray,List.set_cons_zero,List.set_cons_succ])
      go_cut [45] (fun v45 wc=>∃ (kq:Nat) (x45_6:Bool),v45=.bool x45_6∧jl (jD.j1 kq l0_0 (l0_0.length:Int) x8_1 x45_6 l0_0=some r)∧jl (kq≤k1)∧jl (wc.heap[gb213]?=some (.cells #[(.slice (some ad215) l0_0.length c0_0)] 32 (0,0)))∧jl (wc.heap[gb216]?=some (.cells #[.string ((jY l0_0 x8_1).f0), .int .i64 ((jY l0_0 x8_1).f1)] 98 (0,0)))∧jl (Below w.heap.size w wc))
      case first =>
       have H:=HC7.out
       clear HC7
       replace H:=bzS H
       obtain ⟨t217,A110,H⟩:=H
       replace H:(if t217=true then ((jNa.f l0_0 ((jY l0_0 x8_1).f0)).bind fun t218=>(if t218=x8_1 then (if x8_1=0 then (if ((jY l0_0 x8_1).f1)=(-1) then (if x8_1 > 0 then ((jN.f ((jY l0_0 x8_1).f1) 0 (wrap64 (x8_1 - 1))).bind fun t219=>(jD.j1 k1 l0_0 (l0_0.length:Int) x8_1 (!t219) l0_0)) else (jD.j1 k1 l0_0 (l0_0.length:Int) x8_1 false l0_0)) else (jD.j1 k1 l0_0 (l0_0.length:Int) x8_1 true l0_0)) else (if x8_1 > 0 then ((jN.f ((jY l0_0 x8_1).f1) 0 (wrap64 (x8_1 - 1))).bind fun t220=>(jD.j1 k1 l0_0 (l0_0.length:Int) x8_1 (!t220) l0_0)) else (jD.j1 k1 l0_0 (l0_0.length:Int) x8_1 false l0_0))) else (jD.j1 k1 l0_0 (l0_0.length:Int) x8_1 true l0_0))) else (jD.j1 k1 l0_0 (l0_0.length:Int) x8_1 true l0_0))=some r:=H
       have A11:=am A110
       clear A110
       by_cases c12:t217=true
       ·subst c12
        have H1:((jNa.f l0_0 ((jY l0_0 x8_1).f0)).bind fun t218=>(if t218=x8_1 then (if x8_1=0 then (if ((jY l0_0 x8_1).f1)=(-1) then (if x8_1 > 0 then ((jN.f ((jY l0_0 x8_1).f1) 0 (wrap64 (x8_1 - 1))).bind fun t219=>(jD.j1 k1 l0_0 (l0_0.length:Int) x8_1 (!t219) l0_0)) else (jD.j1 k1 l0_0 (l0_0.length:Int) x8_1 false l0_0)) else (jD.j1 k1 l0_0 (l0_0.length:Int) x8_1 true l0_0)) else (if x8_1 > 0 then ((jN.f ((jY l0_0 x8_1).f1) 0 (wrap64 (x8_1 - 1))).bind fun t220=>(jD.j1 k1 l0_0 (l0_0.length:Int) x8_1 (!t220) l0_0)) else (jD.j1 k1 l0_0 (l0_0.length:Int) x8_1 false l0_0))) else (jD.j1 k1 l0_0 (l0_0.length:Int) x8_1 true l0_0)))=some r:=by rw [if_pos rfl] at H;exact H
        clear H
        have H:=H1
        clear H1
        replace H:=bzS H
        obtain ⟨t218,A130,H⟩:=H
        replace H:(if t218=x8_1 then (if x8_1=0 then (if ((jY l0_0 x8_1).f1)=(-1) then (if x8_1 > 0 then ((jN.f ((jY l0_0 x8_1).f1) 0 (wrap64 (x8_1 - 1))).bind fun t219=>(jD.j1 k1 l0_0 (l0_0.length:Int) x8_1 (!t219) l0_0)) else (jD.j1 k1 l0_0 (l0_0.length:Int) x8_1 false l0_0)) else (jD.j1 k1 l0_0 (l0_0.length:Int) x8_1 true l0_0)) else (if x8_1 > 0 then ((jN.f ((jY l0_0 x8_1).f1) 0 (wrap64 (x8_1 - 1))).bind fun t220=>(jD.j1 k1 l0_0 (l0_0.length:Int) x8_1 (!t220) l0_0)) else (jD.j1 k1 l0_0 (l0_0.length:Int) x8_1 false l0_0))) else (jD.j1 k1 l0_0 (l0_0.length:Int) x8_1 true l0_0))=some r:=H
        have A13:=am A130
        clear A130
        by_cases c14:t218=x8_1
        ·rw [if_pos c14] at H
         have c14b0:(t218 == x8_1)=true:=beq_iff_eq.mpr c14
         have c14b1:(t218 != x8_1)=false:=bne_eq_false_iff_eq.mpr c14
         clear c14
         (first | rw [c14b0] |(simp only [jeb,jhb];rw [c14b0]) | skip)
         by_cases c15:x8_1=0
         ·rw [if_pos c15] at H
          have c15b0:(x8_1 == 0)=true:=beq_iff_eq.mpr c15
          have c15b1:(x8_1 != 0)=false:=bne_eq_false_iff_eq.mpr c15
          clear c15
          by_cases c16:((jY l0_0 x8_1).f1)=(-1)
          ·rw [if_pos c16] at H
           have c16b0:(((jY l0_0 x8_1).f1) == (-1))=true:=beq_iff_eq.mpr c16
           have c16b1:(((jY l0_0 x8_1).f1) != (-1))=false:=bne_eq_false_iff_eq.mpr c16
           clear c16
           by_cases c17:x8_1 > 0
           ·rw [if_pos c17] at H
            have c17b0:decide (0<x8_1)=true:=dzT c17
            clear c17
            replace H:=bzS H
            obtain ⟨t219,A180,H⟩:=H
            replace H:(jD.j1 k1 l0_0 (l0_0.length:Int) x8_1 (!t219) l0_0)=some r:=H
            have A18:=am A180
            clear A180
            have H':=am H
            clear H
            have hnb19:=NB216_213.out
            have hnc19:=NB213_216.out
            have hcz20_0:=bc0 BK216.out
            have hcz20_1:=bc1 BK216.out
            have hfz20_0:=ja BK216.out 0
            have hfz20_1:=ja BK216.out 1
            go_wp2_with (first |((with_reducible refine jg (f:=73) rfl ?_);refine gL (some 15) Try.func73 #[.string ((jY l0_0 x8_1).f0)] ?_;(with_reducible refine (jGa.calls k1 ((jY l0_0 x8_1).f0) true _ A11.out).mono ?_);rintro e w' ⟨rfl,⟨nd,rfl⟩⟩;refine ⟨_,rfl,?_⟩;have hcz21_0:=bc0 BK213.out;have hfz21_0:=ja BK213.out 0) |(go_at_call 74;(with_reducible refine (jNa.calls _ _ l0_0 ((jY l0_0 x8_1).f0) t218 _ ?side1 ?side2 A13.out).mono ?_);(case side1=>exact Kd.jka HR0_0.out (Y20));(case side2=>exact HC0_0.out);rintro e w22 ⟨rfl,hb⟩;replace BK213:=am (jq (g:=gb213) (o:=.cells #[.slice (some ad215) l0_0.length c0_0] 32 (0,0)) (Y54) hb);replace BK216:=am (jq (g:=gb216) (o:=.cells #[.string ((jY l0_0 x8_1).f0), .int .i64 ((jY l0_0 x8_1).f1)] 98 (0,0)) (Y55) hb);replace HB:=am (ji (Y20) hb);(try clear hb);(try clear hb2);(try clear hk);(try clear hi);have hcz23_0:=bc0 BK216.out;have hcz23_1:=bc1 BK216.out;have hfz23_0:=ja BK216.out 0;have hfz23_1:=ja BK216.out 1) |(go_at_call 45;(with_reducible refine (jN.calls ((jY l0_0 x8_1).f1) 0 (wrap64 (x8_1 - 1)) t219 _ A18.out).mono ?_);rintro e w' ⟨rfl,⟨nd,rfl⟩⟩))
            go_meet
            case rel=>exact ⟨_,(!t219),(sq),H',⟨by have:=HK1.out;first | omega | exact Nat.le_refl _⟩,⟨kq BK213.out⟩,⟨kq BK216.out⟩,⟨Y20⟩⟩
           ·rw [if_neg c17] at H
            have c17b0:decide (0<x8_1)=false:=dzF c17
            clear c17
            have H':=am H
            clear H
            have hnb24:=NB216_213.out
            have hnc24:=NB213_216.out
            have hcz25_0:=bc0 BK216.out
            have hcz25_1:=bc1 BK216.out
            have hfz25_0:=ja BK216.out 0
            have hfz25_1:=ja BK216.out 1
            go_wp2_with (first |((with_reducible refine jg (f:=73) rfl ?_);refine gL (some 15) Try.func73 #[.string ((jY l0_0 x8_1).f0)] ?_;(with_reducible refine (jGa.calls k1 ((jY l0_0 x8_1).f0) true _ A11.out).mono ?_);rintro e w' ⟨rfl,⟨nd,rfl⟩⟩;refine ⟨_,rfl,?_⟩;have hcz26_0:=bc0 BK213.out;have hfz26_0:=ja BK213.out 0) |(go_at_call 74;(with_reducible refine (jNa.calls _ _ l0_0 ((jY l0_0 x8_1).f0) t218 _ ?side1 ?side2 A13.out).mono ?_);(case side1=>exact Kd.jka HR0_0.out (Y20));(case side2=>exact HC0_0.out);rintro e w27 ⟨rfl,hb⟩;replace BK213:=am (jq (g:=gb213) (o:=.cells #[.slice (some ad215) l0_0.length c0_0] 32 (0,0)) (Y54) hb);replace BK216:=am (jq (g:=gb216) (o:=.cells #[.string ((jY l0_0 x8_1).f0), .int .i64 ((jY l0_0 x8_1).f1)] 98 (0,0)) (Y55) hb);replace HB:=am (ji (Y20) hb);(try clear hb);(try clear hb2);(try clear hk);(try clear hi);have hcz28_0:=bc0 BK216.out;have hcz28_1:=bc1 BK216.out;have hfz28_0:=ja BK216.out 0;have hfz28_1:=ja BK216.out 1))
            go_meet
            case rel=>exact ⟨_,(false),(sq),H',⟨by have:=HK1.out;first | omega | exact Nat.le_refl _⟩,⟨kq BK213.out⟩,⟨kq BK216.out⟩,⟨Y20⟩⟩
          ·rw [if_neg c16] at H
           have c16b0:(((jY l0_0 x8_1).f1) == (-1))=false:=beq_eq_false_iff_ne.mpr c16
           have c16b1:(((jY l0_0 x8_1).f1) != (-1))=true:=bne_iff_ne.mpr c16
           have H':=am H
           clear H
           have hnb29:=NB216_213.out
           have hnc29:=NB213_216.out
           have hcz30_0:=bc0 BK216.out
           have hcz30_1:=bc1 BK216.out
           have hfz30_0:=ja BK216.out 0
           have hfz30_1:=ja BK216.out 1
           go_wp2_with (first |((with_reducible refine jg (f:=73) rfl ?_);refine gL (some 15) Try.func73 #[.string ((jY l0_0 x8_1).f0)] ?_;(with_reducible refine (jGa.calls k1 ((jY l0_0 x8_1).f0) true _ A11.out).mono ?_);rintro e w' ⟨rfl,⟨nd,rfl⟩⟩;refine ⟨_,rfl,?_⟩;have hcz31_0:=bc0 BK213.out;have hfz31_0:=ja BK213.out 0) |(go_at_call 74;(with_reducible refine (jNa.calls _ _ l0_0 ((jY l0_0 x8_1).f0) t218 _ ?side1 ?side2 A13.out).mono ?_);(case side1=>exact Kd.jka HR0_0.out (Y20));(case side2=>exact HC0_0.out);rintro e w32 ⟨rfl,hb⟩;replace BK213:=am (jq (g:=gb213) (o:=.cells #[.slice (some ad215) l0_0.length c0_0] 32 (0,0)) (Y54) hb);replace BK216:=am (jq (g:=gb216) (o:=.cells #[.string ((jY l0_0 x8_1).f0), .int .i64 ((jY l0_0 x8_1).f1)] 98 (0,0)) (Y55) hb);replace HB:=am (ji (Y20) hb);(try clear hb);(try clear hb2);(try clear hk);(try clear hi);have hcz33_0:=bc0 BK216.out;have hcz33_1:=bc1 BK216.out;have hfz33_0:=ja BK216.out 0;have hfz33_1:=ja BK216.out 1))
           go_meet
           case rel=>exact ⟨_,(true),(sq),H',⟨by have:=HK1.out;first | omega | exact Nat.le_refl _⟩,⟨kq BK213.out⟩,⟨kq BK216.out⟩,⟨Y20⟩⟩
         ·rw [if_neg c15] at H
          have c15b0:(x8_1 == 0)=false:=beq_eq_false_iff_ne.mpr c15
          have c15b1:(x8_1 != 0)=true:=bne_iff_ne.mpr c15
          by_cases c34:x8_1 > 0
          ·rw [if_pos c34] at H
           have c34b0:decide (0<x8_1)=true:=dzT c34
           clear c34
           replace H:=bzS H
           obtain ⟨t220,A350,H⟩:=H
           replace H:(jD.j1 k1 l0_0 (l0_0.length:Int) x8_1 (!t220) l0_0)=some r:=H
           have A35:=am A350
           clear A350
           have H':=am H
           clear H
           have hnb36:=NB216_213.out
           have hnc36:=NB213_216.out
           have hcz37_0:=bc0 BK216.out
           have hcz37_1:=bc1 BK216.out
           have hfz37_0:=ja BK216.out 0
           have hfz37_1:=ja BK216.out 1
           go_wp2_with (first |((with_reducible refine jg (f:=73) rfl ?_);refine gL (some 15) Try.func73 #[.string ((jY l0_0 x8_1).f0)] ?_;(with_reducible refine (jGa.calls k1 ((jY l0_0 x8_1).f0) true _ A11.out).mono ?_);rintro e w' ⟨rfl,⟨nd,rfl⟩⟩;refine ⟨_,rfl,?_⟩;have hcz38_0:=bc0 BK213.out;have hfz38_0:=ja BK213.out 0) |(go_at_call 74;(with_reducible refine (jNa.calls _ _ l0_0 ((jY l0_0 x8_1).f0) t218 _ ?side1 ?side2 A13.out).mono ?_);(case side1=>exact Kd.jka HR0_0.out (Y20));(case side2=>exact HC0_0.out);rintro e w39 ⟨rfl,hb⟩;replace BK213:=am (jq (g:=gb213) (o:=.cells #[.slice (some ad215) l0_0.length c0_0] 32 (0,0)) (Y54) hb);replace BK216:=am (jq (g:=gb216) (o:=.cells #[.string ((jY l0_0 x8_1).f0), .int .i64 ((jY l0_0 x8_1).f1)] 98 (0,0)) (Y55) hb);replace HB:=am (ji (Y20) hb);(try clear hb);(try clear hb2);(try clear hk);(try clear hi);have hcz40_0:=bc0 BK216.out;have hcz40_1:=bc1 BK216.out;have hfz40_0:=ja BK216.out 0;have hfz40_1:=ja BK216.out 1) |(go_at_call 45;(with_reducible refine (jN.calls ((jY l0_0 x8_1).f1) 0 (wrap64 (x8_1 - 1)) t220 _ A35.out).mono ?_);rintro e w' ⟨rfl,⟨nd,rfl⟩⟩))
           go_meet
           case rel=>exact ⟨_,(!t220),(sq),H',⟨by have:=HK1.out;first | omega | exact Nat.le_refl _⟩,⟨kq BK213.out⟩,⟨kq BK216.out⟩,⟨Y20⟩⟩
          ·rw [if_neg c34] at H
           have c34b0:decide (0<x8_1)=false:=dzF c34
           clear c34
           have H':=am H
           clear H
           have hnb41:=NB216_213.out
           have hnc41:=NB213_216.out
           have hcz42_0:=bc0 BK216.out
           have hcz42_1:=bc1 BK216.out
           have hfz42_0:=ja BK216.out 0
           have hfz42_1:=ja BK216.out 1
           go_wp2_with (first |((with_reducible refine jg (f:=73) rfl ?_);refine gL (some 15) Try.func73 #[.string ((jY l0_0 x8_1).f0)] ?_;(with_reducible refine (jGa.calls k1 ((jY l0_0 x8_1).f0) true _ A11.out).mono ?_);rintro e w' ⟨rfl,⟨nd,rfl⟩⟩;refine ⟨_,rfl,?_⟩;have hcz43_0:=bc0 BK213.out;have hfz43_0:=ja BK213.out 0) |(go_at_call 74;(with_reducible refine (jNa.calls _ _ l0_0 ((jY l0_0 x8_1).f0) t218 _ ?side1 ?side2 A13.out).mono ?_);(case side1=>exact Kd.jka HR0_0.out (Y20));(case side2=>exact HC0_0.out);rintro e w44 ⟨rfl,hb⟩;replace BK213:=am (jq (g:=gb213) (o:=.cells #[.slice (some ad215) l0_0.length c0_0] 32 (0,0)) (Y54) hb);replace BK216:=am (jq (g:=gb216) (o:=.cells #[.string ((jY l0_0 x8_1).f0), .int .i64 ((jY l0_0 x8_1).f1)] 98 (0,0)) (Y55) hb);replace HB:=am (ji (Y20) hb);(try clear hb);(try clear hb2);(try clear hk);(try clear hi)))
           go_meet
           case rel=>exact ⟨_,(false),(sq),H',⟨by have:=HK1.out;first | omega | exact Nat.le_refl _⟩,⟨kq BK213.out⟩,⟨kq BK216.out⟩,⟨Y20⟩⟩
        ·rw [if_neg c14] at H
         have c14b0:(t218 == x8_1)=false:=beq_eq_false_iff_ne.mpr c14
         have c14b1:(t218 != x8_1)=true:=bne_iff_ne.mpr c14
         (first | rw [c14b0] |(simp only [jeb,jhb];rw [c14b0]) | skip)
         have H':=am H
         clear H
         have hnb45:=NB216_213.out
         have hnc45:=NB213_216.out
         have hcz46_0:=bc0 BK216.out
         have hcz46_1:=bc1 BK216.out
         have hfz46_0:=ja BK216.out 0
         have hfz46_1:=ja BK216.out 1
         go_wp2_with (first |((with_reducible refine jg (f:=73) rfl ?_);refine gL (some 15) Try.func73 #[.string ((jY l0_0 x8_1).f0)] ?_;(with_reducible refine (jGa.calls k1 ((jY l0_0 x8_1).f0) true _ A11.out).mono ?_);rintro e w' ⟨rfl,⟨nd,rfl⟩⟩;refine ⟨_,rfl,?_⟩;have hcz47_0:=bc0 BK213.out;have hfz47_0:=ja BK213.out 0) |(go_at_call 74;(with_reducible refine (jNa.calls _ _ l0_0 ((jY l0_0 x8_1).f0) t218 _ ?side1 ?side2 A13.out).mono ?_);(case side1=>exact Kd.jka HR0_0.out (Y20));(case side2=>exact HC0_0.out);rintro e w48 ⟨rfl,hb⟩;replace BK213:=am (jq (g:=gb213) (o:=.cells #[.slice (some ad215) l0_0.length c0_0] 32 (0,0)) (Y54) hb);replace BK216:=am (jq (g:=gb216) (o:=.cells #[.string ((jY l0_0 x8_1).f0), .int .i64 ((jY l0_0 x8_1).f1)] 98 (0,0)) (Y55) hb);replace HB:=am (ji (Y20) hb);(try clear hb);(try clear hb2);(try clear hk);(try clear hi)))
         go_meet
         case rel=>exact ⟨_,(true),(sq),H',⟨by have:=HK1.out;first | omega | exact Nat.le_refl _⟩,⟨kq BK213.out⟩,⟨kq BK216.out⟩,⟨Y20⟩⟩
       ·replace c12:=Bool.eq_false_iff.mpr c12
        subst c12
        have H1:(jD.j1 k1 l0_0 (l0_0.length:Int) x8_1 true l0_0)=some r:=by rw [if_neg (show ¬ (false=true) by decide)] at H;exact H
        clear H
        have H:=H1
        clear H1
        have H':=am H
        clear H
        have hnb49:=NB216_213.out
        have hnc49:=NB213_216.out
        have hcz50_0:=bc0 BK216.out
        have hcz50_1:=bc1 BK216.out
        have hfz50_0:=ja BK216.out 0
        have hfz50_1:=ja BK216.out 1
        go_wp2_with (first |((with_reducible refine jg (f:=73) rfl ?_);refine gL (some 15) Try.func73 #[.string ((jY l0_0 x8_1).f0)] ?_;(with_reducible refine (jGa.calls k1 ((jY l0_0 x8_1).f0) false _ A11.out).mono ?_);rintro e w' ⟨rfl,⟨nd,rfl⟩⟩;refine ⟨_,rfl,?_⟩))
        go_meet
        case rel=>exact ⟨_,(true),(sq),H',⟨by have:=HK1.out;first | omega | exact Nat.le_refl _⟩,⟨by (with_reducible repeat (first | refine jw ?_ _ | refine jE ?_ | refine jB ?_ _));refine jcb ?_ NB213_216.out _;(with_reducible repeat (first | refine jw ?_ _ | refine jE ?_ | refine jB ?_ _));refine jcb ?_ NB213_216.out _;(with_reducible repeat (first | refine jw ?_ _ | refine jE ?_ | refine jB ?_ _));exact BK213.out⟩,⟨by (with_reducible repeat (first | refine jw ?_ _ | refine jE ?_ | refine jB ?_ _));refine jQa (cs:=#[.string ((jY l0_0 x8_1).f0), .int .i64 0]) ?_ 1 _ rfl;(with_reducible repeat (first | refine jw ?_ _ | refine jE ?_ | refine jB ?_ _));refine jQa (cs:=#[.string (⟨#[]⟩:ByteArray), .int .i64 0]) ?_ 0 _ rfl;(with_reducible repeat (first | refine jw ?_ _ | refine jE ?_ | refine jB ?_ _));exact BK216.out⟩,⟨Y20⟩⟩
      case rest =>
       clear HC7
       try clear c1
       try clear c2
       try clear p2
       try clear q2
       try clear hx2
       try clear c3
       try clear c4
       try clear c4b0
       try clear c5
       try clear c5b0
       try clear c6
       try clear c6b0
       try clear p6
       try clear c7
       try clear c9
       try clear c12
       try clear c14
       try clear c14b0
       try clear c14b1
       try clear c15
       try clear c15b0
       try clear c15b1
       try clear c16
       try clear c16b0
       try clear c16b1
       try clear c17
       try clear c17b0
       try clear c19
       try clear p21
       try clear q21
       try clear hx21
       try clear c24
       try clear c29
       try clear c34
       try clear c34b0
       try clear c36
       try clear c41
       try clear c43
       try clear c45
       try clear c49
       try clear hcz10_0
       try clear hcz10_1
       try clear hcz20_0
       try clear hcz20_1
       try clear hcz21_0
       try clear hcz23_0
       try clear hcz23_1
       try clear hcz25_0
       try clear hcz25_1
       try clear hcz26_0
       try clear hcz28_0
       try clear hcz28_1
       try clear hcz30_0
       try clear hcz30_1
       try clear hcz31_0
       try clear hcz33_0
       try clear hcz33_1
       try clear hcz37_0
       try clear hcz37_1
       try clear hcz38_0
       try clear hcz3_0
       try clear hcz40_0
       try clear hcz40_1
       try clear hcz42_0
       try clear hcz42_1
       try clear hcz43_0
       try clear hcz46_0
       try clear hcz46_1
       try clear hcz47_0
       try clear hcz50_0
       try clear hcz50_1
       try clear hfz10_0
       try clear hfz10_1
       try clear hfz20_0
       try clear hfz20_1
       try clear hfz21_0
       try clear hfz23_0
       try clear hfz23_1
       try clear hfz25_0
       try clear hfz25_1
       try clear hfz26_0
       try clear hfz28_0
       try clear hfz28_1
       try clear hfz30_0
       try clear hfz30_1
       try clear hfz31_0
       try clear hfz33_0
       try clear hfz33_1
       try clear hfz37_0
       try clear hfz37_1
       try clear hfz38_0
       try clear hfz3_0
       try clear hfz40_0
       try clear hfz40_1
       try clear hfz42_0
       try clear hfz42_1
       try clear hfz43_0
       try clear hfz46_0
       try clear hfz46_1
       try clear hfz47_0
       try clear hfz50_0
       try clear hfz50_1
       try clear hx215_0
       try clear hx215_1
       try clear p2
       try clear p215
       try clear q215
       obtain ⟨kq,x45_6,rfl,HA,HJ6,BK213,BK216,HB⟩:=hcut
       cases kq with
       | zero=>exact absurd HA.out (by simp [jD.j1])
       | succ kj6 =>
        have H:=HA.out
        clear HA
        simp only [jD.j1] at H
        by_cases c51:x45_6=true
        ·subst c51
         have H1:(some false)=some r:=by rw [if_pos rfl] at H;exact H
         clear H
         have H:=H1
         clear H1
         obtain rfl:=Option.some.inj H
         go_wp2
         go_ret
         exact ⟨Y0,Y20⟩
        ·replace c51:=Bool.eq_false_iff.mpr c51
         subst c51
         have H1:(jD.l0 kj6 l0_0 (l0_0.length:Int) (wrap64 (x8_1+1)) l0_0)=some r:=by rw [if_neg (show ¬ (false=true) by decide)] at H;exact H
         clear H
         have H:=H1
         clear H1
         have H':=am H
         clear H
         go_wp2
         go_roundg kj6
         case measure=>have:=HK1.out;have:=HJ6.out;omega
         case rel=>exact ⟨(wrap64 (x8_1+1)),(sq),H',⟨by have:=HK1.out;have:=HJ6.out;omega⟩,⟨kq BK213.out⟩,⟨Y20⟩⟩
     ·rw [if_neg c6] at H
      exact absurd H (by simp)
    ·rw [if_neg c5] at H
     exact absurd H (by simp)
   ·rw [if_neg c4] at H
    have c4b0:decide (x8_1<(l0_0.length:Int))=false:=dzF c4
    clear c4
    replace H:=bzS H
    obtain ⟨t214,A520,H⟩:=H
    replace H:(some t214)=some r:=H
    have A52:=am A520
    clear A520
    obtain rfl:=Option.some.inj H
    have hcz53_0:=bc0 BK213.out
    have hfz53_0:=ja BK213.out 0
    go_wp2_with (first |((with_reducible refine jg (f:=45) rfl ?_);refine gL (some 50) Try.func45 #[.int .i64 (l0_0.length:Int), .int .i64 1, .int .i64 8] ?_;(with_reducible refine (jN.calls (l0_0.length:Int) 1 8 t214 _ A52.out).mono ?_);rintro e w' ⟨rfl,⟨nd,rfl⟩⟩;refine ⟨_,rfl,?_⟩))
    go_ret
    exact ⟨Y0,Y81⟩
def jbb.f (l0_0 : List (S98)) (a1 : Int) : Option (Bool) := (jN.f a1 0 (wrap64 ((l0_0.length : Int) - 1))).bind fun t222 => (some t222)
set_option maxHeartbeats 8000000 in
set_option maxRecDepth 100000 in
theorem jbb.calls (A0_0 : Option Addr) (c0_0 : Nat) (l0_0 : List (S98)) (a1 : Int) (r : Bool) (w : World) (hr0_0 : Kd.C k98 w A0_0 l0_0.length l0_0) (hc0_0 : l0_0.length ≤ c0_0) (h : jbb.f l0_0 a1 = some r) :
  Calls Try.prog 50 #[.agg #[.slice A0_0 l0_0.length c0_0], .int .i64 a1] w fun e w'=>e=.returned (.bool r)∧Below w.heap.size w w':=by
 have hu32:=Try.underlying32
 have HR0_0:=am hr0_0
 have HC0_0:=am hc0_0
 clear hr0_0 hc0_0
 have HB:=am (Below.refl w.heap.size w)
 have H:((jN.f a1 0 (wrap64 ((l0_0.length:Int) - 1))).bind fun t222=>(some t222))=some r:=h
 clear h
 replace H:=bzS H
 obtain ⟨t222,A30,H⟩:=H
 replace H:(some t222)=some r:=H
 have A3:=am A30
 clear A30
 obtain rfl:=Option.some.inj H
 go_enter Try.func50,Try.ntmps50
 go_wp2_with (first |((with_reducible refine jQ (N:=2) rfl ?_);refine bE (N:=2) (cs:=#[.slice A0_0 l0_0.length c0_0]) (t:=32) ?_;intro gb221 hg w4 hbox hb;have BK221:=am (hbox);have GW221:=am ((Y13:w.heap.size≤gb221));have GE221:=am ((Y13:w.heap.size≤gb221));replace HB:=am (ji (bq) hb);clear hb hbox hg;have hcz5_0:=bc0 BK221.out;have hfz5_0:=ja BK221.out 0) |((with_reducible refine jg (f:=45) rfl ?_);refine gL (some 10) Try.func45 #[.int .i64 a1, .int .i64 0, .int .i64 (wrap64 ((l0_0.length:Int) - 1))] ?_;(with_reducible refine (jN.calls a1 0 (wrap64 ((l0_0.length:Int) - 1)) t222 _ A3.out).mono ?_);rintro e w' ⟨rfl,⟨nd,rfl⟩⟩;refine ⟨_,rfl,?_⟩))
 go_ret
 exact ⟨Y0,by repeat (first |(with_reducible first | exact HB.out | apply jU | apply jv | apply jW | refine jS ?_ GE221.out) | exact HB.out)⟩
def jjb.f (a0 : Int) : Option (Bool) := (jN.f a0 0 99).bind fun t223 => (some t223)
set_option maxHeartbeats 8000000 in
set_option maxRecDepth 100000 in
theorem jjb.calls (a0 : Int) (r : Bool) (w : World) (h : jjb.f a0 = some r) :
  Calls Try.prog 75 #[.int .i64 a0] w fun e w'=>e=.returned (.bool r)∧jdb w w':=by
 have H:((jN.f a0 0 99).bind fun t223=>(some t223))=some r:=h
 clear h
 replace H:=bzS H
 obtain ⟨t223,A20,H⟩:=H
 replace H:(some t223)=some r:=H
 have A2:=am A20
 clear A20
 obtain rfl:=Option.some.inj H
 go_enter Try.func75,Try.ntmps75
 go_wp2_with (first |((with_reducible refine jg (f:=45) rfl ?_);refine gL (some 4) Try.func45 #[.int .i64 a0, .int .i64 0, .int .i64 99] ?_;(with_reducible refine (jN.calls a0 0 99 t223 _ A2.out).mono ?_);rintro e w' ⟨rfl,⟨nd,rfl⟩⟩;refine ⟨_,rfl,?_⟩))
 go_ret
 exact ⟨sq,Y5⟩
def jwa.j0 : Nat → Int → Bool → Int → Int → Int → Int → List (S98) → Option (Bool)
 | 0,_,_,_,_,_,_,_=>none
 | k+1,x6,x7,x225000,x225001,x225002,x225003,x226000=>if x7=true then ((jjb.f x225002).bind fun t226=>(if t226=true then (some (x225003 == 0)) else (some false))) else (if x6=2 then ((jbb.f x226000 x225002).bind fun t227=>(if t227=true then ((jjb.f x225003).bind fun t228=>(some t228)) else (some false))) else (if x6=8 then ((jbb.f x226000 x225002).bind fun t229=>(if t229=true then (some (x225003 == 0)) else (some false))) else (if x6=11 then ((jN.f x225002 0 9).bind fun t230=>(if t230=true then ((jN.f x225003 0 1).bind fun t231=>(some t231)) else (some false))) else (if x6=12 then ((jN.f x225002 0 3).bind fun t232=>(if t232=true then (some (x225003 == 0)) else (some false))) else ((jN.f x225001 0 12).bind fun t233=>(if t233=true then (if x225002=0 then (some (x225003 == 0)) else (some false)) else (some false)))))))
def jwa.f (k : Nat) (a0_0 : Int) (a0_1 : Int) (a0_2 : Int) (a0_3 : Int) (l1_0 : List (S98)) : Option (Bool) := if a0_1 = 1 then (jwa.j0 k a0_1 (a0_1 == 1) a0_0 a0_1 a0_2 a0_3 l1_0) else (jwa.j0 k a0_1 (a0_1 == 4) a0_0 a0_1 a0_2 a0_3 l1_0)
set_option maxHeartbeats 8000000 in
set_option maxRecDepth 100000 in
theorem jwa.calls (k : Nat) (a0_0 : Int) (a0_1 : Int) (a0_2 : Int) (a0_3 : Int) (A1_0 : Option Addr) (c1_0 : Nat) (l1_0 : List (S98)) (r : Bool) (w : World) (hr1_0 : Kd.C k98 w A1_0 l1_0.length l1_0) (hc1_0 : l1_0.length ≤ c1_0) (h : jwa.f k a0_0 a0_1 a0_2 a0_3 l1_0 = some r) :
  Calls Try.prog 44 #[.agg #[.int .i64 a0_0, .int .i64 a0_1, .int .i64 a0_2, .int .i64 a0_3], .agg #[.slice A1_0 l1_0.length c1_0]] w fun e w'=>e=.returned (.bool r)∧Below w.heap.size w w':=by
 have hu59:=Try.underlying59
 have hu32:=Try.underlying32
 have HR1_0:=am hr1_0
 have HC1_0:=am hc1_0
 clear hr1_0 hc1_0
 have HB:=am (Below.refl w.heap.size w)
 have H:(if a0_1=1 then (jwa.j0 k a0_1 (a0_1 == 1) a0_0 a0_1 a0_2 a0_3 l1_0) else (jwa.j0 k a0_1 (a0_1 == 4) a0_0 a0_1 a0_2 a0_3 l1_0))=some r:=h
 clear h
 have HC3:=am H
 clear H
 go_enter Try.func44,Try.ntmps44
 go_upto_if 7 with (first |((with_reducible refine jQ (N:=2) rfl ?_);refine bE (N:=2) (cs:=#[.int .i64 a0_0, .int .i64 a0_1, .int .i64 a0_2, .int .i64 a0_3]) (t:=59) ?_;intro gb224 hg w4 hbox hb;have BK224:=am (hbox);have GW224:=am ((Y13:w.heap.size≤gb224));have GE224:=am ((Y13:w.heap.size≤gb224));replace HB:=am (ji (bq) hb);clear hb hbox hg) |((with_reducible refine jQ (N:=3) rfl ?_);refine bE (N:=3) (cs:=#[.slice A1_0 l1_0.length c1_0]) (t:=32) ?_;intro gb225 hg w5 hbox hb;have BK225:=am (hbox);have GW225:=am ((Y91:w.heap.size≤gb225));have GE225:=am ((Y91:w.heap.size≤gb225));have NB224_225:=am ((by rw [hg];exact Nat.ne_of_lt (jtb (g:=gb224) (o:=.cells #[.int .i64 a0_0, .int .i64 a0_1, .int .i64 a0_2, .int .i64 a0_3] 59 (0,0)) (kq BK224.out)):gb224≠gb225));have NB225_224:=am ((by rw [hg];exact Nat.ne_of_gt (jtb (g:=gb224) (o:=.cells #[.int .i64 a0_0, .int .i64 a0_1, .int .i64 a0_2, .int .i64 a0_3] 59 (0,0)) (kq BK224.out)):gb225≠gb224));replace BK224:=am (jq (g:=gb224) (o:=.cells #[.int .i64 a0_0, .int .i64 a0_1, .int .i64 a0_2, .int .i64 a0_3] 59 (0,0)) (kq BK224.out) hb);replace HB:=am (ji (by repeat (first |(with_reducible first | exact HB.out | apply jU | apply jv | apply jW | refine jS ?_ GE224.out) | exact HB.out)) hb);clear hb hbox hg;have hnb6:=NB224_225.out;have hnc6:=NB225_224.out;have hcz7_0:=bc0 BK224.out;have hcz7_1:=bc1 BK224.out;have hcz7_2:=bc2 BK224.out;have hcz7_3:=bc3 BK224.out;have hfz7_0:=ja BK224.out 0;have hfz7_1:=ja BK224.out 1;have hfz7_2:=ja BK224.out 2;have hfz7_3:=ja BK224.out 3))
 (try simp only [Act.put,List.setIfInBounds_toArray,List.set_cons_zero,List.set_cons_succ])
 go_cut [7] (fun v7 wc=>∃ (kq:Nat) (x7_2:Bool),v7=.bool x7_2∧jl (jwa.j0 kq a0_1 x7_2 a0_0 a0_1 a0_2 a0_3 l1_0=some r)∧jl (kq≤k)∧jl (wc.heap[gb224]?=some (.cells #[.int .i64 a0_0, .int .i64 a0_1, .int .i64 a0_2, .int .i64 a0_3] 59 (0,0)))∧jl (wc.heap[gb225]?=some (.cells #[(.slice A1_0 l1_0.length c1_0)] 32 (0,0)))∧jl (Below w.heap.size w wc))
 case first =>
  have H:=HC3.out
  clear HC3
  by_cases c8:a0_1=1
  ·rw [if_pos c8] at H
   have c8b0:(a0_1 == 1)=true:=beq_iff_eq.mpr c8
   have c8b1:(a0_1 != 1)=false:=bne_eq_false_iff_eq.mpr c8
   clear c8
   (first | rw [c8b0] |(simp only [jeb,jhb];rw [c8b0]) | skip)
   have H':=am H
   clear H
   go_wp2
   go_meet
   case rel=>exact ⟨_,((a0_1 == 1)),(sq),H',⟨Y41⟩,⟨kq BK224.out⟩,⟨kq BK225.out⟩,⟨Y22⟩⟩
  ·rw [if_neg c8] at H
   have c8b0:(a0_1 == 1)=false:=beq_eq_false_iff_ne.mpr c8
   have c8b1:(a0_1 != 1)=true:=bne_iff_ne.mpr c8
   (first | rw [c8b0] |(simp only [jeb,jhb];rw [c8b0]) | skip)
   have H':=am H
   clear H
   go_wp2
   go_meet
   case rel=>exact ⟨_,((a0_1 == 4)),(sq),H',⟨Y41⟩,⟨kq BK224.out⟩,⟨kq BK225.out⟩,⟨Y22⟩⟩
 case rest =>
  clear HC3
  try clear c1
  try clear p2
  try clear c4
  try clear c6
  try clear c8
  try clear c8b0
  try clear c8b1
  try clear hcz7_0
  try clear hcz7_1
  try clear hcz7_2
  try clear hcz7_3
  try clear hfz7_0
  try clear hfz7_1
  try clear hfz7_2
  try clear hfz7_3
  obtain ⟨kq,x7_2,rfl,HA,HJ2,BK224,BK225,HB⟩:=hcut
  cases kq with
  | zero=>exact absurd HA.out (by simp [jwa.j0])
  | succ kj2 =>
   have H:=HA.out
   clear HA
   simp only [jwa.j0] at H
   by_cases c9:x7_2=true
   ·subst c9
    have H1:((jjb.f a0_2).bind fun t226=>(if t226=true then (some (a0_3 == 0)) else (some false)))=some r:=by rw [if_pos rfl] at H;exact H
    clear H
    have H:=H1
    clear H1
    replace H:=bzS H
    obtain ⟨t226,A100,H⟩:=H
    replace H:(if t226=true then (some (a0_3 == 0)) else (some false))=some r:=H
    have A10:=am A100
    clear A100
    by_cases c11:t226=true
    ·subst c11
     have H1:(some (a0_3 == 0))=some r:=by rw [if_pos rfl] at H;exact H
     clear H
     have H:=H1
     clear H1
     obtain rfl:=Option.some.inj H
     have hnb12:=NB224_225.out
     have hnc12:=NB225_224.out
     have hcz13_0:=bc0 BK224.out
     have hcz13_1:=bc1 BK224.out
     have hcz13_2:=bc2 BK224.out
     have hcz13_3:=bc3 BK224.out
     have hfz13_0:=ja BK224.out 0
     have hfz13_1:=ja BK224.out 1
     have hfz13_2:=ja BK224.out 2
     have hfz13_3:=ja BK224.out 3
     go_wp2_with (first |((with_reducible refine jg (f:=75) rfl ?_);refine gL (some 12) Try.func75 #[.int .i64 a0_2] ?_;(with_reducible refine (jjb.calls a0_2 true _ A10.out).mono ?_);rintro e w' ⟨rfl,⟨nd,rfl⟩⟩;refine ⟨_,rfl,?_⟩))
     go_ret
     exact ⟨Y0,Y22⟩
    ·replace c11:=Bool.eq_false_iff.mpr c11
     subst c11
     have H1:(some false)=some r:=by rw [if_neg (show ¬ (false=true) by decide)] at H;exact H
     clear H
     have H:=H1
     clear H1
     obtain rfl:=Option.some.inj H
     have hnb14:=NB224_225.out
     have hnc14:=NB225_224.out
     have hcz15_0:=bc0 BK224.out
     have hcz15_1:=bc1 BK224.out
     have hcz15_2:=bc2 BK224.out
     have hcz15_3:=bc3 BK224.out
     have hfz15_0:=ja BK224.out 0
     have hfz15_1:=ja BK224.out 1
     have hfz15_2:=ja BK224.out 2
     have hfz15_3:=ja BK224.out 3
     go_wp2_with (first |((with_reducible refine jg (f:=75) rfl ?_);refine gL (some 12) Try.func75 #[.int .i64 a0_2] ?_;(with_reducible refine (jjb.calls a0_2 false _ A10.out).mono ?_);rintro e w' ⟨rfl,⟨nd,rfl⟩⟩;refine ⟨_,rfl,?_⟩))
     go_ret
     exact ⟨Y0,Y22⟩
   ·replace c9:=Bool.eq_false_iff.mpr c9
    subst c9
    have H1:(if a0_1=2 then ((jbb.f l1_0 a0_2).bind fun t227=>(if t227=true then ((jjb.f a0_3).bind fun t228=>(some t228)) else (some false))) else (if a0_1=8 then ((jbb.f l1_0 a0_2).bind fun t229=>(if t229=true then (some (a0_3 == 0)) else (some false))) else (if a0_1=11 then ((jN.f a0_2 0 9).bind fun t230=>(if t230=true then ((jN.f a0_3 0 1).bind fun t231=>(some t231)) else (some false))) else (if a0_1=12 then ((jN.f a0_2 0 3).bind fun t232=>(if t232=true then (some (a0_3 == 0)) else (some false))) else ((jN.f a0_1 0 12).bind fun t233=>(if t233=true then (if a0_2=0 then (some (a0_3 == 0)) else (some false)) else (some false)))))))=some r:=by rw [if_neg (show ¬ (false=true) by decide)] at H;exact H
    clear H
    have H:=H1
    clear H1
    by_cases c16:a0_1=2
    ·rw [if_pos c16] at H
     have c16b0:(a0_1 == 2)=true:=beq_iff_eq.mpr c16
     have c16b1:(a0_1 != 2)=false:=bne_eq_false_iff_eq.mpr c16
     clear c16
     replace H:=bzS H
     obtain ⟨t227,A170,H⟩:=H
     replace H:(if t227=true then ((jjb.f a0_3).bind fun t228=>(some t228)) else (some false))=some r:=H
     have A17:=am A170
     clear A170
     by_cases c18:t227=true
     ·subst c18
      have H1:((jjb.f a0_3).bind fun t228=>(some t228))=some r:=by rw [if_pos rfl] at H;exact H
      clear H
      have H:=H1
      clear H1
      replace H:=bzS H
      obtain ⟨t228,A190,H⟩:=H
      replace H:(some t228)=some r:=H
      have A19:=am A190
      clear A190
      obtain rfl:=Option.some.inj H
      have hnb20:=NB225_224.out
      have hnc20:=NB224_225.out
      have hcz21_0:=bc0 BK225.out
      have hfz21_0:=ja BK225.out 0
      have hcz22_0:=bc0 BK224.out
      have hcz22_1:=bc1 BK224.out
      have hcz22_2:=bc2 BK224.out
      have hcz22_3:=bc3 BK224.out
      have hfz22_0:=ja BK224.out 0
      have hfz22_1:=ja BK224.out 1
      have hfz22_2:=ja BK224.out 2
      have hfz22_3:=ja BK224.out 3
      go_wp2_with (first |((with_reducible refine jg (f:=50) rfl ?_);refine gL (some 23) Try.func50 #[.agg #[.slice A1_0 l1_0.length c1_0], .int .i64 a0_2] ?_;(with_reducible refine (jbb.calls _ _ l1_0 a0_2 true _ ?side1 ?side2 A17.out).mono ?_);(case side1=>exact cq (Kd.jka HR1_0.out HB.out));(case side2=>exact HC1_0.out);rintro e w23 ⟨rfl,hb⟩;refine ⟨_,rfl,?_⟩;replace BK224:=am (jq (g:=gb224) (o:=.cells #[.int .i64 a0_0, .int .i64 a0_1, .int .i64 a0_2, .int .i64 a0_3] 59 (0,0)) (kq BK224.out) hb);replace BK225:=am (jq (g:=gb225) (o:=.cells #[.slice A1_0 l1_0.length c1_0] 32 (0,0)) (kq BK225.out) hb);replace HB:=am (ji (Y22) hb);(try clear hb);(try clear hb2);(try clear hk);(try clear hi);have hcz24_0:=bc0 BK224.out;have hcz24_1:=bc1 BK224.out;have hcz24_2:=bc2 BK224.out;have hcz24_3:=bc3 BK224.out;have hfz24_0:=ja BK224.out 0;have hfz24_1:=ja BK224.out 1;have hfz24_2:=ja BK224.out 2;have hfz24_3:=ja BK224.out 3) |(go_at_call 75;(with_reducible refine (jjb.calls a0_3 t228 _ A19.out).mono ?_);rintro e w' ⟨rfl,⟨nd,rfl⟩⟩))
      go_ret
      exact ⟨Y0,Y22⟩
     ·replace c18:=Bool.eq_false_iff.mpr c18
      subst c18
      have H1:(some false)=some r:=by rw [if_neg (show ¬ (false=true) by decide)] at H;exact H
      clear H
      have H:=H1
      clear H1
      obtain rfl:=Option.some.inj H
      have hnb25:=NB225_224.out
      have hnc25:=NB224_225.out
      have hcz26_0:=bc0 BK225.out
      have hfz26_0:=ja BK225.out 0
      have hcz27_0:=bc0 BK224.out
      have hcz27_1:=bc1 BK224.out
      have hcz27_2:=bc2 BK224.out
      have hcz27_3:=bc3 BK224.out
      have hfz27_0:=ja BK224.out 0
      have hfz27_1:=ja BK224.out 1
      have hfz27_2:=ja BK224.out 2
      have hfz27_3:=ja BK224.out 3
      go_wp2_with (first |((with_reducible refine jg (f:=50) rfl ?_);refine gL (some 23) Try.func50 #[.agg #[.slice A1_0 l1_0.length c1_0], .int .i64 a0_2] ?_;(with_reducible refine (jbb.calls _ _ l1_0 a0_2 false _ ?side1 ?side2 A17.out).mono ?_);(case side1=>exact cq (Kd.jka HR1_0.out HB.out));(case side2=>exact HC1_0.out);rintro e w28 ⟨rfl,hb⟩;refine ⟨_,rfl,?_⟩;replace BK224:=am (jq (g:=gb224) (o:=.cells #[.int .i64 a0_0, .int .i64 a0_1, .int .i64 a0_2, .int .i64 a0_3] 59 (0,0)) (kq BK224.out) hb);replace BK225:=am (jq (g:=gb225) (o:=.cells #[.slice A1_0 l1_0.length c1_0] 32 (0,0)) (kq BK225.out) hb);replace HB:=am (ji (Y22) hb);(try clear hb);(try clear hb2);(try clear hk);(try clear hi)))
      go_ret
      exact ⟨Y0,Y22⟩
    ·rw [if_neg c16] at H
     have c16b0:(a0_1 == 2)=false:=beq_eq_false_iff_ne.mpr c16
     have c16b1:(a0_1 != 2)=true:=bne_iff_ne.mpr c16
     by_cases c29:a0_1=8
     ·rw [if_pos c29] at H
      have c29b0:(a0_1 == 8)=true:=beq_iff_eq.mpr c29
      have c29b1:(a0_1 != 8)=false:=bne_eq_false_iff_eq.mpr c29
      clear c29
      replace H:=bzS H
      obtain ⟨t229,A300,H⟩:=H
      replace H:(if t229=true then (some (a0_3 == 0)) else (some false))=some r:=H
      have A30:=am A300
      clear A300
      by_cases c31:t229=true
      ·subst c31
       have H1:(some (a0_3 == 0))=some r:=by rw [if_pos rfl] at H;exact H
       clear H
       have H:=H1
       clear H1
       obtain rfl:=Option.some.inj H
       have hnb32:=NB225_224.out
       have hnc32:=NB224_225.out
       have hcz33_0:=bc0 BK225.out
       have hfz33_0:=ja BK225.out 0
       have hcz34_0:=bc0 BK224.out
       have hcz34_1:=bc1 BK224.out
       have hcz34_2:=bc2 BK224.out
       have hcz34_3:=bc3 BK224.out
       have hfz34_0:=ja BK224.out 0
       have hfz34_1:=ja BK224.out 1
       have hfz34_2:=ja BK224.out 2
       have hfz34_3:=ja BK224.out 3
       go_wp2_with (first |((with_reducible refine jg (f:=50) rfl ?_);refine gL (some 34) Try.func50 #[.agg #[.slice A1_0 l1_0.length c1_0], .int .i64 a0_2] ?_;(with_reducible refine (jbb.calls _ _ l1_0 a0_2 true _ ?side1 ?side2 A30.out).mono ?_);(case side1=>exact cq (Kd.jka HR1_0.out HB.out));(case side2=>exact HC1_0.out);rintro e w35 ⟨rfl,hb⟩;refine ⟨_,rfl,?_⟩;replace BK224:=am (jq (g:=gb224) (o:=.cells #[.int .i64 a0_0, .int .i64 a0_1, .int .i64 a0_2, .int .i64 a0_3] 59 (0,0)) (kq BK224.out) hb);replace BK225:=am (jq (g:=gb225) (o:=.cells #[.slice A1_0 l1_0.length c1_0] 32 (0,0)) (kq BK225.out) hb);replace HB:=am (ji (Y22) hb);(try clear hb);(try clear hb2);(try clear hk);(try clear hi);have hcz36_0:=bc0 BK224.out;have hcz36_1:=bc1 BK224.out;have hcz36_2:=bc2 BK224.out;have hcz36_3:=bc3 BK224.out;have hfz36_0:=ja BK224.out 0;have hfz36_1:=ja BK224.out 1;have hfz36_2:=ja BK224.out 2;have hfz36_3:=ja BK224.out 3))
       go_ret
       exact ⟨Y0,Y22⟩
      ·replace c31:=Bool.eq_false_iff.mpr c31
       subst c31
       have H1:(some false)=some r:=by rw [if_neg (show ¬ (false=true) by decide)] at H;exact H
       clear H
       have H:=H1
       clear H1
       obtain rfl:=Option.some.inj H
       have hnb37:=NB225_224.out
       have hnc37:=NB224_225.out
       have hcz38_0:=bc0 BK225.out
       have hfz38_0:=ja BK225.out 0
       have hcz39_0:=bc0 BK224.out
       have hcz39_1:=bc1 BK224.out
       have hcz39_2:=bc2 BK224.out
       have hcz39_3:=bc3 BK224.out
       have hfz39_0:=ja BK224.out 0
       have hfz39_1:=ja BK224.out 1
       have hfz39_2:=ja BK224.out 2
       have hfz39_3:=ja BK224.out 3
       go_wp2_with (first |((with_reducible refine jg (f:=50) rfl ?_);refine gL (some 34) Try.func50 #[.agg #[.slice A1_0 l1_0.length c1_0], .int .i64 a0_2] ?_;(with_reducible refine (jbb.calls _ _ l1_0 a0_2 false _ ?side1 ?side2 A30.out).mono ?_);(case side1=>exact cq (Kd.jka HR1_0.out HB.out));(case side2=>exact HC1_0.out);rintro e w40 ⟨rfl,hb⟩;refine ⟨_,rfl,?_⟩;replace BK224:=am (jq (g:=gb224) (o:=.cells #[.int .i64 a0_0, .int .i64 a0_1, .int .i64 a0_2, .int .i64 a0_3] 59 (0,0)) (kq BK224.out) hb);replace BK225:=am (jq (g:=gb225) (o:=.cells #[.slice A1_0 l1_0.length c1_0] 32 (0,0)) (kq BK225.out) hb);replace HB:=am (ji (Y22) hb);(try clear hb);(try clear hb2);(try clear hk);(try clear hi)))
       go_ret
       exact ⟨Y0,Y22⟩
     ·rw [if_neg c29] at H
      have c29b0:(a0_1 == 8)=false:=beq_eq_false_iff_ne.mpr c29
      have c29b1:(a0_1 != 8)=true:=bne_iff_ne.mpr c29
      by_cases c41:a0_1=11
      ·rw [if_pos c41] at H
       have c41b0:(a0_1 == 11)=true:=beq_iff_eq.mpr c41
       have c41b1:(a0_1 != 11)=false:=bne_eq_false_iff_eq.mpr c41
       clear c41
       replace H:=bzS H
       obtain ⟨t230,A420,H⟩:=H
       replace H:(if t230=true then ((jN.f a0_3 0 1).bind fun t231=>(some t231)) else (some false))=some r:=H
       have A42:=am A420
       clear A420
       by_cases c43:t230=true
       ·subst c43
        have H1:((jN.f a0_3 0 1).bind fun t231=>(some t231))=some r:=by rw [if_pos rfl] at H;exact H
        clear H
        have H:=H1
        clear H1
        replace H:=bzS H
        obtain ⟨t231,A440,H⟩:=H
        replace H:(some t231)=some r:=H
        have A44:=am A440
        clear A440
        obtain rfl:=Option.some.inj H
        have hnb45:=NB224_225.out
        have hnc45:=NB225_224.out
        have hcz46_0:=bc0 BK224.out
        have hcz46_1:=bc1 BK224.out
        have hcz46_2:=bc2 BK224.out
        have hcz46_3:=bc3 BK224.out
        have hfz46_0:=ja BK224.out 0
        have hfz46_1:=ja BK224.out 1
        have hfz46_2:=ja BK224.out 2
        have hfz46_3:=ja BK224.out 3
        go_wp2_with (first |((with_reducible refine jg (f:=45) rfl ?_);refine gL (some 44) Try.func45 #[.int .i64 a0_2, .int .i64 0, .int .i64 9] ?_;(with_reducible refine (jN.calls a0_2 0 9 true _ A42.out).mono ?_);rintro e w' ⟨rfl,⟨nd,rfl⟩⟩;refine ⟨_,rfl,?_⟩) |(go_at_call 45;(with_reducible refine (jN.calls a0_3 0 1 t231 _ A44.out).mono ?_);rintro e w' ⟨rfl,⟨nd,rfl⟩⟩))
        go_ret
        exact ⟨Y0,Y22⟩
       ·replace c43:=Bool.eq_false_iff.mpr c43
        subst c43
        have H1:(some false)=some r:=by rw [if_neg (show ¬ (false=true) by decide)] at H;exact H
        clear H
        have H:=H1
        clear H1
        obtain rfl:=Option.some.inj H
        have hnb47:=NB224_225.out
        have hnc47:=NB225_224.out
        have hcz48_0:=bc0 BK224.out
        have hcz48_1:=bc1 BK224.out
        have hcz48_2:=bc2 BK224.out
        have hcz48_3:=bc3 BK224.out
        have hfz48_0:=ja BK224.out 0
        have hfz48_1:=ja BK224.out 1
        have hfz48_2:=ja BK224.out 2
        have hfz48_3:=ja BK224.out 3
        go_wp2_with (first |((with_reducible refine jg (f:=45) rfl ?_);refine gL (some 44) Try.func45 #[.int .i64 a0_2, .int .i64 0, .int .i64 9] ?_;(with_reducible refine (jN.calls a0_2 0 9 false _ A42.out).mono ?_);rintro e w' ⟨rfl,⟨nd,rfl⟩⟩;refine ⟨_,rfl,?_⟩))
        go_ret
        exact ⟨Y0,Y22⟩
      ·rw [if_neg c41] at H
       have c41b0:(a0_1 == 11)=false:=beq_eq_false_iff_ne.mpr c41
       have c41b1:(a0_1 != 11)=true:=bne_iff_ne.mpr c41
       by_cases c49:a0_1=12
       ·rw [if_pos c49] at H
        have c49b0:(a0_1 == 12)=true:=beq_iff_eq.mpr c49
        have c49b1:(a0_1 != 12)=false:=bne_eq_false_iff_eq.mpr c49
        clear c49
        replace H:=bzS H
        obtain ⟨t232,A500,H⟩:=H
        replace H:(if t232=true then (some (a0_3 == 0)) else (some false))=some r:=H
        have A50:=am A500
        clear A500
        by_cases c51:t232=true
        ·subst c51
         have H1:(some (a0_3 == 0))=some r:=by rw [if_pos rfl] at H;exact H
         clear H
         have H:=H1
         clear H1
         obtain rfl:=Option.some.inj H
         have hnb52:=NB224_225.out
         have hnc52:=NB225_224.out
         have hcz53_0:=bc0 BK224.out
         have hcz53_1:=bc1 BK224.out
         have hcz53_2:=bc2 BK224.out
         have hcz53_3:=bc3 BK224.out
         have hfz53_0:=ja BK224.out 0
         have hfz53_1:=ja BK224.out 1
         have hfz53_2:=ja BK224.out 2
         have hfz53_3:=ja BK224.out 3
         go_wp2_with (first |((with_reducible refine jg (f:=45) rfl ?_);refine gL (some 54) Try.func45 #[.int .i64 a0_2, .int .i64 0, .int .i64 3] ?_;(with_reducible refine (jN.calls a0_2 0 3 true _ A50.out).mono ?_);rintro e w' ⟨rfl,⟨nd,rfl⟩⟩;refine ⟨_,rfl,?_⟩))
         go_ret
         exact ⟨Y0,Y22⟩
        ·replace c51:=Bool.eq_false_iff.mpr c51
         subst c51
         have H1:(some false)=some r:=by rw [if_neg (show ¬ (false=true) by decide)] at H;exact H
         clear H
         have H:=H1
         clear H1
         obtain rfl:=Option.some.inj H
         have hnb54:=NB224_225.out
         have hnc54:=NB225_224.out
         have hcz55_0:=bc0 BK224.out
         have hcz55_1:=bc1 BK224.out
         have hcz55_2:=bc2 BK224.out
         have hcz55_3:=bc3 BK224.out
         have hfz55_0:=ja BK224.out 0
         have hfz55_1:=ja BK224.out 1
         have hfz55_2:=ja BK224.out 2
         have hfz55_3:=ja BK224.out 3
         go_wp2_with (first |((with_reducible refine jg (f:=45) rfl ?_);refine gL (some 54) Try.func45 #[.int .i64 a0_2, .int .i64 0, .int .i64 3] ?_;(with_reducible refine (jN.calls a0_2 0 3 false _ A50.out).mono ?_);rintro e w' ⟨rfl,⟨nd,rfl⟩⟩;refine ⟨_,rfl,?_⟩))
         go_ret
         exact ⟨Y0,Y22⟩
       ·rw [if_neg c49] at H
        have c49b0:(a0_1 == 12)=false:=beq_eq_false_iff_ne.mpr c49
        have c49b1:(a0_1 != 12)=true:=bne_iff_ne.mpr c49
        replace H:=bzS H
        obtain ⟨t233,A560,H⟩:=H
        replace H:(if t233=true then (if a0_2=0 then (some (a0_3 == 0)) else (some false)) else (some false))=some r:=H
        have A56:=am A560
        clear A560
        by_cases c57:t233=true
        ·subst c57
         have H1:(if a0_2=0 then (some (a0_3 == 0)) else (some false))=some r:=by rw [if_pos rfl] at H;exact H
         clear H
         have H:=H1
         clear H1
         by_cases c58:a0_2=0
         ·rw [if_pos c58] at H
          have c58b0:(a0_2 == 0)=true:=beq_iff_eq.mpr c58
          have c58b1:(a0_2 != 0)=false:=bne_eq_false_iff_eq.mpr c58
          clear c58
          obtain rfl:=Option.some.inj H
          have hnb59:=NB224_225.out
          have hnc59:=NB225_224.out
          have hcz60_0:=bc0 BK224.out
          have hcz60_1:=bc1 BK224.out
          have hcz60_2:=bc2 BK224.out
          have hcz60_3:=bc3 BK224.out
          have hfz60_0:=ja BK224.out 0
          have hfz60_1:=ja BK224.out 1
          have hfz60_2:=ja BK224.out 2
          have hfz60_3:=ja BK224.out 3
          go_wp2_with (first |((with_reducible refine jg (f:=45) rfl ?_);refine gL (some 62) Try.func45 #[.int .i64 a0_1, .int .i64 0, .int .i64 12] ?_;(with_reducible refine (jN.calls a0_1 0 12 true _ A56.out).mono ?_);rintro e w' ⟨rfl,⟨nd,rfl⟩⟩;refine ⟨_,rfl,?_⟩))
          go_ret
          exact ⟨Y0,Y22⟩
         ·rw [if_neg c58] at H
          have c58b0:(a0_2 == 0)=false:=beq_eq_false_iff_ne.mpr c58
          have c58b1:(a0_2 != 0)=true:=bne_iff_ne.mpr c58
          obtain rfl:=Option.some.inj H
          have hnb61:=NB224_225.out
          have hnc61:=NB225_224.out
          have hcz62_0:=bc0 BK224.out
          have hcz62_1:=bc1 BK224.out
          have hcz62_2:=bc2 BK224.out
          have hcz62_3:=bc3 BK224.out
          have hfz62_0:=ja BK224.out 0
          have hfz62_1:=ja BK224.out 1
          have hfz62_2:=ja BK224.out 2
          have hfz62_3:=ja BK224.out 3
          go_wp2_with (first |((with_reducible refine jg (f:=45) rfl ?_);refine gL (some 62) Try.func45 #[.int .i64 a0_1, .int .i64 0, .int .i64 12] ?_;(with_reducible refine (jN.calls a0_1 0 12 true _ A56.out).mono ?_);rintro e w' ⟨rfl,⟨nd,rfl⟩⟩;refine ⟨_,rfl,?_⟩))
          go_ret
          exact ⟨Y0,Y22⟩
        ·replace c57:=Bool.eq_false_iff.mpr c57
         subst c57
         have H1:(some false)=some r:=by rw [if_neg (show ¬ (false=true) by decide)] at H;exact H
         clear H
         have H:=H1
         clear H1
         obtain rfl:=Option.some.inj H
         have hnb63:=NB224_225.out
         have hnc63:=NB225_224.out
         have hcz64_0:=bc0 BK224.out
         have hcz64_1:=bc1 BK224.out
         have hcz64_2:=bc2 BK224.out
         have hcz64_3:=bc3 BK224.out
         have hfz64_0:=ja BK224.out 0
         have hfz64_1:=ja BK224.out 1
         have hfz64_2:=ja BK224.out 2
         have hfz64_3:=ja BK224.out 3
         go_wp2_with (first |((with_reducible refine jg (f:=45) rfl ?_);refine gL (some 62) Try.func45 #[.int .i64 a0_1, .int .i64 0, .int .i64 12] ?_;(with_reducible refine (jN.calls a0_1 0 12 false _ A56.out).mono ?_);rintro e w' ⟨rfl,⟨nd,rfl⟩⟩;refine ⟨_,rfl,?_⟩))
         go_ret
         exact ⟨Y0,Y22⟩
end Go.Proofs.Ytbcjbcjpoddkoaa.P
end
