/- One part of the proofs on this program: functions of the program as plain functions, that the code comes to them, and facts on them. -/
import Derived.Shelf.Sort.Plain
import Derived.Test.YtecdfgejmbpclaaYAll1
import Derived.Test.YtecdfgejmbpclaaYWAuto
section
namespace Go.Proofs.Ytecdfgejmbpclaa.P
open Go.RowKit Go.Proofs.YtecdfgejmbpclaaW.PrintWords Go.Proofs.YtecdfgejmbpclaaW.PrintLast Go.Proofs.YtecdfgejmbpclaaW.PrintMore
attribute [local go_sem] jva jta jFa jEa jha jga jua jsa jF
set_option linter.unusedVariables false
set_option linter.unusedSimpArgs false
def jHa.l0 : Nat → ByteArray → Int → Int → Option (Bool)
 | 0,_,_,_=>none
 | k+1,x0,x5,x6=>if x6<x5 then (if 0≤x6 then (if x6<(x0.size:Int) then (if (bt x0 x6)<97 then (some false) else (if (bt x0 x6) > 122 then (some false) else (jHa.l0 k x0 x5 (wrap64 (x6+1))))) else (none)) else (none)) else ((jwa.f (x0.size:Int) 1 6).bind fun t237=>(some t237))
def jHa.f (k : Nat) (a0 : ByteArray) : Option (Bool) := jHa.l0 k a0 (a0.size : Int) 0
set_option maxHeartbeats 8000000 in
set_option maxRecDepth 100000 in
theorem jHa.calls (k : Nat) (a0 : ByteArray) (r : Bool) (w : World) (h : jHa.f k a0 = some r) :
  Calls Try.prog 107 #[.string a0] w fun e w'=>e=.returned (.bool r)∧jqb w w':=by
 have H:(jHa.l0 k a0 (a0.size:Int) 0)=some r:=h
 clear h
 have H':=am H
 clear H
 go_enter Try.func107,Try.ntmps107
 go_wp2
 go_loopg [6] k (fun kq v6 w'=>∃ (x6_1:Int),v6=.int .i64 x6_1∧jw (jHa.l0 kq a0 (a0.size:Int) x6_1=some r)∧jw (kq≤k)∧jqb w w')
 case atStart=>exact ⟨(0),(sq),H',⟨Nat.le_refl _⟩,Y6⟩
 case round =>
  clear H'
  try clear c1
  obtain ⟨x6_1,rfl,HA,HK1,⟨m1,rfl⟩⟩:=hrel
  cases gk with
  | zero=>exact absurd HA.out (by simp [jHa.l0])
  | succ k1 =>
   have H:=HA.out
   clear HA
   simp only [jHa.l0] at H
   by_cases c2:x6_1<(a0.size:Int)
   ·rw [if_pos c2] at H
    have c2b0:decide (x6_1<(a0.size:Int))=true:=dzT c2
    clear c2
    by_cases c3:0≤x6_1
    ·rw [if_pos c3] at H
     have c3b0:decide (0≤x6_1)=true:=dzT c3
     clear c3
     by_cases c4:x6_1<(a0.size:Int)
     ·rw [if_pos c4] at H
      have c4b0:decide (x6_1<(a0.size:Int))=true:=dzT c4
      clear c4
      by_cases c6:(bt a0 x6_1)<97
      ·rw [if_pos c6] at H
       have c6b0:decide ((bt a0 x6_1)<97)=true:=dzT c6
       clear c6
       obtain rfl:=Option.some.inj H
       have p5:0≤(x6_1:Int):=ozD (uq)
       have q5:x6_1<(a0.size:Int):=ozD (uq)
       have hx5:=bt_at a0 x6_1
       replace p5:=ezT p5
       replace q5:=ezT q5
       go_wp2
       go_ret
       exact ⟨sq,Y6⟩
      ·rw [if_neg c6] at H
       have c6b0:decide ((bt a0 x6_1)<97)=false:=dzF c6
       clear c6
       by_cases c8:(bt a0 x6_1) > 122
       ·rw [if_pos c8] at H
        have c8b0:decide (122<(bt a0 x6_1))=true:=dzT c8
        clear c8
        obtain rfl:=Option.some.inj H
        have p5:0≤(x6_1:Int):=ozD (uq)
        have q5:x6_1<(a0.size:Int):=ozD (uq)
        have hx5:=bt_at a0 x6_1
        replace p5:=ezT p5
        replace q5:=ezT q5
        have p7:0≤(x6_1:Int):=ozD (uq)
        have q7:x6_1<(a0.size:Int):=ozD (uq)
        have hx7:=bt_at a0 x6_1
        replace p7:=ezT p7
        replace q7:=ezT q7
        go_wp2
        go_ret
        exact ⟨sq,Y6⟩
       ·rw [if_neg c8] at H
        have c8b0:decide (122<(bt a0 x6_1))=false:=dzF c8
        clear c8
        have H':=am H
        clear H
        have p5:0≤(x6_1:Int):=ozD (uq)
        have q5:x6_1<(a0.size:Int):=ozD (uq)
        have hx5:=bt_at a0 x6_1
        replace p5:=ezT p5
        replace q5:=ezT q5
        have p7:0≤(x6_1:Int):=ozD (uq)
        have q7:x6_1<(a0.size:Int):=ozD (uq)
        have hx7:=bt_at a0 x6_1
        replace p7:=ezT p7
        replace q7:=ezT q7
        go_wp2
        go_roundg k1
        case measure=>have:=HK1.out;omega
        case rel=>exact ⟨(wrap64 (x6_1+1)),(sq),H',⟨by have:=HK1.out;omega⟩,Y6⟩
     ·rw [if_neg c4] at H
      exact absurd H (by simp)
    ·rw [if_neg c3] at H
     exact absurd H (by simp)
   ·rw [if_neg c2] at H
    have c2b0:decide (x6_1<(a0.size:Int))=false:=dzF c2
    clear c2
    replace H:=bzS H
    obtain ⟨t237,A90,H⟩:=H
    replace H:(some t237)=some r:=H
    have A9:=am A90
    clear A90
    obtain rfl:=Option.some.inj H
    go_wp2_with (first |((with_reducible refine jC (f:=102) rfl ?_);refine gL (some 22) Try.func102 #[.int .i64 (a0.size:Int), .int .i64 1, .int .i64 6] ?_;(with_reducible refine (jwa.calls (a0.size:Int) 1 6 t237 _ A9.out).mono ?_);rintro e w' ⟨rfl,⟨nd,rfl⟩⟩;refine ⟨_,rfl,?_⟩))
    go_ret
    exact ⟨sq,Y6⟩

theorem impl_named1_calls (a b : ByteArray) (p : Int) (B : Nat) (w : World) (hB : B < w.heap.size) (hc : w.cell? ⟨B, 0, none⟩ = some (.string b)) :
  Calls Try.prog 123 #[.agg #[.string a, .int .i64 p], .pointer (some ⟨B,0,none⟩)] w fun e w'=>e=.returned (.bool (a.toList == b.toList))∧Below w.heap.size w w':=by
 have hne:B≠w.heap.size:=by omega
 go_enter Try.func123,Try.ntmps123
 go_wp2
 go_ret
 exact ⟨rfl,(Below.refl _ _).alloc (Nat.le_refl _) _⟩
set_option maxHeartbeats 8000000 in
set_option maxRecDepth 100000 in
theorem impl_named_idx (A_ : Option Addr) (c_ : Nat) (l : List (S94)) (B0_ : Nat) (p : S94 → Option Bool) (r : Int) (w : World) (hr : Kd.C k94 w A_ l.length l) (h : idxFrom p l 0 = some r)
  (hp:∀ W,Below w.heap.size w W→∀ (x:S94) (b:Bool),p x=some b→Calls Try.prog 123 #[.agg #[.string x.f0, .int .i64 x.f1], .pointer (some ⟨B0_,0,none⟩)] W fun e w'=>e=.returned (.bool b)∧Below W.heap.size W w') :
  Calls Try.prog 122 #[.slice A_ l.length c_, .func (.func 123) #[] #[.pointer (some ⟨B0_,0,none⟩)]] w fun e w'=>e=.returned (.int .i64 r)∧Below w.heap.size w w':=by
 have hm:l.length≤9223372036854775807:=Kd.C_max hr
 have HR:=am hr
 have HP:=am hp
 have H0:=am h
 clear hr hp h
 go_enter Try.func122,Try.ntmps122
 go_wp2
 go_loopw [5,8] (fun i5 i8 wr=>∃ k:Nat,k≤l.length∧i8=.int .i64 k∧jw (idxFrom p (l.drop k) k=some r)∧Below w.heap.size w wr) (fun _ i8 _=>l.length - (intOf i8).toNat)
 case atStart=>exact ⟨0,Nat.zero_le _,rfl,H0,Below.refl _ _⟩
 case round =>
  clear H0
  obtain ⟨k,hk,rfl,HA,hb⟩:=hrel
  by_cases hlt:k<l.length
  ·have HB:=am (idxFrom_step hlt HA.out)
   clear HA
   obtain ⟨ad,rfl,hx0,hx1⟩:=at_T94 HR.out (k:Int) (by omega) (by omega)
   have hrd:jZ l (k:Int)=l[k]:=by simp [jZ,List.getD_eq_getElem?_getD,hlt]
   replace hx0:=jDa hb hx0
   replace hx1:=jDa hb hx1
   rw [hrd] at hx0 hx1
   simp only [Int.toNat_natCast] at hx0 hx1
   clear hrd
   obtain ⟨b,hb1,hb0⟩:=HB.out
   have HQ:=am hb1
   clear hb1 HB
   cases b with
   | true =>
    have HZ:=am (by simpa using hb0:(k:Int)=r)
    clear hb0
    go_wp2_with (go_at_call 123;refine (HP.out _ hb _ _ HQ.out).mono ?_;rintro e w' ⟨rfl,hb2⟩)
    go_ret
    exact ⟨by rw [← HZ.out];rfl,jDb hb hb.size hb2⟩
   | false =>
    have HZ:=am (by simpa using hb0:idxFrom p (l.drop (k+1)) (k+1)=some r)
    clear hb0
    go_wp2_with (go_at_call 123;refine (HP.out _ hb _ _ HQ.out).mono ?_;rintro e w' ⟨rfl,hb2⟩)
    go_roundw
    case rel=>exact ⟨k+1,hlt,by go_num,HZ,jDb hb hb.size hb2⟩
    case measure=>simp [intOf];omega
  ·have HZ:=am (idxFrom_end (by omega) HA.out)
   clear HA
   go_wp2
   go_ret
   exact ⟨by rw [HZ.out];rfl,hb⟩
def jKa.f (l0_0 : List S94) (a1 : ByteArray) : Option Int := idxFrom (fun x : S94 => some (x.f0.toList == a1.toList)) l0_0 0
set_option maxHeartbeats 8000000 in
set_option maxRecDepth 100000 in
theorem jKa.calls (A0_0 : Option Addr) (c0_0 : Nat) (l0_0 : List (S94)) (a1 : ByteArray) (r : Int) (w : World) (hr0_0 : Kd.C k94 w A0_0 l0_0.length l0_0) (hc0_0 : l0_0.length ≤ c0_0) (h : jKa.f l0_0 a1 = some r) :
  Calls Try.prog 108 #[.agg #[.slice A0_0 l0_0.length c0_0], .string a1] w fun e w'=>e=.returned (.int .i64 r)∧Below w.heap.size w w':=by
 have hu37:=Try.underlying37
 have HF:=am (fun W (hb:Below w.heap.size w W) (B:Nat) (hB:B<W.heap.size) (hc:W.cell? ⟨B,0,none⟩=some (.string a1))=>impl_named_idx A0_0 c0_0 l0_0 B (fun x:S94=>some (x.f0.toList == a1.toList)) r W (Kd.jea hr0_0 hb) h (fun W' hb' x b hx=>by
  obtain rfl:=Option.some.inj hx
  exact impl_named1_calls x.f0 a1 x.f1 B W' (Nat.lt_of_lt_of_le hB hb'.size) (jDa hb' hc)))
 clear h hr0_0
 go_enter Try.func108,Try.ntmps108
 go_wp2_with (go_at_call 122;refine (HF.out _ (((Below.refl _ _).alloc (Nat.le_refl _) _).alloc (by simp) _) _ (by simp) (by simp)).mono ?_;rintro e w' ⟨rfl,hb2⟩)
 go_ret
 exact ⟨rfl,(((Below.refl _ _).alloc (Nat.le_refl _) _).alloc (by simp) _).trans (hb2.mono (by simp;omega))⟩
mutual
def jK.l0 : Nat → List (S94) → Int → Int → List (S94) → Option (Bool)
 | 0,_,_,_,_=>none
 | k+1,x6,x7,x8,x239000=>if x8<x7 then (if 0≤x8 then (if x8<(x6.length:Int) then ((jHa.f k ((jZ x6 x8).f0)).bind fun t242=>(if t242=true then ((jKa.f x239000 ((jZ x6 x8).f0)).bind fun t243=>(if t243=x8 then (if x8=0 then (if ((jZ x6 x8).f1)=(-1) then (if x8 > 0 then ((jwa.f ((jZ x6 x8).f1) 0 (wrap64 (x8 - 1))).bind fun t244=>(jK.j1 k x6 x7 x8 (!t244) x239000)) else (jK.j1 k x6 x7 x8 false x239000)) else (jK.j1 k x6 x7 x8 true x239000)) else (if x8 > 0 then ((jwa.f ((jZ x6 x8).f1) 0 (wrap64 (x8 - 1))).bind fun t245=>(jK.j1 k x6 x7 x8 (!t245) x239000)) else (jK.j1 k x6 x7 x8 false x239000))) else (jK.j1 k x6 x7 x8 true x239000))) else (jK.j1 k x6 x7 x8 true x239000))) else (none)) else (none)) else ((jwa.f (x239000.length:Int) 1 8).bind fun t239=>(some t239))
def jK.j1 : Nat → List (S94) → Int → Int → Bool → List (S94) → Option (Bool)
 | 0,_,_,_,_,_=>none
 | k+1,x6,x7,x8,x45,x239000=>if x45=true then (some false) else (jK.l0 k x6 x7 (wrap64 (x8+1)) x239000)
end
def jK.f (k : Nat) (l0_0 : List (S94)) : Option (Bool) := jK.l0 k l0_0 (l0_0.length : Int) 0 l0_0
set_option maxHeartbeats 8000000 in
set_option maxRecDepth 100000 in
theorem jK.calls (k : Nat) (A0_0 : Option Addr) (c0_0 : Nat) (l0_0 : List (S94)) (r : Bool) (w : World) (hr0_0 : Kd.C k94 w A0_0 l0_0.length l0_0) (hc0_0 : l0_0.length ≤ c0_0) (h : jK.f k l0_0 = some r) :
  Calls Try.prog 96 #[.agg #[.slice A0_0 l0_0.length c0_0]] w fun e w'=>e=.returned (.bool r)∧Below w.heap.size w w':=by
 have hu37:=Try.underlying37
 have hu94:=Try.underlying94
 have HR0_0:=am hr0_0
 have HC0_0:=am hc0_0
 clear hr0_0 hc0_0
 have HB:=am (Below.refl w.heap.size w)
 have H:(jK.l0 k l0_0 (l0_0.length:Int) 0 l0_0)=some r:=h
 clear h
 have H':=am H
 clear H
 go_enter Try.func96,Try.ntmps96
 go_wp2_with (first |((with_reducible refine jI (N:=1) rfl ?_);refine bE (N:=1) (cs:=#[.slice A0_0 l0_0.length c0_0]) (t:=37) ?_;intro gb238 hg w2 hbox hb;have BK238:=am (hbox);have GW238:=am ((Y1:w.heap.size≤gb238));have GE238:=am ((Y1:w.heap.size≤gb238));replace HB:=am (jl (bq) hb);clear hb hbox hg;have hcz3_0:=bc0 BK238.out;have hfz3_0:=jf BK238.out 0))
 go_loopg [8] k (fun kq v8 w'=>∃ (x8_1:Int),v8=.int .i64 x8_1∧jw (jK.l0 kq l0_0 (l0_0.length:Int) x8_1 l0_0=some r)∧jw (kq≤k)∧jw (w'.heap[gb238]?=some (.cells #[(.slice A0_0 l0_0.length c0_0)] 37 (0,0)))∧jw (Below w.heap.size w w'))
 case atStart=>exact ⟨(0),(sq),H',⟨Nat.le_refl _⟩,⟨kq BK238.out⟩,⟨Y139⟩⟩
 case round =>
  clear H'
  try clear p2
  try clear hcz3_0
  try clear hfz3_0
  obtain ⟨x8_1,rfl,HA,HK1,BK238,HB⟩:=hrel
  cases gk with
  | zero=>exact absurd HA.out (by simp [jK.l0])
  | succ k1 =>
   have H:=HA.out
   clear HA
   simp only [jK.l0] at H
   by_cases c4:x8_1<(l0_0.length:Int)
   ·rw [if_pos c4] at H
    have c4b0:decide (x8_1<(l0_0.length:Int))=true:=dzT c4
    clear c4
    by_cases c5:0≤x8_1
    ·rw [if_pos c5] at H
     have c5b0:decide (0≤x8_1)=true:=dzT c5
     clear c5
     by_cases c6:x8_1<(l0_0.length:Int)
     ·rw [if_pos c6] at H
      have c6b0:decide (x8_1<(l0_0.length:Int))=true:=dzT c6
      clear c6
      have HC7:=am H
      clear H
      have p240:0≤(x8_1:Int):=ozD (uq)
      have q240:x8_1<(l0_0.length:Int):=ozD (uq)
      obtain ⟨ad240,e240,hx240_0,hx240_1⟩:=at_T94 HR0_0.out x8_1 p240 q240
      cases e240
      replace hx240_0:=cb HB.out hx240_0
      replace hx240_1:=cb HB.out hx240_1
      replace p240:=ezT p240
      replace q240:=ezT q240
      go_upto_region 4 with (first |((with_reducible refine jI (N:=4) rfl ?_);refine bE (N:=4) (cs:=#[.string (⟨#[]⟩:ByteArray), .int .i64 0]) (t:=94) ?_;intro gb241 hg w8 hbox hb;have BK241:=am (hbox);have GW241:=am ((Y172:w.heap.size≤gb241));have GE241:=am ((Y172:w.heap.size≤gb241));have NB238_241:=am ((by rw [hg];exact Nat.ne_of_lt (jV (g:=gb238) (o:=.cells #[.slice (some ad240) l0_0.length c0_0] 37 (0,0)) (kq BK238.out)):gb238≠gb241));have NB241_238:=am ((by rw [hg];exact Nat.ne_of_gt (jV (g:=gb238) (o:=.cells #[.slice (some ad240) l0_0.length c0_0] 37 (0,0)) (kq BK238.out)):gb241≠gb238));replace BK238:=am (je (g:=gb238) (o:=.cells #[.slice (some ad240) l0_0.length c0_0] 37 (0,0)) (kq BK238.out) hb);replace HB:=am (jl (Y139) hb);clear hb hbox hg;have hnb9:=NB241_238.out;have hnc9:=NB238_241.out;have hcz10_0:=bc0 BK241.out;have hcz10_1:=bc1 BK241.out;have hfz10_0:=jf BK241.out 0;have hfz10_1:=jf BK241.out 1))
      (try simp only [Act.put,List.setIfInBounds_toArray,List.set_cons_zero,List.set_cons_succ])
      go_cut [45] (fun v45 wc=>∃ (kq:Nat) (x45_6:Bool),v45=.bool x45_6∧jw (jK.j1 kq l0_0 (l0_0.length:Int) x8_1 x45_6 l0_0=some r)∧jw (kq≤k1)∧jw (wc.heap[gb238]?=some (.cells #[(.slice (some ad240) l0_0.length c0_0)] 37 (0,0)))∧jw (wc.heap[gb241]?=some (.cells #[.string ((jZ l0_0 x8_1).f0), .int .i64 ((jZ l0_0 x8_1).f1)] 94 (0,0)))∧jw (Below w.heap.size w wc))
      case first =>
       have H:=HC7.out
       clear HC7
       replace H:=bzS H
       obtain ⟨t242,A110,H⟩:=H
       replace H:(if t242=true then ((jKa.f l0_0 ((jZ l0_0 x8_1).f0)).bind fun t243=>(if t243=x8_1 then (if x8_1=0 then (if ((jZ l0_0 x8_1).f1)=(-1) then (if x8_1 > 0 then ((jwa.f ((jZ l0_0 x8_1).f1) 0 (wrap64 (x8_1 - 1))).bind fun t244=>(jK.j1 k1 l0_0 (l0_0.length:Int) x8_1 (!t244) l0_0)) else (jK.j1 k1 l0_0 (l0_0.length:Int) x8_1 false l0_0)) else (jK.j1 k1 l0_0 (l0_0.length:Int) x8_1 true l0_0)) else (if x8_1 > 0 then ((jwa.f ((jZ l0_0 x8_1).f1) 0 (wrap64 (x8_1 - 1))).bind fun t245=>(jK.j1 k1 l0_0 (l0_0.length:Int) x8_1 (!t245) l0_0)) else (jK.j1 k1 l0_0 (l0_0.length:Int) x8_1 false l0_0))) else (jK.j1 k1 l0_0 (l0_0.length:Int) x8_1 true l0_0))) else (jK.j1 k1 l0_0 (l0_0.length:Int) x8_1 true l0_0))=some r:=H
       have A11:=am A110
       clear A110
       by_cases c12:t242=true
       ·subst c12
        have H1:((jKa.f l0_0 ((jZ l0_0 x8_1).f0)).bind fun t243=>(if t243=x8_1 then (if x8_1=0 then (if ((jZ l0_0 x8_1).f1)=(-1) then (if x8_1 > 0 then ((jwa.f ((jZ l0_0 x8_1).f1) 0 (wrap64 (x8_1 - 1))).bind fun t244=>(jK.j1 k1 l0_0 (l0_0.length:Int) x8_1 (!t244) l0_0)) else (jK.j1 k1 l0_0 (l0_0.length:Int) x8_1 false l0_0)) else (jK.j1 k1 l0_0 (l0_0.length:Int) x8_1 true l0_0)) else (if x8_1 > 0 then ((jwa.f ((jZ l0_0 x8_1).f1) 0 (wrap64 (x8_1 - 1))).bind fun t245=>(jK.j1 k1 l0_0 (l0_0.length:Int) x8_1 (!t245) l0_0)) else (jK.j1 k1 l0_0 (l0_0.length:Int) x8_1 false l0_0))) else (jK.j1 k1 l0_0 (l0_0.length:Int) x8_1 true l0_0)))=some r:=by rw [if_pos rfl] at H;exact H
        clear H
        have H:=H1
        clear H1
        replace H:=bzS H
        obtain ⟨t243,A130,H⟩:=H
        replace H:(if t243=x8_1 then (if x8_1=0 then (if ((jZ l0_0 x8_1).f1)=(-1) then (if x8_1 > 0 then ((jwa.f ((jZ l0_0 x8_1).f1) 0 (wrap64 (x8_1 - 1))).bind fun t244=>(jK.j1 k1 l0_0 (l0_0.length:Int) x8_1 (!t244) l0_0)) else (jK.j1 k1 l0_0 (l0_0.length:Int) x8_1 false l0_0)) else (jK.j1 k1 l0_0 (l0_0.length:Int) x8_1 true l0_0)) else (if x8_1 > 0 then ((jwa.f ((jZ l0_0 x8_1).f1) 0 (wrap64 (x8_1 - 1))).bind fun t245=>(jK.j1 k1 l0_0 (l0_0.length:Int) x8_1 (!t245) l0_0)) else (jK.j1 k1 l0_0 (l0_0.length:Int) x8_1 false l0_0))) else (jK.j1 k1 l0_0 (l0_0.length:Int) x8_1 true l0_0))=some r:=H
        have A13:=am A130
        clear A130
        by_cases c14:t243=x8_1
        ·rw [if_pos c14] at H
         have c14b0:(t243 == x8_1)=true:=beq_iff_eq.mpr c14
         have c14b1:(t243 != x8_1)=false:=bne_eq_false_iff_eq.mpr c14
         clear c14
         (first | rw [c14b0] |(simp only [jjb,job];rw [c14b0]) | skip)
         by_cases c15:x8_1=0
         ·rw [if_pos c15] at H
          have c15b0:(x8_1 == 0)=true:=beq_iff_eq.mpr c15
          have c15b1:(x8_1 != 0)=false:=bne_eq_false_iff_eq.mpr c15
          clear c15
          by_cases c16:((jZ l0_0 x8_1).f1)=(-1)
          ·rw [if_pos c16] at H
           have c16b0:(((jZ l0_0 x8_1).f1) == (-1))=true:=beq_iff_eq.mpr c16
           have c16b1:(((jZ l0_0 x8_1).f1) != (-1))=false:=bne_eq_false_iff_eq.mpr c16
           clear c16
           by_cases c17:x8_1 > 0
           ·rw [if_pos c17] at H
            have c17b0:decide (0<x8_1)=true:=dzT c17
            clear c17
            replace H:=bzS H
            obtain ⟨t244,A180,H⟩:=H
            replace H:(jK.j1 k1 l0_0 (l0_0.length:Int) x8_1 (!t244) l0_0)=some r:=H
            have A18:=am A180
            clear A180
            have H':=am H
            clear H
            have hnb19:=NB241_238.out
            have hnc19:=NB238_241.out
            have hcz20_0:=bc0 BK241.out
            have hcz20_1:=bc1 BK241.out
            have hfz20_0:=jf BK241.out 0
            have hfz20_1:=jf BK241.out 1
            go_wp2_with (first |((with_reducible refine jC (f:=107) rfl ?_);refine gL (some 15) Try.func107 #[.string ((jZ l0_0 x8_1).f0)] ?_;(with_reducible refine (jHa.calls k1 ((jZ l0_0 x8_1).f0) true _ A11.out).mono ?_);rintro e w' ⟨rfl,⟨nd,rfl⟩⟩;refine ⟨_,rfl,?_⟩;have hcz21_0:=bc0 BK238.out;have hfz21_0:=jf BK238.out 0) |(go_at_call 108;(with_reducible refine (jKa.calls _ _ l0_0 ((jZ l0_0 x8_1).f0) t243 _ ?side1 ?side2 A13.out).mono ?_);(case side1=>exact Kd.jea HR0_0.out (Y18));(case side2=>exact HC0_0.out);rintro e w22 ⟨rfl,hb⟩;replace BK238:=am (je (g:=gb238) (o:=.cells #[.slice (some ad240) l0_0.length c0_0] 37 (0,0)) (Y63) hb);replace BK241:=am (je (g:=gb241) (o:=.cells #[.string ((jZ l0_0 x8_1).f0), .int .i64 ((jZ l0_0 x8_1).f1)] 94 (0,0)) (Y64) hb);replace HB:=am (jl (Y18) hb);(try clear hb);(try clear hb2);(try clear hk);(try clear hi);have hcz23_0:=bc0 BK241.out;have hcz23_1:=bc1 BK241.out;have hfz23_0:=jf BK241.out 0;have hfz23_1:=jf BK241.out 1) |(go_at_call 102;(with_reducible refine (jwa.calls ((jZ l0_0 x8_1).f1) 0 (wrap64 (x8_1 - 1)) t244 _ A18.out).mono ?_);rintro e w' ⟨rfl,⟨nd,rfl⟩⟩))
            go_meet
            case rel=>exact ⟨_,(!t244),(sq),H',⟨by have:=HK1.out;first | omega | exact Nat.le_refl _⟩,⟨kq BK238.out⟩,⟨kq BK241.out⟩,⟨Y18⟩⟩
           ·rw [if_neg c17] at H
            have c17b0:decide (0<x8_1)=false:=dzF c17
            clear c17
            have H':=am H
            clear H
            have hnb24:=NB241_238.out
            have hnc24:=NB238_241.out
            have hcz25_0:=bc0 BK241.out
            have hcz25_1:=bc1 BK241.out
            have hfz25_0:=jf BK241.out 0
            have hfz25_1:=jf BK241.out 1
            go_wp2_with (first |((with_reducible refine jC (f:=107) rfl ?_);refine gL (some 15) Try.func107 #[.string ((jZ l0_0 x8_1).f0)] ?_;(with_reducible refine (jHa.calls k1 ((jZ l0_0 x8_1).f0) true _ A11.out).mono ?_);rintro e w' ⟨rfl,⟨nd,rfl⟩⟩;refine ⟨_,rfl,?_⟩;have hcz26_0:=bc0 BK238.out;have hfz26_0:=jf BK238.out 0) |(go_at_call 108;(with_reducible refine (jKa.calls _ _ l0_0 ((jZ l0_0 x8_1).f0) t243 _ ?side1 ?side2 A13.out).mono ?_);(case side1=>exact Kd.jea HR0_0.out (Y18));(case side2=>exact HC0_0.out);rintro e w27 ⟨rfl,hb⟩;replace BK238:=am (je (g:=gb238) (o:=.cells #[.slice (some ad240) l0_0.length c0_0] 37 (0,0)) (Y63) hb);replace BK241:=am (je (g:=gb241) (o:=.cells #[.string ((jZ l0_0 x8_1).f0), .int .i64 ((jZ l0_0 x8_1).f1)] 94 (0,0)) (Y64) hb);replace HB:=am (jl (Y18) hb);(try clear hb);(try clear hb2);(try clear hk);(try clear hi);have hcz28_0:=bc0 BK241.out;have hcz28_1:=bc1 BK241.out;have hfz28_0:=jf BK241.out 0;have hfz28_1:=jf BK241.out 1))
            go_meet
            case rel=>exact ⟨_,(false),(sq),H',⟨by have:=HK1.out;first | omega | exact Nat.le_refl _⟩,⟨kq BK238.out⟩,⟨kq BK241.out⟩,⟨Y18⟩⟩
          ·rw [if_neg c16] at H
           have c16b0:(((jZ l0_0 x8_1).f1) == (-1))=false:=beq_eq_false_iff_ne.mpr c16
           have c16b1:(((jZ l0_0 x8_1).f1) != (-1))=true:=bne_iff_ne.mpr c16
           have H':=am H
           clear H
           have hnb29:=NB241_238.out
           have hnc29:=NB238_241.out
           have hcz30_0:=bc0 BK241.out
           have hcz30_1:=bc1 BK241.out
           have hfz30_0:=jf BK241.out 0
           have hfz30_1:=jf BK241.out 1
           go_wp2_with (first |((with_reducible refine jC (f:=107) rfl ?_);refine gL (some 15) Try.func107 #[.string ((jZ l0_0 x8_1).f0)] ?_;(with_reducible refine (jHa.calls k1 ((jZ l0_0 x8_1).f0) true _ A11.out).mono ?_);rintro e w' ⟨rfl,⟨nd,rfl⟩⟩;refine ⟨_,rfl,?_⟩;have hcz31_0:=bc0 BK238.out;have hfz31_0:=jf BK238.out 0) |(go_at_call 108;(with_reducible refine (jKa.calls _ _ l0_0 ((jZ l0_0 x8_1).f0) t243 _ ?side1 ?side2 A13.out).mono ?_);(case side1=>exact Kd.jea HR0_0.out (Y18));(case side2=>exact HC0_0.out);rintro e w32 ⟨rfl,hb⟩;replace BK238:=am (je (g:=gb238) (o:=.cells #[.slice (some ad240) l0_0.length c0_0] 37 (0,0)) (Y63) hb);replace BK241:=am (je (g:=gb241) (o:=.cells #[.string ((jZ l0_0 x8_1).f0), .int .i64 ((jZ l0_0 x8_1).f1)] 94 (0,0)) (Y64) hb);replace HB:=am (jl (Y18) hb);(try clear hb);(try clear hb2);(try clear hk);(try clear hi);have hcz33_0:=bc0 BK241.out;have hcz33_1:=bc1 BK241.out;have hfz33_0:=jf BK241.out 0;have hfz33_1:=jf BK241.out 1))
           go_meet
           case rel=>exact ⟨_,(true),(sq),H',⟨by have:=HK1.out;first | omega | exact Nat.le_refl _⟩,⟨kq BK238.out⟩,⟨kq BK241.out⟩,⟨Y18⟩⟩
         ·rw [if_neg c15] at H
          have c15b0:(x8_1 == 0)=false:=beq_eq_false_iff_ne.mpr c15
          have c15b1:(x8_1 != 0)=true:=bne_iff_ne.mpr c15
          by_cases c34:x8_1 > 0
          ·rw [if_pos c34] at H
           have c34b0:decide (0<x8_1)=true:=dzT c34
           clear c34
           replace H:=bzS H
           obtain ⟨t245,A350,H⟩:=H
           replace H:(jK.j1 k1 l0_0 (l0_0.length:Int) x8_1 (!t245) l0_0)=some r:=H
           have A35:=am A350
           clear A350
           have H':=am H
           clear H
           have hnb36:=NB241_238.out
           have hnc36:=NB238_241.out
           have hcz37_0:=bc0 BK241.out
           have hcz37_1:=bc1 BK241.out
           have hfz37_0:=jf BK241.out 0
           have hfz37_1:=jf BK241.out 1
           go_wp2_with (first |((with_reducible refine jC (f:=107) rfl ?_);refine gL (some 15) Try.func107 #[.string ((jZ l0_0 x8_1).f0)] ?_;(with_reducible refine (jHa.calls k1 ((jZ l0_0 x8_1).f0) true _ A11.out).mono ?_);rintro e w' ⟨rfl,⟨nd,rfl⟩⟩;refine ⟨_,rfl,?_⟩;have hcz38_0:=bc0 BK238.out;have hfz38_0:=jf BK238.out 0) |(go_at_call 108;(with_reducible refine (jKa.calls _ _ l0_0 ((jZ l0_0 x8_1).f0) t243 _ ?side1 ?side2 A13.out).mono ?_);(case side1=>exact Kd.jea HR0_0.out (Y18));(case side2=>exact HC0_0.out);rintro e w39 ⟨rfl,hb⟩;replace BK238:=am (je (g:=gb238) (o:=.cells #[.slice (some ad240) l0_0.length c0_0] 37 (0,0)) (Y63) hb);replace BK241:=am (je (g:=gb241) (o:=.cells #[.string ((jZ l0_0 x8_1).f0), .int .i64 ((jZ l0_0 x8_1).f1)] 94 (0,0)) (Y64) hb);replace HB:=am (jl (Y18) hb);(try clear hb);(try clear hb2);(try clear hk);(try clear hi);have hcz40_0:=bc0 BK241.out;have hcz40_1:=bc1 BK241.out;have hfz40_0:=jf BK241.out 0;have hfz40_1:=jf BK241.out 1) |(go_at_call 102;(with_reducible refine (jwa.calls ((jZ l0_0 x8_1).f1) 0 (wrap64 (x8_1 - 1)) t245 _ A35.out).mono ?_);rintro e w' ⟨rfl,⟨nd,rfl⟩⟩))
           go_meet
           case rel=>exact ⟨_,(!t245),(sq),H',⟨by have:=HK1.out;first | omega | exact Nat.le_refl _⟩,⟨kq BK238.out⟩,⟨kq BK241.out⟩,⟨Y18⟩⟩
          ·rw [if_neg c34] at H
           have c34b0:decide (0<x8_1)=false:=dzF c34
           clear c34
           have H':=am H
           clear H
           have hnb41:=NB241_238.out
           have hnc41:=NB238_241.out
           have hcz42_0:=bc0 BK241.out
           have hcz42_1:=bc1 BK241.out
           have hfz42_0:=jf BK241.out 0
           have hfz42_1:=jf BK241.out 1
           go_wp2_with (first |((with_reducible refine jC (f:=107) rfl ?_);refine gL (some 15) Try.func107 #[.string ((jZ l0_0 x8_1).f0)] ?_;(with_reducible refine (jHa.calls k1 ((jZ l0_0 x8_1).f0) true _ A11.out).mono ?_);rintro e w' ⟨rfl,⟨nd,rfl⟩⟩;refine ⟨_,rfl,?_⟩;have hcz43_0:=bc0 BK238.out;have hfz43_0:=jf BK238.out 0) |(go_at_call 108;(with_reducible refine (jKa.calls _ _ l0_0 ((jZ l0_0 x8_1).f0) t243 _ ?side1 ?side2 A13.out).mono ?_);(case side1=>exact Kd.jea HR0_0.out (Y18));(case side2=>exact HC0_0.out);rintro e w44 ⟨rfl,hb⟩;replace BK238:=am (je (g:=gb238) (o:=.cells #[.slice (some ad240) l0_0.length c0_0] 37 (0,0)) (Y63) hb);replace BK241:=am (je (g:=gb241) (o:=.cells #[.string ((jZ l0_0 x8_1).f0), .int .i64 ((jZ l0_0 x8_1).f1)] 94 (0,0)) (Y64) hb);replace HB:=am (jl (Y18) hb);(try clear hb);(try clear hb2);(try clear hk);(try clear hi)))
           go_meet
           case rel=>exact ⟨_,(false),(sq),H',⟨by have:=HK1.out;first | omega | exact Nat.le_refl _⟩,⟨kq BK238.out⟩,⟨kq BK241.out⟩,⟨Y18⟩⟩
        ·rw [if_neg c14] at H
         have c14b0:(t243 == x8_1)=false:=beq_eq_false_iff_ne.mpr c14
         have c14b1:(t243 != x8_1)=true:=bne_iff_ne.mpr c14
         (first | rw [c14b0] |(simp only [jjb,job];rw [c14b0]) | skip)
         have H':=am H
         clear H
         have hnb45:=NB241_238.out
         have hnc45:=NB238_241.out
         have hcz46_0:=bc0 BK241.out
         have hcz46_1:=bc1 BK241.out
         have hfz46_0:=jf BK241.out 0
         have hfz46_1:=jf BK241.out 1
         go_wp2_with (first |((with_reducible refine jC (f:=107) rfl ?_);refine gL (some 15) Try.func107 #[.string ((jZ l0_0 x8_1).f0)] ?_;(with_reducible refine (jHa.calls k1 ((jZ l0_0 x8_1).f0) true _ A11.out).mono ?_);rintro e w' ⟨rfl,⟨nd,rfl⟩⟩;refine ⟨_,rfl,?_⟩;have hcz47_0:=bc0 BK238.out;have hfz47_0:=jf BK238.out 0) |(go_at_call 108;(with_reducible refine (jKa.calls _ _ l0_0 ((jZ l0_0 x8_1).f0) t243 _ ?side1 ?side2 A13.out).mono ?_);(case side1=>exact Kd.jea HR0_0.out (Y18));(case side2=>exact HC0_0.out);rintro e w48 ⟨rfl,hb⟩;replace BK238:=am (je (g:=gb238) (o:=.cells #[.slice (some ad240) l0_0.length c0_0] 37 (0,0)) (Y63) hb);replace BK241:=am (je (g:=gb241) (o:=.cells #[.string ((jZ l0_0 x8_1).f0), .int .i64 ((jZ l0_0 x8_1).f1)] 94 (0,0)) (Y64) hb);replace HB:=am (jl (Y18) hb);(try clear hb);(try clear hb2);(try clear hk);(try clear hi)))
         go_meet
         case rel=>exact ⟨_,(true),(sq),H',⟨by have:=HK1.out;first | omega | exact Nat.le_refl _⟩,⟨kq BK238.out⟩,⟨kq BK241.out⟩,⟨Y18⟩⟩
       ·replace c12:=Bool.eq_false_iff.mpr c12
        subst c12
        have H1:(jK.j1 k1 l0_0 (l0_0.length:Int) x8_1 true l0_0)=some r:=by rw [if_neg (show ¬ (false=true) by decide)] at H;exact H
        clear H
        have H:=H1
        clear H1
        have H':=am H
        clear H
        have hnb49:=NB241_238.out
        have hnc49:=NB238_241.out
        have hcz50_0:=bc0 BK241.out
        have hcz50_1:=bc1 BK241.out
        have hfz50_0:=jf BK241.out 0
        have hfz50_1:=jf BK241.out 1
        go_wp2_with (first |((with_reducible refine jC (f:=107) rfl ?_);refine gL (some 15) Try.func107 #[.string ((jZ l0_0 x8_1).f0)] ?_;(with_reducible refine (jHa.calls k1 ((jZ l0_0 x8_1).f0) false _ A11.out).mono ?_);rintro e w' ⟨rfl,⟨nd,rfl⟩⟩;refine ⟨_,rfl,?_⟩))
        go_meet
        case rel=>exact ⟨_,(true),(sq),H',⟨by have:=HK1.out;first | omega | exact Nat.le_refl _⟩,⟨by (with_reducible repeat (first | refine jb ?_ _ | refine jd ?_ | refine jc ?_ _));refine jA ?_ NB238_241.out _;(with_reducible repeat (first | refine jb ?_ _ | refine jd ?_ | refine jc ?_ _));refine jA ?_ NB238_241.out _;(with_reducible repeat (first | refine jb ?_ _ | refine jd ?_ | refine jc ?_ _));exact BK238.out⟩,⟨by (with_reducible repeat (first | refine jb ?_ _ | refine jd ?_ | refine jc ?_ _));refine jfa (cs:=#[.string ((jZ l0_0 x8_1).f0), .int .i64 0]) ?_ 1 _ rfl;(with_reducible repeat (first | refine jb ?_ _ | refine jd ?_ | refine jc ?_ _));refine jfa (cs:=#[.string (⟨#[]⟩:ByteArray), .int .i64 0]) ?_ 0 _ rfl;(with_reducible repeat (first | refine jb ?_ _ | refine jd ?_ | refine jc ?_ _));exact BK241.out⟩,⟨Y18⟩⟩
      case rest =>
       clear HC7
       try clear c1
       try clear c2
       try clear p2
       try clear q2
       try clear hx2
       try clear c3
       try clear c4
       try clear c4b0
       try clear c5
       try clear c5b0
       try clear c6
       try clear c6b0
       try clear p6
       try clear c9
       try clear c10
       try clear c12
       try clear c14
       try clear c14b0
       try clear c14b1
       try clear c15
       try clear c15b0
       try clear c15b1
       try clear c16
       try clear c16b0
       try clear c16b1
       try clear c17
       try clear c17b0
       try clear c19
       try clear c24
       try clear p24
       try clear q24
       try clear hx24
       try clear c29
       try clear c34
       try clear c34b0
       try clear c36
       try clear c41
       try clear c45
       try clear c49
       try clear hcz10_0
       try clear hcz10_1
       try clear hcz20_0
       try clear hcz20_1
       try clear hcz21_0
       try clear hcz23_0
       try clear hcz23_1
       try clear hcz25_0
       try clear hcz25_1
       try clear hcz26_0
       try clear hcz28_0
       try clear hcz28_1
       try clear hcz30_0
       try clear hcz30_1
       try clear hcz31_0
       try clear hcz33_0
       try clear hcz33_1
       try clear hcz37_0
       try clear hcz37_1
       try clear hcz38_0
       try clear hcz3_0
       try clear hcz40_0
       try clear hcz40_1
       try clear hcz42_0
       try clear hcz42_1
       try clear hcz43_0
       try clear hcz46_0
       try clear hcz46_1
       try clear hcz47_0
       try clear hcz50_0
       try clear hcz50_1
       try clear hfz10_0
       try clear hfz10_1
       try clear hfz20_0
       try clear hfz20_1
       try clear hfz21_0
       try clear hfz23_0
       try clear hfz23_1
       try clear hfz25_0
       try clear hfz25_1
       try clear hfz26_0
       try clear hfz28_0
       try clear hfz28_1
       try clear hfz30_0
       try clear hfz30_1
       try clear hfz31_0
       try clear hfz33_0
       try clear hfz33_1
       try clear hfz37_0
       try clear hfz37_1
       try clear hfz38_0
       try clear hfz3_0
       try clear hfz40_0
       try clear hfz40_1
       try clear hfz42_0
       try clear hfz42_1
       try clear hfz43_0
       try clear hfz46_0
       try clear hfz46_1
       try clear hfz47_0
       try clear hfz50_0
       try clear hfz50_1
       try clear hx240_0
       try clear hx240_1
       try clear p2
       try clear p240
       try clear q240
       obtain ⟨kq,x45_6,rfl,HA,HJ6,BK238,BK241,HB⟩:=hcut
       cases kq with
       | zero=>exact absurd HA.out (by simp [jK.j1])
       | succ kj6 =>
        have H:=HA.out
        clear HA
        simp only [jK.j1] at H
        by_cases c51:x45_6=true
        ·subst c51
         have H1:(some false)=some r:=by rw [if_pos rfl] at H;exact H
         clear H
         have H:=H1
         clear H1
         obtain rfl:=Option.some.inj H
         go_wp2
         go_ret
         exact ⟨Y2,Y18⟩
        ·replace c51:=Bool.eq_false_iff.mpr c51
         subst c51
         have H1:(jK.l0 kj6 l0_0 (l0_0.length:Int) (wrap64 (x8_1+1)) l0_0)=some r:=by rw [if_neg (show ¬ (false=true) by decide)] at H;exact H
         clear H
         have H:=H1
         clear H1
         have H':=am H
         clear H
         go_wp2
         go_roundg kj6
         case measure=>have:=HK1.out;have:=HJ6.out;omega
         case rel=>exact ⟨(wrap64 (x8_1+1)),(sq),H',⟨by have:=HK1.out;have:=HJ6.out;omega⟩,⟨kq BK238.out⟩,⟨Y18⟩⟩
     ·rw [if_neg c6] at H
      exact absurd H (by simp)
    ·rw [if_neg c5] at H
     exact absurd H (by simp)
   ·rw [if_neg c4] at H
    have c4b0:decide (x8_1<(l0_0.length:Int))=false:=dzF c4
    clear c4
    replace H:=bzS H
    obtain ⟨t239,A520,H⟩:=H
    replace H:(some t239)=some r:=H
    have A52:=am A520
    clear A520
    obtain rfl:=Option.some.inj H
    have hcz53_0:=bc0 BK238.out
    have hfz53_0:=jf BK238.out 0
    go_wp2_with (first |((with_reducible refine jC (f:=102) rfl ?_);refine gL (some 50) Try.func102 #[.int .i64 (l0_0.length:Int), .int .i64 1, .int .i64 8] ?_;(with_reducible refine (jwa.calls (l0_0.length:Int) 1 8 t239 _ A52.out).mono ?_);rintro e w' ⟨rfl,⟨nd,rfl⟩⟩;refine ⟨_,rfl,?_⟩))
    go_ret
    exact ⟨Y2,Y139⟩
theorem jMa {w : World} {b : Nat} {v : Value} {l : List Value} {t : TypeId} (h : w.heap[b]? = some (.cells ⟨v :: l⟩ t (0, 0))) : w.cell? ⟨b, 0, none⟩ = some v := (jH h 0).trans rfl
theorem cellA1 {w : World} {b : Nat} {v v1 : Value} {l : List Value} {t : TypeId} (h : w.heap[b]? = some (.cells ⟨v :: v1 :: l⟩ t (0, 0))) : w.cell? ⟨b, 1, none⟩ = some v1 := (jH h 1).trans rfl
theorem cellA2 {w : World} {b : Nat} {v v1 v2 : Value} {l : List Value} {t : TypeId} (h : w.heap[b]? = some (.cells ⟨v :: v1 :: v2 :: l⟩ t (0, 0))) : w.cell? ⟨b, 2, none⟩ = some v2 := (jH h 2).trans rfl
theorem cellA3 {w : World} {b : Nat} {v v1 v2 v3 : Value} {l : List Value} {t : TypeId} (h : w.heap[b]? = some (.cells ⟨v :: v1 :: v2 :: v3 :: l⟩ t (0, 0))) : w.cell? ⟨b, 3, none⟩ = some v3 := (jH h 3).trans rfl
def hpIn (a lo hi : Int) : Bool := decide (lo ≤ a) && decide (a ≤ hi)
theorem hp_within (a lo hi : Int) : jwa.f a lo hi = some (hpIn a lo hi) := by
 unfold jwa.f hpIn
 by_cases h:a≥lo
 ·rw [if_pos h];simp [show lo≤a from h]
 ·rw [if_neg h];simp [show ¬ lo≤a from h]
theorem hp_has (l : List S94) (a : Int) : jRa.f l a = some (hpIn a 0 (wrap64 ((l.length : Int) - 1))) := by unfold jRa.f; rw [hp_within]; rfl
theorem hp_code (a : Int) : jnb.f a = some (hpIn a 0 99) := by unfold jnb.f; rw [hp_within]; rfl
def hpLk (m : Nat) (i z : Int) : Bool := decide (z = -1) || (hpIn z 0 ((m : Int) - 1) && decide (z ≠ i))
def hpBad (t : List S94) (m : Nat) (i : Int) (x : S54) : Bool := !hpIn x.f0 0 (wrap64 ((t.length : Int) - 1)) || (!hpIn x.f1 0 99 || (!hpLk m i x.f2 || !hpLk m i x.f3))
def hpAny (t : List S94) (h : List S54) : Nat → Nat → Bool
 | 0,_=>false
 | n+1,i=>if hpBad t h.length (i:Int) (ja h (i:Int))=true then true else hpAny t h n (i+1)
def hpEnds (k : Nat) (h : List S54) : Nat → Nat → Option Bool
 | 0,_=>some true
 | n+1,i=>(jSa.f k h (i:Int)).bind fun l=>if 1≤l.length then (ctxF h (rd l ((l.length:Int) - 1))).bind fun c=>if c = -1 then hpEnds k h n (i+1) else some false else none
def jCa.f (k : Nat) (l0_0 : List S94) (l1_0 : List S54) : Option Bool :=
 if hpAny l0_0 l1_0 l1_0.length 0=true then some false else (hpEnds k l1_0 l1_0.length 0).bind fun b=>if b=true then ((jK.f k l0_0).bind fun v=>some (if v=true then decide ((l1_0.length:Int)≤24) else false)) else some false
set_option maxHeartbeats 8000000 in
set_option maxRecDepth 100000 in
theorem jcc (A_ : Option Addr) (c_ : Nat) (m : Nat) (i z : Int) (B0 : Nat) (w : World) (hm : m ≤ 9223372036854775807) (hc : w.cell? ⟨B0, 0, none⟩ = some (.slice A_ m c_)) :
  Calls Try.prog 93 #[.int .i64 i, .int .i64 z, .pointer (some ⟨B0,0,none⟩)] w fun e w'=>e=.returned (.bool (hpLk m i z))∧Below w.heap.size w w':=by
 have HB:=am (Below.refl w.heap.size w)
 have hu32:=Try.underlying32
 have hw2:IntKind.i64.wrap ((m:Int) - 1)=(m:Int) - 1:=IntWalk.i64_in _ (by omega)
 by_cases h0:z = -1
 ·subst h0
  have HZ:=am (by simp [hpLk]:hpLk m i (-1)=true)
  go_enter Try.func93,Try.ntmps93
  go_wp2
  go_ret
  exact ⟨by rw [HZ.out];rfl,(bq)⟩
 ·have hb0:(z == -1)=false:=by simpa using h0
  by_cases h1:z≥0
  ·have hb1:=dzT h1
   by_cases h2:z≤(m:Int) - 1
   ·have hb2:=dzT h2
    by_cases h3:z=i
    ·have hb3:(z != i)=false:=by simpa using h3
     have HZ:=am (by subst h3;simp [hpLk,h0]:hpLk m i z=false)
     clear h0 h1 h2 h3
     go_enter Try.func93,Try.ntmps93
     go_wp2
     go_ret
     exact ⟨by rw [HZ.out];rfl,(bq)⟩
    ·have hb3:(z != i)=true:=by simpa using h3
     have HZ:=am (by simp [hpLk,h0,h3,hpIn];omega:hpLk m i z=true)
     clear h0 h1 h2 h3
     go_enter Try.func93,Try.ntmps93
     go_wp2
     go_ret
     exact ⟨by rw [HZ.out];rfl,(bq)⟩
   ·have hb2:=dzF h2
    have HZ:=am (by simp [hpLk,h0,hpIn];omega:hpLk m i z=false)
    clear h0 h1 h2
    go_enter Try.func93,Try.ntmps93
    go_wp2
    go_ret
    exact ⟨by rw [HZ.out];rfl,(bq)⟩
  ·have hb1:=dzF h1
   have HZ:=am (by simp [hpLk,h0,hpIn];omega:hpLk m i z=false)
   clear h0 h1
   go_enter Try.func93,Try.ntmps93
   go_wp2
   go_ret
   exact ⟨by rw [HZ.out];rfl,(bq)⟩
set_option maxHeartbeats 8000000 in
set_option maxRecDepth 100000 in
theorem jCa.calls (k : Nat) (A0_0 : Option Addr) (c0_0 : Nat) (l0_0 : List (S94)) (A0 : Option Addr) (c0 : Nat) (l0 : List (S54)) (r : Bool) (w : World) (hr0_0 : Kd.C k94 w A0_0 l0_0.length l0_0) (hc0_0 : l0_0.length ≤ c0_0) (hr0 : Kd.C k54 w A0 l0.length l0) (hc0 : l0.length ≤ c0) (h : jCa.f k l0_0 l0 = some r) :
  Calls Try.prog 63 #[.agg #[.slice A0_0 l0_0.length c0_0], .agg #[.slice A0 l0.length c0]] w fun e w'=>e=.returned (.bool r)∧Below w.heap.size w w':=by
 have hu32:=Try.underlying32
 have hu37:=Try.underlying37
 have hu54:=Try.underlying54
 have hm:l0.length≤9223372036854775807:=Kd.C_max hr0
 have HRT:=am hr0_0
 have HRH:=am hr0
 have hcT:=hc0_0
 have hcH:=hc0
 have H':=am h
 have HB:=am (((Below.refl w.heap.size w).alloc (Nat.le_refl _) (.cells #[.slice A0_0 l0_0.length c0_0] 37)).alloc (by simp) (.cells #[.slice A0 l0.length c0] 32))
 have BT:=am (jc (heap_alloc_new w (.cells #[.slice A0_0 l0_0.length c0_0] 37)) (.cells #[.slice A0 l0.length c0] 32))
 have BH:=am (show ((w.alloc (.cells #[.slice A0_0 l0_0.length c0_0] 37)).alloc (.cells #[.slice A0 l0.length c0] 32)).heap[w.heap.size+1]?=some (.cells #[.slice A0 l0.length c0] 32 (0,0)) by have h:=heap_alloc_new (w.alloc (.cells #[.slice A0_0 l0_0.length c0_0] 37)) (.cells #[.slice A0 l0.length c0] 32);simpa only [World.size_alloc] using h)
 have hmH:=hm
 clear hr0_0 hr0 h hc0_0 hc0
 go_enter Try.func63,Try.ntmps63
 go_wp2
 go_loopw [14] (fun v14 wr=>∃ i:Nat,i≤l0.length∧v14=.int .i64 i∧jw (hpAny l0_0 l0 (l0.length - i) i=hpAny l0_0 l0 l0.length 0)∧jw (wr.heap[w.heap.size]?=some (.cells #[.slice A0_0 l0_0.length c0_0] 37 (0,0)))∧jw (wr.heap[w.heap.size+1]?=some (.cells #[.slice A0 l0.length c0] 32 (0,0)))∧jw (Below w.heap.size w wr)) (fun v14 _=>l0.length - (intOf v14).toNat)
 case atStart=>exact ⟨0,Nat.zero_le _,rfl,⟨rfl⟩,BT,BH,HB⟩
 case round =>
  clear HB BT BH
  obtain ⟨i,hi,rfl,HA,BT,BH,HB⟩:=hrel
  have cT:=jMa BT.out
  have cH:=jMa BH.out
  by_cases hlt:i<l0.length
  ·obtain ⟨ad,rfl,x0,x1,x2,x3,x4⟩:=jfb (Kd.jea HRH.out HB.out) (i:Int) (by omega) (by omega)
   rw [Int.toNat_natCast] at x0 x1 x2 x3 x4
   have hneT:w.heap.size<wr.heap.size:=jV BT.out
   have hneH:w.heap.size+1<wr.heap.size:=jV BH.out
   have BX:=am (heap_alloc_new wr (.cells #[.int .i64 (ja l0 (i:Int)).f0, .int .i64 (ja l0 (i:Int)).f1, .int .i64 (ja l0 (i:Int)).f2, .int .i64 (ja l0 (i:Int)).f3, .bool (ja l0 (i:Int)).f4] 54))
   have HS:=am (show hpAny l0_0 l0 (l0.length - i) i=if hpBad l0_0 l0.length (i:Int) (ja l0 (i:Int))=true then true else hpAny l0_0 l0 (l0.length - (i+1)) (i+1) by rw [show l0.length - i=(l0.length - (i+1))+1 by omega];rfl)

   cases e0:hpIn (ja l0 (i:Int)).f0 0 (wrap64 ((l0_0.length:Int) - 1)) with
   | false =>
    have E0:=am (show jRa.f l0_0 (ja l0 (i:Int)).f0=some false by rw [hp_has,e0])
    have HZ:=am (show r=false by have h:=H'.out;unfold jCa.f at h;rw [← HA.out,HS.out,if_pos (show hpBad l0_0 l0.length (i:Int) (ja l0 (i:Int))=true by simp [hpBad,e0]),if_pos rfl] at h;exact (Option.some.inj h).symm)
    clear e0 HA HS H'
    go_wp2_with (first |(go_at_call 94;refine (jRa.calls _ _ _ _ false _ (Kd.jea HRT.out (bq)) hcT E0.out).mono ?_;rintro e w2 ⟨rfl,hb2⟩;have n0_:=am (je (g:=wr.heap.size) (o:=.cells #[.int .i64 (ja l0 (i:Int)).f0, .int .i64 (ja l0 (i:Int)).f1, .int .i64 (ja l0 (i:Int)).f2, .int .i64 (ja l0 (i:Int)).f3, .bool (ja l0 (i:Int)).f4] 54 (0,0)) (Y29) hb2);have n1_:=am (je (g:=w.heap.size) (o:=.cells #[.slice A0_0 l0_0.length c0_0] 37 (0,0)) (kq BT.out) hb2);have n2_:=am (je (g:=w.heap.size+1) (o:=.cells #[.slice (some ad) l0.length c0] 32 (0,0)) (kq BH.out) hb2);have n3_:=am (jl (bq) hb2);clear BX BT BH HB;(try clear cx0 cx1 cx2 cx3);have BX:=n0_;have BT:=n1_;have BH:=n2_;have HB:=n3_;clear n0_ n1_ n2_ n3_ hb2;have cT:=jMa BT.out;have cH:=jMa BH.out;have cx0:=jMa BX.out;have cx1:=cellA1 BX.out;have cx2:=cellA2 BX.out;have cx3:=cellA3 BX.out))
    go_ret
    exact ⟨by rw [HZ.out];rfl,(bq)⟩
   | true =>
    have E0:=am (show jRa.f l0_0 (ja l0 (i:Int)).f0=some true by rw [hp_has,e0])
    cases e1:hpIn (ja l0 (i:Int)).f1 0 99 with
    | false =>
     have E1:=am (show jnb.f (ja l0 (i:Int)).f1=some false by rw [hp_code,e1])
     have HZ:=am (show r=false by have h:=H'.out;unfold jCa.f at h;rw [← HA.out,HS.out,if_pos (show hpBad l0_0 l0.length (i:Int) (ja l0 (i:Int))=true by simp [hpBad,e0,e1]),if_pos rfl] at h;exact (Option.some.inj h).symm)
     clear e0 e1 HA HS H'
     go_wp2_with (first |(go_at_call 94;refine (jRa.calls _ _ _ _ true _ (Kd.jea HRT.out (bq)) hcT E0.out).mono ?_;rintro e w2 ⟨rfl,hb2⟩;have n0_:=am (je (g:=wr.heap.size) (o:=.cells #[.int .i64 (ja l0 (i:Int)).f0, .int .i64 (ja l0 (i:Int)).f1, .int .i64 (ja l0 (i:Int)).f2, .int .i64 (ja l0 (i:Int)).f3, .bool (ja l0 (i:Int)).f4] 54 (0,0)) (Y29) hb2);have n1_:=am (je (g:=w.heap.size) (o:=.cells #[.slice A0_0 l0_0.length c0_0] 37 (0,0)) (kq BT.out) hb2);have n2_:=am (je (g:=w.heap.size+1) (o:=.cells #[.slice (some ad) l0.length c0] 32 (0,0)) (kq BH.out) hb2);have n3_:=am (jl (bq) hb2);clear BX BT BH HB;(try clear cx0 cx1 cx2 cx3);have BX:=n0_;have BT:=n1_;have BH:=n2_;have HB:=n3_;clear n0_ n1_ n2_ n3_ hb2;have cT:=jMa BT.out;have cH:=jMa BH.out;have cx0:=jMa BX.out;have cx1:=cellA1 BX.out;have cx2:=cellA2 BX.out;have cx3:=cellA3 BX.out) |(go_at_call 95;refine (jnb.calls _ false _ E1.out).mono ?_;rintro e w3 ⟨rfl,hd3⟩;have hb3:=hd3.below;clear hd3;have n0_:=am (je (g:=wr.heap.size) (o:=.cells #[.int .i64 (ja l0 (i:Int)).f0, .int .i64 (ja l0 (i:Int)).f1, .int .i64 (ja l0 (i:Int)).f2, .int .i64 (ja l0 (i:Int)).f3, .bool (ja l0 (i:Int)).f4] 54 (0,0)) (Y29) hb3);have n1_:=am (je (g:=w.heap.size) (o:=.cells #[.slice A0_0 l0_0.length c0_0] 37 (0,0)) (kq BT.out) hb3);have n2_:=am (je (g:=w.heap.size+1) (o:=.cells #[.slice (some ad) l0.length c0] 32 (0,0)) (kq BH.out) hb3);have n3_:=am (jl (bq) hb3);clear BX BT BH HB;(try clear cx0 cx1 cx2 cx3);have BX:=n0_;have BT:=n1_;have BH:=n2_;have HB:=n3_;clear n0_ n1_ n2_ n3_ hb3;have cT:=jMa BT.out;have cH:=jMa BH.out;have cx0:=jMa BX.out;have cx1:=cellA1 BX.out;have cx2:=cellA2 BX.out;have cx3:=cellA3 BX.out))
     go_ret
     exact ⟨by rw [HZ.out];rfl,(bq)⟩
    | true =>
     have E1:=am (show jnb.f (ja l0 (i:Int)).f1=some true by rw [hp_code,e1])
     cases e2:hpLk l0.length (i:Int) (ja l0 (i:Int)).f2 with
     | false =>
      have E2:=am (e2)
      have HZ:=am (show r=false by have h:=H'.out;unfold jCa.f at h;rw [← HA.out,HS.out,if_pos (show hpBad l0_0 l0.length (i:Int) (ja l0 (i:Int))=true by simp [hpBad,e0,e1,e2]),if_pos rfl] at h;exact (Option.some.inj h).symm)
      clear e0 e1 e2 HA HS H'
      go_wp2_with (first |(go_at_call 94;refine (jRa.calls _ _ _ _ true _ (Kd.jea HRT.out (bq)) hcT E0.out).mono ?_;rintro e w2 ⟨rfl,hb2⟩;have n0_:=am (je (g:=wr.heap.size) (o:=.cells #[.int .i64 (ja l0 (i:Int)).f0, .int .i64 (ja l0 (i:Int)).f1, .int .i64 (ja l0 (i:Int)).f2, .int .i64 (ja l0 (i:Int)).f3, .bool (ja l0 (i:Int)).f4] 54 (0,0)) (Y29) hb2);have n1_:=am (je (g:=w.heap.size) (o:=.cells #[.slice A0_0 l0_0.length c0_0] 37 (0,0)) (kq BT.out) hb2);have n2_:=am (je (g:=w.heap.size+1) (o:=.cells #[.slice (some ad) l0.length c0] 32 (0,0)) (kq BH.out) hb2);have n3_:=am (jl (bq) hb2);clear BX BT BH HB;(try clear cx0 cx1 cx2 cx3);have BX:=n0_;have BT:=n1_;have BH:=n2_;have HB:=n3_;clear n0_ n1_ n2_ n3_ hb2;have cT:=jMa BT.out;have cH:=jMa BH.out;have cx0:=jMa BX.out;have cx1:=cellA1 BX.out;have cx2:=cellA2 BX.out;have cx3:=cellA3 BX.out) |(go_at_call 95;refine (jnb.calls _ true _ E1.out).mono ?_;rintro e w3 ⟨rfl,hd3⟩;have hb3:=hd3.below;clear hd3;have n0_:=am (je (g:=wr.heap.size) (o:=.cells #[.int .i64 (ja l0 (i:Int)).f0, .int .i64 (ja l0 (i:Int)).f1, .int .i64 (ja l0 (i:Int)).f2, .int .i64 (ja l0 (i:Int)).f3, .bool (ja l0 (i:Int)).f4] 54 (0,0)) (Y29) hb3);have n1_:=am (je (g:=w.heap.size) (o:=.cells #[.slice A0_0 l0_0.length c0_0] 37 (0,0)) (kq BT.out) hb3);have n2_:=am (je (g:=w.heap.size+1) (o:=.cells #[.slice (some ad) l0.length c0] 32 (0,0)) (kq BH.out) hb3);have n3_:=am (jl (bq) hb3);clear BX BT BH HB;(try clear cx0 cx1 cx2 cx3);have BX:=n0_;have BT:=n1_;have BH:=n2_;have HB:=n3_;clear n0_ n1_ n2_ n3_ hb3;have cT:=jMa BT.out;have cH:=jMa BH.out;have cx0:=jMa BX.out;have cx1:=cellA1 BX.out;have cx2:=cellA2 BX.out;have cx3:=cellA3 BX.out) |(go_at_call 93;refine (jcc _ _ _ _ _ _ _ hmH cH).mono ?_;rw [E2.out];rintro e w4 ⟨rfl,hb4⟩;have n0_:=am (je (g:=wr.heap.size) (o:=.cells #[.int .i64 (ja l0 (i:Int)).f0, .int .i64 (ja l0 (i:Int)).f1, .int .i64 (ja l0 (i:Int)).f2, .int .i64 (ja l0 (i:Int)).f3, .bool (ja l0 (i:Int)).f4] 54 (0,0)) (Y29) hb4);have n1_:=am (je (g:=w.heap.size) (o:=.cells #[.slice A0_0 l0_0.length c0_0] 37 (0,0)) (kq BT.out) hb4);have n2_:=am (je (g:=w.heap.size+1) (o:=.cells #[.slice (some ad) l0.length c0] 32 (0,0)) (kq BH.out) hb4);have n3_:=am (jl (bq) hb4);clear BX BT BH HB;(try clear cx0 cx1 cx2 cx3);have BX:=n0_;have BT:=n1_;have BH:=n2_;have HB:=n3_;clear n0_ n1_ n2_ n3_ hb4;have cT:=jMa BT.out;have cH:=jMa BH.out;have cx0:=jMa BX.out;have cx1:=cellA1 BX.out;have cx2:=cellA2 BX.out;have cx3:=cellA3 BX.out))
      go_ret
      exact ⟨by rw [HZ.out];rfl,(bq)⟩
     | true =>
      have E2:=am (e2)
      cases e3:hpLk l0.length (i:Int) (ja l0 (i:Int)).f3 with
      | false =>
       have E3:=am (e3)
       have HZ:=am (show r=false by have h:=H'.out;unfold jCa.f at h;rw [← HA.out,HS.out,if_pos (show hpBad l0_0 l0.length (i:Int) (ja l0 (i:Int))=true by simp [hpBad,e0,e1,e2,e3]),if_pos rfl] at h;exact (Option.some.inj h).symm)
       clear e0 e1 e2 e3 HA HS H'
       go_wp2_with (first |(go_at_call 94;refine (jRa.calls _ _ _ _ true _ (Kd.jea HRT.out (bq)) hcT E0.out).mono ?_;rintro e w2 ⟨rfl,hb2⟩;have n0_:=am (je (g:=wr.heap.size) (o:=.cells #[.int .i64 (ja l0 (i:Int)).f0, .int .i64 (ja l0 (i:Int)).f1, .int .i64 (ja l0 (i:Int)).f2, .int .i64 (ja l0 (i:Int)).f3, .bool (ja l0 (i:Int)).f4] 54 (0,0)) (Y29) hb2);have n1_:=am (je (g:=w.heap.size) (o:=.cells #[.slice A0_0 l0_0.length c0_0] 37 (0,0)) (kq BT.out) hb2);have n2_:=am (je (g:=w.heap.size+1) (o:=.cells #[.slice (some ad) l0.length c0] 32 (0,0)) (kq BH.out) hb2);have n3_:=am (jl (bq) hb2);clear BX BT BH HB;(try clear cx0 cx1 cx2 cx3);have BX:=n0_;have BT:=n1_;have BH:=n2_;have HB:=n3_;clear n0_ n1_ n2_ n3_ hb2;have cT:=jMa BT.out;have cH:=jMa BH.out;have cx0:=jMa BX.out;have cx1:=cellA1 BX.out;have cx2:=cellA2 BX.out;have cx3:=cellA3 BX.out) |(go_at_call 95;refine (jnb.calls _ true _ E1.out).mono ?_;rintro e w3 ⟨rfl,hd3⟩;have hb3:=hd3.below;clear hd3;have n0_:=am (je (g:=wr.heap.size) (o:=.cells #[.int .i64 (ja l0 (i:Int)).f0, .int .i64 (ja l0 (i:Int)).f1, .int .i64 (ja l0 (i:Int)).f2, .int .i64 (ja l0 (i:Int)).f3, .bool (ja l0 (i:Int)).f4] 54 (0,0)) (Y29) hb3);have n1_:=am (je (g:=w.heap.size) (o:=.cells #[.slice A0_0 l0_0.length c0_0] 37 (0,0)) (kq BT.out) hb3);have n2_:=am (je (g:=w.heap.size+1) (o:=.cells #[.slice (some ad) l0.length c0] 32 (0,0)) (kq BH.out) hb3);have n3_:=am (jl (bq) hb3);clear BX BT BH HB;(try clear cx0 cx1 cx2 cx3);have BX:=n0_;have BT:=n1_;have BH:=n2_;have HB:=n3_;clear n0_ n1_ n2_ n3_ hb3;have cT:=jMa BT.out;have cH:=jMa BH.out;have cx0:=jMa BX.out;have cx1:=cellA1 BX.out;have cx2:=cellA2 BX.out;have cx3:=cellA3 BX.out) |(go_at_call 93;refine (jcc _ _ _ _ _ _ _ hmH cH).mono ?_;(first | rw [E2.out] | rw [E3.out]);rintro e w4 ⟨rfl,hb4⟩;have n0_:=am (je (g:=wr.heap.size) (o:=.cells #[.int .i64 (ja l0 (i:Int)).f0, .int .i64 (ja l0 (i:Int)).f1, .int .i64 (ja l0 (i:Int)).f2, .int .i64 (ja l0 (i:Int)).f3, .bool (ja l0 (i:Int)).f4] 54 (0,0)) (Y29) hb4);have n1_:=am (je (g:=w.heap.size) (o:=.cells #[.slice A0_0 l0_0.length c0_0] 37 (0,0)) (kq BT.out) hb4);have n2_:=am (je (g:=w.heap.size+1) (o:=.cells #[.slice (some ad) l0.length c0] 32 (0,0)) (kq BH.out) hb4);have n3_:=am (jl (bq) hb4);clear BX BT BH HB;(try clear cx0 cx1 cx2 cx3);have BX:=n0_;have BT:=n1_;have BH:=n2_;have HB:=n3_;clear n0_ n1_ n2_ n3_ hb4;have cT:=jMa BT.out;have cH:=jMa BH.out;have cx0:=jMa BX.out;have cx1:=cellA1 BX.out;have cx2:=cellA2 BX.out;have cx3:=cellA3 BX.out))
       go_ret
       exact ⟨by rw [HZ.out];rfl,(bq)⟩
      | true =>
       have E3:=am (e3)
       have HN:=am (show hpAny l0_0 l0 (l0.length - (i+1)) (i+1)=hpAny l0_0 l0 l0.length 0 by rw [← HA.out,HS.out,if_neg (show ¬ hpBad l0_0 l0.length (i:Int) (ja l0 (i:Int))=true by simp [hpBad,e0,e1,e2,e3])])
       clear e0 e1 e2 e3 HA HS H'
       go_wp2_with (first |(go_at_call 94;refine (jRa.calls _ _ _ _ true _ (Kd.jea HRT.out (bq)) hcT E0.out).mono ?_;rintro e w2 ⟨rfl,hb2⟩;have n0_:=am (je (g:=wr.heap.size) (o:=.cells #[.int .i64 (ja l0 (i:Int)).f0, .int .i64 (ja l0 (i:Int)).f1, .int .i64 (ja l0 (i:Int)).f2, .int .i64 (ja l0 (i:Int)).f3, .bool (ja l0 (i:Int)).f4] 54 (0,0)) (Y29) hb2);have n1_:=am (je (g:=w.heap.size) (o:=.cells #[.slice A0_0 l0_0.length c0_0] 37 (0,0)) (kq BT.out) hb2);have n2_:=am (je (g:=w.heap.size+1) (o:=.cells #[.slice (some ad) l0.length c0] 32 (0,0)) (kq BH.out) hb2);have n3_:=am (jl (bq) hb2);clear BX BT BH HB;(try clear cx0 cx1 cx2 cx3);have BX:=n0_;have BT:=n1_;have BH:=n2_;have HB:=n3_;clear n0_ n1_ n2_ n3_ hb2;have cT:=jMa BT.out;have cH:=jMa BH.out;have cx0:=jMa BX.out;have cx1:=cellA1 BX.out;have cx2:=cellA2 BX.out;have cx3:=cellA3 BX.out) |(go_at_call 95;refine (jnb.calls _ true _ E1.out).mono ?_;rintro e w3 ⟨rfl,hd3⟩;have hb3:=hd3.below;clear hd3;have n0_:=am (je (g:=wr.heap.size) (o:=.cells #[.int .i64 (ja l0 (i:Int)).f0, .int .i64 (ja l0 (i:Int)).f1, .int .i64 (ja l0 (i:Int)).f2, .int .i64 (ja l0 (i:Int)).f3, .bool (ja l0 (i:Int)).f4] 54 (0,0)) (Y29) hb3);have n1_:=am (je (g:=w.heap.size) (o:=.cells #[.slice A0_0 l0_0.length c0_0] 37 (0,0)) (kq BT.out) hb3);have n2_:=am (je (g:=w.heap.size+1) (o:=.cells #[.slice (some ad) l0.length c0] 32 (0,0)) (kq BH.out) hb3);have n3_:=am (jl (bq) hb3);clear BX BT BH HB;(try clear cx0 cx1 cx2 cx3);have BX:=n0_;have BT:=n1_;have BH:=n2_;have HB:=n3_;clear n0_ n1_ n2_ n3_ hb3;have cT:=jMa BT.out;have cH:=jMa BH.out;have cx0:=jMa BX.out;have cx1:=cellA1 BX.out;have cx2:=cellA2 BX.out;have cx3:=cellA3 BX.out) |(go_at_call 93;refine (jcc _ _ _ _ _ _ _ hmH cH).mono ?_;(first | rw [E2.out] | rw [E3.out]);rintro e w4 ⟨rfl,hb4⟩;have n0_:=am (je (g:=wr.heap.size) (o:=.cells #[.int .i64 (ja l0 (i:Int)).f0, .int .i64 (ja l0 (i:Int)).f1, .int .i64 (ja l0 (i:Int)).f2, .int .i64 (ja l0 (i:Int)).f3, .bool (ja l0 (i:Int)).f4] 54 (0,0)) (Y29) hb4);have n1_:=am (je (g:=w.heap.size) (o:=.cells #[.slice A0_0 l0_0.length c0_0] 37 (0,0)) (kq BT.out) hb4);have n2_:=am (je (g:=w.heap.size+1) (o:=.cells #[.slice (some ad) l0.length c0] 32 (0,0)) (kq BH.out) hb4);have n3_:=am (jl (bq) hb4);clear BX BT BH HB;(try clear cx0 cx1 cx2 cx3);have BX:=n0_;have BT:=n1_;have BH:=n2_;have HB:=n3_;clear n0_ n1_ n2_ n3_ hb4;have cT:=jMa BT.out;have cH:=jMa BH.out;have cx0:=jMa BX.out;have cx1:=cellA1 BX.out;have cx2:=cellA2 BX.out;have cx3:=cellA3 BX.out))
       go_roundw
       case rel=>exact ⟨i+1,hlt,by go_num,HN,⟨kq BT.out⟩,⟨kq BH.out⟩,⟨(bq)⟩⟩
       case measure=>simp [intOf];omega
  ·obtain rfl:i=l0.length:=by omega
   have HG:=am (show (hpEnds k l0 l0.length 0).bind (fun b=>if b=true then ((jK.f k l0_0).bind fun v=>some (if v=true then decide ((l0.length:Int)≤24) else false)) else some false)=some r by
    have h:=H'.out
    unfold jCa.f at h
    have hA:=HA.out
    rw [Nat.sub_self] at hA
    rw [if_neg (show ¬ hpAny l0_0 l0 l0.length 0=true by rw [← hA];simp [hpAny])] at h
    exact h)
   clear HA H'
   obtain ⟨b,hE,hG⟩:=bzS HG.out
   have HE:=am hE
   have HG2:=am hG
   clear HG hE hG
   go_wp2
   go_loopw [50] (fun v50 wr=>∃ j:Nat,j≤l0.length∧v50=.int .i64 j∧jw (hpEnds k l0 (l0.length - j) j=some b)∧jw (wr.heap[w.heap.size]?=some (.cells #[.slice A0_0 l0_0.length c0_0] 37 (0,0)))∧jw (wr.heap[w.heap.size+1]?=some (.cells #[.slice A0 l0.length c0] 32 (0,0)))∧jw (Below w.heap.size w wr)) (fun v50 _=>l0.length - (intOf v50).toNat)
   case atStart=>exact ⟨0,Nat.zero_le _,rfl,HE,BT,BH,HB⟩
   case round =>
    clear HB BT BH cT cH HE hlt
    obtain ⟨j,hj,rfl,HA,BT,BH,HB⟩:=hrel
    have cT:=jMa BT.out
    have cH:=jMa BH.out
    by_cases hlt:j<l0.length
    ·have hA:=HA.out
     rw [show l0.length - j=(l0.length - (j+1))+1 by omega,hpEnds] at hA
     obtain ⟨l,hl,hA⟩:=bzS hA
     have HC:=am (fun W (hb:Below w.heap.size w W)=>jSa.calls k A0 c0 l0 (j:Int) l W (Kd.jea HRH.out hb) hcH hl)
     clear HA hl
     by_cases hlen:1≤l.length
     ·rw [if_pos hlen] at hA
      obtain ⟨c,hc,hA⟩:=bzS hA
      unfold ctxF at hc
      obtain ⟨ji,hji⟩:∃ ji,ji=(l.length:Int) - 1:=⟨_,rfl⟩
      rw [← hji] at hc
      have HJ:=am hji
      by_cases hc1:0≤rd l ji
      ·rw [if_pos hc1] at hc
       by_cases hc2:rd l ji<(l0.length:Int)
       ·rw [if_pos hc2] at hc
        have hc3:=Option.some.inj hc
        clear hc
        have hl0:0≤ji:=by omega
        have hl1:ji<(l.length:Int):=by omega
        clear hji
        have p0:=ezT hc1
        have p1:=ezT hc2
        have p2:=ezT hl0
        have p3:=ezT hl1
        by_cases e1:c = -1
        ·rw [if_pos e1] at hA
         have HN:=am hA
         have hcb:((ja l0 (rd l ji)).f3 != -1)=false:=by rw [hc3];simpa using e1
         clear hA e1 hc3 hlen
         go_wp2_with (go_at_call 57;refine (HC.out _ (bq)).mono ?_;rintro e w2 ⟨v2,rfl,hr2,hb2⟩;have n1_:=am (je (g:=w.heap.size) (o:=.cells #[.slice A0_0 l0_0.length c0_0] 37 (0,0)) (kq BT.out) hb2);have n2_:=am (je (g:=w.heap.size+1) (o:=.cells #[.slice A0 l0.length c0] 32 (0,0)) (kq BH.out) hb2);have n3_:=am (jl (bq) hb2);clear BT BH HB;have BT:=n1_;have BH:=n2_;have HB:=n3_;clear n1_ n2_ n3_ hb2;have cT:=jMa BT.out;have cH:=jMa BH.out;obtain ⟨Ao,co,eo⟩:=Kd.jaa hr2;subst eo;have hw2:IntKind.i64.wrap ((l.length:Int) - 1)=ji:=(by rw [HJ.out];exact IntWalk.i64_in _ (by have:=Kd.C_max (Kd.jB hr2).2.2;omega));obtain ⟨ad2,rfl,hz⟩:=Kd.jOb (Kd.jB hr2).2.2 ji hl0 hl1;obtain ⟨ad,e3,y0,y1,y2,y3,y4⟩:=jfb (Kd.jea HRH.out HB.out) (rd l ji) hc1 hc2;cases e3;clear hr2)
         repeat (go_quiet (fail);try go_wp2)
         go_roundw
         case rel=>exact ⟨j+1,hlt,by go_num,HN,⟨kq BT.out⟩,⟨kq BH.out⟩,⟨(bq)⟩⟩
         case measure=>simp [intOf];omega
        ·rw [if_neg e1] at hA
         have hcb:((ja l0 (rd l ji)).f3 != -1)=true:=by rw [hc3];simpa using e1
         have HZ:=am (show r=false by
          have h:=HG2.out
          rw [← Option.some.inj hA,if_neg (by simp)] at h
          exact (Option.some.inj h).symm)
         clear hA e1 hc3 hlen HG2
         go_wp2_with (go_at_call 57;refine (HC.out _ (bq)).mono ?_;rintro e w2 ⟨v2,rfl,hr2,hb2⟩;have n1_:=am (je (g:=w.heap.size) (o:=.cells #[.slice A0_0 l0_0.length c0_0] 37 (0,0)) (kq BT.out) hb2);have n2_:=am (je (g:=w.heap.size+1) (o:=.cells #[.slice A0 l0.length c0] 32 (0,0)) (kq BH.out) hb2);have n3_:=am (jl (bq) hb2);clear BT BH HB;have BT:=n1_;have BH:=n2_;have HB:=n3_;clear n1_ n2_ n3_ hb2;have cT:=jMa BT.out;have cH:=jMa BH.out;obtain ⟨Ao,co,eo⟩:=Kd.jaa hr2;subst eo;have hw2:IntKind.i64.wrap ((l.length:Int) - 1)=ji:=(by rw [HJ.out];exact IntWalk.i64_in _ (by have:=Kd.C_max (Kd.jB hr2).2.2;omega));obtain ⟨ad2,rfl,hz⟩:=Kd.jOb (Kd.jB hr2).2.2 ji hl0 hl1;obtain ⟨ad,e3,y0,y1,y2,y3,y4⟩:=jfb (Kd.jea HRH.out HB.out) (rd l ji) hc1 hc2;cases e3;clear hr2)
         repeat (go_quiet (fail);try go_wp2)
         go_ret
         exact ⟨by rw [HZ.out];rfl,(bq)⟩
       ·rw [if_neg hc2] at hc;cases hc
      ·rw [if_neg hc1] at hc;cases hc
     ·rw [if_neg hlen] at hA;cases hA
    ·obtain rfl:j=l0.length:=by omega
     have hA:=HA.out
     rw [Nat.sub_self] at hA
     have hG:=HG2.out
     rw [← Option.some.inj (show some true=some b from hA),if_pos rfl] at hG
     obtain ⟨v,hv,hG⟩:=bzS hG
     have HV:=am (fun W (hb:Below w.heap.size w W)=>jK.calls k A0_0 c0_0 l0_0 v W (Kd.jea HRT.out hb) hcT hv)
     have hZ:=Option.some.inj hG
     clear HA HG2 hA hG hv
     cases v with
     | false =>
      have HZ:=am (show r=false by rw [← hZ];rfl)
      clear hZ
      go_wp2_with (go_at_call 96;refine (HV.out _ (bq)).mono ?_;rintro e w2 ⟨rfl,hb2⟩;have n1_:=am (je (g:=w.heap.size) (o:=.cells #[.slice A0_0 l0_0.length c0_0] 37 (0,0)) (kq BT.out) hb2);have n2_:=am (je (g:=w.heap.size+1) (o:=.cells #[.slice A0 l0.length c0] 32 (0,0)) (kq BH.out) hb2);have n3_:=am (jl (bq) hb2);clear BT BH HB;have BT:=n1_;have BH:=n2_;have HB:=n3_;clear n1_ n2_ n3_ hb2;have cT:=jMa BT.out;have cH:=jMa BH.out)
      go_ret
      exact ⟨by rw [HZ.out];rfl,(bq)⟩
     | true =>
      rw [if_pos rfl] at hZ
      have HZ:=am hZ
      clear hZ
      go_wp2_with (go_at_call 96;refine (HV.out _ (bq)).mono ?_;rintro e w2 ⟨rfl,hb2⟩;have n1_:=am (je (g:=w.heap.size) (o:=.cells #[.slice A0_0 l0_0.length c0_0] 37 (0,0)) (kq BT.out) hb2);have n2_:=am (je (g:=w.heap.size+1) (o:=.cells #[.slice A0 l0.length c0] 32 (0,0)) (kq BH.out) hb2);have n3_:=am (jl (bq) hb2);clear BT BH HB;have BT:=n1_;have BH:=n2_;have HB:=n3_;clear n1_ n2_ n3_ hb2;have cT:=jMa BT.out;have cH:=jMa BH.out)
      go_ret
      exact ⟨by rw [← HZ.out];rfl,(bq)⟩
set_option maxHeartbeats 8000000 in
set_option maxRecDepth 100000 in
theorem impl_faultsIn1_calls (A_ : Option Addr) (c_ : Nat) (m : Nat) (x : Int) (B0 : Nat) (w : World) (hm : m ≤ 9223372036854775807) (hc : w.cell? ⟨B0, 0, none⟩ = some (.slice A_ m c_)) :
  Calls Try.prog 74 #[.int .i64 x, .pointer (some ⟨B0,0,none⟩)] w fun e w'=>e=.returned (.bool (!hpIn x 0 ((m:Int) - 1)))∧Below w.heap.size w w':=by
 have HB:=am (Below.refl w.heap.size w)
 have hu32:=Try.underlying32
 have hw2:IntKind.i64.wrap ((m:Int) - 1)=(m:Int) - 1:=IntWalk.i64_in _ (by omega)
 by_cases h1:x≥0
 ·have hb1:=dzT h1
  by_cases h2:x≤(m:Int) - 1
  ·have hb2:=dzT h2
   have HZ:=am (by simp [hpIn];omega:hpIn x 0 ((m:Int) - 1)=true)
   clear h1 h2
   go_enter Try.func74,Try.ntmps74
   go_wp2
   go_ret
   exact ⟨by rw [HZ.out];rfl,(bq)⟩
  ·have hb2:=dzF h2
   have HZ:=am (by simp [hpIn];omega:hpIn x 0 ((m:Int) - 1)=false)
   clear h1 h2
   go_enter Try.func74,Try.ntmps74
   go_wp2
   go_ret
   exact ⟨by rw [HZ.out];rfl,(bq)⟩
 ·have hb1:=dzF h1
  have HZ:=am (by simp [hpIn];omega:hpIn x 0 ((m:Int) - 1)=false)
  clear h1
  go_enter Try.func74,Try.ntmps74
  go_wp2
  go_ret
  exact ⟨by rw [HZ.out];rfl,(bq)⟩
set_option maxHeartbeats 8000000 in
set_option maxRecDepth 100000 in
theorem impl_faultsIn_idx (A_ : Option Addr) (c_ : Nat) (l : List (Int)) (B0_ : Nat) (p : Int → Option Bool) (r : Int) (w : World) (hr : Kd.C (Kd.int .i64) w A_ l.length l) (h : idxFrom p l 0 = some r)
  (hp:∀ W,Below w.heap.size w W→∀ (x:Int) (b:Bool),p x=some b→Calls Try.prog 74 #[.int .i64 x, .pointer (some ⟨B0_,0,none⟩)] W fun e w'=>e=.returned (.bool b)∧Below W.heap.size W w') :
  Calls Try.prog 101 #[.slice A_ l.length c_, .func (.func 74) #[] #[.pointer (some ⟨B0_,0,none⟩)]] w fun e w'=>e=.returned (.int .i64 r)∧Below w.heap.size w w':=by
 have hm:l.length≤9223372036854775807:=Kd.C_max hr
 have HR:=am hr
 have HP:=am hp
 have H0:=am h
 clear hr hp h
 go_enter Try.func101,Try.ntmps101
 go_wp2
 go_loopw [5,8] (fun i5 i8 wr=>∃ k:Nat,k≤l.length∧i8=.int .i64 k∧jw (idxFrom p (l.drop k) k=some r)∧Below w.heap.size w wr) (fun _ i8 _=>l.length - (intOf i8).toNat)
 case atStart=>exact ⟨0,Nat.zero_le _,rfl,H0,Below.refl _ _⟩
 case round =>
  clear H0
  obtain ⟨k,hk,rfl,HA,hb⟩:=hrel
  by_cases hlt:k<l.length
  ·have HB:=am (idxFrom_step hlt HA.out)
   clear HA
   obtain ⟨ad,rfl,hx0⟩:=Kd.jOb HR.out (k:Int) (by omega) (by omega)
   have hrd:rd l (k:Int)=l[k]:=by simp [rd,List.getD_eq_getElem?_getD,hlt]
   replace hx0:=jDa hb hx0
   rw [hrd] at hx0
   simp only [Int.toNat_natCast] at hx0
   clear hrd
   obtain ⟨b,hb1,hb0⟩:=HB.out
   have HQ:=am hb1
   clear hb1 HB
   cases b with
   | true =>
    have HZ:=am (by simpa using hb0:(k:Int)=r)
    clear hb0
    go_wp2_with (go_at_call 74;refine (HP.out _ hb _ _ HQ.out).mono ?_;rintro e w' ⟨rfl,hb2⟩)
    go_ret
    exact ⟨by rw [← HZ.out];rfl,jDb hb hb.size hb2⟩
   | false =>
    have HZ:=am (by simpa using hb0:idxFrom p (l.drop (k+1)) (k+1)=some r)
    clear hb0
    go_wp2_with (go_at_call 74;refine (HP.out _ hb _ _ HQ.out).mono ?_;rintro e w' ⟨rfl,hb2⟩)
    go_roundw
    case rel=>exact ⟨k+1,hlt,by go_num,HZ,jDb hb hb.size hb2⟩
    case measure=>simp [intOf];omega
  ·have HZ:=am (idxFrom_end (by omega) HA.out)
   clear HA
   go_wp2
   go_ret
   exact ⟨by rw [HZ.out];rfl,hb⟩
set_option maxHeartbeats 8000000 in
set_option maxRecDepth 100000 in
theorem impl_faultsIn_any (A_ : Option Addr) (c_ : Nat) (l : List Int) (B0_ : Nat) (p : Int → Option Bool) (r : Int) (w : World) (hr : Kd.C (Kd.int .i64) w A_ l.length l) (h : idxFrom p l 0 = some r)
  (hp:∀ W,Below w.heap.size w W→∀ (x:Int) (b:Bool),p x=some b→Calls Try.prog 74 #[.int .i64 x, .pointer (some ⟨B0_,0,none⟩)] W fun e w'=>e=.returned (.bool b)∧Below W.heap.size W w') :
  Calls Try.prog 73 #[.slice A_ l.length c_, .func (.func 74) #[] #[.pointer (some ⟨B0_,0,none⟩)]] w fun e w'=>e=.returned (.bool (decide (0≤r)))∧Below w.heap.size w w':=by
 have HF:=am (impl_faultsIn_idx A_ c_ l B0_ p r w hr h hp)
 clear hr h hp
 go_enter Try.func73,Try.ntmps73
 go_wp2_with (go_at_call 101;refine HF.out.mono ?_;rintro e w' ⟨rfl,hb2⟩)
 go_ret
 exact ⟨rfl,hb2⟩
def jab.f (k : Nat) (l0_0 : List S94) (l1_0 : List S54) (l2 : List Int) : Option Bool := (jCa.f k l0_0 l1_0).bind fun v => if v then (idxFrom (fun x => some (!hpIn x 0 ((l1_0.length : Int) - 1))) l2 0).bind fun r => some (!decide (0 ≤ r)) else some false
set_option maxHeartbeats 8000000 in
set_option maxRecDepth 100000 in
theorem jab.calls (k : Nat) (A0_0 : Option Addr) (c0_0 : Nat) (l0_0 : List (S94)) (A1_0 : Option Addr) (c1_0 : Nat) (l1_0 : List (S54)) (A2 : Option Addr) (c2 : Nat) (l2 : List Int) (r : Bool) (w : World) (hr0_0 : Kd.C k94 w A0_0 l0_0.length l0_0) (hc0_0 : l0_0.length ≤ c0_0) (hr1_0 : Kd.C k54 w A1_0 l1_0.length l1_0) (hc1_0 : l1_0.length ≤ c1_0) (hr2 : Kd.C (Kd.int .i64) w A2 l2.length l2) (hc2 : l2.length ≤ c2) (h : jab.f k l0_0 l1_0 l2 = some r) :
  Calls Try.prog 45 #[.agg #[.slice A0_0 l0_0.length c0_0], .agg #[.slice A1_0 l1_0.length c1_0], .slice A2 l2.length c2] w fun e w'=>e=.returned (.bool r)∧Below w.heap.size w w':=by
 obtain ⟨v,hv,h⟩:=bzS h
 have hu37:=Try.underlying37
 have hu32:=Try.underlying32
 have hm:l1_0.length≤9223372036854775807:=Kd.C_max hr1_0
 have B0:=am (((Below.refl w.heap.size w).alloc (Nat.le_refl _) (.cells #[.slice A0_0 l0_0.length c0_0] 37)).alloc (by simp) (.cells #[.slice A1_0 l1_0.length c1_0] 32))
 have KC:=am (show ((w.alloc (.cells #[.slice A0_0 l0_0.length c0_0] 37)).alloc (.cells #[.slice A1_0 l1_0.length c1_0] 32)).cell? ⟨w.heap.size+1,0,none⟩=some (.slice A1_0 l1_0.length c1_0) by have h:=hp_cell_new (w.alloc (.cells #[.slice A0_0 l0_0.length c0_0] 37)) (.slice A1_0 l1_0.length c1_0) 32;simpa only [World.size_alloc] using h)
 have HV:=am (fun W (hb:Below w.heap.size w W)=>jCa.calls k A0_0 c0_0 l0_0 A1_0 c1_0 l1_0 v W (Kd.jea hr0_0 hb) hc0_0 (Kd.jea hr1_0 hb) hc1_0 hv)
 cases v with
 | false =>
  obtain rfl:false=r:=by simpa using h
  clear hv h hr0_0 hr1_0 hr2
  go_enter Try.func45,Try.ntmps45
  go_wp2_with (go_at_call 63;refine (HV.out _ B0.out).mono ?_;rintro e w' ⟨rfl,hb2⟩)
  go_ret
  exact ⟨rfl,jDb B0.out B0.out.size hb2⟩
 | true =>
  simp only [if_true] at h
  obtain ⟨q,hq,h⟩:=bzS h
  have HZ:=am (Option.some.inj h)
  have HF:=am (fun W (hb:Below w.heap.size w W) (B:Nat) (hc:W.cell? ⟨B,0,none⟩=some (.slice A1_0 l1_0.length c1_0))=>impl_faultsIn_any A2 c2 l2 B (fun x=>some (!hpIn x 0 ((l1_0.length:Int) - 1))) q W (Kd.jea hr2 hb) hq (fun W' hb' x b hx=>by
   obtain rfl:=Option.some.inj hx
   exact impl_faultsIn1_calls A1_0 c1_0 l1_0.length x B W' hm (jDa hb' hc)))
  clear hv h hq hr0_0 hr1_0 hr2
  go_enter Try.func45,Try.ntmps45
  go_wp2_with (first |(go_at_call 63;refine (HV.out _ B0.out).mono ?_;rintro e w1 ⟨rfl,hb2⟩;have hb1:=jDb B0.out B0.out.size hb2;have hcell:=jDa hb2 KC.out) |(go_at_call 73;refine (HF.out _ hb1 _ hcell).mono ?_;rintro e w2 ⟨rfl,hb3⟩))
  go_ret
  exact ⟨by rw [← HZ.out];rfl,jDb hb1 hb1.size hb3⟩
def cmp_isNaN_int.f (a0 : Int) : Option (Bool) := some (a0 != a0)
set_option maxHeartbeats 8000000 in
set_option maxRecDepth 100000 in
theorem cmp_isNaN_int.calls (a0 : Int) (r : Bool) (w : World) (h : cmp_isNaN_int.f a0 = some r) :
  Calls Try.prog 129 #[.int .i64 a0] w fun e w'=>e=.returned (.bool r)∧jqb w w':=by
 have H:(some (a0 != a0))=some r:=h
 clear h
 obtain rfl:=Option.some.inj H
 go_enter Try.func129,Try.ntmps129
 go_wp2
 go_ret
 exact ⟨sq,Y6⟩
def sh189_ren : Go.Shelf.Ren := ⟨fun | 189 => 82 | 125 => 104 | 257 => 103 | 128 => 120 | 129 => 121 | 294 => 111 | 295 => 112 | 296 => 113 | 297 => 114 | 298 => 115 | 299 => 116 | 216 => 117 | 300 => 118 | 301 => 119 | 328 => 124 | 329 => 125 | 330 => 126 | 331 => 127 | 332 => 128 | 215 => 129 | 343 => 130 | n => n, fun | 28 => 45 | 3 => 3 | 46 => 119 | 0 => 0 | 51 => 134 | 53 => 136 | 4 => 4 | 183 => 127 | 182 => 126 | 131 => 131 | 5 => 5 | 9 => 9 | 218 => 139 | 222 => 87 | 228 => 144 | 229 => 145 | n => n, fun | n => n⟩
theorem sh189 : Go.Proofs.Lays.n189 Try.prog sh189_ren := {
 mixed:=by kernel_rfl
 f125:=Try.func104.trans (congrArg some (by kernel_rfl))
 f128:=Try.func120.trans (congrArg some (by kernel_rfl))
 f129:=Try.func121.trans (congrArg some (by kernel_rfl))
 f189:=Try.func82.trans (congrArg some (by kernel_rfl))
 f215:=Try.func129.trans (congrArg some (by kernel_rfl))
 f216:=Try.func117.trans (congrArg some (by kernel_rfl))
 f257:=Try.func103.trans (congrArg some (by kernel_rfl))
 f294:=Try.func111.trans (congrArg some (by kernel_rfl))
 f295:=Try.func112.trans (congrArg some (by kernel_rfl))
 f296:=Try.func113.trans (congrArg some (by kernel_rfl))
 f297:=Try.func114.trans (congrArg some (by kernel_rfl))
 f298:=Try.func115.trans (congrArg some (by kernel_rfl))
 f299:=Try.func116.trans (congrArg some (by kernel_rfl))
 f300:=Try.func118.trans (congrArg some (by kernel_rfl))
 f301:=Try.func119.trans (congrArg some (by kernel_rfl))
 f328:=Try.func124.trans (congrArg some (by kernel_rfl))
 f329:=Try.func125.trans (congrArg some (by kernel_rfl))
 f330:=Try.func126.trans (congrArg some (by kernel_rfl))
 f331:=Try.func127.trans (congrArg some (by kernel_rfl))
 f332:=Try.func128.trans (congrArg some (by kernel_rfl))
 f343:=Try.func130.trans (congrArg some (by kernel_rfl))
 t0:=Try.underlying0
 a0:=Try.isAgg0
 z0:=Try.sizeOf0
 v0:=Try.zeroValue0
 t3:=Try.underlying3
 a3:=Try.isAgg3
 z3:=Try.sizeOf3
 v3:=Try.zeroValue3
 t4:=Try.underlying4
 a4:=Try.isAgg4
 z4:=Try.sizeOf4
 v4:=Try.zeroValue4
 t5:=Try.underlying5
 a5:=Try.isAgg5
 z5:=Try.sizeOf5
 v5:=Try.zeroValue5
 t9:=Try.underlying9
 a9:=Try.isAgg9
 z9:=Try.sizeOf9
 v9:=Try.zeroValue9
 t28:=Try.underlying45
 a28:=Try.isAgg45
 z28:=Try.sizeOf45
 v28:=Try.zeroValue45
 t46:=Try.underlying119
 a46:=Try.isAgg119
 z46:=Try.sizeOf119
 v46:=Try.zeroValue119
 t51:=Try.underlying134
 a51:=Try.isAgg134
 z51:=Try.sizeOf134
 v51:=Try.zeroValue134
 t53:=Try.underlying136
 a53:=Try.isAgg136
 z53:=Try.sizeOf136
 v53:=Try.zeroValue136
 t131:=Try.underlying131
 a131:=Try.isAgg131
 z131:=Try.sizeOf131
 v131:=Try.zeroValue131
 t182:=Try.underlying126
 a182:=Try.isAgg126
 z182:=Try.sizeOf126
 v182:=Try.zeroValue126
 t183:=Try.underlying127
 a183:=Try.isAgg127
 z183:=Try.sizeOf127
 v183:=Try.zeroValue127
 t218:=Try.underlying139
 a218:=Try.isAgg139
 z218:=Try.sizeOf139
 v218:=Try.zeroValue139
 t222:=Try.underlying87
 a222:=Try.isAgg87
 z222:=Try.sizeOf87
 v222:=Try.zeroValue87
 t228:=Try.underlying144
 a228:=Try.isAgg144
 z228:=Try.sizeOf144
 v228:=Try.zeroValue144
 t229:=Try.underlying145
 a229:=Try.isAgg145
 z229:=Try.sizeOf145
 v229:=Try.zeroValue145 }
theorem rc0 {w : World} {b : Nat} {v : Value} {l : List Value} {t : TypeId} (h : w.heap[b]? = some (.cells ⟨v :: l⟩ t (0, 0))) : w.cell? ⟨b, 0, none⟩ = some v := (jH h 0).trans rfl
theorem cells_sorted {w : World} {base cap n : Nat} {g : Nat} {xs ys : List Int} {os : Array Obj} {ok : Nat → Prop} (hl : ys.length = xs.length) (h : Kd.R (Kd.int .i64) 3 w base ok (.slice (some ⟨g, 0, none⟩) xs.length cap) xs) :
  Kd.R (Kd.int .i64) 3 (Go.Sort.grow (Go.Sort.putRow (Value.int .i64) (Go.Sort.ahead w n) g 0 ys.toArray) os) base ok (.slice (some ⟨g,0,none⟩) xs.length cap) ys∧Below base w (Go.Sort.grow (Go.Sort.putRow (Value.int .i64) (Go.Sort.ahead w n) g 0 ys.toArray) os):=by
 have ho:=Kd.own_of_R h
 obtain ⟨e1,h2 | ⟨g',cap',cur,hv,hb,hh,h1,h3,h4,h5⟩⟩:=ho
 ·exact absurd h2.1 (by simp)
 ·simp only [Value.slice.injEq,Option.some.injEq,Addr.mk.injEq,and_true,true_and] at hv
  obtain ⟨rfl,rfl⟩:=hv
  have hlt:g<w.heap.size:=(Array.getElem?_eq_some_iff.1 hh).1
  have hg:∀ k,k<w.heap.size→k≠g→(Go.Sort.grow (Go.Sort.putRow (Value.int .i64) (Go.Sort.ahead w n) g 0 ys.toArray) os).heap[k]?=w.heap[k]?:=by
   intro k hk hne
   simp only [Go.Sort.grow,Go.Sort.putRow,Go.Sort.mapBlock,Go.Sort.ahead]
   rw [Array.getElem?_append_left (by simpa using hk),Array.getElem?_modify,if_neg (fun e=>hne e.symm)]
  have hgg:(Go.Sort.grow (Go.Sort.putRow (Value.int .i64) (Go.Sort.ahead w n) g 0 ys.toArray) os).heap[g]?=some (.cells (Go.Sort.putCells (Value.int .i64) 0 ys.toArray cur) 3 (0,0)):=by
   simp only [Go.Sort.grow,Go.Sort.putRow,Go.Sort.mapBlock,Go.Sort.ahead]
   rw [Array.getElem?_append_left (by simpa using hlt),Array.getElem?_modify,if_pos rfl,hh]
   rfl
  refine ⟨?_,⟨rfl,rfl,rfl,by simp [Go.Sort.grow,Go.Sort.putRow,Go.Sort.mapBlock,Go.Sort.ahead],fun k hk=>hg k (by omega) (by omega)⟩⟩
  rw [← hl]
  refine Kd.R_of_own ⟨by simp [encs], .inr ⟨g,cap,_,rfl,hb,hgg,by omega,h3,by simpa [Go.Sort.putCells] using h4,?_⟩⟩ h.1
  apply List.ext_getElem?
  intro j
  simp only [List.getElem?_take,encs,Go.Sort.putCells,Array.toList_mapIdx,List.getElem?_mapIdx,Array.getElem?_toList,List.getElem?_map,List.size_toArray,Nat.mul_one,Nat.zero_le,true_and,Nat.zero_add,Nat.sub_zero]
  by_cases hj:j<ys.length
  ·rw [if_pos hj]
   have hc:j<cur.size:=by omega
   rw [Array.getElem?_eq_getElem hc,List.getElem?_eq_getElem hj]
   simp [hj]
  ·rw [if_neg hj,List.getElem?_eq_none (by omega)];rfl
theorem slices_Sort_row (l : List Int) (base : Nat) (ok : Nat → Prop) (g cap : Nat) (w : World) (hR : Kd.R (Kd.int .i64) 3 w base ok (.slice (some ⟨g, 0, none⟩) l.length cap) l) (hsz : l.length < 4611686018427387904) :
  Calls Try.prog 82 #[.slice (some ⟨g,0,none⟩) l.length cap] w fun e w'=>e=.returned (.tuple #[])∧Kd.R (Kd.int .i64) 3 w' base ok (.slice (some ⟨g,0,none⟩) l.length cap) (l.mergeSort fun x y=>decide (x≤y))∧Below base w w':=by
 have hH:Go.Sort.Holds (Value.int .i64) w g 0 l.toArray:=fun j hj=>by
  have hj':j<l.length:=by simpa using hj
  have h:=Kd.R_cell (0:Int) hR (j:Int) (by omega) (by omega)
  rw [Int.toNat_natCast] at h
  refine ⟨?_,by simpa using h.2⟩
  have e:rdOf (0:Int) l (j:Int)=l.toArray[j]!:=by simp [rdOf,hj']
  rw [Nat.zero_add,h.1,e]
 have hlt:g<w.heap.size:=Kd.R_lt hR g rfl
 have hs:=Go.Proofs.Any.slices_Sort_int sh189 g 0 cap l w hH hlt hsz
 refine Calls.mono (show Calls Try.prog 82 _ w _ from hs) ?_
 rintro e w' ⟨rfl,n,os,rfl⟩
 obtain ⟨h1,h2⟩:=cells_sorted (n:=n) (os:=os) (ys:=l.mergeSort fun x y=>decide (x≤y)) (List.length_mergeSort _) hR
 exact ⟨rfl,h1,h2⟩
def rcStep (k : Nat) (out : List Int) (g : Int) : Option (List Int) := if g ≥ 0 then ((jya.f k out g).bind fun b => if b = true then some out else (if out.length < 17592186044416 then some (out ++ [g]) else none)) else some out
def rcAll (k : Nat) : List Int → List Int → Option (List Int)
 | [],out=>some out
 | g :: gs,out=>(rcStep k out g).bind fun o=>rcAll k gs o
def rcGo (h : List S54) : Nat → Nat → List Int → Option (List Int)
 | 0,_,_=>none
 | k+1,i,out=>if i<out.length then (if 0≤rd out (i:Int) then (if rd out (i:Int)<(h.length:Int) then ((rcAll k [(ja h (rd out (i:Int))).f2,(ja h (rd out (i:Int))).f3] out).bind fun o=>rcGo h k (i+1) o) else none) else none) else some out
def jeb.f (k : Nat) (l0_0 : List S54) (a1 : Int) : Option (List Int) := (rcGo l0_0 k 0 [a1]).bind fun l => if 0 < l.length ∧ l.length < 4611686018427387904 then some (l.mergeSort fun x y => decide (x ≤ y)) else none
theorem pairAt {g1 g2 : Int} {j : Nat} (h : j < 2) : [g1, g2].drop j = (if j = 0 then g1 else g2) :: [g1, g2].drop (j + 1) := by
 rcases (by omega:j=0∨j=1) with rfl | rfl <;> rfl
theorem pairCell {w : World} {b : Nat} {g1 g2 : Int} {t : TypeId} (h : w.heap[b]? = some (.cells #[.int .i64 g1, .int .i64 g2] t (0, 0))) {j : Nat} (hj : j < 2) : w.cell? ⟨b, j, none⟩ = some (.int .i64 (if j = 0 then g1 else g2)) := by
 rcases (by omega:j=0∨j=1) with rfl | rfl
 ·exact (jH h 0).trans rfl
 ·exact (jH h 1).trans rfl
set_option maxHeartbeats 8000000 in
set_option maxRecDepth 100000 in
theorem jeb.calls (k : Nat) (A0 : Option Addr) (c0 : Nat) (l0 : List (S54)) (a1 : Int) (r : List Int) (w : World) (hr0 : Kd.C k54 w A0 l0.length l0) (hc0 : l0.length ≤ c0) (h : jeb.f k l0 a1 = some r) :
  Calls Try.prog 54 #[.agg #[.slice A0 l0.length c0], .int .i64 a1] w fun e w'=>∃ v0_:Value,e=.returned (v0_)∧Kd.R (Kd.int .i64) 3 w' w.heap.size (fun _=>True) v0_ r∧Below w.heap.size w w':=by
 have hu32:=Try.underlying32
 have hu54:=Try.underlying54
 have HRH:=am hr0
 obtain ⟨l,hl,h⟩:=bzS h
 have H':=am hl
 have HZ:=am h
 have HB:=am ((Below.refl w.heap.size w).alloc (Nat.le_refl _) (.cells #[.slice A0 l0.length c0] 32))
 have BH:=am (heap_alloc_new w (.cells #[.slice A0 l0.length c0] 32))
 clear hr0 h hl
 go_enter Try.func54,Try.ntmps54
 go_wp2_with ((with_reducible refine jI (N:=10) rfl ?_);refine Kd.R_lit (Kd.int .i64) _ 3 ?hg (N:=10) ?hd (xs:=[a1]) (inner:=[.int .i64 a1]) (ok:=fun _=>True) (okp:=fun _=>True) ?hr ?hp (fun _ hk=>hk) trivial (Below.refl _ _) (Nat.le_refl _) (by simp) ?_;(case hd=>rfl);(case hg=>rfl);(case hr=>exact Y4);(case hp=>exact (Reps.one (show Kd.M (Kd.int .i64) _ _ _ a1 [.int .i64 a1] from rfl) (Reps.none _ _)));intro v111 w4 ho5 hb hg_ hnew_;clear hg_ hnew_;have n0_:=am (Kd.jla ho5 (jQ (bq)));have n1_:=am (je (g:=w.heap.size) (o:=.cells #[.slice A0 l0.length c0] 32 (0,0)) (Y56) hb);have n2_:=am (jl (bq) hb);clear HB BH;have HO:=n0_;have BH:=n1_;have HB:=n2_;clear n0_ n1_ n2_ hb ho5)
 go_loopg [5,6] k (fun kq v5 v6 w'=>∃ (i:Nat) (out:List Int),v6=.int .i64 i∧i≤out.length∧jw (rcGo l0 kq i out=some l)∧jw (kq≤k)∧jw (Kd.R (Kd.int .i64) 3 w' w.heap.size (fun _=>True) v5 out)∧jw (w'.heap[w.heap.size]?=some (.cells #[.slice A0 l0.length c0] 32 (0,0)))∧jw (Below w.heap.size w w'))
 case atStart=>exact ⟨0,[a1],rfl,by simp,H',⟨Nat.le_refl _⟩,HO,BH,HB⟩
 case round =>
  clear H' HO BH HB
  obtain ⟨i,out,rfl,hi,HA,HK1,HO,BH,HB⟩:=hrel
  cases gk with
  | zero=>exact absurd HA.out (by simp [rcGo])
  | succ k1 =>
   have H:=HA.out
   clear HA
   rw [rcGo] at H
   obtain ⟨Ao,co,eo⟩:=Kd.jaa HO.out
   subst eo
   have hm:out.length≤9223372036854775807:=Kd.C_max (Kd.jB HO.out).2.2
   by_cases hlt:i<out.length
   ·rw [if_pos hlt] at H
    by_cases h0:0≤rd out (i:Int)
    ·rw [if_pos h0] at H
     by_cases h1:rd out (i:Int)<(l0.length:Int)
     ·rw [if_pos h1] at H
      obtain ⟨o2,hA,H⟩:=bzS H
      have HN:=am H
      have HS:=am hA
      clear H hA
      have cH:=rc0 BH.out
      obtain ⟨ad,rfl,hz⟩:=Kd.jOb (Kd.jB HO.out).2.2 (i:Int) (by omega) (by omega)
      rw [Int.toNat_natCast] at hz
      obtain ⟨ad3,e3,y0,y1,y2,y3,y4⟩:=jfb (Kd.jea HRH.out HB.out) (rd out (i:Int)) h0 h1
      cases e3
      have p0:=ezT h0
      have p1:=ezT h1
      clear h0 h1
      generalize hgz:rd out (i:Int)=z at hz y0 y1 y2 y3 y4 p0 p1 HS
      clear hgz
      have hlb:=ezT hlt
      go_wp2
      refine wp_region_held (S:=fun W=>W.cell? ⟨w.heap.size,0,none⟩=some (.slice (some ad3) l0.length c0)∧W.cell? (ad.add i)=some (.int .i64 z)∧W.cell? ⟨(ad3.add (z.toNat * 5)).block,(ad3.add (z.toNat * 5)).off+2,none⟩=some (.int .i64 (ja l0 z).f2)∧W.cell? ⟨(ad3.add (z.toNat * 5)).block,(ad3.add (z.toNat * 5)).off+3,none⟩=some (.int .i64 (ja l0 z).f3)) (by kernel_rfl) ?_
      change wpAnyH _ _ _ _ _ _ _ _ (World.drew _)
      have hS0:(fun W=>W.cell? ⟨w.heap.size,0,none⟩=some (.slice (some ad3) l0.length c0)∧W.cell? (ad.add i)=some (.int .i64 z)∧W.cell? ⟨(ad3.add (z.toNat * 5)).block,(ad3.add (z.toNat * 5)).off+2,none⟩=some (.int .i64 (ja l0 z).f2)∧W.cell? ⟨(ad3.add (z.toNat * 5)).block,(ad3.add (z.toNat * 5)).off+3,none⟩=some (.int .i64 (ja l0 z).f3)) wr.drew:=⟨cH,hz,y2,y3⟩
      have HB2:=am (jr HB.out)
      have BH2:=am (jd BH.out)
      have HO2:=am (Kd.jN HO.out)
      obtain ⟨W2,hW2⟩:∃ W2,W2=wr.drew:=⟨_,rfl⟩
      rw [← hW2] at hS0 HB2 BH2 HO2
      rw [← hW2]
      clear hW2 cH hz y0 y1 y2 y3 y4 HB BH HO
      refine wpAnyH_take (i:=0) (v:=?_) rfl (by kernel_rfl) (by kernel_rfl) (by kernel_rfl) (fun _ _ _ h=>h) (Or.inl ⟨by rfl,?_⟩) hS0 ?_
      rotate_left
      ·rintro W ⟨s1,s2,s3,s4⟩
       go_simp
       with_reducible rfl
      refine wpAnyH_take (i:=1) (v:=?_) rfl (by kernel_rfl) (by kernel_rfl) (by kernel_rfl) (fun _ _ _ h=>h) (Or.inl ⟨by rfl,?_⟩) hS0 ?_
      rotate_left
      ·rintro W ⟨s1,s2,s3,s4⟩
       go_simp
       with_reducible rfl
      refine wpAnyH_take (i:=2) (v:=?_) rfl (by kernel_rfl) (by kernel_rfl) (by kernel_rfl) (fun _ _ _ h=>h) (Or.inl ⟨by rfl,?_⟩) hS0 ?_
      rotate_left
      ·rintro W ⟨s1,s2,s3,s4⟩
       go_simp
       with_reducible rfl
      refine wpAnyH_take (i:=3) (v:=?_) rfl (by kernel_rfl) (by kernel_rfl) (by kernel_rfl) (fun _ _ _ h=>h) (Or.inl ⟨by rfl,?_⟩) hS0 ?_
      rotate_left
      ·rintro W ⟨s1,s2,s3,s4⟩
       go_simp
       with_reducible rfl
      refine wpAnyH_take (i:=4) (v:=?_) rfl (by kernel_rfl) (by kernel_rfl) (by kernel_rfl) (fun _ _ _ h=>h) (Or.inl ⟨by rfl,?_⟩) hS0 ?_
      rotate_left
      ·rintro W ⟨s1,s2,s3,s4⟩
       go_simp
       with_reducible rfl
      refine wpAnyH_take (i:=5) (v:=?_) rfl (by kernel_rfl) (by kernel_rfl) (by kernel_rfl) (fun _ _ _ h=>h) (Or.inl ⟨by rfl,?_⟩) hS0 ?_
      rotate_left
      ·rintro W ⟨s1,s2,s3,s4⟩
       go_simp
       with_reducible rfl
      refine wpAnyH_take (i:=6) (v:=?_) rfl (by kernel_rfl) (by kernel_rfl) (by kernel_rfl) (fun _ _ _ h=>h) (Or.inl ⟨by rfl,?_⟩) hS0 ?_
      rotate_left
      ·rintro W ⟨s1,s2,s3,s4⟩
       go_simp
       with_reducible rfl
      refine wpAnyH_take (i:=7) (v:=?_) rfl (by kernel_rfl) (by kernel_rfl) (by kernel_rfl) (fun _ _ _ h=>h) (Or.inl ⟨by rfl,?_⟩) hS0 ?_
      rotate_left
      ·rintro W ⟨s1,s2,s3,s4⟩
       go_simp
       with_reducible rfl
      refine wpAnyH_take (i:=8) (v:=?_) rfl (by kernel_rfl) (by kernel_rfl) (by kernel_rfl) (fun _ _ _ h=>h) (Or.inl ⟨by rfl,?_⟩) hS0 ?_
      rotate_left
      ·rintro W ⟨s1,s2,s3,s4⟩
       go_simp
       with_reducible rfl
      refine wpAnyH_take (i:=9) (v:=?_) rfl (by kernel_rfl) (by kernel_rfl) (by kernel_rfl) (fun _ _ _ h=>h) (Or.inl ⟨by rfl,?_⟩) hS0 ?_
      rotate_left
      ·rintro W ⟨s1,s2,s3,s4⟩
       go_simp
       with_reducible rfl
      refine wpAnyH_take (i:=10) (v:=?_) rfl (by kernel_rfl) (by kernel_rfl) (by kernel_rfl) (fun _ _ _ h=>h) (Or.inl ⟨by rfl,?_⟩) hS0 ?_
      rotate_left
      ·rintro W ⟨s1,s2,s3,s4⟩
       go_simp
       with_reducible rfl
      refine wpAnyH_take (i:=11) (v:=?_) rfl (by kernel_rfl) (by kernel_rfl) (by kernel_rfl) (fun _ _ _ h=>h) (Or.inl ⟨by rfl,?_⟩) hS0 ?_
      rotate_left
      ·rintro W ⟨s1,s2,s3,s4⟩
       go_simp
       with_reducible rfl
      refine wpAnyH_take (i:=12) (v:=?_) rfl (by kernel_rfl) (by kernel_rfl) (by kernel_rfl) (fun _ _ _ h=>h) (Or.inl ⟨by rfl,?_⟩) hS0 ?_
      rotate_left
      ·rintro W ⟨s1,s2,s3,s4⟩
       go_simp
       with_reducible rfl
      refine wpAnyH_take (i:=13) (v:=?_) rfl (by kernel_rfl) (by kernel_rfl) (by kernel_rfl) (fun _ _ _ h=>h) (Or.inl ⟨by rfl,?_⟩) hS0 ?_
      rotate_left
      ·rintro W ⟨s1,s2,s3,s4⟩
       go_simp
       with_reducible rfl
      refine wpAnyH_take (i:=14) (v:=?_) rfl (by kernel_rfl) (by kernel_rfl) (by kernel_rfl) (fun _ _ _ h=>h) (Or.inl ⟨by rfl,?_⟩) hS0 ?_
      rotate_left
      ·rintro W ⟨s1,s2,s3,s4⟩
       go_simp
       with_reducible rfl
      refine wpAnyH_take (i:=15) (v:=?_) rfl (by kernel_rfl) (by kernel_rfl) (by kernel_rfl) (fun _ _ _ h=>h) (Or.inl ⟨by rfl,?_⟩) hS0 ?_
      rotate_left
      ·rintro W ⟨s1,s2,s3,s4⟩
       go_simp
       with_reducible rfl
      refine wpAnyH_take (i:=16) (v:=?_) rfl (by kernel_rfl) (by kernel_rfl) (by kernel_rfl) (fun _ _ _ h=>h) (Or.inl ⟨by rfl,?_⟩) hS0 ?_
      rotate_left
      ·rintro W ⟨s1,s2,s3,s4⟩
       go_simp
       with_reducible rfl
      refine wpAnyH_take (i:=17) (v:=?_) rfl (by kernel_rfl) (by kernel_rfl) (by kernel_rfl) (fun _ _ _ h=>h) (Or.inl ⟨by rfl,?_⟩) hS0 ?_
      rotate_left
      ·rintro W ⟨s1,s2,s3,s4⟩
       go_simp
       with_reducible rfl
      refine wpAnyH_take (i:=20) (v:=?_) rfl (by kernel_rfl) (by kernel_rfl) (by kernel_rfl) (fun _ _ _ h=>h) (Or.inl ⟨by rfl,?_⟩) hS0 ?_
      rotate_left
      ·rintro W ⟨s1,s2,s3,s4⟩
       go_simp
       with_reducible rfl
      refine wpAnyH_all (rs:=[18]) (by kernel_rfl) (by simp) ?_
      intro ii hii
      obtain rfl:ii=18:=by simpa using hii
      clear hii
      refine wpOp_step rfl (fun K hK=>?_)
      go_simp
      have hS1:=(⟨jDa ((Below.refl _ W2).alloc (Nat.le_refl _) (.cells #[.int .i64 (ja l0 z).f2, .int .i64 (ja l0 z).f3] 3)) hS0.1,jDa ((Below.refl _ W2).alloc (Nat.le_refl _) (.cells #[.int .i64 (ja l0 z).f2, .int .i64 (ja l0 z).f3] 3)) hS0.2.1,jDa ((Below.refl _ W2).alloc (Nat.le_refl _) (.cells #[.int .i64 (ja l0 z).f2, .int .i64 (ja l0 z).f3] 3)) hS0.2.2.1,jDa ((Below.refl _ W2).alloc (Nat.le_refl _) (.cells #[.int .i64 (ja l0 z).f2, .int .i64 (ja l0 z).f3] 3)) hS0.2.2.2⟩:(fun W=>W.cell? ⟨w.heap.size,0,none⟩=some (.slice (some ad3) l0.length c0)∧W.cell? (ad.add i)=some (.int .i64 z)∧W.cell? ⟨(ad3.add (z.toNat * 5)).block,(ad3.add (z.toNat * 5)).off+2,none⟩=some (.int .i64 (ja l0 z).f2)∧W.cell? ⟨(ad3.add (z.toNat * 5)).block,(ad3.add (z.toNat * 5)).off+3,none⟩=some (.int .i64 (ja l0 z).f3)) (W2.alloc (.cells #[.int .i64 (ja l0 z).f2, .int .i64 (ja l0 z).f3] 3)))
      refine hK _ _ ⟨hS1,?_⟩
      clear hK K
      refine wpAnyH_all (rs:=[19]) (by kernel_rfl) (by simp) ?_
      intro ii hii
      obtain rfl:ii=19:=by simpa using hii
      clear hii
      refine wpOp_step rfl (fun K hK=>?_)
      go_simp
      refine hK _ _ ⟨hS1,?_⟩
      clear hK K
      refine wpAnyH_done (by kernel_rfl) ?_ _
      have HO:=am (Kd.jL (Kd.jD (Kd.jdc HO2.out) (fun k hk=>Nat.ne_of_lt hk.2.2.1)) (.cells #[.int .i64 (ja l0 z).f2, .int .i64 (ja l0 z).f3] 3))
      have LB:=am (heap_alloc_new W2 (.cells #[.int .i64 (ja l0 z).f2, .int .i64 (ja l0 z).f3] 3))
      have BH:=am (jc BH2.out (.cells #[.int .i64 (ja l0 z).f2, .int .i64 (ja l0 z).f3] 3))
      have HB:=am (jy HB2.out (.cells #[.int .i64 (ja l0 z).f2, .int .i64 (ja l0 z).f3] 3))
      have HLE:=am (Nat.le_refl out.length)
      clear hS0 hS1 HO2 BH2 HB2
      generalize hgl:W2.heap.size=gl at HO LB ⊢
      rename_i K9 hK9
      refine hK9 _ _ ?_
      go_wp2
      go_loopw [5,37] (fun v5 v37 w3=>∃ (j:Nat) (o:List Int),j≤2∧v37=.int .i64 j∧jw (rcAll k1 ([(ja l0 z).f2,(ja l0 z).f3].drop j) o=some o2)∧jw (out.length≤o.length)∧jw (Kd.R (Kd.int .i64) 3 w3 w.heap.size (fun k=>k≠gl) v5 o)∧jw (w3.heap[gl]?=some (.cells #[.int .i64 (ja l0 z).f2, .int .i64 (ja l0 z).f3] 3 (0,0)))∧jw (w3.heap[w.heap.size]?=some (.cells #[.slice (some ad3) l0.length c0] 32 (0,0)))∧jw (Below w.heap.size w w3)) (fun _ v37 _=>2 - (intOf v37).toNat)
      case atStart=>exact ⟨0,out,by omega,rfl,HS,HLE,HO,LB,BH,HB⟩
      case round =>
       clear HS HLE HO LB BH HB hgl
       obtain ⟨j,o,hj,rfl,HS,HLE,HO,LB,BH,HB⟩:=hrel
       obtain ⟨Ao2,co2,eo⟩:=Kd.jaa HO.out
       subst eo
       by_cases hj2:j<2
       ·have hS:=HS.out
        rw [pairAt hj2,rcAll] at hS
        have cx:=pairCell LB.out hj2
        generalize (if j=0 then (ja l0 z).f2 else (ja l0 z).f3)=x at hS cx
        obtain ⟨o',hs1,hs2⟩:=bzS hS
        have HR2:=am hs2
        have hjb:=ezT (show (j:Int)<2 by omega)
        clear HS hS hs2
        unfold rcStep at hs1
        by_cases c6:x≥0
        ·rw [if_pos c6] at hs1
         have c6b0:decide (0≤x)=true:=dzT c6
         clear c6
         obtain ⟨b,A70,hs1⟩:=bzS hs1
         have A7:=am A70
         clear A70
         cases b with
         | true =>
          rw [if_pos rfl] at hs1
          obtain rfl:=Option.some.inj hs1
          clear hs1
          go_wp2_with (go_at_call 81;(with_reducible refine (jya.calls k1 _ _ o x true _ ?side1 ?side2 A7.out).mono ?_);(case side1=>exact cq (Kd.jB HO.out).2.2);(case side2=>exact (Kd.jB HO.out).2.1);rintro e w' ⟨rfl,⟨nd,rfl⟩⟩)
          go_roundw
          case rel=>exact ⟨j+1,o,by omega,by go_num,HR2,⟨by have:=HLE.out;omega⟩,⟨rq HO.out⟩,⟨kq LB.out⟩,⟨kq BH.out⟩,⟨(bq)⟩⟩
          case measure=>simp [intOf];omega
         | false =>
          rw [if_neg (by simp)] at hs1
          by_cases c10:o.length<17592186044416
          ·rw [if_pos c10] at hs1
           obtain rfl:=Option.some.inj hs1
           have LM:=am c10
           clear c10 hs1
           go_wp2_with (first |(go_at_call 81;(with_reducible refine (jya.calls k1 _ _ o x false _ ?side1 ?side2 A7.out).mono ?_);(case side1=>exact cq (Kd.jB HO.out).2.2);(case side2=>exact (Kd.jB HO.out).2.1);rintro e w' ⟨rfl,⟨nd,rfl⟩⟩) |((with_reducible refine jkb (b:=.append) (xs:=#[.tmp 49, .tmp 51]) rfl ?_);at_builtin;refine Kd.jbc (Kd.int .i64) (w0:=w) w.heap.size rfl (.tmp 49) (.tmp 51) 45 3 (.int .i64 0) 8 rfl Try.underlying45 info3 rfl (by decide) (by omega) (.slice Ao2 o.length co2) o x [.int .i64 x] (fun k=>k≠gl) (fun _=>False) rfl rfl ?aP (fun _ hk=>hk.elim) ?aF ?aO ?aB ?aS ?aL ?_;(case aP=>exact rfl);(case aB=>exact (bq));(case aF=>intro q hq hqe;have h1:=jV LB.out;subst hqe;simp at hq;omega);(case aO=>exact (rq HO.out));(case aS=>exact (jQ (bq)));(case aL=>have:=LM.out;omega);intro v115 w14 ho hb hg hat;have n1_:=am (hb);have n2_:=am (ho);have n3_:=am (jia (g:=gl) (o:=.cells #[.int .i64 (ja l0 z).f2, .int .i64 (ja l0 z).f3] 3 (0,0)) (kq LB.out) hg (Kd.R_away HO.out (fun q hq=>hq)));have n4_:=am (jia (g:=w.heap.size) (o:=.cells #[.slice (some ad3) l0.length c0] 32 (0,0)) (kq BH.out) hg (Kd.R_ne HO.out BH.out (by decide)));clear HB HO LB BH;have HB:=n1_;have HO:=n2_;have LB:=n3_;have BH:=n4_;clear n1_ n2_ n3_ n4_ ho hb hg hat))
           go_roundw
           case rel=>exact ⟨j+1,o ++ [x],by omega,by go_num,HR2,⟨by have:=HLE.out;rw [List.length_append];omega⟩,⟨rq HO.out⟩,⟨kq LB.out⟩,⟨kq BH.out⟩,⟨(bq)⟩⟩
           case measure=>simp [intOf];omega
          ·rw [if_neg c10] at hs1;cases hs1
        ·rw [if_neg c6] at hs1
         have c6b0:decide (0≤x)=false:=dzF c6
         obtain rfl:=Option.some.inj hs1
         clear c6 hs1
         go_wp2
         go_roundw
         case rel=>exact ⟨j+1,o,by omega,by go_num,HR2,⟨by have:=HLE.out;omega⟩,⟨rq HO.out⟩,⟨kq LB.out⟩,⟨kq BH.out⟩,⟨(bq)⟩⟩
         case measure=>simp [intOf];omega
       ·obtain rfl:j=2:=by omega
        obtain rfl:=Option.some.inj (show some o=some o2 from HS.out)
        go_wp2
        go_roundg k1
        case measure=>have:=HK1.out;omega
        case rel=>exact ⟨i+1,o,by go_num,by have:=HLE.out;omega,HN,⟨by have:=HK1.out;omega⟩,⟨by (with_reducible repeat (first | apply Kd.jL | apply Kd.jM | apply Kd.jN));exact Kd.jD HO.out (fun _ _=>trivial)⟩,⟨kq BH.out⟩,⟨(bq)⟩⟩
     ·rw [if_neg h1] at H;cases H
    ·rw [if_neg h0] at H;cases H
   ·rw [if_neg hlt] at H
    obtain rfl:=Option.some.inj H
    have hZ:=HZ.out
    by_cases hz0:0<out.length∧out.length<4611686018427387904
    ·rw [if_pos hz0] at hZ
     obtain rfl:=Option.some.inj hZ
     obtain ⟨g,cap,hv,_,_,_⟩:=Kd.R_form HO.out hz0.1
     injection hv with hA1 hA2 hA3
     subst hA1
     have HSZ:=am hz0.2
     have hlb:=eq_false hlt
     clear H hZ hz0 HZ hA2 hA3
     go_wp2_with (first |(go_at_call 82;refine (slices_Sort_row out w.heap.size (fun _=>True) g co _ (rq HO.out) HSZ.out).mono ?_;rintro e w5 ⟨rfl,hs,hb5⟩;have n0_:=am hs;have n1_:=am (Below.trans (bq) hb5);clear HO HB;have HO:=n0_;have HB:=n1_;clear n0_ n1_ hs hb5) |(go_at_call 83;refine (jOa.calls (fun _=>True) _ (out.mergeSort fun x y=>decide (x≤y)) (out.mergeSort fun x y=>decide (x≤y)) w _ (bq) (rq HO.out) (show jOa.f (out.mergeSort fun x y=>decide (x≤y))=some (out.mergeSort fun x y=>decide (x≤y)) from rfl)).mono ?_;rintro e w9 ⟨v9,rfl,hR9,hB9,hK9⟩))
     go_ret
     exact ⟨_,rfl,Kd.jD hR9 (fun _ _=>trivial),hB9⟩
    ·rw [if_neg hz0] at hZ;cases hZ
end Go.Proofs.Ytecdfgejmbpclaa.P
end
