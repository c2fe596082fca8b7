/- One part of the proofs on this program: functions of the program as plain functions, that the code comes to them, and facts on them. -/
import Derived.Carry
import Derived.Maps.Own
import Derived.Maps.OwnOps
import Derived.Maps.OwnSet
import Derived.Maps.Views
import Derived.Test.YtkhiiiddbmgiaaaYD1
import Derived.Test.YtkhiiiddbmgiaaaYD2
import Derived.Test.YtkhiiiddbmgiaaaYD3
import Derived.Test.YtkhiiiddbmgiaaaYWAuto
section
namespace Go.Proofs.Ytkhiiiddbmgiaaa.P
open Go.RowKit Go.Proofs.YtkhiiiddbmgiaaaW.PrintWords Go.Proofs.YtkhiiiddbmgiaaaW.PrintLast Go.Proofs.YtkhiiiddbmgiaaaW.PrintMore
attribute [local go_sem] jea jca jsa jra jR jQ jda jba jg
set_option linter.unusedVariables false
set_option linter.unusedSimpArgs false
def jCb.f (k : Nat) (l0_0 : List (S78)) (a1 : Int) (a2 : Int) : Option (Bool) := (jza.f k l0_0 a1).bind fun t423 => ((jJa.f k t423 a2).bind fun t426 => (some t426))
set_option maxHeartbeats 8000000 in
set_option maxRecDepth 100000 in
theorem jCb.calls (k : Nat) (A0_0 : Option Addr) (c0_0 : Nat) (l0_0 : List (S78)) (a1 : Int) (a2 : Int) (r : Bool) (w : World) (hr0_0 : Kd.C k78 w A0_0 l0_0.length l0_0) (hc0_0 : l0_0.length ≤ c0_0) (h : jCb.f k l0_0 a1 a2 = some r) :
  Calls Try.prog 95 #[.agg #[.slice A0_0 l0_0.length c0_0], .int .i64 a1, .int .i64 a2] w fun e w'=>e=.returned (.bool r)∧Below w.heap.size w w':=by
 have hu32:=Try.underlying32
 have HR0_0:=am hr0_0
 have HC0_0:=am hc0_0
 clear hr0_0 hc0_0
 have HB:=am (Below.refl w.heap.size w)
 have H:((jza.f k l0_0 a1).bind fun t423=>((jJa.f k t423 a2).bind fun t426=>(some t426)))=some r:=h
 clear h
 replace H:=bzS H
 obtain ⟨t423,A40,H⟩:=H
 replace H:((jJa.f k t423 a2).bind fun t426=>(some t426))=some r:=H
 have A4:=am A40
 clear A40
 replace H:=bzS H
 obtain ⟨t426,A50,H⟩:=H
 replace H:(some t426)=some r:=H
 have A5:=am A50
 clear A50
 obtain rfl:=Option.some.inj H
 go_enter Try.func95,Try.ntmps95
 go_wp2_with (first |((with_reducible refine jP (N:=3) rfl ?_);refine bE (N:=3) (cs:=#[.slice A0_0 l0_0.length c0_0]) (t:=32) ?_;intro gb422 hg w6 hbox hb;have BK422:=am (hbox);have GW422:=am ((Y11:w.heap.size≤gb422));have GE422:=am ((Y11:w.heap.size≤gb422));replace HB:=am (ji (bq) hb);clear hb hbox hg;have hcz7_0:=bc0 BK422.out;have hfz7_0:=ja BK422.out 0) |((with_reducible refine jd (f:=105) rfl ?_);refine gL (some 9) Try.func105 #[.agg #[.slice A0_0 l0_0.length c0_0], .int .i64 a1] ?_;(with_reducible refine (jza.calls k _ _ l0_0 a1 t423 _ ?side1 ?side2 A4.out).mono ?_);(case side1=>exact cq (Kd.jZ HR0_0.out HB.out));(case side2=>exact HC0_0.out);rintro e w8 ⟨v424,rfl,ho0,hb⟩;refine ⟨_,rfl,?_⟩;have HO425:=am (Kd.jfa ho0 (jka (Y83)));replace BK422:=am (jr (g:=gb422) (o:=.cells #[.slice A0_0 l0_0.length c0_0] 32 (0,0)) (kq BK422.out) hb);replace HB:=am (ji (Y83) hb);(try clear hb);(try clear hb2);(try clear hk);(try clear hi);(try clear ho0);obtain ⟨Ao9,co9,eo9⟩:=Kd.jta HO425.out;subst eo9) |((with_reducible refine jd (f:=104) rfl ?_);refine gL (some 11) Try.func104 #[.slice Ao9 t423.length co9, .int .i64 a2] ?_;(with_reducible refine (jJa.calls k _ _ t423 a2 t426 _ ?side1 ?side2 A5.out).mono ?_);(case side1=>exact cq (Kd.jC HO425.out).2.2);(case side2=>exact (Kd.jC HO425.out).2.1);rintro e w' ⟨rfl,⟨nd,rfl⟩⟩;refine ⟨_,rfl,?_⟩))
 go_ret
 exact ⟨Y0,Y83⟩
theorem impl_first1_calls (k : Nat) (l : List S78) (A_ : Option Addr) (c_ : Nat) (a x : Int) (b : Bool) (B0 B1 : Nat) (w : World) (hr : Kd.C k78 w A_ l.length l) (hcc : l.length ≤ c_) (hc : w.cell? ⟨B0, 0, none⟩ = some (.slice A_ l.length c_)) (ha : w.cell? ⟨B1, 0, none⟩ = some (.int .i64 a)) (h : jCb.f k l a x = some b) :
  Calls Try.prog 94 #[.int .i64 x, .pointer (some ⟨B0,0,none⟩), .pointer (some ⟨B1,0,none⟩)] w fun e w'=>e=.returned (.bool b)∧Below w.heap.size w w':=by
 have HF:=am (jCb.calls k A_ c_ l a x b w hr hcc h)
 clear h hr
 have hu32:=Try.underlying32
 go_enter Try.func94,Try.ntmps94
 go_wp2_with (go_at_call 95;refine HF.out.mono ?_;rintro e w' ⟨rfl,hb2⟩)
 go_ret
 exact ⟨rfl,hb2⟩
set_option maxHeartbeats 8000000 in
set_option maxRecDepth 100000 in
theorem impl_first_idx (A_ : Option Addr) (c_ : Nat) (l : List (Int)) (B0_ : Nat) (B1_ : Nat) (p : Int → Option Bool) (r : Int) (w : World) (hr : Kd.C (Kd.int .i64) w A_ l.length l) (h : idxFrom p l 0 = some r)
  (hp:∀ W,Below w.heap.size w W→∀ (x:Int) (b:Bool),p x=some b→Calls Try.prog 94 #[.int .i64 x, .pointer (some ⟨B0_,0,none⟩), .pointer (some ⟨B1_,0,none⟩)] W fun e w'=>e=.returned (.bool b)∧Below W.heap.size W w') :
  Calls Try.prog 72 #[.slice A_ l.length c_, .func (.func 94) #[] #[.pointer (some ⟨B0_,0,none⟩), .pointer (some ⟨B1_,0,none⟩)]] w fun e w'=>e=.returned (.int .i64 r)∧Below w.heap.size w w':=by
 have hm:l.length≤9223372036854775807:=Kd.C_max hr
 have HR:=am hr
 have HP:=am hp
 have H0:=am h
 clear hr hp h
 go_enter Try.func72,Try.ntmps72
 go_wp2
 go_loopw [5,8] (fun i5 i8 wr=>∃ k:Nat,k≤l.length∧i8=.int .i64 k∧jl (idxFrom p (l.drop k) k=some r)∧Below w.heap.size w wr) (fun _ i8 _=>l.length - (intOf i8).toNat)
 case atStart=>exact ⟨0,Nat.zero_le _,rfl,H0,Below.refl _ _⟩
 case round =>
  clear H0
  obtain ⟨k,hk,rfl,HA,hb⟩:=hrel
  by_cases hlt:k<l.length
  ·have HB:=am (idxFrom_step hlt HA.out)
   clear HA
   obtain ⟨ad,rfl,hx0⟩:=Kd.jPb HR.out (k:Int) (by omega) (by omega)
   have hrd:rd l (k:Int)=l[k]:=by simp [rd,List.getD_eq_getElem?_getD,hlt]
   replace hx0:=jia hb hx0
   rw [hrd] at hx0
   simp only [Int.toNat_natCast] at hx0
   clear hrd
   obtain ⟨b,hb1,hb0⟩:=HB.out
   have HQ:=am hb1
   clear hb1 HB
   cases b with
   | true =>
    have HZ:=am (by simpa using hb0:(k:Int)=r)
    clear hb0
    go_wp2_with (go_at_call 94;refine (HP.out _ hb _ _ HQ.out).mono ?_;rintro e w' ⟨rfl,hb2⟩)
    go_ret
    exact ⟨by rw [← HZ.out];rfl,jga hb hb.size hb2⟩
   | false =>
    have HZ:=am (by simpa using hb0:idxFrom p (l.drop (k+1)) (k+1)=some r)
    clear hb0
    go_wp2_with (go_at_call 94;refine (HP.out _ hb _ _ HQ.out).mono ?_;rintro e w' ⟨rfl,hb2⟩)
    go_roundw
    case rel=>exact ⟨k+1,hlt,by go_num,HZ,jga hb hb.size hb2⟩
    case measure=>simp [intOf];omega
  ·have HZ:=am (idxFrom_end (by omega) HA.out)
   clear HA
   go_wp2
   go_ret
   exact ⟨by rw [HZ.out];rfl,hb⟩
def jHb.f (k : Nat) (l0_0 : List S78) (l1 : List Int) (a2 : Int) : Option Int := idxFrom (fun x => jCb.f k l0_0 a2 x) l1 0
set_option maxHeartbeats 8000000 in
set_option maxRecDepth 100000 in
theorem jHb.calls (k : Nat) (A0_0 : Option Addr) (c0_0 : Nat) (l0_0 : List (S78)) (A1 : Option Addr) (c1 : Nat) (l1 : List Int) (a2 : Int) (r : Int) (w : World) (hr0_0 : Kd.C k78 w A0_0 l0_0.length l0_0) (hc0_0 : l0_0.length ≤ c0_0) (hr1 : Kd.C (Kd.int .i64) w A1 l1.length l1) (hc1 : l1.length ≤ c1) (h : jHb.f k l0_0 l1 a2 = some r) :
  Calls Try.prog 69 #[.agg #[.slice A0_0 l0_0.length c0_0], .slice A1 l1.length c1, .int .i64 a2] w fun e w'=>e=.returned (.int .i64 r)∧Below w.heap.size w w':=by
 have hu32:=Try.underlying32
 have HF:=am (fun W (hb:Below w.heap.size w W) (B0 B1:Nat) (hc:W.cell? ⟨B0,0,none⟩=some (.slice A0_0 l0_0.length c0_0)) (ha:W.cell? ⟨B1,0,none⟩=some (.int .i64 a2))=>impl_first_idx A1 c1 l1 B0 B1 (fun x=>jCb.f k l0_0 a2 x) r W (Kd.jZ hr1 hb) h (fun W' hb' x b hx =>
  impl_first1_calls k l0_0 A0_0 c0_0 a2 x b B0 B1 W' (Kd.jZ (Kd.jZ hr0_0 hb) hb') hc0_0 (jia hb' hc) (jia hb' ha) hx))
 clear h hr0_0 hr1
 go_enter Try.func69,Try.ntmps69
 go_wp2_with (go_at_call 72;refine (HF.out _ (((Below.refl _ _).alloc (Nat.le_refl _) _).alloc (by simp) _) _ _ (by simp) (by simp)).mono ?_;rintro e w' ⟨rfl,hb2⟩)
 go_ret
 exact ⟨rfl,(((Below.refl _ _).alloc (Nat.le_refl _) _).alloc (by simp) _).trans (hb2.mono (by simp;omega))⟩

section
attribute [local go_sem] jea jca jsa jra jR jQ jda jba jg
def dxIn (k : Nat) (t : List S78) (p : List S52) : List Int → List Int → (Int → Bool) → Option (Int → Bool)
 | [],_,S=>some S
 | e :: es,acc,S=>if 0≤e then (if e<(p.length:Int) then (if (jc p e).f1=8 then (jHb.f k t acc (jc p e).f2).bind fun f=>dxIn k t p es (acc ++ [(jc p e).f2]) (fun y=>if y=e then decide (f≥0) else S y) else dxIn k t p es acc S) else none) else none
def dxOut (k : Nat) (t : List S78) (p : List S52) : Nat → Nat → (Int → Bool) → Option (Int → Bool)
 | 0,_,S=>some S
 | n+1,i,S=>if (jc p (i:Int)).f1=7 then (jha.f k p (i:Int)).bind fun L=>if L.length≤M6 then (dxIn k t p L [] S).bind fun S2=>dxOut k t p n (i+1) S2 else none else dxOut k t p n (i+1) S
def dxF (k : Nat) (t : List S78) (p : List S52) : Option (Int → Bool) := dxOut k t p p.length 0 (fun _ => false)
theorem dxIn_step {k : Nat} {t : List S78} {p : List S52} {L acc : List Int} {S S' : Int → Bool} {m : Nat} (hm : m < L.length) (h : dxIn k t p (L.drop m) acc S = some S') :
  0≤rd L (m:Int)∧rd L (m:Int)<(p.length:Int)∧(if (jc p (rd L (m:Int))).f1=8 then (jHb.f k t acc (jc p (rd L (m:Int))).f2).bind fun f=>dxIn k t p (L.drop (m+1)) (acc ++ [(jc p (rd L (m:Int))).f2]) (fun y=>if y=rd L (m:Int) then decide (f≥0) else S y) else dxIn k t p (L.drop (m+1)) acc S)=some S':=by
 have hr:rd L (m:Int)=L[m]:=by simp [rd,List.getD_eq_getElem?_getD,hm]
 rw [List.drop_eq_getElem_cons hm,← hr] at h
 simp only [dxIn] at h
 by_cases h0:0≤rd L (m:Int)
 ·rw [if_pos h0] at h
  by_cases h1:rd L (m:Int)<(p.length:Int)
  ·rw [if_pos h1] at h;exact ⟨h0,h1,h⟩
  ·rw [if_neg h1] at h;cases h
 ·rw [if_neg h0] at h;cases h
structure DxI (w : World) (v : Value) (S : Int → Bool) (n : Nat) (W : World) : Prop where
 b:Below w.heap.size w W
 x:W.heap[w.heap.size]?=some (.cells #[v] 32 (0,0))
 s:BSet W (w.heap.size+1) n S
theorem DxI.start (w : World) (v : Value) : DxI w v (fun _ => false) 0 ((w.alloc (.cells #[v] 32)).alloc (.map #[] 0)) := by
 have h:=BSet.made (w.alloc (.cells #[v] 32))
 rw [World.size_alloc] at h
 exact ⟨((Below.refl _ _).alloc (Nat.le_refl _) _).alloc (by simp) _,((Below.refl _ _).alloc (Nat.le_refl _) _).block w.heap.size (by simp) |>.trans (heap_alloc_new w _),h⟩
theorem BSet.lt {w : World} {b n : Nat} {S : Int → Bool} (h : BSet w b n S) : b < w.heap.size := by obtain ⟨D, hD, _⟩ := h; exact hD.lt
theorem DxI.lt {w W : World} {v : Value} {S : Int → Bool} {n : Nat} (h : DxI w v S n W) : w.heap.size + 1 < W.heap.size := h.s.lt
theorem DxI.below {w W W' : World} {v : Value} {S : Int → Bool} {n : Nat} (h : DxI w v S n W) (hb : Below W.heap.size W W') : DxI w v S n W' :=
 ⟨h.b.trans (hb.mono h.b.size),(hb.block _ (by have:=h.lt;omega)).trans h.x,h.s.below hb⟩
theorem DxI.cell {w W : World} {v : Value} {S : Int → Bool} {n : Nat} (h : DxI w v S n W) : W.cell? ⟨w.heap.size, 0, none⟩ = some v := (jJ h.x 0).trans rfl
theorem DxI.grown {w W W' : World} {v : Value} {S : Int → Bool} {n : Nat} {row : Option Nat} (h : DxI w v S n W) (hg : W.grownBy W' row) (h1 : some w.heap.size ≠ row) (h2 : some (w.heap.size + 1) ≠ row) (hb : Below w.heap.size w W') : DxI w v S n W' :=
 ⟨hb,(hg.block _ (by have:=h.lt;omega) h1).trans h.x,h.s.kept hg h2⟩
theorem DxI.put {w W W' : World} {v : Value} {S S' : Int → Bool} {n n' : Nat} (h : DxI w v S n W) (hg : W.grownBy W' (some (w.heap.size + 1))) (hs : BSet W' (w.heap.size + 1) n' S') : DxI w v S' n' W' :=
 ⟨h.b.grown hg h.b.size (fun k e=>by cases e;omega),(hg.block _ (by have:=h.lt;omega) (by simp)).trans h.x,hs⟩
theorem BSet.of_putb {w w' : World} {b n : Nat} {x : Int} {D : DataW Unit} {S : Int → Bool} {v : Bool} (h1 : w.ownsMap Try.prog 3 (plainElem Try.prog 4) b n D) (h2 : ∀ x : Int, (Lit.int .i64 x).wf = true → D.atKey (.int .i64 x) (.lit (.bool false)) = .lit (.bool (S x)))
  (h3:w'.ownsMap Try.prog 3 (plainElem Try.prog 4) b (n+1) (D.put (.int .i64 x) (.lit (.bool v)))):BSet w' b (n+1) (fun y=>if y=x then v else S y):=by
 refine ⟨_,h3,fun y hy=>?_⟩
 show _=DataW.lit (Lit.bool (if y=x then v else S y))
 by_cases e:y=x
 ·subst e
  rw [if_pos rfl]
  exact Maps.atKey_put_same h1.isMap (by first | exact trivial | simp [WideAt.IsKeyLit] | constructor) _ _
 ·rw [if_neg e,← h2 y hy]
  exact Maps.atKey_put_other (fun h=>e (by injection h)) _ _
theorem own_belowX {w w' : World} {b n : Nat} {D : DataW Unit} (h : w.ownsMap Try.prog 3 (plainElem Try.prog 4) b n D) (hb : Below w.heap.size w w') : w'.ownsMap Try.prog 3 (plainElem Try.prog 4) b n D := by
 obtain ⟨es,clock,h1,h2⟩:=h
 exact ⟨es,clock,(hb.block b (Array.getElem?_eq_some_iff.1 h1).1).trans h1,h2⟩
def dxOk (w : World) (n4 n2 : Nat) : Nat → Prop := fun k => w.heap.size + 1 < k ∧ (k < n4 ∨ n2 ≤ k)
set_option maxHeartbeats 16000000 in
set_option maxRecDepth 100000 in
theorem impl_deadExcepts.calls (k : Nat) (A0_0 : Option Addr) (c0_0 : Nat) (l0_0 : List (S78)) (A1 : Option Addr) (c1 : Nat) (l1 : List (S52)) (S : Int → Bool) (w : World) (hr0_0 : Kd.C k78 w A0_0 l0_0.length l0_0) (hc0_0 : l0_0.length ≤ c0_0) (hr1 : Kd.C k52 w A1 l1.length l1) (hc1 : l1.length ≤ c1) (hlen : l1.length ≤ M6) (h : dxF k l0_0 l1 = some S) :
  Calls Try.prog 41 #[.agg #[.slice A0_0 l0_0.length c0_0], .slice A1 l1.length c1] w fun e w'=>∃ b n,e=.returned (.map (some b))∧w.heap.size≤b∧BSet w' b n S∧Below w.heap.size w w':=by
 have HR:=am hr1
 have HR0:=am hr0_0
 have hmm:=@run_makeMap Try.prog
 have hu32:=Try.underlying32
 have hm:l1.length≤9223372036854775807:=Kd.C_max hr1
 have H0:=am (show dxOut k l0_0 l1 (l1.length - 0) 0 (fun _=>false)=some S from h)
 have HST:=am (DxI.start w (.slice A0_0 l0_0.length c0_0))
 clear hr1 hr0_0 h
 go_enter Try.func41,Try.ntmps41
 go_wp2
 go_loopw [14] (fun v14 wr=>∃ (i n:Nat) (S1:Int→Bool),i≤l1.length∧v14=.int .i64 i∧jl (dxOut k l0_0 l1 (l1.length - i) i S1=some S)∧jl (n≤i * M6)∧jl (DxI w (.slice A0_0 l0_0.length c0_0) S1 n wr)) (fun v14 _=>l1.length - (intOf v14).toNat)
 case atStart=>exact ⟨0,0,_,Nat.zero_le _,rfl,H0,⟨Nat.zero_le _⟩,HST⟩
 case round =>
  obtain ⟨i,n,S1,hi,rfl,HH,HN,HD⟩:=hrel
  by_cases hlt:i<l1.length
  ·obtain ⟨ad,rfl,x0,x1,x2,x3⟩:=jua (Kd.jZ HR.out HD.out.b) (i:Int) (by omega) (by omega)
   rw [Int.toNat_natCast] at x0 x1 x2 x3
   have hH:=HH.out
   rw [show l1.length - i=(l1.length - (i+1))+1 by omega] at hH
   unfold dxOut at hH
   by_cases h7:(jc l1 (i:Int)).f1=7
   ·rw [if_pos h7] at hH
    obtain ⟨L,hL,hH⟩:=bzS hH
    by_cases hLM:L.length≤M6
    case neg=>rw [if_neg hLM] at hH;cases hH
    rw [if_pos hLM] at hH
    obtain ⟨S2,hI,hO⟩:=bzS hH
    have h7b:((jc l1 (i:Int)).f1 != 7)=false:=by rw [h7];rfl
    have HT:=am (fun (W:World) (hb:Below w.heap.size w W)=>jha.calls k _ c1 l1 (i:Int) L W (Kd.jZ HR.out hb) hc1 hL)
    have HI:=am hI
    have HO:=am hO
    clear hL hH hI hO h7
    obtain ⟨W1,rfl⟩:∃ W1,W1=wr:=⟨_,rfl⟩
    have HLT:=am HD.out.lt
    go_wp2_with (first |((with_reducible refine jP (N:=22) rfl ?_);refine Kd.jYb (Kd.int .i64) _ 3 ?hg (N:=22) ?hd (xs:=([]:List Int)) (inner:=[]) (ok:=fun _=>True) (okp:=fun _=>True) ?hr ?hp (fun _ hk=>hk) trivial (Below.refl _ _) (Nat.le_refl _) (by simp) ?_;(case hd=>rfl);(case hg=>rfl);(case hr=>exact Y8);(case hp=>exact (Reps.none _ _));intro v22 w4 ho5 hb hg_ hnew_;clear hg_ hnew_;have HA4:=am ho5;have HB4:=am (show Below W1.heap.size W1 w4 from ((Below.refl _ _).alloc (Nat.le_refl _) _).trans (hb.mono (by simp)));clear ho5 hb) |(go_at_call 68;refine (HT.out _ (HD.out.b.trans (HB4.out.mono HD.out.b.size))).mono ?_;rintro e w5 ⟨vL,rfl,hRL,hb5⟩;obtain ⟨AL,cL,rfl⟩:=Kd.jta hRL;have HRL:=am (Kd.jxc hRL);have HB5:=am hb5;clear hRL hb5))
    have HA5:jl (Kd.R (Kd.int .i64) 3 w5 w.heap.size (dxOk w w4.heap.size w5.heap.size) v22 []):=by
     have h1:=HA4.out
     rw [World.size_alloc] at h1
     have h2:=HLT.out
     exact ⟨Kd.jfa (Kd.jG (Kd.jqa (Kd.jxc h1) HB5.out) (fun k hk=>⟨by have:=hk.2.1;omega, .inl hk.2.2.1⟩)) (by omega)⟩
    have HL5:jl (Kd.R (Kd.int .i64) 3 w5 w4.heap.size (fun k=>w4.heap.size≤k∧k<w5.heap.size) (.slice AL L.length cL) L):=⟨Kd.jG HRL.out (fun k hk=>⟨hk.2.1,hk.2.2.1⟩)⟩
    have hLM2:L.length≤1048576:=hLM
    have HD5:=am ((HD.out.below HB4.out).below HB5.out)
    clear HA4 HRL HT hH H0 HST x0 x1 x2 x3
    go_loopw [8,27] (fun v8 v27 w3=>∃ (j n2:Nat) (acc:List Int) (T:Int→Bool),j≤L.length∧v27=.int .i64 j∧jl (dxIn k l0_0 l1 (L.drop j) acc T=some S2)∧jl (acc.length≤j)∧jl (n2≤n+j)∧jl (DxI w (.slice A0_0 l0_0.length c0_0) T n2 w3)∧jl (Kd.R (Kd.int .i64) 3 w3 w.heap.size (dxOk w w4.heap.size w5.heap.size) v8 acc)∧jl (w5.heap.size≤w3.heap.size)∧jl (Kd.R (Kd.int .i64) 3 w3 w4.heap.size (fun k=>w4.heap.size≤k∧k<w5.heap.size) (.slice AL L.length cL) L)) (fun v8 v27 _=>L.length - (intOf v27).toNat)
    case atStart=>exact ⟨0,n,[],S1,Nat.zero_le _,rfl,HI,⟨Nat.le_refl _⟩,⟨Nat.le_refl _⟩,HD5,HA5,⟨Nat.le_refl _⟩,HL5⟩
    case round =>
     clear HI HA5 HL5 HD5
     obtain ⟨j,n2,acc,T,hj,rfl,HX,HAL,HN2,HD3,HA3,HS3,HL3⟩:=hrel
     obtain ⟨w3,rfl⟩:∃ w3,w3=wr:=⟨_,rfl⟩
     by_cases hlt2:j<L.length
     ·obtain ⟨q0,q1,hX⟩:=dxIn_step hlt2 HX.out
      have hC:=(Kd.jC HL3.out).2.2
      obtain ⟨adL,rfl,hcL⟩:=Kd.jPb hC (j:Int) (by omega) (by omega)
      rw [Int.toNat_natCast] at hcL
      obtain ⟨qv,hqv⟩:∃ qv,rd L (j:Int)=qv:=⟨_,rfl⟩
      rw [hqv] at q0 q1 hcL hX
      obtain ⟨ad2,e2,y0,y1,y2,y3⟩:=jua (Kd.jZ HR.out HD3.out.b) qv q0 q1
      obtain rfl:ad=ad2:=by injection e2
      have HKW:=am (show (Lit.int .i64 qv).wf=true by
       obtain ⟨m,rfl⟩:=Int.eq_ofNat_of_zero_le q0
       exact wf_nat (by unfold M6 at hlen;omega))
      replace q0:=ezT q0
      replace q1:=ezT q1
      clear hC hqv e2
      by_cases k8:(jc l1 qv).f1=8
      ·rw [if_pos k8] at hX
       obtain ⟨f,hf,hX2⟩:=bzS hX
       have k8b:((jc l1 qv).f1 == 8)=true:=by simp [k8]
       have cB:=HD3.out.cell
       obtain ⟨A8,c8,rfl⟩:=Kd.jta HA3.out
       have HF:=am (fun (W:World) (hb:Below w3.heap.size w3 W)=>jHb.calls k A0_0 c0_0 l0_0 A8 c8 acc (jc l1 qv).f2 f W (Kd.jZ HR0.out (HD3.out.b.trans (hb.mono HD3.out.b.size))) hc0_0 (Kd.jZ (Kd.jC HA3.out).2.2 hb) (Kd.jC HA3.out).2.1 hf)
       obtain ⟨D,hD1,hD2⟩:=HD3.out.s
       have HD1:=am hD1
       have HD2:=am hD2
       have HX2:=am hX2
       have HNL:=am (show n2<maxLen from Nat.lt_of_le_of_lt (Nat.le_trans HN2.out (Nat.add_le_add HN.out (show j≤M6 by omega))) (M6_lt (by omega)))
       clear hf hX hX2 hD1 hD2 k8 HX
       go_wp2_with (first |(go_at_call 69;refine (HF.out _ (Y40)).mono ?_;rintro e w6 ⟨rfl,hb6⟩;have HB6:=am (show Below w3.heap.size w3 w6 from Below.trans (Y40) (hb6.mono (jka (Y40))));clear hb6) |(at_mapUpdate;refine wpList_mapUpdate_own _ rfl _ _ _ 56 rfl 3 4 (Maps.int_keyed Try.underlying3) Try.underlying56 _ (w.heap.size+1) n2 D rfl (own_belowX HD1.out (Below.trans HB6.out (Y40))) HNL.out _ _ (.int .i64 qv) rfl rfl (Maps.keyOf_int_mk Try.underlying3 HKW.out) (.lit (.bool _)) [] (plainElem_bool Try.underlying4 _) ?_;intro w7 hown7 hgrow7;have HG7:=am hgrow7;have HD7:=am ((HD3.out.below (Below.trans HB6.out (Y40))).put hgrow7 (BSet.of_putb (own_belowX HD1.out (Below.trans HB6.out (Y40))) HD2.out hown7));have HA7:=am (Kd.R_grown (Kd.jqa HA3.out (Below.trans HB6.out (Y40))) hgrow7 (fun k hk e=>by cases e;exact Nat.lt_irrefl _ hk.1));have HL7:=am (Kd.R_grown (Kd.jqa HL3.out (Below.trans HB6.out (Y40))) hgrow7 (fun k hk e=>by cases e;have:=HB4.out.size;have:=HLT.out;have:=hk.1;omega));have HS7:=am (Nat.le_trans (Nat.le_trans HS3.out (jka (Below.trans HB6.out (Y40)))) hgrow7.size);obtain ⟨ad3,e3,z0,z1,z2,z3⟩:=jua (Kd.jZ HR.out HD7.out.b) qv (of_eq_true q0) (of_eq_true q1);obtain rfl:ad=ad3:=(by injection e3);clear hown7 hgrow7 e3 HF HD1 HD2 HA3 HL3 HS3 HD3) |((with_reducible refine jEa (b:=.append) (xs:=#[.tmp 48, .tmp 54]) rfl ?_);at_builtin;refine Kd.jGb (Kd.int .i64) (w0:=w) w.heap.size rfl (.tmp 48) (.tmp 54) 40 3 (.int .i64 0) 8 rfl Try.underlying40 info3 rfl (by decide) (by omega) _ acc (jc l1 qv).f2 [.int .i64 (jc l1 qv).f2] (dxOk w w4.heap.size w5.heap.size) (fun _=>False) rfl rfl ?aP (fun _ hk=>hk.elim) ?aF ?aO ?aB ?aS ?aL ?_;(case aP=>exact rfl);(case aB=>exact (Y95));(case aF=>exact (fun k hk=>⟨Nat.lt_of_lt_of_le (Nat.lt_of_lt_of_le HD7.out.lt (jka (Y40))) hk, .inr (Nat.le_trans (Nat.le_trans HS7.out (jka (Y40))) hk)⟩));(case aO=>exact (rq HA7.out));(case aS=>exact (jka (Y95)));(case aL=>have:=HAL.out;unfold M6 at hLM;omega);intro v8b w9 ho hb hg hat;have HA9:=am ho;have HB9:=am hb;have HG9:=am hg;clear ho hb hg hat))
       refine wp_region_any (by kernel_rfl) ?_
       change wpAny _ _ _ _ _ _ _ (World.drew _)
       refine wpAny_take (i:=0) (v:=?_) rfl (by kernel_rfl) (by kernel_rfl) (by kernel_rfl) (fun _ _ _ h=>h) (Or.inl ⟨by rfl,?_⟩) ?_
       rotate_left
       ·exact sb
       refine wpAny_take (i:=1) (v:=?_) rfl (by kernel_rfl) (by kernel_rfl) (by kernel_rfl) (fun _ _ _ h=>h) (Or.inl ⟨by rfl,?_⟩) ?_
       rotate_left
       ·exact sb
       refine wpAny_take (i:=3) (v:=?_) rfl (by kernel_rfl) (by kernel_rfl) (by kernel_rfl) (fun _ _ _ h=>h) (Or.inl ⟨by rfl,?_⟩) ?_
       rotate_left
       ·exact sb
       refine wpAny_take (i:=4) (v:=?_) rfl (by kernel_rfl) (by kernel_rfl) (by kernel_rfl) (fun _ _ _ h=>h) (Or.inl ⟨by rfl,?_⟩) ?_
       rotate_left
       ·exact sb
       refine wpAny_take (i:=5) (v:=?_) rfl (by kernel_rfl) (by kernel_rfl) (by kernel_rfl) (fun _ _ _ h=>h) (Or.inl ⟨by rfl,?_⟩) ?_
       rotate_left
       ·exact sb
       refine wpAny_take (i:=6) (v:=?_) rfl (by kernel_rfl) (by kernel_rfl) (by kernel_rfl) (fun _ _ _ h=>h) (Or.inl ⟨by rfl,?_⟩) ?_
       rotate_left
       ·exact sb
       refine wpAny_take (i:=7) (v:=?_) rfl (by kernel_rfl) (by kernel_rfl) (by kernel_rfl) (fun _ _ _ h=>h) (Or.inl ⟨by rfl,?_⟩) ?_
       rotate_left
       ·exact sb
       refine wpAny_ready (rs:=[2,8]) (by kernel_rfl) (by simp) ?_
       refine AllReady.cons rfl (fun K hK=>?_) (AllReady.cons rfl (fun K hK=>?_) AllReady.nil)
       ·go_simp
        refine hK _ _ ?_
        clear hK K
        refine wpAny_ready (rs:=[8]) (by kernel_rfl) (by simp) ?_
        refine AllReady.cons rfl (fun K hK=>?_) AllReady.nil
        go_simp
        refine hK _ _ ?_
        clear hK K
        refine wpAny_ready (rs:=[9]) (by kernel_rfl) (by simp) ?_
        refine AllReady.cons rfl (fun K hK=>?_) AllReady.nil
        go_simp
        refine (HF.out _ (jjc (Below.refl _ _))).mono ?_
        rintro e w6 ⟨rfl,hb6⟩
        refine hK _ _ ?_
        clear hK K
        have HB6:=am (show Below w3.heap.size w3 w6 from Below.trans (jjc (Below.refl _ _)) hb6)
        clear hb6
        refine wpAny_take (i:=10) (v:=?_) rfl (by kernel_rfl) (by kernel_rfl) (by kernel_rfl) (fun _ _ _ h=>h) (Or.inl ⟨by rfl,?_⟩) ?_
        rotate_left
        ·exact sb
        have HD6:=am (HD3.out.below HB6.out)
        obtain ⟨w7,hrun7,hS7,hG7⟩:=BSet.put HD6.out.s HNL.out HKW.out (decide (f≥0))
        have HD7:=am (HD6.out.put hG7 hS7)
        have HG7:=am hG7
        clear hS7 hG7
        refine wpAny_ready (rs:=[11]) (by kernel_rfl) (by simp) ?_
        refine AllReady.cons rfl (fun K hK=>?_) AllReady.nil
        go_simp
        refine hK _ _ ?_
        clear hK K hrun7
        refine wpAny_done (by kernel_rfl) ?_ _
        have HA7:=am (Kd.R_grown (Kd.jqa HA3.out HB6.out) HG7.out (fun k hk e=>by cases e;exact absurd hk.1 (Nat.lt_irrefl _)))
        have HL7:=am (Kd.R_grown (Kd.jqa HL3.out HB6.out) HG7.out (fun k hk e=>by cases e;have h4:=HB4.out.size;have h3:=HLT.out;have h2:=hk.1;omega))
        have HS7:=am (Nat.le_trans (Nat.le_trans HS3.out HB6.out.size) HG7.out.size)
        obtain ⟨ad3,e3,z0,z1,z2,z3⟩:=jua (Kd.jZ HR.out HD7.out.b) qv (of_eq_true q0) (of_eq_true q1)
        obtain rfl:ad=ad3:=by injection e3
        clear e3 y0 y1 y2 y3 hcL cB HF HD1 HD2 HA3 HL3 HS3 HD3 HD6 HG7
        go_wp2_with ((with_reducible refine jEa (b:=.append) (xs:=#[.tmp 48, .tmp 54]) rfl ?_);at_builtin;refine Kd.jGb (Kd.int .i64) (w0:=w) w.heap.size rfl (.tmp 48) (.tmp 54) 40 3 (.int .i64 0) 8 rfl Try.underlying40 info3 rfl (by decide) (by omega) _ acc (jc l1 qv).f2 [.int .i64 (jc l1 qv).f2] (dxOk w w4.heap.size w5.heap.size) (fun _=>False) rfl rfl ?aP (fun _ hk=>hk.elim) ?aF HA7.out HD7.out.b HD7.out.b.size ?aL ?_;(case aP=>exact rfl);(case aF=>exact (fun k hk=>⟨Nat.lt_of_lt_of_le HD7.out.lt hk, .inr (Nat.le_trans HS7.out hk)⟩));(case aL=>have:=HAL.out;unfold M6 at hLM;omega);intro v8b w9 ho hb hg hat;have HA9:=am ho;have HD9:=am (HD7.out.grown hg (fun e=>absurd (HA7.out.1 _ e.symm).1 (by omega)) (fun e=>absurd (HA7.out.1 _ e.symm).1 (Nat.lt_irrefl _)) hb);have HL9:=am (Kd.R_grown HL7.out hg (fun k hk e=>by have h9:=(HA7.out.1 _ e.symm).2;have h8:=hk.1;have h7:=hk.2;omega));have HS9:=am (Nat.le_trans HS7.out hg.size);clear ho hb hg hat)
        go_roundw
        case rel=>exact ⟨j+1,n2+1,acc ++ [(jc l1 qv).f2],(fun y=>if y=qv then decide (f≥0) else T y),hlt2,by go_num,HX2,⟨by have:=HAL.out;rw [List.length_append,List.length_singleton];omega⟩,⟨by have:=HN2.out;omega⟩,HD9,HA9,HS9,HL9⟩
        case measure=>simp [intOf];omega
       ·go_simp
        refine hK _ _ ?_
        clear hK K
        refine wpAny_ready (rs:=[2]) (by kernel_rfl) (by simp) ?_
        refine AllReady.cons rfl (fun K hK=>?_) AllReady.nil
        go_simp
        refine hK _ _ ?_
        clear hK K
        refine wpAny_ready (rs:=[9]) (by kernel_rfl) (by simp) ?_
        refine AllReady.cons rfl (fun K hK=>?_) AllReady.nil
        go_simp
        refine (HF.out _ (jjc (Below.refl _ _))).mono ?_
        rintro e w6 ⟨rfl,hb6⟩
        refine hK _ _ ?_
        clear hK K
        have HB6:=am (show Below w3.heap.size w3 w6 from Below.trans (jjc (Below.refl _ _)) hb6)
        clear hb6
        refine wpAny_take (i:=10) (v:=?_) rfl (by kernel_rfl) (by kernel_rfl) (by kernel_rfl) (fun _ _ _ h=>h) (Or.inl ⟨by rfl,?_⟩) ?_
        rotate_left
        ·exact sb
        have HD6:=am (HD3.out.below HB6.out)
        obtain ⟨w7,hrun7,hS7,hG7⟩:=BSet.put HD6.out.s HNL.out HKW.out (decide (f≥0))
        have HD7:=am (HD6.out.put hG7 hS7)
        have HG7:=am hG7
        clear hS7 hG7
        refine wpAny_ready (rs:=[11]) (by kernel_rfl) (by simp) ?_
        refine AllReady.cons rfl (fun K hK=>?_) AllReady.nil
        go_simp
        refine hK _ _ ?_
        clear hK K hrun7
        refine wpAny_done (by kernel_rfl) ?_ _
        have HA7:=am (Kd.R_grown (Kd.jqa HA3.out HB6.out) HG7.out (fun k hk e=>by cases e;exact absurd hk.1 (Nat.lt_irrefl _)))
        have HL7:=am (Kd.R_grown (Kd.jqa HL3.out HB6.out) HG7.out (fun k hk e=>by cases e;have h4:=HB4.out.size;have h3:=HLT.out;have h2:=hk.1;omega))
        have HS7:=am (Nat.le_trans (Nat.le_trans HS3.out HB6.out.size) HG7.out.size)
        obtain ⟨ad3,e3,z0,z1,z2,z3⟩:=jua (Kd.jZ HR.out HD7.out.b) qv (of_eq_true q0) (of_eq_true q1)
        obtain rfl:ad=ad3:=by injection e3
        clear e3 y0 y1 y2 y3 hcL cB HF HD1 HD2 HA3 HL3 HS3 HD3 HD6 HG7
        go_wp2_with ((with_reducible refine jEa (b:=.append) (xs:=#[.tmp 48, .tmp 54]) rfl ?_);at_builtin;refine Kd.jGb (Kd.int .i64) (w0:=w) w.heap.size rfl (.tmp 48) (.tmp 54) 40 3 (.int .i64 0) 8 rfl Try.underlying40 info3 rfl (by decide) (by omega) _ acc (jc l1 qv).f2 [.int .i64 (jc l1 qv).f2] (dxOk w w4.heap.size w5.heap.size) (fun _=>False) rfl rfl ?aP (fun _ hk=>hk.elim) ?aF HA7.out HD7.out.b HD7.out.b.size ?aL ?_;(case aP=>exact rfl);(case aF=>exact (fun k hk=>⟨Nat.lt_of_lt_of_le HD7.out.lt hk, .inr (Nat.le_trans HS7.out hk)⟩));(case aL=>have:=HAL.out;unfold M6 at hLM;omega);intro v8b w9 ho hb hg hat;have HA9:=am ho;have HD9:=am (HD7.out.grown hg (fun e=>absurd (HA7.out.1 _ e.symm).1 (by omega)) (fun e=>absurd (HA7.out.1 _ e.symm).1 (Nat.lt_irrefl _)) hb);have HL9:=am (Kd.R_grown HL7.out hg (fun k hk e=>by have h9:=(HA7.out.1 _ e.symm).2;have h8:=hk.1;have h7:=hk.2;omega));have HS9:=am (Nat.le_trans HS7.out hg.size);clear ho hb hg hat)
        go_roundw
        case rel=>exact ⟨j+1,n2+1,acc ++ [(jc l1 qv).f2],(fun y=>if y=qv then decide (f≥0) else T y),hlt2,by go_num,HX2,⟨by have:=HAL.out;rw [List.length_append,List.length_singleton];omega⟩,⟨by have:=HN2.out;omega⟩,HD9,HA9,HS9,HL9⟩
        case measure=>simp [intOf];omega
      ·rw [if_neg k8] at hX
       have k8b:((jc l1 qv).f1 == 8)=false:=by simp [k8]
       have HX2:=am hX
       clear hX k8 HX
       go_wp2
       go_roundw
       case rel=>exact ⟨j+1,n2,acc,T,hlt2,by go_num,HX2,⟨by have:=HAL.out;omega⟩,⟨by have:=HN2.out;omega⟩,HD3,HA3,HS3,HL3⟩
       case measure=>simp [intOf];omega
     ·have hX:=HX.out
      rw [List.drop_of_length_le (by omega)] at hX
      obtain rfl:T=S2:=Option.some.inj hX
      clear hX HX
      go_wp2
      go_roundw
      case rel=>exact ⟨i+1,n2,T,hlt,by go_num,HO,⟨by rw [Nat.add_mul,Nat.one_mul];exact Nat.le_trans HN2.out (Nat.add_le_add HN.out (by omega))⟩,HD3⟩
      case measure=>simp [intOf];omega
   ·rw [if_neg h7] at hH
    have h7b:((jc l1 (i:Int)).f1 != 7)=true:=by simp [h7]
    have HO:=am hH
    clear hH h7
    go_wp2
    go_roundw
    case rel=>exact ⟨i+1,n,S1,hlt,by go_num,HO,⟨Nat.le_trans HN.out (Nat.mul_le_mul_right _ (Nat.le_succ i))⟩,⟨by first | exact HD.out | exact HD.out.below (by repeat (first |(with_reducible first | exact Below.refl _ _ | apply jN | apply jm | apply jO) | exact Below.refl _ _))⟩⟩
    case measure=>simp [intOf];omega
  ·have hH:=HH.out
   rw [show l1.length - i=0 by omega] at hH
   obtain rfl:=Option.some.inj hH
   go_wp2
   go_ret
   exact ⟨_,n,rfl,by omega,HD.out.s,HD.out.b⟩
set_option maxHeartbeats 8000000 in
set_option maxRecDepth 100000 in
theorem impl_without_Drop (k : Nat) (A0 : Option Addr) (c0 : Nat) (l0 : List (S52)) (B0 : Nat) (gone : Int → Bool) (r : List (S52)) (w : World) (hr0 : Kd.C k52 w A0 l0.length l0) (hc0 : l0.length ≤ c0) (hlen : l0.length ≤ M6) (h : woG l0 gone k 0 [] = some r)
  (hp:∀ W,Below w.heap.size w W→∀ (x:Int),(Lit.int .i64 x).wf=true→Calls Try.prog 42 #[.int .i64 x, .pointer (some ⟨B0,0,none⟩)] W fun e w'=>e=.returned (.bool (gone x))∧Below W.heap.size W w') :
  Calls Try.prog 35 #[.slice A0 l0.length c0, .func (.func 42) #[] #[.pointer (some ⟨B0,0,none⟩)]] w fun e w'=>∃ v0_:Value,e=.returned v0_∧Kd.R k52 52 w' w.heap.size (fun _=>True) v0_ r∧Below w.heap.size w w':=by
 have HR:=am hr0
 have HP:=am hp
 have H0:=am h
 have HB:=am (Below.refl w.heap.size w)
 have HLM:=am (show l0.length≤1048576 from hlen)
 have hm:l0.length≤9223372036854775807:=Kd.C_max hr0
 clear hr0 hp h hlen
 go_enter Try.func35,Try.ntmps35
 go_wp2_with ((with_reducible refine jP (N:=9) rfl ?_);refine Kd.R_mkcap k52 _ 52 rfl (N:=9) rfl 28 _ _ rfl (l0.length:Int) rfl rfl Try.underlying28 (.agg #[(.int .i64 0),(.int .i64 0),(.int .i64 0),(.int .i64 0)]) 32 jac rfl (by decide) (by omega) (ok:=fun _=>True) trivial (by omega) (by have:=HLM.out;simp only [Int.toNat_natCast];omega) (Below.refl _ _) (Nat.le_refl _) ?_;intro v787 w7 ho8 hb hg_ hnew_;clear hg_ hnew_;have n0_:=am (Kd.jfa ho8 (jka (bq)));have n2_:=am (ji (bq) hb);clear HB;have HO:=n0_;have HB:=n2_;clear n0_ n2_ hb ho8)
 go_loopg [5,6] k (fun kq v5 v6 w'=>∃ (acc:List (S52)) (i:Int),v6=.int .i64 i∧jl (woG l0 gone kq i acc=some r)∧jl (kq≤k)∧jl (Kd.R k52 52 w' w.heap.size (fun _=>True) v5 acc)∧jl (Below w.heap.size w w'))
 case atStart=>exact ⟨[],0,rfl,H0,⟨Nat.le_refl _⟩,⟨rq HO.out⟩,⟨(bq)⟩⟩
 case round =>
  clear H0 HO HB
  obtain ⟨acc,i,rfl,HA,HK,HO,HB⟩:=hrel
  cases gk with
  | zero=>exact absurd HA.out (by simp [woG])
  | succ k1 =>
   have H:=HA.out
   clear HA
   simp only [woG] at H
   by_cases hlt:i<(l0.length:Int)
   ·rw [if_pos hlt] at H
    have hltb:=dzT hlt
    by_cases h0:0≤i
    ·rw [if_pos h0] at H
     have HW:=am (show (Lit.int .i64 i).wf=true by
      obtain ⟨n,rfl⟩:=Int.eq_ofNat_of_zero_le h0
      exact wf_nat (by have:=HLM.out;omega))
     cases hgn:gone i with
     | true =>
      rw [hgn,if_pos rfl] at H
      obtain ⟨e,he,H⟩:=bzS H
      have H':=am H
      have HE:=am (fun W (hb:Below w.heap.size w W)=>jpa.calls k1 A0 c0 l0 i e W (Kd.jZ HR.out hb) hc0 he)
      have HGN:=am hgn
      clear H he hlt h0
      go_wp2_with (first |(go_at_call 42;refine (HP.out _ (bq) _ HW.out).mono ?_;rw [HGN.out];rintro e w2 ⟨rfl,hb2⟩;have n1_:=am (Kd.jqa (rq HO.out) hb2);have n2_:=am (ji (bq) hb2);clear HO HB;have HO:=n1_;have HB:=n2_;clear n1_ n2_ hb2) |(go_at_call 62;refine (HE.out _ (bq)).mono ?_;rintro e w3 ⟨rfl,⟨nd,rfl⟩⟩))
      go_roundg k1
      case measure=>have:=HK.out;omega
      case rel=>exact ⟨acc,e,rfl,H',⟨by have:=HK.out;omega⟩,⟨rq HO.out⟩,⟨(bq)⟩⟩
     | false =>
      rw [hgn,if_neg (by simp)] at H
      by_cases hac:acc.length<4398046511104
      ·rw [if_pos hac] at H
       have H':=am H
       have LM:=am hac
       have HGN:=am hgn
       obtain ⟨ad,e2,x0,x1,x2,x3⟩:=jua HR.out i h0 hlt
       cases e2
       have p1:=ezT h0
       have q1:=ezT hlt
       clear H hac hgn h0 hlt
       go_wp2_with (first |(go_at_call 42;refine (HP.out _ (bq) _ HW.out).mono ?_;rw [HGN.out];rintro e w2 ⟨rfl,hb2⟩;have n1_:=am (Kd.jqa (rq HO.out) hb2);have n2_:=am (ji (bq) hb2);clear HO HB;have HO:=n1_;have HB:=n2_;clear n1_ n2_ hb2;have y0:=(HB.out.cell (World.block_lt_of_cell? w _ x0)).trans x0;have y1:=(HB.out.cell (World.block_lt_of_cell? w _ x1)).trans x1;have y2:=(HB.out.cell (World.block_lt_of_cell? w _ x2)).trans x2;have y3:=(HB.out.cell (World.block_lt_of_cell? w _ x3)).trans x3) |((with_reducible refine jEa (b:=.append) (xs:=#[.tmp 20, .tmp 25]) rfl ?_);at_builtin;refine Kd.jGb k52 (w0:=w) w.heap.size rfl (.tmp 20) (.tmp 25) 28 52 (.agg #[(.int .i64 0),(.int .i64 0),(.int .i64 0),(.int .i64 0)]) 32 rfl Try.underlying28 jac rfl (by decide) (by omega) u5 acc (⟨(jc l0 i).f0,(jc l0 i).f1,(jc l0 i).f2,(jc l0 i).f3⟩:S52) [.int .i64 ((jc l0 i).f0), .int .i64 ((jc l0 i).f1), .int .i64 ((jc l0 i).f2), .int .i64 ((jc l0 i).f3)] (fun _=>True) (fun _=>False) rfl rfl ?aP (fun _ hk=>hk.elim) ?aF ?aO ?aB ?aS ?aL ?_;(case aP=>exact jpb _ _ _ (⟨(jc l0 i).f0,(jc l0 i).f1,(jc l0 i).f2,(jc l0 i).f3⟩:S52));(case aB=>exact (bq));(case aF=>exact (fun _ _=>trivial));(case aO=>exact (rq HO.out));(case aS=>exact (jka (bq)));(case aL=>have:=LM.out;omega);intro v173 w16 ho hb hg hat;have n1_:=am (hb);have n2_:=am (ho);clear HB HO;have HB:=n1_;have HO:=n2_;clear n1_ n2_ ho hb hg hat))
       go_roundg k1
       case measure=>have:=HK.out;omega
       case rel=>exact ⟨acc ++ [jc l0 i],wrap64 (i+1),rfl,H',⟨by have:=HK.out;omega⟩,⟨rq HO.out⟩,⟨(bq)⟩⟩
      ·rw [if_neg hac] at H;cases H
    ·rw [if_neg h0] at H;cases H
   ·rw [if_neg hlt] at H
    obtain rfl:=Option.some.inj H
    have hltb:=dzF hlt
    clear hlt
    go_wp2_with (go_at_call 63;refine (jIc.calls (fun _=>True) _ acc acc w _ (bq) (rq HO.out) (show jIc.f acc=some acc from rfl)).mono ?_;rintro e w9 ⟨v9,rfl,hR9,hB9,hK9⟩)
    go_ret
    exact ⟨_,rfl,Kd.jG hR9 (fun _ _=>trivial),hB9⟩
set_option maxRecDepth 100000 in
theorem impl_Drop1_calls (S : Int → Bool) (x : Int) (hx : (Lit.int .i64 x).wf = true) (B0 b n : Nat) (w : World) (hc : w.cell? ⟨B0, 0, none⟩ = some (.map (some b))) (hS : BSet w b n S) :
  Calls Try.prog 42 #[.int .i64 x, .pointer (some ⟨B0,0,none⟩)] w fun e w'=>e=.returned (.bool (S x))∧Below w.heap.size w w':=by
 have hl:=BSet.look hS hx
 clear hS hx
 go_enter Try.func42,Try.ntmps42
 go_wp2
 go_ret
 exact ⟨rfl,Below.refl _ _⟩
def jgb.f (k : Nat) (l0_0 : List S78) (l1 : List S52) : Option (List S52) := (jy.f k l0_0 l1).bind fun v => if v = true then (if l1.length ≤ M6 then (dxF k l0_0 l1).bind fun S => woG l1 S k 0 [] else none) else some []
set_option maxHeartbeats 8000000 in
set_option maxRecDepth 100000 in
theorem jgb.calls (k : Nat) (A0_0 : Option Addr) (c0_0 : Nat) (l0_0 : List (S78)) (A1 : Option Addr) (c1 : Nat) (l1 : List (S52)) (r : List S52) (w : World) (hr0_0 : Kd.C k78 w A0_0 l0_0.length l0_0) (hc0_0 : l0_0.length ≤ c0_0) (hr1 : Kd.C k52 w A1 l1.length l1) (hc1 : l1.length ≤ c1) (h : jgb.f k l0_0 l1 = some r) :
  Calls Try.prog 19 #[.agg #[.slice A0_0 l0_0.length c0_0], .slice A1 l1.length c1] w fun e w'=>∃ v0_:Value,e=.returned v0_∧Kd.R k52 52 w' w.heap.size (fun _=>True) v0_ r∧Below w.heap.size w w':=by
 obtain ⟨v,hv,h⟩:=bzS h
 have hu32:=Try.underlying32
 have B1:=am ((Below.refl w.heap.size w).alloc (Nat.le_refl _) (.cells #[.slice A0_0 l0_0.length c0_0] 32))
 have HV:=am (fun (W:World) (hb:Below w.heap.size w W)=>jy.calls k A0_0 c0_0 l0_0 A1 c1 l1 v W (Kd.jZ hr0_0 hb) hc0_0 (Kd.jZ hr1 hb) hc1 hv)
 cases v with
 | false =>
  rw [if_neg (by simp)] at h
  obtain rfl:=Option.some.inj h
  clear hv h hr0_0 hr1
  go_enter Try.func19,Try.ntmps19
  go_wp2_with (go_at_call 27;refine (HV.out _ B1.out).mono ?_;rintro e w' ⟨rfl,hb2⟩)
  go_ret
  exact ⟨_,rfl,Kd.R_nil _ _ _ _ _,B1.out.trans (hb2.mono (by simp))⟩
 | true =>
  rw [if_pos rfl] at h
  by_cases hlen:l1.length≤M6
  case neg=>rw [if_neg hlen] at h;cases h
  rw [if_pos hlen] at h
  obtain ⟨S,hS,h⟩:=bzS h
  have HJ:=am (fun (W:World) (hb:Below w.heap.size w W)=>impl_deadExcepts.calls k A0_0 c0_0 l0_0 A1 c1 l1 S W (Kd.jZ hr0_0 hb) hc0_0 (Kd.jZ hr1 hb) hc1 hlen hS)
  have HW:=am (fun (W:World) (hb:Below w.heap.size w W) (B0 b n:Nat) (hc:W.cell? ⟨B0,0,none⟩=some (.map (some b))) (hS:BSet W b n S) =>
   impl_without_Drop k A1 c1 l1 B0 S r W (Kd.jZ hr1 hb) hc1 hlen h (fun W' hb' x hx=>impl_Drop1_calls S x hx B0 b n W' (jia hb' hc) (hS.below hb')))
  clear hv h hr0_0 hr1 hlen hS
  go_enter Try.func19,Try.ntmps19
  go_wp2_with (first |(go_at_call 27;refine (HV.out _ B1.out).mono ?_;rintro e w1 ⟨rfl,hb2⟩;have cT:=jia hb2 (cell_newP w (.slice A0_0 l0_0.length c0_0) 32);have hb1:=am (B1.out.trans (hb2.mono (by simp)));clear HV hb2) |(go_at_call 41;refine (HJ.out _ hb1.out).mono ?_;rintro e w2 ⟨b,n,rfl,hbb,hS,hb3⟩;have HS:=am (hS.alloc (.cells #[.map (some b)] 56));have HB2:=am ((hb1.out.trans (hb3.mono hb1.out.size)).alloc (Nat.le_trans hb1.out.size hb3.size) (.cells #[.map (some b)] 56));clear HJ hS hb3) |(go_at_call 35;refine (HW.out _ HB2.out _ b n (cell_newP w2 (.map (some b)) 56) HS.out).mono ?_;rintro e w3 ⟨v2,rfl,hr2,hb4⟩))
  go_ret
  exact ⟨_,rfl,Kd.jfa hr2 HB2.out.size,jga HB2.out HB2.out.size hb4⟩
end
def je (w0 W : World) (g : Nat) (f0 : List Int) (f1 : Int) : Prop := ∃ A0 c0, W.heap[g]? = some (.cells #[.slice A0 f0.length c0, .int .i64 f1] 92 (0, 0)) ∧ w0.heap.size ≤ g ∧ Kd.C (Kd.int .u8) w0 A0 f0.length f0
theorem je.grown {w0 W : World} {g : Nat} {f0 : List Int} {f1 : Int} {W1 : World} {row : Option Nat} (h : je w0 W g f0 f1) (hw : W.grownBy W1 row) (hne : some g ≠ row) : je w0 W1 g f0 f1 := by
 obtain ⟨A0,c0,hb,hg,hr0⟩:=h
 exact ⟨A0,c0,jOa hb hw hne,hg,hr0⟩
theorem je.kept {w0 W : World} {g : Nat} {f0 : List Int} {f1 : Int} {W1 : World} {S : Nat → Prop} (h : je w0 W g f0 f1) (hk : Kept W W1 S) (hne : ¬ S g) : je w0 W1 g f0 f1 := by
 obtain ⟨A0,c0,hb,hg,hr0⟩:=h
 exact ⟨A0,c0,blk_kept hb hk hne,hg,hr0⟩
theorem je.below {w0 W : World} {g : Nat} {f0 : List Int} {f1 : Int} {W1 : World} (h : je w0 W g f0 f1) (hw : Below W.heap.size W W1) : je w0 W1 g f0 f1 := h.grown (grown_of_below hw none) (by simp)
theorem je.alloc {w0 W : World} {g : Nat} {f0 : List Int} {f1 : Int} (h : je w0 W g f0 f1) (o : Obj) : je w0 (W.alloc o) g f0 f1 := h.below (jN (Below.refl _ _) o)
theorem je.drewN {w0 W : World} {g : Nat} {f0 : List Int} {f1 : Int} (h : je w0 W g f0 f1) (m : Nat) : je w0 (W.drewN m) g f0 f1 := h
theorem je.drew {w0 W : World} {g : Nat} {f0 : List Int} {f1 : Int} (h : je w0 W g f0 f1) : je w0 W.drew g f0 f1 := h
theorem je.at_ {w0 W : World} {g : Nat} {f0 : List Int} {f1 : Int} {w' : World} {m : Nat} (hq : W.drewN m = w') (h : je w0 W g f0 f1) : je w0 w' g f0 f1 := by subst hq; exact je.drewN h m
theorem je.apart {w0 W : World} {g : Nat} {f0 : List Int} {f1 : Int} {α : Type} {d : Kd α} {e : Nat} {base : Nat} {ok : Nat → Prop} {v : Value} {xs : List α} (h : je w0 W g f0 f1) (ho : d.R e W base ok v xs) (ht : ∀ q, q ∈ e :: d.E → q ≠ 92) : d.R e W base (fun k => ok k ∧ k ≠ g) v xs := by
 obtain ⟨A0,c0,hb,hg,hr0⟩:=h
 exact Kd.jQa ho hb ht
theorem je.own_ne {w0 W : World} {g : Nat} {f0 : List Int} {f1 : Int} {α : Type} {d : Kd α} {e : Nat} {base : Nat} {ok : Nat → Prop} {v : Value} {xs : List α} (h : je w0 W g f0 f1) (ho : d.R e W base ok v xs) (ht : e ≠ 92) : some g ≠ v.ownBlock := by
 obtain ⟨A0,c0,hb,hg,hr0⟩:=h
 exact Kd.R_ne ho hb ht
theorem je.lt {w0 W : World} {g : Nat} {f0 : List Int} {f1 : Int} (h : je w0 W g f0 f1) : g < W.heap.size := by
 obtain ⟨A0,c0,hb,hg,hr0⟩:=h
 exact jEb hb
theorem je.ge {w0 W : World} {g : Nat} {f0 : List Int} {f1 : Int} (h : je w0 W g f0 f1) : w0.heap.size ≤ g := by
 obtain ⟨A0,c0,hb,hg,hr0⟩:=h
 exact hg
theorem je.ne_blk {w0 W : World} {g : Nat} {f0 : List Int} {f1 : Int} {a : Nat} {cs : Array Value} {t : TypeId} {fr : Nat × Nat} (h : je w0 W g f0 f1) (hb2 : W.heap[a]? = some (.cells cs t fr)) (ht : t ≠ 92) : g ≠ a := by
 obtain ⟨A0,c0,hb,hg,hr0⟩:=h
 rintro rfl
 rw [hb] at hb2
 injection hb2 with hb2
 injection hb2 with _ ht2
 exact ht ht2.symm
theorem je.far {w0 W : World} {g : Nat} {f0 : List Int} {f1 : Int} {p : Addr} (h : je w0 W g f0 f1) (hne : g ≠ p.block) (u : Value) : je w0 (W.setCell p u) g f0 f1 := by
 obtain ⟨A0,c0,hb,hg,hr0⟩:=h
 exact ⟨A0,c0,jib hb hne u,hg,hr0⟩
theorem cellS92_0 {W : World} {g : Nat} {A0 : Option Addr} {c0 : Nat} {f0 : List Int} {f1 : Int} (h : W.heap[g]? = some (.cells #[.slice A0 f0.length c0, .int .i64 f1] 92 (0, 0))) : W.cell? ⟨g, 0, none⟩ = some (.slice A0 f0.length c0) := (jJ h 0).trans rfl
theorem cellS92_1 {W : World} {g : Nat} {A0 : Option Addr} {c0 : Nat} {f0 : List Int} {f1 : Int} (h : W.heap[g]? = some (.cells #[.slice A0 f0.length c0, .int .i64 f1] 92 (0, 0))) : W.cell? ⟨g, 1, none⟩ = some (.int .i64 f1) := (jJ h 1).trans rfl
theorem je.joc {w0 W : World} {g : Nat} {f0 : List Int} {f1 : Int} (h : je w0 W g f0 f1) (x : Int) : je w0 (W.setCell ⟨g, 1, none⟩ (.int .i64 x)) g f0 x := by
 obtain ⟨A0,c0,hb,hg,hr0⟩:=h
 exact ⟨A0,c0,by simpa using blk_set hb 1 (.int .i64 x),hg,hr0⟩
def jf.j0 : Nat → Int → Bool → List Int → Int → Option (Int × Int)
 | 0,_,_,_,_=>none
 | k+1,x1,x24,x1000,x1001=>if x24=true then (some (0,x1001)) else (if (wrap64 (x1001 - 1))<(x1000.length:Int) then (if 0≤(wrap64 (x1001 - 1)) then (if x1=0 then (none) else (some (Int.tmod (wrap64 (rd x1000 (wrap64 (x1001 - 1)))) x1,x1001))) else (none)) else (if (x1000.length:Int)=0 then (none) else (if 0≤(Int.tmod (wrap64 (x1001 - 1)) (x1000.length:Int)) then (if (Int.tmod (wrap64 (x1001 - 1)) (x1000.length:Int))<(x1000.length:Int) then (if 0≤(Int.tmod (wrap64 ((wrap64 ((wrap64 (x1001 - 1)) * 7))+3)) (x1000.length:Int)) then (if (Int.tmod (wrap64 ((wrap64 ((wrap64 (x1001 - 1)) * 7))+3)) (x1000.length:Int))<(x1000.length:Int) then (if x1=0 then (none) else (some (Int.tmod (Go.bits .xor .i64 (wrap64 ((wrap64 ((wrap64 ((wrap64 ((wrap64 (rd x1000 (Int.tmod (wrap64 (x1001 - 1)) (x1000.length:Int)))) * 131))+(wrap64 ((wrap64 (rd x1000 (Int.tmod (wrap64 ((wrap64 ((wrap64 (x1001 - 1)) * 7))+3)) (x1000.length:Int)))) * 1117))))+(wrap64 ((wrap64 (x1001 - 1)) * 29))))+(wrap64 ((wrap64 (Int.tdiv (wrap64 (x1001 - 1)) (x1000.length:Int))) * 53)))) (wrap64 (Int.tdiv (wrap64 ((wrap64 ((wrap64 ((wrap64 ((wrap64 (rd x1000 (Int.tmod (wrap64 (x1001 - 1)) (x1000.length:Int)))) * 131))+(wrap64 ((wrap64 (rd x1000 (Int.tmod (wrap64 ((wrap64 ((wrap64 (x1001 - 1)) * 7))+3)) (x1000.length:Int)))) * 1117))))+(wrap64 ((wrap64 (x1001 - 1)) * 29))))+(wrap64 ((wrap64 (Int.tdiv (wrap64 (x1001 - 1)) (x1000.length:Int))) * 53)))) 64))) x1,x1001))) else (none)) else (none)) else (none)) else (none))))
def jf.f (k : Nat) (s0_0 : List Int) (s0_1 : Int) (a1 : Int) : Option (Int × Int) := if a1 < 1 then (jf.j0 k a1 true s0_0 (wrap64 (s0_1 + 1))) else (jf.j0 k a1 ((s0_0.length : Int) == 0) s0_0 (wrap64 (s0_1 + 1)))
set_option maxHeartbeats 8000000 in
set_option maxRecDepth 100000 in
theorem jf.calls (k : Nat) (g : Nat) (s0_0 : List Int) (s0_1 : Int) (a1 : Int) (r1 : Int) (r2 : Int) (w0 w : World) (hI : je w0 w g s0_0 s0_1) (hB : Below w0.heap.size w0 w) (h : jf.f k s0_0 s0_1 a1 = some (r1, r2)) :
  Calls Try.prog 76 #[.pointer (some ⟨g,0,none⟩), .int .i64 a1] w fun e w'=>e=.returned (.int .i64 r1)∧je w0 w' g s0_0 r2∧Below w0.heap.size w0 w'∧jb w w' g none:=by
 have HI0:=am hI
 have HK:=am (jb.refl w g none)
 have HL:=am hB.size
 clear hI
 have HW0:=am hB.size
 have HB:=am hB
 clear hB
 have H:(if a1<1 then (jf.j0 k a1 true s0_0 (wrap64 (s0_1+1))) else (jf.j0 k a1 ((s0_0.length:Int) == 0) s0_0 (wrap64 (s0_1+1))))=some (r1,r2):=h
 clear h
 have HC3:=am H
 clear H
 obtain ⟨ASz4_0,cSz4_0,HGz4,hgz4,HSz4_0⟩:=HI0.out
 have hcz4_0:=cellS92_0 HGz4
 have hcz4_1:=cellS92_1 HGz4
 have hfz4_1:=ja HGz4 1
 clear HGz4 hgz4
 go_enter Try.func76,Try.ntmps76
 go_upto_region 2 with (fail)
 repeat (go_quiet (fail);go_upto_region 2 with (fail))
 go_cut [24] (fun v24 wc=>∃ (kq:Nat) (x24_2:Bool),v24=.bool x24_2∧jl (jf.j0 kq a1 x24_2 s0_0 (wrap64 (s0_1+1))=some (r1,r2))∧jl (kq≤k)∧jl (je w0 wc g s0_0 (wrap64 (s0_1+1)))∧jl (jb w wc g none)∧jl (Below w0.heap.size w0 wc))
 case first =>
  have H:=HC3.out
  clear HC3
  by_cases c5:a1<1
  ·rw [if_pos c5] at H
   have c5b0:decide (a1<1)=true:=dzT c5
   clear c5
   (first | rw [c5b0] |(simp only [jkb,jnb];rw [c5b0]) | skip)
   have H':=am H
   clear H
   go_wp2
   repeat (go_quiet (fail);try go_wp2)
   go_meet
   case rel=>exact ⟨_,(true),(sq),H',⟨Y42⟩,⟨Y15⟩,⟨Y16⟩,⟨Y17⟩⟩
  ·rw [if_neg c5] at H
   have c5b0:decide (a1<1)=false:=dzF c5
   clear c5
   (first | rw [c5b0] |(simp only [jkb,jnb];rw [c5b0]) | skip)
   have H':=am H
   clear H
   obtain ⟨ASz6_0,cSz6_0,HGz6,hgz6,HSz6_0⟩:=HI0.out
   have hcz6_0:=cellS92_0 HGz6
   have hcz6_1:=cellS92_1 HGz6
   have hfz6_1:=ja HGz6 1
   clear HGz6 hgz6
   go_wp2
   repeat (go_quiet (fail);try go_wp2)
   go_meet
   case rel=>exact ⟨_,(((s0_0.length:Int) == 0)),(sq),H',⟨Y42⟩,⟨Y15⟩,⟨Y16⟩,⟨Y17⟩⟩
 case rest =>
  clear HC3
  try clear p2
  try clear c5
  try clear c5b0
  try clear p6
  try clear hcz4_0
  try clear hcz4_1
  try clear hcz6_0
  try clear hcz6_1
  try clear hfz4_1
  try clear hfz6_1
  obtain ⟨kq,x24_2,rfl,HA,HJ2,HI0,HK,HB⟩:=hcut
  cases kq with
  | zero=>exact absurd HA.out (by simp [jf.j0])
  | succ kj2 =>
   have H:=HA.out
   clear HA
   simp only [jf.j0] at H
   by_cases c7:x24_2=true
   ·subst c7
    have H1:(some (0,(wrap64 (s0_1+1))))=some (r1,r2):=by rw [if_pos rfl] at H;exact H
    clear H
    have H:=H1
    clear H1
    simp only [Option.some.injEq,Prod.mk.injEq] at H
    obtain ⟨rfl,rfl⟩:=H
    go_wp2
    repeat (go_quiet (fail);try go_wp2)
    go_ret
    exact ⟨Y0,Y15,Y17,Y16⟩
   ·replace c7:=Bool.eq_false_iff.mpr c7
    subst c7
    have H1:(if (wrap64 ((wrap64 (s0_1+1)) - 1))<(s0_0.length:Int) then (if 0≤(wrap64 ((wrap64 (s0_1+1)) - 1)) then (if a1=0 then (none) else (some (Int.tmod (wrap64 (rd s0_0 (wrap64 ((wrap64 (s0_1+1)) - 1)))) a1,(wrap64 (s0_1+1))))) else (none)) else (if (s0_0.length:Int)=0 then (none) else (if 0≤(Int.tmod (wrap64 ((wrap64 (s0_1+1)) - 1)) (s0_0.length:Int)) then (if (Int.tmod (wrap64 ((wrap64 (s0_1+1)) - 1)) (s0_0.length:Int))<(s0_0.length:Int) then (if 0≤(Int.tmod (wrap64 ((wrap64 ((wrap64 ((wrap64 (s0_1+1)) - 1)) * 7))+3)) (s0_0.length:Int)) then (if (Int.tmod (wrap64 ((wrap64 ((wrap64 ((wrap64 (s0_1+1)) - 1)) * 7))+3)) (s0_0.length:Int))<(s0_0.length:Int) then (if a1=0 then (none) else (some (Int.tmod (Go.bits .xor .i64 (wrap64 ((wrap64 ((wrap64 ((wrap64 ((wrap64 (rd s0_0 (Int.tmod (wrap64 ((wrap64 (s0_1+1)) - 1)) (s0_0.length:Int)))) * 131))+(wrap64 ((wrap64 (rd s0_0 (Int.tmod (wrap64 ((wrap64 ((wrap64 ((wrap64 (s0_1+1)) - 1)) * 7))+3)) (s0_0.length:Int)))) * 1117))))+(wrap64 ((wrap64 ((wrap64 (s0_1+1)) - 1)) * 29))))+(wrap64 ((wrap64 (Int.tdiv (wrap64 ((wrap64 (s0_1+1)) - 1)) (s0_0.length:Int))) * 53)))) (wrap64 (Int.tdiv (wrap64 ((wrap64 ((wrap64 ((wrap64 ((wrap64 (rd s0_0 (Int.tmod (wrap64 ((wrap64 (s0_1+1)) - 1)) (s0_0.length:Int)))) * 131))+(wrap64 ((wrap64 (rd s0_0 (Int.tmod (wrap64 ((wrap64 ((wrap64 ((wrap64 (s0_1+1)) - 1)) * 7))+3)) (s0_0.length:Int)))) * 1117))))+(wrap64 ((wrap64 ((wrap64 (s0_1+1)) - 1)) * 29))))+(wrap64 ((wrap64 (Int.tdiv (wrap64 ((wrap64 (s0_1+1)) - 1)) (s0_0.length:Int))) * 53)))) 64))) a1,(wrap64 (s0_1+1))))) else (none)) else (none)) else (none)) else (none))))=some (r1,r2):=by rw [if_neg (show ¬ (false=true) by decide)] at H;exact H
    clear H
    have H:=H1
    clear H1
    by_cases c8:(wrap64 ((wrap64 (s0_1+1)) - 1))<(s0_0.length:Int)
    ·rw [if_pos c8] at H
     have c8b0:decide ((wrap64 ((wrap64 (s0_1+1)) - 1))<(s0_0.length:Int))=true:=dzT c8
     clear c8
     obtain ⟨ji9,hji9⟩:∃ j_:Int,(wrap64 ((wrap64 (s0_1+1)) - 1))=j_:=⟨_,rfl⟩
     replace H:(if 0≤(ji9) then (if a1=0 then (none) else (some (Int.tmod (wrap64 (rd s0_0 (ji9))) a1,(wrap64 (s0_1+1))))) else (none))=some (r1,r2):=by first |(rw [hji9] at H;exact H) |(simp only [hji9] at H ⊢;exact H)
     (try rw [hji9] at c8b0)
     have hji9w:(IntKind.i64.wrap ((wrap64 (s0_1+1)) - 1))=ji9:=(jkb _).trans hji9
     by_cases c10:0≤(ji9)
     ·rw [if_pos c10] at H
      have c10b0:decide (0≤(ji9))=true:=dzT c10
      clear c10
      by_cases c11:a1=0
      ·rw [if_pos c11] at H
       exact absurd H (by simp)
      ·rw [if_neg c11] at H
       have c11b0:(a1 == 0)=false:=beq_eq_false_iff_ne.mpr c11
       have c11b1:(a1 != 0)=true:=bne_iff_ne.mpr c11
       simp only [Option.some.injEq,Prod.mk.injEq] at H
       obtain ⟨rfl,rfl⟩:=H
       obtain ⟨ASz12_0,cSz12_0,HGz12,hgz12,HSz12_0⟩:=HI0.out
       have hcz12_0:=cellS92_0 HGz12
       have hcz12_1:=cellS92_1 HGz12
       have hfz12_1:=ja HGz12 1
       clear HGz12 hgz12
       have p585:0≤((ji9):Int):=ozD (uq)
       have q585:(ji9)<(s0_0.length:Int):=ozD (uq)
       obtain ⟨ad585,e585,hx585_0⟩:=Kd.jPb HSz12_0 (ji9) p585 q585
       cases e585
       replace hx585_0:=jia HB.out hx585_0
       replace p585:=ezT p585
       replace q585:=ezT q585
       go_wp2
       repeat (go_quiet (fail);try go_wp2)
       go_ret
       exact ⟨by first | rfl |(simp [jnc,jmc] <;> rfl) |(simp only [← hji9];first | rfl |(simp [jnc,jmc] <;> rfl)) |(simp [*,jnc,jmc] <;> rfl),Y15,Y17,Y16⟩
     ·rw [if_neg c10] at H
      exact absurd H (by simp)
    ·rw [if_neg c8] at H
     have c8b0:decide ((wrap64 ((wrap64 (s0_1+1)) - 1))<(s0_0.length:Int))=false:=dzF c8
     clear c8
     by_cases c13:(s0_0.length:Int)=0
     ·rw [if_pos c13] at H
      exact absurd H (by simp)
     ·rw [if_neg c13] at H
      have c13b0:((s0_0.length:Int) == 0)=false:=beq_eq_false_iff_ne.mpr c13
      have c13b1:((s0_0.length:Int) != 0)=true:=bne_iff_ne.mpr c13
      have c13b2:¬ (s0_0=[]):=fun h_=>c13 (by rw [h_];rfl)
      obtain ⟨ji14,hji14⟩:∃ j_:Int,(Int.tmod (wrap64 ((wrap64 (s0_1+1)) - 1)) (s0_0.length:Int))=j_:=⟨_,rfl⟩
      replace H:(if 0≤(ji14) then (if (ji14)<(s0_0.length:Int) then (if 0≤(Int.tmod (wrap64 ((wrap64 ((wrap64 ((wrap64 (s0_1+1)) - 1)) * 7))+3)) (s0_0.length:Int)) then (if (Int.tmod (wrap64 ((wrap64 ((wrap64 ((wrap64 (s0_1+1)) - 1)) * 7))+3)) (s0_0.length:Int))<(s0_0.length:Int) then (if a1=0 then (none) else (some (Int.tmod (Go.bits .xor .i64 (wrap64 ((wrap64 ((wrap64 ((wrap64 ((wrap64 (rd s0_0 (ji14))) * 131))+(wrap64 ((wrap64 (rd s0_0 (Int.tmod (wrap64 ((wrap64 ((wrap64 ((wrap64 (s0_1+1)) - 1)) * 7))+3)) (s0_0.length:Int)))) * 1117))))+(wrap64 ((wrap64 ((wrap64 (s0_1+1)) - 1)) * 29))))+(wrap64 ((wrap64 (Int.tdiv (wrap64 ((wrap64 (s0_1+1)) - 1)) (s0_0.length:Int))) * 53)))) (wrap64 (Int.tdiv (wrap64 ((wrap64 ((wrap64 ((wrap64 ((wrap64 (rd s0_0 (ji14))) * 131))+(wrap64 ((wrap64 (rd s0_0 (Int.tmod (wrap64 ((wrap64 ((wrap64 ((wrap64 (s0_1+1)) - 1)) * 7))+3)) (s0_0.length:Int)))) * 1117))))+(wrap64 ((wrap64 ((wrap64 (s0_1+1)) - 1)) * 29))))+(wrap64 ((wrap64 (Int.tdiv (wrap64 ((wrap64 (s0_1+1)) - 1)) (s0_0.length:Int))) * 53)))) 64))) a1,(wrap64 (s0_1+1))))) else (none)) else (none)) else (none)) else (none))=some (r1,r2):=by first |(rw [hji14] at H;exact H) |(simp only [hji14] at H ⊢;exact H)
      by_cases c15:0≤(ji14)
      ·rw [if_pos c15] at H
       have c15b0:decide (0≤(ji14))=true:=dzT c15
       clear c15
       by_cases c16:(ji14)<(s0_0.length:Int)
       ·rw [if_pos c16] at H
        have c16b0:decide ((ji14)<(s0_0.length:Int))=true:=dzT c16
        clear c16
        obtain ⟨ji17,hji17⟩:∃ j_:Int,(Int.tmod (wrap64 ((wrap64 ((wrap64 ((wrap64 (s0_1+1)) - 1)) * 7))+3)) (s0_0.length:Int))=j_:=⟨_,rfl⟩
        replace H:(if 0≤(ji17) then (if (ji17)<(s0_0.length:Int) then (if a1=0 then (none) else (some (Int.tmod (Go.bits .xor .i64 (wrap64 ((wrap64 ((wrap64 ((wrap64 ((wrap64 (rd s0_0 (ji14))) * 131))+(wrap64 ((wrap64 (rd s0_0 (ji17))) * 1117))))+(wrap64 ((wrap64 ((wrap64 (s0_1+1)) - 1)) * 29))))+(wrap64 ((wrap64 (Int.tdiv (wrap64 ((wrap64 (s0_1+1)) - 1)) (s0_0.length:Int))) * 53)))) (wrap64 (Int.tdiv (wrap64 ((wrap64 ((wrap64 ((wrap64 ((wrap64 (rd s0_0 (ji14))) * 131))+(wrap64 ((wrap64 (rd s0_0 (ji17))) * 1117))))+(wrap64 ((wrap64 ((wrap64 (s0_1+1)) - 1)) * 29))))+(wrap64 ((wrap64 (Int.tdiv (wrap64 ((wrap64 (s0_1+1)) - 1)) (s0_0.length:Int))) * 53)))) 64))) a1,(wrap64 (s0_1+1))))) else (none)) else (none))=some (r1,r2):=by first |(rw [hji17] at H;exact H) |(simp only [hji17] at H ⊢;exact H)
        by_cases c18:0≤(ji17)
        ·rw [if_pos c18] at H
         have c18b0:decide (0≤(ji17))=true:=dzT c18
         clear c18
         by_cases c19:(ji17)<(s0_0.length:Int)
         ·rw [if_pos c19] at H
          have c19b0:decide ((ji17)<(s0_0.length:Int))=true:=dzT c19
          clear c19
          by_cases c20:a1=0
          ·rw [if_pos c20] at H
           exact absurd H (by simp)
          ·rw [if_neg c20] at H
           have c20b0:(a1 == 0)=false:=beq_eq_false_iff_ne.mpr c20
           have c20b1:(a1 != 0)=true:=bne_iff_ne.mpr c20
           simp only [Option.some.injEq,Prod.mk.injEq] at H
           obtain ⟨rfl,rfl⟩:=H
           obtain ⟨ASz21_0,cSz21_0,HGz21,hgz21,HSz21_0⟩:=HI0.out
           have hcz21_0:=cellS92_0 HGz21
           have hcz21_1:=cellS92_1 HGz21
           have hfz21_1:=ja HGz21 1
           clear HGz21 hgz21
           have p586:0≤((ji14):Int):=ozD (uq)
           have q586:(ji14)<(s0_0.length:Int):=ozD (uq)
           obtain ⟨ad586,e586,hx586_0⟩:=Kd.jPb HSz21_0 (ji14) p586 q586
           cases e586
           replace hx586_0:=jia HB.out hx586_0
           replace p586:=ezT p586
           replace q586:=ezT q586
           have p587:0≤((ji17):Int):=ozD (uq)
           have q587:(ji17)<(s0_0.length:Int):=ozD (uq)
           obtain ⟨ad587,e587,hx587_0⟩:=Kd.jPb HSz21_0 (ji17) p587 q587
           obtain rfl:ad586=ad587:=(by injection e587)
           replace hx587_0:=jia HB.out hx587_0
           replace p587:=ezT p587
           replace q587:=ezT q587
           go_wp2
           repeat (go_quiet (fail);try go_wp2)
           go_ret
           exact ⟨by first | rfl |(simp [jnc,jmc] <;> rfl) |(simp only [← hji14,← hji17];first | rfl |(simp [jnc,jmc] <;> rfl)) |(simp [*,jnc,jmc] <;> rfl),Y15,Y17,Y16⟩
         ·rw [if_neg c19] at H
          exact absurd H (by simp)
        ·rw [if_neg c18] at H
         exact absurd H (by simp)
       ·rw [if_neg c16] at H
        exact absurd H (by simp)
      ·rw [if_neg c15] at H
       exact absurd H (by simp)
def jh.f (k : Nat) (s0_0 : List Int) (s0_1 : Int) (l1 : List Int) : Option (Int × Int) := (jf.f k s0_0 s0_1 (l1.length : Int)).bind fun bt588 => (if 0 ≤ bt588.1 then (if bt588.1 < (l1.length : Int) then (some (rd l1 bt588.1, bt588.2)) else (none)) else (none))
set_option maxHeartbeats 8000000 in
set_option maxRecDepth 100000 in
theorem jh.calls (k : Nat) (g : Nat) (s0_0 : List Int) (s0_1 : Int) (A1 : Option Addr) (c1 : Nat) (l1 : List Int) (r1 : Int) (r2 : Int) (w0 w : World) (hI : je w0 w g s0_0 s0_1) (hB : Below w0.heap.size w0 w) (hr1 : Kd.C (Kd.int .i64) w A1 l1.length l1) (hc1 : l1.length ≤ c1) (hf1 : ∀ ad, A1 = some ad → 0 < l1.length → ad.block ≠ g) (h : jh.f k s0_0 s0_1 l1 = some (r1, r2)) :
  Calls Try.prog 77 #[.pointer (some ⟨g,0,none⟩), .slice A1 l1.length c1] w fun e w'=>e=.returned (.int .i64 r1)∧je w0 w' g s0_0 r2∧Below w0.heap.size w0 w'∧jb w w' g none:=by
 have HR1:=am hr1
 have HC1:=am hc1
 clear hr1 hc1
 have HI0:=am hI
 have HK:=am (jb.refl w g none)
 have HL:=am hB.size
 clear hI
 have HW0:=am hB.size
 have HB:=am hB
 clear hB
 have H:((jf.f k s0_0 s0_1 (l1.length:Int)).bind fun bt588=>(if 0≤bt588.1 then (if bt588.1<(l1.length:Int) then (some (rd l1 bt588.1,bt588.2)) else (none)) else (none)))=some (r1,r2):=h
 clear h
 replace H:=bzS H
 obtain ⟨⟨t588,t589⟩,A30,H⟩:=H
 replace H:(if 0≤t588 then (if t588<(l1.length:Int) then (some (rd l1 t588,t589)) else (none)) else (none))=some (r1,r2):=H
 have A3:=am A30
 clear A30
 by_cases c4:0≤t588
 ·rw [if_pos c4] at H
  have c4b0:decide (0≤t588)=true:=dzT c4
  clear c4
  by_cases c5:t588<(l1.length:Int)
  ·rw [if_pos c5] at H
   have c5b0:decide (t588<(l1.length:Int))=true:=dzT c5
   clear c5
   simp only [Option.some.injEq,Prod.mk.injEq] at H
   obtain ⟨rfl,rfl⟩:=H
   go_enter Try.func77,Try.ntmps77
   go_wp2_with (first |((with_reducible refine jd (f:=76) rfl ?_);refine gL (some 9) Try.func76 #[.pointer (some ⟨g,0,none⟩), .int .i64 (l1.length:Int)] ?_;(with_reducible refine (jf.calls k g s0_0 s0_1 (l1.length:Int) t588 t589 w0 _ ?side1 ?side2 A3.out).mono ?_);(case side1=>exact Y15);(case side2=>exact Y17);rintro e w6 ⟨rfl,hi,hb,hk⟩;refine ⟨_,rfl,?_⟩;replace HK:=am (jb.trans (Y16) hk (.inl rfl));replace HB:=am (hb);replace HI0:=am (hi);(try clear hb);(try clear hb2);(try clear hk);(try clear hi);have p590:0≤(t588:Int):=ozD (uq);have q590:t588<(l1.length:Int):=ozD (uq);obtain ⟨ad590,e590,hx590_0⟩:=Kd.jPb HR1.out t588 p590 q590;cases e590;replace hx590_0:=keep_cell HK.out hx590_0 (by first |(rw [add_block];exact hf1 _ rfl (by omega)) | exact hf1 _ rfl (by omega) | exact hf1 ad590 rfl (by omega));replace p590:=ezT p590;replace q590:=ezT q590))
   go_ret
   exact ⟨Y0,Y15,Y17,Y16⟩
  ·rw [if_neg c5] at H
   exact absurd H (by simp)
 ·rw [if_neg c4] at H
  exact absurd H (by simp)
def jW.l0 : Nat → List ByteArray → Int → Int → List Int → Int → List (S78) → Option ((List (S78)) × Int)
 | 0,_,_,_,_,_,_=>none
 | k+1,x3,x5,x6,x1000,x1001,x599000=>if x6<x5 then (if 0≤x6 then (if x6<(x3.length:Int) then ((jf.f k x1000 x1001 x6).bind fun bt605=>((jh.f k x1000 bt605.2 (([0,bt605.1,wrap64 (x6 - 1)]:List Int))).bind fun bt610=>(if x599000.length<5864062014805 then (jW.l0 k x3 x5 (wrap64 (x6+1)) x1000 bt610.2 (x599000 ++ [(⟨rdOf ByteArray.empty x3 x6,bt610.1⟩:S78)])) else (none)))) else (none)) else (none)) else (some (x599000,x1001))
def jW.f (k : Nat) (s0_0 : List Int) (s0_1 : Int) : Option ((List (S78)) × Int) := (jh.f k s0_0 s0_1 (([4, 5, 3, 6, 2, 1, 8] : List Int))).bind fun bt602 => (jW.l0 k (([(⟨#[97, 110, 121]⟩ : ByteArray), (⟨#[105, 111]⟩ : ByteArray), (⟨#[107, 101, 121]⟩ : ByteArray), (⟨#[116, 105, 109, 101]⟩ : ByteArray), (⟨#[110, 101, 116]⟩ : ByteArray), (⟨#[100, 105, 115, 107]⟩ : ByteArray), (⟨#[116, 121, 112, 101]⟩ : ByteArray), (⟨#[111, 100, 100]⟩ : ByteArray)] : List ByteArray)) bt602.1 1 s0_0 bt602.2 (([(⟨(⟨#[97, 110, 121]⟩ : ByteArray), (-1)⟩ : S78)] : List (S78))))
def jW.T7 : Bool × List (List Nat × List Nat) := (true, [([], []), ([0], [0]), ([], []), ([], []), ([2, 3], [2, 3]), ([4], [4]), ([], []), ([], []), ([], []), ([7, 8], [7, 8]), ([], []), ([10], [10]), ([9, 11], [9, 11]), ([6, 12, 9], [6, 12]), ([5, 13], [5, 13]), ([14], [14]), ([1, 15, 13], [1, 15]), ([0, 1, 2, 3, 4, 5, 6, 7, 8, 9, 10, 11, 12, 13, 14, 15, 16], []), ([17, 16, 16, 0, 1, 2, 3, 4, 5, 6, 7, 8, 9, 10, 11, 12, 13, 14, 15, 16], [16, 17])])
def jW.B7 : List Nat := [0, 1, 0, 0, 12, 28, 0, 0, 0, 384, 0, 1024, 3968, 8128, 16380, 32764, 65535, 131071, 262143]
theorem jW.tab7 : rtab .any (opsOf Try.f97 7) = jW.T7 := by kernel_rfl
theorem jW.bits7 : jCc jW.T7.2 jW.B7 = true := by kernel_rfl
set_option maxHeartbeats 8000000 in
set_option maxRecDepth 100000 in
theorem jW.calls (k : Nat) (g : Nat) (s0_0 : List Int) (s0_1 : Int) (r1 : List (S78)) (r2 : Int) (w0 w : World) (hI : je w0 w g s0_0 s0_1) (hB : Below w0.heap.size w0 w) (h : jW.f k s0_0 s0_1 = some (r1, r2)) :
  Calls Try.prog 97 #[.pointer (some ⟨g,0,none⟩)] w fun e w'=>∃ v0_:Value,e=.returned (.agg #[v0_])∧Kd.R k78 78 w' w.heap.size (fun _=>True) v0_ r1∧je w0 w' g s0_0 r2∧Below w0.heap.size w0 w'∧jb w w' g none:=by
 have hu32:=Try.underlying32
 have hu78:=Try.underlying78
 have HI0:=am hI
 have HK:=am (jb.refl w g none)
 have HL:=am hB.size
 clear hI
 have HW0:=am hB.size
 have HB:=am hB
 clear hB
 have H:((jh.f k s0_0 s0_1 (([4,5,3,6,2,1,8]:List Int))).bind fun bt602=>(jW.l0 k (([(⟨#[97,110,121]⟩:ByteArray),(⟨#[105,111]⟩:ByteArray),(⟨#[107,101,121]⟩:ByteArray),(⟨#[116,105,109,101]⟩:ByteArray),(⟨#[110,101,116]⟩:ByteArray),(⟨#[100,105,115,107]⟩:ByteArray),(⟨#[116,121,112,101]⟩:ByteArray),(⟨#[111,100,100]⟩:ByteArray)]:List ByteArray)) bt602.1 1 s0_0 bt602.2 (([(⟨(⟨#[97,110,121]⟩:ByteArray),(-1)⟩:S78)]:List (S78)))))=some (r1,r2):=h
 clear h
 obtain ⟨y592,hy592⟩:∃ y_:List ByteArray,y_=(([(⟨#[97,110,121]⟩:ByteArray),(⟨#[105,111]⟩:ByteArray),(⟨#[107,101,121]⟩:ByteArray),(⟨#[116,105,109,101]⟩:ByteArray),(⟨#[110,101,116]⟩:ByteArray),(⟨#[100,105,115,107]⟩:ByteArray),(⟨#[116,121,112,101]⟩:ByteArray),(⟨#[111,100,100]⟩:ByteArray)]:List ByteArray)):=⟨_,rfl⟩
 replace H:((jh.f k s0_0 s0_1 (([4,5,3,6,2,1,8]:List Int))).bind fun bt602=>(jW.l0 k y592 bt602.1 1 s0_0 bt602.2 (([(⟨(⟨#[97,110,121]⟩:ByteArray),(-1)⟩:S78)]:List (S78)))))=some (r1,r2):=by first |(rw [hy592];with_reducible exact H) |(have H2_:=(Option.bind_some _ _).symm.trans H;rw [hy592];with_reducible exact H2_) |(have H2_:=(Option.bind_some _ _).symm.trans H;with_reducible exact H2_) | with_reducible exact H |(rw [hy592];exact H) | exact H
 have Ny592:=am hy592
 clear hy592
 obtain ⟨y595,hy595⟩:∃ y_:List (S78),y_=(([(⟨(⟨#[97,110,121]⟩:ByteArray),(-1)⟩:S78)]:List (S78))):=⟨_,rfl⟩
 replace H:((jh.f k s0_0 s0_1 (([4,5,3,6,2,1,8]:List Int))).bind fun bt602=>(jW.l0 k y592 bt602.1 1 s0_0 bt602.2 y595))=some (r1,r2):=by first |(rw [hy595];with_reducible exact H) |(have H2_:=(Option.bind_some _ _).symm.trans H;rw [hy595];with_reducible exact H2_) |(have H2_:=(Option.bind_some _ _).symm.trans H;with_reducible exact H2_) | with_reducible exact H |(rw [hy595];exact H) | exact H
 have Ny595:=am hy595
 clear hy595
 obtain ⟨y599,hy599⟩:∃ y_:List Int,y_=(([4,5,3,6,2,1,8]:List Int)):=⟨_,rfl⟩
 replace H:((jh.f k s0_0 s0_1 y599).bind fun bt602=>(jW.l0 k y592 bt602.1 1 s0_0 bt602.2 y595))=some (r1,r2):=by first |(rw [hy599];with_reducible exact H) |(have H2_:=(Option.bind_some _ _).symm.trans H;rw [hy599];with_reducible exact H2_) |(have H2_:=(Option.bind_some _ _).symm.trans H;with_reducible exact H2_) | with_reducible exact H |(rw [hy599];exact H) | exact H
 have Ny599:=am hy599
 clear hy599
 replace H:=bzS H
 obtain ⟨⟨t602,t603⟩,A20,H⟩:=H
 replace H:(jW.l0 k y592 t602 1 s0_0 t603 y595)=some (r1,r2):=H
 have A2:=am A20
 clear A20
 have H':=am H
 clear H
 go_enter Try.func97,Try.ntmps97
 go_wp2_with (first |((with_reducible refine jP (N:=2) rfl ?_);refine bE (N:=2) (cs:=#[.slice none 0 0]) (t:=32) ?_;intro gb591 hg w3 hbox hb;have BK591:=am (hbox);have GW591:=am ((Y12:w.heap.size≤gb591));have GE591:=am ((Nat.le_trans HW0.out (Y12:w.heap.size≤gb591):w0.heap.size≤gb591));have NB0_591:=am ((Y28:g≠gb591));have NB591_0:=am ((Y29:gb591≠g));replace HK:=am (jb.trans (Y16) (jb.of_below hb g none) (.inl rfl));replace HB:=am (ji (Y17) hb);replace HI0:=am (je.below (Y15) hb);clear hb hbox hg) |((with_reducible refine jP (N:=7) rfl ?_);refine Kd.jYb Kd.string _ 9 ?hg (N:=7) ?hd (xs:=([(⟨#[97,110,121]⟩:ByteArray),(⟨#[105,111]⟩:ByteArray),(⟨#[107,101,121]⟩:ByteArray),(⟨#[116,105,109,101]⟩:ByteArray),(⟨#[110,101,116]⟩:ByteArray),(⟨#[100,105,115,107]⟩:ByteArray),(⟨#[116,121,112,101]⟩:ByteArray),(⟨#[111,100,100]⟩:ByteArray)]:List ByteArray)) (inner:=[.string (⟨#[97,110,121]⟩:ByteArray), .string (⟨#[105,111]⟩:ByteArray), .string (⟨#[107,101,121]⟩:ByteArray), .string (⟨#[116,105,109,101]⟩:ByteArray), .string (⟨#[110,101,116]⟩:ByteArray), .string (⟨#[100,105,115,107]⟩:ByteArray), .string (⟨#[116,121,112,101]⟩:ByteArray), .string (⟨#[111,100,100]⟩:ByteArray)]) (ok:=fun _=>True) (okp:=fun _=>True) ?hr ?hp (fun _ hk=>hk) trivial (Below.refl _ _) (Nat.le_refl _) (by simp) ?_;(case hd=>rfl);(case hg=>rfl);(case hr=>exact Y8);(case hp=>exact (Reps.one (show Kd.M Kd.string _ _ _ (⟨#[97,110,121]⟩:ByteArray) [.string (⟨#[97,110,121]⟩:ByteArray)] from rfl) (Reps.one (show Kd.M Kd.string _ _ _ (⟨#[105,111]⟩:ByteArray) [.string (⟨#[105,111]⟩:ByteArray)] from rfl) (Reps.one (show Kd.M Kd.string _ _ _ (⟨#[107,101,121]⟩:ByteArray) [.string (⟨#[107,101,121]⟩:ByteArray)] from rfl) (Reps.one (show Kd.M Kd.string _ _ _ (⟨#[116,105,109,101]⟩:ByteArray) [.string (⟨#[116,105,109,101]⟩:ByteArray)] from rfl) (Reps.one (show Kd.M Kd.string _ _ _ (⟨#[110,101,116]⟩:ByteArray) [.string (⟨#[110,101,116]⟩:ByteArray)] from rfl) (Reps.one (show Kd.M Kd.string _ _ _ (⟨#[100,105,115,107]⟩:ByteArray) [.string (⟨#[100,105,115,107]⟩:ByteArray)] from rfl) (Reps.one (show Kd.M Kd.string _ _ _ (⟨#[116,121,112,101]⟩:ByteArray) [.string (⟨#[116,121,112,101]⟩:ByteArray)] from rfl) (Reps.one (show Kd.M Kd.string _ _ _ (⟨#[111,100,100]⟩:ByteArray) [.string (⟨#[111,100,100]⟩:ByteArray)] from rfl) (Reps.none _ _))))))))));intro v593 w4 ho5 hb hg_ hnew_;clear hg_ hnew_;(first | rw [← Ny592.out] at ho5 |(simp only [Int.reduceToNat] at ho5;rw [← Ny592.out] at ho5));have HO594:=am (Kd.jfa ho5 (jL (w:=w) (g:=g) (row:=none) (Y66)));replace BK591:=am (jr (g:=gb591) (o:=.cells #[.slice none 0 0] 32 (0,0)) (kq BK591.out) hb);replace HK:=am (jb.trans (Y66) (jb.of_below hb g none) (.inl rfl));replace HB:=am (ji (Y84) hb);replace HI0:=am (je.below (Y85) hb);clear hb ho5) |((with_reducible refine jP (N:=9) rfl ?_);refine Kd.jYb k78 _ 78 ?hg (N:=9) ?hd (xs:=([(⟨(⟨#[97,110,121]⟩:ByteArray),(-1)⟩:S78)]:List (S78))) (inner:=[.string (⟨#[97,110,121]⟩:ByteArray), .int .i64 (-1)]) (ok:=fun _=>True) (okp:=fun _=>True) ?hr ?hp (fun _ hk=>hk) trivial (Below.refl _ _) (Nat.le_refl _) (by simp) ?_;(case hd=>rfl);(case hg=>rfl);(case hr=>exact Y8);(case hp=>exact (Reps.c2 (show Kd.M k78 _ _ _ (⟨(⟨#[97,110,121]⟩:ByteArray),(-1)⟩:S78) [.string (⟨#[97,110,121]⟩:ByteArray), .int .i64 (-1)] from (k78_mkM _ _ _ (⟨(⟨#[97,110,121]⟩:ByteArray),(-1)⟩:S78) )) (Reps.none _ _)));intro v596 w6 ho7 hb hg_ hnew_;clear hg_ hnew_;(first | rw [← Ny595.out] at ho7 |(simp only [Int.reduceToNat] at ho7;rw [← Ny595.out] at ho7));have HO597:=am (Kd.jfa ho7 (jL (w:=w) (g:=g) (row:=none) (Y66)));replace HO594:=am (Kd.jqa (rq HO594.out) hb);replace BK591:=am (jr (g:=gb591) (o:=.cells #[.slice none 0 0] 32 (0,0)) (kq BK591.out) hb);replace HK:=am (jb.trans (Y66) (jb.of_below hb g none) (.inl rfl));replace HB:=am (ji (Y84) hb);replace HI0:=am (je.below (Y85) hb);clear hb ho7;obtain ⟨Ao8,co8,eo8⟩:=Kd.jta HO597.out;subst eo8) |((with_reducible refine jP (N:=4) rfl ?_);refine bE (N:=4) (cs:=#[.slice none 0 0]) (t:=32) ?_;intro gb598 hg w9 hbox hb;have BK598:=am (hbox);have GW598:=am ((Y96:w.heap.size≤gb598));have GE598:=am ((Nat.le_trans HW0.out (Y96:w.heap.size≤gb598):w0.heap.size≤gb598));have NB591_598:=am ((by rw [hg];exact Nat.ne_of_lt (jEb (g:=gb591) (o:=.cells #[.slice none 0 0] 32 (0,0)) (kq BK591.out)):gb591≠gb598));have NB598_591:=am ((by rw [hg];exact Nat.ne_of_gt (jEb (g:=gb591) (o:=.cells #[.slice none 0 0] 32 (0,0)) (kq BK591.out)):gb598≠gb591));have NB0_598:=am ((by rw [hg];exact Nat.ne_of_lt (je.lt (show je w0 _ g s0_0 s0_1 from by repeat (first |(with_reducible first | exact HI0.out | apply je.alloc | apply je.drewN | apply je.drew | apply je.joc | refine je.far ?_ NB0_591.out _) | exact HI0.out))):g≠gb598));have NB598_0:=am ((by rw [hg];exact Nat.ne_of_gt (je.lt (show je w0 _ g s0_0 s0_1 from by repeat (first |(with_reducible first | exact HI0.out | apply je.alloc | apply je.drewN | apply je.drew | apply je.joc | refine je.far ?_ NB0_591.out _) | exact HI0.out))):gb598≠g));replace HO594:=am (Kd.jqa (rq HO594.out) hb);replace HO597:=am (Kd.jqa (rq HO597.out) hb);replace BK591:=am (jr (g:=gb591) (o:=.cells #[.slice none 0 0] 32 (0,0)) (kq BK591.out) hb);replace HK:=am (jb.trans (Y66) (jb.of_below hb g none) (.inl rfl));replace HB:=am (ji (Y84) hb);replace HI0:=am (je.below (Y85) hb);clear hb hbox hg;have hnb10:=NB598_591.out;have hnc10:=NB591_598.out;have hnb11:=NB598_0.out;have hnc11:=NB0_598.out;have hcz12_0:=bc0 BK598.out;have hfz12_0:=ja BK598.out 0) |((with_reducible refine jP (N:=12) rfl ?_);refine Kd.jYb (Kd.int .i64) _ 3 ?hg (N:=12) ?hd (xs:=([4,5,3,6,2,1,8]:List Int)) (inner:=[.int .i64 4, .int .i64 5, .int .i64 3, .int .i64 6, .int .i64 2, .int .i64 1, .int .i64 8]) (ok:=fun _=>True) (okp:=fun _=>True) ?hr ?hp (fun _ hk=>hk) trivial (Below.refl _ _) (Nat.le_refl _) (by simp) ?_;(case hd=>rfl);(case hg=>rfl);(case hr=>exact Y8);(case hp=>exact (Reps.one (show Kd.M (Kd.int .i64) _ _ _ 4 [.int .i64 4] from rfl) (Reps.one (show Kd.M (Kd.int .i64) _ _ _ 5 [.int .i64 5] from rfl) (Reps.one (show Kd.M (Kd.int .i64) _ _ _ 3 [.int .i64 3] from rfl) (Reps.one (show Kd.M (Kd.int .i64) _ _ _ 6 [.int .i64 6] from rfl) (Reps.one (show Kd.M (Kd.int .i64) _ _ _ 2 [.int .i64 2] from rfl) (Reps.one (show Kd.M (Kd.int .i64) _ _ _ 1 [.int .i64 1] from rfl) (Reps.one (show Kd.M (Kd.int .i64) _ _ _ 8 [.int .i64 8] from rfl) (Reps.none _ _)))))))));intro v600 w13 ho14 hb hg_ hnew_;clear hg_ hnew_;(first | rw [← Ny599.out] at ho14 |(simp only [Int.reduceToNat] at ho14;rw [← Ny599.out] at ho14));have HO601:=am (Kd.jfa ho14 (jL (w:=w) (g:=g) (row:=none) (Y34)));replace HO594:=am (Kd.jqa (by (with_reducible repeat (first | apply Kd.jma | apply Kd.jla | apply Kd.jva));exact (Kd.jG (Kd.jLb (p:=⟨gb598,0,none⟩) (Kd.jQa HO594.out BK598.out (by decide)) (fun _ hk=>hk.2) (.slice Ao8 y595.length co8)) (fun _ h_=>h_.1))) hb);replace HO597:=am (Kd.jqa (by (with_reducible repeat (first | apply Kd.jma | apply Kd.jla | apply Kd.jva));exact (Kd.jG (Kd.jLb (p:=⟨gb598,0,none⟩) (Kd.jQa HO597.out BK598.out (by decide)) (fun _ hk=>hk.2) (.slice Ao8 y595.length co8)) (fun _ h_=>h_.1))) hb);replace BK591:=am (jr (g:=gb591) (o:=.cells #[.slice none 0 0] 32 (0,0)) (by (with_reducible repeat (first | refine jv ?_ _ | refine jD ?_ | refine jA ?_ _));refine jib ?_ NB591_598.out _;(with_reducible repeat (first | refine jv ?_ _ | refine jD ?_ | refine jA ?_ _));exact BK591.out) hb);replace BK598:=am (jr (g:=gb598) (o:=.cells #[.slice Ao8 y595.length co8] 32 (0,0)) (by (with_reducible repeat (first | refine jv ?_ _ | refine jD ?_ | refine jA ?_ _));refine jVa (cs:=#[.slice none 0 0]) ?_ 0 _ rfl;(with_reducible repeat (first | refine jv ?_ _ | refine jD ?_ | refine jA ?_ _));exact BK598.out) hb);replace HK:=am (jb.trans (Y34) (jb.of_below hb g none) (.inl rfl));replace HB:=am (ji (Y44) hb);replace HI0:=am (je.below (show je w0 (w9.setCell ⟨gb598,0,none⟩ (.slice Ao8 y595.length co8)) g s0_0 s0_1 from Y26) hb);clear hb ho14;obtain ⟨Ao15,co15,eo15⟩:=Kd.jta HO601.out;subst eo15) |((with_reducible refine jd (f:=77) rfl ?_);refine gL (some 13) Try.func77 #[.pointer (some ⟨g,0,none⟩), .slice Ao15 y599.length co15] ?_;(with_reducible refine (jh.calls k g s0_0 s0_1 _ _ y599 t602 t603 w0 _ ?side1 ?side2 ?side3 ?side4 ?side5 A2.out).mono ?_);(case side1=>exact Y26);(case side2=>exact Y44);(case side3=>exact cq (Kd.jC HO601.out).2.2);(case side4=>exact (Kd.jC HO601.out).2.1);(case side5=>exact jxb (je.own_ne HI0.out HO601.out (by decide)));rintro e w16 ⟨rfl,hi,hb,hk⟩;refine ⟨_,rfl,?_⟩;replace BK591:=am (jb.blk hk (g':=gb591) (o:=.cells #[.slice none 0 0] 32 (0,0)) (kq BK591.out) NB591_0.out (by simp));replace HO594:=am (Kd.jG (Kd.jBa (je.apart (show je w0 _ g s0_0 s0_1 from Y26) (rq HO594.out) (by decide)) hk (fun _ h=>h.2)) (fun _ h=>h.1));replace HO597:=am (Kd.jG (Kd.jBa (je.apart (show je w0 _ g s0_0 s0_1 from Y26) (rq HO597.out) (by decide)) hk (fun _ h=>h.2)) (fun _ h=>h.1));replace BK598:=am (jb.blk hk (g':=gb598) (o:=.cells #[.slice Ao8 y595.length co8] 32 (0,0)) (kq BK598.out) NB598_0.out (by simp));replace HO601:=am (Kd.jG (Kd.jBa (je.apart (show je w0 _ g s0_0 s0_1 from Y26) (rq HO601.out) (by decide)) hk (fun _ h=>h.2)) (fun _ h=>h.1));replace HK:=am (jb.trans (Y34) hk (.inl rfl));replace HB:=am (hb);replace HI0:=am (hi);(try clear hb);(try clear hb2);(try clear hk);(try clear hi)))
 go_loopg [6] k (fun kq v6 w'=>∃ (x6_1:Int) (x1001_1:Int) (x599000_1:List (S78)) (u599000:Value),v6=.int .i64 x6_1∧jl (jW.l0 kq y592 t602 x6_1 s0_0 x1001_1 x599000_1=some (r1,r2))∧jl (kq≤k)∧jl (Kd.R Kd.string 9 w' w.heap.size (fun _=>True) v593 y592)∧jl (Kd.R k78 78 w' w.heap.size (fun _=>True) u599000 x599000_1)∧jl (w'.heap[gb591]?=some (.cells #[(.slice none 0 0)] 32 (0,0)))∧jl (w'.heap[gb598]?=some (.cells #[u599000] 32 (0,0)))∧jl (je w0 w' g s0_0 x1001_1)∧jl (jb w w' g none)∧jl (Below w0.heap.size w0 w'))
 case atStart=>exact ⟨(1),(t603),(y595),(.slice Ao8 y595.length co8),(sq),H',⟨Nat.le_refl _⟩,⟨rq HO594.out⟩,⟨rq HO597.out⟩,⟨kq BK591.out⟩,⟨kq BK598.out⟩,⟨Y26⟩,⟨Y34⟩,⟨Y44⟩⟩
 case round =>
  clear H'
  try clear c1
  try clear c2
  try clear p2
  try clear c7
  try clear c9
  try clear c10
  try clear c11
  try clear hcz12_0
  try clear hfz12_0
  obtain ⟨x6_1,x1001_1,x599000_1,u599000,rfl,HA,HK1,HO_3,HO_599000,BK591,BK598,HI0,HK,HB⟩:=hrel
  cases gk with
  | zero=>exact absurd HA.out (by simp [jW.l0])
  | succ k1 =>
   have H:=HA.out
   clear HA
   simp only [jW.l0] at H
   by_cases c17:x6_1<t602
   ·rw [if_pos c17] at H
    have c17b0:decide (x6_1<t602)=true:=dzT c17
    clear c17
    by_cases c18:0≤x6_1
    ·rw [if_pos c18] at H
     have c18b0:decide (0≤x6_1)=true:=dzT c18
     clear c18
     by_cases c19:x6_1<(y592.length:Int)
     ·rw [if_pos c19] at H
      have c19b0:decide (x6_1<(y592.length:Int))=true:=dzT c19
      clear c19
      replace H:=bzS H
      obtain ⟨⟨t605,t606⟩,A200,H⟩:=H
      replace H:((jh.f k1 s0_0 t606 (([0,t605,wrap64 (x6_1 - 1)]:List Int))).bind fun bt610=>(if x599000_1.length<5864062014805 then (jW.l0 k1 y592 t602 (wrap64 (x6_1+1)) s0_0 bt610.2 (x599000_1 ++ [(⟨rdOf ByteArray.empty y592 x6_1,bt610.1⟩:S78)])) else (none)))=some (r1,r2):=H
      have A20:=am A200
      clear A200
      obtain ⟨y607,hy607⟩:∃ y_:List Int,y_=(([0,t605,wrap64 (x6_1 - 1)]:List Int)):=⟨_,rfl⟩
      replace H:((jh.f k1 s0_0 t606 y607).bind fun bt610=>(if x599000_1.length<5864062014805 then (jW.l0 k1 y592 t602 (wrap64 (x6_1+1)) s0_0 bt610.2 (x599000_1 ++ [(⟨rdOf ByteArray.empty y592 x6_1,bt610.1⟩:S78)])) else (none)))=some (r1,r2):=by first |(rw [hy607];with_reducible exact H) |(have H2_:=(Option.bind_some _ _).symm.trans H;rw [hy607];with_reducible exact H2_) |(have H2_:=(Option.bind_some _ _).symm.trans H;with_reducible exact H2_) | with_reducible exact H |(rw [hy607];exact H) | exact H
      have Ny607:=am hy607
      clear hy607
      replace H:=bzS H
      obtain ⟨⟨t610,t611⟩,A210,H⟩:=H
      replace H:(if x599000_1.length<5864062014805 then (jW.l0 k1 y592 t602 (wrap64 (x6_1+1)) s0_0 t611 (x599000_1 ++ [(⟨rdOf ByteArray.empty y592 x6_1,t610⟩:S78)])) else (none))=some (r1,r2):=H
      have A21:=am A210
      clear A210
      by_cases c22:x599000_1.length<5864062014805
      ·rw [if_pos c22] at H
       have LMc22:=am c22
       clear c22
       obtain ⟨y612,hy612⟩:∃ y_:List (S78),y_=(x599000_1 ++ [(⟨rdOf ByteArray.empty y592 x6_1,t610⟩:S78)]):=⟨_,rfl⟩
       replace H:(jW.l0 k1 y592 t602 (wrap64 (x6_1+1)) s0_0 t611 y612)=some (r1,r2):=by first |(rw [hy612];with_reducible exact H) |(have H2_:=(Option.bind_some _ _).symm.trans H;rw [hy612];with_reducible exact H2_) |(have H2_:=(Option.bind_some _ _).symm.trans H;with_reducible exact H2_) | with_reducible exact H |(rw [hy612];exact H) | exact H
       have Ny612:=am hy612
       clear hy612
       have H':=am H
       clear H
       try go_wp2
       replace HO_3:=am (Kd.jva HO_3.out)
       replace HO_599000:=am (Kd.jva HO_599000.out)
       replace BK591:=am (jD BK591.out)
       replace BK598:=am (jD BK598.out)
       replace HI0:=am (je.drew HI0.out)
       replace HK:=am (jUa HK.out)
       replace HB:=am (jO HB.out)
       obtain ⟨Ao24,co24,eo24⟩:=Kd.jta HO_3.out
       (first | subst eo24 |(injection eo24 with f1_ f2_ f3_;have f4_:=f1_.symm;have f5_:=f3_.symm;clear f1_ f2_ f3_;subst f4_;subst f5_))
       have p604:0≤(x6_1:Int):=ozD (uq)
       have q604:x6_1<(y592.length:Int):=ozD (uq)
       obtain ⟨ad604,e604,hx604_0⟩:=Kd.at_string (Kd.jC HO_3.out).2.2 x6_1 p604 q604
       cases e604
       replace p604:=ezT p604
       replace q604:=ezT q604
       refine start_ (n:=19) (S:=fun w'=>w'.cell? ⟨gb598,0,none⟩=some (u599000)∧w'.cell? (ad604.add (x6_1).toNat)=some (.string (rdOf ByteArray.empty y592 x6_1))) (ds:=[16,18]) #[false,false,false,false,false,false,false,false,false,false,false,false,false,false,false,false,false,false,false] (by kernel_rfl) rfl rfl ⟨(jJ BK598.out 0).trans rfl,hx604_0⟩ (fun hHeld=>?_);refine jFc jW.tab7 jW.bits7 (fun HT_ HW_=>?_)
       generalize wr.drew=w23 at HO_3 HO_599000 BK591 BK598 HI0 HK HB hx604_0 hHeld ⊢
       refine pq (i:=0) (N:=some 19) #[true,false,false,false,false,false,false,false,false,false,false,false,false,false,false,false,false,false,false] ?_
       refine pq (i:=2) (N:=some 21) #[true,false,true,false,false,false,false,false,false,false,false,false,false,false,false,false,false,false,false] ?_
       refine pq (i:=3) (N:=some 22) #[true,false,true,true,false,false,false,false,false,false,false,false,false,false,false,false,false,false,false] ?_
       refine pq (i:=4) (N:=some 23) #[true,false,true,true,true,false,false,false,false,false,false,false,false,false,false,false,false,false,false] ?_
       refine pq (i:=6) (N:=some 25) #[true,false,true,true,true,false,true,false,false,false,false,false,false,false,false,false,false,false,false] ?_
       refine pq (i:=7) (N:=some 26) #[true,false,true,true,true,false,true,true,false,false,false,false,false,false,false,false,false,false,false] ?_
       refine pq (i:=8) (N:=some 27) #[true,false,true,true,true,false,true,true,true,false,false,false,false,false,false,false,false,false,false] ?_
       refine pq (i:=10) (N:=some 29) #[true,false,true,true,true,false,true,true,true,false,true,false,false,false,false,false,false,false,false] ?_
       refine pq (i:=11) (N:=some 30) #[true,false,true,true,true,false,true,true,true,false,true,true,false,false,false,false,false,false,false] ?_
       refine take_ (i:=1) (N:=some 20) (v:=?_) (a':=?_) #[true,true,true,true,true,false,true,true,true,false,true,true,false,false,false,false,false,false,false] rfl rfl (jdc HT_.out HW_.out (by kernel_rfl)) (fun _ _ _ h=>h) (Or.inl ⟨by rfl,?_⟩) hHeld ?_ ?_
       rotate_left
       ·rintro w' ⟨s0,s1⟩
        go_simp
        with_reducible rfl
       rotate_left
       ·exact sa
       refine take_ (i:=5) (N:=some 24) (v:=?_) (a':=?_) #[true,true,true,true,true,true,true,true,true,false,true,true,false,false,false,false,false,false,false] rfl rfl (jdc HT_.out HW_.out (by kernel_rfl)) (fun _ _ _ h=>h) (Or.inl ⟨by rfl,?_⟩) hHeld ?_ ?_
       rotate_left
       ·rintro w' ⟨s0,s1⟩
        go_simp
        with_reducible rfl
       rotate_left
       ·exact sa
       refine one_ (i:=9) (N:=some 28) #[true,true,true,true,true,true,true,true,true,true,true,true,false,false,false,false,false,false,false] rfl rfl (jXb HT_.out (by kernel_rfl)) (by decide) (fun K hK=>?_)
       refine goes_ Try.func76 (by kernel_rfl) rfl #[.pointer (some ⟨g,0,none⟩), .int .i64 x6_1] (by rfl) rfl rfl (aq) ?_
       with_reducible refine (jf.calls k1 g s0_0 x1001_1 x6_1 t605 t606 w0 _ ?side1 ?side2 A20.out).mono ?_
       (case side1=>exact Y26)
       (case side2=>exact Y44)
       rintro e w25 ⟨rfl,hi,hb,hk⟩
       have HS1_:=keep_cell hk (hHeld.2) (Y97)
       refine ⟨_,rfl,?_⟩
       replace HO_3:=am (Kd.jG (Kd.jBa (je.apart (show je w0 _ g s0_0 x1001_1 from Y26) (rq HO_3.out) (by decide)) hk (fun _ h=>h.2)) (fun _ h=>h.1))
       replace HO_599000:=am (Kd.jG (Kd.jBa (je.apart (show je w0 _ g s0_0 x1001_1 from Y26) (rq HO_599000.out) (by decide)) hk (fun _ h=>h.2)) (fun _ h=>h.1))
       replace BK591:=am (jb.blk hk (g':=gb591) (o:=.cells #[.slice none 0 0] 32 (0,0)) (kq BK591.out) NB591_0.out (by simp))
       replace BK598:=am (jb.blk hk (g':=gb598) (o:=.cells #[u599000] 32 (0,0)) (kq BK598.out) NB598_0.out (by simp))
       replace HK:=am (jb.trans (Y34) hk (.inl rfl))
       replace HB:=am (hb)
       replace HI0:=am (hi)
       (try clear hb)
       (try clear hb2)
       (try clear hk)
       (try clear hi)
       refine hK.out _ _ ⟨(jJ BK598.out 0).trans rfl,HS1_⟩ (fun hHeld=>?_)
       clear hK K
       refine jfc (a':=?_) ?_ ?_
       rotate_left
       ·show Act.put _ (some 28) _=_
        simp only [Act.put,List.setIfInBounds_toArray,List.set_cons_zero,List.set_cons_succ,jkb,jnb]
        rfl
       refine one_ (i:=12) (N:=some 31) #[true,true,true,true,true,true,true,true,true,true,true,true,true,false,false,false,false,false,false] rfl rfl (jXb HT_.out (by kernel_rfl)) (by decide) (fun K hK=>?_)
       refine Kd.jkc (Kd.int .i64) _ 3 ?hg (N:=31) ?hd (xs:=([0,t605,wrap64 (x6_1 - 1)]:List Int)) (inner:=[.int .i64 0, .int .i64 t605, .int .i64 (wrap64 (x6_1 - 1))]) (ok:=fun _=>True) (okp:=fun _=>True) ?hr ?hp (fun _ hk=>hk) trivial (Below.refl _ _) (Nat.le_refl _) (by simp) ?_;(case hd=>rfl);(case hg=>rfl);(case hr=>exact Y8);(case hp=>exact (Reps.one (show Kd.M (Kd.int .i64) _ _ _ 0 [.int .i64 0] from rfl) (Reps.one (show Kd.M (Kd.int .i64) _ _ _ t605 [.int .i64 t605] from rfl) (Reps.one (show Kd.M (Kd.int .i64) _ _ _ (wrap64 (x6_1 - 1)) [.int .i64 (wrap64 (x6_1 - 1))] from rfl) (Reps.none _ _)))))
       intro v608 w26 ho27 hb hg_ hnew_
       have HS1_:=(hb.cell (World.block_lt_of_cell? _ _ (hHeld.2))).trans (hHeld.2)
       clear hg_ hnew_
       (first | rw [← Ny607.out] at ho27 |(simp only [Int.reduceToNat] at ho27;rw [← Ny607.out] at ho27))
       have HO609:=am (Kd.jfa ho27 (jL (w:=w) (g:=g) (row:=none) (Y34)))
       replace HO_3:=am (Kd.jqa (rq HO_3.out) hb)
       replace HO_599000:=am (Kd.jqa (rq HO_599000.out) hb)
       replace BK591:=am (jr (g:=gb591) (o:=.cells #[.slice none 0 0] 32 (0,0)) (kq BK591.out) hb)
       replace BK598:=am (jr (g:=gb598) (o:=.cells #[u599000] 32 (0,0)) (kq BK598.out) hb)
       replace HK:=am (jb.trans (Y34) (jb.of_below hb g none) (.inl rfl))
       replace HB:=am (ji (Y44) hb)
       replace HI0:=am (je.below (Y26) hb)
       clear hb ho27
       obtain ⟨Ao28,co28,eo28⟩:=Kd.jta HO609.out
       (first | subst eo28 |(injection eo28 with f1_ f2_ f3_;have f4_:=f1_.symm;have f5_:=f3_.symm;clear f1_ f2_ f3_;subst f4_;subst f5_))
       refine hK.out _ _ ⟨(jJ BK598.out 0).trans rfl,HS1_⟩ (fun hHeld=>?_)
       clear hK K
       refine jfc (a':=?_) ?_ ?_
       rotate_left
       ·show Act.put _ (some 31) _=_
        simp only [Act.put,List.setIfInBounds_toArray,List.set_cons_zero,List.set_cons_succ,jkb,jnb]
        rfl
       refine one_ (i:=13) (N:=some 32) #[true,true,true,true,true,true,true,true,true,true,true,true,true,true,false,false,false,false,false] rfl rfl (jXb HT_.out (by kernel_rfl)) (by decide) (fun K hK=>?_)
       refine goes_ Try.func77 (by kernel_rfl) rfl #[.pointer (some ⟨g,0,none⟩), .slice Ao28 y607.length co28] (by rfl) rfl rfl (aq) ?_
       with_reducible refine (jh.calls k1 g s0_0 t606 _ _ y607 t610 t611 w0 _ ?side1 ?side2 ?side3 ?side4 ?side5 A21.out).mono ?_
       (case side1=>exact Y26)
       (case side2=>exact Y44)
       (case side3=>exact cq (Kd.jC HO609.out).2.2)
       (case side4=>exact (Kd.jC HO609.out).2.1)
       (case side5=>exact jxb (je.own_ne HI0.out HO609.out (by decide)))
       rintro e w29 ⟨rfl,hi,hb,hk⟩
       have HS1_:=keep_cell hk (hHeld.2) (Y97)
       refine ⟨_,rfl,?_⟩
       replace HO_3:=am (Kd.jG (Kd.jBa (je.apart (show je w0 _ g s0_0 t606 from Y26) (rq HO_3.out) (by decide)) hk (fun _ h=>h.2)) (fun _ h=>h.1))
       replace HO_599000:=am (Kd.jG (Kd.jBa (je.apart (show je w0 _ g s0_0 t606 from Y26) (rq HO_599000.out) (by decide)) hk (fun _ h=>h.2)) (fun _ h=>h.1))
       replace BK591:=am (jb.blk hk (g':=gb591) (o:=.cells #[.slice none 0 0] 32 (0,0)) (kq BK591.out) NB591_0.out (by simp))
       replace BK598:=am (jb.blk hk (g':=gb598) (o:=.cells #[u599000] 32 (0,0)) (kq BK598.out) NB598_0.out (by simp))
       replace HO609:=am (Kd.jG (Kd.jBa (je.apart (show je w0 _ g s0_0 t606 from Y26) (rq HO609.out) (by decide)) hk (fun _ h=>h.2)) (fun _ h=>h.1))
       replace HK:=am (jb.trans (Y34) hk (.inl rfl))
       replace HB:=am (hb)
       replace HI0:=am (hi)
       (try clear hb)
       (try clear hb2)
       (try clear hk)
       (try clear hi)
       refine hK.out _ _ ⟨(jJ BK598.out 0).trans rfl,HS1_⟩ (fun hHeld=>?_)
       clear hK K
       refine jfc (a':=?_) ?_ ?_
       rotate_left
       ·show Act.put _ (some 32) _=_
        simp only [Act.put,List.setIfInBounds_toArray,List.set_cons_zero,List.set_cons_succ,jkb,jnb]
        rfl
       refine pq (i:=14) (N:=some 33) #[true,true,true,true,true,true,true,true,true,true,true,true,true,true,true,false,false,false,false] ?_
       refine one_ (i:=15) (N:=some 34) #[true,true,true,true,true,true,true,true,true,true,true,true,true,true,true,true,false,false,false] rfl rfl (jXb HT_.out (by kernel_rfl)) (by decide) (fun K hK=>?_)
       refine value_ (w1:=?_) (v:=?_) (by rfl) rfl ?_ ?_
       rotate_left 2
       ·go_simp
        constructor
        ·rfl
        ·rfl
       refine hK.out _ _ ⟨(jJ (jA BK598.out _) 0).trans rfl,(World.cell?_alloc_lt _ _ _ (World.block_lt_of_cell? _ _ (hHeld.2))).trans (hHeld.2)⟩ (fun hHeld=>?_)
       clear hK K
       refine jfc (a':=?_) ?_ ?_
       rotate_left
       ·show Act.put _ (some 34) _=_
        simp only [Act.put,List.setIfInBounds_toArray,List.set_cons_zero,List.set_cons_succ,jkb,jnb]
        rfl
       refine last_ (i:=16) (N:=some 35) #[true,true,true,true,true,true,true,true,true,true,true,true,true,true,true,true,true,false,false] rfl rfl (jXb HT_.out (by kernel_rfl)) (by decide) (fun K hK=>?_)
       refine Kd.R_append_step k78 w.heap.size (by rfl) (.tmp 20) (.tmp 34) 30 78 (.agg #[(.string ⟨#[]⟩),(.int .i64 0)]) 24 rfl Try.underlying30 info78 rfl (by decide) (by omega) u599000 x599000_1 (⟨rdOf ByteArray.empty y592 x6_1,t610⟩:S78) [.string (rdOf ByteArray.empty y592 x6_1), .int .i64 t610] (fun _=>True) (fun _=>False) rfl rfl ?aP (fun _ hk=>hk.elim) ?aF ?aO (Below.refl _ _) ?aS ?aL ?_
       (case aP=>exact k78_mkM _ _ _ (⟨rdOf ByteArray.empty y592 x6_1,t610⟩:S78))
       (case aF=>exact (fun _ _=>trivial))
       (case aO=>exact (rq HO_599000.out))
       (case aS=>exact (jL (w:=w) (g:=g) (row:=none) (Y34)))
       (case aL=>have:=LMc22.out;omega)
       intro v613 w30 ho hb hg hat
       rw [← Ny612.out] at ho
       have n0_:=am (Kd.jvc (rq HO_3.out) (Kd.juc (rq HO_599000.out)) (by decide) hg)
       have n1_:=am (jOa (g:=gb591) (o:=.cells #[.slice none 0 0] 32 (0,0)) (kq BK591.out) hg (Kd.R_ne HO_599000.out BK591.out (by decide)))
       have n2_:=am (jOa (g:=gb598) (o:=.cells #[u599000] 32 (0,0)) (kq BK598.out) hg (Kd.R_ne HO_599000.out BK598.out (by decide)))
       have n3_:=am (je.grown (Y26) hg (je.own_ne HI0.out HO_599000.out (by decide)))
       have n4_:=am (Kd.jvc (rq HO609.out) (Kd.juc (rq HO_599000.out)) (by decide) hg)
       have n5_:=am (jbb (Y44) HL.out hb)
       have n6_:=am (jb.trans (Y34) (jb.jub hg g) (Kd.jTb HO_599000.out))
       have n7_:=am (ho)
       clear HO_3
       clear BK591
       clear BK598
       clear HI0
       clear HO609
       clear HB
       clear HK
       clear HO_599000
       have HO_3:=n0_
       have BK591:=n1_
       have BK598:=n2_
       have HI0:=n3_
       have HO609:=n4_
       have HB:=n5_
       have HK:=n6_
       have HO614:=n7_
       clear n0_ n1_ n2_ n3_ n4_ n5_ n6_ n7_
       clear ho hb hg hat
       obtain ⟨Ao31,co31,eo31⟩:=Kd.jta HO614.out
       (first | subst eo31 |(injection eo31 with f1_ f2_ f3_;have f4_:=f1_.symm;have f5_:=f3_.symm;clear f1_ f2_ f3_;subst f4_;subst f5_))
       refine hK.out _ _ ?_
       clear hK K
       refine jfc (a':=?_) ?_ ?_
       rotate_left
       ·show Act.put _ (some 35) _=_
        simp only [Act.put,List.setIfInBounds_toArray,List.set_cons_zero,List.set_cons_succ,jkb,jnb]
        rfl
       refine pq (i:=17) (N:=some 36) #[true,true,true,true,true,true,true,true,true,true,true,true,true,true,true,true,true,true,false] ?_
       refine last_ (i:=18) (N:=none) #[true,true,true,true,true,true,true,true,true,true,true,true,true,true,true,true,true,true,true] rfl rfl (jXb HT_.out (by kernel_rfl)) (by decide) (fun K hK=>?_)
       have hs32:w30.cell? ⟨gb598,0,none⟩=some (u599000):=(jJ BK598.out 0).trans rfl
       have hfs32:=ja BK598.out 0
       have hns32_0:=NB591_598.out
       have hms32_0:=NB598_591.out
       refine skip_ (w1:=?_) (by rfl) rfl ?_ ?_
       rotate_left
       ·go_simp
        rfl
       refine hK.out _ _ ?_
       clear hK K
       refine done_ (done_of HT_.out (by kernel_rfl)) ?_
       try go_wp2
       go_roundg k1
       case measure=>have:=HK1.out;omega
       case rel=>exact ⟨(wrap64 (x6_1+1)),(t611),(y612),(.slice Ao31 y612.length co31),(sq),H',⟨by have:=HK1.out;omega⟩,⟨by (with_reducible repeat (first | apply Kd.jma | apply Kd.jla | apply Kd.jva));exact Kd.jG (Kd.jLb (p:=⟨gb598,0,none⟩) (Kd.jQa HO_3.out BK598.out (by decide)) (fun _ hk=>hk.2) (.slice Ao31 y612.length co31)) (fun _ hk=>trivial)⟩,⟨by (with_reducible repeat (first | apply Kd.jma | apply Kd.jla | apply Kd.jva));exact Kd.jG (Kd.jLb (p:=⟨gb598,0,none⟩) (Kd.jQa HO614.out BK598.out (by decide)) (fun _ hk=>hk.2) (.slice Ao31 y612.length co31)) (fun _ hk=>trivial)⟩,⟨by (with_reducible repeat (first | refine jv ?_ _ | refine jD ?_ | refine jA ?_ _));refine jib ?_ NB591_598.out _;(with_reducible repeat (first | refine jv ?_ _ | refine jD ?_ | refine jA ?_ _));exact BK591.out⟩,⟨by (with_reducible repeat (first | refine jv ?_ _ | refine jD ?_ | refine jA ?_ _));refine jVa (cs:=#[u599000]) ?_ 0 _ rfl;(with_reducible repeat (first | refine jv ?_ _ | refine jD ?_ | refine jA ?_ _));exact BK598.out⟩,⟨Y26⟩,⟨Y34⟩,⟨Y44⟩⟩
      ·rw [if_neg c22] at H
       exact absurd H (by simp)
     ·rw [if_neg c19] at H
      exact absurd H (by simp)
    ·rw [if_neg c18] at H
     exact absurd H (by simp)
   ·rw [if_neg c17] at H
    have c17b0:decide (x6_1<t602)=false:=dzF c17
    clear c17
    simp only [Option.some.injEq,Prod.mk.injEq] at H
    obtain ⟨rfl,rfl⟩:=H
    have hnb33:=NB598_591.out
    have hnc33:=NB591_598.out
    have hnb34:=NB598_0.out
    have hnc34:=NB0_598.out
    have hcz35_0:=bc0 BK598.out
    have hfz35_0:=ja BK598.out 0
    obtain ⟨Ao36,co36,eo36⟩:=Kd.jta HO_599000.out
    subst eo36
    have hnb37:=NB591_0.out
    have hnc37:=NB0_591.out
    have hcz38_0:=bc0 BK591.out
    have hfz38_0:=ja BK591.out 0
    go_wp2
    refine bodyPost_ret (results_cell_row rfl _ _ gb591 32 #[.slice Ao36 x599000_1.length co36] (0,0) _ rfl (by (with_reducible repeat (first | refine jv ?_ _ | refine jD ?_ | refine jA ?_ _));refine jVa (cs:=#[.slice none 0 0]) ?_ 0 _ rfl;(with_reducible repeat (first | refine jv ?_ _ | refine jD ?_ | refine jA ?_ _));exact BK591.out) Try.underlying32 rfl (by kernel_rfl)) rfl ?_
    exact ⟨_,Y0,by (with_reducible repeat (first | apply Kd.jma | apply Kd.jla | apply Kd.jva));exact Kd.jG (Kd.jLb (p:=⟨gb591,0,none⟩) (Kd.jQa HO_599000.out BK591.out (by decide)) (fun _ hk=>hk.2) (.slice Ao36 x599000_1.length co36)) (fun _ hk=>trivial),Y26,Y44,Y34⟩
def jcb.f (k : Nat) (s0_0 : List Int) (s0_1 : Int) (l1 : List ByteArray) : Option (ByteArray × Int) := (jf.f k s0_0 s0_1 (l1.length : Int)).bind fun bt615 => (if 0 ≤ bt615.1 then (if bt615.1 < (l1.length : Int) then (some (rdOf ByteArray.empty l1 bt615.1, bt615.2)) else (none)) else (none))
set_option maxHeartbeats 8000000 in
set_option maxRecDepth 100000 in
theorem jcb.calls (k : Nat) (g : Nat) (s0_0 : List Int) (s0_1 : Int) (A1 : Option Addr) (c1 : Nat) (l1 : List ByteArray) (r1 : ByteArray) (r2 : Int) (w0 w : World) (hI : je w0 w g s0_0 s0_1) (hB : Below w0.heap.size w0 w) (hr1 : Kd.C Kd.string w A1 l1.length l1) (hc1 : l1.length ≤ c1) (hf1 : ∀ ad, A1 = some ad → 0 < l1.length → ad.block ≠ g) (h : jcb.f k s0_0 s0_1 l1 = some (r1, r2)) :
  Calls Try.prog 98 #[.pointer (some ⟨g,0,none⟩), .slice A1 l1.length c1] w fun e w'=>e=.returned (.string r1)∧je w0 w' g s0_0 r2∧Below w0.heap.size w0 w'∧jb w w' g none:=by
 have HR1:=am hr1
 have HC1:=am hc1
 clear hr1 hc1
 have HI0:=am hI
 have HK:=am (jb.refl w g none)
 have HL:=am hB.size
 clear hI
 have HW0:=am hB.size
 have HB:=am hB
 clear hB
 have H:((jf.f k s0_0 s0_1 (l1.length:Int)).bind fun bt615=>(if 0≤bt615.1 then (if bt615.1<(l1.length:Int) then (some (rdOf ByteArray.empty l1 bt615.1,bt615.2)) else (none)) else (none)))=some (r1,r2):=h
 clear h
 replace H:=bzS H
 obtain ⟨⟨t615,t616⟩,A30,H⟩:=H
 replace H:(if 0≤t615 then (if t615<(l1.length:Int) then (some (rdOf ByteArray.empty l1 t615,t616)) else (none)) else (none))=some (r1,r2):=H
 have A3:=am A30
 clear A30
 by_cases c4:0≤t615
 ·rw [if_pos c4] at H
  have c4b0:decide (0≤t615)=true:=dzT c4
  clear c4
  by_cases c5:t615<(l1.length:Int)
  ·rw [if_pos c5] at H
   have c5b0:decide (t615<(l1.length:Int))=true:=dzT c5
   clear c5
   simp only [Option.some.injEq,Prod.mk.injEq] at H
   obtain ⟨rfl,rfl⟩:=H
   go_enter Try.func98,Try.ntmps98
   go_wp2_with (first |((with_reducible refine jd (f:=76) rfl ?_);refine gL (some 9) Try.func76 #[.pointer (some ⟨g,0,none⟩), .int .i64 (l1.length:Int)] ?_;(with_reducible refine (jf.calls k g s0_0 s0_1 (l1.length:Int) t615 t616 w0 _ ?side1 ?side2 A3.out).mono ?_);(case side1=>exact Y15);(case side2=>exact Y17);rintro e w6 ⟨rfl,hi,hb,hk⟩;refine ⟨_,rfl,?_⟩;replace HK:=am (jb.trans (Y16) hk (.inl rfl));replace HB:=am (hb);replace HI0:=am (hi);(try clear hb);(try clear hb2);(try clear hk);(try clear hi);have p617:0≤(t615:Int):=ozD (uq);have q617:t615<(l1.length:Int):=ozD (uq);obtain ⟨ad617,e617,hx617_0⟩:=Kd.at_string HR1.out t615 p617 q617;cases e617;replace hx617_0:=keep_cell HK.out hx617_0 (by first |(rw [add_block];exact hf1 _ rfl (by omega)) | exact hf1 _ rfl (by omega) | exact hf1 ad617 rfl (by omega));replace p617:=ezT p617;replace q617:=ezT q617))
   go_ret
   exact ⟨Y0,Y15,Y17,Y16⟩
  ·rw [if_neg c5] at H
   exact absurd H (by simp)
 ·rw [if_neg c4] at H
  exact absurd H (by simp)
end Go.Proofs.Ytkhiiiddbmgiaaa.P
end
