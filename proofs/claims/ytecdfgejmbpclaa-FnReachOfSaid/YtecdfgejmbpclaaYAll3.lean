/- One part of the proofs on this program: functions of the program as plain functions, that the code comes to them, and facts on them. -/
import Derived.Shelf.Sort.Plain
import Derived.Test.YtecdfgejmbpclaaYAll1
import Derived.Test.YtecdfgejmbpclaaYAll2
import Derived.Test.YtecdfgejmbpclaaYWAuto
section
namespace Go.Proofs.Ytecdfgejmbpclaa.P
open Go.RowKit Go.Proofs.YtecdfgejmbpclaaW.PrintWords Go.Proofs.YtecdfgejmbpclaaW.PrintLast Go.Proofs.YtecdfgejmbpclaaW.PrintMore
attribute [local go_sem] jxa jva jEa jDa jka jja jwa jua jD
set_option linter.unusedVariables false
set_option linter.unusedSimpArgs false
theorem jOa {w : World} {b : Nat} {v : Value} {l : List Value} {t : TypeId} (h : w.heap[b]? = some (.cells ⟨v :: l⟩ t (0, 0))) : w.cell? ⟨b, 0, none⟩ = some v := (jH h 0).trans rfl
theorem cellA1 {w : World} {b : Nat} {v v1 : Value} {l : List Value} {t : TypeId} (h : w.heap[b]? = some (.cells ⟨v :: v1 :: l⟩ t (0, 0))) : w.cell? ⟨b, 1, none⟩ = some v1 := (jH h 1).trans rfl
theorem cellA2 {w : World} {b : Nat} {v v1 v2 : Value} {l : List Value} {t : TypeId} (h : w.heap[b]? = some (.cells ⟨v :: v1 :: v2 :: l⟩ t (0, 0))) : w.cell? ⟨b, 2, none⟩ = some v2 := (jH h 2).trans rfl
theorem cellA3 {w : World} {b : Nat} {v v1 v2 v3 : Value} {l : List Value} {t : TypeId} (h : w.heap[b]? = some (.cells ⟨v :: v1 :: v2 :: v3 :: l⟩ t (0, 0))) : w.cell? ⟨b, 3, none⟩ = some v3 := (jH h 3).trans rfl
def hpIn (a lo hi : Int) : Bool := decide (lo ≤ a) && decide (a ≤ hi)
theorem hp_within (a lo hi : Int) : jsa.f a lo hi = some (hpIn a lo hi) := by
 unfold jsa.f hpIn
 by_cases h:a≥lo
 ·rw [if_pos h];simp [show lo≤a from h]
 ·rw [if_neg h];simp [show ¬ lo≤a from h]
theorem hp_has (l : List S94) (a : Int) : jWa.f l a = some (hpIn a 0 (wrap64 ((l.length : Int) - 1))) := by unfold jWa.f; rw [hp_within]; rfl
theorem hp_code (a : Int) : jsb.f a = some (hpIn a 0 99) := by unfold jsb.f; rw [hp_within]; rfl
def hpLk (m : Nat) (i z : Int) : Bool := decide (z = -1) || (hpIn z 0 ((m : Int) - 1) && decide (z ≠ i))
def hpBad (t : List S94) (m : Nat) (i : Int) (x : S54) : Bool := !hpIn x.f0 0 (wrap64 ((t.length : Int) - 1)) || (!hpIn x.f1 0 99 || (!hpLk m i x.f2 || !hpLk m i x.f3))
def hpAny (t : List S94) (h : List S54) : Nat → Nat → Bool
 | 0,_=>false
 | n+1,i=>if hpBad t h.length (i:Int) (ja h (i:Int))=true then true else hpAny t h n (i+1)
def hpEnds (k : Nat) (h : List S54) : Nat → Nat → Option Bool
 | 0,_=>some true
 | n+1,i=>(jXa.f k h (i:Int)).bind fun l=>if 1≤l.length then (ctxF h (rd l ((l.length:Int) - 1))).bind fun c=>if c = -1 then hpEnds k h n (i+1) else some false else none
def jRa.f (k : Nat) (l0_0 : List S94) (l1_0 : List S54) : Option Bool :=
 if hpAny l0_0 l1_0 l1_0.length 0=true then some false else (hpEnds k l1_0 l1_0.length 0).bind fun b=>if b=true then ((jG.f k l0_0).bind fun v=>some (if v=true then decide ((l1_0.length:Int)≤24) else false)) else some false
set_option maxHeartbeats 8000000 in
set_option maxRecDepth 100000 in
theorem jec (A_ : Option Addr) (c_ : Nat) (m : Nat) (i z : Int) (B0 : Nat) (w : World) (hm : m ≤ 9223372036854775807) (hc : w.cell? ⟨B0, 0, none⟩ = some (.slice A_ m c_)) :
  Calls Try.prog 93 #[.int .i64 i, .int .i64 z, .pointer (some ⟨B0,0,none⟩)] w fun e w'=>e=.returned (.bool (hpLk m i z))∧Below w.heap.size w w':=by
 have HB:=am (Below.refl w.heap.size w)
 have hu32:=Try.underlying32
 have hw2:IntKind.i64.wrap ((m:Int) - 1)=(m:Int) - 1:=IntWalk.i64_in _ (by omega)
 by_cases h0:z = -1
 ·subst h0
  have HZ:=am (by simp [hpLk]:hpLk m i (-1)=true)
  go_enter Try.func93,Try.ntmps93
  go_wp2
  go_ret
  exact ⟨by rw [HZ.out];rfl,(bq)⟩
 ·have hb0:(z == -1)=false:=by simpa using h0
  by_cases h1:z≥0
  ·have hb1:=dzT h1
   by_cases h2:z≤(m:Int) - 1
   ·have hb2:=dzT h2
    by_cases h3:z=i
    ·have hb3:(z != i)=false:=by simpa using h3
     have HZ:=am (by subst h3;simp [hpLk,h0]:hpLk m i z=false)
     clear h0 h1 h2 h3
     go_enter Try.func93,Try.ntmps93
     go_wp2
     go_ret
     exact ⟨by rw [HZ.out];rfl,(bq)⟩
    ·have hb3:(z != i)=true:=by simpa using h3
     have HZ:=am (by simp [hpLk,h0,h3,hpIn];omega:hpLk m i z=true)
     clear h0 h1 h2 h3
     go_enter Try.func93,Try.ntmps93
     go_wp2
     go_ret
     exact ⟨by rw [HZ.out];rfl,(bq)⟩
   ·have hb2:=dzF h2
    have HZ:=am (by simp [hpLk,h0,hpIn];omega:hpLk m i z=false)
    clear h0 h1 h2
    go_enter Try.func93,Try.ntmps93
    go_wp2
    go_ret
    exact ⟨by rw [HZ.out];rfl,(bq)⟩
  ·have hb1:=dzF h1
   have HZ:=am (by simp [hpLk,h0,hpIn];omega:hpLk m i z=false)
   clear h0 h1
   go_enter Try.func93,Try.ntmps93
   go_wp2
   go_ret
   exact ⟨by rw [HZ.out];rfl,(bq)⟩
set_option maxHeartbeats 8000000 in
set_option maxRecDepth 100000 in
theorem jRa.calls (k : Nat) (A0_0 : Option Addr) (c0_0 : Nat) (l0_0 : List (S94)) (A0 : Option Addr) (c0 : Nat) (l0 : List (S54)) (r : Bool) (w : World) (hr0_0 : Kd.C k94 w A0_0 l0_0.length l0_0) (hc0_0 : l0_0.length ≤ c0_0) (hr0 : Kd.C k54 w A0 l0.length l0) (hc0 : l0.length ≤ c0) (h : jRa.f k l0_0 l0 = some r) :
  Calls Try.prog 63 #[.agg #[.slice A0_0 l0_0.length c0_0], .agg #[.slice A0 l0.length c0]] w fun e w'=>e=.returned (.bool r)∧Below w.heap.size w w':=by
 have hu32:=Try.underlying32
 have hu37:=Try.underlying37
 have hu54:=Try.underlying54
 have hm:l0.length≤9223372036854775807:=Kd.C_max hr0
 have HRT:=am hr0_0
 have HRH:=am hr0
 have hcT:=hc0_0
 have hcH:=hc0
 have H':=am h
 have HB:=am (((Below.refl w.heap.size w).alloc (Nat.le_refl _) (.cells #[.slice A0_0 l0_0.length c0_0] 37)).alloc (by simp) (.cells #[.slice A0 l0.length c0] 32))
 have BT:=am (jf (heap_alloc_new w (.cells #[.slice A0_0 l0_0.length c0_0] 37)) (.cells #[.slice A0 l0.length c0] 32))
 have BH:=am (show ((w.alloc (.cells #[.slice A0_0 l0_0.length c0_0] 37)).alloc (.cells #[.slice A0 l0.length c0] 32)).heap[w.heap.size+1]?=some (.cells #[.slice A0 l0.length c0] 32 (0,0)) by have h:=heap_alloc_new (w.alloc (.cells #[.slice A0_0 l0_0.length c0_0] 37)) (.cells #[.slice A0 l0.length c0] 32);simpa only [World.size_alloc] using h)
 have hmH:=hm
 clear hr0_0 hr0 h hc0_0 hc0
 go_enter Try.func63,Try.ntmps63
 go_wp2
 go_loopw [14] (fun v14 wr=>∃ i:Nat,i≤l0.length∧v14=.int .i64 i∧jC (hpAny l0_0 l0 (l0.length - i) i=hpAny l0_0 l0 l0.length 0)∧jC (wr.heap[w.heap.size]?=some (.cells #[.slice A0_0 l0_0.length c0_0] 37 (0,0)))∧jC (wr.heap[w.heap.size+1]?=some (.cells #[.slice A0 l0.length c0] 32 (0,0)))∧jC (Below w.heap.size w wr)) (fun v14 _=>l0.length - (intOf v14).toNat)
 case atStart=>exact ⟨0,Nat.zero_le _,rfl,⟨rfl⟩,BT,BH,HB⟩
 case round =>
  clear HB BT BH
  obtain ⟨i,hi,rfl,HA,BT,BH,HB⟩:=hrel
  have cT:=jOa BT.out
  have cH:=jOa BH.out
  by_cases hlt:i<l0.length
  ·obtain ⟨ad,rfl,x0,x1,x2,x3,x4⟩:=jvb (Kd.jha HRH.out HB.out) (i:Int) (by omega) (by omega)
   rw [Int.toNat_natCast] at x0 x1 x2 x3 x4
   have hneT:w.heap.size<wr.heap.size:=jca BT.out
   have hneH:w.heap.size+1<wr.heap.size:=jca BH.out
   have BX:=am (heap_alloc_new wr (.cells #[.int .i64 (ja l0 (i:Int)).f0, .int .i64 (ja l0 (i:Int)).f1, .int .i64 (ja l0 (i:Int)).f2, .int .i64 (ja l0 (i:Int)).f3, .bool (ja l0 (i:Int)).f4] 54))
   have HS:=am (show hpAny l0_0 l0 (l0.length - i) i=if hpBad l0_0 l0.length (i:Int) (ja l0 (i:Int))=true then true else hpAny l0_0 l0 (l0.length - (i+1)) (i+1) by rw [show l0.length - i=(l0.length - (i+1))+1 by omega];rfl)

   cases e0:hpIn (ja l0 (i:Int)).f0 0 (wrap64 ((l0_0.length:Int) - 1)) with
   | false =>
    have E0:=am (show jWa.f l0_0 (ja l0 (i:Int)).f0=some false by rw [hp_has,e0])
    have HZ:=am (show r=false by have h:=H'.out;unfold jRa.f at h;rw [← HA.out,HS.out,if_pos (show hpBad l0_0 l0.length (i:Int) (ja l0 (i:Int))=true by simp [hpBad,e0]),if_pos rfl] at h;exact (Option.some.inj h).symm)
    clear e0 HA HS H'
    go_wp2_with (first |(go_at_call 94;refine (jWa.calls _ _ _ _ false _ (Kd.jha HRT.out (bq)) hcT E0.out).mono ?_;rintro e w2 ⟨rfl,hb2⟩;have n0_:=am (jh (g:=wr.heap.size) (o:=.cells #[.int .i64 (ja l0 (i:Int)).f0, .int .i64 (ja l0 (i:Int)).f1, .int .i64 (ja l0 (i:Int)).f2, .int .i64 (ja l0 (i:Int)).f3, .bool (ja l0 (i:Int)).f4] 54 (0,0)) (Y30) hb2);have n1_:=am (jh (g:=w.heap.size) (o:=.cells #[.slice A0_0 l0_0.length c0_0] 37 (0,0)) (kq BT.out) hb2);have n2_:=am (jh (g:=w.heap.size+1) (o:=.cells #[.slice (some ad) l0.length c0] 32 (0,0)) (kq BH.out) hb2);have n3_:=am (jk (bq) hb2);clear BX BT BH HB;(try clear cx0 cx1 cx2 cx3);have BX:=n0_;have BT:=n1_;have BH:=n2_;have HB:=n3_;clear n0_ n1_ n2_ n3_ hb2;have cT:=jOa BT.out;have cH:=jOa BH.out;have cx0:=jOa BX.out;have cx1:=cellA1 BX.out;have cx2:=cellA2 BX.out;have cx3:=cellA3 BX.out))
    go_ret
    exact ⟨by rw [HZ.out];rfl,(bq)⟩
   | true =>
    have E0:=am (show jWa.f l0_0 (ja l0 (i:Int)).f0=some true by rw [hp_has,e0])
    cases e1:hpIn (ja l0 (i:Int)).f1 0 99 with
    | false =>
     have E1:=am (show jsb.f (ja l0 (i:Int)).f1=some false by rw [hp_code,e1])
     have HZ:=am (show r=false by have h:=H'.out;unfold jRa.f at h;rw [← HA.out,HS.out,if_pos (show hpBad l0_0 l0.length (i:Int) (ja l0 (i:Int))=true by simp [hpBad,e0,e1]),if_pos rfl] at h;exact (Option.some.inj h).symm)
     clear e0 e1 HA HS H'
     go_wp2_with (first |(go_at_call 94;refine (jWa.calls _ _ _ _ true _ (Kd.jha HRT.out (bq)) hcT E0.out).mono ?_;rintro e w2 ⟨rfl,hb2⟩;have n0_:=am (jh (g:=wr.heap.size) (o:=.cells #[.int .i64 (ja l0 (i:Int)).f0, .int .i64 (ja l0 (i:Int)).f1, .int .i64 (ja l0 (i:Int)).f2, .int .i64 (ja l0 (i:Int)).f3, .bool (ja l0 (i:Int)).f4] 54 (0,0)) (Y30) hb2);have n1_:=am (jh (g:=w.heap.size) (o:=.cells #[.slice A0_0 l0_0.length c0_0] 37 (0,0)) (kq BT.out) hb2);have n2_:=am (jh (g:=w.heap.size+1) (o:=.cells #[.slice (some ad) l0.length c0] 32 (0,0)) (kq BH.out) hb2);have n3_:=am (jk (bq) hb2);clear BX BT BH HB;(try clear cx0 cx1 cx2 cx3);have BX:=n0_;have BT:=n1_;have BH:=n2_;have HB:=n3_;clear n0_ n1_ n2_ n3_ hb2;have cT:=jOa BT.out;have cH:=jOa BH.out;have cx0:=jOa BX.out;have cx1:=cellA1 BX.out;have cx2:=cellA2 BX.out;have cx3:=cellA3 BX.out) |(go_at_call 95;refine (jsb.calls _ false _ E1.out).mono ?_;rintro e w3 ⟨rfl,hd3⟩;have hb3:=hd3.below;clear hd3;have n0_:=am (jh (g:=wr.heap.size) (o:=.cells #[.int .i64 (ja l0 (i:Int)).f0, .int .i64 (ja l0 (i:Int)).f1, .int .i64 (ja l0 (i:Int)).f2, .int .i64 (ja l0 (i:Int)).f3, .bool (ja l0 (i:Int)).f4] 54 (0,0)) (Y30) hb3);have n1_:=am (jh (g:=w.heap.size) (o:=.cells #[.slice A0_0 l0_0.length c0_0] 37 (0,0)) (kq BT.out) hb3);have n2_:=am (jh (g:=w.heap.size+1) (o:=.cells #[.slice (some ad) l0.length c0] 32 (0,0)) (kq BH.out) hb3);have n3_:=am (jk (bq) hb3);clear BX BT BH HB;(try clear cx0 cx1 cx2 cx3);have BX:=n0_;have BT:=n1_;have BH:=n2_;have HB:=n3_;clear n0_ n1_ n2_ n3_ hb3;have cT:=jOa BT.out;have cH:=jOa BH.out;have cx0:=jOa BX.out;have cx1:=cellA1 BX.out;have cx2:=cellA2 BX.out;have cx3:=cellA3 BX.out))
     go_ret
     exact ⟨by rw [HZ.out];rfl,(bq)⟩
    | true =>
     have E1:=am (show jsb.f (ja l0 (i:Int)).f1=some true by rw [hp_code,e1])
     cases e2:hpLk l0.length (i:Int) (ja l0 (i:Int)).f2 with
     | false =>
      have E2:=am (e2)
      have HZ:=am (show r=false by have h:=H'.out;unfold jRa.f at h;rw [← HA.out,HS.out,if_pos (show hpBad l0_0 l0.length (i:Int) (ja l0 (i:Int))=true by simp [hpBad,e0,e1,e2]),if_pos rfl] at h;exact (Option.some.inj h).symm)
      clear e0 e1 e2 HA HS H'
      go_wp2_with (first |(go_at_call 94;refine (jWa.calls _ _ _ _ true _ (Kd.jha HRT.out (bq)) hcT E0.out).mono ?_;rintro e w2 ⟨rfl,hb2⟩;have n0_:=am (jh (g:=wr.heap.size) (o:=.cells #[.int .i64 (ja l0 (i:Int)).f0, .int .i64 (ja l0 (i:Int)).f1, .int .i64 (ja l0 (i:Int)).f2, .int .i64 (ja l0 (i:Int)).f3, .bool (ja l0 (i:Int)).f4] 54 (0,0)) (Y30) hb2);have n1_:=am (jh (g:=w.heap.size) (o:=.cells #[.slice A0_0 l0_0.length c0_0] 37 (0,0)) (kq BT.out) hb2);have n2_:=am (jh (g:=w.heap.size+1) (o:=.cells #[.slice (some ad) l0.length c0] 32 (0,0)) (kq BH.out) hb2);have n3_:=am (jk (bq) hb2);clear BX BT BH HB;(try clear cx0 cx1 cx2 cx3);have BX:=n0_;have BT:=n1_;have BH:=n2_;have HB:=n3_;clear n0_ n1_ n2_ n3_ hb2;have cT:=jOa BT.out;have cH:=jOa BH.out;have cx0:=jOa BX.out;have cx1:=cellA1 BX.out;have cx2:=cellA2 BX.out;have cx3:=cellA3 BX.out) |(go_at_call 95;refine (jsb.calls _ true _ E1.out).mono ?_;rintro e w3 ⟨rfl,hd3⟩;have hb3:=hd3.below;clear hd3;have n0_:=am (jh (g:=wr.heap.size) (o:=.cells #[.int .i64 (ja l0 (i:Int)).f0, .int .i64 (ja l0 (i:Int)).f1, .int .i64 (ja l0 (i:Int)).f2, .int .i64 (ja l0 (i:Int)).f3, .bool (ja l0 (i:Int)).f4] 54 (0,0)) (Y30) hb3);have n1_:=am (jh (g:=w.heap.size) (o:=.cells #[.slice A0_0 l0_0.length c0_0] 37 (0,0)) (kq BT.out) hb3);have n2_:=am (jh (g:=w.heap.size+1) (o:=.cells #[.slice (some ad) l0.length c0] 32 (0,0)) (kq BH.out) hb3);have n3_:=am (jk (bq) hb3);clear BX BT BH HB;(try clear cx0 cx1 cx2 cx3);have BX:=n0_;have BT:=n1_;have BH:=n2_;have HB:=n3_;clear n0_ n1_ n2_ n3_ hb3;have cT:=jOa BT.out;have cH:=jOa BH.out;have cx0:=jOa BX.out;have cx1:=cellA1 BX.out;have cx2:=cellA2 BX.out;have cx3:=cellA3 BX.out) |(go_at_call 93;refine (jec _ _ _ _ _ _ _ hmH cH).mono ?_;rw [E2.out];rintro e w4 ⟨rfl,hb4⟩;have n0_:=am (jh (g:=wr.heap.size) (o:=.cells #[.int .i64 (ja l0 (i:Int)).f0, .int .i64 (ja l0 (i:Int)).f1, .int .i64 (ja l0 (i:Int)).f2, .int .i64 (ja l0 (i:Int)).f3, .bool (ja l0 (i:Int)).f4] 54 (0,0)) (Y30) hb4);have n1_:=am (jh (g:=w.heap.size) (o:=.cells #[.slice A0_0 l0_0.length c0_0] 37 (0,0)) (kq BT.out) hb4);have n2_:=am (jh (g:=w.heap.size+1) (o:=.cells #[.slice (some ad) l0.length c0] 32 (0,0)) (kq BH.out) hb4);have n3_:=am (jk (bq) hb4);clear BX BT BH HB;(try clear cx0 cx1 cx2 cx3);have BX:=n0_;have BT:=n1_;have BH:=n2_;have HB:=n3_;clear n0_ n1_ n2_ n3_ hb4;have cT:=jOa BT.out;have cH:=jOa BH.out;have cx0:=jOa BX.out;have cx1:=cellA1 BX.out;have cx2:=cellA2 BX.out;have cx3:=cellA3 BX.out))
      go_ret
      exact ⟨by rw [HZ.out];rfl,(bq)⟩
     | true =>
      have E2:=am (e2)
      cases e3:hpLk l0.length (i:Int) (ja l0 (i:Int)).f3 with
      | false =>
       have E3:=am (e3)
       have HZ:=am (show r=false by have h:=H'.out;unfold jRa.f at h;rw [← HA.out,HS.out,if_pos (show hpBad l0_0 l0.length (i:Int) (ja l0 (i:Int))=true by simp [hpBad,e0,e1,e2,e3]),if_pos rfl] at h;exact (Option.some.inj h).symm)
       clear e0 e1 e2 e3 HA HS H'
       go_wp2_with (first |(go_at_call 94;refine (jWa.calls _ _ _ _ true _ (Kd.jha HRT.out (bq)) hcT E0.out).mono ?_;rintro e w2 ⟨rfl,hb2⟩;have n0_:=am (jh (g:=wr.heap.size) (o:=.cells #[.int .i64 (ja l0 (i:Int)).f0, .int .i64 (ja l0 (i:Int)).f1, .int .i64 (ja l0 (i:Int)).f2, .int .i64 (ja l0 (i:Int)).f3, .bool (ja l0 (i:Int)).f4] 54 (0,0)) (Y30) hb2);have n1_:=am (jh (g:=w.heap.size) (o:=.cells #[.slice A0_0 l0_0.length c0_0] 37 (0,0)) (kq BT.out) hb2);have n2_:=am (jh (g:=w.heap.size+1) (o:=.cells #[.slice (some ad) l0.length c0] 32 (0,0)) (kq BH.out) hb2);have n3_:=am (jk (bq) hb2);clear BX BT BH HB;(try clear cx0 cx1 cx2 cx3);have BX:=n0_;have BT:=n1_;have BH:=n2_;have HB:=n3_;clear n0_ n1_ n2_ n3_ hb2;have cT:=jOa BT.out;have cH:=jOa BH.out;have cx0:=jOa BX.out;have cx1:=cellA1 BX.out;have cx2:=cellA2 BX.out;have cx3:=cellA3 BX.out) |(go_at_call 95;refine (jsb.calls _ true _ E1.out).mono ?_;rintro e w3 ⟨rfl,hd3⟩;have hb3:=hd3.below;clear hd3;have n0_:=am (jh (g:=wr.heap.size) (o:=.cells #[.int .i64 (ja l0 (i:Int)).f0, .int .i64 (ja l0 (i:Int)).f1, .int .i64 (ja l0 (i:Int)).f2, .int .i64 (ja l0 (i:Int)).f3, .bool (ja l0 (i:Int)).f4] 54 (0,0)) (Y30) hb3);have n1_:=am (jh (g:=w.heap.size) (o:=.cells #[.slice A0_0 l0_0.length c0_0] 37 (0,0)) (kq BT.out) hb3);have n2_:=am (jh (g:=w.heap.size+1) (o:=.cells #[.slice (some ad) l0.length c0] 32 (0,0)) (kq BH.out) hb3);have n3_:=am (jk (bq) hb3);clear BX BT BH HB;(try clear cx0 cx1 cx2 cx3);have BX:=n0_;have BT:=n1_;have BH:=n2_;have HB:=n3_;clear n0_ n1_ n2_ n3_ hb3;have cT:=jOa BT.out;have cH:=jOa BH.out;have cx0:=jOa BX.out;have cx1:=cellA1 BX.out;have cx2:=cellA2 BX.out;have cx3:=cellA3 BX.out) |(go_at_call 93;refine (jec _ _ _ _ _ _ _ hmH cH).mono ?_;(first | rw [E2.out] | rw [E3.out]);rintro e w4 ⟨rfl,hb4⟩;have n0_:=am (jh (g:=wr.heap.size) (o:=.cells #[.int .i64 (ja l0 (i:Int)).f0, .int .i64 (ja l0 (i:Int)).f1, .int .i64 (ja l0 (i:Int)).f2, .int .i64 (ja l0 (i:Int)).f3, .bool (ja l0 (i:Int)).f4] 54 (0,0)) (Y30) hb4);have n1_:=am (jh (g:=w.heap.size) (o:=.cells #[.slice A0_0 l0_0.length c0_0] 37 (0,0)) (kq BT.out) hb4);have n2_:=am (jh (g:=w.heap.size+1) (o:=.cells #[.slice (some ad) l0.length c0] 32 (0,0)) (kq BH.out) hb4);have n3_:=am (jk (bq) hb4);clear BX BT BH HB;(try clear cx0 cx1 cx2 cx3);have BX:=n0_;have BT:=n1_;have BH:=n2_;have HB:=n3_;clear n0_ n1_ n2_ n3_ hb4;have cT:=jOa BT.out;have cH:=jOa BH.out;have cx0:=jOa BX.out;have cx1:=cellA1 BX.out;have cx2:=cellA2 BX.out;have cx3:=cellA3 BX.out))
       go_ret
       exact ⟨by rw [HZ.out];rfl,(bq)⟩
      | true =>
       have E3:=am (e3)
       have HN:=am (show hpAny l0_0 l0 (l0.length - (i+1)) (i+1)=hpAny l0_0 l0 l0.length 0 by rw [← HA.out,HS.out,if_neg (show ¬ hpBad l0_0 l0.length (i:Int) (ja l0 (i:Int))=true by simp [hpBad,e0,e1,e2,e3])])
       clear e0 e1 e2 e3 HA HS H'
       go_wp2_with (first |(go_at_call 94;refine (jWa.calls _ _ _ _ true _ (Kd.jha HRT.out (bq)) hcT E0.out).mono ?_;rintro e w2 ⟨rfl,hb2⟩;have n0_:=am (jh (g:=wr.heap.size) (o:=.cells #[.int .i64 (ja l0 (i:Int)).f0, .int .i64 (ja l0 (i:Int)).f1, .int .i64 (ja l0 (i:Int)).f2, .int .i64 (ja l0 (i:Int)).f3, .bool (ja l0 (i:Int)).f4] 54 (0,0)) (Y30) hb2);have n1_:=am (jh (g:=w.heap.size) (o:=.cells #[.slice A0_0 l0_0.length c0_0] 37 (0,0)) (kq BT.out) hb2);have n2_:=am (jh (g:=w.heap.size+1) (o:=.cells #[.slice (some ad) l0.length c0] 32 (0,0)) (kq BH.out) hb2);have n3_:=am (jk (bq) hb2);clear BX BT BH HB;(try clear cx0 cx1 cx2 cx3);have BX:=n0_;have BT:=n1_;have BH:=n2_;have HB:=n3_;clear n0_ n1_ n2_ n3_ hb2;have cT:=jOa BT.out;have cH:=jOa BH.out;have cx0:=jOa BX.out;have cx1:=cellA1 BX.out;have cx2:=cellA2 BX.out;have cx3:=cellA3 BX.out) |(go_at_call 95;refine (jsb.calls _ true _ E1.out).mono ?_;rintro e w3 ⟨rfl,hd3⟩;have hb3:=hd3.below;clear hd3;have n0_:=am (jh (g:=wr.heap.size) (o:=.cells #[.int .i64 (ja l0 (i:Int)).f0, .int .i64 (ja l0 (i:Int)).f1, .int .i64 (ja l0 (i:Int)).f2, .int .i64 (ja l0 (i:Int)).f3, .bool (ja l0 (i:Int)).f4] 54 (0,0)) (Y30) hb3);have n1_:=am (jh (g:=w.heap.size) (o:=.cells #[.slice A0_0 l0_0.length c0_0] 37 (0,0)) (kq BT.out) hb3);have n2_:=am (jh (g:=w.heap.size+1) (o:=.cells #[.slice (some ad) l0.length c0] 32 (0,0)) (kq BH.out) hb3);have n3_:=am (jk (bq) hb3);clear BX BT BH HB;(try clear cx0 cx1 cx2 cx3);have BX:=n0_;have BT:=n1_;have BH:=n2_;have HB:=n3_;clear n0_ n1_ n2_ n3_ hb3;have cT:=jOa BT.out;have cH:=jOa BH.out;have cx0:=jOa BX.out;have cx1:=cellA1 BX.out;have cx2:=cellA2 BX.out;have cx3:=cellA3 BX.out) |(go_at_call 93;refine (jec _ _ _ _ _ _ _ hmH cH).mono ?_;(first | rw [E2.out] | rw [E3.out]);rintro e w4 ⟨rfl,hb4⟩;have n0_:=am (jh (g:=wr.heap.size) (o:=.cells #[.int .i64 (ja l0 (i:Int)).f0, .int .i64 (ja l0 (i:Int)).f1, .int .i64 (ja l0 (i:Int)).f2, .int .i64 (ja l0 (i:Int)).f3, .bool (ja l0 (i:Int)).f4] 54 (0,0)) (Y30) hb4);have n1_:=am (jh (g:=w.heap.size) (o:=.cells #[.slice A0_0 l0_0.length c0_0] 37 (0,0)) (kq BT.out) hb4);have n2_:=am (jh (g:=w.heap.size+1) (o:=.cells #[.slice (some ad) l0.length c0] 32 (0,0)) (kq BH.out) hb4);have n3_:=am (jk (bq) hb4);clear BX BT BH HB;(try clear cx0 cx1 cx2 cx3);have BX:=n0_;have BT:=n1_;have BH:=n2_;have HB:=n3_;clear n0_ n1_ n2_ n3_ hb4;have cT:=jOa BT.out;have cH:=jOa BH.out;have cx0:=jOa BX.out;have cx1:=cellA1 BX.out;have cx2:=cellA2 BX.out;have cx3:=cellA3 BX.out))
       go_roundw
       case rel=>exact ⟨i+1,hlt,by go_num,HN,⟨kq BT.out⟩,⟨kq BH.out⟩,⟨(bq)⟩⟩
       case measure=>simp [intOf];omega
  ·obtain rfl:i=l0.length:=by omega
   have HG:=am (show (hpEnds k l0 l0.length 0).bind (fun b=>if b=true then ((jG.f k l0_0).bind fun v=>some (if v=true then decide ((l0.length:Int)≤24) else false)) else some false)=some r by
    have h:=H'.out
    unfold jRa.f at h
    have hA:=HA.out
    rw [Nat.sub_self] at hA
    rw [if_neg (show ¬ hpAny l0_0 l0 l0.length 0=true by rw [← hA];simp [hpAny])] at h
    exact h)
   clear HA H'
   obtain ⟨b,hE,hG⟩:=bzS HG.out
   have HE:=am hE
   have HG2:=am hG
   clear HG hE hG
   go_wp2
   go_loopw [50] (fun v50 wr=>∃ j:Nat,j≤l0.length∧v50=.int .i64 j∧jC (hpEnds k l0 (l0.length - j) j=some b)∧jC (wr.heap[w.heap.size]?=some (.cells #[.slice A0_0 l0_0.length c0_0] 37 (0,0)))∧jC (wr.heap[w.heap.size+1]?=some (.cells #[.slice A0 l0.length c0] 32 (0,0)))∧jC (Below w.heap.size w wr)) (fun v50 _=>l0.length - (intOf v50).toNat)
   case atStart=>exact ⟨0,Nat.zero_le _,rfl,HE,BT,BH,HB⟩
   case round =>
    clear HB BT BH cT cH HE hlt
    obtain ⟨j,hj,rfl,HA,BT,BH,HB⟩:=hrel
    have cT:=jOa BT.out
    have cH:=jOa BH.out
    by_cases hlt:j<l0.length
    ·have hA:=HA.out
     rw [show l0.length - j=(l0.length - (j+1))+1 by omega,hpEnds] at hA
     obtain ⟨l,hl,hA⟩:=bzS hA
     have HC:=am (fun W (hb:Below w.heap.size w W)=>jXa.calls k A0 c0 l0 (j:Int) l W (Kd.jha HRH.out hb) hcH hl)
     clear HA hl
     by_cases hlen:1≤l.length
     ·rw [if_pos hlen] at hA
      obtain ⟨c,hc,hA⟩:=bzS hA
      unfold ctxF at hc
      obtain ⟨ji,hji⟩:∃ ji,ji=(l.length:Int) - 1:=⟨_,rfl⟩
      rw [← hji] at hc
      have HJ:=am hji
      by_cases hc1:0≤rd l ji
      ·rw [if_pos hc1] at hc
       by_cases hc2:rd l ji<(l0.length:Int)
       ·rw [if_pos hc2] at hc
        have hc3:=Option.some.inj hc
        clear hc
        have hl0:0≤ji:=by omega
        have hl1:ji<(l.length:Int):=by omega
        clear hji
        have p0:=ezT hc1
        have p1:=ezT hc2
        have p2:=ezT hl0
        have p3:=ezT hl1
        by_cases e1:c = -1
        ·rw [if_pos e1] at hA
         have HN:=am hA
         have hcb:((ja l0 (rd l ji)).f3 != -1)=false:=by rw [hc3];simpa using e1
         clear hA e1 hc3 hlen
         go_wp2_with (go_at_call 57;refine (HC.out _ (bq)).mono ?_;rintro e w2 ⟨v2,rfl,hr2,hb2⟩;have n1_:=am (jh (g:=w.heap.size) (o:=.cells #[.slice A0_0 l0_0.length c0_0] 37 (0,0)) (kq BT.out) hb2);have n2_:=am (jh (g:=w.heap.size+1) (o:=.cells #[.slice A0 l0.length c0] 32 (0,0)) (kq BH.out) hb2);have n3_:=am (jk (bq) hb2);clear BT BH HB;have BT:=n1_;have BH:=n2_;have HB:=n3_;clear n1_ n2_ n3_ hb2;have cT:=jOa BT.out;have cH:=jOa BH.out;obtain ⟨Ao,co,eo⟩:=Kd.jW hr2;subst eo;have hw2:IntKind.i64.wrap ((l.length:Int) - 1)=ji:=(by rw [HJ.out];exact IntWalk.i64_in _ (by have:=Kd.C_max (Kd.jw hr2).2.2;omega));obtain ⟨ad2,rfl,hz⟩:=Kd.jcb (Kd.jw hr2).2.2 ji hl0 hl1;obtain ⟨ad,e3,y0,y1,y2,y3,y4⟩:=jvb (Kd.jha HRH.out HB.out) (rd l ji) hc1 hc2;cases e3;clear hr2)
         repeat (go_quiet (fail);try go_wp2)
         go_roundw
         case rel=>exact ⟨j+1,hlt,by go_num,HN,⟨kq BT.out⟩,⟨kq BH.out⟩,⟨(bq)⟩⟩
         case measure=>simp [intOf];omega
        ·rw [if_neg e1] at hA
         have hcb:((ja l0 (rd l ji)).f3 != -1)=true:=by rw [hc3];simpa using e1
         have HZ:=am (show r=false by
          have h:=HG2.out
          rw [← Option.some.inj hA,if_neg (by simp)] at h
          exact (Option.some.inj h).symm)
         clear hA e1 hc3 hlen HG2
         go_wp2_with (go_at_call 57;refine (HC.out _ (bq)).mono ?_;rintro e w2 ⟨v2,rfl,hr2,hb2⟩;have n1_:=am (jh (g:=w.heap.size) (o:=.cells #[.slice A0_0 l0_0.length c0_0] 37 (0,0)) (kq BT.out) hb2);have n2_:=am (jh (g:=w.heap.size+1) (o:=.cells #[.slice A0 l0.length c0] 32 (0,0)) (kq BH.out) hb2);have n3_:=am (jk (bq) hb2);clear BT BH HB;have BT:=n1_;have BH:=n2_;have HB:=n3_;clear n1_ n2_ n3_ hb2;have cT:=jOa BT.out;have cH:=jOa BH.out;obtain ⟨Ao,co,eo⟩:=Kd.jW hr2;subst eo;have hw2:IntKind.i64.wrap ((l.length:Int) - 1)=ji:=(by rw [HJ.out];exact IntWalk.i64_in _ (by have:=Kd.C_max (Kd.jw hr2).2.2;omega));obtain ⟨ad2,rfl,hz⟩:=Kd.jcb (Kd.jw hr2).2.2 ji hl0 hl1;obtain ⟨ad,e3,y0,y1,y2,y3,y4⟩:=jvb (Kd.jha HRH.out HB.out) (rd l ji) hc1 hc2;cases e3;clear hr2)
         repeat (go_quiet (fail);try go_wp2)
         go_ret
         exact ⟨by rw [HZ.out];rfl,(bq)⟩
       ·rw [if_neg hc2] at hc;cases hc
      ·rw [if_neg hc1] at hc;cases hc
     ·rw [if_neg hlen] at hA;cases hA
    ·obtain rfl:j=l0.length:=by omega
     have hA:=HA.out
     rw [Nat.sub_self] at hA
     have hG:=HG2.out
     rw [← Option.some.inj (show some true=some b from hA),if_pos rfl] at hG
     obtain ⟨v,hv,hG⟩:=bzS hG
     have HV:=am (fun W (hb:Below w.heap.size w W)=>jG.calls k A0_0 c0_0 l0_0 v W (Kd.jha HRT.out hb) hcT hv)
     have hZ:=Option.some.inj hG
     clear HA HG2 hA hG hv
     cases v with
     | false =>
      have HZ:=am (show r=false by rw [← hZ];rfl)
      clear hZ
      go_wp2_with (go_at_call 96;refine (HV.out _ (bq)).mono ?_;rintro e w2 ⟨rfl,hb2⟩;have n1_:=am (jh (g:=w.heap.size) (o:=.cells #[.slice A0_0 l0_0.length c0_0] 37 (0,0)) (kq BT.out) hb2);have n2_:=am (jh (g:=w.heap.size+1) (o:=.cells #[.slice A0 l0.length c0] 32 (0,0)) (kq BH.out) hb2);have n3_:=am (jk (bq) hb2);clear BT BH HB;have BT:=n1_;have BH:=n2_;have HB:=n3_;clear n1_ n2_ n3_ hb2;have cT:=jOa BT.out;have cH:=jOa BH.out)
      go_ret
      exact ⟨by rw [HZ.out];rfl,(bq)⟩
     | true =>
      rw [if_pos rfl] at hZ
      have HZ:=am hZ
      clear hZ
      go_wp2_with (go_at_call 96;refine (HV.out _ (bq)).mono ?_;rintro e w2 ⟨rfl,hb2⟩;have n1_:=am (jh (g:=w.heap.size) (o:=.cells #[.slice A0_0 l0_0.length c0_0] 37 (0,0)) (kq BT.out) hb2);have n2_:=am (jh (g:=w.heap.size+1) (o:=.cells #[.slice A0 l0.length c0] 32 (0,0)) (kq BH.out) hb2);have n3_:=am (jk (bq) hb2);clear BT BH HB;have BT:=n1_;have BH:=n2_;have HB:=n3_;clear n1_ n2_ n3_ hb2;have cT:=jOa BT.out;have cH:=jOa BH.out)
      go_ret
      exact ⟨by rw [← HZ.out];rfl,(bq)⟩
set_option maxHeartbeats 8000000 in
set_option maxRecDepth 100000 in
theorem impl_faultsIn1_calls (A_ : Option Addr) (c_ : Nat) (m : Nat) (x : Int) (B0 : Nat) (w : World) (hm : m ≤ 9223372036854775807) (hc : w.cell? ⟨B0, 0, none⟩ = some (.slice A_ m c_)) :
  Calls Try.prog 74 #[.int .i64 x, .pointer (some ⟨B0,0,none⟩)] w fun e w'=>e=.returned (.bool (!hpIn x 0 ((m:Int) - 1)))∧Below w.heap.size w w':=by
 have HB:=am (Below.refl w.heap.size w)
 have hu32:=Try.underlying32
 have hw2:IntKind.i64.wrap ((m:Int) - 1)=(m:Int) - 1:=IntWalk.i64_in _ (by omega)
 by_cases h1:x≥0
 ·have hb1:=dzT h1
  by_cases h2:x≤(m:Int) - 1
  ·have hb2:=dzT h2
   have HZ:=am (by simp [hpIn];omega:hpIn x 0 ((m:Int) - 1)=true)
   clear h1 h2
   go_enter Try.func74,Try.ntmps74
   go_wp2
   go_ret
   exact ⟨by rw [HZ.out];rfl,(bq)⟩
  ·have hb2:=dzF h2
   have HZ:=am (by simp [hpIn];omega:hpIn x 0 ((m:Int) - 1)=false)
   clear h1 h2
   go_enter Try.func74,Try.ntmps74
   go_wp2
   go_ret
   exact ⟨by rw [HZ.out];rfl,(bq)⟩
 ·have hb1:=dzF h1
  have HZ:=am (by simp [hpIn];omega:hpIn x 0 ((m:Int) - 1)=false)
  clear h1
  go_enter Try.func74,Try.ntmps74
  go_wp2
  go_ret
  exact ⟨by rw [HZ.out];rfl,(bq)⟩
set_option maxHeartbeats 8000000 in
set_option maxRecDepth 100000 in
theorem impl_faultsIn_idx (A_ : Option Addr) (c_ : Nat) (l : List (Int)) (B0_ : Nat) (p : Int → Option Bool) (r : Int) (w : World) (hr : Kd.C (Kd.int .i64) w A_ l.length l) (h : idxFrom p l 0 = some r)
  (hp:∀ W,Below w.heap.size w W→∀ (x:Int) (b:Bool),p x=some b→Calls Try.prog 74 #[.int .i64 x, .pointer (some ⟨B0_,0,none⟩)] W fun e w'=>e=.returned (.bool b)∧Below W.heap.size W w') :
  Calls Try.prog 101 #[.slice A_ l.length c_, .func (.func 74) #[] #[.pointer (some ⟨B0_,0,none⟩)]] w fun e w'=>e=.returned (.int .i64 r)∧Below w.heap.size w w':=by
 have hm:l.length≤9223372036854775807:=Kd.C_max hr
 have HR:=am hr
 have HP:=am hp
 have H0:=am h
 clear hr hp h
 go_enter Try.func101,Try.ntmps101
 go_wp2
 go_loopw [5,8] (fun i5 i8 wr=>∃ k:Nat,k≤l.length∧i8=.int .i64 k∧jC (idxFrom p (l.drop k) k=some r)∧Below w.heap.size w wr) (fun _ i8 _=>l.length - (intOf i8).toNat)
 case atStart=>exact ⟨0,Nat.zero_le _,rfl,H0,Below.refl _ _⟩
 case round =>
  clear H0
  obtain ⟨k,hk,rfl,HA,hb⟩:=hrel
  by_cases hlt:k<l.length
  ·have HB:=am (idxFrom_step hlt HA.out)
   clear HA
   obtain ⟨ad,rfl,hx0⟩:=Kd.jcb HR.out (k:Int) (by omega) (by omega)
   have hrd:rd l (k:Int)=l[k]:=by simp [rd,List.getD_eq_getElem?_getD,hlt]
   replace hx0:=jya hb hx0
   rw [hrd] at hx0
   simp only [Int.toNat_natCast] at hx0
   clear hrd
   obtain ⟨b,hb1,hb0⟩:=HB.out
   have HQ:=am hb1
   clear hb1 HB
   cases b with
   | true =>
    have HZ:=am (by simpa using hb0:(k:Int)=r)
    clear hb0
    go_wp2_with (go_at_call 74;refine (HP.out _ hb _ _ HQ.out).mono ?_;rintro e w' ⟨rfl,hb2⟩)
    go_ret
    exact ⟨by rw [← HZ.out];rfl,jEb hb hb.size hb2⟩
   | false =>
    have HZ:=am (by simpa using hb0:idxFrom p (l.drop (k+1)) (k+1)=some r)
    clear hb0
    go_wp2_with (go_at_call 74;refine (HP.out _ hb _ _ HQ.out).mono ?_;rintro e w' ⟨rfl,hb2⟩)
    go_roundw
    case rel=>exact ⟨k+1,hlt,by go_num,HZ,jEb hb hb.size hb2⟩
    case measure=>simp [intOf];omega
  ·have HZ:=am (idxFrom_end (by omega) HA.out)
   clear HA
   go_wp2
   go_ret
   exact ⟨by rw [HZ.out];rfl,hb⟩
set_option maxHeartbeats 8000000 in
set_option maxRecDepth 100000 in
theorem impl_faultsIn_any (A_ : Option Addr) (c_ : Nat) (l : List Int) (B0_ : Nat) (p : Int → Option Bool) (r : Int) (w : World) (hr : Kd.C (Kd.int .i64) w A_ l.length l) (h : idxFrom p l 0 = some r)
  (hp:∀ W,Below w.heap.size w W→∀ (x:Int) (b:Bool),p x=some b→Calls Try.prog 74 #[.int .i64 x, .pointer (some ⟨B0_,0,none⟩)] W fun e w'=>e=.returned (.bool b)∧Below W.heap.size W w') :
  Calls Try.prog 73 #[.slice A_ l.length c_, .func (.func 74) #[] #[.pointer (some ⟨B0_,0,none⟩)]] w fun e w'=>e=.returned (.bool (decide (0≤r)))∧Below w.heap.size w w':=by
 have HF:=am (impl_faultsIn_idx A_ c_ l B0_ p r w hr h hp)
 clear hr h hp
 go_enter Try.func73,Try.ntmps73
 go_wp2_with (go_at_call 101;refine HF.out.mono ?_;rintro e w' ⟨rfl,hb2⟩)
 go_ret
 exact ⟨rfl,hb2⟩
def jeb.f (k : Nat) (l0_0 : List S94) (l1_0 : List S54) (l2 : List Int) : Option Bool := (jRa.f k l0_0 l1_0).bind fun v => if v then (idxFrom (fun x => some (!hpIn x 0 ((l1_0.length : Int) - 1))) l2 0).bind fun r => some (!decide (0 ≤ r)) else some false
set_option maxHeartbeats 8000000 in
set_option maxRecDepth 100000 in
theorem jeb.calls (k : Nat) (A0_0 : Option Addr) (c0_0 : Nat) (l0_0 : List (S94)) (A1_0 : Option Addr) (c1_0 : Nat) (l1_0 : List (S54)) (A2 : Option Addr) (c2 : Nat) (l2 : List Int) (r : Bool) (w : World) (hr0_0 : Kd.C k94 w A0_0 l0_0.length l0_0) (hc0_0 : l0_0.length ≤ c0_0) (hr1_0 : Kd.C k54 w A1_0 l1_0.length l1_0) (hc1_0 : l1_0.length ≤ c1_0) (hr2 : Kd.C (Kd.int .i64) w A2 l2.length l2) (hc2 : l2.length ≤ c2) (h : jeb.f k l0_0 l1_0 l2 = some r) :
  Calls Try.prog 45 #[.agg #[.slice A0_0 l0_0.length c0_0], .agg #[.slice A1_0 l1_0.length c1_0], .slice A2 l2.length c2] w fun e w'=>e=.returned (.bool r)∧Below w.heap.size w w':=by
 obtain ⟨v,hv,h⟩:=bzS h
 have hu37:=Try.underlying37
 have hu32:=Try.underlying32
 have hm:l1_0.length≤9223372036854775807:=Kd.C_max hr1_0
 have B0:=am (((Below.refl w.heap.size w).alloc (Nat.le_refl _) (.cells #[.slice A0_0 l0_0.length c0_0] 37)).alloc (by simp) (.cells #[.slice A1_0 l1_0.length c1_0] 32))
 have KC:=am (show ((w.alloc (.cells #[.slice A0_0 l0_0.length c0_0] 37)).alloc (.cells #[.slice A1_0 l1_0.length c1_0] 32)).cell? ⟨w.heap.size+1,0,none⟩=some (.slice A1_0 l1_0.length c1_0) by have h:=hp_cell_new (w.alloc (.cells #[.slice A0_0 l0_0.length c0_0] 37)) (.slice A1_0 l1_0.length c1_0) 32;simpa only [World.size_alloc] using h)
 have HV:=am (fun W (hb:Below w.heap.size w W)=>jRa.calls k A0_0 c0_0 l0_0 A1_0 c1_0 l1_0 v W (Kd.jha hr0_0 hb) hc0_0 (Kd.jha hr1_0 hb) hc1_0 hv)
 cases v with
 | false =>
  obtain rfl:false=r:=by simpa using h
  clear hv h hr0_0 hr1_0 hr2
  go_enter Try.func45,Try.ntmps45
  go_wp2_with (go_at_call 63;refine (HV.out _ B0.out).mono ?_;rintro e w' ⟨rfl,hb2⟩)
  go_ret
  exact ⟨rfl,jEb B0.out B0.out.size hb2⟩
 | true =>
  simp only [if_true] at h
  obtain ⟨q,hq,h⟩:=bzS h
  have HZ:=am (Option.some.inj h)
  have HF:=am (fun W (hb:Below w.heap.size w W) (B:Nat) (hc:W.cell? ⟨B,0,none⟩=some (.slice A1_0 l1_0.length c1_0))=>impl_faultsIn_any A2 c2 l2 B (fun x=>some (!hpIn x 0 ((l1_0.length:Int) - 1))) q W (Kd.jha hr2 hb) hq (fun W' hb' x b hx=>by
   obtain rfl:=Option.some.inj hx
   exact impl_faultsIn1_calls A1_0 c1_0 l1_0.length x B W' hm (jya hb' hc)))
  clear hv h hq hr0_0 hr1_0 hr2
  go_enter Try.func45,Try.ntmps45
  go_wp2_with (first |(go_at_call 63;refine (HV.out _ B0.out).mono ?_;rintro e w1 ⟨rfl,hb2⟩;have hb1:=jEb B0.out B0.out.size hb2;have hcell:=jya hb2 KC.out) |(go_at_call 73;refine (HF.out _ hb1 _ hcell).mono ?_;rintro e w2 ⟨rfl,hb3⟩))
  go_ret
  exact ⟨by rw [← HZ.out];rfl,jEb hb1 hb1.size hb3⟩
def cmp_isNaN_int.f (a0 : Int) : Option (Bool) := some (a0 != a0)
set_option maxHeartbeats 8000000 in
set_option maxRecDepth 100000 in
theorem cmp_isNaN_int.calls (a0 : Int) (r : Bool) (w : World) (h : cmp_isNaN_int.f a0 = some r) :
  Calls Try.prog 129 #[.int .i64 a0] w fun e w'=>e=.returned (.bool r)∧jgb w w':=by
 have H:(some (a0 != a0))=some r:=h
 clear h
 obtain rfl:=Option.some.inj H
 go_enter Try.func129,Try.ntmps129
 go_wp2
 go_ret
 exact ⟨sq,Y5⟩
def sh189_ren : Go.Shelf.Ren := ⟨fun | 189 => 82 | 125 => 104 | 257 => 103 | 128 => 120 | 129 => 121 | 294 => 111 | 295 => 112 | 296 => 113 | 297 => 114 | 298 => 115 | 299 => 116 | 216 => 117 | 300 => 118 | 301 => 119 | 328 => 124 | 329 => 125 | 330 => 126 | 331 => 127 | 332 => 128 | 215 => 129 | 343 => 130 | n => n, fun | 28 => 45 | 3 => 3 | 46 => 119 | 0 => 0 | 51 => 134 | 53 => 136 | 4 => 4 | 183 => 127 | 182 => 126 | 131 => 131 | 5 => 5 | 9 => 9 | 218 => 139 | 222 => 87 | 228 => 144 | 229 => 145 | n => n, fun | n => n⟩
theorem sh189 : Go.Proofs.Lays.n189 Try.prog sh189_ren := {
 mixed:=by kernel_rfl
 f125:=Try.func104.trans (congrArg some (by kernel_rfl))
 f128:=Try.func120.trans (congrArg some (by kernel_rfl))
 f129:=Try.func121.trans (congrArg some (by kernel_rfl))
 f189:=Try.func82.trans (congrArg some (by kernel_rfl))
 f215:=Try.func129.trans (congrArg some (by kernel_rfl))
 f216:=Try.func117.trans (congrArg some (by kernel_rfl))
 f257:=Try.func103.trans (congrArg some (by kernel_rfl))
 f294:=Try.func111.trans (congrArg some (by kernel_rfl))
 f295:=Try.func112.trans (congrArg some (by kernel_rfl))
 f296:=Try.func113.trans (congrArg some (by kernel_rfl))
 f297:=Try.func114.trans (congrArg some (by kernel_rfl))
 f298:=Try.func115.trans (congrArg some (by kernel_rfl))
 f299:=Try.func116.trans (congrArg some (by kernel_rfl))
 f300:=Try.func118.trans (congrArg some (by kernel_rfl))
 f301:=Try.func119.trans (congrArg some (by kernel_rfl))
 f328:=Try.func124.trans (congrArg some (by kernel_rfl))
 f329:=Try.func125.trans (congrArg some (by kernel_rfl))
 f330:=Try.func126.trans (congrArg some (by kernel_rfl))
 f331:=Try.func127.trans (congrArg some (by kernel_rfl))
 f332:=Try.func128.trans (congrArg some (by kernel_rfl))
 f343:=Try.func130.trans (congrArg some (by kernel_rfl))
 t0:=Try.underlying0
 a0:=Try.isAgg0
 z0:=Try.sizeOf0
 v0:=Try.zeroValue0
 t3:=Try.underlying3
 a3:=Try.isAgg3
 z3:=Try.sizeOf3
 v3:=Try.zeroValue3
 t4:=Try.underlying4
 a4:=Try.isAgg4
 z4:=Try.sizeOf4
 v4:=Try.zeroValue4
 t5:=Try.underlying5
 a5:=Try.isAgg5
 z5:=Try.sizeOf5
 v5:=Try.zeroValue5
 t9:=Try.underlying9
 a9:=Try.isAgg9
 z9:=Try.sizeOf9
 v9:=Try.zeroValue9
 t28:=Try.underlying45
 a28:=Try.isAgg45
 z28:=Try.sizeOf45
 v28:=Try.zeroValue45
 t46:=Try.underlying119
 a46:=Try.isAgg119
 z46:=Try.sizeOf119
 v46:=Try.zeroValue119
 t51:=Try.underlying134
 a51:=Try.isAgg134
 z51:=Try.sizeOf134
 v51:=Try.zeroValue134
 t53:=Try.underlying136
 a53:=Try.isAgg136
 z53:=Try.sizeOf136
 v53:=Try.zeroValue136
 t131:=Try.underlying131
 a131:=Try.isAgg131
 z131:=Try.sizeOf131
 v131:=Try.zeroValue131
 t182:=Try.underlying126
 a182:=Try.isAgg126
 z182:=Try.sizeOf126
 v182:=Try.zeroValue126
 t183:=Try.underlying127
 a183:=Try.isAgg127
 z183:=Try.sizeOf127
 v183:=Try.zeroValue127
 t218:=Try.underlying139
 a218:=Try.isAgg139
 z218:=Try.sizeOf139
 v218:=Try.zeroValue139
 t222:=Try.underlying87
 a222:=Try.isAgg87
 z222:=Try.sizeOf87
 v222:=Try.zeroValue87
 t228:=Try.underlying144
 a228:=Try.isAgg144
 z228:=Try.sizeOf144
 v228:=Try.zeroValue144
 t229:=Try.underlying145
 a229:=Try.isAgg145
 z229:=Try.sizeOf145
 v229:=Try.zeroValue145 }
theorem rc0 {w : World} {b : Nat} {v : Value} {l : List Value} {t : TypeId} (h : w.heap[b]? = some (.cells ⟨v :: l⟩ t (0, 0))) : w.cell? ⟨b, 0, none⟩ = some v := (jH h 0).trans rfl
theorem cells_sorted {w : World} {base cap n : Nat} {g : Nat} {xs ys : List Int} {os : Array Obj} {ok : Nat → Prop} (hl : ys.length = xs.length) (h : Kd.R (Kd.int .i64) 3 w base ok (.slice (some ⟨g, 0, none⟩) xs.length cap) xs) :
  Kd.R (Kd.int .i64) 3 (Go.Sort.grow (Go.Sort.putRow (Value.int .i64) (Go.Sort.ahead w n) g 0 ys.toArray) os) base ok (.slice (some ⟨g,0,none⟩) xs.length cap) ys∧Below base w (Go.Sort.grow (Go.Sort.putRow (Value.int .i64) (Go.Sort.ahead w n) g 0 ys.toArray) os):=by
 have ho:=Kd.own_of_R h
 obtain ⟨e1,h2 | ⟨g',cap',cur,hv,hb,hh,h1,h3,h4,h5⟩⟩:=ho
 ·exact absurd h2.1 (by simp)
 ·simp only [Value.slice.injEq,Option.some.injEq,Addr.mk.injEq,and_true,true_and] at hv
  obtain ⟨rfl,rfl⟩:=hv
  have hlt:g<w.heap.size:=(Array.getElem?_eq_some_iff.1 hh).1
  have hg:∀ k,k<w.heap.size→k≠g→(Go.Sort.grow (Go.Sort.putRow (Value.int .i64) (Go.Sort.ahead w n) g 0 ys.toArray) os).heap[k]?=w.heap[k]?:=by
   intro k hk hne
   simp only [Go.Sort.grow,Go.Sort.putRow,Go.Sort.mapBlock,Go.Sort.ahead]
   rw [Array.getElem?_append_left (by simpa using hk),Array.getElem?_modify,if_neg (fun e=>hne e.symm)]
  have hgg:(Go.Sort.grow (Go.Sort.putRow (Value.int .i64) (Go.Sort.ahead w n) g 0 ys.toArray) os).heap[g]?=some (.cells (Go.Sort.putCells (Value.int .i64) 0 ys.toArray cur) 3 (0,0)):=by
   simp only [Go.Sort.grow,Go.Sort.putRow,Go.Sort.mapBlock,Go.Sort.ahead]
   rw [Array.getElem?_append_left (by simpa using hlt),Array.getElem?_modify,if_pos rfl,hh]
   rfl
  refine ⟨?_,⟨rfl,rfl,rfl,by simp [Go.Sort.grow,Go.Sort.putRow,Go.Sort.mapBlock,Go.Sort.ahead],fun k hk=>hg k (by omega) (by omega)⟩⟩
  rw [← hl]
  refine Kd.R_of_own ⟨by simp [encs], .inr ⟨g,cap,_,rfl,hb,hgg,by omega,h3,by simpa [Go.Sort.putCells] using h4,?_⟩⟩ h.1
  apply List.ext_getElem?
  intro j
  simp only [List.getElem?_take,encs,Go.Sort.putCells,Array.toList_mapIdx,List.getElem?_mapIdx,Array.getElem?_toList,List.getElem?_map,List.size_toArray,Nat.mul_one,Nat.zero_le,true_and,Nat.zero_add,Nat.sub_zero]
  by_cases hj:j<ys.length
  ·rw [if_pos hj]
   have hc:j<cur.size:=by omega
   rw [Array.getElem?_eq_getElem hc,List.getElem?_eq_getElem hj]
   simp [hj]
  ·rw [if_neg hj,List.getElem?_eq_none (by omega)];rfl
theorem slices_Sort_row (l : List Int) (base : Nat) (ok : Nat → Prop) (g cap : Nat) (w : World) (hR : Kd.R (Kd.int .i64) 3 w base ok (.slice (some ⟨g, 0, none⟩) l.length cap) l) (hsz : l.length < 4611686018427387904) :
  Calls Try.prog 82 #[.slice (some ⟨g,0,none⟩) l.length cap] w fun e w'=>e=.returned (.tuple #[])∧Kd.R (Kd.int .i64) 3 w' base ok (.slice (some ⟨g,0,none⟩) l.length cap) (l.mergeSort fun x y=>decide (x≤y))∧Below base w w':=by
 have hH:Go.Sort.Holds (Value.int .i64) w g 0 l.toArray:=fun j hj=>by
  have hj':j<l.length:=by simpa using hj
  have h:=Kd.R_cell (0:Int) hR (j:Int) (by omega) (by omega)
  rw [Int.toNat_natCast] at h
  refine ⟨?_,by simpa using h.2⟩
  have e:rdOf (0:Int) l (j:Int)=l.toArray[j]!:=by simp [rdOf,hj']
  rw [Nat.zero_add,h.1,e]
 have hlt:g<w.heap.size:=Kd.R_lt hR g rfl
 have hs:=Go.Proofs.Any.slices_Sort_int sh189 g 0 cap l w hH hlt hsz
 refine Calls.mono (show Calls Try.prog 82 _ w _ from hs) ?_
 rintro e w' ⟨rfl,n,os,rfl⟩
 obtain ⟨h1,h2⟩:=cells_sorted (n:=n) (os:=os) (ys:=l.mergeSort fun x y=>decide (x≤y)) (List.length_mergeSort _) hR
 exact ⟨rfl,h1,h2⟩
def rcStep (k : Nat) (out : List Int) (g : Int) : Option (List Int) := if g ≥ 0 then ((jta.f k out g).bind fun b => if b = true then some out else (if out.length < 17592186044416 then some (out ++ [g]) else none)) else some out
def rcAll (k : Nat) : List Int → List Int → Option (List Int)
 | [],out=>some out
 | g :: gs,out=>(rcStep k out g).bind fun o=>rcAll k gs o
def rcGo (h : List S54) : Nat → Nat → List Int → Option (List Int)
 | 0,_,_=>none
 | k+1,i,out=>if i<out.length then (if 0≤rd out (i:Int) then (if rd out (i:Int)<(h.length:Int) then ((rcAll k [(ja h (rd out (i:Int))).f2,(ja h (rd out (i:Int))).f3] out).bind fun o=>rcGo h k (i+1) o) else none) else none) else some out
def jSa.f (k : Nat) (l0_0 : List S54) (a1 : Int) : Option (List Int) := (rcGo l0_0 k 0 [a1]).bind fun l => if 0 < l.length ∧ l.length < 4611686018427387904 then some (l.mergeSort fun x y => decide (x ≤ y)) else none
theorem pairAt {g1 g2 : Int} {j : Nat} (h : j < 2) : [g1, g2].drop j = (if j = 0 then g1 else g2) :: [g1, g2].drop (j + 1) := by
 rcases (by omega:j=0∨j=1) with rfl | rfl <;> rfl
theorem pairCell {w : World} {b : Nat} {g1 g2 : Int} {t : TypeId} (h : w.heap[b]? = some (.cells #[.int .i64 g1, .int .i64 g2] t (0, 0))) {j : Nat} (hj : j < 2) : w.cell? ⟨b, j, none⟩ = some (.int .i64 (if j = 0 then g1 else g2)) := by
 rcases (by omega:j=0∨j=1) with rfl | rfl
 ·exact (jH h 0).trans rfl
 ·exact (jH h 1).trans rfl
set_option maxHeartbeats 8000000 in
set_option maxRecDepth 100000 in
theorem jSa.calls (k : Nat) (A0 : Option Addr) (c0 : Nat) (l0 : List (S54)) (a1 : Int) (r : List Int) (w : World) (hr0 : Kd.C k54 w A0 l0.length l0) (hc0 : l0.length ≤ c0) (h : jSa.f k l0 a1 = some r) :
  Calls Try.prog 54 #[.agg #[.slice A0 l0.length c0], .int .i64 a1] w fun e w'=>∃ v0_:Value,e=.returned (v0_)∧Kd.R (Kd.int .i64) 3 w' w.heap.size (fun _=>True) v0_ r∧Below w.heap.size w w':=by
 have hu32:=Try.underlying32
 have hu54:=Try.underlying54
 have HRH:=am hr0
 obtain ⟨l,hl,h⟩:=bzS h
 have H':=am hl
 have HZ:=am h
 have HB:=am ((Below.refl w.heap.size w).alloc (Nat.le_refl _) (.cells #[.slice A0 l0.length c0] 32))
 have BH:=am (heap_alloc_new w (.cells #[.slice A0 l0.length c0] 32))
 clear hr0 h hl
 go_enter Try.func54,Try.ntmps54
 go_wp2_with ((with_reducible refine jI (N:=10) rfl ?_);refine Kd.R_lit (Kd.int .i64) _ 3 ?hg (N:=10) ?hd (xs:=[a1]) (inner:=[.int .i64 a1]) (ok:=fun _=>True) (okp:=fun _=>True) ?hr ?hp (fun _ hk=>hk) trivial (Below.refl _ _) (Nat.le_refl _) (by simp) ?_;(case hd=>rfl);(case hg=>rfl);(case hr=>exact Y4);(case hp=>exact (Reps.one (show Kd.M (Kd.int .i64) _ _ _ a1 [.int .i64 a1] from rfl) (Reps.none _ _)));intro v111 w4 ho5 hb hg_ hnew_;clear hg_ hnew_;have n0_:=am (Kd.jea ho5 (jU (bq)));have n1_:=am (jh (g:=w.heap.size) (o:=.cells #[.slice A0 l0.length c0] 32 (0,0)) (by first | exact BH.out |((with_reducible repeat (first | refine je ?_ _ | refine jg ?_ | refine jf ?_ _));exact BH.out)) hb);have n2_:=am (jk (bq) hb);clear HB BH;have HO:=n0_;have BH:=n1_;have HB:=n2_;clear n0_ n1_ n2_ hb ho5)
 go_loopg [5,6] k (fun kq v5 v6 w'=>∃ (i:Nat) (out:List Int),v6=.int .i64 i∧i≤out.length∧jC (rcGo l0 kq i out=some l)∧jC (kq≤k)∧jC (Kd.R (Kd.int .i64) 3 w' w.heap.size (fun _=>True) v5 out)∧jC (w'.heap[w.heap.size]?=some (.cells #[.slice A0 l0.length c0] 32 (0,0)))∧jC (Below w.heap.size w w'))
 case atStart=>exact ⟨0,[a1],rfl,by simp,H',⟨Nat.le_refl _⟩,HO,BH,HB⟩
 case round =>
  clear H' HO BH HB
  obtain ⟨i,out,rfl,hi,HA,HK1,HO,BH,HB⟩:=hrel
  cases gk with
  | zero=>exact absurd HA.out (by simp [rcGo])
  | succ k1 =>
   have H:=HA.out
   clear HA
   rw [rcGo] at H
   obtain ⟨Ao,co,eo⟩:=Kd.jW HO.out
   subst eo
   have hm:out.length≤9223372036854775807:=Kd.C_max (Kd.jw HO.out).2.2
   by_cases hlt:i<out.length
   ·rw [if_pos hlt] at H
    by_cases h0:0≤rd out (i:Int)
    ·rw [if_pos h0] at H
     by_cases h1:rd out (i:Int)<(l0.length:Int)
     ·rw [if_pos h1] at H
      obtain ⟨o2,hA,H⟩:=bzS H
      have HN:=am H
      have HS:=am hA
      clear H hA
      have cH:=rc0 BH.out
      obtain ⟨ad,rfl,hz⟩:=Kd.jcb (Kd.jw HO.out).2.2 (i:Int) (by omega) (by omega)
      rw [Int.toNat_natCast] at hz
      obtain ⟨ad3,e3,y0,y1,y2,y3,y4⟩:=jvb (Kd.jha HRH.out HB.out) (rd out (i:Int)) h0 h1
      cases e3
      have p0:=ezT h0
      have p1:=ezT h1
      clear h0 h1
      generalize hgz:rd out (i:Int)=z at hz y0 y1 y2 y3 y4 p0 p1 HS
      clear hgz
      have hlb:=ezT hlt
      go_wp2
      refine wp_region_held (S:=fun W=>W.cell? ⟨w.heap.size,0,none⟩=some (.slice (some ad3) l0.length c0)∧W.cell? (ad.add i)=some (.int .i64 z)∧W.cell? ⟨(ad3.add (z.toNat * 5)).block,(ad3.add (z.toNat * 5)).off+2,none⟩=some (.int .i64 (ja l0 z).f2)∧W.cell? ⟨(ad3.add (z.toNat * 5)).block,(ad3.add (z.toNat * 5)).off+3,none⟩=some (.int .i64 (ja l0 z).f3)) (by kernel_rfl) ?_
      change wpAnyH _ _ _ _ _ _ _ _ (World.drew _)
      have hS0:(fun W=>W.cell? ⟨w.heap.size,0,none⟩=some (.slice (some ad3) l0.length c0)∧W.cell? (ad.add i)=some (.int .i64 z)∧W.cell? ⟨(ad3.add (z.toNat * 5)).block,(ad3.add (z.toNat * 5)).off+2,none⟩=some (.int .i64 (ja l0 z).f2)∧W.cell? ⟨(ad3.add (z.toNat * 5)).block,(ad3.add (z.toNat * 5)).off+3,none⟩=some (.int .i64 (ja l0 z).f3)) wr.drew:=⟨cH,hz,y2,y3⟩
      have HB2:=am (jv HB.out)
      have BH2:=am (jg BH.out)
      have HO2:=am (Kd.jM HO.out)
      obtain ⟨W2,hW2⟩:∃ W2,W2=wr.drew:=⟨_,rfl⟩
      rw [← hW2] at hS0 HB2 BH2 HO2
      rw [← hW2]
      clear hW2 cH hz y0 y1 y2 y3 y4 HB BH HO
      refine wpAnyH_take (i:=0) (v:=?_) rfl (by kernel_rfl) (by kernel_rfl) (by kernel_rfl) (fun _ _ _ h=>h) (Or.inl ⟨by rfl,?_⟩) hS0 ?_
      rotate_left
      ·rintro W ⟨s1,s2,s3,s4⟩
       go_simp
       with_reducible rfl
      refine wpAnyH_take (i:=1) (v:=?_) rfl (by kernel_rfl) (by kernel_rfl) (by kernel_rfl) (fun _ _ _ h=>h) (Or.inl ⟨by rfl,?_⟩) hS0 ?_
      rotate_left
      ·rintro W ⟨s1,s2,s3,s4⟩
       go_simp
       with_reducible rfl
      refine wpAnyH_take (i:=2) (v:=?_) rfl (by kernel_rfl) (by kernel_rfl) (by kernel_rfl) (fun _ _ _ h=>h) (Or.inl ⟨by rfl,?_⟩) hS0 ?_
      rotate_left
      ·rintro W ⟨s1,s2,s3,s4⟩
       go_simp
       with_reducible rfl
      refine wpAnyH_take (i:=3) (v:=?_) rfl (by kernel_rfl) (by kernel_rfl) (by kernel_rfl) (fun _ _ _ h=>h) (Or.inl ⟨by rfl,?_⟩) hS0 ?_
      rotate_left
      ·rintro W ⟨s1,s2,s3,s4⟩
       go_simp
       with_reducible rfl
      refine wpAnyH_take (i:=4) (v:=?_) rfl (by kernel_rfl) (by kernel_rfl) (by kernel_rfl) (fun _ _ _ h=>h) (Or.inl ⟨by rfl,?_⟩) hS0 ?_
      rotate_left
      ·rintro W ⟨s1,s2,s3,s4⟩
       go_simp
       with_reducible rfl
      refine wpAnyH_take (i:=5) (v:=?_) rfl (by kernel_rfl) (by kernel_rfl) (by kernel_rfl) (fun _ _ _ h=>h) (Or.inl ⟨by rfl,?_⟩) hS0 ?_
      rotate_left
      ·rintro W ⟨s1,s2,s3,s4⟩
       go_simp
       with_reducible rfl
      refine wpAnyH_take (i:=6) (v:=?_) rfl (by kernel_rfl) (by kernel_rfl) (by kernel_rfl) (fun _ _ _ h=>h) (Or.inl ⟨by rfl,?_⟩) hS0 ?_
      rotate_left
      ·rintro W ⟨s1,s2,s3,s4⟩
       go_simp
       with_reducible rfl
      refine wpAnyH_take (i:=7) (v:=?_) rfl (by kernel_rfl) (by kernel_rfl) (by kernel_rfl) (fun _ _ _ h=>h) (Or.inl ⟨by rfl,?_⟩) hS0 ?_
      rotate_left
      ·rintro W ⟨s1,s2,s3,s4⟩
       go_simp
       with_reducible rfl
      refine wpAnyH_take (i:=8) (v:=?_) rfl (by kernel_rfl) (by kernel_rfl) (by kernel_rfl) (fun _ _ _ h=>h) (Or.inl ⟨by rfl,?_⟩) hS0 ?_
      rotate_left
      ·rintro W ⟨s1,s2,s3,s4⟩
       go_simp
       with_reducible rfl
      refine wpAnyH_take (i:=9) (v:=?_) rfl (by kernel_rfl) (by kernel_rfl) (by kernel_rfl) (fun _ _ _ h=>h) (Or.inl ⟨by rfl,?_⟩) hS0 ?_
      rotate_left
      ·rintro W ⟨s1,s2,s3,s4⟩
       go_simp
       with_reducible rfl
      refine wpAnyH_take (i:=10) (v:=?_) rfl (by kernel_rfl) (by kernel_rfl) (by kernel_rfl) (fun _ _ _ h=>h) (Or.inl ⟨by rfl,?_⟩) hS0 ?_
      rotate_left
      ·rintro W ⟨s1,s2,s3,s4⟩
       go_simp
       with_reducible rfl
      refine wpAnyH_take (i:=11) (v:=?_) rfl (by kernel_rfl) (by kernel_rfl) (by kernel_rfl) (fun _ _ _ h=>h) (Or.inl ⟨by rfl,?_⟩) hS0 ?_
      rotate_left
      ·rintro W ⟨s1,s2,s3,s4⟩
       go_simp
       with_reducible rfl
      refine wpAnyH_take (i:=12) (v:=?_) rfl (by kernel_rfl) (by kernel_rfl) (by kernel_rfl) (fun _ _ _ h=>h) (Or.inl ⟨by rfl,?_⟩) hS0 ?_
      rotate_left
      ·rintro W ⟨s1,s2,s3,s4⟩
       go_simp
       with_reducible rfl
      refine wpAnyH_take (i:=13) (v:=?_) rfl (by kernel_rfl) (by kernel_rfl) (by kernel_rfl) (fun _ _ _ h=>h) (Or.inl ⟨by rfl,?_⟩) hS0 ?_
      rotate_left
      ·rintro W ⟨s1,s2,s3,s4⟩
       go_simp
       with_reducible rfl
      refine wpAnyH_take (i:=14) (v:=?_) rfl (by kernel_rfl) (by kernel_rfl) (by kernel_rfl) (fun _ _ _ h=>h) (Or.inl ⟨by rfl,?_⟩) hS0 ?_
      rotate_left
      ·rintro W ⟨s1,s2,s3,s4⟩
       go_simp
       with_reducible rfl
      refine wpAnyH_take (i:=15) (v:=?_) rfl (by kernel_rfl) (by kernel_rfl) (by kernel_rfl) (fun _ _ _ h=>h) (Or.inl ⟨by rfl,?_⟩) hS0 ?_
      rotate_left
      ·rintro W ⟨s1,s2,s3,s4⟩
       go_simp
       with_reducible rfl
      refine wpAnyH_take (i:=16) (v:=?_) rfl (by kernel_rfl) (by kernel_rfl) (by kernel_rfl) (fun _ _ _ h=>h) (Or.inl ⟨by rfl,?_⟩) hS0 ?_
      rotate_left
      ·rintro W ⟨s1,s2,s3,s4⟩
       go_simp
       with_reducible rfl
      refine wpAnyH_take (i:=17) (v:=?_) rfl (by kernel_rfl) (by kernel_rfl) (by kernel_rfl) (fun _ _ _ h=>h) (Or.inl ⟨by rfl,?_⟩) hS0 ?_
      rotate_left
      ·rintro W ⟨s1,s2,s3,s4⟩
       go_simp
       with_reducible rfl
      refine wpAnyH_take (i:=20) (v:=?_) rfl (by kernel_rfl) (by kernel_rfl) (by kernel_rfl) (fun _ _ _ h=>h) (Or.inl ⟨by rfl,?_⟩) hS0 ?_
      rotate_left
      ·rintro W ⟨s1,s2,s3,s4⟩
       go_simp
       with_reducible rfl
      refine wpAnyH_all (rs:=[18]) (by kernel_rfl) (by simp) ?_
      intro ii hii
      obtain rfl:ii=18:=by simpa using hii
      clear hii
      refine wpOp_step rfl (fun K hK=>?_)
      go_simp
      have hS1:=(⟨jya ((Below.refl _ W2).alloc (Nat.le_refl _) (.cells #[.int .i64 (ja l0 z).f2, .int .i64 (ja l0 z).f3] 3)) hS0.1,jya ((Below.refl _ W2).alloc (Nat.le_refl _) (.cells #[.int .i64 (ja l0 z).f2, .int .i64 (ja l0 z).f3] 3)) hS0.2.1,jya ((Below.refl _ W2).alloc (Nat.le_refl _) (.cells #[.int .i64 (ja l0 z).f2, .int .i64 (ja l0 z).f3] 3)) hS0.2.2.1,jya ((Below.refl _ W2).alloc (Nat.le_refl _) (.cells #[.int .i64 (ja l0 z).f2, .int .i64 (ja l0 z).f3] 3)) hS0.2.2.2⟩:(fun W=>W.cell? ⟨w.heap.size,0,none⟩=some (.slice (some ad3) l0.length c0)∧W.cell? (ad.add i)=some (.int .i64 z)∧W.cell? ⟨(ad3.add (z.toNat * 5)).block,(ad3.add (z.toNat * 5)).off+2,none⟩=some (.int .i64 (ja l0 z).f2)∧W.cell? ⟨(ad3.add (z.toNat * 5)).block,(ad3.add (z.toNat * 5)).off+3,none⟩=some (.int .i64 (ja l0 z).f3)) (W2.alloc (.cells #[.int .i64 (ja l0 z).f2, .int .i64 (ja l0 z).f3] 3)))
      refine hK _ _ ⟨hS1,?_⟩
      clear hK K
      refine wpAnyH_all (rs:=[19]) (by kernel_rfl) (by simp) ?_
      intro ii hii
      obtain rfl:ii=19:=by simpa using hii
      clear hii
      refine wpOp_step rfl (fun K hK=>?_)
      go_simp
      refine hK _ _ ⟨hS1,?_⟩
      clear hK K
      refine wpAnyH_done (by kernel_rfl) ?_ _
      have HO:=am (Kd.jO (Kd.jE (Kd.jTb HO2.out) (fun k hk=>Nat.ne_of_lt hk.2.2.1)) (.cells #[.int .i64 (ja l0 z).f2, .int .i64 (ja l0 z).f3] 3))
      have LB:=am (heap_alloc_new W2 (.cells #[.int .i64 (ja l0 z).f2, .int .i64 (ja l0 z).f3] 3))
      have BH:=am (jf BH2.out (.cells #[.int .i64 (ja l0 z).f2, .int .i64 (ja l0 z).f3] 3))
      have HB:=am (jA HB2.out (.cells #[.int .i64 (ja l0 z).f2, .int .i64 (ja l0 z).f3] 3))
      have HLE:=am (Nat.le_refl out.length)
      clear hS0 hS1 HO2 BH2 HB2
      generalize hgl:W2.heap.size=gl at HO LB ⊢
      rename_i K9 hK9
      refine hK9 _ _ ?_
      go_wp2
      go_loopw [5,37] (fun v5 v37 w3=>∃ (j:Nat) (o:List Int),j≤2∧v37=.int .i64 j∧jC (rcAll k1 ([(ja l0 z).f2,(ja l0 z).f3].drop j) o=some o2)∧jC (out.length≤o.length)∧jC (Kd.R (Kd.int .i64) 3 w3 w.heap.size (fun k=>k≠gl) v5 o)∧jC (w3.heap[gl]?=some (.cells #[.int .i64 (ja l0 z).f2, .int .i64 (ja l0 z).f3] 3 (0,0)))∧jC (w3.heap[w.heap.size]?=some (.cells #[.slice (some ad3) l0.length c0] 32 (0,0)))∧jC (Below w.heap.size w w3)) (fun _ v37 _=>2 - (intOf v37).toNat)
      case atStart=>exact ⟨0,out,by omega,rfl,HS,HLE,HO,LB,BH,HB⟩
      case round =>
       clear HS HLE HO LB BH HB hgl
       obtain ⟨j,o,hj,rfl,HS,HLE,HO,LB,BH,HB⟩:=hrel
       obtain ⟨Ao2,co2,eo⟩:=Kd.jW HO.out
       subst eo
       by_cases hj2:j<2
       ·have hS:=HS.out
        rw [pairAt hj2,rcAll] at hS
        have cx:=pairCell LB.out hj2
        generalize (if j=0 then (ja l0 z).f2 else (ja l0 z).f3)=x at hS cx
        obtain ⟨o',hs1,hs2⟩:=bzS hS
        have HR2:=am hs2
        have hjb:=ezT (show (j:Int)<2 by omega)
        clear HS hS hs2
        unfold rcStep at hs1
        by_cases c6:x≥0
        ·rw [if_pos c6] at hs1
         have c6b0:decide (0≤x)=true:=dzT c6
         clear c6
         obtain ⟨b,A70,hs1⟩:=bzS hs1
         have A7:=am A70
         clear A70
         cases b with
         | true =>
          rw [if_pos rfl] at hs1
          obtain rfl:=Option.some.inj hs1
          clear hs1
          go_wp2_with (go_at_call 81;(with_reducible refine (jta.calls k1 _ _ o x true _ ?side1 ?side2 A7.out).mono ?_);(case side1=>exact cq (Kd.jw HO.out).2.2);(case side2=>exact (Kd.jw HO.out).2.1);rintro e w' ⟨rfl,⟨nd,rfl⟩⟩)
          go_roundw
          case rel=>exact ⟨j+1,o,by omega,by go_num,HR2,⟨by have:=HLE.out;omega⟩,⟨rq HO.out⟩,⟨kq LB.out⟩,⟨kq BH.out⟩,⟨(bq)⟩⟩
          case measure=>simp [intOf];omega
         | false =>
          rw [if_neg (by simp)] at hs1
          by_cases c10:o.length<17592186044416
          ·rw [if_pos c10] at hs1
           obtain rfl:=Option.some.inj hs1
           have LM:=am c10
           clear c10 hs1
           go_wp2_with (first |(go_at_call 81;(with_reducible refine (jta.calls k1 _ _ o x false _ ?side1 ?side2 A7.out).mono ?_);(case side1=>exact cq (Kd.jw HO.out).2.2);(case side2=>exact (Kd.jw HO.out).2.1);rintro e w' ⟨rfl,⟨nd,rfl⟩⟩) |((with_reducible refine jJb (b:=.append) (xs:=#[.tmp 49, .tmp 51]) rfl ?_);at_builtin;refine Kd.R_append (Kd.int .i64) (w0:=w) w.heap.size rfl (.tmp 49) (.tmp 51) 45 3 (.int .i64 0) 8 rfl Try.underlying45 info3 rfl (by decide) (by omega) (.slice Ao2 o.length co2) o x [.int .i64 x] (fun k=>k≠gl) (fun _=>False) rfl rfl ?aP (fun _ hk=>hk.elim) ?aF ?aO ?aB ?aS ?aL ?_;(case aP=>exact rfl);(case aB=>exact (bq));(case aF=>intro q hq hqe;have h1:=jca LB.out;subst hqe;simp at hq;omega);(case aO=>exact (rq HO.out));(case aS=>exact (jU (bq)));(case aL=>have:=LM.out;omega);intro v115 w14 ho hb hg hat;have n1_:=am (hb);have n2_:=am (ho);have n3_:=am (jAa (g:=gl) (o:=.cells #[.int .i64 (ja l0 z).f2, .int .i64 (ja l0 z).f3] 3 (0,0)) (kq LB.out) hg (Kd.R_away HO.out (fun q hq=>hq)));have n4_:=am (jAa (g:=w.heap.size) (o:=.cells #[.slice (some ad3) l0.length c0] 32 (0,0)) (kq BH.out) hg (Kd.R_ne HO.out BH.out (by decide)));clear HB HO LB BH;have HB:=n1_;have HO:=n2_;have LB:=n3_;have BH:=n4_;clear n1_ n2_ n3_ n4_ ho hb hg hat))
           go_roundw
           case rel=>exact ⟨j+1,o ++ [x],by omega,by go_num,HR2,⟨by have:=HLE.out;rw [List.length_append];omega⟩,⟨rq HO.out⟩,⟨kq LB.out⟩,⟨kq BH.out⟩,⟨(bq)⟩⟩
           case measure=>simp [intOf];omega
          ·rw [if_neg c10] at hs1;cases hs1
        ·rw [if_neg c6] at hs1
         have c6b0:decide (0≤x)=false:=dzF c6
         obtain rfl:=Option.some.inj hs1
         clear c6 hs1
         go_wp2
         go_roundw
         case rel=>exact ⟨j+1,o,by omega,by go_num,HR2,⟨by have:=HLE.out;omega⟩,⟨rq HO.out⟩,⟨kq LB.out⟩,⟨kq BH.out⟩,⟨(bq)⟩⟩
         case measure=>simp [intOf];omega
       ·obtain rfl:j=2:=by omega
        obtain rfl:=Option.some.inj (show some o=some o2 from HS.out)
        go_wp2
        go_roundg k1
        case measure=>have:=HK1.out;omega
        case rel=>exact ⟨i+1,o,by go_num,by have:=HLE.out;omega,HN,⟨by have:=HK1.out;omega⟩,⟨by (with_reducible repeat (first | apply Kd.jO | apply Kd.jQ | apply Kd.jM));exact Kd.jE HO.out (fun _ _=>trivial)⟩,⟨kq BH.out⟩,⟨(bq)⟩⟩
     ·rw [if_neg h1] at H;cases H
    ·rw [if_neg h0] at H;cases H
   ·rw [if_neg hlt] at H
    obtain rfl:=Option.some.inj H
    have hZ:=HZ.out
    by_cases hz0:0<out.length∧out.length<4611686018427387904
    ·rw [if_pos hz0] at hZ
     obtain rfl:=Option.some.inj hZ
     obtain ⟨g,cap,hv,_,_,_⟩:=Kd.R_form HO.out hz0.1
     injection hv with hA1 hA2 hA3
     subst hA1
     have HSZ:=am hz0.2
     have hlb:=eq_false hlt
     clear H hZ hz0 HZ hA2 hA3
     go_wp2_with (first |(go_at_call 82;refine (slices_Sort_row out w.heap.size (fun _=>True) g co _ (rq HO.out) HSZ.out).mono ?_;rintro e w5 ⟨rfl,hs,hb5⟩;have n0_:=am hs;have n1_:=am (Below.trans (bq) hb5);clear HO HB;have HO:=n0_;have HB:=n1_;clear n0_ n1_ hs hb5) |(go_at_call 83;refine (jPa.calls (fun _=>True) _ (out.mergeSort fun x y=>decide (x≤y)) (out.mergeSort fun x y=>decide (x≤y)) w _ (bq) (rq HO.out) (show jPa.f (out.mergeSort fun x y=>decide (x≤y))=some (out.mergeSort fun x y=>decide (x≤y)) from rfl)).mono ?_;rintro e w9 ⟨v9,rfl,hR9,hB9,hK9⟩))
     go_ret
     exact ⟨_,rfl,Kd.jE hR9 (fun _ _=>trivial),hB9⟩
    ·rw [if_neg hz0] at hZ;cases hZ
def jYa.f (k : Nat) (l0_0 : List (S94)) (l1_0 : List (S54)) (a2 : Int) : Option (List Int) := (jeb.f k l0_0 l1_0 (([a2] : List Int))).bind fun t289 => (if t289 = true then ((jSa.f k l1_0 a2).bind fun t290 => (some t290)) else (some ([] : List Int)))
set_option maxHeartbeats 8000000 in
set_option maxRecDepth 100000 in
theorem jYa.calls (k : Nat) (A0_0 : Option Addr) (c0_0 : Nat) (l0_0 : List (S94)) (A1_0 : Option Addr) (c1_0 : Nat) (l1_0 : List (S54)) (a2 : Int) (r : List Int) (w : World) (hr0_0 : Kd.C k94 w A0_0 l0_0.length l0_0) (hc0_0 : l0_0.length ≤ c0_0) (hr1_0 : Kd.C k54 w A1_0 l1_0.length l1_0) (hc1_0 : l1_0.length ≤ c1_0) (h : jYa.f k l0_0 l1_0 a2 = some r) :
  Calls Try.prog 21 #[.agg #[.slice A0_0 l0_0.length c0_0], .agg #[.slice A1_0 l1_0.length c1_0], .int .i64 a2] w fun e w'=>∃ v0_:Value,e=.returned (v0_)∧Kd.R (Kd.int .i64) 3 w' w.heap.size (fun _=>True) v0_ r∧Below w.heap.size w w':=by
 have hu37:=Try.underlying37
 have hu32:=Try.underlying32
 have HR0_0:=am hr0_0
 have HC0_0:=am hc0_0
 clear hr0_0 hc0_0
 have HR1_0:=am hr1_0
 have HC1_0:=am hc1_0
 clear hr1_0 hc1_0
 have HB:=am (Below.refl w.heap.size w)
 have H:((jeb.f k l0_0 l1_0 (([a2]:List Int))).bind fun t289=>(if t289=true then ((jSa.f k l1_0 a2).bind fun t290=>(some t290)) else (some ([]:List Int))))=some r:=h
 clear h
 obtain ⟨y286,hy286⟩:∃ y_:List Int,y_=(([a2]:List Int)):=⟨_,rfl⟩
 replace H:((jeb.f k l0_0 l1_0 y286).bind fun t289=>(if t289=true then ((jSa.f k l1_0 a2).bind fun t290=>(some t290)) else (some ([]:List Int))))=some r:=by first |(rw [hy286];with_reducible exact H) |(have H2_:=(Option.bind_some _ _).symm.trans H;rw [hy286];with_reducible exact H2_) |(have H2_:=(Option.bind_some _ _).symm.trans H;with_reducible exact H2_) | with_reducible exact H |(rw [hy286];exact H) | exact H
 have Ny286:=am hy286
 clear hy286
 replace H:=bzS H
 obtain ⟨t289,A40,H⟩:=H
 replace H:(if t289=true then ((jSa.f k l1_0 a2).bind fun t290=>(some t290)) else (some ([]:List Int)))=some r:=H
 have A4:=am A40
 clear A40
 by_cases c5:t289=true
 ·subst c5
  have H1:((jSa.f k l1_0 a2).bind fun t290=>(some t290))=some r:=by rw [if_pos rfl] at H;exact H
  clear H
  have H:=H1
  clear H1
  replace H:=bzS H
  obtain ⟨t290,A60,H⟩:=H
  replace H:(some t290)=some r:=H
  have A6:=am A60
  clear A60
  obtain rfl:=Option.some.inj H
  go_enter Try.func21,Try.ntmps21
  go_wp2_with (first |((with_reducible refine jI (N:=3) rfl ?_);refine bE (N:=3) (cs:=#[.slice A0_0 l0_0.length c0_0]) (t:=37) ?_;intro gb284 hg w7 hbox hb;have BK284:=am (hbox);have GW284:=am ((Y2:w.heap.size≤gb284));have GE284:=am ((Y2:w.heap.size≤gb284));replace HB:=am (jk (bq) hb);clear hb hbox hg) |((with_reducible refine jI (N:=4) rfl ?_);refine bE (N:=4) (cs:=#[.slice A1_0 l1_0.length c1_0]) (t:=32) ?_;intro gb285 hg w8 hbox hb;have BK285:=am (hbox);have GW285:=am ((Y99:w.heap.size≤gb285));have GE285:=am ((Y99:w.heap.size≤gb285));have NB284_285:=am ((by rw [hg];exact Nat.ne_of_lt (jca (g:=gb284) (o:=.cells #[.slice A0_0 l0_0.length c0_0] 37 (0,0)) (kq BK284.out)):gb284≠gb285));have NB285_284:=am ((by rw [hg];exact Nat.ne_of_gt (jca (g:=gb284) (o:=.cells #[.slice A0_0 l0_0.length c0_0] 37 (0,0)) (kq BK284.out)):gb285≠gb284));replace BK284:=am (jh (g:=gb284) (o:=.cells #[.slice A0_0 l0_0.length c0_0] 37 (0,0)) (kq BK284.out) hb);replace HB:=am (jk (Y136) hb);clear hb hbox hg;have hnb9:=NB284_285.out;have hnc9:=NB285_284.out;have hcz10_0:=bc0 BK284.out;have hfz10_0:=jc BK284.out 0;have hcz11_0:=bc0 BK285.out;have hfz11_0:=jc BK285.out 0) |((with_reducible refine jI (N:=10) rfl ?_);refine Kd.R_lit (Kd.int .i64) _ 3 ?hg (N:=10) ?hd (xs:=([a2]:List Int)) (inner:=[.int .i64 a2]) (ok:=fun _=>True) (okp:=fun _=>True) ?hr ?hp (fun _ hk=>hk) trivial (Below.refl _ _) (Nat.le_refl _) (by simp) ?_;(case hd=>rfl);(case hg=>rfl);(case hr=>exact Y4);(case hp=>exact (Reps.one (show Kd.M (Kd.int .i64) _ _ _ a2 [.int .i64 a2] from rfl) (Reps.none _ _)));intro v287 w12 ho13 hb hg_ hnew_;clear hg_ hnew_;(first | rw [← Ny286.out] at ho13 |(simp only [Int.reduceToNat] at ho13;rw [← Ny286.out] at ho13));have HO288:=am (Kd.jea ho13 (jU (Y42)));replace BK284:=am (jh (g:=gb284) (o:=.cells #[.slice A0_0 l0_0.length c0_0] 37 (0,0)) (kq BK284.out) hb);replace BK285:=am (jh (g:=gb285) (o:=.cells #[.slice A1_0 l1_0.length c1_0] 32 (0,0)) (kq BK285.out) hb);replace HB:=am (jk (Y42) hb);clear hb ho13;obtain ⟨Ao14,co14,eo14⟩:=Kd.jW HO288.out;subst eo14) |((with_reducible refine jB (f:=45) rfl ?_);refine gL (some 11) Try.func45 #[.agg #[.slice A0_0 l0_0.length c0_0], .agg #[.slice A1_0 l1_0.length c1_0], .slice Ao14 y286.length co14] ?_;(with_reducible refine (jeb.calls k _ _ l0_0 _ _ l1_0 _ _ y286 true _ ?side1 ?side2 ?side3 ?side4 ?side5 ?side6 A4.out).mono ?_);(case side1=>exact cq (Kd.jha HR0_0.out HB.out));(case side2=>exact HC0_0.out);(case side3=>exact cq (Kd.jha HR1_0.out HB.out));(case side4=>exact HC1_0.out);(case side5=>exact cq (Kd.jw HO288.out).2.2);(case side6=>exact (Kd.jw HO288.out).2.1);rintro e w15 ⟨rfl,hb⟩;refine ⟨_,rfl,?_⟩;replace HO288:=am (Kd.jaa (rq HO288.out) hb);replace BK284:=am (jh (g:=gb284) (o:=.cells #[.slice A0_0 l0_0.length c0_0] 37 (0,0)) (kq BK284.out) hb);replace BK285:=am (jh (g:=gb285) (o:=.cells #[.slice A1_0 l1_0.length c1_0] 32 (0,0)) (kq BK285.out) hb);replace HB:=am (jk (Y42) hb);(try clear hb);(try clear hb2);(try clear hk);(try clear hi);have hcz16_0:=bc0 BK285.out;have hfz16_0:=jc BK285.out 0) |((with_reducible refine jB (f:=54) rfl ?_);refine gL (some 15) Try.func54 #[.agg #[.slice A1_0 l1_0.length c1_0], .int .i64 a2] ?_;(with_reducible refine (jSa.calls k _ _ l1_0 a2 t290 _ ?side1 ?side2 A6.out).mono ?_);(case side1=>exact cq (Kd.jha HR1_0.out HB.out));(case side2=>exact HC1_0.out);rintro e w17 ⟨v291,rfl,ho0,hb⟩;refine ⟨_,rfl,?_⟩;have HO292:=am (Kd.jea (Kd.R_new' ho0 (Kd.R_lt (rq HO288.out))) (jU (Y42)));replace HO288:=am (Kd.jdc (rq HO288.out) (Kd.R_base ho0) hb);replace BK284:=am (jh (g:=gb284) (o:=.cells #[.slice A0_0 l0_0.length c0_0] 37 (0,0)) (kq BK284.out) hb);replace BK285:=am (jh (g:=gb285) (o:=.cells #[.slice A1_0 l1_0.length c1_0] 32 (0,0)) (kq BK285.out) hb);replace HB:=am (jk (Y42) hb);(try clear hb);(try clear hb2);(try clear hk);(try clear hi);(try clear ho0)))
  go_ret
  exact ⟨_,Y1,by (with_reducible repeat (first | apply Kd.jO | apply Kd.jQ | apply Kd.jM));exact Kd.jE HO292.out (fun _ hk=>trivial),Y42⟩
 ·replace c5:=Bool.eq_false_iff.mpr c5
  subst c5
  have H1:(some ([]:List Int))=some r:=by rw [if_neg (show ¬ (false=true) by decide)] at H;exact H
  clear H
  have H:=H1
  clear H1
  obtain rfl:=Option.some.inj H
  go_enter Try.func21,Try.ntmps21
  go_wp2_with (first |((with_reducible refine jI (N:=3) rfl ?_);refine bE (N:=3) (cs:=#[.slice A0_0 l0_0.length c0_0]) (t:=37) ?_;intro gb284 hg w18 hbox hb;have BK284:=am (hbox);have GW284:=am ((Y2:w.heap.size≤gb284));have GE284:=am ((Y2:w.heap.size≤gb284));replace HB:=am (jk (bq) hb);clear hb hbox hg) |((with_reducible refine jI (N:=4) rfl ?_);refine bE (N:=4) (cs:=#[.slice A1_0 l1_0.length c1_0]) (t:=32) ?_;intro gb285 hg w19 hbox hb;have BK285:=am (hbox);have GW285:=am ((Y99:w.heap.size≤gb285));have GE285:=am ((Y99:w.heap.size≤gb285));have NB284_285:=am ((by rw [hg];exact Nat.ne_of_lt (jca (g:=gb284) (o:=.cells #[.slice A0_0 l0_0.length c0_0] 37 (0,0)) (kq BK284.out)):gb284≠gb285));have NB285_284:=am ((by rw [hg];exact Nat.ne_of_gt (jca (g:=gb284) (o:=.cells #[.slice A0_0 l0_0.length c0_0] 37 (0,0)) (kq BK284.out)):gb285≠gb284));replace BK284:=am (jh (g:=gb284) (o:=.cells #[.slice A0_0 l0_0.length c0_0] 37 (0,0)) (kq BK284.out) hb);replace HB:=am (jk (Y136) hb);clear hb hbox hg;have hnb20:=NB284_285.out;have hnc20:=NB285_284.out;have hcz21_0:=bc0 BK284.out;have hfz21_0:=jc BK284.out 0;have hcz22_0:=bc0 BK285.out;have hfz22_0:=jc BK285.out 0) |((with_reducible refine jI (N:=10) rfl ?_);refine Kd.R_lit (Kd.int .i64) _ 3 ?hg (N:=10) ?hd (xs:=([a2]:List Int)) (inner:=[.int .i64 a2]) (ok:=fun _=>True) (okp:=fun _=>True) ?hr ?hp (fun _ hk=>hk) trivial (Below.refl _ _) (Nat.le_refl _) (by simp) ?_;(case hd=>rfl);(case hg=>rfl);(case hr=>exact Y4);(case hp=>exact (Reps.one (show Kd.M (Kd.int .i64) _ _ _ a2 [.int .i64 a2] from rfl) (Reps.none _ _)));intro v287 w23 ho24 hb hg_ hnew_;clear hg_ hnew_;(first | rw [← Ny286.out] at ho24 |(simp only [Int.reduceToNat] at ho24;rw [← Ny286.out] at ho24));have HO288:=am (Kd.jea ho24 (jU (Y42)));replace BK284:=am (jh (g:=gb284) (o:=.cells #[.slice A0_0 l0_0.length c0_0] 37 (0,0)) (kq BK284.out) hb);replace BK285:=am (jh (g:=gb285) (o:=.cells #[.slice A1_0 l1_0.length c1_0] 32 (0,0)) (kq BK285.out) hb);replace HB:=am (jk (Y42) hb);clear hb ho24;obtain ⟨Ao25,co25,eo25⟩:=Kd.jW HO288.out;subst eo25) |((with_reducible refine jB (f:=45) rfl ?_);refine gL (some 11) Try.func45 #[.agg #[.slice A0_0 l0_0.length c0_0], .agg #[.slice A1_0 l1_0.length c1_0], .slice Ao25 y286.length co25] ?_;(with_reducible refine (jeb.calls k _ _ l0_0 _ _ l1_0 _ _ y286 false _ ?side1 ?side2 ?side3 ?side4 ?side5 ?side6 A4.out).mono ?_);(case side1=>exact cq (Kd.jha HR0_0.out HB.out));(case side2=>exact HC0_0.out);(case side3=>exact cq (Kd.jha HR1_0.out HB.out));(case side4=>exact HC1_0.out);(case side5=>exact cq (Kd.jw HO288.out).2.2);(case side6=>exact (Kd.jw HO288.out).2.1);rintro e w26 ⟨rfl,hb⟩;refine ⟨_,rfl,?_⟩;replace HO288:=am (Kd.jaa (rq HO288.out) hb);replace BK284:=am (jh (g:=gb284) (o:=.cells #[.slice A0_0 l0_0.length c0_0] 37 (0,0)) (kq BK284.out) hb);replace BK285:=am (jh (g:=gb285) (o:=.cells #[.slice A1_0 l1_0.length c1_0] 32 (0,0)) (kq BK285.out) hb);replace HB:=am (jk (Y42) hb);(try clear hb);(try clear hb2);(try clear hk);(try clear hi)))
  go_ret
  exact ⟨_,Y1,Y117,Y42⟩
def jfa.l0 : Nat → List Int → List Int → Int → Option (Bool)
 | 0,_,_,_=>none
 | k+1,x0,x1,x5=>if x5<(x0.length:Int) then (if 0≤x5 then (if x5<(x1.length:Int) then (if (rd x0 x5)=(rd x1 x5) then (jfa.l0 k x0 x1 (wrap64 (x5+1))) else (some false)) else (none)) else (none)) else (some true)
def jfa.f (k : Nat) (l0 : List Int) (l1 : List Int) : Option (Bool) := if (l0.length : Int) = (l1.length : Int) then (jfa.l0 k l0 l1 0) else (some false)
set_option maxHeartbeats 8000000 in
set_option maxRecDepth 100000 in
theorem jfa.calls (k : Nat) (A0 : Option Addr) (c0 : Nat) (l0 : List Int) (A1 : Option Addr) (c1 : Nat) (l1 : List Int) (r : Bool) (w : World) (hr0 : Kd.C (Kd.int .i64) w A0 l0.length l0) (hc0 : l0.length ≤ c0) (hr1 : Kd.C (Kd.int .i64) w A1 l1.length l1) (hc1 : l1.length ≤ c1) (h : jfa.f k l0 l1 = some r) :
  Calls Try.prog 27 #[.slice A0 l0.length c0, .slice A1 l1.length c1] w fun e w'=>e=.returned (.bool r)∧jgb w w':=by
 have HR0:=am hr0
 have HC0:=am hc0
 clear hr0 hc0
 have HR1:=am hr1
 have HC1:=am hc1
 clear hr1 hc1
 have H:(if (l0.length:Int)=(l1.length:Int) then (jfa.l0 k l0 l1 0) else (some false))=some r:=h
 clear h
 by_cases c3:(l0.length:Int)=(l1.length:Int)
 ·rw [if_pos c3] at H
  have c3b0:((l0.length:Int) == (l1.length:Int))=true:=beq_iff_eq.mpr c3
  have c3b1:((l0.length:Int) != (l1.length:Int))=false:=bne_eq_false_iff_eq.mpr c3
  have c3b2:(l0.length == l1.length)=true:=by first | simpa using c3 |(simp at c3 ⊢;omega)
  clear c3
  have H':=am H
  clear H
  go_enter Try.func27,Try.ntmps27
  go_wp2
  repeat (go_quiet (fail);try go_wp2)
  go_loopg [5] k (fun kq v5 w'=>∃ (x5_1:Int),v5=.int .i64 x5_1∧jC (jfa.l0 kq l0 l1 x5_1=some r)∧jC (kq≤k)∧jgb w w')
  case atStart=>exact ⟨(0),(sq),H',⟨Nat.le_refl _⟩,Y5⟩
  case round =>
   clear H'
   try clear c1
   try clear c2
   try clear p2
   try clear c3
   try clear c3b0
   try clear c3b1
   try clear c3b2
   obtain ⟨x5_1,rfl,HA,HK1,⟨m1,rfl⟩⟩:=hrel
   cases gk with
   | zero=>exact absurd HA.out (by simp [jfa.l0])
   | succ k1 =>
    have H:=HA.out
    clear HA
    simp only [jfa.l0] at H
    by_cases c4:x5_1<(l0.length:Int)
    ·rw [if_pos c4] at H
     have c4b0:decide (x5_1<(l0.length:Int))=true:=dzT c4
     clear c4
     by_cases c5:0≤x5_1
     ·rw [if_pos c5] at H
      have c5b0:decide (0≤x5_1)=true:=dzT c5
      clear c5
      by_cases c6:x5_1<(l1.length:Int)
      ·rw [if_pos c6] at H
       have c6b0:decide (x5_1<(l1.length:Int))=true:=dzT c6
       clear c6
       by_cases c7:(rd l0 x5_1)=(rd l1 x5_1)
       ·rw [if_pos c7] at H
        have c7b0:((rd l0 x5_1) == (rd l1 x5_1))=true:=beq_iff_eq.mpr c7
        have c7b1:((rd l0 x5_1) != (rd l1 x5_1))=false:=bne_eq_false_iff_eq.mpr c7
        clear c7
        have H':=am H
        clear H
        have p293:0≤(x5_1:Int):=ozD (uq)
        have q293:x5_1<(l0.length:Int):=ozD (uq)
        obtain ⟨ad293,e293,hx293_0⟩:=Kd.jcb HR0.out x5_1 p293 q293
        cases e293
        replace p293:=ezT p293
        replace q293:=ezT q293
        have p294:0≤(x5_1:Int):=ozD (uq)
        have q294:x5_1<(l1.length:Int):=ozD (uq)
        obtain ⟨ad294,e294,hx294_0⟩:=Kd.jcb HR1.out x5_1 p294 q294
        cases e294
        replace p294:=ezT p294
        replace q294:=ezT q294
        go_wp2
        repeat (go_quiet (fail);try go_wp2)
        go_roundg k1
        case measure=>have:=HK1.out;omega
        case rel=>exact ⟨(wrap64 (x5_1+1)),(sq),H',⟨by have:=HK1.out;omega⟩,Y5⟩
       ·rw [if_neg c7] at H
        have c7b0:((rd l0 x5_1) == (rd l1 x5_1))=false:=beq_eq_false_iff_ne.mpr c7
        have c7b1:((rd l0 x5_1) != (rd l1 x5_1))=true:=bne_iff_ne.mpr c7
        obtain rfl:=Option.some.inj H
        have p293:0≤(x5_1:Int):=ozD (uq)
        have q293:x5_1<(l0.length:Int):=ozD (uq)
        obtain ⟨ad293,e293,hx293_0⟩:=Kd.jcb HR0.out x5_1 p293 q293
        cases e293
        replace p293:=ezT p293
        replace q293:=ezT q293
        have p294:0≤(x5_1:Int):=ozD (uq)
        have q294:x5_1<(l1.length:Int):=ozD (uq)
        obtain ⟨ad294,e294,hx294_0⟩:=Kd.jcb HR1.out x5_1 p294 q294
        cases e294
        replace p294:=ezT p294
        replace q294:=ezT q294
        go_wp2
        repeat (go_quiet (fail);try go_wp2)
        go_ret
        exact ⟨sq,Y5⟩
      ·rw [if_neg c6] at H
       exact absurd H (by simp)
     ·rw [if_neg c5] at H
      exact absurd H (by simp)
    ·rw [if_neg c4] at H
     have c4b0:decide (x5_1<(l0.length:Int))=false:=dzF c4
     clear c4
     obtain rfl:=Option.some.inj H
     go_wp2
     repeat (go_quiet (fail);try go_wp2)
     go_ret
     exact ⟨sq,Y5⟩
 ·rw [if_neg c3] at H
  have c3b0:((l0.length:Int) == (l1.length:Int))=false:=beq_eq_false_iff_ne.mpr c3
  have c3b1:((l0.length:Int) != (l1.length:Int))=true:=bne_iff_ne.mpr c3
  have c3b2:(l0.length == l1.length)=false:=by first | simpa using c3 |(simp at c3 ⊢;omega)
  obtain rfl:=Option.some.inj H
  go_enter Try.func27,Try.ntmps27
  go_wp2
  repeat (go_quiet (fail);try go_wp2)
  go_ret
  exact ⟨sq,Y5⟩
def jBa.l0 : Nat → List Int → Int → Int → Option (Bool)
 | 0,_,_,_=>none
 | k+1,x0,x1,x5=>if x5<(x0.length:Int) then (if 0≤x5 then (if (rd x0 x5)=x1 then (some true) else (jBa.l0 k x0 x1 (wrap64 (x5+1)))) else (none)) else (some false)
def jBa.f (k : Nat) (l0 : List Int) (a1 : Int) : Option (Bool) := jBa.l0 k l0 a1 0
set_option maxHeartbeats 8000000 in
set_option maxRecDepth 100000 in
theorem jBa.calls (k : Nat) (A0 : Option Addr) (c0 : Nat) (l0 : List Int) (a1 : Int) (r : Bool) (w : World) (hr0 : Kd.C (Kd.int .i64) w A0 l0.length l0) (hc0 : l0.length ≤ c0) (h : jBa.f k l0 a1 = some r) :
  Calls Try.prog 29 #[.slice A0 l0.length c0, .int .i64 a1] w fun e w'=>e=.returned (.bool r)∧jgb w w':=by
 have HR0:=am hr0
 have HC0:=am hc0
 clear hr0 hc0
 have H:(jBa.l0 k l0 a1 0)=some r:=h
 clear h
 have H':=am H
 clear H
 go_enter Try.func29,Try.ntmps29
 go_wp2
 go_loopg [5] k (fun kq v5 w'=>∃ (x5_1:Int),v5=.int .i64 x5_1∧jC (jBa.l0 kq l0 a1 x5_1=some r)∧jC (kq≤k)∧jgb w w')
 case atStart=>exact ⟨(0),(sq),H',⟨Nat.le_refl _⟩,Y5⟩
 case round =>
  clear H'
  try clear c2
  try clear p2
  obtain ⟨x5_1,rfl,HA,HK1,⟨m1,rfl⟩⟩:=hrel
  cases gk with
  | zero=>exact absurd HA.out (by simp [jBa.l0])
  | succ k1 =>
   have H:=HA.out
   clear HA
   simp only [jBa.l0] at H
   by_cases c3:x5_1<(l0.length:Int)
   ·rw [if_pos c3] at H
    have c3b0:decide (x5_1<(l0.length:Int))=true:=dzT c3
    clear c3
    by_cases c4:0≤x5_1
    ·rw [if_pos c4] at H
     have c4b0:decide (0≤x5_1)=true:=dzT c4
     clear c4
     by_cases c5:(rd l0 x5_1)=a1
     ·rw [if_pos c5] at H
      have c5b0:((rd l0 x5_1) == a1)=true:=beq_iff_eq.mpr c5
      have c5b1:((rd l0 x5_1) != a1)=false:=bne_eq_false_iff_eq.mpr c5
      clear c5
      obtain rfl:=Option.some.inj H
      have p295:0≤(x5_1:Int):=ozD (uq)
      have q295:x5_1<(l0.length:Int):=ozD (uq)
      obtain ⟨ad295,e295,hx295_0⟩:=Kd.jcb HR0.out x5_1 p295 q295
      cases e295
      replace p295:=ezT p295
      replace q295:=ezT q295
      go_wp2
      go_ret
      exact ⟨sq,Y5⟩
     ·rw [if_neg c5] at H
      have c5b0:((rd l0 x5_1) == a1)=false:=beq_eq_false_iff_ne.mpr c5
      have c5b1:((rd l0 x5_1) != a1)=true:=bne_iff_ne.mpr c5
      have H':=am H
      clear H
      have p295:0≤(x5_1:Int):=ozD (uq)
      have q295:x5_1<(l0.length:Int):=ozD (uq)
      obtain ⟨ad295,e295,hx295_0⟩:=Kd.jcb HR0.out x5_1 p295 q295
      cases e295
      replace p295:=ezT p295
      replace q295:=ezT q295
      go_wp2
      go_roundg k1
      case measure=>have:=HK1.out;omega
      case rel=>exact ⟨(wrap64 (x5_1+1)),(sq),H',⟨by have:=HK1.out;omega⟩,Y5⟩
    ·rw [if_neg c4] at H
     exact absurd H (by simp)
   ·rw [if_neg c3] at H
    have c3b0:decide (x5_1<(l0.length:Int))=false:=dzF c3
    clear c3
    obtain rfl:=Option.some.inj H
    go_wp2
    go_ret
    exact ⟨sq,Y5⟩
def jb (w0 W : World) (g : Nat) (f0 : List Int) (f1 : Int) : Prop := ∃ A0 c0, W.heap[g]? = some (.cells #[.slice A0 f0.length c0, .int .i64 f1] 106 (0, 0)) ∧ w0.heap.size ≤ g ∧ Kd.C (Kd.int .u8) w0 A0 f0.length f0
theorem jb.grown {w0 W : World} {g : Nat} {f0 : List Int} {f1 : Int} {W1 : World} {row : Option Nat} (h : jb w0 W g f0 f1) (hw : W.grownBy W1 row) (hne : some g ≠ row) : jb w0 W1 g f0 f1 := by
 obtain ⟨A0,c0,hb,hg,hr0⟩:=h
 exact ⟨A0,c0,jAa hb hw hne,hg,hr0⟩
theorem jb.kept {w0 W : World} {g : Nat} {f0 : List Int} {f1 : Int} {W1 : World} {S : Nat → Prop} (h : jb w0 W g f0 f1) (hk : Kept W W1 S) (hne : ¬ S g) : jb w0 W1 g f0 f1 := by
 obtain ⟨A0,c0,hb,hg,hr0⟩:=h
 exact ⟨A0,c0,blk_kept hb hk hne,hg,hr0⟩
theorem jb.below {w0 W : World} {g : Nat} {f0 : List Int} {f1 : Int} {W1 : World} (h : jb w0 W g f0 f1) (hw : Below W.heap.size W W1) : jb w0 W1 g f0 f1 := h.grown (grown_of_below hw none) (by simp)
theorem jb.alloc {w0 W : World} {g : Nat} {f0 : List Int} {f1 : Int} (h : jb w0 W g f0 f1) (o : Obj) : jb w0 (W.alloc o) g f0 f1 := h.below (jA (Below.refl _ _) o)
theorem jb.drewN {w0 W : World} {g : Nat} {f0 : List Int} {f1 : Int} (h : jb w0 W g f0 f1) (m : Nat) : jb w0 (W.drewN m) g f0 f1 := h
theorem jb.drew {w0 W : World} {g : Nat} {f0 : List Int} {f1 : Int} (h : jb w0 W g f0 f1) : jb w0 W.drew g f0 f1 := h
theorem jb.at_ {w0 W : World} {g : Nat} {f0 : List Int} {f1 : Int} {w' : World} {m : Nat} (hq : W.drewN m = w') (h : jb w0 W g f0 f1) : jb w0 w' g f0 f1 := by subst hq; exact jb.drewN h m
theorem jb.apart {w0 W : World} {g : Nat} {f0 : List Int} {f1 : Int} {α : Type} {d : Kd α} {e : Nat} {base : Nat} {ok : Nat → Prop} {v : Value} {xs : List α} (h : jb w0 W g f0 f1) (ho : d.R e W base ok v xs) (ht : ∀ q, q ∈ e :: d.E → q ≠ 106) : d.R e W base (fun k => ok k ∧ k ≠ g) v xs := by
 obtain ⟨A0,c0,hb,hg,hr0⟩:=h
 exact Kd.jN ho hb ht
theorem jb.own_ne {w0 W : World} {g : Nat} {f0 : List Int} {f1 : Int} {α : Type} {d : Kd α} {e : Nat} {base : Nat} {ok : Nat → Prop} {v : Value} {xs : List α} (h : jb w0 W g f0 f1) (ho : d.R e W base ok v xs) (ht : e ≠ 106) : some g ≠ v.ownBlock := by
 obtain ⟨A0,c0,hb,hg,hr0⟩:=h
 exact Kd.R_ne ho hb ht
theorem jb.lt {w0 W : World} {g : Nat} {f0 : List Int} {f1 : Int} (h : jb w0 W g f0 f1) : g < W.heap.size := by
 obtain ⟨A0,c0,hb,hg,hr0⟩:=h
 exact jca hb
theorem jb.ge {w0 W : World} {g : Nat} {f0 : List Int} {f1 : Int} (h : jb w0 W g f0 f1) : w0.heap.size ≤ g := by
 obtain ⟨A0,c0,hb,hg,hr0⟩:=h
 exact hg
theorem jb.ne_blk {w0 W : World} {g : Nat} {f0 : List Int} {f1 : Int} {a : Nat} {cs : Array Value} {t : TypeId} {fr : Nat × Nat} (h : jb w0 W g f0 f1) (hb2 : W.heap[a]? = some (.cells cs t fr)) (ht : t ≠ 106) : g ≠ a := by
 obtain ⟨A0,c0,hb,hg,hr0⟩:=h
 rintro rfl
 rw [hb] at hb2
 injection hb2 with hb2
 injection hb2 with _ ht2
 exact ht ht2.symm
theorem jb.far {w0 W : World} {g : Nat} {f0 : List Int} {f1 : Int} {p : Addr} (h : jb w0 W g f0 f1) (hne : g ≠ p.block) (u : Value) : jb w0 (W.setCell p u) g f0 f1 := by
 obtain ⟨A0,c0,hb,hg,hr0⟩:=h
 exact ⟨A0,c0,jJ hb hne u,hg,hr0⟩
theorem cellS106_0 {W : World} {g : Nat} {A0 : Option Addr} {c0 : Nat} {f0 : List Int} {f1 : Int} (h : W.heap[g]? = some (.cells #[.slice A0 f0.length c0, .int .i64 f1] 106 (0, 0))) : W.cell? ⟨g, 0, none⟩ = some (.slice A0 f0.length c0) := (jH h 0).trans rfl
theorem cellS106_1 {W : World} {g : Nat} {A0 : Option Addr} {c0 : Nat} {f0 : List Int} {f1 : Int} (h : W.heap[g]? = some (.cells #[.slice A0 f0.length c0, .int .i64 f1] 106 (0, 0))) : W.cell? ⟨g, 1, none⟩ = some (.int .i64 f1) := (jH h 1).trans rfl
theorem jb.jhb {w0 W : World} {g : Nat} {f0 : List Int} {f1 : Int} (h : jb w0 W g f0 f1) (x : Int) : jb w0 (W.setCell ⟨g, 1, none⟩ (.int .i64 x)) g f0 x := by
 obtain ⟨A0,c0,hb,hg,hr0⟩:=h
 exact ⟨A0,c0,by simpa using blk_set hb 1 (.int .i64 x),hg,hr0⟩
def jl.j0 : Nat → Int → Bool → List Int → Int → Option (Int × Int)
 | 0,_,_,_,_=>none
 | k+1,x1,x24,x1000,x1001=>if x24=true then (some (0,x1001)) else (if (wrap64 (x1001 - 1))<(x1000.length:Int) then (if 0≤(wrap64 (x1001 - 1)) then (if x1=0 then (none) else (some (Int.tmod (wrap64 (rd x1000 (wrap64 (x1001 - 1)))) x1,x1001))) else (none)) else (if (x1000.length:Int)=0 then (none) else (if 0≤(Int.tmod (wrap64 (x1001 - 1)) (x1000.length:Int)) then (if (Int.tmod (wrap64 (x1001 - 1)) (x1000.length:Int))<(x1000.length:Int) then (if 0≤(Int.tmod (wrap64 ((wrap64 ((wrap64 (x1001 - 1)) * 7))+3)) (x1000.length:Int)) then (if (Int.tmod (wrap64 ((wrap64 ((wrap64 (x1001 - 1)) * 7))+3)) (x1000.length:Int))<(x1000.length:Int) then (if x1=0 then (none) else (some (Int.tmod (Go.bits .xor .i64 (wrap64 ((wrap64 ((wrap64 ((wrap64 ((wrap64 (rd x1000 (Int.tmod (wrap64 (x1001 - 1)) (x1000.length:Int)))) * 131))+(wrap64 ((wrap64 (rd x1000 (Int.tmod (wrap64 ((wrap64 ((wrap64 (x1001 - 1)) * 7))+3)) (x1000.length:Int)))) * 1117))))+(wrap64 ((wrap64 (x1001 - 1)) * 29))))+(wrap64 ((wrap64 (Int.tdiv (wrap64 (x1001 - 1)) (x1000.length:Int))) * 53)))) (wrap64 (Int.tdiv (wrap64 ((wrap64 ((wrap64 ((wrap64 ((wrap64 (rd x1000 (Int.tmod (wrap64 (x1001 - 1)) (x1000.length:Int)))) * 131))+(wrap64 ((wrap64 (rd x1000 (Int.tmod (wrap64 ((wrap64 ((wrap64 (x1001 - 1)) * 7))+3)) (x1000.length:Int)))) * 1117))))+(wrap64 ((wrap64 (x1001 - 1)) * 29))))+(wrap64 ((wrap64 (Int.tdiv (wrap64 (x1001 - 1)) (x1000.length:Int))) * 53)))) 64))) x1,x1001))) else (none)) else (none)) else (none)) else (none))))
def jl.f (k : Nat) (s0_0 : List Int) (s0_1 : Int) (a1 : Int) : Option (Int × Int) := if a1 < 1 then (jl.j0 k a1 true s0_0 (wrap64 (s0_1 + 1))) else (jl.j0 k a1 ((s0_0.length : Int) == 0) s0_0 (wrap64 (s0_1 + 1)))
set_option maxHeartbeats 8000000 in
set_option maxRecDepth 100000 in
theorem jl.calls (k : Nat) (g : Nat) (s0_0 : List Int) (s0_1 : Int) (a1 : Int) (r1 : Int) (r2 : Int) (w0 w : World) (hI : jb w0 w g s0_0 s0_1) (hB : Below w0.heap.size w0 w) (h : jl.f k s0_0 s0_1 a1 = some (r1, r2)) :
  Calls Try.prog 88 #[.pointer (some ⟨g,0,none⟩), .int .i64 a1] w fun e w'=>e=.returned (.int .i64 r1)∧jb w0 w' g s0_0 r2∧Below w0.heap.size w0 w'∧jd w w' g none:=by
 have HI0:=am hI
 have HK:=am (jd.refl w g none)
 have HL:=am hB.size
 clear hI
 have HW0:=am hB.size
 have HB:=am hB
 clear hB
 have H:(if a1<1 then (jl.j0 k a1 true s0_0 (wrap64 (s0_1+1))) else (jl.j0 k a1 ((s0_0.length:Int) == 0) s0_0 (wrap64 (s0_1+1))))=some (r1,r2):=h
 clear h
 have HC3:=am H
 clear H
 obtain ⟨ASz4_0,cSz4_0,HGz4,hgz4,HSz4_0⟩:=HI0.out
 have hcz4_0:=cellS106_0 HGz4
 have hcz4_1:=cellS106_1 HGz4
 have hfz4_1:=jc HGz4 1
 clear HGz4 hgz4
 go_enter Try.func88,Try.ntmps88
 go_upto_region 2 with (fail)
 repeat (go_quiet (fail);go_upto_region 2 with (fail))
 go_cut [24] (fun v24 wc=>∃ (kq:Nat) (x24_2:Bool),v24=.bool x24_2∧jC (jl.j0 kq a1 x24_2 s0_0 (wrap64 (s0_1+1))=some (r1,r2))∧jC (kq≤k)∧jC (jb w0 wc g s0_0 (wrap64 (s0_1+1)))∧jC (jd w wc g none)∧jC (Below w0.heap.size w0 wc))
 case first =>
  have H:=HC3.out
  clear HC3
  by_cases c5:a1<1
  ·rw [if_pos c5] at H
   have c5b0:decide (a1<1)=true:=dzT c5
   clear c5
   (first | rw [c5b0] |(simp only [jqb,jub];rw [c5b0]) | skip)
   have H':=am H
   clear H
   go_wp2
   repeat (go_quiet (fail);try go_wp2)
   go_meet
   case rel=>exact ⟨_,(true),(sq),H',⟨Y51⟩,⟨Y13⟩,⟨Y14⟩,⟨Y15⟩⟩
  ·rw [if_neg c5] at H
   have c5b0:decide (a1<1)=false:=dzF c5
   clear c5
   (first | rw [c5b0] |(simp only [jqb,jub];rw [c5b0]) | skip)
   have H':=am H
   clear H
   obtain ⟨ASz6_0,cSz6_0,HGz6,hgz6,HSz6_0⟩:=HI0.out
   have hcz6_0:=cellS106_0 HGz6
   have hcz6_1:=cellS106_1 HGz6
   have hfz6_1:=jc HGz6 1
   clear HGz6 hgz6
   go_wp2
   repeat (go_quiet (fail);try go_wp2)
   go_meet
   case rel=>exact ⟨_,(((s0_0.length:Int) == 0)),(sq),H',⟨Y51⟩,⟨Y13⟩,⟨Y14⟩,⟨Y15⟩⟩
 case rest =>
  clear HC3
  try clear p2
  try clear c5
  try clear c5b0
  try clear p6
  try clear hcz4_0
  try clear hcz4_1
  try clear hcz6_0
  try clear hcz6_1
  try clear hfz4_1
  try clear hfz6_1
  obtain ⟨kq,x24_2,rfl,HA,HJ2,HI0,HK,HB⟩:=hcut
  cases kq with
  | zero=>exact absurd HA.out (by simp [jl.j0])
  | succ kj2 =>
   have H:=HA.out
   clear HA
   simp only [jl.j0] at H
   by_cases c7:x24_2=true
   ·subst c7
    have H1:(some (0,(wrap64 (s0_1+1))))=some (r1,r2):=by rw [if_pos rfl] at H;exact H
    clear H
    have H:=H1
    clear H1
    simp only [Option.some.injEq,Prod.mk.injEq] at H
    obtain ⟨rfl,rfl⟩:=H
    go_wp2
    repeat (go_quiet (fail);try go_wp2)
    go_ret
    exact ⟨Y1,Y13,Y15,Y14⟩
   ·replace c7:=Bool.eq_false_iff.mpr c7
    subst c7
    have H1:(if (wrap64 ((wrap64 (s0_1+1)) - 1))<(s0_0.length:Int) then (if 0≤(wrap64 ((wrap64 (s0_1+1)) - 1)) then (if a1=0 then (none) else (some (Int.tmod (wrap64 (rd s0_0 (wrap64 ((wrap64 (s0_1+1)) - 1)))) a1,(wrap64 (s0_1+1))))) else (none)) else (if (s0_0.length:Int)=0 then (none) else (if 0≤(Int.tmod (wrap64 ((wrap64 (s0_1+1)) - 1)) (s0_0.length:Int)) then (if (Int.tmod (wrap64 ((wrap64 (s0_1+1)) - 1)) (s0_0.length:Int))<(s0_0.length:Int) then (if 0≤(Int.tmod (wrap64 ((wrap64 ((wrap64 ((wrap64 (s0_1+1)) - 1)) * 7))+3)) (s0_0.length:Int)) then (if (Int.tmod (wrap64 ((wrap64 ((wrap64 ((wrap64 (s0_1+1)) - 1)) * 7))+3)) (s0_0.length:Int))<(s0_0.length:Int) then (if a1=0 then (none) else (some (Int.tmod (Go.bits .xor .i64 (wrap64 ((wrap64 ((wrap64 ((wrap64 ((wrap64 (rd s0_0 (Int.tmod (wrap64 ((wrap64 (s0_1+1)) - 1)) (s0_0.length:Int)))) * 131))+(wrap64 ((wrap64 (rd s0_0 (Int.tmod (wrap64 ((wrap64 ((wrap64 ((wrap64 (s0_1+1)) - 1)) * 7))+3)) (s0_0.length:Int)))) * 1117))))+(wrap64 ((wrap64 ((wrap64 (s0_1+1)) - 1)) * 29))))+(wrap64 ((wrap64 (Int.tdiv (wrap64 ((wrap64 (s0_1+1)) - 1)) (s0_0.length:Int))) * 53)))) (wrap64 (Int.tdiv (wrap64 ((wrap64 ((wrap64 ((wrap64 ((wrap64 (rd s0_0 (Int.tmod (wrap64 ((wrap64 (s0_1+1)) - 1)) (s0_0.length:Int)))) * 131))+(wrap64 ((wrap64 (rd s0_0 (Int.tmod (wrap64 ((wrap64 ((wrap64 ((wrap64 (s0_1+1)) - 1)) * 7))+3)) (s0_0.length:Int)))) * 1117))))+(wrap64 ((wrap64 ((wrap64 (s0_1+1)) - 1)) * 29))))+(wrap64 ((wrap64 (Int.tdiv (wrap64 ((wrap64 (s0_1+1)) - 1)) (s0_0.length:Int))) * 53)))) 64))) a1,(wrap64 (s0_1+1))))) else (none)) else (none)) else (none)) else (none))))=some (r1,r2):=by rw [if_neg (show ¬ (false=true) by decide)] at H;exact H
    clear H
    have H:=H1
    clear H1
    by_cases c8:(wrap64 ((wrap64 (s0_1+1)) - 1))<(s0_0.length:Int)
    ·rw [if_pos c8] at H
     have c8b0:decide ((wrap64 ((wrap64 (s0_1+1)) - 1))<(s0_0.length:Int))=true:=dzT c8
     clear c8
     obtain ⟨ji9,hji9⟩:∃ j_:Int,(wrap64 ((wrap64 (s0_1+1)) - 1))=j_:=⟨_,rfl⟩
     replace H:(if 0≤(ji9) then (if a1=0 then (none) else (some (Int.tmod (wrap64 (rd s0_0 (ji9))) a1,(wrap64 (s0_1+1))))) else (none))=some (r1,r2):=by first |(rw [hji9] at H;exact H) |(simp only [hji9] at H ⊢;exact H)
     (try rw [hji9] at c8b0)
     have hji9w:(IntKind.i64.wrap ((wrap64 (s0_1+1)) - 1))=ji9:=(jqb _).trans hji9
     by_cases c10:0≤(ji9)
     ·rw [if_pos c10] at H
      have c10b0:decide (0≤(ji9))=true:=dzT c10
      clear c10
      by_cases c11:a1=0
      ·rw [if_pos c11] at H
       exact absurd H (by simp)
      ·rw [if_neg c11] at H
       have c11b0:(a1 == 0)=false:=beq_eq_false_iff_ne.mpr c11
       have c11b1:(a1 != 0)=true:=bne_iff_ne.mpr c11
       simp only [Option.some.injEq,Prod.mk.injEq] at H
       obtain ⟨rfl,rfl⟩:=H
       obtain ⟨ASz12_0,cSz12_0,HGz12,hgz12,HSz12_0⟩:=HI0.out
       have hcz12_0:=cellS106_0 HGz12
       have hcz12_1:=cellS106_1 HGz12
       have hfz12_1:=jc HGz12 1
       clear HGz12 hgz12
       have p296:0≤((ji9):Int):=ozD (uq)
       have q296:(ji9)<(s0_0.length:Int):=ozD (uq)
       obtain ⟨ad296,e296,hx296_0⟩:=Kd.jcb HSz12_0 (ji9) p296 q296
       cases e296
       replace hx296_0:=jya HB.out hx296_0
       replace p296:=ezT p296
       replace q296:=ezT q296
       go_wp2
       repeat (go_quiet (fail);try go_wp2)
       go_ret
       exact ⟨by first | rfl |(simp [jCb,jBb] <;> rfl) |(simp only [← hji9];first | rfl |(simp [jCb,jBb] <;> rfl)) |(simp [*,jCb,jBb] <;> rfl),Y13,Y15,Y14⟩
     ·rw [if_neg c10] at H
      exact absurd H (by simp)
    ·rw [if_neg c8] at H
     have c8b0:decide ((wrap64 ((wrap64 (s0_1+1)) - 1))<(s0_0.length:Int))=false:=dzF c8
     clear c8
     by_cases c13:(s0_0.length:Int)=0
     ·rw [if_pos c13] at H
      exact absurd H (by simp)
     ·rw [if_neg c13] at H
      have c13b0:((s0_0.length:Int) == 0)=false:=beq_eq_false_iff_ne.mpr c13
      have c13b1:((s0_0.length:Int) != 0)=true:=bne_iff_ne.mpr c13
      have c13b2:¬ (s0_0=[]):=fun h_=>c13 (by rw [h_];rfl)
      obtain ⟨ji14,hji14⟩:∃ j_:Int,(Int.tmod (wrap64 ((wrap64 (s0_1+1)) - 1)) (s0_0.length:Int))=j_:=⟨_,rfl⟩
      replace H:(if 0≤(ji14) then (if (ji14)<(s0_0.length:Int) then (if 0≤(Int.tmod (wrap64 ((wrap64 ((wrap64 ((wrap64 (s0_1+1)) - 1)) * 7))+3)) (s0_0.length:Int)) then (if (Int.tmod (wrap64 ((wrap64 ((wrap64 ((wrap64 (s0_1+1)) - 1)) * 7))+3)) (s0_0.length:Int))<(s0_0.length:Int) then (if a1=0 then (none) else (some (Int.tmod (Go.bits .xor .i64 (wrap64 ((wrap64 ((wrap64 ((wrap64 ((wrap64 (rd s0_0 (ji14))) * 131))+(wrap64 ((wrap64 (rd s0_0 (Int.tmod (wrap64 ((wrap64 ((wrap64 ((wrap64 (s0_1+1)) - 1)) * 7))+3)) (s0_0.length:Int)))) * 1117))))+(wrap64 ((wrap64 ((wrap64 (s0_1+1)) - 1)) * 29))))+(wrap64 ((wrap64 (Int.tdiv (wrap64 ((wrap64 (s0_1+1)) - 1)) (s0_0.length:Int))) * 53)))) (wrap64 (Int.tdiv (wrap64 ((wrap64 ((wrap64 ((wrap64 ((wrap64 (rd s0_0 (ji14))) * 131))+(wrap64 ((wrap64 (rd s0_0 (Int.tmod (wrap64 ((wrap64 ((wrap64 ((wrap64 (s0_1+1)) - 1)) * 7))+3)) (s0_0.length:Int)))) * 1117))))+(wrap64 ((wrap64 ((wrap64 (s0_1+1)) - 1)) * 29))))+(wrap64 ((wrap64 (Int.tdiv (wrap64 ((wrap64 (s0_1+1)) - 1)) (s0_0.length:Int))) * 53)))) 64))) a1,(wrap64 (s0_1+1))))) else (none)) else (none)) else (none)) else (none))=some (r1,r2):=by first |(rw [hji14] at H;exact H) |(simp only [hji14] at H ⊢;exact H)
      by_cases c15:0≤(ji14)
      ·rw [if_pos c15] at H
       have c15b0:decide (0≤(ji14))=true:=dzT c15
       clear c15
       by_cases c16:(ji14)<(s0_0.length:Int)
       ·rw [if_pos c16] at H
        have c16b0:decide ((ji14)<(s0_0.length:Int))=true:=dzT c16
        clear c16
        obtain ⟨ji17,hji17⟩:∃ j_:Int,(Int.tmod (wrap64 ((wrap64 ((wrap64 ((wrap64 (s0_1+1)) - 1)) * 7))+3)) (s0_0.length:Int))=j_:=⟨_,rfl⟩
        replace H:(if 0≤(ji17) then (if (ji17)<(s0_0.length:Int) then (if a1=0 then (none) else (some (Int.tmod (Go.bits .xor .i64 (wrap64 ((wrap64 ((wrap64 ((wrap64 ((wrap64 (rd s0_0 (ji14))) * 131))+(wrap64 ((wrap64 (rd s0_0 (ji17))) * 1117))))+(wrap64 ((wrap64 ((wrap64 (s0_1+1)) - 1)) * 29))))+(wrap64 ((wrap64 (Int.tdiv (wrap64 ((wrap64 (s0_1+1)) - 1)) (s0_0.length:Int))) * 53)))) (wrap64 (Int.tdiv (wrap64 ((wrap64 ((wrap64 ((wrap64 ((wrap64 (rd s0_0 (ji14))) * 131))+(wrap64 ((wrap64 (rd s0_0 (ji17))) * 1117))))+(wrap64 ((wrap64 ((wrap64 (s0_1+1)) - 1)) * 29))))+(wrap64 ((wrap64 (Int.tdiv (wrap64 ((wrap64 (s0_1+1)) - 1)) (s0_0.length:Int))) * 53)))) 64))) a1,(wrap64 (s0_1+1))))) else (none)) else (none))=some (r1,r2):=by first |(rw [hji17] at H;exact H) |(simp only [hji17] at H ⊢;exact H)
        by_cases c18:0≤(ji17)
        ·rw [if_pos c18] at H
         have c18b0:decide (0≤(ji17))=true:=dzT c18
         clear c18
         by_cases c19:(ji17)<(s0_0.length:Int)
         ·rw [if_pos c19] at H
          have c19b0:decide ((ji17)<(s0_0.length:Int))=true:=dzT c19
          clear c19
          by_cases c20:a1=0
          ·rw [if_pos c20] at H
           exact absurd H (by simp)
          ·rw [if_neg c20] at H
           have c20b0:(a1 == 0)=false:=beq_eq_false_iff_ne.mpr c20
           have c20b1:(a1 != 0)=true:=bne_iff_ne.mpr c20
           simp only [Option.some.injEq,Prod.mk.injEq] at H
           obtain ⟨rfl,rfl⟩:=H
           obtain ⟨ASz21_0,cSz21_0,HGz21,hgz21,HSz21_0⟩:=HI0.out
           have hcz21_0:=cellS106_0 HGz21
           have hcz21_1:=cellS106_1 HGz21
           have hfz21_1:=jc HGz21 1
           clear HGz21 hgz21
           have p297:0≤((ji14):Int):=ozD (uq)
           have q297:(ji14)<(s0_0.length:Int):=ozD (uq)
           obtain ⟨ad297,e297,hx297_0⟩:=Kd.jcb HSz21_0 (ji14) p297 q297
           cases e297
           replace hx297_0:=jya HB.out hx297_0
           replace p297:=ezT p297
           replace q297:=ezT q297
           have p298:0≤((ji17):Int):=ozD (uq)
           have q298:(ji17)<(s0_0.length:Int):=ozD (uq)
           obtain ⟨ad298,e298,hx298_0⟩:=Kd.jcb HSz21_0 (ji17) p298 q298
           obtain rfl:ad297=ad298:=(by injection e298)
           replace hx298_0:=jya HB.out hx298_0
           replace p298:=ezT p298
           replace q298:=ezT q298
           go_wp2
           repeat (go_quiet (fail);try go_wp2)
           go_ret
           exact ⟨by first | rfl |(simp [jCb,jBb] <;> rfl) |(simp only [← hji14,← hji17];first | rfl |(simp [jCb,jBb] <;> rfl)) |(simp [*,jCb,jBb] <;> rfl),Y13,Y15,Y14⟩
         ·rw [if_neg c19] at H
          exact absurd H (by simp)
        ·rw [if_neg c18] at H
         exact absurd H (by simp)
       ·rw [if_neg c16] at H
        exact absurd H (by simp)
      ·rw [if_neg c15] at H
       exact absurd H (by simp)
def jy.f (k : Nat) (s0_0 : List Int) (s0_1 : Int) (l1 : List Int) : Option (Int × Int) := (jl.f k s0_0 s0_1 (l1.length : Int)).bind fun bt299 => (if 0 ≤ bt299.1 then (if bt299.1 < (l1.length : Int) then (some (rd l1 bt299.1, bt299.2)) else (none)) else (none))
set_option maxHeartbeats 8000000 in
set_option maxRecDepth 100000 in
theorem jy.calls (k : Nat) (g : Nat) (s0_0 : List Int) (s0_1 : Int) (A1 : Option Addr) (c1 : Nat) (l1 : List Int) (r1 : Int) (r2 : Int) (w0 w : World) (hI : jb w0 w g s0_0 s0_1) (hB : Below w0.heap.size w0 w) (hr1 : Kd.C (Kd.int .i64) w A1 l1.length l1) (hc1 : l1.length ≤ c1) (hf1 : ∀ ad, A1 = some ad → 0 < l1.length → ad.block ≠ g) (h : jy.f k s0_0 s0_1 l1 = some (r1, r2)) :
  Calls Try.prog 89 #[.pointer (some ⟨g,0,none⟩), .slice A1 l1.length c1] w fun e w'=>e=.returned (.int .i64 r1)∧jb w0 w' g s0_0 r2∧Below w0.heap.size w0 w'∧jd w w' g none:=by
 have HR1:=am hr1
 have HC1:=am hc1
 clear hr1 hc1
 have HI0:=am hI
 have HK:=am (jd.refl w g none)
 have HL:=am hB.size
 clear hI
 have HW0:=am hB.size
 have HB:=am hB
 clear hB
 have H:((jl.f k s0_0 s0_1 (l1.length:Int)).bind fun bt299=>(if 0≤bt299.1 then (if bt299.1<(l1.length:Int) then (some (rd l1 bt299.1,bt299.2)) else (none)) else (none)))=some (r1,r2):=h
 clear h
 replace H:=bzS H
 obtain ⟨⟨t299,t300⟩,A30,H⟩:=H
 replace H:(if 0≤t299 then (if t299<(l1.length:Int) then (some (rd l1 t299,t300)) else (none)) else (none))=some (r1,r2):=H
 have A3:=am A30
 clear A30
 by_cases c4:0≤t299
 ·rw [if_pos c4] at H
  have c4b0:decide (0≤t299)=true:=dzT c4
  clear c4
  by_cases c5:t299<(l1.length:Int)
  ·rw [if_pos c5] at H
   have c5b0:decide (t299<(l1.length:Int))=true:=dzT c5
   clear c5
   simp only [Option.some.injEq,Prod.mk.injEq] at H
   obtain ⟨rfl,rfl⟩:=H
   go_enter Try.func89,Try.ntmps89
   go_wp2_with (first |((with_reducible refine jB (f:=88) rfl ?_);refine gL (some 9) Try.func88 #[.pointer (some ⟨g,0,none⟩), .int .i64 (l1.length:Int)] ?_;(with_reducible refine (jl.calls k g s0_0 s0_1 (l1.length:Int) t299 t300 w0 _ ?side1 ?side2 A3.out).mono ?_);(case side1=>exact Y13);(case side2=>exact Y15);rintro e w6 ⟨rfl,hi,hb,hk⟩;refine ⟨_,rfl,?_⟩;replace HK:=am (jd.trans (Y14) hk (.inl rfl));replace HB:=am (hb);replace HI0:=am (hi);(try clear hb);(try clear hb2);(try clear hk);(try clear hi);have p301:0≤(t299:Int):=ozD (uq);have q301:t299<(l1.length:Int):=ozD (uq);obtain ⟨ad301,e301,hx301_0⟩:=Kd.jcb HR1.out t299 p301 q301;cases e301;replace hx301_0:=keep_cell HK.out hx301_0 (by first |(rw [add_block];exact hf1 _ rfl (by omega)) | exact hf1 _ rfl (by omega) | exact hf1 ad301 rfl (by omega));replace p301:=ezT p301;replace q301:=ezT q301))
   go_ret
   exact ⟨Y1,Y13,Y15,Y14⟩
  ·rw [if_neg c5] at H
   exact absurd H (by simp)
 ·rw [if_neg c4] at H
  exact absurd H (by simp)
def jab.f (l0_0 : List (S54)) : Option ((List (S54))) := (some (([] : List (S54)) : List (S54))).bind fun y304 => (if y304.length + l0_0.length < 3518437208883 then (some (y304 ++ l0_0)) else (none))
set_option maxHeartbeats 8000000 in
set_option maxRecDepth 100000 in
theorem jab.calls (A0_0 : Option Addr) (c0_0 : Nat) (l0_0 : List (S54)) (r : List (S54)) (w : World) (hr0_0 : Kd.C k54 w A0_0 l0_0.length l0_0) (hc0_0 : l0_0.length ≤ c0_0) (h : jab.f l0_0 = some r) :
  Calls Try.prog 67 #[.agg #[.slice A0_0 l0_0.length c0_0]] w fun e w'=>∃ v0_:Value,e=.returned (.agg #[v0_])∧Kd.R k54 54 w' w.heap.size (fun _=>True) v0_ r∧Below w.heap.size w w':=by
 have hu32:=Try.underlying32
 have HR0_0:=am hr0_0
 have HC0_0:=am hc0_0
 clear hr0_0 hc0_0
 have HB:=am (Below.refl w.heap.size w)
 have H:((some (([]:List (S54)):List (S54))).bind fun y304=>(if y304.length+l0_0.length<3518437208883 then (some (y304 ++ l0_0)) else (none)))=some r:=h
 clear h
 obtain ⟨y304,hy304⟩:∃ y_:List (S54),y_=(([]:List (S54))):=⟨_,rfl⟩
 replace H:(if y304.length+l0_0.length<3518437208883 then (some (y304 ++ l0_0)) else (none))=some r:=by first |(rw [hy304];with_reducible exact H) |(have H2_:=(Option.bind_some _ _).symm.trans H;rw [hy304];with_reducible exact H2_) |(have H2_:=(Option.bind_some _ _).symm.trans H;with_reducible exact H2_) | with_reducible exact H |(rw [hy304];exact H) | exact H
 have Ny304:=am hy304
 clear hy304
 by_cases c2:y304.length+l0_0.length<3518437208883
 ·rw [if_pos c2] at H
  have LMc2:=am c2
  clear c2
  obtain ⟨y307,hy307⟩:∃ y_:List (S54),y_=(y304 ++ l0_0):=⟨_,rfl⟩
  replace H:(some y307)=some r:=by first |(rw [hy307];with_reducible exact H) |(have H2_:=(Option.bind_some _ _).symm.trans H;rw [hy307];with_reducible exact H2_) |(have H2_:=(Option.bind_some _ _).symm.trans H;with_reducible exact H2_) | with_reducible exact H |(rw [hy307];exact H) | exact H
  have Ny307:=am hy307
  clear hy307
  obtain rfl:=Option.some.inj H
  go_enter Try.func67,Try.ntmps67
  go_wp2_with (first |((with_reducible refine jI (N:=1) rfl ?_);refine bE (N:=1) (cs:=#[.slice A0_0 l0_0.length c0_0]) (t:=32) ?_;intro gb302 hg w3 hbox hb;have BK302:=am (hbox);have GW302:=am ((Y2:w.heap.size≤gb302));have GE302:=am ((Y2:w.heap.size≤gb302));replace HB:=am (jk (bq) hb);clear hb hbox hg) |((with_reducible refine jI (N:=2) rfl ?_);refine bE (N:=2) (cs:=#[.slice none 0 0]) (t:=32) ?_;intro gb303 hg w4 hbox hb;have BK303:=am (hbox);have GW303:=am ((Y137:w.heap.size≤gb303));have GE303:=am ((Y137:w.heap.size≤gb303));have NB302_303:=am ((by rw [hg];exact Nat.ne_of_lt (jca (g:=gb302) (o:=.cells #[.slice A0_0 l0_0.length c0_0] 32 (0,0)) (kq BK302.out)):gb302≠gb303));have NB303_302:=am ((by rw [hg];exact Nat.ne_of_gt (jca (g:=gb302) (o:=.cells #[.slice A0_0 l0_0.length c0_0] 32 (0,0)) (kq BK302.out)):gb303≠gb302));replace BK302:=am (jh (g:=gb302) (o:=.cells #[.slice A0_0 l0_0.length c0_0] 32 (0,0)) (kq BK302.out) hb);replace HB:=am (jk (by repeat (first |(with_reducible first | exact HB.out | apply jA | apply jq | apply jv | refine jm ?_ GE302.out) | exact HB.out)) hb);clear hb hbox hg) |((with_reducible refine jI (N:=3) rfl ?_);refine Kd.R_lit k54 _ 54 ?hg (N:=3) ?hd (xs:=([]:List (S54))) (inner:=[]) (ok:=fun _=>True) (okp:=fun _=>True) ?hr ?hp (fun _ hk=>hk) trivial (Below.refl _ _) (Nat.le_refl _) (by simp) ?_;(case hd=>rfl);(case hg=>rfl);(case hr=>exact Y4);(case hp=>exact (Reps.none _ _));intro v305 w5 ho6 hb hg_ hnew_;clear hg_ hnew_;(first | rw [← Ny304.out] at ho6 |(simp only [Int.reduceToNat] at ho6;rw [← Ny304.out] at ho6));have HO306:=am (Kd.jea ho6 (jU (Y85)));replace BK302:=am (jh (g:=gb302) (o:=.cells #[.slice A0_0 l0_0.length c0_0] 32 (0,0)) (kq BK302.out) hb);replace BK303:=am (jh (g:=gb303) (o:=.cells #[.slice none 0 0] 32 (0,0)) (kq BK303.out) hb);replace HB:=am (jk (Y85) hb);clear hb ho6;have hnb7:=NB302_303.out;have hnc7:=NB303_302.out;have hcz8_0:=bc0 BK302.out;have hfz8_0:=jc BK302.out 0) |((with_reducible refine jJb (b:=.append) (xs:=#[.tmp 3, .tmp 5]) rfl ?_);at_builtin;refine Kd.R_append_rows k54 (w0:=w) w.heap.size rfl (.tmp 3) (.tmp 5) 30 54 (.agg #[(.int .i64 0),(.int .i64 0),(.int .i64 0),(.int .i64 0),(.bool false)]) 40 rfl Try.underlying30 info54 rfl (by decide) (by omega) v305 y304 l0_0 _ _ _ (fun _=>True) (fun _=>False) rfl rfl ?aO ?aR (fun _ _ h=>h) (fun _ h=>h.elim) ?aF ?aB ?aS ?aL ?_;(case aR=>repeat (first | exact (Kd.jha HR0_0.out HB.out) |(with_reducible refine Kd.C_alloc ?_ _) |(with_reducible refine Kd.C_drewN ?_ _) |(with_reducible refine Kd.C_drew ?_)));(case aB=>exact (Y85));(case aF=>exact (fun _ _=>trivial));(case aO=>exact (rq HO306.out));(case aS=>exact (jU (Y85)));(case aL=>have:=LMc2.out;omega);intro v308 w9 ho hb hg hat;rw [← Ny307.out] at ho;have n0_:=am (jAa (g:=gb302) (o:=.cells #[.slice A0_0 l0_0.length c0_0] 32 (0,0)) (kq BK302.out) hg (Kd.R_ne HO306.out BK302.out (by decide)));have n1_:=am (jAa (g:=gb303) (o:=.cells #[.slice none 0 0] 32 (0,0)) (kq BK303.out) hg (Kd.R_ne HO306.out BK303.out (by decide)));have n2_:=am (hb);have n3_:=am (ho);clear BK302 BK303 HB HO306;have BK302:=n0_;have BK303:=n1_;have HB:=n2_;have HO309:=n3_;clear n0_ n1_ n2_ n3_ ho hb hg hat;obtain ⟨Ao10,co10,eo10⟩:=Kd.jW HO309.out;subst eo10;have hcz11_0:=bc0 BK303.out;have hfz11_0:=jc BK303.out 0))
  refine bodyPost_ret (results_cell_row rfl _ _ gb303 32 #[.slice Ao10 y307.length co10] (0,0) _ rfl (by (with_reducible repeat (first | refine je ?_ _ | refine jg ?_ | refine jf ?_ _));refine jla (cs:=#[.slice none 0 0]) ?_ 0 _ rfl;(with_reducible repeat (first | refine je ?_ _ | refine jg ?_ | refine jf ?_ _));exact BK303.out) Try.underlying32 rfl (by kernel_rfl)) rfl ?_
  exact ⟨_,Y1,by (with_reducible repeat (first | apply Kd.jO | apply Kd.jQ | apply Kd.jM));exact Kd.jE (Kd.jX (p:=⟨gb303,0,none⟩) (Kd.jN HO309.out BK303.out (by decide)) (fun _ hk=>hk.2) (.slice Ao10 y307.length co10)) (fun _ hk=>trivial),Y85⟩
 ·rw [if_neg c2] at H
  exact absurd H (by simp)
def jIb.f (l0_0 : List (S54)) (a1 : Int) (a2 : Int) : Option ((List (S54))) := (jab.f l0_0).bind fun t312 => (if t312.length < 3518437208883 then (some (t312 ++ [(⟨a1, a2, (-1), (-1), false⟩ : S54)])) else (none))
set_option maxHeartbeats 8000000 in
set_option maxRecDepth 100000 in
theorem jIb.calls (A0_0 : Option Addr) (c0_0 : Nat) (l0_0 : List (S54)) (a1 : Int) (a2 : Int) (r : List (S54)) (w : World) (hr0_0 : Kd.C k54 w A0_0 l0_0.length l0_0) (hc0_0 : l0_0.length ≤ c0_0) (h : jIb.f l0_0 a1 a2 = some r) :
  Calls Try.prog 91 #[.agg #[.slice A0_0 l0_0.length c0_0], .int .i64 a1, .int .i64 a2] w fun e w'=>∃ v0_:Value,e=.returned (.agg #[v0_])∧Kd.R k54 54 w' w.heap.size (fun _=>True) v0_ r∧Below w.heap.size w w':=by
 have hu32:=Try.underlying32
 have hu54:=Try.underlying54
 have HR0_0:=am hr0_0
 have HC0_0:=am hc0_0
 clear hr0_0 hc0_0
 have HB:=am (Below.refl w.heap.size w)
 have H:((jab.f l0_0).bind fun t312=>(if t312.length<3518437208883 then (some (t312 ++ [(⟨a1,a2,(-1),(-1),false⟩:S54)])) else (none)))=some r:=h
 clear h
 replace H:=bzS H
 obtain ⟨t312,A40,H⟩:=H
 replace H:(if t312.length<3518437208883 then (some (t312 ++ [(⟨a1,a2,(-1),(-1),false⟩:S54)])) else (none))=some r:=H
 have A4:=am A40
 clear A40
 by_cases c5:t312.length<3518437208883
 ·rw [if_pos c5] at H
  have LMc5:=am c5
  clear c5
  obtain ⟨y316,hy316⟩:∃ y_:List (S54),y_=(t312 ++ [(⟨a1,a2,(-1),(-1),false⟩:S54)]):=⟨_,rfl⟩
  replace H:(some y316)=some r:=by first |(rw [hy316];with_reducible exact H) |(have H2_:=(Option.bind_some _ _).symm.trans H;rw [hy316];with_reducible exact H2_) |(have H2_:=(Option.bind_some _ _).symm.trans H;with_reducible exact H2_) | with_reducible exact H |(rw [hy316];exact H) | exact H
  have Ny316:=am hy316
  clear hy316
  obtain rfl:=Option.some.inj H
  go_enter Try.func91,Try.ntmps91
  go_wp2_with (first |((with_reducible refine jI (N:=3) rfl ?_);refine bE (N:=3) (cs:=#[.slice A0_0 l0_0.length c0_0]) (t:=32) ?_;intro gb310 hg w6 hbox hb;have BK310:=am (hbox);have GW310:=am ((Y2:w.heap.size≤gb310));have GE310:=am ((Y2:w.heap.size≤gb310));replace HB:=am (jk (bq) hb);clear hb hbox hg) |((with_reducible refine jI (N:=6) rfl ?_);refine bE (N:=6) (cs:=#[.slice none 0 0]) (t:=32) ?_;intro gb311 hg w7 hbox hb;have BK311:=am (hbox);have GW311:=am ((Y138:w.heap.size≤gb311));have GE311:=am ((Y138:w.heap.size≤gb311));have NB310_311:=am ((by rw [hg];exact Nat.ne_of_lt (jca (g:=gb310) (o:=.cells #[.slice A0_0 l0_0.length c0_0] 32 (0,0)) (kq BK310.out)):gb310≠gb311));have NB311_310:=am ((by rw [hg];exact Nat.ne_of_gt (jca (g:=gb310) (o:=.cells #[.slice A0_0 l0_0.length c0_0] 32 (0,0)) (kq BK310.out)):gb311≠gb310));replace BK310:=am (jh (g:=gb310) (o:=.cells #[.slice A0_0 l0_0.length c0_0] 32 (0,0)) (kq BK310.out) hb);replace HB:=am (jk (by repeat (first |(with_reducible first | exact HB.out | apply jA | apply jq | apply jv | refine jm ?_ GE310.out) | exact HB.out)) hb);clear hb hbox hg;have hnb8:=NB310_311.out;have hnc8:=NB311_310.out;have hcz9_0:=bc0 BK310.out;have hfz9_0:=jc BK310.out 0) |((with_reducible refine jB (f:=67) rfl ?_);refine gL (some 9) Try.func67 #[.agg #[.slice A0_0 l0_0.length c0_0]] ?_;(with_reducible refine (jab.calls _ _ l0_0 t312 _ ?side1 ?side2 A4.out).mono ?_);(case side1=>exact cq (Kd.jha HR0_0.out HB.out));(case side2=>exact HC0_0.out);rintro e w10 ⟨v313,rfl,ho0,hb⟩;refine ⟨_,rfl,?_⟩;have HO314:=am (Kd.jea ho0 (jU (Y119)));replace BK310:=am (jh (g:=gb310) (o:=.cells #[.slice A0_0 l0_0.length c0_0] 32 (0,0)) (kq BK310.out) hb);replace BK311:=am (jh (g:=gb311) (o:=.cells #[.slice none 0 0] 32 (0,0)) (kq BK311.out) hb);replace HB:=am (jk (Y119) hb);(try clear hb);(try clear hb2);(try clear hk);(try clear hi);(try clear ho0)) |((with_reducible refine jI (N:=7) rfl ?_);refine bE (N:=7) (cs:=#[.slice none 0 0]) (t:=32) ?_;intro gb315 hg w11 hbox hb;have BK315:=am (hbox);have GW315:=am ((Y139:w.heap.size≤gb315));have GE315:=am ((Y139:w.heap.size≤gb315));have NB310_315:=am ((by rw [hg];exact Nat.ne_of_lt (jca (g:=gb310) (o:=.cells #[.slice A0_0 l0_0.length c0_0] 32 (0,0)) (kq BK310.out)):gb310≠gb315));have NB315_310:=am ((by rw [hg];exact Nat.ne_of_gt (jca (g:=gb310) (o:=.cells #[.slice A0_0 l0_0.length c0_0] 32 (0,0)) (kq BK310.out)):gb315≠gb310));have NB311_315:=am ((by rw [hg];exact Nat.ne_of_lt (jca (g:=gb311) (o:=.cells #[.slice none 0 0] 32 (0,0)) (kq BK311.out)):gb311≠gb315));have NB315_311:=am ((by rw [hg];exact Nat.ne_of_gt (jca (g:=gb311) (o:=.cells #[.slice none 0 0] 32 (0,0)) (kq BK311.out)):gb315≠gb311));replace HO314:=am (Kd.jaa (rq HO314.out) hb);replace BK310:=am (jh (g:=gb310) (o:=.cells #[.slice A0_0 l0_0.length c0_0] 32 (0,0)) (kq BK310.out) hb);replace BK311:=am (jh (g:=gb311) (o:=.cells #[.slice none 0 0] 32 (0,0)) (kq BK311.out) hb);replace HB:=am (jk (Y119) hb);clear hb hbox hg;obtain ⟨Ao12,co12,eo12⟩:=Kd.jW HO314.out;subst eo12;have hnb13:=NB315_310.out;have hnc13:=NB310_315.out;have hnb14:=NB315_311.out;have hnc14:=NB311_315.out;have hcz15_0:=bc0 BK315.out;have hfz15_0:=jc BK315.out 0) |((with_reducible refine jJb (b:=.append) (xs:=#[.tmp 11, .tmp 15]) rfl ?_);at_builtin;refine Kd.R_append k54 (w0:=w) w.heap.size rfl (.tmp 11) (.tmp 15) 30 54 (.agg #[(.int .i64 0),(.int .i64 0),(.int .i64 0),(.int .i64 0),(.bool false)]) 40 rfl Try.underlying30 info54 rfl (by decide) (by omega) (.slice Ao12 t312.length co12) t312 (⟨a1,a2,(-1),(-1),false⟩:S54) [.int .i64 a1, .int .i64 a2, .int .i64 (-1), .int .i64 (-1), .bool false] (fun _=>True) (fun _=>False) rfl (Y4) ?aP (fun _ hk=>hk.elim) ?aF ?aO ?aB ?aS ?aL ?_;(case aP=>exact jZb _ _ _ (⟨a1,a2,(-1),(-1),false⟩:S54));(case aB=>exact (Y120));(case aF=>exact (fun _ _=>trivial));(case aO=>exact (by (with_reducible repeat (first | apply Kd.jO | apply Kd.jQ | apply Kd.jM));exact Kd.jE (Kd.jX (p:=⟨gb315,0,none⟩) (Kd.jN HO314.out BK315.out (by decide)) (fun _ hk=>hk.2) (.slice Ao12 t312.length co12)) (fun _ hk=>trivial)));(case aS=>exact (jU (Y120)));(case aL=>have:=LMc5.out;omega);intro v317 w16 ho hb hg hat;rw [← Ny316.out] at ho;have n0_:=am (jAa (g:=gb310) (o:=.cells #[.slice A0_0 l0_0.length c0_0] 32 (0,0)) (by (with_reducible repeat (first | refine je ?_ _ | refine jg ?_ | refine jf ?_ _));refine jJ ?_ NB310_315.out _;(with_reducible repeat (first | refine je ?_ _ | refine jg ?_ | refine jf ?_ _));exact BK310.out) hg (Kd.R_ne HO314.out BK310.out (by decide)));have n1_:=am (jAa (g:=gb311) (o:=.cells #[.slice none 0 0] 32 (0,0)) (by (with_reducible repeat (first | refine je ?_ _ | refine jg ?_ | refine jf ?_ _));refine jJ ?_ NB311_315.out _;(with_reducible repeat (first | refine je ?_ _ | refine jg ?_ | refine jf ?_ _));exact BK311.out) hg (Kd.R_ne HO314.out BK311.out (by decide)));have n2_:=am (jAa (g:=gb315) (o:=.cells #[.slice Ao12 t312.length co12] 32 (0,0)) (by (with_reducible repeat (first | refine je ?_ _ | refine jg ?_ | refine jf ?_ _));refine jla (cs:=#[.slice none 0 0]) ?_ 0 _ rfl;(with_reducible repeat (first | refine je ?_ _ | refine jg ?_ | refine jf ?_ _));exact BK315.out) hg (Kd.R_ne HO314.out BK315.out (by decide)));have n3_:=am (hb);have n4_:=am (ho);clear BK310 BK311 BK315 HB HO314;have BK310:=n0_;have BK311:=n1_;have BK315:=n2_;have HB:=n3_;have HO318:=n4_;clear n0_ n1_ n2_ n3_ n4_ ho hb hg hat;obtain ⟨Ao17,co17,eo17⟩:=Kd.jW HO318.out;subst eo17;have hcz18_0:=bc0 BK315.out;have hfz18_0:=jc BK315.out 0;have hcz19_0:=bc0 BK311.out;have hfz19_0:=jc BK311.out 0))
  refine bodyPost_ret (results_cell_row rfl _ _ gb311 32 #[.slice Ao17 y316.length co17] (0,0) _ rfl (by (with_reducible repeat (first | refine je ?_ _ | refine jg ?_ | refine jf ?_ _));refine jla (cs:=#[.slice none 0 0]) ?_ 0 _ rfl;(with_reducible repeat (first | refine je ?_ _ | refine jg ?_ | refine jf ?_ _));refine jJ ?_ NB311_315.out _;(with_reducible repeat (first | refine je ?_ _ | refine jg ?_ | refine jf ?_ _));exact BK311.out) Try.underlying32 rfl (by kernel_rfl)) rfl ?_
  exact ⟨_,Y1,by (with_reducible repeat (first | apply Kd.jO | apply Kd.jQ | apply Kd.jM));exact Kd.jE (Kd.jX (p:=⟨gb311,0,none⟩) (Kd.jX (p:=⟨gb315,0,none⟩) (Kd.jN (Kd.jN HO318.out BK315.out (by decide)) BK311.out (by decide)) (fun _ hk=>hk.1.2) (.slice Ao17 y316.length co17)) (fun _ hk=>hk.2) (.slice Ao17 y316.length co17)) (fun _ hk=>trivial),Y120⟩
 ·rw [if_neg c5] at H
  exact absurd H (by simp)
end Go.Proofs.Ytecdfgejmbpclaa.P
end
