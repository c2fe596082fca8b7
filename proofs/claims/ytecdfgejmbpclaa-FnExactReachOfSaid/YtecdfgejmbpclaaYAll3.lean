/- One part of the proofs on this program: functions of the program as plain functions, that the code comes to them, and facts on them. -/
import Derived.Shelf.Sort.Plain
import Derived.Test.YtecdfgejmbpclaaYAll1
import Derived.Test.YtecdfgejmbpclaaYAll2
import Derived.Test.YtecdfgejmbpclaaYWAuto
section
namespace Go.Proofs.Ytecdfgejmbpclaa.P
open Go.RowKit Go.Proofs.YtecdfgejmbpclaaW.PrintWords Go.Proofs.YtecdfgejmbpclaaW.PrintLast Go.Proofs.YtecdfgejmbpclaaW.PrintMore
attribute [local go_sem] jT jR jda jca jK jJ jS jQ je
set_option linter.unusedVariables false
set_option linter.unusedSimpArgs false
theorem jDa {w : World} {b : Nat} {v : Value} {l : List Value} {t : TypeId} (h : w.heap[b]? = some (.cells ⟨v :: l⟩ t (0, 0))) : w.cell? ⟨b, 0, none⟩ = some v := (jL h 0).trans rfl
theorem cellA1 {w : World} {b : Nat} {v v1 : Value} {l : List Value} {t : TypeId} (h : w.heap[b]? = some (.cells ⟨v :: v1 :: l⟩ t (0, 0))) : w.cell? ⟨b, 1, none⟩ = some v1 := (jL h 1).trans rfl
theorem cellA2 {w : World} {b : Nat} {v v1 v2 : Value} {l : List Value} {t : TypeId} (h : w.heap[b]? = some (.cells ⟨v :: v1 :: v2 :: l⟩ t (0, 0))) : w.cell? ⟨b, 2, none⟩ = some v2 := (jL h 2).trans rfl
theorem cellA3 {w : World} {b : Nat} {v v1 v2 v3 : Value} {l : List Value} {t : TypeId} (h : w.heap[b]? = some (.cells ⟨v :: v1 :: v2 :: v3 :: l⟩ t (0, 0))) : w.cell? ⟨b, 3, none⟩ = some v3 := (jL h 3).trans rfl
def hpIn (a lo hi : Int) : Bool := decide (lo ≤ a) && decide (a ≤ hi)
theorem hp_within (a lo hi : Int) : jha.f a lo hi = some (hpIn a lo hi) := by
 unfold jha.f hpIn
 by_cases h:a≥lo
 ·rw [if_pos h];simp [show lo≤a from h]
 ·rw [if_neg h];simp [show ¬ lo≤a from h]
theorem hp_has (l : List S94) (a : Int) : jJa.f l a = some (hpIn a 0 (wrap64 ((l.length : Int) - 1))) := by unfold jJa.f; rw [hp_within]; rfl
theorem hp_code (a : Int) : jWa.f a = some (hpIn a 0 99) := by unfold jWa.f; rw [hp_within]; rfl
def hpLk (m : Nat) (i z : Int) : Bool := decide (z = -1) || (hpIn z 0 ((m : Int) - 1) && decide (z ≠ i))
def hpBad (t : List S94) (m : Nat) (i : Int) (x : S54) : Bool := !hpIn x.f0 0 (wrap64 ((t.length : Int) - 1)) || (!hpIn x.f1 0 99 || (!hpLk m i x.f2 || !hpLk m i x.f3))
def hpAny (t : List S94) (h : List S54) : Nat → Nat → Bool
 | 0,_=>false
 | n+1,i=>if hpBad t h.length (i:Int) (jc h (i:Int))=true then true else hpAny t h n (i+1)
def hpEnds (k : Nat) (h : List S54) : Nat → Nat → Option Bool
 | 0,_=>some true
 | n+1,i=>(jKa.f k h (i:Int)).bind fun l=>if 1≤l.length then (ctxF h (rd l ((l.length:Int) - 1))).bind fun c=>if c = -1 then hpEnds k h n (i+1) else some false else none
def jFa.f (k : Nat) (l0_0 : List S94) (l1_0 : List S54) : Option Bool :=
 if hpAny l0_0 l1_0 l1_0.length 0=true then some false else (hpEnds k l1_0 l1_0.length 0).bind fun b=>if b=true then ((jo.f k l0_0).bind fun v=>some (if v=true then decide ((l1_0.length:Int)≤24) else false)) else some false
set_option maxHeartbeats 8000000 in
set_option maxRecDepth 100000 in
theorem jWb (A_ : Option Addr) (c_ : Nat) (m : Nat) (i z : Int) (B0 : Nat) (w : World) (hm : m ≤ 9223372036854775807) (hc : w.cell? ⟨B0, 0, none⟩ = some (.slice A_ m c_)) :
  Calls Try.prog 93 #[.int .i64 i, .int .i64 z, .pointer (some ⟨B0,0,none⟩)] w fun e w'=>e=.returned (.bool (hpLk m i z))∧Below w.heap.size w w':=by
 have HB:=am (Below.refl w.heap.size w)
 have hu32:=Try.underlying32
 have hw2:IntKind.i64.wrap ((m:Int) - 1)=(m:Int) - 1:=IntWalk.i64_in _ (by omega)
 by_cases h0:z = -1
 ·subst h0
  have HZ:=am (by simp [hpLk]:hpLk m i (-1)=true)
  go_enter Try.func93,Try.ntmps93
  go_wp2
  go_ret
  exact ⟨by rw [HZ.out];rfl,(bq)⟩
 ·have hb0:(z == -1)=false:=by simpa using h0
  by_cases h1:z≥0
  ·have hb1:=dzT h1
   by_cases h2:z≤(m:Int) - 1
   ·have hb2:=dzT h2
    by_cases h3:z=i
    ·have hb3:(z != i)=false:=by simpa using h3
     have HZ:=am (by subst h3;simp [hpLk,h0]:hpLk m i z=false)
     clear h0 h1 h2 h3
     go_enter Try.func93,Try.ntmps93
     go_wp2
     go_ret
     exact ⟨by rw [HZ.out];rfl,(bq)⟩
    ·have hb3:(z != i)=true:=by simpa using h3
     have HZ:=am (by simp [hpLk,h0,h3,hpIn];omega:hpLk m i z=true)
     clear h0 h1 h2 h3
     go_enter Try.func93,Try.ntmps93
     go_wp2
     go_ret
     exact ⟨by rw [HZ.out];rfl,(bq)⟩
   ·have hb2:=dzF h2
    have HZ:=am (by simp [hpLk,h0,hpIn];omega:hpLk m i z=false)
    clear h0 h1 h2
    go_enter Try.func93,Try.ntmps93
    go_wp2
    go_ret
    exact ⟨by rw [HZ.out];rfl,(bq)⟩
  ·have hb1:=dzF h1
   have HZ:=am (by simp [hpLk,h0,hpIn];omega:hpLk m i z=false)
   clear h0 h1
   go_enter Try.func93,Try.ntmps93
   go_wp2
   go_ret
   exact ⟨by rw [HZ.out];rfl,(bq)⟩
set_option maxHeartbeats 8000000 in
set_option maxRecDepth 100000 in
theorem jFa.calls (k : Nat) (A0_0 : Option Addr) (c0_0 : Nat) (l0_0 : List (S94)) (A0 : Option Addr) (c0 : Nat) (l0 : List (S54)) (r : Bool) (w : World) (hr0_0 : Kd.C k94 w A0_0 l0_0.length l0_0) (hc0_0 : l0_0.length ≤ c0_0) (hr0 : Kd.C k54 w A0 l0.length l0) (hc0 : l0.length ≤ c0) (h : jFa.f k l0_0 l0 = some r) :
  Calls Try.prog 63 #[.agg #[.slice A0_0 l0_0.length c0_0], .agg #[.slice A0 l0.length c0]] w fun e w'=>e=.returned (.bool r)∧Below w.heap.size w w':=by
 have hu32:=Try.underlying32
 have hu37:=Try.underlying37
 have hu54:=Try.underlying54
 have hm:l0.length≤9223372036854775807:=Kd.C_max hr0
 have HRT:=am hr0_0
 have HRH:=am hr0
 have hcT:=hc0_0
 have hcH:=hc0
 have H':=am h
 have HB:=am (((Below.refl w.heap.size w).alloc (Nat.le_refl _) (.cells #[.slice A0_0 l0_0.length c0_0] 37)).alloc (by simp) (.cells #[.slice A0 l0.length c0] 32))
 have BT:=am (jB (heap_alloc_new w (.cells #[.slice A0_0 l0_0.length c0_0] 37)) (.cells #[.slice A0 l0.length c0] 32))
 have BH:=am (show ((w.alloc (.cells #[.slice A0_0 l0_0.length c0_0] 37)).alloc (.cells #[.slice A0 l0.length c0] 32)).heap[w.heap.size+1]?=some (.cells #[.slice A0 l0.length c0] 32 (0,0)) by have h:=heap_alloc_new (w.alloc (.cells #[.slice A0_0 l0_0.length c0_0] 37)) (.cells #[.slice A0 l0.length c0] 32);simpa only [World.size_alloc] using h)
 have hmH:=hm
 clear hr0_0 hr0 h hc0_0 hc0
 go_enter Try.func63,Try.ntmps63
 go_wp2
 go_loopw [14] (fun v14 wr=>∃ i:Nat,i≤l0.length∧v14=.int .i64 i∧jy (hpAny l0_0 l0 (l0.length - i) i=hpAny l0_0 l0 l0.length 0)∧jy (wr.heap[w.heap.size]?=some (.cells #[.slice A0_0 l0_0.length c0_0] 37 (0,0)))∧jy (wr.heap[w.heap.size+1]?=some (.cells #[.slice A0 l0.length c0] 32 (0,0)))∧jy (Below w.heap.size w wr)) (fun v14 _=>l0.length - (intOf v14).toNat)
 case atStart=>exact ⟨0,Nat.zero_le _,rfl,⟨rfl⟩,BT,BH,HB⟩
 case round =>
  clear HB BT BH
  obtain ⟨i,hi,rfl,HA,BT,BH,HB⟩:=hrel
  have cT:=jDa BT.out
  have cH:=jDa BH.out
  by_cases hlt:i<l0.length
  ·obtain ⟨ad,rfl,x0,x1,x2,x3,x4⟩:=jjb (Kd.jI HRH.out HB.out) (i:Int) (by omega) (by omega)
   rw [Int.toNat_natCast] at x0 x1 x2 x3 x4
   have hneT:w.heap.size<wr.heap.size:=jZ BT.out
   have hneH:w.heap.size+1<wr.heap.size:=jZ BH.out
   have BX:=am (heap_alloc_new wr (.cells #[.int .i64 (jc l0 (i:Int)).f0, .int .i64 (jc l0 (i:Int)).f1, .int .i64 (jc l0 (i:Int)).f2, .int .i64 (jc l0 (i:Int)).f3, .bool (jc l0 (i:Int)).f4] 54))
   have HS:=am (show hpAny l0_0 l0 (l0.length - i) i=if hpBad l0_0 l0.length (i:Int) (jc l0 (i:Int))=true then true else hpAny l0_0 l0 (l0.length - (i+1)) (i+1) by rw [show l0.length - i=(l0.length - (i+1))+1 by omega];rfl)

   cases e0:hpIn (jc l0 (i:Int)).f0 0 (wrap64 ((l0_0.length:Int) - 1)) with
   | false =>
    have E0:=am (show jJa.f l0_0 (jc l0 (i:Int)).f0=some false by rw [hp_has,e0])
    have HZ:=am (show r=false by have h:=H'.out;unfold jFa.f at h;rw [← HA.out,HS.out,if_pos (show hpBad l0_0 l0.length (i:Int) (jc l0 (i:Int))=true by simp [hpBad,e0]),if_pos rfl] at h;exact (Option.some.inj h).symm)
    clear e0 HA HS H'
    go_wp2_with (first |(go_at_call 94;refine (jJa.calls _ _ _ _ false _ (Kd.jI HRT.out (bq)) hcT E0.out).mono ?_;rintro e w2 ⟨rfl,hb2⟩;have n0_:=am (jb (g:=wr.heap.size) (o:=.cells #[.int .i64 (jc l0 (i:Int)).f0, .int .i64 (jc l0 (i:Int)).f1, .int .i64 (jc l0 (i:Int)).f2, .int .i64 (jc l0 (i:Int)).f3, .bool (jc l0 (i:Int)).f4] 54 (0,0)) (Y10) hb2);have n1_:=am (jb (g:=w.heap.size) (o:=.cells #[.slice A0_0 l0_0.length c0_0] 37 (0,0)) (kq BT.out) hb2);have n2_:=am (jb (g:=w.heap.size+1) (o:=.cells #[.slice (some ad) l0.length c0] 32 (0,0)) (kq BH.out) hb2);have n3_:=am (jd (bq) hb2);clear BX BT BH HB;(try clear cx0 cx1 cx2 cx3);have BX:=n0_;have BT:=n1_;have BH:=n2_;have HB:=n3_;clear n0_ n1_ n2_ n3_ hb2;have cT:=jDa BT.out;have cH:=jDa BH.out;have cx0:=jDa BX.out;have cx1:=cellA1 BX.out;have cx2:=cellA2 BX.out;have cx3:=cellA3 BX.out))
    go_ret
    exact ⟨by rw [HZ.out];rfl,(bq)⟩
   | true =>
    have E0:=am (show jJa.f l0_0 (jc l0 (i:Int)).f0=some true by rw [hp_has,e0])
    cases e1:hpIn (jc l0 (i:Int)).f1 0 99 with
    | false =>
     have E1:=am (show jWa.f (jc l0 (i:Int)).f1=some false by rw [hp_code,e1])
     have HZ:=am (show r=false by have h:=H'.out;unfold jFa.f at h;rw [← HA.out,HS.out,if_pos (show hpBad l0_0 l0.length (i:Int) (jc l0 (i:Int))=true by simp [hpBad,e0,e1]),if_pos rfl] at h;exact (Option.some.inj h).symm)
     clear e0 e1 HA HS H'
     go_wp2_with (first |(go_at_call 94;refine (jJa.calls _ _ _ _ true _ (Kd.jI HRT.out (bq)) hcT E0.out).mono ?_;rintro e w2 ⟨rfl,hb2⟩;have n0_:=am (jb (g:=wr.heap.size) (o:=.cells #[.int .i64 (jc l0 (i:Int)).f0, .int .i64 (jc l0 (i:Int)).f1, .int .i64 (jc l0 (i:Int)).f2, .int .i64 (jc l0 (i:Int)).f3, .bool (jc l0 (i:Int)).f4] 54 (0,0)) (Y10) hb2);have n1_:=am (jb (g:=w.heap.size) (o:=.cells #[.slice A0_0 l0_0.length c0_0] 37 (0,0)) (kq BT.out) hb2);have n2_:=am (jb (g:=w.heap.size+1) (o:=.cells #[.slice (some ad) l0.length c0] 32 (0,0)) (kq BH.out) hb2);have n3_:=am (jd (bq) hb2);clear BX BT BH HB;(try clear cx0 cx1 cx2 cx3);have BX:=n0_;have BT:=n1_;have BH:=n2_;have HB:=n3_;clear n0_ n1_ n2_ n3_ hb2;have cT:=jDa BT.out;have cH:=jDa BH.out;have cx0:=jDa BX.out;have cx1:=cellA1 BX.out;have cx2:=cellA2 BX.out;have cx3:=cellA3 BX.out) |(go_at_call 95;refine (jWa.calls _ false _ E1.out).mono ?_;rintro e w3 ⟨rfl,hd3⟩;have hb3:=hd3.below;clear hd3;have n0_:=am (jb (g:=wr.heap.size) (o:=.cells #[.int .i64 (jc l0 (i:Int)).f0, .int .i64 (jc l0 (i:Int)).f1, .int .i64 (jc l0 (i:Int)).f2, .int .i64 (jc l0 (i:Int)).f3, .bool (jc l0 (i:Int)).f4] 54 (0,0)) (Y10) hb3);have n1_:=am (jb (g:=w.heap.size) (o:=.cells #[.slice A0_0 l0_0.length c0_0] 37 (0,0)) (kq BT.out) hb3);have n2_:=am (jb (g:=w.heap.size+1) (o:=.cells #[.slice (some ad) l0.length c0] 32 (0,0)) (kq BH.out) hb3);have n3_:=am (jd (bq) hb3);clear BX BT BH HB;(try clear cx0 cx1 cx2 cx3);have BX:=n0_;have BT:=n1_;have BH:=n2_;have HB:=n3_;clear n0_ n1_ n2_ n3_ hb3;have cT:=jDa BT.out;have cH:=jDa BH.out;have cx0:=jDa BX.out;have cx1:=cellA1 BX.out;have cx2:=cellA2 BX.out;have cx3:=cellA3 BX.out))
     go_ret
     exact ⟨by rw [HZ.out];rfl,(bq)⟩
    | true =>
     have E1:=am (show jWa.f (jc l0 (i:Int)).f1=some true by rw [hp_code,e1])
     cases e2:hpLk l0.length (i:Int) (jc l0 (i:Int)).f2 with
     | false =>
      have E2:=am (e2)
      have HZ:=am (show r=false by have h:=H'.out;unfold jFa.f at h;rw [← HA.out,HS.out,if_pos (show hpBad l0_0 l0.length (i:Int) (jc l0 (i:Int))=true by simp [hpBad,e0,e1,e2]),if_pos rfl] at h;exact (Option.some.inj h).symm)
      clear e0 e1 e2 HA HS H'
      go_wp2_with (first |(go_at_call 94;refine (jJa.calls _ _ _ _ true _ (Kd.jI HRT.out (bq)) hcT E0.out).mono ?_;rintro e w2 ⟨rfl,hb2⟩;have n0_:=am (jb (g:=wr.heap.size) (o:=.cells #[.int .i64 (jc l0 (i:Int)).f0, .int .i64 (jc l0 (i:Int)).f1, .int .i64 (jc l0 (i:Int)).f2, .int .i64 (jc l0 (i:Int)).f3, .bool (jc l0 (i:Int)).f4] 54 (0,0)) (Y10) hb2);have n1_:=am (jb (g:=w.heap.size) (o:=.cells #[.slice A0_0 l0_0.length c0_0] 37 (0,0)) (kq BT.out) hb2);have n2_:=am (jb (g:=w.heap.size+1) (o:=.cells #[.slice (some ad) l0.length c0] 32 (0,0)) (kq BH.out) hb2);have n3_:=am (jd (bq) hb2);clear BX BT BH HB;(try clear cx0 cx1 cx2 cx3);have BX:=n0_;have BT:=n1_;have BH:=n2_;have HB:=n3_;clear n0_ n1_ n2_ n3_ hb2;have cT:=jDa BT.out;have cH:=jDa BH.out;have cx0:=jDa BX.out;have cx1:=cellA1 BX.out;have cx2:=cellA2 BX.out;have cx3:=cellA3 BX.out) |(go_at_call 95;refine (jWa.calls _ true _ E1.out).mono ?_;rintro e w3 ⟨rfl,hd3⟩;have hb3:=hd3.below;clear hd3;have n0_:=am (jb (g:=wr.heap.size) (o:=.cells #[.int .i64 (jc l0 (i:Int)).f0, .int .i64 (jc l0 (i:Int)).f1, .int .i64 (jc l0 (i:Int)).f2, .int .i64 (jc l0 (i:Int)).f3, .bool (jc l0 (i:Int)).f4] 54 (0,0)) (Y10) hb3);have n1_:=am (jb (g:=w.heap.size) (o:=.cells #[.slice A0_0 l0_0.length c0_0] 37 (0,0)) (kq BT.out) hb3);have n2_:=am (jb (g:=w.heap.size+1) (o:=.cells #[.slice (some ad) l0.length c0] 32 (0,0)) (kq BH.out) hb3);have n3_:=am (jd (bq) hb3);clear BX BT BH HB;(try clear cx0 cx1 cx2 cx3);have BX:=n0_;have BT:=n1_;have BH:=n2_;have HB:=n3_;clear n0_ n1_ n2_ n3_ hb3;have cT:=jDa BT.out;have cH:=jDa BH.out;have cx0:=jDa BX.out;have cx1:=cellA1 BX.out;have cx2:=cellA2 BX.out;have cx3:=cellA3 BX.out) |(go_at_call 93;refine (jWb _ _ _ _ _ _ _ hmH cH).mono ?_;rw [E2.out];rintro e w4 ⟨rfl,hb4⟩;have n0_:=am (jb (g:=wr.heap.size) (o:=.cells #[.int .i64 (jc l0 (i:Int)).f0, .int .i64 (jc l0 (i:Int)).f1, .int .i64 (jc l0 (i:Int)).f2, .int .i64 (jc l0 (i:Int)).f3, .bool (jc l0 (i:Int)).f4] 54 (0,0)) (Y10) hb4);have n1_:=am (jb (g:=w.heap.size) (o:=.cells #[.slice A0_0 l0_0.length c0_0] 37 (0,0)) (kq BT.out) hb4);have n2_:=am (jb (g:=w.heap.size+1) (o:=.cells #[.slice (some ad) l0.length c0] 32 (0,0)) (kq BH.out) hb4);have n3_:=am (jd (bq) hb4);clear BX BT BH HB;(try clear cx0 cx1 cx2 cx3);have BX:=n0_;have BT:=n1_;have BH:=n2_;have HB:=n3_;clear n0_ n1_ n2_ n3_ hb4;have cT:=jDa BT.out;have cH:=jDa BH.out;have cx0:=jDa BX.out;have cx1:=cellA1 BX.out;have cx2:=cellA2 BX.out;have cx3:=cellA3 BX.out))
      go_ret
      exact ⟨by rw [HZ.out];rfl,(bq)⟩
     | true =>
      have E2:=am (e2)
      cases e3:hpLk l0.length (i:Int) (jc l0 (i:Int)).f3 with
      | false =>
       have E3:=am (e3)
       have HZ:=am (show r=false by have h:=H'.out;unfold jFa.f at h;rw [← HA.out,HS.out,if_pos (show hpBad l0_0 l0.length (i:Int) (jc l0 (i:Int))=true by simp [hpBad,e0,e1,e2,e3]),if_pos rfl] at h;exact (Option.some.inj h).symm)
       clear e0 e1 e2 e3 HA HS H'
       go_wp2_with (first |(go_at_call 94;refine (jJa.calls _ _ _ _ true _ (Kd.jI HRT.out (bq)) hcT E0.out).mono ?_;rintro e w2 ⟨rfl,hb2⟩;have n0_:=am (jb (g:=wr.heap.size) (o:=.cells #[.int .i64 (jc l0 (i:Int)).f0, .int .i64 (jc l0 (i:Int)).f1, .int .i64 (jc l0 (i:Int)).f2, .int .i64 (jc l0 (i:Int)).f3, .bool (jc l0 (i:Int)).f4] 54 (0,0)) (Y10) hb2);have n1_:=am (jb (g:=w.heap.size) (o:=.cells #[.slice A0_0 l0_0.length c0_0] 37 (0,0)) (kq BT.out) hb2);have n2_:=am (jb (g:=w.heap.size+1) (o:=.cells #[.slice (some ad) l0.length c0] 32 (0,0)) (kq BH.out) hb2);have n3_:=am (jd (bq) hb2);clear BX BT BH HB;(try clear cx0 cx1 cx2 cx3);have BX:=n0_;have BT:=n1_;have BH:=n2_;have HB:=n3_;clear n0_ n1_ n2_ n3_ hb2;have cT:=jDa BT.out;have cH:=jDa BH.out;have cx0:=jDa BX.out;have cx1:=cellA1 BX.out;have cx2:=cellA2 BX.out;have cx3:=cellA3 BX.out) |(go_at_call 95;refine (jWa.calls _ true _ E1.out).mono ?_;rintro e w3 ⟨rfl,hd3⟩;have hb3:=hd3.below;clear hd3;have n0_:=am (jb (g:=wr.heap.size) (o:=.cells #[.int .i64 (jc l0 (i:Int)).f0, .int .i64 (jc l0 (i:Int)).f1, .int .i64 (jc l0 (i:Int)).f2, .int .i64 (jc l0 (i:Int)).f3, .bool (jc l0 (i:Int)).f4] 54 (0,0)) (Y10) hb3);have n1_:=am (jb (g:=w.heap.size) (o:=.cells #[.slice A0_0 l0_0.length c0_0] 37 (0,0)) (kq BT.out) hb3);have n2_:=am (jb (g:=w.heap.size+1) (o:=.cells #[.slice (some ad) l0.length c0] 32 (0,0)) (kq BH.out) hb3);have n3_:=am (jd (bq) hb3);clear BX BT BH HB;(try clear cx0 cx1 cx2 cx3);have BX:=n0_;have BT:=n1_;have BH:=n2_;have HB:=n3_;clear n0_ n1_ n2_ n3_ hb3;have cT:=jDa BT.out;have cH:=jDa BH.out;have cx0:=jDa BX.out;have cx1:=cellA1 BX.out;have cx2:=cellA2 BX.out;have cx3:=cellA3 BX.out) |(go_at_call 93;refine (jWb _ _ _ _ _ _ _ hmH cH).mono ?_;(first | rw [E2.out] | rw [E3.out]);rintro e w4 ⟨rfl,hb4⟩;have n0_:=am (jb (g:=wr.heap.size) (o:=.cells #[.int .i64 (jc l0 (i:Int)).f0, .int .i64 (jc l0 (i:Int)).f1, .int .i64 (jc l0 (i:Int)).f2, .int .i64 (jc l0 (i:Int)).f3, .bool (jc l0 (i:Int)).f4] 54 (0,0)) (Y10) hb4);have n1_:=am (jb (g:=w.heap.size) (o:=.cells #[.slice A0_0 l0_0.length c0_0] 37 (0,0)) (kq BT.out) hb4);have n2_:=am (jb (g:=w.heap.size+1) (o:=.cells #[.slice (some ad) l0.length c0] 32 (0,0)) (kq BH.out) hb4);have n3_:=am (jd (bq) hb4);clear BX BT BH HB;(try clear cx0 cx1 cx2 cx3);have BX:=n0_;have BT:=n1_;have BH:=n2_;have HB:=n3_;clear n0_ n1_ n2_ n3_ hb4;have cT:=jDa BT.out;have cH:=jDa BH.out;have cx0:=jDa BX.out;have cx1:=cellA1 BX.out;have cx2:=cellA2 BX.out;have cx3:=cellA3 BX.out))
       go_ret
       exact ⟨by rw [HZ.out];rfl,(bq)⟩
      | true =>
       have E3:=am (e3)
       have HN:=am (show hpAny l0_0 l0 (l0.length - (i+1)) (i+1)=hpAny l0_0 l0 l0.length 0 by rw [← HA.out,HS.out,if_neg (show ¬ hpBad l0_0 l0.length (i:Int) (jc l0 (i:Int))=true by simp [hpBad,e0,e1,e2,e3])])
       clear e0 e1 e2 e3 HA HS H'
       go_wp2_with (first |(go_at_call 94;refine (jJa.calls _ _ _ _ true _ (Kd.jI HRT.out (bq)) hcT E0.out).mono ?_;rintro e w2 ⟨rfl,hb2⟩;have n0_:=am (jb (g:=wr.heap.size) (o:=.cells #[.int .i64 (jc l0 (i:Int)).f0, .int .i64 (jc l0 (i:Int)).f1, .int .i64 (jc l0 (i:Int)).f2, .int .i64 (jc l0 (i:Int)).f3, .bool (jc l0 (i:Int)).f4] 54 (0,0)) (Y10) hb2);have n1_:=am (jb (g:=w.heap.size) (o:=.cells #[.slice A0_0 l0_0.length c0_0] 37 (0,0)) (kq BT.out) hb2);have n2_:=am (jb (g:=w.heap.size+1) (o:=.cells #[.slice (some ad) l0.length c0] 32 (0,0)) (kq BH.out) hb2);have n3_:=am (jd (bq) hb2);clear BX BT BH HB;(try clear cx0 cx1 cx2 cx3);have BX:=n0_;have BT:=n1_;have BH:=n2_;have HB:=n3_;clear n0_ n1_ n2_ n3_ hb2;have cT:=jDa BT.out;have cH:=jDa BH.out;have cx0:=jDa BX.out;have cx1:=cellA1 BX.out;have cx2:=cellA2 BX.out;have cx3:=cellA3 BX.out) |(go_at_call 95;refine (jWa.calls _ true _ E1.out).mono ?_;rintro e w3 ⟨rfl,hd3⟩;have hb3:=hd3.below;clear hd3;have n0_:=am (jb (g:=wr.heap.size) (o:=.cells #[.int .i64 (jc l0 (i:Int)).f0, .int .i64 (jc l0 (i:Int)).f1, .int .i64 (jc l0 (i:Int)).f2, .int .i64 (jc l0 (i:Int)).f3, .bool (jc l0 (i:Int)).f4] 54 (0,0)) (Y10) hb3);have n1_:=am (jb (g:=w.heap.size) (o:=.cells #[.slice A0_0 l0_0.length c0_0] 37 (0,0)) (kq BT.out) hb3);have n2_:=am (jb (g:=w.heap.size+1) (o:=.cells #[.slice (some ad) l0.length c0] 32 (0,0)) (kq BH.out) hb3);have n3_:=am (jd (bq) hb3);clear BX BT BH HB;(try clear cx0 cx1 cx2 cx3);have BX:=n0_;have BT:=n1_;have BH:=n2_;have HB:=n3_;clear n0_ n1_ n2_ n3_ hb3;have cT:=jDa BT.out;have cH:=jDa BH.out;have cx0:=jDa BX.out;have cx1:=cellA1 BX.out;have cx2:=cellA2 BX.out;have cx3:=cellA3 BX.out) |(go_at_call 93;refine (jWb _ _ _ _ _ _ _ hmH cH).mono ?_;(first | rw [E2.out] | rw [E3.out]);rintro e w4 ⟨rfl,hb4⟩;have n0_:=am (jb (g:=wr.heap.size) (o:=.cells #[.int .i64 (jc l0 (i:Int)).f0, .int .i64 (jc l0 (i:Int)).f1, .int .i64 (jc l0 (i:Int)).f2, .int .i64 (jc l0 (i:Int)).f3, .bool (jc l0 (i:Int)).f4] 54 (0,0)) (Y10) hb4);have n1_:=am (jb (g:=w.heap.size) (o:=.cells #[.slice A0_0 l0_0.length c0_0] 37 (0,0)) (kq BT.out) hb4);have n2_:=am (jb (g:=w.heap.size+1) (o:=.cells #[.slice (some ad) l0.length c0] 32 (0,0)) (kq BH.out) hb4);have n3_:=am (jd (bq) hb4);clear BX BT BH HB;(try clear cx0 cx1 cx2 cx3);have BX:=n0_;have BT:=n1_;have BH:=n2_;have HB:=n3_;clear n0_ n1_ n2_ n3_ hb4;have cT:=jDa BT.out;have cH:=jDa BH.out;have cx0:=jDa BX.out;have cx1:=cellA1 BX.out;have cx2:=cellA2 BX.out;have cx3:=cellA3 BX.out))
       go_roundw
       case rel=>exact ⟨i+1,hlt,by go_num,HN,⟨kq BT.out⟩,⟨kq BH.out⟩,⟨(bq)⟩⟩
       case measure=>simp [intOf];omega
  ·obtain rfl:i=l0.length:=by omega
   have HG:=am (show (hpEnds k l0 l0.length 0).bind (fun b=>if b=true then ((jo.f k l0_0).bind fun v=>some (if v=true then decide ((l0.length:Int)≤24) else false)) else some false)=some r by
    have h:=H'.out
    unfold jFa.f at h
    have hA:=HA.out
    rw [Nat.sub_self] at hA
    rw [if_neg (show ¬ hpAny l0_0 l0 l0.length 0=true by rw [← hA];simp [hpAny])] at h
    exact h)
   clear HA H'
   obtain ⟨b,hE,hG⟩:=bzS HG.out
   have HE:=am hE
   have HG2:=am hG
   clear HG hE hG
   go_wp2
   go_loopw [50] (fun v50 wr=>∃ j:Nat,j≤l0.length∧v50=.int .i64 j∧jy (hpEnds k l0 (l0.length - j) j=some b)∧jy (wr.heap[w.heap.size]?=some (.cells #[.slice A0_0 l0_0.length c0_0] 37 (0,0)))∧jy (wr.heap[w.heap.size+1]?=some (.cells #[.slice A0 l0.length c0] 32 (0,0)))∧jy (Below w.heap.size w wr)) (fun v50 _=>l0.length - (intOf v50).toNat)
   case atStart=>exact ⟨0,Nat.zero_le _,rfl,HE,BT,BH,HB⟩
   case round =>
    clear HB BT BH cT cH HE hlt
    obtain ⟨j,hj,rfl,HA,BT,BH,HB⟩:=hrel
    have cT:=jDa BT.out
    have cH:=jDa BH.out
    by_cases hlt:j<l0.length
    ·have hA:=HA.out
     rw [show l0.length - j=(l0.length - (j+1))+1 by omega,hpEnds] at hA
     obtain ⟨l,hl,hA⟩:=bzS hA
     have HC:=am (fun W (hb:Below w.heap.size w W)=>jKa.calls k A0 c0 l0 (j:Int) l W (Kd.jI HRH.out hb) hcH hl)
     clear HA hl
     by_cases hlen:1≤l.length
     ·rw [if_pos hlen] at hA
      obtain ⟨c,hc,hA⟩:=bzS hA
      unfold ctxF at hc
      obtain ⟨ji,hji⟩:∃ ji,ji=(l.length:Int) - 1:=⟨_,rfl⟩
      rw [← hji] at hc
      have HJ:=am hji
      by_cases hc1:0≤rd l ji
      ·rw [if_pos hc1] at hc
       by_cases hc2:rd l ji<(l0.length:Int)
       ·rw [if_pos hc2] at hc
        have hc3:=Option.some.inj hc
        clear hc
        have hl0:0≤ji:=by omega
        have hl1:ji<(l.length:Int):=by omega
        clear hji
        have p0:=ezT hc1
        have p1:=ezT hc2
        have p2:=ezT hl0
        have p3:=ezT hl1
        by_cases e1:c = -1
        ·rw [if_pos e1] at hA
         have HN:=am hA
         have hcb:((jc l0 (rd l ji)).f3 != -1)=false:=by rw [hc3];simpa using e1
         clear hA e1 hc3 hlen
         go_wp2_with (go_at_call 57;refine (HC.out _ (bq)).mono ?_;rintro e w2 ⟨v2,rfl,hr2,hb2⟩;have n1_:=am (jb (g:=w.heap.size) (o:=.cells #[.slice A0_0 l0_0.length c0_0] 37 (0,0)) (kq BT.out) hb2);have n2_:=am (jb (g:=w.heap.size+1) (o:=.cells #[.slice A0 l0.length c0] 32 (0,0)) (kq BH.out) hb2);have n3_:=am (jd (bq) hb2);clear BT BH HB;have BT:=n1_;have BH:=n2_;have HB:=n3_;clear n1_ n2_ n3_ hb2;have cT:=jDa BT.out;have cH:=jDa BH.out;obtain ⟨Ao,co,eo⟩:=Kd.jwa hr2;subst eo;have hw2:IntKind.i64.wrap ((l.length:Int) - 1)=ji:=(by rw [HJ.out];exact IntWalk.i64_in _ (by have:=Kd.C_max (Kd.jq hr2).2.2;omega));obtain ⟨ad2,rfl,hz⟩:=Kd.jrb (Kd.jq hr2).2.2 ji hl0 hl1;obtain ⟨ad,e3,y0,y1,y2,y3,y4⟩:=jjb (Kd.jI HRH.out HB.out) (rd l ji) hc1 hc2;cases e3;clear hr2)
         repeat (go_quiet (fail);try go_wp2)
         go_roundw
         case rel=>exact ⟨j+1,hlt,by go_num,HN,⟨kq BT.out⟩,⟨kq BH.out⟩,⟨(bq)⟩⟩
         case measure=>simp [intOf];omega
        ·rw [if_neg e1] at hA
         have hcb:((jc l0 (rd l ji)).f3 != -1)=true:=by rw [hc3];simpa using e1
         have HZ:=am (show r=false by
          have h:=HG2.out
          rw [← Option.some.inj hA,if_neg (by simp)] at h
          exact (Option.some.inj h).symm)
         clear hA e1 hc3 hlen HG2
         go_wp2_with (go_at_call 57;refine (HC.out _ (bq)).mono ?_;rintro e w2 ⟨v2,rfl,hr2,hb2⟩;have n1_:=am (jb (g:=w.heap.size) (o:=.cells #[.slice A0_0 l0_0.length c0_0] 37 (0,0)) (kq BT.out) hb2);have n2_:=am (jb (g:=w.heap.size+1) (o:=.cells #[.slice A0 l0.length c0] 32 (0,0)) (kq BH.out) hb2);have n3_:=am (jd (bq) hb2);clear BT BH HB;have BT:=n1_;have BH:=n2_;have HB:=n3_;clear n1_ n2_ n3_ hb2;have cT:=jDa BT.out;have cH:=jDa BH.out;obtain ⟨Ao,co,eo⟩:=Kd.jwa hr2;subst eo;have hw2:IntKind.i64.wrap ((l.length:Int) - 1)=ji:=(by rw [HJ.out];exact IntWalk.i64_in _ (by have:=Kd.C_max (Kd.jq hr2).2.2;omega));obtain ⟨ad2,rfl,hz⟩:=Kd.jrb (Kd.jq hr2).2.2 ji hl0 hl1;obtain ⟨ad,e3,y0,y1,y2,y3,y4⟩:=jjb (Kd.jI HRH.out HB.out) (rd l ji) hc1 hc2;cases e3;clear hr2)
         repeat (go_quiet (fail);try go_wp2)
         go_ret
         exact ⟨by rw [HZ.out];rfl,(bq)⟩
       ·rw [if_neg hc2] at hc;cases hc
      ·rw [if_neg hc1] at hc;cases hc
     ·rw [if_neg hlen] at hA;cases hA
    ·obtain rfl:j=l0.length:=by omega
     have hA:=HA.out
     rw [Nat.sub_self] at hA
     have hG:=HG2.out
     rw [← Option.some.inj (show some true=some b from hA),if_pos rfl] at hG
     obtain ⟨v,hv,hG⟩:=bzS hG
     have HV:=am (fun W (hb:Below w.heap.size w W)=>jo.calls k A0_0 c0_0 l0_0 v W (Kd.jI HRT.out hb) hcT hv)
     have hZ:=Option.some.inj hG
     clear HA HG2 hA hG hv
     cases v with
     | false =>
      have HZ:=am (show r=false by rw [← hZ];rfl)
      clear hZ
      go_wp2_with (go_at_call 96;refine (HV.out _ (bq)).mono ?_;rintro e w2 ⟨rfl,hb2⟩;have n1_:=am (jb (g:=w.heap.size) (o:=.cells #[.slice A0_0 l0_0.length c0_0] 37 (0,0)) (kq BT.out) hb2);have n2_:=am (jb (g:=w.heap.size+1) (o:=.cells #[.slice A0 l0.length c0] 32 (0,0)) (kq BH.out) hb2);have n3_:=am (jd (bq) hb2);clear BT BH HB;have BT:=n1_;have BH:=n2_;have HB:=n3_;clear n1_ n2_ n3_ hb2;have cT:=jDa BT.out;have cH:=jDa BH.out)
      go_ret
      exact ⟨by rw [HZ.out];rfl,(bq)⟩
     | true =>
      rw [if_pos rfl] at hZ
      have HZ:=am hZ
      clear hZ
      go_wp2_with (go_at_call 96;refine (HV.out _ (bq)).mono ?_;rintro e w2 ⟨rfl,hb2⟩;have n1_:=am (jb (g:=w.heap.size) (o:=.cells #[.slice A0_0 l0_0.length c0_0] 37 (0,0)) (kq BT.out) hb2);have n2_:=am (jb (g:=w.heap.size+1) (o:=.cells #[.slice A0 l0.length c0] 32 (0,0)) (kq BH.out) hb2);have n3_:=am (jd (bq) hb2);clear BT BH HB;have BT:=n1_;have BH:=n2_;have HB:=n3_;clear n1_ n2_ n3_ hb2;have cT:=jDa BT.out;have cH:=jDa BH.out)
      go_ret
      exact ⟨by rw [← HZ.out];rfl,(bq)⟩
set_option maxHeartbeats 8000000 in
set_option maxRecDepth 100000 in
theorem impl_faultsIn1_calls (A_ : Option Addr) (c_ : Nat) (m : Nat) (x : Int) (B0 : Nat) (w : World) (hm : m ≤ 9223372036854775807) (hc : w.cell? ⟨B0, 0, none⟩ = some (.slice A_ m c_)) :
  Calls Try.prog 74 #[.int .i64 x, .pointer (some ⟨B0,0,none⟩)] w fun e w'=>e=.returned (.bool (!hpIn x 0 ((m:Int) - 1)))∧Below w.heap.size w w':=by
 have HB:=am (Below.refl w.heap.size w)
 have hu32:=Try.underlying32
 have hw2:IntKind.i64.wrap ((m:Int) - 1)=(m:Int) - 1:=IntWalk.i64_in _ (by omega)
 by_cases h1:x≥0
 ·have hb1:=dzT h1
  by_cases h2:x≤(m:Int) - 1
  ·have hb2:=dzT h2
   have HZ:=am (by simp [hpIn];omega:hpIn x 0 ((m:Int) - 1)=true)
   clear h1 h2
   go_enter Try.func74,Try.ntmps74
   go_wp2
   go_ret
   exact ⟨by rw [HZ.out];rfl,(bq)⟩
  ·have hb2:=dzF h2
   have HZ:=am (by simp [hpIn];omega:hpIn x 0 ((m:Int) - 1)=false)
   clear h1 h2
   go_enter Try.func74,Try.ntmps74
   go_wp2
   go_ret
   exact ⟨by rw [HZ.out];rfl,(bq)⟩
 ·have hb1:=dzF h1
  have HZ:=am (by simp [hpIn];omega:hpIn x 0 ((m:Int) - 1)=false)
  clear h1
  go_enter Try.func74,Try.ntmps74
  go_wp2
  go_ret
  exact ⟨by rw [HZ.out];rfl,(bq)⟩
set_option maxHeartbeats 8000000 in
set_option maxRecDepth 100000 in
theorem impl_faultsIn_idx (A_ : Option Addr) (c_ : Nat) (l : List (Int)) (B0_ : Nat) (p : Int → Option Bool) (r : Int) (w : World) (hr : Kd.C (Kd.int .i64) w A_ l.length l) (h : idxFrom p l 0 = some r)
  (hp:∀ W,Below w.heap.size w W→∀ (x:Int) (b:Bool),p x=some b→Calls Try.prog 74 #[.int .i64 x, .pointer (some ⟨B0_,0,none⟩)] W fun e w'=>e=.returned (.bool b)∧Below W.heap.size W w') :
  Calls Try.prog 101 #[.slice A_ l.length c_, .func (.func 74) #[] #[.pointer (some ⟨B0_,0,none⟩)]] w fun e w'=>e=.returned (.int .i64 r)∧Below w.heap.size w w':=by
 have hm:l.length≤9223372036854775807:=Kd.C_max hr
 have HR:=am hr
 have HP:=am hp
 have H0:=am h
 clear hr hp h
 go_enter Try.func101,Try.ntmps101
 go_wp2
 go_loopw [5,8] (fun i5 i8 wr=>∃ k:Nat,k≤l.length∧i8=.int .i64 k∧jy (idxFrom p (l.drop k) k=some r)∧Below w.heap.size w wr) (fun _ i8 _=>l.length - (intOf i8).toNat)
 case atStart=>exact ⟨0,Nat.zero_le _,rfl,H0,Below.refl _ _⟩
 case round =>
  clear H0
  obtain ⟨k,hk,rfl,HA,hb⟩:=hrel
  by_cases hlt:k<l.length
  ·have HB:=am (idxFrom_step hlt HA.out)
   clear HA
   obtain ⟨ad,rfl,hx0⟩:=Kd.jrb HR.out (k:Int) (by omega) (by omega)
   have hrd:rd l (k:Int)=l[k]:=by simp [rd,List.getD_eq_getElem?_getD,hlt]
   replace hx0:=jsa hb hx0
   rw [hrd] at hx0
   simp only [Int.toNat_natCast] at hx0
   clear hrd
   obtain ⟨b,hb1,hb0⟩:=HB.out
   have HQ:=am hb1
   clear hb1 HB
   cases b with
   | true =>
    have HZ:=am (by simpa using hb0:(k:Int)=r)
    clear hb0
    go_wp2_with (go_at_call 74;refine (HP.out _ hb _ _ HQ.out).mono ?_;rintro e w' ⟨rfl,hb2⟩)
    go_ret
    exact ⟨by rw [← HZ.out];rfl,jnb hb hb.size hb2⟩
   | false =>
    have HZ:=am (by simpa using hb0:idxFrom p (l.drop (k+1)) (k+1)=some r)
    clear hb0
    go_wp2_with (go_at_call 74;refine (HP.out _ hb _ _ HQ.out).mono ?_;rintro e w' ⟨rfl,hb2⟩)
    go_roundw
    case rel=>exact ⟨k+1,hlt,by go_num,HZ,jnb hb hb.size hb2⟩
    case measure=>simp [intOf];omega
  ·have HZ:=am (idxFrom_end (by omega) HA.out)
   clear HA
   go_wp2
   go_ret
   exact ⟨by rw [HZ.out];rfl,hb⟩
set_option maxHeartbeats 8000000 in
set_option maxRecDepth 100000 in
theorem impl_faultsIn_any (A_ : Option Addr) (c_ : Nat) (l : List Int) (B0_ : Nat) (p : Int → Option Bool) (r : Int) (w : World) (hr : Kd.C (Kd.int .i64) w A_ l.length l) (h : idxFrom p l 0 = some r)
  (hp:∀ W,Below w.heap.size w W→∀ (x:Int) (b:Bool),p x=some b→Calls Try.prog 74 #[.int .i64 x, .pointer (some ⟨B0_,0,none⟩)] W fun e w'=>e=.returned (.bool b)∧Below W.heap.size W w') :
  Calls Try.prog 73 #[.slice A_ l.length c_, .func (.func 74) #[] #[.pointer (some ⟨B0_,0,none⟩)]] w fun e w'=>e=.returned (.bool (decide (0≤r)))∧Below w.heap.size w w':=by
 have HF:=am (impl_faultsIn_idx A_ c_ l B0_ p r w hr h hp)
 clear hr h hp
 go_enter Try.func73,Try.ntmps73
 go_wp2_with (go_at_call 101;refine HF.out.mono ?_;rintro e w' ⟨rfl,hb2⟩)
 go_ret
 exact ⟨rfl,hb2⟩
def jOa.f (k : Nat) (l0_0 : List S94) (l1_0 : List S54) (l2 : List Int) : Option Bool := (jFa.f k l0_0 l1_0).bind fun v => if v then (idxFrom (fun x => some (!hpIn x 0 ((l1_0.length : Int) - 1))) l2 0).bind fun r => some (!decide (0 ≤ r)) else some false
set_option maxHeartbeats 8000000 in
set_option maxRecDepth 100000 in
theorem jOa.calls (k : Nat) (A0_0 : Option Addr) (c0_0 : Nat) (l0_0 : List (S94)) (A1_0 : Option Addr) (c1_0 : Nat) (l1_0 : List (S54)) (A2 : Option Addr) (c2 : Nat) (l2 : List Int) (r : Bool) (w : World) (hr0_0 : Kd.C k94 w A0_0 l0_0.length l0_0) (hc0_0 : l0_0.length ≤ c0_0) (hr1_0 : Kd.C k54 w A1_0 l1_0.length l1_0) (hc1_0 : l1_0.length ≤ c1_0) (hr2 : Kd.C (Kd.int .i64) w A2 l2.length l2) (hc2 : l2.length ≤ c2) (h : jOa.f k l0_0 l1_0 l2 = some r) :
  Calls Try.prog 45 #[.agg #[.slice A0_0 l0_0.length c0_0], .agg #[.slice A1_0 l1_0.length c1_0], .slice A2 l2.length c2] w fun e w'=>e=.returned (.bool r)∧Below w.heap.size w w':=by
 obtain ⟨v,hv,h⟩:=bzS h
 have hu37:=Try.underlying37
 have hu32:=Try.underlying32
 have hm:l1_0.length≤9223372036854775807:=Kd.C_max hr1_0
 have B0:=am (((Below.refl w.heap.size w).alloc (Nat.le_refl _) (.cells #[.slice A0_0 l0_0.length c0_0] 37)).alloc (by simp) (.cells #[.slice A1_0 l1_0.length c1_0] 32))
 have KC:=am (show ((w.alloc (.cells #[.slice A0_0 l0_0.length c0_0] 37)).alloc (.cells #[.slice A1_0 l1_0.length c1_0] 32)).cell? ⟨w.heap.size+1,0,none⟩=some (.slice A1_0 l1_0.length c1_0) by have h:=hp_cell_new (w.alloc (.cells #[.slice A0_0 l0_0.length c0_0] 37)) (.slice A1_0 l1_0.length c1_0) 32;simpa only [World.size_alloc] using h)
 have HV:=am (fun W (hb:Below w.heap.size w W)=>jFa.calls k A0_0 c0_0 l0_0 A1_0 c1_0 l1_0 v W (Kd.jI hr0_0 hb) hc0_0 (Kd.jI hr1_0 hb) hc1_0 hv)
 cases v with
 | false =>
  obtain rfl:false=r:=by simpa using h
  clear hv h hr0_0 hr1_0 hr2
  go_enter Try.func45,Try.ntmps45
  go_wp2_with (go_at_call 63;refine (HV.out _ B0.out).mono ?_;rintro e w' ⟨rfl,hb2⟩)
  go_ret
  exact ⟨rfl,jnb B0.out B0.out.size hb2⟩
 | true =>
  simp only [if_true] at h
  obtain ⟨q,hq,h⟩:=bzS h
  have HZ:=am (Option.some.inj h)
  have HF:=am (fun W (hb:Below w.heap.size w W) (B:Nat) (hc:W.cell? ⟨B,0,none⟩=some (.slice A1_0 l1_0.length c1_0))=>impl_faultsIn_any A2 c2 l2 B (fun x=>some (!hpIn x 0 ((l1_0.length:Int) - 1))) q W (Kd.jI hr2 hb) hq (fun W' hb' x b hx=>by
   obtain rfl:=Option.some.inj hx
   exact impl_faultsIn1_calls A1_0 c1_0 l1_0.length x B W' hm (jsa hb' hc)))
  clear hv h hq hr0_0 hr1_0 hr2
  go_enter Try.func45,Try.ntmps45
  go_wp2_with (first |(go_at_call 63;refine (HV.out _ B0.out).mono ?_;rintro e w1 ⟨rfl,hb2⟩;have hb1:=jnb B0.out B0.out.size hb2;have hcell:=jsa hb2 KC.out) |(go_at_call 73;refine (HF.out _ hb1 _ hcell).mono ?_;rintro e w2 ⟨rfl,hb3⟩))
  go_ret
  exact ⟨by rw [← HZ.out];rfl,jnb hb1 hb1.size hb3⟩
def cmp_isNaN_int.f (a0 : Int) : Option (Bool) := some (a0 != a0)
set_option maxHeartbeats 8000000 in
set_option maxRecDepth 100000 in
theorem cmp_isNaN_int.calls (a0 : Int) (r : Bool) (w : World) (h : cmp_isNaN_int.f a0 = some r) :
  Calls Try.prog 129 #[.int .i64 a0] w fun e w'=>e=.returned (.bool r)∧jSa w w':=by
 have H:(some (a0 != a0))=some r:=h
 clear h
 obtain rfl:=Option.some.inj H
 go_enter Try.func129,Try.ntmps129
 go_wp2
 go_ret
 exact ⟨sq,Y2⟩
def sh189_ren : Go.Shelf.Ren := ⟨fun | 189 => 82 | 125 => 104 | 257 => 103 | 128 => 120 | 129 => 121 | 294 => 111 | 295 => 112 | 296 => 113 | 297 => 114 | 298 => 115 | 299 => 116 | 216 => 117 | 300 => 118 | 301 => 119 | 328 => 124 | 329 => 125 | 330 => 126 | 331 => 127 | 332 => 128 | 215 => 129 | 343 => 130 | n => n, fun | 28 => 45 | 3 => 3 | 46 => 119 | 0 => 0 | 51 => 134 | 53 => 136 | 4 => 4 | 183 => 127 | 182 => 126 | 131 => 131 | 5 => 5 | 9 => 9 | 218 => 139 | 222 => 87 | 228 => 144 | 229 => 145 | n => n, fun | n => n⟩
theorem sh189 : Go.Proofs.Lays.n189 Try.prog sh189_ren := {
 mixed:=by kernel_rfl
 f125:=Try.func104.trans (congrArg some (by kernel_rfl))
 f128:=Try.func120.trans (congrArg some (by kernel_rfl))
 f129:=Try.func121.trans (congrArg some (by kernel_rfl))
 f189:=Try.func82.trans (congrArg some (by kernel_rfl))
 f215:=Try.func129.trans (congrArg some (by kernel_rfl))
 f216:=Try.func117.trans (congrArg some (by kernel_rfl))
 f257:=Try.func103.trans (congrArg some (by kernel_rfl))
 f294:=Try.func111.trans (congrArg some (by kernel_rfl))
 f295:=Try.func112.trans (congrArg some (by kernel_rfl))
 f296:=Try.func113.trans (congrArg some (by kernel_rfl))
 f297:=Try.func114.trans (congrArg some (by kernel_rfl))
 f298:=Try.func115.trans (congrArg some (by kernel_rfl))
 f299:=Try.func116.trans (congrArg some (by kernel_rfl))
 f300:=Try.func118.trans (congrArg some (by kernel_rfl))
 f301:=Try.func119.trans (congrArg some (by kernel_rfl))
 f328:=Try.func124.trans (congrArg some (by kernel_rfl))
 f329:=Try.func125.trans (congrArg some (by kernel_rfl))
 f330:=Try.func126.trans (congrArg some (by kernel_rfl))
 f331:=Try.func127.trans (congrArg some (by kernel_rfl))
 f332:=Try.func128.trans (congrArg some (by kernel_rfl))
 f343:=Try.func130.trans (congrArg some (by kernel_rfl))
 t0:=Try.underlying0
 a0:=Try.isAgg0
 z0:=Try.sizeOf0
 v0:=Try.zeroValue0
 t3:=Try.underlying3
 a3:=Try.isAgg3
 z3:=Try.sizeOf3
 v3:=Try.zeroValue3
 t4:=Try.underlying4
 a4:=Try.isAgg4
 z4:=Try.sizeOf4
 v4:=Try.zeroValue4
 t5:=Try.underlying5
 a5:=Try.isAgg5
 z5:=Try.sizeOf5
 v5:=Try.zeroValue5
 t9:=Try.underlying9
 a9:=Try.isAgg9
 z9:=Try.sizeOf9
 v9:=Try.zeroValue9
 t28:=Try.underlying45
 a28:=Try.isAgg45
 z28:=Try.sizeOf45
 v28:=Try.zeroValue45
 t46:=Try.underlying119
 a46:=Try.isAgg119
 z46:=Try.sizeOf119
 v46:=Try.zeroValue119
 t51:=Try.underlying134
 a51:=Try.isAgg134
 z51:=Try.sizeOf134
 v51:=Try.zeroValue134
 t53:=Try.underlying136
 a53:=Try.isAgg136
 z53:=Try.sizeOf136
 v53:=Try.zeroValue136
 t131:=Try.underlying131
 a131:=Try.isAgg131
 z131:=Try.sizeOf131
 v131:=Try.zeroValue131
 t182:=Try.underlying126
 a182:=Try.isAgg126
 z182:=Try.sizeOf126
 v182:=Try.zeroValue126
 t183:=Try.underlying127
 a183:=Try.isAgg127
 z183:=Try.sizeOf127
 v183:=Try.zeroValue127
 t218:=Try.underlying139
 a218:=Try.isAgg139
 z218:=Try.sizeOf139
 v218:=Try.zeroValue139
 t222:=Try.underlying87
 a222:=Try.isAgg87
 z222:=Try.sizeOf87
 v222:=Try.zeroValue87
 t228:=Try.underlying144
 a228:=Try.isAgg144
 z228:=Try.sizeOf144
 v228:=Try.zeroValue144
 t229:=Try.underlying145
 a229:=Try.isAgg145
 z229:=Try.sizeOf145
 v229:=Try.zeroValue145 }
theorem rc0 {w : World} {b : Nat} {v : Value} {l : List Value} {t : TypeId} (h : w.heap[b]? = some (.cells ⟨v :: l⟩ t (0, 0))) : w.cell? ⟨b, 0, none⟩ = some v := (jL h 0).trans rfl
theorem cells_sorted {w : World} {base cap n : Nat} {g : Nat} {xs ys : List Int} {os : Array Obj} {ok : Nat → Prop} (hl : ys.length = xs.length) (h : Kd.R (Kd.int .i64) 3 w base ok (.slice (some ⟨g, 0, none⟩) xs.length cap) xs) :
  Kd.R (Kd.int .i64) 3 (Go.Sort.grow (Go.Sort.putRow (Value.int .i64) (Go.Sort.ahead w n) g 0 ys.toArray) os) base ok (.slice (some ⟨g,0,none⟩) xs.length cap) ys∧Below base w (Go.Sort.grow (Go.Sort.putRow (Value.int .i64) (Go.Sort.ahead w n) g 0 ys.toArray) os):=by
 have ho:=Kd.own_of_R h
 obtain ⟨e1,h2 | ⟨g',cap',cur,hv,hb,hh,h1,h3,h4,h5⟩⟩:=ho
 ·exact absurd h2.1 (by simp)
 ·simp only [Value.slice.injEq,Option.some.injEq,Addr.mk.injEq,and_true,true_and] at hv
  obtain ⟨rfl,rfl⟩:=hv
  have hlt:g<w.heap.size:=(Array.getElem?_eq_some_iff.1 hh).1
  have hg:∀ k,k<w.heap.size→k≠g→(Go.Sort.grow (Go.Sort.putRow (Value.int .i64) (Go.Sort.ahead w n) g 0 ys.toArray) os).heap[k]?=w.heap[k]?:=by
   intro k hk hne
   simp only [Go.Sort.grow,Go.Sort.putRow,Go.Sort.mapBlock,Go.Sort.ahead]
   rw [Array.getElem?_append_left (by simpa using hk),Array.getElem?_modify,if_neg (fun e=>hne e.symm)]
  have hgg:(Go.Sort.grow (Go.Sort.putRow (Value.int .i64) (Go.Sort.ahead w n) g 0 ys.toArray) os).heap[g]?=some (.cells (Go.Sort.putCells (Value.int .i64) 0 ys.toArray cur) 3 (0,0)):=by
   simp only [Go.Sort.grow,Go.Sort.putRow,Go.Sort.mapBlock,Go.Sort.ahead]
   rw [Array.getElem?_append_left (by simpa using hlt),Array.getElem?_modify,if_pos rfl,hh]
   rfl
  refine ⟨?_,⟨rfl,rfl,rfl,by simp [Go.Sort.grow,Go.Sort.putRow,Go.Sort.mapBlock,Go.Sort.ahead],fun k hk=>hg k (by omega) (by omega)⟩⟩
  rw [← hl]
  refine Kd.R_of_own ⟨by simp [encs], .inr ⟨g,cap,_,rfl,hb,hgg,by omega,h3,by simpa [Go.Sort.putCells] using h4,?_⟩⟩ h.1
  apply List.ext_getElem?
  intro j
  simp only [List.getElem?_take,encs,Go.Sort.putCells,Array.toList_mapIdx,List.getElem?_mapIdx,Array.getElem?_toList,List.getElem?_map,List.size_toArray,Nat.mul_one,Nat.zero_le,true_and,Nat.zero_add,Nat.sub_zero]
  by_cases hj:j<ys.length
  ·rw [if_pos hj]
   have hc:j<cur.size:=by omega
   rw [Array.getElem?_eq_getElem hc,List.getElem?_eq_getElem hj]
   simp [hj]
  ·rw [if_neg hj,List.getElem?_eq_none (by omega)];rfl
theorem slices_Sort_row (l : List Int) (base : Nat) (ok : Nat → Prop) (g cap : Nat) (w : World) (hR : Kd.R (Kd.int .i64) 3 w base ok (.slice (some ⟨g, 0, none⟩) l.length cap) l) (hsz : l.length < 4611686018427387904) :
  Calls Try.prog 82 #[.slice (some ⟨g,0,none⟩) l.length cap] w fun e w'=>e=.returned (.tuple #[])∧Kd.R (Kd.int .i64) 3 w' base ok (.slice (some ⟨g,0,none⟩) l.length cap) (l.mergeSort fun x y=>decide (x≤y))∧Below base w w':=by
 have hH:Go.Sort.Holds (Value.int .i64) w g 0 l.toArray:=fun j hj=>by
  have hj':j<l.length:=by simpa using hj
  have h:=Kd.R_cell (0:Int) hR (j:Int) (by omega) (by omega)
  rw [Int.toNat_natCast] at h
  refine ⟨?_,by simpa using h.2⟩
  have e:rdOf (0:Int) l (j:Int)=l.toArray[j]!:=by simp [rdOf,hj']
  rw [Nat.zero_add,h.1,e]
 have hlt:g<w.heap.size:=Kd.R_lt hR g rfl
 have hs:=Go.Proofs.Any.slices_Sort_int sh189 g 0 cap l w hH hlt hsz
 refine Calls.mono (show Calls Try.prog 82 _ w _ from hs) ?_
 rintro e w' ⟨rfl,n,os,rfl⟩
 obtain ⟨h1,h2⟩:=cells_sorted (n:=n) (os:=os) (ys:=l.mergeSort fun x y=>decide (x≤y)) (List.length_mergeSort _) hR
 exact ⟨rfl,h1,h2⟩
def rcStep (k : Nat) (out : List Int) (g : Int) : Option (List Int) := if g ≥ 0 then ((jja.f k out g).bind fun b => if b = true then some out else (if out.length < 17592186044416 then some (out ++ [g]) else none)) else some out
def rcAll (k : Nat) : List Int → List Int → Option (List Int)
 | [],out=>some out
 | g :: gs,out=>(rcStep k out g).bind fun o=>rcAll k gs o
def rcGo (h : List S54) : Nat → Nat → List Int → Option (List Int)
 | 0,_,_=>none
 | k+1,i,out=>if i<out.length then (if 0≤rd out (i:Int) then (if rd out (i:Int)<(h.length:Int) then ((rcAll k [(jc h (rd out (i:Int))).f2,(jc h (rd out (i:Int))).f3] out).bind fun o=>rcGo h k (i+1) o) else none) else none) else some out
def jGa.f (k : Nat) (l0_0 : List S54) (a1 : Int) : Option (List Int) := (rcGo l0_0 k 0 [a1]).bind fun l => if 0 < l.length ∧ l.length < 4611686018427387904 then some (l.mergeSort fun x y => decide (x ≤ y)) else none
theorem pairAt {g1 g2 : Int} {j : Nat} (h : j < 2) : [g1, g2].drop j = (if j = 0 then g1 else g2) :: [g1, g2].drop (j + 1) := by
 rcases (by omega:j=0∨j=1) with rfl | rfl <;> rfl
theorem pairCell {w : World} {b : Nat} {g1 g2 : Int} {t : TypeId} (h : w.heap[b]? = some (.cells #[.int .i64 g1, .int .i64 g2] t (0, 0))) {j : Nat} (hj : j < 2) : w.cell? ⟨b, j, none⟩ = some (.int .i64 (if j = 0 then g1 else g2)) := by
 rcases (by omega:j=0∨j=1) with rfl | rfl
 ·exact (jL h 0).trans rfl
 ·exact (jL h 1).trans rfl
set_option maxHeartbeats 8000000 in
set_option maxRecDepth 100000 in
theorem jGa.calls (k : Nat) (A0 : Option Addr) (c0 : Nat) (l0 : List (S54)) (a1 : Int) (r : List Int) (w : World) (hr0 : Kd.C k54 w A0 l0.length l0) (hc0 : l0.length ≤ c0) (h : jGa.f k l0 a1 = some r) :
  Calls Try.prog 54 #[.agg #[.slice A0 l0.length c0], .int .i64 a1] w fun e w'=>∃ v0_:Value,e=.returned (v0_)∧Kd.R (Kd.int .i64) 3 w' w.heap.size (fun _=>True) v0_ r∧Below w.heap.size w w':=by
 have hu32:=Try.underlying32
 have hu54:=Try.underlying54
 have HRH:=am hr0
 obtain ⟨l,hl,h⟩:=bzS h
 have H':=am hl
 have HZ:=am h
 have HB:=am ((Below.refl w.heap.size w).alloc (Nat.le_refl _) (.cells #[.slice A0 l0.length c0] 32))
 have BH:=am (heap_alloc_new w (.cells #[.slice A0 l0.length c0] 32))
 clear hr0 h hl
 go_enter Try.func54,Try.ntmps54
 go_wp2_with ((with_reducible refine jv (N:=10) rfl ?_);refine Kd.R_lit (Kd.int .i64) _ 3 ?hg (N:=10) ?hd (xs:=[a1]) (inner:=[.int .i64 a1]) (ok:=fun _=>True) (okp:=fun _=>True) ?hr ?hp (fun _ hk=>hk) trivial (Below.refl _ _) (Nat.le_refl _) (by simp) ?_;(case hd=>rfl);(case hg=>rfl);(case hr=>exact Y3);(case hp=>exact (Reps.one (show Kd.M (Kd.int .i64) _ _ _ a1 [.int .i64 a1] from rfl) (Reps.none _ _)));intro v111 w4 ho5 hb hg_ hnew_;clear hg_ hnew_;have n0_:=am (Kd.jya ho5 (jE (bq)));have n1_:=am (jb (g:=w.heap.size) (o:=.cells #[.slice A0 l0.length c0] 32 (0,0)) (by first | exact BH.out |((with_reducible repeat (first | refine jr ?_ _ | refine jC ?_ | refine jB ?_ _));exact BH.out)) hb);have n2_:=am (jd (bq) hb);clear HB BH;have HO:=n0_;have BH:=n1_;have HB:=n2_;clear n0_ n1_ n2_ hb ho5)
 go_loopg [5,6] k (fun kq v5 v6 w'=>∃ (i:Nat) (out:List Int),v6=.int .i64 i∧i≤out.length∧jy (rcGo l0 kq i out=some l)∧jy (kq≤k)∧jy (Kd.R (Kd.int .i64) 3 w' w.heap.size (fun _=>True) v5 out)∧jy (w'.heap[w.heap.size]?=some (.cells #[.slice A0 l0.length c0] 32 (0,0)))∧jy (Below w.heap.size w w'))
 case atStart=>exact ⟨0,[a1],rfl,by simp,H',⟨Nat.le_refl _⟩,HO,BH,HB⟩
 case round =>
  clear H' HO BH HB
  obtain ⟨i,out,rfl,hi,HA,HK1,HO,BH,HB⟩:=hrel
  cases gk with
  | zero=>exact absurd HA.out (by simp [rcGo])
  | succ k1 =>
   have H:=HA.out
   clear HA
   rw [rcGo] at H
   obtain ⟨Ao,co,eo⟩:=Kd.jwa HO.out
   subst eo
   have hm:out.length≤9223372036854775807:=Kd.C_max (Kd.jq HO.out).2.2
   by_cases hlt:i<out.length
   ·rw [if_pos hlt] at H
    by_cases h0:0≤rd out (i:Int)
    ·rw [if_pos h0] at H
     by_cases h1:rd out (i:Int)<(l0.length:Int)
     ·rw [if_pos h1] at H
      obtain ⟨o2,hA,H⟩:=bzS H
      have HN:=am H
      have HS:=am hA
      clear H hA
      have cH:=rc0 BH.out
      obtain ⟨ad,rfl,hz⟩:=Kd.jrb (Kd.jq HO.out).2.2 (i:Int) (by omega) (by omega)
      rw [Int.toNat_natCast] at hz
      obtain ⟨ad3,e3,y0,y1,y2,y3,y4⟩:=jjb (Kd.jI HRH.out HB.out) (rd out (i:Int)) h0 h1
      cases e3
      have p0:=ezT h0
      have p1:=ezT h1
      clear h0 h1
      generalize hgz:rd out (i:Int)=z at hz y0 y1 y2 y3 y4 p0 p1 HS
      clear hgz
      have hlb:=ezT hlt
      go_wp2
      refine wp_region_held (S:=fun W=>W.cell? ⟨w.heap.size,0,none⟩=some (.slice (some ad3) l0.length c0)∧W.cell? (ad.add i)=some (.int .i64 z)∧W.cell? ⟨(ad3.add (z.toNat * 5)).block,(ad3.add (z.toNat * 5)).off+2,none⟩=some (.int .i64 (jc l0 z).f2)∧W.cell? ⟨(ad3.add (z.toNat * 5)).block,(ad3.add (z.toNat * 5)).off+3,none⟩=some (.int .i64 (jc l0 z).f3)) (by kernel_rfl) ?_
      change wpAnyH _ _ _ _ _ _ _ _ (World.drew _)
      have hS0:(fun W=>W.cell? ⟨w.heap.size,0,none⟩=some (.slice (some ad3) l0.length c0)∧W.cell? (ad.add i)=some (.int .i64 z)∧W.cell? ⟨(ad3.add (z.toNat * 5)).block,(ad3.add (z.toNat * 5)).off+2,none⟩=some (.int .i64 (jc l0 z).f2)∧W.cell? ⟨(ad3.add (z.toNat * 5)).block,(ad3.add (z.toNat * 5)).off+3,none⟩=some (.int .i64 (jc l0 z).f3)) wr.drew:=⟨cH,hz,y2,y3⟩
      have HB2:=am (jl HB.out)
      have BH2:=am (jC BH.out)
      have HO2:=am (Kd.jHa HO.out)
      obtain ⟨W2,hW2⟩:∃ W2,W2=wr.drew:=⟨_,rfl⟩
      rw [← hW2] at hS0 HB2 BH2 HO2
      rw [← hW2]
      clear hW2 cH hz y0 y1 y2 y3 y4 HB BH HO
      refine wpAnyH_take (i:=0) (v:=?_) rfl (by kernel_rfl) (by kernel_rfl) (by kernel_rfl) (fun _ _ _ h=>h) (Or.inl ⟨by rfl,?_⟩) hS0 ?_
      rotate_left
      ·rintro W ⟨s1,s2,s3,s4⟩
       go_simp
       with_reducible rfl
      refine wpAnyH_take (i:=1) (v:=?_) rfl (by kernel_rfl) (by kernel_rfl) (by kernel_rfl) (fun _ _ _ h=>h) (Or.inl ⟨by rfl,?_⟩) hS0 ?_
      rotate_left
      ·rintro W ⟨s1,s2,s3,s4⟩
       go_simp
       with_reducible rfl
      refine wpAnyH_take (i:=2) (v:=?_) rfl (by kernel_rfl) (by kernel_rfl) (by kernel_rfl) (fun _ _ _ h=>h) (Or.inl ⟨by rfl,?_⟩) hS0 ?_
      rotate_left
      ·rintro W ⟨s1,s2,s3,s4⟩
       go_simp
       with_reducible rfl
      refine wpAnyH_take (i:=3) (v:=?_) rfl (by kernel_rfl) (by kernel_rfl) (by kernel_rfl) (fun _ _ _ h=>h) (Or.inl ⟨by rfl,?_⟩) hS0 ?_
      rotate_left
      ·rintro W ⟨s1,s2,s3,s4⟩
       go_simp
       with_reducible rfl
      refine wpAnyH_take (i:=4) (v:=?_) rfl (by kernel_rfl) (by kernel_rfl) (by kernel_rfl) (fun _ _ _ h=>h) (Or.inl ⟨by rfl,?_⟩) hS0 ?_
      rotate_left
      ·rintro W ⟨s1,s2,s3,s4⟩
       go_simp
       with_reducible rfl
      refine wpAnyH_take (i:=5) (v:=?_) rfl (by kernel_rfl) (by kernel_rfl) (by kernel_rfl) (fun _ _ _ h=>h) (Or.inl ⟨by rfl,?_⟩) hS0 ?_
      rotate_left
      ·rintro W ⟨s1,s2,s3,s4⟩
       go_simp
       with_reducible rfl
      refine wpAnyH_take (i:=6) (v:=?_) rfl (by kernel_rfl) (by kernel_rfl) (by kernel_rfl) (fun _ _ _ h=>h) (Or.inl ⟨by rfl,?_⟩) hS0 ?_
      rotate_left
      ·rintro W ⟨s1,s2,s3,s4⟩
       go_simp
       with_reducible rfl
      refine wpAnyH_take (i:=7) (v:=?_) rfl (by kernel_rfl) (by kernel_rfl) (by kernel_rfl) (fun _ _ _ h=>h) (Or.inl ⟨by rfl,?_⟩) hS0 ?_
      rotate_left
      ·rintro W ⟨s1,s2,s3,s4⟩
       go_simp
       with_reducible rfl
      refine wpAnyH_take (i:=8) (v:=?_) rfl (by kernel_rfl) (by kernel_rfl) (by kernel_rfl) (fun _ _ _ h=>h) (Or.inl ⟨by rfl,?_⟩) hS0 ?_
      rotate_left
      ·rintro W ⟨s1,s2,s3,s4⟩
       go_simp
       with_reducible rfl
      refine wpAnyH_take (i:=9) (v:=?_) rfl (by kernel_rfl) (by kernel_rfl) (by kernel_rfl) (fun _ _ _ h=>h) (Or.inl ⟨by rfl,?_⟩) hS0 ?_
      rotate_left
      ·rintro W ⟨s1,s2,s3,s4⟩
       go_simp
       with_reducible rfl
      refine wpAnyH_take (i:=10) (v:=?_) rfl (by kernel_rfl) (by kernel_rfl) (by kernel_rfl) (fun _ _ _ h=>h) (Or.inl ⟨by rfl,?_⟩) hS0 ?_
      rotate_left
      ·rintro W ⟨s1,s2,s3,s4⟩
       go_simp
       with_reducible rfl
      refine wpAnyH_take (i:=11) (v:=?_) rfl (by kernel_rfl) (by kernel_rfl) (by kernel_rfl) (fun _ _ _ h=>h) (Or.inl ⟨by rfl,?_⟩) hS0 ?_
      rotate_left
      ·rintro W ⟨s1,s2,s3,s4⟩
       go_simp
       with_reducible rfl
      refine wpAnyH_take (i:=12) (v:=?_) rfl (by kernel_rfl) (by kernel_rfl) (by kernel_rfl) (fun _ _ _ h=>h) (Or.inl ⟨by rfl,?_⟩) hS0 ?_
      rotate_left
      ·rintro W ⟨s1,s2,s3,s4⟩
       go_simp
       with_reducible rfl
      refine wpAnyH_take (i:=13) (v:=?_) rfl (by kernel_rfl) (by kernel_rfl) (by kernel_rfl) (fun _ _ _ h=>h) (Or.inl ⟨by rfl,?_⟩) hS0 ?_
      rotate_left
      ·rintro W ⟨s1,s2,s3,s4⟩
       go_simp
       with_reducible rfl
      refine wpAnyH_take (i:=14) (v:=?_) rfl (by kernel_rfl) (by kernel_rfl) (by kernel_rfl) (fun _ _ _ h=>h) (Or.inl ⟨by rfl,?_⟩) hS0 ?_
      rotate_left
      ·rintro W ⟨s1,s2,s3,s4⟩
       go_simp
       with_reducible rfl
      refine wpAnyH_take (i:=15) (v:=?_) rfl (by kernel_rfl) (by kernel_rfl) (by kernel_rfl) (fun _ _ _ h=>h) (Or.inl ⟨by rfl,?_⟩) hS0 ?_
      rotate_left
      ·rintro W ⟨s1,s2,s3,s4⟩
       go_simp
       with_reducible rfl
      refine wpAnyH_take (i:=16) (v:=?_) rfl (by kernel_rfl) (by kernel_rfl) (by kernel_rfl) (fun _ _ _ h=>h) (Or.inl ⟨by rfl,?_⟩) hS0 ?_
      rotate_left
      ·rintro W ⟨s1,s2,s3,s4⟩
       go_simp
       with_reducible rfl
      refine wpAnyH_take (i:=17) (v:=?_) rfl (by kernel_rfl) (by kernel_rfl) (by kernel_rfl) (fun _ _ _ h=>h) (Or.inl ⟨by rfl,?_⟩) hS0 ?_
      rotate_left
      ·rintro W ⟨s1,s2,s3,s4⟩
       go_simp
       with_reducible rfl
      refine wpAnyH_take (i:=20) (v:=?_) rfl (by kernel_rfl) (by kernel_rfl) (by kernel_rfl) (fun _ _ _ h=>h) (Or.inl ⟨by rfl,?_⟩) hS0 ?_
      rotate_left
      ·rintro W ⟨s1,s2,s3,s4⟩
       go_simp
       with_reducible rfl
      refine wpAnyH_all (rs:=[18]) (by kernel_rfl) (by simp) ?_
      intro ii hii
      obtain rfl:ii=18:=by simpa using hii
      clear hii
      refine wpOp_step rfl (fun K hK=>?_)
      go_simp
      have hS1:=(⟨jsa ((Below.refl _ W2).alloc (Nat.le_refl _) (.cells #[.int .i64 (jc l0 z).f2, .int .i64 (jc l0 z).f3] 3)) hS0.1,jsa ((Below.refl _ W2).alloc (Nat.le_refl _) (.cells #[.int .i64 (jc l0 z).f2, .int .i64 (jc l0 z).f3] 3)) hS0.2.1,jsa ((Below.refl _ W2).alloc (Nat.le_refl _) (.cells #[.int .i64 (jc l0 z).f2, .int .i64 (jc l0 z).f3] 3)) hS0.2.2.1,jsa ((Below.refl _ W2).alloc (Nat.le_refl _) (.cells #[.int .i64 (jc l0 z).f2, .int .i64 (jc l0 z).f3] 3)) hS0.2.2.2⟩:(fun W=>W.cell? ⟨w.heap.size,0,none⟩=some (.slice (some ad3) l0.length c0)∧W.cell? (ad.add i)=some (.int .i64 z)∧W.cell? ⟨(ad3.add (z.toNat * 5)).block,(ad3.add (z.toNat * 5)).off+2,none⟩=some (.int .i64 (jc l0 z).f2)∧W.cell? ⟨(ad3.add (z.toNat * 5)).block,(ad3.add (z.toNat * 5)).off+3,none⟩=some (.int .i64 (jc l0 z).f3)) (W2.alloc (.cells #[.int .i64 (jc l0 z).f2, .int .i64 (jc l0 z).f3] 3)))
      refine hK _ _ ⟨hS1,?_⟩
      clear hK K
      refine wpAnyH_all (rs:=[19]) (by kernel_rfl) (by simp) ?_
      intro ii hii
      obtain rfl:ii=19:=by simpa using hii
      clear hii
      refine wpOp_step rfl (fun K hK=>?_)
      go_simp
      refine hK _ _ ⟨hS1,?_⟩
      clear hK K
      refine wpAnyH_done (by kernel_rfl) ?_ _
      have HO:=am (Kd.jNa (Kd.jia (Kd.jNb HO2.out) (fun k hk=>Nat.ne_of_lt hk.2.2.1)) (.cells #[.int .i64 (jc l0 z).f2, .int .i64 (jc l0 z).f3] 3))
      have LB:=am (heap_alloc_new W2 (.cells #[.int .i64 (jc l0 z).f2, .int .i64 (jc l0 z).f3] 3))
      have BH:=am (jB BH2.out (.cells #[.int .i64 (jc l0 z).f2, .int .i64 (jc l0 z).f3] 3))
      have HB:=am (jk HB2.out (.cells #[.int .i64 (jc l0 z).f2, .int .i64 (jc l0 z).f3] 3))
      have HLE:=am (Nat.le_refl out.length)
      clear hS0 hS1 HO2 BH2 HB2
      generalize hgl:W2.heap.size=gl at HO LB ⊢
      rename_i K9 hK9
      refine hK9 _ _ ?_
      go_wp2
      go_loopw [5,37] (fun v5 v37 w3=>∃ (j:Nat) (o:List Int),j≤2∧v37=.int .i64 j∧jy (rcAll k1 ([(jc l0 z).f2,(jc l0 z).f3].drop j) o=some o2)∧jy (out.length≤o.length)∧jy (Kd.R (Kd.int .i64) 3 w3 w.heap.size (fun k=>k≠gl) v5 o)∧jy (w3.heap[gl]?=some (.cells #[.int .i64 (jc l0 z).f2, .int .i64 (jc l0 z).f3] 3 (0,0)))∧jy (w3.heap[w.heap.size]?=some (.cells #[.slice (some ad3) l0.length c0] 32 (0,0)))∧jy (Below w.heap.size w w3)) (fun _ v37 _=>2 - (intOf v37).toNat)
      case atStart=>exact ⟨0,out,by omega,rfl,HS,HLE,HO,LB,BH,HB⟩
      case round =>
       clear HS HLE HO LB BH HB hgl
       obtain ⟨j,o,hj,rfl,HS,HLE,HO,LB,BH,HB⟩:=hrel
       obtain ⟨Ao2,co2,eo⟩:=Kd.jwa HO.out
       subst eo
       by_cases hj2:j<2
       ·have hS:=HS.out
        rw [pairAt hj2,rcAll] at hS
        have cx:=pairCell LB.out hj2
        generalize (if j=0 then (jc l0 z).f2 else (jc l0 z).f3)=x at hS cx
        obtain ⟨o',hs1,hs2⟩:=bzS hS
        have HR2:=am hs2
        have hjb:=ezT (show (j:Int)<2 by omega)
        clear HS hS hs2
        unfold rcStep at hs1
        by_cases c6:x≥0
        ·rw [if_pos c6] at hs1
         have c6b0:decide (0≤x)=true:=dzT c6
         clear c6
         obtain ⟨b,A70,hs1⟩:=bzS hs1
         have A7:=am A70
         clear A70
         cases b with
         | true =>
          rw [if_pos rfl] at hs1
          obtain rfl:=Option.some.inj hs1
          clear hs1
          go_wp2_with (go_at_call 81;(with_reducible refine (jja.calls k1 _ _ o x true _ ?side1 ?side2 A7.out).mono ?_);(case side1=>exact cq (Kd.jq HO.out).2.2);(case side2=>exact (Kd.jq HO.out).2.1);rintro e w' ⟨rfl,⟨nd,rfl⟩⟩)
          go_roundw
          case rel=>exact ⟨j+1,o,by omega,by go_num,HR2,⟨by have:=HLE.out;omega⟩,⟨rq HO.out⟩,⟨kq LB.out⟩,⟨kq BH.out⟩,⟨(bq)⟩⟩
          case measure=>simp [intOf];omega
         | false =>
          rw [if_neg (by simp)] at hs1
          by_cases c10:o.length<17592186044416
          ·rw [if_pos c10] at hs1
           obtain rfl:=Option.some.inj hs1
           have LM:=am c10
           clear c10 hs1
           go_wp2_with (first |(go_at_call 81;(with_reducible refine (jja.calls k1 _ _ o x false _ ?side1 ?side2 A7.out).mono ?_);(case side1=>exact cq (Kd.jq HO.out).2.2);(case side2=>exact (Kd.jq HO.out).2.1);rintro e w' ⟨rfl,⟨nd,rfl⟩⟩) |((with_reducible refine jUb (b:=.append) (xs:=#[.tmp 49, .tmp 51]) rfl ?_);at_builtin;refine Kd.R_append (Kd.int .i64) (w0:=w) w.heap.size rfl (.tmp 49) (.tmp 51) 45 3 (.int .i64 0) 8 rfl Try.underlying45 info3 rfl (by decide) (by omega) (.slice Ao2 o.length co2) o x [.int .i64 x] (fun k=>k≠gl) (fun _=>False) rfl rfl ?aP (fun _ hk=>hk.elim) ?aF ?aO ?aB ?aS ?aL ?_;(case aP=>exact rfl);(case aB=>exact (bq));(case aF=>intro q hq hqe;have h1:=jZ LB.out;subst hqe;simp at hq;omega);(case aO=>exact (rq HO.out));(case aS=>exact (jE (bq)));(case aL=>have:=LM.out;omega);intro v115 w14 ho hb hg hat;have n1_:=am (hb);have n2_:=am (ho);have n3_:=am (jAb (g:=gl) (o:=.cells #[.int .i64 (jc l0 z).f2, .int .i64 (jc l0 z).f3] 3 (0,0)) (kq LB.out) hg (Kd.R_away HO.out (fun q hq=>hq)));have n4_:=am (jAb (g:=w.heap.size) (o:=.cells #[.slice (some ad3) l0.length c0] 32 (0,0)) (kq BH.out) hg (Kd.R_ne HO.out BH.out (by decide)));clear HB HO LB BH;have HB:=n1_;have HO:=n2_;have LB:=n3_;have BH:=n4_;clear n1_ n2_ n3_ n4_ ho hb hg hat))
           go_roundw
           case rel=>exact ⟨j+1,o ++ [x],by omega,by go_num,HR2,⟨by have:=HLE.out;rw [List.length_append];omega⟩,⟨rq HO.out⟩,⟨kq LB.out⟩,⟨kq BH.out⟩,⟨(bq)⟩⟩
           case measure=>simp [intOf];omega
          ·rw [if_neg c10] at hs1;cases hs1
        ·rw [if_neg c6] at hs1
         have c6b0:decide (0≤x)=false:=dzF c6
         obtain rfl:=Option.some.inj hs1
         clear c6 hs1
         go_wp2
         go_roundw
         case rel=>exact ⟨j+1,o,by omega,by go_num,HR2,⟨by have:=HLE.out;omega⟩,⟨rq HO.out⟩,⟨kq LB.out⟩,⟨kq BH.out⟩,⟨(bq)⟩⟩
         case measure=>simp [intOf];omega
       ·obtain rfl:j=2:=by omega
        obtain rfl:=Option.some.inj (show some o=some o2 from HS.out)
        go_wp2
        go_roundg k1
        case measure=>have:=HK1.out;omega
        case rel=>exact ⟨i+1,o,by go_num,by have:=HLE.out;omega,HN,⟨by have:=HK1.out;omega⟩,⟨by (with_reducible repeat (first | apply Kd.jNa | apply Kd.jYa | apply Kd.jHa));exact Kd.jia HO.out (fun _ _=>trivial)⟩,⟨kq BH.out⟩,⟨(bq)⟩⟩
     ·rw [if_neg h1] at H;cases H
    ·rw [if_neg h0] at H;cases H
   ·rw [if_neg hlt] at H
    obtain rfl:=Option.some.inj H
    have hZ:=HZ.out
    by_cases hz0:0<out.length∧out.length<4611686018427387904
    ·rw [if_pos hz0] at hZ
     obtain rfl:=Option.some.inj hZ
     obtain ⟨g,cap,hv,_,_,_⟩:=Kd.R_form HO.out hz0.1
     injection hv with hA1 hA2 hA3
     subst hA1
     have HSZ:=am hz0.2
     have hlb:=eq_false hlt
     clear H hZ hz0 HZ hA2 hA3
     go_wp2_with (first |(go_at_call 82;refine (slices_Sort_row out w.heap.size (fun _=>True) g co _ (rq HO.out) HSZ.out).mono ?_;rintro e w5 ⟨rfl,hs,hb5⟩;have n0_:=am hs;have n1_:=am (Below.trans (bq) hb5);clear HO HB;have HO:=n0_;have HB:=n1_;clear n0_ n1_ hs hb5) |(go_at_call 83;refine (jEa.calls (fun _=>True) _ (out.mergeSort fun x y=>decide (x≤y)) (out.mergeSort fun x y=>decide (x≤y)) w _ (bq) (rq HO.out) (show jEa.f (out.mergeSort fun x y=>decide (x≤y))=some (out.mergeSort fun x y=>decide (x≤y)) from rfl)).mono ?_;rintro e w9 ⟨v9,rfl,hR9,hB9,hK9⟩))
     go_ret
     exact ⟨_,rfl,Kd.jia hR9 (fun _ _=>trivial),hB9⟩
    ·rw [if_neg hz0] at hZ;cases hZ
def jna.f (k : Nat) (l0_0 : List (S94)) (l1_0 : List (S54)) (a2 : Int) : Option (List Int) := (jOa.f k l0_0 l1_0 (([a2] : List Int))).bind fun t289 => (if t289 = true then ((jGa.f k l1_0 a2).bind fun t290 => (some t290)) else (some ([] : List Int)))
set_option maxHeartbeats 8000000 in
set_option maxRecDepth 100000 in
theorem jna.calls (k : Nat) (A0_0 : Option Addr) (c0_0 : Nat) (l0_0 : List (S94)) (A1_0 : Option Addr) (c1_0 : Nat) (l1_0 : List (S54)) (a2 : Int) (r : List Int) (w : World) (hr0_0 : Kd.C k94 w A0_0 l0_0.length l0_0) (hc0_0 : l0_0.length ≤ c0_0) (hr1_0 : Kd.C k54 w A1_0 l1_0.length l1_0) (hc1_0 : l1_0.length ≤ c1_0) (h : jna.f k l0_0 l1_0 a2 = some r) :
  Calls Try.prog 21 #[.agg #[.slice A0_0 l0_0.length c0_0], .agg #[.slice A1_0 l1_0.length c1_0], .int .i64 a2] w fun e w'=>∃ v0_:Value,e=.returned (v0_)∧Kd.R (Kd.int .i64) 3 w' w.heap.size (fun _=>True) v0_ r∧Below w.heap.size w w':=by
 have hu37:=Try.underlying37
 have hu32:=Try.underlying32
 have HR0_0:=am hr0_0
 have HC0_0:=am hc0_0
 clear hr0_0 hc0_0
 have HR1_0:=am hr1_0
 have HC1_0:=am hc1_0
 clear hr1_0 hc1_0
 have HB:=am (Below.refl w.heap.size w)
 have H:((jOa.f k l0_0 l1_0 (([a2]:List Int))).bind fun t289=>(if t289=true then ((jGa.f k l1_0 a2).bind fun t290=>(some t290)) else (some ([]:List Int))))=some r:=h
 clear h
 obtain ⟨y286,hy286⟩:∃ y_:List Int,y_=(([a2]:List Int)):=⟨_,rfl⟩
 replace H:((jOa.f k l0_0 l1_0 y286).bind fun t289=>(if t289=true then ((jGa.f k l1_0 a2).bind fun t290=>(some t290)) else (some ([]:List Int))))=some r:=by first |(rw [hy286];with_reducible exact H) |(have H2_:=(Option.bind_some _ _).symm.trans H;rw [hy286];with_reducible exact H2_) |(have H2_:=(Option.bind_some _ _).symm.trans H;with_reducible exact H2_) | with_reducible exact H |(rw [hy286];exact H) | exact H
 have Ny286:=am hy286
 clear hy286
 replace H:=bzS H
 obtain ⟨t289,A40,H⟩:=H
 replace H:(if t289=true then ((jGa.f k l1_0 a2).bind fun t290=>(some t290)) else (some ([]:List Int)))=some r:=H
 have A4:=am A40
 clear A40
 by_cases c5:t289=true
 ·subst c5
  have H1:((jGa.f k l1_0 a2).bind fun t290=>(some t290))=some r:=by rw [if_pos rfl] at H;exact H
  clear H
  have H:=H1
  clear H1
  replace H:=bzS H
  obtain ⟨t290,A60,H⟩:=H
  replace H:(some t290)=some r:=H
  have A6:=am A60
  clear A60
  obtain rfl:=Option.some.inj H
  go_enter Try.func21,Try.ntmps21
  go_wp2_with (first |((with_reducible refine jv (N:=3) rfl ?_);refine bE (N:=3) (cs:=#[.slice A0_0 l0_0.length c0_0]) (t:=37) ?_;intro gb284 hg w7 hbox hb;have BK284:=am (hbox);have GW284:=am ((Y0:w.heap.size≤gb284));have GE284:=am ((Y0:w.heap.size≤gb284));replace HB:=am (jd (bq) hb);clear hb hbox hg) |((with_reducible refine jv (N:=4) rfl ?_);refine bE (N:=4) (cs:=#[.slice A1_0 l1_0.length c1_0]) (t:=32) ?_;intro gb285 hg w8 hbox hb;have BK285:=am (hbox);have GW285:=am ((Y42:w.heap.size≤gb285));have GE285:=am ((Y42:w.heap.size≤gb285));have NB284_285:=am ((by rw [hg];exact Nat.ne_of_lt (jZ (g:=gb284) (o:=.cells #[.slice A0_0 l0_0.length c0_0] 37 (0,0)) (kq BK284.out)):gb284≠gb285));have NB285_284:=am ((by rw [hg];exact Nat.ne_of_gt (jZ (g:=gb284) (o:=.cells #[.slice A0_0 l0_0.length c0_0] 37 (0,0)) (kq BK284.out)):gb285≠gb284));replace BK284:=am (jb (g:=gb284) (o:=.cells #[.slice A0_0 l0_0.length c0_0] 37 (0,0)) (kq BK284.out) hb);replace HB:=am (jd (Y69) hb);clear hb hbox hg;have hnb9:=NB284_285.out;have hnc9:=NB285_284.out;have hcz10_0:=bc0 BK284.out;have hfz10_0:=ja BK284.out 0;have hcz11_0:=bc0 BK285.out;have hfz11_0:=ja BK285.out 0) |((with_reducible refine jv (N:=10) rfl ?_);refine Kd.R_lit (Kd.int .i64) _ 3 ?hg (N:=10) ?hd (xs:=([a2]:List Int)) (inner:=[.int .i64 a2]) (ok:=fun _=>True) (okp:=fun _=>True) ?hr ?hp (fun _ hk=>hk) trivial (Below.refl _ _) (Nat.le_refl _) (by simp) ?_;(case hd=>rfl);(case hg=>rfl);(case hr=>exact Y3);(case hp=>exact (Reps.one (show Kd.M (Kd.int .i64) _ _ _ a2 [.int .i64 a2] from rfl) (Reps.none _ _)));intro v287 w12 ho13 hb hg_ hnew_;clear hg_ hnew_;(first | rw [← Ny286.out] at ho13 |(simp only [Int.reduceToNat] at ho13;rw [← Ny286.out] at ho13));have HO288:=am (Kd.jya ho13 (jE (Y13)));replace BK284:=am (jb (g:=gb284) (o:=.cells #[.slice A0_0 l0_0.length c0_0] 37 (0,0)) (kq BK284.out) hb);replace BK285:=am (jb (g:=gb285) (o:=.cells #[.slice A1_0 l1_0.length c1_0] 32 (0,0)) (kq BK285.out) hb);replace HB:=am (jd (Y13) hb);clear hb ho13;obtain ⟨Ao14,co14,eo14⟩:=Kd.jwa HO288.out;subst eo14) |((with_reducible refine jw (f:=45) rfl ?_);refine gL (some 11) Try.func45 #[.agg #[.slice A0_0 l0_0.length c0_0], .agg #[.slice A1_0 l1_0.length c1_0], .slice Ao14 y286.length co14] ?_;(with_reducible refine (jOa.calls k _ _ l0_0 _ _ l1_0 _ _ y286 true _ ?side1 ?side2 ?side3 ?side4 ?side5 ?side6 A4.out).mono ?_);(case side1=>exact cq (Kd.jI HR0_0.out HB.out));(case side2=>exact HC0_0.out);(case side3=>exact cq (Kd.jI HR1_0.out HB.out));(case side4=>exact HC1_0.out);(case side5=>exact cq (Kd.jq HO288.out).2.2);(case side6=>exact (Kd.jq HO288.out).2.1);rintro e w15 ⟨rfl,hb⟩;refine ⟨_,rfl,?_⟩;replace HO288:=am (Kd.jU (rq HO288.out) hb);replace BK284:=am (jb (g:=gb284) (o:=.cells #[.slice A0_0 l0_0.length c0_0] 37 (0,0)) (kq BK284.out) hb);replace BK285:=am (jb (g:=gb285) (o:=.cells #[.slice A1_0 l1_0.length c1_0] 32 (0,0)) (kq BK285.out) hb);replace HB:=am (jd (Y13) hb);(try clear hb);(try clear hb2);(try clear hk);(try clear hi);have hcz16_0:=bc0 BK285.out;have hfz16_0:=ja BK285.out 0) |((with_reducible refine jw (f:=54) rfl ?_);refine gL (some 15) Try.func54 #[.agg #[.slice A1_0 l1_0.length c1_0], .int .i64 a2] ?_;(with_reducible refine (jGa.calls k _ _ l1_0 a2 t290 _ ?side1 ?side2 A6.out).mono ?_);(case side1=>exact cq (Kd.jI HR1_0.out HB.out));(case side2=>exact HC1_0.out);rintro e w17 ⟨v291,rfl,ho0,hb⟩;refine ⟨_,rfl,?_⟩;have HO292:=am (Kd.jya (Kd.jac ho0 (Kd.R_lt (rq HO288.out))) (jE (Y13)));replace HO288:=am (Kd.job (rq HO288.out) (Kd.jVb ho0) hb);replace BK284:=am (jb (g:=gb284) (o:=.cells #[.slice A0_0 l0_0.length c0_0] 37 (0,0)) (kq BK284.out) hb);replace BK285:=am (jb (g:=gb285) (o:=.cells #[.slice A1_0 l1_0.length c1_0] 32 (0,0)) (kq BK285.out) hb);replace HB:=am (jd (Y13) hb);(try clear hb);(try clear hb2);(try clear hk);(try clear hi);(try clear ho0)))
  go_ret
  exact ⟨_,Y1,by (with_reducible repeat (first | apply Kd.jNa | apply Kd.jYa | apply Kd.jHa));exact Kd.jia HO292.out (fun _ hk=>trivial),Y13⟩
 ·replace c5:=Bool.eq_false_iff.mpr c5
  subst c5
  have H1:(some ([]:List Int))=some r:=by rw [if_neg (show ¬ (false=true) by decide)] at H;exact H
  clear H
  have H:=H1
  clear H1
  obtain rfl:=Option.some.inj H
  go_enter Try.func21,Try.ntmps21
  go_wp2_with (first |((with_reducible refine jv (N:=3) rfl ?_);refine bE (N:=3) (cs:=#[.slice A0_0 l0_0.length c0_0]) (t:=37) ?_;intro gb284 hg w18 hbox hb;have BK284:=am (hbox);have GW284:=am ((Y0:w.heap.size≤gb284));have GE284:=am ((Y0:w.heap.size≤gb284));replace HB:=am (jd (bq) hb);clear hb hbox hg) |((with_reducible refine jv (N:=4) rfl ?_);refine bE (N:=4) (cs:=#[.slice A1_0 l1_0.length c1_0]) (t:=32) ?_;intro gb285 hg w19 hbox hb;have BK285:=am (hbox);have GW285:=am ((Y42:w.heap.size≤gb285));have GE285:=am ((Y42:w.heap.size≤gb285));have NB284_285:=am ((by rw [hg];exact Nat.ne_of_lt (jZ (g:=gb284) (o:=.cells #[.slice A0_0 l0_0.length c0_0] 37 (0,0)) (kq BK284.out)):gb284≠gb285));have NB285_284:=am ((by rw [hg];exact Nat.ne_of_gt (jZ (g:=gb284) (o:=.cells #[.slice A0_0 l0_0.length c0_0] 37 (0,0)) (kq BK284.out)):gb285≠gb284));replace BK284:=am (jb (g:=gb284) (o:=.cells #[.slice A0_0 l0_0.length c0_0] 37 (0,0)) (kq BK284.out) hb);replace HB:=am (jd (Y69) hb);clear hb hbox hg;have hnb20:=NB284_285.out;have hnc20:=NB285_284.out;have hcz21_0:=bc0 BK284.out;have hfz21_0:=ja BK284.out 0;have hcz22_0:=bc0 BK285.out;have hfz22_0:=ja BK285.out 0) |((with_reducible refine jv (N:=10) rfl ?_);refine Kd.R_lit (Kd.int .i64) _ 3 ?hg (N:=10) ?hd (xs:=([a2]:List Int)) (inner:=[.int .i64 a2]) (ok:=fun _=>True) (okp:=fun _=>True) ?hr ?hp (fun _ hk=>hk) trivial (Below.refl _ _) (Nat.le_refl _) (by simp) ?_;(case hd=>rfl);(case hg=>rfl);(case hr=>exact Y3);(case hp=>exact (Reps.one (show Kd.M (Kd.int .i64) _ _ _ a2 [.int .i64 a2] from rfl) (Reps.none _ _)));intro v287 w23 ho24 hb hg_ hnew_;clear hg_ hnew_;(first | rw [← Ny286.out] at ho24 |(simp only [Int.reduceToNat] at ho24;rw [← Ny286.out] at ho24));have HO288:=am (Kd.jya ho24 (jE (Y13)));replace BK284:=am (jb (g:=gb284) (o:=.cells #[.slice A0_0 l0_0.length c0_0] 37 (0,0)) (kq BK284.out) hb);replace BK285:=am (jb (g:=gb285) (o:=.cells #[.slice A1_0 l1_0.length c1_0] 32 (0,0)) (kq BK285.out) hb);replace HB:=am (jd (Y13) hb);clear hb ho24;obtain ⟨Ao25,co25,eo25⟩:=Kd.jwa HO288.out;subst eo25) |((with_reducible refine jw (f:=45) rfl ?_);refine gL (some 11) Try.func45 #[.agg #[.slice A0_0 l0_0.length c0_0], .agg #[.slice A1_0 l1_0.length c1_0], .slice Ao25 y286.length co25] ?_;(with_reducible refine (jOa.calls k _ _ l0_0 _ _ l1_0 _ _ y286 false _ ?side1 ?side2 ?side3 ?side4 ?side5 ?side6 A4.out).mono ?_);(case side1=>exact cq (Kd.jI HR0_0.out HB.out));(case side2=>exact HC0_0.out);(case side3=>exact cq (Kd.jI HR1_0.out HB.out));(case side4=>exact HC1_0.out);(case side5=>exact cq (Kd.jq HO288.out).2.2);(case side6=>exact (Kd.jq HO288.out).2.1);rintro e w26 ⟨rfl,hb⟩;refine ⟨_,rfl,?_⟩;replace HO288:=am (Kd.jU (rq HO288.out) hb);replace BK284:=am (jb (g:=gb284) (o:=.cells #[.slice A0_0 l0_0.length c0_0] 37 (0,0)) (kq BK284.out) hb);replace BK285:=am (jb (g:=gb285) (o:=.cells #[.slice A1_0 l1_0.length c1_0] 32 (0,0)) (kq BK285.out) hb);replace HB:=am (jd (Y13) hb);(try clear hb);(try clear hb2);(try clear hk);(try clear hi)))
  go_ret
  exact ⟨_,Y1,Y67,Y13⟩
def jib.f (a0_0 : ByteArray) (a0_1 : Int) (a1 : Int) : Option (Int) := if (wrap64 (a1 - (a0_0.size : Int))) < 0 then (some (-1)) else (some (wrap64 (a1 - (a0_0.size : Int))))
set_option maxHeartbeats 8000000 in
set_option maxRecDepth 100000 in
theorem jib.calls (a0_0 : ByteArray) (a0_1 : Int) (a1 : Int) (r : Int) (w : World) (h : jib.f a0_0 a0_1 a1 = some r) :
  Calls Try.prog 68 #[.agg #[.string a0_0, .int .i64 a0_1], .int .i64 a1] w fun e w'=>e=.returned (.int .i64 r)∧Below w.heap.size w w':=by
 have hu92:=Try.underlying92
 have HB:=am (Below.refl w.heap.size w)
 have H:(if (wrap64 (a1 - (a0_0.size:Int)))<0 then (some (-1)) else (some (wrap64 (a1 - (a0_0.size:Int)))))=some r:=h
 clear h
 by_cases c3:(wrap64 (a1 - (a0_0.size:Int)))<0
 ·rw [if_pos c3] at H
  have c3b0:decide ((wrap64 (a1 - (a0_0.size:Int)))<0)=true:=dzT c3
  clear c3
  obtain rfl:=Option.some.inj H
  go_enter Try.func68,Try.ntmps68
  go_wp2_with (first |((with_reducible refine jv (N:=2) rfl ?_);refine bE (N:=2) (cs:=#[.string a0_0, .int .i64 a0_1]) (t:=92) ?_;intro gb657 hg w4 hbox hb;have BK657:=am (hbox);have GW657:=am ((Y0:w.heap.size≤gb657));have GE657:=am ((Y0:w.heap.size≤gb657));replace HB:=am (jd (bq) hb);clear hb hbox hg;have hcz5_0:=bc0 BK657.out;have hcz5_1:=bc1 BK657.out;have hfz5_0:=ja BK657.out 0;have hfz5_1:=ja BK657.out 1))
  go_ret
  exact ⟨Y1,Y70⟩
 ·rw [if_neg c3] at H
  have c3b0:decide ((wrap64 (a1 - (a0_0.size:Int)))<0)=false:=dzF c3
  clear c3
  obtain rfl:=Option.some.inj H
  go_enter Try.func68,Try.ntmps68
  go_wp2_with (first |((with_reducible refine jv (N:=2) rfl ?_);refine bE (N:=2) (cs:=#[.string a0_0, .int .i64 a0_1]) (t:=92) ?_;intro gb657 hg w6 hbox hb;have BK657:=am (hbox);have GW657:=am ((Y0:w.heap.size≤gb657));have GE657:=am ((Y0:w.heap.size≤gb657));replace HB:=am (jd (bq) hb);clear hb hbox hg;have hcz7_0:=bc0 BK657.out;have hcz7_1:=bc1 BK657.out;have hfz7_0:=ja BK657.out 0;have hfz7_1:=ja BK657.out 1))
  go_ret
  exact ⟨Y1,Y70⟩
def jma.l0 : Nat → List (S92) → Int → Int → Option (Int)
 | 0,_,_,_=>none
 | k+1,x0,x1,x5=>if x5<(x0.length:Int) then (if 0≤x5 then ((jib.f ((jqb x0 x5).f0) ((jqb x0 x5).f1) x1).bind fun t659=>(if t659<0 then (some (-1)) else (jma.l0 k x0 t659 (wrap64 (x5+1))))) else (none)) else (some x1)
def jma.f (k : Nat) (l0 : List (S92)) (a1 : Int) : Option (Int) := if (wrap64 (a1 - (l0.length : Int))) < 0 then (some (-1)) else (jma.l0 k l0 (wrap64 (a1 - (l0.length : Int))) 0)
set_option maxHeartbeats 8000000 in
set_option maxRecDepth 100000 in
theorem jma.calls (k : Nat) (A0 : Option Addr) (c0 : Nat) (l0 : List (S92)) (a1 : Int) (r : Int) (w : World) (hr0 : Kd.C k92 w A0 l0.length l0) (hc0 : l0.length ≤ c0) (h : jma.f k l0 a1 = some r) :
  Calls Try.prog 39 #[.slice A0 l0.length c0, .int .i64 a1] w fun e w'=>e=.returned (.int .i64 r)∧Below w.heap.size w w':=by
 have hu92:=Try.underlying92
 have HR0:=am hr0
 have HC0:=am hc0
 clear hr0 hc0
 have HB:=am (Below.refl w.heap.size w)
 have H:(if (wrap64 (a1 - (l0.length:Int)))<0 then (some (-1)) else (jma.l0 k l0 (wrap64 (a1 - (l0.length:Int))) 0))=some r:=h
 clear h
 by_cases c3:(wrap64 (a1 - (l0.length:Int)))<0
 ·rw [if_pos c3] at H
  have c3b0:decide ((wrap64 (a1 - (l0.length:Int)))<0)=true:=dzT c3
  clear c3
  obtain rfl:=Option.some.inj H
  go_enter Try.func39,Try.ntmps39
  go_wp2
  go_ret
  exact ⟨Y1,bq⟩
 ·rw [if_neg c3] at H
  have c3b0:decide ((wrap64 (a1 - (l0.length:Int)))<0)=false:=dzF c3
  clear c3
  have H':=am H
  clear H
  go_enter Try.func39,Try.ntmps39
  go_wp2
  go_loopg [1,5] k (fun kq v1 v5 w'=>∃ (x1_1:Int) (x5_1:Int),v1=.int .i64 x1_1∧v5=.int .i64 x5_1∧jy (jma.l0 kq l0 x1_1 x5_1=some r)∧jy (kq≤k)∧jy (Below w.heap.size w w'))
  case atStart=>exact ⟨(wrap64 (a1 - (l0.length:Int))),(0),(sq),(sq),H',⟨Nat.le_refl _⟩,⟨bq⟩⟩
  case round =>
   clear H'
   try clear p2
   try clear c3
   try clear c3b0
   obtain ⟨x1_1,x5_1,rfl,rfl,HA,HK1,HB⟩:=hrel
   cases gk with
   | zero=>exact absurd HA.out (by simp [jma.l0])
   | succ k1 =>
    have H:=HA.out
    clear HA
    simp only [jma.l0] at H
    by_cases c4:x5_1<(l0.length:Int)
    ·rw [if_pos c4] at H
     have c4b0:decide (x5_1<(l0.length:Int))=true:=dzT c4
     clear c4
     by_cases c5:0≤x5_1
     ·rw [if_pos c5] at H
      have c5b0:decide (0≤x5_1)=true:=dzT c5
      clear c5
      replace H:=bzS H
      obtain ⟨t659,A60,H⟩:=H
      replace H:(if t659<0 then (some (-1)) else (jma.l0 k1 l0 t659 (wrap64 (x5_1+1))))=some r:=H
      have A6:=am A60
      clear A60
      by_cases c7:t659<0
      ·rw [if_pos c7] at H
       have c7b0:decide (t659<0)=true:=dzT c7
       clear c7
       obtain rfl:=Option.some.inj H
       have p658:0≤(x5_1:Int):=ozD (uq)
       have q658:x5_1<(l0.length:Int):=ozD (uq)
       obtain ⟨ad658,e658,hx658_0,hx658_1⟩:=at_T92 HR0.out x5_1 p658 q658
       cases e658
       replace hx658_0:=cb HB.out hx658_0
       replace hx658_1:=cb HB.out hx658_1
       replace p658:=ezT p658
       replace q658:=ezT q658
       go_wp2_with (first |((with_reducible refine jw (f:=68) rfl ?_);refine gL (some 23) Try.func68 #[.agg #[.string ((jqb l0 x5_1).f0), .int .i64 ((jqb l0 x5_1).f1)], .int .i64 x1_1] ?_;(with_reducible refine (jib.calls ((jqb l0 x5_1).f0) ((jqb l0 x5_1).f1) x1_1 t659 _ A6.out).mono ?_);rintro e w8 ⟨rfl,hb⟩;refine ⟨_,rfl,?_⟩;replace HB:=am (jd (bq) hb);(try clear hb);(try clear hb2);(try clear hk);(try clear hi)))
       go_ret
       exact ⟨Y1,bq⟩
      ·rw [if_neg c7] at H
       have c7b0:decide (t659<0)=false:=dzF c7
       clear c7
       have H':=am H
       clear H
       have p658:0≤(x5_1:Int):=ozD (uq)
       have q658:x5_1<(l0.length:Int):=ozD (uq)
       obtain ⟨ad658,e658,hx658_0,hx658_1⟩:=at_T92 HR0.out x5_1 p658 q658
       cases e658
       replace hx658_0:=cb HB.out hx658_0
       replace hx658_1:=cb HB.out hx658_1
       replace p658:=ezT p658
       replace q658:=ezT q658
       go_wp2_with (first |((with_reducible refine jw (f:=68) rfl ?_);refine gL (some 23) Try.func68 #[.agg #[.string ((jqb l0 x5_1).f0), .int .i64 ((jqb l0 x5_1).f1)], .int .i64 x1_1] ?_;(with_reducible refine (jib.calls ((jqb l0 x5_1).f0) ((jqb l0 x5_1).f1) x1_1 t659 _ A6.out).mono ?_);rintro e w9 ⟨rfl,hb⟩;refine ⟨_,rfl,?_⟩;replace HB:=am (jd (bq) hb);(try clear hb);(try clear hb2);(try clear hk);(try clear hi)))
       go_roundg k1
       case measure=>have:=HK1.out;omega
       case rel=>exact ⟨(t659),(wrap64 (x5_1+1)),(sq),(sq),H',⟨by have:=HK1.out;omega⟩,⟨bq⟩⟩
     ·rw [if_neg c5] at H
      exact absurd H (by simp)
    ·rw [if_neg c4] at H
     have c4b0:decide (x5_1<(l0.length:Int))=false:=dzF c4
     clear c4
     obtain rfl:=Option.some.inj H
     go_wp2
     go_ret
     exact ⟨Y1,bq⟩
def jbb.f (k : Nat) (l0_0 : List (S92)) (a1 : Int) : Option (Int) := (jma.f k l0_0 a1).bind fun t661 => (if t661 < 0 then (some (-1)) else (some t661))
set_option maxHeartbeats 8000000 in
set_option maxRecDepth 100000 in
theorem jbb.calls (k : Nat) (A0_0 : Option Addr) (c0_0 : Nat) (l0_0 : List (S92)) (a1 : Int) (r : Int) (w : World) (hr0_0 : Kd.C k92 w A0_0 l0_0.length l0_0) (hc0_0 : l0_0.length ≤ c0_0) (h : jbb.f k l0_0 a1 = some r) :
  Calls Try.prog 9 #[.agg #[.slice A0_0 l0_0.length c0_0], .int .i64 a1] w fun e w'=>e=.returned (.int .i64 r)∧Below w.heap.size w w':=by
 have hu24:=Try.underlying24
 have HR0_0:=am hr0_0
 have HC0_0:=am hc0_0
 clear hr0_0 hc0_0
 have HB:=am (Below.refl w.heap.size w)
 have H:((jma.f k l0_0 a1).bind fun t661=>(if t661<0 then (some (-1)) else (some t661)))=some r:=h
 clear h
 replace H:=bzS H
 obtain ⟨t661,A30,H⟩:=H
 replace H:(if t661<0 then (some (-1)) else (some t661))=some r:=H
 have A3:=am A30
 clear A30
 by_cases c4:t661<0
 ·rw [if_pos c4] at H
  have c4b0:decide (t661<0)=true:=dzT c4
  clear c4
  obtain rfl:=Option.some.inj H
  go_enter Try.func9,Try.ntmps9
  go_wp2_with (first |((with_reducible refine jv (N:=2) rfl ?_);refine bE (N:=2) (cs:=#[.slice A0_0 l0_0.length c0_0]) (t:=24) ?_;intro gb660 hg w5 hbox hb;have BK660:=am (hbox);have GW660:=am ((Y0:w.heap.size≤gb660));have GE660:=am ((Y0:w.heap.size≤gb660));replace HB:=am (jd (bq) hb);clear hb hbox hg;have hcz6_0:=bc0 BK660.out;have hfz6_0:=ja BK660.out 0) |((with_reducible refine jw (f:=39) rfl ?_);refine gL (some 8) Try.func39 #[.slice A0_0 l0_0.length c0_0, .int .i64 a1] ?_;(with_reducible refine (jma.calls k _ _ l0_0 a1 t661 _ ?side1 ?side2 A3.out).mono ?_);(case side1=>exact cq (Kd.jI HR0_0.out HB.out));(case side2=>exact HC0_0.out);rintro e w7 ⟨rfl,hb⟩;refine ⟨_,rfl,?_⟩;replace BK660:=am (jb (g:=gb660) (o:=.cells #[.slice A0_0 l0_0.length c0_0] 24 (0,0)) (kq BK660.out) hb);replace HB:=am (jd (Y43) hb);(try clear hb);(try clear hb2);(try clear hk);(try clear hi)))
  go_ret
  exact ⟨Y1,Y43⟩
 ·rw [if_neg c4] at H
  have c4b0:decide (t661<0)=false:=dzF c4
  clear c4
  obtain rfl:=Option.some.inj H
  go_enter Try.func9,Try.ntmps9
  go_wp2_with (first |((with_reducible refine jv (N:=2) rfl ?_);refine bE (N:=2) (cs:=#[.slice A0_0 l0_0.length c0_0]) (t:=24) ?_;intro gb660 hg w8 hbox hb;have BK660:=am (hbox);have GW660:=am ((Y0:w.heap.size≤gb660));have GE660:=am ((Y0:w.heap.size≤gb660));replace HB:=am (jd (bq) hb);clear hb hbox hg;have hcz9_0:=bc0 BK660.out;have hfz9_0:=ja BK660.out 0) |((with_reducible refine jw (f:=39) rfl ?_);refine gL (some 8) Try.func39 #[.slice A0_0 l0_0.length c0_0, .int .i64 a1] ?_;(with_reducible refine (jma.calls k _ _ l0_0 a1 t661 _ ?side1 ?side2 A3.out).mono ?_);(case side1=>exact cq (Kd.jI HR0_0.out HB.out));(case side2=>exact HC0_0.out);rintro e w10 ⟨rfl,hb⟩;refine ⟨_,rfl,?_⟩;replace BK660:=am (jb (g:=gb660) (o:=.cells #[.slice A0_0 l0_0.length c0_0] 24 (0,0)) (kq BK660.out) hb);replace HB:=am (jd (Y43) hb);(try clear hb);(try clear hb2);(try clear hk);(try clear hi)))
  go_ret
  exact ⟨Y1,Y43⟩
def jdb.f (l0 : List (S97)) (a1 : Int) : Option (Int) := if (wrap64 (a1 - (l0.length : Int))) < 0 then (some (-1)) else (some (wrap64 (a1 - (l0.length : Int))))
set_option maxHeartbeats 8000000 in
set_option maxRecDepth 100000 in
theorem jdb.calls (A0 : Option Addr) (c0 : Nat) (l0 : List (S97)) (a1 : Int) (r : Int) (w : World) (hr0 : Kd.C k97 w A0 l0.length l0) (hc0 : l0.length ≤ c0) (h : jdb.f l0 a1 = some r) :
  Calls Try.prog 40 #[.slice A0 l0.length c0, .int .i64 a1] w fun e w'=>e=.returned (.int .i64 r)∧jSa w w':=by
 have HR0:=am hr0
 have HC0:=am hc0
 clear hr0 hc0
 have H:(if (wrap64 (a1 - (l0.length:Int)))<0 then (some (-1)) else (some (wrap64 (a1 - (l0.length:Int)))))=some r:=h
 clear h
 by_cases c3:(wrap64 (a1 - (l0.length:Int)))<0
 ·rw [if_pos c3] at H
  have c3b0:decide ((wrap64 (a1 - (l0.length:Int)))<0)=true:=dzT c3
  clear c3
  obtain rfl:=Option.some.inj H
  go_enter Try.func40,Try.ntmps40
  go_wp2
  go_ret
  exact ⟨sq,Y2⟩
 ·rw [if_neg c3] at H
  have c3b0:decide ((wrap64 (a1 - (l0.length:Int)))<0)=false:=dzF c3
  clear c3
  obtain rfl:=Option.some.inj H
  go_enter Try.func40,Try.ntmps40
  go_wp2
  go_ret
  exact ⟨sq,Y2⟩
def jcb.f (l0_0 : List (S97)) (a1 : Int) : Option (Int) := (jdb.f l0_0 a1).bind fun t663 => (if t663 < 0 then (some (-1)) else (some t663))
set_option maxHeartbeats 8000000 in
set_option maxRecDepth 100000 in
theorem jcb.calls (A0_0 : Option Addr) (c0_0 : Nat) (l0_0 : List (S97)) (a1 : Int) (r : Int) (w : World) (hr0_0 : Kd.C k97 w A0_0 l0_0.length l0_0) (hc0_0 : l0_0.length ≤ c0_0) (h : jcb.f l0_0 a1 = some r) :
  Calls Try.prog 10 #[.agg #[.slice A0_0 l0_0.length c0_0], .int .i64 a1] w fun e w'=>e=.returned (.int .i64 r)∧Below w.heap.size w w':=by
 have hu27:=Try.underlying27
 have HR0_0:=am hr0_0
 have HC0_0:=am hc0_0
 clear hr0_0 hc0_0
 have HB:=am (Below.refl w.heap.size w)
 have H:((jdb.f l0_0 a1).bind fun t663=>(if t663<0 then (some (-1)) else (some t663)))=some r:=h
 clear h
 replace H:=bzS H
 obtain ⟨t663,A30,H⟩:=H
 replace H:(if t663<0 then (some (-1)) else (some t663))=some r:=H
 have A3:=am A30
 clear A30
 by_cases c4:t663<0
 ·rw [if_pos c4] at H
  have c4b0:decide (t663<0)=true:=dzT c4
  clear c4
  obtain rfl:=Option.some.inj H
  go_enter Try.func10,Try.ntmps10
  go_wp2_with (first |((with_reducible refine jv (N:=2) rfl ?_);refine bE (N:=2) (cs:=#[.slice A0_0 l0_0.length c0_0]) (t:=27) ?_;intro gb662 hg w5 hbox hb;have BK662:=am (hbox);have GW662:=am ((Y0:w.heap.size≤gb662));have GE662:=am ((Y0:w.heap.size≤gb662));replace HB:=am (jd (bq) hb);clear hb hbox hg;have hcz6_0:=bc0 BK662.out;have hfz6_0:=ja BK662.out 0) |((with_reducible refine jw (f:=40) rfl ?_);refine gL (some 8) Try.func40 #[.slice A0_0 l0_0.length c0_0, .int .i64 a1] ?_;(with_reducible refine (jdb.calls _ _ l0_0 a1 t663 _ ?side1 ?side2 A3.out).mono ?_);(case side1=>exact cq (Kd.jI HR0_0.out HB.out));(case side2=>exact HC0_0.out);rintro e w' ⟨rfl,⟨nd,rfl⟩⟩;refine ⟨_,rfl,?_⟩))
  go_ret
  exact ⟨Y1,Y71⟩
 ·rw [if_neg c4] at H
  have c4b0:decide (t663<0)=false:=dzF c4
  clear c4
  obtain rfl:=Option.some.inj H
  go_enter Try.func10,Try.ntmps10
  go_wp2_with (first |((with_reducible refine jv (N:=2) rfl ?_);refine bE (N:=2) (cs:=#[.slice A0_0 l0_0.length c0_0]) (t:=27) ?_;intro gb662 hg w7 hbox hb;have BK662:=am (hbox);have GW662:=am ((Y0:w.heap.size≤gb662));have GE662:=am ((Y0:w.heap.size≤gb662));replace HB:=am (jd (bq) hb);clear hb hbox hg;have hcz8_0:=bc0 BK662.out;have hfz8_0:=ja BK662.out 0) |((with_reducible refine jw (f:=40) rfl ?_);refine gL (some 8) Try.func40 #[.slice A0_0 l0_0.length c0_0, .int .i64 a1] ?_;(with_reducible refine (jdb.calls _ _ l0_0 a1 t663 _ ?side1 ?side2 A3.out).mono ?_);(case side1=>exact cq (Kd.jI HR0_0.out HB.out));(case side2=>exact HC0_0.out);rintro e w' ⟨rfl,⟨nd,rfl⟩⟩;refine ⟨_,rfl,?_⟩))
  go_ret
  exact ⟨Y1,Y71⟩
def jJb.f (a0_0 : ByteArray) (a0_1 : Int) : Option (ByteArray × Int) := some (a0_0, a0_1)
set_option maxHeartbeats 8000000 in
set_option maxRecDepth 100000 in
theorem jJb.calls (a0_0 : ByteArray) (a0_1 : Int) (r1 : ByteArray) (r2 : Int) (w : World) (h : jJb.f a0_0 a0_1 = some (r1, r2)) :
  Calls Try.prog 71 #[.agg #[.string a0_0, .int .i64 a0_1]] w fun e w'=>e=.returned (.agg #[.string r1, .int .i64 r2])∧Below w.heap.size w w':=by
 have hu92:=Try.underlying92
 have hu94:=Try.underlying94
 have HB:=am (Below.refl w.heap.size w)
 have H:(some (a0_0,a0_1))=some (r1,r2):=h
 clear h
 simp only [Option.some.injEq,Prod.mk.injEq] at H
 obtain ⟨rfl,rfl⟩:=H
 go_enter Try.func71,Try.ntmps71
 go_wp2_with (first |((with_reducible refine jv (N:=1) rfl ?_);refine bE (N:=1) (cs:=#[.string a0_0, .int .i64 a0_1]) (t:=92) ?_;intro gb664 hg w2 hbox hb;have BK664:=am (hbox);have GW664:=am ((Y0:w.heap.size≤gb664));have GE664:=am ((Y0:w.heap.size≤gb664));replace HB:=am (jd (bq) hb);clear hb hbox hg) |((with_reducible refine jv (N:=2) rfl ?_);refine bE (N:=2) (cs:=#[.string (⟨#[]⟩:ByteArray), .int .i64 0]) (t:=94) ?_;intro gb665 hg w3 hbox hb;have BK665:=am (hbox);have GW665:=am ((Y72:w.heap.size≤gb665));have GE665:=am ((Y72:w.heap.size≤gb665));have NB664_665:=am ((by rw [hg];exact Nat.ne_of_lt (jZ (g:=gb664) (o:=.cells #[.string a0_0, .int .i64 a0_1] 92 (0,0)) (kq BK664.out)):gb664≠gb665));have NB665_664:=am ((by rw [hg];exact Nat.ne_of_gt (jZ (g:=gb664) (o:=.cells #[.string a0_0, .int .i64 a0_1] 92 (0,0)) (kq BK664.out)):gb665≠gb664));replace BK664:=am (jb (g:=gb664) (o:=.cells #[.string a0_0, .int .i64 a0_1] 92 (0,0)) (kq BK664.out) hb);replace HB:=am (jd (by repeat (first |(with_reducible first | exact HB.out | apply jk | apply jf | apply jl | refine jh ?_ GE664.out) | exact HB.out)) hb);clear hb hbox hg) |((with_reducible refine jv (N:=3) rfl ?_);refine bE (N:=3) (cs:=#[.string (⟨#[]⟩:ByteArray), .int .i64 0]) (t:=94) ?_;intro gb666 hg w4 hbox hb;have BK666:=am (hbox);have GW666:=am ((Y73:w.heap.size≤gb666));have GE666:=am ((Y73:w.heap.size≤gb666));have NB664_666:=am ((by rw [hg];exact Nat.ne_of_lt (jZ (g:=gb664) (o:=.cells #[.string a0_0, .int .i64 a0_1] 92 (0,0)) (kq BK664.out)):gb664≠gb666));have NB666_664:=am ((by rw [hg];exact Nat.ne_of_gt (jZ (g:=gb664) (o:=.cells #[.string a0_0, .int .i64 a0_1] 92 (0,0)) (kq BK664.out)):gb666≠gb664));have NB665_666:=am ((by rw [hg];exact Nat.ne_of_lt (jZ (g:=gb665) (o:=.cells #[.string (⟨#[]⟩:ByteArray), .int .i64 0] 94 (0,0)) (kq BK665.out)):gb665≠gb666));have NB666_665:=am ((by rw [hg];exact Nat.ne_of_gt (jZ (g:=gb665) (o:=.cells #[.string (⟨#[]⟩:ByteArray), .int .i64 0] 94 (0,0)) (kq BK665.out)):gb666≠gb665));replace BK664:=am (jb (g:=gb664) (o:=.cells #[.string a0_0, .int .i64 a0_1] 92 (0,0)) (kq BK664.out) hb);replace BK665:=am (jb (g:=gb665) (o:=.cells #[.string (⟨#[]⟩:ByteArray), .int .i64 0] 94 (0,0)) (kq BK665.out) hb);replace HB:=am (jd (by repeat (first |(with_reducible first | exact HB.out | apply jk | apply jf | apply jl | refine jh ?_ GE664.out | refine jh ?_ GE665.out) | exact HB.out)) hb);clear hb hbox hg;have hnb5:=NB664_665.out;have hnc5:=NB665_664.out;have hnb6:=NB664_666.out;have hnc6:=NB666_664.out;have hcz7_0:=bc0 BK664.out;have hcz7_1:=bc1 BK664.out;have hfz7_0:=ja BK664.out 0;have hfz7_1:=ja BK664.out 1;have hnb8:=NB666_665.out;have hnc8:=NB665_666.out;have hcz9_0:=bc0 BK666.out;have hcz9_1:=bc1 BK666.out;have hfz9_0:=ja BK666.out 0;have hfz9_1:=ja BK666.out 1;have hcz10_0:=bc0 BK665.out;have hcz10_1:=bc1 BK665.out;have hfz10_0:=ja BK665.out 0;have hfz10_1:=ja BK665.out 1))
 refine bodyPost_ret (results_cell_row rfl _ _ gb665 94 #[.string a0_0, .int .i64 a0_1] (0,0) _ rfl (by (with_reducible repeat (first | refine jr ?_ _ | refine jC ?_ | refine jB ?_ _));refine jTa (cs:=#[.string a0_0, .int .i64 0]) ?_ 1 _ rfl;(with_reducible repeat (first | refine jr ?_ _ | refine jC ?_ | refine jB ?_ _));refine jTa (cs:=#[.string (⟨#[]⟩:ByteArray), .int .i64 0]) ?_ 0 _ rfl;(with_reducible repeat (first | refine jr ?_ _ | refine jC ?_ | refine jB ?_ _));refine jIa ?_ NB665_666.out _;(with_reducible repeat (first | refine jr ?_ _ | refine jC ?_ | refine jB ?_ _));refine jIa ?_ NB665_666.out _;(with_reducible repeat (first | refine jr ?_ _ | refine jC ?_ | refine jB ?_ _));exact BK665.out) Try.underlying94 rfl (by kernel_rfl)) rfl ?_
 exact ⟨Y1,by repeat (first |(with_reducible first | exact HB.out | apply jk | apply jf | apply jl | refine jh ?_ GE664.out | refine jh ?_ GE665.out | refine jh ?_ GE666.out) | exact HB.out)⟩
def jla.l0 : Nat → List (S92) → List (S94) → Int → Option ((List (S94)))
 | 0,_,_,_=>none
 | k+1,x0,x3,x4=>if x4<(x0.length:Int) then (if 0≤x4 then ((jJb.f ((jqb x0 x4).f0) ((jqb x0 x4).f1)).bind fun bt671=>(if x4<(x3.length:Int) then (jla.l0 k x0 (x3.set (x4:Int).toNat (⟨bt671.1,bt671.2⟩:S94)) (wrap64 (x4+1))) else (none))) else (none)) else (some x3)
def jla.f (k : Nat) (l0 : List (S92)) : Option ((List (S94))) := if 0 ≤ (l0.length : Int) then (if ((l0.length : Int) : Int).toNat ≤ 11728124029610 then (jla.l0 k l0 (List.replicate ((l0.length : Int) : Int).toNat z94) 0) else (none)) else (none)
set_option maxHeartbeats 8000000 in
set_option maxRecDepth 100000 in
theorem jla.calls (k : Nat) (A0 : Option Addr) (c0 : Nat) (l0 : List (S92)) (r : List (S94)) (w : World) (hr0 : Kd.C k92 w A0 l0.length l0) (hc0 : l0.length ≤ c0) (h : jla.f k l0 = some r) :
  Calls Try.prog 43 #[.slice A0 l0.length c0] w fun e w'=>∃ v0_:Value,e=.returned (v0_)∧Kd.R k94 94 w' w.heap.size (fun _=>True) v0_ r∧Below w.heap.size w w':=by
 have hu92:=Try.underlying92
 have hu94:=Try.underlying94
 have HR0:=am hr0
 have HC0:=am hc0
 clear hr0 hc0
 have HB:=am (Below.refl w.heap.size w)
 have H:(if 0≤(l0.length:Int) then (if ((l0.length:Int):Int).toNat≤11728124029610 then (jla.l0 k l0 (List.replicate ((l0.length:Int):Int).toNat z94) 0) else (none)) else (none))=some r:=h
 clear h
 by_cases c2:0≤(l0.length:Int)
 ·rw [if_pos c2] at H
  have c2b0:=ezT c2
  have c2b1:decide (0≤(l0.length:Int))=true:=dzT c2
  clear c2
  by_cases c3:((l0.length:Int):Int).toNat≤11728124029610
  ·rw [if_pos c3] at H
   have c3b0:=ezT c3
   have c3b1:decide (((l0.length:Int):Int).toNat≤11728124029610)=true:=dzT c3
   clear c3
   obtain ⟨y667,hy667⟩:∃ y_:List (S94),y_=(List.replicate ((l0.length:Int):Int).toNat z94):=⟨_,rfl⟩
   replace H:(jla.l0 k l0 y667 0)=some r:=by first |(rw [hy667];with_reducible exact H) |(have H2_:=(Option.bind_some _ _).symm.trans H;rw [hy667];with_reducible exact H2_) |(have H2_:=(Option.bind_some _ _).symm.trans H;with_reducible exact H2_) | with_reducible exact H |(rw [hy667];exact H) | exact H
   have Ny667:=am hy667
   clear hy667
   have H':=am H
   clear H
   go_enter Try.func43,Try.ntmps43
   go_wp2_with (first |((with_reducible refine jv (N:=7) rfl ?_);refine Kd.R_make k94 _ 94 rfl (N:=7) rfl 35 _ _ rfl (l0.length:Int) rfl rfl Try.underlying35 (.agg #[(.string ⟨#[]⟩),(.int .i64 0)]) 24 info94 rfl (by decide) (by omega) z94 (ok:=fun _=>True) (okp:=fun _=>True) (k94_mkM _ _ _ z94 ) (fun _ hk=>hk) trivial (ozD (uq)) (Nat.le_trans (Nat.mul_le_mul_right _ (ozD (uq):(l0.length:Int).toNat≤11728124029610)) (by omega)) (Below.refl _ _) (Nat.le_refl _) ?_;intro v668 w4 ho5 hb hg_ hnew_;clear hg_ hnew_;(first | rw [← Ny667.out] at ho5 |(simp only [Int.reduceToNat] at ho5;rw [← Ny667.out] at ho5));have HO669:=am (Kd.jya ho5 (jE (bq)));replace HB:=am (jd (bq) hb);clear hb ho5))
   go_loopg [4] k (fun kq v4 w'=>∃ (x3_1:List (S94)) (x4_1:Int),v4=.int .i64 x4_1∧jy (jla.l0 kq l0 x3_1 x4_1=some r)∧jy (kq≤k)∧jy (Kd.R k94 94 w' w.heap.size (fun _=>True) v668 x3_1)∧jy (Below w.heap.size w w'))
   case atStart=>exact ⟨(y667),(0),(sq),H',⟨Nat.le_refl _⟩,⟨rq HO669.out⟩,⟨bq⟩⟩
   case round =>
    clear H'
    try clear c2
    try clear c2b0
    try clear c2b1
    try clear p2
    try clear c3
    try clear c3b0
    try clear c3b1
    try clear c4
    obtain ⟨x3_1,x4_1,rfl,HA,HK1,HO_3,HB⟩:=hrel
    cases gk with
    | zero=>exact absurd HA.out (by simp [jla.l0])
    | succ k1 =>
     have H:=HA.out
     clear HA
     simp only [jla.l0] at H
     by_cases c6:x4_1<(l0.length:Int)
     ·rw [if_pos c6] at H
      have c6b0:decide (x4_1<(l0.length:Int))=true:=dzT c6
      clear c6
      by_cases c7:0≤x4_1
      ·rw [if_pos c7] at H
       have c7b0:decide (0≤x4_1)=true:=dzT c7
       clear c7
       replace H:=bzS H
       obtain ⟨⟨t671,t672⟩,A80,H⟩:=H
       replace H:(if x4_1<(x3_1.length:Int) then (jla.l0 k1 l0 (x3_1.set (x4_1:Int).toNat (⟨t671,t672⟩:S94)) (wrap64 (x4_1+1))) else (none))=some r:=H
       have A8:=am A80
       clear A80
       by_cases c9:x4_1<(x3_1.length:Int)
       ·rw [if_pos c9] at H
        have c9b0:decide (x4_1<(x3_1.length:Int))=true:=dzT c9
        clear c9
        obtain ⟨y673,hy673⟩:∃ y_:List (S94),y_=(x3_1.set (x4_1:Int).toNat (⟨t671,t672⟩:S94)):=⟨_,rfl⟩
        replace H:(jla.l0 k1 l0 y673 (wrap64 (x4_1+1)))=some r:=by first |(rw [hy673];with_reducible exact H) |(have H2_:=(Option.bind_some _ _).symm.trans H;rw [hy673];with_reducible exact H2_) |(have H2_:=(Option.bind_some _ _).symm.trans H;with_reducible exact H2_) | with_reducible exact H |(rw [hy673];exact H) | exact H
        have Ny673:=am hy673
        clear hy673
        have H':=am H
        clear H
        have p670:0≤(x4_1:Int):=ozD (uq)
        have q670:x4_1<(l0.length:Int):=ozD (uq)
        obtain ⟨ad670,e670,hx670_0,hx670_1⟩:=at_T92 HR0.out x4_1 p670 q670
        cases e670
        replace hx670_0:=cb HB.out hx670_0
        replace hx670_1:=cb HB.out hx670_1
        replace p670:=ezT p670
        replace q670:=ezT q670
        go_wp2_with (first |((with_reducible refine jw (f:=71) rfl ?_);refine gL (some 20) Try.func71 #[.agg #[.string ((jqb l0 x4_1).f0), .int .i64 ((jqb l0 x4_1).f1)]] ?_;(with_reducible refine (jJb.calls ((jqb l0 x4_1).f0) ((jqb l0 x4_1).f1) t671 t672 _ A8.out).mono ?_);rintro e w11 ⟨rfl,hb⟩;refine ⟨_,rfl,?_⟩;replace HO_3:=am (Kd.jU (rq HO_3.out) hb);replace HB:=am (jd (bq) hb);(try clear hb);(try clear hb2);(try clear hk);(try clear hi);have p10:0≤(x4_1:Int):=ozD (uq);have q10:(x4_1:Int)<((x3_1.length:Int):Int):=ozD (uq);obtain ⟨go10,co10,eo10,gb10,gl10,cl10,HG10⟩:=Kd.R_form HO_3.out (by omega);(first | cases eo10 |(injection eo10 with ea_ en_ ec_;(first | subst ea_ |(injection ea_ with ea_;subst ea_));subst ec_;clear en_));have GB10:=am gb10;have GG10:=am HG10;clear gb10 gl10 HG10;obtain ⟨ce10,hcl10,hM10,hcc10,hfr10⟩:=Kd.jEb HO_3.out z94 (x4_1:Int) p10 q10;obtain rfl:=jZb hM10;have hx10_0:w11.cell? ⟨go10,(x4_1:Int).toNat * 2,none⟩=some (.string ((jF x3_1 x4_1).f0)):=hcc10 0 _ rfl;have hx10_1:w11.cell? ⟨go10,(x4_1:Int).toNat * 2+1,none⟩=some (.int .i64 ((jF x3_1 x4_1).f1)):=hcc10 1 _ rfl;have hf10_0:w11.frozen? ⟨go10,(x4_1:Int).toNat * 2,none⟩=false:=hfr10 0;have hf10_1:w11.frozen? ⟨go10,(x4_1:Int).toNat * 2+1,none⟩=false:=hfr10 1;clear hcl10 hcc10 hfr10 hM10;replace p10:=ezT p10;replace q10:=ezT q10;have HX12:=am (show Kd.R k94 94 w11 w.heap.size (fun _=>True) (.slice (some ⟨go10,0,none⟩) x3_1.length co10) x3_1 from (rq HO_3.out));obtain ⟨ce12,hcl12,hM12,hcc12,hfr12⟩:=Kd.jEb HX12.out z94 (x4_1:Int) (ozD (uq)) (by have h_:(x4_1:Int)<((x3_1.length:Int):Int):=ozD (uq);first | exact h_ |(have e_:=(Kd.jq HO_3.out).1;omega) | simpa using h_);obtain rfl:=jZb hM12;have HP12:=Kd.R_seg HX12.out (x4_1:Int) (ozD (uq)) (by have h_:(x4_1:Int)<((x3_1.length:Int):Int):=ozD (uq);first | exact h_ |(have e_:=(Kd.jq HO_3.out).1;omega) | simpa using h_) (seg:=[.string t671, .int .i64 t672]) (j:=0) hcl12 hcc12 (show 2≤2 from by decide) (x':=(⟨t671,t672⟩:S94)) (k94_mkM _ _ _ (⟨t671,t672⟩:S94) ) (fun _ hk=>hk);have hx12_0:=hcc12 0 _ rfl;(try simp only [show (k94).sz=2 from rfl,Nat.mul_one,Nat.add_zero] at hx12_0);have hf12_0:=hfr12 0;(try simp only [show (k94).sz=2 from rfl,Nat.mul_one,Nat.add_zero] at hf12_0);have hx12_1:=hcc12 1 _ rfl;(try simp only [show (k94).sz=2 from rfl,Nat.mul_one,Nat.add_zero] at hx12_1);have hf12_1:=hfr12 1;(try simp only [show (k94).sz=2 from rfl,Nat.mul_one,Nat.add_zero] at hf12_1);clear hcl12 hcc12 hfr12 hM12) |((with_reducible refine jfb (t:=94) (p:=21) rfl ?_);refine jVa (t:=94) (p:=21) (v:=?vo_w13) (w1:=((w11.setCell ⟨go10,(x4_1:Int).toNat * 2,none⟩ (.string t671)).setCell ⟨go10,(x4_1:Int).toNat * 2+1,none⟩ (.int .i64 t672))) ?hg ?ho ?hn ?hr ?_;(case ho=>rfl);(case hg=>rfl);(case hn=>rfl);(case hr=>exact Y3);intro w13 hw;have hg:w11.grownBy w13 (some go10):=(by rw [hw];exact HP12.2);have hp_:Kd.R k94 94 w13 w.heap.size (fun _=>True) (.slice (some ⟨go10,0,none⟩) x3_1.length co10) y673:=(by rw [hw,Ny673.out];exact HP12.1);clear HP12;replace HO_3:=am (hp_);replace HB:=am ((by rw [hw];exact jh (jh (HB.out) GB10.out) GB10.out:Below w.heap.size w w13));clear hg hw hp_))
        go_roundg k1
        case measure=>have:=HK1.out;omega
        case rel=>exact ⟨(y673),(wrap64 (x4_1+1)),(sq),H',⟨by have:=HK1.out;omega⟩,⟨rq HO_3.out⟩,⟨bq⟩⟩
       ·rw [if_neg c9] at H
        exact absurd H (by simp)
      ·rw [if_neg c7] at H
       exact absurd H (by simp)
     ·rw [if_neg c6] at H
      have c6b0:decide (x4_1<(l0.length:Int))=false:=dzF c6
      clear c6
      obtain rfl:=Option.some.inj H
      go_wp2
      go_ret
      exact ⟨_,Y1,rq HO_3.out,bq⟩
  ·rw [if_neg c3] at H
   exact absurd H (by simp)
 ·rw [if_neg c2] at H
  exact absurd H (by simp)
def jW.f (k : Nat) (l0_0 : List (S92)) : Option ((List (S94))) := (jla.f k l0_0).bind fun t677 => (some t677)
set_option maxHeartbeats 8000000 in
set_option maxRecDepth 100000 in
theorem jW.calls (k : Nat) (A0_0 : Option Addr) (c0_0 : Nat) (l0_0 : List (S92)) (r : List (S94)) (w : World) (hr0_0 : Kd.C k92 w A0_0 l0_0.length l0_0) (hc0_0 : l0_0.length ≤ c0_0) (h : jW.f k l0_0 = some r) :
  Calls Try.prog 12 #[.agg #[.slice A0_0 l0_0.length c0_0]] w fun e w'=>∃ v0_:Value,e=.returned (.agg #[v0_])∧Kd.R k94 94 w' w.heap.size (fun _=>True) v0_ r∧Below w.heap.size w w':=by
 have hu24:=Try.underlying24
 have hu37:=Try.underlying37
 have HR0_0:=am hr0_0
 have HC0_0:=am hc0_0
 clear hr0_0 hc0_0
 have HB:=am (Below.refl w.heap.size w)
 have H:((jla.f k l0_0).bind fun t677=>(some t677))=some r:=h
 clear h
 replace H:=bzS H
 obtain ⟨t677,A20,H⟩:=H
 replace H:(some t677)=some r:=H
 have A2:=am A20
 clear A20
 obtain rfl:=Option.some.inj H
 go_enter Try.func12,Try.ntmps12
 go_wp2_with (first |((with_reducible refine jv (N:=1) rfl ?_);refine bE (N:=1) (cs:=#[.slice A0_0 l0_0.length c0_0]) (t:=24) ?_;intro gb674 hg w3 hbox hb;have BK674:=am (hbox);have GW674:=am ((Y0:w.heap.size≤gb674));have GE674:=am ((Y0:w.heap.size≤gb674));replace HB:=am (jd (bq) hb);clear hb hbox hg) |((with_reducible refine jv (N:=2) rfl ?_);refine bE (N:=2) (cs:=#[.slice none 0 0]) (t:=37) ?_;intro gb675 hg w4 hbox hb;have BK675:=am (hbox);have GW675:=am ((Y74:w.heap.size≤gb675));have GE675:=am ((Y74:w.heap.size≤gb675));have NB674_675:=am ((by rw [hg];exact Nat.ne_of_lt (jZ (g:=gb674) (o:=.cells #[.slice A0_0 l0_0.length c0_0] 24 (0,0)) (kq BK674.out)):gb674≠gb675));have NB675_674:=am ((by rw [hg];exact Nat.ne_of_gt (jZ (g:=gb674) (o:=.cells #[.slice A0_0 l0_0.length c0_0] 24 (0,0)) (kq BK674.out)):gb675≠gb674));replace BK674:=am (jb (g:=gb674) (o:=.cells #[.slice A0_0 l0_0.length c0_0] 24 (0,0)) (kq BK674.out) hb);replace HB:=am (jd (by repeat (first |(with_reducible first | exact HB.out | apply jk | apply jf | apply jl | refine jh ?_ GE674.out) | exact HB.out)) hb);clear hb hbox hg) |((with_reducible refine jv (N:=3) rfl ?_);refine bE (N:=3) (cs:=#[.slice none 0 0]) (t:=37) ?_;intro gb676 hg w5 hbox hb;have BK676:=am (hbox);have GW676:=am ((Y75:w.heap.size≤gb676));have GE676:=am ((Y75:w.heap.size≤gb676));have NB674_676:=am ((by rw [hg];exact Nat.ne_of_lt (jZ (g:=gb674) (o:=.cells #[.slice A0_0 l0_0.length c0_0] 24 (0,0)) (kq BK674.out)):gb674≠gb676));have NB676_674:=am ((by rw [hg];exact Nat.ne_of_gt (jZ (g:=gb674) (o:=.cells #[.slice A0_0 l0_0.length c0_0] 24 (0,0)) (kq BK674.out)):gb676≠gb674));have NB675_676:=am ((by rw [hg];exact Nat.ne_of_lt (jZ (g:=gb675) (o:=.cells #[.slice none 0 0] 37 (0,0)) (kq BK675.out)):gb675≠gb676));have NB676_675:=am ((by rw [hg];exact Nat.ne_of_gt (jZ (g:=gb675) (o:=.cells #[.slice none 0 0] 37 (0,0)) (kq BK675.out)):gb676≠gb675));replace BK674:=am (jb (g:=gb674) (o:=.cells #[.slice A0_0 l0_0.length c0_0] 24 (0,0)) (kq BK674.out) hb);replace BK675:=am (jb (g:=gb675) (o:=.cells #[.slice none 0 0] 37 (0,0)) (kq BK675.out) hb);replace HB:=am (jd (by repeat (first |(with_reducible first | exact HB.out | apply jk | apply jf | apply jl | refine jh ?_ GE674.out | refine jh ?_ GE675.out) | exact HB.out)) hb);clear hb hbox hg;have hnb6:=NB674_675.out;have hnc6:=NB675_674.out;have hnb7:=NB674_676.out;have hnc7:=NB676_674.out;have hcz8_0:=bc0 BK674.out;have hfz8_0:=ja BK674.out 0) |((with_reducible refine jw (f:=43) rfl ?_);refine gL (some 6) Try.func43 #[.slice A0_0 l0_0.length c0_0] ?_;(with_reducible refine (jla.calls k _ _ l0_0 t677 _ ?side1 ?side2 A2.out).mono ?_);(case side1=>exact cq (Kd.jI HR0_0.out HB.out));(case side2=>exact HC0_0.out);rintro e w9 ⟨v678,rfl,ho0,hb⟩;refine ⟨_,rfl,?_⟩;have HO679:=am (Kd.jya ho0 (jE (Y57)));replace BK674:=am (jb (g:=gb674) (o:=.cells #[.slice A0_0 l0_0.length c0_0] 24 (0,0)) (kq BK674.out) hb);replace BK675:=am (jb (g:=gb675) (o:=.cells #[.slice none 0 0] 37 (0,0)) (kq BK675.out) hb);replace BK676:=am (jb (g:=gb676) (o:=.cells #[.slice none 0 0] 37 (0,0)) (kq BK676.out) hb);replace HB:=am (jd (Y57) hb);(try clear hb);(try clear hb2);(try clear hk);(try clear hi);(try clear ho0);obtain ⟨Ao10,co10,eo10⟩:=Kd.jwa HO679.out;subst eo10;have hnb11:=NB676_675.out;have hnc11:=NB675_676.out;have hcz12_0:=bc0 BK676.out;have hfz12_0:=ja BK676.out 0;have hcz13_0:=bc0 BK675.out;have hfz13_0:=ja BK675.out 0))
 refine bodyPost_ret (results_cell_row rfl _ _ gb675 37 #[.slice Ao10 t677.length co10] (0,0) _ rfl (by (with_reducible repeat (first | refine jr ?_ _ | refine jC ?_ | refine jB ?_ _));refine jTa (cs:=#[.slice none 0 0]) ?_ 0 _ rfl;(with_reducible repeat (first | refine jr ?_ _ | refine jC ?_ | refine jB ?_ _));refine jIa ?_ NB675_676.out _;(with_reducible repeat (first | refine jr ?_ _ | refine jC ?_ | refine jB ?_ _));exact BK675.out) Try.underlying37 rfl (by kernel_rfl)) rfl ?_
 exact ⟨_,Y1,by (with_reducible repeat (first | apply Kd.jNa | apply Kd.jYa | apply Kd.jHa));exact Kd.jia (Kd.R_far (p:=⟨gb675,0,none⟩) (Kd.R_far (p:=⟨gb676,0,none⟩) (Kd.jBb (Kd.jBb HO679.out BK676.out (by decide)) BK675.out (by decide)) (fun _ hk=>hk.1.2) (.slice Ao10 t677.length co10)) (fun _ hk=>hk.2) (.slice Ao10 t677.length co10)) (fun _ hk=>trivial),Y57⟩
def jIb.f (a0_0 : Int) (a0_1 : Int) (a0_2 : Int) (a0_3 : Int) (a0_4 : Bool) : Option (Int × Int × Int × Int × Bool) := some (a0_0, a0_1, a0_2, a0_3, a0_4)
set_option maxHeartbeats 8000000 in
set_option maxRecDepth 100000 in
theorem jIb.calls (a0_0 : Int) (a0_1 : Int) (a0_2 : Int) (a0_3 : Int) (a0_4 : Bool) (r1 : Int) (r2 : Int) (r3 : Int) (r4 : Int) (r5 : Bool) (w : World) (h : jIb.f a0_0 a0_1 a0_2 a0_3 a0_4 = some (r1, r2, r3, r4, r5)) :
  Calls Try.prog 72 #[.agg #[.int .i64 a0_0, .int .i64 a0_1, .int .i64 a0_2, .int .i64 a0_3, .bool a0_4]] w fun e w'=>e=.returned (.agg #[.int .i64 r1, .int .i64 r2, .int .i64 r3, .int .i64 r4, .bool r5])∧Below w.heap.size w w':=by
 have hu97:=Try.underlying97
 have hu54:=Try.underlying54
 have HB:=am (Below.refl w.heap.size w)
 have H:(some (a0_0,a0_1,a0_2,a0_3,a0_4))=some (r1,r2,r3,r4,r5):=h
 clear h
 simp only [Option.some.injEq,Prod.mk.injEq] at H
 obtain ⟨rfl,rfl,rfl,rfl,rfl⟩:=H
 go_enter Try.func72,Try.ntmps72
 go_wp2_with (first |((with_reducible refine jv (N:=1) rfl ?_);refine bE (N:=1) (cs:=#[.int .i64 a0_0, .int .i64 a0_1, .int .i64 a0_2, .int .i64 a0_3, .bool a0_4]) (t:=97) ?_;intro gb680 hg w2 hbox hb;have BK680:=am (hbox);have GW680:=am ((Y0:w.heap.size≤gb680));have GE680:=am ((Y0:w.heap.size≤gb680));replace HB:=am (jd (bq) hb);clear hb hbox hg) |((with_reducible refine jv (N:=2) rfl ?_);refine bE (N:=2) (cs:=#[.int .i64 0, .int .i64 0, .int .i64 0, .int .i64 0, .bool false]) (t:=54) ?_;intro gb681 hg w3 hbox hb;have BK681:=am (hbox);have GW681:=am ((Y76:w.heap.size≤gb681));have GE681:=am ((Y76:w.heap.size≤gb681));have NB680_681:=am ((Y77:gb680≠gb681));have NB681_680:=am ((Y78:gb681≠gb680));replace BK680:=am (jb (g:=gb680) (o:=.cells #[.int .i64 a0_0, .int .i64 a0_1, .int .i64 a0_2, .int .i64 a0_3, .bool a0_4] 97 (0,0)) (kq BK680.out) hb);replace HB:=am (jd (by repeat (first |(with_reducible first | exact HB.out | apply jk | apply jf | apply jl | refine jh ?_ GE680.out) | exact HB.out)) hb);clear hb hbox hg) |((with_reducible refine jv (N:=3) rfl ?_);refine bE (N:=3) (cs:=#[.int .i64 0, .int .i64 0, .int .i64 0, .int .i64 0, .bool false]) (t:=54) ?_;intro gb682 hg w4 hbox hb;have BK682:=am (hbox);have GW682:=am ((Y79:w.heap.size≤gb682));have GE682:=am ((Y79:w.heap.size≤gb682));have NB680_682:=am ((Y77:gb680≠gb682));have NB682_680:=am ((Y78:gb682≠gb680));have NB681_682:=am ((by rw [hg];exact Nat.ne_of_lt (jZ (g:=gb681) (o:=.cells #[.int .i64 0, .int .i64 0, .int .i64 0, .int .i64 0, .bool false] 54 (0,0)) (kq BK681.out)):gb681≠gb682));have NB682_681:=am ((by rw [hg];exact Nat.ne_of_gt (jZ (g:=gb681) (o:=.cells #[.int .i64 0, .int .i64 0, .int .i64 0, .int .i64 0, .bool false] 54 (0,0)) (kq BK681.out)):gb682≠gb681));replace BK680:=am (jb (g:=gb680) (o:=.cells #[.int .i64 a0_0, .int .i64 a0_1, .int .i64 a0_2, .int .i64 a0_3, .bool a0_4] 97 (0,0)) (kq BK680.out) hb);replace BK681:=am (jb (g:=gb681) (o:=.cells #[.int .i64 0, .int .i64 0, .int .i64 0, .int .i64 0, .bool false] 54 (0,0)) (kq BK681.out) hb);replace HB:=am (jd (by repeat (first |(with_reducible first | exact HB.out | apply jk | apply jf | apply jl | refine jh ?_ GE680.out | refine jh ?_ GE681.out) | exact HB.out)) hb);clear hb hbox hg;have hnb5:=NB680_681.out;have hnc5:=NB681_680.out;have hnb6:=NB680_682.out;have hnc6:=NB682_680.out;have hcz7_0:=bc0 BK680.out;have hcz7_1:=bc1 BK680.out;have hcz7_2:=bc2 BK680.out;have hcz7_3:=bc3 BK680.out;have hcz7_4:w4.cell? ⟨gb680,4,none⟩=some (.bool a0_4):=(jL BK680.out 4).trans rfl;have hfz7_0:=ja BK680.out 0;have hfz7_1:=ja BK680.out 1;have hfz7_2:=ja BK680.out 2;have hfz7_3:=ja BK680.out 3;have hfz7_4:=ja BK680.out 4;have hnb8:=NB682_681.out;have hnc8:=NB681_682.out;have hcz9_0:=bc0 BK682.out;have hcz9_1:=bc1 BK682.out;have hcz9_2:=bc2 BK682.out;have hcz9_3:=bc3 BK682.out;have hcz9_4:w4.cell? ⟨gb682,4,none⟩=some (.bool false):=(jL BK682.out 4).trans rfl;have hfz9_0:=ja BK682.out 0;have hfz9_1:=ja BK682.out 1;have hfz9_2:=ja BK682.out 2;have hfz9_3:=ja BK682.out 3;have hfz9_4:=ja BK682.out 4;have hcz10_0:=bc0 BK681.out;have hcz10_1:=bc1 BK681.out;have hcz10_2:=bc2 BK681.out;have hcz10_3:=bc3 BK681.out;have hcz10_4:w4.cell? ⟨gb681,4,none⟩=some (.bool false):=(jL BK681.out 4).trans rfl;have hfz10_0:=ja BK681.out 0;have hfz10_1:=ja BK681.out 1;have hfz10_2:=ja BK681.out 2;have hfz10_3:=ja BK681.out 3;have hfz10_4:=ja BK681.out 4))
 refine bodyPost_ret (results_cell_row rfl _ _ gb681 54 #[.int .i64 a0_0, .int .i64 a0_1, .int .i64 a0_2, .int .i64 a0_3, .bool a0_4] (0,0) _ rfl (by (with_reducible repeat (first | refine jr ?_ _ | refine jC ?_ | refine jB ?_ _));refine jTa (cs:=#[.int .i64 a0_0, .int .i64 a0_1, .int .i64 a0_2, .int .i64 a0_3, .bool false]) ?_ 4 _ rfl;(with_reducible repeat (first | refine jr ?_ _ | refine jC ?_ | refine jB ?_ _));refine jTa (cs:=#[.int .i64 a0_0, .int .i64 a0_1, .int .i64 a0_2, .int .i64 0, .bool false]) ?_ 3 _ rfl;(with_reducible repeat (first | refine jr ?_ _ | refine jC ?_ | refine jB ?_ _));refine jTa (cs:=#[.int .i64 a0_0, .int .i64 a0_1, .int .i64 0, .int .i64 0, .bool false]) ?_ 2 _ rfl;(with_reducible repeat (first | refine jr ?_ _ | refine jC ?_ | refine jB ?_ _));refine jTa (cs:=#[.int .i64 a0_0, .int .i64 0, .int .i64 0, .int .i64 0, .bool false]) ?_ 1 _ rfl;(with_reducible repeat (first | refine jr ?_ _ | refine jC ?_ | refine jB ?_ _));refine jTa (cs:=#[.int .i64 0, .int .i64 0, .int .i64 0, .int .i64 0, .bool false]) ?_ 0 _ rfl;(with_reducible repeat (first | refine jr ?_ _ | refine jC ?_ | refine jB ?_ _));refine jIa ?_ NB681_682.out _;(with_reducible repeat (first | refine jr ?_ _ | refine jC ?_ | refine jB ?_ _));refine jIa ?_ NB681_682.out _;(with_reducible repeat (first | refine jr ?_ _ | refine jC ?_ | refine jB ?_ _));refine jIa ?_ NB681_682.out _;(with_reducible repeat (first | refine jr ?_ _ | refine jC ?_ | refine jB ?_ _));refine jIa ?_ NB681_682.out _;(with_reducible repeat (first | refine jr ?_ _ | refine jC ?_ | refine jB ?_ _));refine jIa ?_ NB681_682.out _;(with_reducible repeat (first | refine jr ?_ _ | refine jC ?_ | refine jB ?_ _));exact BK681.out) Try.underlying54 rfl (by kernel_rfl)) rfl ?_
 exact ⟨Y1,by repeat (first |(with_reducible first | exact HB.out | apply jk | apply jf | apply jl | refine jh ?_ GE680.out | refine jh ?_ GE681.out | refine jh ?_ GE682.out) | exact HB.out)⟩
def jka.l0 : Nat → List (S97) → List (S54) → Int → Option ((List (S54)))
 | 0,_,_,_=>none
 | k+1,x0,x3,x4=>if x4<(x0.length:Int) then (if 0≤x4 then ((jIb.f ((jpb x0 x4).f0) ((jpb x0 x4).f1) ((jpb x0 x4).f2) ((jpb x0 x4).f3) ((jpb x0 x4).f4)).bind fun bt687=>(if x4<(x3.length:Int) then (jka.l0 k x0 (x3.set (x4:Int).toNat (⟨bt687.1,bt687.2.1,bt687.2.2.1,bt687.2.2.2.1,bt687.2.2.2.2⟩:S54)) (wrap64 (x4+1))) else (none))) else (none)) else (some x3)
def jka.f (k : Nat) (l0 : List (S97)) : Option ((List (S54))) := if 0 ≤ (l0.length : Int) then (if ((l0.length : Int) : Int).toNat ≤ 7036874417766 then (jka.l0 k l0 (List.replicate ((l0.length : Int) : Int).toNat z54) 0) else (none)) else (none)
set_option maxHeartbeats 8000000 in
set_option maxRecDepth 100000 in
theorem jka.calls (k : Nat) (A0 : Option Addr) (c0 : Nat) (l0 : List (S97)) (r : List (S54)) (w : World) (hr0 : Kd.C k97 w A0 l0.length l0) (hc0 : l0.length ≤ c0) (h : jka.f k l0 = some r) :
  Calls Try.prog 44 #[.slice A0 l0.length c0] w fun e w'=>∃ v0_:Value,e=.returned (v0_)∧Kd.R k54 54 w' w.heap.size (fun _=>True) v0_ r∧Below w.heap.size w w':=by
 have hu97:=Try.underlying97
 have hu54:=Try.underlying54
 have HR0:=am hr0
 have HC0:=am hc0
 clear hr0 hc0
 have HB:=am (Below.refl w.heap.size w)
 have H:(if 0≤(l0.length:Int) then (if ((l0.length:Int):Int).toNat≤7036874417766 then (jka.l0 k l0 (List.replicate ((l0.length:Int):Int).toNat z54) 0) else (none)) else (none))=some r:=h
 clear h
 by_cases c2:0≤(l0.length:Int)
 ·rw [if_pos c2] at H
  have c2b0:=ezT c2
  have c2b1:decide (0≤(l0.length:Int))=true:=dzT c2
  clear c2
  by_cases c3:((l0.length:Int):Int).toNat≤7036874417766
  ·rw [if_pos c3] at H
   have c3b0:=ezT c3
   have c3b1:decide (((l0.length:Int):Int).toNat≤7036874417766)=true:=dzT c3
   clear c3
   obtain ⟨y683,hy683⟩:∃ y_:List (S54),y_=(List.replicate ((l0.length:Int):Int).toNat z54):=⟨_,rfl⟩
   replace H:(jka.l0 k l0 y683 0)=some r:=by first |(rw [hy683];with_reducible exact H) |(have H2_:=(Option.bind_some _ _).symm.trans H;rw [hy683];with_reducible exact H2_) |(have H2_:=(Option.bind_some _ _).symm.trans H;with_reducible exact H2_) | with_reducible exact H |(rw [hy683];exact H) | exact H
   have Ny683:=am hy683
   clear hy683
   have H':=am H
   clear H
   go_enter Try.func44,Try.ntmps44
   go_wp2_with (first |((with_reducible refine jv (N:=7) rfl ?_);refine Kd.R_make k54 _ 54 rfl (N:=7) rfl 30 _ _ rfl (l0.length:Int) rfl rfl Try.underlying30 (.agg #[(.int .i64 0),(.int .i64 0),(.int .i64 0),(.int .i64 0),(.bool false)]) 40 info54 rfl (by decide) (by omega) z54 (ok:=fun _=>True) (okp:=fun _=>True) (k54_mkM _ _ _ z54 ) (fun _ hk=>hk) trivial (ozD (uq)) (Nat.le_trans (Nat.mul_le_mul_right _ (ozD (uq):(l0.length:Int).toNat≤7036874417766)) (by omega)) (Below.refl _ _) (Nat.le_refl _) ?_;intro v684 w4 ho5 hb hg_ hnew_;clear hg_ hnew_;(first | rw [← Ny683.out] at ho5 |(simp only [Int.reduceToNat] at ho5;rw [← Ny683.out] at ho5));have HO685:=am (Kd.jya ho5 (jE (bq)));replace HB:=am (jd (bq) hb);clear hb ho5))
   go_loopg [4] k (fun kq v4 w'=>∃ (x3_1:List (S54)) (x4_1:Int),v4=.int .i64 x4_1∧jy (jka.l0 kq l0 x3_1 x4_1=some r)∧jy (kq≤k)∧jy (Kd.R k54 54 w' w.heap.size (fun _=>True) v684 x3_1)∧jy (Below w.heap.size w w'))
   case atStart=>exact ⟨(y683),(0),(sq),H',⟨Nat.le_refl _⟩,⟨rq HO685.out⟩,⟨bq⟩⟩
   case round =>
    clear H'
    try clear c2
    try clear c2b0
    try clear c2b1
    try clear p2
    try clear c3
    try clear c3b0
    try clear c3b1
    try clear c4
    obtain ⟨x3_1,x4_1,rfl,HA,HK1,HO_3,HB⟩:=hrel
    cases gk with
    | zero=>exact absurd HA.out (by simp [jka.l0])
    | succ k1 =>
     have H:=HA.out
     clear HA
     simp only [jka.l0] at H
     by_cases c6:x4_1<(l0.length:Int)
     ·rw [if_pos c6] at H
      have c6b0:decide (x4_1<(l0.length:Int))=true:=dzT c6
      clear c6
      by_cases c7:0≤x4_1
      ·rw [if_pos c7] at H
       have c7b0:decide (0≤x4_1)=true:=dzT c7
       clear c7
       replace H:=bzS H
       obtain ⟨⟨t687,t688,t689,t690,t691⟩,A80,H⟩:=H
       replace H:(if x4_1<(x3_1.length:Int) then (jka.l0 k1 l0 (x3_1.set (x4_1:Int).toNat (⟨t687,t688,t689,t690,t691⟩:S54)) (wrap64 (x4_1+1))) else (none))=some r:=H
       have A8:=am A80
       clear A80
       by_cases c9:x4_1<(x3_1.length:Int)
       ·rw [if_pos c9] at H
        have c9b0:decide (x4_1<(x3_1.length:Int))=true:=dzT c9
        clear c9
        obtain ⟨y692,hy692⟩:∃ y_:List (S54),y_=(x3_1.set (x4_1:Int).toNat (⟨t687,t688,t689,t690,t691⟩:S54)):=⟨_,rfl⟩
        replace H:(jka.l0 k1 l0 y692 (wrap64 (x4_1+1)))=some r:=by first |(rw [hy692];with_reducible exact H) |(have H2_:=(Option.bind_some _ _).symm.trans H;rw [hy692];with_reducible exact H2_) |(have H2_:=(Option.bind_some _ _).symm.trans H;with_reducible exact H2_) | with_reducible exact H |(rw [hy692];exact H) | exact H
        have Ny692:=am hy692
        clear hy692
        have H':=am H
        clear H
        have p686:0≤(x4_1:Int):=ozD (uq)
        have q686:x4_1<(l0.length:Int):=ozD (uq)
        obtain ⟨ad686,e686,hx686_0,hx686_1,hx686_2,hx686_3,hx686_4⟩:=at_T97 HR0.out x4_1 p686 q686
        cases e686
        replace hx686_0:=cb HB.out hx686_0
        replace hx686_1:=cb HB.out hx686_1
        replace hx686_2:=cb HB.out hx686_2
        replace hx686_3:=cb HB.out hx686_3
        replace hx686_4:=cb HB.out hx686_4
        replace p686:=ezT p686
        replace q686:=ezT q686
        go_wp2_with (first |((with_reducible refine jw (f:=72) rfl ?_);refine gL (some 20) Try.func72 #[.agg #[.int .i64 ((jpb l0 x4_1).f0), .int .i64 ((jpb l0 x4_1).f1), .int .i64 ((jpb l0 x4_1).f2), .int .i64 ((jpb l0 x4_1).f3), .bool ((jpb l0 x4_1).f4)]] ?_;(with_reducible refine (jIb.calls ((jpb l0 x4_1).f0) ((jpb l0 x4_1).f1) ((jpb l0 x4_1).f2) ((jpb l0 x4_1).f3) ((jpb l0 x4_1).f4) t687 t688 t689 t690 t691 _ A8.out).mono ?_);rintro e w11 ⟨rfl,hb⟩;refine ⟨_,rfl,?_⟩;replace HO_3:=am (Kd.jU (rq HO_3.out) hb);replace HB:=am (jd (bq) hb);(try clear hb);(try clear hb2);(try clear hk);(try clear hi);have p10:0≤(x4_1:Int):=ozD (uq);have q10:(x4_1:Int)<((x3_1.length:Int):Int):=ozD (uq);obtain ⟨go10,co10,eo10,gb10,gl10,cl10,HG10⟩:=Kd.R_form HO_3.out (by omega);(first | cases eo10 |(injection eo10 with ea_ en_ ec_;(first | subst ea_ |(injection ea_ with ea_;subst ea_));subst ec_;clear en_));have GB10:=am gb10;have GG10:=am HG10;clear gb10 gl10 HG10;obtain ⟨ce10,hcl10,hM10,hcc10,hfr10⟩:=Kd.jEb HO_3.out z54 (x4_1:Int) p10 q10;obtain rfl:=jeb hM10;have hx10_0:w11.cell? ⟨go10,(x4_1:Int).toNat * 5,none⟩=some (.int .i64 ((jc x3_1 x4_1).f0)):=hcc10 0 _ rfl;have hx10_1:w11.cell? ⟨go10,(x4_1:Int).toNat * 5+1,none⟩=some (.int .i64 ((jc x3_1 x4_1).f1)):=hcc10 1 _ rfl;have hx10_2:w11.cell? ⟨go10,(x4_1:Int).toNat * 5+2,none⟩=some (.int .i64 ((jc x3_1 x4_1).f2)):=hcc10 2 _ rfl;have hx10_3:w11.cell? ⟨go10,(x4_1:Int).toNat * 5+3,none⟩=some (.int .i64 ((jc x3_1 x4_1).f3)):=hcc10 3 _ rfl;have hx10_4:w11.cell? ⟨go10,(x4_1:Int).toNat * 5+4,none⟩=some (.bool ((jc x3_1 x4_1).f4)):=hcc10 4 _ rfl;have hf10_0:w11.frozen? ⟨go10,(x4_1:Int).toNat * 5,none⟩=false:=hfr10 0;have hf10_1:w11.frozen? ⟨go10,(x4_1:Int).toNat * 5+1,none⟩=false:=hfr10 1;have hf10_2:w11.frozen? ⟨go10,(x4_1:Int).toNat * 5+2,none⟩=false:=hfr10 2;have hf10_3:w11.frozen? ⟨go10,(x4_1:Int).toNat * 5+3,none⟩=false:=hfr10 3;have hf10_4:w11.frozen? ⟨go10,(x4_1:Int).toNat * 5+4,none⟩=false:=hfr10 4;clear hcl10 hcc10 hfr10 hM10;replace p10:=ezT p10;replace q10:=ezT q10;have HX12:=am (show Kd.R k54 54 w11 w.heap.size (fun _=>True) (.slice (some ⟨go10,0,none⟩) x3_1.length co10) x3_1 from (rq HO_3.out));obtain ⟨ce12,hcl12,hM12,hcc12,hfr12⟩:=Kd.jEb HX12.out z54 (x4_1:Int) (ozD (uq)) (by have h_:(x4_1:Int)<((x3_1.length:Int):Int):=ozD (uq);first | exact h_ |(have e_:=(Kd.jq HO_3.out).1;omega) | simpa using h_);obtain rfl:=jeb hM12;have HP12:=Kd.R_seg HX12.out (x4_1:Int) (ozD (uq)) (by have h_:(x4_1:Int)<((x3_1.length:Int):Int):=ozD (uq);first | exact h_ |(have e_:=(Kd.jq HO_3.out).1;omega) | simpa using h_) (seg:=[.int .i64 t687, .int .i64 t688, .int .i64 t689, .int .i64 t690, .bool t691]) (j:=0) hcl12 hcc12 (show 5≤5 from by decide) (x':=(⟨t687,t688,t689,t690,t691⟩:S54)) (k54_mkM _ _ _ (⟨t687,t688,t689,t690,t691⟩:S54) ) (fun _ hk=>hk);have hx12_0:=hcc12 0 _ rfl;(try simp only [show (k54).sz=5 from rfl,Nat.mul_one,Nat.add_zero] at hx12_0);have hf12_0:=hfr12 0;(try simp only [show (k54).sz=5 from rfl,Nat.mul_one,Nat.add_zero] at hf12_0);have hx12_1:=hcc12 1 _ rfl;(try simp only [show (k54).sz=5 from rfl,Nat.mul_one,Nat.add_zero] at hx12_1);have hf12_1:=hfr12 1;(try simp only [show (k54).sz=5 from rfl,Nat.mul_one,Nat.add_zero] at hf12_1);have hx12_2:=hcc12 2 _ rfl;(try simp only [show (k54).sz=5 from rfl,Nat.mul_one,Nat.add_zero] at hx12_2);have hf12_2:=hfr12 2;(try simp only [show (k54).sz=5 from rfl,Nat.mul_one,Nat.add_zero] at hf12_2);have hx12_3:=hcc12 3 _ rfl;(try simp only [show (k54).sz=5 from rfl,Nat.mul_one,Nat.add_zero] at hx12_3);have hf12_3:=hfr12 3;(try simp only [show (k54).sz=5 from rfl,Nat.mul_one,Nat.add_zero] at hf12_3);have hx12_4:=hcc12 4 _ rfl;(try simp only [show (k54).sz=5 from rfl,Nat.mul_one,Nat.add_zero] at hx12_4);have hf12_4:=hfr12 4;(try simp only [show (k54).sz=5 from rfl,Nat.mul_one,Nat.add_zero] at hf12_4);clear hcl12 hcc12 hfr12 hM12) |((with_reducible refine jfb (t:=54) (p:=21) rfl ?_);refine jVa (t:=54) (p:=21) (v:=?vo_w13) (w1:=(((((w11.setCell ⟨go10,(x4_1:Int).toNat * 5,none⟩ (.int .i64 t687)).setCell ⟨go10,(x4_1:Int).toNat * 5+1,none⟩ (.int .i64 t688)).setCell ⟨go10,(x4_1:Int).toNat * 5+2,none⟩ (.int .i64 t689)).setCell ⟨go10,(x4_1:Int).toNat * 5+3,none⟩ (.int .i64 t690)).setCell ⟨go10,(x4_1:Int).toNat * 5+4,none⟩ (.bool t691))) ?hg ?ho ?hn ?hr ?_;(case ho=>rfl);(case hg=>rfl);(case hn=>rfl);(case hr=>exact Y3);intro w13 hw;have hg:w11.grownBy w13 (some go10):=(by rw [hw];exact HP12.2);have hp_:Kd.R k54 54 w13 w.heap.size (fun _=>True) (.slice (some ⟨go10,0,none⟩) x3_1.length co10) y692:=(by rw [hw,Ny692.out];exact HP12.1);clear HP12;replace HO_3:=am (hp_);replace HB:=am ((by rw [hw];exact jh (jh (jh (jh (jh (HB.out) GB10.out) GB10.out) GB10.out) GB10.out) GB10.out:Below w.heap.size w w13));clear hg hw hp_))
        go_roundg k1
        case measure=>have:=HK1.out;omega
        case rel=>exact ⟨(y692),(wrap64 (x4_1+1)),(sq),H',⟨by have:=HK1.out;omega⟩,⟨rq HO_3.out⟩,⟨bq⟩⟩
       ·rw [if_neg c9] at H
        exact absurd H (by simp)
      ·rw [if_neg c7] at H
       exact absurd H (by simp)
     ·rw [if_neg c6] at H
      have c6b0:decide (x4_1<(l0.length:Int))=false:=dzF c6
      clear c6
      obtain rfl:=Option.some.inj H
      go_wp2
      go_ret
      exact ⟨_,Y1,rq HO_3.out,bq⟩
  ·rw [if_neg c3] at H
   exact absurd H (by simp)
 ·rw [if_neg c2] at H
  exact absurd H (by simp)
end Go.Proofs.Ytecdfgejmbpclaa.P
end
