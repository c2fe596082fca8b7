/- One part of the proofs on this program: functions of the program as plain functions, that the code comes to them, and facts on them. -/
import Derived.Test.YtlhfcmbkjddgiaaYAll1
import Derived.Test.YtlhfcmbkjddgiaaYAll6
import Derived.Test.YtlhfcmbkjddgiaaYWAuto
section
namespace Go.Proofs.Ytlhfcmbkjddgiaa.P
open Go.RowKit Go.Proofs.YtlhfcmbkjddgiaaW.PrintWords Go.Proofs.YtlhfcmbkjddgiaaW.PrintLast Go.Proofs.YtlhfcmbkjddgiaaW.PrintMore
attribute [local go_sem] jX jV jka jja jN jM jW jU jh
set_option linter.unusedVariables false
set_option linter.unusedSimpArgs false
theorem jOa {w : World} {b : Nat} {v : Value} {l : List Value} {t : TypeId} (h : w.heap[b]? = some (.cells ⟨v :: l⟩ t (0, 0))) : w.cell? ⟨b, 0, none⟩ = some v := (jw h 0).trans rfl
theorem cellA1 {w : World} {b : Nat} {v v1 : Value} {l : List Value} {t : TypeId} (h : w.heap[b]? = some (.cells ⟨v :: v1 :: l⟩ t (0, 0))) : w.cell? ⟨b, 1, none⟩ = some v1 := (jw h 1).trans rfl
theorem cellA2 {w : World} {b : Nat} {v v1 v2 : Value} {l : List Value} {t : TypeId} (h : w.heap[b]? = some (.cells ⟨v :: v1 :: v2 :: l⟩ t (0, 0))) : w.cell? ⟨b, 2, none⟩ = some v2 := (jw h 2).trans rfl
theorem cellA3 {w : World} {b : Nat} {v v1 v2 v3 : Value} {l : List Value} {t : TypeId} (h : w.heap[b]? = some (.cells ⟨v :: v1 :: v2 :: v3 :: l⟩ t (0, 0))) : w.cell? ⟨b, 3, none⟩ = some v3 := (jw h 3).trans rfl
def hpIn (a lo hi : Int) : Bool := decide (lo ≤ a) && decide (a ≤ hi)
theorem hp_within (a lo hi : Int) : jwa.f a lo hi = some (hpIn a lo hi) := by
 unfold jwa.f hpIn
 by_cases h:a≥lo
 ·rw [if_pos h];simp [show lo≤a from h]
 ·rw [if_neg h];simp [show ¬ lo≤a from h]
theorem hp_has (l : List S106) (a : Int) : jha.f l a = some (hpIn a 0 (wrap64 ((l.length : Int) - 1))) := by unfold jha.f; rw [hp_within]; rfl
theorem hp_code (a : Int) : jxa.f a = some (hpIn a 0 99) := by unfold jxa.f; rw [hp_within]; rfl
def hpLk (m : Nat) (i z : Int) : Bool := decide (z = -1) || (hpIn z 0 ((m : Int) - 1) && decide (z ≠ i))
def hpBad (t : List S106) (m : Nat) (i : Int) (x : S90) : Bool := !hpIn x.f0 0 (wrap64 ((t.length : Int) - 1)) || (!hpIn x.f1 0 99 || (!hpLk m i x.f2 || !hpLk m i x.f3))
def hpAny (t : List S106) (h : List S90) : Nat → Nat → Bool
 | 0,_=>false
 | n+1,i=>if hpBad t h.length (i:Int) (jl h (i:Int))=true then true else hpAny t h n (i+1)
def hpEnds (k : Nat) (h : List S90) : Nat → Nat → Option Bool
 | 0,_=>some true
 | n+1,i=>(jza.f k h (i:Int)).bind fun l=>if 1≤l.length then (ctxF h (rd l ((l.length:Int) - 1))).bind fun c=>if c = -1 then hpEnds k h n (i+1) else some false else none
def jXa.f (k : Nat) (l0_0 : List S106) (l1_0 : List S90) : Option Bool :=
 if hpAny l0_0 l1_0 l1_0.length 0=true then some false else (hpEnds k l1_0 l1_0.length 0).bind fun b=>if b=true then ((jA.f k l0_0).bind fun v=>some (if v=true then decide ((l1_0.length:Int)≤24) else false)) else some false
set_option maxHeartbeats 8000000 in
set_option maxRecDepth 100000 in
theorem jic (A_ : Option Addr) (c_ : Nat) (m : Nat) (i z : Int) (B0 : Nat) (w : World) (hm : m ≤ 9223372036854775807) (hc : w.cell? ⟨B0, 0, none⟩ = some (.slice A_ m c_)) :
  Calls Try.prog 113 #[.int .i64 i, .int .i64 z, .pointer (some ⟨B0,0,none⟩)] w fun e w'=>e=.returned (.bool (hpLk m i z))∧Below w.heap.size w w':=by
 have HB:=am (Below.refl w.heap.size w)
 have hu53:=Try.underlying53
 have hw2:IntKind.i64.wrap ((m:Int) - 1)=(m:Int) - 1:=IntWalk.i64_in _ (by omega)
 by_cases h0:z = -1
 ·subst h0
  have HZ:=am (by simp [hpLk]:hpLk m i (-1)=true)
  go_enter Try.func113,Try.ntmps113
  go_wp2
  go_ret
  exact ⟨by rw [HZ.out];rfl,(bq)⟩
 ·have hb0:(z == -1)=false:=by simpa using h0
  by_cases h1:z≥0
  ·have hb1:=dzT h1
   by_cases h2:z≤(m:Int) - 1
   ·have hb2:=dzT h2
    by_cases h3:z=i
    ·have hb3:(z != i)=false:=by simpa using h3
     have HZ:=am (by subst h3;simp [hpLk,h0]:hpLk m i z=false)
     clear h0 h1 h2 h3
     go_enter Try.func113,Try.ntmps113
     go_wp2
     go_ret
     exact ⟨by rw [HZ.out];rfl,(bq)⟩
    ·have hb3:(z != i)=true:=by simpa using h3
     have HZ:=am (by simp [hpLk,h0,h3,hpIn];omega:hpLk m i z=true)
     clear h0 h1 h2 h3
     go_enter Try.func113,Try.ntmps113
     go_wp2
     go_ret
     exact ⟨by rw [HZ.out];rfl,(bq)⟩
   ·have hb2:=dzF h2
    have HZ:=am (by simp [hpLk,h0,hpIn];omega:hpLk m i z=false)
    clear h0 h1 h2
    go_enter Try.func113,Try.ntmps113
    go_wp2
    go_ret
    exact ⟨by rw [HZ.out];rfl,(bq)⟩
  ·have hb1:=dzF h1
   have HZ:=am (by simp [hpLk,h0,hpIn];omega:hpLk m i z=false)
   clear h0 h1
   go_enter Try.func113,Try.ntmps113
   go_wp2
   go_ret
   exact ⟨by rw [HZ.out];rfl,(bq)⟩
set_option maxHeartbeats 8000000 in
set_option maxRecDepth 100000 in
theorem jXa.calls (k : Nat) (A0_0 : Option Addr) (c0_0 : Nat) (l0_0 : List (S106)) (A0 : Option Addr) (c0 : Nat) (l0 : List (S90)) (r : Bool) (w : World) (hr0_0 : Kd.C k106 w A0_0 l0_0.length l0_0) (hc0_0 : l0_0.length ≤ c0_0) (hr0 : Kd.C k90 w A0 l0.length l0) (hc0 : l0.length ≤ c0) (h : jXa.f k l0_0 l0 = some r) :
  Calls Try.prog 87 #[.agg #[.slice A0_0 l0_0.length c0_0], .agg #[.slice A0 l0.length c0]] w fun e w'=>e=.returned (.bool r)∧Below w.heap.size w w':=by
 have hu53:=Try.underlying53
 have hu31:=Try.underlying31
 have hu90:=Try.underlying90
 have hm:l0.length≤9223372036854775807:=Kd.C_max hr0
 have HRT:=am hr0_0
 have HRH:=am hr0
 have hcT:=hc0_0
 have hcH:=hc0
 have H':=am h
 have HB:=am (((Below.refl w.heap.size w).alloc (Nat.le_refl _) (.cells #[.slice A0_0 l0_0.length c0_0] 31)).alloc (by simp) (.cells #[.slice A0 l0.length c0] 53))
 have BT:=am (jb (heap_alloc_new w (.cells #[.slice A0_0 l0_0.length c0_0] 31)) (.cells #[.slice A0 l0.length c0] 53))
 have BH:=am (show ((w.alloc (.cells #[.slice A0_0 l0_0.length c0_0] 31)).alloc (.cells #[.slice A0 l0.length c0] 53)).heap[w.heap.size+1]?=some (.cells #[.slice A0 l0.length c0] 53 (0,0)) by have h:=heap_alloc_new (w.alloc (.cells #[.slice A0_0 l0_0.length c0_0] 31)) (.cells #[.slice A0 l0.length c0] 53);simpa only [World.size_alloc] using h)
 have hmH:=hm
 clear hr0_0 hr0 h hc0_0 hc0
 go_enter Try.func87,Try.ntmps87
 go_wp2
 go_loopw [14] (fun v14 wr=>∃ i:Nat,i≤l0.length∧v14=.int .i64 i∧jE (hpAny l0_0 l0 (l0.length - i) i=hpAny l0_0 l0 l0.length 0)∧jE (wr.heap[w.heap.size]?=some (.cells #[.slice A0_0 l0_0.length c0_0] 31 (0,0)))∧jE (wr.heap[w.heap.size+1]?=some (.cells #[.slice A0 l0.length c0] 53 (0,0)))∧jE (Below w.heap.size w wr)) (fun v14 _=>l0.length - (intOf v14).toNat)
 case atStart=>exact ⟨0,Nat.zero_le _,rfl,⟨rfl⟩,BT,BH,HB⟩
 case round =>
  clear HB BT BH
  obtain ⟨i,hi,rfl,HA,BT,BH,HB⟩:=hrel
  have cT:=jOa BT.out
  have cH:=jOa BH.out
  by_cases hlt:i<l0.length
  ·obtain ⟨ad,rfl,x0,x1,x2,x3,x4⟩:=at_T90 (Kd.jZ HRH.out HB.out) (i:Int) (by omega) (by omega)
   rw [Int.toNat_natCast] at x0 x1 x2 x3 x4
   have hneT:w.heap.size<wr.heap.size:=jva BT.out
   have hneH:w.heap.size+1<wr.heap.size:=jva BH.out
   have BX:=am (heap_alloc_new wr (.cells #[.int .i64 (jl l0 (i:Int)).f0, .int .i64 (jl l0 (i:Int)).f1, .int .i64 (jl l0 (i:Int)).f2, .int .i64 (jl l0 (i:Int)).f3, .bool (jl l0 (i:Int)).f4] 90))
   have HS:=am (show hpAny l0_0 l0 (l0.length - i) i=if hpBad l0_0 l0.length (i:Int) (jl l0 (i:Int))=true then true else hpAny l0_0 l0 (l0.length - (i+1)) (i+1) by rw [show l0.length - i=(l0.length - (i+1))+1 by omega];rfl)

   cases e0:hpIn (jl l0 (i:Int)).f0 0 (wrap64 ((l0_0.length:Int) - 1)) with
   | false =>
    have E0:=am (show jha.f l0_0 (jl l0 (i:Int)).f0=some false by rw [hp_has,e0])
    have HZ:=am (show r=false by have h:=H'.out;unfold jXa.f at h;rw [← HA.out,HS.out,if_pos (show hpBad l0_0 l0.length (i:Int) (jl l0 (i:Int))=true by simp [hpBad,e0]),if_pos rfl] at h;exact (Option.some.inj h).symm)
    clear e0 HA HS H'
    go_wp2_with (first |(go_at_call 83;refine (jha.calls _ _ _ _ false _ (Kd.jZ HRT.out (bq)) hcT E0.out).mono ?_;rintro e w2 ⟨rfl,hb2⟩;have n0_:=am (jc (g:=wr.heap.size) (o:=.cells #[.int .i64 (jl l0 (i:Int)).f0, .int .i64 (jl l0 (i:Int)).f1, .int .i64 (jl l0 (i:Int)).f2, .int .i64 (jl l0 (i:Int)).f3, .bool (jl l0 (i:Int)).f4] 90 (0,0)) (Y28) hb2);have n1_:=am (jc (g:=w.heap.size) (o:=.cells #[.slice A0_0 l0_0.length c0_0] 31 (0,0)) (kq BT.out) hb2);have n2_:=am (jc (g:=w.heap.size+1) (o:=.cells #[.slice (some ad) l0.length c0] 53 (0,0)) (kq BH.out) hb2);have n3_:=am (jg (bq) hb2);clear BX BT BH HB;(try clear cx0 cx1 cx2 cx3);have BX:=n0_;have BT:=n1_;have BH:=n2_;have HB:=n3_;clear n0_ n1_ n2_ n3_ hb2;have cT:=jOa BT.out;have cH:=jOa BH.out;have cx0:=jOa BX.out;have cx1:=cellA1 BX.out;have cx2:=cellA2 BX.out;have cx3:=cellA3 BX.out))
    go_ret
    exact ⟨by rw [HZ.out];rfl,(bq)⟩
   | true =>
    have E0:=am (show jha.f l0_0 (jl l0 (i:Int)).f0=some true by rw [hp_has,e0])
    cases e1:hpIn (jl l0 (i:Int)).f1 0 99 with
    | false =>
     have E1:=am (show jxa.f (jl l0 (i:Int)).f1=some false by rw [hp_code,e1])
     have HZ:=am (show r=false by have h:=H'.out;unfold jXa.f at h;rw [← HA.out,HS.out,if_pos (show hpBad l0_0 l0.length (i:Int) (jl l0 (i:Int))=true by simp [hpBad,e0,e1]),if_pos rfl] at h;exact (Option.some.inj h).symm)
     clear e0 e1 HA HS H'
     go_wp2_with (first |(go_at_call 83;refine (jha.calls _ _ _ _ true _ (Kd.jZ HRT.out (bq)) hcT E0.out).mono ?_;rintro e w2 ⟨rfl,hb2⟩;have n0_:=am (jc (g:=wr.heap.size) (o:=.cells #[.int .i64 (jl l0 (i:Int)).f0, .int .i64 (jl l0 (i:Int)).f1, .int .i64 (jl l0 (i:Int)).f2, .int .i64 (jl l0 (i:Int)).f3, .bool (jl l0 (i:Int)).f4] 90 (0,0)) (Y28) hb2);have n1_:=am (jc (g:=w.heap.size) (o:=.cells #[.slice A0_0 l0_0.length c0_0] 31 (0,0)) (kq BT.out) hb2);have n2_:=am (jc (g:=w.heap.size+1) (o:=.cells #[.slice (some ad) l0.length c0] 53 (0,0)) (kq BH.out) hb2);have n3_:=am (jg (bq) hb2);clear BX BT BH HB;(try clear cx0 cx1 cx2 cx3);have BX:=n0_;have BT:=n1_;have BH:=n2_;have HB:=n3_;clear n0_ n1_ n2_ n3_ hb2;have cT:=jOa BT.out;have cH:=jOa BH.out;have cx0:=jOa BX.out;have cx1:=cellA1 BX.out;have cx2:=cellA2 BX.out;have cx3:=cellA3 BX.out) |(go_at_call 82;refine (jxa.calls _ false _ E1.out).mono ?_;rintro e w3 ⟨rfl,hd3⟩;have hb3:=hd3.below;clear hd3;have n0_:=am (jc (g:=wr.heap.size) (o:=.cells #[.int .i64 (jl l0 (i:Int)).f0, .int .i64 (jl l0 (i:Int)).f1, .int .i64 (jl l0 (i:Int)).f2, .int .i64 (jl l0 (i:Int)).f3, .bool (jl l0 (i:Int)).f4] 90 (0,0)) (Y28) hb3);have n1_:=am (jc (g:=w.heap.size) (o:=.cells #[.slice A0_0 l0_0.length c0_0] 31 (0,0)) (kq BT.out) hb3);have n2_:=am (jc (g:=w.heap.size+1) (o:=.cells #[.slice (some ad) l0.length c0] 53 (0,0)) (kq BH.out) hb3);have n3_:=am (jg (bq) hb3);clear BX BT BH HB;(try clear cx0 cx1 cx2 cx3);have BX:=n0_;have BT:=n1_;have BH:=n2_;have HB:=n3_;clear n0_ n1_ n2_ n3_ hb3;have cT:=jOa BT.out;have cH:=jOa BH.out;have cx0:=jOa BX.out;have cx1:=cellA1 BX.out;have cx2:=cellA2 BX.out;have cx3:=cellA3 BX.out))
     go_ret
     exact ⟨by rw [HZ.out];rfl,(bq)⟩
    | true =>
     have E1:=am (show jxa.f (jl l0 (i:Int)).f1=some true by rw [hp_code,e1])
     cases e2:hpLk l0.length (i:Int) (jl l0 (i:Int)).f2 with
     | false =>
      have E2:=am (e2)
      have HZ:=am (show r=false by have h:=H'.out;unfold jXa.f at h;rw [← HA.out,HS.out,if_pos (show hpBad l0_0 l0.length (i:Int) (jl l0 (i:Int))=true by simp [hpBad,e0,e1,e2]),if_pos rfl] at h;exact (Option.some.inj h).symm)
      clear e0 e1 e2 HA HS H'
      go_wp2_with (first |(go_at_call 83;refine (jha.calls _ _ _ _ true _ (Kd.jZ HRT.out (bq)) hcT E0.out).mono ?_;rintro e w2 ⟨rfl,hb2⟩;have n0_:=am (jc (g:=wr.heap.size) (o:=.cells #[.int .i64 (jl l0 (i:Int)).f0, .int .i64 (jl l0 (i:Int)).f1, .int .i64 (jl l0 (i:Int)).f2, .int .i64 (jl l0 (i:Int)).f3, .bool (jl l0 (i:Int)).f4] 90 (0,0)) (Y28) hb2);have n1_:=am (jc (g:=w.heap.size) (o:=.cells #[.slice A0_0 l0_0.length c0_0] 31 (0,0)) (kq BT.out) hb2);have n2_:=am (jc (g:=w.heap.size+1) (o:=.cells #[.slice (some ad) l0.length c0] 53 (0,0)) (kq BH.out) hb2);have n3_:=am (jg (bq) hb2);clear BX BT BH HB;(try clear cx0 cx1 cx2 cx3);have BX:=n0_;have BT:=n1_;have BH:=n2_;have HB:=n3_;clear n0_ n1_ n2_ n3_ hb2;have cT:=jOa BT.out;have cH:=jOa BH.out;have cx0:=jOa BX.out;have cx1:=cellA1 BX.out;have cx2:=cellA2 BX.out;have cx3:=cellA3 BX.out) |(go_at_call 82;refine (jxa.calls _ true _ E1.out).mono ?_;rintro e w3 ⟨rfl,hd3⟩;have hb3:=hd3.below;clear hd3;have n0_:=am (jc (g:=wr.heap.size) (o:=.cells #[.int .i64 (jl l0 (i:Int)).f0, .int .i64 (jl l0 (i:Int)).f1, .int .i64 (jl l0 (i:Int)).f2, .int .i64 (jl l0 (i:Int)).f3, .bool (jl l0 (i:Int)).f4] 90 (0,0)) (Y28) hb3);have n1_:=am (jc (g:=w.heap.size) (o:=.cells #[.slice A0_0 l0_0.length c0_0] 31 (0,0)) (kq BT.out) hb3);have n2_:=am (jc (g:=w.heap.size+1) (o:=.cells #[.slice (some ad) l0.length c0] 53 (0,0)) (kq BH.out) hb3);have n3_:=am (jg (bq) hb3);clear BX BT BH HB;(try clear cx0 cx1 cx2 cx3);have BX:=n0_;have BT:=n1_;have BH:=n2_;have HB:=n3_;clear n0_ n1_ n2_ n3_ hb3;have cT:=jOa BT.out;have cH:=jOa BH.out;have cx0:=jOa BX.out;have cx1:=cellA1 BX.out;have cx2:=cellA2 BX.out;have cx3:=cellA3 BX.out) |(go_at_call 113;refine (jic _ _ _ _ _ _ _ hmH cH).mono ?_;rw [E2.out];rintro e w4 ⟨rfl,hb4⟩;have n0_:=am (jc (g:=wr.heap.size) (o:=.cells #[.int .i64 (jl l0 (i:Int)).f0, .int .i64 (jl l0 (i:Int)).f1, .int .i64 (jl l0 (i:Int)).f2, .int .i64 (jl l0 (i:Int)).f3, .bool (jl l0 (i:Int)).f4] 90 (0,0)) (Y28) hb4);have n1_:=am (jc (g:=w.heap.size) (o:=.cells #[.slice A0_0 l0_0.length c0_0] 31 (0,0)) (kq BT.out) hb4);have n2_:=am (jc (g:=w.heap.size+1) (o:=.cells #[.slice (some ad) l0.length c0] 53 (0,0)) (kq BH.out) hb4);have n3_:=am (jg (bq) hb4);clear BX BT BH HB;(try clear cx0 cx1 cx2 cx3);have BX:=n0_;have BT:=n1_;have BH:=n2_;have HB:=n3_;clear n0_ n1_ n2_ n3_ hb4;have cT:=jOa BT.out;have cH:=jOa BH.out;have cx0:=jOa BX.out;have cx1:=cellA1 BX.out;have cx2:=cellA2 BX.out;have cx3:=cellA3 BX.out))
      go_ret
      exact ⟨by rw [HZ.out];rfl,(bq)⟩
     | true =>
      have E2:=am (e2)
      cases e3:hpLk l0.length (i:Int) (jl l0 (i:Int)).f3 with
      | false =>
       have E3:=am (e3)
       have HZ:=am (show r=false by have h:=H'.out;unfold jXa.f at h;rw [← HA.out,HS.out,if_pos (show hpBad l0_0 l0.length (i:Int) (jl l0 (i:Int))=true by simp [hpBad,e0,e1,e2,e3]),if_pos rfl] at h;exact (Option.some.inj h).symm)
       clear e0 e1 e2 e3 HA HS H'
       go_wp2_with (first |(go_at_call 83;refine (jha.calls _ _ _ _ true _ (Kd.jZ HRT.out (bq)) hcT E0.out).mono ?_;rintro e w2 ⟨rfl,hb2⟩;have n0_:=am (jc (g:=wr.heap.size) (o:=.cells #[.int .i64 (jl l0 (i:Int)).f0, .int .i64 (jl l0 (i:Int)).f1, .int .i64 (jl l0 (i:Int)).f2, .int .i64 (jl l0 (i:Int)).f3, .bool (jl l0 (i:Int)).f4] 90 (0,0)) (Y28) hb2);have n1_:=am (jc (g:=w.heap.size) (o:=.cells #[.slice A0_0 l0_0.length c0_0] 31 (0,0)) (kq BT.out) hb2);have n2_:=am (jc (g:=w.heap.size+1) (o:=.cells #[.slice (some ad) l0.length c0] 53 (0,0)) (kq BH.out) hb2);have n3_:=am (jg (bq) hb2);clear BX BT BH HB;(try clear cx0 cx1 cx2 cx3);have BX:=n0_;have BT:=n1_;have BH:=n2_;have HB:=n3_;clear n0_ n1_ n2_ n3_ hb2;have cT:=jOa BT.out;have cH:=jOa BH.out;have cx0:=jOa BX.out;have cx1:=cellA1 BX.out;have cx2:=cellA2 BX.out;have cx3:=cellA3 BX.out) |(go_at_call 82;refine (jxa.calls _ true _ E1.out).mono ?_;rintro e w3 ⟨rfl,hd3⟩;have hb3:=hd3.below;clear hd3;have n0_:=am (jc (g:=wr.heap.size) (o:=.cells #[.int .i64 (jl l0 (i:Int)).f0, .int .i64 (jl l0 (i:Int)).f1, .int .i64 (jl l0 (i:Int)).f2, .int .i64 (jl l0 (i:Int)).f3, .bool (jl l0 (i:Int)).f4] 90 (0,0)) (Y28) hb3);have n1_:=am (jc (g:=w.heap.size) (o:=.cells #[.slice A0_0 l0_0.length c0_0] 31 (0,0)) (kq BT.out) hb3);have n2_:=am (jc (g:=w.heap.size+1) (o:=.cells #[.slice (some ad) l0.length c0] 53 (0,0)) (kq BH.out) hb3);have n3_:=am (jg (bq) hb3);clear BX BT BH HB;(try clear cx0 cx1 cx2 cx3);have BX:=n0_;have BT:=n1_;have BH:=n2_;have HB:=n3_;clear n0_ n1_ n2_ n3_ hb3;have cT:=jOa BT.out;have cH:=jOa BH.out;have cx0:=jOa BX.out;have cx1:=cellA1 BX.out;have cx2:=cellA2 BX.out;have cx3:=cellA3 BX.out) |(go_at_call 113;refine (jic _ _ _ _ _ _ _ hmH cH).mono ?_;(first | rw [E2.out] | rw [E3.out]);rintro e w4 ⟨rfl,hb4⟩;have n0_:=am (jc (g:=wr.heap.size) (o:=.cells #[.int .i64 (jl l0 (i:Int)).f0, .int .i64 (jl l0 (i:Int)).f1, .int .i64 (jl l0 (i:Int)).f2, .int .i64 (jl l0 (i:Int)).f3, .bool (jl l0 (i:Int)).f4] 90 (0,0)) (Y28) hb4);have n1_:=am (jc (g:=w.heap.size) (o:=.cells #[.slice A0_0 l0_0.length c0_0] 31 (0,0)) (kq BT.out) hb4);have n2_:=am (jc (g:=w.heap.size+1) (o:=.cells #[.slice (some ad) l0.length c0] 53 (0,0)) (kq BH.out) hb4);have n3_:=am (jg (bq) hb4);clear BX BT BH HB;(try clear cx0 cx1 cx2 cx3);have BX:=n0_;have BT:=n1_;have BH:=n2_;have HB:=n3_;clear n0_ n1_ n2_ n3_ hb4;have cT:=jOa BT.out;have cH:=jOa BH.out;have cx0:=jOa BX.out;have cx1:=cellA1 BX.out;have cx2:=cellA2 BX.out;have cx3:=cellA3 BX.out))
       go_ret
       exact ⟨by rw [HZ.out];rfl,(bq)⟩
      | true =>
       have E3:=am (e3)
       have HN:=am (show hpAny l0_0 l0 (l0.length - (i+1)) (i+1)=hpAny l0_0 l0 l0.length 0 by rw [← HA.out,HS.out,if_neg (show ¬ hpBad l0_0 l0.length (i:Int) (jl l0 (i:Int))=true by simp [hpBad,e0,e1,e2,e3])])
       clear e0 e1 e2 e3 HA HS H'
       go_wp2_with (first |(go_at_call 83;refine (jha.calls _ _ _ _ true _ (Kd.jZ HRT.out (bq)) hcT E0.out).mono ?_;rintro e w2 ⟨rfl,hb2⟩;have n0_:=am (jc (g:=wr.heap.size) (o:=.cells #[.int .i64 (jl l0 (i:Int)).f0, .int .i64 (jl l0 (i:Int)).f1, .int .i64 (jl l0 (i:Int)).f2, .int .i64 (jl l0 (i:Int)).f3, .bool (jl l0 (i:Int)).f4] 90 (0,0)) (Y28) hb2);have n1_:=am (jc (g:=w.heap.size) (o:=.cells #[.slice A0_0 l0_0.length c0_0] 31 (0,0)) (kq BT.out) hb2);have n2_:=am (jc (g:=w.heap.size+1) (o:=.cells #[.slice (some ad) l0.length c0] 53 (0,0)) (kq BH.out) hb2);have n3_:=am (jg (bq) hb2);clear BX BT BH HB;(try clear cx0 cx1 cx2 cx3);have BX:=n0_;have BT:=n1_;have BH:=n2_;have HB:=n3_;clear n0_ n1_ n2_ n3_ hb2;have cT:=jOa BT.out;have cH:=jOa BH.out;have cx0:=jOa BX.out;have cx1:=cellA1 BX.out;have cx2:=cellA2 BX.out;have cx3:=cellA3 BX.out) |(go_at_call 82;refine (jxa.calls _ true _ E1.out).mono ?_;rintro e w3 ⟨rfl,hd3⟩;have hb3:=hd3.below;clear hd3;have n0_:=am (jc (g:=wr.heap.size) (o:=.cells #[.int .i64 (jl l0 (i:Int)).f0, .int .i64 (jl l0 (i:Int)).f1, .int .i64 (jl l0 (i:Int)).f2, .int .i64 (jl l0 (i:Int)).f3, .bool (jl l0 (i:Int)).f4] 90 (0,0)) (Y28) hb3);have n1_:=am (jc (g:=w.heap.size) (o:=.cells #[.slice A0_0 l0_0.length c0_0] 31 (0,0)) (kq BT.out) hb3);have n2_:=am (jc (g:=w.heap.size+1) (o:=.cells #[.slice (some ad) l0.length c0] 53 (0,0)) (kq BH.out) hb3);have n3_:=am (jg (bq) hb3);clear BX BT BH HB;(try clear cx0 cx1 cx2 cx3);have BX:=n0_;have BT:=n1_;have BH:=n2_;have HB:=n3_;clear n0_ n1_ n2_ n3_ hb3;have cT:=jOa BT.out;have cH:=jOa BH.out;have cx0:=jOa BX.out;have cx1:=cellA1 BX.out;have cx2:=cellA2 BX.out;have cx3:=cellA3 BX.out) |(go_at_call 113;refine (jic _ _ _ _ _ _ _ hmH cH).mono ?_;(first | rw [E2.out] | rw [E3.out]);rintro e w4 ⟨rfl,hb4⟩;have n0_:=am (jc (g:=wr.heap.size) (o:=.cells #[.int .i64 (jl l0 (i:Int)).f0, .int .i64 (jl l0 (i:Int)).f1, .int .i64 (jl l0 (i:Int)).f2, .int .i64 (jl l0 (i:Int)).f3, .bool (jl l0 (i:Int)).f4] 90 (0,0)) (Y28) hb4);have n1_:=am (jc (g:=w.heap.size) (o:=.cells #[.slice A0_0 l0_0.length c0_0] 31 (0,0)) (kq BT.out) hb4);have n2_:=am (jc (g:=w.heap.size+1) (o:=.cells #[.slice (some ad) l0.length c0] 53 (0,0)) (kq BH.out) hb4);have n3_:=am (jg (bq) hb4);clear BX BT BH HB;(try clear cx0 cx1 cx2 cx3);have BX:=n0_;have BT:=n1_;have BH:=n2_;have HB:=n3_;clear n0_ n1_ n2_ n3_ hb4;have cT:=jOa BT.out;have cH:=jOa BH.out;have cx0:=jOa BX.out;have cx1:=cellA1 BX.out;have cx2:=cellA2 BX.out;have cx3:=cellA3 BX.out))
       go_roundw
       case rel=>exact ⟨i+1,hlt,by go_num,HN,⟨kq BT.out⟩,⟨kq BH.out⟩,⟨(bq)⟩⟩
       case measure=>simp [intOf];omega
  ·obtain rfl:i=l0.length:=by omega
   have HG:=am (show (hpEnds k l0 l0.length 0).bind (fun b=>if b=true then ((jA.f k l0_0).bind fun v=>some (if v=true then decide ((l0.length:Int)≤24) else false)) else some false)=some r by
    have h:=H'.out
    unfold jXa.f at h
    have hA:=HA.out
    rw [Nat.sub_self] at hA
    rw [if_neg (show ¬ hpAny l0_0 l0 l0.length 0=true by rw [← hA];simp [hpAny])] at h
    exact h)
   clear HA H'
   obtain ⟨b,hE,hG⟩:=bzS HG.out
   have HE:=am hE
   have HG2:=am hG
   clear HG hE hG
   go_wp2
   go_loopw [50] (fun v50 wr=>∃ j:Nat,j≤l0.length∧v50=.int .i64 j∧jE (hpEnds k l0 (l0.length - j) j=some b)∧jE (wr.heap[w.heap.size]?=some (.cells #[.slice A0_0 l0_0.length c0_0] 31 (0,0)))∧jE (wr.heap[w.heap.size+1]?=some (.cells #[.slice A0 l0.length c0] 53 (0,0)))∧jE (Below w.heap.size w wr)) (fun v50 _=>l0.length - (intOf v50).toNat)
   case atStart=>exact ⟨0,Nat.zero_le _,rfl,HE,BT,BH,HB⟩
   case round =>
    clear HB BT BH cT cH HE hlt
    obtain ⟨j,hj,rfl,HA,BT,BH,HB⟩:=hrel
    have cT:=jOa BT.out
    have cH:=jOa BH.out
    by_cases hlt:j<l0.length
    ·have hA:=HA.out
     rw [show l0.length - j=(l0.length - (j+1))+1 by omega,hpEnds] at hA
     obtain ⟨l,hl,hA⟩:=bzS hA
     have HC:=am (fun W (hb:Below w.heap.size w W)=>jza.calls k A0 c0 l0 (j:Int) l W (Kd.jZ HRH.out hb) hcH hl)
     clear HA hl
     by_cases hlen:1≤l.length
     ·rw [if_pos hlen] at hA
      obtain ⟨c,hc,hA⟩:=bzS hA
      unfold ctxF at hc
      obtain ⟨ji,hji⟩:∃ ji,ji=(l.length:Int) - 1:=⟨_,rfl⟩
      rw [← hji] at hc
      have HJ:=am hji
      by_cases hc1:0≤rd l ji
      ·rw [if_pos hc1] at hc
       by_cases hc2:rd l ji<(l0.length:Int)
       ·rw [if_pos hc2] at hc
        have hc3:=Option.some.inj hc
        clear hc
        have hl0:0≤ji:=by omega
        have hl1:ji<(l.length:Int):=by omega
        clear hji
        have p0:=ezT hc1
        have p1:=ezT hc2
        have p2:=ezT hl0
        have p3:=ezT hl1
        by_cases e1:c = -1
        ·rw [if_pos e1] at hA
         have HN:=am hA
         have hcb:((jl l0 (rd l ji)).f3 != -1)=false:=by rw [hc3];simpa using e1
         clear hA e1 hc3 hlen
         go_wp2_with (go_at_call 114;refine (HC.out _ (bq)).mono ?_;rintro e w2 ⟨v2,rfl,hr2,hb2⟩;have n1_:=am (jc (g:=w.heap.size) (o:=.cells #[.slice A0_0 l0_0.length c0_0] 31 (0,0)) (kq BT.out) hb2);have n2_:=am (jc (g:=w.heap.size+1) (o:=.cells #[.slice A0 l0.length c0] 53 (0,0)) (kq BH.out) hb2);have n3_:=am (jg (bq) hb2);clear BT BH HB;have BT:=n1_;have BH:=n2_;have HB:=n3_;clear n1_ n2_ n3_ hb2;have cT:=jOa BT.out;have cH:=jOa BH.out;obtain ⟨Ao,co,eo⟩:=Kd.jga hr2;subst eo;have hw2:IntKind.i64.wrap ((l.length:Int) - 1)=ji:=(by rw [HJ.out];exact IntWalk.i64_in _ (by have:=Kd.C_max (Kd.jC hr2).2.2;omega));obtain ⟨ad2,rfl,hz⟩:=Kd.jsb (Kd.jC hr2).2.2 ji hl0 hl1;obtain ⟨ad,e3,y0,y1,y2,y3,y4⟩:=at_T90 (Kd.jZ HRH.out HB.out) (rd l ji) hc1 hc2;cases e3;clear hr2)
         repeat (go_quiet (fail);try go_wp2)
         go_roundw
         case rel=>exact ⟨j+1,hlt,by go_num,HN,⟨kq BT.out⟩,⟨kq BH.out⟩,⟨(bq)⟩⟩
         case measure=>simp [intOf];omega
        ·rw [if_neg e1] at hA
         have hcb:((jl l0 (rd l ji)).f3 != -1)=true:=by rw [hc3];simpa using e1
         have HZ:=am (show r=false by
          have h:=HG2.out
          rw [← Option.some.inj hA,if_neg (by simp)] at h
          exact (Option.some.inj h).symm)
         clear hA e1 hc3 hlen HG2
         go_wp2_with (go_at_call 114;refine (HC.out _ (bq)).mono ?_;rintro e w2 ⟨v2,rfl,hr2,hb2⟩;have n1_:=am (jc (g:=w.heap.size) (o:=.cells #[.slice A0_0 l0_0.length c0_0] 31 (0,0)) (kq BT.out) hb2);have n2_:=am (jc (g:=w.heap.size+1) (o:=.cells #[.slice A0 l0.length c0] 53 (0,0)) (kq BH.out) hb2);have n3_:=am (jg (bq) hb2);clear BT BH HB;have BT:=n1_;have BH:=n2_;have HB:=n3_;clear n1_ n2_ n3_ hb2;have cT:=jOa BT.out;have cH:=jOa BH.out;obtain ⟨Ao,co,eo⟩:=Kd.jga hr2;subst eo;have hw2:IntKind.i64.wrap ((l.length:Int) - 1)=ji:=(by rw [HJ.out];exact IntWalk.i64_in _ (by have:=Kd.C_max (Kd.jC hr2).2.2;omega));obtain ⟨ad2,rfl,hz⟩:=Kd.jsb (Kd.jC hr2).2.2 ji hl0 hl1;obtain ⟨ad,e3,y0,y1,y2,y3,y4⟩:=at_T90 (Kd.jZ HRH.out HB.out) (rd l ji) hc1 hc2;cases e3;clear hr2)
         repeat (go_quiet (fail);try go_wp2)
         go_ret
         exact ⟨by rw [HZ.out];rfl,(bq)⟩
       ·rw [if_neg hc2] at hc;cases hc
      ·rw [if_neg hc1] at hc;cases hc
     ·rw [if_neg hlen] at hA;cases hA
    ·obtain rfl:j=l0.length:=by omega
     have hA:=HA.out
     rw [Nat.sub_self] at hA
     have hG:=HG2.out
     rw [← Option.some.inj (show some true=some b from hA),if_pos rfl] at hG
     obtain ⟨v,hv,hG⟩:=bzS hG
     have HV:=am (fun W (hb:Below w.heap.size w W)=>jA.calls k A0_0 c0_0 l0_0 v W (Kd.jZ HRT.out hb) hcT hv)
     have hZ:=Option.some.inj hG
     clear HA HG2 hA hG hv
     cases v with
     | false =>
      have HZ:=am (show r=false by rw [← hZ];rfl)
      clear hZ
      go_wp2_with (go_at_call 48;refine (HV.out _ (bq)).mono ?_;rintro e w2 ⟨rfl,hb2⟩;have n1_:=am (jc (g:=w.heap.size) (o:=.cells #[.slice A0_0 l0_0.length c0_0] 31 (0,0)) (kq BT.out) hb2);have n2_:=am (jc (g:=w.heap.size+1) (o:=.cells #[.slice A0 l0.length c0] 53 (0,0)) (kq BH.out) hb2);have n3_:=am (jg (bq) hb2);clear BT BH HB;have BT:=n1_;have BH:=n2_;have HB:=n3_;clear n1_ n2_ n3_ hb2;have cT:=jOa BT.out;have cH:=jOa BH.out)
      go_ret
      exact ⟨by rw [HZ.out];rfl,(bq)⟩
     | true =>
      rw [if_pos rfl] at hZ
      have HZ:=am hZ
      clear hZ
      go_wp2_with (go_at_call 48;refine (HV.out _ (bq)).mono ?_;rintro e w2 ⟨rfl,hb2⟩;have n1_:=am (jc (g:=w.heap.size) (o:=.cells #[.slice A0_0 l0_0.length c0_0] 31 (0,0)) (kq BT.out) hb2);have n2_:=am (jc (g:=w.heap.size+1) (o:=.cells #[.slice A0 l0.length c0] 53 (0,0)) (kq BH.out) hb2);have n3_:=am (jg (bq) hb2);clear BT BH HB;have BT:=n1_;have BH:=n2_;have HB:=n3_;clear n1_ n2_ n3_ hb2;have cT:=jOa BT.out;have cH:=jOa BH.out)
      go_ret
      exact ⟨by rw [← HZ.out];rfl,(bq)⟩
set_option maxHeartbeats 8000000 in
set_option maxRecDepth 100000 in
theorem impl_faultsIn1_calls (A_ : Option Addr) (c_ : Nat) (m : Nat) (x : Int) (B0 : Nat) (w : World) (hm : m ≤ 9223372036854775807) (hc : w.cell? ⟨B0, 0, none⟩ = some (.slice A_ m c_)) :
  Calls Try.prog 89 #[.int .i64 x, .pointer (some ⟨B0,0,none⟩)] w fun e w'=>e=.returned (.bool (!hpIn x 0 ((m:Int) - 1)))∧Below w.heap.size w w':=by
 have HB:=am (Below.refl w.heap.size w)
 have hu53:=Try.underlying53
 have hw2:IntKind.i64.wrap ((m:Int) - 1)=(m:Int) - 1:=IntWalk.i64_in _ (by omega)
 by_cases h1:x≥0
 ·have hb1:=dzT h1
  by_cases h2:x≤(m:Int) - 1
  ·have hb2:=dzT h2
   have HZ:=am (by simp [hpIn];omega:hpIn x 0 ((m:Int) - 1)=true)
   clear h1 h2
   go_enter Try.func89,Try.ntmps89
   go_wp2
   go_ret
   exact ⟨by rw [HZ.out];rfl,(bq)⟩
  ·have hb2:=dzF h2
   have HZ:=am (by simp [hpIn];omega:hpIn x 0 ((m:Int) - 1)=false)
   clear h1 h2
   go_enter Try.func89,Try.ntmps89
   go_wp2
   go_ret
   exact ⟨by rw [HZ.out];rfl,(bq)⟩
 ·have hb1:=dzF h1
  have HZ:=am (by simp [hpIn];omega:hpIn x 0 ((m:Int) - 1)=false)
  clear h1
  go_enter Try.func89,Try.ntmps89
  go_wp2
  go_ret
  exact ⟨by rw [HZ.out];rfl,(bq)⟩
set_option maxHeartbeats 8000000 in
set_option maxRecDepth 100000 in
theorem impl_faultsIn_idx (A_ : Option Addr) (c_ : Nat) (l : List (Int)) (B0_ : Nat) (p : Int → Option Bool) (r : Int) (w : World) (hr : Kd.C (Kd.int .i64) w A_ l.length l) (h : idxFrom p l 0 = some r)
  (hp:∀ W,Below w.heap.size w W→∀ (x:Int) (b:Bool),p x=some b→Calls Try.prog 89 #[.int .i64 x, .pointer (some ⟨B0_,0,none⟩)] W fun e w'=>e=.returned (.bool b)∧Below W.heap.size W w') :
  Calls Try.prog 115 #[.slice A_ l.length c_, .func (.func 89) #[] #[.pointer (some ⟨B0_,0,none⟩)]] w fun e w'=>e=.returned (.int .i64 r)∧Below w.heap.size w w':=by
 have hm:l.length≤9223372036854775807:=Kd.C_max hr
 have HR:=am hr
 have HP:=am hp
 have H0:=am h
 clear hr hp h
 go_enter Try.func115,Try.ntmps115
 go_wp2
 go_loopw [5,8] (fun i5 i8 wr=>∃ k:Nat,k≤l.length∧i8=.int .i64 k∧jE (idxFrom p (l.drop k) k=some r)∧Below w.heap.size w wr) (fun _ i8 _=>l.length - (intOf i8).toNat)
 case atStart=>exact ⟨0,Nat.zero_le _,rfl,H0,Below.refl _ _⟩
 case round =>
  clear H0
  obtain ⟨k,hk,rfl,HA,hb⟩:=hrel
  by_cases hlt:k<l.length
  ·have HB:=am (jfc hlt HA.out)
   clear HA
   obtain ⟨ad,rfl,hx0⟩:=Kd.jsb HR.out (k:Int) (by omega) (by omega)
   have hrd:rd l (k:Int)=l[k]:=by simp [rd,List.getD_eq_getElem?_getD,hlt]
   replace hx0:=jP hb hx0
   rw [hrd] at hx0
   simp only [Int.toNat_natCast] at hx0
   clear hrd
   obtain ⟨b,hb1,hb0⟩:=HB.out
   have HQ:=am hb1
   clear hb1 HB
   cases b with
   | true =>
    have HZ:=am (by simpa using hb0:(k:Int)=r)
    clear hb0
    go_wp2_with (go_at_call 89;refine (HP.out _ hb _ _ HQ.out).mono ?_;rintro e w' ⟨rfl,hb2⟩)
    go_ret
    exact ⟨by rw [← HZ.out];rfl,jdb hb hb.size hb2⟩
   | false =>
    have HZ:=am (by simpa using hb0:idxFrom p (l.drop (k+1)) (k+1)=some r)
    clear hb0
    go_wp2_with (go_at_call 89;refine (HP.out _ hb _ _ HQ.out).mono ?_;rintro e w' ⟨rfl,hb2⟩)
    go_roundw
    case rel=>exact ⟨k+1,hlt,by go_num,HZ,jdb hb hb.size hb2⟩
    case measure=>simp [intOf];omega
  ·have HZ:=am (jtc (by omega) HA.out)
   clear HA
   go_wp2
   go_ret
   exact ⟨by rw [HZ.out];rfl,hb⟩
set_option maxHeartbeats 8000000 in
set_option maxRecDepth 100000 in
theorem impl_faultsIn_any (A_ : Option Addr) (c_ : Nat) (l : List Int) (B0_ : Nat) (p : Int → Option Bool) (r : Int) (w : World) (hr : Kd.C (Kd.int .i64) w A_ l.length l) (h : idxFrom p l 0 = some r)
  (hp:∀ W,Below w.heap.size w W→∀ (x:Int) (b:Bool),p x=some b→Calls Try.prog 89 #[.int .i64 x, .pointer (some ⟨B0_,0,none⟩)] W fun e w'=>e=.returned (.bool b)∧Below W.heap.size W w') :
  Calls Try.prog 88 #[.slice A_ l.length c_, .func (.func 89) #[] #[.pointer (some ⟨B0_,0,none⟩)]] w fun e w'=>e=.returned (.bool (decide (0≤r)))∧Below w.heap.size w w':=by
 have HF:=am (impl_faultsIn_idx A_ c_ l B0_ p r w hr h hp)
 clear hr h hp
 go_enter Try.func88,Try.ntmps88
 go_wp2_with (go_at_call 115;refine HF.out.mono ?_;rintro e w' ⟨rfl,hb2⟩)
 go_ret
 exact ⟨rfl,hb2⟩
def jab.f (k : Nat) (l0_0 : List S106) (l1_0 : List S90) (l2 : List Int) : Option Bool := (jXa.f k l0_0 l1_0).bind fun v => if v then (idxFrom (fun x => some (!hpIn x 0 ((l1_0.length : Int) - 1))) l2 0).bind fun r => some (!decide (0 ≤ r)) else some false
set_option maxHeartbeats 8000000 in
set_option maxRecDepth 100000 in
theorem jab.calls (k : Nat) (A0_0 : Option Addr) (c0_0 : Nat) (l0_0 : List (S106)) (A1_0 : Option Addr) (c1_0 : Nat) (l1_0 : List (S90)) (A2 : Option Addr) (c2 : Nat) (l2 : List Int) (r : Bool) (w : World) (hr0_0 : Kd.C k106 w A0_0 l0_0.length l0_0) (hc0_0 : l0_0.length ≤ c0_0) (hr1_0 : Kd.C k90 w A1_0 l1_0.length l1_0) (hc1_0 : l1_0.length ≤ c1_0) (hr2 : Kd.C (Kd.int .i64) w A2 l2.length l2) (hc2 : l2.length ≤ c2) (h : jab.f k l0_0 l1_0 l2 = some r) :
  Calls Try.prog 58 #[.agg #[.slice A0_0 l0_0.length c0_0], .agg #[.slice A1_0 l1_0.length c1_0], .slice A2 l2.length c2] w fun e w'=>e=.returned (.bool r)∧Below w.heap.size w w':=by
 obtain ⟨v,hv,h⟩:=bzS h
 have hu31:=Try.underlying31
 have hu53:=Try.underlying53
 have hm:l1_0.length≤9223372036854775807:=Kd.C_max hr1_0
 have B0:=am (((Below.refl w.heap.size w).alloc (Nat.le_refl _) (.cells #[.slice A0_0 l0_0.length c0_0] 31)).alloc (by simp) (.cells #[.slice A1_0 l1_0.length c1_0] 53))
 have KC:=am (show ((w.alloc (.cells #[.slice A0_0 l0_0.length c0_0] 31)).alloc (.cells #[.slice A1_0 l1_0.length c1_0] 53)).cell? ⟨w.heap.size+1,0,none⟩=some (.slice A1_0 l1_0.length c1_0) by have h:=hp_cell_new (w.alloc (.cells #[.slice A0_0 l0_0.length c0_0] 31)) (.slice A1_0 l1_0.length c1_0) 53;simpa only [World.size_alloc] using h)
 have HV:=am (fun W (hb:Below w.heap.size w W)=>jXa.calls k A0_0 c0_0 l0_0 A1_0 c1_0 l1_0 v W (Kd.jZ hr0_0 hb) hc0_0 (Kd.jZ hr1_0 hb) hc1_0 hv)
 cases v with
 | false =>
  obtain rfl:false=r:=by simpa using h
  clear hv h hr0_0 hr1_0 hr2
  go_enter Try.func58,Try.ntmps58
  go_wp2_with (go_at_call 87;refine (HV.out _ B0.out).mono ?_;rintro e w' ⟨rfl,hb2⟩)
  go_ret
  exact ⟨rfl,jdb B0.out B0.out.size hb2⟩
 | true =>
  simp only [if_true] at h
  obtain ⟨q,hq,h⟩:=bzS h
  have HZ:=am (Option.some.inj h)
  have HF:=am (fun W (hb:Below w.heap.size w W) (B:Nat) (hc:W.cell? ⟨B,0,none⟩=some (.slice A1_0 l1_0.length c1_0))=>impl_faultsIn_any A2 c2 l2 B (fun x=>some (!hpIn x 0 ((l1_0.length:Int) - 1))) q W (Kd.jZ hr2 hb) hq (fun W' hb' x b hx=>by
   obtain rfl:=Option.some.inj hx
   exact impl_faultsIn1_calls A1_0 c1_0 l1_0.length x B W' hm (jP hb' hc)))
  clear hv h hq hr0_0 hr1_0 hr2
  go_enter Try.func58,Try.ntmps58
  go_wp2_with (first |(go_at_call 87;refine (HV.out _ B0.out).mono ?_;rintro e w1 ⟨rfl,hb2⟩;have hb1:=jdb B0.out B0.out.size hb2;have hcell:=jP hb2 KC.out) |(go_at_call 88;refine (HF.out _ hb1 _ hcell).mono ?_;rintro e w2 ⟨rfl,hb3⟩))
  go_ret
  exact ⟨by rw [← HZ.out];rfl,jdb hb1 hb1.size hb3⟩
def jCb.f (k : Nat) (l0_0 : List (S106)) (l1_0 : List Int) (a1_1 : Int) (a1_2 : Int) (l1_3 : List (S90)) : Option (Bool × Int × Int × Bool) := (jA.f k l0_0).bind fun t660 => (if t660 = true then (if a1_1 = 0 then (some (false, 0, 0, true)) else (if a1_1 = 2 then ((jab.f k l0_0 l1_3 (([a1_2] : List Int))).bind fun t664 => (if t664 = true then (if 0 ≤ a1_2 then (if a1_2 < (l1_3.length : Int) then (some (true, (jl l1_3 a1_2).f0, (jl l1_3 a1_2).f1, true)) else (none)) else (none)) else (some (false, 0, 0, false)))) else (some (false, 0, 0, false)))) else (some (false, 0, 0, false)))
set_option maxHeartbeats 8000000 in
set_option maxRecDepth 100000 in
theorem jCb.calls (k : Nat) (A0_0 : Option Addr) (c0_0 : Nat) (l0_0 : List (S106)) (A1_0 : Option Addr) (c1_0 : Nat) (l1_0 : List Int) (a1_1 : Int) (a1_2 : Int) (A1_3 : Option Addr) (c1_3 : Nat) (l1_3 : List (S90)) (r1 : Bool) (r2 : Int) (r3 : Int) (r4 : Bool) (w : World) (hr0_0 : Kd.C k106 w A0_0 l0_0.length l0_0) (hc0_0 : l0_0.length ≤ c0_0) (hr1_0 : Kd.C (Kd.int .i64) w A1_0 l1_0.length l1_0) (hc1_0 : l1_0.length ≤ c1_0) (hr1_3 : Kd.C k90 w A1_3 l1_3.length l1_3) (hc1_3 : l1_3.length ≤ c1_3) (h : jCb.f k l0_0 l1_0 a1_1 a1_2 l1_3 = some (r1, r2, r3, r4)) :
  Calls Try.prog 24 #[.agg #[.slice A0_0 l0_0.length c0_0], .agg #[.slice A1_0 l1_0.length c1_0, .int .i64 a1_1, .int .i64 a1_2, .slice A1_3 l1_3.length c1_3]] w fun e w'=>e=.returned (.tuple #[.agg #[.bool r1, .int .i64 r2, .int .i64 r3], .bool r4])∧Below w.heap.size w w':=by
 have hu31:=Try.underlying31
 have hu55:=Try.underlying55
 have hu50:=Try.underlying50
 have hu53:=Try.underlying53
 have hu90:=Try.underlying90
 have HR0_0:=am hr0_0
 have HC0_0:=am hc0_0
 clear hr0_0 hc0_0
 have HR1_0:=am hr1_0
 have HC1_0:=am hc1_0
 clear hr1_0 hc1_0
 have HR1_3:=am hr1_3
 have HC1_3:=am hc1_3
 clear hr1_3 hc1_3
 have HB:=am (Below.refl w.heap.size w)
 have H:((jA.f k l0_0).bind fun t660=>(if t660=true then (if a1_1=0 then (some (false,0,0,true)) else (if a1_1=2 then ((jab.f k l0_0 l1_3 (([a1_2]:List Int))).bind fun t664=>(if t664=true then (if 0≤a1_2 then (if a1_2<(l1_3.length:Int) then (some (true,(jl l1_3 a1_2).f0,(jl l1_3 a1_2).f1,true)) else (none)) else (none)) else (some (false,0,0,false)))) else (some (false,0,0,false)))) else (some (false,0,0,false))))=some (r1,r2,r3,r4):=h
 clear h
 replace H:=bzS H
 obtain ⟨t660,A30,H⟩:=H
 replace H:(if t660=true then (if a1_1=0 then (some (false,0,0,true)) else (if a1_1=2 then ((jab.f k l0_0 l1_3 (([a1_2]:List Int))).bind fun t664=>(if t664=true then (if 0≤a1_2 then (if a1_2<(l1_3.length:Int) then (some (true,(jl l1_3 a1_2).f0,(jl l1_3 a1_2).f1,true)) else (none)) else (none)) else (some (false,0,0,false)))) else (some (false,0,0,false)))) else (some (false,0,0,false)))=some (r1,r2,r3,r4):=H
 have A3:=am A30
 clear A30
 by_cases c4:t660=true
 ·subst c4
  have H1:(if a1_1=0 then (some (false,0,0,true)) else (if a1_1=2 then ((jab.f k l0_0 l1_3 (([a1_2]:List Int))).bind fun t664=>(if t664=true then (if 0≤a1_2 then (if a1_2<(l1_3.length:Int) then (some (true,(jl l1_3 a1_2).f0,(jl l1_3 a1_2).f1,true)) else (none)) else (none)) else (some (false,0,0,false)))) else (some (false,0,0,false))))=some (r1,r2,r3,r4):=by rw [if_pos rfl] at H;exact H
  clear H
  have H:=H1
  clear H1
  by_cases c5:a1_1=0
  ·rw [if_pos c5] at H
   have c5b0:(a1_1 == 0)=true:=beq_iff_eq.mpr c5
   have c5b1:(a1_1 != 0)=false:=bne_eq_false_iff_eq.mpr c5
   clear c5
   simp only [Option.some.injEq,Prod.mk.injEq] at H
   obtain ⟨rfl,rfl,rfl,rfl⟩:=H
   go_enter Try.func24,Try.ntmps24
   go_wp2_with (first |((with_reducible refine jG (N:=2) rfl ?_);(try (refine jJa (by rfl) ?_;dsimp only));refine jUa ?hg (N:=2) ?hd (cs:=#[.slice A0_0 l0_0.length c0_0]) (t:=31) ?hr ?_;(case hd=>rfl);(case hg=>rfl);(case hr=>exact Y3);intro gb657 hg w6 hbox hb;have BK657:=am (hbox);have GW657:=am ((Y2:w.heap.size≤gb657));have GE657:=am ((Y2:w.heap.size≤gb657));replace HB:=am (jg (bq) hb);clear hb hbox hg) |((with_reducible refine jG (N:=3) rfl ?_);(try (refine jJa (by rfl) ?_;dsimp only));refine jUa ?hg (N:=3) ?hd (cs:=#[.slice A1_0 l1_0.length c1_0, .int .i64 a1_1, .int .i64 a1_2, .slice A1_3 l1_3.length c1_3]) (t:=55) ?hr ?_;(case hd=>rfl);(case hg=>rfl);(case hr=>exact Y3);intro gb658 hg w7 hbox hb;have BK658:=am (hbox);have GW658:=am ((Y38:w.heap.size≤gb658));have GE658:=am ((Y38:w.heap.size≤gb658));have NB657_658:=am ((Y32:gb657≠gb658));have NB658_657:=am ((Y33:gb658≠gb657));replace BK657:=am (jc (g:=gb657) (o:=.cells #[.slice A0_0 l0_0.length c0_0] 31 (0,0)) (kq BK657.out) hb);replace HB:=am (jg (Y65) hb);clear hb hbox hg) |((with_reducible refine jG (N:=4) rfl ?_);(try (refine jJa (by rfl) ?_;dsimp only));refine jUa ?hg (N:=4) ?hd (cs:=#[.bool false, .int .i64 0, .int .i64 0]) (t:=50) ?hr ?_;(case hd=>rfl);(case hg=>rfl);(case hr=>exact Y3);intro gb659 hg w8 hbox hb;have BK659:=am (hbox);have GW659:=am ((Y39:w.heap.size≤gb659));have GE659:=am ((Y39:w.heap.size≤gb659));have NB657_659:=am ((Y32:gb657≠gb659));have NB659_657:=am ((Y33:gb659≠gb657));have NB658_659:=am ((Y66:gb658≠gb659));have NB659_658:=am ((Y67:gb659≠gb658));replace BK657:=am (jc (g:=gb657) (o:=.cells #[.slice A0_0 l0_0.length c0_0] 31 (0,0)) (kq BK657.out) hb);replace BK658:=am (jc (g:=gb658) (o:=.cells #[.slice A1_0 l1_0.length c1_0, .int .i64 a1_1, .int .i64 a1_2, .slice A1_3 l1_3.length c1_3] 55 (0,0)) (kq BK658.out) hb);replace HB:=am (jg (Y68) hb);clear hb hbox hg;have hnb9:=NB657_658.out;have hnc9:=NB658_657.out;have hnb10:=NB657_659.out;have hnc10:=NB659_657.out;have hcz11_0:=bc0 BK657.out;have hfz11_0:=ja BK657.out 0) |((with_reducible refine jo (f:=48) rfl ?_);refine gL (some 9) Try.func48 #[.agg #[.slice A0_0 l0_0.length c0_0]] ?_;(with_reducible refine (jA.calls k _ _ l0_0 true _ ?side1 ?side2 A3.out).mono ?_);(case side1=>exact cq (Kd.jZ HR0_0.out HB.out));(case side2=>exact HC0_0.out);rintro e w12 ⟨rfl,hb⟩;refine ⟨_,rfl,?_⟩;replace BK657:=am (jc (g:=gb657) (o:=.cells #[.slice A0_0 l0_0.length c0_0] 31 (0,0)) (kq BK657.out) hb);replace BK658:=am (jc (g:=gb658) (o:=.cells #[.slice A1_0 l1_0.length c1_0, .int .i64 a1_1, .int .i64 a1_2, .slice A1_3 l1_3.length c1_3] 55 (0,0)) (kq BK658.out) hb);replace BK659:=am (jc (g:=gb659) (o:=.cells #[.bool false, .int .i64 0, .int .i64 0] 50 (0,0)) (kq BK659.out) hb);replace HB:=am (jg (Y16) hb);(try clear hb);(try clear hb2);(try clear hk);(try clear hi);have hnb13:=NB658_659.out;have hnc13:=NB659_658.out;have hcz14_0:=bc0 BK658.out;have hcz14_1:=bc1 BK658.out;have hcz14_2:=bc2 BK658.out;have hcz14_3:=bc3 BK658.out;have hfz14_0:=ja BK658.out 0;have hfz14_1:=ja BK658.out 1;have hfz14_2:=ja BK658.out 2;have hfz14_3:=ja BK658.out 3;have hcz15_0:=bc0 BK659.out;have hcz15_1:=bc1 BK659.out;have hcz15_2:=bc2 BK659.out;have hfz15_0:=ja BK659.out 0;have hfz15_1:=ja BK659.out 1;have hfz15_2:=ja BK659.out 2))
   refine bodyPost_ret (jmb rfl _ _ gb659 50 #[.bool false, .int .i64 0, .int .i64 0] (0,0) _ rfl (Y79) Try.underlying50 rfl (by kernel_rfl)) rfl ?_
   exact ⟨Y0,Y16⟩
  ·rw [if_neg c5] at H
   have c5b0:(a1_1 == 0)=false:=beq_eq_false_iff_ne.mpr c5
   have c5b1:(a1_1 != 0)=true:=bne_iff_ne.mpr c5
   by_cases c16:a1_1=2
   ·rw [if_pos c16] at H
    have c16b0:(a1_1 == 2)=true:=beq_iff_eq.mpr c16
    have c16b1:(a1_1 != 2)=false:=bne_eq_false_iff_eq.mpr c16
    clear c16
    obtain ⟨y661,hy661⟩:∃ y_:List Int,y_=(([a1_2]:List Int)):=⟨_,rfl⟩
    replace H:((jab.f k l0_0 l1_3 y661).bind fun t664=>(if t664=true then (if 0≤a1_2 then (if a1_2<(l1_3.length:Int) then (some (true,(jl l1_3 a1_2).f0,(jl l1_3 a1_2).f1,true)) else (none)) else (none)) else (some (false,0,0,false))))=some (r1,r2,r3,r4):=by first |(rw [hy661];with_reducible exact H) |(have H2_:=(Option.bind_some _ _).symm.trans H;rw [hy661];with_reducible exact H2_) |(have H2_:=(Option.bind_some _ _).symm.trans H;with_reducible exact H2_) | with_reducible exact H |(rw [hy661];exact H) | exact H
    have Ny661:=am hy661
    clear hy661
    replace H:=bzS H
    obtain ⟨t664,A170,H⟩:=H
    replace H:(if t664=true then (if 0≤a1_2 then (if a1_2<(l1_3.length:Int) then (some (true,(jl l1_3 a1_2).f0,(jl l1_3 a1_2).f1,true)) else (none)) else (none)) else (some (false,0,0,false)))=some (r1,r2,r3,r4):=H
    have A17:=am A170
    clear A170
    by_cases c18:t664=true
    ·subst c18
     have H1:(if 0≤a1_2 then (if a1_2<(l1_3.length:Int) then (some (true,(jl l1_3 a1_2).f0,(jl l1_3 a1_2).f1,true)) else (none)) else (none))=some (r1,r2,r3,r4):=by rw [if_pos rfl] at H;exact H
     clear H
     have H:=H1
     clear H1
     by_cases c19:0≤a1_2
     ·rw [if_pos c19] at H
      have c19b0:decide (0≤a1_2)=true:=dzT c19
      clear c19
      by_cases c20:a1_2<(l1_3.length:Int)
      ·rw [if_pos c20] at H
       have c20b0:decide (a1_2<(l1_3.length:Int))=true:=dzT c20
       clear c20
       simp only [Option.some.injEq,Prod.mk.injEq] at H
       obtain ⟨rfl,rfl,rfl,rfl⟩:=H
       go_enter Try.func24,Try.ntmps24
       go_wp2_with (first |((with_reducible refine jG (N:=2) rfl ?_);(try (refine jJa (by rfl) ?_;dsimp only));refine jUa ?hg (N:=2) ?hd (cs:=#[.slice A0_0 l0_0.length c0_0]) (t:=31) ?hr ?_;(case hd=>rfl);(case hg=>rfl);(case hr=>exact Y3);intro gb657 hg w21 hbox hb;have BK657:=am (hbox);have GW657:=am ((Y2:w.heap.size≤gb657));have GE657:=am ((Y2:w.heap.size≤gb657));replace HB:=am (jg (bq) hb);clear hb hbox hg) |((with_reducible refine jG (N:=3) rfl ?_);(try (refine jJa (by rfl) ?_;dsimp only));refine jUa ?hg (N:=3) ?hd (cs:=#[.slice A1_0 l1_0.length c1_0, .int .i64 a1_1, .int .i64 a1_2, .slice A1_3 l1_3.length c1_3]) (t:=55) ?hr ?_;(case hd=>rfl);(case hg=>rfl);(case hr=>exact Y3);intro gb658 hg w22 hbox hb;have BK658:=am (hbox);have GW658:=am ((Y38:w.heap.size≤gb658));have GE658:=am ((Y38:w.heap.size≤gb658));have NB657_658:=am ((Y32:gb657≠gb658));have NB658_657:=am ((Y33:gb658≠gb657));replace BK657:=am (jc (g:=gb657) (o:=.cells #[.slice A0_0 l0_0.length c0_0] 31 (0,0)) (kq BK657.out) hb);replace HB:=am (jg (Y65) hb);clear hb hbox hg) |((with_reducible refine jG (N:=4) rfl ?_);(try (refine jJa (by rfl) ?_;dsimp only));refine jUa ?hg (N:=4) ?hd (cs:=#[.bool false, .int .i64 0, .int .i64 0]) (t:=50) ?hr ?_;(case hd=>rfl);(case hg=>rfl);(case hr=>exact Y3);intro gb659 hg w23 hbox hb;have BK659:=am (hbox);have GW659:=am ((Y39:w.heap.size≤gb659));have GE659:=am ((Y39:w.heap.size≤gb659));have NB657_659:=am ((Y32:gb657≠gb659));have NB659_657:=am ((Y33:gb659≠gb657));have NB658_659:=am ((Y66:gb658≠gb659));have NB659_658:=am ((Y67:gb659≠gb658));replace BK657:=am (jc (g:=gb657) (o:=.cells #[.slice A0_0 l0_0.length c0_0] 31 (0,0)) (kq BK657.out) hb);replace BK658:=am (jc (g:=gb658) (o:=.cells #[.slice A1_0 l1_0.length c1_0, .int .i64 a1_1, .int .i64 a1_2, .slice A1_3 l1_3.length c1_3] 55 (0,0)) (kq BK658.out) hb);replace HB:=am (jg (Y68) hb);clear hb hbox hg;have hnb24:=NB657_658.out;have hnc24:=NB658_657.out;have hnb25:=NB657_659.out;have hnc25:=NB659_657.out;have hcz26_0:=bc0 BK657.out;have hfz26_0:=ja BK657.out 0) |((with_reducible refine jo (f:=48) rfl ?_);refine gL (some 9) Try.func48 #[.agg #[.slice A0_0 l0_0.length c0_0]] ?_;(with_reducible refine (jA.calls k _ _ l0_0 true _ ?side1 ?side2 A3.out).mono ?_);(case side1=>exact cq (Kd.jZ HR0_0.out HB.out));(case side2=>exact HC0_0.out);rintro e w27 ⟨rfl,hb⟩;refine ⟨_,rfl,?_⟩;replace BK657:=am (jc (g:=gb657) (o:=.cells #[.slice A0_0 l0_0.length c0_0] 31 (0,0)) (kq BK657.out) hb);replace BK658:=am (jc (g:=gb658) (o:=.cells #[.slice A1_0 l1_0.length c1_0, .int .i64 a1_1, .int .i64 a1_2, .slice A1_3 l1_3.length c1_3] 55 (0,0)) (kq BK658.out) hb);replace BK659:=am (jc (g:=gb659) (o:=.cells #[.bool false, .int .i64 0, .int .i64 0] 50 (0,0)) (kq BK659.out) hb);replace HB:=am (jg (Y16) hb);(try clear hb);(try clear hb2);(try clear hk);(try clear hi);have hnb28:=NB658_659.out;have hnc28:=NB659_658.out;have hcz29_0:=bc0 BK658.out;have hcz29_1:=bc1 BK658.out;have hcz29_2:=bc2 BK658.out;have hcz29_3:=bc3 BK658.out;have hfz29_0:=ja BK658.out 0;have hfz29_1:=ja BK658.out 1;have hfz29_2:=ja BK658.out 2;have hfz29_3:=ja BK658.out 3;have hcz30_0:=bc0 BK657.out;have hfz30_0:=ja BK657.out 0) |((with_reducible refine jG (N:=27) rfl ?_);(try (refine jJa (by rfl) ?_;dsimp only));refine Kd.R_lit (Kd.int .i64) _ 3 ?hg (N:=27) ?hd (xs:=([a1_2]:List Int)) (inner:=[.int .i64 a1_2]) (ok:=fun _=>True) (okp:=fun _=>True) ?hr ?hp (fun _ hk=>hk) trivial (Below.refl _ _) (Nat.le_refl _) (by simp) ?_;(case hd=>rfl);(case hg=>rfl);(case hr=>exact Y3);(case hp=>exact (Reps.one (show Kd.M (Kd.int .i64) _ _ _ a1_2 [.int .i64 a1_2] from rfl) (Reps.none _ _)));intro v662 w31 ho32 hb hg_ hnew_;clear hg_ hnew_;(first | rw [← Ny661.out] at ho32 |(simp only [Int.reduceToNat] at ho32;rw [← Ny661.out] at ho32));have HO663:=am (Kd.jpa ho32 (jba (Y16)));replace BK657:=am (jc (g:=gb657) (o:=.cells #[.slice A0_0 l0_0.length c0_0] 31 (0,0)) (kq BK657.out) hb);replace BK658:=am (jc (g:=gb658) (o:=.cells #[.slice A1_0 l1_0.length c1_0, .int .i64 a1_1, .int .i64 a1_2, .slice A1_3 l1_3.length c1_3] 55 (0,0)) (kq BK658.out) hb);replace BK659:=am (jc (g:=gb659) (o:=.cells #[.bool false, .int .i64 0, .int .i64 0] 50 (0,0)) (kq BK659.out) hb);replace HB:=am (jg (Y16) hb);clear hb ho32;obtain ⟨Ao33,co33,eo33⟩:=Kd.jga HO663.out;subst eo33) |(go_at_call 58;(with_reducible refine (jab.calls k _ _ l0_0 _ _ l1_3 _ _ y661 true _ ?side1 ?side2 ?side3 ?side4 ?side5 ?side6 A17.out).mono ?_);(case side1=>exact cq (Kd.jZ HR0_0.out HB.out));(case side2=>exact HC0_0.out);(case side3=>exact cq (Kd.jZ HR1_3.out HB.out));(case side4=>exact HC1_3.out);(case side5=>exact cq (Kd.jC HO663.out).2.2);(case side6=>exact (Kd.jC HO663.out).2.1);rintro e w34 ⟨rfl,hb⟩;replace HO663:=am (Kd.jaa (rq HO663.out) hb);replace BK657:=am (jc (g:=gb657) (o:=.cells #[.slice A0_0 l0_0.length c0_0] 31 (0,0)) (kq BK657.out) hb);replace BK658:=am (jc (g:=gb658) (o:=.cells #[.slice A1_0 l1_0.length c1_0, .int .i64 a1_1, .int .i64 a1_2, .slice A1_3 l1_3.length c1_3] 55 (0,0)) (kq BK658.out) hb);replace BK659:=am (jc (g:=gb659) (o:=.cells #[.bool false, .int .i64 0, .int .i64 0] 50 (0,0)) (kq BK659.out) hb);replace HB:=am (jg (Y16) hb);(try clear hb);(try clear hb2);(try clear hk);(try clear hi);have hcz35_0:=bc0 BK658.out;have hcz35_1:=bc1 BK658.out;have hcz35_2:=bc2 BK658.out;have hcz35_3:=bc3 BK658.out;have hfz35_0:=ja BK658.out 0;have hfz35_1:=ja BK658.out 1;have hfz35_2:=ja BK658.out 2;have hfz35_3:=ja BK658.out 3;have p665:0≤(a1_2:Int):=ozD (uq);have q665:a1_2<(l1_3.length:Int):=ozD (uq);obtain ⟨ad665,e665,hx665_0,hx665_1,hx665_2,hx665_3,hx665_4⟩:=at_T90 HR1_3.out a1_2 p665 q665;cases e665;replace hx665_0:=cb HB.out hx665_0;replace hx665_1:=cb HB.out hx665_1;replace hx665_2:=cb HB.out hx665_2;replace hx665_3:=cb HB.out hx665_3;replace hx665_4:=cb HB.out hx665_4;replace p665:=ezT p665;replace q665:=ezT q665) |((with_reducible refine jG (N:=6) rfl ?_);(try (refine jJa (by rfl) ?_;dsimp only));refine jUa ?hg (N:=6) ?hd (cs:=#[.int .i64 0, .int .i64 0, .int .i64 0, .int .i64 0, .bool false]) (t:=90) ?hr ?_;(case hd=>rfl);(case hg=>rfl);(case hr=>exact Y3);intro gb666 hg w36 hbox hb;have BK666:=am (hbox);have GW666:=am ((Y122:w.heap.size≤gb666));have GE666:=am ((Y122:w.heap.size≤gb666));have NB657_666:=am ((Y32:gb657≠gb666));have NB666_657:=am ((Y33:gb666≠gb657));have NB658_666:=am ((by rw [hg];exact Nat.ne_of_lt (jva (g:=gb658) (o:=.cells #[.slice A1_0 l1_0.length c1_0, .int .i64 a1_1, .int .i64 a1_2, .slice (some ad665) l1_3.length c1_3] 55 (0,0)) (kq BK658.out)):gb658≠gb666));have NB666_658:=am ((by rw [hg];exact Nat.ne_of_gt (jva (g:=gb658) (o:=.cells #[.slice A1_0 l1_0.length c1_0, .int .i64 a1_1, .int .i64 a1_2, .slice (some ad665) l1_3.length c1_3] 55 (0,0)) (kq BK658.out)):gb666≠gb658));have NB659_666:=am ((by rw [hg];exact Nat.ne_of_lt (jva (g:=gb659) (o:=.cells #[.bool false, .int .i64 0, .int .i64 0] 50 (0,0)) (kq BK659.out)):gb659≠gb666));have NB666_659:=am ((by rw [hg];exact Nat.ne_of_gt (jva (g:=gb659) (o:=.cells #[.bool false, .int .i64 0, .int .i64 0] 50 (0,0)) (kq BK659.out)):gb666≠gb659));replace HO663:=am (Kd.jaa (rq HO663.out) hb);replace BK657:=am (jc (g:=gb657) (o:=.cells #[.slice A0_0 l0_0.length c0_0] 31 (0,0)) (kq BK657.out) hb);replace BK658:=am (jc (g:=gb658) (o:=.cells #[.slice A1_0 l1_0.length c1_0, .int .i64 a1_1, .int .i64 a1_2, .slice (some ad665) l1_3.length c1_3] 55 (0,0)) (kq BK658.out) hb);replace BK659:=am (jc (g:=gb659) (o:=.cells #[.bool false, .int .i64 0, .int .i64 0] 50 (0,0)) (kq BK659.out) hb);replace HB:=am (jg (Y16) hb);clear hb hbox hg;have hnb37:=NB666_657.out;have hnc37:=NB657_666.out;have hnb38:=NB666_658.out;have hnc38:=NB658_666.out;have hnb39:=NB666_659.out;have hnc39:=NB659_666.out;have hcz40_0:=bc0 BK666.out;have hcz40_1:=bc1 BK666.out;have hcz40_2:=bc2 BK666.out;have hcz40_3:=bc3 BK666.out;have hcz40_4:w36.cell? ⟨gb666,4,none⟩=some (.bool false):=(jw BK666.out 4).trans rfl;have hfz40_0:=ja BK666.out 0;have hfz40_1:=ja BK666.out 1;have hfz40_2:=ja BK666.out 2;have hfz40_3:=ja BK666.out 3;have hfz40_4:=ja BK666.out 4;have hcz41_0:=bc0 BK659.out;have hcz41_1:=bc1 BK659.out;have hcz41_2:=bc2 BK659.out;have hfz41_0:=ja BK659.out 0;have hfz41_1:=ja BK659.out 1;have hfz41_2:=ja BK659.out 2))
       refine bodyPost_ret (jmb rfl _ _ gb659 50 #[.bool true, .int .i64 ((jl l1_3 a1_2).f0), .int .i64 ((jl l1_3 a1_2).f1)] (0,0) _ rfl (by (with_reducible repeat (first | refine jd ?_ _ | refine jf ?_ | refine jb ?_ _));refine jS (cs:=#[.bool true, .int .i64 ((jl l1_3 a1_2).f0), .int .i64 0]) ?_ 2 _ rfl;(with_reducible repeat (first | refine jd ?_ _ | refine jf ?_ | refine jb ?_ _));refine jS (cs:=#[.bool true, .int .i64 0, .int .i64 0]) ?_ 1 _ rfl;(with_reducible repeat (first | refine jd ?_ _ | refine jf ?_ | refine jb ?_ _));refine jS (cs:=#[.bool false, .int .i64 0, .int .i64 0]) ?_ 0 _ rfl;(with_reducible repeat (first | refine jd ?_ _ | refine jf ?_ | refine jb ?_ _));refine jT ?_ NB659_666.out _;(with_reducible repeat (first | refine jd ?_ _ | refine jf ?_ | refine jb ?_ _));refine jT ?_ NB659_666.out _;(with_reducible repeat (first | refine jd ?_ _ | refine jf ?_ | refine jb ?_ _));refine jT ?_ NB659_666.out _;(with_reducible repeat (first | refine jd ?_ _ | refine jf ?_ | refine jb ?_ _));refine jT ?_ NB659_666.out _;(with_reducible repeat (first | refine jd ?_ _ | refine jf ?_ | refine jb ?_ _));refine jT ?_ NB659_666.out _;(with_reducible repeat (first | refine jd ?_ _ | refine jf ?_ | refine jb ?_ _));exact BK659.out) Try.underlying50 rfl (by kernel_rfl)) rfl ?_
       exact ⟨Y0,by repeat (first |(with_reducible first | exact HB.out | apply jF | apply jq | apply jD | refine jy ?_ GE657.out | refine jy ?_ GE658.out | refine jy ?_ GE659.out | refine jy ?_ GE666.out) | exact HB.out)⟩
      ·rw [if_neg c20] at H
       exact absurd H (by simp)
     ·rw [if_neg c19] at H
      exact absurd H (by simp)
    ·replace c18:=Bool.eq_false_iff.mpr c18
     subst c18
     have H1:(some (false,0,0,false))=some (r1,r2,r3,r4):=by rw [if_neg (show ¬ (false=true) by decide)] at H;exact H
     clear H
     have H:=H1
     clear H1
     simp only [Option.some.injEq,Prod.mk.injEq] at H
     obtain ⟨rfl,rfl,rfl,rfl⟩:=H
     go_enter Try.func24,Try.ntmps24
     go_wp2_with (first |((with_reducible refine jG (N:=2) rfl ?_);(try (refine jJa (by rfl) ?_;dsimp only));refine jUa ?hg (N:=2) ?hd (cs:=#[.slice A0_0 l0_0.length c0_0]) (t:=31) ?hr ?_;(case hd=>rfl);(case hg=>rfl);(case hr=>exact Y3);intro gb657 hg w42 hbox hb;have BK657:=am (hbox);have GW657:=am ((Y2:w.heap.size≤gb657));have GE657:=am ((Y2:w.heap.size≤gb657));replace HB:=am (jg (bq) hb);clear hb hbox hg) |((with_reducible refine jG (N:=3) rfl ?_);(try (refine jJa (by rfl) ?_;dsimp only));refine jUa ?hg (N:=3) ?hd (cs:=#[.slice A1_0 l1_0.length c1_0, .int .i64 a1_1, .int .i64 a1_2, .slice A1_3 l1_3.length c1_3]) (t:=55) ?hr ?_;(case hd=>rfl);(case hg=>rfl);(case hr=>exact Y3);intro gb658 hg w43 hbox hb;have BK658:=am (hbox);have GW658:=am ((Y38:w.heap.size≤gb658));have GE658:=am ((Y38:w.heap.size≤gb658));have NB657_658:=am ((Y32:gb657≠gb658));have NB658_657:=am ((Y33:gb658≠gb657));replace BK657:=am (jc (g:=gb657) (o:=.cells #[.slice A0_0 l0_0.length c0_0] 31 (0,0)) (kq BK657.out) hb);replace HB:=am (jg (Y65) hb);clear hb hbox hg) |((with_reducible refine jG (N:=4) rfl ?_);(try (refine jJa (by rfl) ?_;dsimp only));refine jUa ?hg (N:=4) ?hd (cs:=#[.bool false, .int .i64 0, .int .i64 0]) (t:=50) ?hr ?_;(case hd=>rfl);(case hg=>rfl);(case hr=>exact Y3);intro gb659 hg w44 hbox hb;have BK659:=am (hbox);have GW659:=am ((Y39:w.heap.size≤gb659));have GE659:=am ((Y39:w.heap.size≤gb659));have NB657_659:=am ((Y32:gb657≠gb659));have NB659_657:=am ((Y33:gb659≠gb657));have NB658_659:=am ((Y66:gb658≠gb659));have NB659_658:=am ((Y67:gb659≠gb658));replace BK657:=am (jc (g:=gb657) (o:=.cells #[.slice A0_0 l0_0.length c0_0] 31 (0,0)) (kq BK657.out) hb);replace BK658:=am (jc (g:=gb658) (o:=.cells #[.slice A1_0 l1_0.length c1_0, .int .i64 a1_1, .int .i64 a1_2, .slice A1_3 l1_3.length c1_3] 55 (0,0)) (kq BK658.out) hb);replace HB:=am (jg (Y68) hb);clear hb hbox hg;have hnb45:=NB657_658.out;have hnc45:=NB658_657.out;have hnb46:=NB657_659.out;have hnc46:=NB659_657.out;have hcz47_0:=bc0 BK657.out;have hfz47_0:=ja BK657.out 0) |((with_reducible refine jo (f:=48) rfl ?_);refine gL (some 9) Try.func48 #[.agg #[.slice A0_0 l0_0.length c0_0]] ?_;(with_reducible refine (jA.calls k _ _ l0_0 true _ ?side1 ?side2 A3.out).mono ?_);(case side1=>exact cq (Kd.jZ HR0_0.out HB.out));(case side2=>exact HC0_0.out);rintro e w48 ⟨rfl,hb⟩;refine ⟨_,rfl,?_⟩;replace BK657:=am (jc (g:=gb657) (o:=.cells #[.slice A0_0 l0_0.length c0_0] 31 (0,0)) (kq BK657.out) hb);replace BK658:=am (jc (g:=gb658) (o:=.cells #[.slice A1_0 l1_0.length c1_0, .int .i64 a1_1, .int .i64 a1_2, .slice A1_3 l1_3.length c1_3] 55 (0,0)) (kq BK658.out) hb);replace BK659:=am (jc (g:=gb659) (o:=.cells #[.bool false, .int .i64 0, .int .i64 0] 50 (0,0)) (kq BK659.out) hb);replace HB:=am (jg (Y16) hb);(try clear hb);(try clear hb2);(try clear hk);(try clear hi);have hnb49:=NB658_659.out;have hnc49:=NB659_658.out;have hcz50_0:=bc0 BK658.out;have hcz50_1:=bc1 BK658.out;have hcz50_2:=bc2 BK658.out;have hcz50_3:=bc3 BK658.out;have hfz50_0:=ja BK658.out 0;have hfz50_1:=ja BK658.out 1;have hfz50_2:=ja BK658.out 2;have hfz50_3:=ja BK658.out 3;have hcz51_0:=bc0 BK657.out;have hfz51_0:=ja BK657.out 0) |((with_reducible refine jG (N:=27) rfl ?_);(try (refine jJa (by rfl) ?_;dsimp only));refine Kd.R_lit (Kd.int .i64) _ 3 ?hg (N:=27) ?hd (xs:=([a1_2]:List Int)) (inner:=[.int .i64 a1_2]) (ok:=fun _=>True) (okp:=fun _=>True) ?hr ?hp (fun _ hk=>hk) trivial (Below.refl _ _) (Nat.le_refl _) (by simp) ?_;(case hd=>rfl);(case hg=>rfl);(case hr=>exact Y3);(case hp=>exact (Reps.one (show Kd.M (Kd.int .i64) _ _ _ a1_2 [.int .i64 a1_2] from rfl) (Reps.none _ _)));intro v662 w52 ho53 hb hg_ hnew_;clear hg_ hnew_;(first | rw [← Ny661.out] at ho53 |(simp only [Int.reduceToNat] at ho53;rw [← Ny661.out] at ho53));have HO663:=am (Kd.jpa ho53 (jba (Y16)));replace BK657:=am (jc (g:=gb657) (o:=.cells #[.slice A0_0 l0_0.length c0_0] 31 (0,0)) (kq BK657.out) hb);replace BK658:=am (jc (g:=gb658) (o:=.cells #[.slice A1_0 l1_0.length c1_0, .int .i64 a1_1, .int .i64 a1_2, .slice A1_3 l1_3.length c1_3] 55 (0,0)) (kq BK658.out) hb);replace BK659:=am (jc (g:=gb659) (o:=.cells #[.bool false, .int .i64 0, .int .i64 0] 50 (0,0)) (kq BK659.out) hb);replace HB:=am (jg (Y16) hb);clear hb ho53;obtain ⟨Ao54,co54,eo54⟩:=Kd.jga HO663.out;subst eo54) |(go_at_call 58;(with_reducible refine (jab.calls k _ _ l0_0 _ _ l1_3 _ _ y661 false _ ?side1 ?side2 ?side3 ?side4 ?side5 ?side6 A17.out).mono ?_);(case side1=>exact cq (Kd.jZ HR0_0.out HB.out));(case side2=>exact HC0_0.out);(case side3=>exact cq (Kd.jZ HR1_3.out HB.out));(case side4=>exact HC1_3.out);(case side5=>exact cq (Kd.jC HO663.out).2.2);(case side6=>exact (Kd.jC HO663.out).2.1);rintro e w55 ⟨rfl,hb⟩;replace HO663:=am (Kd.jaa (rq HO663.out) hb);replace BK657:=am (jc (g:=gb657) (o:=.cells #[.slice A0_0 l0_0.length c0_0] 31 (0,0)) (kq BK657.out) hb);replace BK658:=am (jc (g:=gb658) (o:=.cells #[.slice A1_0 l1_0.length c1_0, .int .i64 a1_1, .int .i64 a1_2, .slice A1_3 l1_3.length c1_3] 55 (0,0)) (kq BK658.out) hb);replace BK659:=am (jc (g:=gb659) (o:=.cells #[.bool false, .int .i64 0, .int .i64 0] 50 (0,0)) (kq BK659.out) hb);replace HB:=am (jg (Y16) hb);(try clear hb);(try clear hb2);(try clear hk);(try clear hi);have hcz56_0:=bc0 BK659.out;have hcz56_1:=bc1 BK659.out;have hcz56_2:=bc2 BK659.out;have hfz56_0:=ja BK659.out 0;have hfz56_1:=ja BK659.out 1;have hfz56_2:=ja BK659.out 2))
     refine bodyPost_ret (jmb rfl _ _ gb659 50 #[.bool false, .int .i64 0, .int .i64 0] (0,0) _ rfl (Y79) Try.underlying50 rfl (by kernel_rfl)) rfl ?_
     exact ⟨Y0,Y16⟩
   ·rw [if_neg c16] at H
    have c16b0:(a1_1 == 2)=false:=beq_eq_false_iff_ne.mpr c16
    have c16b1:(a1_1 != 2)=true:=bne_iff_ne.mpr c16
    simp only [Option.some.injEq,Prod.mk.injEq] at H
    obtain ⟨rfl,rfl,rfl,rfl⟩:=H
    go_enter Try.func24,Try.ntmps24
    go_wp2_with (first |((with_reducible refine jG (N:=2) rfl ?_);(try (refine jJa (by rfl) ?_;dsimp only));refine jUa ?hg (N:=2) ?hd (cs:=#[.slice A0_0 l0_0.length c0_0]) (t:=31) ?hr ?_;(case hd=>rfl);(case hg=>rfl);(case hr=>exact Y3);intro gb657 hg w57 hbox hb;have BK657:=am (hbox);have GW657:=am ((Y2:w.heap.size≤gb657));have GE657:=am ((Y2:w.heap.size≤gb657));replace HB:=am (jg (bq) hb);clear hb hbox hg) |((with_reducible refine jG (N:=3) rfl ?_);(try (refine jJa (by rfl) ?_;dsimp only));refine jUa ?hg (N:=3) ?hd (cs:=#[.slice A1_0 l1_0.length c1_0, .int .i64 a1_1, .int .i64 a1_2, .slice A1_3 l1_3.length c1_3]) (t:=55) ?hr ?_;(case hd=>rfl);(case hg=>rfl);(case hr=>exact Y3);intro gb658 hg w58 hbox hb;have BK658:=am (hbox);have GW658:=am ((Y38:w.heap.size≤gb658));have GE658:=am ((Y38:w.heap.size≤gb658));have NB657_658:=am ((Y32:gb657≠gb658));have NB658_657:=am ((Y33:gb658≠gb657));replace BK657:=am (jc (g:=gb657) (o:=.cells #[.slice A0_0 l0_0.length c0_0] 31 (0,0)) (kq BK657.out) hb);replace HB:=am (jg (Y65) hb);clear hb hbox hg) |((with_reducible refine jG (N:=4) rfl ?_);(try (refine jJa (by rfl) ?_;dsimp only));refine jUa ?hg (N:=4) ?hd (cs:=#[.bool false, .int .i64 0, .int .i64 0]) (t:=50) ?hr ?_;(case hd=>rfl);(case hg=>rfl);(case hr=>exact Y3);intro gb659 hg w59 hbox hb;have BK659:=am (hbox);have GW659:=am ((Y39:w.heap.size≤gb659));have GE659:=am ((Y39:w.heap.size≤gb659));have NB657_659:=am ((Y32:gb657≠gb659));have NB659_657:=am ((Y33:gb659≠gb657));have NB658_659:=am ((Y66:gb658≠gb659));have NB659_658:=am ((Y67:gb659≠gb658));replace BK657:=am (jc (g:=gb657) (o:=.cells #[.slice A0_0 l0_0.length c0_0] 31 (0,0)) (kq BK657.out) hb);replace BK658:=am (jc (g:=gb658) (o:=.cells #[.slice A1_0 l1_0.length c1_0, .int .i64 a1_1, .int .i64 a1_2, .slice A1_3 l1_3.length c1_3] 55 (0,0)) (kq BK658.out) hb);replace HB:=am (jg (Y68) hb);clear hb hbox hg;have hnb60:=NB657_658.out;have hnc60:=NB658_657.out;have hnb61:=NB657_659.out;have hnc61:=NB659_657.out;have hcz62_0:=bc0 BK657.out;have hfz62_0:=ja BK657.out 0) |((with_reducible refine jo (f:=48) rfl ?_);refine gL (some 9) Try.func48 #[.agg #[.slice A0_0 l0_0.length c0_0]] ?_;(with_reducible refine (jA.calls k _ _ l0_0 true _ ?side1 ?side2 A3.out).mono ?_);(case side1=>exact cq (Kd.jZ HR0_0.out HB.out));(case side2=>exact HC0_0.out);rintro e w63 ⟨rfl,hb⟩;refine ⟨_,rfl,?_⟩;replace BK657:=am (jc (g:=gb657) (o:=.cells #[.slice A0_0 l0_0.length c0_0] 31 (0,0)) (kq BK657.out) hb);replace BK658:=am (jc (g:=gb658) (o:=.cells #[.slice A1_0 l1_0.length c1_0, .int .i64 a1_1, .int .i64 a1_2, .slice A1_3 l1_3.length c1_3] 55 (0,0)) (kq BK658.out) hb);replace BK659:=am (jc (g:=gb659) (o:=.cells #[.bool false, .int .i64 0, .int .i64 0] 50 (0,0)) (kq BK659.out) hb);replace HB:=am (jg (Y16) hb);(try clear hb);(try clear hb2);(try clear hk);(try clear hi);have hnb64:=NB658_659.out;have hnc64:=NB659_658.out;have hcz65_0:=bc0 BK658.out;have hcz65_1:=bc1 BK658.out;have hcz65_2:=bc2 BK658.out;have hcz65_3:=bc3 BK658.out;have hfz65_0:=ja BK658.out 0;have hfz65_1:=ja BK658.out 1;have hfz65_2:=ja BK658.out 2;have hfz65_3:=ja BK658.out 3;have hcz66_0:=bc0 BK659.out;have hcz66_1:=bc1 BK659.out;have hcz66_2:=bc2 BK659.out;have hfz66_0:=ja BK659.out 0;have hfz66_1:=ja BK659.out 1;have hfz66_2:=ja BK659.out 2))
    refine bodyPost_ret (jmb rfl _ _ gb659 50 #[.bool false, .int .i64 0, .int .i64 0] (0,0) _ rfl (Y79) Try.underlying50 rfl (by kernel_rfl)) rfl ?_
    exact ⟨Y0,Y16⟩
 ·replace c4:=Bool.eq_false_iff.mpr c4
  subst c4
  have H1:(some (false,0,0,false))=some (r1,r2,r3,r4):=by rw [if_neg (show ¬ (false=true) by decide)] at H;exact H
  clear H
  have H:=H1
  clear H1
  simp only [Option.some.injEq,Prod.mk.injEq] at H
  obtain ⟨rfl,rfl,rfl,rfl⟩:=H
  go_enter Try.func24,Try.ntmps24
  go_wp2_with (first |((with_reducible refine jG (N:=2) rfl ?_);(try (refine jJa (by rfl) ?_;dsimp only));refine jUa ?hg (N:=2) ?hd (cs:=#[.slice A0_0 l0_0.length c0_0]) (t:=31) ?hr ?_;(case hd=>rfl);(case hg=>rfl);(case hr=>exact Y3);intro gb657 hg w67 hbox hb;have BK657:=am (hbox);have GW657:=am ((Y2:w.heap.size≤gb657));have GE657:=am ((Y2:w.heap.size≤gb657));replace HB:=am (jg (bq) hb);clear hb hbox hg) |((with_reducible refine jG (N:=3) rfl ?_);(try (refine jJa (by rfl) ?_;dsimp only));refine jUa ?hg (N:=3) ?hd (cs:=#[.slice A1_0 l1_0.length c1_0, .int .i64 a1_1, .int .i64 a1_2, .slice A1_3 l1_3.length c1_3]) (t:=55) ?hr ?_;(case hd=>rfl);(case hg=>rfl);(case hr=>exact Y3);intro gb658 hg w68 hbox hb;have BK658:=am (hbox);have GW658:=am ((Y38:w.heap.size≤gb658));have GE658:=am ((Y38:w.heap.size≤gb658));have NB657_658:=am ((Y32:gb657≠gb658));have NB658_657:=am ((Y33:gb658≠gb657));replace BK657:=am (jc (g:=gb657) (o:=.cells #[.slice A0_0 l0_0.length c0_0] 31 (0,0)) (kq BK657.out) hb);replace HB:=am (jg (Y65) hb);clear hb hbox hg) |((with_reducible refine jG (N:=4) rfl ?_);(try (refine jJa (by rfl) ?_;dsimp only));refine jUa ?hg (N:=4) ?hd (cs:=#[.bool false, .int .i64 0, .int .i64 0]) (t:=50) ?hr ?_;(case hd=>rfl);(case hg=>rfl);(case hr=>exact Y3);intro gb659 hg w69 hbox hb;have BK659:=am (hbox);have GW659:=am ((Y39:w.heap.size≤gb659));have GE659:=am ((Y39:w.heap.size≤gb659));have NB657_659:=am ((Y32:gb657≠gb659));have NB659_657:=am ((Y33:gb659≠gb657));have NB658_659:=am ((Y66:gb658≠gb659));have NB659_658:=am ((Y67:gb659≠gb658));replace BK657:=am (jc (g:=gb657) (o:=.cells #[.slice A0_0 l0_0.length c0_0] 31 (0,0)) (kq BK657.out) hb);replace BK658:=am (jc (g:=gb658) (o:=.cells #[.slice A1_0 l1_0.length c1_0, .int .i64 a1_1, .int .i64 a1_2, .slice A1_3 l1_3.length c1_3] 55 (0,0)) (kq BK658.out) hb);replace HB:=am (jg (Y68) hb);clear hb hbox hg;have hnb70:=NB657_658.out;have hnc70:=NB658_657.out;have hnb71:=NB657_659.out;have hnc71:=NB659_657.out;have hcz72_0:=bc0 BK657.out;have hfz72_0:=ja BK657.out 0) |((with_reducible refine jo (f:=48) rfl ?_);refine gL (some 9) Try.func48 #[.agg #[.slice A0_0 l0_0.length c0_0]] ?_;(with_reducible refine (jA.calls k _ _ l0_0 false _ ?side1 ?side2 A3.out).mono ?_);(case side1=>exact cq (Kd.jZ HR0_0.out HB.out));(case side2=>exact HC0_0.out);rintro e w73 ⟨rfl,hb⟩;refine ⟨_,rfl,?_⟩;replace BK657:=am (jc (g:=gb657) (o:=.cells #[.slice A0_0 l0_0.length c0_0] 31 (0,0)) (kq BK657.out) hb);replace BK658:=am (jc (g:=gb658) (o:=.cells #[.slice A1_0 l1_0.length c1_0, .int .i64 a1_1, .int .i64 a1_2, .slice A1_3 l1_3.length c1_3] 55 (0,0)) (kq BK658.out) hb);replace BK659:=am (jc (g:=gb659) (o:=.cells #[.bool false, .int .i64 0, .int .i64 0] 50 (0,0)) (kq BK659.out) hb);replace HB:=am (jg (Y16) hb);(try clear hb);(try clear hb2);(try clear hk);(try clear hi);have hnb74:=NB659_658.out;have hnc74:=NB658_659.out;have hcz75_0:=bc0 BK659.out;have hcz75_1:=bc1 BK659.out;have hcz75_2:=bc2 BK659.out;have hfz75_0:=ja BK659.out 0;have hfz75_1:=ja BK659.out 1;have hfz75_2:=ja BK659.out 2))
  refine bodyPost_ret (jmb rfl _ _ gb659 50 #[.bool false, .int .i64 0, .int .i64 0] (0,0) _ rfl (Y79) Try.underlying50 rfl (by kernel_rfl)) rfl ?_
  exact ⟨Y0,Y16⟩
theorem impl_classesIn1_calls (l : List S106) (A_ : Option Addr) (c_ : Nat) (x : Int) (b : Bool) (B : Nat) (w : World) (hr : Kd.C k106 w A_ l.length l) (hcc : l.length ≤ c_) (hB : B < w.heap.size) (hc : w.cell? ⟨B, 0, none⟩ = some (.slice A_ l.length c_)) (h : (jha.f l x).map (!·) = some b) :
  Calls Try.prog 91 #[.int .i64 x, .pointer (some ⟨B,0,none⟩)] w fun e w'=>e=.returned (.bool b)∧Below w.heap.size w w':=by
 obtain ⟨b0,h0,rfl⟩:=Option.map_eq_some_iff.mp h
 have HF:=am (jha.calls A_ c_ l x b0 w hr hcc h0)
 clear h h0 hr
 have hu31:=Try.underlying31
 go_enter Try.func91,Try.ntmps91
 go_wp2_with (go_at_call 83;refine HF.out.mono ?_;rintro e w' ⟨rfl,hb2⟩)
 go_ret
 exact ⟨rfl,hb2⟩
set_option maxHeartbeats 8000000 in
set_option maxRecDepth 100000 in
theorem impl_classesIn_idx (A_ : Option Addr) (c_ : Nat) (l : List (Int)) (B0_ : Nat) (p : Int → Option Bool) (r : Int) (w : World) (hr : Kd.C (Kd.int .i64) w A_ l.length l) (h : idxFrom p l 0 = some r)
  (hp:∀ W,Below w.heap.size w W→∀ (x:Int) (b:Bool),p x=some b→Calls Try.prog 91 #[.int .i64 x, .pointer (some ⟨B0_,0,none⟩)] W fun e w'=>e=.returned (.bool b)∧Below W.heap.size W w') :
  Calls Try.prog 115 #[.slice A_ l.length c_, .func (.func 91) #[] #[.pointer (some ⟨B0_,0,none⟩)]] w fun e w'=>e=.returned (.int .i64 r)∧Below w.heap.size w w':=by
 have hm:l.length≤9223372036854775807:=Kd.C_max hr
 have HR:=am hr
 have HP:=am hp
 have H0:=am h
 clear hr hp h
 go_enter Try.func115,Try.ntmps115
 go_wp2
 go_loopw [5,8] (fun i5 i8 wr=>∃ k:Nat,k≤l.length∧i8=.int .i64 k∧jE (idxFrom p (l.drop k) k=some r)∧Below w.heap.size w wr) (fun _ i8 _=>l.length - (intOf i8).toNat)
 case atStart=>exact ⟨0,Nat.zero_le _,rfl,H0,Below.refl _ _⟩
 case round =>
  clear H0
  obtain ⟨k,hk,rfl,HA,hb⟩:=hrel
  by_cases hlt:k<l.length
  ·have HB:=am (jfc hlt HA.out)
   clear HA
   obtain ⟨ad,rfl,hx0⟩:=Kd.jsb HR.out (k:Int) (by omega) (by omega)
   have hrd:rd l (k:Int)=l[k]:=by simp [rd,List.getD_eq_getElem?_getD,hlt]
   replace hx0:=jP hb hx0
   rw [hrd] at hx0
   simp only [Int.toNat_natCast] at hx0
   clear hrd
   obtain ⟨b,hb1,hb0⟩:=HB.out
   have HQ:=am hb1
   clear hb1 HB
   cases b with
   | true =>
    have HZ:=am (by simpa using hb0:(k:Int)=r)
    clear hb0
    go_wp2_with (go_at_call 91;refine (HP.out _ hb _ _ HQ.out).mono ?_;rintro e w' ⟨rfl,hb2⟩)
    go_ret
    exact ⟨by rw [← HZ.out];rfl,jdb hb hb.size hb2⟩
   | false =>
    have HZ:=am (by simpa using hb0:idxFrom p (l.drop (k+1)) (k+1)=some r)
    clear hb0
    go_wp2_with (go_at_call 91;refine (HP.out _ hb _ _ HQ.out).mono ?_;rintro e w' ⟨rfl,hb2⟩)
    go_roundw
    case rel=>exact ⟨k+1,hlt,by go_num,HZ,jdb hb hb.size hb2⟩
    case measure=>simp [intOf];omega
  ·have HZ:=am (jtc (by omega) HA.out)
   clear HA
   go_wp2
   go_ret
   exact ⟨by rw [HZ.out];rfl,hb⟩
set_option maxHeartbeats 8000000 in
set_option maxRecDepth 100000 in
theorem impl_classesIn_any (A_ : Option Addr) (c_ : Nat) (l : List Int) (B0_ : Nat) (p : Int → Option Bool) (r : Int) (w : World) (hr : Kd.C (Kd.int .i64) w A_ l.length l) (h : idxFrom p l 0 = some r)
  (hp:∀ W,Below w.heap.size w W→∀ (x:Int) (b:Bool),p x=some b→Calls Try.prog 91 #[.int .i64 x, .pointer (some ⟨B0_,0,none⟩)] W fun e w'=>e=.returned (.bool b)∧Below W.heap.size W w') :
  Calls Try.prog 88 #[.slice A_ l.length c_, .func (.func 91) #[] #[.pointer (some ⟨B0_,0,none⟩)]] w fun e w'=>e=.returned (.bool (decide (0≤r)))∧Below w.heap.size w w':=by
 have HF:=am (impl_classesIn_idx A_ c_ l B0_ p r w hr h hp)
 clear hr h hp
 go_enter Try.func88,Try.ntmps88
 go_wp2_with (go_at_call 115;refine HF.out.mono ?_;rintro e w' ⟨rfl,hb2⟩)
 go_ret
 exact ⟨rfl,hb2⟩
def jeb.f (k : Nat) (l0_0 : List S106) (l1 : List Int) : Option Bool := (jA.f k l0_0).bind fun v => if v then (idxFrom (fun x => (jha.f l0_0 x).map (!·)) l1 0).bind fun r => some (!decide (0 ≤ r)) else some false
set_option maxHeartbeats 8000000 in
set_option maxRecDepth 100000 in
theorem jeb.calls (k : Nat) (A0_0 : Option Addr) (c0_0 : Nat) (l0_0 : List (S106)) (A1 : Option Addr) (c1 : Nat) (l1 : List Int) (r : Bool) (w : World) (hr0_0 : Kd.C k106 w A0_0 l0_0.length l0_0) (hc0_0 : l0_0.length ≤ c0_0) (hr1 : Kd.C (Kd.int .i64) w A1 l1.length l1) (hc1 : l1.length ≤ c1) (h : jeb.f k l0_0 l1 = some r) :
  Calls Try.prog 59 #[.agg #[.slice A0_0 l0_0.length c0_0], .slice A1 l1.length c1] w fun e w'=>e=.returned (.bool r)∧Below w.heap.size w w':=by
 obtain ⟨v,hv,h⟩:=bzS h
 have hu31:=Try.underlying31
 have HV:=am (fun W (hb:Below w.heap.size w W)=>jA.calls k A0_0 c0_0 l0_0 v W (Kd.jZ hr0_0 hb) hc0_0 hv)
 cases v with
 | false =>
  obtain rfl:false=r:=by simpa using h
  clear hv h hr0_0 hr1
  go_enter Try.func59,Try.ntmps59
  go_wp2_with (go_at_call 48;refine (HV.out _ ((Below.refl _ _).alloc (Nat.le_refl _) _)).mono ?_;rintro e w' ⟨rfl,hb2⟩)
  go_ret
  exact ⟨rfl,((Below.refl _ _).alloc (Nat.le_refl _) _).trans (hb2.mono (by simp))⟩
 | true =>
  simp only [if_true] at h
  obtain ⟨q,hq,h⟩:=bzS h
  have HZ:=am (Option.some.inj h)
  have HF:=am (fun W (hb:Below w.heap.size w W) (B:Nat) (hB:B<W.heap.size) (hc:W.cell? ⟨B,0,none⟩=some (.slice A0_0 l0_0.length c0_0))=>impl_classesIn_any A1 c1 l1 B (fun x=>(jha.f l0_0 x).map (!·)) q W (Kd.jZ hr1 hb) hq (fun W' hb' x b hx=>
   impl_classesIn1_calls l0_0 A0_0 c0_0 x b B W' (Kd.jZ (Kd.jZ hr0_0 hb) hb') hc0_0 (Nat.lt_of_lt_of_le hB hb'.size) (jP hb' hc) hx))
  clear hv h hq hr0_0 hr1
  go_enter Try.func59,Try.ntmps59
  go_wp2_with (first |(go_at_call 48;refine (HV.out _ ((Below.refl _ _).alloc (Nat.le_refl _) _)).mono ?_;rintro e w1 ⟨rfl,hb2⟩;have hb1:=((Below.refl w.heap.size w).alloc (Nat.le_refl _) (.cells #[.slice A0_0 l0_0.length c0_0] 31)).trans (hb2.mono (by simp));have hcell:=jP hb2 (show (w.alloc (.cells #[.slice A0_0 l0_0.length c0_0] 31)).cell? ⟨w.heap.size,0,none⟩=some (.slice A0_0 l0_0.length c0_0) by simp);have hlt:w.heap.size<w1.heap.size:=Nat.lt_of_lt_of_le (by simp) hb2.size) |(go_at_call 88;refine (HF.out _ hb1 _ hlt hcell).mono ?_;rintro e w2 ⟨rfl,hb3⟩))
  go_ret
  exact ⟨by rw [← HZ.out];rfl,jdb hb1 hb1.size hb3⟩
def jDb.f (k : Nat) (l0_0 : List (S106)) (a1 : Int) : Option (List Int) := (jeb.f k l0_0 (([a1] : List Int))).bind fun t671 => (if t671 = true then ((jI.f k l0_0 a1).bind fun t672 => (some t672)) else (some ([] : List Int)))
set_option maxHeartbeats 8000000 in
set_option maxRecDepth 100000 in
theorem jDb.calls (k : Nat) (A0_0 : Option Addr) (c0_0 : Nat) (l0_0 : List (S106)) (a1 : Int) (r : List Int) (w : World) (hr0_0 : Kd.C k106 w A0_0 l0_0.length l0_0) (hc0_0 : l0_0.length ≤ c0_0) (h : jDb.f k l0_0 a1 = some r) :
  Calls Try.prog 25 #[.agg #[.slice A0_0 l0_0.length c0_0], .int .i64 a1] w fun e w'=>∃ v0_:Value,e=.returned (v0_)∧Kd.R (Kd.int .i64) 3 w' w.heap.size (fun _=>True) v0_ r∧Below w.heap.size w w':=by
 have hu31:=Try.underlying31
 have HR0_0:=am hr0_0
 have HC0_0:=am hc0_0
 clear hr0_0 hc0_0
 have HB:=am (Below.refl w.heap.size w)
 have H:((jeb.f k l0_0 (([a1]:List Int))).bind fun t671=>(if t671=true then ((jI.f k l0_0 a1).bind fun t672=>(some t672)) else (some ([]:List Int))))=some r:=h
 clear h
 obtain ⟨y668,hy668⟩:∃ y_:List Int,y_=(([a1]:List Int)):=⟨_,rfl⟩
 replace H:((jeb.f k l0_0 y668).bind fun t671=>(if t671=true then ((jI.f k l0_0 a1).bind fun t672=>(some t672)) else (some ([]:List Int))))=some r:=by first |(rw [hy668];with_reducible exact H) |(have H2_:=(Option.bind_some _ _).symm.trans H;rw [hy668];with_reducible exact H2_) |(have H2_:=(Option.bind_some _ _).symm.trans H;with_reducible exact H2_) | with_reducible exact H |(rw [hy668];exact H) | exact H
 have Ny668:=am hy668
 clear hy668
 replace H:=bzS H
 obtain ⟨t671,A30,H⟩:=H
 replace H:(if t671=true then ((jI.f k l0_0 a1).bind fun t672=>(some t672)) else (some ([]:List Int)))=some r:=H
 have A3:=am A30
 clear A30
 by_cases c4:t671=true
 ·subst c4
  have H1:((jI.f k l0_0 a1).bind fun t672=>(some t672))=some r:=by rw [if_pos rfl] at H;exact H
  clear H
  have H:=H1
  clear H1
  replace H:=bzS H
  obtain ⟨t672,A50,H⟩:=H
  replace H:(some t672)=some r:=H
  have A5:=am A50
  clear A50
  obtain rfl:=Option.some.inj H
  go_enter Try.func25,Try.ntmps25
  go_wp2_with (first |((with_reducible refine jG (N:=2) rfl ?_);refine bE (N:=2) (cs:=#[.slice A0_0 l0_0.length c0_0]) (t:=31) ?_;intro gb667 hg w6 hbox hb;have BK667:=am (hbox);have GW667:=am ((Y2:w.heap.size≤gb667));have GE667:=am ((Y2:w.heap.size≤gb667));replace HB:=am (jg (bq) hb);clear hb hbox hg;have hcz7_0:=bc0 BK667.out;have hfz7_0:=ja BK667.out 0) |((with_reducible refine jG (N:=7) rfl ?_);refine Kd.R_lit (Kd.int .i64) _ 3 ?hg (N:=7) ?hd (xs:=([a1]:List Int)) (inner:=[.int .i64 a1]) (ok:=fun _=>True) (okp:=fun _=>True) ?hr ?hp (fun _ hk=>hk) trivial (Below.refl _ _) (Nat.le_refl _) (by simp) ?_;(case hd=>rfl);(case hg=>rfl);(case hr=>exact Y3);(case hp=>exact (Reps.one (show Kd.M (Kd.int .i64) _ _ _ a1 [.int .i64 a1] from rfl) (Reps.none _ _)));intro v669 w8 ho9 hb hg_ hnew_;clear hg_ hnew_;(first | rw [← Ny668.out] at ho9 |(simp only [Int.reduceToNat] at ho9;rw [← Ny668.out] at ho9));have HO670:=am (Kd.jpa ho9 (jba (Y40)));replace BK667:=am (jc (g:=gb667) (o:=.cells #[.slice A0_0 l0_0.length c0_0] 31 (0,0)) (kq BK667.out) hb);replace HB:=am (jg (Y40) hb);clear hb ho9;obtain ⟨Ao10,co10,eo10⟩:=Kd.jga HO670.out;subst eo10) |((with_reducible refine jo (f:=59) rfl ?_);refine gL (some 8) Try.func59 #[.agg #[.slice A0_0 l0_0.length c0_0], .slice Ao10 y668.length co10] ?_;(with_reducible refine (jeb.calls k _ _ l0_0 _ _ y668 true _ ?side1 ?side2 ?side3 ?side4 A3.out).mono ?_);(case side1=>exact cq (Kd.jZ HR0_0.out HB.out));(case side2=>exact HC0_0.out);(case side3=>exact cq (Kd.jC HO670.out).2.2);(case side4=>exact (Kd.jC HO670.out).2.1);rintro e w11 ⟨rfl,hb⟩;refine ⟨_,rfl,?_⟩;replace HO670:=am (Kd.jaa (rq HO670.out) hb);replace BK667:=am (jc (g:=gb667) (o:=.cells #[.slice A0_0 l0_0.length c0_0] 31 (0,0)) (kq BK667.out) hb);replace HB:=am (jg (Y40) hb);(try clear hb);(try clear hb2);(try clear hk);(try clear hi);have hcz12_0:=bc0 BK667.out;have hfz12_0:=ja BK667.out 0) |((with_reducible refine jo (f:=60) rfl ?_);refine gL (some 12) Try.func60 #[.agg #[.slice A0_0 l0_0.length c0_0], .int .i64 a1] ?_;(with_reducible refine (jI.calls k _ _ l0_0 a1 t672 _ ?side1 ?side2 A5.out).mono ?_);(case side1=>exact cq (Kd.jZ HR0_0.out HB.out));(case side2=>exact HC0_0.out);rintro e w13 ⟨v673,rfl,ho0,hb⟩;refine ⟨_,rfl,?_⟩;have HO674:=am (Kd.jpa (Kd.R_new' ho0 (Kd.R_lt (rq HO670.out))) (jba (Y40)));replace HO670:=am (Kd.jwc (rq HO670.out) (Kd.R_base ho0) hb);replace BK667:=am (jc (g:=gb667) (o:=.cells #[.slice A0_0 l0_0.length c0_0] 31 (0,0)) (kq BK667.out) hb);replace HB:=am (jg (Y40) hb);(try clear hb);(try clear hb2);(try clear hk);(try clear hi);(try clear ho0)))
  go_ret
  exact ⟨_,Y0,by (with_reducible repeat (first | apply Kd.jda | apply Kd.jfa | apply Kd.jma));exact Kd.jJ HO674.out (fun _ hk=>trivial),Y40⟩
 ·replace c4:=Bool.eq_false_iff.mpr c4
  subst c4
  have H1:(some ([]:List Int))=some r:=by rw [if_neg (show ¬ (false=true) by decide)] at H;exact H
  clear H
  have H:=H1
  clear H1
  obtain rfl:=Option.some.inj H
  go_enter Try.func25,Try.ntmps25
  go_wp2_with (first |((with_reducible refine jG (N:=2) rfl ?_);refine bE (N:=2) (cs:=#[.slice A0_0 l0_0.length c0_0]) (t:=31) ?_;intro gb667 hg w14 hbox hb;have BK667:=am (hbox);have GW667:=am ((Y2:w.heap.size≤gb667));have GE667:=am ((Y2:w.heap.size≤gb667));replace HB:=am (jg (bq) hb);clear hb hbox hg;have hcz15_0:=bc0 BK667.out;have hfz15_0:=ja BK667.out 0) |((with_reducible refine jG (N:=7) rfl ?_);refine Kd.R_lit (Kd.int .i64) _ 3 ?hg (N:=7) ?hd (xs:=([a1]:List Int)) (inner:=[.int .i64 a1]) (ok:=fun _=>True) (okp:=fun _=>True) ?hr ?hp (fun _ hk=>hk) trivial (Below.refl _ _) (Nat.le_refl _) (by simp) ?_;(case hd=>rfl);(case hg=>rfl);(case hr=>exact Y3);(case hp=>exact (Reps.one (show Kd.M (Kd.int .i64) _ _ _ a1 [.int .i64 a1] from rfl) (Reps.none _ _)));intro v669 w16 ho17 hb hg_ hnew_;clear hg_ hnew_;(first | rw [← Ny668.out] at ho17 |(simp only [Int.reduceToNat] at ho17;rw [← Ny668.out] at ho17));have HO670:=am (Kd.jpa ho17 (jba (Y40)));replace BK667:=am (jc (g:=gb667) (o:=.cells #[.slice A0_0 l0_0.length c0_0] 31 (0,0)) (kq BK667.out) hb);replace HB:=am (jg (Y40) hb);clear hb ho17;obtain ⟨Ao18,co18,eo18⟩:=Kd.jga HO670.out;subst eo18) |((with_reducible refine jo (f:=59) rfl ?_);refine gL (some 8) Try.func59 #[.agg #[.slice A0_0 l0_0.length c0_0], .slice Ao18 y668.length co18] ?_;(with_reducible refine (jeb.calls k _ _ l0_0 _ _ y668 false _ ?side1 ?side2 ?side3 ?side4 A3.out).mono ?_);(case side1=>exact cq (Kd.jZ HR0_0.out HB.out));(case side2=>exact HC0_0.out);(case side3=>exact cq (Kd.jC HO670.out).2.2);(case side4=>exact (Kd.jC HO670.out).2.1);rintro e w19 ⟨rfl,hb⟩;refine ⟨_,rfl,?_⟩;replace HO670:=am (Kd.jaa (rq HO670.out) hb);replace BK667:=am (jc (g:=gb667) (o:=.cells #[.slice A0_0 l0_0.length c0_0] 31 (0,0)) (kq BK667.out) hb);replace HB:=am (jg (Y40) hb);(try clear hb);(try clear hb2);(try clear hk);(try clear hi)))
  go_ret
  exact ⟨_,Y0,Y85,Y40⟩
def jkb.l0 : Nat → List Int → Int → Int → Option (Bool)
 | 0,_,_,_=>none
 | k+1,x0,x1,x5=>if x5<(x0.length:Int) then (if 0≤x5 then (if (rd x0 x5)=x1 then (some true) else (jkb.l0 k x0 x1 (wrap64 (x5+1)))) else (none)) else (some false)
def jkb.f (k : Nat) (l0 : List Int) (a1 : Int) : Option (Bool) := jkb.l0 k l0 a1 0
set_option maxHeartbeats 8000000 in
set_option maxRecDepth 100000 in
theorem jkb.calls (k : Nat) (A0 : Option Addr) (c0 : Nat) (l0 : List Int) (a1 : Int) (r : Bool) (w : World) (hr0 : Kd.C (Kd.int .i64) w A0 l0.length l0) (hc0 : l0.length ≤ c0) (h : jkb.f k l0 a1 = some r) :
  Calls Try.prog 26 #[.slice A0 l0.length c0, .int .i64 a1] w fun e w'=>e=.returned (.bool r)∧jhb w w':=by
 have HR0:=am hr0
 have HC0:=am hc0
 clear hr0 hc0
 have H:(jkb.l0 k l0 a1 0)=some r:=h
 clear h
 have H':=am H
 clear H
 go_enter Try.func26,Try.ntmps26
 go_wp2
 go_loopg [5] k (fun kq v5 w'=>∃ (x5_1:Int),v5=.int .i64 x5_1∧jE (jkb.l0 kq l0 a1 x5_1=some r)∧jE (kq≤k)∧jhb w w')
 case atStart=>exact ⟨(0),(sq),H',⟨Nat.le_refl _⟩,Y4⟩
 case round =>
  clear H'
  try clear c2
  try clear p2
  obtain ⟨x5_1,rfl,HA,HK1,⟨m1,rfl⟩⟩:=hrel
  cases gk with
  | zero=>exact absurd HA.out (by simp [jkb.l0])
  | succ k1 =>
   have H:=HA.out
   clear HA
   simp only [jkb.l0] at H
   by_cases c3:x5_1<(l0.length:Int)
   ·rw [if_pos c3] at H
    have c3b0:decide (x5_1<(l0.length:Int))=true:=dzT c3
    clear c3
    by_cases c4:0≤x5_1
    ·rw [if_pos c4] at H
     have c4b0:decide (0≤x5_1)=true:=dzT c4
     clear c4
     by_cases c5:(rd l0 x5_1)=a1
     ·rw [if_pos c5] at H
      have c5b0:((rd l0 x5_1) == a1)=true:=beq_iff_eq.mpr c5
      have c5b1:((rd l0 x5_1) != a1)=false:=bne_eq_false_iff_eq.mpr c5
      clear c5
      obtain rfl:=Option.some.inj H
      have p675:0≤(x5_1:Int):=ozD (uq)
      have q675:x5_1<(l0.length:Int):=ozD (uq)
      obtain ⟨ad675,e675,hx675_0⟩:=Kd.jsb HR0.out x5_1 p675 q675
      cases e675
      replace p675:=ezT p675
      replace q675:=ezT q675
      go_wp2
      go_ret
      exact ⟨sq,Y4⟩
     ·rw [if_neg c5] at H
      have c5b0:((rd l0 x5_1) == a1)=false:=beq_eq_false_iff_ne.mpr c5
      have c5b1:((rd l0 x5_1) != a1)=true:=bne_iff_ne.mpr c5
      have H':=am H
      clear H
      have p675:0≤(x5_1:Int):=ozD (uq)
      have q675:x5_1<(l0.length:Int):=ozD (uq)
      obtain ⟨ad675,e675,hx675_0⟩:=Kd.jsb HR0.out x5_1 p675 q675
      cases e675
      replace p675:=ezT p675
      replace q675:=ezT q675
      go_wp2
      go_roundg k1
      case measure=>have:=HK1.out;omega
      case rel=>exact ⟨(wrap64 (x5_1+1)),(sq),H',⟨by have:=HK1.out;omega⟩,Y4⟩
    ·rw [if_neg c4] at H
     exact absurd H (by simp)
   ·rw [if_neg c3] at H
    have c3b0:decide (x5_1<(l0.length:Int))=false:=dzF c3
    clear c3
    obtain rfl:=Option.some.inj H
    go_wp2
    go_ret
    exact ⟨sq,Y4⟩
def jLa.l0 : Nat → List Int → Int → Option (Bool)
 | 0,_,_=>none
 | k+1,x0,x3=>if x3<(x0.length:Int) then (if 0≤x3 then (if 0≤(wrap64 (x3 - 1)) then (if (wrap64 (x3 - 1))<(x0.length:Int) then (if (rd x0 x3)≤(rd x0 (wrap64 (x3 - 1))) then (some false) else (jLa.l0 k x0 (wrap64 (x3+1)))) else (none)) else (none)) else (none)) else (some true)
def jLa.f (k : Nat) (l0 : List Int) : Option (Bool) := jLa.l0 k l0 1
set_option maxHeartbeats 8000000 in
set_option maxRecDepth 100000 in
theorem jLa.calls (k : Nat) (A0 : Option Addr) (c0 : Nat) (l0 : List Int) (r : Bool) (w : World) (hr0 : Kd.C (Kd.int .i64) w A0 l0.length l0) (hc0 : l0.length ≤ c0) (h : jLa.f k l0 = some r) :
  Calls Try.prog 27 #[.slice A0 l0.length c0] w fun e w'=>e=.returned (.bool r)∧jhb w w':=by
 have HR0:=am hr0
 have HC0:=am hc0
 clear hr0 hc0
 have H:(jLa.l0 k l0 1)=some r:=h
 clear h
 have H':=am H
 clear H
 go_enter Try.func27,Try.ntmps27
 go_wp2
 repeat (go_quiet (fail);try go_wp2)
 go_loopg [3] k (fun kq v3 w'=>∃ (x3_1:Int),v3=.int .i64 x3_1∧jE (jLa.l0 kq l0 x3_1=some r)∧jE (kq≤k)∧jhb w w')
 case atStart=>exact ⟨(1),(sq),H',⟨Nat.le_refl _⟩,Y4⟩
 case round =>
  clear H'
  obtain ⟨x3_1,rfl,HA,HK1,⟨m1,rfl⟩⟩:=hrel
  cases gk with
  | zero=>exact absurd HA.out (by simp [jLa.l0])
  | succ k1 =>
   have H:=HA.out
   clear HA
   simp only [jLa.l0] at H
   by_cases c2:x3_1<(l0.length:Int)
   ·rw [if_pos c2] at H
    have c2b0:decide (x3_1<(l0.length:Int))=true:=dzT c2
    clear c2
    by_cases c3:0≤x3_1
    ·rw [if_pos c3] at H
     have c3b0:decide (0≤x3_1)=true:=dzT c3
     clear c3
     obtain ⟨ji4,hji4⟩:∃ j_:Int,(wrap64 (x3_1 - 1))=j_:=⟨_,rfl⟩
     replace H:(if 0≤(ji4) then (if (ji4)<(l0.length:Int) then (if (rd l0 x3_1)≤(rd l0 (ji4)) then (some false) else (jLa.l0 k1 l0 (wrap64 (x3_1+1)))) else (none)) else (none))=some r:=by first |(rw [hji4] at H;exact H) |(simp only [hji4] at H ⊢;exact H)
     have hji4w:(IntKind.i64.wrap (x3_1 - 1))=ji4:=(jHb _).trans hji4
     by_cases c5:0≤(ji4)
     ·rw [if_pos c5] at H
      have c5b0:decide (0≤(ji4))=true:=dzT c5
      clear c5
      by_cases c6:(ji4)<(l0.length:Int)
      ·rw [if_pos c6] at H
       have c6b0:decide ((ji4)<(l0.length:Int))=true:=dzT c6
       clear c6
       by_cases c7:(rd l0 x3_1)≤(rd l0 (ji4))
       ·rw [if_pos c7] at H
        have c7b0:decide ((rd l0 x3_1)≤(rd l0 (ji4)))=true:=dzT c7
        clear c7
        obtain rfl:=Option.some.inj H
        have p676:0≤(x3_1:Int):=ozD (uq)
        have q676:x3_1<(l0.length:Int):=ozD (uq)
        obtain ⟨ad676,e676,hx676_0⟩:=Kd.jsb HR0.out x3_1 p676 q676
        cases e676
        replace p676:=ezT p676
        replace q676:=ezT q676
        have p677:0≤((ji4):Int):=ozD (uq)
        have q677:(ji4)<(l0.length:Int):=ozD (uq)
        obtain ⟨ad677,e677,hx677_0⟩:=Kd.jsb HR0.out (ji4) p677 q677
        obtain rfl:ad676=ad677:=(by injection e677)
        replace p677:=ezT p677
        replace q677:=ezT q677
        go_wp2
        repeat (go_quiet (fail);try go_wp2)
        go_ret
        exact ⟨by first | rfl |(simp;done) |(simp only [← hji4] <;> (first | rfl | simp)) |(simp [*];done),Y4⟩
       ·rw [if_neg c7] at H
        have c7b0:decide ((rd l0 x3_1)≤(rd l0 (ji4)))=false:=dzF c7
        clear c7
        have H':=am H
        clear H
        have p676:0≤(x3_1:Int):=ozD (uq)
        have q676:x3_1<(l0.length:Int):=ozD (uq)
        obtain ⟨ad676,e676,hx676_0⟩:=Kd.jsb HR0.out x3_1 p676 q676
        cases e676
        replace p676:=ezT p676
        replace q676:=ezT q676
        have p677:0≤((ji4):Int):=ozD (uq)
        have q677:(ji4)<(l0.length:Int):=ozD (uq)
        obtain ⟨ad677,e677,hx677_0⟩:=Kd.jsb HR0.out (ji4) p677 q677
        obtain rfl:ad676=ad677:=(by injection e677)
        replace p677:=ezT p677
        replace q677:=ezT q677
        go_wp2
        repeat (go_quiet (fail);try go_wp2)
        go_roundg k1
        case measure=>have:=HK1.out;omega
        case rel=>exact ⟨(wrap64 (x3_1+1)),(sq),H',⟨by have:=HK1.out;omega⟩,Y4⟩
      ·rw [if_neg c6] at H
       exact absurd H (by simp)
     ·rw [if_neg c5] at H
      exact absurd H (by simp)
    ·rw [if_neg c3] at H
     exact absurd H (by simp)
   ·rw [if_neg c2] at H
    have c2b0:decide (x3_1<(l0.length:Int))=false:=dzF c2
    clear c2
    obtain rfl:=Option.some.inj H
    go_wp2
    repeat (go_quiet (fail);try go_wp2)
    go_ret
    exact ⟨sq,Y4⟩
end Go.Proofs.Ytlhfcmbkjddgiaa.P
end
