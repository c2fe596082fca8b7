/- One part of the proofs on this program: functions of the program as plain functions, that the code comes to them, and facts on them. -/
import Derived.Carry
import Derived.Maps.Own
import Derived.Maps.OwnOps
import Derived.Maps.OwnSet
import Derived.Maps.Views
import Derived.Test.YtkhiiiddbmgiaaaYAll1
import Derived.Test.YtkhiiiddbmgiaaaYAll2
import Derived.Test.YtkhiiiddbmgiaaaYAll3
import Derived.Test.YtkhiiiddbmgiaaaYAll4
import Derived.Test.YtkhiiiddbmgiaaaYAll5
import Derived.Test.YtkhiiiddbmgiaaaYWAuto
section
namespace Go.Proofs.Ytkhiiiddbmgiaaa.P
open Go.RowKit Go.Proofs.YtkhiiiddbmgiaaaW.PrintWords Go.Proofs.YtkhiiiddbmgiaaaW.PrintLast Go.Proofs.YtkhiiiddbmgiaaaW.PrintMore
attribute [local go_sem] jU jS jia jha jM jL jT jR jc
set_option linter.unusedVariables false
set_option linter.unusedSimpArgs false
section
attribute [local go_sem] jU jS jia jha jM jL jT jR jc
def shutF (p : List S52) (S : Int → Bool) (x : Int) : Bool := ((jb p x).f1 == 12 && (jb p x).f2 == 0) || S x
def shutO (p : List S52) (S : Int → Bool) (x : Int) : Option Bool := if 0 ≤ x then (if x < (p.length : Int) then some (shutF p S x) else none) else none
set_option maxHeartbeats 8000000 in
set_option maxRecDepth 100000 in
theorem impl_dead1_calls (p : List S52) (S : Int → Bool) (A1 : Option Addr) (c1 : Nat) (x : Int) (b : Bool) (B0 B1 b2 n2 : Nat) (w : World) (hlen : p.length ≤ M6) (hr : Kd.C k52 w A1 p.length p) (hcp : w.cell? ⟨B0, 0, none⟩ = some (.slice A1 p.length c1)) (hc2 : w.cell? ⟨B1, 0, none⟩ = some (.map (some b2))) (hS : BSet w b2 n2 S) (h : shutO p S x = some b) :
  Calls Try.prog 46 #[.int .i64 x, .pointer (some ⟨B0,0,none⟩), .pointer (some ⟨B1,0,none⟩)] w fun e w'=>e=.returned (.bool b)∧Below w.heap.size w w':=by
 unfold shutO at h
 by_cases h0:0≤x
 case neg=>rw [if_neg h0] at h;cases h
 rw [if_pos h0] at h
 by_cases h1:x<(p.length:Int)
 case neg=>rw [if_neg h1] at h;cases h
 rw [if_pos h1] at h
 have hb:=Option.some.inj h
 obtain ⟨ad,rfl,x0,x1,x2,x3⟩:=jba hr x h0 h1
 have hwf:(Lit.int .i64 x).wf=true:=by
  obtain ⟨m,rfl⟩:=Int.eq_ofNat_of_zero_le h0
  exact wf_nat (by unfold M6 at hlen;omega)
 have hl:=BSet.look hS hwf
 replace h0:=ezT h0
 replace h1:=ezT h1
 unfold shutF at hb
 clear h hS hwf hr
 by_cases k12:(jb p x).f1=12
 ·have k12b:((jb p x).f1 == 12)=true:=by simp [k12]
  by_cases k0:(jb p x).f2=0
  ·have k0b:((jb p x).f2 == 0)=true:=by simp [k0]
   rw [k12b,k0b] at hb
   clear k12 k0 hl
   go_enter Try.func46,Try.ntmps46
   go_wp2
   go_ret
   exact ⟨by rw [← hb];rfl,Below.refl _ _⟩
  ·have k0b:((jb p x).f2 == 0)=false:=by simp [k0]
   rw [k12b,k0b] at hb
   simp only [Bool.and_false,Bool.false_or] at hb
   clear k12 k0
   go_enter Try.func46,Try.ntmps46
   go_wp2
   go_ret
   exact ⟨by rw [← hb];rfl,Below.refl _ _⟩
 ·have k12b:((jb p x).f1 == 12)=false:=by simp [k12]
  rw [k12b] at hb
  simp only [Bool.false_and,Bool.false_or] at hb
  clear k12
  go_enter Try.func46,Try.ntmps46
  go_wp2
  go_ret
  exact ⟨by rw [← hb];rfl,Below.refl _ _⟩
set_option maxHeartbeats 8000000 in
set_option maxRecDepth 100000 in
theorem impl_dead_idx (A_ : Option Addr) (c_ : Nat) (l : List (Int)) (B0_ : Nat) (B1_ : Nat) (p : Int → Option Bool) (r : Int) (w : World) (hr : Kd.C (Kd.int .i64) w A_ l.length l) (h : idxFrom p l 0 = some r)
  (hp:∀ W,Below w.heap.size w W→∀ (x:Int) (b:Bool),p x=some b→Calls Try.prog 46 #[.int .i64 x, .pointer (some ⟨B0_,0,none⟩), .pointer (some ⟨B1_,0,none⟩)] W fun e w'=>e=.returned (.bool b)∧Below W.heap.size W w') :
  Calls Try.prog 72 #[.slice A_ l.length c_, .func (.func 46) #[] #[.pointer (some ⟨B0_,0,none⟩), .pointer (some ⟨B1_,0,none⟩)]] w fun e w'=>e=.returned (.int .i64 r)∧Below w.heap.size w w':=by
 have hm:l.length≤9223372036854775807:=Kd.C_max hr
 have HR:=am hr
 have HP:=am hp
 have H0:=am h
 clear hr hp h
 go_enter Try.func72,Try.ntmps72
 go_wp2
 go_loopw [5,8] (fun i5 i8 wr=>∃ k:Nat,k≤l.length∧i8=.int .i64 k∧jk (idxFrom p (l.drop k) k=some r)∧Below w.heap.size w wr) (fun _ i8 _=>l.length - (intOf i8).toNat)
 case atStart=>exact ⟨0,Nat.zero_le _,rfl,H0,Below.refl _ _⟩
 case round =>
  clear H0
  obtain ⟨k,hk,rfl,HA,hb⟩:=hrel
  by_cases hlt:k<l.length
  ·have HB:=am (idxFrom_step hlt HA.out)
   clear HA
   obtain ⟨ad,rfl,hx0⟩:=Kd.jcb HR.out (k:Int) (by omega) (by omega)
   have hrd:rd l (k:Int)=l[k]:=by simp [rd,List.getD_eq_getElem?_getD,hlt]
   replace hx0:=jZ hb hx0
   rw [hrd] at hx0
   simp only [Int.toNat_natCast] at hx0
   clear hrd
   obtain ⟨b,hb1,hb0⟩:=HB.out
   have HQ:=am hb1
   clear hb1 HB
   cases b with
   | true =>
    have HZ:=am (by simpa using hb0:(k:Int)=r)
    clear hb0
    go_wp2_with (go_at_call 46;refine (HP.out _ hb _ _ HQ.out).mono ?_;rintro e w' ⟨rfl,hb2⟩)
    go_ret
    exact ⟨by rw [← HZ.out];rfl,jV hb hb.size hb2⟩
   | false =>
    have HZ:=am (by simpa using hb0:idxFrom p (l.drop (k+1)) (k+1)=some r)
    clear hb0
    go_wp2_with (go_at_call 46;refine (HP.out _ hb _ _ HQ.out).mono ?_;rintro e w' ⟨rfl,hb2⟩)
    go_roundw
    case rel=>exact ⟨k+1,hlt,by go_num,HZ,jV hb hb.size hb2⟩
    case measure=>simp [intOf];omega
  ·have HZ:=am (idxFrom_end (by omega) HA.out)
   clear HA
   go_wp2
   go_ret
   exact ⟨by rw [HZ.out];rfl,hb⟩
set_option maxHeartbeats 8000000 in
set_option maxRecDepth 100000 in
theorem impl_dead_has (A_ : Option Addr) (c_ : Nat) (l : List Int) (B0_ B1_ : Nat) (p : Int → Option Bool) (r : Int) (w : World) (hr : Kd.C (Kd.int .i64) w A_ l.length l) (h : idxFrom p l 0 = some r)
  (hp:∀ W,Below w.heap.size w W→∀ (x:Int) (b:Bool),p x=some b→Calls Try.prog 46 #[.int .i64 x, .pointer (some ⟨B0_,0,none⟩), .pointer (some ⟨B1_,0,none⟩)] W fun e w'=>e=.returned (.bool b)∧Below W.heap.size W w') :
  Calls Try.prog 47 #[.slice A_ l.length c_, .func (.func 46) #[] #[.pointer (some ⟨B0_,0,none⟩), .pointer (some ⟨B1_,0,none⟩)]] w fun e w'=>e=.returned (.bool (decide (r≥0)))∧Below w.heap.size w w':=by
 have HI:=am (impl_dead_idx A_ c_ l B0_ B1_ p r w hr h hp)
 clear hr h hp
 go_enter Try.func47,Try.ntmps47
 go_wp2_with (go_at_call 72;refine HI.out.mono ?_;rintro e w' ⟨rfl,hb2⟩)
 go_ret
 exact ⟨rfl,hb2⟩
def dlN (k : Nat) (p : List S52) (S : Int → Bool) : Nat → Nat → List Int → Option (List Int)
 | 0,_,acc=>some acc
 | n+1,i,acc=>if bjS p (i:Int)=true then dlN k p S n (i+1) (acc ++ [(i:Int)]) else (if S (i:Int)=true then dlN k p S n (i+1) (acc ++ [(i:Int)]) else (jaa.f k p (i:Int)).bind fun E=>(idxFrom (fun x=>shutO p S x) E 0).bind fun r=>if r≥0 then dlN k p S n (i+1) (acc ++ [(i:Int)]) else dlN k p S n (i+1) acc)
def jka.f (k : Nat) (l0_0 : List S78) (l1 : List S52) : Option (List Int) := (jy.f k l0_0 l1).bind fun v => if v = true then (if l1.length ≤ M6 then (dxF k l0_0 l1).bind fun S => dlN k l1 S l1.length 0 [] else none) else some []
structure DlI (w : World) (vp : Value) (l1 : List S52) (S : Int → Bool) (e b1 n1 b2 n2 : Nat) (W : World) : Prop where
 b:Below w.heap.size w W
 p:W.cell? ⟨w.heap.size+1,0,none⟩=some vp
 e:W.cell? ⟨e,0,none⟩=some (.map (some b2))
 s1:BSet W b1 n1 (bjS l1)
 s2:BSet W b2 n2 S
theorem DlI.below {w W W' : World} {vp : Value} {l1 : List S52} {S : Int → Bool} {e b1 n1 b2 n2 : Nat} (h : DlI w vp l1 S e b1 n1 b2 n2 W) (hb : Below W.heap.size W W') : DlI w vp l1 S e b1 n1 b2 n2 W' :=
 ⟨h.b.trans (hb.mono h.b.size),jZ hb h.p,jZ hb h.e,h.s1.below hb,h.s2.below hb⟩
structure Dq (w : World) (vt vp : Value) (W : World) : Prop where
 b:Below w.heap.size w W
 t:W.cell? ⟨w.heap.size,0,none⟩=some vt
 p:W.heap[w.heap.size+1]?=some (.cells #[vp] 28 (0,0))
 l:w.heap.size+2≤W.heap.size
theorem Dq.below {w W W' : World} {vt vp : Value} (h : Dq w vt vp W) (hb : Below W.heap.size W W') : Dq w vt vp W' :=
 ⟨h.b.trans (hb.mono h.b.size),jZ hb h.t,(hb.block _ (Nat.lt_of_lt_of_le (Nat.lt_succ_self _) h.l)).trans h.p,Nat.le_trans h.l hb.size⟩
theorem Dq.pc {w W : World} {vt vp : Value} (h : Dq w vt vp W) : W.cell? ⟨w.heap.size + 1, 0, none⟩ = some vp := (jDa h.p 0).trans rfl
theorem DlI.of_set {w W : World} {vt vp v : Value} {l1 : List S52} {S : Int → Bool} {e b1 n1 b2 n2 : Nat} (D : Dq w vt vp W) (hs1 : BSet W b1 n1 (bjS l1)) (hs2 : BSet W b2 n2 S) (hk : W.heap[e]? = some (.cells #[v] 56 (0, 0))) (he : w.heap.size + 2 ≤ e) (h1 : b1 ≠ e) (h2 : b2 ≠ e) :
  DlI w vp l1 S e b1 n1 b2 n2 (W.setCell ⟨e,0,none⟩ (.map (some b2))):=by
 have hg:W.grownBy (W.setCell ⟨e,0,none⟩ (.map (some b2))) (some e):=⟨rfl,rfl,rfl,by simp [World.setCell],fun k _ hk=>Below.heap_setCell _ _ _ k (fun h=>hk (by rw [h]))⟩
 have hp:=(hg.block (w.heap.size+1) (Nat.lt_of_lt_of_le (Nat.lt_succ_self _) D.l) (by intro h;injection h with h;omega)).trans D.p
 have hc:W.cell? ⟨e,0,none⟩=some v:=(jDa hk 0).trans rfl
 exact ⟨D.b.grown hg D.b.size (fun k h=>by cases h;omega),(jDa hp 0).trans rfl,(by first | exact World.cell?_setCell_same _ hc | exact World.cell?_setCell_same _ _ _ hc | simp [hc]),hs1.kept hg (by intro h;injection h with h;exact h1 h),hs2.kept hg (by intro h;injection h with h;exact h2 h)⟩
theorem DlI.of_alloc {w W : World} {vt vp : Value} {l1 : List S52} {S : Int → Bool} {b1 n1 b2 n2 : Nat} (D : Dq w vt vp W) (hs1 : BSet W b1 n1 (bjS l1)) (hs2 : BSet W b2 n2 S) :
  DlI w vp l1 S W.heap.size b1 n1 b2 n2 (W.alloc (.cells #[.map (some b2)] 56)) :=
 ⟨(D.below ((Below.refl _ _).alloc (Nat.le_refl _) _)).b,(D.below ((Below.refl _ _).alloc (Nat.le_refl _) _)).pc,by simp,hs1.alloc _,hs2.alloc _⟩
set_option maxHeartbeats 16000000 in
set_option maxRecDepth 100000 in
theorem jka.calls (k : Nat) (A0_0 : Option Addr) (c0_0 : Nat) (l0_0 : List (S78)) (A1 : Option Addr) (c1 : Nat) (l1 : List (S52)) (r : List Int) (w : World) (hr0_0 : Kd.C k78 w A0_0 l0_0.length l0_0) (hc0_0 : l0_0.length ≤ c0_0) (hr1 : Kd.C k52 w A1 l1.length l1) (hc1 : l1.length ≤ c1) (h : jka.f k l0_0 l1 = some r) :
  Calls Try.prog 21 #[.agg #[.slice A0_0 l0_0.length c0_0], .slice A1 l1.length c1] w fun e w'=>∃ v0_:Value,e=.returned v0_∧Kd.R (Kd.int .i64) 3 w' w.heap.size (fun _=>True) v0_ r∧Below w.heap.size w w':=by
 obtain ⟨v,hv,h⟩:=bzS h
 have hu32:=Try.underlying32
 have B1:=am (((Below.refl w.heap.size w).alloc (Nat.le_refl _) (.cells #[.slice A0_0 l0_0.length c0_0] 32)).alloc (by simp) (.cells #[.slice A1 l1.length c1] 28))
 have cT0:=am (show ((w.alloc (.cells #[.slice A0_0 l0_0.length c0_0] 32)).alloc (.cells #[.slice A1 l1.length c1] 28)).cell? ⟨w.heap.size,0,none⟩=some (.slice A0_0 l0_0.length c0_0) by simp)
 have cP0:=am (show ((w.alloc (.cells #[.slice A0_0 l0_0.length c0_0] 32)).alloc (.cells #[.slice A1 l1.length c1] 28)).cell? ⟨w.heap.size+1,0,none⟩=some (.slice A1 l1.length c1) by simp)
 have BP0:jk (((w.alloc (.cells #[.slice A0_0 l0_0.length c0_0] 32)).alloc (.cells #[.slice A1 l1.length c1] 28)).heap[w.heap.size+1]?=some (.cells #[.slice A1 l1.length c1] 28 (0,0))):=by
  have h9:=heap_alloc_new (w.alloc (.cells #[.slice A0_0 l0_0.length c0_0] 32)) (.cells #[.slice A1 l1.length c1] 28)
  rw [World.size_alloc] at h9
  exact ⟨h9⟩
 have HV:=am (fun (W:World) (hb:Below w.heap.size w W)=>jy.calls k A0_0 c0_0 l0_0 A1 c1 l1 v W (Kd.jF hr0_0 hb) hc0_0 (Kd.jF hr1 hb) hc1 hv)
 cases v with
 | false =>
  rw [if_neg (by simp)] at h
  obtain rfl:=Option.some.inj h
  clear hv h hr0_0 hr1
  go_enter Try.func21,Try.ntmps21
  go_wp2_with (go_at_call 27;refine (HV.out _ B1.out).mono ?_;rintro e w' ⟨rfl,hb2⟩)
  go_ret
  exact ⟨_,rfl,Kd.R_nil _ _ _ _ _,B1.out.trans (hb2.mono (by simp;omega))⟩
 | true =>
  rw [if_pos rfl] at h
  by_cases hlen:l1.length≤M6
  case neg=>rw [if_neg hlen] at h;cases h
  rw [if_pos hlen] at h
  obtain ⟨S,hS,h⟩:=bzS h
  have HJ:=am (fun (W:World) (hb:Below w.heap.size w W)=>impl_behindJumps.calls A1 c1 l1 W (Kd.jF hr1 hb) hc1 hlen)
  have HX:=am (fun (W:World) (hb:Below w.heap.size w W)=>impl_deadExcepts.calls k A0_0 c0_0 l0_0 A1 c1 l1 S W (Kd.jF hr0_0 hb) hc0_0 (Kd.jF hr1 hb) hc1 hlen hS)
  have HR:=am hr1
  have H0:=am (show dlN k l1 S (l1.length - 0) 0 []=some r from h)
  have hm:l1.length≤9223372036854775807:=Kd.C_max hr1
  clear hv h hr0_0 hr1 hS
  go_enter Try.func21,Try.ntmps21
  go_upto_region 3 with (go_at_call 27;refine (HV.out _ B1.out).mono ?_;rintro e w1 ⟨rfl,hb2⟩;have cT:=jZ hb2 cT0.out;have cP:=jZ hb2 cP0.out;have HB1:=am (B1.out.trans (hb2.mono (by simp;omega)));have HL1:=am (show w.heap.size+2≤w1.heap.size from Nat.le_trans (by simp) hb2.size);have BP1:=am ((hb2.block (w.heap.size+1) (by simp)).trans BP0.out);clear HV hb2)
  go_cut [5,6] (fun v5 v6 wc=>∃ (e b1 n1 b2 n2:Nat),v5=.map (some b1)∧v6=.pointer (some ⟨e,0,none⟩)∧jk (DlI w (.slice A1 l1.length c1) l1 S e b1 n1 b2 n2 wc))
  case first =>
   rename_i J9 K9 hJ9 hK9
   clear H0 HR
   refine wp_region_held (S:=fun W=>W.cell? ⟨w.heap.size,0,none⟩=some (.slice A0_0 l0_0.length c0_0)∧W.cell? ⟨w.heap.size+1,0,none⟩=some (.slice A1 l1.length c1)) (by kernel_rfl) ?_
   change wpAnyH _ _ _ _ _ _ _ _ (World.drew _)
   have hS0:=(show w1.drew.cell? ⟨w.heap.size,0,none⟩=some (.slice A0_0 l0_0.length c0_0)∧w1.drew.cell? ⟨w.heap.size+1,0,none⟩=some (.slice A1 l1.length c1) from ⟨cT,cP⟩)
   have HB2:=am (HB1.out.trans ((jSb (Below.refl _ w1)).mono HB1.out.size))
   have BP2:=am (show w1.drew.heap[w.heap.size+1]?=some (.cells #[.slice A1 l1.length c1] 28 (0,0)) from BP1.out)
   have HL2:=am (show w.heap.size+2≤w1.drew.heap.size from HL1.out)
   obtain ⟨W2,hW2⟩:∃ W2,W2=w1.drew:=⟨_,rfl⟩
   rw [← hW2] at hS0 HB2 BP2 HL2
   rw [← hW2]
   clear hW2 cT cP HB1 HL1 BP1
   have D2:=am (⟨HB2.out,hS0.1,BP2.out,HL2.out⟩:Dq w (.slice A0_0 l0_0.length c0_0) (.slice A1 l1.length c1) W2)
   refine wpAnyH_take (i:=0) (v:=?_) rfl (by kernel_rfl) (by kernel_rfl) (by kernel_rfl) (fun _ _ _ h=>h) (Or.inl ⟨by rfl,?_⟩) hS0 ?_
   rotate_left
   ·rintro W ⟨s1,s2⟩
    go_simp
    with_reducible rfl
   refine wpAnyH_take (i:=2) (v:=?_) rfl (by kernel_rfl) (by kernel_rfl) (by kernel_rfl) (fun _ _ _ h=>h) (Or.inl ⟨by rfl,?_⟩) hS0 ?_
   rotate_left
   ·rintro W ⟨s1,s2⟩
    go_simp
    with_reducible rfl
   refine wpAnyH_take (i:=3) (v:=?_) rfl (by kernel_rfl) (by kernel_rfl) (by kernel_rfl) (fun _ _ _ h=>h) (Or.inl ⟨by rfl,?_⟩) hS0 ?_
   rotate_left
   ·rintro W ⟨s1,s2⟩
    go_simp
    with_reducible rfl
   refine wpAnyH_all (rs:=[1,5]) (by kernel_rfl) (by simp) ?_
   intro ii hii
   rcases List.mem_cons.mp hii with rfl | hii
   ·clear hii
    refine wpOp_step rfl (fun K hK=>?_)
    go_simp
    refine (HJ.out _ D2.out.b).mono ?_
    rintro ee W3 ⟨b1,n1,rfl,hb1,hs1,hbe⟩
    have D3:=am (D2.out.below hbe)
    have HS1:=am hs1
    clear hs1 hb1 hbe
    refine hK _ _ ⟨⟨D3.out.t,D3.out.pc⟩,?_⟩
    clear hK K
    refine wpAnyH_all (rs:=[4,5]) (by kernel_rfl) (by simp) ?_
    intro ii hii
    rcases List.mem_cons.mp hii with rfl | hii
    ·clear hii
     refine wpOp_step rfl (fun K hK=>?_)
     go_simp
     refine (HX.out _ D3.out.b).mono ?_
     rintro ee W4 ⟨b2,n2,rfl,hb2,hs2,hbe2⟩
     have D4:=am (D3.out.below hbe2)
     have HS1':=am (HS1.out.below hbe2)
     have HS2:=am hs2
     clear hs2 hb2 hbe2
     refine hK _ _ ⟨⟨D4.out.t,D4.out.pc⟩,?_⟩
     clear hK K
     refine wpAnyH_all (rs:=[5]) (by kernel_rfl) (by simp) ?_
     intro ii hii
     obtain rfl:ii=5:=by simpa using hii
     clear hii
     refine wpOp_step rfl (fun K hK=>?_)
     go_simp
     have D5:=am (D4.out.below ((Below.refl _ _).alloc (Nat.le_refl _) (.cells #[.map none] 56)))
     refine hK _ _ ⟨⟨D5.out.t,D5.out.pc⟩,?_⟩
     clear hK K
     refine wpAnyH_take (i:=6) (v:=?_) rfl (by kernel_rfl) (by kernel_rfl) (by kernel_rfl) (fun _ _ _ h=>h) (Or.inl ⟨by rfl,?_⟩) ⟨D5.out.t,D5.out.pc⟩ ?_
     rotate_left
     ·rintro W ⟨s1,s2⟩
      go_simp
      with_reducible rfl
     refine wpAnyH_all (rs:=[7]) (by kernel_rfl) (by simp) ?_
     intro ii hii
     obtain rfl:ii=7:=by simpa using hii
     clear hii
     refine wpOp_step rfl (fun K hK=>?_)
     go_simp
     have I9:=am (DlI.of_alloc D4.out HS1'.out HS2.out)
     refine hK _ _ ⟨⟨(D4.out.below ((Below.refl _ _).alloc (Nat.le_refl _) _)).t,I9.out.p⟩,?_⟩
     clear hK K
     refine wpAnyH_done (by kernel_rfl) ?_ _
     refine hK9 _ _ (Met.intro (hJ9 _ _ ?_))
     (repeat apply Exists.intro)
     refine ⟨?rel,rfl⟩
     case rel=>exact ⟨W4.heap.size,b1,n1,b2,n2,rfl,rfl,I9⟩
    ·obtain rfl:ii=5:=by simpa using hii
     clear hii
     refine wpOp_step rfl (fun K hK=>?_)
     go_simp
     have D5:=am (D3.out.below ((Below.refl _ _).alloc (Nat.le_refl _) (.cells #[.map none] 56)))
     refine hK _ _ ⟨⟨D5.out.t,D5.out.pc⟩,?_⟩
     clear hK K
     refine wpAnyH_all (rs:=[4]) (by kernel_rfl) (by simp) ?_
     intro ii hii
     obtain rfl:ii=4:=by simpa using hii
     clear hii
     refine wpOp_step rfl (fun K hK=>?_)
     go_simp
     refine (HX.out _ D5.out.b).mono ?_
     rintro ee W4 ⟨b2,n2,rfl,hb2,hs2,hbe2⟩
     have D4:=am (D5.out.below hbe2)
     have HS1':=am ((HS1.out.alloc _).below hbe2)
     have HS2:=am hs2
     have BK:=am ((hbe2.block W3.heap.size (by simp)).trans (heap_alloc_new W3 (.cells #[.map none] 56)))
     have hne1:b1≠W3.heap.size:=Nat.ne_of_lt HS1.out.lt
     have hne2:b2≠W3.heap.size:=by rw [World.size_alloc] at hb2;omega
     refine hK _ _ ⟨⟨D4.out.t,D4.out.pc⟩,?_⟩
     clear hK K
     refine wpAnyH_take (i:=6) (v:=?_) rfl (by kernel_rfl) (by kernel_rfl) (by kernel_rfl) (fun _ _ _ h=>h) (Or.inl ⟨by rfl,?_⟩) ⟨D4.out.t,D4.out.pc⟩ ?_
     rotate_left
     ·rintro W ⟨s1,s2⟩
      go_simp
      with_reducible rfl
     have hce:=(jDa BK.out 0).trans rfl
     have hfz:=ja BK.out 0
     refine wpAnyH_all (rs:=[7]) (by kernel_rfl) (by simp) ?_
     intro ii hii
     obtain rfl:ii=7:=by simpa using hii
     clear hii
     refine wpOp_step rfl (fun K hK=>?_)
     go_simp
     have I9:=am (DlI.of_set D4.out HS1'.out HS2.out BK.out D3.out.l hne1 hne2)
     refine hK _ _ ⟨⟨(((Below.refl _ W4).setCell (Nat.le_refl _) _).cell (Nat.lt_of_lt_of_le (Nat.lt_of_lt_of_le (Nat.lt_succ_self _) (Nat.le_succ _)) D3.out.l)).trans D4.out.t,I9.out.p⟩,?_⟩
     clear hK K
     refine wpAnyH_done (by kernel_rfl) ?_ _
     refine hK9 _ _ (Met.intro (hJ9 _ _ ?_))
     (repeat apply Exists.intro)
     refine ⟨?rel,rfl⟩
     case rel=>exact ⟨W3.heap.size,b1,n1,b2,n2,rfl,rfl,I9⟩
   ·obtain rfl:ii=5:=by simpa using hii
    clear hii
    refine wpOp_step rfl (fun K hK=>?_)
    go_simp
    have D5:=am (D2.out.below ((Below.refl _ _).alloc (Nat.le_refl _) (.cells #[.map none] 56)))
    refine hK _ _ ⟨⟨D5.out.t,D5.out.pc⟩,?_⟩
    clear hK K
    refine wpAnyH_all (rs:=[1]) (by kernel_rfl) (by simp) ?_
    intro ii hii
    obtain rfl:ii=1:=by simpa using hii
    clear hii
    refine wpOp_step rfl (fun K hK=>?_)
    go_simp
    refine (HJ.out _ D5.out.b).mono ?_
    rintro ee W3 ⟨b1,n1,rfl,hb1,hs1,hbe⟩
    have D3:=am (D5.out.below hbe)
    have HS1:=am hs1
    have BK0:=am ((hbe.block W2.heap.size (by simp)).trans (heap_alloc_new W2 (.cells #[.map none] 56)))
    have hne1:b1≠W2.heap.size:=by rw [World.size_alloc] at hb1;omega
    have hlt9:W2.heap.size<W3.heap.size:=Nat.lt_of_lt_of_le (by simp) hbe.size
    refine hK _ _ ⟨⟨D3.out.t,D3.out.pc⟩,?_⟩
    clear hK K
    refine wpAnyH_all (rs:=[4]) (by kernel_rfl) (by simp) ?_
    intro ii hii
    obtain rfl:ii=4:=by simpa using hii
    clear hii
    refine wpOp_step rfl (fun K hK=>?_)
    go_simp
    refine (HX.out _ D3.out.b).mono ?_
    rintro ee W4 ⟨b2,n2,rfl,hb2,hs2,hbe2⟩
    have D4:=am (D3.out.below hbe2)
    have HS1':=am (HS1.out.below hbe2)
    have HS2:=am hs2
    have BK:=am ((hbe2.block W2.heap.size hlt9).trans BK0.out)
    have hne2:b2≠W2.heap.size:=by omega
    refine hK _ _ ⟨⟨D4.out.t,D4.out.pc⟩,?_⟩
    clear hK K
    refine wpAnyH_take (i:=6) (v:=?_) rfl (by kernel_rfl) (by kernel_rfl) (by kernel_rfl) (fun _ _ _ h=>h) (Or.inl ⟨by rfl,?_⟩) ⟨D4.out.t,D4.out.pc⟩ ?_
    rotate_left
    ·rintro W ⟨s1,s2⟩
     go_simp
     with_reducible rfl
    have hce:=(jDa BK.out 0).trans rfl
    have hfz:=ja BK.out 0
    refine wpAnyH_all (rs:=[7]) (by kernel_rfl) (by simp) ?_
    intro ii hii
    obtain rfl:ii=7:=by simpa using hii
    clear hii
    refine wpOp_step rfl (fun K hK=>?_)
    go_simp
    have I9:=am (DlI.of_set D4.out HS1'.out HS2.out BK.out D2.out.l hne1 hne2)
    refine hK _ _ ⟨⟨(((Below.refl _ W4).setCell (Nat.le_refl _) _).cell (Nat.lt_of_lt_of_le (Nat.lt_of_lt_of_le (Nat.lt_succ_self _) (Nat.le_succ _)) D2.out.l)).trans D4.out.t,I9.out.p⟩,?_⟩
    clear hK K
    refine wpAnyH_done (by kernel_rfl) ?_ _
    refine hK9 _ _ (Met.intro (hJ9 _ _ ?_))
    (repeat apply Exists.intro)
    refine ⟨?rel,rfl⟩
    case rel=>exact ⟨W2.heap.size,b1,n1,b2,n2,rfl,rfl,I9⟩
  case rest =>
   obtain ⟨e,b1,n1,b2,n2,rfl,rfl,HD⟩:=hcut
   obtain ⟨Wc,rfl⟩:∃ Wc,Wc=wc:=⟨_,rfl⟩
   have hcp:=HD.out.p
   have hlen2:l1.length≤1048576:=hlen
   clear HJ HX B1 cT0 cP0
   go_wp2_with ((with_reducible refine jP (N:=21) rfl ?_);refine Kd.R_mkcap (Kd.int .i64) _ 3 rfl (N:=21) rfl 40 _ _ rfl (l1.length:Int) rfl rfl Try.underlying40 (.int .i64 0) 8 info3 rfl (by decide) (by omega) (ok:=fun _=>True) trivial (by omega) (by simp only [Int.toNat_natCast];omega) (Below.refl _ _) (Nat.le_refl _) ?_;intro v21 w7 ho8 hb hg_ hnew_;clear hg_ hnew_;have HO:=am ho8;have HB:=am hb;have hcp7:=jZ hb hcp;clear ho8 hb)
   go_loopw [7,24] (fun v7 v24 wr=>∃ (i:Nat) (acc:List Int),i≤l1.length∧v24=.int .i64 i∧jk (dlN k l1 S (l1.length - i) i acc=some r)∧jk (acc.length≤i)∧jk (Kd.R (Kd.int .i64) 3 wr Wc.heap.size (fun _=>True) v7 acc)∧jk (Below Wc.heap.size Wc wr)) (fun v7 v24 _=>l1.length - (intOf v24).toNat)
   case atStart=>exact ⟨0,[],Nat.zero_le _,rfl,H0,⟨Nat.le_refl _⟩,HO,HB⟩
   case round =>
    clear H0 HO HB hcp hcp7
    obtain ⟨i,acc,hi,rfl,HH,HAL,HO,HB⟩:=hrel
    by_cases hlt:i<l1.length
    ·have HDr:=am (HD.out.below HB.out)
     have hcp:=HDr.out.p
     have hce:=HDr.out.e
     have hwf:(Lit.int .i64 (i:Int)).wf=true:=wf_nat (by omega)
     have hl1:=BSet.look HDr.out.s1 hwf
     have hl2:=BSet.look HDr.out.s2 hwf
     have hH:=HH.out
     rw [show l1.length - i=(l1.length - (i+1))+1 by omega] at hH
     unfold dlN at hH
     clear HH
     by_cases d1:bjS l1 (i:Int)=true
     ·rw [if_pos d1] at hH
      rw [d1] at hl1
      have HH2:=am hH
      clear hH hl2 hwf d1
      go_wp2_with ((with_reducible refine jPa (b:=.append) (xs:=#[.tmp 43, .tmp 45]) rfl ?_);at_builtin;refine Kd.job (Kd.int .i64) (w0:=Wc) Wc.heap.size rfl (.tmp 43) (.tmp 45) 40 3 (.int .i64 0) 8 rfl Try.underlying40 info3 rfl (by decide) (by omega) _ acc (i:Int) [.int .i64 (i:Int)] (fun _=>True) (fun _=>False) rfl rfl ?aP (fun _ hk=>hk.elim) ?aF HO.out HB.out HB.out.size ?aL ?_;(case aP=>exact rfl);(case aF=>exact (fun _ _=>trivial));(case aL=>have:=HAL.out;unfold M6 at hlen;omega);intro v9b w9 ho hb hg hat;clear HO HB;have HO:=am ho;have HB:=am hb;clear ho hb hg hat)
      go_roundw
      case rel=>exact ⟨i+1,acc ++ [(i:Int)],hlt,by go_num,HH2,⟨by have:=HAL.out;rw [List.length_append,List.length_singleton];omega⟩,HO,HB⟩
      case measure=>simp [intOf];omega
     ·rw [if_neg d1] at hH
      rw [Bool.not_eq_true] at d1
      rw [d1] at hl1
      by_cases d2:S (i:Int)=true
      ·rw [if_pos d2] at hH
       rw [d2] at hl2
       have HH2:=am hH
       clear hH hwf d1 d2
       go_wp2_with ((with_reducible refine jPa (b:=.append) (xs:=#[.tmp 43, .tmp 45]) rfl ?_);at_builtin;refine Kd.job (Kd.int .i64) (w0:=Wc) Wc.heap.size rfl (.tmp 43) (.tmp 45) 40 3 (.int .i64 0) 8 rfl Try.underlying40 info3 rfl (by decide) (by omega) _ acc (i:Int) [.int .i64 (i:Int)] (fun _=>True) (fun _=>False) rfl rfl ?aP (fun _ hk=>hk.elim) ?aF HO.out HB.out HB.out.size ?aL ?_;(case aP=>exact rfl);(case aF=>exact (fun _ _=>trivial));(case aL=>have:=HAL.out;unfold M6 at hlen;omega);intro v9b w9 ho hb hg hat;clear HO HB;have HO:=am ho;have HB:=am hb;clear ho hb hg hat)
       go_roundw
       case rel=>exact ⟨i+1,acc ++ [(i:Int)],hlt,by go_num,HH2,⟨by have:=HAL.out;rw [List.length_append,List.length_singleton];omega⟩,HO,HB⟩
       case measure=>simp [intOf];omega
      ·rw [if_neg d2] at hH
       rw [Bool.not_eq_true] at d2
       rw [d2] at hl2
       obtain ⟨E,hE,hH⟩:=bzS hH
       obtain ⟨q,hq,hH⟩:=bzS hH
       have HE:=am (fun (W:World) (hb:Below wr.heap.size wr W)=>jaa.calls k A1 c1 l1 (i:Int) E W (Kd.jF HR.out (HDr.out.b.trans (hb.mono HDr.out.b.size))) hc1 hE)
       have hC0:=fun (W:World) (hb:Below wr.heap.size wr W) (AE:Option Addr) (cE:Nat) (hrE:Kd.C (Kd.int .i64) W AE E.length E)=>impl_dead_has AE cE E (w.heap.size+1) e (fun x=>shutO l1 S x) q W hrE hq (fun W' hb' x b hx =>
        impl_dead1_calls l1 S A1 c1 x b (w.heap.size+1) e b2 n2 W' hlen (Kd.jF HR.out (((HDr.out.below hb).below hb').b)) (((HDr.out.below hb).below hb').p) (((HDr.out.below hb).below hb').e) (((HDr.out.below hb).below hb').s2) hx)
       by_cases d3:q≥0
       ·rw [if_pos d3] at hH
        rw [dzT d3] at hC0
        have HC:=am hC0
        have HH2:=am hH
        clear hH hwf d1 d2 d3 hC0 hE hq
        go_wp2_with (first |(go_at_call 48;refine (HE.out _ (Below.refl _ _)).mono ?_;rintro ee w4 ⟨vE,rfl,hRE,hbE⟩;obtain ⟨AE,cE,rfl⟩:=Kd.jGa hRE;have hCE:=am (Kd.jA hRE).2.2;have HBE:=am hbE;clear hRE hbE) |(go_at_call 47;refine (HC.out _ HBE.out _ _ hCE.out).mono ?_;rintro ee w5 ⟨rfl,hb5⟩;have n1_:=am (Kd.jX HO.out (HBE.out.trans (hb5.mono HBE.out.size)));have n2_:=am (HB.out.trans ((HBE.out.trans (hb5.mono HBE.out.size)).mono HB.out.size));clear HO HB;have HO:=n1_;have HB:=n2_;clear n1_ n2_ hb5) |((with_reducible refine jPa (b:=.append) (xs:=#[.tmp 43, .tmp 45]) rfl ?_);at_builtin;refine Kd.job (Kd.int .i64) (w0:=Wc) Wc.heap.size rfl (.tmp 43) (.tmp 45) 40 3 (.int .i64 0) 8 rfl Try.underlying40 info3 rfl (by decide) (by omega) _ acc (i:Int) [.int .i64 (i:Int)] (fun _=>True) (fun _=>False) rfl rfl ?aP (fun _ hk=>hk.elim) ?aF HO.out HB.out HB.out.size ?aL ?_;(case aP=>exact rfl);(case aF=>exact (fun _ _=>trivial));(case aL=>have:=HAL.out;unfold M6 at hlen;omega);intro v9b w9 ho hb hg hat;clear HO HB;have HO:=am ho;have HB:=am hb;clear ho hb hg hat))
        go_roundw
        case rel=>exact ⟨i+1,acc ++ [(i:Int)],hlt,by go_num,HH2,⟨by have:=HAL.out;rw [List.length_append,List.length_singleton];omega⟩,HO,HB⟩
        case measure=>simp [intOf];omega
       ·rw [if_neg d3] at hH
        rw [dzF d3] at hC0
        have HC:=am hC0
        have HH2:=am hH
        clear hH hwf d1 d2 d3 hC0 hE hq
        go_wp2_with (first |(go_at_call 48;refine (HE.out _ (Below.refl _ _)).mono ?_;rintro ee w4 ⟨vE,rfl,hRE,hbE⟩;obtain ⟨AE,cE,rfl⟩:=Kd.jGa hRE;have hCE:=am (Kd.jA hRE).2.2;have HBE:=am hbE;clear hRE hbE) |(go_at_call 47;refine (HC.out _ HBE.out _ _ hCE.out).mono ?_;rintro ee w5 ⟨rfl,hb5⟩;have n1_:=am (Kd.jX HO.out (HBE.out.trans (hb5.mono HBE.out.size)));have n2_:=am (HB.out.trans ((HBE.out.trans (hb5.mono HBE.out.size)).mono HB.out.size));clear HO HB;have HO:=n1_;have HB:=n2_;clear n1_ n2_ hb5))
        go_roundw
        case rel=>exact ⟨i+1,acc,hlt,by go_num,HH2,⟨by have:=HAL.out;omega⟩,HO,HB⟩
        case measure=>simp [intOf];omega
    ·have hH:=HH.out
     rw [show l1.length - i=0 by omega] at hH
     obtain rfl:acc=r:=Option.some.inj hH
     obtain ⟨A7,c7,rfl⟩:=Kd.jGa HO.out
     obtain ⟨i03,hi03,_,hsz3,_⟩:=info_parts info3
     have hcut3:=cut_clip (P:=Try.prog) 40 3 Try.underlying40 hi03 A7 _ c7 _ (Kd.jA HO.out).2.1 (rfl:acc.length=acc.length)
     have hr3:=am (Kd.R_clip HO.out (rfl:acc=acc))
     clear hH HH hi03 hsz3
     go_wp2
     go_ret
     exact ⟨_,rfl,Kd.jRa hr3.out HD.out.b.size,HD.out.b.trans (HB.out.mono HD.out.b.size)⟩
end
def jJ.l0 : Nat → List Int → List Int → Int → Option (Bool)
 | 0,_,_,_=>none
 | k+1,x0,x1,x5=>if x5<(x0.length:Int) then (if 0≤x5 then (if x5<(x1.length:Int) then (if (rd x0 x5)=(rd x1 x5) then (jJ.l0 k x0 x1 (wrap64 (x5+1))) else (some false)) else (none)) else (none)) else (some true)
def jJ.f (k : Nat) (l0 : List Int) (l1 : List Int) : Option (Bool) := if (l0.length : Int) = (l1.length : Int) then (jJ.l0 k l0 l1 0) else (some false)
set_option maxHeartbeats 8000000 in
set_option maxRecDepth 100000 in
theorem jJ.calls (k : Nat) (A0 : Option Addr) (c0 : Nat) (l0 : List Int) (A1 : Option Addr) (c1 : Nat) (l1 : List Int) (r : Bool) (w : World) (hr0 : Kd.C (Kd.int .i64) w A0 l0.length l0) (hc0 : l0.length ≤ c0) (hr1 : Kd.C (Kd.int .i64) w A1 l1.length l1) (hc1 : l1.length ≤ c1) (h : jJ.f k l0 l1 = some r) :
  Calls Try.prog 22 #[.slice A0 l0.length c0, .slice A1 l1.length c1] w fun e w'=>e=.returned (.bool r)∧jKa w w':=by
 have HR0:=am hr0
 have HC0:=am hc0
 clear hr0 hc0
 have HR1:=am hr1
 have HC1:=am hc1
 clear hr1 hc1
 have H:(if (l0.length:Int)=(l1.length:Int) then (jJ.l0 k l0 l1 0) else (some false))=some r:=h
 clear h
 by_cases c3:(l0.length:Int)=(l1.length:Int)
 ·rw [if_pos c3] at H
  have c3b0:((l0.length:Int) == (l1.length:Int))=true:=beq_iff_eq.mpr c3
  have c3b1:((l0.length:Int) != (l1.length:Int))=false:=bne_eq_false_iff_eq.mpr c3
  have c3b2:(l0.length == l1.length)=true:=by first | simpa using c3 |(simp at c3 ⊢;omega)
  clear c3
  have H':=am H
  clear H
  go_enter Try.func22,Try.ntmps22
  go_wp2
  repeat (go_quiet (fail);try go_wp2)
  go_loopg [5] k (fun kq v5 w'=>∃ (x5_1:Int),v5=.int .i64 x5_1∧jk (jJ.l0 kq l0 l1 x5_1=some r)∧jk (kq≤k)∧jKa w w')
  case atStart=>exact ⟨(0),(sq),H',⟨Nat.le_refl _⟩,Y2⟩
  case round =>
   clear H'
   try clear c1
   try clear c2
   try clear p2
   try clear c3
   try clear c3b0
   try clear c3b1
   try clear c3b2
   obtain ⟨x5_1,rfl,HA,HK1,⟨m1,rfl⟩⟩:=hrel
   cases gk with
   | zero=>exact absurd HA.out (by simp [jJ.l0])
   | succ k1 =>
    have H:=HA.out
    clear HA
    simp only [jJ.l0] at H
    by_cases c4:x5_1<(l0.length:Int)
    ·rw [if_pos c4] at H
     have c4b0:decide (x5_1<(l0.length:Int))=true:=dzT c4
     clear c4
     by_cases c5:0≤x5_1
     ·rw [if_pos c5] at H
      have c5b0:decide (0≤x5_1)=true:=dzT c5
      clear c5
      by_cases c6:x5_1<(l1.length:Int)
      ·rw [if_pos c6] at H
       have c6b0:decide (x5_1<(l1.length:Int))=true:=dzT c6
       clear c6
       by_cases c7:(rd l0 x5_1)=(rd l1 x5_1)
       ·rw [if_pos c7] at H
        have c7b0:((rd l0 x5_1) == (rd l1 x5_1))=true:=beq_iff_eq.mpr c7
        have c7b1:((rd l0 x5_1) != (rd l1 x5_1))=false:=bne_eq_false_iff_eq.mpr c7
        clear c7
        have H':=am H
        clear H
        have p531:0≤(x5_1:Int):=ozD (uq)
        have q531:x5_1<(l0.length:Int):=ozD (uq)
        obtain ⟨ad531,e531,hx531_0⟩:=Kd.jcb HR0.out x5_1 p531 q531
        cases e531
        replace p531:=ezT p531
        replace q531:=ezT q531
        have p532:0≤(x5_1:Int):=ozD (uq)
        have q532:x5_1<(l1.length:Int):=ozD (uq)
        obtain ⟨ad532,e532,hx532_0⟩:=Kd.jcb HR1.out x5_1 p532 q532
        cases e532
        replace p532:=ezT p532
        replace q532:=ezT q532
        go_wp2
        repeat (go_quiet (fail);try go_wp2)
        go_roundg k1
        case measure=>have:=HK1.out;omega
        case rel=>exact ⟨(wrap64 (x5_1+1)),(sq),H',⟨by have:=HK1.out;omega⟩,Y2⟩
       ·rw [if_neg c7] at H
        have c7b0:((rd l0 x5_1) == (rd l1 x5_1))=false:=beq_eq_false_iff_ne.mpr c7
        have c7b1:((rd l0 x5_1) != (rd l1 x5_1))=true:=bne_iff_ne.mpr c7
        obtain rfl:=Option.some.inj H
        have p531:0≤(x5_1:Int):=ozD (uq)
        have q531:x5_1<(l0.length:Int):=ozD (uq)
        obtain ⟨ad531,e531,hx531_0⟩:=Kd.jcb HR0.out x5_1 p531 q531
        cases e531
        replace p531:=ezT p531
        replace q531:=ezT q531
        have p532:0≤(x5_1:Int):=ozD (uq)
        have q532:x5_1<(l1.length:Int):=ozD (uq)
        obtain ⟨ad532,e532,hx532_0⟩:=Kd.jcb HR1.out x5_1 p532 q532
        cases e532
        replace p532:=ezT p532
        replace q532:=ezT q532
        go_wp2
        repeat (go_quiet (fail);try go_wp2)
        go_ret
        exact ⟨sq,Y2⟩
      ·rw [if_neg c6] at H
       exact absurd H (by simp)
     ·rw [if_neg c5] at H
      exact absurd H (by simp)
    ·rw [if_neg c4] at H
     have c4b0:decide (x5_1<(l0.length:Int))=false:=dzF c4
     clear c4
     obtain rfl:=Option.some.inj H
     go_wp2
     repeat (go_quiet (fail);try go_wp2)
     go_ret
     exact ⟨sq,Y2⟩
 ·rw [if_neg c3] at H
  have c3b0:((l0.length:Int) == (l1.length:Int))=false:=beq_eq_false_iff_ne.mpr c3
  have c3b1:((l0.length:Int) != (l1.length:Int))=true:=bne_iff_ne.mpr c3
  have c3b2:(l0.length == l1.length)=false:=by first | simpa using c3 |(simp at c3 ⊢;omega)
  obtain rfl:=Option.some.inj H
  go_enter Try.func22,Try.ntmps22
  go_wp2
  repeat (go_quiet (fail);try go_wp2)
  go_ret
  exact ⟨sq,Y2⟩
def jBa.l0 : Nat → List Int → Int → Int → Option (Int × List Int)
 | 0,_,_,_=>none
 | k+1,x0,x1,x5=>if x5<(x0.length:Int) then (if 0≤x5 then (jBa.l0 k (x0.set (x5:Int).toNat x1) (wrap64 (x1+1)) (wrap64 (x5+1))) else (none)) else (some (x1,x0))
def jBa.f (k : Nat) (l0 : List Int) (a1 : Int) : Option (Int × List Int) := jBa.l0 k l0 a1 0
set_option maxHeartbeats 8000000 in
set_option maxRecDepth 100000 in
theorem jBa.calls (k : Nat) (P0_ : Nat → Prop) (u9000_ : Value) (l0 : List Int) (a1 : Int) (r1 : Int) (r2 : List Int) (w0 w : World) (hB : Below w0.heap.size w0 w) (ho0 : Kd.R (Kd.int .i64) 3 w w0.heap.size P0_ u9000_ l0) (h : jBa.f k l0 a1 = some (r1, r2)) :
  Calls Try.prog 23 #[u9000_, .int .i64 a1] w fun e w'=>e=.returned (.int .i64 r1)∧Kd.R (Kd.int .i64) 3 w' w0.heap.size (fun k_=>(P0_ k_∨w.heap.size≤k_)) u9000_ r2∧Below w0.heap.size w0 w'∧Kept w w' (fun k_=>P0_ k_):=by
 have HO0:=am (show Kd.R (Kd.int .i64) 3 w w0.heap.size (fun k_=>(P0_ k_∨w.heap.size≤k_)) u9000_ l0 from Kd.jSa ho0 (fun k_ hk=>(.inl hk)))
 have HK:=am (Kept.refl w (fun k_=>P0_ k_))
 have HW0:=am hB.size
 have HB:=am hB
 clear hB
 have H:(jBa.l0 k l0 a1 0)=some (r1,r2):=h
 clear h
 have H':=am H
 clear H
 go_enter Try.func23,Try.ntmps23
 go_wp2
 go_loopg [1,5] k (fun kq v1 v5 w'=>∃ (x0_1:List Int) (x1_1:Int) (x5_1:Int),v1=.int .i64 x1_1∧v5=.int .i64 x5_1∧jk (jBa.l0 kq x0_1 x1_1 x5_1=some (r1,r2))∧jk (kq≤k)∧jk (Kd.R (Kd.int .i64) 3 w' w0.heap.size (fun k_=>(P0_ k_∨w.heap.size≤k_)) u9000_ x0_1)∧jk (Kept w w' (fun k_=>P0_ k_))∧jk (Below w0.heap.size w0 w'))
 case atStart=>exact ⟨(l0),(a1),(0),(sq),(sq),H',⟨Nat.le_refl _⟩,⟨rq HO0.out⟩,⟨Y7⟩,⟨bq⟩⟩
 case round =>
  clear H'
  try clear c2
  try clear p2
  obtain ⟨x0_1,x1_1,x5_1,rfl,rfl,HA,HK1,HO_0,HK,HB⟩:=hrel
  cases gk with
  | zero=>exact absurd HA.out (by simp [jBa.l0])
  | succ k1 =>
   have H:=HA.out
   clear HA
   simp only [jBa.l0] at H
   by_cases c3:x5_1<(x0_1.length:Int)
   ·rw [if_pos c3] at H
    have c3b0:decide (x5_1<(x0_1.length:Int))=true:=dzT c3
    clear c3
    by_cases c4:0≤x5_1
    ·rw [if_pos c4] at H
     have c4b0:decide (0≤x5_1)=true:=dzT c4
     clear c4
     obtain ⟨y533,hy533⟩:∃ y_:List Int,y_=(x0_1.set (x5_1:Int).toNat x1_1):=⟨_,rfl⟩
     replace H:(jBa.l0 k1 y533 (wrap64 (x1_1+1)) (wrap64 (x5_1+1)))=some (r1,r2):=by first |(rw [hy533];with_reducible exact H) |(have H2_:=(Option.bind_some _ _).symm.trans H;rw [hy533];with_reducible exact H2_) |(have H2_:=(Option.bind_some _ _).symm.trans H;with_reducible exact H2_) | with_reducible exact H |(rw [hy533];exact H) | exact H
     have Ny533:=am hy533
     clear hy533
     have H':=am H
     clear H
     obtain ⟨Ao6,co6,eo6⟩:=Kd.jGa HO_0.out
     subst eo6
     have p5:0≤(x5_1:Int):=ozD (uq)
     have q5:(x5_1:Int)<((x0_1.length:Int):Int):=ozD (uq)
     obtain ⟨go5,co5,eo5,gb5,gl5,cl5,HG5⟩:=Kd.R_form HO_0.out (by omega)
     (first | cases eo5 |(injection eo5 with ea_ en_ ec_;(first | subst ea_ |(injection ea_ with ea_;subst ea_));subst ec_;clear en_))
     have GB5:=am gb5
     have GG5:=am HG5
     clear gb5 gl5 HG5
     have HMgo5:=am (show (P0_ go5∨w.heap.size≤go5) from (HO_0.out.1 _ rfl))
     obtain ⟨hx5_0,hf5_0⟩:=Kd.R_celln 0 HO_0.out (x5_1:Int) p5 q5
     replace p5:=ezT p5
     replace q5:=ezT q5
     have HP7:=Kd.R_putg HO_0.out (x5_1:Int) x1_1
     go_wp2_with (first |((with_reducible refine jBb (t:=3) (p:=15) rfl ?_);refine jqb (t:=3) (p:=15) (v:=?vo_w8) (w1:=(wr.setCell ⟨go5,(x5_1:Int).toNat,none⟩ (.int .i64 x1_1))) ?hg ?ho ?hn ?hr ?_;(case ho=>rfl);(case hg=>rfl);(case hn=>rfl);(case hr=>exact Y4);intro w8 hw;have hg:wr.grownBy w8 (some go5):=(by rw [hw];exact HP7.2);have hp_:Kd.R (Kd.int .i64) 3 w8 w0.heap.size (fun k_=>(P0_ k_∨w.heap.size≤k_)) (.slice (some ⟨go5,0,none⟩) x0_1.length co6) y533:=(by rw [hw,Ny533.out];exact HP7.1);clear HP7;replace HB:=am ((by rw [hw];exact jw (HB.out) GB5.out:Below w0.heap.size w0 w8));replace HK:=am (Kept.jec (S:=(fun k_=>P0_ k_)) hg (Y7) (fun k_ e_=>(HO_0.out.1 k_ e_)));replace HO_0:=am (hp_);clear hg hw hp_))
     go_roundg k1
     case measure=>have:=HK1.out;omega
     case rel=>exact ⟨(y533),(wrap64 (x1_1+1)),(wrap64 (x5_1+1)),(sq),(sq),H',⟨by have:=HK1.out;omega⟩,⟨rq HO_0.out⟩,⟨Y7⟩,⟨bq⟩⟩
    ·rw [if_neg c4] at H
     exact absurd H (by simp)
   ·rw [if_neg c3] at H
    have c3b0:decide (x5_1<(x0_1.length:Int))=false:=dzF c3
    clear c3
    simp only [Option.some.injEq,Prod.mk.injEq] at H
    obtain ⟨rfl,rfl⟩:=H
    obtain ⟨Ao9,co9,eo9⟩:=Kd.jGa HO_0.out
    subst eo9
    go_wp2
    go_ret
    exact ⟨Y0,rq HO_0.out,bq,Y7⟩
def jfa.l0 : Nat → List Int → Int → Int → Option (Int)
 | 0,_,_,_=>none
 | k+1,x0,x1,x5=>if x5<(x0.length:Int) then (if 0≤x5 then (if (rd x0 x5)=x1 then (jfa.l0 k x0 (wrap64 (x1+1)) (wrap64 (x5+1))) else (some (-1))) else (none)) else (some x1)
def jfa.f (k : Nat) (l0 : List Int) (a1 : Int) : Option (Int) := jfa.l0 k l0 a1 0
set_option maxHeartbeats 8000000 in
set_option maxRecDepth 100000 in
theorem jfa.calls (k : Nat) (A0 : Option Addr) (c0 : Nat) (l0 : List Int) (a1 : Int) (r : Int) (w : World) (hr0 : Kd.C (Kd.int .i64) w A0 l0.length l0) (hc0 : l0.length ≤ c0) (h : jfa.f k l0 a1 = some r) :
  Calls Try.prog 24 #[.slice A0 l0.length c0, .int .i64 a1] w fun e w'=>e=.returned (.int .i64 r)∧jKa w w':=by
 have HR0:=am hr0
 have HC0:=am hc0
 clear hr0 hc0
 have H:(jfa.l0 k l0 a1 0)=some r:=h
 clear h
 have H':=am H
 clear H
 go_enter Try.func24,Try.ntmps24
 go_wp2
 go_loopg [1,5] k (fun kq v1 v5 w'=>∃ (x1_1:Int) (x5_1:Int),v1=.int .i64 x1_1∧v5=.int .i64 x5_1∧jk (jfa.l0 kq l0 x1_1 x5_1=some r)∧jk (kq≤k)∧jKa w w')
 case atStart=>exact ⟨(a1),(0),(sq),(sq),H',⟨Nat.le_refl _⟩,Y2⟩
 case round =>
  clear H'
  try clear c2
  try clear p2
  obtain ⟨x1_1,x5_1,rfl,rfl,HA,HK1,⟨m1,rfl⟩⟩:=hrel
  cases gk with
  | zero=>exact absurd HA.out (by simp [jfa.l0])
  | succ k1 =>
   have H:=HA.out
   clear HA
   simp only [jfa.l0] at H
   by_cases c3:x5_1<(l0.length:Int)
   ·rw [if_pos c3] at H
    have c3b0:decide (x5_1<(l0.length:Int))=true:=dzT c3
    clear c3
    by_cases c4:0≤x5_1
    ·rw [if_pos c4] at H
     have c4b0:decide (0≤x5_1)=true:=dzT c4
     clear c4
     by_cases c5:(rd l0 x5_1)=x1_1
     ·rw [if_pos c5] at H
      have c5b0:((rd l0 x5_1) == x1_1)=true:=beq_iff_eq.mpr c5
      have c5b1:((rd l0 x5_1) != x1_1)=false:=bne_eq_false_iff_eq.mpr c5
      clear c5
      have H':=am H
      clear H
      have p534:0≤(x5_1:Int):=ozD (uq)
      have q534:x5_1<(l0.length:Int):=ozD (uq)
      obtain ⟨ad534,e534,hx534_0⟩:=Kd.jcb HR0.out x5_1 p534 q534
      cases e534
      replace p534:=ezT p534
      replace q534:=ezT q534
      go_wp2
      go_roundg k1
      case measure=>have:=HK1.out;omega
      case rel=>exact ⟨(wrap64 (x1_1+1)),(wrap64 (x5_1+1)),(sq),(sq),H',⟨by have:=HK1.out;omega⟩,Y2⟩
     ·rw [if_neg c5] at H
      have c5b0:((rd l0 x5_1) == x1_1)=false:=beq_eq_false_iff_ne.mpr c5
      have c5b1:((rd l0 x5_1) != x1_1)=true:=bne_iff_ne.mpr c5
      obtain rfl:=Option.some.inj H
      have p534:0≤(x5_1:Int):=ozD (uq)
      have q534:x5_1<(l0.length:Int):=ozD (uq)
      obtain ⟨ad534,e534,hx534_0⟩:=Kd.jcb HR0.out x5_1 p534 q534
      cases e534
      replace p534:=ezT p534
      replace q534:=ezT q534
      go_wp2
      go_ret
      exact ⟨sq,Y2⟩
    ·rw [if_neg c4] at H
     exact absurd H (by simp)
   ·rw [if_neg c3] at H
    have c3b0:decide (x5_1<(l0.length:Int))=false:=dzF c3
    clear c3
    obtain rfl:=Option.some.inj H
    go_wp2
    go_ret
    exact ⟨sq,Y2⟩
def jf.j0 : Nat → List (S55) → List Int → List Int → Bool → List (S77) → Option (Bool)
 | 0,_,_,_,_,_=>none
 | k+1,x1,x6,x9,x63,x536000=>if x63=true then (some false) else ((jBa.f k x9 1).bind fun bt571=>((jfa.f k bt571.2 1).bind fun t573=>(if t573<0 then (some false) else (if t573=bt571.1 then ((jga.f k x536000).bind fun t574=>((jD.f k x1).bind fun t577=>((jka.f k t574 t577).bind fun t580=>((jJ.f k t580 x6).bind fun t583=>(if t583=true then ((jfa.f k bt571.2 1).bind fun t584=>(if t584<0 then (some false) else (if t584=bt571.1 then (some true) else (some false)))) else (some false)))))) else (some false)))))
def jf.f (k : Nat) (l0_0 : List (S77)) (l1 : List (S55)) : Option (Bool) := (jrb.f k l0_0 1048576).bind fun t536 => (if t536 < 0 then (some true) else ((jib.f l1 t536).bind fun t537 => (if t537 < 0 then (some true) else ((jga.f k l0_0).bind fun t538 => ((jD.f k l1).bind fun t541 => ((jl.f k t538 t541).bind fun t544 => ((jga.f k l0_0).bind fun t547 => ((jD.f k l1).bind fun t551 => ((jka.f k t547 t551).bind fun t554 => ((jJ.f k t554 t544).bind fun t557 => (if t557 = true then ((jga.f k l0_0).bind fun t558 => ((jQa.f k t547 t558).bind fun t561 => (if t561 = true then ((jD.f k l1).bind fun t562 => ((jN.f k t551 t562).bind fun t565 => (if t565 = true then ((jpa.f k t547 1).bind fun bt566 => ((jI.f k t551 bt566.1).bind fun bt568 => (if bt568.1 < 0 then (jf.j0 k l1 t544 t554 true l0_0) else ((jJ.f k t554 t544).bind fun t570 => (jf.j0 k l1 t544 t554 (!t570) l0_0))))) else (some false)))) else (some false)))) else (some false))))))))))))
set_option maxHeartbeats 8000000 in
set_option maxRecDepth 100000 in
theorem jf.calls (k : Nat) (A0_0 : Option Addr) (c0_0 : Nat) (l0_0 : List (S77)) (A1 : Option Addr) (c1 : Nat) (l1 : List (S55)) (r : Bool) (w : World) (hr0_0 : Kd.C k77 w A0_0 l0_0.length l0_0) (hc0_0 : l0_0.length ≤ c0_0) (hr1 : Kd.C k55 w A1 l1.length l1) (hc1 : l1.length ≤ c1) (hT : r = true) (h : jf.f k l0_0 l1 = some r) :
  Calls Try.prog 5 #[.agg #[.slice A0_0 l0_0.length c0_0], .slice A1 l1.length c1] w fun e w'=>e=.returned (.bool r)∧Below w.heap.size w w':=by
 have hu24:=Try.underlying24
 have hu32:=Try.underlying32
 have HR0_0:=am hr0_0
 have HC0_0:=am hc0_0
 clear hr0_0 hc0_0
 have HR1:=am hr1
 have HC1:=am hc1
 clear hr1 hc1
 have HB:=am (Below.refl w.heap.size w)
 have H:((jrb.f k l0_0 1048576).bind fun t536=>(if t536<0 then (some true) else ((jib.f l1 t536).bind fun t537=>(if t537<0 then (some true) else ((jga.f k l0_0).bind fun t538=>((jD.f k l1).bind fun t541=>((jl.f k t538 t541).bind fun t544=>((jga.f k l0_0).bind fun t547=>((jD.f k l1).bind fun t551=>((jka.f k t547 t551).bind fun t554=>((jJ.f k t554 t544).bind fun t557=>(if t557=true then ((jga.f k l0_0).bind fun t558=>((jQa.f k t547 t558).bind fun t561=>(if t561=true then ((jD.f k l1).bind fun t562=>((jN.f k t551 t562).bind fun t565=>(if t565=true then ((jpa.f k t547 1).bind fun bt566=>((jI.f k t551 bt566.1).bind fun bt568=>(if bt568.1<0 then (jf.j0 k l1 t544 t554 true l0_0) else ((jJ.f k t554 t544).bind fun t570=>(jf.j0 k l1 t544 t554 (!t570) l0_0))))) else (some false)))) else (some false)))) else (some false)))))))))))))=some r:=h
 clear h
 replace H:=bzS H
 obtain ⟨t536,A30,H⟩:=H
 replace H:(if t536<0 then (some true) else ((jib.f l1 t536).bind fun t537=>(if t537<0 then (some true) else ((jga.f k l0_0).bind fun t538=>((jD.f k l1).bind fun t541=>((jl.f k t538 t541).bind fun t544=>((jga.f k l0_0).bind fun t547=>((jD.f k l1).bind fun t551=>((jka.f k t547 t551).bind fun t554=>((jJ.f k t554 t544).bind fun t557=>(if t557=true then ((jga.f k l0_0).bind fun t558=>((jQa.f k t547 t558).bind fun t561=>(if t561=true then ((jD.f k l1).bind fun t562=>((jN.f k t551 t562).bind fun t565=>(if t565=true then ((jpa.f k t547 1).bind fun bt566=>((jI.f k t551 bt566.1).bind fun bt568=>(if bt568.1<0 then (jf.j0 k l1 t544 t554 true l0_0) else ((jJ.f k t554 t544).bind fun t570=>(jf.j0 k l1 t544 t554 (!t570) l0_0))))) else (some false)))) else (some false)))) else (some false))))))))))))=some r:=H
 have A3:=am A30
 clear A30
 by_cases c4:t536<0
 ·rw [if_pos c4] at H
  have c4b0:decide (t536<0)=true:=dzT c4
  clear c4
  obtain rfl:=Option.some.inj H
  go_enter Try.func5,Try.ntmps5
  go_wp2_with (first |((with_reducible refine jP (N:=2) rfl ?_);refine bE (N:=2) (cs:=#[.slice A0_0 l0_0.length c0_0]) (t:=24) ?_;intro gb535 hg w5 hbox hb;have BK535:=am (hbox);have GW535:=am ((Y1:w.heap.size≤gb535));have GE535:=am ((Y1:w.heap.size≤gb535));replace HB:=am (jd (bq) hb);clear hb hbox hg;have hcz6_0:=bc0 BK535.out;have hfz6_0:=ja BK535.out 0) |((with_reducible refine je (f:=7) rfl ?_);refine gL (some 16) Try.func7 #[.agg #[.slice A0_0 l0_0.length c0_0], .int .i64 1048576] ?_;(with_reducible refine (jrb.calls k _ _ l0_0 1048576 t536 _ ?side1 ?side2 A3.out).mono ?_);(case side1=>exact cq (Kd.jF HR0_0.out HB.out));(case side2=>exact HC0_0.out);rintro e w7 ⟨rfl,hb⟩;refine ⟨_,rfl,?_⟩;replace BK535:=am (jm (g:=gb535) (o:=.cells #[.slice A0_0 l0_0.length c0_0] 24 (0,0)) (kq BK535.out) hb);replace HB:=am (jd (Y10) hb);(try clear hb);(try clear hb2);(try clear hk);(try clear hi)))
  go_ret
  exact ⟨Y0,Y10⟩
 ·rw [if_neg c4] at H
  have c4b0:decide (t536<0)=false:=dzF c4
  clear c4
  replace H:=bzS H
  obtain ⟨t537,A80,H⟩:=H
  replace H:(if t537<0 then (some true) else ((jga.f k l0_0).bind fun t538=>((jD.f k l1).bind fun t541=>((jl.f k t538 t541).bind fun t544=>((jga.f k l0_0).bind fun t547=>((jD.f k l1).bind fun t551=>((jka.f k t547 t551).bind fun t554=>((jJ.f k t554 t544).bind fun t557=>(if t557=true then ((jga.f k l0_0).bind fun t558=>((jQa.f k t547 t558).bind fun t561=>(if t561=true then ((jD.f k l1).bind fun t562=>((jN.f k t551 t562).bind fun t565=>(if t565=true then ((jpa.f k t547 1).bind fun bt566=>((jI.f k t551 bt566.1).bind fun bt568=>(if bt568.1<0 then (jf.j0 k l1 t544 t554 true l0_0) else ((jJ.f k t554 t544).bind fun t570=>(jf.j0 k l1 t544 t554 (!t570) l0_0))))) else (some false)))) else (some false)))) else (some false))))))))))=some r:=H
  have A8:=am A80
  clear A80
  by_cases c9:t537<0
  ·rw [if_pos c9] at H
   have c9b0:decide (t537<0)=true:=dzT c9
   clear c9
   obtain rfl:=Option.some.inj H
   go_enter Try.func5,Try.ntmps5
   go_wp2_with (first |((with_reducible refine jP (N:=2) rfl ?_);refine bE (N:=2) (cs:=#[.slice A0_0 l0_0.length c0_0]) (t:=24) ?_;intro gb535 hg w10 hbox hb;have BK535:=am (hbox);have GW535:=am ((Y1:w.heap.size≤gb535));have GE535:=am ((Y1:w.heap.size≤gb535));replace HB:=am (jd (bq) hb);clear hb hbox hg;have hcz11_0:=bc0 BK535.out;have hfz11_0:=ja BK535.out 0) |((with_reducible refine je (f:=7) rfl ?_);refine gL (some 16) Try.func7 #[.agg #[.slice A0_0 l0_0.length c0_0], .int .i64 1048576] ?_;(with_reducible refine (jrb.calls k _ _ l0_0 1048576 t536 _ ?side1 ?side2 A3.out).mono ?_);(case side1=>exact cq (Kd.jF HR0_0.out HB.out));(case side2=>exact HC0_0.out);rintro e w12 ⟨rfl,hb⟩;refine ⟨_,rfl,?_⟩;replace BK535:=am (jm (g:=gb535) (o:=.cells #[.slice A0_0 l0_0.length c0_0] 24 (0,0)) (kq BK535.out) hb);replace HB:=am (jd (Y10) hb);(try clear hb);(try clear hb2);(try clear hk);(try clear hi)) |((with_reducible refine je (f:=8) rfl ?_);refine gL (some 21) Try.func8 #[.slice A1 l1.length c1, .int .i64 t536] ?_;(with_reducible refine (jib.calls _ _ l1 t536 t537 _ ?side1 ?side2 A8.out).mono ?_);(case side1=>exact cq (Kd.jF HR1.out HB.out));(case side2=>exact HC1.out);rintro e w' ⟨rfl,⟨nd,rfl⟩⟩;refine ⟨_,rfl,?_⟩))
   go_ret
   exact ⟨Y0,Y10⟩
  ·rw [if_neg c9] at H
   have c9b0:decide (t537<0)=false:=dzF c9
   clear c9
   replace H:=bzS H
   obtain ⟨t538,A130,H⟩:=H
   replace H:((jD.f k l1).bind fun t541=>((jl.f k t538 t541).bind fun t544=>((jga.f k l0_0).bind fun t547=>((jD.f k l1).bind fun t551=>((jka.f k t547 t551).bind fun t554=>((jJ.f k t554 t544).bind fun t557=>(if t557=true then ((jga.f k l0_0).bind fun t558=>((jQa.f k t547 t558).bind fun t561=>(if t561=true then ((jD.f k l1).bind fun t562=>((jN.f k t551 t562).bind fun t565=>(if t565=true then ((jpa.f k t547 1).bind fun bt566=>((jI.f k t551 bt566.1).bind fun bt568=>(if bt568.1<0 then (jf.j0 k l1 t544 t554 true l0_0) else ((jJ.f k t554 t544).bind fun t570=>(jf.j0 k l1 t544 t554 (!t570) l0_0))))) else (some false)))) else (some false)))) else (some false))))))))=some r:=H
   have A13:=am A130
   clear A130
   replace H:=bzS H
   obtain ⟨t541,A140,H⟩:=H
   replace H:((jl.f k t538 t541).bind fun t544=>((jga.f k l0_0).bind fun t547=>((jD.f k l1).bind fun t551=>((jka.f k t547 t551).bind fun t554=>((jJ.f k t554 t544).bind fun t557=>(if t557=true then ((jga.f k l0_0).bind fun t558=>((jQa.f k t547 t558).bind fun t561=>(if t561=true then ((jD.f k l1).bind fun t562=>((jN.f k t551 t562).bind fun t565=>(if t565=true then ((jpa.f k t547 1).bind fun bt566=>((jI.f k t551 bt566.1).bind fun bt568=>(if bt568.1<0 then (jf.j0 k l1 t544 t554 true l0_0) else ((jJ.f k t554 t544).bind fun t570=>(jf.j0 k l1 t544 t554 (!t570) l0_0))))) else (some false)))) else (some false)))) else (some false)))))))=some r:=H
   have A14:=am A140
   clear A140
   replace H:=bzS H
   obtain ⟨t544,A150,H⟩:=H
   replace H:((jga.f k l0_0).bind fun t547=>((jD.f k l1).bind fun t551=>((jka.f k t547 t551).bind fun t554=>((jJ.f k t554 t544).bind fun t557=>(if t557=true then ((jga.f k l0_0).bind fun t558=>((jQa.f k t547 t558).bind fun t561=>(if t561=true then ((jD.f k l1).bind fun t562=>((jN.f k t551 t562).bind fun t565=>(if t565=true then ((jpa.f k t547 1).bind fun bt566=>((jI.f k t551 bt566.1).bind fun bt568=>(if bt568.1<0 then (jf.j0 k l1 t544 t554 true l0_0) else ((jJ.f k t554 t544).bind fun t570=>(jf.j0 k l1 t544 t554 (!t570) l0_0))))) else (some false)))) else (some false)))) else (some false))))))=some r:=H
   have A15:=am A150
   clear A150
   replace H:=bzS H
   obtain ⟨t547,A160,H⟩:=H
   replace H:((jD.f k l1).bind fun t551=>((jka.f k t547 t551).bind fun t554=>((jJ.f k t554 t544).bind fun t557=>(if t557=true then ((jga.f k l0_0).bind fun t558=>((jQa.f k t547 t558).bind fun t561=>(if t561=true then ((jD.f k l1).bind fun t562=>((jN.f k t551 t562).bind fun t565=>(if t565=true then ((jpa.f k t547 1).bind fun bt566=>((jI.f k t551 bt566.1).bind fun bt568=>(if bt568.1<0 then (jf.j0 k l1 t544 t554 true l0_0) else ((jJ.f k t554 t544).bind fun t570=>(jf.j0 k l1 t544 t554 (!t570) l0_0))))) else (some false)))) else (some false)))) else (some false)))))=some r:=H
   have A16:=am A160
   clear A160
   replace H:=bzS H
   obtain ⟨t551,A170,H⟩:=H
   replace H:((jka.f k t547 t551).bind fun t554=>((jJ.f k t554 t544).bind fun t557=>(if t557=true then ((jga.f k l0_0).bind fun t558=>((jQa.f k t547 t558).bind fun t561=>(if t561=true then ((jD.f k l1).bind fun t562=>((jN.f k t551 t562).bind fun t565=>(if t565=true then ((jpa.f k t547 1).bind fun bt566=>((jI.f k t551 bt566.1).bind fun bt568=>(if bt568.1<0 then (jf.j0 k l1 t544 t554 true l0_0) else ((jJ.f k t554 t544).bind fun t570=>(jf.j0 k l1 t544 t554 (!t570) l0_0))))) else (some false)))) else (some false)))) else (some false))))=some r:=H
   have A17:=am A170
   clear A170
   replace H:=bzS H
   obtain ⟨t554,A180,H⟩:=H
   replace H:((jJ.f k t554 t544).bind fun t557=>(if t557=true then ((jga.f k l0_0).bind fun t558=>((jQa.f k t547 t558).bind fun t561=>(if t561=true then ((jD.f k l1).bind fun t562=>((jN.f k t551 t562).bind fun t565=>(if t565=true then ((jpa.f k t547 1).bind fun bt566=>((jI.f k t551 bt566.1).bind fun bt568=>(if bt568.1<0 then (jf.j0 k l1 t544 t554 true l0_0) else ((jJ.f k t554 t544).bind fun t570=>(jf.j0 k l1 t544 t554 (!t570) l0_0))))) else (some false)))) else (some false)))) else (some false)))=some r:=H
   have A18:=am A180
   clear A180
   replace H:=bzS H
   obtain ⟨t557,A190,H⟩:=H
   replace H:(if t557=true then ((jga.f k l0_0).bind fun t558=>((jQa.f k t547 t558).bind fun t561=>(if t561=true then ((jD.f k l1).bind fun t562=>((jN.f k t551 t562).bind fun t565=>(if t565=true then ((jpa.f k t547 1).bind fun bt566=>((jI.f k t551 bt566.1).bind fun bt568=>(if bt568.1<0 then (jf.j0 k l1 t544 t554 true l0_0) else ((jJ.f k t554 t544).bind fun t570=>(jf.j0 k l1 t544 t554 (!t570) l0_0))))) else (some false)))) else (some false)))) else (some false))=some r:=H
   have A19:=am A190
   clear A190
   by_cases c20:t557=true
   ·subst c20
    have H1:((jga.f k l0_0).bind fun t558=>((jQa.f k t547 t558).bind fun t561=>(if t561=true then ((jD.f k l1).bind fun t562=>((jN.f k t551 t562).bind fun t565=>(if t565=true then ((jpa.f k t547 1).bind fun bt566=>((jI.f k t551 bt566.1).bind fun bt568=>(if bt568.1<0 then (jf.j0 k l1 t544 t554 true l0_0) else ((jJ.f k t554 t544).bind fun t570=>(jf.j0 k l1 t544 t554 (!t570) l0_0))))) else (some false)))) else (some false))))=some r:=by rw [if_pos rfl] at H;exact H
    clear H
    have H:=H1
    clear H1
    replace H:=bzS H
    obtain ⟨t558,A210,H⟩:=H
    replace H:((jQa.f k t547 t558).bind fun t561=>(if t561=true then ((jD.f k l1).bind fun t562=>((jN.f k t551 t562).bind fun t565=>(if t565=true then ((jpa.f k t547 1).bind fun bt566=>((jI.f k t551 bt566.1).bind fun bt568=>(if bt568.1<0 then (jf.j0 k l1 t544 t554 true l0_0) else ((jJ.f k t554 t544).bind fun t570=>(jf.j0 k l1 t544 t554 (!t570) l0_0))))) else (some false)))) else (some false)))=some r:=H
    have A21:=am A210
    clear A210
    replace H:=bzS H
    obtain ⟨t561,A220,H⟩:=H
    replace H:(if t561=true then ((jD.f k l1).bind fun t562=>((jN.f k t551 t562).bind fun t565=>(if t565=true then ((jpa.f k t547 1).bind fun bt566=>((jI.f k t551 bt566.1).bind fun bt568=>(if bt568.1<0 then (jf.j0 k l1 t544 t554 true l0_0) else ((jJ.f k t554 t544).bind fun t570=>(jf.j0 k l1 t544 t554 (!t570) l0_0))))) else (some false)))) else (some false))=some r:=H
    have A22:=am A220
    clear A220
    by_cases c23:t561=true
    ·subst c23
     have H1:((jD.f k l1).bind fun t562=>((jN.f k t551 t562).bind fun t565=>(if t565=true then ((jpa.f k t547 1).bind fun bt566=>((jI.f k t551 bt566.1).bind fun bt568=>(if bt568.1<0 then (jf.j0 k l1 t544 t554 true l0_0) else ((jJ.f k t554 t544).bind fun t570=>(jf.j0 k l1 t544 t554 (!t570) l0_0))))) else (some false))))=some r:=by rw [if_pos rfl] at H;exact H
     clear H
     have H:=H1
     clear H1
     replace H:=bzS H
     obtain ⟨t562,A240,H⟩:=H
     replace H:((jN.f k t551 t562).bind fun t565=>(if t565=true then ((jpa.f k t547 1).bind fun bt566=>((jI.f k t551 bt566.1).bind fun bt568=>(if bt568.1<0 then (jf.j0 k l1 t544 t554 true l0_0) else ((jJ.f k t554 t544).bind fun t570=>(jf.j0 k l1 t544 t554 (!t570) l0_0))))) else (some false)))=some r:=H
     have A24:=am A240
     clear A240
     replace H:=bzS H
     obtain ⟨t565,A250,H⟩:=H
     replace H:(if t565=true then ((jpa.f k t547 1).bind fun bt566=>((jI.f k t551 bt566.1).bind fun bt568=>(if bt568.1<0 then (jf.j0 k l1 t544 t554 true l0_0) else ((jJ.f k t554 t544).bind fun t570=>(jf.j0 k l1 t544 t554 (!t570) l0_0))))) else (some false))=some r:=H
     have A25:=am A250
     clear A250
     by_cases c26:t565=true
     ·subst c26
      have H1:((jpa.f k t547 1).bind fun bt566=>((jI.f k t551 bt566.1).bind fun bt568=>(if bt568.1<0 then (jf.j0 k l1 t544 t554 true l0_0) else ((jJ.f k t554 t544).bind fun t570=>(jf.j0 k l1 t544 t554 (!t570) l0_0)))))=some r:=by rw [if_pos rfl] at H;exact H
      clear H
      have H:=H1
      clear H1
      replace H:=bzS H
      obtain ⟨⟨t566,t567⟩,A270,H⟩:=H
      replace H:((jI.f k t551 t566).bind fun bt568=>(if bt568.1<0 then (jf.j0 k l1 t544 t554 true l0_0) else ((jJ.f k t554 t544).bind fun t570=>(jf.j0 k l1 t544 t554 (!t570) l0_0))))=some r:=H
      have A27:=am A270
      clear A270
      replace H:=bzS H
      obtain ⟨⟨t568,t569⟩,A280,H⟩:=H
      replace H:(if t568<0 then (jf.j0 k l1 t544 t554 true l0_0) else ((jJ.f k t554 t544).bind fun t570=>(jf.j0 k l1 t544 t554 (!t570) l0_0)))=some r:=H
      have A28:=am A280
      clear A280
      have HC29:=am H
      clear H
      go_enter Try.func5,Try.ntmps5
      try go_wp2_with (first |((with_reducible refine jP (N:=2) rfl ?_);refine bE (N:=2) (cs:=#[.slice A0_0 l0_0.length c0_0]) (t:=24) ?_;intro gb535 hg w30 hbox hb;have BK535:=am (hbox);have GW535:=am ((Y1:w.heap.size≤gb535));have GE535:=am ((Y1:w.heap.size≤gb535));replace HB:=am (jd (bq) hb);clear hb hbox hg;have hcz31_0:=bc0 BK535.out;have hfz31_0:=ja BK535.out 0) |((with_reducible refine je (f:=7) rfl ?_);refine gL (some 16) Try.func7 #[.agg #[.slice A0_0 l0_0.length c0_0], .int .i64 1048576] ?_;(with_reducible refine (jrb.calls k _ _ l0_0 1048576 t536 _ ?side1 ?side2 A3.out).mono ?_);(case side1=>exact cq (Kd.jF HR0_0.out HB.out));(case side2=>exact HC0_0.out);rintro e w32 ⟨rfl,hb⟩;refine ⟨_,rfl,?_⟩;replace BK535:=am (jm (g:=gb535) (o:=.cells #[.slice A0_0 l0_0.length c0_0] 24 (0,0)) (kq BK535.out) hb);replace HB:=am (jd (Y10) hb);(try clear hb);(try clear hb2);(try clear hk);(try clear hi)) |((with_reducible refine je (f:=8) rfl ?_);refine gL (some 21) Try.func8 #[.slice A1 l1.length c1, .int .i64 t536] ?_;(with_reducible refine (jib.calls _ _ l1 t536 t537 _ ?side1 ?side2 A8.out).mono ?_);(case side1=>exact cq (Kd.jF HR1.out HB.out));(case side2=>exact HC1.out);rintro e w' ⟨rfl,⟨nd,rfl⟩⟩;refine ⟨_,rfl,?_⟩;(try (rw [drewN_self w32];generalize hq_:World.drewN w32 _=w32;have n0_:jk (w32.heap[gb535]?=some (.cells #[.slice A0_0 l0_0.length c0_0] 24 (0,0))):=⟨by rw [← hq_];exact (kq BK535.out)⟩;have n1_:jk (Below w.heap.size w w32):=⟨by rw [← hq_];exact (Y10)⟩;clear BK535 HB hq_;have BK535:=n0_;have HB:=n1_;clear n0_ n1_));have hcz33_0:=bc0 BK535.out;have hfz33_0:=ja BK535.out 0) |((with_reducible refine je (f:=10) rfl ?_);refine gL (some 25) Try.func10 #[.agg #[.slice A0_0 l0_0.length c0_0]] ?_;(with_reducible refine (jga.calls k _ _ l0_0 t538 _ ?side1 ?side2 A13.out).mono ?_);(case side1=>exact cq (Kd.jF HR0_0.out HB.out));(case side2=>exact HC0_0.out);rintro e w34 ⟨v539,rfl,ho0,hb⟩;refine ⟨_,rfl,?_⟩;have HO540:=am (Kd.jRa ho0 (jH (Y10)));replace BK535:=am (jm (g:=gb535) (o:=.cells #[.slice A0_0 l0_0.length c0_0] 24 (0,0)) (kq BK535.out) hb);replace HB:=am (jd (Y10) hb);(try clear hb);(try clear hb2);(try clear hk);(try clear hi);(try clear ho0)) |((with_reducible refine je (f:=11) rfl ?_);refine gL (some 27) Try.func11 #[.slice A1 l1.length c1] ?_;(with_reducible refine (jD.calls k _ _ l1 t541 _ ?side1 ?side2 A14.out).mono ?_);(case side1=>exact cq (Kd.jF HR1.out HB.out));(case side2=>exact HC1.out);rintro e w35 ⟨v542,rfl,ho0,hb⟩;refine ⟨_,rfl,?_⟩;have HO543:=am (Kd.jRa ho0 (jH (Y10)));replace HO540:=am (Kd.jX (rq HO540.out) hb);replace BK535:=am (jm (g:=gb535) (o:=.cells #[.slice A0_0 l0_0.length c0_0] 24 (0,0)) (kq BK535.out) hb);replace HB:=am (jd (Y10) hb);(try clear hb);(try clear hb2);(try clear hk);(try clear hi);(try clear ho0);obtain ⟨Ao36,co36,eo36⟩:=Kd.jGa HO540.out;subst eo36;obtain ⟨Ao37,co37,eo37⟩:=Kd.jGa HO543.out;subst eo37) |((with_reducible refine je (f:=20) rfl ?_);refine gL (some 28) Try.func20 #[.agg #[.slice Ao36 t538.length co36], .slice Ao37 t541.length co37] ?_;(with_reducible refine (jl.calls k _ _ t538 _ _ t541 t544 _ ?side1 ?side2 ?side3 ?side4 A15.out).mono ?_);(case side1=>exact cq (Kd.jA HO540.out).2.2);(case side2=>exact (Kd.jA HO540.out).2.1);(case side3=>exact cq (Kd.jA HO543.out).2.2);(case side4=>exact (Kd.jA HO543.out).2.1);rintro e w38 ⟨v545,rfl,ho0,hb⟩;refine ⟨_,rfl,?_⟩;have HO546:=am (Kd.jRa ho0 (jH (Y10)));replace HO540:=am (Kd.jX (rq HO540.out) hb);replace HO543:=am (Kd.jX (rq HO543.out) hb);replace BK535:=am (jm (g:=gb535) (o:=.cells #[.slice A0_0 l0_0.length c0_0] 24 (0,0)) (kq BK535.out) hb);replace HB:=am (jd (Y10) hb);(try clear hb);(try clear hb2);(try clear hk);(try clear hi);(try clear ho0);have hcz39_0:=bc0 BK535.out;have hfz39_0:=ja BK535.out 0) |((with_reducible refine je (f:=10) rfl ?_);refine gL (some 30) Try.func10 #[.agg #[.slice A0_0 l0_0.length c0_0]] ?_;(with_reducible refine (jga.calls k _ _ l0_0 t547 _ ?side1 ?side2 A16.out).mono ?_);(case side1=>exact cq (Kd.jF HR0_0.out HB.out));(case side2=>exact HC0_0.out);rintro e w40 ⟨v548,rfl,ho0,hb⟩;refine ⟨_,rfl,?_⟩;have HO549:=am (Kd.jRa (Kd.jlc ho0 (Kd.R_lt (rq HO540.out))) (jH (Y10)));replace HO540:=am (Kd.jCb (rq HO540.out) (Kd.jmc ho0) hb);replace HO543:=am (Kd.jX (rq HO543.out) hb);replace HO546:=am (Kd.jX (rq HO546.out) hb);replace BK535:=am (jm (g:=gb535) (o:=.cells #[.slice A0_0 l0_0.length c0_0] 24 (0,0)) (kq BK535.out) hb);replace HB:=am (jd (Y10) hb);(try clear hb);(try clear hb2);(try clear hk);(try clear hi);(try clear ho0)) |((with_reducible refine jP (N:=7) rfl ?_);refine bE (N:=7) (cs:=#[.slice none 0 0]) (t:=32) ?_;intro gb550 hg w41 hbox hb;have BK550:=am (hbox);have GW550:=am ((Y57:w.heap.size≤gb550));have GE550:=am ((Y57:w.heap.size≤gb550));have NB535_550:=am ((by rw [hg];exact Nat.ne_of_lt (jVa (g:=gb535) (o:=.cells #[.slice A0_0 l0_0.length c0_0] 24 (0,0)) (kq BK535.out)):gb535≠gb550));have NB550_535:=am ((by rw [hg];exact Nat.ne_of_gt (jVa (g:=gb535) (o:=.cells #[.slice A0_0 l0_0.length c0_0] 24 (0,0)) (kq BK535.out)):gb550≠gb535));replace HO540:=am (Kd.jX (rq HO540.out) hb);replace HO543:=am (Kd.jX (rq HO543.out) hb);replace HO546:=am (Kd.jX (rq HO546.out) hb);replace HO549:=am (Kd.jX (rq HO549.out) hb);replace BK535:=am (jm (g:=gb535) (o:=.cells #[.slice A0_0 l0_0.length c0_0] 24 (0,0)) (kq BK535.out) hb);replace HB:=am (jd (Y10) hb);clear hb hbox hg;obtain ⟨Ao42,co42,eo42⟩:=Kd.jGa HO549.out;subst eo42;have hnb43:=NB550_535.out;have hnc43:=NB535_550.out;have hcz44_0:=bc0 BK550.out;have hfz44_0:=ja BK550.out 0) |((with_reducible refine je (f:=11) rfl ?_);refine gL (some 32) Try.func11 #[.slice A1 l1.length c1] ?_;(with_reducible refine (jD.calls k _ _ l1 t551 _ ?side1 ?side2 A17.out).mono ?_);(case side1=>exact Kd.jF HR1.out (Y3));(case side2=>exact HC1.out);rintro e w45 ⟨v552,rfl,ho0,hb⟩;refine ⟨_,rfl,?_⟩;have HO553:=am (Kd.jRa (Kd.jlc ho0 (Kd.R_lt (Y58))) (jH (Y3)));replace HO540:=am (Kd.jX (by (with_reducible repeat (first | apply Kd.jzb | apply Kd.jyb | apply Kd.jsb));exact (Kd.jSa (Kd.R_far (p:=⟨gb550,0,none⟩) (Kd.R_types HO540.out BK550.out (by decide)) (fun _ hk=>hk.2) (.slice Ao42 t547.length co42)) (fun _ h_=>h_.1))) hb);replace HO543:=am (Kd.jCb (Y58) (Kd.jmc ho0) hb);replace HO546:=am (Kd.jX (by (with_reducible repeat (first | apply Kd.jzb | apply Kd.jyb | apply Kd.jsb));exact (Kd.jSa (Kd.R_far (p:=⟨gb550,0,none⟩) (Kd.R_types HO546.out BK550.out (by decide)) (fun _ hk=>hk.2) (.slice Ao42 t547.length co42)) (fun _ h_=>h_.1))) hb);replace HO549:=am (Kd.jX (by (with_reducible repeat (first | apply Kd.jzb | apply Kd.jyb | apply Kd.jsb));exact (Kd.jSa (Kd.R_far (p:=⟨gb550,0,none⟩) (Kd.R_types HO549.out BK550.out (by decide)) (fun _ hk=>hk.2) (.slice Ao42 t547.length co42)) (fun _ h_=>h_.1))) hb);replace BK535:=am (jm (g:=gb535) (o:=.cells #[.slice A0_0 l0_0.length c0_0] 24 (0,0)) (by (with_reducible repeat (first | refine jea ?_ _ | refine jta ?_ | refine joa ?_ _));refine jMb ?_ NB535_550.out _;(with_reducible repeat (first | refine jea ?_ _ | refine jta ?_ | refine joa ?_ _));exact BK535.out) hb);replace BK550:=am (jm (g:=gb550) (o:=.cells #[.slice Ao42 t547.length co42] 32 (0,0)) (by (with_reducible repeat (first | refine jea ?_ _ | refine jta ?_ | refine joa ?_ _));refine jLb (cs:=#[.slice none 0 0]) ?_ 0 _ rfl;(with_reducible repeat (first | refine jea ?_ _ | refine jta ?_ | refine joa ?_ _));exact BK550.out) hb);replace HB:=am (jd (Y3) hb);(try clear hb);(try clear hb2);(try clear hk);(try clear hi);(try clear ho0);have hcz46_0:=bc0 BK550.out;have hfz46_0:=ja BK550.out 0;obtain ⟨Ao47,co47,eo47⟩:=Kd.jGa HO553.out;subst eo47) |((with_reducible refine je (f:=21) rfl ?_);refine gL (some 35) Try.func21 #[.agg #[.slice Ao42 t547.length co42], .slice Ao47 t551.length co47] ?_;(with_reducible refine (jka.calls k _ _ t547 _ _ t551 t554 _ ?side1 ?side2 ?side3 ?side4 A18.out).mono ?_);(case side1=>exact cq (Kd.jA HO549.out).2.2);(case side2=>exact (Kd.jA HO549.out).2.1);(case side3=>exact cq (Kd.jA HO553.out).2.2);(case side4=>exact (Kd.jA HO553.out).2.1);rintro e w48 ⟨v555,rfl,ho0,hb⟩;refine ⟨_,rfl,?_⟩;have HO556:=am (Kd.jRa (Kd.jlc ho0 (Kd.R_lt (rq HO546.out))) (jH (Y3)));replace HO540:=am (Kd.jX (rq HO540.out) hb);replace HO543:=am (Kd.jX (rq HO543.out) hb);replace HO546:=am (Kd.jCb (rq HO546.out) (Kd.jmc ho0) hb);replace HO549:=am (Kd.jX (rq HO549.out) hb);replace HO553:=am (Kd.jX (rq HO553.out) hb);replace BK535:=am (jm (g:=gb535) (o:=.cells #[.slice A0_0 l0_0.length c0_0] 24 (0,0)) (kq BK535.out) hb);replace BK550:=am (jm (g:=gb550) (o:=.cells #[.slice Ao42 t547.length co42] 32 (0,0)) (kq BK550.out) hb);replace HB:=am (jd (Y3) hb);(try clear hb);(try clear hb2);(try clear hk);(try clear hi);(try clear ho0);obtain ⟨Ao49,co49,eo49⟩:=Kd.jGa HO556.out;subst eo49;obtain ⟨Ao50,co50,eo50⟩:=Kd.jGa HO546.out;subst eo50) |((with_reducible refine je (f:=22) rfl ?_);refine gL (some 38) Try.func22 #[.slice Ao49 t554.length co49, .slice Ao50 t544.length co50] ?_;(with_reducible refine (jJ.calls k _ _ t554 _ _ t544 true _ ?side1 ?side2 ?side3 ?side4 A19.out).mono ?_);(case side1=>exact cq (Kd.jA HO556.out).2.2);(case side2=>exact (Kd.jA HO556.out).2.1);(case side3=>exact cq (Kd.jA HO546.out).2.2);(case side4=>exact (Kd.jA HO546.out).2.1);rintro e w' ⟨rfl,⟨nd,rfl⟩⟩;refine ⟨_,rfl,?_⟩))
      (try (rw [drewN_self w48];generalize hq_:World.drewN w48 _=w48;have n0_:jk (Kd.R k78 78 w48 w.heap.size (fun k_=>(True∧some k_≠(.slice Ao42 t547.length co42:Value).ownBlock)) (.slice Ao36 t538.length co36) t538):=⟨by rw [← hq_];exact (rq HO540.out)⟩;have n1_:jk (Kd.R k52 52 w48 w.heap.size (fun k_=>(True∧some k_≠(.slice Ao47 t551.length co47:Value).ownBlock)) (.slice Ao37 t541.length co37) t541):=⟨by rw [← hq_];exact (rq HO543.out)⟩;have n2_:jk (Kd.R (Kd.int .i64) 3 w48 w.heap.size (fun k_=>(True∧some k_≠(.slice Ao49 t554.length co49:Value).ownBlock)) (.slice Ao50 t544.length co50) t544):=⟨by rw [← hq_];exact (rq HO546.out)⟩;have n3_:jk (Kd.R k78 78 w48 w.heap.size (fun k_=>(True∧some k_≠(.slice Ao36 t538.length co36:Value).ownBlock)) (.slice Ao42 t547.length co42) t547):=⟨by rw [← hq_];exact (rq HO549.out)⟩;have n4_:jk (Kd.R k52 52 w48 w.heap.size (fun k_=>(True∧some k_≠(.slice Ao37 t541.length co37:Value).ownBlock)) (.slice Ao47 t551.length co47) t551):=⟨by rw [← hq_];exact (rq HO553.out)⟩;have n5_:jk (Kd.R (Kd.int .i64) 3 w48 w.heap.size (fun k_=>(True∧some k_≠(.slice Ao50 t544.length co50:Value).ownBlock)) (.slice Ao49 t554.length co49) t554):=⟨by rw [← hq_];exact (rq HO556.out)⟩;have n6_:jk (w48.heap[gb535]?=some (.cells #[.slice A0_0 l0_0.length c0_0] 24 (0,0))):=⟨by rw [← hq_];exact (kq BK535.out)⟩;have n7_:jk (w48.heap[gb550]?=some (.cells #[.slice Ao42 t547.length co42] 32 (0,0))):=⟨by rw [← hq_];exact (kq BK550.out)⟩;have n8_:jk (Below w.heap.size w w48):=⟨by rw [← hq_];exact (Y3)⟩;clear HO540 HO543 HO546 HO549 HO553 HO556 BK535 BK550 HB hq_;have HO540:=n0_;have HO543:=n1_;have HO546:=n2_;have HO549:=n3_;have HO553:=n4_;have HO556:=n5_;have BK535:=n6_;have BK550:=n7_;have HB:=n8_;clear n0_ n1_ n2_ n3_ n4_ n5_ n6_ n7_ n8_))
      replace HO540:=am (Kd.jsb HO540.out)
      replace HO543:=am (Kd.jsb HO543.out)
      replace HO546:=am (Kd.jsb HO546.out)
      replace HO549:=am (Kd.jsb HO549.out)
      replace HO553:=am (Kd.jsb HO553.out)
      replace HO556:=am (Kd.jsb HO556.out)
      replace BK535:=am (jta BK535.out)
      replace BK550:=am (jta BK550.out)
      replace HB:=am (jr HB.out)
      refine start_ (n:=5) (S:=fun w'=>w'.cell? ⟨gb550,0,none⟩=some (.slice Ao42 t547.length co42)∧w'.cell? ⟨gb535,0,none⟩=some (.slice A0_0 l0_0.length c0_0)) (ds:=[]) #[false,false,false,false,false] (by kernel_rfl) rfl rfl ⟨(jDa BK550.out 0).trans rfl,(jDa BK535.out 0).trans rfl⟩ (fun hHeld=>?_)
      generalize w48.drew=w51 at HO540 HO543 HO546 HO549 HO553 HO556 BK535 BK550 HB hHeld ⊢
      refine jic (i:=0) (N:=some 40) (v:=?_) (a':=?_) #[true,false,false,false,false] rfl rfl (by kernel_rfl) (fun _ _ _ h=>h) (Or.inl ⟨by rfl,?_⟩) hHeld ?_ ?_
      rotate_left
      ·rintro w' ⟨s0,s1⟩
       go_simp
       with_reducible rfl
      rotate_left
      ·exact sa
      refine jic (i:=1) (N:=some 41) (v:=?_) (a':=?_) #[true,true,false,false,false] rfl rfl (by kernel_rfl) (fun _ _ _ h=>h) (Or.inl ⟨by rfl,?_⟩) hHeld ?_ ?_
      rotate_left
      ·rintro w' ⟨s0,s1⟩
       go_simp
       with_reducible rfl
      rotate_left
      ·exact sa
      refine one_ (i:=2) (N:=some 42) #[true,true,true,false,false] rfl rfl (by kernel_rfl) (by decide) (fun K hK=>?_)
      refine goes_ Try.func10 (by kernel_rfl) rfl #[.agg #[.slice A0_0 l0_0.length c0_0]] (by rfl) rfl rfl (aq) ?_
      with_reducible refine (jga.calls k _ _ l0_0 t558 _ ?side1 ?side2 A21.out).mono ?_
      (case side1=>exact cq (Kd.jF HR0_0.out HB.out))
      (case side2=>exact HC0_0.out)
      rintro e w52 ⟨v559,rfl,ho0,hb⟩
      refine ⟨_,rfl,?_⟩
      have HO560:=am (Kd.jRa (Kd.jlc (Kd.jlc ho0 (Kd.R_lt (rq HO540.out))) (Kd.R_lt (rq HO549.out))) (jH (Y3)))
      replace HO540:=am (Kd.jCb (rq HO540.out) (Kd.jmc ho0) hb)
      replace HO543:=am (Kd.jX (rq HO543.out) hb)
      replace HO546:=am (Kd.jX (rq HO546.out) hb)
      replace HO549:=am (Kd.jCb (rq HO549.out) (Kd.jmc ho0) hb)
      replace HO553:=am (Kd.jX (rq HO553.out) hb)
      replace HO556:=am (Kd.jX (rq HO556.out) hb)
      replace BK535:=am (jm (g:=gb535) (o:=.cells #[.slice A0_0 l0_0.length c0_0] 24 (0,0)) (kq BK535.out) hb)
      replace BK550:=am (jm (g:=gb550) (o:=.cells #[.slice Ao42 t547.length co42] 32 (0,0)) (kq BK550.out) hb)
      replace HB:=am (jd (Y3) hb)
      (try clear hb)
      (try clear hb2)
      (try clear hk)
      (try clear hi)
      (try clear ho0)
      obtain ⟨Ao53,co53,eo53⟩:=Kd.jGa HO560.out
      (first | subst eo53 |(injection eo53 with f1_ f2_ f3_;have f4_:=f1_.symm;have f5_:=f3_.symm;clear f1_ f2_ f3_;subst f4_;subst f5_))
      refine hK.out _ _ ⟨(jDa BK550.out 0).trans rfl,(jDa BK535.out 0).trans rfl⟩ (fun hHeld=>?_)
      clear hK K
      refine norm_ (a':=?_) ?_ ?_
      rotate_left
      ·show Act.put _ (some 42) _=_
       simp only [Act.put,List.setIfInBounds_toArray,List.set_cons_zero,List.set_cons_succ,jub,jvb]
       rfl
      refine one_ (i:=3) (N:=some 43) #[true,true,true,true,false] rfl rfl (by kernel_rfl) (by decide) (fun K hK=>?_)
      refine goes_ Try.func14 (by kernel_rfl) rfl #[.agg #[.slice Ao42 t547.length co42], .agg #[.slice Ao53 t558.length co53]] (by rfl) rfl rfl (aq) ?_
      with_reducible refine (jQa.calls k _ _ t547 _ _ t558 true _ ?side1 ?side2 ?side3 ?side4 A22.out).mono ?_
      (case side1=>exact cq (Kd.jA HO549.out).2.2)
      (case side2=>exact (Kd.jA HO549.out).2.1)
      (case side3=>exact cq (Kd.jA HO560.out).2.2)
      (case side4=>exact (Kd.jA HO560.out).2.1)
      rintro e w54 ⟨rfl,hb⟩
      refine ⟨_,rfl,?_⟩
      replace HO540:=am (Kd.jX (rq HO540.out) hb)
      replace HO543:=am (Kd.jX (rq HO543.out) hb)
      replace HO546:=am (Kd.jX (rq HO546.out) hb)
      replace HO549:=am (Kd.jX (rq HO549.out) hb)
      replace HO553:=am (Kd.jX (rq HO553.out) hb)
      replace HO556:=am (Kd.jX (rq HO556.out) hb)
      replace HO560:=am (Kd.jX (rq HO560.out) hb)
      replace BK535:=am (jm (g:=gb535) (o:=.cells #[.slice A0_0 l0_0.length c0_0] 24 (0,0)) (kq BK535.out) hb)
      replace BK550:=am (jm (g:=gb550) (o:=.cells #[.slice Ao42 t547.length co42] 32 (0,0)) (kq BK550.out) hb)
      replace HB:=am (jd (Y3) hb)
      (try clear hb)
      (try clear hb2)
      (try clear hk)
      (try clear hi)
      refine hK.out _ _ ⟨(jDa BK550.out 0).trans rfl,(jDa BK535.out 0).trans rfl⟩ (fun hHeld=>?_)
      clear hK K
      refine norm_ (a':=?_) ?_ ?_
      rotate_left
      ·show Act.put _ (some 43) _=_
       simp only [Act.put,List.setIfInBounds_toArray,List.set_cons_zero,List.set_cons_succ,jub,jvb]
       rfl
      refine pure_ (i:=4) (N:=some 44) (v:=?_) (a':=?_) #[true,true,true,true,true] rfl rfl (by kernel_rfl) (fun _ _ _ h=>h) (Or.inl ⟨by rfl,?_⟩) ?_ ?_
      rotate_left
      ·exact sb
      rotate_left
      ·exact sa
      refine done_ (by kernel_rfl) ?_
      go_upto_region 21 with (first |((with_reducible refine je (f:=11) rfl ?_);refine gL (some 47) Try.func11 #[.slice A1 l1.length c1] ?_;(with_reducible refine (jD.calls k _ _ l1 t562 _ ?side1 ?side2 A24.out).mono ?_);(case side1=>exact cq (Kd.jF HR1.out HB.out));(case side2=>exact HC1.out);rintro e w55 ⟨v563,rfl,ho0,hb⟩;refine ⟨_,rfl,?_⟩;have HO564:=am (Kd.jRa (Kd.jlc (Kd.jlc ho0 (Kd.R_lt (rq HO543.out))) (Kd.R_lt (rq HO553.out))) (jH (Y3)));replace HO540:=am (Kd.jX (rq HO540.out) hb);replace HO543:=am (Kd.jCb (rq HO543.out) (Kd.jmc ho0) hb);replace HO546:=am (Kd.jX (rq HO546.out) hb);replace HO549:=am (Kd.jX (rq HO549.out) hb);replace HO553:=am (Kd.jCb (rq HO553.out) (Kd.jmc ho0) hb);replace HO556:=am (Kd.jX (rq HO556.out) hb);replace HO560:=am (Kd.jX (rq HO560.out) hb);replace BK535:=am (jm (g:=gb535) (o:=.cells #[.slice A0_0 l0_0.length c0_0] 24 (0,0)) (kq BK535.out) hb);replace BK550:=am (jm (g:=gb550) (o:=.cells #[.slice Ao42 t547.length co42] 32 (0,0)) (kq BK550.out) hb);replace HB:=am (jd (Y3) hb);(try clear hb);(try clear hb2);(try clear hk);(try clear hi);(try clear ho0);obtain ⟨Ao56,co56,eo56⟩:=Kd.jGa HO564.out;subst eo56) |((with_reducible refine je (f:=13) rfl ?_);refine gL (some 48) Try.func13 #[.slice Ao47 t551.length co47, .slice Ao56 t562.length co56] ?_;(with_reducible refine (jN.calls k _ _ t551 _ _ t562 true _ ?side1 ?side2 ?side3 ?side4 A25.out).mono ?_);(case side1=>exact cq (Kd.jA HO553.out).2.2);(case side2=>exact (Kd.jA HO553.out).2.1);(case side3=>exact cq (Kd.jA HO564.out).2.2);(case side4=>exact (Kd.jA HO564.out).2.1);rintro e w57 ⟨rfl,hb⟩;refine ⟨_,rfl,?_⟩;replace HO540:=am (Kd.jX (rq HO540.out) hb);replace HO543:=am (Kd.jX (rq HO543.out) hb);replace HO546:=am (Kd.jX (rq HO546.out) hb);replace HO549:=am (Kd.jX (rq HO549.out) hb);replace HO553:=am (Kd.jX (rq HO553.out) hb);replace HO556:=am (Kd.jX (rq HO556.out) hb);replace HO560:=am (Kd.jX (rq HO560.out) hb);replace HO564:=am (Kd.jX (rq HO564.out) hb);replace BK535:=am (jm (g:=gb535) (o:=.cells #[.slice A0_0 l0_0.length c0_0] 24 (0,0)) (kq BK535.out) hb);replace BK550:=am (jm (g:=gb550) (o:=.cells #[.slice Ao42 t547.length co42] 32 (0,0)) (kq BK550.out) hb);replace HB:=am (jd (Y3) hb);(try clear hb);(try clear hb2);(try clear hk);(try clear hi);have hcz58_0:=bc0 BK550.out;have hfz58_0:=ja BK550.out 0) |((with_reducible refine je (f:=15) rfl ?_);refine gL (some 52) Try.func15 #[.agg #[.slice Ao42 t547.length co42], .int .i64 1] ?_;(with_reducible refine (jpa.calls k (fun k_=>some k_=(.slice Ao42 t547.length co42:Value).ownBlock) (.slice Ao42 t547.length co42) t547 1 t566 t567 w _ ?side1 ?side2 A27.out).mono ?_);(case side1=>exact Y3);(case side2=>exact Kd.R_tight rfl HO549.out);rintro e w59 ⟨rfl,hy0,hb,hkp⟩;refine ⟨_,rfl,?_⟩;replace BK535:=am (joc (kq BK535.out) hkp (fun hs_=>(fun e_=>(Kd.R_ne HO549.out BK535.out (by decide)) e_) hs_));replace HO540:=am (Kd.jSa (ok':=fun k_=>some k_≠(.slice Ao42 t547.length co42:Value).ownBlock∧some k_≠(.slice Ao53 t558.length co53:Value).ownBlock) (Kd.jEb (HO540.out) hkp (fun k_ hk_ hs_=>(hk_.1.2) hs_)) (fun k_ hk_=>⟨hk_.1.1.2,hk_.1.2⟩));replace HO543:=am (Kd.jSa (ok':=fun k_=>some k_≠(.slice Ao47 t551.length co47:Value).ownBlock∧some k_≠(.slice Ao56 t562.length co56:Value).ownBlock) (Kd.jEb ((Kd.jNb HO543.out (Kd.jbc HO549.out) (by decide))) hkp (fun k_ hk_ hs_=>(hk_.2) hs_)) (fun k_ hk_=>⟨hk_.1.1.1.2,hk_.1.1.2⟩));replace HO546:=am (Kd.jSa (ok':=fun k_=>some k_≠(.slice Ao49 t554.length co49:Value).ownBlock) (Kd.jEb ((Kd.jNb HO546.out (Kd.jbc HO549.out) (by decide))) hkp (fun k_ hk_ hs_=>(hk_.2) hs_)) (fun k_ hk_=>hk_.1.1.2));replace BK550:=am (joc (kq BK550.out) hkp (fun hs_=>(fun e_=>(Kd.R_ne HO549.out BK550.out (by decide)) e_) hs_));replace HO553:=am (Kd.jSa (ok':=fun k_=>some k_≠(.slice Ao37 t541.length co37:Value).ownBlock∧some k_≠(.slice Ao56 t562.length co56:Value).ownBlock) (Kd.jEb ((Kd.jNb HO553.out (Kd.jbc HO549.out) (by decide))) hkp (fun k_ hk_ hs_=>(hk_.2) hs_)) (fun k_ hk_=>⟨hk_.1.1.1.2,hk_.1.1.2⟩));replace HO556:=am (Kd.jSa (ok':=fun k_=>some k_≠(.slice Ao50 t544.length co50:Value).ownBlock) (Kd.jEb ((Kd.jNb HO556.out (Kd.jbc HO549.out) (by decide))) hkp (fun k_ hk_ hs_=>(hk_.2) hs_)) (fun k_ hk_=>hk_.1.1.2));replace HO560:=am (Kd.jSa (ok':=fun k_=>some k_≠(.slice Ao36 t538.length co36:Value).ownBlock∧some k_≠(.slice Ao42 t547.length co42:Value).ownBlock) (Kd.jEb (HO560.out) hkp (fun k_ hk_ hs_=>(hk_.2) hs_)) (fun k_ hk_=>⟨hk_.1.1.2,hk_.1.2⟩));replace HO564:=am (Kd.jSa (ok':=fun k_=>some k_≠(.slice Ao37 t541.length co37:Value).ownBlock∧some k_≠(.slice Ao47 t551.length co47:Value).ownBlock) (Kd.jEb ((Kd.jNb HO564.out (Kd.jbc HO549.out) (by decide))) hkp (fun k_ hk_ hs_=>(hk_.2) hs_)) (fun k_ hk_=>⟨hk_.1.1.1.2,hk_.1.1.2⟩));replace HO549:=am (Kd.R_reok rfl hy0 (fun k_ e_=>HO549.out.1 k_ e_));replace HB:=am (hb);(try clear hb);(try clear hkp);(try clear hy0)) |((with_reducible refine je (f:=16) rfl ?_);refine gL (some 55) Try.func16 #[.slice Ao47 t551.length co47, .int .i64 t566] ?_;(with_reducible refine (jI.calls k (fun k_=>some k_=(.slice Ao47 t551.length co47:Value).ownBlock) (.slice Ao47 t551.length co47) t551 t566 t568 t569 w _ ?side1 ?side2 A28.out).mono ?_);(case side1=>exact Y3);(case side2=>exact Kd.R_tight rfl HO553.out);rintro e w60 ⟨rfl,hy0,hb,hkp⟩;refine ⟨_,rfl,?_⟩;replace BK535:=am (joc (kq BK535.out) hkp (fun hs_=>(fun e_=>(Kd.R_ne HO553.out BK535.out (by decide)) e_) hs_));replace HO540:=am (Kd.jSa (ok':=fun k_=>some k_≠(.slice Ao42 t547.length co42:Value).ownBlock∧some k_≠(.slice Ao53 t558.length co53:Value).ownBlock) (Kd.jEb ((Kd.jNb HO540.out (Kd.jbc HO553.out) (by decide))) hkp (fun k_ hk_ hs_=>(hk_.2) hs_)) (fun k_ hk_=>⟨hk_.1.1.1,hk_.1.1.2⟩));replace HO543:=am (Kd.jSa (ok':=fun k_=>some k_≠(.slice Ao47 t551.length co47:Value).ownBlock∧some k_≠(.slice Ao56 t562.length co56:Value).ownBlock) (Kd.jEb (HO543.out) hkp (fun k_ hk_ hs_=>(hk_.1) hs_)) (fun k_ hk_=>⟨hk_.1.1,hk_.1.2⟩));replace HO546:=am (Kd.jSa (ok':=fun k_=>some k_≠(.slice Ao49 t554.length co49:Value).ownBlock) (Kd.jEb ((Kd.jNb HO546.out (Kd.jbc HO553.out) (by decide))) hkp (fun k_ hk_ hs_=>(hk_.2) hs_)) (fun k_ hk_=>hk_.1.1));replace HO549:=am (Kd.jSa (ok':=fun k_=>some k_≠(.slice Ao36 t538.length co36:Value).ownBlock∧some k_≠(.slice Ao53 t558.length co53:Value).ownBlock) (Kd.jEb ((Kd.jNb HO549.out (Kd.jbc HO553.out) (by decide))) hkp (fun k_ hk_ hs_=>(hk_.2) hs_)) (fun k_ hk_=>⟨hk_.1.1.1.2,hk_.1.1.2⟩));replace BK550:=am (joc (kq BK550.out) hkp (fun hs_=>(fun e_=>(Kd.R_ne HO553.out BK550.out (by decide)) e_) hs_));replace HO556:=am (Kd.jSa (ok':=fun k_=>some k_≠(.slice Ao50 t544.length co50:Value).ownBlock) (Kd.jEb ((Kd.jNb HO556.out (Kd.jbc HO553.out) (by decide))) hkp (fun k_ hk_ hs_=>(hk_.2) hs_)) (fun k_ hk_=>hk_.1.1));replace HO560:=am (Kd.jSa (ok':=fun k_=>some k_≠(.slice Ao36 t538.length co36:Value).ownBlock∧some k_≠(.slice Ao42 t547.length co42:Value).ownBlock) (Kd.jEb ((Kd.jNb HO560.out (Kd.jbc HO553.out) (by decide))) hkp (fun k_ hk_ hs_=>(hk_.2) hs_)) (fun k_ hk_=>⟨hk_.1.1.1,hk_.1.1.2⟩));replace HO553:=am (Kd.R_reok rfl hy0 (fun k_ e_=>HO553.out.1 k_ e_));replace HO564:=am (Kd.jSa (ok':=fun k_=>some k_≠(.slice Ao37 t541.length co37:Value).ownBlock∧some k_≠(.slice Ao47 t551.length co47:Value).ownBlock) (Kd.jEb (HO564.out) hkp (fun k_ hk_ hs_=>(hk_.2) hs_)) (fun k_ hk_=>⟨hk_.1.1,hk_.1.2⟩));replace HB:=am (hb);(try clear hb);(try clear hkp);(try clear hy0)))
      (try simp only [Act.put,List.setIfInBounds_toArray,List.set_cons_zero,List.set_cons_succ])
      go_cut [63] (fun v63 wc=>∃ (kq:Nat) (x63_28:Bool),v63=.bool x63_28∧jk (jf.j0 kq l1 t544 t554 x63_28 l0_0=some r)∧jk (kq≤k)∧jk (Kd.R (Kd.int .i64) 3 wc w.heap.size (fun k_=>some k_≠((.slice Ao49 t554.length co49):Value).ownBlock) (.slice Ao50 t544.length co50) t544)∧jk (Kd.R (Kd.int .i64) 3 wc w.heap.size (fun k_=>some k_≠((.slice Ao50 t544.length co50):Value).ownBlock) (.slice Ao49 t554.length co49) t554)∧jk (Kd.R k78 78 wc w.heap.size (fun _=>True) (.slice Ao42 t547.length co42) t567)∧jk (wc.heap[gb535]?=some (.cells #[(.slice A0_0 l0_0.length c0_0)] 24 (0,0)))∧jk (wc.heap[gb550]?=some (.cells #[(.slice Ao42 t547.length co42)] 32 (0,0)))∧jk (Below w.heap.size w wc))
      case first =>
       have H:=HC29.out
       clear HC29
       by_cases c61:t568<0
       ·rw [if_pos c61] at H
        have c61b0:decide (t568<0)=true:=dzT c61
        clear c61
        (first | rw [c61b0] |(simp only [jub,jvb];rw [c61b0]) | skip)
        have H':=am H
        clear H
        go_wp2
        go_meet
        case rel=>exact ⟨_,(true),(sq),H',⟨Y19⟩,⟨rq HO546.out⟩,⟨rq HO556.out⟩,⟨by (with_reducible repeat (first | apply Kd.jzb | apply Kd.jyb | apply Kd.jsb));exact Kd.jSa HO549.out (fun _ hk=>trivial)⟩,⟨kq BK535.out⟩,⟨kq BK550.out⟩,⟨Y3⟩⟩
       ·rw [if_neg c61] at H
        have c61b0:decide (t568<0)=false:=dzF c61
        clear c61
        (first | rw [c61b0] |(simp only [jub,jvb];rw [c61b0]) | skip)
        replace H:=bzS H
        obtain ⟨t570,A620,H⟩:=H
        replace H:(jf.j0 k l1 t544 t554 (!t570) l0_0)=some r:=H
        have A62:=am A620
        clear A620
        have H':=am H
        clear H
        go_wp2_with (first |(go_at_call 22;(with_reducible refine (jJ.calls k _ _ t554 _ _ t544 t570 _ ?side1 ?side2 ?side3 ?side4 A62.out).mono ?_);(case side1=>exact cq (Kd.jA HO556.out).2.2);(case side2=>exact (Kd.jA HO556.out).2.1);(case side3=>exact cq (Kd.jA HO546.out).2.2);(case side4=>exact (Kd.jA HO546.out).2.1);rintro e w' ⟨rfl,⟨nd,rfl⟩⟩))
        go_meet
        case rel=>exact ⟨_,(!t570),(sq),H',⟨Y19⟩,⟨rq HO546.out⟩,⟨rq HO556.out⟩,⟨by (with_reducible repeat (first | apply Kd.jzb | apply Kd.jyb | apply Kd.jsb));exact Kd.jSa HO549.out (fun _ hk=>trivial)⟩,⟨kq BK535.out⟩,⟨kq BK550.out⟩,⟨Y3⟩⟩
      case rest =>
       clear HC29
       try clear c1
       try clear c2
       try clear p2
       try clear c4
       try clear c4b0
       try clear c5
       try clear c6
       try clear c7
       try clear c8
       try clear c9
       try clear c9b0
       try clear c10
       try clear c11
       try clear c13
       try clear c14
       try clear c15
       try clear c16
       try clear c20
       try clear c21
       try clear c22
       try clear c23
       try clear c26
       try clear c43
       try clear c61
       try clear c61b0
       try clear hcz11_0
       try clear hcz31_0
       try clear hcz33_0
       try clear hcz39_0
       try clear hcz44_0
       try clear hcz46_0
       try clear hcz58_0
       try clear hcz6_0
       try clear hfz11_0
       try clear hfz31_0
       try clear hfz33_0
       try clear hfz39_0
       try clear hfz44_0
       try clear hfz46_0
       try clear hfz58_0
       try clear hfz6_0
       obtain ⟨kq,x63_28,rfl,HA,HJ28,HO_6,HO_9,HO_551000,BK535,BK550,HB⟩:=hcut
       have hl551000_28:=(Kd.jA HO_551000.out).1
       rw [hl551000_28] at HO_551000
       (try simp only [hl551000_28])
       (try simp only [hl551000_28] at BK535)
       (try simp only [hl551000_28] at BK550)
       (try simp only [hl551000_28] at HO_6)
       (try simp only [hl551000_28] at HO_9)
       cases kq with
       | zero=>exact absurd HA.out (by simp [jf.j0])
       | succ kj28 =>
        have H:=HA.out
        clear HA
        simp only [jf.j0] at H
        by_cases c63:x63_28=true
        ·subst c63
         have H1:(some false)=some r:=by rw [if_pos rfl] at H;exact H
         clear H
         have H:=H1
         clear H1
         exact absurd ((Option.some.inj H).trans hT) Bool.false_ne_true
        ·replace c63:=Bool.eq_false_iff.mpr c63
         subst c63
         have H1:((jBa.f kj28 t554 1).bind fun bt571=>((jfa.f kj28 bt571.2 1).bind fun t573=>(if t573<0 then (some false) else (if t573=bt571.1 then ((jga.f kj28 l0_0).bind fun t574=>((jD.f kj28 l1).bind fun t577=>((jka.f kj28 t574 t577).bind fun t580=>((jJ.f kj28 t580 t544).bind fun t583=>(if t583=true then ((jfa.f kj28 bt571.2 1).bind fun t584=>(if t584<0 then (some false) else (if t584=bt571.1 then (some true) else (some false)))) else (some false)))))) else (some false)))))=some r:=by rw [if_neg (show ¬ (false=true) by decide)] at H;exact H
         clear H
         have H:=H1
         clear H1
         replace H:=bzS H
         obtain ⟨⟨t571,t572⟩,A640,H⟩:=H
         replace H:((jfa.f kj28 t572 1).bind fun t573=>(if t573<0 then (some false) else (if t573=t571 then ((jga.f kj28 l0_0).bind fun t574=>((jD.f kj28 l1).bind fun t577=>((jka.f kj28 t574 t577).bind fun t580=>((jJ.f kj28 t580 t544).bind fun t583=>(if t583=true then ((jfa.f kj28 t572 1).bind fun t584=>(if t584<0 then (some false) else (if t584=t571 then (some true) else (some false)))) else (some false)))))) else (some false))))=some r:=H
         have A64:=am A640
         clear A640
         replace H:=bzS H
         obtain ⟨t573,A650,H⟩:=H
         replace H:(if t573<0 then (some false) else (if t573=t571 then ((jga.f kj28 l0_0).bind fun t574=>((jD.f kj28 l1).bind fun t577=>((jka.f kj28 t574 t577).bind fun t580=>((jJ.f kj28 t580 t544).bind fun t583=>(if t583=true then ((jfa.f kj28 t572 1).bind fun t584=>(if t584<0 then (some false) else (if t584=t571 then (some true) else (some false)))) else (some false)))))) else (some false)))=some r:=H
         have A65:=am A650
         clear A650
         by_cases c66:t573<0
         ·rw [if_pos c66] at H
          have c66b0:decide (t573<0)=true:=dzT c66
          clear c66
          exact absurd ((Option.some.inj H).trans hT) Bool.false_ne_true
         ·rw [if_neg c66] at H
          have c66b0:decide (t573<0)=false:=dzF c66
          clear c66
          by_cases c67:t573=t571
          ·rw [if_pos c67] at H
           have c67b0:(t573 == t571)=true:=beq_iff_eq.mpr c67
           have c67b1:(t573 != t571)=false:=bne_eq_false_iff_eq.mpr c67
           clear c67
           replace H:=bzS H
           obtain ⟨t574,A680,H⟩:=H
           replace H:((jD.f kj28 l1).bind fun t577=>((jka.f kj28 t574 t577).bind fun t580=>((jJ.f kj28 t580 t544).bind fun t583=>(if t583=true then ((jfa.f kj28 t572 1).bind fun t584=>(if t584<0 then (some false) else (if t584=t571 then (some true) else (some false)))) else (some false)))))=some r:=H
           have A68:=am A680
           clear A680
           replace H:=bzS H
           obtain ⟨t577,A690,H⟩:=H
           replace H:((jka.f kj28 t574 t577).bind fun t580=>((jJ.f kj28 t580 t544).bind fun t583=>(if t583=true then ((jfa.f kj28 t572 1).bind fun t584=>(if t584<0 then (some false) else (if t584=t571 then (some true) else (some false)))) else (some false))))=some r:=H
           have A69:=am A690
           clear A690
           replace H:=bzS H
           obtain ⟨t580,A700,H⟩:=H
           replace H:((jJ.f kj28 t580 t544).bind fun t583=>(if t583=true then ((jfa.f kj28 t572 1).bind fun t584=>(if t584<0 then (some false) else (if t584=t571 then (some true) else (some false)))) else (some false)))=some r:=H
           have A70:=am A700
           clear A700
           replace H:=bzS H
           obtain ⟨t583,A710,H⟩:=H
           replace H:(if t583=true then ((jfa.f kj28 t572 1).bind fun t584=>(if t584<0 then (some false) else (if t584=t571 then (some true) else (some false)))) else (some false))=some r:=H
           have A71:=am A710
           clear A710
           by_cases c72:t583=true
           ·subst c72
            have H1:((jfa.f kj28 t572 1).bind fun t584=>(if t584<0 then (some false) else (if t584=t571 then (some true) else (some false))))=some r:=by rw [if_pos rfl] at H;exact H
            clear H
            have H:=H1
            clear H1
            replace H:=bzS H
            obtain ⟨t584,A730,H⟩:=H
            replace H:(if t584<0 then (some false) else (if t584=t571 then (some true) else (some false)))=some r:=H
            have A73:=am A730
            clear A730
            by_cases c74:t584<0
            ·rw [if_pos c74] at H
             have c74b0:decide (t584<0)=true:=dzT c74
             clear c74
             exact absurd ((Option.some.inj H).trans hT) Bool.false_ne_true
            ·rw [if_neg c74] at H
             have c74b0:decide (t584<0)=false:=dzF c74
             clear c74
             by_cases c75:t584=t571
             ·rw [if_pos c75] at H
              have c75b0:(t584 == t571)=true:=beq_iff_eq.mpr c75
              have c75b1:(t584 != t571)=false:=bne_eq_false_iff_eq.mpr c75
              clear c75
              obtain rfl:=Option.some.inj H
              go_wp2_with (first |((with_reducible refine je (f:=23) rfl ?_);refine gL (some 66) Try.func23 #[.slice Ao49 t554.length co49, .int .i64 1] ?_;(with_reducible refine (jBa.calls kj28 (fun k_=>some k_=(.slice Ao49 t554.length co49:Value).ownBlock) (.slice Ao49 t554.length co49) t554 1 t571 t572 w _ ?side1 ?side2 A64.out).mono ?_);(case side1=>exact Y3);(case side2=>exact Kd.R_tight rfl HO_9.out);rintro e w76 ⟨rfl,hy0,hb,hkp⟩;refine ⟨_,rfl,?_⟩;replace HO_6:=am (Kd.jSa (ok':=fun k_=>some k_≠(.slice Ao49 t554.length co49:Value).ownBlock) (Kd.jEb (HO_6.out) hkp (fun k_ hk_ hs_=>(hk_) hs_)) (fun k_ hk_=>hk_.1));replace HO_551000:=am (Kd.jSa (ok':=fun k_=>True) (Kd.jEb ((Kd.jNb HO_551000.out (Kd.jbc HO_9.out) (by decide))) hkp (fun k_ hk_ hs_=>(hk_.2) hs_)) (fun k_ hk_=>trivial));replace BK535:=am (joc (kq BK535.out) hkp (fun hs_=>(fun e_=>(Kd.R_ne HO_9.out BK535.out (by decide)) e_) hs_));replace BK550:=am (joc (kq BK550.out) hkp (fun hs_=>(fun e_=>(Kd.R_ne HO_9.out BK550.out (by decide)) e_) hs_));replace HO_9:=am (Kd.R_reok rfl hy0 (fun k_ e_=>HO_9.out.1 k_ e_));replace HB:=am (hb);(try clear hb);(try clear hkp);(try clear hy0)) |((with_reducible refine je (f:=24) rfl ?_);refine goesL_ (some 69) rfl rfl Try.func24 (by kernel_rfl) rfl #[.slice Ao49 t572.length co49, .int .i64 1] rfl (by (try simp only [List.map_toArray,List.map_cons,List.map_nil]);first | done |(rw [show t572.length=t554.length from (Kd.jA HO_9.out).1.symm] <;> rfl) | rfl |(simp only [List.length_drop,List.length_take];rfl)) ?_;(with_reducible refine (jfa.calls kj28 _ _ t572 1 t573 _ ?side1 ?side2 A65.out).mono ?_);(case side1=>exact cq (Kd.jA HO_9.out).2.2);(case side2=>rw [show t572.length=t554.length from (Kd.jA HO_9.out).1.symm];exact (Kd.jA HO_9.out).2.1);rintro e w' ⟨rfl,⟨nd,rfl⟩⟩;refine ⟨_,rfl,?_⟩;have hnb77:=NB535_550.out;have hnc77:=NB550_535.out;have hcz78_0:=bc0 BK535.out;have hfz78_0:=ja BK535.out 0) |((with_reducible refine je (f:=10) rfl ?_);refine gL (some 76) Try.func10 #[.agg #[.slice A0_0 l0_0.length c0_0]] ?_;(with_reducible refine (jga.calls kj28 _ _ l0_0 t574 _ ?side1 ?side2 A68.out).mono ?_);(case side1=>repeat (first | exact (Kd.jF HR0_0.out (by repeat (first |(with_reducible first | exact HB.out | apply jv | apply jg | apply jr | refine jw ?_ GE535.out | refine jw ?_ GE550.out) | exact HB.out))) |(with_reducible refine Kd.C_alloc ?_ _) |(with_reducible refine Kd.C_drewN ?_ _) |(with_reducible refine Kd.C_drew ?_)));(case side2=>exact HC0_0.out);rintro e w79 ⟨v575,rfl,ho0,hb⟩;refine ⟨_,rfl,?_⟩;have HO576:=am (Kd.jRa (Kd.jlc ho0 (Kd.R_lt (rq HO_551000.out))) (jH (Y3)));replace HO_6:=am (Kd.jX (rq HO_6.out) hb);replace HO_9:=am (Kd.jX (rq HO_9.out) hb);replace HO_551000:=am (Kd.jCb (rq HO_551000.out) (Kd.jmc ho0) hb);replace BK535:=am (jm (g:=gb535) (o:=.cells #[.slice A0_0 l0_0.length c0_0] 24 (0,0)) (kq BK535.out) hb);replace BK550:=am (jm (g:=gb550) (o:=.cells #[.slice Ao42 t567.length co42] 32 (0,0)) (kq BK550.out) hb);replace HB:=am (jd (Y3) hb);(try clear hb);(try clear hb2);(try clear hk);(try clear hi);(try clear ho0)) |((with_reducible refine je (f:=11) rfl ?_);refine gL (some 78) Try.func11 #[.slice A1 l1.length c1] ?_;(with_reducible refine (jD.calls kj28 _ _ l1 t577 _ ?side1 ?side2 A69.out).mono ?_);(case side1=>exact cq (Kd.jF HR1.out HB.out));(case side2=>exact HC1.out);rintro e w80 ⟨v578,rfl,ho0,hb⟩;refine ⟨_,rfl,?_⟩;have HO579:=am (Kd.jRa ho0 (jH (Y3)));replace HO_6:=am (Kd.jX (rq HO_6.out) hb);replace HO_9:=am (Kd.jX (rq HO_9.out) hb);replace HO_551000:=am (Kd.jX (rq HO_551000.out) hb);replace HO576:=am (Kd.jX (rq HO576.out) hb);replace BK535:=am (jm (g:=gb535) (o:=.cells #[.slice A0_0 l0_0.length c0_0] 24 (0,0)) (kq BK535.out) hb);replace BK550:=am (jm (g:=gb550) (o:=.cells #[.slice Ao42 t567.length co42] 32 (0,0)) (kq BK550.out) hb);replace HB:=am (jd (Y3) hb);(try clear hb);(try clear hb2);(try clear hk);(try clear hi);(try clear ho0);obtain ⟨Ao81,co81,eo81⟩:=Kd.jGa HO576.out;subst eo81;obtain ⟨Ao82,co82,eo82⟩:=Kd.jGa HO579.out;subst eo82) |((with_reducible refine je (f:=21) rfl ?_);refine gL (some 79) Try.func21 #[.agg #[.slice Ao81 t574.length co81], .slice Ao82 t577.length co82] ?_;(with_reducible refine (jka.calls kj28 _ _ t574 _ _ t577 t580 _ ?side1 ?side2 ?side3 ?side4 A70.out).mono ?_);(case side1=>exact cq (Kd.jA HO576.out).2.2);(case side2=>exact (Kd.jA HO576.out).2.1);(case side3=>exact cq (Kd.jA HO579.out).2.2);(case side4=>exact (Kd.jA HO579.out).2.1);rintro e w83 ⟨v581,rfl,ho0,hb⟩;refine ⟨_,rfl,?_⟩;have HO582:=am (Kd.jRa (Kd.jlc (Kd.jlc ho0 (Kd.R_lt (rq HO_6.out))) (Kd.R_lt (rq HO_9.out))) (jH (Y3)));replace HO_6:=am (Kd.jCb (rq HO_6.out) (Kd.jmc ho0) hb);replace HO_9:=am (Kd.jCb (rq HO_9.out) (Kd.jmc ho0) hb);replace HO_551000:=am (Kd.jX (rq HO_551000.out) hb);replace HO576:=am (Kd.jX (rq HO576.out) hb);replace HO579:=am (Kd.jX (rq HO579.out) hb);replace BK535:=am (jm (g:=gb535) (o:=.cells #[.slice A0_0 l0_0.length c0_0] 24 (0,0)) (kq BK535.out) hb);replace BK550:=am (jm (g:=gb550) (o:=.cells #[.slice Ao42 t567.length co42] 32 (0,0)) (kq BK550.out) hb);replace HB:=am (jd (Y3) hb);(try clear hb);(try clear hb2);(try clear hk);(try clear hi);(try clear ho0);obtain ⟨Ao84,co84,eo84⟩:=Kd.jGa HO582.out;subst eo84) |((with_reducible refine je (f:=22) rfl ?_);refine gL (some 82) Try.func22 #[.slice Ao84 t580.length co84, .slice Ao50 t544.length co50] ?_;(with_reducible refine (jJ.calls kj28 _ _ t580 _ _ t544 true _ ?side1 ?side2 ?side3 ?side4 A71.out).mono ?_);(case side1=>exact cq (Kd.jA HO582.out).2.2);(case side2=>exact (Kd.jA HO582.out).2.1);(case side3=>exact cq (Kd.jA HO_6.out).2.2);(case side4=>exact (Kd.jA HO_6.out).2.1);rintro e w' ⟨rfl,⟨nd,rfl⟩⟩;refine ⟨_,rfl,?_⟩) |((with_reducible refine je (f:=24) rfl ?_);refine goesL_ (some 86) rfl rfl Try.func24 (by kernel_rfl) rfl #[.slice Ao49 t572.length co49, .int .i64 1] rfl (by (try simp only [List.map_toArray,List.map_cons,List.map_nil]);first | done |(rw [show t572.length=t554.length from (Kd.jA HO_9.out).1.symm] <;> rfl) | rfl |(simp only [List.length_drop,List.length_take];rfl)) ?_;(with_reducible refine (jfa.calls kj28 _ _ t572 1 t584 _ ?side1 ?side2 A73.out).mono ?_);(case side1=>exact cq (Kd.jA HO_9.out).2.2);(case side2=>rw [show t572.length=t554.length from (Kd.jA HO_9.out).1.symm];exact (Kd.jA HO_9.out).2.1);rintro e w' ⟨rfl,⟨nd,rfl⟩⟩;refine ⟨_,rfl,?_⟩))
              go_ret
              exact ⟨Y0,Y3⟩
             ·rw [if_neg c75] at H
              have c75b0:(t584 == t571)=false:=beq_eq_false_iff_ne.mpr c75
              have c75b1:(t584 != t571)=true:=bne_iff_ne.mpr c75
              exact absurd ((Option.some.inj H).trans hT) Bool.false_ne_true
           ·replace c72:=Bool.eq_false_iff.mpr c72
            subst c72
            have H1:(some false)=some r:=by rw [if_neg (show ¬ (false=true) by decide)] at H;exact H
            clear H
            have H:=H1
            clear H1
            exact absurd ((Option.some.inj H).trans hT) Bool.false_ne_true
          ·rw [if_neg c67] at H
           have c67b0:(t573 == t571)=false:=beq_eq_false_iff_ne.mpr c67
           have c67b1:(t573 != t571)=true:=bne_iff_ne.mpr c67
           exact absurd ((Option.some.inj H).trans hT) Bool.false_ne_true
     ·replace c26:=Bool.eq_false_iff.mpr c26
      subst c26
      have H1:(some false)=some r:=by rw [if_neg (show ¬ (false=true) by decide)] at H;exact H
      clear H
      have H:=H1
      clear H1
      exact absurd ((Option.some.inj H).trans hT) Bool.false_ne_true
    ·replace c23:=Bool.eq_false_iff.mpr c23
     subst c23
     have H1:(some false)=some r:=by rw [if_neg (show ¬ (false=true) by decide)] at H;exact H
     clear H
     have H:=H1
     clear H1
     exact absurd ((Option.some.inj H).trans hT) Bool.false_ne_true
   ·replace c20:=Bool.eq_false_iff.mpr c20
    subst c20
    have H1:(some false)=some r:=by rw [if_neg (show ¬ (false=true) by decide)] at H;exact H
    clear H
    have H:=H1
    clear H1
    exact absurd ((Option.some.inj H).trans hT) Bool.false_ne_true

end Go.Proofs.Ytkhiiiddbmgiaaa.P
end
