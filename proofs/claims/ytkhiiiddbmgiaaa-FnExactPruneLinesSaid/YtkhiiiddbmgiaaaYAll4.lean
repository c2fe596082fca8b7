/- One part of the proofs on this program: functions of the program as plain functions, that the code comes to them, and facts on them. -/
import Derived.Carry
import Derived.Maps.Own
import Derived.Maps.OwnOps
import Derived.Maps.OwnSet
import Derived.Maps.Views
import Derived.Test.YtkhiiiddbmgiaaaYAll1
import Derived.Test.YtkhiiiddbmgiaaaYAll2
import Derived.Test.YtkhiiiddbmgiaaaYAll3
import Derived.Test.YtkhiiiddbmgiaaaYWAuto
section
namespace Go.Proofs.Ytkhiiiddbmgiaaa.P
open Go.RowKit Go.Proofs.YtkhiiiddbmgiaaaW.PrintWords Go.Proofs.YtkhiiiddbmgiaaaW.PrintLast Go.Proofs.YtkhiiiddbmgiaaaW.PrintMore
attribute [local go_sem] jca jaa jpa joa jS jR jba jZ jg
set_option linter.unusedVariables false
set_option linter.unusedSimpArgs false
def inB (a lo hi : Int) : Bool := decide (lo ≤ a) && decide (a ≤ hi)
theorem jXa (a lo hi : Int) : jB.f a lo hi = some (inB a lo hi) := by
 unfold jB.f inB
 by_cases h:a≥lo
 ·rw [if_pos h];simp [show lo≤a from h]
 ·rw [if_neg h];simp [show ¬ lo≤a from h]
theorem jNb (a b c d : Int) : jVa.f a b c d = some (inB b 7 12) := by
 unfold jVa.f
 rw [jXa];rfl
def VF (W : World) (B1 BL BT : Nat) (a x : S52) (tv : Value) : Prop :=
 W.heap[B1]?=some (.cells #[.int .i64 a.f0, .int .i64 a.f1, .int .i64 a.f2, .int .i64 a.f3] 52 (0,0))∧W.heap[BL]?=some (.cells #[.int .i64 x.f0, .int .i64 x.f1, .int .i64 x.f2, .int .i64 x.f3] 52 (0,0))∧W.cell? ⟨BT,0,none⟩=some tv
theorem VF.below {W W' : World} {B1 BL BT : Nat} {a x : S52} {tv : Value} (h : VF W B1 BL BT a x tv) (hb : Below W.heap.size W W') : VF W' B1 BL BT a x tv :=
 ⟨(hb.block _ (jHa h.1)).trans h.1,(hb.block _ (jHa h.2.1)).trans h.2.1,jja hb h.2.2⟩
theorem VF.cells {W : World} {B1 BL BT : Nat} {a x : S52} {tv : Value} (h : VF W B1 BL BT a x tv) :
  W.cell? ⟨B1,0,none⟩=some (.int .i64 a.f0)∧W.cell? ⟨B1,1,none⟩=some (.int .i64 a.f1)∧W.cell? ⟨B1,2,none⟩=some (.int .i64 a.f2)∧W.cell? ⟨B1,3,none⟩=some (.int .i64 a.f3) ∧
  W.cell? ⟨BL,0,none⟩=some (.int .i64 x.f0)∧W.cell? ⟨BL,1,none⟩=some (.int .i64 x.f1)∧W.cell? ⟨BL,2,none⟩=some (.int .i64 x.f2)∧W.cell? ⟨BL,3,none⟩=some (.int .i64 x.f3)∧W.cell? ⟨BT,0,none⟩=some tv :=
 ⟨(jFa h.1 0).trans rfl,(jFa h.1 1).trans rfl,(jFa h.1 2).trans rfl,(jFa h.1 3).trans rfl,(jFa h.2.1 0).trans rfl,(jFa h.2.1 1).trans rfl,(jFa h.2.1 2).trans rfl,(jFa h.2.1 3).trans rfl,h.2.2⟩
theorem VF.frozen {W : World} {B1 BL BT : Nat} {a x : S52} {tv : Value} (h : VF W B1 BL BT a x tv) : W.frozen? ⟨B1, 0, none⟩ = false ∧ W.frozen? ⟨B1, 1, none⟩ = false ∧ W.frozen? ⟨B1, 2, none⟩ = false ∧ W.frozen? ⟨B1, 3, none⟩ = false :=
 ⟨ja h.1 0,ja h.1 1,ja h.1 2,ja h.1 3⟩
theorem four_stored {W : World} {B T : Nat} {a b c d a' b' c' d' : Value} (h : W.heap[B]? = some (.cells #[a, b, c, d] T (0, 0))) :
  ((((W.setCell ⟨B,0,none⟩ a').setCell ⟨B,1,none⟩ b').setCell ⟨B,2,none⟩ c').setCell ⟨B,3,none⟩ d').heap[B]?=some (.cells #[a',b',c',d'] T (0,0)):=by
 have h0:=blk_set h 0 a'
 have h1:=blk_set h0 1 b'
 have h2:=blk_set h1 2 c'
 have h3:=blk_set h2 3 d'
 simpa using h3
theorem four_below {W w : World} {base B : Nat} {a' b' c' d' : Value} (h : Below base w W) (hB : base ≤ B) :
  Below base w ((((W.setCell ⟨B,0,none⟩ a').setCell ⟨B,1,none⟩ b').setCell ⟨B,2,none⟩ c').setCell ⟨B,3,none⟩ d') :=
 (((h.setCell (p:=⟨B,0,none⟩) hB _).setCell (p:=⟨B,1,none⟩) hB _).setCell (p:=⟨B,2,none⟩) hB _).setCell (p:=⟨B,3,none⟩) hB _
theorem four_far {W : World} {B C : Nat} {a' b' c' d' v : Value} (h : W.cell? ⟨C, 0, none⟩ = some v) (hne : B ≠ C) :
  ((((W.setCell ⟨B,0,none⟩ a').setCell ⟨B,1,none⟩ b').setCell ⟨B,2,none⟩ c').setCell ⟨B,3,none⟩ d').cell? ⟨C,0,none⟩=some v:=by
 have e:∀ j,(⟨B,j,none⟩:Addr)≠⟨C,0,none⟩:=fun j hj=>hne (by injection hj)
 rw [World.cell?_setCell_other (h:=e 3),World.cell?_setCell_other (h:=e 2),World.cell?_setCell_other (h:=e 1),World.cell?_setCell_other (h:=e 0)]
 exact h
def jq.bad (x last : S52) : Bool := !inB x.f0 0 5 || (inB last.f1 7 12 && decide (x.f0 ≠ last.f0 + 1)) || (!inB last.f1 7 12 && decide (last.f0 < x.f0))
def jq.go (k : Nat) (t : List S78) : List S52 → S52 → Option (Option S52)
 | [],last=>some (some last)
 | x :: xs,last=>(jia.f k x.f0 x.f1 x.f2 x.f3 t).bind fun v=>if v=false then some none else if jq.bad x last then some none else jq.go k t xs x
def jq.f (k : Nat) (l0_0 : List S78) (l1 : List S52) : Option Bool := (jm.f k l0_0).bind fun v =>
 if v=false then some false else if 24<l1.length then some false else
 (jq.go k l0_0 l1 ⟨-1,7,0,0⟩).bind fun q=>match q with
 | none=>some false
 | some last=>if l1.length=0 then je.f k l1 0 (l1.length:Int) false else if inB last.f1 7 12 then some false else je.f k l1 0 (l1.length:Int) false
theorem jq.step {k : Nat} {t : List S78} {p : List S52} {n : Nat} {last : S52} {q : Option S52} (hn : n < p.length) (h : jq.go k t (p.drop n) last = some q) :
  ∃ v,jia.f k p[n].f0 p[n].f1 p[n].f2 p[n].f3 t=some v∧(if v=false then some none else if jq.bad p[n] last then some none else jq.go k t (p.drop (n+1)) p[n])=some q:=by
 rw [List.drop_eq_getElem_cons hn] at h
 exact bzS h
set_option maxHeartbeats 8000000 in
set_option maxRecDepth 100000 in
theorem jq.calls (k : Nat) (A0_0 : Option Addr) (c0_0 : Nat) (l0_0 : List S78) (A1 : Option Addr) (c1 : Nat) (l1 : List S52) (r : Bool) (w : World) (hr0_0 : Kd.C k78 w A0_0 l0_0.length l0_0) (hc0_0 : l0_0.length ≤ c0_0) (hr1 : Kd.C k52 w A1 l1.length l1) (hc1 : l1.length ≤ c1) (h : jq.f k l0_0 l1 = some r) :
  Calls Try.prog 27 #[.agg #[.slice A0_0 l0_0.length c0_0], .slice A1 l1.length c1] w fun e w'=>e=.returned (.bool r)∧Below w.heap.size w w':=by
 have hu32:=Try.underlying32
 have hu52:=Try.underlying52
 have hm:l1.length≤9223372036854775807:=Kd.C_max hr1
 obtain ⟨v,hv,h⟩:=bzS h
 have HV:=am (fun W (hb:Below w.heap.size w W)=>jm.calls k A0_0 c0_0 l0_0 v W (Kd.jJ hr0_0 hb) hc0_0 hv)
 have HR0:=am hr0_0
 have HR1:=am hr1
 clear hv hr0_0 hr1
 cases v with
 | false =>
  obtain rfl:false=r:=by simpa using h
  clear h
  go_enter Try.func27,Try.ntmps27
  go_wp2_with (go_at_call 51;refine (HV.out _ ((Below.refl _ _).alloc (Nat.le_refl _) _)).mono ?_;rintro e w' ⟨rfl,hb2⟩)
  go_ret
  exact ⟨rfl,((Below.refl _ _).alloc (Nat.le_refl _) _).trans (hb2.mono (by simp))⟩
 | true =>
  simp only [Bool.true_eq_false,if_false] at h
  by_cases h24:24<l1.length
  ·rw [if_pos h24] at h
   obtain rfl:false=r:=by simpa using h
   have h24b:decide (24<l1.length)=true:=dzT h24
   clear h
   go_enter Try.func27,Try.ntmps27
   go_wp2_with (go_at_call 51;refine (HV.out _ ((Below.refl _ _).alloc (Nat.le_refl _) _)).mono ?_;rintro e w' ⟨rfl,hb2⟩)
   go_ret
   exact ⟨rfl,((Below.refl _ _).alloc (Nat.le_refl _) _).trans (hb2.mono (by simp))⟩
  ·rw [if_neg h24] at h
   have h24b:decide (24<l1.length)=false:=dzF h24
   obtain ⟨q,hq,h⟩:=bzS h
   have H0:=am hq
   have HZ:=am h
   clear h hq
   go_enter Try.func27,Try.ntmps27
   go_wp2_with (go_at_call 51;refine (HV.out _ ((Below.refl _ _).alloc (Nat.le_refl _) _)).mono ?_;rintro e w2 ⟨rfl,hb2⟩;have HB2:=am (((Below.refl w.heap.size w).alloc (Nat.le_refl _) (.cells #[.slice A0_0 l0_0.length c0_0] 32)).trans (hb2.mono (by simp)));have hs2:w.heap.size<w2.heap.size:=Nat.lt_of_lt_of_le (by simp) hb2.size;have ht2:=jja hb2 (show (w.alloc (.cells #[.slice A0_0 l0_0.length c0_0] 32)).cell? ⟨w.heap.size,0,none⟩=some (.slice A0_0 l0_0.length c0_0) by simp);clear hb2)
   obtain ⟨B1,hB1⟩:∃ B1,B1=w2.heap.size:=⟨_,rfl⟩
   have HBK:=am (show (w2.alloc (.cells #[.int .i64 (-1), .int .i64 7, .int .i64 0, .int .i64 0] 52)).heap[B1]?=some (.cells #[.int .i64 (-1), .int .i64 7, .int .i64 0, .int .i64 0] 52 (0,0)) by rw [hB1];exact heap_alloc_new w2 _)
   have hBl:=am (HB2.out.alloc (Nat.le_of_lt hs2) (.cells #[.int .i64 (-1), .int .i64 7, .int .i64 0, .int .i64 0] 52))
   have hT:=am (show (w2.alloc (.cells #[.int .i64 (-1), .int .i64 7, .int .i64 0, .int .i64 0] 52)).cell? ⟨w.heap.size,0,none⟩=some (.slice A0_0 l0_0.length c0_0) by simp [World.cell?_alloc_old,Nat.ne_of_lt hs2,ht2])
   rw [← hB1]
   have hlt1:w.heap.size<B1:=by omega
   clear hB1
   generalize w2.alloc (.cells #[.int .i64 (-1), .int .i64 7, .int .i64 0, .int .i64 0] 52)=w3 at HBK hBl hT ⊢
   clear ht2 hs2 HB2 HV
   go_loopw [19] (fun i19 wr=>∃ (n:Nat) (last:S52),i19=.int .i64 n∧n≤l1.length∧-1≤last.f0∧last.f0≤5∧jv (jq.go k l0_0 (l1.drop n) last=some q)∧jv (wr.heap[B1]?=some (.cells #[.int .i64 last.f0, .int .i64 last.f1, .int .i64 last.f2, .int .i64 last.f3] 52 (0,0)))∧jv (wr.cell? ⟨w.heap.size,0,none⟩=some (.slice A0_0 l0_0.length c0_0))∧jv (Below w.heap.size w wr)) (fun i19 _=>l1.length - (intOf i19).toNat)
   case atStart=>exact ⟨0,⟨-1,7,0,0⟩,rfl,Nat.zero_le _,by simp,by simp,H0,HBK,hT,hBl⟩
   case round =>
    clear H0 HBK hT hBl
    obtain ⟨n,last,rfl,hn,hlo,hhi,HA,HBK,HT,HB⟩:=hrel
    have ht2:=HT.out
    have g0:wr.cell? ⟨B1,0,none⟩=some (.int .i64 last.f0):=(jFa HBK.out 0).trans rfl
    have g1:wr.cell? ⟨B1,1,none⟩=some (.int .i64 last.f1):=(jFa HBK.out 1).trans rfl
    have g2:wr.cell? ⟨B1,2,none⟩=some (.int .i64 last.f2):=(jFa HBK.out 2).trans rfl
    have g3:wr.cell? ⟨B1,3,none⟩=some (.int .i64 last.f3):=(jFa HBK.out 3).trans rfl
    have hBw:B1<wr.heap.size:=jHa HBK.out
    have hne:B1≠wr.heap.size:=by omega
    have hne2:w.heap.size≠wr.heap.size:=by omega
    have hTw:w.heap.size<wr.heap.size:=by omega
    by_cases hlt:n<l1.length
    ·obtain ⟨v,hv,hs⟩:=jq.step hlt HA.out
     clear HA
     obtain ⟨ad,rfl,hx0,hx1,hx2,hx3⟩:=jX HR1.out (n:Int) (by omega) (by omega)
     have hrd:jb l1 (n:Int)=l1[n]:=by simp [jb,List.getD_eq_getElem?_getD,hlt]
     rw [hrd,Int.toNat_natCast] at hx0 hx1 hx2 hx3
     clear hrd
     generalize l1[n]=x at hv hs hx0 hx1 hx2 hx3
     have hb:=HB.out
     replace hx0:=jja hb hx0
     replace hx1:=jja hb hx1
     replace hx2:=jja hb hx2
     replace hx3:=jja hb hx3
     clear hb
     have HG:=am (fun W (hb:Below w.heap.size w W)=>jia.calls k x.f0 x.f1 x.f2 x.f3 A0_0 c0_0 l0_0 v W (Kd.jJ HR0.out hb) hc0_0 hv)
     clear hv
     cases v with
     | false =>
      obtain rfl:none=q:=by simpa using hs
      obtain rfl:false=r:=by simpa using HZ.out
      clear hs HZ
      go_wp2_with (go_at_call 52;refine (HG.out _ (HB.out.alloc HB.out.size _)).mono ?_;rintro e w4 ⟨rfl,hb4⟩)
      go_ret
      exact ⟨rfl,jM (HB.out.alloc HB.out.size _) (by simp;have:=HB.out.size;omega) hb4⟩
     | true =>
      simp only [Bool.true_eq_false,if_false] at hs
      have V0:=am (show VF (wr.alloc (.cells #[.int .i64 x.f0, .int .i64 x.f1, .int .i64 x.f2, .int .i64 x.f3] 52)) B1 wr.heap.size w.heap.size last x (.slice A0_0 l0_0.length c0_0) from ⟨(heap_alloc_old wr _ hBw).trans HBK.out,heap_alloc_new wr _,by rw [World.cell?_alloc_old _ _ _ hne2];exact HT.out⟩)
      have HO:=am (fun W=>jVa.calls last.f0 last.f1 last.f2 last.f3 _ W (jNb _ _ _ _))
      clear g0 g1 g2 g3
      have tok1:True:=trivial
      have HS:=am hs
      clear hs
      cases h5:inB x.f0 0 5 with
      | false =>
       have H5:=am h5
       obtain rfl:none=q:=by simpa [jq.bad,h5] using HS.out
       obtain rfl:false=r:=by simpa using HZ.out
       clear HS HZ h5
       go_wp2_with (first |(go_at_call 52;refine (HG.out _ (HB.out.alloc HB.out.size _)).mono ?_;rintro e w4 ⟨rfl,hb4⟩;have V4:=am (VF.below V0.out hb4);have HB4:=am (jM (HB.out.alloc HB.out.size _) (by simp;have:=HB.out.size;omega) hb4);clear hb4;obtain ⟨g0,g1,g2,g3,e0,e1,e2,e3,ht4⟩:=VF.cells V4.out) |(go_at_call 53;refine (jB.calls _ _ _ _ _ (jXa _ _ _)).mono ?_;rintro e w5 ⟨rfl,⟨nd,rfl⟩⟩;rw [H5.out]))
       go_ret
       exact ⟨rfl,jh HB4.out _⟩
      | true =>
       have H5:=am h5
       have hx5:0≤x.f0∧x.f0≤5:=by simpa [inB] using h5
       cases ho:inB last.f1 7 12 with
       | true =>
        rw [ho] at HO
        by_cases hd:x.f0=last.f0+1
        ·have hb1:(x.f0 != last.f0+1)=false:=by simpa using hd
         have hbad:jq.bad x last=false:=by unfold jq.bad;rw [h5,ho];simp [hd]
         have HN:=am (by have:=HS.out;rw [hbad] at this;simpa using this:jq.go k l0_0 (l1.drop (n+1)) x=some q)
         clear hbad
         clear HS hd h5 ho
         go_wp2_with (first |(go_at_call 52;refine (HG.out _ (HB.out.alloc HB.out.size _)).mono ?_;rintro e w4 ⟨rfl,hb4⟩;have V4:=am (VF.below V0.out hb4);have HB4:=am (jM (HB.out.alloc HB.out.size _) (by simp;have:=HB.out.size;omega) hb4);clear hb4;obtain ⟨g0,g1,g2,g3,e0,e1,e2,e3,ht4⟩:=VF.cells V4.out) |(go_at_call 53;refine (jB.calls _ _ _ _ _ (jXa _ _ _)).mono ?_;rintro e w5 ⟨rfl,⟨nd,rfl⟩⟩;rw [H5.out]) |(go_at_call 54;have tk1:=tok1;clear tok1;refine (HO.out _).mono ?_;rintro e w6 ⟨rfl,hb6⟩;have V6:=am (VF.below (W:=World.drewN _ _) V4.out hb6);have HB6:=am (jM (w1:=World.drewN _ _) (show Below w.heap.size w (World.drewN _ _) from ⟨HB4.out.os,HB4.out.tape,HB4.out.output,HB4.out.size,HB4.out.block⟩) HB4.out.size hb6);clear hb6 g0 g1 g2 g3 e0 e1 e2 e3 ht4;obtain ⟨g0,g1,g2,g3,e0,e1,e2,e3,ht4⟩:=VF.cells V6.out) |(go_at_call 54;refine (HO.out _).mono ?_;rintro e w7 ⟨rfl,hb7⟩;have V7:=am (VF.below V6.out hb7);have HB7:=am (jM HB6.out HB6.out.size hb7);clear hb7 g0 g1 g2 g3 e0 e1 e2 e3 ht4;obtain ⟨g0,g1,g2,g3,e0,e1,e2,e3,ht4⟩:=VF.cells V7.out;obtain ⟨f0,f1,f2,f3⟩:=VF.frozen V7.out))
         go_roundw
         case rel=>exact ⟨n+1,x,by go_num,hlt,by omega,by omega,HN,⟨four_stored V7.out.1⟩,⟨four_far V7.out.2.2 (by omega)⟩,⟨four_below HB7.out (by omega)⟩⟩
         case measure=>simp [intOf];omega
        ·have hb1:(x.f0 != last.f0+1)=true:=by simpa using hd
         obtain rfl:none=q:=by simpa [jq.bad,h5,ho,hd] using HS.out
         obtain rfl:false=r:=by simpa using HZ.out
         clear HS HZ hd h5 ho
         go_wp2_with (first |(go_at_call 52;refine (HG.out _ (HB.out.alloc HB.out.size _)).mono ?_;rintro e w4 ⟨rfl,hb4⟩;have V4:=am (VF.below V0.out hb4);have HB4:=am (jM (HB.out.alloc HB.out.size _) (by simp;have:=HB.out.size;omega) hb4);clear hb4;obtain ⟨g0,g1,g2,g3,e0,e1,e2,e3,ht4⟩:=VF.cells V4.out) |(go_at_call 53;refine (jB.calls _ _ _ _ _ (jXa _ _ _)).mono ?_;rintro e w5 ⟨rfl,⟨nd,rfl⟩⟩;rw [H5.out]) |(go_at_call 54;have tk1:=tok1;clear tok1;refine (HO.out _).mono ?_;rintro e w6 ⟨rfl,hb6⟩;have V6:=am (VF.below (W:=World.drewN _ _) V4.out hb6);have HB6:=am (jM (w1:=World.drewN _ _) (show Below w.heap.size w (World.drewN _ _) from ⟨HB4.out.os,HB4.out.tape,HB4.out.output,HB4.out.size,HB4.out.block⟩) HB4.out.size hb6);clear hb6 g0 g1 g2 g3 e0 e1 e2 e3 ht4;obtain ⟨g0,g1,g2,g3,e0,e1,e2,e3,ht4⟩:=VF.cells V6.out))
         go_ret
         exact ⟨rfl,HB6.out⟩
       | false =>
        rw [ho] at HO
        by_cases hd:last.f0<x.f0
        ·have hb1:decide (last.f0<x.f0)=true:=dzT hd
         have hbad:jq.bad x last=true:=by unfold jq.bad;rw [h5,ho];simp [hd]
         obtain rfl:none=q:=by have:=HS.out;rw [hbad] at this;simpa using this
         obtain rfl:false=r:=by simpa using HZ.out
         clear HS HZ hd h5 ho hbad
         go_wp2_with (first |(go_at_call 52;refine (HG.out _ (HB.out.alloc HB.out.size _)).mono ?_;rintro e w4 ⟨rfl,hb4⟩;have V4:=am (VF.below V0.out hb4);have HB4:=am (jM (HB.out.alloc HB.out.size _) (by simp;have:=HB.out.size;omega) hb4);clear hb4;obtain ⟨g0,g1,g2,g3,e0,e1,e2,e3,ht4⟩:=VF.cells V4.out) |(go_at_call 53;refine (jB.calls _ _ _ _ _ (jXa _ _ _)).mono ?_;rintro e w5 ⟨rfl,⟨nd,rfl⟩⟩;rw [H5.out]) |(go_at_call 54;have tk1:=tok1;clear tok1;refine (HO.out _).mono ?_;rintro e w6 ⟨rfl,hb6⟩;have V6:=am (VF.below (W:=World.drewN _ _) V4.out hb6);have HB6:=am (jM (w1:=World.drewN _ _) (show Below w.heap.size w (World.drewN _ _) from ⟨HB4.out.os,HB4.out.tape,HB4.out.output,HB4.out.size,HB4.out.block⟩) HB4.out.size hb6);clear hb6 g0 g1 g2 g3 e0 e1 e2 e3 ht4;obtain ⟨g0,g1,g2,g3,e0,e1,e2,e3,ht4⟩:=VF.cells V6.out) |(go_at_call 54;refine (HO.out _).mono ?_;rintro e w7 ⟨rfl,hb7⟩;have V7:=am (VF.below V6.out hb7);have HB7:=am (jM HB6.out HB6.out.size hb7);clear hb7 g0 g1 g2 g3 e0 e1 e2 e3 ht4;obtain ⟨g0,g1,g2,g3,e0,e1,e2,e3,ht4⟩:=VF.cells V7.out;obtain ⟨f0,f1,f2,f3⟩:=VF.frozen V7.out))
         go_ret
         exact ⟨rfl,HB7.out⟩
        ·have hb1:decide (last.f0<x.f0)=false:=dzF hd
         have hbad:jq.bad x last=false:=by unfold jq.bad;rw [h5,ho];simp [hd]
         have HN:=am (by have:=HS.out;rw [hbad] at this;simpa using this:jq.go k l0_0 (l1.drop (n+1)) x=some q)
         clear hbad HS hd h5 ho
         go_wp2_with (first |(go_at_call 52;refine (HG.out _ (HB.out.alloc HB.out.size _)).mono ?_;rintro e w4 ⟨rfl,hb4⟩;have V4:=am (VF.below V0.out hb4);have HB4:=am (jM (HB.out.alloc HB.out.size _) (by simp;have:=HB.out.size;omega) hb4);clear hb4;obtain ⟨g0,g1,g2,g3,e0,e1,e2,e3,ht4⟩:=VF.cells V4.out) |(go_at_call 53;refine (jB.calls _ _ _ _ _ (jXa _ _ _)).mono ?_;rintro e w5 ⟨rfl,⟨nd,rfl⟩⟩;rw [H5.out]) |(go_at_call 54;have tk1:=tok1;clear tok1;refine (HO.out _).mono ?_;rintro e w6 ⟨rfl,hb6⟩;have V6:=am (VF.below (W:=World.drewN _ _) V4.out hb6);have HB6:=am (jM (w1:=World.drewN _ _) (show Below w.heap.size w (World.drewN _ _) from ⟨HB4.out.os,HB4.out.tape,HB4.out.output,HB4.out.size,HB4.out.block⟩) HB4.out.size hb6);clear hb6 g0 g1 g2 g3 e0 e1 e2 e3 ht4;obtain ⟨g0,g1,g2,g3,e0,e1,e2,e3,ht4⟩:=VF.cells V6.out) |(go_at_call 54;refine (HO.out _).mono ?_;rintro e w7 ⟨rfl,hb7⟩;have V7:=am (VF.below V6.out hb7);have HB7:=am (jM HB6.out HB6.out.size hb7);clear hb7 g0 g1 g2 g3 e0 e1 e2 e3 ht4;obtain ⟨g0,g1,g2,g3,e0,e1,e2,e3,ht4⟩:=VF.cells V7.out;obtain ⟨f0,f1,f2,f3⟩:=VF.frozen V7.out))
         go_roundw
         case rel=>exact ⟨n+1,x,by go_num,hlt,by omega,by omega,HN,⟨four_stored V7.out.1⟩,⟨four_far V7.out.2.2 (by omega)⟩,⟨four_below HB7.out (by omega)⟩⟩
         case measure=>simp [intOf];omega
    ·have hgo:=HA.out
     rw [List.drop_eq_nil_of_le (by omega)] at hgo
     obtain rfl:some last=q:=by simpa [jq.go] using hgo
     clear hgo HA
     have HY:=am HZ.out
     clear HZ
     by_cases h0:l1.length=0
     ·have hy:=HY.out
      simp only [if_pos h0] at hy
      have HQ:=am (fun W (hb:Below w.heap.size w W)=>je.calls k A1 c1 l1 0 (l1.length:Int) false r W (Kd.jJ HR1.out hb) hc1 hy)
      have HBX:=HB.out
      clear hy HY
      have hz1:((l1.length:Int) == 0)=true:=by simp [h0]
      have hz2:(l1.length == 0)=true:=by simp [h0]
      clear h0
      go_wp2_with (first |(go_at_call 55;refine (HQ.out _ HBX).mono ?_;rintro e w9 ⟨rfl,hb9⟩;have HB9:=am (jM HBX HBX.size hb9)))
      go_ret
      exact ⟨rfl,HB9.out⟩
     ·have hz1:((l1.length:Int) == 0)=false:=by simpa using h0
      have hz2:(l1.length == 0)=false:=by simpa using h0
      have HO:=am (fun W=>jVa.calls last.f0 last.f1 last.f2 last.f3 _ W (jNb _ _ _ _))
      have hy:=HY.out
      simp only [if_neg h0] at hy
      clear HY
      cases ho:inB last.f1 7 12 with
      | true =>
       rw [ho] at HO hy
       obtain rfl:false=r:=by simpa using hy
       clear hy ho h0
       go_wp2_with (first |(go_at_call 54;refine (HO.out _).mono ?_;rintro e w6 ⟨rfl,hb6⟩;have HBX:=jM HB.out HB.out.size hb6;clear hb6))
       go_ret
       exact ⟨rfl,HBX⟩
      | false =>
       rw [ho] at HO hy
       simp only [Bool.false_eq_true,if_false] at hy
       have HQ:=am (fun W (hb:Below w.heap.size w W)=>je.calls k A1 c1 l1 0 (l1.length:Int) false r W (Kd.jJ HR1.out hb) hc1 hy)
       clear hy ho h0
       go_wp2_with (first |(go_at_call 54;refine (HO.out _).mono ?_;rintro e w6 ⟨rfl,hb6⟩;have HBX:=jM HB.out HB.out.size hb6;clear hb6) |(go_at_call 55;refine (HQ.out _ HBX).mono ?_;rintro e w9 ⟨rfl,hb9⟩;have HB9:=am (jM HBX HBX.size hb9)))
       go_ret
       exact ⟨rfl,HB9.out⟩
def jbb.f (a0_0 : Int) (a0_1 : Int) (a0_2 : Int) (a0_3 : Int) : Option (Bool) := (jB.f a0_1 2 6).bind fun t264 => (some t264)
set_option maxHeartbeats 8000000 in
set_option maxRecDepth 100000 in
theorem jbb.calls (a0_0 : Int) (a0_1 : Int) (a0_2 : Int) (a0_3 : Int) (r : Bool) (w : World) (h : jbb.f a0_0 a0_1 a0_2 a0_3 = some r) :
  Calls Try.prog 61 #[.agg #[.int .i64 a0_0, .int .i64 a0_1, .int .i64 a0_2, .int .i64 a0_3]] w fun e w'=>e=.returned (.bool r)∧Below w.heap.size w w':=by
 have hu52:=Try.underlying52
 have HB:=am (Below.refl w.heap.size w)
 have H:((jB.f a0_1 2 6).bind fun t264=>(some t264))=some r:=h
 clear h
 replace H:=bzS H
 obtain ⟨t264,A20,H⟩:=H
 replace H:(some t264)=some r:=H
 have A2:=am A20
 clear A20
 obtain rfl:=Option.some.inj H
 go_enter Try.func61,Try.ntmps61
 go_wp2_with (first |((with_reducible refine jO (N:=1) rfl ?_);refine bE (N:=1) (cs:=#[.int .i64 a0_0, .int .i64 a0_1, .int .i64 a0_2, .int .i64 a0_3]) (t:=52) ?_;intro gb263 hg w3 hbox hb;have BK263:=am (hbox);have GW263:=am ((Y1:w.heap.size≤gb263));have GE263:=am ((Y1:w.heap.size≤gb263));replace HB:=am (jd (bq) hb);clear hb hbox hg;have hcz4_0:=bc0 BK263.out;have hcz4_1:=bc1 BK263.out;have hcz4_2:=bc2 BK263.out;have hcz4_3:=bc3 BK263.out;have hfz4_0:=ja BK263.out 0;have hfz4_1:=ja BK263.out 1;have hfz4_2:=ja BK263.out 2;have hfz4_3:=ja BK263.out 3) |((with_reducible refine jf (f:=53) rfl ?_);refine gL (some 5) Try.func53 #[.int .i64 a0_1, .int .i64 2, .int .i64 6] ?_;(with_reducible refine (jB.calls a0_1 2 6 t264 _ A2.out).mono ?_);rintro e w' ⟨rfl,⟨nd,rfl⟩⟩;refine ⟨_,rfl,?_⟩))
 go_ret
 exact ⟨Y0,by repeat (first |(with_reducible first | exact HB.out | apply jD | apply jh | apply jC | refine jA ?_ GE263.out) | exact HB.out)⟩
def impl_Line.f (l0 : List (S52)) : Option ((List (S52))) := some (l0)
set_option maxHeartbeats 8000000 in
set_option maxRecDepth 100000 in
theorem impl_Line.calls (P0_ : Nat → Prop) (u9000_ : Value) (l0 : List (S52)) (r : List (S52)) (w0 w : World) (hB : Below w0.heap.size w0 w) (ho0 : Kd.R k52 52 w w0.heap.size P0_ u9000_ l0) (h : impl_Line.f l0 = some r) :
  Calls Try.prog 63 #[u9000_] w fun e w'=>∃ v0_:Value,e=.returned (v0_)∧Kd.R k52 52 w' w0.heap.size (fun k_=>(P0_ k_∨w.heap.size≤k_)) v0_ r∧Below w0.heap.size w0 w'∧Kept w w' (fun k_=>P0_ k_):=by
 have HO0:=am (show Kd.R k52 52 w w0.heap.size (fun k_=>(P0_ k_∨w.heap.size≤k_)) u9000_ l0 from Kd.jGa ho0 (fun k_ hk=>(.inl hk)))
 have HK:=am (Kept.refl w (fun k_=>P0_ k_))
 have HW0:=am hB.size
 have HB:=am hB
 clear hB
 have H:(some (l0))=some r:=h
 clear h
 obtain ⟨y265,hy265⟩:∃ y_:List (S52),y_=(l0):=⟨_,rfl⟩
 replace H:(some y265)=some r:=by first |(rw [hy265];with_reducible exact H) |(have H2_:=(Option.bind_some _ _).symm.trans H;rw [hy265];with_reducible exact H2_) |(have H2_:=(Option.bind_some _ _).symm.trans H;with_reducible exact H2_) | with_reducible exact H |(rw [hy265];exact H) | exact H
 have Ny265:=am hy265
 clear hy265
 obtain rfl:=Option.some.inj H
 obtain ⟨Ao2,co2,eo2⟩:=Kd.jOa HO0.out
 subst eo2
 obtain ⟨i03,hi03,_,hsz3,_⟩:=info_parts info52
 have hy3:y265.length=l0.length:=(by rw [Ny265.out])
 have hcut3:=cut_clip (P:=Try.prog) 28 52 Try.underlying28 hi03 Ao2 _ co2 _ (Kd.jG HO0.out).2.1 hy3
 have hr3:=Kd.R_clip HO0.out Ny265.out
 clear hy3 hi03 hsz3 HO0
 have HO267:=am hr3
 clear hr3
 go_enter Try.func63,Try.ntmps63
 go_wp2
 go_ret
 exact ⟨_,Y0,rq HO267.out,bq,Y8⟩

section
attribute [local go_sem] jca jaa jpa joa jS jR jba jZ jg
def BSet (w : World) (b n : Nat) (S : Int → Bool) : Prop :=
 ∃ D:DataW Unit,w.ownsMap Try.prog 3 (plainElem Try.prog 4) b n D∧∀ x:Int,(Lit.int .i64 x).wf=true→D.atKey (.int .i64 x) (.lit (.bool false))=.lit (.bool (S x))
theorem BSet.made (w : World) : BSet (w.alloc (.map #[] 0)) w.heap.size 0 (fun _ => false) := ⟨.map [], World.ownsMap_made w _ _ _, fun x _ => rfl⟩
theorem BSet.kept {w w' : World} {b n : Nat} {S : Int → Bool} (h : BSet w b n S) {row : Option Nat} (hg : w.grownBy w' row) (hne : some b ≠ row) : BSet w' b n S := by
 obtain ⟨D,h1,h2⟩:=h
 exact ⟨D,h1.kept hg hne,h2⟩
theorem BSet.below {w w' : World} {b n : Nat} {S : Int → Bool} (h : BSet w b n S) (hb : Below w.heap.size w w') : BSet w' b n S := by
 obtain ⟨D,⟨es,clock,h1,h2⟩,h3⟩:=h
 exact ⟨D,⟨es,clock,(hb.block b (Array.getElem?_eq_some_iff.1 h1).1).trans h1,h2⟩,h3⟩
theorem BSet.congr {w : World} {b n : Nat} {S S' : Int → Bool} (h : BSet w b n S) (e : ∀ x, S x = S' x) : BSet w b n S' := by
 obtain rfl:S=S':=funext e
 exact h
set_option maxRecDepth 100000 in
theorem plainElem_bool_inv {v : Value} {z : DataW Unit × List MemPlace} (h : plainElem Try.prog 4 v = some z) : ∃ x, v = .bool x ∧ z = (.lit (.bool x), []) := by
 unfold plainElem at h
 rw [Try.underlying4] at h
 cases v <;> simp at h
 exact ⟨_,rfl,h.symm⟩
set_option maxRecDepth 100000 in
theorem BSet.look {w : World} {b n : Nat} {S : Int → Bool} (h : BSet w b n S) {x : Int} (hx : (Lit.int .i64 x).wf = true) : (Instr.lookup 56 (.map (some b)) (.int .i64 x) false).run Try.prog w = .ok (.bool (S x)) w := by
 obtain ⟨D,h1,h2⟩:=h
 obtain ⟨v,ps,hrun,hv⟩:=h1.lookup (Maps.int_keyed Try.underlying3) Try.underlying56 (Try.zeroValue4 w) (plainElem_bool Try.underlying4 false) (Maps.keyOf_int_mk Try.underlying3 hx)
 obtain ⟨y,rfl,hy⟩:=plainElem_bool_inv hv
 simp only [Prod.mk.injEq] at hy
 rw [h2 x hx] at hy
 injection hy.1 with hy
 injection hy with hy
 rw [hrun,← hy]
set_option maxRecDepth 100000 in
theorem BSet.put {w : World} {b n : Nat} {S : Int → Bool} (h : BSet w b n S) (hn : n < maxLen) {x : Int} (hx : (Lit.int .i64 x).wf = true) (v : Bool) : ∃ w', (Instr.mapUpdate 56 (.map (some b)) (.int .i64 x) (.bool v)).run Try.prog w = .ok () w' ∧ BSet w' b (n + 1) (fun y => if y = x then v else S y) ∧ w.grownBy w' (some b) := by
 obtain ⟨D,h1,h2⟩:=h
 obtain ⟨w',hrun,h3,h4⟩:=h1.update (Maps.int_keyed Try.underlying3) Try.underlying56 hn (Maps.keyOf_int_mk Try.underlying3 hx) (plainElem_bool Try.underlying4 v)
 refine ⟨w',hrun,⟨_,h3,fun y hy=>?_⟩,h4⟩
 show _=DataW.lit (Lit.bool (if y=x then v else S y))
 by_cases e:y=x
 ·subst e
  rw [if_pos rfl]
  exact Maps.atKey_put_same h1.isMap (by first | exact trivial | simp [WideAt.IsKeyLit] | constructor) _ _
 ·rw [if_neg e,← h2 y hy]
  exact Maps.atKey_put_other (fun h=>e (by injection h)) _ _
theorem BSet.alloc {w : World} {b n : Nat} {S : Int → Bool} (h : BSet w b n S) (o : Obj) : BSet (w.alloc o) b n S := h.kept (World.grownBy_alloc w o none) (by simp)
theorem BSet.of_put {w w' : World} {b n x : Nat} {D : DataW Unit} {S : Int → Bool} (h1 : w.ownsMap Try.prog 3 (plainElem Try.prog 4) b n D) (h2 : ∀ x : Int, (Lit.int .i64 x).wf = true → D.atKey (.int .i64 x) (.lit (.bool false)) = .lit (.bool (S x)))
  (h3:w'.ownsMap Try.prog 3 (plainElem Try.prog 4) b (n+1) (D.put (.int .i64 (x:Int)) (.lit (.bool true)))):BSet w' b (n+1) (fun y=>if y=(x:Int) then true else S y):=by
 refine ⟨_,h3,fun y hy=>?_⟩
 show _=DataW.lit (Lit.bool (if y=(x:Int) then true else S y))
 by_cases e:y=(x:Int)
 ·subst e
  rw [if_pos rfl]
  exact Maps.atKey_put_same h1.isMap (by first | exact trivial | simp [WideAt.IsKeyLit] | constructor) _ _
 ·rw [if_neg e,← h2 y hy]
  exact Maps.atKey_put_other (fun h=>e (by injection h)) _ _
theorem wf_nat {k : Nat} (h : k ≤ 1000000000) : (Lit.int .i64 (k : Int)).wf = true := by
 have e:wrap64 (k:Int)=k:=by unfold wrap64;omega
 have h2:=wrap64_wf (k:Int)
 rwa [e] at h2
def jmpB (k : Int) : Bool := decide (2 ≤ k) && decide (k ≤ 6)
theorem jmp_eq (a b c d : Int) : jbb.f a b c d = some (jmpB b) := by
 unfold jbb.f jB.f jmpB
 by_cases h:b≥2
 ·rw [if_pos h];simp [show 2≤b from h]
 ·rw [if_neg h];simp [show ¬ 2≤b from h]
def bjE (p : List S52) (d : Int) : Nat → Nat → Nat
 | 0,k=>k
 | n+1,k=>if (k:Int)<(p.length:Int)∧d≤(jb p (k:Int)).f0 then bjE p d n (k+1) else k
def bjR (p : List S52) (m : Nat) (y : Int) : Bool := jmpB (jb p (m : Int)).f1 && (decide ((m : Int) < y) && decide (y < ((bjE p (jb p (m : Int)).f0 (p.length - (m + 1)) (m + 1) : Nat) : Int)))
def bjN (p : List S52) : Nat → Int → Bool
 | 0,_=>false
 | i+1,y=>bjN p i y || bjR p i y
def bjS (p : List S52) : Int → Bool := bjN p p.length
def M6 : Nat := 1048576
theorem M6_lt {i : Nat} (h : i ≤ M6) : i * M6 + M6 < maxLen := by
 have h1:=Nat.mul_le_mul_right M6 h
 have h2:M6 * M6+M6<maxLen:=by decide
 omega
theorem bj_start (l : List S52) (i : Nat) (y : Int) : bjN l i y = (bjN l i y || (decide ((i : Int) < y) && decide (y < ((i + 1 : Nat) : Int)))) := by
 have e:(decide ((i:Int)<y) && decide (y<((i+1:Nat):Int)))=false:=by
  rw [Bool.and_eq_false_iff]
  by_cases h:(i:Int)<y
  ·exact .inr (dzF (by omega))
  ·exact .inl (dzF h)
 rw [e,Bool.or_false]
theorem bj_put (b : Bool) (i kk : Nat) (h : i < kk) (y : Int) : (if y = (kk : Int) then true else (b || (decide ((i : Int) < y) && decide (y < (kk : Int))))) = (b || (decide ((i : Int) < y) && decide (y < ((kk + 1 : Nat) : Int)))) := by
 by_cases e:y=(kk:Int)
 ·rw [if_pos e,dzT (p:=(i:Int)<y) (by omega),dzT (p:=y<((kk+1:Nat):Int)) (by omega)];simp
 ·rw [if_neg e]
  have:decide (y<(kk:Int))=decide (y<((kk+1:Nat):Int)):=by rw [Bool.eq_iff_iff];simp only [decide_eq_true_eq];omega
  rw [this]
set_option maxHeartbeats 8000000 in
set_option maxRecDepth 100000 in
theorem impl_behindJumps.calls (A0 : Option Addr) (c0 : Nat) (l0 : List (S52)) (w : World) (hr0 : Kd.C k52 w A0 l0.length l0) (hc0 : l0.length ≤ c0) (hlen : l0.length ≤ M6) :
  Calls Try.prog 34 #[.slice A0 l0.length c0] w fun e w'=>∃ b n,e=.returned (.map (some b))∧w.heap.size≤b∧BSet w' b n (bjS l0)∧Below w.heap.size w w':=by
 have HR:=am hr0
 have hmm:=@run_makeMap Try.prog
 have hm:l0.length≤9223372036854775807:=Kd.C_max hr0
 clear hr0
 go_enter Try.func34,Try.ntmps34
 go_wp2
 go_loopw [10] (fun v10 wr=>∃ i n:Nat,i≤l0.length∧v10=.int .i64 i∧jv (n≤i * M6)∧jv (BSet wr w.heap.size n (bjN l0 i))∧jv (Below w.heap.size w wr)) (fun v10 _=>l0.length - (intOf v10).toNat)
 case atStart=>exact ⟨0,0,Nat.zero_le _,rfl,⟨Nat.zero_le _⟩,⟨BSet.made w⟩,⟨(Below.refl _ _).alloc (Nat.le_refl _) _⟩⟩
 case round =>
  obtain ⟨i,n,hi,rfl,HN,HS,HB⟩:=hrel
  by_cases hlt:i<l0.length
  ·obtain ⟨ad,rfl,x0,x1,x2,x3⟩:=jX (Kd.jJ HR.out HB.out) (i:Int) (by omega) (by omega)
   rw [Int.toNat_natCast] at x0 x1 x2 x3
   have HJ:=am (fun W=>jbb.calls _ _ _ _ _ W (jmp_eq (jb l0 (i:Int)).f0 (jb l0 (i:Int)).f1 (jb l0 (i:Int)).f2 (jb l0 (i:Int)).f3))
   cases hj:jmpB (jb l0 (i:Int)).f1 with
   | false =>
    rw [hj] at HJ
    have HS1:=am (fun (W:World) (hb:Below wr.heap.size wr W)=>(HS.out.below hb).congr (S':=bjN l0 (i+1)) (fun y=>by simp [bjN,bjR,hj]))
    clear hj
    go_wp2_with (go_at_call 61;refine (HJ.out _).mono ?_;rintro e w2 ⟨rfl,hb2⟩;have hb3:=am (show Below wr.heap.size wr w2 from ((Below.refl _ wr).alloc (Nat.le_refl _) _).trans (hb2.mono (by simp)));clear hb2)
    go_roundw
    case rel=>exact ⟨i+1,n,hlt,by go_num,⟨Nat.le_trans HN.out (Nat.mul_le_mul_right _ (Nat.le_succ i))⟩,⟨HS1.out _ hb3.out⟩,⟨HB.out.trans (hb3.out.mono HB.out.size)⟩⟩
    case measure=>simp [intOf];omega
   | true =>
    rw [hj] at HJ
    have HJJ:=am hj
    clear hj
    go_wp2_with (go_at_call 61;refine (HJ.out _).mono ?_;rintro e w2 ⟨rfl,hb2⟩;have hb3:=am (show Below wr.heap.size wr w2 from ((Below.refl _ wr).alloc (Nat.le_refl _) _).trans (hb2.mono (by simp)));have hbx:=am ((hb2.block wr.heap.size (by rw [World.size_alloc];omega)).trans (heap_alloc_new wr (.cells #[.int .i64 (jb l0 (i:Int)).f0, .int .i64 (jb l0 (i:Int)).f1, .int .i64 (jb l0 (i:Int)).f2, .int .i64 (jb l0 (i:Int)).f3] 52)));clear hb2)
    obtain ⟨W1,rfl⟩:∃ W1,W1=wr:=⟨_,rfl⟩
    have HG:=am (show w.heap.size<W1.heap.size by obtain ⟨D,hD,_⟩:=HS.out;exact hD.lt)
    go_loopw [6] (fun v6 w3=>∃ kk n2:Nat,i+1≤kk∧kk≤l0.length∧v6=.int .i64 kk∧jv (bjE l0 (jb l0 (i:Int)).f0 (l0.length - kk) kk=bjE l0 (jb l0 (i:Int)).f0 (l0.length - (i+1)) (i+1))∧jv (n2≤n+(kk - (i+1)))∧jv (BSet w3 w.heap.size n2 (fun y=>bjN l0 i y ||(decide ((i:Int)<y) && decide (y<(kk:Int)))))∧jv (w3.heap[W1.heap.size]?=some (.cells #[.int .i64 (jb l0 (i:Int)).f0, .int .i64 (jb l0 (i:Int)).f1, .int .i64 (jb l0 (i:Int)).f2, .int .i64 (jb l0 (i:Int)).f3] 52 (0,0)))∧jv (Below w.heap.size w w3)) (fun v6 _=>l0.length - (intOf v6).toNat)
    case atStart=>exact ⟨i+1,n,Nat.le_refl _,hlt,by go_num,⟨rfl⟩,⟨Nat.le_add_right _ _⟩,⟨(HS.out.below hb3.out).congr (fun y=>bj_start l0 i y)⟩,hbx,⟨HB.out.trans (hb3.out.mono HB.out.size)⟩⟩
    case round =>
     obtain ⟨kk,n2,hk1,hk2,rfl,HE,HN3,HS3,HX3,HB3⟩:=hrel
     by_cases hk:kk<l0.length
     ·obtain ⟨ad2,e2,y0,y1,y2,y3⟩:=jX (Kd.jJ HR.out HB3.out) (kk:Int) (by omega) (by omega)
      obtain rfl:ad=ad2:=by injection e2
      rw [Int.toNat_natCast] at y0 y1 y2 y3
      have z0:wr.cell? ⟨W1.heap.size,0,none⟩=some (.int .i64 (jb l0 (i:Int)).f0):=(jFa HX3.out 0).trans rfl
      by_cases hd:(jb l0 (i:Int)).f0≤(jb l0 (kk:Int)).f0
      ·have hdb:=dzT hd
       have hE2:=am (show bjE l0 (jb l0 (i:Int)).f0 (l0.length - (kk+1)) (kk+1)=bjE l0 (jb l0 (i:Int)).f0 (l0.length - (i+1)) (i+1) by
        rw [← HE.out,show l0.length - kk=(l0.length - (kk+1))+1 by omega,bjE,if_pos ⟨by omega,hd⟩])
       obtain ⟨D,hD1,hD2⟩:=HS3.out
       have HD1:=am hD1
       have HD2:=am hD2
       have HNL:=am (show n2<maxLen from Nat.lt_of_le_of_lt (Nat.le_trans HN3.out (Nat.add_le_add HN.out (show kk - (i+1)≤M6 by omega))) (M6_lt (by omega)))
       have HKW:=am (show (Lit.int .i64 (kk:Int)).wf=true from wf_nat (by unfold M6 at hlen;omega))
       clear hD1 hD2 hd
       go_wp2
       repeat (go_quiet (fail);try go_wp2_with (at_mapUpdate;refine wpList_mapUpdate_own _ rfl _ _ _ 56 rfl 3 4 (Maps.int_keyed Try.underlying3) Try.underlying56 _ w.heap.size n2 D rfl HD1.out HNL.out _ _ (.int .i64 (kk:Int)) rfl rfl (Maps.keyOf_int_mk Try.underlying3 HKW.out) (.lit (.bool true)) [] (plainElem_bool Try.underlying4 true) ?_;intro w5 hown5 hgrow5;have HO5:=am hown5;have HG5:=am hgrow5;clear hown5 hgrow5))
       go_roundw
       case rel=>exact ⟨kk+1,n2+1,by omega,hk,by go_num,hE2,⟨by have:=HN3.out;omega⟩,⟨(BSet.of_put HD1.out HD2.out HO5.out).congr (fun y=>bj_put _ i kk (by omega) y)⟩,⟨(HG5.out.block W1.heap.size (by have:=(Array.getElem?_eq_some_iff.1 HX3.out).1;exact this) (by have:=HG.out;simp;omega)).trans HX3.out⟩,⟨(jh HB3.out nq).grown HG5.out HB3.out.size (fun k e=>by cases e;exact Nat.le_refl _)⟩⟩
       case measure=>simp [intOf];omega
      ·have hdb:=dzF hd
       have hex:bjE l0 (jb l0 (i:Int)).f0 (l0.length - kk) kk=kk:=by
        rw [show l0.length - kk=(l0.length - (kk+1))+1 by omega,bjE,if_neg (fun h=>hd h.2)]
       clear hd
       have HSF:=am (HS3.out.congr (S':=bjN l0 (i+1)) (fun y=>by simp only [bjN,bjR,HJJ.out,Bool.true_and,← HE.out];rw [hex]))
       have HN4:=am (show n2≤(i+1) * M6 by rw [Nat.add_mul,Nat.one_mul];exact Nat.le_trans HN3.out (Nat.add_le_add HN.out (by omega)))
       clear hex
       go_wp2
       repeat (go_quiet (fail);try go_wp2)
       go_roundw
       case rel=>exact ⟨i+1,n2,hlt,by go_num,HN4,⟨Y45⟩,⟨Y46⟩⟩
       case measure=>simp [intOf];omega
     ·have hex:bjE l0 (jb l0 (i:Int)).f0 (l0.length - kk) kk=kk:=by
       rw [show l0.length - kk=0 by omega,bjE]
      have HSF:=am (HS3.out.congr (S':=bjN l0 (i+1)) (fun y=>by simp only [bjN,bjR,HJJ.out,Bool.true_and,← HE.out];rw [hex]))
      have HN4:=am (show n2≤(i+1) * M6 by rw [Nat.add_mul,Nat.one_mul];exact Nat.le_trans HN3.out (Nat.add_le_add HN.out (by omega)))
      clear hex
      go_wp2
      repeat (go_quiet (fail);try go_wp2)
      go_roundw
      case rel=>exact ⟨i+1,n2,hlt,by go_num,HN4,⟨Y45⟩,⟨Y46⟩⟩
      case measure=>simp [intOf];omega
  ·obtain rfl:i=l0.length:=by omega
   go_wp2
   go_ret
   exact ⟨_,_,rfl,Nat.le_refl _,HS.out,HB.out⟩
def woG (p : List S52) (gone : Int → Bool) : Nat → Int → List S52 → Option (List S52)
 | 0,_,_=>none
 | k+1,i,acc=>if i<(p.length:Int) then (if 0≤i then (if gone i=true then (jY.f k p i).bind fun e=>woG p gone k e acc else (if acc.length<4398046511104 then woG p gone k (wrap64 (i+1)) (acc ++ [jb p i]) else none)) else none) else some acc
set_option maxHeartbeats 8000000 in
set_option maxRecDepth 100000 in
theorem impl_without_Prune (k : Nat) (A0 : Option Addr) (c0 : Nat) (l0 : List (S52)) (B0 : Nat) (gone : Int → Bool) (r : List (S52)) (w : World) (hr0 : Kd.C k52 w A0 l0.length l0) (hc0 : l0.length ≤ c0) (hlen : l0.length ≤ M6) (h : woG l0 gone k 0 [] = some r)
  (hp:∀ W,Below w.heap.size w W→∀ (x:Int),(Lit.int .i64 x).wf=true→Calls Try.prog 36 #[.int .i64 x, .pointer (some ⟨B0,0,none⟩)] W fun e w'=>e=.returned (.bool (gone x))∧Below W.heap.size W w') :
  Calls Try.prog 35 #[.slice A0 l0.length c0, .func (.func 36) #[] #[.pointer (some ⟨B0,0,none⟩)]] w fun e w'=>∃ v0_:Value,e=.returned v0_∧Kd.R k52 52 w' w.heap.size (fun _=>True) v0_ r∧Below w.heap.size w w':=by
 have HR:=am hr0
 have HP:=am hp
 have H0:=am h
 have HB:=am (Below.refl w.heap.size w)
 have HLM:=am (show l0.length≤1048576 from hlen)
 have hm:l0.length≤9223372036854775807:=Kd.C_max hr0
 clear hr0 hp h hlen
 go_enter Try.func35,Try.ntmps35
 go_wp2_with ((with_reducible refine jO (N:=9) rfl ?_);refine Kd.R_mkcap k52 _ 52 rfl (N:=9) rfl 28 _ _ rfl (l0.length:Int) rfl rfl Try.underlying28 (.agg #[(.int .i64 0),(.int .i64 0),(.int .i64 0),(.int .i64 0)]) 32 info52 rfl (by decide) (by omega) (ok:=fun _=>True) trivial (by omega) (by have:=HLM.out;simp only [Int.toNat_natCast];omega) (Below.refl _ _) (Nat.le_refl _) ?_;intro v787 w7 ho8 hb hg_ hnew_;clear hg_ hnew_;have n0_:=am (Kd.jLa ho8 (jL (bq)));have n2_:=am (jd (bq) hb);clear HB;have HO:=n0_;have HB:=n2_;clear n0_ n2_ hb ho8)
 go_loopg [5,6] k (fun kq v5 v6 w'=>∃ (acc:List (S52)) (i:Int),v6=.int .i64 i∧jv (woG l0 gone kq i acc=some r)∧jv (kq≤k)∧jv (Kd.R k52 52 w' w.heap.size (fun _=>True) v5 acc)∧jv (Below w.heap.size w w'))
 case atStart=>exact ⟨[],0,rfl,H0,⟨Nat.le_refl _⟩,⟨rq HO.out⟩,⟨(bq)⟩⟩
 case round =>
  clear H0 HO HB
  obtain ⟨acc,i,rfl,HA,HK,HO,HB⟩:=hrel
  cases gk with
  | zero=>exact absurd HA.out (by simp [woG])
  | succ k1 =>
   have H:=HA.out
   clear HA
   simp only [woG] at H
   by_cases hlt:i<(l0.length:Int)
   ·rw [if_pos hlt] at H
    have hltb:=dzT hlt
    by_cases h0:0≤i
    ·rw [if_pos h0] at H
     have HW:=am (show (Lit.int .i64 i).wf=true by
      obtain ⟨n,rfl⟩:=Int.eq_ofNat_of_zero_le h0
      exact wf_nat (by have:=HLM.out;omega))
     cases hgn:gone i with
     | true =>
      rw [hgn,if_pos rfl] at H
      obtain ⟨e,he,H⟩:=bzS H
      have H':=am H
      have HE:=am (fun W (hb:Below w.heap.size w W)=>jY.calls k1 A0 c0 l0 i e W (Kd.jJ HR.out hb) hc0 he)
      have HGN:=am hgn
      clear H he hlt h0
      go_wp2_with (first |(go_at_call 36;refine (HP.out _ (bq) _ HW.out).mono ?_;rw [HGN.out];rintro e w2 ⟨rfl,hb2⟩;have n1_:=am (Kd.jP (rq HO.out) hb2);have n2_:=am (jd (bq) hb2);clear HO HB;have HO:=n1_;have HB:=n2_;clear n1_ n2_ hb2) |(go_at_call 62;refine (HE.out _ (bq)).mono ?_;rintro e w3 ⟨rfl,⟨nd,rfl⟩⟩))
      go_roundg k1
      case measure=>have:=HK.out;omega
      case rel=>exact ⟨acc,e,rfl,H',⟨by have:=HK.out;omega⟩,⟨rq HO.out⟩,⟨(bq)⟩⟩
     | false =>
      rw [hgn,if_neg (by simp)] at H
      by_cases hac:acc.length<4398046511104
      ·rw [if_pos hac] at H
       have H':=am H
       have LM:=am hac
       have HGN:=am hgn
       obtain ⟨ad,e2,x0,x1,x2,x3⟩:=jX HR.out i h0 hlt
       cases e2
       have p1:=ezT h0
       have q1:=ezT hlt
       clear H hac hgn h0 hlt
       go_wp2_with (first |(go_at_call 36;refine (HP.out _ (bq) _ HW.out).mono ?_;rw [HGN.out];rintro e w2 ⟨rfl,hb2⟩;have n1_:=am (Kd.jP (rq HO.out) hb2);have n2_:=am (jd (bq) hb2);clear HO HB;have HO:=n1_;have HB:=n2_;clear n1_ n2_ hb2;have y0:=(HB.out.cell (World.block_lt_of_cell? w _ x0)).trans x0;have y1:=(HB.out.cell (World.block_lt_of_cell? w _ x1)).trans x1;have y2:=(HB.out.cell (World.block_lt_of_cell? w _ x2)).trans x2;have y3:=(HB.out.cell (World.block_lt_of_cell? w _ x3)).trans x3) |((with_reducible refine jcb (b:=.append) (xs:=#[.tmp 20, .tmp 25]) rfl ?_);at_builtin;refine Kd.jVb k52 (w0:=w) w.heap.size rfl (.tmp 20) (.tmp 25) 28 52 (.agg #[(.int .i64 0),(.int .i64 0),(.int .i64 0),(.int .i64 0)]) 32 rfl Try.underlying28 info52 rfl (by decide) (by omega) u5 acc (⟨(jb l0 i).f0,(jb l0 i).f1,(jb l0 i).f2,(jb l0 i).f3⟩:S52) [.int .i64 ((jb l0 i).f0), .int .i64 ((jb l0 i).f1), .int .i64 ((jb l0 i).f2), .int .i64 ((jb l0 i).f3)] (fun _=>True) (fun _=>False) rfl rfl ?aP (fun _ hk=>hk.elim) ?aF ?aO ?aB ?aS ?aL ?_;(case aP=>exact k52_mkM _ _ _ (⟨(jb l0 i).f0,(jb l0 i).f1,(jb l0 i).f2,(jb l0 i).f3⟩:S52));(case aB=>exact (bq));(case aF=>exact (fun _ _=>trivial));(case aO=>exact (rq HO.out));(case aS=>exact (jL (bq)));(case aL=>have:=LM.out;omega);intro v173 w16 ho hb hg hat;have n1_:=am (hb);have n2_:=am (ho);clear HB HO;have HB:=n1_;have HO:=n2_;clear n1_ n2_ ho hb hg hat))
       go_roundg k1
       case measure=>have:=HK.out;omega
       case rel=>exact ⟨acc ++ [jb l0 i],wrap64 (i+1),rfl,H',⟨by have:=HK.out;omega⟩,⟨rq HO.out⟩,⟨(bq)⟩⟩
      ·rw [if_neg hac] at H;cases H
    ·rw [if_neg h0] at H;cases H
   ·rw [if_neg hlt] at H
    obtain rfl:=Option.some.inj H
    have hltb:=dzF hlt
    clear hlt
    go_wp2_with (go_at_call 63;refine (impl_Line.calls (fun _=>True) _ acc acc w _ (bq) (rq HO.out) (show impl_Line.f acc=some acc from rfl)).mono ?_;rintro e w9 ⟨v9,rfl,hR9,hB9,hK9⟩)
    go_ret
    exact ⟨_,rfl,Kd.jGa hR9 (fun _ _=>trivial),hB9⟩
set_option maxRecDepth 100000 in
theorem impl_Prune1_calls (S : Int → Bool) (x : Int) (hx : (Lit.int .i64 x).wf = true) (B0 b n : Nat) (w : World) (hc : w.cell? ⟨B0, 0, none⟩ = some (.map (some b))) (hS : BSet w b n S) :
  Calls Try.prog 36 #[.int .i64 x, .pointer (some ⟨B0,0,none⟩)] w fun e w'=>e=.returned (.bool (S x))∧Below w.heap.size w w':=by
 have hl:=BSet.look hS hx
 clear hS hx
 go_enter Try.func36,Try.ntmps36
 go_wp2
 go_ret
 exact ⟨rfl,Below.refl _ _⟩
theorem cell_newP (w : World) (v : Value) (t : TypeId) : (w.alloc (.cells #[v] t)).cell? ⟨w.heap.size, 0, none⟩ = some v := by simp
def jda.f (k : Nat) (l0_0 : List S78) (l1 : List S52) : Option (List S52) := (jq.f k l0_0 l1).bind fun v => if v = true then (if l1.length ≤ M6 then woG l1 (bjS l1) k 0 [] else none) else some []
set_option maxHeartbeats 8000000 in
set_option maxRecDepth 100000 in
theorem jda.calls (k : Nat) (A0_0 : Option Addr) (c0_0 : Nat) (l0_0 : List (S78)) (A1 : Option Addr) (c1 : Nat) (l1 : List (S52)) (r : List S52) (w : World) (hr0_0 : Kd.C k78 w A0_0 l0_0.length l0_0) (hc0_0 : l0_0.length ≤ c0_0) (hr1 : Kd.C k52 w A1 l1.length l1) (hc1 : l1.length ≤ c1) (h : jda.f k l0_0 l1 = some r) :
  Calls Try.prog 12 #[.agg #[.slice A0_0 l0_0.length c0_0], .slice A1 l1.length c1] w fun e w'=>∃ v0_:Value,e=.returned v0_∧Kd.R k52 52 w' w.heap.size (fun _=>True) v0_ r∧Below w.heap.size w w':=by
 obtain ⟨v,hv,h⟩:=bzS h
 have hu32:=Try.underlying32
 have B1:=am ((Below.refl w.heap.size w).alloc (Nat.le_refl _) (.cells #[.slice A0_0 l0_0.length c0_0] 32))
 have HV:=am (fun (W:World) (hb:Below w.heap.size w W)=>jq.calls k A0_0 c0_0 l0_0 A1 c1 l1 v W (Kd.jJ hr0_0 hb) hc0_0 (Kd.jJ hr1 hb) hc1 hv)
 cases v with
 | false =>
  rw [if_neg (by simp)] at h
  obtain rfl:=Option.some.inj h
  clear hv h hr0_0 hr1
  go_enter Try.func12,Try.ntmps12
  go_wp2_with (go_at_call 27;refine (HV.out _ B1.out).mono ?_;rintro e w' ⟨rfl,hb2⟩)
  go_ret
  exact ⟨_,rfl,Kd.R_nil _ _ _ _ _,B1.out.trans (hb2.mono (by simp))⟩
 | true =>
  rw [if_pos rfl] at h
  by_cases hlen:l1.length≤M6
  case neg=>rw [if_neg hlen] at h;cases h
  rw [if_pos hlen] at h
  have HJ:=am (fun (W:World) (hb:Below w.heap.size w W)=>impl_behindJumps.calls A1 c1 l1 W (Kd.jJ hr1 hb) hc1 hlen)
  have HW:=am (fun (W:World) (hb:Below w.heap.size w W) (B0 b n:Nat) (hc:W.cell? ⟨B0,0,none⟩=some (.map (some b))) (hS:BSet W b n (bjS l1)) =>
   impl_without_Prune k A1 c1 l1 B0 (bjS l1) r W (Kd.jJ hr1 hb) hc1 hlen h (fun W' hb' x hx=>impl_Prune1_calls (bjS l1) x hx B0 b n W' (jja hb' hc) (hS.below hb')))
  clear hv h hr0_0 hr1 hlen
  go_enter Try.func12,Try.ntmps12
  go_wp2_with (first |(go_at_call 27;refine (HV.out _ B1.out).mono ?_;rintro e w1 ⟨rfl,hb2⟩;have hb1:=am (B1.out.trans (hb2.mono (by simp)));clear HV hb2) |(go_at_call 34;refine (HJ.out _ hb1.out).mono ?_;rintro e w2 ⟨b,n,rfl,hbb,hS,hb3⟩;have HS:=am (hS.alloc (.cells #[.map (some b)] 56));have HB2:=am ((hb1.out.trans (hb3.mono hb1.out.size)).alloc (Nat.le_trans hb1.out.size hb3.size) (.cells #[.map (some b)] 56));clear HJ hS hb3) |(go_at_call 35;refine (HW.out _ HB2.out _ b n (cell_newP w2 (.map (some b)) 56) HS.out).mono ?_;rintro e w3 ⟨v2,rfl,hr2,hb4⟩))
  go_ret
  exact ⟨_,rfl,Kd.jLa hr2 HB2.out.size,jM HB2.out HB2.out.size hb4⟩
end
def jzb.f (a0_0 : Int) (a0_1 : Int) (a0_2 : Int) (a0_3 : Int) (a1_0 : Int) (a1_1 : Int) (a1_2 : Int) (a1_3 : Int) : Option (Bool) := if a0_0 = a1_0 then (if a0_1 = a1_1 then (if a0_2 = a1_2 then (if a0_3 = a1_3 then (some true) else (some false)) else (some false)) else (some false)) else (some false)
set_option maxHeartbeats 8000000 in
set_option maxRecDepth 100000 in
theorem jzb.calls (a0_0 : Int) (a0_1 : Int) (a0_2 : Int) (a0_3 : Int) (a1_0 : Int) (a1_1 : Int) (a1_2 : Int) (a1_3 : Int) (r : Bool) (w : World) (h : jzb.f a0_0 a0_1 a0_2 a0_3 a1_0 a1_1 a1_2 a1_3 = some r) :
  Calls Try.prog 37 #[.agg #[.int .i64 a0_0, .int .i64 a0_1, .int .i64 a0_2, .int .i64 a0_3], .agg #[.int .i64 a1_0, .int .i64 a1_1, .int .i64 a1_2, .int .i64 a1_3]] w fun e w'=>e=.returned (.bool r)∧Below w.heap.size w w':=by
 have hu52:=Try.underlying52
 have HB:=am (Below.refl w.heap.size w)
 have H:(if a0_0=a1_0 then (if a0_1=a1_1 then (if a0_2=a1_2 then (if a0_3=a1_3 then (some true) else (some false)) else (some false)) else (some false)) else (some false))=some r:=h
 clear h
 by_cases c3:a0_0=a1_0
 ·rw [if_pos c3] at H
  have c3b0:(a0_0 == a1_0)=true:=beq_iff_eq.mpr c3
  have c3b1:(a0_0 != a1_0)=false:=bne_eq_false_iff_eq.mpr c3
  clear c3
  by_cases c4:a0_1=a1_1
  ·rw [if_pos c4] at H
   have c4b0:(a0_1 == a1_1)=true:=beq_iff_eq.mpr c4
   have c4b1:(a0_1 != a1_1)=false:=bne_eq_false_iff_eq.mpr c4
   clear c4
   by_cases c5:a0_2=a1_2
   ·rw [if_pos c5] at H
    have c5b0:(a0_2 == a1_2)=true:=beq_iff_eq.mpr c5
    have c5b1:(a0_2 != a1_2)=false:=bne_eq_false_iff_eq.mpr c5
    clear c5
    by_cases c6:a0_3=a1_3
    ·rw [if_pos c6] at H
     have c6b0:(a0_3 == a1_3)=true:=beq_iff_eq.mpr c6
     have c6b1:(a0_3 != a1_3)=false:=bne_eq_false_iff_eq.mpr c6
     clear c6
     obtain rfl:=Option.some.inj H
     go_enter Try.func37,Try.ntmps37
     go_wp2_with (first |((with_reducible refine jO (N:=2) rfl ?_);refine bE (N:=2) (cs:=#[.int .i64 a0_0, .int .i64 a0_1, .int .i64 a0_2, .int .i64 a0_3]) (t:=52) ?_;intro gb268 hg w7 hbox hb;have BK268:=am (hbox);have GW268:=am ((Y1:w.heap.size≤gb268));have GE268:=am ((Y1:w.heap.size≤gb268));replace HB:=am (jd (bq) hb);clear hb hbox hg) |((with_reducible refine jO (N:=3) rfl ?_);refine bE (N:=3) (cs:=#[.int .i64 a1_0, .int .i64 a1_1, .int .i64 a1_2, .int .i64 a1_3]) (t:=52) ?_;intro gb269 hg w8 hbox hb;have BK269:=am (hbox);have GW269:=am ((Y13:w.heap.size≤gb269));have GE269:=am ((Y13:w.heap.size≤gb269));have NB268_269:=am ((Y18:gb268≠gb269));have NB269_268:=am ((Y19:gb269≠gb268));replace BK268:=am (jl (g:=gb268) (o:=.cells #[.int .i64 a0_0, .int .i64 a0_1, .int .i64 a0_2, .int .i64 a0_3] 52 (0,0)) (kq BK268.out) hb);replace HB:=am (jd (Y20) hb);clear hb hbox hg;have hnb9:=NB268_269.out;have hnc9:=NB269_268.out;have hcz10_0:=bc0 BK268.out;have hcz10_1:=bc1 BK268.out;have hcz10_2:=bc2 BK268.out;have hcz10_3:=bc3 BK268.out;have hfz10_0:=ja BK268.out 0;have hfz10_1:=ja BK268.out 1;have hfz10_2:=ja BK268.out 2;have hfz10_3:=ja BK268.out 3;have hcz11_0:=bc0 BK269.out;have hcz11_1:=bc1 BK269.out;have hcz11_2:=bc2 BK269.out;have hcz11_3:=bc3 BK269.out;have hfz11_0:=ja BK269.out 0;have hfz11_1:=ja BK269.out 1;have hfz11_2:=ja BK269.out 2;have hfz11_3:=ja BK269.out 3))
     go_ret
     exact ⟨Y0,Y21⟩
    ·rw [if_neg c6] at H
     have c6b0:(a0_3 == a1_3)=false:=beq_eq_false_iff_ne.mpr c6
     have c6b1:(a0_3 != a1_3)=true:=bne_iff_ne.mpr c6
     obtain rfl:=Option.some.inj H
     go_enter Try.func37,Try.ntmps37
     go_wp2_with (first |((with_reducible refine jO (N:=2) rfl ?_);refine bE (N:=2) (cs:=#[.int .i64 a0_0, .int .i64 a0_1, .int .i64 a0_2, .int .i64 a0_3]) (t:=52) ?_;intro gb268 hg w12 hbox hb;have BK268:=am (hbox);have GW268:=am ((Y1:w.heap.size≤gb268));have GE268:=am ((Y1:w.heap.size≤gb268));replace HB:=am (jd (bq) hb);clear hb hbox hg) |((with_reducible refine jO (N:=3) rfl ?_);refine bE (N:=3) (cs:=#[.int .i64 a1_0, .int .i64 a1_1, .int .i64 a1_2, .int .i64 a1_3]) (t:=52) ?_;intro gb269 hg w13 hbox hb;have BK269:=am (hbox);have GW269:=am ((Y13:w.heap.size≤gb269));have GE269:=am ((Y13:w.heap.size≤gb269));have NB268_269:=am ((Y18:gb268≠gb269));have NB269_268:=am ((Y19:gb269≠gb268));replace BK268:=am (jl (g:=gb268) (o:=.cells #[.int .i64 a0_0, .int .i64 a0_1, .int .i64 a0_2, .int .i64 a0_3] 52 (0,0)) (kq BK268.out) hb);replace HB:=am (jd (Y20) hb);clear hb hbox hg;have hnb14:=NB268_269.out;have hnc14:=NB269_268.out;have hcz15_0:=bc0 BK268.out;have hcz15_1:=bc1 BK268.out;have hcz15_2:=bc2 BK268.out;have hcz15_3:=bc3 BK268.out;have hfz15_0:=ja BK268.out 0;have hfz15_1:=ja BK268.out 1;have hfz15_2:=ja BK268.out 2;have hfz15_3:=ja BK268.out 3;have hcz16_0:=bc0 BK269.out;have hcz16_1:=bc1 BK269.out;have hcz16_2:=bc2 BK269.out;have hcz16_3:=bc3 BK269.out;have hfz16_0:=ja BK269.out 0;have hfz16_1:=ja BK269.out 1;have hfz16_2:=ja BK269.out 2;have hfz16_3:=ja BK269.out 3))
     go_ret
     exact ⟨Y0,Y21⟩
   ·rw [if_neg c5] at H
    have c5b0:(a0_2 == a1_2)=false:=beq_eq_false_iff_ne.mpr c5
    have c5b1:(a0_2 != a1_2)=true:=bne_iff_ne.mpr c5
    obtain rfl:=Option.some.inj H
    go_enter Try.func37,Try.ntmps37
    go_wp2_with (first |((with_reducible refine jO (N:=2) rfl ?_);refine bE (N:=2) (cs:=#[.int .i64 a0_0, .int .i64 a0_1, .int .i64 a0_2, .int .i64 a0_3]) (t:=52) ?_;intro gb268 hg w17 hbox hb;have BK268:=am (hbox);have GW268:=am ((Y1:w.heap.size≤gb268));have GE268:=am ((Y1:w.heap.size≤gb268));replace HB:=am (jd (bq) hb);clear hb hbox hg) |((with_reducible refine jO (N:=3) rfl ?_);refine bE (N:=3) (cs:=#[.int .i64 a1_0, .int .i64 a1_1, .int .i64 a1_2, .int .i64 a1_3]) (t:=52) ?_;intro gb269 hg w18 hbox hb;have BK269:=am (hbox);have GW269:=am ((Y13:w.heap.size≤gb269));have GE269:=am ((Y13:w.heap.size≤gb269));have NB268_269:=am ((Y18:gb268≠gb269));have NB269_268:=am ((Y19:gb269≠gb268));replace BK268:=am (jl (g:=gb268) (o:=.cells #[.int .i64 a0_0, .int .i64 a0_1, .int .i64 a0_2, .int .i64 a0_3] 52 (0,0)) (kq BK268.out) hb);replace HB:=am (jd (Y20) hb);clear hb hbox hg;have hnb19:=NB268_269.out;have hnc19:=NB269_268.out;have hcz20_0:=bc0 BK268.out;have hcz20_1:=bc1 BK268.out;have hcz20_2:=bc2 BK268.out;have hcz20_3:=bc3 BK268.out;have hfz20_0:=ja BK268.out 0;have hfz20_1:=ja BK268.out 1;have hfz20_2:=ja BK268.out 2;have hfz20_3:=ja BK268.out 3;have hcz21_0:=bc0 BK269.out;have hcz21_1:=bc1 BK269.out;have hcz21_2:=bc2 BK269.out;have hcz21_3:=bc3 BK269.out;have hfz21_0:=ja BK269.out 0;have hfz21_1:=ja BK269.out 1;have hfz21_2:=ja BK269.out 2;have hfz21_3:=ja BK269.out 3))
    go_ret
    exact ⟨Y0,Y21⟩
  ·rw [if_neg c4] at H
   have c4b0:(a0_1 == a1_1)=false:=beq_eq_false_iff_ne.mpr c4
   have c4b1:(a0_1 != a1_1)=true:=bne_iff_ne.mpr c4
   obtain rfl:=Option.some.inj H
   go_enter Try.func37,Try.ntmps37
   go_wp2_with (first |((with_reducible refine jO (N:=2) rfl ?_);refine bE (N:=2) (cs:=#[.int .i64 a0_0, .int .i64 a0_1, .int .i64 a0_2, .int .i64 a0_3]) (t:=52) ?_;intro gb268 hg w22 hbox hb;have BK268:=am (hbox);have GW268:=am ((Y1:w.heap.size≤gb268));have GE268:=am ((Y1:w.heap.size≤gb268));replace HB:=am (jd (bq) hb);clear hb hbox hg) |((with_reducible refine jO (N:=3) rfl ?_);refine bE (N:=3) (cs:=#[.int .i64 a1_0, .int .i64 a1_1, .int .i64 a1_2, .int .i64 a1_3]) (t:=52) ?_;intro gb269 hg w23 hbox hb;have BK269:=am (hbox);have GW269:=am ((Y13:w.heap.size≤gb269));have GE269:=am ((Y13:w.heap.size≤gb269));have NB268_269:=am ((Y18:gb268≠gb269));have NB269_268:=am ((Y19:gb269≠gb268));replace BK268:=am (jl (g:=gb268) (o:=.cells #[.int .i64 a0_0, .int .i64 a0_1, .int .i64 a0_2, .int .i64 a0_3] 52 (0,0)) (kq BK268.out) hb);replace HB:=am (jd (Y20) hb);clear hb hbox hg;have hnb24:=NB268_269.out;have hnc24:=NB269_268.out;have hcz25_0:=bc0 BK268.out;have hcz25_1:=bc1 BK268.out;have hcz25_2:=bc2 BK268.out;have hcz25_3:=bc3 BK268.out;have hfz25_0:=ja BK268.out 0;have hfz25_1:=ja BK268.out 1;have hfz25_2:=ja BK268.out 2;have hfz25_3:=ja BK268.out 3;have hcz26_0:=bc0 BK269.out;have hcz26_1:=bc1 BK269.out;have hcz26_2:=bc2 BK269.out;have hcz26_3:=bc3 BK269.out;have hfz26_0:=ja BK269.out 0;have hfz26_1:=ja BK269.out 1;have hfz26_2:=ja BK269.out 2;have hfz26_3:=ja BK269.out 3))
   go_ret
   exact ⟨Y0,Y21⟩
 ·rw [if_neg c3] at H
  have c3b0:(a0_0 == a1_0)=false:=beq_eq_false_iff_ne.mpr c3
  have c3b1:(a0_0 != a1_0)=true:=bne_iff_ne.mpr c3
  obtain rfl:=Option.some.inj H
  go_enter Try.func37,Try.ntmps37
  go_wp2_with (first |((with_reducible refine jO (N:=2) rfl ?_);refine bE (N:=2) (cs:=#[.int .i64 a0_0, .int .i64 a0_1, .int .i64 a0_2, .int .i64 a0_3]) (t:=52) ?_;intro gb268 hg w27 hbox hb;have BK268:=am (hbox);have GW268:=am ((Y1:w.heap.size≤gb268));have GE268:=am ((Y1:w.heap.size≤gb268));replace HB:=am (jd (bq) hb);clear hb hbox hg) |((with_reducible refine jO (N:=3) rfl ?_);refine bE (N:=3) (cs:=#[.int .i64 a1_0, .int .i64 a1_1, .int .i64 a1_2, .int .i64 a1_3]) (t:=52) ?_;intro gb269 hg w28 hbox hb;have BK269:=am (hbox);have GW269:=am ((Y13:w.heap.size≤gb269));have GE269:=am ((Y13:w.heap.size≤gb269));have NB268_269:=am ((Y18:gb268≠gb269));have NB269_268:=am ((Y19:gb269≠gb268));replace BK268:=am (jl (g:=gb268) (o:=.cells #[.int .i64 a0_0, .int .i64 a0_1, .int .i64 a0_2, .int .i64 a0_3] 52 (0,0)) (kq BK268.out) hb);replace HB:=am (jd (Y20) hb);clear hb hbox hg;have hnb29:=NB268_269.out;have hnc29:=NB269_268.out;have hcz30_0:=bc0 BK268.out;have hcz30_1:=bc1 BK268.out;have hcz30_2:=bc2 BK268.out;have hcz30_3:=bc3 BK268.out;have hfz30_0:=ja BK268.out 0;have hfz30_1:=ja BK268.out 1;have hfz30_2:=ja BK268.out 2;have hfz30_3:=ja BK268.out 3;have hcz31_0:=bc0 BK269.out;have hcz31_1:=bc1 BK269.out;have hcz31_2:=bc2 BK269.out;have hcz31_3:=bc3 BK269.out;have hfz31_0:=ja BK269.out 0;have hfz31_1:=ja BK269.out 1;have hfz31_2:=ja BK269.out 2;have hfz31_3:=ja BK269.out 3))
  go_ret
  exact ⟨Y0,Y21⟩
def ji.l0 : Nat → List (S52) → List (S52) → Int → Option (Bool)
 | 0,_,_,_=>none
 | k+1,x0,x1,x5=>if x5<(x0.length:Int) then (if 0≤x5 then (if x5<(x1.length:Int) then ((jzb.f ((jb x0 x5).f0) ((jb x0 x5).f1) ((jb x0 x5).f2) ((jb x0 x5).f3) ((jb x1 x5).f0) ((jb x1 x5).f1) ((jb x1 x5).f2) ((jb x1 x5).f3)).bind fun t272=>(if t272=true then (ji.l0 k x0 x1 (wrap64 (x5+1))) else (some false))) else (none)) else (none)) else (some true)
def ji.f (k : Nat) (l0 : List (S52)) (l1 : List (S52)) : Option (Bool) := if (l0.length : Int) = (l1.length : Int) then (ji.l0 k l0 l1 0) else (some false)
def ji.T6 : Bool × List (List Nat × List Nat) := (true, [([], []), ([], []), ([0, 1], [0, 1]), ([2], [2]), ([], []), ([], []), ([4, 5], [4, 5]), ([6], [6]), ([3, 7], [3, 7]), ([8], [8])])
def ji.B6 : List Nat := [0, 0, 3, 7, 0, 0, 48, 112, 255, 511]
theorem ji.tab6 : rtab .any (opsOf Try.f13 6) = ji.T6 := by kernel_rfl
theorem ji.bits6 : waitsOk ji.T6.2 ji.B6 = true := by kernel_rfl
set_option maxHeartbeats 8000000 in
set_option maxRecDepth 100000 in
theorem ji.calls (k : Nat) (A0 : Option Addr) (c0 : Nat) (l0 : List (S52)) (A1 : Option Addr) (c1 : Nat) (l1 : List (S52)) (r : Bool) (w : World) (hr0 : Kd.C k52 w A0 l0.length l0) (hc0 : l0.length ≤ c0) (hr1 : Kd.C k52 w A1 l1.length l1) (hc1 : l1.length ≤ c1) (h : ji.f k l0 l1 = some r) :
  Calls Try.prog 13 #[.slice A0 l0.length c0, .slice A1 l1.length c1] w fun e w'=>e=.returned (.bool r)∧Below w.heap.size w w':=by
 have hu52:=Try.underlying52
 have HR0:=am hr0
 have HC0:=am hc0
 clear hr0 hc0
 have HR1:=am hr1
 have HC1:=am hc1
 clear hr1 hc1
 have HB:=am (Below.refl w.heap.size w)
 have H:(if (l0.length:Int)=(l1.length:Int) then (ji.l0 k l0 l1 0) else (some false))=some r:=h
 clear h
 by_cases c3:(l0.length:Int)=(l1.length:Int)
 ·rw [if_pos c3] at H
  have c3b0:((l0.length:Int) == (l1.length:Int))=true:=beq_iff_eq.mpr c3
  have c3b1:((l0.length:Int) != (l1.length:Int))=false:=bne_eq_false_iff_eq.mpr c3
  have c3b2:(l0.length == l1.length)=true:=by first | simpa using c3 |(simp at c3 ⊢;omega)
  clear c3
  have H':=am H
  clear H
  go_enter Try.func13,Try.ntmps13
  go_wp2
  go_loopg [5] k (fun kq v5 w'=>∃ (x5_1:Int),v5=.int .i64 x5_1∧jv (ji.l0 kq l0 l1 x5_1=some r)∧jv (kq≤k)∧jv (Below w.heap.size w w'))
  case atStart=>exact ⟨(0),(sq),H',⟨Nat.le_refl _⟩,⟨bq⟩⟩
  case round =>
   clear H'
   try clear c1
   try clear p2
   try clear c3
   try clear c3b0
   try clear c3b1
   try clear c3b2
   obtain ⟨x5_1,rfl,HA,HK1,HB⟩:=hrel
   cases gk with
   | zero=>exact absurd HA.out (by simp [ji.l0])
   | succ k1 =>
    have H:=HA.out
    clear HA
    simp only [ji.l0] at H
    by_cases c4:x5_1<(l0.length:Int)
    ·rw [if_pos c4] at H
     have c4b0:decide (x5_1<(l0.length:Int))=true:=dzT c4
     clear c4
     by_cases c5:0≤x5_1
     ·rw [if_pos c5] at H
      have c5b0:decide (0≤x5_1)=true:=dzT c5
      clear c5
      by_cases c6:x5_1<(l1.length:Int)
      ·rw [if_pos c6] at H
       have c6b0:decide (x5_1<(l1.length:Int))=true:=dzT c6
       clear c6
       replace H:=bzS H
       obtain ⟨t272,A70,H⟩:=H
       replace H:(if t272=true then (ji.l0 k1 l0 l1 (wrap64 (x5_1+1))) else (some false))=some r:=H
       have A7:=am A70
       clear A70
       by_cases c8:t272=true
       ·subst c8
        have H1:(ji.l0 k1 l0 l1 (wrap64 (x5_1+1)))=some r:=by rw [if_pos rfl] at H;exact H
        clear H
        have H:=H1
        clear H1
        have H':=am H
        clear H
        try go_wp2
        replace HB:=am (jC HB.out)
        have p270:0≤(x5_1:Int):=ozD (uq)
        have q270:x5_1<(l0.length:Int):=ozD (uq)
        obtain ⟨ad270,e270,hx270_0,hx270_1,hx270_2,hx270_3⟩:=jX HR0.out x5_1 p270 q270
        have hw270_3:=hx270_3
        have hw270_2:=hx270_2
        have hw270_1:=hx270_1
        have hw270_0:=hx270_0
        cases e270
        replace hx270_0:=cb HB.out hx270_0
        replace hx270_1:=cb HB.out hx270_1
        replace hx270_2:=cb HB.out hx270_2
        replace hx270_3:=cb HB.out hx270_3
        replace p270:=ezT p270
        replace q270:=ezT q270
        have p271:0≤(x5_1:Int):=ozD (uq)
        have q271:x5_1<(l1.length:Int):=ozD (uq)
        obtain ⟨ad271,e271,hx271_0,hx271_1,hx271_2,hx271_3⟩:=jX HR1.out x5_1 p271 q271
        have hw271_3:=hx271_3
        have hw271_2:=hx271_2
        have hw271_1:=hx271_1
        have hw271_0:=hx271_0
        cases e271
        replace hx271_0:=cb HB.out hx271_0
        replace hx271_1:=cb HB.out hx271_1
        replace hx271_2:=cb HB.out hx271_2
        replace hx271_3:=cb HB.out hx271_3
        replace p271:=ezT p271
        replace q271:=ezT q271
        refine start_ (n:=10) (S:=fun w'=>w'.cell? (ad270.add ((x5_1).toNat * 4))=some (.int .i64 ((jb l0 x5_1).f0))∧w'.cell? ⟨(ad270.add ((x5_1).toNat * 4)).block,(ad270.add ((x5_1).toNat * 4)).off+1,none⟩=some (.int .i64 ((jb l0 x5_1).f1))∧w'.cell? ⟨(ad270.add ((x5_1).toNat * 4)).block,(ad270.add ((x5_1).toNat * 4)).off+2,none⟩=some (.int .i64 ((jb l0 x5_1).f2))∧w'.cell? ⟨(ad270.add ((x5_1).toNat * 4)).block,(ad270.add ((x5_1).toNat * 4)).off+3,none⟩=some (.int .i64 ((jb l0 x5_1).f3))∧w'.cell? (ad271.add ((x5_1).toNat * 4))=some (.int .i64 ((jb l1 x5_1).f0))∧w'.cell? ⟨(ad271.add ((x5_1).toNat * 4)).block,(ad271.add ((x5_1).toNat * 4)).off+1,none⟩=some (.int .i64 ((jb l1 x5_1).f1))∧w'.cell? ⟨(ad271.add ((x5_1).toNat * 4)).block,(ad271.add ((x5_1).toNat * 4)).off+2,none⟩=some (.int .i64 ((jb l1 x5_1).f2))∧w'.cell? ⟨(ad271.add ((x5_1).toNat * 4)).block,(ad271.add ((x5_1).toNat * 4)).off+3,none⟩=some (.int .i64 ((jb l1 x5_1).f3))) (ds:=[]) #[false,false,false,false,false,false,false,false,false,false] (by kernel_rfl) rfl rfl ⟨((HB.out.cell (World.block_lt_of_cell? w _ hw270_0)).trans hw270_0),((HB.out.cell (World.block_lt_of_cell? w _ hw270_1)).trans hw270_1),((HB.out.cell (World.block_lt_of_cell? w _ hw270_2)).trans hw270_2),((HB.out.cell (World.block_lt_of_cell? w _ hw270_3)).trans hw270_3),((HB.out.cell (World.block_lt_of_cell? w _ hw271_0)).trans hw271_0),((HB.out.cell (World.block_lt_of_cell? w _ hw271_1)).trans hw271_1),((HB.out.cell (World.block_lt_of_cell? w _ hw271_2)).trans hw271_2),((HB.out.cell (World.block_lt_of_cell? w _ hw271_3)).trans hw271_3)⟩ (fun hHeld=>?_);refine with_tabW ji.tab6 ji.bits6 (fun HT_ HW_=>?_)
        generalize wr.drew=w9 at HB hx270_0 hx270_1 hx270_2 hx270_3 hx271_0 hx271_1 hx271_2 hx271_3 hHeld ⊢
        refine pq (i:=0) (N:=some 17) #[true,false,false,false,false,false,false,false,false,false] ?_
        refine pq (i:=1) (N:=some 18) #[true,true,false,false,false,false,false,false,false,false] ?_
        refine pq (i:=2) (N:=some 19) #[true,true,true,false,false,false,false,false,false,false] ?_
        refine pq (i:=4) (N:=some 21) #[true,true,true,false,true,false,false,false,false,false] ?_
        refine pq (i:=5) (N:=some 22) #[true,true,true,false,true,true,false,false,false,false] ?_
        refine pq (i:=6) (N:=some 23) #[true,true,true,false,true,true,true,false,false,false] ?_
        refine take_ (i:=3) (N:=some 20) (v:=?_) (a':=?_) #[true,true,true,true,true,true,true,false,false,false] rfl rfl (jKb HT_.out HW_.out (by kernel_rfl)) (fun _ _ _ h=>h) (Or.inl ⟨by rfl,?_⟩) hHeld ?_ ?_
        rotate_left
        ·rintro w' ⟨s0,s1,s2,s3,s4,s5,s6,s7⟩
         go_simp
         with_reducible rfl
        rotate_left
        ·exact sa
        refine take_ (i:=7) (N:=some 24) (v:=?_) (a':=?_) #[true,true,true,true,true,true,true,true,false,false] rfl rfl (jKb HT_.out HW_.out (by kernel_rfl)) (fun _ _ _ h=>h) (Or.inl ⟨by rfl,?_⟩) hHeld ?_ ?_
        rotate_left
        ·rintro w' ⟨s0,s1,s2,s3,s4,s5,s6,s7⟩
         go_simp
         with_reducible rfl
        rotate_left
        ·exact sa
        refine one_ (i:=8) (N:=some 25) #[true,true,true,true,true,true,true,true,true,false] rfl rfl (one_of HT_.out (by kernel_rfl)) (by decide) (fun K hK=>?_)
        refine goes_ Try.func37 (by kernel_rfl) rfl #[.agg #[.int .i64 ((jb l0 x5_1).f0), .int .i64 ((jb l0 x5_1).f1), .int .i64 ((jb l0 x5_1).f2), .int .i64 ((jb l0 x5_1).f3)], .agg #[.int .i64 ((jb l1 x5_1).f0), .int .i64 ((jb l1 x5_1).f1), .int .i64 ((jb l1 x5_1).f2), .int .i64 ((jb l1 x5_1).f3)]] (by rfl) rfl rfl (aq) ?_
        with_reducible refine (jzb.calls ((jb l0 x5_1).f0) ((jb l0 x5_1).f1) ((jb l0 x5_1).f2) ((jb l0 x5_1).f3) ((jb l1 x5_1).f0) ((jb l1 x5_1).f1) ((jb l1 x5_1).f2) ((jb l1 x5_1).f3) true _ A7.out).mono ?_
        rintro e w10 ⟨rfl,hb⟩
        refine ⟨_,rfl,?_⟩
        replace HB:=am (jd (bq) hb)
        (try clear hb)
        (try clear hb2)
        (try clear hk)
        (try clear hi)
        refine hK.out _ _ ⟨((HB.out.cell (World.block_lt_of_cell? w _ hw270_0)).trans hw270_0),((HB.out.cell (World.block_lt_of_cell? w _ hw270_1)).trans hw270_1),((HB.out.cell (World.block_lt_of_cell? w _ hw270_2)).trans hw270_2),((HB.out.cell (World.block_lt_of_cell? w _ hw270_3)).trans hw270_3),((HB.out.cell (World.block_lt_of_cell? w _ hw271_0)).trans hw271_0),((HB.out.cell (World.block_lt_of_cell? w _ hw271_1)).trans hw271_1),((HB.out.cell (World.block_lt_of_cell? w _ hw271_2)).trans hw271_2),((HB.out.cell (World.block_lt_of_cell? w _ hw271_3)).trans hw271_3)⟩ (fun hHeld=>?_)
        clear hK K
        refine norm_ (a':=?_) ?_ ?_
        rotate_left
        ·show Act.put _ (some 25) _=_
         simp only [Act.put,List.setIfInBounds_toArray,List.set_cons_zero,List.set_cons_succ,jnb,jrb]
         rfl
        refine pq (i:=9) (N:=some 26) #[true,true,true,true,true,true,true,true,true,true] ?_
        refine done_ (done_of HT_.out (by kernel_rfl)) ?_
        try go_wp2
        go_roundg k1
        case measure=>have:=HK1.out;omega
        case rel=>exact ⟨(wrap64 (x5_1+1)),(sq),H',⟨by have:=HK1.out;omega⟩,⟨bq⟩⟩
       ·replace c8:=Bool.eq_false_iff.mpr c8
        subst c8
        have H1:(some false)=some r:=by rw [if_neg (show ¬ (false=true) by decide)] at H;exact H
        clear H
        have H:=H1
        clear H1
        obtain rfl:=Option.some.inj H
        try go_wp2
        replace HB:=am (jC HB.out)
        have p270:0≤(x5_1:Int):=ozD (uq)
        have q270:x5_1<(l0.length:Int):=ozD (uq)
        obtain ⟨ad270,e270,hx270_0,hx270_1,hx270_2,hx270_3⟩:=jX HR0.out x5_1 p270 q270
        have hw270_3:=hx270_3
        have hw270_2:=hx270_2
        have hw270_1:=hx270_1
        have hw270_0:=hx270_0
        cases e270
        replace hx270_0:=cb HB.out hx270_0
        replace hx270_1:=cb HB.out hx270_1
        replace hx270_2:=cb HB.out hx270_2
        replace hx270_3:=cb HB.out hx270_3
        replace p270:=ezT p270
        replace q270:=ezT q270
        have p271:0≤(x5_1:Int):=ozD (uq)
        have q271:x5_1<(l1.length:Int):=ozD (uq)
        obtain ⟨ad271,e271,hx271_0,hx271_1,hx271_2,hx271_3⟩:=jX HR1.out x5_1 p271 q271
        have hw271_3:=hx271_3
        have hw271_2:=hx271_2
        have hw271_1:=hx271_1
        have hw271_0:=hx271_0
        cases e271
        replace hx271_0:=cb HB.out hx271_0
        replace hx271_1:=cb HB.out hx271_1
        replace hx271_2:=cb HB.out hx271_2
        replace hx271_3:=cb HB.out hx271_3
        replace p271:=ezT p271
        replace q271:=ezT q271
        refine start_ (n:=10) (S:=fun w'=>w'.cell? (ad270.add ((x5_1).toNat * 4))=some (.int .i64 ((jb l0 x5_1).f0))∧w'.cell? ⟨(ad270.add ((x5_1).toNat * 4)).block,(ad270.add ((x5_1).toNat * 4)).off+1,none⟩=some (.int .i64 ((jb l0 x5_1).f1))∧w'.cell? ⟨(ad270.add ((x5_1).toNat * 4)).block,(ad270.add ((x5_1).toNat * 4)).off+2,none⟩=some (.int .i64 ((jb l0 x5_1).f2))∧w'.cell? ⟨(ad270.add ((x5_1).toNat * 4)).block,(ad270.add ((x5_1).toNat * 4)).off+3,none⟩=some (.int .i64 ((jb l0 x5_1).f3))∧w'.cell? (ad271.add ((x5_1).toNat * 4))=some (.int .i64 ((jb l1 x5_1).f0))∧w'.cell? ⟨(ad271.add ((x5_1).toNat * 4)).block,(ad271.add ((x5_1).toNat * 4)).off+1,none⟩=some (.int .i64 ((jb l1 x5_1).f1))∧w'.cell? ⟨(ad271.add ((x5_1).toNat * 4)).block,(ad271.add ((x5_1).toNat * 4)).off+2,none⟩=some (.int .i64 ((jb l1 x5_1).f2))∧w'.cell? ⟨(ad271.add ((x5_1).toNat * 4)).block,(ad271.add ((x5_1).toNat * 4)).off+3,none⟩=some (.int .i64 ((jb l1 x5_1).f3))) (ds:=[]) #[false,false,false,false,false,false,false,false,false,false] (by kernel_rfl) rfl rfl ⟨((HB.out.cell (World.block_lt_of_cell? w _ hw270_0)).trans hw270_0),((HB.out.cell (World.block_lt_of_cell? w _ hw270_1)).trans hw270_1),((HB.out.cell (World.block_lt_of_cell? w _ hw270_2)).trans hw270_2),((HB.out.cell (World.block_lt_of_cell? w _ hw270_3)).trans hw270_3),((HB.out.cell (World.block_lt_of_cell? w _ hw271_0)).trans hw271_0),((HB.out.cell (World.block_lt_of_cell? w _ hw271_1)).trans hw271_1),((HB.out.cell (World.block_lt_of_cell? w _ hw271_2)).trans hw271_2),((HB.out.cell (World.block_lt_of_cell? w _ hw271_3)).trans hw271_3)⟩ (fun hHeld=>?_);refine with_tabW ji.tab6 ji.bits6 (fun HT_ HW_=>?_)
        generalize wr.drew=w11 at HB hx270_0 hx270_1 hx270_2 hx270_3 hx271_0 hx271_1 hx271_2 hx271_3 hHeld ⊢
        refine pq (i:=0) (N:=some 17) #[true,false,false,false,false,false,false,false,false,false] ?_
        refine pq (i:=1) (N:=some 18) #[true,true,false,false,false,false,false,false,false,false] ?_
        refine pq (i:=2) (N:=some 19) #[true,true,true,false,false,false,false,false,false,false] ?_
        refine pq (i:=4) (N:=some 21) #[true,true,true,false,true,false,false,false,false,false] ?_
        refine pq (i:=5) (N:=some 22) #[true,true,true,false,true,true,false,false,false,false] ?_
        refine pq (i:=6) (N:=some 23) #[true,true,true,false,true,true,true,false,false,false] ?_
        refine take_ (i:=3) (N:=some 20) (v:=?_) (a':=?_) #[true,true,true,true,true,true,true,false,false,false] rfl rfl (jKb HT_.out HW_.out (by kernel_rfl)) (fun _ _ _ h=>h) (Or.inl ⟨by rfl,?_⟩) hHeld ?_ ?_
        rotate_left
        ·rintro w' ⟨s0,s1,s2,s3,s4,s5,s6,s7⟩
         go_simp
         with_reducible rfl
        rotate_left
        ·exact sa
        refine take_ (i:=7) (N:=some 24) (v:=?_) (a':=?_) #[true,true,true,true,true,true,true,true,false,false] rfl rfl (jKb HT_.out HW_.out (by kernel_rfl)) (fun _ _ _ h=>h) (Or.inl ⟨by rfl,?_⟩) hHeld ?_ ?_
        rotate_left
        ·rintro w' ⟨s0,s1,s2,s3,s4,s5,s6,s7⟩
         go_simp
         with_reducible rfl
        rotate_left
        ·exact sa
        refine one_ (i:=8) (N:=some 25) #[true,true,true,true,true,true,true,true,true,false] rfl rfl (one_of HT_.out (by kernel_rfl)) (by decide) (fun K hK=>?_)
        refine goes_ Try.func37 (by kernel_rfl) rfl #[.agg #[.int .i64 ((jb l0 x5_1).f0), .int .i64 ((jb l0 x5_1).f1), .int .i64 ((jb l0 x5_1).f2), .int .i64 ((jb l0 x5_1).f3)], .agg #[.int .i64 ((jb l1 x5_1).f0), .int .i64 ((jb l1 x5_1).f1), .int .i64 ((jb l1 x5_1).f2), .int .i64 ((jb l1 x5_1).f3)]] (by rfl) rfl rfl (aq) ?_
        with_reducible refine (jzb.calls ((jb l0 x5_1).f0) ((jb l0 x5_1).f1) ((jb l0 x5_1).f2) ((jb l0 x5_1).f3) ((jb l1 x5_1).f0) ((jb l1 x5_1).f1) ((jb l1 x5_1).f2) ((jb l1 x5_1).f3) false _ A7.out).mono ?_
        rintro e w12 ⟨rfl,hb⟩
        refine ⟨_,rfl,?_⟩
        replace HB:=am (jd (bq) hb)
        (try clear hb)
        (try clear hb2)
        (try clear hk)
        (try clear hi)
        refine hK.out _ _ ⟨((HB.out.cell (World.block_lt_of_cell? w _ hw270_0)).trans hw270_0),((HB.out.cell (World.block_lt_of_cell? w _ hw270_1)).trans hw270_1),((HB.out.cell (World.block_lt_of_cell? w _ hw270_2)).trans hw270_2),((HB.out.cell (World.block_lt_of_cell? w _ hw270_3)).trans hw270_3),((HB.out.cell (World.block_lt_of_cell? w _ hw271_0)).trans hw271_0),((HB.out.cell (World.block_lt_of_cell? w _ hw271_1)).trans hw271_1),((HB.out.cell (World.block_lt_of_cell? w _ hw271_2)).trans hw271_2),((HB.out.cell (World.block_lt_of_cell? w _ hw271_3)).trans hw271_3)⟩ (fun hHeld=>?_)
        clear hK K
        refine norm_ (a':=?_) ?_ ?_
        rotate_left
        ·show Act.put _ (some 25) _=_
         simp only [Act.put,List.setIfInBounds_toArray,List.set_cons_zero,List.set_cons_succ,jnb,jrb]
         rfl
        refine pq (i:=9) (N:=some 26) #[true,true,true,true,true,true,true,true,true,true] ?_
        refine done_ (done_of HT_.out (by kernel_rfl)) ?_
        try go_wp2
        go_ret
        exact ⟨Y0,bq⟩
      ·rw [if_neg c6] at H
       exact absurd H (by simp)
     ·rw [if_neg c5] at H
      exact absurd H (by simp)
    ·rw [if_neg c4] at H
     have c4b0:decide (x5_1<(l0.length:Int))=false:=dzF c4
     clear c4
     obtain rfl:=Option.some.inj H
     go_wp2
     go_ret
     exact ⟨Y0,bq⟩
 ·rw [if_neg c3] at H
  have c3b0:((l0.length:Int) == (l1.length:Int))=false:=beq_eq_false_iff_ne.mpr c3
  have c3b1:((l0.length:Int) != (l1.length:Int))=true:=bne_iff_ne.mpr c3
  have c3b2:(l0.length == l1.length)=false:=by first | simpa using c3 |(simp at c3 ⊢;omega)
  obtain rfl:=Option.some.inj H
  go_enter Try.func13,Try.ntmps13
  go_wp2
  go_ret
  exact ⟨Y0,bq⟩
def jpb.f (a0_0 : ByteArray) (a0_1 : Int) (a1_0 : ByteArray) (a1_1 : Int) : Option (Bool) := if a0_0.toList = a1_0.toList then (if a0_1 = a1_1 then (some true) else (some false)) else (some false)
set_option maxHeartbeats 8000000 in
set_option maxRecDepth 100000 in
theorem jpb.calls (a0_0 : ByteArray) (a0_1 : Int) (a1_0 : ByteArray) (a1_1 : Int) (r : Bool) (w : World) (h : jpb.f a0_0 a0_1 a1_0 a1_1 = some r) :
  Calls Try.prog 64 #[.agg #[.string a0_0, .int .i64 a0_1], .agg #[.string a1_0, .int .i64 a1_1]] w fun e w'=>e=.returned (.bool r)∧Below w.heap.size w w':=by
 have hu78:=Try.underlying78
 have HB:=am (Below.refl w.heap.size w)
 have H:(if a0_0.toList=a1_0.toList then (if a0_1=a1_1 then (some true) else (some false)) else (some false))=some r:=h
 clear h
 by_cases c3:a0_0.toList=a1_0.toList
 ·rw [if_pos c3] at H
  have c3b0:(a0_0.toList == a1_0.toList)=true:=beq_iff_eq.mpr c3
  have c3b1:(a0_0.toList != a1_0.toList)=false:=bne_eq_false_iff_eq.mpr c3
  clear c3
  by_cases c4:a0_1=a1_1
  ·rw [if_pos c4] at H
   have c4b0:(a0_1 == a1_1)=true:=beq_iff_eq.mpr c4
   have c4b1:(a0_1 != a1_1)=false:=bne_eq_false_iff_eq.mpr c4
   clear c4
   obtain rfl:=Option.some.inj H
   go_enter Try.func64,Try.ntmps64
   go_wp2_with (first |((with_reducible refine jO (N:=2) rfl ?_);refine bE (N:=2) (cs:=#[.string a0_0, .int .i64 a0_1]) (t:=78) ?_;intro gb273 hg w5 hbox hb;have BK273:=am (hbox);have GW273:=am ((Y1:w.heap.size≤gb273));have GE273:=am ((Y1:w.heap.size≤gb273));replace HB:=am (jd (bq) hb);clear hb hbox hg) |((with_reducible refine jO (N:=3) rfl ?_);refine bE (N:=3) (cs:=#[.string a1_0, .int .i64 a1_1]) (t:=78) ?_;intro gb274 hg w6 hbox hb;have BK274:=am (hbox);have GW274:=am ((Y17:w.heap.size≤gb274));have GE274:=am ((Y17:w.heap.size≤gb274));have NB273_274:=am ((Y28:gb273≠gb274));have NB274_273:=am ((Y29:gb274≠gb273));replace BK273:=am (jl (g:=gb273) (o:=.cells #[.string a0_0, .int .i64 a0_1] 78 (0,0)) (kq BK273.out) hb);replace HB:=am (jd (Y30) hb);clear hb hbox hg;have hnb7:=NB273_274.out;have hnc7:=NB274_273.out;have hcz8_0:=bc0 BK273.out;have hcz8_1:=bc1 BK273.out;have hfz8_0:=ja BK273.out 0;have hfz8_1:=ja BK273.out 1;have hcz9_0:=bc0 BK274.out;have hcz9_1:=bc1 BK274.out;have hfz9_0:=ja BK274.out 0;have hfz9_1:=ja BK274.out 1))
   go_ret
   exact ⟨Y0,Y31⟩
  ·rw [if_neg c4] at H
   have c4b0:(a0_1 == a1_1)=false:=beq_eq_false_iff_ne.mpr c4
   have c4b1:(a0_1 != a1_1)=true:=bne_iff_ne.mpr c4
   obtain rfl:=Option.some.inj H
   go_enter Try.func64,Try.ntmps64
   go_wp2_with (first |((with_reducible refine jO (N:=2) rfl ?_);refine bE (N:=2) (cs:=#[.string a0_0, .int .i64 a0_1]) (t:=78) ?_;intro gb273 hg w10 hbox hb;have BK273:=am (hbox);have GW273:=am ((Y1:w.heap.size≤gb273));have GE273:=am ((Y1:w.heap.size≤gb273));replace HB:=am (jd (bq) hb);clear hb hbox hg) |((with_reducible refine jO (N:=3) rfl ?_);refine bE (N:=3) (cs:=#[.string a1_0, .int .i64 a1_1]) (t:=78) ?_;intro gb274 hg w11 hbox hb;have BK274:=am (hbox);have GW274:=am ((Y17:w.heap.size≤gb274));have GE274:=am ((Y17:w.heap.size≤gb274));have NB273_274:=am ((Y28:gb273≠gb274));have NB274_273:=am ((Y29:gb274≠gb273));replace BK273:=am (jl (g:=gb273) (o:=.cells #[.string a0_0, .int .i64 a0_1] 78 (0,0)) (kq BK273.out) hb);replace HB:=am (jd (Y30) hb);clear hb hbox hg;have hnb12:=NB273_274.out;have hnc12:=NB274_273.out;have hcz13_0:=bc0 BK273.out;have hcz13_1:=bc1 BK273.out;have hfz13_0:=ja BK273.out 0;have hfz13_1:=ja BK273.out 1;have hcz14_0:=bc0 BK274.out;have hcz14_1:=bc1 BK274.out;have hfz14_0:=ja BK274.out 0;have hfz14_1:=ja BK274.out 1))
   go_ret
   exact ⟨Y0,Y31⟩
 ·rw [if_neg c3] at H
  have c3b0:(a0_0.toList == a1_0.toList)=false:=beq_eq_false_iff_ne.mpr c3
  have c3b1:(a0_0.toList != a1_0.toList)=true:=bne_iff_ne.mpr c3
  obtain rfl:=Option.some.inj H
  go_enter Try.func64,Try.ntmps64
  go_wp2_with (first |((with_reducible refine jO (N:=2) rfl ?_);refine bE (N:=2) (cs:=#[.string a0_0, .int .i64 a0_1]) (t:=78) ?_;intro gb273 hg w15 hbox hb;have BK273:=am (hbox);have GW273:=am ((Y1:w.heap.size≤gb273));have GE273:=am ((Y1:w.heap.size≤gb273));replace HB:=am (jd (bq) hb);clear hb hbox hg) |((with_reducible refine jO (N:=3) rfl ?_);refine bE (N:=3) (cs:=#[.string a1_0, .int .i64 a1_1]) (t:=78) ?_;intro gb274 hg w16 hbox hb;have BK274:=am (hbox);have GW274:=am ((Y17:w.heap.size≤gb274));have GE274:=am ((Y17:w.heap.size≤gb274));have NB273_274:=am ((Y28:gb273≠gb274));have NB274_273:=am ((Y29:gb274≠gb273));replace BK273:=am (jl (g:=gb273) (o:=.cells #[.string a0_0, .int .i64 a0_1] 78 (0,0)) (kq BK273.out) hb);replace HB:=am (jd (Y30) hb);clear hb hbox hg;have hnb17:=NB273_274.out;have hnc17:=NB274_273.out;have hcz18_0:=bc0 BK273.out;have hcz18_1:=bc1 BK273.out;have hfz18_0:=ja BK273.out 0;have hfz18_1:=ja BK273.out 1;have hcz19_0:=bc0 BK274.out;have hcz19_1:=bc1 BK274.out;have hfz19_0:=ja BK274.out 0;have hfz19_1:=ja BK274.out 1))
  go_ret
  exact ⟨Y0,Y31⟩
def jT.l0 : Nat → List (S78) → List (S78) → Int → Option (Bool)
 | 0,_,_,_=>none
 | k+1,x0,x1,x5=>if x5<(x0.length:Int) then (if 0≤x5 then (if x5<(x1.length:Int) then ((jpb.f ((jF x0 x5).f0) ((jF x0 x5).f1) ((jF x1 x5).f0) ((jF x1 x5).f1)).bind fun t277=>(if t277=true then (jT.l0 k x0 x1 (wrap64 (x5+1))) else (some false))) else (none)) else (none)) else (some true)
def jT.f (k : Nat) (l0 : List (S78)) (l1 : List (S78)) : Option (Bool) := if (l0.length : Int) = (l1.length : Int) then (jT.l0 k l0 l1 0) else (some false)
def jT.T6 : Bool × List (List Nat × List Nat) := (true, [([], []), ([], []), ([0, 1], [0, 1]), ([2], [2]), ([], []), ([], []), ([4, 5], [4, 5]), ([6], [6]), ([3, 7], [3, 7]), ([8], [8])])
def jT.B6 : List Nat := [0, 0, 3, 7, 0, 0, 48, 112, 255, 511]
theorem jT.tab6 : rtab .any (opsOf Try.f38 6) = jT.T6 := by kernel_rfl
theorem jT.bits6 : waitsOk jT.T6.2 jT.B6 = true := by kernel_rfl
set_option maxHeartbeats 8000000 in
set_option maxRecDepth 100000 in
theorem jT.calls (k : Nat) (A0 : Option Addr) (c0 : Nat) (l0 : List (S78)) (A1 : Option Addr) (c1 : Nat) (l1 : List (S78)) (r : Bool) (w : World) (hr0 : Kd.C k78 w A0 l0.length l0) (hc0 : l0.length ≤ c0) (hr1 : Kd.C k78 w A1 l1.length l1) (hc1 : l1.length ≤ c1) (h : jT.f k l0 l1 = some r) :
  Calls Try.prog 38 #[.slice A0 l0.length c0, .slice A1 l1.length c1] w fun e w'=>e=.returned (.bool r)∧Below w.heap.size w w':=by
 have hu78:=Try.underlying78
 have HR0:=am hr0
 have HC0:=am hc0
 clear hr0 hc0
 have HR1:=am hr1
 have HC1:=am hc1
 clear hr1 hc1
 have HB:=am (Below.refl w.heap.size w)
 have H:(if (l0.length:Int)=(l1.length:Int) then (jT.l0 k l0 l1 0) else (some false))=some r:=h
 clear h
 by_cases c3:(l0.length:Int)=(l1.length:Int)
 ·rw [if_pos c3] at H
  have c3b0:((l0.length:Int) == (l1.length:Int))=true:=beq_iff_eq.mpr c3
  have c3b1:((l0.length:Int) != (l1.length:Int))=false:=bne_eq_false_iff_eq.mpr c3
  have c3b2:(l0.length == l1.length)=true:=by first | simpa using c3 |(simp at c3 ⊢;omega)
  clear c3
  have H':=am H
  clear H
  go_enter Try.func38,Try.ntmps38
  go_wp2
  go_loopg [5] k (fun kq v5 w'=>∃ (x5_1:Int),v5=.int .i64 x5_1∧jv (jT.l0 kq l0 l1 x5_1=some r)∧jv (kq≤k)∧jv (Below w.heap.size w w'))
  case atStart=>exact ⟨(0),(sq),H',⟨Nat.le_refl _⟩,⟨bq⟩⟩
  case round =>
   clear H'
   try clear c1
   try clear p2
   try clear c3
   try clear c3b0
   try clear c3b1
   try clear c3b2
   obtain ⟨x5_1,rfl,HA,HK1,HB⟩:=hrel
   cases gk with
   | zero=>exact absurd HA.out (by simp [jT.l0])
   | succ k1 =>
    have H:=HA.out
    clear HA
    simp only [jT.l0] at H
    by_cases c4:x5_1<(l0.length:Int)
    ·rw [if_pos c4] at H
     have c4b0:decide (x5_1<(l0.length:Int))=true:=dzT c4
     clear c4
     by_cases c5:0≤x5_1
     ·rw [if_pos c5] at H
      have c5b0:decide (0≤x5_1)=true:=dzT c5
      clear c5
      by_cases c6:x5_1<(l1.length:Int)
      ·rw [if_pos c6] at H
       have c6b0:decide (x5_1<(l1.length:Int))=true:=dzT c6
       clear c6
       replace H:=bzS H
       obtain ⟨t277,A70,H⟩:=H
       replace H:(if t277=true then (jT.l0 k1 l0 l1 (wrap64 (x5_1+1))) else (some false))=some r:=H
       have A7:=am A70
       clear A70
       by_cases c8:t277=true
       ·subst c8
        have H1:(jT.l0 k1 l0 l1 (wrap64 (x5_1+1)))=some r:=by rw [if_pos rfl] at H;exact H
        clear H
        have H:=H1
        clear H1
        have H':=am H
        clear H
        try go_wp2
        replace HB:=am (jC HB.out)
        have p275:0≤(x5_1:Int):=ozD (uq)
        have q275:x5_1<(l0.length:Int):=ozD (uq)
        obtain ⟨ad275,e275,hx275_0,hx275_1⟩:=at_T78 HR0.out x5_1 p275 q275
        have hw275_1:=hx275_1
        have hw275_0:=hx275_0
        cases e275
        replace hx275_0:=cb HB.out hx275_0
        replace hx275_1:=cb HB.out hx275_1
        replace p275:=ezT p275
        replace q275:=ezT q275
        have p276:0≤(x5_1:Int):=ozD (uq)
        have q276:x5_1<(l1.length:Int):=ozD (uq)
        obtain ⟨ad276,e276,hx276_0,hx276_1⟩:=at_T78 HR1.out x5_1 p276 q276
        have hw276_1:=hx276_1
        have hw276_0:=hx276_0
        cases e276
        replace hx276_0:=cb HB.out hx276_0
        replace hx276_1:=cb HB.out hx276_1
        replace p276:=ezT p276
        replace q276:=ezT q276
        refine start_ (n:=10) (S:=fun w'=>w'.cell? (ad275.add ((x5_1).toNat * 2))=some (.string ((jF l0 x5_1).f0))∧w'.cell? ⟨(ad275.add ((x5_1).toNat * 2)).block,(ad275.add ((x5_1).toNat * 2)).off+1,none⟩=some (.int .i64 ((jF l0 x5_1).f1))∧w'.cell? (ad276.add ((x5_1).toNat * 2))=some (.string ((jF l1 x5_1).f0))∧w'.cell? ⟨(ad276.add ((x5_1).toNat * 2)).block,(ad276.add ((x5_1).toNat * 2)).off+1,none⟩=some (.int .i64 ((jF l1 x5_1).f1))) (ds:=[]) #[false,false,false,false,false,false,false,false,false,false] (by kernel_rfl) rfl rfl ⟨((HB.out.cell (World.block_lt_of_cell? w _ hw275_0)).trans hw275_0),((HB.out.cell (World.block_lt_of_cell? w _ hw275_1)).trans hw275_1),((HB.out.cell (World.block_lt_of_cell? w _ hw276_0)).trans hw276_0),((HB.out.cell (World.block_lt_of_cell? w _ hw276_1)).trans hw276_1)⟩ (fun hHeld=>?_);refine with_tabW jT.tab6 jT.bits6 (fun HT_ HW_=>?_)
        generalize wr.drew=w9 at HB hx275_0 hx275_1 hx276_0 hx276_1 hHeld ⊢
        refine pq (i:=0) (N:=some 17) #[true,false,false,false,false,false,false,false,false,false] ?_
        refine pq (i:=1) (N:=some 18) #[true,true,false,false,false,false,false,false,false,false] ?_
        refine pq (i:=2) (N:=some 19) #[true,true,true,false,false,false,false,false,false,false] ?_
        refine pq (i:=4) (N:=some 21) #[true,true,true,false,true,false,false,false,false,false] ?_
        refine pq (i:=5) (N:=some 22) #[true,true,true,false,true,true,false,false,false,false] ?_
        refine pq (i:=6) (N:=some 23) #[true,true,true,false,true,true,true,false,false,false] ?_
        refine take_ (i:=3) (N:=some 20) (v:=?_) (a':=?_) #[true,true,true,true,true,true,true,false,false,false] rfl rfl (jKb HT_.out HW_.out (by kernel_rfl)) (fun _ _ _ h=>h) (Or.inl ⟨by rfl,?_⟩) hHeld ?_ ?_
        rotate_left
        ·rintro w' ⟨s0,s1,s2,s3⟩
         go_simp
         with_reducible rfl
        rotate_left
        ·exact sa
        refine take_ (i:=7) (N:=some 24) (v:=?_) (a':=?_) #[true,true,true,true,true,true,true,true,false,false] rfl rfl (jKb HT_.out HW_.out (by kernel_rfl)) (fun _ _ _ h=>h) (Or.inl ⟨by rfl,?_⟩) hHeld ?_ ?_
        rotate_left
        ·rintro w' ⟨s0,s1,s2,s3⟩
         go_simp
         with_reducible rfl
        rotate_left
        ·exact sa
        refine one_ (i:=8) (N:=some 25) #[true,true,true,true,true,true,true,true,true,false] rfl rfl (one_of HT_.out (by kernel_rfl)) (by decide) (fun K hK=>?_)
        refine goes_ Try.func64 (by kernel_rfl) rfl #[.agg #[.string ((jF l0 x5_1).f0), .int .i64 ((jF l0 x5_1).f1)], .agg #[.string ((jF l1 x5_1).f0), .int .i64 ((jF l1 x5_1).f1)]] (by rfl) rfl rfl (aq) ?_
        with_reducible refine (jpb.calls ((jF l0 x5_1).f0) ((jF l0 x5_1).f1) ((jF l1 x5_1).f0) ((jF l1 x5_1).f1) true _ A7.out).mono ?_
        rintro e w10 ⟨rfl,hb⟩
        refine ⟨_,rfl,?_⟩
        replace HB:=am (jd (bq) hb)
        (try clear hb)
        (try clear hb2)
        (try clear hk)
        (try clear hi)
        refine hK.out _ _ ⟨((HB.out.cell (World.block_lt_of_cell? w _ hw275_0)).trans hw275_0),((HB.out.cell (World.block_lt_of_cell? w _ hw275_1)).trans hw275_1),((HB.out.cell (World.block_lt_of_cell? w _ hw276_0)).trans hw276_0),((HB.out.cell (World.block_lt_of_cell? w _ hw276_1)).trans hw276_1)⟩ (fun hHeld=>?_)
        clear hK K
        refine norm_ (a':=?_) ?_ ?_
        rotate_left
        ·show Act.put _ (some 25) _=_
         simp only [Act.put,List.setIfInBounds_toArray,List.set_cons_zero,List.set_cons_succ,jnb,jrb]
         rfl
        refine pq (i:=9) (N:=some 26) #[true,true,true,true,true,true,true,true,true,true] ?_
        refine done_ (done_of HT_.out (by kernel_rfl)) ?_
        try go_wp2
        go_roundg k1
        case measure=>have:=HK1.out;omega
        case rel=>exact ⟨(wrap64 (x5_1+1)),(sq),H',⟨by have:=HK1.out;omega⟩,⟨bq⟩⟩
       ·replace c8:=Bool.eq_false_iff.mpr c8
        subst c8
        have H1:(some false)=some r:=by rw [if_neg (show ¬ (false=true) by decide)] at H;exact H
        clear H
        have H:=H1
        clear H1
        obtain rfl:=Option.some.inj H
        try go_wp2
        replace HB:=am (jC HB.out)
        have p275:0≤(x5_1:Int):=ozD (uq)
        have q275:x5_1<(l0.length:Int):=ozD (uq)
        obtain ⟨ad275,e275,hx275_0,hx275_1⟩:=at_T78 HR0.out x5_1 p275 q275
        have hw275_1:=hx275_1
        have hw275_0:=hx275_0
        cases e275
        replace hx275_0:=cb HB.out hx275_0
        replace hx275_1:=cb HB.out hx275_1
        replace p275:=ezT p275
        replace q275:=ezT q275
        have p276:0≤(x5_1:Int):=ozD (uq)
        have q276:x5_1<(l1.length:Int):=ozD (uq)
        obtain ⟨ad276,e276,hx276_0,hx276_1⟩:=at_T78 HR1.out x5_1 p276 q276
        have hw276_1:=hx276_1
        have hw276_0:=hx276_0
        cases e276
        replace hx276_0:=cb HB.out hx276_0
        replace hx276_1:=cb HB.out hx276_1
        replace p276:=ezT p276
        replace q276:=ezT q276
        refine start_ (n:=10) (S:=fun w'=>w'.cell? (ad275.add ((x5_1).toNat * 2))=some (.string ((jF l0 x5_1).f0))∧w'.cell? ⟨(ad275.add ((x5_1).toNat * 2)).block,(ad275.add ((x5_1).toNat * 2)).off+1,none⟩=some (.int .i64 ((jF l0 x5_1).f1))∧w'.cell? (ad276.add ((x5_1).toNat * 2))=some (.string ((jF l1 x5_1).f0))∧w'.cell? ⟨(ad276.add ((x5_1).toNat * 2)).block,(ad276.add ((x5_1).toNat * 2)).off+1,none⟩=some (.int .i64 ((jF l1 x5_1).f1))) (ds:=[]) #[false,false,false,false,false,false,false,false,false,false] (by kernel_rfl) rfl rfl ⟨((HB.out.cell (World.block_lt_of_cell? w _ hw275_0)).trans hw275_0),((HB.out.cell (World.block_lt_of_cell? w _ hw275_1)).trans hw275_1),((HB.out.cell (World.block_lt_of_cell? w _ hw276_0)).trans hw276_0),((HB.out.cell (World.block_lt_of_cell? w _ hw276_1)).trans hw276_1)⟩ (fun hHeld=>?_);refine with_tabW jT.tab6 jT.bits6 (fun HT_ HW_=>?_)
        generalize wr.drew=w11 at HB hx275_0 hx275_1 hx276_0 hx276_1 hHeld ⊢
        refine pq (i:=0) (N:=some 17) #[true,false,false,false,false,false,false,false,false,false] ?_
        refine pq (i:=1) (N:=some 18) #[true,true,false,false,false,false,false,false,false,false] ?_
        refine pq (i:=2) (N:=some 19) #[true,true,true,false,false,false,false,false,false,false] ?_
        refine pq (i:=4) (N:=some 21) #[true,true,true,false,true,false,false,false,false,false] ?_
        refine pq (i:=5) (N:=some 22) #[true,true,true,false,true,true,false,false,false,false] ?_
        refine pq (i:=6) (N:=some 23) #[true,true,true,false,true,true,true,false,false,false] ?_
        refine take_ (i:=3) (N:=some 20) (v:=?_) (a':=?_) #[true,true,true,true,true,true,true,false,false,false] rfl rfl (jKb HT_.out HW_.out (by kernel_rfl)) (fun _ _ _ h=>h) (Or.inl ⟨by rfl,?_⟩) hHeld ?_ ?_
        rotate_left
        ·rintro w' ⟨s0,s1,s2,s3⟩
         go_simp
         with_reducible rfl
        rotate_left
        ·exact sa
        refine take_ (i:=7) (N:=some 24) (v:=?_) (a':=?_) #[true,true,true,true,true,true,true,true,false,false] rfl rfl (jKb HT_.out HW_.out (by kernel_rfl)) (fun _ _ _ h=>h) (Or.inl ⟨by rfl,?_⟩) hHeld ?_ ?_
        rotate_left
        ·rintro w' ⟨s0,s1,s2,s3⟩
         go_simp
         with_reducible rfl
        rotate_left
        ·exact sa
        refine one_ (i:=8) (N:=some 25) #[true,true,true,true,true,true,true,true,true,false] rfl rfl (one_of HT_.out (by kernel_rfl)) (by decide) (fun K hK=>?_)
        refine goes_ Try.func64 (by kernel_rfl) rfl #[.agg #[.string ((jF l0 x5_1).f0), .int .i64 ((jF l0 x5_1).f1)], .agg #[.string ((jF l1 x5_1).f0), .int .i64 ((jF l1 x5_1).f1)]] (by rfl) rfl rfl (aq) ?_
        with_reducible refine (jpb.calls ((jF l0 x5_1).f0) ((jF l0 x5_1).f1) ((jF l1 x5_1).f0) ((jF l1 x5_1).f1) false _ A7.out).mono ?_
        rintro e w12 ⟨rfl,hb⟩
        refine ⟨_,rfl,?_⟩
        replace HB:=am (jd (bq) hb)
        (try clear hb)
        (try clear hb2)
        (try clear hk)
        (try clear hi)
        refine hK.out _ _ ⟨((HB.out.cell (World.block_lt_of_cell? w _ hw275_0)).trans hw275_0),((HB.out.cell (World.block_lt_of_cell? w _ hw275_1)).trans hw275_1),((HB.out.cell (World.block_lt_of_cell? w _ hw276_0)).trans hw276_0),((HB.out.cell (World.block_lt_of_cell? w _ hw276_1)).trans hw276_1)⟩ (fun hHeld=>?_)
        clear hK K
        refine norm_ (a':=?_) ?_ ?_
        rotate_left
        ·show Act.put _ (some 25) _=_
         simp only [Act.put,List.setIfInBounds_toArray,List.set_cons_zero,List.set_cons_succ,jnb,jrb]
         rfl
        refine pq (i:=9) (N:=some 26) #[true,true,true,true,true,true,true,true,true,true] ?_
        refine done_ (done_of HT_.out (by kernel_rfl)) ?_
        try go_wp2
        go_ret
        exact ⟨Y0,bq⟩
      ·rw [if_neg c6] at H
       exact absurd H (by simp)
     ·rw [if_neg c5] at H
      exact absurd H (by simp)
    ·rw [if_neg c4] at H
     have c4b0:decide (x5_1<(l0.length:Int))=false:=dzF c4
     clear c4
     obtain rfl:=Option.some.inj H
     go_wp2
     go_ret
     exact ⟨Y0,bq⟩
 ·rw [if_neg c3] at H
  have c3b0:((l0.length:Int) == (l1.length:Int))=false:=beq_eq_false_iff_ne.mpr c3
  have c3b1:((l0.length:Int) != (l1.length:Int))=true:=bne_iff_ne.mpr c3
  have c3b2:(l0.length == l1.length)=false:=by first | simpa using c3 |(simp at c3 ⊢;omega)
  obtain rfl:=Option.some.inj H
  go_enter Try.func38,Try.ntmps38
  go_wp2
  go_ret
  exact ⟨Y0,bq⟩
def jAa.f (k : Nat) (l0_0 : List (S78)) (l1_0 : List (S78)) : Option (Bool) := (jT.f k l0_0 l1_0).bind fun t280 => (if t280 = true then (some true) else (some false))
set_option maxHeartbeats 8000000 in
set_option maxRecDepth 100000 in
theorem jAa.calls (k : Nat) (A0_0 : Option Addr) (c0_0 : Nat) (l0_0 : List (S78)) (A1_0 : Option Addr) (c1_0 : Nat) (l1_0 : List (S78)) (r : Bool) (w : World) (hr0_0 : Kd.C k78 w A0_0 l0_0.length l0_0) (hc0_0 : l0_0.length ≤ c0_0) (hr1_0 : Kd.C k78 w A1_0 l1_0.length l1_0) (hc1_0 : l1_0.length ≤ c1_0) (h : jAa.f k l0_0 l1_0 = some r) :
  Calls Try.prog 14 #[.agg #[.slice A0_0 l0_0.length c0_0], .agg #[.slice A1_0 l1_0.length c1_0]] w fun e w'=>e=.returned (.bool r)∧Below w.heap.size w w':=by
 have hu32:=Try.underlying32
 have HR0_0:=am hr0_0
 have HC0_0:=am hc0_0
 clear hr0_0 hc0_0
 have HR1_0:=am hr1_0
 have HC1_0:=am hc1_0
 clear hr1_0 hc1_0
 have HB:=am (Below.refl w.heap.size w)
 have H:((jT.f k l0_0 l1_0).bind fun t280=>(if t280=true then (some true) else (some false)))=some r:=h
 clear h
 replace H:=bzS H
 obtain ⟨t280,A30,H⟩:=H
 replace H:(if t280=true then (some true) else (some false))=some r:=H
 have A3:=am A30
 clear A30
 by_cases c4:t280=true
 ·subst c4
  have H1:(some true)=some r:=by rw [if_pos rfl] at H;exact H
  clear H
  have H:=H1
  clear H1
  obtain rfl:=Option.some.inj H
  go_enter Try.func14,Try.ntmps14
  go_wp2_with (first |((with_reducible refine jO (N:=2) rfl ?_);refine bE (N:=2) (cs:=#[.slice A0_0 l0_0.length c0_0]) (t:=32) ?_;intro gb278 hg w5 hbox hb;have BK278:=am (hbox);have GW278:=am ((Y1:w.heap.size≤gb278));have GE278:=am ((Y1:w.heap.size≤gb278));replace HB:=am (jd (bq) hb);clear hb hbox hg) |((with_reducible refine jO (N:=3) rfl ?_);refine bE (N:=3) (cs:=#[.slice A1_0 l1_0.length c1_0]) (t:=32) ?_;intro gb279 hg w6 hbox hb;have BK279:=am (hbox);have GW279:=am ((Y23:w.heap.size≤gb279));have GE279:=am ((Y23:w.heap.size≤gb279));have NB278_279:=am ((by rw [hg];exact Nat.ne_of_lt (jHa (g:=gb278) (o:=.cells #[.slice A0_0 l0_0.length c0_0] 32 (0,0)) (kq BK278.out)):gb278≠gb279));have NB279_278:=am ((by rw [hg];exact Nat.ne_of_gt (jHa (g:=gb278) (o:=.cells #[.slice A0_0 l0_0.length c0_0] 32 (0,0)) (kq BK278.out)):gb279≠gb278));replace BK278:=am (jl (g:=gb278) (o:=.cells #[.slice A0_0 l0_0.length c0_0] 32 (0,0)) (kq BK278.out) hb);replace HB:=am (jd (Y47) hb);clear hb hbox hg;have hnb7:=NB278_279.out;have hnc7:=NB279_278.out;have hcz8_0:=bc0 BK278.out;have hfz8_0:=ja BK278.out 0;have hcz9_0:=bc0 BK279.out;have hfz9_0:=ja BK279.out 0) |((with_reducible refine jf (f:=38) rfl ?_);refine gL (some 9) Try.func38 #[.slice A0_0 l0_0.length c0_0, .slice A1_0 l1_0.length c1_0] ?_;(with_reducible refine (jT.calls k _ _ l0_0 _ _ l1_0 true _ ?side1 ?side2 ?side3 ?side4 A3.out).mono ?_);(case side1=>exact cq (Kd.jJ HR0_0.out HB.out));(case side2=>exact HC0_0.out);(case side3=>exact cq (Kd.jJ HR1_0.out HB.out));(case side4=>exact HC1_0.out);rintro e w10 ⟨rfl,hb⟩;refine ⟨_,rfl,?_⟩;replace BK278:=am (jl (g:=gb278) (o:=.cells #[.slice A0_0 l0_0.length c0_0] 32 (0,0)) (kq BK278.out) hb);replace BK279:=am (jl (g:=gb279) (o:=.cells #[.slice A1_0 l1_0.length c1_0] 32 (0,0)) (kq BK279.out) hb);replace HB:=am (jd (Y24) hb);(try clear hb);(try clear hb2);(try clear hk);(try clear hi)))
  go_ret
  exact ⟨Y0,Y24⟩
 ·replace c4:=Bool.eq_false_iff.mpr c4
  subst c4
  have H1:(some false)=some r:=by rw [if_neg (show ¬ (false=true) by decide)] at H;exact H
  clear H
  have H:=H1
  clear H1
  obtain rfl:=Option.some.inj H
  go_enter Try.func14,Try.ntmps14
  go_wp2_with (first |((with_reducible refine jO (N:=2) rfl ?_);refine bE (N:=2) (cs:=#[.slice A0_0 l0_0.length c0_0]) (t:=32) ?_;intro gb278 hg w11 hbox hb;have BK278:=am (hbox);have GW278:=am ((Y1:w.heap.size≤gb278));have GE278:=am ((Y1:w.heap.size≤gb278));replace HB:=am (jd (bq) hb);clear hb hbox hg) |((with_reducible refine jO (N:=3) rfl ?_);refine bE (N:=3) (cs:=#[.slice A1_0 l1_0.length c1_0]) (t:=32) ?_;intro gb279 hg w12 hbox hb;have BK279:=am (hbox);have GW279:=am ((Y23:w.heap.size≤gb279));have GE279:=am ((Y23:w.heap.size≤gb279));have NB278_279:=am ((by rw [hg];exact Nat.ne_of_lt (jHa (g:=gb278) (o:=.cells #[.slice A0_0 l0_0.length c0_0] 32 (0,0)) (kq BK278.out)):gb278≠gb279));have NB279_278:=am ((by rw [hg];exact Nat.ne_of_gt (jHa (g:=gb278) (o:=.cells #[.slice A0_0 l0_0.length c0_0] 32 (0,0)) (kq BK278.out)):gb279≠gb278));replace BK278:=am (jl (g:=gb278) (o:=.cells #[.slice A0_0 l0_0.length c0_0] 32 (0,0)) (kq BK278.out) hb);replace HB:=am (jd (Y47) hb);clear hb hbox hg;have hnb13:=NB278_279.out;have hnc13:=NB279_278.out;have hcz14_0:=bc0 BK278.out;have hfz14_0:=ja BK278.out 0;have hcz15_0:=bc0 BK279.out;have hfz15_0:=ja BK279.out 0) |((with_reducible refine jf (f:=38) rfl ?_);refine gL (some 9) Try.func38 #[.slice A0_0 l0_0.length c0_0, .slice A1_0 l1_0.length c1_0] ?_;(with_reducible refine (jT.calls k _ _ l0_0 _ _ l1_0 false _ ?side1 ?side2 ?side3 ?side4 A3.out).mono ?_);(case side1=>exact cq (Kd.jJ HR0_0.out HB.out));(case side2=>exact HC0_0.out);(case side3=>exact cq (Kd.jJ HR1_0.out HB.out));(case side4=>exact HC1_0.out);rintro e w16 ⟨rfl,hb⟩;refine ⟨_,rfl,?_⟩;replace BK278:=am (jl (g:=gb278) (o:=.cells #[.slice A0_0 l0_0.length c0_0] 32 (0,0)) (kq BK278.out) hb);replace BK279:=am (jl (g:=gb279) (o:=.cells #[.slice A1_0 l1_0.length c1_0] 32 (0,0)) (kq BK279.out) hb);replace HB:=am (jd (Y24) hb);(try clear hb);(try clear hb2);(try clear hk);(try clear hi)))
  go_ret
  exact ⟨Y0,Y24⟩
def jta.l0 : Nat → Int → ByteArray → Option (ByteArray)
 | 0,_,_=>none
 | k+1,x0,x3=>if x0 > 0 then ((some (([(wrap64 (48+(Int.tmod x0 10))) % 256]:List Int):List Int)).bind fun y281=>(if (strOfNums y281).size+x3.size≤9223372036854775807 then (jta.l0 k (wrap64 (Int.tdiv x0 10)) ((strOfNums y281) ++ x3)) else (none))) else (if 1+x3.size≤9223372036854775807 then (some ((⟨#[109]⟩:ByteArray) ++ x3)) else (none))
def jta.f (k : Nat) (a0 : Int) : Option (ByteArray) := if a0 ≤ 0 then (some (⟨#[109, 48]⟩ : ByteArray)) else (jta.l0 k a0 (⟨#[]⟩ : ByteArray))
set_option maxHeartbeats 8000000 in
set_option maxRecDepth 100000 in
theorem jta.calls (k : Nat) (a0 : Int) (r : ByteArray) (w : World) (h : jta.f k a0 = some r) :
  Calls Try.prog 65 #[.int .i64 a0] w fun e w'=>e=.returned (.string r)∧Below w.heap.size w w':=by
 have HB:=am (Below.refl w.heap.size w)
 have H:(if a0≤0 then (some (⟨#[109,48]⟩:ByteArray)) else (jta.l0 k a0 (⟨#[]⟩:ByteArray)))=some r:=h
 clear h
 by_cases c2:a0≤0
 ·rw [if_pos c2] at H
  have c2b0:decide (a0≤0)=true:=dzT c2
  clear c2
  obtain rfl:=Option.some.inj H
  go_enter Try.func65,Try.ntmps65
  go_wp2
  go_ret
  exact ⟨Y0,bq⟩
 ·rw [if_neg c2] at H
  have c2b0:decide (a0≤0)=false:=dzF c2
  clear c2
  have H':=am H
  clear H
  go_enter Try.func65,Try.ntmps65
  go_wp2
  go_loopg [0,3] k (fun kq v0 v3 w'=>∃ (x0_1:Int) (x3_1:ByteArray),v0=.int .i64 x0_1∧v3=.string x3_1∧jv (jta.l0 kq x0_1 x3_1=some r)∧jv (kq≤k)∧jv (Below w.heap.size w w'))
  case atStart=>exact ⟨(a0),((⟨#[]⟩:ByteArray)),(sq),(sq),H',⟨Nat.le_refl _⟩,⟨bq⟩⟩
  case round =>
   clear H'
   try clear c2
   try clear c2b0
   try clear p2
   obtain ⟨x0_1,x3_1,rfl,rfl,HA,HK1,HB⟩:=hrel
   cases gk with
   | zero=>exact absurd HA.out (by simp [jta.l0])
   | succ k1 =>
    have H:=HA.out
    clear HA
    simp only [jta.l0] at H
    by_cases c3:x0_1 > 0
    ·rw [if_pos c3] at H
     have c3b0:decide (0<x0_1)=true:=dzT c3
     clear c3
     obtain ⟨y281,hy281⟩:∃ y_:List Int,y_=(([(wrap64 (48+(Int.tmod x0_1 10))) % 256]:List Int)):=⟨_,rfl⟩
     replace H:(if (strOfNums y281).size+x3_1.size≤9223372036854775807 then (jta.l0 k1 (wrap64 (Int.tdiv x0_1 10)) ((strOfNums y281) ++ x3_1)) else (none))=some r:=by first |(rw [hy281];with_reducible exact H) |(have H2_:=(Option.bind_some _ _).symm.trans H;rw [hy281];with_reducible exact H2_) |(have H2_:=(Option.bind_some _ _).symm.trans H;with_reducible exact H2_) | with_reducible exact H |(rw [hy281];exact H) | exact H
     have Ny281:=am hy281
     clear hy281
     by_cases c4:(strOfNums y281).size+x3_1.size≤9223372036854775807
     ·rw [if_pos c4] at H
      have c4b0:=ezT c4
      have c4b1:decide ((strOfNums y281).size+x3_1.size≤9223372036854775807)=true:=dzT c4
      try have c4b2:(9223372036854775807<(strOfNums y281).size+x3_1.size)=False:=eq_false (Nat.not_lt.2 c4)
      have H':=am H
      clear H
      go_wp2_with (first |((with_reducible refine jO (N:=12) rfl ?_);refine Kd.R_lit (Kd.int .u8) _ 5 ?hg (N:=12) ?hd (xs:=([(wrap64 (48+(Int.tmod x0_1 10))) % 256]:List Int)) (inner:=[.int .u8 ((wrap64 (48+(Int.tmod x0_1 10))) % 256)]) (ok:=fun _=>True) (okp:=fun _=>True) ?hr ?hp (fun _ hk=>hk) trivial (Below.refl _ _) (Nat.le_refl _) (by simp) ?_;(case hd=>rfl);(case hg=>rfl);(case hr=>exact Y7);(case hp=>exact (Reps.one (show Kd.M (Kd.int .u8) _ _ _ ((wrap64 (48+(Int.tmod x0_1 10))) % 256) [.int .u8 ((wrap64 (48+(Int.tmod x0_1 10))) % 256)] from rfl) (Reps.none _ _)));intro v282 w5 ho6 hb hg_ hnew_;clear hg_ hnew_;(first | rw [← Ny281.out] at ho6 |(simp only [Int.reduceToNat] at ho6;rw [← Ny281.out] at ho6));have HO283:=am (Kd.jLa ho6 (jL (bq)));replace HB:=am (jd (bq) hb);clear hb ho6;have hcv7:=own_string (P:=Try.prog) Try.underlying44 Try.underlying5 Try.underlying9 (Kd.own_of_R HO283.out)))
      go_roundg k1
      case measure=>have:=HK1.out;omega
      case rel=>exact ⟨(wrap64 (Int.tdiv x0_1 10)),((strOfNums y281) ++ x3_1),(sq),(sq),H',⟨by have:=HK1.out;omega⟩,⟨bq⟩⟩
     ·rw [if_neg c4] at H
      exact absurd H (by simp)
    ·rw [if_neg c3] at H
     have c3b0:decide (0<x0_1)=false:=dzF c3
     clear c3
     by_cases c8:1+x3_1.size≤9223372036854775807
     ·rw [if_pos c8] at H
      have c8b0:=ezT c8
      have c8b1:decide (1+x3_1.size≤9223372036854775807)=true:=dzT c8
      try have c8b2:(9223372036854775807<1+x3_1.size)=False:=eq_false (Nat.not_lt.2 c8)
      obtain rfl:=Option.some.inj H
      go_wp2
      go_ret
      exact ⟨Y0,bq⟩
     ·rw [if_neg c8] at H
      exact absurd H (by simp)
def jfa.l0 : Nat → List (S78) → Int → Int → Option (Int × (List (S78)))
 | 0,_,_,_=>none
 | k+1,x0,x1,x5=>if x5<(x0.length:Int) then ((jta.f k x1).bind fun t284=>(if 0≤x5 then ((some (x0.set (x5:Int).toNat (⟨t284,(jF x0 x5).f1⟩:S78):List (S78))).bind fun y285=>(jfa.l0 k (y285.set (x5:Int).toNat (⟨(jF y285 x5).f0,wrap64 (x1+1)⟩:S78)) (wrap64 ((wrap64 (x1+1))+1)) (wrap64 (x5+1)))) else (none))) else (some (x1,x0))
def jfa.f (k : Nat) (l0 : List (S78)) (a1 : Int) : Option (Int × (List (S78))) := jfa.l0 k l0 a1 0
set_option maxHeartbeats 8000000 in
set_option maxRecDepth 100000 in
theorem jfa.calls (k : Nat) (P0_ : Nat → Prop) (u9000_ : Value) (l0 : List (S78)) (a1 : Int) (r1 : Int) (r2 : List (S78)) (w0 w : World) (hB : Below w0.heap.size w0 w) (ho0 : Kd.R k78 78 w w0.heap.size P0_ u9000_ l0) (h : jfa.f k l0 a1 = some (r1, r2)) :
  Calls Try.prog 39 #[u9000_, .int .i64 a1] w fun e w'=>e=.returned (.int .i64 r1)∧Kd.R k78 78 w' w0.heap.size (fun k_=>(P0_ k_∨w.heap.size≤k_)) u9000_ r2∧Below w0.heap.size w0 w'∧Kept w w' (fun k_=>P0_ k_):=by
 have HO0:=am (show Kd.R k78 78 w w0.heap.size (fun k_=>(P0_ k_∨w.heap.size≤k_)) u9000_ l0 from Kd.jGa ho0 (fun k_ hk=>(.inl hk)))
 have HK:=am (Kept.refl w (fun k_=>P0_ k_))
 have HW0:=am hB.size
 have HB:=am hB
 clear hB
 have H:(jfa.l0 k l0 a1 0)=some (r1,r2):=h
 clear h
 have H':=am H
 clear H
 go_enter Try.func39,Try.ntmps39
 go_wp2
 go_loopg [1,5] k (fun kq v1 v5 w'=>∃ (x0_1:List (S78)) (x1_1:Int) (x5_1:Int),v1=.int .i64 x1_1∧v5=.int .i64 x5_1∧jv (jfa.l0 kq x0_1 x1_1 x5_1=some (r1,r2))∧jv (kq≤k)∧jv (Kd.R k78 78 w' w0.heap.size (fun k_=>(P0_ k_∨w.heap.size≤k_)) u9000_ x0_1)∧jv (Kept w w' (fun k_=>P0_ k_))∧jv (Below w0.heap.size w0 w'))
 case atStart=>exact ⟨(l0),(a1),(0),(sq),(sq),H',⟨Nat.le_refl _⟩,⟨rq HO0.out⟩,⟨Y8⟩,⟨bq⟩⟩
 case round =>
  clear H'
  try clear p2
  obtain ⟨x0_1,x1_1,x5_1,rfl,rfl,HA,HK1,HO_0,HK,HB⟩:=hrel
  cases gk with
  | zero=>exact absurd HA.out (by simp [jfa.l0])
  | succ k1 =>
   have H:=HA.out
   clear HA
   simp only [jfa.l0] at H
   by_cases c3:x5_1<(x0_1.length:Int)
   ·rw [if_pos c3] at H
    have c3b0:decide (x5_1<(x0_1.length:Int))=true:=dzT c3
    clear c3
    replace H:=bzS H
    obtain ⟨t284,A40,H⟩:=H
    replace H:(if 0≤x5_1 then ((some (x0_1.set (x5_1:Int).toNat (⟨t284,(jF x0_1 x5_1).f1⟩:S78):List (S78))).bind fun y285=>(jfa.l0 k1 (y285.set (x5_1:Int).toNat (⟨(jF y285 x5_1).f0,wrap64 (x1_1+1)⟩:S78)) (wrap64 ((wrap64 (x1_1+1))+1)) (wrap64 (x5_1+1)))) else (none))=some (r1,r2):=H
    have A4:=am A40
    clear A40
    by_cases c5:0≤x5_1
    ·rw [if_pos c5] at H
     have c5b0:decide (0≤x5_1)=true:=dzT c5
     clear c5
     obtain ⟨y285,hy285⟩:∃ y_:List (S78),y_=(x0_1.set (x5_1:Int).toNat (⟨t284,(jF x0_1 x5_1).f1⟩:S78)):=⟨_,rfl⟩
     replace H:(jfa.l0 k1 (y285.set (x5_1:Int).toNat (⟨(jF y285 x5_1).f0,wrap64 (x1_1+1)⟩:S78)) (wrap64 ((wrap64 (x1_1+1))+1)) (wrap64 (x5_1+1)))=some (r1,r2):=by first |(rw [hy285];with_reducible exact H) |(have H2_:=(Option.bind_some _ _).symm.trans H;rw [hy285];with_reducible exact H2_) |(have H2_:=(Option.bind_some _ _).symm.trans H;with_reducible exact H2_) | with_reducible exact H |(rw [hy285];exact H) | exact H
     have Ny285:=am hy285
     clear hy285
     obtain ⟨y286,hy286⟩:∃ y_:List (S78),y_=(y285.set (x5_1:Int).toNat (⟨(jF y285 x5_1).f0,wrap64 (x1_1+1)⟩:S78)):=⟨_,rfl⟩
     replace H:(jfa.l0 k1 y286 (wrap64 ((wrap64 (x1_1+1))+1)) (wrap64 (x5_1+1)))=some (r1,r2):=by first |(rw [hy286];with_reducible exact H) |(have H2_:=(Option.bind_some _ _).symm.trans H;rw [hy286];with_reducible exact H2_) |(have H2_:=(Option.bind_some _ _).symm.trans H;with_reducible exact H2_) | with_reducible exact H |(rw [hy286];exact H) | exact H
     have Ny286:=am hy286
     clear hy286
     have H':=am H
     clear H
     obtain ⟨Ao8,co8,eo8⟩:=Kd.jOa HO_0.out
     subst eo8
     go_wp2_with (first |((with_reducible refine jf (f:=65) rfl ?_);refine gL (some 15) Try.func65 #[.int .i64 x1_1] ?_;(with_reducible refine (jta.calls k1 x1_1 t284 _ A4.out).mono ?_);rintro e w9 ⟨rfl,hb⟩;refine ⟨_,rfl,?_⟩;replace HO_0:=am (Kd.jP (rq HO_0.out) hb);replace HK:=am (Kept.below (S:=(fun k_=>P0_ k_)) (Y8) hb);replace HB:=am (jd (bq) hb);(try clear hb);(try clear hb2);(try clear hk);(try clear hi);have p6:0≤(x5_1:Int):=ozD (uq);have q6:(x5_1:Int)<((x0_1.length:Int):Int):=ozD (uq);obtain ⟨go6,co6,eo6,gb6,gl6,cl6,HG6⟩:=Kd.R_form HO_0.out (by omega);(first | cases eo6 |(injection eo6 with ea_ en_ ec_;(first | subst ea_ |(injection ea_ with ea_;subst ea_));subst ec_;clear en_));have GB6:=am gb6;have GG6:=am HG6;clear gb6 gl6 HG6;have HMgo6:=am (show (P0_ go6∨w.heap.size≤go6) from (HO_0.out.1 _ rfl));obtain ⟨ce6,hcl6,hM6,hcc6,hfr6⟩:=Kd.jGb HO_0.out z78 (x5_1:Int) p6 q6;obtain rfl:=jPb hM6;have hx6_0:w9.cell? ⟨go6,(x5_1:Int).toNat * 2,none⟩=some (.string ((jF x0_1 x5_1).f0)):=hcc6 0 _ rfl;have hx6_1:w9.cell? ⟨go6,(x5_1:Int).toNat * 2+1,none⟩=some (.int .i64 ((jF x0_1 x5_1).f1)):=hcc6 1 _ rfl;have hf6_0:w9.frozen? ⟨go6,(x5_1:Int).toNat * 2,none⟩=false:=hfr6 0;have hf6_1:w9.frozen? ⟨go6,(x5_1:Int).toNat * 2+1,none⟩=false:=hfr6 1;clear hcl6 hcc6 hfr6 hM6;replace p6:=ezT p6;replace q6:=ezT q6;have HX10:=am (show Kd.R k78 78 w9 w0.heap.size (fun k_=>(P0_ k_∨w.heap.size≤k_)) (.slice (some ⟨go6,0,none⟩) x0_1.length co8) x0_1 from (rq HO_0.out));obtain ⟨ce10,hcl10,hM10,hcc10,hfr10⟩:=Kd.jGb HX10.out z78 (x5_1:Int) (ozD (uq)) (by have h_:(x5_1:Int)<((x0_1.length:Int):Int):=ozD (uq);first | exact h_ |(have e_:=(Kd.jG HO_0.out).1;omega) | simpa using h_);obtain rfl:=jPb hM10;have HP10:=Kd.R_seg HX10.out (x5_1:Int) (ozD (uq)) (by have h_:(x5_1:Int)<((x0_1.length:Int):Int):=ozD (uq);first | exact h_ |(have e_:=(Kd.jG HO_0.out).1;omega) | simpa using h_) (seg:=[.string t284]) (j:=0) hcl10 hcc10 (show 1≤2 from by decide) (x':=(⟨t284,(jF x0_1 x5_1).f1⟩:S78)) (k78_mkM _ _ _ (⟨t284,(jF x0_1 x5_1).f1⟩:S78) ) (fun _ hk=>hk);have hx10_0:=hcc10 0 _ rfl;(try simp only [show (k78).sz=2 from rfl,Nat.mul_one,Nat.add_zero] at hx10_0);have hf10_0:=hfr10 0;(try simp only [show (k78).sz=2 from rfl,Nat.mul_one,Nat.add_zero] at hf10_0);clear hcl10 hcc10 hfr10 hM10) |((with_reducible refine jqb (t:=9) (p:=17) rfl ?_);refine jZa (t:=9) (p:=17) (v:=?vo_w11) (w1:=(w9.setCell ⟨go6,(x5_1:Int).toNat * 2,none⟩ (.string t284))) ?hg ?ho ?hn ?hr ?_;(case ho=>rfl);(case hg=>rfl);(case hn=>rfl);(case hr=>exact Y7);intro w11 hw;have hg:w9.grownBy w11 (some go6):=(by rw [hw];exact HP10.2);have hp_:Kd.R k78 78 w11 w0.heap.size (fun k_=>(P0_ k_∨w.heap.size≤k_)) (.slice (some ⟨go6,0,none⟩) x0_1.length co8) y285:=(by rw [hw,Ny285.out];exact HP10.1);clear HP10;replace HB:=am ((by rw [hw];exact jA (HB.out) GB6.out:Below w0.heap.size w0 w11));replace HK:=am (Kept.jSb (S:=(fun k_=>P0_ k_)) hg (Y8) (fun k_ e_=>(HO_0.out.1 k_ e_)));replace HO_0:=am (hp_);clear hg hw hp_;have p7:0≤(x5_1:Int):=ozD (uq);have q7:(x5_1:Int)<((x0_1.length:Int):Int):=ozD (uq);obtain ⟨ce7,hcl7,hM7,hcc7,hfr7⟩:=Kd.jGb HO_0.out z78 (x5_1:Int) p7 q7;obtain rfl:=jPb hM7;have hx7_0:w11.cell? ⟨go6,(x5_1:Int).toNat * 2,none⟩=some (.string ((jF y285 x5_1).f0)):=hcc7 0 _ rfl;have hx7_1:w11.cell? ⟨go6,(x5_1:Int).toNat * 2+1,none⟩=some (.int .i64 ((jF y285 x5_1).f1)):=hcc7 1 _ rfl;have hf7_0:w11.frozen? ⟨go6,(x5_1:Int).toNat * 2,none⟩=false:=hfr7 0;have hf7_1:w11.frozen? ⟨go6,(x5_1:Int).toNat * 2+1,none⟩=false:=hfr7 1;clear hcl7 hcc7 hfr7 hM7;replace p7:=ezT p7;replace q7:=ezT q7;have HX12:=am (show Kd.R k78 78 w11 w0.heap.size (fun k_=>(P0_ k_∨w.heap.size≤k_)) (.slice (some ⟨go6,0,none⟩) x0_1.length co8) y285 from (rq HO_0.out));obtain ⟨ce12,hcl12,hM12,hcc12,hfr12⟩:=Kd.jGb HX12.out z78 (x5_1:Int) (ozD (uq)) (by have h_:(x5_1:Int)<((x0_1.length:Int):Int):=ozD (uq);first | exact h_ |(have e_:=(Kd.jG HO_0.out).1;omega) | simpa using h_);obtain rfl:=jPb hM12;have HP12:=Kd.R_seg HX12.out (x5_1:Int) (ozD (uq)) (by have h_:(x5_1:Int)<((x0_1.length:Int):Int):=ozD (uq);first | exact h_ |(have e_:=(Kd.jG HO_0.out).1;omega) | simpa using h_) (seg:=[.int .i64 (wrap64 (x1_1+1))]) (j:=1) hcl12 hcc12 (show 2≤2 from by decide) (x':=(⟨(jF y285 x5_1).f0,wrap64 (x1_1+1)⟩:S78)) (k78_mkM _ _ _ (⟨(jF y285 x5_1).f0,wrap64 (x1_1+1)⟩:S78) ) (fun _ hk=>hk);have hx12_1:=hcc12 1 _ rfl;(try simp only [show (k78).sz=2 from rfl,Nat.mul_one,Nat.add_zero] at hx12_1);have hf12_1:=hfr12 1;(try simp only [show (k78).sz=2 from rfl,Nat.mul_one,Nat.add_zero] at hf12_1);clear hcl12 hcc12 hfr12 hM12) |((with_reducible refine jqb (t:=3) (p:=24) rfl ?_);refine jZa (t:=3) (p:=24) (v:=?vo_w13) (w1:=(w11.setCell ⟨go6,(x5_1:Int).toNat * 2+1,none⟩ (.int .i64 (wrap64 (x1_1+1))))) ?hg ?ho ?hn ?hr ?_;(case ho=>rfl);(case hg=>rfl);(case hn=>rfl);(case hr=>exact Y7);intro w13 hw;have hg:w11.grownBy w13 (some go6):=(by rw [hw];exact HP12.2);have hp_:Kd.R k78 78 w13 w0.heap.size (fun k_=>(P0_ k_∨w.heap.size≤k_)) (.slice (some ⟨go6,0,none⟩) x0_1.length co8) y286:=(by rw [hw,Ny286.out];exact HP12.1);clear HP12;replace HB:=am ((by rw [hw];exact jA (HB.out) GB6.out:Below w0.heap.size w0 w13));replace HK:=am (Kept.jSb (S:=(fun k_=>P0_ k_)) hg (Y8) (fun k_ e_=>(HO_0.out.1 k_ e_)));replace HO_0:=am (hp_);clear hg hw hp_))
     go_roundg k1
     case measure=>have:=HK1.out;omega
     case rel=>exact ⟨(y286),(wrap64 ((wrap64 (x1_1+1))+1)),(wrap64 (x5_1+1)),(sq),(sq),H',⟨by have:=HK1.out;omega⟩,⟨rq HO_0.out⟩,⟨Y8⟩,⟨bq⟩⟩
    ·rw [if_neg c5] at H
     exact absurd H (by simp)
   ·rw [if_neg c3] at H
    have c3b0:decide (x5_1<(x0_1.length:Int))=false:=dzF c3
    clear c3
    simp only [Option.some.injEq,Prod.mk.injEq] at H
    obtain ⟨rfl,rfl⟩:=H
    obtain ⟨Ao14,co14,eo14⟩:=Kd.jOa HO_0.out
    subst eo14
    go_wp2
    go_ret
    exact ⟨Y0,rq HO_0.out,bq,Y8⟩
def jha.f (k : Nat) (l0_0 : List (S78)) (a1 : Int) : Option (Int × (List (S78))) := (jfa.f k l0_0 a1).bind fun bt288 => (some (bt288.1, bt288.2))
set_option maxHeartbeats 8000000 in
set_option maxRecDepth 100000 in
theorem jha.calls (k : Nat) (P0_0_ : Nat → Prop) (u9000_ : Value) (l0_0 : List (S78)) (a1 : Int) (r1 : Int) (r2 : List (S78)) (w0 w : World) (hB : Below w0.heap.size w0 w) (ho0_0 : Kd.R k78 78 w w0.heap.size P0_0_ u9000_ l0_0) (h : jha.f k l0_0 a1 = some (r1, r2)) :
  Calls Try.prog 15 #[.agg #[u9000_], .int .i64 a1] w fun e w'=>e=.returned (.int .i64 r1)∧Kd.R k78 78 w' w0.heap.size (fun k_=>(P0_0_ k_∨w.heap.size≤k_)) u9000_ r2∧Below w0.heap.size w0 w'∧Kept w w' (fun k_=>P0_0_ k_):=by
 have hu32:=Try.underlying32
 have HO0_0:=am (show Kd.R k78 78 w w0.heap.size (fun k_=>(P0_0_ k_∨w.heap.size≤k_)) u9000_ l0_0 from Kd.jGa ho0_0 (fun k_ hk=>(.inl hk)))
 have HK:=am (Kept.refl w (fun k_=>P0_0_ k_))
 have HW0:=am hB.size
 have HB:=am hB
 clear hB
 have H:((jfa.f k l0_0 a1).bind fun bt288=>(some (bt288.1,bt288.2)))=some (r1,r2):=h
 clear h
 replace H:=bzS H
 obtain ⟨⟨t288,t289⟩,A30,H⟩:=H
 replace H:(some (t288,t289))=some (r1,r2):=H
 have A3:=am A30
 clear A30
 simp only [Option.some.injEq,Prod.mk.injEq] at H
 obtain ⟨rfl,rfl⟩:=H
 obtain ⟨Ao4,co4,eo4⟩:=Kd.jOa HO0_0.out
 subst eo4
 go_enter Try.func15,Try.ntmps15
 go_wp2_with (first |((with_reducible refine jO (N:=2) rfl ?_);refine bE (N:=2) (cs:=#[.slice Ao4 l0_0.length co4]) (t:=32) ?_;intro gb287 hg w5 hbox hb;have BK287:=am (hbox);have GW287:=am ((by rw [hg];exact (by first | exact HK.out.1 | exact (show Kept w _ (fun k_=>P0_0_ k_) from by repeat (first |(with_reducible first | exact HK.out | apply Kept.alloc | apply Kept.drewN | apply Kept.drew) | exact HK.out)).1):w.heap.size≤gb287));have GE287:=am ((Y1:w0.heap.size≤gb287));replace HO0_0:=am (Kd.jP (rq HO0_0.out) hb);replace HK:=am (Kept.below (S:=(fun k_=>P0_0_ k_)) (Y8) hb);replace HB:=am (jd (bq) hb);clear hb hbox hg;have hcz6_0:=bc0 BK287.out;have hfz6_0:=ja BK287.out 0) |((with_reducible refine jf (f:=39) rfl ?_);refine gL (some 8) Try.func39 #[.slice Ao4 l0_0.length co4, .int .i64 a1] ?_;(with_reducible refine (jfa.calls k (fun k_=>some k_=(.slice Ao4 l0_0.length co4:Value).ownBlock) (.slice Ao4 l0_0.length co4) l0_0 a1 t288 t289 w0 _ ?side1 ?side2 A3.out).mono ?_);(case side1=>exact Y48);(case side2=>exact Kd.R_tight rfl HO0_0.out);rintro e w7 ⟨rfl,hy0,hb,hkp⟩;refine ⟨_,rfl,?_⟩;replace BK287:=am (jTb (kq BK287.out) hkp (fun hs_=>(fun e_=>(Kd.R_ne HO0_0.out BK287.out (by decide)) e_) hs_));replace HK:=am (Kept.then_ (S:=(fun k_=>P0_0_ k_)) (Y49) hkp (fun k_ hs_=>(fun e_=>(HO0_0.out.1 k_ e_.symm)) hs_));replace HO0_0:=am (Kd.R_reok rfl hy0 (fun k_ e_=>HO0_0.out.1 k_ e_));replace HB:=am (hb);(try clear hb);(try clear hkp);(try clear hy0)))
 go_ret
 exact ⟨Y0,rq HO0_0.out,Y48,Y49⟩
end Go.Proofs.Ytkhiiiddbmgiaaa.P
end
