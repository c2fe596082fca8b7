/- One part of the proofs on this program: functions of the program as plain functions, that the code comes to them, and facts on them. -/
import Derived.Test.YtkedkinojeoeaaaYAll1
import Derived.Test.YtkedkinojeoeaaaYAll4
import Derived.Test.YtkedkinojeoeaaaYAll5
import Derived.Test.YtkedkinojeoeaaaYWAuto
section
namespace Go.Proofs.Ytkedkinojeoeaaa.P
open Go.RowKit Go.Proofs.YtkedkinojeoeaaaW.PrintWords Go.Proofs.YtkedkinojeoeaaaW.PrintLast Go.Proofs.YtkedkinojeoeaaaW.PrintMore
attribute [local go_sem] joa jma jya jxa jZ jY jna jla ji
set_option linter.unusedVariables false
set_option linter.unusedSimpArgs false
def inB (a lo hi : Int) : Bool := decide (lo ≤ a) && decide (a ≤ hi)
theorem jic (a lo hi : Int) : jR.f a lo hi = some (inB a lo hi) := by
 unfold jR.f inB
 by_cases h:a≥lo
 ·rw [if_pos h];simp [show lo≤a from h]
 ·rw [if_neg h];simp [show ¬ lo≤a from h]
theorem jXc (a b c d : Int) : jkb.f a b c d = some (inB b 7 12) := by
 unfold jkb.f
 rw [jic];rfl
def VF (W : World) (B1 BL BT : Nat) (a x : S36) (tv : Value) : Prop :=
 W.heap[B1]?=some (.cells #[.int .i64 a.f0, .int .i64 a.f1, .int .i64 a.f2, .int .i64 a.f3] 36 (0,0))∧W.heap[BL]?=some (.cells #[.int .i64 x.f0, .int .i64 x.f1, .int .i64 x.f2, .int .i64 x.f3] 36 (0,0))∧W.cell? ⟨BT,0,none⟩=some tv
theorem VF.below {W W' : World} {B1 BL BT : Nat} {a x : S36} {tv : Value} (h : VF W B1 BL BT a x tv) (hb : Below W.heap.size W W') : VF W' B1 BL BT a x tv :=
 ⟨(hb.block _ (jLb h.1)).trans h.1,(hb.block _ (jLb h.2.1)).trans h.2.1,jEa hb h.2.2⟩
theorem VF.cells {W : World} {B1 BL BT : Nat} {a x : S36} {tv : Value} (h : VF W B1 BL BT a x tv) :
  W.cell? ⟨B1,0,none⟩=some (.int .i64 a.f0)∧W.cell? ⟨B1,1,none⟩=some (.int .i64 a.f1)∧W.cell? ⟨B1,2,none⟩=some (.int .i64 a.f2)∧W.cell? ⟨B1,3,none⟩=some (.int .i64 a.f3) ∧
  W.cell? ⟨BL,0,none⟩=some (.int .i64 x.f0)∧W.cell? ⟨BL,1,none⟩=some (.int .i64 x.f1)∧W.cell? ⟨BL,2,none⟩=some (.int .i64 x.f2)∧W.cell? ⟨BL,3,none⟩=some (.int .i64 x.f3)∧W.cell? ⟨BT,0,none⟩=some tv :=
 ⟨(jI h.1 0).trans rfl,(jI h.1 1).trans rfl,(jI h.1 2).trans rfl,(jI h.1 3).trans rfl,(jI h.2.1 0).trans rfl,(jI h.2.1 1).trans rfl,(jI h.2.1 2).trans rfl,(jI h.2.1 3).trans rfl,h.2.2⟩
theorem VF.frozen {W : World} {B1 BL BT : Nat} {a x : S36} {tv : Value} (h : VF W B1 BL BT a x tv) : W.frozen? ⟨B1, 0, none⟩ = false ∧ W.frozen? ⟨B1, 1, none⟩ = false ∧ W.frozen? ⟨B1, 2, none⟩ = false ∧ W.frozen? ⟨B1, 3, none⟩ = false :=
 ⟨ja h.1 0,ja h.1 1,ja h.1 2,ja h.1 3⟩
theorem four_stored {W : World} {B T : Nat} {a b c d a' b' c' d' : Value} (h : W.heap[B]? = some (.cells #[a, b, c, d] T (0, 0))) :
  ((((W.setCell ⟨B,0,none⟩ a').setCell ⟨B,1,none⟩ b').setCell ⟨B,2,none⟩ c').setCell ⟨B,3,none⟩ d').heap[B]?=some (.cells #[a',b',c',d'] T (0,0)):=by
 have h0:=blk_set h 0 a'
 have h1:=blk_set h0 1 b'
 have h2:=blk_set h1 2 c'
 have h3:=blk_set h2 3 d'
 simpa using h3
theorem four_below {W w : World} {base B : Nat} {a' b' c' d' : Value} (h : Below base w W) (hB : base ≤ B) :
  Below base w ((((W.setCell ⟨B,0,none⟩ a').setCell ⟨B,1,none⟩ b').setCell ⟨B,2,none⟩ c').setCell ⟨B,3,none⟩ d') :=
 (((h.setCell (p:=⟨B,0,none⟩) hB _).setCell (p:=⟨B,1,none⟩) hB _).setCell (p:=⟨B,2,none⟩) hB _).setCell (p:=⟨B,3,none⟩) hB _
theorem four_far {W : World} {B C : Nat} {a' b' c' d' v : Value} (h : W.cell? ⟨C, 0, none⟩ = some v) (hne : B ≠ C) :
  ((((W.setCell ⟨B,0,none⟩ a').setCell ⟨B,1,none⟩ b').setCell ⟨B,2,none⟩ c').setCell ⟨B,3,none⟩ d').cell? ⟨C,0,none⟩=some v:=by
 have e:∀ j,(⟨B,j,none⟩:Addr)≠⟨C,0,none⟩:=fun j hj=>hne (by injection hj)
 rw [World.cell?_setCell_other (h:=e 3),World.cell?_setCell_other (h:=e 2),World.cell?_setCell_other (h:=e 1),World.cell?_setCell_other (h:=e 0)]
 exact h
def jB.bad (x last : S36) : Bool := !inB x.f0 0 5 || (inB last.f1 7 12 && decide (x.f0 ≠ last.f0 + 1)) || (!inB last.f1 7 12 && decide (last.f0 < x.f0))
def jB.go (k : Nat) (t : List S75) : List S36 → S36 → Option (Option S36)
 | [],last=>some (some last)
 | x :: xs,last=>(jJa.f k x.f0 x.f1 x.f2 x.f3 t).bind fun v=>if v=false then some none else if jB.bad x last then some none else jB.go k t xs x
def jB.f (k : Nat) (l0_0 : List S75) (l1 : List S36) : Option Bool := (jG.f k l0_0).bind fun v =>
 if v=false then some false else if 24<l1.length then some false else
 (jB.go k l0_0 l1 ⟨-1,7,0,0⟩).bind fun q=>match q with
 | none=>some false
 | some last=>if l1.length=0 then jo.f k l1 0 (l1.length:Int) false else if inB last.f1 7 12 then some false else jo.f k l1 0 (l1.length:Int) false
theorem jB.step {k : Nat} {t : List S75} {p : List S36} {n : Nat} {last : S36} {q : Option S36} (hn : n < p.length) (h : jB.go k t (p.drop n) last = some q) :
  ∃ v,jJa.f k p[n].f0 p[n].f1 p[n].f2 p[n].f3 t=some v∧(if v=false then some none else if jB.bad p[n] last then some none else jB.go k t (p.drop (n+1)) p[n])=some q:=by
 rw [List.drop_eq_getElem_cons hn] at h
 exact bzS h
set_option maxHeartbeats 8000000 in
set_option maxRecDepth 100000 in
theorem jB.calls (k : Nat) (A0_0 : Option Addr) (c0_0 : Nat) (l0_0 : List S75) (A1 : Option Addr) (c1 : Nat) (l1 : List S36) (r : Bool) (w : World) (hr0_0 : Kd.C k75 w A0_0 l0_0.length l0_0) (hc0_0 : l0_0.length ≤ c0_0) (hr1 : Kd.C k36 w A1 l1.length l1) (hc1 : l1.length ≤ c1) (h : jB.f k l0_0 l1 = some r) :
  Calls Try.prog 12 #[.agg #[.slice A0_0 l0_0.length c0_0], .slice A1 l1.length c1] w fun e w'=>e=.returned (.bool r)∧Below w.heap.size w w':=by
 have hu25:=Try.underlying25
 have hu36:=Try.underlying36
 have hm:l1.length≤9223372036854775807:=Kd.C_max hr1
 obtain ⟨v,hv,h⟩:=bzS h
 have HV:=am (fun W (hb:Below w.heap.size w W)=>jG.calls k A0_0 c0_0 l0_0 v W (Kd.jN hr0_0 hb) hc0_0 hv)
 have HR0:=am hr0_0
 have HR1:=am hr1
 clear hv hr0_0 hr1
 cases v with
 | false =>
  obtain rfl:false=r:=by simpa using h
  clear h
  go_enter Try.func12,Try.ntmps12
  go_wp2_with (go_at_call 36;refine (HV.out _ ((Below.refl _ _).alloc (Nat.le_refl _) _)).mono ?_;rintro e w' ⟨rfl,hb2⟩)
  go_ret
  exact ⟨rfl,((Below.refl _ _).alloc (Nat.le_refl _) _).trans (hb2.mono (by simp))⟩
 | true =>
  simp only [Bool.true_eq_false,if_false] at h
  by_cases h24:24<l1.length
  ·rw [if_pos h24] at h
   obtain rfl:false=r:=by simpa using h
   have h24b:decide (24<l1.length)=true:=dzT h24
   clear h
   go_enter Try.func12,Try.ntmps12
   go_wp2_with (go_at_call 36;refine (HV.out _ ((Below.refl _ _).alloc (Nat.le_refl _) _)).mono ?_;rintro e w' ⟨rfl,hb2⟩)
   go_ret
   exact ⟨rfl,((Below.refl _ _).alloc (Nat.le_refl _) _).trans (hb2.mono (by simp))⟩
  ·rw [if_neg h24] at h
   have h24b:decide (24<l1.length)=false:=dzF h24
   obtain ⟨q,hq,h⟩:=bzS h
   have H0:=am hq
   have HZ:=am h
   clear h hq
   go_enter Try.func12,Try.ntmps12
   go_wp2_with (go_at_call 36;refine (HV.out _ ((Below.refl _ _).alloc (Nat.le_refl _) _)).mono ?_;rintro e w2 ⟨rfl,hb2⟩;have HB2:=am (((Below.refl w.heap.size w).alloc (Nat.le_refl _) (.cells #[.slice A0_0 l0_0.length c0_0] 25)).trans (hb2.mono (by simp)));have hs2:w.heap.size<w2.heap.size:=Nat.lt_of_lt_of_le (by simp) hb2.size;have ht2:=jEa hb2 (show (w.alloc (.cells #[.slice A0_0 l0_0.length c0_0] 25)).cell? ⟨w.heap.size,0,none⟩=some (.slice A0_0 l0_0.length c0_0) by simp);clear hb2)
   obtain ⟨B1,hB1⟩:∃ B1,B1=w2.heap.size:=⟨_,rfl⟩
   have HBK:=am (show (w2.alloc (.cells #[.int .i64 (-1), .int .i64 7, .int .i64 0, .int .i64 0] 36)).heap[B1]?=some (.cells #[.int .i64 (-1), .int .i64 7, .int .i64 0, .int .i64 0] 36 (0,0)) by rw [hB1];exact heap_alloc_new w2 _)
   have hBl:=am (HB2.out.alloc (Nat.le_of_lt hs2) (.cells #[.int .i64 (-1), .int .i64 7, .int .i64 0, .int .i64 0] 36))
   have hT:=am (show (w2.alloc (.cells #[.int .i64 (-1), .int .i64 7, .int .i64 0, .int .i64 0] 36)).cell? ⟨w.heap.size,0,none⟩=some (.slice A0_0 l0_0.length c0_0) by simp [World.cell?_alloc_old,Nat.ne_of_lt hs2,ht2])
   rw [← hB1]
   have hlt1:w.heap.size<B1:=by omega
   clear hB1
   generalize w2.alloc (.cells #[.int .i64 (-1), .int .i64 7, .int .i64 0, .int .i64 0] 36)=w3 at HBK hBl hT ⊢
   clear ht2 hs2 HB2 HV
   go_loopw [19] (fun i19 wr=>∃ (n:Nat) (last:S36),i19=.int .i64 n∧n≤l1.length∧-1≤last.f0∧last.f0≤5∧jl (jB.go k l0_0 (l1.drop n) last=some q)∧jl (wr.heap[B1]?=some (.cells #[.int .i64 last.f0, .int .i64 last.f1, .int .i64 last.f2, .int .i64 last.f3] 36 (0,0)))∧jl (wr.cell? ⟨w.heap.size,0,none⟩=some (.slice A0_0 l0_0.length c0_0))∧jl (Below w.heap.size w wr)) (fun i19 _=>l1.length - (intOf i19).toNat)
   case atStart=>exact ⟨0,⟨-1,7,0,0⟩,rfl,Nat.zero_le _,by simp,by simp,H0,HBK,hT,hBl⟩
   case round =>
    clear H0 HBK hT hBl
    obtain ⟨n,last,rfl,hn,hlo,hhi,HA,HBK,HT,HB⟩:=hrel
    have ht2:=HT.out
    have g0:wr.cell? ⟨B1,0,none⟩=some (.int .i64 last.f0):=(jI HBK.out 0).trans rfl
    have g1:wr.cell? ⟨B1,1,none⟩=some (.int .i64 last.f1):=(jI HBK.out 1).trans rfl
    have g2:wr.cell? ⟨B1,2,none⟩=some (.int .i64 last.f2):=(jI HBK.out 2).trans rfl
    have g3:wr.cell? ⟨B1,3,none⟩=some (.int .i64 last.f3):=(jI HBK.out 3).trans rfl
    have hBw:B1<wr.heap.size:=jLb HBK.out
    have hne:B1≠wr.heap.size:=by omega
    have hne2:w.heap.size≠wr.heap.size:=by omega
    have hTw:w.heap.size<wr.heap.size:=by omega
    by_cases hlt:n<l1.length
    ·obtain ⟨v,hv,hs⟩:=jB.step hlt HA.out
     clear HA
     obtain ⟨ad,rfl,hx0,hx1,hx2,hx3⟩:=jpa HR1.out (n:Int) (by omega) (by omega)
     have hrd:jc l1 (n:Int)=l1[n]:=by simp [jc,List.getD_eq_getElem?_getD,hlt]
     rw [hrd,Int.toNat_natCast] at hx0 hx1 hx2 hx3
     clear hrd
     generalize l1[n]=x at hv hs hx0 hx1 hx2 hx3
     have hb:=HB.out
     replace hx0:=jEa hb hx0
     replace hx1:=jEa hb hx1
     replace hx2:=jEa hb hx2
     replace hx3:=jEa hb hx3
     clear hb
     have HG:=am (fun W (hb:Below w.heap.size w W)=>jJa.calls k x.f0 x.f1 x.f2 x.f3 A0_0 c0_0 l0_0 v W (Kd.jN HR0.out hb) hc0_0 hv)
     clear hv
     cases v with
     | false =>
      obtain rfl:none=q:=by simpa using hs
      obtain rfl:false=r:=by simpa using HZ.out
      clear hs HZ
      go_wp2_with (go_at_call 37;refine (HG.out _ (HB.out.alloc HB.out.size _)).mono ?_;rintro e w4 ⟨rfl,hb4⟩)
      go_ret
      exact ⟨rfl,jra (HB.out.alloc HB.out.size _) (by simp;have:=HB.out.size;omega) hb4⟩
     | true =>
      simp only [Bool.true_eq_false,if_false] at hs
      have V0:=am (show VF (wr.alloc (.cells #[.int .i64 x.f0, .int .i64 x.f1, .int .i64 x.f2, .int .i64 x.f3] 36)) B1 wr.heap.size w.heap.size last x (.slice A0_0 l0_0.length c0_0) from ⟨(heap_alloc_old wr _ hBw).trans HBK.out,heap_alloc_new wr _,by rw [World.cell?_alloc_old _ _ _ hne2];exact HT.out⟩)
      have HO:=am (fun W=>jkb.calls last.f0 last.f1 last.f2 last.f3 _ W (jXc _ _ _ _))
      clear g0 g1 g2 g3
      have tok1:True:=trivial
      have HS:=am hs
      clear hs
      cases h5:inB x.f0 0 5 with
      | false =>
       have H5:=am h5
       obtain rfl:none=q:=by simpa [jB.bad,h5] using HS.out
       obtain rfl:false=r:=by simpa using HZ.out
       clear HS HZ h5
       go_wp2_with (first |(go_at_call 37;refine (HG.out _ (HB.out.alloc HB.out.size _)).mono ?_;rintro e w4 ⟨rfl,hb4⟩;have V4:=am (VF.below V0.out hb4);have HB4:=am (jra (HB.out.alloc HB.out.size _) (by simp;have:=HB.out.size;omega) hb4);clear hb4;obtain ⟨g0,g1,g2,g3,e0,e1,e2,e3,ht4⟩:=VF.cells V4.out) |(go_at_call 38;refine (jR.calls _ _ _ _ _ (jic _ _ _)).mono ?_;rintro e w5 ⟨rfl,⟨nd,rfl⟩⟩;rw [H5.out]))
       go_ret
       exact ⟨rfl,jm HB4.out _⟩
      | true =>
       have H5:=am h5
       have hx5:0≤x.f0∧x.f0≤5:=by simpa [inB] using h5
       cases ho:inB last.f1 7 12 with
       | true =>
        rw [ho] at HO
        by_cases hd:x.f0=last.f0+1
        ·have hb1:(x.f0 != last.f0+1)=false:=by simpa using hd
         have hbad:jB.bad x last=false:=by unfold jB.bad;rw [h5,ho];simp [hd]
         have HN:=am (by have:=HS.out;rw [hbad] at this;simpa using this:jB.go k l0_0 (l1.drop (n+1)) x=some q)
         clear hbad
         clear HS hd h5 ho
         go_wp2_with (first |(go_at_call 37;refine (HG.out _ (HB.out.alloc HB.out.size _)).mono ?_;rintro e w4 ⟨rfl,hb4⟩;have V4:=am (VF.below V0.out hb4);have HB4:=am (jra (HB.out.alloc HB.out.size _) (by simp;have:=HB.out.size;omega) hb4);clear hb4;obtain ⟨g0,g1,g2,g3,e0,e1,e2,e3,ht4⟩:=VF.cells V4.out) |(go_at_call 38;refine (jR.calls _ _ _ _ _ (jic _ _ _)).mono ?_;rintro e w5 ⟨rfl,⟨nd,rfl⟩⟩;rw [H5.out]) |(go_at_call 39;have tk1:=tok1;clear tok1;refine (HO.out _).mono ?_;rintro e w6 ⟨rfl,hb6⟩;have V6:=am (VF.below (W:=World.drewN _ _) V4.out hb6);have HB6:=am (jra (w1:=World.drewN _ _) (show Below w.heap.size w (World.drewN _ _) from ⟨HB4.out.os,HB4.out.tape,HB4.out.output,HB4.out.size,HB4.out.block⟩) HB4.out.size hb6);clear hb6 g0 g1 g2 g3 e0 e1 e2 e3 ht4;obtain ⟨g0,g1,g2,g3,e0,e1,e2,e3,ht4⟩:=VF.cells V6.out) |(go_at_call 39;refine (HO.out _).mono ?_;rintro e w7 ⟨rfl,hb7⟩;have V7:=am (VF.below V6.out hb7);have HB7:=am (jra HB6.out HB6.out.size hb7);clear hb7 g0 g1 g2 g3 e0 e1 e2 e3 ht4;obtain ⟨g0,g1,g2,g3,e0,e1,e2,e3,ht4⟩:=VF.cells V7.out;obtain ⟨f0,f1,f2,f3⟩:=VF.frozen V7.out))
         go_roundw
         case rel=>exact ⟨n+1,x,by go_num,hlt,by omega,by omega,HN,⟨four_stored V7.out.1⟩,⟨four_far V7.out.2.2 (by omega)⟩,⟨four_below HB7.out (by omega)⟩⟩
         case measure=>simp [intOf];omega
        ·have hb1:(x.f0 != last.f0+1)=true:=by simpa using hd
         obtain rfl:none=q:=by simpa [jB.bad,h5,ho,hd] using HS.out
         obtain rfl:false=r:=by simpa using HZ.out
         clear HS HZ hd h5 ho
         go_wp2_with (first |(go_at_call 37;refine (HG.out _ (HB.out.alloc HB.out.size _)).mono ?_;rintro e w4 ⟨rfl,hb4⟩;have V4:=am (VF.below V0.out hb4);have HB4:=am (jra (HB.out.alloc HB.out.size _) (by simp;have:=HB.out.size;omega) hb4);clear hb4;obtain ⟨g0,g1,g2,g3,e0,e1,e2,e3,ht4⟩:=VF.cells V4.out) |(go_at_call 38;refine (jR.calls _ _ _ _ _ (jic _ _ _)).mono ?_;rintro e w5 ⟨rfl,⟨nd,rfl⟩⟩;rw [H5.out]) |(go_at_call 39;have tk1:=tok1;clear tok1;refine (HO.out _).mono ?_;rintro e w6 ⟨rfl,hb6⟩;have V6:=am (VF.below (W:=World.drewN _ _) V4.out hb6);have HB6:=am (jra (w1:=World.drewN _ _) (show Below w.heap.size w (World.drewN _ _) from ⟨HB4.out.os,HB4.out.tape,HB4.out.output,HB4.out.size,HB4.out.block⟩) HB4.out.size hb6);clear hb6 g0 g1 g2 g3 e0 e1 e2 e3 ht4;obtain ⟨g0,g1,g2,g3,e0,e1,e2,e3,ht4⟩:=VF.cells V6.out))
         go_ret
         exact ⟨rfl,HB6.out⟩
       | false =>
        rw [ho] at HO
        by_cases hd:last.f0<x.f0
        ·have hb1:decide (last.f0<x.f0)=true:=dzT hd
         have hbad:jB.bad x last=true:=by unfold jB.bad;rw [h5,ho];simp [hd]
         obtain rfl:none=q:=by have:=HS.out;rw [hbad] at this;simpa using this
         obtain rfl:false=r:=by simpa using HZ.out
         clear HS HZ hd h5 ho hbad
         go_wp2_with (first |(go_at_call 37;refine (HG.out _ (HB.out.alloc HB.out.size _)).mono ?_;rintro e w4 ⟨rfl,hb4⟩;have V4:=am (VF.below V0.out hb4);have HB4:=am (jra (HB.out.alloc HB.out.size _) (by simp;have:=HB.out.size;omega) hb4);clear hb4;obtain ⟨g0,g1,g2,g3,e0,e1,e2,e3,ht4⟩:=VF.cells V4.out) |(go_at_call 38;refine (jR.calls _ _ _ _ _ (jic _ _ _)).mono ?_;rintro e w5 ⟨rfl,⟨nd,rfl⟩⟩;rw [H5.out]) |(go_at_call 39;have tk1:=tok1;clear tok1;refine (HO.out _).mono ?_;rintro e w6 ⟨rfl,hb6⟩;have V6:=am (VF.below (W:=World.drewN _ _) V4.out hb6);have HB6:=am (jra (w1:=World.drewN _ _) (show Below w.heap.size w (World.drewN _ _) from ⟨HB4.out.os,HB4.out.tape,HB4.out.output,HB4.out.size,HB4.out.block⟩) HB4.out.size hb6);clear hb6 g0 g1 g2 g3 e0 e1 e2 e3 ht4;obtain ⟨g0,g1,g2,g3,e0,e1,e2,e3,ht4⟩:=VF.cells V6.out) |(go_at_call 39;refine (HO.out _).mono ?_;rintro e w7 ⟨rfl,hb7⟩;have V7:=am (VF.below V6.out hb7);have HB7:=am (jra HB6.out HB6.out.size hb7);clear hb7 g0 g1 g2 g3 e0 e1 e2 e3 ht4;obtain ⟨g0,g1,g2,g3,e0,e1,e2,e3,ht4⟩:=VF.cells V7.out;obtain ⟨f0,f1,f2,f3⟩:=VF.frozen V7.out))
         go_ret
         exact ⟨rfl,HB7.out⟩
        ·have hb1:decide (last.f0<x.f0)=false:=dzF hd
         have hbad:jB.bad x last=false:=by unfold jB.bad;rw [h5,ho];simp [hd]
         have HN:=am (by have:=HS.out;rw [hbad] at this;simpa using this:jB.go k l0_0 (l1.drop (n+1)) x=some q)
         clear hbad HS hd h5 ho
         go_wp2_with (first |(go_at_call 37;refine (HG.out _ (HB.out.alloc HB.out.size _)).mono ?_;rintro e w4 ⟨rfl,hb4⟩;have V4:=am (VF.below V0.out hb4);have HB4:=am (jra (HB.out.alloc HB.out.size _) (by simp;have:=HB.out.size;omega) hb4);clear hb4;obtain ⟨g0,g1,g2,g3,e0,e1,e2,e3,ht4⟩:=VF.cells V4.out) |(go_at_call 38;refine (jR.calls _ _ _ _ _ (jic _ _ _)).mono ?_;rintro e w5 ⟨rfl,⟨nd,rfl⟩⟩;rw [H5.out]) |(go_at_call 39;have tk1:=tok1;clear tok1;refine (HO.out _).mono ?_;rintro e w6 ⟨rfl,hb6⟩;have V6:=am (VF.below (W:=World.drewN _ _) V4.out hb6);have HB6:=am (jra (w1:=World.drewN _ _) (show Below w.heap.size w (World.drewN _ _) from ⟨HB4.out.os,HB4.out.tape,HB4.out.output,HB4.out.size,HB4.out.block⟩) HB4.out.size hb6);clear hb6 g0 g1 g2 g3 e0 e1 e2 e3 ht4;obtain ⟨g0,g1,g2,g3,e0,e1,e2,e3,ht4⟩:=VF.cells V6.out) |(go_at_call 39;refine (HO.out _).mono ?_;rintro e w7 ⟨rfl,hb7⟩;have V7:=am (VF.below V6.out hb7);have HB7:=am (jra HB6.out HB6.out.size hb7);clear hb7 g0 g1 g2 g3 e0 e1 e2 e3 ht4;obtain ⟨g0,g1,g2,g3,e0,e1,e2,e3,ht4⟩:=VF.cells V7.out;obtain ⟨f0,f1,f2,f3⟩:=VF.frozen V7.out))
         go_roundw
         case rel=>exact ⟨n+1,x,by go_num,hlt,by omega,by omega,HN,⟨four_stored V7.out.1⟩,⟨four_far V7.out.2.2 (by omega)⟩,⟨four_below HB7.out (by omega)⟩⟩
         case measure=>simp [intOf];omega
    ·have hgo:=HA.out
     rw [List.drop_eq_nil_of_le (by omega)] at hgo
     obtain rfl:some last=q:=by simpa [jB.go] using hgo
     clear hgo HA
     have HY:=am HZ.out
     clear HZ
     by_cases h0:l1.length=0
     ·have hy:=HY.out
      simp only [if_pos h0] at hy
      have HQ:=am (fun W (hb:Below w.heap.size w W)=>jo.calls k A1 c1 l1 0 (l1.length:Int) false r W (Kd.jN HR1.out hb) hc1 hy)
      have HBX:=HB.out
      clear hy HY
      have hz1:((l1.length:Int) == 0)=true:=by simp [h0]
      have hz2:(l1.length == 0)=true:=by simp [h0]
      clear h0
      go_wp2_with (first |(go_at_call 40;refine (HQ.out _ HBX).mono ?_;rintro e w9 ⟨rfl,hb9⟩;have HB9:=am (jra HBX HBX.size hb9)))
      go_ret
      exact ⟨rfl,HB9.out⟩
     ·have hz1:((l1.length:Int) == 0)=false:=by simpa using h0
      have hz2:(l1.length == 0)=false:=by simpa using h0
      have HO:=am (fun W=>jkb.calls last.f0 last.f1 last.f2 last.f3 _ W (jXc _ _ _ _))
      have hy:=HY.out
      simp only [if_neg h0] at hy
      clear HY
      cases ho:inB last.f1 7 12 with
      | true =>
       rw [ho] at HO hy
       obtain rfl:false=r:=by simpa using hy
       clear hy ho h0
       go_wp2_with (first |(go_at_call 39;refine (HO.out _).mono ?_;rintro e w6 ⟨rfl,hb6⟩;have HBX:=jra HB.out HB.out.size hb6;clear hb6))
       go_ret
       exact ⟨rfl,HBX⟩
      | false =>
       rw [ho] at HO hy
       simp only [Bool.false_eq_true,if_false] at hy
       have HQ:=am (fun W (hb:Below w.heap.size w W)=>jo.calls k A1 c1 l1 0 (l1.length:Int) false r W (Kd.jN HR1.out hb) hc1 hy)
       clear hy ho h0
       go_wp2_with (first |(go_at_call 39;refine (HO.out _).mono ?_;rintro e w6 ⟨rfl,hb6⟩;have HBX:=jra HB.out HB.out.size hb6;clear hb6) |(go_at_call 40;refine (HQ.out _ HBX).mono ?_;rintro e w9 ⟨rfl,hb9⟩;have HB9:=am (jra HBX HBX.size hb9)))
       go_ret
       exact ⟨rfl,HB9.out⟩
def jpb.f (k : Nat) (l0_0 : List (S75)) (l1 : List (S36)) (a2 : Int) : Option (Bool) := (jB.f k l0_0 l1).bind fun t473 => (if t473 = true then ((jR.f a2 0 (wrap64 ((l1.length : Int) - 1))).bind fun t474 => (some t474)) else (some false))
set_option maxHeartbeats 8000000 in
set_option maxRecDepth 100000 in
theorem jpb.calls (k : Nat) (A0_0 : Option Addr) (c0_0 : Nat) (l0_0 : List (S75)) (A1 : Option Addr) (c1 : Nat) (l1 : List (S36)) (a2 : Int) (r : Bool) (w : World) (hr0_0 : Kd.C k75 w A0_0 l0_0.length l0_0) (hc0_0 : l0_0.length ≤ c0_0) (hr1 : Kd.C k36 w A1 l1.length l1) (hc1 : l1.length ≤ c1) (h : jpb.f k l0_0 l1 a2 = some r) :
  Calls Try.prog 31 #[.agg #[.slice A0_0 l0_0.length c0_0], .slice A1 l1.length c1, .int .i64 a2] w fun e w'=>e=.returned (.bool r)∧Below w.heap.size w w':=by
 have hu25:=Try.underlying25
 have HR0_0:=am hr0_0
 have HC0_0:=am hc0_0
 clear hr0_0 hc0_0
 have HR1:=am hr1
 have HC1:=am hc1
 clear hr1 hc1
 have HB:=am (Below.refl w.heap.size w)
 have H:((jB.f k l0_0 l1).bind fun t473=>(if t473=true then ((jR.f a2 0 (wrap64 ((l1.length:Int) - 1))).bind fun t474=>(some t474)) else (some false)))=some r:=h
 clear h
 replace H:=bzS H
 obtain ⟨t473,A40,H⟩:=H
 replace H:(if t473=true then ((jR.f a2 0 (wrap64 ((l1.length:Int) - 1))).bind fun t474=>(some t474)) else (some false))=some r:=H
 have A4:=am A40
 clear A40
 by_cases c5:t473=true
 ·subst c5
  have H1:((jR.f a2 0 (wrap64 ((l1.length:Int) - 1))).bind fun t474=>(some t474))=some r:=by rw [if_pos rfl] at H;exact H
  clear H
  have H:=H1
  clear H1
  replace H:=bzS H
  obtain ⟨t474,A60,H⟩:=H
  replace H:(some t474)=some r:=H
  have A6:=am A60
  clear A60
  obtain rfl:=Option.some.inj H
  go_enter Try.func31,Try.ntmps31
  go_wp2_with (first |((with_reducible refine jJ (N:=3) rfl ?_);(try (refine jAc (by rfl) ?_;dsimp only));refine jGc ?hg (N:=3) ?hd (cs:=#[.slice A0_0 l0_0.length c0_0]) (t:=25) ?hr ?_;(case hd=>rfl);(case hg=>rfl);(case hr=>exact Y6);intro gb472 hg w7 hbox hb;have BK472:=am (hbox);have GW472:=am ((Y3:w.heap.size≤gb472));have GE472:=am ((Y3:w.heap.size≤gb472));replace HB:=am (je (bq) hb);clear hb hbox hg;have hcz8_0:=bc0 BK472.out;have hfz8_0:=ja BK472.out 0) |((with_reducible refine jd (f:=12) rfl ?_);refine gL (some 9) Try.func12 #[.agg #[.slice A0_0 l0_0.length c0_0], .slice A1 l1.length c1] ?_;(with_reducible refine (jB.calls k _ _ l0_0 _ _ l1 true _ ?side1 ?side2 ?side3 ?side4 A4.out).mono ?_);(case side1=>exact cq (Kd.jN HR0_0.out HB.out));(case side2=>exact HC0_0.out);(case side3=>exact cq (Kd.jN HR1.out HB.out));(case side4=>exact HC1.out);rintro e w9 ⟨rfl,hb⟩;refine ⟨_,rfl,?_⟩;replace BK472:=am (jk (g:=gb472) (o:=.cells #[.slice A0_0 l0_0.length c0_0] 25 (0,0)) (kq BK472.out) hb);replace HB:=am (je (Y100) hb);(try clear hb);(try clear hb2);(try clear hk);(try clear hi)) |(go_at_call 38;(with_reducible refine (jR.calls a2 0 (wrap64 ((l1.length:Int) - 1)) t474 _ A6.out).mono ?_);rintro e w' ⟨rfl,⟨nd,rfl⟩⟩))
  go_ret
  exact ⟨Y0,Y100⟩
 ·replace c5:=Bool.eq_false_iff.mpr c5
  subst c5
  have H1:(some false)=some r:=by rw [if_neg (show ¬ (false=true) by decide)] at H;exact H
  clear H
  have H:=H1
  clear H1
  obtain rfl:=Option.some.inj H
  go_enter Try.func31,Try.ntmps31
  go_wp2_with (first |((with_reducible refine jJ (N:=3) rfl ?_);(try (refine jAc (by rfl) ?_;dsimp only));refine jGc ?hg (N:=3) ?hd (cs:=#[.slice A0_0 l0_0.length c0_0]) (t:=25) ?hr ?_;(case hd=>rfl);(case hg=>rfl);(case hr=>exact Y6);intro gb472 hg w10 hbox hb;have BK472:=am (hbox);have GW472:=am ((Y3:w.heap.size≤gb472));have GE472:=am ((Y3:w.heap.size≤gb472));replace HB:=am (je (bq) hb);clear hb hbox hg;have hcz11_0:=bc0 BK472.out;have hfz11_0:=ja BK472.out 0) |((with_reducible refine jd (f:=12) rfl ?_);refine gL (some 9) Try.func12 #[.agg #[.slice A0_0 l0_0.length c0_0], .slice A1 l1.length c1] ?_;(with_reducible refine (jB.calls k _ _ l0_0 _ _ l1 false _ ?side1 ?side2 ?side3 ?side4 A4.out).mono ?_);(case side1=>exact cq (Kd.jN HR0_0.out HB.out));(case side2=>exact HC0_0.out);(case side3=>exact cq (Kd.jN HR1.out HB.out));(case side4=>exact HC1.out);rintro e w12 ⟨rfl,hb⟩;refine ⟨_,rfl,?_⟩;replace BK472:=am (jk (g:=gb472) (o:=.cells #[.slice A0_0 l0_0.length c0_0] 25 (0,0)) (kq BK472.out) hb);replace HB:=am (je (Y100) hb);(try clear hb);(try clear hb2);(try clear hk);(try clear hi)))
  go_ret
  exact ⟨Y0,Y100⟩
def jua.f (l0 : List Int) : Option (List Int) := some (l0)
set_option maxHeartbeats 8000000 in
set_option maxRecDepth 100000 in
theorem jua.calls (P0_ : Nat → Prop) (u9000_ : Value) (l0 : List Int) (r : List Int) (w0 w : World) (hB : Below w0.heap.size w0 w) (ho0 : Kd.R (Kd.int .i64) 3 w w0.heap.size P0_ u9000_ l0) (h : jua.f l0 = some r) :
  Calls Try.prog 59 #[u9000_] w fun e w'=>∃ v0_:Value,e=.returned (v0_)∧Kd.R (Kd.int .i64) 3 w' w0.heap.size (fun k_=>(P0_ k_∨w.heap.size≤k_)) v0_ r∧Below w0.heap.size w0 w'∧Kept w w' (fun k_=>P0_ k_):=by
 have HO0:=am (show Kd.R (Kd.int .i64) 3 w w0.heap.size (fun k_=>(P0_ k_∨w.heap.size≤k_)) u9000_ l0 from Kd.jD ho0 (fun k_ hk=>(.inl hk)))
 have HK:=am (Kept.refl w (fun k_=>P0_ k_))
 have HW0:=am hB.size
 have HB:=am hB
 clear hB
 have H:(some (l0))=some r:=h
 clear h
 obtain ⟨y475,hy475⟩:∃ y_:List Int,y_=(l0):=⟨_,rfl⟩
 replace H:(some y475)=some r:=by first |(rw [hy475];with_reducible exact H) |(have H2_:=(Option.bind_some _ _).symm.trans H;rw [hy475];with_reducible exact H2_) |(have H2_:=(Option.bind_some _ _).symm.trans H;with_reducible exact H2_) | with_reducible exact H |(rw [hy475];exact H) | exact H
 have Ny475:=am hy475
 clear hy475
 obtain rfl:=Option.some.inj H
 obtain ⟨Ao2,co2,eo2⟩:=Kd.jca HO0.out
 subst eo2
 obtain ⟨i03,hi03,_,hsz3,_⟩:=info_parts info3
 have hy3:y475.length=l0.length:=(by rw [Ny475.out])
 have hcut3:=cut_clip (P:=Try.prog) 29 3 Try.underlying29 hi03 Ao2 _ co2 _ (Kd.jq HO0.out).2.1 hy3
 have hr3:=Kd.R_clip HO0.out Ny475.out
 clear hy3 hi03 hsz3 HO0
 have HO477:=am hr3
 clear hr3
 go_enter Try.func59,Try.ntmps59
 go_wp2
 go_ret
 exact ⟨_,Y0,rq HO477.out,bq,by repeat (first |(with_reducible first | exact HK.out | apply Kept.alloc | apply Kept.drewN | apply Kept.drew) | exact HK.out)⟩
def jja.l0 : Nat → List (S36) → Int → List Int → Int → Option (List Int)
 | 0,_,_,_,_=>none
 | k+1,x0,x1,x5,x6=>if x6≥0 then (if 0≤x6 then (if x6<(x0.length:Int) then ((jkb.f ((jc x0 x6).f0) ((jc x0 x6).f1) ((jc x0 x6).f2) ((jc x0 x6).f3)).bind fun t485=>(if t485=true then ((jta.f k x0 x6).bind fun t486=>(if t486 > x1 then (if x5.length<17592186044416 then (jja.l0 k x0 x1 (x5 ++ [x6]) (wrap64 (x6 - 1))) else (none)) else (jja.l0 k x0 x1 x5 (wrap64 (x6 - 1))))) else (jja.l0 k x0 x1 x5 (wrap64 (x6 - 1))))) else (none)) else (none)) else ((jua.f x5).bind fun t481=>(some t481))
def jja.f (k : Nat) (l0 : List (S36)) (a1 : Int) : Option (List Int) := jja.l0 k l0 a1 (([] : List Int)) (wrap64 (a1 - 1))
set_option maxHeartbeats 8000000 in
set_option maxRecDepth 100000 in
theorem jja.calls (k : Nat) (A0 : Option Addr) (c0 : Nat) (l0 : List (S36)) (a1 : Int) (r : List Int) (w : World) (hr0 : Kd.C k36 w A0 l0.length l0) (hc0 : l0.length ≤ c0) (h : jja.f k l0 a1 = some r) :
  Calls Try.prog 41 #[.slice A0 l0.length c0, .int .i64 a1] w fun e w'=>∃ v0_:Value,e=.returned (v0_)∧Kd.R (Kd.int .i64) 3 w' w.heap.size (fun _=>True) v0_ r∧Below w.heap.size w w':=by
 have hu36:=Try.underlying36
 have HR0:=am hr0
 have HC0:=am hc0
 clear hr0 hc0
 have HB:=am (Below.refl w.heap.size w)
 have H:(jja.l0 k l0 a1 (([]:List Int)) (wrap64 (a1 - 1)))=some r:=h
 clear h
 obtain ⟨y478,hy478⟩:∃ y_:List Int,y_=(([]:List Int)):=⟨_,rfl⟩
 replace H:(jja.l0 k l0 a1 y478 (wrap64 (a1 - 1)))=some r:=by first |(rw [hy478];with_reducible exact H) |(have H2_:=(Option.bind_some _ _).symm.trans H;rw [hy478];with_reducible exact H2_) |(have H2_:=(Option.bind_some _ _).symm.trans H;with_reducible exact H2_) | with_reducible exact H |(rw [hy478];exact H) | exact H
 have Ny478:=am hy478
 clear hy478
 have H':=am H
 clear H
 go_enter Try.func41,Try.ntmps41
 go_wp2_with (first |((with_reducible refine jJ (N:=7) rfl ?_);refine Kd.jtc (Kd.int .i64) _ 3 ?hg (N:=7) ?hd (xs:=([]:List Int)) (inner:=[]) (ok:=fun _=>True) (okp:=fun _=>True) ?hr ?hp (fun _ hk=>hk) trivial (Below.refl _ _) (Nat.le_refl _) (by simp) ?_;(case hd=>rfl);(case hg=>rfl);(case hr=>exact Y6);(case hp=>exact (Reps.none _ _));intro v479 w3 ho4 hb hg_ hnew_;clear hg_ hnew_;(first | rw [← Ny478.out] at ho4 |(simp only [Int.reduceToNat] at ho4;rw [← Ny478.out] at ho4));have HO480:=am (Kd.jV ho4 (jT (bq)));replace HB:=am (je (bq) hb);clear hb ho4))
 go_loopg [5,6] k (fun kq v5 v6 w'=>∃ (x5_1:List Int) (x6_1:Int),v6=.int .i64 x6_1∧jl (jja.l0 kq l0 a1 x5_1 x6_1=some r)∧jl (kq≤k)∧jl (Kd.R (Kd.int .i64) 3 w' w.heap.size (fun _=>True) v5 x5_1)∧jl (Below w.heap.size w w'))
 case atStart=>exact ⟨(y478),(wrap64 (a1 - 1)),(sq),H',⟨Nat.le_refl _⟩,⟨rq HO480.out⟩,⟨bq⟩⟩
 case round =>
  clear H'
  try clear p2
  try clear c4
  obtain ⟨x5_1,x6_1,rfl,HA,HK1,HO_5,HB⟩:=hrel
  cases gk with
  | zero=>exact absurd HA.out (by simp [jja.l0])
  | succ k1 =>
   have H:=HA.out
   clear HA
   simp only [jja.l0] at H
   by_cases c5:x6_1≥0
   ·rw [if_pos c5] at H
    have c5b0:decide (0≤x6_1)=true:=dzT c5
    clear c5
    by_cases c6:0≤x6_1
    ·rw [if_pos c6] at H
     have c6b0:decide (0≤x6_1)=true:=dzT c6
     clear c6
     by_cases c7:x6_1<(l0.length:Int)
     ·rw [if_pos c7] at H
      have c7b0:decide (x6_1<(l0.length:Int))=true:=dzT c7
      clear c7
      replace H:=bzS H
      obtain ⟨t485,A80,H⟩:=H
      replace H:(if t485=true then ((jta.f k1 l0 x6_1).bind fun t486=>(if t486 > a1 then (if x5_1.length<17592186044416 then (jja.l0 k1 l0 a1 (x5_1 ++ [x6_1]) (wrap64 (x6_1 - 1))) else (none)) else (jja.l0 k1 l0 a1 x5_1 (wrap64 (x6_1 - 1))))) else (jja.l0 k1 l0 a1 x5_1 (wrap64 (x6_1 - 1))))=some r:=H
      have A8:=am A80
      clear A80
      by_cases c9:t485=true
      ·subst c9
       have H1:((jta.f k1 l0 x6_1).bind fun t486=>(if t486 > a1 then (if x5_1.length<17592186044416 then (jja.l0 k1 l0 a1 (x5_1 ++ [x6_1]) (wrap64 (x6_1 - 1))) else (none)) else (jja.l0 k1 l0 a1 x5_1 (wrap64 (x6_1 - 1)))))=some r:=by rw [if_pos rfl] at H;exact H
       clear H
       have H:=H1
       clear H1
       replace H:=bzS H
       obtain ⟨t486,A100,H⟩:=H
       replace H:(if t486 > a1 then (if x5_1.length<17592186044416 then (jja.l0 k1 l0 a1 (x5_1 ++ [x6_1]) (wrap64 (x6_1 - 1))) else (none)) else (jja.l0 k1 l0 a1 x5_1 (wrap64 (x6_1 - 1))))=some r:=H
       have A10:=am A100
       clear A100
       by_cases c11:t486 > a1
       ·rw [if_pos c11] at H
        have c11b0:decide (a1<t486)=true:=dzT c11
        clear c11
        by_cases c12:x5_1.length<17592186044416
        ·rw [if_pos c12] at H
         have LMc12:=am c12
         clear c12
         obtain ⟨y487,hy487⟩:∃ y_:List Int,y_=(x5_1 ++ [x6_1]):=⟨_,rfl⟩
         replace H:(jja.l0 k1 l0 a1 y487 (wrap64 (x6_1 - 1)))=some r:=by first |(rw [hy487];with_reducible exact H) |(have H2_:=(Option.bind_some _ _).symm.trans H;rw [hy487];with_reducible exact H2_) |(have H2_:=(Option.bind_some _ _).symm.trans H;with_reducible exact H2_) | with_reducible exact H |(rw [hy487];exact H) | exact H
         have Ny487:=am hy487
         clear hy487
         have H':=am H
         clear H
         have p484:0≤(x6_1:Int):=ozD (uq)
         have q484:x6_1<(l0.length:Int):=ozD (uq)
         obtain ⟨ad484,e484,hx484_0,hx484_1,hx484_2,hx484_3⟩:=jpa HR0.out x6_1 p484 q484
         cases e484
         replace hx484_0:=cb HB.out hx484_0
         replace hx484_1:=cb HB.out hx484_1
         replace hx484_2:=cb HB.out hx484_2
         replace hx484_3:=cb HB.out hx484_3
         replace p484:=ezT p484
         replace q484:=ezT q484
         go_wp2_with (first |((with_reducible refine jd (f:=39) rfl ?_);refine gL (some 18) Try.func39 #[.agg #[.int .i64 ((jc l0 x6_1).f0), .int .i64 ((jc l0 x6_1).f1), .int .i64 ((jc l0 x6_1).f2), .int .i64 ((jc l0 x6_1).f3)]] ?_;(with_reducible refine (jkb.calls ((jc l0 x6_1).f0) ((jc l0 x6_1).f1) ((jc l0 x6_1).f2) ((jc l0 x6_1).f3) true _ A8.out).mono ?_);rintro e w13 ⟨rfl,hb⟩;refine ⟨_,rfl,?_⟩;replace HO_5:=am (Kd.jda (rq HO_5.out) hb);replace HB:=am (je (bq) hb);(try clear hb);(try clear hb2);(try clear hk);(try clear hi)) |(go_at_call 69;(with_reducible refine (jta.calls k1 _ _ l0 x6_1 t486 _ ?side1 ?side2 A10.out).mono ?_);(case side1=>exact cq (Kd.jN HR0.out HB.out));(case side2=>exact HC0.out);rintro e w' ⟨rfl,⟨nd,rfl⟩⟩) |((with_reducible refine jNa (b:=.append) (xs:=#[.tmp 26, .tmp 28]) rfl ?_);at_builtin;refine Kd.jbc (Kd.int .i64) (w0:=w) w.heap.size rfl (.tmp 26) (.tmp 28) 29 3 (.int .i64 0) 8 rfl Try.underlying29 info3 rfl (by decide) (by omega) u5 x5_1 x6_1 [.int .i64 x6_1] (fun _=>True) (fun _=>False) rfl rfl ?aP (fun _ hk=>hk.elim) ?aF ?aO ?aB ?aS ?aL ?_;(case aP=>exact rfl);(case aB=>exact (bq));(case aF=>exact (fun _ _=>trivial));(case aO=>exact (rq HO_5.out));(case aS=>exact (jT (bq)));(case aL=>have:=LMc12.out;omega);intro v488 w14 ho hb hg hat;rw [← Ny487.out] at ho;have n0_:=am (hb);have n1_:=am (ho);clear HB HO_5;have HB:=n0_;have HO489:=n1_;clear n0_ n1_ ho hb hg hat))
         go_roundg k1
         case measure=>have:=HK1.out;omega
         case rel=>exact ⟨(y487),(wrap64 (x6_1 - 1)),(sq),H',⟨by have:=HK1.out;omega⟩,⟨rq HO489.out⟩,⟨bq⟩⟩
        ·rw [if_neg c12] at H
         exact absurd H (by simp)
       ·rw [if_neg c11] at H
        have c11b0:decide (a1<t486)=false:=dzF c11
        clear c11
        have H':=am H
        clear H
        have p484:0≤(x6_1:Int):=ozD (uq)
        have q484:x6_1<(l0.length:Int):=ozD (uq)
        obtain ⟨ad484,e484,hx484_0,hx484_1,hx484_2,hx484_3⟩:=jpa HR0.out x6_1 p484 q484
        cases e484
        replace hx484_0:=cb HB.out hx484_0
        replace hx484_1:=cb HB.out hx484_1
        replace hx484_2:=cb HB.out hx484_2
        replace hx484_3:=cb HB.out hx484_3
        replace p484:=ezT p484
        replace q484:=ezT q484
        go_wp2_with (first |((with_reducible refine jd (f:=39) rfl ?_);refine gL (some 18) Try.func39 #[.agg #[.int .i64 ((jc l0 x6_1).f0), .int .i64 ((jc l0 x6_1).f1), .int .i64 ((jc l0 x6_1).f2), .int .i64 ((jc l0 x6_1).f3)]] ?_;(with_reducible refine (jkb.calls ((jc l0 x6_1).f0) ((jc l0 x6_1).f1) ((jc l0 x6_1).f2) ((jc l0 x6_1).f3) true _ A8.out).mono ?_);rintro e w15 ⟨rfl,hb⟩;refine ⟨_,rfl,?_⟩;replace HO_5:=am (Kd.jda (rq HO_5.out) hb);replace HB:=am (je (bq) hb);(try clear hb);(try clear hb2);(try clear hk);(try clear hi)) |(go_at_call 69;(with_reducible refine (jta.calls k1 _ _ l0 x6_1 t486 _ ?side1 ?side2 A10.out).mono ?_);(case side1=>exact cq (Kd.jN HR0.out HB.out));(case side2=>exact HC0.out);rintro e w' ⟨rfl,⟨nd,rfl⟩⟩))
        go_roundg k1
        case measure=>have:=HK1.out;omega
        case rel=>exact ⟨(x5_1),(wrap64 (x6_1 - 1)),(sq),H',⟨by have:=HK1.out;omega⟩,⟨rq HO_5.out⟩,⟨bq⟩⟩
      ·replace c9:=Bool.eq_false_iff.mpr c9
       subst c9
       have H1:(jja.l0 k1 l0 a1 x5_1 (wrap64 (x6_1 - 1)))=some r:=by rw [if_neg (show ¬ (false=true) by decide)] at H;exact H
       clear H
       have H:=H1
       clear H1
       have H':=am H
       clear H
       have p484:0≤(x6_1:Int):=ozD (uq)
       have q484:x6_1<(l0.length:Int):=ozD (uq)
       obtain ⟨ad484,e484,hx484_0,hx484_1,hx484_2,hx484_3⟩:=jpa HR0.out x6_1 p484 q484
       cases e484
       replace hx484_0:=cb HB.out hx484_0
       replace hx484_1:=cb HB.out hx484_1
       replace hx484_2:=cb HB.out hx484_2
       replace hx484_3:=cb HB.out hx484_3
       replace p484:=ezT p484
       replace q484:=ezT q484
       go_wp2_with (first |((with_reducible refine jd (f:=39) rfl ?_);refine gL (some 18) Try.func39 #[.agg #[.int .i64 ((jc l0 x6_1).f0), .int .i64 ((jc l0 x6_1).f1), .int .i64 ((jc l0 x6_1).f2), .int .i64 ((jc l0 x6_1).f3)]] ?_;(with_reducible refine (jkb.calls ((jc l0 x6_1).f0) ((jc l0 x6_1).f1) ((jc l0 x6_1).f2) ((jc l0 x6_1).f3) false _ A8.out).mono ?_);rintro e w16 ⟨rfl,hb⟩;refine ⟨_,rfl,?_⟩;replace HO_5:=am (Kd.jda (rq HO_5.out) hb);replace HB:=am (je (bq) hb);(try clear hb);(try clear hb2);(try clear hk);(try clear hi)))
       go_roundg k1
       case measure=>have:=HK1.out;omega
       case rel=>exact ⟨(x5_1),(wrap64 (x6_1 - 1)),(sq),H',⟨by have:=HK1.out;omega⟩,⟨rq HO_5.out⟩,⟨bq⟩⟩
     ·rw [if_neg c7] at H
      exact absurd H (by simp)
    ·rw [if_neg c6] at H
     exact absurd H (by simp)
   ·rw [if_neg c5] at H
    have c5b0:decide (0≤x6_1)=false:=dzF c5
    clear c5
    replace H:=bzS H
    obtain ⟨t481,A170,H⟩:=H
    replace H:(some t481)=some r:=H
    have A17:=am A170
    clear A170
    obtain rfl:=Option.some.inj H
    obtain ⟨Ao18,co18,eo18⟩:=Kd.jca HO_5.out
    subst eo18
    go_wp2_with (first |((with_reducible refine jd (f:=59) rfl ?_);refine gL (some 31) Try.func59 #[.slice Ao18 x5_1.length co18] ?_;(with_reducible refine (jua.calls (fun k_=>some k_=(.slice Ao18 x5_1.length co18:Value).ownBlock) (.slice Ao18 x5_1.length co18) x5_1 t481 w _ ?side1 ?side2 A17.out).mono ?_);(case side1=>exact Y76);(case side2=>exact Kd.R_tight rfl HO_5.out);rintro e w19 ⟨v482,rfl,ho0,hb,hkp⟩;refine ⟨_,rfl,?_⟩;have n0_:=am (Kd.jD (ok':=fun k_=>True) ho0 (fun k_ hk_=>trivial));have n1_:=am (hb);clear HB HO_5;have HO483:=n0_;have HB:=n1_;clear n0_ n1_;(try clear hb);(try clear hkp);(try clear ho0)))
    go_ret
    exact ⟨_,Y0,rq HO483.out,bq⟩
mutual
def jQa.l0 : Nat → List (S36) → Int → Int → Option (List Int)
 | 0,_,_,_=>none
 | k+1,x0,x1,x5=>if x5≥0 then (if 0≤x5 then (if x5<(x0.length:Int) then (if ((jc x0 x5).f1)=7 then (if 0≤x1 then (if x1<(x0.length:Int) then (jQa.j1 k x0 x1 x5 (((jc x0 x5).f0) == ((jc x0 x1).f0))) else (none)) else (none)) else (jQa.j1 k x0 x1 x5 false)) else (none)) else (none)) else (some ([]:List Int))
def jQa.j1 : Nat → List (S36) → Int → Int → Bool → Option (List Int)
 | 0,_,_,_,_=>none
 | k+1,x0,x1,x5,x29=>if x29=true then ((jfa.f k x0 x5).bind fun t493=>((jua.f t493).bind fun t496=>(some t496))) else (jQa.l0 k x0 x1 (wrap64 (x5 - 1)))
end
def jQa.f (k : Nat) (l0 : List (S36)) (a1 : Int) : Option (List Int) := jQa.l0 k l0 a1 a1
set_option maxHeartbeats 8000000 in
set_option maxRecDepth 100000 in
theorem jQa.calls (k : Nat) (A0 : Option Addr) (c0 : Nat) (l0 : List (S36)) (a1 : Int) (r : List Int) (w : World) (hr0 : Kd.C k36 w A0 l0.length l0) (hc0 : l0.length ≤ c0) (h : jQa.f k l0 a1 = some r) :
  Calls Try.prog 56 #[.slice A0 l0.length c0, .int .i64 a1] w fun e w'=>∃ v0_:Value,e=.returned (v0_)∧Kd.R (Kd.int .i64) 3 w' w.heap.size (fun _=>True) v0_ r∧Below w.heap.size w w':=by
 have HR0:=am hr0
 have HC0:=am hc0
 clear hr0 hc0
 have HB:=am (Below.refl w.heap.size w)
 have H:(jQa.l0 k l0 a1 a1)=some r:=h
 clear h
 have H':=am H
 clear H
 go_enter Try.func56,Try.ntmps56
 go_wp2
 repeat (go_quiet (fail);try go_wp2)
 go_loopg [5] k (fun kq v5 w'=>∃ (x5_1:Int),v5=.int .i64 x5_1∧jl (jQa.l0 kq l0 a1 x5_1=some r)∧jl (kq≤k)∧jl (Below w.heap.size w w'))
 case atStart=>exact ⟨(a1),(sq),H',⟨Nat.le_refl _⟩,⟨bq⟩⟩
 case round =>
  clear H'
  try clear p2
  obtain ⟨x5_1,rfl,HA,HK1,HB⟩:=hrel
  cases gk with
  | zero=>exact absurd HA.out (by simp [jQa.l0])
  | succ k1 =>
   have H:=HA.out
   clear HA
   simp only [jQa.l0] at H
   by_cases c3:x5_1≥0
   ·rw [if_pos c3] at H
    have c3b0:decide (0≤x5_1)=true:=dzT c3
    clear c3
    have HC4:=am H
    clear H
    go_upto_region 4 with (fail)
    repeat (go_quiet (fail);go_upto_region 4 with (fail))
    go_cut [29] (fun v29 wc=>∃ (kq:Nat) (x29_3:Bool),v29=.bool x29_3∧jl (jQa.j1 kq l0 a1 x5_1 x29_3=some r)∧jl (kq≤k1)∧jl (Below w.heap.size w wc))
    case first =>
     have H:=HC4.out
     clear HC4
     by_cases c5:0≤x5_1
     ·rw [if_pos c5] at H
      have c5b0:decide (0≤x5_1)=true:=dzT c5
      clear c5
      (first | rw [c5b0] |(simp only [jmb,jub];rw [c5b0]) | skip)
      by_cases c6:x5_1<(l0.length:Int)
      ·rw [if_pos c6] at H
       have c6b0:decide (x5_1<(l0.length:Int))=true:=dzT c6
       clear c6
       by_cases c7:((jc l0 x5_1).f1)=7
       ·rw [if_pos c7] at H
        have c7b0:(((jc l0 x5_1).f1) == 7)=true:=beq_iff_eq.mpr c7
        have c7b1:(((jc l0 x5_1).f1) != 7)=false:=bne_eq_false_iff_eq.mpr c7
        clear c7
        by_cases c8:0≤a1
        ·rw [if_pos c8] at H
         have c8b0:decide (0≤a1)=true:=dzT c8
         clear c8
         by_cases c9:a1<(l0.length:Int)
         ·rw [if_pos c9] at H
          have c9b0:decide (a1<(l0.length:Int))=true:=dzT c9
          clear c9
          have H':=am H
          clear H
          have p490:0≤(x5_1:Int):=ozD (uq)
          have q490:x5_1<(l0.length:Int):=ozD (uq)
          obtain ⟨ad490,e490,hx490_0,hx490_1,hx490_2,hx490_3⟩:=jpa HR0.out x5_1 p490 q490
          cases e490
          replace hx490_0:=cb HB.out hx490_0
          replace hx490_1:=cb HB.out hx490_1
          replace hx490_2:=cb HB.out hx490_2
          replace hx490_3:=cb HB.out hx490_3
          replace p490:=ezT p490
          replace q490:=ezT q490
          have p491:0≤(x5_1:Int):=ozD (uq)
          have q491:x5_1<(l0.length:Int):=ozD (uq)
          obtain ⟨ad491,e491,hx491_0,hx491_1,hx491_2,hx491_3⟩:=jpa HR0.out x5_1 p491 q491
          obtain rfl:ad490=ad491:=(by injection e491)
          replace hx491_0:=cb HB.out hx491_0
          replace hx491_1:=cb HB.out hx491_1
          replace hx491_2:=cb HB.out hx491_2
          replace hx491_3:=cb HB.out hx491_3
          replace p491:=ezT p491
          replace q491:=ezT q491
          have p492:0≤(a1:Int):=ozD (uq)
          have q492:a1<(l0.length:Int):=ozD (uq)
          obtain ⟨ad492,e492,hx492_0,hx492_1,hx492_2,hx492_3⟩:=jpa HR0.out a1 p492 q492
          obtain rfl:ad490=ad492:=(by injection e492)
          replace hx492_0:=cb HB.out hx492_0
          replace hx492_1:=cb HB.out hx492_1
          replace hx492_2:=cb HB.out hx492_2
          replace hx492_3:=cb HB.out hx492_3
          replace p492:=ezT p492
          replace q492:=ezT q492
          go_wp2
          repeat (go_quiet (fail);try go_wp2)
          go_meet
          case rel=>exact ⟨_,((((jc l0 x5_1).f0) == ((jc l0 a1).f0))),(sq),H',⟨by have:=HK1.out;first | omega | exact Nat.le_refl _⟩,⟨bq⟩⟩
         ·rw [if_neg c9] at H
          exact absurd H (by simp)
        ·rw [if_neg c8] at H
         exact absurd H (by simp)
       ·rw [if_neg c7] at H
        have c7b0:(((jc l0 x5_1).f1) == 7)=false:=beq_eq_false_iff_ne.mpr c7
        have c7b1:(((jc l0 x5_1).f1) != 7)=true:=bne_iff_ne.mpr c7
        have H':=am H
        clear H
        have p490:0≤(x5_1:Int):=ozD (uq)
        have q490:x5_1<(l0.length:Int):=ozD (uq)
        obtain ⟨ad490,e490,hx490_0,hx490_1,hx490_2,hx490_3⟩:=jpa HR0.out x5_1 p490 q490
        cases e490
        replace hx490_0:=cb HB.out hx490_0
        replace hx490_1:=cb HB.out hx490_1
        replace hx490_2:=cb HB.out hx490_2
        replace hx490_3:=cb HB.out hx490_3
        replace p490:=ezT p490
        replace q490:=ezT q490
        go_wp2
        repeat (go_quiet (fail);try go_wp2)
        go_meet
        case rel=>exact ⟨_,(false),(sq),H',⟨by have:=HK1.out;first | omega | exact Nat.le_refl _⟩,⟨bq⟩⟩
      ·rw [if_neg c6] at H
       exact absurd H (by simp)
     ·rw [if_neg c5] at H
      exact absurd H (by simp)
    case rest =>
     clear HC4
     try clear p2
     try clear c3
     try clear c3b0
     try clear p4
     try clear q4
     try clear hx4
     try clear c5
     try clear c5b0
     try clear c6
     try clear c6b0
     try clear c7
     try clear c7b0
     try clear c7b1
     try clear c8
     try clear c8b0
     try clear c9
     try clear c9b0
     try clear hx490_0
     try clear hx490_1
     try clear hx490_2
     try clear hx490_3
     try clear hx491_0
     try clear hx491_1
     try clear hx491_2
     try clear hx491_3
     try clear hx492_0
     try clear hx492_1
     try clear hx492_2
     try clear hx492_3
     try clear p2
     try clear p490
     try clear p491
     try clear p492
     try clear q490
     try clear q491
     try clear q492
     obtain ⟨kq,x29_3,rfl,HA,HJ3,HB⟩:=hcut
     cases kq with
     | zero=>exact absurd HA.out (by simp [jQa.j1])
     | succ kj3 =>
      have H:=HA.out
      clear HA
      simp only [jQa.j1] at H
      by_cases c10:x29_3=true
      ·subst c10
       have H1:((jfa.f kj3 l0 x5_1).bind fun t493=>((jua.f t493).bind fun t496=>(some t496)))=some r:=by rw [if_pos rfl] at H;exact H
       clear H
       have H:=H1
       clear H1
       replace H:=bzS H
       obtain ⟨t493,A110,H⟩:=H
       replace H:((jua.f t493).bind fun t496=>(some t496))=some r:=H
       have A11:=am A110
       clear A110
       replace H:=bzS H
       obtain ⟨t496,A120,H⟩:=H
       replace H:(some t496)=some r:=H
       have A12:=am A120
       clear A120
       obtain rfl:=Option.some.inj H
       go_wp2_with (first |(go_at_call 67;(with_reducible refine (jfa.calls kj3 _ _ l0 x5_1 t493 _ ?side1 ?side2 A11.out).mono ?_);(case side1=>exact cq (Kd.jN HR0.out HB.out));(case side2=>exact HC0.out);rintro e w13 ⟨v494,rfl,ho0,hb⟩;have HO495:=am (Kd.jV ho0 (jT (bq)));replace HB:=am (je (bq) hb);(try clear hb);(try clear hb2);(try clear hk);(try clear hi);(try clear ho0);obtain ⟨Ao14,co14,eo14⟩:=Kd.jca HO495.out;subst eo14) |(go_at_call 59;(with_reducible refine (jua.calls (fun k_=>some k_=(.slice Ao14 t493.length co14:Value).ownBlock) (.slice Ao14 t493.length co14) t493 t496 w _ ?side1 ?side2 A12.out).mono ?_);(case side1=>exact Y76);(case side2=>exact Kd.R_tight rfl HO495.out);rintro e w15 ⟨v497,rfl,ho0,hb,hkp⟩;have n0_:=am (Kd.jD (ok':=fun k_=>True) ho0 (fun k_ hk_=>trivial));have n1_:=am (hb);clear HB HO495;have HO498:=n0_;have HB:=n1_;clear n0_ n1_;(try clear hb);(try clear hkp);(try clear ho0)))
       repeat (go_quiet (first |(go_at_call 67;(with_reducible refine (jfa.calls kj3 _ _ l0 x5_1 t493 _ ?side1 ?side2 A11.out).mono ?_);(case side1=>exact cq (Kd.jN HR0.out HB.out));(case side2=>exact HC0.out);rintro e w13 ⟨v494,rfl,ho0,hb⟩;have HO495:=am (Kd.jV ho0 (jT (bq)));replace HB:=am (je (bq) hb);(try clear hb);(try clear hb2);(try clear hk);(try clear hi);(try clear ho0);obtain ⟨Ao14,co14,eo14⟩:=Kd.jca HO495.out;subst eo14) |(go_at_call 59;(with_reducible refine (jua.calls (fun k_=>some k_=(.slice Ao14 t493.length co14:Value).ownBlock) (.slice Ao14 t493.length co14) t493 t496 w _ ?side1 ?side2 A12.out).mono ?_);(case side1=>exact Y76);(case side2=>exact Kd.R_tight rfl HO495.out);rintro e w15 ⟨v497,rfl,ho0,hb,hkp⟩;have n0_:=am (Kd.jD (ok':=fun k_=>True) ho0 (fun k_ hk_=>trivial));have n1_:=am (hb);clear HB HO495;have HO498:=n0_;have HB:=n1_;clear n0_ n1_;(try clear hb);(try clear hkp);(try clear ho0)));try go_wp2_with (first |(go_at_call 67;(with_reducible refine (jfa.calls kj3 _ _ l0 x5_1 t493 _ ?side1 ?side2 A11.out).mono ?_);(case side1=>exact cq (Kd.jN HR0.out HB.out));(case side2=>exact HC0.out);rintro e w13 ⟨v494,rfl,ho0,hb⟩;have HO495:=am (Kd.jV ho0 (jT (bq)));replace HB:=am (je (bq) hb);(try clear hb);(try clear hb2);(try clear hk);(try clear hi);(try clear ho0);obtain ⟨Ao14,co14,eo14⟩:=Kd.jca HO495.out;subst eo14) |(go_at_call 59;(with_reducible refine (jua.calls (fun k_=>some k_=(.slice Ao14 t493.length co14:Value).ownBlock) (.slice Ao14 t493.length co14) t493 t496 w _ ?side1 ?side2 A12.out).mono ?_);(case side1=>exact Y76);(case side2=>exact Kd.R_tight rfl HO495.out);rintro e w15 ⟨v497,rfl,ho0,hb,hkp⟩;have n0_:=am (Kd.jD (ok':=fun k_=>True) ho0 (fun k_ hk_=>trivial));have n1_:=am (hb);clear HB HO495;have HO498:=n0_;have HB:=n1_;clear n0_ n1_;(try clear hb);(try clear hkp);(try clear ho0))))
       go_ret
       exact ⟨_,Y0,rq HO498.out,bq⟩
      ·replace c10:=Bool.eq_false_iff.mpr c10
       subst c10
       have H1:(jQa.l0 kj3 l0 a1 (wrap64 (x5_1 - 1)))=some r:=by rw [if_neg (show ¬ (false=true) by decide)] at H;exact H
       clear H
       have H:=H1
       clear H1
       have H':=am H
       clear H
       go_wp2
       repeat (go_quiet (fail);try go_wp2)
       go_roundg kj3
       case measure=>have:=HK1.out;have:=HJ3.out;omega
       case rel=>exact ⟨(wrap64 (x5_1 - 1)),(sq),H',⟨by have:=HK1.out;have:=HJ3.out;omega⟩,⟨bq⟩⟩
   ·rw [if_neg c3] at H
    have c3b0:decide (0≤x5_1)=false:=dzF c3
    clear c3
    obtain rfl:=Option.some.inj H
    go_wp2
    repeat (go_quiet (fail);try go_wp2)
    go_ret
    exact ⟨_,Y0,Y79,bq⟩
mutual
def jFa.l0 : Nat → List (S36) → Int → List Int → List Int → Int → Int → Option (List Int)
 | 0,_,_,_,_,_,_=>none
 | k+1,x0,x2,x7,x15,x16,x17=>if x17<x16 then (if 0≤x17 then (if x17<(x15.length:Int) then (if (rd x15 x17)=x2 then ((jua.f x7).bind fun t509=>(some t509)) else (if 0≤(rd x15 x17) then (if (rd x15 x17)<(x0.length:Int) then (if ((jc x0 (rd x15 x17)).f1)=11 then (if x7.length<17592186044416 then (jFa.l0 k x0 x2 (x7 ++ [rd x15 x17]) x15 x16 (wrap64 (x17+1))) else (none)) else (if ((jc x0 (rd x15 x17)).f1)=7 then (jFa.j1 k x0 x2 x7 (rd x15 x17) x15 x16 x17 (((jc x0 (rd x15 x17)).f1) == 7)) else (if ((jc x0 (rd x15 x17)).f1)=8 then (jFa.j1 k x0 x2 x7 (rd x15 x17) x15 x16 x17 (((jc x0 (rd x15 x17)).f1) == 8)) else (jFa.j1 k x0 x2 x7 (rd x15 x17) x15 x16 x17 (((jc x0 (rd x15 x17)).f1) == 9))))) else (none)) else (none))) else (none)) else (none)) else ((jua.f x7).bind fun t505=>(some t505))
def jFa.j1 : Nat → List (S36) → Int → List Int → Int → List Int → Int → Int → Bool → Option (List Int)
 | 0,_,_,_,_,_,_,_,_=>none
 | k+1,x0,x2,x7,x9,x15,x16,x17,x35=>if x35=true then ((jQa.f k x0 x9).bind fun t516=>(if 0≤(wrap64 ((t516.length:Int) - 1)) then (if (wrap64 ((t516.length:Int) - 1))<(t516.length:Int) then (if 0≤(rd t516 (wrap64 ((t516.length:Int) - 1))) then (if (rd t516 (wrap64 ((t516.length:Int) - 1)))<(x0.length:Int) then (if ((jc x0 (rd t516 (wrap64 ((t516.length:Int) - 1)))).f1)=10 then (if x7.length<17592186044416 then (jFa.l0 k x0 x2 (x7 ++ [rd t516 (wrap64 ((t516.length:Int) - 1))]) x15 x16 (wrap64 (x17+1))) else (none)) else (jFa.l0 k x0 x2 x7 x15 x16 (wrap64 (x17+1)))) else (none)) else (none)) else (none)) else (none))) else (jFa.l0 k x0 x2 x7 x15 x16 (wrap64 (x17+1)))
end
def jFa.f (k : Nat) (l0 : List (S36)) (a1 : Int) (a2 : Int) : Option (List Int) := (jja.f k l0 a1).bind fun t502 => (jFa.l0 k l0 a2 (([] : List Int)) t502 (t502.length : Int) 0)
set_option maxHeartbeats 8000000 in
set_option maxRecDepth 100000 in
theorem jFa.calls (k : Nat) (A0 : Option Addr) (c0 : Nat) (l0 : List (S36)) (a1 : Int) (a2 : Int) (r : List Int) (w : World) (hr0 : Kd.C k36 w A0 l0.length l0) (hc0 : l0.length ≤ c0) (h : jFa.f k l0 a1 a2 = some r) :
  Calls Try.prog 32 #[.slice A0 l0.length c0, .int .i64 a1, .int .i64 a2] w fun e w'=>∃ v0_:Value,e=.returned (v0_)∧Kd.R (Kd.int .i64) 3 w' w.heap.size (fun _=>True) v0_ r∧Below w.heap.size w w':=by
 have HR0:=am hr0
 have HC0:=am hc0
 clear hr0 hc0
 have HB:=am (Below.refl w.heap.size w)
 have H:((jja.f k l0 a1).bind fun t502=>(jFa.l0 k l0 a2 (([]:List Int)) t502 (t502.length:Int) 0))=some r:=h
 clear h
 obtain ⟨y499,hy499⟩:∃ y_:List Int,y_=(([]:List Int)):=⟨_,rfl⟩
 replace H:((jja.f k l0 a1).bind fun t502=>(jFa.l0 k l0 a2 y499 t502 (t502.length:Int) 0))=some r:=by first |(rw [hy499];with_reducible exact H) |(have H2_:=(Option.bind_some _ _).symm.trans H;rw [hy499];with_reducible exact H2_) |(have H2_:=(Option.bind_some _ _).symm.trans H;with_reducible exact H2_) | with_reducible exact H |(rw [hy499];exact H) | exact H
 have Ny499:=am hy499
 clear hy499
 replace H:=bzS H
 obtain ⟨t502,A40,H⟩:=H
 replace H:(jFa.l0 k l0 a2 y499 t502 (t502.length:Int) 0)=some r:=H
 have A4:=am A40
 clear A40
 have H':=am H
 clear H
 go_enter Try.func32,Try.ntmps32
 go_wp2_with (first |((with_reducible refine jJ (N:=12) rfl ?_);refine Kd.jtc (Kd.int .i64) _ 3 ?hg (N:=12) ?hd (xs:=([]:List Int)) (inner:=[]) (ok:=fun _=>True) (okp:=fun _=>True) ?hr ?hp (fun _ hk=>hk) trivial (Below.refl _ _) (Nat.le_refl _) (by simp) ?_;(case hd=>rfl);(case hg=>rfl);(case hr=>exact Y6);(case hp=>exact (Reps.none _ _));intro v500 w5 ho6 hb hg_ hnew_;clear hg_ hnew_;(first | rw [← Ny499.out] at ho6 |(simp only [Int.reduceToNat] at ho6;rw [← Ny499.out] at ho6));have HO501:=am (Kd.jV ho6 (jT (bq)));replace HB:=am (je (bq) hb);clear hb ho6) |((with_reducible refine jd (f:=41) rfl ?_);refine gL (some 15) Try.func41 #[.slice A0 l0.length c0, .int .i64 a1] ?_;(with_reducible refine (jja.calls k _ _ l0 a1 t502 _ ?side1 ?side2 A4.out).mono ?_);(case side1=>exact cq (Kd.jN HR0.out HB.out));(case side2=>exact HC0.out);rintro e w7 ⟨v503,rfl,ho0,hb⟩;refine ⟨_,rfl,?_⟩;have HO504:=am (Kd.jV (Kd.jUb ho0 (Kd.R_lt (rq HO501.out))) (jT (bq)));replace HO501:=am (Kd.jMb (rq HO501.out) (Kd.jVb ho0) hb);replace HB:=am (je (bq) hb);(try clear hb);(try clear hb2);(try clear hk);(try clear hi);(try clear ho0);obtain ⟨Ao8,co8,eo8⟩:=Kd.jca HO504.out;subst eo8))
 go_loopg [7,17] k (fun kq v7 v17 w'=>∃ (x7_1:List Int) (x17_1:Int),v17=.int .i64 x17_1∧jl (jFa.l0 kq l0 a2 x7_1 t502 (t502.length:Int) x17_1=some r)∧jl (kq≤k)∧jl (Kd.R (Kd.int .i64) 3 w' w.heap.size (fun k_=>some k_≠((.slice Ao8 t502.length co8):Value).ownBlock) v7 x7_1)∧jl (Kd.R (Kd.int .i64) 3 w' w.heap.size (fun k_=>some k_≠(v7:Value).ownBlock) (.slice Ao8 t502.length co8) t502)∧jl (Below w.heap.size w w'))
 case atStart=>exact ⟨(y499),(0),(sq),H',⟨Nat.le_refl _⟩,⟨by (with_reducible repeat (first | apply Kd.jX | apply Kd.jW | apply Kd.jia));exact Kd.jD HO501.out (fun _ hk=>hk.2)⟩,⟨by (with_reducible repeat (first | apply Kd.jX | apply Kd.jW | apply Kd.jia));exact Kd.jD HO504.out (fun _ hk=>hk.2)⟩,⟨bq⟩⟩
 case round =>
  clear H'
  try clear p2
  try clear c3
  try clear c4
  obtain ⟨x7_1,x17_1,rfl,HA,HK1,HO_7,HO_15,HB⟩:=hrel
  cases gk with
  | zero=>exact absurd HA.out (by simp [jFa.l0])
  | succ k1 =>
   have H:=HA.out
   clear HA
   simp only [jFa.l0] at H
   by_cases c9:x17_1<(t502.length:Int)
   ·rw [if_pos c9] at H
    have c9b0:decide (x17_1<(t502.length:Int))=true:=dzT c9
    clear c9
    by_cases c10:0≤x17_1
    ·rw [if_pos c10] at H
     have c10b0:decide (0≤x17_1)=true:=dzT c10
     clear c10
     by_cases c11:x17_1<(t502.length:Int)
     ·rw [if_pos c11] at H
      have c11b0:decide (x17_1<(t502.length:Int))=true:=dzT c11
      clear c11
      by_cases c12:(rd t502 x17_1)=a2
      ·rw [if_pos c12] at H
       have c12b0:((rd t502 x17_1) == a2)=true:=beq_iff_eq.mpr c12
       have c12b1:((rd t502 x17_1) != a2)=false:=bne_eq_false_iff_eq.mpr c12
       clear c12
       replace H:=bzS H
       obtain ⟨t509,A130,H⟩:=H
       replace H:(some t509)=some r:=H
       have A13:=am A130
       clear A130
       obtain rfl:=Option.some.inj H
       have p508:0≤(x17_1:Int):=ozD (uq)
       have q508:x17_1<(t502.length:Int):=ozD (uq)
       obtain ⟨ad508,e508,hx508_0⟩:=Kd.jhb (Kd.jq HO_15.out).2.2 x17_1 p508 q508
       cases e508
       replace p508:=ezT p508
       replace q508:=ezT q508
       obtain ⟨Ao14,co14,eo14⟩:=Kd.jca HO_7.out
       subst eo14
       go_wp2_with (first |((with_reducible refine jd (f:=59) rfl ?_);refine gL (some 60) Try.func59 #[.slice Ao14 x7_1.length co14] ?_;(with_reducible refine (jua.calls (fun k_=>some k_=(.slice Ao14 x7_1.length co14:Value).ownBlock) (.slice Ao14 x7_1.length co14) x7_1 t509 w _ ?side1 ?side2 A13.out).mono ?_);(case side1=>exact Y76);(case side2=>exact Kd.R_tight rfl HO_7.out);rintro e w15 ⟨v510,rfl,ho0,hb,hkp⟩;refine ⟨_,rfl,?_⟩;have n0_:=am (Kd.jD (ok':=fun k_=>some k_≠(v510:Value).ownBlock) (Kd.R_keptB (HO_15.out) hkp (fun k_ hk_ hs_=>(hk_) hs_)) (fun k_ hk_=>fun e_=>Or.elim (ho0.1 k_ e_.symm) (fun hs_=>hk_.2.1 hs_) (fun hn_=>Nat.not_le.2 hk_.2.2 hn_)));have n1_:=am (Kd.jD (ok':=fun k_=>some k_≠(.slice (some ad508) t502.length co8:Value).ownBlock) ho0 (fun k_ hk_=>Or.elim hk_ (fun hs_=>fun e_=>(((HO_15.out).1 k_ e_.symm)) hs_) (fun hn_=>(Kd.fresh' (Kd.R_lt (rq HO_15.out)) k_ hn_))));have n2_:=am (hb);clear HO_15 HB HO_7;have HO_15:=n0_;have HO511:=n1_;have HB:=n2_;clear n0_ n1_ n2_;(try clear hb);(try clear hkp);(try clear ho0)))
       go_ret
       exact ⟨_,Y0,by (with_reducible repeat (first | apply Kd.jX | apply Kd.jW | apply Kd.jia));exact Kd.jD HO511.out (fun _ hk=>trivial),bq⟩
      ·rw [if_neg c12] at H
       have c12b0:((rd t502 x17_1) == a2)=false:=beq_eq_false_iff_ne.mpr c12
       have c12b1:((rd t502 x17_1) != a2)=true:=bne_iff_ne.mpr c12
       by_cases c16:0≤(rd t502 x17_1)
       ·rw [if_pos c16] at H
        have c16b0:decide (0≤(rd t502 x17_1))=true:=dzT c16
        clear c16
        by_cases c17:(rd t502 x17_1)<(l0.length:Int)
        ·rw [if_pos c17] at H
         have c17b0:decide ((rd t502 x17_1)<(l0.length:Int))=true:=dzT c17
         clear c17
         by_cases c18:((jc l0 (rd t502 x17_1)).f1)=11
         ·rw [if_pos c18] at H
          have c18b0:(((jc l0 (rd t502 x17_1)).f1) == 11)=true:=beq_iff_eq.mpr c18
          have c18b1:(((jc l0 (rd t502 x17_1)).f1) != 11)=false:=bne_eq_false_iff_eq.mpr c18
          clear c18
          by_cases c19:x7_1.length<17592186044416
          ·rw [if_pos c19] at H
           have LMc19:=am c19
           clear c19
           obtain ⟨y513,hy513⟩:∃ y_:List Int,y_=(x7_1 ++ [rd t502 x17_1]):=⟨_,rfl⟩
           replace H:(jFa.l0 k1 l0 a2 y513 t502 (t502.length:Int) (wrap64 (x17_1+1)))=some r:=by first |(rw [hy513];with_reducible exact H) |(have H2_:=(Option.bind_some _ _).symm.trans H;rw [hy513];with_reducible exact H2_) |(have H2_:=(Option.bind_some _ _).symm.trans H;with_reducible exact H2_) | with_reducible exact H |(rw [hy513];exact H) | exact H
           have Ny513:=am hy513
           clear hy513
           have H':=am H
           clear H
           have p508:0≤(x17_1:Int):=ozD (uq)
           have q508:x17_1<(t502.length:Int):=ozD (uq)
           obtain ⟨ad508,e508,hx508_0⟩:=Kd.jhb (Kd.jq HO_15.out).2.2 x17_1 p508 q508
           cases e508
           replace p508:=ezT p508
           replace q508:=ezT q508
           have p512:0≤((rd t502 x17_1):Int):=ozD (uq)
           have q512:(rd t502 x17_1)<(l0.length:Int):=ozD (uq)
           obtain ⟨ad512,e512,hx512_0,hx512_1,hx512_2,hx512_3⟩:=jpa HR0.out (rd t502 x17_1) p512 q512
           cases e512
           replace hx512_0:=cb HB.out hx512_0
           replace hx512_1:=cb HB.out hx512_1
           replace hx512_2:=cb HB.out hx512_2
           replace hx512_3:=cb HB.out hx512_3
           replace p512:=ezT p512
           replace q512:=ezT q512
           go_wp2_with (first |((with_reducible refine jNa (b:=.append) (xs:=#[.tmp 31, .tmp 33]) rfl ?_);at_builtin;refine Kd.jbc (Kd.int .i64) (w0:=w) w.heap.size rfl (.tmp 31) (.tmp 33) 29 3 (.int .i64 0) 8 rfl Try.underlying29 info3 rfl (by decide) (by omega) u7 x7_1 (rd t502 x17_1) [.int .i64 (rd t502 x17_1)] (fun k_=>some k_≠(.slice (some ad508) t502.length co8:Value).ownBlock) (fun _=>False) rfl rfl ?aP (fun _ hk=>hk.elim) ?aF ?aO ?aB ?aS ?aL ?_;(case aP=>exact rfl);(case aB=>exact (bq));(case aF=>exact (fun k_ hk=>Kd.fresh' (Kd.R_lt (rq HO_15.out)) k_ hk));(case aO=>exact (rq HO_7.out));(case aS=>exact (jT (bq)));(case aL=>have:=LMc19.out;omega);intro v514 w20 ho hb hg hat;rw [← Ny513.out] at ho;have n0_:=am (Kd.jKc (ok:=(fun _=>True)) (by (with_reducible repeat (first | apply Kd.jX | apply Kd.jW | apply Kd.jia));exact Kd.jD HO_15.out (fun _ hk=>⟨trivial,hk⟩)) hg hat);have n1_:=am (hb);have n2_:=am (ho);clear HO_15 HB HO_7;have HO_15:=n0_;have HB:=n1_;have HO515:=n2_;clear n0_ n1_ n2_ ho hb hg hat))
           go_roundg k1
           case measure=>have:=HK1.out;omega
           case rel=>exact ⟨(y513),(wrap64 (x17_1+1)),(sq),H',⟨by have:=HK1.out;omega⟩,⟨rq HO515.out⟩,⟨by (with_reducible repeat (first | apply Kd.jX | apply Kd.jW | apply Kd.jia));exact Kd.jD HO_15.out (fun _ hk=>hk.2)⟩,⟨bq⟩⟩
          ·rw [if_neg c19] at H
           exact absurd H (by simp)
         ·rw [if_neg c18] at H
          have c18b0:(((jc l0 (rd t502 x17_1)).f1) == 11)=false:=beq_eq_false_iff_ne.mpr c18
          have c18b1:(((jc l0 (rd t502 x17_1)).f1) != 11)=true:=bne_iff_ne.mpr c18
          have HC21:=am H
          clear H
          have p508:0≤(x17_1:Int):=ozD (uq)
          have q508:x17_1<(t502.length:Int):=ozD (uq)
          obtain ⟨ad508,e508,hx508_0⟩:=Kd.jhb (Kd.jq HO_15.out).2.2 x17_1 p508 q508
          cases e508
          replace p508:=ezT p508
          replace q508:=ezT q508
          have p512:0≤((rd t502 x17_1):Int):=ozD (uq)
          have q512:(rd t502 x17_1)<(l0.length:Int):=ozD (uq)
          obtain ⟨ad512,e512,hx512_0,hx512_1,hx512_2,hx512_3⟩:=jpa HR0.out (rd t502 x17_1) p512 q512
          cases e512
          replace hx512_0:=cb HB.out hx512_0
          replace hx512_1:=cb HB.out hx512_1
          replace hx512_2:=cb HB.out hx512_2
          replace hx512_3:=cb HB.out hx512_3
          replace p512:=ezT p512
          replace q512:=ezT q512
          go_upto_if 35 with (fail)
          go_cut [35] (fun v35 wc=>∃ (kq:Nat) (x35_20:Bool),v35=.bool x35_20∧jl (jFa.j1 kq l0 a2 x7_1 (rd t502 x17_1) t502 (t502.length:Int) x17_1 x35_20=some r)∧jl (kq≤k1)∧jl (Kd.R (Kd.int .i64) 3 wc w.heap.size (fun k_=>some k_≠((.slice (some ad508) t502.length co8):Value).ownBlock) u7 x7_1)∧jl (Kd.R (Kd.int .i64) 3 wc w.heap.size (fun k_=>some k_≠(u7:Value).ownBlock) (.slice (some ad508) t502.length co8) t502)∧jl (Below w.heap.size w wc))
          case first =>
           have H:=HC21.out
           clear HC21
           by_cases c22:((jc l0 (rd t502 x17_1)).f1)=7
           ·rw [if_pos c22] at H
            have c22b0:(((jc l0 (rd t502 x17_1)).f1) == 7)=true:=beq_iff_eq.mpr c22
            have c22b1:(((jc l0 (rd t502 x17_1)).f1) != 7)=false:=bne_eq_false_iff_eq.mpr c22
            clear c22
            (first | rw [c22b0] |(simp only [jmb,jub];rw [c22b0]) | skip)
            have H':=am H
            clear H
            go_wp2
            go_meet
            case rel=>exact ⟨_,((((jc l0 (rd t502 x17_1)).f1) == 7)),(sq),H',⟨by have:=HK1.out;first | omega | exact Nat.le_refl _⟩,⟨rq HO_7.out⟩,⟨rq HO_15.out⟩,⟨bq⟩⟩
           ·rw [if_neg c22] at H
            have c22b0:(((jc l0 (rd t502 x17_1)).f1) == 7)=false:=beq_eq_false_iff_ne.mpr c22
            have c22b1:(((jc l0 (rd t502 x17_1)).f1) != 7)=true:=bne_iff_ne.mpr c22
            (first | rw [c22b0] |(simp only [jmb,jub];rw [c22b0]) | skip)
            by_cases c23:((jc l0 (rd t502 x17_1)).f1)=8
            ·rw [if_pos c23] at H
             have c23b0:(((jc l0 (rd t502 x17_1)).f1) == 8)=true:=beq_iff_eq.mpr c23
             have c23b1:(((jc l0 (rd t502 x17_1)).f1) != 8)=false:=bne_eq_false_iff_eq.mpr c23
             clear c23
             have H':=am H
             clear H
             go_wp2
             go_meet
             case rel=>exact ⟨_,((((jc l0 (rd t502 x17_1)).f1) == 8)),(sq),H',⟨by have:=HK1.out;first | omega | exact Nat.le_refl _⟩,⟨rq HO_7.out⟩,⟨rq HO_15.out⟩,⟨bq⟩⟩
            ·rw [if_neg c23] at H
             have c23b0:(((jc l0 (rd t502 x17_1)).f1) == 8)=false:=beq_eq_false_iff_ne.mpr c23
             have c23b1:(((jc l0 (rd t502 x17_1)).f1) != 8)=true:=bne_iff_ne.mpr c23
             have H':=am H
             clear H
             go_wp2
             go_meet
             case rel=>exact ⟨_,((((jc l0 (rd t502 x17_1)).f1) == 9)),(sq),H',⟨by have:=HK1.out;first | omega | exact Nat.le_refl _⟩,⟨rq HO_7.out⟩,⟨rq HO_15.out⟩,⟨bq⟩⟩
          case rest =>
           clear HC21
           try clear c1
           try clear c2
           try clear p2
           try clear c3
           try clear c4
           try clear c5
           try clear p5
           try clear q5
           try clear hx5
           try clear p6
           try clear c9
           try clear c9b0
           try clear c10
           try clear c10b0
           try clear c11
           try clear c11b0
           try clear c12
           try clear c12b0
           try clear c12b1
           try clear c16
           try clear c16b0
           try clear c17
           try clear c17b0
           try clear c18
           try clear c18b0
           try clear c18b1
           try clear c19
           try clear c22
           try clear c22b0
           try clear c22b1
           try clear c23
           try clear c23b0
           try clear c23b1
           try clear hx508_0
           try clear hx512_0
           try clear hx512_1
           try clear hx512_2
           try clear hx512_3
           try clear p2
           try clear p508
           try clear p512
           try clear q508
           try clear q512
           obtain ⟨kq,x35_20,rfl,HA,HJ20,HO_7,HO_15,HB⟩:=hcut
           cases kq with
           | zero=>exact absurd HA.out (by simp [jFa.j1])
           | succ kj20 =>
            have H:=HA.out
            clear HA
            simp only [jFa.j1] at H
            by_cases c24:x35_20=true
            ·subst c24
             have H1:((jQa.f kj20 l0 (rd t502 x17_1)).bind fun t516=>(if 0≤(wrap64 ((t516.length:Int) - 1)) then (if (wrap64 ((t516.length:Int) - 1))<(t516.length:Int) then (if 0≤(rd t516 (wrap64 ((t516.length:Int) - 1))) then (if (rd t516 (wrap64 ((t516.length:Int) - 1)))<(l0.length:Int) then (if ((jc l0 (rd t516 (wrap64 ((t516.length:Int) - 1)))).f1)=10 then (if x7_1.length<17592186044416 then (jFa.l0 kj20 l0 a2 (x7_1 ++ [rd t516 (wrap64 ((t516.length:Int) - 1))]) t502 (t502.length:Int) (wrap64 (x17_1+1))) else (none)) else (jFa.l0 kj20 l0 a2 x7_1 t502 (t502.length:Int) (wrap64 (x17_1+1)))) else (none)) else (none)) else (none)) else (none)))=some r:=by rw [if_pos rfl] at H;exact H
             clear H
             have H:=H1
             clear H1
             replace H:=bzS H
             obtain ⟨t516,A250,H⟩:=H
             replace H:(if 0≤(wrap64 ((t516.length:Int) - 1)) then (if (wrap64 ((t516.length:Int) - 1))<(t516.length:Int) then (if 0≤(rd t516 (wrap64 ((t516.length:Int) - 1))) then (if (rd t516 (wrap64 ((t516.length:Int) - 1)))<(l0.length:Int) then (if ((jc l0 (rd t516 (wrap64 ((t516.length:Int) - 1)))).f1)=10 then (if x7_1.length<17592186044416 then (jFa.l0 kj20 l0 a2 (x7_1 ++ [rd t516 (wrap64 ((t516.length:Int) - 1))]) t502 (t502.length:Int) (wrap64 (x17_1+1))) else (none)) else (jFa.l0 kj20 l0 a2 x7_1 t502 (t502.length:Int) (wrap64 (x17_1+1)))) else (none)) else (none)) else (none)) else (none))=some r:=H
             have A25:=am A250
             clear A250
             obtain ⟨ji26,hji26⟩:∃ j_:Int,(wrap64 ((t516.length:Int) - 1))=j_:=⟨_,rfl⟩
             replace H:(if 0≤(ji26) then (if (ji26)<(t516.length:Int) then (if 0≤(rd t516 (ji26)) then (if (rd t516 (ji26))<(l0.length:Int) then (if ((jc l0 (rd t516 (ji26))).f1)=10 then (if x7_1.length<17592186044416 then (jFa.l0 kj20 l0 a2 (x7_1 ++ [rd t516 (ji26)]) t502 (t502.length:Int) (wrap64 (x17_1+1))) else (none)) else (jFa.l0 kj20 l0 a2 x7_1 t502 (t502.length:Int) (wrap64 (x17_1+1)))) else (none)) else (none)) else (none)) else (none))=some r:=by first |(rw [hji26] at H;exact H) |(simp only [hji26] at H ⊢;exact H)
             (try rw [hji26] at A25)
             have hji26w:(IntKind.i64.wrap ((t516.length:Int) - 1))=ji26:=(jmb _).trans hji26
             by_cases c27:0≤(ji26)
             ·rw [if_pos c27] at H
              have c27b0:decide (0≤(ji26))=true:=dzT c27
              clear c27
              by_cases c28:(ji26)<(t516.length:Int)
              ·rw [if_pos c28] at H
               have c28b0:decide ((ji26)<(t516.length:Int))=true:=dzT c28
               clear c28
               by_cases c29:0≤(rd t516 (ji26))
               ·rw [if_pos c29] at H
                have c29b0:decide (0≤(rd t516 (ji26)))=true:=dzT c29
                clear c29
                by_cases c30:(rd t516 (ji26))<(l0.length:Int)
                ·rw [if_pos c30] at H
                 have c30b0:decide ((rd t516 (ji26))<(l0.length:Int))=true:=dzT c30
                 clear c30
                 by_cases c31:((jc l0 (rd t516 (ji26))).f1)=10
                 ·rw [if_pos c31] at H
                  have c31b0:(((jc l0 (rd t516 (ji26))).f1) == 10)=true:=beq_iff_eq.mpr c31
                  have c31b1:(((jc l0 (rd t516 (ji26))).f1) != 10)=false:=bne_eq_false_iff_eq.mpr c31
                  clear c31
                  by_cases c32:x7_1.length<17592186044416
                  ·rw [if_pos c32] at H
                   have LMc32:=am c32
                   clear c32
                   obtain ⟨y521,hy521⟩:∃ y_:List Int,y_=(x7_1 ++ [rd t516 (ji26)]):=⟨_,rfl⟩
                   replace H:(jFa.l0 kj20 l0 a2 y521 t502 (t502.length:Int) (wrap64 (x17_1+1)))=some r:=by first |(rw [hy521];with_reducible exact H) |(have H2_:=(Option.bind_some _ _).symm.trans H;rw [hy521];with_reducible exact H2_) |(have H2_:=(Option.bind_some _ _).symm.trans H;with_reducible exact H2_) | with_reducible exact H |(rw [hy521];exact H) | exact H
                   have Ny521:=am hy521
                   clear hy521
                   have H':=am H
                   clear H
                   go_wp2_with (first |((with_reducible refine jd (f:=56) rfl ?_);refine gL (some 41) Try.func56 #[.slice (some ad512) l0.length c0, .int .i64 (rd t502 x17_1)] ?_;(with_reducible refine (jQa.calls kj20 _ _ l0 (rd t502 x17_1) t516 _ ?side1 ?side2 A25.out).mono ?_);(case side1=>exact cq (Kd.jN HR0.out HB.out));(case side2=>exact HC0.out);rintro e w33 ⟨v517,rfl,ho0,hb⟩;refine ⟨_,rfl,?_⟩;have HO518:=am (Kd.jV (Kd.jUb (Kd.jUb ho0 (Kd.R_lt (rq HO_7.out))) (Kd.R_lt (rq HO_15.out))) (jT (bq)));replace HO_7:=am (Kd.jMb (rq HO_7.out) (Kd.jVb ho0) hb);replace HO_15:=am (Kd.jMb (rq HO_15.out) (Kd.jVb ho0) hb);replace HB:=am (je (bq) hb);(try clear hb);(try clear hb2);(try clear hk);(try clear hi);(try clear ho0);obtain ⟨Ao34,co34,eo34⟩:=Kd.jca HO518.out;subst eo34;have p519:0≤((ji26):Int):=ozD (uq);have q519:(ji26)<(t516.length:Int):=ozD (uq);obtain ⟨ad519,e519,hx519_0⟩:=Kd.jhb (Kd.jq HO518.out).2.2 (ji26) p519 q519;cases e519;replace p519:=ezT p519;replace q519:=ezT q519;have p520:0≤((rd t516 (ji26)):Int):=ozD (uq);have q520:(rd t516 (ji26))<(l0.length:Int):=ozD (uq);obtain ⟨ad520,e520,hx520_0,hx520_1,hx520_2,hx520_3⟩:=jpa HR0.out (rd t516 (ji26)) p520 q520;obtain rfl:ad512=ad520:=(by injection e520);replace hx520_0:=cb HB.out hx520_0;replace hx520_1:=cb HB.out hx520_1;replace hx520_2:=cb HB.out hx520_2;replace hx520_3:=cb HB.out hx520_3;replace p520:=ezT p520;replace q520:=ezT q520) |((with_reducible refine jNa (b:=.append) (xs:=#[.tmp 54, .tmp 56]) rfl ?_);at_builtin;refine Kd.jbc (Kd.int .i64) (w0:=w) w.heap.size rfl (.tmp 54) (.tmp 56) 29 3 (.int .i64 0) 8 rfl Try.underlying29 info3 rfl (by decide) (by omega) u7 x7_1 (rd t516 (ji26)) [.int .i64 (rd t516 (ji26))] (fun k_=>some k_≠(.slice (some ad508) t502.length co8:Value).ownBlock∧some k_≠(.slice (some ad519) t516.length co34:Value).ownBlock) (fun _=>False) rfl rfl ?aP (fun _ hk=>hk.elim) ?aF ?aO ?aB ?aS ?aL ?_;(case aP=>exact rfl);(case aB=>exact (bq));(case aF=>exact (fun k_ hk=>⟨Kd.fresh' (Kd.R_lt (rq HO_15.out)) k_ hk,Kd.fresh' (Kd.R_lt (rq HO518.out)) k_ hk⟩));(case aO=>exact (rq HO_7.out));(case aS=>exact (jT (bq)));(case aL=>have:=LMc32.out;omega);intro v522 w35 ho hb hg hat;rw [← Ny521.out] at ho;have n0_:=am (Kd.jKc (ok:=(fun k_=>some k_≠(.slice (some ad519) t516.length co34:Value).ownBlock)) (by (with_reducible repeat (first | apply Kd.jX | apply Kd.jW | apply Kd.jia));exact Kd.jD HO_15.out (fun _ hk=>⟨hk.2,hk.1⟩)) hg hat);have n1_:=am (Kd.jKc (ok:=(fun k_=>some k_≠(.slice (some ad508) t502.length co8:Value).ownBlock)) (by (with_reducible repeat (first | apply Kd.jX | apply Kd.jW | apply Kd.jia));exact Kd.jD HO518.out (fun _ hk=>⟨hk.2,hk.1.2⟩)) hg hat);have n2_:=am (hb);have n3_:=am (ho);clear HO_15 HO518 HB HO_7;have HO_15:=n0_;have HO518:=n1_;have HB:=n2_;have HO523:=n3_;clear n0_ n1_ n2_ n3_ ho hb hg hat))
                   go_roundg kj20
                   case measure=>have:=HK1.out;have:=HJ20.out;omega
                   case rel=>exact ⟨(y521),(wrap64 (x17_1+1)),(sq),H',⟨by have:=HK1.out;have:=HJ20.out;omega⟩,⟨by (with_reducible repeat (first | apply Kd.jX | apply Kd.jW | apply Kd.jia));exact Kd.jD HO523.out (fun _ hk=>hk.1)⟩,⟨by (with_reducible repeat (first | apply Kd.jX | apply Kd.jW | apply Kd.jia));exact Kd.jD HO_15.out (fun _ hk=>hk.2)⟩,⟨bq⟩⟩
                  ·rw [if_neg c32] at H
                   exact absurd H (by simp)
                 ·rw [if_neg c31] at H
                  have c31b0:(((jc l0 (rd t516 (ji26))).f1) == 10)=false:=beq_eq_false_iff_ne.mpr c31
                  have c31b1:(((jc l0 (rd t516 (ji26))).f1) != 10)=true:=bne_iff_ne.mpr c31
                  have H':=am H
                  clear H
                  go_wp2_with (first |((with_reducible refine jd (f:=56) rfl ?_);refine gL (some 41) Try.func56 #[.slice (some ad512) l0.length c0, .int .i64 (rd t502 x17_1)] ?_;(with_reducible refine (jQa.calls kj20 _ _ l0 (rd t502 x17_1) t516 _ ?side1 ?side2 A25.out).mono ?_);(case side1=>exact cq (Kd.jN HR0.out HB.out));(case side2=>exact HC0.out);rintro e w36 ⟨v517,rfl,ho0,hb⟩;refine ⟨_,rfl,?_⟩;have HO518:=am (Kd.jV (Kd.jUb (Kd.jUb ho0 (Kd.R_lt (rq HO_7.out))) (Kd.R_lt (rq HO_15.out))) (jT (bq)));replace HO_7:=am (Kd.jMb (rq HO_7.out) (Kd.jVb ho0) hb);replace HO_15:=am (Kd.jMb (rq HO_15.out) (Kd.jVb ho0) hb);replace HB:=am (je (bq) hb);(try clear hb);(try clear hb2);(try clear hk);(try clear hi);(try clear ho0);obtain ⟨Ao37,co37,eo37⟩:=Kd.jca HO518.out;subst eo37;have p519:0≤((ji26):Int):=ozD (uq);have q519:(ji26)<(t516.length:Int):=ozD (uq);obtain ⟨ad519,e519,hx519_0⟩:=Kd.jhb (Kd.jq HO518.out).2.2 (ji26) p519 q519;cases e519;replace p519:=ezT p519;replace q519:=ezT q519;have p520:0≤((rd t516 (ji26)):Int):=ozD (uq);have q520:(rd t516 (ji26))<(l0.length:Int):=ozD (uq);obtain ⟨ad520,e520,hx520_0,hx520_1,hx520_2,hx520_3⟩:=jpa HR0.out (rd t516 (ji26)) p520 q520;obtain rfl:ad512=ad520:=(by injection e520);replace hx520_0:=cb HB.out hx520_0;replace hx520_1:=cb HB.out hx520_1;replace hx520_2:=cb HB.out hx520_2;replace hx520_3:=cb HB.out hx520_3;replace p520:=ezT p520;replace q520:=ezT q520))
                  go_roundg kj20
                  case measure=>have:=HK1.out;have:=HJ20.out;omega
                  case rel=>exact ⟨(x7_1),(wrap64 (x17_1+1)),(sq),H',⟨by have:=HK1.out;have:=HJ20.out;omega⟩,⟨by (with_reducible repeat (first | apply Kd.jX | apply Kd.jW | apply Kd.jia));exact Kd.jD HO_7.out (fun _ hk=>hk.1)⟩,⟨by (with_reducible repeat (first | apply Kd.jX | apply Kd.jW | apply Kd.jia));exact Kd.jD HO_15.out (fun _ hk=>hk.1)⟩,⟨bq⟩⟩
                ·rw [if_neg c30] at H
                 exact absurd H (by simp)
               ·rw [if_neg c29] at H
                exact absurd H (by simp)
              ·rw [if_neg c28] at H
               exact absurd H (by simp)
             ·rw [if_neg c27] at H
              exact absurd H (by simp)
            ·replace c24:=Bool.eq_false_iff.mpr c24
             subst c24
             have H1:(jFa.l0 kj20 l0 a2 x7_1 t502 (t502.length:Int) (wrap64 (x17_1+1)))=some r:=by rw [if_neg (show ¬ (false=true) by decide)] at H;exact H
             clear H
             have H:=H1
             clear H1
             have H':=am H
             clear H
             go_wp2
             go_roundg kj20
             case measure=>have:=HK1.out;have:=HJ20.out;omega
             case rel=>exact ⟨(x7_1),(wrap64 (x17_1+1)),(sq),H',⟨by have:=HK1.out;have:=HJ20.out;omega⟩,⟨rq HO_7.out⟩,⟨rq HO_15.out⟩,⟨bq⟩⟩
        ·rw [if_neg c17] at H
         exact absurd H (by simp)
       ·rw [if_neg c16] at H
        exact absurd H (by simp)
     ·rw [if_neg c11] at H
      exact absurd H (by simp)
    ·rw [if_neg c10] at H
     exact absurd H (by simp)
   ·rw [if_neg c9] at H
    have c9b0:decide (x17_1<(t502.length:Int))=false:=dzF c9
    clear c9
    replace H:=bzS H
    obtain ⟨t505,A380,H⟩:=H
    replace H:(some t505)=some r:=H
    have A38:=am A380
    clear A380
    obtain rfl:=Option.some.inj H
    obtain ⟨Ao39,co39,eo39⟩:=Kd.jca HO_7.out
    subst eo39
    go_wp2_with (first |((with_reducible refine jd (f:=59) rfl ?_);refine gL (some 60) Try.func59 #[.slice Ao39 x7_1.length co39] ?_;(with_reducible refine (jua.calls (fun k_=>some k_=(.slice Ao39 x7_1.length co39:Value).ownBlock) (.slice Ao39 x7_1.length co39) x7_1 t505 w _ ?side1 ?side2 A38.out).mono ?_);(case side1=>exact Y76);(case side2=>exact Kd.R_tight rfl HO_7.out);rintro e w40 ⟨v506,rfl,ho0,hb,hkp⟩;refine ⟨_,rfl,?_⟩;have n0_:=am (Kd.jD (ok':=fun k_=>some k_≠(v506:Value).ownBlock) (Kd.R_keptB (HO_15.out) hkp (fun k_ hk_ hs_=>(hk_) hs_)) (fun k_ hk_=>fun e_=>Or.elim (ho0.1 k_ e_.symm) (fun hs_=>hk_.2.1 hs_) (fun hn_=>Nat.not_le.2 hk_.2.2 hn_)));have n1_:=am (Kd.jD (ok':=fun k_=>some k_≠(.slice Ao8 t502.length co8:Value).ownBlock) ho0 (fun k_ hk_=>Or.elim hk_ (fun hs_=>fun e_=>(((HO_15.out).1 k_ e_.symm)) hs_) (fun hn_=>(Kd.fresh' (Kd.R_lt (rq HO_15.out)) k_ hn_))));have n2_:=am (hb);clear HO_15 HB HO_7;have HO_15:=n0_;have HO507:=n1_;have HB:=n2_;clear n0_ n1_ n2_;(try clear hb);(try clear hkp);(try clear ho0)))
    go_ret
    exact ⟨_,Y0,by (with_reducible repeat (first | apply Kd.jX | apply Kd.jW | apply Kd.jia));exact Kd.jD HO507.out (fun _ hk=>trivial),bq⟩
def joc.f (k : Nat) (l0_0 : List (S75)) (l1 : List (S36)) (a2 : Int) : Option (List Int) := (jpb.f k l0_0 l1 a2).bind fun t525 => (if t525 = true then ((jFa.f k l1 a2 (-1)).bind fun t526 => (some t526)) else (some ([] : List Int)))
set_option maxHeartbeats 8000000 in
set_option maxRecDepth 100000 in
theorem joc.calls (k : Nat) (A0_0 : Option Addr) (c0_0 : Nat) (l0_0 : List (S75)) (A1 : Option Addr) (c1 : Nat) (l1 : List (S36)) (a2 : Int) (r : List Int) (w : World) (hr0_0 : Kd.C k75 w A0_0 l0_0.length l0_0) (hc0_0 : l0_0.length ≤ c0_0) (hr1 : Kd.C k36 w A1 l1.length l1) (hc1 : l1.length ≤ c1) (h : joc.f k l0_0 l1 a2 = some r) :
  Calls Try.prog 9 #[.agg #[.slice A0_0 l0_0.length c0_0], .slice A1 l1.length c1, .int .i64 a2] w fun e w'=>∃ v0_:Value,e=.returned (v0_)∧Kd.R (Kd.int .i64) 3 w' w.heap.size (fun _=>True) v0_ r∧Below w.heap.size w w':=by
 have hu25:=Try.underlying25
 have HR0_0:=am hr0_0
 have HC0_0:=am hc0_0
 clear hr0_0 hc0_0
 have HR1:=am hr1
 have HC1:=am hc1
 clear hr1 hc1
 have HB:=am (Below.refl w.heap.size w)
 have H:((jpb.f k l0_0 l1 a2).bind fun t525=>(if t525=true then ((jFa.f k l1 a2 (-1)).bind fun t526=>(some t526)) else (some ([]:List Int))))=some r:=h
 clear h
 replace H:=bzS H
 obtain ⟨t525,A40,H⟩:=H
 replace H:(if t525=true then ((jFa.f k l1 a2 (-1)).bind fun t526=>(some t526)) else (some ([]:List Int)))=some r:=H
 have A4:=am A40
 clear A40
 by_cases c5:t525=true
 ·subst c5
  have H1:((jFa.f k l1 a2 (-1)).bind fun t526=>(some t526))=some r:=by rw [if_pos rfl] at H;exact H
  clear H
  have H:=H1
  clear H1
  replace H:=bzS H
  obtain ⟨t526,A60,H⟩:=H
  replace H:(some t526)=some r:=H
  have A6:=am A60
  clear A60
  obtain rfl:=Option.some.inj H
  go_enter Try.func9,Try.ntmps9
  go_wp2_with (first |((with_reducible refine jJ (N:=3) rfl ?_);refine bE (N:=3) (cs:=#[.slice A0_0 l0_0.length c0_0]) (t:=25) ?_;intro gb524 hg w7 hbox hb;have BK524:=am (hbox);have GW524:=am ((Y3:w.heap.size≤gb524));have GE524:=am ((Y3:w.heap.size≤gb524));replace HB:=am (je (bq) hb);clear hb hbox hg;have hcz8_0:=bc0 BK524.out;have hfz8_0:=ja BK524.out 0) |((with_reducible refine jd (f:=31) rfl ?_);refine gL (some 10) Try.func31 #[.agg #[.slice A0_0 l0_0.length c0_0], .slice A1 l1.length c1, .int .i64 a2] ?_;(with_reducible refine (jpb.calls k _ _ l0_0 _ _ l1 a2 true _ ?side1 ?side2 ?side3 ?side4 A4.out).mono ?_);(case side1=>exact cq (Kd.jN HR0_0.out HB.out));(case side2=>exact HC0_0.out);(case side3=>exact cq (Kd.jN HR1.out HB.out));(case side4=>exact HC1.out);rintro e w9 ⟨rfl,hb⟩;refine ⟨_,rfl,?_⟩;replace BK524:=am (jk (g:=gb524) (o:=.cells #[.slice A0_0 l0_0.length c0_0] 25 (0,0)) (kq BK524.out) hb);replace HB:=am (je (Y77) hb);(try clear hb);(try clear hb2);(try clear hk);(try clear hi)) |((with_reducible refine jd (f:=32) rfl ?_);refine gL (some 14) Try.func32 #[.slice A1 l1.length c1, .int .i64 a2, .int .i64 (-1)] ?_;(with_reducible refine (jFa.calls k _ _ l1 a2 (-1) t526 _ ?side1 ?side2 A6.out).mono ?_);(case side1=>exact cq (Kd.jN HR1.out HB.out));(case side2=>exact HC1.out);rintro e w10 ⟨v527,rfl,ho0,hb⟩;refine ⟨_,rfl,?_⟩;have HO528:=am (Kd.jV ho0 (jT (Y77)));replace BK524:=am (jk (g:=gb524) (o:=.cells #[.slice A0_0 l0_0.length c0_0] 25 (0,0)) (kq BK524.out) hb);replace HB:=am (je (Y77) hb);(try clear hb);(try clear hb2);(try clear hk);(try clear hi);(try clear ho0)))
  go_ret
  exact ⟨_,Y0,rq HO528.out,Y77⟩
 ·replace c5:=Bool.eq_false_iff.mpr c5
  subst c5
  have H1:(some ([]:List Int))=some r:=by rw [if_neg (show ¬ (false=true) by decide)] at H;exact H
  clear H
  have H:=H1
  clear H1
  obtain rfl:=Option.some.inj H
  go_enter Try.func9,Try.ntmps9
  go_wp2_with (first |((with_reducible refine jJ (N:=3) rfl ?_);refine bE (N:=3) (cs:=#[.slice A0_0 l0_0.length c0_0]) (t:=25) ?_;intro gb524 hg w11 hbox hb;have BK524:=am (hbox);have GW524:=am ((Y3:w.heap.size≤gb524));have GE524:=am ((Y3:w.heap.size≤gb524));replace HB:=am (je (bq) hb);clear hb hbox hg;have hcz12_0:=bc0 BK524.out;have hfz12_0:=ja BK524.out 0) |((with_reducible refine jd (f:=31) rfl ?_);refine gL (some 10) Try.func31 #[.agg #[.slice A0_0 l0_0.length c0_0], .slice A1 l1.length c1, .int .i64 a2] ?_;(with_reducible refine (jpb.calls k _ _ l0_0 _ _ l1 a2 false _ ?side1 ?side2 ?side3 ?side4 A4.out).mono ?_);(case side1=>exact cq (Kd.jN HR0_0.out HB.out));(case side2=>exact HC0_0.out);(case side3=>exact cq (Kd.jN HR1.out HB.out));(case side4=>exact HC1.out);rintro e w13 ⟨rfl,hb⟩;refine ⟨_,rfl,?_⟩;replace BK524:=am (jk (g:=gb524) (o:=.cells #[.slice A0_0 l0_0.length c0_0] 25 (0,0)) (kq BK524.out) hb);replace HB:=am (je (Y77) hb);(try clear hb);(try clear hb2);(try clear hk);(try clear hi)))
  go_ret
  exact ⟨_,Y0,Y79,Y77⟩
def jga.l0 : Nat → List Int → List Int → Int → Option (Bool)
 | 0,_,_,_=>none
 | k+1,x0,x1,x5=>if x5<(x0.length:Int) then (if 0≤x5 then (if x5<(x1.length:Int) then (if (rd x0 x5)=(rd x1 x5) then (jga.l0 k x0 x1 (wrap64 (x5+1))) else (some false)) else (none)) else (none)) else (some true)
def jga.f (k : Nat) (l0 : List Int) (l1 : List Int) : Option (Bool) := if (l0.length : Int) = (l1.length : Int) then (jga.l0 k l0 l1 0) else (some false)
set_option maxHeartbeats 8000000 in
set_option maxRecDepth 100000 in
theorem jga.calls (k : Nat) (A0 : Option Addr) (c0 : Nat) (l0 : List Int) (A1 : Option Addr) (c1 : Nat) (l1 : List Int) (r : Bool) (w : World) (hr0 : Kd.C (Kd.int .i64) w A0 l0.length l0) (hc0 : l0.length ≤ c0) (hr1 : Kd.C (Kd.int .i64) w A1 l1.length l1) (hc1 : l1.length ≤ c1) (h : jga.f k l0 l1 = some r) :
  Calls Try.prog 10 #[.slice A0 l0.length c0, .slice A1 l1.length c1] w fun e w'=>e=.returned (.bool r)∧jrb w w':=by
 have HR0:=am hr0
 have HC0:=am hc0
 clear hr0 hc0
 have HR1:=am hr1
 have HC1:=am hc1
 clear hr1 hc1
 have H:(if (l0.length:Int)=(l1.length:Int) then (jga.l0 k l0 l1 0) else (some false))=some r:=h
 clear h
 by_cases c3:(l0.length:Int)=(l1.length:Int)
 ·rw [if_pos c3] at H
  have c3b0:((l0.length:Int) == (l1.length:Int))=true:=beq_iff_eq.mpr c3
  have c3b1:((l0.length:Int) != (l1.length:Int))=false:=bne_eq_false_iff_eq.mpr c3
  have c3b2:(l0.length == l1.length)=true:=by first | simpa using c3 |(simp at c3 ⊢;omega)
  clear c3
  have H':=am H
  clear H
  go_enter Try.func10,Try.ntmps10
  go_wp2
  repeat (go_quiet (fail);try go_wp2)
  go_loopg [5] k (fun kq v5 w'=>∃ (x5_1:Int),v5=.int .i64 x5_1∧jl (jga.l0 kq l0 l1 x5_1=some r)∧jl (kq≤k)∧jrb w w')
  case atStart=>exact ⟨(0),(sq),H',⟨Nat.le_refl _⟩,Y4⟩
  case round =>
   clear H'
   try clear c1
   try clear p2
   try clear c3
   try clear c3b0
   try clear c3b1
   try clear c3b2
   obtain ⟨x5_1,rfl,HA,HK1,⟨m1,rfl⟩⟩:=hrel
   cases gk with
   | zero=>exact absurd HA.out (by simp [jga.l0])
   | succ k1 =>
    have H:=HA.out
    clear HA
    simp only [jga.l0] at H
    by_cases c4:x5_1<(l0.length:Int)
    ·rw [if_pos c4] at H
     have c4b0:decide (x5_1<(l0.length:Int))=true:=dzT c4
     clear c4
     by_cases c5:0≤x5_1
     ·rw [if_pos c5] at H
      have c5b0:decide (0≤x5_1)=true:=dzT c5
      clear c5
      by_cases c6:x5_1<(l1.length:Int)
      ·rw [if_pos c6] at H
       have c6b0:decide (x5_1<(l1.length:Int))=true:=dzT c6
       clear c6
       by_cases c7:(rd l0 x5_1)=(rd l1 x5_1)
       ·rw [if_pos c7] at H
        have c7b0:((rd l0 x5_1) == (rd l1 x5_1))=true:=beq_iff_eq.mpr c7
        have c7b1:((rd l0 x5_1) != (rd l1 x5_1))=false:=bne_eq_false_iff_eq.mpr c7
        clear c7
        have H':=am H
        clear H
        have p529:0≤(x5_1:Int):=ozD (uq)
        have q529:x5_1<(l0.length:Int):=ozD (uq)
        obtain ⟨ad529,e529,hx529_0⟩:=Kd.jhb HR0.out x5_1 p529 q529
        cases e529
        replace p529:=ezT p529
        replace q529:=ezT q529
        have p530:0≤(x5_1:Int):=ozD (uq)
        have q530:x5_1<(l1.length:Int):=ozD (uq)
        obtain ⟨ad530,e530,hx530_0⟩:=Kd.jhb HR1.out x5_1 p530 q530
        cases e530
        replace p530:=ezT p530
        replace q530:=ezT q530
        go_wp2
        repeat (go_quiet (fail);try go_wp2)
        go_roundg k1
        case measure=>have:=HK1.out;omega
        case rel=>exact ⟨(wrap64 (x5_1+1)),(sq),H',⟨by have:=HK1.out;omega⟩,Y4⟩
       ·rw [if_neg c7] at H
        have c7b0:((rd l0 x5_1) == (rd l1 x5_1))=false:=beq_eq_false_iff_ne.mpr c7
        have c7b1:((rd l0 x5_1) != (rd l1 x5_1))=true:=bne_iff_ne.mpr c7
        obtain rfl:=Option.some.inj H
        have p529:0≤(x5_1:Int):=ozD (uq)
        have q529:x5_1<(l0.length:Int):=ozD (uq)
        obtain ⟨ad529,e529,hx529_0⟩:=Kd.jhb HR0.out x5_1 p529 q529
        cases e529
        replace p529:=ezT p529
        replace q529:=ezT q529
        have p530:0≤(x5_1:Int):=ozD (uq)
        have q530:x5_1<(l1.length:Int):=ozD (uq)
        obtain ⟨ad530,e530,hx530_0⟩:=Kd.jhb HR1.out x5_1 p530 q530
        cases e530
        replace p530:=ezT p530
        replace q530:=ezT q530
        go_wp2
        repeat (go_quiet (fail);try go_wp2)
        go_ret
        exact ⟨sq,Y4⟩
      ·rw [if_neg c6] at H
       exact absurd H (by simp)
     ·rw [if_neg c5] at H
      exact absurd H (by simp)
    ·rw [if_neg c4] at H
     have c4b0:decide (x5_1<(l0.length:Int))=false:=dzF c4
     clear c4
     obtain rfl:=Option.some.inj H
     go_wp2
     repeat (go_quiet (fail);try go_wp2)
     go_ret
     exact ⟨sq,Y4⟩
 ·rw [if_neg c3] at H
  have c3b0:((l0.length:Int) == (l1.length:Int))=false:=beq_eq_false_iff_ne.mpr c3
  have c3b1:((l0.length:Int) != (l1.length:Int))=true:=bne_iff_ne.mpr c3
  have c3b2:(l0.length == l1.length)=false:=by first | simpa using c3 |(simp at c3 ⊢;omega)
  obtain rfl:=Option.some.inj H
  go_enter Try.func10,Try.ntmps10
  go_wp2
  repeat (go_quiet (fail);try go_wp2)
  go_ret
  exact ⟨sq,Y4⟩
def jM.f (a0 : Int) (a1 : Int) (a2 : Int) : Option (Bool) := if a1 ≤ a0 then (some (decide (a0 ≤ a2))) else (some false)
set_option maxHeartbeats 8000000 in
set_option maxRecDepth 100000 in
theorem jM.calls (a0 : Int) (a1 : Int) (a2 : Int) (r : Bool) (w : World) (h : jM.f a0 a1 a2 = some r) :
  Calls Try.prog 61 #[.int .i64 a0, .int .i64 a1, .int .i64 a2] w fun e w'=>e=.returned (.bool r)∧jrb w w':=by
 have H:(if a1≤a0 then (some (decide (a0≤a2))) else (some false))=some r:=h
 clear h
 by_cases c4:a1≤a0
 ·rw [if_pos c4] at H
  have c4b0:decide (a1≤a0)=true:=dzT c4
  clear c4
  obtain rfl:=Option.some.inj H
  go_enter Try.func61,Try.ntmps61
  go_wp2
  go_ret
  exact ⟨sq,Y4⟩
 ·rw [if_neg c4] at H
  have c4b0:decide (a1≤a0)=false:=dzF c4
  clear c4
  obtain rfl:=Option.some.inj H
  go_enter Try.func61,Try.ntmps61
  go_wp2
  go_ret
  exact ⟨sq,Y4⟩
def jQb.f (a0 : Int) : Option (Bool) := (jM.f a0 8 10).bind fun t531 => (some t531)
set_option maxHeartbeats 8000000 in
set_option maxRecDepth 100000 in
theorem jQb.calls (a0 : Int) (r : Bool) (w : World) (h : jQb.f a0 = some r) :
  Calls Try.prog 85 #[.int .i64 a0] w fun e w'=>e=.returned (.bool r)∧jrb w w':=by
 have H:((jM.f a0 8 10).bind fun t531=>(some t531))=some r:=h
 clear h
 replace H:=bzS H
 obtain ⟨t531,A20,H⟩:=H
 replace H:(some t531)=some r:=H
 have A2:=am A20
 clear A20
 obtain rfl:=Option.some.inj H
 go_enter Try.func85,Try.ntmps85
 go_wp2_with (first |((with_reducible refine jd (f:=61) rfl ?_);refine gL (some 4) Try.func61 #[.int .i64 a0, .int .i64 8, .int .i64 10] ?_;(with_reducible refine (jM.calls a0 8 10 t531 _ A2.out).mono ?_);rintro e w' ⟨rfl,⟨nd,rfl⟩⟩;refine ⟨_,rfl,?_⟩))
 go_ret
 exact ⟨sq,Y4⟩
def jUa.f (l0_0 : List (S75)) (a1 : Int) : Option (Bool) := (jM.f a1 0 (wrap64 ((l0_0.length : Int) - 1))).bind fun t533 => (some t533)
set_option maxHeartbeats 8000000 in
set_option maxRecDepth 100000 in
theorem jUa.calls (A0_0 : Option Addr) (c0_0 : Nat) (l0_0 : List (S75)) (a1 : Int) (r : Bool) (w : World) (hr0_0 : Kd.C k75 w A0_0 l0_0.length l0_0) (hc0_0 : l0_0.length ≤ c0_0) (h : jUa.f l0_0 a1 = some r) :
  Calls Try.prog 70 #[.agg #[.slice A0_0 l0_0.length c0_0], .int .i64 a1] w fun e w'=>e=.returned (.bool r)∧Below w.heap.size w w':=by
 have hu25:=Try.underlying25
 have HR0_0:=am hr0_0
 have HC0_0:=am hc0_0
 clear hr0_0 hc0_0
 have HB:=am (Below.refl w.heap.size w)
 have H:((jM.f a1 0 (wrap64 ((l0_0.length:Int) - 1))).bind fun t533=>(some t533))=some r:=h
 clear h
 replace H:=bzS H
 obtain ⟨t533,A30,H⟩:=H
 replace H:(some t533)=some r:=H
 have A3:=am A30
 clear A30
 obtain rfl:=Option.some.inj H
 go_enter Try.func70,Try.ntmps70
 go_wp2_with (first |((with_reducible refine jJ (N:=2) rfl ?_);refine bE (N:=2) (cs:=#[.slice A0_0 l0_0.length c0_0]) (t:=25) ?_;intro gb532 hg w4 hbox hb;have BK532:=am (hbox);have GW532:=am ((Y3:w.heap.size≤gb532));have GE532:=am ((Y3:w.heap.size≤gb532));replace HB:=am (je (bq) hb);clear hb hbox hg;have hcz5_0:=bc0 BK532.out;have hfz5_0:=ja BK532.out 0) |((with_reducible refine jd (f:=61) rfl ?_);refine gL (some 10) Try.func61 #[.int .i64 a1, .int .i64 0, .int .i64 (wrap64 ((l0_0.length:Int) - 1))] ?_;(with_reducible refine (jM.calls a1 0 (wrap64 ((l0_0.length:Int) - 1)) t533 _ A3.out).mono ?_);rintro e w' ⟨rfl,⟨nd,rfl⟩⟩;refine ⟨_,rfl,?_⟩))
 go_ret
 exact ⟨Y0,by repeat (first |(with_reducible first | exact HB.out | apply jL | apply jm | apply jF | refine jK ?_ GE532.out) | exact HB.out)⟩
def jDa.j0 : Nat → Int → Bool → List (S75) → Int → Int → Int → Int → Option (Bool)
 | 0,_,_,_,_,_,_,_=>none
 | k+1,x6,x7,x535000,x536000,x536001,x536002,x536003=>if x7=true then ((jM.f x536002 0 99).bind fun t536=>(if t536=true then (some (x536003 == 0)) else (some false))) else (if x6=2 then ((jUa.f x535000 x536002).bind fun t537=>(if t537=true then ((jM.f x536003 0 99).bind fun t538=>(some t538)) else (some false))) else (if x6=8 then ((jUa.f x535000 x536002).bind fun t539=>(if t539=true then (some (x536003 == 0)) else (some false))) else (if x6=11 then ((jM.f x536002 0 9).bind fun t540=>(if t540=true then ((jM.f x536003 0 1).bind fun t541=>(some t541)) else (some false))) else (if x6=12 then ((jM.f x536002 0 3).bind fun t542=>(if t542=true then (some (x536003 == 0)) else (some false))) else ((jM.f x536001 0 10).bind fun t543=>(if t543=true then (if x536002=0 then (some (x536003 == 0)) else (some false)) else (some false)))))))
def jDa.f (k : Nat) (l0_0 : List (S75)) (a1_0 : Int) (a1_1 : Int) (a1_2 : Int) (a1_3 : Int) : Option (Bool) := if a1_1 = 1 then (jDa.j0 k a1_1 (a1_1 == 1) l0_0 a1_0 a1_1 a1_2 a1_3) else (jDa.j0 k a1_1 (a1_1 == 4) l0_0 a1_0 a1_1 a1_2 a1_3)
set_option maxHeartbeats 8000000 in
set_option maxRecDepth 100000 in
theorem jDa.calls (k : Nat) (A0_0 : Option Addr) (c0_0 : Nat) (l0_0 : List (S75)) (a1_0 : Int) (a1_1 : Int) (a1_2 : Int) (a1_3 : Int) (r : Bool) (w : World) (hr0_0 : Kd.C k75 w A0_0 l0_0.length l0_0) (hc0_0 : l0_0.length ≤ c0_0) (h : jDa.f k l0_0 a1_0 a1_1 a1_2 a1_3 = some r) :
  Calls Try.prog 93 #[.agg #[.slice A0_0 l0_0.length c0_0], .agg #[.int .i64 a1_0, .int .i64 a1_1, .int .i64 a1_2, .int .i64 a1_3]] w fun e w'=>e=.returned (.bool r)∧Below w.heap.size w w':=by
 have hu25:=Try.underlying25
 have hu36:=Try.underlying36
 have HR0_0:=am hr0_0
 have HC0_0:=am hc0_0
 clear hr0_0 hc0_0
 have HB:=am (Below.refl w.heap.size w)
 have H:(if a1_1=1 then (jDa.j0 k a1_1 (a1_1 == 1) l0_0 a1_0 a1_1 a1_2 a1_3) else (jDa.j0 k a1_1 (a1_1 == 4) l0_0 a1_0 a1_1 a1_2 a1_3))=some r:=h
 clear h
 have HC3:=am H
 clear H
 go_enter Try.func93,Try.ntmps93
 go_upto_if 7 with (first |((with_reducible refine jJ (N:=2) rfl ?_);refine bE (N:=2) (cs:=#[.slice A0_0 l0_0.length c0_0]) (t:=25) ?_;intro gb534 hg w4 hbox hb;have BK534:=am (hbox);have GW534:=am ((Y3:w.heap.size≤gb534));have GE534:=am ((Y3:w.heap.size≤gb534));replace HB:=am (je (bq) hb);clear hb hbox hg) |((with_reducible refine jJ (N:=3) rfl ?_);refine bE (N:=3) (cs:=#[.int .i64 a1_0, .int .i64 a1_1, .int .i64 a1_2, .int .i64 a1_3]) (t:=36) ?_;intro gb535 hg w5 hbox hb;have BK535:=am (hbox);have GW535:=am ((Y130:w.heap.size≤gb535));have GE535:=am ((Y130:w.heap.size≤gb535));have NB534_535:=am ((by rw [hg];exact Nat.ne_of_lt (jLb (g:=gb534) (o:=.cells #[.slice A0_0 l0_0.length c0_0] 25 (0,0)) (kq BK534.out)):gb534≠gb535));have NB535_534:=am ((by rw [hg];exact Nat.ne_of_gt (jLb (g:=gb534) (o:=.cells #[.slice A0_0 l0_0.length c0_0] 25 (0,0)) (kq BK534.out)):gb535≠gb534));replace BK534:=am (jk (g:=gb534) (o:=.cells #[.slice A0_0 l0_0.length c0_0] 25 (0,0)) (kq BK534.out) hb);replace HB:=am (je (by repeat (first |(with_reducible first | exact HB.out | apply jL | apply jm | apply jF | refine jK ?_ GE534.out) | exact HB.out)) hb);clear hb hbox hg;have hnb6:=NB535_534.out;have hnc6:=NB534_535.out;have hcz7_0:=bc0 BK535.out;have hcz7_1:=bc1 BK535.out;have hcz7_2:=bc2 BK535.out;have hcz7_3:=bc3 BK535.out;have hfz7_0:=ja BK535.out 0;have hfz7_1:=ja BK535.out 1;have hfz7_2:=ja BK535.out 2;have hfz7_3:=ja BK535.out 3))
 (try simp only [Act.put,List.setIfInBounds_toArray,List.set_cons_zero,List.set_cons_succ])
 go_cut [7] (fun v7 wc=>∃ (kq:Nat) (x7_2:Bool),v7=.bool x7_2∧jl (jDa.j0 kq a1_1 x7_2 l0_0 a1_0 a1_1 a1_2 a1_3=some r)∧jl (kq≤k)∧jl (wc.heap[gb534]?=some (.cells #[(.slice A0_0 l0_0.length c0_0)] 25 (0,0)))∧jl (wc.heap[gb535]?=some (.cells #[.int .i64 a1_0, .int .i64 a1_1, .int .i64 a1_2, .int .i64 a1_3] 36 (0,0)))∧jl (Below w.heap.size w wc))
 case first =>
  have H:=HC3.out
  clear HC3
  by_cases c8:a1_1=1
  ·rw [if_pos c8] at H
   have c8b0:(a1_1 == 1)=true:=beq_iff_eq.mpr c8
   have c8b1:(a1_1 != 1)=false:=bne_eq_false_iff_eq.mpr c8
   clear c8
   (first | rw [c8b0] |(simp only [jmb,jub];rw [c8b0]) | skip)
   have H':=am H
   clear H
   go_wp2
   go_meet
   case rel=>exact ⟨_,((a1_1 == 1)),(sq),H',⟨Y21⟩,⟨kq BK534.out⟩,⟨kq BK535.out⟩,⟨Y26⟩⟩
  ·rw [if_neg c8] at H
   have c8b0:(a1_1 == 1)=false:=beq_eq_false_iff_ne.mpr c8
   have c8b1:(a1_1 != 1)=true:=bne_iff_ne.mpr c8
   (first | rw [c8b0] |(simp only [jmb,jub];rw [c8b0]) | skip)
   have H':=am H
   clear H
   go_wp2
   go_meet
   case rel=>exact ⟨_,((a1_1 == 4)),(sq),H',⟨Y21⟩,⟨kq BK534.out⟩,⟨kq BK535.out⟩,⟨Y26⟩⟩
 case rest =>
  clear HC3
  try clear p2
  try clear c6
  try clear c8
  try clear c8b0
  try clear c8b1
  try clear hcz7_0
  try clear hcz7_1
  try clear hcz7_2
  try clear hcz7_3
  try clear hfz7_0
  try clear hfz7_1
  try clear hfz7_2
  try clear hfz7_3
  obtain ⟨kq,x7_2,rfl,HA,HJ2,BK534,BK535,HB⟩:=hcut
  cases kq with
  | zero=>exact absurd HA.out (by simp [jDa.j0])
  | succ kj2 =>
   have H:=HA.out
   clear HA
   simp only [jDa.j0] at H
   by_cases c9:x7_2=true
   ·subst c9
    have H1:((jM.f a1_2 0 99).bind fun t536=>(if t536=true then (some (a1_3 == 0)) else (some false)))=some r:=by rw [if_pos rfl] at H;exact H
    clear H
    have H:=H1
    clear H1
    replace H:=bzS H
    obtain ⟨t536,A100,H⟩:=H
    replace H:(if t536=true then (some (a1_3 == 0)) else (some false))=some r:=H
    have A10:=am A100
    clear A100
    by_cases c11:t536=true
    ·subst c11
     have H1:(some (a1_3 == 0))=some r:=by rw [if_pos rfl] at H;exact H
     clear H
     have H:=H1
     clear H1
     obtain rfl:=Option.some.inj H
     have hnb12:=NB535_534.out
     have hnc12:=NB534_535.out
     have hcz13_0:=bc0 BK535.out
     have hcz13_1:=bc1 BK535.out
     have hcz13_2:=bc2 BK535.out
     have hcz13_3:=bc3 BK535.out
     have hfz13_0:=ja BK535.out 0
     have hfz13_1:=ja BK535.out 1
     have hfz13_2:=ja BK535.out 2
     have hfz13_3:=ja BK535.out 3
     go_wp2_with (first |((with_reducible refine jd (f:=61) rfl ?_);refine gL (some 12) Try.func61 #[.int .i64 a1_2, .int .i64 0, .int .i64 99] ?_;(with_reducible refine (jM.calls a1_2 0 99 true _ A10.out).mono ?_);rintro e w' ⟨rfl,⟨nd,rfl⟩⟩;refine ⟨_,rfl,?_⟩))
     go_ret
     exact ⟨Y0,Y26⟩
    ·replace c11:=Bool.eq_false_iff.mpr c11
     subst c11
     have H1:(some false)=some r:=by rw [if_neg (show ¬ (false=true) by decide)] at H;exact H
     clear H
     have H:=H1
     clear H1
     obtain rfl:=Option.some.inj H
     have hnb14:=NB535_534.out
     have hnc14:=NB534_535.out
     have hcz15_0:=bc0 BK535.out
     have hcz15_1:=bc1 BK535.out
     have hcz15_2:=bc2 BK535.out
     have hcz15_3:=bc3 BK535.out
     have hfz15_0:=ja BK535.out 0
     have hfz15_1:=ja BK535.out 1
     have hfz15_2:=ja BK535.out 2
     have hfz15_3:=ja BK535.out 3
     go_wp2_with (first |((with_reducible refine jd (f:=61) rfl ?_);refine gL (some 12) Try.func61 #[.int .i64 a1_2, .int .i64 0, .int .i64 99] ?_;(with_reducible refine (jM.calls a1_2 0 99 false _ A10.out).mono ?_);rintro e w' ⟨rfl,⟨nd,rfl⟩⟩;refine ⟨_,rfl,?_⟩))
     go_ret
     exact ⟨Y0,Y26⟩
   ·replace c9:=Bool.eq_false_iff.mpr c9
    subst c9
    have H1:(if a1_1=2 then ((jUa.f l0_0 a1_2).bind fun t537=>(if t537=true then ((jM.f a1_3 0 99).bind fun t538=>(some t538)) else (some false))) else (if a1_1=8 then ((jUa.f l0_0 a1_2).bind fun t539=>(if t539=true then (some (a1_3 == 0)) else (some false))) else (if a1_1=11 then ((jM.f a1_2 0 9).bind fun t540=>(if t540=true then ((jM.f a1_3 0 1).bind fun t541=>(some t541)) else (some false))) else (if a1_1=12 then ((jM.f a1_2 0 3).bind fun t542=>(if t542=true then (some (a1_3 == 0)) else (some false))) else ((jM.f a1_1 0 10).bind fun t543=>(if t543=true then (if a1_2=0 then (some (a1_3 == 0)) else (some false)) else (some false)))))))=some r:=by rw [if_neg (show ¬ (false=true) by decide)] at H;exact H
    clear H
    have H:=H1
    clear H1
    by_cases c16:a1_1=2
    ·rw [if_pos c16] at H
     have c16b0:(a1_1 == 2)=true:=beq_iff_eq.mpr c16
     have c16b1:(a1_1 != 2)=false:=bne_eq_false_iff_eq.mpr c16
     clear c16
     replace H:=bzS H
     obtain ⟨t537,A170,H⟩:=H
     replace H:(if t537=true then ((jM.f a1_3 0 99).bind fun t538=>(some t538)) else (some false))=some r:=H
     have A17:=am A170
     clear A170
     by_cases c18:t537=true
     ·subst c18
      have H1:((jM.f a1_3 0 99).bind fun t538=>(some t538))=some r:=by rw [if_pos rfl] at H;exact H
      clear H
      have H:=H1
      clear H1
      replace H:=bzS H
      obtain ⟨t538,A190,H⟩:=H
      replace H:(some t538)=some r:=H
      have A19:=am A190
      clear A190
      obtain rfl:=Option.some.inj H
      have hnb20:=NB534_535.out
      have hnc20:=NB535_534.out
      have hcz21_0:=bc0 BK534.out
      have hfz21_0:=ja BK534.out 0
      have hcz22_0:=bc0 BK535.out
      have hcz22_1:=bc1 BK535.out
      have hcz22_2:=bc2 BK535.out
      have hcz22_3:=bc3 BK535.out
      have hfz22_0:=ja BK535.out 0
      have hfz22_1:=ja BK535.out 1
      have hfz22_2:=ja BK535.out 2
      have hfz22_3:=ja BK535.out 3
      go_wp2_with (first |((with_reducible refine jd (f:=70) rfl ?_);refine gL (some 23) Try.func70 #[.agg #[.slice A0_0 l0_0.length c0_0], .int .i64 a1_2] ?_;(with_reducible refine (jUa.calls _ _ l0_0 a1_2 true _ ?side1 ?side2 A17.out).mono ?_);(case side1=>exact cq (Kd.jN HR0_0.out HB.out));(case side2=>exact HC0_0.out);rintro e w23 ⟨rfl,hb⟩;refine ⟨_,rfl,?_⟩;replace BK534:=am (jk (g:=gb534) (o:=.cells #[.slice A0_0 l0_0.length c0_0] 25 (0,0)) (kq BK534.out) hb);replace BK535:=am (jk (g:=gb535) (o:=.cells #[.int .i64 a1_0, .int .i64 a1_1, .int .i64 a1_2, .int .i64 a1_3] 36 (0,0)) (kq BK535.out) hb);replace HB:=am (je (Y26) hb);(try clear hb);(try clear hb2);(try clear hk);(try clear hi);have hcz24_0:=bc0 BK535.out;have hcz24_1:=bc1 BK535.out;have hcz24_2:=bc2 BK535.out;have hcz24_3:=bc3 BK535.out;have hfz24_0:=ja BK535.out 0;have hfz24_1:=ja BK535.out 1;have hfz24_2:=ja BK535.out 2;have hfz24_3:=ja BK535.out 3) |(go_at_call 61;(with_reducible refine (jM.calls a1_3 0 99 t538 _ A19.out).mono ?_);rintro e w' ⟨rfl,⟨nd,rfl⟩⟩))
      go_ret
      exact ⟨Y0,Y26⟩
     ·replace c18:=Bool.eq_false_iff.mpr c18
      subst c18
      have H1:(some false)=some r:=by rw [if_neg (show ¬ (false=true) by decide)] at H;exact H
      clear H
      have H:=H1
      clear H1
      obtain rfl:=Option.some.inj H
      have hnb25:=NB534_535.out
      have hnc25:=NB535_534.out
      have hcz26_0:=bc0 BK534.out
      have hfz26_0:=ja BK534.out 0
      have hcz27_0:=bc0 BK535.out
      have hcz27_1:=bc1 BK535.out
      have hcz27_2:=bc2 BK535.out
      have hcz27_3:=bc3 BK535.out
      have hfz27_0:=ja BK535.out 0
      have hfz27_1:=ja BK535.out 1
      have hfz27_2:=ja BK535.out 2
      have hfz27_3:=ja BK535.out 3
      go_wp2_with (first |((with_reducible refine jd (f:=70) rfl ?_);refine gL (some 23) Try.func70 #[.agg #[.slice A0_0 l0_0.length c0_0], .int .i64 a1_2] ?_;(with_reducible refine (jUa.calls _ _ l0_0 a1_2 false _ ?side1 ?side2 A17.out).mono ?_);(case side1=>exact cq (Kd.jN HR0_0.out HB.out));(case side2=>exact HC0_0.out);rintro e w28 ⟨rfl,hb⟩;refine ⟨_,rfl,?_⟩;replace BK534:=am (jk (g:=gb534) (o:=.cells #[.slice A0_0 l0_0.length c0_0] 25 (0,0)) (kq BK534.out) hb);replace BK535:=am (jk (g:=gb535) (o:=.cells #[.int .i64 a1_0, .int .i64 a1_1, .int .i64 a1_2, .int .i64 a1_3] 36 (0,0)) (kq BK535.out) hb);replace HB:=am (je (Y26) hb);(try clear hb);(try clear hb2);(try clear hk);(try clear hi)))
      go_ret
      exact ⟨Y0,Y26⟩
    ·rw [if_neg c16] at H
     have c16b0:(a1_1 == 2)=false:=beq_eq_false_iff_ne.mpr c16
     have c16b1:(a1_1 != 2)=true:=bne_iff_ne.mpr c16
     by_cases c29:a1_1=8
     ·rw [if_pos c29] at H
      have c29b0:(a1_1 == 8)=true:=beq_iff_eq.mpr c29
      have c29b1:(a1_1 != 8)=false:=bne_eq_false_iff_eq.mpr c29
      clear c29
      replace H:=bzS H
      obtain ⟨t539,A300,H⟩:=H
      replace H:(if t539=true then (some (a1_3 == 0)) else (some false))=some r:=H
      have A30:=am A300
      clear A300
      by_cases c31:t539=true
      ·subst c31
       have H1:(some (a1_3 == 0))=some r:=by rw [if_pos rfl] at H;exact H
       clear H
       have H:=H1
       clear H1
       obtain rfl:=Option.some.inj H
       have hnb32:=NB534_535.out
       have hnc32:=NB535_534.out
       have hcz33_0:=bc0 BK534.out
       have hfz33_0:=ja BK534.out 0
       have hcz34_0:=bc0 BK535.out
       have hcz34_1:=bc1 BK535.out
       have hcz34_2:=bc2 BK535.out
       have hcz34_3:=bc3 BK535.out
       have hfz34_0:=ja BK535.out 0
       have hfz34_1:=ja BK535.out 1
       have hfz34_2:=ja BK535.out 2
       have hfz34_3:=ja BK535.out 3
       go_wp2_with (first |((with_reducible refine jd (f:=70) rfl ?_);refine gL (some 34) Try.func70 #[.agg #[.slice A0_0 l0_0.length c0_0], .int .i64 a1_2] ?_;(with_reducible refine (jUa.calls _ _ l0_0 a1_2 true _ ?side1 ?side2 A30.out).mono ?_);(case side1=>exact cq (Kd.jN HR0_0.out HB.out));(case side2=>exact HC0_0.out);rintro e w35 ⟨rfl,hb⟩;refine ⟨_,rfl,?_⟩;replace BK534:=am (jk (g:=gb534) (o:=.cells #[.slice A0_0 l0_0.length c0_0] 25 (0,0)) (kq BK534.out) hb);replace BK535:=am (jk (g:=gb535) (o:=.cells #[.int .i64 a1_0, .int .i64 a1_1, .int .i64 a1_2, .int .i64 a1_3] 36 (0,0)) (kq BK535.out) hb);replace HB:=am (je (Y26) hb);(try clear hb);(try clear hb2);(try clear hk);(try clear hi);have hcz36_0:=bc0 BK535.out;have hcz36_1:=bc1 BK535.out;have hcz36_2:=bc2 BK535.out;have hcz36_3:=bc3 BK535.out;have hfz36_0:=ja BK535.out 0;have hfz36_1:=ja BK535.out 1;have hfz36_2:=ja BK535.out 2;have hfz36_3:=ja BK535.out 3))
       go_ret
       exact ⟨Y0,Y26⟩
      ·replace c31:=Bool.eq_false_iff.mpr c31
       subst c31
       have H1:(some false)=some r:=by rw [if_neg (show ¬ (false=true) by decide)] at H;exact H
       clear H
       have H:=H1
       clear H1
       obtain rfl:=Option.some.inj H
       have hnb37:=NB534_535.out
       have hnc37:=NB535_534.out
       have hcz38_0:=bc0 BK534.out
       have hfz38_0:=ja BK534.out 0
       have hcz39_0:=bc0 BK535.out
       have hcz39_1:=bc1 BK535.out
       have hcz39_2:=bc2 BK535.out
       have hcz39_3:=bc3 BK535.out
       have hfz39_0:=ja BK535.out 0
       have hfz39_1:=ja BK535.out 1
       have hfz39_2:=ja BK535.out 2
       have hfz39_3:=ja BK535.out 3
       go_wp2_with (first |((with_reducible refine jd (f:=70) rfl ?_);refine gL (some 34) Try.func70 #[.agg #[.slice A0_0 l0_0.length c0_0], .int .i64 a1_2] ?_;(with_reducible refine (jUa.calls _ _ l0_0 a1_2 false _ ?side1 ?side2 A30.out).mono ?_);(case side1=>exact cq (Kd.jN HR0_0.out HB.out));(case side2=>exact HC0_0.out);rintro e w40 ⟨rfl,hb⟩;refine ⟨_,rfl,?_⟩;replace BK534:=am (jk (g:=gb534) (o:=.cells #[.slice A0_0 l0_0.length c0_0] 25 (0,0)) (kq BK534.out) hb);replace BK535:=am (jk (g:=gb535) (o:=.cells #[.int .i64 a1_0, .int .i64 a1_1, .int .i64 a1_2, .int .i64 a1_3] 36 (0,0)) (kq BK535.out) hb);replace HB:=am (je (Y26) hb);(try clear hb);(try clear hb2);(try clear hk);(try clear hi)))
       go_ret
       exact ⟨Y0,Y26⟩
     ·rw [if_neg c29] at H
      have c29b0:(a1_1 == 8)=false:=beq_eq_false_iff_ne.mpr c29
      have c29b1:(a1_1 != 8)=true:=bne_iff_ne.mpr c29
      by_cases c41:a1_1=11
      ·rw [if_pos c41] at H
       have c41b0:(a1_1 == 11)=true:=beq_iff_eq.mpr c41
       have c41b1:(a1_1 != 11)=false:=bne_eq_false_iff_eq.mpr c41
       clear c41
       replace H:=bzS H
       obtain ⟨t540,A420,H⟩:=H
       replace H:(if t540=true then ((jM.f a1_3 0 1).bind fun t541=>(some t541)) else (some false))=some r:=H
       have A42:=am A420
       clear A420
       by_cases c43:t540=true
       ·subst c43
        have H1:((jM.f a1_3 0 1).bind fun t541=>(some t541))=some r:=by rw [if_pos rfl] at H;exact H
        clear H
        have H:=H1
        clear H1
        replace H:=bzS H
        obtain ⟨t541,A440,H⟩:=H
        replace H:(some t541)=some r:=H
        have A44:=am A440
        clear A440
        obtain rfl:=Option.some.inj H
        have hnb45:=NB535_534.out
        have hnc45:=NB534_535.out
        have hcz46_0:=bc0 BK535.out
        have hcz46_1:=bc1 BK535.out
        have hcz46_2:=bc2 BK535.out
        have hcz46_3:=bc3 BK535.out
        have hfz46_0:=ja BK535.out 0
        have hfz46_1:=ja BK535.out 1
        have hfz46_2:=ja BK535.out 2
        have hfz46_3:=ja BK535.out 3
        go_wp2_with (first |((with_reducible refine jd (f:=61) rfl ?_);refine gL (some 44) Try.func61 #[.int .i64 a1_2, .int .i64 0, .int .i64 9] ?_;(with_reducible refine (jM.calls a1_2 0 9 true _ A42.out).mono ?_);rintro e w' ⟨rfl,⟨nd,rfl⟩⟩;refine ⟨_,rfl,?_⟩) |(go_at_call 61;(with_reducible refine (jM.calls a1_3 0 1 t541 _ A44.out).mono ?_);rintro e w' ⟨rfl,⟨nd,rfl⟩⟩))
        go_ret
        exact ⟨Y0,Y26⟩
       ·replace c43:=Bool.eq_false_iff.mpr c43
        subst c43
        have H1:(some false)=some r:=by rw [if_neg (show ¬ (false=true) by decide)] at H;exact H
        clear H
        have H:=H1
        clear H1
        obtain rfl:=Option.some.inj H
        have hnb47:=NB535_534.out
        have hnc47:=NB534_535.out
        have hcz48_0:=bc0 BK535.out
        have hcz48_1:=bc1 BK535.out
        have hcz48_2:=bc2 BK535.out
        have hcz48_3:=bc3 BK535.out
        have hfz48_0:=ja BK535.out 0
        have hfz48_1:=ja BK535.out 1
        have hfz48_2:=ja BK535.out 2
        have hfz48_3:=ja BK535.out 3
        go_wp2_with (first |((with_reducible refine jd (f:=61) rfl ?_);refine gL (some 44) Try.func61 #[.int .i64 a1_2, .int .i64 0, .int .i64 9] ?_;(with_reducible refine (jM.calls a1_2 0 9 false _ A42.out).mono ?_);rintro e w' ⟨rfl,⟨nd,rfl⟩⟩;refine ⟨_,rfl,?_⟩))
        go_ret
        exact ⟨Y0,Y26⟩
      ·rw [if_neg c41] at H
       have c41b0:(a1_1 == 11)=false:=beq_eq_false_iff_ne.mpr c41
       have c41b1:(a1_1 != 11)=true:=bne_iff_ne.mpr c41
       by_cases c49:a1_1=12
       ·rw [if_pos c49] at H
        have c49b0:(a1_1 == 12)=true:=beq_iff_eq.mpr c49
        have c49b1:(a1_1 != 12)=false:=bne_eq_false_iff_eq.mpr c49
        clear c49
        replace H:=bzS H
        obtain ⟨t542,A500,H⟩:=H
        replace H:(if t542=true then (some (a1_3 == 0)) else (some false))=some r:=H
        have A50:=am A500
        clear A500
        by_cases c51:t542=true
        ·subst c51
         have H1:(some (a1_3 == 0))=some r:=by rw [if_pos rfl] at H;exact H
         clear H
         have H:=H1
         clear H1
         obtain rfl:=Option.some.inj H
         have hnb52:=NB535_534.out
         have hnc52:=NB534_535.out
         have hcz53_0:=bc0 BK535.out
         have hcz53_1:=bc1 BK535.out
         have hcz53_2:=bc2 BK535.out
         have hcz53_3:=bc3 BK535.out
         have hfz53_0:=ja BK535.out 0
         have hfz53_1:=ja BK535.out 1
         have hfz53_2:=ja BK535.out 2
         have hfz53_3:=ja BK535.out 3
         go_wp2_with (first |((with_reducible refine jd (f:=61) rfl ?_);refine gL (some 54) Try.func61 #[.int .i64 a1_2, .int .i64 0, .int .i64 3] ?_;(with_reducible refine (jM.calls a1_2 0 3 true _ A50.out).mono ?_);rintro e w' ⟨rfl,⟨nd,rfl⟩⟩;refine ⟨_,rfl,?_⟩))
         go_ret
         exact ⟨Y0,Y26⟩
        ·replace c51:=Bool.eq_false_iff.mpr c51
         subst c51
         have H1:(some false)=some r:=by rw [if_neg (show ¬ (false=true) by decide)] at H;exact H
         clear H
         have H:=H1
         clear H1
         obtain rfl:=Option.some.inj H
         have hnb54:=NB535_534.out
         have hnc54:=NB534_535.out
         have hcz55_0:=bc0 BK535.out
         have hcz55_1:=bc1 BK535.out
         have hcz55_2:=bc2 BK535.out
         have hcz55_3:=bc3 BK535.out
         have hfz55_0:=ja BK535.out 0
         have hfz55_1:=ja BK535.out 1
         have hfz55_2:=ja BK535.out 2
         have hfz55_3:=ja BK535.out 3
         go_wp2_with (first |((with_reducible refine jd (f:=61) rfl ?_);refine gL (some 54) Try.func61 #[.int .i64 a1_2, .int .i64 0, .int .i64 3] ?_;(with_reducible refine (jM.calls a1_2 0 3 false _ A50.out).mono ?_);rintro e w' ⟨rfl,⟨nd,rfl⟩⟩;refine ⟨_,rfl,?_⟩))
         go_ret
         exact ⟨Y0,Y26⟩
       ·rw [if_neg c49] at H
        have c49b0:(a1_1 == 12)=false:=beq_eq_false_iff_ne.mpr c49
        have c49b1:(a1_1 != 12)=true:=bne_iff_ne.mpr c49
        replace H:=bzS H
        obtain ⟨t543,A560,H⟩:=H
        replace H:(if t543=true then (if a1_2=0 then (some (a1_3 == 0)) else (some false)) else (some false))=some r:=H
        have A56:=am A560
        clear A560
        by_cases c57:t543=true
        ·subst c57
         have H1:(if a1_2=0 then (some (a1_3 == 0)) else (some false))=some r:=by rw [if_pos rfl] at H;exact H
         clear H
         have H:=H1
         clear H1
         by_cases c58:a1_2=0
         ·rw [if_pos c58] at H
          have c58b0:(a1_2 == 0)=true:=beq_iff_eq.mpr c58
          have c58b1:(a1_2 != 0)=false:=bne_eq_false_iff_eq.mpr c58
          clear c58
          obtain rfl:=Option.some.inj H
          have hnb59:=NB535_534.out
          have hnc59:=NB534_535.out
          have hcz60_0:=bc0 BK535.out
          have hcz60_1:=bc1 BK535.out
          have hcz60_2:=bc2 BK535.out
          have hcz60_3:=bc3 BK535.out
          have hfz60_0:=ja BK535.out 0
          have hfz60_1:=ja BK535.out 1
          have hfz60_2:=ja BK535.out 2
          have hfz60_3:=ja BK535.out 3
          go_wp2_with (first |((with_reducible refine jd (f:=61) rfl ?_);refine gL (some 62) Try.func61 #[.int .i64 a1_1, .int .i64 0, .int .i64 10] ?_;(with_reducible refine (jM.calls a1_1 0 10 true _ A56.out).mono ?_);rintro e w' ⟨rfl,⟨nd,rfl⟩⟩;refine ⟨_,rfl,?_⟩))
          go_ret
          exact ⟨Y0,Y26⟩
         ·rw [if_neg c58] at H
          have c58b0:(a1_2 == 0)=false:=beq_eq_false_iff_ne.mpr c58
          have c58b1:(a1_2 != 0)=true:=bne_iff_ne.mpr c58
          obtain rfl:=Option.some.inj H
          have hnb61:=NB535_534.out
          have hnc61:=NB534_535.out
          have hcz62_0:=bc0 BK535.out
          have hcz62_1:=bc1 BK535.out
          have hcz62_2:=bc2 BK535.out
          have hcz62_3:=bc3 BK535.out
          have hfz62_0:=ja BK535.out 0
          have hfz62_1:=ja BK535.out 1
          have hfz62_2:=ja BK535.out 2
          have hfz62_3:=ja BK535.out 3
          go_wp2_with (first |((with_reducible refine jd (f:=61) rfl ?_);refine gL (some 62) Try.func61 #[.int .i64 a1_1, .int .i64 0, .int .i64 10] ?_;(with_reducible refine (jM.calls a1_1 0 10 true _ A56.out).mono ?_);rintro e w' ⟨rfl,⟨nd,rfl⟩⟩;refine ⟨_,rfl,?_⟩))
          go_ret
          exact ⟨Y0,Y26⟩
        ·replace c57:=Bool.eq_false_iff.mpr c57
         subst c57
         have H1:(some false)=some r:=by rw [if_neg (show ¬ (false=true) by decide)] at H;exact H
         clear H
         have H:=H1
         clear H1
         obtain rfl:=Option.some.inj H
         have hnb63:=NB535_534.out
         have hnc63:=NB534_535.out
         have hcz64_0:=bc0 BK535.out
         have hcz64_1:=bc1 BK535.out
         have hcz64_2:=bc2 BK535.out
         have hcz64_3:=bc3 BK535.out
         have hfz64_0:=ja BK535.out 0
         have hfz64_1:=ja BK535.out 1
         have hfz64_2:=ja BK535.out 2
         have hfz64_3:=ja BK535.out 3
         go_wp2_with (first |((with_reducible refine jd (f:=61) rfl ?_);refine gL (some 62) Try.func61 #[.int .i64 a1_1, .int .i64 0, .int .i64 10] ?_;(with_reducible refine (jM.calls a1_1 0 10 false _ A56.out).mono ?_);rintro e w' ⟨rfl,⟨nd,rfl⟩⟩;refine ⟨_,rfl,?_⟩))
         go_ret
         exact ⟨Y0,Y26⟩
def jdd.f (a0 : Int) : Option (Bool) := (jM.f a0 7 12).bind fun t544 => (some t544)
set_option maxHeartbeats 8000000 in
set_option maxRecDepth 100000 in
theorem jdd.calls (a0 : Int) (r : Bool) (w : World) (h : jdd.f a0 = some r) :
  Calls Try.prog 94 #[.int .i64 a0] w fun e w'=>e=.returned (.bool r)∧jrb w w':=by
 have H:((jM.f a0 7 12).bind fun t544=>(some t544))=some r:=h
 clear h
 replace H:=bzS H
 obtain ⟨t544,A20,H⟩:=H
 replace H:(some t544)=some r:=H
 have A2:=am A20
 clear A20
 obtain rfl:=Option.some.inj H
 go_enter Try.func94,Try.ntmps94
 go_wp2_with (first |((with_reducible refine jd (f:=61) rfl ?_);refine gL (some 4) Try.func61 #[.int .i64 a0, .int .i64 7, .int .i64 12] ?_;(with_reducible refine (jM.calls a0 7 12 t544 _ A2.out).mono ?_);rintro e w' ⟨rfl,⟨nd,rfl⟩⟩;refine ⟨_,rfl,?_⟩))
 go_ret
 exact ⟨sq,Y4⟩
def jAa.l0 : Nat → List (S36) → Int → Int → Option (Int)
 | 0,_,_,_=>none
 | k+1,x0,x1,x5=>if x5<(x0.length:Int) then (if 0≤x5 then (if 0≤x1 then (if x1<(x0.length:Int) then (if ((jc x0 x5).f0) > ((jc x0 x1).f0) then (jAa.l0 k x0 x1 (wrap64 (x5+1))) else (some x5)) else (none)) else (none)) else (none)) else (some x5)
def jAa.f (k : Nat) (l0 : List (S36)) (a1 : Int) : Option (Int) := jAa.l0 k l0 a1 (wrap64 (a1 + 1))
set_option maxHeartbeats 8000000 in
set_option maxRecDepth 100000 in
theorem jAa.calls (k : Nat) (A0 : Option Addr) (c0 : Nat) (l0 : List (S36)) (a1 : Int) (r : Int) (w : World) (hr0 : Kd.C k36 w A0 l0.length l0) (hc0 : l0.length ≤ c0) (h : jAa.f k l0 a1 = some r) :
  Calls Try.prog 100 #[.slice A0 l0.length c0, .int .i64 a1] w fun e w'=>e=.returned (.int .i64 r)∧jrb w w':=by
 have HR0:=am hr0
 have HC0:=am hc0
 clear hr0 hc0
 have H:(jAa.l0 k l0 a1 (wrap64 (a1+1)))=some r:=h
 clear h
 have H':=am H
 clear H
 go_enter Try.func100,Try.ntmps100
 go_wp2
 repeat (go_quiet (fail);try go_wp2)
 go_loopg [5] k (fun kq v5 w'=>∃ (x5_1:Int),v5=.int .i64 x5_1∧jl (jAa.l0 kq l0 a1 x5_1=some r)∧jl (kq≤k)∧jrb w w')
 case atStart=>exact ⟨(wrap64 (a1+1)),(sq),H',⟨Nat.le_refl _⟩,Y4⟩
 case round =>
  clear H'
  try clear c1
  try clear p2
  obtain ⟨x5_1,rfl,HA,HK1,⟨m1,rfl⟩⟩:=hrel
  cases gk with
  | zero=>exact absurd HA.out (by simp [jAa.l0])
  | succ k1 =>
   have H:=HA.out
   clear HA
   simp only [jAa.l0] at H
   by_cases c3:x5_1<(l0.length:Int)
   ·rw [if_pos c3] at H
    have c3b0:decide (x5_1<(l0.length:Int))=true:=dzT c3
    clear c3
    by_cases c4:0≤x5_1
    ·rw [if_pos c4] at H
     have c4b0:decide (0≤x5_1)=true:=dzT c4
     clear c4
     by_cases c5:0≤a1
     ·rw [if_pos c5] at H
      have c5b0:decide (0≤a1)=true:=dzT c5
      clear c5
      by_cases c6:a1<(l0.length:Int)
      ·rw [if_pos c6] at H
       have c6b0:decide (a1<(l0.length:Int))=true:=dzT c6
       clear c6
       by_cases c7:((jc l0 x5_1).f0) > ((jc l0 a1).f0)
       ·rw [if_pos c7] at H
        have c7b0:decide (((jc l0 a1).f0)<((jc l0 x5_1).f0))=true:=dzT c7
        clear c7
        have H':=am H
        clear H
        have p545:0≤(x5_1:Int):=ozD (uq)
        have q545:x5_1<(l0.length:Int):=ozD (uq)
        obtain ⟨ad545,e545,hx545_0,hx545_1,hx545_2,hx545_3⟩:=jpa HR0.out x5_1 p545 q545
        cases e545
        replace p545:=ezT p545
        replace q545:=ezT q545
        have p546:0≤(a1:Int):=ozD (uq)
        have q546:a1<(l0.length:Int):=ozD (uq)
        obtain ⟨ad546,e546,hx546_0,hx546_1,hx546_2,hx546_3⟩:=jpa HR0.out a1 p546 q546
        obtain rfl:ad545=ad546:=(by injection e546)
        replace p546:=ezT p546
        replace q546:=ezT q546
        go_wp2
        repeat (go_quiet (fail);try go_wp2)
        go_roundg k1
        case measure=>have:=HK1.out;omega
        case rel=>exact ⟨(wrap64 (x5_1+1)),(sq),H',⟨by have:=HK1.out;omega⟩,Y4⟩
       ·rw [if_neg c7] at H
        have c7b0:decide (((jc l0 a1).f0)<((jc l0 x5_1).f0))=false:=dzF c7
        clear c7
        obtain rfl:=Option.some.inj H
        have p545:0≤(x5_1:Int):=ozD (uq)
        have q545:x5_1<(l0.length:Int):=ozD (uq)
        obtain ⟨ad545,e545,hx545_0,hx545_1,hx545_2,hx545_3⟩:=jpa HR0.out x5_1 p545 q545
        cases e545
        replace p545:=ezT p545
        replace q545:=ezT q545
        have p546:0≤(a1:Int):=ozD (uq)
        have q546:a1<(l0.length:Int):=ozD (uq)
        obtain ⟨ad546,e546,hx546_0,hx546_1,hx546_2,hx546_3⟩:=jpa HR0.out a1 p546 q546
        obtain rfl:ad545=ad546:=(by injection e546)
        replace p546:=ezT p546
        replace q546:=ezT q546
        go_wp2
        repeat (go_quiet (fail);try go_wp2)
        go_ret
        exact ⟨sq,Y4⟩
      ·rw [if_neg c6] at H
       exact absurd H (by simp)
     ·rw [if_neg c5] at H
      exact absurd H (by simp)
    ·rw [if_neg c4] at H
     exact absurd H (by simp)
   ·rw [if_neg c3] at H
    have c3b0:decide (x5_1<(l0.length:Int))=false:=dzF c3
    clear c3
    obtain rfl:=Option.some.inj H
    go_wp2
    repeat (go_quiet (fail);try go_wp2)
    go_ret
    exact ⟨sq,Y4⟩
def jtb.f (k : Nat) (l0 : List (S36)) (a1 : Int) : Option (Int) := (jAa.f k l0 a1).bind fun t547 => (if t547 < (l0.length : Int) then (if 0 ≤ t547 then (if 0 ≤ a1 then (if a1 < (l0.length : Int) then (if ((jc l0 t547).f0) = ((jc l0 a1).f0) then (some t547) else (some (l0.length : Int))) else (none)) else (none)) else (none)) else (some (l0.length : Int)))
set_option maxHeartbeats 8000000 in
set_option maxRecDepth 100000 in
theorem jtb.calls (k : Nat) (A0 : Option Addr) (c0 : Nat) (l0 : List (S36)) (a1 : Int) (r : Int) (w : World) (hr0 : Kd.C k36 w A0 l0.length l0) (hc0 : l0.length ≤ c0) (h : jtb.f k l0 a1 = some r) :
  Calls Try.prog 84 #[.slice A0 l0.length c0, .int .i64 a1] w fun e w'=>e=.returned (.int .i64 r)∧jrb w w':=by
 have HR0:=am hr0
 have HC0:=am hc0
 clear hr0 hc0
 have H:((jAa.f k l0 a1).bind fun t547=>(if t547<(l0.length:Int) then (if 0≤t547 then (if 0≤a1 then (if a1<(l0.length:Int) then (if ((jc l0 t547).f0)=((jc l0 a1).f0) then (some t547) else (some (l0.length:Int))) else (none)) else (none)) else (none)) else (some (l0.length:Int))))=some r:=h
 clear h
 replace H:=bzS H
 obtain ⟨t547,A30,H⟩:=H
 replace H:(if t547<(l0.length:Int) then (if 0≤t547 then (if 0≤a1 then (if a1<(l0.length:Int) then (if ((jc l0 t547).f0)=((jc l0 a1).f0) then (some t547) else (some (l0.length:Int))) else (none)) else (none)) else (none)) else (some (l0.length:Int)))=some r:=H
 have A3:=am A30
 clear A30
 by_cases c4:t547<(l0.length:Int)
 ·rw [if_pos c4] at H
  have c4b0:decide (t547<(l0.length:Int))=true:=dzT c4
  clear c4
  by_cases c5:0≤t547
  ·rw [if_pos c5] at H
   have c5b0:decide (0≤t547)=true:=dzT c5
   clear c5
   by_cases c6:0≤a1
   ·rw [if_pos c6] at H
    have c6b0:decide (0≤a1)=true:=dzT c6
    clear c6
    by_cases c7:a1<(l0.length:Int)
    ·rw [if_pos c7] at H
     have c7b0:decide (a1<(l0.length:Int))=true:=dzT c7
     clear c7
     by_cases c8:((jc l0 t547).f0)=((jc l0 a1).f0)
     ·rw [if_pos c8] at H
      have c8b0:(((jc l0 t547).f0) == ((jc l0 a1).f0))=true:=beq_iff_eq.mpr c8
      have c8b1:(((jc l0 t547).f0) != ((jc l0 a1).f0))=false:=bne_eq_false_iff_eq.mpr c8
      clear c8
      obtain rfl:=Option.some.inj H
      go_enter Try.func84,Try.ntmps84
      go_wp2_with (first |(go_at_call 100;(with_reducible refine (jAa.calls k _ _ l0 a1 t547 _ ?side1 ?side2 A3.out).mono ?_);(case side1=>exact Y35);(case side2=>exact HC0.out);rintro e w' ⟨rfl,⟨nd,rfl⟩⟩;(try first | exact ⟨rfl,_,World.drewN_drewN _ _ _⟩ | exact ⟨rfl,_,Eq.trans (World.drewN_drewN _ _ _) (congrArg (World.drewN _) (Nat.add_assoc _ _ _))⟩);have p548:0≤(t547:Int):=ozD (uq);have q548:t547<(l0.length:Int):=ozD (uq);obtain ⟨ad548,e548,hx548_0,hx548_1,hx548_2,hx548_3⟩:=jpa HR0.out t547 p548 q548;cases e548;replace p548:=ezT p548;replace q548:=ezT q548;have p549:0≤(a1:Int):=ozD (uq);have q549:a1<(l0.length:Int):=ozD (uq);obtain ⟨ad549,e549,hx549_0,hx549_1,hx549_2,hx549_3⟩:=jpa HR0.out a1 p549 q549;obtain rfl:ad548=ad549:=(by injection e549);replace p549:=ezT p549;replace q549:=ezT q549))
      repeat (go_quiet (first |(go_at_call 100;(with_reducible refine (jAa.calls k _ _ l0 a1 t547 _ ?side1 ?side2 A3.out).mono ?_);(case side1=>exact Y35);(case side2=>exact HC0.out);rintro e w' ⟨rfl,⟨nd,rfl⟩⟩;(try first | exact ⟨rfl,_,World.drewN_drewN _ _ _⟩ | exact ⟨rfl,_,Eq.trans (World.drewN_drewN _ _ _) (congrArg (World.drewN _) (Nat.add_assoc _ _ _))⟩);have p548:0≤(t547:Int):=ozD (uq);have q548:t547<(l0.length:Int):=ozD (uq);obtain ⟨ad548,e548,hx548_0,hx548_1,hx548_2,hx548_3⟩:=jpa HR0.out t547 p548 q548;cases e548;replace p548:=ezT p548;replace q548:=ezT q548;have p549:0≤(a1:Int):=ozD (uq);have q549:a1<(l0.length:Int):=ozD (uq);obtain ⟨ad549,e549,hx549_0,hx549_1,hx549_2,hx549_3⟩:=jpa HR0.out a1 p549 q549;obtain rfl:ad548=ad549:=(by injection e549);replace p549:=ezT p549;replace q549:=ezT q549));try go_wp2_with (first |(go_at_call 100;(with_reducible refine (jAa.calls k _ _ l0 a1 t547 _ ?side1 ?side2 A3.out).mono ?_);(case side1=>exact Y35);(case side2=>exact HC0.out);rintro e w' ⟨rfl,⟨nd,rfl⟩⟩;(try first | exact ⟨rfl,_,World.drewN_drewN _ _ _⟩ | exact ⟨rfl,_,Eq.trans (World.drewN_drewN _ _ _) (congrArg (World.drewN _) (Nat.add_assoc _ _ _))⟩);have p548:0≤(t547:Int):=ozD (uq);have q548:t547<(l0.length:Int):=ozD (uq);obtain ⟨ad548,e548,hx548_0,hx548_1,hx548_2,hx548_3⟩:=jpa HR0.out t547 p548 q548;cases e548;replace p548:=ezT p548;replace q548:=ezT q548;have p549:0≤(a1:Int):=ozD (uq);have q549:a1<(l0.length:Int):=ozD (uq);obtain ⟨ad549,e549,hx549_0,hx549_1,hx549_2,hx549_3⟩:=jpa HR0.out a1 p549 q549;obtain rfl:ad548=ad549:=(by injection e549);replace p549:=ezT p549;replace q549:=ezT q549)))
      go_ret
      exact ⟨sq,Y4⟩
     ·rw [if_neg c8] at H
      have c8b0:(((jc l0 t547).f0) == ((jc l0 a1).f0))=false:=beq_eq_false_iff_ne.mpr c8
      have c8b1:(((jc l0 t547).f0) != ((jc l0 a1).f0))=true:=bne_iff_ne.mpr c8
      obtain rfl:=Option.some.inj H
      go_enter Try.func84,Try.ntmps84
      go_wp2_with (first |(go_at_call 100;(with_reducible refine (jAa.calls k _ _ l0 a1 t547 _ ?side1 ?side2 A3.out).mono ?_);(case side1=>exact Y35);(case side2=>exact HC0.out);rintro e w' ⟨rfl,⟨nd,rfl⟩⟩;(try first | exact ⟨rfl,_,World.drewN_drewN _ _ _⟩ | exact ⟨rfl,_,Eq.trans (World.drewN_drewN _ _ _) (congrArg (World.drewN _) (Nat.add_assoc _ _ _))⟩);have p548:0≤(t547:Int):=ozD (uq);have q548:t547<(l0.length:Int):=ozD (uq);obtain ⟨ad548,e548,hx548_0,hx548_1,hx548_2,hx548_3⟩:=jpa HR0.out t547 p548 q548;cases e548;replace p548:=ezT p548;replace q548:=ezT q548;have p549:0≤(a1:Int):=ozD (uq);have q549:a1<(l0.length:Int):=ozD (uq);obtain ⟨ad549,e549,hx549_0,hx549_1,hx549_2,hx549_3⟩:=jpa HR0.out a1 p549 q549;obtain rfl:ad548=ad549:=(by injection e549);replace p549:=ezT p549;replace q549:=ezT q549))
      repeat (go_quiet (first |(go_at_call 100;(with_reducible refine (jAa.calls k _ _ l0 a1 t547 _ ?side1 ?side2 A3.out).mono ?_);(case side1=>exact Y35);(case side2=>exact HC0.out);rintro e w' ⟨rfl,⟨nd,rfl⟩⟩;(try first | exact ⟨rfl,_,World.drewN_drewN _ _ _⟩ | exact ⟨rfl,_,Eq.trans (World.drewN_drewN _ _ _) (congrArg (World.drewN _) (Nat.add_assoc _ _ _))⟩);have p548:0≤(t547:Int):=ozD (uq);have q548:t547<(l0.length:Int):=ozD (uq);obtain ⟨ad548,e548,hx548_0,hx548_1,hx548_2,hx548_3⟩:=jpa HR0.out t547 p548 q548;cases e548;replace p548:=ezT p548;replace q548:=ezT q548;have p549:0≤(a1:Int):=ozD (uq);have q549:a1<(l0.length:Int):=ozD (uq);obtain ⟨ad549,e549,hx549_0,hx549_1,hx549_2,hx549_3⟩:=jpa HR0.out a1 p549 q549;obtain rfl:ad548=ad549:=(by injection e549);replace p549:=ezT p549;replace q549:=ezT q549));try go_wp2_with (first |(go_at_call 100;(with_reducible refine (jAa.calls k _ _ l0 a1 t547 _ ?side1 ?side2 A3.out).mono ?_);(case side1=>exact Y35);(case side2=>exact HC0.out);rintro e w' ⟨rfl,⟨nd,rfl⟩⟩;(try first | exact ⟨rfl,_,World.drewN_drewN _ _ _⟩ | exact ⟨rfl,_,Eq.trans (World.drewN_drewN _ _ _) (congrArg (World.drewN _) (Nat.add_assoc _ _ _))⟩);have p548:0≤(t547:Int):=ozD (uq);have q548:t547<(l0.length:Int):=ozD (uq);obtain ⟨ad548,e548,hx548_0,hx548_1,hx548_2,hx548_3⟩:=jpa HR0.out t547 p548 q548;cases e548;replace p548:=ezT p548;replace q548:=ezT q548;have p549:0≤(a1:Int):=ozD (uq);have q549:a1<(l0.length:Int):=ozD (uq);obtain ⟨ad549,e549,hx549_0,hx549_1,hx549_2,hx549_3⟩:=jpa HR0.out a1 p549 q549;obtain rfl:ad548=ad549:=(by injection e549);replace p549:=ezT p549;replace q549:=ezT q549)))
      go_ret
      exact ⟨sq,Y4⟩
    ·rw [if_neg c7] at H
     exact absurd H (by simp)
   ·rw [if_neg c6] at H
    exact absurd H (by simp)
  ·rw [if_neg c5] at H
   exact absurd H (by simp)
 ·rw [if_neg c4] at H
  have c4b0:decide (t547<(l0.length:Int))=false:=dzF c4
  clear c4
  obtain rfl:=Option.some.inj H
  go_enter Try.func84,Try.ntmps84
  go_wp2_with (first |(go_at_call 100;(with_reducible refine (jAa.calls k _ _ l0 a1 t547 _ ?side1 ?side2 A3.out).mono ?_);(case side1=>exact Y35);(case side2=>exact HC0.out);rintro e w' ⟨rfl,⟨nd,rfl⟩⟩;(try first | exact ⟨rfl,_,World.drewN_drewN _ _ _⟩ | exact ⟨rfl,_,Eq.trans (World.drewN_drewN _ _ _) (congrArg (World.drewN _) (Nat.add_assoc _ _ _))⟩)))
  repeat (go_quiet (first |(go_at_call 100;(with_reducible refine (jAa.calls k _ _ l0 a1 t547 _ ?side1 ?side2 A3.out).mono ?_);(case side1=>exact Y35);(case side2=>exact HC0.out);rintro e w' ⟨rfl,⟨nd,rfl⟩⟩;(try first | exact ⟨rfl,_,World.drewN_drewN _ _ _⟩ | exact ⟨rfl,_,Eq.trans (World.drewN_drewN _ _ _) (congrArg (World.drewN _) (Nat.add_assoc _ _ _))⟩)));try go_wp2_with (first |(go_at_call 100;(with_reducible refine (jAa.calls k _ _ l0 a1 t547 _ ?side1 ?side2 A3.out).mono ?_);(case side1=>exact Y35);(case side2=>exact HC0.out);rintro e w' ⟨rfl,⟨nd,rfl⟩⟩;(try first | exact ⟨rfl,_,World.drewN_drewN _ _ _⟩ | exact ⟨rfl,_,Eq.trans (World.drewN_drewN _ _ _) (congrArg (World.drewN _) (Nat.add_assoc _ _ _))⟩))))
  go_ret
  exact ⟨sq,Y4⟩
end Go.Proofs.Ytkedkinojeoeaaa.P
end
