/- One part of the proofs on this program: functions of the program as plain functions, that the code comes to them, and facts on them. -/
import Derived.Test.YtkedkinojeoeaaaYAll1
import Derived.Test.YtkedkinojeoeaaaYAll4
import Derived.Test.YtkedkinojeoeaaaYAll5
import Derived.Test.YtkedkinojeoeaaaYWAuto
section
namespace Go.Proofs.Ytkedkinojeoeaaa.P
open Go.RowKit Go.Proofs.YtkedkinojeoeaaaW.PrintWords Go.Proofs.YtkedkinojeoeaaaW.PrintLast Go.Proofs.YtkedkinojeoeaaaW.PrintMore
attribute [local go_sem] jta jra jBa jAa jca jba jsa jqa jl
set_option linter.unusedVariables false
set_option linter.unusedSimpArgs false
def inB (a lo hi : Int) : Bool := decide (lo ≤ a) && decide (a ≤ hi)
theorem jZb (a lo hi : Int) : jP.f a lo hi = some (inB a lo hi) := by
 unfold jP.f inB
 by_cases h:a≥lo
 ·rw [if_pos h];simp [show lo≤a from h]
 ·rw [if_neg h];simp [show ¬ lo≤a from h]
theorem jMc (a b c d : Int) : jdb.f a b c d = some (inB b 7 12) := by
 unfold jdb.f
 rw [jZb];rfl
def VF (W : World) (B1 BL BT : Nat) (a x : S36) (tv : Value) : Prop :=
 W.heap[B1]?=some (.cells #[.int .i64 a.f0, .int .i64 a.f1, .int .i64 a.f2, .int .i64 a.f3] 36 (0,0))∧W.heap[BL]?=some (.cells #[.int .i64 x.f0, .int .i64 x.f1, .int .i64 x.f2, .int .i64 x.f3] 36 (0,0))∧W.cell? ⟨BT,0,none⟩=some tv
theorem VF.below {W W' : World} {B1 BL BT : Nat} {a x : S36} {tv : Value} (h : VF W B1 BL BT a x tv) (hb : Below W.heap.size W W') : VF W' B1 BL BT a x tv :=
 ⟨(hb.block _ (jDb h.1)).trans h.1,(hb.block _ (jDb h.2.1)).trans h.2.1,jia hb h.2.2⟩
theorem VF.cells {W : World} {B1 BL BT : Nat} {a x : S36} {tv : Value} (h : VF W B1 BL BT a x tv) :
  W.cell? ⟨B1,0,none⟩=some (.int .i64 a.f0)∧W.cell? ⟨B1,1,none⟩=some (.int .i64 a.f1)∧W.cell? ⟨B1,2,none⟩=some (.int .i64 a.f2)∧W.cell? ⟨B1,3,none⟩=some (.int .i64 a.f3) ∧
  W.cell? ⟨BL,0,none⟩=some (.int .i64 x.f0)∧W.cell? ⟨BL,1,none⟩=some (.int .i64 x.f1)∧W.cell? ⟨BL,2,none⟩=some (.int .i64 x.f2)∧W.cell? ⟨BL,3,none⟩=some (.int .i64 x.f3)∧W.cell? ⟨BT,0,none⟩=some tv :=
 ⟨(jF h.1 0).trans rfl,(jF h.1 1).trans rfl,(jF h.1 2).trans rfl,(jF h.1 3).trans rfl,(jF h.2.1 0).trans rfl,(jF h.2.1 1).trans rfl,(jF h.2.1 2).trans rfl,(jF h.2.1 3).trans rfl,h.2.2⟩
theorem VF.frozen {W : World} {B1 BL BT : Nat} {a x : S36} {tv : Value} (h : VF W B1 BL BT a x tv) : W.frozen? ⟨B1, 0, none⟩ = false ∧ W.frozen? ⟨B1, 1, none⟩ = false ∧ W.frozen? ⟨B1, 2, none⟩ = false ∧ W.frozen? ⟨B1, 3, none⟩ = false :=
 ⟨ja h.1 0,ja h.1 1,ja h.1 2,ja h.1 3⟩
theorem four_stored {W : World} {B T : Nat} {a b c d a' b' c' d' : Value} (h : W.heap[B]? = some (.cells #[a, b, c, d] T (0, 0))) :
  ((((W.setCell ⟨B,0,none⟩ a').setCell ⟨B,1,none⟩ b').setCell ⟨B,2,none⟩ c').setCell ⟨B,3,none⟩ d').heap[B]?=some (.cells #[a',b',c',d'] T (0,0)):=by
 have h0:=blk_set h 0 a'
 have h1:=blk_set h0 1 b'
 have h2:=blk_set h1 2 c'
 have h3:=blk_set h2 3 d'
 simpa using h3
theorem four_below {W w : World} {base B : Nat} {a' b' c' d' : Value} (h : Below base w W) (hB : base ≤ B) :
  Below base w ((((W.setCell ⟨B,0,none⟩ a').setCell ⟨B,1,none⟩ b').setCell ⟨B,2,none⟩ c').setCell ⟨B,3,none⟩ d') :=
 (((h.setCell (p:=⟨B,0,none⟩) hB _).setCell (p:=⟨B,1,none⟩) hB _).setCell (p:=⟨B,2,none⟩) hB _).setCell (p:=⟨B,3,none⟩) hB _
theorem four_far {W : World} {B C : Nat} {a' b' c' d' v : Value} (h : W.cell? ⟨C, 0, none⟩ = some v) (hne : B ≠ C) :
  ((((W.setCell ⟨B,0,none⟩ a').setCell ⟨B,1,none⟩ b').setCell ⟨B,2,none⟩ c').setCell ⟨B,3,none⟩ d').cell? ⟨C,0,none⟩=some v:=by
 have e:∀ j,(⟨B,j,none⟩:Addr)≠⟨C,0,none⟩:=fun j hj=>hne (by injection hj)
 rw [World.cell?_setCell_other (h:=e 3),World.cell?_setCell_other (h:=e 2),World.cell?_setCell_other (h:=e 1),World.cell?_setCell_other (h:=e 0)]
 exact h
def jC.bad (x last : S36) : Bool := !inB x.f0 0 5 || (inB last.f1 7 12 && decide (x.f0 ≠ last.f0 + 1)) || (!inB last.f1 7 12 && decide (last.f0 < x.f0))
def jC.go (k : Nat) (t : List S75) : List S36 → S36 → Option (Option S36)
 | [],last=>some (some last)
 | x :: xs,last=>(jFa.f k x.f0 x.f1 x.f2 x.f3 t).bind fun v=>if v=false then some none else if jC.bad x last then some none else jC.go k t xs x
def jC.f (k : Nat) (l0_0 : List S75) (l1 : List S36) : Option Bool := (jG.f k l0_0).bind fun v =>
 if v=false then some false else if 24<l1.length then some false else
 (jC.go k l0_0 l1 ⟨-1,7,0,0⟩).bind fun q=>match q with
 | none=>some false
 | some last=>if l1.length=0 then jo.f k l1 0 (l1.length:Int) false else if inB last.f1 7 12 then some false else jo.f k l1 0 (l1.length:Int) false
theorem jC.step {k : Nat} {t : List S75} {p : List S36} {n : Nat} {last : S36} {q : Option S36} (hn : n < p.length) (h : jC.go k t (p.drop n) last = some q) :
  ∃ v,jFa.f k p[n].f0 p[n].f1 p[n].f2 p[n].f3 t=some v∧(if v=false then some none else if jC.bad p[n] last then some none else jC.go k t (p.drop (n+1)) p[n])=some q:=by
 rw [List.drop_eq_getElem_cons hn] at h
 exact bzS h
set_option maxHeartbeats 8000000 in
set_option maxRecDepth 100000 in
theorem jC.calls (k : Nat) (A0_0 : Option Addr) (c0_0 : Nat) (l0_0 : List S75) (A1 : Option Addr) (c1 : Nat) (l1 : List S36) (r : Bool) (w : World) (hr0_0 : Kd.C k75 w A0_0 l0_0.length l0_0) (hc0_0 : l0_0.length ≤ c0_0) (hr1 : Kd.C k36 w A1 l1.length l1) (hc1 : l1.length ≤ c1) (h : jC.f k l0_0 l1 = some r) :
  Calls Try.prog 12 #[.agg #[.slice A0_0 l0_0.length c0_0], .slice A1 l1.length c1] w fun e w'=>e=.returned (.bool r)∧Below w.heap.size w w':=by
 have hu25:=Try.underlying25
 have hu36:=Try.underlying36
 have hm:l1.length≤9223372036854775807:=Kd.C_max hr1
 obtain ⟨v,hv,h⟩:=bzS h
 have HV:=am (fun W (hb:Below w.heap.size w W)=>jG.calls k A0_0 c0_0 l0_0 v W (Kd.jT hr0_0 hb) hc0_0 hv)
 have HR0:=am hr0_0
 have HR1:=am hr1
 clear hv hr0_0 hr1
 cases v with
 | false =>
  obtain rfl:false=r:=by simpa using h
  clear h
  go_enter Try.func12,Try.ntmps12
  go_wp2_with (go_at_call 36;refine (HV.out _ ((Below.refl _ _).alloc (Nat.le_refl _) _)).mono ?_;rintro e w' ⟨rfl,hb2⟩)
  go_ret
  exact ⟨rfl,((Below.refl _ _).alloc (Nat.le_refl _) _).trans (hb2.mono (by simp))⟩
 | true =>
  simp only [Bool.true_eq_false,if_false] at h
  by_cases h24:24<l1.length
  ·rw [if_pos h24] at h
   obtain rfl:false=r:=by simpa using h
   have h24b:decide (24<l1.length)=true:=dzT h24
   clear h
   go_enter Try.func12,Try.ntmps12
   go_wp2_with (go_at_call 36;refine (HV.out _ ((Below.refl _ _).alloc (Nat.le_refl _) _)).mono ?_;rintro e w' ⟨rfl,hb2⟩)
   go_ret
   exact ⟨rfl,((Below.refl _ _).alloc (Nat.le_refl _) _).trans (hb2.mono (by simp))⟩
  ·rw [if_neg h24] at h
   have h24b:decide (24<l1.length)=false:=dzF h24
   obtain ⟨q,hq,h⟩:=bzS h
   have H0:=am hq
   have HZ:=am h
   clear h hq
   go_enter Try.func12,Try.ntmps12
   go_wp2_with (go_at_call 36;refine (HV.out _ ((Below.refl _ _).alloc (Nat.le_refl _) _)).mono ?_;rintro e w2 ⟨rfl,hb2⟩;have HB2:=am (((Below.refl w.heap.size w).alloc (Nat.le_refl _) (.cells #[.slice A0_0 l0_0.length c0_0] 25)).trans (hb2.mono (by simp)));have hs2:w.heap.size<w2.heap.size:=Nat.lt_of_lt_of_le (by simp) hb2.size;have ht2:=jia hb2 (show (w.alloc (.cells #[.slice A0_0 l0_0.length c0_0] 25)).cell? ⟨w.heap.size,0,none⟩=some (.slice A0_0 l0_0.length c0_0) by simp);clear hb2)
   obtain ⟨B1,hB1⟩:∃ B1,B1=w2.heap.size:=⟨_,rfl⟩
   have HBK:=am (show (w2.alloc (.cells #[.int .i64 (-1), .int .i64 7, .int .i64 0, .int .i64 0] 36)).heap[B1]?=some (.cells #[.int .i64 (-1), .int .i64 7, .int .i64 0, .int .i64 0] 36 (0,0)) by rw [hB1];exact heap_alloc_new w2 _)
   have hBl:=am (HB2.out.alloc (Nat.le_of_lt hs2) (.cells #[.int .i64 (-1), .int .i64 7, .int .i64 0, .int .i64 0] 36))
   have hT:=am (show (w2.alloc (.cells #[.int .i64 (-1), .int .i64 7, .int .i64 0, .int .i64 0] 36)).cell? ⟨w.heap.size,0,none⟩=some (.slice A0_0 l0_0.length c0_0) by simp [World.cell?_alloc_old,Nat.ne_of_lt hs2,ht2])
   rw [← hB1]
   have hlt1:w.heap.size<B1:=by omega
   clear hB1
   generalize w2.alloc (.cells #[.int .i64 (-1), .int .i64 7, .int .i64 0, .int .i64 0] 36)=w3 at HBK hBl hT ⊢
   clear ht2 hs2 HB2 HV
   go_loopw [19] (fun i19 wr=>∃ (n:Nat) (last:S36),i19=.int .i64 n∧n≤l1.length∧-1≤last.f0∧last.f0≤5∧jq (jC.go k l0_0 (l1.drop n) last=some q)∧jq (wr.heap[B1]?=some (.cells #[.int .i64 last.f0, .int .i64 last.f1, .int .i64 last.f2, .int .i64 last.f3] 36 (0,0)))∧jq (wr.cell? ⟨w.heap.size,0,none⟩=some (.slice A0_0 l0_0.length c0_0))∧jq (Below w.heap.size w wr)) (fun i19 _=>l1.length - (intOf i19).toNat)
   case atStart=>exact ⟨0,⟨-1,7,0,0⟩,rfl,Nat.zero_le _,by simp,by simp,H0,HBK,hT,hBl⟩
   case round =>
    clear H0 HBK hT hBl
    obtain ⟨n,last,rfl,hn,hlo,hhi,HA,HBK,HT,HB⟩:=hrel
    have ht2:=HT.out
    have g0:wr.cell? ⟨B1,0,none⟩=some (.int .i64 last.f0):=(jF HBK.out 0).trans rfl
    have g1:wr.cell? ⟨B1,1,none⟩=some (.int .i64 last.f1):=(jF HBK.out 1).trans rfl
    have g2:wr.cell? ⟨B1,2,none⟩=some (.int .i64 last.f2):=(jF HBK.out 2).trans rfl
    have g3:wr.cell? ⟨B1,3,none⟩=some (.int .i64 last.f3):=(jF HBK.out 3).trans rfl
    have hBw:B1<wr.heap.size:=jDb HBK.out
    have hne:B1≠wr.heap.size:=by omega
    have hne2:w.heap.size≠wr.heap.size:=by omega
    have hTw:w.heap.size<wr.heap.size:=by omega
    by_cases hlt:n<l1.length
    ·obtain ⟨v,hv,hs⟩:=jC.step hlt HA.out
     clear HA
     obtain ⟨ad,rfl,hx0,hx1,hx2,hx3⟩:=jna HR1.out (n:Int) (by omega) (by omega)
     have hrd:jc l1 (n:Int)=l1[n]:=by simp [jc,List.getD_eq_getElem?_getD,hlt]
     rw [hrd,Int.toNat_natCast] at hx0 hx1 hx2 hx3
     clear hrd
     generalize l1[n]=x at hv hs hx0 hx1 hx2 hx3
     have hb:=HB.out
     replace hx0:=jia hb hx0
     replace hx1:=jia hb hx1
     replace hx2:=jia hb hx2
     replace hx3:=jia hb hx3
     clear hb
     have HG:=am (fun W (hb:Below w.heap.size w W)=>jFa.calls k x.f0 x.f1 x.f2 x.f3 A0_0 c0_0 l0_0 v W (Kd.jT HR0.out hb) hc0_0 hv)
     clear hv
     cases v with
     | false =>
      obtain rfl:none=q:=by simpa using hs
      obtain rfl:false=r:=by simpa using HZ.out
      clear hs HZ
      go_wp2_with (go_at_call 37;refine (HG.out _ (HB.out.alloc HB.out.size _)).mono ?_;rintro e w4 ⟨rfl,hb4⟩)
      go_ret
      exact ⟨rfl,jda (HB.out.alloc HB.out.size _) (by simp;have:=HB.out.size;omega) hb4⟩
     | true =>
      simp only [Bool.true_eq_false,if_false] at hs
      have V0:=am (show VF (wr.alloc (.cells #[.int .i64 x.f0, .int .i64 x.f1, .int .i64 x.f2, .int .i64 x.f3] 36)) B1 wr.heap.size w.heap.size last x (.slice A0_0 l0_0.length c0_0) from ⟨(heap_alloc_old wr _ hBw).trans HBK.out,heap_alloc_new wr _,by rw [World.cell?_alloc_old _ _ _ hne2];exact HT.out⟩)
      have HO:=am (fun W=>jdb.calls last.f0 last.f1 last.f2 last.f3 _ W (jMc _ _ _ _))
      clear g0 g1 g2 g3
      have tok1:True:=trivial
      have HS:=am hs
      clear hs
      cases h5:inB x.f0 0 5 with
      | false =>
       have H5:=am h5
       obtain rfl:none=q:=by simpa [jC.bad,h5] using HS.out
       obtain rfl:false=r:=by simpa using HZ.out
       clear HS HZ h5
       go_wp2_with (first |(go_at_call 37;refine (HG.out _ (HB.out.alloc HB.out.size _)).mono ?_;rintro e w4 ⟨rfl,hb4⟩;have V4:=am (VF.below V0.out hb4);have HB4:=am (jda (HB.out.alloc HB.out.size _) (by simp;have:=HB.out.size;omega) hb4);clear hb4;obtain ⟨g0,g1,g2,g3,e0,e1,e2,e3,ht4⟩:=VF.cells V4.out) |(go_at_call 38;refine (jP.calls _ _ _ _ _ (jZb _ _ _)).mono ?_;rintro e w5 ⟨rfl,⟨nd,rfl⟩⟩;rw [H5.out]))
       go_ret
       exact ⟨rfl,jm HB4.out _⟩
      | true =>
       have H5:=am h5
       have hx5:0≤x.f0∧x.f0≤5:=by simpa [inB] using h5
       cases ho:inB last.f1 7 12 with
       | true =>
        rw [ho] at HO
        by_cases hd:x.f0=last.f0+1
        ·have hb1:(x.f0 != last.f0+1)=false:=by simpa using hd
         have hbad:jC.bad x last=false:=by unfold jC.bad;rw [h5,ho];simp [hd]
         have HN:=am (by have:=HS.out;rw [hbad] at this;simpa using this:jC.go k l0_0 (l1.drop (n+1)) x=some q)
         clear hbad
         clear HS hd h5 ho
         go_wp2_with (first |(go_at_call 37;refine (HG.out _ (HB.out.alloc HB.out.size _)).mono ?_;rintro e w4 ⟨rfl,hb4⟩;have V4:=am (VF.below V0.out hb4);have HB4:=am (jda (HB.out.alloc HB.out.size _) (by simp;have:=HB.out.size;omega) hb4);clear hb4;obtain ⟨g0,g1,g2,g3,e0,e1,e2,e3,ht4⟩:=VF.cells V4.out) |(go_at_call 38;refine (jP.calls _ _ _ _ _ (jZb _ _ _)).mono ?_;rintro e w5 ⟨rfl,⟨nd,rfl⟩⟩;rw [H5.out]) |(go_at_call 39;have tk1:=tok1;clear tok1;refine (HO.out _).mono ?_;rintro e w6 ⟨rfl,hb6⟩;have V6:=am (VF.below (W:=World.drewN _ _) V4.out hb6);have HB6:=am (jda (w1:=World.drewN _ _) (show Below w.heap.size w (World.drewN _ _) from ⟨HB4.out.os,HB4.out.tape,HB4.out.output,HB4.out.size,HB4.out.block⟩) HB4.out.size hb6);clear hb6 g0 g1 g2 g3 e0 e1 e2 e3 ht4;obtain ⟨g0,g1,g2,g3,e0,e1,e2,e3,ht4⟩:=VF.cells V6.out) |(go_at_call 39;refine (HO.out _).mono ?_;rintro e w7 ⟨rfl,hb7⟩;have V7:=am (VF.below V6.out hb7);have HB7:=am (jda HB6.out HB6.out.size hb7);clear hb7 g0 g1 g2 g3 e0 e1 e2 e3 ht4;obtain ⟨g0,g1,g2,g3,e0,e1,e2,e3,ht4⟩:=VF.cells V7.out;obtain ⟨f0,f1,f2,f3⟩:=VF.frozen V7.out))
         go_roundw
         case rel=>exact ⟨n+1,x,by go_num,hlt,by omega,by omega,HN,⟨four_stored V7.out.1⟩,⟨four_far V7.out.2.2 (by omega)⟩,⟨four_below HB7.out (by omega)⟩⟩
         case measure=>simp [intOf];omega
        ·have hb1:(x.f0 != last.f0+1)=true:=by simpa using hd
         obtain rfl:none=q:=by simpa [jC.bad,h5,ho,hd] using HS.out
         obtain rfl:false=r:=by simpa using HZ.out
         clear HS HZ hd h5 ho
         go_wp2_with (first |(go_at_call 37;refine (HG.out _ (HB.out.alloc HB.out.size _)).mono ?_;rintro e w4 ⟨rfl,hb4⟩;have V4:=am (VF.below V0.out hb4);have HB4:=am (jda (HB.out.alloc HB.out.size _) (by simp;have:=HB.out.size;omega) hb4);clear hb4;obtain ⟨g0,g1,g2,g3,e0,e1,e2,e3,ht4⟩:=VF.cells V4.out) |(go_at_call 38;refine (jP.calls _ _ _ _ _ (jZb _ _ _)).mono ?_;rintro e w5 ⟨rfl,⟨nd,rfl⟩⟩;rw [H5.out]) |(go_at_call 39;have tk1:=tok1;clear tok1;refine (HO.out _).mono ?_;rintro e w6 ⟨rfl,hb6⟩;have V6:=am (VF.below (W:=World.drewN _ _) V4.out hb6);have HB6:=am (jda (w1:=World.drewN _ _) (show Below w.heap.size w (World.drewN _ _) from ⟨HB4.out.os,HB4.out.tape,HB4.out.output,HB4.out.size,HB4.out.block⟩) HB4.out.size hb6);clear hb6 g0 g1 g2 g3 e0 e1 e2 e3 ht4;obtain ⟨g0,g1,g2,g3,e0,e1,e2,e3,ht4⟩:=VF.cells V6.out))
         go_ret
         exact ⟨rfl,HB6.out⟩
       | false =>
        rw [ho] at HO
        by_cases hd:last.f0<x.f0
        ·have hb1:decide (last.f0<x.f0)=true:=dzT hd
         have hbad:jC.bad x last=true:=by unfold jC.bad;rw [h5,ho];simp [hd]
         obtain rfl:none=q:=by have:=HS.out;rw [hbad] at this;simpa using this
         obtain rfl:false=r:=by simpa using HZ.out
         clear HS HZ hd h5 ho hbad
         go_wp2_with (first |(go_at_call 37;refine (HG.out _ (HB.out.alloc HB.out.size _)).mono ?_;rintro e w4 ⟨rfl,hb4⟩;have V4:=am (VF.below V0.out hb4);have HB4:=am (jda (HB.out.alloc HB.out.size _) (by simp;have:=HB.out.size;omega) hb4);clear hb4;obtain ⟨g0,g1,g2,g3,e0,e1,e2,e3,ht4⟩:=VF.cells V4.out) |(go_at_call 38;refine (jP.calls _ _ _ _ _ (jZb _ _ _)).mono ?_;rintro e w5 ⟨rfl,⟨nd,rfl⟩⟩;rw [H5.out]) |(go_at_call 39;have tk1:=tok1;clear tok1;refine (HO.out _).mono ?_;rintro e w6 ⟨rfl,hb6⟩;have V6:=am (VF.below (W:=World.drewN _ _) V4.out hb6);have HB6:=am (jda (w1:=World.drewN _ _) (show Below w.heap.size w (World.drewN _ _) from ⟨HB4.out.os,HB4.out.tape,HB4.out.output,HB4.out.size,HB4.out.block⟩) HB4.out.size hb6);clear hb6 g0 g1 g2 g3 e0 e1 e2 e3 ht4;obtain ⟨g0,g1,g2,g3,e0,e1,e2,e3,ht4⟩:=VF.cells V6.out) |(go_at_call 39;refine (HO.out _).mono ?_;rintro e w7 ⟨rfl,hb7⟩;have V7:=am (VF.below V6.out hb7);have HB7:=am (jda HB6.out HB6.out.size hb7);clear hb7 g0 g1 g2 g3 e0 e1 e2 e3 ht4;obtain ⟨g0,g1,g2,g3,e0,e1,e2,e3,ht4⟩:=VF.cells V7.out;obtain ⟨f0,f1,f2,f3⟩:=VF.frozen V7.out))
         go_ret
         exact ⟨rfl,HB7.out⟩
        ·have hb1:decide (last.f0<x.f0)=false:=dzF hd
         have hbad:jC.bad x last=false:=by unfold jC.bad;rw [h5,ho];simp [hd]
         have HN:=am (by have:=HS.out;rw [hbad] at this;simpa using this:jC.go k l0_0 (l1.drop (n+1)) x=some q)
         clear hbad HS hd h5 ho
         go_wp2_with (first |(go_at_call 37;refine (HG.out _ (HB.out.alloc HB.out.size _)).mono ?_;rintro e w4 ⟨rfl,hb4⟩;have V4:=am (VF.below V0.out hb4);have HB4:=am (jda (HB.out.alloc HB.out.size _) (by simp;have:=HB.out.size;omega) hb4);clear hb4;obtain ⟨g0,g1,g2,g3,e0,e1,e2,e3,ht4⟩:=VF.cells V4.out) |(go_at_call 38;refine (jP.calls _ _ _ _ _ (jZb _ _ _)).mono ?_;rintro e w5 ⟨rfl,⟨nd,rfl⟩⟩;rw [H5.out]) |(go_at_call 39;have tk1:=tok1;clear tok1;refine (HO.out _).mono ?_;rintro e w6 ⟨rfl,hb6⟩;have V6:=am (VF.below (W:=World.drewN _ _) V4.out hb6);have HB6:=am (jda (w1:=World.drewN _ _) (show Below w.heap.size w (World.drewN _ _) from ⟨HB4.out.os,HB4.out.tape,HB4.out.output,HB4.out.size,HB4.out.block⟩) HB4.out.size hb6);clear hb6 g0 g1 g2 g3 e0 e1 e2 e3 ht4;obtain ⟨g0,g1,g2,g3,e0,e1,e2,e3,ht4⟩:=VF.cells V6.out) |(go_at_call 39;refine (HO.out _).mono ?_;rintro e w7 ⟨rfl,hb7⟩;have V7:=am (VF.below V6.out hb7);have HB7:=am (jda HB6.out HB6.out.size hb7);clear hb7 g0 g1 g2 g3 e0 e1 e2 e3 ht4;obtain ⟨g0,g1,g2,g3,e0,e1,e2,e3,ht4⟩:=VF.cells V7.out;obtain ⟨f0,f1,f2,f3⟩:=VF.frozen V7.out))
         go_roundw
         case rel=>exact ⟨n+1,x,by go_num,hlt,by omega,by omega,HN,⟨four_stored V7.out.1⟩,⟨four_far V7.out.2.2 (by omega)⟩,⟨four_below HB7.out (by omega)⟩⟩
         case measure=>simp [intOf];omega
    ·have hgo:=HA.out
     rw [List.drop_eq_nil_of_le (by omega)] at hgo
     obtain rfl:some last=q:=by simpa [jC.go] using hgo
     clear hgo HA
     have HY:=am HZ.out
     clear HZ
     by_cases h0:l1.length=0
     ·have hy:=HY.out
      simp only [if_pos h0] at hy
      have HQ:=am (fun W (hb:Below w.heap.size w W)=>jo.calls k A1 c1 l1 0 (l1.length:Int) false r W (Kd.jT HR1.out hb) hc1 hy)
      have HBX:=HB.out
      clear hy HY
      have hz1:((l1.length:Int) == 0)=true:=by simp [h0]
      have hz2:(l1.length == 0)=true:=by simp [h0]
      clear h0
      go_wp2_with (first |(go_at_call 40;refine (HQ.out _ HBX).mono ?_;rintro e w9 ⟨rfl,hb9⟩;have HB9:=am (jda HBX HBX.size hb9)))
      go_ret
      exact ⟨rfl,HB9.out⟩
     ·have hz1:((l1.length:Int) == 0)=false:=by simpa using h0
      have hz2:(l1.length == 0)=false:=by simpa using h0
      have HO:=am (fun W=>jdb.calls last.f0 last.f1 last.f2 last.f3 _ W (jMc _ _ _ _))
      have hy:=HY.out
      simp only [if_neg h0] at hy
      clear HY
      cases ho:inB last.f1 7 12 with
      | true =>
       rw [ho] at HO hy
       obtain rfl:false=r:=by simpa using hy
       clear hy ho h0
       go_wp2_with (first |(go_at_call 39;refine (HO.out _).mono ?_;rintro e w6 ⟨rfl,hb6⟩;have HBX:=jda HB.out HB.out.size hb6;clear hb6))
       go_ret
       exact ⟨rfl,HBX⟩
      | false =>
       rw [ho] at HO hy
       simp only [Bool.false_eq_true,if_false] at hy
       have HQ:=am (fun W (hb:Below w.heap.size w W)=>jo.calls k A1 c1 l1 0 (l1.length:Int) false r W (Kd.jT HR1.out hb) hc1 hy)
       clear hy ho h0
       go_wp2_with (first |(go_at_call 39;refine (HO.out _).mono ?_;rintro e w6 ⟨rfl,hb6⟩;have HBX:=jda HB.out HB.out.size hb6;clear hb6) |(go_at_call 40;refine (HQ.out _ HBX).mono ?_;rintro e w9 ⟨rfl,hb9⟩;have HB9:=am (jda HBX HBX.size hb9)))
       go_ret
       exact ⟨rfl,HB9.out⟩
def jVb.f (k : Nat) (s0_0 : List Int) (s0_1 : Int) (l1_0 : List (S75)) : Option (Int × Int) := (jg.f k s0_0 s0_1 16).bind fun bt759 => (if bt759.1 = 0 then ((jh.f k s0_0 bt759.2 (([(-1), (l1_0.length : Int), 8] : List Int))).bind fun bt764 => (some (bt764.1, bt764.2))) else ((jg.f k s0_0 bt759.2 (l1_0.length : Int)).bind fun bt766 => (some (bt766.1, bt766.2))))
set_option maxHeartbeats 8000000 in
set_option maxRecDepth 100000 in
theorem jVb.calls (k : Nat) (g : Nat) (s0_0 : List Int) (s0_1 : Int) (A1_0 : Option Addr) (c1_0 : Nat) (l1_0 : List (S75)) (r1 : Int) (r2 : Int) (w0 w : World) (hI : jf w0 w g s0_0 s0_1) (hB : Below w0.heap.size w0 w) (hr1_0 : ∀ W_, jb w W_ g none → Kd.C k75 W_ A1_0 l1_0.length l1_0) (hc1_0 : l1_0.length ≤ c1_0) (h : jVb.f k s0_0 s0_1 l1_0 = some (r1, r2)) :
  Calls Try.prog 47 #[.pointer (some ⟨g,0,none⟩), .agg #[.slice A1_0 l1_0.length c1_0]] w fun e w'=>e=.returned (.int .i64 r1)∧jf w0 w' g s0_0 r2∧Below w0.heap.size w0 w'∧jb w w' g none:=by
 have hu25:=Try.underlying25
 have HR1_0:=am hr1_0
 have HC1_0:=am hc1_0
 clear hr1_0 hc1_0
 have HI0:=am hI
 have HK:=am (jb.refl w g none)
 have HL:=am hB.size
 clear hI
 have HW0:=am hB.size
 have HB:=am hB
 clear hB
 have H:((jg.f k s0_0 s0_1 16).bind fun bt759=>(if bt759.1=0 then ((jh.f k s0_0 bt759.2 (([(-1),(l1_0.length:Int),8]:List Int))).bind fun bt764=>(some (bt764.1,bt764.2))) else ((jg.f k s0_0 bt759.2 (l1_0.length:Int)).bind fun bt766=>(some (bt766.1,bt766.2)))))=some (r1,r2):=h
 clear h
 replace H:=bzS H
 obtain ⟨⟨t759,t760⟩,A30,H⟩:=H
 replace H:(if t759=0 then ((jh.f k s0_0 t760 (([(-1),(l1_0.length:Int),8]:List Int))).bind fun bt764=>(some (bt764.1,bt764.2))) else ((jg.f k s0_0 t760 (l1_0.length:Int)).bind fun bt766=>(some (bt766.1,bt766.2))))=some (r1,r2):=H
 have A3:=am A30
 clear A30
 by_cases c4:t759=0
 ·rw [if_pos c4] at H
  have c4b0:(t759 == 0)=true:=beq_iff_eq.mpr c4
  have c4b1:(t759 != 0)=false:=bne_eq_false_iff_eq.mpr c4
  clear c4
  obtain ⟨y761,hy761⟩:∃ y_:List Int,y_=(([(-1),(l1_0.length:Int),8]:List Int)):=⟨_,rfl⟩
  replace H:((jh.f k s0_0 t760 y761).bind fun bt764=>(some (bt764.1,bt764.2)))=some (r1,r2):=by first |(rw [hy761];with_reducible exact H) |(have H2_:=(Option.bind_some _ _).symm.trans H;rw [hy761];with_reducible exact H2_) |(have H2_:=(Option.bind_some _ _).symm.trans H;with_reducible exact H2_) | with_reducible exact H |(rw [hy761];exact H) | exact H
  have Ny761:=am hy761
  clear hy761
  replace H:=bzS H
  obtain ⟨⟨t764,t765⟩,A50,H⟩:=H
  replace H:(some (t764,t765))=some (r1,r2):=H
  have A5:=am A50
  clear A50
  simp only [Option.some.injEq,Prod.mk.injEq] at H
  obtain ⟨rfl,rfl⟩:=H
  go_enter Try.func47,Try.ntmps47
  go_wp2_with (first |((with_reducible refine jJ (N:=3) rfl ?_);refine bE (N:=3) (cs:=#[.slice A1_0 l1_0.length c1_0]) (t:=25) ?_;intro gb758 hg w6 hbox hb;have BK758:=am (hbox);have GW758:=am ((Y11:w.heap.size≤gb758));have GE758:=am ((Nat.le_trans HW0.out (Y11:w.heap.size≤gb758):w0.heap.size≤gb758));have NB0_758:=am ((Y21:g≠gb758));have NB758_0:=am ((Y22:gb758≠g));replace HK:=am (jb.trans (Y15) (jb.of_below hb g none) (.inl rfl));replace HB:=am (je (Y16) hb);replace HI0:=am (jf.below (Y14) hb);clear hb hbox hg) |((with_reducible refine jd (f:=42) rfl ?_);refine gL (some 6) Try.func42 #[.pointer (some ⟨g,0,none⟩), .int .i64 16] ?_;(with_reducible refine (jg.calls k g s0_0 s0_1 16 t759 t760 w0 _ ?side1 ?side2 A3.out).mono ?_);(case side1=>exact Y61);(case side2=>exact Y65);rintro e w7 ⟨rfl,hi,hb,hk⟩;refine ⟨_,rfl,?_⟩;replace BK758:=am (jb.blk hk (g':=gb758) (o:=.cells #[.slice A1_0 l1_0.length c1_0] 25 (0,0)) (kq BK758.out) NB758_0.out (by simp));replace HK:=am (jb.trans (Y62) hk (.inl rfl));replace HB:=am (hb);replace HI0:=am (hi);(try clear hb);(try clear hb2);(try clear hk);(try clear hi);have hnb8:=NB758_0.out;have hnc8:=NB0_758.out;have hcz9_0:=bc0 BK758.out;have hfz9_0:=ja BK758.out 0) |((with_reducible refine jJ (N:=12) rfl ?_);refine Kd.jfc (Kd.int .i64) _ 3 ?hg (N:=12) ?hd (xs:=([(-1),(l1_0.length:Int),8]:List Int)) (inner:=[.int .i64 (-1), .int .i64 (l1_0.length:Int), .int .i64 8]) (ok:=fun _=>True) (okp:=fun _=>True) ?hr ?hp (fun _ hk=>hk) trivial (Below.refl _ _) (Nat.le_refl _) (by simp) ?_;(case hd=>rfl);(case hg=>rfl);(case hr=>exact Y5);(case hp=>exact (Reps.one (show Kd.M (Kd.int .i64) _ _ _ (-1) [.int .i64 (-1)] from rfl) (Reps.one (show Kd.M (Kd.int .i64) _ _ _ (l1_0.length:Int) [.int .i64 (l1_0.length:Int)] from rfl) (Reps.one (show Kd.M (Kd.int .i64) _ _ _ 8 [.int .i64 8] from rfl) (Reps.none _ _)))));intro v762 w10 ho11 hb hg_ hnew_;clear hg_ hnew_;(first | rw [← Ny761.out] at ho11 |(simp only [Int.reduceToNat] at ho11;rw [← Ny761.out] at ho11));have HO763:=am (Kd.jaa ho11 (jN (w:=w) (g:=g) (row:=none) (Y62)));replace BK758:=am (jk (g:=gb758) (o:=.cells #[.slice A1_0 l1_0.length c1_0] 25 (0,0)) (kq BK758.out) hb);replace HK:=am (jb.trans (Y62) (jb.of_below hb g none) (.inl rfl));replace HB:=am (je (Y65) hb);replace HI0:=am (jf.below (Y61) hb);clear hb ho11;obtain ⟨Ao12,co12,eo12⟩:=Kd.jka HO763.out;subst eo12) |((with_reducible refine jd (f:=58) rfl ?_);refine gL (some 13) Try.func58 #[.pointer (some ⟨g,0,none⟩), .slice Ao12 y761.length co12] ?_;(with_reducible refine (jh.calls k g s0_0 t760 _ _ y761 t764 t765 w0 _ ?side1 ?side2 ?side3 ?side4 ?side5 A5.out).mono ?_);(case side1=>exact Y61);(case side2=>exact Y65);(case side3=>exact cq (Kd.jy HO763.out).2.2);(case side4=>exact (Kd.jy HO763.out).2.1);(case side5=>exact jzb (jf.own_ne HI0.out HO763.out (by decide)));rintro e w13 ⟨rfl,hi,hb,hk⟩;refine ⟨_,rfl,?_⟩;replace BK758:=am (jb.blk hk (g':=gb758) (o:=.cells #[.slice A1_0 l1_0.length c1_0] 25 (0,0)) (kq BK758.out) NB758_0.out (by simp));replace HO763:=am (Kd.jI (Kd.jxa (jf.apart (show jf w0 _ g s0_0 t760 from Y61) (rq HO763.out) (by decide)) hk (fun _ h=>h.2)) (fun _ h=>h.1));replace HK:=am (jb.trans (Y62) hk (.inl rfl));replace HB:=am (hb);replace HI0:=am (hi);(try clear hb);(try clear hb2);(try clear hk);(try clear hi)))
  go_ret
  exact ⟨Y0,Y61,Y65,Y62⟩
 ·rw [if_neg c4] at H
  have c4b0:(t759 == 0)=false:=beq_eq_false_iff_ne.mpr c4
  have c4b1:(t759 != 0)=true:=bne_iff_ne.mpr c4
  replace H:=bzS H
  obtain ⟨⟨t766,t767⟩,A140,H⟩:=H
  replace H:(some (t766,t767))=some (r1,r2):=H
  have A14:=am A140
  clear A140
  simp only [Option.some.injEq,Prod.mk.injEq] at H
  obtain ⟨rfl,rfl⟩:=H
  go_enter Try.func47,Try.ntmps47
  go_wp2_with (first |((with_reducible refine jJ (N:=3) rfl ?_);refine bE (N:=3) (cs:=#[.slice A1_0 l1_0.length c1_0]) (t:=25) ?_;intro gb758 hg w15 hbox hb;have BK758:=am (hbox);have GW758:=am ((Y11:w.heap.size≤gb758));have GE758:=am ((Nat.le_trans HW0.out (Y11:w.heap.size≤gb758):w0.heap.size≤gb758));have NB0_758:=am ((Y21:g≠gb758));have NB758_0:=am ((Y22:gb758≠g));replace HK:=am (jb.trans (Y15) (jb.of_below hb g none) (.inl rfl));replace HB:=am (je (Y16) hb);replace HI0:=am (jf.below (Y14) hb);clear hb hbox hg) |((with_reducible refine jd (f:=42) rfl ?_);refine gL (some 6) Try.func42 #[.pointer (some ⟨g,0,none⟩), .int .i64 16] ?_;(with_reducible refine (jg.calls k g s0_0 s0_1 16 t759 t760 w0 _ ?side1 ?side2 A3.out).mono ?_);(case side1=>exact Y61);(case side2=>exact Y65);rintro e w16 ⟨rfl,hi,hb,hk⟩;refine ⟨_,rfl,?_⟩;replace BK758:=am (jb.blk hk (g':=gb758) (o:=.cells #[.slice A1_0 l1_0.length c1_0] 25 (0,0)) (kq BK758.out) NB758_0.out (by simp));replace HK:=am (jb.trans (Y62) hk (.inl rfl));replace HB:=am (hb);replace HI0:=am (hi);(try clear hb);(try clear hb2);(try clear hk);(try clear hi);have hnb17:=NB758_0.out;have hnc17:=NB0_758.out;have hcz18_0:=bc0 BK758.out;have hfz18_0:=ja BK758.out 0) |((with_reducible refine jd (f:=42) rfl ?_);refine gL (some 18) Try.func42 #[.pointer (some ⟨g,0,none⟩), .int .i64 (l1_0.length:Int)] ?_;(with_reducible refine (jg.calls k g s0_0 t760 (l1_0.length:Int) t766 t767 w0 _ ?side1 ?side2 A14.out).mono ?_);(case side1=>exact Y61);(case side2=>exact Y65);rintro e w19 ⟨rfl,hi,hb,hk⟩;refine ⟨_,rfl,?_⟩;replace BK758:=am (jb.blk hk (g':=gb758) (o:=.cells #[.slice A1_0 l1_0.length c1_0] 25 (0,0)) (kq BK758.out) NB758_0.out (by simp));replace HK:=am (jb.trans (Y62) hk (.inl rfl));replace HB:=am (hb);replace HI0:=am (hi);(try clear hb);(try clear hb2);(try clear hk);(try clear hi)))
  go_ret
  exact ⟨Y0,Y61,Y65,Y62⟩
def jwa.f (k : Nat) (l0 : List Int) : Option ((List (S75)) × (List (S36)) × Int × Int) := (jOb.f l0).bind fun bt769 => ((jIa.f k bt769.1 bt769.2).bind fun bt772 => ((jVb.f k bt769.1 bt772.2.2.2 bt772.1).bind fun bt781 => (some (bt772.1, bt772.2.1, bt772.2.2.1, bt781.1))))
def jwa.T3 : Bool × List (List Nat × List Nat) := (true, [([], []), ([], []), ([], []), ([], []), ([], []), ([3, 4], [3, 4]), ([0, 5, 0], [0]), ([1, 6, 0, 1, 6], [1]), ([2, 7, 0, 1, 2, 6, 7], [2]), ([5, 8, 0, 1, 2, 3, 4, 5, 6, 7, 8], [5])])
def jwa.B3 : List Nat := [0, 0, 0, 0, 0, 24, 57, 123, 255, 511]
theorem jwa.tab3 : rtab .any (opsOf Try.f18 3) = jwa.T3 := by kernel_rfl
theorem jwa.bits3 : jdc jwa.T3.2 jwa.B3 = true := by kernel_rfl
set_option maxHeartbeats 8000000 in
set_option maxRecDepth 100000 in
theorem jwa.calls (k : Nat) (A0 : Option Addr) (c0 : Nat) (l0 : List Int) (r1 : List (S75)) (r2 : List (S36)) (r3 : Int) (r4 : Int) (w : World) (hr0 : Kd.C (Kd.int .u8) w A0 l0.length l0) (hc0 : l0.length ≤ c0) (h : jwa.f k l0 = some (r1, r2, r3, r4)) :
  Calls Try.prog 18 #[.slice A0 l0.length c0] w fun e w'=>∃ v0_ v1_:Value,e=.returned (.tuple #[.agg #[v0_],v1_, .int .i64 r3, .int .i64 r4])∧Kd.R k75 75 w' w.heap.size (fun _=>True) v0_ r1∧Kd.Q k36 36 w' w.heap.size (fun _=>True) v1_ r2∧Below w.heap.size w w':=by
 have hu25:=Try.underlying25
 have HR0:=am hr0
 have HC0:=am hc0
 clear hr0 hc0
 have HB:=am (Below.refl w.heap.size w)
 have H:((jOb.f l0).bind fun bt769=>((jIa.f k bt769.1 bt769.2).bind fun bt772=>((jVb.f k bt769.1 bt772.2.2.2 bt772.1).bind fun bt781=>(some (bt772.1,bt772.2.1,bt772.2.2.1,bt781.1)))))=some (r1,r2,r3,r4):=h
 clear h
 replace H:=bzS H
 obtain ⟨⟨t769,t770⟩,A20,H⟩:=H
 replace H:((jIa.f k t769 t770).bind fun bt772=>((jVb.f k t769 bt772.2.2.2 bt772.1).bind fun bt781=>(some (bt772.1,bt772.2.1,bt772.2.2.1,bt781.1))))=some (r1,r2,r3,r4):=H
 have A2:=am A20
 clear A20
 replace H:=bzS H
 obtain ⟨⟨t772,t775,t778,t779⟩,A30,H⟩:=H
 replace H:((jVb.f k t769 t779 t772).bind fun bt781=>(some (t772,t775,t778,bt781.1)))=some (r1,r2,r3,r4):=H
 have A3:=am A30
 clear A30
 replace H:=bzS H
 obtain ⟨⟨t781,t782⟩,A40,H⟩:=H
 replace H:(some (t772,t775,t778,t781))=some (r1,r2,r3,r4):=H
 have A4:=am A40
 clear A40
 simp only [Option.some.injEq,Prod.mk.injEq] at H
 obtain ⟨rfl,rfl,rfl,rfl⟩:=H
 go_enter Try.func18,Try.ntmps18
 try go_wp2_with (first |((with_reducible refine jJ (N:=2) rfl ?_);refine bE (N:=2) (cs:=#[.slice none 0 0]) (t:=25) ?_;intro gb768 hg w5 hbox hb;have BK768:=am (hbox);have GW768:=am ((Y3:w.heap.size≤gb768));have GE768:=am ((Y3:w.heap.size≤gb768));replace HB:=am (je (bq) hb);clear hb hbox hg) |((with_reducible refine jd (f:=30) rfl ?_);refine gL (some 11) Try.func30 #[.slice A0 l0.length c0] ?_;(with_reducible refine (jOb.calls _ _ l0 t769 t770 w _ ?side1 ?side2 ?side3 A2.out).mono ?_);(case side1=>repeat (first |(with_reducible first | exact HB.out | apply jL | apply jm | apply jE | refine jK ?_ GE768.out) | exact HB.out));(case side2=>exact HR0.out);(case side3=>exact HC0.out);rintro e w6 ⟨g771,rfl,hi,hb,hb2⟩;refine ⟨_,rfl,?_⟩;have HI771:=am (hi);have NB771_768:=am (jf.ne_blk hi (jk (g:=gb768) (o:=.cells #[.slice none 0 0] 25 (0,0)) (kq BK768.out) hb2) (by decide));have NB768_771:=am (Ne.symm (jf.ne_blk hi (jk (g:=gb768) (o:=.cells #[.slice none 0 0] 25 (0,0)) (kq BK768.out) hb2) (by decide)));replace BK768:=am (jk (g:=gb768) (o:=.cells #[.slice none 0 0] 25 (0,0)) (kq BK768.out) hb2);replace HB:=am (hb);(try clear hb);(try clear hb2);(try clear hk);(try clear hi)) |((with_reducible refine jd (f:=29) rfl ?_);refine gL (some 14) Try.func29 #[.pointer (some ⟨g771,0,none⟩)] ?_;(with_reducible refine (jIa.calls k g771 t769 t770 t772 t775 t778 t779 w _ ?side1 ?side2 A3.out).mono ?_);(case side1=>exact Y127);(case side2=>exact Y98);rintro e w7 ⟨v773,v776,rfl,ho0,ho1,hi,hb,hk⟩;refine ⟨_,rfl,?_⟩;have HO774:=am (Kd.jaa ho0 (jma (Y98)));have HO777:=am (Kd.Q_lower ho1 (jma (Y98)));replace BK768:=am (jb.blk hk (g':=gb768) (o:=.cells #[.slice none 0 0] 25 (0,0)) (kq BK768.out) NB768_771.out (by simp));replace HB:=am (hb);replace HI771:=am (hi);(try clear hb);(try clear hb2);(try clear hk);(try clear hi);(try clear ho0);(try clear ho1)) |((with_reducible refine jJ (N:=7) rfl ?_);refine bE (N:=7) (cs:=#[.slice none 0 0]) (t:=25) ?_;intro gb780 hg w8 hbox hb;have BK780:=am (hbox);have GW780:=am ((Y128:w.heap.size≤gb780));have GE780:=am ((Y128:w.heap.size≤gb780));have NB768_780:=am ((by rw [hg];exact Nat.ne_of_lt (jDb (g:=gb768) (o:=.cells #[.slice none 0 0] 25 (0,0)) (kq BK768.out)):gb768≠gb780));have NB780_768:=am ((by rw [hg];exact Nat.ne_of_gt (jDb (g:=gb768) (o:=.cells #[.slice none 0 0] 25 (0,0)) (kq BK768.out)):gb780≠gb768));have NB771_780:=am ((by rw [hg];exact Nat.ne_of_lt (jf.lt (show jf w _ g771 t769 t779 from by repeat (first |(with_reducible first | exact HI771.out | apply jf.alloc | apply jf.drewN | apply jf.drew | apply jf.jkc | refine jf.far ?_ NB771_768.out _) | exact HI771.out))):g771≠gb780));have NB780_771:=am ((by rw [hg];exact Nat.ne_of_gt (jf.lt (show jf w _ g771 t769 t779 from by repeat (first |(with_reducible first | exact HI771.out | apply jf.alloc | apply jf.drewN | apply jf.drew | apply jf.jkc | refine jf.far ?_ NB771_768.out _) | exact HI771.out))):gb780≠g771));replace HO774:=am (Kd.jZ (rq HO774.out) hb);replace HO777:=am (Kd.jBb (by (with_reducible repeat (first | apply Kd.jUb | apply Kd.jTb | apply Kd.jRb));exact HO777.out) hb);replace BK768:=am (jk (g:=gb768) (o:=.cells #[.slice none 0 0] 25 (0,0)) (kq BK768.out) hb);replace HB:=am (je (Y98) hb);replace HI771:=am (jf.below (Y127) hb);clear hb hbox hg;obtain ⟨Ao9,co9,eo9⟩:=Kd.jka HO774.out;subst eo9;have hnb10:=NB780_768.out;have hnc10:=NB768_780.out;have hnb11:=NB780_771.out;have hnc11:=NB771_780.out;have hcz12_0:=bc0 BK780.out;have hfz12_0:=ja BK780.out 0))
 have n0_:jq (Kd.R k75 75 (w8.setCell ⟨gb780,0,none⟩ (.slice Ao9 t772.length co9)) w.heap.size (fun _=>True) (.slice Ao9 t772.length co9) t772):=⟨by (with_reducible repeat (first | apply Kd.jga | apply Kd.jfa | apply Kd.jea));exact Kd.jI (Kd.jQb (p:=⟨gb780,0,none⟩) (Kd.jQa HO774.out BK780.out (by decide)) (fun _ hk=>hk.2) (.slice Ao9 t772.length co9)) (fun _ hk=>trivial)⟩
 have n1_:jq (Kd.Q k36 36 (w8.setCell ⟨gb780,0,none⟩ (.slice Ao9 t772.length co9)) w.heap.size (fun _=>True) v776 t775):=⟨by (with_reducible repeat (first | apply Kd.jUb | apply Kd.jTb | apply Kd.jRb));exact Kd.jHc (Kd.Q_far (p:=⟨gb780,0,none⟩) (Kd.jZc HO777.out BK780.out (by decide)) (fun _ hk=>hk.2) (.slice Ao9 t772.length co9)) (fun _ hk=>trivial)⟩
 have n2_:jq ((w8.setCell ⟨gb780,0,none⟩ (.slice Ao9 t772.length co9)).heap[gb768]?=some (.cells #[.slice none 0 0] 25 (0,0))):=⟨by (with_reducible repeat (first | refine jr ?_ _ | refine jw ?_ | refine jA ?_ _));refine jnb ?_ NB768_780.out _;(with_reducible repeat (first | refine jr ?_ _ | refine jw ?_ | refine jA ?_ _));exact BK768.out⟩
 have n3_:jq ((w8.setCell ⟨gb780,0,none⟩ (.slice Ao9 t772.length co9)).heap[gb780]?=some (.cells #[.slice Ao9 t772.length co9] 25 (0,0))):=⟨by (with_reducible repeat (first | refine jr ?_ _ | refine jw ?_ | refine jA ?_ _));refine jab (cs:=#[.slice none 0 0]) ?_ 0 _ rfl;(with_reducible repeat (first | refine jr ?_ _ | refine jw ?_ | refine jA ?_ _));exact BK780.out⟩
 have n4_:jq (jf w (w8.setCell ⟨gb780,0,none⟩ (.slice Ao9 t772.length co9)) g771 t769 t779):=⟨Y80⟩
 have n5_:jq (Below w.heap.size w (w8.setCell ⟨gb780,0,none⟩ (.slice Ao9 t772.length co9))):=⟨Y105⟩
 (try clear HO774)
 (try clear HO777)
 (try clear BK768)
 (try clear BK780)
 (try clear HI771)
 (try clear HB)
 generalize (w8.setCell ⟨gb780,0,none⟩ (.slice Ao9 t772.length co9))=w13 at n0_ n1_ n2_ n3_ n4_ n5_ ⊢
 have HO774:=n0_
 have HO777:=n1_
 have BK768:=n2_
 have BK780:=n3_
 have HI771:=n4_
 have HB:=n5_
 clear n0_ n1_ n2_ n3_ n4_ n5_
 replace HO774:=am (Kd.jea HO774.out)
 replace HO777:=am (Kd.jRb HO777.out)
 replace BK768:=am (jw BK768.out)
 replace BK780:=am (jw BK780.out)
 replace HI771:=am (jf.drew HI771.out)
 replace HB:=am (jE HB.out)
 refine jlc (n:=10) (S:=fun w'=>w'.cell? ⟨gb780,0,none⟩=some (.slice Ao9 t772.length co9)) (ds:=[]) #[false,false,false,false,false,false,false,false,false,false] (by kernel_rfl) rfl rfl ((jF BK780.out 0).trans rfl) (fun hHeld=>?_);refine jqb jwa.tab3 jwa.bits3 (fun HT_ HW_=>?_)
 generalize w13.drew=w14 at HO774 HO777 BK768 BK780 HI771 HB hHeld ⊢
 refine pq (i:=1) (N:=some 19) #[false,true,false,false,false,false,false,false,false,false] ?_
 refine pq (i:=2) (N:=some 20) #[false,true,true,false,false,false,false,false,false,false] ?_
 refine pq (i:=3) (N:=some 21) #[false,true,true,true,false,false,false,false,false,false] ?_
 refine jwb (i:=0) (N:=some 18) (v:=?_) (a':=?_) #[true,true,true,true,false,false,false,false,false,false] rfl rfl (jua HT_.out HW_.out (by kernel_rfl)) (fun _ _ _ h=>h) (Or.inl ⟨by rfl,?_⟩) hHeld ?_ ?_
 rotate_left
 ·intro w' s0
  go_simp
  with_reducible rfl
 rotate_left
 ·exact sa
 refine jwb (i:=4) (N:=some 22) (v:=?_) (a':=?_) #[true,true,true,true,true,false,false,false,false,false] rfl rfl (jua HT_.out HW_.out (by kernel_rfl)) (fun _ _ _ h=>h) (Or.inl ⟨by rfl,?_⟩) hHeld ?_ ?_
 rotate_left
 ·intro w' s0
  go_simp
  with_reducible rfl
 rotate_left
 ·exact sa
 refine one_ (i:=5) (N:=some 23) #[true,true,true,true,true,true,false,false,false,false] rfl rfl (jyb HT_.out (by kernel_rfl)) (by decide) (fun K hK=>?_)
 refine jPc Try.func47 (by kernel_rfl) rfl #[.pointer (some ⟨g771,0,none⟩), .agg #[.slice Ao9 t772.length co9]] (by rfl) rfl rfl (aq) ?_
 with_reducible refine (jVb.calls k g771 t769 t779 _ _ t772 t781 t782 w _ ?side1 ?side2 ?side3 ?side4 A4.out).mono ?_
 (case side1=>exact Y80)
 (case side2=>exact Y105)
 (case side3=>exact Kd.jAc (jf.apart (show jf w _ g771 t769 t779 from Y80) (rq HO774.out) (by decide)) (fun _ h_=>h_.2))
 (case side4=>exact (Kd.jy HO774.out).2.1)
 rintro e w15 ⟨rfl,hi,hb,hk⟩
 refine ⟨_,rfl,?_⟩
 replace BK768:=am (jb.blk hk (g':=gb768) (o:=.cells #[.slice none 0 0] 25 (0,0)) (kq BK768.out) NB768_771.out (by simp))
 replace HO774:=am (Kd.jI (Kd.jxa (jf.apart (show jf w _ g771 t769 t779 from Y80) (rq HO774.out) (by decide)) hk (fun _ h=>h.2)) (fun _ h=>h.1))
 replace HO777:=am (Kd.jHc (Kd.Q_keep (jf.apartQ (show jf w _ g771 t769 t779 from Y80) (by (with_reducible repeat (first | apply Kd.jUb | apply Kd.jTb | apply Kd.jRb));exact HO777.out) (by decide)) hk (fun _ h=>h.2)) (fun _ h=>h.1))
 replace BK780:=am (jb.blk hk (g':=gb780) (o:=.cells #[.slice Ao9 t772.length co9] 25 (0,0)) (kq BK780.out) NB780_771.out (by simp))
 replace HB:=am (hb)
 replace HI771:=am (hi)
 (try clear hb)
 (try clear hb2)
 (try clear hk)
 (try clear hi)
 refine hK.out _ _ ((jF BK780.out 0).trans rfl) (fun hHeld=>?_)
 clear hK K
 refine jWb (a':=?_) ?_ ?_
 rotate_left
 ·show Act.put _ (some 23) _=_
  simp only [Act.put,List.setIfInBounds_toArray,List.set_cons_zero,List.set_cons_succ,jkb,jmb]
  rfl
 refine one_ (i:=6) (N:=none) #[true,true,true,true,true,true,true,false,false,false] rfl rfl (jyb HT_.out (by kernel_rfl)) (by decide) (fun K hK=>?_)
 have hs16:w15.cell? ⟨gb768,0,none⟩=some (.slice none 0 0):=(jF BK768.out 0).trans rfl
 have hfs16:=ja BK768.out 0
 have hns16_1:=NB780_768.out
 have hms16_1:=NB768_780.out
 refine skip_ (w1:=?_) (by rfl) rfl ?_ ?_
 rotate_left
 ·go_simp
  rfl
 refine hK.out _ _ (((cell_far (p:=⟨gb768,_,none⟩) NB780_768.out _).trans (hHeld))) (fun hHeld=>?_)
 clear hK K
 refine pq (i:=7) (N:=some 3) #[true,true,true,true,true,true,true,true,false,false] ?_
 refine pq (i:=8) (N:=some 4) #[true,true,true,true,true,true,true,true,true,false] ?_
 refine pq (i:=9) (N:=some 5) #[true,true,true,true,true,true,true,true,true,true] ?_
 refine jQc (jPb HT_.out (by kernel_rfl)) ?_
 try go_wp2
 refine bodyPost_ret (results_list (rs:=[.cell 2 25, .tmp 3, .tmp 4, .tmp 5]) rfl (by simp) (.cell gb768 25 #[.slice Ao9 t772.length co9] (0,0) _ rfl (by (with_reducible repeat (first | refine jr ?_ _ | refine jw ?_ | refine jA ?_ _));refine jab (cs:=#[.slice none 0 0]) ?_ 0 _ rfl;(with_reducible repeat (first | refine jr ?_ _ | refine jw ?_ | refine jA ?_ _));exact BK768.out) Try.underlying25 rfl (by kernel_rfl) (.tmp (.tmp (.tmp .nil))))) rfl ?_
 exact ⟨_,_,Y0,by (with_reducible repeat (first | apply Kd.jga | apply Kd.jfa | apply Kd.jea));exact Kd.jI (Kd.jQb (p:=⟨gb768,0,none⟩) (Kd.jQa HO774.out BK768.out (by decide)) (fun _ hk=>hk.2) (.slice Ao9 t772.length co9)) (fun _ hk=>trivial),by (with_reducible repeat (first | apply Kd.jUb | apply Kd.jTb | apply Kd.jRb));exact Kd.jHc (Kd.Q_far (p:=⟨gb768,0,none⟩) (Kd.jZc HO777.out BK768.out (by decide)) (fun _ hk=>hk.2) (.slice Ao9 t772.length co9)) (fun _ hk=>trivial),Y105⟩
def jXb.f (k : Nat) (l0_0 : List (S75)) (l1 : List (S36)) (a2 : Int) : Option (Bool) := (jC.f k l0_0 l1).bind fun t473 => (if t473 = true then ((jP.f a2 0 (wrap64 ((l1.length : Int) - 1))).bind fun t474 => (some t474)) else (some false))
set_option maxHeartbeats 8000000 in
set_option maxRecDepth 100000 in
theorem jXb.calls (k : Nat) (A0_0 : Option Addr) (c0_0 : Nat) (l0_0 : List (S75)) (A1 : Option Addr) (c1 : Nat) (l1 : List (S36)) (a2 : Int) (r : Bool) (w : World) (hr0_0 : Kd.C k75 w A0_0 l0_0.length l0_0) (hc0_0 : l0_0.length ≤ c0_0) (hr1 : Kd.C k36 w A1 l1.length l1) (hc1 : l1.length ≤ c1) (h : jXb.f k l0_0 l1 a2 = some r) :
  Calls Try.prog 31 #[.agg #[.slice A0_0 l0_0.length c0_0], .slice A1 l1.length c1, .int .i64 a2] w fun e w'=>e=.returned (.bool r)∧Below w.heap.size w w':=by
 have hu25:=Try.underlying25
 have HR0_0:=am hr0_0
 have HC0_0:=am hc0_0
 clear hr0_0 hc0_0
 have HR1:=am hr1
 have HC1:=am hc1
 clear hr1 hc1
 have HB:=am (Below.refl w.heap.size w)
 have H:((jC.f k l0_0 l1).bind fun t473=>(if t473=true then ((jP.f a2 0 (wrap64 ((l1.length:Int) - 1))).bind fun t474=>(some t474)) else (some false)))=some r:=h
 clear h
 replace H:=bzS H
 obtain ⟨t473,A40,H⟩:=H
 replace H:(if t473=true then ((jP.f a2 0 (wrap64 ((l1.length:Int) - 1))).bind fun t474=>(some t474)) else (some false))=some r:=H
 have A4:=am A40
 clear A40
 by_cases c5:t473=true
 ·subst c5
  have H1:((jP.f a2 0 (wrap64 ((l1.length:Int) - 1))).bind fun t474=>(some t474))=some r:=by rw [if_pos rfl] at H;exact H
  clear H
  have H:=H1
  clear H1
  replace H:=bzS H
  obtain ⟨t474,A60,H⟩:=H
  replace H:(some t474)=some r:=H
  have A6:=am A60
  clear A60
  obtain rfl:=Option.some.inj H
  go_enter Try.func31,Try.ntmps31
  go_wp2_with (first |((with_reducible refine jJ (N:=3) rfl ?_);(try (refine joc (by rfl) ?_;dsimp only));refine jsc ?hg (N:=3) ?hd (cs:=#[.slice A0_0 l0_0.length c0_0]) (t:=25) ?hr ?_;(case hd=>rfl);(case hg=>rfl);(case hr=>exact Y5);intro gb472 hg w7 hbox hb;have BK472:=am (hbox);have GW472:=am ((Y3:w.heap.size≤gb472));have GE472:=am ((Y3:w.heap.size≤gb472));replace HB:=am (je (bq) hb);clear hb hbox hg;have hcz8_0:=bc0 BK472.out;have hfz8_0:=ja BK472.out 0) |((with_reducible refine jd (f:=12) rfl ?_);refine gL (some 9) Try.func12 #[.agg #[.slice A0_0 l0_0.length c0_0], .slice A1 l1.length c1] ?_;(with_reducible refine (jC.calls k _ _ l0_0 _ _ l1 true _ ?side1 ?side2 ?side3 ?side4 A4.out).mono ?_);(case side1=>exact cq (Kd.jT HR0_0.out HB.out));(case side2=>exact HC0_0.out);(case side3=>exact cq (Kd.jT HR1.out HB.out));(case side4=>exact HC1.out);rintro e w9 ⟨rfl,hb⟩;refine ⟨_,rfl,?_⟩;replace BK472:=am (jk (g:=gb472) (o:=.cells #[.slice A0_0 l0_0.length c0_0] 25 (0,0)) (kq BK472.out) hb);replace HB:=am (je (Y99) hb);(try clear hb);(try clear hb2);(try clear hk);(try clear hi)) |(go_at_call 38;(with_reducible refine (jP.calls a2 0 (wrap64 ((l1.length:Int) - 1)) t474 _ A6.out).mono ?_);rintro e w' ⟨rfl,⟨nd,rfl⟩⟩))
  go_ret
  exact ⟨Y0,Y99⟩
 ·replace c5:=Bool.eq_false_iff.mpr c5
  subst c5
  have H1:(some false)=some r:=by rw [if_neg (show ¬ (false=true) by decide)] at H;exact H
  clear H
  have H:=H1
  clear H1
  obtain rfl:=Option.some.inj H
  go_enter Try.func31,Try.ntmps31
  go_wp2_with (first |((with_reducible refine jJ (N:=3) rfl ?_);(try (refine joc (by rfl) ?_;dsimp only));refine jsc ?hg (N:=3) ?hd (cs:=#[.slice A0_0 l0_0.length c0_0]) (t:=25) ?hr ?_;(case hd=>rfl);(case hg=>rfl);(case hr=>exact Y5);intro gb472 hg w10 hbox hb;have BK472:=am (hbox);have GW472:=am ((Y3:w.heap.size≤gb472));have GE472:=am ((Y3:w.heap.size≤gb472));replace HB:=am (je (bq) hb);clear hb hbox hg;have hcz11_0:=bc0 BK472.out;have hfz11_0:=ja BK472.out 0) |((with_reducible refine jd (f:=12) rfl ?_);refine gL (some 9) Try.func12 #[.agg #[.slice A0_0 l0_0.length c0_0], .slice A1 l1.length c1] ?_;(with_reducible refine (jC.calls k _ _ l0_0 _ _ l1 false _ ?side1 ?side2 ?side3 ?side4 A4.out).mono ?_);(case side1=>exact cq (Kd.jT HR0_0.out HB.out));(case side2=>exact HC0_0.out);(case side3=>exact cq (Kd.jT HR1.out HB.out));(case side4=>exact HC1.out);rintro e w12 ⟨rfl,hb⟩;refine ⟨_,rfl,?_⟩;replace BK472:=am (jk (g:=gb472) (o:=.cells #[.slice A0_0 l0_0.length c0_0] 25 (0,0)) (kq BK472.out) hb);replace HB:=am (je (Y99) hb);(try clear hb);(try clear hb2);(try clear hk);(try clear hi)))
  go_ret
  exact ⟨Y0,Y99⟩
def jMb.f (l0 : List Int) : Option (List Int) := some (l0)
set_option maxHeartbeats 8000000 in
set_option maxRecDepth 100000 in
theorem jMb.calls (P0_ : Nat → Prop) (u9000_ : Value) (l0 : List Int) (r : List Int) (w0 w : World) (hB : Below w0.heap.size w0 w) (ho0 : Kd.R (Kd.int .i64) 3 w w0.heap.size P0_ u9000_ l0) (h : jMb.f l0 = some r) :
  Calls Try.prog 59 #[u9000_] w fun e w'=>∃ v0_:Value,e=.returned (v0_)∧Kd.R (Kd.int .i64) 3 w' w0.heap.size (fun k_=>(P0_ k_∨w.heap.size≤k_)) v0_ r∧Below w0.heap.size w0 w'∧Kept w w' (fun k_=>P0_ k_):=by
 have HO0:=am (show Kd.R (Kd.int .i64) 3 w w0.heap.size (fun k_=>(P0_ k_∨w.heap.size≤k_)) u9000_ l0 from Kd.jI ho0 (fun k_ hk=>(.inl hk)))
 have HK:=am (Kept.refl w (fun k_=>P0_ k_))
 have HW0:=am hB.size
 have HB:=am hB
 clear hB
 have H:(some (l0))=some r:=h
 clear h
 obtain ⟨y475,hy475⟩:∃ y_:List Int,y_=(l0):=⟨_,rfl⟩
 replace H:(some y475)=some r:=by first |(rw [hy475];with_reducible exact H) |(have H2_:=(Option.bind_some _ _).symm.trans H;rw [hy475];with_reducible exact H2_) |(have H2_:=(Option.bind_some _ _).symm.trans H;with_reducible exact H2_) | with_reducible exact H |(rw [hy475];exact H) | exact H
 have Ny475:=am hy475
 clear hy475
 obtain rfl:=Option.some.inj H
 obtain ⟨Ao2,co2,eo2⟩:=Kd.jka HO0.out
 subst eo2
 obtain ⟨i03,hi03,_,hsz3,_⟩:=info_parts info3
 have hy3:y475.length=l0.length:=(by rw [Ny475.out])
 have hcut3:=cut_clip (P:=Try.prog) 29 3 Try.underlying29 hi03 Ao2 _ co2 _ (Kd.jy HO0.out).2.1 hy3
 have hr3:=Kd.R_clip HO0.out Ny475.out
 clear hy3 hi03 hsz3 HO0
 have HO477:=am hr3
 clear hr3
 go_enter Try.func59,Try.ntmps59
 go_wp2
 go_ret
 exact ⟨_,Y0,rq HO477.out,bq,by repeat (first |(with_reducible first | exact HK.out | apply Kept.alloc | apply Kept.drewN | apply Kept.drew) | exact HK.out)⟩
def jM.f (a0 : Int) (a1 : Int) (a2 : Int) : Option (Bool) := if a1 ≤ a0 then (some (decide (a0 ≤ a2))) else (some false)
set_option maxHeartbeats 8000000 in
set_option maxRecDepth 100000 in
theorem jM.calls (a0 : Int) (a1 : Int) (a2 : Int) (r : Bool) (w : World) (h : jM.f a0 a1 a2 = some r) :
  Calls Try.prog 61 #[.int .i64 a0, .int .i64 a1, .int .i64 a2] w fun e w'=>e=.returned (.bool r)∧jsb w w':=by
 have H:(if a1≤a0 then (some (decide (a0≤a2))) else (some false))=some r:=h
 clear h
 by_cases c4:a1≤a0
 ·rw [if_pos c4] at H
  have c4b0:decide (a1≤a0)=true:=dzT c4
  clear c4
  obtain rfl:=Option.some.inj H
  go_enter Try.func61,Try.ntmps61
  go_wp2
  go_ret
  exact ⟨sq,Y7⟩
 ·rw [if_neg c4] at H
  have c4b0:decide (a1≤a0)=false:=dzF c4
  clear c4
  obtain rfl:=Option.some.inj H
  go_enter Try.func61,Try.ntmps61
  go_wp2
  go_ret
  exact ⟨sq,Y7⟩
def jJb.f (a0 : Int) : Option (Bool) := (jM.f a0 8 10).bind fun t531 => (some t531)
set_option maxHeartbeats 8000000 in
set_option maxRecDepth 100000 in
theorem jJb.calls (a0 : Int) (r : Bool) (w : World) (h : jJb.f a0 = some r) :
  Calls Try.prog 85 #[.int .i64 a0] w fun e w'=>e=.returned (.bool r)∧jsb w w':=by
 have H:((jM.f a0 8 10).bind fun t531=>(some t531))=some r:=h
 clear h
 replace H:=bzS H
 obtain ⟨t531,A20,H⟩:=H
 replace H:(some t531)=some r:=H
 have A2:=am A20
 clear A20
 obtain rfl:=Option.some.inj H
 go_enter Try.func85,Try.ntmps85
 go_wp2_with (first |((with_reducible refine jd (f:=61) rfl ?_);refine gL (some 4) Try.func61 #[.int .i64 a0, .int .i64 8, .int .i64 10] ?_;(with_reducible refine (jM.calls a0 8 10 t531 _ A2.out).mono ?_);rintro e w' ⟨rfl,⟨nd,rfl⟩⟩;refine ⟨_,rfl,?_⟩))
 go_ret
 exact ⟨sq,Y7⟩
def jOa.f (l0_0 : List (S75)) (a1 : Int) : Option (Bool) := (jM.f a1 0 (wrap64 ((l0_0.length : Int) - 1))).bind fun t533 => (some t533)
set_option maxHeartbeats 8000000 in
set_option maxRecDepth 100000 in
theorem jOa.calls (A0_0 : Option Addr) (c0_0 : Nat) (l0_0 : List (S75)) (a1 : Int) (r : Bool) (w : World) (hr0_0 : Kd.C k75 w A0_0 l0_0.length l0_0) (hc0_0 : l0_0.length ≤ c0_0) (h : jOa.f l0_0 a1 = some r) :
  Calls Try.prog 70 #[.agg #[.slice A0_0 l0_0.length c0_0], .int .i64 a1] w fun e w'=>e=.returned (.bool r)∧Below w.heap.size w w':=by
 have hu25:=Try.underlying25
 have HR0_0:=am hr0_0
 have HC0_0:=am hc0_0
 clear hr0_0 hc0_0
 have HB:=am (Below.refl w.heap.size w)
 have H:((jM.f a1 0 (wrap64 ((l0_0.length:Int) - 1))).bind fun t533=>(some t533))=some r:=h
 clear h
 replace H:=bzS H
 obtain ⟨t533,A30,H⟩:=H
 replace H:(some t533)=some r:=H
 have A3:=am A30
 clear A30
 obtain rfl:=Option.some.inj H
 go_enter Try.func70,Try.ntmps70
 go_wp2_with (first |((with_reducible refine jJ (N:=2) rfl ?_);refine bE (N:=2) (cs:=#[.slice A0_0 l0_0.length c0_0]) (t:=25) ?_;intro gb532 hg w4 hbox hb;have BK532:=am (hbox);have GW532:=am ((Y3:w.heap.size≤gb532));have GE532:=am ((Y3:w.heap.size≤gb532));replace HB:=am (je (bq) hb);clear hb hbox hg;have hcz5_0:=bc0 BK532.out;have hfz5_0:=ja BK532.out 0) |((with_reducible refine jd (f:=61) rfl ?_);refine gL (some 10) Try.func61 #[.int .i64 a1, .int .i64 0, .int .i64 (wrap64 ((l0_0.length:Int) - 1))] ?_;(with_reducible refine (jM.calls a1 0 (wrap64 ((l0_0.length:Int) - 1)) t533 _ A3.out).mono ?_);rintro e w' ⟨rfl,⟨nd,rfl⟩⟩;refine ⟨_,rfl,?_⟩))
 go_ret
 exact ⟨Y0,by repeat (first |(with_reducible first | exact HB.out | apply jL | apply jm | apply jE | refine jK ?_ GE532.out) | exact HB.out)⟩
def jza.j0 : Nat → Int → Bool → List (S75) → Int → Int → Int → Int → Option (Bool)
 | 0,_,_,_,_,_,_,_=>none
 | k+1,x6,x7,x535000,x536000,x536001,x536002,x536003=>if x7=true then ((jM.f x536002 0 99).bind fun t536=>(if t536=true then (some (x536003 == 0)) else (some false))) else (if x6=2 then ((jOa.f x535000 x536002).bind fun t537=>(if t537=true then ((jM.f x536003 0 99).bind fun t538=>(some t538)) else (some false))) else (if x6=8 then ((jOa.f x535000 x536002).bind fun t539=>(if t539=true then (some (x536003 == 0)) else (some false))) else (if x6=11 then ((jM.f x536002 0 9).bind fun t540=>(if t540=true then ((jM.f x536003 0 1).bind fun t541=>(some t541)) else (some false))) else (if x6=12 then ((jM.f x536002 0 3).bind fun t542=>(if t542=true then (some (x536003 == 0)) else (some false))) else ((jM.f x536001 0 10).bind fun t543=>(if t543=true then (if x536002=0 then (some (x536003 == 0)) else (some false)) else (some false)))))))
def jza.f (k : Nat) (l0_0 : List (S75)) (a1_0 : Int) (a1_1 : Int) (a1_2 : Int) (a1_3 : Int) : Option (Bool) := if a1_1 = 1 then (jza.j0 k a1_1 (a1_1 == 1) l0_0 a1_0 a1_1 a1_2 a1_3) else (jza.j0 k a1_1 (a1_1 == 4) l0_0 a1_0 a1_1 a1_2 a1_3)
set_option maxHeartbeats 8000000 in
set_option maxRecDepth 100000 in
theorem jza.calls (k : Nat) (A0_0 : Option Addr) (c0_0 : Nat) (l0_0 : List (S75)) (a1_0 : Int) (a1_1 : Int) (a1_2 : Int) (a1_3 : Int) (r : Bool) (w : World) (hr0_0 : Kd.C k75 w A0_0 l0_0.length l0_0) (hc0_0 : l0_0.length ≤ c0_0) (h : jza.f k l0_0 a1_0 a1_1 a1_2 a1_3 = some r) :
  Calls Try.prog 93 #[.agg #[.slice A0_0 l0_0.length c0_0], .agg #[.int .i64 a1_0, .int .i64 a1_1, .int .i64 a1_2, .int .i64 a1_3]] w fun e w'=>e=.returned (.bool r)∧Below w.heap.size w w':=by
 have hu25:=Try.underlying25
 have hu36:=Try.underlying36
 have HR0_0:=am hr0_0
 have HC0_0:=am hc0_0
 clear hr0_0 hc0_0
 have HB:=am (Below.refl w.heap.size w)
 have H:(if a1_1=1 then (jza.j0 k a1_1 (a1_1 == 1) l0_0 a1_0 a1_1 a1_2 a1_3) else (jza.j0 k a1_1 (a1_1 == 4) l0_0 a1_0 a1_1 a1_2 a1_3))=some r:=h
 clear h
 have HC3:=am H
 clear H
 go_enter Try.func93,Try.ntmps93
 go_upto_if 7 with (first |((with_reducible refine jJ (N:=2) rfl ?_);refine bE (N:=2) (cs:=#[.slice A0_0 l0_0.length c0_0]) (t:=25) ?_;intro gb534 hg w4 hbox hb;have BK534:=am (hbox);have GW534:=am ((Y3:w.heap.size≤gb534));have GE534:=am ((Y3:w.heap.size≤gb534));replace HB:=am (je (bq) hb);clear hb hbox hg) |((with_reducible refine jJ (N:=3) rfl ?_);refine bE (N:=3) (cs:=#[.int .i64 a1_0, .int .i64 a1_1, .int .i64 a1_2, .int .i64 a1_3]) (t:=36) ?_;intro gb535 hg w5 hbox hb;have BK535:=am (hbox);have GW535:=am ((Y129:w.heap.size≤gb535));have GE535:=am ((Y129:w.heap.size≤gb535));have NB534_535:=am ((by rw [hg];exact Nat.ne_of_lt (jDb (g:=gb534) (o:=.cells #[.slice A0_0 l0_0.length c0_0] 25 (0,0)) (kq BK534.out)):gb534≠gb535));have NB535_534:=am ((by rw [hg];exact Nat.ne_of_gt (jDb (g:=gb534) (o:=.cells #[.slice A0_0 l0_0.length c0_0] 25 (0,0)) (kq BK534.out)):gb535≠gb534));replace BK534:=am (jk (g:=gb534) (o:=.cells #[.slice A0_0 l0_0.length c0_0] 25 (0,0)) (kq BK534.out) hb);replace HB:=am (je (by repeat (first |(with_reducible first | exact HB.out | apply jL | apply jm | apply jE | refine jK ?_ GE534.out) | exact HB.out)) hb);clear hb hbox hg;have hnb6:=NB535_534.out;have hnc6:=NB534_535.out;have hcz7_0:=bc0 BK535.out;have hcz7_1:=bc1 BK535.out;have hcz7_2:=bc2 BK535.out;have hcz7_3:=bc3 BK535.out;have hfz7_0:=ja BK535.out 0;have hfz7_1:=ja BK535.out 1;have hfz7_2:=ja BK535.out 2;have hfz7_3:=ja BK535.out 3))
 (try simp only [Act.put,List.setIfInBounds_toArray,List.set_cons_zero,List.set_cons_succ])
 go_cut [7] (fun v7 wc=>∃ (kq:Nat) (x7_2:Bool),v7=.bool x7_2∧jq (jza.j0 kq a1_1 x7_2 l0_0 a1_0 a1_1 a1_2 a1_3=some r)∧jq (kq≤k)∧jq (wc.heap[gb534]?=some (.cells #[(.slice A0_0 l0_0.length c0_0)] 25 (0,0)))∧jq (wc.heap[gb535]?=some (.cells #[.int .i64 a1_0, .int .i64 a1_1, .int .i64 a1_2, .int .i64 a1_3] 36 (0,0)))∧jq (Below w.heap.size w wc))
 case first =>
  have H:=HC3.out
  clear HC3
  by_cases c8:a1_1=1
  ·rw [if_pos c8] at H
   have c8b0:(a1_1 == 1)=true:=beq_iff_eq.mpr c8
   have c8b1:(a1_1 != 1)=false:=bne_eq_false_iff_eq.mpr c8
   clear c8
   (first | rw [c8b0] |(simp only [jkb,jmb];rw [c8b0]) | skip)
   have H':=am H
   clear H
   go_wp2
   go_meet
   case rel=>exact ⟨_,((a1_1 == 1)),(sq),H',⟨Y32⟩,⟨kq BK534.out⟩,⟨kq BK535.out⟩,⟨Y25⟩⟩
  ·rw [if_neg c8] at H
   have c8b0:(a1_1 == 1)=false:=beq_eq_false_iff_ne.mpr c8
   have c8b1:(a1_1 != 1)=true:=bne_iff_ne.mpr c8
   (first | rw [c8b0] |(simp only [jkb,jmb];rw [c8b0]) | skip)
   have H':=am H
   clear H
   go_wp2
   go_meet
   case rel=>exact ⟨_,((a1_1 == 4)),(sq),H',⟨Y32⟩,⟨kq BK534.out⟩,⟨kq BK535.out⟩,⟨Y25⟩⟩
 case rest =>
  clear HC3
  try clear p2
  try clear c6
  try clear c8
  try clear c8b0
  try clear c8b1
  try clear hcz7_0
  try clear hcz7_1
  try clear hcz7_2
  try clear hcz7_3
  try clear hfz7_0
  try clear hfz7_1
  try clear hfz7_2
  try clear hfz7_3
  obtain ⟨kq,x7_2,rfl,HA,HJ2,BK534,BK535,HB⟩:=hcut
  cases kq with
  | zero=>exact absurd HA.out (by simp [jza.j0])
  | succ kj2 =>
   have H:=HA.out
   clear HA
   simp only [jza.j0] at H
   by_cases c9:x7_2=true
   ·subst c9
    have H1:((jM.f a1_2 0 99).bind fun t536=>(if t536=true then (some (a1_3 == 0)) else (some false)))=some r:=by rw [if_pos rfl] at H;exact H
    clear H
    have H:=H1
    clear H1
    replace H:=bzS H
    obtain ⟨t536,A100,H⟩:=H
    replace H:(if t536=true then (some (a1_3 == 0)) else (some false))=some r:=H
    have A10:=am A100
    clear A100
    by_cases c11:t536=true
    ·subst c11
     have H1:(some (a1_3 == 0))=some r:=by rw [if_pos rfl] at H;exact H
     clear H
     have H:=H1
     clear H1
     obtain rfl:=Option.some.inj H
     have hnb12:=NB535_534.out
     have hnc12:=NB534_535.out
     have hcz13_0:=bc0 BK535.out
     have hcz13_1:=bc1 BK535.out
     have hcz13_2:=bc2 BK535.out
     have hcz13_3:=bc3 BK535.out
     have hfz13_0:=ja BK535.out 0
     have hfz13_1:=ja BK535.out 1
     have hfz13_2:=ja BK535.out 2
     have hfz13_3:=ja BK535.out 3
     go_wp2_with (first |((with_reducible refine jd (f:=61) rfl ?_);refine gL (some 12) Try.func61 #[.int .i64 a1_2, .int .i64 0, .int .i64 99] ?_;(with_reducible refine (jM.calls a1_2 0 99 true _ A10.out).mono ?_);rintro e w' ⟨rfl,⟨nd,rfl⟩⟩;refine ⟨_,rfl,?_⟩))
     go_ret
     exact ⟨Y0,Y25⟩
    ·replace c11:=Bool.eq_false_iff.mpr c11
     subst c11
     have H1:(some false)=some r:=by rw [if_neg (show ¬ (false=true) by decide)] at H;exact H
     clear H
     have H:=H1
     clear H1
     obtain rfl:=Option.some.inj H
     have hnb14:=NB535_534.out
     have hnc14:=NB534_535.out
     have hcz15_0:=bc0 BK535.out
     have hcz15_1:=bc1 BK535.out
     have hcz15_2:=bc2 BK535.out
     have hcz15_3:=bc3 BK535.out
     have hfz15_0:=ja BK535.out 0
     have hfz15_1:=ja BK535.out 1
     have hfz15_2:=ja BK535.out 2
     have hfz15_3:=ja BK535.out 3
     go_wp2_with (first |((with_reducible refine jd (f:=61) rfl ?_);refine gL (some 12) Try.func61 #[.int .i64 a1_2, .int .i64 0, .int .i64 99] ?_;(with_reducible refine (jM.calls a1_2 0 99 false _ A10.out).mono ?_);rintro e w' ⟨rfl,⟨nd,rfl⟩⟩;refine ⟨_,rfl,?_⟩))
     go_ret
     exact ⟨Y0,Y25⟩
   ·replace c9:=Bool.eq_false_iff.mpr c9
    subst c9
    have H1:(if a1_1=2 then ((jOa.f l0_0 a1_2).bind fun t537=>(if t537=true then ((jM.f a1_3 0 99).bind fun t538=>(some t538)) else (some false))) else (if a1_1=8 then ((jOa.f l0_0 a1_2).bind fun t539=>(if t539=true then (some (a1_3 == 0)) else (some false))) else (if a1_1=11 then ((jM.f a1_2 0 9).bind fun t540=>(if t540=true then ((jM.f a1_3 0 1).bind fun t541=>(some t541)) else (some false))) else (if a1_1=12 then ((jM.f a1_2 0 3).bind fun t542=>(if t542=true then (some (a1_3 == 0)) else (some false))) else ((jM.f a1_1 0 10).bind fun t543=>(if t543=true then (if a1_2=0 then (some (a1_3 == 0)) else (some false)) else (some false)))))))=some r:=by rw [if_neg (show ¬ (false=true) by decide)] at H;exact H
    clear H
    have H:=H1
    clear H1
    by_cases c16:a1_1=2
    ·rw [if_pos c16] at H
     have c16b0:(a1_1 == 2)=true:=beq_iff_eq.mpr c16
     have c16b1:(a1_1 != 2)=false:=bne_eq_false_iff_eq.mpr c16
     clear c16
     replace H:=bzS H
     obtain ⟨t537,A170,H⟩:=H
     replace H:(if t537=true then ((jM.f a1_3 0 99).bind fun t538=>(some t538)) else (some false))=some r:=H
     have A17:=am A170
     clear A170
     by_cases c18:t537=true
     ·subst c18
      have H1:((jM.f a1_3 0 99).bind fun t538=>(some t538))=some r:=by rw [if_pos rfl] at H;exact H
      clear H
      have H:=H1
      clear H1
      replace H:=bzS H
      obtain ⟨t538,A190,H⟩:=H
      replace H:(some t538)=some r:=H
      have A19:=am A190
      clear A190
      obtain rfl:=Option.some.inj H
      have hnb20:=NB534_535.out
      have hnc20:=NB535_534.out
      have hcz21_0:=bc0 BK534.out
      have hfz21_0:=ja BK534.out 0
      have hcz22_0:=bc0 BK535.out
      have hcz22_1:=bc1 BK535.out
      have hcz22_2:=bc2 BK535.out
      have hcz22_3:=bc3 BK535.out
      have hfz22_0:=ja BK535.out 0
      have hfz22_1:=ja BK535.out 1
      have hfz22_2:=ja BK535.out 2
      have hfz22_3:=ja BK535.out 3
      go_wp2_with (first |((with_reducible refine jd (f:=70) rfl ?_);refine gL (some 23) Try.func70 #[.agg #[.slice A0_0 l0_0.length c0_0], .int .i64 a1_2] ?_;(with_reducible refine (jOa.calls _ _ l0_0 a1_2 true _ ?side1 ?side2 A17.out).mono ?_);(case side1=>exact cq (Kd.jT HR0_0.out HB.out));(case side2=>exact HC0_0.out);rintro e w23 ⟨rfl,hb⟩;refine ⟨_,rfl,?_⟩;replace BK534:=am (jk (g:=gb534) (o:=.cells #[.slice A0_0 l0_0.length c0_0] 25 (0,0)) (kq BK534.out) hb);replace BK535:=am (jk (g:=gb535) (o:=.cells #[.int .i64 a1_0, .int .i64 a1_1, .int .i64 a1_2, .int .i64 a1_3] 36 (0,0)) (kq BK535.out) hb);replace HB:=am (je (Y25) hb);(try clear hb);(try clear hb2);(try clear hk);(try clear hi);have hcz24_0:=bc0 BK535.out;have hcz24_1:=bc1 BK535.out;have hcz24_2:=bc2 BK535.out;have hcz24_3:=bc3 BK535.out;have hfz24_0:=ja BK535.out 0;have hfz24_1:=ja BK535.out 1;have hfz24_2:=ja BK535.out 2;have hfz24_3:=ja BK535.out 3) |(go_at_call 61;(with_reducible refine (jM.calls a1_3 0 99 t538 _ A19.out).mono ?_);rintro e w' ⟨rfl,⟨nd,rfl⟩⟩))
      go_ret
      exact ⟨Y0,Y25⟩
     ·replace c18:=Bool.eq_false_iff.mpr c18
      subst c18
      have H1:(some false)=some r:=by rw [if_neg (show ¬ (false=true) by decide)] at H;exact H
      clear H
      have H:=H1
      clear H1
      obtain rfl:=Option.some.inj H
      have hnb25:=NB534_535.out
      have hnc25:=NB535_534.out
      have hcz26_0:=bc0 BK534.out
      have hfz26_0:=ja BK534.out 0
      have hcz27_0:=bc0 BK535.out
      have hcz27_1:=bc1 BK535.out
      have hcz27_2:=bc2 BK535.out
      have hcz27_3:=bc3 BK535.out
      have hfz27_0:=ja BK535.out 0
      have hfz27_1:=ja BK535.out 1
      have hfz27_2:=ja BK535.out 2
      have hfz27_3:=ja BK535.out 3
      go_wp2_with (first |((with_reducible refine jd (f:=70) rfl ?_);refine gL (some 23) Try.func70 #[.agg #[.slice A0_0 l0_0.length c0_0], .int .i64 a1_2] ?_;(with_reducible refine (jOa.calls _ _ l0_0 a1_2 false _ ?side1 ?side2 A17.out).mono ?_);(case side1=>exact cq (Kd.jT HR0_0.out HB.out));(case side2=>exact HC0_0.out);rintro e w28 ⟨rfl,hb⟩;refine ⟨_,rfl,?_⟩;replace BK534:=am (jk (g:=gb534) (o:=.cells #[.slice A0_0 l0_0.length c0_0] 25 (0,0)) (kq BK534.out) hb);replace BK535:=am (jk (g:=gb535) (o:=.cells #[.int .i64 a1_0, .int .i64 a1_1, .int .i64 a1_2, .int .i64 a1_3] 36 (0,0)) (kq BK535.out) hb);replace HB:=am (je (Y25) hb);(try clear hb);(try clear hb2);(try clear hk);(try clear hi)))
      go_ret
      exact ⟨Y0,Y25⟩
    ·rw [if_neg c16] at H
     have c16b0:(a1_1 == 2)=false:=beq_eq_false_iff_ne.mpr c16
     have c16b1:(a1_1 != 2)=true:=bne_iff_ne.mpr c16
     by_cases c29:a1_1=8
     ·rw [if_pos c29] at H
      have c29b0:(a1_1 == 8)=true:=beq_iff_eq.mpr c29
      have c29b1:(a1_1 != 8)=false:=bne_eq_false_iff_eq.mpr c29
      clear c29
      replace H:=bzS H
      obtain ⟨t539,A300,H⟩:=H
      replace H:(if t539=true then (some (a1_3 == 0)) else (some false))=some r:=H
      have A30:=am A300
      clear A300
      by_cases c31:t539=true
      ·subst c31
       have H1:(some (a1_3 == 0))=some r:=by rw [if_pos rfl] at H;exact H
       clear H
       have H:=H1
       clear H1
       obtain rfl:=Option.some.inj H
       have hnb32:=NB534_535.out
       have hnc32:=NB535_534.out
       have hcz33_0:=bc0 BK534.out
       have hfz33_0:=ja BK534.out 0
       have hcz34_0:=bc0 BK535.out
       have hcz34_1:=bc1 BK535.out
       have hcz34_2:=bc2 BK535.out
       have hcz34_3:=bc3 BK535.out
       have hfz34_0:=ja BK535.out 0
       have hfz34_1:=ja BK535.out 1
       have hfz34_2:=ja BK535.out 2
       have hfz34_3:=ja BK535.out 3
       go_wp2_with (first |((with_reducible refine jd (f:=70) rfl ?_);refine gL (some 34) Try.func70 #[.agg #[.slice A0_0 l0_0.length c0_0], .int .i64 a1_2] ?_;(with_reducible refine (jOa.calls _ _ l0_0 a1_2 true _ ?side1 ?side2 A30.out).mono ?_);(case side1=>exact cq (Kd.jT HR0_0.out HB.out));(case side2=>exact HC0_0.out);rintro e w35 ⟨rfl,hb⟩;refine ⟨_,rfl,?_⟩;replace BK534:=am (jk (g:=gb534) (o:=.cells #[.slice A0_0 l0_0.length c0_0] 25 (0,0)) (kq BK534.out) hb);replace BK535:=am (jk (g:=gb535) (o:=.cells #[.int .i64 a1_0, .int .i64 a1_1, .int .i64 a1_2, .int .i64 a1_3] 36 (0,0)) (kq BK535.out) hb);replace HB:=am (je (Y25) hb);(try clear hb);(try clear hb2);(try clear hk);(try clear hi);have hcz36_0:=bc0 BK535.out;have hcz36_1:=bc1 BK535.out;have hcz36_2:=bc2 BK535.out;have hcz36_3:=bc3 BK535.out;have hfz36_0:=ja BK535.out 0;have hfz36_1:=ja BK535.out 1;have hfz36_2:=ja BK535.out 2;have hfz36_3:=ja BK535.out 3))
       go_ret
       exact ⟨Y0,Y25⟩
      ·replace c31:=Bool.eq_false_iff.mpr c31
       subst c31
       have H1:(some false)=some r:=by rw [if_neg (show ¬ (false=true) by decide)] at H;exact H
       clear H
       have H:=H1
       clear H1
       obtain rfl:=Option.some.inj H
       have hnb37:=NB534_535.out
       have hnc37:=NB535_534.out
       have hcz38_0:=bc0 BK534.out
       have hfz38_0:=ja BK534.out 0
       have hcz39_0:=bc0 BK535.out
       have hcz39_1:=bc1 BK535.out
       have hcz39_2:=bc2 BK535.out
       have hcz39_3:=bc3 BK535.out
       have hfz39_0:=ja BK535.out 0
       have hfz39_1:=ja BK535.out 1
       have hfz39_2:=ja BK535.out 2
       have hfz39_3:=ja BK535.out 3
       go_wp2_with (first |((with_reducible refine jd (f:=70) rfl ?_);refine gL (some 34) Try.func70 #[.agg #[.slice A0_0 l0_0.length c0_0], .int .i64 a1_2] ?_;(with_reducible refine (jOa.calls _ _ l0_0 a1_2 false _ ?side1 ?side2 A30.out).mono ?_);(case side1=>exact cq (Kd.jT HR0_0.out HB.out));(case side2=>exact HC0_0.out);rintro e w40 ⟨rfl,hb⟩;refine ⟨_,rfl,?_⟩;replace BK534:=am (jk (g:=gb534) (o:=.cells #[.slice A0_0 l0_0.length c0_0] 25 (0,0)) (kq BK534.out) hb);replace BK535:=am (jk (g:=gb535) (o:=.cells #[.int .i64 a1_0, .int .i64 a1_1, .int .i64 a1_2, .int .i64 a1_3] 36 (0,0)) (kq BK535.out) hb);replace HB:=am (je (Y25) hb);(try clear hb);(try clear hb2);(try clear hk);(try clear hi)))
       go_ret
       exact ⟨Y0,Y25⟩
     ·rw [if_neg c29] at H
      have c29b0:(a1_1 == 8)=false:=beq_eq_false_iff_ne.mpr c29
      have c29b1:(a1_1 != 8)=true:=bne_iff_ne.mpr c29
      by_cases c41:a1_1=11
      ·rw [if_pos c41] at H
       have c41b0:(a1_1 == 11)=true:=beq_iff_eq.mpr c41
       have c41b1:(a1_1 != 11)=false:=bne_eq_false_iff_eq.mpr c41
       clear c41
       replace H:=bzS H
       obtain ⟨t540,A420,H⟩:=H
       replace H:(if t540=true then ((jM.f a1_3 0 1).bind fun t541=>(some t541)) else (some false))=some r:=H
       have A42:=am A420
       clear A420
       by_cases c43:t540=true
       ·subst c43
        have H1:((jM.f a1_3 0 1).bind fun t541=>(some t541))=some r:=by rw [if_pos rfl] at H;exact H
        clear H
        have H:=H1
        clear H1
        replace H:=bzS H
        obtain ⟨t541,A440,H⟩:=H
        replace H:(some t541)=some r:=H
        have A44:=am A440
        clear A440
        obtain rfl:=Option.some.inj H
        have hnb45:=NB535_534.out
        have hnc45:=NB534_535.out
        have hcz46_0:=bc0 BK535.out
        have hcz46_1:=bc1 BK535.out
        have hcz46_2:=bc2 BK535.out
        have hcz46_3:=bc3 BK535.out
        have hfz46_0:=ja BK535.out 0
        have hfz46_1:=ja BK535.out 1
        have hfz46_2:=ja BK535.out 2
        have hfz46_3:=ja BK535.out 3
        go_wp2_with (first |((with_reducible refine jd (f:=61) rfl ?_);refine gL (some 44) Try.func61 #[.int .i64 a1_2, .int .i64 0, .int .i64 9] ?_;(with_reducible refine (jM.calls a1_2 0 9 true _ A42.out).mono ?_);rintro e w' ⟨rfl,⟨nd,rfl⟩⟩;refine ⟨_,rfl,?_⟩) |(go_at_call 61;(with_reducible refine (jM.calls a1_3 0 1 t541 _ A44.out).mono ?_);rintro e w' ⟨rfl,⟨nd,rfl⟩⟩))
        go_ret
        exact ⟨Y0,Y25⟩
       ·replace c43:=Bool.eq_false_iff.mpr c43
        subst c43
        have H1:(some false)=some r:=by rw [if_neg (show ¬ (false=true) by decide)] at H;exact H
        clear H
        have H:=H1
        clear H1
        obtain rfl:=Option.some.inj H
        have hnb47:=NB535_534.out
        have hnc47:=NB534_535.out
        have hcz48_0:=bc0 BK535.out
        have hcz48_1:=bc1 BK535.out
        have hcz48_2:=bc2 BK535.out
        have hcz48_3:=bc3 BK535.out
        have hfz48_0:=ja BK535.out 0
        have hfz48_1:=ja BK535.out 1
        have hfz48_2:=ja BK535.out 2
        have hfz48_3:=ja BK535.out 3
        go_wp2_with (first |((with_reducible refine jd (f:=61) rfl ?_);refine gL (some 44) Try.func61 #[.int .i64 a1_2, .int .i64 0, .int .i64 9] ?_;(with_reducible refine (jM.calls a1_2 0 9 false _ A42.out).mono ?_);rintro e w' ⟨rfl,⟨nd,rfl⟩⟩;refine ⟨_,rfl,?_⟩))
        go_ret
        exact ⟨Y0,Y25⟩
      ·rw [if_neg c41] at H
       have c41b0:(a1_1 == 11)=false:=beq_eq_false_iff_ne.mpr c41
       have c41b1:(a1_1 != 11)=true:=bne_iff_ne.mpr c41
       by_cases c49:a1_1=12
       ·rw [if_pos c49] at H
        have c49b0:(a1_1 == 12)=true:=beq_iff_eq.mpr c49
        have c49b1:(a1_1 != 12)=false:=bne_eq_false_iff_eq.mpr c49
        clear c49
        replace H:=bzS H
        obtain ⟨t542,A500,H⟩:=H
        replace H:(if t542=true then (some (a1_3 == 0)) else (some false))=some r:=H
        have A50:=am A500
        clear A500
        by_cases c51:t542=true
        ·subst c51
         have H1:(some (a1_3 == 0))=some r:=by rw [if_pos rfl] at H;exact H
         clear H
         have H:=H1
         clear H1
         obtain rfl:=Option.some.inj H
         have hnb52:=NB535_534.out
         have hnc52:=NB534_535.out
         have hcz53_0:=bc0 BK535.out
         have hcz53_1:=bc1 BK535.out
         have hcz53_2:=bc2 BK535.out
         have hcz53_3:=bc3 BK535.out
         have hfz53_0:=ja BK535.out 0
         have hfz53_1:=ja BK535.out 1
         have hfz53_2:=ja BK535.out 2
         have hfz53_3:=ja BK535.out 3
         go_wp2_with (first |((with_reducible refine jd (f:=61) rfl ?_);refine gL (some 54) Try.func61 #[.int .i64 a1_2, .int .i64 0, .int .i64 3] ?_;(with_reducible refine (jM.calls a1_2 0 3 true _ A50.out).mono ?_);rintro e w' ⟨rfl,⟨nd,rfl⟩⟩;refine ⟨_,rfl,?_⟩))
         go_ret
         exact ⟨Y0,Y25⟩
        ·replace c51:=Bool.eq_false_iff.mpr c51
         subst c51
         have H1:(some false)=some r:=by rw [if_neg (show ¬ (false=true) by decide)] at H;exact H
         clear H
         have H:=H1
         clear H1
         obtain rfl:=Option.some.inj H
         have hnb54:=NB535_534.out
         have hnc54:=NB534_535.out
         have hcz55_0:=bc0 BK535.out
         have hcz55_1:=bc1 BK535.out
         have hcz55_2:=bc2 BK535.out
         have hcz55_3:=bc3 BK535.out
         have hfz55_0:=ja BK535.out 0
         have hfz55_1:=ja BK535.out 1
         have hfz55_2:=ja BK535.out 2
         have hfz55_3:=ja BK535.out 3
         go_wp2_with (first |((with_reducible refine jd (f:=61) rfl ?_);refine gL (some 54) Try.func61 #[.int .i64 a1_2, .int .i64 0, .int .i64 3] ?_;(with_reducible refine (jM.calls a1_2 0 3 false _ A50.out).mono ?_);rintro e w' ⟨rfl,⟨nd,rfl⟩⟩;refine ⟨_,rfl,?_⟩))
         go_ret
         exact ⟨Y0,Y25⟩
       ·rw [if_neg c49] at H
        have c49b0:(a1_1 == 12)=false:=beq_eq_false_iff_ne.mpr c49
        have c49b1:(a1_1 != 12)=true:=bne_iff_ne.mpr c49
        replace H:=bzS H
        obtain ⟨t543,A560,H⟩:=H
        replace H:(if t543=true then (if a1_2=0 then (some (a1_3 == 0)) else (some false)) else (some false))=some r:=H
        have A56:=am A560
        clear A560
        by_cases c57:t543=true
        ·subst c57
         have H1:(if a1_2=0 then (some (a1_3 == 0)) else (some false))=some r:=by rw [if_pos rfl] at H;exact H
         clear H
         have H:=H1
         clear H1
         by_cases c58:a1_2=0
         ·rw [if_pos c58] at H
          have c58b0:(a1_2 == 0)=true:=beq_iff_eq.mpr c58
          have c58b1:(a1_2 != 0)=false:=bne_eq_false_iff_eq.mpr c58
          clear c58
          obtain rfl:=Option.some.inj H
          have hnb59:=NB535_534.out
          have hnc59:=NB534_535.out
          have hcz60_0:=bc0 BK535.out
          have hcz60_1:=bc1 BK535.out
          have hcz60_2:=bc2 BK535.out
          have hcz60_3:=bc3 BK535.out
          have hfz60_0:=ja BK535.out 0
          have hfz60_1:=ja BK535.out 1
          have hfz60_2:=ja BK535.out 2
          have hfz60_3:=ja BK535.out 3
          go_wp2_with (first |((with_reducible refine jd (f:=61) rfl ?_);refine gL (some 62) Try.func61 #[.int .i64 a1_1, .int .i64 0, .int .i64 10] ?_;(with_reducible refine (jM.calls a1_1 0 10 true _ A56.out).mono ?_);rintro e w' ⟨rfl,⟨nd,rfl⟩⟩;refine ⟨_,rfl,?_⟩))
          go_ret
          exact ⟨Y0,Y25⟩
         ·rw [if_neg c58] at H
          have c58b0:(a1_2 == 0)=false:=beq_eq_false_iff_ne.mpr c58
          have c58b1:(a1_2 != 0)=true:=bne_iff_ne.mpr c58
          obtain rfl:=Option.some.inj H
          have hnb61:=NB535_534.out
          have hnc61:=NB534_535.out
          have hcz62_0:=bc0 BK535.out
          have hcz62_1:=bc1 BK535.out
          have hcz62_2:=bc2 BK535.out
          have hcz62_3:=bc3 BK535.out
          have hfz62_0:=ja BK535.out 0
          have hfz62_1:=ja BK535.out 1
          have hfz62_2:=ja BK535.out 2
          have hfz62_3:=ja BK535.out 3
          go_wp2_with (first |((with_reducible refine jd (f:=61) rfl ?_);refine gL (some 62) Try.func61 #[.int .i64 a1_1, .int .i64 0, .int .i64 10] ?_;(with_reducible refine (jM.calls a1_1 0 10 true _ A56.out).mono ?_);rintro e w' ⟨rfl,⟨nd,rfl⟩⟩;refine ⟨_,rfl,?_⟩))
          go_ret
          exact ⟨Y0,Y25⟩
        ·replace c57:=Bool.eq_false_iff.mpr c57
         subst c57
         have H1:(some false)=some r:=by rw [if_neg (show ¬ (false=true) by decide)] at H;exact H
         clear H
         have H:=H1
         clear H1
         obtain rfl:=Option.some.inj H
         have hnb63:=NB535_534.out
         have hnc63:=NB534_535.out
         have hcz64_0:=bc0 BK535.out
         have hcz64_1:=bc1 BK535.out
         have hcz64_2:=bc2 BK535.out
         have hcz64_3:=bc3 BK535.out
         have hfz64_0:=ja BK535.out 0
         have hfz64_1:=ja BK535.out 1
         have hfz64_2:=ja BK535.out 2
         have hfz64_3:=ja BK535.out 3
         go_wp2_with (first |((with_reducible refine jd (f:=61) rfl ?_);refine gL (some 62) Try.func61 #[.int .i64 a1_1, .int .i64 0, .int .i64 10] ?_;(with_reducible refine (jM.calls a1_1 0 10 false _ A56.out).mono ?_);rintro e w' ⟨rfl,⟨nd,rfl⟩⟩;refine ⟨_,rfl,?_⟩))
         go_ret
         exact ⟨Y0,Y25⟩
def jSc.f (a0 : Int) : Option (Bool) := (jM.f a0 7 12).bind fun t544 => (some t544)
set_option maxHeartbeats 8000000 in
set_option maxRecDepth 100000 in
theorem jSc.calls (a0 : Int) (r : Bool) (w : World) (h : jSc.f a0 = some r) :
  Calls Try.prog 94 #[.int .i64 a0] w fun e w'=>e=.returned (.bool r)∧jsb w w':=by
 have H:((jM.f a0 7 12).bind fun t544=>(some t544))=some r:=h
 clear h
 replace H:=bzS H
 obtain ⟨t544,A20,H⟩:=H
 replace H:(some t544)=some r:=H
 have A2:=am A20
 clear A20
 obtain rfl:=Option.some.inj H
 go_enter Try.func94,Try.ntmps94
 go_wp2_with (first |((with_reducible refine jd (f:=61) rfl ?_);refine gL (some 4) Try.func61 #[.int .i64 a0, .int .i64 7, .int .i64 12] ?_;(with_reducible refine (jM.calls a0 7 12 t544 _ A2.out).mono ?_);rintro e w' ⟨rfl,⟨nd,rfl⟩⟩;refine ⟨_,rfl,?_⟩))
 go_ret
 exact ⟨sq,Y7⟩
def jva.l0 : Nat → List (S36) → Int → Int → Option (Int)
 | 0,_,_,_=>none
 | k+1,x0,x1,x5=>if x5<(x0.length:Int) then (if 0≤x5 then (if 0≤x1 then (if x1<(x0.length:Int) then (if ((jc x0 x5).f0) > ((jc x0 x1).f0) then (jva.l0 k x0 x1 (wrap64 (x5+1))) else (some x5)) else (none)) else (none)) else (none)) else (some x5)
def jva.f (k : Nat) (l0 : List (S36)) (a1 : Int) : Option (Int) := jva.l0 k l0 a1 (wrap64 (a1 + 1))
set_option maxHeartbeats 8000000 in
set_option maxRecDepth 100000 in
theorem jva.calls (k : Nat) (A0 : Option Addr) (c0 : Nat) (l0 : List (S36)) (a1 : Int) (r : Int) (w : World) (hr0 : Kd.C k36 w A0 l0.length l0) (hc0 : l0.length ≤ c0) (h : jva.f k l0 a1 = some r) :
  Calls Try.prog 100 #[.slice A0 l0.length c0, .int .i64 a1] w fun e w'=>e=.returned (.int .i64 r)∧jsb w w':=by
 have HR0:=am hr0
 have HC0:=am hc0
 clear hr0 hc0
 have H:(jva.l0 k l0 a1 (wrap64 (a1+1)))=some r:=h
 clear h
 have H':=am H
 clear H
 go_enter Try.func100,Try.ntmps100
 go_wp2
 repeat (go_quiet (fail);try go_wp2)
 go_loopg [5] k (fun kq v5 w'=>∃ (x5_1:Int),v5=.int .i64 x5_1∧jq (jva.l0 kq l0 a1 x5_1=some r)∧jq (kq≤k)∧jsb w w')
 case atStart=>exact ⟨(wrap64 (a1+1)),(sq),H',⟨Nat.le_refl _⟩,Y7⟩
 case round =>
  clear H'
  try clear c1
  try clear p2
  obtain ⟨x5_1,rfl,HA,HK1,⟨m1,rfl⟩⟩:=hrel
  cases gk with
  | zero=>exact absurd HA.out (by simp [jva.l0])
  | succ k1 =>
   have H:=HA.out
   clear HA
   simp only [jva.l0] at H
   by_cases c3:x5_1<(l0.length:Int)
   ·rw [if_pos c3] at H
    have c3b0:decide (x5_1<(l0.length:Int))=true:=dzT c3
    clear c3
    by_cases c4:0≤x5_1
    ·rw [if_pos c4] at H
     have c4b0:decide (0≤x5_1)=true:=dzT c4
     clear c4
     by_cases c5:0≤a1
     ·rw [if_pos c5] at H
      have c5b0:decide (0≤a1)=true:=dzT c5
      clear c5
      by_cases c6:a1<(l0.length:Int)
      ·rw [if_pos c6] at H
       have c6b0:decide (a1<(l0.length:Int))=true:=dzT c6
       clear c6
       by_cases c7:((jc l0 x5_1).f0) > ((jc l0 a1).f0)
       ·rw [if_pos c7] at H
        have c7b0:decide (((jc l0 a1).f0)<((jc l0 x5_1).f0))=true:=dzT c7
        clear c7
        have H':=am H
        clear H
        have p545:0≤(x5_1:Int):=ozD (uq)
        have q545:x5_1<(l0.length:Int):=ozD (uq)
        obtain ⟨ad545,e545,hx545_0,hx545_1,hx545_2,hx545_3⟩:=jna HR0.out x5_1 p545 q545
        cases e545
        replace p545:=ezT p545
        replace q545:=ezT q545
        have p546:0≤(a1:Int):=ozD (uq)
        have q546:a1<(l0.length:Int):=ozD (uq)
        obtain ⟨ad546,e546,hx546_0,hx546_1,hx546_2,hx546_3⟩:=jna HR0.out a1 p546 q546
        obtain rfl:ad545=ad546:=(by injection e546)
        replace p546:=ezT p546
        replace q546:=ezT q546
        go_wp2
        repeat (go_quiet (fail);try go_wp2)
        go_roundg k1
        case measure=>have:=HK1.out;omega
        case rel=>exact ⟨(wrap64 (x5_1+1)),(sq),H',⟨by have:=HK1.out;omega⟩,Y7⟩
       ·rw [if_neg c7] at H
        have c7b0:decide (((jc l0 a1).f0)<((jc l0 x5_1).f0))=false:=dzF c7
        clear c7
        obtain rfl:=Option.some.inj H
        have p545:0≤(x5_1:Int):=ozD (uq)
        have q545:x5_1<(l0.length:Int):=ozD (uq)
        obtain ⟨ad545,e545,hx545_0,hx545_1,hx545_2,hx545_3⟩:=jna HR0.out x5_1 p545 q545
        cases e545
        replace p545:=ezT p545
        replace q545:=ezT q545
        have p546:0≤(a1:Int):=ozD (uq)
        have q546:a1<(l0.length:Int):=ozD (uq)
        obtain ⟨ad546,e546,hx546_0,hx546_1,hx546_2,hx546_3⟩:=jna HR0.out a1 p546 q546
        obtain rfl:ad545=ad546:=(by injection e546)
        replace p546:=ezT p546
        replace q546:=ezT q546
        go_wp2
        repeat (go_quiet (fail);try go_wp2)
        go_ret
        exact ⟨sq,Y7⟩
      ·rw [if_neg c6] at H
       exact absurd H (by simp)
     ·rw [if_neg c5] at H
      exact absurd H (by simp)
    ·rw [if_neg c4] at H
     exact absurd H (by simp)
   ·rw [if_neg c3] at H
    have c3b0:decide (x5_1<(l0.length:Int))=false:=dzF c3
    clear c3
    obtain rfl:=Option.some.inj H
    go_wp2
    repeat (go_quiet (fail);try go_wp2)
    go_ret
    exact ⟨sq,Y7⟩
def jlb.f (k : Nat) (l0 : List (S36)) (a1 : Int) : Option (Int) := (jva.f k l0 a1).bind fun t547 => (if t547 < (l0.length : Int) then (if 0 ≤ t547 then (if 0 ≤ a1 then (if a1 < (l0.length : Int) then (if ((jc l0 t547).f0) = ((jc l0 a1).f0) then (some t547) else (some (l0.length : Int))) else (none)) else (none)) else (none)) else (some (l0.length : Int)))
set_option maxHeartbeats 8000000 in
set_option maxRecDepth 100000 in
theorem jlb.calls (k : Nat) (A0 : Option Addr) (c0 : Nat) (l0 : List (S36)) (a1 : Int) (r : Int) (w : World) (hr0 : Kd.C k36 w A0 l0.length l0) (hc0 : l0.length ≤ c0) (h : jlb.f k l0 a1 = some r) :
  Calls Try.prog 84 #[.slice A0 l0.length c0, .int .i64 a1] w fun e w'=>e=.returned (.int .i64 r)∧jsb w w':=by
 have HR0:=am hr0
 have HC0:=am hc0
 clear hr0 hc0
 have H:((jva.f k l0 a1).bind fun t547=>(if t547<(l0.length:Int) then (if 0≤t547 then (if 0≤a1 then (if a1<(l0.length:Int) then (if ((jc l0 t547).f0)=((jc l0 a1).f0) then (some t547) else (some (l0.length:Int))) else (none)) else (none)) else (none)) else (some (l0.length:Int))))=some r:=h
 clear h
 replace H:=bzS H
 obtain ⟨t547,A30,H⟩:=H
 replace H:(if t547<(l0.length:Int) then (if 0≤t547 then (if 0≤a1 then (if a1<(l0.length:Int) then (if ((jc l0 t547).f0)=((jc l0 a1).f0) then (some t547) else (some (l0.length:Int))) else (none)) else (none)) else (none)) else (some (l0.length:Int)))=some r:=H
 have A3:=am A30
 clear A30
 by_cases c4:t547<(l0.length:Int)
 ·rw [if_pos c4] at H
  have c4b0:decide (t547<(l0.length:Int))=true:=dzT c4
  clear c4
  by_cases c5:0≤t547
  ·rw [if_pos c5] at H
   have c5b0:decide (0≤t547)=true:=dzT c5
   clear c5
   by_cases c6:0≤a1
   ·rw [if_pos c6] at H
    have c6b0:decide (0≤a1)=true:=dzT c6
    clear c6
    by_cases c7:a1<(l0.length:Int)
    ·rw [if_pos c7] at H
     have c7b0:decide (a1<(l0.length:Int))=true:=dzT c7
     clear c7
     by_cases c8:((jc l0 t547).f0)=((jc l0 a1).f0)
     ·rw [if_pos c8] at H
      have c8b0:(((jc l0 t547).f0) == ((jc l0 a1).f0))=true:=beq_iff_eq.mpr c8
      have c8b1:(((jc l0 t547).f0) != ((jc l0 a1).f0))=false:=bne_eq_false_iff_eq.mpr c8
      clear c8
      obtain rfl:=Option.some.inj H
      go_enter Try.func84,Try.ntmps84
      go_wp2_with (first |(go_at_call 100;(with_reducible refine (jva.calls k _ _ l0 a1 t547 _ ?side1 ?side2 A3.out).mono ?_);(case side1=>exact Y35);(case side2=>exact HC0.out);rintro e w' ⟨rfl,⟨nd,rfl⟩⟩;(try first | exact ⟨rfl,_,World.drewN_drewN _ _ _⟩ | exact ⟨rfl,_,Eq.trans (World.drewN_drewN _ _ _) (congrArg (World.drewN _) (Nat.add_assoc _ _ _))⟩);have p548:0≤(t547:Int):=ozD (uq);have q548:t547<(l0.length:Int):=ozD (uq);obtain ⟨ad548,e548,hx548_0,hx548_1,hx548_2,hx548_3⟩:=jna HR0.out t547 p548 q548;cases e548;replace p548:=ezT p548;replace q548:=ezT q548;have p549:0≤(a1:Int):=ozD (uq);have q549:a1<(l0.length:Int):=ozD (uq);obtain ⟨ad549,e549,hx549_0,hx549_1,hx549_2,hx549_3⟩:=jna HR0.out a1 p549 q549;obtain rfl:ad548=ad549:=(by injection e549);replace p549:=ezT p549;replace q549:=ezT q549))
      repeat (go_quiet (first |(go_at_call 100;(with_reducible refine (jva.calls k _ _ l0 a1 t547 _ ?side1 ?side2 A3.out).mono ?_);(case side1=>exact Y35);(case side2=>exact HC0.out);rintro e w' ⟨rfl,⟨nd,rfl⟩⟩;(try first | exact ⟨rfl,_,World.drewN_drewN _ _ _⟩ | exact ⟨rfl,_,Eq.trans (World.drewN_drewN _ _ _) (congrArg (World.drewN _) (Nat.add_assoc _ _ _))⟩);have p548:0≤(t547:Int):=ozD (uq);have q548:t547<(l0.length:Int):=ozD (uq);obtain ⟨ad548,e548,hx548_0,hx548_1,hx548_2,hx548_3⟩:=jna HR0.out t547 p548 q548;cases e548;replace p548:=ezT p548;replace q548:=ezT q548;have p549:0≤(a1:Int):=ozD (uq);have q549:a1<(l0.length:Int):=ozD (uq);obtain ⟨ad549,e549,hx549_0,hx549_1,hx549_2,hx549_3⟩:=jna HR0.out a1 p549 q549;obtain rfl:ad548=ad549:=(by injection e549);replace p549:=ezT p549;replace q549:=ezT q549));try go_wp2_with (first |(go_at_call 100;(with_reducible refine (jva.calls k _ _ l0 a1 t547 _ ?side1 ?side2 A3.out).mono ?_);(case side1=>exact Y35);(case side2=>exact HC0.out);rintro e w' ⟨rfl,⟨nd,rfl⟩⟩;(try first | exact ⟨rfl,_,World.drewN_drewN _ _ _⟩ | exact ⟨rfl,_,Eq.trans (World.drewN_drewN _ _ _) (congrArg (World.drewN _) (Nat.add_assoc _ _ _))⟩);have p548:0≤(t547:Int):=ozD (uq);have q548:t547<(l0.length:Int):=ozD (uq);obtain ⟨ad548,e548,hx548_0,hx548_1,hx548_2,hx548_3⟩:=jna HR0.out t547 p548 q548;cases e548;replace p548:=ezT p548;replace q548:=ezT q548;have p549:0≤(a1:Int):=ozD (uq);have q549:a1<(l0.length:Int):=ozD (uq);obtain ⟨ad549,e549,hx549_0,hx549_1,hx549_2,hx549_3⟩:=jna HR0.out a1 p549 q549;obtain rfl:ad548=ad549:=(by injection e549);replace p549:=ezT p549;replace q549:=ezT q549)))
      go_ret
      exact ⟨sq,Y7⟩
     ·rw [if_neg c8] at H
      have c8b0:(((jc l0 t547).f0) == ((jc l0 a1).f0))=false:=beq_eq_false_iff_ne.mpr c8
      have c8b1:(((jc l0 t547).f0) != ((jc l0 a1).f0))=true:=bne_iff_ne.mpr c8
      obtain rfl:=Option.some.inj H
      go_enter Try.func84,Try.ntmps84
      go_wp2_with (first |(go_at_call 100;(with_reducible refine (jva.calls k _ _ l0 a1 t547 _ ?side1 ?side2 A3.out).mono ?_);(case side1=>exact Y35);(case side2=>exact HC0.out);rintro e w' ⟨rfl,⟨nd,rfl⟩⟩;(try first | exact ⟨rfl,_,World.drewN_drewN _ _ _⟩ | exact ⟨rfl,_,Eq.trans (World.drewN_drewN _ _ _) (congrArg (World.drewN _) (Nat.add_assoc _ _ _))⟩);have p548:0≤(t547:Int):=ozD (uq);have q548:t547<(l0.length:Int):=ozD (uq);obtain ⟨ad548,e548,hx548_0,hx548_1,hx548_2,hx548_3⟩:=jna HR0.out t547 p548 q548;cases e548;replace p548:=ezT p548;replace q548:=ezT q548;have p549:0≤(a1:Int):=ozD (uq);have q549:a1<(l0.length:Int):=ozD (uq);obtain ⟨ad549,e549,hx549_0,hx549_1,hx549_2,hx549_3⟩:=jna HR0.out a1 p549 q549;obtain rfl:ad548=ad549:=(by injection e549);replace p549:=ezT p549;replace q549:=ezT q549))
      repeat (go_quiet (first |(go_at_call 100;(with_reducible refine (jva.calls k _ _ l0 a1 t547 _ ?side1 ?side2 A3.out).mono ?_);(case side1=>exact Y35);(case side2=>exact HC0.out);rintro e w' ⟨rfl,⟨nd,rfl⟩⟩;(try first | exact ⟨rfl,_,World.drewN_drewN _ _ _⟩ | exact ⟨rfl,_,Eq.trans (World.drewN_drewN _ _ _) (congrArg (World.drewN _) (Nat.add_assoc _ _ _))⟩);have p548:0≤(t547:Int):=ozD (uq);have q548:t547<(l0.length:Int):=ozD (uq);obtain ⟨ad548,e548,hx548_0,hx548_1,hx548_2,hx548_3⟩:=jna HR0.out t547 p548 q548;cases e548;replace p548:=ezT p548;replace q548:=ezT q548;have p549:0≤(a1:Int):=ozD (uq);have q549:a1<(l0.length:Int):=ozD (uq);obtain ⟨ad549,e549,hx549_0,hx549_1,hx549_2,hx549_3⟩:=jna HR0.out a1 p549 q549;obtain rfl:ad548=ad549:=(by injection e549);replace p549:=ezT p549;replace q549:=ezT q549));try go_wp2_with (first |(go_at_call 100;(with_reducible refine (jva.calls k _ _ l0 a1 t547 _ ?side1 ?side2 A3.out).mono ?_);(case side1=>exact Y35);(case side2=>exact HC0.out);rintro e w' ⟨rfl,⟨nd,rfl⟩⟩;(try first | exact ⟨rfl,_,World.drewN_drewN _ _ _⟩ | exact ⟨rfl,_,Eq.trans (World.drewN_drewN _ _ _) (congrArg (World.drewN _) (Nat.add_assoc _ _ _))⟩);have p548:0≤(t547:Int):=ozD (uq);have q548:t547<(l0.length:Int):=ozD (uq);obtain ⟨ad548,e548,hx548_0,hx548_1,hx548_2,hx548_3⟩:=jna HR0.out t547 p548 q548;cases e548;replace p548:=ezT p548;replace q548:=ezT q548;have p549:0≤(a1:Int):=ozD (uq);have q549:a1<(l0.length:Int):=ozD (uq);obtain ⟨ad549,e549,hx549_0,hx549_1,hx549_2,hx549_3⟩:=jna HR0.out a1 p549 q549;obtain rfl:ad548=ad549:=(by injection e549);replace p549:=ezT p549;replace q549:=ezT q549)))
      go_ret
      exact ⟨sq,Y7⟩
    ·rw [if_neg c7] at H
     exact absurd H (by simp)
   ·rw [if_neg c6] at H
    exact absurd H (by simp)
  ·rw [if_neg c5] at H
   exact absurd H (by simp)
 ·rw [if_neg c4] at H
  have c4b0:decide (t547<(l0.length:Int))=false:=dzF c4
  clear c4
  obtain rfl:=Option.some.inj H
  go_enter Try.func84,Try.ntmps84
  go_wp2_with (first |(go_at_call 100;(with_reducible refine (jva.calls k _ _ l0 a1 t547 _ ?side1 ?side2 A3.out).mono ?_);(case side1=>exact Y35);(case side2=>exact HC0.out);rintro e w' ⟨rfl,⟨nd,rfl⟩⟩;(try first | exact ⟨rfl,_,World.drewN_drewN _ _ _⟩ | exact ⟨rfl,_,Eq.trans (World.drewN_drewN _ _ _) (congrArg (World.drewN _) (Nat.add_assoc _ _ _))⟩)))
  repeat (go_quiet (first |(go_at_call 100;(with_reducible refine (jva.calls k _ _ l0 a1 t547 _ ?side1 ?side2 A3.out).mono ?_);(case side1=>exact Y35);(case side2=>exact HC0.out);rintro e w' ⟨rfl,⟨nd,rfl⟩⟩;(try first | exact ⟨rfl,_,World.drewN_drewN _ _ _⟩ | exact ⟨rfl,_,Eq.trans (World.drewN_drewN _ _ _) (congrArg (World.drewN _) (Nat.add_assoc _ _ _))⟩)));try go_wp2_with (first |(go_at_call 100;(with_reducible refine (jva.calls k _ _ l0 a1 t547 _ ?side1 ?side2 A3.out).mono ?_);(case side1=>exact Y35);(case side2=>exact HC0.out);rintro e w' ⟨rfl,⟨nd,rfl⟩⟩;(try first | exact ⟨rfl,_,World.drewN_drewN _ _ _⟩ | exact ⟨rfl,_,Eq.trans (World.drewN_drewN _ _ _) (congrArg (World.drewN _) (Nat.add_assoc _ _ _))⟩))))
  go_ret
  exact ⟨sq,Y7⟩
def jCa.l0 : Nat → List (S36) → List Int → Int → Option (List Int)
 | 0,_,_,_=>none
 | k+1,x0,x5,x6=>if x6<(x0.length:Int) then (if 0≤x6 then ((jJb.f ((jc x0 x6).f1)).bind fun t555=>(if t555=true then (if x5.length<17592186044416 then ((jlb.f k x0 x6).bind fun t559=>(jCa.l0 k x0 (x5 ++ [x6]) t559)) else (none)) else (some x5))) else (none)) else (some x5)
def jCa.f (k : Nat) (l0 : List (S36)) (a1 : Int) : Option (List Int) := (jlb.f k l0 a1).bind fun t553 => (jCa.l0 k l0 (([a1] : List Int)) t553)
set_option maxHeartbeats 8000000 in
set_option maxRecDepth 100000 in
theorem jCa.calls (k : Nat) (A0 : Option Addr) (c0 : Nat) (l0 : List (S36)) (a1 : Int) (r : List Int) (w : World) (hr0 : Kd.C k36 w A0 l0.length l0) (hc0 : l0.length ≤ c0) (h : jCa.f k l0 a1 = some r) :
  Calls Try.prog 71 #[.slice A0 l0.length c0, .int .i64 a1] w fun e w'=>∃ v0_:Value,e=.returned (v0_)∧Kd.R (Kd.int .i64) 3 w' w.heap.size (fun _=>True) v0_ r∧Below w.heap.size w w':=by
 have HR0:=am hr0
 have HC0:=am hc0
 clear hr0 hc0
 have HB:=am (Below.refl w.heap.size w)
 have H:((jlb.f k l0 a1).bind fun t553=>(jCa.l0 k l0 (([a1]:List Int)) t553))=some r:=h
 clear h
 obtain ⟨y550,hy550⟩:∃ y_:List Int,y_=(([a1]:List Int)):=⟨_,rfl⟩
 replace H:((jlb.f k l0 a1).bind fun t553=>(jCa.l0 k l0 y550 t553))=some r:=by first |(rw [hy550];with_reducible exact H) |(have H2_:=(Option.bind_some _ _).symm.trans H;rw [hy550];with_reducible exact H2_) |(have H2_:=(Option.bind_some _ _).symm.trans H;with_reducible exact H2_) | with_reducible exact H |(rw [hy550];exact H) | exact H
 have Ny550:=am hy550
 clear hy550
 replace H:=bzS H
 obtain ⟨t553,A30,H⟩:=H
 replace H:(jCa.l0 k l0 y550 t553)=some r:=H
 have A3:=am A30
 clear A30
 have H':=am H
 clear H
 go_enter Try.func71,Try.ntmps71
 go_wp2_with (first |((with_reducible refine jJ (N:=8) rfl ?_);refine Kd.jfc (Kd.int .i64) _ 3 ?hg (N:=8) ?hd (xs:=([a1]:List Int)) (inner:=[.int .i64 a1]) (ok:=fun _=>True) (okp:=fun _=>True) ?hr ?hp (fun _ hk=>hk) trivial (Below.refl _ _) (Nat.le_refl _) (by simp) ?_;(case hd=>rfl);(case hg=>rfl);(case hr=>exact Y5);(case hp=>exact (Reps.one (show Kd.M (Kd.int .i64) _ _ _ a1 [.int .i64 a1] from rfl) (Reps.none _ _)));intro v551 w4 ho5 hb hg_ hnew_;clear hg_ hnew_;(first | rw [← Ny550.out] at ho5 |(simp only [Int.reduceToNat] at ho5;rw [← Ny550.out] at ho5));have HO552:=am (Kd.jaa ho5 (jma (bq)));replace HB:=am (je (bq) hb);clear hb ho5) |((with_reducible refine jd (f:=84) rfl ?_);refine gL (some 11) Try.func84 #[.slice A0 l0.length c0, .int .i64 a1] ?_;(with_reducible refine (jlb.calls k _ _ l0 a1 t553 _ ?side1 ?side2 A3.out).mono ?_);(case side1=>exact cq (Kd.jT HR0.out HB.out));(case side2=>exact HC0.out);rintro e w' ⟨rfl,⟨nd,rfl⟩⟩;refine ⟨_,rfl,?_⟩))
 go_loopg [5,6] k (fun kq v5 v6 w'=>∃ (x5_1:List Int) (x6_1:Int),v6=.int .i64 x6_1∧jq (jCa.l0 kq l0 x5_1 x6_1=some r)∧jq (kq≤k)∧jq (Kd.R (Kd.int .i64) 3 w' w.heap.size (fun _=>True) v5 x5_1)∧jq (Below w.heap.size w w'))
 case atStart=>exact ⟨(y550),(t553),(sq),H',⟨Nat.le_refl _⟩,⟨rq HO552.out⟩,⟨bq⟩⟩
 case round =>
  clear H'
  try clear p2
  obtain ⟨x5_1,x6_1,rfl,HA,HK1,HO_5,HB⟩:=hrel
  cases gk with
  | zero=>exact absurd HA.out (by simp [jCa.l0])
  | succ k1 =>
   have H:=HA.out
   clear HA
   simp only [jCa.l0] at H
   by_cases c6:x6_1<(l0.length:Int)
   ·rw [if_pos c6] at H
    have c6b0:decide (x6_1<(l0.length:Int))=true:=dzT c6
    clear c6
    by_cases c7:0≤x6_1
    ·rw [if_pos c7] at H
     have c7b0:decide (0≤x6_1)=true:=dzT c7
     clear c7
     replace H:=bzS H
     obtain ⟨t555,A80,H⟩:=H
     replace H:(if t555=true then (if x5_1.length<17592186044416 then ((jlb.f k1 l0 x6_1).bind fun t559=>(jCa.l0 k1 l0 (x5_1 ++ [x6_1]) t559)) else (none)) else (some x5_1))=some r:=H
     have A8:=am A80
     clear A80
     by_cases c9:t555=true
     ·subst c9
      have H1:(if x5_1.length<17592186044416 then ((jlb.f k1 l0 x6_1).bind fun t559=>(jCa.l0 k1 l0 (x5_1 ++ [x6_1]) t559)) else (none))=some r:=by rw [if_pos rfl] at H;exact H
      clear H
      have H:=H1
      clear H1
      by_cases c10:x5_1.length<17592186044416
      ·rw [if_pos c10] at H
       have LMc10:=am c10
       clear c10
       obtain ⟨y556,hy556⟩:∃ y_:List Int,y_=(x5_1 ++ [x6_1]):=⟨_,rfl⟩
       replace H:((jlb.f k1 l0 x6_1).bind fun t559=>(jCa.l0 k1 l0 y556 t559))=some r:=by first |(rw [hy556];with_reducible exact H) |(have H2_:=(Option.bind_some _ _).symm.trans H;rw [hy556];with_reducible exact H2_) |(have H2_:=(Option.bind_some _ _).symm.trans H;with_reducible exact H2_) | with_reducible exact H |(rw [hy556];exact H) | exact H
       have Ny556:=am hy556
       clear hy556
       replace H:=bzS H
       obtain ⟨t559,A110,H⟩:=H
       replace H:(jCa.l0 k1 l0 y556 t559)=some r:=H
       have A11:=am A110
       clear A110
       have H':=am H
       clear H
       have p554:0≤(x6_1:Int):=ozD (uq)
       have q554:x6_1<(l0.length:Int):=ozD (uq)
       obtain ⟨ad554,e554,hx554_0,hx554_1,hx554_2,hx554_3⟩:=jna HR0.out x6_1 p554 q554
       cases e554
       replace hx554_0:=cb HB.out hx554_0
       replace hx554_1:=cb HB.out hx554_1
       replace hx554_2:=cb HB.out hx554_2
       replace hx554_3:=cb HB.out hx554_3
       replace p554:=ezT p554
       replace q554:=ezT q554
       go_wp2_with (first |(go_at_call 85;(with_reducible refine (jJb.calls ((jc l0 x6_1).f1) true _ A8.out).mono ?_);rintro e w' ⟨rfl,⟨nd,rfl⟩⟩) |((with_reducible refine jMa (b:=.append) (xs:=#[.tmp 27, .tmp 29]) rfl ?_);at_builtin;refine Kd.jcc (Kd.int .i64) (w0:=w) w.heap.size rfl (.tmp 27) (.tmp 29) 29 3 (.int .i64 0) 8 rfl Try.underlying29 info3 rfl (by decide) (by omega) u5 x5_1 x6_1 [.int .i64 x6_1] (fun _=>True) (fun _=>False) rfl rfl ?aP (fun _ hk=>hk.elim) ?aF ?aO ?aB ?aS ?aL ?_;(case aP=>exact rfl);(case aB=>exact (bq));(case aF=>exact (fun _ _=>trivial));(case aO=>exact (rq HO_5.out));(case aS=>exact (jma (bq)));(case aL=>have:=LMc10.out;omega);intro v557 w12 ho hb hg hat;rw [← Ny556.out] at ho;have n0_:=am (hb);have n1_:=am (ho);clear HB HO_5;have HB:=n0_;have HO558:=n1_;clear n0_ n1_ ho hb hg hat) |((with_reducible refine jd (f:=84) rfl ?_);refine gL (some 26) Try.func84 #[.slice (some ad554) l0.length c0, .int .i64 x6_1] ?_;(with_reducible refine (jlb.calls k1 _ _ l0 x6_1 t559 _ ?side1 ?side2 A11.out).mono ?_);(case side1=>exact cq (Kd.jT HR0.out HB.out));(case side2=>exact HC0.out);rintro e w' ⟨rfl,⟨nd,rfl⟩⟩;refine ⟨_,rfl,?_⟩))
       go_roundg k1
       case measure=>have:=HK1.out;omega
       case rel=>exact ⟨(y556),(t559),(sq),H',⟨by have:=HK1.out;omega⟩,⟨rq HO558.out⟩,⟨bq⟩⟩
      ·rw [if_neg c10] at H
       exact absurd H (by simp)
     ·replace c9:=Bool.eq_false_iff.mpr c9
      subst c9
      have H1:(some x5_1)=some r:=by rw [if_neg (show ¬ (false=true) by decide)] at H;exact H
      clear H
      have H:=H1
      clear H1
      obtain rfl:=Option.some.inj H
      have p554:0≤(x6_1:Int):=ozD (uq)
      have q554:x6_1<(l0.length:Int):=ozD (uq)
      obtain ⟨ad554,e554,hx554_0,hx554_1,hx554_2,hx554_3⟩:=jna HR0.out x6_1 p554 q554
      cases e554
      replace hx554_0:=cb HB.out hx554_0
      replace hx554_1:=cb HB.out hx554_1
      replace hx554_2:=cb HB.out hx554_2
      replace hx554_3:=cb HB.out hx554_3
      replace p554:=ezT p554
      replace q554:=ezT q554
      go_wp2_with (first |(go_at_call 85;(with_reducible refine (jJb.calls ((jc l0 x6_1).f1) false _ A8.out).mono ?_);rintro e w' ⟨rfl,⟨nd,rfl⟩⟩))
      go_ret
      exact ⟨_,Y0,rq HO_5.out,bq⟩
    ·rw [if_neg c7] at H
     exact absurd H (by simp)
   ·rw [if_neg c6] at H
    have c6b0:decide (x6_1<(l0.length:Int))=false:=dzF c6
    clear c6
    obtain rfl:=Option.some.inj H
    go_wp2
    go_ret
    exact ⟨_,Y0,rq HO_5.out,bq⟩
mutual
def jH.l0 : Nat → List (S36) → List Int → Int → Int → Option (Bool)
 | 0,_,_,_,_=>none
 | k+1,x0,x5,x6,x7=>if x7<(x5.length:Int) then (if 0≤x7 then (if 0≤(rd x5 x7) then (if (rd x5 x7)<(x0.length:Int) then (if ((jc x0 (rd x5 x7)).f1)=8 then (jH.j1 k x0 x5 (wrap64 (x6+1)) x7 ((jc x0 (rd x5 x7)).f1)) else (jH.j1 k x0 x5 x6 x7 ((jc x0 (rd x5 x7)).f1))) else (none)) else (none)) else (none)) else (if (x5.length:Int) > 1 then (some (decide (x6≤6))) else (some false))
def jH.j1 : Nat → List (S36) → List Int → Int → Int → Int → Option (Bool)
 | 0,_,_,_,_,_=>none
 | k+1,x0,x5,x6,x7,x8=>if x7 > 1 then (if 0≤(wrap64 (x7 - 1)) then (if (wrap64 (x7 - 1))<(x5.length:Int) then (if 0≤(rd x5 (wrap64 (x7 - 1))) then (if (rd x5 (wrap64 (x7 - 1)))<(x0.length:Int) then (if x8<((jc x0 (rd x5 (wrap64 (x7 - 1)))).f1) then (jH.j2 k x0 x5 x6 x7 true) else (if x8=((jc x0 (rd x5 (wrap64 (x7 - 1)))).f1) then (if x8=8 then (if x8=9 then (jH.j2 k x0 x5 x6 x7 (x6 == 0)) else (jH.j2 k x0 x5 x6 x7 false)) else (jH.j2 k x0 x5 x6 x7 true)) else (if x8=9 then (jH.j2 k x0 x5 x6 x7 (x6 == 0)) else (jH.j2 k x0 x5 x6 x7 false)))) else (none)) else (none)) else (none)) else (none)) else (if x8=9 then (jH.j2 k x0 x5 x6 x7 (x6 == 0)) else (jH.j2 k x0 x5 x6 x7 false))
def jH.j2 : Nat → List (S36) → List Int → Int → Int → Bool → Option (Bool)
 | 0,_,_,_,_,_=>none
 | k+1,x0,x5,x6,x7,x69=>if x69=true then (some false) else (jH.l0 k x0 x5 x6 (wrap64 (x7+1)))
end
def jH.f (k : Nat) (l0 : List (S36)) (a1 : Int) : Option (Bool) := (jCa.f k l0 a1).bind fun t560 => (jH.l0 k l0 t560 0 1)
set_option maxHeartbeats 8000000 in
set_option maxRecDepth 100000 in
theorem jH.calls (k : Nat) (A0 : Option Addr) (c0 : Nat) (l0 : List (S36)) (a1 : Int) (r : Bool) (w : World) (hr0 : Kd.C k36 w A0 l0.length l0) (hc0 : l0.length ≤ c0) (h : jH.f k l0 a1 = some r) :
  Calls Try.prog 95 #[.slice A0 l0.length c0, .int .i64 a1] w fun e w'=>e=.returned (.bool r)∧Below w.heap.size w w':=by
 have HR0:=am hr0
 have HC0:=am hc0
 clear hr0 hc0
 have HB:=am (Below.refl w.heap.size w)
 have H:((jCa.f k l0 a1).bind fun t560=>(jH.l0 k l0 t560 0 1))=some r:=h
 clear h
 replace H:=bzS H
 obtain ⟨t560,A30,H⟩:=H
 replace H:(jH.l0 k l0 t560 0 1)=some r:=H
 have A3:=am A30
 clear A30
 have H':=am H
 clear H
 go_enter Try.func95,Try.ntmps95
 go_wp2_with (first |((with_reducible refine jd (f:=71) rfl ?_);refine gL (some 11) Try.func71 #[.slice A0 l0.length c0, .int .i64 a1] ?_;(with_reducible refine (jCa.calls k _ _ l0 a1 t560 _ ?side1 ?side2 A3.out).mono ?_);(case side1=>exact Y35);(case side2=>exact HC0.out);rintro e w4 ⟨v561,rfl,ho0,hb⟩;refine ⟨_,rfl,?_⟩;have HO562:=am (Kd.jaa ho0 (jma (bq)));replace HB:=am (je (bq) hb);(try clear hb);(try clear hb2);(try clear hk);(try clear hi);(try clear ho0)))
 go_loopg [6,7] k (fun kq v6 v7 w'=>∃ (x6_1:Int) (x7_1:Int),v6=.int .i64 x6_1∧v7=.int .i64 x7_1∧jq (jH.l0 kq l0 t560 x6_1 x7_1=some r)∧jq (kq≤k)∧jq (Kd.R (Kd.int .i64) 3 w' w.heap.size (fun _=>True) v561 t560)∧jq (Below w.heap.size w w'))
 case atStart=>exact ⟨(0),(1),(sq),(sq),H',⟨Nat.le_refl _⟩,⟨rq HO562.out⟩,⟨bq⟩⟩
 case round =>
  clear H'
  try clear p2
  obtain ⟨x6_1,x7_1,rfl,rfl,HA,HK1,HO_5,HB⟩:=hrel
  cases gk with
  | zero=>exact absurd HA.out (by simp [jH.l0])
  | succ k1 =>
   have H:=HA.out
   clear HA
   simp only [jH.l0] at H
   by_cases c5:x7_1<(t560.length:Int)
   ·rw [if_pos c5] at H
    have c5b0:decide (x7_1<(t560.length:Int))=true:=dzT c5
    clear c5
    by_cases c6:0≤x7_1
    ·rw [if_pos c6] at H
     have c6b0:decide (0≤x7_1)=true:=dzT c6
     clear c6
     by_cases c7:0≤(rd t560 x7_1)
     ·rw [if_pos c7] at H
      have c7b0:decide (0≤(rd t560 x7_1))=true:=dzT c7
      clear c7
      by_cases c8:(rd t560 x7_1)<(l0.length:Int)
      ·rw [if_pos c8] at H
       have c8b0:decide ((rd t560 x7_1)<(l0.length:Int))=true:=dzT c8
       clear c8
       have HC9:=am H
       clear H
       obtain ⟨Ao10,co10,eo10⟩:=Kd.jka HO_5.out
       subst eo10
       have p563:0≤(x7_1:Int):=ozD (uq)
       have q563:x7_1<(t560.length:Int):=ozD (uq)
       obtain ⟨ad563,e563,hx563_0⟩:=Kd.jtb (Kd.jy HO_5.out).2.2 x7_1 p563 q563
       cases e563
       replace p563:=ezT p563
       replace q563:=ezT q563
       have p564:0≤((rd t560 x7_1):Int):=ozD (uq)
       have q564:(rd t560 x7_1)<(l0.length:Int):=ozD (uq)
       obtain ⟨ad564,e564,hx564_0,hx564_1,hx564_2,hx564_3⟩:=jna HR0.out (rd t560 x7_1) p564 q564
       cases e564
       replace hx564_0:=cb HB.out hx564_0
       replace hx564_1:=cb HB.out hx564_1
       replace hx564_2:=cb HB.out hx564_2
       replace hx564_3:=cb HB.out hx564_3
       replace p564:=ezT p564
       replace q564:=ezT q564
       go_upto_if 27 with (fail)
       go_cut [6] (fun v6 wc=>∃ (kq:Nat) (x6_8:Int),v6=.int .i64 x6_8∧jq (jH.j1 kq l0 t560 x6_8 x7_1 ((jc l0 (rd t560 x7_1)).f1)=some r)∧jq (kq≤k1)∧jq (Kd.R (Kd.int .i64) 3 wc w.heap.size (fun _=>True) (.slice (some ad563) t560.length co10) t560)∧jq (Below w.heap.size w wc))
       case first =>
        have H:=HC9.out
        clear HC9
        by_cases c11:((jc l0 (rd t560 x7_1)).f1)=8
        ·rw [if_pos c11] at H
         have c11b0:(((jc l0 (rd t560 x7_1)).f1) == 8)=true:=beq_iff_eq.mpr c11
         have c11b1:(((jc l0 (rd t560 x7_1)).f1) != 8)=false:=bne_eq_false_iff_eq.mpr c11
         clear c11
         (first | rw [c11b0] |(simp only [jkb,jmb];rw [c11b0]) | skip)
         have H':=am H
         clear H
         go_wp2
         go_meet
         case rel=>exact ⟨_,(wrap64 (x6_1+1)),(sq),H',⟨by have:=HK1.out;first | omega | exact Nat.le_refl _⟩,⟨rq HO_5.out⟩,⟨bq⟩⟩
        ·rw [if_neg c11] at H
         have c11b0:(((jc l0 (rd t560 x7_1)).f1) == 8)=false:=beq_eq_false_iff_ne.mpr c11
         have c11b1:(((jc l0 (rd t560 x7_1)).f1) != 8)=true:=bne_iff_ne.mpr c11
         (first | rw [c11b0] |(simp only [jkb,jmb];rw [c11b0]) | skip)
         have H':=am H
         clear H
         go_wp2
         go_meet
         case rel=>exact ⟨_,(x6_1),(sq),H',⟨by have:=HK1.out;first | omega | exact Nat.le_refl _⟩,⟨rq HO_5.out⟩,⟨bq⟩⟩
       case rest =>
        clear HC9
        try clear c1
        try clear p2
        try clear c5
        try clear c5b0
        try clear p5
        try clear q5
        try clear hx5
        try clear c6
        try clear c6b0
        try clear p6
        try clear c7
        try clear c7b0
        try clear c8
        try clear c8b0
        try clear c9
        try clear c11
        try clear c11b0
        try clear c11b1
        try clear hx563_0
        try clear hx564_0
        try clear hx564_1
        try clear hx564_2
        try clear hx564_3
        try clear p2
        try clear p563
        try clear p564
        try clear q563
        try clear q564
        obtain ⟨kq,x6_8,rfl,HA,HJ8,HO_5,HB⟩:=hcut
        cases kq with
        | zero=>exact absurd HA.out (by simp [jH.j1])
        | succ kj8 =>
         have H:=HA.out
         clear HA
         simp only [jH.j1] at H
         have HC12:=am H
         clear H
         go_upto_region 9 with (fail)
         go_cut [69] (fun v69 wc=>∃ (kq:Nat) (x69_11:Bool),v69=.bool x69_11∧jq (jH.j2 kq l0 t560 x6_8 x7_1 x69_11=some r)∧jq (kq≤kj8)∧jq (Kd.R (Kd.int .i64) 3 wc w.heap.size (fun _=>True) (.slice (some ad563) t560.length co10) t560)∧jq (Below w.heap.size w wc))
         case first =>
          have H:=HC12.out
          clear HC12
          by_cases c13:x7_1 > 1
          ·rw [if_pos c13] at H
           have c13b0:decide (1<x7_1)=true:=dzT c13
           clear c13
           (first | rw [c13b0] |(simp only [jkb,jmb];rw [c13b0]) | skip)
           obtain ⟨ji14,hji14⟩:∃ j_:Int,(wrap64 (x7_1 - 1))=j_:=⟨_,rfl⟩
           replace H:(if 0≤(ji14) then (if (ji14)<(t560.length:Int) then (if 0≤(rd t560 (ji14)) then (if (rd t560 (ji14))<(l0.length:Int) then (if ((jc l0 (rd t560 x7_1)).f1)<((jc l0 (rd t560 (ji14))).f1) then (jH.j2 kj8 l0 t560 x6_8 x7_1 true) else (if ((jc l0 (rd t560 x7_1)).f1)=((jc l0 (rd t560 (ji14))).f1) then (if ((jc l0 (rd t560 x7_1)).f1)=8 then (if ((jc l0 (rd t560 x7_1)).f1)=9 then (jH.j2 kj8 l0 t560 x6_8 x7_1 (x6_8 == 0)) else (jH.j2 kj8 l0 t560 x6_8 x7_1 false)) else (jH.j2 kj8 l0 t560 x6_8 x7_1 true)) else (if ((jc l0 (rd t560 x7_1)).f1)=9 then (jH.j2 kj8 l0 t560 x6_8 x7_1 (x6_8 == 0)) else (jH.j2 kj8 l0 t560 x6_8 x7_1 false)))) else (none)) else (none)) else (none)) else (none))=some r:=by first |(rw [hji14] at H;exact H) |(simp only [hji14] at H ⊢;exact H)
           have hji14w:(IntKind.i64.wrap (x7_1 - 1))=ji14:=(jkb _).trans hji14
           by_cases c15:0≤(ji14)
           ·rw [if_pos c15] at H
            have c15b0:decide (0≤(ji14))=true:=dzT c15
            clear c15
            by_cases c16:(ji14)<(t560.length:Int)
            ·rw [if_pos c16] at H
             have c16b0:decide ((ji14)<(t560.length:Int))=true:=dzT c16
             clear c16
             by_cases c17:0≤(rd t560 (ji14))
             ·rw [if_pos c17] at H
              have c17b0:decide (0≤(rd t560 (ji14)))=true:=dzT c17
              clear c17
              by_cases c18:(rd t560 (ji14))<(l0.length:Int)
              ·rw [if_pos c18] at H
               have c18b0:decide ((rd t560 (ji14))<(l0.length:Int))=true:=dzT c18
               clear c18
               by_cases c19:((jc l0 (rd t560 x7_1)).f1)<((jc l0 (rd t560 (ji14))).f1)
               ·rw [if_pos c19] at H
                have c19b0:decide (((jc l0 (rd t560 x7_1)).f1)<((jc l0 (rd t560 (ji14))).f1))=true:=dzT c19
                clear c19
                have H':=am H
                clear H
                have p565:0≤((ji14):Int):=ozD (uq)
                have q565:(ji14)<(t560.length:Int):=ozD (uq)
                obtain ⟨ad565,e565,hx565_0⟩:=Kd.jtb (Kd.jy HO_5.out).2.2 (ji14) p565 q565
                obtain rfl:ad563=ad565:=(by injection e565)
                replace p565:=ezT p565
                replace q565:=ezT q565
                have p566:0≤((rd t560 (ji14)):Int):=ozD (uq)
                have q566:(rd t560 (ji14))<(l0.length:Int):=ozD (uq)
                obtain ⟨ad566,e566,hx566_0,hx566_1,hx566_2,hx566_3⟩:=jna HR0.out (rd t560 (ji14)) p566 q566
                obtain rfl:ad564=ad566:=(by injection e566)
                replace hx566_0:=cb HB.out hx566_0
                replace hx566_1:=cb HB.out hx566_1
                replace hx566_2:=cb HB.out hx566_2
                replace hx566_3:=cb HB.out hx566_3
                replace p566:=ezT p566
                replace q566:=ezT q566
                go_wp2
                go_meet
                case rel=>exact ⟨_,(true),(sq),H',⟨by have:=HK1.out;have:=HJ8.out;first | omega | exact Nat.le_refl _⟩,⟨rq HO_5.out⟩,⟨bq⟩⟩
               ·rw [if_neg c19] at H
                have c19b0:decide (((jc l0 (rd t560 x7_1)).f1)<((jc l0 (rd t560 (ji14))).f1))=false:=dzF c19
                clear c19
                by_cases c20:((jc l0 (rd t560 x7_1)).f1)=((jc l0 (rd t560 (ji14))).f1)
                ·rw [if_pos c20] at H
                 have c20b0:(((jc l0 (rd t560 x7_1)).f1) == ((jc l0 (rd t560 (ji14))).f1))=true:=beq_iff_eq.mpr c20
                 have c20b1:(((jc l0 (rd t560 x7_1)).f1) != ((jc l0 (rd t560 (ji14))).f1))=false:=bne_eq_false_iff_eq.mpr c20
                 clear c20
                 by_cases c21:((jc l0 (rd t560 x7_1)).f1)=8
                 ·rw [if_pos c21] at H
                  have c21b0:(((jc l0 (rd t560 x7_1)).f1) == 8)=true:=beq_iff_eq.mpr c21
                  have c21b1:(((jc l0 (rd t560 x7_1)).f1) != 8)=false:=bne_eq_false_iff_eq.mpr c21
                  clear c21
                  by_cases c22:((jc l0 (rd t560 x7_1)).f1)=9
                  ·rw [if_pos c22] at H
                   have c22b0:(((jc l0 (rd t560 x7_1)).f1) == 9)=true:=beq_iff_eq.mpr c22
                   have c22b1:(((jc l0 (rd t560 x7_1)).f1) != 9)=false:=bne_eq_false_iff_eq.mpr c22
                   clear c22
                   have H':=am H
                   clear H
                   have p565:0≤((ji14):Int):=ozD (uq)
                   have q565:(ji14)<(t560.length:Int):=ozD (uq)
                   obtain ⟨ad565,e565,hx565_0⟩:=Kd.jtb (Kd.jy HO_5.out).2.2 (ji14) p565 q565
                   obtain rfl:ad563=ad565:=(by injection e565)
                   replace p565:=ezT p565
                   replace q565:=ezT q565
                   have p566:0≤((rd t560 (ji14)):Int):=ozD (uq)
                   have q566:(rd t560 (ji14))<(l0.length:Int):=ozD (uq)
                   obtain ⟨ad566,e566,hx566_0,hx566_1,hx566_2,hx566_3⟩:=jna HR0.out (rd t560 (ji14)) p566 q566
                   obtain rfl:ad564=ad566:=(by injection e566)
                   replace hx566_0:=cb HB.out hx566_0
                   replace hx566_1:=cb HB.out hx566_1
                   replace hx566_2:=cb HB.out hx566_2
                   replace hx566_3:=cb HB.out hx566_3
                   replace p566:=ezT p566
                   replace q566:=ezT q566
                   have p567:0≤((ji14):Int):=ozD (uq)
                   have q567:(ji14)<(t560.length:Int):=ozD (uq)
                   obtain ⟨ad567,e567,hx567_0⟩:=Kd.jtb (Kd.jy HO_5.out).2.2 (ji14) p567 q567
                   obtain rfl:ad563=ad567:=(by injection e567)
                   replace p567:=ezT p567
                   replace q567:=ezT q567
                   have p568:0≤((rd t560 (ji14)):Int):=ozD (uq)
                   have q568:(rd t560 (ji14))<(l0.length:Int):=ozD (uq)
                   obtain ⟨ad568,e568,hx568_0,hx568_1,hx568_2,hx568_3⟩:=jna HR0.out (rd t560 (ji14)) p568 q568
                   obtain rfl:ad564=ad568:=(by injection e568)
                   replace hx568_0:=cb HB.out hx568_0
                   replace hx568_1:=cb HB.out hx568_1
                   replace hx568_2:=cb HB.out hx568_2
                   replace hx568_3:=cb HB.out hx568_3
                   replace p568:=ezT p568
                   replace q568:=ezT q568
                   go_wp2
                   go_meet
                   case rel=>exact ⟨_,((x6_8 == 0)),(sq),H',⟨by have:=HK1.out;have:=HJ8.out;first | omega | exact Nat.le_refl _⟩,⟨rq HO_5.out⟩,⟨bq⟩⟩
                  ·rw [if_neg c22] at H
                   have c22b0:(((jc l0 (rd t560 x7_1)).f1) == 9)=false:=beq_eq_false_iff_ne.mpr c22
                   have c22b1:(((jc l0 (rd t560 x7_1)).f1) != 9)=true:=bne_iff_ne.mpr c22
                   have H':=am H
                   clear H
                   have p565:0≤((ji14):Int):=ozD (uq)
                   have q565:(ji14)<(t560.length:Int):=ozD (uq)
                   obtain ⟨ad565,e565,hx565_0⟩:=Kd.jtb (Kd.jy HO_5.out).2.2 (ji14) p565 q565
                   obtain rfl:ad563=ad565:=(by injection e565)
                   replace p565:=ezT p565
                   replace q565:=ezT q565
                   have p566:0≤((rd t560 (ji14)):Int):=ozD (uq)
                   have q566:(rd t560 (ji14))<(l0.length:Int):=ozD (uq)
                   obtain ⟨ad566,e566,hx566_0,hx566_1,hx566_2,hx566_3⟩:=jna HR0.out (rd t560 (ji14)) p566 q566
                   obtain rfl:ad564=ad566:=(by injection e566)
                   replace hx566_0:=cb HB.out hx566_0
                   replace hx566_1:=cb HB.out hx566_1
                   replace hx566_2:=cb HB.out hx566_2
                   replace hx566_3:=cb HB.out hx566_3
                   replace p566:=ezT p566
                   replace q566:=ezT q566
                   have p567:0≤((ji14):Int):=ozD (uq)
                   have q567:(ji14)<(t560.length:Int):=ozD (uq)
                   obtain ⟨ad567,e567,hx567_0⟩:=Kd.jtb (Kd.jy HO_5.out).2.2 (ji14) p567 q567
                   obtain rfl:ad563=ad567:=(by injection e567)
                   replace p567:=ezT p567
                   replace q567:=ezT q567
                   have p568:0≤((rd t560 (ji14)):Int):=ozD (uq)
                   have q568:(rd t560 (ji14))<(l0.length:Int):=ozD (uq)
                   obtain ⟨ad568,e568,hx568_0,hx568_1,hx568_2,hx568_3⟩:=jna HR0.out (rd t560 (ji14)) p568 q568
                   obtain rfl:ad564=ad568:=(by injection e568)
                   replace hx568_0:=cb HB.out hx568_0
                   replace hx568_1:=cb HB.out hx568_1
                   replace hx568_2:=cb HB.out hx568_2
                   replace hx568_3:=cb HB.out hx568_3
                   replace p568:=ezT p568
                   replace q568:=ezT q568
                   go_wp2
                   go_meet
                   case rel=>exact ⟨_,(false),(sq),H',⟨by have:=HK1.out;have:=HJ8.out;first | omega | exact Nat.le_refl _⟩,⟨rq HO_5.out⟩,⟨bq⟩⟩
                 ·rw [if_neg c21] at H
                  have c21b0:(((jc l0 (rd t560 x7_1)).f1) == 8)=false:=beq_eq_false_iff_ne.mpr c21
                  have c21b1:(((jc l0 (rd t560 x7_1)).f1) != 8)=true:=bne_iff_ne.mpr c21
                  have H':=am H
                  clear H
                  have p565:0≤((ji14):Int):=ozD (uq)
                  have q565:(ji14)<(t560.length:Int):=ozD (uq)
                  obtain ⟨ad565,e565,hx565_0⟩:=Kd.jtb (Kd.jy HO_5.out).2.2 (ji14) p565 q565
                  obtain rfl:ad563=ad565:=(by injection e565)
                  replace p565:=ezT p565
                  replace q565:=ezT q565
                  have p566:0≤((rd t560 (ji14)):Int):=ozD (uq)
                  have q566:(rd t560 (ji14))<(l0.length:Int):=ozD (uq)
                  obtain ⟨ad566,e566,hx566_0,hx566_1,hx566_2,hx566_3⟩:=jna HR0.out (rd t560 (ji14)) p566 q566
                  obtain rfl:ad564=ad566:=(by injection e566)
                  replace hx566_0:=cb HB.out hx566_0
                  replace hx566_1:=cb HB.out hx566_1
                  replace hx566_2:=cb HB.out hx566_2
                  replace hx566_3:=cb HB.out hx566_3
                  replace p566:=ezT p566
                  replace q566:=ezT q566
                  have p567:0≤((ji14):Int):=ozD (uq)
                  have q567:(ji14)<(t560.length:Int):=ozD (uq)
                  obtain ⟨ad567,e567,hx567_0⟩:=Kd.jtb (Kd.jy HO_5.out).2.2 (ji14) p567 q567
                  obtain rfl:ad563=ad567:=(by injection e567)
                  replace p567:=ezT p567
                  replace q567:=ezT q567
                  have p568:0≤((rd t560 (ji14)):Int):=ozD (uq)
                  have q568:(rd t560 (ji14))<(l0.length:Int):=ozD (uq)
                  obtain ⟨ad568,e568,hx568_0,hx568_1,hx568_2,hx568_3⟩:=jna HR0.out (rd t560 (ji14)) p568 q568
                  obtain rfl:ad564=ad568:=(by injection e568)
                  replace hx568_0:=cb HB.out hx568_0
                  replace hx568_1:=cb HB.out hx568_1
                  replace hx568_2:=cb HB.out hx568_2
                  replace hx568_3:=cb HB.out hx568_3
                  replace p568:=ezT p568
                  replace q568:=ezT q568
                  go_wp2
                  go_meet
                  case rel=>exact ⟨_,(true),(sq),H',⟨by have:=HK1.out;have:=HJ8.out;first | omega | exact Nat.le_refl _⟩,⟨rq HO_5.out⟩,⟨bq⟩⟩
                ·rw [if_neg c20] at H
                 have c20b0:(((jc l0 (rd t560 x7_1)).f1) == ((jc l0 (rd t560 (ji14))).f1))=false:=beq_eq_false_iff_ne.mpr c20
                 have c20b1:(((jc l0 (rd t560 x7_1)).f1) != ((jc l0 (rd t560 (ji14))).f1))=true:=bne_iff_ne.mpr c20
                 by_cases c23:((jc l0 (rd t560 x7_1)).f1)=9
                 ·rw [if_pos c23] at H
                  have c23b0:(((jc l0 (rd t560 x7_1)).f1) == 9)=true:=beq_iff_eq.mpr c23
                  have c23b1:(((jc l0 (rd t560 x7_1)).f1) != 9)=false:=bne_eq_false_iff_eq.mpr c23
                  clear c23
                  have H':=am H
                  clear H
                  have p565:0≤((ji14):Int):=ozD (uq)
                  have q565:(ji14)<(t560.length:Int):=ozD (uq)
                  obtain ⟨ad565,e565,hx565_0⟩:=Kd.jtb (Kd.jy HO_5.out).2.2 (ji14) p565 q565
                  obtain rfl:ad563=ad565:=(by injection e565)
                  replace p565:=ezT p565
                  replace q565:=ezT q565
                  have p566:0≤((rd t560 (ji14)):Int):=ozD (uq)
                  have q566:(rd t560 (ji14))<(l0.length:Int):=ozD (uq)
                  obtain ⟨ad566,e566,hx566_0,hx566_1,hx566_2,hx566_3⟩:=jna HR0.out (rd t560 (ji14)) p566 q566
                  obtain rfl:ad564=ad566:=(by injection e566)
                  replace hx566_0:=cb HB.out hx566_0
                  replace hx566_1:=cb HB.out hx566_1
                  replace hx566_2:=cb HB.out hx566_2
                  replace hx566_3:=cb HB.out hx566_3
                  replace p566:=ezT p566
                  replace q566:=ezT q566
                  have p567:0≤((ji14):Int):=ozD (uq)
                  have q567:(ji14)<(t560.length:Int):=ozD (uq)
                  obtain ⟨ad567,e567,hx567_0⟩:=Kd.jtb (Kd.jy HO_5.out).2.2 (ji14) p567 q567
                  obtain rfl:ad563=ad567:=(by injection e567)
                  replace p567:=ezT p567
                  replace q567:=ezT q567
                  have p568:0≤((rd t560 (ji14)):Int):=ozD (uq)
                  have q568:(rd t560 (ji14))<(l0.length:Int):=ozD (uq)
                  obtain ⟨ad568,e568,hx568_0,hx568_1,hx568_2,hx568_3⟩:=jna HR0.out (rd t560 (ji14)) p568 q568
                  obtain rfl:ad564=ad568:=(by injection e568)
                  replace hx568_0:=cb HB.out hx568_0
                  replace hx568_1:=cb HB.out hx568_1
                  replace hx568_2:=cb HB.out hx568_2
                  replace hx568_3:=cb HB.out hx568_3
                  replace p568:=ezT p568
                  replace q568:=ezT q568
                  go_wp2
                  go_meet
                  case rel=>exact ⟨_,((x6_8 == 0)),(sq),H',⟨by have:=HK1.out;have:=HJ8.out;first | omega | exact Nat.le_refl _⟩,⟨rq HO_5.out⟩,⟨bq⟩⟩
                 ·rw [if_neg c23] at H
                  have c23b0:(((jc l0 (rd t560 x7_1)).f1) == 9)=false:=beq_eq_false_iff_ne.mpr c23
                  have c23b1:(((jc l0 (rd t560 x7_1)).f1) != 9)=true:=bne_iff_ne.mpr c23
                  have H':=am H
                  clear H
                  have p565:0≤((ji14):Int):=ozD (uq)
                  have q565:(ji14)<(t560.length:Int):=ozD (uq)
                  obtain ⟨ad565,e565,hx565_0⟩:=Kd.jtb (Kd.jy HO_5.out).2.2 (ji14) p565 q565
                  obtain rfl:ad563=ad565:=(by injection e565)
                  replace p565:=ezT p565
                  replace q565:=ezT q565
                  have p566:0≤((rd t560 (ji14)):Int):=ozD (uq)
                  have q566:(rd t560 (ji14))<(l0.length:Int):=ozD (uq)
                  obtain ⟨ad566,e566,hx566_0,hx566_1,hx566_2,hx566_3⟩:=jna HR0.out (rd t560 (ji14)) p566 q566
                  obtain rfl:ad564=ad566:=(by injection e566)
                  replace hx566_0:=cb HB.out hx566_0
                  replace hx566_1:=cb HB.out hx566_1
                  replace hx566_2:=cb HB.out hx566_2
                  replace hx566_3:=cb HB.out hx566_3
                  replace p566:=ezT p566
                  replace q566:=ezT q566
                  have p567:0≤((ji14):Int):=ozD (uq)
                  have q567:(ji14)<(t560.length:Int):=ozD (uq)
                  obtain ⟨ad567,e567,hx567_0⟩:=Kd.jtb (Kd.jy HO_5.out).2.2 (ji14) p567 q567
                  obtain rfl:ad563=ad567:=(by injection e567)
                  replace p567:=ezT p567
                  replace q567:=ezT q567
                  have p568:0≤((rd t560 (ji14)):Int):=ozD (uq)
                  have q568:(rd t560 (ji14))<(l0.length:Int):=ozD (uq)
                  obtain ⟨ad568,e568,hx568_0,hx568_1,hx568_2,hx568_3⟩:=jna HR0.out (rd t560 (ji14)) p568 q568
                  obtain rfl:ad564=ad568:=(by injection e568)
                  replace hx568_0:=cb HB.out hx568_0
                  replace hx568_1:=cb HB.out hx568_1
                  replace hx568_2:=cb HB.out hx568_2
                  replace hx568_3:=cb HB.out hx568_3
                  replace p568:=ezT p568
                  replace q568:=ezT q568
                  go_wp2
                  go_meet
                  case rel=>exact ⟨_,(false),(sq),H',⟨by have:=HK1.out;have:=HJ8.out;first | omega | exact Nat.le_refl _⟩,⟨rq HO_5.out⟩,⟨bq⟩⟩
              ·rw [if_neg c18] at H
               exact absurd H (by simp)
             ·rw [if_neg c17] at H
              exact absurd H (by simp)
            ·rw [if_neg c16] at H
             exact absurd H (by simp)
           ·rw [if_neg c15] at H
            exact absurd H (by simp)
          ·rw [if_neg c13] at H
           have c13b0:decide (1<x7_1)=false:=dzF c13
           clear c13
           (first | rw [c13b0] |(simp only [jkb,jmb];rw [c13b0]) | skip)
           by_cases c24:((jc l0 (rd t560 x7_1)).f1)=9
           ·rw [if_pos c24] at H
            have c24b0:(((jc l0 (rd t560 x7_1)).f1) == 9)=true:=beq_iff_eq.mpr c24
            have c24b1:(((jc l0 (rd t560 x7_1)).f1) != 9)=false:=bne_eq_false_iff_eq.mpr c24
            clear c24
            have H':=am H
            clear H
            go_wp2
            go_meet
            case rel=>exact ⟨_,((x6_8 == 0)),(sq),H',⟨by have:=HK1.out;have:=HJ8.out;first | omega | exact Nat.le_refl _⟩,⟨rq HO_5.out⟩,⟨bq⟩⟩
           ·rw [if_neg c24] at H
            have c24b0:(((jc l0 (rd t560 x7_1)).f1) == 9)=false:=beq_eq_false_iff_ne.mpr c24
            have c24b1:(((jc l0 (rd t560 x7_1)).f1) != 9)=true:=bne_iff_ne.mpr c24
            have H':=am H
            clear H
            go_wp2
            go_meet
            case rel=>exact ⟨_,(false),(sq),H',⟨by have:=HK1.out;have:=HJ8.out;first | omega | exact Nat.le_refl _⟩,⟨rq HO_5.out⟩,⟨bq⟩⟩
         case rest =>
          clear HC12
          try clear c1
          try clear c2
          try clear p2
          try clear c5
          try clear c5b0
          try clear p5
          try clear q5
          try clear hx5
          try clear c6
          try clear c6b0
          try clear p6
          try clear c7
          try clear c7b0
          try clear c8
          try clear c8b0
          try clear c9
          try clear c11
          try clear c11b0
          try clear c11b1
          try clear c13
          try clear c13b0
          try clear c15
          try clear c15b0
          try clear c16
          try clear c16b0
          try clear c17
          try clear c17b0
          try clear c18
          try clear c18b0
          try clear c19
          try clear c19b0
          try clear c20
          try clear c20b0
          try clear c20b1
          try clear c21
          try clear c21b0
          try clear c21b1
          try clear c22
          try clear c22b0
          try clear c22b1
          try clear c23
          try clear c23b0
          try clear c23b1
          try clear c24
          try clear c24b0
          try clear c24b1
          try clear hx563_0
          try clear hx564_0
          try clear hx564_1
          try clear hx564_2
          try clear hx564_3
          try clear hx565_0
          try clear hx566_0
          try clear hx566_1
          try clear hx566_2
          try clear hx566_3
          try clear hx567_0
          try clear hx568_0
          try clear hx568_1
          try clear hx568_2
          try clear hx568_3
          try clear p2
          try clear p5
          try clear p563
          try clear p564
          try clear p565
          try clear p566
          try clear p567
          try clear p568
          try clear p6
          try clear q5
          try clear q563
          try clear q564
          try clear q565
          try clear q566
          try clear q567
          try clear q568
          obtain ⟨kq,x69_11,rfl,HA,HJ11,HO_5,HB⟩:=hcut
          cases kq with
          | zero=>exact absurd HA.out (by simp [jH.j2])
          | succ kj11 =>
           have H:=HA.out
           clear HA
           simp only [jH.j2] at H
           by_cases c25:x69_11=true
           ·subst c25
            have H1:(some false)=some r:=by rw [if_pos rfl] at H;exact H
            clear H
            have H:=H1
            clear H1
            obtain rfl:=Option.some.inj H
            go_wp2
            go_ret
            exact ⟨Y0,bq⟩
           ·replace c25:=Bool.eq_false_iff.mpr c25
            subst c25
            have H1:(jH.l0 kj11 l0 t560 x6_8 (wrap64 (x7_1+1)))=some r:=by rw [if_neg (show ¬ (false=true) by decide)] at H;exact H
            clear H
            have H:=H1
            clear H1
            have H':=am H
            clear H
            go_wp2
            go_roundg kj11
            case measure=>have:=HK1.out;have:=HJ8.out;have:=HJ11.out;omega
            case rel=>exact ⟨(x6_8),(wrap64 (x7_1+1)),(sq),(sq),H',⟨by have:=HK1.out;have:=HJ8.out;have:=HJ11.out;omega⟩,⟨rq HO_5.out⟩,⟨bq⟩⟩
      ·rw [if_neg c8] at H
       exact absurd H (by simp)
     ·rw [if_neg c7] at H
      exact absurd H (by simp)
    ·rw [if_neg c6] at H
     exact absurd H (by simp)
   ·rw [if_neg c5] at H
    have c5b0:decide (x7_1<(t560.length:Int))=false:=dzF c5
    clear c5
    by_cases c26:(t560.length:Int) > 1
    ·rw [if_pos c26] at H
     have c26b0:decide (1<(t560.length:Int))=true:=dzT c26
     have c26b1:decide (1<t560.length)=true:=dzT (by omega)
     clear c26
     obtain rfl:=Option.some.inj H
     obtain ⟨Ao27,co27,eo27⟩:=Kd.jka HO_5.out
     subst eo27
     go_wp2
     go_ret
     exact ⟨Y0,bq⟩
    ·rw [if_neg c26] at H
     have c26b0:decide (1<(t560.length:Int))=false:=dzF c26
     have c26b1:decide (1<t560.length)=false:=dzF (by omega)
     clear c26
     obtain rfl:=Option.some.inj H
     obtain ⟨Ao28,co28,eo28⟩:=Kd.jka HO_5.out
     subst eo28
     go_wp2
     go_ret
     exact ⟨Y0,bq⟩
end Go.Proofs.Ytkedkinojeoeaaa.P
end
