/- One part of the proofs on this program: functions of the program as plain functions, that the code comes to them, and facts on them. -/
import Derived.Lib.SliceRun
import Derived.LoopIn
import Derived.LoopNIn
import Derived.OwnWalkIn
import Derived.RangeFuncBound
import Derived.RangeFuncBox
import Derived.RangeFuncCalls
import Derived.RangeFuncLeaves
import Derived.RangeFuncNested
import Derived.Shelf.Abstract
import Derived.Shelf.RegionOpen
import Derived.TacticsInMore
import Derived.WalkKit
import Derived.Test.YteibechlncphnaaDoorYAll1
import Derived.Test.YteibechlncphnaaDoorYAll5
import Derived.Test.YteibechlncphnaaDoorYWAuto
section
namespace Go.Proofs.YteibechlncphnaaDoor.P
open Go.RowKit Go.Proofs.YteibechlncphnaaDoorW.PrintWords Go.Proofs.YteibechlncphnaaDoorW.PrintLast Go.Proofs.YteibechlncphnaaDoorW.PrintMore
attribute [local go_sem] jva jta jAa jza jga jfa jua jsa jA
set_option linter.unusedVariables false
set_option linter.unusedSimpArgs false
def jGa.f (l0_0 : List (S99)) (a1 : Int) (a2 : Int) : Option (ByteArray) := if 0 ≤ a1 then (if a1 < (l0_0.length : Int) then (if ((jL l0_0 a1).f0).size + 1 ≤ 9223372036854775807 then ((strconv_Itoa.f a2).bind fun t409 => (if (((jL l0_0 a1).f0) ++ (⟨#[58]⟩ : ByteArray)).size + t409.size ≤ 9223372036854775807 then (some ((((jL l0_0 a1).f0) ++ (⟨#[58]⟩ : ByteArray)) ++ t409)) else (none))) else (none)) else (none)) else (none)
set_option maxHeartbeats 8000000 in
set_option maxRecDepth 100000 in
theorem jGa.calls (A0_0 : Option Addr) (c0_0 : Nat) (l0_0 : List (S99)) (a1 : Int) (a2 : Int) (r : ByteArray) (w : World) (hr0_0 : Kd.C k99 w A0_0 l0_0.length l0_0) (hc0_0 : l0_0.length ≤ c0_0) (h : jGa.f l0_0 a1 a2 = some r) :
  Calls Tryd.prog 59 #[.agg #[.slice A0_0 l0_0.length c0_0], .int .i64 a1, .int .i64 a2] w fun e w'=>e=.returned (.string r)∧Below w.heap.size w w':=by
 have hu25:=Tryd.underlying25
 have HR0_0:=am hr0_0
 have HC0_0:=am hc0_0
 clear hr0_0 hc0_0
 have HB:=am (Below.refl w.heap.size w)
 have H:(if 0≤a1 then (if a1<(l0_0.length:Int) then (if ((jL l0_0 a1).f0).size+1≤9223372036854775807 then ((strconv_Itoa.f a2).bind fun t409=>(if (((jL l0_0 a1).f0) ++ (⟨#[58]⟩:ByteArray)).size+t409.size≤9223372036854775807 then (some ((((jL l0_0 a1).f0) ++ (⟨#[58]⟩:ByteArray)) ++ t409)) else (none))) else (none)) else (none)) else (none))=some r:=h
 clear h
 by_cases c4:0≤a1
 ·rw [if_pos c4] at H
  have c4b0:decide (0≤a1)=true:=dzT c4
  clear c4
  by_cases c5:a1<(l0_0.length:Int)
  ·rw [if_pos c5] at H
   have c5b0:decide (a1<(l0_0.length:Int))=true:=dzT c5
   clear c5
   by_cases c6:((jL l0_0 a1).f0).size+1≤9223372036854775807
   ·rw [if_pos c6] at H
    have c6b0:=ezT c6
    have c6b1:decide (((jL l0_0 a1).f0).size+1≤9223372036854775807)=true:=dzT c6
    try have c6b2:(9223372036854775807<((jL l0_0 a1).f0).size+1)=False:=eq_false (Nat.not_lt.2 c6)
    replace H:=bzS H
    obtain ⟨t409,A70,H⟩:=H
    replace H:(if (((jL l0_0 a1).f0) ++ (⟨#[58]⟩:ByteArray)).size+t409.size≤9223372036854775807 then (some ((((jL l0_0 a1).f0) ++ (⟨#[58]⟩:ByteArray)) ++ t409)) else (none))=some r:=H
    have A7:=am A70
    clear A70
    by_cases c8:(((jL l0_0 a1).f0) ++ (⟨#[58]⟩:ByteArray)).size+t409.size≤9223372036854775807
    ·rw [if_pos c8] at H
     have c8b0:=ezT c8
     have c8b1:decide ((((jL l0_0 a1).f0) ++ (⟨#[58]⟩:ByteArray)).size+t409.size≤9223372036854775807)=true:=dzT c8
     try have c8b2:(9223372036854775807<(((jL l0_0 a1).f0) ++ (⟨#[58]⟩:ByteArray)).size+t409.size)=False:=eq_false (Nat.not_lt.2 c8)
     try have c8s:(9223372036854775807<((jL l0_0 a1).f0).size+1+t409.size)=False:=eq_false (Nat.not_lt.2 (by have h_:=c8;simp only [ByteArray.size_append] at h_;exact h_))
     obtain rfl:=Option.some.inj H
     go_enter Tryd.func59,Tryd.ntmps59
     go_wp2_with (first |((with_reducible refine jD (N:=3) rfl ?_);refine bE (N:=3) (cs:=#[.slice A0_0 l0_0.length c0_0]) (t:=25) ?_;intro gb407 hg w9 hbox hb;have BK407:=am (hbox);have GW407:=am ((Y0:w.heap.size≤gb407));have GE407:=am ((Y0:w.heap.size≤gb407));replace HB:=am (je (bq) hb);clear hb hbox hg;have hcz10_0:=bc0 BK407.out;have hfz10_0:=jb BK407.out 0;have p408:0≤(a1:Int):=ozD (uq);have q408:a1<(l0_0.length:Int):=ozD (uq);obtain ⟨ad408,e408,hx408_0,hx408_1⟩:=at_T99 HR0_0.out a1 p408 q408;cases e408;replace hx408_0:=cb HB.out hx408_0;replace hx408_1:=cb HB.out hx408_1;replace p408:=ezT p408;replace q408:=ezT q408) |(go_at_call 86;(with_reducible refine (strconv_Itoa.calls a2 t409 _ A7.out).mono ?_);rintro e w' ⟨rfl,⟨nd,rfl⟩⟩;(try first | exact ⟨rfl,_,World.drewN_drewN _ _ _⟩ | exact ⟨rfl,_,Eq.trans (World.drewN_drewN _ _ _) (congrArg (World.drewN _) (Nat.add_assoc _ _ _))⟩)))
     repeat (go_quiet (first |((with_reducible refine jD (N:=3) rfl ?_);refine bE (N:=3) (cs:=#[.slice A0_0 l0_0.length c0_0]) (t:=25) ?_;intro gb407 hg w9 hbox hb;have BK407:=am (hbox);have GW407:=am ((Y0:w.heap.size≤gb407));have GE407:=am ((Y0:w.heap.size≤gb407));replace HB:=am (je (bq) hb);clear hb hbox hg;have hcz10_0:=bc0 BK407.out;have hfz10_0:=jb BK407.out 0;have p408:0≤(a1:Int):=ozD (uq);have q408:a1<(l0_0.length:Int):=ozD (uq);obtain ⟨ad408,e408,hx408_0,hx408_1⟩:=at_T99 HR0_0.out a1 p408 q408;cases e408;replace hx408_0:=cb HB.out hx408_0;replace hx408_1:=cb HB.out hx408_1;replace p408:=ezT p408;replace q408:=ezT q408) |(go_at_call 86;(with_reducible refine (strconv_Itoa.calls a2 t409 _ A7.out).mono ?_);rintro e w' ⟨rfl,⟨nd,rfl⟩⟩;(try first | exact ⟨rfl,_,World.drewN_drewN _ _ _⟩ | exact ⟨rfl,_,Eq.trans (World.drewN_drewN _ _ _) (congrArg (World.drewN _) (Nat.add_assoc _ _ _))⟩)));try go_wp2_with (first |((with_reducible refine jD (N:=3) rfl ?_);refine bE (N:=3) (cs:=#[.slice A0_0 l0_0.length c0_0]) (t:=25) ?_;intro gb407 hg w9 hbox hb;have BK407:=am (hbox);have GW407:=am ((Y0:w.heap.size≤gb407));have GE407:=am ((Y0:w.heap.size≤gb407));replace HB:=am (je (bq) hb);clear hb hbox hg;have hcz10_0:=bc0 BK407.out;have hfz10_0:=jb BK407.out 0;have p408:0≤(a1:Int):=ozD (uq);have q408:a1<(l0_0.length:Int):=ozD (uq);obtain ⟨ad408,e408,hx408_0,hx408_1⟩:=at_T99 HR0_0.out a1 p408 q408;cases e408;replace hx408_0:=cb HB.out hx408_0;replace hx408_1:=cb HB.out hx408_1;replace p408:=ezT p408;replace q408:=ezT q408) |(go_at_call 86;(with_reducible refine (strconv_Itoa.calls a2 t409 _ A7.out).mono ?_);rintro e w' ⟨rfl,⟨nd,rfl⟩⟩;(try first | exact ⟨rfl,_,World.drewN_drewN _ _ _⟩ | exact ⟨rfl,_,Eq.trans (World.drewN_drewN _ _ _) (congrArg (World.drewN _) (Nat.add_assoc _ _ _))⟩))))
     go_ret
     exact ⟨Y1,by repeat (first |(with_reducible first | exact HB.out | apply jv | apply jo | apply jq | refine jl ?_ GE407.out) | exact HB.out)⟩
    ·rw [if_neg c8] at H
     exact absurd H (by simp)
   ·rw [if_neg c6] at H
    exact absurd H (by simp)
  ·rw [if_neg c5] at H
   exact absurd H (by simp)
 ·rw [if_neg c4] at H
  exact absurd H (by simp)
set_option maxHeartbeats 8000000 in
set_option maxRecDepth 100000 in
theorem impl_chainText_walk (k : Nat) (A_ : Option Addr) (n_ c_ : Nat) (nx : Int → Option Int) (a0 : Int) (r : List Int) (w : World) (h : jib nx k a0 [] = some r)
  (hp:∀ W,Below w.heap.size w W→∀ (x y:Int),nx x=some y→Calls Tryd.prog 30 #[.agg #[.slice A_ n_ c_], .int .i64 x] W fun e w'=>e=.returned (.int .i64 y)∧Below W.heap.size W w') :
  Calls Tryd.prog 29 #[.int .i64 a0, .func (.func 30) #[.agg #[.slice A_ n_ c_]] #[]] w fun e w'=>∃ v0_:Value,e=.returned v0_∧Kd.R (Kd.int .i64) 3 w' w.heap.size (fun _=>True) v0_ r∧Below w.heap.size w w':=by
 have HP:=am hp
 have H0:=am h
 have HB:=am (Below.refl w.heap.size w)
 clear hp h
 go_enter Tryd.func29,Tryd.ntmps29
 go_wp2_with ((with_reducible refine jD (N:=6) rfl ?_);refine Kd.R_lit (Kd.int .i64) _ 3 ?hg (N:=6) ?hd (xs:=([]:List Int)) (inner:=[]) (ok:=fun _=>True) (okp:=fun _=>True) ?hr ?hp (fun _ hk=>hk) trivial (Below.refl _ _) (Nat.le_refl _) (by simp) ?_;(case hd=>rfl);(case hg=>rfl);(case hr=>exact Y4);(case hp=>exact (Reps.none _ _));intro v111 w4 ho5 hb hg_ hnew_;clear hg_ hnew_;have n0_:=am (Kd.jia ho5 (jM (bq)));have n2_:=am (je (bq) hb);clear HB;have HO:=n0_;have HB:=n2_;clear n0_ n2_ hb ho5)
 go_loopg [0,5] k (fun kq v0 v5 w'=>∃ (x:Int) (acc:List Int),v0=.int .i64 x∧jB (jib nx kq x acc=some r)∧jB (kq≤k)∧jB (Kd.R (Kd.int .i64) 3 w' w.heap.size (fun _=>True) v5 acc)∧jB (Below w.heap.size w w'))
 case atStart=>exact ⟨a0,[],(sq),H0,⟨Nat.le_refl _⟩,⟨rq HO.out⟩,⟨bq⟩⟩
 case round =>
  clear H0 HO HB
  obtain ⟨x,acc,rfl,HA,HK1,HO,HB⟩:=hrel
  cases gk with
  | zero=>exact absurd HA.out (by simp [jib])
  | succ k1 =>
   have H:=HA.out
   clear HA
   simp only [jib] at H
   obtain ⟨Ao,co,eo⟩:=Kd.jZ HO.out
   subst eo
   by_cases c6:x≥0
   ·rw [if_pos c6] at H
    have c6b0:decide (0≤x)=true:=dzT c6
    clear c6
    obtain ⟨b,A70,H⟩:=bzS H
    have A7:=am A70
    clear A70
    cases b with
    | true =>
     rw [if_pos rfl] at H
     obtain rfl:=Option.some.inj H
     clear H
     go_wp2_with (first |(go_at_call 53;(with_reducible refine (joa.calls k1 _ _ acc x true _ ?side1 ?side2 A7.out).mono ?_);(case side1=>exact cq (Kd.jC HO.out).2.2);(case side2=>exact (Kd.jC HO.out).2.1);rintro e w' ⟨rfl,⟨nd,rfl⟩⟩) |(go_at_call 54;refine (jpa.calls (fun _=>True) _ acc acc w _ (bq) (rq HO.out) (show jpa.f acc=some acc from rfl)).mono ?_;rintro e w9 ⟨v9,rfl,hR9,hB9,hK9⟩))
     go_ret
     exact ⟨_,rfl,Kd.jI hR9 (fun _ _=>trivial),hB9⟩
    | false =>
     rw [if_neg (by simp)] at H
     by_cases c10:acc.length<17592186044416
     ·rw [if_pos c10] at H
      have LM:=am c10
      clear c10
      obtain ⟨y,hy,H⟩:=bzS H
      have HQ:=am hy
      have H':=am H
      clear H hy
      go_wp2_with (first |(go_at_call 53;(with_reducible refine (joa.calls k1 _ _ acc x false _ ?side1 ?side2 A7.out).mono ?_);(case side1=>exact cq (Kd.jC HO.out).2.2);(case side2=>exact (Kd.jC HO.out).2.1);rintro e w' ⟨rfl,⟨nd,rfl⟩⟩) |(go_at_call 30;refine (HP.out _ (bq) _ _ HQ.out).mono ?_;rintro e w2 ⟨rfl,hb2⟩;have n1_:=am (Kd.jW (rq HO.out) hb2);have n2_:=am (je (bq) hb2);clear HO HB;have HO:=n1_;have HB:=n2_;clear n1_ n2_ hb2) |((with_reducible refine jHb (b:=.append) (xs:=#[.tmp 18, .tmp 20]) rfl ?_);at_builtin;refine Kd.R_append (Kd.int .i64) (w0:=w) w.heap.size rfl (.tmp 18) (.tmp 20) 32 3 (.int .i64 0) 8 rfl Tryd.underlying32 info3 rfl (by decide) (by omega) (.slice Ao acc.length co) acc x [.int .i64 x] (fun _=>True) (fun _=>False) rfl rfl ?aP (fun _ hk=>hk.elim) ?aF ?aO ?aB ?aS ?aL ?_;(case aP=>exact rfl);(case aB=>exact (bq));(case aF=>exact (fun _ _=>trivial));(case aO=>exact (rq HO.out));(case aS=>exact (jM (bq)));(case aL=>have:=LM.out;omega);intro v115 w14 ho hb hg hat;have n1_:=am (hb);have n2_:=am (ho);clear HB HO;have HB:=n1_;have HO:=n2_;clear n1_ n2_ ho hb hg hat))
      go_roundg k1
      case measure=>have:=HK1.out;omega
      case rel=>exact ⟨y,acc ++ [x],(sq),H',⟨by have:=HK1.out;omega⟩,⟨rq HO.out⟩,⟨bq⟩⟩
     ·rw [if_neg c10] at H
      cases H
   ·rw [if_neg c6] at H
    have c6b0:decide (0≤x)=false:=dzF c6
    clear c6
    obtain rfl:=Option.some.inj H
    clear H
    go_wp2_with (go_at_call 54;refine (jpa.calls (fun _=>True) _ acc acc w _ (bq) (rq HO.out) (show jpa.f acc=some acc from rfl)).mono ?_;rintro e w9 ⟨v9,rfl,hR9,hB9,hK9⟩)
    go_ret
    exact ⟨_,rfl,Kd.jI hR9 (fun _ _=>trivial),hB9⟩
section
open Go.Shelf
attribute [local go_sem] Oper.semAt_some
theorem xwrC {x : Int} (h : -9223372036854775808 ≤ x ∧ x ≤ 9223372036854775807) : wrap64 x = x := by unfold wrap64; omega
def uptoC {α : Type} (f : Nat → α) (k : Nat) : List α := (List.range k).map f
theorem uptoC_succ {α : Type} (f : Nat → α) (k : Nat) : uptoC f (k + 1) = uptoC f k ++ [f k] := by simp [uptoC, List.range_succ]
theorem uptoC_length {α : Type} (f : Nat → α) (k : Nat) : (uptoC f k).length = k := by simp [uptoC]
set_option maxRecDepth 100000 in
set_option maxHeartbeats 4000000 in
theorem backC1_in {α : Type} (F : Fence) (n : Nat) (h8 : F.fn 85) (hro : F.round = none) (hn : 1 ≤ n) (l Bs : Nat) (A : Option Addr) (cap : Nat) (xs : List Int) (hm : xs.length ≤ 9223372036854775807) (RD : World → Prop) (Kp : World → World → Prop) (hRD : ∀ W, RD W → Kd.C (Kd.int .i64) W A xs.length xs ∧ Boxed W Bs 32 (.slice A xs.length cap)) (hKp : ∀ W W', Kp W W' → RD W → RD W')
  (encs:α→Array Value) (g:Nat→α) (hg:∀ j:Nat,j<xs.length→encs (g j)=#[.int .i64 ((xs.length:Int) - 1 - j), .int .i64 (rd xs ((xs.length:Int) - 1 - j))])
  (J Jx:List α→World→Prop)
  (hY:∀ pre x W,J pre W→pre.length<xs.length→YieldAt F (n - 1) Tryd.prog l (encs x) W fun e W' =>
   (e=.returned (.bool true)∧J (pre ++ [x]) W'∧Kp W W')∨(e=.returned (.bool false)∧Jx (pre ++ [x]) W'))
  (W:World) (hW:RD W) (h0:J [] W) :
  CallsIn F n Tryd.prog 85 #[.func (.yield l) #[] #[], .pointer (some ⟨Bs,0,none⟩)] W fun e W'=>(∃ v,e=.returned v) ∧
   ((∃ ys,ys=uptoC g xs.length∧J ys W')∨(∃ pre,(∃ k,k≤xs.length∧pre=uptoC g k)∧Jx pre W')):=by
 have cBs:=(hRD W hW).2.cell
 refine callsIn_of_wp Tryd.func85 rfl h8 ?_ hro
 simp only [Tryd.ntmps85,List.size_toArray,List.length_cons,List.length_nil,Nat.reduceAdd,Nat.reduceSub,Array.replicate_succ,Array.replicate_zero,List.push_toArray,List.append_toArray,List.nil_append,List.cons_append]
 gi_wp2
 have hwr:wrap64 ((xs.length:Int) - 1)=(xs.length:Int) - 1:=xwrC (by omega)
 gi_loopw [3] (fun i wr=>∃ k:Nat,k≤xs.length∧i=.int .i64 ((xs.length:Int) - 1 - k)∧J (uptoC g k) wr∧RD wr)
  (fun i _=>(intOf i+1).toNat)
 case atStart=>exact ⟨0,Nat.zero_le _,by simp,h0,hW⟩
 case round =>
  obtain ⟨k,hk,rfl,hJs,hnx⟩:=hrel
  have cB:=(hRD _ hnx).2.cell
  by_cases hlt:k<xs.length
  ·obtain ⟨fn,tmps,assign,body,hy,hR⟩:=hY _ (g k) wr hJs (by rw [uptoC_length];exact hlt)
   rw [hg k hlt] at hy
   obtain ⟨j,hj⟩:∃ j:Nat,(xs.length:Int) - 1 - k=(j:Int):=⟨xs.length - 1 - k,by omega⟩
   have p0:0≤(j:Int):=by omega
   have p1:(j:Int)<(xs.length:Int):=by omega
   have p2:j<xs.length:=by omega
   rw [hj] at hy ⊢
   obtain ⟨ad,rfl,x0⟩:=Kd.jNb (hRD _ hnx).1 (j:Int) p0 p1
   rw [Int.toNat_natCast] at x0
   gi_wp2
   refine hR.mono ?_
   rintro e W3 (⟨rfl,hJ3,hk3⟩ | ⟨rfl,hJx3⟩)
   ·have hb3:=hKp _ _ hk3 hnx
    have c3:=(hRD _ hb3).2.cell
    gi_wp2
    go_roundw
    case rel=>exact ⟨k+1,by omega,by congr 1;omega,by rw [uptoC_succ];exact hJ3,hb3⟩
    case measure=>simp [intOf]
   ·gi_wp2
    refine bodyPost_ret (results_none rfl _ _ _) rfl ?_
    exact ⟨⟨_,rfl⟩, .inr ⟨_,⟨k+1,by omega,(uptoC_succ _ _).symm⟩,hJx3⟩⟩
  ·obtain rfl:k=xs.length:=by omega
   have q2:decide ((xs.length:Int) - 1 - xs.length≥0)=false:=dzF (by omega)
   gi_wp2
   go_end0
   exact ⟨⟨_,rfl⟩, .inl ⟨_,rfl,hJs⟩⟩
theorem KeepsFrom.jMb {W W' : World} (h : Below W.heap.size W W') (B : Nat) : KeepsFrom B W W' := ⟨h.size, fun k o _ hk _ => (h.block k (Array.getElem?_eq_some_iff.1 hk).1).trans hk⟩
theorem Boxed.jpc {W W' : World} {B : Nat} {t : TypeId} {v : Value} (h : Boxed W B t v) (hb : Below W.heap.size W W') : Boxed W' B t v := (hb.block B h.lt).trans h
set_option maxHeartbeats 1000000 in
theorem backC_in (F : Fence) (n : Nat) (h6 : F.fn 58) (hro : F.round = none) (a : Option Addr) (len cap : Nat) (w : World) :
  CallsIn F n Tryd.prog 58 #[.slice a len cap] w fun e w'=>e=.returned (.func (.func 85) #[] #[.pointer (some ⟨w.heap.size,0,none⟩)])∧w'=w.alloc (.cells #[.slice a len cap] 32):=by
 refine callsIn_of_wp Tryd.func58 rfl h6 ?_ hro
 simp only [Tryd.ntmps58,List.size_toArray,List.length_cons,List.length_nil,Nat.reduceAdd,Nat.reduceSub,Array.replicate_succ,Array.replicate_zero,List.push_toArray,List.append_toArray,List.nil_append,List.cons_append]
 gi_wp2
 go_ret
 exact ⟨rfl,rfl⟩
def joc (o : Oper) : Bool := match o.op with | .defer _ => false | _ => true
theorem noDeferC_spec {o : Oper} (h : joc o = true) : ∀ c, o.op ≠ .defer c := fun c hc => by simp [joc, hc] at h
theorem opInC_round {F : Fence} {l n : Nat} {P : Program} {o : Oper} {a : Act} {w : World} {K : Act → World → Prop} {Q : Exit → Act → World → Prop} (hro : F.round = none) (hd : joc o = true) (h : o.wpIn F n P a w K Q) : o.wpIn (F.inRound l) n P a w K Q := by
 unfold Oper.wpIn at *
 refine ⟨h.1,?_⟩
 have h2:=h.2
 rw [hro,Oper.semAt_none] at h2
 rw [Fence.inRound_round,Oper.semAt_some l _ _ (noDeferC_spec hd)]
 exact h2
theorem opsInC_round {F : Fence} {l n : Nat} {P : Program} {ops : Array Oper} {K K' : Act → World → Prop} {Q : Exit → Act → World → Prop} (hro : F.round = none) (hd : ops.all joc = true) {i : Nat} {a : Act} {w : World} (hK : ∀ a w, K a w → K' a w) (h : wpOpIn F n P ops Q i K a w) : wpOpIn (F.inRound l) n P ops Q i K' a w := by
 have h:=wpOpIn_mono hK h
 unfold wpOpIn at h ⊢
 cases ho:ops[i]? with
 | none=>simp only [ho] at h ⊢;exact h
 | some o =>
  simp only [ho] at h ⊢
  have hn:joc o=true:=by
   obtain ⟨hi,e⟩:=Array.getElem?_eq_some_iff.1 ho
   have:=Array.all_eq_true.1 hd i hi
   rw [e] at this;exact this
  split
  ·rename_i hw;rw [if_pos hw] at h;exact opInC_round hro hn h
  ·rename_i hw;rw [if_neg hw] at h;exact h
theorem wpAnyInC_round {F : Fence} {l n : Nat} {P : Program} {md : Region.Mode} {ops : Array Oper} {Q : Exit → Act → World → Prop} (hro : F.round = none) (hd : ops.all joc = true) : ∀ (fuel : Nat) (listed : Array Bool) (a : Act) (w : World), wpAnyIn F n P md ops Q fuel listed a w → wpAnyIn (F.inRound l) n P md ops Q fuel listed a w
 | 0,_,_,_,h=>h
 | fuel+1,listed,a,w,h=>⟨h.1,fun i hi=>opsInC_round hro hd (fun a w hh=>wpAnyInC_round hro hd fuel _ a w hh) (h.2 i hi)⟩
theorem opC_wide {n : Nat} {P : Program} {o : Oper} {a : Act} {w : World} {K K' : Act → World → Prop} {Q : Exit → Act → World → Prop} (hK : ∀ a w, K a w → K' a w) (h : o.wp P a w K Q) : o.wpIn Fence.wide n P a w K' Q := by
 unfold Oper.wp at h
 unfold Oper.wpIn
 refine ⟨fun _ _=>trivial,?_⟩
 rw [show Fence.wide.round=none from rfl,Oper.semAt_none]
 generalize (execOp a.eval o).run P w=r at h ⊢
 have hd:Fence.wide.depth.isSome=true→1≤n:=fun e=>by simp [Fence.wide] at e
 cases r with
 | ok y w' =>
  cases y <;> simp only [Oper.upon,Oper.uponIn] at h ⊢ <;>
   first
    | exact hK _ _ h
    | exact ⟨hd,callsIn_wide.2 (h.mono fun e w'' he=>by cases e <;> first | exact hK _ _ he | exact he)⟩
    | exact ⟨hd,fun c cs _=>let ⟨v,w'',r,s⟩:=h c cs;⟨v,w'',hK _ _ r,stepsIn_wide.2 s⟩⟩
    | exact h.elim
 | halt y w'=>cases y <;> simp only [Oper.upon,Oper.uponIn] at h ⊢ <;> first | exact h | exact h.elim
theorem jmc {n : Nat} {P : Program} {md : Region.Mode} {ops : Array Oper} {Q : Exit → Act → World → Prop} (hL : ¬ LetsOut Q) : ∀ (fuel : Nat) (listed : Array Bool) (a : Act) (w : World), wpAny P md ops Q fuel listed a w → wpAnyIn Fence.wide n P md ops Q fuel listed a w
 | 0,_,_,_,h=>h
 | fuel+1,listed,a,w,h=>⟨h.1,fun i hi=>by
  have h2:=h.2 i hi
  unfold wpOp at h2
  unfold wpOpIn
  cases ho:ops[i]? with
  | none=>simp only [ho] at h2 ⊢;exact jmc hL fuel _ a w h2
  | some o =>
   simp only [ho] at h2 ⊢
   split
   ·rename_i hw
    rw [if_pos hw] at h2
    rcases h2 with h2 | ⟨_,h2⟩
    ·exact opC_wide (fun a w hh=>jmc hL fuel _ a w hh) h2
    ·exact absurd h2 hL
   ·rename_i hw
    rw [if_neg hw] at h2
    exact ⟨fun _ _=>trivial,jmc hL fuel _ _ w h2⟩⟩
theorem jXb {l n : Nat} {P : Program} {id : Nat} {ops : Array Oper} {Q : Exit → Act → World → Prop} {a : Act} {w : World} (S : World → Prop) (hm : P.follows .mixedOrders = true) (hd : ops.all joc = true) (hL : ¬ LetsOut Q)
  (h:wpAnyH P .any ops Q S ops.size (Array.replicate ops.size false) a w.drew):(Code.region id ops true).wpIn (Fence.wide.inRound l) n P Q a w :=
 wpIn_region_any hm (wpAnyInC_round (F:=Fence.wide) (l:=l) rfl hd _ _ _ _ (jmc hL _ _ _ _ (wpAny_of_held _ _ _ _ h)))
def chAt (t : List S99) (h : List S66) (l : List Int) (i g : Int) : Option ByteArray :=
 if 0≤g then (if g<(h.length:Int) then (jGa.f t (ja h g).f0 (ja h g).f1).bind fun tx=>if tx.size≤2000000 then
  (if i<(l.length:Int) - 1 then (if 0≤i then some ((if (ja h g).f2=rd l (i+1) then (⟨#[32,62,32]⟩:ByteArray) else (⟨#[32,126,32]⟩:ByteArray)) ++ tx) else none) else some tx) else none else none) else none
def chAll (t : List S99) (h : List S66) (l : List Int) : Nat → Option ByteArray
 | 0=>some ⟨#[]⟩
 | i+1=>(chAt t h l (i:Int) (rd l (i:Int))).bind fun a=>(chAll t h l i).bind fun b=>some (a ++ b)
def jDa.f (k : Nat) (l0_0 : List S66) (l1_0 : List S99) (a2 : Int) : Option ByteArray :=
 (jib (fun g=>jJa.f l0_0 g) k a2 []).bind fun l=>if l.length≤1000000000 then chAll l1_0 l0_0 l l.length else none
theorem chAt_inv {t : List S99} {h : List S66} {l : List Int} {i g : Int} (hx : (chAt t h l i g).isSome = true) : 0 ≤ g ∧ g < (h.length : Int) ∧ ∃ tx, jGa.f t (ja h g).f0 (ja h g).f1 = some tx ∧ tx.size ≤ 2000000 ∧
  ((¬ i<(l.length:Int) - 1∧chAt t h l i g=some tx)∨(i<(l.length:Int) - 1∧0≤i∧(((ja h g).f2=rd l (i+1)∧chAt t h l i g=some ((⟨#[32,62,32]⟩:ByteArray) ++ tx))∨((ja h g).f2≠rd l (i+1)∧chAt t h l i g=some ((⟨#[32,126,32]⟩:ByteArray) ++ tx))))):=by
 unfold chAt at hx ⊢
 by_cases h0:0≤g
 ·rw [if_pos h0] at hx ⊢
  by_cases h1:g<(h.length:Int)
  ·rw [if_pos h1] at hx ⊢
   cases ht:jGa.f t (ja h g).f0 (ja h g).f1 with
   | none=>rw [ht] at hx;cases hx
   | some tx =>
    rw [ht] at hx
    simp only [Option.bind_some] at hx ⊢
    by_cases hz:tx.size≤2000000
    ·rw [if_pos hz] at hx
     refine ⟨h0,h1,tx,rfl,hz,?_⟩
     simp only [if_pos hz]
     by_cases h2:i<(l.length:Int) - 1
     ·rw [if_pos h2] at hx ⊢
      by_cases h3:0≤i
      ·rw [if_pos h3]
       refine .inr ⟨h2,h3,?_⟩
       by_cases h4:(ja h g).f2=rd l (i+1)
       ·exact .inl ⟨h4,by rw [if_pos h4]⟩
       ·exact .inr ⟨h4,by rw [if_neg h4]⟩
      ·rw [if_neg h3] at hx;cases hx
     ·rw [if_neg h2]
      exact .inl ⟨h2,rfl⟩
    ·rw [if_neg hz] at hx;cases hx
  ·rw [if_neg h1] at hx;cases hx
 ·rw [if_neg h0] at hx;cases hx
theorem chAt_size {t : List S99} {h : List S66} {l : List Int} {i g : Int} {r : ByteArray} (hx : chAt t h l i g = some r) : r.size ≤ 2000003 := by
 obtain ⟨_,_,tx,_,hz,h3⟩:=chAt_inv (show (chAt t h l i g).isSome=true by rw [hx];rfl)
 rcases h3 with ⟨_,e⟩ | ⟨_,_,⟨_,e⟩ | ⟨_,e⟩⟩ <;> rw [hx] at e <;> obtain rfl:=Option.some.inj e
 ·omega
 ·rw [ByteArray.size_append];have:(⟨#[32,62,32]⟩:ByteArray).size=3:=rfl;omega
 ·rw [ByteArray.size_append];have:(⟨#[32,126,32]⟩:ByteArray).size=3:=rfl;omega
def catB : List ByteArray → ByteArray
 | []=>⟨#[]⟩
 | x :: r=>x ++ catB r
theorem catB_nil (x : ByteArray) : x ++ (⟨#[]⟩ : ByteArray) = x := ByteArray.append_empty
theorem catB_nil' (x : ByteArray) : (⟨#[]⟩ : ByteArray) ++ x = x := ByteArray.empty_append
theorem catB_snoc : ∀ (a : List ByteArray) (x : ByteArray), catB (a ++ [x]) = catB a ++ x
 | [],x=>by show x ++ (⟨#[]⟩:ByteArray)=(⟨#[]⟩:ByteArray) ++ x;rw [catB_nil,catB_nil']
 | y :: a,x=>by show y ++ catB (a ++ [x])=(y ++ catB a) ++ x;rw [catB_snoc a x,ByteArray.append_assoc]
abbrev ChEl (t : List S99) (h : List S66) (l : List Int) := { x : Int × Int // (chAt t h l x.1 x.2).isSome = true ∨ l.length = 0 }
def ChEl.zero (t : List S99) (h : List S66) (l : List Int) (e : (chAt t h l 0 (rd l 0)).isSome = true ∨ l.length = 0) : ChEl t h l := ⟨(0, rd l 0), e⟩
def ChEl.txt {t : List S99} {h : List S66} {l : List Int} (x : ChEl t h l) : ByteArray := (chAt t h l x.1.1 x.1.2).getD ⟨#[]⟩
def ChEl.acc {t : List S99} {h : List S66} {l : List Int} (pre : List (ChEl t h l)) : ByteArray := catB (pre.map ChEl.txt)
theorem ChEl.acc_snoc {t : List S99} {h : List S66} {l : List Int} (pre : List (ChEl t h l)) (x : ChEl t h l) : ChEl.acc (pre ++ [x]) = ChEl.acc pre ++ x.txt := by
 unfold ChEl.acc;rw [List.map_append,List.map_cons,List.map_nil,catB_snoc]
theorem ChEl.txt_size {t : List S99} {h : List S66} {l : List Int} (x : ChEl t h l) : x.txt.size ≤ 2000003 := by
 unfold ChEl.txt
 cases e:chAt t h l x.1.1 x.1.2 with
 | none=>exact Nat.zero_le _
 | some r=>exact chAt_size e
theorem ChEl.acc_size {t : List S99} {h : List S66} {l : List Int} : ∀ pre : List (ChEl t h l), (ChEl.acc pre).size ≤ pre.length * 2000003
 | []=>Nat.zero_le _
 | x :: pre=>by
  have h1:=ChEl.acc_size pre
  have h2:=ChEl.txt_size x
  show (x.txt ++ ChEl.acc pre).size≤_
  rw [ByteArray.size_append,List.length_cons]
  omega
def ChEl.of (t : List S99) (h : List S66) (l : List Int) (e : (chAt t h l 0 (rd l 0)).isSome = true ∨ l.length = 0) (j : Nat) : ChEl t h l :=
 if q:(chAt t h l ((l.length:Int) - 1 - j) (rd l ((l.length:Int) - 1 - j))).isSome=true then ⟨((l.length:Int) - 1 - j,rd l ((l.length:Int) - 1 - j)), .inl q⟩ else ChEl.zero t h l e
theorem chAll_all {t : List S99} {h : List S66} {l : List Int} : ∀ (n : Nat) (r : ByteArray), chAll t h l n = some r → ∀ j : Nat, j < n → (chAt t h l (j : Int) (rd l (j : Int))).isSome = true
 | 0,_,_,j,hj=>by omega
 | n+1,r,h,j,hj=>by
  simp only [chAll] at h
  obtain ⟨a,h1,h⟩:=bzS h
  obtain ⟨b,h2,h⟩:=bzS h
  by_cases e:j=n
  ·subst e;rw [h1];rfl
  ·exact chAll_all n b h2 j (by omega)
theorem ChEl.acc_all {t : List S99} {h : List S66} {l : List Int} (h0 : (chAt t h l 0 (rd l 0)).isSome = true ∨ l.length = 0) : ∀ (n : Nat) (r : ByteArray), n ≤ l.length → chAll t h l n = some r → catB ((List.range n).map fun j => (ChEl.of t h l h0 (l.length - n + j)).txt) = r
 | 0,r,_,h=>by simp [chAll] at h;rw [← h];rfl
 | n+1,r,hn,h=>by
  have h2:=chAll_all (n+1) r h n (by omega)
  simp only [chAll] at h
  obtain ⟨a,ha,h⟩:=bzS h
  obtain ⟨b,hb,h⟩:=bzS h
  obtain rfl:=Option.some.inj h
  have ih:=ChEl.acc_all h0 n b (by omega) hb
  rw [List.range_succ_eq_map,List.map_cons,catB,List.map_map]
  have e1:(ChEl.of t _ l h0 (l.length - (n+1)+0)).txt=a:=by
   have ei:(l.length:Int) - 1 - ((l.length - (n+1)+0:Nat):Int)=(n:Int):=by omega
   have hh:=h2
   rw [← ei] at hh
   simp only [ChEl.of,dif_pos hh,ChEl.txt]
   rw [ei,ha];rfl
  have e2:(List.map ((fun j=>(ChEl.of t _ l h0 (l.length - (n+1)+j)).txt) ∘ Nat.succ) (List.range n))=(List.range n).map fun j=>(ChEl.of t _ l h0 (l.length - n+j)).txt:=by
   apply List.map_congr_left
   intro j _
   simp only [Function.comp]
   rw [show l.length - (n+1)+j.succ=l.length - n+j by omega]
  rw [e1,e2,ih]
theorem ChEl.enc {t : List S99} {h : List S66} {l : List Int} (h0 : (chAt t h l 0 (rd l 0)).isSome = true ∨ l.length = 0) (hall : ∀ j : Nat, j < l.length → (chAt t h l (j : Int) (rd l (j : Int))).isSome = true) {j : Nat} (hj : j < l.length) :
  (fun x:ChEl t h l=>#[Value.int .i64 x.1.1, .int .i64 x.1.2]) (ChEl.of t h l h0 j)=#[.int .i64 ((l.length:Int) - 1 - j), .int .i64 (rd l ((l.length:Int) - 1 - j))]:=by
 have q:=hall (l.length - 1 - j) (by omega)
 rw [show ((l.length - 1 - j:Nat):Int)=(l.length:Int) - 1 - j by omega] at q
 simp only [ChEl.of,dif_pos q]
theorem R_ownC (base : Nat) (v : Value) (l : List Int) {β : Type} : Own (fun (_ : β) W => Kd.R (Kd.int .i64) 3 W base (fun _ => True) v l) := fun s W W' row h hg hr => by
 refine Kd.jI (Kd.R_move (Kd.R_bound h) (fun k hk=>?_)) (fun _ _=>trivial)
 obtain ⟨_,_,hk,q,hq,cells,hc⟩:=hk
 refine hg.block k hk (fun e=>?_)
 obtain ⟨o,ho,hcells⟩:=hr k e.symm
 rw [hc] at ho;cases ho;cases hcells
set_option maxHeartbeats 8000000 in
set_option maxRecDepth 100000 in
theorem jDa.calls (k : Nat) (A0_0 : Option Addr) (c0_0 : Nat) (l0_0 : List (S66)) (A1_0 : Option Addr) (c1_0 : Nat) (l1_0 : List (S99)) (a2 : Int) (r : ByteArray) (w : World) (hr0_0 : Kd.C k66 w A0_0 l0_0.length l0_0) (hc0_0 : l0_0.length ≤ c0_0) (hr1_0 : Kd.C k99 w A1_0 l1_0.length l1_0) (hc1_0 : l1_0.length ≤ c1_0) (h : jDa.f k l0_0 l1_0 a2 = some r) :
  Calls Tryd.prog 33 #[.agg #[.slice A0_0 l0_0.length c0_0], .agg #[.slice A1_0 l1_0.length c1_0], .int .i64 a2] w fun e w'=>e=.returned (.string r)∧Below w.heap.size w w':=by
 obtain ⟨l,hl,h⟩:=bzS h
 by_cases hlen:l.length≤1000000000
 case neg=>rw [if_neg hlen] at h;cases h
 rw [if_pos hlen] at h
 have hall:=chAll_all _ _ h
 have hz0:(chAt l1_0 l0_0 l 0 (rd l 0)).isSome=true∨l.length=0:=by
  by_cases e:l.length=0
  ·exact .inr e
  ·exact .inl (hall 0 (by omega))
 have hu28:=Tryd.underlying28
 have hu25:=Tryd.underlying25
 have hu66:=Tryd.underlying66
 have hmx:Tryd.prog.follows .mixedOrders=true:=by kernel_rfl
 have HW:=am (fun W (hb:Below w.heap.size w W)=>impl_chainText_walk k A0_0 l0_0.length c0_0 (fun g=>jJa.f l0_0 g) a2 l W hl (fun W' hb' x y hx=>jJa.calls A0_0 c0_0 l0_0 x y W' (Kd.jU (Kd.jU hr0_0 hb) hb') hc0_0 hx))
 refine (callsIn_wide (n:=8)).1 ?_
 have hro:Fence.wide.round=none:=rfl
 refine callsIn_of_wp_marks Tryd.func33 rfl trivial ?_ hro
 simp only [Tryd.ntmps33,List.size_toArray,List.length_cons,List.length_nil,Nat.reduceAdd,Nat.reduceSub,Array.replicate_succ,Array.replicate_zero,List.push_toArray,List.append_toArray,List.nil_append,List.cons_append]
 have b0:=((Boxed.new w 28 (.slice A0_0 l0_0.length c0_0)).alloc (.cells #[.slice A1_0 l1_0.length c1_0] 25)).alloc (.cells #[.string ⟨#[]⟩] 9)
 have b1:=(Boxed.new (w.alloc (.cells #[.slice A0_0 l0_0.length c0_0] 28)) 25 (.slice A1_0 l1_0.length c1_0)).alloc (.cells #[.string ⟨#[]⟩] 9)
 have b2:=Boxed.new ((w.alloc (.cells #[.slice A0_0 l0_0.length c0_0] 28)).alloc (.cells #[.slice A1_0 l1_0.length c1_0] 25)) 9 (.string ⟨#[]⟩)
 simp only [World.size_alloc] at b1 b2
 have hB3:Below w.heap.size w (((w.alloc (.cells #[.slice A0_0 l0_0.length c0_0] 28)).alloc (.cells #[.slice A1_0 l1_0.length c1_0] 25)).alloc (.cells #[.string ⟨#[]⟩] 9)):=(((Below.refl _ w).alloc (Nat.le_refl _) _).alloc (by simp) _).alloc (by simp;omega) _
 have hcall:=HW.out _ hB3
 have q0:=b0.cell
 clear HW
 gi_wp2_with (first |(refine ⟨trivial,?_⟩;gi_at_call 29;refine (callsIn_wide.2 hcall).mono ?_;rintro e w1 ⟨v1,rfl,hR,hb1⟩;clear hcall;obtain ⟨Ao,co,eo⟩:=Kd.jZ hR;subst eo;have k0:=Boxed.jpc b0 hb1;have k1:=Boxed.jpc b1 hb1;have k2:=Boxed.jpc b2 hb1;clear b0 b1 b2 q0) |(refine ⟨trivial,?_⟩;gi_at_call 58;refine (backC_in Fence.wide _ trivial hro _ _ _ _).mono ?_;rintro e w' ⟨rfl,rfl⟩))
 obtain ⟨W3,hW3⟩:∃ W3,(((w.alloc (.cells #[.slice A0_0 l0_0.length c0_0] 28)).alloc (.cells #[.slice A1_0 l1_0.length c1_0] 25)).alloc (.cells #[.string ⟨#[]⟩] 9))=W3:=⟨_,rfl⟩
 have hs3:W3.heap.size=w.heap.size+3:=by rw [← hW3];simp
 rw [hW3] at hR hb1 hB3
 clear hW3
 have hs1:w.heap.size+3≤w1.heap.size:=by have:=hb1.size;omega
 have B0:Below w.heap.size w ((w1.alloc (.cells #[.slice Ao l.length co] 32)).alloc (.cells #[.slice Ao l.length co] 32)):=((hB3.trans (hb1.mono (by omega))).alloc (by omega) _).alloc (by simp;omega) _
 have d0:=(k0.alloc (.cells #[.slice Ao l.length co] 32)).alloc (.cells #[.slice Ao l.length co] 32)
 have d1:=(k1.alloc (.cells #[.slice Ao l.length co] 32)).alloc (.cells #[.slice Ao l.length co] 32)
 have d2:=(k2.alloc (.cells #[.slice Ao l.length co] 32)).alloc (.cells #[.slice Ao l.length co] 32)
 have dL:=(Boxed.new w1 32 (.slice Ao l.length co)).alloc (.cells #[.slice Ao l.length co] 32)
 have dS:=Boxed.new (w1.alloc (.cells #[.slice Ao l.length co] 32)) 32 (.slice Ao l.length co)
 rw [World.size_alloc] at dS
 have dR:=Kd.jX (Kd.jX hR (.cells #[.slice Ao l.length co] 32)) (.cells #[.slice Ao l.length co] 32)
 obtain ⟨W0,hW0⟩:∃ W0,(w1.alloc (.cells #[.slice Ao l.length co] 32)).alloc (.cells #[.slice Ao l.length co] 32)=W0:=⟨_,rfl⟩
 have hs0:W0.heap.size=w1.heap.size+2:=by rw [← hW0];simp
 rw [hW0] at B0 d0 d1 d2 dL dS dR ⊢
 have hW:=am hW0
 clear hW0 k0 k1 k2
 obtain ⟨RD,hRD⟩:∃ RD:World→Prop,RD=fun W=>Boxed W (w1.heap.size+1) 32 (.slice Ao l.length co)∧Kd.R (Kd.int .i64) 3 W W3.heap.size (fun _=>True) (.slice Ao l.length co) l:=⟨_,rfl⟩
 have hRD1:∀ W,RD W→Kd.C (Kd.int .i64) W Ao l.length l∧Boxed W (w1.heap.size+1) 32 (.slice Ao l.length co):=fun W h=>by
  rw [hRD] at h;exact ⟨(Kd.jC h.2).2.2,h.1⟩
 have hRD2:∀ W,Below W0.heap.size W0 W→RD W:=fun W h=>by
  rw [hRD];exact ⟨Boxed.jpc dS h,Kd.jW dR h⟩
 have hRD3:∀ (W:World) (lp:Nat) (o o':Obj),W.heap[lp]?=some o→o.isCells=false→RD W→RD (W.putObj lp o'):=fun W lp o o' ho hc h=>by
  rw [hRD] at h ⊢
  exact ⟨(boxed_own (β:=Unit) _ _ fun _=>_).putObj (s:=()) o' h.1 ho hc,(R_ownC (β:=Unit) _ _ _).putObj (s:=()) o' h.2 ho hc⟩
 have hRDi:∀ W,Boxed W (w1.heap.size+1) 32 (.slice Ao l.length co)→Kd.R (Kd.int .i64) 3 W W3.heap.size (fun _=>True) (.slice Ao l.length co) l→RD W:=fun W h1 h2=>by rw [hRD];exact ⟨h1,h2⟩
 clear hRD
 obtain ⟨IV,hIV⟩:∃ IV:World→ByteArray→Prop,IV=fun W s=>((((((Boxed W w.heap.size 28 (.slice A0_0 l0_0.length c0_0)∧Boxed W (w.heap.size+1) 25 (.slice A1_0 l1_0.length c1_0))∧Boxed W (w1.heap.size) 32 (.slice Ao l.length co))∧Boxed W (w1.heap.size+1) 32 (.slice Ao l.length co))∧Boxed W (w.heap.size+1+1) 9 (.string s))∧Kd.R (Kd.int .i64) 3 W W3.heap.size (fun _=>True) (.slice Ao l.length co) l)∧Below w.heap.size w W):=⟨_,rfl⟩
 have IB:=am (show ∀ (W W':World) (s:ByteArray),IV W s→Below W.heap.size W W'→IV W' s from fun W W' s h hb=>by
  rw [hIV] at h ⊢
  obtain ⟨⟨⟨⟨⟨⟨i0,i1⟩,iL⟩,iS⟩,iO⟩,iR⟩,hB⟩:=h
  exact ⟨⟨⟨⟨⟨⟨Boxed.jpc i0 hb,Boxed.jpc i1 hb⟩,Boxed.jpc iL hb⟩,Boxed.jpc iS hb⟩,Boxed.jpc iO hb⟩,Kd.jW iR hb⟩,hB.trans (hb.mono hB.size)⟩)
 have IS:=am (show ∀ (W:World) (s u:ByteArray),IV W s→IV (W.setCell ⟨w.heap.size+1+1,0,none⟩ (.string u)) u from fun W s u h=>by
  rw [hIV] at h ⊢
  obtain ⟨⟨⟨⟨⟨⟨i0,i1⟩,iL⟩,iS⟩,iO⟩,iR⟩,hB⟩:=h
  exact ⟨⟨⟨⟨⟨⟨i0.other (by omega) _,i1.other (by omega) _⟩,iL.other (by omega) _⟩,iS.other (by omega) _⟩,iO.set _⟩,Kd.R_set iR iO (by decide) 0 (.string u)⟩,hB.setCell (p:=⟨w.heap.size+1+1,0,none⟩) (by simp;omega) _⟩)
 have IR:=am (show ∀ (W:World) (s:ByteArray),IV W s→RD W from fun W s h=>by
  rw [hIV] at h
  obtain ⟨⟨⟨⟨⟨⟨i0,i1⟩,iL⟩,iS⟩,iO⟩,iR⟩,hB⟩:=h
  exact hRDi W iS iR)
 have hOwn:OwnFrom W0.heap.size (fun (pre:List (ChEl l1_0 l0_0 l)) W=>IV W (ChEl.acc pre)):=by
  rw [hIV]
  exact (OwnFrom.and (OwnFrom.and (OwnFrom.and (OwnFrom.and (OwnFrom.and (OwnFrom.and (Own.from (boxed_own _ _ fun _=>_) _) (Own.from (boxed_own _ _ fun _=>_) _)) (Own.from (boxed_own _ _ fun _=>_) _)) (Own.from (boxed_own _ _ fun _=>_) _)) (Own.from (boxed_own _ _ fun pre=>Value.string (ChEl.acc pre)) _)) (Own.from (R_ownC _ _ _) _)) (ownFrom_below (Nat.le_refl _) (by omega)))
 have hI0:IV W0 ⟨#[]⟩:=by rw [hIV];exact ⟨⟨⟨⟨⟨⟨d0,d1⟩,dL⟩,dS⟩,d2⟩,dR⟩,B0⟩

 refine wpIn_rangeFunc_ownH hro (by omega) (gf:=85) (lb:=#[.pointer (some ⟨w1.heap.size+1,0,none⟩)]) rfl trivial (enters_of Tryd.func85 (by kernel_rfl) rfl)
  (encs:=fun x:ChEl l1_0 l0_0 l=>#[.int .i64 x.1.1, .int .i64 x.1.2]) (Kp:=fun W W'=>RD W→RD W')
  (S:=fun ys=>ys=uptoC (ChEl.of l1_0 l0_0 l hz0) l.length) (Sp:=fun pre=>∃ q,q≤l.length∧pre=uptoC (ChEl.of l1_0 l0_0 l hz0) q) (N:=l.length) (w0:=W0)
  (fun lp J Jx W hW _ _ hY h0=>backC1_in Fence.wide _ trivial hro (by omega) lp _ Ao co l (by omega) RD (fun W W'=>RD W→RD W') hRD1 (fun W W' h h2=>h h2) _ (ChEl.of l1_0 l0_0 l hz0) (fun j hj=>ChEl.enc hz0 hall hj) J Jx hY W (hRD2 W hW) h0)
  (fun h k x=>k (h x)) (fun W lp o o' hl ho hc hw hx=>hRD3 W lp o o' ho hc hx) (Below.refl _ _) (fun _=>rfl)
  (fun pre W=>IV W (ChEl.acc pre))
  (fun c pre W=>False)
  hOwn
  (fun c=>ownFrom_pure _ fun _=>False)
  hI0
  (fun x a' W=>a'={ tmps:=#[.agg #[.slice A0_0 l0_0.length c0_0], .agg #[.slice A1_0 l1_0.length c1_0], .int .i64 a2, .pointer (some ⟨w.heap.size,0,none⟩), .pointer (some ⟨w.heap.size+1,0,none⟩),undef, .string ⟨#[]⟩, .pointer (some ⟨w.heap.size+1+1,0,none⟩), .pointer (some ⟨w1.heap.size,0,none⟩), .int .i64 x.1.1, .int .i64 x.1.2,undef,undef, .int .i64 a2, .agg #[.slice A0_0 l0_0.length c0_0], .func (.func 30) #[.agg #[.slice A0_0 l0_0.length c0_0]] #[], .slice Ao l.length co, .slice Ao l.length co, .func (.func 85) #[] #[.pointer (some ⟨w1.heap.size+1,0,none⟩)], .int .i64 x.1.1, .int .i64 x.1.2,undef,undef,undef,undef,undef,undef,undef,undef,undef,undef,undef,undef,undef,undef,undef,undef,undef,undef,undef,undef,undef,undef,undef,undef,undef,undef,undef,undef,undef,undef],defers:=[] })
  (fun x a' _ X Y row hs hg hr=>hs)
  ?assign ?body ?done ?stop

 case assign =>
  rintro lp pre x W K hI hK
  gi_wp2
  exact hK _ _ (KeepsFrom.jMb (Below.refl _ _) _) (fun h=>h) hI rfl
 case body =>
  rintro lp pre ⟨⟨ix,g⟩,hx⟩ a' W hl ⟨rr,hrr⟩ hI rfl hlt
  have hx1:(chAt l1_0 l0_0 l ix g).isSome=true:=by
   rcases hx with h | h
   ·exact h
   ·exact absurd hlt (by omega)
  obtain ⟨g0,g1,tx,htx,htz,hcs⟩:=chAt_inv hx1
  have hsn:=ChEl.acc_snoc pre ⟨(ix,g),hx⟩
  have hsz:=ChEl.acc_size pre
  have hI1:=hI
  rw [hIV] at hI1
  obtain ⟨⟨⟨⟨⟨⟨i0,i1⟩,iL⟩,iS⟩,iO⟩,iR⟩,hB⟩:=hI1
  obtain ⟨ad,rfl,y0,y1,y2,y3,y4⟩:=jlb (Kd.jU hr0_0 hB) g g0 g1
  have KT:=am (fun W' (hb:Below w.heap.size w W')=>jGa.calls A1_0 c1_0 l1_0 _ _ tx W' (Kd.jU hr1_0 hb) hc1_0 htx)
  have hbX:Below W.heap.size W (World.drew (W.alloc (.cells #[.int .i64 (ja l0_0 g).f0, .int .i64 (ja l0_0 g).f1, .int .i64 (ja l0_0 g).f2, .int .i64 (ja l0_0 g).f3, .bool (ja l0_0 g).f4] 66))):=jnb (jv (Below.refl W.heap.size W) _)
  have c0:=i0.cell
  have c1:=i1.cell
  have cL:=iL.cell
  have cO:=iO.cell
  have fO:=iO.frozen
  have hwl:wrap64 ((l.length:Int) - 1)=(l.length:Int) - 1:=xwrC (by omega)
  have hO1:w.heap.size+1+1<W.heap.size:=iO.lt
  have hT1:w.heap.size+1<W.heap.size:=i1.lt
  have hL1:w1.heap.size<W.heap.size:=iL.lt
  have p0:=ezT g0
  have p1:=ezT g1
  have hacc:∃ AC,ChEl.acc pre=AC:=⟨_,rfl⟩
  obtain ⟨AC,hAC⟩:=hacc
  rw [hAC] at hsn hsz hI iO cO
  have hszm:AC.size≤2000003000000000:=by omega
  clear hsz hRD1 hRD2 hRD3
  rcases hcs with ⟨hd,hch⟩ | ⟨hd,hi0,hch⟩
  ·have hdb:=dzF hd
   have hF:ChEl.acc (pre ++ [⟨(ix,g),hx⟩])=AC ++ tx:=by rw [hsn];unfold ChEl.txt;rw [hch];rfl
   clear hch hsn hd
   have z0:AC.size+tx.size≤9223372036854775807:=by first | omega |(rw [ByteArray.size_append];have:(⟨#[32,62,32]⟩:ByteArray).size=3:=rfl;have:(⟨#[32,126,32]⟩:ByteArray).size=3:=rfl;omega)
   have z1:=ezT z0
   have z2:=dzT z0
   have z3:(9223372036854775807<AC.size+tx.size)=False:=eq_false (Nat.not_lt.2 z0)
   gi_wp2
   refine jXb (S:=(fun W':World=>W'.cell? ⟨w.heap.size+1,0,none⟩=some (.slice A1_0 l1_0.length c1_0)∧W'.cell? ⟨W.heap.size,0,none⟩=some (.int .i64 (ja l0_0 g).f0)∧W'.cell? ⟨W.heap.size,1,none⟩=some (.int .i64 (ja l0_0 g).f1))) hmx (by kernel_rfl) ?hL ?_
   case hL=>rintro ⟨_,_,h⟩;exact h
   change wpAnyH _ _ _ _ _ _ _ _ (World.drew (W.alloc (.cells #[.int .i64 (ja l0_0 g).f0, .int .i64 (ja l0_0 g).f1, .int .i64 (ja l0_0 g).f2, .int .i64 (ja l0_0 g).f3, .bool (ja l0_0 g).f4] 66)))
   obtain ⟨V,hVe,hVI,hVK,hVX⟩:∃ V:World,World.drew (W.alloc (.cells #[.int .i64 (ja l0_0 g).f0, .int .i64 (ja l0_0 g).f1, .int .i64 (ja l0_0 g).f2, .int .i64 (ja l0_0 g).f3, .bool (ja l0_0 g).f4] 66))=V∧IV V AC∧KeepsFrom W0.heap.size W V∧V.heap[W.heap.size]?=some (.cells #[.int .i64 (ja l0_0 g).f0, .int .i64 (ja l0_0 g).f1, .int .i64 (ja l0_0 g).f2, .int .i64 (ja l0_0 g).f3, .bool (ja l0_0 g).f4] 66 (0,0)):=⟨_,rfl,IB.out _ _ _ hI hbX,KeepsFrom.jMb hbX _,jf (heap_alloc_new W (.cells #[.int .i64 (ja l0_0 g).f0, .int .i64 (ja l0_0 g).f1, .int .i64 (ja l0_0 g).f2, .int .i64 (ja l0_0 g).f3, .bool (ja l0_0 g).f4] 66))⟩
   rw [hVe]
   clear hVe
   have hVI2:=hVI
   rw [hIV] at hVI2
   obtain ⟨⟨⟨⟨⟨⟨v0,v1⟩,vL⟩,vS⟩,vO⟩,vR⟩,vB⟩:=hVI2
   clear v0 vL vS vR c0 c1 cL cO fO
   have cO:=vO.cell
   have fO:=vO.frozen
   have hS0:(fun W':World=>W'.cell? ⟨w.heap.size+1,0,none⟩=some (.slice A1_0 l1_0.length c1_0)∧W'.cell? ⟨W.heap.size,0,none⟩=some (.int .i64 (ja l0_0 g).f0)∧W'.cell? ⟨W.heap.size,1,none⟩=some (.int .i64 (ja l0_0 g).f1)) V:=⟨v1.cell,(jH hVX 0).trans rfl,(jH hVX 1).trans rfl⟩
   refine wpAnyH_take (i:=1) (v:=?_) rfl (by kernel_rfl) (by kernel_rfl) (by kernel_rfl) (fun _ _ _ h=>h) (Or.inl ⟨by rfl,?_⟩) hS0 ?_
   rotate_left
   ·rintro W' ⟨s1,s2,s3⟩
    go_simp
    with_reducible rfl
   refine wpAnyH_take (i:=2) (v:=?_) rfl (by kernel_rfl) (by kernel_rfl) (by kernel_rfl) (fun _ _ _ h=>h) (Or.inl ⟨by rfl,?_⟩) hS0 ?_
   rotate_left
   ·rintro W' ⟨s1,s2,s3⟩
    go_simp
    with_reducible rfl
   refine wpAnyH_take (i:=3) (v:=?_) rfl (by kernel_rfl) (by kernel_rfl) (by kernel_rfl) (fun _ _ _ h=>h) (Or.inl ⟨by rfl,?_⟩) hS0 ?_
   rotate_left
   ·rintro W' ⟨s1,s2,s3⟩
    go_simp
    with_reducible rfl
   refine wpAnyH_take (i:=4) (v:=?_) rfl (by kernel_rfl) (by kernel_rfl) (by kernel_rfl) (fun _ _ _ h=>h) (Or.inl ⟨by rfl,?_⟩) hS0 ?_
   rotate_left
   ·rintro W' ⟨s1,s2,s3⟩
    go_simp
    with_reducible rfl
   refine wpAnyH_take (i:=5) (v:=?_) rfl (by kernel_rfl) (by kernel_rfl) (by kernel_rfl) (fun _ _ _ h=>h) (Or.inl ⟨by rfl,?_⟩) hS0 ?_
   rotate_left
   ·rintro W' ⟨s1,s2,s3⟩
    go_simp
    with_reducible rfl
   refine wpAnyH_all (rs:=[0,6]) (by kernel_rfl) (by simp) ?_
   intro ii hii
   rcases (by simpa using hii:ii=0∨ii=6) with rfl | rfl
   all_goals clear hii
   ·refine wpOp_step rfl (fun K hK=>?_)
    go_simp
    refine hK _ _ ⟨hS0,?_⟩
    clear hK K
    refine wpAnyH_all (rs:=[6]) (by kernel_rfl) (by simp) ?_
    intro ii hii
    obtain rfl:ii=6:=by simpa using hii
    clear hii
    refine wpOp_step rfl (fun K hK=>?_)
    go_simp
    refine (KT.out _ vB).mono ?_
    rintro e w4 ⟨rfl,hb4⟩
    have hS1:(fun W':World=>W'.cell? ⟨w.heap.size+1,0,none⟩=some (.slice A1_0 l1_0.length c1_0)∧W'.cell? ⟨W.heap.size,0,none⟩=some (.int .i64 (ja l0_0 g).f0)∧W'.cell? ⟨W.heap.size,1,none⟩=some (.int .i64 (ja l0_0 g).f1)) w4:=⟨jS hb4 hS0.1,jS hb4 hS0.2.1,jS hb4 hS0.2.2⟩
    have hO4:=Boxed.jpc vO hb4
    have cO4:=hO4.cell
    have fO4:=hO4.frozen
    refine hK _ _ ⟨hS1,?_⟩
    clear hK K
    refine wpAnyH_take (i:=7) (v:=?_) rfl (by kernel_rfl) (by kernel_rfl) (by kernel_rfl) (fun _ _ _ h=>h) (Or.inl ⟨by rfl,?_⟩) hS1 ?_
    rotate_left
    ·rintro W' ⟨s1,s2,s3⟩
     go_simp
     with_reducible rfl
    refine wpAnyH_all (rs:=[8]) (by kernel_rfl) (by simp) ?_
    intro ii hii
    obtain rfl:ii=8:=by simpa using hii
    clear hii
    refine wpOp_step rfl (fun K hK=>?_)
    go_simp
    have hS2:(fun W':World=>W'.cell? ⟨w.heap.size+1,0,none⟩=some (.slice A1_0 l1_0.length c1_0)∧W'.cell? ⟨W.heap.size,0,none⟩=some (.int .i64 (ja l0_0 g).f0)∧W'.cell? ⟨W.heap.size,1,none⟩=some (.int .i64 (ja l0_0 g).f1)) (w4.setCell ⟨w.heap.size+1+1,0,none⟩ (.string (AC ++ tx))):=⟨(World.cell?_setCell_far _ _ _ _ (by simp)).trans hS1.1,(World.cell?_setCell_far _ _ _ _ (by simp;omega)).trans hS1.2.1,(World.cell?_setCell_far _ _ _ _ (by simp;omega)).trans hS1.2.2⟩
    refine hK _ _ ⟨hS2,?_⟩
    clear hK K
    refine wpAnyH_done (by kernel_rfl) ?_ _
    exact ⟨hVK.trans ((KeepsFrom.jMb hb4 _).trans ((KeepsOthers.setCell _ _ _).from _)),fun _=>IR.out _ _ (IS.out _ _ _ (IB.out _ _ _ hVI hb4)),by show IV _ (ChEl.acc (pre ++ [⟨(ix,g),hx⟩]));rw [hF];exact IS.out _ _ _ (IB.out _ _ _ hVI hb4)⟩
   ·refine wpOp_step rfl (fun K hK=>?_)
    go_simp
    refine (KT.out _ vB).mono ?_
    rintro e w4 ⟨rfl,hb4⟩
    have hS1:(fun W':World=>W'.cell? ⟨w.heap.size+1,0,none⟩=some (.slice A1_0 l1_0.length c1_0)∧W'.cell? ⟨W.heap.size,0,none⟩=some (.int .i64 (ja l0_0 g).f0)∧W'.cell? ⟨W.heap.size,1,none⟩=some (.int .i64 (ja l0_0 g).f1)) w4:=⟨jS hb4 hS0.1,jS hb4 hS0.2.1,jS hb4 hS0.2.2⟩
    have hO4:=Boxed.jpc vO hb4
    have cO4:=hO4.cell
    have fO4:=hO4.frozen
    refine hK _ _ ⟨hS1,?_⟩
    clear hK K
    refine wpAnyH_all (rs:=[0]) (by kernel_rfl) (by simp) ?_
    intro ii hii
    obtain rfl:ii=0:=by simpa using hii
    clear hii
    refine wpOp_step rfl (fun K hK=>?_)
    go_simp
    refine hK _ _ ⟨hS1,?_⟩
    clear hK K
    refine wpAnyH_take (i:=7) (v:=?_) rfl (by kernel_rfl) (by kernel_rfl) (by kernel_rfl) (fun _ _ _ h=>h) (Or.inl ⟨by rfl,?_⟩) hS1 ?_
    rotate_left
    ·rintro W' ⟨s1,s2,s3⟩
     go_simp
     with_reducible rfl
    refine wpAnyH_all (rs:=[8]) (by kernel_rfl) (by simp) ?_
    intro ii hii
    obtain rfl:ii=8:=by simpa using hii
    clear hii
    refine wpOp_step rfl (fun K hK=>?_)
    go_simp
    have hS2:(fun W':World=>W'.cell? ⟨w.heap.size+1,0,none⟩=some (.slice A1_0 l1_0.length c1_0)∧W'.cell? ⟨W.heap.size,0,none⟩=some (.int .i64 (ja l0_0 g).f0)∧W'.cell? ⟨W.heap.size,1,none⟩=some (.int .i64 (ja l0_0 g).f1)) (w4.setCell ⟨w.heap.size+1+1,0,none⟩ (.string (AC ++ tx))):=⟨(World.cell?_setCell_far _ _ _ _ (by simp)).trans hS1.1,(World.cell?_setCell_far _ _ _ _ (by simp;omega)).trans hS1.2.1,(World.cell?_setCell_far _ _ _ _ (by simp;omega)).trans hS1.2.2⟩
    refine hK _ _ ⟨hS2,?_⟩
    clear hK K
    refine wpAnyH_done (by kernel_rfl) ?_ _
    exact ⟨hVK.trans ((KeepsFrom.jMb hb4 _).trans ((KeepsOthers.setCell _ _ _).from _)),fun _=>IR.out _ _ (IS.out _ _ _ (IB.out _ _ _ hVI hb4)),by show IV _ (ChEl.acc (pre ++ [⟨(ix,g),hx⟩]));rw [hF];exact IS.out _ _ _ (IB.out _ _ _ hVI hb4)⟩
  ·have hdb:=dzT hd
   obtain ⟨adl,rfl,hz⟩:=Kd.jNb (Kd.jC iR).2.2 (ix+1) (by omega) (by omega)
   have hwi:wrap64 (ix+1)=ix+1:=xwrC (by omega)
   have hwi2:IntKind.i64.wrap (ix+1)=ix+1:=IntWalk.i64_in _ (by omega)
   have p2:=ezT (show 0≤ix+1 by omega)
   have p3:=ezT (show ix+1<(l.length:Int) by omega)
   rcases hch with ⟨he,hch⟩ | ⟨he,hch⟩
   ·have heb:((ja l0_0 g).f2 == rd l (ix+1))=true:=by simpa using he
    have hF:ChEl.acc (pre ++ [⟨(ix,g),hx⟩])=(AC ++ (⟨#[32,62,32]⟩:ByteArray)) ++ tx:=by rw [hsn];unfold ChEl.txt;rw [hch];show AC ++ ((⟨#[32,62,32]⟩:ByteArray) ++ tx)=_;rw [ByteArray.append_assoc]
    clear hch hsn hd he
    have z0:AC.size+3≤9223372036854775807:=by first | omega |(rw [ByteArray.size_append];have:(⟨#[32,62,32]⟩:ByteArray).size=3:=rfl;have:(⟨#[32,126,32]⟩:ByteArray).size=3:=rfl;omega)
    have z1:=ezT z0
    have z2:=dzT z0
    have z3:(9223372036854775807<AC.size+3)=False:=eq_false (Nat.not_lt.2 z0)
    have y0:AC.size+3+tx.size≤9223372036854775807:=by first | omega |(rw [ByteArray.size_append];have:(⟨#[32,62,32]⟩:ByteArray).size=3:=rfl;have:(⟨#[32,126,32]⟩:ByteArray).size=3:=rfl;omega)
    have y1:=ezT y0
    have y2:=dzT y0
    have y3:(9223372036854775807<AC.size+3+tx.size)=False:=eq_false (Nat.not_lt.2 y0)
    have fO2:=(Boxed.jpc iO hbX).frozen
    have cO2:=(Boxed.jpc iO hbX).cell
    gi_wp2
    refine jXb (S:=(fun W':World=>W'.cell? ⟨W.heap.size,2,none⟩=some (.int .i64 (ja l0_0 g).f2)∧W'.cell? ⟨w1.heap.size,0,none⟩=some (.slice (some adl) l.length co)∧W'.cell? (adl.add (ix+1).toNat)=some (.int .i64 (rd l (ix+1))))) hmx (by kernel_rfl) ?hL ?_
    case hL=>rintro ⟨_,_,h⟩;exact h
    change wpAnyH _ _ _ _ _ _ _ _ (World.drew (W.alloc (.cells #[.int .i64 (ja l0_0 g).f0, .int .i64 (ja l0_0 g).f1, .int .i64 (ja l0_0 g).f2, .int .i64 (ja l0_0 g).f3, .bool (ja l0_0 g).f4] 66)))
    have hS9:(fun W':World=>W'.cell? ⟨W.heap.size,2,none⟩=some (.int .i64 (ja l0_0 g).f2)∧W'.cell? ⟨w1.heap.size,0,none⟩=some (.slice (some adl) l.length co)∧W'.cell? (adl.add (ix+1).toNat)=some (.int .i64 (rd l (ix+1)))) (World.drew (W.alloc (.cells #[.int .i64 (ja l0_0 g).f0, .int .i64 (ja l0_0 g).f1, .int .i64 (ja l0_0 g).f2, .int .i64 (ja l0_0 g).f3, .bool (ja l0_0 g).f4] 66))):=⟨(jH (jf (heap_alloc_new W (.cells #[.int .i64 (ja l0_0 g).f0, .int .i64 (ja l0_0 g).f1, .int .i64 (ja l0_0 g).f2, .int .i64 (ja l0_0 g).f3, .bool (ja l0_0 g).f4] 66))) 2).trans rfl,jS hbX cL,jS hbX hz⟩
    refine wpAnyH_take (i:=0) (v:=?_) rfl (by kernel_rfl) (by kernel_rfl) (by kernel_rfl) (fun _ _ _ h=>h) (Or.inl ⟨by rfl,?_⟩) hS9 ?_
    rotate_left
    ·rintro W' ⟨s1,s2,s3⟩
     go_simp
     with_reducible rfl
    refine wpAnyH_take (i:=1) (v:=?_) rfl (by kernel_rfl) (by kernel_rfl) (by kernel_rfl) (fun _ _ _ h=>h) (Or.inl ⟨by rfl,?_⟩) hS9 ?_
    rotate_left
    ·rintro W' ⟨s1,s2,s3⟩
     go_simp
     with_reducible rfl
    refine wpAnyH_take (i:=2) (v:=?_) rfl (by kernel_rfl) (by kernel_rfl) (by kernel_rfl) (fun _ _ _ h=>h) (Or.inl ⟨by rfl,?_⟩) hS9 ?_
    rotate_left
    ·rintro W' ⟨s1,s2,s3⟩
     go_simp
     with_reducible rfl
    refine wpAnyH_take (i:=3) (v:=?_) rfl (by kernel_rfl) (by kernel_rfl) (by kernel_rfl) (fun _ _ _ h=>h) (Or.inl ⟨by rfl,?_⟩) hS9 ?_
    rotate_left
    ·rintro W' ⟨s1,s2,s3⟩
     go_simp
     with_reducible rfl
    refine wpAnyH_take (i:=4) (v:=?_) rfl (by kernel_rfl) (by kernel_rfl) (by kernel_rfl) (fun _ _ _ h=>h) (Or.inl ⟨by rfl,?_⟩) hS9 ?_
    rotate_left
    ·rintro W' ⟨s1,s2,s3⟩
     go_simp
     with_reducible rfl
    refine wpAnyH_take (i:=5) (v:=?_) rfl (by kernel_rfl) (by kernel_rfl) (by kernel_rfl) (fun _ _ _ h=>h) (Or.inl ⟨by rfl,?_⟩) hS9 ?_
    rotate_left
    ·rintro W' ⟨s1,s2,s3⟩
     go_simp
     with_reducible rfl
    refine wpAnyH_take (i:=6) (v:=?_) rfl (by kernel_rfl) (by kernel_rfl) (by kernel_rfl) (fun _ _ _ h=>h) (Or.inl ⟨by rfl,?_⟩) hS9 ?_
    rotate_left
    ·rintro W' ⟨s1,s2,s3⟩
     go_simp
     with_reducible rfl
    refine wpAnyH_take (i:=7) (v:=?_) rfl (by kernel_rfl) (by kernel_rfl) (by kernel_rfl) (fun _ _ _ h=>h) (Or.inl ⟨by rfl,?_⟩) hS9 ?_
    rotate_left
    ·rintro W' ⟨s1,s2,s3⟩
     go_simp
     with_reducible rfl
    refine wpAnyH_done (by kernel_rfl) ?_ _
    rename_i K9 hK9
    refine hK9 _ _ ?_
    clear hK9
    go_simp
    gi_wp2
    refine jXb (S:=(fun W':World=>W'.cell? ⟨w.heap.size+1,0,none⟩=some (.slice A1_0 l1_0.length c1_0)∧W'.cell? ⟨W.heap.size,0,none⟩=some (.int .i64 (ja l0_0 g).f0)∧W'.cell? ⟨W.heap.size,1,none⟩=some (.int .i64 (ja l0_0 g).f1))) hmx (by kernel_rfl) ?hL ?_
    case hL=>rintro ⟨_,_,h⟩;exact h
    change wpAnyH _ _ _ _ _ _ _ _ (World.drew (World.drew ((W.setCell ⟨w.heap.size+1+1,0,none⟩ (.string (AC ++ (⟨#[32,62,32]⟩:ByteArray)))).alloc (.cells #[.int .i64 (ja l0_0 g).f0, .int .i64 (ja l0_0 g).f1, .int .i64 (ja l0_0 g).f2, .int .i64 (ja l0_0 g).f3, .bool (ja l0_0 g).f4] 66))))
    obtain ⟨V,hVe,hVI,hVK,hVX⟩:∃ V:World,World.drew (World.drew ((W.setCell ⟨w.heap.size+1+1,0,none⟩ (.string (AC ++ (⟨#[32,62,32]⟩:ByteArray)))).alloc (.cells #[.int .i64 (ja l0_0 g).f0, .int .i64 (ja l0_0 g).f1, .int .i64 (ja l0_0 g).f2, .int .i64 (ja l0_0 g).f3, .bool (ja l0_0 g).f4] 66)))=V∧IV V (AC ++ (⟨#[32,62,32]⟩:ByteArray))∧KeepsFrom W0.heap.size W V∧V.heap[W.heap.size]?=some (.cells #[.int .i64 (ja l0_0 g).f0, .int .i64 (ja l0_0 g).f1, .int .i64 (ja l0_0 g).f2, .int .i64 (ja l0_0 g).f3, .bool (ja l0_0 g).f4] 66 (0,0)):=⟨_,rfl,IB.out _ _ _ (IS.out _ _ _ hI) (jnb (jnb (jv (Below.refl _ _) _))),((KeepsOthers.setCell _ _ _).from _).trans (KeepsFrom.jMb (jnb (jnb (jv (Below.refl _ _) _))) _),(by have h:=jf (jf (heap_alloc_new (W.setCell ⟨w.heap.size+1+1,0,none⟩ (.string (AC ++ (⟨#[32,62,32]⟩:ByteArray)))) (.cells #[.int .i64 (ja l0_0 g).f0, .int .i64 (ja l0_0 g).f1, .int .i64 (ja l0_0 g).f2, .int .i64 (ja l0_0 g).f3, .bool (ja l0_0 g).f4] 66)));rw [show (W.setCell ⟨w.heap.size+1+1,0,none⟩ (.string (AC ++ (⟨#[32,62,32]⟩:ByteArray)))).heap.size=W.heap.size by simp] at h;exact h)⟩
    rw [hVe]
    clear hVe
    have hVI2:=hVI
    rw [hIV] at hVI2
    obtain ⟨⟨⟨⟨⟨⟨v0,v1⟩,vL⟩,vS⟩,vO⟩,vR⟩,vB⟩:=hVI2
    clear v0 vL vS vR c0 c1 cL cO fO
    have cO:=vO.cell
    have fO:=vO.frozen
    have hS0:(fun W':World=>W'.cell? ⟨w.heap.size+1,0,none⟩=some (.slice A1_0 l1_0.length c1_0)∧W'.cell? ⟨W.heap.size,0,none⟩=some (.int .i64 (ja l0_0 g).f0)∧W'.cell? ⟨W.heap.size,1,none⟩=some (.int .i64 (ja l0_0 g).f1)) V:=⟨v1.cell,(jH hVX 0).trans rfl,(jH hVX 1).trans rfl⟩
    refine wpAnyH_take (i:=1) (v:=?_) rfl (by kernel_rfl) (by kernel_rfl) (by kernel_rfl) (fun _ _ _ h=>h) (Or.inl ⟨by rfl,?_⟩) hS0 ?_
    rotate_left
    ·rintro W' ⟨s1,s2,s3⟩
     go_simp
     with_reducible rfl
    refine wpAnyH_take (i:=2) (v:=?_) rfl (by kernel_rfl) (by kernel_rfl) (by kernel_rfl) (fun _ _ _ h=>h) (Or.inl ⟨by rfl,?_⟩) hS0 ?_
    rotate_left
    ·rintro W' ⟨s1,s2,s3⟩
     go_simp
     with_reducible rfl
    refine wpAnyH_take (i:=3) (v:=?_) rfl (by kernel_rfl) (by kernel_rfl) (by kernel_rfl) (fun _ _ _ h=>h) (Or.inl ⟨by rfl,?_⟩) hS0 ?_
    rotate_left
    ·rintro W' ⟨s1,s2,s3⟩
     go_simp
     with_reducible rfl
    refine wpAnyH_take (i:=4) (v:=?_) rfl (by kernel_rfl) (by kernel_rfl) (by kernel_rfl) (fun _ _ _ h=>h) (Or.inl ⟨by rfl,?_⟩) hS0 ?_
    rotate_left
    ·rintro W' ⟨s1,s2,s3⟩
     go_simp
     with_reducible rfl
    refine wpAnyH_take (i:=5) (v:=?_) rfl (by kernel_rfl) (by kernel_rfl) (by kernel_rfl) (fun _ _ _ h=>h) (Or.inl ⟨by rfl,?_⟩) hS0 ?_
    rotate_left
    ·rintro W' ⟨s1,s2,s3⟩
     go_simp
     with_reducible rfl
    refine wpAnyH_all (rs:=[0,6]) (by kernel_rfl) (by simp) ?_
    intro ii hii
    rcases (by simpa using hii:ii=0∨ii=6) with rfl | rfl
    all_goals clear hii
    ·refine wpOp_step rfl (fun K hK=>?_)
     go_simp
     refine hK _ _ ⟨hS0,?_⟩
     clear hK K
     refine wpAnyH_all (rs:=[6]) (by kernel_rfl) (by simp) ?_
     intro ii hii
     obtain rfl:ii=6:=by simpa using hii
     clear hii
     refine wpOp_step rfl (fun K hK=>?_)
     go_simp
     refine (KT.out _ vB).mono ?_
     rintro e w4 ⟨rfl,hb4⟩
     have hS1:(fun W':World=>W'.cell? ⟨w.heap.size+1,0,none⟩=some (.slice A1_0 l1_0.length c1_0)∧W'.cell? ⟨W.heap.size,0,none⟩=some (.int .i64 (ja l0_0 g).f0)∧W'.cell? ⟨W.heap.size,1,none⟩=some (.int .i64 (ja l0_0 g).f1)) w4:=⟨jS hb4 hS0.1,jS hb4 hS0.2.1,jS hb4 hS0.2.2⟩
     have hO4:=Boxed.jpc vO hb4
     have cO4:=hO4.cell
     have fO4:=hO4.frozen
     refine hK _ _ ⟨hS1,?_⟩
     clear hK K
     refine wpAnyH_take (i:=7) (v:=?_) rfl (by kernel_rfl) (by kernel_rfl) (by kernel_rfl) (fun _ _ _ h=>h) (Or.inl ⟨by rfl,?_⟩) hS1 ?_
     rotate_left
     ·rintro W' ⟨s1,s2,s3⟩
      go_simp
      with_reducible rfl
     refine wpAnyH_all (rs:=[8]) (by kernel_rfl) (by simp) ?_
     intro ii hii
     obtain rfl:ii=8:=by simpa using hii
     clear hii
     refine wpOp_step rfl (fun K hK=>?_)
     go_simp
     have hS2:(fun W':World=>W'.cell? ⟨w.heap.size+1,0,none⟩=some (.slice A1_0 l1_0.length c1_0)∧W'.cell? ⟨W.heap.size,0,none⟩=some (.int .i64 (ja l0_0 g).f0)∧W'.cell? ⟨W.heap.size,1,none⟩=some (.int .i64 (ja l0_0 g).f1)) (w4.setCell ⟨w.heap.size+1+1,0,none⟩ (.string ((AC ++ (⟨#[32,62,32]⟩:ByteArray)) ++ tx))):=⟨(World.cell?_setCell_far _ _ _ _ (by simp)).trans hS1.1,(World.cell?_setCell_far _ _ _ _ (by simp;omega)).trans hS1.2.1,(World.cell?_setCell_far _ _ _ _ (by simp;omega)).trans hS1.2.2⟩
     refine hK _ _ ⟨hS2,?_⟩
     clear hK K
     refine wpAnyH_done (by kernel_rfl) ?_ _
     exact ⟨hVK.trans ((KeepsFrom.jMb hb4 _).trans ((KeepsOthers.setCell _ _ _).from _)),fun _=>IR.out _ _ (IS.out _ _ _ (IB.out _ _ _ hVI hb4)),by show IV _ (ChEl.acc (pre ++ [⟨(ix,g),hx⟩]));rw [hF];exact IS.out _ _ _ (IB.out _ _ _ hVI hb4)⟩
    ·refine wpOp_step rfl (fun K hK=>?_)
     go_simp
     refine (KT.out _ vB).mono ?_
     rintro e w4 ⟨rfl,hb4⟩
     have hS1:(fun W':World=>W'.cell? ⟨w.heap.size+1,0,none⟩=some (.slice A1_0 l1_0.length c1_0)∧W'.cell? ⟨W.heap.size,0,none⟩=some (.int .i64 (ja l0_0 g).f0)∧W'.cell? ⟨W.heap.size,1,none⟩=some (.int .i64 (ja l0_0 g).f1)) w4:=⟨jS hb4 hS0.1,jS hb4 hS0.2.1,jS hb4 hS0.2.2⟩
     have hO4:=Boxed.jpc vO hb4
     have cO4:=hO4.cell
     have fO4:=hO4.frozen
     refine hK _ _ ⟨hS1,?_⟩
     clear hK K
     refine wpAnyH_all (rs:=[0]) (by kernel_rfl) (by simp) ?_
     intro ii hii
     obtain rfl:ii=0:=by simpa using hii
     clear hii
     refine wpOp_step rfl (fun K hK=>?_)
     go_simp
     refine hK _ _ ⟨hS1,?_⟩
     clear hK K
     refine wpAnyH_take (i:=7) (v:=?_) rfl (by kernel_rfl) (by kernel_rfl) (by kernel_rfl) (fun _ _ _ h=>h) (Or.inl ⟨by rfl,?_⟩) hS1 ?_
     rotate_left
     ·rintro W' ⟨s1,s2,s3⟩
      go_simp
      with_reducible rfl
     refine wpAnyH_all (rs:=[8]) (by kernel_rfl) (by simp) ?_
     intro ii hii
     obtain rfl:ii=8:=by simpa using hii
     clear hii
     refine wpOp_step rfl (fun K hK=>?_)
     go_simp
     have hS2:(fun W':World=>W'.cell? ⟨w.heap.size+1,0,none⟩=some (.slice A1_0 l1_0.length c1_0)∧W'.cell? ⟨W.heap.size,0,none⟩=some (.int .i64 (ja l0_0 g).f0)∧W'.cell? ⟨W.heap.size,1,none⟩=some (.int .i64 (ja l0_0 g).f1)) (w4.setCell ⟨w.heap.size+1+1,0,none⟩ (.string ((AC ++ (⟨#[32,62,32]⟩:ByteArray)) ++ tx))):=⟨(World.cell?_setCell_far _ _ _ _ (by simp)).trans hS1.1,(World.cell?_setCell_far _ _ _ _ (by simp;omega)).trans hS1.2.1,(World.cell?_setCell_far _ _ _ _ (by simp;omega)).trans hS1.2.2⟩
     refine hK _ _ ⟨hS2,?_⟩
     clear hK K
     refine wpAnyH_done (by kernel_rfl) ?_ _
     exact ⟨hVK.trans ((KeepsFrom.jMb hb4 _).trans ((KeepsOthers.setCell _ _ _).from _)),fun _=>IR.out _ _ (IS.out _ _ _ (IB.out _ _ _ hVI hb4)),by show IV _ (ChEl.acc (pre ++ [⟨(ix,g),hx⟩]));rw [hF];exact IS.out _ _ _ (IB.out _ _ _ hVI hb4)⟩
   ·have heb:((ja l0_0 g).f2 == rd l (ix+1))=false:=by simpa using he
    have hF:ChEl.acc (pre ++ [⟨(ix,g),hx⟩])=(AC ++ (⟨#[32,126,32]⟩:ByteArray)) ++ tx:=by rw [hsn];unfold ChEl.txt;rw [hch];show AC ++ ((⟨#[32,126,32]⟩:ByteArray) ++ tx)=_;rw [ByteArray.append_assoc]
    clear hch hsn hd he
    have z0:AC.size+3≤9223372036854775807:=by first | omega |(rw [ByteArray.size_append];have:(⟨#[32,62,32]⟩:ByteArray).size=3:=rfl;have:(⟨#[32,126,32]⟩:ByteArray).size=3:=rfl;omega)
    have z1:=ezT z0
    have z2:=dzT z0
    have z3:(9223372036854775807<AC.size+3)=False:=eq_false (Nat.not_lt.2 z0)
    have y0:AC.size+3+tx.size≤9223372036854775807:=by first | omega |(rw [ByteArray.size_append];have:(⟨#[32,62,32]⟩:ByteArray).size=3:=rfl;have:(⟨#[32,126,32]⟩:ByteArray).size=3:=rfl;omega)
    have y1:=ezT y0
    have y2:=dzT y0
    have y3:(9223372036854775807<AC.size+3+tx.size)=False:=eq_false (Nat.not_lt.2 y0)
    have fO2:=(Boxed.jpc iO hbX).frozen
    have cO2:=(Boxed.jpc iO hbX).cell
    gi_wp2
    refine jXb (S:=(fun W':World=>W'.cell? ⟨W.heap.size,2,none⟩=some (.int .i64 (ja l0_0 g).f2)∧W'.cell? ⟨w1.heap.size,0,none⟩=some (.slice (some adl) l.length co)∧W'.cell? (adl.add (ix+1).toNat)=some (.int .i64 (rd l (ix+1))))) hmx (by kernel_rfl) ?hL ?_
    case hL=>rintro ⟨_,_,h⟩;exact h
    change wpAnyH _ _ _ _ _ _ _ _ (World.drew (W.alloc (.cells #[.int .i64 (ja l0_0 g).f0, .int .i64 (ja l0_0 g).f1, .int .i64 (ja l0_0 g).f2, .int .i64 (ja l0_0 g).f3, .bool (ja l0_0 g).f4] 66)))
    have hS9:(fun W':World=>W'.cell? ⟨W.heap.size,2,none⟩=some (.int .i64 (ja l0_0 g).f2)∧W'.cell? ⟨w1.heap.size,0,none⟩=some (.slice (some adl) l.length co)∧W'.cell? (adl.add (ix+1).toNat)=some (.int .i64 (rd l (ix+1)))) (World.drew (W.alloc (.cells #[.int .i64 (ja l0_0 g).f0, .int .i64 (ja l0_0 g).f1, .int .i64 (ja l0_0 g).f2, .int .i64 (ja l0_0 g).f3, .bool (ja l0_0 g).f4] 66))):=⟨(jH (jf (heap_alloc_new W (.cells #[.int .i64 (ja l0_0 g).f0, .int .i64 (ja l0_0 g).f1, .int .i64 (ja l0_0 g).f2, .int .i64 (ja l0_0 g).f3, .bool (ja l0_0 g).f4] 66))) 2).trans rfl,jS hbX cL,jS hbX hz⟩
    refine wpAnyH_take (i:=0) (v:=?_) rfl (by kernel_rfl) (by kernel_rfl) (by kernel_rfl) (fun _ _ _ h=>h) (Or.inl ⟨by rfl,?_⟩) hS9 ?_
    rotate_left
    ·rintro W' ⟨s1,s2,s3⟩
     go_simp
     with_reducible rfl
    refine wpAnyH_take (i:=1) (v:=?_) rfl (by kernel_rfl) (by kernel_rfl) (by kernel_rfl) (fun _ _ _ h=>h) (Or.inl ⟨by rfl,?_⟩) hS9 ?_
    rotate_left
    ·rintro W' ⟨s1,s2,s3⟩
     go_simp
     with_reducible rfl
    refine wpAnyH_take (i:=2) (v:=?_) rfl (by kernel_rfl) (by kernel_rfl) (by kernel_rfl) (fun _ _ _ h=>h) (Or.inl ⟨by rfl,?_⟩) hS9 ?_
    rotate_left
    ·rintro W' ⟨s1,s2,s3⟩
     go_simp
     with_reducible rfl
    refine wpAnyH_take (i:=3) (v:=?_) rfl (by kernel_rfl) (by kernel_rfl) (by kernel_rfl) (fun _ _ _ h=>h) (Or.inl ⟨by rfl,?_⟩) hS9 ?_
    rotate_left
    ·rintro W' ⟨s1,s2,s3⟩
     go_simp
     with_reducible rfl
    refine wpAnyH_take (i:=4) (v:=?_) rfl (by kernel_rfl) (by kernel_rfl) (by kernel_rfl) (fun _ _ _ h=>h) (Or.inl ⟨by rfl,?_⟩) hS9 ?_
    rotate_left
    ·rintro W' ⟨s1,s2,s3⟩
     go_simp
     with_reducible rfl
    refine wpAnyH_take (i:=5) (v:=?_) rfl (by kernel_rfl) (by kernel_rfl) (by kernel_rfl) (fun _ _ _ h=>h) (Or.inl ⟨by rfl,?_⟩) hS9 ?_
    rotate_left
    ·rintro W' ⟨s1,s2,s3⟩
     go_simp
     with_reducible rfl
    refine wpAnyH_take (i:=6) (v:=?_) rfl (by kernel_rfl) (by kernel_rfl) (by kernel_rfl) (fun _ _ _ h=>h) (Or.inl ⟨by rfl,?_⟩) hS9 ?_
    rotate_left
    ·rintro W' ⟨s1,s2,s3⟩
     go_simp
     with_reducible rfl
    refine wpAnyH_take (i:=7) (v:=?_) rfl (by kernel_rfl) (by kernel_rfl) (by kernel_rfl) (fun _ _ _ h=>h) (Or.inl ⟨by rfl,?_⟩) hS9 ?_
    rotate_left
    ·rintro W' ⟨s1,s2,s3⟩
     go_simp
     with_reducible rfl
    refine wpAnyH_done (by kernel_rfl) ?_ _
    rename_i K9 hK9
    refine hK9 _ _ ?_
    clear hK9
    go_simp
    gi_wp2
    refine jXb (S:=(fun W':World=>W'.cell? ⟨w.heap.size+1,0,none⟩=some (.slice A1_0 l1_0.length c1_0)∧W'.cell? ⟨W.heap.size,0,none⟩=some (.int .i64 (ja l0_0 g).f0)∧W'.cell? ⟨W.heap.size,1,none⟩=some (.int .i64 (ja l0_0 g).f1))) hmx (by kernel_rfl) ?hL ?_
    case hL=>rintro ⟨_,_,h⟩;exact h
    change wpAnyH _ _ _ _ _ _ _ _ (World.drew (World.drew ((W.setCell ⟨w.heap.size+1+1,0,none⟩ (.string (AC ++ (⟨#[32,126,32]⟩:ByteArray)))).alloc (.cells #[.int .i64 (ja l0_0 g).f0, .int .i64 (ja l0_0 g).f1, .int .i64 (ja l0_0 g).f2, .int .i64 (ja l0_0 g).f3, .bool (ja l0_0 g).f4] 66))))
    obtain ⟨V,hVe,hVI,hVK,hVX⟩:∃ V:World,World.drew (World.drew ((W.setCell ⟨w.heap.size+1+1,0,none⟩ (.string (AC ++ (⟨#[32,126,32]⟩:ByteArray)))).alloc (.cells #[.int .i64 (ja l0_0 g).f0, .int .i64 (ja l0_0 g).f1, .int .i64 (ja l0_0 g).f2, .int .i64 (ja l0_0 g).f3, .bool (ja l0_0 g).f4] 66)))=V∧IV V (AC ++ (⟨#[32,126,32]⟩:ByteArray))∧KeepsFrom W0.heap.size W V∧V.heap[W.heap.size]?=some (.cells #[.int .i64 (ja l0_0 g).f0, .int .i64 (ja l0_0 g).f1, .int .i64 (ja l0_0 g).f2, .int .i64 (ja l0_0 g).f3, .bool (ja l0_0 g).f4] 66 (0,0)):=⟨_,rfl,IB.out _ _ _ (IS.out _ _ _ hI) (jnb (jnb (jv (Below.refl _ _) _))),((KeepsOthers.setCell _ _ _).from _).trans (KeepsFrom.jMb (jnb (jnb (jv (Below.refl _ _) _))) _),(by have h:=jf (jf (heap_alloc_new (W.setCell ⟨w.heap.size+1+1,0,none⟩ (.string (AC ++ (⟨#[32,126,32]⟩:ByteArray)))) (.cells #[.int .i64 (ja l0_0 g).f0, .int .i64 (ja l0_0 g).f1, .int .i64 (ja l0_0 g).f2, .int .i64 (ja l0_0 g).f3, .bool (ja l0_0 g).f4] 66)));rw [show (W.setCell ⟨w.heap.size+1+1,0,none⟩ (.string (AC ++ (⟨#[32,126,32]⟩:ByteArray)))).heap.size=W.heap.size by simp] at h;exact h)⟩
    rw [hVe]
    clear hVe
    have hVI2:=hVI
    rw [hIV] at hVI2
    obtain ⟨⟨⟨⟨⟨⟨v0,v1⟩,vL⟩,vS⟩,vO⟩,vR⟩,vB⟩:=hVI2
    clear v0 vL vS vR c0 c1 cL cO fO
    have cO:=vO.cell
    have fO:=vO.frozen
    have hS0:(fun W':World=>W'.cell? ⟨w.heap.size+1,0,none⟩=some (.slice A1_0 l1_0.length c1_0)∧W'.cell? ⟨W.heap.size,0,none⟩=some (.int .i64 (ja l0_0 g).f0)∧W'.cell? ⟨W.heap.size,1,none⟩=some (.int .i64 (ja l0_0 g).f1)) V:=⟨v1.cell,(jH hVX 0).trans rfl,(jH hVX 1).trans rfl⟩
    refine wpAnyH_take (i:=1) (v:=?_) rfl (by kernel_rfl) (by kernel_rfl) (by kernel_rfl) (fun _ _ _ h=>h) (Or.inl ⟨by rfl,?_⟩) hS0 ?_
    rotate_left
    ·rintro W' ⟨s1,s2,s3⟩
     go_simp
     with_reducible rfl
    refine wpAnyH_take (i:=2) (v:=?_) rfl (by kernel_rfl) (by kernel_rfl) (by kernel_rfl) (fun _ _ _ h=>h) (Or.inl ⟨by rfl,?_⟩) hS0 ?_
    rotate_left
    ·rintro W' ⟨s1,s2,s3⟩
     go_simp
     with_reducible rfl
    refine wpAnyH_take (i:=3) (v:=?_) rfl (by kernel_rfl) (by kernel_rfl) (by kernel_rfl) (fun _ _ _ h=>h) (Or.inl ⟨by rfl,?_⟩) hS0 ?_
    rotate_left
    ·rintro W' ⟨s1,s2,s3⟩
     go_simp
     with_reducible rfl
    refine wpAnyH_take (i:=4) (v:=?_) rfl (by kernel_rfl) (by kernel_rfl) (by kernel_rfl) (fun _ _ _ h=>h) (Or.inl ⟨by rfl,?_⟩) hS0 ?_
    rotate_left
    ·rintro W' ⟨s1,s2,s3⟩
     go_simp
     with_reducible rfl
    refine wpAnyH_take (i:=5) (v:=?_) rfl (by kernel_rfl) (by kernel_rfl) (by kernel_rfl) (fun _ _ _ h=>h) (Or.inl ⟨by rfl,?_⟩) hS0 ?_
    rotate_left
    ·rintro W' ⟨s1,s2,s3⟩
     go_simp
     with_reducible rfl
    refine wpAnyH_all (rs:=[0,6]) (by kernel_rfl) (by simp) ?_
    intro ii hii
    rcases (by simpa using hii:ii=0∨ii=6) with rfl | rfl
    all_goals clear hii
    ·refine wpOp_step rfl (fun K hK=>?_)
     go_simp
     refine hK _ _ ⟨hS0,?_⟩
     clear hK K
     refine wpAnyH_all (rs:=[6]) (by kernel_rfl) (by simp) ?_
     intro ii hii
     obtain rfl:ii=6:=by simpa using hii
     clear hii
     refine wpOp_step rfl (fun K hK=>?_)
     go_simp
     refine (KT.out _ vB).mono ?_
     rintro e w4 ⟨rfl,hb4⟩
     have hS1:(fun W':World=>W'.cell? ⟨w.heap.size+1,0,none⟩=some (.slice A1_0 l1_0.length c1_0)∧W'.cell? ⟨W.heap.size,0,none⟩=some (.int .i64 (ja l0_0 g).f0)∧W'.cell? ⟨W.heap.size,1,none⟩=some (.int .i64 (ja l0_0 g).f1)) w4:=⟨jS hb4 hS0.1,jS hb4 hS0.2.1,jS hb4 hS0.2.2⟩
     have hO4:=Boxed.jpc vO hb4
     have cO4:=hO4.cell
     have fO4:=hO4.frozen
     refine hK _ _ ⟨hS1,?_⟩
     clear hK K
     refine wpAnyH_take (i:=7) (v:=?_) rfl (by kernel_rfl) (by kernel_rfl) (by kernel_rfl) (fun _ _ _ h=>h) (Or.inl ⟨by rfl,?_⟩) hS1 ?_
     rotate_left
     ·rintro W' ⟨s1,s2,s3⟩
      go_simp
      with_reducible rfl
     refine wpAnyH_all (rs:=[8]) (by kernel_rfl) (by simp) ?_
     intro ii hii
     obtain rfl:ii=8:=by simpa using hii
     clear hii
     refine wpOp_step rfl (fun K hK=>?_)
     go_simp
     have hS2:(fun W':World=>W'.cell? ⟨w.heap.size+1,0,none⟩=some (.slice A1_0 l1_0.length c1_0)∧W'.cell? ⟨W.heap.size,0,none⟩=some (.int .i64 (ja l0_0 g).f0)∧W'.cell? ⟨W.heap.size,1,none⟩=some (.int .i64 (ja l0_0 g).f1)) (w4.setCell ⟨w.heap.size+1+1,0,none⟩ (.string ((AC ++ (⟨#[32,126,32]⟩:ByteArray)) ++ tx))):=⟨(World.cell?_setCell_far _ _ _ _ (by simp)).trans hS1.1,(World.cell?_setCell_far _ _ _ _ (by simp;omega)).trans hS1.2.1,(World.cell?_setCell_far _ _ _ _ (by simp;omega)).trans hS1.2.2⟩
     refine hK _ _ ⟨hS2,?_⟩
     clear hK K
     refine wpAnyH_done (by kernel_rfl) ?_ _
     exact ⟨hVK.trans ((KeepsFrom.jMb hb4 _).trans ((KeepsOthers.setCell _ _ _).from _)),fun _=>IR.out _ _ (IS.out _ _ _ (IB.out _ _ _ hVI hb4)),by show IV _ (ChEl.acc (pre ++ [⟨(ix,g),hx⟩]));rw [hF];exact IS.out _ _ _ (IB.out _ _ _ hVI hb4)⟩
    ·refine wpOp_step rfl (fun K hK=>?_)
     go_simp
     refine (KT.out _ vB).mono ?_
     rintro e w4 ⟨rfl,hb4⟩
     have hS1:(fun W':World=>W'.cell? ⟨w.heap.size+1,0,none⟩=some (.slice A1_0 l1_0.length c1_0)∧W'.cell? ⟨W.heap.size,0,none⟩=some (.int .i64 (ja l0_0 g).f0)∧W'.cell? ⟨W.heap.size,1,none⟩=some (.int .i64 (ja l0_0 g).f1)) w4:=⟨jS hb4 hS0.1,jS hb4 hS0.2.1,jS hb4 hS0.2.2⟩
     have hO4:=Boxed.jpc vO hb4
     have cO4:=hO4.cell
     have fO4:=hO4.frozen
     refine hK _ _ ⟨hS1,?_⟩
     clear hK K
     refine wpAnyH_all (rs:=[0]) (by kernel_rfl) (by simp) ?_
     intro ii hii
     obtain rfl:ii=0:=by simpa using hii
     clear hii
     refine wpOp_step rfl (fun K hK=>?_)
     go_simp
     refine hK _ _ ⟨hS1,?_⟩
     clear hK K
     refine wpAnyH_take (i:=7) (v:=?_) rfl (by kernel_rfl) (by kernel_rfl) (by kernel_rfl) (fun _ _ _ h=>h) (Or.inl ⟨by rfl,?_⟩) hS1 ?_
     rotate_left
     ·rintro W' ⟨s1,s2,s3⟩
      go_simp
      with_reducible rfl
     refine wpAnyH_all (rs:=[8]) (by kernel_rfl) (by simp) ?_
     intro ii hii
     obtain rfl:ii=8:=by simpa using hii
     clear hii
     refine wpOp_step rfl (fun K hK=>?_)
     go_simp
     have hS2:(fun W':World=>W'.cell? ⟨w.heap.size+1,0,none⟩=some (.slice A1_0 l1_0.length c1_0)∧W'.cell? ⟨W.heap.size,0,none⟩=some (.int .i64 (ja l0_0 g).f0)∧W'.cell? ⟨W.heap.size,1,none⟩=some (.int .i64 (ja l0_0 g).f1)) (w4.setCell ⟨w.heap.size+1+1,0,none⟩ (.string ((AC ++ (⟨#[32,126,32]⟩:ByteArray)) ++ tx))):=⟨(World.cell?_setCell_far _ _ _ _ (by simp)).trans hS1.1,(World.cell?_setCell_far _ _ _ _ (by simp;omega)).trans hS1.2.1,(World.cell?_setCell_far _ _ _ _ (by simp;omega)).trans hS1.2.2⟩
     refine hK _ _ ⟨hS2,?_⟩
     clear hK K
     refine wpAnyH_done (by kernel_rfl) ?_ _
     exact ⟨hVK.trans ((KeepsFrom.jMb hb4 _).trans ((KeepsOthers.setCell _ _ _).from _)),fun _=>IR.out _ _ (IS.out _ _ _ (IB.out _ _ _ hVI hb4)),by show IV _ (ChEl.acc (pre ++ [⟨(ix,g),hx⟩]));rw [hF];exact IS.out _ _ _ (IB.out _ _ _ hVI hb4)⟩
 case done =>
  rintro D ys W hD rfl hI hK
  have hI1:=hI
  rw [hIV] at hI1
  obtain ⟨⟨⟨⟨⟨⟨i0,i1⟩,iL⟩,iS⟩,iO⟩,iR⟩,hB⟩:=hI1
  have hr2:ChEl.acc (uptoC (ChEl.of l1_0 l0_0 l hz0) l.length)=r:=by
   have h2:=ChEl.acc_all hz0 l.length r (Nat.le_refl _) h
   rw [← h2]
   unfold ChEl.acc uptoC
   rw [List.map_map]
   congr 1
   apply List.map_congr_left
   intro j _
   show (ChEl.of l1_0 l0_0 l hz0 j).txt=_
   rw [show l.length - l.length+j=j by omega]
  rw [hr2] at iO
  have cO:=iO.cell
  gi_wp2
  refine ⟨by simp, .inl ⟨_,_,rfl,run_takeDeferred hK,?_⟩⟩
  refine ⟨.string r,?_,rfl,hB.trans (belowK_b (w:=w) (Nat.le_refl _) W D _ _ (by omega) hK rfl rfl)⟩
  simp [results,Tryd.f33,go_sem]
 case stop =>
  rintro D c pre W hD ⟨q,hq,rfl⟩ h hK
  exact h.elim
end
def jPa.f (k : Nat) (l0_0 : List (S99)) (l1_0 : List (S66)) (a2 : Int) : Option (ByteArray) := (jQa.f k l0_0 l1_0 (([a2] : List Int))).bind fun t415 => (if t415 = true then ((jDa.f k l1_0 l0_0 a2).bind fun t416 => (some t416)) else (some (⟨#[]⟩ : ByteArray)))
set_option maxHeartbeats 8000000 in
set_option maxRecDepth 100000 in
theorem jPa.calls (k : Nat) (A0_0 : Option Addr) (c0_0 : Nat) (l0_0 : List (S99)) (A1_0 : Option Addr) (c1_0 : Nat) (l1_0 : List (S66)) (a2 : Int) (r : ByteArray) (w : World) (hr0_0 : Kd.C k99 w A0_0 l0_0.length l0_0) (hc0_0 : l0_0.length ≤ c0_0) (hr1_0 : Kd.C k66 w A1_0 l1_0.length l1_0) (hc1_0 : l1_0.length ≤ c1_0) (h : jPa.f k l0_0 l1_0 a2 = some r) :
  Calls Tryd.prog 11 #[.agg #[.slice A0_0 l0_0.length c0_0], .agg #[.slice A1_0 l1_0.length c1_0], .int .i64 a2] w fun e w'=>e=.returned (.string r)∧Below w.heap.size w w':=by
 have hu25:=Tryd.underlying25
 have hu28:=Tryd.underlying28
 have HR0_0:=am hr0_0
 have HC0_0:=am hc0_0
 clear hr0_0 hc0_0
 have HR1_0:=am hr1_0
 have HC1_0:=am hc1_0
 clear hr1_0 hc1_0
 have HB:=am (Below.refl w.heap.size w)
 have H:((jQa.f k l0_0 l1_0 (([a2]:List Int))).bind fun t415=>(if t415=true then ((jDa.f k l1_0 l0_0 a2).bind fun t416=>(some t416)) else (some (⟨#[]⟩:ByteArray))))=some r:=h
 clear h
 obtain ⟨y412,hy412⟩:∃ y_:List Int,y_=(([a2]:List Int)):=⟨_,rfl⟩
 replace H:((jQa.f k l0_0 l1_0 y412).bind fun t415=>(if t415=true then ((jDa.f k l1_0 l0_0 a2).bind fun t416=>(some t416)) else (some (⟨#[]⟩:ByteArray))))=some r:=by first |(rw [hy412];with_reducible exact H) |(have H2_:=(Option.bind_some _ _).symm.trans H;rw [hy412];with_reducible exact H2_) |(have H2_:=(Option.bind_some _ _).symm.trans H;with_reducible exact H2_) | with_reducible exact H |(rw [hy412];exact H) | exact H
 have Ny412:=am hy412
 clear hy412
 replace H:=bzS H
 obtain ⟨t415,A40,H⟩:=H
 replace H:(if t415=true then ((jDa.f k l1_0 l0_0 a2).bind fun t416=>(some t416)) else (some (⟨#[]⟩:ByteArray)))=some r:=H
 have A4:=am A40
 clear A40
 by_cases c5:t415=true
 ·subst c5
  have H1:((jDa.f k l1_0 l0_0 a2).bind fun t416=>(some t416))=some r:=by rw [if_pos rfl] at H;exact H
  clear H
  have H:=H1
  clear H1
  replace H:=bzS H
  obtain ⟨t416,A60,H⟩:=H
  replace H:(some t416)=some r:=H
  have A6:=am A60
  clear A60
  obtain rfl:=Option.some.inj H
  go_enter Tryd.func11,Tryd.ntmps11
  go_wp2_with (first |((with_reducible refine jD (N:=3) rfl ?_);refine bE (N:=3) (cs:=#[.slice A0_0 l0_0.length c0_0]) (t:=25) ?_;intro gb410 hg w7 hbox hb;have BK410:=am (hbox);have GW410:=am ((Y0:w.heap.size≤gb410));have GE410:=am ((Y0:w.heap.size≤gb410));replace HB:=am (je (bq) hb);clear hb hbox hg) |((with_reducible refine jD (N:=4) rfl ?_);refine bE (N:=4) (cs:=#[.slice A1_0 l1_0.length c1_0]) (t:=28) ?_;intro gb411 hg w8 hbox hb;have BK411:=am (hbox);have GW411:=am ((Y111:w.heap.size≤gb411));have GE411:=am ((Y111:w.heap.size≤gb411));have NB410_411:=am ((by rw [hg];exact Nat.ne_of_lt (jda (g:=gb410) (o:=.cells #[.slice A0_0 l0_0.length c0_0] 25 (0,0)) (kq BK410.out)):gb410≠gb411));have NB411_410:=am ((by rw [hg];exact Nat.ne_of_gt (jda (g:=gb410) (o:=.cells #[.slice A0_0 l0_0.length c0_0] 25 (0,0)) (kq BK410.out)):gb411≠gb410));replace BK410:=am (jc (g:=gb410) (o:=.cells #[.slice A0_0 l0_0.length c0_0] 25 (0,0)) (kq BK410.out) hb);replace HB:=am (je (Y174) hb);clear hb hbox hg;have hnb9:=NB410_411.out;have hnc9:=NB411_410.out;have hcz10_0:=bc0 BK410.out;have hfz10_0:=jb BK410.out 0;have hcz11_0:=bc0 BK411.out;have hfz11_0:=jb BK411.out 0) |((with_reducible refine jD (N:=10) rfl ?_);refine Kd.R_lit (Kd.int .i64) _ 3 ?hg (N:=10) ?hd (xs:=([a2]:List Int)) (inner:=[.int .i64 a2]) (ok:=fun _=>True) (okp:=fun _=>True) ?hr ?hp (fun _ hk=>hk) trivial (Below.refl _ _) (Nat.le_refl _) (by simp) ?_;(case hd=>rfl);(case hg=>rfl);(case hr=>exact Y4);(case hp=>exact (Reps.one (show Kd.M (Kd.int .i64) _ _ _ a2 [.int .i64 a2] from rfl) (Reps.none _ _)));intro v413 w12 ho13 hb hg_ hnew_;clear hg_ hnew_;(first | rw [← Ny412.out] at ho13 |(simp only [Int.reduceToNat] at ho13;rw [← Ny412.out] at ho13));have HO414:=am (Kd.jia ho13 (jM (Y45)));replace BK410:=am (jc (g:=gb410) (o:=.cells #[.slice A0_0 l0_0.length c0_0] 25 (0,0)) (kq BK410.out) hb);replace BK411:=am (jc (g:=gb411) (o:=.cells #[.slice A1_0 l1_0.length c1_0] 28 (0,0)) (kq BK411.out) hb);replace HB:=am (je (Y45) hb);clear hb ho13;obtain ⟨Ao14,co14,eo14⟩:=Kd.jZ HO414.out;subst eo14) |((with_reducible refine jw (f:=28) rfl ?_);refine gL (some 11) Tryd.func28 #[.agg #[.slice A0_0 l0_0.length c0_0], .agg #[.slice A1_0 l1_0.length c1_0], .slice Ao14 y412.length co14] ?_;(with_reducible refine (jQa.calls k _ _ l0_0 _ _ l1_0 _ _ y412 true _ ?side1 ?side2 ?side3 ?side4 ?side5 ?side6 A4.out).mono ?_);(case side1=>exact cq (Kd.jU HR0_0.out HB.out));(case side2=>exact HC0_0.out);(case side3=>exact cq (Kd.jU HR1_0.out HB.out));(case side4=>exact HC1_0.out);(case side5=>exact cq (Kd.jC HO414.out).2.2);(case side6=>exact (Kd.jC HO414.out).2.1);rintro e w15 ⟨rfl,hb⟩;refine ⟨_,rfl,?_⟩;replace HO414:=am (Kd.jW (rq HO414.out) hb);replace BK410:=am (jc (g:=gb410) (o:=.cells #[.slice A0_0 l0_0.length c0_0] 25 (0,0)) (kq BK410.out) hb);replace BK411:=am (jc (g:=gb411) (o:=.cells #[.slice A1_0 l1_0.length c1_0] 28 (0,0)) (kq BK411.out) hb);replace HB:=am (je (Y45) hb);(try clear hb);(try clear hb2);(try clear hk);(try clear hi);have hcz16_0:=bc0 BK411.out;have hfz16_0:=jb BK411.out 0;have hcz17_0:=bc0 BK410.out;have hfz17_0:=jb BK410.out 0) |((with_reducible refine jw (f:=33) rfl ?_);refine gL (some 16) Tryd.func33 #[.agg #[.slice A1_0 l1_0.length c1_0], .agg #[.slice A0_0 l0_0.length c0_0], .int .i64 a2] ?_;(with_reducible refine (jDa.calls k _ _ l1_0 _ _ l0_0 a2 t416 _ ?side1 ?side2 ?side3 ?side4 A6.out).mono ?_);(case side1=>exact cq (Kd.jU HR1_0.out HB.out));(case side2=>exact HC1_0.out);(case side3=>exact cq (Kd.jU HR0_0.out HB.out));(case side4=>exact HC0_0.out);rintro e w18 ⟨rfl,hb⟩;refine ⟨_,rfl,?_⟩;replace HO414:=am (Kd.jW (rq HO414.out) hb);replace BK410:=am (jc (g:=gb410) (o:=.cells #[.slice A0_0 l0_0.length c0_0] 25 (0,0)) (kq BK410.out) hb);replace BK411:=am (jc (g:=gb411) (o:=.cells #[.slice A1_0 l1_0.length c1_0] 28 (0,0)) (kq BK411.out) hb);replace HB:=am (je (Y45) hb);(try clear hb);(try clear hb2);(try clear hk);(try clear hi)))
  go_ret
  exact ⟨Y1,Y45⟩
 ·replace c5:=Bool.eq_false_iff.mpr c5
  subst c5
  have H1:(some (⟨#[]⟩:ByteArray))=some r:=by rw [if_neg (show ¬ (false=true) by decide)] at H;exact H
  clear H
  have H:=H1
  clear H1
  obtain rfl:=Option.some.inj H
  go_enter Tryd.func11,Tryd.ntmps11
  go_wp2_with (first |((with_reducible refine jD (N:=3) rfl ?_);refine bE (N:=3) (cs:=#[.slice A0_0 l0_0.length c0_0]) (t:=25) ?_;intro gb410 hg w19 hbox hb;have BK410:=am (hbox);have GW410:=am ((Y0:w.heap.size≤gb410));have GE410:=am ((Y0:w.heap.size≤gb410));replace HB:=am (je (bq) hb);clear hb hbox hg) |((with_reducible refine jD (N:=4) rfl ?_);refine bE (N:=4) (cs:=#[.slice A1_0 l1_0.length c1_0]) (t:=28) ?_;intro gb411 hg w20 hbox hb;have BK411:=am (hbox);have GW411:=am ((Y111:w.heap.size≤gb411));have GE411:=am ((Y111:w.heap.size≤gb411));have NB410_411:=am ((by rw [hg];exact Nat.ne_of_lt (jda (g:=gb410) (o:=.cells #[.slice A0_0 l0_0.length c0_0] 25 (0,0)) (kq BK410.out)):gb410≠gb411));have NB411_410:=am ((by rw [hg];exact Nat.ne_of_gt (jda (g:=gb410) (o:=.cells #[.slice A0_0 l0_0.length c0_0] 25 (0,0)) (kq BK410.out)):gb411≠gb410));replace BK410:=am (jc (g:=gb410) (o:=.cells #[.slice A0_0 l0_0.length c0_0] 25 (0,0)) (kq BK410.out) hb);replace HB:=am (je (Y174) hb);clear hb hbox hg;have hnb21:=NB410_411.out;have hnc21:=NB411_410.out;have hcz22_0:=bc0 BK410.out;have hfz22_0:=jb BK410.out 0;have hcz23_0:=bc0 BK411.out;have hfz23_0:=jb BK411.out 0) |((with_reducible refine jD (N:=10) rfl ?_);refine Kd.R_lit (Kd.int .i64) _ 3 ?hg (N:=10) ?hd (xs:=([a2]:List Int)) (inner:=[.int .i64 a2]) (ok:=fun _=>True) (okp:=fun _=>True) ?hr ?hp (fun _ hk=>hk) trivial (Below.refl _ _) (Nat.le_refl _) (by simp) ?_;(case hd=>rfl);(case hg=>rfl);(case hr=>exact Y4);(case hp=>exact (Reps.one (show Kd.M (Kd.int .i64) _ _ _ a2 [.int .i64 a2] from rfl) (Reps.none _ _)));intro v413 w24 ho25 hb hg_ hnew_;clear hg_ hnew_;(first | rw [← Ny412.out] at ho25 |(simp only [Int.reduceToNat] at ho25;rw [← Ny412.out] at ho25));have HO414:=am (Kd.jia ho25 (jM (Y45)));replace BK410:=am (jc (g:=gb410) (o:=.cells #[.slice A0_0 l0_0.length c0_0] 25 (0,0)) (kq BK410.out) hb);replace BK411:=am (jc (g:=gb411) (o:=.cells #[.slice A1_0 l1_0.length c1_0] 28 (0,0)) (kq BK411.out) hb);replace HB:=am (je (Y45) hb);clear hb ho25;obtain ⟨Ao26,co26,eo26⟩:=Kd.jZ HO414.out;subst eo26) |((with_reducible refine jw (f:=28) rfl ?_);refine gL (some 11) Tryd.func28 #[.agg #[.slice A0_0 l0_0.length c0_0], .agg #[.slice A1_0 l1_0.length c1_0], .slice Ao26 y412.length co26] ?_;(with_reducible refine (jQa.calls k _ _ l0_0 _ _ l1_0 _ _ y412 false _ ?side1 ?side2 ?side3 ?side4 ?side5 ?side6 A4.out).mono ?_);(case side1=>exact cq (Kd.jU HR0_0.out HB.out));(case side2=>exact HC0_0.out);(case side3=>exact cq (Kd.jU HR1_0.out HB.out));(case side4=>exact HC1_0.out);(case side5=>exact cq (Kd.jC HO414.out).2.2);(case side6=>exact (Kd.jC HO414.out).2.1);rintro e w27 ⟨rfl,hb⟩;refine ⟨_,rfl,?_⟩;replace HO414:=am (Kd.jW (rq HO414.out) hb);replace BK410:=am (jc (g:=gb410) (o:=.cells #[.slice A0_0 l0_0.length c0_0] 25 (0,0)) (kq BK410.out) hb);replace BK411:=am (jc (g:=gb411) (o:=.cells #[.slice A1_0 l1_0.length c1_0] 28 (0,0)) (kq BK411.out) hb);replace HB:=am (je (Y45) hb);(try clear hb);(try clear hb2);(try clear hk);(try clear hi)))
  go_ret
  exact ⟨Y1,Y45⟩
def jYa.f (l0 : List S66) : Option (List S66) := if l0.length < 1099511627776 then some l0 else none
set_option maxHeartbeats 8000000 in
set_option maxRecDepth 100000 in
theorem jYa.calls (A0 : Option Addr) (c0 : Nat) (l0 : List S66) (r : List S66) (w : World) (hr0 : Kd.C k66 w A0 l0.length l0) (hc0 : l0.length ≤ c0) (h : jYa.f l0 = some r) :
  Calls Tryd.prog 46 #[.slice A0 l0.length c0] w fun e w'=>∃ v0_:Value,e=.returned (v0_)∧Kd.R k66 66 w' w.heap.size (fun _=>True) v0_ r∧Below w.heap.size w w':=by
 unfold jYa.f at h
 by_cases hlen:l0.length<1099511627776
 ·rw [if_pos hlen] at h
  obtain rfl:=Option.some.inj h
  have LM:=am hlen
  have q22:∀ (w:World) (a:Option Addr) (n c n' c':Nat),(binOp .eql 26 (.slice a n c) (.slice none n' c')).run Tryd.prog w=.ok (.bool a.isNone) w:=fun w a n c n' c'=>Lib.run_eql_slice_nil w _ _ a n c n' c' Tryd.underlying26
  clear h hlen
  cases A0 with
  | none =>
   have h0:l0=[]:=by
    rcases Nat.eq_zero_or_pos l0.length with h | h
    ·exact List.eq_nil_of_length_eq_zero h
    ·obtain ⟨ad,e,_⟩:=hr0.2.2 h;cases e
   subst h0
   clear hr0
   go_enter Tryd.func46,Tryd.ntmps46
   go_wp2
   go_ret
   exact ⟨_,rfl,Kd.R_nil _ _ _ _ _,Below.refl _ _⟩
  | some ad =>
   have HR:=am hr0
   have HB:=am (Below.refl w.heap.size w)
   clear hr0
   go_enter Tryd.func46,Tryd.ntmps46
   go_wp2_with (first |((with_reducible refine jD (N:=5) rfl ?_);refine Kd.R_lit k66 _ 66 ?hg (N:=5) ?hd (xs:=([]:List S66)) (inner:=[]) (ok:=fun _=>True) (okp:=fun _=>True) ?hr ?hp (fun _ hk=>hk) trivial (Below.refl _ _) (Nat.le_refl _) (by simp) ?_;(case hd=>rfl);(case hg=>rfl);(case hr=>exact Y4);(case hp=>exact (Reps.none _ _));intro v111 w4 ho5 hb hg_ hnew_;clear hg_ hnew_;have HO:=am ho5;have HB2:=am hb;clear HB ho5 hb;have HB:=HB2;clear HB2) |(at_builtin;refine Kd.R_append_rows k66 (w0:=w) w.heap.size rfl (.tmp 5) (.tmp 6) 26 66 (.agg #[(.int .i64 0),(.int .i64 0),(.int .i64 0),(.int .i64 0),(.bool false)]) 40 rfl Tryd.underlying26 info66 rfl (by decide) (by omega) v111 ([]:List S66) l0 _ _ _ (fun _=>True) (fun _=>False) rfl rfl HO.out (Kd.jU HR.out HB.out) (fun _ _ h=>h) (fun _ h=>h.elim) (fun _ _=>trivial) HB.out (jM HB.out) (by have:=LM.out;simp only [List.length_nil];omega) ?_;intro v1 w2 ho hb hg hat;have HV2:=am ho;have HB2:=am hb;clear ho hb hg hat))
   go_ret
   exact ⟨_,rfl,by simpa using HV2.out,HB2.out⟩
 ·rw [if_neg hlen] at h;cases h
def jKb.f (l0 : List (S66)) : Option ((List (S66))) := some (l0)
set_option maxHeartbeats 8000000 in
set_option maxRecDepth 100000 in
theorem jKb.calls (P0_ : Nat → Prop) (u9000_ : Value) (l0 : List (S66)) (r : List (S66)) (w0 w : World) (hB : Below w0.heap.size w0 w) (ho0 : Kd.R k66 66 w w0.heap.size P0_ u9000_ l0) (h : jKb.f l0 = some r) :
  Calls Tryd.prog 47 #[u9000_] w fun e w'=>∃ v0_:Value,e=.returned (v0_)∧Kd.R k66 66 w' w0.heap.size (fun k_=>(P0_ k_∨w.heap.size≤k_)) v0_ r∧Below w0.heap.size w0 w'∧Kept w w' (fun k_=>P0_ k_):=by
 have HO0:=am (show Kd.R k66 66 w w0.heap.size (fun k_=>(P0_ k_∨w.heap.size≤k_)) u9000_ l0 from Kd.jI ho0 (fun k_ hk=>(.inl hk)))
 have HK:=am (Kept.refl w (fun k_=>P0_ k_))
 have HW0:=am hB.size
 have HB:=am hB
 clear hB
 have H:(some (l0))=some r:=h
 clear h
 obtain ⟨y417,hy417⟩:∃ y_:List (S66),y_=(l0):=⟨_,rfl⟩
 replace H:(some y417)=some r:=by first |(rw [hy417];with_reducible exact H) |(have H2_:=(Option.bind_some _ _).symm.trans H;rw [hy417];with_reducible exact H2_) |(have H2_:=(Option.bind_some _ _).symm.trans H;with_reducible exact H2_) | with_reducible exact H |(rw [hy417];exact H) | exact H
 have Ny417:=am hy417
 clear hy417
 obtain rfl:=Option.some.inj H
 obtain ⟨Ao2,co2,eo2⟩:=Kd.jZ HO0.out
 subst eo2
 obtain ⟨i03,hi03,_,hsz3,_⟩:=info_parts info66
 have hy3:y417.length=l0.length:=(by rw [Ny417.out])
 have hcut3:=cut_clip (P:=Tryd.prog) 26 66 Tryd.underlying26 hi03 Ao2 _ co2 _ (Kd.jC HO0.out).2.1 hy3
 have hr3:=Kd.R_clip HO0.out Ny417.out
 clear hy3 hi03 hsz3 HO0
 have HO419:=am hr3
 clear hr3
 go_enter Tryd.func47,Tryd.ntmps47
 go_wp2
 go_ret
 exact ⟨_,Y1,rq HO419.out,bq,Y150⟩
def jOb.f (l0_0 : List (S66)) : Option ((List (S66))) := (jYa.f l0_0).bind fun t422 => ((jKb.f t422).bind fun t425 => (some t425))
set_option maxHeartbeats 8000000 in
set_option maxRecDepth 100000 in
theorem jOb.calls (A0_0 : Option Addr) (c0_0 : Nat) (l0_0 : List (S66)) (r : List (S66)) (w : World) (hr0_0 : Kd.C k66 w A0_0 l0_0.length l0_0) (hc0_0 : l0_0.length ≤ c0_0) (h : jOb.f l0_0 = some r) :
  Calls Tryd.prog 34 #[.agg #[.slice A0_0 l0_0.length c0_0]] w fun e w'=>∃ v0_:Value,e=.returned (.agg #[v0_])∧Kd.R k66 66 w' w.heap.size (fun _=>True) v0_ r∧Below w.heap.size w w':=by
 have hu28:=Tryd.underlying28
 have HR0_0:=am hr0_0
 have HC0_0:=am hc0_0
 clear hr0_0 hc0_0
 have HB:=am (Below.refl w.heap.size w)
 have H:((jYa.f l0_0).bind fun t422=>((jKb.f t422).bind fun t425=>(some t425)))=some r:=h
 clear h
 replace H:=bzS H
 obtain ⟨t422,A20,H⟩:=H
 replace H:((jKb.f t422).bind fun t425=>(some t425))=some r:=H
 have A2:=am A20
 clear A20
 replace H:=bzS H
 obtain ⟨t425,A30,H⟩:=H
 replace H:(some t425)=some r:=H
 have A3:=am A30
 clear A30
 obtain rfl:=Option.some.inj H
 go_enter Tryd.func34,Tryd.ntmps34
 go_wp2_with (first |((with_reducible refine jD (N:=1) rfl ?_);refine bE (N:=1) (cs:=#[.slice A0_0 l0_0.length c0_0]) (t:=28) ?_;intro gb420 hg w4 hbox hb;have BK420:=am (hbox);have GW420:=am ((Y0:w.heap.size≤gb420));have GE420:=am ((Y0:w.heap.size≤gb420));replace HB:=am (je (bq) hb);clear hb hbox hg) |((with_reducible refine jD (N:=2) rfl ?_);refine bE (N:=2) (cs:=#[.slice none 0 0]) (t:=28) ?_;intro gb421 hg w5 hbox hb;have BK421:=am (hbox);have GW421:=am ((Y175:w.heap.size≤gb421));have GE421:=am ((Y175:w.heap.size≤gb421));have NB420_421:=am ((by rw [hg];exact Nat.ne_of_lt (jda (g:=gb420) (o:=.cells #[.slice A0_0 l0_0.length c0_0] 28 (0,0)) (kq BK420.out)):gb420≠gb421));have NB421_420:=am ((by rw [hg];exact Nat.ne_of_gt (jda (g:=gb420) (o:=.cells #[.slice A0_0 l0_0.length c0_0] 28 (0,0)) (kq BK420.out)):gb421≠gb420));replace BK420:=am (jc (g:=gb420) (o:=.cells #[.slice A0_0 l0_0.length c0_0] 28 (0,0)) (kq BK420.out) hb);replace HB:=am (je (by repeat (first |(with_reducible first | exact HB.out | apply jv | apply jo | apply jq | refine jl ?_ GE420.out) | exact HB.out)) hb);clear hb hbox hg;have hnb6:=NB420_421.out;have hnc6:=NB421_420.out;have hcz7_0:=bc0 BK420.out;have hfz7_0:=jb BK420.out 0) |((with_reducible refine jw (f:=46) rfl ?_);refine gL (some 5) Tryd.func46 #[.slice A0_0 l0_0.length c0_0] ?_;(with_reducible refine (jYa.calls _ _ l0_0 t422 _ ?side1 ?side2 A2.out).mono ?_);(case side1=>exact cq (Kd.jU HR0_0.out HB.out));(case side2=>exact HC0_0.out);rintro e w8 ⟨v423,rfl,ho0,hb⟩;refine ⟨_,rfl,?_⟩;have HO424:=am (Kd.jia ho0 (jM (Y112)));replace BK420:=am (jc (g:=gb420) (o:=.cells #[.slice A0_0 l0_0.length c0_0] 28 (0,0)) (kq BK420.out) hb);replace BK421:=am (jc (g:=gb421) (o:=.cells #[.slice none 0 0] 28 (0,0)) (kq BK421.out) hb);replace HB:=am (je (Y112) hb);(try clear hb);(try clear hb2);(try clear hk);(try clear hi);(try clear ho0);obtain ⟨Ao9,co9,eo9⟩:=Kd.jZ HO424.out;subst eo9) |((with_reducible refine jw (f:=47) rfl ?_);refine gL (some 6) Tryd.func47 #[.slice Ao9 t422.length co9] ?_;(with_reducible refine (jKb.calls (fun k_=>some k_=(.slice Ao9 t422.length co9:Value).ownBlock) (.slice Ao9 t422.length co9) t422 t425 w _ ?side1 ?side2 A3.out).mono ?_);(case side1=>exact Y112);(case side2=>exact Kd.R_tight rfl HO424.out);rintro e w10 ⟨v426,rfl,ho0,hb,hkp⟩;refine ⟨_,rfl,?_⟩;have n0_:=am (blk_kept (kq BK420.out) hkp (fun hs_=>(fun e_=>(Kd.R_ne HO424.out BK420.out (by decide)) e_) hs_));have n1_:=am (blk_kept (kq BK421.out) hkp (fun hs_=>(fun e_=>(Kd.R_ne HO424.out BK421.out (by decide)) e_) hs_));have n2_:=am (Kd.jI (ok':=fun k_=>True) ho0 (fun k_ hk_=>trivial));have n3_:=am (hb);clear BK420 BK421 HB HO424;have BK420:=n0_;have BK421:=n1_;have HO427:=n2_;have HB:=n3_;clear n0_ n1_ n2_ n3_;(try clear hb);(try clear hkp);(try clear ho0);obtain ⟨Ao11,co11,eo11⟩:=Kd.jZ HO427.out;subst eo11;have hcz12_0:=bc0 BK421.out;have hfz12_0:=jb BK421.out 0))
 refine bodyPost_ret (results_cell_row rfl _ _ gb421 28 #[.slice Ao11 t425.length co11] (0,0) _ rfl (by (with_reducible repeat (first | refine jg ?_ _ | refine jf ?_ | refine jh ?_ _));refine jya (cs:=#[.slice none 0 0]) ?_ 0 _ rfl;(with_reducible repeat (first | refine jg ?_ _ | refine jf ?_ | refine jh ?_ _));exact BK421.out) Tryd.underlying28 rfl (by kernel_rfl)) rfl ?_
 exact ⟨_,Y1,by (with_reducible repeat (first | apply Kd.jX | apply Kd.jba | apply Kd.jV));exact Kd.jI (Kd.jwa (p:=⟨gb421,0,none⟩) (Kd.jP HO427.out BK421.out (by decide)) (fun _ hk=>hk.2) (.slice Ao11 t425.length co11)) (fun _ hk=>trivial),Y112⟩
theorem sc0 {w : World} {b : Nat} {v : Value} {l : List Value} {t : TypeId} (h : w.heap[b]? = some (.cells ⟨v :: l⟩ t (0, 0))) : w.cell? ⟨b, 0, none⟩ = some v := (jH h 0).trans rfl
theorem sc_new (w : World) (v : Value) (t : TypeId) : (w.alloc (.cells #[v] t)).cell? ⟨w.heap.size, 0, none⟩ = some v := by simp
theorem sc_C_one {W : World} {b : Nat} {x : Int} (h : W.cell? ⟨b, 0, none⟩ = some (.int .i64 x)) : Kd.C (Kd.int .i64) W (some ⟨b, 0, none⟩) [x].length [x] :=
 Kd.C_of_reads (d:=0) (h1:=fun _=>rfl) ⟨rfl,by simp,fun _=>⟨_,rfl,fun j hj=>by
  obtain rfl:j=0:=by simpa using hj
  exact h⟩⟩
theorem sc_has (l : List S66) (a : Int) : jjb.f l a = some (hpIn a 0 (wrap64 ((l.length : Int) - 1))) := by unfold jjb.f; rw [hp_within]; rfl
theorem sc_st2 {W : World} {base g n cap : Nat} {ok : Nat → Prop} {l : List S66} {a : Int} (h : Kd.R k66 66 W base ok (.slice (some ⟨g, 0, none⟩) n cap) l) (h0 : 0 ≤ a) (h1 : a < (n : Int)) (c : Int) :
  Kd.R k66 66 (W.setCell ⟨g,a.toNat * 5+2,none⟩ (.int .i64 c)) base ok (.slice (some ⟨g,0,none⟩) n cap) (l.set a.toNat ⟨(ja l a).f0,(ja l a).f1,c,(ja l a).f3,(ja l a).f4⟩)∧W.grownBy (W.setCell ⟨g,a.toNat * 5+2,none⟩ (.int .i64 c)) (some g)∧W.cell? ⟨g,a.toNat * 5+2,none⟩=some (.int .i64 (ja l a).f2)∧W.frozen? ⟨g,a.toNat * 5+2,none⟩=false:=by
 obtain ⟨ce,hcl,hM,hcc,hfr⟩:=Kd.jyb h z66 a h0 h1
 obtain rfl:=jRa hM
 have HP:=Kd.R_seg h a h0 h1 (seg:=[.int .i64 c]) (j:=2) hcl hcc (show 2+1≤5 from by decide) (x':=(⟨(ja l a).f0,(ja l a).f1,c,(ja l a).f3,(ja l a).f4⟩:S66)) (jac _ _ _ (⟨(ja l a).f0,(ja l a).f1,c,(ja l a).f3,(ja l a).f4⟩:S66)) (fun _ hk=>hk)
 exact ⟨HP.1,HP.2,hcc 2 _ rfl,hfr 2⟩
theorem sc_st4 {W : World} {base g n cap : Nat} {ok : Nat → Prop} {l : List S66} {a : Int} (h : Kd.R k66 66 W base ok (.slice (some ⟨g, 0, none⟩) n cap) l) (h0 : 0 ≤ a) (h1 : a < (n : Int)) (c : Bool) :
  Kd.R k66 66 (W.setCell ⟨g,a.toNat * 5+4,none⟩ (.bool c)) base ok (.slice (some ⟨g,0,none⟩) n cap) (l.set a.toNat ⟨(ja l a).f0,(ja l a).f1,(ja l a).f2,(ja l a).f3,c⟩)∧W.grownBy (W.setCell ⟨g,a.toNat * 5+4,none⟩ (.bool c)) (some g)∧W.cell? ⟨g,a.toNat * 5+4,none⟩=some (.bool (ja l a).f4)∧W.frozen? ⟨g,a.toNat * 5+4,none⟩=false:=by
 obtain ⟨ce,hcl,hM,hcc,hfr⟩:=Kd.jyb h z66 a h0 h1
 obtain rfl:=jRa hM
 have HP:=Kd.R_seg h a h0 h1 (seg:=[.bool c]) (j:=4) hcl hcc (show 4+1≤5 from by decide) (x':=(⟨(ja l a).f0,(ja l a).f1,(ja l a).f2,(ja l a).f3,c⟩:S66)) (jac _ _ _ (⟨(ja l a).f0,(ja l a).f1,(ja l a).f2,(ja l a).f3,c⟩:S66)) (fun _ hk=>hk)
 exact ⟨HP.1,HP.2,hcc 4 _ rfl,hfr 4⟩
theorem sc_rd {l : List S66} {a : Int} (h0 : 0 ≤ a) (h1 : a < (l.length : Int)) (x : S66) : ja (l.set a.toNat x) a = x := by
 have:a.toNat<l.length:=by omega
 simp [ja,List.getD_eq_getElem?_getD,this]
theorem sc_set24 {l : List S66} {a c : Int} {b : Bool} (h0 : 0 ≤ a) (h1 : a < (l.length : Int)) : (l.set a.toNat ⟨(ja l a).f0, (ja l a).f1, c, (ja l a).f3, (ja l a).f4⟩).set a.toNat ⟨(ja (l.set a.toNat ⟨(ja l a).f0, (ja l a).f1, c, (ja l a).f3, (ja l a).f4⟩) a).f0, (ja (l.set a.toNat ⟨(ja l a).f0, (ja l a).f1, c, (ja l a).f3, (ja l a).f4⟩) a).f1, (ja (l.set a.toNat ⟨(ja l a).f0, (ja l a).f1, c, (ja l a).f3, (ja l a).f4⟩) a).f2, (ja (l.set a.toNat ⟨(ja l a).f0, (ja l a).f1, c, (ja l a).f3, (ja l a).f4⟩) a).f3, b⟩ = l.set a.toNat ⟨(ja l a).f0, (ja l a).f1, c, (ja l a).f3, b⟩ := by
 rw [sc_rd h0 h1,List.set_set]
def jJb.f (k : Nat) (l0_0 : List S99) (l1_0 : List S66) (a2 a3 : Int) : Option (List S66 × Bool) :=
 (jQa.f k l0_0 l1_0 [a2]).bind fun v=>if v=true then
  (if a3≠-1∧(hpIn a3 0 (wrap64 ((l1_0.length:Int) - 1))=false∨a3=a2) then some ([],false)
  else if l1_0.length<1099511627776 then (if 0≤a2 then (if a2<(l1_0.length:Int) then some (l1_0.set a2.toNat ⟨(ja l1_0 a2).f0,(ja l1_0 a2).f1,a3,(ja l1_0 a2).f3,true⟩,true) else none) else none) else none) else some ([],false)
set_option maxHeartbeats 8000000 in
set_option maxRecDepth 100000 in
theorem jJb.calls (k : Nat) (A0_0 : Option Addr) (c0_0 : Nat) (l0_0 : List (S99)) (A1_0 : Option Addr) (c1_0 : Nat) (l1_0 : List (S66)) (a2 a3 : Int) (r1 : List (S66)) (r2 : Bool) (w : World) (hr0_0 : Kd.C k99 w A0_0 l0_0.length l0_0) (hc0_0 : l0_0.length ≤ c0_0) (hr1_0 : Kd.C k66 w A1_0 l1_0.length l1_0) (hc1_0 : l1_0.length ≤ c1_0) (h : jJb.f k l0_0 l1_0 a2 a3 = some (r1, r2)) :
  Calls Tryd.prog 13 #[.agg #[.slice A0_0 l0_0.length c0_0], .agg #[.slice A1_0 l1_0.length c1_0], .int .i64 a2, .int .i64 a3] w fun e w'=>∃ v0_:Value,e=.returned (.tuple #[.agg #[v0_], .bool r2])∧Kd.R k66 66 w' w.heap.size (fun _=>True) v0_ r1∧Below w.heap.size w w':=by
 have hu28:=Tryd.underlying28
 have hu25:=Tryd.underlying25
 have hu66:=Tryd.underlying66
 have hmx:Tryd.prog.follows .mixedOrders=true:=by kernel_rfl
 obtain ⟨v,hv,h⟩:=bzS h
 have HR1:=am hr1_0
 have HV:=am (fun W (hb:Below w.heap.size w W) (B:Nat) (hB:W.cell? ⟨B,0,none⟩=some (.int .i64 a2))=>jQa.calls k A0_0 c0_0 l0_0 A1_0 c1_0 l1_0 (some ⟨B,0,none⟩) 1 [a2] v W (Kd.jU hr0_0 hb) hc0_0 (Kd.jU hr1_0 hb) hc1_0 (sc_C_one hB) (by simp) hv)
 have HB:=am (show Below w.heap.size w (((w.alloc (.cells #[.slice A0_0 l0_0.length c0_0] 25)).alloc (.cells #[.slice A1_0 l1_0.length c1_0] 28)).alloc (.cells #[.slice none 0 0] 28)) from (((Below.refl w.heap.size w).alloc (Nat.le_refl _) _).alloc (by simp) _).alloc (by simp;omega) _)
 have BT:=am (show (((w.alloc (.cells #[.slice A0_0 l0_0.length c0_0] 25)).alloc (.cells #[.slice A1_0 l1_0.length c1_0] 28)).alloc (.cells #[.slice none 0 0] 28)).heap[w.heap.size]?=some (.cells #[.slice A0_0 l0_0.length c0_0] 25 (0,0)) from by have h:=heap_alloc_new w (.cells #[.slice A0_0 l0_0.length c0_0] 25);have h:=(show (w.alloc (.cells #[.slice A0_0 l0_0.length c0_0] 25)).heap[w.heap.size]?=some (.cells #[.slice A0_0 l0_0.length c0_0] 25 (0,0)) by simpa only [World.size_alloc] using h);have h:=jh h (.cells #[.slice A1_0 l1_0.length c1_0] 28);have h:=jh h (.cells #[.slice none 0 0] 28);exact h)
 have BH:=am (show (((w.alloc (.cells #[.slice A0_0 l0_0.length c0_0] 25)).alloc (.cells #[.slice A1_0 l1_0.length c1_0] 28)).alloc (.cells #[.slice none 0 0] 28)).heap[w.heap.size+1]?=some (.cells #[.slice A1_0 l1_0.length c1_0] 28 (0,0)) from by have h:=heap_alloc_new (w.alloc (.cells #[.slice A0_0 l0_0.length c0_0] 25)) (.cells #[.slice A1_0 l1_0.length c1_0] 28);have h:=(show ((w.alloc (.cells #[.slice A0_0 l0_0.length c0_0] 25)).alloc (.cells #[.slice A1_0 l1_0.length c1_0] 28)).heap[w.heap.size+1]?=some (.cells #[.slice A1_0 l1_0.length c1_0] 28 (0,0)) by simpa only [World.size_alloc] using h);have h:=jh h (.cells #[.slice none 0 0] 28);exact h)
 have BR:=am (show (((w.alloc (.cells #[.slice A0_0 l0_0.length c0_0] 25)).alloc (.cells #[.slice A1_0 l1_0.length c1_0] 28)).alloc (.cells #[.slice none 0 0] 28)).heap[w.heap.size+2]?=some (.cells #[.slice none 0 0] 28 (0,0)) from by have h:=heap_alloc_new ((w.alloc (.cells #[.slice A0_0 l0_0.length c0_0] 25)).alloc (.cells #[.slice A1_0 l1_0.length c1_0] 28)) (.cells #[.slice none 0 0] 28);have h:=(show (((w.alloc (.cells #[.slice A0_0 l0_0.length c0_0] 25)).alloc (.cells #[.slice A1_0 l1_0.length c1_0] 28)).alloc (.cells #[.slice none 0 0] 28)).heap[w.heap.size+2]?=some (.cells #[.slice none 0 0] 28 (0,0)) by simpa only [World.size_alloc] using h);exact h)
 cases v with
 | false =>
  rw [if_neg (by simp)] at h
  simp only [Option.some.injEq,Prod.mk.injEq] at h
  obtain ⟨rfl,rfl⟩:=h
  clear hv hr0_0 hr1_0 HR1
  go_enter Tryd.func13,Tryd.ntmps13
  go_wp2_with (go_at_call 28;refine (HV.out _ (HB.out.alloc (jM HB.out) (.cells #[.int .i64 a2] 3)) (w.heap.size+1+1+1) (by have h:=sc_new (((w.alloc (.cells #[.slice A0_0 l0_0.length c0_0] 25)).alloc (.cells #[.slice A1_0 l1_0.length c1_0] 28)).alloc (.cells #[.slice none 0 0] 28)) (.int .i64 a2) 3;simpa only [World.size_alloc] using h)).mono ?_;rintro e w2 ⟨rfl,hb2⟩;clear HV;have n0_:=am (jc (g:=w.heap.size) (o:=.cells #[.slice A0_0 l0_0.length c0_0] 25 (0,0)) (Y40) hb2);have n1_:=am (jc (g:=w.heap.size+1) (o:=.cells #[.slice A1_0 l1_0.length c1_0] 28 (0,0)) (Y41) hb2);have n2_:=am (jc (g:=w.heap.size+2) (o:=.cells #[.slice none 0 0] 28 (0,0)) (Y42) hb2);have n4_:=am (je (Y43) hb2);clear BT BH BR HB;have BT:=n0_;have BH:=n1_;have BR:=n2_;have HB:=n4_;clear n0_ n1_ n2_ n4_ hb2;have cT:=sc0 BT.out;have cH:=sc0 BH.out;have cR:=sc0 BR.out;have fR:=jb BR.out 0)
  refine bodyPost_ret (jjc rfl _ _ (w.heap.size+2) 28 #[.slice none 0 0] (0,0) _ rfl (Y137) Tryd.underlying28 rfl (by kernel_rfl)) rfl ?_
  exact ⟨.slice none 0 0,rfl,Kd.R_nil _ _ _ _ _,Y138⟩
 | true =>
  rw [if_pos rfl] at h
  have HCP:=am (fun (hl:l1_0.length<1099511627776) W (hb:Below w.heap.size w W)=>jOb.calls A1_0 c1_0 l1_0 l1_0 W (Kd.jU hr1_0 hb) hc1_0 (by unfold jOb.f jYa.f;rw [if_pos hl];rfl))
  clear hv hr0_0 hr1_0
  by_cases e1:a3 = -1
  ·rw [if_neg (by simp [e1])] at h
   have e1b:(a3 != -1)=false:=by simp [e1]
   clear e1
   by_cases hl:l1_0.length<1099511627776
   case neg=>rw [if_neg hl] at h;cases h
   rw [if_pos hl] at h
   replace HCP:=am (HCP.out hl)
   by_cases g0:0≤a2
   case neg=>rw [if_neg g0] at h;cases h
   rw [if_pos g0] at h
   by_cases g1:a2<(l1_0.length:Int)
   case neg=>rw [if_neg g1] at h;cases h
   rw [if_pos g1] at h
   simp only [Option.some.injEq,Prod.mk.injEq] at h
   obtain ⟨e1,rfl⟩:=h
   have HE:=am e1
   clear e1
   have G0:=am g0
   have G1:=am g1
   have p0:=ezT g0
   have p1:=ezT g1
   clear g0 g1 hl
   go_enter Tryd.func13,Tryd.ntmps13
   go_wp2_with (first |(go_at_call 28;refine (HV.out _ (HB.out.alloc (jM HB.out) (.cells #[.int .i64 a2] 3)) (w.heap.size+1+1+1) (by have h:=sc_new (((w.alloc (.cells #[.slice A0_0 l0_0.length c0_0] 25)).alloc (.cells #[.slice A1_0 l1_0.length c1_0] 28)).alloc (.cells #[.slice none 0 0] 28)) (.int .i64 a2) 3;simpa only [World.size_alloc] using h)).mono ?_;rintro e w2 ⟨rfl,hb2⟩;clear HV;have n0_:=am (jc (g:=w.heap.size) (o:=.cells #[.slice A0_0 l0_0.length c0_0] 25 (0,0)) (Y40) hb2);have n1_:=am (jc (g:=w.heap.size+1) (o:=.cells #[.slice A1_0 l1_0.length c1_0] 28 (0,0)) (Y41) hb2);have n2_:=am (jc (g:=w.heap.size+2) (o:=.cells #[.slice none 0 0] 28 (0,0)) (Y42) hb2);have n4_:=am (je (Y43) hb2);clear BT BH BR HB;have BT:=n0_;have BH:=n1_;have BR:=n2_;have HB:=n4_;clear n0_ n1_ n2_ n4_ hb2;have cT:=sc0 BT.out;have cH:=sc0 BH.out;have cR:=sc0 BR.out;have fR:=jb BR.out 0) |(go_at_call 34;refine (HCP.out _ HB.out).mono ?_;rintro e w2 ⟨v8,rfl,ho,hb2⟩;obtain ⟨g5,cp5,rfl,gb5,gl5,cl5,hg5⟩:=Kd.R_form ho (by have:=G0.out;have:=G1.out;omega);have HO:=am (Kd.jia ho (jM HB.out));have hg5n:w.heap.size+2<g5:=Nat.lt_of_lt_of_le (jda BR.out) gb5;clear HCP ho hg5 gb5;try clear cT cH cR fR;have n0_:=am (jc (g:=w.heap.size) (o:=.cells #[.slice A0_0 l0_0.length c0_0] 25 (0,0)) (Y40) hb2);have n1_:=am (jc (g:=w.heap.size+1) (o:=.cells #[.slice A1_0 l1_0.length c1_0] 28 (0,0)) (Y41) hb2);have n2_:=am (jc (g:=w.heap.size+2) (o:=.cells #[.slice none 0 0] 28 (0,0)) (Y42) hb2);have n4_:=am (je (Y43) hb2);clear BT BH BR HB;have BT:=n0_;have BH:=n1_;have BR:=n2_;have HB:=n4_;clear n0_ n1_ n2_ n4_ hb2;have cT:=sc0 BT.out;have cH:=sc0 BH.out;have cR:=sc0 BR.out;have fR:=jb BR.out 0))
   refine wp_region_held (S:=(fun W':World=>W'.cell? ⟨w2.heap.size,0,none⟩=some (.slice (some ⟨g5,0,none⟩) l1_0.length cp5))) hmx ?_
   change wpAnyH _ _ _ _ _ _ _ _ (World.drew (w2.alloc (.cells #[.slice (some ⟨g5,0,none⟩) l1_0.length cp5] 28)))
   have hBX:=jf (heap_alloc_new w2 (.cells #[.slice (some ⟨g5,0,none⟩) l1_0.length cp5] 28))
   have hS0:(fun W':World=>W'.cell? ⟨w2.heap.size,0,none⟩=some (.slice (some ⟨g5,0,none⟩) l1_0.length cp5)) (World.drew (w2.alloc (.cells #[.slice (some ⟨g5,0,none⟩) l1_0.length cp5] 28))):=sc0 hBX
   have R0:=Kd.jV (Kd.jX HO.out (.cells #[.slice (some ⟨g5,0,none⟩) l1_0.length cp5] 28))
   refine wpAnyH_take (i:=0) (v:=?_) rfl (by kernel_rfl) (by kernel_rfl) (by kernel_rfl) (fun _ _ _ h=>h) (Or.inl ⟨by rfl,?_⟩) hS0 ?_
   rotate_left
   ·rintro W' s1
    go_simp
    with_reducible rfl
   refine wpAnyH_take (i:=1) (v:=?_) rfl (by kernel_rfl) (by kernel_rfl) (by kernel_rfl) (fun _ _ _ h=>h) (Or.inl ⟨by rfl,?_⟩) hS0 ?_
   rotate_left
   ·rintro W' s1
    go_simp
    with_reducible rfl
   refine wpAnyH_take (i:=2) (v:=?_) rfl (by kernel_rfl) (by kernel_rfl) (by kernel_rfl) (fun _ _ _ h=>h) (Or.inl ⟨by rfl,?_⟩) hS0 ?_
   rotate_left
   ·rintro W' s1
    go_simp
    with_reducible rfl
   refine wpAnyH_take (i:=3) (v:=?_) rfl (by kernel_rfl) (by kernel_rfl) (by kernel_rfl) (fun _ _ _ h=>h) (Or.inl ⟨by rfl,?_⟩) hS0 ?_
   rotate_left
   ·rintro W' s1
    go_simp
    with_reducible rfl
   refine wpAnyH_take (i:=4) (v:=?_) rfl (by kernel_rfl) (by kernel_rfl) (by kernel_rfl) (fun _ _ _ h=>h) (Or.inl ⟨by rfl,?_⟩) hS0 ?_
   rotate_left
   ·rintro W' s1
    go_simp
    with_reducible rfl
   refine wpAnyH_take (i:=5) (v:=?_) rfl (by kernel_rfl) (by kernel_rfl) (by kernel_rfl) (fun _ _ _ h=>h) (Or.inl ⟨by rfl,?_⟩) hS0 ?_
   rotate_left
   ·rintro W' s1
    go_simp
    with_reducible rfl
   refine wpAnyH_take (i:=6) (v:=?_) rfl (by kernel_rfl) (by kernel_rfl) (by kernel_rfl) (fun _ _ _ h=>h) (Or.inl ⟨by rfl,?_⟩) hS0 ?_
   rotate_left
   ·rintro W' s1
    go_simp
    with_reducible rfl
   refine wpAnyH_take (i:=7) (v:=?_) rfl (by kernel_rfl) (by kernel_rfl) (by kernel_rfl) (fun _ _ _ h=>h) (Or.inl ⟨by rfl,?_⟩) hS0 ?_
   rotate_left
   ·rintro W' s1
    go_simp
    with_reducible rfl
   refine wpAnyH_take (i:=8) (v:=?_) rfl (by kernel_rfl) (by kernel_rfl) (by kernel_rfl) (fun _ _ _ h=>h) (Or.inl ⟨by rfl,?_⟩) hS0 ?_
   rotate_left
   ·rintro W' s1
    go_simp
    with_reducible rfl
   refine wpAnyH_all (rs:=[9]) (by kernel_rfl) (by simp) ?_
   intro ii hii
   obtain rfl:ii=9:=by simpa using hii
   clear hii
   obtain ⟨R1,G1g,c1,f1⟩:=sc_st2 HO.out G0.out G1.out a3
   refine wpOp_step rfl (fun K hK=>?_)
   go_simp
   have hS1:(fun W':World=>W'.cell? ⟨w2.heap.size,0,none⟩=some (.slice (some ⟨g5,0,none⟩) l1_0.length cp5)) (World.drew ((w2.setCell ⟨g5,a2.toNat * 5+2,none⟩ (.int .i64 a3)).alloc (.cells #[.slice (some ⟨g5,0,none⟩) l1_0.length cp5] 28))):=sc0 (jf (show ((w2.setCell ⟨g5,a2.toNat * 5+2,none⟩ (.int .i64 a3)).alloc (.cells #[.slice (some ⟨g5,0,none⟩) l1_0.length cp5] 28)).heap[w2.heap.size]?=some (.cells #[.slice (some ⟨g5,0,none⟩) l1_0.length cp5] 28 (0,0)) by have h:=heap_alloc_new (w2.setCell ⟨g5,a2.toNat * 5+2,none⟩ (.int .i64 a3)) (.cells #[.slice (some ⟨g5,0,none⟩) l1_0.length cp5] 28);simpa only [World.size_setCell] using h))
   refine hK _ _ ⟨hS1,?_⟩
   clear hK K
   refine wpAnyH_take (i:=10) (v:=?_) rfl (by kernel_rfl) (by kernel_rfl) (by kernel_rfl) (fun _ _ _ h=>h) (Or.inl ⟨by rfl,?_⟩) hS1 ?_
   rotate_left
   ·rintro W' s1
    go_simp
    with_reducible rfl
   refine wpAnyH_take (i:=11) (v:=?_) rfl (by kernel_rfl) (by kernel_rfl) (by kernel_rfl) (fun _ _ _ h=>h) (Or.inl ⟨by rfl,?_⟩) hS1 ?_
   rotate_left
   ·rintro W' s1
    go_simp
    with_reducible rfl
   refine wpAnyH_all (rs:=[12]) (by kernel_rfl) (by simp) ?_
   intro ii hii
   obtain rfl:ii=12:=by simpa using hii
   clear hii
   obtain ⟨R2,G2g,c2,f2⟩:=sc_st4 R1 G0.out G1.out true
   refine wpOp_step rfl (fun K hK=>?_)
   go_simp
   have hS2:(fun W':World=>W'.cell? ⟨w2.heap.size,0,none⟩=some (.slice (some ⟨g5,0,none⟩) l1_0.length cp5)) (World.drew (((w2.setCell ⟨g5,a2.toNat * 5+2,none⟩ (.int .i64 a3)).setCell ⟨g5,a2.toNat * 5+4,none⟩ (.bool true)).alloc (.cells #[.slice (some ⟨g5,0,none⟩) l1_0.length cp5] 28))):=sc0 (jf (show (((w2.setCell ⟨g5,a2.toNat * 5+2,none⟩ (.int .i64 a3)).setCell ⟨g5,a2.toNat * 5+4,none⟩ (.bool true)).alloc (.cells #[.slice (some ⟨g5,0,none⟩) l1_0.length cp5] 28)).heap[w2.heap.size]?=some (.cells #[.slice (some ⟨g5,0,none⟩) l1_0.length cp5] 28 (0,0)) by have h:=heap_alloc_new ((w2.setCell ⟨g5,a2.toNat * 5+2,none⟩ (.int .i64 a3)).setCell ⟨g5,a2.toNat * 5+4,none⟩ (.bool true)) (.cells #[.slice (some ⟨g5,0,none⟩) l1_0.length cp5] 28);simpa only [World.size_setCell] using h))
   refine hK _ _ ⟨hS2,?_⟩
   clear hK K
   refine wpAnyH_done (by kernel_rfl) ?_ _
   rename_i K9 hK9
   refine hK9 _ _ ?_
   clear hK9
   go_simp
   change Code.wp _ _ _ _ (World.drew (((w2.setCell ⟨g5,a2.toNat * 5+2,none⟩ (.int .i64 a3)).setCell ⟨g5,a2.toNat * 5+4,none⟩ (.bool true)).alloc (.cells #[.slice (some ⟨g5,0,none⟩) l1_0.length cp5] 28)))
   have BR7:=jf (jh (jT (p:=⟨g5,a2.toNat * 5+4,none⟩) (jT (p:=⟨g5,a2.toNat * 5+2,none⟩) BR.out (by simp;omega) (.int .i64 a3)) (by simp;omega) (.bool true)) (.cells #[.slice (some ⟨g5,0,none⟩) l1_0.length cp5] 28))
   have BX7:=jf (show (((w2.setCell ⟨g5,a2.toNat * 5+2,none⟩ (.int .i64 a3)).setCell ⟨g5,a2.toNat * 5+4,none⟩ (.bool true)).alloc (.cells #[.slice (some ⟨g5,0,none⟩) l1_0.length cp5] 28)).heap[w2.heap.size]?=some (.cells #[.slice (some ⟨g5,0,none⟩) l1_0.length cp5] 28 (0,0)) by have h:=heap_alloc_new ((w2.setCell ⟨g5,a2.toNat * 5+2,none⟩ (.int .i64 a3)).setCell ⟨g5,a2.toNat * 5+4,none⟩ (.bool true)) (.cells #[.slice (some ⟨g5,0,none⟩) l1_0.length cp5] 28);simpa only [World.size_setCell] using h)
   have HB7:Below w.heap.size w (World.drew (((w2.setCell ⟨g5,a2.toNat * 5+2,none⟩ (.int .i64 a3)).setCell ⟨g5,a2.toNat * 5+4,none⟩ (.bool true)).alloc (.cells #[.slice (some ⟨g5,0,none⟩) l1_0.length cp5] 28))):=jnb (jv (jl (jl HB.out (by first | omega |(simp;omega))) (by first | omega |(simp;omega))) _)
   rw [sc_set24 G0.out G1.out] at R2
   have R3:=Kd.jV (Kd.jX R2 (.cells #[.slice (some ⟨g5,0,none⟩) l1_0.length cp5] 28))
   clear R2
   have R2:=R3
   clear R3
   obtain ⟨W7,hW7⟩:∃ W7,(World.drew (((w2.setCell ⟨g5,a2.toNat * 5+2,none⟩ (.int .i64 a3)).setCell ⟨g5,a2.toNat * 5+4,none⟩ (.bool true)).alloc (.cells #[.slice (some ⟨g5,0,none⟩) l1_0.length cp5] 28)))=W7:=⟨_,rfl⟩
   rw [hW7] at BR7 BX7 HB7 R2 ⊢
   clear hW7 hS0 hS1 hS2 R0 R1 c1 f1 c2 f2 hBX cT cH cR fR
   have cR:=sc0 BR7
   have fR:=jb BR7 0
   have cX:=sc0 BX7
   go_wp2
   refine bodyPost_ret (jjc rfl _ _ (w.heap.size+2) 28 #[.slice (some ⟨g5,0,none⟩) l1_0.length cp5] (0,0) _ rfl (by refine jya (cs:=#[.slice none 0 0]) BR7 0 _ rfl) Tryd.underlying28 rfl (by kernel_rfl)) rfl ?_
   exact ⟨_,rfl,by rw [← HE.out];exact Kd.jI (Kd.jwa (Kd.jP R2 BR7 (by decide)) (fun k hk=>hk.2) _) (fun _ _=>trivial),jl HB7 (by first | omega | simp)⟩
  ·have e1b:(a3 != -1)=true:=by simpa using e1
   cases e2:hpIn a3 0 (wrap64 ((l1_0.length:Int) - 1)) with
   | false =>
    have EH:=am (show jjb.f l1_0 a3=some false by rw [sc_has,e2])
    rw [if_pos ⟨e1, .inl e2⟩] at h
    clear e1 e2
    simp only [Option.some.injEq,Prod.mk.injEq] at h
    obtain ⟨rfl,rfl⟩:=h
    clear HCP
    go_enter Tryd.func13,Tryd.ntmps13
    go_wp2_with (first |(go_at_call 28;refine (HV.out _ (HB.out.alloc (jM HB.out) (.cells #[.int .i64 a2] 3)) (w.heap.size+1+1+1) (by have h:=sc_new (((w.alloc (.cells #[.slice A0_0 l0_0.length c0_0] 25)).alloc (.cells #[.slice A1_0 l1_0.length c1_0] 28)).alloc (.cells #[.slice none 0 0] 28)) (.int .i64 a2) 3;simpa only [World.size_alloc] using h)).mono ?_;rintro e w2 ⟨rfl,hb2⟩;clear HV;have n0_:=am (jc (g:=w.heap.size) (o:=.cells #[.slice A0_0 l0_0.length c0_0] 25 (0,0)) (Y40) hb2);have n1_:=am (jc (g:=w.heap.size+1) (o:=.cells #[.slice A1_0 l1_0.length c1_0] 28 (0,0)) (Y41) hb2);have n2_:=am (jc (g:=w.heap.size+2) (o:=.cells #[.slice none 0 0] 28 (0,0)) (Y42) hb2);have n4_:=am (je (Y43) hb2);clear BT BH BR HB;have BT:=n0_;have BH:=n1_;have BR:=n2_;have HB:=n4_;clear n0_ n1_ n2_ n4_ hb2;have cT:=sc0 BT.out;have cH:=sc0 BH.out;have cR:=sc0 BR.out;have fR:=jb BR.out 0) |(go_at_call 35;refine (jjb.calls A1_0 c1_0 l1_0 a3 _ _ (Kd.jU HR1.out HB.out) hc1_0 EH.out).mono ?_;rintro e w2 ⟨rfl,hb2⟩;clear EH;try clear cT cH cR fR;have n0_:=am (jc (g:=w.heap.size) (o:=.cells #[.slice A0_0 l0_0.length c0_0] 25 (0,0)) (Y40) hb2);have n1_:=am (jc (g:=w.heap.size+1) (o:=.cells #[.slice A1_0 l1_0.length c1_0] 28 (0,0)) (Y41) hb2);have n2_:=am (jc (g:=w.heap.size+2) (o:=.cells #[.slice none 0 0] 28 (0,0)) (Y42) hb2);have n4_:=am (je (Y43) hb2);clear BT BH BR HB;have BT:=n0_;have BH:=n1_;have BR:=n2_;have HB:=n4_;clear n0_ n1_ n2_ n4_ hb2;have cT:=sc0 BT.out;have cH:=sc0 BH.out;have cR:=sc0 BR.out;have fR:=jb BR.out 0))
    refine bodyPost_ret (jjc rfl _ _ (w.heap.size+2) 28 #[.slice none 0 0] (0,0) _ rfl (Y137) Tryd.underlying28 rfl (by kernel_rfl)) rfl ?_
    exact ⟨.slice none 0 0,rfl,Kd.R_nil _ _ _ _ _,Y138⟩
   | true =>
    have EH:=am (show jjb.f l1_0 a3=some true by rw [sc_has,e2])
    by_cases e3:a3=a2
    ·have e3b:(a3 == a2)=true:=by simpa using e3
     rw [if_pos ⟨e1, .inr e3⟩] at h
     clear e1 e2 e3
     simp only [Option.some.injEq,Prod.mk.injEq] at h
     obtain ⟨rfl,rfl⟩:=h
     clear HCP
     go_enter Tryd.func13,Tryd.ntmps13
     go_wp2_with (first |(go_at_call 28;refine (HV.out _ (HB.out.alloc (jM HB.out) (.cells #[.int .i64 a2] 3)) (w.heap.size+1+1+1) (by have h:=sc_new (((w.alloc (.cells #[.slice A0_0 l0_0.length c0_0] 25)).alloc (.cells #[.slice A1_0 l1_0.length c1_0] 28)).alloc (.cells #[.slice none 0 0] 28)) (.int .i64 a2) 3;simpa only [World.size_alloc] using h)).mono ?_;rintro e w2 ⟨rfl,hb2⟩;clear HV;have n0_:=am (jc (g:=w.heap.size) (o:=.cells #[.slice A0_0 l0_0.length c0_0] 25 (0,0)) (Y40) hb2);have n1_:=am (jc (g:=w.heap.size+1) (o:=.cells #[.slice A1_0 l1_0.length c1_0] 28 (0,0)) (Y41) hb2);have n2_:=am (jc (g:=w.heap.size+2) (o:=.cells #[.slice none 0 0] 28 (0,0)) (Y42) hb2);have n4_:=am (je (Y43) hb2);clear BT BH BR HB;have BT:=n0_;have BH:=n1_;have BR:=n2_;have HB:=n4_;clear n0_ n1_ n2_ n4_ hb2;have cT:=sc0 BT.out;have cH:=sc0 BH.out;have cR:=sc0 BR.out;have fR:=jb BR.out 0) |(go_at_call 35;refine (jjb.calls A1_0 c1_0 l1_0 a3 _ _ (Kd.jU HR1.out HB.out) hc1_0 EH.out).mono ?_;rintro e w2 ⟨rfl,hb2⟩;clear EH;try clear cT cH cR fR;have n0_:=am (jc (g:=w.heap.size) (o:=.cells #[.slice A0_0 l0_0.length c0_0] 25 (0,0)) (Y40) hb2);have n1_:=am (jc (g:=w.heap.size+1) (o:=.cells #[.slice A1_0 l1_0.length c1_0] 28 (0,0)) (Y41) hb2);have n2_:=am (jc (g:=w.heap.size+2) (o:=.cells #[.slice none 0 0] 28 (0,0)) (Y42) hb2);have n4_:=am (je (Y43) hb2);clear BT BH BR HB;have BT:=n0_;have BH:=n1_;have BR:=n2_;have HB:=n4_;clear n0_ n1_ n2_ n4_ hb2;have cT:=sc0 BT.out;have cH:=sc0 BH.out;have cR:=sc0 BR.out;have fR:=jb BR.out 0))
     refine bodyPost_ret (jjc rfl _ _ (w.heap.size+2) 28 #[.slice none 0 0] (0,0) _ rfl (Y137) Tryd.underlying28 rfl (by kernel_rfl)) rfl ?_
     exact ⟨.slice none 0 0,rfl,Kd.R_nil _ _ _ _ _,Y138⟩
    ·have e3b:(a3 == a2)=false:=by simpa using e3
     rw [if_neg (by rintro ⟨_,h1 | h1⟩ <;> first | exact e3 h1 |(rw [e2] at h1;cases h1))] at h
     clear e1 e2 e3
     by_cases hl:l1_0.length<1099511627776
     case neg=>rw [if_neg hl] at h;cases h
     rw [if_pos hl] at h
     replace HCP:=am (HCP.out hl)
     by_cases g0:0≤a2
     case neg=>rw [if_neg g0] at h;cases h
     rw [if_pos g0] at h
     by_cases g1:a2<(l1_0.length:Int)
     case neg=>rw [if_neg g1] at h;cases h
     rw [if_pos g1] at h
     simp only [Option.some.injEq,Prod.mk.injEq] at h
     obtain ⟨e1,rfl⟩:=h
     have HE:=am e1
     clear e1
     have G0:=am g0
     have G1:=am g1
     have p0:=ezT g0
     have p1:=ezT g1
     clear g0 g1 hl
     go_enter Tryd.func13,Tryd.ntmps13
     go_wp2_with (first |(go_at_call 28;refine (HV.out _ (HB.out.alloc (jM HB.out) (.cells #[.int .i64 a2] 3)) (w.heap.size+1+1+1) (by have h:=sc_new (((w.alloc (.cells #[.slice A0_0 l0_0.length c0_0] 25)).alloc (.cells #[.slice A1_0 l1_0.length c1_0] 28)).alloc (.cells #[.slice none 0 0] 28)) (.int .i64 a2) 3;simpa only [World.size_alloc] using h)).mono ?_;rintro e w2 ⟨rfl,hb2⟩;clear HV;have n0_:=am (jc (g:=w.heap.size) (o:=.cells #[.slice A0_0 l0_0.length c0_0] 25 (0,0)) (Y40) hb2);have n1_:=am (jc (g:=w.heap.size+1) (o:=.cells #[.slice A1_0 l1_0.length c1_0] 28 (0,0)) (Y41) hb2);have n2_:=am (jc (g:=w.heap.size+2) (o:=.cells #[.slice none 0 0] 28 (0,0)) (Y42) hb2);have n4_:=am (je (Y43) hb2);clear BT BH BR HB;have BT:=n0_;have BH:=n1_;have BR:=n2_;have HB:=n4_;clear n0_ n1_ n2_ n4_ hb2;have cT:=sc0 BT.out;have cH:=sc0 BH.out;have cR:=sc0 BR.out;have fR:=jb BR.out 0) |(go_at_call 35;refine (jjb.calls A1_0 c1_0 l1_0 a3 _ _ (Kd.jU HR1.out HB.out) hc1_0 EH.out).mono ?_;rintro e w2 ⟨rfl,hb2⟩;clear EH;try clear cT cH cR fR;have n0_:=am (jc (g:=w.heap.size) (o:=.cells #[.slice A0_0 l0_0.length c0_0] 25 (0,0)) (Y40) hb2);have n1_:=am (jc (g:=w.heap.size+1) (o:=.cells #[.slice A1_0 l1_0.length c1_0] 28 (0,0)) (Y41) hb2);have n2_:=am (jc (g:=w.heap.size+2) (o:=.cells #[.slice none 0 0] 28 (0,0)) (Y42) hb2);have n4_:=am (je (Y43) hb2);clear BT BH BR HB;have BT:=n0_;have BH:=n1_;have BR:=n2_;have HB:=n4_;clear n0_ n1_ n2_ n4_ hb2;have cT:=sc0 BT.out;have cH:=sc0 BH.out;have cR:=sc0 BR.out;have fR:=jb BR.out 0) |(go_at_call 34;refine (HCP.out _ HB.out).mono ?_;rintro e w2 ⟨v8,rfl,ho,hb2⟩;obtain ⟨g5,cp5,rfl,gb5,gl5,cl5,hg5⟩:=Kd.R_form ho (by have:=G0.out;have:=G1.out;omega);have HO:=am (Kd.jia ho (jM HB.out));have hg5n:w.heap.size+2<g5:=Nat.lt_of_lt_of_le (jda BR.out) gb5;clear HCP ho hg5 gb5;try clear cT cH cR fR;have n0_:=am (jc (g:=w.heap.size) (o:=.cells #[.slice A0_0 l0_0.length c0_0] 25 (0,0)) (Y40) hb2);have n1_:=am (jc (g:=w.heap.size+1) (o:=.cells #[.slice A1_0 l1_0.length c1_0] 28 (0,0)) (Y41) hb2);have n2_:=am (jc (g:=w.heap.size+2) (o:=.cells #[.slice none 0 0] 28 (0,0)) (Y42) hb2);have n4_:=am (je (Y43) hb2);clear BT BH BR HB;have BT:=n0_;have BH:=n1_;have BR:=n2_;have HB:=n4_;clear n0_ n1_ n2_ n4_ hb2;have cT:=sc0 BT.out;have cH:=sc0 BH.out;have cR:=sc0 BR.out;have fR:=jb BR.out 0))
     refine wp_region_held (S:=(fun W':World=>W'.cell? ⟨w2.heap.size,0,none⟩=some (.slice (some ⟨g5,0,none⟩) l1_0.length cp5))) hmx ?_
     change wpAnyH _ _ _ _ _ _ _ _ (World.drew (w2.alloc (.cells #[.slice (some ⟨g5,0,none⟩) l1_0.length cp5] 28)))
     have hBX:=jf (heap_alloc_new w2 (.cells #[.slice (some ⟨g5,0,none⟩) l1_0.length cp5] 28))
     have hS0:(fun W':World=>W'.cell? ⟨w2.heap.size,0,none⟩=some (.slice (some ⟨g5,0,none⟩) l1_0.length cp5)) (World.drew (w2.alloc (.cells #[.slice (some ⟨g5,0,none⟩) l1_0.length cp5] 28))):=sc0 hBX
     have R0:=Kd.jV (Kd.jX HO.out (.cells #[.slice (some ⟨g5,0,none⟩) l1_0.length cp5] 28))
     refine wpAnyH_take (i:=0) (v:=?_) rfl (by kernel_rfl) (by kernel_rfl) (by kernel_rfl) (fun _ _ _ h=>h) (Or.inl ⟨by rfl,?_⟩) hS0 ?_
     rotate_left
     ·rintro W' s1
      go_simp
      with_reducible rfl
     refine wpAnyH_take (i:=1) (v:=?_) rfl (by kernel_rfl) (by kernel_rfl) (by kernel_rfl) (fun _ _ _ h=>h) (Or.inl ⟨by rfl,?_⟩) hS0 ?_
     rotate_left
     ·rintro W' s1
      go_simp
      with_reducible rfl
     refine wpAnyH_take (i:=2) (v:=?_) rfl (by kernel_rfl) (by kernel_rfl) (by kernel_rfl) (fun _ _ _ h=>h) (Or.inl ⟨by rfl,?_⟩) hS0 ?_
     rotate_left
     ·rintro W' s1
      go_simp
      with_reducible rfl
     refine wpAnyH_take (i:=3) (v:=?_) rfl (by kernel_rfl) (by kernel_rfl) (by kernel_rfl) (fun _ _ _ h=>h) (Or.inl ⟨by rfl,?_⟩) hS0 ?_
     rotate_left
     ·rintro W' s1
      go_simp
      with_reducible rfl
     refine wpAnyH_take (i:=4) (v:=?_) rfl (by kernel_rfl) (by kernel_rfl) (by kernel_rfl) (fun _ _ _ h=>h) (Or.inl ⟨by rfl,?_⟩) hS0 ?_
     rotate_left
     ·rintro W' s1
      go_simp
      with_reducible rfl
     refine wpAnyH_take (i:=5) (v:=?_) rfl (by kernel_rfl) (by kernel_rfl) (by kernel_rfl) (fun _ _ _ h=>h) (Or.inl ⟨by rfl,?_⟩) hS0 ?_
     rotate_left
     ·rintro W' s1
      go_simp
      with_reducible rfl
     refine wpAnyH_take (i:=6) (v:=?_) rfl (by kernel_rfl) (by kernel_rfl) (by kernel_rfl) (fun _ _ _ h=>h) (Or.inl ⟨by rfl,?_⟩) hS0 ?_
     rotate_left
     ·rintro W' s1
      go_simp
      with_reducible rfl
     refine wpAnyH_take (i:=7) (v:=?_) rfl (by kernel_rfl) (by kernel_rfl) (by kernel_rfl) (fun _ _ _ h=>h) (Or.inl ⟨by rfl,?_⟩) hS0 ?_
     rotate_left
     ·rintro W' s1
      go_simp
      with_reducible rfl
     refine wpAnyH_take (i:=8) (v:=?_) rfl (by kernel_rfl) (by kernel_rfl) (by kernel_rfl) (fun _ _ _ h=>h) (Or.inl ⟨by rfl,?_⟩) hS0 ?_
     rotate_left
     ·rintro W' s1
      go_simp
      with_reducible rfl
     refine wpAnyH_all (rs:=[9]) (by kernel_rfl) (by simp) ?_
     intro ii hii
     obtain rfl:ii=9:=by simpa using hii
     clear hii
     obtain ⟨R1,G1g,c1,f1⟩:=sc_st2 HO.out G0.out G1.out a3
     refine wpOp_step rfl (fun K hK=>?_)
     go_simp
     have hS1:(fun W':World=>W'.cell? ⟨w2.heap.size,0,none⟩=some (.slice (some ⟨g5,0,none⟩) l1_0.length cp5)) (World.drew ((w2.setCell ⟨g5,a2.toNat * 5+2,none⟩ (.int .i64 a3)).alloc (.cells #[.slice (some ⟨g5,0,none⟩) l1_0.length cp5] 28))):=sc0 (jf (show ((w2.setCell ⟨g5,a2.toNat * 5+2,none⟩ (.int .i64 a3)).alloc (.cells #[.slice (some ⟨g5,0,none⟩) l1_0.length cp5] 28)).heap[w2.heap.size]?=some (.cells #[.slice (some ⟨g5,0,none⟩) l1_0.length cp5] 28 (0,0)) by have h:=heap_alloc_new (w2.setCell ⟨g5,a2.toNat * 5+2,none⟩ (.int .i64 a3)) (.cells #[.slice (some ⟨g5,0,none⟩) l1_0.length cp5] 28);simpa only [World.size_setCell] using h))
     refine hK _ _ ⟨hS1,?_⟩
     clear hK K
     refine wpAnyH_take (i:=10) (v:=?_) rfl (by kernel_rfl) (by kernel_rfl) (by kernel_rfl) (fun _ _ _ h=>h) (Or.inl ⟨by rfl,?_⟩) hS1 ?_
     rotate_left
     ·rintro W' s1
      go_simp
      with_reducible rfl
     refine wpAnyH_take (i:=11) (v:=?_) rfl (by kernel_rfl) (by kernel_rfl) (by kernel_rfl) (fun _ _ _ h=>h) (Or.inl ⟨by rfl,?_⟩) hS1 ?_
     rotate_left
     ·rintro W' s1
      go_simp
      with_reducible rfl
     refine wpAnyH_all (rs:=[12]) (by kernel_rfl) (by simp) ?_
     intro ii hii
     obtain rfl:ii=12:=by simpa using hii
     clear hii
     obtain ⟨R2,G2g,c2,f2⟩:=sc_st4 R1 G0.out G1.out true
     refine wpOp_step rfl (fun K hK=>?_)
     go_simp
     have hS2:(fun W':World=>W'.cell? ⟨w2.heap.size,0,none⟩=some (.slice (some ⟨g5,0,none⟩) l1_0.length cp5)) (World.drew (((w2.setCell ⟨g5,a2.toNat * 5+2,none⟩ (.int .i64 a3)).setCell ⟨g5,a2.toNat * 5+4,none⟩ (.bool true)).alloc (.cells #[.slice (some ⟨g5,0,none⟩) l1_0.length cp5] 28))):=sc0 (jf (show (((w2.setCell ⟨g5,a2.toNat * 5+2,none⟩ (.int .i64 a3)).setCell ⟨g5,a2.toNat * 5+4,none⟩ (.bool true)).alloc (.cells #[.slice (some ⟨g5,0,none⟩) l1_0.length cp5] 28)).heap[w2.heap.size]?=some (.cells #[.slice (some ⟨g5,0,none⟩) l1_0.length cp5] 28 (0,0)) by have h:=heap_alloc_new ((w2.setCell ⟨g5,a2.toNat * 5+2,none⟩ (.int .i64 a3)).setCell ⟨g5,a2.toNat * 5+4,none⟩ (.bool true)) (.cells #[.slice (some ⟨g5,0,none⟩) l1_0.length cp5] 28);simpa only [World.size_setCell] using h))
     refine hK _ _ ⟨hS2,?_⟩
     clear hK K
     refine wpAnyH_done (by kernel_rfl) ?_ _
     rename_i K9 hK9
     refine hK9 _ _ ?_
     clear hK9
     go_simp
     change Code.wp _ _ _ _ (World.drew (((w2.setCell ⟨g5,a2.toNat * 5+2,none⟩ (.int .i64 a3)).setCell ⟨g5,a2.toNat * 5+4,none⟩ (.bool true)).alloc (.cells #[.slice (some ⟨g5,0,none⟩) l1_0.length cp5] 28)))
     have BR7:=jf (jh (jT (p:=⟨g5,a2.toNat * 5+4,none⟩) (jT (p:=⟨g5,a2.toNat * 5+2,none⟩) BR.out (by simp;omega) (.int .i64 a3)) (by simp;omega) (.bool true)) (.cells #[.slice (some ⟨g5,0,none⟩) l1_0.length cp5] 28))
     have BX7:=jf (show (((w2.setCell ⟨g5,a2.toNat * 5+2,none⟩ (.int .i64 a3)).setCell ⟨g5,a2.toNat * 5+4,none⟩ (.bool true)).alloc (.cells #[.slice (some ⟨g5,0,none⟩) l1_0.length cp5] 28)).heap[w2.heap.size]?=some (.cells #[.slice (some ⟨g5,0,none⟩) l1_0.length cp5] 28 (0,0)) by have h:=heap_alloc_new ((w2.setCell ⟨g5,a2.toNat * 5+2,none⟩ (.int .i64 a3)).setCell ⟨g5,a2.toNat * 5+4,none⟩ (.bool true)) (.cells #[.slice (some ⟨g5,0,none⟩) l1_0.length cp5] 28);simpa only [World.size_setCell] using h)
     have HB7:Below w.heap.size w (World.drew (((w2.setCell ⟨g5,a2.toNat * 5+2,none⟩ (.int .i64 a3)).setCell ⟨g5,a2.toNat * 5+4,none⟩ (.bool true)).alloc (.cells #[.slice (some ⟨g5,0,none⟩) l1_0.length cp5] 28))):=jnb (jv (jl (jl HB.out (by first | omega |(simp;omega))) (by first | omega |(simp;omega))) _)
     rw [sc_set24 G0.out G1.out] at R2
     have R3:=Kd.jV (Kd.jX R2 (.cells #[.slice (some ⟨g5,0,none⟩) l1_0.length cp5] 28))
     clear R2
     have R2:=R3
     clear R3
     obtain ⟨W7,hW7⟩:∃ W7,(World.drew (((w2.setCell ⟨g5,a2.toNat * 5+2,none⟩ (.int .i64 a3)).setCell ⟨g5,a2.toNat * 5+4,none⟩ (.bool true)).alloc (.cells #[.slice (some ⟨g5,0,none⟩) l1_0.length cp5] 28)))=W7:=⟨_,rfl⟩
     rw [hW7] at BR7 BX7 HB7 R2 ⊢
     clear hW7 hS0 hS1 hS2 R0 R1 c1 f1 c2 f2 hBX cT cH cR fR
     have cR:=sc0 BR7
     have fR:=jb BR7 0
     have cX:=sc0 BX7
     go_wp2
     refine bodyPost_ret (jjc rfl _ _ (w.heap.size+2) 28 #[.slice (some ⟨g5,0,none⟩) l1_0.length cp5] (0,0) _ rfl (by refine jya (cs:=#[.slice none 0 0]) BR7 0 _ rfl) Tryd.underlying28 rfl (by kernel_rfl)) rfl ?_
     exact ⟨_,rfl,by rw [← HE.out];exact Kd.jI (Kd.jwa (Kd.jP R2 BR7 (by decide)) (fun k hk=>hk.2) _) (fun _ _=>trivial),jl HB7 (by first | omega | simp)⟩
def jXa.f (k : Nat) (l0 : List Int) : Option ((List (S99)) × (List (S66)) × Int) := (jsb.f l0).bind fun bt470 => ((jEa.f k bt470.1 bt470.2).bind fun bt473 => (some (bt473.1, bt473.2.1, bt473.2.2.1)))
set_option maxHeartbeats 8000000 in
set_option maxRecDepth 100000 in
theorem jXa.calls (k : Nat) (A0 : Option Addr) (c0 : Nat) (l0 : List Int) (r1 : List (S99)) (r2 : List (S66)) (r3 : Int) (w : World) (hr0 : Kd.C (Kd.int .u8) w A0 l0.length l0) (hc0 : l0.length ≤ c0) (h : jXa.f k l0 = some (r1, r2, r3)) :
  Calls Tryd.prog 14 #[.slice A0 l0.length c0] w fun e w'=>∃ v0_ v1_:Value,e=.returned (.tuple #[.agg #[v0_], .agg #[v1_], .int .i64 r3])∧Kd.R k99 99 w' w.heap.size (fun _=>True) v0_ r1∧Kd.R k66 66 w' w.heap.size (fun _=>True) v1_ r2∧Below w.heap.size w w':=by
 have hu25:=Tryd.underlying25
 have hu28:=Tryd.underlying28
 have HR0:=am hr0
 have HC0:=am hc0
 clear hr0 hc0
 have HB:=am (Below.refl w.heap.size w)
 have H:((jsb.f l0).bind fun bt470=>((jEa.f k bt470.1 bt470.2).bind fun bt473=>(some (bt473.1,bt473.2.1,bt473.2.2.1))))=some (r1,r2,r3):=h
 clear h
 replace H:=bzS H
 obtain ⟨⟨t470,t471⟩,A20,H⟩:=H
 replace H:((jEa.f k t470 t471).bind fun bt473=>(some (bt473.1,bt473.2.1,bt473.2.2.1)))=some (r1,r2,r3):=H
 have A2:=am A20
 clear A20
 replace H:=bzS H
 obtain ⟨⟨t473,t476,t479,t480⟩,A30,H⟩:=H
 replace H:(some (t473,t476,t479))=some (r1,r2,r3):=H
 have A3:=am A30
 clear A30
 simp only [Option.some.injEq,Prod.mk.injEq] at H
 obtain ⟨rfl,rfl,rfl⟩:=H
 go_enter Tryd.func14,Tryd.ntmps14
 go_wp2_with (first |((with_reducible refine jD (N:=2) rfl ?_);refine bE (N:=2) (cs:=#[.slice none 0 0]) (t:=25) ?_;intro gb468 hg w4 hbox hb;have BK468:=am (hbox);have GW468:=am ((Y0:w.heap.size≤gb468));have GE468:=am ((Y0:w.heap.size≤gb468));replace HB:=am (je (bq) hb);clear hb hbox hg) |((with_reducible refine jD (N:=3) rfl ?_);refine bE (N:=3) (cs:=#[.slice none 0 0]) (t:=28) ?_;intro gb469 hg w5 hbox hb;have BK469:=am (hbox);have GW469:=am ((Y176:w.heap.size≤gb469));have GE469:=am ((Y176:w.heap.size≤gb469));have NB468_469:=am ((by rw [hg];exact Nat.ne_of_lt (jda (g:=gb468) (o:=.cells #[.slice none 0 0] 25 (0,0)) (kq BK468.out)):gb468≠gb469));have NB469_468:=am ((by rw [hg];exact Nat.ne_of_gt (jda (g:=gb468) (o:=.cells #[.slice none 0 0] 25 (0,0)) (kq BK468.out)):gb469≠gb468));replace BK468:=am (jc (g:=gb468) (o:=.cells #[.slice none 0 0] 25 (0,0)) (kq BK468.out) hb);replace HB:=am (je (by repeat (first |(with_reducible first | exact HB.out | apply jv | apply jo | apply jq | refine jl ?_ GE468.out) | exact HB.out)) hb);clear hb hbox hg) |((with_reducible refine jw (f:=27) rfl ?_);refine gL (some 6) Tryd.func27 #[.slice A0 l0.length c0] ?_;(with_reducible refine (jsb.calls _ _ l0 t470 t471 w _ ?side1 ?side2 ?side3 A2.out).mono ?_);(case side1=>repeat (first |(with_reducible first | exact HB.out | apply jv | apply jo | apply jq | refine jl ?_ GE468.out | refine jl ?_ GE469.out) | exact HB.out));(case side2=>exact HR0.out);(case side3=>exact HC0.out);rintro e w6 ⟨g472,rfl,hi,hb,hb2⟩;refine ⟨_,rfl,?_⟩;have HI472:=am (hi);have NB472_468:=am (jk.ne_blk hi (jc (g:=gb468) (o:=.cells #[.slice none 0 0] 25 (0,0)) (kq BK468.out) hb2) (by decide));have NB468_472:=am (Ne.symm (jk.ne_blk hi (jc (g:=gb468) (o:=.cells #[.slice none 0 0] 25 (0,0)) (kq BK468.out) hb2) (by decide)));have NB472_469:=am (jk.ne_blk hi (jc (g:=gb469) (o:=.cells #[.slice none 0 0] 28 (0,0)) (kq BK469.out) hb2) (by decide));have NB469_472:=am (Ne.symm (jk.ne_blk hi (jc (g:=gb469) (o:=.cells #[.slice none 0 0] 28 (0,0)) (kq BK469.out) hb2) (by decide)));replace BK468:=am (jc (g:=gb468) (o:=.cells #[.slice none 0 0] 25 (0,0)) (kq BK468.out) hb2);replace BK469:=am (jc (g:=gb469) (o:=.cells #[.slice none 0 0] 28 (0,0)) (kq BK469.out) hb2);replace HB:=am (hb);(try clear hb);(try clear hb2);(try clear hk);(try clear hi)) |((with_reducible refine jw (f:=26) rfl ?_);refine gL (some 7) Tryd.func26 #[.pointer (some ⟨g472,0,none⟩)] ?_;(with_reducible refine (jEa.calls k g472 t470 t471 t473 t476 t479 t480 w _ ?side1 ?side2 A3.out).mono ?_);(case side1=>repeat (first |(with_reducible first | exact HI472.out | apply jk.alloc | apply jk.drewN | apply jk.drew | apply jk.jmb | refine jk.far ?_ NB472_468.out _ | refine jk.far ?_ NB472_469.out _) | exact HI472.out));(case side2=>exact Y113);rintro e w7 ⟨v474,v477,rfl,ho0,ho1,hi,hb,hk⟩;refine ⟨_,rfl,?_⟩;have HO475:=am (Kd.jia ho0 (jM (Y113)));have HO478:=am (Kd.jia ho1 (jM (Y113)));replace BK468:=am (jd.blk hk (g':=gb468) (o:=.cells #[.slice none 0 0] 25 (0,0)) (kq BK468.out) NB468_472.out (by simp));replace BK469:=am (jd.blk hk (g':=gb469) (o:=.cells #[.slice none 0 0] 28 (0,0)) (kq BK469.out) NB469_472.out (by simp));replace HB:=am (hb);replace HI472:=am (hi);(try clear hb);(try clear hb2);(try clear hk);(try clear hi);(try clear ho0);(try clear ho1);obtain ⟨Ao8,co8,eo8⟩:=Kd.jZ HO475.out;subst eo8;have hnb9:=NB468_469.out;have hnc9:=NB469_468.out;have hnb10:=NB468_472.out;have hnc10:=NB472_468.out;have hcz11_0:=bc0 BK468.out;have hfz11_0:=jb BK468.out 0;obtain ⟨Ao12,co12,eo12⟩:=Kd.jZ HO478.out;subst eo12;have hnb13:=NB469_472.out;have hnc13:=NB472_469.out;have hcz14_0:=bc0 BK469.out;have hfz14_0:=jb BK469.out 0))
 refine bodyPost_ret (results_list (rs:=[.cell 2 25, .cell 3 28, .tmp 4]) rfl (by simp) (.cell gb468 25 #[.slice Ao8 t473.length co8] (0,0) _ rfl (by (with_reducible repeat (first | refine jg ?_ _ | refine jf ?_ | refine jh ?_ _));refine jT ?_ NB468_469.out _;(with_reducible repeat (first | refine jg ?_ _ | refine jf ?_ | refine jh ?_ _));refine jya (cs:=#[.slice none 0 0]) ?_ 0 _ rfl;(with_reducible repeat (first | refine jg ?_ _ | refine jf ?_ | refine jh ?_ _));exact BK468.out) Tryd.underlying25 rfl (by kernel_rfl) (.cell gb469 28 #[.slice Ao12 t476.length co12] (0,0) _ rfl (by (with_reducible repeat (first | refine jg ?_ _ | refine jf ?_ | refine jh ?_ _));refine jya (cs:=#[.slice none 0 0]) ?_ 0 _ rfl;(with_reducible repeat (first | refine jg ?_ _ | refine jf ?_ | refine jh ?_ _));refine jT ?_ NB469_468.out _;(with_reducible repeat (first | refine jg ?_ _ | refine jf ?_ | refine jh ?_ _));exact BK469.out) Tryd.underlying28 rfl (by kernel_rfl) (.tmp .nil)))) rfl ?_
 exact ⟨_,_,Y1,by (with_reducible repeat (first | apply Kd.jX | apply Kd.jba | apply Kd.jV));exact Kd.jI (Kd.jwa (p:=⟨gb469,0,none⟩) (Kd.jwa (p:=⟨gb468,0,none⟩) (Kd.jP (Kd.jP HO475.out BK468.out (by decide)) BK469.out (by decide)) (fun _ hk=>hk.1.2) (.slice Ao8 t473.length co8)) (fun _ hk=>hk.2) (.slice Ao12 t476.length co12)) (fun _ hk=>trivial),by (with_reducible repeat (first | apply Kd.jX | apply Kd.jba | apply Kd.jV));exact Kd.jI (Kd.jwa (p:=⟨gb469,0,none⟩) (Kd.jwa (p:=⟨gb468,0,none⟩) (Kd.jP (Kd.jP HO478.out BK468.out (by decide)) BK469.out (by decide)) (fun _ hk=>hk.1.2) (.slice Ao8 t473.length co8)) (fun _ hk=>hk.2) (.slice Ao12 t476.length co12)) (fun _ hk=>trivial),Y113⟩
def jSa.f : Nat → Int → Option (ByteArray)
 | 0,_=>none
 | k+1,a0=>if a0<10 then (if 0≤a0 then (if a0≤(wrap64 (a0+1)) then (if (wrap64 (a0+1))≤10 then (some ((⟨#[48,49,50,51,52,53,54,55,56,57]⟩:ByteArray).extract (a0:Int).toNat ((wrap64 (a0+1)):Int).toNat)) else (none)) else (none)) else (none)) else ((jSa.f k (wrap64 (Int.tdiv a0 10))).bind fun t481=>((jSa.f k (Int.tmod a0 10)).bind fun t482=>(if t481.size+t482.size≤9223372036854775807 then (some (t481 ++ t482)) else (none))))
set_option maxHeartbeats 8000000 in
set_option maxRecDepth 100000 in
theorem jSa.calls (k : Nat) : ∀ (a0 : Int) (r : ByteArray) (w : World) (h : jSa.f k a0 = some r),
  Calls Tryd.prog 87 #[.int .i64 a0] w fun e w'=>e=.returned (.string r)∧jvb w w':=by
 induction k using Nat.strongRecOn with
 | _ k ih =>
 intro a0 r w h
 cases k with
 | zero=>exact absurd h (by simp [jSa.f])
 | succ k =>
 simp only [jSa.f] at h
 have H:(if a0<10 then (if 0≤a0 then (if a0≤(wrap64 (a0+1)) then (if (wrap64 (a0+1))≤10 then (some ((⟨#[48,49,50,51,52,53,54,55,56,57]⟩:ByteArray).extract (a0:Int).toNat ((wrap64 (a0+1)):Int).toNat)) else (none)) else (none)) else (none)) else ((jSa.f k (wrap64 (Int.tdiv a0 10))).bind fun t481=>((jSa.f k (Int.tmod a0 10)).bind fun t482=>(if t481.size+t482.size≤9223372036854775807 then (some (t481 ++ t482)) else (none)))))=some r:=h
 clear h
 by_cases c2:a0<10
 ·rw [if_pos c2] at H
  have c2b0:decide (a0<10)=true:=dzT c2
  clear c2
  by_cases c3:0≤a0
  ·rw [if_pos c3] at H
   have c3b0:=ezT c3
   have c3b1:decide (0≤a0)=true:=dzT c3
   clear c3
   by_cases c4:a0≤(wrap64 (a0+1))
   ·rw [if_pos c4] at H
    have c4b0:=ezT c4
    have c4b1:decide (a0≤(wrap64 (a0+1)))=true:=dzT c4
    by_cases c5:(wrap64 (a0+1))≤10
    ·rw [if_pos c5] at H
     have c5b0:=ezT c5
     have c5b1:decide ((wrap64 (a0+1))≤10)=true:=dzT c5
     obtain rfl:=Option.some.inj H
     go_enter Tryd.func87,Tryd.ntmps87
     go_wp2
     go_ret
     exact ⟨sq,Y7⟩
    ·rw [if_neg c5] at H
     exact absurd H (by simp)
   ·rw [if_neg c4] at H
    exact absurd H (by simp)
  ·rw [if_neg c3] at H
   exact absurd H (by simp)
 ·rw [if_neg c2] at H
  have c2b0:decide (a0<10)=false:=dzF c2
  clear c2
  replace H:=bzS H
  obtain ⟨t481,A60,H⟩:=H
  replace H:((jSa.f k (Int.tmod a0 10)).bind fun t482=>(if t481.size+t482.size≤9223372036854775807 then (some (t481 ++ t482)) else (none)))=some r:=H
  have A6:=am A60
  clear A60
  replace H:=bzS H
  obtain ⟨t482,A70,H⟩:=H
  replace H:(if t481.size+t482.size≤9223372036854775807 then (some (t481 ++ t482)) else (none))=some r:=H
  have A7:=am A70
  clear A70
  by_cases c8:t481.size+t482.size≤9223372036854775807
  ·rw [if_pos c8] at H
   have c8b0:=ezT c8
   have c8b1:decide (t481.size+t482.size≤9223372036854775807)=true:=dzT c8
   try have c8b2:(9223372036854775807<t481.size+t482.size)=False:=eq_false (Nat.not_lt.2 c8)
   obtain rfl:=Option.some.inj H
   go_enter Tryd.func87,Tryd.ntmps87
   go_wp2_with (first |((with_reducible refine jw (f:=87) rfl ?_);refine gL (some 11) Tryd.func87 #[.int .i64 (wrap64 (Int.tdiv a0 10))] ?_;(with_reducible refine (ih k (by omega) (wrap64 (Int.tdiv a0 10)) t481 _ A6.out).mono ?_);rintro e w' ⟨rfl,⟨nd,rfl⟩⟩;refine ⟨_,rfl,?_⟩) |((with_reducible refine jw (f:=87) rfl ?_);refine gL (some 14) Tryd.func87 #[.int .i64 (Int.tmod a0 10)] ?_;(with_reducible refine (ih k (by omega) (Int.tmod a0 10) t482 _ A7.out).mono ?_);rintro e w' ⟨rfl,⟨nd,rfl⟩⟩;refine ⟨_,rfl,?_⟩))
   go_ret
   exact ⟨sq,Y7⟩
  ·rw [if_neg c8] at H
   exact absurd H (by simp)
def jR.f (a0 : Int) (a1 : Int) (a2 : Int) : Option (Bool) := if a1 ≤ a0 then (some (decide (a0 ≤ a2))) else (some false)
set_option maxHeartbeats 8000000 in
set_option maxRecDepth 100000 in
theorem jR.calls (a0 : Int) (a1 : Int) (a2 : Int) (r : Bool) (w : World) (h : jR.f a0 a1 a2 = some r) :
  Calls Tryd.prog 79 #[.int .i64 a0, .int .i64 a1, .int .i64 a2] w fun e w'=>e=.returned (.bool r)∧jvb w w':=by
 have H:(if a1≤a0 then (some (decide (a0≤a2))) else (some false))=some r:=h
 clear h
 by_cases c4:a1≤a0
 ·rw [if_pos c4] at H
  have c4b0:decide (a1≤a0)=true:=dzT c4
  clear c4
  obtain rfl:=Option.some.inj H
  go_enter Tryd.func79,Tryd.ntmps79
  go_wp2
  go_ret
  exact ⟨sq,Y7⟩
 ·rw [if_neg c4] at H
  have c4b0:decide (a1≤a0)=false:=dzF c4
  clear c4
  obtain rfl:=Option.some.inj H
  go_enter Tryd.func79,Tryd.ntmps79
  go_wp2
  go_ret
  exact ⟨sq,Y7⟩
end Go.Proofs.YteibechlncphnaaDoor.P
end
