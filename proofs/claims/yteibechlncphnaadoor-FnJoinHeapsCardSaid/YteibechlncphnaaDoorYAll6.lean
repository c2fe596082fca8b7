/- One part of the proofs on this program: functions of the program as plain functions, that the code comes to them, and facts on them. -/
import Derived.Lib.SliceRun
import Derived.LoopIn
import Derived.LoopNIn
import Derived.OwnWalkIn
import Derived.RangeFuncBound
import Derived.RangeFuncBox
import Derived.RangeFuncCalls
import Derived.RangeFuncLeaves
import Derived.RangeFuncNested
import Derived.Shelf.Abstract
import Derived.Shelf.RegionOpen
import Derived.TacticsInMore
import Derived.WalkKit
import Derived.Test.YteibechlncphnaaDoorYAll1
import Derived.Test.YteibechlncphnaaDoorYAll2
import Derived.Test.YteibechlncphnaaDoorYAll4
import Derived.Test.YteibechlncphnaaDoorYAll5
import Derived.Test.YteibechlncphnaaDoorYWAuto
section
namespace Go.Proofs.YteibechlncphnaaDoor.P
open Go.RowKit Go.Proofs.YteibechlncphnaaDoorW.PrintWords Go.Proofs.YteibechlncphnaaDoorW.PrintLast Go.Proofs.YteibechlncphnaaDoorW.PrintMore
attribute [local go_sem] jua jsa jEa jDa jfa jea jta jra jB
set_option linter.unusedVariables false
set_option linter.unusedSimpArgs false
set_option maxHeartbeats 8000000 in
set_option maxRecDepth 100000 in
theorem impl_chainText_walk (k : Nat) (A_ : Option Addr) (n_ c_ : Nat) (nx : Int → Option Int) (a0 : Int) (r : List Int) (w : World) (h : jtb nx k a0 [] = some r)
  (hp:∀ W,Below w.heap.size w W→∀ (x y:Int),nx x=some y→Calls Tryd.prog 30 #[.agg #[.slice A_ n_ c_], .int .i64 x] W fun e w'=>e=.returned (.int .i64 y)∧Below W.heap.size W w') :
  Calls Tryd.prog 29 #[.int .i64 a0, .func (.func 30) #[.agg #[.slice A_ n_ c_]] #[]] w fun e w'=>∃ v0_:Value,e=.returned v0_∧Kd.R (Kd.int .i64) 3 w' w.heap.size (fun _=>True) v0_ r∧Below w.heap.size w w':=by
 have HP:=am hp
 have H0:=am h
 have HB:=am (Below.refl w.heap.size w)
 clear hp h
 go_enter Tryd.func29,Tryd.ntmps29
 go_wp2_with ((with_reducible refine jH (N:=6) rfl ?_);refine Kd.R_lit (Kd.int .i64) _ 3 ?hg (N:=6) ?hd (xs:=([]:List Int)) (inner:=[]) (ok:=fun _=>True) (okp:=fun _=>True) ?hr ?hp (fun _ hk=>hk) trivial (Below.refl _ _) (Nat.le_refl _) (by simp) ?_;(case hd=>rfl);(case hg=>rfl);(case hr=>exact Y4);(case hp=>exact (Reps.none _ _));intro v111 w4 ho5 hb hg_ hnew_;clear hg_ hnew_;have n0_:=am (Kd.joa ho5 (jP (bq)));have n2_:=am (jh (bq) hb);clear HB;have HO:=n0_;have HB:=n2_;clear n0_ n2_ hb ho5)
 go_loopg [0,5] k (fun kq v0 v5 w'=>∃ (x:Int) (acc:List Int),v0=.int .i64 x∧jy (jtb nx kq x acc=some r)∧jy (kq≤k)∧jy (Kd.R (Kd.int .i64) 3 w' w.heap.size (fun _=>True) v5 acc)∧jy (Below w.heap.size w w'))
 case atStart=>exact ⟨a0,[],(sq),H0,⟨Nat.le_refl _⟩,⟨rq HO.out⟩,⟨bq⟩⟩
 case round =>
  clear H0 HO HB
  obtain ⟨x,acc,rfl,HA,HK1,HO,HB⟩:=hrel
  cases gk with
  | zero=>exact absurd HA.out (by simp [jtb])
  | succ k1 =>
   have H:=HA.out
   clear HA
   simp only [jtb] at H
   obtain ⟨Ao,co,eo⟩:=Kd.jaa HO.out
   subst eo
   by_cases c6:x≥0
   ·rw [if_pos c6] at H
    have c6b0:decide (0≤x)=true:=dzT c6
    clear c6
    obtain ⟨b,A70,H⟩:=bzS H
    have A7:=am A70
    clear A70
    cases b with
    | true =>
     rw [if_pos rfl] at H
     obtain rfl:=Option.some.inj H
     clear H
     go_wp2_with (first |(go_at_call 53;(with_reducible refine (jAa.calls k1 _ _ acc x true _ ?side1 ?side2 A7.out).mono ?_);(case side1=>exact cq (Kd.jC HO.out).2.2);(case side2=>exact (Kd.jC HO.out).2.1);rintro e w' ⟨rfl,⟨nd,rfl⟩⟩) |(go_at_call 54;refine (jGa.calls (fun _=>True) _ acc acc w _ (bq) (rq HO.out) (show jGa.f acc=some acc from rfl)).mono ?_;rintro e w9 ⟨v9,rfl,hR9,hB9,hK9⟩))
     go_ret
     exact ⟨_,rfl,Kd.jI hR9 (fun _ _=>trivial),hB9⟩
    | false =>
     rw [if_neg (by simp)] at H
     by_cases c10:acc.length<17592186044416
     ·rw [if_pos c10] at H
      have LM:=am c10
      clear c10
      obtain ⟨y,hy,H⟩:=bzS H
      have HQ:=am hy
      have H':=am H
      clear H hy
      go_wp2_with (first |(go_at_call 53;(with_reducible refine (jAa.calls k1 _ _ acc x false _ ?side1 ?side2 A7.out).mono ?_);(case side1=>exact cq (Kd.jC HO.out).2.2);(case side2=>exact (Kd.jC HO.out).2.1);rintro e w' ⟨rfl,⟨nd,rfl⟩⟩) |(go_at_call 30;refine (HP.out _ (bq) _ _ HQ.out).mono ?_;rintro e w2 ⟨rfl,hb2⟩;have n1_:=am (Kd.jL (rq HO.out) hb2);have n2_:=am (jh (bq) hb2);clear HO HB;have HO:=n1_;have HB:=n2_;clear n1_ n2_ hb2) |((with_reducible refine jpb (b:=.append) (xs:=#[.tmp 18, .tmp 20]) rfl ?_);at_builtin;refine Kd.jlc (Kd.int .i64) (w0:=w) w.heap.size rfl (.tmp 18) (.tmp 20) 32 3 (.int .i64 0) 8 rfl Tryd.underlying32 info3 rfl (by decide) (by omega) (.slice Ao acc.length co) acc x [.int .i64 x] (fun _=>True) (fun _=>False) rfl rfl ?aP (fun _ hk=>hk.elim) ?aF ?aO ?aB ?aS ?aL ?_;(case aP=>exact rfl);(case aB=>exact (bq));(case aF=>exact (fun _ _=>trivial));(case aO=>exact (rq HO.out));(case aS=>exact (jP (bq)));(case aL=>have:=LM.out;omega);intro v115 w14 ho hb hg hat;have n1_:=am (hb);have n2_:=am (ho);clear HB HO;have HB:=n1_;have HO:=n2_;clear n1_ n2_ ho hb hg hat))
      go_roundg k1
      case measure=>have:=HK1.out;omega
      case rel=>exact ⟨y,acc ++ [x],(sq),H',⟨by have:=HK1.out;omega⟩,⟨rq HO.out⟩,⟨bq⟩⟩
     ·rw [if_neg c10] at H
      cases H
   ·rw [if_neg c6] at H
    have c6b0:decide (0≤x)=false:=dzF c6
    clear c6
    obtain rfl:=Option.some.inj H
    clear H
    go_wp2_with (go_at_call 54;refine (jGa.calls (fun _=>True) _ acc acc w _ (bq) (rq HO.out) (show jGa.f acc=some acc from rfl)).mono ?_;rintro e w9 ⟨v9,rfl,hR9,hB9,hK9⟩)
    go_ret
    exact ⟨_,rfl,Kd.jI hR9 (fun _ _=>trivial),hB9⟩
section
open Go.Shelf
attribute [local go_sem] Oper.semAt_some
theorem xwrC {x : Int} (h : -9223372036854775808 ≤ x ∧ x ≤ 9223372036854775807) : wrap64 x = x := by unfold wrap64; omega
def uptoC {α : Type} (f : Nat → α) (k : Nat) : List α := (List.range k).map f
theorem uptoC_succ {α : Type} (f : Nat → α) (k : Nat) : uptoC f (k + 1) = uptoC f k ++ [f k] := by simp [uptoC, List.range_succ]
theorem uptoC_length {α : Type} (f : Nat → α) (k : Nat) : (uptoC f k).length = k := by simp [uptoC]
set_option maxRecDepth 100000 in
set_option maxHeartbeats 4000000 in
theorem backC1_in {α : Type} (F : Fence) (n : Nat) (h8 : F.fn 85) (hro : F.round = none) (hn : 1 ≤ n) (l Bs : Nat) (A : Option Addr) (cap : Nat) (xs : List Int) (hm : xs.length ≤ 9223372036854775807) (RD : World → Prop) (Kp : World → World → Prop) (hRD : ∀ W, RD W → Kd.C (Kd.int .i64) W A xs.length xs ∧ Boxed W Bs 32 (.slice A xs.length cap)) (hKp : ∀ W W', Kp W W' → RD W → RD W')
  (encs:α→Array Value) (g:Nat→α) (hg:∀ j:Nat,j<xs.length→encs (g j)=#[.int .i64 ((xs.length:Int) - 1 - j), .int .i64 (rd xs ((xs.length:Int) - 1 - j))])
  (J Jx:List α→World→Prop)
  (hY:∀ pre x W,J pre W→pre.length<xs.length→YieldAt F (n - 1) Tryd.prog l (encs x) W fun e W' =>
   (e=.returned (.bool true)∧J (pre ++ [x]) W'∧Kp W W')∨(e=.returned (.bool false)∧Jx (pre ++ [x]) W'))
  (W:World) (hW:RD W) (h0:J [] W) :
  CallsIn F n Tryd.prog 85 #[.func (.yield l) #[] #[], .pointer (some ⟨Bs,0,none⟩)] W fun e W'=>(∃ v,e=.returned v) ∧
   ((∃ ys,ys=uptoC g xs.length∧J ys W')∨(∃ pre,(∃ k,k≤xs.length∧pre=uptoC g k)∧Jx pre W')):=by
 have cBs:=(hRD W hW).2.cell
 refine callsIn_of_wp Tryd.func85 rfl h8 ?_ hro
 simp only [Tryd.ntmps85,List.size_toArray,List.length_cons,List.length_nil,Nat.reduceAdd,Nat.reduceSub,Array.replicate_succ,Array.replicate_zero,List.push_toArray,List.append_toArray,List.nil_append,List.cons_append]
 gi_wp2
 have hwr:wrap64 ((xs.length:Int) - 1)=(xs.length:Int) - 1:=xwrC (by omega)
 gi_loopw [3] (fun i wr=>∃ k:Nat,k≤xs.length∧i=.int .i64 ((xs.length:Int) - 1 - k)∧J (uptoC g k) wr∧RD wr)
  (fun i _=>(intOf i+1).toNat)
 case atStart=>exact ⟨0,Nat.zero_le _,by simp,h0,hW⟩
 case round =>
  obtain ⟨k,hk,rfl,hJs,hnx⟩:=hrel
  have cB:=(hRD _ hnx).2.cell
  by_cases hlt:k<xs.length
  ·obtain ⟨fn,tmps,assign,body,hy,hR⟩:=hY _ (g k) wr hJs (by rw [uptoC_length];exact hlt)
   rw [hg k hlt] at hy
   obtain ⟨j,hj⟩:∃ j:Nat,(xs.length:Int) - 1 - k=(j:Int):=⟨xs.length - 1 - k,by omega⟩
   have p0:0≤(j:Int):=by omega
   have p1:(j:Int)<(xs.length:Int):=by omega
   have p2:j<xs.length:=by omega
   rw [hj] at hy ⊢
   obtain ⟨ad,rfl,x0⟩:=Kd.jMb (hRD _ hnx).1 (j:Int) p0 p1
   rw [Int.toNat_natCast] at x0
   gi_wp2
   refine hR.mono ?_
   rintro e W3 (⟨rfl,hJ3,hk3⟩ | ⟨rfl,hJx3⟩)
   ·have hb3:=hKp _ _ hk3 hnx
    have c3:=(hRD _ hb3).2.cell
    gi_wp2
    go_roundw
    case rel=>exact ⟨k+1,by omega,by congr 1;omega,by rw [uptoC_succ];exact hJ3,hb3⟩
    case measure=>simp [intOf]
   ·gi_wp2
    refine bodyPost_ret (results_none rfl _ _ _) rfl ?_
    exact ⟨⟨_,rfl⟩, .inr ⟨_,⟨k+1,by omega,(uptoC_succ _ _).symm⟩,hJx3⟩⟩
  ·obtain rfl:k=xs.length:=by omega
   have q2:decide ((xs.length:Int) - 1 - xs.length≥0)=false:=dzF (by omega)
   gi_wp2
   go_end0
   exact ⟨⟨_,rfl⟩, .inl ⟨_,rfl,hJs⟩⟩
theorem KeepsFrom.jCb {W W' : World} (h : Below W.heap.size W W') (B : Nat) : KeepsFrom B W W' := ⟨h.size, fun k o _ hk _ => (h.block k (Array.getElem?_eq_some_iff.1 hk).1).trans hk⟩
theorem Boxed.jjc {W W' : World} {B : Nat} {t : TypeId} {v : Value} (h : Boxed W B t v) (hb : Below W.heap.size W W') : Boxed W' B t v := (hb.block B h.lt).trans h
set_option maxHeartbeats 1000000 in
theorem backC_in (F : Fence) (n : Nat) (h6 : F.fn 58) (hro : F.round = none) (a : Option Addr) (len cap : Nat) (w : World) :
  CallsIn F n Tryd.prog 58 #[.slice a len cap] w fun e w'=>e=.returned (.func (.func 85) #[] #[.pointer (some ⟨w.heap.size,0,none⟩)])∧w'=w.alloc (.cells #[.slice a len cap] 32):=by
 refine callsIn_of_wp Tryd.func58 rfl h6 ?_ hro
 simp only [Tryd.ntmps58,List.size_toArray,List.length_cons,List.length_nil,Nat.reduceAdd,Nat.reduceSub,Array.replicate_succ,Array.replicate_zero,List.push_toArray,List.append_toArray,List.nil_append,List.cons_append]
 gi_wp2
 go_ret
 exact ⟨rfl,rfl⟩
def jic (o : Oper) : Bool := match o.op with | .defer _ => false | _ => true
theorem noDeferC_spec {o : Oper} (h : jic o = true) : ∀ c, o.op ≠ .defer c := fun c hc => by simp [jic, hc] at h
theorem opInC_round {F : Fence} {l n : Nat} {P : Program} {o : Oper} {a : Act} {w : World} {K : Act → World → Prop} {Q : Exit → Act → World → Prop} (hro : F.round = none) (hd : jic o = true) (h : o.wpIn F n P a w K Q) : o.wpIn (F.inRound l) n P a w K Q := by
 unfold Oper.wpIn at *
 refine ⟨h.1,?_⟩
 have h2:=h.2
 rw [hro,Oper.semAt_none] at h2
 rw [Fence.inRound_round,Oper.semAt_some l _ _ (noDeferC_spec hd)]
 exact h2
theorem opsInC_round {F : Fence} {l n : Nat} {P : Program} {ops : Array Oper} {K K' : Act → World → Prop} {Q : Exit → Act → World → Prop} (hro : F.round = none) (hd : ops.all jic = true) {i : Nat} {a : Act} {w : World} (hK : ∀ a w, K a w → K' a w) (h : wpOpIn F n P ops Q i K a w) : wpOpIn (F.inRound l) n P ops Q i K' a w := by
 have h:=wpOpIn_mono hK h
 unfold wpOpIn at h ⊢
 cases ho:ops[i]? with
 | none=>simp only [ho] at h ⊢;exact h
 | some o =>
  simp only [ho] at h ⊢
  have hn:jic o=true:=by
   obtain ⟨hi,e⟩:=Array.getElem?_eq_some_iff.1 ho
   have:=Array.all_eq_true.1 hd i hi
   rw [e] at this;exact this
  split
  ·rename_i hw;rw [if_pos hw] at h;exact opInC_round hro hn h
  ·rename_i hw;rw [if_neg hw] at h;exact h
theorem wpAnyInC_round {F : Fence} {l n : Nat} {P : Program} {md : Region.Mode} {ops : Array Oper} {Q : Exit → Act → World → Prop} (hro : F.round = none) (hd : ops.all jic = true) : ∀ (fuel : Nat) (listed : Array Bool) (a : Act) (w : World), wpAnyIn F n P md ops Q fuel listed a w → wpAnyIn (F.inRound l) n P md ops Q fuel listed a w
 | 0,_,_,_,h=>h
 | fuel+1,listed,a,w,h=>⟨h.1,fun i hi=>opsInC_round hro hd (fun a w hh=>wpAnyInC_round hro hd fuel _ a w hh) (h.2 i hi)⟩
theorem opC_wide {n : Nat} {P : Program} {o : Oper} {a : Act} {w : World} {K K' : Act → World → Prop} {Q : Exit → Act → World → Prop} (hK : ∀ a w, K a w → K' a w) (h : o.wp P a w K Q) : o.wpIn Fence.wide n P a w K' Q := by
 unfold Oper.wp at h
 unfold Oper.wpIn
 refine ⟨fun _ _=>trivial,?_⟩
 rw [show Fence.wide.round=none from rfl,Oper.semAt_none]
 generalize (execOp a.eval o).run P w=r at h ⊢
 have hd:Fence.wide.depth.isSome=true→1≤n:=fun e=>by simp [Fence.wide] at e
 cases r with
 | ok y w' =>
  cases y <;> simp only [Oper.upon,Oper.uponIn] at h ⊢ <;>
   first
    | exact hK _ _ h
    | exact ⟨hd,callsIn_wide.2 (h.mono fun e w'' he=>by cases e <;> first | exact hK _ _ he | exact he)⟩
    | exact ⟨hd,fun c cs _=>let ⟨v,w'',r,s⟩:=h c cs;⟨v,w'',hK _ _ r,stepsIn_wide.2 s⟩⟩
    | exact h.elim
 | halt y w'=>cases y <;> simp only [Oper.upon,Oper.uponIn] at h ⊢ <;> first | exact h | exact h.elim
theorem jgc {n : Nat} {P : Program} {md : Region.Mode} {ops : Array Oper} {Q : Exit → Act → World → Prop} (hL : ¬ LetsOut Q) : ∀ (fuel : Nat) (listed : Array Bool) (a : Act) (w : World), wpAny P md ops Q fuel listed a w → wpAnyIn Fence.wide n P md ops Q fuel listed a w
 | 0,_,_,_,h=>h
 | fuel+1,listed,a,w,h=>⟨h.1,fun i hi=>by
  have h2:=h.2 i hi
  unfold wpOp at h2
  unfold wpOpIn
  cases ho:ops[i]? with
  | none=>simp only [ho] at h2 ⊢;exact jgc hL fuel _ a w h2
  | some o =>
   simp only [ho] at h2 ⊢
   split
   ·rename_i hw
    rw [if_pos hw] at h2
    rcases h2 with h2 | ⟨_,h2⟩
    ·exact opC_wide (fun a w hh=>jgc hL fuel _ a w hh) h2
    ·exact absurd h2 hL
   ·rename_i hw
    rw [if_neg hw] at h2
    exact ⟨fun _ _=>trivial,jgc hL fuel _ _ w h2⟩⟩
theorem jIb {l n : Nat} {P : Program} {id : Nat} {ops : Array Oper} {Q : Exit → Act → World → Prop} {a : Act} {w : World} (S : World → Prop) (hm : P.follows .mixedOrders = true) (hd : ops.all jic = true) (hL : ¬ LetsOut Q)
  (h:wpAnyH P .any ops Q S ops.size (Array.replicate ops.size false) a w.drew):(Code.region id ops true).wpIn (Fence.wide.inRound l) n P Q a w :=
 wpIn_region_any hm (wpAnyInC_round (F:=Fence.wide) (l:=l) rfl hd _ _ _ _ (jgc hL _ _ _ _ (wpAny_of_held _ _ _ _ h)))
def chAt (t : List S99) (h : List S66) (l : List Int) (i g : Int) : Option ByteArray :=
 if 0≤g then (if g<(h.length:Int) then (jLa.f t (ja h g).f0 (ja h g).f1).bind fun tx=>if tx.size≤2000000 then
  (if i<(l.length:Int) - 1 then (if 0≤i then some ((if (ja h g).f2=rd l (i+1) then (⟨#[32,62,32]⟩:ByteArray) else (⟨#[32,126,32]⟩:ByteArray)) ++ tx) else none) else some tx) else none else none) else none
def chAll (t : List S99) (h : List S66) (l : List Int) : Nat → Option ByteArray
 | 0=>some ⟨#[]⟩
 | i+1=>(chAt t h l (i:Int) (rd l (i:Int))).bind fun a=>(chAll t h l i).bind fun b=>some (a ++ b)
def jIa.f (k : Nat) (l0_0 : List S66) (l1_0 : List S99) (a2 : Int) : Option ByteArray :=
 (jtb (fun g=>jVa.f l0_0 g) k a2 []).bind fun l=>if l.length≤1000000000 then chAll l1_0 l0_0 l l.length else none
theorem chAt_inv {t : List S99} {h : List S66} {l : List Int} {i g : Int} (hx : (chAt t h l i g).isSome = true) : 0 ≤ g ∧ g < (h.length : Int) ∧ ∃ tx, jLa.f t (ja h g).f0 (ja h g).f1 = some tx ∧ tx.size ≤ 2000000 ∧
  ((¬ i<(l.length:Int) - 1∧chAt t h l i g=some tx)∨(i<(l.length:Int) - 1∧0≤i∧(((ja h g).f2=rd l (i+1)∧chAt t h l i g=some ((⟨#[32,62,32]⟩:ByteArray) ++ tx))∨((ja h g).f2≠rd l (i+1)∧chAt t h l i g=some ((⟨#[32,126,32]⟩:ByteArray) ++ tx))))):=by
 unfold chAt at hx ⊢
 by_cases h0:0≤g
 ·rw [if_pos h0] at hx ⊢
  by_cases h1:g<(h.length:Int)
  ·rw [if_pos h1] at hx ⊢
   cases ht:jLa.f t (ja h g).f0 (ja h g).f1 with
   | none=>rw [ht] at hx;cases hx
   | some tx =>
    rw [ht] at hx
    simp only [Option.bind_some] at hx ⊢
    by_cases hz:tx.size≤2000000
    ·rw [if_pos hz] at hx
     refine ⟨h0,h1,tx,rfl,hz,?_⟩
     simp only [if_pos hz]
     by_cases h2:i<(l.length:Int) - 1
     ·rw [if_pos h2] at hx ⊢
      by_cases h3:0≤i
      ·rw [if_pos h3]
       refine .inr ⟨h2,h3,?_⟩
       by_cases h4:(ja h g).f2=rd l (i+1)
       ·exact .inl ⟨h4,by rw [if_pos h4]⟩
       ·exact .inr ⟨h4,by rw [if_neg h4]⟩
      ·rw [if_neg h3] at hx;cases hx
     ·rw [if_neg h2]
      exact .inl ⟨h2,rfl⟩
    ·rw [if_neg hz] at hx;cases hx
  ·rw [if_neg h1] at hx;cases hx
 ·rw [if_neg h0] at hx;cases hx
theorem chAt_size {t : List S99} {h : List S66} {l : List Int} {i g : Int} {r : ByteArray} (hx : chAt t h l i g = some r) : r.size ≤ 2000003 := by
 obtain ⟨_,_,tx,_,hz,h3⟩:=chAt_inv (show (chAt t h l i g).isSome=true by rw [hx];rfl)
 rcases h3 with ⟨_,e⟩ | ⟨_,_,⟨_,e⟩ | ⟨_,e⟩⟩ <;> rw [hx] at e <;> obtain rfl:=Option.some.inj e
 ·omega
 ·rw [ByteArray.size_append];have:(⟨#[32,62,32]⟩:ByteArray).size=3:=rfl;omega
 ·rw [ByteArray.size_append];have:(⟨#[32,126,32]⟩:ByteArray).size=3:=rfl;omega
def catB : List ByteArray → ByteArray
 | []=>⟨#[]⟩
 | x :: r=>x ++ catB r
theorem catB_nil (x : ByteArray) : x ++ (⟨#[]⟩ : ByteArray) = x := ByteArray.append_empty
theorem catB_nil' (x : ByteArray) : (⟨#[]⟩ : ByteArray) ++ x = x := ByteArray.empty_append
theorem catB_snoc : ∀ (a : List ByteArray) (x : ByteArray), catB (a ++ [x]) = catB a ++ x
 | [],x=>by show x ++ (⟨#[]⟩:ByteArray)=(⟨#[]⟩:ByteArray) ++ x;rw [catB_nil,catB_nil']
 | y :: a,x=>by show y ++ catB (a ++ [x])=(y ++ catB a) ++ x;rw [catB_snoc a x,ByteArray.append_assoc]
abbrev ChEl (t : List S99) (h : List S66) (l : List Int) := { x : Int × Int // (chAt t h l x.1 x.2).isSome = true ∨ l.length = 0 }
def ChEl.zero (t : List S99) (h : List S66) (l : List Int) (e : (chAt t h l 0 (rd l 0)).isSome = true ∨ l.length = 0) : ChEl t h l := ⟨(0, rd l 0), e⟩
def ChEl.txt {t : List S99} {h : List S66} {l : List Int} (x : ChEl t h l) : ByteArray := (chAt t h l x.1.1 x.1.2).getD ⟨#[]⟩
def ChEl.acc {t : List S99} {h : List S66} {l : List Int} (pre : List (ChEl t h l)) : ByteArray := catB (pre.map ChEl.txt)
theorem ChEl.acc_snoc {t : List S99} {h : List S66} {l : List Int} (pre : List (ChEl t h l)) (x : ChEl t h l) : ChEl.acc (pre ++ [x]) = ChEl.acc pre ++ x.txt := by
 unfold ChEl.acc;rw [List.map_append,List.map_cons,List.map_nil,catB_snoc]
theorem ChEl.txt_size {t : List S99} {h : List S66} {l : List Int} (x : ChEl t h l) : x.txt.size ≤ 2000003 := by
 unfold ChEl.txt
 cases e:chAt t h l x.1.1 x.1.2 with
 | none=>exact Nat.zero_le _
 | some r=>exact chAt_size e
theorem ChEl.acc_size {t : List S99} {h : List S66} {l : List Int} : ∀ pre : List (ChEl t h l), (ChEl.acc pre).size ≤ pre.length * 2000003
 | []=>Nat.zero_le _
 | x :: pre=>by
  have h1:=ChEl.acc_size pre
  have h2:=ChEl.txt_size x
  show (x.txt ++ ChEl.acc pre).size≤_
  rw [ByteArray.size_append,List.length_cons]
  omega
def ChEl.of (t : List S99) (h : List S66) (l : List Int) (e : (chAt t h l 0 (rd l 0)).isSome = true ∨ l.length = 0) (j : Nat) : ChEl t h l :=
 if q:(chAt t h l ((l.length:Int) - 1 - j) (rd l ((l.length:Int) - 1 - j))).isSome=true then ⟨((l.length:Int) - 1 - j,rd l ((l.length:Int) - 1 - j)), .inl q⟩ else ChEl.zero t h l e
theorem chAll_all {t : List S99} {h : List S66} {l : List Int} : ∀ (n : Nat) (r : ByteArray), chAll t h l n = some r → ∀ j : Nat, j < n → (chAt t h l (j : Int) (rd l (j : Int))).isSome = true
 | 0,_,_,j,hj=>by omega
 | n+1,r,h,j,hj=>by
  simp only [chAll] at h
  obtain ⟨a,h1,h⟩:=bzS h
  obtain ⟨b,h2,h⟩:=bzS h
  by_cases e:j=n
  ·subst e;rw [h1];rfl
  ·exact chAll_all n b h2 j (by omega)
theorem ChEl.acc_all {t : List S99} {h : List S66} {l : List Int} (h0 : (chAt t h l 0 (rd l 0)).isSome = true ∨ l.length = 0) : ∀ (n : Nat) (r : ByteArray), n ≤ l.length → chAll t h l n = some r → catB ((List.range n).map fun j => (ChEl.of t h l h0 (l.length - n + j)).txt) = r
 | 0,r,_,h=>by simp [chAll] at h;rw [← h];rfl
 | n+1,r,hn,h=>by
  have h2:=chAll_all (n+1) r h n (by omega)
  simp only [chAll] at h
  obtain ⟨a,ha,h⟩:=bzS h
  obtain ⟨b,hb,h⟩:=bzS h
  obtain rfl:=Option.some.inj h
  have ih:=ChEl.acc_all h0 n b (by omega) hb
  rw [List.range_succ_eq_map,List.map_cons,catB,List.map_map]
  have e1:(ChEl.of t _ l h0 (l.length - (n+1)+0)).txt=a:=by
   have ei:(l.length:Int) - 1 - ((l.length - (n+1)+0:Nat):Int)=(n:Int):=by omega
   have hh:=h2
   rw [← ei] at hh
   simp only [ChEl.of,dif_pos hh,ChEl.txt]
   rw [ei,ha];rfl
  have e2:(List.map ((fun j=>(ChEl.of t _ l h0 (l.length - (n+1)+j)).txt) ∘ Nat.succ) (List.range n))=(List.range n).map fun j=>(ChEl.of t _ l h0 (l.length - n+j)).txt:=by
   apply List.map_congr_left
   intro j _
   simp only [Function.comp]
   rw [show l.length - (n+1)+j.succ=l.length - n+j by omega]
  rw [e1,e2,ih]
theorem ChEl.enc {t : List S99} {h : List S66} {l : List Int} (h0 : (chAt t h l 0 (rd l 0)).isSome = true ∨ l.length = 0) (hall : ∀ j : Nat, j < l.length → (chAt t h l (j : Int) (rd l (j : Int))).isSome = true) {j : Nat} (hj : j < l.length) :
  (fun x:ChEl t h l=>#[Value.int .i64 x.1.1, .int .i64 x.1.2]) (ChEl.of t h l h0 j)=#[.int .i64 ((l.length:Int) - 1 - j), .int .i64 (rd l ((l.length:Int) - 1 - j))]:=by
 have q:=hall (l.length - 1 - j) (by omega)
 rw [show ((l.length - 1 - j:Nat):Int)=(l.length:Int) - 1 - j by omega] at q
 simp only [ChEl.of,dif_pos q]
theorem R_ownC (base : Nat) (v : Value) (l : List Int) {β : Type} : Own (fun (_ : β) W => Kd.R (Kd.int .i64) 3 W base (fun _ => True) v l) := fun s W W' row h hg hr => by
 refine Kd.jI (Kd.R_move (Kd.jec h) (fun k hk=>?_)) (fun _ _=>trivial)
 obtain ⟨_,_,hk,q,hq,cells,hc⟩:=hk
 refine hg.block k hk (fun e=>?_)
 obtain ⟨o,ho,hcells⟩:=hr k e.symm
 rw [hc] at ho;cases ho;cases hcells
set_option maxHeartbeats 8000000 in
set_option maxRecDepth 100000 in
theorem jIa.calls (k : Nat) (A0_0 : Option Addr) (c0_0 : Nat) (l0_0 : List (S66)) (A1_0 : Option Addr) (c1_0 : Nat) (l1_0 : List (S99)) (a2 : Int) (r : ByteArray) (w : World) (hr0_0 : Kd.C k66 w A0_0 l0_0.length l0_0) (hc0_0 : l0_0.length ≤ c0_0) (hr1_0 : Kd.C k99 w A1_0 l1_0.length l1_0) (hc1_0 : l1_0.length ≤ c1_0) (h : jIa.f k l0_0 l1_0 a2 = some r) :
  Calls Tryd.prog 33 #[.agg #[.slice A0_0 l0_0.length c0_0], .agg #[.slice A1_0 l1_0.length c1_0], .int .i64 a2] w fun e w'=>e=.returned (.string r)∧Below w.heap.size w w':=by
 obtain ⟨l,hl,h⟩:=bzS h
 by_cases hlen:l.length≤1000000000
 case neg=>rw [if_neg hlen] at h;cases h
 rw [if_pos hlen] at h
 have hall:=chAll_all _ _ h
 have hz0:(chAt l1_0 l0_0 l 0 (rd l 0)).isSome=true∨l.length=0:=by
  by_cases e:l.length=0
  ·exact .inr e
  ·exact .inl (hall 0 (by omega))
 have hu28:=Tryd.underlying28
 have hu25:=Tryd.underlying25
 have hu66:=Tryd.underlying66
 have hmx:Tryd.prog.follows .mixedOrders=true:=by kernel_rfl
 have HW:=am (fun W (hb:Below w.heap.size w W)=>impl_chainText_walk k A0_0 l0_0.length c0_0 (fun g=>jVa.f l0_0 g) a2 l W hl (fun W' hb' x y hx=>jVa.calls A0_0 c0_0 l0_0 x y W' (Kd.jba (Kd.jba hr0_0 hb) hb') hc0_0 hx))
 refine (callsIn_wide (n:=8)).1 ?_
 have hro:Fence.wide.round=none:=rfl
 refine callsIn_of_wp_marks Tryd.func33 rfl trivial ?_ hro
 simp only [Tryd.ntmps33,List.size_toArray,List.length_cons,List.length_nil,Nat.reduceAdd,Nat.reduceSub,Array.replicate_succ,Array.replicate_zero,List.push_toArray,List.append_toArray,List.nil_append,List.cons_append]
 have b0:=((Boxed.new w 28 (.slice A0_0 l0_0.length c0_0)).alloc (.cells #[.slice A1_0 l1_0.length c1_0] 25)).alloc (.cells #[.string ⟨#[]⟩] 9)
 have b1:=(Boxed.new (w.alloc (.cells #[.slice A0_0 l0_0.length c0_0] 28)) 25 (.slice A1_0 l1_0.length c1_0)).alloc (.cells #[.string ⟨#[]⟩] 9)
 have b2:=Boxed.new ((w.alloc (.cells #[.slice A0_0 l0_0.length c0_0] 28)).alloc (.cells #[.slice A1_0 l1_0.length c1_0] 25)) 9 (.string ⟨#[]⟩)
 simp only [World.size_alloc] at b1 b2
 have hB3:Below w.heap.size w (((w.alloc (.cells #[.slice A0_0 l0_0.length c0_0] 28)).alloc (.cells #[.slice A1_0 l1_0.length c1_0] 25)).alloc (.cells #[.string ⟨#[]⟩] 9)):=(((Below.refl _ w).alloc (Nat.le_refl _) _).alloc (by simp) _).alloc (by simp;omega) _
 have hcall:=HW.out _ hB3
 have q0:=b0.cell
 clear HW
 gi_wp2_with (first |(refine ⟨trivial,?_⟩;gi_at_call 29;refine (callsIn_wide.2 hcall).mono ?_;rintro e w1 ⟨v1,rfl,hR,hb1⟩;clear hcall;obtain ⟨Ao,co,eo⟩:=Kd.jaa hR;subst eo;have k0:=Boxed.jjc b0 hb1;have k1:=Boxed.jjc b1 hb1;have k2:=Boxed.jjc b2 hb1;clear b0 b1 b2 q0) |(refine ⟨trivial,?_⟩;gi_at_call 58;refine (backC_in Fence.wide _ trivial hro _ _ _ _).mono ?_;rintro e w' ⟨rfl,rfl⟩))
 obtain ⟨W3,hW3⟩:∃ W3,(((w.alloc (.cells #[.slice A0_0 l0_0.length c0_0] 28)).alloc (.cells #[.slice A1_0 l1_0.length c1_0] 25)).alloc (.cells #[.string ⟨#[]⟩] 9))=W3:=⟨_,rfl⟩
 have hs3:W3.heap.size=w.heap.size+3:=by rw [← hW3];simp
 rw [hW3] at hR hb1 hB3
 clear hW3
 have hs1:w.heap.size+3≤w1.heap.size:=by have:=hb1.size;omega
 have B0:Below w.heap.size w ((w1.alloc (.cells #[.slice Ao l.length co] 32)).alloc (.cells #[.slice Ao l.length co] 32)):=((hB3.trans (hb1.mono (by omega))).alloc (by omega) _).alloc (by simp;omega) _
 have d0:=(k0.alloc (.cells #[.slice Ao l.length co] 32)).alloc (.cells #[.slice Ao l.length co] 32)
 have d1:=(k1.alloc (.cells #[.slice Ao l.length co] 32)).alloc (.cells #[.slice Ao l.length co] 32)
 have d2:=(k2.alloc (.cells #[.slice Ao l.length co] 32)).alloc (.cells #[.slice Ao l.length co] 32)
 have dL:=(Boxed.new w1 32 (.slice Ao l.length co)).alloc (.cells #[.slice Ao l.length co] 32)
 have dS:=Boxed.new (w1.alloc (.cells #[.slice Ao l.length co] 32)) 32 (.slice Ao l.length co)
 rw [World.size_alloc] at dS
 have dR:=Kd.jR (Kd.jR hR (.cells #[.slice Ao l.length co] 32)) (.cells #[.slice Ao l.length co] 32)
 obtain ⟨W0,hW0⟩:∃ W0,(w1.alloc (.cells #[.slice Ao l.length co] 32)).alloc (.cells #[.slice Ao l.length co] 32)=W0:=⟨_,rfl⟩
 have hs0:W0.heap.size=w1.heap.size+2:=by rw [← hW0];simp
 rw [hW0] at B0 d0 d1 d2 dL dS dR ⊢
 have hW:=am hW0
 clear hW0 k0 k1 k2
 obtain ⟨RD,hRD⟩:∃ RD:World→Prop,RD=fun W=>Boxed W (w1.heap.size+1) 32 (.slice Ao l.length co)∧Kd.R (Kd.int .i64) 3 W W3.heap.size (fun _=>True) (.slice Ao l.length co) l:=⟨_,rfl⟩
 have hRD1:∀ W,RD W→Kd.C (Kd.int .i64) W Ao l.length l∧Boxed W (w1.heap.size+1) 32 (.slice Ao l.length co):=fun W h=>by
  rw [hRD] at h;exact ⟨(Kd.jC h.2).2.2,h.1⟩
 have hRD2:∀ W,Below W0.heap.size W0 W→RD W:=fun W h=>by
  rw [hRD];exact ⟨Boxed.jjc dS h,Kd.jL dR h⟩
 have hRD3:∀ (W:World) (lp:Nat) (o o':Obj),W.heap[lp]?=some o→o.isCells=false→RD W→RD (W.putObj lp o'):=fun W lp o o' ho hc h=>by
  rw [hRD] at h ⊢
  exact ⟨(boxed_own (β:=Unit) _ _ fun _=>_).putObj (s:=()) o' h.1 ho hc,(R_ownC (β:=Unit) _ _ _).putObj (s:=()) o' h.2 ho hc⟩
 have hRDi:∀ W,Boxed W (w1.heap.size+1) 32 (.slice Ao l.length co)→Kd.R (Kd.int .i64) 3 W W3.heap.size (fun _=>True) (.slice Ao l.length co) l→RD W:=fun W h1 h2=>by rw [hRD];exact ⟨h1,h2⟩
 clear hRD
 obtain ⟨IV,hIV⟩:∃ IV:World→ByteArray→Prop,IV=fun W s=>((((((Boxed W w.heap.size 28 (.slice A0_0 l0_0.length c0_0)∧Boxed W (w.heap.size+1) 25 (.slice A1_0 l1_0.length c1_0))∧Boxed W (w1.heap.size) 32 (.slice Ao l.length co))∧Boxed W (w1.heap.size+1) 32 (.slice Ao l.length co))∧Boxed W (w.heap.size+1+1) 9 (.string s))∧Kd.R (Kd.int .i64) 3 W W3.heap.size (fun _=>True) (.slice Ao l.length co) l)∧Below w.heap.size w W):=⟨_,rfl⟩
 have IB:=am (show ∀ (W W':World) (s:ByteArray),IV W s→Below W.heap.size W W'→IV W' s from fun W W' s h hb=>by
  rw [hIV] at h ⊢
  obtain ⟨⟨⟨⟨⟨⟨i0,i1⟩,iL⟩,iS⟩,iO⟩,iR⟩,hB⟩:=h
  exact ⟨⟨⟨⟨⟨⟨Boxed.jjc i0 hb,Boxed.jjc i1 hb⟩,Boxed.jjc iL hb⟩,Boxed.jjc iS hb⟩,Boxed.jjc iO hb⟩,Kd.jL iR hb⟩,hB.trans (hb.mono hB.size)⟩)
 have IS:=am (show ∀ (W:World) (s u:ByteArray),IV W s→IV (W.setCell ⟨w.heap.size+1+1,0,none⟩ (.string u)) u from fun W s u h=>by
  rw [hIV] at h ⊢
  obtain ⟨⟨⟨⟨⟨⟨i0,i1⟩,iL⟩,iS⟩,iO⟩,iR⟩,hB⟩:=h
  exact ⟨⟨⟨⟨⟨⟨i0.other (by omega) _,i1.other (by omega) _⟩,iL.other (by omega) _⟩,iS.other (by omega) _⟩,iO.set _⟩,Kd.R_set iR iO (by decide) 0 (.string u)⟩,hB.setCell (p:=⟨w.heap.size+1+1,0,none⟩) (by simp;omega) _⟩)
 have IR:=am (show ∀ (W:World) (s:ByteArray),IV W s→RD W from fun W s h=>by
  rw [hIV] at h
  obtain ⟨⟨⟨⟨⟨⟨i0,i1⟩,iL⟩,iS⟩,iO⟩,iR⟩,hB⟩:=h
  exact hRDi W iS iR)
 have hOwn:OwnFrom W0.heap.size (fun (pre:List (ChEl l1_0 l0_0 l)) W=>IV W (ChEl.acc pre)):=by
  rw [hIV]
  exact (OwnFrom.and (OwnFrom.and (OwnFrom.and (OwnFrom.and (OwnFrom.and (OwnFrom.and (Own.from (boxed_own _ _ fun _=>_) _) (Own.from (boxed_own _ _ fun _=>_) _)) (Own.from (boxed_own _ _ fun _=>_) _)) (Own.from (boxed_own _ _ fun _=>_) _)) (Own.from (boxed_own _ _ fun pre=>Value.string (ChEl.acc pre)) _)) (Own.from (R_ownC _ _ _) _)) (ownFrom_below (Nat.le_refl _) (by omega)))
 have hI0:IV W0 ⟨#[]⟩:=by rw [hIV];exact ⟨⟨⟨⟨⟨⟨d0,d1⟩,dL⟩,dS⟩,d2⟩,dR⟩,B0⟩

 refine wpIn_rangeFunc_ownH hro (by omega) (gf:=85) (lb:=#[.pointer (some ⟨w1.heap.size+1,0,none⟩)]) rfl trivial (enters_of Tryd.func85 (by kernel_rfl) rfl)
  (encs:=fun x:ChEl l1_0 l0_0 l=>#[.int .i64 x.1.1, .int .i64 x.1.2]) (Kp:=fun W W'=>RD W→RD W')
  (S:=fun ys=>ys=uptoC (ChEl.of l1_0 l0_0 l hz0) l.length) (Sp:=fun pre=>∃ q,q≤l.length∧pre=uptoC (ChEl.of l1_0 l0_0 l hz0) q) (N:=l.length) (w0:=W0)
  (fun lp J Jx W hW _ _ hY h0=>backC1_in Fence.wide _ trivial hro (by omega) lp _ Ao co l (by omega) RD (fun W W'=>RD W→RD W') hRD1 (fun W W' h h2=>h h2) _ (ChEl.of l1_0 l0_0 l hz0) (fun j hj=>ChEl.enc hz0 hall hj) J Jx hY W (hRD2 W hW) h0)
  (fun h k x=>k (h x)) (fun W lp o o' hl ho hc hw hx=>hRD3 W lp o o' ho hc hx) (Below.refl _ _) (fun _=>rfl)
  (fun pre W=>IV W (ChEl.acc pre))
  (fun c pre W=>False)
  hOwn
  (fun c=>ownFrom_pure _ fun _=>False)
  hI0
  (fun x a' W=>a'={ tmps:=#[.agg #[.slice A0_0 l0_0.length c0_0], .agg #[.slice A1_0 l1_0.length c1_0], .int .i64 a2, .pointer (some ⟨w.heap.size,0,none⟩), .pointer (some ⟨w.heap.size+1,0,none⟩),undef, .string ⟨#[]⟩, .pointer (some ⟨w.heap.size+1+1,0,none⟩), .pointer (some ⟨w1.heap.size,0,none⟩), .int .i64 x.1.1, .int .i64 x.1.2,undef,undef, .int .i64 a2, .agg #[.slice A0_0 l0_0.length c0_0], .func (.func 30) #[.agg #[.slice A0_0 l0_0.length c0_0]] #[], .slice Ao l.length co, .slice Ao l.length co, .func (.func 85) #[] #[.pointer (some ⟨w1.heap.size+1,0,none⟩)], .int .i64 x.1.1, .int .i64 x.1.2,undef,undef,undef,undef,undef,undef,undef,undef,undef,undef,undef,undef,undef,undef,undef,undef,undef,undef,undef,undef,undef,undef,undef,undef,undef,undef,undef,undef,undef,undef],defers:=[] })
  (fun x a' _ X Y row hs hg hr=>hs)
  ?assign ?body ?done ?stop

 case assign =>
  rintro lp pre x W K hI hK
  gi_wp2
  exact hK _ _ (KeepsFrom.jCb (Below.refl _ _) _) (fun h=>h) hI rfl
 case body =>
  rintro lp pre ⟨⟨ix,g⟩,hx⟩ a' W hl ⟨rr,hrr⟩ hI rfl hlt
  have hx1:(chAt l1_0 l0_0 l ix g).isSome=true:=by
   rcases hx with h | h
   ·exact h
   ·exact absurd hlt (by omega)
  obtain ⟨g0,g1,tx,htx,htz,hcs⟩:=chAt_inv hx1
  have hsn:=ChEl.acc_snoc pre ⟨(ix,g),hx⟩
  have hsz:=ChEl.acc_size pre
  have hI1:=hI
  rw [hIV] at hI1
  obtain ⟨⟨⟨⟨⟨⟨i0,i1⟩,iL⟩,iS⟩,iO⟩,iR⟩,hB⟩:=hI1
  obtain ⟨ad,rfl,y0,y1,y2,y3,y4⟩:=jab (Kd.jba hr0_0 hB) g g0 g1
  have KT:=am (fun W' (hb:Below w.heap.size w W')=>jLa.calls A1_0 c1_0 l1_0 _ _ tx W' (Kd.jba hr1_0 hb) hc1_0 htx)
  have hbX:Below W.heap.size W (World.drew (W.alloc (.cells #[.int .i64 (ja l0_0 g).f0, .int .i64 (ja l0_0 g).f1, .int .i64 (ja l0_0 g).f2, .int .i64 (ja l0_0 g).f3, .bool (ja l0_0 g).f4] 66))):=jmb (jw (Below.refl W.heap.size W) _)
  have c0:=i0.cell
  have c1:=i1.cell
  have cL:=iL.cell
  have cO:=iO.cell
  have fO:=iO.frozen
  have hwl:wrap64 ((l.length:Int) - 1)=(l.length:Int) - 1:=xwrC (by omega)
  have hO1:w.heap.size+1+1<W.heap.size:=iO.lt
  have hT1:w.heap.size+1<W.heap.size:=i1.lt
  have hL1:w1.heap.size<W.heap.size:=iL.lt
  have p0:=ezT g0
  have p1:=ezT g1
  have hacc:∃ AC,ChEl.acc pre=AC:=⟨_,rfl⟩
  obtain ⟨AC,hAC⟩:=hacc
  rw [hAC] at hsn hsz hI iO cO
  have hszm:AC.size≤2000003000000000:=by omega
  clear hsz hRD1 hRD2 hRD3
  rcases hcs with ⟨hd,hch⟩ | ⟨hd,hi0,hch⟩
  ·have hdb:=dzF hd
   have hF:ChEl.acc (pre ++ [⟨(ix,g),hx⟩])=AC ++ tx:=by rw [hsn];unfold ChEl.txt;rw [hch];rfl
   clear hch hsn hd
   have z0:AC.size+tx.size≤9223372036854775807:=by first | omega |(rw [ByteArray.size_append];have:(⟨#[32,62,32]⟩:ByteArray).size=3:=rfl;have:(⟨#[32,126,32]⟩:ByteArray).size=3:=rfl;omega)
   have z1:=ezT z0
   have z2:=dzT z0
   have z3:(9223372036854775807<AC.size+tx.size)=False:=eq_false (Nat.not_lt.2 z0)
   gi_wp2
   refine jIb (S:=(fun W':World=>W'.cell? ⟨w.heap.size+1,0,none⟩=some (.slice A1_0 l1_0.length c1_0)∧W'.cell? ⟨W.heap.size,0,none⟩=some (.int .i64 (ja l0_0 g).f0)∧W'.cell? ⟨W.heap.size,1,none⟩=some (.int .i64 (ja l0_0 g).f1))) hmx (by kernel_rfl) ?hL ?_
   case hL=>rintro ⟨_,_,h⟩;exact h
   change wpAnyH _ _ _ _ _ _ _ _ (World.drew (W.alloc (.cells #[.int .i64 (ja l0_0 g).f0, .int .i64 (ja l0_0 g).f1, .int .i64 (ja l0_0 g).f2, .int .i64 (ja l0_0 g).f3, .bool (ja l0_0 g).f4] 66)))
   obtain ⟨V,hVe,hVI,hVK,hVX⟩:∃ V:World,World.drew (W.alloc (.cells #[.int .i64 (ja l0_0 g).f0, .int .i64 (ja l0_0 g).f1, .int .i64 (ja l0_0 g).f2, .int .i64 (ja l0_0 g).f3, .bool (ja l0_0 g).f4] 66))=V∧IV V AC∧KeepsFrom W0.heap.size W V∧V.heap[W.heap.size]?=some (.cells #[.int .i64 (ja l0_0 g).f0, .int .i64 (ja l0_0 g).f1, .int .i64 (ja l0_0 g).f2, .int .i64 (ja l0_0 g).f3, .bool (ja l0_0 g).f4] 66 (0,0)):=⟨_,rfl,IB.out _ _ _ hI hbX,KeepsFrom.jCb hbX _,jf (heap_alloc_new W (.cells #[.int .i64 (ja l0_0 g).f0, .int .i64 (ja l0_0 g).f1, .int .i64 (ja l0_0 g).f2, .int .i64 (ja l0_0 g).f3, .bool (ja l0_0 g).f4] 66))⟩
   rw [hVe]
   clear hVe
   have hVI2:=hVI
   rw [hIV] at hVI2
   obtain ⟨⟨⟨⟨⟨⟨v0,v1⟩,vL⟩,vS⟩,vO⟩,vR⟩,vB⟩:=hVI2
   clear v0 vL vS vR c0 c1 cL cO fO
   have cO:=vO.cell
   have fO:=vO.frozen
   have hS0:(fun W':World=>W'.cell? ⟨w.heap.size+1,0,none⟩=some (.slice A1_0 l1_0.length c1_0)∧W'.cell? ⟨W.heap.size,0,none⟩=some (.int .i64 (ja l0_0 g).f0)∧W'.cell? ⟨W.heap.size,1,none⟩=some (.int .i64 (ja l0_0 g).f1)) V:=⟨v1.cell,(jF hVX 0).trans rfl,(jF hVX 1).trans rfl⟩
   refine wpAnyH_take (i:=1) (v:=?_) rfl (by kernel_rfl) (by kernel_rfl) (by kernel_rfl) (fun _ _ _ h=>h) (Or.inl ⟨by rfl,?_⟩) hS0 ?_
   rotate_left
   ·rintro W' ⟨s1,s2,s3⟩
    go_simp
    with_reducible rfl
   refine wpAnyH_take (i:=2) (v:=?_) rfl (by kernel_rfl) (by kernel_rfl) (by kernel_rfl) (fun _ _ _ h=>h) (Or.inl ⟨by rfl,?_⟩) hS0 ?_
   rotate_left
   ·rintro W' ⟨s1,s2,s3⟩
    go_simp
    with_reducible rfl
   refine wpAnyH_take (i:=3) (v:=?_) rfl (by kernel_rfl) (by kernel_rfl) (by kernel_rfl) (fun _ _ _ h=>h) (Or.inl ⟨by rfl,?_⟩) hS0 ?_
   rotate_left
   ·rintro W' ⟨s1,s2,s3⟩
    go_simp
    with_reducible rfl
   refine wpAnyH_take (i:=4) (v:=?_) rfl (by kernel_rfl) (by kernel_rfl) (by kernel_rfl) (fun _ _ _ h=>h) (Or.inl ⟨by rfl,?_⟩) hS0 ?_
   rotate_left
   ·rintro W' ⟨s1,s2,s3⟩
    go_simp
    with_reducible rfl
   refine wpAnyH_take (i:=5) (v:=?_) rfl (by kernel_rfl) (by kernel_rfl) (by kernel_rfl) (fun _ _ _ h=>h) (Or.inl ⟨by rfl,?_⟩) hS0 ?_
   rotate_left
   ·rintro W' ⟨s1,s2,s3⟩
    go_simp
    with_reducible rfl
   refine wpAnyH_all (rs:=[0,6]) (by kernel_rfl) (by simp) ?_
   intro ii hii
   rcases (by simpa using hii:ii=0∨ii=6) with rfl | rfl
   all_goals clear hii
   ·refine wpOp_step rfl (fun K hK=>?_)
    go_simp
    refine hK _ _ ⟨hS0,?_⟩
    clear hK K
    refine wpAnyH_all (rs:=[6]) (by kernel_rfl) (by simp) ?_
    intro ii hii
    obtain rfl:ii=6:=by simpa using hii
    clear hii
    refine wpOp_step rfl (fun K hK=>?_)
    go_simp
    refine (KT.out _ vB).mono ?_
    rintro e w4 ⟨rfl,hb4⟩
    have hS1:(fun W':World=>W'.cell? ⟨w.heap.size+1,0,none⟩=some (.slice A1_0 l1_0.length c1_0)∧W'.cell? ⟨W.heap.size,0,none⟩=some (.int .i64 (ja l0_0 g).f0)∧W'.cell? ⟨W.heap.size,1,none⟩=some (.int .i64 (ja l0_0 g).f1)) w4:=⟨jV hb4 hS0.1,jV hb4 hS0.2.1,jV hb4 hS0.2.2⟩
    have hO4:=Boxed.jjc vO hb4
    have cO4:=hO4.cell
    have fO4:=hO4.frozen
    refine hK _ _ ⟨hS1,?_⟩
    clear hK K
    refine wpAnyH_take (i:=7) (v:=?_) rfl (by kernel_rfl) (by kernel_rfl) (by kernel_rfl) (fun _ _ _ h=>h) (Or.inl ⟨by rfl,?_⟩) hS1 ?_
    rotate_left
    ·rintro W' ⟨s1,s2,s3⟩
     go_simp
     with_reducible rfl
    refine wpAnyH_all (rs:=[8]) (by kernel_rfl) (by simp) ?_
    intro ii hii
    obtain rfl:ii=8:=by simpa using hii
    clear hii
    refine wpOp_step rfl (fun K hK=>?_)
    go_simp
    have hS2:(fun W':World=>W'.cell? ⟨w.heap.size+1,0,none⟩=some (.slice A1_0 l1_0.length c1_0)∧W'.cell? ⟨W.heap.size,0,none⟩=some (.int .i64 (ja l0_0 g).f0)∧W'.cell? ⟨W.heap.size,1,none⟩=some (.int .i64 (ja l0_0 g).f1)) (w4.setCell ⟨w.heap.size+1+1,0,none⟩ (.string (AC ++ tx))):=⟨(World.cell?_setCell_far _ _ _ _ (by simp)).trans hS1.1,(World.cell?_setCell_far _ _ _ _ (by simp;omega)).trans hS1.2.1,(World.cell?_setCell_far _ _ _ _ (by simp;omega)).trans hS1.2.2⟩
    refine hK _ _ ⟨hS2,?_⟩
    clear hK K
    refine wpAnyH_done (by kernel_rfl) ?_ _
    exact ⟨hVK.trans ((KeepsFrom.jCb hb4 _).trans ((KeepsOthers.setCell _ _ _).from _)),fun _=>IR.out _ _ (IS.out _ _ _ (IB.out _ _ _ hVI hb4)),by show IV _ (ChEl.acc (pre ++ [⟨(ix,g),hx⟩]));rw [hF];exact IS.out _ _ _ (IB.out _ _ _ hVI hb4)⟩
   ·refine wpOp_step rfl (fun K hK=>?_)
    go_simp
    refine (KT.out _ vB).mono ?_
    rintro e w4 ⟨rfl,hb4⟩
    have hS1:(fun W':World=>W'.cell? ⟨w.heap.size+1,0,none⟩=some (.slice A1_0 l1_0.length c1_0)∧W'.cell? ⟨W.heap.size,0,none⟩=some (.int .i64 (ja l0_0 g).f0)∧W'.cell? ⟨W.heap.size,1,none⟩=some (.int .i64 (ja l0_0 g).f1)) w4:=⟨jV hb4 hS0.1,jV hb4 hS0.2.1,jV hb4 hS0.2.2⟩
    have hO4:=Boxed.jjc vO hb4
    have cO4:=hO4.cell
    have fO4:=hO4.frozen
    refine hK _ _ ⟨hS1,?_⟩
    clear hK K
    refine wpAnyH_all (rs:=[0]) (by kernel_rfl) (by simp) ?_
    intro ii hii
    obtain rfl:ii=0:=by simpa using hii
    clear hii
    refine wpOp_step rfl (fun K hK=>?_)
    go_simp
    refine hK _ _ ⟨hS1,?_⟩
    clear hK K
    refine wpAnyH_take (i:=7) (v:=?_) rfl (by kernel_rfl) (by kernel_rfl) (by kernel_rfl) (fun _ _ _ h=>h) (Or.inl ⟨by rfl,?_⟩) hS1 ?_
    rotate_left
    ·rintro W' ⟨s1,s2,s3⟩
     go_simp
     with_reducible rfl
    refine wpAnyH_all (rs:=[8]) (by kernel_rfl) (by simp) ?_
    intro ii hii
    obtain rfl:ii=8:=by simpa using hii
    clear hii
    refine wpOp_step rfl (fun K hK=>?_)
    go_simp
    have hS2:(fun W':World=>W'.cell? ⟨w.heap.size+1,0,none⟩=some (.slice A1_0 l1_0.length c1_0)∧W'.cell? ⟨W.heap.size,0,none⟩=some (.int .i64 (ja l0_0 g).f0)∧W'.cell? ⟨W.heap.size,1,none⟩=some (.int .i64 (ja l0_0 g).f1)) (w4.setCell ⟨w.heap.size+1+1,0,none⟩ (.string (AC ++ tx))):=⟨(World.cell?_setCell_far _ _ _ _ (by simp)).trans hS1.1,(World.cell?_setCell_far _ _ _ _ (by simp;omega)).trans hS1.2.1,(World.cell?_setCell_far _ _ _ _ (by simp;omega)).trans hS1.2.2⟩
    refine hK _ _ ⟨hS2,?_⟩
    clear hK K
    refine wpAnyH_done (by kernel_rfl) ?_ _
    exact ⟨hVK.trans ((KeepsFrom.jCb hb4 _).trans ((KeepsOthers.setCell _ _ _).from _)),fun _=>IR.out _ _ (IS.out _ _ _ (IB.out _ _ _ hVI hb4)),by show IV _ (ChEl.acc (pre ++ [⟨(ix,g),hx⟩]));rw [hF];exact IS.out _ _ _ (IB.out _ _ _ hVI hb4)⟩
  ·have hdb:=dzT hd
   obtain ⟨adl,rfl,hz⟩:=Kd.jMb (Kd.jC iR).2.2 (ix+1) (by omega) (by omega)
   have hwi:wrap64 (ix+1)=ix+1:=xwrC (by omega)
   have hwi2:IntKind.i64.wrap (ix+1)=ix+1:=IntWalk.i64_in _ (by omega)
   have p2:=ezT (show 0≤ix+1 by omega)
   have p3:=ezT (show ix+1<(l.length:Int) by omega)
   rcases hch with ⟨he,hch⟩ | ⟨he,hch⟩
   ·have heb:((ja l0_0 g).f2 == rd l (ix+1))=true:=by simpa using he
    have hF:ChEl.acc (pre ++ [⟨(ix,g),hx⟩])=(AC ++ (⟨#[32,62,32]⟩:ByteArray)) ++ tx:=by rw [hsn];unfold ChEl.txt;rw [hch];show AC ++ ((⟨#[32,62,32]⟩:ByteArray) ++ tx)=_;rw [ByteArray.append_assoc]
    clear hch hsn hd he
    have z0:AC.size+3≤9223372036854775807:=by first | omega |(rw [ByteArray.size_append];have:(⟨#[32,62,32]⟩:ByteArray).size=3:=rfl;have:(⟨#[32,126,32]⟩:ByteArray).size=3:=rfl;omega)
    have z1:=ezT z0
    have z2:=dzT z0
    have z3:(9223372036854775807<AC.size+3)=False:=eq_false (Nat.not_lt.2 z0)
    have y0:AC.size+3+tx.size≤9223372036854775807:=by first | omega |(rw [ByteArray.size_append];have:(⟨#[32,62,32]⟩:ByteArray).size=3:=rfl;have:(⟨#[32,126,32]⟩:ByteArray).size=3:=rfl;omega)
    have y1:=ezT y0
    have y2:=dzT y0
    have y3:(9223372036854775807<AC.size+3+tx.size)=False:=eq_false (Nat.not_lt.2 y0)
    have fO2:=(Boxed.jjc iO hbX).frozen
    have cO2:=(Boxed.jjc iO hbX).cell
    gi_wp2
    refine jIb (S:=(fun W':World=>W'.cell? ⟨W.heap.size,2,none⟩=some (.int .i64 (ja l0_0 g).f2)∧W'.cell? ⟨w1.heap.size,0,none⟩=some (.slice (some adl) l.length co)∧W'.cell? (adl.add (ix+1).toNat)=some (.int .i64 (rd l (ix+1))))) hmx (by kernel_rfl) ?hL ?_
    case hL=>rintro ⟨_,_,h⟩;exact h
    change wpAnyH _ _ _ _ _ _ _ _ (World.drew (W.alloc (.cells #[.int .i64 (ja l0_0 g).f0, .int .i64 (ja l0_0 g).f1, .int .i64 (ja l0_0 g).f2, .int .i64 (ja l0_0 g).f3, .bool (ja l0_0 g).f4] 66)))
    have hS9:(fun W':World=>W'.cell? ⟨W.heap.size,2,none⟩=some (.int .i64 (ja l0_0 g).f2)∧W'.cell? ⟨w1.heap.size,0,none⟩=some (.slice (some adl) l.length co)∧W'.cell? (adl.add (ix+1).toNat)=some (.int .i64 (rd l (ix+1)))) (World.drew (W.alloc (.cells #[.int .i64 (ja l0_0 g).f0, .int .i64 (ja l0_0 g).f1, .int .i64 (ja l0_0 g).f2, .int .i64 (ja l0_0 g).f3, .bool (ja l0_0 g).f4] 66))):=⟨(jF (jf (heap_alloc_new W (.cells #[.int .i64 (ja l0_0 g).f0, .int .i64 (ja l0_0 g).f1, .int .i64 (ja l0_0 g).f2, .int .i64 (ja l0_0 g).f3, .bool (ja l0_0 g).f4] 66))) 2).trans rfl,jV hbX cL,jV hbX hz⟩
    refine wpAnyH_take (i:=0) (v:=?_) rfl (by kernel_rfl) (by kernel_rfl) (by kernel_rfl) (fun _ _ _ h=>h) (Or.inl ⟨by rfl,?_⟩) hS9 ?_
    rotate_left
    ·rintro W' ⟨s1,s2,s3⟩
     go_simp
     with_reducible rfl
    refine wpAnyH_take (i:=1) (v:=?_) rfl (by kernel_rfl) (by kernel_rfl) (by kernel_rfl) (fun _ _ _ h=>h) (Or.inl ⟨by rfl,?_⟩) hS9 ?_
    rotate_left
    ·rintro W' ⟨s1,s2,s3⟩
     go_simp
     with_reducible rfl
    refine wpAnyH_take (i:=2) (v:=?_) rfl (by kernel_rfl) (by kernel_rfl) (by kernel_rfl) (fun _ _ _ h=>h) (Or.inl ⟨by rfl,?_⟩) hS9 ?_
    rotate_left
    ·rintro W' ⟨s1,s2,s3⟩
     go_simp
     with_reducible rfl
    refine wpAnyH_take (i:=3) (v:=?_) rfl (by kernel_rfl) (by kernel_rfl) (by kernel_rfl) (fun _ _ _ h=>h) (Or.inl ⟨by rfl,?_⟩) hS9 ?_
    rotate_left
    ·rintro W' ⟨s1,s2,s3⟩
     go_simp
     with_reducible rfl
    refine wpAnyH_take (i:=4) (v:=?_) rfl (by kernel_rfl) (by kernel_rfl) (by kernel_rfl) (fun _ _ _ h=>h) (Or.inl ⟨by rfl,?_⟩) hS9 ?_
    rotate_left
    ·rintro W' ⟨s1,s2,s3⟩
     go_simp
     with_reducible rfl
    refine wpAnyH_take (i:=5) (v:=?_) rfl (by kernel_rfl) (by kernel_rfl) (by kernel_rfl) (fun _ _ _ h=>h) (Or.inl ⟨by rfl,?_⟩) hS9 ?_
    rotate_left
    ·rintro W' ⟨s1,s2,s3⟩
     go_simp
     with_reducible rfl
    refine wpAnyH_take (i:=6) (v:=?_) rfl (by kernel_rfl) (by kernel_rfl) (by kernel_rfl) (fun _ _ _ h=>h) (Or.inl ⟨by rfl,?_⟩) hS9 ?_
    rotate_left
    ·rintro W' ⟨s1,s2,s3⟩
     go_simp
     with_reducible rfl
    refine wpAnyH_take (i:=7) (v:=?_) rfl (by kernel_rfl) (by kernel_rfl) (by kernel_rfl) (fun _ _ _ h=>h) (Or.inl ⟨by rfl,?_⟩) hS9 ?_
    rotate_left
    ·rintro W' ⟨s1,s2,s3⟩
     go_simp
     with_reducible rfl
    refine wpAnyH_done (by kernel_rfl) ?_ _
    rename_i K9 hK9
    refine hK9 _ _ ?_
    clear hK9
    go_simp
    gi_wp2
    refine jIb (S:=(fun W':World=>W'.cell? ⟨w.heap.size+1,0,none⟩=some (.slice A1_0 l1_0.length c1_0)∧W'.cell? ⟨W.heap.size,0,none⟩=some (.int .i64 (ja l0_0 g).f0)∧W'.cell? ⟨W.heap.size,1,none⟩=some (.int .i64 (ja l0_0 g).f1))) hmx (by kernel_rfl) ?hL ?_
    case hL=>rintro ⟨_,_,h⟩;exact h
    change wpAnyH _ _ _ _ _ _ _ _ (World.drew (World.drew ((W.setCell ⟨w.heap.size+1+1,0,none⟩ (.string (AC ++ (⟨#[32,62,32]⟩:ByteArray)))).alloc (.cells #[.int .i64 (ja l0_0 g).f0, .int .i64 (ja l0_0 g).f1, .int .i64 (ja l0_0 g).f2, .int .i64 (ja l0_0 g).f3, .bool (ja l0_0 g).f4] 66))))
    obtain ⟨V,hVe,hVI,hVK,hVX⟩:∃ V:World,World.drew (World.drew ((W.setCell ⟨w.heap.size+1+1,0,none⟩ (.string (AC ++ (⟨#[32,62,32]⟩:ByteArray)))).alloc (.cells #[.int .i64 (ja l0_0 g).f0, .int .i64 (ja l0_0 g).f1, .int .i64 (ja l0_0 g).f2, .int .i64 (ja l0_0 g).f3, .bool (ja l0_0 g).f4] 66)))=V∧IV V (AC ++ (⟨#[32,62,32]⟩:ByteArray))∧KeepsFrom W0.heap.size W V∧V.heap[W.heap.size]?=some (.cells #[.int .i64 (ja l0_0 g).f0, .int .i64 (ja l0_0 g).f1, .int .i64 (ja l0_0 g).f2, .int .i64 (ja l0_0 g).f3, .bool (ja l0_0 g).f4] 66 (0,0)):=⟨_,rfl,IB.out _ _ _ (IS.out _ _ _ hI) (jmb (jmb (jw (Below.refl _ _) _))),((KeepsOthers.setCell _ _ _).from _).trans (KeepsFrom.jCb (jmb (jmb (jw (Below.refl _ _) _))) _),(by have h:=jf (jf (heap_alloc_new (W.setCell ⟨w.heap.size+1+1,0,none⟩ (.string (AC ++ (⟨#[32,62,32]⟩:ByteArray)))) (.cells #[.int .i64 (ja l0_0 g).f0, .int .i64 (ja l0_0 g).f1, .int .i64 (ja l0_0 g).f2, .int .i64 (ja l0_0 g).f3, .bool (ja l0_0 g).f4] 66)));rw [show (W.setCell ⟨w.heap.size+1+1,0,none⟩ (.string (AC ++ (⟨#[32,62,32]⟩:ByteArray)))).heap.size=W.heap.size by simp] at h;exact h)⟩
    rw [hVe]
    clear hVe
    have hVI2:=hVI
    rw [hIV] at hVI2
    obtain ⟨⟨⟨⟨⟨⟨v0,v1⟩,vL⟩,vS⟩,vO⟩,vR⟩,vB⟩:=hVI2
    clear v0 vL vS vR c0 c1 cL cO fO
    have cO:=vO.cell
    have fO:=vO.frozen
    have hS0:(fun W':World=>W'.cell? ⟨w.heap.size+1,0,none⟩=some (.slice A1_0 l1_0.length c1_0)∧W'.cell? ⟨W.heap.size,0,none⟩=some (.int .i64 (ja l0_0 g).f0)∧W'.cell? ⟨W.heap.size,1,none⟩=some (.int .i64 (ja l0_0 g).f1)) V:=⟨v1.cell,(jF hVX 0).trans rfl,(jF hVX 1).trans rfl⟩
    refine wpAnyH_take (i:=1) (v:=?_) rfl (by kernel_rfl) (by kernel_rfl) (by kernel_rfl) (fun _ _ _ h=>h) (Or.inl ⟨by rfl,?_⟩) hS0 ?_
    rotate_left
    ·rintro W' ⟨s1,s2,s3⟩
     go_simp
     with_reducible rfl
    refine wpAnyH_take (i:=2) (v:=?_) rfl (by kernel_rfl) (by kernel_rfl) (by kernel_rfl) (fun _ _ _ h=>h) (Or.inl ⟨by rfl,?_⟩) hS0 ?_
    rotate_left
    ·rintro W' ⟨s1,s2,s3⟩
     go_simp
     with_reducible rfl
    refine wpAnyH_take (i:=3) (v:=?_) rfl (by kernel_rfl) (by kernel_rfl) (by kernel_rfl) (fun _ _ _ h=>h) (Or.inl ⟨by rfl,?_⟩) hS0 ?_
    rotate_left
    ·rintro W' ⟨s1,s2,s3⟩
     go_simp
     with_reducible rfl
    refine wpAnyH_take (i:=4) (v:=?_) rfl (by kernel_rfl) (by kernel_rfl) (by kernel_rfl) (fun _ _ _ h=>h) (Or.inl ⟨by rfl,?_⟩) hS0 ?_
    rotate_left
    ·rintro W' ⟨s1,s2,s3⟩
     go_simp
     with_reducible rfl
    refine wpAnyH_take (i:=5) (v:=?_) rfl (by kernel_rfl) (by kernel_rfl) (by kernel_rfl) (fun _ _ _ h=>h) (Or.inl ⟨by rfl,?_⟩) hS0 ?_
    rotate_left
    ·rintro W' ⟨s1,s2,s3⟩
     go_simp
     with_reducible rfl
    refine wpAnyH_all (rs:=[0,6]) (by kernel_rfl) (by simp) ?_
    intro ii hii
    rcases (by simpa using hii:ii=0∨ii=6) with rfl | rfl
    all_goals clear hii
    ·refine wpOp_step rfl (fun K hK=>?_)
     go_simp
     refine hK _ _ ⟨hS0,?_⟩
     clear hK K
     refine wpAnyH_all (rs:=[6]) (by kernel_rfl) (by simp) ?_
     intro ii hii
     obtain rfl:ii=6:=by simpa using hii
     clear hii
     refine wpOp_step rfl (fun K hK=>?_)
     go_simp
     refine (KT.out _ vB).mono ?_
     rintro e w4 ⟨rfl,hb4⟩
     have hS1:(fun W':World=>W'.cell? ⟨w.heap.size+1,0,none⟩=some (.slice A1_0 l1_0.length c1_0)∧W'.cell? ⟨W.heap.size,0,none⟩=some (.int .i64 (ja l0_0 g).f0)∧W'.cell? ⟨W.heap.size,1,none⟩=some (.int .i64 (ja l0_0 g).f1)) w4:=⟨jV hb4 hS0.1,jV hb4 hS0.2.1,jV hb4 hS0.2.2⟩
     have hO4:=Boxed.jjc vO hb4
     have cO4:=hO4.cell
     have fO4:=hO4.frozen
     refine hK _ _ ⟨hS1,?_⟩
     clear hK K
     refine wpAnyH_take (i:=7) (v:=?_) rfl (by kernel_rfl) (by kernel_rfl) (by kernel_rfl) (fun _ _ _ h=>h) (Or.inl ⟨by rfl,?_⟩) hS1 ?_
     rotate_left
     ·rintro W' ⟨s1,s2,s3⟩
      go_simp
      with_reducible rfl
     refine wpAnyH_all (rs:=[8]) (by kernel_rfl) (by simp) ?_
     intro ii hii
     obtain rfl:ii=8:=by simpa using hii
     clear hii
     refine wpOp_step rfl (fun K hK=>?_)
     go_simp
     have hS2:(fun W':World=>W'.cell? ⟨w.heap.size+1,0,none⟩=some (.slice A1_0 l1_0.length c1_0)∧W'.cell? ⟨W.heap.size,0,none⟩=some (.int .i64 (ja l0_0 g).f0)∧W'.cell? ⟨W.heap.size,1,none⟩=some (.int .i64 (ja l0_0 g).f1)) (w4.setCell ⟨w.heap.size+1+1,0,none⟩ (.string ((AC ++ (⟨#[32,62,32]⟩:ByteArray)) ++ tx))):=⟨(World.cell?_setCell_far _ _ _ _ (by simp)).trans hS1.1,(World.cell?_setCell_far _ _ _ _ (by simp;omega)).trans hS1.2.1,(World.cell?_setCell_far _ _ _ _ (by simp;omega)).trans hS1.2.2⟩
     refine hK _ _ ⟨hS2,?_⟩
     clear hK K
     refine wpAnyH_done (by kernel_rfl) ?_ _
     exact ⟨hVK.trans ((KeepsFrom.jCb hb4 _).trans ((KeepsOthers.setCell _ _ _).from _)),fun _=>IR.out _ _ (IS.out _ _ _ (IB.out _ _ _ hVI hb4)),by show IV _ (ChEl.acc (pre ++ [⟨(ix,g),hx⟩]));rw [hF];exact IS.out _ _ _ (IB.out _ _ _ hVI hb4)⟩
    ·refine wpOp_step rfl (fun K hK=>?_)
     go_simp
     refine (KT.out _ vB).mono ?_
     rintro e w4 ⟨rfl,hb4⟩
     have hS1:(fun W':World=>W'.cell? ⟨w.heap.size+1,0,none⟩=some (.slice A1_0 l1_0.length c1_0)∧W'.cell? ⟨W.heap.size,0,none⟩=some (.int .i64 (ja l0_0 g).f0)∧W'.cell? ⟨W.heap.size,1,none⟩=some (.int .i64 (ja l0_0 g).f1)) w4:=⟨jV hb4 hS0.1,jV hb4 hS0.2.1,jV hb4 hS0.2.2⟩
     have hO4:=Boxed.jjc vO hb4
     have cO4:=hO4.cell
     have fO4:=hO4.frozen
     refine hK _ _ ⟨hS1,?_⟩
     clear hK K
     refine wpAnyH_all (rs:=[0]) (by kernel_rfl) (by simp) ?_
     intro ii hii
     obtain rfl:ii=0:=by simpa using hii
     clear hii
     refine wpOp_step rfl (fun K hK=>?_)
     go_simp
     refine hK _ _ ⟨hS1,?_⟩
     clear hK K
     refine wpAnyH_take (i:=7) (v:=?_) rfl (by kernel_rfl) (by kernel_rfl) (by kernel_rfl) (fun _ _ _ h=>h) (Or.inl ⟨by rfl,?_⟩) hS1 ?_
     rotate_left
     ·rintro W' ⟨s1,s2,s3⟩
      go_simp
      with_reducible rfl
     refine wpAnyH_all (rs:=[8]) (by kernel_rfl) (by simp) ?_
     intro ii hii
     obtain rfl:ii=8:=by simpa using hii
     clear hii
     refine wpOp_step rfl (fun K hK=>?_)
     go_simp
     have hS2:(fun W':World=>W'.cell? ⟨w.heap.size+1,0,none⟩=some (.slice A1_0 l1_0.length c1_0)∧W'.cell? ⟨W.heap.size,0,none⟩=some (.int .i64 (ja l0_0 g).f0)∧W'.cell? ⟨W.heap.size,1,none⟩=some (.int .i64 (ja l0_0 g).f1)) (w4.setCell ⟨w.heap.size+1+1,0,none⟩ (.string ((AC ++ (⟨#[32,62,32]⟩:ByteArray)) ++ tx))):=⟨(World.cell?_setCell_far _ _ _ _ (by simp)).trans hS1.1,(World.cell?_setCell_far _ _ _ _ (by simp;omega)).trans hS1.2.1,(World.cell?_setCell_far _ _ _ _ (by simp;omega)).trans hS1.2.2⟩
     refine hK _ _ ⟨hS2,?_⟩
     clear hK K
     refine wpAnyH_done (by kernel_rfl) ?_ _
     exact ⟨hVK.trans ((KeepsFrom.jCb hb4 _).trans ((KeepsOthers.setCell _ _ _).from _)),fun _=>IR.out _ _ (IS.out _ _ _ (IB.out _ _ _ hVI hb4)),by show IV _ (ChEl.acc (pre ++ [⟨(ix,g),hx⟩]));rw [hF];exact IS.out _ _ _ (IB.out _ _ _ hVI hb4)⟩
   ·have heb:((ja l0_0 g).f2 == rd l (ix+1))=false:=by simpa using he
    have hF:ChEl.acc (pre ++ [⟨(ix,g),hx⟩])=(AC ++ (⟨#[32,126,32]⟩:ByteArray)) ++ tx:=by rw [hsn];unfold ChEl.txt;rw [hch];show AC ++ ((⟨#[32,126,32]⟩:ByteArray) ++ tx)=_;rw [ByteArray.append_assoc]
    clear hch hsn hd he
    have z0:AC.size+3≤9223372036854775807:=by first | omega |(rw [ByteArray.size_append];have:(⟨#[32,62,32]⟩:ByteArray).size=3:=rfl;have:(⟨#[32,126,32]⟩:ByteArray).size=3:=rfl;omega)
    have z1:=ezT z0
    have z2:=dzT z0
    have z3:(9223372036854775807<AC.size+3)=False:=eq_false (Nat.not_lt.2 z0)
    have y0:AC.size+3+tx.size≤9223372036854775807:=by first | omega |(rw [ByteArray.size_append];have:(⟨#[32,62,32]⟩:ByteArray).size=3:=rfl;have:(⟨#[32,126,32]⟩:ByteArray).size=3:=rfl;omega)
    have y1:=ezT y0
    have y2:=dzT y0
    have y3:(9223372036854775807<AC.size+3+tx.size)=False:=eq_false (Nat.not_lt.2 y0)
    have fO2:=(Boxed.jjc iO hbX).frozen
    have cO2:=(Boxed.jjc iO hbX).cell
    gi_wp2
    refine jIb (S:=(fun W':World=>W'.cell? ⟨W.heap.size,2,none⟩=some (.int .i64 (ja l0_0 g).f2)∧W'.cell? ⟨w1.heap.size,0,none⟩=some (.slice (some adl) l.length co)∧W'.cell? (adl.add (ix+1).toNat)=some (.int .i64 (rd l (ix+1))))) hmx (by kernel_rfl) ?hL ?_
    case hL=>rintro ⟨_,_,h⟩;exact h
    change wpAnyH _ _ _ _ _ _ _ _ (World.drew (W.alloc (.cells #[.int .i64 (ja l0_0 g).f0, .int .i64 (ja l0_0 g).f1, .int .i64 (ja l0_0 g).f2, .int .i64 (ja l0_0 g).f3, .bool (ja l0_0 g).f4] 66)))
    have hS9:(fun W':World=>W'.cell? ⟨W.heap.size,2,none⟩=some (.int .i64 (ja l0_0 g).f2)∧W'.cell? ⟨w1.heap.size,0,none⟩=some (.slice (some adl) l.length co)∧W'.cell? (adl.add (ix+1).toNat)=some (.int .i64 (rd l (ix+1)))) (World.drew (W.alloc (.cells #[.int .i64 (ja l0_0 g).f0, .int .i64 (ja l0_0 g).f1, .int .i64 (ja l0_0 g).f2, .int .i64 (ja l0_0 g).f3, .bool (ja l0_0 g).f4] 66))):=⟨(jF (jf (heap_alloc_new W (.cells #[.int .i64 (ja l0_0 g).f0, .int .i64 (ja l0_0 g).f1, .int .i64 (ja l0_0 g).f2, .int .i64 (ja l0_0 g).f3, .bool (ja l0_0 g).f4] 66))) 2).trans rfl,jV hbX cL,jV hbX hz⟩
    refine wpAnyH_take (i:=0) (v:=?_) rfl (by kernel_rfl) (by kernel_rfl) (by kernel_rfl) (fun _ _ _ h=>h) (Or.inl ⟨by rfl,?_⟩) hS9 ?_
    rotate_left
    ·rintro W' ⟨s1,s2,s3⟩
     go_simp
     with_reducible rfl
    refine wpAnyH_take (i:=1) (v:=?_) rfl (by kernel_rfl) (by kernel_rfl) (by kernel_rfl) (fun _ _ _ h=>h) (Or.inl ⟨by rfl,?_⟩) hS9 ?_
    rotate_left
    ·rintro W' ⟨s1,s2,s3⟩
     go_simp
     with_reducible rfl
    refine wpAnyH_take (i:=2) (v:=?_) rfl (by kernel_rfl) (by kernel_rfl) (by kernel_rfl) (fun _ _ _ h=>h) (Or.inl ⟨by rfl,?_⟩) hS9 ?_
    rotate_left
    ·rintro W' ⟨s1,s2,s3⟩
     go_simp
     with_reducible rfl
    refine wpAnyH_take (i:=3) (v:=?_) rfl (by kernel_rfl) (by kernel_rfl) (by kernel_rfl) (fun _ _ _ h=>h) (Or.inl ⟨by rfl,?_⟩) hS9 ?_
    rotate_left
    ·rintro W' ⟨s1,s2,s3⟩
     go_simp
     with_reducible rfl
    refine wpAnyH_take (i:=4) (v:=?_) rfl (by kernel_rfl) (by kernel_rfl) (by kernel_rfl) (fun _ _ _ h=>h) (Or.inl ⟨by rfl,?_⟩) hS9 ?_
    rotate_left
    ·rintro W' ⟨s1,s2,s3⟩
     go_simp
     with_reducible rfl
    refine wpAnyH_take (i:=5) (v:=?_) rfl (by kernel_rfl) (by kernel_rfl) (by kernel_rfl) (fun _ _ _ h=>h) (Or.inl ⟨by rfl,?_⟩) hS9 ?_
    rotate_left
    ·rintro W' ⟨s1,s2,s3⟩
     go_simp
     with_reducible rfl
    refine wpAnyH_take (i:=6) (v:=?_) rfl (by kernel_rfl) (by kernel_rfl) (by kernel_rfl) (fun _ _ _ h=>h) (Or.inl ⟨by rfl,?_⟩) hS9 ?_
    rotate_left
    ·rintro W' ⟨s1,s2,s3⟩
     go_simp
     with_reducible rfl
    refine wpAnyH_take (i:=7) (v:=?_) rfl (by kernel_rfl) (by kernel_rfl) (by kernel_rfl) (fun _ _ _ h=>h) (Or.inl ⟨by rfl,?_⟩) hS9 ?_
    rotate_left
    ·rintro W' ⟨s1,s2,s3⟩
     go_simp
     with_reducible rfl
    refine wpAnyH_done (by kernel_rfl) ?_ _
    rename_i K9 hK9
    refine hK9 _ _ ?_
    clear hK9
    go_simp
    gi_wp2
    refine jIb (S:=(fun W':World=>W'.cell? ⟨w.heap.size+1,0,none⟩=some (.slice A1_0 l1_0.length c1_0)∧W'.cell? ⟨W.heap.size,0,none⟩=some (.int .i64 (ja l0_0 g).f0)∧W'.cell? ⟨W.heap.size,1,none⟩=some (.int .i64 (ja l0_0 g).f1))) hmx (by kernel_rfl) ?hL ?_
    case hL=>rintro ⟨_,_,h⟩;exact h
    change wpAnyH _ _ _ _ _ _ _ _ (World.drew (World.drew ((W.setCell ⟨w.heap.size+1+1,0,none⟩ (.string (AC ++ (⟨#[32,126,32]⟩:ByteArray)))).alloc (.cells #[.int .i64 (ja l0_0 g).f0, .int .i64 (ja l0_0 g).f1, .int .i64 (ja l0_0 g).f2, .int .i64 (ja l0_0 g).f3, .bool (ja l0_0 g).f4] 66))))
    obtain ⟨V,hVe,hVI,hVK,hVX⟩:∃ V:World,World.drew (World.drew ((W.setCell ⟨w.heap.size+1+1,0,none⟩ (.string (AC ++ (⟨#[32,126,32]⟩:ByteArray)))).alloc (.cells #[.int .i64 (ja l0_0 g).f0, .int .i64 (ja l0_0 g).f1, .int .i64 (ja l0_0 g).f2, .int .i64 (ja l0_0 g).f3, .bool (ja l0_0 g).f4] 66)))=V∧IV V (AC ++ (⟨#[32,126,32]⟩:ByteArray))∧KeepsFrom W0.heap.size W V∧V.heap[W.heap.size]?=some (.cells #[.int .i64 (ja l0_0 g).f0, .int .i64 (ja l0_0 g).f1, .int .i64 (ja l0_0 g).f2, .int .i64 (ja l0_0 g).f3, .bool (ja l0_0 g).f4] 66 (0,0)):=⟨_,rfl,IB.out _ _ _ (IS.out _ _ _ hI) (jmb (jmb (jw (Below.refl _ _) _))),((KeepsOthers.setCell _ _ _).from _).trans (KeepsFrom.jCb (jmb (jmb (jw (Below.refl _ _) _))) _),(by have h:=jf (jf (heap_alloc_new (W.setCell ⟨w.heap.size+1+1,0,none⟩ (.string (AC ++ (⟨#[32,126,32]⟩:ByteArray)))) (.cells #[.int .i64 (ja l0_0 g).f0, .int .i64 (ja l0_0 g).f1, .int .i64 (ja l0_0 g).f2, .int .i64 (ja l0_0 g).f3, .bool (ja l0_0 g).f4] 66)));rw [show (W.setCell ⟨w.heap.size+1+1,0,none⟩ (.string (AC ++ (⟨#[32,126,32]⟩:ByteArray)))).heap.size=W.heap.size by simp] at h;exact h)⟩
    rw [hVe]
    clear hVe
    have hVI2:=hVI
    rw [hIV] at hVI2
    obtain ⟨⟨⟨⟨⟨⟨v0,v1⟩,vL⟩,vS⟩,vO⟩,vR⟩,vB⟩:=hVI2
    clear v0 vL vS vR c0 c1 cL cO fO
    have cO:=vO.cell
    have fO:=vO.frozen
    have hS0:(fun W':World=>W'.cell? ⟨w.heap.size+1,0,none⟩=some (.slice A1_0 l1_0.length c1_0)∧W'.cell? ⟨W.heap.size,0,none⟩=some (.int .i64 (ja l0_0 g).f0)∧W'.cell? ⟨W.heap.size,1,none⟩=some (.int .i64 (ja l0_0 g).f1)) V:=⟨v1.cell,(jF hVX 0).trans rfl,(jF hVX 1).trans rfl⟩
    refine wpAnyH_take (i:=1) (v:=?_) rfl (by kernel_rfl) (by kernel_rfl) (by kernel_rfl) (fun _ _ _ h=>h) (Or.inl ⟨by rfl,?_⟩) hS0 ?_
    rotate_left
    ·rintro W' ⟨s1,s2,s3⟩
     go_simp
     with_reducible rfl
    refine wpAnyH_take (i:=2) (v:=?_) rfl (by kernel_rfl) (by kernel_rfl) (by kernel_rfl) (fun _ _ _ h=>h) (Or.inl ⟨by rfl,?_⟩) hS0 ?_
    rotate_left
    ·rintro W' ⟨s1,s2,s3⟩
     go_simp
     with_reducible rfl
    refine wpAnyH_take (i:=3) (v:=?_) rfl (by kernel_rfl) (by kernel_rfl) (by kernel_rfl) (fun _ _ _ h=>h) (Or.inl ⟨by rfl,?_⟩) hS0 ?_
    rotate_left
    ·rintro W' ⟨s1,s2,s3⟩
     go_simp
     with_reducible rfl
    refine wpAnyH_take (i:=4) (v:=?_) rfl (by kernel_rfl) (by kernel_rfl) (by kernel_rfl) (fun _ _ _ h=>h) (Or.inl ⟨by rfl,?_⟩) hS0 ?_
    rotate_left
    ·rintro W' ⟨s1,s2,s3⟩
     go_simp
     with_reducible rfl
    refine wpAnyH_take (i:=5) (v:=?_) rfl (by kernel_rfl) (by kernel_rfl) (by kernel_rfl) (fun _ _ _ h=>h) (Or.inl ⟨by rfl,?_⟩) hS0 ?_
    rotate_left
    ·rintro W' ⟨s1,s2,s3⟩
     go_simp
     with_reducible rfl
    refine wpAnyH_all (rs:=[0,6]) (by kernel_rfl) (by simp) ?_
    intro ii hii
    rcases (by simpa using hii:ii=0∨ii=6) with rfl | rfl
    all_goals clear hii
    ·refine wpOp_step rfl (fun K hK=>?_)
     go_simp
     refine hK _ _ ⟨hS0,?_⟩
     clear hK K
     refine wpAnyH_all (rs:=[6]) (by kernel_rfl) (by simp) ?_
     intro ii hii
     obtain rfl:ii=6:=by simpa using hii
     clear hii
     refine wpOp_step rfl (fun K hK=>?_)
     go_simp
     refine (KT.out _ vB).mono ?_
     rintro e w4 ⟨rfl,hb4⟩
     have hS1:(fun W':World=>W'.cell? ⟨w.heap.size+1,0,none⟩=some (.slice A1_0 l1_0.length c1_0)∧W'.cell? ⟨W.heap.size,0,none⟩=some (.int .i64 (ja l0_0 g).f0)∧W'.cell? ⟨W.heap.size,1,none⟩=some (.int .i64 (ja l0_0 g).f1)) w4:=⟨jV hb4 hS0.1,jV hb4 hS0.2.1,jV hb4 hS0.2.2⟩
     have hO4:=Boxed.jjc vO hb4
     have cO4:=hO4.cell
     have fO4:=hO4.frozen
     refine hK _ _ ⟨hS1,?_⟩
     clear hK K
     refine wpAnyH_take (i:=7) (v:=?_) rfl (by kernel_rfl) (by kernel_rfl) (by kernel_rfl) (fun _ _ _ h=>h) (Or.inl ⟨by rfl,?_⟩) hS1 ?_
     rotate_left
     ·rintro W' ⟨s1,s2,s3⟩
      go_simp
      with_reducible rfl
     refine wpAnyH_all (rs:=[8]) (by kernel_rfl) (by simp) ?_
     intro ii hii
     obtain rfl:ii=8:=by simpa using hii
     clear hii
     refine wpOp_step rfl (fun K hK=>?_)
     go_simp
     have hS2:(fun W':World=>W'.cell? ⟨w.heap.size+1,0,none⟩=some (.slice A1_0 l1_0.length c1_0)∧W'.cell? ⟨W.heap.size,0,none⟩=some (.int .i64 (ja l0_0 g).f0)∧W'.cell? ⟨W.heap.size,1,none⟩=some (.int .i64 (ja l0_0 g).f1)) (w4.setCell ⟨w.heap.size+1+1,0,none⟩ (.string ((AC ++ (⟨#[32,126,32]⟩:ByteArray)) ++ tx))):=⟨(World.cell?_setCell_far _ _ _ _ (by simp)).trans hS1.1,(World.cell?_setCell_far _ _ _ _ (by simp;omega)).trans hS1.2.1,(World.cell?_setCell_far _ _ _ _ (by simp;omega)).trans hS1.2.2⟩
     refine hK _ _ ⟨hS2,?_⟩
     clear hK K
     refine wpAnyH_done (by kernel_rfl) ?_ _
     exact ⟨hVK.trans ((KeepsFrom.jCb hb4 _).trans ((KeepsOthers.setCell _ _ _).from _)),fun _=>IR.out _ _ (IS.out _ _ _ (IB.out _ _ _ hVI hb4)),by show IV _ (ChEl.acc (pre ++ [⟨(ix,g),hx⟩]));rw [hF];exact IS.out _ _ _ (IB.out _ _ _ hVI hb4)⟩
    ·refine wpOp_step rfl (fun K hK=>?_)
     go_simp
     refine (KT.out _ vB).mono ?_
     rintro e w4 ⟨rfl,hb4⟩
     have hS1:(fun W':World=>W'.cell? ⟨w.heap.size+1,0,none⟩=some (.slice A1_0 l1_0.length c1_0)∧W'.cell? ⟨W.heap.size,0,none⟩=some (.int .i64 (ja l0_0 g).f0)∧W'.cell? ⟨W.heap.size,1,none⟩=some (.int .i64 (ja l0_0 g).f1)) w4:=⟨jV hb4 hS0.1,jV hb4 hS0.2.1,jV hb4 hS0.2.2⟩
     have hO4:=Boxed.jjc vO hb4
     have cO4:=hO4.cell
     have fO4:=hO4.frozen
     refine hK _ _ ⟨hS1,?_⟩
     clear hK K
     refine wpAnyH_all (rs:=[0]) (by kernel_rfl) (by simp) ?_
     intro ii hii
     obtain rfl:ii=0:=by simpa using hii
     clear hii
     refine wpOp_step rfl (fun K hK=>?_)
     go_simp
     refine hK _ _ ⟨hS1,?_⟩
     clear hK K
     refine wpAnyH_take (i:=7) (v:=?_) rfl (by kernel_rfl) (by kernel_rfl) (by kernel_rfl) (fun _ _ _ h=>h) (Or.inl ⟨by rfl,?_⟩) hS1 ?_
     rotate_left
     ·rintro W' ⟨s1,s2,s3⟩
      go_simp
      with_reducible rfl
     refine wpAnyH_all (rs:=[8]) (by kernel_rfl) (by simp) ?_
     intro ii hii
     obtain rfl:ii=8:=by simpa using hii
     clear hii
     refine wpOp_step rfl (fun K hK=>?_)
     go_simp
     have hS2:(fun W':World=>W'.cell? ⟨w.heap.size+1,0,none⟩=some (.slice A1_0 l1_0.length c1_0)∧W'.cell? ⟨W.heap.size,0,none⟩=some (.int .i64 (ja l0_0 g).f0)∧W'.cell? ⟨W.heap.size,1,none⟩=some (.int .i64 (ja l0_0 g).f1)) (w4.setCell ⟨w.heap.size+1+1,0,none⟩ (.string ((AC ++ (⟨#[32,126,32]⟩:ByteArray)) ++ tx))):=⟨(World.cell?_setCell_far _ _ _ _ (by simp)).trans hS1.1,(World.cell?_setCell_far _ _ _ _ (by simp;omega)).trans hS1.2.1,(World.cell?_setCell_far _ _ _ _ (by simp;omega)).trans hS1.2.2⟩
     refine hK _ _ ⟨hS2,?_⟩
     clear hK K
     refine wpAnyH_done (by kernel_rfl) ?_ _
     exact ⟨hVK.trans ((KeepsFrom.jCb hb4 _).trans ((KeepsOthers.setCell _ _ _).from _)),fun _=>IR.out _ _ (IS.out _ _ _ (IB.out _ _ _ hVI hb4)),by show IV _ (ChEl.acc (pre ++ [⟨(ix,g),hx⟩]));rw [hF];exact IS.out _ _ _ (IB.out _ _ _ hVI hb4)⟩
 case done =>
  rintro D ys W hD rfl hI hK
  have hI1:=hI
  rw [hIV] at hI1
  obtain ⟨⟨⟨⟨⟨⟨i0,i1⟩,iL⟩,iS⟩,iO⟩,iR⟩,hB⟩:=hI1
  have hr2:ChEl.acc (uptoC (ChEl.of l1_0 l0_0 l hz0) l.length)=r:=by
   have h2:=ChEl.acc_all hz0 l.length r (Nat.le_refl _) h
   rw [← h2]
   unfold ChEl.acc uptoC
   rw [List.map_map]
   congr 1
   apply List.map_congr_left
   intro j _
   show (ChEl.of l1_0 l0_0 l hz0 j).txt=_
   rw [show l.length - l.length+j=j by omega]
  rw [hr2] at iO
  have cO:=iO.cell
  gi_wp2
  refine ⟨by simp, .inl ⟨_,_,rfl,run_takeDeferred hK,?_⟩⟩
  refine ⟨.string r,?_,rfl,hB.trans (belowK_b (w:=w) (Nat.le_refl _) W D _ _ (by omega) hK rfl rfl)⟩
  simp [results,Tryd.f33,go_sem]
 case stop =>
  rintro D c pre W hD ⟨q,hq,rfl⟩ h hK
  exact h.elim
end
def jJa.f (k : Nat) (l0_0 : List (S99)) (l1_0 : List (S66)) (a2 : Int) : Option (ByteArray) := (jcb.f k l0_0 l1_0 (([a2] : List Int))).bind fun t415 => (if t415 = true then ((jIa.f k l1_0 l0_0 a2).bind fun t416 => (some t416)) else (some (⟨#[]⟩ : ByteArray)))
set_option maxHeartbeats 8000000 in
set_option maxRecDepth 100000 in
theorem jJa.calls (k : Nat) (A0_0 : Option Addr) (c0_0 : Nat) (l0_0 : List (S99)) (A1_0 : Option Addr) (c1_0 : Nat) (l1_0 : List (S66)) (a2 : Int) (r : ByteArray) (w : World) (hr0_0 : Kd.C k99 w A0_0 l0_0.length l0_0) (hc0_0 : l0_0.length ≤ c0_0) (hr1_0 : Kd.C k66 w A1_0 l1_0.length l1_0) (hc1_0 : l1_0.length ≤ c1_0) (h : jJa.f k l0_0 l1_0 a2 = some r) :
  Calls Tryd.prog 11 #[.agg #[.slice A0_0 l0_0.length c0_0], .agg #[.slice A1_0 l1_0.length c1_0], .int .i64 a2] w fun e w'=>e=.returned (.string r)∧Below w.heap.size w w':=by
 have hu25:=Tryd.underlying25
 have hu28:=Tryd.underlying28
 have HR0_0:=am hr0_0
 have HC0_0:=am hc0_0
 clear hr0_0 hc0_0
 have HR1_0:=am hr1_0
 have HC1_0:=am hc1_0
 clear hr1_0 hc1_0
 have HB:=am (Below.refl w.heap.size w)
 have H:((jcb.f k l0_0 l1_0 (([a2]:List Int))).bind fun t415=>(if t415=true then ((jIa.f k l1_0 l0_0 a2).bind fun t416=>(some t416)) else (some (⟨#[]⟩:ByteArray))))=some r:=h
 clear h
 obtain ⟨y412,hy412⟩:∃ y_:List Int,y_=(([a2]:List Int)):=⟨_,rfl⟩
 replace H:((jcb.f k l0_0 l1_0 y412).bind fun t415=>(if t415=true then ((jIa.f k l1_0 l0_0 a2).bind fun t416=>(some t416)) else (some (⟨#[]⟩:ByteArray))))=some r:=by first |(rw [hy412];with_reducible exact H) |(have H2_:=(Option.bind_some _ _).symm.trans H;rw [hy412];with_reducible exact H2_) |(have H2_:=(Option.bind_some _ _).symm.trans H;with_reducible exact H2_) | with_reducible exact H |(rw [hy412];exact H) | exact H
 have Ny412:=am hy412
 clear hy412
 replace H:=bzS H
 obtain ⟨t415,A40,H⟩:=H
 replace H:(if t415=true then ((jIa.f k l1_0 l0_0 a2).bind fun t416=>(some t416)) else (some (⟨#[]⟩:ByteArray)))=some r:=H
 have A4:=am A40
 clear A40
 by_cases c5:t415=true
 ·subst c5
  have H1:((jIa.f k l1_0 l0_0 a2).bind fun t416=>(some t416))=some r:=by rw [if_pos rfl] at H;exact H
  clear H
  have H:=H1
  clear H1
  replace H:=bzS H
  obtain ⟨t416,A60,H⟩:=H
  replace H:(some t416)=some r:=H
  have A6:=am A60
  clear A60
  obtain rfl:=Option.some.inj H
  go_enter Tryd.func11,Tryd.ntmps11
  go_wp2_with (first |((with_reducible refine jH (N:=3) rfl ?_);refine bE (N:=3) (cs:=#[.slice A0_0 l0_0.length c0_0]) (t:=25) ?_;intro gb410 hg w7 hbox hb;have BK410:=am (hbox);have GW410:=am ((Y0:w.heap.size≤gb410));have GE410:=am ((Y0:w.heap.size≤gb410));replace HB:=am (jh (bq) hb);clear hb hbox hg) |((with_reducible refine jH (N:=4) rfl ?_);refine bE (N:=4) (cs:=#[.slice A1_0 l1_0.length c1_0]) (t:=28) ?_;intro gb411 hg w8 hbox hb;have BK411:=am (hbox);have GW411:=am ((Y108:w.heap.size≤gb411));have GE411:=am ((Y108:w.heap.size≤gb411));have NB410_411:=am ((by rw [hg];exact Nat.ne_of_lt (jX (g:=gb410) (o:=.cells #[.slice A0_0 l0_0.length c0_0] 25 (0,0)) (kq BK410.out)):gb410≠gb411));have NB411_410:=am ((by rw [hg];exact Nat.ne_of_gt (jX (g:=gb410) (o:=.cells #[.slice A0_0 l0_0.length c0_0] 25 (0,0)) (kq BK410.out)):gb411≠gb410));replace BK410:=am (jc (g:=gb410) (o:=.cells #[.slice A0_0 l0_0.length c0_0] 25 (0,0)) (kq BK410.out) hb);replace HB:=am (jh (Y176) hb);clear hb hbox hg;have hnb9:=NB410_411.out;have hnc9:=NB411_410.out;have hcz10_0:=bc0 BK410.out;have hfz10_0:=jb BK410.out 0;have hcz11_0:=bc0 BK411.out;have hfz11_0:=jb BK411.out 0) |((with_reducible refine jH (N:=10) rfl ?_);refine Kd.R_lit (Kd.int .i64) _ 3 ?hg (N:=10) ?hd (xs:=([a2]:List Int)) (inner:=[.int .i64 a2]) (ok:=fun _=>True) (okp:=fun _=>True) ?hr ?hp (fun _ hk=>hk) trivial (Below.refl _ _) (Nat.le_refl _) (by simp) ?_;(case hd=>rfl);(case hg=>rfl);(case hr=>exact Y4);(case hp=>exact (Reps.one (show Kd.M (Kd.int .i64) _ _ _ a2 [.int .i64 a2] from rfl) (Reps.none _ _)));intro v413 w12 ho13 hb hg_ hnew_;clear hg_ hnew_;(first | rw [← Ny412.out] at ho13 |(simp only [Int.reduceToNat] at ho13;rw [← Ny412.out] at ho13));have HO414:=am (Kd.joa ho13 (jP (Y43)));replace BK410:=am (jc (g:=gb410) (o:=.cells #[.slice A0_0 l0_0.length c0_0] 25 (0,0)) (kq BK410.out) hb);replace BK411:=am (jc (g:=gb411) (o:=.cells #[.slice A1_0 l1_0.length c1_0] 28 (0,0)) (kq BK411.out) hb);replace HB:=am (jh (Y43) hb);clear hb ho13;obtain ⟨Ao14,co14,eo14⟩:=Kd.jaa HO414.out;subst eo14) |((with_reducible refine jD (f:=28) rfl ?_);refine gL (some 11) Tryd.func28 #[.agg #[.slice A0_0 l0_0.length c0_0], .agg #[.slice A1_0 l1_0.length c1_0], .slice Ao14 y412.length co14] ?_;(with_reducible refine (jcb.calls k _ _ l0_0 _ _ l1_0 _ _ y412 true _ ?side1 ?side2 ?side3 ?side4 ?side5 ?side6 A4.out).mono ?_);(case side1=>exact cq (Kd.jba HR0_0.out HB.out));(case side2=>exact HC0_0.out);(case side3=>exact cq (Kd.jba HR1_0.out HB.out));(case side4=>exact HC1_0.out);(case side5=>exact cq (Kd.jC HO414.out).2.2);(case side6=>exact (Kd.jC HO414.out).2.1);rintro e w15 ⟨rfl,hb⟩;refine ⟨_,rfl,?_⟩;replace HO414:=am (Kd.jL (rq HO414.out) hb);replace BK410:=am (jc (g:=gb410) (o:=.cells #[.slice A0_0 l0_0.length c0_0] 25 (0,0)) (kq BK410.out) hb);replace BK411:=am (jc (g:=gb411) (o:=.cells #[.slice A1_0 l1_0.length c1_0] 28 (0,0)) (kq BK411.out) hb);replace HB:=am (jh (Y43) hb);(try clear hb);(try clear hb2);(try clear hk);(try clear hi);have hcz16_0:=bc0 BK411.out;have hfz16_0:=jb BK411.out 0;have hcz17_0:=bc0 BK410.out;have hfz17_0:=jb BK410.out 0) |((with_reducible refine jD (f:=33) rfl ?_);refine gL (some 16) Tryd.func33 #[.agg #[.slice A1_0 l1_0.length c1_0], .agg #[.slice A0_0 l0_0.length c0_0], .int .i64 a2] ?_;(with_reducible refine (jIa.calls k _ _ l1_0 _ _ l0_0 a2 t416 _ ?side1 ?side2 ?side3 ?side4 A6.out).mono ?_);(case side1=>exact cq (Kd.jba HR1_0.out HB.out));(case side2=>exact HC1_0.out);(case side3=>exact cq (Kd.jba HR0_0.out HB.out));(case side4=>exact HC0_0.out);rintro e w18 ⟨rfl,hb⟩;refine ⟨_,rfl,?_⟩;replace HO414:=am (Kd.jL (rq HO414.out) hb);replace BK410:=am (jc (g:=gb410) (o:=.cells #[.slice A0_0 l0_0.length c0_0] 25 (0,0)) (kq BK410.out) hb);replace BK411:=am (jc (g:=gb411) (o:=.cells #[.slice A1_0 l1_0.length c1_0] 28 (0,0)) (kq BK411.out) hb);replace HB:=am (jh (Y43) hb);(try clear hb);(try clear hb2);(try clear hk);(try clear hi)))
  go_ret
  exact ⟨Y2,Y43⟩
 ·replace c5:=Bool.eq_false_iff.mpr c5
  subst c5
  have H1:(some (⟨#[]⟩:ByteArray))=some r:=by rw [if_neg (show ¬ (false=true) by decide)] at H;exact H
  clear H
  have H:=H1
  clear H1
  obtain rfl:=Option.some.inj H
  go_enter Tryd.func11,Tryd.ntmps11
  go_wp2_with (first |((with_reducible refine jH (N:=3) rfl ?_);refine bE (N:=3) (cs:=#[.slice A0_0 l0_0.length c0_0]) (t:=25) ?_;intro gb410 hg w19 hbox hb;have BK410:=am (hbox);have GW410:=am ((Y0:w.heap.size≤gb410));have GE410:=am ((Y0:w.heap.size≤gb410));replace HB:=am (jh (bq) hb);clear hb hbox hg) |((with_reducible refine jH (N:=4) rfl ?_);refine bE (N:=4) (cs:=#[.slice A1_0 l1_0.length c1_0]) (t:=28) ?_;intro gb411 hg w20 hbox hb;have BK411:=am (hbox);have GW411:=am ((Y108:w.heap.size≤gb411));have GE411:=am ((Y108:w.heap.size≤gb411));have NB410_411:=am ((by rw [hg];exact Nat.ne_of_lt (jX (g:=gb410) (o:=.cells #[.slice A0_0 l0_0.length c0_0] 25 (0,0)) (kq BK410.out)):gb410≠gb411));have NB411_410:=am ((by rw [hg];exact Nat.ne_of_gt (jX (g:=gb410) (o:=.cells #[.slice A0_0 l0_0.length c0_0] 25 (0,0)) (kq BK410.out)):gb411≠gb410));replace BK410:=am (jc (g:=gb410) (o:=.cells #[.slice A0_0 l0_0.length c0_0] 25 (0,0)) (kq BK410.out) hb);replace HB:=am (jh (Y176) hb);clear hb hbox hg;have hnb21:=NB410_411.out;have hnc21:=NB411_410.out;have hcz22_0:=bc0 BK410.out;have hfz22_0:=jb BK410.out 0;have hcz23_0:=bc0 BK411.out;have hfz23_0:=jb BK411.out 0) |((with_reducible refine jH (N:=10) rfl ?_);refine Kd.R_lit (Kd.int .i64) _ 3 ?hg (N:=10) ?hd (xs:=([a2]:List Int)) (inner:=[.int .i64 a2]) (ok:=fun _=>True) (okp:=fun _=>True) ?hr ?hp (fun _ hk=>hk) trivial (Below.refl _ _) (Nat.le_refl _) (by simp) ?_;(case hd=>rfl);(case hg=>rfl);(case hr=>exact Y4);(case hp=>exact (Reps.one (show Kd.M (Kd.int .i64) _ _ _ a2 [.int .i64 a2] from rfl) (Reps.none _ _)));intro v413 w24 ho25 hb hg_ hnew_;clear hg_ hnew_;(first | rw [← Ny412.out] at ho25 |(simp only [Int.reduceToNat] at ho25;rw [← Ny412.out] at ho25));have HO414:=am (Kd.joa ho25 (jP (Y43)));replace BK410:=am (jc (g:=gb410) (o:=.cells #[.slice A0_0 l0_0.length c0_0] 25 (0,0)) (kq BK410.out) hb);replace BK411:=am (jc (g:=gb411) (o:=.cells #[.slice A1_0 l1_0.length c1_0] 28 (0,0)) (kq BK411.out) hb);replace HB:=am (jh (Y43) hb);clear hb ho25;obtain ⟨Ao26,co26,eo26⟩:=Kd.jaa HO414.out;subst eo26) |((with_reducible refine jD (f:=28) rfl ?_);refine gL (some 11) Tryd.func28 #[.agg #[.slice A0_0 l0_0.length c0_0], .agg #[.slice A1_0 l1_0.length c1_0], .slice Ao26 y412.length co26] ?_;(with_reducible refine (jcb.calls k _ _ l0_0 _ _ l1_0 _ _ y412 false _ ?side1 ?side2 ?side3 ?side4 ?side5 ?side6 A4.out).mono ?_);(case side1=>exact cq (Kd.jba HR0_0.out HB.out));(case side2=>exact HC0_0.out);(case side3=>exact cq (Kd.jba HR1_0.out HB.out));(case side4=>exact HC1_0.out);(case side5=>exact cq (Kd.jC HO414.out).2.2);(case side6=>exact (Kd.jC HO414.out).2.1);rintro e w27 ⟨rfl,hb⟩;refine ⟨_,rfl,?_⟩;replace HO414:=am (Kd.jL (rq HO414.out) hb);replace BK410:=am (jc (g:=gb410) (o:=.cells #[.slice A0_0 l0_0.length c0_0] 25 (0,0)) (kq BK410.out) hb);replace BK411:=am (jc (g:=gb411) (o:=.cells #[.slice A1_0 l1_0.length c1_0] 28 (0,0)) (kq BK411.out) hb);replace HB:=am (jh (Y43) hb);(try clear hb);(try clear hb2);(try clear hk);(try clear hi)))
  go_ret
  exact ⟨Y2,Y43⟩
def jfb.f (l0 : List S66) : Option (List S66) := if l0.length < 1099511627776 then some l0 else none
set_option maxHeartbeats 8000000 in
set_option maxRecDepth 100000 in
theorem jfb.calls (A0 : Option Addr) (c0 : Nat) (l0 : List S66) (r : List S66) (w : World) (hr0 : Kd.C k66 w A0 l0.length l0) (hc0 : l0.length ≤ c0) (h : jfb.f l0 = some r) :
  Calls Tryd.prog 46 #[.slice A0 l0.length c0] w fun e w'=>∃ v0_:Value,e=.returned (v0_)∧Kd.R k66 66 w' w.heap.size (fun _=>True) v0_ r∧Below w.heap.size w w':=by
 unfold jfb.f at h
 by_cases hlen:l0.length<1099511627776
 ·rw [if_pos hlen] at h
  obtain rfl:=Option.some.inj h
  have LM:=am hlen
  have q22:∀ (w:World) (a:Option Addr) (n c n' c':Nat),(binOp .eql 26 (.slice a n c) (.slice none n' c')).run Tryd.prog w=.ok (.bool a.isNone) w:=fun w a n c n' c'=>Lib.run_eql_slice_nil w _ _ a n c n' c' Tryd.underlying26
  clear h hlen
  cases A0 with
  | none =>
   have h0:l0=[]:=by
    rcases Nat.eq_zero_or_pos l0.length with h | h
    ·exact List.eq_nil_of_length_eq_zero h
    ·obtain ⟨ad,e,_⟩:=hr0.2.2 h;cases e
   subst h0
   clear hr0
   go_enter Tryd.func46,Tryd.ntmps46
   go_wp2
   go_ret
   exact ⟨_,rfl,Kd.R_nil _ _ _ _ _,Below.refl _ _⟩
  | some ad =>
   have HR:=am hr0
   have HB:=am (Below.refl w.heap.size w)
   clear hr0
   go_enter Tryd.func46,Tryd.ntmps46
   go_wp2_with (first |((with_reducible refine jH (N:=5) rfl ?_);refine Kd.R_lit k66 _ 66 ?hg (N:=5) ?hd (xs:=([]:List S66)) (inner:=[]) (ok:=fun _=>True) (okp:=fun _=>True) ?hr ?hp (fun _ hk=>hk) trivial (Below.refl _ _) (Nat.le_refl _) (by simp) ?_;(case hd=>rfl);(case hg=>rfl);(case hr=>exact Y4);(case hp=>exact (Reps.none _ _));intro v111 w4 ho5 hb hg_ hnew_;clear hg_ hnew_;have HO:=am ho5;have HB2:=am hb;clear HB ho5 hb;have HB:=HB2;clear HB2) |(at_builtin;refine Kd.R_append_rows k66 (w0:=w) w.heap.size rfl (.tmp 5) (.tmp 6) 26 66 (.agg #[(.int .i64 0),(.int .i64 0),(.int .i64 0),(.int .i64 0),(.bool false)]) 40 rfl Tryd.underlying26 info66 rfl (by decide) (by omega) v111 ([]:List S66) l0 _ _ _ (fun _=>True) (fun _=>False) rfl rfl HO.out (Kd.jba HR.out HB.out) (fun _ _ h=>h) (fun _ h=>h.elim) (fun _ _=>trivial) HB.out (jP HB.out) (by have:=LM.out;simp only [List.length_nil];omega) ?_;intro v1 w2 ho hb hg hat;have HV2:=am ho;have HB2:=am hb;clear ho hb hg hat))
   go_ret
   exact ⟨_,rfl,by simpa using HV2.out,HB2.out⟩
 ·rw [if_neg hlen] at h;cases h
def jja.f (k : Nat) (l0 : List Int) : Option ((List (S99)) × (List (S66)) × (List (S66))) := (jgb.f l0).bind fun bt609 => ((jO.f k bt609.1 bt609.2).bind fun bt612 => ((jr.f k bt609.1 bt612.2.2 bt612.1).bind fun bt621 => (some (bt612.1, bt612.2.1, bt621.1))))
def jja.T3 : Bool × List (List Nat × List Nat) := (true, [([], []), ([], []), ([], []), ([], []), ([2, 3], [2, 3]), ([0, 4, 0], [0]), ([1, 5, 0, 1, 5], [1]), ([4, 6, 0, 1, 2, 3, 4, 5, 6], [4])])
def jja.B3 : List Nat := [0, 0, 0, 0, 12, 29, 63, 127]
theorem jja.tab3 : rtab .any (opsOf Tryd.f22 3) = jja.T3 := by kernel_rfl
theorem jja.bits3 : jBb jja.T3.2 jja.B3 = true := by kernel_rfl
set_option maxHeartbeats 8000000 in
set_option maxRecDepth 100000 in
theorem jja.calls (k : Nat) (A0 : Option Addr) (c0 : Nat) (l0 : List Int) (r1 : List (S99)) (r2 : List (S66)) (r3 : List (S66)) (w : World) (hr0 : Kd.C (Kd.int .u8) w A0 l0.length l0) (hc0 : l0.length ≤ c0) (h : jja.f k l0 = some (r1, r2, r3)) :
  Calls Tryd.prog 22 #[.slice A0 l0.length c0] w fun e w'=>∃ v0_ v1_ v2_:Value,e=.returned (.tuple #[.agg #[v0_], .agg #[v1_], .agg #[v2_]])∧Kd.R k99 99 w' w.heap.size (fun _=>True) v0_ r1∧Kd.R k66 66 w' w.heap.size (fun k_=>some k_≠(v2_:Value).ownBlock) v1_ r2∧Kd.R k66 66 w' w.heap.size (fun k_=>some k_≠(v1_:Value).ownBlock) v2_ r3∧Below w.heap.size w w':=by
 have hu25:=Tryd.underlying25
 have hu28:=Tryd.underlying28
 have HR0:=am hr0
 have HC0:=am hc0
 clear hr0 hc0
 have HB:=am (Below.refl w.heap.size w)
 have H:((jgb.f l0).bind fun bt609=>((jO.f k bt609.1 bt609.2).bind fun bt612=>((jr.f k bt609.1 bt612.2.2 bt612.1).bind fun bt621=>(some (bt612.1,bt612.2.1,bt621.1)))))=some (r1,r2,r3):=h
 clear h
 replace H:=bzS H
 obtain ⟨⟨t609,t610⟩,A20,H⟩:=H
 replace H:((jO.f k t609 t610).bind fun bt612=>((jr.f k t609 bt612.2.2 bt612.1).bind fun bt621=>(some (bt612.1,bt612.2.1,bt621.1))))=some (r1,r2,r3):=H
 have A2:=am A20
 clear A20
 replace H:=bzS H
 obtain ⟨⟨t612,t615,t618⟩,A30,H⟩:=H
 replace H:((jr.f k t609 t618 t612).bind fun bt621=>(some (t612,t615,bt621.1)))=some (r1,r2,r3):=H
 have A3:=am A30
 clear A30
 replace H:=bzS H
 obtain ⟨⟨t621,t624⟩,A40,H⟩:=H
 replace H:(some (t612,t615,t621))=some (r1,r2,r3):=H
 have A4:=am A40
 clear A40
 simp only [Option.some.injEq,Prod.mk.injEq] at H
 obtain ⟨rfl,rfl,rfl⟩:=H
 go_enter Tryd.func22,Tryd.ntmps22
 try go_wp2_with (first |((with_reducible refine jH (N:=2) rfl ?_);refine bE (N:=2) (cs:=#[.slice none 0 0]) (t:=25) ?_;intro gb606 hg w5 hbox hb;have BK606:=am (hbox);have GW606:=am ((Y0:w.heap.size≤gb606));have GE606:=am ((Y0:w.heap.size≤gb606));replace HB:=am (jh (bq) hb);clear hb hbox hg) |((with_reducible refine jH (N:=3) rfl ?_);refine bE (N:=3) (cs:=#[.slice none 0 0]) (t:=28) ?_;intro gb607 hg w6 hbox hb;have BK607:=am (hbox);have GW607:=am ((Y177:w.heap.size≤gb607));have GE607:=am ((Y177:w.heap.size≤gb607));have NB606_607:=am ((Y109:gb606≠gb607));have NB607_606:=am ((Y110:gb607≠gb606));replace BK606:=am (jc (g:=gb606) (o:=.cells #[.slice none 0 0] 25 (0,0)) (kq BK606.out) hb);replace HB:=am (jh (by repeat (first |(with_reducible first | exact HB.out | apply jw | apply jm | apply jv | refine jk ?_ GE606.out) | exact HB.out)) hb);clear hb hbox hg) |((with_reducible refine jH (N:=4) rfl ?_);refine bE (N:=4) (cs:=#[.slice none 0 0]) (t:=28) ?_;intro gb608 hg w7 hbox hb;have BK608:=am (hbox);have GW608:=am ((Y178:w.heap.size≤gb608));have GE608:=am ((Y178:w.heap.size≤gb608));have NB606_608:=am ((Y109:gb606≠gb608));have NB608_606:=am ((Y110:gb608≠gb606));have NB607_608:=am ((Y134:gb607≠gb608));have NB608_607:=am ((Y135:gb608≠gb607));replace BK606:=am (jc (g:=gb606) (o:=.cells #[.slice none 0 0] 25 (0,0)) (kq BK606.out) hb);replace BK607:=am (jc (g:=gb607) (o:=.cells #[.slice none 0 0] 28 (0,0)) (kq BK607.out) hb);replace HB:=am (jh (by repeat (first |(with_reducible first | exact HB.out | apply jw | apply jm | apply jv | refine jk ?_ GE606.out | refine jk ?_ GE607.out) | exact HB.out)) hb);clear hb hbox hg) |((with_reducible refine jD (f:=27) rfl ?_);refine gL (some 9) Tryd.func27 #[.slice A0 l0.length c0] ?_;(with_reducible refine (jgb.calls _ _ l0 t609 t610 w _ ?side1 ?side2 ?side3 A2.out).mono ?_);(case side1=>repeat (first |(with_reducible first | exact HB.out | apply jw | apply jm | apply jv | refine jk ?_ GE606.out | refine jk ?_ GE607.out | refine jk ?_ GE608.out) | exact HB.out));(case side2=>exact HR0.out);(case side3=>exact HC0.out);rintro e w8 ⟨g611,rfl,hi,hb,hb2⟩;refine ⟨_,rfl,?_⟩;have HI611:=am (hi);have NB611_606:=am (jl.ne_blk hi (jc (g:=gb606) (o:=.cells #[.slice none 0 0] 25 (0,0)) (kq BK606.out) hb2) (by decide));have NB606_611:=am (Ne.symm (jl.ne_blk hi (jc (g:=gb606) (o:=.cells #[.slice none 0 0] 25 (0,0)) (kq BK606.out) hb2) (by decide)));have NB611_607:=am (jl.ne_blk hi (jc (g:=gb607) (o:=.cells #[.slice none 0 0] 28 (0,0)) (kq BK607.out) hb2) (by decide));have NB607_611:=am (Ne.symm (jl.ne_blk hi (jc (g:=gb607) (o:=.cells #[.slice none 0 0] 28 (0,0)) (kq BK607.out) hb2) (by decide)));have NB611_608:=am (jl.ne_blk hi (jc (g:=gb608) (o:=.cells #[.slice none 0 0] 28 (0,0)) (kq BK608.out) hb2) (by decide));have NB608_611:=am (Ne.symm (jl.ne_blk hi (jc (g:=gb608) (o:=.cells #[.slice none 0 0] 28 (0,0)) (kq BK608.out) hb2) (by decide)));replace BK606:=am (jc (g:=gb606) (o:=.cells #[.slice none 0 0] 25 (0,0)) (kq BK606.out) hb2);replace BK607:=am (jc (g:=gb607) (o:=.cells #[.slice none 0 0] 28 (0,0)) (kq BK607.out) hb2);replace BK608:=am (jc (g:=gb608) (o:=.cells #[.slice none 0 0] 28 (0,0)) (kq BK608.out) hb2);replace HB:=am (hb);(try clear hb);(try clear hb2);(try clear hk);(try clear hi)) |((with_reducible refine jD (f:=43) rfl ?_);refine gL (some 12) Tryd.func43 #[.pointer (some ⟨g611,0,none⟩)] ?_;(with_reducible refine (jO.calls k g611 t609 t610 t612 t615 t618 w _ ?side1 ?side2 A3.out).mono ?_);(case side1=>exact Y179);(case side2=>exact Y111);rintro e w9 ⟨v613,v616,rfl,ho0,ho1,hi,hb,hk⟩;refine ⟨_,rfl,?_⟩;have HO614:=am (Kd.joa ho0 (jP (Y111)));have HO617:=am (Kd.joa ho1 (jP (Y111)));replace BK606:=am (jg.blk hk (g':=gb606) (o:=.cells #[.slice none 0 0] 25 (0,0)) (kq BK606.out) NB606_611.out (by simp));replace BK607:=am (jg.blk hk (g':=gb607) (o:=.cells #[.slice none 0 0] 28 (0,0)) (kq BK607.out) NB607_611.out (by simp));replace BK608:=am (jg.blk hk (g':=gb608) (o:=.cells #[.slice none 0 0] 28 (0,0)) (kq BK608.out) NB608_611.out (by simp));replace HB:=am (hb);replace HI611:=am (hi);(try clear hb);(try clear hb2);(try clear hk);(try clear hi);(try clear ho0);(try clear ho1)) |((with_reducible refine jH (N:=6) rfl ?_);refine bE (N:=6) (cs:=#[.slice none 0 0]) (t:=25) ?_;intro gb619 hg w10 hbox hb;have BK619:=am (hbox);have GW619:=am ((Y180:w.heap.size≤gb619));have GE619:=am ((Y180:w.heap.size≤gb619));have NB606_619:=am ((Y109:gb606≠gb619));have NB619_606:=am ((Y110:gb619≠gb606));have NB607_619:=am ((Y134:gb607≠gb619));have NB619_607:=am ((Y135:gb619≠gb607));have NB608_619:=am ((by rw [hg];exact Nat.ne_of_lt (jX (g:=gb608) (o:=.cells #[.slice none 0 0] 28 (0,0)) (kq BK608.out)):gb608≠gb619));have NB619_608:=am ((by rw [hg];exact Nat.ne_of_gt (jX (g:=gb608) (o:=.cells #[.slice none 0 0] 28 (0,0)) (kq BK608.out)):gb619≠gb608));have NB611_619:=am ((by rw [hg];exact Nat.ne_of_lt (jl.lt (show jl w _ g611 t609 t618 from by repeat (first |(with_reducible first | exact HI611.out | apply jl.alloc | apply jl.drewN | apply jl.drew | apply jl.jhb | refine jl.far ?_ NB611_606.out _ | refine jl.far ?_ NB611_607.out _ | refine jl.far ?_ NB611_608.out _) | exact HI611.out))):g611≠gb619));have NB619_611:=am ((by rw [hg];exact Nat.ne_of_gt (jl.lt (show jl w _ g611 t609 t618 from by repeat (first |(with_reducible first | exact HI611.out | apply jl.alloc | apply jl.drewN | apply jl.drew | apply jl.jhb | refine jl.far ?_ NB611_606.out _ | refine jl.far ?_ NB611_607.out _ | refine jl.far ?_ NB611_608.out _) | exact HI611.out))):gb619≠g611));replace HO614:=am (Kd.jL (rq HO614.out) hb);replace HO617:=am (Kd.jL (rq HO617.out) hb);replace BK606:=am (jc (g:=gb606) (o:=.cells #[.slice none 0 0] 25 (0,0)) (kq BK606.out) hb);replace BK607:=am (jc (g:=gb607) (o:=.cells #[.slice none 0 0] 28 (0,0)) (kq BK607.out) hb);replace BK608:=am (jc (g:=gb608) (o:=.cells #[.slice none 0 0] 28 (0,0)) (kq BK608.out) hb);replace HB:=am (jh (Y111) hb);replace HI611:=am (jl.below (Y179) hb);clear hb hbox hg) |((with_reducible refine jH (N:=7) rfl ?_);refine bE (N:=7) (cs:=#[.slice none 0 0]) (t:=28) ?_;intro gb620 hg w11 hbox hb;have BK620:=am (hbox);have GW620:=am ((Y181:w.heap.size≤gb620));have GE620:=am ((Y181:w.heap.size≤gb620));have NB606_620:=am ((Y109:gb606≠gb620));have NB620_606:=am ((Y110:gb620≠gb606));have NB607_620:=am ((Y134:gb607≠gb620));have NB620_607:=am ((Y135:gb620≠gb607));have NB608_620:=am ((by rw [hg];exact Nat.ne_of_lt (jX (g:=gb608) (o:=.cells #[.slice none 0 0] 28 (0,0)) (kq BK608.out)):gb608≠gb620));have NB620_608:=am ((by rw [hg];exact Nat.ne_of_gt (jX (g:=gb608) (o:=.cells #[.slice none 0 0] 28 (0,0)) (kq BK608.out)):gb620≠gb608));have NB619_620:=am ((by rw [hg];exact Nat.ne_of_lt (jX (g:=gb619) (o:=.cells #[.slice none 0 0] 25 (0,0)) (kq BK619.out)):gb619≠gb620));have NB620_619:=am ((by rw [hg];exact Nat.ne_of_gt (jX (g:=gb619) (o:=.cells #[.slice none 0 0] 25 (0,0)) (kq BK619.out)):gb620≠gb619));have NB611_620:=am ((by rw [hg];exact Nat.ne_of_lt (jl.lt (show jl w _ g611 t609 t618 from by repeat (first |(with_reducible first | exact HI611.out | apply jl.alloc | apply jl.drewN | apply jl.drew | apply jl.jhb | refine jl.far ?_ NB611_606.out _ | refine jl.far ?_ NB611_607.out _ | refine jl.far ?_ NB611_608.out _ | refine jl.far ?_ NB611_619.out _) | exact HI611.out))):g611≠gb620));have NB620_611:=am ((by rw [hg];exact Nat.ne_of_gt (jl.lt (show jl w _ g611 t609 t618 from by repeat (first |(with_reducible first | exact HI611.out | apply jl.alloc | apply jl.drewN | apply jl.drew | apply jl.jhb | refine jl.far ?_ NB611_606.out _ | refine jl.far ?_ NB611_607.out _ | refine jl.far ?_ NB611_608.out _ | refine jl.far ?_ NB611_619.out _) | exact HI611.out))):gb620≠g611));replace HO614:=am (Kd.jL (rq HO614.out) hb);replace HO617:=am (Kd.jL (rq HO617.out) hb);replace BK606:=am (jc (g:=gb606) (o:=.cells #[.slice none 0 0] 25 (0,0)) (kq BK606.out) hb);replace BK607:=am (jc (g:=gb607) (o:=.cells #[.slice none 0 0] 28 (0,0)) (kq BK607.out) hb);replace BK608:=am (jc (g:=gb608) (o:=.cells #[.slice none 0 0] 28 (0,0)) (kq BK608.out) hb);replace BK619:=am (jc (g:=gb619) (o:=.cells #[.slice none 0 0] 25 (0,0)) (kq BK619.out) hb);replace HB:=am (jh (by repeat (first |(with_reducible first | exact HB.out | apply jw | apply jm | apply jv | refine jk ?_ (jl.ge HI611.out) | refine jk ?_ GE606.out | refine jk ?_ GE607.out | refine jk ?_ GE608.out | refine jk ?_ GE619.out) | exact HB.out)) hb);replace HI611:=am (jl.below (by repeat (first |(with_reducible first | exact HI611.out | apply jl.alloc | apply jl.drewN | apply jl.drew | apply jl.jhb | refine jl.far ?_ NB611_606.out _ | refine jl.far ?_ NB611_607.out _ | refine jl.far ?_ NB611_608.out _ | refine jl.far ?_ NB611_619.out _) | exact HI611.out)) hb);clear hb hbox hg;obtain ⟨Ao12,co12,eo12⟩:=Kd.jaa HO614.out;subst eo12;have hnb13:=NB619_606.out;have hnc13:=NB606_619.out;have hnb14:=NB619_607.out;have hnc14:=NB607_619.out;have hnb15:=NB619_608.out;have hnc15:=NB608_619.out;have hnb16:=NB619_620.out;have hnc16:=NB620_619.out;have hnb17:=NB619_611.out;have hnc17:=NB611_619.out;have hcz18_0:=bc0 BK619.out;have hfz18_0:=jb BK619.out 0;obtain ⟨Ao19,co19,eo19⟩:=Kd.jaa HO617.out;subst eo19;have hnb20:=NB620_606.out;have hnc20:=NB606_620.out;have hnb21:=NB620_607.out;have hnc21:=NB607_620.out;have hnb22:=NB620_608.out;have hnc22:=NB608_620.out;have hnb23:=NB620_611.out;have hnc23:=NB611_620.out;have hcz24_0:=bc0 BK620.out;have hfz24_0:=jb BK620.out 0))
 have n0_:jy (Kd.R k99 99 ((w11.setCell ⟨gb619,0,none⟩ (.slice Ao12 t612.length co12)).setCell ⟨gb620,0,none⟩ (.slice Ao19 t615.length co19)) w.heap.size (fun _=>True) (.slice Ao12 t612.length co12) t612):=⟨by (with_reducible repeat (first | apply Kd.jR | apply Kd.jT | apply Kd.jQ));exact Kd.jI (Kd.jka (p:=⟨gb620,0,none⟩) (Kd.jka (p:=⟨gb619,0,none⟩) (Kd.jN (Kd.jN HO614.out BK619.out (by decide)) BK620.out (by decide)) (fun _ hk=>hk.1.2) (.slice Ao12 t612.length co12)) (fun _ hk=>hk.2) (.slice Ao19 t615.length co19)) (fun _ hk=>trivial)⟩
 have n1_:jy (Kd.R k66 66 ((w11.setCell ⟨gb619,0,none⟩ (.slice Ao12 t612.length co12)).setCell ⟨gb620,0,none⟩ (.slice Ao19 t615.length co19)) w.heap.size (fun _=>True) (.slice Ao19 t615.length co19) t615):=⟨by (with_reducible repeat (first | apply Kd.jR | apply Kd.jT | apply Kd.jQ));exact Kd.jI (Kd.jka (p:=⟨gb620,0,none⟩) (Kd.jka (p:=⟨gb619,0,none⟩) (Kd.jN (Kd.jN HO617.out BK619.out (by decide)) BK620.out (by decide)) (fun _ hk=>hk.1.2) (.slice Ao12 t612.length co12)) (fun _ hk=>hk.2) (.slice Ao19 t615.length co19)) (fun _ hk=>trivial)⟩
 have n2_:jy (((w11.setCell ⟨gb619,0,none⟩ (.slice Ao12 t612.length co12)).setCell ⟨gb620,0,none⟩ (.slice Ao19 t615.length co19)).heap[gb606]?=some (.cells #[.slice none 0 0] 25 (0,0))):=⟨by (with_reducible repeat (first | refine jd ?_ _ | refine jf ?_ | refine je ?_ _));refine jG ?_ NB606_620.out _;(with_reducible repeat (first | refine jd ?_ _ | refine jf ?_ | refine je ?_ _));refine jG ?_ NB606_619.out _;(with_reducible repeat (first | refine jd ?_ _ | refine jf ?_ | refine je ?_ _));exact BK606.out⟩
 have n3_:jy (((w11.setCell ⟨gb619,0,none⟩ (.slice Ao12 t612.length co12)).setCell ⟨gb620,0,none⟩ (.slice Ao19 t615.length co19)).heap[gb607]?=some (.cells #[.slice none 0 0] 28 (0,0))):=⟨by (with_reducible repeat (first | refine jd ?_ _ | refine jf ?_ | refine je ?_ _));refine jG ?_ NB607_620.out _;(with_reducible repeat (first | refine jd ?_ _ | refine jf ?_ | refine je ?_ _));refine jG ?_ NB607_619.out _;(with_reducible repeat (first | refine jd ?_ _ | refine jf ?_ | refine je ?_ _));exact BK607.out⟩
 have n4_:jy (((w11.setCell ⟨gb619,0,none⟩ (.slice Ao12 t612.length co12)).setCell ⟨gb620,0,none⟩ (.slice Ao19 t615.length co19)).heap[gb608]?=some (.cells #[.slice none 0 0] 28 (0,0))):=⟨by (with_reducible repeat (first | refine jd ?_ _ | refine jf ?_ | refine je ?_ _));refine jG ?_ NB608_620.out _;(with_reducible repeat (first | refine jd ?_ _ | refine jf ?_ | refine je ?_ _));refine jG ?_ NB608_619.out _;(with_reducible repeat (first | refine jd ?_ _ | refine jf ?_ | refine je ?_ _));exact BK608.out⟩
 have n5_:jy (((w11.setCell ⟨gb619,0,none⟩ (.slice Ao12 t612.length co12)).setCell ⟨gb620,0,none⟩ (.slice Ao19 t615.length co19)).heap[gb619]?=some (.cells #[.slice Ao12 t612.length co12] 25 (0,0))):=⟨by (with_reducible repeat (first | refine jd ?_ _ | refine jf ?_ | refine je ?_ _));refine jG ?_ NB619_620.out _;(with_reducible repeat (first | refine jd ?_ _ | refine jf ?_ | refine je ?_ _));refine jqa (cs:=#[.slice none 0 0]) ?_ 0 _ rfl;(with_reducible repeat (first | refine jd ?_ _ | refine jf ?_ | refine je ?_ _));exact BK619.out⟩
 have n6_:jy (((w11.setCell ⟨gb619,0,none⟩ (.slice Ao12 t612.length co12)).setCell ⟨gb620,0,none⟩ (.slice Ao19 t615.length co19)).heap[gb620]?=some (.cells #[.slice Ao19 t615.length co19] 28 (0,0))):=⟨by (with_reducible repeat (first | refine jd ?_ _ | refine jf ?_ | refine je ?_ _));refine jqa (cs:=#[.slice none 0 0]) ?_ 0 _ rfl;(with_reducible repeat (first | refine jd ?_ _ | refine jf ?_ | refine je ?_ _));refine jG ?_ NB620_619.out _;(with_reducible repeat (first | refine jd ?_ _ | refine jf ?_ | refine je ?_ _));exact BK620.out⟩
 have n7_:jy (jl w ((w11.setCell ⟨gb619,0,none⟩ (.slice Ao12 t612.length co12)).setCell ⟨gb620,0,none⟩ (.slice Ao19 t615.length co19)) g611 t609 t618):=⟨Y96⟩
 have n8_:jy (Below w.heap.size w ((w11.setCell ⟨gb619,0,none⟩ (.slice Ao12 t612.length co12)).setCell ⟨gb620,0,none⟩ (.slice Ao19 t615.length co19))):=⟨Y112⟩
 (try clear HO614)
 (try clear HO617)
 (try clear BK606)
 (try clear BK607)
 (try clear BK608)
 (try clear BK619)
 (try clear BK620)
 (try clear HI611)
 (try clear HB)
 generalize ((w11.setCell ⟨gb619,0,none⟩ (.slice Ao12 t612.length co12)).setCell ⟨gb620,0,none⟩ (.slice Ao19 t615.length co19))=w25 at n0_ n1_ n2_ n3_ n4_ n5_ n6_ n7_ n8_ ⊢
 have HO614:=n0_
 have HO617:=n1_
 have BK606:=n2_
 have BK607:=n3_
 have BK608:=n4_
 have BK619:=n5_
 have BK620:=n6_
 have HI611:=n7_
 have HB:=n8_
 clear n0_ n1_ n2_ n3_ n4_ n5_ n6_ n7_ n8_
 replace HO614:=am (Kd.jQ HO614.out)
 replace HO617:=am (Kd.jQ HO617.out)
 replace BK606:=am (jf BK606.out)
 replace BK607:=am (jf BK607.out)
 replace BK608:=am (jf BK608.out)
 replace BK619:=am (jf BK619.out)
 replace BK620:=am (jf BK620.out)
 replace HI611:=am (jl.drew HI611.out)
 replace HB:=am (jv HB.out)
 refine jNb (n:=8) (S:=fun w'=>w'.cell? ⟨gb619,0,none⟩=some (.slice Ao12 t612.length co12)∧w'.cell? ⟨gb620,0,none⟩=some (.slice Ao19 t615.length co19)) (ds:=[]) #[false,false,false,false,false,false,false,false] (by kernel_rfl) rfl rfl ⟨(jF BK619.out 0).trans rfl,(jF BK620.out 0).trans rfl⟩ (fun hHeld=>?_);refine jrb jja.tab3 jja.bits3 (fun HT_ HW_=>?_)
 generalize w25.drew=w26 at HO614 HO617 BK606 BK607 BK608 BK619 BK620 HI611 HB hHeld ⊢
 refine pq (i:=2) (N:=some 17) #[false,false,true,false,false,false,false,false] ?_
 refine job (i:=0) (N:=some 15) (v:=?_) (a':=?_) #[true,false,true,false,false,false,false,false] rfl rfl (jSa HT_.out HW_.out (by kernel_rfl)) (fun _ _ _ h=>h) (Or.inl ⟨by rfl,?_⟩) hHeld ?_ ?_
 rotate_left
 ·rintro w' ⟨s0,s1⟩
  go_simp
  with_reducible rfl
 rotate_left
 ·exact sa
 refine job (i:=1) (N:=some 16) (v:=?_) (a':=?_) #[true,true,true,false,false,false,false,false] rfl rfl (jSa HT_.out HW_.out (by kernel_rfl)) (fun _ _ _ h=>h) (Or.inl ⟨by rfl,?_⟩) hHeld ?_ ?_
 rotate_left
 ·rintro w' ⟨s0,s1⟩
  go_simp
  with_reducible rfl
 rotate_left
 ·exact sa
 refine job (i:=3) (N:=some 18) (v:=?_) (a':=?_) #[true,true,true,true,false,false,false,false] rfl rfl (jSa HT_.out HW_.out (by kernel_rfl)) (fun _ _ _ h=>h) (Or.inl ⟨by rfl,?_⟩) hHeld ?_ ?_
 rotate_left
 ·rintro w' ⟨s0,s1⟩
  go_simp
  with_reducible rfl
 rotate_left
 ·exact sa
 refine one_ (i:=4) (N:=some 19) #[true,true,true,true,true,false,false,false] rfl rfl (jXa HT_.out (by kernel_rfl)) (by decide) (fun K hK=>?_)
 refine goes_ Tryd.func44 (by kernel_rfl) rfl #[.pointer (some ⟨g611,0,none⟩), .agg #[.slice Ao12 t612.length co12]] (by rfl) rfl rfl (aq) ?_
 with_reducible refine (jr.calls k g611 t609 t618 _ _ t612 t621 t624 w _ ?side1 ?side2 ?side3 ?side4 A4.out).mono ?_
 (case side1=>exact Y96)
 (case side2=>exact Y112)
 (case side3=>exact Kd.jFb (jl.apart (show jl w _ g611 t609 t618 from Y96) (rq HO614.out) (by decide)) (fun _ h_=>h_.2))
 (case side4=>exact (Kd.jC HO614.out).2.1)
 rintro e w27 ⟨v622,rfl,ho0,hi,hb,hk⟩
 refine ⟨_,rfl,?_⟩
 have HO623:=am (Kd.joa (Kd.R_new' ho0 (Kd.R_lt (rq HO617.out))) (jP (Y112)))
 replace BK606:=am (jg.blk hk (g':=gb606) (o:=.cells #[.slice none 0 0] 25 (0,0)) (kq BK606.out) NB606_611.out (by simp))
 replace BK607:=am (jg.blk hk (g':=gb607) (o:=.cells #[.slice none 0 0] 28 (0,0)) (kq BK607.out) NB607_611.out (by simp))
 replace BK608:=am (jg.blk hk (g':=gb608) (o:=.cells #[.slice none 0 0] 28 (0,0)) (kq BK608.out) NB608_611.out (by simp))
 replace HO614:=am (Kd.jI (Kd.jpa (jl.apart (show jl w _ g611 t609 t618 from Y96) (rq HO614.out) (by decide)) hk (fun _ h=>h.2)) (fun _ h=>h.1))
 replace HO617:=am (Kd.jI (Kd.R_told (Kd.R_oldK (jl.apart (show jl w _ g611 t609 t618 from Y96) (rq HO617.out) (by decide)) hk) (Kd.R_base ho0)) (fun _ h_=>h_.1))
 replace BK619:=am (jg.blk hk (g':=gb619) (o:=.cells #[.slice Ao12 t612.length co12] 25 (0,0)) (kq BK619.out) NB619_611.out (by simp))
 replace BK620:=am (jg.blk hk (g':=gb620) (o:=.cells #[.slice Ao19 t615.length co19] 28 (0,0)) (kq BK620.out) NB620_611.out (by simp))
 replace HB:=am (hb)
 replace HI611:=am (hi)
 (try clear hb)
 (try clear hb2)
 (try clear hk)
 (try clear hi)
 (try clear ho0)
 obtain ⟨Ao30,co30,eo30⟩:=Kd.jaa HO623.out
 (first | subst eo30 |(injection eo30 with f1_ f2_ f3_;have f4_:=f1_.symm;have f5_:=f3_.symm;clear f1_ f2_ f3_;subst f4_;subst f5_))
 refine hK.out _ _ ⟨(jF BK619.out 0).trans rfl,(jF BK620.out 0).trans rfl⟩ (fun hHeld=>?_)
 clear hK K
 refine jGb (a':=?_) ?_ ?_
 rotate_left
 ·show Act.put _ (some 19) _=_
  simp only [Act.put,List.setIfInBounds_toArray,List.set_cons_zero,List.set_cons_succ,jjb,jkb]
  rfl
 refine one_ (i:=5) (N:=none) #[true,true,true,true,true,true,false,false] rfl rfl (jXa HT_.out (by kernel_rfl)) (by decide) (fun K hK=>?_)
 have hs28:w27.cell? ⟨gb606,0,none⟩=some (.slice none 0 0):=(jF BK606.out 0).trans rfl
 have hfs28:=jb BK606.out 0
 have hns28_1:=NB607_606.out
 have hns28_2:=NB608_606.out
 have hns28_3:=NB619_606.out
 have hns28_4:=NB620_606.out
 have hms28_1:=NB606_607.out
 have hms28_2:=NB606_608.out
 have hms28_3:=NB606_619.out
 have hms28_4:=NB606_620.out
 refine jTb (w1:=?_) (by rfl) rfl ?_ ?_
 rotate_left
 ·go_simp
  rfl
 refine hK.out _ _ ⟨((cell_far (p:=⟨gb606,_,none⟩) NB619_606.out _).trans (hHeld.1)),((cell_far (p:=⟨gb606,_,none⟩) NB620_606.out _).trans (hHeld.2))⟩ (fun hHeld=>?_)
 clear hK K
 refine one_ (i:=6) (N:=none) #[true,true,true,true,true,true,true,false] rfl rfl (jXa HT_.out (by kernel_rfl)) (by decide) (fun K hK=>?_)
 have hs29:w27.cell? ⟨gb607,0,none⟩=some (.slice none 0 0):=(jF BK607.out 0).trans rfl
 have hfs29:=jb BK607.out 0
 have hns29_0:=NB606_607.out
 have hns29_2:=NB608_607.out
 have hns29_3:=NB619_607.out
 have hns29_4:=NB620_607.out
 have hms29_0:=NB607_606.out
 have hms29_2:=NB607_608.out
 have hms29_3:=NB607_619.out
 have hms29_4:=NB607_620.out
 refine jTb (w1:=?_) (by rfl) rfl ?_ ?_
 rotate_left
 ·go_simp
  rfl
 refine hK.out _ _ ⟨((cell_far (p:=⟨gb607,_,none⟩) NB619_607.out _).trans (hHeld.1)),((cell_far (p:=⟨gb607,_,none⟩) NB620_607.out _).trans (hHeld.2))⟩ (fun hHeld=>?_)
 clear hK K
 refine one_ (i:=7) (N:=none) #[true,true,true,true,true,true,true,true] rfl rfl (jXa HT_.out (by kernel_rfl)) (by decide) (fun K hK=>?_)
 have hs31:w27.cell? ⟨gb608,0,none⟩=some (.slice none 0 0):=(jF BK608.out 0).trans rfl
 have hfs31:=jb BK608.out 0
 have hns31_0:=NB606_608.out
 have hns31_1:=NB607_608.out
 have hns31_3:=NB619_608.out
 have hns31_4:=NB620_608.out
 have hms31_0:=NB608_606.out
 have hms31_1:=NB608_607.out
 have hms31_3:=NB608_619.out
 have hms31_4:=NB608_620.out
 refine jTb (w1:=?_) (by rfl) rfl ?_ ?_
 rotate_left
 ·go_simp
  rfl
 refine hK.out _ _ ⟨((cell_far (p:=⟨gb608,_,none⟩) NB619_608.out _).trans (hHeld.1)),((cell_far (p:=⟨gb608,_,none⟩) NB620_608.out _).trans (hHeld.2))⟩ (fun hHeld=>?_)
 clear hK K
 refine done_ (jSb HT_.out (by kernel_rfl)) ?_
 try go_wp2
 refine bodyPost_ret (results_list (rs:=[.cell 2 25, .cell 3 28, .cell 4 28]) rfl (by simp) (.cell gb606 25 #[.slice Ao12 t612.length co12] (0,0) _ rfl (by (with_reducible repeat (first | refine jd ?_ _ | refine jf ?_ | refine je ?_ _));refine jG ?_ NB606_608.out _;(with_reducible repeat (first | refine jd ?_ _ | refine jf ?_ | refine je ?_ _));refine jG ?_ NB606_607.out _;(with_reducible repeat (first | refine jd ?_ _ | refine jf ?_ | refine je ?_ _));refine jqa (cs:=#[.slice none 0 0]) ?_ 0 _ rfl;(with_reducible repeat (first | refine jd ?_ _ | refine jf ?_ | refine je ?_ _));exact BK606.out) Tryd.underlying25 rfl (by kernel_rfl) (.cell gb607 28 #[.slice Ao19 t615.length co19] (0,0) _ rfl (by (with_reducible repeat (first | refine jd ?_ _ | refine jf ?_ | refine je ?_ _));refine jG ?_ NB607_608.out _;(with_reducible repeat (first | refine jd ?_ _ | refine jf ?_ | refine je ?_ _));refine jqa (cs:=#[.slice none 0 0]) ?_ 0 _ rfl;(with_reducible repeat (first | refine jd ?_ _ | refine jf ?_ | refine je ?_ _));refine jG ?_ NB607_606.out _;(with_reducible repeat (first | refine jd ?_ _ | refine jf ?_ | refine je ?_ _));exact BK607.out) Tryd.underlying28 rfl (by kernel_rfl) (.cell gb608 28 #[.slice Ao30 t621.length co30] (0,0) _ rfl (by (with_reducible repeat (first | refine jd ?_ _ | refine jf ?_ | refine je ?_ _));refine jqa (cs:=#[.slice none 0 0]) ?_ 0 _ rfl;(with_reducible repeat (first | refine jd ?_ _ | refine jf ?_ | refine je ?_ _));refine jG ?_ NB608_607.out _;(with_reducible repeat (first | refine jd ?_ _ | refine jf ?_ | refine je ?_ _));refine jG ?_ NB608_606.out _;(with_reducible repeat (first | refine jd ?_ _ | refine jf ?_ | refine je ?_ _));exact BK608.out) Tryd.underlying28 rfl (by kernel_rfl) .nil)))) rfl ?_
 exact ⟨_,_,_,Y2,by (with_reducible repeat (first | apply Kd.jR | apply Kd.jT | apply Kd.jQ));exact Kd.jI (Kd.jka (p:=⟨gb608,0,none⟩) (Kd.jka (p:=⟨gb607,0,none⟩) (Kd.jka (p:=⟨gb606,0,none⟩) (Kd.jN (Kd.jN (Kd.jN HO614.out BK606.out (by decide)) BK607.out (by decide)) BK608.out (by decide)) (fun _ hk=>hk.1.1.2) (.slice Ao12 t612.length co12)) (fun _ hk=>hk.1.2) (.slice Ao19 t615.length co19)) (fun _ hk=>hk.2) (.slice Ao30 t621.length co30)) (fun _ hk=>trivial),by (with_reducible repeat (first | apply Kd.jR | apply Kd.jT | apply Kd.jQ));exact Kd.jI (Kd.jka (p:=⟨gb608,0,none⟩) (Kd.jka (p:=⟨gb607,0,none⟩) (Kd.jka (p:=⟨gb606,0,none⟩) (Kd.jN (Kd.jN (Kd.jN HO617.out BK606.out (by decide)) BK607.out (by decide)) BK608.out (by decide)) (fun _ hk=>hk.1.1.2) (.slice Ao12 t612.length co12)) (fun _ hk=>hk.1.2) (.slice Ao19 t615.length co19)) (fun _ hk=>hk.2) (.slice Ao30 t621.length co30)) (fun _ hk=>hk.1.1.1.2),by (with_reducible repeat (first | apply Kd.jR | apply Kd.jT | apply Kd.jQ));exact Kd.jI (Kd.jka (p:=⟨gb608,0,none⟩) (Kd.jka (p:=⟨gb607,0,none⟩) (Kd.jka (p:=⟨gb606,0,none⟩) (Kd.jN (Kd.jN (Kd.jN HO623.out BK606.out (by decide)) BK607.out (by decide)) BK608.out (by decide)) (fun _ hk=>hk.1.1.2) (.slice Ao12 t612.length co12)) (fun _ hk=>hk.1.2) (.slice Ao19 t615.length co19)) (fun _ hk=>hk.2) (.slice Ao30 t621.length co30)) (fun _ hk=>hk.1.1.1.2),Y112⟩
def jhL (n z : Int) : Int := if z ≥ 0 then wrap64 (z + n) else z
def jh1 (n : Int) (x : S66) : S66 := ⟨x.f0, x.f1, jhL n x.f2, x.f3, x.f4⟩
def jhF (n : Int) (x : S66) : S66 := ⟨x.f0, x.f1, jhL n x.f2, jhL n x.f3, x.f4⟩
def jdb.f (k : Nat) (l0_0 : List S99) (l1_0 l2_0 : List S66) : Option (List S66 × Bool) :=
 (jCa.f k l0_0 l1_0).bind fun v=>if v=true then ((jCa.f k l0_0 l2_0).bind fun v2=>if v2=true then (if l1_0.length+l2_0.length<1099511627776 then (if ((l1_0 ++ l2_0.map (jhF (l1_0.length:Int))).length:Int) > 24 then some ([],false) else some (l1_0 ++ l2_0.map (jhF (l1_0.length:Int)),true)) else none) else some ([],false)) else some ([],false)
theorem jc0 {w : World} {b : Nat} {v : Value} {l : List Value} {t : TypeId} (h : w.heap[b]? = some (.cells ⟨v :: l⟩ t (0, 0))) : w.cell? ⟨b, 0, none⟩ = some v := (jF h 0).trans rfl
theorem jc1 {w : World} {b : Nat} {v v1 : Value} {l : List Value} {t : TypeId} (h : w.heap[b]? = some (.cells ⟨v :: v1 :: l⟩ t (0, 0))) : w.cell? ⟨b, 1, none⟩ = some v1 := (jF h 1).trans rfl
theorem jc2 {w : World} {b : Nat} {v v1 v2 : Value} {l : List Value} {t : TypeId} (h : w.heap[b]? = some (.cells ⟨v :: v1 :: v2 :: l⟩ t (0, 0))) : w.cell? ⟨b, 2, none⟩ = some v2 := (jF h 2).trans rfl
theorem jc3 {w : World} {b : Nat} {v v1 v2 v3 : Value} {l : List Value} {t : TypeId} (h : w.heap[b]? = some (.cells ⟨v :: v1 :: v2 :: v3 :: l⟩ t (0, 0))) : w.cell? ⟨b, 3, none⟩ = some v3 := (jF h 3).trans rfl
theorem jc4 {w : World} {b : Nat} {v v1 v2 v3 v4 : Value} {l : List Value} {t : TypeId} (h : w.heap[b]? = some (.cells ⟨v :: v1 :: v2 :: v3 :: v4 :: l⟩ t (0, 0))) : w.cell? ⟨b, 4, none⟩ = some v4 := (jF h 4).trans rfl
theorem jh_valid {k : Nat} {t : List S99} {h : List S66} (e : jCa.f k t h = some true) : h.length ≤ 24 := by
 unfold jCa.f at e
 split at e
 ·cases e
 ·obtain ⟨b,_,e⟩:=bzS e
  split at e
  ·obtain ⟨v,_,e⟩:=bzS e
   have e:=Option.some.inj e
   split at e
   ·have:=ozD e;omega
   ·cases e
  ·cases e
theorem blk_stored {w : World} {b : Nat} {cs : Array Value} {t : TypeId} (h : w.heap[b]? = some (.cells cs t (0, 0))) (i : Nat) (u : Value) : (w.setCell ⟨b, i, none⟩ u).heap[b]? = some (.cells (cs.setIfInBounds i u) t (0, 0)) := heap_setCell_same w b i cs t u h
set_option maxHeartbeats 8000000 in
set_option maxRecDepth 100000 in
theorem jdb.calls (k : Nat) (A0_0 : Option Addr) (c0_0 : Nat) (l0_0 : List (S99)) (A1_0 : Option Addr) (c1_0 : Nat) (l1_0 : List (S66)) (A2_0 : Option Addr) (c2_0 : Nat) (l2_0 : List (S66)) (r1 : List (S66)) (r2 : Bool) (w : World) (hr0_0 : Kd.C k99 w A0_0 l0_0.length l0_0) (hc0_0 : l0_0.length ≤ c0_0) (hr1_0 : Kd.C k66 w A1_0 l1_0.length l1_0) (hc1_0 : l1_0.length ≤ c1_0) (hr2_0 : Kd.C k66 w A2_0 l2_0.length l2_0) (hc2_0 : l2_0.length ≤ c2_0) (h : jdb.f k l0_0 l1_0 l2_0 = some (r1, r2)) :
  Calls Tryd.prog 23 #[.agg #[.slice A0_0 l0_0.length c0_0], .agg #[.slice A1_0 l1_0.length c1_0], .agg #[.slice A2_0 l2_0.length c2_0]] w fun e w'=>∃ v0_:Value,e=.returned (.tuple #[.agg #[v0_], .bool r2])∧Kd.R k66 66 w' w.heap.size (fun _=>True) v0_ r1∧Below w.heap.size w w':=by
 have hu28:=Tryd.underlying28
 have hu25:=Tryd.underlying25
 have hu66:=Tryd.underlying66
 obtain ⟨v,hv,h⟩:=bzS h
 have HR2:=am hr2_0
 have HV1:=am (fun W (hb:Below w.heap.size w W)=>jCa.calls k A0_0 c0_0 l0_0 A1_0 c1_0 l1_0 v W (Kd.jba hr0_0 hb) hc0_0 (Kd.jba hr1_0 hb) hc1_0 hv)
 have HB:=am (show Below w.heap.size w ((((w.alloc (.cells #[.slice A0_0 l0_0.length c0_0] 25)).alloc (.cells #[.slice A1_0 l1_0.length c1_0] 28)).alloc (.cells #[.slice A2_0 l2_0.length c2_0] 28)).alloc (.cells #[.slice none 0 0] 28)) from ((((Below.refl w.heap.size w).alloc (Nat.le_refl _) _).alloc (by simp) _).alloc (by simp;omega) _).alloc (by simp;omega) _)
 have BT:=am (show ((((w.alloc (.cells #[.slice A0_0 l0_0.length c0_0] 25)).alloc (.cells #[.slice A1_0 l1_0.length c1_0] 28)).alloc (.cells #[.slice A2_0 l2_0.length c2_0] 28)).alloc (.cells #[.slice none 0 0] 28)).heap[w.heap.size]?=some (.cells #[.slice A0_0 l0_0.length c0_0] 25 (0,0)) from by have h:=heap_alloc_new w (.cells #[.slice A0_0 l0_0.length c0_0] 25);have h:=(show (w.alloc (.cells #[.slice A0_0 l0_0.length c0_0] 25)).heap[w.heap.size]?=some (.cells #[.slice A0_0 l0_0.length c0_0] 25 (0,0)) by simpa only [World.size_alloc] using h);have h:=je h (.cells #[.slice A1_0 l1_0.length c1_0] 28);have h:=je h (.cells #[.slice A2_0 l2_0.length c2_0] 28);have h:=je h (.cells #[.slice none 0 0] 28);exact h)
 have BH:=am (show ((((w.alloc (.cells #[.slice A0_0 l0_0.length c0_0] 25)).alloc (.cells #[.slice A1_0 l1_0.length c1_0] 28)).alloc (.cells #[.slice A2_0 l2_0.length c2_0] 28)).alloc (.cells #[.slice none 0 0] 28)).heap[w.heap.size+1]?=some (.cells #[.slice A1_0 l1_0.length c1_0] 28 (0,0)) from by have h:=heap_alloc_new (w.alloc (.cells #[.slice A0_0 l0_0.length c0_0] 25)) (.cells #[.slice A1_0 l1_0.length c1_0] 28);have h:=(show ((w.alloc (.cells #[.slice A0_0 l0_0.length c0_0] 25)).alloc (.cells #[.slice A1_0 l1_0.length c1_0] 28)).heap[w.heap.size+1]?=some (.cells #[.slice A1_0 l1_0.length c1_0] 28 (0,0)) by simpa only [World.size_alloc] using h);have h:=je h (.cells #[.slice A2_0 l2_0.length c2_0] 28);have h:=je h (.cells #[.slice none 0 0] 28);exact h)
 have BK:=am (show ((((w.alloc (.cells #[.slice A0_0 l0_0.length c0_0] 25)).alloc (.cells #[.slice A1_0 l1_0.length c1_0] 28)).alloc (.cells #[.slice A2_0 l2_0.length c2_0] 28)).alloc (.cells #[.slice none 0 0] 28)).heap[w.heap.size+2]?=some (.cells #[.slice A2_0 l2_0.length c2_0] 28 (0,0)) from by have h:=heap_alloc_new ((w.alloc (.cells #[.slice A0_0 l0_0.length c0_0] 25)).alloc (.cells #[.slice A1_0 l1_0.length c1_0] 28)) (.cells #[.slice A2_0 l2_0.length c2_0] 28);have h:=(show (((w.alloc (.cells #[.slice A0_0 l0_0.length c0_0] 25)).alloc (.cells #[.slice A1_0 l1_0.length c1_0] 28)).alloc (.cells #[.slice A2_0 l2_0.length c2_0] 28)).heap[w.heap.size+2]?=some (.cells #[.slice A2_0 l2_0.length c2_0] 28 (0,0)) by simpa only [World.size_alloc] using h);have h:=je h (.cells #[.slice none 0 0] 28);exact h)
 have BR:=am (show ((((w.alloc (.cells #[.slice A0_0 l0_0.length c0_0] 25)).alloc (.cells #[.slice A1_0 l1_0.length c1_0] 28)).alloc (.cells #[.slice A2_0 l2_0.length c2_0] 28)).alloc (.cells #[.slice none 0 0] 28)).heap[w.heap.size+3]?=some (.cells #[.slice none 0 0] 28 (0,0)) from by have h:=heap_alloc_new (((w.alloc (.cells #[.slice A0_0 l0_0.length c0_0] 25)).alloc (.cells #[.slice A1_0 l1_0.length c1_0] 28)).alloc (.cells #[.slice A2_0 l2_0.length c2_0] 28)) (.cells #[.slice none 0 0] 28);have h:=(show ((((w.alloc (.cells #[.slice A0_0 l0_0.length c0_0] 25)).alloc (.cells #[.slice A1_0 l1_0.length c1_0] 28)).alloc (.cells #[.slice A2_0 l2_0.length c2_0] 28)).alloc (.cells #[.slice none 0 0] 28)).heap[w.heap.size+3]?=some (.cells #[.slice none 0 0] 28 (0,0)) by simpa only [World.size_alloc] using h);exact h)
 cases v with
 | false =>
  rw [if_neg (by simp)] at h
  simp only [Option.some.injEq,Prod.mk.injEq] at h
  obtain ⟨rfl,rfl⟩:=h
  clear hv hr0_0 hr1_0 hr2_0 HR2
  go_enter Tryd.func23,Tryd.ntmps23
  go_wp2_with (go_at_call 45;refine (HV1.out _ HB.out).mono ?_;rintro e w2 ⟨rfl,hb2⟩;clear HV1;have n0_:=am (jc (g:=w.heap.size) (o:=.cells #[.slice A0_0 l0_0.length c0_0] 25 (0,0)) (Y75) hb2);have n1_:=am (jc (g:=w.heap.size+1) (o:=.cells #[.slice A1_0 l1_0.length c1_0] 28 (0,0)) (Y76) hb2);have n2_:=am (jc (g:=w.heap.size+2) (o:=.cells #[.slice A2_0 l2_0.length c2_0] 28 (0,0)) (Y77) hb2);have n3_:=am (jc (g:=w.heap.size+3) (o:=.cells #[.slice none 0 0] 28 (0,0)) (Y78) hb2);have n4_:=am (jh (Y79) hb2);clear BT BH BK BR HB;have BT:=n0_;have BH:=n1_;have BK:=n2_;have BR:=n3_;have HB:=n4_;clear n0_ n1_ n2_ n3_ n4_ hb2;have cT:=jc0 BT.out;have cH:=jc0 BH.out;have cK:=jc0 BK.out;have cR:=jc0 BR.out;have fR:=jb BR.out 0)
  refine bodyPost_ret (jPb rfl _ _ (w.heap.size+3) 28 #[.slice none 0 0] (0,0) _ rfl (Y113) Tryd.underlying28 rfl (by kernel_rfl)) rfl ?_
  exact ⟨.slice none 0 0,rfl,Kd.R_nil _ _ _ _ _,Y114⟩
 | true =>
  rw [if_pos rfl] at h
  obtain ⟨v2,hv2,h⟩:=bzS h
  have HV2:=am (fun W (hb:Below w.heap.size w W)=>jCa.calls k A0_0 c0_0 l0_0 A2_0 c2_0 l2_0 v2 W (Kd.jba hr0_0 hb) hc0_0 (Kd.jba hr2_0 hb) hc2_0 hv2)
  have HL1:=am (jh_valid hv)
  cases v2 with
  | false =>
   rw [if_neg (by simp)] at h
   simp only [Option.some.injEq,Prod.mk.injEq] at h
   obtain ⟨rfl,rfl⟩:=h
   clear hv hv2 hr0_0 hr1_0 hr2_0 HR2
   go_enter Tryd.func23,Tryd.ntmps23
   go_wp2_with (first |(go_at_call 45;refine (HV1.out _ HB.out).mono ?_;rintro e w2 ⟨rfl,hb2⟩;clear HV1;have n0_:=am (jc (g:=w.heap.size) (o:=.cells #[.slice A0_0 l0_0.length c0_0] 25 (0,0)) (Y75) hb2);have n1_:=am (jc (g:=w.heap.size+1) (o:=.cells #[.slice A1_0 l1_0.length c1_0] 28 (0,0)) (Y76) hb2);have n2_:=am (jc (g:=w.heap.size+2) (o:=.cells #[.slice A2_0 l2_0.length c2_0] 28 (0,0)) (Y77) hb2);have n3_:=am (jc (g:=w.heap.size+3) (o:=.cells #[.slice none 0 0] 28 (0,0)) (Y78) hb2);have n4_:=am (jh (Y79) hb2);clear BT BH BK BR HB;have BT:=n0_;have BH:=n1_;have BK:=n2_;have BR:=n3_;have HB:=n4_;clear n0_ n1_ n2_ n3_ n4_ hb2;have cT:=jc0 BT.out;have cH:=jc0 BH.out;have cK:=jc0 BK.out;have cR:=jc0 BR.out;have fR:=jb BR.out 0) |(go_at_call 45;refine (HV2.out _ HB.out).mono ?_;rintro e w2 ⟨rfl,hb2⟩;clear HV2;have n0_:=am (jc (g:=w.heap.size) (o:=.cells #[.slice A0_0 l0_0.length c0_0] 25 (0,0)) (Y75) hb2);have n1_:=am (jc (g:=w.heap.size+1) (o:=.cells #[.slice A1_0 l1_0.length c1_0] 28 (0,0)) (Y76) hb2);have n2_:=am (jc (g:=w.heap.size+2) (o:=.cells #[.slice A2_0 l2_0.length c2_0] 28 (0,0)) (Y77) hb2);have n3_:=am (jc (g:=w.heap.size+3) (o:=.cells #[.slice none 0 0] 28 (0,0)) (Y78) hb2);have n4_:=am (jh (Y79) hb2);clear BT BH BK BR HB;have BT:=n0_;have BH:=n1_;have BK:=n2_;have BR:=n3_;have HB:=n4_;clear n0_ n1_ n2_ n3_ n4_ hb2;have cT:=jc0 BT.out;have cH:=jc0 BH.out;have cK:=jc0 BK.out;have cR:=jc0 BR.out;have fR:=jb BR.out 0))
   refine bodyPost_ret (jPb rfl _ _ (w.heap.size+3) 28 #[.slice none 0 0] (0,0) _ rfl (Y113) Tryd.underlying28 rfl (by kernel_rfl)) rfl ?_
   exact ⟨.slice none 0 0,rfl,Kd.R_nil _ _ _ _ _,Y114⟩
  | true =>
   rw [if_pos rfl] at h
   have HL2:=am (jh_valid hv2)
   rw [if_pos (by have:=HL1.out;have:=HL2.out;omega)] at h
   have HCL:=am (fun W (hb:Below w.heap.size w W)=>jfb.calls A1_0 c1_0 l1_0 l1_0 W (Kd.jba hr1_0 hb) hc1_0 (by unfold jfb.f;rw [if_pos (by have:=HL1.out;omega)]))
   have H':=am h
   clear hv hv2 hr0_0 hr1_0 hr2_0 h
   go_enter Tryd.func23,Tryd.ntmps23
   go_wp2_with (first |(go_at_call 45;refine (HV1.out _ HB.out).mono ?_;rintro e w2 ⟨rfl,hb2⟩;clear HV1;have n0_:=am (jc (g:=w.heap.size) (o:=.cells #[.slice A0_0 l0_0.length c0_0] 25 (0,0)) (Y75) hb2);have n1_:=am (jc (g:=w.heap.size+1) (o:=.cells #[.slice A1_0 l1_0.length c1_0] 28 (0,0)) (Y76) hb2);have n2_:=am (jc (g:=w.heap.size+2) (o:=.cells #[.slice A2_0 l2_0.length c2_0] 28 (0,0)) (Y77) hb2);have n3_:=am (jc (g:=w.heap.size+3) (o:=.cells #[.slice none 0 0] 28 (0,0)) (Y78) hb2);have n4_:=am (jh (Y79) hb2);clear BT BH BK BR HB;have BT:=n0_;have BH:=n1_;have BK:=n2_;have BR:=n3_;have HB:=n4_;clear n0_ n1_ n2_ n3_ n4_ hb2;have cT:=jc0 BT.out;have cH:=jc0 BH.out;have cK:=jc0 BK.out;have cR:=jc0 BR.out;have fR:=jb BR.out 0) |(go_at_call 45;refine (HV2.out _ HB.out).mono ?_;rintro e w2 ⟨rfl,hb2⟩;clear HV2;have n0_:=am (jc (g:=w.heap.size) (o:=.cells #[.slice A0_0 l0_0.length c0_0] 25 (0,0)) (Y75) hb2);have n1_:=am (jc (g:=w.heap.size+1) (o:=.cells #[.slice A1_0 l1_0.length c1_0] 28 (0,0)) (Y76) hb2);have n2_:=am (jc (g:=w.heap.size+2) (o:=.cells #[.slice A2_0 l2_0.length c2_0] 28 (0,0)) (Y77) hb2);have n3_:=am (jc (g:=w.heap.size+3) (o:=.cells #[.slice none 0 0] 28 (0,0)) (Y78) hb2);have n4_:=am (jh (Y79) hb2);clear BT BH BK BR HB;have BT:=n0_;have BH:=n1_;have BK:=n2_;have BR:=n3_;have HB:=n4_;clear n0_ n1_ n2_ n3_ n4_ hb2;have cT:=jc0 BT.out;have cH:=jc0 BH.out;have cK:=jc0 BK.out;have cR:=jc0 BR.out;have fR:=jb BR.out 0) |(go_at_call 46;refine (HCL.out _ HB.out).mono ?_;rintro e w2 ⟨v8,rfl,ho,hb2⟩;have HO:=am (Kd.joa ho (jP HB.out));clear HCL ho;have n0_:=am (jc (g:=w.heap.size) (o:=.cells #[.slice A0_0 l0_0.length c0_0] 25 (0,0)) (Y75) hb2);have n1_:=am (jc (g:=w.heap.size+1) (o:=.cells #[.slice A1_0 l1_0.length c1_0] 28 (0,0)) (Y76) hb2);have n2_:=am (jc (g:=w.heap.size+2) (o:=.cells #[.slice A2_0 l2_0.length c2_0] 28 (0,0)) (Y77) hb2);have n3_:=am (jc (g:=w.heap.size+3) (o:=.cells #[.slice none 0 0] 28 (0,0)) (Y78) hb2);have n4_:=am (jh (Y79) hb2);clear BT BH BK BR HB;have BT:=n0_;have BH:=n1_;have BK:=n2_;have BR:=n3_;have HB:=n4_;clear n0_ n1_ n2_ n3_ n4_ hb2;have cT:=jc0 BT.out;have cH:=jc0 BH.out;have cK:=jc0 BK.out;have cR:=jc0 BR.out;have fR:=jb BR.out 0))
   go_loopw [8,30] (fun v8 v30 wr=>∃ i:Nat,i≤l2_0.length∧v30=.int .i64 i∧jy (Kd.R k66 66 wr w.heap.size (fun _=>True) v8 (l1_0 ++ (l2_0.take i).map (jhF (l1_0.length:Int))))∧jy (wr.heap[w.heap.size]?=some (.cells #[.slice A0_0 l0_0.length c0_0] 25 (0,0)))∧jy (wr.heap[w.heap.size+1]?=some (.cells #[.slice A1_0 l1_0.length c1_0] 28 (0,0)))∧jy (wr.heap[w.heap.size+2]?=some (.cells #[.slice A2_0 l2_0.length c2_0] 28 (0,0)))∧jy (wr.heap[w.heap.size+3]?=some (.cells #[.slice none 0 0] 28 (0,0)))∧jy (Below w.heap.size w wr)) (fun _ v30 _=>l2_0.length - (intOf v30).toNat)
   case atStart=>exact ⟨0,Nat.zero_le _,rfl,⟨by simpa using HO.out⟩,BT,BH,BK,BR,HB⟩
   case round =>
    clear HO BT BH BK BR HB cT cH cK cR fR
    obtain ⟨i,hi,rfl,HO,BT,BH,BK,BR,HB⟩:=hrel
    by_cases hlt:i<l2_0.length
    ·obtain ⟨ad,rfl,x0,x1,x2,x3,x4⟩:=jab (Kd.jba HR2.out HB.out) (i:Int) (by omega) (by omega)
     rw [Int.toNat_natCast] at x0 x1 x2 x3 x4
     have HT:=am (show (l2_0.take (i+1)).map (jhF (l1_0.length:Int))=(l2_0.take i).map (jhF (l1_0.length:Int)) ++ [jhF (l1_0.length:Int) (ja l2_0 (i:Int))] by
      have e:ja l2_0 (i:Int)=l2_0[i]:=by simp [ja,List.getD_eq_getElem?_getD,hlt]
      rw [e,List.take_succ_eq_append_getElem hlt,List.map_append];rfl)
     generalize ja l2_0 (i:Int)=x at x0 x1 x2 x3 x4 HT
     have hlb:=ezT (show (i:Int)<(l2_0.length:Int) by omega)
     obtain ⟨W1,rfl⟩:∃ W1,W1=wr:=⟨_,rfl⟩
     have BX:=am (heap_alloc_new W1 (.cells #[.int .i64 x.f0, .int .i64 x.f1, .int .i64 x.f2, .int .i64 x.f3, .bool x.f4] 66))
     have HB1:=am (Below.refl W1.heap.size W1)
     have BX1:=am (je BX.out (.cells #[.pointer (some ⟨W1.heap.size,2,none⟩), .pointer (some ⟨W1.heap.size,3,none⟩)] 79))
     have BL1:=am (show ((W1.alloc (.cells #[.int .i64 x.f0, .int .i64 x.f1, .int .i64 x.f2, .int .i64 x.f3, .bool x.f4] 66)).alloc (.cells #[.pointer (some ⟨W1.heap.size,2,none⟩), .pointer (some ⟨W1.heap.size,3,none⟩)] 79)).heap[W1.heap.size+1]?=some (.cells #[.pointer (some ⟨W1.heap.size,2,none⟩), .pointer (some ⟨W1.heap.size,3,none⟩)] 79 (0,0)) by have h:=heap_alloc_new (W1.alloc (.cells #[.int .i64 x.f0, .int .i64 x.f1, .int .i64 x.f2, .int .i64 x.f3, .bool x.f4] 66)) (.cells #[.pointer (some ⟨W1.heap.size,2,none⟩), .pointer (some ⟨W1.heap.size,3,none⟩)] 79);simpa only [World.size_alloc] using h)
     have HB2:=am (show Below W1.heap.size W1 ((W1.alloc (.cells #[.int .i64 x.f0, .int .i64 x.f1, .int .i64 x.f2, .int .i64 x.f3, .bool x.f4] 66)).alloc (.cells #[.pointer (some ⟨W1.heap.size,2,none⟩), .pointer (some ⟨W1.heap.size,3,none⟩)] 79)) from ((Below.refl _ W1).alloc (Nat.le_refl _) _).alloc (by simp) _)
     clear BX HB1
     go_wp2
     go_loopw [38] (fun v38 w3=>∃ (j:Nat) (y:S66),j≤2∧v38=.int .i64 j∧jy ((j=0∧y=x)∨(j=1∧y=jh1 (l1_0.length:Int) x)∨(j=2∧y=jhF (l1_0.length:Int) x))∧jy (w3.heap[W1.heap.size]?=some (.cells #[.int .i64 y.f0, .int .i64 y.f1, .int .i64 y.f2, .int .i64 y.f3, .bool y.f4] 66 (0,0)))∧jy (w3.heap[W1.heap.size+1]?=some (.cells #[.pointer (some ⟨W1.heap.size,2,none⟩), .pointer (some ⟨W1.heap.size,3,none⟩)] 79 (0,0)))∧jy (Below W1.heap.size W1 w3)) (fun v38 _=>2 - (intOf v38).toNat)
     case atStart=>exact ⟨0,x,by omega,rfl,⟨.inl ⟨rfl,rfl⟩⟩,BX1,BL1,HB2⟩
     case round =>
      clear BX1 BL1 HB2 x0 x1 x2 x3 x4
      obtain ⟨j,y,hj,rfl,HY,BX,BL,HB1⟩:=hrel
      have y2:=jc2 BX.out
      have y3:=jc3 BX.out
      have p0:=jc0 BL.out
      have p1:=jc1 BL.out
      have cH:=jV HB1.out (jc0 BH.out)
      by_cases hj2:j<2
      ·rcases (by omega:j=0∨j=1) with rfl | rfl
       ·have hy:y=x:=by rcases HY.out with h | h | h <;> simp_all
        have HY2:=am hy
        clear hy HY
        by_cases hz:y.f2≥0
        ·have hzb:decide (0≤y.f2)=true:=dzT hz
         have HQ:=am (show jhL (l1_0.length:Int) y.f2=wrap64 (y.f2+(l1_0.length:Int)) by unfold jhL;rw [if_pos hz])
         clear hz
         go_wp2
         have HB5:=am (jv HB1.out)
         have BX5:=am (jf BX.out)
         have BL5:=am (jf BL.out)
         have g2:wr.drew.cell? ⟨W1.heap.size,2,none⟩=some (.int .i64 y.f2):=y2
         have g3:wr.drew.cell? ⟨w.heap.size+1,0,none⟩=some (.slice A1_0 l1_0.length c1_0):=cH
         have g4:=jb BX5.out 2
         go_region
         all_goals (
          have BX6:=am (jf (blk_stored BX.out 2 (.int .i64 (wrap64 (y.f2+(l1_0.length:Int))))))
          have BL6:=am (jf ((Below.heap_setCell wr ⟨W1.heap.size,2,none⟩ (.int .i64 (wrap64 (y.f2+(l1_0.length:Int)))) (W1.heap.size+1) (by simp)).trans BL.out))
          have HB6:=am (jv (jk HB1.out (Nat.le_refl W1.heap.size)):Below W1.heap.size W1 (wr.setCell ⟨W1.heap.size,2,none⟩ (.int .i64 (wrap64 (y.f2+(l1_0.length:Int))))).drew)
          clear g2 g3 g4 BX BL HB1 BX5 BL5 HB5 y2 y3 p0 p1 cH
          go_wp2
          go_roundw
          case rel=>exact ⟨1,jh1 (l1_0.length:Int) x,by omega,by go_num,⟨.inr (.inl ⟨rfl,rfl⟩)⟩,⟨by rw [BX6.out];have hq:=HQ.out;have hy:=HY2.out;subst hy;simp only [jh1,jhF,List.setIfInBounds_toArray,List.set_cons_zero,List.set_cons_succ] at hq ⊢;rw [hq]⟩,BL6,HB6⟩
          case measure=>simp [intOf])
        ·have hzb:decide (0≤y.f2)=false:=dzF hz
         have HQ:=am (show jhL (l1_0.length:Int) y.f2=y.f2 by unfold jhL;rw [if_neg hz])
         clear hz
         go_wp2
         go_roundw
         case rel=>exact ⟨1,jh1 (l1_0.length:Int) x,by omega,by go_num,⟨.inr (.inl ⟨rfl,rfl⟩)⟩,⟨by rw [BX.out];have hq:=HQ.out;have hy:=HY2.out;subst hy;simp only [jh1,jhF] at hq ⊢;rw [hq]⟩,BL,HB1⟩
         case measure=>simp [intOf]
       ·have hy:y=jh1 (l1_0.length:Int) x:=by rcases HY.out with h | h | h <;> simp_all
        have HY2:=am hy
        clear hy HY
        by_cases hz:y.f3≥0
        ·have hzb:decide (0≤y.f3)=true:=dzT hz
         have HQ:=am (show jhL (l1_0.length:Int) y.f3=wrap64 (y.f3+(l1_0.length:Int)) by unfold jhL;rw [if_pos hz])
         clear hz
         go_wp2
         have HB5:=am (jv HB1.out)
         have BX5:=am (jf BX.out)
         have BL5:=am (jf BL.out)
         have g2:wr.drew.cell? ⟨W1.heap.size,3,none⟩=some (.int .i64 y.f3):=y3
         have g3:wr.drew.cell? ⟨w.heap.size+1,0,none⟩=some (.slice A1_0 l1_0.length c1_0):=cH
         have g4:=jb BX5.out 3
         go_region
         all_goals (
          have BX6:=am (jf (blk_stored BX.out 3 (.int .i64 (wrap64 (y.f3+(l1_0.length:Int))))))
          have BL6:=am (jf ((Below.heap_setCell wr ⟨W1.heap.size,3,none⟩ (.int .i64 (wrap64 (y.f3+(l1_0.length:Int)))) (W1.heap.size+1) (by simp)).trans BL.out))
          have HB6:=am (jv (jk HB1.out (Nat.le_refl W1.heap.size)):Below W1.heap.size W1 (wr.setCell ⟨W1.heap.size,3,none⟩ (.int .i64 (wrap64 (y.f3+(l1_0.length:Int))))).drew)
          clear g2 g3 g4 BX BL HB1 BX5 BL5 HB5 y2 y3 p0 p1 cH
          go_wp2
          go_roundw
          case rel=>exact ⟨2,jhF (l1_0.length:Int) x,by omega,by go_num,⟨.inr (.inr ⟨rfl,rfl⟩)⟩,⟨by rw [BX6.out];have hq:=HQ.out;have hy:=HY2.out;subst hy;simp only [jh1,jhF,List.setIfInBounds_toArray,List.set_cons_zero,List.set_cons_succ] at hq ⊢;rw [hq]⟩,BL6,HB6⟩
          case measure=>simp [intOf])
        ·have hzb:decide (0≤y.f3)=false:=dzF hz
         have HQ:=am (show jhL (l1_0.length:Int) y.f3=y.f3 by unfold jhL;rw [if_neg hz])
         clear hz
         go_wp2
         go_roundw
         case rel=>exact ⟨2,jhF (l1_0.length:Int) x,by omega,by go_num,⟨.inr (.inr ⟨rfl,rfl⟩)⟩,⟨by rw [BX.out];have hq:=HQ.out;have hy:=HY2.out;subst hy;simp only [jh1,jhF] at hq ⊢;rw [hq]⟩,BL,HB1⟩
         case measure=>simp [intOf]
      ·obtain rfl:j=2:=by omega
       have HY2:=am (show y=jhF (l1_0.length:Int) x by rcases HY.out with h | h | h <;> simp_all)
       clear HY
       have HO3:=am (Kd.jL (Kd.jI (Kd.jec HO.out) (ok':=fun k=>k≠W1.heap.size) (fun k hk=>Nat.ne_of_lt hk.2.2.1)) HB1.out)
       have HLN:=am (show (l1_0 ++ (l2_0.take i).map (jhF (l1_0.length:Int))).length≤48 by have:=HL1.out;have:=HL2.out;rw [List.length_append,List.length_map,List.length_take];omega)
       clear HO
       generalize hoo:l1_0 ++ (l2_0.take i).map (jhF (l1_0.length:Int))=oo at HO3 HLN
       have HOO:=am hoo
       clear hoo
       obtain ⟨Ao,co,eo⟩:=Kd.jaa HO3.out
       subst eo
       have y0:=jc0 BX.out
       have y1:=jc1 BX.out
       have y4:=jc4 BX.out
       have BT3:=am ((HB1.out.block _ (jX BT.out)).trans BT.out)
       have BH3:=am ((HB1.out.block _ (jX BH.out)).trans BH.out)
       have BK3:=am ((HB1.out.block _ (jX BK.out)).trans BK.out)
       have BR3:=am ((HB1.out.block _ (jX BR.out)).trans BR.out)
       have HB3:=am (Below.trans HB.out (HB1.out.mono HB.out.size))
       have BX3:=BX
       clear BT BH BK BR HB BX HB1
       have BT:=BT3
       have BH:=BH3
       have BK:=BK3
       have BR:=BR3
       have HB:=HB3
       clear BT3 BH3 BK3 BR3 HB3 cH p0 p1
       go_wp2_with ((with_reducible refine jpb (b:=.append) (xs:=#[.tmp 55, .tmp 57]) rfl ?_);at_builtin;refine Kd.jlc k66 (w0:=w) w.heap.size rfl (.tmp 55) (.tmp 57) 26 66 (.agg #[(.int .i64 0),(.int .i64 0),(.int .i64 0),(.int .i64 0),(.bool false)]) 40 rfl Tryd.underlying26 info66 rfl (by decide) (by omega) _ oo y [.int .i64 y.f0, .int .i64 y.f1, .int .i64 y.f2, .int .i64 y.f3, .bool y.f4] (fun k=>k≠W1.heap.size) (fun _=>False) rfl rfl ?aP (fun _ hk=>hk.elim) ?aF ?aO ?aB ?aS ?aL ?_;(case aP=>exact jJb _ _ _ y);(case aB=>exact (bq));(case aF=>intro q hq hqe;have h1:=jX BX3.out;omega);(case aO=>exact (rq HO3.out));(case aS=>exact (jP (bq)));(case aL=>have:=HLN.out;omega);intro v115 w14 ho hb hg hat;have n0_:=am (jla BT.out hg (Kd.R_ne HO3.out BT.out (by decide)));have n1_:=am (jla BH.out hg (Kd.R_ne HO3.out BH.out (by decide)));have n2_:=am (jla BK.out hg (Kd.R_ne HO3.out BK.out (by decide)));have n3_:=am (jla BR.out hg (Kd.R_ne HO3.out BR.out (by decide)));have n5_:=am hb;have n6_:=am ho;clear BT BH BK BR HB HO3;have BT:=n0_;have BH:=n1_;have BK:=n2_;have BR:=n3_;have HB:=n5_;have HO3:=n6_;clear n0_ n1_ n2_ n3_ n5_ n6_ ho hb hg hat)
       have hL2_:=HL2.out
       have hwi:wrap64 ((i:Int)+1)=(i:Int)+1:=by unfold wrap64;omega
       go_roundw
       case rel=>exact ⟨i+1,hlt,by rw [hwi];rfl,⟨by rw [HT.out,← List.append_assoc,HOO.out,← HY2.out];exact Kd.jI HO3.out (fun _ _=>trivial)⟩,BT,BH,BK,BR,HB⟩
       case measure=>rw [hwi];simp [intOf];omega
    ·obtain rfl:i=l2_0.length:=by omega
     obtain ⟨Ao,co,eo⟩:=Kd.jaa HO.out
     subst eo
     rw [List.take_length] at HO
     have cK:=jc0 BK.out
     have cR:=jc0 BR.out
     have fR:=jb BR.out 0
     have h:=H'.out
     have HLN:=am (show (l1_0 ++ (l2_0.take l2_0.length).map (jhF (l1_0.length:Int))).length=(l1_0 ++ l2_0.map (jhF (l1_0.length:Int))).length by rw [List.take_length])
     by_cases hb:((l1_0 ++ l2_0.map (jhF (l1_0.length:Int))).length:Int) > 24
     ·rw [if_pos hb] at h
      simp only [Option.some.injEq,Prod.mk.injEq] at h
      obtain ⟨rfl,rfl⟩:=h
      rw [HLN.out]
      have hbb:=dzT hb
      generalize (l1_0 ++ l2_0.map (jhF (l1_0.length:Int))).length=m at hbb ⊢
      clear H' hb HLN HO
      go_wp2
      refine bodyPost_ret (jPb rfl _ _ (w.heap.size+3) 28 #[.slice none 0 0] (0,0) _ rfl (Y113) Tryd.underlying28 rfl (by kernel_rfl)) rfl ?_
      exact ⟨.slice none 0 0,rfl,Kd.R_nil _ _ _ _ _,Y114⟩
     ·rw [if_neg hb] at h
      simp only [Option.some.injEq,Prod.mk.injEq] at h
      obtain ⟨rfl,rfl⟩:=h
      rw [HLN.out]
      obtain ⟨i016,hi016,_,hsz16,_⟩:=info_parts info66
      have ho2:=HO.out
      have hcut16:=cut_clip (P:=Tryd.prog) 26 66 Tryd.underlying26 hi016 Ao _ co _ (Kd.jC ho2).2.1 rfl
      have hr16:=Kd.R_clip ho2 (rfl:(l1_0 ++ l2_0.map (jhF (l1_0.length:Int)))=(l1_0 ++ l2_0.map (jhF (l1_0.length:Int))))
      have hbb:=dzF hb
      have HZ:=am hr16
      clear H' hb HLN HO ho2 hr16 hi016 hsz16
      generalize hm9:(l1_0 ++ l2_0.map (jhF (l1_0.length:Int)))=zz at hbb hcut16 HZ ⊢
      have HM:=am hm9
      clear hm9
      go_wp2
      refine bodyPost_ret (jPb rfl _ _ (w.heap.size+3) 28 #[.slice Ao zz.length zz.length] (0,0) _ rfl (Y113) Tryd.underlying28 rfl (by kernel_rfl)) rfl ?_
      have hm9:=HM.out
      subst hm9
      exact ⟨.slice Ao _ _,rfl,Kd.jI (Kd.jka (Kd.jN (rq HZ.out) (kq BR.out) (by decide)) (fun k hk=>hk.2) _) (fun _ _=>trivial),Y114⟩
def jW.f (a0 : Int) (a1 : Int) (a2 : Int) : Option (Bool) := if a1 ≤ a0 then (some (decide (a0 ≤ a2))) else (some false)
set_option maxHeartbeats 8000000 in
set_option maxRecDepth 100000 in
theorem jW.calls (a0 : Int) (a1 : Int) (a2 : Int) (r : Bool) (w : World) (h : jW.f a0 a1 a2 = some r) :
  Calls Tryd.prog 79 #[.int .i64 a0, .int .i64 a1, .int .i64 a2] w fun e w'=>e=.returned (.bool r)∧jnb w w':=by
 have H:(if a1≤a0 then (some (decide (a0≤a2))) else (some false))=some r:=h
 clear h
 by_cases c4:a1≤a0
 ·rw [if_pos c4] at H
  have c4b0:decide (a1≤a0)=true:=dzT c4
  clear c4
  obtain rfl:=Option.some.inj H
  go_enter Tryd.func79,Tryd.ntmps79
  go_wp2
  go_ret
  exact ⟨sq,Y7⟩
 ·rw [if_neg c4] at H
  have c4b0:decide (a1≤a0)=false:=dzF c4
  clear c4
  obtain rfl:=Option.some.inj H
  go_enter Tryd.func79,Tryd.ntmps79
  go_wp2
  go_ret
  exact ⟨sq,Y7⟩
end Go.Proofs.YteibechlncphnaaDoor.P
end
