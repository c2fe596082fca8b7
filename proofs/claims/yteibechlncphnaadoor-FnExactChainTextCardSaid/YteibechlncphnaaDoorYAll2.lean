/- One part of the proofs on this program: functions of the program as plain functions, that the code comes to them, and facts on them. -/
import Derived.Lib.SliceRun
import Derived.LoopIn
import Derived.LoopNIn
import Derived.OwnWalkIn
import Derived.RangeFuncBound
import Derived.RangeFuncBox
import Derived.RangeFuncCalls
import Derived.RangeFuncLeaves
import Derived.RangeFuncNested
import Derived.Shelf.Abstract
import Derived.Shelf.RegionOpen
import Derived.TacticsInMore
import Derived.WalkKit
import Derived.Test.YteibechlncphnaaDoorYAll1
import Derived.Test.YteibechlncphnaaDoorYWAuto
section
namespace Go.Proofs.YteibechlncphnaaDoor.P
open Go.RowKit Go.Proofs.YteibechlncphnaaDoorW.PrintWords Go.Proofs.YteibechlncphnaaDoorW.PrintLast Go.Proofs.YteibechlncphnaaDoorW.PrintMore
attribute [local go_sem] jS jQ jba jaa jK jJ jR jP jg
set_option linter.unusedVariables false
set_option linter.unusedSimpArgs false
set_option maxHeartbeats 8000000 in
set_option maxRecDepth 100000 in
theorem impl_chainText_walk (k : Nat) (A_ : Option Addr) (n_ c_ : Nat) (nx : Int → Option Int) (a0 : Int) (r : List Int) (w : World) (h : jTa nx k a0 [] = some r)
  (hp:∀ W,Below w.heap.size w W→∀ (x y:Int),nx x=some y→Calls Tryd.prog 30 #[.agg #[.slice A_ n_ c_], .int .i64 x] W fun e w'=>e=.returned (.int .i64 y)∧Below W.heap.size W w') :
  Calls Tryd.prog 29 #[.int .i64 a0, .func (.func 30) #[.agg #[.slice A_ n_ c_]] #[]] w fun e w'=>∃ v0_:Value,e=.returned v0_∧Kd.R (Kd.int .i64) 3 w' w.heap.size (fun _=>True) v0_ r∧Below w.heap.size w w':=by
 have HP:=am hp
 have H0:=am h
 have HB:=am (Below.refl w.heap.size w)
 clear hp h
 go_enter Tryd.func29,Tryd.ntmps29
 go_wp2_with ((with_reducible refine jr (N:=6) rfl ?_);refine Kd.R_lit (Kd.int .i64) _ 3 ?hg (N:=6) ?hd (xs:=([]:List Int)) (inner:=[]) (ok:=fun _=>True) (okp:=fun _=>True) ?hr ?hp (fun _ hk=>hk) trivial (Below.refl _ _) (Nat.le_refl _) (by simp) ?_;(case hd=>rfl);(case hg=>rfl);(case hr=>exact Y6);(case hp=>exact (Reps.none _ _));intro v111 w4 ho5 hb hg_ hnew_;clear hg_ hnew_;have n0_:=am (Kd.jGa ho5 (jE (bq)));have n2_:=am (jd (bq) hb);clear HB;have HO:=n0_;have HB:=n2_;clear n0_ n2_ hb ho5)
 go_loopg [0,5] k (fun kq v0 v5 w'=>∃ (x:Int) (acc:List Int),v0=.int .i64 x∧jH (jTa nx kq x acc=some r)∧jH (kq≤k)∧jH (Kd.R (Kd.int .i64) 3 w' w.heap.size (fun _=>True) v5 acc)∧jH (Below w.heap.size w w'))
 case atStart=>exact ⟨a0,[],(sq),H0,⟨Nat.le_refl _⟩,⟨rq HO.out⟩,⟨bq⟩⟩
 case round =>
  clear H0 HO HB
  obtain ⟨x,acc,rfl,HA,HK1,HO,HB⟩:=hrel
  cases gk with
  | zero=>exact absurd HA.out (by simp [jTa])
  | succ k1 =>
   have H:=HA.out
   clear HA
   simp only [jTa] at H
   obtain ⟨Ao,co,eo⟩:=Kd.jEa HO.out
   subst eo
   by_cases c6:x≥0
   ·rw [if_pos c6] at H
    have c6b0:decide (0≤x)=true:=dzT c6
    clear c6
    obtain ⟨b,A70,H⟩:=bzS H
    have A7:=am A70
    clear A70
    cases b with
    | true =>
     rw [if_pos rfl] at H
     obtain rfl:=Option.some.inj H
     clear H
     go_wp2_with (first |(go_at_call 53;(with_reducible refine (jea.calls k1 _ _ acc x true _ ?side1 ?side2 A7.out).mono ?_);(case side1=>exact cq (Kd.jN HO.out).2.2);(case side2=>exact (Kd.jN HO.out).2.1);rintro e w' ⟨rfl,⟨nd,rfl⟩⟩) |(go_at_call 54;refine (jia.calls (fun _=>True) _ acc acc w _ (bq) (rq HO.out) (show jia.f acc=some acc from rfl)).mono ?_;rintro e w9 ⟨v9,rfl,hR9,hB9,hK9⟩))
     go_ret
     exact ⟨_,rfl,Kd.jcb hR9 (fun _ _=>trivial),hB9⟩
    | false =>
     rw [if_neg (by simp)] at H
     by_cases c10:acc.length<17592186044416
     ·rw [if_pos c10] at H
      have LM:=am c10
      clear c10
      obtain ⟨y,hy,H⟩:=bzS H
      have HQ:=am hy
      have H':=am H
      clear H hy
      go_wp2_with (first |(go_at_call 53;(with_reducible refine (jea.calls k1 _ _ acc x false _ ?side1 ?side2 A7.out).mono ?_);(case side1=>exact cq (Kd.jN HO.out).2.2);(case side2=>exact (Kd.jN HO.out).2.1);rintro e w' ⟨rfl,⟨nd,rfl⟩⟩) |(go_at_call 30;refine (HP.out _ (bq) _ _ HQ.out).mono ?_;rintro e w2 ⟨rfl,hb2⟩;have n1_:=am (Kd.jfa (rq HO.out) hb2);have n2_:=am (jd (bq) hb2);clear HO HB;have HO:=n1_;have HB:=n2_;clear n1_ n2_ hb2) |((with_reducible refine jCb (b:=.append) (xs:=#[.tmp 18, .tmp 20]) rfl ?_);at_builtin;refine Kd.R_append (Kd.int .i64) (w0:=w) w.heap.size rfl (.tmp 18) (.tmp 20) 32 3 (.int .i64 0) 8 rfl Tryd.underlying32 info3 rfl (by decide) (by omega) (.slice Ao acc.length co) acc x [.int .i64 x] (fun _=>True) (fun _=>False) rfl rfl ?aP (fun _ hk=>hk.elim) ?aF ?aO ?aB ?aS ?aL ?_;(case aP=>exact rfl);(case aB=>exact (bq));(case aF=>exact (fun _ _=>trivial));(case aO=>exact (rq HO.out));(case aS=>exact (jE (bq)));(case aL=>have:=LM.out;omega);intro v115 w14 ho hb hg hat;have n1_:=am (hb);have n2_:=am (ho);clear HB HO;have HB:=n1_;have HO:=n2_;clear n1_ n2_ ho hb hg hat))
      go_roundg k1
      case measure=>have:=HK1.out;omega
      case rel=>exact ⟨y,acc ++ [x],(sq),H',⟨by have:=HK1.out;omega⟩,⟨rq HO.out⟩,⟨bq⟩⟩
     ·rw [if_neg c10] at H
      cases H
   ·rw [if_neg c6] at H
    have c6b0:decide (0≤x)=false:=dzF c6
    clear c6
    obtain rfl:=Option.some.inj H
    clear H
    go_wp2_with (go_at_call 54;refine (jia.calls (fun _=>True) _ acc acc w _ (bq) (rq HO.out) (show jia.f acc=some acc from rfl)).mono ?_;rintro e w9 ⟨v9,rfl,hR9,hB9,hK9⟩)
    go_ret
    exact ⟨_,rfl,Kd.jcb hR9 (fun _ _=>trivial),hB9⟩
section
open Go.Shelf
attribute [local go_sem] Oper.semAt_some
theorem xwrC {x : Int} (h : -9223372036854775808 ≤ x ∧ x ≤ 9223372036854775807) : wrap64 x = x := by unfold wrap64; omega
def uptoC {α : Type} (f : Nat → α) (k : Nat) : List α := (List.range k).map f
theorem uptoC_succ {α : Type} (f : Nat → α) (k : Nat) : uptoC f (k + 1) = uptoC f k ++ [f k] := by simp [uptoC, List.range_succ]
theorem uptoC_length {α : Type} (f : Nat → α) (k : Nat) : (uptoC f k).length = k := by simp [uptoC]
set_option maxRecDepth 100000 in
set_option maxHeartbeats 4000000 in
theorem backC1_in {α : Type} (F : Fence) (n : Nat) (h8 : F.fn 85) (hro : F.round = none) (hn : 1 ≤ n) (l Bs : Nat) (A : Option Addr) (cap : Nat) (xs : List Int) (hm : xs.length ≤ 9223372036854775807) (RD : World → Prop) (Kp : World → World → Prop) (hRD : ∀ W, RD W → Kd.C (Kd.int .i64) W A xs.length xs ∧ Boxed W Bs 32 (.slice A xs.length cap)) (hKp : ∀ W W', Kp W W' → RD W → RD W')
  (encs:α→Array Value) (g:Nat→α) (hg:∀ j:Nat,j<xs.length→encs (g j)=#[.int .i64 ((xs.length:Int) - 1 - j), .int .i64 (rd xs ((xs.length:Int) - 1 - j))])
  (J Jx:List α→World→Prop)
  (hY:∀ pre x W,J pre W→pre.length<xs.length→YieldAt F (n - 1) Tryd.prog l (encs x) W fun e W' =>
   (e=.returned (.bool true)∧J (pre ++ [x]) W'∧Kp W W')∨(e=.returned (.bool false)∧Jx (pre ++ [x]) W'))
  (W:World) (hW:RD W) (h0:J [] W) :
  CallsIn F n Tryd.prog 85 #[.func (.yield l) #[] #[], .pointer (some ⟨Bs,0,none⟩)] W fun e W'=>(∃ v,e=.returned v) ∧
   ((∃ ys,ys=uptoC g xs.length∧J ys W')∨(∃ pre,(∃ k,k≤xs.length∧pre=uptoC g k)∧Jx pre W')):=by
 have cBs:=(hRD W hW).2.cell
 refine callsIn_of_wp Tryd.func85 rfl h8 ?_ hro
 simp only [Tryd.ntmps85,List.size_toArray,List.length_cons,List.length_nil,Nat.reduceAdd,Nat.reduceSub,Array.replicate_succ,Array.replicate_zero,List.push_toArray,List.append_toArray,List.nil_append,List.cons_append]
 gi_wp2
 have hwr:wrap64 ((xs.length:Int) - 1)=(xs.length:Int) - 1:=xwrC (by omega)
 gi_loopw [3] (fun i wr=>∃ k:Nat,k≤xs.length∧i=.int .i64 ((xs.length:Int) - 1 - k)∧J (uptoC g k) wr∧RD wr)
  (fun i _=>(intOf i+1).toNat)
 case atStart=>exact ⟨0,Nat.zero_le _,by simp,h0,hW⟩
 case round =>
  obtain ⟨k,hk,rfl,hJs,hnx⟩:=hrel
  have cB:=(hRD _ hnx).2.cell
  by_cases hlt:k<xs.length
  ·obtain ⟨fn,tmps,assign,body,hy,hR⟩:=hY _ (g k) wr hJs (by rw [uptoC_length];exact hlt)
   rw [hg k hlt] at hy
   obtain ⟨j,hj⟩:∃ j:Nat,(xs.length:Int) - 1 - k=(j:Int):=⟨xs.length - 1 - k,by omega⟩
   have p0:0≤(j:Int):=by omega
   have p1:(j:Int)<(xs.length:Int):=by omega
   have p2:j<xs.length:=by omega
   rw [hj] at hy ⊢
   obtain ⟨ad,rfl,x0⟩:=Kd.jtb (hRD _ hnx).1 (j:Int) p0 p1
   rw [Int.toNat_natCast] at x0
   gi_wp2
   refine hR.mono ?_
   rintro e W3 (⟨rfl,hJ3,hk3⟩ | ⟨rfl,hJx3⟩)
   ·have hb3:=hKp _ _ hk3 hnx
    have c3:=(hRD _ hb3).2.cell
    gi_wp2
    go_roundw
    case rel=>exact ⟨k+1,by omega,by congr 1;omega,by rw [uptoC_succ];exact hJ3,hb3⟩
    case measure=>simp [intOf]
   ·gi_wp2
    refine bodyPost_ret (results_none rfl _ _ _) rfl ?_
    exact ⟨⟨_,rfl⟩, .inr ⟨_,⟨k+1,by omega,(uptoC_succ _ _).symm⟩,hJx3⟩⟩
  ·obtain rfl:k=xs.length:=by omega
   have q2:decide ((xs.length:Int) - 1 - xs.length≥0)=false:=dzF (by omega)
   gi_wp2
   go_end0
   exact ⟨⟨_,rfl⟩, .inl ⟨_,rfl,hJs⟩⟩
theorem KeepsFrom.jdb {W W' : World} (h : Below W.heap.size W W') (B : Nat) : KeepsFrom B W W' := ⟨h.size, fun k o _ hk _ => (h.block k (Array.getElem?_eq_some_iff.1 hk).1).trans hk⟩
theorem Boxed.jIb {W W' : World} {B : Nat} {t : TypeId} {v : Value} (h : Boxed W B t v) (hb : Below W.heap.size W W') : Boxed W' B t v := (hb.block B h.lt).trans h
set_option maxHeartbeats 1000000 in
theorem backC_in (F : Fence) (n : Nat) (h6 : F.fn 58) (hro : F.round = none) (a : Option Addr) (len cap : Nat) (w : World) :
  CallsIn F n Tryd.prog 58 #[.slice a len cap] w fun e w'=>e=.returned (.func (.func 85) #[] #[.pointer (some ⟨w.heap.size,0,none⟩)])∧w'=w.alloc (.cells #[.slice a len cap] 32):=by
 refine callsIn_of_wp Tryd.func58 rfl h6 ?_ hro
 simp only [Tryd.ntmps58,List.size_toArray,List.length_cons,List.length_nil,Nat.reduceAdd,Nat.reduceSub,Array.replicate_succ,Array.replicate_zero,List.push_toArray,List.append_toArray,List.nil_append,List.cons_append]
 gi_wp2
 go_ret
 exact ⟨rfl,rfl⟩
def jHb (o : Oper) : Bool := match o.op with | .defer _ => false | _ => true
theorem noDeferC_spec {o : Oper} (h : jHb o = true) : ∀ c, o.op ≠ .defer c := fun c hc => by simp [jHb, hc] at h
theorem opInC_round {F : Fence} {l n : Nat} {P : Program} {o : Oper} {a : Act} {w : World} {K : Act → World → Prop} {Q : Exit → Act → World → Prop} (hro : F.round = none) (hd : jHb o = true) (h : o.wpIn F n P a w K Q) : o.wpIn (F.inRound l) n P a w K Q := by
 unfold Oper.wpIn at *
 refine ⟨h.1,?_⟩
 have h2:=h.2
 rw [hro,Oper.semAt_none] at h2
 rw [Fence.inRound_round,Oper.semAt_some l _ _ (noDeferC_spec hd)]
 exact h2
theorem opsInC_round {F : Fence} {l n : Nat} {P : Program} {ops : Array Oper} {K K' : Act → World → Prop} {Q : Exit → Act → World → Prop} (hro : F.round = none) (hd : ops.all jHb = true) {i : Nat} {a : Act} {w : World} (hK : ∀ a w, K a w → K' a w) (h : wpOpIn F n P ops Q i K a w) : wpOpIn (F.inRound l) n P ops Q i K' a w := by
 have h:=wpOpIn_mono hK h
 unfold wpOpIn at h ⊢
 cases ho:ops[i]? with
 | none=>simp only [ho] at h ⊢;exact h
 | some o =>
  simp only [ho] at h ⊢
  have hn:jHb o=true:=by
   obtain ⟨hi,e⟩:=Array.getElem?_eq_some_iff.1 ho
   have:=Array.all_eq_true.1 hd i hi
   rw [e] at this;exact this
  split
  ·rename_i hw;rw [if_pos hw] at h;exact opInC_round hro hn h
  ·rename_i hw;rw [if_neg hw] at h;exact h
theorem wpAnyInC_round {F : Fence} {l n : Nat} {P : Program} {md : Region.Mode} {ops : Array Oper} {Q : Exit → Act → World → Prop} (hro : F.round = none) (hd : ops.all jHb = true) : ∀ (fuel : Nat) (listed : Array Bool) (a : Act) (w : World), wpAnyIn F n P md ops Q fuel listed a w → wpAnyIn (F.inRound l) n P md ops Q fuel listed a w
 | 0,_,_,_,h=>h
 | fuel+1,listed,a,w,h=>⟨h.1,fun i hi=>opsInC_round hro hd (fun a w hh=>wpAnyInC_round hro hd fuel _ a w hh) (h.2 i hi)⟩
theorem opC_wide {n : Nat} {P : Program} {o : Oper} {a : Act} {w : World} {K K' : Act → World → Prop} {Q : Exit → Act → World → Prop} (hK : ∀ a w, K a w → K' a w) (h : o.wp P a w K Q) : o.wpIn Fence.wide n P a w K' Q := by
 unfold Oper.wp at h
 unfold Oper.wpIn
 refine ⟨fun _ _=>trivial,?_⟩
 rw [show Fence.wide.round=none from rfl,Oper.semAt_none]
 generalize (execOp a.eval o).run P w=r at h ⊢
 have hd:Fence.wide.depth.isSome=true→1≤n:=fun e=>by simp [Fence.wide] at e
 cases r with
 | ok y w' =>
  cases y <;> simp only [Oper.upon,Oper.uponIn] at h ⊢ <;>
   first
    | exact hK _ _ h
    | exact ⟨hd,callsIn_wide.2 (h.mono fun e w'' he=>by cases e <;> first | exact hK _ _ he | exact he)⟩
    | exact ⟨hd,fun c cs _=>let ⟨v,w'',r,s⟩:=h c cs;⟨v,w'',hK _ _ r,stepsIn_wide.2 s⟩⟩
    | exact h.elim
 | halt y w'=>cases y <;> simp only [Oper.upon,Oper.uponIn] at h ⊢ <;> first | exact h | exact h.elim
theorem jFb {n : Nat} {P : Program} {md : Region.Mode} {ops : Array Oper} {Q : Exit → Act → World → Prop} (hL : ¬ LetsOut Q) : ∀ (fuel : Nat) (listed : Array Bool) (a : Act) (w : World), wpAny P md ops Q fuel listed a w → wpAnyIn Fence.wide n P md ops Q fuel listed a w
 | 0,_,_,_,h=>h
 | fuel+1,listed,a,w,h=>⟨h.1,fun i hi=>by
  have h2:=h.2 i hi
  unfold wpOp at h2
  unfold wpOpIn
  cases ho:ops[i]? with
  | none=>simp only [ho] at h2 ⊢;exact jFb hL fuel _ a w h2
  | some o =>
   simp only [ho] at h2 ⊢
   split
   ·rename_i hw
    rw [if_pos hw] at h2
    rcases h2 with h2 | ⟨_,h2⟩
    ·exact opC_wide (fun a w hh=>jFb hL fuel _ a w hh) h2
    ·exact absurd h2 hL
   ·rename_i hw
    rw [if_neg hw] at h2
    exact ⟨fun _ _=>trivial,jFb hL fuel _ _ w h2⟩⟩
theorem jlb {l n : Nat} {P : Program} {id : Nat} {ops : Array Oper} {Q : Exit → Act → World → Prop} {a : Act} {w : World} (S : World → Prop) (hm : P.follows .mixedOrders = true) (hd : ops.all jHb = true) (hL : ¬ LetsOut Q)
  (h:wpAnyH P .any ops Q S ops.size (Array.replicate ops.size false) a w.drew):(Code.region id ops true).wpIn (Fence.wide.inRound l) n P Q a w :=
 wpIn_region_any hm (wpAnyInC_round (F:=Fence.wide) (l:=l) rfl hd _ _ _ _ (jFb hL _ _ _ _ (wpAny_of_held _ _ _ _ h)))
def chAt (t : List S99) (h : List S66) (l : List Int) (i g : Int) : Option ByteArray :=
 if 0≤g then (if g<(h.length:Int) then (jpa.f t (jb h g).f0 (jb h g).f1).bind fun tx=>if tx.size≤2000000 then
  (if i<(l.length:Int) - 1 then (if 0≤i then some ((if (jb h g).f2=rd l (i+1) then (⟨#[32,62,32]⟩:ByteArray) else (⟨#[32,126,32]⟩:ByteArray)) ++ tx) else none) else some tx) else none else none) else none
def chAll (t : List S99) (h : List S66) (l : List Int) : Nat → Option ByteArray
 | 0=>some ⟨#[]⟩
 | i+1=>(chAt t h l (i:Int) (rd l (i:Int))).bind fun a=>(chAll t h l i).bind fun b=>some (a ++ b)
def jka.f (k : Nat) (l0_0 : List S66) (l1_0 : List S99) (a2 : Int) : Option ByteArray :=
 (jTa (fun g=>jBa.f l0_0 g) k a2 []).bind fun l=>if l.length≤1000000000 then chAll l1_0 l0_0 l l.length else none
theorem chAt_inv {t : List S99} {h : List S66} {l : List Int} {i g : Int} (hx : (chAt t h l i g).isSome = true) : 0 ≤ g ∧ g < (h.length : Int) ∧ ∃ tx, jpa.f t (jb h g).f0 (jb h g).f1 = some tx ∧ tx.size ≤ 2000000 ∧
  ((¬ i<(l.length:Int) - 1∧chAt t h l i g=some tx)∨(i<(l.length:Int) - 1∧0≤i∧(((jb h g).f2=rd l (i+1)∧chAt t h l i g=some ((⟨#[32,62,32]⟩:ByteArray) ++ tx))∨((jb h g).f2≠rd l (i+1)∧chAt t h l i g=some ((⟨#[32,126,32]⟩:ByteArray) ++ tx))))):=by
 unfold chAt at hx ⊢
 by_cases h0:0≤g
 ·rw [if_pos h0] at hx ⊢
  by_cases h1:g<(h.length:Int)
  ·rw [if_pos h1] at hx ⊢
   cases ht:jpa.f t (jb h g).f0 (jb h g).f1 with
   | none=>rw [ht] at hx;cases hx
   | some tx =>
    rw [ht] at hx
    simp only [Option.bind_some] at hx ⊢
    by_cases hz:tx.size≤2000000
    ·rw [if_pos hz] at hx
     refine ⟨h0,h1,tx,rfl,hz,?_⟩
     simp only [if_pos hz]
     by_cases h2:i<(l.length:Int) - 1
     ·rw [if_pos h2] at hx ⊢
      by_cases h3:0≤i
      ·rw [if_pos h3]
       refine .inr ⟨h2,h3,?_⟩
       by_cases h4:(jb h g).f2=rd l (i+1)
       ·exact .inl ⟨h4,by rw [if_pos h4]⟩
       ·exact .inr ⟨h4,by rw [if_neg h4]⟩
      ·rw [if_neg h3] at hx;cases hx
     ·rw [if_neg h2]
      exact .inl ⟨h2,rfl⟩
    ·rw [if_neg hz] at hx;cases hx
  ·rw [if_neg h1] at hx;cases hx
 ·rw [if_neg h0] at hx;cases hx
theorem chAt_size {t : List S99} {h : List S66} {l : List Int} {i g : Int} {r : ByteArray} (hx : chAt t h l i g = some r) : r.size ≤ 2000003 := by
 obtain ⟨_,_,tx,_,hz,h3⟩:=chAt_inv (show (chAt t h l i g).isSome=true by rw [hx];rfl)
 rcases h3 with ⟨_,e⟩ | ⟨_,_,⟨_,e⟩ | ⟨_,e⟩⟩ <;> rw [hx] at e <;> obtain rfl:=Option.some.inj e
 ·omega
 ·rw [ByteArray.size_append];have:(⟨#[32,62,32]⟩:ByteArray).size=3:=rfl;omega
 ·rw [ByteArray.size_append];have:(⟨#[32,126,32]⟩:ByteArray).size=3:=rfl;omega
def catB : List ByteArray → ByteArray
 | []=>⟨#[]⟩
 | x :: r=>x ++ catB r
theorem catB_nil (x : ByteArray) : x ++ (⟨#[]⟩ : ByteArray) = x := ByteArray.append_empty
theorem catB_nil' (x : ByteArray) : (⟨#[]⟩ : ByteArray) ++ x = x := ByteArray.empty_append
theorem catB_snoc : ∀ (a : List ByteArray) (x : ByteArray), catB (a ++ [x]) = catB a ++ x
 | [],x=>by show x ++ (⟨#[]⟩:ByteArray)=(⟨#[]⟩:ByteArray) ++ x;rw [catB_nil,catB_nil']
 | y :: a,x=>by show y ++ catB (a ++ [x])=(y ++ catB a) ++ x;rw [catB_snoc a x,ByteArray.append_assoc]
abbrev ChEl (t : List S99) (h : List S66) (l : List Int) := { x : Int × Int // (chAt t h l x.1 x.2).isSome = true ∨ l.length = 0 }
def ChEl.zero (t : List S99) (h : List S66) (l : List Int) (e : (chAt t h l 0 (rd l 0)).isSome = true ∨ l.length = 0) : ChEl t h l := ⟨(0, rd l 0), e⟩
def ChEl.txt {t : List S99} {h : List S66} {l : List Int} (x : ChEl t h l) : ByteArray := (chAt t h l x.1.1 x.1.2).getD ⟨#[]⟩
def ChEl.acc {t : List S99} {h : List S66} {l : List Int} (pre : List (ChEl t h l)) : ByteArray := catB (pre.map ChEl.txt)
theorem ChEl.acc_snoc {t : List S99} {h : List S66} {l : List Int} (pre : List (ChEl t h l)) (x : ChEl t h l) : ChEl.acc (pre ++ [x]) = ChEl.acc pre ++ x.txt := by
 unfold ChEl.acc;rw [List.map_append,List.map_cons,List.map_nil,catB_snoc]
theorem ChEl.txt_size {t : List S99} {h : List S66} {l : List Int} (x : ChEl t h l) : x.txt.size ≤ 2000003 := by
 unfold ChEl.txt
 cases e:chAt t h l x.1.1 x.1.2 with
 | none=>exact Nat.zero_le _
 | some r=>exact chAt_size e
theorem ChEl.acc_size {t : List S99} {h : List S66} {l : List Int} : ∀ pre : List (ChEl t h l), (ChEl.acc pre).size ≤ pre.length * 2000003
 | []=>Nat.zero_le _
 | x :: pre=>by
  have h1:=ChEl.acc_size pre
  have h2:=ChEl.txt_size x
  show (x.txt ++ ChEl.acc pre).size≤_
  rw [ByteArray.size_append,List.length_cons]
  omega
def ChEl.of (t : List S99) (h : List S66) (l : List Int) (e : (chAt t h l 0 (rd l 0)).isSome = true ∨ l.length = 0) (j : Nat) : ChEl t h l :=
 if q:(chAt t h l ((l.length:Int) - 1 - j) (rd l ((l.length:Int) - 1 - j))).isSome=true then ⟨((l.length:Int) - 1 - j,rd l ((l.length:Int) - 1 - j)), .inl q⟩ else ChEl.zero t h l e
theorem chAll_all {t : List S99} {h : List S66} {l : List Int} : ∀ (n : Nat) (r : ByteArray), chAll t h l n = some r → ∀ j : Nat, j < n → (chAt t h l (j : Int) (rd l (j : Int))).isSome = true
 | 0,_,_,j,hj=>by omega
 | n+1,r,h,j,hj=>by
  simp only [chAll] at h
  obtain ⟨a,h1,h⟩:=bzS h
  obtain ⟨b,h2,h⟩:=bzS h
  by_cases e:j=n
  ·subst e;rw [h1];rfl
  ·exact chAll_all n b h2 j (by omega)
theorem ChEl.acc_all {t : List S99} {h : List S66} {l : List Int} (h0 : (chAt t h l 0 (rd l 0)).isSome = true ∨ l.length = 0) : ∀ (n : Nat) (r : ByteArray), n ≤ l.length → chAll t h l n = some r → catB ((List.range n).map fun j => (ChEl.of t h l h0 (l.length - n + j)).txt) = r
 | 0,r,_,h=>by simp [chAll] at h;rw [← h];rfl
 | n+1,r,hn,h=>by
  have h2:=chAll_all (n+1) r h n (by omega)
  simp only [chAll] at h
  obtain ⟨a,ha,h⟩:=bzS h
  obtain ⟨b,hb,h⟩:=bzS h
  obtain rfl:=Option.some.inj h
  have ih:=ChEl.acc_all h0 n b (by omega) hb
  rw [List.range_succ_eq_map,List.map_cons,catB,List.map_map]
  have e1:(ChEl.of t _ l h0 (l.length - (n+1)+0)).txt=a:=by
   have ei:(l.length:Int) - 1 - ((l.length - (n+1)+0:Nat):Int)=(n:Int):=by omega
   have hh:=h2
   rw [← ei] at hh
   simp only [ChEl.of,dif_pos hh,ChEl.txt]
   rw [ei,ha];rfl
  have e2:(List.map ((fun j=>(ChEl.of t _ l h0 (l.length - (n+1)+j)).txt) ∘ Nat.succ) (List.range n))=(List.range n).map fun j=>(ChEl.of t _ l h0 (l.length - n+j)).txt:=by
   apply List.map_congr_left
   intro j _
   simp only [Function.comp]
   rw [show l.length - (n+1)+j.succ=l.length - n+j by omega]
  rw [e1,e2,ih]
theorem ChEl.enc {t : List S99} {h : List S66} {l : List Int} (h0 : (chAt t h l 0 (rd l 0)).isSome = true ∨ l.length = 0) (hall : ∀ j : Nat, j < l.length → (chAt t h l (j : Int) (rd l (j : Int))).isSome = true) {j : Nat} (hj : j < l.length) :
  (fun x:ChEl t h l=>#[Value.int .i64 x.1.1, .int .i64 x.1.2]) (ChEl.of t h l h0 j)=#[.int .i64 ((l.length:Int) - 1 - j), .int .i64 (rd l ((l.length:Int) - 1 - j))]:=by
 have q:=hall (l.length - 1 - j) (by omega)
 rw [show ((l.length - 1 - j:Nat):Int)=(l.length:Int) - 1 - j by omega] at q
 simp only [ChEl.of,dif_pos q]
theorem R_ownC (base : Nat) (v : Value) (l : List Int) {β : Type} : Own (fun (_ : β) W => Kd.R (Kd.int .i64) 3 W base (fun _ => True) v l) := fun s W W' row h hg hr => by
 refine Kd.jcb (Kd.R_move (Kd.R_bound h) (fun k hk=>?_)) (fun _ _=>trivial)
 obtain ⟨_,_,hk,q,hq,cells,hc⟩:=hk
 refine hg.block k hk (fun e=>?_)
 obtain ⟨o,ho,hcells⟩:=hr k e.symm
 rw [hc] at ho;cases ho;cases hcells
set_option maxHeartbeats 8000000 in
set_option maxRecDepth 100000 in
theorem jka.calls (k : Nat) (A0_0 : Option Addr) (c0_0 : Nat) (l0_0 : List (S66)) (A1_0 : Option Addr) (c1_0 : Nat) (l1_0 : List (S99)) (a2 : Int) (r : ByteArray) (w : World) (hr0_0 : Kd.C k66 w A0_0 l0_0.length l0_0) (hc0_0 : l0_0.length ≤ c0_0) (hr1_0 : Kd.C k99 w A1_0 l1_0.length l1_0) (hc1_0 : l1_0.length ≤ c1_0) (h : jka.f k l0_0 l1_0 a2 = some r) :
  Calls Tryd.prog 33 #[.agg #[.slice A0_0 l0_0.length c0_0], .agg #[.slice A1_0 l1_0.length c1_0], .int .i64 a2] w fun e w'=>e=.returned (.string r)∧Below w.heap.size w w':=by
 obtain ⟨l,hl,h⟩:=bzS h
 by_cases hlen:l.length≤1000000000
 case neg=>rw [if_neg hlen] at h;cases h
 rw [if_pos hlen] at h
 have hall:=chAll_all _ _ h
 have hz0:(chAt l1_0 l0_0 l 0 (rd l 0)).isSome=true∨l.length=0:=by
  by_cases e:l.length=0
  ·exact .inr e
  ·exact .inl (hall 0 (by omega))
 have hu28:=Tryd.underlying28
 have hu25:=Tryd.underlying25
 have hu66:=Tryd.underlying66
 have hmx:Tryd.prog.follows .mixedOrders=true:=by kernel_rfl
 have HW:=am (fun W (hb:Below w.heap.size w W)=>impl_chainText_walk k A0_0 l0_0.length c0_0 (fun g=>jBa.f l0_0 g) a2 l W hl (fun W' hb' x y hx=>jBa.calls A0_0 c0_0 l0_0 x y W' (Kd.jD (Kd.jD hr0_0 hb) hb') hc0_0 hx))
 refine (callsIn_wide (n:=8)).1 ?_
 have hro:Fence.wide.round=none:=rfl
 refine callsIn_of_wp_marks Tryd.func33 rfl trivial ?_ hro
 simp only [Tryd.ntmps33,List.size_toArray,List.length_cons,List.length_nil,Nat.reduceAdd,Nat.reduceSub,Array.replicate_succ,Array.replicate_zero,List.push_toArray,List.append_toArray,List.nil_append,List.cons_append]
 have b0:=((Boxed.new w 28 (.slice A0_0 l0_0.length c0_0)).alloc (.cells #[.slice A1_0 l1_0.length c1_0] 25)).alloc (.cells #[.string ⟨#[]⟩] 9)
 have b1:=(Boxed.new (w.alloc (.cells #[.slice A0_0 l0_0.length c0_0] 28)) 25 (.slice A1_0 l1_0.length c1_0)).alloc (.cells #[.string ⟨#[]⟩] 9)
 have b2:=Boxed.new ((w.alloc (.cells #[.slice A0_0 l0_0.length c0_0] 28)).alloc (.cells #[.slice A1_0 l1_0.length c1_0] 25)) 9 (.string ⟨#[]⟩)
 simp only [World.size_alloc] at b1 b2
 have hB3:Below w.heap.size w (((w.alloc (.cells #[.slice A0_0 l0_0.length c0_0] 28)).alloc (.cells #[.slice A1_0 l1_0.length c1_0] 25)).alloc (.cells #[.string ⟨#[]⟩] 9)):=(((Below.refl _ w).alloc (Nat.le_refl _) _).alloc (by simp) _).alloc (by simp;omega) _
 have hcall:=HW.out _ hB3
 have q0:=b0.cell
 clear HW
 gi_wp2_with (first |(refine ⟨trivial,?_⟩;gi_at_call 29;refine (callsIn_wide.2 hcall).mono ?_;rintro e w1 ⟨v1,rfl,hR,hb1⟩;clear hcall;obtain ⟨Ao,co,eo⟩:=Kd.jEa hR;subst eo;have k0:=Boxed.jIb b0 hb1;have k1:=Boxed.jIb b1 hb1;have k2:=Boxed.jIb b2 hb1;clear b0 b1 b2 q0) |(refine ⟨trivial,?_⟩;gi_at_call 58;refine (backC_in Fence.wide _ trivial hro _ _ _ _).mono ?_;rintro e w' ⟨rfl,rfl⟩))
 obtain ⟨W3,hW3⟩:∃ W3,(((w.alloc (.cells #[.slice A0_0 l0_0.length c0_0] 28)).alloc (.cells #[.slice A1_0 l1_0.length c1_0] 25)).alloc (.cells #[.string ⟨#[]⟩] 9))=W3:=⟨_,rfl⟩
 have hs3:W3.heap.size=w.heap.size+3:=by rw [← hW3];simp
 rw [hW3] at hR hb1 hB3
 clear hW3
 have hs1:w.heap.size+3≤w1.heap.size:=by have:=hb1.size;omega
 have B0:Below w.heap.size w ((w1.alloc (.cells #[.slice Ao l.length co] 32)).alloc (.cells #[.slice Ao l.length co] 32)):=((hB3.trans (hb1.mono (by omega))).alloc (by omega) _).alloc (by simp;omega) _
 have d0:=(k0.alloc (.cells #[.slice Ao l.length co] 32)).alloc (.cells #[.slice Ao l.length co] 32)
 have d1:=(k1.alloc (.cells #[.slice Ao l.length co] 32)).alloc (.cells #[.slice Ao l.length co] 32)
 have d2:=(k2.alloc (.cells #[.slice Ao l.length co] 32)).alloc (.cells #[.slice Ao l.length co] 32)
 have dL:=(Boxed.new w1 32 (.slice Ao l.length co)).alloc (.cells #[.slice Ao l.length co] 32)
 have dS:=Boxed.new (w1.alloc (.cells #[.slice Ao l.length co] 32)) 32 (.slice Ao l.length co)
 rw [World.size_alloc] at dS
 have dR:=Kd.jpb (Kd.jpb hR (.cells #[.slice Ao l.length co] 32)) (.cells #[.slice Ao l.length co] 32)
 obtain ⟨W0,hW0⟩:∃ W0,(w1.alloc (.cells #[.slice Ao l.length co] 32)).alloc (.cells #[.slice Ao l.length co] 32)=W0:=⟨_,rfl⟩
 have hs0:W0.heap.size=w1.heap.size+2:=by rw [← hW0];simp
 rw [hW0] at B0 d0 d1 d2 dL dS dR ⊢
 have hW:=am hW0
 clear hW0 k0 k1 k2
 obtain ⟨RD,hRD⟩:∃ RD:World→Prop,RD=fun W=>Boxed W (w1.heap.size+1) 32 (.slice Ao l.length co)∧Kd.R (Kd.int .i64) 3 W W3.heap.size (fun _=>True) (.slice Ao l.length co) l:=⟨_,rfl⟩
 have hRD1:∀ W,RD W→Kd.C (Kd.int .i64) W Ao l.length l∧Boxed W (w1.heap.size+1) 32 (.slice Ao l.length co):=fun W h=>by
  rw [hRD] at h;exact ⟨(Kd.jN h.2).2.2,h.1⟩
 have hRD2:∀ W,Below W0.heap.size W0 W→RD W:=fun W h=>by
  rw [hRD];exact ⟨Boxed.jIb dS h,Kd.jfa dR h⟩
 have hRD3:∀ (W:World) (lp:Nat) (o o':Obj),W.heap[lp]?=some o→o.isCells=false→RD W→RD (W.putObj lp o'):=fun W lp o o' ho hc h=>by
  rw [hRD] at h ⊢
  exact ⟨(boxed_own (β:=Unit) _ _ fun _=>_).putObj (s:=()) o' h.1 ho hc,(R_ownC (β:=Unit) _ _ _).putObj (s:=()) o' h.2 ho hc⟩
 have hRDi:∀ W,Boxed W (w1.heap.size+1) 32 (.slice Ao l.length co)→Kd.R (Kd.int .i64) 3 W W3.heap.size (fun _=>True) (.slice Ao l.length co) l→RD W:=fun W h1 h2=>by rw [hRD];exact ⟨h1,h2⟩
 clear hRD
 obtain ⟨IV,hIV⟩:∃ IV:World→ByteArray→Prop,IV=fun W s=>((((((Boxed W w.heap.size 28 (.slice A0_0 l0_0.length c0_0)∧Boxed W (w.heap.size+1) 25 (.slice A1_0 l1_0.length c1_0))∧Boxed W (w1.heap.size) 32 (.slice Ao l.length co))∧Boxed W (w1.heap.size+1) 32 (.slice Ao l.length co))∧Boxed W (w.heap.size+1+1) 9 (.string s))∧Kd.R (Kd.int .i64) 3 W W3.heap.size (fun _=>True) (.slice Ao l.length co) l)∧Below w.heap.size w W):=⟨_,rfl⟩
 have IB:=am (show ∀ (W W':World) (s:ByteArray),IV W s→Below W.heap.size W W'→IV W' s from fun W W' s h hb=>by
  rw [hIV] at h ⊢
  obtain ⟨⟨⟨⟨⟨⟨i0,i1⟩,iL⟩,iS⟩,iO⟩,iR⟩,hB⟩:=h
  exact ⟨⟨⟨⟨⟨⟨Boxed.jIb i0 hb,Boxed.jIb i1 hb⟩,Boxed.jIb iL hb⟩,Boxed.jIb iS hb⟩,Boxed.jIb iO hb⟩,Kd.jfa iR hb⟩,hB.trans (hb.mono hB.size)⟩)
 have IS:=am (show ∀ (W:World) (s u:ByteArray),IV W s→IV (W.setCell ⟨w.heap.size+1+1,0,none⟩ (.string u)) u from fun W s u h=>by
  rw [hIV] at h ⊢
  obtain ⟨⟨⟨⟨⟨⟨i0,i1⟩,iL⟩,iS⟩,iO⟩,iR⟩,hB⟩:=h
  exact ⟨⟨⟨⟨⟨⟨i0.other (by omega) _,i1.other (by omega) _⟩,iL.other (by omega) _⟩,iS.other (by omega) _⟩,iO.set _⟩,Kd.R_set iR iO (by decide) 0 (.string u)⟩,hB.setCell (p:=⟨w.heap.size+1+1,0,none⟩) (by simp;omega) _⟩)
 have IR:=am (show ∀ (W:World) (s:ByteArray),IV W s→RD W from fun W s h=>by
  rw [hIV] at h
  obtain ⟨⟨⟨⟨⟨⟨i0,i1⟩,iL⟩,iS⟩,iO⟩,iR⟩,hB⟩:=h
  exact hRDi W iS iR)
 have hOwn:OwnFrom W0.heap.size (fun (pre:List (ChEl l1_0 l0_0 l)) W=>IV W (ChEl.acc pre)):=by
  rw [hIV]
  exact (OwnFrom.and (OwnFrom.and (OwnFrom.and (OwnFrom.and (OwnFrom.and (OwnFrom.and (Own.from (boxed_own _ _ fun _=>_) _) (Own.from (boxed_own _ _ fun _=>_) _)) (Own.from (boxed_own _ _ fun _=>_) _)) (Own.from (boxed_own _ _ fun _=>_) _)) (Own.from (boxed_own _ _ fun pre=>Value.string (ChEl.acc pre)) _)) (Own.from (R_ownC _ _ _) _)) (ownFrom_below (Nat.le_refl _) (by omega)))
 have hI0:IV W0 ⟨#[]⟩:=by rw [hIV];exact ⟨⟨⟨⟨⟨⟨d0,d1⟩,dL⟩,dS⟩,d2⟩,dR⟩,B0⟩

 refine wpIn_rangeFunc_ownH hro (by omega) (gf:=85) (lb:=#[.pointer (some ⟨w1.heap.size+1,0,none⟩)]) rfl trivial (enters_of Tryd.func85 (by kernel_rfl) rfl)
  (encs:=fun x:ChEl l1_0 l0_0 l=>#[.int .i64 x.1.1, .int .i64 x.1.2]) (Kp:=fun W W'=>RD W→RD W')
  (S:=fun ys=>ys=uptoC (ChEl.of l1_0 l0_0 l hz0) l.length) (Sp:=fun pre=>∃ q,q≤l.length∧pre=uptoC (ChEl.of l1_0 l0_0 l hz0) q) (N:=l.length) (w0:=W0)
  (fun lp J Jx W hW _ _ hY h0=>backC1_in Fence.wide _ trivial hro (by omega) lp _ Ao co l (by omega) RD (fun W W'=>RD W→RD W') hRD1 (fun W W' h h2=>h h2) _ (ChEl.of l1_0 l0_0 l hz0) (fun j hj=>ChEl.enc hz0 hall hj) J Jx hY W (hRD2 W hW) h0)
  (fun h k x=>k (h x)) (fun W lp o o' hl ho hc hw hx=>hRD3 W lp o o' ho hc hx) (Below.refl _ _) (fun _=>rfl)
  (fun pre W=>IV W (ChEl.acc pre))
  (fun c pre W=>False)
  hOwn
  (fun c=>ownFrom_pure _ fun _=>False)
  hI0
  (fun x a' W=>a'={ tmps:=#[.agg #[.slice A0_0 l0_0.length c0_0], .agg #[.slice A1_0 l1_0.length c1_0], .int .i64 a2, .pointer (some ⟨w.heap.size,0,none⟩), .pointer (some ⟨w.heap.size+1,0,none⟩),undef, .string ⟨#[]⟩, .pointer (some ⟨w.heap.size+1+1,0,none⟩), .pointer (some ⟨w1.heap.size,0,none⟩), .int .i64 x.1.1, .int .i64 x.1.2,undef,undef, .int .i64 a2, .agg #[.slice A0_0 l0_0.length c0_0], .func (.func 30) #[.agg #[.slice A0_0 l0_0.length c0_0]] #[], .slice Ao l.length co, .slice Ao l.length co, .func (.func 85) #[] #[.pointer (some ⟨w1.heap.size+1,0,none⟩)], .int .i64 x.1.1, .int .i64 x.1.2,undef,undef,undef,undef,undef,undef,undef,undef,undef,undef,undef,undef,undef,undef,undef,undef,undef,undef,undef,undef,undef,undef,undef,undef,undef,undef,undef,undef,undef,undef],defers:=[] })
  (fun x a' _ X Y row hs hg hr=>hs)
  ?assign ?body ?done ?stop

 case assign =>
  rintro lp pre x W K hI hK
  gi_wp2
  exact hK _ _ (KeepsFrom.jdb (Below.refl _ _) _) (fun h=>h) hI rfl
 case body =>
  rintro lp pre ⟨⟨ix,g⟩,hx⟩ a' W hl ⟨rr,hrr⟩ hI rfl hlt
  have hx1:(chAt l1_0 l0_0 l ix g).isSome=true:=by
   rcases hx with h | h
   ·exact h
   ·exact absurd hlt (by omega)
  obtain ⟨g0,g1,tx,htx,htz,hcs⟩:=chAt_inv hx1
  have hsn:=ChEl.acc_snoc pre ⟨(ix,g),hx⟩
  have hsz:=ChEl.acc_size pre
  have hI1:=hI
  rw [hIV] at hI1
  obtain ⟨⟨⟨⟨⟨⟨i0,i1⟩,iL⟩,iS⟩,iO⟩,iR⟩,hB⟩:=hI1
  obtain ⟨ad,rfl,y0,y1,y2,y3,y4⟩:=jLa (Kd.jD hr0_0 hB) g g0 g1
  have KT:=am (fun W' (hb:Below w.heap.size w W')=>jpa.calls A1_0 c1_0 l1_0 _ _ tx W' (Kd.jD hr1_0 hb) hc1_0 htx)
  have hbX:Below W.heap.size W (World.drew (W.alloc (.cells #[.int .i64 (jb l0_0 g).f0, .int .i64 (jb l0_0 g).f1, .int .i64 (jb l0_0 g).f2, .int .i64 (jb l0_0 g).f3, .bool (jb l0_0 g).f4] 66))):=jPa (jh (Below.refl W.heap.size W) _)
  have c0:=i0.cell
  have c1:=i1.cell
  have cL:=iL.cell
  have cO:=iO.cell
  have fO:=iO.frozen
  have hwl:wrap64 ((l.length:Int) - 1)=(l.length:Int) - 1:=xwrC (by omega)
  have hO1:w.heap.size+1+1<W.heap.size:=iO.lt
  have hT1:w.heap.size+1<W.heap.size:=i1.lt
  have hL1:w1.heap.size<W.heap.size:=iL.lt
  have p0:=ezT g0
  have p1:=ezT g1
  have hacc:∃ AC,ChEl.acc pre=AC:=⟨_,rfl⟩
  obtain ⟨AC,hAC⟩:=hacc
  rw [hAC] at hsn hsz hI iO cO
  have hszm:AC.size≤2000003000000000:=by omega
  clear hsz hRD1 hRD2 hRD3
  rcases hcs with ⟨hd,hch⟩ | ⟨hd,hi0,hch⟩
  ·have hdb:=dzF hd
   have hF:ChEl.acc (pre ++ [⟨(ix,g),hx⟩])=AC ++ tx:=by rw [hsn];unfold ChEl.txt;rw [hch];rfl
   clear hch hsn hd
   have z0:AC.size+tx.size≤9223372036854775807:=by first | omega |(rw [ByteArray.size_append];have:(⟨#[32,62,32]⟩:ByteArray).size=3:=rfl;have:(⟨#[32,126,32]⟩:ByteArray).size=3:=rfl;omega)
   have z1:=ezT z0
   have z2:=dzT z0
   have z3:(9223372036854775807<AC.size+tx.size)=False:=eq_false (Nat.not_lt.2 z0)
   gi_wp2
   refine jlb (S:=(fun W':World=>W'.cell? ⟨w.heap.size+1,0,none⟩=some (.slice A1_0 l1_0.length c1_0)∧W'.cell? ⟨W.heap.size,0,none⟩=some (.int .i64 (jb l0_0 g).f0)∧W'.cell? ⟨W.heap.size,1,none⟩=some (.int .i64 (jb l0_0 g).f1))) hmx (by kernel_rfl) ?hL ?_
   case hL=>rintro ⟨_,_,h⟩;exact h
   change wpAnyH _ _ _ _ _ _ _ _ (World.drew (W.alloc (.cells #[.int .i64 (jb l0_0 g).f0, .int .i64 (jb l0_0 g).f1, .int .i64 (jb l0_0 g).f2, .int .i64 (jb l0_0 g).f3, .bool (jb l0_0 g).f4] 66)))
   obtain ⟨V,hVe,hVI,hVK,hVX⟩:∃ V:World,World.drew (W.alloc (.cells #[.int .i64 (jb l0_0 g).f0, .int .i64 (jb l0_0 g).f1, .int .i64 (jb l0_0 g).f2, .int .i64 (jb l0_0 g).f3, .bool (jb l0_0 g).f4] 66))=V∧IV V AC∧KeepsFrom W0.heap.size W V∧V.heap[W.heap.size]?=some (.cells #[.int .i64 (jb l0_0 g).f0, .int .i64 (jb l0_0 g).f1, .int .i64 (jb l0_0 g).f2, .int .i64 (jb l0_0 g).f3, .bool (jb l0_0 g).f4] 66 (0,0)):=⟨_,rfl,IB.out _ _ _ hI hbX,KeepsFrom.jdb hbX _,jv (heap_alloc_new W (.cells #[.int .i64 (jb l0_0 g).f0, .int .i64 (jb l0_0 g).f1, .int .i64 (jb l0_0 g).f2, .int .i64 (jb l0_0 g).f3, .bool (jb l0_0 g).f4] 66))⟩
   rw [hVe]
   clear hVe
   have hVI2:=hVI
   rw [hIV] at hVI2
   obtain ⟨⟨⟨⟨⟨⟨v0,v1⟩,vL⟩,vS⟩,vO⟩,vR⟩,vB⟩:=hVI2
   clear v0 vL vS vR c0 c1 cL cO fO
   have cO:=vO.cell
   have fO:=vO.frozen
   have hS0:(fun W':World=>W'.cell? ⟨w.heap.size+1,0,none⟩=some (.slice A1_0 l1_0.length c1_0)∧W'.cell? ⟨W.heap.size,0,none⟩=some (.int .i64 (jb l0_0 g).f0)∧W'.cell? ⟨W.heap.size,1,none⟩=some (.int .i64 (jb l0_0 g).f1)) V:=⟨v1.cell,(jC hVX 0).trans rfl,(jC hVX 1).trans rfl⟩
   refine wpAnyH_take (i:=1) (v:=?_) rfl (by kernel_rfl) (by kernel_rfl) (by kernel_rfl) (fun _ _ _ h=>h) (Or.inl ⟨by rfl,?_⟩) hS0 ?_
   rotate_left
   ·rintro W' ⟨s1,s2,s3⟩
    go_simp
    with_reducible rfl
   refine wpAnyH_take (i:=2) (v:=?_) rfl (by kernel_rfl) (by kernel_rfl) (by kernel_rfl) (fun _ _ _ h=>h) (Or.inl ⟨by rfl,?_⟩) hS0 ?_
   rotate_left
   ·rintro W' ⟨s1,s2,s3⟩
    go_simp
    with_reducible rfl
   refine wpAnyH_take (i:=3) (v:=?_) rfl (by kernel_rfl) (by kernel_rfl) (by kernel_rfl) (fun _ _ _ h=>h) (Or.inl ⟨by rfl,?_⟩) hS0 ?_
   rotate_left
   ·rintro W' ⟨s1,s2,s3⟩
    go_simp
    with_reducible rfl
   refine wpAnyH_take (i:=4) (v:=?_) rfl (by kernel_rfl) (by kernel_rfl) (by kernel_rfl) (fun _ _ _ h=>h) (Or.inl ⟨by rfl,?_⟩) hS0 ?_
   rotate_left
   ·rintro W' ⟨s1,s2,s3⟩
    go_simp
    with_reducible rfl
   refine wpAnyH_take (i:=5) (v:=?_) rfl (by kernel_rfl) (by kernel_rfl) (by kernel_rfl) (fun _ _ _ h=>h) (Or.inl ⟨by rfl,?_⟩) hS0 ?_
   rotate_left
   ·rintro W' ⟨s1,s2,s3⟩
    go_simp
    with_reducible rfl
   refine wpAnyH_all (rs:=[0,6]) (by kernel_rfl) (by simp) ?_
   intro ii hii
   rcases (by simpa using hii:ii=0∨ii=6) with rfl | rfl
   all_goals clear hii
   ·refine wpOp_step rfl (fun K hK=>?_)
    go_simp
    refine hK _ _ ⟨hS0,?_⟩
    clear hK K
    refine wpAnyH_all (rs:=[6]) (by kernel_rfl) (by simp) ?_
    intro ii hii
    obtain rfl:ii=6:=by simpa using hii
    clear hii
    refine wpOp_step rfl (fun K hK=>?_)
    go_simp
    refine (KT.out _ vB).mono ?_
    rintro e w4 ⟨rfl,hb4⟩
    have hS1:(fun W':World=>W'.cell? ⟨w.heap.size+1,0,none⟩=some (.slice A1_0 l1_0.length c1_0)∧W'.cell? ⟨W.heap.size,0,none⟩=some (.int .i64 (jb l0_0 g).f0)∧W'.cell? ⟨W.heap.size,1,none⟩=some (.int .i64 (jb l0_0 g).f1)) w4:=⟨jG hb4 hS0.1,jG hb4 hS0.2.1,jG hb4 hS0.2.2⟩
    have hO4:=Boxed.jIb vO hb4
    have cO4:=hO4.cell
    have fO4:=hO4.frozen
    refine hK _ _ ⟨hS1,?_⟩
    clear hK K
    refine wpAnyH_take (i:=7) (v:=?_) rfl (by kernel_rfl) (by kernel_rfl) (by kernel_rfl) (fun _ _ _ h=>h) (Or.inl ⟨by rfl,?_⟩) hS1 ?_
    rotate_left
    ·rintro W' ⟨s1,s2,s3⟩
     go_simp
     with_reducible rfl
    refine wpAnyH_all (rs:=[8]) (by kernel_rfl) (by simp) ?_
    intro ii hii
    obtain rfl:ii=8:=by simpa using hii
    clear hii
    refine wpOp_step rfl (fun K hK=>?_)
    go_simp
    have hS2:(fun W':World=>W'.cell? ⟨w.heap.size+1,0,none⟩=some (.slice A1_0 l1_0.length c1_0)∧W'.cell? ⟨W.heap.size,0,none⟩=some (.int .i64 (jb l0_0 g).f0)∧W'.cell? ⟨W.heap.size,1,none⟩=some (.int .i64 (jb l0_0 g).f1)) (w4.setCell ⟨w.heap.size+1+1,0,none⟩ (.string (AC ++ tx))):=⟨(World.cell?_setCell_far _ _ _ _ (by simp)).trans hS1.1,(World.cell?_setCell_far _ _ _ _ (by simp;omega)).trans hS1.2.1,(World.cell?_setCell_far _ _ _ _ (by simp;omega)).trans hS1.2.2⟩
    refine hK _ _ ⟨hS2,?_⟩
    clear hK K
    refine wpAnyH_done (by kernel_rfl) ?_ _
    exact ⟨hVK.trans ((KeepsFrom.jdb hb4 _).trans ((KeepsOthers.setCell _ _ _).from _)),fun _=>IR.out _ _ (IS.out _ _ _ (IB.out _ _ _ hVI hb4)),by show IV _ (ChEl.acc (pre ++ [⟨(ix,g),hx⟩]));rw [hF];exact IS.out _ _ _ (IB.out _ _ _ hVI hb4)⟩
   ·refine wpOp_step rfl (fun K hK=>?_)
    go_simp
    refine (KT.out _ vB).mono ?_
    rintro e w4 ⟨rfl,hb4⟩
    have hS1:(fun W':World=>W'.cell? ⟨w.heap.size+1,0,none⟩=some (.slice A1_0 l1_0.length c1_0)∧W'.cell? ⟨W.heap.size,0,none⟩=some (.int .i64 (jb l0_0 g).f0)∧W'.cell? ⟨W.heap.size,1,none⟩=some (.int .i64 (jb l0_0 g).f1)) w4:=⟨jG hb4 hS0.1,jG hb4 hS0.2.1,jG hb4 hS0.2.2⟩
    have hO4:=Boxed.jIb vO hb4
    have cO4:=hO4.cell
    have fO4:=hO4.frozen
    refine hK _ _ ⟨hS1,?_⟩
    clear hK K
    refine wpAnyH_all (rs:=[0]) (by kernel_rfl) (by simp) ?_
    intro ii hii
    obtain rfl:ii=0:=by simpa using hii
    clear hii
    refine wpOp_step rfl (fun K hK=>?_)
    go_simp
    refine hK _ _ ⟨hS1,?_⟩
    clear hK K
    refine wpAnyH_take (i:=7) (v:=?_) rfl (by kernel_rfl) (by kernel_rfl) (by kernel_rfl) (fun _ _ _ h=>h) (Or.inl ⟨by rfl,?_⟩) hS1 ?_
    rotate_left
    ·rintro W' ⟨s1,s2,s3⟩
     go_simp
     with_reducible rfl
    refine wpAnyH_all (rs:=[8]) (by kernel_rfl) (by simp) ?_
    intro ii hii
    obtain rfl:ii=8:=by simpa using hii
    clear hii
    refine wpOp_step rfl (fun K hK=>?_)
    go_simp
    have hS2:(fun W':World=>W'.cell? ⟨w.heap.size+1,0,none⟩=some (.slice A1_0 l1_0.length c1_0)∧W'.cell? ⟨W.heap.size,0,none⟩=some (.int .i64 (jb l0_0 g).f0)∧W'.cell? ⟨W.heap.size,1,none⟩=some (.int .i64 (jb l0_0 g).f1)) (w4.setCell ⟨w.heap.size+1+1,0,none⟩ (.string (AC ++ tx))):=⟨(World.cell?_setCell_far _ _ _ _ (by simp)).trans hS1.1,(World.cell?_setCell_far _ _ _ _ (by simp;omega)).trans hS1.2.1,(World.cell?_setCell_far _ _ _ _ (by simp;omega)).trans hS1.2.2⟩
    refine hK _ _ ⟨hS2,?_⟩
    clear hK K
    refine wpAnyH_done (by kernel_rfl) ?_ _
    exact ⟨hVK.trans ((KeepsFrom.jdb hb4 _).trans ((KeepsOthers.setCell _ _ _).from _)),fun _=>IR.out _ _ (IS.out _ _ _ (IB.out _ _ _ hVI hb4)),by show IV _ (ChEl.acc (pre ++ [⟨(ix,g),hx⟩]));rw [hF];exact IS.out _ _ _ (IB.out _ _ _ hVI hb4)⟩
  ·have hdb:=dzT hd
   obtain ⟨adl,rfl,hz⟩:=Kd.jtb (Kd.jN iR).2.2 (ix+1) (by omega) (by omega)
   have hwi:wrap64 (ix+1)=ix+1:=xwrC (by omega)
   have hwi2:IntKind.i64.wrap (ix+1)=ix+1:=IntWalk.i64_in _ (by omega)
   have p2:=ezT (show 0≤ix+1 by omega)
   have p3:=ezT (show ix+1<(l.length:Int) by omega)
   rcases hch with ⟨he,hch⟩ | ⟨he,hch⟩
   ·have heb:((jb l0_0 g).f2 == rd l (ix+1))=true:=by simpa using he
    have hF:ChEl.acc (pre ++ [⟨(ix,g),hx⟩])=(AC ++ (⟨#[32,62,32]⟩:ByteArray)) ++ tx:=by rw [hsn];unfold ChEl.txt;rw [hch];show AC ++ ((⟨#[32,62,32]⟩:ByteArray) ++ tx)=_;rw [ByteArray.append_assoc]
    clear hch hsn hd he
    have z0:AC.size+3≤9223372036854775807:=by first | omega |(rw [ByteArray.size_append];have:(⟨#[32,62,32]⟩:ByteArray).size=3:=rfl;have:(⟨#[32,126,32]⟩:ByteArray).size=3:=rfl;omega)
    have z1:=ezT z0
    have z2:=dzT z0
    have z3:(9223372036854775807<AC.size+3)=False:=eq_false (Nat.not_lt.2 z0)
    have y0:AC.size+3+tx.size≤9223372036854775807:=by first | omega |(rw [ByteArray.size_append];have:(⟨#[32,62,32]⟩:ByteArray).size=3:=rfl;have:(⟨#[32,126,32]⟩:ByteArray).size=3:=rfl;omega)
    have y1:=ezT y0
    have y2:=dzT y0
    have y3:(9223372036854775807<AC.size+3+tx.size)=False:=eq_false (Nat.not_lt.2 y0)
    have fO2:=(Boxed.jIb iO hbX).frozen
    have cO2:=(Boxed.jIb iO hbX).cell
    gi_wp2
    refine jlb (S:=(fun W':World=>W'.cell? ⟨W.heap.size,2,none⟩=some (.int .i64 (jb l0_0 g).f2)∧W'.cell? ⟨w1.heap.size,0,none⟩=some (.slice (some adl) l.length co)∧W'.cell? (adl.add (ix+1).toNat)=some (.int .i64 (rd l (ix+1))))) hmx (by kernel_rfl) ?hL ?_
    case hL=>rintro ⟨_,_,h⟩;exact h
    change wpAnyH _ _ _ _ _ _ _ _ (World.drew (W.alloc (.cells #[.int .i64 (jb l0_0 g).f0, .int .i64 (jb l0_0 g).f1, .int .i64 (jb l0_0 g).f2, .int .i64 (jb l0_0 g).f3, .bool (jb l0_0 g).f4] 66)))
    have hS9:(fun W':World=>W'.cell? ⟨W.heap.size,2,none⟩=some (.int .i64 (jb l0_0 g).f2)∧W'.cell? ⟨w1.heap.size,0,none⟩=some (.slice (some adl) l.length co)∧W'.cell? (adl.add (ix+1).toNat)=some (.int .i64 (rd l (ix+1)))) (World.drew (W.alloc (.cells #[.int .i64 (jb l0_0 g).f0, .int .i64 (jb l0_0 g).f1, .int .i64 (jb l0_0 g).f2, .int .i64 (jb l0_0 g).f3, .bool (jb l0_0 g).f4] 66))):=⟨(jC (jv (heap_alloc_new W (.cells #[.int .i64 (jb l0_0 g).f0, .int .i64 (jb l0_0 g).f1, .int .i64 (jb l0_0 g).f2, .int .i64 (jb l0_0 g).f3, .bool (jb l0_0 g).f4] 66))) 2).trans rfl,jG hbX cL,jG hbX hz⟩
    refine wpAnyH_take (i:=0) (v:=?_) rfl (by kernel_rfl) (by kernel_rfl) (by kernel_rfl) (fun _ _ _ h=>h) (Or.inl ⟨by rfl,?_⟩) hS9 ?_
    rotate_left
    ·rintro W' ⟨s1,s2,s3⟩
     go_simp
     with_reducible rfl
    refine wpAnyH_take (i:=1) (v:=?_) rfl (by kernel_rfl) (by kernel_rfl) (by kernel_rfl) (fun _ _ _ h=>h) (Or.inl ⟨by rfl,?_⟩) hS9 ?_
    rotate_left
    ·rintro W' ⟨s1,s2,s3⟩
     go_simp
     with_reducible rfl
    refine wpAnyH_take (i:=2) (v:=?_) rfl (by kernel_rfl) (by kernel_rfl) (by kernel_rfl) (fun _ _ _ h=>h) (Or.inl ⟨by rfl,?_⟩) hS9 ?_
    rotate_left
    ·rintro W' ⟨s1,s2,s3⟩
     go_simp
     with_reducible rfl
    refine wpAnyH_take (i:=3) (v:=?_) rfl (by kernel_rfl) (by kernel_rfl) (by kernel_rfl) (fun _ _ _ h=>h) (Or.inl ⟨by rfl,?_⟩) hS9 ?_
    rotate_left
    ·rintro W' ⟨s1,s2,s3⟩
     go_simp
     with_reducible rfl
    refine wpAnyH_take (i:=4) (v:=?_) rfl (by kernel_rfl) (by kernel_rfl) (by kernel_rfl) (fun _ _ _ h=>h) (Or.inl ⟨by rfl,?_⟩) hS9 ?_
    rotate_left
    ·rintro W' ⟨s1,s2,s3⟩
     go_simp
     with_reducible rfl
    refine wpAnyH_take (i:=5) (v:=?_) rfl (by kernel_rfl) (by kernel_rfl) (by kernel_rfl) (fun _ _ _ h=>h) (Or.inl ⟨by rfl,?_⟩) hS9 ?_
    rotate_left
    ·rintro W' ⟨s1,s2,s3⟩
     go_simp
     with_reducible rfl
    refine wpAnyH_take (i:=6) (v:=?_) rfl (by kernel_rfl) (by kernel_rfl) (by kernel_rfl) (fun _ _ _ h=>h) (Or.inl ⟨by rfl,?_⟩) hS9 ?_
    rotate_left
    ·rintro W' ⟨s1,s2,s3⟩
     go_simp
     with_reducible rfl
    refine wpAnyH_take (i:=7) (v:=?_) rfl (by kernel_rfl) (by kernel_rfl) (by kernel_rfl) (fun _ _ _ h=>h) (Or.inl ⟨by rfl,?_⟩) hS9 ?_
    rotate_left
    ·rintro W' ⟨s1,s2,s3⟩
     go_simp
     with_reducible rfl
    refine wpAnyH_done (by kernel_rfl) ?_ _
    rename_i K9 hK9
    refine hK9 _ _ ?_
    clear hK9
    go_simp
    gi_wp2
    refine jlb (S:=(fun W':World=>W'.cell? ⟨w.heap.size+1,0,none⟩=some (.slice A1_0 l1_0.length c1_0)∧W'.cell? ⟨W.heap.size,0,none⟩=some (.int .i64 (jb l0_0 g).f0)∧W'.cell? ⟨W.heap.size,1,none⟩=some (.int .i64 (jb l0_0 g).f1))) hmx (by kernel_rfl) ?hL ?_
    case hL=>rintro ⟨_,_,h⟩;exact h
    change wpAnyH _ _ _ _ _ _ _ _ (World.drew (World.drew ((W.setCell ⟨w.heap.size+1+1,0,none⟩ (.string (AC ++ (⟨#[32,62,32]⟩:ByteArray)))).alloc (.cells #[.int .i64 (jb l0_0 g).f0, .int .i64 (jb l0_0 g).f1, .int .i64 (jb l0_0 g).f2, .int .i64 (jb l0_0 g).f3, .bool (jb l0_0 g).f4] 66))))
    obtain ⟨V,hVe,hVI,hVK,hVX⟩:∃ V:World,World.drew (World.drew ((W.setCell ⟨w.heap.size+1+1,0,none⟩ (.string (AC ++ (⟨#[32,62,32]⟩:ByteArray)))).alloc (.cells #[.int .i64 (jb l0_0 g).f0, .int .i64 (jb l0_0 g).f1, .int .i64 (jb l0_0 g).f2, .int .i64 (jb l0_0 g).f3, .bool (jb l0_0 g).f4] 66)))=V∧IV V (AC ++ (⟨#[32,62,32]⟩:ByteArray))∧KeepsFrom W0.heap.size W V∧V.heap[W.heap.size]?=some (.cells #[.int .i64 (jb l0_0 g).f0, .int .i64 (jb l0_0 g).f1, .int .i64 (jb l0_0 g).f2, .int .i64 (jb l0_0 g).f3, .bool (jb l0_0 g).f4] 66 (0,0)):=⟨_,rfl,IB.out _ _ _ (IS.out _ _ _ hI) (jPa (jPa (jh (Below.refl _ _) _))),((KeepsOthers.setCell _ _ _).from _).trans (KeepsFrom.jdb (jPa (jPa (jh (Below.refl _ _) _))) _),(by have h:=jv (jv (heap_alloc_new (W.setCell ⟨w.heap.size+1+1,0,none⟩ (.string (AC ++ (⟨#[32,62,32]⟩:ByteArray)))) (.cells #[.int .i64 (jb l0_0 g).f0, .int .i64 (jb l0_0 g).f1, .int .i64 (jb l0_0 g).f2, .int .i64 (jb l0_0 g).f3, .bool (jb l0_0 g).f4] 66)));rw [show (W.setCell ⟨w.heap.size+1+1,0,none⟩ (.string (AC ++ (⟨#[32,62,32]⟩:ByteArray)))).heap.size=W.heap.size by simp] at h;exact h)⟩
    rw [hVe]
    clear hVe
    have hVI2:=hVI
    rw [hIV] at hVI2
    obtain ⟨⟨⟨⟨⟨⟨v0,v1⟩,vL⟩,vS⟩,vO⟩,vR⟩,vB⟩:=hVI2
    clear v0 vL vS vR c0 c1 cL cO fO
    have cO:=vO.cell
    have fO:=vO.frozen
    have hS0:(fun W':World=>W'.cell? ⟨w.heap.size+1,0,none⟩=some (.slice A1_0 l1_0.length c1_0)∧W'.cell? ⟨W.heap.size,0,none⟩=some (.int .i64 (jb l0_0 g).f0)∧W'.cell? ⟨W.heap.size,1,none⟩=some (.int .i64 (jb l0_0 g).f1)) V:=⟨v1.cell,(jC hVX 0).trans rfl,(jC hVX 1).trans rfl⟩
    refine wpAnyH_take (i:=1) (v:=?_) rfl (by kernel_rfl) (by kernel_rfl) (by kernel_rfl) (fun _ _ _ h=>h) (Or.inl ⟨by rfl,?_⟩) hS0 ?_
    rotate_left
    ·rintro W' ⟨s1,s2,s3⟩
     go_simp
     with_reducible rfl
    refine wpAnyH_take (i:=2) (v:=?_) rfl (by kernel_rfl) (by kernel_rfl) (by kernel_rfl) (fun _ _ _ h=>h) (Or.inl ⟨by rfl,?_⟩) hS0 ?_
    rotate_left
    ·rintro W' ⟨s1,s2,s3⟩
     go_simp
     with_reducible rfl
    refine wpAnyH_take (i:=3) (v:=?_) rfl (by kernel_rfl) (by kernel_rfl) (by kernel_rfl) (fun _ _ _ h=>h) (Or.inl ⟨by rfl,?_⟩) hS0 ?_
    rotate_left
    ·rintro W' ⟨s1,s2,s3⟩
     go_simp
     with_reducible rfl
    refine wpAnyH_take (i:=4) (v:=?_) rfl (by kernel_rfl) (by kernel_rfl) (by kernel_rfl) (fun _ _ _ h=>h) (Or.inl ⟨by rfl,?_⟩) hS0 ?_
    rotate_left
    ·rintro W' ⟨s1,s2,s3⟩
     go_simp
     with_reducible rfl
    refine wpAnyH_take (i:=5) (v:=?_) rfl (by kernel_rfl) (by kernel_rfl) (by kernel_rfl) (fun _ _ _ h=>h) (Or.inl ⟨by rfl,?_⟩) hS0 ?_
    rotate_left
    ·rintro W' ⟨s1,s2,s3⟩
     go_simp
     with_reducible rfl
    refine wpAnyH_all (rs:=[0,6]) (by kernel_rfl) (by simp) ?_
    intro ii hii
    rcases (by simpa using hii:ii=0∨ii=6) with rfl | rfl
    all_goals clear hii
    ·refine wpOp_step rfl (fun K hK=>?_)
     go_simp
     refine hK _ _ ⟨hS0,?_⟩
     clear hK K
     refine wpAnyH_all (rs:=[6]) (by kernel_rfl) (by simp) ?_
     intro ii hii
     obtain rfl:ii=6:=by simpa using hii
     clear hii
     refine wpOp_step rfl (fun K hK=>?_)
     go_simp
     refine (KT.out _ vB).mono ?_
     rintro e w4 ⟨rfl,hb4⟩
     have hS1:(fun W':World=>W'.cell? ⟨w.heap.size+1,0,none⟩=some (.slice A1_0 l1_0.length c1_0)∧W'.cell? ⟨W.heap.size,0,none⟩=some (.int .i64 (jb l0_0 g).f0)∧W'.cell? ⟨W.heap.size,1,none⟩=some (.int .i64 (jb l0_0 g).f1)) w4:=⟨jG hb4 hS0.1,jG hb4 hS0.2.1,jG hb4 hS0.2.2⟩
     have hO4:=Boxed.jIb vO hb4
     have cO4:=hO4.cell
     have fO4:=hO4.frozen
     refine hK _ _ ⟨hS1,?_⟩
     clear hK K
     refine wpAnyH_take (i:=7) (v:=?_) rfl (by kernel_rfl) (by kernel_rfl) (by kernel_rfl) (fun _ _ _ h=>h) (Or.inl ⟨by rfl,?_⟩) hS1 ?_
     rotate_left
     ·rintro W' ⟨s1,s2,s3⟩
      go_simp
      with_reducible rfl
     refine wpAnyH_all (rs:=[8]) (by kernel_rfl) (by simp) ?_
     intro ii hii
     obtain rfl:ii=8:=by simpa using hii
     clear hii
     refine wpOp_step rfl (fun K hK=>?_)
     go_simp
     have hS2:(fun W':World=>W'.cell? ⟨w.heap.size+1,0,none⟩=some (.slice A1_0 l1_0.length c1_0)∧W'.cell? ⟨W.heap.size,0,none⟩=some (.int .i64 (jb l0_0 g).f0)∧W'.cell? ⟨W.heap.size,1,none⟩=some (.int .i64 (jb l0_0 g).f1)) (w4.setCell ⟨w.heap.size+1+1,0,none⟩ (.string ((AC ++ (⟨#[32,62,32]⟩:ByteArray)) ++ tx))):=⟨(World.cell?_setCell_far _ _ _ _ (by simp)).trans hS1.1,(World.cell?_setCell_far _ _ _ _ (by simp;omega)).trans hS1.2.1,(World.cell?_setCell_far _ _ _ _ (by simp;omega)).trans hS1.2.2⟩
     refine hK _ _ ⟨hS2,?_⟩
     clear hK K
     refine wpAnyH_done (by kernel_rfl) ?_ _
     exact ⟨hVK.trans ((KeepsFrom.jdb hb4 _).trans ((KeepsOthers.setCell _ _ _).from _)),fun _=>IR.out _ _ (IS.out _ _ _ (IB.out _ _ _ hVI hb4)),by show IV _ (ChEl.acc (pre ++ [⟨(ix,g),hx⟩]));rw [hF];exact IS.out _ _ _ (IB.out _ _ _ hVI hb4)⟩
    ·refine wpOp_step rfl (fun K hK=>?_)
     go_simp
     refine (KT.out _ vB).mono ?_
     rintro e w4 ⟨rfl,hb4⟩
     have hS1:(fun W':World=>W'.cell? ⟨w.heap.size+1,0,none⟩=some (.slice A1_0 l1_0.length c1_0)∧W'.cell? ⟨W.heap.size,0,none⟩=some (.int .i64 (jb l0_0 g).f0)∧W'.cell? ⟨W.heap.size,1,none⟩=some (.int .i64 (jb l0_0 g).f1)) w4:=⟨jG hb4 hS0.1,jG hb4 hS0.2.1,jG hb4 hS0.2.2⟩
     have hO4:=Boxed.jIb vO hb4
     have cO4:=hO4.cell
     have fO4:=hO4.frozen
     refine hK _ _ ⟨hS1,?_⟩
     clear hK K
     refine wpAnyH_all (rs:=[0]) (by kernel_rfl) (by simp) ?_
     intro ii hii
     obtain rfl:ii=0:=by simpa using hii
     clear hii
     refine wpOp_step rfl (fun K hK=>?_)
     go_simp
     refine hK _ _ ⟨hS1,?_⟩
     clear hK K
     refine wpAnyH_take (i:=7) (v:=?_) rfl (by kernel_rfl) (by kernel_rfl) (by kernel_rfl) (fun _ _ _ h=>h) (Or.inl ⟨by rfl,?_⟩) hS1 ?_
     rotate_left
     ·rintro W' ⟨s1,s2,s3⟩
      go_simp
      with_reducible rfl
     refine wpAnyH_all (rs:=[8]) (by kernel_rfl) (by simp) ?_
     intro ii hii
     obtain rfl:ii=8:=by simpa using hii
     clear hii
     refine wpOp_step rfl (fun K hK=>?_)
     go_simp
     have hS2:(fun W':World=>W'.cell? ⟨w.heap.size+1,0,none⟩=some (.slice A1_0 l1_0.length c1_0)∧W'.cell? ⟨W.heap.size,0,none⟩=some (.int .i64 (jb l0_0 g).f0)∧W'.cell? ⟨W.heap.size,1,none⟩=some (.int .i64 (jb l0_0 g).f1)) (w4.setCell ⟨w.heap.size+1+1,0,none⟩ (.string ((AC ++ (⟨#[32,62,32]⟩:ByteArray)) ++ tx))):=⟨(World.cell?_setCell_far _ _ _ _ (by simp)).trans hS1.1,(World.cell?_setCell_far _ _ _ _ (by simp;omega)).trans hS1.2.1,(World.cell?_setCell_far _ _ _ _ (by simp;omega)).trans hS1.2.2⟩
     refine hK _ _ ⟨hS2,?_⟩
     clear hK K
     refine wpAnyH_done (by kernel_rfl) ?_ _
     exact ⟨hVK.trans ((KeepsFrom.jdb hb4 _).trans ((KeepsOthers.setCell _ _ _).from _)),fun _=>IR.out _ _ (IS.out _ _ _ (IB.out _ _ _ hVI hb4)),by show IV _ (ChEl.acc (pre ++ [⟨(ix,g),hx⟩]));rw [hF];exact IS.out _ _ _ (IB.out _ _ _ hVI hb4)⟩
   ·have heb:((jb l0_0 g).f2 == rd l (ix+1))=false:=by simpa using he
    have hF:ChEl.acc (pre ++ [⟨(ix,g),hx⟩])=(AC ++ (⟨#[32,126,32]⟩:ByteArray)) ++ tx:=by rw [hsn];unfold ChEl.txt;rw [hch];show AC ++ ((⟨#[32,126,32]⟩:ByteArray) ++ tx)=_;rw [ByteArray.append_assoc]
    clear hch hsn hd he
    have z0:AC.size+3≤9223372036854775807:=by first | omega |(rw [ByteArray.size_append];have:(⟨#[32,62,32]⟩:ByteArray).size=3:=rfl;have:(⟨#[32,126,32]⟩:ByteArray).size=3:=rfl;omega)
    have z1:=ezT z0
    have z2:=dzT z0
    have z3:(9223372036854775807<AC.size+3)=False:=eq_false (Nat.not_lt.2 z0)
    have y0:AC.size+3+tx.size≤9223372036854775807:=by first | omega |(rw [ByteArray.size_append];have:(⟨#[32,62,32]⟩:ByteArray).size=3:=rfl;have:(⟨#[32,126,32]⟩:ByteArray).size=3:=rfl;omega)
    have y1:=ezT y0
    have y2:=dzT y0
    have y3:(9223372036854775807<AC.size+3+tx.size)=False:=eq_false (Nat.not_lt.2 y0)
    have fO2:=(Boxed.jIb iO hbX).frozen
    have cO2:=(Boxed.jIb iO hbX).cell
    gi_wp2
    refine jlb (S:=(fun W':World=>W'.cell? ⟨W.heap.size,2,none⟩=some (.int .i64 (jb l0_0 g).f2)∧W'.cell? ⟨w1.heap.size,0,none⟩=some (.slice (some adl) l.length co)∧W'.cell? (adl.add (ix+1).toNat)=some (.int .i64 (rd l (ix+1))))) hmx (by kernel_rfl) ?hL ?_
    case hL=>rintro ⟨_,_,h⟩;exact h
    change wpAnyH _ _ _ _ _ _ _ _ (World.drew (W.alloc (.cells #[.int .i64 (jb l0_0 g).f0, .int .i64 (jb l0_0 g).f1, .int .i64 (jb l0_0 g).f2, .int .i64 (jb l0_0 g).f3, .bool (jb l0_0 g).f4] 66)))
    have hS9:(fun W':World=>W'.cell? ⟨W.heap.size,2,none⟩=some (.int .i64 (jb l0_0 g).f2)∧W'.cell? ⟨w1.heap.size,0,none⟩=some (.slice (some adl) l.length co)∧W'.cell? (adl.add (ix+1).toNat)=some (.int .i64 (rd l (ix+1)))) (World.drew (W.alloc (.cells #[.int .i64 (jb l0_0 g).f0, .int .i64 (jb l0_0 g).f1, .int .i64 (jb l0_0 g).f2, .int .i64 (jb l0_0 g).f3, .bool (jb l0_0 g).f4] 66))):=⟨(jC (jv (heap_alloc_new W (.cells #[.int .i64 (jb l0_0 g).f0, .int .i64 (jb l0_0 g).f1, .int .i64 (jb l0_0 g).f2, .int .i64 (jb l0_0 g).f3, .bool (jb l0_0 g).f4] 66))) 2).trans rfl,jG hbX cL,jG hbX hz⟩
    refine wpAnyH_take (i:=0) (v:=?_) rfl (by kernel_rfl) (by kernel_rfl) (by kernel_rfl) (fun _ _ _ h=>h) (Or.inl ⟨by rfl,?_⟩) hS9 ?_
    rotate_left
    ·rintro W' ⟨s1,s2,s3⟩
     go_simp
     with_reducible rfl
    refine wpAnyH_take (i:=1) (v:=?_) rfl (by kernel_rfl) (by kernel_rfl) (by kernel_rfl) (fun _ _ _ h=>h) (Or.inl ⟨by rfl,?_⟩) hS9 ?_
    rotate_left
    ·rintro W' ⟨s1,s2,s3⟩
     go_simp
     with_reducible rfl
    refine wpAnyH_take (i:=2) (v:=?_) rfl (by kernel_rfl) (by kernel_rfl) (by kernel_rfl) (fun _ _ _ h=>h) (Or.inl ⟨by rfl,?_⟩) hS9 ?_
    rotate_left
    ·rintro W' ⟨s1,s2,s3⟩
     go_simp
     with_reducible rfl
    refine wpAnyH_take (i:=3) (v:=?_) rfl (by kernel_rfl) (by kernel_rfl) (by kernel_rfl) (fun _ _ _ h=>h) (Or.inl ⟨by rfl,?_⟩) hS9 ?_
    rotate_left
    ·rintro W' ⟨s1,s2,s3⟩
     go_simp
     with_reducible rfl
    refine wpAnyH_take (i:=4) (v:=?_) rfl (by kernel_rfl) (by kernel_rfl) (by kernel_rfl) (fun _ _ _ h=>h) (Or.inl ⟨by rfl,?_⟩) hS9 ?_
    rotate_left
    ·rintro W' ⟨s1,s2,s3⟩
     go_simp
     with_reducible rfl
    refine wpAnyH_take (i:=5) (v:=?_) rfl (by kernel_rfl) (by kernel_rfl) (by kernel_rfl) (fun _ _ _ h=>h) (Or.inl ⟨by rfl,?_⟩) hS9 ?_
    rotate_left
    ·rintro W' ⟨s1,s2,s3⟩
     go_simp
     with_reducible rfl
    refine wpAnyH_take (i:=6) (v:=?_) rfl (by kernel_rfl) (by kernel_rfl) (by kernel_rfl) (fun _ _ _ h=>h) (Or.inl ⟨by rfl,?_⟩) hS9 ?_
    rotate_left
    ·rintro W' ⟨s1,s2,s3⟩
     go_simp
     with_reducible rfl
    refine wpAnyH_take (i:=7) (v:=?_) rfl (by kernel_rfl) (by kernel_rfl) (by kernel_rfl) (fun _ _ _ h=>h) (Or.inl ⟨by rfl,?_⟩) hS9 ?_
    rotate_left
    ·rintro W' ⟨s1,s2,s3⟩
     go_simp
     with_reducible rfl
    refine wpAnyH_done (by kernel_rfl) ?_ _
    rename_i K9 hK9
    refine hK9 _ _ ?_
    clear hK9
    go_simp
    gi_wp2
    refine jlb (S:=(fun W':World=>W'.cell? ⟨w.heap.size+1,0,none⟩=some (.slice A1_0 l1_0.length c1_0)∧W'.cell? ⟨W.heap.size,0,none⟩=some (.int .i64 (jb l0_0 g).f0)∧W'.cell? ⟨W.heap.size,1,none⟩=some (.int .i64 (jb l0_0 g).f1))) hmx (by kernel_rfl) ?hL ?_
    case hL=>rintro ⟨_,_,h⟩;exact h
    change wpAnyH _ _ _ _ _ _ _ _ (World.drew (World.drew ((W.setCell ⟨w.heap.size+1+1,0,none⟩ (.string (AC ++ (⟨#[32,126,32]⟩:ByteArray)))).alloc (.cells #[.int .i64 (jb l0_0 g).f0, .int .i64 (jb l0_0 g).f1, .int .i64 (jb l0_0 g).f2, .int .i64 (jb l0_0 g).f3, .bool (jb l0_0 g).f4] 66))))
    obtain ⟨V,hVe,hVI,hVK,hVX⟩:∃ V:World,World.drew (World.drew ((W.setCell ⟨w.heap.size+1+1,0,none⟩ (.string (AC ++ (⟨#[32,126,32]⟩:ByteArray)))).alloc (.cells #[.int .i64 (jb l0_0 g).f0, .int .i64 (jb l0_0 g).f1, .int .i64 (jb l0_0 g).f2, .int .i64 (jb l0_0 g).f3, .bool (jb l0_0 g).f4] 66)))=V∧IV V (AC ++ (⟨#[32,126,32]⟩:ByteArray))∧KeepsFrom W0.heap.size W V∧V.heap[W.heap.size]?=some (.cells #[.int .i64 (jb l0_0 g).f0, .int .i64 (jb l0_0 g).f1, .int .i64 (jb l0_0 g).f2, .int .i64 (jb l0_0 g).f3, .bool (jb l0_0 g).f4] 66 (0,0)):=⟨_,rfl,IB.out _ _ _ (IS.out _ _ _ hI) (jPa (jPa (jh (Below.refl _ _) _))),((KeepsOthers.setCell _ _ _).from _).trans (KeepsFrom.jdb (jPa (jPa (jh (Below.refl _ _) _))) _),(by have h:=jv (jv (heap_alloc_new (W.setCell ⟨w.heap.size+1+1,0,none⟩ (.string (AC ++ (⟨#[32,126,32]⟩:ByteArray)))) (.cells #[.int .i64 (jb l0_0 g).f0, .int .i64 (jb l0_0 g).f1, .int .i64 (jb l0_0 g).f2, .int .i64 (jb l0_0 g).f3, .bool (jb l0_0 g).f4] 66)));rw [show (W.setCell ⟨w.heap.size+1+1,0,none⟩ (.string (AC ++ (⟨#[32,126,32]⟩:ByteArray)))).heap.size=W.heap.size by simp] at h;exact h)⟩
    rw [hVe]
    clear hVe
    have hVI2:=hVI
    rw [hIV] at hVI2
    obtain ⟨⟨⟨⟨⟨⟨v0,v1⟩,vL⟩,vS⟩,vO⟩,vR⟩,vB⟩:=hVI2
    clear v0 vL vS vR c0 c1 cL cO fO
    have cO:=vO.cell
    have fO:=vO.frozen
    have hS0:(fun W':World=>W'.cell? ⟨w.heap.size+1,0,none⟩=some (.slice A1_0 l1_0.length c1_0)∧W'.cell? ⟨W.heap.size,0,none⟩=some (.int .i64 (jb l0_0 g).f0)∧W'.cell? ⟨W.heap.size,1,none⟩=some (.int .i64 (jb l0_0 g).f1)) V:=⟨v1.cell,(jC hVX 0).trans rfl,(jC hVX 1).trans rfl⟩
    refine wpAnyH_take (i:=1) (v:=?_) rfl (by kernel_rfl) (by kernel_rfl) (by kernel_rfl) (fun _ _ _ h=>h) (Or.inl ⟨by rfl,?_⟩) hS0 ?_
    rotate_left
    ·rintro W' ⟨s1,s2,s3⟩
     go_simp
     with_reducible rfl
    refine wpAnyH_take (i:=2) (v:=?_) rfl (by kernel_rfl) (by kernel_rfl) (by kernel_rfl) (fun _ _ _ h=>h) (Or.inl ⟨by rfl,?_⟩) hS0 ?_
    rotate_left
    ·rintro W' ⟨s1,s2,s3⟩
     go_simp
     with_reducible rfl
    refine wpAnyH_take (i:=3) (v:=?_) rfl (by kernel_rfl) (by kernel_rfl) (by kernel_rfl) (fun _ _ _ h=>h) (Or.inl ⟨by rfl,?_⟩) hS0 ?_
    rotate_left
    ·rintro W' ⟨s1,s2,s3⟩
     go_simp
     with_reducible rfl
    refine wpAnyH_take (i:=4) (v:=?_) rfl (by kernel_rfl) (by kernel_rfl) (by kernel_rfl) (fun _ _ _ h=>h) (Or.inl ⟨by rfl,?_⟩) hS0 ?_
    rotate_left
    ·rintro W' ⟨s1,s2,s3⟩
     go_simp
     with_reducible rfl
    refine wpAnyH_take (i:=5) (v:=?_) rfl (by kernel_rfl) (by kernel_rfl) (by kernel_rfl) (fun _ _ _ h=>h) (Or.inl ⟨by rfl,?_⟩) hS0 ?_
    rotate_left
    ·rintro W' ⟨s1,s2,s3⟩
     go_simp
     with_reducible rfl
    refine wpAnyH_all (rs:=[0,6]) (by kernel_rfl) (by simp) ?_
    intro ii hii
    rcases (by simpa using hii:ii=0∨ii=6) with rfl | rfl
    all_goals clear hii
    ·refine wpOp_step rfl (fun K hK=>?_)
     go_simp
     refine hK _ _ ⟨hS0,?_⟩
     clear hK K
     refine wpAnyH_all (rs:=[6]) (by kernel_rfl) (by simp) ?_
     intro ii hii
     obtain rfl:ii=6:=by simpa using hii
     clear hii
     refine wpOp_step rfl (fun K hK=>?_)
     go_simp
     refine (KT.out _ vB).mono ?_
     rintro e w4 ⟨rfl,hb4⟩
     have hS1:(fun W':World=>W'.cell? ⟨w.heap.size+1,0,none⟩=some (.slice A1_0 l1_0.length c1_0)∧W'.cell? ⟨W.heap.size,0,none⟩=some (.int .i64 (jb l0_0 g).f0)∧W'.cell? ⟨W.heap.size,1,none⟩=some (.int .i64 (jb l0_0 g).f1)) w4:=⟨jG hb4 hS0.1,jG hb4 hS0.2.1,jG hb4 hS0.2.2⟩
     have hO4:=Boxed.jIb vO hb4
     have cO4:=hO4.cell
     have fO4:=hO4.frozen
     refine hK _ _ ⟨hS1,?_⟩
     clear hK K
     refine wpAnyH_take (i:=7) (v:=?_) rfl (by kernel_rfl) (by kernel_rfl) (by kernel_rfl) (fun _ _ _ h=>h) (Or.inl ⟨by rfl,?_⟩) hS1 ?_
     rotate_left
     ·rintro W' ⟨s1,s2,s3⟩
      go_simp
      with_reducible rfl
     refine wpAnyH_all (rs:=[8]) (by kernel_rfl) (by simp) ?_
     intro ii hii
     obtain rfl:ii=8:=by simpa using hii
     clear hii
     refine wpOp_step rfl (fun K hK=>?_)
     go_simp
     have hS2:(fun W':World=>W'.cell? ⟨w.heap.size+1,0,none⟩=some (.slice A1_0 l1_0.length c1_0)∧W'.cell? ⟨W.heap.size,0,none⟩=some (.int .i64 (jb l0_0 g).f0)∧W'.cell? ⟨W.heap.size,1,none⟩=some (.int .i64 (jb l0_0 g).f1)) (w4.setCell ⟨w.heap.size+1+1,0,none⟩ (.string ((AC ++ (⟨#[32,126,32]⟩:ByteArray)) ++ tx))):=⟨(World.cell?_setCell_far _ _ _ _ (by simp)).trans hS1.1,(World.cell?_setCell_far _ _ _ _ (by simp;omega)).trans hS1.2.1,(World.cell?_setCell_far _ _ _ _ (by simp;omega)).trans hS1.2.2⟩
     refine hK _ _ ⟨hS2,?_⟩
     clear hK K
     refine wpAnyH_done (by kernel_rfl) ?_ _
     exact ⟨hVK.trans ((KeepsFrom.jdb hb4 _).trans ((KeepsOthers.setCell _ _ _).from _)),fun _=>IR.out _ _ (IS.out _ _ _ (IB.out _ _ _ hVI hb4)),by show IV _ (ChEl.acc (pre ++ [⟨(ix,g),hx⟩]));rw [hF];exact IS.out _ _ _ (IB.out _ _ _ hVI hb4)⟩
    ·refine wpOp_step rfl (fun K hK=>?_)
     go_simp
     refine (KT.out _ vB).mono ?_
     rintro e w4 ⟨rfl,hb4⟩
     have hS1:(fun W':World=>W'.cell? ⟨w.heap.size+1,0,none⟩=some (.slice A1_0 l1_0.length c1_0)∧W'.cell? ⟨W.heap.size,0,none⟩=some (.int .i64 (jb l0_0 g).f0)∧W'.cell? ⟨W.heap.size,1,none⟩=some (.int .i64 (jb l0_0 g).f1)) w4:=⟨jG hb4 hS0.1,jG hb4 hS0.2.1,jG hb4 hS0.2.2⟩
     have hO4:=Boxed.jIb vO hb4
     have cO4:=hO4.cell
     have fO4:=hO4.frozen
     refine hK _ _ ⟨hS1,?_⟩
     clear hK K
     refine wpAnyH_all (rs:=[0]) (by kernel_rfl) (by simp) ?_
     intro ii hii
     obtain rfl:ii=0:=by simpa using hii
     clear hii
     refine wpOp_step rfl (fun K hK=>?_)
     go_simp
     refine hK _ _ ⟨hS1,?_⟩
     clear hK K
     refine wpAnyH_take (i:=7) (v:=?_) rfl (by kernel_rfl) (by kernel_rfl) (by kernel_rfl) (fun _ _ _ h=>h) (Or.inl ⟨by rfl,?_⟩) hS1 ?_
     rotate_left
     ·rintro W' ⟨s1,s2,s3⟩
      go_simp
      with_reducible rfl
     refine wpAnyH_all (rs:=[8]) (by kernel_rfl) (by simp) ?_
     intro ii hii
     obtain rfl:ii=8:=by simpa using hii
     clear hii
     refine wpOp_step rfl (fun K hK=>?_)
     go_simp
     have hS2:(fun W':World=>W'.cell? ⟨w.heap.size+1,0,none⟩=some (.slice A1_0 l1_0.length c1_0)∧W'.cell? ⟨W.heap.size,0,none⟩=some (.int .i64 (jb l0_0 g).f0)∧W'.cell? ⟨W.heap.size,1,none⟩=some (.int .i64 (jb l0_0 g).f1)) (w4.setCell ⟨w.heap.size+1+1,0,none⟩ (.string ((AC ++ (⟨#[32,126,32]⟩:ByteArray)) ++ tx))):=⟨(World.cell?_setCell_far _ _ _ _ (by simp)).trans hS1.1,(World.cell?_setCell_far _ _ _ _ (by simp;omega)).trans hS1.2.1,(World.cell?_setCell_far _ _ _ _ (by simp;omega)).trans hS1.2.2⟩
     refine hK _ _ ⟨hS2,?_⟩
     clear hK K
     refine wpAnyH_done (by kernel_rfl) ?_ _
     exact ⟨hVK.trans ((KeepsFrom.jdb hb4 _).trans ((KeepsOthers.setCell _ _ _).from _)),fun _=>IR.out _ _ (IS.out _ _ _ (IB.out _ _ _ hVI hb4)),by show IV _ (ChEl.acc (pre ++ [⟨(ix,g),hx⟩]));rw [hF];exact IS.out _ _ _ (IB.out _ _ _ hVI hb4)⟩
 case done =>
  rintro D ys W hD rfl hI hK
  have hI1:=hI
  rw [hIV] at hI1
  obtain ⟨⟨⟨⟨⟨⟨i0,i1⟩,iL⟩,iS⟩,iO⟩,iR⟩,hB⟩:=hI1
  have hr2:ChEl.acc (uptoC (ChEl.of l1_0 l0_0 l hz0) l.length)=r:=by
   have h2:=ChEl.acc_all hz0 l.length r (Nat.le_refl _) h
   rw [← h2]
   unfold ChEl.acc uptoC
   rw [List.map_map]
   congr 1
   apply List.map_congr_left
   intro j _
   show (ChEl.of l1_0 l0_0 l hz0 j).txt=_
   rw [show l.length - l.length+j=j by omega]
  rw [hr2] at iO
  have cO:=iO.cell
  gi_wp2
  refine ⟨by simp, .inl ⟨_,_,rfl,run_takeDeferred hK,?_⟩⟩
  refine ⟨.string r,?_,rfl,hB.trans (belowK_b (w:=w) (Nat.le_refl _) W D _ _ (by omega) hK rfl rfl)⟩
  simp [results,Tryd.f33,go_sem]
 case stop =>
  rintro D c pre W hD ⟨q,hq,rfl⟩ h hK
  exact h.elim
end
def jla.f (k : Nat) (l0_0 : List (S99)) (l1_0 : List (S66)) (a2 : Int) : Option (ByteArray) := (jHa.f k l0_0 l1_0 (([a2] : List Int))).bind fun t415 => (if t415 = true then ((jka.f k l1_0 l0_0 a2).bind fun t416 => (some t416)) else (some (⟨#[]⟩ : ByteArray)))
set_option maxHeartbeats 8000000 in
set_option maxRecDepth 100000 in
theorem jla.calls (k : Nat) (A0_0 : Option Addr) (c0_0 : Nat) (l0_0 : List (S99)) (A1_0 : Option Addr) (c1_0 : Nat) (l1_0 : List (S66)) (a2 : Int) (r : ByteArray) (w : World) (hr0_0 : Kd.C k99 w A0_0 l0_0.length l0_0) (hc0_0 : l0_0.length ≤ c0_0) (hr1_0 : Kd.C k66 w A1_0 l1_0.length l1_0) (hc1_0 : l1_0.length ≤ c1_0) (h : jla.f k l0_0 l1_0 a2 = some r) :
  Calls Tryd.prog 11 #[.agg #[.slice A0_0 l0_0.length c0_0], .agg #[.slice A1_0 l1_0.length c1_0], .int .i64 a2] w fun e w'=>e=.returned (.string r)∧Below w.heap.size w w':=by
 have hu25:=Tryd.underlying25
 have hu28:=Tryd.underlying28
 have HR0_0:=am hr0_0
 have HC0_0:=am hc0_0
 clear hr0_0 hc0_0
 have HR1_0:=am hr1_0
 have HC1_0:=am hc1_0
 clear hr1_0 hc1_0
 have HB:=am (Below.refl w.heap.size w)
 have H:((jHa.f k l0_0 l1_0 (([a2]:List Int))).bind fun t415=>(if t415=true then ((jka.f k l1_0 l0_0 a2).bind fun t416=>(some t416)) else (some (⟨#[]⟩:ByteArray))))=some r:=h
 clear h
 obtain ⟨y412,hy412⟩:∃ y_:List Int,y_=(([a2]:List Int)):=⟨_,rfl⟩
 replace H:((jHa.f k l0_0 l1_0 y412).bind fun t415=>(if t415=true then ((jka.f k l1_0 l0_0 a2).bind fun t416=>(some t416)) else (some (⟨#[]⟩:ByteArray))))=some r:=by first |(rw [hy412];with_reducible exact H) |(have H2_:=(Option.bind_some _ _).symm.trans H;rw [hy412];with_reducible exact H2_) |(have H2_:=(Option.bind_some _ _).symm.trans H;with_reducible exact H2_) | with_reducible exact H |(rw [hy412];exact H) | exact H
 have Ny412:=am hy412
 clear hy412
 replace H:=bzS H
 obtain ⟨t415,A40,H⟩:=H
 replace H:(if t415=true then ((jka.f k l1_0 l0_0 a2).bind fun t416=>(some t416)) else (some (⟨#[]⟩:ByteArray)))=some r:=H
 have A4:=am A40
 clear A40
 by_cases c5:t415=true
 ·subst c5
  have H1:((jka.f k l1_0 l0_0 a2).bind fun t416=>(some t416))=some r:=by rw [if_pos rfl] at H;exact H
  clear H
  have H:=H1
  clear H1
  replace H:=bzS H
  obtain ⟨t416,A60,H⟩:=H
  replace H:(some t416)=some r:=H
  have A6:=am A60
  clear A60
  obtain rfl:=Option.some.inj H
  go_enter Tryd.func11,Tryd.ntmps11
  go_wp2_with (first |((with_reducible refine jr (N:=3) rfl ?_);refine bE (N:=3) (cs:=#[.slice A0_0 l0_0.length c0_0]) (t:=25) ?_;intro gb410 hg w7 hbox hb;have BK410:=am (hbox);have GW410:=am ((Y0:w.heap.size≤gb410));have GE410:=am ((Y0:w.heap.size≤gb410));replace HB:=am (jd (bq) hb);clear hb hbox hg) |((with_reducible refine jr (N:=4) rfl ?_);refine bE (N:=4) (cs:=#[.slice A1_0 l1_0.length c1_0]) (t:=28) ?_;intro gb411 hg w8 hbox hb;have BK411:=am (hbox);have GW411:=am ((Y44:w.heap.size≤gb411));have GE411:=am ((Y44:w.heap.size≤gb411));have NB410_411:=am ((by rw [hg];exact Nat.ne_of_lt (jT (g:=gb410) (o:=.cells #[.slice A0_0 l0_0.length c0_0] 25 (0,0)) (kq BK410.out)):gb410≠gb411));have NB411_410:=am ((by rw [hg];exact Nat.ne_of_gt (jT (g:=gb410) (o:=.cells #[.slice A0_0 l0_0.length c0_0] 25 (0,0)) (kq BK410.out)):gb411≠gb410));replace BK410:=am (jc (g:=gb410) (o:=.cells #[.slice A0_0 l0_0.length c0_0] 25 (0,0)) (kq BK410.out) hb);replace HB:=am (jd (Y80) hb);clear hb hbox hg;have hnb9:=NB410_411.out;have hnc9:=NB411_410.out;have hcz10_0:=bc0 BK410.out;have hfz10_0:=ja BK410.out 0;have hcz11_0:=bc0 BK411.out;have hfz11_0:=ja BK411.out 0) |((with_reducible refine jr (N:=10) rfl ?_);refine Kd.R_lit (Kd.int .i64) _ 3 ?hg (N:=10) ?hd (xs:=([a2]:List Int)) (inner:=[.int .i64 a2]) (ok:=fun _=>True) (okp:=fun _=>True) ?hr ?hp (fun _ hk=>hk) trivial (Below.refl _ _) (Nat.le_refl _) (by simp) ?_;(case hd=>rfl);(case hg=>rfl);(case hr=>exact Y6);(case hp=>exact (Reps.one (show Kd.M (Kd.int .i64) _ _ _ a2 [.int .i64 a2] from rfl) (Reps.none _ _)));intro v413 w12 ho13 hb hg_ hnew_;clear hg_ hnew_;(first | rw [← Ny412.out] at ho13 |(simp only [Int.reduceToNat] at ho13;rw [← Ny412.out] at ho13));have HO414:=am (Kd.jGa ho13 (jE (Y10)));replace BK410:=am (jc (g:=gb410) (o:=.cells #[.slice A0_0 l0_0.length c0_0] 25 (0,0)) (kq BK410.out) hb);replace BK411:=am (jc (g:=gb411) (o:=.cells #[.slice A1_0 l1_0.length c1_0] 28 (0,0)) (kq BK411.out) hb);replace HB:=am (jd (Y10) hb);clear hb ho13;obtain ⟨Ao14,co14,eo14⟩:=Kd.jEa HO414.out;subst eo14) |((with_reducible refine jB (f:=28) rfl ?_);refine gL (some 11) Tryd.func28 #[.agg #[.slice A0_0 l0_0.length c0_0], .agg #[.slice A1_0 l1_0.length c1_0], .slice Ao14 y412.length co14] ?_;(with_reducible refine (jHa.calls k _ _ l0_0 _ _ l1_0 _ _ y412 true _ ?side1 ?side2 ?side3 ?side4 ?side5 ?side6 A4.out).mono ?_);(case side1=>exact cq (Kd.jD HR0_0.out HB.out));(case side2=>exact HC0_0.out);(case side3=>exact cq (Kd.jD HR1_0.out HB.out));(case side4=>exact HC1_0.out);(case side5=>exact cq (Kd.jN HO414.out).2.2);(case side6=>exact (Kd.jN HO414.out).2.1);rintro e w15 ⟨rfl,hb⟩;refine ⟨_,rfl,?_⟩;replace HO414:=am (Kd.jfa (rq HO414.out) hb);replace BK410:=am (jc (g:=gb410) (o:=.cells #[.slice A0_0 l0_0.length c0_0] 25 (0,0)) (kq BK410.out) hb);replace BK411:=am (jc (g:=gb411) (o:=.cells #[.slice A1_0 l1_0.length c1_0] 28 (0,0)) (kq BK411.out) hb);replace HB:=am (jd (Y10) hb);(try clear hb);(try clear hb2);(try clear hk);(try clear hi);have hcz16_0:=bc0 BK411.out;have hfz16_0:=ja BK411.out 0;have hcz17_0:=bc0 BK410.out;have hfz17_0:=ja BK410.out 0) |((with_reducible refine jB (f:=33) rfl ?_);refine gL (some 16) Tryd.func33 #[.agg #[.slice A1_0 l1_0.length c1_0], .agg #[.slice A0_0 l0_0.length c0_0], .int .i64 a2] ?_;(with_reducible refine (jka.calls k _ _ l1_0 _ _ l0_0 a2 t416 _ ?side1 ?side2 ?side3 ?side4 A6.out).mono ?_);(case side1=>exact cq (Kd.jD HR1_0.out HB.out));(case side2=>exact HC1_0.out);(case side3=>exact cq (Kd.jD HR0_0.out HB.out));(case side4=>exact HC0_0.out);rintro e w18 ⟨rfl,hb⟩;refine ⟨_,rfl,?_⟩;replace HO414:=am (Kd.jfa (rq HO414.out) hb);replace BK410:=am (jc (g:=gb410) (o:=.cells #[.slice A0_0 l0_0.length c0_0] 25 (0,0)) (kq BK410.out) hb);replace BK411:=am (jc (g:=gb411) (o:=.cells #[.slice A1_0 l1_0.length c1_0] 28 (0,0)) (kq BK411.out) hb);replace HB:=am (jd (Y10) hb);(try clear hb);(try clear hb2);(try clear hk);(try clear hi)))
  go_ret
  exact ⟨Y1,Y10⟩
 ·replace c5:=Bool.eq_false_iff.mpr c5
  subst c5
  have H1:(some (⟨#[]⟩:ByteArray))=some r:=by rw [if_neg (show ¬ (false=true) by decide)] at H;exact H
  clear H
  have H:=H1
  clear H1
  obtain rfl:=Option.some.inj H
  go_enter Tryd.func11,Tryd.ntmps11
  go_wp2_with (first |((with_reducible refine jr (N:=3) rfl ?_);refine bE (N:=3) (cs:=#[.slice A0_0 l0_0.length c0_0]) (t:=25) ?_;intro gb410 hg w19 hbox hb;have BK410:=am (hbox);have GW410:=am ((Y0:w.heap.size≤gb410));have GE410:=am ((Y0:w.heap.size≤gb410));replace HB:=am (jd (bq) hb);clear hb hbox hg) |((with_reducible refine jr (N:=4) rfl ?_);refine bE (N:=4) (cs:=#[.slice A1_0 l1_0.length c1_0]) (t:=28) ?_;intro gb411 hg w20 hbox hb;have BK411:=am (hbox);have GW411:=am ((Y44:w.heap.size≤gb411));have GE411:=am ((Y44:w.heap.size≤gb411));have NB410_411:=am ((by rw [hg];exact Nat.ne_of_lt (jT (g:=gb410) (o:=.cells #[.slice A0_0 l0_0.length c0_0] 25 (0,0)) (kq BK410.out)):gb410≠gb411));have NB411_410:=am ((by rw [hg];exact Nat.ne_of_gt (jT (g:=gb410) (o:=.cells #[.slice A0_0 l0_0.length c0_0] 25 (0,0)) (kq BK410.out)):gb411≠gb410));replace BK410:=am (jc (g:=gb410) (o:=.cells #[.slice A0_0 l0_0.length c0_0] 25 (0,0)) (kq BK410.out) hb);replace HB:=am (jd (Y80) hb);clear hb hbox hg;have hnb21:=NB410_411.out;have hnc21:=NB411_410.out;have hcz22_0:=bc0 BK410.out;have hfz22_0:=ja BK410.out 0;have hcz23_0:=bc0 BK411.out;have hfz23_0:=ja BK411.out 0) |((with_reducible refine jr (N:=10) rfl ?_);refine Kd.R_lit (Kd.int .i64) _ 3 ?hg (N:=10) ?hd (xs:=([a2]:List Int)) (inner:=[.int .i64 a2]) (ok:=fun _=>True) (okp:=fun _=>True) ?hr ?hp (fun _ hk=>hk) trivial (Below.refl _ _) (Nat.le_refl _) (by simp) ?_;(case hd=>rfl);(case hg=>rfl);(case hr=>exact Y6);(case hp=>exact (Reps.one (show Kd.M (Kd.int .i64) _ _ _ a2 [.int .i64 a2] from rfl) (Reps.none _ _)));intro v413 w24 ho25 hb hg_ hnew_;clear hg_ hnew_;(first | rw [← Ny412.out] at ho25 |(simp only [Int.reduceToNat] at ho25;rw [← Ny412.out] at ho25));have HO414:=am (Kd.jGa ho25 (jE (Y10)));replace BK410:=am (jc (g:=gb410) (o:=.cells #[.slice A0_0 l0_0.length c0_0] 25 (0,0)) (kq BK410.out) hb);replace BK411:=am (jc (g:=gb411) (o:=.cells #[.slice A1_0 l1_0.length c1_0] 28 (0,0)) (kq BK411.out) hb);replace HB:=am (jd (Y10) hb);clear hb ho25;obtain ⟨Ao26,co26,eo26⟩:=Kd.jEa HO414.out;subst eo26) |((with_reducible refine jB (f:=28) rfl ?_);refine gL (some 11) Tryd.func28 #[.agg #[.slice A0_0 l0_0.length c0_0], .agg #[.slice A1_0 l1_0.length c1_0], .slice Ao26 y412.length co26] ?_;(with_reducible refine (jHa.calls k _ _ l0_0 _ _ l1_0 _ _ y412 false _ ?side1 ?side2 ?side3 ?side4 ?side5 ?side6 A4.out).mono ?_);(case side1=>exact cq (Kd.jD HR0_0.out HB.out));(case side2=>exact HC0_0.out);(case side3=>exact cq (Kd.jD HR1_0.out HB.out));(case side4=>exact HC1_0.out);(case side5=>exact cq (Kd.jN HO414.out).2.2);(case side6=>exact (Kd.jN HO414.out).2.1);rintro e w27 ⟨rfl,hb⟩;refine ⟨_,rfl,?_⟩;replace HO414:=am (Kd.jfa (rq HO414.out) hb);replace BK410:=am (jc (g:=gb410) (o:=.cells #[.slice A0_0 l0_0.length c0_0] 25 (0,0)) (kq BK410.out) hb);replace BK411:=am (jc (g:=gb411) (o:=.cells #[.slice A1_0 l1_0.length c1_0] 28 (0,0)) (kq BK411.out) hb);replace HB:=am (jd (Y10) hb);(try clear hb);(try clear hb2);(try clear hk);(try clear hi)))
  go_ret
  exact ⟨Y1,Y10⟩
def jF.f (a0 : Int) (a1 : Int) (a2 : Int) : Option (Bool) := if a1 ≤ a0 then (some (decide (a0 ≤ a2))) else (some false)
set_option maxHeartbeats 8000000 in
set_option maxRecDepth 100000 in
theorem jF.calls (a0 : Int) (a1 : Int) (a2 : Int) (r : Bool) (w : World) (h : jF.f a0 a1 a2 = some r) :
  Calls Tryd.prog 79 #[.int .i64 a0, .int .i64 a1, .int .i64 a2] w fun e w'=>e=.returned (.bool r)∧jMa w w':=by
 have H:(if a1≤a0 then (some (decide (a0≤a2))) else (some false))=some r:=h
 clear h
 by_cases c4:a1≤a0
 ·rw [if_pos c4] at H
  have c4b0:decide (a1≤a0)=true:=dzT c4
  clear c4
  obtain rfl:=Option.some.inj H
  go_enter Tryd.func79,Tryd.ntmps79
  go_wp2
  go_ret
  exact ⟨sq,Y2⟩
 ·rw [if_neg c4] at H
  have c4b0:decide (a1≤a0)=false:=dzF c4
  clear c4
  obtain rfl:=Option.some.inj H
  go_enter Tryd.func79,Tryd.ntmps79
  go_wp2
  go_ret
  exact ⟨sq,Y2⟩
def jsa.f (l0_0 : List (S99)) (a1 : Int) : Option (Bool) := (jF.f a1 0 (wrap64 ((l0_0.length : Int) - 1))).bind fun t333 => (some t333)
set_option maxHeartbeats 8000000 in
set_option maxRecDepth 100000 in
theorem jsa.calls (A0_0 : Option Addr) (c0_0 : Nat) (l0_0 : List (S99)) (a1 : Int) (r : Bool) (w : World) (hr0_0 : Kd.C k99 w A0_0 l0_0.length l0_0) (hc0_0 : l0_0.length ≤ c0_0) (h : jsa.f l0_0 a1 = some r) :
  Calls Tryd.prog 78 #[.agg #[.slice A0_0 l0_0.length c0_0], .int .i64 a1] w fun e w'=>e=.returned (.bool r)∧Below w.heap.size w w':=by
 have hu25:=Tryd.underlying25
 have HR0_0:=am hr0_0
 have HC0_0:=am hc0_0
 clear hr0_0 hc0_0
 have HB:=am (Below.refl w.heap.size w)
 have H:((jF.f a1 0 (wrap64 ((l0_0.length:Int) - 1))).bind fun t333=>(some t333))=some r:=h
 clear h
 replace H:=bzS H
 obtain ⟨t333,A30,H⟩:=H
 replace H:(some t333)=some r:=H
 have A3:=am A30
 clear A30
 obtain rfl:=Option.some.inj H
 go_enter Tryd.func78,Tryd.ntmps78
 go_wp2_with (first |((with_reducible refine jr (N:=2) rfl ?_);refine bE (N:=2) (cs:=#[.slice A0_0 l0_0.length c0_0]) (t:=25) ?_;intro gb332 hg w4 hbox hb;have BK332:=am (hbox);have GW332:=am ((Y0:w.heap.size≤gb332));have GE332:=am ((Y0:w.heap.size≤gb332));replace HB:=am (jd (bq) hb);clear hb hbox hg;have hcz5_0:=bc0 BK332.out;have hfz5_0:=ja BK332.out 0) |((with_reducible refine jB (f:=79) rfl ?_);refine gL (some 10) Tryd.func79 #[.int .i64 a1, .int .i64 0, .int .i64 (wrap64 ((l0_0.length:Int) - 1))] ?_;(with_reducible refine (jF.calls a1 0 (wrap64 ((l0_0.length:Int) - 1)) t333 _ A3.out).mono ?_);rintro e w' ⟨rfl,⟨nd,rfl⟩⟩;refine ⟨_,rfl,?_⟩))
 go_ret
 exact ⟨Y1,by repeat (first |(with_reducible first | exact HB.out | apply jh | apply je | apply jk | refine jf ?_ GE332.out) | exact HB.out)⟩
def jqa.f (l0_0 : List (S66)) (a1 : Int) : Option (Bool) := if 0 ≤ a1 then (if a1 < (l0_0.length : Int) then ((jF.f ((jb l0_0 a1).f2) (-1) (wrap64 ((l0_0.length : Int) - 1))).bind fun t337 => (if t337 = true then ((jF.f ((jb l0_0 a1).f3) (-1) (wrap64 ((l0_0.length : Int) - 1))).bind fun t338 => (if t338 = true then (if ((jb l0_0 a1).f2) = a1 then (some false) else (some (((jb l0_0 a1).f3) != a1))) else (some false))) else (some false))) else (none)) else (none)
set_option maxHeartbeats 8000000 in
set_option maxRecDepth 100000 in
theorem jqa.calls (A0_0 : Option Addr) (c0_0 : Nat) (l0_0 : List (S66)) (a1 : Int) (r : Bool) (w : World) (hr0_0 : Kd.C k66 w A0_0 l0_0.length l0_0) (hc0_0 : l0_0.length ≤ c0_0) (h : jqa.f l0_0 a1 = some r) :
  Calls Tryd.prog 80 #[.agg #[.slice A0_0 l0_0.length c0_0], .int .i64 a1] w fun e w'=>e=.returned (.bool r)∧Below w.heap.size w w':=by
 have hu28:=Tryd.underlying28
 have hu66:=Tryd.underlying66
 have HR0_0:=am hr0_0
 have HC0_0:=am hc0_0
 clear hr0_0 hc0_0
 have HB:=am (Below.refl w.heap.size w)
 have H:(if 0≤a1 then (if a1<(l0_0.length:Int) then ((jF.f ((jb l0_0 a1).f2) (-1) (wrap64 ((l0_0.length:Int) - 1))).bind fun t337=>(if t337=true then ((jF.f ((jb l0_0 a1).f3) (-1) (wrap64 ((l0_0.length:Int) - 1))).bind fun t338=>(if t338=true then (if ((jb l0_0 a1).f2)=a1 then (some false) else (some (((jb l0_0 a1).f3) != a1))) else (some false))) else (some false))) else (none)) else (none))=some r:=h
 clear h
 by_cases c3:0≤a1
 ·rw [if_pos c3] at H
  have c3b0:decide (0≤a1)=true:=dzT c3
  clear c3
  by_cases c4:a1<(l0_0.length:Int)
  ·rw [if_pos c4] at H
   have c4b0:decide (a1<(l0_0.length:Int))=true:=dzT c4
   clear c4
   replace H:=bzS H
   obtain ⟨t337,A50,H⟩:=H
   replace H:(if t337=true then ((jF.f ((jb l0_0 a1).f3) (-1) (wrap64 ((l0_0.length:Int) - 1))).bind fun t338=>(if t338=true then (if ((jb l0_0 a1).f2)=a1 then (some false) else (some (((jb l0_0 a1).f3) != a1))) else (some false))) else (some false))=some r:=H
   have A5:=am A50
   clear A50
   by_cases c6:t337=true
   ·subst c6
    have H1:((jF.f ((jb l0_0 a1).f3) (-1) (wrap64 ((l0_0.length:Int) - 1))).bind fun t338=>(if t338=true then (if ((jb l0_0 a1).f2)=a1 then (some false) else (some (((jb l0_0 a1).f3) != a1))) else (some false)))=some r:=by rw [if_pos rfl] at H;exact H
    clear H
    have H:=H1
    clear H1
    replace H:=bzS H
    obtain ⟨t338,A70,H⟩:=H
    replace H:(if t338=true then (if ((jb l0_0 a1).f2)=a1 then (some false) else (some (((jb l0_0 a1).f3) != a1))) else (some false))=some r:=H
    have A7:=am A70
    clear A70
    by_cases c8:t338=true
    ·subst c8
     have H1:(if ((jb l0_0 a1).f2)=a1 then (some false) else (some (((jb l0_0 a1).f3) != a1)))=some r:=by rw [if_pos rfl] at H;exact H
     clear H
     have H:=H1
     clear H1
     by_cases c9:((jb l0_0 a1).f2)=a1
     ·rw [if_pos c9] at H
      have c9b0:(((jb l0_0 a1).f2) == a1)=true:=beq_iff_eq.mpr c9
      have c9b1:(((jb l0_0 a1).f2) != a1)=false:=bne_eq_false_iff_eq.mpr c9
      clear c9
      obtain rfl:=Option.some.inj H
      go_enter Tryd.func80,Tryd.ntmps80
      go_wp2_with (first |((with_reducible refine jr (N:=2) rfl ?_);refine bE (N:=2) (cs:=#[.slice A0_0 l0_0.length c0_0]) (t:=28) ?_;intro gb334 hg w10 hbox hb;have BK334:=am (hbox);have GW334:=am ((Y0:w.heap.size≤gb334));have GE334:=am ((Y0:w.heap.size≤gb334));replace HB:=am (jd (bq) hb);clear hb hbox hg;have hcz11_0:=bc0 BK334.out;have hfz11_0:=ja BK334.out 0;have p335:0≤(a1:Int):=ozD (uq);have q335:a1<(l0_0.length:Int):=ozD (uq);obtain ⟨ad335,e335,hx335_0,hx335_1,hx335_2,hx335_3,hx335_4⟩:=jLa HR0_0.out a1 p335 q335;cases e335;replace hx335_0:=cb HB.out hx335_0;replace hx335_1:=cb HB.out hx335_1;replace hx335_2:=cb HB.out hx335_2;replace hx335_3:=cb HB.out hx335_3;replace hx335_4:=cb HB.out hx335_4;replace p335:=ezT p335;replace q335:=ezT q335) |((with_reducible refine jr (N:=6) rfl ?_);refine bE (N:=6) (cs:=#[.int .i64 0, .int .i64 0, .int .i64 0, .int .i64 0, .bool false]) (t:=66) ?_;intro gb336 hg w12 hbox hb;have BK336:=am (hbox);have GW336:=am ((Y15:w.heap.size≤gb336));have GE336:=am ((Y15:w.heap.size≤gb336));have NB334_336:=am ((Y45:gb334≠gb336));have NB336_334:=am ((Y46:gb336≠gb334));replace BK334:=am (jc (g:=gb334) (o:=.cells #[.slice (some ad335) l0_0.length c0_0] 28 (0,0)) (kq BK334.out) hb);replace HB:=am (jd (Y47) hb);clear hb hbox hg;have hnb13:=NB336_334.out;have hnc13:=NB334_336.out;have hcz14_0:=bc0 BK336.out;have hcz14_1:=bc1 BK336.out;have hcz14_2:=bc2 BK336.out;have hcz14_3:=bc3 BK336.out;have hcz14_4:w12.cell? ⟨gb336,4,none⟩=some (.bool false):=(jC BK336.out 4).trans rfl;have hfz14_0:=ja BK336.out 0;have hfz14_1:=ja BK336.out 1;have hfz14_2:=ja BK336.out 2;have hfz14_3:=ja BK336.out 3;have hfz14_4:=ja BK336.out 4) |((with_reducible refine jB (f:=79) rfl ?_);refine gL (some 19) Tryd.func79 #[.int .i64 ((jb l0_0 a1).f2), .int .i64 (-1), .int .i64 (wrap64 ((l0_0.length:Int) - 1))] ?_;(with_reducible refine (jF.calls ((jb l0_0 a1).f2) (-1) (wrap64 ((l0_0.length:Int) - 1)) true _ A5.out).mono ?_);rintro e w' ⟨rfl,⟨nd,rfl⟩⟩;refine ⟨_,rfl,?_⟩) |(go_at_call 79;(with_reducible refine (jF.calls ((jb l0_0 a1).f3) (-1) (wrap64 ((l0_0.length:Int) - 1)) true _ A7.out).mono ?_);rintro e w' ⟨rfl,⟨nd,rfl⟩⟩))
      go_ret
      exact ⟨Y1,Y48⟩
     ·rw [if_neg c9] at H
      have c9b0:(((jb l0_0 a1).f2) == a1)=false:=beq_eq_false_iff_ne.mpr c9
      have c9b1:(((jb l0_0 a1).f2) != a1)=true:=bne_iff_ne.mpr c9
      obtain rfl:=Option.some.inj H
      go_enter Tryd.func80,Tryd.ntmps80
      go_wp2_with (first |((with_reducible refine jr (N:=2) rfl ?_);refine bE (N:=2) (cs:=#[.slice A0_0 l0_0.length c0_0]) (t:=28) ?_;intro gb334 hg w15 hbox hb;have BK334:=am (hbox);have GW334:=am ((Y0:w.heap.size≤gb334));have GE334:=am ((Y0:w.heap.size≤gb334));replace HB:=am (jd (bq) hb);clear hb hbox hg;have hcz16_0:=bc0 BK334.out;have hfz16_0:=ja BK334.out 0;have p335:0≤(a1:Int):=ozD (uq);have q335:a1<(l0_0.length:Int):=ozD (uq);obtain ⟨ad335,e335,hx335_0,hx335_1,hx335_2,hx335_3,hx335_4⟩:=jLa HR0_0.out a1 p335 q335;cases e335;replace hx335_0:=cb HB.out hx335_0;replace hx335_1:=cb HB.out hx335_1;replace hx335_2:=cb HB.out hx335_2;replace hx335_3:=cb HB.out hx335_3;replace hx335_4:=cb HB.out hx335_4;replace p335:=ezT p335;replace q335:=ezT q335) |((with_reducible refine jr (N:=6) rfl ?_);refine bE (N:=6) (cs:=#[.int .i64 0, .int .i64 0, .int .i64 0, .int .i64 0, .bool false]) (t:=66) ?_;intro gb336 hg w17 hbox hb;have BK336:=am (hbox);have GW336:=am ((Y15:w.heap.size≤gb336));have GE336:=am ((Y15:w.heap.size≤gb336));have NB334_336:=am ((Y45:gb334≠gb336));have NB336_334:=am ((Y46:gb336≠gb334));replace BK334:=am (jc (g:=gb334) (o:=.cells #[.slice (some ad335) l0_0.length c0_0] 28 (0,0)) (kq BK334.out) hb);replace HB:=am (jd (Y47) hb);clear hb hbox hg;have hnb18:=NB336_334.out;have hnc18:=NB334_336.out;have hcz19_0:=bc0 BK336.out;have hcz19_1:=bc1 BK336.out;have hcz19_2:=bc2 BK336.out;have hcz19_3:=bc3 BK336.out;have hcz19_4:w17.cell? ⟨gb336,4,none⟩=some (.bool false):=(jC BK336.out 4).trans rfl;have hfz19_0:=ja BK336.out 0;have hfz19_1:=ja BK336.out 1;have hfz19_2:=ja BK336.out 2;have hfz19_3:=ja BK336.out 3;have hfz19_4:=ja BK336.out 4) |((with_reducible refine jB (f:=79) rfl ?_);refine gL (some 19) Tryd.func79 #[.int .i64 ((jb l0_0 a1).f2), .int .i64 (-1), .int .i64 (wrap64 ((l0_0.length:Int) - 1))] ?_;(with_reducible refine (jF.calls ((jb l0_0 a1).f2) (-1) (wrap64 ((l0_0.length:Int) - 1)) true _ A5.out).mono ?_);rintro e w' ⟨rfl,⟨nd,rfl⟩⟩;refine ⟨_,rfl,?_⟩) |(go_at_call 79;(with_reducible refine (jF.calls ((jb l0_0 a1).f3) (-1) (wrap64 ((l0_0.length:Int) - 1)) true _ A7.out).mono ?_);rintro e w' ⟨rfl,⟨nd,rfl⟩⟩))
      go_ret
      exact ⟨Y1,Y48⟩
    ·replace c8:=Bool.eq_false_iff.mpr c8
     subst c8
     have H1:(some false)=some r:=by rw [if_neg (show ¬ (false=true) by decide)] at H;exact H
     clear H
     have H:=H1
     clear H1
     obtain rfl:=Option.some.inj H
     go_enter Tryd.func80,Tryd.ntmps80
     go_wp2_with (first |((with_reducible refine jr (N:=2) rfl ?_);refine bE (N:=2) (cs:=#[.slice A0_0 l0_0.length c0_0]) (t:=28) ?_;intro gb334 hg w20 hbox hb;have BK334:=am (hbox);have GW334:=am ((Y0:w.heap.size≤gb334));have GE334:=am ((Y0:w.heap.size≤gb334));replace HB:=am (jd (bq) hb);clear hb hbox hg;have hcz21_0:=bc0 BK334.out;have hfz21_0:=ja BK334.out 0;have p335:0≤(a1:Int):=ozD (uq);have q335:a1<(l0_0.length:Int):=ozD (uq);obtain ⟨ad335,e335,hx335_0,hx335_1,hx335_2,hx335_3,hx335_4⟩:=jLa HR0_0.out a1 p335 q335;cases e335;replace hx335_0:=cb HB.out hx335_0;replace hx335_1:=cb HB.out hx335_1;replace hx335_2:=cb HB.out hx335_2;replace hx335_3:=cb HB.out hx335_3;replace hx335_4:=cb HB.out hx335_4;replace p335:=ezT p335;replace q335:=ezT q335) |((with_reducible refine jr (N:=6) rfl ?_);refine bE (N:=6) (cs:=#[.int .i64 0, .int .i64 0, .int .i64 0, .int .i64 0, .bool false]) (t:=66) ?_;intro gb336 hg w22 hbox hb;have BK336:=am (hbox);have GW336:=am ((Y15:w.heap.size≤gb336));have GE336:=am ((Y15:w.heap.size≤gb336));have NB334_336:=am ((Y45:gb334≠gb336));have NB336_334:=am ((Y46:gb336≠gb334));replace BK334:=am (jc (g:=gb334) (o:=.cells #[.slice (some ad335) l0_0.length c0_0] 28 (0,0)) (kq BK334.out) hb);replace HB:=am (jd (Y47) hb);clear hb hbox hg;have hnb23:=NB336_334.out;have hnc23:=NB334_336.out;have hcz24_0:=bc0 BK336.out;have hcz24_1:=bc1 BK336.out;have hcz24_2:=bc2 BK336.out;have hcz24_3:=bc3 BK336.out;have hcz24_4:w22.cell? ⟨gb336,4,none⟩=some (.bool false):=(jC BK336.out 4).trans rfl;have hfz24_0:=ja BK336.out 0;have hfz24_1:=ja BK336.out 1;have hfz24_2:=ja BK336.out 2;have hfz24_3:=ja BK336.out 3;have hfz24_4:=ja BK336.out 4) |((with_reducible refine jB (f:=79) rfl ?_);refine gL (some 19) Tryd.func79 #[.int .i64 ((jb l0_0 a1).f2), .int .i64 (-1), .int .i64 (wrap64 ((l0_0.length:Int) - 1))] ?_;(with_reducible refine (jF.calls ((jb l0_0 a1).f2) (-1) (wrap64 ((l0_0.length:Int) - 1)) true _ A5.out).mono ?_);rintro e w' ⟨rfl,⟨nd,rfl⟩⟩;refine ⟨_,rfl,?_⟩) |(go_at_call 79;(with_reducible refine (jF.calls ((jb l0_0 a1).f3) (-1) (wrap64 ((l0_0.length:Int) - 1)) false _ A7.out).mono ?_);rintro e w' ⟨rfl,⟨nd,rfl⟩⟩))
     go_ret
     exact ⟨Y1,Y48⟩
   ·replace c6:=Bool.eq_false_iff.mpr c6
    subst c6
    have H1:(some false)=some r:=by rw [if_neg (show ¬ (false=true) by decide)] at H;exact H
    clear H
    have H:=H1
    clear H1
    obtain rfl:=Option.some.inj H
    go_enter Tryd.func80,Tryd.ntmps80
    go_wp2_with (first |((with_reducible refine jr (N:=2) rfl ?_);refine bE (N:=2) (cs:=#[.slice A0_0 l0_0.length c0_0]) (t:=28) ?_;intro gb334 hg w25 hbox hb;have BK334:=am (hbox);have GW334:=am ((Y0:w.heap.size≤gb334));have GE334:=am ((Y0:w.heap.size≤gb334));replace HB:=am (jd (bq) hb);clear hb hbox hg;have hcz26_0:=bc0 BK334.out;have hfz26_0:=ja BK334.out 0;have p335:0≤(a1:Int):=ozD (uq);have q335:a1<(l0_0.length:Int):=ozD (uq);obtain ⟨ad335,e335,hx335_0,hx335_1,hx335_2,hx335_3,hx335_4⟩:=jLa HR0_0.out a1 p335 q335;cases e335;replace hx335_0:=cb HB.out hx335_0;replace hx335_1:=cb HB.out hx335_1;replace hx335_2:=cb HB.out hx335_2;replace hx335_3:=cb HB.out hx335_3;replace hx335_4:=cb HB.out hx335_4;replace p335:=ezT p335;replace q335:=ezT q335) |((with_reducible refine jr (N:=6) rfl ?_);refine bE (N:=6) (cs:=#[.int .i64 0, .int .i64 0, .int .i64 0, .int .i64 0, .bool false]) (t:=66) ?_;intro gb336 hg w27 hbox hb;have BK336:=am (hbox);have GW336:=am ((Y15:w.heap.size≤gb336));have GE336:=am ((Y15:w.heap.size≤gb336));have NB334_336:=am ((Y45:gb334≠gb336));have NB336_334:=am ((Y46:gb336≠gb334));replace BK334:=am (jc (g:=gb334) (o:=.cells #[.slice (some ad335) l0_0.length c0_0] 28 (0,0)) (kq BK334.out) hb);replace HB:=am (jd (Y47) hb);clear hb hbox hg;have hnb28:=NB336_334.out;have hnc28:=NB334_336.out;have hcz29_0:=bc0 BK336.out;have hcz29_1:=bc1 BK336.out;have hcz29_2:=bc2 BK336.out;have hcz29_3:=bc3 BK336.out;have hcz29_4:w27.cell? ⟨gb336,4,none⟩=some (.bool false):=(jC BK336.out 4).trans rfl;have hfz29_0:=ja BK336.out 0;have hfz29_1:=ja BK336.out 1;have hfz29_2:=ja BK336.out 2;have hfz29_3:=ja BK336.out 3;have hfz29_4:=ja BK336.out 4) |((with_reducible refine jB (f:=79) rfl ?_);refine gL (some 19) Tryd.func79 #[.int .i64 ((jb l0_0 a1).f2), .int .i64 (-1), .int .i64 (wrap64 ((l0_0.length:Int) - 1))] ?_;(with_reducible refine (jF.calls ((jb l0_0 a1).f2) (-1) (wrap64 ((l0_0.length:Int) - 1)) false _ A5.out).mono ?_);rintro e w' ⟨rfl,⟨nd,rfl⟩⟩;refine ⟨_,rfl,?_⟩))
    go_ret
    exact ⟨Y1,Y48⟩
  ·rw [if_neg c4] at H
   exact absurd H (by simp)
 ·rw [if_neg c3] at H
  exact absurd H (by simp)
def jna.l0 : Nat → List Int → Int → Int → Option (Bool)
 | 0,_,_,_=>none
 | k+1,x0,x1,x5=>if x5<(x0.length:Int) then (if 0≤x5 then (if (rd x0 x5)=x1 then (some true) else (jna.l0 k x0 x1 (wrap64 (x5+1)))) else (none)) else (some false)
def jna.f (k : Nat) (l0 : List Int) (a1 : Int) : Option (Bool) := jna.l0 k l0 a1 0
set_option maxHeartbeats 8000000 in
set_option maxRecDepth 100000 in
theorem jna.calls (k : Nat) (A0 : Option Addr) (c0 : Nat) (l0 : List Int) (a1 : Int) (r : Bool) (w : World) (hr0 : Kd.C (Kd.int .i64) w A0 l0.length l0) (hc0 : l0.length ≤ c0) (h : jna.f k l0 a1 = some r) :
  Calls Tryd.prog 56 #[.slice A0 l0.length c0, .int .i64 a1] w fun e w'=>e=.returned (.bool r)∧jMa w w':=by
 have HR0:=am hr0
 have HC0:=am hc0
 clear hr0 hc0
 have H:(jna.l0 k l0 a1 0)=some r:=h
 clear h
 have H':=am H
 clear H
 go_enter Tryd.func56,Tryd.ntmps56
 go_wp2
 go_loopg [5] k (fun kq v5 w'=>∃ (x5_1:Int),v5=.int .i64 x5_1∧jH (jna.l0 kq l0 a1 x5_1=some r)∧jH (kq≤k)∧jMa w w')
 case atStart=>exact ⟨(0),(sq),H',⟨Nat.le_refl _⟩,Y2⟩
 case round =>
  clear H'
  try clear p2
  obtain ⟨x5_1,rfl,HA,HK1,⟨m1,rfl⟩⟩:=hrel
  cases gk with
  | zero=>exact absurd HA.out (by simp [jna.l0])
  | succ k1 =>
   have H:=HA.out
   clear HA
   simp only [jna.l0] at H
   by_cases c3:x5_1<(l0.length:Int)
   ·rw [if_pos c3] at H
    have c3b0:decide (x5_1<(l0.length:Int))=true:=dzT c3
    clear c3
    by_cases c4:0≤x5_1
    ·rw [if_pos c4] at H
     have c4b0:decide (0≤x5_1)=true:=dzT c4
     clear c4
     by_cases c5:(rd l0 x5_1)=a1
     ·rw [if_pos c5] at H
      have c5b0:((rd l0 x5_1) == a1)=true:=beq_iff_eq.mpr c5
      have c5b1:((rd l0 x5_1) != a1)=false:=bne_eq_false_iff_eq.mpr c5
      clear c5
      obtain rfl:=Option.some.inj H
      have p339:0≤(x5_1:Int):=ozD (uq)
      have q339:x5_1<(l0.length:Int):=ozD (uq)
      obtain ⟨ad339,e339,hx339_0⟩:=Kd.jtb HR0.out x5_1 p339 q339
      cases e339
      replace p339:=ezT p339
      replace q339:=ezT q339
      go_wp2
      go_ret
      exact ⟨sq,Y2⟩
     ·rw [if_neg c5] at H
      have c5b0:((rd l0 x5_1) == a1)=false:=beq_eq_false_iff_ne.mpr c5
      have c5b1:((rd l0 x5_1) != a1)=true:=bne_iff_ne.mpr c5
      have H':=am H
      clear H
      have p339:0≤(x5_1:Int):=ozD (uq)
      have q339:x5_1<(l0.length:Int):=ozD (uq)
      obtain ⟨ad339,e339,hx339_0⟩:=Kd.jtb HR0.out x5_1 p339 q339
      cases e339
      replace p339:=ezT p339
      replace q339:=ezT q339
      go_wp2
      go_roundg k1
      case measure=>have:=HK1.out;omega
      case rel=>exact ⟨(wrap64 (x5_1+1)),(sq),H',⟨by have:=HK1.out;omega⟩,Y2⟩
    ·rw [if_neg c4] at H
     exact absurd H (by simp)
   ·rw [if_neg c3] at H
    have c3b0:decide (x5_1<(l0.length:Int))=false:=dzF c3
    clear c3
    obtain rfl:=Option.some.inj H
    go_wp2
    go_ret
    exact ⟨sq,Y2⟩
def jU.l0 : Nat → Int → List Int → List (S66) → Option (List Int)
 | 0,_,_,_=>none
 | k+1,x1,x5,x341000=>if x1≥0 then ((jna.f k x5 x1).bind fun t344=>(if t344=true then (some x5) else (if x5.length<17592186044416 then (if 0≤x1 then (if x1<(x341000.length:Int) then (jU.l0 k ((jb x341000 x1).f3) (x5 ++ [x1]) x341000) else (none)) else (none)) else (none)))) else (some x5)
def jU.f (k : Nat) (l0_0 : List (S66)) (a1 : Int) : Option (List Int) := jU.l0 k a1 (([] : List Int)) l0_0
set_option maxHeartbeats 8000000 in
set_option maxRecDepth 100000 in
theorem jU.calls (k : Nat) (A0_0 : Option Addr) (c0_0 : Nat) (l0_0 : List (S66)) (a1 : Int) (r : List Int) (w : World) (hr0_0 : Kd.C k66 w A0_0 l0_0.length l0_0) (hc0_0 : l0_0.length ≤ c0_0) (h : jU.f k l0_0 a1 = some r) :
  Calls Tryd.prog 81 #[.agg #[.slice A0_0 l0_0.length c0_0], .int .i64 a1] w fun e w'=>∃ v0_:Value,e=.returned (v0_)∧Kd.R (Kd.int .i64) 3 w' w.heap.size (fun _=>True) v0_ r∧Below w.heap.size w w':=by
 have hu28:=Tryd.underlying28
 have HR0_0:=am hr0_0
 have HC0_0:=am hc0_0
 clear hr0_0 hc0_0
 have HB:=am (Below.refl w.heap.size w)
 have H:(jU.l0 k a1 (([]:List Int)) l0_0)=some r:=h
 clear h
 obtain ⟨y341,hy341⟩:∃ y_:List Int,y_=(([]:List Int)):=⟨_,rfl⟩
 replace H:(jU.l0 k a1 y341 l0_0)=some r:=by first |(rw [hy341];with_reducible exact H) |(have H2_:=(Option.bind_some _ _).symm.trans H;rw [hy341];with_reducible exact H2_) |(have H2_:=(Option.bind_some _ _).symm.trans H;with_reducible exact H2_) | with_reducible exact H |(rw [hy341];exact H) | exact H
 have Ny341:=am hy341
 clear hy341
 have H':=am H
 clear H
 go_enter Tryd.func81,Tryd.ntmps81
 go_wp2_with (first |((with_reducible refine jr (N:=2) rfl ?_);refine bE (N:=2) (cs:=#[.slice A0_0 l0_0.length c0_0]) (t:=28) ?_;intro gb340 hg w3 hbox hb;have BK340:=am (hbox);have GW340:=am ((Y0:w.heap.size≤gb340));have GE340:=am ((Y0:w.heap.size≤gb340));replace HB:=am (jd (bq) hb);clear hb hbox hg) |((with_reducible refine jr (N:=6) rfl ?_);refine Kd.R_lit (Kd.int .i64) _ 3 ?hg (N:=6) ?hd (xs:=([]:List Int)) (inner:=[]) (ok:=fun _=>True) (okp:=fun _=>True) ?hr ?hp (fun _ hk=>hk) trivial (Below.refl _ _) (Nat.le_refl _) (by simp) ?_;(case hd=>rfl);(case hg=>rfl);(case hr=>exact Y6);(case hp=>exact (Reps.none _ _));intro v342 w4 ho5 hb hg_ hnew_;clear hg_ hnew_;(first | rw [← Ny341.out] at ho5 |(simp only [Int.reduceToNat] at ho5;rw [← Ny341.out] at ho5));have HO343:=am (Kd.jGa ho5 (jE (Y16)));replace BK340:=am (jc (g:=gb340) (o:=.cells #[.slice A0_0 l0_0.length c0_0] 28 (0,0)) (kq BK340.out) hb);replace HB:=am (jd (Y16) hb);clear hb ho5))
 go_loopg [1,5] k (fun kq v1 v5 w'=>∃ (x1_1:Int) (x5_1:List Int),v1=.int .i64 x1_1∧jH (jU.l0 kq x1_1 x5_1 l0_0=some r)∧jH (kq≤k)∧jH (Kd.R (Kd.int .i64) 3 w' w.heap.size (fun _=>True) v5 x5_1)∧jH (w'.heap[gb340]?=some (.cells #[(.slice A0_0 l0_0.length c0_0)] 28 (0,0)))∧jH (Below w.heap.size w w'))
 case atStart=>exact ⟨(a1),(y341),(sq),H',⟨Nat.le_refl _⟩,⟨rq HO343.out⟩,⟨kq BK340.out⟩,⟨Y16⟩⟩
 case round =>
  clear H'
  try clear p2
  obtain ⟨x1_1,x5_1,rfl,HA,HK1,HO_5,BK340,HB⟩:=hrel
  cases gk with
  | zero=>exact absurd HA.out (by simp [jU.l0])
  | succ k1 =>
   have H:=HA.out
   clear HA
   simp only [jU.l0] at H
   by_cases c6:x1_1≥0
   ·rw [if_pos c6] at H
    have c6b0:decide (0≤x1_1)=true:=dzT c6
    clear c6
    replace H:=bzS H
    obtain ⟨t344,A70,H⟩:=H
    replace H:(if t344=true then (some x5_1) else (if x5_1.length<17592186044416 then (if 0≤x1_1 then (if x1_1<(l0_0.length:Int) then (jU.l0 k1 ((jb l0_0 x1_1).f3) (x5_1 ++ [x1_1]) l0_0) else (none)) else (none)) else (none)))=some r:=H
    have A7:=am A70
    clear A70
    by_cases c8:t344=true
    ·subst c8
     have H1:(some x5_1)=some r:=by rw [if_pos rfl] at H;exact H
     clear H
     have H:=H1
     clear H1
     obtain rfl:=Option.some.inj H
     obtain ⟨Ao9,co9,eo9⟩:=Kd.jEa HO_5.out
     subst eo9
     go_wp2_with (first |(go_at_call 56;(with_reducible refine (jna.calls k1 _ _ x5_1 x1_1 true _ ?side1 ?side2 A7.out).mono ?_);(case side1=>exact cq (Kd.jN HO_5.out).2.2);(case side2=>exact (Kd.jN HO_5.out).2.1);rintro e w' ⟨rfl,⟨nd,rfl⟩⟩))
     go_ret
     exact ⟨_,Y1,rq HO_5.out,Y16⟩
    ·replace c8:=Bool.eq_false_iff.mpr c8
     subst c8
     have H1:(if x5_1.length<17592186044416 then (if 0≤x1_1 then (if x1_1<(l0_0.length:Int) then (jU.l0 k1 ((jb l0_0 x1_1).f3) (x5_1 ++ [x1_1]) l0_0) else (none)) else (none)) else (none))=some r:=by rw [if_neg (show ¬ (false=true) by decide)] at H;exact H
     clear H
     have H:=H1
     clear H1
     by_cases c10:x5_1.length<17592186044416
     ·rw [if_pos c10] at H
      have LMc10:=am c10
      clear c10
      obtain ⟨y345,hy345⟩:∃ y_:List Int,y_=(x5_1 ++ [x1_1]):=⟨_,rfl⟩
      replace H:(if 0≤x1_1 then (if x1_1<(l0_0.length:Int) then (jU.l0 k1 ((jb l0_0 x1_1).f3) y345 l0_0) else (none)) else (none))=some r:=by first |(rw [hy345];with_reducible exact H) |(have H2_:=(Option.bind_some _ _).symm.trans H;rw [hy345];with_reducible exact H2_) |(have H2_:=(Option.bind_some _ _).symm.trans H;with_reducible exact H2_) | with_reducible exact H |(rw [hy345];exact H) | exact H
      have Ny345:=am hy345
      clear hy345
      by_cases c11:0≤x1_1
      ·rw [if_pos c11] at H
       have c11b0:decide (0≤x1_1)=true:=dzT c11
       clear c11
       by_cases c12:x1_1<(l0_0.length:Int)
       ·rw [if_pos c12] at H
        have c12b0:decide (x1_1<(l0_0.length:Int))=true:=dzT c12
        clear c12
        have H':=am H
        clear H
        obtain ⟨Ao13,co13,eo13⟩:=Kd.jEa HO_5.out
        subst eo13
        go_wp2_with (first |(go_at_call 56;(with_reducible refine (jna.calls k1 _ _ x5_1 x1_1 false _ ?side1 ?side2 A7.out).mono ?_);(case side1=>exact cq (Kd.jN HO_5.out).2.2);(case side2=>exact (Kd.jN HO_5.out).2.1);rintro e w' ⟨rfl,⟨nd,rfl⟩⟩) |((with_reducible refine jCb (b:=.append) (xs:=#[.tmp 15, .tmp 17]) rfl ?_);at_builtin;refine Kd.R_append (Kd.int .i64) (w0:=w) w.heap.size rfl (.tmp 15) (.tmp 17) 32 3 (.int .i64 0) 8 rfl Tryd.underlying32 info3 rfl (by decide) (by omega) (.slice Ao13 x5_1.length co13) x5_1 x1_1 [.int .i64 x1_1] (fun _=>True) (fun _=>False) rfl rfl ?aP (fun _ hk=>hk.elim) ?aF ?aO ?aB ?aS ?aL ?_;(case aP=>exact rfl);(case aB=>exact (Y16));(case aF=>exact (fun _ _=>trivial));(case aO=>exact (rq HO_5.out));(case aS=>exact (jE (Y16)));(case aL=>have:=LMc10.out;omega);intro v346 w14 ho hb hg hat;rw [← Ny345.out] at ho;have n0_:=am (blk_grown (g:=gb340) (o:=.cells #[.slice A0_0 l0_0.length c0_0] 28 (0,0)) (kq BK340.out) hg (Kd.R_ne HO_5.out BK340.out (by decide)));have n1_:=am (hb);have n2_:=am (ho);clear BK340 HB HO_5;have BK340:=n0_;have HB:=n1_;have HO347:=n2_;clear n0_ n1_ n2_ ho hb hg hat;have hcz15_0:=bc0 BK340.out;have hfz15_0:=ja BK340.out 0;have p348:0≤(x1_1:Int):=ozD (uq);have q348:x1_1<(l0_0.length:Int):=ozD (uq);obtain ⟨ad348,e348,hx348_0,hx348_1,hx348_2,hx348_3,hx348_4⟩:=jLa HR0_0.out x1_1 p348 q348;cases e348;replace hx348_0:=cb HB.out hx348_0;replace hx348_1:=cb HB.out hx348_1;replace hx348_2:=cb HB.out hx348_2;replace hx348_3:=cb HB.out hx348_3;replace hx348_4:=cb HB.out hx348_4;replace p348:=ezT p348;replace q348:=ezT q348))
        go_roundg k1
        case measure=>have:=HK1.out;omega
        case rel=>exact ⟨((jb l0_0 x1_1).f3),(y345),(sq),H',⟨by have:=HK1.out;omega⟩,⟨rq HO347.out⟩,⟨kq BK340.out⟩,⟨Y16⟩⟩
       ·rw [if_neg c12] at H
        exact absurd H (by simp)
      ·rw [if_neg c11] at H
       exact absurd H (by simp)
     ·rw [if_neg c10] at H
      exact absurd H (by simp)
   ·rw [if_neg c6] at H
    have c6b0:decide (0≤x1_1)=false:=dzF c6
    clear c6
    obtain rfl:=Option.some.inj H
    go_wp2
    go_ret
    exact ⟨_,Y1,rq HO_5.out,Y16⟩
def jha.l0 : Nat → ByteArray → Int → Option (Bool)
 | 0,_,_=>none
 | k+1,x0,x3=>if x3<(x0.size:Int) then (if 0≤x3 then (if (bt x0 x3)<97 then (some false) else (if (bt x0 x3) > 122 then (some false) else (jha.l0 k x0 (wrap64 (x3+1))))) else (none)) else ((jF.f (x0.size:Int) 1 6).bind fun t349=>(some t349))
def jha.f (k : Nat) (a0 : ByteArray) : Option (Bool) := jha.l0 k a0 0
set_option maxHeartbeats 8000000 in
set_option maxRecDepth 100000 in
theorem jha.calls (k : Nat) (a0 : ByteArray) (r : Bool) (w : World) (h : jha.f k a0 = some r) :
  Calls Tryd.prog 93 #[.string a0] w fun e w'=>e=.returned (.bool r)∧jMa w w':=by
 have H:(jha.l0 k a0 0)=some r:=h
 clear h
 have H':=am H
 clear H
 go_enter Tryd.func93,Tryd.ntmps93
 go_wp2
 go_loopg [3] k (fun kq v3 w'=>∃ (x3_1:Int),v3=.int .i64 x3_1∧jH (jha.l0 kq a0 x3_1=some r)∧jH (kq≤k)∧jMa w w')
 case atStart=>exact ⟨(0),(sq),H',⟨Nat.le_refl _⟩,Y2⟩
 case round =>
  clear H'
  obtain ⟨x3_1,rfl,HA,HK1,⟨m1,rfl⟩⟩:=hrel
  cases gk with
  | zero=>exact absurd HA.out (by simp [jha.l0])
  | succ k1 =>
   have H:=HA.out
   clear HA
   simp only [jha.l0] at H
   by_cases c2:x3_1<(a0.size:Int)
   ·rw [if_pos c2] at H
    have c2b0:decide (x3_1<(a0.size:Int))=true:=dzT c2
    clear c2
    by_cases c3:0≤x3_1
    ·rw [if_pos c3] at H
     have c3b0:decide (0≤x3_1)=true:=dzT c3
     clear c3
     by_cases c5:(bt a0 x3_1)<97
     ·rw [if_pos c5] at H
      have c5b0:decide ((bt a0 x3_1)<97)=true:=dzT c5
      clear c5
      obtain rfl:=Option.some.inj H
      have p4:0≤(x3_1:Int):=ozD (uq)
      have q4:x3_1<(a0.size:Int):=ozD (uq)
      have hx4:=bt_at a0 x3_1
      replace p4:=ezT p4
      replace q4:=ezT q4
      go_wp2
      go_ret
      exact ⟨sq,Y2⟩
     ·rw [if_neg c5] at H
      have c5b0:decide ((bt a0 x3_1)<97)=false:=dzF c5
      clear c5
      by_cases c7:(bt a0 x3_1) > 122
      ·rw [if_pos c7] at H
       have c7b0:decide (122<(bt a0 x3_1))=true:=dzT c7
       clear c7
       obtain rfl:=Option.some.inj H
       have p4:0≤(x3_1:Int):=ozD (uq)
       have q4:x3_1<(a0.size:Int):=ozD (uq)
       have hx4:=bt_at a0 x3_1
       replace p4:=ezT p4
       replace q4:=ezT q4
       have p6:0≤(x3_1:Int):=ozD (uq)
       have q6:x3_1<(a0.size:Int):=ozD (uq)
       have hx6:=bt_at a0 x3_1
       replace p6:=ezT p6
       replace q6:=ezT q6
       go_wp2
       go_ret
       exact ⟨sq,Y2⟩
      ·rw [if_neg c7] at H
       have c7b0:decide (122<(bt a0 x3_1))=false:=dzF c7
       clear c7
       have H':=am H
       clear H
       have p4:0≤(x3_1:Int):=ozD (uq)
       have q4:x3_1<(a0.size:Int):=ozD (uq)
       have hx4:=bt_at a0 x3_1
       replace p4:=ezT p4
       replace q4:=ezT q4
       have p6:0≤(x3_1:Int):=ozD (uq)
       have q6:x3_1<(a0.size:Int):=ozD (uq)
       have hx6:=bt_at a0 x3_1
       replace p6:=ezT p6
       replace q6:=ezT q6
       go_wp2
       go_roundg k1
       case measure=>have:=HK1.out;omega
       case rel=>exact ⟨(wrap64 (x3_1+1)),(sq),H',⟨by have:=HK1.out;omega⟩,Y2⟩
    ·rw [if_neg c3] at H
     exact absurd H (by simp)
   ·rw [if_neg c2] at H
    have c2b0:decide (x3_1<(a0.size:Int))=false:=dzF c2
    clear c2
    replace H:=bzS H
    obtain ⟨t349,A80,H⟩:=H
    replace H:(some t349)=some r:=H
    have A8:=am A80
    clear A80
    obtain rfl:=Option.some.inj H
    go_wp2_with (first |((with_reducible refine jB (f:=79) rfl ?_);refine gL (some 22) Tryd.func79 #[.int .i64 (a0.size:Int), .int .i64 1, .int .i64 6] ?_;(with_reducible refine (jF.calls (a0.size:Int) 1 6 t349 _ A8.out).mono ?_);rintro e w' ⟨rfl,⟨nd,rfl⟩⟩;refine ⟨_,rfl,?_⟩))
    go_ret
    exact ⟨sq,Y2⟩
def jda.l0 : Nat → List (S99) → ByteArray → Int → Option (Int)
 | 0,_,_,_=>none
 | k+1,x0,x1,x5=>if x5<(x0.length:Int) then (if 0≤x5 then (if ((jA x0 x5).f0).toList=x1.toList then (some x5) else (jda.l0 k x0 x1 (wrap64 (x5+1)))) else (none)) else (some (-1))
def jda.f (k : Nat) (l0 : List (S99)) (a1 : ByteArray) : Option (Int) := jda.l0 k l0 a1 0
set_option maxHeartbeats 8000000 in
set_option maxRecDepth 100000 in
theorem jda.calls (k : Nat) (A0 : Option Addr) (c0 : Nat) (l0 : List (S99)) (a1 : ByteArray) (r : Int) (w : World) (hr0 : Kd.C k99 w A0 l0.length l0) (hc0 : l0.length ≤ c0) (h : jda.f k l0 a1 = some r) :
  Calls Tryd.prog 94 #[.slice A0 l0.length c0, .string a1] w fun e w'=>e=.returned (.int .i64 r)∧jMa w w':=by
 have HR0:=am hr0
 have HC0:=am hc0
 clear hr0 hc0
 have H:(jda.l0 k l0 a1 0)=some r:=h
 clear h
 have H':=am H
 clear H
 go_enter Tryd.func94,Tryd.ntmps94
 go_wp2
 go_loopg [5] k (fun kq v5 w'=>∃ (x5_1:Int),v5=.int .i64 x5_1∧jH (jda.l0 kq l0 a1 x5_1=some r)∧jH (kq≤k)∧jMa w w')
 case atStart=>exact ⟨(0),(sq),H',⟨Nat.le_refl _⟩,Y2⟩
 case round =>
  clear H'
  try clear p2
  obtain ⟨x5_1,rfl,HA,HK1,⟨m1,rfl⟩⟩:=hrel
  cases gk with
  | zero=>exact absurd HA.out (by simp [jda.l0])
  | succ k1 =>
   have H:=HA.out
   clear HA
   simp only [jda.l0] at H
   by_cases c3:x5_1<(l0.length:Int)
   ·rw [if_pos c3] at H
    have c3b0:decide (x5_1<(l0.length:Int))=true:=dzT c3
    clear c3
    by_cases c4:0≤x5_1
    ·rw [if_pos c4] at H
     have c4b0:decide (0≤x5_1)=true:=dzT c4
     clear c4
     by_cases c5:((jA l0 x5_1).f0).toList=a1.toList
     ·rw [if_pos c5] at H
      have c5b0:(((jA l0 x5_1).f0).toList == a1.toList)=true:=beq_iff_eq.mpr c5
      have c5b1:(((jA l0 x5_1).f0).toList != a1.toList)=false:=bne_eq_false_iff_eq.mpr c5
      clear c5
      obtain rfl:=Option.some.inj H
      have p350:0≤(x5_1:Int):=ozD (uq)
      have q350:x5_1<(l0.length:Int):=ozD (uq)
      obtain ⟨ad350,e350,hx350_0,hx350_1⟩:=jxb HR0.out x5_1 p350 q350
      cases e350
      replace p350:=ezT p350
      replace q350:=ezT q350
      go_wp2
      go_ret
      exact ⟨sq,Y2⟩
     ·rw [if_neg c5] at H
      have c5b0:(((jA l0 x5_1).f0).toList == a1.toList)=false:=beq_eq_false_iff_ne.mpr c5
      have c5b1:(((jA l0 x5_1).f0).toList != a1.toList)=true:=bne_iff_ne.mpr c5
      have H':=am H
      clear H
      have p350:0≤(x5_1:Int):=ozD (uq)
      have q350:x5_1<(l0.length:Int):=ozD (uq)
      obtain ⟨ad350,e350,hx350_0,hx350_1⟩:=jxb HR0.out x5_1 p350 q350
      cases e350
      replace p350:=ezT p350
      replace q350:=ezT q350
      go_wp2
      go_roundg k1
      case measure=>have:=HK1.out;omega
      case rel=>exact ⟨(wrap64 (x5_1+1)),(sq),H',⟨by have:=HK1.out;omega⟩,Y2⟩
    ·rw [if_neg c4] at H
     exact absurd H (by simp)
   ·rw [if_neg c3] at H
    have c3b0:decide (x5_1<(l0.length:Int))=false:=dzF c3
    clear c3
    obtain rfl:=Option.some.inj H
    go_wp2
    go_ret
    exact ⟨sq,Y2⟩
mutual
def jy.l0 : Nat → Int → List (S99) → Option (Bool)
 | 0,_,_=>none
 | k+1,x3,x155000=>if x3<(x155000.length:Int) then (if 0≤x3 then ((jha.f k ((jA x155000 x3).f0)).bind fun t158=>(if t158=true then (if x3≤(x155000.length:Int) then ((jda.f k (x155000.take (x3:Int).toNat) ((jA x155000 x3).f0)).bind fun t163=>(if t163≥0 then (jy.j1 k x3 true x155000) else (if x3=0 then (if ((jA x155000 x3).f1)=(-1) then (if x3 > 0 then ((jF.f ((jA x155000 x3).f1) 0 (wrap64 (x3 - 1))).bind fun t164=>(jy.j1 k x3 (!t164) x155000)) else (jy.j1 k x3 false x155000)) else (jy.j1 k x3 true x155000)) else (if x3 > 0 then ((jF.f ((jA x155000 x3).f1) 0 (wrap64 (x3 - 1))).bind fun t165=>(jy.j1 k x3 (!t165) x155000)) else (jy.j1 k x3 false x155000))))) else (none)) else (jy.j1 k x3 true x155000))) else (none)) else ((jF.f (x155000.length:Int) 1 8).bind fun t155=>(some t155))
def jy.j1 : Nat → Int → Bool → List (S99) → Option (Bool)
 | 0,_,_,_=>none
 | k+1,x3,x51,x155000=>if x51=true then (some false) else (jy.l0 k (wrap64 (x3+1)) x155000)
end
def jy.f (k : Nat) (l0_0 : List (S99)) : Option (Bool) := jy.l0 k 0 l0_0
set_option maxHeartbeats 8000000 in
set_option maxRecDepth 100000 in
theorem jy.calls (k : Nat) (A0_0 : Option Addr) (c0_0 : Nat) (l0_0 : List (S99)) (r : Bool) (w : World) (hr0_0 : Kd.C k99 w A0_0 l0_0.length l0_0) (hc0_0 : l0_0.length ≤ c0_0) (h : jy.f k l0_0 = some r) :
  Calls Tryd.prog 82 #[.agg #[.slice A0_0 l0_0.length c0_0]] w fun e w'=>e=.returned (.bool r)∧Below w.heap.size w w':=by
 have hu25:=Tryd.underlying25
 have hu99:=Tryd.underlying99
 have HR0_0:=am hr0_0
 have HC0_0:=am hc0_0
 clear hr0_0 hc0_0
 have HB:=am (Below.refl w.heap.size w)
 have H:(jy.l0 k 0 l0_0)=some r:=h
 clear h
 have H':=am H
 clear H
 go_enter Tryd.func82,Tryd.ntmps82
 go_wp2_with (first |((with_reducible refine jr (N:=1) rfl ?_);refine bE (N:=1) (cs:=#[.slice A0_0 l0_0.length c0_0]) (t:=25) ?_;intro gb154 hg w2 hbox hb;have BK154:=am (hbox);have GW154:=am ((Y0:w.heap.size≤gb154));have GE154:=am ((Y0:w.heap.size≤gb154));replace HB:=am (jd (bq) hb);clear hb hbox hg))
 go_loopg [3] k (fun kq v3 w'=>∃ (x3_1:Int),v3=.int .i64 x3_1∧jH (jy.l0 kq x3_1 l0_0=some r)∧jH (kq≤k)∧jH (w'.heap[gb154]?=some (.cells #[(.slice A0_0 l0_0.length c0_0)] 25 (0,0)))∧jH (Below w.heap.size w w'))
 case atStart=>exact ⟨(0),(sq),H',⟨Nat.le_refl _⟩,⟨kq BK154.out⟩,⟨Y62⟩⟩
 case round =>
  clear H'
  try clear c1
  try clear p2
  obtain ⟨x3_1,rfl,HA,HK1,BK154,HB⟩:=hrel
  cases gk with
  | zero=>exact absurd HA.out (by simp [jy.l0])
  | succ k1 =>
   have H:=HA.out
   clear HA
   simp only [jy.l0] at H
   by_cases c3:x3_1<(l0_0.length:Int)
   ·rw [if_pos c3] at H
    have c3b0:decide (x3_1<(l0_0.length:Int))=true:=dzT c3
    clear c3
    by_cases c4:0≤x3_1
    ·rw [if_pos c4] at H
     have c4b0:decide (0≤x3_1)=true:=dzT c4
     clear c4
     have HC5:=am H
     clear H
     have hcz6_0:=bc0 BK154.out
     have hfz6_0:=ja BK154.out 0
     have p156:0≤(x3_1:Int):=ozD (uq)
     have q156:x3_1<(l0_0.length:Int):=ozD (uq)
     obtain ⟨ad156,e156,hx156_0,hx156_1⟩:=jxb HR0_0.out x3_1 p156 q156
     cases e156
     replace hx156_0:=cb HB.out hx156_0
     replace hx156_1:=cb HB.out hx156_1
     replace p156:=ezT p156
     replace q156:=ezT q156
     go_upto_region 5 with (first |((with_reducible refine jr (N:=4) rfl ?_);refine bE (N:=4) (cs:=#[.string (⟨#[]⟩:ByteArray), .int .i64 0]) (t:=99) ?_;intro gb157 hg w7 hbox hb;have BK157:=am (hbox);have GW157:=am ((Y81:w.heap.size≤gb157));have GE157:=am ((Y81:w.heap.size≤gb157));have NB154_157:=am ((by rw [hg];exact Nat.ne_of_lt (jT (g:=gb154) (o:=.cells #[.slice (some ad156) l0_0.length c0_0] 25 (0,0)) (kq BK154.out)):gb154≠gb157));have NB157_154:=am ((by rw [hg];exact Nat.ne_of_gt (jT (g:=gb154) (o:=.cells #[.slice (some ad156) l0_0.length c0_0] 25 (0,0)) (kq BK154.out)):gb157≠gb154));replace BK154:=am (jc (g:=gb154) (o:=.cells #[.slice (some ad156) l0_0.length c0_0] 25 (0,0)) (kq BK154.out) hb);replace HB:=am (jd (Y62) hb);clear hb hbox hg;have hnb8:=NB157_154.out;have hnc8:=NB154_157.out;have hcz9_0:=bc0 BK157.out;have hcz9_1:=bc1 BK157.out;have hfz9_0:=ja BK157.out 0;have hfz9_1:=ja BK157.out 1))
     (try simp only [Act.put,List.setIfInBounds_toArray,List.set_cons_zero,List.set_cons_succ])
     go_cut [51] (fun v51 wc=>∃ (kq:Nat) (x51_4:Bool),v51=.bool x51_4∧jH (jy.j1 kq x3_1 x51_4 l0_0=some r)∧jH (kq≤k1)∧jH (wc.heap[gb154]?=some (.cells #[(.slice (some ad156) l0_0.length c0_0)] 25 (0,0)))∧jH (wc.heap[gb157]?=some (.cells #[.string ((jA l0_0 x3_1).f0), .int .i64 ((jA l0_0 x3_1).f1)] 99 (0,0)))∧jH (Below w.heap.size w wc))
     case first =>
      have n0_:jH (((w7.setCell ⟨gb157,0,none⟩ (.string ((jA l0_0 x3_1).f0))).setCell ⟨gb157,1,none⟩ (.int .i64 ((jA l0_0 x3_1).f1))).heap[gb154]?=some (.cells #[.slice (some ad156) l0_0.length c0_0] 25 (0,0))):=⟨by (with_reducible repeat (first | refine jm ?_ _ | refine jv ?_ | refine jw ?_ _));refine jma ?_ NB154_157.out _;(with_reducible repeat (first | refine jm ?_ _ | refine jv ?_ | refine jw ?_ _));refine jma ?_ NB154_157.out _;(with_reducible repeat (first | refine jm ?_ _ | refine jv ?_ | refine jw ?_ _));exact BK154.out⟩
      have n1_:jH (((w7.setCell ⟨gb157,0,none⟩ (.string ((jA l0_0 x3_1).f0))).setCell ⟨gb157,1,none⟩ (.int .i64 ((jA l0_0 x3_1).f1))).heap[gb157]?=some (.cells #[.string ((jA l0_0 x3_1).f0), .int .i64 ((jA l0_0 x3_1).f1)] 99 (0,0))):=⟨by (with_reducible repeat (first | refine jm ?_ _ | refine jv ?_ | refine jw ?_ _));refine jDa (cs:=#[.string ((jA l0_0 x3_1).f0), .int .i64 0]) ?_ 1 _ rfl;(with_reducible repeat (first | refine jm ?_ _ | refine jv ?_ | refine jw ?_ _));refine jDa (cs:=#[.string (⟨#[]⟩:ByteArray), .int .i64 0]) ?_ 0 _ rfl;(with_reducible repeat (first | refine jm ?_ _ | refine jv ?_ | refine jw ?_ _));exact BK157.out⟩
      have n2_:jH (Below w.heap.size w ((w7.setCell ⟨gb157,0,none⟩ (.string ((jA l0_0 x3_1).f0))).setCell ⟨gb157,1,none⟩ (.int .i64 ((jA l0_0 x3_1).f1)))):=⟨Y63⟩
      clear BK154 BK157 HB hcz9_0 hcz9_1 hfz9_0 hfz9_1
      generalize ((w7.setCell ⟨gb157,0,none⟩ (.string ((jA l0_0 x3_1).f0))).setCell ⟨gb157,1,none⟩ (.int .i64 ((jA l0_0 x3_1).f1)))=w16 at n0_ n1_ n2_ ⊢
      have BK154:=n0_
      have BK157:=n1_
      have HB:=n2_
      clear n0_ n1_ n2_
      have HRW:=am (Kd.jD HR0_0.out HB.out)
      have e0:w16.cell? ⟨gb157,0,none⟩=some (.string ((jA l0_0 x3_1).f0)):=(jC BK157.out 0).trans rfl
      have e1:w16.cell? ⟨gb157,1,none⟩=some (.int .i64 ((jA l0_0 x3_1).f1)):=(jC BK157.out 1).trans rfl
      have e2:w16.cell? ⟨gb154,0,none⟩=some (.slice (some ad156) l0_0.length c0_0):=(jC BK154.out 0).trans rfl
      have H:=HC5.out
      clear HC5
      obtain ⟨v,hv,H⟩:=bzS H
      have HN:=am (fun W=>(jha.calls k1 _ v W hv).mono fun e w' h=>(⟨h.1,h.2.out⟩:e=.returned (.bool v)∧∃ m,w'=W.drewN m))
      clear hv hx156_0 hx156_1
      generalize hgx:jA l0_0 x3_1=x at H e0 e1 HN BK157
      have HGX:=am hgx
      clear hgx
      cases v with
      | false =>
       have H':=am (show jy.j1 k1 x3_1 true l0_0=some r from H)
       clear H
       go_big_quiet ((go_at_call 93;exact Calls.quiet_of (HN.out _)))
       go_wp2
       go_meet
       case rel=>exact ⟨_,_,rfl,H',⟨by have:=HK1.out;omega⟩,⟨jm BK154.out _⟩,⟨by rw [HGX.out];exact jm BK157.out _⟩,⟨je HB.out _⟩⟩
      | true =>
       replace H:(if x3_1≤(l0_0.length:Int) then ((jda.f k1 (l0_0.take (x3_1:Int).toNat) x.f0).bind fun t163=>(if t163≥0 then (jy.j1 k1 x3_1 true l0_0) else (if x3_1=0 then (if x.f1=(-1) then (if x3_1 > 0 then ((jF.f x.f1 0 (wrap64 (x3_1 - 1))).bind fun t164=>(jy.j1 k1 x3_1 (!t164) l0_0)) else (jy.j1 k1 x3_1 false l0_0)) else (jy.j1 k1 x3_1 true l0_0)) else (if x3_1 > 0 then ((jF.f x.f1 0 (wrap64 (x3_1 - 1))).bind fun t165=>(jy.j1 k1 x3_1 (!t165) l0_0)) else (jy.j1 k1 x3_1 false l0_0))))) else (none))=some r:=H
       have hle:x3_1≤(l0_0.length:Int):=by have:=ozD c3b0;omega
       have h0:0≤x3_1:=ozD c4b0
       rw [if_pos hle] at H
       obtain ⟨c,hc,H⟩:=bzS H
       obtain ⟨i0,hi0,_,_,_⟩:=info_parts info99
       have hcut:=cut_to (P:=Tryd.prog) 23 99 .i64 Tryd.underlying23 hi0 (some ad156) l0_0.length c0_0 x3_1 h0 hle HC0_0.out
       have hr18:=Kd.C_take (m:=(x3_1:Int).toNat) HRW.out (by omega)
       obtain ⟨y,hy⟩:∃ y:List S99,y=l0_0.take (x3_1:Int).toNat:=⟨_,rfl⟩
       have hyl:y.length=(x3_1:Int).toNat:=by rw [hy,List.length_take];omega
       have hyc:y.length≤c0_0:=by have:=HC0_0.out;omega
       rw [← hy] at hr18
       rw [← hyl] at hcut
       rw [← hy] at hc
       have HCN:=am (fun m=>(jda.calls k1 _ _ y x.f0 c (w16.drewN m) (Kd.C_drewN hr18 m) hyc hc).mono fun e w' h=>(⟨h.1,h.2.out⟩:e=.returned (.int .i64 c)∧∃ m',w'=(w16.drewN m).drewN m'))
       clear hr18 hc hy hyl hyc
       have b0:=ezT h0
       have b1:=ezT hle
       by_cases hc0:c≥0
       ·rw [if_pos hc0] at H
        have b2:decide (0≤c)=true:=dzT hc0
        have H':=am H
        clear H hc0 h0 hle
        go_big_quiet (first |(go_at_call 93;exact Calls.quiet_of (HN.out _)) |(go_at_call 94;exact Calls.quiet_of (HCN.out _)))
        go_wp2
        go_meet
        case rel=>exact ⟨_,_,rfl,H',⟨by have:=HK1.out;omega⟩,⟨jm BK154.out _⟩,⟨by rw [HGX.out];exact jm BK157.out _⟩,⟨je HB.out _⟩⟩
       ·rw [if_neg hc0] at H
        have b2:decide (0≤c)=false:=dzF hc0
        clear hc0
        by_cases hz:x3_1=0
        ·rw [if_pos hz] at H
         have b3:(x3_1 == 0)=true:=beq_iff_eq.2 hz
         have b4:decide (0<x3_1)=false:=dzF (by omega)
         by_cases hf:x.f1 = -1
         ·rw [if_pos hf,if_neg (by omega)] at H
          have b5:(x.f1 != -1)=false:=by simpa using hf
          have H':=am H
          clear H hf h0 hle hz
          go_big_quiet (first |(go_at_call 93;exact Calls.quiet_of (HN.out _)) |(go_at_call 94;exact Calls.quiet_of (HCN.out _)))
          go_wp2
          go_meet
          case rel=>exact ⟨_,_,rfl,H',⟨by have:=HK1.out;omega⟩,⟨jm BK154.out _⟩,⟨by rw [HGX.out];exact jm BK157.out _⟩,⟨je HB.out _⟩⟩
         ·rw [if_neg hf] at H
          have b5:(x.f1 != -1)=true:=by simpa using hf
          have H':=am H
          clear H hf h0 hle hz
          go_big_quiet (first |(go_at_call 93;exact Calls.quiet_of (HN.out _)) |(go_at_call 94;exact Calls.quiet_of (HCN.out _)))
          go_wp2
          go_meet
          case rel=>exact ⟨_,_,rfl,H',⟨by have:=HK1.out;omega⟩,⟨jm BK154.out _⟩,⟨by rw [HGX.out];exact jm BK157.out _⟩,⟨je HB.out _⟩⟩
        ·rw [if_neg hz,if_pos (by omega)] at H
         have b3:(x3_1 == 0)=false:=beq_eq_false_iff_ne.2 hz
         have b4:decide (0<x3_1)=true:=dzT (by omega)
         obtain ⟨t,ht,H⟩:=bzS H
         have H':=am H
         have HI:=am (fun W=>(jF.calls _ _ _ t W ht).mono fun e w' h=>(⟨h.1,h.2.out⟩:e=.returned (.bool t)∧∃ m,w'=W.drewN m))
         clear H ht h0 hle hz
         go_big_quiet (first |(go_at_call 93;exact Calls.quiet_of (HN.out _)) |(go_at_call 94;exact Calls.quiet_of (HCN.out _)) |(go_at_call 79;exact Calls.quiet_of (HI.out _)))
         go_wp2
         go_meet
         case rel=>exact ⟨_,_,rfl,H',⟨by have:=HK1.out;omega⟩,⟨jm BK154.out _⟩,⟨by rw [HGX.out];exact jm BK157.out _⟩,⟨je HB.out _⟩⟩
     case rest =>
      clear HC5
      try clear c1
      try clear c2
      try clear p2
      try clear c3
      try clear q3
      try clear p6
      try clear c11
      try clear c12
      try clear c13
      try clear c21
      try clear c32
      try clear c32b0
      try clear q39
      try clear q39
      obtain ⟨kq,x51_4,rfl,HA,HJ4,BK154,BK157,HB⟩:=hcut
      cases kq with
      | zero=>exact absurd HA.out (by simp [jy.j1])
      | succ kj4 =>
       have H:=HA.out
       clear HA
       simp only [jy.j1] at H
       by_cases c42:x51_4=true
       ·subst c42
        have H1:(some false)=some r:=by rw [if_pos rfl] at H;exact H
        clear H
        have H:=H1
        clear H1
        obtain rfl:=Option.some.inj H
        go_wp2
        go_ret
        exact ⟨Y1,Y63⟩
       ·replace c42:=Bool.eq_false_iff.mpr c42
        subst c42
        have H1:(jy.l0 kj4 (wrap64 (x3_1+1)) l0_0)=some r:=by rw [if_neg (show ¬ (false=true) by decide)] at H;exact H
        clear H
        have H:=H1
        clear H1
        have H':=am H
        clear H
        go_wp2
        go_roundg kj4
        case measure=>have:=HK1.out;have:=HJ4.out;omega
        case rel=>exact ⟨(wrap64 (x3_1+1)),(sq),H',⟨by have:=HK1.out;have:=HJ4.out;omega⟩,⟨kq BK154.out⟩,⟨Y63⟩⟩
    ·rw [if_neg c4] at H
     exact absurd H (by simp)
   ·rw [if_neg c3] at H
    have c3b0:decide (x3_1<(l0_0.length:Int))=false:=dzF c3
    clear c3
    replace H:=bzS H
    obtain ⟨t155,A430,H⟩:=H
    replace H:(some t155)=some r:=H
    have A43:=am A430
    clear A430
    obtain rfl:=Option.some.inj H
    have hcz44_0:=bc0 BK154.out
    have hfz44_0:=ja BK154.out 0
    go_wp2_with (first |((with_reducible refine jB (f:=79) rfl ?_);refine gL (some 55) Tryd.func79 #[.int .i64 (l0_0.length:Int), .int .i64 1, .int .i64 8] ?_;(with_reducible refine (jF.calls (l0_0.length:Int) 1 8 t155 _ A43.out).mono ?_);rintro e w' ⟨rfl,⟨nd,rfl⟩⟩;refine ⟨_,rfl,?_⟩))
    go_ret
    exact ⟨Y1,Y62⟩
end Go.Proofs.YteibechlncphnaaDoor.P
end
