/- One part of the proofs on this program: functions of the program as plain functions, that the code comes to them, and facts on them. -/
import Derived.LoopIn
import Derived.LoopNIn
import Derived.OwnWalkIn
import Derived.RangeFuncBound
import Derived.RangeFuncBox
import Derived.RangeFuncCalls
import Derived.RangeFuncLeaves
import Derived.RangeFuncNested
import Derived.Shelf.Abstract
import Derived.Shelf.RegionOpen
import Derived.Shelf.Sort.Plain
import Derived.Sort.CutIn
import Derived.TacticsInMore
import Derived.WalkKit
import Derived.Test.YtlhfcmbkjddgiaaYAll1
import Derived.Test.YtlhfcmbkjddgiaaYAll2
import Derived.Test.YtlhfcmbkjddgiaaYWAuto
section
namespace Go.Proofs.Ytlhfcmbkjddgiaa.P
open Go.RowKit Go.Proofs.YtlhfcmbkjddgiaaW.PrintWords Go.Proofs.YtlhfcmbkjddgiaaW.PrintLast Go.Proofs.YtlhfcmbkjddgiaaW.PrintMore
attribute [local go_sem] jha jfa jqa jpa jW jV jga jea jl
set_option linter.unusedVariables false
set_option linter.unusedSimpArgs false
section
open Go.Shelf
attribute [local go_sem] Oper.semAt_some
theorem xwrM {x : Int} (h : -9223372036854775808 ≤ x ∧ x ≤ 9223372036854775807) : wrap64 x = x := by unfold wrap64; omega
def uptoM {α : Type} (f : Nat → α) (k : Nat) : List α := (List.range k).map f
theorem uptoM_succ {α : Type} (f : Nat → α) (k : Nat) : uptoM f (k + 1) = uptoM f k ++ [f k] := by simp [uptoM, List.range_succ]
theorem uptoM_length {α : Type} (f : Nat → α) (k : Nat) : (uptoM f k).length = k := by simp [uptoM]
set_option maxRecDepth 100000 in
set_option maxHeartbeats 4000000 in
theorem backM1_in {α : Type} (F : Fence) (n : Nat) (h8 : F.fn 105) (hro : F.round = none) (hn : 1 ≤ n) (l Bs : Nat) (A : Option Addr) (cap : Nat) (xs : List S44) (hm : xs.length ≤ 9223372036854775807) (RD : World → Prop) (Kp : World → World → Prop) (hRD : ∀ W, RD W → Kd.C k44 W A xs.length xs ∧ Boxed W Bs 33 (.slice A xs.length cap)) (hKp : ∀ W W', Kp W W' → RD W → RD W')
  (encs:α→Array Value) (g:Nat→α) (hg:∀ j:Nat,j<xs.length→encs (g j)=#[.int .i64 ((xs.length:Int) - 1 - j), .agg #[.int .i64 (jZ xs ((xs.length:Int) - 1 - j)).f0, .int .i64 (jZ xs ((xs.length:Int) - 1 - j)).f1, .int .i64 (jZ xs ((xs.length:Int) - 1 - j)).f2]])
  (J Jx:List α→World→Prop)
  (hY:∀ pre x W,J pre W→pre.length<xs.length→YieldAt F (n - 1) Try.prog l (encs x) W fun e W' =>
   (e=.returned (.bool true)∧J (pre ++ [x]) W'∧Kp W W')∨(e=.returned (.bool false)∧Jx (pre ++ [x]) W'))
  (W:World) (hW:RD W) (h0:J [] W) :
  CallsIn F n Try.prog 105 #[.func (.yield l) #[] #[], .pointer (some ⟨Bs,0,none⟩)] W fun e W'=>(∃ v,e=.returned v) ∧
   ((∃ ys,ys=uptoM g xs.length∧J ys W')∨(∃ pre,(∃ k,k≤xs.length∧pre=uptoM g k)∧Jx pre W')):=by
 have hu:=Try.underlying44
 have cBs:=(hRD W hW).2.cell
 refine callsIn_of_wp Try.func105 rfl h8 ?_ hro
 simp only [Try.ntmps105,List.size_toArray,List.length_cons,List.length_nil,Nat.reduceAdd,Nat.reduceSub,Array.replicate_succ,Array.replicate_zero,List.push_toArray,List.append_toArray,List.nil_append,List.cons_append]
 gi_wp2
 have hwr:wrap64 ((xs.length:Int) - 1)=(xs.length:Int) - 1:=xwrM (by omega)
 gi_loopw [3] (fun i wr=>∃ k:Nat,k≤xs.length∧i=.int .i64 ((xs.length:Int) - 1 - k)∧J (uptoM g k) wr∧RD wr)
  (fun i _=>(intOf i+1).toNat)
 case atStart=>exact ⟨0,Nat.zero_le _,by simp,h0,hW⟩
 case round =>
  obtain ⟨k,hk,rfl,hJs,hnx⟩:=hrel
  have cB:=(hRD _ hnx).2.cell
  by_cases hlt:k<xs.length
  ·obtain ⟨fn,tmps,assign,body,hy,hR⟩:=hY _ (g k) wr hJs (by rw [uptoM_length];exact hlt)
   rw [hg k hlt] at hy
   obtain ⟨j,hj⟩:∃ j:Nat,(xs.length:Int) - 1 - k=(j:Int):=⟨xs.length - 1 - k,by omega⟩
   have p0:0≤(j:Int):=by omega
   have p1:(j:Int)<(xs.length:Int):=by omega
   have p2:j<xs.length:=by omega
   rw [hj] at hy ⊢
   obtain ⟨ad,rfl,x0,x1,x2⟩:=at_T44 (hRD _ hnx).1 (j:Int) p0 p1
   rw [Int.toNat_natCast] at x0 x1 x2
   gi_wp2
   refine hR.mono ?_
   rintro e W3 (⟨rfl,hJ3,hk3⟩ | ⟨rfl,hJx3⟩)
   ·have hb3:=hKp _ _ hk3 hnx
    have c3:=(hRD _ hb3).2.cell
    gi_wp2
    go_roundw
    case rel=>exact ⟨k+1,by omega,by congr 1;omega,by rw [uptoM_succ];exact hJ3,hb3⟩
    case measure=>simp [intOf]
   ·gi_wp2
    refine bodyPost_ret (results_none rfl _ _ _) rfl ?_
    exact ⟨⟨_,rfl⟩, .inr ⟨_,⟨k+1,by omega,(uptoM_succ _ _).symm⟩,hJx3⟩⟩
  ·obtain rfl:k=xs.length:=by omega
   have q2:decide ((xs.length:Int) - 1 - xs.length≥0)=false:=dzF (by omega)
   gi_wp2
   go_end0
   exact ⟨⟨_,rfl⟩, .inl ⟨_,rfl,hJs⟩⟩
theorem KeepsFrom.of_belowM {W W' : World} (h : Below W.heap.size W W') (B : Nat) : KeepsFrom B W W' := ⟨h.size, fun k o _ hk _ => (h.block k (Array.getElem?_eq_some_iff.1 hk).1).trans hk⟩
theorem Boxed.liesM {W W' : World} {B : Nat} {t : TypeId} {v : Value} (h : Boxed W B t v) (hb : Below W.heap.size W W') : Boxed W' B t v := (hb.block B h.lt).trans h
set_option maxHeartbeats 1000000 in
theorem backM_in (F : Fence) (n : Nat) (h6 : F.fn 73) (hro : F.round = none) (a : Option Addr) (len cap : Nat) (w : World) :
  CallsIn F n Try.prog 73 #[.slice a len cap] w fun e w'=>e=.returned (.func (.func 105) #[] #[.pointer (some ⟨w.heap.size,0,none⟩)])∧w'=w.alloc (.cells #[.slice a len cap] 33):=by
 refine callsIn_of_wp Try.func73 rfl h6 ?_ hro
 simp only [Try.ntmps73,List.size_toArray,List.length_cons,List.length_nil,Nat.reduceAdd,Nat.reduceSub,Array.replicate_succ,Array.replicate_zero,List.push_toArray,List.append_toArray,List.nil_append,List.cons_append]
 gi_wp2
 go_ret
 exact ⟨rfl,rfl⟩
def jAc (o : Oper) : Bool := match o.op with | .defer _ => false | _ => true
theorem noDeferM_spec {o : Oper} (h : jAc o = true) : ∀ c, o.op ≠ .defer c := fun c hc => by simp [jAc, hc] at h
theorem opInM_round {F : Fence} {l n : Nat} {P : Program} {o : Oper} {a : Act} {w : World} {K : Act → World → Prop} {Q : Exit → Act → World → Prop} (hro : F.round = none) (hd : jAc o = true) (h : o.wpIn F n P a w K Q) : o.wpIn (F.inRound l) n P a w K Q := by
 unfold Oper.wpIn at *
 refine ⟨h.1,?_⟩
 have h2:=h.2
 rw [hro,Oper.semAt_none] at h2
 rw [Fence.inRound_round,Oper.semAt_some l _ _ (noDeferM_spec hd)]
 exact h2
theorem opsInM_round {F : Fence} {l n : Nat} {P : Program} {ops : Array Oper} {K K' : Act → World → Prop} {Q : Exit → Act → World → Prop} (hro : F.round = none) (hd : ops.all jAc = true) {i : Nat} {a : Act} {w : World} (hK : ∀ a w, K a w → K' a w) (h : wpOpIn F n P ops Q i K a w) : wpOpIn (F.inRound l) n P ops Q i K' a w := by
 have h:=wpOpIn_mono hK h
 unfold wpOpIn at h ⊢
 cases ho:ops[i]? with
 | none=>simp only [ho] at h ⊢;exact h
 | some o =>
  simp only [ho] at h ⊢
  have hn:jAc o=true:=by
   obtain ⟨hi,e⟩:=Array.getElem?_eq_some_iff.1 ho
   have:=Array.all_eq_true.1 hd i hi
   rw [e] at this;exact this
  split
  ·rename_i hw;rw [if_pos hw] at h;exact opInM_round hro hn h
  ·rename_i hw;rw [if_neg hw] at h;exact h
theorem wpAnyInM_round {F : Fence} {l n : Nat} {P : Program} {md : Region.Mode} {ops : Array Oper} {Q : Exit → Act → World → Prop} (hro : F.round = none) (hd : ops.all jAc = true) : ∀ (fuel : Nat) (listed : Array Bool) (a : Act) (w : World), wpAnyIn F n P md ops Q fuel listed a w → wpAnyIn (F.inRound l) n P md ops Q fuel listed a w
 | 0,_,_,_,h=>h
 | fuel+1,listed,a,w,h=>⟨h.1,fun i hi=>opsInM_round hro hd (fun a w hh=>wpAnyInM_round hro hd fuel _ a w hh) (h.2 i hi)⟩
theorem opM_wide {n : Nat} {P : Program} {o : Oper} {a : Act} {w : World} {K K' : Act → World → Prop} {Q : Exit → Act → World → Prop} (hK : ∀ a w, K a w → K' a w) (h : o.wp P a w K Q) : o.wpIn Fence.wide n P a w K' Q := by
 unfold Oper.wp at h
 unfold Oper.wpIn
 refine ⟨fun _ _=>trivial,?_⟩
 rw [show Fence.wide.round=none from rfl,Oper.semAt_none]
 generalize (execOp a.eval o).run P w=r at h ⊢
 have hd:Fence.wide.depth.isSome=true→1≤n:=fun e=>by simp [Fence.wide] at e
 cases r with
 | ok y w' =>
  cases y <;> simp only [Oper.upon,Oper.uponIn] at h ⊢ <;>
   first
    | exact hK _ _ h
    | exact ⟨hd,callsIn_wide.2 (h.mono fun e w'' he=>by cases e <;> first | exact hK _ _ he | exact he)⟩
    | exact ⟨hd,fun c cs _=>let ⟨v,w'',r,s⟩:=h c cs;⟨v,w'',hK _ _ r,stepsIn_wide.2 s⟩⟩
    | exact h.elim
 | halt y w'=>cases y <;> simp only [Oper.upon,Oper.uponIn] at h ⊢ <;> first | exact h | exact h.elim
theorem jwc {n : Nat} {P : Program} {md : Region.Mode} {ops : Array Oper} {Q : Exit → Act → World → Prop} (hL : ¬ LetsOut Q) : ∀ (fuel : Nat) (listed : Array Bool) (a : Act) (w : World), wpAny P md ops Q fuel listed a w → wpAnyIn Fence.wide n P md ops Q fuel listed a w
 | 0,_,_,_,h=>h
 | fuel+1,listed,a,w,h=>⟨h.1,fun i hi=>by
  have h2:=h.2 i hi
  unfold wpOp at h2
  unfold wpOpIn
  cases ho:ops[i]? with
  | none=>simp only [ho] at h2 ⊢;exact jwc hL fuel _ a w h2
  | some o =>
   simp only [ho] at h2 ⊢
   split
   ·rename_i hw
    rw [if_pos hw] at h2
    rcases h2 with h2 | ⟨_,h2⟩
    ·exact opM_wide (fun a w hh=>jwc hL fuel _ a w hh) h2
    ·exact absurd h2 hL
   ·rename_i hw
    rw [if_neg hw] at h2
    exact ⟨fun _ _=>trivial,jwc hL fuel _ _ w h2⟩⟩
theorem jZb {l n : Nat} {P : Program} {id : Nat} {ops : Array Oper} {Q : Exit → Act → World → Prop} {a : Act} {w : World} (S : World → Prop) (hm : P.follows .mixedOrders = true) (hd : ops.all jAc = true) (hL : ¬ LetsOut Q)
  (h:wpAnyH P .any ops Q S ops.size (Array.replicate ops.size false) a w.drew):(Code.region id ops true).wpIn (Fence.wide.inRound l) n P Q a w :=
 wpIn_region_any hm (wpAnyInM_round (F:=Fence.wide) (l:=l) rfl hd _ _ _ _ (jwc hL _ _ _ _ (wpAny_of_held _ _ _ _ h)))
def gH (n : Nat) (H : List S90) : Prop := ∀ i : Nat, i < H.length → -1 ≤ (jo H (i : Int)).f3 ∧ (jo H (i : Int)).f3 < (i : Int) ∧ 0 ≤ (jo H (i : Int)).f0 ∧ (jo H (i : Int)).f0 < (n : Int)
theorem gH_nil (n : Nat) : gH n [] := fun i hi => absurd hi (by simp)
theorem mrd_app {H : List S90} {x : S90} {i : Nat} (h : i < H.length) : jo (H ++ [x]) (i : Int) = jo H (i : Int) := by
 simp [jo,List.getD_eq_getElem?_getD,List.getElem?_append_left h]
theorem mrd_new (H : List S90) (x : S90) : jo (H ++ [x]) (H.length : Int) = x := by simp [jo, List.getD_eq_getElem?_getD]
theorem gH_app {n : Nat} {H : List S90} (h : gH n H) {x : S90} (h0 : -1 ≤ x.f3) (h1 : x.f3 < (H.length : Int)) (h2 : 0 ≤ x.f0) (h3 : x.f0 < (n : Int)) : gH n (H ++ [x]) := fun i hi => by
 by_cases e:i<H.length
 ·rw [mrd_app e];exact h i e
 ·obtain rfl:i=H.length:=by simp at hi;omega
  rw [mrd_new];exact ⟨h0,h1,h2,h3⟩
theorem mcon_no {l : List Int} {x : Int} (hl : l.length ≤ 2000000000) (hx : ∀ y ∈ l, x ≠ y) {k : Nat} (hk : l.length + 1 ≤ k) : jS.f k l x = some false := by
 have go:∀ (n i k:Nat),n+i=l.length→n+1≤k→jC.l0 k l x (l.length:Int) (i:Int)=some (-1):=by
  intro n
  induction n with
  | zero =>
   intro i k h hk
   obtain ⟨q,rfl⟩:∃ q,k=q+1:=⟨k - 1,by omega⟩
   rw [jC.l0,if_neg (by omega)]
  | succ n ih =>
   intro i k h hk
   obtain ⟨q,rfl⟩:∃ q,k=q+1:=⟨k - 1,by omega⟩
   have hi:i<l.length:=by omega
   have hr:rd l (i:Int)=l[i]:=by simp [rd,List.getD_eq_getElem?_getD,hi]
   rw [jC.l0,if_pos (by omega),if_pos (by omega),if_pos (by omega),hr,if_neg (hx _ (List.getElem_mem hi)),show wrap64 ((i:Int)+1)=((i+1:Nat):Int) by unfold wrap64;omega]
   exact ih (i+1) q (by omega) (by omega)
 unfold jS.f jC.f
 have:=go l.length 0 k (by omega) (by omega)
 rw [show ((0:Nat):Int)=0 from rfl] at this
 rw [this]
 rfl
theorem mwalk_ok {n : Nat} {H : List S90} (hg : gH n H) (hl : H.length ≤ 1000000000) : ∀ (m : Nat) (f : Int) (acc : List Int) (k : Nat), -1 ≤ f → f < (m : Int) → m ≤ H.length → (∀ a ∈ acc, f < a) → acc.length + m ≤ H.length → acc.length + 2 * m + 3 ≤ k →
  ∃ L,jSb (ctxF H) k f acc=some L∧L.length≤acc.length+m∧∀ x ∈ L,x ∈ acc∨(0≤x∧x≤f)
 | 0,f,acc,k,h0,h1,h2,h3,h4,h5=>by
  obtain ⟨q,rfl⟩:∃ q,k=q+1:=⟨k - 1,by omega⟩
  refine ⟨acc,?_,by omega,fun x hx=>.inl hx⟩
  unfold jSb
  rw [if_neg (by omega)]
 | m+1,f,acc,k,h0,h1,h2,h3,h4,h5=>by
  obtain ⟨q,rfl⟩:∃ q,k=q+1:=⟨k - 1,by omega⟩
  by_cases hf:f≥0
  ·obtain ⟨i,rfl⟩:∃ i:Nat,f=(i:Int):=⟨f.toNat,by omega⟩
   obtain ⟨g0,g1,_,_⟩:=hg i (by omega)
   have e1:ctxF H (i:Int)=some (jo H (i:Int)).f3:=by unfold ctxF;rw [if_pos (by omega),if_pos (by omega)]
   obtain ⟨L,e2,e3,e4⟩:=mwalk_ok hg hl m (jo H (i:Int)).f3 (acc ++ [(i:Int)]) q g0 (by omega) (by omega) (fun a ha=>by
    rcases List.mem_append.1 ha with ha | ha
    ·have:=h3 a ha;omega
    ·obtain rfl:=List.mem_singleton.1 ha;exact g1) (by simp;omega) (by simp;omega)
   refine ⟨L,?_,by simp at e3;omega,fun x hx=>?_⟩
   ·rw [jSb,if_pos hf,mcon_no (by omega) (fun y hy=>by have:=h3 y hy;omega) (by omega)]
    simp only [Option.bind_some,Bool.false_eq_true,if_false]
    rw [if_pos (by omega),e1]
    exact e2
   ·rcases e4 x hx with h | ⟨h,h'⟩
    ·rcases List.mem_append.1 h with h | h
     ·exact .inl h
     ·obtain rfl:=List.mem_singleton.1 h;exact .inr ⟨by omega,by omega⟩
    ·exact .inr ⟨h,by omega⟩
  ·refine ⟨acc,?_,by omega,fun x hx=>.inl hx⟩
   rw [jSb,if_neg hf]
theorem mR_good {n k : Nat} {H : List S90} {cl cd h : Int} (hg : gH n H) (hl : H.length ≤ 1000000) (hk : 2 * H.length + 10 ≤ k) (h0 : -1 ≤ h) (h1 : h < (H.length : Int)) (h2 : 0 ≤ cl) (h3 : cl < (n : Int)) : mR k H cl cd h = some (H ++ [⟨cl, cd, -1, h, false⟩]) := by
 unfold mR
 rw [if_pos (by omega)]
 by_cases hh:0≤h
 ·rw [if_pos hh]
  have hg1:gH n (H ++ [(⟨cl,cd, -1, -1,false⟩:S90)]):=gH_app hg (show (-1:Int)≤-1 by omega) (show (-1:Int)<(H.length:Int) by omega) h2 h3
  obtain ⟨L,e1,e2,e3⟩:=mwalk_ok hg1 (by simp;omega) H.length h [] k h0 h1 (by simp) (by simp) (by simp) (by simp;omega)
  unfold jCa.f
  rw [e1]
  simp only [Option.bind_some]
  rw [if_pos]
  simp only [Bool.and_eq_true,List.all_eq_true,decide_eq_true_eq]
  refine ⟨by simp at e2;omega,by omega,fun x hx=>?_⟩
  rcases e3 x hx with h | ⟨a,b⟩
  ·simp at h
  ·obtain ⟨i,rfl⟩:∃ i:Nat,x=(i:Int):=⟨x.toNat,by omega⟩
   have:=hg1 i (by simp;omega)
   exact ⟨a,by omega,by omega⟩
 ·rw [if_neg hh,show h = -1 by omega]
abbrev MSt := List Int × List S90 × Int
def isT (k : Nat) (t : List S106) (a b : Int) : Bool := (jQa.f k t a b).getD false
def stT (q : Int → Int → Bool) (s : MSt) (x : S44) : MSt :=
 if x.f0=0 then (s.1 ++ [x.f1],s.2.1,s.2.2)
 else if x.f0=1 then (if 0≤s.2.2 then s.1 ++ [x.f1] else s.1,s.2.1,s.2.2)
 else if x.f0=2 then (s.1,s.2.1,if (decide (0≤s.2.2) && q (jo s.2.1 s.2.2).f0 x.f1)=true then -1 else s.2.2)
 else if x.f0=3 then (s.1,s.2.1 ++ [⟨x.f1,x.f2, -1,s.2.2,false⟩],(s.2.1.length:Int))
 else s
def okX (k : Nat) (t : List S106) (x : S44) : Bool :=
 if x.f0=2 then (List.range t.length).all fun a=>(jQa.f k t (a:Int) x.f1).isSome
 else if x.f0=3 then decide (0≤x.f1) && decide (x.f1<(t.length:Int)) else true
structure gS (n m : Nat) (s : MSt) : Prop where
 g:gH n s.2.1
 lo:-1≤s.2.2
 hi:s.2.2<(s.2.1.length:Int)
 ll:s.1.length≤m
 lh:s.2.1.length≤m+1
theorem stT_good {k : Nat} {t : List S106} {m : Nat} {s : MSt} {x : S44} (h : gS t.length m s) (hx : okX k t x = true) : gS t.length (m + 1) (stT (isT k t) s x) := by
 obtain ⟨h1,h2,h3,h4,h5⟩:=h
 unfold stT
 by_cases k0:x.f0=0
 ·rw [if_pos k0];exact ⟨h1,h2,h3,by simp;omega,by simp;omega⟩
 ·rw [if_neg k0]
  by_cases k1:x.f0=1
  ·rw [if_pos k1]
   refine ⟨h1,h2,h3,?_,by simp;omega⟩
   show (if 0≤s.2.2 then s.1 ++ [x.f1] else s.1).length≤m+1
   split
   ·rw [List.length_append,List.length_singleton];omega
   ·omega
  ·rw [if_neg k1]
   by_cases k2:x.f0=2
   ·rw [if_pos k2]
    refine ⟨h1,?_,?_,by simp;omega,by simp;omega⟩
    ·show -1≤(if _ then (-1:Int) else s.2.2)
     split <;> omega
    ·show (if _ then (-1:Int) else s.2.2)<(s.2.1.length:Int)
     split <;> omega
   ·rw [if_neg k2]
    by_cases k3:x.f0=3
    ·rw [if_pos k3]
     unfold okX at hx
     rw [if_neg k2,if_pos k3] at hx
     simp only [Bool.and_eq_true,decide_eq_true_eq] at hx
     refine ⟨gH_app h1 h2 h3 hx.1 hx.2,?_,?_,by simp;omega,by simp;omega⟩
     ·show -1≤(s.2.1.length:Int);omega
     ·show (s.2.1.length:Int)<((s.2.1 ++ [_]).length:Int);simp;omega
    ·rw [if_neg k3];exact ⟨h1,h2,h3,by omega,by omega⟩
def st0 (a : Bool) (b c : Int) : MSt := if a = true then ([], [⟨b, c, -1, -1, false⟩], 0) else ([], [], -1)
theorem st0_good {n : Nat} {a : Bool} {b c : Int} (h : a = true → 0 ≤ b ∧ b < (n : Int)) : gS n 0 (st0 a b c) := by
 unfold st0
 cases a with
 | true =>
  rw [if_pos rfl]
  obtain ⟨h1,h2⟩:=h rfl
  exact ⟨gH_app (gH_nil n) (show (-1:Int)≤-1 by omega) (show (-1:Int)<((0:Nat):Int) by omega) h1 h2,by show (-1:Int)≤0;omega,by show (0:Int)<((1:Nat):Int);omega,Nat.le_refl _,Nat.le_refl _⟩
 | false=>exact ⟨gH_nil n,by show (-1:Int)≤-1;omega,by show (-1:Int)<((0:Nat):Int);omega,Nat.le_refl _,Nat.zero_le _⟩
def mcG (k : Nat) (t : List S106) (l : List S44) (a : Bool) (b : Int) : Bool := decide (l.length ≤ 100000) && (decide (2 * l.length + 20 ≤ k) && ((!a || (decide (0 ≤ b) && decide (b < (t.length : Int)))) && l.all (okX k t)))
def jWa.f (k : Nat) (t : List S106) (l : List S44) (a : Bool) (b c : Int) : Option MSt := if mcG k t l a b = true then some (l.reverse.foldl (stT (isT k t)) (st0 a b c)) else none
theorem isT_mono {k : Nat} {t : List S106} {a b : Int} (h : (jQa.f k t a b).isSome = true) : isT (k + 1) t a b = isT k t a b ∧ (jQa.f (k + 1) t a b).isSome = true := by
 obtain ⟨r,hr⟩:=Option.isSome_iff_exists.1 h
 have h2:=jQa.mono t a b k r hr
 unfold isT
 rw [hr,h2]
 exact ⟨rfl,rfl⟩
theorem stT_mono {k : Nat} {t : List S106} {m : Nat} {s : MSt} {x : S44} (h : gS t.length m s) (hx : okX k t x = true) : stT (isT (k + 1) t) s x = stT (isT k t) s x := by
 unfold stT
 by_cases k2:x.f0=2
 ·have e:(decide (0≤s.2.2) && isT (k+1) t (jo s.2.1 s.2.2).f0 x.f1)=(decide (0≤s.2.2) && isT k t (jo s.2.1 s.2.2).f0 x.f1):=by
   by_cases h0:0≤s.2.2
   ·obtain ⟨i,hi⟩:∃ i:Nat,s.2.2=(i:Int):=⟨s.2.2.toNat,by omega⟩
    have h3:=h.hi
    obtain ⟨_,_,g2,g3⟩:=h.g i (by omega)
    unfold okX at hx
    rw [if_pos k2] at hx
    simp only [List.all_eq_true,List.mem_range] at hx
    have:=hx ((jo s.2.1 (i:Int)).f0).toNat (by omega)
    rw [show (((jo s.2.1 (i:Int)).f0).toNat:Int)=(jo s.2.1 (i:Int)).f0 by omega] at this
    rw [hi,(isT_mono this).1]
   ·rw [dzF h0,Bool.false_and,Bool.false_and]
  rw [e]
 ·simp only [if_neg k2]
theorem foldl_mono {k : Nat} {t : List S106} : ∀ (l : List S44) (m : Nat) (s : MSt), gS t.length m s → (∀ x ∈ l, okX k t x = true) → l.foldl (stT (isT (k + 1) t)) s = l.foldl (stT (isT k t)) s ∧ gS t.length (m + l.length) (l.foldl (stT (isT k t)) s)
 | [],m,s,h,_=>⟨rfl,h⟩
 | x :: l,m,s,h,hx=>by
  obtain ⟨h1,h2⟩:=foldl_mono l (m+1) _ (stT_good h (hx x List.mem_cons_self)) (fun y hy=>hx y (List.mem_cons_of_mem _ hy))
  rw [List.foldl_cons,List.foldl_cons,stT_mono h (hx x List.mem_cons_self),List.length_cons,show m+(l.length+1)=m+1+l.length by omega]
  exact ⟨h1,h2⟩
theorem mcG_spec {k : Nat} {t : List S106} {l : List S44} {a : Bool} {b : Int} (h : mcG k t l a b = true) : l.length ≤ 100000 ∧ 2 * l.length + 20 ≤ k ∧ (a = true → 0 ≤ b ∧ b < (t.length : Int)) ∧ ∀ x ∈ l, okX k t x = true := by
 unfold mcG at h
 simp only [Bool.and_eq_true,decide_eq_true_eq,List.all_eq_true,Bool.or_eq_true,Bool.not_eq_true'] at h
 refine ⟨h.1,h.2.1,fun ha=>?_,h.2.2.2⟩
 rcases h.2.2.1 with e | e
 ·rw [ha] at e;cases e
 ·exact e
theorem mach_own {β : Type} (n m Bf : Nat) (ct cp : Value) (fst : Int) (g : β → MSt) : Own (fun s W => ∃ vl vh, W.heap[m]? = some (.cells #[ct, cp, vl, vh, .int .i64 fst] 110 (0, 0)) ∧ Kd.R (Kd.int .i64) 3 W n (fun k => k ≠ Bf) vl (g s).1 ∧ Kd.R k90 90 W n (fun _ => True) vh (g s).2.1) := by
 rintro s W W' row ⟨vl,vh,h1,h2,h3⟩ hg hr
 have hne:∀ (q:Nat) (cells:Array Value) (u:TypeId),W.heap[q]?=some (.cells cells u (0,0))→some q≠row:=fun q cells u hq e=>by
  obtain ⟨o,ho,hc⟩:=hr q e.symm
  rw [hq] at ho;cases ho;cases hc
 refine ⟨vl,vh,jla h1 hg (hne m _ _ h1),Kd.jD (Kd.R_move (Kd.jPb h2) (fun k hk=>?_)) (fun k hk=>hk.1),Kd.jD (Kd.R_move (Kd.jPb h3) (fun k hk=>?_)) (fun _ _=>trivial)⟩
 ·obtain ⟨_,_,hk,q,hq,cells,hc⟩:=hk
  exact hg.block k hk (hne k _ _ hc)
 ·obtain ⟨_,_,hk,q,hq,cells,hc⟩:=hk
  exact hg.block k hk (hne k _ _ hc)
theorem kept_own {β : Type} {w : World} {S : Nat → Prop} {B : Nat} (hB : w.heap.size ≤ B) : OwnFrom B (fun (_ : β) W => Kept w W S) := fun _ W W' row h hg hr =>
 Kept.jOb hg h (fun k e=>.inr (Nat.le_trans hB (hr k e).1))
def mIV (w : World) (m Bf Bs : Nat) (sl : Value) (At : Option Addr) (ct : Nat) (t : List S106) (cp : Value) (fst : Int) (W : World) (s : MSt) : Prop :=
 ((((Boxed W w.heap.size 71 (.pointer (some ⟨m,0,none⟩))∧Boxed W Bf 3 (.int .i64 s.2.2))∧Boxed W Bs 33 sl)∧(∃ vl vh,W.heap[m]?=some (.cells #[.slice At t.length ct,cp,vl,vh, .int .i64 fst] 110 (0,0))∧Kd.R (Kd.int .i64) 3 W w.heap.size (fun k=>k≠Bf) vl s.1∧Kd.R k90 90 W w.heap.size (fun _=>True) vh s.2.1))∧(Kept w W (fun k=>k=m)∧Below 0 w W))
section
variable {w : World} {m Bf Bs : Nat} {sl : Value} {At : Option Addr} {ct : Nat} {t : List S106} {cp : Value} {fst : Int} {V w1 : World} {s : MSt}
theorem jfc (h : mIV w m Bf Bs sl At ct t cp fst V s) (hb : Below V.heap.size V w1) : mIV w m Bf Bs sl At ct t cp fst w1 s := by
 obtain ⟨⟨⟨⟨h0,hF⟩,hS⟩,vl,vh,hm,hL,hH⟩,hK⟩:=h
 exact ⟨⟨⟨⟨Boxed.liesM h0 hb,Boxed.liesM hF hb⟩,Boxed.liesM hS hb⟩,vl,vh,je hm hb,Kd.jM hL hb,Kd.jM hH hb⟩,hK.1.below hb,hK.2.trans (hb.mono (Nat.zero_le _))⟩
theorem mBoxed_set {W : World} {B q j : Nat} {T : TypeId} {v u : Value} (h : Boxed W B T v) (hne : B ≠ q) : Boxed (W.setCell ⟨q, j, none⟩ u) B T v := (Below.heap_setCell W ⟨q, j, none⟩ u B hne).trans h
theorem mIV_app (hn : w.heap.size ≤ Bf) (h0 : Boxed V w.heap.size 71 (.pointer (some ⟨m, 0, none⟩))) (hF : Boxed V Bf 3 (.int .i64 s.2.2)) (hS : Boxed V Bs 33 sl) {vl vh v1 : Value} {x : Int} (hm : V.heap[m]? = some (.cells #[.slice At t.length ct, cp, vl, vh, .int .i64 fst] 110 (0, 0))) (hL : Kd.R (Kd.int .i64) 3 V w.heap.size (fun k => k ≠ Bf) vl s.1) (hH : Kd.R k90 90 V w.heap.size (fun _ => True) vh s.2.1) (hK : Kept w V (fun k => k = m) ∧ Below 0 w V)
  (hg:V.grownBy w1 vl.ownBlock) (ho:Kd.R (Kd.int .i64) 3 w1 w.heap.size (fun k=>k≠Bf) v1 (s.1 ++ [x])):mIV w m Bf Bs sl At ct t cp fst (w1.setCell ⟨m,2,none⟩ v1) (s.1 ++ [x],s.2.1,s.2.2):=by
 have hm1:=jla hm hg (Kd.R_ne hL hm (by decide))
 have g0:=h0.kept hg (Kd.R_ne hL h0 (by decide))
 have gF:=hF.kept hg (fun e=>hL.1 Bf e.symm rfl)
 have gS:=hS.kept hg (Kd.R_ne hL hS (by decide))
 have gH:Kd.R k90 90 w1 w.heap.size (fun _=>True) vh s.2.1:=Kd.jD (Kd.R_step (Kd.jPb hH) (fun k hk hlt=>hg.block k hlt (fun e=>by
  obtain ⟨_,_,_,q,hq,cells,hc⟩:=hk
  exact Kd.R_ne hL hc (by rcases List.mem_cons.1 hq with rfl | hq;decide;cases hq) e))) (fun _ _=>trivial)
 refine ⟨⟨⟨⟨mBoxed_set g0 (blk_ne g0 hm1 (by decide)),mBoxed_set gF (blk_ne gF hm1 (by decide))⟩,mBoxed_set gS (blk_ne gS hm1 (by decide))⟩,v1,vh,jO hm1 2 _ rfl,Kd.jub ho hm1 (by decide) 2 _,Kd.jub gH hm1 (by decide) 2 _⟩,?_,(hK.2.grown hg (Nat.zero_le _) (fun _ _=>Nat.zero_le _)).setCell (Nat.zero_le _) _⟩
 refine Kept.setCell (Kept.jOb hg hK.1 (fun k e=>.inr ?_)) (.inl rfl) _
 obtain ⟨inner,hw⟩:=Kd.R_own hL
 exact jac hw k e
theorem mIV_fault (hn : w.heap.size ≤ Bf) (h : mIV w m Bf Bs sl At ct t cp fst V s) (hne : Bf ≠ Bs) (hne2 : Bf ≠ w.heap.size) (f : Int) : mIV w m Bf Bs sl At ct t cp fst (V.setCell ⟨Bf, 0, none⟩ (.int .i64 f)) (s.1, s.2.1, f) := by
 obtain ⟨⟨⟨⟨h0,hF⟩,hS⟩,vl,vh,hm,hL,hH⟩,hK⟩:=h
 refine ⟨⟨⟨⟨h0.other (fun e=>hne2 e.symm) _,hF.set _⟩,hS.other (fun e=>hne e.symm) _⟩,vl,vh,(Below.heap_setCell V ⟨Bf,0,none⟩ _ m (fun e=>blk_ne hm hF (by decide) e)).trans hm,Kd.jB hL (p:=⟨Bf,0,none⟩) (fun _ hk=>hk) _,Kd.jub hH hF (by decide) 0 _⟩,hK.1.setCell (.inr hn) _,hK.2.setCell (Nat.zero_le _) _⟩
theorem mIV_raise (hn : w.heap.size ≤ Bf) (h0 : Boxed V w.heap.size 71 (.pointer (some ⟨m, 0, none⟩))) (hF : Boxed V Bf 3 (.int .i64 s.2.2)) (hS : Boxed V Bs 33 sl) {vl vh vh' : Value} {H' : List S90} (hm : V.heap[m]? = some (.cells #[.slice At t.length ct, cp, vl, vh, .int .i64 fst] 110 (0, 0))) (hL : Kd.R (Kd.int .i64) 3 V w.heap.size (fun k => k ≠ Bf) vl s.1) (hH : Kd.R k90 90 V w.heap.size (fun _ => True) vh s.2.1) (hK : Kept w V (fun k => k = m) ∧ Below 0 w V)
  (hm1:w1.heap[m]?=some (.cells #[.slice At t.length ct,cp,vl,vh', .int .i64 fst] 110 (0,0))) (hH1:Kd.R k90 90 w1 w.heap.size (fun _=>True) vh' H') (hK1:Kept V w1 (fun k=>k=m∨some k=vh.ownBlock)) (hB1:Below 0 V w1):mIV w m Bf Bs sl At ct t cp fst w1 (s.1,H',s.2.2):=by
 have ne:∀ (q:Nat) (cells:Array Value) (T:TypeId),T≠110→T≠90→V.heap[q]?=some (.cells cells T (0,0))→¬ (q=m∨some q=vh.ownBlock):=fun q cells T n1 n2 hq e=>by
  rcases e with rfl | e
  ·rw [hm] at hq;injection hq with hq;injection hq with _ hq;exact n1 hq.symm
  ·exact Kd.R_ne hH hq (fun e=>n2 e.symm) e
 refine ⟨⟨⟨⟨jcc h0 hK1 (ne _ _ _ (by decide) (by decide) h0),jcc hF hK1 (ne _ _ _ (by decide) (by decide) hF)⟩,jcc hS hK1 (ne _ _ _ (by decide) (by decide) hS)⟩,vl,vh',hm1,?_,hH1⟩,hK.1.then_ hK1 (fun k hk=>?_),hK.2.trans hB1⟩
 ·refine Kd.jD (Kd.R_kept (Kd.jPb hL) hK1 (fun k hk=>?_)) (fun k hk=>hk.1)
  obtain ⟨_,_,_,q,hq,cells,hc⟩:=hk
  refine ne k cells q ?_ ?_ hc <;> (rcases List.mem_cons.1 hq with rfl | hq;decide;cases hq)
 ·rcases hk with hk | hk
  ·exact .inl hk
  ·obtain ⟨inner,hw⟩:=Kd.R_own hH
   exact .inr (jac hw k hk.symm)
theorem mIV_own {β : Type} (B : Nat) (hB : w.heap.size ≤ B) (g : β → MSt) : OwnFrom B (fun s W => mIV w m Bf Bs sl At ct t cp fst W (g s)) :=
 OwnFrom.and (OwnFrom.and (OwnFrom.and (OwnFrom.and (Own.from (boxed_own _ _ fun _=>_) _) (Own.from (boxed_own _ _ fun s=>Value.int .i64 (g s).2.2) _)) (Own.from (boxed_own _ _ fun _=>_) _)) (Own.from (mach_own _ _ _ _ _ _ _) _)) (OwnFrom.and (kept_own hB) (ownFrom_below (Nat.zero_le _) (Nat.zero_le _)))
end
theorem jnc {W w1 : World} {v : Value} {base : Nat} {e : TypeId} {ok : Nat → Prop} {l : List Int} (hL : Kd.R (Kd.int .i64) e W base ok v l) (hg : W.grownBy w1 v.ownBlock) : KeepsOthers W w1 := KeepsOthers.of_grownBy hg (fun j o e ho => by
 obtain ⟨inner,hw⟩:=Kd.R_own hL
 obtain ⟨cells,hc⟩:=jtc hw j e
 rw [hc] at ho;cases ho;rfl)
abbrev MEl (k : Nat) (t : List S106) := { x : Int × S44 // okX k t x.2 = true }
def mAcc {k : Nat} {t : List S106} (s0 : MSt) (pre : List (MEl k t)) : MSt := (pre.map fun x => x.1.2).foldl (stT (isT k t)) s0
theorem mAcc_snoc {k : Nat} {t : List S106} (s0 : MSt) (pre : List (MEl k t)) (x : MEl k t) : mAcc s0 (pre ++ [x]) = stT (isT k t) (mAcc s0 pre) x.1.2 := by simp [mAcc]
theorem mAcc_good {k : Nat} {t : List S106} {s0 : MSt} (h : gS t.length 0 s0) (pre : List (MEl k t)) : gS t.length pre.length (mAcc s0 pre) := by
 have:=(foldl_mono (pre.map fun x=>x.1.2) 0 s0 h (fun x hx=>by
  obtain ⟨y,_,rfl⟩:=List.mem_map.1 hx
  exact y.2)).2
 rw [List.length_map,Nat.zero_add] at this
 exact this
def mEl0 (k : Nat) (t : List S106) : MEl k t := ⟨(0, ⟨0, 0, 0⟩), rfl⟩
def mOf (k : Nat) (t : List S106) (l : List S44) (j : Nat) : MEl k t :=
 if q:okX k t (jZ l ((l.length:Int) - 1 - j))=true then ⟨((l.length:Int) - 1 - j,jZ l ((l.length:Int) - 1 - j)),q⟩ else mEl0 k t
theorem mOf_ok {k : Nat} {t : List S106} {l : List S44} (hx : ∀ x ∈ l, okX k t x = true) {j : Nat} (hj : j < l.length) : (mOf k t l j).1 = ((l.length : Int) - 1 - j, jZ l ((l.length : Int) - 1 - j)) := by
 have e1:((l.length:Int) - 1 - j).toNat=l.length - 1 - j:=by omega
 have h3:l.length - 1 - j<l.length:=by omega
 have e2:jZ l ((l.length:Int) - 1 - j)=l[l.length - 1 - j]:=by rw [jZ,e1,List.getD_eq_getElem?_getD,List.getElem?_eq_getElem h3];rfl
 have q:okX k t (jZ l ((l.length:Int) - 1 - j))=true:=by rw [e2];exact hx _ (List.getElem_mem h3)
 simp only [mOf,dif_pos q]
theorem mAcc_all {k : Nat} {t : List S106} {l : List S44} (hx : ∀ x ∈ l, okX k t x = true) (s0 : MSt) : mAcc s0 (uptoM (mOf k t l) l.length) = l.reverse.foldl (stT (isT k t)) s0 := by
 unfold mAcc
 congr 1
 apply List.ext_getElem
 ·simp [uptoM_length]
 ·intro j h1 h2
  have hj:j<l.length:=by simpa [uptoM_length] using h1
  have e1:((l.length:Int) - 1 - j).toNat=l.length - 1 - j:=by omega
  have h3:l.length - 1 - j<l.length:=by omega
  simp only [List.getElem_map,List.getElem_reverse,uptoM,List.getElem_range]
  rw [mOf_ok hx hj]
  show jZ l ((l.length:Int) - 1 - j)=_
  rw [jZ,e1,List.getD_eq_getElem?_getD,List.getElem?_eq_getElem h3];rfl
section
open Go
variable {P : Program} {md : Region.Mode} {ops : Array Oper} {Q : Exit → Act → World → Prop} {S : World → Prop}
theorem jDb {i : Nat} {oi : Oper} {v : Value} {fuel : Nat} {listed : Array Bool} {a a' : Act} {w : World} (hi : ops[i]? = some oi)
  (hs:Region.noSelect ops=true) (hf:Region.free md ops listed i=true) (hr:(Region.ready md ops listed).contains i=true)
  (hQ:∀ c a w,Q (.panic c) (a.put oi.dst v) w→Q (.panic c) a w) (hy:YieldsIf P ops S oi v a) (hS:S w) (hp:a.put oi.dst v=a')
  (h:wpAnyH P md ops Q S fuel (listed.setIfInBounds i true) a' w):wpAnyH P md ops Q S (fuel+1) listed a w :=
 wpAnyH_take hi hs hf hr hQ hy hS (by rw [hp];exact h)
end
theorem mo0 {w : World} {b : Nat} {v : Value} {l : List Value} {t : TypeId} (h : w.heap[b]? = some (.cells ⟨v :: l⟩ t (0, 0))) : w.cell? ⟨b, 0, none⟩ = some v := (jh h 0).trans rfl
theorem mo1 {w : World} {b : Nat} {v v1 : Value} {l : List Value} {t : TypeId} (h : w.heap[b]? = some (.cells ⟨v :: v1 :: l⟩ t (0, 0))) : w.cell? ⟨b, 1, none⟩ = some v1 := (jh h 1).trans rfl
theorem mo2 {w : World} {b : Nat} {v v1 v2 : Value} {l : List Value} {t : TypeId} (h : w.heap[b]? = some (.cells ⟨v :: v1 :: v2 :: l⟩ t (0, 0))) : w.cell? ⟨b, 2, none⟩ = some v2 := (jh h 2).trans rfl
theorem mo3 {w : World} {b : Nat} {v v1 v2 v3 : Value} {l : List Value} {t : TypeId} (h : w.heap[b]? = some (.cells ⟨v :: v1 :: v2 :: v3 :: l⟩ t (0, 0))) : w.cell? ⟨b, 3, none⟩ = some v3 := (jh h 3).trans rfl
set_option maxHeartbeats 8000000 in
set_option maxRecDepth 100000 in
theorem jWa.calls (k : Nat) (At : Option Addr) (ct : Nat) (t : List S106) (A1 : Option Addr) (c1 : Nat) (l1 : List S44) (a : Bool) (b c : Int) (m : Nat) (cp : Value) (fst : Int) (r : MSt) (w : World)
  (hm:w.heap[m]?=some (.cells #[.slice At t.length ct,cp, .slice none 0 0, .slice none 0 0, .int .i64 fst] 110 (0,0))) (hrT:∀ W',Kept w W' (fun k=>k=m)→Kd.C k106 W' At t.length t) (hcT:t.length≤ct) (hr1:∀ W',Kept w W' (fun k=>k=m)→Kd.C k44 W' A1 l1.length l1) (hc1:l1.length≤c1) (h:jWa.f k t l1 a b c=some r) :
  Calls Try.prog 40 #[.pointer (some ⟨m,0,none⟩), .slice A1 l1.length c1, .agg #[.bool a, .int .i64 b, .int .i64 c]] w fun e w'=>e=.returned (.int .i64 r.2.2)∧(∃ vl vh,w'.heap[m]?=some (.cells #[.slice At t.length ct,cp,vl,vh, .int .i64 fst] 110 (0,0))∧Kd.R (Kd.int .i64) 3 w' w.heap.size (fun _=>True) vl r.1∧Kd.R k90 90 w' w.heap.size (fun _=>True) vh r.2.1)∧Kept w w' (fun k=>k=m)∧Below 0 w w':=by
 unfold jWa.f at h
 by_cases hG:mcG k t l1 a b=true
 case neg=>rw [if_neg hG] at h;cases h
 rw [if_pos hG] at h
 obtain rfl:=Option.some.inj h
 clear h
 obtain ⟨hl5,hk5,hst,hok⟩:=mcG_spec hG
 clear hG
 have hs0:=st0_good (a:=a) (c:=c) hst
 have hu110:=Try.underlying110
 have hu50:=Try.underlying50
 have hu44:=Try.underlying44
 have hu90:=Try.underlying90
 have hu53:=Try.underlying53
 have hmx:Try.prog.follows .mixedOrders=true:=by kernel_rfl
 refine (callsIn_wide (n:=8)).1 ?_
 have hro:Fence.wide.round=none:=rfl
 refine callsIn_of_wp_marks Try.func40 rfl trivial ?_ hro
 simp only [Try.ntmps40,List.size_toArray,List.length_cons,List.length_nil,Nat.reduceAdd,Nat.reduceSub,Array.replicate_succ,Array.replicate_zero,List.push_toArray,List.append_toArray,List.nil_append,List.cons_append]
 have hmw:=jta hm
 have HRT:=am hrT
 have HR1:=am hr1
 have HOK:=am hok
 clear hrT hr1 hok
 obtain ⟨s0,hs00⟩:∃ s0:MSt,st0 a b c=s0:=⟨_,rfl⟩
 rw [hs00] at hs0 ⊢
 have HS0:=am hs00
 clear hs00
 gi_upto_if 11 with (fail)
 gi_cut [] from 12 (fun w'=>(((Boxed w' w.heap.size 71 (.pointer (some ⟨m,0,none⟩))∧Boxed w' (w.heap.size+1+1) 3 (.int .i64 s0.2.2))∧(∃ vl vh,w'.heap[m]?=some (.cells #[.slice At t.length ct,cp,vl,vh, .int .i64 fst] 110 (0,0))∧Kd.R (Kd.int .i64) 3 w' w.heap.size (fun k=>k≠w.heap.size+1+1) vl s0.1∧Kd.R k90 90 w' w.heap.size (fun _=>True) vh s0.2.1))∧(Kept w w' (fun k=>k=m)∧Below 0 w w')))
 case first =>
  have e0:=((show Boxed (w.alloc (.cells #[.pointer (some ⟨m,0,none⟩)] 71)) w.heap.size 71 (.pointer (some ⟨m,0,none⟩)) from Boxed.new w 71 (.pointer (some ⟨m,0,none⟩))).alloc (.cells #[.bool a, .int .i64 b, .int .i64 c] 50)).alloc (.cells #[.int .i64 (-1)] 3)
  have eF:=(show Boxed (((w.alloc (.cells #[.pointer (some ⟨m,0,none⟩)] 71)).alloc (.cells #[.bool a, .int .i64 b, .int .i64 c] 50)).alloc (.cells #[.int .i64 (-1)] 3)) (w.heap.size+1+1) 3 (.int .i64 (-1)) by have h:=Boxed.new ((w.alloc (.cells #[.pointer (some ⟨m,0,none⟩)] 71)).alloc (.cells #[.bool a, .int .i64 b, .int .i64 c] 50)) 3 (.int .i64 (-1));simpa only [World.size_alloc] using h)
  have eT:(((w.alloc (.cells #[.pointer (some ⟨m,0,none⟩)] 71)).alloc (.cells #[.bool a, .int .i64 b, .int .i64 c] 50)).alloc (.cells #[.int .i64 (-1)] 3)).heap[w.heap.size+1]?=some (.cells #[.bool a, .int .i64 b, .int .i64 c] 50 (0,0)):=ja (show ((w.alloc (.cells #[.pointer (some ⟨m,0,none⟩)] 71)).alloc (.cells #[.bool a, .int .i64 b, .int .i64 c] 50)).heap[w.heap.size+1]?=some (.cells #[.bool a, .int .i64 b, .int .i64 c] 50 (0,0)) by have h:=heap_alloc_new (w.alloc (.cells #[.pointer (some ⟨m,0,none⟩)] 71)) (.cells #[.bool a, .int .i64 b, .int .i64 c] 50);simpa only [World.size_alloc] using h) _
  have eM:=ja (ja (ja hm (.cells #[.pointer (some ⟨m,0,none⟩)] 71)) (.cells #[.bool a, .int .i64 b, .int .i64 c] 50)) (.cells #[.int .i64 (-1)] 3)
  have eK:=(((Kept.refl w (fun k=>k=m)).alloc (.cells #[.pointer (some ⟨m,0,none⟩)] 71)).alloc (.cells #[.bool a, .int .i64 b, .int .i64 c] 50)).alloc (.cells #[.int .i64 (-1)] 3)
  have eB:Below 0 w (((w.alloc (.cells #[.pointer (some ⟨m,0,none⟩)] 71)).alloc (.cells #[.bool a, .int .i64 b, .int .i64 c] 50)).alloc (.cells #[.int .i64 (-1)] 3)):=(((Below.refl 0 w).alloc (Nat.zero_le _) _).alloc (Nat.zero_le _) _).alloc (Nat.zero_le _) _
  cases a with
  | false =>
   have REL:(((Boxed (((w.alloc (.cells #[.pointer (some ⟨m,0,none⟩)] 71)).alloc (.cells #[.bool false, .int .i64 b, .int .i64 c] 50)).alloc (.cells #[.int .i64 (-1)] 3)) w.heap.size 71 (.pointer (some ⟨m,0,none⟩))∧Boxed (((w.alloc (.cells #[.pointer (some ⟨m,0,none⟩)] 71)).alloc (.cells #[.bool false, .int .i64 b, .int .i64 c] 50)).alloc (.cells #[.int .i64 (-1)] 3)) (w.heap.size+1+1) 3 (.int .i64 s0.2.2))∧(∃ vl vh,(((w.alloc (.cells #[.pointer (some ⟨m,0,none⟩)] 71)).alloc (.cells #[.bool false, .int .i64 b, .int .i64 c] 50)).alloc (.cells #[.int .i64 (-1)] 3)).heap[m]?=some (.cells #[.slice At t.length ct,cp,vl,vh, .int .i64 fst] 110 (0,0))∧Kd.R (Kd.int .i64) 3 (((w.alloc (.cells #[.pointer (some ⟨m,0,none⟩)] 71)).alloc (.cells #[.bool false, .int .i64 b, .int .i64 c] 50)).alloc (.cells #[.int .i64 (-1)] 3)) w.heap.size (fun k=>k≠w.heap.size+1+1) vl s0.1∧Kd.R k90 90 (((w.alloc (.cells #[.pointer (some ⟨m,0,none⟩)] 71)).alloc (.cells #[.bool false, .int .i64 b, .int .i64 c] 50)).alloc (.cells #[.int .i64 (-1)] 3)) w.heap.size (fun _=>True) vh s0.2.1))∧(Kept w (((w.alloc (.cells #[.pointer (some ⟨m,0,none⟩)] 71)).alloc (.cells #[.bool false, .int .i64 b, .int .i64 c] 50)).alloc (.cells #[.int .i64 (-1)] 3)) (fun k=>k=m)∧Below 0 w (((w.alloc (.cells #[.pointer (some ⟨m,0,none⟩)] 71)).alloc (.cells #[.bool false, .int .i64 b, .int .i64 c] 50)).alloc (.cells #[.int .i64 (-1)] 3)))):=by
    rw [← HS0.out];exact ⟨⟨⟨e0,eF⟩,_,_,eM,Kd.R_nil _ _ _ _ _,Kd.R_nil _ _ _ _ _⟩,eK,eB⟩
   have RL:=am REL
   clear REL e0 eF eM eK eT eB
   gi_wp2
   gi_meet
   exact RL.out
  | true =>
   have hbt:=hst rfl
   have KR:=am (fun W (hm':W.heap[m]?=some (.cells #[.slice At t.length ct,cp, .slice none 0 0, .slice none 0 0, .int .i64 fst] 110 (0,0))) (hb':w.heap.size≤W.heap.size)=>mm_raise k m (.slice At t.length ct) cp (.slice none 0 0) fst none 0 0 [] _ b c (-1) (fun _=>True) w.heap.size W rfl hm' (Kd.R_nil _ _ _ _ _) (fun _ _=>trivial) hb' (mR_good (gH_nil t.length) (by simp) (by simp;omega) (by omega) (by simp) hbt.1 hbt.2))
   have cS1:=mo1 eT
   have cS2:=mo2 eT
   have c0:=e0.cell
   have EM:=am eM
   have EF:=am eF
   have E0:=am e0
   have EK:=am eK
   have EB:=am eB
   clear eM eF e0 eK eT eB
   gi_wp2_with (refine ⟨trivial,?_⟩;gi_at_call 72;refine (callsIn_wide.2 (KR.out _ EM.out EK.out.1)).mono ?_;clear KR;rintro e w4 ⟨rfl,A4,c4,hm4,hR4,hK4,hB4⟩;have f4:=jcc EF.out hK4 (fun e=>by rcases e with e | e;(exact blk_ne EM.out EF.out (by decide) e.symm);(simp [Value.ownBlock] at e));have z4:=jcc E0.out hK4 (fun e=>by rcases e with e | e;(exact blk_ne EM.out E0.out (by decide) e.symm);(simp [Value.ownBlock] at e));have k4:=EK.out.then_ hK4 (fun k hk=>by rcases hk with hk | hk;(exact .inl hk);(simp [Value.ownBlock] at hk));have cF4:=Boxed.cell f4;have fF4:=Boxed.frozen f4;have HM4:=am hm4;have HR4:=am hR4;have HF4:=am f4;have HZ4:=am z4;have HK4:=am k4;have HB4:=am (EB.out.trans hB4);clear hm4 hR4 hK4 hB4 f4 z4 k4 c0 cS1 cS2)
   gi_meet
   rw [← HS0.out]
   exact ⟨⟨⟨Boxed.other HZ4.out (by omega) _,Boxed.set _ HF4.out⟩,_,_,(Below.heap_setCell w4 ⟨w.heap.size+1+1,0,none⟩ _ m (fun e=>blk_ne HM4.out HF4.out (by decide) e)).trans HM4.out,Kd.R_nil _ _ _ _ _,Kd.jub HR4.out HF4.out (by decide) 0 _⟩,HK4.out.setCell (.inr (by show w.heap.size≤w.heap.size+1+1;omega)) _,HB4.out.setCell (Nat.zero_le _) _⟩
 case rest =>
  clear hm HS0 hst
  gi_wp2_with (refine ⟨trivial,?_⟩;gi_at_call 73;refine (backM_in Fence.wide _ trivial hro _ _ _ _).mono ?_;rintro e w' ⟨rfl,rfl⟩)
  obtain ⟨⟨⟨z0,zF⟩,vl,vh,zM,zL,zH⟩,zK⟩:=hcut
  have eS:=Boxed.new wc 33 (.slice A1 l1.length c1)
  have hFc:w.heap.size+1+1<wc.heap.size:=zF.lt
  obtain ⟨Bs,hBs⟩:∃ Bs,wc.heap.size=Bs:=⟨_,rfl⟩
  have hI0:mIV w m (w.heap.size+1+1) Bs (.slice A1 l1.length c1) At ct t cp fst (wc.alloc (.cells #[.slice A1 l1.length c1] 33)) s0:=by rw [← hBs];exact ⟨⟨⟨⟨z0.alloc _,zF.alloc _⟩,eS⟩,vl,vh,ja zM _,Kd.jK zL _,Kd.jK zH _⟩,zK.1.alloc _,zK.2.alloc (Nat.zero_le _) _⟩
  obtain ⟨W0,hW0⟩:∃ W0,wc.alloc (.cells #[.slice A1 l1.length c1] 33)=W0:=⟨_,rfl⟩
  rw [hW0] at hI0
  rw [hBs] at hFc
  rw [hW0,hBs]
  clear z0 zF zM zL zH zK eS hW0 hBs
  have hBs2:w.heap.size+1+1<Bs:=hFc
  clear hFc
  obtain ⟨RD,hRD⟩:∃ RD:World→Prop,RD=fun W=>Boxed W Bs 33 (.slice A1 l1.length c1)∧Kept w W (fun k=>k=m):=⟨_,rfl⟩
  have hRD1:∀ W,RD W→Kd.C k44 W A1 l1.length l1∧Boxed W Bs 33 (.slice A1 l1.length c1):=fun W h=>by
   rw [hRD] at h;exact ⟨HR1.out W h.2,h.1⟩
  have hRD2:∀ W,Below W0.heap.size W0 W→RD W:=fun W h=>by
   rw [hRD];exact ⟨Boxed.liesM hI0.1.1.2 h,hI0.2.1.below h⟩
  have hRD3:∀ (W:World) (lp:Nat) (o o':Obj),W0.heap.size≤lp→W.heap[lp]?=some o→o.isCells=false→o.isWalk=false→RD W→RD (W.putObj lp o'):=fun W lp o o' hl ho hc hw h=>by
   rw [hRD] at h ⊢
   exact ⟨(boxed_own (β:=Unit) _ _ fun _=>_).putObj (s:=()) o' h.1 ho hc,Kept.jOb (grownBy_putObj' W lp o') h.2 (fun k e=>.inr (by injection e with e;subst e;exact Nat.le_trans hI0.2.1.1 hl))⟩
  have IR:=am (show ∀ (W:World) (s:MSt),mIV w m (w.heap.size+1+1) Bs (.slice A1 l1.length c1) At ct t cp fst W s→RD W from fun W s h=>by
   rw [hRD];exact ⟨h.1.1.2,h.2.1⟩)
  clear hRD
  have hlm:l1.length≤9223372036854775807:=by omega
  have hn0:w.heap.size≤W0.heap.size:=hI0.2.1.1
  refine wpIn_rangeFunc_ownH hro (by omega) (gf:=105) (lb:=#[.pointer (some ⟨Bs,0,none⟩)]) rfl trivial (enters_of Try.func105 (by kernel_rfl) rfl)
   (encs:=fun x:MEl k t=>#[.int .i64 x.1.1, .agg #[.int .i64 x.1.2.f0, .int .i64 x.1.2.f1, .int .i64 x.1.2.f2]]) (Kp:=fun W W'=>RD W→RD W')
   (S:=fun ys=>ys=uptoM (mOf k t l1) l1.length) (Sp:=fun pre=>∃ q,q≤l1.length∧pre=uptoM (mOf k t l1) q) (N:=l1.length) (w0:=W0)
   (fun lp J Jx W hW _ _ hY h0=>backM1_in Fence.wide _ trivial hro (by omega) lp Bs A1 c1 l1 hlm RD (fun W W'=>RD W→RD W') hRD1 (fun W W' h h2=>h h2) _ (mOf k t l1) (fun j hj=>by rw [mOf_ok HOK.out hj]) J Jx hY W (hRD2 W hW) h0)
   (fun h k x=>k (h x)) (fun W lp o o' hl ho hc hw hx=>hRD3 W lp o o' hl ho hc hw hx) (Below.refl _ _) (fun _=>rfl)
   (fun pre W=>mIV w m (w.heap.size+1+1) Bs (.slice A1 l1.length c1) At ct t cp fst W (mAcc s0 pre))
   (fun c pre W=>False)
   (mIV_own _ hn0 _)
   (fun c=>ownFrom_pure _ fun _=>False)
   hI0
   (fun x a' W=>∃ Bx,Bs<Bx∧W.heap[Bx]?=some (.cells #[.int .i64 x.1.2.f0, .int .i64 x.1.2.f1, .int .i64 x.1.2.f2] 44 (0,0))∧a'={ tmps:=#[.pointer (some ⟨m,0,none⟩), .slice A1 l1.length c1, .agg #[.bool a, .int .i64 b, .int .i64 c], .pointer (some ⟨w.heap.size,0,none⟩),undef, .pointer (some ⟨w.heap.size+1,0,none⟩), .int .i64 0, .pointer (some ⟨w.heap.size+1+1,0,none⟩),undef, .pointer (some ⟨Bx,0,none⟩), .pointer (some ⟨w.heap.size+1,0,none⟩), .bool a,u12,u13,u14,u15,u16,u17, .slice A1 l1.length c1, .func (.func 105) #[] #[.pointer (some ⟨Bs,0,none⟩)], .int .i64 x.1.1, .agg #[.int .i64 x.1.2.f0, .int .i64 x.1.2.f1, .int .i64 x.1.2.f2],u22,u23,u24,u25,u26,u27,u28,u29,u30,u31,u32,u33,u34,u35,u36,u37,u38,u39,u40,u41,u42,u43,u44,u45,u46,u47,u48,u49,u50,u51,u52,u53,u54,u55,u56,u57,u58,u59,u60,u61,u62,u63,u64,u65,u66,u67,u68,u69,u70,u71,u72,u73,u74,u75,u76,u77,u78,u79,u80,u81,u82,u83],defers:=[] })
   (fun x a' _ X Y row hs hg hr=>by
    obtain ⟨Bx,h1,h2,h3⟩:=hs
    refine ⟨Bx,h1,(hg.block Bx (Array.getElem?_eq_some_iff.1 h2).1 (fun e=>?_)).trans h2,h3⟩
    obtain ⟨o,ho,hc⟩:=(hr Bx e.symm).2
    rw [h2] at ho;cases ho;cases hc)
   ?assign ?body ?done ?stop
  case assign =>
   rintro lp pre x W K hI hK
   have iS:=hI.1.1.2
   gi_wp2
   exact hK _ _ ((KeepsOthers.alloc _ _).from _) (fun _=>IR.out _ _ (jfc hI (jJ (Below.refl _ _) _))) (jfc hI (jJ (Below.refl _ _) _)) ⟨W.heap.size,iS.lt,World.alloc_heap_new W _,rfl⟩
  case body =>
   rintro lp pre ⟨⟨ix,x⟩,hx⟩ a' W hl ⟨rr,hrr⟩ hI ⟨Bx,hBx,bX,rfl⟩ hlt
   have hsn:=mAcc_snoc s0 pre ⟨(ix,x),hx⟩
   have hgd:=mAcc_good hs0 pre
   obtain ⟨s,hs⟩:∃ s,mAcc s0 pre=s:=⟨_,rfl⟩
   rw [hs] at hsn hgd hI
   clear hs
   obtain ⟨lg,H,f⟩:=s
   obtain ⟨hgH,hlo,hhi,hll,hlh⟩:=hgd
   simp only at hlo hhi hll hlh hgH
   have hI1:=hI
   obtain ⟨⟨⟨⟨i0,iF⟩,iS⟩,vl,vh,im,iL,iH⟩,iK⟩:=hI1
   have x0:W.cell? ⟨Bx,0,none⟩=some (.int .i64 x.f0):=mo0 bX
   have x1:W.cell? ⟨Bx,1,none⟩=some (.int .i64 x.f1):=mo1 bX
   have x2:W.cell? ⟨Bx,2,none⟩=some (.int .i64 x.f2):=mo2 bX
   have c0:=i0.cell
   have cF:=iF.cell
   have fF:=iF.frozen
   have hnW:w.heap.size≤W.heap.size:=iK.1.1
   have HI:=am hI
   have HSN:=am hsn
   have HGH:=am hgH
   have HX:=am hx
   clear hI hsn hgH i0 iF iS im iL iH iK hs0
   by_cases hk:x.f0=0
   ·have HF:=am (show mAcc s0 (pre ++ [⟨(ix,x),hx⟩])=(lg ++ [x.f1],H,f) by rw [HSN.out];unfold stT;simp only [];rw [if_pos hk])
    have f0:(x.f0 == 0)=true:=by simp [hk]
    have f1:(x.f0 == 1)=false:=by simp [hk]
    have f2:(x.f0 == 2)=false:=by simp [hk]
    have f3:(x.f0 == 3)=false:=by simp [hk]
    clear hk
    gi_wp2
    refine jZb (S:=(fun W':World=>W'.cell? ⟨w.heap.size,0,none⟩=some (.pointer (some ⟨m,0,none⟩))∧W'.cell? ⟨Bx,1,none⟩=some (.int .i64 x.f1))) hmx (by kernel_rfl) ?hL ?_
    case hL=>rintro ⟨_,_,h⟩;exact h
    change wpAnyH _ _ _ _ _ _ _ _ (World.drew W)
    obtain ⟨V,hVe,hVI,hVK,hVX⟩:∃ V:World,World.drew W=V∧mIV w m (w.heap.size+1+1) Bs (.slice A1 l1.length c1) At ct t cp fst V (lg,H,f)∧KeepsFrom W0.heap.size W V∧V.heap[Bx]?=some (.cells #[.int .i64 x.f0, .int .i64 x.f1, .int .i64 x.f2] 44 (0,0)):=⟨_,rfl,jfc HI.out (jlb (Below.refl _ _)),KeepsFrom.of_belowM (jlb (Below.refl _ _)) _,jc bX⟩
    rw [hVe]
    clear hVe c0 cF fF x0 x1 x2
    obtain ⟨⟨⟨⟨v0,vF⟩,vS⟩,vl,vh,vm,vL,vH⟩,vK⟩:=hVI
    obtain ⟨Al,cl,rfl⟩:=Kd.jja vL
    have hS0:(fun W':World=>W'.cell? ⟨w.heap.size,0,none⟩=some (.pointer (some ⟨m,0,none⟩))∧W'.cell? ⟨Bx,1,none⟩=some (.int .i64 x.f1)) V:=⟨v0.cell,mo1 hVX⟩
    have cm2:V.cell? ⟨m,2,none⟩=some (.slice Al lg.length cl):=mo2 vm
    have hmV:=jta vm
    have hnV:w.heap.size≤V.heap.size:=vK.1.1
    have VL:=am vL
    have VM:=am vm
    have VX:=am hVX
    have V0:=am v0
    have VF:=am vF
    have VS:=am vS
    have VH:=am vH
    have VK:=am vK
    have hFV:w.heap.size+1+1<V.heap.size:=vF.lt
    clear vL vm hVX v0 vF vS vH vK
    refine wpAnyH_take (i:=0) (v:=?_) rfl (by kernel_rfl) (by kernel_rfl) (by kernel_rfl) (fun _ _ _ h=>h) (Or.inl ⟨by kernel_rfl,?_⟩) hS0 ?_
    rotate_left
    ·rintro W' ⟨s1,s2⟩
     go_simp
     with_reducible rfl
    refine wpAnyH_take (i:=1) (v:=?_) rfl (by kernel_rfl) (by kernel_rfl) (by kernel_rfl) (fun _ _ _ h=>h) (Or.inl ⟨by kernel_rfl,?_⟩) hS0 ?_
    rotate_left
    ·rintro W' ⟨s1,s2⟩
     go_simp
     with_reducible rfl
    refine wpAnyH_take (i:=2) (v:=?_) rfl (by kernel_rfl) (by kernel_rfl) (by kernel_rfl) (fun _ _ _ h=>h) (Or.inl ⟨by kernel_rfl,?_⟩) hS0 ?_
    rotate_left
    ·rintro W' ⟨s1,s2⟩
     go_simp
     with_reducible rfl
    refine wpAnyH_take (i:=3) (v:=?_) rfl (by kernel_rfl) (by kernel_rfl) (by kernel_rfl) (fun _ _ _ h=>h) (Or.inl ⟨by kernel_rfl,?_⟩) hS0 ?_
    rotate_left
    ·rintro W' ⟨s1,s2⟩
     go_simp
     with_reducible rfl
    refine wpAnyH_take (i:=5) (v:=?_) rfl (by kernel_rfl) (by kernel_rfl) (by kernel_rfl) (fun _ _ _ h=>h) (Or.inl ⟨by kernel_rfl,?_⟩) hS0 ?_
    rotate_left
    ·rintro W' ⟨s1,s2⟩
     go_simp
     with_reducible rfl
    refine wpAnyH_take (i:=6) (v:=?_) rfl (by kernel_rfl) (by kernel_rfl) (by kernel_rfl) (fun _ _ _ h=>h) (Or.inl ⟨by kernel_rfl,?_⟩) hS0 ?_
    rotate_left
    ·rintro W' ⟨s1,s2⟩
     go_simp
     with_reducible rfl
    refine wpAnyH_all (rs:=[4,7]) (by kernel_rfl) (by simp) ?_
    intro ii hii
    rcases (by simpa using hii:ii=4∨ii=7) with rfl | rfl
    all_goals clear hii
    ·refine wpOp_step rfl (fun K hK=>?_)
     go_simp
     refine hK _ _ ⟨hS0,?_⟩
     clear hK K
     refine wpAnyH_all (rs:=[7]) (by kernel_rfl) (by simp) ?_
     intro ii hii
     obtain rfl:ii=7:=by simpa using hii
     clear hii
     refine wpOp_step rfl (fun K hK=>?_)
     go_simp
     have hS1:(fun W':World=>W'.cell? ⟨w.heap.size,0,none⟩=some (.pointer (some ⟨m,0,none⟩))∧W'.cell? ⟨Bx,1,none⟩=some (.int .i64 x.f1)) (V.alloc (.cells #[.int .i64 x.f1] 3)):=⟨mo0 (ja V0.out _),mo1 (ja VX.out _)⟩
     refine hK _ _ ⟨hS1,?_⟩
     clear hK K
     refine wpAnyH_all (rs:=[8]) (by kernel_rfl) (by simp) ?_
     intro ii hii
     obtain rfl:ii=8:=by simpa using hii
     clear hii
     refine wpOp_step rfl (fun K hK=>?_)
     refine Kd.jUb (Kd.int .i64) (w0:=V) (W:=V) w.heap.size rfl (.tmp 30) (.tmp 33) 45 3 (.int .i64 0) 8 rfl Try.underlying45 info3 rfl (by decide) (by omega) (.slice Al lg.length cl) lg x.f1 [.int .i64 x.f1] (fun k=>k≠w.heap.size+1+1) (fun _=>False) rfl rfl rfl (fun _ h=>h.elim) (fun k hk e=>by omega) VL.out (Below.refl _ _) hnV (by omega) ?_
     intro v1 w1 ho hb hg hat
     obtain ⟨A1',c1',e1'⟩:=Kd.jja ho
     rw [show (lg ++ [x.f1]).length=lg.length+1 by simp] at e1'
     subst e1'
     have hS2:(fun W':World=>W'.cell? ⟨w.heap.size,0,none⟩=some (.pointer (some ⟨m,0,none⟩))∧W'.cell? ⟨Bx,1,none⟩=some (.int .i64 x.f1)) w1:=⟨mo0 (jla V0.out hg (Kd.R_ne VL.out V0.out (by decide))),mo1 (jla VX.out hg (Kd.R_ne VL.out VX.out (by decide)))⟩
     have hm1:=jla VM.out hg (Kd.R_ne VL.out VM.out (by decide))
     have cm1:w1.cell? ⟨m,2,none⟩=some (.slice Al lg.length cl):=mo2 hm1
     have fm1:=jd hm1 2
     have HM1:=am hm1
     have HO:=am ho
     have HG:=am hg
     clear hm1 ho hg hb hat
     refine hK _ _ ⟨hS2,?_⟩
     clear hK K
     refine wpAnyH_take (i:=9) (v:=?_) rfl (by kernel_rfl) (by kernel_rfl) (by kernel_rfl) (fun _ _ _ h=>h) (Or.inl ⟨by kernel_rfl,?_⟩) hS2 ?_
     rotate_left
     ·rintro W' ⟨s1,s2⟩
      go_simp
      with_reducible rfl
     refine wpAnyH_take (i:=10) (v:=?_) rfl (by kernel_rfl) (by kernel_rfl) (by kernel_rfl) (fun _ _ _ h=>h) (Or.inl ⟨by kernel_rfl,?_⟩) hS2 ?_
     rotate_left
     ·rintro W' ⟨s1,s2⟩
      go_simp
      with_reducible rfl
     refine wpAnyH_all (rs:=[11]) (by kernel_rfl) (by simp) ?_
     intro ii hii
     obtain rfl:ii=11:=by simpa using hii
     clear hii
     refine wpOp_step rfl (fun K hK=>?_)
     go_simp
     have HI2:=mIV_app (w1:=w1) (s:=(lg,H,f)) (by omega) V0.out VF.out VS.out VM.out VL.out VH.out VK.out HG.out HO.out
     have hX1:w1.heap[Bx]?=some (.cells #[.int .i64 x.f0, .int .i64 x.f1, .int .i64 x.f2] 44 (0,0)):=jla VX.out HG.out (Kd.R_ne VL.out VX.out (by decide))
     have hXm:Bx≠m:=blk_ne hX1 HM1.out (by decide)
     refine hK _ _ ⟨⟨mo0 HI2.1.1.1.1,(World.cell?_setCell_far _ _ _ _ hXm.symm).trans hS2.2⟩,?_⟩
     clear hK K
     refine wpAnyH_done (by kernel_rfl) ?_ _
     exact ⟨hVK.trans (((jnc VL.out HG.out).trans (KeepsOthers.setCell _ _ _)).from _),fun _=>IR.out _ _ HI2,by show mIV w m (w.heap.size+1+1) Bs (.slice A1 l1.length c1) At ct t cp fst _ (mAcc s0 (pre ++ [⟨(ix,x),hx⟩]));rw [HF.out];exact HI2⟩
    ·refine wpOp_step rfl (fun K hK=>?_)
     go_simp
     have hS1:(fun W':World=>W'.cell? ⟨w.heap.size,0,none⟩=some (.pointer (some ⟨m,0,none⟩))∧W'.cell? ⟨Bx,1,none⟩=some (.int .i64 x.f1)) (V.alloc (.cells #[.int .i64 x.f1] 3)):=⟨mo0 (ja V0.out _),mo1 (ja VX.out _)⟩
     refine hK _ _ ⟨hS1,?_⟩
     clear hK K
     refine wpAnyH_all (rs:=[4]) (by kernel_rfl) (by simp) ?_
     intro ii hii
     obtain rfl:ii=4:=by simpa using hii
     clear hii
     refine wpOp_step rfl (fun K hK=>?_)
     go_simp
     refine hK _ _ ⟨hS1,?_⟩
     clear hK K
     refine wpAnyH_all (rs:=[8]) (by kernel_rfl) (by simp) ?_
     intro ii hii
     obtain rfl:ii=8:=by simpa using hii
     clear hii
     refine wpOp_step rfl (fun K hK=>?_)
     refine Kd.jUb (Kd.int .i64) (w0:=V) (W:=V) w.heap.size rfl (.tmp 30) (.tmp 33) 45 3 (.int .i64 0) 8 rfl Try.underlying45 info3 rfl (by decide) (by omega) (.slice Al lg.length cl) lg x.f1 [.int .i64 x.f1] (fun k=>k≠w.heap.size+1+1) (fun _=>False) rfl rfl rfl (fun _ h=>h.elim) (fun k hk e=>by omega) VL.out (Below.refl _ _) hnV (by omega) ?_
     intro v1 w1 ho hb hg hat
     obtain ⟨A1',c1',e1'⟩:=Kd.jja ho
     rw [show (lg ++ [x.f1]).length=lg.length+1 by simp] at e1'
     subst e1'
     have hS2:(fun W':World=>W'.cell? ⟨w.heap.size,0,none⟩=some (.pointer (some ⟨m,0,none⟩))∧W'.cell? ⟨Bx,1,none⟩=some (.int .i64 x.f1)) w1:=⟨mo0 (jla V0.out hg (Kd.R_ne VL.out V0.out (by decide))),mo1 (jla VX.out hg (Kd.R_ne VL.out VX.out (by decide)))⟩
     have hm1:=jla VM.out hg (Kd.R_ne VL.out VM.out (by decide))
     have cm1:w1.cell? ⟨m,2,none⟩=some (.slice Al lg.length cl):=mo2 hm1
     have fm1:=jd hm1 2
     have HM1:=am hm1
     have HO:=am ho
     have HG:=am hg
     clear hm1 ho hg hb hat
     refine hK _ _ ⟨hS2,?_⟩
     clear hK K
     refine wpAnyH_take (i:=9) (v:=?_) rfl (by kernel_rfl) (by kernel_rfl) (by kernel_rfl) (fun _ _ _ h=>h) (Or.inl ⟨by kernel_rfl,?_⟩) hS2 ?_
     rotate_left
     ·rintro W' ⟨s1,s2⟩
      go_simp
      with_reducible rfl
     refine wpAnyH_take (i:=10) (v:=?_) rfl (by kernel_rfl) (by kernel_rfl) (by kernel_rfl) (fun _ _ _ h=>h) (Or.inl ⟨by kernel_rfl,?_⟩) hS2 ?_
     rotate_left
     ·rintro W' ⟨s1,s2⟩
      go_simp
      with_reducible rfl
     refine wpAnyH_all (rs:=[11]) (by kernel_rfl) (by simp) ?_
     intro ii hii
     obtain rfl:ii=11:=by simpa using hii
     clear hii
     refine wpOp_step rfl (fun K hK=>?_)
     go_simp
     have HI2:=mIV_app (w1:=w1) (s:=(lg,H,f)) (by omega) V0.out VF.out VS.out VM.out VL.out VH.out VK.out HG.out HO.out
     have hX1:w1.heap[Bx]?=some (.cells #[.int .i64 x.f0, .int .i64 x.f1, .int .i64 x.f2] 44 (0,0)):=jla VX.out HG.out (Kd.R_ne VL.out VX.out (by decide))
     have hXm:Bx≠m:=blk_ne hX1 HM1.out (by decide)
     refine hK _ _ ⟨⟨mo0 HI2.1.1.1.1,(World.cell?_setCell_far _ _ _ _ hXm.symm).trans hS2.2⟩,?_⟩
     clear hK K
     refine wpAnyH_done (by kernel_rfl) ?_ _
     exact ⟨hVK.trans (((jnc VL.out HG.out).trans (KeepsOthers.setCell _ _ _)).from _),fun _=>IR.out _ _ HI2,by show mIV w m (w.heap.size+1+1) Bs (.slice A1 l1.length c1) At ct t cp fst _ (mAcc s0 (pre ++ [⟨(ix,x),hx⟩]));rw [HF.out];exact HI2⟩
   ·have g0:=hk
    clear hk
    by_cases hk:x.f0=1
    ·by_cases hf:0≤f
     ·have HF:=am (show mAcc s0 (pre ++ [⟨(ix,x),hx⟩])=(lg ++ [x.f1],H,f) by rw [HSN.out];unfold stT;simp only [];rw [if_neg (show ¬ x.f0=0 by omega)];rw [if_pos hk,if_pos hf])
      have f0:(x.f0 == 0)=false:=by simp [hk]
      have f1:(x.f0 == 1)=true:=by simp [hk]
      have f2:(x.f0 == 2)=false:=by simp [hk]
      have f3:(x.f0 == 3)=false:=by simp [hk]
      have q0:=dzT (show f≥0 by omega)
      clear hk
      gi_wp2
      refine jZb (S:=(fun W':World=>W'.cell? ⟨w.heap.size,0,none⟩=some (.pointer (some ⟨m,0,none⟩))∧W'.cell? ⟨Bx,1,none⟩=some (.int .i64 x.f1))) hmx (by kernel_rfl) ?hL ?_
      case hL=>rintro ⟨_,_,h⟩;exact h
      change wpAnyH _ _ _ _ _ _ _ _ (World.drew W)
      obtain ⟨V,hVe,hVI,hVK,hVX⟩:∃ V:World,World.drew W=V∧mIV w m (w.heap.size+1+1) Bs (.slice A1 l1.length c1) At ct t cp fst V (lg,H,f)∧KeepsFrom W0.heap.size W V∧V.heap[Bx]?=some (.cells #[.int .i64 x.f0, .int .i64 x.f1, .int .i64 x.f2] 44 (0,0)):=⟨_,rfl,jfc HI.out (jlb (Below.refl _ _)),KeepsFrom.of_belowM (jlb (Below.refl _ _)) _,jc bX⟩
      rw [hVe]
      clear hVe c0 cF fF x0 x1 x2
      obtain ⟨⟨⟨⟨v0,vF⟩,vS⟩,vl,vh,vm,vL,vH⟩,vK⟩:=hVI
      obtain ⟨Al,cl,rfl⟩:=Kd.jja vL
      have hS0:(fun W':World=>W'.cell? ⟨w.heap.size,0,none⟩=some (.pointer (some ⟨m,0,none⟩))∧W'.cell? ⟨Bx,1,none⟩=some (.int .i64 x.f1)) V:=⟨v0.cell,mo1 hVX⟩
      have cm2:V.cell? ⟨m,2,none⟩=some (.slice Al lg.length cl):=mo2 vm
      have hmV:=jta vm
      have hnV:w.heap.size≤V.heap.size:=vK.1.1
      have VL:=am vL
      have VM:=am vm
      have VX:=am hVX
      have V0:=am v0
      have VF:=am vF
      have VS:=am vS
      have VH:=am vH
      have VK:=am vK
      have hFV:w.heap.size+1+1<V.heap.size:=vF.lt
      clear vL vm hVX v0 vF vS vH vK
      refine wpAnyH_take (i:=0) (v:=?_) rfl (by kernel_rfl) (by kernel_rfl) (by kernel_rfl) (fun _ _ _ h=>h) (Or.inl ⟨by kernel_rfl,?_⟩) hS0 ?_
      rotate_left
      ·rintro W' ⟨s1,s2⟩
       go_simp
       with_reducible rfl
      refine wpAnyH_take (i:=1) (v:=?_) rfl (by kernel_rfl) (by kernel_rfl) (by kernel_rfl) (fun _ _ _ h=>h) (Or.inl ⟨by kernel_rfl,?_⟩) hS0 ?_
      rotate_left
      ·rintro W' ⟨s1,s2⟩
       go_simp
       with_reducible rfl
      refine wpAnyH_take (i:=2) (v:=?_) rfl (by kernel_rfl) (by kernel_rfl) (by kernel_rfl) (fun _ _ _ h=>h) (Or.inl ⟨by kernel_rfl,?_⟩) hS0 ?_
      rotate_left
      ·rintro W' ⟨s1,s2⟩
       go_simp
       with_reducible rfl
      refine wpAnyH_take (i:=3) (v:=?_) rfl (by kernel_rfl) (by kernel_rfl) (by kernel_rfl) (fun _ _ _ h=>h) (Or.inl ⟨by kernel_rfl,?_⟩) hS0 ?_
      rotate_left
      ·rintro W' ⟨s1,s2⟩
       go_simp
       with_reducible rfl
      refine wpAnyH_take (i:=5) (v:=?_) rfl (by kernel_rfl) (by kernel_rfl) (by kernel_rfl) (fun _ _ _ h=>h) (Or.inl ⟨by kernel_rfl,?_⟩) hS0 ?_
      rotate_left
      ·rintro W' ⟨s1,s2⟩
       go_simp
       with_reducible rfl
      refine wpAnyH_take (i:=6) (v:=?_) rfl (by kernel_rfl) (by kernel_rfl) (by kernel_rfl) (fun _ _ _ h=>h) (Or.inl ⟨by kernel_rfl,?_⟩) hS0 ?_
      rotate_left
      ·rintro W' ⟨s1,s2⟩
       go_simp
       with_reducible rfl
      refine wpAnyH_all (rs:=[4,7]) (by kernel_rfl) (by simp) ?_
      intro ii hii
      rcases (by simpa using hii:ii=4∨ii=7) with rfl | rfl
      all_goals clear hii
      ·refine wpOp_step rfl (fun K hK=>?_)
       go_simp
       refine hK _ _ ⟨hS0,?_⟩
       clear hK K
       refine wpAnyH_all (rs:=[7]) (by kernel_rfl) (by simp) ?_
       intro ii hii
       obtain rfl:ii=7:=by simpa using hii
       clear hii
       refine wpOp_step rfl (fun K hK=>?_)
       go_simp
       have hS1:(fun W':World=>W'.cell? ⟨w.heap.size,0,none⟩=some (.pointer (some ⟨m,0,none⟩))∧W'.cell? ⟨Bx,1,none⟩=some (.int .i64 x.f1)) (V.alloc (.cells #[.int .i64 x.f1] 3)):=⟨mo0 (ja V0.out _),mo1 (ja VX.out _)⟩
       refine hK _ _ ⟨hS1,?_⟩
       clear hK K
       refine wpAnyH_all (rs:=[8]) (by kernel_rfl) (by simp) ?_
       intro ii hii
       obtain rfl:ii=8:=by simpa using hii
       clear hii
       refine wpOp_step rfl (fun K hK=>?_)
       refine Kd.jUb (Kd.int .i64) (w0:=V) (W:=V) w.heap.size rfl (.tmp 45) (.tmp 48) 45 3 (.int .i64 0) 8 rfl Try.underlying45 info3 rfl (by decide) (by omega) (.slice Al lg.length cl) lg x.f1 [.int .i64 x.f1] (fun k=>k≠w.heap.size+1+1) (fun _=>False) rfl rfl rfl (fun _ h=>h.elim) (fun k hk e=>by omega) VL.out (Below.refl _ _) hnV (by omega) ?_
       intro v1 w1 ho hb hg hat
       obtain ⟨A1',c1',e1'⟩:=Kd.jja ho
       rw [show (lg ++ [x.f1]).length=lg.length+1 by simp] at e1'
       subst e1'
       have hS2:(fun W':World=>W'.cell? ⟨w.heap.size,0,none⟩=some (.pointer (some ⟨m,0,none⟩))∧W'.cell? ⟨Bx,1,none⟩=some (.int .i64 x.f1)) w1:=⟨mo0 (jla V0.out hg (Kd.R_ne VL.out V0.out (by decide))),mo1 (jla VX.out hg (Kd.R_ne VL.out VX.out (by decide)))⟩
       have hm1:=jla VM.out hg (Kd.R_ne VL.out VM.out (by decide))
       have cm1:w1.cell? ⟨m,2,none⟩=some (.slice Al lg.length cl):=mo2 hm1
       have fm1:=jd hm1 2
       have HM1:=am hm1
       have HO:=am ho
       have HG:=am hg
       clear hm1 ho hg hb hat
       refine hK _ _ ⟨hS2,?_⟩
       clear hK K
       refine wpAnyH_take (i:=9) (v:=?_) rfl (by kernel_rfl) (by kernel_rfl) (by kernel_rfl) (fun _ _ _ h=>h) (Or.inl ⟨by kernel_rfl,?_⟩) hS2 ?_
       rotate_left
       ·rintro W' ⟨s1,s2⟩
        go_simp
        with_reducible rfl
       refine wpAnyH_take (i:=10) (v:=?_) rfl (by kernel_rfl) (by kernel_rfl) (by kernel_rfl) (fun _ _ _ h=>h) (Or.inl ⟨by kernel_rfl,?_⟩) hS2 ?_
       rotate_left
       ·rintro W' ⟨s1,s2⟩
        go_simp
        with_reducible rfl
       refine wpAnyH_all (rs:=[11]) (by kernel_rfl) (by simp) ?_
       intro ii hii
       obtain rfl:ii=11:=by simpa using hii
       clear hii
       refine wpOp_step rfl (fun K hK=>?_)
       go_simp
       have HI2:=mIV_app (w1:=w1) (s:=(lg,H,f)) (by omega) V0.out VF.out VS.out VM.out VL.out VH.out VK.out HG.out HO.out
       have hX1:w1.heap[Bx]?=some (.cells #[.int .i64 x.f0, .int .i64 x.f1, .int .i64 x.f2] 44 (0,0)):=jla VX.out HG.out (Kd.R_ne VL.out VX.out (by decide))
       have hXm:Bx≠m:=blk_ne hX1 HM1.out (by decide)
       refine hK _ _ ⟨⟨mo0 HI2.1.1.1.1,(World.cell?_setCell_far _ _ _ _ hXm.symm).trans hS2.2⟩,?_⟩
       clear hK K
       refine wpAnyH_done (by kernel_rfl) ?_ _
       exact ⟨hVK.trans (((jnc VL.out HG.out).trans (KeepsOthers.setCell _ _ _)).from _),fun _=>IR.out _ _ HI2,by show mIV w m (w.heap.size+1+1) Bs (.slice A1 l1.length c1) At ct t cp fst _ (mAcc s0 (pre ++ [⟨(ix,x),hx⟩]));rw [HF.out];exact HI2⟩
      ·refine wpOp_step rfl (fun K hK=>?_)
       go_simp
       have hS1:(fun W':World=>W'.cell? ⟨w.heap.size,0,none⟩=some (.pointer (some ⟨m,0,none⟩))∧W'.cell? ⟨Bx,1,none⟩=some (.int .i64 x.f1)) (V.alloc (.cells #[.int .i64 x.f1] 3)):=⟨mo0 (ja V0.out _),mo1 (ja VX.out _)⟩
       refine hK _ _ ⟨hS1,?_⟩
       clear hK K
       refine wpAnyH_all (rs:=[4]) (by kernel_rfl) (by simp) ?_
       intro ii hii
       obtain rfl:ii=4:=by simpa using hii
       clear hii
       refine wpOp_step rfl (fun K hK=>?_)
       go_simp
       refine hK _ _ ⟨hS1,?_⟩
       clear hK K
       refine wpAnyH_all (rs:=[8]) (by kernel_rfl) (by simp) ?_
       intro ii hii
       obtain rfl:ii=8:=by simpa using hii
       clear hii
       refine wpOp_step rfl (fun K hK=>?_)
       refine Kd.jUb (Kd.int .i64) (w0:=V) (W:=V) w.heap.size rfl (.tmp 45) (.tmp 48) 45 3 (.int .i64 0) 8 rfl Try.underlying45 info3 rfl (by decide) (by omega) (.slice Al lg.length cl) lg x.f1 [.int .i64 x.f1] (fun k=>k≠w.heap.size+1+1) (fun _=>False) rfl rfl rfl (fun _ h=>h.elim) (fun k hk e=>by omega) VL.out (Below.refl _ _) hnV (by omega) ?_
       intro v1 w1 ho hb hg hat
       obtain ⟨A1',c1',e1'⟩:=Kd.jja ho
       rw [show (lg ++ [x.f1]).length=lg.length+1 by simp] at e1'
       subst e1'
       have hS2:(fun W':World=>W'.cell? ⟨w.heap.size,0,none⟩=some (.pointer (some ⟨m,0,none⟩))∧W'.cell? ⟨Bx,1,none⟩=some (.int .i64 x.f1)) w1:=⟨mo0 (jla V0.out hg (Kd.R_ne VL.out V0.out (by decide))),mo1 (jla VX.out hg (Kd.R_ne VL.out VX.out (by decide)))⟩
       have hm1:=jla VM.out hg (Kd.R_ne VL.out VM.out (by decide))
       have cm1:w1.cell? ⟨m,2,none⟩=some (.slice Al lg.length cl):=mo2 hm1
       have fm1:=jd hm1 2
       have HM1:=am hm1
       have HO:=am ho
       have HG:=am hg
       clear hm1 ho hg hb hat
       refine hK _ _ ⟨hS2,?_⟩
       clear hK K
       refine wpAnyH_take (i:=9) (v:=?_) rfl (by kernel_rfl) (by kernel_rfl) (by kernel_rfl) (fun _ _ _ h=>h) (Or.inl ⟨by kernel_rfl,?_⟩) hS2 ?_
       rotate_left
       ·rintro W' ⟨s1,s2⟩
        go_simp
        with_reducible rfl
       refine wpAnyH_take (i:=10) (v:=?_) rfl (by kernel_rfl) (by kernel_rfl) (by kernel_rfl) (fun _ _ _ h=>h) (Or.inl ⟨by kernel_rfl,?_⟩) hS2 ?_
       rotate_left
       ·rintro W' ⟨s1,s2⟩
        go_simp
        with_reducible rfl
       refine wpAnyH_all (rs:=[11]) (by kernel_rfl) (by simp) ?_
       intro ii hii
       obtain rfl:ii=11:=by simpa using hii
       clear hii
       refine wpOp_step rfl (fun K hK=>?_)
       go_simp
       have HI2:=mIV_app (w1:=w1) (s:=(lg,H,f)) (by omega) V0.out VF.out VS.out VM.out VL.out VH.out VK.out HG.out HO.out
       have hX1:w1.heap[Bx]?=some (.cells #[.int .i64 x.f0, .int .i64 x.f1, .int .i64 x.f2] 44 (0,0)):=jla VX.out HG.out (Kd.R_ne VL.out VX.out (by decide))
       have hXm:Bx≠m:=blk_ne hX1 HM1.out (by decide)
       refine hK _ _ ⟨⟨mo0 HI2.1.1.1.1,(World.cell?_setCell_far _ _ _ _ hXm.symm).trans hS2.2⟩,?_⟩
       clear hK K
       refine wpAnyH_done (by kernel_rfl) ?_ _
       exact ⟨hVK.trans (((jnc VL.out HG.out).trans (KeepsOthers.setCell _ _ _)).from _),fun _=>IR.out _ _ HI2,by show mIV w m (w.heap.size+1+1) Bs (.slice A1 l1.length c1) At ct t cp fst _ (mAcc s0 (pre ++ [⟨(ix,x),hx⟩]));rw [HF.out];exact HI2⟩
     ·have HF:=am (show mAcc s0 (pre ++ [⟨(ix,x),hx⟩])=(lg,H,f) by rw [HSN.out];unfold stT;simp only [];rw [if_neg (show ¬ x.f0=0 by omega)];rw [if_pos hk,if_neg hf])
      have f0:(x.f0 == 0)=false:=by simp [hk]
      have f1:(x.f0 == 1)=true:=by simp [hk]
      have f2:(x.f0 == 2)=false:=by simp [hk]
      have f3:(x.f0 == 3)=false:=by simp [hk]
      have q0:=dzF (show ¬ f≥0 by omega)
      clear hk
      gi_wp2
      exact ⟨(KeepsOthers.refl _).from _,fun h=>h,by show mIV w m (w.heap.size+1+1) Bs (.slice A1 l1.length c1) At ct t cp fst _ (mAcc s0 (pre ++ [⟨(ix,x),hx⟩]));rw [HF.out];exact HI.out⟩
    ·have g1:=hk
     clear hk
     by_cases hk:x.f0=2
     ·by_cases hf:0≤f
      ·obtain ⟨i,hi⟩:∃ i:Nat,f=(i:Int):=⟨f.toNat,by omega⟩
       obtain ⟨ga,gb,g2,g3⟩:=HGH.out i (by omega)
       rw [← hi] at g2 g3
       clear ga gb hi i
       have hb:∃ bb,jQa.f k t (jo H f).f0 x.f1=some bb:=by
        have h:=HX.out
        unfold okX at h
        rw [if_pos hk] at h
        simp only [List.all_eq_true,List.mem_range] at h
        have:=h ((jo H f).f0).toNat (by omega)
        rw [show (((jo H f).f0).toNat:Int)=(jo H f).f0 by omega] at this
        exact Option.isSome_iff_exists.1 this
       obtain ⟨bb,hbb⟩:=hb
       have hT:isT k t (jo H f).f0 x.f1=bb:=by unfold isT;rw [hbb];rfl
       have HF:=am (show mAcc s0 (pre ++ [⟨(ix,x),hx⟩])=(lg,H,if bb=true then -1 else f) by rw [HSN.out];unfold stT;simp only [];rw [if_neg (show ¬ x.f0=0 by omega)];rw [if_neg (show ¬ x.f0=1 by omega)];rw [if_pos hk,dzT hf,Bool.true_and,hT])
       have f0:(x.f0 == 0)=false:=by simp [hk]
       have f1:(x.f0 == 1)=false:=by simp [hk]
       have f2:(x.f0 == 2)=true:=by simp [hk]
       have f3:(x.f0 == 3)=false:=by simp [hk]
       have q0:=dzT (show f≥0 by omega)
       have p0:=ezT hf
       have p1:=ezT hhi
       have hI2:=HI.out
       obtain ⟨⟨⟨⟨i0,iF⟩,iS⟩,vl,vh,im,iL,iH⟩,iK⟩:=hI2
       obtain ⟨gg,cc,e1,hbg,hgw,cells,hgc⟩:=Kd.R_form iH (by simp only;omega)
       simp only at e1
       subst e1
       obtain ⟨_,_,_,_,k0⟩:=mh_st3 iH hf hhi 0
       have cm0:W.cell? ⟨m,0,none⟩=some (.slice At t.length ct):=mo0 im
       have cm3:W.cell? ⟨m,3,none⟩=some (.slice (some ⟨gg,0,none⟩) H.length cc):=mo3 im
       have KT:=am (fun (W':World) (hb:Below W.heap.size W W')=>jQa.calls k At ct t _ _ bb W' (Kd.jka (HRT.out W iK.1) hb) hcT hbb)
       clear hk i0 iF iS im iL iH iK g2 g3 hT hbb hgc hbg hgw cells
       gi_wp2
       refine jZb (S:=(fun W':World=>W'.cell? ⟨w.heap.size+1+1,0,none⟩=some (.int .i64 f)∧W'.cell? ⟨w.heap.size,0,none⟩=some (.pointer (some ⟨m,0,none⟩))∧W'.cell? ⟨Bx,1,none⟩=some (.int .i64 x.f1)∧W'.cell? ⟨m,0,none⟩=some (.slice At t.length ct)∧W'.cell? ⟨m,3,none⟩=some (.slice (some ⟨gg,0,none⟩) H.length cc)∧W'.cell? ⟨gg,f.toNat * 5,none⟩=some (.int .i64 (jo H f).f0))) hmx (by kernel_rfl) ?hL ?_
       case hL=>rintro ⟨_,_,h⟩;exact h
       change wpAnyH _ _ _ _ _ _ _ _ (World.drew W)
       have hS0:(fun W':World=>W'.cell? ⟨w.heap.size+1+1,0,none⟩=some (.int .i64 f)∧W'.cell? ⟨w.heap.size,0,none⟩=some (.pointer (some ⟨m,0,none⟩))∧W'.cell? ⟨Bx,1,none⟩=some (.int .i64 x.f1)∧W'.cell? ⟨m,0,none⟩=some (.slice At t.length ct)∧W'.cell? ⟨m,3,none⟩=some (.slice (some ⟨gg,0,none⟩) H.length cc)∧W'.cell? ⟨gg,f.toNat * 5,none⟩=some (.int .i64 (jo H f).f0)) (World.drew W):=⟨cF,c0,x1,cm0,cm3,k0⟩
       refine jDb (i:=0) (v:=.int .i64 f) (a':={ tmps:=#[.pointer (some ⟨m,0,none⟩), .slice A1 l1.length c1, .agg #[.bool a, .int .i64 b, .int .i64 c], .pointer (some ⟨w.heap.size,0,none⟩),undef, .pointer (some ⟨w.heap.size+1,0,none⟩), .int .i64 0, .pointer (some ⟨w.heap.size+1+1,0,none⟩),undef, .pointer (some ⟨Bx,0,none⟩), .pointer (some ⟨w.heap.size+1,0,none⟩), .bool a,u12,u13,u14,u15,u16,u17, .slice A1 l1.length c1, .func (.func 105) #[] #[.pointer (some ⟨Bs,0,none⟩)], .int .i64 ix, .agg #[.int .i64 x.f0, .int .i64 x.f1, .int .i64 x.f2], .pointer (some ⟨Bx,0,none⟩), .int .i64 x.f0, .bool false, .bool false,u26,u27,u28,u29,u30,u31,u32,u33,u34,u35,u36, .bool false, .bool false,u39,u40,u41,u42,u43,u44,u45,u46,u47,u48,u49,u50,u51, .bool true, .bool true, .int .i64 f,u55,u56,u57,u58,u59,u60,u61,u62,u63,u64,u65,u66,u67,u68,u69,u70,u71,u72,u73,u74,u75,u76,u77,u78,u79,u80,u81,u82,u83],defers:=[] }) rfl (by kernel_rfl) (by kernel_rfl) (by kernel_rfl) (fun _ _ _ h=>h) (Or.inl ⟨by kernel_rfl,?_⟩) hS0 (by kernel_rfl) ?_
       ·rintro W' ⟨s1,s2,s3,s4,s5,s6⟩
        go_simp
        try with_reducible rfl
       refine jDb (i:=1) (v:=.bool true) (a':={ tmps:=#[.pointer (some ⟨m,0,none⟩), .slice A1 l1.length c1, .agg #[.bool a, .int .i64 b, .int .i64 c], .pointer (some ⟨w.heap.size,0,none⟩),undef, .pointer (some ⟨w.heap.size+1,0,none⟩), .int .i64 0, .pointer (some ⟨w.heap.size+1+1,0,none⟩),undef, .pointer (some ⟨Bx,0,none⟩), .pointer (some ⟨w.heap.size+1,0,none⟩), .bool a,u12,u13,u14,u15,u16,u17, .slice A1 l1.length c1, .func (.func 105) #[] #[.pointer (some ⟨Bs,0,none⟩)], .int .i64 ix, .agg #[.int .i64 x.f0, .int .i64 x.f1, .int .i64 x.f2], .pointer (some ⟨Bx,0,none⟩), .int .i64 x.f0, .bool false, .bool false,u26,u27,u28,u29,u30,u31,u32,u33,u34,u35,u36, .bool false, .bool false,u39,u40,u41,u42,u43,u44,u45,u46,u47,u48,u49,u50,u51, .bool true, .bool true, .int .i64 f, .bool true,u56,u57,u58,u59,u60,u61,u62,u63,u64,u65,u66,u67,u68,u69,u70,u71,u72,u73,u74,u75,u76,u77,u78,u79,u80,u81,u82,u83],defers:=[] }) rfl (by kernel_rfl) (by kernel_rfl) (by kernel_rfl) (fun _ _ _ h=>h) (Or.inl ⟨by kernel_rfl,?_⟩) hS0 (by kernel_rfl) ?_
       ·rintro W' ⟨s1,s2,s3,s4,s5,s6⟩
        go_simp
        try with_reducible rfl
       refine jDb (i:=2) (v:=.bool true) (a':={ tmps:=#[.pointer (some ⟨m,0,none⟩), .slice A1 l1.length c1, .agg #[.bool a, .int .i64 b, .int .i64 c], .pointer (some ⟨w.heap.size,0,none⟩),undef, .pointer (some ⟨w.heap.size+1,0,none⟩), .int .i64 0, .pointer (some ⟨w.heap.size+1+1,0,none⟩),undef, .pointer (some ⟨Bx,0,none⟩), .pointer (some ⟨w.heap.size+1,0,none⟩), .bool a,u12,u13,u14,u15,u16,u17, .slice A1 l1.length c1, .func (.func 105) #[] #[.pointer (some ⟨Bs,0,none⟩)], .int .i64 ix, .agg #[.int .i64 x.f0, .int .i64 x.f1, .int .i64 x.f2], .pointer (some ⟨Bx,0,none⟩), .int .i64 x.f0, .bool false, .bool false,u26,u27,u28,u29,u30,u31,u32,u33,u34,u35,u36, .bool false, .bool false,u39,u40,u41,u42,u43,u44,u45,u46,u47,u48,u49,u50,u51, .bool true, .bool true, .int .i64 f, .bool true, .bool true,u57,u58,u59,u60,u61,u62,u63,u64,u65,u66,u67,u68,u69,u70,u71,u72,u73,u74,u75,u76,u77,u78,u79,u80,u81,u82,u83],defers:=[] }) rfl (by kernel_rfl) (by kernel_rfl) (by kernel_rfl) (fun _ _ _ h=>h) (Or.inl ⟨by kernel_rfl,?_⟩) hS0 (by kernel_rfl) ?_
       ·rintro W' ⟨s1,s2,s3,s4,s5,s6⟩
        go_simp
        try with_reducible rfl
       refine jDb (i:=3) (v:=.pointer (some ⟨m,0,none⟩)) (a':={ tmps:=#[.pointer (some ⟨m,0,none⟩), .slice A1 l1.length c1, .agg #[.bool a, .int .i64 b, .int .i64 c], .pointer (some ⟨w.heap.size,0,none⟩),undef, .pointer (some ⟨w.heap.size+1,0,none⟩), .int .i64 0, .pointer (some ⟨w.heap.size+1+1,0,none⟩),undef, .pointer (some ⟨Bx,0,none⟩), .pointer (some ⟨w.heap.size+1,0,none⟩), .bool a,u12,u13,u14,u15,u16,u17, .slice A1 l1.length c1, .func (.func 105) #[] #[.pointer (some ⟨Bs,0,none⟩)], .int .i64 ix, .agg #[.int .i64 x.f0, .int .i64 x.f1, .int .i64 x.f2], .pointer (some ⟨Bx,0,none⟩), .int .i64 x.f0, .bool false, .bool false,u26,u27,u28,u29,u30,u31,u32,u33,u34,u35,u36, .bool false, .bool false,u39,u40,u41,u42,u43,u44,u45,u46,u47,u48,u49,u50,u51, .bool true, .bool true, .int .i64 f, .bool true, .bool true, .pointer (some ⟨m,0,none⟩),u58,u59,u60,u61,u62,u63,u64,u65,u66,u67,u68,u69,u70,u71,u72,u73,u74,u75,u76,u77,u78,u79,u80,u81,u82,u83],defers:=[] }) rfl (by kernel_rfl) (by kernel_rfl) (by kernel_rfl) (fun _ _ _ h=>h) (Or.inl ⟨by kernel_rfl,?_⟩) hS0 (by kernel_rfl) ?_
       ·rintro W' ⟨s1,s2,s3,s4,s5,s6⟩
        go_simp
        try with_reducible rfl
       refine jDb (i:=4) (v:=.pointer (some ⟨m,0,none⟩)) (a':={ tmps:=#[.pointer (some ⟨m,0,none⟩), .slice A1 l1.length c1, .agg #[.bool a, .int .i64 b, .int .i64 c], .pointer (some ⟨w.heap.size,0,none⟩),undef, .pointer (some ⟨w.heap.size+1,0,none⟩), .int .i64 0, .pointer (some ⟨w.heap.size+1+1,0,none⟩),undef, .pointer (some ⟨Bx,0,none⟩), .pointer (some ⟨w.heap.size+1,0,none⟩), .bool a,u12,u13,u14,u15,u16,u17, .slice A1 l1.length c1, .func (.func 105) #[] #[.pointer (some ⟨Bs,0,none⟩)], .int .i64 ix, .agg #[.int .i64 x.f0, .int .i64 x.f1, .int .i64 x.f2], .pointer (some ⟨Bx,0,none⟩), .int .i64 x.f0, .bool false, .bool false,u26,u27,u28,u29,u30,u31,u32,u33,u34,u35,u36, .bool false, .bool false,u39,u40,u41,u42,u43,u44,u45,u46,u47,u48,u49,u50,u51, .bool true, .bool true, .int .i64 f, .bool true, .bool true, .pointer (some ⟨m,0,none⟩), .pointer (some ⟨m,0,none⟩),u59,u60,u61,u62,u63,u64,u65,u66,u67,u68,u69,u70,u71,u72,u73,u74,u75,u76,u77,u78,u79,u80,u81,u82,u83],defers:=[] }) rfl (by kernel_rfl) (by kernel_rfl) (by kernel_rfl) (fun _ _ _ h=>h) (Or.inl ⟨by kernel_rfl,?_⟩) hS0 (by kernel_rfl) ?_
       ·rintro W' ⟨s1,s2,s3,s4,s5,s6⟩
        go_simp
        try with_reducible rfl
       refine jDb (i:=5) (v:=.pointer (some ⟨m,0,none⟩)) (a':={ tmps:=#[.pointer (some ⟨m,0,none⟩), .slice A1 l1.length c1, .agg #[.bool a, .int .i64 b, .int .i64 c], .pointer (some ⟨w.heap.size,0,none⟩),undef, .pointer (some ⟨w.heap.size+1,0,none⟩), .int .i64 0, .pointer (some ⟨w.heap.size+1+1,0,none⟩),undef, .pointer (some ⟨Bx,0,none⟩), .pointer (some ⟨w.heap.size+1,0,none⟩), .bool a,u12,u13,u14,u15,u16,u17, .slice A1 l1.length c1, .func (.func 105) #[] #[.pointer (some ⟨Bs,0,none⟩)], .int .i64 ix, .agg #[.int .i64 x.f0, .int .i64 x.f1, .int .i64 x.f2], .pointer (some ⟨Bx,0,none⟩), .int .i64 x.f0, .bool false, .bool false,u26,u27,u28,u29,u30,u31,u32,u33,u34,u35,u36, .bool false, .bool false,u39,u40,u41,u42,u43,u44,u45,u46,u47,u48,u49,u50,u51, .bool true, .bool true, .int .i64 f, .bool true, .bool true, .pointer (some ⟨m,0,none⟩), .pointer (some ⟨m,0,none⟩), .pointer (some ⟨m,0,none⟩),u60,u61,u62,u63,u64,u65,u66,u67,u68,u69,u70,u71,u72,u73,u74,u75,u76,u77,u78,u79,u80,u81,u82,u83],defers:=[] }) rfl (by kernel_rfl) (by kernel_rfl) (by kernel_rfl) (fun _ _ _ h=>h) (Or.inl ⟨by kernel_rfl,?_⟩) hS0 (by kernel_rfl) ?_
       ·rintro W' ⟨s1,s2,s3,s4,s5,s6⟩
        go_simp
        try with_reducible rfl
       refine jDb (i:=6) (v:=.agg #[.slice At t.length ct]) (a':={ tmps:=#[.pointer (some ⟨m,0,none⟩), .slice A1 l1.length c1, .agg #[.bool a, .int .i64 b, .int .i64 c], .pointer (some ⟨w.heap.size,0,none⟩),undef, .pointer (some ⟨w.heap.size+1,0,none⟩), .int .i64 0, .pointer (some ⟨w.heap.size+1+1,0,none⟩),undef, .pointer (some ⟨Bx,0,none⟩), .pointer (some ⟨w.heap.size+1,0,none⟩), .bool a,u12,u13,u14,u15,u16,u17, .slice A1 l1.length c1, .func (.func 105) #[] #[.pointer (some ⟨Bs,0,none⟩)], .int .i64 ix, .agg #[.int .i64 x.f0, .int .i64 x.f1, .int .i64 x.f2], .pointer (some ⟨Bx,0,none⟩), .int .i64 x.f0, .bool false, .bool false,u26,u27,u28,u29,u30,u31,u32,u33,u34,u35,u36, .bool false, .bool false,u39,u40,u41,u42,u43,u44,u45,u46,u47,u48,u49,u50,u51, .bool true, .bool true, .int .i64 f, .bool true, .bool true, .pointer (some ⟨m,0,none⟩), .pointer (some ⟨m,0,none⟩), .pointer (some ⟨m,0,none⟩), .agg #[.slice At t.length ct],u61,u62,u63,u64,u65,u66,u67,u68,u69,u70,u71,u72,u73,u74,u75,u76,u77,u78,u79,u80,u81,u82,u83],defers:=[] }) rfl (by kernel_rfl) (by kernel_rfl) (by kernel_rfl) (fun _ _ _ h=>h) (Or.inl ⟨by kernel_rfl,?_⟩) hS0 (by kernel_rfl) ?_
       ·rintro W' ⟨s1,s2,s3,s4,s5,s6⟩
        go_simp
        try with_reducible rfl
       refine jDb (i:=7) (v:=.pointer (some ⟨m,0,none⟩)) (a':={ tmps:=#[.pointer (some ⟨m,0,none⟩), .slice A1 l1.length c1, .agg #[.bool a, .int .i64 b, .int .i64 c], .pointer (some ⟨w.heap.size,0,none⟩),undef, .pointer (some ⟨w.heap.size+1,0,none⟩), .int .i64 0, .pointer (some ⟨w.heap.size+1+1,0,none⟩),undef, .pointer (some ⟨Bx,0,none⟩), .pointer (some ⟨w.heap.size+1,0,none⟩), .bool a,u12,u13,u14,u15,u16,u17, .slice A1 l1.length c1, .func (.func 105) #[] #[.pointer (some ⟨Bs,0,none⟩)], .int .i64 ix, .agg #[.int .i64 x.f0, .int .i64 x.f1, .int .i64 x.f2], .pointer (some ⟨Bx,0,none⟩), .int .i64 x.f0, .bool false, .bool false,u26,u27,u28,u29,u30,u31,u32,u33,u34,u35,u36, .bool false, .bool false,u39,u40,u41,u42,u43,u44,u45,u46,u47,u48,u49,u50,u51, .bool true, .bool true, .int .i64 f, .bool true, .bool true, .pointer (some ⟨m,0,none⟩), .pointer (some ⟨m,0,none⟩), .pointer (some ⟨m,0,none⟩), .agg #[.slice At t.length ct], .pointer (some ⟨m,0,none⟩),u62,u63,u64,u65,u66,u67,u68,u69,u70,u71,u72,u73,u74,u75,u76,u77,u78,u79,u80,u81,u82,u83],defers:=[] }) rfl (by kernel_rfl) (by kernel_rfl) (by kernel_rfl) (fun _ _ _ h=>h) (Or.inl ⟨by kernel_rfl,?_⟩) hS0 (by kernel_rfl) ?_
       ·rintro W' ⟨s1,s2,s3,s4,s5,s6⟩
        go_simp
        try with_reducible rfl
       refine jDb (i:=8) (v:=.pointer (some ⟨m,0,none⟩)) (a':={ tmps:=#[.pointer (some ⟨m,0,none⟩), .slice A1 l1.length c1, .agg #[.bool a, .int .i64 b, .int .i64 c], .pointer (some ⟨w.heap.size,0,none⟩),undef, .pointer (some ⟨w.heap.size+1,0,none⟩), .int .i64 0, .pointer (some ⟨w.heap.size+1+1,0,none⟩),undef, .pointer (some ⟨Bx,0,none⟩), .pointer (some ⟨w.heap.size+1,0,none⟩), .bool a,u12,u13,u14,u15,u16,u17, .slice A1 l1.length c1, .func (.func 105) #[] #[.pointer (some ⟨Bs,0,none⟩)], .int .i64 ix, .agg #[.int .i64 x.f0, .int .i64 x.f1, .int .i64 x.f2], .pointer (some ⟨Bx,0,none⟩), .int .i64 x.f0, .bool false, .bool false,u26,u27,u28,u29,u30,u31,u32,u33,u34,u35,u36, .bool false, .bool false,u39,u40,u41,u42,u43,u44,u45,u46,u47,u48,u49,u50,u51, .bool true, .bool true, .int .i64 f, .bool true, .bool true, .pointer (some ⟨m,0,none⟩), .pointer (some ⟨m,0,none⟩), .pointer (some ⟨m,0,none⟩), .agg #[.slice At t.length ct], .pointer (some ⟨m,0,none⟩), .pointer (some ⟨m,0,none⟩),u63,u64,u65,u66,u67,u68,u69,u70,u71,u72,u73,u74,u75,u76,u77,u78,u79,u80,u81,u82,u83],defers:=[] }) rfl (by kernel_rfl) (by kernel_rfl) (by kernel_rfl) (fun _ _ _ h=>h) (Or.inl ⟨by kernel_rfl,?_⟩) hS0 (by kernel_rfl) ?_
       ·rintro W' ⟨s1,s2,s3,s4,s5,s6⟩
        go_simp
        try with_reducible rfl
       refine jDb (i:=9) (v:=.pointer (some ⟨m,3,none⟩)) (a':={ tmps:=#[.pointer (some ⟨m,0,none⟩), .slice A1 l1.length c1, .agg #[.bool a, .int .i64 b, .int .i64 c], .pointer (some ⟨w.heap.size,0,none⟩),undef, .pointer (some ⟨w.heap.size+1,0,none⟩), .int .i64 0, .pointer (some ⟨w.heap.size+1+1,0,none⟩),undef, .pointer (some ⟨Bx,0,none⟩), .pointer (some ⟨w.heap.size+1,0,none⟩), .bool a,u12,u13,u14,u15,u16,u17, .slice A1 l1.length c1, .func (.func 105) #[] #[.pointer (some ⟨Bs,0,none⟩)], .int .i64 ix, .agg #[.int .i64 x.f0, .int .i64 x.f1, .int .i64 x.f2], .pointer (some ⟨Bx,0,none⟩), .int .i64 x.f0, .bool false, .bool false,u26,u27,u28,u29,u30,u31,u32,u33,u34,u35,u36, .bool false, .bool false,u39,u40,u41,u42,u43,u44,u45,u46,u47,u48,u49,u50,u51, .bool true, .bool true, .int .i64 f, .bool true, .bool true, .pointer (some ⟨m,0,none⟩), .pointer (some ⟨m,0,none⟩), .pointer (some ⟨m,0,none⟩), .agg #[.slice At t.length ct], .pointer (some ⟨m,0,none⟩), .pointer (some ⟨m,0,none⟩), .pointer (some ⟨m,3,none⟩),u64,u65,u66,u67,u68,u69,u70,u71,u72,u73,u74,u75,u76,u77,u78,u79,u80,u81,u82,u83],defers:=[] }) rfl (by kernel_rfl) (by kernel_rfl) (by kernel_rfl) (fun _ _ _ h=>h) (Or.inl ⟨by kernel_rfl,?_⟩) hS0 (by kernel_rfl) ?_
       ·rintro W' ⟨s1,s2,s3,s4,s5,s6⟩
        go_simp
        try with_reducible rfl
       refine jDb (i:=10) (v:=.pointer (some ⟨m,3,none⟩)) (a':={ tmps:=#[.pointer (some ⟨m,0,none⟩), .slice A1 l1.length c1, .agg #[.bool a, .int .i64 b, .int .i64 c], .pointer (some ⟨w.heap.size,0,none⟩),undef, .pointer (some ⟨w.heap.size+1,0,none⟩), .int .i64 0, .pointer (some ⟨w.heap.size+1+1,0,none⟩),undef, .pointer (some ⟨Bx,0,none⟩), .pointer (some ⟨w.heap.size+1,0,none⟩), .bool a,u12,u13,u14,u15,u16,u17, .slice A1 l1.length c1, .func (.func 105) #[] #[.pointer (some ⟨Bs,0,none⟩)], .int .i64 ix, .agg #[.int .i64 x.f0, .int .i64 x.f1, .int .i64 x.f2], .pointer (some ⟨Bx,0,none⟩), .int .i64 x.f0, .bool false, .bool false,u26,u27,u28,u29,u30,u31,u32,u33,u34,u35,u36, .bool false, .bool false,u39,u40,u41,u42,u43,u44,u45,u46,u47,u48,u49,u50,u51, .bool true, .bool true, .int .i64 f, .bool true, .bool true, .pointer (some ⟨m,0,none⟩), .pointer (some ⟨m,0,none⟩), .pointer (some ⟨m,0,none⟩), .agg #[.slice At t.length ct], .pointer (some ⟨m,0,none⟩), .pointer (some ⟨m,0,none⟩), .pointer (some ⟨m,3,none⟩), .pointer (some ⟨m,3,none⟩),u65,u66,u67,u68,u69,u70,u71,u72,u73,u74,u75,u76,u77,u78,u79,u80,u81,u82,u83],defers:=[] }) rfl (by kernel_rfl) (by kernel_rfl) (by kernel_rfl) (fun _ _ _ h=>h) (Or.inl ⟨by kernel_rfl,?_⟩) hS0 (by kernel_rfl) ?_
       ·rintro W' ⟨s1,s2,s3,s4,s5,s6⟩
        go_simp
        try with_reducible rfl
       refine jDb (i:=11) (v:=.slice (some ⟨gg,0,none⟩) H.length cc) (a':={ tmps:=#[.pointer (some ⟨m,0,none⟩), .slice A1 l1.length c1, .agg #[.bool a, .int .i64 b, .int .i64 c], .pointer (some ⟨w.heap.size,0,none⟩),undef, .pointer (some ⟨w.heap.size+1,0,none⟩), .int .i64 0, .pointer (some ⟨w.heap.size+1+1,0,none⟩),undef, .pointer (some ⟨Bx,0,none⟩), .pointer (some ⟨w.heap.size+1,0,none⟩), .bool a,u12,u13,u14,u15,u16,u17, .slice A1 l1.length c1, .func (.func 105) #[] #[.pointer (some ⟨Bs,0,none⟩)], .int .i64 ix, .agg #[.int .i64 x.f0, .int .i64 x.f1, .int .i64 x.f2], .pointer (some ⟨Bx,0,none⟩), .int .i64 x.f0, .bool false, .bool false,u26,u27,u28,u29,u30,u31,u32,u33,u34,u35,u36, .bool false, .bool false,u39,u40,u41,u42,u43,u44,u45,u46,u47,u48,u49,u50,u51, .bool true, .bool true, .int .i64 f, .bool true, .bool true, .pointer (some ⟨m,0,none⟩), .pointer (some ⟨m,0,none⟩), .pointer (some ⟨m,0,none⟩), .agg #[.slice At t.length ct], .pointer (some ⟨m,0,none⟩), .pointer (some ⟨m,0,none⟩), .pointer (some ⟨m,3,none⟩), .pointer (some ⟨m,3,none⟩), .slice (some ⟨gg,0,none⟩) H.length cc,u66,u67,u68,u69,u70,u71,u72,u73,u74,u75,u76,u77,u78,u79,u80,u81,u82,u83],defers:=[] }) rfl (by kernel_rfl) (by kernel_rfl) (by kernel_rfl) (fun _ _ _ h=>h) (Or.inl ⟨by kernel_rfl,?_⟩) hS0 (by kernel_rfl) ?_
       ·rintro W' ⟨s1,s2,s3,s4,s5,s6⟩
        go_simp
        try with_reducible rfl
       refine jDb (i:=12) (v:=.int .i64 f) (a':={ tmps:=#[.pointer (some ⟨m,0,none⟩), .slice A1 l1.length c1, .agg #[.bool a, .int .i64 b, .int .i64 c], .pointer (some ⟨w.heap.size,0,none⟩),undef, .pointer (some ⟨w.heap.size+1,0,none⟩), .int .i64 0, .pointer (some ⟨w.heap.size+1+1,0,none⟩),undef, .pointer (some ⟨Bx,0,none⟩), .pointer (some ⟨w.heap.size+1,0,none⟩), .bool a,u12,u13,u14,u15,u16,u17, .slice A1 l1.length c1, .func (.func 105) #[] #[.pointer (some ⟨Bs,0,none⟩)], .int .i64 ix, .agg #[.int .i64 x.f0, .int .i64 x.f1, .int .i64 x.f2], .pointer (some ⟨Bx,0,none⟩), .int .i64 x.f0, .bool false, .bool false,u26,u27,u28,u29,u30,u31,u32,u33,u34,u35,u36, .bool false, .bool false,u39,u40,u41,u42,u43,u44,u45,u46,u47,u48,u49,u50,u51, .bool true, .bool true, .int .i64 f, .bool true, .bool true, .pointer (some ⟨m,0,none⟩), .pointer (some ⟨m,0,none⟩), .pointer (some ⟨m,0,none⟩), .agg #[.slice At t.length ct], .pointer (some ⟨m,0,none⟩), .pointer (some ⟨m,0,none⟩), .pointer (some ⟨m,3,none⟩), .pointer (some ⟨m,3,none⟩), .slice (some ⟨gg,0,none⟩) H.length cc, .int .i64 f,u67,u68,u69,u70,u71,u72,u73,u74,u75,u76,u77,u78,u79,u80,u81,u82,u83],defers:=[] }) rfl (by kernel_rfl) (by kernel_rfl) (by kernel_rfl) (fun _ _ _ h=>h) (Or.inl ⟨by kernel_rfl,?_⟩) hS0 (by kernel_rfl) ?_
       ·rintro W' ⟨s1,s2,s3,s4,s5,s6⟩
        go_simp
        try with_reducible rfl
       refine jDb (i:=13) (v:=.pointer (some ⟨gg,f.toNat * 5,none⟩)) (a':={ tmps:=#[.pointer (some ⟨m,0,none⟩), .slice A1 l1.length c1, .agg #[.bool a, .int .i64 b, .int .i64 c], .pointer (some ⟨w.heap.size,0,none⟩),undef, .pointer (some ⟨w.heap.size+1,0,none⟩), .int .i64 0, .pointer (some ⟨w.heap.size+1+1,0,none⟩),undef, .pointer (some ⟨Bx,0,none⟩), .pointer (some ⟨w.heap.size+1,0,none⟩), .bool a,u12,u13,u14,u15,u16,u17, .slice A1 l1.length c1, .func (.func 105) #[] #[.pointer (some ⟨Bs,0,none⟩)], .int .i64 ix, .agg #[.int .i64 x.f0, .int .i64 x.f1, .int .i64 x.f2], .pointer (some ⟨Bx,0,none⟩), .int .i64 x.f0, .bool false, .bool false,u26,u27,u28,u29,u30,u31,u32,u33,u34,u35,u36, .bool false, .bool false,u39,u40,u41,u42,u43,u44,u45,u46,u47,u48,u49,u50,u51, .bool true, .bool true, .int .i64 f, .bool true, .bool true, .pointer (some ⟨m,0,none⟩), .pointer (some ⟨m,0,none⟩), .pointer (some ⟨m,0,none⟩), .agg #[.slice At t.length ct], .pointer (some ⟨m,0,none⟩), .pointer (some ⟨m,0,none⟩), .pointer (some ⟨m,3,none⟩), .pointer (some ⟨m,3,none⟩), .slice (some ⟨gg,0,none⟩) H.length cc, .int .i64 f, .pointer (some ⟨gg,f.toNat * 5,none⟩),u68,u69,u70,u71,u72,u73,u74,u75,u76,u77,u78,u79,u80,u81,u82,u83],defers:=[] }) rfl (by kernel_rfl) (by kernel_rfl) (by kernel_rfl) (fun _ _ _ h=>h) (Or.inl ⟨by kernel_rfl,?_⟩) hS0 (by kernel_rfl) ?_
       ·rintro W' ⟨s1,s2,s3,s4,s5,s6⟩
        go_simp
        try with_reducible rfl
       refine jDb (i:=14) (v:=.pointer (some ⟨gg,f.toNat * 5,none⟩)) (a':={ tmps:=#[.pointer (some ⟨m,0,none⟩), .slice A1 l1.length c1, .agg #[.bool a, .int .i64 b, .int .i64 c], .pointer (some ⟨w.heap.size,0,none⟩),undef, .pointer (some ⟨w.heap.size+1,0,none⟩), .int .i64 0, .pointer (some ⟨w.heap.size+1+1,0,none⟩),undef, .pointer (some ⟨Bx,0,none⟩), .pointer (some ⟨w.heap.size+1,0,none⟩), .bool a,u12,u13,u14,u15,u16,u17, .slice A1 l1.length c1, .func (.func 105) #[] #[.pointer (some ⟨Bs,0,none⟩)], .int .i64 ix, .agg #[.int .i64 x.f0, .int .i64 x.f1, .int .i64 x.f2], .pointer (some ⟨Bx,0,none⟩), .int .i64 x.f0, .bool false, .bool false,u26,u27,u28,u29,u30,u31,u32,u33,u34,u35,u36, .bool false, .bool false,u39,u40,u41,u42,u43,u44,u45,u46,u47,u48,u49,u50,u51, .bool true, .bool true, .int .i64 f, .bool true, .bool true, .pointer (some ⟨m,0,none⟩), .pointer (some ⟨m,0,none⟩), .pointer (some ⟨m,0,none⟩), .agg #[.slice At t.length ct], .pointer (some ⟨m,0,none⟩), .pointer (some ⟨m,0,none⟩), .pointer (some ⟨m,3,none⟩), .pointer (some ⟨m,3,none⟩), .slice (some ⟨gg,0,none⟩) H.length cc, .int .i64 f, .pointer (some ⟨gg,f.toNat * 5,none⟩), .pointer (some ⟨gg,f.toNat * 5,none⟩),u69,u70,u71,u72,u73,u74,u75,u76,u77,u78,u79,u80,u81,u82,u83],defers:=[] }) rfl (by kernel_rfl) (by kernel_rfl) (by kernel_rfl) (fun _ _ _ h=>h) (Or.inl ⟨by kernel_rfl,?_⟩) hS0 (by kernel_rfl) ?_
       ·rintro W' ⟨s1,s2,s3,s4,s5,s6⟩
        go_simp
        try with_reducible rfl
       refine jDb (i:=15) (v:=.int .i64 (jo H f).f0) (a':={ tmps:=#[.pointer (some ⟨m,0,none⟩), .slice A1 l1.length c1, .agg #[.bool a, .int .i64 b, .int .i64 c], .pointer (some ⟨w.heap.size,0,none⟩),undef, .pointer (some ⟨w.heap.size+1,0,none⟩), .int .i64 0, .pointer (some ⟨w.heap.size+1+1,0,none⟩),undef, .pointer (some ⟨Bx,0,none⟩), .pointer (some ⟨w.heap.size+1,0,none⟩), .bool a,u12,u13,u14,u15,u16,u17, .slice A1 l1.length c1, .func (.func 105) #[] #[.pointer (some ⟨Bs,0,none⟩)], .int .i64 ix, .agg #[.int .i64 x.f0, .int .i64 x.f1, .int .i64 x.f2], .pointer (some ⟨Bx,0,none⟩), .int .i64 x.f0, .bool false, .bool false,u26,u27,u28,u29,u30,u31,u32,u33,u34,u35,u36, .bool false, .bool false,u39,u40,u41,u42,u43,u44,u45,u46,u47,u48,u49,u50,u51, .bool true, .bool true, .int .i64 f, .bool true, .bool true, .pointer (some ⟨m,0,none⟩), .pointer (some ⟨m,0,none⟩), .pointer (some ⟨m,0,none⟩), .agg #[.slice At t.length ct], .pointer (some ⟨m,0,none⟩), .pointer (some ⟨m,0,none⟩), .pointer (some ⟨m,3,none⟩), .pointer (some ⟨m,3,none⟩), .slice (some ⟨gg,0,none⟩) H.length cc, .int .i64 f, .pointer (some ⟨gg,f.toNat * 5,none⟩), .pointer (some ⟨gg,f.toNat * 5,none⟩), .int .i64 (jo H f).f0,u70,u71,u72,u73,u74,u75,u76,u77,u78,u79,u80,u81,u82,u83],defers:=[] }) rfl (by kernel_rfl) (by kernel_rfl) (by kernel_rfl) (fun _ _ _ h=>h) (Or.inl ⟨by kernel_rfl,?_⟩) hS0 (by kernel_rfl) ?_
       ·rintro W' ⟨s1,s2,s3,s4,s5,s6⟩
        go_simp
        try with_reducible rfl
       refine jDb (i:=16) (v:=.pointer (some ⟨Bx,1,none⟩)) (a':={ tmps:=#[.pointer (some ⟨m,0,none⟩), .slice A1 l1.length c1, .agg #[.bool a, .int .i64 b, .int .i64 c], .pointer (some ⟨w.heap.size,0,none⟩),undef, .pointer (some ⟨w.heap.size+1,0,none⟩), .int .i64 0, .pointer (some ⟨w.heap.size+1+1,0,none⟩),undef, .pointer (some ⟨Bx,0,none⟩), .pointer (some ⟨w.heap.size+1,0,none⟩), .bool a,u12,u13,u14,u15,u16,u17, .slice A1 l1.length c1, .func (.func 105) #[] #[.pointer (some ⟨Bs,0,none⟩)], .int .i64 ix, .agg #[.int .i64 x.f0, .int .i64 x.f1, .int .i64 x.f2], .pointer (some ⟨Bx,0,none⟩), .int .i64 x.f0, .bool false, .bool false,u26,u27,u28,u29,u30,u31,u32,u33,u34,u35,u36, .bool false, .bool false,u39,u40,u41,u42,u43,u44,u45,u46,u47,u48,u49,u50,u51, .bool true, .bool true, .int .i64 f, .bool true, .bool true, .pointer (some ⟨m,0,none⟩), .pointer (some ⟨m,0,none⟩), .pointer (some ⟨m,0,none⟩), .agg #[.slice At t.length ct], .pointer (some ⟨m,0,none⟩), .pointer (some ⟨m,0,none⟩), .pointer (some ⟨m,3,none⟩), .pointer (some ⟨m,3,none⟩), .slice (some ⟨gg,0,none⟩) H.length cc, .int .i64 f, .pointer (some ⟨gg,f.toNat * 5,none⟩), .pointer (some ⟨gg,f.toNat * 5,none⟩), .int .i64 (jo H f).f0, .pointer (some ⟨Bx,1,none⟩),u71,u72,u73,u74,u75,u76,u77,u78,u79,u80,u81,u82,u83],defers:=[] }) rfl (by kernel_rfl) (by kernel_rfl) (by kernel_rfl) (fun _ _ _ h=>h) (Or.inl ⟨by kernel_rfl,?_⟩) hS0 (by kernel_rfl) ?_
       ·rintro W' ⟨s1,s2,s3,s4,s5,s6⟩
        go_simp
        try with_reducible rfl
       refine jDb (i:=17) (v:=.int .i64 x.f1) (a':={ tmps:=#[.pointer (some ⟨m,0,none⟩), .slice A1 l1.length c1, .agg #[.bool a, .int .i64 b, .int .i64 c], .pointer (some ⟨w.heap.size,0,none⟩),undef, .pointer (some ⟨w.heap.size+1,0,none⟩), .int .i64 0, .pointer (some ⟨w.heap.size+1+1,0,none⟩),undef, .pointer (some ⟨Bx,0,none⟩), .pointer (some ⟨w.heap.size+1,0,none⟩), .bool a,u12,u13,u14,u15,u16,u17, .slice A1 l1.length c1, .func (.func 105) #[] #[.pointer (some ⟨Bs,0,none⟩)], .int .i64 ix, .agg #[.int .i64 x.f0, .int .i64 x.f1, .int .i64 x.f2], .pointer (some ⟨Bx,0,none⟩), .int .i64 x.f0, .bool false, .bool false,u26,u27,u28,u29,u30,u31,u32,u33,u34,u35,u36, .bool false, .bool false,u39,u40,u41,u42,u43,u44,u45,u46,u47,u48,u49,u50,u51, .bool true, .bool true, .int .i64 f, .bool true, .bool true, .pointer (some ⟨m,0,none⟩), .pointer (some ⟨m,0,none⟩), .pointer (some ⟨m,0,none⟩), .agg #[.slice At t.length ct], .pointer (some ⟨m,0,none⟩), .pointer (some ⟨m,0,none⟩), .pointer (some ⟨m,3,none⟩), .pointer (some ⟨m,3,none⟩), .slice (some ⟨gg,0,none⟩) H.length cc, .int .i64 f, .pointer (some ⟨gg,f.toNat * 5,none⟩), .pointer (some ⟨gg,f.toNat * 5,none⟩), .int .i64 (jo H f).f0, .pointer (some ⟨Bx,1,none⟩), .int .i64 x.f1,u72,u73,u74,u75,u76,u77,u78,u79,u80,u81,u82,u83],defers:=[] }) rfl (by kernel_rfl) (by kernel_rfl) (by kernel_rfl) (fun _ _ _ h=>h) (Or.inl ⟨by kernel_rfl,?_⟩) hS0 (by kernel_rfl) ?_
       ·rintro W' ⟨s1,s2,s3,s4,s5,s6⟩
        go_simp
        try with_reducible rfl
       refine wpAnyH_all (rs:=[18]) (by kernel_rfl) (by simp) ?_
       intro ii hii
       obtain rfl:ii=18:=by simpa using hii
       clear hii
       refine wpOp_step rfl (fun K hK=>?_)
       go_simp
       refine (KT.out _ (jlb (Below.refl _ _))).mono ?_
       rintro e w4 ⟨rfl,hb4⟩
       have HB4:=am (show Below W.heap.size W w4 from Below.trans (jlb (Below.refl _ _)) (hb4.mono (Nat.le_refl _)))
       have hS1:(fun W':World=>W'.cell? ⟨w.heap.size+1+1,0,none⟩=some (.int .i64 f)∧W'.cell? ⟨w.heap.size,0,none⟩=some (.pointer (some ⟨m,0,none⟩))∧W'.cell? ⟨Bx,1,none⟩=some (.int .i64 x.f1)∧W'.cell? ⟨m,0,none⟩=some (.slice At t.length ct)∧W'.cell? ⟨m,3,none⟩=some (.slice (some ⟨gg,0,none⟩) H.length cc)∧W'.cell? ⟨gg,f.toNat * 5,none⟩=some (.int .i64 (jo H f).f0)) w4:=⟨jia hb4 hS0.1,jia hb4 hS0.2.1,jia hb4 hS0.2.2.1,jia hb4 hS0.2.2.2.1,jia hb4 hS0.2.2.2.2.1,jia hb4 hS0.2.2.2.2.2⟩
       have HI4:=am (jfc HI.out HB4.out)
       have hF4:=HI4.out.1.1.1.2
       have cF4:=hF4.cell
       have fF4:=hF4.frozen
       clear hF4 hb4 KT
       refine hK _ _ ⟨hS1,?_⟩
       clear hK K
       refine jDb (i:=19) (v:=.bool bb) (a':={ tmps:=#[.pointer (some ⟨m,0,none⟩), .slice A1 l1.length c1, .agg #[.bool a, .int .i64 b, .int .i64 c], .pointer (some ⟨w.heap.size,0,none⟩),undef, .pointer (some ⟨w.heap.size+1,0,none⟩), .int .i64 0, .pointer (some ⟨w.heap.size+1+1,0,none⟩),undef, .pointer (some ⟨Bx,0,none⟩), .pointer (some ⟨w.heap.size+1,0,none⟩), .bool a,u12,u13,u14,u15,u16,u17, .slice A1 l1.length c1, .func (.func 105) #[] #[.pointer (some ⟨Bs,0,none⟩)], .int .i64 ix, .agg #[.int .i64 x.f0, .int .i64 x.f1, .int .i64 x.f2], .pointer (some ⟨Bx,0,none⟩), .int .i64 x.f0, .bool false, .bool false,u26,u27,u28,u29,u30,u31,u32,u33,u34,u35,u36, .bool false, .bool false,u39,u40,u41,u42,u43,u44,u45,u46,u47,u48,u49,u50,u51, .bool true, .bool true, .int .i64 f, .bool true, .bool true, .pointer (some ⟨m,0,none⟩), .pointer (some ⟨m,0,none⟩), .pointer (some ⟨m,0,none⟩), .agg #[.slice At t.length ct], .pointer (some ⟨m,0,none⟩), .pointer (some ⟨m,0,none⟩), .pointer (some ⟨m,3,none⟩), .pointer (some ⟨m,3,none⟩), .slice (some ⟨gg,0,none⟩) H.length cc, .int .i64 f, .pointer (some ⟨gg,f.toNat * 5,none⟩), .pointer (some ⟨gg,f.toNat * 5,none⟩), .int .i64 (jo H f).f0, .pointer (some ⟨Bx,1,none⟩), .int .i64 x.f1, .bool bb, .bool bb,u74,u75,u76,u77,u78,u79,u80,u81,u82,u83],defers:=[] }) rfl (by kernel_rfl) (by kernel_rfl) (by kernel_rfl) (fun _ _ _ h=>h) (Or.inl ⟨by kernel_rfl,?_⟩) hS1 (by kernel_rfl) ?_
       ·rintro W' ⟨s1,s2,s3,s4,s5,s6⟩
        go_simp
        try with_reducible rfl
       refine wpAnyH_done (by kernel_rfl) ?_ _
       rename_i K9 hK9
       refine hK9 _ _ ?_
       clear hK9 hS0 hS1 c0 cF fF x0 x1 x2 cm0 cm3 k0
       go_simp
       cases bb with
       | true =>
        gi_wp2
        exact ⟨(KeepsFrom.of_belowM HB4.out _).trans ((KeepsOthers.setCell _ _ _).from _),fun _=>IR.out _ _ (mIV_fault (by omega) HI4.out (by omega) (by omega) (-1)),by show mIV w m (w.heap.size+1+1) Bs (.slice A1 l1.length c1) At ct t cp fst _ (mAcc s0 (pre ++ [⟨(ix,x),hx⟩]));rw [HF.out];exact mIV_fault (by omega) HI4.out (by omega) (by omega) (-1)⟩
       | false =>
        gi_wp2
        exact ⟨KeepsFrom.of_belowM HB4.out _,fun _=>IR.out _ _ HI4.out,by show mIV w m (w.heap.size+1+1) Bs (.slice A1 l1.length c1) At ct t cp fst _ (mAcc s0 (pre ++ [⟨(ix,x),hx⟩]));rw [HF.out];exact HI4.out⟩
      ·have HF:=am (show mAcc s0 (pre ++ [⟨(ix,x),hx⟩])=(lg,H,f) by rw [HSN.out];unfold stT;simp only [];rw [if_neg (show ¬ x.f0=0 by omega)];rw [if_neg (show ¬ x.f0=1 by omega)];rw [if_pos hk,dzF hf,Bool.false_and,if_neg (by simp)])
       have f0:(x.f0 == 0)=false:=by simp [hk]
       have f1:(x.f0 == 1)=false:=by simp [hk]
       have f2:(x.f0 == 2)=true:=by simp [hk]
       have f3:(x.f0 == 3)=false:=by simp [hk]
       have q0:=dzF (show ¬ f≥0 by omega)
       clear hk
       gi_wp2
       refine jZb (S:=(fun W':World=>W'.cell? ⟨w.heap.size+1+1,0,none⟩=some (.int .i64 f))) hmx (by kernel_rfl) ?hL ?_
       case hL=>rintro ⟨_,_,h⟩;exact h
       change wpAnyH _ _ _ _ _ _ _ _ (World.drew W)
       have hS0:(fun W':World=>W'.cell? ⟨w.heap.size+1+1,0,none⟩=some (.int .i64 f)) (World.drew W):=cF
       refine jDb (i:=0) (v:=.int .i64 f) (a':={ tmps:=#[.pointer (some ⟨m,0,none⟩), .slice A1 l1.length c1, .agg #[.bool a, .int .i64 b, .int .i64 c], .pointer (some ⟨w.heap.size,0,none⟩),undef, .pointer (some ⟨w.heap.size+1,0,none⟩), .int .i64 0, .pointer (some ⟨w.heap.size+1+1,0,none⟩),undef, .pointer (some ⟨Bx,0,none⟩), .pointer (some ⟨w.heap.size+1,0,none⟩), .bool a,u12,u13,u14,u15,u16,u17, .slice A1 l1.length c1, .func (.func 105) #[] #[.pointer (some ⟨Bs,0,none⟩)], .int .i64 ix, .agg #[.int .i64 x.f0, .int .i64 x.f1, .int .i64 x.f2], .pointer (some ⟨Bx,0,none⟩), .int .i64 x.f0, .bool false, .bool false,u26,u27,u28,u29,u30,u31,u32,u33,u34,u35,u36, .bool false, .bool false,u39,u40,u41,u42,u43,u44,u45,u46,u47,u48,u49,u50,u51, .bool true, .bool true, .int .i64 f,u55,u56,u57,u58,u59,u60,u61,u62,u63,u64,u65,u66,u67,u68,u69,u70,u71,u72,u73,u74,u75,u76,u77,u78,u79,u80,u81,u82,u83],defers:=[] }) rfl (by kernel_rfl) (by kernel_rfl) (by kernel_rfl) (fun _ _ _ h=>h) (Or.inl ⟨by kernel_rfl,?_⟩) hS0 (by kernel_rfl) ?_
       ·rintro W' s1
        go_simp
        try with_reducible rfl
       refine jDb (i:=1) (v:=.bool false) (a':={ tmps:=#[.pointer (some ⟨m,0,none⟩), .slice A1 l1.length c1, .agg #[.bool a, .int .i64 b, .int .i64 c], .pointer (some ⟨w.heap.size,0,none⟩),undef, .pointer (some ⟨w.heap.size+1,0,none⟩), .int .i64 0, .pointer (some ⟨w.heap.size+1+1,0,none⟩),undef, .pointer (some ⟨Bx,0,none⟩), .pointer (some ⟨w.heap.size+1,0,none⟩), .bool a,u12,u13,u14,u15,u16,u17, .slice A1 l1.length c1, .func (.func 105) #[] #[.pointer (some ⟨Bs,0,none⟩)], .int .i64 ix, .agg #[.int .i64 x.f0, .int .i64 x.f1, .int .i64 x.f2], .pointer (some ⟨Bx,0,none⟩), .int .i64 x.f0, .bool false, .bool false,u26,u27,u28,u29,u30,u31,u32,u33,u34,u35,u36, .bool false, .bool false,u39,u40,u41,u42,u43,u44,u45,u46,u47,u48,u49,u50,u51, .bool true, .bool true, .int .i64 f, .bool false,u56,u57,u58,u59,u60,u61,u62,u63,u64,u65,u66,u67,u68,u69,u70,u71,u72,u73,u74,u75,u76,u77,u78,u79,u80,u81,u82,u83],defers:=[] }) rfl (by kernel_rfl) (by kernel_rfl) (by kernel_rfl) (fun _ _ _ h=>h) (Or.inl ⟨by kernel_rfl,?_⟩) hS0 (by kernel_rfl) ?_
       ·rintro W' s1
        go_simp
        try with_reducible rfl
       refine jDb (i:=2) (v:=.bool false) (a':={ tmps:=#[.pointer (some ⟨m,0,none⟩), .slice A1 l1.length c1, .agg #[.bool a, .int .i64 b, .int .i64 c], .pointer (some ⟨w.heap.size,0,none⟩),undef, .pointer (some ⟨w.heap.size+1,0,none⟩), .int .i64 0, .pointer (some ⟨w.heap.size+1+1,0,none⟩),undef, .pointer (some ⟨Bx,0,none⟩), .pointer (some ⟨w.heap.size+1,0,none⟩), .bool a,u12,u13,u14,u15,u16,u17, .slice A1 l1.length c1, .func (.func 105) #[] #[.pointer (some ⟨Bs,0,none⟩)], .int .i64 ix, .agg #[.int .i64 x.f0, .int .i64 x.f1, .int .i64 x.f2], .pointer (some ⟨Bx,0,none⟩), .int .i64 x.f0, .bool false, .bool false,u26,u27,u28,u29,u30,u31,u32,u33,u34,u35,u36, .bool false, .bool false,u39,u40,u41,u42,u43,u44,u45,u46,u47,u48,u49,u50,u51, .bool true, .bool true, .int .i64 f, .bool false, .bool false,u57,u58,u59,u60,u61,u62,u63,u64,u65,u66,u67,u68,u69,u70,u71,u72,u73,u74,u75,u76,u77,u78,u79,u80,u81,u82,u83],defers:=[] }) rfl (by kernel_rfl) (by kernel_rfl) (by kernel_rfl) (fun _ _ _ h=>h) (Or.inl ⟨by kernel_rfl,?_⟩) hS0 (by kernel_rfl) ?_
       ·rintro W' s1
        go_simp
        try with_reducible rfl
       refine jDb (i:=3) (v:=undef) (a':={ tmps:=#[.pointer (some ⟨m,0,none⟩), .slice A1 l1.length c1, .agg #[.bool a, .int .i64 b, .int .i64 c], .pointer (some ⟨w.heap.size,0,none⟩),undef, .pointer (some ⟨w.heap.size+1,0,none⟩), .int .i64 0, .pointer (some ⟨w.heap.size+1+1,0,none⟩),undef, .pointer (some ⟨Bx,0,none⟩), .pointer (some ⟨w.heap.size+1,0,none⟩), .bool a,u12,u13,u14,u15,u16,u17, .slice A1 l1.length c1, .func (.func 105) #[] #[.pointer (some ⟨Bs,0,none⟩)], .int .i64 ix, .agg #[.int .i64 x.f0, .int .i64 x.f1, .int .i64 x.f2], .pointer (some ⟨Bx,0,none⟩), .int .i64 x.f0, .bool false, .bool false,u26,u27,u28,u29,u30,u31,u32,u33,u34,u35,u36, .bool false, .bool false,u39,u40,u41,u42,u43,u44,u45,u46,u47,u48,u49,u50,u51, .bool true, .bool true, .int .i64 f, .bool false, .bool false,undef,u58,u59,u60,u61,u62,u63,u64,u65,u66,u67,u68,u69,u70,u71,u72,u73,u74,u75,u76,u77,u78,u79,u80,u81,u82,u83],defers:=[] }) rfl (by kernel_rfl) (by kernel_rfl) (by kernel_rfl) (fun _ _ _ h=>h) (Or.inr ⟨by kernel_rfl,rfl⟩) hS0 (by kernel_rfl) ?_
       refine jDb (i:=4) (v:=undef) (a':={ tmps:=#[.pointer (some ⟨m,0,none⟩), .slice A1 l1.length c1, .agg #[.bool a, .int .i64 b, .int .i64 c], .pointer (some ⟨w.heap.size,0,none⟩),undef, .pointer (some ⟨w.heap.size+1,0,none⟩), .int .i64 0, .pointer (some ⟨w.heap.size+1+1,0,none⟩),undef, .pointer (some ⟨Bx,0,none⟩), .pointer (some ⟨w.heap.size+1,0,none⟩), .bool a,u12,u13,u14,u15,u16,u17, .slice A1 l1.length c1, .func (.func 105) #[] #[.pointer (some ⟨Bs,0,none⟩)], .int .i64 ix, .agg #[.int .i64 x.f0, .int .i64 x.f1, .int .i64 x.f2], .pointer (some ⟨Bx,0,none⟩), .int .i64 x.f0, .bool false, .bool false,u26,u27,u28,u29,u30,u31,u32,u33,u34,u35,u36, .bool false, .bool false,u39,u40,u41,u42,u43,u44,u45,u46,u47,u48,u49,u50,u51, .bool true, .bool true, .int .i64 f, .bool false, .bool false,undef,undef,u59,u60,u61,u62,u63,u64,u65,u66,u67,u68,u69,u70,u71,u72,u73,u74,u75,u76,u77,u78,u79,u80,u81,u82,u83],defers:=[] }) rfl (by kernel_rfl) (by kernel_rfl) (by kernel_rfl) (fun _ _ _ h=>h) (Or.inr ⟨by kernel_rfl,rfl⟩) hS0 (by kernel_rfl) ?_
       refine jDb (i:=5) (v:=undef) (a':={ tmps:=#[.pointer (some ⟨m,0,none⟩), .slice A1 l1.length c1, .agg #[.bool a, .int .i64 b, .int .i64 c], .pointer (some ⟨w.heap.size,0,none⟩),undef, .pointer (some ⟨w.heap.size+1,0,none⟩), .int .i64 0, .pointer (some ⟨w.heap.size+1+1,0,none⟩),undef, .pointer (some ⟨Bx,0,none⟩), .pointer (some ⟨w.heap.size+1,0,none⟩), .bool a,u12,u13,u14,u15,u16,u17, .slice A1 l1.length c1, .func (.func 105) #[] #[.pointer (some ⟨Bs,0,none⟩)], .int .i64 ix, .agg #[.int .i64 x.f0, .int .i64 x.f1, .int .i64 x.f2], .pointer (some ⟨Bx,0,none⟩), .int .i64 x.f0, .bool false, .bool false,u26,u27,u28,u29,u30,u31,u32,u33,u34,u35,u36, .bool false, .bool false,u39,u40,u41,u42,u43,u44,u45,u46,u47,u48,u49,u50,u51, .bool true, .bool true, .int .i64 f, .bool false, .bool false,undef,undef,undef,u60,u61,u62,u63,u64,u65,u66,u67,u68,u69,u70,u71,u72,u73,u74,u75,u76,u77,u78,u79,u80,u81,u82,u83],defers:=[] }) rfl (by kernel_rfl) (by kernel_rfl) (by kernel_rfl) (fun _ _ _ h=>h) (Or.inr ⟨by kernel_rfl,rfl⟩) hS0 (by kernel_rfl) ?_
       refine jDb (i:=6) (v:=undef) (a':={ tmps:=#[.pointer (some ⟨m,0,none⟩), .slice A1 l1.length c1, .agg #[.bool a, .int .i64 b, .int .i64 c], .pointer (some ⟨w.heap.size,0,none⟩),undef, .pointer (some ⟨w.heap.size+1,0,none⟩), .int .i64 0, .pointer (some ⟨w.heap.size+1+1,0,none⟩),undef, .pointer (some ⟨Bx,0,none⟩), .pointer (some ⟨w.heap.size+1,0,none⟩), .bool a,u12,u13,u14,u15,u16,u17, .slice A1 l1.length c1, .func (.func 105) #[] #[.pointer (some ⟨Bs,0,none⟩)], .int .i64 ix, .agg #[.int .i64 x.f0, .int .i64 x.f1, .int .i64 x.f2], .pointer (some ⟨Bx,0,none⟩), .int .i64 x.f0, .bool false, .bool false,u26,u27,u28,u29,u30,u31,u32,u33,u34,u35,u36, .bool false, .bool false,u39,u40,u41,u42,u43,u44,u45,u46,u47,u48,u49,u50,u51, .bool true, .bool true, .int .i64 f, .bool false, .bool false,undef,undef,undef,undef,u61,u62,u63,u64,u65,u66,u67,u68,u69,u70,u71,u72,u73,u74,u75,u76,u77,u78,u79,u80,u81,u82,u83],defers:=[] }) rfl (by kernel_rfl) (by kernel_rfl) (by kernel_rfl) (fun _ _ _ h=>h) (Or.inr ⟨by kernel_rfl,rfl⟩) hS0 (by kernel_rfl) ?_
       refine jDb (i:=7) (v:=undef) (a':={ tmps:=#[.pointer (some ⟨m,0,none⟩), .slice A1 l1.length c1, .agg #[.bool a, .int .i64 b, .int .i64 c], .pointer (some ⟨w.heap.size,0,none⟩),undef, .pointer (some ⟨w.heap.size+1,0,none⟩), .int .i64 0, .pointer (some ⟨w.heap.size+1+1,0,none⟩),undef, .pointer (some ⟨Bx,0,none⟩), .pointer (some ⟨w.heap.size+1,0,none⟩), .bool a,u12,u13,u14,u15,u16,u17, .slice A1 l1.length c1, .func (.func 105) #[] #[.pointer (some ⟨Bs,0,none⟩)], .int .i64 ix, .agg #[.int .i64 x.f0, .int .i64 x.f1, .int .i64 x.f2], .pointer (some ⟨Bx,0,none⟩), .int .i64 x.f0, .bool false, .bool false,u26,u27,u28,u29,u30,u31,u32,u33,u34,u35,u36, .bool false, .bool false,u39,u40,u41,u42,u43,u44,u45,u46,u47,u48,u49,u50,u51, .bool true, .bool true, .int .i64 f, .bool false, .bool false,undef,undef,undef,undef,undef,u62,u63,u64,u65,u66,u67,u68,u69,u70,u71,u72,u73,u74,u75,u76,u77,u78,u79,u80,u81,u82,u83],defers:=[] }) rfl (by kernel_rfl) (by kernel_rfl) (by kernel_rfl) (fun _ _ _ h=>h) (Or.inr ⟨by kernel_rfl,rfl⟩) hS0 (by kernel_rfl) ?_
       refine jDb (i:=8) (v:=undef) (a':={ tmps:=#[.pointer (some ⟨m,0,none⟩), .slice A1 l1.length c1, .agg #[.bool a, .int .i64 b, .int .i64 c], .pointer (some ⟨w.heap.size,0,none⟩),undef, .pointer (some ⟨w.heap.size+1,0,none⟩), .int .i64 0, .pointer (some ⟨w.heap.size+1+1,0,none⟩),undef, .pointer (some ⟨Bx,0,none⟩), .pointer (some ⟨w.heap.size+1,0,none⟩), .bool a,u12,u13,u14,u15,u16,u17, .slice A1 l1.length c1, .func (.func 105) #[] #[.pointer (some ⟨Bs,0,none⟩)], .int .i64 ix, .agg #[.int .i64 x.f0, .int .i64 x.f1, .int .i64 x.f2], .pointer (some ⟨Bx,0,none⟩), .int .i64 x.f0, .bool false, .bool false,u26,u27,u28,u29,u30,u31,u32,u33,u34,u35,u36, .bool false, .bool false,u39,u40,u41,u42,u43,u44,u45,u46,u47,u48,u49,u50,u51, .bool true, .bool true, .int .i64 f, .bool false, .bool false,undef,undef,undef,undef,undef,undef,u63,u64,u65,u66,u67,u68,u69,u70,u71,u72,u73,u74,u75,u76,u77,u78,u79,u80,u81,u82,u83],defers:=[] }) rfl (by kernel_rfl) (by kernel_rfl) (by kernel_rfl) (fun _ _ _ h=>h) (Or.inr ⟨by kernel_rfl,rfl⟩) hS0 (by kernel_rfl) ?_
       refine jDb (i:=9) (v:=undef) (a':={ tmps:=#[.pointer (some ⟨m,0,none⟩), .slice A1 l1.length c1, .agg #[.bool a, .int .i64 b, .int .i64 c], .pointer (some ⟨w.heap.size,0,none⟩),undef, .pointer (some ⟨w.heap.size+1,0,none⟩), .int .i64 0, .pointer (some ⟨w.heap.size+1+1,0,none⟩),undef, .pointer (some ⟨Bx,0,none⟩), .pointer (some ⟨w.heap.size+1,0,none⟩), .bool a,u12,u13,u14,u15,u16,u17, .slice A1 l1.length c1, .func (.func 105) #[] #[.pointer (some ⟨Bs,0,none⟩)], .int .i64 ix, .agg #[.int .i64 x.f0, .int .i64 x.f1, .int .i64 x.f2], .pointer (some ⟨Bx,0,none⟩), .int .i64 x.f0, .bool false, .bool false,u26,u27,u28,u29,u30,u31,u32,u33,u34,u35,u36, .bool false, .bool false,u39,u40,u41,u42,u43,u44,u45,u46,u47,u48,u49,u50,u51, .bool true, .bool true, .int .i64 f, .bool false, .bool false,undef,undef,undef,undef,undef,undef,undef,u64,u65,u66,u67,u68,u69,u70,u71,u72,u73,u74,u75,u76,u77,u78,u79,u80,u81,u82,u83],defers:=[] }) rfl (by kernel_rfl) (by kernel_rfl) (by kernel_rfl) (fun _ _ _ h=>h) (Or.inr ⟨by kernel_rfl,rfl⟩) hS0 (by kernel_rfl) ?_
       refine jDb (i:=10) (v:=undef) (a':={ tmps:=#[.pointer (some ⟨m,0,none⟩), .slice A1 l1.length c1, .agg #[.bool a, .int .i64 b, .int .i64 c], .pointer (some ⟨w.heap.size,0,none⟩),undef, .pointer (some ⟨w.heap.size+1,0,none⟩), .int .i64 0, .pointer (some ⟨w.heap.size+1+1,0,none⟩),undef, .pointer (some ⟨Bx,0,none⟩), .pointer (some ⟨w.heap.size+1,0,none⟩), .bool a,u12,u13,u14,u15,u16,u17, .slice A1 l1.length c1, .func (.func 105) #[] #[.pointer (some ⟨Bs,0,none⟩)], .int .i64 ix, .agg #[.int .i64 x.f0, .int .i64 x.f1, .int .i64 x.f2], .pointer (some ⟨Bx,0,none⟩), .int .i64 x.f0, .bool false, .bool false,u26,u27,u28,u29,u30,u31,u32,u33,u34,u35,u36, .bool false, .bool false,u39,u40,u41,u42,u43,u44,u45,u46,u47,u48,u49,u50,u51, .bool true, .bool true, .int .i64 f, .bool false, .bool false,undef,undef,undef,undef,undef,undef,undef,undef,u65,u66,u67,u68,u69,u70,u71,u72,u73,u74,u75,u76,u77,u78,u79,u80,u81,u82,u83],defers:=[] }) rfl (by kernel_rfl) (by kernel_rfl) (by kernel_rfl) (fun _ _ _ h=>h) (Or.inr ⟨by kernel_rfl,rfl⟩) hS0 (by kernel_rfl) ?_
       refine jDb (i:=11) (v:=undef) (a':={ tmps:=#[.pointer (some ⟨m,0,none⟩), .slice A1 l1.length c1, .agg #[.bool a, .int .i64 b, .int .i64 c], .pointer (some ⟨w.heap.size,0,none⟩),undef, .pointer (some ⟨w.heap.size+1,0,none⟩), .int .i64 0, .pointer (some ⟨w.heap.size+1+1,0,none⟩),undef, .pointer (some ⟨Bx,0,none⟩), .pointer (some ⟨w.heap.size+1,0,none⟩), .bool a,u12,u13,u14,u15,u16,u17, .slice A1 l1.length c1, .func (.func 105) #[] #[.pointer (some ⟨Bs,0,none⟩)], .int .i64 ix, .agg #[.int .i64 x.f0, .int .i64 x.f1, .int .i64 x.f2], .pointer (some ⟨Bx,0,none⟩), .int .i64 x.f0, .bool false, .bool false,u26,u27,u28,u29,u30,u31,u32,u33,u34,u35,u36, .bool false, .bool false,u39,u40,u41,u42,u43,u44,u45,u46,u47,u48,u49,u50,u51, .bool true, .bool true, .int .i64 f, .bool false, .bool false,undef,undef,undef,undef,undef,undef,undef,undef,undef,u66,u67,u68,u69,u70,u71,u72,u73,u74,u75,u76,u77,u78,u79,u80,u81,u82,u83],defers:=[] }) rfl (by kernel_rfl) (by kernel_rfl) (by kernel_rfl) (fun _ _ _ h=>h) (Or.inr ⟨by kernel_rfl,rfl⟩) hS0 (by kernel_rfl) ?_
       refine jDb (i:=12) (v:=undef) (a':={ tmps:=#[.pointer (some ⟨m,0,none⟩), .slice A1 l1.length c1, .agg #[.bool a, .int .i64 b, .int .i64 c], .pointer (some ⟨w.heap.size,0,none⟩),undef, .pointer (some ⟨w.heap.size+1,0,none⟩), .int .i64 0, .pointer (some ⟨w.heap.size+1+1,0,none⟩),undef, .pointer (some ⟨Bx,0,none⟩), .pointer (some ⟨w.heap.size+1,0,none⟩), .bool a,u12,u13,u14,u15,u16,u17, .slice A1 l1.length c1, .func (.func 105) #[] #[.pointer (some ⟨Bs,0,none⟩)], .int .i64 ix, .agg #[.int .i64 x.f0, .int .i64 x.f1, .int .i64 x.f2], .pointer (some ⟨Bx,0,none⟩), .int .i64 x.f0, .bool false, .bool false,u26,u27,u28,u29,u30,u31,u32,u33,u34,u35,u36, .bool false, .bool false,u39,u40,u41,u42,u43,u44,u45,u46,u47,u48,u49,u50,u51, .bool true, .bool true, .int .i64 f, .bool false, .bool false,undef,undef,undef,undef,undef,undef,undef,undef,undef,undef,u67,u68,u69,u70,u71,u72,u73,u74,u75,u76,u77,u78,u79,u80,u81,u82,u83],defers:=[] }) rfl (by kernel_rfl) (by kernel_rfl) (by kernel_rfl) (fun _ _ _ h=>h) (Or.inr ⟨by kernel_rfl,rfl⟩) hS0 (by kernel_rfl) ?_
       refine jDb (i:=13) (v:=undef) (a':={ tmps:=#[.pointer (some ⟨m,0,none⟩), .slice A1 l1.length c1, .agg #[.bool a, .int .i64 b, .int .i64 c], .pointer (some ⟨w.heap.size,0,none⟩),undef, .pointer (some ⟨w.heap.size+1,0,none⟩), .int .i64 0, .pointer (some ⟨w.heap.size+1+1,0,none⟩),undef, .pointer (some ⟨Bx,0,none⟩), .pointer (some ⟨w.heap.size+1,0,none⟩), .bool a,u12,u13,u14,u15,u16,u17, .slice A1 l1.length c1, .func (.func 105) #[] #[.pointer (some ⟨Bs,0,none⟩)], .int .i64 ix, .agg #[.int .i64 x.f0, .int .i64 x.f1, .int .i64 x.f2], .pointer (some ⟨Bx,0,none⟩), .int .i64 x.f0, .bool false, .bool false,u26,u27,u28,u29,u30,u31,u32,u33,u34,u35,u36, .bool false, .bool false,u39,u40,u41,u42,u43,u44,u45,u46,u47,u48,u49,u50,u51, .bool true, .bool true, .int .i64 f, .bool false, .bool false,undef,undef,undef,undef,undef,undef,undef,undef,undef,undef,undef,u68,u69,u70,u71,u72,u73,u74,u75,u76,u77,u78,u79,u80,u81,u82,u83],defers:=[] }) rfl (by kernel_rfl) (by kernel_rfl) (by kernel_rfl) (fun _ _ _ h=>h) (Or.inr ⟨by kernel_rfl,rfl⟩) hS0 (by kernel_rfl) ?_
       refine jDb (i:=14) (v:=undef) (a':={ tmps:=#[.pointer (some ⟨m,0,none⟩), .slice A1 l1.length c1, .agg #[.bool a, .int .i64 b, .int .i64 c], .pointer (some ⟨w.heap.size,0,none⟩),undef, .pointer (some ⟨w.heap.size+1,0,none⟩), .int .i64 0, .pointer (some ⟨w.heap.size+1+1,0,none⟩),undef, .pointer (some ⟨Bx,0,none⟩), .pointer (some ⟨w.heap.size+1,0,none⟩), .bool a,u12,u13,u14,u15,u16,u17, .slice A1 l1.length c1, .func (.func 105) #[] #[.pointer (some ⟨Bs,0,none⟩)], .int .i64 ix, .agg #[.int .i64 x.f0, .int .i64 x.f1, .int .i64 x.f2], .pointer (some ⟨Bx,0,none⟩), .int .i64 x.f0, .bool false, .bool false,u26,u27,u28,u29,u30,u31,u32,u33,u34,u35,u36, .bool false, .bool false,u39,u40,u41,u42,u43,u44,u45,u46,u47,u48,u49,u50,u51, .bool true, .bool true, .int .i64 f, .bool false, .bool false,undef,undef,undef,undef,undef,undef,undef,undef,undef,undef,undef,undef,u69,u70,u71,u72,u73,u74,u75,u76,u77,u78,u79,u80,u81,u82,u83],defers:=[] }) rfl (by kernel_rfl) (by kernel_rfl) (by kernel_rfl) (fun _ _ _ h=>h) (Or.inr ⟨by kernel_rfl,rfl⟩) hS0 (by kernel_rfl) ?_
       refine jDb (i:=15) (v:=undef) (a':={ tmps:=#[.pointer (some ⟨m,0,none⟩), .slice A1 l1.length c1, .agg #[.bool a, .int .i64 b, .int .i64 c], .pointer (some ⟨w.heap.size,0,none⟩),undef, .pointer (some ⟨w.heap.size+1,0,none⟩), .int .i64 0, .pointer (some ⟨w.heap.size+1+1,0,none⟩),undef, .pointer (some ⟨Bx,0,none⟩), .pointer (some ⟨w.heap.size+1,0,none⟩), .bool a,u12,u13,u14,u15,u16,u17, .slice A1 l1.length c1, .func (.func 105) #[] #[.pointer (some ⟨Bs,0,none⟩)], .int .i64 ix, .agg #[.int .i64 x.f0, .int .i64 x.f1, .int .i64 x.f2], .pointer (some ⟨Bx,0,none⟩), .int .i64 x.f0, .bool false, .bool false,u26,u27,u28,u29,u30,u31,u32,u33,u34,u35,u36, .bool false, .bool false,u39,u40,u41,u42,u43,u44,u45,u46,u47,u48,u49,u50,u51, .bool true, .bool true, .int .i64 f, .bool false, .bool false,undef,undef,undef,undef,undef,undef,undef,undef,undef,undef,undef,undef,undef,u70,u71,u72,u73,u74,u75,u76,u77,u78,u79,u80,u81,u82,u83],defers:=[] }) rfl (by kernel_rfl) (by kernel_rfl) (by kernel_rfl) (fun _ _ _ h=>h) (Or.inr ⟨by kernel_rfl,rfl⟩) hS0 (by kernel_rfl) ?_
       refine jDb (i:=16) (v:=undef) (a':={ tmps:=#[.pointer (some ⟨m,0,none⟩), .slice A1 l1.length c1, .agg #[.bool a, .int .i64 b, .int .i64 c], .pointer (some ⟨w.heap.size,0,none⟩),undef, .pointer (some ⟨w.heap.size+1,0,none⟩), .int .i64 0, .pointer (some ⟨w.heap.size+1+1,0,none⟩),undef, .pointer (some ⟨Bx,0,none⟩), .pointer (some ⟨w.heap.size+1,0,none⟩), .bool a,u12,u13,u14,u15,u16,u17, .slice A1 l1.length c1, .func (.func 105) #[] #[.pointer (some ⟨Bs,0,none⟩)], .int .i64 ix, .agg #[.int .i64 x.f0, .int .i64 x.f1, .int .i64 x.f2], .pointer (some ⟨Bx,0,none⟩), .int .i64 x.f0, .bool false, .bool false,u26,u27,u28,u29,u30,u31,u32,u33,u34,u35,u36, .bool false, .bool false,u39,u40,u41,u42,u43,u44,u45,u46,u47,u48,u49,u50,u51, .bool true, .bool true, .int .i64 f, .bool false, .bool false,undef,undef,undef,undef,undef,undef,undef,undef,undef,undef,undef,undef,undef,undef,u71,u72,u73,u74,u75,u76,u77,u78,u79,u80,u81,u82,u83],defers:=[] }) rfl (by kernel_rfl) (by kernel_rfl) (by kernel_rfl) (fun _ _ _ h=>h) (Or.inr ⟨by kernel_rfl,rfl⟩) hS0 (by kernel_rfl) ?_
       refine jDb (i:=17) (v:=undef) (a':={ tmps:=#[.pointer (some ⟨m,0,none⟩), .slice A1 l1.length c1, .agg #[.bool a, .int .i64 b, .int .i64 c], .pointer (some ⟨w.heap.size,0,none⟩),undef, .pointer (some ⟨w.heap.size+1,0,none⟩), .int .i64 0, .pointer (some ⟨w.heap.size+1+1,0,none⟩),undef, .pointer (some ⟨Bx,0,none⟩), .pointer (some ⟨w.heap.size+1,0,none⟩), .bool a,u12,u13,u14,u15,u16,u17, .slice A1 l1.length c1, .func (.func 105) #[] #[.pointer (some ⟨Bs,0,none⟩)], .int .i64 ix, .agg #[.int .i64 x.f0, .int .i64 x.f1, .int .i64 x.f2], .pointer (some ⟨Bx,0,none⟩), .int .i64 x.f0, .bool false, .bool false,u26,u27,u28,u29,u30,u31,u32,u33,u34,u35,u36, .bool false, .bool false,u39,u40,u41,u42,u43,u44,u45,u46,u47,u48,u49,u50,u51, .bool true, .bool true, .int .i64 f, .bool false, .bool false,undef,undef,undef,undef,undef,undef,undef,undef,undef,undef,undef,undef,undef,undef,undef,u72,u73,u74,u75,u76,u77,u78,u79,u80,u81,u82,u83],defers:=[] }) rfl (by kernel_rfl) (by kernel_rfl) (by kernel_rfl) (fun _ _ _ h=>h) (Or.inr ⟨by kernel_rfl,rfl⟩) hS0 (by kernel_rfl) ?_
       refine jDb (i:=18) (v:=undef) (a':={ tmps:=#[.pointer (some ⟨m,0,none⟩), .slice A1 l1.length c1, .agg #[.bool a, .int .i64 b, .int .i64 c], .pointer (some ⟨w.heap.size,0,none⟩),undef, .pointer (some ⟨w.heap.size+1,0,none⟩), .int .i64 0, .pointer (some ⟨w.heap.size+1+1,0,none⟩),undef, .pointer (some ⟨Bx,0,none⟩), .pointer (some ⟨w.heap.size+1,0,none⟩), .bool a,u12,u13,u14,u15,u16,u17, .slice A1 l1.length c1, .func (.func 105) #[] #[.pointer (some ⟨Bs,0,none⟩)], .int .i64 ix, .agg #[.int .i64 x.f0, .int .i64 x.f1, .int .i64 x.f2], .pointer (some ⟨Bx,0,none⟩), .int .i64 x.f0, .bool false, .bool false,u26,u27,u28,u29,u30,u31,u32,u33,u34,u35,u36, .bool false, .bool false,u39,u40,u41,u42,u43,u44,u45,u46,u47,u48,u49,u50,u51, .bool true, .bool true, .int .i64 f, .bool false, .bool false,undef,undef,undef,undef,undef,undef,undef,undef,undef,undef,undef,undef,undef,undef,undef,undef,u73,u74,u75,u76,u77,u78,u79,u80,u81,u82,u83],defers:=[] }) rfl (by kernel_rfl) (by kernel_rfl) (by kernel_rfl) (fun _ _ _ h=>h) (Or.inr ⟨by kernel_rfl,rfl⟩) hS0 (by kernel_rfl) ?_
       refine jDb (i:=19) (v:=.bool false) (a':={ tmps:=#[.pointer (some ⟨m,0,none⟩), .slice A1 l1.length c1, .agg #[.bool a, .int .i64 b, .int .i64 c], .pointer (some ⟨w.heap.size,0,none⟩),undef, .pointer (some ⟨w.heap.size+1,0,none⟩), .int .i64 0, .pointer (some ⟨w.heap.size+1+1,0,none⟩),undef, .pointer (some ⟨Bx,0,none⟩), .pointer (some ⟨w.heap.size+1,0,none⟩), .bool a,u12,u13,u14,u15,u16,u17, .slice A1 l1.length c1, .func (.func 105) #[] #[.pointer (some ⟨Bs,0,none⟩)], .int .i64 ix, .agg #[.int .i64 x.f0, .int .i64 x.f1, .int .i64 x.f2], .pointer (some ⟨Bx,0,none⟩), .int .i64 x.f0, .bool false, .bool false,u26,u27,u28,u29,u30,u31,u32,u33,u34,u35,u36, .bool false, .bool false,u39,u40,u41,u42,u43,u44,u45,u46,u47,u48,u49,u50,u51, .bool true, .bool true, .int .i64 f, .bool false, .bool false,undef,undef,undef,undef,undef,undef,undef,undef,undef,undef,undef,undef,undef,undef,undef,undef, .bool false,u74,u75,u76,u77,u78,u79,u80,u81,u82,u83],defers:=[] }) rfl (by kernel_rfl) (by kernel_rfl) (by kernel_rfl) (fun _ _ _ h=>h) (Or.inl ⟨by kernel_rfl,?_⟩) hS0 (by kernel_rfl) ?_
       ·rintro W' s1
        go_simp
        try with_reducible rfl
       refine wpAnyH_done (by kernel_rfl) ?_ _
       rename_i K9 hK9
       refine hK9 _ _ ?_
       clear hK9 hS0 c0 cF fF x0 x1 x2
       go_simp
       gi_wp2
       exact ⟨KeepsFrom.of_belowM (jlb (Below.refl _ _)) _,fun _=>IR.out _ _ (jfc HI.out (jlb (Below.refl _ _))),by show mIV w m (w.heap.size+1+1) Bs (.slice A1 l1.length c1) At ct t cp fst _ (mAcc s0 (pre ++ [⟨(ix,x),hx⟩]));rw [HF.out];exact jfc HI.out (jlb (Below.refl _ _))⟩
     ·have g2:=hk
      clear hk
      by_cases hk:x.f0=3
      ·have HF:=am (show mAcc s0 (pre ++ [⟨(ix,x),hx⟩])=(lg,H ++ [⟨x.f1,x.f2, -1,f,false⟩],(H.length:Int)) by rw [HSN.out];unfold stT;simp only [];rw [if_neg (show ¬ x.f0=0 by omega)];rw [if_neg (show ¬ x.f0=1 by omega)];rw [if_neg (show ¬ x.f0=2 by omega)];rw [if_pos hk])
       have f0:(x.f0 == 0)=false:=by simp [hk]
       have f1:(x.f0 == 1)=false:=by simp [hk]
       have f2:(x.f0 == 2)=false:=by simp [hk]
       have f3:(x.f0 == 3)=true:=by simp [hk]
       have hcl:0≤x.f1∧x.f1<(t.length:Int):=by
        have h:=HX.out
        unfold okX at h
        rw [if_neg (by omega),if_pos hk] at h
        simpa using h
       have hI2:=HI.out
       obtain ⟨⟨⟨⟨i0,iF⟩,iS⟩,vl,vh,im,iL,iH⟩,iK⟩:=hI2
       obtain ⟨Ah,ch,rfl⟩:=Kd.jja iH
       have KR:=am (mm_raise k m (.slice At t.length ct) cp vl fst Ah ch H.length H _ x.f1 x.f2 f (fun _=>True) w.heap.size W rfl im iH (fun _ _=>trivial) hnW (mR_good HGH.out (by omega) (by omega) hlo hhi hcl.1 hcl.2))
       have I0:=am i0
       have IF:=am iF
       have IS:=am iS
       have IM:=am im
       have IL:=am iL
       have IH:=am iH
       have IK:=am iK
       clear hk hcl i0 iF iS im iL iH iK
       gi_wp2_with (refine ⟨trivial,?_⟩;gi_at_call 72;refine (CallsIn.inRound lp (callsIn_wide.2 KR.out)).mono ?_;clear KR;rintro e w4 ⟨rfl,A4,c4,hm4,hR4,hK4,hB4⟩;have HI4:=am (mIV_raise (s:=(lg,H,f)) (by omega) I0.out IF.out IS.out IM.out IL.out IH.out IK.out hm4 hR4 hK4 hB4);have HKF:=am (show KeepsFrom W0.heap.size W w4 from ⟨hK4.1,fun j o _ hj ho=>(hK4.2 j (Array.getElem?_eq_some_iff.1 hj).1 (fun e=>by rcases e with rfl | e;(have hj2:=IM.out;rw [hj] at hj2;injection hj2 with hj2;subst hj2;cases ho);(obtain ⟨inner,hw⟩:=Kd.R_own IH.out;obtain ⟨cells,hc⟩:=jtc hw j e.symm;rw [hj] at hc;injection hc with hc;subst hc;cases ho))).trans hj⟩);clear hm4 hR4 hK4 hB4;have hF4:=HI4.out.1.1.1.2;have cF4:=hF4.cell;have fF4:=hF4.frozen;clear hF4 c0 cF fF)
       exact ⟨HKF.out.trans ((KeepsOthers.setCell _ _ _).from _),fun _=>IR.out _ _ (mIV_fault (by omega) HI4.out (by omega) (by omega) _),by show mIV w m (w.heap.size+1+1) Bs (.slice A1 l1.length c1) At ct t cp fst _ (mAcc s0 (pre ++ [⟨(ix,x),hx⟩]));rw [HF.out];exact mIV_fault (by omega) HI4.out (by omega) (by omega) _⟩
      ·have g3:=hk
       clear hk
       have HF:=am (show mAcc s0 (pre ++ [⟨(ix,x),hx⟩])=(lg,H,f) by rw [HSN.out];unfold stT;simp only [];rw [if_neg g0,if_neg g1,if_neg g2,if_neg g3])
       have f0:(x.f0 == 0)=false:=by simpa using g0
       have f1:(x.f0 == 1)=false:=by simpa using g1
       have f2:(x.f0 == 2)=false:=by simpa using g2
       have f3:(x.f0 == 3)=false:=by simpa using g3
       clear g0 g1 g2 g3
       gi_wp2
       exact ⟨(KeepsOthers.refl _).from _,fun h=>h,by show mIV w m (w.heap.size+1+1) Bs (.slice A1 l1.length c1) At ct t cp fst _ (mAcc s0 (pre ++ [⟨(ix,x),hx⟩]));rw [HF.out];exact HI.out⟩
  case done =>
   rintro D ys W hD rfl hI hK
   rw [mAcc_all HOK.out] at hI
   obtain ⟨⟨⟨⟨i0,iF⟩,iS⟩,vl,vh,im,iL,iH⟩,iK⟩:=hI
   have cF:=iF.cell
   have IM:=am im
   have IL:=am iL
   have IH:=am iH
   have IK:=am iK
   clear i0 iF iS im iL iH iK
   gi_wp2
   refine ⟨by simp, .inl ⟨_,_,rfl,run_takeDeferred hK,?_⟩⟩
   have hO:=mach_own (β:=Unit) w.heap.size m (w.heap.size+1+1) (.slice At t.length ct) cp fst (fun _=>l1.reverse.foldl (stT (isT k t)) s0)
   obtain ⟨vl2,vh2,m2,L2,H2⟩:=hO.putObj (s:=()) (.deferred none) ⟨vl,vh,IM.out,IL.out,IH.out⟩ hK rfl
   refine ⟨.int .i64 (l1.reverse.foldl (stT (isT k t)) s0).2.2,?_,rfl,⟨vl2,vh2,m2,Kd.jD L2 (fun _ _=>trivial),H2⟩,Kept.jOb (grownBy_putObj' W D _) IK.out.1 (fun k e=>.inr (by injection e with e;subst e;exact Nat.le_trans hn0 hD)),IK.out.2.grown (grownBy_putObj' W D _) (Nat.zero_le _) (fun _ _=>Nat.zero_le _)⟩
   simp [results,Try.f40,go_sem]
  case stop =>
   rintro D c pre W _ _ h _
   exact h.elim
end
attribute [local go_sem high] eqA50
def jnb.f (a0_0 : Bool) (a0_1 : Int) (a0_2 : Int) (l1_0 : List (S106)) : Option (Bool) := if a0_0 = true then ((jra.f l1_0 a0_1).bind fun t534 => (if t534 = true then ((jAa.f a0_2).bind fun t535 => (some t535)) else (some false))) else (some (!a0_0 && (a0_1 == 0 && (a0_2 == 0))))
set_option maxHeartbeats 8000000 in
set_option maxRecDepth 100000 in
theorem jnb.calls (a0_0 : Bool) (a0_1 : Int) (a0_2 : Int) (A1_0 : Option Addr) (c1_0 : Nat) (l1_0 : List (S106)) (r : Bool) (w : World) (hr1_0 : Kd.C k106 w A1_0 l1_0.length l1_0) (hc1_0 : l1_0.length ≤ c1_0) (h : jnb.f a0_0 a0_1 a0_2 l1_0 = some r) :
  Calls Try.prog 56 #[.agg #[.bool a0_0, .int .i64 a0_1, .int .i64 a0_2], .agg #[.slice A1_0 l1_0.length c1_0]] w fun e w'=>e=.returned (.bool r)∧Below w.heap.size w w':=by
 have hu50:=Try.underlying50
 have hu31:=Try.underlying31
 have HR1_0:=am hr1_0
 have HC1_0:=am hc1_0
 clear hr1_0 hc1_0
 have HB:=am (Below.refl w.heap.size w)
 have H:(if a0_0=true then ((jra.f l1_0 a0_1).bind fun t534=>(if t534=true then ((jAa.f a0_2).bind fun t535=>(some t535)) else (some false))) else (some (!a0_0 && (a0_1 == 0 && (a0_2 == 0)))))=some r:=h
 clear h
 by_cases c3:a0_0=true
 ·subst c3
  have H1:((jra.f l1_0 a0_1).bind fun t534=>(if t534=true then ((jAa.f a0_2).bind fun t535=>(some t535)) else (some false)))=some r:=by rw [if_pos rfl] at H;exact H
  clear H
  have H:=H1
  clear H1
  replace H:=bzS H
  obtain ⟨t534,A40,H⟩:=H
  replace H:(if t534=true then ((jAa.f a0_2).bind fun t535=>(some t535)) else (some false))=some r:=H
  have A4:=am A40
  clear A40
  by_cases c5:t534=true
  ·subst c5
   have H1:((jAa.f a0_2).bind fun t535=>(some t535))=some r:=by rw [if_pos rfl] at H;exact H
   clear H
   have H:=H1
   clear H1
   replace H:=bzS H
   obtain ⟨t535,A60,H⟩:=H
   replace H:(some t535)=some r:=H
   have A6:=am A60
   clear A60
   obtain rfl:=Option.some.inj H
   go_enter Try.func56,Try.ntmps56
   go_wp2_with (first |((with_reducible refine jP (N:=2) rfl ?_);refine bE (N:=2) (cs:=#[.bool true, .int .i64 a0_1, .int .i64 a0_2]) (t:=50) ?_;intro gb532 hg w7 hbox hb;have BK532:=am (hbox);have GW532:=am ((Y3:w.heap.size≤gb532));have GE532:=am ((Y3:w.heap.size≤gb532));replace HB:=am (jk (bq) hb);clear hb hbox hg) |((with_reducible refine jP (N:=3) rfl ?_);refine bE (N:=3) (cs:=#[.slice A1_0 l1_0.length c1_0]) (t:=31) ?_;intro gb533 hg w8 hbox hb;have BK533:=am (hbox);have GW533:=am ((Y54:w.heap.size≤gb533));have GE533:=am ((Y54:w.heap.size≤gb533));have NB532_533:=am ((Y127:gb532≠gb533));have NB533_532:=am ((Y128:gb533≠gb532));replace BK532:=am (je (g:=gb532) (o:=.cells #[.bool true, .int .i64 a0_1, .int .i64 a0_2] 50 (0,0)) (kq BK532.out) hb);replace HB:=am (jk (Y100) hb);clear hb hbox hg;have hnb9:=NB532_533.out;have hnc9:=NB533_532.out;have hcz10_0:=bc0 BK532.out;have hcz10_1:=bc1 BK532.out;have hcz10_2:=bc2 BK532.out;have hfz10_0:=jd BK532.out 0;have hfz10_1:=jd BK532.out 1;have hfz10_2:=jd BK532.out 2;have hcz11_0:=bc0 BK533.out;have hfz11_0:=jd BK533.out 0) |((with_reducible refine jy (f:=83) rfl ?_);refine gL (some 14) Try.func83 #[.agg #[.slice A1_0 l1_0.length c1_0], .int .i64 a0_1] ?_;(with_reducible refine (jra.calls _ _ l1_0 a0_1 true _ ?side1 ?side2 A4.out).mono ?_);(case side1=>exact cq (Kd.jka HR1_0.out HB.out));(case side2=>exact HC1_0.out);rintro e w12 ⟨rfl,hb⟩;refine ⟨_,rfl,?_⟩;replace BK532:=am (je (g:=gb532) (o:=.cells #[.bool true, .int .i64 a0_1, .int .i64 a0_2] 50 (0,0)) (kq BK532.out) hb);replace BK533:=am (je (g:=gb533) (o:=.cells #[.slice A1_0 l1_0.length c1_0] 31 (0,0)) (kq BK533.out) hb);replace HB:=am (jk (Y67) hb);(try clear hb);(try clear hb2);(try clear hk);(try clear hi);have hcz13_0:=bc0 BK532.out;have hcz13_1:=bc1 BK532.out;have hcz13_2:=bc2 BK532.out;have hfz13_0:=jd BK532.out 0;have hfz13_1:=jd BK532.out 1;have hfz13_2:=jd BK532.out 2) |(go_at_call 82;(with_reducible refine (jAa.calls a0_2 t535 _ A6.out).mono ?_);rintro e w' ⟨rfl,⟨nd,rfl⟩⟩))
   go_ret
   exact ⟨Y0,Y67⟩
  ·replace c5:=Bool.eq_false_iff.mpr c5
   subst c5
   have H1:(some false)=some r:=by rw [if_neg (show ¬ (false=true) by decide)] at H;exact H
   clear H
   have H:=H1
   clear H1
   obtain rfl:=Option.some.inj H
   go_enter Try.func56,Try.ntmps56
   go_wp2_with (first |((with_reducible refine jP (N:=2) rfl ?_);refine bE (N:=2) (cs:=#[.bool true, .int .i64 a0_1, .int .i64 a0_2]) (t:=50) ?_;intro gb532 hg w14 hbox hb;have BK532:=am (hbox);have GW532:=am ((Y3:w.heap.size≤gb532));have GE532:=am ((Y3:w.heap.size≤gb532));replace HB:=am (jk (bq) hb);clear hb hbox hg) |((with_reducible refine jP (N:=3) rfl ?_);refine bE (N:=3) (cs:=#[.slice A1_0 l1_0.length c1_0]) (t:=31) ?_;intro gb533 hg w15 hbox hb;have BK533:=am (hbox);have GW533:=am ((Y54:w.heap.size≤gb533));have GE533:=am ((Y54:w.heap.size≤gb533));have NB532_533:=am ((Y127:gb532≠gb533));have NB533_532:=am ((Y128:gb533≠gb532));replace BK532:=am (je (g:=gb532) (o:=.cells #[.bool true, .int .i64 a0_1, .int .i64 a0_2] 50 (0,0)) (kq BK532.out) hb);replace HB:=am (jk (Y100) hb);clear hb hbox hg;have hnb16:=NB532_533.out;have hnc16:=NB533_532.out;have hcz17_0:=bc0 BK532.out;have hcz17_1:=bc1 BK532.out;have hcz17_2:=bc2 BK532.out;have hfz17_0:=jd BK532.out 0;have hfz17_1:=jd BK532.out 1;have hfz17_2:=jd BK532.out 2;have hcz18_0:=bc0 BK533.out;have hfz18_0:=jd BK533.out 0) |((with_reducible refine jy (f:=83) rfl ?_);refine gL (some 14) Try.func83 #[.agg #[.slice A1_0 l1_0.length c1_0], .int .i64 a0_1] ?_;(with_reducible refine (jra.calls _ _ l1_0 a0_1 false _ ?side1 ?side2 A4.out).mono ?_);(case side1=>exact cq (Kd.jka HR1_0.out HB.out));(case side2=>exact HC1_0.out);rintro e w19 ⟨rfl,hb⟩;refine ⟨_,rfl,?_⟩;replace BK532:=am (je (g:=gb532) (o:=.cells #[.bool true, .int .i64 a0_1, .int .i64 a0_2] 50 (0,0)) (kq BK532.out) hb);replace BK533:=am (je (g:=gb533) (o:=.cells #[.slice A1_0 l1_0.length c1_0] 31 (0,0)) (kq BK533.out) hb);replace HB:=am (jk (Y67) hb);(try clear hb);(try clear hb2);(try clear hk);(try clear hi)))
   go_ret
   exact ⟨Y0,Y67⟩
 ·replace c3:=Bool.eq_false_iff.mpr c3
  subst c3
  have H1:(some (!false && (a0_1 == 0 && (a0_2 == 0))))=some r:=by rw [if_neg (show ¬ (false=true) by decide)] at H;exact H
  clear H
  have H:=H1
  clear H1
  obtain rfl:=Option.some.inj H
  go_enter Try.func56,Try.ntmps56
  go_wp2_with (first |((with_reducible refine jP (N:=2) rfl ?_);refine bE (N:=2) (cs:=#[.bool false, .int .i64 a0_1, .int .i64 a0_2]) (t:=50) ?_;intro gb532 hg w20 hbox hb;have BK532:=am (hbox);have GW532:=am ((Y3:w.heap.size≤gb532));have GE532:=am ((Y3:w.heap.size≤gb532));replace HB:=am (jk (bq) hb);clear hb hbox hg) |((with_reducible refine jP (N:=3) rfl ?_);refine bE (N:=3) (cs:=#[.slice A1_0 l1_0.length c1_0]) (t:=31) ?_;intro gb533 hg w21 hbox hb;have BK533:=am (hbox);have GW533:=am ((Y54:w.heap.size≤gb533));have GE533:=am ((Y54:w.heap.size≤gb533));have NB532_533:=am ((by rw [hg];exact Nat.ne_of_lt (jta (g:=gb532) (o:=.cells #[.bool false, .int .i64 a0_1, .int .i64 a0_2] 50 (0,0)) (kq BK532.out)):gb532≠gb533));have NB533_532:=am ((by rw [hg];exact Nat.ne_of_gt (jta (g:=gb532) (o:=.cells #[.bool false, .int .i64 a0_1, .int .i64 a0_2] 50 (0,0)) (kq BK532.out)):gb533≠gb532));replace BK532:=am (je (g:=gb532) (o:=.cells #[.bool false, .int .i64 a0_1, .int .i64 a0_2] 50 (0,0)) (kq BK532.out) hb);replace HB:=am (jk (Y100) hb);clear hb hbox hg;have hnb22:=NB532_533.out;have hnc22:=NB533_532.out;have hcz23_0:=bc0 BK532.out;have hcz23_1:=bc1 BK532.out;have hcz23_2:=bc2 BK532.out;have hfz23_0:=jd BK532.out 0;have hfz23_1:=jd BK532.out 1;have hfz23_2:=jd BK532.out 2))
  go_ret
  exact ⟨Y0,Y67⟩
def cmp_isNaN_int.f (a0 : Int) : Option (Bool) := some (a0 != a0)
set_option maxHeartbeats 8000000 in
set_option maxRecDepth 100000 in
theorem cmp_isNaN_int.calls (a0 : Int) (r : Bool) (w : World) (h : cmp_isNaN_int.f a0 = some r) :
  Calls Try.prog 140 #[.int .i64 a0] w fun e w'=>e=.returned (.bool r)∧jrb w w':=by
 have H:(some (a0 != a0))=some r:=h
 clear h
 obtain rfl:=Option.some.inj H
 go_enter Try.func140,Try.ntmps140
 go_wp2
 go_ret
 exact ⟨sq,Y4⟩
def cmp_Less_int.f (a0 : Int) (a1 : Int) : Option (Bool) := (cmp_isNaN_int.f a0).bind fun t536 => (if t536 = true then ((cmp_isNaN_int.f a1).bind fun t537 => (if t537 = true then (some (decide (a0 < a1))) else (some true))) else (some (decide (a0 < a1))))
set_option maxHeartbeats 8000000 in
set_option maxRecDepth 100000 in
theorem cmp_Less_int.calls (a0 : Int) (a1 : Int) (r : Bool) (w : World) (h : cmp_Less_int.f a0 a1 = some r) :
  Calls Try.prog 130 #[.int .i64 a0, .int .i64 a1] w fun e w'=>e=.returned (.bool r)∧jrb w w':=by
 have H:((cmp_isNaN_int.f a0).bind fun t536=>(if t536=true then ((cmp_isNaN_int.f a1).bind fun t537=>(if t537=true then (some (decide (a0<a1))) else (some true))) else (some (decide (a0<a1)))))=some r:=h
 clear h
 replace H:=bzS H
 obtain ⟨t536,A30,H⟩:=H
 replace H:(if t536=true then ((cmp_isNaN_int.f a1).bind fun t537=>(if t537=true then (some (decide (a0<a1))) else (some true))) else (some (decide (a0<a1))))=some r:=H
 have A3:=am A30
 clear A30
 by_cases c4:t536=true
 ·subst c4
  have H1:((cmp_isNaN_int.f a1).bind fun t537=>(if t537=true then (some (decide (a0<a1))) else (some true)))=some r:=by rw [if_pos rfl] at H;exact H
  clear H
  have H:=H1
  clear H1
  replace H:=bzS H
  obtain ⟨t537,A50,H⟩:=H
  replace H:(if t537=true then (some (decide (a0<a1))) else (some true))=some r:=H
  have A5:=am A50
  clear A50
  by_cases c6:t537=true
  ·subst c6
   have H1:(some (decide (a0<a1)))=some r:=by rw [if_pos rfl] at H;exact H
   clear H
   have H:=H1
   clear H1
   obtain rfl:=Option.some.inj H
   go_enter Try.func130,Try.ntmps130
   go_wp2_with (first |((with_reducible refine jy (f:=140) rfl ?_);refine gL (some 6) Try.func140 #[.int .i64 a0] ?_;(with_reducible refine (cmp_isNaN_int.calls a0 true _ A3.out).mono ?_);rintro e w' ⟨rfl,⟨nd,rfl⟩⟩;refine ⟨_,rfl,?_⟩) |(go_at_call 140;(with_reducible refine (cmp_isNaN_int.calls a1 true _ A5.out).mono ?_);rintro e w' ⟨rfl,⟨nd,rfl⟩⟩))
   go_ret
   exact ⟨sq,Y4⟩
  ·replace c6:=Bool.eq_false_iff.mpr c6
   subst c6
   have H1:(some true)=some r:=by rw [if_neg (show ¬ (false=true) by decide)] at H;exact H
   clear H
   have H:=H1
   clear H1
   obtain rfl:=Option.some.inj H
   go_enter Try.func130,Try.ntmps130
   go_wp2_with (first |((with_reducible refine jy (f:=140) rfl ?_);refine gL (some 6) Try.func140 #[.int .i64 a0] ?_;(with_reducible refine (cmp_isNaN_int.calls a0 true _ A3.out).mono ?_);rintro e w' ⟨rfl,⟨nd,rfl⟩⟩;refine ⟨_,rfl,?_⟩) |(go_at_call 140;(with_reducible refine (cmp_isNaN_int.calls a1 false _ A5.out).mono ?_);rintro e w' ⟨rfl,⟨nd,rfl⟩⟩))
   go_ret
   exact ⟨sq,Y4⟩
 ·replace c4:=Bool.eq_false_iff.mpr c4
  subst c4
  have H1:(some (decide (a0<a1)))=some r:=by rw [if_neg (show ¬ (false=true) by decide)] at H;exact H
  clear H
  have H:=H1
  clear H1
  obtain rfl:=Option.some.inj H
  go_enter Try.func130,Try.ntmps130
  go_wp2_with (first |((with_reducible refine jy (f:=140) rfl ?_);refine gL (some 6) Try.func140 #[.int .i64 a0] ?_;(with_reducible refine (cmp_isNaN_int.calls a0 false _ A3.out).mono ?_);rintro e w' ⟨rfl,⟨nd,rfl⟩⟩;refine ⟨_,rfl,?_⟩))
  go_ret
  exact ⟨sq,Y4⟩
def sh189_ren : Go.Shelf.Ren := ⟨fun | 189 => 121 | 125 => 123 | 257 => 122 | 128 => 133 | 129 => 134 | 294 => 124 | 295 => 125 | 296 => 126 | 297 => 127 | 298 => 128 | 299 => 129 | 216 => 130 | 300 => 131 | 301 => 132 | 328 => 135 | 329 => 136 | 330 => 137 | 331 => 138 | 332 => 139 | 215 => 140 | 343 => 141 | n => n, fun | 28 => 45 | 3 => 3 | 46 => 153 | 0 => 0 | 51 => 163 | 53 => 165 | 4 => 4 | 183 => 156 | 182 => 155 | 131 => 160 | 5 => 5 | 9 => 9 | 218 => 166 | 222 => 170 | 228 => 172 | 229 => 173 | n => n, fun | n => n⟩
theorem sh189 : Go.Proofs.Lays.n189 Try.prog sh189_ren := {
 mixed:=by kernel_rfl
 f125:=Try.func123.trans (congrArg some (by kernel_rfl))
 f128:=Try.func133.trans (congrArg some (by kernel_rfl))
 f129:=Try.func134.trans (congrArg some (by kernel_rfl))
 f189:=Try.func121.trans (congrArg some (by kernel_rfl))
 f215:=Try.func140.trans (congrArg some (by kernel_rfl))
 f216:=Try.func130.trans (congrArg some (by kernel_rfl))
 f257:=Try.func122.trans (congrArg some (by kernel_rfl))
 f294:=Try.func124.trans (congrArg some (by kernel_rfl))
 f295:=Try.func125.trans (congrArg some (by kernel_rfl))
 f296:=Try.func126.trans (congrArg some (by kernel_rfl))
 f297:=Try.func127.trans (congrArg some (by kernel_rfl))
 f298:=Try.func128.trans (congrArg some (by kernel_rfl))
 f299:=Try.func129.trans (congrArg some (by kernel_rfl))
 f300:=Try.func131.trans (congrArg some (by kernel_rfl))
 f301:=Try.func132.trans (congrArg some (by kernel_rfl))
 f328:=Try.func135.trans (congrArg some (by kernel_rfl))
 f329:=Try.func136.trans (congrArg some (by kernel_rfl))
 f330:=Try.func137.trans (congrArg some (by kernel_rfl))
 f331:=Try.func138.trans (congrArg some (by kernel_rfl))
 f332:=Try.func139.trans (congrArg some (by kernel_rfl))
 f343:=Try.func141.trans (congrArg some (by kernel_rfl))
 t0:=Try.underlying0
 a0:=Try.isAgg0
 z0:=Try.sizeOf0
 v0:=Try.zeroValue0
 t3:=Try.underlying3
 a3:=Try.isAgg3
 z3:=Try.sizeOf3
 v3:=Try.zeroValue3
 t4:=Try.underlying4
 a4:=Try.isAgg4
 z4:=Try.sizeOf4
 v4:=Try.zeroValue4
 t5:=Try.underlying5
 a5:=Try.isAgg5
 z5:=Try.sizeOf5
 v5:=Try.zeroValue5
 t9:=Try.underlying9
 a9:=Try.isAgg9
 z9:=Try.sizeOf9
 v9:=Try.zeroValue9
 t28:=Try.underlying45
 a28:=Try.isAgg45
 z28:=Try.sizeOf45
 v28:=Try.zeroValue45
 t46:=Try.underlying153
 a46:=Try.isAgg153
 z46:=Try.sizeOf153
 v46:=Try.zeroValue153
 t51:=Try.underlying163
 a51:=Try.isAgg163
 z51:=Try.sizeOf163
 v51:=Try.zeroValue163
 t53:=Try.underlying165
 a53:=Try.isAgg165
 z53:=Try.sizeOf165
 v53:=Try.zeroValue165
 t131:=Try.underlying160
 a131:=Try.isAgg160
 z131:=Try.sizeOf160
 v131:=Try.zeroValue160
 t182:=Try.underlying155
 a182:=Try.isAgg155
 z182:=Try.sizeOf155
 v182:=Try.zeroValue155
 t183:=Try.underlying156
 a183:=Try.isAgg156
 z183:=Try.sizeOf156
 v183:=Try.zeroValue156
 t218:=Try.underlying166
 a218:=Try.isAgg166
 z218:=Try.sizeOf166
 v218:=Try.zeroValue166
 t222:=Try.underlying170
 a222:=Try.isAgg170
 z222:=Try.sizeOf170
 v222:=Try.zeroValue170
 t228:=Try.underlying172
 a228:=Try.isAgg172
 z228:=Try.sizeOf172
 v228:=Try.zeroValue172
 t229:=Try.underlying173
 a229:=Try.isAgg173
 z229:=Try.sizeOf173
 v229:=Try.zeroValue173 }
theorem rc0 {w : World} {b : Nat} {v : Value} {l : List Value} {t : TypeId} (h : w.heap[b]? = some (.cells ⟨v :: l⟩ t (0, 0))) : w.cell? ⟨b, 0, none⟩ = some v := (jh h 0).trans rfl
theorem cells_sorted {w : World} {base cap n : Nat} {g : Nat} {xs ys : List Int} {os : Array Obj} {ok : Nat → Prop} (hl : ys.length = xs.length) (h : Kd.R (Kd.int .i64) 3 w base ok (.slice (some ⟨g, 0, none⟩) xs.length cap) xs) :
  Kd.R (Kd.int .i64) 3 (Go.Sort.grow (Go.Sort.putRow (Value.int .i64) (Go.Sort.ahead w n) g 0 ys.toArray) os) base ok (.slice (some ⟨g,0,none⟩) xs.length cap) ys∧Below base w (Go.Sort.grow (Go.Sort.putRow (Value.int .i64) (Go.Sort.ahead w n) g 0 ys.toArray) os):=by
 have ho:=Kd.own_of_R h
 obtain ⟨e1,h2 | ⟨g',cap',cur,hv,hb,hh,h1,h3,h4,h5⟩⟩:=ho
 ·exact absurd h2.1 (by simp)
 ·simp only [Value.slice.injEq,Option.some.injEq,Addr.mk.injEq,and_true,true_and] at hv
  obtain ⟨rfl,rfl⟩:=hv
  have hlt:g<w.heap.size:=(Array.getElem?_eq_some_iff.1 hh).1
  have hg:∀ k,k<w.heap.size→k≠g→(Go.Sort.grow (Go.Sort.putRow (Value.int .i64) (Go.Sort.ahead w n) g 0 ys.toArray) os).heap[k]?=w.heap[k]?:=by
   intro k hk hne
   simp only [Go.Sort.grow,Go.Sort.putRow,Go.Sort.mapBlock,Go.Sort.ahead]
   rw [Array.getElem?_append_left (by simpa using hk),Array.getElem?_modify,if_neg (fun e=>hne e.symm)]
  have hgg:(Go.Sort.grow (Go.Sort.putRow (Value.int .i64) (Go.Sort.ahead w n) g 0 ys.toArray) os).heap[g]?=some (.cells (Go.Sort.putCells (Value.int .i64) 0 ys.toArray cur) 3 (0,0)):=by
   simp only [Go.Sort.grow,Go.Sort.putRow,Go.Sort.mapBlock,Go.Sort.ahead]
   rw [Array.getElem?_append_left (by simpa using hlt),Array.getElem?_modify,if_pos rfl,hh]
   rfl
  refine ⟨?_,⟨rfl,rfl,rfl,by simp [Go.Sort.grow,Go.Sort.putRow,Go.Sort.mapBlock,Go.Sort.ahead],fun k hk=>hg k (by omega) (by omega)⟩⟩
  rw [← hl]
  refine Kd.R_of_own ⟨by simp [encs], .inr ⟨g,cap,_,rfl,hb,hgg,by omega,h3,by simpa [Go.Sort.putCells] using h4,?_⟩⟩ h.1
  apply List.ext_getElem?
  intro j
  simp only [List.getElem?_take,encs,Go.Sort.putCells,Array.toList_mapIdx,List.getElem?_mapIdx,Array.getElem?_toList,List.getElem?_map,List.size_toArray,Nat.mul_one,Nat.zero_le,true_and,Nat.zero_add,Nat.sub_zero]
  by_cases hj:j<ys.length
  ·rw [if_pos hj]
   have hc:j<cur.size:=by omega
   rw [Array.getElem?_eq_getElem hc,List.getElem?_eq_getElem hj]
   simp [hj]
  ·rw [if_neg hj,List.getElem?_eq_none (by omega)];rfl
theorem slices_Sort_row (l : List Int) (base : Nat) (ok : Nat → Prop) (g cap : Nat) (w : World) (hR : Kd.R (Kd.int .i64) 3 w base ok (.slice (some ⟨g, 0, none⟩) l.length cap) l) (hsz : l.length < 4611686018427387904) :
  Calls Try.prog 121 #[.slice (some ⟨g,0,none⟩) l.length cap] w fun e w'=>e=.returned (.tuple #[])∧Kd.R (Kd.int .i64) 3 w' base ok (.slice (some ⟨g,0,none⟩) l.length cap) (l.mergeSort fun x y=>decide (x≤y))∧Below base w w':=by
 have hH:Go.Sort.Holds (Value.int .i64) w g 0 l.toArray:=fun j hj=>by
  have hj':j<l.length:=by simpa using hj
  have h:=Kd.R_cell (0:Int) hR (j:Int) (by omega) (by omega)
  rw [Int.toNat_natCast] at h
  refine ⟨?_,by simpa using h.2⟩
  have e:rdOf (0:Int) l (j:Int)=l.toArray[j]!:=by simp [rdOf,hj']
  rw [Nat.zero_add,h.1,e]
 have hlt:g<w.heap.size:=Kd.R_lt hR g rfl
 have hs:=Go.Proofs.Any.slices_Sort_int sh189 g 0 cap l w hH hlt hsz
 refine Calls.mono (show Calls Try.prog 121 _ w _ from hs) ?_
 rintro e w' ⟨rfl,n,os,rfl⟩
 obtain ⟨h1,h2⟩:=cells_sorted (n:=n) (os:=os) (ys:=l.mergeSort fun x y=>decide (x≤y)) (List.length_mergeSort _) hR
 exact ⟨rfl,h1,h2⟩
def rcStep (k : Nat) (out : List Int) (g : Int) : Option (List Int) := if g ≥ 0 then ((jS.f k out g).bind fun b => if b = true then some out else (if out.length < 17592186044416 then some (out ++ [g]) else none)) else some out
def rcAll (k : Nat) : List Int → List Int → Option (List Int)
 | [],out=>some out
 | g :: gs,out=>(rcStep k out g).bind fun o=>rcAll k gs o
def rcGo (h : List S90) : Nat → Nat → List Int → Option (List Int)
 | 0,_,_=>none
 | k+1,i,out=>if i<out.length then (if 0≤rd out (i:Int) then (if rd out (i:Int)<(h.length:Int) then ((rcAll k [(jo h (rd out (i:Int))).f2,(jo h (rd out (i:Int))).f3] out).bind fun o=>rcGo h k (i+1) o) else none) else none) else some out
def jmb.f (k : Nat) (l0_0 : List S90) (a1 : Int) : Option (List Int) := (rcGo l0_0 k 0 [a1]).bind fun l => if 0 < l.length ∧ l.length < 4611686018427387904 then some (l.mergeSort fun x y => decide (x ≤ y)) else none
theorem pairAt {g1 g2 : Int} {j : Nat} (h : j < 2) : [g1, g2].drop j = (if j = 0 then g1 else g2) :: [g1, g2].drop (j + 1) := by
 rcases (by omega:j=0∨j=1) with rfl | rfl <;> rfl
theorem pairCell {w : World} {b : Nat} {g1 g2 : Int} {t : TypeId} (h : w.heap[b]? = some (.cells #[.int .i64 g1, .int .i64 g2] t (0, 0))) {j : Nat} (hj : j < 2) : w.cell? ⟨b, j, none⟩ = some (.int .i64 (if j = 0 then g1 else g2)) := by
 rcases (by omega:j=0∨j=1) with rfl | rfl
 ·exact (jh h 0).trans rfl
 ·exact (jh h 1).trans rfl
set_option maxHeartbeats 8000000 in
set_option maxRecDepth 100000 in
theorem jmb.calls (k : Nat) (A0 : Option Addr) (c0 : Nat) (l0 : List (S90)) (a1 : Int) (r : List Int) (w : World) (hr0 : Kd.C k90 w A0 l0.length l0) (hc0 : l0.length ≤ c0) (h : jmb.f k l0 a1 = some r) :
  Calls Try.prog 118 #[.agg #[.slice A0 l0.length c0], .int .i64 a1] w fun e w'=>∃ v0_:Value,e=.returned (v0_)∧Kd.R (Kd.int .i64) 3 w' w.heap.size (fun _=>True) v0_ r∧Below w.heap.size w w':=by
 have hu53:=Try.underlying53
 have hu90:=Try.underlying90
 have HRH:=am hr0
 obtain ⟨l,hl,h⟩:=bzS h
 have H':=am hl
 have HZ:=am h
 have HB:=am ((Below.refl w.heap.size w).alloc (Nat.le_refl _) (.cells #[.slice A0 l0.length c0] 53))
 have BH:=am (heap_alloc_new w (.cells #[.slice A0 l0.length c0] 53))
 clear hr0 h hl
 go_enter Try.func118,Try.ntmps118
 go_wp2_with ((with_reducible refine jP (N:=10) rfl ?_);refine Kd.R_lit (Kd.int .i64) _ 3 ?hg (N:=10) ?hd (xs:=[a1]) (inner:=[.int .i64 a1]) (ok:=fun _=>True) (okp:=fun _=>True) ?hr ?hp (fun _ hk=>hk) trivial (Below.refl _ _) (Nat.le_refl _) (by simp) ?_;(case hd=>rfl);(case hg=>rfl);(case hr=>exact Y2);(case hp=>exact (Reps.one (show Kd.M (Kd.int .i64) _ _ _ a1 [.int .i64 a1] from rfl) (Reps.none _ _)));intro v111 w4 ho5 hb hg_ hnew_;clear hg_ hnew_;have n0_:=am (Kd.jua ho5 (jY (bq)));have n1_:=am (je (g:=w.heap.size) (o:=.cells #[.slice A0 l0.length c0] 53 (0,0)) (by first | exact BH.out |((with_reducible repeat (first | refine jb ?_ _ | refine jc ?_ | refine ja ?_ _));exact BH.out)) hb);have n2_:=am (jk (bq) hb);clear HB BH;have HO:=n0_;have BH:=n1_;have HB:=n2_;clear n0_ n1_ n2_ hb ho5)
 go_loopg [5,6] k (fun kq v5 v6 w'=>∃ (i:Nat) (out:List Int),v6=.int .i64 i∧i≤out.length∧jv (rcGo l0 kq i out=some l)∧jv (kq≤k)∧jv (Kd.R (Kd.int .i64) 3 w' w.heap.size (fun _=>True) v5 out)∧jv (w'.heap[w.heap.size]?=some (.cells #[.slice A0 l0.length c0] 53 (0,0)))∧jv (Below w.heap.size w w'))
 case atStart=>exact ⟨0,[a1],rfl,by simp,H',⟨Nat.le_refl _⟩,HO,BH,HB⟩
 case round =>
  clear H' HO BH HB
  obtain ⟨i,out,rfl,hi,HA,HK1,HO,BH,HB⟩:=hrel
  cases gk with
  | zero=>exact absurd HA.out (by simp [rcGo])
  | succ k1 =>
   have H:=HA.out
   clear HA
   rw [rcGo] at H
   obtain ⟨Ao,co,eo⟩:=Kd.jja HO.out
   subst eo
   have hm:out.length≤9223372036854775807:=Kd.C_max (Kd.jE HO.out).2.2
   by_cases hlt:i<out.length
   ·rw [if_pos hlt] at H
    by_cases h0:0≤rd out (i:Int)
    ·rw [if_pos h0] at H
     by_cases h1:rd out (i:Int)<(l0.length:Int)
     ·rw [if_pos h1] at H
      obtain ⟨o2,hA,H⟩:=bzS H
      have HN:=am H
      have HS:=am hA
      clear H hA
      have cH:=rc0 BH.out
      obtain ⟨ad,rfl,hz⟩:=Kd.jXb (Kd.jE HO.out).2.2 (i:Int) (by omega) (by omega)
      rw [Int.toNat_natCast] at hz
      obtain ⟨ad3,e3,y0,y1,y2,y3,y4⟩:=at_T90 (Kd.jka HRH.out HB.out) (rd out (i:Int)) h0 h1
      cases e3
      have p0:=ezT h0
      have p1:=ezT h1
      clear h0 h1
      generalize hgz:rd out (i:Int)=z at hz y0 y1 y2 y3 y4 p0 p1 HS
      clear hgz
      have hlb:=ezT hlt
      go_wp2
      refine wp_region_held (S:=fun W=>W.cell? ⟨w.heap.size,0,none⟩=some (.slice (some ad3) l0.length c0)∧W.cell? (ad.add i)=some (.int .i64 z)∧W.cell? ⟨(ad3.add (z.toNat * 5)).block,(ad3.add (z.toNat * 5)).off+2,none⟩=some (.int .i64 (jo l0 z).f2)∧W.cell? ⟨(ad3.add (z.toNat * 5)).block,(ad3.add (z.toNat * 5)).off+3,none⟩=some (.int .i64 (jo l0 z).f3)) (by kernel_rfl) ?_
      change wpAnyH _ _ _ _ _ _ _ _ (World.drew _)
      have hS0:(fun W=>W.cell? ⟨w.heap.size,0,none⟩=some (.slice (some ad3) l0.length c0)∧W.cell? (ad.add i)=some (.int .i64 z)∧W.cell? ⟨(ad3.add (z.toNat * 5)).block,(ad3.add (z.toNat * 5)).off+2,none⟩=some (.int .i64 (jo l0 z).f2)∧W.cell? ⟨(ad3.add (z.toNat * 5)).block,(ad3.add (z.toNat * 5)).off+3,none⟩=some (.int .i64 (jo l0 z).f3)) wr.drew:=⟨cH,hz,y2,y3⟩
      have HB2:=am (jF HB.out)
      have BH2:=am (jc BH.out)
      have HO2:=am (Kd.jH HO.out)
      obtain ⟨W2,hW2⟩:∃ W2,W2=wr.drew:=⟨_,rfl⟩
      rw [← hW2] at hS0 HB2 BH2 HO2
      rw [← hW2]
      clear hW2 cH hz y0 y1 y2 y3 y4 HB BH HO
      refine wpAnyH_take (i:=0) (v:=?_) rfl (by kernel_rfl) (by kernel_rfl) (by kernel_rfl) (fun _ _ _ h=>h) (Or.inl ⟨by rfl,?_⟩) hS0 ?_
      rotate_left
      ·rintro W ⟨s1,s2,s3,s4⟩
       go_simp
       with_reducible rfl
      refine wpAnyH_take (i:=1) (v:=?_) rfl (by kernel_rfl) (by kernel_rfl) (by kernel_rfl) (fun _ _ _ h=>h) (Or.inl ⟨by rfl,?_⟩) hS0 ?_
      rotate_left
      ·rintro W ⟨s1,s2,s3,s4⟩
       go_simp
       with_reducible rfl
      refine wpAnyH_take (i:=2) (v:=?_) rfl (by kernel_rfl) (by kernel_rfl) (by kernel_rfl) (fun _ _ _ h=>h) (Or.inl ⟨by rfl,?_⟩) hS0 ?_
      rotate_left
      ·rintro W ⟨s1,s2,s3,s4⟩
       go_simp
       with_reducible rfl
      refine wpAnyH_take (i:=3) (v:=?_) rfl (by kernel_rfl) (by kernel_rfl) (by kernel_rfl) (fun _ _ _ h=>h) (Or.inl ⟨by rfl,?_⟩) hS0 ?_
      rotate_left
      ·rintro W ⟨s1,s2,s3,s4⟩
       go_simp
       with_reducible rfl
      refine wpAnyH_take (i:=4) (v:=?_) rfl (by kernel_rfl) (by kernel_rfl) (by kernel_rfl) (fun _ _ _ h=>h) (Or.inl ⟨by rfl,?_⟩) hS0 ?_
      rotate_left
      ·rintro W ⟨s1,s2,s3,s4⟩
       go_simp
       with_reducible rfl
      refine wpAnyH_take (i:=5) (v:=?_) rfl (by kernel_rfl) (by kernel_rfl) (by kernel_rfl) (fun _ _ _ h=>h) (Or.inl ⟨by rfl,?_⟩) hS0 ?_
      rotate_left
      ·rintro W ⟨s1,s2,s3,s4⟩
       go_simp
       with_reducible rfl
      refine wpAnyH_take (i:=6) (v:=?_) rfl (by kernel_rfl) (by kernel_rfl) (by kernel_rfl) (fun _ _ _ h=>h) (Or.inl ⟨by rfl,?_⟩) hS0 ?_
      rotate_left
      ·rintro W ⟨s1,s2,s3,s4⟩
       go_simp
       with_reducible rfl
      refine wpAnyH_take (i:=7) (v:=?_) rfl (by kernel_rfl) (by kernel_rfl) (by kernel_rfl) (fun _ _ _ h=>h) (Or.inl ⟨by rfl,?_⟩) hS0 ?_
      rotate_left
      ·rintro W ⟨s1,s2,s3,s4⟩
       go_simp
       with_reducible rfl
      refine wpAnyH_take (i:=8) (v:=?_) rfl (by kernel_rfl) (by kernel_rfl) (by kernel_rfl) (fun _ _ _ h=>h) (Or.inl ⟨by rfl,?_⟩) hS0 ?_
      rotate_left
      ·rintro W ⟨s1,s2,s3,s4⟩
       go_simp
       with_reducible rfl
      refine wpAnyH_take (i:=9) (v:=?_) rfl (by kernel_rfl) (by kernel_rfl) (by kernel_rfl) (fun _ _ _ h=>h) (Or.inl ⟨by rfl,?_⟩) hS0 ?_
      rotate_left
      ·rintro W ⟨s1,s2,s3,s4⟩
       go_simp
       with_reducible rfl
      refine wpAnyH_take (i:=10) (v:=?_) rfl (by kernel_rfl) (by kernel_rfl) (by kernel_rfl) (fun _ _ _ h=>h) (Or.inl ⟨by rfl,?_⟩) hS0 ?_
      rotate_left
      ·rintro W ⟨s1,s2,s3,s4⟩
       go_simp
       with_reducible rfl
      refine wpAnyH_take (i:=11) (v:=?_) rfl (by kernel_rfl) (by kernel_rfl) (by kernel_rfl) (fun _ _ _ h=>h) (Or.inl ⟨by rfl,?_⟩) hS0 ?_
      rotate_left
      ·rintro W ⟨s1,s2,s3,s4⟩
       go_simp
       with_reducible rfl
      refine wpAnyH_take (i:=12) (v:=?_) rfl (by kernel_rfl) (by kernel_rfl) (by kernel_rfl) (fun _ _ _ h=>h) (Or.inl ⟨by rfl,?_⟩) hS0 ?_
      rotate_left
      ·rintro W ⟨s1,s2,s3,s4⟩
       go_simp
       with_reducible rfl
      refine wpAnyH_take (i:=13) (v:=?_) rfl (by kernel_rfl) (by kernel_rfl) (by kernel_rfl) (fun _ _ _ h=>h) (Or.inl ⟨by rfl,?_⟩) hS0 ?_
      rotate_left
      ·rintro W ⟨s1,s2,s3,s4⟩
       go_simp
       with_reducible rfl
      refine wpAnyH_take (i:=14) (v:=?_) rfl (by kernel_rfl) (by kernel_rfl) (by kernel_rfl) (fun _ _ _ h=>h) (Or.inl ⟨by rfl,?_⟩) hS0 ?_
      rotate_left
      ·rintro W ⟨s1,s2,s3,s4⟩
       go_simp
       with_reducible rfl
      refine wpAnyH_take (i:=15) (v:=?_) rfl (by kernel_rfl) (by kernel_rfl) (by kernel_rfl) (fun _ _ _ h=>h) (Or.inl ⟨by rfl,?_⟩) hS0 ?_
      rotate_left
      ·rintro W ⟨s1,s2,s3,s4⟩
       go_simp
       with_reducible rfl
      refine wpAnyH_take (i:=16) (v:=?_) rfl (by kernel_rfl) (by kernel_rfl) (by kernel_rfl) (fun _ _ _ h=>h) (Or.inl ⟨by rfl,?_⟩) hS0 ?_
      rotate_left
      ·rintro W ⟨s1,s2,s3,s4⟩
       go_simp
       with_reducible rfl
      refine wpAnyH_take (i:=17) (v:=?_) rfl (by kernel_rfl) (by kernel_rfl) (by kernel_rfl) (fun _ _ _ h=>h) (Or.inl ⟨by rfl,?_⟩) hS0 ?_
      rotate_left
      ·rintro W ⟨s1,s2,s3,s4⟩
       go_simp
       with_reducible rfl
      refine wpAnyH_take (i:=20) (v:=?_) rfl (by kernel_rfl) (by kernel_rfl) (by kernel_rfl) (fun _ _ _ h=>h) (Or.inl ⟨by rfl,?_⟩) hS0 ?_
      rotate_left
      ·rintro W ⟨s1,s2,s3,s4⟩
       go_simp
       with_reducible rfl
      refine wpAnyH_all (rs:=[18]) (by kernel_rfl) (by simp) ?_
      intro ii hii
      obtain rfl:ii=18:=by simpa using hii
      clear hii
      refine wpOp_step rfl (fun K hK=>?_)
      go_simp
      have hS1:=(⟨jia ((Below.refl _ W2).alloc (Nat.le_refl _) (.cells #[.int .i64 (jo l0 z).f2, .int .i64 (jo l0 z).f3] 3)) hS0.1,jia ((Below.refl _ W2).alloc (Nat.le_refl _) (.cells #[.int .i64 (jo l0 z).f2, .int .i64 (jo l0 z).f3] 3)) hS0.2.1,jia ((Below.refl _ W2).alloc (Nat.le_refl _) (.cells #[.int .i64 (jo l0 z).f2, .int .i64 (jo l0 z).f3] 3)) hS0.2.2.1,jia ((Below.refl _ W2).alloc (Nat.le_refl _) (.cells #[.int .i64 (jo l0 z).f2, .int .i64 (jo l0 z).f3] 3)) hS0.2.2.2⟩:(fun W=>W.cell? ⟨w.heap.size,0,none⟩=some (.slice (some ad3) l0.length c0)∧W.cell? (ad.add i)=some (.int .i64 z)∧W.cell? ⟨(ad3.add (z.toNat * 5)).block,(ad3.add (z.toNat * 5)).off+2,none⟩=some (.int .i64 (jo l0 z).f2)∧W.cell? ⟨(ad3.add (z.toNat * 5)).block,(ad3.add (z.toNat * 5)).off+3,none⟩=some (.int .i64 (jo l0 z).f3)) (W2.alloc (.cells #[.int .i64 (jo l0 z).f2, .int .i64 (jo l0 z).f3] 3)))
      refine hK _ _ ⟨hS1,?_⟩
      clear hK K
      refine wpAnyH_all (rs:=[19]) (by kernel_rfl) (by simp) ?_
      intro ii hii
      obtain rfl:ii=19:=by simpa using hii
      clear hii
      refine wpOp_step rfl (fun K hK=>?_)
      go_simp
      refine hK _ _ ⟨hS1,?_⟩
      clear hK K
      refine wpAnyH_done (by kernel_rfl) ?_ _
      have HO:=am (Kd.jK (Kd.jD (Kd.jPb HO2.out) (fun k hk=>Nat.ne_of_lt hk.2.2.1)) (.cells #[.int .i64 (jo l0 z).f2, .int .i64 (jo l0 z).f3] 3))
      have LB:=am (heap_alloc_new W2 (.cells #[.int .i64 (jo l0 z).f2, .int .i64 (jo l0 z).f3] 3))
      have BH:=am (ja BH2.out (.cells #[.int .i64 (jo l0 z).f2, .int .i64 (jo l0 z).f3] 3))
      have HB:=am (jJ HB2.out (.cells #[.int .i64 (jo l0 z).f2, .int .i64 (jo l0 z).f3] 3))
      have HLE:=am (Nat.le_refl out.length)
      clear hS0 hS1 HO2 BH2 HB2
      generalize hgl:W2.heap.size=gl at HO LB ⊢
      rename_i K9 hK9
      refine hK9 _ _ ?_
      go_wp2
      go_loopw [5,37] (fun v5 v37 w3=>∃ (j:Nat) (o:List Int),j≤2∧v37=.int .i64 j∧jv (rcAll k1 ([(jo l0 z).f2,(jo l0 z).f3].drop j) o=some o2)∧jv (out.length≤o.length)∧jv (Kd.R (Kd.int .i64) 3 w3 w.heap.size (fun k=>k≠gl) v5 o)∧jv (w3.heap[gl]?=some (.cells #[.int .i64 (jo l0 z).f2, .int .i64 (jo l0 z).f3] 3 (0,0)))∧jv (w3.heap[w.heap.size]?=some (.cells #[.slice (some ad3) l0.length c0] 53 (0,0)))∧jv (Below w.heap.size w w3)) (fun _ v37 _=>2 - (intOf v37).toNat)
      case atStart=>exact ⟨0,out,by omega,rfl,HS,HLE,HO,LB,BH,HB⟩
      case round =>
       clear HS HLE HO LB BH HB hgl
       obtain ⟨j,o,hj,rfl,HS,HLE,HO,LB,BH,HB⟩:=hrel
       obtain ⟨Ao2,co2,eo⟩:=Kd.jja HO.out
       subst eo
       by_cases hj2:j<2
       ·have hS:=HS.out
        rw [pairAt hj2,rcAll] at hS
        have cx:=pairCell LB.out hj2
        generalize (if j=0 then (jo l0 z).f2 else (jo l0 z).f3)=x at hS cx
        obtain ⟨o',hs1,hs2⟩:=bzS hS
        have HR2:=am hs2
        have hjb:=ezT (show (j:Int)<2 by omega)
        clear HS hS hs2
        unfold rcStep at hs1
        by_cases c6:x≥0
        ·rw [if_pos c6] at hs1
         have c6b0:decide (0≤x)=true:=dzT c6
         clear c6
         obtain ⟨b,A70,hs1⟩:=bzS hs1
         have A7:=am A70
         clear A70
         cases b with
         | true =>
          rw [if_pos rfl] at hs1
          obtain rfl:=Option.some.inj hs1
          clear hs1
          go_wp2_with (go_at_call 106;(with_reducible refine (jS.calls k1 _ _ o x true _ ?side1 ?side2 A7.out).mono ?_);(case side1=>exact cq (Kd.jE HO.out).2.2);(case side2=>exact (Kd.jE HO.out).2.1);rintro e w' ⟨rfl,⟨nd,rfl⟩⟩)
          go_roundw
          case rel=>exact ⟨j+1,o,by omega,by go_num,HR2,⟨by have:=HLE.out;omega⟩,⟨rq HO.out⟩,⟨kq LB.out⟩,⟨kq BH.out⟩,⟨(bq)⟩⟩
          case measure=>simp [intOf];omega
         | false =>
          rw [if_neg (by simp)] at hs1
          by_cases c10:o.length<17592186044416
          ·rw [if_pos c10] at hs1
           obtain rfl:=Option.some.inj hs1
           have LM:=am c10
           clear c10 hs1
           go_wp2_with (first |(go_at_call 106;(with_reducible refine (jS.calls k1 _ _ o x false _ ?side1 ?side2 A7.out).mono ?_);(case side1=>exact cq (Kd.jE HO.out).2.2);(case side2=>exact (Kd.jE HO.out).2.1);rintro e w' ⟨rfl,⟨nd,rfl⟩⟩) |((with_reducible refine jCb (b:=.append) (xs:=#[.tmp 49, .tmp 51]) rfl ?_);at_builtin;refine Kd.R_append (Kd.int .i64) (w0:=w) w.heap.size rfl (.tmp 49) (.tmp 51) 45 3 (.int .i64 0) 8 rfl Try.underlying45 info3 rfl (by decide) (by omega) (.slice Ao2 o.length co2) o x [.int .i64 x] (fun k=>k≠gl) (fun _=>False) rfl rfl ?aP (fun _ hk=>hk.elim) ?aF ?aO ?aB ?aS ?aL ?_;(case aP=>exact rfl);(case aB=>exact (bq));(case aF=>intro q hq hqe;have h1:=jta LB.out;subst hqe;simp at hq;omega);(case aO=>exact (rq HO.out));(case aS=>exact (jY (bq)));(case aL=>have:=LM.out;omega);intro v115 w14 ho hb hg hat;have n1_:=am (hb);have n2_:=am (ho);have n3_:=am (jla (g:=gl) (o:=.cells #[.int .i64 (jo l0 z).f2, .int .i64 (jo l0 z).f3] 3 (0,0)) (kq LB.out) hg (Kd.R_away HO.out (fun q hq=>hq)));have n4_:=am (jla (g:=w.heap.size) (o:=.cells #[.slice (some ad3) l0.length c0] 53 (0,0)) (kq BH.out) hg (Kd.R_ne HO.out BH.out (by decide)));clear HB HO LB BH;have HB:=n1_;have HO:=n2_;have LB:=n3_;have BH:=n4_;clear n1_ n2_ n3_ n4_ ho hb hg hat))
           go_roundw
           case rel=>exact ⟨j+1,o ++ [x],by omega,by go_num,HR2,⟨by have:=HLE.out;rw [List.length_append];omega⟩,⟨rq HO.out⟩,⟨kq LB.out⟩,⟨kq BH.out⟩,⟨(bq)⟩⟩
           case measure=>simp [intOf];omega
          ·rw [if_neg c10] at hs1;cases hs1
        ·rw [if_neg c6] at hs1
         have c6b0:decide (0≤x)=false:=dzF c6
         obtain rfl:=Option.some.inj hs1
         clear c6 hs1
         go_wp2
         go_roundw
         case rel=>exact ⟨j+1,o,by omega,by go_num,HR2,⟨by have:=HLE.out;omega⟩,⟨rq HO.out⟩,⟨kq LB.out⟩,⟨kq BH.out⟩,⟨(bq)⟩⟩
         case measure=>simp [intOf];omega
       ·obtain rfl:j=2:=by omega
        obtain rfl:=Option.some.inj (show some o=some o2 from HS.out)
        go_wp2
        go_roundg k1
        case measure=>have:=HK1.out;omega
        case rel=>exact ⟨i+1,o,by go_num,by have:=HLE.out;omega,HN,⟨by have:=HK1.out;omega⟩,⟨by (with_reducible repeat (first | apply Kd.jK | apply Kd.jL | apply Kd.jH));exact Kd.jD HO.out (fun _ _=>trivial)⟩,⟨kq BH.out⟩,⟨(bq)⟩⟩
     ·rw [if_neg h1] at H;cases H
    ·rw [if_neg h0] at H;cases H
   ·rw [if_neg hlt] at H
    obtain rfl:=Option.some.inj H
    have hZ:=HZ.out
    by_cases hz0:0<out.length∧out.length<4611686018427387904
    ·rw [if_pos hz0] at hZ
     obtain rfl:=Option.some.inj hZ
     obtain ⟨g,cap,hv,_,_,_⟩:=Kd.R_form HO.out hz0.1
     injection hv with hA1 hA2 hA3
     subst hA1
     have HSZ:=am hz0.2
     have hlb:=eq_false hlt
     clear H hZ hz0 HZ hA2 hA3
     go_wp2_with (first |(go_at_call 121;refine (slices_Sort_row out w.heap.size (fun _=>True) g co _ (rq HO.out) HSZ.out).mono ?_;rintro e w5 ⟨rfl,hs,hb5⟩;have n0_:=am hs;have n1_:=am (Below.trans (bq) hb5);clear HO HB;have HO:=n0_;have HB:=n1_;clear n0_ n1_ hs hb5) |(go_at_call 111;refine (jUa.calls (fun _=>True) _ (out.mergeSort fun x y=>decide (x≤y)) (out.mergeSort fun x y=>decide (x≤y)) w _ (bq) (rq HO.out) (show jUa.f (out.mergeSort fun x y=>decide (x≤y))=some (out.mergeSort fun x y=>decide (x≤y)) from rfl)).mono ?_;rintro e w9 ⟨v9,rfl,hR9,hB9,hK9⟩))
     go_ret
     exact ⟨_,rfl,Kd.jD hR9 (fun _ _=>trivial),hB9⟩
    ·rw [if_neg hz0] at hZ;cases hZ
def jX.l0 : Nat → Int → List Int → List Int → Int → Int → List (S90) → List (S90) → Option ((List (S90)) × Int)
 | 0,_,_,_,_,_,_,_=>none
 | k+1,x1,x6,x18,x19,x20,x638000,x646000=>if x20<x19 then (if 0≤x20 then (if x20<(x18.length:Int) then (if 0≤(rd x18 x20) then (if (rd x18 x20)<(x638000.length:Int) then ((jC.f k x6 ((jo x638000 (rd x18 x20)).f2)).bind fun t650=>((jC.f k x6 ((jo x638000 (rd x18 x20)).f3)).bind fun t651=>(if x646000.length<3518437208883 then (jX.l0 k x1 x6 x18 x19 (wrap64 (x20+1)) x638000 (x646000 ++ [(⟨(jo x638000 (rd x18 x20)).f0,(jo x638000 (rd x18 x20)).f1,t650,t651,(jo x638000 (rd x18 x20)).f4⟩:S90)])) else (none)))) else (none)) else (none)) else (none)) else (none)) else ((jC.f k x6 x1).bind fun t646=>(some (x646000,t646)))
def jX.f (k : Nat) (l0_0 : List (S90)) (a1 : Int) : Option ((List (S90)) × Int) := (jmb.f k l0_0 a1).bind fun t639 => (if 0 ≤ (t639.length : Int) then (if ((t639.length : Int) : Int).toNat ≤ 7036874417766 then (jX.l0 k a1 t639 t639 (t639.length : Int) 0 l0_0 (([] : List (S90)))) else (none)) else (none))
def jX.T7 : Bool × List (List Nat × List Nat) := (true, [([], []), ([], []), ([1], [1]), ([0, 2], [0, 2]), ([], []), ([], []), ([5], [5]), ([4, 6, 3], [4, 6]), ([0, 1, 2, 3, 5, 6], []), ([8, 3, 7, 0, 1, 2, 3, 5, 6], [3, 8]), ([0, 1, 2, 3, 4, 5, 6, 7, 8, 9], []), ([10, 7, 9, 0, 1, 2, 3, 4, 5, 6, 7, 8, 9], [7, 10])])
def jX.B7 : List Nat := [0, 0, 2, 7, 0, 0, 32, 127, 111, 511, 1023, 2047]
theorem jX.tab7 : rtab .any (opsOf Try.f112 7) = jX.T7 := by kernel_rfl
theorem jX.bits7 : jec jX.T7.2 jX.B7 = true := by kernel_rfl
set_option maxHeartbeats 8000000 in
set_option maxRecDepth 100000 in
theorem jX.calls (k : Nat) (A0_0 : Option Addr) (c0_0 : Nat) (l0_0 : List (S90)) (a1 : Int) (r1 : List (S90)) (r2 : Int) (w : World) (hr0_0 : Kd.C k90 w A0_0 l0_0.length l0_0) (hc0_0 : l0_0.length ≤ c0_0) (h : jX.f k l0_0 a1 = some (r1, r2)) :
  Calls Try.prog 112 #[.agg #[.slice A0_0 l0_0.length c0_0], .int .i64 a1] w fun e w'=>∃ v0_:Value,e=.returned (.tuple #[.agg #[v0_], .int .i64 r2])∧Kd.R k90 90 w' w.heap.size (fun _=>True) v0_ r1∧Below w.heap.size w w':=by
 have hu53:=Try.underlying53
 have hu90:=Try.underlying90
 have HR0_0:=am hr0_0
 have HC0_0:=am hc0_0
 clear hr0_0 hc0_0
 have HB:=am (Below.refl w.heap.size w)
 have H:((jmb.f k l0_0 a1).bind fun t639=>(if 0≤(t639.length:Int) then (if ((t639.length:Int):Int).toNat≤7036874417766 then (jX.l0 k a1 t639 t639 (t639.length:Int) 0 l0_0 (([]:List (S90)))) else (none)) else (none)))=some (r1,r2):=h
 clear h
 replace H:=bzS H
 obtain ⟨t639,A30,H⟩:=H
 replace H:(if 0≤(t639.length:Int) then (if ((t639.length:Int):Int).toNat≤7036874417766 then (jX.l0 k a1 t639 t639 (t639.length:Int) 0 l0_0 (([]:List (S90)))) else (none)) else (none))=some (r1,r2):=H
 have A3:=am A30
 clear A30
 by_cases c4:0≤(t639.length:Int)
 ·rw [if_pos c4] at H
  have c4b0:=ezT c4
  have c4b1:decide (0≤(t639.length:Int))=true:=dzT c4
  clear c4
  by_cases c5:((t639.length:Int):Int).toNat≤7036874417766
  ·rw [if_pos c5] at H
   have c5b0:=ezT c5
   have c5b1:decide (((t639.length:Int):Int).toNat≤7036874417766)=true:=dzT c5
   clear c5
   obtain ⟨y642,hy642⟩:∃ y_:List (S90),y_=(([]:List (S90))):=⟨_,rfl⟩
   replace H:(jX.l0 k a1 t639 t639 (t639.length:Int) 0 l0_0 y642)=some (r1,r2):=by first |(rw [hy642];with_reducible exact H) |(have H2_:=(Option.bind_some _ _).symm.trans H;rw [hy642];with_reducible exact H2_) |(have H2_:=(Option.bind_some _ _).symm.trans H;with_reducible exact H2_) | with_reducible exact H |(rw [hy642];exact H) | exact H
   have Ny642:=am hy642
   clear hy642
   have H':=am H
   clear H
   go_enter Try.func112,Try.ntmps112
   go_wp2_with (first |((with_reducible refine jP (N:=2) rfl ?_);refine bE (N:=2) (cs:=#[.slice A0_0 l0_0.length c0_0]) (t:=53) ?_;intro gb637 hg w6 hbox hb;have BK637:=am (hbox);have GW637:=am ((Y3:w.heap.size≤gb637));have GE637:=am ((Y3:w.heap.size≤gb637));replace HB:=am (jk (bq) hb);clear hb hbox hg) |((with_reducible refine jP (N:=4) rfl ?_);refine bE (N:=4) (cs:=#[.slice none 0 0]) (t:=53) ?_;intro gb638 hg w7 hbox hb;have BK638:=am (hbox);have GW638:=am ((Y129:w.heap.size≤gb638));have GE638:=am ((Y129:w.heap.size≤gb638));have NB637_638:=am ((by rw [hg];exact Nat.ne_of_lt (jta (g:=gb637) (o:=.cells #[.slice A0_0 l0_0.length c0_0] 53 (0,0)) (kq BK637.out)):gb637≠gb638));have NB638_637:=am ((by rw [hg];exact Nat.ne_of_gt (jta (g:=gb637) (o:=.cells #[.slice A0_0 l0_0.length c0_0] 53 (0,0)) (kq BK637.out)):gb638≠gb637));replace BK637:=am (je (g:=gb637) (o:=.cells #[.slice A0_0 l0_0.length c0_0] 53 (0,0)) (kq BK637.out) hb);replace HB:=am (jk (by repeat (first |(with_reducible first | exact HB.out | apply jJ | apply jw | apply jF | refine jq ?_ GE637.out) | exact HB.out)) hb);clear hb hbox hg;have hnb8:=NB637_638.out;have hnc8:=NB638_637.out;have hcz9_0:=bc0 BK637.out;have hfz9_0:=jd BK637.out 0) |((with_reducible refine jy (f:=118) rfl ?_);refine gL (some 13) Try.func118 #[.agg #[.slice A0_0 l0_0.length c0_0], .int .i64 a1] ?_;(with_reducible refine (jmb.calls k _ _ l0_0 a1 t639 _ ?side1 ?side2 A3.out).mono ?_);(case side1=>exact cq (Kd.jka HR0_0.out HB.out));(case side2=>exact HC0_0.out);rintro e w10 ⟨v640,rfl,ho0,hb⟩;refine ⟨_,rfl,?_⟩;have HO641:=am (Kd.jua ho0 (jY (Y68)));replace BK637:=am (je (g:=gb637) (o:=.cells #[.slice A0_0 l0_0.length c0_0] 53 (0,0)) (kq BK637.out) hb);replace BK638:=am (je (g:=gb638) (o:=.cells #[.slice none 0 0] 53 (0,0)) (kq BK638.out) hb);replace HB:=am (jk (Y68) hb);(try clear hb);(try clear hb2);(try clear hk);(try clear hi);(try clear ho0);obtain ⟨Ao11,co11,eo11⟩:=Kd.jja HO641.out;subst eo11) |((with_reducible refine jP (N:=16) rfl ?_);refine Kd.R_mkcap k90 _ 90 rfl (N:=16) rfl 51 _ _ rfl (t639.length:Int) rfl rfl Try.underlying51 (.agg #[(.int .i64 0),(.int .i64 0),(.int .i64 0),(.int .i64 0),(.bool false)]) 40 info90 rfl (by decide) (by omega) (ok:=fun _=>True) trivial (ozD (uq)) (Nat.le_trans (Nat.mul_le_mul_right _ (ozD (uq):(t639.length:Int).toNat≤7036874417766)) (by omega)) (Below.refl _ _) (Nat.le_refl _) ?_;intro v643 w12 ho13 hb hg_ hnew_;clear hg_ hnew_;(first | rw [← Ny642.out] at ho13 |(simp only [Int.reduceToNat] at ho13;rw [← Ny642.out] at ho13));have HO644:=am (Kd.jua ho13 (jY (Y68)));replace HO641:=am (Kd.jM (rq HO641.out) hb);replace BK637:=am (je (g:=gb637) (o:=.cells #[.slice A0_0 l0_0.length c0_0] 53 (0,0)) (kq BK637.out) hb);replace BK638:=am (je (g:=gb638) (o:=.cells #[.slice none 0 0] 53 (0,0)) (kq BK638.out) hb);replace HB:=am (jk (Y68) hb);clear hb ho13;obtain ⟨Ao14,co14,eo14⟩:=Kd.jja HO644.out;subst eo14) |((with_reducible refine jP (N:=7) rfl ?_);refine bE (N:=7) (cs:=#[.slice none 0 0]) (t:=53) ?_;intro gb645 hg w15 hbox hb;have BK645:=am (hbox);have GW645:=am ((Y130:w.heap.size≤gb645));have GE645:=am ((Y130:w.heap.size≤gb645));have NB637_645:=am ((by rw [hg];exact Nat.ne_of_lt (jta (g:=gb637) (o:=.cells #[.slice A0_0 l0_0.length c0_0] 53 (0,0)) (kq BK637.out)):gb637≠gb645));have NB645_637:=am ((by rw [hg];exact Nat.ne_of_gt (jta (g:=gb637) (o:=.cells #[.slice A0_0 l0_0.length c0_0] 53 (0,0)) (kq BK637.out)):gb645≠gb637));have NB638_645:=am ((by rw [hg];exact Nat.ne_of_lt (jta (g:=gb638) (o:=.cells #[.slice none 0 0] 53 (0,0)) (kq BK638.out)):gb638≠gb645));have NB645_638:=am ((by rw [hg];exact Nat.ne_of_gt (jta (g:=gb638) (o:=.cells #[.slice none 0 0] 53 (0,0)) (kq BK638.out)):gb645≠gb638));replace HO641:=am (Kd.jM (rq HO641.out) hb);replace HO644:=am (Kd.jM (rq HO644.out) hb);replace BK637:=am (je (g:=gb637) (o:=.cells #[.slice A0_0 l0_0.length c0_0] 53 (0,0)) (kq BK637.out) hb);replace BK638:=am (je (g:=gb638) (o:=.cells #[.slice none 0 0] 53 (0,0)) (kq BK638.out) hb);replace HB:=am (jk (Y68) hb);clear hb hbox hg;have hnb16:=NB645_637.out;have hnc16:=NB637_645.out;have hnb17:=NB645_638.out;have hnc17:=NB638_645.out;have hcz18_0:=bc0 BK645.out;have hfz18_0:=jd BK645.out 0))
   go_loopg [20] k (fun kq v20 w'=>∃ (x20_1:Int) (x646000_1:List (S90)) (u646000:Value),v20=.int .i64 x20_1∧jv (jX.l0 kq a1 t639 t639 (t639.length:Int) x20_1 l0_0 x646000_1=some (r1,r2))∧jv (kq≤k)∧jv (Kd.R (Kd.int .i64) 3 w' w.heap.size (fun _=>True) (.slice Ao11 t639.length co11) t639)∧jv (Kd.R (Kd.int .i64) 3 w' w.heap.size (fun _=>True) (.slice Ao11 t639.length co11) t639)∧jv (Kd.R k90 90 w' w.heap.size (fun _=>True) u646000 x646000_1)∧jv (w'.heap[gb637]?=some (.cells #[(.slice A0_0 l0_0.length c0_0)] 53 (0,0)))∧jv (w'.heap[gb638]?=some (.cells #[(.slice none 0 0)] 53 (0,0)))∧jv (w'.heap[gb645]?=some (.cells #[u646000] 53 (0,0)))∧jv (Below w.heap.size w w'))
   case atStart=>exact ⟨(0),(y642),(.slice Ao14 y642.length co14),(sq),H',⟨Nat.le_refl _⟩,⟨by (with_reducible repeat (first | apply Kd.jK | apply Kd.jL | apply Kd.jH));exact Kd.jD (Kd.jB (p:=⟨gb645,0,none⟩) (Kd.jN HO641.out BK645.out (by decide)) (fun _ hk=>hk.2) (.slice Ao14 y642.length co14)) (fun _ hk=>trivial)⟩,⟨by (with_reducible repeat (first | apply Kd.jK | apply Kd.jL | apply Kd.jH));exact Kd.jD (Kd.jB (p:=⟨gb645,0,none⟩) (Kd.jN HO641.out BK645.out (by decide)) (fun _ hk=>hk.2) (.slice Ao14 y642.length co14)) (fun _ hk=>trivial)⟩,⟨by (with_reducible repeat (first | apply Kd.jK | apply Kd.jL | apply Kd.jH));exact Kd.jD (Kd.jB (p:=⟨gb645,0,none⟩) (Kd.jN HO644.out BK645.out (by decide)) (fun _ hk=>hk.2) (.slice Ao14 y642.length co14)) (fun _ hk=>trivial)⟩,⟨by (with_reducible repeat (first | refine jb ?_ _ | refine jc ?_ | refine ja ?_ _));refine jr ?_ NB637_645.out _;(with_reducible repeat (first | refine jb ?_ _ | refine jc ?_ | refine ja ?_ _));exact BK637.out⟩,⟨by (with_reducible repeat (first | refine jb ?_ _ | refine jc ?_ | refine ja ?_ _));refine jr ?_ NB638_645.out _;(with_reducible repeat (first | refine jb ?_ _ | refine jc ?_ | refine ja ?_ _));exact BK638.out⟩,⟨by (with_reducible repeat (first | refine jb ?_ _ | refine jc ?_ | refine ja ?_ _));refine jO (cs:=#[.slice none 0 0]) ?_ 0 _ rfl;(with_reducible repeat (first | refine jb ?_ _ | refine jc ?_ | refine ja ?_ _));exact BK645.out⟩,⟨Y101⟩⟩
   case round =>
    clear H'
    try clear c1
    try clear p2
    try clear c4
    try clear c4b0
    try clear c4b1
    try clear c5
    try clear c5b0
    try clear c5b1
    try clear c8
    try clear c11
    try clear c16
    try clear c17
    try clear hcz18_0
    try clear hcz9_0
    try clear hfz18_0
    try clear hfz9_0
    obtain ⟨x20_1,x646000_1,u646000,rfl,HA,HK1,HO_6,HO_18,HO_646000,BK637,BK638,BK645,HB⟩:=hrel
    cases gk with
    | zero=>exact absurd HA.out (by simp [jX.l0])
    | succ k1 =>
     have H:=HA.out
     clear HA
     simp only [jX.l0] at H
     by_cases c19:x20_1<(t639.length:Int)
     ·rw [if_pos c19] at H
      have c19b0:decide (x20_1<(t639.length:Int))=true:=dzT c19
      clear c19
      by_cases c20:0≤x20_1
      ·rw [if_pos c20] at H
       have c20b0:decide (0≤x20_1)=true:=dzT c20
       clear c20
       by_cases c21:x20_1<(t639.length:Int)
       ·rw [if_pos c21] at H
        have c21b0:decide (x20_1<(t639.length:Int))=true:=dzT c21
        clear c21
        by_cases c22:0≤(rd t639 x20_1)
        ·rw [if_pos c22] at H
         have c22b0:decide (0≤(rd t639 x20_1))=true:=dzT c22
         clear c22
         by_cases c23:(rd t639 x20_1)<(l0_0.length:Int)
         ·rw [if_pos c23] at H
          have c23b0:decide ((rd t639 x20_1)<(l0_0.length:Int))=true:=dzT c23
          clear c23
          replace H:=bzS H
          obtain ⟨t650,A240,H⟩:=H
          replace H:((jC.f k1 t639 ((jo l0_0 (rd t639 x20_1)).f3)).bind fun t651=>(if x646000_1.length<3518437208883 then (jX.l0 k1 a1 t639 t639 (t639.length:Int) (wrap64 (x20_1+1)) l0_0 (x646000_1 ++ [(⟨(jo l0_0 (rd t639 x20_1)).f0,(jo l0_0 (rd t639 x20_1)).f1,t650,t651,(jo l0_0 (rd t639 x20_1)).f4⟩:S90)])) else (none)))=some (r1,r2):=H
          have A24:=am A240
          clear A240
          replace H:=bzS H
          obtain ⟨t651,A250,H⟩:=H
          replace H:(if x646000_1.length<3518437208883 then (jX.l0 k1 a1 t639 t639 (t639.length:Int) (wrap64 (x20_1+1)) l0_0 (x646000_1 ++ [(⟨(jo l0_0 (rd t639 x20_1)).f0,(jo l0_0 (rd t639 x20_1)).f1,t650,t651,(jo l0_0 (rd t639 x20_1)).f4⟩:S90)])) else (none))=some (r1,r2):=H
          have A25:=am A250
          clear A250
          by_cases c26:x646000_1.length<3518437208883
          ·rw [if_pos c26] at H
           have LMc26:=am c26
           clear c26
           obtain ⟨y652,hy652⟩:∃ y_:List (S90),y_=(x646000_1 ++ [(⟨(jo l0_0 (rd t639 x20_1)).f0,(jo l0_0 (rd t639 x20_1)).f1,t650,t651,(jo l0_0 (rd t639 x20_1)).f4⟩:S90)]):=⟨_,rfl⟩
           replace H:(jX.l0 k1 a1 t639 t639 (t639.length:Int) (wrap64 (x20_1+1)) l0_0 y652)=some (r1,r2):=by first |(rw [hy652];with_reducible exact H) |(have H2_:=(Option.bind_some _ _).symm.trans H;rw [hy652];with_reducible exact H2_) |(have H2_:=(Option.bind_some _ _).symm.trans H;with_reducible exact H2_) | with_reducible exact H |(rw [hy652];exact H) | exact H
           have Ny652:=am hy652
           clear hy652
           have H':=am H
           clear H
           have p647:0≤(x20_1:Int):=ozD (uq)
           have q647:x20_1<(t639.length:Int):=ozD (uq)
           obtain ⟨ad647,e647,hx647_0⟩:=Kd.jXb (Kd.jE HO_18.out).2.2 x20_1 p647 q647
           cases e647
           replace p647:=ezT p647
           replace q647:=ezT q647
           have hnb27:=NB637_638.out
           have hnc27:=NB638_637.out
           have hnb28:=NB637_645.out
           have hnc28:=NB645_637.out
           have hcz29_0:=bc0 BK637.out
           have hfz29_0:=jd BK637.out 0
           have p648:0≤((rd t639 x20_1):Int):=ozD (uq)
           have q648:(rd t639 x20_1)<(l0_0.length:Int):=ozD (uq)
           obtain ⟨ad648,e648,hx648_0,hx648_1,hx648_2,hx648_3,hx648_4⟩:=at_T90 HR0_0.out (rd t639 x20_1) p648 q648
           cases e648
           replace hx648_0:=cb HB.out hx648_0
           replace hx648_1:=cb HB.out hx648_1
           replace hx648_2:=cb HB.out hx648_2
           replace hx648_3:=cb HB.out hx648_3
           replace hx648_4:=cb HB.out hx648_4
           replace p648:=ezT p648
           replace q648:=ezT q648
           try go_wp2_with (first |((with_reducible refine jP (N:=10) rfl ?_);refine bE (N:=10) (cs:=#[.int .i64 0, .int .i64 0, .int .i64 0, .int .i64 0, .bool false]) (t:=90) ?_;intro gb649 hg w30 hbox hb;have BK649:=am (hbox);have GW649:=am ((Y131:w.heap.size≤gb649));have GE649:=am ((Y131:w.heap.size≤gb649));have NB637_649:=am ((by rw [hg];exact Nat.ne_of_lt (jta (g:=gb637) (o:=.cells #[.slice (some ad648) l0_0.length c0_0] 53 (0,0)) (kq BK637.out)):gb637≠gb649));have NB649_637:=am ((by rw [hg];exact Nat.ne_of_gt (jta (g:=gb637) (o:=.cells #[.slice (some ad648) l0_0.length c0_0] 53 (0,0)) (kq BK637.out)):gb649≠gb637));have NB638_649:=am ((by rw [hg];exact Nat.ne_of_lt (jta (g:=gb638) (o:=.cells #[.slice none 0 0] 53 (0,0)) (kq BK638.out)):gb638≠gb649));have NB649_638:=am ((by rw [hg];exact Nat.ne_of_gt (jta (g:=gb638) (o:=.cells #[.slice none 0 0] 53 (0,0)) (kq BK638.out)):gb649≠gb638));have NB645_649:=am ((by rw [hg];exact Nat.ne_of_lt (jta (g:=gb645) (o:=.cells #[u646000] 53 (0,0)) (kq BK645.out)):gb645≠gb649));have NB649_645:=am ((by rw [hg];exact Nat.ne_of_gt (jta (g:=gb645) (o:=.cells #[u646000] 53 (0,0)) (kq BK645.out)):gb649≠gb645));replace HO_6:=am (Kd.jM (rq HO_6.out) hb);replace HO_18:=am (Kd.jM (rq HO_18.out) hb);replace HO_646000:=am (Kd.jM (Kd.R_elderB (rq HO_646000.out) gb649 (Nat.le_of_eq hg.symm)) hb);replace BK637:=am (je (g:=gb637) (o:=.cells #[.slice (some ad648) l0_0.length c0_0] 53 (0,0)) (kq BK637.out) hb);replace BK638:=am (je (g:=gb638) (o:=.cells #[.slice none 0 0] 53 (0,0)) (kq BK638.out) hb);replace BK645:=am (je (g:=gb645) (o:=.cells #[u646000] 53 (0,0)) (kq BK645.out) hb);replace HB:=am (jk (Y101) hb);clear hb hbox hg;have hnb31:=NB649_637.out;have hnc31:=NB637_649.out;have hnb32:=NB649_638.out;have hnc32:=NB638_649.out;have hnb33:=NB649_645.out;have hnc33:=NB645_649.out;have hcz34_0:=bc0 BK649.out;have hcz34_1:=bc1 BK649.out;have hcz34_2:=bc2 BK649.out;have hcz34_3:=bc3 BK649.out;have hcz34_4:w30.cell? ⟨gb649,4,none⟩=some (.bool false):=(jh BK649.out 4).trans rfl;have hfz34_0:=jd BK649.out 0;have hfz34_1:=jd BK649.out 1;have hfz34_2:=jd BK649.out 2;have hfz34_3:=jd BK649.out 3;have hfz34_4:=jd BK649.out 4))
           have n0_:jv (Kd.R (Kd.int .i64) 3 (((((w30.setCell ⟨gb649,0,none⟩ (.int .i64 ((jo l0_0 (rd t639 x20_1)).f0))).setCell ⟨gb649,1,none⟩ (.int .i64 ((jo l0_0 (rd t639 x20_1)).f1))).setCell ⟨gb649,2,none⟩ (.int .i64 ((jo l0_0 (rd t639 x20_1)).f2))).setCell ⟨gb649,3,none⟩ (.int .i64 ((jo l0_0 (rd t639 x20_1)).f3))).setCell ⟨gb649,4,none⟩ (.bool ((jo l0_0 (rd t639 x20_1)).f4))) w.heap.size (fun _=>True) (.slice (some ad647) t639.length co11) t639):=⟨by (with_reducible repeat (first | apply Kd.jK | apply Kd.jL | apply Kd.jH));exact Kd.jD (Kd.jB (p:=⟨gb649,4,none⟩) (Kd.jB (p:=⟨gb649,3,none⟩) (Kd.jB (p:=⟨gb649,2,none⟩) (Kd.jB (p:=⟨gb649,1,none⟩) (Kd.jB (p:=⟨gb649,0,none⟩) (Kd.jN HO_6.out BK649.out (by decide)) (fun _ hk=>hk.2) (.int .i64 ((jo l0_0 (rd t639 x20_1)).f0))) (fun _ hk=>hk.2) (.int .i64 ((jo l0_0 (rd t639 x20_1)).f1))) (fun _ hk=>hk.2) (.int .i64 ((jo l0_0 (rd t639 x20_1)).f2))) (fun _ hk=>hk.2) (.int .i64 ((jo l0_0 (rd t639 x20_1)).f3))) (fun _ hk=>hk.2) (.bool ((jo l0_0 (rd t639 x20_1)).f4))) (fun _ hk=>trivial)⟩
           have n1_:jv (Kd.R (Kd.int .i64) 3 (((((w30.setCell ⟨gb649,0,none⟩ (.int .i64 ((jo l0_0 (rd t639 x20_1)).f0))).setCell ⟨gb649,1,none⟩ (.int .i64 ((jo l0_0 (rd t639 x20_1)).f1))).setCell ⟨gb649,2,none⟩ (.int .i64 ((jo l0_0 (rd t639 x20_1)).f2))).setCell ⟨gb649,3,none⟩ (.int .i64 ((jo l0_0 (rd t639 x20_1)).f3))).setCell ⟨gb649,4,none⟩ (.bool ((jo l0_0 (rd t639 x20_1)).f4))) w.heap.size (fun _=>True) (.slice (some ad647) t639.length co11) t639):=⟨by (with_reducible repeat (first | apply Kd.jK | apply Kd.jL | apply Kd.jH));exact Kd.jD (Kd.jB (p:=⟨gb649,4,none⟩) (Kd.jB (p:=⟨gb649,3,none⟩) (Kd.jB (p:=⟨gb649,2,none⟩) (Kd.jB (p:=⟨gb649,1,none⟩) (Kd.jB (p:=⟨gb649,0,none⟩) (Kd.jN HO_18.out BK649.out (by decide)) (fun _ hk=>hk.2) (.int .i64 ((jo l0_0 (rd t639 x20_1)).f0))) (fun _ hk=>hk.2) (.int .i64 ((jo l0_0 (rd t639 x20_1)).f1))) (fun _ hk=>hk.2) (.int .i64 ((jo l0_0 (rd t639 x20_1)).f2))) (fun _ hk=>hk.2) (.int .i64 ((jo l0_0 (rd t639 x20_1)).f3))) (fun _ hk=>hk.2) (.bool ((jo l0_0 (rd t639 x20_1)).f4))) (fun _ hk=>trivial)⟩
           have n2_:jv (Kd.R k90 90 (((((w30.setCell ⟨gb649,0,none⟩ (.int .i64 ((jo l0_0 (rd t639 x20_1)).f0))).setCell ⟨gb649,1,none⟩ (.int .i64 ((jo l0_0 (rd t639 x20_1)).f1))).setCell ⟨gb649,2,none⟩ (.int .i64 ((jo l0_0 (rd t639 x20_1)).f2))).setCell ⟨gb649,3,none⟩ (.int .i64 ((jo l0_0 (rd t639 x20_1)).f3))).setCell ⟨gb649,4,none⟩ (.bool ((jo l0_0 (rd t639 x20_1)).f4))) w.heap.size (fun k_=>k_≠gb649) u646000 x646000_1):=⟨by (with_reducible repeat (first | apply Kd.jK | apply Kd.jL | apply Kd.jH));exact Kd.jD (Kd.jB (p:=⟨gb649,4,none⟩) (Kd.jB (p:=⟨gb649,3,none⟩) (Kd.jB (p:=⟨gb649,2,none⟩) (Kd.jB (p:=⟨gb649,1,none⟩) (Kd.jB (p:=⟨gb649,0,none⟩) (Kd.jD HO_646000.out (fun k_ hk=>(⟨hk,hk.2⟩:_∧k_≠gb649))) (fun _ hk=>hk.2) (.int .i64 ((jo l0_0 (rd t639 x20_1)).f0))) (fun _ hk=>hk.2) (.int .i64 ((jo l0_0 (rd t639 x20_1)).f1))) (fun _ hk=>hk.2) (.int .i64 ((jo l0_0 (rd t639 x20_1)).f2))) (fun _ hk=>hk.2) (.int .i64 ((jo l0_0 (rd t639 x20_1)).f3))) (fun _ hk=>hk.2) (.bool ((jo l0_0 (rd t639 x20_1)).f4))) (fun _ hk=>hk.1.2)⟩
           have n3_:jv ((((((w30.setCell ⟨gb649,0,none⟩ (.int .i64 ((jo l0_0 (rd t639 x20_1)).f0))).setCell ⟨gb649,1,none⟩ (.int .i64 ((jo l0_0 (rd t639 x20_1)).f1))).setCell ⟨gb649,2,none⟩ (.int .i64 ((jo l0_0 (rd t639 x20_1)).f2))).setCell ⟨gb649,3,none⟩ (.int .i64 ((jo l0_0 (rd t639 x20_1)).f3))).setCell ⟨gb649,4,none⟩ (.bool ((jo l0_0 (rd t639 x20_1)).f4))).heap[gb637]?=some (.cells #[.slice (some ad648) l0_0.length c0_0] 53 (0,0))):=⟨by (with_reducible repeat (first | refine jb ?_ _ | refine jc ?_ | refine ja ?_ _));refine jr ?_ NB637_649.out _;(with_reducible repeat (first | refine jb ?_ _ | refine jc ?_ | refine ja ?_ _));refine jr ?_ NB637_649.out _;(with_reducible repeat (first | refine jb ?_ _ | refine jc ?_ | refine ja ?_ _));refine jr ?_ NB637_649.out _;(with_reducible repeat (first | refine jb ?_ _ | refine jc ?_ | refine ja ?_ _));refine jr ?_ NB637_649.out _;(with_reducible repeat (first | refine jb ?_ _ | refine jc ?_ | refine ja ?_ _));refine jr ?_ NB637_649.out _;(with_reducible repeat (first | refine jb ?_ _ | refine jc ?_ | refine ja ?_ _));exact BK637.out⟩
           have n4_:jv ((((((w30.setCell ⟨gb649,0,none⟩ (.int .i64 ((jo l0_0 (rd t639 x20_1)).f0))).setCell ⟨gb649,1,none⟩ (.int .i64 ((jo l0_0 (rd t639 x20_1)).f1))).setCell ⟨gb649,2,none⟩ (.int .i64 ((jo l0_0 (rd t639 x20_1)).f2))).setCell ⟨gb649,3,none⟩ (.int .i64 ((jo l0_0 (rd t639 x20_1)).f3))).setCell ⟨gb649,4,none⟩ (.bool ((jo l0_0 (rd t639 x20_1)).f4))).heap[gb638]?=some (.cells #[.slice none 0 0] 53 (0,0))):=⟨by (with_reducible repeat (first | refine jb ?_ _ | refine jc ?_ | refine ja ?_ _));refine jr ?_ NB638_649.out _;(with_reducible repeat (first | refine jb ?_ _ | refine jc ?_ | refine ja ?_ _));refine jr ?_ NB638_649.out _;(with_reducible repeat (first | refine jb ?_ _ | refine jc ?_ | refine ja ?_ _));refine jr ?_ NB638_649.out _;(with_reducible repeat (first | refine jb ?_ _ | refine jc ?_ | refine ja ?_ _));refine jr ?_ NB638_649.out _;(with_reducible repeat (first | refine jb ?_ _ | refine jc ?_ | refine ja ?_ _));refine jr ?_ NB638_649.out _;(with_reducible repeat (first | refine jb ?_ _ | refine jc ?_ | refine ja ?_ _));exact BK638.out⟩
           have n5_:jv ((((((w30.setCell ⟨gb649,0,none⟩ (.int .i64 ((jo l0_0 (rd t639 x20_1)).f0))).setCell ⟨gb649,1,none⟩ (.int .i64 ((jo l0_0 (rd t639 x20_1)).f1))).setCell ⟨gb649,2,none⟩ (.int .i64 ((jo l0_0 (rd t639 x20_1)).f2))).setCell ⟨gb649,3,none⟩ (.int .i64 ((jo l0_0 (rd t639 x20_1)).f3))).setCell ⟨gb649,4,none⟩ (.bool ((jo l0_0 (rd t639 x20_1)).f4))).heap[gb645]?=some (.cells #[u646000] 53 (0,0))):=⟨by (with_reducible repeat (first | refine jb ?_ _ | refine jc ?_ | refine ja ?_ _));refine jr ?_ NB645_649.out _;(with_reducible repeat (first | refine jb ?_ _ | refine jc ?_ | refine ja ?_ _));refine jr ?_ NB645_649.out _;(with_reducible repeat (first | refine jb ?_ _ | refine jc ?_ | refine ja ?_ _));refine jr ?_ NB645_649.out _;(with_reducible repeat (first | refine jb ?_ _ | refine jc ?_ | refine ja ?_ _));refine jr ?_ NB645_649.out _;(with_reducible repeat (first | refine jb ?_ _ | refine jc ?_ | refine ja ?_ _));refine jr ?_ NB645_649.out _;(with_reducible repeat (first | refine jb ?_ _ | refine jc ?_ | refine ja ?_ _));exact BK645.out⟩
           have n6_:jv ((((((w30.setCell ⟨gb649,0,none⟩ (.int .i64 ((jo l0_0 (rd t639 x20_1)).f0))).setCell ⟨gb649,1,none⟩ (.int .i64 ((jo l0_0 (rd t639 x20_1)).f1))).setCell ⟨gb649,2,none⟩ (.int .i64 ((jo l0_0 (rd t639 x20_1)).f2))).setCell ⟨gb649,3,none⟩ (.int .i64 ((jo l0_0 (rd t639 x20_1)).f3))).setCell ⟨gb649,4,none⟩ (.bool ((jo l0_0 (rd t639 x20_1)).f4))).heap[gb649]?=some (.cells #[.int .i64 ((jo l0_0 (rd t639 x20_1)).f0), .int .i64 ((jo l0_0 (rd t639 x20_1)).f1), .int .i64 ((jo l0_0 (rd t639 x20_1)).f2), .int .i64 ((jo l0_0 (rd t639 x20_1)).f3), .bool ((jo l0_0 (rd t639 x20_1)).f4)] 90 (0,0))):=⟨by (with_reducible repeat (first | refine jb ?_ _ | refine jc ?_ | refine ja ?_ _));refine jO (cs:=#[.int .i64 ((jo l0_0 (rd t639 x20_1)).f0), .int .i64 ((jo l0_0 (rd t639 x20_1)).f1), .int .i64 ((jo l0_0 (rd t639 x20_1)).f2), .int .i64 ((jo l0_0 (rd t639 x20_1)).f3), .bool false]) ?_ 4 _ rfl;(with_reducible repeat (first | refine jb ?_ _ | refine jc ?_ | refine ja ?_ _));refine jO (cs:=#[.int .i64 ((jo l0_0 (rd t639 x20_1)).f0), .int .i64 ((jo l0_0 (rd t639 x20_1)).f1), .int .i64 ((jo l0_0 (rd t639 x20_1)).f2), .int .i64 0, .bool false]) ?_ 3 _ rfl;(with_reducible repeat (first | refine jb ?_ _ | refine jc ?_ | refine ja ?_ _));refine jO (cs:=#[.int .i64 ((jo l0_0 (rd t639 x20_1)).f0), .int .i64 ((jo l0_0 (rd t639 x20_1)).f1), .int .i64 0, .int .i64 0, .bool false]) ?_ 2 _ rfl;(with_reducible repeat (first | refine jb ?_ _ | refine jc ?_ | refine ja ?_ _));refine jO (cs:=#[.int .i64 ((jo l0_0 (rd t639 x20_1)).f0), .int .i64 0, .int .i64 0, .int .i64 0, .bool false]) ?_ 1 _ rfl;(with_reducible repeat (first | refine jb ?_ _ | refine jc ?_ | refine ja ?_ _));refine jO (cs:=#[.int .i64 0, .int .i64 0, .int .i64 0, .int .i64 0, .bool false]) ?_ 0 _ rfl;(with_reducible repeat (first | refine jb ?_ _ | refine jc ?_ | refine ja ?_ _));exact BK649.out⟩
           have n7_:jv (Below w.heap.size w (((((w30.setCell ⟨gb649,0,none⟩ (.int .i64 ((jo l0_0 (rd t639 x20_1)).f0))).setCell ⟨gb649,1,none⟩ (.int .i64 ((jo l0_0 (rd t639 x20_1)).f1))).setCell ⟨gb649,2,none⟩ (.int .i64 ((jo l0_0 (rd t639 x20_1)).f2))).setCell ⟨gb649,3,none⟩ (.int .i64 ((jo l0_0 (rd t639 x20_1)).f3))).setCell ⟨gb649,4,none⟩ (.bool ((jo l0_0 (rd t639 x20_1)).f4)))):=⟨Y88⟩
           (try clear HO_6)
           (try clear HO_18)
           (try clear HO_646000)
           (try clear BK637)
           (try clear BK638)
           (try clear BK645)
           (try clear BK649)
           (try clear HB)
           generalize (((((w30.setCell ⟨gb649,0,none⟩ (.int .i64 ((jo l0_0 (rd t639 x20_1)).f0))).setCell ⟨gb649,1,none⟩ (.int .i64 ((jo l0_0 (rd t639 x20_1)).f1))).setCell ⟨gb649,2,none⟩ (.int .i64 ((jo l0_0 (rd t639 x20_1)).f2))).setCell ⟨gb649,3,none⟩ (.int .i64 ((jo l0_0 (rd t639 x20_1)).f3))).setCell ⟨gb649,4,none⟩ (.bool ((jo l0_0 (rd t639 x20_1)).f4)))=w35 at n0_ n1_ n2_ n3_ n4_ n5_ n6_ n7_ ⊢
           have HO_6:=n0_
           have HO_18:=n1_
           have HO_646000:=n2_
           have BK637:=n3_
           have BK638:=n4_
           have BK645:=n5_
           have BK649:=n6_
           have HB:=n7_
           clear n0_ n1_ n2_ n3_ n4_ n5_ n6_ n7_
           replace HO_6:=am (Kd.jH HO_6.out)
           replace HO_18:=am (Kd.jH HO_18.out)
           replace HO_646000:=am (Kd.jH HO_646000.out)
           replace BK637:=am (jc BK637.out)
           replace BK638:=am (jc BK638.out)
           replace BK645:=am (jc BK645.out)
           replace BK649:=am (jc BK649.out)
           replace HB:=am (jF HB.out)
           refine jkc (n:=12) (S:=fun w'=>w'.cell? ⟨gb649,0,none⟩=some (.int .i64 ((jo l0_0 (rd t639 x20_1)).f0))∧w'.cell? ⟨gb649,1,none⟩=some (.int .i64 ((jo l0_0 (rd t639 x20_1)).f1))∧w'.cell? ⟨gb649,2,none⟩=some (.int .i64 ((jo l0_0 (rd t639 x20_1)).f2))∧w'.cell? ⟨gb649,3,none⟩=some (.int .i64 ((jo l0_0 (rd t639 x20_1)).f3))∧w'.cell? ⟨gb649,4,none⟩=some (.bool ((jo l0_0 (rd t639 x20_1)).f4))) (ds:=[9,11]) #[false,false,false,false,false,false,false,false,false,false,false,false] (by kernel_rfl) rfl rfl ⟨(jh BK649.out 0).trans rfl,(jh BK649.out 1).trans rfl,(jh BK649.out 2).trans rfl,(jh BK649.out 3).trans rfl,(jh BK649.out 4).trans rfl⟩ (fun hHeld=>?_);refine jJb jX.tab7 jX.bits7 (fun HT_ HW_=>?_)
           generalize w35.drew=w36 at HO_6 HO_18 HO_646000 BK637 BK638 BK645 BK649 HB hHeld ⊢
           refine pq (i:=0) (N:=some 29) #[true,false,false,false,false,false,false,false,false,false,false,false] ?_
           refine pq (i:=1) (N:=some 30) #[true,true,false,false,false,false,false,false,false,false,false,false] ?_
           refine pq (i:=4) (N:=some 33) #[true,true,false,false,true,false,false,false,false,false,false,false] ?_
           refine pq (i:=5) (N:=some 34) #[true,true,false,false,true,true,false,false,false,false,false,false] ?_
           refine jYb (i:=2) (N:=some 31) (v:=?_) (a':=?_) #[true,true,true,false,true,true,false,false,false,false,false,false] rfl rfl (jvb HT_.out HW_.out (by kernel_rfl)) (fun _ _ _ h=>h) (Or.inl ⟨by rfl,?_⟩) hHeld ?_ ?_
           rotate_left
           ·rintro w' ⟨s0,s1,s2,s3,s4⟩
            go_simp
            with_reducible rfl
           rotate_left
           ·exact sa
           refine jYb (i:=6) (N:=some 35) (v:=?_) (a':=?_) #[true,true,true,false,true,true,true,false,false,false,false,false] rfl rfl (jvb HT_.out HW_.out (by kernel_rfl)) (fun _ _ _ h=>h) (Or.inl ⟨by rfl,?_⟩) hHeld ?_ ?_
           rotate_left
           ·rintro w' ⟨s0,s1,s2,s3,s4⟩
            go_simp
            with_reducible rfl
           rotate_left
           ·exact sa
           refine one_ (i:=3) (N:=some 32) #[true,true,true,true,true,true,true,false,false,false,false,false] rfl rfl (jFb HT_.out (by kernel_rfl)) (by decide) (fun K hK=>?_)
           refine goes_ Try.func117 (by kernel_rfl) rfl #[.slice (some ad647) t639.length co11, .int .i64 ((jo l0_0 (rd t639 x20_1)).f2)] (by rfl) rfl rfl (aq) ?_
           with_reducible refine (jC.calls k1 _ _ t639 ((jo l0_0 (rd t639 x20_1)).f2) t650 _ ?side1 ?side2 A24.out).mono ?_
           (case side1=>exact cq (Kd.jE HO_6.out).2.2)
           (case side2=>exact (Kd.jE HO_6.out).2.1)
           rintro e w' ⟨rfl,⟨nd,rfl⟩⟩
           refine ⟨_,rfl,?_⟩
           refine hK.out _ _ ⟨(jh BK649.out 0).trans rfl,(jh BK649.out 1).trans rfl,(jh BK649.out 2).trans rfl,(jh BK649.out 3).trans rfl,(jh BK649.out 4).trans rfl⟩ (fun hHeld=>?_)
           clear hK K
           refine jjc (a':=?_) ?_ ?_
           rotate_left
           ·show Act.put _ (some 32) _=_
            simp only [Act.put,List.setIfInBounds_toArray,List.set_cons_zero,List.set_cons_succ,jyb,jBb]
            rfl
           refine pq (i:=8) (N:=some 37) #[true,true,true,true,true,true,true,false,true,false,false,false] ?_
           refine one_ (i:=7) (N:=some 36) #[true,true,true,true,true,true,true,true,true,false,false,false] rfl rfl (jFb HT_.out (by kernel_rfl)) (by decide) (fun K hK=>?_)
           refine goes_ Try.func117 (by kernel_rfl) rfl #[.slice (some ad647) t639.length co11, .int .i64 ((jo l0_0 (rd t639 x20_1)).f3)] (by rfl) rfl rfl (aq) ?_
           with_reducible refine (jC.calls k1 _ _ t639 ((jo l0_0 (rd t639 x20_1)).f3) t651 _ ?side1 ?side2 A25.out).mono ?_
           (case side1=>exact cq (Kd.jE HO_6.out).2.2)
           (case side2=>exact (Kd.jE HO_6.out).2.1)
           rintro e w' ⟨rfl,⟨nd,rfl⟩⟩
           refine ⟨_,rfl,?_⟩
           refine hK.out _ _ ⟨(jh BK649.out 0).trans rfl,(jh BK649.out 1).trans rfl,(jh BK649.out 2).trans rfl,(jh BK649.out 3).trans rfl,(jh BK649.out 4).trans rfl⟩ (fun hHeld=>?_)
           clear hK K
           refine jjc (a':=?_) ?_ ?_
           rotate_left
           ·show Act.put _ (some 36) _=_
            simp only [Act.put,List.setIfInBounds_toArray,List.set_cons_zero,List.set_cons_succ,jyb,jBb]
            rfl
           refine last_ (i:=9) (N:=none) #[true,true,true,true,true,true,true,true,true,true,false,false] rfl rfl (jFb HT_.out (by kernel_rfl)) (by decide) (fun K hK=>?_)
           have hs37:w36.cell? ⟨gb649,2,none⟩=some (.int .i64 ((jo l0_0 (rd t639 x20_1)).f2)):=(jh BK649.out 2).trans rfl
           have hfs37:=jd BK649.out 2
           have hns37_0:=NB637_649.out
           have hns37_1:=NB638_649.out
           have hns37_2:=NB645_649.out
           have hms37_0:=NB649_637.out
           have hms37_1:=NB649_638.out
           have hms37_2:=NB649_645.out
           refine skip_ (w1:=?_) (by rfl) rfl ?_ ?_
           rotate_left
           ·go_simp
            rfl
           refine hK.out _ _ ?_
           clear hK K
           refine pq (i:=10) (N:=some 38) #[true,true,true,true,true,true,true,true,true,true,true,false] ?_
           refine last_ (i:=11) (N:=none) #[true,true,true,true,true,true,true,true,true,true,true,true] rfl rfl (jFb HT_.out (by kernel_rfl)) (by decide) (fun K hK=>?_)
           have hs38:w36.cell? ⟨gb649,3,none⟩=some (.int .i64 ((jo l0_0 (rd t639 x20_1)).f3)):=(jh BK649.out 3).trans rfl
           have hfs38:=jd BK649.out 3
           have hns38_0:=NB637_649.out
           have hns38_1:=NB638_649.out
           have hns38_2:=NB645_649.out
           have hms38_0:=NB649_637.out
           have hms38_1:=NB649_638.out
           have hms38_2:=NB649_645.out
           refine skip_ (w1:=?_) (by rfl) rfl ?_ ?_
           rotate_left
           ·go_simp
            rfl
           refine hK.out _ _ ?_
           clear hK K
           refine done_ (jgc HT_.out (by kernel_rfl)) ?_
           have hnb39:=NB645_638.out
           have hnc39:=NB638_645.out
           have hcz40_0:=bc0 BK645.out
           have hfz40_0:=jd BK645.out 0
           have hcz41_0:=bc0 BK649.out
           have hcz41_1:=bc1 BK649.out
           have hcz41_2:=bc2 BK649.out
           have hcz41_3:=bc3 BK649.out
           have hcz41_4:w36.cell? ⟨gb649,4,none⟩=some (.bool ((jo l0_0 (rd t639 x20_1)).f4)):=(jh BK649.out 4).trans rfl
           have hfz41_0:=jd BK649.out 0
           have hfz41_1:=jd BK649.out 1
           have hfz41_2:=jd BK649.out 2
           have hfz41_3:=jd BK649.out 3
           have hfz41_4:=jd BK649.out 4
           try go_wp2_with (first |((with_reducible refine jCb (b:=.append) (xs:=#[.tmp 40, .tmp 42]) rfl ?_);at_builtin;refine Kd.R_append k90 (w0:=w) w.heap.size rfl (.tmp 40) (.tmp 42) 51 90 (.agg #[(.int .i64 0),(.int .i64 0),(.int .i64 0),(.int .i64 0),(.bool false)]) 40 rfl Try.underlying51 info90 rfl (by decide) (by omega) u646000 x646000_1 (⟨(jo l0_0 (rd t639 x20_1)).f0,(jo l0_0 (rd t639 x20_1)).f1,t650,t651,(jo l0_0 (rd t639 x20_1)).f4⟩:S90) [.int .i64 ((jo l0_0 (rd t639 x20_1)).f0), .int .i64 ((jo l0_0 (rd t639 x20_1)).f1), .int .i64 t650, .int .i64 t651, .bool ((jo l0_0 (rd t639 x20_1)).f4)] (fun k_=>k_≠gb649) (fun _=>False) rfl (Y2) ?aP (fun _ hk=>hk.elim) ?aF ?aO ?aB ?aS ?aL ?_;(case aP=>exact k90_mkM _ _ _ (⟨(jo l0_0 (rd t639 x20_1)).f0,(jo l0_0 (rd t639 x20_1)).f1,t650,t651,(jo l0_0 (rd t639 x20_1)).f4⟩:S90));(case aB=>exact (Y88));(case aF=>exact (fun k_ hk=>Kd.freshB (g:=gb649) (o:=.cells #[.int .i64 ((jo l0_0 (rd t639 x20_1)).f0), .int .i64 ((jo l0_0 (rd t639 x20_1)).f1), .int .i64 t650, .int .i64 t651, .bool ((jo l0_0 (rd t639 x20_1)).f4)] 90 (0,0)) (Y132) k_ hk));(case aO=>exact (by (with_reducible repeat (first | apply Kd.jK | apply Kd.jL | apply Kd.jH));exact Kd.jD (Kd.jB (p:=⟨gb649,3,none⟩) (Kd.jB (p:=⟨gb649,2,none⟩) (Kd.jD HO_646000.out (fun k_ hk=>(⟨hk,hk⟩:_∧k_≠gb649))) (fun _ hk=>hk.2) (.int .i64 t650)) (fun _ hk=>hk.2) (.int .i64 t651)) (fun _ hk=>hk.1)));(case aS=>exact (jY (Y88)));(case aL=>have:=LMc26.out;omega);intro v653 w42 ho hb hg hat;rw [← Ny652.out] at ho;have n0_:=am (Kd.jhb (by (with_reducible repeat (first | apply Kd.jK | apply Kd.jL | apply Kd.jH));exact (Kd.jD (Kd.jB (p:=⟨gb649,3,none⟩) (Kd.jB (p:=⟨gb649,2,none⟩) (Kd.jN HO_6.out BK649.out (by decide)) (fun _ hk=>hk.2) (.int .i64 t650)) (fun _ hk=>hk.2) (.int .i64 t651)) (fun _ h_=>h_.1))) (Kd.jfb (Y133)) (by decide) hg);have n1_:=am (Kd.jhb (by (with_reducible repeat (first | apply Kd.jK | apply Kd.jL | apply Kd.jH));exact (Kd.jD (Kd.jB (p:=⟨gb649,3,none⟩) (Kd.jB (p:=⟨gb649,2,none⟩) (Kd.jN HO_18.out BK649.out (by decide)) (fun _ hk=>hk.2) (.int .i64 t650)) (fun _ hk=>hk.2) (.int .i64 t651)) (fun _ h_=>h_.1))) (Kd.jfb (Y133)) (by decide) hg);have n2_:=am (jla (g:=gb637) (o:=.cells #[.slice (some ad648) l0_0.length c0_0] 53 (0,0)) (by (with_reducible repeat (first | refine jb ?_ _ | refine jc ?_ | refine ja ?_ _));refine jr ?_ NB637_649.out _;(with_reducible repeat (first | refine jb ?_ _ | refine jc ?_ | refine ja ?_ _));refine jr ?_ NB637_649.out _;(with_reducible repeat (first | refine jb ?_ _ | refine jc ?_ | refine ja ?_ _));exact BK637.out) hg (Kd.R_ne HO_646000.out BK637.out (by decide)));have n3_:=am (jla (g:=gb638) (o:=.cells #[.slice none 0 0] 53 (0,0)) (by (with_reducible repeat (first | refine jb ?_ _ | refine jc ?_ | refine ja ?_ _));refine jr ?_ NB638_649.out _;(with_reducible repeat (first | refine jb ?_ _ | refine jc ?_ | refine ja ?_ _));refine jr ?_ NB638_649.out _;(with_reducible repeat (first | refine jb ?_ _ | refine jc ?_ | refine ja ?_ _));exact BK638.out) hg (Kd.R_ne HO_646000.out BK638.out (by decide)));have n4_:=am (jla (g:=gb645) (o:=.cells #[u646000] 53 (0,0)) (by (with_reducible repeat (first | refine jb ?_ _ | refine jc ?_ | refine ja ?_ _));refine jr ?_ NB645_649.out _;(with_reducible repeat (first | refine jb ?_ _ | refine jc ?_ | refine ja ?_ _));refine jr ?_ NB645_649.out _;(with_reducible repeat (first | refine jb ?_ _ | refine jc ?_ | refine ja ?_ _));exact BK645.out) hg (Kd.R_ne HO_646000.out BK645.out (by decide)));have n5_:=am (jla (g:=gb649) (o:=.cells #[.int .i64 ((jo l0_0 (rd t639 x20_1)).f0), .int .i64 ((jo l0_0 (rd t639 x20_1)).f1), .int .i64 t650, .int .i64 t651, .bool ((jo l0_0 (rd t639 x20_1)).f4)] 90 (0,0)) (Y132) hg (Kd.R_away HO_646000.out (fun _ hk=>hk)));have n6_:=am (hb);have n7_:=am (ho);clear HO_6 HO_18 BK637 BK638 BK645 BK649 HB HO_646000;have HO_6:=n0_;have HO_18:=n1_;have BK637:=n2_;have BK638:=n3_;have BK645:=n4_;have BK649:=n5_;have HB:=n6_;have HO654:=n7_;clear n0_ n1_ n2_ n3_ n4_ n5_ n6_ n7_ ho hb hg hat;obtain ⟨Ao43,co43,eo43⟩:=Kd.jja HO654.out;subst eo43;have hcz44_0:=bc0 BK645.out;have hfz44_0:=jd BK645.out 0))
           go_roundg k1
           case measure=>have:=HK1.out;omega
           case rel=>exact ⟨(wrap64 (x20_1+1)),(y652),(.slice Ao43 y652.length co43),(sq),H',⟨by have:=HK1.out;omega⟩,⟨by (with_reducible repeat (first | apply Kd.jK | apply Kd.jL | apply Kd.jH));exact Kd.jD (Kd.jB (p:=⟨gb645,0,none⟩) (Kd.jN HO_6.out BK645.out (by decide)) (fun _ hk=>hk.2) (.slice Ao43 y652.length co43)) (fun _ hk=>trivial)⟩,⟨by (with_reducible repeat (first | apply Kd.jK | apply Kd.jL | apply Kd.jH));exact Kd.jD (Kd.jB (p:=⟨gb645,0,none⟩) (Kd.jN HO_18.out BK645.out (by decide)) (fun _ hk=>hk.2) (.slice Ao43 y652.length co43)) (fun _ hk=>trivial)⟩,⟨by (with_reducible repeat (first | apply Kd.jK | apply Kd.jL | apply Kd.jH));exact Kd.jD (Kd.jB (p:=⟨gb645,0,none⟩) (Kd.jN HO654.out BK645.out (by decide)) (fun _ hk=>hk.2) (.slice Ao43 y652.length co43)) (fun _ hk=>trivial)⟩,⟨by (with_reducible repeat (first | refine jb ?_ _ | refine jc ?_ | refine ja ?_ _));refine jr ?_ NB637_645.out _;(with_reducible repeat (first | refine jb ?_ _ | refine jc ?_ | refine ja ?_ _));exact BK637.out⟩,⟨by (with_reducible repeat (first | refine jb ?_ _ | refine jc ?_ | refine ja ?_ _));refine jr ?_ NB638_645.out _;(with_reducible repeat (first | refine jb ?_ _ | refine jc ?_ | refine ja ?_ _));exact BK638.out⟩,⟨by (with_reducible repeat (first | refine jb ?_ _ | refine jc ?_ | refine ja ?_ _));refine jO (cs:=#[u646000]) ?_ 0 _ rfl;(with_reducible repeat (first | refine jb ?_ _ | refine jc ?_ | refine ja ?_ _));exact BK645.out⟩,⟨Y88⟩⟩
          ·rw [if_neg c26] at H
           exact absurd H (by simp)
         ·rw [if_neg c23] at H
          exact absurd H (by simp)
        ·rw [if_neg c22] at H
         exact absurd H (by simp)
       ·rw [if_neg c21] at H
        exact absurd H (by simp)
      ·rw [if_neg c20] at H
       exact absurd H (by simp)
     ·rw [if_neg c19] at H
      have c19b0:decide (x20_1<(t639.length:Int))=false:=dzF c19
      clear c19
      replace H:=bzS H
      obtain ⟨t646,A450,H⟩:=H
      replace H:(some (x646000_1,t646))=some (r1,r2):=H
      have A45:=am A450
      clear A450
      simp only [Option.some.injEq,Prod.mk.injEq] at H
      obtain ⟨rfl,rfl⟩:=H
      try go_wp2
      replace HO_6:=am (Kd.jH HO_6.out)
      replace HO_18:=am (Kd.jH HO_18.out)
      replace HO_646000:=am (Kd.jH HO_646000.out)
      replace BK637:=am (jc BK637.out)
      replace BK638:=am (jc BK638.out)
      replace BK645:=am (jc BK645.out)
      replace HB:=am (jF HB.out)
      refine jkc (n:=6) (S:=fun w'=>w'.cell? ⟨gb645,0,none⟩=some (u646000)) (ds:=[]) #[false,false,false,false,false,false] (by kernel_rfl) rfl rfl ((jh BK645.out 0).trans rfl) (fun hHeld=>?_)
      generalize wr.drew=w46 at HO_6 HO_18 HO_646000 BK637 BK638 BK645 HB hHeld ⊢
      refine jVa (i:=1) (N:=some 47) (v:=?_) (a':=?_) #[false,true,false,false,false,false] rfl rfl (by kernel_rfl) (fun _ _ _ h=>h) (Or.inl ⟨by rfl,?_⟩) ?_ ?_
      rotate_left
      ·exact sb
      rotate_left
      ·exact sa
      refine jVa (i:=2) (N:=some 48) (v:=?_) (a':=?_) #[false,true,true,false,false,false] rfl rfl (by kernel_rfl) (fun _ _ _ h=>h) (Or.inl ⟨by rfl,?_⟩) ?_ ?_
      rotate_left
      ·exact sb
      rotate_left
      ·exact sa
      refine jYb (i:=0) (N:=some 46) (v:=?_) (a':=?_) #[true,true,true,false,false,false] rfl rfl (by kernel_rfl) (fun _ _ _ h=>h) (Or.inl ⟨by rfl,?_⟩) hHeld ?_ ?_
      rotate_left
      ·intro w' s0
       go_simp
       with_reducible rfl
      rotate_left
      ·exact sa
      refine one_ (i:=3) (N:=some 49) #[true,true,true,true,false,false] rfl rfl (by kernel_rfl) (by decide) (fun K hK=>?_)
      refine goes_ Try.func117 (by kernel_rfl) rfl #[.slice Ao11 t639.length co11, .int .i64 a1] (by rfl) rfl rfl (aq) ?_
      with_reducible refine (jC.calls k1 _ _ t639 a1 t646 _ ?side1 ?side2 A45.out).mono ?_
      (case side1=>exact cq (Kd.jE HO_6.out).2.2)
      (case side2=>exact (Kd.jE HO_6.out).2.1)
      rintro e w' ⟨rfl,⟨nd,rfl⟩⟩
      refine ⟨_,rfl,?_⟩
      obtain ⟨Ao47,co47,eo47⟩:=Kd.jja HO_646000.out
      (first | subst eo47 |(injection eo47 with f1_ f2_ f3_;have f4_:=f1_.symm;have f5_:=f3_.symm;clear f1_ f2_ f3_;subst f4_;subst f5_))
      refine hK.out _ _ ((jh BK645.out 0).trans rfl) (fun hHeld=>?_)
      clear hK K
      refine jjc (a':=?_) ?_ ?_
      rotate_left
      ·show Act.put _ (some 49) _=_
       simp only [Act.put,List.setIfInBounds_toArray,List.set_cons_zero,List.set_cons_succ,jyb,jBb]
       rfl
      refine one_ (i:=4) (N:=none) #[true,true,true,true,true,false] rfl rfl (by kernel_rfl) (by decide) (fun K hK=>?_)
      have hs48:w46.cell? ⟨gb638,0,none⟩=some (.slice none 0 0):=(jh BK638.out 0).trans rfl
      have hfs48:=jd BK638.out 0
      have hns48_0:=NB637_638.out
      have hns48_2:=NB645_638.out
      have hms48_0:=NB638_637.out
      have hms48_2:=NB638_645.out
      refine skip_ (w1:=?_) (by rfl) rfl ?_ ?_
      rotate_left
      ·go_simp
       rfl
      refine hK.out _ _ (((cell_far (p:=⟨gb638,_,none⟩) NB645_638.out _).trans (hHeld))) (fun hHeld=>?_)
      clear hK K
      refine jVa (i:=5) (N:=some 5) (v:=?_) (a':=?_) #[true,true,true,true,true,true] rfl rfl (by kernel_rfl) (fun _ _ _ h=>h) (Or.inl ⟨by rfl,?_⟩) ?_ ?_
      rotate_left
      ·exact sb
      rotate_left
      ·exact sa
      refine done_ (by kernel_rfl) ?_
      try go_wp2
      refine bodyPost_ret (jxb rfl _ _ gb638 53 #[.slice Ao47 x646000_1.length co47] (0,0) _ rfl (by (with_reducible repeat (first | refine jb ?_ _ | refine jc ?_ | refine ja ?_ _));refine jO (cs:=#[.slice none 0 0]) ?_ 0 _ rfl;(with_reducible repeat (first | refine jb ?_ _ | refine jc ?_ | refine ja ?_ _));exact BK638.out) Try.underlying53 rfl (by kernel_rfl)) rfl ?_
      exact ⟨_,Y0,by (with_reducible repeat (first | apply Kd.jK | apply Kd.jL | apply Kd.jH));exact Kd.jD (Kd.jB (p:=⟨gb638,0,none⟩) (Kd.jN HO_646000.out BK638.out (by decide)) (fun _ hk=>hk.2) (.slice Ao47 x646000_1.length co47)) (fun _ hk=>trivial),Y101⟩
  ·rw [if_neg c5] at H
   exact absurd H (by simp)
 ·rw [if_neg c4] at H
  exact absurd H (by simp)
end Go.Proofs.Ytlhfcmbkjddgiaa.P
end
