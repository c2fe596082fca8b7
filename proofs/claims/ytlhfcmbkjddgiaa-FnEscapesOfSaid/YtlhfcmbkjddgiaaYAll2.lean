/- One part of the proofs on this program: functions of the program as plain functions, that the code comes to them, and facts on them. -/
import Derived.LoopIn
import Derived.LoopNIn
import Derived.OwnWalkIn
import Derived.RangeFuncBound
import Derived.RangeFuncBox
import Derived.RangeFuncCalls
import Derived.RangeFuncLeaves
import Derived.RangeFuncNested
import Derived.Shelf.Abstract
import Derived.Shelf.RegionOpen
import Derived.Sort.CutIn
import Derived.TacticsInMore
import Derived.WalkKit
import Derived.Test.YtlhfcmbkjddgiaaYAll1
import Derived.Test.YtlhfcmbkjddgiaaYWAuto
section
namespace Go.Proofs.Ytlhfcmbkjddgiaa.P
open Go.RowKit Go.Proofs.YtlhfcmbkjddgiaaW.PrintWords Go.Proofs.YtlhfcmbkjddgiaaW.PrintLast Go.Proofs.YtlhfcmbkjddgiaaW.PrintMore
attribute [local go_sem] jX jV jka jja jN jM jW jU jh
set_option linter.unusedVariables false
set_option linter.unusedSimpArgs false
section
open Go.Shelf
attribute [local go_sem] Oper.semAt_some
theorem xwrM {x : Int} (h : -9223372036854775808 ≤ x ∧ x ≤ 9223372036854775807) : wrap64 x = x := by unfold wrap64; omega
def uptoM {α : Type} (f : Nat → α) (k : Nat) : List α := (List.range k).map f
theorem uptoM_succ {α : Type} (f : Nat → α) (k : Nat) : uptoM f (k + 1) = uptoM f k ++ [f k] := by simp [uptoM, List.range_succ]
theorem uptoM_length {α : Type} (f : Nat → α) (k : Nat) : (uptoM f k).length = k := by simp [uptoM]
set_option maxRecDepth 100000 in
set_option maxHeartbeats 4000000 in
theorem backM1_in {α : Type} (F : Fence) (n : Nat) (h8 : F.fn 105) (hro : F.round = none) (hn : 1 ≤ n) (l Bs : Nat) (A : Option Addr) (cap : Nat) (xs : List S44) (hm : xs.length ≤ 9223372036854775807) (RD : World → Prop) (Kp : World → World → Prop) (hRD : ∀ W, RD W → Kd.C k44 W A xs.length xs ∧ Boxed W Bs 33 (.slice A xs.length cap)) (hKp : ∀ W W', Kp W W' → RD W → RD W')
  (encs:α→Array Value) (g:Nat→α) (hg:∀ j:Nat,j<xs.length→encs (g j)=#[.int .i64 ((xs.length:Int) - 1 - j), .agg #[.int .i64 (jL xs ((xs.length:Int) - 1 - j)).f0, .int .i64 (jL xs ((xs.length:Int) - 1 - j)).f1, .int .i64 (jL xs ((xs.length:Int) - 1 - j)).f2]])
  (J Jx:List α→World→Prop)
  (hY:∀ pre x W,J pre W→pre.length<xs.length→YieldAt F (n - 1) Try.prog l (encs x) W fun e W' =>
   (e=.returned (.bool true)∧J (pre ++ [x]) W'∧Kp W W')∨(e=.returned (.bool false)∧Jx (pre ++ [x]) W'))
  (W:World) (hW:RD W) (h0:J [] W) :
  CallsIn F n Try.prog 105 #[.func (.yield l) #[] #[], .pointer (some ⟨Bs,0,none⟩)] W fun e W'=>(∃ v,e=.returned v) ∧
   ((∃ ys,ys=uptoM g xs.length∧J ys W')∨(∃ pre,(∃ k,k≤xs.length∧pre=uptoM g k)∧Jx pre W')):=by
 have hu:=Try.underlying44
 have cBs:=(hRD W hW).2.cell
 refine callsIn_of_wp Try.func105 rfl h8 ?_ hro
 simp only [Try.ntmps105,List.size_toArray,List.length_cons,List.length_nil,Nat.reduceAdd,Nat.reduceSub,Array.replicate_succ,Array.replicate_zero,List.push_toArray,List.append_toArray,List.nil_append,List.cons_append]
 gi_wp2
 have hwr:wrap64 ((xs.length:Int) - 1)=(xs.length:Int) - 1:=xwrM (by omega)
 gi_loopw [3] (fun i wr=>∃ k:Nat,k≤xs.length∧i=.int .i64 ((xs.length:Int) - 1 - k)∧J (uptoM g k) wr∧RD wr)
  (fun i _=>(intOf i+1).toNat)
 case atStart=>exact ⟨0,Nat.zero_le _,by simp,h0,hW⟩
 case round =>
  obtain ⟨k,hk,rfl,hJs,hnx⟩:=hrel
  have cB:=(hRD _ hnx).2.cell
  by_cases hlt:k<xs.length
  ·obtain ⟨fn,tmps,assign,body,hy,hR⟩:=hY _ (g k) wr hJs (by rw [uptoM_length];exact hlt)
   rw [hg k hlt] at hy
   obtain ⟨j,hj⟩:∃ j:Nat,(xs.length:Int) - 1 - k=(j:Int):=⟨xs.length - 1 - k,by omega⟩
   have p0:0≤(j:Int):=by omega
   have p1:(j:Int)<(xs.length:Int):=by omega
   have p2:j<xs.length:=by omega
   rw [hj] at hy ⊢
   obtain ⟨ad,rfl,x0,x1,x2⟩:=at_T44 (hRD _ hnx).1 (j:Int) p0 p1
   rw [Int.toNat_natCast] at x0 x1 x2
   gi_wp2
   refine hR.mono ?_
   rintro e W3 (⟨rfl,hJ3,hk3⟩ | ⟨rfl,hJx3⟩)
   ·have hb3:=hKp _ _ hk3 hnx
    have c3:=(hRD _ hb3).2.cell
    gi_wp2
    go_roundw
    case rel=>exact ⟨k+1,by omega,by congr 1;omega,by rw [uptoM_succ];exact hJ3,hb3⟩
    case measure=>simp [intOf]
   ·gi_wp2
    refine bodyPost_ret (results_none rfl _ _ _) rfl ?_
    exact ⟨⟨_,rfl⟩, .inr ⟨_,⟨k+1,by omega,(uptoM_succ _ _).symm⟩,hJx3⟩⟩
  ·obtain rfl:k=xs.length:=by omega
   have q2:decide ((xs.length:Int) - 1 - xs.length≥0)=false:=dzF (by omega)
   gi_wp2
   go_end0
   exact ⟨⟨_,rfl⟩, .inl ⟨_,rfl,hJs⟩⟩
theorem KeepsFrom.of_belowM {W W' : World} (h : Below W.heap.size W W') (B : Nat) : KeepsFrom B W W' := ⟨h.size, fun k o _ hk _ => (h.block k (Array.getElem?_eq_some_iff.1 hk).1).trans hk⟩
theorem Boxed.liesM {W W' : World} {B : Nat} {t : TypeId} {v : Value} (h : Boxed W B t v) (hb : Below W.heap.size W W') : Boxed W' B t v := (hb.block B h.lt).trans h
set_option maxHeartbeats 1000000 in
theorem backM_in (F : Fence) (n : Nat) (h6 : F.fn 73) (hro : F.round = none) (a : Option Addr) (len cap : Nat) (w : World) :
  CallsIn F n Try.prog 73 #[.slice a len cap] w fun e w'=>e=.returned (.func (.func 105) #[] #[.pointer (some ⟨w.heap.size,0,none⟩)])∧w'=w.alloc (.cells #[.slice a len cap] 33):=by
 refine callsIn_of_wp Try.func73 rfl h6 ?_ hro
 simp only [Try.ntmps73,List.size_toArray,List.length_cons,List.length_nil,Nat.reduceAdd,Nat.reduceSub,Array.replicate_succ,Array.replicate_zero,List.push_toArray,List.append_toArray,List.nil_append,List.cons_append]
 gi_wp2
 go_ret
 exact ⟨rfl,rfl⟩
def jsc (o : Oper) : Bool := match o.op with | .defer _ => false | _ => true
theorem noDeferM_spec {o : Oper} (h : jsc o = true) : ∀ c, o.op ≠ .defer c := fun c hc => by simp [jsc, hc] at h
theorem opInM_round {F : Fence} {l n : Nat} {P : Program} {o : Oper} {a : Act} {w : World} {K : Act → World → Prop} {Q : Exit → Act → World → Prop} (hro : F.round = none) (hd : jsc o = true) (h : o.wpIn F n P a w K Q) : o.wpIn (F.inRound l) n P a w K Q := by
 unfold Oper.wpIn at *
 refine ⟨h.1,?_⟩
 have h2:=h.2
 rw [hro,Oper.semAt_none] at h2
 rw [Fence.inRound_round,Oper.semAt_some l _ _ (noDeferM_spec hd)]
 exact h2
theorem opsInM_round {F : Fence} {l n : Nat} {P : Program} {ops : Array Oper} {K K' : Act → World → Prop} {Q : Exit → Act → World → Prop} (hro : F.round = none) (hd : ops.all jsc = true) {i : Nat} {a : Act} {w : World} (hK : ∀ a w, K a w → K' a w) (h : wpOpIn F n P ops Q i K a w) : wpOpIn (F.inRound l) n P ops Q i K' a w := by
 have h:=wpOpIn_mono hK h
 unfold wpOpIn at h ⊢
 cases ho:ops[i]? with
 | none=>simp only [ho] at h ⊢;exact h
 | some o =>
  simp only [ho] at h ⊢
  have hn:jsc o=true:=by
   obtain ⟨hi,e⟩:=Array.getElem?_eq_some_iff.1 ho
   have:=Array.all_eq_true.1 hd i hi
   rw [e] at this;exact this
  split
  ·rename_i hw;rw [if_pos hw] at h;exact opInM_round hro hn h
  ·rename_i hw;rw [if_neg hw] at h;exact h
theorem wpAnyInM_round {F : Fence} {l n : Nat} {P : Program} {md : Region.Mode} {ops : Array Oper} {Q : Exit → Act → World → Prop} (hro : F.round = none) (hd : ops.all jsc = true) : ∀ (fuel : Nat) (listed : Array Bool) (a : Act) (w : World), wpAnyIn F n P md ops Q fuel listed a w → wpAnyIn (F.inRound l) n P md ops Q fuel listed a w
 | 0,_,_,_,h=>h
 | fuel+1,listed,a,w,h=>⟨h.1,fun i hi=>opsInM_round hro hd (fun a w hh=>wpAnyInM_round hro hd fuel _ a w hh) (h.2 i hi)⟩
theorem opM_wide {n : Nat} {P : Program} {o : Oper} {a : Act} {w : World} {K K' : Act → World → Prop} {Q : Exit → Act → World → Prop} (hK : ∀ a w, K a w → K' a w) (h : o.wp P a w K Q) : o.wpIn Fence.wide n P a w K' Q := by
 unfold Oper.wp at h
 unfold Oper.wpIn
 refine ⟨fun _ _=>trivial,?_⟩
 rw [show Fence.wide.round=none from rfl,Oper.semAt_none]
 generalize (execOp a.eval o).run P w=r at h ⊢
 have hd:Fence.wide.depth.isSome=true→1≤n:=fun e=>by simp [Fence.wide] at e
 cases r with
 | ok y w' =>
  cases y <;> simp only [Oper.upon,Oper.uponIn] at h ⊢ <;>
   first
    | exact hK _ _ h
    | exact ⟨hd,callsIn_wide.2 (h.mono fun e w'' he=>by cases e <;> first | exact hK _ _ he | exact he)⟩
    | exact ⟨hd,fun c cs _=>let ⟨v,w'',r,s⟩:=h c cs;⟨v,w'',hK _ _ r,stepsIn_wide.2 s⟩⟩
    | exact h.elim
 | halt y w'=>cases y <;> simp only [Oper.upon,Oper.uponIn] at h ⊢ <;> first | exact h | exact h.elim
theorem joc {n : Nat} {P : Program} {md : Region.Mode} {ops : Array Oper} {Q : Exit → Act → World → Prop} (hL : ¬ LetsOut Q) : ∀ (fuel : Nat) (listed : Array Bool) (a : Act) (w : World), wpAny P md ops Q fuel listed a w → wpAnyIn Fence.wide n P md ops Q fuel listed a w
 | 0,_,_,_,h=>h
 | fuel+1,listed,a,w,h=>⟨h.1,fun i hi=>by
  have h2:=h.2 i hi
  unfold wpOp at h2
  unfold wpOpIn
  cases ho:ops[i]? with
  | none=>simp only [ho] at h2 ⊢;exact joc hL fuel _ a w h2
  | some o =>
   simp only [ho] at h2 ⊢
   split
   ·rename_i hw
    rw [if_pos hw] at h2
    rcases h2 with h2 | ⟨_,h2⟩
    ·exact opM_wide (fun a w hh=>joc hL fuel _ a w hh) h2
    ·exact absurd h2 hL
   ·rename_i hw
    rw [if_neg hw] at h2
    exact ⟨fun _ _=>trivial,joc hL fuel _ _ w h2⟩⟩
theorem jVb {l n : Nat} {P : Program} {id : Nat} {ops : Array Oper} {Q : Exit → Act → World → Prop} {a : Act} {w : World} (S : World → Prop) (hm : P.follows .mixedOrders = true) (hd : ops.all jsc = true) (hL : ¬ LetsOut Q)
  (h:wpAnyH P .any ops Q S ops.size (Array.replicate ops.size false) a w.drew):(Code.region id ops true).wpIn (Fence.wide.inRound l) n P Q a w :=
 wpIn_region_any hm (wpAnyInM_round (F:=Fence.wide) (l:=l) rfl hd _ _ _ _ (joc hL _ _ _ _ (wpAny_of_held _ _ _ _ h)))
def gH (n : Nat) (H : List S90) : Prop := ∀ i : Nat, i < H.length → -1 ≤ (jl H (i : Int)).f3 ∧ (jl H (i : Int)).f3 < (i : Int) ∧ 0 ≤ (jl H (i : Int)).f0 ∧ (jl H (i : Int)).f0 < (n : Int)
theorem gH_nil (n : Nat) : gH n [] := fun i hi => absurd hi (by simp)
theorem mrd_app {H : List S90} {x : S90} {i : Nat} (h : i < H.length) : jl (H ++ [x]) (i : Int) = jl H (i : Int) := by
 simp [jl,List.getD_eq_getElem?_getD,List.getElem?_append_left h]
theorem mrd_new (H : List S90) (x : S90) : jl (H ++ [x]) (H.length : Int) = x := by simp [jl, List.getD_eq_getElem?_getD]
theorem gH_app {n : Nat} {H : List S90} (h : gH n H) {x : S90} (h0 : -1 ≤ x.f3) (h1 : x.f3 < (H.length : Int)) (h2 : 0 ≤ x.f0) (h3 : x.f0 < (n : Int)) : gH n (H ++ [x]) := fun i hi => by
 by_cases e:i<H.length
 ·rw [mrd_app e];exact h i e
 ·obtain rfl:i=H.length:=by simp at hi;omega
  rw [mrd_new];exact ⟨h0,h1,h2,h3⟩
theorem mcon_no {l : List Int} {x : Int} (hl : l.length ≤ 2000000000) (hx : ∀ y ∈ l, x ≠ y) {k : Nat} (hk : l.length + 1 ≤ k) : jK.f k l x = some false := by
 have go:∀ (n i k:Nat),n+i=l.length→n+1≤k→jv.l0 k l x (l.length:Int) (i:Int)=some (-1):=by
  intro n
  induction n with
  | zero =>
   intro i k h hk
   obtain ⟨q,rfl⟩:∃ q,k=q+1:=⟨k - 1,by omega⟩
   rw [jv.l0,if_neg (by omega)]
  | succ n ih =>
   intro i k h hk
   obtain ⟨q,rfl⟩:∃ q,k=q+1:=⟨k - 1,by omega⟩
   have hi:i<l.length:=by omega
   have hr:rd l (i:Int)=l[i]:=by simp [rd,List.getD_eq_getElem?_getD,hi]
   rw [jv.l0,if_pos (by omega),if_pos (by omega),if_pos (by omega),hr,if_neg (hx _ (List.getElem_mem hi)),show wrap64 ((i:Int)+1)=((i+1:Nat):Int) by unfold wrap64;omega]
   exact ih (i+1) q (by omega) (by omega)
 unfold jK.f jv.f
 have:=go l.length 0 k (by omega) (by omega)
 rw [show ((0:Nat):Int)=0 from rfl] at this
 rw [this]
 rfl
theorem mwalk_ok {n : Nat} {H : List S90} (hg : gH n H) (hl : H.length ≤ 1000000000) : ∀ (m : Nat) (f : Int) (acc : List Int) (k : Nat), -1 ≤ f → f < (m : Int) → m ≤ H.length → (∀ a ∈ acc, f < a) → acc.length + m ≤ H.length → acc.length + 2 * m + 3 ≤ k →
  ∃ L,jJb (ctxF H) k f acc=some L∧L.length≤acc.length+m∧∀ x ∈ L,x ∈ acc∨(0≤x∧x≤f)
 | 0,f,acc,k,h0,h1,h2,h3,h4,h5=>by
  obtain ⟨q,rfl⟩:∃ q,k=q+1:=⟨k - 1,by omega⟩
  refine ⟨acc,?_,by omega,fun x hx=>.inl hx⟩
  unfold jJb
  rw [if_neg (by omega)]
 | m+1,f,acc,k,h0,h1,h2,h3,h4,h5=>by
  obtain ⟨q,rfl⟩:∃ q,k=q+1:=⟨k - 1,by omega⟩
  by_cases hf:f≥0
  ·obtain ⟨i,rfl⟩:∃ i:Nat,f=(i:Int):=⟨f.toNat,by omega⟩
   obtain ⟨g0,g1,_,_⟩:=hg i (by omega)
   have e1:ctxF H (i:Int)=some (jl H (i:Int)).f3:=by unfold ctxF;rw [if_pos (by omega),if_pos (by omega)]
   obtain ⟨L,e2,e3,e4⟩:=mwalk_ok hg hl m (jl H (i:Int)).f3 (acc ++ [(i:Int)]) q g0 (by omega) (by omega) (fun a ha=>by
    rcases List.mem_append.1 ha with ha | ha
    ·have:=h3 a ha;omega
    ·obtain rfl:=List.mem_singleton.1 ha;exact g1) (by simp;omega) (by simp;omega)
   refine ⟨L,?_,by simp at e3;omega,fun x hx=>?_⟩
   ·rw [jJb,if_pos hf,mcon_no (by omega) (fun y hy=>by have:=h3 y hy;omega) (by omega)]
    simp only [Option.bind_some,Bool.false_eq_true,if_false]
    rw [if_pos (by omega),e1]
    exact e2
   ·rcases e4 x hx with h | ⟨h,h'⟩
    ·rcases List.mem_append.1 h with h | h
     ·exact .inl h
     ·obtain rfl:=List.mem_singleton.1 h;exact .inr ⟨by omega,by omega⟩
    ·exact .inr ⟨h,by omega⟩
  ·refine ⟨acc,?_,by omega,fun x hx=>.inl hx⟩
   rw [jJb,if_neg hf]
theorem mR_good {n k : Nat} {H : List S90} {cl cd h : Int} (hg : gH n H) (hl : H.length ≤ 1000000) (hk : 2 * H.length + 10 ≤ k) (h0 : -1 ≤ h) (h1 : h < (H.length : Int)) (h2 : 0 ≤ cl) (h3 : cl < (n : Int)) : mR k H cl cd h = some (H ++ [⟨cl, cd, -1, h, false⟩]) := by
 unfold mR
 rw [if_pos (by omega)]
 by_cases hh:0≤h
 ·rw [if_pos hh]
  have hg1:gH n (H ++ [(⟨cl,cd, -1, -1,false⟩:S90)]):=gH_app hg (show (-1:Int)≤-1 by omega) (show (-1:Int)<(H.length:Int) by omega) h2 h3
  obtain ⟨L,e1,e2,e3⟩:=mwalk_ok hg1 (by simp;omega) H.length h [] k h0 h1 (by simp) (by simp) (by simp) (by simp;omega)
  unfold jza.f
  rw [e1]
  simp only [Option.bind_some]
  rw [if_pos]
  simp only [Bool.and_eq_true,List.all_eq_true,decide_eq_true_eq]
  refine ⟨by simp at e2;omega,by omega,fun x hx=>?_⟩
  rcases e3 x hx with h | ⟨a,b⟩
  ·simp at h
  ·obtain ⟨i,rfl⟩:∃ i:Nat,x=(i:Int):=⟨x.toNat,by omega⟩
   have:=hg1 i (by simp;omega)
   exact ⟨a,by omega,by omega⟩
 ·rw [if_neg hh,show h = -1 by omega]
abbrev MSt := List Int × List S90 × Int
def isT (k : Nat) (t : List S106) (a b : Int) : Bool := (jMa.f k t a b).getD false
def stT (q : Int → Int → Bool) (s : MSt) (x : S44) : MSt :=
 if x.f0=0 then (s.1 ++ [x.f1],s.2.1,s.2.2)
 else if x.f0=1 then (if 0≤s.2.2 then s.1 ++ [x.f1] else s.1,s.2.1,s.2.2)
 else if x.f0=2 then (s.1,s.2.1,if (decide (0≤s.2.2) && q (jl s.2.1 s.2.2).f0 x.f1)=true then -1 else s.2.2)
 else if x.f0=3 then (s.1,s.2.1 ++ [⟨x.f1,x.f2, -1,s.2.2,false⟩],(s.2.1.length:Int))
 else s
def okX (k : Nat) (t : List S106) (x : S44) : Bool :=
 if x.f0=2 then (List.range t.length).all fun a=>(jMa.f k t (a:Int) x.f1).isSome
 else if x.f0=3 then decide (0≤x.f1) && decide (x.f1<(t.length:Int)) else true
structure gS (n m : Nat) (s : MSt) : Prop where
 g:gH n s.2.1
 lo:-1≤s.2.2
 hi:s.2.2<(s.2.1.length:Int)
 ll:s.1.length≤m
 lh:s.2.1.length≤m+1
theorem stT_good {k : Nat} {t : List S106} {m : Nat} {s : MSt} {x : S44} (h : gS t.length m s) (hx : okX k t x = true) : gS t.length (m + 1) (stT (isT k t) s x) := by
 obtain ⟨h1,h2,h3,h4,h5⟩:=h
 unfold stT
 by_cases k0:x.f0=0
 ·rw [if_pos k0];exact ⟨h1,h2,h3,by simp;omega,by simp;omega⟩
 ·rw [if_neg k0]
  by_cases k1:x.f0=1
  ·rw [if_pos k1]
   refine ⟨h1,h2,h3,?_,by simp;omega⟩
   show (if 0≤s.2.2 then s.1 ++ [x.f1] else s.1).length≤m+1
   split
   ·rw [List.length_append,List.length_singleton];omega
   ·omega
  ·rw [if_neg k1]
   by_cases k2:x.f0=2
   ·rw [if_pos k2]
    refine ⟨h1,?_,?_,by simp;omega,by simp;omega⟩
    ·show -1≤(if _ then (-1:Int) else s.2.2)
     split <;> omega
    ·show (if _ then (-1:Int) else s.2.2)<(s.2.1.length:Int)
     split <;> omega
   ·rw [if_neg k2]
    by_cases k3:x.f0=3
    ·rw [if_pos k3]
     unfold okX at hx
     rw [if_neg k2,if_pos k3] at hx
     simp only [Bool.and_eq_true,decide_eq_true_eq] at hx
     refine ⟨gH_app h1 h2 h3 hx.1 hx.2,?_,?_,by simp;omega,by simp;omega⟩
     ·show -1≤(s.2.1.length:Int);omega
     ·show (s.2.1.length:Int)<((s.2.1 ++ [_]).length:Int);simp;omega
    ·rw [if_neg k3];exact ⟨h1,h2,h3,by omega,by omega⟩
def st0 (a : Bool) (b c : Int) : MSt := if a = true then ([], [⟨b, c, -1, -1, false⟩], 0) else ([], [], -1)
theorem st0_good {n : Nat} {a : Bool} {b c : Int} (h : a = true → 0 ≤ b ∧ b < (n : Int)) : gS n 0 (st0 a b c) := by
 unfold st0
 cases a with
 | true =>
  rw [if_pos rfl]
  obtain ⟨h1,h2⟩:=h rfl
  exact ⟨gH_app (gH_nil n) (show (-1:Int)≤-1 by omega) (show (-1:Int)<((0:Nat):Int) by omega) h1 h2,by show (-1:Int)≤0;omega,by show (0:Int)<((1:Nat):Int);omega,Nat.le_refl _,Nat.le_refl _⟩
 | false=>exact ⟨gH_nil n,by show (-1:Int)≤-1;omega,by show (-1:Int)<((0:Nat):Int);omega,Nat.le_refl _,Nat.zero_le _⟩
def mcG (k : Nat) (t : List S106) (l : List S44) (a : Bool) (b : Int) : Bool := decide (l.length ≤ 100000) && (decide (2 * l.length + 20 ≤ k) && ((!a || (decide (0 ≤ b) && decide (b < (t.length : Int)))) && l.all (okX k t)))
def jHa.f (k : Nat) (t : List S106) (l : List S44) (a : Bool) (b c : Int) : Option MSt := if mcG k t l a b = true then some (l.reverse.foldl (stT (isT k t)) (st0 a b c)) else none
theorem isT_mono {k : Nat} {t : List S106} {a b : Int} (h : (jMa.f k t a b).isSome = true) : isT (k + 1) t a b = isT k t a b ∧ (jMa.f (k + 1) t a b).isSome = true := by
 obtain ⟨r,hr⟩:=Option.isSome_iff_exists.1 h
 have h2:=jMa.mono t a b k r hr
 unfold isT
 rw [hr,h2]
 exact ⟨rfl,rfl⟩
theorem stT_mono {k : Nat} {t : List S106} {m : Nat} {s : MSt} {x : S44} (h : gS t.length m s) (hx : okX k t x = true) : stT (isT (k + 1) t) s x = stT (isT k t) s x := by
 unfold stT
 by_cases k2:x.f0=2
 ·have e:(decide (0≤s.2.2) && isT (k+1) t (jl s.2.1 s.2.2).f0 x.f1)=(decide (0≤s.2.2) && isT k t (jl s.2.1 s.2.2).f0 x.f1):=by
   by_cases h0:0≤s.2.2
   ·obtain ⟨i,hi⟩:∃ i:Nat,s.2.2=(i:Int):=⟨s.2.2.toNat,by omega⟩
    have h3:=h.hi
    obtain ⟨_,_,g2,g3⟩:=h.g i (by omega)
    unfold okX at hx
    rw [if_pos k2] at hx
    simp only [List.all_eq_true,List.mem_range] at hx
    have:=hx ((jl s.2.1 (i:Int)).f0).toNat (by omega)
    rw [show (((jl s.2.1 (i:Int)).f0).toNat:Int)=(jl s.2.1 (i:Int)).f0 by omega] at this
    rw [hi,(isT_mono this).1]
   ·rw [dzF h0,Bool.false_and,Bool.false_and]
  rw [e]
 ·simp only [if_neg k2]
theorem foldl_mono {k : Nat} {t : List S106} : ∀ (l : List S44) (m : Nat) (s : MSt), gS t.length m s → (∀ x ∈ l, okX k t x = true) → l.foldl (stT (isT (k + 1) t)) s = l.foldl (stT (isT k t)) s ∧ gS t.length (m + l.length) (l.foldl (stT (isT k t)) s)
 | [],m,s,h,_=>⟨rfl,h⟩
 | x :: l,m,s,h,hx=>by
  obtain ⟨h1,h2⟩:=foldl_mono l (m+1) _ (stT_good h (hx x List.mem_cons_self)) (fun y hy=>hx y (List.mem_cons_of_mem _ hy))
  rw [List.foldl_cons,List.foldl_cons,stT_mono h (hx x List.mem_cons_self),List.length_cons,show m+(l.length+1)=m+1+l.length by omega]
  exact ⟨h1,h2⟩
theorem mcG_spec {k : Nat} {t : List S106} {l : List S44} {a : Bool} {b : Int} (h : mcG k t l a b = true) : l.length ≤ 100000 ∧ 2 * l.length + 20 ≤ k ∧ (a = true → 0 ≤ b ∧ b < (t.length : Int)) ∧ ∀ x ∈ l, okX k t x = true := by
 unfold mcG at h
 simp only [Bool.and_eq_true,decide_eq_true_eq,List.all_eq_true,Bool.or_eq_true,Bool.not_eq_true'] at h
 refine ⟨h.1,h.2.1,fun ha=>?_,h.2.2.2⟩
 rcases h.2.2.1 with e | e
 ·rw [ha] at e;cases e
 ·exact e
theorem mach_own {β : Type} (n m Bf : Nat) (ct cp : Value) (fst : Int) (g : β → MSt) : Own (fun s W => ∃ vl vh, W.heap[m]? = some (.cells #[ct, cp, vl, vh, .int .i64 fst] 110 (0, 0)) ∧ Kd.R (Kd.int .i64) 3 W n (fun k => k ≠ Bf) vl (g s).1 ∧ Kd.R k90 90 W n (fun _ => True) vh (g s).2.1) := by
 rintro s W W' row ⟨vl,vh,h1,h2,h3⟩ hg hr
 have hne:∀ (q:Nat) (cells:Array Value) (u:TypeId),W.heap[q]?=some (.cells cells u (0,0))→some q≠row:=fun q cells u hq e=>by
  obtain ⟨o,ho,hc⟩:=hr q e.symm
  rw [hq] at ho;cases ho;cases hc
 refine ⟨vl,vh,jqa h1 hg (hne m _ _ h1),Kd.jJ (Kd.R_move (Kd.jUb h2) (fun k hk=>?_)) (fun k hk=>hk.1),Kd.jJ (Kd.R_move (Kd.jUb h3) (fun k hk=>?_)) (fun _ _=>trivial)⟩
 ·obtain ⟨_,_,hk,q,hq,cells,hc⟩:=hk
  exact hg.block k hk (hne k _ _ hc)
 ·obtain ⟨_,_,hk,q,hq,cells,hc⟩:=hk
  exact hg.block k hk (hne k _ _ hc)
theorem kept_own {β : Type} {w : World} {S : Nat → Prop} {B : Nat} (hB : w.heap.size ≤ B) : OwnFrom B (fun (_ : β) W => Kept w W S) := fun _ W W' row h hg hr =>
 Kept.jGb hg h (fun k e=>.inr (Nat.le_trans hB (hr k e).1))
def mIV (w : World) (m Bf Bs : Nat) (sl : Value) (At : Option Addr) (ct : Nat) (t : List S106) (cp : Value) (fst : Int) (W : World) (s : MSt) : Prop :=
 ((((Boxed W w.heap.size 71 (.pointer (some ⟨m,0,none⟩))∧Boxed W Bf 3 (.int .i64 s.2.2))∧Boxed W Bs 33 sl)∧(∃ vl vh,W.heap[m]?=some (.cells #[.slice At t.length ct,cp,vl,vh, .int .i64 fst] 110 (0,0))∧Kd.R (Kd.int .i64) 3 W w.heap.size (fun k=>k≠Bf) vl s.1∧Kd.R k90 90 W w.heap.size (fun _=>True) vh s.2.1))∧(Kept w W (fun k=>k=m)∧Below 0 w W))
section
variable {w : World} {m Bf Bs : Nat} {sl : Value} {At : Option Addr} {ct : Nat} {t : List S106} {cp : Value} {fst : Int} {V w1 : World} {s : MSt}
theorem jZb (h : mIV w m Bf Bs sl At ct t cp fst V s) (hb : Below V.heap.size V w1) : mIV w m Bf Bs sl At ct t cp fst w1 s := by
 obtain ⟨⟨⟨⟨h0,hF⟩,hS⟩,vl,vh,hm,hL,hH⟩,hK⟩:=h
 exact ⟨⟨⟨⟨Boxed.liesM h0 hb,Boxed.liesM hF hb⟩,Boxed.liesM hS hb⟩,vl,vh,jc hm hb,Kd.jaa hL hb,Kd.jaa hH hb⟩,hK.1.below hb,hK.2.trans (hb.mono (Nat.zero_le _))⟩
theorem mBoxed_set {W : World} {B q j : Nat} {T : TypeId} {v u : Value} (h : Boxed W B T v) (hne : B ≠ q) : Boxed (W.setCell ⟨q, j, none⟩ u) B T v := (Below.heap_setCell W ⟨q, j, none⟩ u B hne).trans h
theorem mIV_app (hn : w.heap.size ≤ Bf) (h0 : Boxed V w.heap.size 71 (.pointer (some ⟨m, 0, none⟩))) (hF : Boxed V Bf 3 (.int .i64 s.2.2)) (hS : Boxed V Bs 33 sl) {vl vh v1 : Value} {x : Int} (hm : V.heap[m]? = some (.cells #[.slice At t.length ct, cp, vl, vh, .int .i64 fst] 110 (0, 0))) (hL : Kd.R (Kd.int .i64) 3 V w.heap.size (fun k => k ≠ Bf) vl s.1) (hH : Kd.R k90 90 V w.heap.size (fun _ => True) vh s.2.1) (hK : Kept w V (fun k => k = m) ∧ Below 0 w V)
  (hg:V.grownBy w1 vl.ownBlock) (ho:Kd.R (Kd.int .i64) 3 w1 w.heap.size (fun k=>k≠Bf) v1 (s.1 ++ [x])):mIV w m Bf Bs sl At ct t cp fst (w1.setCell ⟨m,2,none⟩ v1) (s.1 ++ [x],s.2.1,s.2.2):=by
 have hm1:=jqa hm hg (Kd.R_ne hL hm (by decide))
 have g0:=h0.kept hg (Kd.R_ne hL h0 (by decide))
 have gF:=hF.kept hg (fun e=>hL.1 Bf e.symm rfl)
 have gS:=hS.kept hg (Kd.R_ne hL hS (by decide))
 have gH:Kd.R k90 90 w1 w.heap.size (fun _=>True) vh s.2.1:=Kd.jJ (Kd.R_step (Kd.jUb hH) (fun k hk hlt=>hg.block k hlt (fun e=>by
  obtain ⟨_,_,_,q,hq,cells,hc⟩:=hk
  exact Kd.R_ne hL hc (by rcases List.mem_cons.1 hq with rfl | hq;decide;cases hq) e))) (fun _ _=>trivial)
 refine ⟨⟨⟨⟨mBoxed_set g0 (blk_ne g0 hm1 (by decide)),mBoxed_set gF (blk_ne gF hm1 (by decide))⟩,mBoxed_set gS (blk_ne gS hm1 (by decide))⟩,v1,vh,jS hm1 2 _ rfl,Kd.jrb ho hm1 (by decide) 2 _,Kd.jrb gH hm1 (by decide) 2 _⟩,?_,(hK.2.grown hg (Nat.zero_le _) (fun _ _=>Nat.zero_le _)).setCell (Nat.zero_le _) _⟩
 refine Kept.setCell (Kept.jGb hg hK.1 (fun k e=>.inr ?_)) (.inl rfl) _
 obtain ⟨inner,hw⟩:=Kd.R_own hL
 exact jrc hw k e
theorem mIV_fault (hn : w.heap.size ≤ Bf) (h : mIV w m Bf Bs sl At ct t cp fst V s) (hne : Bf ≠ Bs) (hne2 : Bf ≠ w.heap.size) (f : Int) : mIV w m Bf Bs sl At ct t cp fst (V.setCell ⟨Bf, 0, none⟩ (.int .i64 f)) (s.1, s.2.1, f) := by
 obtain ⟨⟨⟨⟨h0,hF⟩,hS⟩,vl,vh,hm,hL,hH⟩,hK⟩:=h
 refine ⟨⟨⟨⟨h0.other (fun e=>hne2 e.symm) _,hF.set _⟩,hS.other (fun e=>hne e.symm) _⟩,vl,vh,(Below.heap_setCell V ⟨Bf,0,none⟩ _ m (fun e=>blk_ne hm hF (by decide) e)).trans hm,Kd.joa hL (p:=⟨Bf,0,none⟩) (fun _ hk=>hk) _,Kd.jrb hH hF (by decide) 0 _⟩,hK.1.setCell (.inr hn) _,hK.2.setCell (Nat.zero_le _) _⟩
theorem mIV_raise (hn : w.heap.size ≤ Bf) (h0 : Boxed V w.heap.size 71 (.pointer (some ⟨m, 0, none⟩))) (hF : Boxed V Bf 3 (.int .i64 s.2.2)) (hS : Boxed V Bs 33 sl) {vl vh vh' : Value} {H' : List S90} (hm : V.heap[m]? = some (.cells #[.slice At t.length ct, cp, vl, vh, .int .i64 fst] 110 (0, 0))) (hL : Kd.R (Kd.int .i64) 3 V w.heap.size (fun k => k ≠ Bf) vl s.1) (hH : Kd.R k90 90 V w.heap.size (fun _ => True) vh s.2.1) (hK : Kept w V (fun k => k = m) ∧ Below 0 w V)
  (hm1:w1.heap[m]?=some (.cells #[.slice At t.length ct,cp,vl,vh', .int .i64 fst] 110 (0,0))) (hH1:Kd.R k90 90 w1 w.heap.size (fun _=>True) vh' H') (hK1:Kept V w1 (fun k=>k=m∨some k=vh.ownBlock)) (hB1:Below 0 V w1):mIV w m Bf Bs sl At ct t cp fst w1 (s.1,H',s.2.2):=by
 have ne:∀ (q:Nat) (cells:Array Value) (T:TypeId),T≠110→T≠90→V.heap[q]?=some (.cells cells T (0,0))→¬ (q=m∨some q=vh.ownBlock):=fun q cells T n1 n2 hq e=>by
  rcases e with rfl | e
  ·rw [hm] at hq;injection hq with hq;injection hq with _ hq;exact n1 hq.symm
  ·exact Kd.R_ne hH hq (fun e=>n2 e.symm) e
 refine ⟨⟨⟨⟨jvc h0 hK1 (ne _ _ _ (by decide) (by decide) h0),jvc hF hK1 (ne _ _ _ (by decide) (by decide) hF)⟩,jvc hS hK1 (ne _ _ _ (by decide) (by decide) hS)⟩,vl,vh',hm1,?_,hH1⟩,hK.1.then_ hK1 (fun k hk=>?_),hK.2.trans hB1⟩
 ·refine Kd.jJ (Kd.R_kept (Kd.jUb hL) hK1 (fun k hk=>?_)) (fun k hk=>hk.1)
  obtain ⟨_,_,_,q,hq,cells,hc⟩:=hk
  refine ne k cells q ?_ ?_ hc <;> (rcases List.mem_cons.1 hq with rfl | hq;decide;cases hq)
 ·rcases hk with hk | hk
  ·exact .inl hk
  ·obtain ⟨inner,hw⟩:=Kd.R_own hH
   exact .inr (jrc hw k hk.symm)
theorem mIV_own {β : Type} (B : Nat) (hB : w.heap.size ≤ B) (g : β → MSt) : OwnFrom B (fun s W => mIV w m Bf Bs sl At ct t cp fst W (g s)) :=
 OwnFrom.and (OwnFrom.and (OwnFrom.and (OwnFrom.and (Own.from (boxed_own _ _ fun _=>_) _) (Own.from (boxed_own _ _ fun s=>Value.int .i64 (g s).2.2) _)) (Own.from (boxed_own _ _ fun _=>_) _)) (Own.from (mach_own _ _ _ _ _ _ _) _)) (OwnFrom.and (kept_own hB) (ownFrom_below (Nat.zero_le _) (Nat.zero_le _)))
end
theorem jec {W w1 : World} {v : Value} {base : Nat} {e : TypeId} {ok : Nat → Prop} {l : List Int} (hL : Kd.R (Kd.int .i64) e W base ok v l) (hg : W.grownBy w1 v.ownBlock) : KeepsOthers W w1 := KeepsOthers.of_grownBy hg (fun j o e ho => by
 obtain ⟨inner,hw⟩:=Kd.R_own hL
 obtain ⟨cells,hc⟩:=jlc hw j e
 rw [hc] at ho;cases ho;rfl)
abbrev MEl (k : Nat) (t : List S106) := { x : Int × S44 // okX k t x.2 = true }
def mAcc {k : Nat} {t : List S106} (s0 : MSt) (pre : List (MEl k t)) : MSt := (pre.map fun x => x.1.2).foldl (stT (isT k t)) s0
theorem mAcc_snoc {k : Nat} {t : List S106} (s0 : MSt) (pre : List (MEl k t)) (x : MEl k t) : mAcc s0 (pre ++ [x]) = stT (isT k t) (mAcc s0 pre) x.1.2 := by simp [mAcc]
theorem mAcc_good {k : Nat} {t : List S106} {s0 : MSt} (h : gS t.length 0 s0) (pre : List (MEl k t)) : gS t.length pre.length (mAcc s0 pre) := by
 have:=(foldl_mono (pre.map fun x=>x.1.2) 0 s0 h (fun x hx=>by
  obtain ⟨y,_,rfl⟩:=List.mem_map.1 hx
  exact y.2)).2
 rw [List.length_map,Nat.zero_add] at this
 exact this
def mEl0 (k : Nat) (t : List S106) : MEl k t := ⟨(0, ⟨0, 0, 0⟩), rfl⟩
def mOf (k : Nat) (t : List S106) (l : List S44) (j : Nat) : MEl k t :=
 if q:okX k t (jL l ((l.length:Int) - 1 - j))=true then ⟨((l.length:Int) - 1 - j,jL l ((l.length:Int) - 1 - j)),q⟩ else mEl0 k t
theorem mOf_ok {k : Nat} {t : List S106} {l : List S44} (hx : ∀ x ∈ l, okX k t x = true) {j : Nat} (hj : j < l.length) : (mOf k t l j).1 = ((l.length : Int) - 1 - j, jL l ((l.length : Int) - 1 - j)) := by
 have e1:((l.length:Int) - 1 - j).toNat=l.length - 1 - j:=by omega
 have h3:l.length - 1 - j<l.length:=by omega
 have e2:jL l ((l.length:Int) - 1 - j)=l[l.length - 1 - j]:=by rw [jL,e1,List.getD_eq_getElem?_getD,List.getElem?_eq_getElem h3];rfl
 have q:okX k t (jL l ((l.length:Int) - 1 - j))=true:=by rw [e2];exact hx _ (List.getElem_mem h3)
 simp only [mOf,dif_pos q]
theorem mAcc_all {k : Nat} {t : List S106} {l : List S44} (hx : ∀ x ∈ l, okX k t x = true) (s0 : MSt) : mAcc s0 (uptoM (mOf k t l) l.length) = l.reverse.foldl (stT (isT k t)) s0 := by
 unfold mAcc
 congr 1
 apply List.ext_getElem
 ·simp [uptoM_length]
 ·intro j h1 h2
  have hj:j<l.length:=by simpa [uptoM_length] using h1
  have e1:((l.length:Int) - 1 - j).toNat=l.length - 1 - j:=by omega
  have h3:l.length - 1 - j<l.length:=by omega
  simp only [List.getElem_map,List.getElem_reverse,uptoM,List.getElem_range]
  rw [mOf_ok hx hj]
  show jL l ((l.length:Int) - 1 - j)=_
  rw [jL,e1,List.getD_eq_getElem?_getD,List.getElem?_eq_getElem h3];rfl
section
open Go
variable {P : Program} {md : Region.Mode} {ops : Array Oper} {Q : Exit → Act → World → Prop} {S : World → Prop}
theorem jxb {i : Nat} {oi : Oper} {v : Value} {fuel : Nat} {listed : Array Bool} {a a' : Act} {w : World} (hi : ops[i]? = some oi)
  (hs:Region.noSelect ops=true) (hf:Region.free md ops listed i=true) (hr:(Region.ready md ops listed).contains i=true)
  (hQ:∀ c a w,Q (.panic c) (a.put oi.dst v) w→Q (.panic c) a w) (hy:YieldsIf P ops S oi v a) (hS:S w) (hp:a.put oi.dst v=a')
  (h:wpAnyH P md ops Q S fuel (listed.setIfInBounds i true) a' w):wpAnyH P md ops Q S (fuel+1) listed a w :=
 wpAnyH_take hi hs hf hr hQ hy hS (by rw [hp];exact h)
end
theorem mo0 {w : World} {b : Nat} {v : Value} {l : List Value} {t : TypeId} (h : w.heap[b]? = some (.cells ⟨v :: l⟩ t (0, 0))) : w.cell? ⟨b, 0, none⟩ = some v := (jw h 0).trans rfl
theorem mo1 {w : World} {b : Nat} {v v1 : Value} {l : List Value} {t : TypeId} (h : w.heap[b]? = some (.cells ⟨v :: v1 :: l⟩ t (0, 0))) : w.cell? ⟨b, 1, none⟩ = some v1 := (jw h 1).trans rfl
theorem mo2 {w : World} {b : Nat} {v v1 v2 : Value} {l : List Value} {t : TypeId} (h : w.heap[b]? = some (.cells ⟨v :: v1 :: v2 :: l⟩ t (0, 0))) : w.cell? ⟨b, 2, none⟩ = some v2 := (jw h 2).trans rfl
theorem mo3 {w : World} {b : Nat} {v v1 v2 v3 : Value} {l : List Value} {t : TypeId} (h : w.heap[b]? = some (.cells ⟨v :: v1 :: v2 :: v3 :: l⟩ t (0, 0))) : w.cell? ⟨b, 3, none⟩ = some v3 := (jw h 3).trans rfl
set_option maxHeartbeats 8000000 in
set_option maxRecDepth 100000 in
theorem jHa.calls (k : Nat) (At : Option Addr) (ct : Nat) (t : List S106) (A1 : Option Addr) (c1 : Nat) (l1 : List S44) (a : Bool) (b c : Int) (m : Nat) (cp : Value) (fst : Int) (r : MSt) (w : World)
  (hm:w.heap[m]?=some (.cells #[.slice At t.length ct,cp, .slice none 0 0, .slice none 0 0, .int .i64 fst] 110 (0,0))) (hrT:∀ W',Kept w W' (fun k=>k=m)→Kd.C k106 W' At t.length t) (hcT:t.length≤ct) (hr1:∀ W',Kept w W' (fun k=>k=m)→Kd.C k44 W' A1 l1.length l1) (hc1:l1.length≤c1) (h:jHa.f k t l1 a b c=some r) :
  Calls Try.prog 40 #[.pointer (some ⟨m,0,none⟩), .slice A1 l1.length c1, .agg #[.bool a, .int .i64 b, .int .i64 c]] w fun e w'=>e=.returned (.int .i64 r.2.2)∧(∃ vl vh,w'.heap[m]?=some (.cells #[.slice At t.length ct,cp,vl,vh, .int .i64 fst] 110 (0,0))∧Kd.R (Kd.int .i64) 3 w' w.heap.size (fun _=>True) vl r.1∧Kd.R k90 90 w' w.heap.size (fun _=>True) vh r.2.1)∧Kept w w' (fun k=>k=m)∧Below 0 w w':=by
 unfold jHa.f at h
 by_cases hG:mcG k t l1 a b=true
 case neg=>rw [if_neg hG] at h;cases h
 rw [if_pos hG] at h
 obtain rfl:=Option.some.inj h
 clear h
 obtain ⟨hl5,hk5,hst,hok⟩:=mcG_spec hG
 clear hG
 have hs0:=st0_good (a:=a) (c:=c) hst
 have hu110:=Try.underlying110
 have hu50:=Try.underlying50
 have hu44:=Try.underlying44
 have hu90:=Try.underlying90
 have hu53:=Try.underlying53
 have hmx:Try.prog.follows .mixedOrders=true:=by kernel_rfl
 refine (callsIn_wide (n:=8)).1 ?_
 have hro:Fence.wide.round=none:=rfl
 refine callsIn_of_wp_marks Try.func40 rfl trivial ?_ hro
 simp only [Try.ntmps40,List.size_toArray,List.length_cons,List.length_nil,Nat.reduceAdd,Nat.reduceSub,Array.replicate_succ,Array.replicate_zero,List.push_toArray,List.append_toArray,List.nil_append,List.cons_append]
 have hmw:=jva hm
 have HRT:=am hrT
 have HR1:=am hr1
 have HOK:=am hok
 clear hrT hr1 hok
 obtain ⟨s0,hs00⟩:∃ s0:MSt,st0 a b c=s0:=⟨_,rfl⟩
 rw [hs00] at hs0 ⊢
 have HS0:=am hs00
 clear hs00
 gi_upto_if 11 with (fail)
 gi_cut [] from 12 (fun w'=>(((Boxed w' w.heap.size 71 (.pointer (some ⟨m,0,none⟩))∧Boxed w' (w.heap.size+1+1) 3 (.int .i64 s0.2.2))∧(∃ vl vh,w'.heap[m]?=some (.cells #[.slice At t.length ct,cp,vl,vh, .int .i64 fst] 110 (0,0))∧Kd.R (Kd.int .i64) 3 w' w.heap.size (fun k=>k≠w.heap.size+1+1) vl s0.1∧Kd.R k90 90 w' w.heap.size (fun _=>True) vh s0.2.1))∧(Kept w w' (fun k=>k=m)∧Below 0 w w')))
 case first =>
  have e0:=((show Boxed (w.alloc (.cells #[.pointer (some ⟨m,0,none⟩)] 71)) w.heap.size 71 (.pointer (some ⟨m,0,none⟩)) from Boxed.new w 71 (.pointer (some ⟨m,0,none⟩))).alloc (.cells #[.bool a, .int .i64 b, .int .i64 c] 50)).alloc (.cells #[.int .i64 (-1)] 3)
  have eF:=(show Boxed (((w.alloc (.cells #[.pointer (some ⟨m,0,none⟩)] 71)).alloc (.cells #[.bool a, .int .i64 b, .int .i64 c] 50)).alloc (.cells #[.int .i64 (-1)] 3)) (w.heap.size+1+1) 3 (.int .i64 (-1)) by have h:=Boxed.new ((w.alloc (.cells #[.pointer (some ⟨m,0,none⟩)] 71)).alloc (.cells #[.bool a, .int .i64 b, .int .i64 c] 50)) 3 (.int .i64 (-1));simpa only [World.size_alloc] using h)
  have eT:(((w.alloc (.cells #[.pointer (some ⟨m,0,none⟩)] 71)).alloc (.cells #[.bool a, .int .i64 b, .int .i64 c] 50)).alloc (.cells #[.int .i64 (-1)] 3)).heap[w.heap.size+1]?=some (.cells #[.bool a, .int .i64 b, .int .i64 c] 50 (0,0)):=jb (show ((w.alloc (.cells #[.pointer (some ⟨m,0,none⟩)] 71)).alloc (.cells #[.bool a, .int .i64 b, .int .i64 c] 50)).heap[w.heap.size+1]?=some (.cells #[.bool a, .int .i64 b, .int .i64 c] 50 (0,0)) by have h:=heap_alloc_new (w.alloc (.cells #[.pointer (some ⟨m,0,none⟩)] 71)) (.cells #[.bool a, .int .i64 b, .int .i64 c] 50);simpa only [World.size_alloc] using h) _
  have eM:=jb (jb (jb hm (.cells #[.pointer (some ⟨m,0,none⟩)] 71)) (.cells #[.bool a, .int .i64 b, .int .i64 c] 50)) (.cells #[.int .i64 (-1)] 3)
  have eK:=(((Kept.refl w (fun k=>k=m)).alloc (.cells #[.pointer (some ⟨m,0,none⟩)] 71)).alloc (.cells #[.bool a, .int .i64 b, .int .i64 c] 50)).alloc (.cells #[.int .i64 (-1)] 3)
  have eB:Below 0 w (((w.alloc (.cells #[.pointer (some ⟨m,0,none⟩)] 71)).alloc (.cells #[.bool a, .int .i64 b, .int .i64 c] 50)).alloc (.cells #[.int .i64 (-1)] 3)):=(((Below.refl 0 w).alloc (Nat.zero_le _) _).alloc (Nat.zero_le _) _).alloc (Nat.zero_le _) _
  cases a with
  | false =>
   have REL:(((Boxed (((w.alloc (.cells #[.pointer (some ⟨m,0,none⟩)] 71)).alloc (.cells #[.bool false, .int .i64 b, .int .i64 c] 50)).alloc (.cells #[.int .i64 (-1)] 3)) w.heap.size 71 (.pointer (some ⟨m,0,none⟩))∧Boxed (((w.alloc (.cells #[.pointer (some ⟨m,0,none⟩)] 71)).alloc (.cells #[.bool false, .int .i64 b, .int .i64 c] 50)).alloc (.cells #[.int .i64 (-1)] 3)) (w.heap.size+1+1) 3 (.int .i64 s0.2.2))∧(∃ vl vh,(((w.alloc (.cells #[.pointer (some ⟨m,0,none⟩)] 71)).alloc (.cells #[.bool false, .int .i64 b, .int .i64 c] 50)).alloc (.cells #[.int .i64 (-1)] 3)).heap[m]?=some (.cells #[.slice At t.length ct,cp,vl,vh, .int .i64 fst] 110 (0,0))∧Kd.R (Kd.int .i64) 3 (((w.alloc (.cells #[.pointer (some ⟨m,0,none⟩)] 71)).alloc (.cells #[.bool false, .int .i64 b, .int .i64 c] 50)).alloc (.cells #[.int .i64 (-1)] 3)) w.heap.size (fun k=>k≠w.heap.size+1+1) vl s0.1∧Kd.R k90 90 (((w.alloc (.cells #[.pointer (some ⟨m,0,none⟩)] 71)).alloc (.cells #[.bool false, .int .i64 b, .int .i64 c] 50)).alloc (.cells #[.int .i64 (-1)] 3)) w.heap.size (fun _=>True) vh s0.2.1))∧(Kept w (((w.alloc (.cells #[.pointer (some ⟨m,0,none⟩)] 71)).alloc (.cells #[.bool false, .int .i64 b, .int .i64 c] 50)).alloc (.cells #[.int .i64 (-1)] 3)) (fun k=>k=m)∧Below 0 w (((w.alloc (.cells #[.pointer (some ⟨m,0,none⟩)] 71)).alloc (.cells #[.bool false, .int .i64 b, .int .i64 c] 50)).alloc (.cells #[.int .i64 (-1)] 3)))):=by
    rw [← HS0.out];exact ⟨⟨⟨e0,eF⟩,_,_,eM,Kd.R_nil _ _ _ _ _,Kd.R_nil _ _ _ _ _⟩,eK,eB⟩
   have RL:=am REL
   clear REL e0 eF eM eK eT eB
   gi_wp2
   gi_meet
   exact RL.out
  | true =>
   have hbt:=hst rfl
   have KR:=am (fun W (hm':W.heap[m]?=some (.cells #[.slice At t.length ct,cp, .slice none 0 0, .slice none 0 0, .int .i64 fst] 110 (0,0))) (hb':w.heap.size≤W.heap.size)=>mm_raise k m (.slice At t.length ct) cp (.slice none 0 0) fst none 0 0 [] _ b c (-1) (fun _=>True) w.heap.size W rfl hm' (Kd.R_nil _ _ _ _ _) (fun _ _=>trivial) hb' (mR_good (gH_nil t.length) (by simp) (by simp;omega) (by omega) (by simp) hbt.1 hbt.2))
   have cS1:=mo1 eT
   have cS2:=mo2 eT
   have c0:=e0.cell
   have EM:=am eM
   have EF:=am eF
   have E0:=am e0
   have EK:=am eK
   have EB:=am eB
   clear eM eF e0 eK eT eB
   gi_wp2_with (refine ⟨trivial,?_⟩;gi_at_call 72;refine (callsIn_wide.2 (KR.out _ EM.out EK.out.1)).mono ?_;clear KR;rintro e w4 ⟨rfl,A4,c4,hm4,hR4,hK4,hB4⟩;have f4:=jvc EF.out hK4 (fun e=>by rcases e with e | e;(exact blk_ne EM.out EF.out (by decide) e.symm);(simp [Value.ownBlock] at e));have z4:=jvc E0.out hK4 (fun e=>by rcases e with e | e;(exact blk_ne EM.out E0.out (by decide) e.symm);(simp [Value.ownBlock] at e));have k4:=EK.out.then_ hK4 (fun k hk=>by rcases hk with hk | hk;(exact .inl hk);(simp [Value.ownBlock] at hk));have cF4:=Boxed.cell f4;have fF4:=Boxed.frozen f4;have HM4:=am hm4;have HR4:=am hR4;have HF4:=am f4;have HZ4:=am z4;have HK4:=am k4;have HB4:=am (EB.out.trans hB4);clear hm4 hR4 hK4 hB4 f4 z4 k4 c0 cS1 cS2)
   gi_meet
   rw [← HS0.out]
   exact ⟨⟨⟨Boxed.other HZ4.out (by omega) _,Boxed.set _ HF4.out⟩,_,_,(Below.heap_setCell w4 ⟨w.heap.size+1+1,0,none⟩ _ m (fun e=>blk_ne HM4.out HF4.out (by decide) e)).trans HM4.out,Kd.R_nil _ _ _ _ _,Kd.jrb HR4.out HF4.out (by decide) 0 _⟩,HK4.out.setCell (.inr (by show w.heap.size≤w.heap.size+1+1;omega)) _,HB4.out.setCell (Nat.zero_le _) _⟩
 case rest =>
  clear hm HS0 hst
  gi_wp2_with (refine ⟨trivial,?_⟩;gi_at_call 73;refine (backM_in Fence.wide _ trivial hro _ _ _ _).mono ?_;rintro e w' ⟨rfl,rfl⟩)
  obtain ⟨⟨⟨z0,zF⟩,vl,vh,zM,zL,zH⟩,zK⟩:=hcut
  have eS:=Boxed.new wc 33 (.slice A1 l1.length c1)
  have hFc:w.heap.size+1+1<wc.heap.size:=zF.lt
  obtain ⟨Bs,hBs⟩:∃ Bs,wc.heap.size=Bs:=⟨_,rfl⟩
  have hI0:mIV w m (w.heap.size+1+1) Bs (.slice A1 l1.length c1) At ct t cp fst (wc.alloc (.cells #[.slice A1 l1.length c1] 33)) s0:=by rw [← hBs];exact ⟨⟨⟨⟨z0.alloc _,zF.alloc _⟩,eS⟩,vl,vh,jb zM _,Kd.jda zL _,Kd.jda zH _⟩,zK.1.alloc _,zK.2.alloc (Nat.zero_le _) _⟩
  obtain ⟨W0,hW0⟩:∃ W0,wc.alloc (.cells #[.slice A1 l1.length c1] 33)=W0:=⟨_,rfl⟩
  rw [hW0] at hI0
  rw [hBs] at hFc
  rw [hW0,hBs]
  clear z0 zF zM zL zH zK eS hW0 hBs
  have hBs2:w.heap.size+1+1<Bs:=hFc
  clear hFc
  obtain ⟨RD,hRD⟩:∃ RD:World→Prop,RD=fun W=>Boxed W Bs 33 (.slice A1 l1.length c1)∧Kept w W (fun k=>k=m):=⟨_,rfl⟩
  have hRD1:∀ W,RD W→Kd.C k44 W A1 l1.length l1∧Boxed W Bs 33 (.slice A1 l1.length c1):=fun W h=>by
   rw [hRD] at h;exact ⟨HR1.out W h.2,h.1⟩
  have hRD2:∀ W,Below W0.heap.size W0 W→RD W:=fun W h=>by
   rw [hRD];exact ⟨Boxed.liesM hI0.1.1.2 h,hI0.2.1.below h⟩
  have hRD3:∀ (W:World) (lp:Nat) (o o':Obj),W0.heap.size≤lp→W.heap[lp]?=some o→o.isCells=false→o.isWalk=false→RD W→RD (W.putObj lp o'):=fun W lp o o' hl ho hc hw h=>by
   rw [hRD] at h ⊢
   exact ⟨(boxed_own (β:=Unit) _ _ fun _=>_).putObj (s:=()) o' h.1 ho hc,Kept.jGb (grownBy_putObj' W lp o') h.2 (fun k e=>.inr (by injection e with e;subst e;exact Nat.le_trans hI0.2.1.1 hl))⟩
  have IR:=am (show ∀ (W:World) (s:MSt),mIV w m (w.heap.size+1+1) Bs (.slice A1 l1.length c1) At ct t cp fst W s→RD W from fun W s h=>by
   rw [hRD];exact ⟨h.1.1.2,h.2.1⟩)
  clear hRD
  have hlm:l1.length≤9223372036854775807:=by omega
  have hn0:w.heap.size≤W0.heap.size:=hI0.2.1.1
  refine wpIn_rangeFunc_ownH hro (by omega) (gf:=105) (lb:=#[.pointer (some ⟨Bs,0,none⟩)]) rfl trivial (enters_of Try.func105 (by kernel_rfl) rfl)
   (encs:=fun x:MEl k t=>#[.int .i64 x.1.1, .agg #[.int .i64 x.1.2.f0, .int .i64 x.1.2.f1, .int .i64 x.1.2.f2]]) (Kp:=fun W W'=>RD W→RD W')
   (S:=fun ys=>ys=uptoM (mOf k t l1) l1.length) (Sp:=fun pre=>∃ q,q≤l1.length∧pre=uptoM (mOf k t l1) q) (N:=l1.length) (w0:=W0)
   (fun lp J Jx W hW _ _ hY h0=>backM1_in Fence.wide _ trivial hro (by omega) lp Bs A1 c1 l1 hlm RD (fun W W'=>RD W→RD W') hRD1 (fun W W' h h2=>h h2) _ (mOf k t l1) (fun j hj=>by rw [mOf_ok HOK.out hj]) J Jx hY W (hRD2 W hW) h0)
   (fun h k x=>k (h x)) (fun W lp o o' hl ho hc hw hx=>hRD3 W lp o o' hl ho hc hw hx) (Below.refl _ _) (fun _=>rfl)
   (fun pre W=>mIV w m (w.heap.size+1+1) Bs (.slice A1 l1.length c1) At ct t cp fst W (mAcc s0 pre))
   (fun c pre W=>False)
   (mIV_own _ hn0 _)
   (fun c=>ownFrom_pure _ fun _=>False)
   hI0
   (fun x a' W=>∃ Bx,Bs<Bx∧W.heap[Bx]?=some (.cells #[.int .i64 x.1.2.f0, .int .i64 x.1.2.f1, .int .i64 x.1.2.f2] 44 (0,0))∧a'={ tmps:=#[.pointer (some ⟨m,0,none⟩), .slice A1 l1.length c1, .agg #[.bool a, .int .i64 b, .int .i64 c], .pointer (some ⟨w.heap.size,0,none⟩),undef, .pointer (some ⟨w.heap.size+1,0,none⟩), .int .i64 0, .pointer (some ⟨w.heap.size+1+1,0,none⟩),undef, .pointer (some ⟨Bx,0,none⟩), .pointer (some ⟨w.heap.size+1,0,none⟩), .bool a,u12,u13,u14,u15,u16,u17, .slice A1 l1.length c1, .func (.func 105) #[] #[.pointer (some ⟨Bs,0,none⟩)], .int .i64 x.1.1, .agg #[.int .i64 x.1.2.f0, .int .i64 x.1.2.f1, .int .i64 x.1.2.f2],u22,u23,u24,u25,u26,u27,u28,u29,u30,u31,u32,u33,u34,u35,u36,u37,u38,u39,u40,u41,u42,u43,u44,u45,u46,u47,u48,u49,u50,u51,u52,u53,u54,u55,u56,u57,u58,u59,u60,u61,u62,u63,u64,u65,u66,u67,u68,u69,u70,u71,u72,u73,u74,u75,u76,u77,u78,u79,u80,u81,u82,u83],defers:=[] })
   (fun x a' _ X Y row hs hg hr=>by
    obtain ⟨Bx,h1,h2,h3⟩:=hs
    refine ⟨Bx,h1,(hg.block Bx (Array.getElem?_eq_some_iff.1 h2).1 (fun e=>?_)).trans h2,h3⟩
    obtain ⟨o,ho,hc⟩:=(hr Bx e.symm).2
    rw [h2] at ho;cases ho;cases hc)
   ?assign ?body ?done ?stop
  case assign =>
   rintro lp pre x W K hI hK
   have iS:=hI.1.1.2
   gi_wp2
   exact hK _ _ ((KeepsOthers.alloc _ _).from _) (fun _=>IR.out _ _ (jZb hI (jF (Below.refl _ _) _))) (jZb hI (jF (Below.refl _ _) _)) ⟨W.heap.size,iS.lt,World.alloc_heap_new W _,rfl⟩
  case body =>
   rintro lp pre ⟨⟨ix,x⟩,hx⟩ a' W hl ⟨rr,hrr⟩ hI ⟨Bx,hBx,bX,rfl⟩ hlt
   have hsn:=mAcc_snoc s0 pre ⟨(ix,x),hx⟩
   have hgd:=mAcc_good hs0 pre
   obtain ⟨s,hs⟩:∃ s,mAcc s0 pre=s:=⟨_,rfl⟩
   rw [hs] at hsn hgd hI
   clear hs
   obtain ⟨lg,H,f⟩:=s
   obtain ⟨hgH,hlo,hhi,hll,hlh⟩:=hgd
   simp only at hlo hhi hll hlh hgH
   have hI1:=hI
   obtain ⟨⟨⟨⟨i0,iF⟩,iS⟩,vl,vh,im,iL,iH⟩,iK⟩:=hI1
   have x0:W.cell? ⟨Bx,0,none⟩=some (.int .i64 x.f0):=mo0 bX
   have x1:W.cell? ⟨Bx,1,none⟩=some (.int .i64 x.f1):=mo1 bX
   have x2:W.cell? ⟨Bx,2,none⟩=some (.int .i64 x.f2):=mo2 bX
   have c0:=i0.cell
   have cF:=iF.cell
   have fF:=iF.frozen
   have hnW:w.heap.size≤W.heap.size:=iK.1.1
   have HI:=am hI
   have HSN:=am hsn
   have HGH:=am hgH
   have HX:=am hx
   clear hI hsn hgH i0 iF iS im iL iH iK hs0
   by_cases hk:x.f0=0
   ·have HF:=am (show mAcc s0 (pre ++ [⟨(ix,x),hx⟩])=(lg ++ [x.f1],H,f) by rw [HSN.out];unfold stT;simp only [];rw [if_pos hk])
    have f0:(x.f0 == 0)=true:=by simp [hk]
    have f1:(x.f0 == 1)=false:=by simp [hk]
    have f2:(x.f0 == 2)=false:=by simp [hk]
    have f3:(x.f0 == 3)=false:=by simp [hk]
    clear hk
    gi_wp2
    refine jVb (S:=(fun W':World=>W'.cell? ⟨w.heap.size,0,none⟩=some (.pointer (some ⟨m,0,none⟩))∧W'.cell? ⟨Bx,1,none⟩=some (.int .i64 x.f1))) hmx (by kernel_rfl) ?hL ?_
    case hL=>rintro ⟨_,_,h⟩;exact h
    change wpAnyH _ _ _ _ _ _ _ _ (World.drew W)
    obtain ⟨V,hVe,hVI,hVK,hVX⟩:∃ V:World,World.drew W=V∧mIV w m (w.heap.size+1+1) Bs (.slice A1 l1.length c1) At ct t cp fst V (lg,H,f)∧KeepsFrom W0.heap.size W V∧V.heap[Bx]?=some (.cells #[.int .i64 x.f0, .int .i64 x.f1, .int .i64 x.f2] 44 (0,0)):=⟨_,rfl,jZb HI.out (jub (Below.refl _ _)),KeepsFrom.of_belowM (jub (Below.refl _ _)) _,jf bX⟩
    rw [hVe]
    clear hVe c0 cF fF x0 x1 x2
    obtain ⟨⟨⟨⟨v0,vF⟩,vS⟩,vl,vh,vm,vL,vH⟩,vK⟩:=hVI
    obtain ⟨Al,cl,rfl⟩:=Kd.jga vL
    have hS0:(fun W':World=>W'.cell? ⟨w.heap.size,0,none⟩=some (.pointer (some ⟨m,0,none⟩))∧W'.cell? ⟨Bx,1,none⟩=some (.int .i64 x.f1)) V:=⟨v0.cell,mo1 hVX⟩
    have cm2:V.cell? ⟨m,2,none⟩=some (.slice Al lg.length cl):=mo2 vm
    have hmV:=jva vm
    have hnV:w.heap.size≤V.heap.size:=vK.1.1
    have VL:=am vL
    have VM:=am vm
    have VX:=am hVX
    have V0:=am v0
    have VF:=am vF
    have VS:=am vS
    have VH:=am vH
    have VK:=am vK
    have hFV:w.heap.size+1+1<V.heap.size:=vF.lt
    clear vL vm hVX v0 vF vS vH vK
    refine wpAnyH_take (i:=0) (v:=?_) rfl (by kernel_rfl) (by kernel_rfl) (by kernel_rfl) (fun _ _ _ h=>h) (Or.inl ⟨by kernel_rfl,?_⟩) hS0 ?_
    rotate_left
    ·rintro W' ⟨s1,s2⟩
     go_simp
     with_reducible rfl
    refine wpAnyH_take (i:=1) (v:=?_) rfl (by kernel_rfl) (by kernel_rfl) (by kernel_rfl) (fun _ _ _ h=>h) (Or.inl ⟨by kernel_rfl,?_⟩) hS0 ?_
    rotate_left
    ·rintro W' ⟨s1,s2⟩
     go_simp
     with_reducible rfl
    refine wpAnyH_take (i:=2) (v:=?_) rfl (by kernel_rfl) (by kernel_rfl) (by kernel_rfl) (fun _ _ _ h=>h) (Or.inl ⟨by kernel_rfl,?_⟩) hS0 ?_
    rotate_left
    ·rintro W' ⟨s1,s2⟩
     go_simp
     with_reducible rfl
    refine wpAnyH_take (i:=3) (v:=?_) rfl (by kernel_rfl) (by kernel_rfl) (by kernel_rfl) (fun _ _ _ h=>h) (Or.inl ⟨by kernel_rfl,?_⟩) hS0 ?_
    rotate_left
    ·rintro W' ⟨s1,s2⟩
     go_simp
     with_reducible rfl
    refine wpAnyH_take (i:=5) (v:=?_) rfl (by kernel_rfl) (by kernel_rfl) (by kernel_rfl) (fun _ _ _ h=>h) (Or.inl ⟨by kernel_rfl,?_⟩) hS0 ?_
    rotate_left
    ·rintro W' ⟨s1,s2⟩
     go_simp
     with_reducible rfl
    refine wpAnyH_take (i:=6) (v:=?_) rfl (by kernel_rfl) (by kernel_rfl) (by kernel_rfl) (fun _ _ _ h=>h) (Or.inl ⟨by kernel_rfl,?_⟩) hS0 ?_
    rotate_left
    ·rintro W' ⟨s1,s2⟩
     go_simp
     with_reducible rfl
    refine wpAnyH_all (rs:=[4,7]) (by kernel_rfl) (by simp) ?_
    intro ii hii
    rcases (by simpa using hii:ii=4∨ii=7) with rfl | rfl
    all_goals clear hii
    ·refine wpOp_step rfl (fun K hK=>?_)
     go_simp
     refine hK _ _ ⟨hS0,?_⟩
     clear hK K
     refine wpAnyH_all (rs:=[7]) (by kernel_rfl) (by simp) ?_
     intro ii hii
     obtain rfl:ii=7:=by simpa using hii
     clear hii
     refine wpOp_step rfl (fun K hK=>?_)
     go_simp
     have hS1:(fun W':World=>W'.cell? ⟨w.heap.size,0,none⟩=some (.pointer (some ⟨m,0,none⟩))∧W'.cell? ⟨Bx,1,none⟩=some (.int .i64 x.f1)) (V.alloc (.cells #[.int .i64 x.f1] 3)):=⟨mo0 (jb V0.out _),mo1 (jb VX.out _)⟩
     refine hK _ _ ⟨hS1,?_⟩
     clear hK K
     refine wpAnyH_all (rs:=[8]) (by kernel_rfl) (by simp) ?_
     intro ii hii
     obtain rfl:ii=8:=by simpa using hii
     clear hii
     refine wpOp_step rfl (fun K hK=>?_)
     refine Kd.jNb (Kd.int .i64) (w0:=V) (W:=V) w.heap.size rfl (.tmp 30) (.tmp 33) 45 3 (.int .i64 0) 8 rfl Try.underlying45 info3 rfl (by decide) (by omega) (.slice Al lg.length cl) lg x.f1 [.int .i64 x.f1] (fun k=>k≠w.heap.size+1+1) (fun _=>False) rfl rfl rfl (fun _ h=>h.elim) (fun k hk e=>by omega) VL.out (Below.refl _ _) hnV (by omega) ?_
     intro v1 w1 ho hb hg hat
     obtain ⟨A1',c1',e1'⟩:=Kd.jga ho
     rw [show (lg ++ [x.f1]).length=lg.length+1 by simp] at e1'
     subst e1'
     have hS2:(fun W':World=>W'.cell? ⟨w.heap.size,0,none⟩=some (.pointer (some ⟨m,0,none⟩))∧W'.cell? ⟨Bx,1,none⟩=some (.int .i64 x.f1)) w1:=⟨mo0 (jqa V0.out hg (Kd.R_ne VL.out V0.out (by decide))),mo1 (jqa VX.out hg (Kd.R_ne VL.out VX.out (by decide)))⟩
     have hm1:=jqa VM.out hg (Kd.R_ne VL.out VM.out (by decide))
     have cm1:w1.cell? ⟨m,2,none⟩=some (.slice Al lg.length cl):=mo2 hm1
     have fm1:=ja hm1 2
     have HM1:=am hm1
     have HO:=am ho
     have HG:=am hg
     clear hm1 ho hg hb hat
     refine hK _ _ ⟨hS2,?_⟩
     clear hK K
     refine wpAnyH_take (i:=9) (v:=?_) rfl (by kernel_rfl) (by kernel_rfl) (by kernel_rfl) (fun _ _ _ h=>h) (Or.inl ⟨by kernel_rfl,?_⟩) hS2 ?_
     rotate_left
     ·rintro W' ⟨s1,s2⟩
      go_simp
      with_reducible rfl
     refine wpAnyH_take (i:=10) (v:=?_) rfl (by kernel_rfl) (by kernel_rfl) (by kernel_rfl) (fun _ _ _ h=>h) (Or.inl ⟨by kernel_rfl,?_⟩) hS2 ?_
     rotate_left
     ·rintro W' ⟨s1,s2⟩
      go_simp
      with_reducible rfl
     refine wpAnyH_all (rs:=[11]) (by kernel_rfl) (by simp) ?_
     intro ii hii
     obtain rfl:ii=11:=by simpa using hii
     clear hii
     refine wpOp_step rfl (fun K hK=>?_)
     go_simp
     have HI2:=mIV_app (w1:=w1) (s:=(lg,H,f)) (by omega) V0.out VF.out VS.out VM.out VL.out VH.out VK.out HG.out HO.out
     have hX1:w1.heap[Bx]?=some (.cells #[.int .i64 x.f0, .int .i64 x.f1, .int .i64 x.f2] 44 (0,0)):=jqa VX.out HG.out (Kd.R_ne VL.out VX.out (by decide))
     have hXm:Bx≠m:=blk_ne hX1 HM1.out (by decide)
     refine hK _ _ ⟨⟨mo0 HI2.1.1.1.1,(World.cell?_setCell_far _ _ _ _ hXm.symm).trans hS2.2⟩,?_⟩
     clear hK K
     refine wpAnyH_done (by kernel_rfl) ?_ _
     exact ⟨hVK.trans (((jec VL.out HG.out).trans (KeepsOthers.setCell _ _ _)).from _),fun _=>IR.out _ _ HI2,by show mIV w m (w.heap.size+1+1) Bs (.slice A1 l1.length c1) At ct t cp fst _ (mAcc s0 (pre ++ [⟨(ix,x),hx⟩]));rw [HF.out];exact HI2⟩
    ·refine wpOp_step rfl (fun K hK=>?_)
     go_simp
     have hS1:(fun W':World=>W'.cell? ⟨w.heap.size,0,none⟩=some (.pointer (some ⟨m,0,none⟩))∧W'.cell? ⟨Bx,1,none⟩=some (.int .i64 x.f1)) (V.alloc (.cells #[.int .i64 x.f1] 3)):=⟨mo0 (jb V0.out _),mo1 (jb VX.out _)⟩
     refine hK _ _ ⟨hS1,?_⟩
     clear hK K
     refine wpAnyH_all (rs:=[4]) (by kernel_rfl) (by simp) ?_
     intro ii hii
     obtain rfl:ii=4:=by simpa using hii
     clear hii
     refine wpOp_step rfl (fun K hK=>?_)
     go_simp
     refine hK _ _ ⟨hS1,?_⟩
     clear hK K
     refine wpAnyH_all (rs:=[8]) (by kernel_rfl) (by simp) ?_
     intro ii hii
     obtain rfl:ii=8:=by simpa using hii
     clear hii
     refine wpOp_step rfl (fun K hK=>?_)
     refine Kd.jNb (Kd.int .i64) (w0:=V) (W:=V) w.heap.size rfl (.tmp 30) (.tmp 33) 45 3 (.int .i64 0) 8 rfl Try.underlying45 info3 rfl (by decide) (by omega) (.slice Al lg.length cl) lg x.f1 [.int .i64 x.f1] (fun k=>k≠w.heap.size+1+1) (fun _=>False) rfl rfl rfl (fun _ h=>h.elim) (fun k hk e=>by omega) VL.out (Below.refl _ _) hnV (by omega) ?_
     intro v1 w1 ho hb hg hat
     obtain ⟨A1',c1',e1'⟩:=Kd.jga ho
     rw [show (lg ++ [x.f1]).length=lg.length+1 by simp] at e1'
     subst e1'
     have hS2:(fun W':World=>W'.cell? ⟨w.heap.size,0,none⟩=some (.pointer (some ⟨m,0,none⟩))∧W'.cell? ⟨Bx,1,none⟩=some (.int .i64 x.f1)) w1:=⟨mo0 (jqa V0.out hg (Kd.R_ne VL.out V0.out (by decide))),mo1 (jqa VX.out hg (Kd.R_ne VL.out VX.out (by decide)))⟩
     have hm1:=jqa VM.out hg (Kd.R_ne VL.out VM.out (by decide))
     have cm1:w1.cell? ⟨m,2,none⟩=some (.slice Al lg.length cl):=mo2 hm1
     have fm1:=ja hm1 2
     have HM1:=am hm1
     have HO:=am ho
     have HG:=am hg
     clear hm1 ho hg hb hat
     refine hK _ _ ⟨hS2,?_⟩
     clear hK K
     refine wpAnyH_take (i:=9) (v:=?_) rfl (by kernel_rfl) (by kernel_rfl) (by kernel_rfl) (fun _ _ _ h=>h) (Or.inl ⟨by kernel_rfl,?_⟩) hS2 ?_
     rotate_left
     ·rintro W' ⟨s1,s2⟩
      go_simp
      with_reducible rfl
     refine wpAnyH_take (i:=10) (v:=?_) rfl (by kernel_rfl) (by kernel_rfl) (by kernel_rfl) (fun _ _ _ h=>h) (Or.inl ⟨by kernel_rfl,?_⟩) hS2 ?_
     rotate_left
     ·rintro W' ⟨s1,s2⟩
      go_simp
      with_reducible rfl
     refine wpAnyH_all (rs:=[11]) (by kernel_rfl) (by simp) ?_
     intro ii hii
     obtain rfl:ii=11:=by simpa using hii
     clear hii
     refine wpOp_step rfl (fun K hK=>?_)
     go_simp
     have HI2:=mIV_app (w1:=w1) (s:=(lg,H,f)) (by omega) V0.out VF.out VS.out VM.out VL.out VH.out VK.out HG.out HO.out
     have hX1:w1.heap[Bx]?=some (.cells #[.int .i64 x.f0, .int .i64 x.f1, .int .i64 x.f2] 44 (0,0)):=jqa VX.out HG.out (Kd.R_ne VL.out VX.out (by decide))
     have hXm:Bx≠m:=blk_ne hX1 HM1.out (by decide)
     refine hK _ _ ⟨⟨mo0 HI2.1.1.1.1,(World.cell?_setCell_far _ _ _ _ hXm.symm).trans hS2.2⟩,?_⟩
     clear hK K
     refine wpAnyH_done (by kernel_rfl) ?_ _
     exact ⟨hVK.trans (((jec VL.out HG.out).trans (KeepsOthers.setCell _ _ _)).from _),fun _=>IR.out _ _ HI2,by show mIV w m (w.heap.size+1+1) Bs (.slice A1 l1.length c1) At ct t cp fst _ (mAcc s0 (pre ++ [⟨(ix,x),hx⟩]));rw [HF.out];exact HI2⟩
   ·have g0:=hk
    clear hk
    by_cases hk:x.f0=1
    ·by_cases hf:0≤f
     ·have HF:=am (show mAcc s0 (pre ++ [⟨(ix,x),hx⟩])=(lg ++ [x.f1],H,f) by rw [HSN.out];unfold stT;simp only [];rw [if_neg (show ¬ x.f0=0 by omega)];rw [if_pos hk,if_pos hf])
      have f0:(x.f0 == 0)=false:=by simp [hk]
      have f1:(x.f0 == 1)=true:=by simp [hk]
      have f2:(x.f0 == 2)=false:=by simp [hk]
      have f3:(x.f0 == 3)=false:=by simp [hk]
      have q0:=dzT (show f≥0 by omega)
      clear hk
      gi_wp2
      refine jVb (S:=(fun W':World=>W'.cell? ⟨w.heap.size,0,none⟩=some (.pointer (some ⟨m,0,none⟩))∧W'.cell? ⟨Bx,1,none⟩=some (.int .i64 x.f1))) hmx (by kernel_rfl) ?hL ?_
      case hL=>rintro ⟨_,_,h⟩;exact h
      change wpAnyH _ _ _ _ _ _ _ _ (World.drew W)
      obtain ⟨V,hVe,hVI,hVK,hVX⟩:∃ V:World,World.drew W=V∧mIV w m (w.heap.size+1+1) Bs (.slice A1 l1.length c1) At ct t cp fst V (lg,H,f)∧KeepsFrom W0.heap.size W V∧V.heap[Bx]?=some (.cells #[.int .i64 x.f0, .int .i64 x.f1, .int .i64 x.f2] 44 (0,0)):=⟨_,rfl,jZb HI.out (jub (Below.refl _ _)),KeepsFrom.of_belowM (jub (Below.refl _ _)) _,jf bX⟩
      rw [hVe]
      clear hVe c0 cF fF x0 x1 x2
      obtain ⟨⟨⟨⟨v0,vF⟩,vS⟩,vl,vh,vm,vL,vH⟩,vK⟩:=hVI
      obtain ⟨Al,cl,rfl⟩:=Kd.jga vL
      have hS0:(fun W':World=>W'.cell? ⟨w.heap.size,0,none⟩=some (.pointer (some ⟨m,0,none⟩))∧W'.cell? ⟨Bx,1,none⟩=some (.int .i64 x.f1)) V:=⟨v0.cell,mo1 hVX⟩
      have cm2:V.cell? ⟨m,2,none⟩=some (.slice Al lg.length cl):=mo2 vm
      have hmV:=jva vm
      have hnV:w.heap.size≤V.heap.size:=vK.1.1
      have VL:=am vL
      have VM:=am vm
      have VX:=am hVX
      have V0:=am v0
      have VF:=am vF
      have VS:=am vS
      have VH:=am vH
      have VK:=am vK
      have hFV:w.heap.size+1+1<V.heap.size:=vF.lt
      clear vL vm hVX v0 vF vS vH vK
      refine wpAnyH_take (i:=0) (v:=?_) rfl (by kernel_rfl) (by kernel_rfl) (by kernel_rfl) (fun _ _ _ h=>h) (Or.inl ⟨by kernel_rfl,?_⟩) hS0 ?_
      rotate_left
      ·rintro W' ⟨s1,s2⟩
       go_simp
       with_reducible rfl
      refine wpAnyH_take (i:=1) (v:=?_) rfl (by kernel_rfl) (by kernel_rfl) (by kernel_rfl) (fun _ _ _ h=>h) (Or.inl ⟨by kernel_rfl,?_⟩) hS0 ?_
      rotate_left
      ·rintro W' ⟨s1,s2⟩
       go_simp
       with_reducible rfl
      refine wpAnyH_take (i:=2) (v:=?_) rfl (by kernel_rfl) (by kernel_rfl) (by kernel_rfl) (fun _ _ _ h=>h) (Or.inl ⟨by kernel_rfl,?_⟩) hS0 ?_
      rotate_left
      ·rintro W' ⟨s1,s2⟩
       go_simp
       with_reducible rfl
      refine wpAnyH_take (i:=3) (v:=?_) rfl (by kernel_rfl) (by kernel_rfl) (by kernel_rfl) (fun _ _ _ h=>h) (Or.inl ⟨by kernel_rfl,?_⟩) hS0 ?_
      rotate_left
      ·rintro W' ⟨s1,s2⟩
       go_simp
       with_reducible rfl
      refine wpAnyH_take (i:=5) (v:=?_) rfl (by kernel_rfl) (by kernel_rfl) (by kernel_rfl) (fun _ _ _ h=>h) (Or.inl ⟨by kernel_rfl,?_⟩) hS0 ?_
      rotate_left
      ·rintro W' ⟨s1,s2⟩
       go_simp
       with_reducible rfl
      refine wpAnyH_take (i:=6) (v:=?_) rfl (by kernel_rfl) (by kernel_rfl) (by kernel_rfl) (fun _ _ _ h=>h) (Or.inl ⟨by kernel_rfl,?_⟩) hS0 ?_
      rotate_left
      ·rintro W' ⟨s1,s2⟩
       go_simp
       with_reducible rfl
      refine wpAnyH_all (rs:=[4,7]) (by kernel_rfl) (by simp) ?_
      intro ii hii
      rcases (by simpa using hii:ii=4∨ii=7) with rfl | rfl
      all_goals clear hii
      ·refine wpOp_step rfl (fun K hK=>?_)
       go_simp
       refine hK _ _ ⟨hS0,?_⟩
       clear hK K
       refine wpAnyH_all (rs:=[7]) (by kernel_rfl) (by simp) ?_
       intro ii hii
       obtain rfl:ii=7:=by simpa using hii
       clear hii
       refine wpOp_step rfl (fun K hK=>?_)
       go_simp
       have hS1:(fun W':World=>W'.cell? ⟨w.heap.size,0,none⟩=some (.pointer (some ⟨m,0,none⟩))∧W'.cell? ⟨Bx,1,none⟩=some (.int .i64 x.f1)) (V.alloc (.cells #[.int .i64 x.f1] 3)):=⟨mo0 (jb V0.out _),mo1 (jb VX.out _)⟩
       refine hK _ _ ⟨hS1,?_⟩
       clear hK K
       refine wpAnyH_all (rs:=[8]) (by kernel_rfl) (by simp) ?_
       intro ii hii
       obtain rfl:ii=8:=by simpa using hii
       clear hii
       refine wpOp_step rfl (fun K hK=>?_)
       refine Kd.jNb (Kd.int .i64) (w0:=V) (W:=V) w.heap.size rfl (.tmp 45) (.tmp 48) 45 3 (.int .i64 0) 8 rfl Try.underlying45 info3 rfl (by decide) (by omega) (.slice Al lg.length cl) lg x.f1 [.int .i64 x.f1] (fun k=>k≠w.heap.size+1+1) (fun _=>False) rfl rfl rfl (fun _ h=>h.elim) (fun k hk e=>by omega) VL.out (Below.refl _ _) hnV (by omega) ?_
       intro v1 w1 ho hb hg hat
       obtain ⟨A1',c1',e1'⟩:=Kd.jga ho
       rw [show (lg ++ [x.f1]).length=lg.length+1 by simp] at e1'
       subst e1'
       have hS2:(fun W':World=>W'.cell? ⟨w.heap.size,0,none⟩=some (.pointer (some ⟨m,0,none⟩))∧W'.cell? ⟨Bx,1,none⟩=some (.int .i64 x.f1)) w1:=⟨mo0 (jqa V0.out hg (Kd.R_ne VL.out V0.out (by decide))),mo1 (jqa VX.out hg (Kd.R_ne VL.out VX.out (by decide)))⟩
       have hm1:=jqa VM.out hg (Kd.R_ne VL.out VM.out (by decide))
       have cm1:w1.cell? ⟨m,2,none⟩=some (.slice Al lg.length cl):=mo2 hm1
       have fm1:=ja hm1 2
       have HM1:=am hm1
       have HO:=am ho
       have HG:=am hg
       clear hm1 ho hg hb hat
       refine hK _ _ ⟨hS2,?_⟩
       clear hK K
       refine wpAnyH_take (i:=9) (v:=?_) rfl (by kernel_rfl) (by kernel_rfl) (by kernel_rfl) (fun _ _ _ h=>h) (Or.inl ⟨by kernel_rfl,?_⟩) hS2 ?_
       rotate_left
       ·rintro W' ⟨s1,s2⟩
        go_simp
        with_reducible rfl
       refine wpAnyH_take (i:=10) (v:=?_) rfl (by kernel_rfl) (by kernel_rfl) (by kernel_rfl) (fun _ _ _ h=>h) (Or.inl ⟨by kernel_rfl,?_⟩) hS2 ?_
       rotate_left
       ·rintro W' ⟨s1,s2⟩
        go_simp
        with_reducible rfl
       refine wpAnyH_all (rs:=[11]) (by kernel_rfl) (by simp) ?_
       intro ii hii
       obtain rfl:ii=11:=by simpa using hii
       clear hii
       refine wpOp_step rfl (fun K hK=>?_)
       go_simp
       have HI2:=mIV_app (w1:=w1) (s:=(lg,H,f)) (by omega) V0.out VF.out VS.out VM.out VL.out VH.out VK.out HG.out HO.out
       have hX1:w1.heap[Bx]?=some (.cells #[.int .i64 x.f0, .int .i64 x.f1, .int .i64 x.f2] 44 (0,0)):=jqa VX.out HG.out (Kd.R_ne VL.out VX.out (by decide))
       have hXm:Bx≠m:=blk_ne hX1 HM1.out (by decide)
       refine hK _ _ ⟨⟨mo0 HI2.1.1.1.1,(World.cell?_setCell_far _ _ _ _ hXm.symm).trans hS2.2⟩,?_⟩
       clear hK K
       refine wpAnyH_done (by kernel_rfl) ?_ _
       exact ⟨hVK.trans (((jec VL.out HG.out).trans (KeepsOthers.setCell _ _ _)).from _),fun _=>IR.out _ _ HI2,by show mIV w m (w.heap.size+1+1) Bs (.slice A1 l1.length c1) At ct t cp fst _ (mAcc s0 (pre ++ [⟨(ix,x),hx⟩]));rw [HF.out];exact HI2⟩
      ·refine wpOp_step rfl (fun K hK=>?_)
       go_simp
       have hS1:(fun W':World=>W'.cell? ⟨w.heap.size,0,none⟩=some (.pointer (some ⟨m,0,none⟩))∧W'.cell? ⟨Bx,1,none⟩=some (.int .i64 x.f1)) (V.alloc (.cells #[.int .i64 x.f1] 3)):=⟨mo0 (jb V0.out _),mo1 (jb VX.out _)⟩
       refine hK _ _ ⟨hS1,?_⟩
       clear hK K
       refine wpAnyH_all (rs:=[4]) (by kernel_rfl) (by simp) ?_
       intro ii hii
       obtain rfl:ii=4:=by simpa using hii
       clear hii
       refine wpOp_step rfl (fun K hK=>?_)
       go_simp
       refine hK _ _ ⟨hS1,?_⟩
       clear hK K
       refine wpAnyH_all (rs:=[8]) (by kernel_rfl) (by simp) ?_
       intro ii hii
       obtain rfl:ii=8:=by simpa using hii
       clear hii
       refine wpOp_step rfl (fun K hK=>?_)
       refine Kd.jNb (Kd.int .i64) (w0:=V) (W:=V) w.heap.size rfl (.tmp 45) (.tmp 48) 45 3 (.int .i64 0) 8 rfl Try.underlying45 info3 rfl (by decide) (by omega) (.slice Al lg.length cl) lg x.f1 [.int .i64 x.f1] (fun k=>k≠w.heap.size+1+1) (fun _=>False) rfl rfl rfl (fun _ h=>h.elim) (fun k hk e=>by omega) VL.out (Below.refl _ _) hnV (by omega) ?_
       intro v1 w1 ho hb hg hat
       obtain ⟨A1',c1',e1'⟩:=Kd.jga ho
       rw [show (lg ++ [x.f1]).length=lg.length+1 by simp] at e1'
       subst e1'
       have hS2:(fun W':World=>W'.cell? ⟨w.heap.size,0,none⟩=some (.pointer (some ⟨m,0,none⟩))∧W'.cell? ⟨Bx,1,none⟩=some (.int .i64 x.f1)) w1:=⟨mo0 (jqa V0.out hg (Kd.R_ne VL.out V0.out (by decide))),mo1 (jqa VX.out hg (Kd.R_ne VL.out VX.out (by decide)))⟩
       have hm1:=jqa VM.out hg (Kd.R_ne VL.out VM.out (by decide))
       have cm1:w1.cell? ⟨m,2,none⟩=some (.slice Al lg.length cl):=mo2 hm1
       have fm1:=ja hm1 2
       have HM1:=am hm1
       have HO:=am ho
       have HG:=am hg
       clear hm1 ho hg hb hat
       refine hK _ _ ⟨hS2,?_⟩
       clear hK K
       refine wpAnyH_take (i:=9) (v:=?_) rfl (by kernel_rfl) (by kernel_rfl) (by kernel_rfl) (fun _ _ _ h=>h) (Or.inl ⟨by kernel_rfl,?_⟩) hS2 ?_
       rotate_left
       ·rintro W' ⟨s1,s2⟩
        go_simp
        with_reducible rfl
       refine wpAnyH_take (i:=10) (v:=?_) rfl (by kernel_rfl) (by kernel_rfl) (by kernel_rfl) (fun _ _ _ h=>h) (Or.inl ⟨by kernel_rfl,?_⟩) hS2 ?_
       rotate_left
       ·rintro W' ⟨s1,s2⟩
        go_simp
        with_reducible rfl
       refine wpAnyH_all (rs:=[11]) (by kernel_rfl) (by simp) ?_
       intro ii hii
       obtain rfl:ii=11:=by simpa using hii
       clear hii
       refine wpOp_step rfl (fun K hK=>?_)
       go_simp
       have HI2:=mIV_app (w1:=w1) (s:=(lg,H,f)) (by omega) V0.out VF.out VS.out VM.out VL.out VH.out VK.out HG.out HO.out
       have hX1:w1.heap[Bx]?=some (.cells #[.int .i64 x.f0, .int .i64 x.f1, .int .i64 x.f2] 44 (0,0)):=jqa VX.out HG.out (Kd.R_ne VL.out VX.out (by decide))
       have hXm:Bx≠m:=blk_ne hX1 HM1.out (by decide)
       refine hK _ _ ⟨⟨mo0 HI2.1.1.1.1,(World.cell?_setCell_far _ _ _ _ hXm.symm).trans hS2.2⟩,?_⟩
       clear hK K
       refine wpAnyH_done (by kernel_rfl) ?_ _
       exact ⟨hVK.trans (((jec VL.out HG.out).trans (KeepsOthers.setCell _ _ _)).from _),fun _=>IR.out _ _ HI2,by show mIV w m (w.heap.size+1+1) Bs (.slice A1 l1.length c1) At ct t cp fst _ (mAcc s0 (pre ++ [⟨(ix,x),hx⟩]));rw [HF.out];exact HI2⟩
     ·have HF:=am (show mAcc s0 (pre ++ [⟨(ix,x),hx⟩])=(lg,H,f) by rw [HSN.out];unfold stT;simp only [];rw [if_neg (show ¬ x.f0=0 by omega)];rw [if_pos hk,if_neg hf])
      have f0:(x.f0 == 0)=false:=by simp [hk]
      have f1:(x.f0 == 1)=true:=by simp [hk]
      have f2:(x.f0 == 2)=false:=by simp [hk]
      have f3:(x.f0 == 3)=false:=by simp [hk]
      have q0:=dzF (show ¬ f≥0 by omega)
      clear hk
      gi_wp2
      exact ⟨(KeepsOthers.refl _).from _,fun h=>h,by show mIV w m (w.heap.size+1+1) Bs (.slice A1 l1.length c1) At ct t cp fst _ (mAcc s0 (pre ++ [⟨(ix,x),hx⟩]));rw [HF.out];exact HI.out⟩
    ·have g1:=hk
     clear hk
     by_cases hk:x.f0=2
     ·by_cases hf:0≤f
      ·obtain ⟨i,hi⟩:∃ i:Nat,f=(i:Int):=⟨f.toNat,by omega⟩
       obtain ⟨ga,gb,g2,g3⟩:=HGH.out i (by omega)
       rw [← hi] at g2 g3
       clear ga gb hi i
       have hb:∃ bb,jMa.f k t (jl H f).f0 x.f1=some bb:=by
        have h:=HX.out
        unfold okX at h
        rw [if_pos hk] at h
        simp only [List.all_eq_true,List.mem_range] at h
        have:=h ((jl H f).f0).toNat (by omega)
        rw [show (((jl H f).f0).toNat:Int)=(jl H f).f0 by omega] at this
        exact Option.isSome_iff_exists.1 this
       obtain ⟨bb,hbb⟩:=hb
       have hT:isT k t (jl H f).f0 x.f1=bb:=by unfold isT;rw [hbb];rfl
       have HF:=am (show mAcc s0 (pre ++ [⟨(ix,x),hx⟩])=(lg,H,if bb=true then -1 else f) by rw [HSN.out];unfold stT;simp only [];rw [if_neg (show ¬ x.f0=0 by omega)];rw [if_neg (show ¬ x.f0=1 by omega)];rw [if_pos hk,dzT hf,Bool.true_and,hT])
       have f0:(x.f0 == 0)=false:=by simp [hk]
       have f1:(x.f0 == 1)=false:=by simp [hk]
       have f2:(x.f0 == 2)=true:=by simp [hk]
       have f3:(x.f0 == 3)=false:=by simp [hk]
       have q0:=dzT (show f≥0 by omega)
       have p0:=ezT hf
       have p1:=ezT hhi
       have hI2:=HI.out
       obtain ⟨⟨⟨⟨i0,iF⟩,iS⟩,vl,vh,im,iL,iH⟩,iK⟩:=hI2
       obtain ⟨gg,cc,e1,hbg,hgw,cells,hgc⟩:=Kd.R_form iH (by simp only;omega)
       simp only at e1
       subst e1
       obtain ⟨_,_,_,_,k0⟩:=mh_st3 iH hf hhi 0
       have cm0:W.cell? ⟨m,0,none⟩=some (.slice At t.length ct):=mo0 im
       have cm3:W.cell? ⟨m,3,none⟩=some (.slice (some ⟨gg,0,none⟩) H.length cc):=mo3 im
       have KT:=am (fun (W':World) (hb:Below W.heap.size W W')=>jMa.calls k At ct t _ _ bb W' (Kd.jZ (HRT.out W iK.1) hb) hcT hbb)
       clear hk i0 iF iS im iL iH iK g2 g3 hT hbb hgc hbg hgw cells
       gi_wp2
       refine jVb (S:=(fun W':World=>W'.cell? ⟨w.heap.size+1+1,0,none⟩=some (.int .i64 f)∧W'.cell? ⟨w.heap.size,0,none⟩=some (.pointer (some ⟨m,0,none⟩))∧W'.cell? ⟨Bx,1,none⟩=some (.int .i64 x.f1)∧W'.cell? ⟨m,0,none⟩=some (.slice At t.length ct)∧W'.cell? ⟨m,3,none⟩=some (.slice (some ⟨gg,0,none⟩) H.length cc)∧W'.cell? ⟨gg,f.toNat * 5,none⟩=some (.int .i64 (jl H f).f0))) hmx (by kernel_rfl) ?hL ?_
       case hL=>rintro ⟨_,_,h⟩;exact h
       change wpAnyH _ _ _ _ _ _ _ _ (World.drew W)
       have hS0:(fun W':World=>W'.cell? ⟨w.heap.size+1+1,0,none⟩=some (.int .i64 f)∧W'.cell? ⟨w.heap.size,0,none⟩=some (.pointer (some ⟨m,0,none⟩))∧W'.cell? ⟨Bx,1,none⟩=some (.int .i64 x.f1)∧W'.cell? ⟨m,0,none⟩=some (.slice At t.length ct)∧W'.cell? ⟨m,3,none⟩=some (.slice (some ⟨gg,0,none⟩) H.length cc)∧W'.cell? ⟨gg,f.toNat * 5,none⟩=some (.int .i64 (jl H f).f0)) (World.drew W):=⟨cF,c0,x1,cm0,cm3,k0⟩
       refine jxb (i:=0) (v:=.int .i64 f) (a':={ tmps:=#[.pointer (some ⟨m,0,none⟩), .slice A1 l1.length c1, .agg #[.bool a, .int .i64 b, .int .i64 c], .pointer (some ⟨w.heap.size,0,none⟩),undef, .pointer (some ⟨w.heap.size+1,0,none⟩), .int .i64 0, .pointer (some ⟨w.heap.size+1+1,0,none⟩),undef, .pointer (some ⟨Bx,0,none⟩), .pointer (some ⟨w.heap.size+1,0,none⟩), .bool a,u12,u13,u14,u15,u16,u17, .slice A1 l1.length c1, .func (.func 105) #[] #[.pointer (some ⟨Bs,0,none⟩)], .int .i64 ix, .agg #[.int .i64 x.f0, .int .i64 x.f1, .int .i64 x.f2], .pointer (some ⟨Bx,0,none⟩), .int .i64 x.f0, .bool false, .bool false,u26,u27,u28,u29,u30,u31,u32,u33,u34,u35,u36, .bool false, .bool false,u39,u40,u41,u42,u43,u44,u45,u46,u47,u48,u49,u50,u51, .bool true, .bool true, .int .i64 f,u55,u56,u57,u58,u59,u60,u61,u62,u63,u64,u65,u66,u67,u68,u69,u70,u71,u72,u73,u74,u75,u76,u77,u78,u79,u80,u81,u82,u83],defers:=[] }) rfl (by kernel_rfl) (by kernel_rfl) (by kernel_rfl) (fun _ _ _ h=>h) (Or.inl ⟨by kernel_rfl,?_⟩) hS0 (by kernel_rfl) ?_
       ·rintro W' ⟨s1,s2,s3,s4,s5,s6⟩
        go_simp
        try with_reducible rfl
       refine jxb (i:=1) (v:=.bool true) (a':={ tmps:=#[.pointer (some ⟨m,0,none⟩), .slice A1 l1.length c1, .agg #[.bool a, .int .i64 b, .int .i64 c], .pointer (some ⟨w.heap.size,0,none⟩),undef, .pointer (some ⟨w.heap.size+1,0,none⟩), .int .i64 0, .pointer (some ⟨w.heap.size+1+1,0,none⟩),undef, .pointer (some ⟨Bx,0,none⟩), .pointer (some ⟨w.heap.size+1,0,none⟩), .bool a,u12,u13,u14,u15,u16,u17, .slice A1 l1.length c1, .func (.func 105) #[] #[.pointer (some ⟨Bs,0,none⟩)], .int .i64 ix, .agg #[.int .i64 x.f0, .int .i64 x.f1, .int .i64 x.f2], .pointer (some ⟨Bx,0,none⟩), .int .i64 x.f0, .bool false, .bool false,u26,u27,u28,u29,u30,u31,u32,u33,u34,u35,u36, .bool false, .bool false,u39,u40,u41,u42,u43,u44,u45,u46,u47,u48,u49,u50,u51, .bool true, .bool true, .int .i64 f, .bool true,u56,u57,u58,u59,u60,u61,u62,u63,u64,u65,u66,u67,u68,u69,u70,u71,u72,u73,u74,u75,u76,u77,u78,u79,u80,u81,u82,u83],defers:=[] }) rfl (by kernel_rfl) (by kernel_rfl) (by kernel_rfl) (fun _ _ _ h=>h) (Or.inl ⟨by kernel_rfl,?_⟩) hS0 (by kernel_rfl) ?_
       ·rintro W' ⟨s1,s2,s3,s4,s5,s6⟩
        go_simp
        try with_reducible rfl
       refine jxb (i:=2) (v:=.bool true) (a':={ tmps:=#[.pointer (some ⟨m,0,none⟩), .slice A1 l1.length c1, .agg #[.bool a, .int .i64 b, .int .i64 c], .pointer (some ⟨w.heap.size,0,none⟩),undef, .pointer (some ⟨w.heap.size+1,0,none⟩), .int .i64 0, .pointer (some ⟨w.heap.size+1+1,0,none⟩),undef, .pointer (some ⟨Bx,0,none⟩), .pointer (some ⟨w.heap.size+1,0,none⟩), .bool a,u12,u13,u14,u15,u16,u17, .slice A1 l1.length c1, .func (.func 105) #[] #[.pointer (some ⟨Bs,0,none⟩)], .int .i64 ix, .agg #[.int .i64 x.f0, .int .i64 x.f1, .int .i64 x.f2], .pointer (some ⟨Bx,0,none⟩), .int .i64 x.f0, .bool false, .bool false,u26,u27,u28,u29,u30,u31,u32,u33,u34,u35,u36, .bool false, .bool false,u39,u40,u41,u42,u43,u44,u45,u46,u47,u48,u49,u50,u51, .bool true, .bool true, .int .i64 f, .bool true, .bool true,u57,u58,u59,u60,u61,u62,u63,u64,u65,u66,u67,u68,u69,u70,u71,u72,u73,u74,u75,u76,u77,u78,u79,u80,u81,u82,u83],defers:=[] }) rfl (by kernel_rfl) (by kernel_rfl) (by kernel_rfl) (fun _ _ _ h=>h) (Or.inl ⟨by kernel_rfl,?_⟩) hS0 (by kernel_rfl) ?_
       ·rintro W' ⟨s1,s2,s3,s4,s5,s6⟩
        go_simp
        try with_reducible rfl
       refine jxb (i:=3) (v:=.pointer (some ⟨m,0,none⟩)) (a':={ tmps:=#[.pointer (some ⟨m,0,none⟩), .slice A1 l1.length c1, .agg #[.bool a, .int .i64 b, .int .i64 c], .pointer (some ⟨w.heap.size,0,none⟩),undef, .pointer (some ⟨w.heap.size+1,0,none⟩), .int .i64 0, .pointer (some ⟨w.heap.size+1+1,0,none⟩),undef, .pointer (some ⟨Bx,0,none⟩), .pointer (some ⟨w.heap.size+1,0,none⟩), .bool a,u12,u13,u14,u15,u16,u17, .slice A1 l1.length c1, .func (.func 105) #[] #[.pointer (some ⟨Bs,0,none⟩)], .int .i64 ix, .agg #[.int .i64 x.f0, .int .i64 x.f1, .int .i64 x.f2], .pointer (some ⟨Bx,0,none⟩), .int .i64 x.f0, .bool false, .bool false,u26,u27,u28,u29,u30,u31,u32,u33,u34,u35,u36, .bool false, .bool false,u39,u40,u41,u42,u43,u44,u45,u46,u47,u48,u49,u50,u51, .bool true, .bool true, .int .i64 f, .bool true, .bool true, .pointer (some ⟨m,0,none⟩),u58,u59,u60,u61,u62,u63,u64,u65,u66,u67,u68,u69,u70,u71,u72,u73,u74,u75,u76,u77,u78,u79,u80,u81,u82,u83],defers:=[] }) rfl (by kernel_rfl) (by kernel_rfl) (by kernel_rfl) (fun _ _ _ h=>h) (Or.inl ⟨by kernel_rfl,?_⟩) hS0 (by kernel_rfl) ?_
       ·rintro W' ⟨s1,s2,s3,s4,s5,s6⟩
        go_simp
        try with_reducible rfl
       refine jxb (i:=4) (v:=.pointer (some ⟨m,0,none⟩)) (a':={ tmps:=#[.pointer (some ⟨m,0,none⟩), .slice A1 l1.length c1, .agg #[.bool a, .int .i64 b, .int .i64 c], .pointer (some ⟨w.heap.size,0,none⟩),undef, .pointer (some ⟨w.heap.size+1,0,none⟩), .int .i64 0, .pointer (some ⟨w.heap.size+1+1,0,none⟩),undef, .pointer (some ⟨Bx,0,none⟩), .pointer (some ⟨w.heap.size+1,0,none⟩), .bool a,u12,u13,u14,u15,u16,u17, .slice A1 l1.length c1, .func (.func 105) #[] #[.pointer (some ⟨Bs,0,none⟩)], .int .i64 ix, .agg #[.int .i64 x.f0, .int .i64 x.f1, .int .i64 x.f2], .pointer (some ⟨Bx,0,none⟩), .int .i64 x.f0, .bool false, .bool false,u26,u27,u28,u29,u30,u31,u32,u33,u34,u35,u36, .bool false, .bool false,u39,u40,u41,u42,u43,u44,u45,u46,u47,u48,u49,u50,u51, .bool true, .bool true, .int .i64 f, .bool true, .bool true, .pointer (some ⟨m,0,none⟩), .pointer (some ⟨m,0,none⟩),u59,u60,u61,u62,u63,u64,u65,u66,u67,u68,u69,u70,u71,u72,u73,u74,u75,u76,u77,u78,u79,u80,u81,u82,u83],defers:=[] }) rfl (by kernel_rfl) (by kernel_rfl) (by kernel_rfl) (fun _ _ _ h=>h) (Or.inl ⟨by kernel_rfl,?_⟩) hS0 (by kernel_rfl) ?_
       ·rintro W' ⟨s1,s2,s3,s4,s5,s6⟩
        go_simp
        try with_reducible rfl
       refine jxb (i:=5) (v:=.pointer (some ⟨m,0,none⟩)) (a':={ tmps:=#[.pointer (some ⟨m,0,none⟩), .slice A1 l1.length c1, .agg #[.bool a, .int .i64 b, .int .i64 c], .pointer (some ⟨w.heap.size,0,none⟩),undef, .pointer (some ⟨w.heap.size+1,0,none⟩), .int .i64 0, .pointer (some ⟨w.heap.size+1+1,0,none⟩),undef, .pointer (some ⟨Bx,0,none⟩), .pointer (some ⟨w.heap.size+1,0,none⟩), .bool a,u12,u13,u14,u15,u16,u17, .slice A1 l1.length c1, .func (.func 105) #[] #[.pointer (some ⟨Bs,0,none⟩)], .int .i64 ix, .agg #[.int .i64 x.f0, .int .i64 x.f1, .int .i64 x.f2], .pointer (some ⟨Bx,0,none⟩), .int .i64 x.f0, .bool false, .bool false,u26,u27,u28,u29,u30,u31,u32,u33,u34,u35,u36, .bool false, .bool false,u39,u40,u41,u42,u43,u44,u45,u46,u47,u48,u49,u50,u51, .bool true, .bool true, .int .i64 f, .bool true, .bool true, .pointer (some ⟨m,0,none⟩), .pointer (some ⟨m,0,none⟩), .pointer (some ⟨m,0,none⟩),u60,u61,u62,u63,u64,u65,u66,u67,u68,u69,u70,u71,u72,u73,u74,u75,u76,u77,u78,u79,u80,u81,u82,u83],defers:=[] }) rfl (by kernel_rfl) (by kernel_rfl) (by kernel_rfl) (fun _ _ _ h=>h) (Or.inl ⟨by kernel_rfl,?_⟩) hS0 (by kernel_rfl) ?_
       ·rintro W' ⟨s1,s2,s3,s4,s5,s6⟩
        go_simp
        try with_reducible rfl
       refine jxb (i:=6) (v:=.agg #[.slice At t.length ct]) (a':={ tmps:=#[.pointer (some ⟨m,0,none⟩), .slice A1 l1.length c1, .agg #[.bool a, .int .i64 b, .int .i64 c], .pointer (some ⟨w.heap.size,0,none⟩),undef, .pointer (some ⟨w.heap.size+1,0,none⟩), .int .i64 0, .pointer (some ⟨w.heap.size+1+1,0,none⟩),undef, .pointer (some ⟨Bx,0,none⟩), .pointer (some ⟨w.heap.size+1,0,none⟩), .bool a,u12,u13,u14,u15,u16,u17, .slice A1 l1.length c1, .func (.func 105) #[] #[.pointer (some ⟨Bs,0,none⟩)], .int .i64 ix, .agg #[.int .i64 x.f0, .int .i64 x.f1, .int .i64 x.f2], .pointer (some ⟨Bx,0,none⟩), .int .i64 x.f0, .bool false, .bool false,u26,u27,u28,u29,u30,u31,u32,u33,u34,u35,u36, .bool false, .bool false,u39,u40,u41,u42,u43,u44,u45,u46,u47,u48,u49,u50,u51, .bool true, .bool true, .int .i64 f, .bool true, .bool true, .pointer (some ⟨m,0,none⟩), .pointer (some ⟨m,0,none⟩), .pointer (some ⟨m,0,none⟩), .agg #[.slice At t.length ct],u61,u62,u63,u64,u65,u66,u67,u68,u69,u70,u71,u72,u73,u74,u75,u76,u77,u78,u79,u80,u81,u82,u83],defers:=[] }) rfl (by kernel_rfl) (by kernel_rfl) (by kernel_rfl) (fun _ _ _ h=>h) (Or.inl ⟨by kernel_rfl,?_⟩) hS0 (by kernel_rfl) ?_
       ·rintro W' ⟨s1,s2,s3,s4,s5,s6⟩
        go_simp
        try with_reducible rfl
       refine jxb (i:=7) (v:=.pointer (some ⟨m,0,none⟩)) (a':={ tmps:=#[.pointer (some ⟨m,0,none⟩), .slice A1 l1.length c1, .agg #[.bool a, .int .i64 b, .int .i64 c], .pointer (some ⟨w.heap.size,0,none⟩),undef, .pointer (some ⟨w.heap.size+1,0,none⟩), .int .i64 0, .pointer (some ⟨w.heap.size+1+1,0,none⟩),undef, .pointer (some ⟨Bx,0,none⟩), .pointer (some ⟨w.heap.size+1,0,none⟩), .bool a,u12,u13,u14,u15,u16,u17, .slice A1 l1.length c1, .func (.func 105) #[] #[.pointer (some ⟨Bs,0,none⟩)], .int .i64 ix, .agg #[.int .i64 x.f0, .int .i64 x.f1, .int .i64 x.f2], .pointer (some ⟨Bx,0,none⟩), .int .i64 x.f0, .bool false, .bool false,u26,u27,u28,u29,u30,u31,u32,u33,u34,u35,u36, .bool false, .bool false,u39,u40,u41,u42,u43,u44,u45,u46,u47,u48,u49,u50,u51, .bool true, .bool true, .int .i64 f, .bool true, .bool true, .pointer (some ⟨m,0,none⟩), .pointer (some ⟨m,0,none⟩), .pointer (some ⟨m,0,none⟩), .agg #[.slice At t.length ct], .pointer (some ⟨m,0,none⟩),u62,u63,u64,u65,u66,u67,u68,u69,u70,u71,u72,u73,u74,u75,u76,u77,u78,u79,u80,u81,u82,u83],defers:=[] }) rfl (by kernel_rfl) (by kernel_rfl) (by kernel_rfl) (fun _ _ _ h=>h) (Or.inl ⟨by kernel_rfl,?_⟩) hS0 (by kernel_rfl) ?_
       ·rintro W' ⟨s1,s2,s3,s4,s5,s6⟩
        go_simp
        try with_reducible rfl
       refine jxb (i:=8) (v:=.pointer (some ⟨m,0,none⟩)) (a':={ tmps:=#[.pointer (some ⟨m,0,none⟩), .slice A1 l1.length c1, .agg #[.bool a, .int .i64 b, .int .i64 c], .pointer (some ⟨w.heap.size,0,none⟩),undef, .pointer (some ⟨w.heap.size+1,0,none⟩), .int .i64 0, .pointer (some ⟨w.heap.size+1+1,0,none⟩),undef, .pointer (some ⟨Bx,0,none⟩), .pointer (some ⟨w.heap.size+1,0,none⟩), .bool a,u12,u13,u14,u15,u16,u17, .slice A1 l1.length c1, .func (.func 105) #[] #[.pointer (some ⟨Bs,0,none⟩)], .int .i64 ix, .agg #[.int .i64 x.f0, .int .i64 x.f1, .int .i64 x.f2], .pointer (some ⟨Bx,0,none⟩), .int .i64 x.f0, .bool false, .bool false,u26,u27,u28,u29,u30,u31,u32,u33,u34,u35,u36, .bool false, .bool false,u39,u40,u41,u42,u43,u44,u45,u46,u47,u48,u49,u50,u51, .bool true, .bool true, .int .i64 f, .bool true, .bool true, .pointer (some ⟨m,0,none⟩), .pointer (some ⟨m,0,none⟩), .pointer (some ⟨m,0,none⟩), .agg #[.slice At t.length ct], .pointer (some ⟨m,0,none⟩), .pointer (some ⟨m,0,none⟩),u63,u64,u65,u66,u67,u68,u69,u70,u71,u72,u73,u74,u75,u76,u77,u78,u79,u80,u81,u82,u83],defers:=[] }) rfl (by kernel_rfl) (by kernel_rfl) (by kernel_rfl) (fun _ _ _ h=>h) (Or.inl ⟨by kernel_rfl,?_⟩) hS0 (by kernel_rfl) ?_
       ·rintro W' ⟨s1,s2,s3,s4,s5,s6⟩
        go_simp
        try with_reducible rfl
       refine jxb (i:=9) (v:=.pointer (some ⟨m,3,none⟩)) (a':={ tmps:=#[.pointer (some ⟨m,0,none⟩), .slice A1 l1.length c1, .agg #[.bool a, .int .i64 b, .int .i64 c], .pointer (some ⟨w.heap.size,0,none⟩),undef, .pointer (some ⟨w.heap.size+1,0,none⟩), .int .i64 0, .pointer (some ⟨w.heap.size+1+1,0,none⟩),undef, .pointer (some ⟨Bx,0,none⟩), .pointer (some ⟨w.heap.size+1,0,none⟩), .bool a,u12,u13,u14,u15,u16,u17, .slice A1 l1.length c1, .func (.func 105) #[] #[.pointer (some ⟨Bs,0,none⟩)], .int .i64 ix, .agg #[.int .i64 x.f0, .int .i64 x.f1, .int .i64 x.f2], .pointer (some ⟨Bx,0,none⟩), .int .i64 x.f0, .bool false, .bool false,u26,u27,u28,u29,u30,u31,u32,u33,u34,u35,u36, .bool false, .bool false,u39,u40,u41,u42,u43,u44,u45,u46,u47,u48,u49,u50,u51, .bool true, .bool true, .int .i64 f, .bool true, .bool true, .pointer (some ⟨m,0,none⟩), .pointer (some ⟨m,0,none⟩), .pointer (some ⟨m,0,none⟩), .agg #[.slice At t.length ct], .pointer (some ⟨m,0,none⟩), .pointer (some ⟨m,0,none⟩), .pointer (some ⟨m,3,none⟩),u64,u65,u66,u67,u68,u69,u70,u71,u72,u73,u74,u75,u76,u77,u78,u79,u80,u81,u82,u83],defers:=[] }) rfl (by kernel_rfl) (by kernel_rfl) (by kernel_rfl) (fun _ _ _ h=>h) (Or.inl ⟨by kernel_rfl,?_⟩) hS0 (by kernel_rfl) ?_
       ·rintro W' ⟨s1,s2,s3,s4,s5,s6⟩
        go_simp
        try with_reducible rfl
       refine jxb (i:=10) (v:=.pointer (some ⟨m,3,none⟩)) (a':={ tmps:=#[.pointer (some ⟨m,0,none⟩), .slice A1 l1.length c1, .agg #[.bool a, .int .i64 b, .int .i64 c], .pointer (some ⟨w.heap.size,0,none⟩),undef, .pointer (some ⟨w.heap.size+1,0,none⟩), .int .i64 0, .pointer (some ⟨w.heap.size+1+1,0,none⟩),undef, .pointer (some ⟨Bx,0,none⟩), .pointer (some ⟨w.heap.size+1,0,none⟩), .bool a,u12,u13,u14,u15,u16,u17, .slice A1 l1.length c1, .func (.func 105) #[] #[.pointer (some ⟨Bs,0,none⟩)], .int .i64 ix, .agg #[.int .i64 x.f0, .int .i64 x.f1, .int .i64 x.f2], .pointer (some ⟨Bx,0,none⟩), .int .i64 x.f0, .bool false, .bool false,u26,u27,u28,u29,u30,u31,u32,u33,u34,u35,u36, .bool false, .bool false,u39,u40,u41,u42,u43,u44,u45,u46,u47,u48,u49,u50,u51, .bool true, .bool true, .int .i64 f, .bool true, .bool true, .pointer (some ⟨m,0,none⟩), .pointer (some ⟨m,0,none⟩), .pointer (some ⟨m,0,none⟩), .agg #[.slice At t.length ct], .pointer (some ⟨m,0,none⟩), .pointer (some ⟨m,0,none⟩), .pointer (some ⟨m,3,none⟩), .pointer (some ⟨m,3,none⟩),u65,u66,u67,u68,u69,u70,u71,u72,u73,u74,u75,u76,u77,u78,u79,u80,u81,u82,u83],defers:=[] }) rfl (by kernel_rfl) (by kernel_rfl) (by kernel_rfl) (fun _ _ _ h=>h) (Or.inl ⟨by kernel_rfl,?_⟩) hS0 (by kernel_rfl) ?_
       ·rintro W' ⟨s1,s2,s3,s4,s5,s6⟩
        go_simp
        try with_reducible rfl
       refine jxb (i:=11) (v:=.slice (some ⟨gg,0,none⟩) H.length cc) (a':={ tmps:=#[.pointer (some ⟨m,0,none⟩), .slice A1 l1.length c1, .agg #[.bool a, .int .i64 b, .int .i64 c], .pointer (some ⟨w.heap.size,0,none⟩),undef, .pointer (some ⟨w.heap.size+1,0,none⟩), .int .i64 0, .pointer (some ⟨w.heap.size+1+1,0,none⟩),undef, .pointer (some ⟨Bx,0,none⟩), .pointer (some ⟨w.heap.size+1,0,none⟩), .bool a,u12,u13,u14,u15,u16,u17, .slice A1 l1.length c1, .func (.func 105) #[] #[.pointer (some ⟨Bs,0,none⟩)], .int .i64 ix, .agg #[.int .i64 x.f0, .int .i64 x.f1, .int .i64 x.f2], .pointer (some ⟨Bx,0,none⟩), .int .i64 x.f0, .bool false, .bool false,u26,u27,u28,u29,u30,u31,u32,u33,u34,u35,u36, .bool false, .bool false,u39,u40,u41,u42,u43,u44,u45,u46,u47,u48,u49,u50,u51, .bool true, .bool true, .int .i64 f, .bool true, .bool true, .pointer (some ⟨m,0,none⟩), .pointer (some ⟨m,0,none⟩), .pointer (some ⟨m,0,none⟩), .agg #[.slice At t.length ct], .pointer (some ⟨m,0,none⟩), .pointer (some ⟨m,0,none⟩), .pointer (some ⟨m,3,none⟩), .pointer (some ⟨m,3,none⟩), .slice (some ⟨gg,0,none⟩) H.length cc,u66,u67,u68,u69,u70,u71,u72,u73,u74,u75,u76,u77,u78,u79,u80,u81,u82,u83],defers:=[] }) rfl (by kernel_rfl) (by kernel_rfl) (by kernel_rfl) (fun _ _ _ h=>h) (Or.inl ⟨by kernel_rfl,?_⟩) hS0 (by kernel_rfl) ?_
       ·rintro W' ⟨s1,s2,s3,s4,s5,s6⟩
        go_simp
        try with_reducible rfl
       refine jxb (i:=12) (v:=.int .i64 f) (a':={ tmps:=#[.pointer (some ⟨m,0,none⟩), .slice A1 l1.length c1, .agg #[.bool a, .int .i64 b, .int .i64 c], .pointer (some ⟨w.heap.size,0,none⟩),undef, .pointer (some ⟨w.heap.size+1,0,none⟩), .int .i64 0, .pointer (some ⟨w.heap.size+1+1,0,none⟩),undef, .pointer (some ⟨Bx,0,none⟩), .pointer (some ⟨w.heap.size+1,0,none⟩), .bool a,u12,u13,u14,u15,u16,u17, .slice A1 l1.length c1, .func (.func 105) #[] #[.pointer (some ⟨Bs,0,none⟩)], .int .i64 ix, .agg #[.int .i64 x.f0, .int .i64 x.f1, .int .i64 x.f2], .pointer (some ⟨Bx,0,none⟩), .int .i64 x.f0, .bool false, .bool false,u26,u27,u28,u29,u30,u31,u32,u33,u34,u35,u36, .bool false, .bool false,u39,u40,u41,u42,u43,u44,u45,u46,u47,u48,u49,u50,u51, .bool true, .bool true, .int .i64 f, .bool true, .bool true, .pointer (some ⟨m,0,none⟩), .pointer (some ⟨m,0,none⟩), .pointer (some ⟨m,0,none⟩), .agg #[.slice At t.length ct], .pointer (some ⟨m,0,none⟩), .pointer (some ⟨m,0,none⟩), .pointer (some ⟨m,3,none⟩), .pointer (some ⟨m,3,none⟩), .slice (some ⟨gg,0,none⟩) H.length cc, .int .i64 f,u67,u68,u69,u70,u71,u72,u73,u74,u75,u76,u77,u78,u79,u80,u81,u82,u83],defers:=[] }) rfl (by kernel_rfl) (by kernel_rfl) (by kernel_rfl) (fun _ _ _ h=>h) (Or.inl ⟨by kernel_rfl,?_⟩) hS0 (by kernel_rfl) ?_
       ·rintro W' ⟨s1,s2,s3,s4,s5,s6⟩
        go_simp
        try with_reducible rfl
       refine jxb (i:=13) (v:=.pointer (some ⟨gg,f.toNat * 5,none⟩)) (a':={ tmps:=#[.pointer (some ⟨m,0,none⟩), .slice A1 l1.length c1, .agg #[.bool a, .int .i64 b, .int .i64 c], .pointer (some ⟨w.heap.size,0,none⟩),undef, .pointer (some ⟨w.heap.size+1,0,none⟩), .int .i64 0, .pointer (some ⟨w.heap.size+1+1,0,none⟩),undef, .pointer (some ⟨Bx,0,none⟩), .pointer (some ⟨w.heap.size+1,0,none⟩), .bool a,u12,u13,u14,u15,u16,u17, .slice A1 l1.length c1, .func (.func 105) #[] #[.pointer (some ⟨Bs,0,none⟩)], .int .i64 ix, .agg #[.int .i64 x.f0, .int .i64 x.f1, .int .i64 x.f2], .pointer (some ⟨Bx,0,none⟩), .int .i64 x.f0, .bool false, .bool false,u26,u27,u28,u29,u30,u31,u32,u33,u34,u35,u36, .bool false, .bool false,u39,u40,u41,u42,u43,u44,u45,u46,u47,u48,u49,u50,u51, .bool true, .bool true, .int .i64 f, .bool true, .bool true, .pointer (some ⟨m,0,none⟩), .pointer (some ⟨m,0,none⟩), .pointer (some ⟨m,0,none⟩), .agg #[.slice At t.length ct], .pointer (some ⟨m,0,none⟩), .pointer (some ⟨m,0,none⟩), .pointer (some ⟨m,3,none⟩), .pointer (some ⟨m,3,none⟩), .slice (some ⟨gg,0,none⟩) H.length cc, .int .i64 f, .pointer (some ⟨gg,f.toNat * 5,none⟩),u68,u69,u70,u71,u72,u73,u74,u75,u76,u77,u78,u79,u80,u81,u82,u83],defers:=[] }) rfl (by kernel_rfl) (by kernel_rfl) (by kernel_rfl) (fun _ _ _ h=>h) (Or.inl ⟨by kernel_rfl,?_⟩) hS0 (by kernel_rfl) ?_
       ·rintro W' ⟨s1,s2,s3,s4,s5,s6⟩
        go_simp
        try with_reducible rfl
       refine jxb (i:=14) (v:=.pointer (some ⟨gg,f.toNat * 5,none⟩)) (a':={ tmps:=#[.pointer (some ⟨m,0,none⟩), .slice A1 l1.length c1, .agg #[.bool a, .int .i64 b, .int .i64 c], .pointer (some ⟨w.heap.size,0,none⟩),undef, .pointer (some ⟨w.heap.size+1,0,none⟩), .int .i64 0, .pointer (some ⟨w.heap.size+1+1,0,none⟩),undef, .pointer (some ⟨Bx,0,none⟩), .pointer (some ⟨w.heap.size+1,0,none⟩), .bool a,u12,u13,u14,u15,u16,u17, .slice A1 l1.length c1, .func (.func 105) #[] #[.pointer (some ⟨Bs,0,none⟩)], .int .i64 ix, .agg #[.int .i64 x.f0, .int .i64 x.f1, .int .i64 x.f2], .pointer (some ⟨Bx,0,none⟩), .int .i64 x.f0, .bool false, .bool false,u26,u27,u28,u29,u30,u31,u32,u33,u34,u35,u36, .bool false, .bool false,u39,u40,u41,u42,u43,u44,u45,u46,u47,u48,u49,u50,u51, .bool true, .bool true, .int .i64 f, .bool true, .bool true, .pointer (some ⟨m,0,none⟩), .pointer (some ⟨m,0,none⟩), .pointer (some ⟨m,0,none⟩), .agg #[.slice At t.length ct], .pointer (some ⟨m,0,none⟩), .pointer (some ⟨m,0,none⟩), .pointer (some ⟨m,3,none⟩), .pointer (some ⟨m,3,none⟩), .slice (some ⟨gg,0,none⟩) H.length cc, .int .i64 f, .pointer (some ⟨gg,f.toNat * 5,none⟩), .pointer (some ⟨gg,f.toNat * 5,none⟩),u69,u70,u71,u72,u73,u74,u75,u76,u77,u78,u79,u80,u81,u82,u83],defers:=[] }) rfl (by kernel_rfl) (by kernel_rfl) (by kernel_rfl) (fun _ _ _ h=>h) (Or.inl ⟨by kernel_rfl,?_⟩) hS0 (by kernel_rfl) ?_
       ·rintro W' ⟨s1,s2,s3,s4,s5,s6⟩
        go_simp
        try with_reducible rfl
       refine jxb (i:=15) (v:=.int .i64 (jl H f).f0) (a':={ tmps:=#[.pointer (some ⟨m,0,none⟩), .slice A1 l1.length c1, .agg #[.bool a, .int .i64 b, .int .i64 c], .pointer (some ⟨w.heap.size,0,none⟩),undef, .pointer (some ⟨w.heap.size+1,0,none⟩), .int .i64 0, .pointer (some ⟨w.heap.size+1+1,0,none⟩),undef, .pointer (some ⟨Bx,0,none⟩), .pointer (some ⟨w.heap.size+1,0,none⟩), .bool a,u12,u13,u14,u15,u16,u17, .slice A1 l1.length c1, .func (.func 105) #[] #[.pointer (some ⟨Bs,0,none⟩)], .int .i64 ix, .agg #[.int .i64 x.f0, .int .i64 x.f1, .int .i64 x.f2], .pointer (some ⟨Bx,0,none⟩), .int .i64 x.f0, .bool false, .bool false,u26,u27,u28,u29,u30,u31,u32,u33,u34,u35,u36, .bool false, .bool false,u39,u40,u41,u42,u43,u44,u45,u46,u47,u48,u49,u50,u51, .bool true, .bool true, .int .i64 f, .bool true, .bool true, .pointer (some ⟨m,0,none⟩), .pointer (some ⟨m,0,none⟩), .pointer (some ⟨m,0,none⟩), .agg #[.slice At t.length ct], .pointer (some ⟨m,0,none⟩), .pointer (some ⟨m,0,none⟩), .pointer (some ⟨m,3,none⟩), .pointer (some ⟨m,3,none⟩), .slice (some ⟨gg,0,none⟩) H.length cc, .int .i64 f, .pointer (some ⟨gg,f.toNat * 5,none⟩), .pointer (some ⟨gg,f.toNat * 5,none⟩), .int .i64 (jl H f).f0,u70,u71,u72,u73,u74,u75,u76,u77,u78,u79,u80,u81,u82,u83],defers:=[] }) rfl (by kernel_rfl) (by kernel_rfl) (by kernel_rfl) (fun _ _ _ h=>h) (Or.inl ⟨by kernel_rfl,?_⟩) hS0 (by kernel_rfl) ?_
       ·rintro W' ⟨s1,s2,s3,s4,s5,s6⟩
        go_simp
        try with_reducible rfl
       refine jxb (i:=16) (v:=.pointer (some ⟨Bx,1,none⟩)) (a':={ tmps:=#[.pointer (some ⟨m,0,none⟩), .slice A1 l1.length c1, .agg #[.bool a, .int .i64 b, .int .i64 c], .pointer (some ⟨w.heap.size,0,none⟩),undef, .pointer (some ⟨w.heap.size+1,0,none⟩), .int .i64 0, .pointer (some ⟨w.heap.size+1+1,0,none⟩),undef, .pointer (some ⟨Bx,0,none⟩), .pointer (some ⟨w.heap.size+1,0,none⟩), .bool a,u12,u13,u14,u15,u16,u17, .slice A1 l1.length c1, .func (.func 105) #[] #[.pointer (some ⟨Bs,0,none⟩)], .int .i64 ix, .agg #[.int .i64 x.f0, .int .i64 x.f1, .int .i64 x.f2], .pointer (some ⟨Bx,0,none⟩), .int .i64 x.f0, .bool false, .bool false,u26,u27,u28,u29,u30,u31,u32,u33,u34,u35,u36, .bool false, .bool false,u39,u40,u41,u42,u43,u44,u45,u46,u47,u48,u49,u50,u51, .bool true, .bool true, .int .i64 f, .bool true, .bool true, .pointer (some ⟨m,0,none⟩), .pointer (some ⟨m,0,none⟩), .pointer (some ⟨m,0,none⟩), .agg #[.slice At t.length ct], .pointer (some ⟨m,0,none⟩), .pointer (some ⟨m,0,none⟩), .pointer (some ⟨m,3,none⟩), .pointer (some ⟨m,3,none⟩), .slice (some ⟨gg,0,none⟩) H.length cc, .int .i64 f, .pointer (some ⟨gg,f.toNat * 5,none⟩), .pointer (some ⟨gg,f.toNat * 5,none⟩), .int .i64 (jl H f).f0, .pointer (some ⟨Bx,1,none⟩),u71,u72,u73,u74,u75,u76,u77,u78,u79,u80,u81,u82,u83],defers:=[] }) rfl (by kernel_rfl) (by kernel_rfl) (by kernel_rfl) (fun _ _ _ h=>h) (Or.inl ⟨by kernel_rfl,?_⟩) hS0 (by kernel_rfl) ?_
       ·rintro W' ⟨s1,s2,s3,s4,s5,s6⟩
        go_simp
        try with_reducible rfl
       refine jxb (i:=17) (v:=.int .i64 x.f1) (a':={ tmps:=#[.pointer (some ⟨m,0,none⟩), .slice A1 l1.length c1, .agg #[.bool a, .int .i64 b, .int .i64 c], .pointer (some ⟨w.heap.size,0,none⟩),undef, .pointer (some ⟨w.heap.size+1,0,none⟩), .int .i64 0, .pointer (some ⟨w.heap.size+1+1,0,none⟩),undef, .pointer (some ⟨Bx,0,none⟩), .pointer (some ⟨w.heap.size+1,0,none⟩), .bool a,u12,u13,u14,u15,u16,u17, .slice A1 l1.length c1, .func (.func 105) #[] #[.pointer (some ⟨Bs,0,none⟩)], .int .i64 ix, .agg #[.int .i64 x.f0, .int .i64 x.f1, .int .i64 x.f2], .pointer (some ⟨Bx,0,none⟩), .int .i64 x.f0, .bool false, .bool false,u26,u27,u28,u29,u30,u31,u32,u33,u34,u35,u36, .bool false, .bool false,u39,u40,u41,u42,u43,u44,u45,u46,u47,u48,u49,u50,u51, .bool true, .bool true, .int .i64 f, .bool true, .bool true, .pointer (some ⟨m,0,none⟩), .pointer (some ⟨m,0,none⟩), .pointer (some ⟨m,0,none⟩), .agg #[.slice At t.length ct], .pointer (some ⟨m,0,none⟩), .pointer (some ⟨m,0,none⟩), .pointer (some ⟨m,3,none⟩), .pointer (some ⟨m,3,none⟩), .slice (some ⟨gg,0,none⟩) H.length cc, .int .i64 f, .pointer (some ⟨gg,f.toNat * 5,none⟩), .pointer (some ⟨gg,f.toNat * 5,none⟩), .int .i64 (jl H f).f0, .pointer (some ⟨Bx,1,none⟩), .int .i64 x.f1,u72,u73,u74,u75,u76,u77,u78,u79,u80,u81,u82,u83],defers:=[] }) rfl (by kernel_rfl) (by kernel_rfl) (by kernel_rfl) (fun _ _ _ h=>h) (Or.inl ⟨by kernel_rfl,?_⟩) hS0 (by kernel_rfl) ?_
       ·rintro W' ⟨s1,s2,s3,s4,s5,s6⟩
        go_simp
        try with_reducible rfl
       refine wpAnyH_all (rs:=[18]) (by kernel_rfl) (by simp) ?_
       intro ii hii
       obtain rfl:ii=18:=by simpa using hii
       clear hii
       refine wpOp_step rfl (fun K hK=>?_)
       go_simp
       refine (KT.out _ (jub (Below.refl _ _))).mono ?_
       rintro e w4 ⟨rfl,hb4⟩
       have HB4:=am (show Below W.heap.size W w4 from Below.trans (jub (Below.refl _ _)) (hb4.mono (Nat.le_refl _)))
       have hS1:(fun W':World=>W'.cell? ⟨w.heap.size+1+1,0,none⟩=some (.int .i64 f)∧W'.cell? ⟨w.heap.size,0,none⟩=some (.pointer (some ⟨m,0,none⟩))∧W'.cell? ⟨Bx,1,none⟩=some (.int .i64 x.f1)∧W'.cell? ⟨m,0,none⟩=some (.slice At t.length ct)∧W'.cell? ⟨m,3,none⟩=some (.slice (some ⟨gg,0,none⟩) H.length cc)∧W'.cell? ⟨gg,f.toNat * 5,none⟩=some (.int .i64 (jl H f).f0)) w4:=⟨jP hb4 hS0.1,jP hb4 hS0.2.1,jP hb4 hS0.2.2.1,jP hb4 hS0.2.2.2.1,jP hb4 hS0.2.2.2.2.1,jP hb4 hS0.2.2.2.2.2⟩
       have HI4:=am (jZb HI.out HB4.out)
       have hF4:=HI4.out.1.1.1.2
       have cF4:=hF4.cell
       have fF4:=hF4.frozen
       clear hF4 hb4 KT
       refine hK _ _ ⟨hS1,?_⟩
       clear hK K
       refine jxb (i:=19) (v:=.bool bb) (a':={ tmps:=#[.pointer (some ⟨m,0,none⟩), .slice A1 l1.length c1, .agg #[.bool a, .int .i64 b, .int .i64 c], .pointer (some ⟨w.heap.size,0,none⟩),undef, .pointer (some ⟨w.heap.size+1,0,none⟩), .int .i64 0, .pointer (some ⟨w.heap.size+1+1,0,none⟩),undef, .pointer (some ⟨Bx,0,none⟩), .pointer (some ⟨w.heap.size+1,0,none⟩), .bool a,u12,u13,u14,u15,u16,u17, .slice A1 l1.length c1, .func (.func 105) #[] #[.pointer (some ⟨Bs,0,none⟩)], .int .i64 ix, .agg #[.int .i64 x.f0, .int .i64 x.f1, .int .i64 x.f2], .pointer (some ⟨Bx,0,none⟩), .int .i64 x.f0, .bool false, .bool false,u26,u27,u28,u29,u30,u31,u32,u33,u34,u35,u36, .bool false, .bool false,u39,u40,u41,u42,u43,u44,u45,u46,u47,u48,u49,u50,u51, .bool true, .bool true, .int .i64 f, .bool true, .bool true, .pointer (some ⟨m,0,none⟩), .pointer (some ⟨m,0,none⟩), .pointer (some ⟨m,0,none⟩), .agg #[.slice At t.length ct], .pointer (some ⟨m,0,none⟩), .pointer (some ⟨m,0,none⟩), .pointer (some ⟨m,3,none⟩), .pointer (some ⟨m,3,none⟩), .slice (some ⟨gg,0,none⟩) H.length cc, .int .i64 f, .pointer (some ⟨gg,f.toNat * 5,none⟩), .pointer (some ⟨gg,f.toNat * 5,none⟩), .int .i64 (jl H f).f0, .pointer (some ⟨Bx,1,none⟩), .int .i64 x.f1, .bool bb, .bool bb,u74,u75,u76,u77,u78,u79,u80,u81,u82,u83],defers:=[] }) rfl (by kernel_rfl) (by kernel_rfl) (by kernel_rfl) (fun _ _ _ h=>h) (Or.inl ⟨by kernel_rfl,?_⟩) hS1 (by kernel_rfl) ?_
       ·rintro W' ⟨s1,s2,s3,s4,s5,s6⟩
        go_simp
        try with_reducible rfl
       refine wpAnyH_done (by kernel_rfl) ?_ _
       rename_i K9 hK9
       refine hK9 _ _ ?_
       clear hK9 hS0 hS1 c0 cF fF x0 x1 x2 cm0 cm3 k0
       go_simp
       cases bb with
       | true =>
        gi_wp2
        exact ⟨(KeepsFrom.of_belowM HB4.out _).trans ((KeepsOthers.setCell _ _ _).from _),fun _=>IR.out _ _ (mIV_fault (by omega) HI4.out (by omega) (by omega) (-1)),by show mIV w m (w.heap.size+1+1) Bs (.slice A1 l1.length c1) At ct t cp fst _ (mAcc s0 (pre ++ [⟨(ix,x),hx⟩]));rw [HF.out];exact mIV_fault (by omega) HI4.out (by omega) (by omega) (-1)⟩
       | false =>
        gi_wp2
        exact ⟨KeepsFrom.of_belowM HB4.out _,fun _=>IR.out _ _ HI4.out,by show mIV w m (w.heap.size+1+1) Bs (.slice A1 l1.length c1) At ct t cp fst _ (mAcc s0 (pre ++ [⟨(ix,x),hx⟩]));rw [HF.out];exact HI4.out⟩
      ·have HF:=am (show mAcc s0 (pre ++ [⟨(ix,x),hx⟩])=(lg,H,f) by rw [HSN.out];unfold stT;simp only [];rw [if_neg (show ¬ x.f0=0 by omega)];rw [if_neg (show ¬ x.f0=1 by omega)];rw [if_pos hk,dzF hf,Bool.false_and,if_neg (by simp)])
       have f0:(x.f0 == 0)=false:=by simp [hk]
       have f1:(x.f0 == 1)=false:=by simp [hk]
       have f2:(x.f0 == 2)=true:=by simp [hk]
       have f3:(x.f0 == 3)=false:=by simp [hk]
       have q0:=dzF (show ¬ f≥0 by omega)
       clear hk
       gi_wp2
       refine jVb (S:=(fun W':World=>W'.cell? ⟨w.heap.size+1+1,0,none⟩=some (.int .i64 f))) hmx (by kernel_rfl) ?hL ?_
       case hL=>rintro ⟨_,_,h⟩;exact h
       change wpAnyH _ _ _ _ _ _ _ _ (World.drew W)
       have hS0:(fun W':World=>W'.cell? ⟨w.heap.size+1+1,0,none⟩=some (.int .i64 f)) (World.drew W):=cF
       refine jxb (i:=0) (v:=.int .i64 f) (a':={ tmps:=#[.pointer (some ⟨m,0,none⟩), .slice A1 l1.length c1, .agg #[.bool a, .int .i64 b, .int .i64 c], .pointer (some ⟨w.heap.size,0,none⟩),undef, .pointer (some ⟨w.heap.size+1,0,none⟩), .int .i64 0, .pointer (some ⟨w.heap.size+1+1,0,none⟩),undef, .pointer (some ⟨Bx,0,none⟩), .pointer (some ⟨w.heap.size+1,0,none⟩), .bool a,u12,u13,u14,u15,u16,u17, .slice A1 l1.length c1, .func (.func 105) #[] #[.pointer (some ⟨Bs,0,none⟩)], .int .i64 ix, .agg #[.int .i64 x.f0, .int .i64 x.f1, .int .i64 x.f2], .pointer (some ⟨Bx,0,none⟩), .int .i64 x.f0, .bool false, .bool false,u26,u27,u28,u29,u30,u31,u32,u33,u34,u35,u36, .bool false, .bool false,u39,u40,u41,u42,u43,u44,u45,u46,u47,u48,u49,u50,u51, .bool true, .bool true, .int .i64 f,u55,u56,u57,u58,u59,u60,u61,u62,u63,u64,u65,u66,u67,u68,u69,u70,u71,u72,u73,u74,u75,u76,u77,u78,u79,u80,u81,u82,u83],defers:=[] }) rfl (by kernel_rfl) (by kernel_rfl) (by kernel_rfl) (fun _ _ _ h=>h) (Or.inl ⟨by kernel_rfl,?_⟩) hS0 (by kernel_rfl) ?_
       ·rintro W' s1
        go_simp
        try with_reducible rfl
       refine jxb (i:=1) (v:=.bool false) (a':={ tmps:=#[.pointer (some ⟨m,0,none⟩), .slice A1 l1.length c1, .agg #[.bool a, .int .i64 b, .int .i64 c], .pointer (some ⟨w.heap.size,0,none⟩),undef, .pointer (some ⟨w.heap.size+1,0,none⟩), .int .i64 0, .pointer (some ⟨w.heap.size+1+1,0,none⟩),undef, .pointer (some ⟨Bx,0,none⟩), .pointer (some ⟨w.heap.size+1,0,none⟩), .bool a,u12,u13,u14,u15,u16,u17, .slice A1 l1.length c1, .func (.func 105) #[] #[.pointer (some ⟨Bs,0,none⟩)], .int .i64 ix, .agg #[.int .i64 x.f0, .int .i64 x.f1, .int .i64 x.f2], .pointer (some ⟨Bx,0,none⟩), .int .i64 x.f0, .bool false, .bool false,u26,u27,u28,u29,u30,u31,u32,u33,u34,u35,u36, .bool false, .bool false,u39,u40,u41,u42,u43,u44,u45,u46,u47,u48,u49,u50,u51, .bool true, .bool true, .int .i64 f, .bool false,u56,u57,u58,u59,u60,u61,u62,u63,u64,u65,u66,u67,u68,u69,u70,u71,u72,u73,u74,u75,u76,u77,u78,u79,u80,u81,u82,u83],defers:=[] }) rfl (by kernel_rfl) (by kernel_rfl) (by kernel_rfl) (fun _ _ _ h=>h) (Or.inl ⟨by kernel_rfl,?_⟩) hS0 (by kernel_rfl) ?_
       ·rintro W' s1
        go_simp
        try with_reducible rfl
       refine jxb (i:=2) (v:=.bool false) (a':={ tmps:=#[.pointer (some ⟨m,0,none⟩), .slice A1 l1.length c1, .agg #[.bool a, .int .i64 b, .int .i64 c], .pointer (some ⟨w.heap.size,0,none⟩),undef, .pointer (some ⟨w.heap.size+1,0,none⟩), .int .i64 0, .pointer (some ⟨w.heap.size+1+1,0,none⟩),undef, .pointer (some ⟨Bx,0,none⟩), .pointer (some ⟨w.heap.size+1,0,none⟩), .bool a,u12,u13,u14,u15,u16,u17, .slice A1 l1.length c1, .func (.func 105) #[] #[.pointer (some ⟨Bs,0,none⟩)], .int .i64 ix, .agg #[.int .i64 x.f0, .int .i64 x.f1, .int .i64 x.f2], .pointer (some ⟨Bx,0,none⟩), .int .i64 x.f0, .bool false, .bool false,u26,u27,u28,u29,u30,u31,u32,u33,u34,u35,u36, .bool false, .bool false,u39,u40,u41,u42,u43,u44,u45,u46,u47,u48,u49,u50,u51, .bool true, .bool true, .int .i64 f, .bool false, .bool false,u57,u58,u59,u60,u61,u62,u63,u64,u65,u66,u67,u68,u69,u70,u71,u72,u73,u74,u75,u76,u77,u78,u79,u80,u81,u82,u83],defers:=[] }) rfl (by kernel_rfl) (by kernel_rfl) (by kernel_rfl) (fun _ _ _ h=>h) (Or.inl ⟨by kernel_rfl,?_⟩) hS0 (by kernel_rfl) ?_
       ·rintro W' s1
        go_simp
        try with_reducible rfl
       refine jxb (i:=3) (v:=undef) (a':={ tmps:=#[.pointer (some ⟨m,0,none⟩), .slice A1 l1.length c1, .agg #[.bool a, .int .i64 b, .int .i64 c], .pointer (some ⟨w.heap.size,0,none⟩),undef, .pointer (some ⟨w.heap.size+1,0,none⟩), .int .i64 0, .pointer (some ⟨w.heap.size+1+1,0,none⟩),undef, .pointer (some ⟨Bx,0,none⟩), .pointer (some ⟨w.heap.size+1,0,none⟩), .bool a,u12,u13,u14,u15,u16,u17, .slice A1 l1.length c1, .func (.func 105) #[] #[.pointer (some ⟨Bs,0,none⟩)], .int .i64 ix, .agg #[.int .i64 x.f0, .int .i64 x.f1, .int .i64 x.f2], .pointer (some ⟨Bx,0,none⟩), .int .i64 x.f0, .bool false, .bool false,u26,u27,u28,u29,u30,u31,u32,u33,u34,u35,u36, .bool false, .bool false,u39,u40,u41,u42,u43,u44,u45,u46,u47,u48,u49,u50,u51, .bool true, .bool true, .int .i64 f, .bool false, .bool false,undef,u58,u59,u60,u61,u62,u63,u64,u65,u66,u67,u68,u69,u70,u71,u72,u73,u74,u75,u76,u77,u78,u79,u80,u81,u82,u83],defers:=[] }) rfl (by kernel_rfl) (by kernel_rfl) (by kernel_rfl) (fun _ _ _ h=>h) (Or.inr ⟨by kernel_rfl,rfl⟩) hS0 (by kernel_rfl) ?_
       refine jxb (i:=4) (v:=undef) (a':={ tmps:=#[.pointer (some ⟨m,0,none⟩), .slice A1 l1.length c1, .agg #[.bool a, .int .i64 b, .int .i64 c], .pointer (some ⟨w.heap.size,0,none⟩),undef, .pointer (some ⟨w.heap.size+1,0,none⟩), .int .i64 0, .pointer (some ⟨w.heap.size+1+1,0,none⟩),undef, .pointer (some ⟨Bx,0,none⟩), .pointer (some ⟨w.heap.size+1,0,none⟩), .bool a,u12,u13,u14,u15,u16,u17, .slice A1 l1.length c1, .func (.func 105) #[] #[.pointer (some ⟨Bs,0,none⟩)], .int .i64 ix, .agg #[.int .i64 x.f0, .int .i64 x.f1, .int .i64 x.f2], .pointer (some ⟨Bx,0,none⟩), .int .i64 x.f0, .bool false, .bool false,u26,u27,u28,u29,u30,u31,u32,u33,u34,u35,u36, .bool false, .bool false,u39,u40,u41,u42,u43,u44,u45,u46,u47,u48,u49,u50,u51, .bool true, .bool true, .int .i64 f, .bool false, .bool false,undef,undef,u59,u60,u61,u62,u63,u64,u65,u66,u67,u68,u69,u70,u71,u72,u73,u74,u75,u76,u77,u78,u79,u80,u81,u82,u83],defers:=[] }) rfl (by kernel_rfl) (by kernel_rfl) (by kernel_rfl) (fun _ _ _ h=>h) (Or.inr ⟨by kernel_rfl,rfl⟩) hS0 (by kernel_rfl) ?_
       refine jxb (i:=5) (v:=undef) (a':={ tmps:=#[.pointer (some ⟨m,0,none⟩), .slice A1 l1.length c1, .agg #[.bool a, .int .i64 b, .int .i64 c], .pointer (some ⟨w.heap.size,0,none⟩),undef, .pointer (some ⟨w.heap.size+1,0,none⟩), .int .i64 0, .pointer (some ⟨w.heap.size+1+1,0,none⟩),undef, .pointer (some ⟨Bx,0,none⟩), .pointer (some ⟨w.heap.size+1,0,none⟩), .bool a,u12,u13,u14,u15,u16,u17, .slice A1 l1.length c1, .func (.func 105) #[] #[.pointer (some ⟨Bs,0,none⟩)], .int .i64 ix, .agg #[.int .i64 x.f0, .int .i64 x.f1, .int .i64 x.f2], .pointer (some ⟨Bx,0,none⟩), .int .i64 x.f0, .bool false, .bool false,u26,u27,u28,u29,u30,u31,u32,u33,u34,u35,u36, .bool false, .bool false,u39,u40,u41,u42,u43,u44,u45,u46,u47,u48,u49,u50,u51, .bool true, .bool true, .int .i64 f, .bool false, .bool false,undef,undef,undef,u60,u61,u62,u63,u64,u65,u66,u67,u68,u69,u70,u71,u72,u73,u74,u75,u76,u77,u78,u79,u80,u81,u82,u83],defers:=[] }) rfl (by kernel_rfl) (by kernel_rfl) (by kernel_rfl) (fun _ _ _ h=>h) (Or.inr ⟨by kernel_rfl,rfl⟩) hS0 (by kernel_rfl) ?_
       refine jxb (i:=6) (v:=undef) (a':={ tmps:=#[.pointer (some ⟨m,0,none⟩), .slice A1 l1.length c1, .agg #[.bool a, .int .i64 b, .int .i64 c], .pointer (some ⟨w.heap.size,0,none⟩),undef, .pointer (some ⟨w.heap.size+1,0,none⟩), .int .i64 0, .pointer (some ⟨w.heap.size+1+1,0,none⟩),undef, .pointer (some ⟨Bx,0,none⟩), .pointer (some ⟨w.heap.size+1,0,none⟩), .bool a,u12,u13,u14,u15,u16,u17, .slice A1 l1.length c1, .func (.func 105) #[] #[.pointer (some ⟨Bs,0,none⟩)], .int .i64 ix, .agg #[.int .i64 x.f0, .int .i64 x.f1, .int .i64 x.f2], .pointer (some ⟨Bx,0,none⟩), .int .i64 x.f0, .bool false, .bool false,u26,u27,u28,u29,u30,u31,u32,u33,u34,u35,u36, .bool false, .bool false,u39,u40,u41,u42,u43,u44,u45,u46,u47,u48,u49,u50,u51, .bool true, .bool true, .int .i64 f, .bool false, .bool false,undef,undef,undef,undef,u61,u62,u63,u64,u65,u66,u67,u68,u69,u70,u71,u72,u73,u74,u75,u76,u77,u78,u79,u80,u81,u82,u83],defers:=[] }) rfl (by kernel_rfl) (by kernel_rfl) (by kernel_rfl) (fun _ _ _ h=>h) (Or.inr ⟨by kernel_rfl,rfl⟩) hS0 (by kernel_rfl) ?_
       refine jxb (i:=7) (v:=undef) (a':={ tmps:=#[.pointer (some ⟨m,0,none⟩), .slice A1 l1.length c1, .agg #[.bool a, .int .i64 b, .int .i64 c], .pointer (some ⟨w.heap.size,0,none⟩),undef, .pointer (some ⟨w.heap.size+1,0,none⟩), .int .i64 0, .pointer (some ⟨w.heap.size+1+1,0,none⟩),undef, .pointer (some ⟨Bx,0,none⟩), .pointer (some ⟨w.heap.size+1,0,none⟩), .bool a,u12,u13,u14,u15,u16,u17, .slice A1 l1.length c1, .func (.func 105) #[] #[.pointer (some ⟨Bs,0,none⟩)], .int .i64 ix, .agg #[.int .i64 x.f0, .int .i64 x.f1, .int .i64 x.f2], .pointer (some ⟨Bx,0,none⟩), .int .i64 x.f0, .bool false, .bool false,u26,u27,u28,u29,u30,u31,u32,u33,u34,u35,u36, .bool false, .bool false,u39,u40,u41,u42,u43,u44,u45,u46,u47,u48,u49,u50,u51, .bool true, .bool true, .int .i64 f, .bool false, .bool false,undef,undef,undef,undef,undef,u62,u63,u64,u65,u66,u67,u68,u69,u70,u71,u72,u73,u74,u75,u76,u77,u78,u79,u80,u81,u82,u83],defers:=[] }) rfl (by kernel_rfl) (by kernel_rfl) (by kernel_rfl) (fun _ _ _ h=>h) (Or.inr ⟨by kernel_rfl,rfl⟩) hS0 (by kernel_rfl) ?_
       refine jxb (i:=8) (v:=undef) (a':={ tmps:=#[.pointer (some ⟨m,0,none⟩), .slice A1 l1.length c1, .agg #[.bool a, .int .i64 b, .int .i64 c], .pointer (some ⟨w.heap.size,0,none⟩),undef, .pointer (some ⟨w.heap.size+1,0,none⟩), .int .i64 0, .pointer (some ⟨w.heap.size+1+1,0,none⟩),undef, .pointer (some ⟨Bx,0,none⟩), .pointer (some ⟨w.heap.size+1,0,none⟩), .bool a,u12,u13,u14,u15,u16,u17, .slice A1 l1.length c1, .func (.func 105) #[] #[.pointer (some ⟨Bs,0,none⟩)], .int .i64 ix, .agg #[.int .i64 x.f0, .int .i64 x.f1, .int .i64 x.f2], .pointer (some ⟨Bx,0,none⟩), .int .i64 x.f0, .bool false, .bool false,u26,u27,u28,u29,u30,u31,u32,u33,u34,u35,u36, .bool false, .bool false,u39,u40,u41,u42,u43,u44,u45,u46,u47,u48,u49,u50,u51, .bool true, .bool true, .int .i64 f, .bool false, .bool false,undef,undef,undef,undef,undef,undef,u63,u64,u65,u66,u67,u68,u69,u70,u71,u72,u73,u74,u75,u76,u77,u78,u79,u80,u81,u82,u83],defers:=[] }) rfl (by kernel_rfl) (by kernel_rfl) (by kernel_rfl) (fun _ _ _ h=>h) (Or.inr ⟨by kernel_rfl,rfl⟩) hS0 (by kernel_rfl) ?_
       refine jxb (i:=9) (v:=undef) (a':={ tmps:=#[.pointer (some ⟨m,0,none⟩), .slice A1 l1.length c1, .agg #[.bool a, .int .i64 b, .int .i64 c], .pointer (some ⟨w.heap.size,0,none⟩),undef, .pointer (some ⟨w.heap.size+1,0,none⟩), .int .i64 0, .pointer (some ⟨w.heap.size+1+1,0,none⟩),undef, .pointer (some ⟨Bx,0,none⟩), .pointer (some ⟨w.heap.size+1,0,none⟩), .bool a,u12,u13,u14,u15,u16,u17, .slice A1 l1.length c1, .func (.func 105) #[] #[.pointer (some ⟨Bs,0,none⟩)], .int .i64 ix, .agg #[.int .i64 x.f0, .int .i64 x.f1, .int .i64 x.f2], .pointer (some ⟨Bx,0,none⟩), .int .i64 x.f0, .bool false, .bool false,u26,u27,u28,u29,u30,u31,u32,u33,u34,u35,u36, .bool false, .bool false,u39,u40,u41,u42,u43,u44,u45,u46,u47,u48,u49,u50,u51, .bool true, .bool true, .int .i64 f, .bool false, .bool false,undef,undef,undef,undef,undef,undef,undef,u64,u65,u66,u67,u68,u69,u70,u71,u72,u73,u74,u75,u76,u77,u78,u79,u80,u81,u82,u83],defers:=[] }) rfl (by kernel_rfl) (by kernel_rfl) (by kernel_rfl) (fun _ _ _ h=>h) (Or.inr ⟨by kernel_rfl,rfl⟩) hS0 (by kernel_rfl) ?_
       refine jxb (i:=10) (v:=undef) (a':={ tmps:=#[.pointer (some ⟨m,0,none⟩), .slice A1 l1.length c1, .agg #[.bool a, .int .i64 b, .int .i64 c], .pointer (some ⟨w.heap.size,0,none⟩),undef, .pointer (some ⟨w.heap.size+1,0,none⟩), .int .i64 0, .pointer (some ⟨w.heap.size+1+1,0,none⟩),undef, .pointer (some ⟨Bx,0,none⟩), .pointer (some ⟨w.heap.size+1,0,none⟩), .bool a,u12,u13,u14,u15,u16,u17, .slice A1 l1.length c1, .func (.func 105) #[] #[.pointer (some ⟨Bs,0,none⟩)], .int .i64 ix, .agg #[.int .i64 x.f0, .int .i64 x.f1, .int .i64 x.f2], .pointer (some ⟨Bx,0,none⟩), .int .i64 x.f0, .bool false, .bool false,u26,u27,u28,u29,u30,u31,u32,u33,u34,u35,u36, .bool false, .bool false,u39,u40,u41,u42,u43,u44,u45,u46,u47,u48,u49,u50,u51, .bool true, .bool true, .int .i64 f, .bool false, .bool false,undef,undef,undef,undef,undef,undef,undef,undef,u65,u66,u67,u68,u69,u70,u71,u72,u73,u74,u75,u76,u77,u78,u79,u80,u81,u82,u83],defers:=[] }) rfl (by kernel_rfl) (by kernel_rfl) (by kernel_rfl) (fun _ _ _ h=>h) (Or.inr ⟨by kernel_rfl,rfl⟩) hS0 (by kernel_rfl) ?_
       refine jxb (i:=11) (v:=undef) (a':={ tmps:=#[.pointer (some ⟨m,0,none⟩), .slice A1 l1.length c1, .agg #[.bool a, .int .i64 b, .int .i64 c], .pointer (some ⟨w.heap.size,0,none⟩),undef, .pointer (some ⟨w.heap.size+1,0,none⟩), .int .i64 0, .pointer (some ⟨w.heap.size+1+1,0,none⟩),undef, .pointer (some ⟨Bx,0,none⟩), .pointer (some ⟨w.heap.size+1,0,none⟩), .bool a,u12,u13,u14,u15,u16,u17, .slice A1 l1.length c1, .func (.func 105) #[] #[.pointer (some ⟨Bs,0,none⟩)], .int .i64 ix, .agg #[.int .i64 x.f0, .int .i64 x.f1, .int .i64 x.f2], .pointer (some ⟨Bx,0,none⟩), .int .i64 x.f0, .bool false, .bool false,u26,u27,u28,u29,u30,u31,u32,u33,u34,u35,u36, .bool false, .bool false,u39,u40,u41,u42,u43,u44,u45,u46,u47,u48,u49,u50,u51, .bool true, .bool true, .int .i64 f, .bool false, .bool false,undef,undef,undef,undef,undef,undef,undef,undef,undef,u66,u67,u68,u69,u70,u71,u72,u73,u74,u75,u76,u77,u78,u79,u80,u81,u82,u83],defers:=[] }) rfl (by kernel_rfl) (by kernel_rfl) (by kernel_rfl) (fun _ _ _ h=>h) (Or.inr ⟨by kernel_rfl,rfl⟩) hS0 (by kernel_rfl) ?_
       refine jxb (i:=12) (v:=undef) (a':={ tmps:=#[.pointer (some ⟨m,0,none⟩), .slice A1 l1.length c1, .agg #[.bool a, .int .i64 b, .int .i64 c], .pointer (some ⟨w.heap.size,0,none⟩),undef, .pointer (some ⟨w.heap.size+1,0,none⟩), .int .i64 0, .pointer (some ⟨w.heap.size+1+1,0,none⟩),undef, .pointer (some ⟨Bx,0,none⟩), .pointer (some ⟨w.heap.size+1,0,none⟩), .bool a,u12,u13,u14,u15,u16,u17, .slice A1 l1.length c1, .func (.func 105) #[] #[.pointer (some ⟨Bs,0,none⟩)], .int .i64 ix, .agg #[.int .i64 x.f0, .int .i64 x.f1, .int .i64 x.f2], .pointer (some ⟨Bx,0,none⟩), .int .i64 x.f0, .bool false, .bool false,u26,u27,u28,u29,u30,u31,u32,u33,u34,u35,u36, .bool false, .bool false,u39,u40,u41,u42,u43,u44,u45,u46,u47,u48,u49,u50,u51, .bool true, .bool true, .int .i64 f, .bool false, .bool false,undef,undef,undef,undef,undef,undef,undef,undef,undef,undef,u67,u68,u69,u70,u71,u72,u73,u74,u75,u76,u77,u78,u79,u80,u81,u82,u83],defers:=[] }) rfl (by kernel_rfl) (by kernel_rfl) (by kernel_rfl) (fun _ _ _ h=>h) (Or.inr ⟨by kernel_rfl,rfl⟩) hS0 (by kernel_rfl) ?_
       refine jxb (i:=13) (v:=undef) (a':={ tmps:=#[.pointer (some ⟨m,0,none⟩), .slice A1 l1.length c1, .agg #[.bool a, .int .i64 b, .int .i64 c], .pointer (some ⟨w.heap.size,0,none⟩),undef, .pointer (some ⟨w.heap.size+1,0,none⟩), .int .i64 0, .pointer (some ⟨w.heap.size+1+1,0,none⟩),undef, .pointer (some ⟨Bx,0,none⟩), .pointer (some ⟨w.heap.size+1,0,none⟩), .bool a,u12,u13,u14,u15,u16,u17, .slice A1 l1.length c1, .func (.func 105) #[] #[.pointer (some ⟨Bs,0,none⟩)], .int .i64 ix, .agg #[.int .i64 x.f0, .int .i64 x.f1, .int .i64 x.f2], .pointer (some ⟨Bx,0,none⟩), .int .i64 x.f0, .bool false, .bool false,u26,u27,u28,u29,u30,u31,u32,u33,u34,u35,u36, .bool false, .bool false,u39,u40,u41,u42,u43,u44,u45,u46,u47,u48,u49,u50,u51, .bool true, .bool true, .int .i64 f, .bool false, .bool false,undef,undef,undef,undef,undef,undef,undef,undef,undef,undef,undef,u68,u69,u70,u71,u72,u73,u74,u75,u76,u77,u78,u79,u80,u81,u82,u83],defers:=[] }) rfl (by kernel_rfl) (by kernel_rfl) (by kernel_rfl) (fun _ _ _ h=>h) (Or.inr ⟨by kernel_rfl,rfl⟩) hS0 (by kernel_rfl) ?_
       refine jxb (i:=14) (v:=undef) (a':={ tmps:=#[.pointer (some ⟨m,0,none⟩), .slice A1 l1.length c1, .agg #[.bool a, .int .i64 b, .int .i64 c], .pointer (some ⟨w.heap.size,0,none⟩),undef, .pointer (some ⟨w.heap.size+1,0,none⟩), .int .i64 0, .pointer (some ⟨w.heap.size+1+1,0,none⟩),undef, .pointer (some ⟨Bx,0,none⟩), .pointer (some ⟨w.heap.size+1,0,none⟩), .bool a,u12,u13,u14,u15,u16,u17, .slice A1 l1.length c1, .func (.func 105) #[] #[.pointer (some ⟨Bs,0,none⟩)], .int .i64 ix, .agg #[.int .i64 x.f0, .int .i64 x.f1, .int .i64 x.f2], .pointer (some ⟨Bx,0,none⟩), .int .i64 x.f0, .bool false, .bool false,u26,u27,u28,u29,u30,u31,u32,u33,u34,u35,u36, .bool false, .bool false,u39,u40,u41,u42,u43,u44,u45,u46,u47,u48,u49,u50,u51, .bool true, .bool true, .int .i64 f, .bool false, .bool false,undef,undef,undef,undef,undef,undef,undef,undef,undef,undef,undef,undef,u69,u70,u71,u72,u73,u74,u75,u76,u77,u78,u79,u80,u81,u82,u83],defers:=[] }) rfl (by kernel_rfl) (by kernel_rfl) (by kernel_rfl) (fun _ _ _ h=>h) (Or.inr ⟨by kernel_rfl,rfl⟩) hS0 (by kernel_rfl) ?_
       refine jxb (i:=15) (v:=undef) (a':={ tmps:=#[.pointer (some ⟨m,0,none⟩), .slice A1 l1.length c1, .agg #[.bool a, .int .i64 b, .int .i64 c], .pointer (some ⟨w.heap.size,0,none⟩),undef, .pointer (some ⟨w.heap.size+1,0,none⟩), .int .i64 0, .pointer (some ⟨w.heap.size+1+1,0,none⟩),undef, .pointer (some ⟨Bx,0,none⟩), .pointer (some ⟨w.heap.size+1,0,none⟩), .bool a,u12,u13,u14,u15,u16,u17, .slice A1 l1.length c1, .func (.func 105) #[] #[.pointer (some ⟨Bs,0,none⟩)], .int .i64 ix, .agg #[.int .i64 x.f0, .int .i64 x.f1, .int .i64 x.f2], .pointer (some ⟨Bx,0,none⟩), .int .i64 x.f0, .bool false, .bool false,u26,u27,u28,u29,u30,u31,u32,u33,u34,u35,u36, .bool false, .bool false,u39,u40,u41,u42,u43,u44,u45,u46,u47,u48,u49,u50,u51, .bool true, .bool true, .int .i64 f, .bool false, .bool false,undef,undef,undef,undef,undef,undef,undef,undef,undef,undef,undef,undef,undef,u70,u71,u72,u73,u74,u75,u76,u77,u78,u79,u80,u81,u82,u83],defers:=[] }) rfl (by kernel_rfl) (by kernel_rfl) (by kernel_rfl) (fun _ _ _ h=>h) (Or.inr ⟨by kernel_rfl,rfl⟩) hS0 (by kernel_rfl) ?_
       refine jxb (i:=16) (v:=undef) (a':={ tmps:=#[.pointer (some ⟨m,0,none⟩), .slice A1 l1.length c1, .agg #[.bool a, .int .i64 b, .int .i64 c], .pointer (some ⟨w.heap.size,0,none⟩),undef, .pointer (some ⟨w.heap.size+1,0,none⟩), .int .i64 0, .pointer (some ⟨w.heap.size+1+1,0,none⟩),undef, .pointer (some ⟨Bx,0,none⟩), .pointer (some ⟨w.heap.size+1,0,none⟩), .bool a,u12,u13,u14,u15,u16,u17, .slice A1 l1.length c1, .func (.func 105) #[] #[.pointer (some ⟨Bs,0,none⟩)], .int .i64 ix, .agg #[.int .i64 x.f0, .int .i64 x.f1, .int .i64 x.f2], .pointer (some ⟨Bx,0,none⟩), .int .i64 x.f0, .bool false, .bool false,u26,u27,u28,u29,u30,u31,u32,u33,u34,u35,u36, .bool false, .bool false,u39,u40,u41,u42,u43,u44,u45,u46,u47,u48,u49,u50,u51, .bool true, .bool true, .int .i64 f, .bool false, .bool false,undef,undef,undef,undef,undef,undef,undef,undef,undef,undef,undef,undef,undef,undef,u71,u72,u73,u74,u75,u76,u77,u78,u79,u80,u81,u82,u83],defers:=[] }) rfl (by kernel_rfl) (by kernel_rfl) (by kernel_rfl) (fun _ _ _ h=>h) (Or.inr ⟨by kernel_rfl,rfl⟩) hS0 (by kernel_rfl) ?_
       refine jxb (i:=17) (v:=undef) (a':={ tmps:=#[.pointer (some ⟨m,0,none⟩), .slice A1 l1.length c1, .agg #[.bool a, .int .i64 b, .int .i64 c], .pointer (some ⟨w.heap.size,0,none⟩),undef, .pointer (some ⟨w.heap.size+1,0,none⟩), .int .i64 0, .pointer (some ⟨w.heap.size+1+1,0,none⟩),undef, .pointer (some ⟨Bx,0,none⟩), .pointer (some ⟨w.heap.size+1,0,none⟩), .bool a,u12,u13,u14,u15,u16,u17, .slice A1 l1.length c1, .func (.func 105) #[] #[.pointer (some ⟨Bs,0,none⟩)], .int .i64 ix, .agg #[.int .i64 x.f0, .int .i64 x.f1, .int .i64 x.f2], .pointer (some ⟨Bx,0,none⟩), .int .i64 x.f0, .bool false, .bool false,u26,u27,u28,u29,u30,u31,u32,u33,u34,u35,u36, .bool false, .bool false,u39,u40,u41,u42,u43,u44,u45,u46,u47,u48,u49,u50,u51, .bool true, .bool true, .int .i64 f, .bool false, .bool false,undef,undef,undef,undef,undef,undef,undef,undef,undef,undef,undef,undef,undef,undef,undef,u72,u73,u74,u75,u76,u77,u78,u79,u80,u81,u82,u83],defers:=[] }) rfl (by kernel_rfl) (by kernel_rfl) (by kernel_rfl) (fun _ _ _ h=>h) (Or.inr ⟨by kernel_rfl,rfl⟩) hS0 (by kernel_rfl) ?_
       refine jxb (i:=18) (v:=undef) (a':={ tmps:=#[.pointer (some ⟨m,0,none⟩), .slice A1 l1.length c1, .agg #[.bool a, .int .i64 b, .int .i64 c], .pointer (some ⟨w.heap.size,0,none⟩),undef, .pointer (some ⟨w.heap.size+1,0,none⟩), .int .i64 0, .pointer (some ⟨w.heap.size+1+1,0,none⟩),undef, .pointer (some ⟨Bx,0,none⟩), .pointer (some ⟨w.heap.size+1,0,none⟩), .bool a,u12,u13,u14,u15,u16,u17, .slice A1 l1.length c1, .func (.func 105) #[] #[.pointer (some ⟨Bs,0,none⟩)], .int .i64 ix, .agg #[.int .i64 x.f0, .int .i64 x.f1, .int .i64 x.f2], .pointer (some ⟨Bx,0,none⟩), .int .i64 x.f0, .bool false, .bool false,u26,u27,u28,u29,u30,u31,u32,u33,u34,u35,u36, .bool false, .bool false,u39,u40,u41,u42,u43,u44,u45,u46,u47,u48,u49,u50,u51, .bool true, .bool true, .int .i64 f, .bool false, .bool false,undef,undef,undef,undef,undef,undef,undef,undef,undef,undef,undef,undef,undef,undef,undef,undef,u73,u74,u75,u76,u77,u78,u79,u80,u81,u82,u83],defers:=[] }) rfl (by kernel_rfl) (by kernel_rfl) (by kernel_rfl) (fun _ _ _ h=>h) (Or.inr ⟨by kernel_rfl,rfl⟩) hS0 (by kernel_rfl) ?_
       refine jxb (i:=19) (v:=.bool false) (a':={ tmps:=#[.pointer (some ⟨m,0,none⟩), .slice A1 l1.length c1, .agg #[.bool a, .int .i64 b, .int .i64 c], .pointer (some ⟨w.heap.size,0,none⟩),undef, .pointer (some ⟨w.heap.size+1,0,none⟩), .int .i64 0, .pointer (some ⟨w.heap.size+1+1,0,none⟩),undef, .pointer (some ⟨Bx,0,none⟩), .pointer (some ⟨w.heap.size+1,0,none⟩), .bool a,u12,u13,u14,u15,u16,u17, .slice A1 l1.length c1, .func (.func 105) #[] #[.pointer (some ⟨Bs,0,none⟩)], .int .i64 ix, .agg #[.int .i64 x.f0, .int .i64 x.f1, .int .i64 x.f2], .pointer (some ⟨Bx,0,none⟩), .int .i64 x.f0, .bool false, .bool false,u26,u27,u28,u29,u30,u31,u32,u33,u34,u35,u36, .bool false, .bool false,u39,u40,u41,u42,u43,u44,u45,u46,u47,u48,u49,u50,u51, .bool true, .bool true, .int .i64 f, .bool false, .bool false,undef,undef,undef,undef,undef,undef,undef,undef,undef,undef,undef,undef,undef,undef,undef,undef, .bool false,u74,u75,u76,u77,u78,u79,u80,u81,u82,u83],defers:=[] }) rfl (by kernel_rfl) (by kernel_rfl) (by kernel_rfl) (fun _ _ _ h=>h) (Or.inl ⟨by kernel_rfl,?_⟩) hS0 (by kernel_rfl) ?_
       ·rintro W' s1
        go_simp
        try with_reducible rfl
       refine wpAnyH_done (by kernel_rfl) ?_ _
       rename_i K9 hK9
       refine hK9 _ _ ?_
       clear hK9 hS0 c0 cF fF x0 x1 x2
       go_simp
       gi_wp2
       exact ⟨KeepsFrom.of_belowM (jub (Below.refl _ _)) _,fun _=>IR.out _ _ (jZb HI.out (jub (Below.refl _ _))),by show mIV w m (w.heap.size+1+1) Bs (.slice A1 l1.length c1) At ct t cp fst _ (mAcc s0 (pre ++ [⟨(ix,x),hx⟩]));rw [HF.out];exact jZb HI.out (jub (Below.refl _ _))⟩
     ·have g2:=hk
      clear hk
      by_cases hk:x.f0=3
      ·have HF:=am (show mAcc s0 (pre ++ [⟨(ix,x),hx⟩])=(lg,H ++ [⟨x.f1,x.f2, -1,f,false⟩],(H.length:Int)) by rw [HSN.out];unfold stT;simp only [];rw [if_neg (show ¬ x.f0=0 by omega)];rw [if_neg (show ¬ x.f0=1 by omega)];rw [if_neg (show ¬ x.f0=2 by omega)];rw [if_pos hk])
       have f0:(x.f0 == 0)=false:=by simp [hk]
       have f1:(x.f0 == 1)=false:=by simp [hk]
       have f2:(x.f0 == 2)=false:=by simp [hk]
       have f3:(x.f0 == 3)=true:=by simp [hk]
       have hcl:0≤x.f1∧x.f1<(t.length:Int):=by
        have h:=HX.out
        unfold okX at h
        rw [if_neg (by omega),if_pos hk] at h
        simpa using h
       have hI2:=HI.out
       obtain ⟨⟨⟨⟨i0,iF⟩,iS⟩,vl,vh,im,iL,iH⟩,iK⟩:=hI2
       obtain ⟨Ah,ch,rfl⟩:=Kd.jga iH
       have KR:=am (mm_raise k m (.slice At t.length ct) cp vl fst Ah ch H.length H _ x.f1 x.f2 f (fun _=>True) w.heap.size W rfl im iH (fun _ _=>trivial) hnW (mR_good HGH.out (by omega) (by omega) hlo hhi hcl.1 hcl.2))
       have I0:=am i0
       have IF:=am iF
       have IS:=am iS
       have IM:=am im
       have IL:=am iL
       have IH:=am iH
       have IK:=am iK
       clear hk hcl i0 iF iS im iL iH iK
       gi_wp2_with (refine ⟨trivial,?_⟩;gi_at_call 72;refine (CallsIn.inRound lp (callsIn_wide.2 KR.out)).mono ?_;clear KR;rintro e w4 ⟨rfl,A4,c4,hm4,hR4,hK4,hB4⟩;have HI4:=am (mIV_raise (s:=(lg,H,f)) (by omega) I0.out IF.out IS.out IM.out IL.out IH.out IK.out hm4 hR4 hK4 hB4);have HKF:=am (show KeepsFrom W0.heap.size W w4 from ⟨hK4.1,fun j o _ hj ho=>(hK4.2 j (Array.getElem?_eq_some_iff.1 hj).1 (fun e=>by rcases e with rfl | e;(have hj2:=IM.out;rw [hj] at hj2;injection hj2 with hj2;subst hj2;cases ho);(obtain ⟨inner,hw⟩:=Kd.R_own IH.out;obtain ⟨cells,hc⟩:=jlc hw j e.symm;rw [hj] at hc;injection hc with hc;subst hc;cases ho))).trans hj⟩);clear hm4 hR4 hK4 hB4;have hF4:=HI4.out.1.1.1.2;have cF4:=hF4.cell;have fF4:=hF4.frozen;clear hF4 c0 cF fF)
       exact ⟨HKF.out.trans ((KeepsOthers.setCell _ _ _).from _),fun _=>IR.out _ _ (mIV_fault (by omega) HI4.out (by omega) (by omega) _),by show mIV w m (w.heap.size+1+1) Bs (.slice A1 l1.length c1) At ct t cp fst _ (mAcc s0 (pre ++ [⟨(ix,x),hx⟩]));rw [HF.out];exact mIV_fault (by omega) HI4.out (by omega) (by omega) _⟩
      ·have g3:=hk
       clear hk
       have HF:=am (show mAcc s0 (pre ++ [⟨(ix,x),hx⟩])=(lg,H,f) by rw [HSN.out];unfold stT;simp only [];rw [if_neg g0,if_neg g1,if_neg g2,if_neg g3])
       have f0:(x.f0 == 0)=false:=by simpa using g0
       have f1:(x.f0 == 1)=false:=by simpa using g1
       have f2:(x.f0 == 2)=false:=by simpa using g2
       have f3:(x.f0 == 3)=false:=by simpa using g3
       clear g0 g1 g2 g3
       gi_wp2
       exact ⟨(KeepsOthers.refl _).from _,fun h=>h,by show mIV w m (w.heap.size+1+1) Bs (.slice A1 l1.length c1) At ct t cp fst _ (mAcc s0 (pre ++ [⟨(ix,x),hx⟩]));rw [HF.out];exact HI.out⟩
  case done =>
   rintro D ys W hD rfl hI hK
   rw [mAcc_all HOK.out] at hI
   obtain ⟨⟨⟨⟨i0,iF⟩,iS⟩,vl,vh,im,iL,iH⟩,iK⟩:=hI
   have cF:=iF.cell
   have IM:=am im
   have IL:=am iL
   have IH:=am iH
   have IK:=am iK
   clear i0 iF iS im iL iH iK
   gi_wp2
   refine ⟨by simp, .inl ⟨_,_,rfl,run_takeDeferred hK,?_⟩⟩
   have hO:=mach_own (β:=Unit) w.heap.size m (w.heap.size+1+1) (.slice At t.length ct) cp fst (fun _=>l1.reverse.foldl (stT (isT k t)) s0)
   obtain ⟨vl2,vh2,m2,L2,H2⟩:=hO.putObj (s:=()) (.deferred none) ⟨vl,vh,IM.out,IL.out,IH.out⟩ hK rfl
   refine ⟨.int .i64 (l1.reverse.foldl (stT (isT k t)) s0).2.2,?_,rfl,⟨vl2,vh2,m2,Kd.jJ L2 (fun _ _=>trivial),H2⟩,Kept.jGb (grownBy_putObj' W D _) IK.out.1 (fun k e=>.inr (by injection e with e;subst e;exact Nat.le_trans hn0 hD)),IK.out.2.grown (grownBy_putObj' W D _) (Nat.zero_le _) (fun _ _=>Nat.zero_le _)⟩
   simp [results,Try.f40,go_sem]
  case stop =>
   rintro D c pre W _ _ h _
   exact h.elim
end
def jKb (p : Int → Option Bool) : Nat → Nat → Option (List Int)
 | 0,_=>some []
 | n+1,i=>(p (i:Int)).bind fun b=>(jKb p n (i+1)).bind fun r=>some (if b=true then (i:Int) :: r else r)
theorem filtFrom_step {p : Int → Option Bool} {n i : Nat} {r rest acc : List Int} (hi : i < n) (h : jKb p (n - i) i = some rest) (e : acc ++ rest = r) :
  ∃ b,p (i:Int)=some b∧∃ rest2,jKb p (n - (i+1)) (i+1)=some rest2∧(if b=true then acc ++ [(i:Int)] else acc) ++ rest2=r:=by
 rw [show n - i=(n - (i+1))+1 by omega] at h
 simp only [jKb] at h
 obtain ⟨b,h1,h⟩:=bzS h
 obtain ⟨r2,h2,h⟩:=bzS h
 obtain rfl:=Option.some.inj h
 refine ⟨b,h1,r2,h2,?_⟩
 cases b <;> simpa using e
theorem filtFrom_end {p : Int → Option Bool} {n : Nat} {r rest acc : List Int} (h : jKb p (n - n) n = some rest) (e : acc ++ rest = r) : acc = r := by
 rw [Nat.sub_self] at h
 obtain rfl:=Option.some.inj h
 simpa using e
def esv (k : Nat) (t : List S106) (l : List S44) (x : Int) : Option Bool := (jHa.f k t l true x 0).bind fun s => some (s.2.2 == 0)
set_option maxHeartbeats 8000000 in
set_option maxRecDepth 100000 in
theorem impl_EscapesOf1_calls (k : Nat) (At : Option Addr) (ct : Nat) (t : List S106) (A1 : Option Addr) (c1 : Nat) (l : List S44) (x : Int) (b : Bool) (B0 B1 : Nat) (w : World) (hr : Kd.C k106 w At t.length t) (hct : t.length ≤ ct) (hr1 : Kd.C k44 w A1 l.length l) (hc1 : l.length ≤ c1) (h0 : w.cell? ⟨B0, 0, none⟩ = some (.slice At t.length ct)) (h1 : w.cell? ⟨B1, 0, none⟩ = some (.slice A1 l.length c1)) (h : esv k t l x = some b) :
  Calls Try.prog 54 #[.int .i64 x, .pointer (some ⟨B0,0,none⟩), .pointer (some ⟨B1,0,none⟩)] w fun e w'=>e=.returned (.bool b)∧Below w.heap.size w w':=by
 obtain ⟨s,hs,hb⟩:=bzS h
 have hu31:=Try.underlying31
 have hu110:=Try.underlying110
 have hu50:=Try.underlying50
 have hmx:Try.prog.follows .mixedOrders=true:=by kernel_rfl
 have hbw:Below w.heap.size w (((World.drew w).alloc (.cells #[.slice At t.length ct] 31)).alloc (.cells #[.slice At t.length ct, .slice none 0 0, .slice none 0 0, .slice none 0 0, .int .i64 (-1)] 110)):=(((Below.refl w.heap.size w).drew).alloc (Nat.le_refl _) _).alloc (by simp) _
 have HC:=am (jHa.calls k At ct t A1 c1 l true x 0 (w.heap.size+1) (.slice none 0 0) (-1) s (((World.drew w).alloc (.cells #[.slice At t.length ct] 31)).alloc (.cells #[.slice At t.length ct, .slice none 0 0, .slice none 0 0, .slice none 0 0, .int .i64 (-1)] 110)) (by have h:=heap_alloc_new ((World.drew w).alloc (.cells #[.slice At t.length ct] 31)) (.cells #[.slice At t.length ct, .slice none 0 0, .slice none 0 0, .slice none 0 0, .int .i64 (-1)] 110);rw [World.size_alloc] at h;exact h) (Kd.jxc k106_heap hr hbw (fun k hk=>by omega)) hct (Kd.jxc k44_heap hr1 hbw (fun k hk=>by omega)) hc1 hs)
 have HB:=am hbw
 have HZ:=am (Option.some.inj hb)
 have hB0:B0<w.heap.size:=World.block_lt_of_cell? w ⟨B0,0,none⟩ h0
 have hB1:B1<w.heap.size:=World.block_lt_of_cell? w ⟨B1,0,none⟩ h1
 clear h hs hb hr hr1 hbw
 go_enter Try.func54,Try.ntmps54
 go_wp2
 refine wp_region_held (S:=(fun W':World=>W'.cell? ⟨B0,0,none⟩=some (.slice At t.length ct)∧W'.cell? ⟨B1,0,none⟩=some (.slice A1 l.length c1))) hmx ?_
 change wpAnyH _ _ _ _ _ _ _ _ (World.drew w)
 have hS0:(fun W':World=>W'.cell? ⟨B0,0,none⟩=some (.slice At t.length ct)∧W'.cell? ⟨B1,0,none⟩=some (.slice A1 l.length c1)) (World.drew w):=⟨h0,h1⟩
 refine wpAnyH_take (i:=0) (v:=?_) rfl (by kernel_rfl) (by kernel_rfl) (by kernel_rfl) (fun _ _ _ h=>h) (Or.inl ⟨by kernel_rfl,?_⟩) hS0 ?_
 rotate_left
 ·rintro W' ⟨s1,s2⟩
  go_simp
  with_reducible rfl
 refine wpAnyH_take (i:=2) (v:=?_) rfl (by kernel_rfl) (by kernel_rfl) (by kernel_rfl) (fun _ _ _ h=>h) (Or.inl ⟨by kernel_rfl,?_⟩) hS0 ?_
 rotate_left
 ·rintro W' ⟨s1,s2⟩
  go_simp
  with_reducible rfl
 refine wpAnyH_take (i:=3) (v:=?_) rfl (by kernel_rfl) (by kernel_rfl) (by kernel_rfl) (fun _ _ _ h=>h) (Or.inl ⟨by kernel_rfl,?_⟩) hS0 ?_
 rotate_left
 ·rintro W' ⟨s1,s2⟩
  go_simp
  with_reducible rfl
 refine wpAnyH_take (i:=4) (v:=?_) rfl (by kernel_rfl) (by kernel_rfl) (by kernel_rfl) (fun _ _ _ h=>h) (Or.inl ⟨by kernel_rfl,?_⟩) hS0 ?_
 rotate_left
 ·rintro W' ⟨s1,s2⟩
  go_simp
  with_reducible rfl
 refine wpAnyH_all (rs:=[1]) (by kernel_rfl) (by simp) ?_
 intro ii hii
 obtain rfl:ii=1:=by simpa using hii
 clear hii
 refine wpOp_step rfl (fun K hK=>?_)
 go_simp
 refine (mm_new At ct t none 0 0 (World.drew w)).mono ?_
 rintro e w2 ⟨rfl,rfl⟩
 have hS1:(fun W':World=>W'.cell? ⟨B0,0,none⟩=some (.slice At t.length ct)∧W'.cell? ⟨B1,0,none⟩=some (.slice A1 l.length c1)) (((World.drew w).alloc (.cells #[.slice At t.length ct] 31)).alloc (.cells #[.slice At t.length ct, .slice none 0 0, .slice none 0 0, .slice none 0 0, .int .i64 (-1)] 110)):=⟨jP HB.out h0,jP HB.out h1⟩
 refine hK _ _ ⟨hS1,?_⟩
 clear hK K
 refine wpAnyH_all (rs:=[5]) (by kernel_rfl) (by simp) ?_
 intro ii hii
 obtain rfl:ii=5:=by simpa using hii
 clear hii
 refine wpOp_step rfl (fun K hK=>?_)
 go_simp
 refine HC.out.mono ?_
 rintro e w3 ⟨rfl,hz3,hK3,hB3⟩;clear hz3
 have hS2:(fun W':World=>W'.cell? ⟨B0,0,none⟩=some (.slice At t.length ct)∧W'.cell? ⟨B1,0,none⟩=some (.slice A1 l.length c1)) w3:=⟨mcell_kept hS1.1 hK3 (by show ¬ B0=w.heap.size+1;omega),mcell_kept hS1.2 hK3 (by show ¬ B1=w.heap.size+1;omega)⟩
 have HB3:=am (show Below w.heap.size w w3 from HB.out.trans ⟨hB3.os,hB3.tape,hB3.output,hB3.size,fun k hk=>hK3.2 k (Nat.lt_of_lt_of_le hk HB.out.size) (by omega)⟩)
 clear hK3 hB3 HC
 refine hK _ _ ⟨hS2,?_⟩
 clear hK K
 refine wpAnyH_take (i:=6) (v:=?_) rfl (by kernel_rfl) (by kernel_rfl) (by kernel_rfl) (fun _ _ _ h=>h) (Or.inl ⟨by kernel_rfl,?_⟩) hS2 ?_
 rotate_left
 ·rintro W' ⟨s1,s2⟩
  go_simp
  with_reducible rfl
 refine wpAnyH_take (i:=7) (v:=?_) rfl (by kernel_rfl) (by kernel_rfl) (by kernel_rfl) (fun _ _ _ h=>h) (Or.inl ⟨by kernel_rfl,?_⟩) hS2 ?_
 rotate_left
 ·rintro W' ⟨s1,s2⟩
  go_simp
  with_reducible rfl
 refine wpAnyH_done (by kernel_rfl) ?_ _
 rename_i K9 hK9
 refine hK9 _ _ ?_
 clear hK9 hS0 hS1 hS2
 go_simp
 go_wp2
 go_ret
 exact ⟨by rw [← HZ.out];rfl,HB3.out⟩
set_option maxHeartbeats 8000000 in
set_option maxRecDepth 100000 in
theorem impl_EscapesOf_filt (A0_0 : Option Addr) (c0_0 : Nat) (l0_0 : List S106) (B0_ : Nat) (B1_ : Nat) (p : Int → Option Bool) (r : List Int) (w : World) (hr0_0 : Kd.C k106 w A0_0 l0_0.length l0_0) (hlen : l0_0.length ≤ 1000000000) (h : jKb p l0_0.length 0 = some r)
  (hp:∀ W,Below w.heap.size w W→∀ (x:Int) (b:Bool),p x=some b→Calls Try.prog 54 #[.int .i64 x, .pointer (some ⟨B0_,0,none⟩), .pointer (some ⟨B1_,0,none⟩)] W fun e w'=>e=.returned (.bool b)∧Below W.heap.size W w') :
  Calls Try.prog 41 #[.agg #[.slice A0_0 l0_0.length c0_0], .func (.func 54) #[] #[.pointer (some ⟨B0_,0,none⟩), .pointer (some ⟨B1_,0,none⟩)]] w fun e w'=>∃ v0_:Value,e=.returned v0_∧Kd.R (Kd.int .i64) 3 w' w.heap.size (fun _=>True) v0_ r∧Below w.heap.size w w':=by
 have hu31:=Try.underlying31
 have HP:=am hp
 have H0:=am h
 have HB:=am (Below.refl w.heap.size w)
 clear hr0_0 hp h
 go_enter Try.func41,Try.ntmps41
 go_wp2_with (first |((with_reducible refine jG (N:=2) rfl ?_);refine bE (N:=2) (cs:=#[.slice A0_0 l0_0.length c0_0]) (t:=31) ?_;intro gb hg w5 hbox hb;have n0_:=am (jg (bq) hb);have n1_:=am (hbox);have n3_:=am ((Y2:w.heap.size≤gb));clear HB;have HB:=n0_;have BK:=n1_;have GE:=n3_;clear n0_ n1_ n3_ hb hbox hg;have hcz6_0:=bc0 BK.out;have hfz6_0:=ja BK.out 0) |((with_reducible refine jG (N:=10) rfl ?_);refine Kd.R_mkcap (Kd.int .i64) _ 3 rfl (N:=10) rfl 45 _ _ rfl (l0_0.length:Int) rfl rfl Try.underlying45 (.int .i64 0) 8 info3 rfl (by decide) (by omega) (ok:=fun _=>True) trivial (by omega) (by simp only [Int.toNat_natCast];omega) (Below.refl _ _) (Nat.le_refl _) ?_;intro v787 w7 ho8 hb hg_ hnew_;clear hg_ hnew_;have HO:=am (Kd.jpa ho8 (jba (Y22)));replace BK:=am (jc (g:=gb) (o:=.cells #[.slice A0_0 l0_0.length c0_0] 31 (0,0)) (kq BK.out) hb);replace HB:=am (jg (Y22) hb);clear hb ho8;have hcz7_0:=bc0 BK.out;have hfz7_0:=ja BK.out 0))
 go_loopw [5,14] (fun v5 v14 w'=>∃ (i:Nat) (acc:List Int),i≤l0_0.length∧v14=.int .i64 i∧jE (∃ rest,jKb p (l0_0.length - i) i=some rest∧acc ++ rest=r)∧jE (acc.length≤i)∧jE (Kd.R (Kd.int .i64) 3 w' w.heap.size (fun _=>True) v5 acc)∧jE (w'.heap[gb]?=some (.cells #[.slice A0_0 l0_0.length c0_0] 31 (0,0)))∧jE (Below w.heap.size w w')) (fun _ v14 _=>l0_0.length - (intOf v14).toNat)
 case atStart=>exact ⟨0,[],Nat.zero_le _,rfl,⟨r,H0.out,rfl⟩,⟨Nat.le_refl _⟩,⟨rq HO.out⟩,⟨kq BK.out⟩,⟨(Y22)⟩⟩
 case round =>
  clear H0 HO BK HB
  try clear hcz6_0
  try clear hcz7_0
  try clear hfz6_0
  try clear hfz7_0
  obtain ⟨i,acc,hi,rfl,HA,HN,HO,BK,HB⟩:=hrel
  by_cases hlt:i<l0_0.length
  ·obtain ⟨rest,h1,h2⟩:=HA.out
   obtain ⟨b,hb1,rest2,h3,h4⟩:=filtFrom_step hlt h1 h2
   clear HA h1 h2
   have HQ:=am hb1
   clear hb1
   cases b with
   | true =>
    have HZ:=am (show ∃ rest,jKb p (l0_0.length - (i+1)) (i+1)=some rest∧(acc ++ [(i:Int)]) ++ rest=r from ⟨rest2,h3,by simpa using h4⟩)
    clear h3 h4
    go_wp2_with (first |(go_at_call 54;refine (HP.out _ (Y22) _ _ HQ.out).mono ?_;rintro e w2 ⟨rfl,hb2⟩;have n0_:=am (jc (g:=gb) (o:=.cells #[.slice A0_0 l0_0.length c0_0] 31 (0,0)) (kq BK.out) hb2);have n1_:=am (Kd.jaa (rq HO.out) hb2);have n2_:=am (jg (Y22) hb2);clear BK HO HB;have BK:=n0_;have HO:=n1_;have HB:=n2_;clear n0_ n1_ n2_ hb2) |((with_reducible refine jpb (b:=.append) (xs:=#[.tmp 20, .tmp 22]) rfl ?_);at_builtin;refine Kd.jWb (Kd.int .i64) (w0:=w) w.heap.size rfl (.tmp 20) (.tmp 22) 45 3 (.int .i64 0) 8 rfl Try.underlying45 info3 rfl (by decide) (by omega) u5 acc (i:Int) [.int .i64 (i:Int)] (fun _=>True) (fun _=>False) rfl rfl ?aP (fun _ hk=>hk.elim) ?aF ?aO ?aB ?aS ?aL ?_;(case aP=>exact rfl);(case aB=>exact (Y22));(case aF=>exact (fun _ _=>trivial));(case aO=>exact (rq HO.out));(case aS=>exact (jba (Y22)));(case aL=>have:=HN.out;omega);intro v790 w13 ho hb hg hat;replace BK:=am (jqa (g:=gb) (o:=.cells #[.slice A0_0 l0_0.length c0_0] 31 (0,0)) (kq BK.out) hg (Kd.R_ne HO.out BK.out (by decide)));replace HB:=am (hb);replace HO:=am (ho);clear ho hb hg hat))
    go_roundw
    case rel=>exact ⟨i+1,acc ++ [(i:Int)],hlt,by go_num,HZ,⟨by have:=HN.out;simp;omega⟩,⟨rq HO.out⟩,⟨kq BK.out⟩,⟨(Y22)⟩⟩
    case measure=>simp [intOf];omega
   | false =>
    have HZ:=am (show ∃ rest,jKb p (l0_0.length - (i+1)) (i+1)=some rest∧acc ++ rest=r from ⟨rest2,h3,by simpa using h4⟩)
    clear h3 h4
    go_wp2_with (go_at_call 54;refine (HP.out _ (Y22) _ _ HQ.out).mono ?_;rintro e w2 ⟨rfl,hb2⟩;have n0_:=am (jc (g:=gb) (o:=.cells #[.slice A0_0 l0_0.length c0_0] 31 (0,0)) (kq BK.out) hb2);have n1_:=am (Kd.jaa (rq HO.out) hb2);have n2_:=am (jg (Y22) hb2);clear BK HO HB;have BK:=n0_;have HO:=n1_;have HB:=n2_;clear n0_ n1_ n2_ hb2)
    go_roundw
    case rel=>exact ⟨i+1,acc,hlt,by go_num,HZ,⟨by have:=HN.out;omega⟩,⟨rq HO.out⟩,⟨kq BK.out⟩,⟨(Y22)⟩⟩
    case measure=>simp [intOf];omega
  ·obtain rfl:i=l0_0.length:=by omega
   obtain ⟨rest,h1,h2⟩:=HA.out
   have he:=filtFrom_end h1 h2
   clear HA h1 h2
   subst he
   obtain ⟨Ao15,co15,eo15⟩:=Kd.jga HO.out
   subst eo15
   obtain ⟨i016,hi016,_,hsz16,_⟩:=info_parts info3
   have hcut16:=cut_clip (P:=Try.prog) 45 3 Try.underlying45 hi016 Ao15 _ co15 _ (Kd.jC HO.out).2.1 rfl
   have hr16:=Kd.R_clip HO.out (rfl:acc=acc)
   clear hi016 hsz16 HO
   have HO795:=am hr16
   clear hr16
   go_wp2
   go_ret
   exact ⟨_,Y0,rq HO795.out,(Y22)⟩
def jfb.f (k : Nat) (l0_0 : List S106) (l1 : List S44) : Option (List Int) := (jCa.f k l0_0 l1).bind fun v => if v = true then (if l0_0.length ≤ 1000000000 then jKb (esv k l0_0 l1) l0_0.length 0 else none) else some []
set_option maxHeartbeats 8000000 in
set_option maxRecDepth 100000 in
theorem jfb.calls (k : Nat) (A0_0 : Option Addr) (c0_0 : Nat) (l0_0 : List S106) (A1 : Option Addr) (c1 : Nat) (l1 : List S44) (r : List Int) (w : World) (hr0_0 : Kd.C k106 w A0_0 l0_0.length l0_0) (hc0_0 : l0_0.length ≤ c0_0) (hr1 : Kd.C k44 w A1 l1.length l1) (hc1 : l1.length ≤ c1) (h : jfb.f k l0_0 l1 = some r) :
  Calls Try.prog 19 #[.agg #[.slice A0_0 l0_0.length c0_0], .slice A1 l1.length c1] w fun e w'=>∃ v0_:Value,e=.returned v0_∧Kd.R (Kd.int .i64) 3 w' w.heap.size (fun _=>True) v0_ r∧Below w.heap.size w w':=by
 obtain ⟨v,hv,h⟩:=bzS h
 have hu31:=Try.underlying31
 have HB:=am (show Below w.heap.size w ((w.alloc (.cells #[.slice A0_0 l0_0.length c0_0] 31)).alloc (.cells #[.slice A1 l1.length c1] 33)) from ((Below.refl w.heap.size w).alloc (Nat.le_refl _) _).alloc (by simp) _)
 have CT:=am (show ((w.alloc (.cells #[.slice A0_0 l0_0.length c0_0] 31)).alloc (.cells #[.slice A1 l1.length c1] 33)).cell? ⟨w.heap.size,0,none⟩=some (.slice A0_0 l0_0.length c0_0) from mo0 (jb (heap_alloc_new w (.cells #[.slice A0_0 l0_0.length c0_0] 31)) (.cells #[.slice A1 l1.length c1] 33)))
 have CL:=am (show ((w.alloc (.cells #[.slice A0_0 l0_0.length c0_0] 31)).alloc (.cells #[.slice A1 l1.length c1] 33)).cell? ⟨w.heap.size+1,0,none⟩=some (.slice A1 l1.length c1) from mo0 (show ((w.alloc (.cells #[.slice A0_0 l0_0.length c0_0] 31)).alloc (.cells #[.slice A1 l1.length c1] 33)).heap[w.heap.size+1]?=some (.cells #[.slice A1 l1.length c1] 33 (0,0)) by have h:=heap_alloc_new (w.alloc (.cells #[.slice A0_0 l0_0.length c0_0] 31)) (.cells #[.slice A1 l1.length c1] 33);simpa only [World.size_alloc] using h))
 have HV:=am (fun W (hb:Below w.heap.size w W)=>jCa.calls k A0_0 c0_0 l0_0 A1 c1 l1 v W (Kd.jZ hr0_0 hb) hc0_0 (Kd.jZ hr1 hb) hc1 hv)
 cases v with
 | false =>
  rw [if_neg (by simp)] at h
  obtain rfl:=Option.some.inj h
  clear hv hr0_0 hr1
  go_enter Try.func19,Try.ntmps19
  go_wp2_with (go_at_call 17;refine (HV.out _ HB.out).mono ?_;rintro e w1 ⟨rfl,hb2⟩)
  go_ret
  exact ⟨_,rfl,Kd.R_nil _ _ _ _ _,jg HB.out hb2⟩
 | true =>
  rw [if_pos rfl] at h
  by_cases hlen:l0_0.length≤1000000000
  case neg=>rw [if_neg hlen] at h;cases h
  rw [if_pos hlen] at h
  have HF:=am (fun W (hb:Below w.heap.size w W) (B0 B1:Nat) (h0:W.cell? ⟨B0,0,none⟩=some (.slice A0_0 l0_0.length c0_0)) (h1:W.cell? ⟨B1,0,none⟩=some (.slice A1 l1.length c1))=>impl_EscapesOf_filt A0_0 c0_0 l0_0 B0 B1 (esv k l0_0 l1) r W (Kd.jZ hr0_0 hb) hlen h (fun W' hb' x b hx =>
   impl_EscapesOf1_calls k A0_0 c0_0 l0_0 A1 c1 l1 x b B0 B1 W' (Kd.jZ (Kd.jZ hr0_0 hb) hb') hc0_0 (Kd.jZ (Kd.jZ hr1 hb) hb') hc1 (jP hb' h0) (jP hb' h1) hx))
  clear hv h hr0_0 hr1 hlen
  go_enter Try.func19,Try.ntmps19
  go_wp2_with (first |(go_at_call 17;refine (HV.out _ HB.out).mono ?_;rintro e w1 ⟨rfl,hb2⟩;have hb1:=am (jg HB.out hb2);have c0:=jP hb2 CT.out;have c1':=jP hb2 CL.out;clear HV hb2) |(go_at_call 41;refine (HF.out _ hb1.out _ _ c0 c1').mono ?_;rintro e w2 ⟨v2,rfl,hr2,hb3⟩))
  go_ret
  exact ⟨_,rfl,Kd.jpa hr2 hb1.out.size,jg hb1.out hb3⟩
end Go.Proofs.Ytlhfcmbkjddgiaa.P
end
