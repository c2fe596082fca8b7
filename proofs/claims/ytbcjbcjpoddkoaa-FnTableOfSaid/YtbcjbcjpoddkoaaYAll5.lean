/- One part of the proofs on this program: functions of the program as plain functions, that the code comes to them, and facts on them. -/
import Derived.LoopIn
import Derived.LoopNIn
import Derived.OwnWalkIn
import Derived.RangeFuncBound
import Derived.RangeFuncBox
import Derived.RangeFuncCalls
import Derived.RangeFuncLeaves
import Derived.RangeFuncNested
import Derived.Shelf.Abstract
import Derived.Shelf.RegionOpen
import Derived.TacticsInMore
import Derived.WalkKit
import Derived.Test.YtbcjbcjpoddkoaaYAll1
import Derived.Test.YtbcjbcjpoddkoaaYAll2
import Derived.Test.YtbcjbcjpoddkoaaYAll4
import Derived.Test.YtbcjbcjpoddkoaaYWAuto
section
namespace Go.Proofs.Ytbcjbcjpoddkoaa.P
open Go.RowKit Go.Proofs.YtbcjbcjpoddkoaaW.PrintWords Go.Proofs.YtbcjbcjpoddkoaaW.PrintLast Go.Proofs.YtbcjbcjpoddkoaaW.PrintMore
attribute [local go_sem] jla jja jya jxa jY jX jka jia jh
set_option linter.unusedVariables false
set_option linter.unusedSimpArgs false
section
open Go.Shelf
attribute [local go_sem] Oper.semAt_some
theorem xwr {x : Int} (h : -9223372036854775808 ≤ x ∧ x ≤ 9223372036854775807) : wrap64 x = x := by unfold wrap64; omega
def upto {α : Type} (f : Nat → α) (k : Nat) : List α := (List.range k).map f
theorem upto_succ {α : Type} (f : Nat → α) (k : Nat) : upto f (k + 1) = upto f k ++ [f k] := by simp [upto, List.range_succ]
theorem upto_length {α : Type} (f : Nat → α) (k : Nat) : (upto f k).length = k := by simp [upto]
def jhc (n₀ Bs : Nat) (sv : Value) (W W' : World) : Prop := Below n₀ W W' ∧ (Boxed W Bs 28 sv → Boxed W' Bs 28 sv)
theorem backKeeps_t {n₀ Bs : Nat} {sv : Value} {A B C : World} (h : jhc n₀ Bs sv A B) (k : jhc n₀ Bs sv B C) : jhc n₀ Bs sv A C := ⟨h.1.trans k.1, fun x => k.2 (h.2 x)⟩
theorem backKeeps_b {n₀ Bs : Nat} {sv : Value} {w : World} (hn : n₀ ≤ w.heap.size) (W : World) (l : Nat) (o o' : Obj) (hl : w.heap.size ≤ l) (h : W.heap[l]? = some o) (hc : o.isCells = false) (hw : o.isWalk = false) : jhc n₀ Bs sv W (W.putObj l o') :=
 ⟨belowK_b hn W l o o' hl h hc hw,fun hb=>by
  refine hb.kept (grownBy_putObj' W l o') ?_
  intro e
  obtain rfl:Bs=l:=by simpa using e
  rw [show W.heap[Bs]?=_ from hb] at h
  cases h
  cases hc⟩
set_option maxRecDepth 100000 in
set_option maxHeartbeats 4000000 in
theorem backR1_in {α : Type} (F : Fence) (n : Nat) (h8 : F.fn 80) (hro : F.round = none) (hn : 1 ≤ n) (l Bs : Nat) (A : Option Addr) (cap : Nat) (xs : List S48) (w₀ : World) (hr : Kd.C k48 w₀ A xs.length xs)
  (encs:α→Array Value) (g:Nat→α) (hg:∀ j:Nat,j<xs.length→encs (g j)=#[.int .i64 ((xs.length:Int) - 1 - j), .agg #[.int .i64 (jSa xs ((xs.length:Int) - 1 - j)).f0, .int .i64 (jSa xs ((xs.length:Int) - 1 - j)).f1, .int .i64 (jSa xs ((xs.length:Int) - 1 - j)).f2, .int .i64 (jSa xs ((xs.length:Int) - 1 - j)).f3]])
  (J Jx:List α→World→Prop)
  (hY:∀ pre x W,J pre W→pre.length<xs.length→YieldAt F (n - 1) Try.prog l (encs x) W fun e W' =>
   (e=.returned (.bool true)∧J (pre ++ [x]) W'∧jhc w₀.heap.size Bs (.slice A xs.length cap) W W')∨(e=.returned (.bool false)∧Jx (pre ++ [x]) W'))
  (W:World) (hW:Below w₀.heap.size w₀ W) (hBs:Boxed W Bs 28 (.slice A xs.length cap)) (h0:J [] W) :
  CallsIn F n Try.prog 80 #[.func (.yield l) #[] #[], .pointer (some ⟨Bs,0,none⟩)] W fun e W'=>(∃ v,e=.returned v) ∧
   ((∃ ys,ys=upto g xs.length∧J ys W')∨(∃ pre,(∃ k,k≤xs.length∧pre=upto g k)∧Jx pre W')):=by
 have hm:xs.length≤9223372036854775807:=Kd.C_max hr
 have hu:=Try.underlying48
 have cBs:=hBs.cell
 refine callsIn_of_wp Try.func80 rfl h8 ?_ hro
 simp only [Try.ntmps80,List.size_toArray,List.length_cons,List.length_nil,Nat.reduceAdd,Nat.reduceSub,Array.replicate_succ,Array.replicate_zero,List.push_toArray,List.append_toArray,List.nil_append,List.cons_append]
 gi_wp2
 have hwr:wrap64 ((xs.length:Int) - 1)=(xs.length:Int) - 1:=xwr (by omega)
 gi_loopw [3] (fun i wr=>∃ k:Nat,k≤xs.length∧i=.int .i64 ((xs.length:Int) - 1 - k)∧J (upto g k) wr∧Below w₀.heap.size w₀ wr∧Boxed wr Bs 28 (.slice A xs.length cap))
  (fun i _=>(intOf i+1).toNat)
 case atStart=>exact ⟨0,Nat.zero_le _,by simp,h0,hW,hBs⟩
 case round =>
  obtain ⟨k,hk,rfl,hJs,hnx,hbx⟩:=hrel
  have cB:=hbx.cell
  by_cases hlt:k<xs.length
  ·obtain ⟨fn,tmps,assign,body,hy,hR⟩:=hY _ (g k) wr hJs (by rw [upto_length];exact hlt)
   rw [hg k hlt] at hy
   obtain ⟨j,hj⟩:∃ j:Nat,(xs.length:Int) - 1 - k=(j:Int):=⟨xs.length - 1 - k,by omega⟩
   have p0:0≤(j:Int):=by omega
   have p1:(j:Int)<(xs.length:Int):=by omega
   have p2:j<xs.length:=by omega
   rw [hj] at hy ⊢
   obtain ⟨ad,rfl,x0,x1,x2,x3⟩:=at_T48 (Kd.jV hr hnx) (j:Int) p0 p1
   rw [Int.toNat_natCast] at x0 x1 x2 x3
   gi_wp2
   refine hR.mono ?_
   rintro e W3 (⟨rfl,hJ3,hk3⟩ | ⟨rfl,hJx3⟩)
   ·have hb3:=hk3.2 hbx
    have c3:=hb3.cell
    gi_wp2
    go_roundw
    case rel=>exact ⟨k+1,by omega,by congr 1;omega,by rw [upto_succ];exact hJ3,hnx.trans hk3.1,hb3⟩
    case measure=>simp [intOf]
   ·gi_wp2
    refine bodyPost_ret (results_none rfl _ _ _) rfl ?_
    exact ⟨⟨_,rfl⟩, .inr ⟨_,⟨k+1,by omega,(upto_succ _ _).symm⟩,hJx3⟩⟩
  ·obtain rfl:k=xs.length:=by omega
   have q2:decide ((xs.length:Int) - 1 - xs.length≥0)=false:=dzF (by omega)
   gi_wp2
   go_end0
   exact ⟨⟨_,rfl⟩, .inl ⟨_,rfl,hJs⟩⟩
set_option linter.unusedVariables false
set_option linter.unusedSimpArgs false
def jO.at (k : Nat) (t : List S98) (i a : Int) (x : S48) : Option (Option Bool) :=
 (jI.f x.f0 0 24).bind fun b0=>if b0=true then (jI.f x.f1 x.f0 24).bind fun b1=>if b1=true then (jI.f x.f2 0 23).bind fun b2=>if b2=true then (jwa.f t x.f3).bind fun b3=>if b3=true then (if x.f0≤i then (if i<x.f1 then (jpb.f k t a x.f3).map some else some (some false)) else some (some false)) else some none else some none else some none else some none
def jO.step (k : Nat) (t : List S98) (i a : Int) (s : Option Int) (x : S48) : Option Int := s.bind fun tgt => match jO.at k t i a x with | some (some b) => some (if b = true then x.f2 else tgt) | _ => none
def jO.st (k : Nat) (t : List S98) (i a : Int) (pre : List S48) : Option Int := pre.foldl (jO.step k t i a) (some (-1))
def jO.f (k : Nat) (l0_0 : List S98) (l1 : List S48) (a2 a3 : Int) : Option Int :=
 (jNb.f k l0_0 [a3]).bind fun v=>if v=true then (if (l1.length:Int) > 24 then some (-1) else if l1.all (fun x=>(jO.at k l0_0 a2 a3 x).isSome)=true then some ((jO.st k l0_0 a2 a3 l1.reverse).getD (-1)) else none) else some (-1)
abbrev LkEl (k : Nat) (t : List S98) (i a : Int) := { x : Int × S48 // (jO.at k t i a x.2).isSome = true }
def LkEl.zero (k : Nat) (t : List S98) (i a : Int) : LkEl k t i a := ⟨(0, ⟨-1, 0, 0, 0⟩), by simp [jO.at, jI.f]⟩
def LkEl.of (k : Nat) (t : List S98) (i a : Int) (l : List S48) (j : Nat) : LkEl k t i a :=
 if h:(jO.at k t i a (jSa l ((l.length:Int) - 1 - j))).isSome=true then ⟨((l.length:Int) - 1 - j,jSa l ((l.length:Int) - 1 - j)),h⟩ else LkEl.zero k t i a
def LkEl.st {k : Nat} {t : List S98} {i a : Int} (pre : List (LkEl k t i a)) : Option Int := jO.st k t i a (pre.map fun x => x.1.2)
theorem LkEl.st_snoc {k : Nat} {t : List S98} {i a : Int} (pre : List (LkEl k t i a)) (x : LkEl k t i a) : LkEl.st (pre ++ [x]) = jO.step k t i a (LkEl.st pre) x.1.2 := by
 simp [LkEl.st,jO.st]
theorem LkEl.enc {k : Nat} {t : List S98} {i a : Int} {l : List S48} (hall : ∀ x ∈ l, (jO.at k t i a x).isSome = true) {j : Nat} (hj : j < l.length) :
  (fun x:LkEl k t i a=>#[Value.int .i64 x.1.1, .agg #[.int .i64 x.1.2.f0, .int .i64 x.1.2.f1, .int .i64 x.1.2.f2, .int .i64 x.1.2.f3]]) (LkEl.of k t i a l j)=#[.int .i64 ((l.length:Int) - 1 - j), .agg #[.int .i64 (jSa l ((l.length:Int) - 1 - j)).f0, .int .i64 (jSa l ((l.length:Int) - 1 - j)).f1, .int .i64 (jSa l ((l.length:Int) - 1 - j)).f2, .int .i64 (jSa l ((l.length:Int) - 1 - j)).f3]]:=by
 have h:(jO.at k t i a (jSa l ((l.length:Int) - 1 - j))).isSome=true:=by
  refine hall _ ?_
  have e:((l.length:Int) - 1 - j).toNat=l.length - 1 - j:=by omega
  have h2:l.length - 1 - j<l.length:=by omega
  rw [jSa,e,List.getD_eq_getElem?_getD,List.getElem?_eq_getElem h2]
  exact List.getElem_mem h2
 simp only [LkEl.of,dif_pos h]
theorem LkEl.map_upto {k : Nat} {t : List S98} {i a : Int} {l : List S48} (hall : ∀ x ∈ l, (jO.at k t i a x).isSome = true) {q : Nat} (hq : q ≤ l.length) : (upto (LkEl.of k t i a l) q).map (fun x => x.1.2) = l.reverse.take q := by
 apply List.ext_getElem
 ·simp [upto_length];omega
 ·intro j h1 h2
  have hj:j<q:=by simpa [upto_length] using h1
  have hj2:j<l.length:=by omega
  have e:((l.length:Int) - 1 - j).toNat=l.length - 1 - j:=by omega
  have h3:l.length - 1 - j<l.length:=by omega
  have hx:jSa l ((l.length:Int) - 1 - j)=l[l.length - 1 - j]:=by
   rw [jSa,e,List.getD_eq_getElem?_getD,List.getElem?_eq_getElem h3];rfl
  have h4:(jO.at k t i a (jSa l ((l.length:Int) - 1 - j))).isSome=true:=by rw [hx];exact hall _ (List.getElem_mem h3)
  simp only [List.getElem_map,List.getElem_take,List.getElem_reverse,upto,List.getElem_range,LkEl.of,dif_pos h4]
  exact hx
theorem LkEl.st_all {k : Nat} {t : List S98} {i a : Int} {l : List S48} (hall : ∀ x ∈ l, (jO.at k t i a x).isSome = true) : LkEl.st (upto (LkEl.of k t i a l) l.length) = jO.st k t i a l.reverse := by
 rw [LkEl.st,LkEl.map_upto hall (Nat.le_refl _),List.take_of_length_le (by simp)]
theorem st_stays (k : Nat) (t : List S98) (i a : Int) : ∀ l : List S48, l.foldl (jO.step k t i a) none = none
 | []=>rfl
 | x :: l=>st_stays k t i a l
theorem LkEl.st_none {k : Nat} {t : List S98} {i a : Int} {l : List S48} (hall : ∀ x ∈ l, (jO.at k t i a x).isSome = true) {q : Nat} (hq : q ≤ l.length) (h : LkEl.st (upto (LkEl.of k t i a l) q) = none) : jO.st k t i a l.reverse = none := by
 rw [LkEl.st,LkEl.map_upto hall hq,jO.st] at h
 rw [jO.st,← List.take_append_drop q l.reverse,List.foldl_append,h]
 exact st_stays _ _ _ _ _
theorem jOc (a b c : Int) : ∃ v, jI.f a b c = some v := by unfold jI.f; split <;> exact ⟨_, rfl⟩
theorem has_some (t : List S98) (a : Int) : ∃ v, jwa.f t a = some v := by
 obtain ⟨v,e⟩:=jOc a 0 (wrap64 ((t.length:Int) - 1))
 exact ⟨v,by simp [jwa.f,e]⟩
theorem KeepsFrom.of_below {W W' : World} (h : Below W.heap.size W W') (B : Nat) : KeepsFrom B W W' := ⟨h.size, fun k o _ hk _ => (h.block k (Array.getElem?_eq_some_iff.1 hk).1).trans hk⟩
theorem Boxed.lies {W W' : World} {B : Nat} {t : TypeId} {v : Value} (h : Boxed W B t v) (hb : Below W.heap.size W W') : Boxed W' B t v := (hb.block B h.lt).trans h
theorem C_one {W : World} {b : Nat} {x : Int} (h : Boxed W b 3 (.int .i64 x)) : Kd.C (Kd.int .i64) W (some ⟨b, 0, none⟩) [x].length [x] :=
 Kd.C_of_reads (d:=0) (h1:=fun _=>rfl) ⟨rfl,by simp,fun _=>⟨_,rfl,fun j hj=>by
  obtain rfl:j=0:=by simpa using hj
  exact h.cell⟩⟩
set_option maxHeartbeats 1000000 in
theorem backR_in (F : Fence) (n : Nat) (h6 : F.fn 49) (hro : F.round = none) (a : Option Addr) (len cap : Nat) (w : World) :
  CallsIn F n Try.prog 49 #[.slice a len cap] w fun e w'=>e=.returned (.func (.func 80) #[] #[.pointer (some ⟨w.heap.size,0,none⟩)])∧w'=w.alloc (.cells #[.slice a len cap] 28):=by
 refine callsIn_of_wp Try.func49 rfl h6 ?_ hro
 simp only [Try.ntmps49,List.size_toArray,List.length_cons,List.length_nil,Nat.reduceAdd,Nat.reduceSub,Array.replicate_succ,Array.replicate_zero,List.push_toArray,List.append_toArray,List.nil_append,List.cons_append]
 gi_wp2
 go_ret
 exact ⟨rfl,rfl⟩
set_option maxHeartbeats 8000000 in
set_option maxRecDepth 100000 in
theorem jO.calls (k : Nat) (A0_0 : Option Addr) (c0_0 : Nat) (l0_0 : List (S98)) (A1 : Option Addr) (c1 : Nat) (l1 : List (S48)) (a2 a3 : Int) (r : Int) (w : World) (hr0_0 : Kd.C k98 w A0_0 l0_0.length l0_0) (hc0_0 : l0_0.length ≤ c0_0) (hr1 : Kd.C k48 w A1 l1.length l1) (hc1 : l1.length ≤ c1) (h : jO.f k l0_0 l1 a2 a3 = some r) :
  Calls Try.prog 23 #[.agg #[.slice A0_0 l0_0.length c0_0], .slice A1 l1.length c1, .int .i64 a2, .int .i64 a3] w fun e w'=>e=.returned (.int .i64 r)∧Below w.heap.size w w':=by
 obtain ⟨v,hv,h⟩:=bzS h
 have hu32:=Try.underlying32
 have hu48:=Try.underlying48
 have HC:=am (fun (W:World) (hb:Below w.heap.size w W) (A:Option Addr) (c:Nat) (hC:Kd.C (Kd.int .i64) W A [a3].length [a3]) (hc:[a3].length≤c)=>jNb.calls k A0_0 c0_0 l0_0 A c [a3] v W (Kd.jV hr0_0 hb) hc0_0 hC hc hv)
 refine (callsIn_wide (n:=8)).1 ?_
 have hro:Fence.wide.round=none:=rfl
 refine callsIn_of_wp_marks Try.func23 rfl trivial ?_ hro
 simp only [Try.ntmps23,List.size_toArray,List.length_cons,List.length_nil,Nat.reduceAdd,Nat.reduceSub,Array.replicate_succ,Array.replicate_zero,List.push_toArray,List.append_toArray,List.nil_append,List.cons_append]
 have b0:=(((Boxed.new w 32 (.slice A0_0 l0_0.length c0_0)).alloc (.cells #[.int .i64 a2] 3)).alloc (.cells #[.int .i64 a3] 3)).alloc (.cells #[.int .i64 0] 3) |>.alloc (.cells #[.int .i64 a3] 3)
 have b1:=(((Boxed.new (w.alloc (.cells #[.slice A0_0 l0_0.length c0_0] 32)) 3 (.int .i64 a2)).alloc (.cells #[.int .i64 a3] 3)).alloc (.cells #[.int .i64 0] 3)).alloc (.cells #[.int .i64 a3] 3)
 have b2:=((Boxed.new ((w.alloc (.cells #[.slice A0_0 l0_0.length c0_0] 32)).alloc (.cells #[.int .i64 a2] 3)) 3 (.int .i64 a3)).alloc (.cells #[.int .i64 0] 3)).alloc (.cells #[.int .i64 a3] 3)
 have b3:=(Boxed.new (((w.alloc (.cells #[.slice A0_0 l0_0.length c0_0] 32)).alloc (.cells #[.int .i64 a2] 3)).alloc (.cells #[.int .i64 a3] 3)) 3 (.int .i64 0)).alloc (.cells #[.int .i64 a3] 3)
 have b4:=Boxed.new ((((w.alloc (.cells #[.slice A0_0 l0_0.length c0_0] 32)).alloc (.cells #[.int .i64 a2] 3)).alloc (.cells #[.int .i64 a3] 3)).alloc (.cells #[.int .i64 0] 3)) 3 (.int .i64 a3)
 simp only [World.size_alloc] at b1 b2 b3 b4
 have hB4:Below w.heap.size w (((((w.alloc (.cells #[.slice A0_0 l0_0.length c0_0] 32)).alloc (.cells #[.int .i64 a2] 3)).alloc (.cells #[.int .i64 a3] 3)).alloc (.cells #[.int .i64 0] 3)).alloc (.cells #[.int .i64 a3] 3)) :=
  (((((Below.refl _ w).alloc (Nat.le_refl _) _).alloc (by simp) _).alloc (by simp;omega) _).alloc (by simp;omega) _).alloc (by simp;omega) _
 obtain ⟨W4,hW4⟩:∃ W4,((((w.alloc (.cells #[.slice A0_0 l0_0.length c0_0] 32)).alloc (.cells #[.int .i64 a2] 3)).alloc (.cells #[.int .i64 a3] 3)).alloc (.cells #[.int .i64 0] 3)).alloc (.cells #[.int .i64 a3] 3)=W4:=⟨_,rfl⟩
 rw [hW4] at b0 b1 b2 b3 b4 hB4
 have hcall:=HC.out W4 hB4 _ 1 (C_one b4) (by simp)
 have hs4:W4.heap.size=w.heap.size+5:=by rw [← hW4];simp
 by_cases hv1:v=true
 ·subst hv1
  rw [if_pos rfl] at h
  by_cases hl:(l1.length:Int) > 24
  ·rw [if_pos hl] at h
   obtain rfl:=Option.some.inj h
   have hlb:=dzT hl
   gi_wp2_with (refine ⟨trivial,?_⟩;gi_at_call 48;refine (callsIn_wide.2 hcall).mono ?_;rintro e w1 ⟨rfl,hb1⟩;have k3:=Boxed.lies b3 hb1;have c3:=Boxed.cell k3;have f3:=Boxed.frozen k3)
   have c5:=World.cell?_setCell_same' w1 ⟨w.heap.size+1+1+1,0,none⟩ (.int .i64 (-1)) (by rw [c3];rfl)
   refine ⟨.int .i64 (-1),?_,rfl,?_⟩
   ·simp [results,Try.f23,go_sem,c5]
   ·exact (hB4.trans (hb1.mono (by omega))).setCell (p:=⟨w.heap.size+1+1+1,0,none⟩) (by simp;omega) _
  ·rw [if_neg hl] at h
   have hlb:=dzF hl
   gi_wp2_with (first |(refine ⟨trivial,?_⟩;gi_at_call 48;refine (callsIn_wide.2 hcall).mono ?_;rintro e w1 ⟨rfl,hb1⟩;have k3:=Boxed.lies b3 hb1;have c3:=Boxed.cell k3;have f3:=Boxed.frozen k3) |(refine ⟨trivial,?_⟩;gi_at_call 49;refine (backR_in Fence.wide _ trivial hro _ _ _ _).mono ?_;rintro e w' ⟨rfl,rfl⟩))
   by_cases hall:(l1.all fun x=>(jO.at k l0_0 a2 a3 x).isSome)=true
   case neg=>rw [if_neg hall] at h;cases h
   rw [if_pos hall] at h
   have hall2:∀ x ∈ l1,(jO.at k l0_0 a2 a3 x).isSome=true:=by simpa using hall
   have B0:Below w.heap.size w ((w1.alloc (.cells #[.int .i64 (-1)] 3)).alloc (.cells #[.slice A1 l1.length c1] 28)):=by
    have hs1:=hb1.size
    exact ((hB4.trans (hb1.mono (by omega))).alloc (by omega) _).alloc (by simp;omega) _
   have d0:=((Boxed.lies b0 hb1).alloc (.cells #[.int .i64 (-1)] 3)).alloc (.cells #[.slice A1 l1.length c1] 28)
   have d1:=((Boxed.lies b1 hb1).alloc (.cells #[.int .i64 (-1)] 3)).alloc (.cells #[.slice A1 l1.length c1] 28)
   have d2:=((Boxed.lies b2 hb1).alloc (.cells #[.int .i64 (-1)] 3)).alloc (.cells #[.slice A1 l1.length c1] 28)
   have d3:=((Boxed.lies b3 hb1).alloc (.cells #[.int .i64 (-1)] 3)).alloc (.cells #[.slice A1 l1.length c1] 28)
   have d9:=(Boxed.new w1 3 (.int .i64 (-1))).alloc (.cells #[.slice A1 l1.length c1] 28)
   have dS:=Boxed.new (w1.alloc (.cells #[.int .i64 (-1)] 3)) 28 (.slice A1 l1.length c1)
   rw [World.size_alloc] at dS
   have hsz1:w.heap.size+5≤w1.heap.size:=by have:=hb1.size;omega
   obtain ⟨W0,hW0⟩:∃ W0,(w1.alloc (.cells #[.int .i64 (-1)] 3)).alloc (.cells #[.slice A1 l1.length c1] 28)=W0:=⟨_,rfl⟩
   have hs0:W0.heap.size=w1.heap.size+2:=by rw [← hW0];simp
   rw [hW0] at B0 d0 d1 d2 d3 d9 dS ⊢
   have hW:=am hW0
   clear hW0
   refine wpIn_rangeFunc_ownH hro (by omega) (gf:=80) (lb:=#[.pointer (some ⟨w1.heap.size+1,0,none⟩)]) rfl trivial (enters_of Try.func80 (by kernel_rfl) rfl)
    (encs:=fun x:LkEl k l0_0 a2 a3=>#[.int .i64 x.1.1, .agg #[.int .i64 x.1.2.f0, .int .i64 x.1.2.f1, .int .i64 x.1.2.f2, .int .i64 x.1.2.f3]]) (Kp:=jhc w.heap.size (w1.heap.size+1) (.slice A1 l1.length c1))
    (S:=fun ys=>ys=upto (LkEl.of k l0_0 a2 a3 l1) l1.length) (Sp:=fun pre=>∃ q,q≤l1.length∧pre=upto (LkEl.of k l0_0 a2 a3 l1) q) (N:=l1.length) (w0:=W0)
    (fun l J Jx W hW _ _ hY h0=>backR1_in Fence.wide _ trivial hro (by omega) l _ A1 c1 l1 w hr1 _ (LkEl.of k l0_0 a2 a3 l1) (fun j hj=>LkEl.enc hall2 hj) J Jx hY W (B0.trans (hW.mono B0.size)) (Boxed.lies dS hW) h0)
    backKeeps_t (backKeeps_b (by omega)) (Below.refl _ _) (fun _=>rfl)
    (fun pre W=>((((((Boxed W w.heap.size 32 (.slice A0_0 l0_0.length c0_0)∧Boxed W (w.heap.size+1) 3 (.int .i64 a2))∧Boxed W (w.heap.size+1+1) 3 (.int .i64 a3))∧Boxed W (w.heap.size+1+1+1) 3 (.int .i64 0))∧Boxed W (w1.heap.size+1) 28 (.slice A1 l1.length c1))∧Boxed W w1.heap.size 3 (.int .i64 ((LkEl.st pre).getD 0)))∧(LkEl.st pre).isSome=true)∧Below w.heap.size w W)
    (fun c pre W=>(Boxed W (w.heap.size+1+1+1) 3 (.int .i64 (-1))∧(c=.ret∧LkEl.st pre=none))∧Below w.heap.size w W)
    (OwnFrom.and (OwnFrom.and (OwnFrom.and (OwnFrom.and (OwnFrom.and (OwnFrom.and (OwnFrom.and (Own.from (boxed_own _ _ fun _=>_) _) (Own.from (boxed_own _ _ fun _=>_) _)) (Own.from (boxed_own _ _ fun _=>_) _)) (Own.from (boxed_own _ _ fun _=>_) _)) (Own.from (boxed_own _ _ fun _=>_) _)) (Own.from (boxed_own _ _ (fun pre=>Value.int .i64 ((LkEl.st pre).getD 0))) _)) (ownFrom_pure _ _)) (ownFrom_below (Nat.le_refl _) (by omega)))
    (fun c=>OwnFrom.and (OwnFrom.and (Own.from (boxed_own _ _ fun _=>_) _) (ownFrom_pure _ _)) (ownFrom_below (Nat.le_refl _) (by omega)))
    ⟨⟨⟨⟨⟨⟨⟨d0,d1⟩,d2⟩,d3⟩,dS⟩,d9⟩,rfl⟩,B0⟩
    (fun x a' W=>∃ Bx,w1.heap.size+1<Bx∧W.heap[Bx]?=some (.cells #[.int .i64 x.1.2.f0, .int .i64 x.1.2.f1, .int .i64 x.1.2.f2, .int .i64 x.1.2.f3] 48 (0,0))∧a'={ tmps:=#[.agg #[.slice A0_0 l0_0.length c0_0], .slice A1 l1.length c1, .int .i64 a2, .int .i64 a3, .pointer (some ⟨w.heap.size,0,none⟩),undef, .pointer (some ⟨w.heap.size+1,0,none⟩), .pointer (some ⟨w.heap.size+1+1,0,none⟩), .pointer (some ⟨w.heap.size+1+1+1,0,none⟩), .pointer (some ⟨w1.heap.size,0,none⟩),undef, .pointer (some ⟨Bx,0,none⟩), .agg #[.slice A0_0 l0_0.length c0_0], .int .i64 a3, .slice (some ⟨w.heap.size+1+1+1+1,0,none⟩) 1 1, .bool true, .bool false, .bool false, .slice A1 l1.length c1, .int .i64 (l1.length:Int), .bool false, .bool false, .slice A1 l1.length c1, .func (.func 80) #[] #[.pointer (some ⟨w1.heap.size+1,0,none⟩)], .int .i64 x.1.1, .agg #[.int .i64 x.1.2.f0, .int .i64 x.1.2.f1, .int .i64 x.1.2.f2, .int .i64 x.1.2.f3],undef,undef,undef,undef,undef,undef,undef,undef,undef,undef,undef,undef,undef,undef,undef,undef,undef,undef,undef,undef,undef,undef,undef,undef,undef,undef,undef,undef,undef,undef,undef,undef,undef,undef,undef,undef,undef,undef,undef,undef,undef,undef,undef,undef,undef],defers:=[] })
    (fun x a' _ X Y row hs hg hr=>by
     obtain ⟨Bx,h1,h2,h3⟩:=hs
     refine ⟨Bx,h1,(hg.block Bx (Array.getElem?_eq_some_iff.1 h2).1 (fun e=>?_)).trans h2,h3⟩
     obtain ⟨o,ho,hc⟩:=(hr Bx e.symm).2
     rw [h2] at ho;cases ho;cases hc)
    ?assign ?body ?done ?stop
   case assign =>
    rintro l pre x W K ⟨⟨⟨⟨⟨⟨⟨i0,i1⟩,i2⟩,i3⟩,iS⟩,i9⟩,hst⟩,hB⟩ hK
    gi_wp2
    exact hK _ _ ((KeepsOthers.alloc _ _).from _) ⟨(Below.refl _ W).alloc hB.size _,fun h=>h.alloc _⟩ ⟨⟨⟨⟨⟨⟨⟨i0.alloc _,i1.alloc _⟩,i2.alloc _⟩,i3.alloc _⟩,iS.alloc _⟩,i9.alloc _⟩,hst⟩,hB.alloc hB.size _⟩ ⟨W.heap.size,by have:=iS.lt;omega,World.alloc_heap_new W _,rfl⟩
   case body =>
    rintro l pre ⟨⟨ix,x⟩,hx⟩ a' W hl ⟨rr,hrr⟩ ⟨⟨⟨⟨⟨⟨⟨i0,i1⟩,i2⟩,i3⟩,iS⟩,i9⟩,hst⟩,hB⟩ ⟨Bx,hBx,bX,rfl⟩ hlt
    obtain ⟨tgt,htgt⟩:=Option.isSome_iff_exists.1 hst
    rw [htgt] at i9
    have x0:W.cell? ⟨Bx,0,none⟩=some (.int .i64 x.f0):=(jA bX 0).trans rfl
    have x1:W.cell? ⟨Bx,1,none⟩=some (.int .i64 x.f1):=(jA bX 1).trans rfl
    have x2:W.cell? ⟨Bx,2,none⟩=some (.int .i64 x.f2):=(jA bX 2).trans rfl
    have x3:W.cell? ⟨Bx,3,none⟩=some (.int .i64 x.f3):=(jA bX 3).trans rfl
    have c0:=i0.cell
    have c1':=i1.cell
    have c2:=i2.cell
    have c3':=i3.cell
    have f3':=i3.frozen
    have c9:=i9.cell
    have f9:=i9.frozen
    obtain ⟨v0,e0⟩:=jOc x.f0 0 24
    obtain ⟨v1,e1⟩:=jOc x.f1 x.f0 24
    obtain ⟨v2,e2⟩:=jOc x.f2 0 23
    obtain ⟨v3,e3⟩:=has_some l0_0 x.f3
    have hsn:=LkEl.st_snoc pre ⟨(ix,x),hx⟩
    rw [htgt] at hsn
    simp only [jO.step,Option.bind_some] at hsn
    have K0:=am (fun W'=>(jI.calls x.f0 0 24 v0 W' e0))
    have K1:=am (fun W'=>(jI.calls x.f1 x.f0 24 v1 W' e1))
    have K2:=am (fun W'=>(jI.calls x.f2 0 23 v2 W' e2))
    have K3:=am (fun W' (hb:Below w.heap.size w W')=>(jwa.calls A0_0 c0_0 l0_0 x.f3 v3 W' (Kd.jV hr0_0 hb) hc0_0 e3))
    have LV:=am (show ∀ W2,Below W.heap.size W W2→LkEl.st (pre ++ [⟨(ix,x),hx⟩])=none→KeepsFrom W0.heap.size W (W2.setCell ⟨w.heap.size+1+1+1,0,none⟩ (.int .i64 (-1)))∧((Boxed (W2.setCell ⟨w.heap.size+1+1+1,0,none⟩ (.int .i64 (-1))) (w.heap.size+1+1+1) 3 (.int .i64 (-1))∧(Code.ret=.ret∧LkEl.st (pre ++ [⟨(ix,x),hx⟩])=none))∧Below w.heap.size w (W2.setCell ⟨w.heap.size+1+1+1,0,none⟩ (.int .i64 (-1)))) from fun W2 hb hs =>
     ⟨(KeepsFrom.of_below hb _).trans ((KeepsOthers.setCell _ _ _).from _),⟨(Boxed.lies i3 hb).set _,rfl,hs⟩,(hB.trans (hb.mono hB.size)).setCell (p:=⟨w.heap.size+1+1+1,0,none⟩) (by simp;omega) _⟩)
    have G1:=am (show ∀ W2,Below W.heap.size W W2→LkEl.st (pre ++ [⟨(ix,x),hx⟩])=some tgt→KeepsFrom W0.heap.size W W2∧jhc w.heap.size (w1.heap.size+1) (.slice A1 l1.length c1) W W2∧(((((((Boxed W2 w.heap.size 32 (.slice A0_0 l0_0.length c0_0)∧Boxed W2 (w.heap.size+1) 3 (.int .i64 a2))∧Boxed W2 (w.heap.size+1+1) 3 (.int .i64 a3))∧Boxed W2 (w.heap.size+1+1+1) 3 (.int .i64 0))∧Boxed W2 (w1.heap.size+1) 28 (.slice A1 l1.length c1))∧Boxed W2 w1.heap.size 3 (.int .i64 ((LkEl.st (pre ++ [⟨(ix,x),hx⟩])).getD 0)))∧(LkEl.st (pre ++ [⟨(ix,x),hx⟩])).isSome=true)∧Below w.heap.size w W2) from fun W2 hb hs =>
     ⟨KeepsFrom.of_below hb _,⟨hb.mono hB.size,fun h=>Boxed.lies h hb⟩,⟨⟨⟨⟨⟨⟨Boxed.lies i0 hb,Boxed.lies i1 hb⟩,Boxed.lies i2 hb⟩,Boxed.lies i3 hb⟩,Boxed.lies iS hb⟩,by rw [hs];exact Boxed.lies i9 hb⟩,by rw [hs];rfl⟩,hB.trans (hb.mono hB.size)⟩)
    have G2:=am (show ∀ W2,Below W.heap.size W W2→LkEl.st (pre ++ [⟨(ix,x),hx⟩])=some x.f2→KeepsFrom W0.heap.size W (W2.setCell ⟨w1.heap.size,0,none⟩ (.int .i64 x.f2))∧jhc w.heap.size (w1.heap.size+1) (.slice A1 l1.length c1) W (W2.setCell ⟨w1.heap.size,0,none⟩ (.int .i64 x.f2))∧(((((((Boxed (W2.setCell ⟨w1.heap.size,0,none⟩ (.int .i64 x.f2)) w.heap.size 32 (.slice A0_0 l0_0.length c0_0)∧Boxed (W2.setCell ⟨w1.heap.size,0,none⟩ (.int .i64 x.f2)) (w.heap.size+1) 3 (.int .i64 a2))∧Boxed (W2.setCell ⟨w1.heap.size,0,none⟩ (.int .i64 x.f2)) (w.heap.size+1+1) 3 (.int .i64 a3))∧Boxed (W2.setCell ⟨w1.heap.size,0,none⟩ (.int .i64 x.f2)) (w.heap.size+1+1+1) 3 (.int .i64 0))∧Boxed (W2.setCell ⟨w1.heap.size,0,none⟩ (.int .i64 x.f2)) (w1.heap.size+1) 28 (.slice A1 l1.length c1))∧Boxed (W2.setCell ⟨w1.heap.size,0,none⟩ (.int .i64 x.f2)) w1.heap.size 3 (.int .i64 ((LkEl.st (pre ++ [⟨(ix,x),hx⟩])).getD 0)))∧(LkEl.st (pre ++ [⟨(ix,x),hx⟩])).isSome=true)∧Below w.heap.size w (W2.setCell ⟨w1.heap.size,0,none⟩ (.int .i64 x.f2))) from fun W2 hb hs =>
     ⟨(KeepsFrom.of_below hb _).trans ((KeepsOthers.setCell _ _ _).from _),⟨(hb.mono hB.size).setCell (p:=⟨w1.heap.size,0,none⟩) (by simp;omega) _,fun h=>(Boxed.lies h hb).other (by omega) _⟩,⟨⟨⟨⟨⟨⟨(Boxed.lies i0 hb).other (by omega) _,(Boxed.lies i1 hb).other (by omega) _⟩,(Boxed.lies i2 hb).other (by omega) _⟩,(Boxed.lies i3 hb).other (by omega) _⟩,(Boxed.lies iS hb).other (by omega) _⟩,by rw [hs];exact (Boxed.lies i9 hb).set _⟩,by rw [hs];rfl⟩,(hB.trans (hb.mono hB.size)).setCell (p:=⟨w1.heap.size,0,none⟩) (by simp;omega) _⟩)
    cases v0 with
    | false =>
     have hat:jO.at k l0_0 a2 a3 x=some none:=by simp [jO.at,e0]
     rw [hat] at hsn
     gi_wp2_with (first |(refine ⟨trivial,?_⟩;gi_at_call 45;refine (CallsIn.inRound l (callsIn_wide.2 (K0.out _))).mono ?_;clear K0;rintro e w' ⟨rfl,⟨n0,rfl⟩⟩) |(refine ⟨trivial,?_⟩))
     have q:=LV.out (W.drewN n0) (Y26) hsn;exact ⟨q.1,⟨q.2.1.1,rfl,hsn⟩,q.2.2⟩
    | true =>
    cases v1 with
    | false =>
     have hat:jO.at k l0_0 a2 a3 x=some none:=by simp [jO.at,e0,e1]
     rw [hat] at hsn
     gi_wp2_with (first |(refine ⟨trivial,?_⟩;gi_at_call 45;refine (CallsIn.inRound l (callsIn_wide.2 (K0.out _))).mono ?_;clear K0;rintro e w' ⟨rfl,⟨n0,rfl⟩⟩) |(refine ⟨trivial,?_⟩;gi_at_call 45;refine (CallsIn.inRound l (callsIn_wide.2 (K1.out _))).mono ?_;clear K1;rintro e w' ⟨rfl,⟨n1,rfl⟩⟩) |(refine ⟨trivial,?_⟩))
     have q:=LV.out (W.drewN (n0+n1)) (Y26) hsn;exact ⟨q.1,⟨q.2.1.1,rfl,hsn⟩,q.2.2⟩
    | true =>
    cases v2 with
    | false =>
     have hat:jO.at k l0_0 a2 a3 x=some none:=by simp [jO.at,e0,e1,e2]
     rw [hat] at hsn
     gi_wp2_with (first |(refine ⟨trivial,?_⟩;gi_at_call 45;refine (CallsIn.inRound l (callsIn_wide.2 (K0.out _))).mono ?_;clear K0;rintro e w' ⟨rfl,⟨n0,rfl⟩⟩) |(refine ⟨trivial,?_⟩;gi_at_call 45;refine (CallsIn.inRound l (callsIn_wide.2 (K1.out _))).mono ?_;clear K1;rintro e w' ⟨rfl,⟨n1,rfl⟩⟩) |(refine ⟨trivial,?_⟩;gi_at_call 45;refine (CallsIn.inRound l (callsIn_wide.2 (K2.out _))).mono ?_;clear K2;rintro e w' ⟨rfl,⟨n2,rfl⟩⟩) |(refine ⟨trivial,?_⟩))
     have q:=LV.out (W.drewN (n0+n1+n2)) (Y26) hsn;exact ⟨q.1,⟨q.2.1.1,rfl,hsn⟩,q.2.2⟩
    | true =>
    cases v3 with
    | false =>
     have hat:jO.at k l0_0 a2 a3 x=some none:=by simp [jO.at,e0,e1,e2,e3]
     rw [hat] at hsn
     gi_wp2_with (first |(refine ⟨trivial,?_⟩;gi_at_call 45;refine (CallsIn.inRound l (callsIn_wide.2 (K0.out _))).mono ?_;clear K0;rintro e w' ⟨rfl,⟨n0,rfl⟩⟩) |(refine ⟨trivial,?_⟩;gi_at_call 45;refine (CallsIn.inRound l (callsIn_wide.2 (K1.out _))).mono ?_;clear K1;rintro e w' ⟨rfl,⟨n1,rfl⟩⟩) |(refine ⟨trivial,?_⟩;gi_at_call 45;refine (CallsIn.inRound l (callsIn_wide.2 (K2.out _))).mono ?_;clear K2;rintro e w' ⟨rfl,⟨n2,rfl⟩⟩) |(refine ⟨trivial,?_⟩;gi_at_call 50;refine (CallsIn.inRound l (callsIn_wide.2 (K3.out _ (hB.trans (Below.mono (show Below W.heap.size W _ from Y26) hB.size))))).mono ?_;rintro e w4 ⟨rfl,hb4⟩;have hb5:Below W.heap.size W w4:=(show Below W.heap.size W _ from Y26).trans (hb4.mono (Below.size (show Below W.heap.size W _ from Y26)));have hz:=Boxed.lies i0 hb5;have z0:=Boxed.cell hz;have hz1:=Boxed.lies i1 hb5;have z1:=Boxed.cell hz1;have hz2:=Boxed.lies i2 hb5;have z2:=Boxed.cell hz2;have hz3:=Boxed.lies i3 hb5;have z3:=Boxed.cell hz3;have g3:=Boxed.frozen hz3;have hz9:=Boxed.lies i9 hb5;have z9:=Boxed.cell hz9;have g9:=Boxed.frozen hz9;have bX5:=(hb5.block Bx (jrb bX)).trans bX;have y0:w4.cell? ⟨Bx,0,none⟩=some (.int .i64 x.f0):=(jA bX5 0).trans rfl;have y1:w4.cell? ⟨Bx,1,none⟩=some (.int .i64 x.f1):=(jA bX5 1).trans rfl;have y2:w4.cell? ⟨Bx,2,none⟩=some (.int .i64 x.f2):=(jA bX5 2).trans rfl;have y3:w4.cell? ⟨Bx,3,none⟩=some (.int .i64 x.f3):=(jA bX5 3).trans rfl) |(refine ⟨trivial,?_⟩))
     have q:=LV.out _ hb5 hsn;exact ⟨q.1,⟨q.2.1.1,rfl,hsn⟩,q.2.2⟩
    | true =>
     have hat:jO.at k l0_0 a2 a3 x=if x.f0≤a2 then (if a2<x.f1 then (jpb.f k l0_0 a3 x.f3).map some else some (some false)) else some (some false):=by simp [jO.at,e0,e1,e2,e3]
     by_cases q0:x.f0≤a2
     ·rw [if_pos q0] at hat
      have q0b:=dzT q0
      by_cases q1:a2<x.f1
      ·rw [if_pos q1] at hat
       have q1b:=dzT q1
       obtain ⟨v5,e5⟩:∃ v5,jpb.f k l0_0 a3 x.f3=some v5:=by
        have hx2:(jO.at k l0_0 a2 a3 x).isSome=true:=hx
        rw [hat] at hx2
        cases hq:jpb.f k l0_0 a3 x.f3 with
        | none=>rw [hq] at hx2;cases hx2
        | some v5=>exact ⟨v5,rfl⟩
       rw [hat,e5] at hsn
       have K5:=am (fun W' (hb:Below w.heap.size w W')=>(jpb.calls k A0_0 c0_0 l0_0 a3 x.f3 v5 W' (Kd.jV hr0_0 hb) hc0_0 e5))
       cases v5 with
       | true =>
        gi_wp2_with (first |(refine ⟨trivial,?_⟩;gi_at_call 45;refine (CallsIn.inRound l (callsIn_wide.2 (K0.out _))).mono ?_;clear K0;rintro e w' ⟨rfl,⟨n0,rfl⟩⟩) |(refine ⟨trivial,?_⟩;gi_at_call 45;refine (CallsIn.inRound l (callsIn_wide.2 (K1.out _))).mono ?_;clear K1;rintro e w' ⟨rfl,⟨n1,rfl⟩⟩) |(refine ⟨trivial,?_⟩;gi_at_call 45;refine (CallsIn.inRound l (callsIn_wide.2 (K2.out _))).mono ?_;clear K2;rintro e w' ⟨rfl,⟨n2,rfl⟩⟩) |(refine ⟨trivial,?_⟩;gi_at_call 50;refine (CallsIn.inRound l (callsIn_wide.2 (K3.out _ (hB.trans (Below.mono (show Below W.heap.size W _ from Y26) hB.size))))).mono ?_;rintro e w4 ⟨rfl,hb4⟩;have hb5:Below W.heap.size W w4:=(show Below W.heap.size W _ from Y26).trans (hb4.mono (Below.size (show Below W.heap.size W _ from Y26)));have hz:=Boxed.lies i0 hb5;have z0:=Boxed.cell hz;have hz1:=Boxed.lies i1 hb5;have z1:=Boxed.cell hz1;have hz2:=Boxed.lies i2 hb5;have z2:=Boxed.cell hz2;have hz3:=Boxed.lies i3 hb5;have z3:=Boxed.cell hz3;have g3:=Boxed.frozen hz3;have hz9:=Boxed.lies i9 hb5;have z9:=Boxed.cell hz9;have g9:=Boxed.frozen hz9;have bX5:=(hb5.block Bx (jrb bX)).trans bX;have y0:w4.cell? ⟨Bx,0,none⟩=some (.int .i64 x.f0):=(jA bX5 0).trans rfl;have y1:w4.cell? ⟨Bx,1,none⟩=some (.int .i64 x.f1):=(jA bX5 1).trans rfl;have y2:w4.cell? ⟨Bx,2,none⟩=some (.int .i64 x.f2):=(jA bX5 2).trans rfl;have y3:w4.cell? ⟨Bx,3,none⟩=some (.int .i64 x.f3):=(jA bX5 3).trans rfl) |(refine ⟨trivial,?_⟩;gi_at_call 51;refine (CallsIn.inRound l (callsIn_wide.2 (K5.out _ (hB.trans (Below.mono (show Below W.heap.size W _ from Y66) hB.size))))).mono ?_;clear K5;rintro e w5 ⟨rfl,hb6⟩;have hb7:Below W.heap.size W w5:=(show Below W.heap.size W _ from Y66).trans (hb6.mono (Below.size (show Below W.heap.size W _ from Y66)));have hy9:=Boxed.lies i9 hb7;have yz9:=Boxed.cell hy9;have yg9:=Boxed.frozen hy9;have bX7:=(hb7.block Bx (jrb bX)).trans bX;have yy2:w5.cell? ⟨Bx,2,none⟩=some (.int .i64 x.f2):=(jA bX7 2).trans rfl) |(refine ⟨trivial,?_⟩))
        exact G2.out w5 hb7 hsn
       | false =>
        gi_wp2_with (first |(refine ⟨trivial,?_⟩;gi_at_call 45;refine (CallsIn.inRound l (callsIn_wide.2 (K0.out _))).mono ?_;clear K0;rintro e w' ⟨rfl,⟨n0,rfl⟩⟩) |(refine ⟨trivial,?_⟩;gi_at_call 45;refine (CallsIn.inRound l (callsIn_wide.2 (K1.out _))).mono ?_;clear K1;rintro e w' ⟨rfl,⟨n1,rfl⟩⟩) |(refine ⟨trivial,?_⟩;gi_at_call 45;refine (CallsIn.inRound l (callsIn_wide.2 (K2.out _))).mono ?_;clear K2;rintro e w' ⟨rfl,⟨n2,rfl⟩⟩) |(refine ⟨trivial,?_⟩;gi_at_call 50;refine (CallsIn.inRound l (callsIn_wide.2 (K3.out _ (hB.trans (Below.mono (show Below W.heap.size W _ from Y26) hB.size))))).mono ?_;rintro e w4 ⟨rfl,hb4⟩;have hb5:Below W.heap.size W w4:=(show Below W.heap.size W _ from Y26).trans (hb4.mono (Below.size (show Below W.heap.size W _ from Y26)));have hz:=Boxed.lies i0 hb5;have z0:=Boxed.cell hz;have hz1:=Boxed.lies i1 hb5;have z1:=Boxed.cell hz1;have hz2:=Boxed.lies i2 hb5;have z2:=Boxed.cell hz2;have hz3:=Boxed.lies i3 hb5;have z3:=Boxed.cell hz3;have g3:=Boxed.frozen hz3;have hz9:=Boxed.lies i9 hb5;have z9:=Boxed.cell hz9;have g9:=Boxed.frozen hz9;have bX5:=(hb5.block Bx (jrb bX)).trans bX;have y0:w4.cell? ⟨Bx,0,none⟩=some (.int .i64 x.f0):=(jA bX5 0).trans rfl;have y1:w4.cell? ⟨Bx,1,none⟩=some (.int .i64 x.f1):=(jA bX5 1).trans rfl;have y2:w4.cell? ⟨Bx,2,none⟩=some (.int .i64 x.f2):=(jA bX5 2).trans rfl;have y3:w4.cell? ⟨Bx,3,none⟩=some (.int .i64 x.f3):=(jA bX5 3).trans rfl) |(refine ⟨trivial,?_⟩;gi_at_call 51;refine (CallsIn.inRound l (callsIn_wide.2 (K5.out _ (hB.trans (Below.mono (show Below W.heap.size W _ from Y66) hB.size))))).mono ?_;clear K5;rintro e w5 ⟨rfl,hb6⟩;have hb7:Below W.heap.size W w5:=(show Below W.heap.size W _ from Y66).trans (hb6.mono (Below.size (show Below W.heap.size W _ from Y66)));have hy9:=Boxed.lies i9 hb7;have yz9:=Boxed.cell hy9;have yg9:=Boxed.frozen hy9;have bX7:=(hb7.block Bx (jrb bX)).trans bX;have yy2:w5.cell? ⟨Bx,2,none⟩=some (.int .i64 x.f2):=(jA bX7 2).trans rfl) |(refine ⟨trivial,?_⟩))
        exact G1.out w5 hb7 hsn
      ·rw [if_neg q1] at hat
       have q1b:=dzF q1
       rw [hat] at hsn
       gi_wp2_with (first |(refine ⟨trivial,?_⟩;gi_at_call 45;refine (CallsIn.inRound l (callsIn_wide.2 (K0.out _))).mono ?_;clear K0;rintro e w' ⟨rfl,⟨n0,rfl⟩⟩) |(refine ⟨trivial,?_⟩;gi_at_call 45;refine (CallsIn.inRound l (callsIn_wide.2 (K1.out _))).mono ?_;clear K1;rintro e w' ⟨rfl,⟨n1,rfl⟩⟩) |(refine ⟨trivial,?_⟩;gi_at_call 45;refine (CallsIn.inRound l (callsIn_wide.2 (K2.out _))).mono ?_;clear K2;rintro e w' ⟨rfl,⟨n2,rfl⟩⟩) |(refine ⟨trivial,?_⟩;gi_at_call 50;refine (CallsIn.inRound l (callsIn_wide.2 (K3.out _ (hB.trans (Below.mono (show Below W.heap.size W _ from Y26) hB.size))))).mono ?_;rintro e w4 ⟨rfl,hb4⟩;have hb5:Below W.heap.size W w4:=(show Below W.heap.size W _ from Y26).trans (hb4.mono (Below.size (show Below W.heap.size W _ from Y26)));have hz:=Boxed.lies i0 hb5;have z0:=Boxed.cell hz;have hz1:=Boxed.lies i1 hb5;have z1:=Boxed.cell hz1;have hz2:=Boxed.lies i2 hb5;have z2:=Boxed.cell hz2;have hz3:=Boxed.lies i3 hb5;have z3:=Boxed.cell hz3;have g3:=Boxed.frozen hz3;have hz9:=Boxed.lies i9 hb5;have z9:=Boxed.cell hz9;have g9:=Boxed.frozen hz9;have bX5:=(hb5.block Bx (jrb bX)).trans bX;have y0:w4.cell? ⟨Bx,0,none⟩=some (.int .i64 x.f0):=(jA bX5 0).trans rfl;have y1:w4.cell? ⟨Bx,1,none⟩=some (.int .i64 x.f1):=(jA bX5 1).trans rfl;have y2:w4.cell? ⟨Bx,2,none⟩=some (.int .i64 x.f2):=(jA bX5 2).trans rfl;have y3:w4.cell? ⟨Bx,3,none⟩=some (.int .i64 x.f3):=(jA bX5 3).trans rfl) |(refine ⟨trivial,?_⟩))
       exact G1.out _ hb5 hsn
     ·rw [if_neg q0] at hat
      have q0b:=dzF q0
      rw [hat] at hsn
      gi_wp2_with (first |(refine ⟨trivial,?_⟩;gi_at_call 45;refine (CallsIn.inRound l (callsIn_wide.2 (K0.out _))).mono ?_;clear K0;rintro e w' ⟨rfl,⟨n0,rfl⟩⟩) |(refine ⟨trivial,?_⟩;gi_at_call 45;refine (CallsIn.inRound l (callsIn_wide.2 (K1.out _))).mono ?_;clear K1;rintro e w' ⟨rfl,⟨n1,rfl⟩⟩) |(refine ⟨trivial,?_⟩;gi_at_call 45;refine (CallsIn.inRound l (callsIn_wide.2 (K2.out _))).mono ?_;clear K2;rintro e w' ⟨rfl,⟨n2,rfl⟩⟩) |(refine ⟨trivial,?_⟩;gi_at_call 50;refine (CallsIn.inRound l (callsIn_wide.2 (K3.out _ (hB.trans (Below.mono (show Below W.heap.size W _ from Y26) hB.size))))).mono ?_;rintro e w4 ⟨rfl,hb4⟩;have hb5:Below W.heap.size W w4:=(show Below W.heap.size W _ from Y26).trans (hb4.mono (Below.size (show Below W.heap.size W _ from Y26)));have hz:=Boxed.lies i0 hb5;have z0:=Boxed.cell hz;have hz1:=Boxed.lies i1 hb5;have z1:=Boxed.cell hz1;have hz2:=Boxed.lies i2 hb5;have z2:=Boxed.cell hz2;have hz3:=Boxed.lies i3 hb5;have z3:=Boxed.cell hz3;have g3:=Boxed.frozen hz3;have hz9:=Boxed.lies i9 hb5;have z9:=Boxed.cell hz9;have g9:=Boxed.frozen hz9;have bX5:=(hb5.block Bx (jrb bX)).trans bX;have y0:w4.cell? ⟨Bx,0,none⟩=some (.int .i64 x.f0):=(jA bX5 0).trans rfl;have y1:w4.cell? ⟨Bx,1,none⟩=some (.int .i64 x.f1):=(jA bX5 1).trans rfl;have y2:w4.cell? ⟨Bx,2,none⟩=some (.int .i64 x.f2):=(jA bX5 2).trans rfl;have y3:w4.cell? ⟨Bx,3,none⟩=some (.int .i64 x.f3):=(jA bX5 3).trans rfl) |(refine ⟨trivial,?_⟩))
      exact G1.out _ hb5 hsn
   case done =>
    rintro D ys W hD rfl ⟨⟨⟨⟨⟨⟨⟨i0,i1⟩,i2⟩,i3⟩,iS⟩,i9⟩,hst⟩,hB⟩ hK
    have c9:=i9.cell
    have c3:=i3.cell
    have f3:=i3.frozen
    gi_wp2
    have hK':=(KeepsOthers.setCell W ⟨w.heap.size+1+1+1,0,none⟩ (.int .i64 ((LkEl.st (upto (LkEl.of k l0_0 a2 a3 l1) l1.length)).getD 0))).same D _ hK rfl
    refine ⟨by simp, .inl ⟨_,_,rfl,run_takeDeferred hK',?_⟩⟩
    have hc5:=cell_kept (World.cell?_setCell_same' W ⟨w.heap.size+1+1+1,0,none⟩ (.int .i64 ((LkEl.st (upto (LkEl.of k l0_0 a2 a3 l1) l1.length)).getD 0)) (by rw [c3];rfl)) (grownBy_putObj' _ D (.deferred none)) (fun r e=>by cases e;exact ⟨_,hK',rfl⟩)
    have hr2:r=(LkEl.st (upto (LkEl.of k l0_0 a2 a3 l1) l1.length)).getD 0:=by
     have h2:=Option.some.inj h
     rw [← LkEl.st_all hall2] at h2
     obtain ⟨z,hz⟩:=Option.isSome_iff_exists.1 hst
     rw [hz] at h2 ⊢
     exact h2.symm
    refine ⟨.int .i64 _,?_,by rw [hr2],(hB.setCell (p:=⟨w.heap.size+1+1+1,0,none⟩) (by simp;omega) _).trans (belowK_b (w:=w) (Nat.le_refl _) _ D _ _ (by omega) hK' rfl rfl)⟩
    simp [results,Try.f23,go_sem,hc5]
   case stop =>
    rintro D c pre W hD ⟨q,hq,rfl⟩ ⟨⟨i3,rfl,hst⟩,hB⟩ hK
    gi_wp2
    refine ⟨by simp, .inl ⟨_,_,rfl,run_takeDeferred hK,?_⟩⟩
    have hc5:=cell_kept i3.cell (grownBy_putObj' _ D (.deferred none)) (fun r e=>by cases e;exact ⟨_,hK,rfl⟩)
    have hr2:r = -1:=by
     have h2:=Option.some.inj h
     rw [LkEl.st_none hall2 hq hst] at h2
     exact h2.symm
    refine ⟨.int .i64 (-1),?_,by rw [hr2],hB.trans (belowK_b (w:=w) (Nat.le_refl _) W D _ _ (by omega) hK rfl rfl)⟩
    simp [results,Try.f23,go_sem,hc5]
 ·rw [if_neg hv1] at h
  obtain rfl:=Option.some.inj h
  obtain rfl:v=false:=by simpa using hv1
  gi_wp2_with (refine ⟨trivial,?_⟩;gi_at_call 48;refine (callsIn_wide.2 hcall).mono ?_;rintro e w1 ⟨rfl,hb1⟩;have k3:=Boxed.lies b3 hb1;have c3:=Boxed.cell k3;have f3:=Boxed.frozen k3)
  have c5:=World.cell?_setCell_same' w1 ⟨w.heap.size+1+1+1,0,none⟩ (.int .i64 (-1)) (by rw [c3];rfl)
  refine ⟨.int .i64 (-1),?_,rfl,?_⟩
  ·simp [results,Try.f23,go_sem,c5]
  ·exact (hB4.trans (hb1.mono (by omega))).setCell (p:=⟨w.heap.size+1+1+1,0,none⟩) (by simp;omega) _
end
def jGb.f (k : Nat) (l0_0 : List (S98)) (l1 : List (S59)) (a2 : Int) : Option (Bool) := (jw.f k l0_0 l1).bind fun t709 => (if t709 = true then ((jI.f a2 0 (wrap64 ((l1.length : Int) - 1))).bind fun t710 => (some t710)) else (some false))
set_option maxHeartbeats 8000000 in
set_option maxRecDepth 100000 in
theorem jGb.calls (k : Nat) (A0_0 : Option Addr) (c0_0 : Nat) (l0_0 : List (S98)) (A1 : Option Addr) (c1 : Nat) (l1 : List (S59)) (a2 : Int) (r : Bool) (w : World) (hr0_0 : Kd.C k98 w A0_0 l0_0.length l0_0) (hc0_0 : l0_0.length ≤ c0_0) (hr1 : Kd.C k59 w A1 l1.length l1) (hc1 : l1.length ≤ c1) (h : jGb.f k l0_0 l1 a2 = some r) :
  Calls Try.prog 52 #[.agg #[.slice A0_0 l0_0.length c0_0], .slice A1 l1.length c1, .int .i64 a2] w fun e w'=>e=.returned (.bool r)∧Below w.heap.size w w':=by
 have hu32:=Try.underlying32
 have HR0_0:=am hr0_0
 have HC0_0:=am hc0_0
 clear hr0_0 hc0_0
 have HR1:=am hr1
 have HC1:=am hc1
 clear hr1 hc1
 have HB:=am (Below.refl w.heap.size w)
 have H:((jw.f k l0_0 l1).bind fun t709=>(if t709=true then ((jI.f a2 0 (wrap64 ((l1.length:Int) - 1))).bind fun t710=>(some t710)) else (some false)))=some r:=h
 clear h
 replace H:=bzS H
 obtain ⟨t709,A40,H⟩:=H
 replace H:(if t709=true then ((jI.f a2 0 (wrap64 ((l1.length:Int) - 1))).bind fun t710=>(some t710)) else (some false))=some r:=H
 have A4:=am A40
 clear A40
 by_cases c5:t709=true
 ·subst c5
  have H1:((jI.f a2 0 (wrap64 ((l1.length:Int) - 1))).bind fun t710=>(some t710))=some r:=by rw [if_pos rfl] at H;exact H
  clear H
  have H:=H1
  clear H1
  replace H:=bzS H
  obtain ⟨t710,A60,H⟩:=H
  replace H:(some t710)=some r:=H
  have A6:=am A60
  clear A60
  obtain rfl:=Option.some.inj H
  go_enter Try.func52,Try.ntmps52
  go_wp2_with (first |((with_reducible refine jS (N:=3) rfl ?_);(try (refine gate_guard (by rfl) ?_;dsimp only));refine box_event ?hg (N:=3) ?hd (cs:=#[.slice A0_0 l0_0.length c0_0]) (t:=32) ?hr ?_;(case hd=>rfl);(case hg=>rfl);(case hr=>exact Y8);intro gb708 hg w7 hbox hb;have BK708:=am (hbox);have GW708:=am ((Y9:w.heap.size≤gb708));have GE708:=am ((Y9:w.heap.size≤gb708));replace HB:=am (jg (bq) hb);clear hb hbox hg;have hcz8_0:=bc0 BK708.out;have hfz8_0:=ja BK708.out 0) |((with_reducible refine je (f:=22) rfl ?_);refine gL (some 9) Try.func22 #[.agg #[.slice A0_0 l0_0.length c0_0], .slice A1 l1.length c1] ?_;(with_reducible refine (jw.calls k _ _ l0_0 _ _ l1 true _ ?side1 ?side2 ?side3 ?side4 A4.out).mono ?_);(case side1=>exact cq (Kd.jV HR0_0.out HB.out));(case side2=>exact HC0_0.out);(case side3=>exact cq (Kd.jV HR1.out HB.out));(case side4=>exact HC1.out);rintro e w9 ⟨rfl,hb⟩;refine ⟨_,rfl,?_⟩;replace BK708:=am (jo (g:=gb708) (o:=.cells #[.slice A0_0 l0_0.length c0_0] 32 (0,0)) (kq BK708.out) hb);replace HB:=am (jg (Y82) hb);(try clear hb);(try clear hb2);(try clear hk);(try clear hi)) |(go_at_call 45;(with_reducible refine (jI.calls a2 0 (wrap64 ((l1.length:Int) - 1)) t710 _ A6.out).mono ?_);rintro e w' ⟨rfl,⟨nd,rfl⟩⟩))
  go_ret
  exact ⟨Y0,Y82⟩
 ·replace c5:=Bool.eq_false_iff.mpr c5
  subst c5
  have H1:(some false)=some r:=by rw [if_neg (show ¬ (false=true) by decide)] at H;exact H
  clear H
  have H:=H1
  clear H1
  obtain rfl:=Option.some.inj H
  go_enter Try.func52,Try.ntmps52
  go_wp2_with (first |((with_reducible refine jS (N:=3) rfl ?_);(try (refine gate_guard (by rfl) ?_;dsimp only));refine box_event ?hg (N:=3) ?hd (cs:=#[.slice A0_0 l0_0.length c0_0]) (t:=32) ?hr ?_;(case hd=>rfl);(case hg=>rfl);(case hr=>exact Y8);intro gb708 hg w10 hbox hb;have BK708:=am (hbox);have GW708:=am ((Y9:w.heap.size≤gb708));have GE708:=am ((Y9:w.heap.size≤gb708));replace HB:=am (jg (bq) hb);clear hb hbox hg;have hcz11_0:=bc0 BK708.out;have hfz11_0:=ja BK708.out 0) |((with_reducible refine je (f:=22) rfl ?_);refine gL (some 9) Try.func22 #[.agg #[.slice A0_0 l0_0.length c0_0], .slice A1 l1.length c1] ?_;(with_reducible refine (jw.calls k _ _ l0_0 _ _ l1 false _ ?side1 ?side2 ?side3 ?side4 A4.out).mono ?_);(case side1=>exact cq (Kd.jV HR0_0.out HB.out));(case side2=>exact HC0_0.out);(case side3=>exact cq (Kd.jV HR1.out HB.out));(case side4=>exact HC1.out);rintro e w12 ⟨rfl,hb⟩;refine ⟨_,rfl,?_⟩;replace BK708:=am (jo (g:=gb708) (o:=.cells #[.slice A0_0 l0_0.length c0_0] 32 (0,0)) (kq BK708.out) hb);replace HB:=am (jg (Y82) hb);(try clear hb);(try clear hb2);(try clear hk);(try clear hi)))
  go_ret
  exact ⟨Y0,Y82⟩
def jzb.f (l0 : List Int) : Option (List Int) := some (l0)
set_option maxHeartbeats 8000000 in
set_option maxRecDepth 100000 in
theorem jzb.calls (P0_ : Nat → Prop) (u9000_ : Value) (l0 : List Int) (r : List Int) (w0 w : World) (hB : Below w0.heap.size w0 w) (ho0 : Kd.R (Kd.int .i64) 3 w w0.heap.size P0_ u9000_ l0) (h : jzb.f l0 = some r) :
  Calls Try.prog 103 #[u9000_] w fun e w'=>∃ v0_:Value,e=.returned (v0_)∧Kd.R (Kd.int .i64) 3 w' w0.heap.size (fun k_=>(P0_ k_∨w.heap.size≤k_)) v0_ r∧Below w0.heap.size w0 w'∧Kept w w' (fun k_=>P0_ k_):=by
 have HO0:=am (show Kd.R (Kd.int .i64) 3 w w0.heap.size (fun k_=>(P0_ k_∨w.heap.size≤k_)) u9000_ l0 from Kd.jK ho0 (fun k_ hk=>(.inl hk)))
 have HK:=am (Kept.refl w (fun k_=>P0_ k_))
 have HW0:=am hB.size
 have HB:=am hB
 clear hB
 have H:(some (l0))=some r:=h
 clear h
 obtain ⟨y711,hy711⟩:∃ y_:List Int,y_=(l0):=⟨_,rfl⟩
 replace H:(some y711)=some r:=by first |(rw [hy711];with_reducible exact H) |(have H2_:=(Option.bind_some _ _).symm.trans H;rw [hy711];with_reducible exact H2_) |(have H2_:=(Option.bind_some _ _).symm.trans H;with_reducible exact H2_) | with_reducible exact H |(rw [hy711];exact H) | exact H
 have Ny711:=am hy711
 clear hy711
 obtain rfl:=Option.some.inj H
 obtain ⟨Ao2,co2,eo2⟩:=Kd.jsa HO0.out
 subst eo2
 obtain ⟨i03,hi03,_,hsz3,_⟩:=info_parts info3
 have hy3:y711.length=l0.length:=(by rw [Ny711.out])
 have hcut3:=cut_clip (P:=Try.prog) 65 3 Try.underlying65 hi03 Ao2 _ co2 _ (Kd.jE HO0.out).2.1 hy3
 have hr3:=Kd.R_clip HO0.out Ny711.out
 clear hy3 hi03 hsz3 HO0
 have HO713:=am hr3
 clear hr3
 go_enter Try.func103,Try.ntmps103
 go_wp2
 go_ret
 exact ⟨_,Y0,rq HO713.out,bq,Y96⟩
def jma.l0 : Nat → List (S59) → Int → List Int → Int → Option (List Int)
 | 0,_,_,_,_=>none
 | k+1,x0,x1,x5,x6=>if x6≥0 then (if 0≤x6 then (if x6<(x0.length:Int) then ((jUa.f ((jd x0 x6).f0) ((jd x0 x6).f1) ((jd x0 x6).f2) ((jd x0 x6).f3)).bind fun t721=>(if t721=true then ((joa.f k x0 x6).bind fun t722=>(if t722 > x1 then (if x5.length<17592186044416 then (jma.l0 k x0 x1 (x5 ++ [x6]) (wrap64 (x6 - 1))) else (none)) else (jma.l0 k x0 x1 x5 (wrap64 (x6 - 1))))) else (jma.l0 k x0 x1 x5 (wrap64 (x6 - 1))))) else (none)) else (none)) else ((jzb.f x5).bind fun t717=>(some t717))
def jma.f (k : Nat) (l0 : List (S59)) (a1 : Int) : Option (List Int) := jma.l0 k l0 a1 (([] : List Int)) (wrap64 (a1 - 1))
set_option maxHeartbeats 8000000 in
set_option maxRecDepth 100000 in
theorem jma.calls (k : Nat) (A0 : Option Addr) (c0 : Nat) (l0 : List (S59)) (a1 : Int) (r : List Int) (w : World) (hr0 : Kd.C k59 w A0 l0.length l0) (hc0 : l0.length ≤ c0) (h : jma.f k l0 a1 = some r) :
  Calls Try.prog 83 #[.slice A0 l0.length c0, .int .i64 a1] w fun e w'=>∃ v0_:Value,e=.returned (v0_)∧Kd.R (Kd.int .i64) 3 w' w.heap.size (fun _=>True) v0_ r∧Below w.heap.size w w':=by
 have hu59:=Try.underlying59
 have HR0:=am hr0
 have HC0:=am hc0
 clear hr0 hc0
 have HB:=am (Below.refl w.heap.size w)
 have H:(jma.l0 k l0 a1 (([]:List Int)) (wrap64 (a1 - 1)))=some r:=h
 clear h
 obtain ⟨y714,hy714⟩:∃ y_:List Int,y_=(([]:List Int)):=⟨_,rfl⟩
 replace H:(jma.l0 k l0 a1 y714 (wrap64 (a1 - 1)))=some r:=by first |(rw [hy714];with_reducible exact H) |(have H2_:=(Option.bind_some _ _).symm.trans H;rw [hy714];with_reducible exact H2_) |(have H2_:=(Option.bind_some _ _).symm.trans H;with_reducible exact H2_) | with_reducible exact H |(rw [hy714];exact H) | exact H
 have Ny714:=am hy714
 clear hy714
 have H':=am H
 clear H
 go_enter Try.func83,Try.ntmps83
 go_wp2_with (first |((with_reducible refine jS (N:=7) rfl ?_);refine Kd.jWb (Kd.int .i64) _ 3 ?hg (N:=7) ?hd (xs:=([]:List Int)) (inner:=[]) (ok:=fun _=>True) (okp:=fun _=>True) ?hr ?hp (fun _ hk=>hk) trivial (Below.refl _ _) (Nat.le_refl _) (by simp) ?_;(case hd=>rfl);(case hg=>rfl);(case hr=>exact Y8);(case hp=>exact (Reps.none _ _));intro v715 w3 ho4 hb hg_ hnew_;clear hg_ hnew_;(first | rw [← Ny714.out] at ho4 |(simp only [Int.reduceToNat] at ho4;rw [← Ny714.out] at ho4));have HO716:=am (Kd.jea ho4 (jta (bq)));replace HB:=am (jg (bq) hb);clear hb ho4))
 go_loopg [5,6] k (fun kq v5 v6 w'=>∃ (x5_1:List Int) (x6_1:Int),v6=.int .i64 x6_1∧jl (jma.l0 kq l0 a1 x5_1 x6_1=some r)∧jl (kq≤k)∧jl (Kd.R (Kd.int .i64) 3 w' w.heap.size (fun _=>True) v5 x5_1)∧jl (Below w.heap.size w w'))
 case atStart=>exact ⟨(y714),(wrap64 (a1 - 1)),(sq),H',⟨Nat.le_refl _⟩,⟨rq HO716.out⟩,⟨bq⟩⟩
 case round =>
  clear H'
  try clear p2
  obtain ⟨x5_1,x6_1,rfl,HA,HK1,HO_5,HB⟩:=hrel
  cases gk with
  | zero=>exact absurd HA.out (by simp [jma.l0])
  | succ k1 =>
   have H:=HA.out
   clear HA
   simp only [jma.l0] at H
   by_cases c5:x6_1≥0
   ·rw [if_pos c5] at H
    have c5b0:decide (0≤x6_1)=true:=dzT c5
    clear c5
    by_cases c6:0≤x6_1
    ·rw [if_pos c6] at H
     have c6b0:decide (0≤x6_1)=true:=dzT c6
     clear c6
     by_cases c7:x6_1<(l0.length:Int)
     ·rw [if_pos c7] at H
      have c7b0:decide (x6_1<(l0.length:Int))=true:=dzT c7
      clear c7
      replace H:=bzS H
      obtain ⟨t721,A80,H⟩:=H
      replace H:(if t721=true then ((joa.f k1 l0 x6_1).bind fun t722=>(if t722 > a1 then (if x5_1.length<17592186044416 then (jma.l0 k1 l0 a1 (x5_1 ++ [x6_1]) (wrap64 (x6_1 - 1))) else (none)) else (jma.l0 k1 l0 a1 x5_1 (wrap64 (x6_1 - 1))))) else (jma.l0 k1 l0 a1 x5_1 (wrap64 (x6_1 - 1))))=some r:=H
      have A8:=am A80
      clear A80
      by_cases c9:t721=true
      ·subst c9
       have H1:((joa.f k1 l0 x6_1).bind fun t722=>(if t722 > a1 then (if x5_1.length<17592186044416 then (jma.l0 k1 l0 a1 (x5_1 ++ [x6_1]) (wrap64 (x6_1 - 1))) else (none)) else (jma.l0 k1 l0 a1 x5_1 (wrap64 (x6_1 - 1)))))=some r:=by rw [if_pos rfl] at H;exact H
       clear H
       have H:=H1
       clear H1
       replace H:=bzS H
       obtain ⟨t722,A100,H⟩:=H
       replace H:(if t722 > a1 then (if x5_1.length<17592186044416 then (jma.l0 k1 l0 a1 (x5_1 ++ [x6_1]) (wrap64 (x6_1 - 1))) else (none)) else (jma.l0 k1 l0 a1 x5_1 (wrap64 (x6_1 - 1))))=some r:=H
       have A10:=am A100
       clear A100
       by_cases c11:t722 > a1
       ·rw [if_pos c11] at H
        have c11b0:decide (a1<t722)=true:=dzT c11
        clear c11
        by_cases c12:x5_1.length<17592186044416
        ·rw [if_pos c12] at H
         have LMc12:=am c12
         clear c12
         obtain ⟨y723,hy723⟩:∃ y_:List Int,y_=(x5_1 ++ [x6_1]):=⟨_,rfl⟩
         replace H:(jma.l0 k1 l0 a1 y723 (wrap64 (x6_1 - 1)))=some r:=by first |(rw [hy723];with_reducible exact H) |(have H2_:=(Option.bind_some _ _).symm.trans H;rw [hy723];with_reducible exact H2_) |(have H2_:=(Option.bind_some _ _).symm.trans H;with_reducible exact H2_) | with_reducible exact H |(rw [hy723];exact H) | exact H
         have Ny723:=am hy723
         clear hy723
         have H':=am H
         clear H
         have p720:0≤(x6_1:Int):=ozD (uq)
         have q720:x6_1<(l0.length:Int):=ozD (uq)
         obtain ⟨ad720,e720,hx720_0,hx720_1,hx720_2,hx720_3⟩:=jza HR0.out x6_1 p720 q720
         cases e720
         replace hx720_0:=cb HB.out hx720_0
         replace hx720_1:=cb HB.out hx720_1
         replace hx720_2:=cb HB.out hx720_2
         replace hx720_3:=cb HB.out hx720_3
         replace p720:=ezT p720
         replace q720:=ezT q720
         go_wp2_with (first |((with_reducible refine je (f:=46) rfl ?_);refine gL (some 18) Try.func46 #[.agg #[.int .i64 ((jd l0 x6_1).f0), .int .i64 ((jd l0 x6_1).f1), .int .i64 ((jd l0 x6_1).f2), .int .i64 ((jd l0 x6_1).f3)]] ?_;(with_reducible refine (jUa.calls ((jd l0 x6_1).f0) ((jd l0 x6_1).f1) ((jd l0 x6_1).f2) ((jd l0 x6_1).f3) true _ A8.out).mono ?_);rintro e w13 ⟨rfl,hb⟩;refine ⟨_,rfl,?_⟩;replace HO_5:=am (Kd.jva (rq HO_5.out) hb);replace HB:=am (jg (bq) hb);(try clear hb);(try clear hb2);(try clear hk);(try clear hi)) |(go_at_call 34;(with_reducible refine (joa.calls k1 _ _ l0 x6_1 t722 _ ?side1 ?side2 A10.out).mono ?_);(case side1=>exact cq (Kd.jV HR0.out HB.out));(case side2=>exact HC0.out);rintro e w' ⟨rfl,⟨nd,rfl⟩⟩) |((with_reducible refine jLa (b:=.append) (xs:=#[.tmp 26, .tmp 28]) rfl ?_);at_builtin;refine Kd.jVb (Kd.int .i64) (w0:=w) w.heap.size rfl (.tmp 26) (.tmp 28) 65 3 (.int .i64 0) 8 rfl Try.underlying65 info3 rfl (by decide) (by omega) u5 x5_1 x6_1 [.int .i64 x6_1] (fun _=>True) (fun _=>False) rfl rfl ?aP (fun _ hk=>hk.elim) ?aF ?aO ?aB ?aS ?aL ?_;(case aP=>exact rfl);(case aB=>exact (bq));(case aF=>exact (fun _ _=>trivial));(case aO=>exact (rq HO_5.out));(case aS=>exact (jta (bq)));(case aL=>have:=LMc12.out;omega);intro v724 w14 ho hb hg hat;rw [← Ny723.out] at ho;have n0_:=am (hb);have n1_:=am (ho);clear HB HO_5;have HB:=n0_;have HO725:=n1_;clear n0_ n1_ ho hb hg hat))
         go_roundg k1
         case measure=>have:=HK1.out;omega
         case rel=>exact ⟨(y723),(wrap64 (x6_1 - 1)),(sq),H',⟨by have:=HK1.out;omega⟩,⟨rq HO725.out⟩,⟨bq⟩⟩
        ·rw [if_neg c12] at H
         exact absurd H (by simp)
       ·rw [if_neg c11] at H
        have c11b0:decide (a1<t722)=false:=dzF c11
        clear c11
        have H':=am H
        clear H
        have p720:0≤(x6_1:Int):=ozD (uq)
        have q720:x6_1<(l0.length:Int):=ozD (uq)
        obtain ⟨ad720,e720,hx720_0,hx720_1,hx720_2,hx720_3⟩:=jza HR0.out x6_1 p720 q720
        cases e720
        replace hx720_0:=cb HB.out hx720_0
        replace hx720_1:=cb HB.out hx720_1
        replace hx720_2:=cb HB.out hx720_2
        replace hx720_3:=cb HB.out hx720_3
        replace p720:=ezT p720
        replace q720:=ezT q720
        go_wp2_with (first |((with_reducible refine je (f:=46) rfl ?_);refine gL (some 18) Try.func46 #[.agg #[.int .i64 ((jd l0 x6_1).f0), .int .i64 ((jd l0 x6_1).f1), .int .i64 ((jd l0 x6_1).f2), .int .i64 ((jd l0 x6_1).f3)]] ?_;(with_reducible refine (jUa.calls ((jd l0 x6_1).f0) ((jd l0 x6_1).f1) ((jd l0 x6_1).f2) ((jd l0 x6_1).f3) true _ A8.out).mono ?_);rintro e w15 ⟨rfl,hb⟩;refine ⟨_,rfl,?_⟩;replace HO_5:=am (Kd.jva (rq HO_5.out) hb);replace HB:=am (jg (bq) hb);(try clear hb);(try clear hb2);(try clear hk);(try clear hi)) |(go_at_call 34;(with_reducible refine (joa.calls k1 _ _ l0 x6_1 t722 _ ?side1 ?side2 A10.out).mono ?_);(case side1=>exact cq (Kd.jV HR0.out HB.out));(case side2=>exact HC0.out);rintro e w' ⟨rfl,⟨nd,rfl⟩⟩))
        go_roundg k1
        case measure=>have:=HK1.out;omega
        case rel=>exact ⟨(x5_1),(wrap64 (x6_1 - 1)),(sq),H',⟨by have:=HK1.out;omega⟩,⟨rq HO_5.out⟩,⟨bq⟩⟩
      ·replace c9:=Bool.eq_false_iff.mpr c9
       subst c9
       have H1:(jma.l0 k1 l0 a1 x5_1 (wrap64 (x6_1 - 1)))=some r:=by rw [if_neg (show ¬ (false=true) by decide)] at H;exact H
       clear H
       have H:=H1
       clear H1
       have H':=am H
       clear H
       have p720:0≤(x6_1:Int):=ozD (uq)
       have q720:x6_1<(l0.length:Int):=ozD (uq)
       obtain ⟨ad720,e720,hx720_0,hx720_1,hx720_2,hx720_3⟩:=jza HR0.out x6_1 p720 q720
       cases e720
       replace hx720_0:=cb HB.out hx720_0
       replace hx720_1:=cb HB.out hx720_1
       replace hx720_2:=cb HB.out hx720_2
       replace hx720_3:=cb HB.out hx720_3
       replace p720:=ezT p720
       replace q720:=ezT q720
       go_wp2_with (first |((with_reducible refine je (f:=46) rfl ?_);refine gL (some 18) Try.func46 #[.agg #[.int .i64 ((jd l0 x6_1).f0), .int .i64 ((jd l0 x6_1).f1), .int .i64 ((jd l0 x6_1).f2), .int .i64 ((jd l0 x6_1).f3)]] ?_;(with_reducible refine (jUa.calls ((jd l0 x6_1).f0) ((jd l0 x6_1).f1) ((jd l0 x6_1).f2) ((jd l0 x6_1).f3) false _ A8.out).mono ?_);rintro e w16 ⟨rfl,hb⟩;refine ⟨_,rfl,?_⟩;replace HO_5:=am (Kd.jva (rq HO_5.out) hb);replace HB:=am (jg (bq) hb);(try clear hb);(try clear hb2);(try clear hk);(try clear hi)))
       go_roundg k1
       case measure=>have:=HK1.out;omega
       case rel=>exact ⟨(x5_1),(wrap64 (x6_1 - 1)),(sq),H',⟨by have:=HK1.out;omega⟩,⟨rq HO_5.out⟩,⟨bq⟩⟩
     ·rw [if_neg c7] at H
      exact absurd H (by simp)
    ·rw [if_neg c6] at H
     exact absurd H (by simp)
   ·rw [if_neg c5] at H
    have c5b0:decide (0≤x6_1)=false:=dzF c5
    clear c5
    replace H:=bzS H
    obtain ⟨t717,A170,H⟩:=H
    replace H:(some t717)=some r:=H
    have A17:=am A170
    clear A170
    obtain rfl:=Option.some.inj H
    obtain ⟨Ao18,co18,eo18⟩:=Kd.jsa HO_5.out
    subst eo18
    go_wp2_with (first |((with_reducible refine je (f:=103) rfl ?_);refine gL (some 31) Try.func103 #[.slice Ao18 x5_1.length co18] ?_;(with_reducible refine (jzb.calls (fun k_=>some k_=(.slice Ao18 x5_1.length co18:Value).ownBlock) (.slice Ao18 x5_1.length co18) x5_1 t717 w _ ?side1 ?side2 A17.out).mono ?_);(case side1=>repeat (first |(with_reducible first | exact HB.out | apply jU | apply jm | apply jR) | exact HB.out));(case side2=>exact Kd.R_tight rfl HO_5.out);rintro e w19 ⟨v718,rfl,ho0,hb,hkp⟩;refine ⟨_,rfl,?_⟩;have n0_:=am (Kd.jK (ok':=fun k_=>True) ho0 (fun k_ hk_=>trivial));have n1_:=am (hb);clear HB HO_5;have HO719:=n0_;have HB:=n1_;clear n0_ n1_;(try clear hb);(try clear hkp);(try clear ho0)))
    go_ret
    exact ⟨_,Y0,rq HO719.out,bq⟩
mutual
def jP.l0 : Nat → List (S59) → Int → List Int → Int → Int → List (S98) → Option (Int × Int)
 | 0,_,_,_,_,_,_=>none
 | k+1,x1,x3,x16,x17,x18,x727000=>if x18<x17 then (if 0≤x18 then (if x18<(x16.length:Int) then (if 0≤(rd x16 x18) then (if (rd x16 x18)<(x1.length:Int) then (if ((jd x1 (rd x16 x18)).f1)=11 then (if ((jd x1 (rd x16 x18)).f3)=1 then (some (rd x16 x18,rd x16 x18)) else (jP.l0 k x1 x3 x16 x17 (wrap64 (x18+1)) x727000)) else (if ((jd x1 (rd x16 x18)).f1)=7 then ((jca.f k x1 (rd x16 x18)).bind fun t733=>(jP.l1 k x1 x3 (rd x16 x18) x16 x17 x18 t733 (t733.length:Int) 0 x727000)) else (jP.l0 k x1 x3 x16 x17 (wrap64 (x18+1)) x727000))) else (none)) else (none)) else (none)) else (none)) else (some ((-1),(-1)))
def jP.l1 : Nat → List (S59) → Int → Int → List Int → Int → Int → List Int → Int → Int → List (S98) → Option (Int × Int)
 | 0,_,_,_,_,_,_,_,_,_,_=>none
 | k+1,x1,x3,x11,x16,x17,x18,x41,x42,x43,x727000=>if x43<x42 then (if 0≤x43 then (if x43<(x41.length:Int) then (if 0≤(rd x41 x43) then (if (rd x41 x43)<(x1.length:Int) then (if ((jd x1 (rd x41 x43)).f1)=8 then ((jpb.f k x727000 x3 ((jd x1 (rd x41 x43)).f2)).bind fun t739=>(if t739=true then (some (x11,rd x41 x43)) else (jP.l1 k x1 x3 x11 x16 x17 x18 x41 x42 (wrap64 (x43+1)) x727000))) else (jP.l1 k x1 x3 x11 x16 x17 x18 x41 x42 (wrap64 (x43+1)) x727000)) else (none)) else (none)) else (none)) else (none)) else (jP.l0 k x1 x3 x16 x17 (wrap64 (x18+1)) x727000)
end
def jP.f (k : Nat) (l0_0 : List (S98)) (l1 : List (S59)) (a2 : Int) (a3 : Int) : Option (Int × Int) := (jma.f k l1 a2).bind fun t727 => (jP.l0 k l1 a3 t727 (t727.length : Int) 0 l0_0)
def jP.T12 : Bool × List (List Nat × List Nat) := (true, [([], []), ([], []), ([0, 1], [0, 1]), ([2], [2]), ([3], [3]), ([4], [4]), ([5], [5]), ([6], [6]), ([6], [6]), ([6], [6]), ([6], [6]), ([9, 10, 6], [6, 9, 10]), ([11, 6], [6, 11]), ([12, 6], [6, 12]), ([7, 8, 13, 6, 6], [6, 7, 8, 13]), ([6, 14], [6, 14])])
def jP.B12 : List Nat := [0, 0, 3, 7, 15, 31, 63, 127, 127, 127, 127, 1663, 3711, 7807, 16383, 32767]
theorem jP.tab12 : rtab .any (opsOf Try.f53 12) = jP.T12 := by kernel_rfl
theorem jP.bits12 : jic jP.T12.2 jP.B12 = true := by kernel_rfl
set_option maxHeartbeats 8000000 in
set_option maxRecDepth 100000 in
theorem jP.calls (k : Nat) (A0_0 : Option Addr) (c0_0 : Nat) (l0_0 : List (S98)) (A1 : Option Addr) (c1 : Nat) (l1 : List (S59)) (a2 : Int) (a3 : Int) (r1 : Int) (r2 : Int) (w : World) (hr0_0 : Kd.C k98 w A0_0 l0_0.length l0_0) (hc0_0 : l0_0.length ≤ c0_0) (hr1 : Kd.C k59 w A1 l1.length l1) (hc1 : l1.length ≤ c1) (h : jP.f k l0_0 l1 a2 a3 = some (r1, r2)) :
  Calls Try.prog 53 #[.agg #[.slice A0_0 l0_0.length c0_0], .slice A1 l1.length c1, .int .i64 a2, .int .i64 a3] w fun e w'=>e=.returned (.tuple #[.int .i64 r1, .int .i64 r2])∧Below w.heap.size w w':=by
 have hu32:=Try.underlying32
 have HR0_0:=am hr0_0
 have HC0_0:=am hc0_0
 clear hr0_0 hc0_0
 have HR1:=am hr1
 have HC1:=am hc1
 clear hr1 hc1
 have HB:=am (Below.refl w.heap.size w)
 have H:((jma.f k l1 a2).bind fun t727=>(jP.l0 k l1 a3 t727 (t727.length:Int) 0 l0_0))=some (r1,r2):=h
 clear h
 replace H:=bzS H
 obtain ⟨t727,A50,H⟩:=H
 replace H:(jP.l0 k l1 a3 t727 (t727.length:Int) 0 l0_0)=some (r1,r2):=H
 have A5:=am A50
 clear A50
 have H':=am H
 clear H
 go_enter Try.func53,Try.ntmps53
 go_wp2_with (first |((with_reducible refine jS (N:=4) rfl ?_);refine bE (N:=4) (cs:=#[.slice A0_0 l0_0.length c0_0]) (t:=32) ?_;intro gb726 hg w6 hbox hb;have BK726:=am (hbox);have GW726:=am ((Y9:w.heap.size≤gb726));have GE726:=am ((Y9:w.heap.size≤gb726));replace HB:=am (jg (bq) hb);clear hb hbox hg) |((with_reducible refine je (f:=83) rfl ?_);refine gL (some 16) Try.func83 #[.slice A1 l1.length c1, .int .i64 a2] ?_;(with_reducible refine (jma.calls k _ _ l1 a2 t727 _ ?side1 ?side2 A5.out).mono ?_);(case side1=>exact cq (Kd.jV HR1.out HB.out));(case side2=>exact HC1.out);rintro e w7 ⟨v728,rfl,ho0,hb⟩;refine ⟨_,rfl,?_⟩;have HO729:=am (Kd.jea ho0 (jta (Y29)));replace BK726:=am (jo (g:=gb726) (o:=.cells #[.slice A0_0 l0_0.length c0_0] 32 (0,0)) (kq BK726.out) hb);replace HB:=am (jg (Y29) hb);(try clear hb);(try clear hb2);(try clear hk);(try clear hi);(try clear ho0);obtain ⟨Ao8,co8,eo8⟩:=Kd.jsa HO729.out;subst eo8))
 go_loopg [18] k (fun kq v18 w'=>∃ (x18_1:Int),v18=.int .i64 x18_1∧jl (jP.l0 kq l1 a3 t727 (t727.length:Int) x18_1 l0_0=some (r1,r2))∧jl (kq≤k)∧jl (Kd.R (Kd.int .i64) 3 w' w.heap.size (fun _=>True) (.slice Ao8 t727.length co8) t727)∧jl (w'.heap[gb726]?=some (.cells #[(.slice A0_0 l0_0.length c0_0)] 32 (0,0)))∧jl (Below w.heap.size w w'))
 case atStart=>exact ⟨(0),(sq),H',⟨Nat.le_refl _⟩,⟨rq HO729.out⟩,⟨kq BK726.out⟩,⟨Y29⟩⟩
 case round =>
  clear H'
  try clear c1
  try clear p2
  try clear c5
  try clear c8
  obtain ⟨x18_1,rfl,HA,HK1,HO_16,BK726,HB⟩:=hrel
  cases gk with
  | zero=>exact absurd HA.out (by simp [jP.l0])
  | succ k1 =>
   have H:=HA.out
   clear HA
   simp only [jP.l0] at H
   by_cases c9:x18_1<(t727.length:Int)
   ·rw [if_pos c9] at H
    have c9b0:decide (x18_1<(t727.length:Int))=true:=dzT c9
    clear c9
    by_cases c10:0≤x18_1
    ·rw [if_pos c10] at H
     have c10b0:decide (0≤x18_1)=true:=dzT c10
     clear c10
     by_cases c11:x18_1<(t727.length:Int)
     ·rw [if_pos c11] at H
      have c11b0:decide (x18_1<(t727.length:Int))=true:=dzT c11
      clear c11
      by_cases c12:0≤(rd t727 x18_1)
      ·rw [if_pos c12] at H
       have c12b0:decide (0≤(rd t727 x18_1))=true:=dzT c12
       clear c12
       by_cases c13:(rd t727 x18_1)<(l1.length:Int)
       ·rw [if_pos c13] at H
        have c13b0:decide ((rd t727 x18_1)<(l1.length:Int))=true:=dzT c13
        clear c13
        by_cases c14:((jd l1 (rd t727 x18_1)).f1)=11
        ·rw [if_pos c14] at H
         have c14b0:(((jd l1 (rd t727 x18_1)).f1) == 11)=true:=beq_iff_eq.mpr c14
         have c14b1:(((jd l1 (rd t727 x18_1)).f1) != 11)=false:=bne_eq_false_iff_eq.mpr c14
         clear c14
         by_cases c15:((jd l1 (rd t727 x18_1)).f3)=1
         ·rw [if_pos c15] at H
          have c15b0:(((jd l1 (rd t727 x18_1)).f3) == 1)=true:=beq_iff_eq.mpr c15
          have c15b1:(((jd l1 (rd t727 x18_1)).f3) != 1)=false:=bne_eq_false_iff_eq.mpr c15
          clear c15
          simp only [Option.some.injEq,Prod.mk.injEq] at H
          obtain ⟨rfl,rfl⟩:=H
          have p730:0≤(x18_1:Int):=ozD (uq)
          have q730:x18_1<(t727.length:Int):=ozD (uq)
          obtain ⟨ad730,e730,hx730_0⟩:=Kd.jsb (Kd.jE HO_16.out).2.2 x18_1 p730 q730
          cases e730
          replace p730:=ezT p730
          replace q730:=ezT q730
          have p731:0≤((rd t727 x18_1):Int):=ozD (uq)
          have q731:(rd t727 x18_1)<(l1.length:Int):=ozD (uq)
          obtain ⟨ad731,e731,hx731_0,hx731_1,hx731_2,hx731_3⟩:=jza HR1.out (rd t727 x18_1) p731 q731
          cases e731
          replace hx731_0:=cb HB.out hx731_0
          replace hx731_1:=cb HB.out hx731_1
          replace hx731_2:=cb HB.out hx731_2
          replace hx731_3:=cb HB.out hx731_3
          replace p731:=ezT p731
          replace q731:=ezT q731
          have p732:0≤((rd t727 x18_1):Int):=ozD (uq)
          have q732:(rd t727 x18_1)<(l1.length:Int):=ozD (uq)
          obtain ⟨ad732,e732,hx732_0,hx732_1,hx732_2,hx732_3⟩:=jza HR1.out (rd t727 x18_1) p732 q732
          obtain rfl:ad731=ad732:=(by injection e732)
          replace hx732_0:=cb HB.out hx732_0
          replace hx732_1:=cb HB.out hx732_1
          replace hx732_2:=cb HB.out hx732_2
          replace hx732_3:=cb HB.out hx732_3
          replace p732:=ezT p732
          replace q732:=ezT q732
          go_wp2
          go_ret2
          exact ⟨Y0,Y29⟩
         ·rw [if_neg c15] at H
          have c15b0:(((jd l1 (rd t727 x18_1)).f3) == 1)=false:=beq_eq_false_iff_ne.mpr c15
          have c15b1:(((jd l1 (rd t727 x18_1)).f3) != 1)=true:=bne_iff_ne.mpr c15
          have H':=am H
          clear H
          have p730:0≤(x18_1:Int):=ozD (uq)
          have q730:x18_1<(t727.length:Int):=ozD (uq)
          obtain ⟨ad730,e730,hx730_0⟩:=Kd.jsb (Kd.jE HO_16.out).2.2 x18_1 p730 q730
          cases e730
          replace p730:=ezT p730
          replace q730:=ezT q730
          have p731:0≤((rd t727 x18_1):Int):=ozD (uq)
          have q731:(rd t727 x18_1)<(l1.length:Int):=ozD (uq)
          obtain ⟨ad731,e731,hx731_0,hx731_1,hx731_2,hx731_3⟩:=jza HR1.out (rd t727 x18_1) p731 q731
          cases e731
          replace hx731_0:=cb HB.out hx731_0
          replace hx731_1:=cb HB.out hx731_1
          replace hx731_2:=cb HB.out hx731_2
          replace hx731_3:=cb HB.out hx731_3
          replace p731:=ezT p731
          replace q731:=ezT q731
          have p732:0≤((rd t727 x18_1):Int):=ozD (uq)
          have q732:(rd t727 x18_1)<(l1.length:Int):=ozD (uq)
          obtain ⟨ad732,e732,hx732_0,hx732_1,hx732_2,hx732_3⟩:=jza HR1.out (rd t727 x18_1) p732 q732
          obtain rfl:ad731=ad732:=(by injection e732)
          replace hx732_0:=cb HB.out hx732_0
          replace hx732_1:=cb HB.out hx732_1
          replace hx732_2:=cb HB.out hx732_2
          replace hx732_3:=cb HB.out hx732_3
          replace p732:=ezT p732
          replace q732:=ezT q732
          go_wp2
          go_roundg k1
          case measure=>have:=HK1.out;omega
          case rel=>exact ⟨(wrap64 (x18_1+1)),(sq),H',⟨by have:=HK1.out;omega⟩,⟨rq HO_16.out⟩,⟨kq BK726.out⟩,⟨Y29⟩⟩
        ·rw [if_neg c14] at H
         have c14b0:(((jd l1 (rd t727 x18_1)).f1) == 11)=false:=beq_eq_false_iff_ne.mpr c14
         have c14b1:(((jd l1 (rd t727 x18_1)).f1) != 11)=true:=bne_iff_ne.mpr c14
         by_cases c16:((jd l1 (rd t727 x18_1)).f1)=7
         ·rw [if_pos c16] at H
          have c16b0:(((jd l1 (rd t727 x18_1)).f1) == 7)=true:=beq_iff_eq.mpr c16
          have c16b1:(((jd l1 (rd t727 x18_1)).f1) != 7)=false:=bne_eq_false_iff_eq.mpr c16
          clear c16
          replace H:=bzS H
          obtain ⟨t733,A170,H⟩:=H
          replace H:(jP.l1 k1 l1 a3 (rd t727 x18_1) t727 (t727.length:Int) x18_1 t733 (t733.length:Int) 0 l0_0)=some (r1,r2):=H
          have A17:=am A170
          clear A170
          have H':=am H
          clear H
          have p730:0≤(x18_1:Int):=ozD (uq)
          have q730:x18_1<(t727.length:Int):=ozD (uq)
          obtain ⟨ad730,e730,hx730_0⟩:=Kd.jsb (Kd.jE HO_16.out).2.2 x18_1 p730 q730
          cases e730
          replace p730:=ezT p730
          replace q730:=ezT q730
          have p731:0≤((rd t727 x18_1):Int):=ozD (uq)
          have q731:(rd t727 x18_1)<(l1.length:Int):=ozD (uq)
          obtain ⟨ad731,e731,hx731_0,hx731_1,hx731_2,hx731_3⟩:=jza HR1.out (rd t727 x18_1) p731 q731
          cases e731
          replace hx731_0:=cb HB.out hx731_0
          replace hx731_1:=cb HB.out hx731_1
          replace hx731_2:=cb HB.out hx731_2
          replace hx731_3:=cb HB.out hx731_3
          replace p731:=ezT p731
          replace q731:=ezT q731
          go_wp2_with (first |((with_reducible refine je (f:=35) rfl ?_);refine gL (some 41) Try.func35 #[.slice (some ad731) l1.length c1, .int .i64 (rd t727 x18_1)] ?_;(with_reducible refine (jca.calls k1 _ _ l1 (rd t727 x18_1) t733 _ ?side1 ?side2 A17.out).mono ?_);(case side1=>exact cq (Kd.jV HR1.out HB.out));(case side2=>exact HC1.out);rintro e w18 ⟨v734,rfl,ho0,hb⟩;refine ⟨_,rfl,?_⟩;have HO735:=am (Kd.jea (Kd.jac ho0 (Kd.R_lt (rq HO_16.out))) (jta (Y29)));replace HO_16:=am (Kd.jEc (rq HO_16.out) (Kd.jbc ho0) hb);replace BK726:=am (jo (g:=gb726) (o:=.cells #[.slice A0_0 l0_0.length c0_0] 32 (0,0)) (kq BK726.out) hb);replace HB:=am (jg (Y29) hb);(try clear hb);(try clear hb2);(try clear hk);(try clear hi);(try clear ho0);obtain ⟨Ao19,co19,eo19⟩:=Kd.jsa HO735.out;subst eo19))
          go_loopg [43] k1 (fun kq v43 w'=>∃ (x43_2:Int),v43=.int .i64 x43_2∧jl (jP.l1 kq l1 a3 (rd t727 x18_1) t727 (t727.length:Int) x18_1 t733 (t733.length:Int) x43_2 l0_0=some (r1,r2))∧jl (kq≤k1)∧jl (Kd.R (Kd.int .i64) 3 w' w.heap.size (fun k_=>some k_≠((.slice Ao19 t733.length co19):Value).ownBlock) (.slice (some ad730) t727.length co8) t727)∧jl (Kd.R (Kd.int .i64) 3 w' w.heap.size (fun k_=>some k_≠((.slice (some ad730) t727.length co8):Value).ownBlock) (.slice Ao19 t733.length co19) t733)∧jl (w'.heap[gb726]?=some (.cells #[(.slice A0_0 l0_0.length c0_0)] 32 (0,0)))∧jl (Below w.heap.size w w'))
          case atStart=>exact ⟨(0),(sq),H',⟨Nat.le_refl _⟩,⟨by (with_reducible repeat (first | apply Kd.jga | apply Kd.jha | apply Kd.jra));exact Kd.jK HO_16.out (fun _ hk=>hk.2)⟩,⟨by (with_reducible repeat (first | apply Kd.jga | apply Kd.jha | apply Kd.jra));exact Kd.jK HO735.out (fun _ hk=>hk.2)⟩,⟨kq BK726.out⟩,⟨Y29⟩⟩
          case round =>
           clear H'
           try clear c1
           try clear p2
           try clear c3
           try clear c5
           try clear p6
           try clear p7
           try clear q7
           try clear hx7
           try clear c8
           try clear c9
           try clear c9b0
           try clear c10
           try clear c10b0
           try clear c11
           try clear c11b0
           try clear c12
           try clear c12b0
           try clear c13
           try clear c13b0
           try clear c14
           try clear c14b0
           try clear c14b1
           try clear c15
           try clear c15b0
           try clear c15b1
           try clear c16
           try clear c16b0
           try clear c16b1
           try clear hx730_0
           try clear hx731_0
           try clear hx731_1
           try clear hx731_2
           try clear hx731_3
           try clear hx732_0
           try clear hx732_1
           try clear hx732_2
           try clear hx732_3
           try clear p2
           try clear p730
           try clear p731
           try clear p732
           try clear q730
           try clear q731
           try clear q732
           obtain ⟨x43_2,rfl,HA,HK2,HO_16,HO_41,BK726,HB⟩:=hrel
           cases gk with
           | zero=>exact absurd HA.out (by simp [jP.l1])
           | succ k2 =>
            have H:=HA.out
            clear HA
            simp only [jP.l1] at H
            by_cases c20:x43_2<(t733.length:Int)
            ·rw [if_pos c20] at H
             have c20b0:decide (x43_2<(t733.length:Int))=true:=dzT c20
             clear c20
             by_cases c21:0≤x43_2
             ·rw [if_pos c21] at H
              have c21b0:decide (0≤x43_2)=true:=dzT c21
              clear c21
              by_cases c22:x43_2<(t733.length:Int)
              ·rw [if_pos c22] at H
               have c22b0:decide (x43_2<(t733.length:Int))=true:=dzT c22
               clear c22
               by_cases c23:0≤(rd t733 x43_2)
               ·rw [if_pos c23] at H
                have c23b0:decide (0≤(rd t733 x43_2))=true:=dzT c23
                clear c23
                by_cases c24:(rd t733 x43_2)<(l1.length:Int)
                ·rw [if_pos c24] at H
                 have c24b0:decide ((rd t733 x43_2)<(l1.length:Int))=true:=dzT c24
                 clear c24
                 by_cases c25:((jd l1 (rd t733 x43_2)).f1)=8
                 ·rw [if_pos c25] at H
                  have c25b0:(((jd l1 (rd t733 x43_2)).f1) == 8)=true:=beq_iff_eq.mpr c25
                  have c25b1:(((jd l1 (rd t733 x43_2)).f1) != 8)=false:=bne_eq_false_iff_eq.mpr c25
                  clear c25
                  replace H:=bzS H
                  obtain ⟨t739,A260,H⟩:=H
                  replace H:(if t739=true then (some ((rd t727 x18_1),rd t733 x43_2)) else (jP.l1 k2 l1 a3 (rd t727 x18_1) t727 (t727.length:Int) x18_1 t733 (t733.length:Int) (wrap64 (x43_2+1)) l0_0))=some (r1,r2):=H
                  have A26:=am A260
                  clear A260
                  by_cases c27:t739=true
                  ·subst c27
                   have H1:(some ((rd t727 x18_1),rd t733 x43_2))=some (r1,r2):=by rw [if_pos rfl] at H;exact H
                   clear H
                   have H:=H1
                   clear H1
                   simp only [Option.some.injEq,Prod.mk.injEq] at H
                   obtain ⟨rfl,rfl⟩:=H
                   have p736:0≤(x43_2:Int):=ozD (uq)
                   have q736:x43_2<(t733.length:Int):=ozD (uq)
                   obtain ⟨ad736,e736,hx736_0⟩:=Kd.jsb (Kd.jE HO_41.out).2.2 x43_2 p736 q736
                   cases e736
                   replace p736:=ezT p736
                   replace q736:=ezT q736
                   try go_wp2
                   replace HO_16:=am (Kd.jra HO_16.out)
                   replace HO_41:=am (Kd.jra HO_41.out)
                   replace BK726:=am (jF BK726.out)
                   replace HB:=am (jR HB.out)
                   have p737:0≤((rd t733 x43_2):Int):=ozD (uq)
                   have q737:(rd t733 x43_2)<(l1.length:Int):=ozD (uq)
                   obtain ⟨ad737,e737,hx737_0,hx737_1,hx737_2,hx737_3⟩:=jza HR1.out (rd t733 x43_2) p737 q737
                   have hw737_3:=hx737_3
                   have hw737_2:=hx737_2
                   have hw737_1:=hx737_1
                   have hw737_0:=hx737_0
                   obtain rfl:ad731=ad737:=(by injection e737)
                   replace hx737_0:=cb HB.out hx737_0
                   replace hx737_1:=cb HB.out hx737_1
                   replace hx737_2:=cb HB.out hx737_2
                   replace hx737_3:=cb HB.out hx737_3
                   replace p737:=ezT p737
                   replace q737:=ezT q737
                   have p738:0≤((rd t733 x43_2):Int):=ozD (uq)
                   have q738:(rd t733 x43_2)<(l1.length:Int):=ozD (uq)
                   obtain ⟨ad738,e738,hx738_0,hx738_1,hx738_2,hx738_3⟩:=jza HR1.out (rd t733 x43_2) p738 q738
                   have hw738_3:=hx738_3
                   have hw738_2:=hx738_2
                   have hw738_1:=hx738_1
                   have hw738_0:=hx738_0
                   obtain rfl:ad731=ad738:=(by injection e738)
                   replace hx738_0:=cb HB.out hx738_0
                   replace hx738_1:=cb HB.out hx738_1
                   replace hx738_2:=cb HB.out hx738_2
                   replace hx738_3:=cb HB.out hx738_3
                   replace p738:=ezT p738
                   replace q738:=ezT q738
                   refine start_ (n:=16) (S:=fun w'=>w'.cell? ⟨gb726,0,none⟩=some (.slice A0_0 l0_0.length c0_0)∧w'.cell? (ad731.add (((rd t733 x43_2)).toNat * 4))=some (.int .i64 ((jd l1 (rd t733 x43_2)).f0))∧w'.cell? ⟨(ad731.add (((rd t733 x43_2)).toNat * 4)).block,(ad731.add (((rd t733 x43_2)).toNat * 4)).off+1,none⟩=some (.int .i64 ((jd l1 (rd t733 x43_2)).f1))∧w'.cell? ⟨(ad731.add (((rd t733 x43_2)).toNat * 4)).block,(ad731.add (((rd t733 x43_2)).toNat * 4)).off+2,none⟩=some (.int .i64 ((jd l1 (rd t733 x43_2)).f2))∧w'.cell? ⟨(ad731.add (((rd t733 x43_2)).toNat * 4)).block,(ad731.add (((rd t733 x43_2)).toNat * 4)).off+3,none⟩=some (.int .i64 ((jd l1 (rd t733 x43_2)).f3))∧w'.cell? (ad731.add (((rd t733 x43_2)).toNat * 4))=some (.int .i64 ((jd l1 (rd t733 x43_2)).f0))∧w'.cell? ⟨(ad731.add (((rd t733 x43_2)).toNat * 4)).block,(ad731.add (((rd t733 x43_2)).toNat * 4)).off+1,none⟩=some (.int .i64 ((jd l1 (rd t733 x43_2)).f1))∧w'.cell? ⟨(ad731.add (((rd t733 x43_2)).toNat * 4)).block,(ad731.add (((rd t733 x43_2)).toNat * 4)).off+2,none⟩=some (.int .i64 ((jd l1 (rd t733 x43_2)).f2))∧w'.cell? ⟨(ad731.add (((rd t733 x43_2)).toNat * 4)).block,(ad731.add (((rd t733 x43_2)).toNat * 4)).off+3,none⟩=some (.int .i64 ((jd l1 (rd t733 x43_2)).f3))) (ds:=[]) #[false,false,false,false,false,false,false,false,false,false,false,false,false,false,false,false] (by kernel_rfl) rfl rfl ⟨(jA BK726.out 0).trans rfl,((HB.out.cell (World.block_lt_of_cell? w _ hw737_0)).trans hw737_0),((HB.out.cell (World.block_lt_of_cell? w _ hw737_1)).trans hw737_1),((HB.out.cell (World.block_lt_of_cell? w _ hw737_2)).trans hw737_2),((HB.out.cell (World.block_lt_of_cell? w _ hw737_3)).trans hw737_3),((HB.out.cell (World.block_lt_of_cell? w _ hw738_0)).trans hw738_0),((HB.out.cell (World.block_lt_of_cell? w _ hw738_1)).trans hw738_1),((HB.out.cell (World.block_lt_of_cell? w _ hw738_2)).trans hw738_2),((HB.out.cell (World.block_lt_of_cell? w _ hw738_3)).trans hw738_3)⟩ (fun hHeld=>?_);refine jTb jP.tab12 jP.bits12 (fun HT_ HW_=>?_)
                   generalize wr.drew=w28 at HO_16 HO_41 BK726 HB hx737_0 hx737_1 hx737_2 hx737_3 hx738_0 hx738_1 hx738_2 hx738_3 hHeld ⊢
                   refine pq (i:=0) (N:=some 47) #[true,false,false,false,false,false,false,false,false,false,false,false,false,false,false,false] ?_
                   refine pq (i:=1) (N:=some 48) #[true,true,false,false,false,false,false,false,false,false,false,false,false,false,false,false] ?_
                   refine pq (i:=2) (N:=some 49) #[true,true,true,false,false,false,false,false,false,false,false,false,false,false,false,false] ?_
                   refine pq (i:=3) (N:=some 50) #[true,true,true,true,false,false,false,false,false,false,false,false,false,false,false,false] ?_
                   refine jrc (i:=4) (N:=some 51) (v:=?_) (a':=?_) #[true,true,true,true,true,false,false,false,false,false,false,false,false,false,false,false] rfl rfl (jub HT_.out HW_.out (by kernel_rfl)) (fun _ _ _ h=>h) (Or.inl ⟨by rfl,?_⟩) hHeld ?_ ?_
                   rotate_left
                   ·rintro w' ⟨s0,s1,s2,s3,s4,s5,s6,s7,s8⟩
                    go_simp
                    with_reducible rfl
                   rotate_left
                   ·exact sa
                   refine pq (i:=5) (N:=some 52) #[true,true,true,true,true,true,false,false,false,false,false,false,false,false,false,false] ?_
                   refine pq (i:=6) (N:=some 53) #[true,true,true,true,true,true,true,false,false,false,false,false,false,false,false,false] ?_
                   refine pq (i:=8) (N:=some 55) #[true,true,true,true,true,true,true,false,true,false,false,false,false,false,false,false] ?_
                   refine pq (i:=9) (N:=some 56) #[true,true,true,true,true,true,true,false,true,true,false,false,false,false,false,false] ?_
                   refine pq (i:=10) (N:=some 57) #[true,true,true,true,true,true,true,false,true,true,true,false,false,false,false,false] ?_
                   refine pq (i:=11) (N:=some 58) #[true,true,true,true,true,true,true,false,true,true,true,true,false,false,false,false] ?_
                   refine pq (i:=12) (N:=some 59) #[true,true,true,true,true,true,true,false,true,true,true,true,true,false,false,false] ?_
                   refine jrc (i:=7) (N:=some 54) (v:=?_) (a':=?_) #[true,true,true,true,true,true,true,true,true,true,true,true,true,false,false,false] rfl rfl (jub HT_.out HW_.out (by kernel_rfl)) (fun _ _ _ h=>h) (Or.inl ⟨by rfl,?_⟩) hHeld ?_ ?_
                   rotate_left
                   ·rintro w' ⟨s0,s1,s2,s3,s4,s5,s6,s7,s8⟩
                    go_simp
                    with_reducible rfl
                   rotate_left
                   ·exact sa
                   refine jrc (i:=13) (N:=some 60) (v:=?_) (a':=?_) #[true,true,true,true,true,true,true,true,true,true,true,true,true,true,false,false] rfl rfl (jub HT_.out HW_.out (by kernel_rfl)) (fun _ _ _ h=>h) (Or.inl ⟨by rfl,?_⟩) hHeld ?_ ?_
                   rotate_left
                   ·rintro w' ⟨s0,s1,s2,s3,s4,s5,s6,s7,s8⟩
                    go_simp
                    with_reducible rfl
                   rotate_left
                   ·exact sa
                   refine one_ (i:=14) (N:=some 61) #[true,true,true,true,true,true,true,true,true,true,true,true,true,true,true,false] rfl rfl (jJb HT_.out (by kernel_rfl)) (by decide) (fun K hK=>?_)
                   refine goes_ Try.func51 (by kernel_rfl) rfl #[.agg #[.slice A0_0 l0_0.length c0_0], .int .i64 a3, .int .i64 ((jd l1 (rd t733 x43_2)).f2)] (by rfl) rfl rfl (aq) ?_
                   with_reducible refine (jpb.calls k2 _ _ l0_0 a3 ((jd l1 (rd t733 x43_2)).f2) true _ ?side1 ?side2 A26.out).mono ?_
                   (case side1=>exact cq (Kd.jV HR0_0.out HB.out))
                   (case side2=>exact HC0_0.out)
                   rintro e w29 ⟨rfl,hb⟩
                   refine ⟨_,rfl,?_⟩
                   replace HO_16:=am (Kd.jva (rq HO_16.out) hb)
                   replace HO_41:=am (Kd.jva (rq HO_41.out) hb)
                   replace BK726:=am (jo (g:=gb726) (o:=.cells #[.slice A0_0 l0_0.length c0_0] 32 (0,0)) (kq BK726.out) hb)
                   replace HB:=am (jg (Y29) hb)
                   (try clear hb)
                   (try clear hb2)
                   (try clear hk)
                   (try clear hi)
                   refine hK.out _ _ ⟨(jA BK726.out 0).trans rfl,((HB.out.cell (World.block_lt_of_cell? w _ hw737_0)).trans hw737_0),((HB.out.cell (World.block_lt_of_cell? w _ hw737_1)).trans hw737_1),((HB.out.cell (World.block_lt_of_cell? w _ hw737_2)).trans hw737_2),((HB.out.cell (World.block_lt_of_cell? w _ hw737_3)).trans hw737_3),((HB.out.cell (World.block_lt_of_cell? w _ hw738_0)).trans hw738_0),((HB.out.cell (World.block_lt_of_cell? w _ hw738_1)).trans hw738_1),((HB.out.cell (World.block_lt_of_cell? w _ hw738_2)).trans hw738_2),((HB.out.cell (World.block_lt_of_cell? w _ hw738_3)).trans hw738_3)⟩ (fun hHeld=>?_)
                   clear hK K
                   refine jUb (a':=?_) ?_ ?_
                   rotate_left
                   ·show Act.put _ (some 61) _=_
                    simp only [Act.put,List.setIfInBounds_toArray,List.set_cons_zero,List.set_cons_succ,jlb,jmb]
                    rfl
                   refine pq (i:=15) (N:=some 62) #[true,true,true,true,true,true,true,true,true,true,true,true,true,true,true,true] ?_
                   refine done_ (jGc HT_.out (by kernel_rfl)) ?_
                   try go_wp2
                   go_ret2
                   exact ⟨Y0,Y29⟩
                  ·replace c27:=Bool.eq_false_iff.mpr c27
                   subst c27
                   have H1:(jP.l1 k2 l1 a3 (rd t727 x18_1) t727 (t727.length:Int) x18_1 t733 (t733.length:Int) (wrap64 (x43_2+1)) l0_0)=some (r1,r2):=by rw [if_neg (show ¬ (false=true) by decide)] at H;exact H
                   clear H
                   have H:=H1
                   clear H1
                   have H':=am H
                   clear H
                   have p736:0≤(x43_2:Int):=ozD (uq)
                   have q736:x43_2<(t733.length:Int):=ozD (uq)
                   obtain ⟨ad736,e736,hx736_0⟩:=Kd.jsb (Kd.jE HO_41.out).2.2 x43_2 p736 q736
                   cases e736
                   replace p736:=ezT p736
                   replace q736:=ezT q736
                   try go_wp2
                   replace HO_16:=am (Kd.jra HO_16.out)
                   replace HO_41:=am (Kd.jra HO_41.out)
                   replace BK726:=am (jF BK726.out)
                   replace HB:=am (jR HB.out)
                   have p737:0≤((rd t733 x43_2):Int):=ozD (uq)
                   have q737:(rd t733 x43_2)<(l1.length:Int):=ozD (uq)
                   obtain ⟨ad737,e737,hx737_0,hx737_1,hx737_2,hx737_3⟩:=jza HR1.out (rd t733 x43_2) p737 q737
                   have hw737_3:=hx737_3
                   have hw737_2:=hx737_2
                   have hw737_1:=hx737_1
                   have hw737_0:=hx737_0
                   obtain rfl:ad731=ad737:=(by injection e737)
                   replace hx737_0:=cb HB.out hx737_0
                   replace hx737_1:=cb HB.out hx737_1
                   replace hx737_2:=cb HB.out hx737_2
                   replace hx737_3:=cb HB.out hx737_3
                   replace p737:=ezT p737
                   replace q737:=ezT q737
                   have p738:0≤((rd t733 x43_2):Int):=ozD (uq)
                   have q738:(rd t733 x43_2)<(l1.length:Int):=ozD (uq)
                   obtain ⟨ad738,e738,hx738_0,hx738_1,hx738_2,hx738_3⟩:=jza HR1.out (rd t733 x43_2) p738 q738
                   have hw738_3:=hx738_3
                   have hw738_2:=hx738_2
                   have hw738_1:=hx738_1
                   have hw738_0:=hx738_0
                   obtain rfl:ad731=ad738:=(by injection e738)
                   replace hx738_0:=cb HB.out hx738_0
                   replace hx738_1:=cb HB.out hx738_1
                   replace hx738_2:=cb HB.out hx738_2
                   replace hx738_3:=cb HB.out hx738_3
                   replace p738:=ezT p738
                   replace q738:=ezT q738
                   refine start_ (n:=16) (S:=fun w'=>w'.cell? ⟨gb726,0,none⟩=some (.slice A0_0 l0_0.length c0_0)∧w'.cell? (ad731.add (((rd t733 x43_2)).toNat * 4))=some (.int .i64 ((jd l1 (rd t733 x43_2)).f0))∧w'.cell? ⟨(ad731.add (((rd t733 x43_2)).toNat * 4)).block,(ad731.add (((rd t733 x43_2)).toNat * 4)).off+1,none⟩=some (.int .i64 ((jd l1 (rd t733 x43_2)).f1))∧w'.cell? ⟨(ad731.add (((rd t733 x43_2)).toNat * 4)).block,(ad731.add (((rd t733 x43_2)).toNat * 4)).off+2,none⟩=some (.int .i64 ((jd l1 (rd t733 x43_2)).f2))∧w'.cell? ⟨(ad731.add (((rd t733 x43_2)).toNat * 4)).block,(ad731.add (((rd t733 x43_2)).toNat * 4)).off+3,none⟩=some (.int .i64 ((jd l1 (rd t733 x43_2)).f3))∧w'.cell? (ad731.add (((rd t733 x43_2)).toNat * 4))=some (.int .i64 ((jd l1 (rd t733 x43_2)).f0))∧w'.cell? ⟨(ad731.add (((rd t733 x43_2)).toNat * 4)).block,(ad731.add (((rd t733 x43_2)).toNat * 4)).off+1,none⟩=some (.int .i64 ((jd l1 (rd t733 x43_2)).f1))∧w'.cell? ⟨(ad731.add (((rd t733 x43_2)).toNat * 4)).block,(ad731.add (((rd t733 x43_2)).toNat * 4)).off+2,none⟩=some (.int .i64 ((jd l1 (rd t733 x43_2)).f2))∧w'.cell? ⟨(ad731.add (((rd t733 x43_2)).toNat * 4)).block,(ad731.add (((rd t733 x43_2)).toNat * 4)).off+3,none⟩=some (.int .i64 ((jd l1 (rd t733 x43_2)).f3))) (ds:=[]) #[false,false,false,false,false,false,false,false,false,false,false,false,false,false,false,false] (by kernel_rfl) rfl rfl ⟨(jA BK726.out 0).trans rfl,((HB.out.cell (World.block_lt_of_cell? w _ hw737_0)).trans hw737_0),((HB.out.cell (World.block_lt_of_cell? w _ hw737_1)).trans hw737_1),((HB.out.cell (World.block_lt_of_cell? w _ hw737_2)).trans hw737_2),((HB.out.cell (World.block_lt_of_cell? w _ hw737_3)).trans hw737_3),((HB.out.cell (World.block_lt_of_cell? w _ hw738_0)).trans hw738_0),((HB.out.cell (World.block_lt_of_cell? w _ hw738_1)).trans hw738_1),((HB.out.cell (World.block_lt_of_cell? w _ hw738_2)).trans hw738_2),((HB.out.cell (World.block_lt_of_cell? w _ hw738_3)).trans hw738_3)⟩ (fun hHeld=>?_);refine jTb jP.tab12 jP.bits12 (fun HT_ HW_=>?_)
                   generalize wr.drew=w30 at HO_16 HO_41 BK726 HB hx737_0 hx737_1 hx737_2 hx737_3 hx738_0 hx738_1 hx738_2 hx738_3 hHeld ⊢
                   refine pq (i:=0) (N:=some 47) #[true,false,false,false,false,false,false,false,false,false,false,false,false,false,false,false] ?_
                   refine pq (i:=1) (N:=some 48) #[true,true,false,false,false,false,false,false,false,false,false,false,false,false,false,false] ?_
                   refine pq (i:=2) (N:=some 49) #[true,true,true,false,false,false,false,false,false,false,false,false,false,false,false,false] ?_
                   refine pq (i:=3) (N:=some 50) #[true,true,true,true,false,false,false,false,false,false,false,false,false,false,false,false] ?_
                   refine jrc (i:=4) (N:=some 51) (v:=?_) (a':=?_) #[true,true,true,true,true,false,false,false,false,false,false,false,false,false,false,false] rfl rfl (jub HT_.out HW_.out (by kernel_rfl)) (fun _ _ _ h=>h) (Or.inl ⟨by rfl,?_⟩) hHeld ?_ ?_
                   rotate_left
                   ·rintro w' ⟨s0,s1,s2,s3,s4,s5,s6,s7,s8⟩
                    go_simp
                    with_reducible rfl
                   rotate_left
                   ·exact sa
                   refine pq (i:=5) (N:=some 52) #[true,true,true,true,true,true,false,false,false,false,false,false,false,false,false,false] ?_
                   refine pq (i:=6) (N:=some 53) #[true,true,true,true,true,true,true,false,false,false,false,false,false,false,false,false] ?_
                   refine pq (i:=8) (N:=some 55) #[true,true,true,true,true,true,true,false,true,false,false,false,false,false,false,false] ?_
                   refine pq (i:=9) (N:=some 56) #[true,true,true,true,true,true,true,false,true,true,false,false,false,false,false,false] ?_
                   refine pq (i:=10) (N:=some 57) #[true,true,true,true,true,true,true,false,true,true,true,false,false,false,false,false] ?_
                   refine pq (i:=11) (N:=some 58) #[true,true,true,true,true,true,true,false,true,true,true,true,false,false,false,false] ?_
                   refine pq (i:=12) (N:=some 59) #[true,true,true,true,true,true,true,false,true,true,true,true,true,false,false,false] ?_
                   refine jrc (i:=7) (N:=some 54) (v:=?_) (a':=?_) #[true,true,true,true,true,true,true,true,true,true,true,true,true,false,false,false] rfl rfl (jub HT_.out HW_.out (by kernel_rfl)) (fun _ _ _ h=>h) (Or.inl ⟨by rfl,?_⟩) hHeld ?_ ?_
                   rotate_left
                   ·rintro w' ⟨s0,s1,s2,s3,s4,s5,s6,s7,s8⟩
                    go_simp
                    with_reducible rfl
                   rotate_left
                   ·exact sa
                   refine jrc (i:=13) (N:=some 60) (v:=?_) (a':=?_) #[true,true,true,true,true,true,true,true,true,true,true,true,true,true,false,false] rfl rfl (jub HT_.out HW_.out (by kernel_rfl)) (fun _ _ _ h=>h) (Or.inl ⟨by rfl,?_⟩) hHeld ?_ ?_
                   rotate_left
                   ·rintro w' ⟨s0,s1,s2,s3,s4,s5,s6,s7,s8⟩
                    go_simp
                    with_reducible rfl
                   rotate_left
                   ·exact sa
                   refine one_ (i:=14) (N:=some 61) #[true,true,true,true,true,true,true,true,true,true,true,true,true,true,true,false] rfl rfl (jJb HT_.out (by kernel_rfl)) (by decide) (fun K hK=>?_)
                   refine goes_ Try.func51 (by kernel_rfl) rfl #[.agg #[.slice A0_0 l0_0.length c0_0], .int .i64 a3, .int .i64 ((jd l1 (rd t733 x43_2)).f2)] (by rfl) rfl rfl (aq) ?_
                   with_reducible refine (jpb.calls k2 _ _ l0_0 a3 ((jd l1 (rd t733 x43_2)).f2) false _ ?side1 ?side2 A26.out).mono ?_
                   (case side1=>exact cq (Kd.jV HR0_0.out HB.out))
                   (case side2=>exact HC0_0.out)
                   rintro e w31 ⟨rfl,hb⟩
                   refine ⟨_,rfl,?_⟩
                   replace HO_16:=am (Kd.jva (rq HO_16.out) hb)
                   replace HO_41:=am (Kd.jva (rq HO_41.out) hb)
                   replace BK726:=am (jo (g:=gb726) (o:=.cells #[.slice A0_0 l0_0.length c0_0] 32 (0,0)) (kq BK726.out) hb)
                   replace HB:=am (jg (Y29) hb)
                   (try clear hb)
                   (try clear hb2)
                   (try clear hk)
                   (try clear hi)
                   refine hK.out _ _ ⟨(jA BK726.out 0).trans rfl,((HB.out.cell (World.block_lt_of_cell? w _ hw737_0)).trans hw737_0),((HB.out.cell (World.block_lt_of_cell? w _ hw737_1)).trans hw737_1),((HB.out.cell (World.block_lt_of_cell? w _ hw737_2)).trans hw737_2),((HB.out.cell (World.block_lt_of_cell? w _ hw737_3)).trans hw737_3),((HB.out.cell (World.block_lt_of_cell? w _ hw738_0)).trans hw738_0),((HB.out.cell (World.block_lt_of_cell? w _ hw738_1)).trans hw738_1),((HB.out.cell (World.block_lt_of_cell? w _ hw738_2)).trans hw738_2),((HB.out.cell (World.block_lt_of_cell? w _ hw738_3)).trans hw738_3)⟩ (fun hHeld=>?_)
                   clear hK K
                   refine jUb (a':=?_) ?_ ?_
                   rotate_left
                   ·show Act.put _ (some 61) _=_
                    simp only [Act.put,List.setIfInBounds_toArray,List.set_cons_zero,List.set_cons_succ,jlb,jmb]
                    rfl
                   refine pq (i:=15) (N:=some 62) #[true,true,true,true,true,true,true,true,true,true,true,true,true,true,true,true] ?_
                   refine done_ (jGc HT_.out (by kernel_rfl)) ?_
                   try go_wp2
                   go_roundg k2
                   case measure=>have:=HK1.out;have:=HK2.out;omega
                   case rel=>exact ⟨(wrap64 (x43_2+1)),(sq),H',⟨by have:=HK1.out;have:=HK2.out;omega⟩,⟨rq HO_16.out⟩,⟨rq HO_41.out⟩,⟨kq BK726.out⟩,⟨Y29⟩⟩
                 ·rw [if_neg c25] at H
                  have c25b0:(((jd l1 (rd t733 x43_2)).f1) == 8)=false:=beq_eq_false_iff_ne.mpr c25
                  have c25b1:(((jd l1 (rd t733 x43_2)).f1) != 8)=true:=bne_iff_ne.mpr c25
                  have H':=am H
                  clear H
                  have p736:0≤(x43_2:Int):=ozD (uq)
                  have q736:x43_2<(t733.length:Int):=ozD (uq)
                  obtain ⟨ad736,e736,hx736_0⟩:=Kd.jsb (Kd.jE HO_41.out).2.2 x43_2 p736 q736
                  cases e736
                  replace p736:=ezT p736
                  replace q736:=ezT q736
                  try go_wp2
                  replace HO_16:=am (Kd.jra HO_16.out)
                  replace HO_41:=am (Kd.jra HO_41.out)
                  replace BK726:=am (jF BK726.out)
                  replace HB:=am (jR HB.out)
                  have p737:0≤((rd t733 x43_2):Int):=ozD (uq)
                  have q737:(rd t733 x43_2)<(l1.length:Int):=ozD (uq)
                  obtain ⟨ad737,e737,hx737_0,hx737_1,hx737_2,hx737_3⟩:=jza HR1.out (rd t733 x43_2) p737 q737
                  have hw737_3:=hx737_3
                  have hw737_2:=hx737_2
                  have hw737_1:=hx737_1
                  have hw737_0:=hx737_0
                  obtain rfl:ad731=ad737:=(by injection e737)
                  replace hx737_0:=cb HB.out hx737_0
                  replace hx737_1:=cb HB.out hx737_1
                  replace hx737_2:=cb HB.out hx737_2
                  replace hx737_3:=cb HB.out hx737_3
                  replace p737:=ezT p737
                  replace q737:=ezT q737
                  refine start_ (n:=16) (S:=fun w'=>w'.cell? (ad731.add (((rd t733 x43_2)).toNat * 4))=some (.int .i64 ((jd l1 (rd t733 x43_2)).f0))∧w'.cell? ⟨(ad731.add (((rd t733 x43_2)).toNat * 4)).block,(ad731.add (((rd t733 x43_2)).toNat * 4)).off+1,none⟩=some (.int .i64 ((jd l1 (rd t733 x43_2)).f1))∧w'.cell? ⟨(ad731.add (((rd t733 x43_2)).toNat * 4)).block,(ad731.add (((rd t733 x43_2)).toNat * 4)).off+2,none⟩=some (.int .i64 ((jd l1 (rd t733 x43_2)).f2))∧w'.cell? ⟨(ad731.add (((rd t733 x43_2)).toNat * 4)).block,(ad731.add (((rd t733 x43_2)).toNat * 4)).off+3,none⟩=some (.int .i64 ((jd l1 (rd t733 x43_2)).f3))) (ds:=[]) #[false,false,false,false,false,false,false,false,false,false,false,false,false,false,false,false] (by kernel_rfl) rfl rfl ⟨((HB.out.cell (World.block_lt_of_cell? w _ hw737_0)).trans hw737_0),((HB.out.cell (World.block_lt_of_cell? w _ hw737_1)).trans hw737_1),((HB.out.cell (World.block_lt_of_cell? w _ hw737_2)).trans hw737_2),((HB.out.cell (World.block_lt_of_cell? w _ hw737_3)).trans hw737_3)⟩ (fun hHeld=>?_);refine jTb jP.tab12 jP.bits12 (fun HT_ HW_=>?_)
                  generalize wr.drew=w32 at HO_16 HO_41 BK726 HB hx737_0 hx737_1 hx737_2 hx737_3 hHeld ⊢
                  refine pq (i:=0) (N:=some 47) #[true,false,false,false,false,false,false,false,false,false,false,false,false,false,false,false] ?_
                  refine pq (i:=1) (N:=some 48) #[true,true,false,false,false,false,false,false,false,false,false,false,false,false,false,false] ?_
                  refine pq (i:=2) (N:=some 49) #[true,true,true,false,false,false,false,false,false,false,false,false,false,false,false,false] ?_
                  refine pq (i:=3) (N:=some 50) #[true,true,true,true,false,false,false,false,false,false,false,false,false,false,false,false] ?_
                  refine jrc (i:=4) (N:=some 51) (v:=?_) (a':=?_) #[true,true,true,true,true,false,false,false,false,false,false,false,false,false,false,false] rfl rfl (jub HT_.out HW_.out (by kernel_rfl)) (fun _ _ _ h=>h) (Or.inl ⟨by rfl,?_⟩) hHeld ?_ ?_
                  rotate_left
                  ·rintro w' ⟨s0,s1,s2,s3⟩
                   go_simp
                   with_reducible rfl
                  rotate_left
                  ·exact sa
                  refine pq (i:=5) (N:=some 52) #[true,true,true,true,true,true,false,false,false,false,false,false,false,false,false,false] ?_
                  refine pq (i:=6) (N:=some 53) #[true,true,true,true,true,true,true,false,false,false,false,false,false,false,false,false] ?_
                  refine pure_ (i:=7) (N:=some 54) (v:=undef) (a':=?_) #[true,true,true,true,true,true,true,true,false,false,false,false,false,false,false,false] rfl rfl (any_of HT_.out (by kernel_rfl)) (fun _ _ _ h=>h) (Or.inr ⟨by rfl,rfl⟩) ?_ ?_
                  rotate_left
                  ·exact sa
                  refine pure_ (i:=8) (N:=some 55) (v:=undef) (a':=?_) #[true,true,true,true,true,true,true,true,true,false,false,false,false,false,false,false] rfl rfl (any_of HT_.out (by kernel_rfl)) (fun _ _ _ h=>h) (Or.inr ⟨by rfl,rfl⟩) ?_ ?_
                  rotate_left
                  ·exact sa
                  refine pure_ (i:=9) (N:=some 56) (v:=undef) (a':=?_) #[true,true,true,true,true,true,true,true,true,true,false,false,false,false,false,false] rfl rfl (any_of HT_.out (by kernel_rfl)) (fun _ _ _ h=>h) (Or.inr ⟨by rfl,rfl⟩) ?_ ?_
                  rotate_left
                  ·exact sa
                  refine pure_ (i:=10) (N:=some 57) (v:=undef) (a':=?_) #[true,true,true,true,true,true,true,true,true,true,true,false,false,false,false,false] rfl rfl (any_of HT_.out (by kernel_rfl)) (fun _ _ _ h=>h) (Or.inr ⟨by rfl,rfl⟩) ?_ ?_
                  rotate_left
                  ·exact sa
                  refine pure_ (i:=11) (N:=some 58) (v:=undef) (a':=?_) #[true,true,true,true,true,true,true,true,true,true,true,true,false,false,false,false] rfl rfl (any_of HT_.out (by kernel_rfl)) (fun _ _ _ h=>h) (Or.inr ⟨by rfl,rfl⟩) ?_ ?_
                  rotate_left
                  ·exact sa
                  refine pure_ (i:=12) (N:=some 59) (v:=undef) (a':=?_) #[true,true,true,true,true,true,true,true,true,true,true,true,true,false,false,false] rfl rfl (any_of HT_.out (by kernel_rfl)) (fun _ _ _ h=>h) (Or.inr ⟨by rfl,rfl⟩) ?_ ?_
                  rotate_left
                  ·exact sa
                  refine pure_ (i:=13) (N:=some 60) (v:=undef) (a':=?_) #[true,true,true,true,true,true,true,true,true,true,true,true,true,true,false,false] rfl rfl (any_of HT_.out (by kernel_rfl)) (fun _ _ _ h=>h) (Or.inr ⟨by rfl,rfl⟩) ?_ ?_
                  rotate_left
                  ·exact sa
                  refine pure_ (i:=14) (N:=some 61) (v:=undef) (a':=?_) #[true,true,true,true,true,true,true,true,true,true,true,true,true,true,true,false] rfl rfl (any_of HT_.out (by kernel_rfl)) (fun _ _ _ h=>h) (Or.inr ⟨by rfl,rfl⟩) ?_ ?_
                  rotate_left
                  ·exact sa
                  refine pq (i:=15) (N:=some 62) #[true,true,true,true,true,true,true,true,true,true,true,true,true,true,true,true] ?_
                  refine done_ (jGc HT_.out (by kernel_rfl)) ?_
                  try go_wp2
                  go_roundg k2
                  case measure=>have:=HK1.out;have:=HK2.out;omega
                  case rel=>exact ⟨(wrap64 (x43_2+1)),(sq),H',⟨by have:=HK1.out;have:=HK2.out;omega⟩,⟨rq HO_16.out⟩,⟨rq HO_41.out⟩,⟨kq BK726.out⟩,⟨Y29⟩⟩
                ·rw [if_neg c24] at H
                 exact absurd H (by simp)
               ·rw [if_neg c23] at H
                exact absurd H (by simp)
              ·rw [if_neg c22] at H
               exact absurd H (by simp)
             ·rw [if_neg c21] at H
              exact absurd H (by simp)
            ·rw [if_neg c20] at H
             have c20b0:decide (x43_2<(t733.length:Int))=false:=dzF c20
             clear c20
             have H':=am H
             clear H
             go_wp2
             go_roundg k2
             case measure=>have:=HK1.out;have:=HK2.out;omega
             case rel=>exact ⟨(wrap64 (x18_1+1)),(sq),H',⟨by have:=HK1.out;have:=HK2.out;omega⟩,⟨by (with_reducible repeat (first | apply Kd.jga | apply Kd.jha | apply Kd.jra));exact Kd.jK HO_16.out (fun _ hk=>trivial)⟩,⟨kq BK726.out⟩,⟨Y29⟩⟩
         ·rw [if_neg c16] at H
          have c16b0:(((jd l1 (rd t727 x18_1)).f1) == 7)=false:=beq_eq_false_iff_ne.mpr c16
          have c16b1:(((jd l1 (rd t727 x18_1)).f1) != 7)=true:=bne_iff_ne.mpr c16
          have H':=am H
          clear H
          have p730:0≤(x18_1:Int):=ozD (uq)
          have q730:x18_1<(t727.length:Int):=ozD (uq)
          obtain ⟨ad730,e730,hx730_0⟩:=Kd.jsb (Kd.jE HO_16.out).2.2 x18_1 p730 q730
          cases e730
          replace p730:=ezT p730
          replace q730:=ezT q730
          have p731:0≤((rd t727 x18_1):Int):=ozD (uq)
          have q731:(rd t727 x18_1)<(l1.length:Int):=ozD (uq)
          obtain ⟨ad731,e731,hx731_0,hx731_1,hx731_2,hx731_3⟩:=jza HR1.out (rd t727 x18_1) p731 q731
          cases e731
          replace hx731_0:=cb HB.out hx731_0
          replace hx731_1:=cb HB.out hx731_1
          replace hx731_2:=cb HB.out hx731_2
          replace hx731_3:=cb HB.out hx731_3
          replace p731:=ezT p731
          replace q731:=ezT q731
          go_wp2
          go_roundg k1
          case measure=>have:=HK1.out;omega
          case rel=>exact ⟨(wrap64 (x18_1+1)),(sq),H',⟨by have:=HK1.out;omega⟩,⟨rq HO_16.out⟩,⟨kq BK726.out⟩,⟨Y29⟩⟩
       ·rw [if_neg c13] at H
        exact absurd H (by simp)
      ·rw [if_neg c12] at H
       exact absurd H (by simp)
     ·rw [if_neg c11] at H
      exact absurd H (by simp)
    ·rw [if_neg c10] at H
     exact absurd H (by simp)
   ·rw [if_neg c9] at H
    have c9b0:decide (x18_1<(t727.length:Int))=false:=dzF c9
    clear c9
    simp only [Option.some.injEq,Prod.mk.injEq] at H
    obtain ⟨rfl,rfl⟩:=H
    go_wp2
    go_ret2
    exact ⟨Y0,Y29⟩
def jDb.f (k : Nat) (l0_0 : List (S98)) (l1 : List (S59)) (a2 : Int) (a3 : Int) : Option (Int) := (jGb.f k l0_0 l1 a2).bind fun t741 => (if t741 = true then ((jwa.f l0_0 a3).bind fun t742 => (if t742 = true then ((jP.f k l0_0 l1 a2 a3).bind fun bt743 => (some bt743.2)) else (some (-1)))) else (some (-1)))
set_option maxHeartbeats 8000000 in
set_option maxRecDepth 100000 in
theorem jDb.calls (k : Nat) (A0_0 : Option Addr) (c0_0 : Nat) (l0_0 : List (S98)) (A1 : Option Addr) (c1 : Nat) (l1 : List (S59)) (a2 : Int) (a3 : Int) (r : Int) (w : World) (hr0_0 : Kd.C k98 w A0_0 l0_0.length l0_0) (hc0_0 : l0_0.length ≤ c0_0) (hr1 : Kd.C k59 w A1 l1.length l1) (hc1 : l1.length ≤ c1) (h : jDb.f k l0_0 l1 a2 a3 = some r) :
  Calls Try.prog 24 #[.agg #[.slice A0_0 l0_0.length c0_0], .slice A1 l1.length c1, .int .i64 a2, .int .i64 a3] w fun e w'=>e=.returned (.int .i64 r)∧Below w.heap.size w w':=by
 have hu32:=Try.underlying32
 have HR0_0:=am hr0_0
 have HC0_0:=am hc0_0
 clear hr0_0 hc0_0
 have HR1:=am hr1
 have HC1:=am hc1
 clear hr1 hc1
 have HB:=am (Below.refl w.heap.size w)
 have H:((jGb.f k l0_0 l1 a2).bind fun t741=>(if t741=true then ((jwa.f l0_0 a3).bind fun t742=>(if t742=true then ((jP.f k l0_0 l1 a2 a3).bind fun bt743=>(some bt743.2)) else (some (-1)))) else (some (-1))))=some r:=h
 clear h
 replace H:=bzS H
 obtain ⟨t741,A50,H⟩:=H
 replace H:(if t741=true then ((jwa.f l0_0 a3).bind fun t742=>(if t742=true then ((jP.f k l0_0 l1 a2 a3).bind fun bt743=>(some bt743.2)) else (some (-1)))) else (some (-1)))=some r:=H
 have A5:=am A50
 clear A50
 by_cases c6:t741=true
 ·subst c6
  have H1:((jwa.f l0_0 a3).bind fun t742=>(if t742=true then ((jP.f k l0_0 l1 a2 a3).bind fun bt743=>(some bt743.2)) else (some (-1))))=some r:=by rw [if_pos rfl] at H;exact H
  clear H
  have H:=H1
  clear H1
  replace H:=bzS H
  obtain ⟨t742,A70,H⟩:=H
  replace H:(if t742=true then ((jP.f k l0_0 l1 a2 a3).bind fun bt743=>(some bt743.2)) else (some (-1)))=some r:=H
  have A7:=am A70
  clear A70
  by_cases c8:t742=true
  ·subst c8
   have H1:((jP.f k l0_0 l1 a2 a3).bind fun bt743=>(some bt743.2))=some r:=by rw [if_pos rfl] at H;exact H
   clear H
   have H:=H1
   clear H1
   replace H:=bzS H
   obtain ⟨⟨t743,t744⟩,A90,H⟩:=H
   replace H:(some t744)=some r:=H
   have A9:=am A90
   clear A90
   obtain rfl:=Option.some.inj H
   go_enter Try.func24,Try.ntmps24
   go_wp2_with (first |((with_reducible refine jS (N:=4) rfl ?_);refine bE (N:=4) (cs:=#[.slice A0_0 l0_0.length c0_0]) (t:=32) ?_;intro gb740 hg w10 hbox hb;have BK740:=am (hbox);have GW740:=am ((Y9:w.heap.size≤gb740));have GE740:=am ((Y9:w.heap.size≤gb740));replace HB:=am (jg (bq) hb);clear hb hbox hg;have hcz11_0:=bc0 BK740.out;have hfz11_0:=ja BK740.out 0) |((with_reducible refine je (f:=52) rfl ?_);refine gL (some 14) Try.func52 #[.agg #[.slice A0_0 l0_0.length c0_0], .slice A1 l1.length c1, .int .i64 a2] ?_;(with_reducible refine (jGb.calls k _ _ l0_0 _ _ l1 a2 true _ ?side1 ?side2 ?side3 ?side4 A5.out).mono ?_);(case side1=>exact cq (Kd.jV HR0_0.out HB.out));(case side2=>exact HC0_0.out);(case side3=>exact cq (Kd.jV HR1.out HB.out));(case side4=>exact HC1.out);rintro e w12 ⟨rfl,hb⟩;refine ⟨_,rfl,?_⟩;replace BK740:=am (jo (g:=gb740) (o:=.cells #[.slice A0_0 l0_0.length c0_0] 32 (0,0)) (kq BK740.out) hb);replace HB:=am (jg (Y45) hb);(try clear hb);(try clear hb2);(try clear hk);(try clear hi);have hcz13_0:=bc0 BK740.out;have hfz13_0:=ja BK740.out 0) |(go_at_call 50;(with_reducible refine (jwa.calls _ _ l0_0 a3 true _ ?side1 ?side2 A7.out).mono ?_);(case side1=>exact cq (Kd.jV HR0_0.out HB.out));(case side2=>exact HC0_0.out);rintro e w14 ⟨rfl,hb⟩;replace BK740:=am (jo (g:=gb740) (o:=.cells #[.slice A0_0 l0_0.length c0_0] 32 (0,0)) (kq BK740.out) hb);replace HB:=am (jg (Y45) hb);(try clear hb);(try clear hb2);(try clear hk);(try clear hi);have hcz15_0:=bc0 BK740.out;have hfz15_0:=ja BK740.out 0) |((with_reducible refine je (f:=53) rfl ?_);refine gL (some 27) Try.func53 #[.agg #[.slice A0_0 l0_0.length c0_0], .slice A1 l1.length c1, .int .i64 a2, .int .i64 a3] ?_;(with_reducible refine (jP.calls k _ _ l0_0 _ _ l1 a2 a3 t743 t744 _ ?side1 ?side2 ?side3 ?side4 A9.out).mono ?_);(case side1=>exact cq (Kd.jV HR0_0.out HB.out));(case side2=>exact HC0_0.out);(case side3=>exact cq (Kd.jV HR1.out HB.out));(case side4=>exact HC1.out);rintro e w16 ⟨rfl,hb⟩;refine ⟨_,rfl,?_⟩;replace BK740:=am (jo (g:=gb740) (o:=.cells #[.slice A0_0 l0_0.length c0_0] 32 (0,0)) (kq BK740.out) hb);replace HB:=am (jg (Y45) hb);(try clear hb);(try clear hb2);(try clear hk);(try clear hi)))
   go_ret
   exact ⟨Y0,Y45⟩
  ·replace c8:=Bool.eq_false_iff.mpr c8
   subst c8
   have H1:(some (-1))=some r:=by rw [if_neg (show ¬ (false=true) by decide)] at H;exact H
   clear H
   have H:=H1
   clear H1
   obtain rfl:=Option.some.inj H
   go_enter Try.func24,Try.ntmps24
   go_wp2_with (first |((with_reducible refine jS (N:=4) rfl ?_);refine bE (N:=4) (cs:=#[.slice A0_0 l0_0.length c0_0]) (t:=32) ?_;intro gb740 hg w17 hbox hb;have BK740:=am (hbox);have GW740:=am ((Y9:w.heap.size≤gb740));have GE740:=am ((Y9:w.heap.size≤gb740));replace HB:=am (jg (bq) hb);clear hb hbox hg;have hcz18_0:=bc0 BK740.out;have hfz18_0:=ja BK740.out 0) |((with_reducible refine je (f:=52) rfl ?_);refine gL (some 14) Try.func52 #[.agg #[.slice A0_0 l0_0.length c0_0], .slice A1 l1.length c1, .int .i64 a2] ?_;(with_reducible refine (jGb.calls k _ _ l0_0 _ _ l1 a2 true _ ?side1 ?side2 ?side3 ?side4 A5.out).mono ?_);(case side1=>exact cq (Kd.jV HR0_0.out HB.out));(case side2=>exact HC0_0.out);(case side3=>exact cq (Kd.jV HR1.out HB.out));(case side4=>exact HC1.out);rintro e w19 ⟨rfl,hb⟩;refine ⟨_,rfl,?_⟩;replace BK740:=am (jo (g:=gb740) (o:=.cells #[.slice A0_0 l0_0.length c0_0] 32 (0,0)) (kq BK740.out) hb);replace HB:=am (jg (Y45) hb);(try clear hb);(try clear hb2);(try clear hk);(try clear hi);have hcz20_0:=bc0 BK740.out;have hfz20_0:=ja BK740.out 0) |(go_at_call 50;(with_reducible refine (jwa.calls _ _ l0_0 a3 false _ ?side1 ?side2 A7.out).mono ?_);(case side1=>exact cq (Kd.jV HR0_0.out HB.out));(case side2=>exact HC0_0.out);rintro e w21 ⟨rfl,hb⟩;replace BK740:=am (jo (g:=gb740) (o:=.cells #[.slice A0_0 l0_0.length c0_0] 32 (0,0)) (kq BK740.out) hb);replace HB:=am (jg (Y45) hb);(try clear hb);(try clear hb2);(try clear hk);(try clear hi)))
   go_ret
   exact ⟨Y0,Y45⟩
 ·replace c6:=Bool.eq_false_iff.mpr c6
  subst c6
  have H1:(some (-1))=some r:=by rw [if_neg (show ¬ (false=true) by decide)] at H;exact H
  clear H
  have H:=H1
  clear H1
  obtain rfl:=Option.some.inj H
  go_enter Try.func24,Try.ntmps24
  go_wp2_with (first |((with_reducible refine jS (N:=4) rfl ?_);refine bE (N:=4) (cs:=#[.slice A0_0 l0_0.length c0_0]) (t:=32) ?_;intro gb740 hg w22 hbox hb;have BK740:=am (hbox);have GW740:=am ((Y9:w.heap.size≤gb740));have GE740:=am ((Y9:w.heap.size≤gb740));replace HB:=am (jg (bq) hb);clear hb hbox hg;have hcz23_0:=bc0 BK740.out;have hfz23_0:=ja BK740.out 0) |((with_reducible refine je (f:=52) rfl ?_);refine gL (some 14) Try.func52 #[.agg #[.slice A0_0 l0_0.length c0_0], .slice A1 l1.length c1, .int .i64 a2] ?_;(with_reducible refine (jGb.calls k _ _ l0_0 _ _ l1 a2 false _ ?side1 ?side2 ?side3 ?side4 A5.out).mono ?_);(case side1=>exact cq (Kd.jV HR0_0.out HB.out));(case side2=>exact HC0_0.out);(case side3=>exact cq (Kd.jV HR1.out HB.out));(case side4=>exact HC1.out);rintro e w24 ⟨rfl,hb⟩;refine ⟨_,rfl,?_⟩;replace BK740:=am (jo (g:=gb740) (o:=.cells #[.slice A0_0 l0_0.length c0_0] 32 (0,0)) (kq BK740.out) hb);replace HB:=am (jg (Y45) hb);(try clear hb);(try clear hb2);(try clear hk);(try clear hi)))
  go_ret
  exact ⟨Y0,Y45⟩
mutual
def jv.j0 : Nat → List (S59) → List (S48) → Bool → List (S98) → Option (Bool)
 | 0,_,_,_,_=>none
 | k+1,x4,x5,x30,x752000=>if x30=true then ((jkb.f k x752000 x4).bind fun t760=>((jfa.f k x5 t760).bind fun t763=>(some t763))) else (jv.l0 k x4 x5 0 x752000)
def jv.l0 : Nat → List (S59) → List (S48) → Int → List (S98) → Option (Bool)
 | 0,_,_,_,_=>none
 | k+1,x4,x5,x6,x752000=>if x6<(x4.length:Int) then (jv.l1 k x4 x5 x6 0 x752000) else (some true)
def jv.l1 : Nat → List (S59) → List (S48) → Int → Int → List (S98) → Option (Bool)
 | 0,_,_,_,_,_=>none
 | k+1,x4,x5,x6,x7,x752000=>if x7<(x752000.length:Int) then ((jO.f k x752000 x5 x6 x7).bind fun t764=>((jDb.f k x752000 x4 x6 x7).bind fun t765=>(if t764=t765 then (jv.l1 k x4 x5 x6 (wrap64 (x7+1)) x752000) else (some false)))) else (jv.l0 k x4 x5 (wrap64 (x6+1)) x752000)
end
def jv.f (k : Nat) (l0 : List Int) : Option (Bool) := if (l0.length : Int) > 1048576 then (some true) else ((jvb.f k l0).bind fun bt745 => ((jJ.f k bt745.1 bt745.2).bind fun t752 => ((jkb.f k bt745.1 bt745.2).bind fun t755 => ((jfa.f k t752 t755).bind fun t758 => (if t758 = true then ((jw.f k bt745.1 bt745.2).bind fun t759 => (jv.j0 k bt745.2 t752 (!t759) bt745.1)) else (jv.j0 k bt745.2 t752 true bt745.1))))))
def jv.T13 : Bool × List (List Nat × List Nat) := (true, [([], []), ([], []), ([], []), ([], []), ([0, 1, 2, 3], [0, 1, 2, 3]), ([], []), ([], []), ([], []), ([], []), ([5, 6, 7, 8, 4], [5, 6, 7, 8]), ([4, 9], [4, 9])])
def jv.B13 : List Nat := [0, 0, 0, 0, 15, 0, 0, 0, 0, 511, 1023]
theorem jv.tab13 : rtab .any (opsOf Try.f5 13) = jv.T13 := by kernel_rfl
theorem jv.bits13 : jic jv.T13.2 jv.B13 = true := by kernel_rfl
set_option maxHeartbeats 8000000 in
set_option maxRecDepth 100000 in
theorem jv.calls (k : Nat) (A0 : Option Addr) (c0 : Nat) (l0 : List Int) (r : Bool) (w : World) (hr0 : Kd.C (Kd.int .u8) w A0 l0.length l0) (hc0 : l0.length ≤ c0) (hT : r = true) (h : jv.f k l0 = some r) :
  Calls Try.prog 5 #[.slice A0 l0.length c0] w fun e w'=>e=.returned (.bool r)∧Below w.heap.size w w':=by
 have hu32:=Try.underlying32
 have HR0:=am hr0
 have HC0:=am hc0
 clear hr0 hc0
 have HB:=am (Below.refl w.heap.size w)
 have H:(if (l0.length:Int) > 1048576 then (some true) else ((jvb.f k l0).bind fun bt745=>((jJ.f k bt745.1 bt745.2).bind fun t752=>((jkb.f k bt745.1 bt745.2).bind fun t755=>((jfa.f k t752 t755).bind fun t758=>(if t758=true then ((jw.f k bt745.1 bt745.2).bind fun t759=>(jv.j0 k bt745.2 t752 (!t759) bt745.1)) else (jv.j0 k bt745.2 t752 true bt745.1)))))))=some r:=h
 clear h
 by_cases c2:(l0.length:Int) > 1048576
 ·rw [if_pos c2] at H
  have c2b0:decide (1048576<(l0.length:Int))=true:=dzT c2
  have c2b1:decide (1048576<l0.length)=true:=dzT (by omega)
  clear c2
  obtain rfl:=Option.some.inj H
  go_enter Try.func5,Try.ntmps5
  go_wp2
  go_ret
  exact ⟨Y0,bq⟩
 ·rw [if_neg c2] at H
  have c2b0:decide (1048576<(l0.length:Int))=false:=dzF c2
  have c2b1:decide (1048576<l0.length)=false:=dzF (by omega)
  clear c2
  replace H:=bzS H
  obtain ⟨⟨t745,t748⟩,A30,H⟩:=H
  replace H:((jJ.f k t745 t748).bind fun t752=>((jkb.f k t745 t748).bind fun t755=>((jfa.f k t752 t755).bind fun t758=>(if t758=true then ((jw.f k t745 t748).bind fun t759=>(jv.j0 k t748 t752 (!t759) t745)) else (jv.j0 k t748 t752 true t745)))))=some r:=H
  have A3:=am A30
  clear A30
  replace H:=bzS H
  obtain ⟨t752,A40,H⟩:=H
  replace H:((jkb.f k t745 t748).bind fun t755=>((jfa.f k t752 t755).bind fun t758=>(if t758=true then ((jw.f k t745 t748).bind fun t759=>(jv.j0 k t748 t752 (!t759) t745)) else (jv.j0 k t748 t752 true t745))))=some r:=H
  have A4:=am A40
  clear A40
  have HC5:=am H
  clear H
  go_enter Try.func5,Try.ntmps5
  go_upto_region 5 with (first |((with_reducible refine je (f:=20) rfl ?_);refine gL (some 13) Try.func20 #[.slice A0 l0.length c0] ?_;(with_reducible refine (jvb.calls k _ _ l0 t745 t748 _ ?side1 ?side2 A3.out).mono ?_);(case side1=>exact Y33);(case side2=>exact HC0.out);rintro e w6 ⟨v746,v749,rfl,ho0,ho1,hb⟩;refine ⟨_,rfl,?_⟩;have HO747:=am (Kd.jea ho0 (jta (bq)));have HO750:=am (Kd.Q_lower ho1 (jta (bq)));replace HB:=am (jg (bq) hb);(try clear hb);(try clear hb2);(try clear hk);(try clear hi);(try clear ho0);(try clear ho1)) |((with_reducible refine jS (N:=3) rfl ?_);refine bE (N:=3) (cs:=#[.slice none 0 0]) (t:=32) ?_;intro gb751 hg w7 hbox hb;have BK751:=am (hbox);have GW751:=am ((Y9:w.heap.size≤gb751));have GE751:=am ((Y9:w.heap.size≤gb751));replace HO747:=am (Kd.jva (rq HO747.out) hb);replace HO750:=am (Kd.jwc (Y83) hb);replace HB:=am (jg (bq) hb);clear hb hbox hg;obtain ⟨Ao8,co8,eo8⟩:=Kd.jsa HO747.out;subst eo8;have hcz9_0:=bc0 BK751.out;have hfz9_0:=ja BK751.out 0;obtain ⟨Ao10,co10,eo10,_⟩:=Kd.Q_slice HO750.out;subst eo10) |((with_reducible refine je (f:=12) rfl ?_);refine gL (some 18) Try.func12 #[.agg #[.slice Ao8 t745.length co8], .slice Ao10 t748.length co10] ?_;(with_reducible refine (jJ.calls k _ _ t745 _ _ t748 t752 _ ?side1 ?side2 ?side3 ?side4 A4.out).mono ?_);(case side1=>refine (Kd.jE (e:=98) (base:=w.heap.size) (ok:=fun k_=>True) (n:=t745.length) (c:=co8) ?_).2.2;exact (Y107));(case side2=>exact (Kd.jE HO747.out).2.1);(case side3=>refine (Kd.jSb (e:=59) (base:=w.heap.size) (ok:=fun k_=>True) (n:=t748.length) (c:=co10) ?_).2.2;exact (Y108));(case side4=>exact (Kd.jSb HO750.out).2.1);rintro e w11 ⟨v753,rfl,ho0,hb⟩;refine ⟨_,rfl,?_⟩;have HO754:=am (Kd.jea ho0 (jta (Y23)));replace HO747:=am (Kd.jva (Y107) hb);replace HO750:=am (Kd.jwc (Y108) hb);replace BK751:=am (jo (g:=gb751) (o:=.cells #[.slice Ao8 t745.length co8] 32 (0,0)) (by (with_reducible repeat (first | refine jr ?_ _ | refine jF ?_ | refine jB ?_ _));refine jXa (cs:=#[.slice none 0 0]) ?_ 0 _ rfl;(with_reducible repeat (first | refine jr ?_ _ | refine jF ?_ | refine jB ?_ _));exact BK751.out) hb);replace HB:=am (jg (Y23) hb);(try clear hb);(try clear hb2);(try clear hk);(try clear hi);(try clear ho0)))
  (try simp only [Act.put,List.setIfInBounds_toArray,List.set_cons_zero,List.set_cons_succ])
  go_cut [30] (fun v30 wc=>∃ (kq:Nat) (x30_4:Bool),v30=.bool x30_4∧jl (jv.j0 kq t748 t752 x30_4 t745=some r)∧jl (kq≤k)∧jl (Kd.Q k59 59 wc w.heap.size (fun _=>True) (.slice Ao10 t748.length co10) t748)∧jl (Kd.R k48 48 wc w.heap.size (fun _=>True) v753 t752)∧jl (Kd.R k98 98 wc w.heap.size (fun _=>True) (.slice Ao8 t745.length co8) t745)∧jl (wc.heap[gb751]?=some (.cells #[(.slice Ao8 t745.length co8)] 32 (0,0)))∧jl (Below w.heap.size w wc))
  case first =>
   have H:=HC5.out
   clear HC5
   replace H:=bzS H
   obtain ⟨t755,A120,H⟩:=H
   replace H:((jfa.f k t752 t755).bind fun t758=>(if t758=true then ((jw.f k t745 t748).bind fun t759=>(jv.j0 k t748 t752 (!t759) t745)) else (jv.j0 k t748 t752 true t745)))=some r:=H
   have A12:=am A120
   clear A120
   replace H:=bzS H
   obtain ⟨t758,A130,H⟩:=H
   replace H:(if t758=true then ((jw.f k t745 t748).bind fun t759=>(jv.j0 k t748 t752 (!t759) t745)) else (jv.j0 k t748 t752 true t745))=some r:=H
   have A13:=am A130
   clear A130
   by_cases c14:t758=true
   ·subst c14
    have H1:((jw.f k t745 t748).bind fun t759=>(jv.j0 k t748 t752 (!t759) t745))=some r:=by rw [if_pos rfl] at H;exact H
    clear H
    have H:=H1
    clear H1
    replace H:=bzS H
    obtain ⟨t759,A150,H⟩:=H
    replace H:(jv.j0 k t748 t752 (!t759) t745)=some r:=H
    have A15:=am A150
    clear A150
    have H':=am H
    clear H
    have hcz16_0:=bc0 BK751.out
    have hfz16_0:=ja BK751.out 0
    go_wp2_with (first |((with_reducible refine je (f:=9) rfl ?_);refine gL (some 22) Try.func9 #[.agg #[.slice Ao8 t745.length co8], .slice Ao10 t748.length co10] ?_;(with_reducible refine (jkb.calls k _ _ t745 _ _ t748 t755 _ ?side1 ?side2 ?side3 ?side4 A12.out).mono ?_);(case side1=>exact cq (Kd.jE HO747.out).2.2);(case side2=>exact (Kd.jE HO747.out).2.1);(case side3=>exact cq (Kd.jSb HO750.out).2.2);(case side4=>exact (Kd.jSb HO750.out).2.1);rintro e w17 ⟨v756,rfl,ho0,hb⟩;refine ⟨_,rfl,?_⟩;have HO757:=am (Kd.jea (Kd.jac ho0 (Kd.R_lt (rq HO754.out))) (jta (Y23)));replace HO747:=am (Kd.jva (rq HO747.out) hb);replace HO750:=am (Kd.jwc (Y83) hb);replace HO754:=am (Kd.jEc (rq HO754.out) (Kd.jbc ho0) hb);replace BK751:=am (jo (g:=gb751) (o:=.cells #[.slice Ao8 t745.length co8] 32 (0,0)) (kq BK751.out) hb);replace HB:=am (jg (Y23) hb);(try clear hb);(try clear hb2);(try clear hk);(try clear hi);(try clear ho0);obtain ⟨Ao18,co18,eo18⟩:=Kd.jsa HO754.out;subst eo18;obtain ⟨Ao19,co19,eo19⟩:=Kd.jsa HO757.out;subst eo19) |((with_reducible refine je (f:=21) rfl ?_);refine gL (some 23) Try.func21 #[.slice Ao18 t752.length co18, .slice Ao19 t755.length co19] ?_;(with_reducible refine (jfa.calls k _ _ t752 _ _ t755 true _ ?side1 ?side2 ?side3 ?side4 A13.out).mono ?_);(case side1=>exact cq (Kd.jE HO754.out).2.2);(case side2=>exact (Kd.jE HO754.out).2.1);(case side3=>exact cq (Kd.jE HO757.out).2.2);(case side4=>exact (Kd.jE HO757.out).2.1);rintro e w' ⟨rfl,⟨nd,rfl⟩⟩;refine ⟨_,rfl,?_⟩;have hcz20_0:=bc0 BK751.out;have hfz20_0:=ja BK751.out 0) |(go_at_call 22;(with_reducible refine (jw.calls k _ _ t745 _ _ t748 t759 _ ?side1 ?side2 ?side3 ?side4 A15.out).mono ?_);(case side1=>exact cq (Kd.jE HO747.out).2.2);(case side2=>exact (Kd.jE HO747.out).2.1);(case side3=>exact cq (Kd.jSb HO750.out).2.2);(case side4=>exact (Kd.jSb HO750.out).2.1);rintro e w21 ⟨rfl,hb⟩;replace HO747:=am (Kd.jva (rq HO747.out) hb);replace HO750:=am (Kd.jwc (Y83) hb);replace HO754:=am (Kd.jva (rq HO754.out) hb);replace HO757:=am (Kd.jva (rq HO757.out) hb);replace BK751:=am (jo (g:=gb751) (o:=.cells #[.slice Ao8 t745.length co8] 32 (0,0)) (kq BK751.out) hb);replace HB:=am (jg (Y23) hb);(try clear hb);(try clear hb2);(try clear hk);(try clear hi)))
    go_meet
    case rel=>exact ⟨_,(!t759),(sq),H',⟨Y42⟩,⟨by (with_reducible repeat (first | apply Kd.jxc | apply Kd.jvc | apply Kd.Q_drew));exact HO750.out⟩,⟨by (with_reducible repeat (first | apply Kd.jga | apply Kd.jha | apply Kd.jra));exact Kd.jK HO754.out (fun _ hk=>trivial)⟩,⟨rq HO747.out⟩,⟨kq BK751.out⟩,⟨Y23⟩⟩
   ·replace c14:=Bool.eq_false_iff.mpr c14
    subst c14
    have H1:(jv.j0 k t748 t752 true t745)=some r:=by rw [if_neg (show ¬ (false=true) by decide)] at H;exact H
    clear H
    have H:=H1
    clear H1
    have H':=am H
    clear H
    have hcz22_0:=bc0 BK751.out
    have hfz22_0:=ja BK751.out 0
    go_wp2_with (first |((with_reducible refine je (f:=9) rfl ?_);refine gL (some 22) Try.func9 #[.agg #[.slice Ao8 t745.length co8], .slice Ao10 t748.length co10] ?_;(with_reducible refine (jkb.calls k _ _ t745 _ _ t748 t755 _ ?side1 ?side2 ?side3 ?side4 A12.out).mono ?_);(case side1=>exact cq (Kd.jE HO747.out).2.2);(case side2=>exact (Kd.jE HO747.out).2.1);(case side3=>exact cq (Kd.jSb HO750.out).2.2);(case side4=>exact (Kd.jSb HO750.out).2.1);rintro e w23 ⟨v756,rfl,ho0,hb⟩;refine ⟨_,rfl,?_⟩;have HO757:=am (Kd.jea (Kd.jac ho0 (Kd.R_lt (rq HO754.out))) (jta (Y23)));replace HO747:=am (Kd.jva (rq HO747.out) hb);replace HO750:=am (Kd.jwc (Y83) hb);replace HO754:=am (Kd.jEc (rq HO754.out) (Kd.jbc ho0) hb);replace BK751:=am (jo (g:=gb751) (o:=.cells #[.slice Ao8 t745.length co8] 32 (0,0)) (kq BK751.out) hb);replace HB:=am (jg (Y23) hb);(try clear hb);(try clear hb2);(try clear hk);(try clear hi);(try clear ho0);obtain ⟨Ao24,co24,eo24⟩:=Kd.jsa HO754.out;subst eo24;obtain ⟨Ao25,co25,eo25⟩:=Kd.jsa HO757.out;subst eo25) |((with_reducible refine je (f:=21) rfl ?_);refine gL (some 23) Try.func21 #[.slice Ao24 t752.length co24, .slice Ao25 t755.length co25] ?_;(with_reducible refine (jfa.calls k _ _ t752 _ _ t755 false _ ?side1 ?side2 ?side3 ?side4 A13.out).mono ?_);(case side1=>exact cq (Kd.jE HO754.out).2.2);(case side2=>exact (Kd.jE HO754.out).2.1);(case side3=>exact cq (Kd.jE HO757.out).2.2);(case side4=>exact (Kd.jE HO757.out).2.1);rintro e w' ⟨rfl,⟨nd,rfl⟩⟩;refine ⟨_,rfl,?_⟩))
    go_meet
    case rel=>exact ⟨_,(true),(sq),H',⟨Y42⟩,⟨by (with_reducible repeat (first | apply Kd.jxc | apply Kd.jvc | apply Kd.Q_drew));exact HO750.out⟩,⟨by (with_reducible repeat (first | apply Kd.jga | apply Kd.jha | apply Kd.jra));exact Kd.jK HO754.out (fun _ hk=>trivial)⟩,⟨rq HO747.out⟩,⟨kq BK751.out⟩,⟨Y23⟩⟩
  case rest =>
   clear HC5
   try clear c1
   try clear c2
   try clear c2b0
   try clear c2b1
   try clear p2
   try clear c5
   try clear c9
   try clear c12
   try clear c14
   try clear c20
   try clear c21
   try clear hcz16_0
   try clear hcz20_0
   try clear hcz22_0
   try clear hcz9_0
   try clear hfz16_0
   try clear hfz20_0
   try clear hfz22_0
   try clear hfz9_0
   obtain ⟨kq,x30_4,rfl,HA,HJ4,HO_4,HO_5,HO_752000,BK751,HB⟩:=hcut
   cases kq with
   | zero=>exact absurd HA.out (by simp [jv.j0])
   | succ kj4 =>
    have H:=HA.out
    clear HA
    simp only [jv.j0] at H
    by_cases c26:x30_4=true
    ·subst c26
     have H1:((jkb.f kj4 t745 t748).bind fun t760=>((jfa.f kj4 t752 t760).bind fun t763=>(some t763)))=some r:=by rw [if_pos rfl] at H;exact H
     clear H
     have H:=H1
     clear H1
     replace H:=bzS H
     obtain ⟨t760,A270,H⟩:=H
     replace H:((jfa.f kj4 t752 t760).bind fun t763=>(some t763))=some r:=H
     have A27:=am A270
     clear A270
     replace H:=bzS H
     obtain ⟨t763,A280,H⟩:=H
     replace H:(some t763)=some r:=H
     have A28:=am A280
     clear A280
     obtain rfl:=Option.some.inj H
     have hcz29_0:=bc0 BK751.out
     have hfz29_0:=ja BK751.out 0
     go_wp2_with (first |((with_reducible refine je (f:=9) rfl ?_);refine gL (some 34) Try.func9 #[.agg #[.slice Ao8 t745.length co8], .slice Ao10 t748.length co10] ?_;(with_reducible refine (jkb.calls kj4 _ _ t745 _ _ t748 t760 _ ?side1 ?side2 ?side3 ?side4 A27.out).mono ?_);(case side1=>exact cq (Kd.jE HO_752000.out).2.2);(case side2=>exact (Kd.jE HO_752000.out).2.1);(case side3=>exact cq (Kd.jSb HO_4.out).2.2);(case side4=>exact (Kd.jSb HO_4.out).2.1);rintro e w30 ⟨v761,rfl,ho0,hb⟩;refine ⟨_,rfl,?_⟩;have HO762:=am (Kd.jea (Kd.jac ho0 (Kd.R_lt (rq HO_5.out))) (jta (Y23)));replace HO_4:=am (Kd.jwc (Y90) hb);replace HO_5:=am (Kd.jEc (rq HO_5.out) (Kd.jbc ho0) hb);replace HO_752000:=am (Kd.jva (rq HO_752000.out) hb);replace BK751:=am (jo (g:=gb751) (o:=.cells #[.slice Ao8 t745.length co8] 32 (0,0)) (kq BK751.out) hb);replace HB:=am (jg (Y23) hb);(try clear hb);(try clear hb2);(try clear hk);(try clear hi);(try clear ho0);obtain ⟨Ao31,co31,eo31⟩:=Kd.jsa HO_5.out;subst eo31;obtain ⟨Ao32,co32,eo32⟩:=Kd.jsa HO762.out;subst eo32) |((with_reducible refine je (f:=21) rfl ?_);refine gL (some 35) Try.func21 #[.slice Ao31 t752.length co31, .slice Ao32 t760.length co32] ?_;(with_reducible refine (jfa.calls kj4 _ _ t752 _ _ t760 t763 _ ?side1 ?side2 ?side3 ?side4 A28.out).mono ?_);(case side1=>exact cq (Kd.jE HO_5.out).2.2);(case side2=>exact (Kd.jE HO_5.out).2.1);(case side3=>exact cq (Kd.jE HO762.out).2.2);(case side4=>exact (Kd.jE HO762.out).2.1);rintro e w' ⟨rfl,⟨nd,rfl⟩⟩;refine ⟨_,rfl,?_⟩))
     go_ret
     exact ⟨Y0,Y23⟩
    ·replace c26:=Bool.eq_false_iff.mpr c26
     subst c26
     have H1:(jv.l0 kj4 t748 t752 0 t745)=some r:=by rw [if_neg (show ¬ (false=true) by decide)] at H;exact H
     clear H
     have H:=H1
     clear H1
     have H':=am H
     clear H
     go_wp2
     go_loopg [6] kj4 (fun kq v6 w'=>∃ (x6_2:Int),v6=.int .i64 x6_2∧jl (jv.l0 kq t748 t752 x6_2 t745=some r)∧jl (kq≤kj4)∧jl (Kd.Q k59 59 w' w.heap.size (fun _=>True) (.slice Ao10 t748.length co10) t748)∧jl (Kd.R k48 48 w' w.heap.size (fun _=>True) v753 t752)∧jl (Kd.R k98 98 w' w.heap.size (fun _=>True) (.slice Ao8 t745.length co8) t745)∧jl (w'.heap[gb751]?=some (.cells #[(.slice Ao8 t745.length co8)] 32 (0,0)))∧jl (Below w.heap.size w w'))
     case atStart=>exact ⟨(0),(sq),H',⟨Nat.le_refl _⟩,⟨by (with_reducible repeat (first | apply Kd.jxc | apply Kd.jvc | apply Kd.Q_drew));exact HO_4.out⟩,⟨rq HO_5.out⟩,⟨rq HO_752000.out⟩,⟨kq BK751.out⟩,⟨Y23⟩⟩
     case round =>
      clear H'
      try clear c1
      try clear c2
      try clear c2b0
      try clear c2b1
      try clear p2
      try clear c5
      try clear c9
      try clear c12
      try clear c14
      try clear c20
      try clear c21
      try clear c26
      try clear hcz16_0
      try clear hcz20_0
      try clear hcz22_0
      try clear hcz29_0
      try clear hcz9_0
      try clear hfz16_0
      try clear hfz20_0
      try clear hfz22_0
      try clear hfz29_0
      try clear hfz9_0
      try clear p2
      obtain ⟨x6_2,rfl,HA,HK2,HO_4,HO_5,HO_752000,BK751,HB⟩:=hrel
      cases gk with
      | zero=>exact absurd HA.out (by simp [jv.l0])
      | succ k2 =>
       have H:=HA.out
       clear HA
       simp only [jv.l0] at H
       by_cases c33:x6_2<(t748.length:Int)
       ·rw [if_pos c33] at H
        have c33b0:decide (x6_2<(t748.length:Int))=true:=dzT c33
        clear c33
        have H':=am H
        clear H
        go_wp2
        go_loopg [7] k2 (fun kq v7 w'=>∃ (x7_3:Int),v7=.int .i64 x7_3∧jl (jv.l1 kq t748 t752 x6_2 x7_3 t745=some r)∧jl (kq≤k2)∧jl (Kd.Q k59 59 w' w.heap.size (fun _=>True) (.slice Ao10 t748.length co10) t748)∧jl (Kd.R k48 48 w' w.heap.size (fun _=>True) v753 t752)∧jl (Kd.R k98 98 w' w.heap.size (fun _=>True) (.slice Ao8 t745.length co8) t745)∧jl (w'.heap[gb751]?=some (.cells #[(.slice Ao8 t745.length co8)] 32 (0,0)))∧jl (Below w.heap.size w w'))
        case atStart=>exact ⟨(0),(sq),H',⟨Nat.le_refl _⟩,⟨by (with_reducible repeat (first | apply Kd.jxc | apply Kd.jvc | apply Kd.Q_drew));exact HO_4.out⟩,⟨rq HO_5.out⟩,⟨rq HO_752000.out⟩,⟨kq BK751.out⟩,⟨Y23⟩⟩
        case round =>
         clear H'
         try clear c1
         try clear c2
         try clear c2b0
         try clear c2b1
         try clear p2
         try clear c3
         try clear c5
         try clear c9
         try clear c12
         try clear c14
         try clear c20
         try clear c21
         try clear c26
         try clear c33
         try clear c33b0
         try clear hcz16_0
         try clear hcz20_0
         try clear hcz22_0
         try clear hcz29_0
         try clear hcz9_0
         try clear hfz16_0
         try clear hfz20_0
         try clear hfz22_0
         try clear hfz29_0
         try clear hfz9_0
         try clear p2
         obtain ⟨x7_3,rfl,HA,HK3,HO_4,HO_5,HO_752000,BK751,HB⟩:=hrel
         cases gk with
         | zero=>exact absurd HA.out (by simp [jv.l1])
         | succ k3 =>
          have H:=HA.out
          clear HA
          simp only [jv.l1] at H
          by_cases c34:x7_3<(t745.length:Int)
          ·rw [if_pos c34] at H
           have c34b0:decide (x7_3<(t745.length:Int))=true:=dzT c34
           clear c34
           replace H:=bzS H
           obtain ⟨t764,A350,H⟩:=H
           replace H:((jDb.f k3 t745 t748 x6_2 x7_3).bind fun t765=>(if t764=t765 then (jv.l1 k3 t748 t752 x6_2 (wrap64 (x7_3+1)) t745) else (some false)))=some r:=H
           have A35:=am A350
           clear A350
           replace H:=bzS H
           obtain ⟨t765,A360,H⟩:=H
           replace H:(if t764=t765 then (jv.l1 k3 t748 t752 x6_2 (wrap64 (x7_3+1)) t745) else (some false))=some r:=H
           have A36:=am A360
           clear A360
           by_cases c37:t764=t765
           ·rw [if_pos c37] at H
            have c37b0:(t764 == t765)=true:=beq_iff_eq.mpr c37
            have c37b1:(t764 != t765)=false:=bne_eq_false_iff_eq.mpr c37
            clear c37
            have H':=am H
            clear H
            have hcz38_0:=bc0 BK751.out
            have hfz38_0:=ja BK751.out 0
            try go_wp2
            replace HO_4:=am (Kd.Q_drew HO_4.out)
            replace HO_5:=am (Kd.jra HO_5.out)
            replace HO_752000:=am (Kd.jra HO_752000.out)
            replace BK751:=am (jF BK751.out)
            replace HB:=am (jR HB.out)
            obtain ⟨Ao40,co40,eo40⟩:=Kd.jsa HO_5.out
            (first | subst eo40 |(injection eo40 with f1_ f2_ f3_;have f4_:=f1_.symm;have f5_:=f3_.symm;clear f1_ f2_ f3_;subst f4_;subst f5_))
            refine start_ (n:=11) (S:=fun w'=>w'.cell? ⟨gb751,0,none⟩=some (.slice Ao8 t745.length co8)) (ds:=[]) #[false,false,false,false,false,false,false,false,false,false,false] (by kernel_rfl) rfl rfl ((jA BK751.out 0).trans rfl) (fun hHeld=>?_);refine jTb jv.tab13 jv.bits13 (fun HT_ HW_=>?_)
            generalize wr.drew=w39 at HO_4 HO_5 HO_752000 BK751 HB hHeld ⊢
            refine pq (i:=1) (N:=some 50) #[false,true,false,false,false,false,false,false,false,false,false] ?_
            refine pq (i:=2) (N:=some 51) #[false,true,true,false,false,false,false,false,false,false,false] ?_
            refine pq (i:=3) (N:=some 52) #[false,true,true,true,false,false,false,false,false,false,false] ?_
            refine pq (i:=6) (N:=some 55) #[false,true,true,true,false,false,true,false,false,false,false] ?_
            refine pq (i:=7) (N:=some 56) #[false,true,true,true,false,false,true,true,false,false,false] ?_
            refine pq (i:=8) (N:=some 57) #[false,true,true,true,false,false,true,true,true,false,false] ?_
            refine jrc (i:=0) (N:=some 49) (v:=?_) (a':=?_) #[true,true,true,true,false,false,true,true,true,false,false] rfl rfl (jub HT_.out HW_.out (by kernel_rfl)) (fun _ _ _ h=>h) (Or.inl ⟨by rfl,?_⟩) hHeld ?_ ?_
            rotate_left
            ·intro w' s0
             go_simp
             with_reducible rfl
            rotate_left
            ·exact sa
            refine jrc (i:=5) (N:=some 54) (v:=?_) (a':=?_) #[true,true,true,true,false,true,true,true,true,false,false] rfl rfl (jub HT_.out HW_.out (by kernel_rfl)) (fun _ _ _ h=>h) (Or.inl ⟨by rfl,?_⟩) hHeld ?_ ?_
            rotate_left
            ·intro w' s0
             go_simp
             with_reducible rfl
            rotate_left
            ·exact sa
            refine one_ (i:=4) (N:=some 53) #[true,true,true,true,true,true,true,true,true,false,false] rfl rfl (jJb HT_.out (by kernel_rfl)) (by decide) (fun K hK=>?_)
            refine goes_ Try.func23 (by kernel_rfl) rfl #[.agg #[.slice Ao8 t745.length co8], .slice Ao40 t752.length co40, .int .i64 x6_2, .int .i64 x7_3] (by rfl) rfl rfl (aq) ?_
            with_reducible refine (jO.calls k3 _ _ t745 _ _ t752 x6_2 x7_3 t764 _ ?side1 ?side2 ?side3 ?side4 A35.out).mono ?_
            (case side1=>exact cq (Kd.jE HO_752000.out).2.2)
            (case side2=>exact (Kd.jE HO_752000.out).2.1)
            (case side3=>exact cq (Kd.jE HO_5.out).2.2)
            (case side4=>exact (Kd.jE HO_5.out).2.1)
            rintro e w41 ⟨rfl,hb⟩
            refine ⟨_,rfl,?_⟩
            replace HO_4:=am (Kd.jwc (Y90) hb)
            replace HO_5:=am (Kd.jva (rq HO_5.out) hb)
            replace HO_752000:=am (Kd.jva (rq HO_752000.out) hb)
            replace BK751:=am (jo (g:=gb751) (o:=.cells #[.slice Ao8 t745.length co8] 32 (0,0)) (kq BK751.out) hb)
            replace HB:=am (jg (Y23) hb)
            (try clear hb)
            (try clear hb2)
            (try clear hk)
            (try clear hi)
            refine hK.out _ _ ((jA BK751.out 0).trans rfl) (fun hHeld=>?_)
            clear hK K
            refine jUb (a':=?_) ?_ ?_
            rotate_left
            ·show Act.put _ (some 53) _=_
             simp only [Act.put,List.setIfInBounds_toArray,List.set_cons_zero,List.set_cons_succ,jlb,jmb]
             rfl
            refine one_ (i:=9) (N:=some 58) #[true,true,true,true,true,true,true,true,true,true,false] rfl rfl (jJb HT_.out (by kernel_rfl)) (by decide) (fun K hK=>?_)
            refine goes_ Try.func24 (by kernel_rfl) rfl #[.agg #[.slice Ao8 t745.length co8], .slice Ao10 t748.length co10, .int .i64 x6_2, .int .i64 x7_3] (by rfl) rfl rfl (aq) ?_
            with_reducible refine (jDb.calls k3 _ _ t745 _ _ t748 x6_2 x7_3 t765 _ ?side1 ?side2 ?side3 ?side4 A36.out).mono ?_
            (case side1=>exact cq (Kd.jE HO_752000.out).2.2)
            (case side2=>exact (Kd.jE HO_752000.out).2.1)
            (case side3=>exact cq (Kd.jSb HO_4.out).2.2)
            (case side4=>exact (Kd.jSb HO_4.out).2.1)
            rintro e w42 ⟨rfl,hb⟩
            refine ⟨_,rfl,?_⟩
            replace HO_4:=am (Kd.jwc (Y90) hb)
            replace HO_5:=am (Kd.jva (rq HO_5.out) hb)
            replace HO_752000:=am (Kd.jva (rq HO_752000.out) hb)
            replace BK751:=am (jo (g:=gb751) (o:=.cells #[.slice Ao8 t745.length co8] 32 (0,0)) (kq BK751.out) hb)
            replace HB:=am (jg (Y23) hb)
            (try clear hb)
            (try clear hb2)
            (try clear hk)
            (try clear hi)
            refine hK.out _ _ ((jA BK751.out 0).trans rfl) (fun hHeld=>?_)
            clear hK K
            refine jUb (a':=?_) ?_ ?_
            rotate_left
            ·show Act.put _ (some 58) _=_
             simp only [Act.put,List.setIfInBounds_toArray,List.set_cons_zero,List.set_cons_succ,jlb,jmb]
             rfl
            refine pq (i:=10) (N:=some 59) #[true,true,true,true,true,true,true,true,true,true,true] ?_
            refine done_ (jGc HT_.out (by kernel_rfl)) ?_
            try go_wp2
            go_roundg k3
            case measure=>have:=HJ4.out;have:=HK2.out;have:=HK3.out;omega
            case rel=>exact ⟨(wrap64 (x7_3+1)),(sq),H',⟨by have:=HJ4.out;have:=HK2.out;have:=HK3.out;omega⟩,⟨by (with_reducible repeat (first | apply Kd.jxc | apply Kd.jvc | apply Kd.Q_drew));exact HO_4.out⟩,⟨rq HO_5.out⟩,⟨rq HO_752000.out⟩,⟨kq BK751.out⟩,⟨Y23⟩⟩
           ·rw [if_neg c37] at H
            have c37b0:(t764 == t765)=false:=beq_eq_false_iff_ne.mpr c37
            have c37b1:(t764 != t765)=true:=bne_iff_ne.mpr c37
            exact absurd ((Option.some.inj H).trans hT) Bool.false_ne_true
          ·rw [if_neg c34] at H
           have c34b0:decide (x7_3<(t745.length:Int))=false:=dzF c34
           clear c34
           have H':=am H
           clear H
           have hcz43_0:=bc0 BK751.out
           have hfz43_0:=ja BK751.out 0
           go_wp2
           go_roundg k3
           case measure=>have:=HJ4.out;have:=HK2.out;have:=HK3.out;omega
           case rel=>exact ⟨(wrap64 (x6_2+1)),(sq),H',⟨by have:=HJ4.out;have:=HK2.out;have:=HK3.out;omega⟩,⟨by (with_reducible repeat (first | apply Kd.jxc | apply Kd.jvc | apply Kd.Q_drew));exact HO_4.out⟩,⟨rq HO_5.out⟩,⟨rq HO_752000.out⟩,⟨kq BK751.out⟩,⟨Y23⟩⟩
       ·rw [if_neg c33] at H
        have c33b0:decide (x6_2<(t748.length:Int))=false:=dzF c33
        clear c33
        obtain rfl:=Option.some.inj H
        go_wp2
        go_ret
        exact ⟨Y0,Y23⟩
def jv.Pure : Prop := ∀ (l0 : List Int), l0.length ≤ maxLen → l0.length * 1 ≤ 140737488351232 → (∀ x ∈ l0, (Lit.int .u8 x).wf = true) → ∃ k, jv.f k l0 = some true
theorem jv.walk (P : jv.Pure) (a0 : Option Addr) (len0 cap0 : Nat) (z0 : List Int) (w : World) (w0 : (a0 = none ∧ len0 = 0 ∧ cap0 = 0 ∧ z0 = []) ∨ ∃ x, a0 = some x ∧ len0 ≤ cap0 ∧ cap0 ≤ maxLen ∧ z0.length = cap0 ∧ (∀ i, i < z0.length → w.cell? (x.add i) = some (.int .u8 (z0.getD i 0))) ∧ ∀ n ∈ z0, (Lit.int .u8 n).wf = true) (y0 : len0 * 1 ≤ 140737488351232) :
  Calls Try.prog 5 #[.slice a0 len0 cap0] w fun e w'=>e=.returned (.bool true)∧Below w.heap.size w w':=by
 obtain ⟨l0,rfl,hr0,hm0,hw0,hc0⟩:=jnb.ofRowC w0
 obtain ⟨k,h⟩:=P l0 hm0 y0 hw0
 refine (jv.calls k _ _ l0 true w (Kd.C_of_reads (d:=(0:Int)) (h1:=fun _=>rfl) hr0) hc0 rfl h).mono ?_
 rintro e w' ⟨rfl,hd⟩
 exact ⟨rfl,hd⟩
end Go.Proofs.Ytbcjbcjpoddkoaa.P
end
