/- One part of the proofs on this program: functions of the program as plain functions, that the code comes to them, and facts on them. -/
import Derived.LoopIn
import Derived.LoopNIn
import Derived.Maps.AppendAt
import Derived.OwnWalkIn
import Derived.RangeFuncBound
import Derived.RangeFuncBox
import Derived.RangeFuncCalls
import Derived.RangeFuncLeaves
import Derived.RangeFuncNested
import Derived.Shelf.Abstract
import Derived.Shelf.RegionOpen
import Derived.TacticsInMore
import Derived.WalkKit
import Derived.Test.YtbcjbcjpoddkoaaYAll1
import Derived.Test.YtbcjbcjpoddkoaaYAll3
import Derived.Test.YtbcjbcjpoddkoaaYWAuto
section
namespace Go.Proofs.Ytbcjbcjpoddkoaa.P
open Go.RowKit Go.Proofs.YtbcjbcjpoddkoaaW.PrintWords Go.Proofs.YtbcjbcjpoddkoaaW.PrintLast Go.Proofs.YtbcjbcjpoddkoaaW.PrintMore
attribute [local go_sem] jra jpa jCa jBa jga jfa jqa joa jo
set_option linter.unusedVariables false
set_option linter.unusedSimpArgs false
section
open Go.Shelf
attribute [local go_sem] Oper.semAt_some
theorem xwrL {x : Int} (h : -9223372036854775808 ≤ x ∧ x ≤ 9223372036854775807) : wrap64 x = x := by unfold wrap64; omega
def uptoL {α : Type} (f : Nat → α) (k : Nat) : List α := (List.range k).map f
theorem uptoL_succ {α : Type} (f : Nat → α) (k : Nat) : uptoL f (k + 1) = uptoL f k ++ [f k] := by simp [uptoL, List.range_succ]
theorem uptoL_length {α : Type} (f : Nat → α) (k : Nat) : (uptoL f k).length = k := by simp [uptoL]
def jUb (n₀ Bs : Nat) (sv : Value) (W W' : World) : Prop := Below n₀ W W' ∧ (Boxed W Bs 34 sv → Boxed W' Bs 34 sv)
theorem backKeepsL_t {n₀ Bs : Nat} {sv : Value} {A B C : World} (h : jUb n₀ Bs sv A B) (k : jUb n₀ Bs sv B C) : jUb n₀ Bs sv A C := ⟨h.1.trans k.1, fun x => k.2 (h.2 x)⟩
theorem backKeepsL_b {n₀ Bs : Nat} {sv : Value} {w : World} (hn : n₀ ≤ w.heap.size) (W : World) (l : Nat) (o o' : Obj) (hl : w.heap.size ≤ l) (h : W.heap[l]? = some o) (hc : o.isCells = false) (hw : o.isWalk = false) : jUb n₀ Bs sv W (W.putObj l o') :=
 ⟨belowK_b hn W l o o' hl h hc hw,fun hb=>by
  refine hb.kept (grownBy_putObj' W l o') ?_
  intro e
  obtain rfl:Bs=l:=by simpa using e
  rw [show W.heap[Bs]?=_ from hb] at h
  cases h
  cases hc⟩
set_option maxRecDepth 100000 in
set_option maxHeartbeats 4000000 in
theorem backL1_in {α : Type} (F : Fence) (n : Nat) (h8 : F.fn 68) (hro : F.round = none) (hn : 1 ≤ n) (l Bs : Nat) (A : Option Addr) (cap : Nat) (xs : List S59) (w₀ : World) (hr : Kd.C k59 w₀ A xs.length xs)
  (encs:α→Array Value) (g:Nat→α) (hg:∀ j:Nat,j<xs.length→encs (g j)=#[.int .i64 ((xs.length:Int) - 1 - j), .agg #[.int .i64 (jd xs ((xs.length:Int) - 1 - j)).f0, .int .i64 (jd xs ((xs.length:Int) - 1 - j)).f1, .int .i64 (jd xs ((xs.length:Int) - 1 - j)).f2, .int .i64 (jd xs ((xs.length:Int) - 1 - j)).f3]])
  (J Jx:List α→World→Prop)
  (hY:∀ pre x W,J pre W→pre.length<xs.length→YieldAt F (n - 1) Try.prog l (encs x) W fun e W' =>
   (e=.returned (.bool true)∧J (pre ++ [x]) W'∧jUb w₀.heap.size Bs (.slice A xs.length cap) W W')∨(e=.returned (.bool false)∧Jx (pre ++ [x]) W'))
  (W:World) (hW:Below w₀.heap.size w₀ W) (hBs:Boxed W Bs 34 (.slice A xs.length cap)) (h0:J [] W) :
  CallsIn F n Try.prog 68 #[.func (.yield l) #[] #[], .pointer (some ⟨Bs,0,none⟩)] W fun e W'=>(∃ v,e=.returned v) ∧
   ((∃ ys,ys=uptoL g xs.length∧J ys W')∨(∃ pre,(∃ k,k≤xs.length∧pre=uptoL g k)∧Jx pre W')):=by
 have hm:xs.length≤9223372036854775807:=Kd.C_max hr
 have hu:=Try.underlying59
 have cBs:=hBs.cell
 refine callsIn_of_wp Try.func68 rfl h8 ?_ hro
 simp only [Try.ntmps68,List.size_toArray,List.length_cons,List.length_nil,Nat.reduceAdd,Nat.reduceSub,Array.replicate_succ,Array.replicate_zero,List.push_toArray,List.append_toArray,List.nil_append,List.cons_append]
 gi_wp2
 have hwr:wrap64 ((xs.length:Int) - 1)=(xs.length:Int) - 1:=xwrL (by omega)
 gi_loopw [3] (fun i wr=>∃ k:Nat,k≤xs.length∧i=.int .i64 ((xs.length:Int) - 1 - k)∧J (uptoL g k) wr∧Below w₀.heap.size w₀ wr∧Boxed wr Bs 34 (.slice A xs.length cap))
  (fun i _=>(intOf i+1).toNat)
 case atStart=>exact ⟨0,Nat.zero_le _,by simp,h0,hW,hBs⟩
 case round =>
  obtain ⟨k,hk,rfl,hJs,hnx,hbx⟩:=hrel
  have cB:=hbx.cell
  by_cases hlt:k<xs.length
  ·obtain ⟨fn,tmps,assign,body,hy,hR⟩:=hY _ (g k) wr hJs (by rw [uptoL_length];exact hlt)
   rw [hg k hlt] at hy
   obtain ⟨j,hj⟩:∃ j:Nat,(xs.length:Int) - 1 - k=(j:Int):=⟨xs.length - 1 - k,by omega⟩
   have p0:0≤(j:Int):=by omega
   have p1:(j:Int)<(xs.length:Int):=by omega
   have p2:j<xs.length:=by omega
   rw [hj] at hy ⊢
   obtain ⟨ad,rfl,x0,x1,x2,x3⟩:=jza (Kd.jka hr hnx) (j:Int) p0 p1
   rw [Int.toNat_natCast] at x0 x1 x2 x3
   gi_wp2
   refine hR.mono ?_
   rintro e W3 (⟨rfl,hJ3,hk3⟩ | ⟨rfl,hJx3⟩)
   ·have hb3:=hk3.2 hbx
    have c3:=hb3.cell
    gi_wp2
    go_roundw
    case rel=>exact ⟨k+1,by omega,by congr 1;omega,by rw [uptoL_succ];exact hJ3,hnx.trans hk3.1,hb3⟩
    case measure=>simp [intOf]
   ·gi_wp2
    refine bodyPost_ret (results_none rfl _ _ _) rfl ?_
    exact ⟨⟨_,rfl⟩, .inr ⟨_,⟨k+1,by omega,(uptoL_succ _ _).symm⟩,hJx3⟩⟩
  ·obtain rfl:k=xs.length:=by omega
   have q2:decide ((xs.length:Int) - 1 - xs.length≥0)=false:=dzF (by omega)
   gi_wp2
   go_end0
   exact ⟨⟨_,rfl⟩, .inl ⟨_,rfl,hJs⟩⟩
theorem KeepsFrom.of_belowL {W W' : World} (h : Below W.heap.size W W') (B : Nat) : KeepsFrom B W W' := ⟨h.size, fun k o _ hk _ => (h.block k (Array.getElem?_eq_some_iff.1 hk).1).trans hk⟩
theorem Boxed.liesL {W W' : World} {B : Nat} {t : TypeId} {v : Value} (h : Boxed W B t v) (hb : Below W.heap.size W W') : Boxed W' B t v := (hb.block B h.lt).trans h
set_option maxHeartbeats 1000000 in
theorem backL_in (F : Fence) (n : Nat) (h6 : F.fn 33) (hro : F.round = none) (a : Option Addr) (len cap : Nat) (w : World) :
  CallsIn F n Try.prog 33 #[.slice a len cap] w fun e w'=>e=.returned (.func (.func 68) #[] #[.pointer (some ⟨w.heap.size,0,none⟩)])∧w'=w.alloc (.cells #[.slice a len cap] 34):=by
 refine callsIn_of_wp Try.func33 rfl h6 ?_ hro
 simp only [Try.ntmps33,List.size_toArray,List.length_cons,List.length_nil,Nat.reduceAdd,Nat.reduceSub,Array.replicate_succ,Array.replicate_zero,List.push_toArray,List.append_toArray,List.nil_append,List.cons_append]
 gi_wp2
 go_ret
 exact ⟨rfl,rfl⟩
set_option linter.unusedVariables false
set_option linter.unusedSimpArgs false
def jH.rows (p : List S59) (i e : Int) : List Int → Option (List S48)
 | []=>some []
 | q :: L=>if 0≤q then (if q<(p.length:Int) then (jH.rows p i e L).bind fun r=>some (if (jd p q).f1=8 then (⟨wrap64 (i+1),e,q,(jd p q).f2⟩:S48) :: r else r) else none) else none
def jH.row (k : Nat) (p : List S59) (i : Int) (x : S59) : Option (List S48) :=
 (jla.f k p i).bind fun e=>if x.f1=11∧x.f3=1 then some [(⟨wrap64 (i+1),e,i,0⟩:S48)] else if x.f1=7 then (jZ.f k p i).bind fun L=>if L.length≤1000000 then jH.rows p i e L else none else some []
def jH.tb (k : Nat) (p : List S59) : Nat → Option (List S48)
 | 0=>some []
 | i+1=>(jH.row k p i (jd p (i:Int))).bind fun a=>(jH.tb k p i).bind fun b=>some (a ++ b)
def jH.f (k : Nat) (l0_0 : List S98) (l1 : List S59) : Option (List S48) :=
 (jA.f k l0_0 l1).bind fun v=>if v=true then (if l1.length≤1000000 then jH.tb k l1 l1.length else none) else some []
theorem jH.rows_len (p : List S59) (i e : Int) : ∀ (L : List Int) (r : List S48), jH.rows p i e L = some r → r.length ≤ L.length
 | [],r,h=>by simp [jH.rows] at h;simp [← h]
 | q :: L,r,h=>by
  simp only [jH.rows] at h
  split at h
  ·split at h
   ·obtain ⟨r2,h1,h2⟩:=bzS h
    have:=jH.rows_len p i e L r2 h1
    obtain rfl:=Option.some.inj h2
    split <;> simp <;> omega
   ·cases h
  ·cases h
theorem jH.row_len {k : Nat} {p : List S59} {i : Int} {x : S59} {r : List S48} (h : jH.row k p i x = some r) : r.length ≤ 1000000 := by
 unfold jH.row at h
 obtain ⟨e,_,h⟩:=bzS h
 split at h
 ·obtain rfl:=Option.some.inj h;simp
 ·split at h
  ·obtain ⟨L,_,h⟩:=bzS h
   split at h
   ·have:=jH.rows_len p i e L r h;omega
   ·cases h
  ·obtain rfl:=Option.some.inj h;simp
abbrev TbEl (k : Nat) (p : List S59) := { x : Int × S59 // (jH.row k p x.1 x.2).isSome = true ∨ p.length = 0 }
def TbEl.zero (k : Nat) (p : List S59) (h : (jH.row k p 0 (jd p 0)).isSome = true ∨ p.length = 0) : TbEl k p := ⟨(0, jd p 0), h⟩
def TbEl.rows {k : Nat} {p : List S59} (x : TbEl k p) : List S48 := (jH.row k p x.1.1 x.1.2).getD []
def TbEl.acc {k : Nat} {p : List S59} (pre : List (TbEl k p)) : List S48 := (pre.map TbEl.rows).flatten
theorem TbEl.acc_snoc {k : Nat} {p : List S59} (pre : List (TbEl k p)) (x : TbEl k p) : TbEl.acc (pre ++ [x]) = TbEl.acc pre ++ x.rows := by simp [TbEl.acc]
theorem TbEl.acc_len {k : Nat} {p : List S59} : ∀ pre : List (TbEl k p), (TbEl.acc pre).length ≤ pre.length * 1000000
 | []=>by simp [TbEl.acc]
 | x :: pre=>by
  have:=TbEl.acc_len pre
  have e:x.rows.length≤1000000:=by
   unfold TbEl.rows
   cases hr:jH.row k p x.1.1 x.1.2 with
   | none=>simp
   | some r=>exact jH.row_len hr
  simp only [TbEl.acc,List.map_cons,List.flatten_cons,List.length_append,List.length_cons] at this ⊢
  omega
def TbEl.of (k : Nat) (p : List S59) (h0 : (jH.row k p 0 (jd p 0)).isSome = true ∨ p.length = 0) (j : Nat) : TbEl k p :=
 if h:(jH.row k p ((p.length:Int) - 1 - j) (jd p ((p.length:Int) - 1 - j))).isSome=true then ⟨((p.length:Int) - 1 - j,jd p ((p.length:Int) - 1 - j)), .inl h⟩ else TbEl.zero k p h0
theorem jH.tb_all {k : Nat} {p : List S59} : ∀ (n : Nat) (r : List S48), jH.tb k p n = some r → ∀ j : Nat, j < n → (jH.row k p (j : Int) (jd p (j : Int))).isSome = true
 | 0,_,_,j,hj=>by omega
 | n+1,r,h,j,hj=>by
  simp only [jH.tb] at h
  obtain ⟨a,h1,h⟩:=bzS h
  obtain ⟨b,h2,h⟩:=bzS h
  by_cases e:j=n
  ·subst e;rw [h1];rfl
  ·exact jH.tb_all n b h2 j (by omega)
def encR (l : List S48) : List Value := (l.map fun x => [Value.int .i64 x.f0, .int .i64 x.f1, .int .i64 x.f2, .int .i64 x.f3]).flatten
theorem encR_snoc (l : List S48) (x : S48) : encR (l ++ [x]) = encR l ++ [Value.int .i64 x.f0, .int .i64 x.f1, .int .i64 x.f2, .int .i64 x.f3] := by simp [encR]
theorem TbEl.acc_all {k : Nat} {p : List S59} (h0 : (jH.row k p 0 (jd p 0)).isSome = true ∨ p.length = 0) : ∀ (n : Nat) (r : List S48), n ≤ p.length → jH.tb k p n = some r → ((List.range n).map fun j => (TbEl.of k p h0 (p.length - n + j)).rows).flatten = r
 | 0,r,_,h=>by simp [jH.tb] at h;simp [← h]
 | n+1,r,hn,h=>by
  have h2:=jH.tb_all (n+1) r h n (by omega)
  simp only [jH.tb] at h
  obtain ⟨a,ha,h⟩:=bzS h
  obtain ⟨b,hb,h⟩:=bzS h
  obtain rfl:=Option.some.inj h
  have ih:=TbEl.acc_all h0 n b (by omega) hb
  rw [List.range_succ_eq_map,List.map_cons,List.flatten_cons,List.map_map]
  have e1:(TbEl.of k p h0 (p.length - (n+1)+0)).rows=a:=by
   have ei:(p.length:Int) - 1 - ((p.length - (n+1)+0:Nat):Int)=(n:Int):=by omega
   have hh:(jH.row k p ((p.length:Int) - 1 - ((p.length - (n+1)+0:Nat):Int)) (jd p ((p.length:Int) - 1 - ((p.length - (n+1)+0:Nat):Int)))).isSome=true:=by rw [ei];exact h2
   simp only [TbEl.of,dif_pos hh,TbEl.rows]
   rw [ei,ha];rfl
  have e2:(List.map ((fun j=>(TbEl.of k p h0 (p.length - (n+1)+j)).rows) ∘ Nat.succ) (List.range n))=(List.range n).map fun j=>(TbEl.of k p h0 (p.length - n+j)).rows:=by
   apply List.map_congr_left
   intro j _
   simp only [Function.comp]
   rw [show p.length - (n+1)+j.succ=p.length - n+j by omega]
  rw [e1,e2,ih]
theorem ite_goal {c : Prop} [Decidable c] {A B : Prop} (hc : c) (h : A) : (if c then A else B) := by rw [if_pos hc]; exact h
theorem jAc {F : Fence} {n : Nat} {P : Program} (w : World) {o : Oper} {a : Act} {K : Act → World → Prop} {Q : Exit → Act → World → Prop}
  (s x:Operand) (t:TypeId) (hop:o.op=Op.call { callee:=Callee.builtin Builtin.append,args:=#[s,x],argTypes:=#[t,t] })
  (base:Nat) (e:TypeId) (i:TypeInfo) (z:Value) (size bytes:Nat) (h1:P.underlying t=some (.slice e)) (h2:P.info? e=some i) (h3:i.zero=some z) (h4:i.size=size) (h5:i.bytes=bytes) (h6:z.cells.size=size) (h7:0<size)
  (v:Value) (k:Nat) (xs:List Value) (hs:a.eval s=v) (hown:w.ownsRow base e size v k xs) (ad:Addr) (m c:Nat) (news:List Value) (hx:a.eval x=.slice (some ad) m c) (hn:news.length=m * size)
  (hc:∀ j u,news[j]?=some u→w.cell? (ad.add j)=some u) (h1c:∀ u ∈ news,u.oneCell'=true) (b1:k+m≤maxLen) (b2:(k+m) * bytes≤140737488355328) (b3:base≤w.heap.size)
  (hK:∀ v' w',w'.ownsRow base e size v' (k+m) (xs ++ news)→w.grownBy w' v.ownBlock→K (a.put o.dst v') w'):o.wpIn F n P a w K Q:=by
 obtain ⟨v',w',hrun,r1,r2,r3⟩:=run_append_own (P:=P) w base t o.type e i z size bytes h1 h2 h3 h4 h5 h6 h7 v k xs hown ad m c news hn hc h1c b1 b2 b3
 unfold Oper.wpIn
 refine ⟨?_,?_⟩
 ·simp [Oper.about,hop,resolve,Target.leads,Sem.run_pure]
 ·rw [Oper.semAt_plain F _ _ (by rw [hop];intro c hc';cases hc')]
  simp [execOp,hop,resolve,invoke,builtin,hs,hx,hrun,Result.andThen]
  exact hK _ _ r1 r2
def noDefer (o : Oper) : Bool := match o.op with | .defer _ => false | _ => true
theorem noDefer_spec {o : Oper} (h : noDefer o = true) : ∀ c, o.op ≠ .defer c := fun c hc => by simp [noDefer, hc] at h
theorem opIn_round {F : Fence} {l n : Nat} {P : Program} {o : Oper} {a : Act} {w : World} {K : Act → World → Prop} {Q : Exit → Act → World → Prop} (hro : F.round = none) (hd : noDefer o = true) (h : o.wpIn F n P a w K Q) : o.wpIn (F.inRound l) n P a w K Q := by
 unfold Oper.wpIn at *
 refine ⟨h.1,?_⟩
 have h2:=h.2
 rw [hro,Oper.semAt_none] at h2
 rw [Fence.inRound_round,Oper.semAt_some l _ _ (noDefer_spec hd)]
 exact h2
theorem opsIn_round {F : Fence} {l n : Nat} {P : Program} {ops : Array Oper} {K K' : Act → World → Prop} {Q : Exit → Act → World → Prop} (hro : F.round = none) (hd : ops.all noDefer = true) {i : Nat} {a : Act} {w : World} (hK : ∀ a w, K a w → K' a w) (h : wpOpIn F n P ops Q i K a w) : wpOpIn (F.inRound l) n P ops Q i K' a w := by
 have h:=wpOpIn_mono hK h
 unfold wpOpIn at h ⊢
 cases ho:ops[i]? with
 | none=>simp only [ho] at h ⊢;exact h
 | some o =>
  simp only [ho] at h ⊢
  have hn:noDefer o=true:=by
   obtain ⟨hi,e⟩:=Array.getElem?_eq_some_iff.1 ho
   have:=Array.all_eq_true.1 hd i hi
   rw [e] at this;exact this
  split
  ·rename_i hw;rw [if_pos hw] at h;exact opIn_round hro hn h
  ·rename_i hw;rw [if_neg hw] at h;exact h
theorem wpAnyIn_round {F : Fence} {l n : Nat} {P : Program} {md : Region.Mode} {ops : Array Oper} {Q : Exit → Act → World → Prop} (hro : F.round = none) (hd : ops.all noDefer = true) : ∀ (fuel : Nat) (listed : Array Bool) (a : Act) (w : World), wpAnyIn F n P md ops Q fuel listed a w → wpAnyIn (F.inRound l) n P md ops Q fuel listed a w
 | 0,_,_,_,h=>h
 | fuel+1,listed,a,w,h=>⟨h.1,fun i hi=>opsIn_round hro hd (fun a w hh=>wpAnyIn_round hro hd fuel _ a w hh) (h.2 i hi)⟩
theorem addr_add0 (g j : Nat) : (⟨g, 0, none⟩ : Addr).add j = ⟨g, j, none⟩ := by unfold Addr.add; split <;> simp_all
theorem jQb (w : World) (a b c d : Value) (t : TypeId) : ∀ j u, [a, b, c, d][j]? = some u → (w.alloc (.cells #[a, b, c, d] t)).cell? ((⟨w.heap.size, 0, none⟩ : Addr).add j) = some u := by
 intro j u hj
 match j,hj with
 | 0,hj=>simp at hj;subst hj;rw [addr_add0];exact (jK (World.alloc_heap_new w _) 0).trans rfl
 | 1,hj=>simp at hj;subst hj;rw [addr_add0];exact (jK (World.alloc_heap_new w _) 1).trans rfl
 | 2,hj=>simp at hj;subst hj;rw [addr_add0];exact (jK (World.alloc_heap_new w _) 2).trans rfl
 | 3,hj=>simp at hj;subst hj;rw [addr_add0];exact (jK (World.alloc_heap_new w _) 3).trans rfl
 | j+4,hj=>simp at hj
theorem reps_encR (w : World) (base : Nat) (ok : Nat → Prop) : ∀ l : List S48, Reps (k48.M w base ok) 4 l (encR l)
 | []=>Reps.none _ _
 | x :: l=>Reps.c4 (k48_mkM _ _ _ x) (reps_encR w base ok l)
theorem ownsRow_R {W : World} {n₀ D : Nat} {v : Value} {r : List S48} (h : W.ownsRow n₀ 48 4 v r.length (encR r)) (hD : W.heap[D]? = some (.deferred (some []))) : Kd.R k48 48 W n₀ (fun k => k ≠ D) v r := by
 refine ⟨fun k hk e=>?_,encR r,h.weak,reps_encR _ _ _ _⟩
 subst e
 obtain ⟨cells,hc⟩:=jtc h.weak k hk
 rw [hD] at hc;cases hc
structure TbInv (n₀ B1 Bs Bo : Nat) (sv : Value) (A : List S48) (v : Value) (W : World) : Prop where
 b1:Boxed W B1 34 sv
 bS:Boxed W Bs 34 sv
 bO:Boxed W Bo 28 v
 row:W.ownsRow n₀ 48 4 v A.length (encR A)
theorem ownsRow_below {W W' : World} {base : Nat} {e : TypeId} {size : Nat} {v : Value} {k : Nat} {xs : List Value} (h : W.ownsRow base e size v k xs) (hb : Below W.heap.size W W') : W'.ownsRow base e size v k xs := by
 refine ⟨h.1,?_⟩
 rcases h.2 with h0 | ⟨g,cap,cur,hv,hg,hgb,rest⟩
 ·exact .inl h0
 ·exact .inr ⟨g,cap,cur,hv,hg,(hb.block g (Array.getElem?_eq_some_iff.1 hgb).1).trans hgb,rest⟩
theorem TbInv.below {n₀ B1 Bs Bo : Nat} {sv : Value} {A : List S48} {v : Value} {W W' : World} (h : TbInv n₀ B1 Bs Bo sv A v W) (hb : Below W.heap.size W W') : TbInv n₀ B1 Bs Bo sv A v W' :=
 ⟨Boxed.liesL h.b1 hb,Boxed.liesL h.bS hb,Boxed.liesL h.bO hb,ownsRow_below h.row hb⟩
theorem TbInv.app {n₀ B1 Bs Bo : Nat} {sv : Value} {A : List S48} {v v' : Value} {W w1 : World} {tmp : Obj} (h : TbInv n₀ B1 Bs Bo sv A v W) (x : S48) (hn : n₀ ≤ W.heap.size) (hBo : n₀ ≤ Bo) (h1 : B1 ≠ Bo) (hS : Bs ≠ Bo)
  (hown:w1.ownsRow n₀ 48 4 v' (A.length+1) (encR A ++ [.int .i64 x.f0, .int .i64 x.f1, .int .i64 x.f2, .int .i64 x.f3])) (hgrow:(W.alloc tmp).grownBy w1 v.ownBlock) :
  TbInv n₀ B1 Bs Bo sv (A ++ [x]) v' (w1.setCell ⟨Bo,0,none⟩ v')∧Boxed w1 Bo 28 v∧KeepsOthers W (w1.setCell ⟨Bo,0,none⟩ v')∧Below n₀ W (w1.setCell ⟨Bo,0,none⟩ v'):=by
 obtain ⟨k1,k2,k3,k4,k5⟩:=h.bO.appended (by decide) h.row hn hBo hown hgrow
 refine ⟨⟨((h.b1.alloc tmp).kept hgrow (h.b1.not_row (by decide) h.row)).other h1 _,((h.bS.alloc tmp).kept hgrow (h.bS.not_row (by decide) h.row)).other hS _,k2,?_⟩,k1,k4,k5⟩
 rw [encR_snoc,List.length_append,List.length_singleton]
 exact k3
theorem TbInv.keepL {n₀ B1 Bs Bo : Nat} {sv : Value} {A : List S48} {v v' : Value} {W w1 : World} {tmp : Obj} {b : Nat} {vL : Value} {L : List Int} (h : TbInv n₀ B1 Bs Bo sv A v W) (hL : Kd.R (Kd.int .i64) 3 W b (fun _ => True) vL L) (hb1 : Boxed w1 Bo 28 v) (hgrow : (W.alloc tmp).grownBy w1 v.ownBlock) :
  Kd.R (Kd.int .i64) 3 (w1.setCell ⟨Bo,0,none⟩ v') b (fun _=>True) vL L:=by
 have h1:=Kd.jba hL tmp
 have h2:Kd.R (Kd.int .i64) 3 w1 b (fun _=>True) vL L:=by
  refine Kd.jI (Kd.R_move (Kd.jqc h1) (fun k hk=>?_)) (fun _ _=>trivial)
  obtain ⟨_,_,hk,q,hq,cells,hc⟩:=hk
  refine hgrow.block k hk (fun e=>?_)
  obtain ⟨c2,hc2⟩:=jtc (h.row.alloc tmp).weak k e.symm
  rw [hc2] at hc
  injection hc with hc
  injection hc with _ hc
  rcases List.mem_cons.mp hq with rfl | hq
  ·cases hc
  ·cases hq
 exact Kd.R_set h2 hb1 (by decide) 0 v'
theorem jH.rows_step {p : List S59} {i e : Int} {L : List Int} {m : Nat} {rest : List S48} (hm : m < L.length) (h : jH.rows p i e (L.drop m) = some rest) :
  0≤rd L (m:Int)∧rd L (m:Int)<(p.length:Int)∧∃ rest2,jH.rows p i e (L.drop (m+1))=some rest2∧rest=if (jd p (rd L (m:Int))).f1=8 then (⟨wrap64 (i+1),e,rd L (m:Int),(jd p (rd L (m:Int))).f2⟩:S48) :: rest2 else rest2:=by
 have hr:rd L (m:Int)=L[m]:=by simp [rd,List.getD_eq_getElem?_getD,hm]
 rw [List.drop_eq_getElem_cons hm,← hr] at h
 simp only [jH.rows] at h
 by_cases h0:0≤rd L (m:Int)
 ·rw [if_pos h0] at h
  by_cases h1:rd L (m:Int)<(p.length:Int)
  ·rw [if_pos h1] at h
   obtain ⟨r2,h2,h3⟩:=bzS h
   exact ⟨h0,h1,r2,h2,(Option.some.inj h3).symm⟩
  ·rw [if_neg h1] at h;cases h
 ·rw [if_neg h0] at h;cases h
set_option maxHeartbeats 8000000 in
set_option maxRecDepth 100000 in
theorem jH.calls (k : Nat) (A0_0 : Option Addr) (c0_0 : Nat) (l0_0 : List (S98)) (A1 : Option Addr) (c1 : Nat) (l1 : List (S59)) (r : List S48) (w : World) (hr0_0 : Kd.C k98 w A0_0 l0_0.length l0_0) (hc0_0 : l0_0.length ≤ c0_0) (hr1 : Kd.C k59 w A1 l1.length l1) (hc1 : l1.length ≤ c1) (h : jH.f k l0_0 l1 = some r) :
  Calls Try.prog 12 #[.agg #[.slice A0_0 l0_0.length c0_0], .slice A1 l1.length c1] w fun e w'=>∃ v0_:Value,e=.returned v0_∧Kd.R k48 48 w' w.heap.size (fun _=>True) v0_ r∧Below w.heap.size w w':=by
 obtain ⟨v,hv,h⟩:=bzS h
 have hu32:=Try.underlying32
 have hu59:=Try.underlying59
 have hu48:=Try.underlying48
 have B2:Below w.heap.size w ((w.alloc (.cells #[.slice A0_0 l0_0.length c0_0] 32)).alloc (.cells #[.slice A1 l1.length c1] 34)):=((Below.refl _ w).alloc (Nat.le_refl _) _).alloc (by simp) _
 have HV:=am (fun (W:World) (hb:Below w.heap.size w W)=>jA.calls k A0_0 c0_0 l0_0 A1 c1 l1 v W (Kd.jka hr0_0 hb) hc0_0 (Kd.jka hr1 hb) hc1 hv)
 refine (callsIn_wide (n:=8)).1 ?_
 have hro:Fence.wide.round=none:=rfl
 refine callsIn_of_wp_marks Try.func12 rfl trivial ?_ hro
 simp only [Try.ntmps12,List.size_toArray,List.length_cons,List.length_nil,Nat.reduceAdd,Nat.reduceSub,Array.replicate_succ,Array.replicate_zero,List.push_toArray,List.append_toArray,List.nil_append,List.cons_append]
 have b0:=(Boxed.new w 32 (.slice A0_0 l0_0.length c0_0)).alloc (.cells #[.slice A1 l1.length c1] 34)
 have b1:=Boxed.new (w.alloc (.cells #[.slice A0_0 l0_0.length c0_0] 32)) 34 (.slice A1 l1.length c1)
 simp only [World.size_alloc] at b1
 obtain ⟨W2,hW2⟩:∃ W2,(w.alloc (.cells #[.slice A0_0 l0_0.length c0_0] 32)).alloc (.cells #[.slice A1 l1.length c1] 34)=W2:=⟨_,rfl⟩
 have hs2:W2.heap.size=w.heap.size+2:=by rw [← hW2];simp
 rw [hW2] at b0 b1 B2
 have cb0:=b0.cell
 have cb1:=b1.cell
 have hcall:=HV.out W2 B2
 cases v with
 | false =>
  rw [if_neg (by simp)] at h
  obtain rfl:=Option.some.inj h
  gi_wp2_with (refine ⟨trivial,?_⟩;gi_at_call 22;refine (callsIn_wide.2 hcall).mono ?_;rintro e w1 ⟨rfl,hb1⟩)
  refine ⟨.slice none 0 0,?_,_,rfl,Kd.R_nil _ _ _ _ _,B2.trans (hb1.mono (by omega))⟩
  simp [results,Try.f12,go_sem]
 | true =>
  rw [if_pos rfl] at h
  by_cases hlen:l1.length≤1000000
  case neg=>rw [if_neg hlen] at h;cases h
  rw [if_pos hlen] at h
  gi_wp2_with (first |(refine ⟨trivial,?_⟩;gi_at_call 22;refine (callsIn_wide.2 hcall).mono ?_;rintro e w1 ⟨rfl,hb1⟩;have k1:=((Boxed.liesL b1 hb1).alloc (.cells #[] 48)).alloc (.cells #[.slice (some ⟨w1.heap.size,0,none⟩) 0 0] 28);have c1':=Boxed.cell k1) |(refine ⟨trivial,?_⟩;gi_at_call 33;refine (backL_in Fence.wide _ trivial hro _ _ _ _).mono ?_;rintro e w' ⟨rfl,rfl⟩))
  have hs1:w.heap.size+2≤w1.heap.size:=by have:=hb1.size;omega
  have B0:Below w.heap.size w (((w1.alloc (.cells #[] 48)).alloc (.cells #[.slice (some ⟨w1.heap.size,0,none⟩) 0 0] 28)).alloc (.cells #[.slice A1 l1.length c1] 34)) :=
   (((B2.trans (hb1.mono (by omega))).alloc (by omega) _).alloc (by simp;omega) _).alloc (by simp;omega) _
  have d1:=k1.alloc (.cells #[.slice A1 l1.length c1] 34)
  have dO:=(Boxed.new (w1.alloc (.cells #[] 48)) 28 (.slice (some ⟨w1.heap.size,0,none⟩) 0 0)).alloc (.cells #[.slice A1 l1.length c1] 34)
  have dS:=Boxed.new ((w1.alloc (.cells #[] 48)).alloc (.cells #[.slice (some ⟨w1.heap.size,0,none⟩) 0 0] 28)) 34 (.slice A1 l1.length c1)
  have dR:((((w1.alloc (.cells #[] 48)).alloc (.cells #[.slice (some ⟨w1.heap.size,0,none⟩) 0 0] 28)).alloc (.cells #[.slice A1 l1.length c1] 34))).ownsRow w.heap.size 48 4 (.slice (some ⟨w1.heap.size,0,none⟩) 0 0) 0 [] :=
   ((World.ownsRow_lit (base:=w.heap.size) (e:=48) (size:=4) w1 #[] 0 (by omega) (by simp) (by simp)).alloc _).alloc _
  rw [World.size_alloc] at dO
  simp only [World.size_alloc] at dS
  obtain ⟨W0,hW0⟩:∃ W0,((w1.alloc (.cells #[] 48)).alloc (.cells #[.slice (some ⟨w1.heap.size,0,none⟩) 0 0] 28)).alloc (.cells #[.slice A1 l1.length c1] 34)=W0:=⟨_,rfl⟩
  have hs0:W0.heap.size=w1.heap.size+3:=by rw [← hW0];simp
  rw [hW0] at B0 d1 dO dS dR ⊢
  have hWA:=am hW0
  clear hW0
  obtain ⟨ir,hir,hz0,hz1,hz2⟩:=info_parts info48
  have h0:(jH.row k l1 0 (jd l1 0)).isSome=true∨l1.length=0:=by
   rcases Nat.eq_zero_or_pos l1.length with e | e
   ·exact .inr e
   ·exact .inl (jH.tb_all _ _ h 0 e)
  have HR:=am (show TbEl.acc (uptoL (TbEl.of k l1 h0) l1.length)=r by
   have:=TbEl.acc_all h0 l1.length r (Nat.le_refl _) h
   simpa [TbEl.acc,uptoL,Function.comp_def] using this)
  have henc:∀ j:Nat,j<l1.length→(fun x:TbEl k l1=>#[Value.int .i64 x.1.1, .agg #[.int .i64 x.1.2.f0, .int .i64 x.1.2.f1, .int .i64 x.1.2.f2, .int .i64 x.1.2.f3]]) (TbEl.of k l1 h0 j)=#[.int .i64 ((l1.length:Int) - 1 - j), .agg #[.int .i64 (jd l1 ((l1.length:Int) - 1 - j)).f0, .int .i64 (jd l1 ((l1.length:Int) - 1 - j)).f1, .int .i64 (jd l1 ((l1.length:Int) - 1 - j)).f2, .int .i64 (jd l1 ((l1.length:Int) - 1 - j)).f3]]:=by
   intro j hj
   have hh:=jH.tb_all _ _ h (l1.length - 1 - j) (by omega)
   have ei:(l1.length:Int) - 1 - (j:Int)=((l1.length - 1 - j:Nat):Int):=by omega
   rw [← ei] at hh
   simp only [TbEl.of,dif_pos hh]
  clear h hv
  refine wpIn_rangeFunc_ownH hro (by omega) (gf:=68) (lb:=#[.pointer (some ⟨w1.heap.size+2,0,none⟩)]) rfl trivial (enters_of Try.func68 (by kernel_rfl) rfl)
   (encs:=fun x:TbEl k l1=>#[.int .i64 x.1.1, .agg #[.int .i64 x.1.2.f0, .int .i64 x.1.2.f1, .int .i64 x.1.2.f2, .int .i64 x.1.2.f3]]) (Kp:=jUb w.heap.size (w1.heap.size+2) (.slice A1 l1.length c1))
   (S:=fun ys=>ys=uptoL (TbEl.of k l1 h0) l1.length) (Sp:=fun pre=>∃ q,q≤l1.length∧pre=uptoL (TbEl.of k l1 h0) q) (N:=l1.length) (w0:=W0)
   (fun l J Jx W hW _ _ hY h0'=>backL1_in Fence.wide _ trivial hro (by omega) l _ A1 c1 l1 w hr1 _ (TbEl.of k l1 h0) henc J Jx hY W (B0.trans (hW.mono B0.size)) (Boxed.liesL dS hW) h0')
   backKeepsL_t (backKeepsL_b (by omega)) (Below.refl _ _) (fun _=>rfl)
   (fun pre W=>((Boxed W (w.heap.size+1) 34 (.slice A1 l1.length c1)∧Boxed W (w1.heap.size+2) 34 (.slice A1 l1.length c1))∧(∃ v,Boxed W (w1.heap.size+1) 28 v∧W.ownsRow w.heap.size 48 4 v (TbEl.acc pre).length (encR (TbEl.acc pre))∧True))∧Below w.heap.size w W)
   (fun _ _ _=>False)
   (OwnFrom.and (OwnFrom.and (OwnFrom.and (Own.from (boxed_own _ _ fun _=>_) _) (Own.from (boxed_own _ _ fun _=>_) _)) (Own.from (holdsRow_own w.heap.size (w1.heap.size+1) 28 48 4 (fun pre=>(TbEl.acc pre).length) (fun pre=>encR (TbEl.acc pre)) (fun _ _=>True)) _)) (ownFrom_below (Nat.le_refl _) (by omega)))
   (fun c=>ownFrom_pure _ _)
   ⟨⟨⟨d1,dS⟩,_,dO,dR,trivial⟩,B0⟩
   (fun x a' W=>∃ Bx,w1.heap.size+2<Bx∧W.heap[Bx]?=some (.cells #[.int .i64 x.1.2.f0, .int .i64 x.1.2.f1, .int .i64 x.1.2.f2, .int .i64 x.1.2.f3] 59 (0,0))∧a'={ tmps:=#[.agg #[.slice A0_0 l0_0.length c0_0], .slice A1 l1.length c1, .pointer (some ⟨w.heap.size,0,none⟩), .pointer (some ⟨w.heap.size+1,0,none⟩), .slice none 0 0, .pointer (some ⟨w1.heap.size+1,0,none⟩), .int .i64 x.1.1, .pointer (some ⟨Bx,0,none⟩),undef,undef,undef,undef, .agg #[.slice A0_0 l0_0.length c0_0], .slice A1 l1.length c1, .bool true, .bool false, .slice (some ⟨w1.heap.size,0,none⟩) 0 0, .slice A1 l1.length c1, .func (.func 68) #[] #[.pointer (some ⟨w1.heap.size+2,0,none⟩)], .int .i64 x.1.1, .agg #[.int .i64 x.1.2.f0, .int .i64 x.1.2.f1, .int .i64 x.1.2.f2, .int .i64 x.1.2.f3],undef,undef,undef,undef,undef,undef,undef,undef,undef,undef,undef,undef,undef,undef,undef,undef,undef,undef,undef,undef,undef,undef,undef,undef,undef,undef,undef,undef,undef,undef,undef,undef,undef,undef,undef,undef,undef,undef,undef,undef,undef,undef,undef,undef,undef,undef,undef,undef,undef,undef,undef,undef,undef,undef],defers:=[] })
   (fun x a' _ X Y row hs hg hr=>by
    obtain ⟨Bx,h1,h2,h3⟩:=hs
    refine ⟨Bx,h1,(hg.block Bx (Array.getElem?_eq_some_iff.1 h2).1 (fun e=>?_)).trans h2,h3⟩
    obtain ⟨o,ho,hc⟩:=(hr Bx e.symm).2
    rw [h2] at ho;cases ho;cases hc)
   ?assign ?body ?done ?stop
  case assign =>
   rintro l pre x W K ⟨⟨⟨i1,iS⟩,vO,iO,iR,_⟩,hB⟩ hK
   gi_wp2
   exact hK _ _ ((KeepsOthers.alloc _ _).from _) ⟨(Below.refl _ W).alloc hB.size _,fun h=>h.alloc _⟩ ⟨⟨⟨i1.alloc _,iS.alloc _⟩,vO,iO.alloc _,iR.alloc _,trivial⟩,hB.alloc hB.size _⟩ ⟨W.heap.size,by have:=iS.lt;omega,World.alloc_heap_new W _,rfl⟩
  case body =>
   rintro l pre ⟨⟨ix,x⟩,hx⟩ a' W hl ⟨rr,hrr⟩ ⟨⟨⟨i1,iS⟩,vO,iO,iR,_⟩,hB⟩ ⟨Bx,hBx,bX,rfl⟩ hlt
   have hx2:(jH.row k l1 ix x).isSome=true:=hx.resolve_right (by omega)
   obtain ⟨rw_,hrow⟩:=Option.isSome_iff_exists.1 hx2
   have HA1:=am (show TbEl.acc (pre ++ [⟨(ix,x),hx⟩])=TbEl.acc pre ++ rw_ by rw [TbEl.acc_snoc];simp [TbEl.rows,hrow])
   have hA:=am (show (TbEl.acc pre).length≤1000000000000 by have:=TbEl.acc_len pre;omega)
   have J0:=am (show TbInv w.heap.size (w.heap.size+1) (w1.heap.size+2) (w1.heap.size+1) (.slice A1 l1.length c1) (TbEl.acc pre) vO W from ⟨i1,iS,iO,iR⟩)
   have HB:=am hB
   have fin:∀ (v2:Value) (W2:World),TbInv w.heap.size (w.heap.size+1) (w1.heap.size+2) (w1.heap.size+1) (.slice A1 l1.length c1) (TbEl.acc pre ++ rw_) v2 W2→KeepsFrom W0.heap.size W W2→Below w.heap.size W W2→(Boxed W (w1.heap.size+2) 34 (.slice A1 l1.length c1)→Boxed W2 (w1.heap.size+2) 34 (.slice A1 l1.length c1)) →
     KeepsFrom W0.heap.size W W2∧jUb w.heap.size (w1.heap.size+2) (.slice A1 l1.length c1) W W2∧(((Boxed W2 (w.heap.size+1) 34 (.slice A1 l1.length c1)∧Boxed W2 (w1.heap.size+2) 34 (.slice A1 l1.length c1))∧(∃ v,Boxed W2 (w1.heap.size+1) 28 v∧W2.ownsRow w.heap.size 48 4 v (TbEl.acc (pre ++ [⟨(ix,x),hx⟩])).length (encR (TbEl.acc (pre ++ [⟨(ix,x),hx⟩])))∧True))∧Below w.heap.size w W2):=by
    intro v2 W2 T hk hb hs
    rw [HA1.out]
    exact ⟨hk,⟨hb,hs⟩,⟨⟨T.b1,T.bS⟩,v2,T.bO,T.row,trivial⟩,HB.out.trans hb⟩
   have FIN:=am fin
   clear fin
   have x0:W.cell? ⟨Bx,0,none⟩=some (.int .i64 x.f0):=(jK bX 0).trans rfl
   have x1:W.cell? ⟨Bx,1,none⟩=some (.int .i64 x.f1):=(jK bX 1).trans rfl
   have x2:W.cell? ⟨Bx,2,none⟩=some (.int .i64 x.f2):=(jK bX 2).trans rfl
   have x3:W.cell? ⟨Bx,3,none⟩=some (.int .i64 x.f3):=(jK bX 3).trans rfl
   have ci1:=i1.cell
   have ciO:=iO.cell
   have fiO:=iO.frozen
   unfold jH.row at hrow
   obtain ⟨e,he,hrow⟩:=bzS hrow
   have KE:=am (fun (W':World) (hb:Below w.heap.size w W')=>jla.calls k A1 c1 l1 ix e W' (Kd.jka hr1 hb) hc1 he)
   clear he hx2 hl iR i1 iS iO hB
   by_cases k11:x.f1=11
   ·have k11b:(x.f1 == 11)=true:=by simp [k11]
    have k7b:(x.f1 == 7)=false:=by simp [k11]
    by_cases k3:x.f3=1
    ·have k3b:(x.f3 == 1)=true:=by simp [k3]
     rw [if_pos ⟨k11,k3⟩] at hrow
     obtain rfl:=Option.some.inj hrow
     clear hrow
     gi_wp2_with (first |(refine ⟨trivial,?_⟩;gi_at_call 34;refine (CallsIn.inRound l (callsIn_wide.2 (KE.out _ HB.out))).mono ?_;clear KE;rintro e w' ⟨rfl,⟨n0,rfl⟩⟩;have hbd:=am (show Below W.heap.size W (W.drewN n0) from jv (Below.refl _ _) _)) |(gi_at_builtin;refine wpListIn_append_own _ rfl _ _ 28 rfl w.heap.size 48 ir (.agg #[(.int .i64 0),(.int .i64 0),(.int .i64 0),(.int .i64 0)]) 4 32 Try.underlying28 hir hz0 hz1 hz2 rfl (by decide) _ _ _ rfl ((J0.out.below hbd.out).row.alloc _) ⟨W.heap.size,0,none⟩ 1 1 [.int .i64 (wrap64 (ix+1)), .int .i64 e, .int .i64 ix, .int .i64 0] rfl rfl (jQb (W.drewN n0) _ _ _ _ _) (by simp [Value.oneCell']) (by have:=hA.out;simp only [maxLen];omega) (by have:=hA.out;omega) (by have:=HB.out.size;have:=hbd.out.size;simp;omega) ?_;intro v' w3 hown' hgrow _;obtain ⟨g',cap',rfl⟩:=ownsRow_succ hown';have T:=am ((J0.out.below hbd.out).app (⟨wrap64 (ix+1),e,ix,0⟩:S48) (by have:=HB.out.size;have:=hbd.out.size;omega) (by omega) (by omega) (by omega) hown' hgrow);have q1:=T.out.2.1.cell;have q2:=T.out.2.1.frozen;clear hown' hgrow) |(refine ⟨trivial,?_⟩))
     exact FIN.out _ _ T.out.1 ((KeepsFrom.of_belowL hbd.out _).trans (T.out.2.2.1.from _)) ((hbd.out.mono HB.out.size).trans T.out.2.2.2) (fun _=>T.out.1.bS)
    ·have k3b:(x.f3 == 1)=false:=by simpa using k3
     rw [if_neg (fun h=>k3 h.2),if_neg (by omega)] at hrow
     obtain rfl:=Option.some.inj hrow
     clear hrow
     gi_wp2_with (first |(refine ⟨trivial,?_⟩;gi_at_call 34;refine (CallsIn.inRound l (callsIn_wide.2 (KE.out _ HB.out))).mono ?_;clear KE;rintro e w' ⟨rfl,⟨n0,rfl⟩⟩;have hbd:=am (show Below W.heap.size W (W.drewN n0) from jv (Below.refl _ _) _)) |(refine ⟨trivial,?_⟩))
     exact FIN.out _ _ (by rw [List.append_nil];exact J0.out.below hbd.out) (KeepsFrom.of_belowL hbd.out _) (hbd.out.mono HB.out.size) (fun h=>Boxed.liesL h hbd.out)
   ·have k11b:(x.f1 == 11)=false:=by simpa using k11
    by_cases k7:x.f1=7
    ·have k7b:(x.f1 == 7)=true:=by simp [k7]
     rw [if_neg (fun h=>k11 h.1),if_pos k7] at hrow
     obtain ⟨L,hL,hrow⟩:=bzS hrow
     by_cases hLl:L.length≤1000000
     case neg=>rw [if_neg hLl] at hrow;cases hrow
     rw [if_pos hLl] at hrow
     have HRW:=am hrow
     have KT:=am (fun (W':World) (hb:Below w.heap.size w W')=>jZ.calls k A1 c1 l1 ix L W' (Kd.jka hr1 hb) hc1 hL)
     clear hrow hL
     gi_wp2_with (first |(refine ⟨trivial,?_⟩;gi_at_call 34;refine (CallsIn.inRound l (callsIn_wide.2 (KE.out _ HB.out))).mono ?_;clear KE;rintro e w' ⟨rfl,⟨n0,rfl⟩⟩;have hbd:=am (show Below W.heap.size W (W.drewN n0) from jv (Below.refl _ _) _)) |(refine ⟨trivial,?_⟩;gi_at_call 35;refine (CallsIn.inRound l (callsIn_wide.2 (KT.out _ (HB.out.trans (hbd.out.mono HB.out.size))))).mono ?_;clear KT;rintro e w4 ⟨vL,rfl,hRL,hb4⟩;obtain ⟨AL,cL,rfl⟩:=Kd.jaa hRL;have hbd4:=am (hbd.out.trans (hb4.mono hbd.out.size));have RL:=am hRL;have ci4:=(Boxed.liesL J0.out.b1 hbd4.out).cell;clear hRL hb4) |(refine ⟨trivial,?_⟩))
     gi_loopw [50] (fun v50 wr=>∃ (m:Nat) (part:List S48) (v:Value),m≤L.length∧v50=.int .i64 m∧jl (∃ rest,jH.rows l1 ix e (L.drop m)=some rest∧part ++ rest=rw_)∧jl (part.length≤m)∧jl (TbInv w.heap.size (w.heap.size+1) (w1.heap.size+2) (w1.heap.size+1) (.slice A1 l1.length c1) (TbEl.acc pre ++ part) v wr)∧jl (KeepsFrom W0.heap.size W wr)∧jl (Below w.heap.size W wr)∧jl (Kd.R (Kd.int .i64) 3 wr (W.drewN n0).heap.size (fun _=>True) (.slice AL L.length cL) L)) (fun v50 _=>L.length - (intOf v50).toNat)
     case atStart=>exact ⟨0,[],vO,Nat.zero_le _,rfl,⟨rw_,by simpa using HRW.out,rfl⟩,⟨Nat.le_refl _⟩,⟨by rw [List.append_nil];exact J0.out.below hbd4.out⟩,⟨KeepsFrom.of_belowL hbd4.out _⟩,⟨hbd4.out.mono HB.out.size⟩,RL⟩
     case round =>
      obtain ⟨m,part,v,hm,rfl,HRS,HPL,HT,HKF,HBW,HRL⟩:=hrel
      by_cases hlt2:m<L.length
      ·obtain ⟨rest,hr1',hr2'⟩:=HRS.out
       obtain ⟨q0,q1,rest2,hr3,hr4⟩:=jH.rows_step hlt2 hr1'
       clear HRS hr1'
       have hC:=(Kd.jm HRL.out).2.2
       obtain ⟨adL,rfl,hcL⟩:=Kd.jyb hC (m:Int) (by omega) (by omega)
       rw [Int.toNat_natCast] at hcL
       obtain ⟨qv,hqv⟩:∃ qv,rd L (m:Int)=qv:=⟨_,rfl⟩
       rw [hqv] at q0 q1 hcL hr4
       obtain ⟨adp,rfl,y0,y1,y2,y3⟩:=jza (Kd.jka hr1 (HB.out.trans HBW.out)) qv q0 q1
       replace q0:=ezT q0
       replace q1:=ezT q1
       have cj1:=HT.out.b1.cell
       have cjO:=HT.out.bO.cell
       have fjO:=HT.out.bO.frozen
       clear hC hqv
       by_cases k8:(jd l1 qv).f1=8
       ·rw [if_pos k8] at hr4
        have k8b:((jd l1 qv).f1 == 8)=true:=by simp [k8]
        have HR3:=am (show ∃ rest,jH.rows l1 ix e (L.drop (m+1))=some rest∧(part ++ [(⟨wrap64 (ix+1),e,qv,(jd l1 qv).f2⟩:S48)]) ++ rest=rw_ from ⟨rest2,hr3,by rw [← hr2',hr4];simp⟩)
        clear hr2' hr3 hr4 k8
        obtain ⟨AP,hAP⟩:∃ AP,TbEl.acc pre ++ part=AP:=⟨_,rfl⟩
        have HLN:=am (show AP.length≤1000001000000 by have:=hA.out;have:=HPL.out;rw [← hAP,List.length_append];omega)
        rw [hAP] at HT
        have HAP:=am hAP
        clear hAP
        have hmx:Try.prog.follows .mixedOrders=true:=by kernel_rfl
        have HTd:=am (HT.out.below (jwc (Below.refl _ wr)))
        have HRLd:=am (Kd.jma HRL.out)
        have HBd:=am (HBW.out.trans (jwc (Below.refl _ wr)))
        gi_wp2
        refine wpIn_region_any (by assumption) ?_
        refine wpAnyIn_round (F:=Fence.wide) (l:=l) rfl (by kernel_rfl) _ _ _ _ ?_
        change wpAnyIn _ _ _ _ _ _ _ _ _ (World.drew _)
        refine wpAnyIn_take (i:=1) (v:=?_) rfl rfl (by kernel_rfl) (by kernel_rfl) (by kernel_rfl) (fun _ _ _ h=>h) ⟨Or.inl ⟨by rfl,?_⟩,fun _=>rfl⟩ ?_
        rotate_left
        ·exact sb
        refine wpAnyIn_take (i:=2) (v:=?_) rfl rfl (by kernel_rfl) (by kernel_rfl) (by kernel_rfl) (fun _ _ _ h=>h) ⟨Or.inl ⟨by rfl,?_⟩,fun _=>rfl⟩ ?_
        rotate_left
        ·exact sb
        refine wpAnyIn_take (i:=3) (v:=?_) rfl rfl (by kernel_rfl) (by kernel_rfl) (by kernel_rfl) (fun _ _ _ h=>h) ⟨Or.inl ⟨by rfl,?_⟩,fun _=>rfl⟩ ?_
        rotate_left
        ·exact sb
        refine wpAnyIn_take (i:=5) (v:=?_) rfl rfl (by kernel_rfl) (by kernel_rfl) (by kernel_rfl) (fun _ _ _ h=>h) ⟨Or.inl ⟨by rfl,?_⟩,fun _=>rfl⟩ ?_
        rotate_left
        ·exact sb
        refine wpAnyIn_ready (rs:=[0,4]) (by kernel_rfl) (by simp) ?_
        refine AllReadyIn.cons rfl (fun K hK=>?_) (AllReadyIn.cons rfl (fun K hK=>?_) AllReadyIn.nil)
        ·go_simp
         refine hK _ _ ?_
         clear hK K
         refine wpAnyIn_ready (rs:=[4]) (by kernel_rfl) (by simp) ?_
         refine AllReadyIn.cons rfl (fun K hK=>?_) AllReadyIn.nil
         go_simp
         refine hK _ _ ?_
         clear hK K
         refine wpAnyIn_take (i:=6) (v:=?_) rfl rfl (by kernel_rfl) (by kernel_rfl) (by kernel_rfl) (fun _ _ _ h=>h) ⟨Or.inl ⟨by rfl,?_⟩,fun _=>rfl⟩ ?_
         rotate_left
         ·exact sb
         refine wpAnyIn_take (i:=7) (v:=?_) rfl rfl (by kernel_rfl) (by kernel_rfl) (by kernel_rfl) (fun _ _ _ h=>h) ⟨Or.inl ⟨by rfl,?_⟩,fun _=>rfl⟩ ?_
         rotate_left
         ·exact sb
         refine wpAnyIn_ready (rs:=[8]) (by kernel_rfl) (by simp) ?_
         refine AllReadyIn.cons rfl (fun K hK=>?_) AllReadyIn.nil
         go_simp
         refine hK _ _ ?_
         clear hK K
         refine wpAnyIn_take (i:=9) (v:=?_) rfl rfl (by kernel_rfl) (by kernel_rfl) (by kernel_rfl) (fun _ _ _ h=>h) ⟨Or.inl ⟨by rfl,?_⟩,fun _=>rfl⟩ ?_
         rotate_left
         ·exact sb
         refine wpAnyIn_ready (rs:=[10]) (by kernel_rfl) (by simp) ?_
         refine AllReadyIn.cons rfl (fun K hK=>?_) AllReadyIn.nil
         go_simp
         refine hK _ _ ?_
         clear hK K
         refine wpAnyIn_ready (rs:=[11]) (by kernel_rfl) (by simp) ?_
         refine AllReadyIn.cons rfl (fun K hK=>?_) AllReadyIn.nil
         refine ite_goal (by rfl) ?_
         refine jAc (wr.drew.alloc (.cells #[.int .i64 (wrap64 (ix+1)), .int .i64 e, .int .i64 qv, .int .i64 (jd l1 qv).f2] 48)) _ _ 28 rfl w.heap.size 48 ir (.agg #[(.int .i64 0),(.int .i64 0),(.int .i64 0),(.int .i64 0)]) 4 32 Try.underlying28 hir hz0 hz1 hz2 rfl (by decide) v _ _ rfl (HTd.out.row.alloc _) ⟨wr.drew.heap.size,0,none⟩ 1 1 [.int .i64 (wrap64 (ix+1)), .int .i64 e, .int .i64 qv, .int .i64 (jd l1 qv).f2] rfl rfl (jQb wr.drew _ _ _ _ _) (by simp [Value.oneCell']) (by have:=HLN.out;simp only [maxLen];omega) (by have:=HLN.out;omega) (by have:=HB.out.size;have:=HBd.out.size;have:=HBW.out.size;simp;omega) ?_
         intro v' w5 hown' hgrow
         refine hK _ _ ?_
         clear hK K
         obtain ⟨g',cap',rfl⟩:=ownsRow_succ hown'
         have T:=am (HTd.out.app (⟨wrap64 (ix+1),e,qv,(jd l1 qv).f2⟩:S48) (by have:=HB.out.size;have:=HBd.out.size;omega) (by omega) (by omega) (by omega) hown' hgrow)
         have TL:=am (HTd.out.keepL (v':=.slice (some ⟨g',0,none⟩) (AP.length+1) cap') HRLd.out T.out.2.1 hgrow)
         have q3:=T.out.2.1.cell
         have q4:=T.out.2.1.frozen
         clear hown' hgrow
         refine wpAnyIn_ready (rs:=[12]) (by kernel_rfl) (by simp) ?_
         refine AllReadyIn.cons rfl (fun K hK=>?_) AllReadyIn.nil
         go_simp
         refine hK _ _ ?_
         clear hK K
         refine wpAnyIn_done (by kernel_rfl) ?_ _
         gi_wp2
         go_roundw
         case rel=>exact ⟨m+1,part ++ [(⟨wrap64 (ix+1),e,qv,(jd l1 qv).f2⟩:S48)],_,hlt2,by go_num,HR3,⟨by have:=HPL.out;rw [List.length_append,List.length_singleton];omega⟩,⟨by rw [← List.append_assoc,HAP.out];exact T.out.1⟩,⟨HKF.out.trans (((KeepsOthers.drew wr).trans T.out.2.2.1).from _)⟩,⟨HBd.out.trans T.out.2.2.2⟩,TL⟩
         case measure=>simp [intOf];omega
        ·go_simp
         refine hK _ _ ?_
         clear hK K
         refine wpAnyIn_take (i:=6) (v:=?_) rfl rfl (by kernel_rfl) (by kernel_rfl) (by kernel_rfl) (fun _ _ _ h=>h) ⟨Or.inl ⟨by rfl,?_⟩,fun _=>rfl⟩ ?_
         rotate_left
         ·exact sb
         refine wpAnyIn_take (i:=7) (v:=?_) rfl rfl (by kernel_rfl) (by kernel_rfl) (by kernel_rfl) (fun _ _ _ h=>h) ⟨Or.inl ⟨by rfl,?_⟩,fun _=>rfl⟩ ?_
         rotate_left
         ·exact sb
         refine wpAnyIn_ready (rs:=[0,8]) (by kernel_rfl) (by simp) ?_
         refine AllReadyIn.cons rfl (fun K hK=>?_) (AllReadyIn.cons rfl (fun K hK=>?_) AllReadyIn.nil)
         ·go_simp
          refine hK _ _ ?_
          clear hK K
          refine wpAnyIn_ready (rs:=[8]) (by kernel_rfl) (by simp) ?_
          refine AllReadyIn.cons rfl (fun K hK=>?_) AllReadyIn.nil
          go_simp
          refine hK _ _ ?_
          clear hK K
          refine wpAnyIn_take (i:=9) (v:=?_) rfl rfl (by kernel_rfl) (by kernel_rfl) (by kernel_rfl) (fun _ _ _ h=>h) ⟨Or.inl ⟨by rfl,?_⟩,fun _=>rfl⟩ ?_
          rotate_left
          ·exact sb
          refine wpAnyIn_ready (rs:=[10]) (by kernel_rfl) (by simp) ?_
          refine AllReadyIn.cons rfl (fun K hK=>?_) AllReadyIn.nil
          go_simp
          refine hK _ _ ?_
          clear hK K
          refine wpAnyIn_ready (rs:=[11]) (by kernel_rfl) (by simp) ?_
          refine AllReadyIn.cons rfl (fun K hK=>?_) AllReadyIn.nil
          refine ite_goal (by rfl) ?_
          refine jAc (wr.drew.alloc (.cells #[.int .i64 (wrap64 (ix+1)), .int .i64 e, .int .i64 qv, .int .i64 (jd l1 qv).f2] 48)) _ _ 28 rfl w.heap.size 48 ir (.agg #[(.int .i64 0),(.int .i64 0),(.int .i64 0),(.int .i64 0)]) 4 32 Try.underlying28 hir hz0 hz1 hz2 rfl (by decide) v _ _ rfl (HTd.out.row.alloc _) ⟨wr.drew.heap.size,0,none⟩ 1 1 [.int .i64 (wrap64 (ix+1)), .int .i64 e, .int .i64 qv, .int .i64 (jd l1 qv).f2] rfl rfl (jQb wr.drew _ _ _ _ _) (by simp [Value.oneCell']) (by have:=HLN.out;simp only [maxLen];omega) (by have:=HLN.out;omega) (by have:=HB.out.size;have:=HBd.out.size;have:=HBW.out.size;simp;omega) ?_
          intro v' w5 hown' hgrow
          refine hK _ _ ?_
          clear hK K
          obtain ⟨g',cap',rfl⟩:=ownsRow_succ hown'
          have T:=am (HTd.out.app (⟨wrap64 (ix+1),e,qv,(jd l1 qv).f2⟩:S48) (by have:=HB.out.size;have:=HBd.out.size;omega) (by omega) (by omega) (by omega) hown' hgrow)
          have TL:=am (HTd.out.keepL (v':=.slice (some ⟨g',0,none⟩) (AP.length+1) cap') HRLd.out T.out.2.1 hgrow)
          have q3:=T.out.2.1.cell
          have q4:=T.out.2.1.frozen
          clear hown' hgrow
          refine wpAnyIn_ready (rs:=[12]) (by kernel_rfl) (by simp) ?_
          refine AllReadyIn.cons rfl (fun K hK=>?_) AllReadyIn.nil
          go_simp
          refine hK _ _ ?_
          clear hK K
          refine wpAnyIn_done (by kernel_rfl) ?_ _
          gi_wp2
          go_roundw
          case rel=>exact ⟨m+1,part ++ [(⟨wrap64 (ix+1),e,qv,(jd l1 qv).f2⟩:S48)],_,hlt2,by go_num,HR3,⟨by have:=HPL.out;rw [List.length_append,List.length_singleton];omega⟩,⟨by rw [← List.append_assoc,HAP.out];exact T.out.1⟩,⟨HKF.out.trans (((KeepsOthers.drew wr).trans T.out.2.2.1).from _)⟩,⟨HBd.out.trans T.out.2.2.2⟩,TL⟩
          case measure=>simp [intOf];omega
         ·go_simp
          refine hK _ _ ?_
          clear hK K
          refine wpAnyIn_take (i:=9) (v:=?_) rfl rfl (by kernel_rfl) (by kernel_rfl) (by kernel_rfl) (fun _ _ _ h=>h) ⟨Or.inl ⟨by rfl,?_⟩,fun _=>rfl⟩ ?_
          rotate_left
          ·exact sb
          refine wpAnyIn_ready (rs:=[0,10]) (by kernel_rfl) (by simp) ?_
          refine AllReadyIn.cons rfl (fun K hK=>?_) (AllReadyIn.cons rfl (fun K hK=>?_) AllReadyIn.nil)
          ·go_simp
           refine hK _ _ ?_
           clear hK K
           refine wpAnyIn_ready (rs:=[10]) (by kernel_rfl) (by simp) ?_
           refine AllReadyIn.cons rfl (fun K hK=>?_) AllReadyIn.nil
           go_simp
           refine hK _ _ ?_
           clear hK K
           refine wpAnyIn_ready (rs:=[11]) (by kernel_rfl) (by simp) ?_
           refine AllReadyIn.cons rfl (fun K hK=>?_) AllReadyIn.nil
           refine ite_goal (by rfl) ?_
           refine jAc (wr.drew.alloc (.cells #[.int .i64 (wrap64 (ix+1)), .int .i64 e, .int .i64 qv, .int .i64 (jd l1 qv).f2] 48)) _ _ 28 rfl w.heap.size 48 ir (.agg #[(.int .i64 0),(.int .i64 0),(.int .i64 0),(.int .i64 0)]) 4 32 Try.underlying28 hir hz0 hz1 hz2 rfl (by decide) v _ _ rfl (HTd.out.row.alloc _) ⟨wr.drew.heap.size,0,none⟩ 1 1 [.int .i64 (wrap64 (ix+1)), .int .i64 e, .int .i64 qv, .int .i64 (jd l1 qv).f2] rfl rfl (jQb wr.drew _ _ _ _ _) (by simp [Value.oneCell']) (by have:=HLN.out;simp only [maxLen];omega) (by have:=HLN.out;omega) (by have:=HB.out.size;have:=HBd.out.size;have:=HBW.out.size;simp;omega) ?_
           intro v' w5 hown' hgrow
           refine hK _ _ ?_
           clear hK K
           obtain ⟨g',cap',rfl⟩:=ownsRow_succ hown'
           have T:=am (HTd.out.app (⟨wrap64 (ix+1),e,qv,(jd l1 qv).f2⟩:S48) (by have:=HB.out.size;have:=HBd.out.size;omega) (by omega) (by omega) (by omega) hown' hgrow)
           have TL:=am (HTd.out.keepL (v':=.slice (some ⟨g',0,none⟩) (AP.length+1) cap') HRLd.out T.out.2.1 hgrow)
           have q3:=T.out.2.1.cell
           have q4:=T.out.2.1.frozen
           clear hown' hgrow
           refine wpAnyIn_ready (rs:=[12]) (by kernel_rfl) (by simp) ?_
           refine AllReadyIn.cons rfl (fun K hK=>?_) AllReadyIn.nil
           go_simp
           refine hK _ _ ?_
           clear hK K
           refine wpAnyIn_done (by kernel_rfl) ?_ _
           gi_wp2
           go_roundw
           case rel=>exact ⟨m+1,part ++ [(⟨wrap64 (ix+1),e,qv,(jd l1 qv).f2⟩:S48)],_,hlt2,by go_num,HR3,⟨by have:=HPL.out;rw [List.length_append,List.length_singleton];omega⟩,⟨by rw [← List.append_assoc,HAP.out];exact T.out.1⟩,⟨HKF.out.trans (((KeepsOthers.drew wr).trans T.out.2.2.1).from _)⟩,⟨HBd.out.trans T.out.2.2.2⟩,TL⟩
           case measure=>simp [intOf];omega
          ·go_simp
           refine hK _ _ ?_
           clear hK K
           have cjA:((wr.alloc (.cells #[.int .i64 (wrap64 (ix+1)), .int .i64 e, .int .i64 qv, .int .i64 (jd l1 qv).f2] 48)).drew).cell? ⟨w1.heap.size+1,0,none⟩=some v:=(HT.out.bO.alloc _).cell
           refine wpAnyIn_ready (rs:=[0]) (by kernel_rfl) (by simp) ?_
           refine AllReadyIn.cons rfl (fun K hK=>?_) AllReadyIn.nil
           go_simp
           refine hK _ _ ?_
           clear hK K
           refine wpAnyIn_ready (rs:=[11]) (by kernel_rfl) (by simp) ?_
           refine AllReadyIn.cons rfl (fun K hK=>?_) AllReadyIn.nil
           refine ite_goal (by rfl) ?_
           refine jAc (wr.drew.alloc (.cells #[.int .i64 (wrap64 (ix+1)), .int .i64 e, .int .i64 qv, .int .i64 (jd l1 qv).f2] 48)) _ _ 28 rfl w.heap.size 48 ir (.agg #[(.int .i64 0),(.int .i64 0),(.int .i64 0),(.int .i64 0)]) 4 32 Try.underlying28 hir hz0 hz1 hz2 rfl (by decide) v _ _ rfl (HTd.out.row.alloc _) ⟨wr.drew.heap.size,0,none⟩ 1 1 [.int .i64 (wrap64 (ix+1)), .int .i64 e, .int .i64 qv, .int .i64 (jd l1 qv).f2] rfl rfl (jQb wr.drew _ _ _ _ _) (by simp [Value.oneCell']) (by have:=HLN.out;simp only [maxLen];omega) (by have:=HLN.out;omega) (by have:=HB.out.size;have:=HBd.out.size;have:=HBW.out.size;simp;omega) ?_
           intro v' w5 hown' hgrow
           refine hK _ _ ?_
           clear hK K
           obtain ⟨g',cap',rfl⟩:=ownsRow_succ hown'
           have T:=am (HTd.out.app (⟨wrap64 (ix+1),e,qv,(jd l1 qv).f2⟩:S48) (by have:=HB.out.size;have:=HBd.out.size;omega) (by omega) (by omega) (by omega) hown' hgrow)
           have TL:=am (HTd.out.keepL (v':=.slice (some ⟨g',0,none⟩) (AP.length+1) cap') HRLd.out T.out.2.1 hgrow)
           have q3:=T.out.2.1.cell
           have q4:=T.out.2.1.frozen
           clear hown' hgrow
           refine wpAnyIn_ready (rs:=[12]) (by kernel_rfl) (by simp) ?_
           refine AllReadyIn.cons rfl (fun K hK=>?_) AllReadyIn.nil
           go_simp
           refine hK _ _ ?_
           clear hK K
           refine wpAnyIn_done (by kernel_rfl) ?_ _
           gi_wp2
           go_roundw
           case rel=>exact ⟨m+1,part ++ [(⟨wrap64 (ix+1),e,qv,(jd l1 qv).f2⟩:S48)],_,hlt2,by go_num,HR3,⟨by have:=HPL.out;rw [List.length_append,List.length_singleton];omega⟩,⟨by rw [← List.append_assoc,HAP.out];exact T.out.1⟩,⟨HKF.out.trans (((KeepsOthers.drew wr).trans T.out.2.2.1).from _)⟩,⟨HBd.out.trans T.out.2.2.2⟩,TL⟩
           case measure=>simp [intOf];omega
       ·rw [if_neg k8] at hr4
        have k8b:((jd l1 qv).f1 == 8)=false:=by simpa using k8
        have HR3:=am (show ∃ rest,jH.rows l1 ix e (L.drop (m+1))=some rest∧part ++ rest=rw_ from ⟨rest2,hr3,by rw [← hr2',hr4]⟩)
        clear hr2' hr3 hr4 k8
        gi_wp2
        go_roundw
        case rel=>exact ⟨m+1,part,v,hlt2,by go_num,HR3,⟨by have:=HPL.out;omega⟩,HT,HKF,HBW,HRL⟩
        case measure=>simp [intOf];omega
      ·obtain rfl:m=L.length:=by omega
       obtain ⟨rest,hr1',hr2'⟩:=HRS.out
       rw [List.drop_of_length_le (Nat.le_refl _)] at hr1'
       obtain rfl:=Option.some.inj hr1'
       rw [List.append_nil] at hr2'
       subst hr2'
       gi_wp2
       exact FIN.out _ _ HT.out HKF.out HBW.out (fun _=>HT.out.bS)
    ·have k7b:(x.f1 == 7)=false:=by simpa using k7
     rw [if_neg (fun h=>k11 h.1),if_neg k7] at hrow
     obtain rfl:=Option.some.inj hrow
     clear hrow
     gi_wp2_with (first |(refine ⟨trivial,?_⟩;gi_at_call 34;refine (CallsIn.inRound l (callsIn_wide.2 (KE.out _ HB.out))).mono ?_;clear KE;rintro e w' ⟨rfl,⟨n0,rfl⟩⟩;have hbd:=am (show Below W.heap.size W (W.drewN n0) from jv (Below.refl _ _) _)) |(refine ⟨trivial,?_⟩))
     exact FIN.out _ _ (by rw [List.append_nil];exact J0.out.below hbd.out) (KeepsFrom.of_belowL hbd.out _) (hbd.out.mono HB.out.size) (fun h=>Boxed.liesL h hbd.out)
  case done =>
   rintro D ys W hD rfl ⟨⟨⟨i1,iS⟩,vO,iO,iR,_⟩,hB⟩ hK
   rw [HR.out] at iR
   have HV:=am (ownsRow_R iR hK)
   have HB:=am hB
   have HK:=am hK
   have cO:=iO.cell
   clear iR hB hK i1 iS
   gi_wp2_with (refine ⟨trivial,?_⟩;gi_at_call 36;refine (callsIn_wide.2 (jec.calls (fun k=>k≠D) vO r r w W HB.out HV.out (show jec.f r=some r from rfl))).mono ?_;rintro e W2 ⟨v0,rfl,hR,hB2,hKp⟩)
   have hKD:W2.heap[D]?=some (.deferred (some [])):=(hKp.2 D (Array.getElem?_eq_some_iff.1 HK.out).1 (fun h=>h rfl)).trans HK.out
   refine ⟨by simp, .inl ⟨_,_,rfl,run_takeDeferred hKD,?_⟩⟩
   refine ⟨_,results_tmp rfl _ _ _,v0,rfl,Kd.jI (Kd.R_step hR (fun k hk hlt=>(grownBy_putObj' W2 D (.deferred none)).block k hlt (fun e=>?_))) (fun _ _=>trivial),hB2.trans (belowK_b (w:=w) (Nat.le_refl _) W2 D _ _ (by omega) hKD rfl rfl)⟩
   have hDlt:=(Array.getElem?_eq_some_iff.1 HK.out).1
   rcases hk with hk | hk
   ·exact hk (by simpa using e)
   ·have:k=D:=by simpa using e
    omega
  case stop =>
   rintro D c pre W _ _ h _
   exact h.elim
end
def jc (w0 W : World) (g : Nat) (f0 : List Int) (f1 : Int) : Prop := ∃ A0 c0, W.heap[g]? = some (.cells #[.slice A0 f0.length c0, .int .i64 f1] 106 (0, 0)) ∧ w0.heap.size ≤ g ∧ Kd.C (Kd.int .u8) w0 A0 f0.length f0
theorem jc.grown {w0 W : World} {g : Nat} {f0 : List Int} {f1 : Int} {W1 : World} {row : Option Nat} (h : jc w0 W g f0 f1) (hw : W.grownBy W1 row) (hne : some g ≠ row) : jc w0 W1 g f0 f1 := by
 obtain ⟨A0,c0,hb,hg,hr0⟩:=h
 exact ⟨A0,c0,jPa hb hw hne,hg,hr0⟩
theorem jc.kept {w0 W : World} {g : Nat} {f0 : List Int} {f1 : Int} {W1 : World} {S : Nat → Prop} (h : jc w0 W g f0 f1) (hk : Kept W W1 S) (hne : ¬ S g) : jc w0 W1 g f0 f1 := by
 obtain ⟨A0,c0,hb,hg,hr0⟩:=h
 exact ⟨A0,c0,blk_kept hb hk hne,hg,hr0⟩
theorem jc.below {w0 W : World} {g : Nat} {f0 : List Int} {f1 : Int} {W1 : World} (h : jc w0 W g f0 f1) (hw : Below W.heap.size W W1) : jc w0 W1 g f0 f1 := h.grown (grown_of_below hw none) (by simp)
theorem jc.alloc {w0 W : World} {g : Nat} {f0 : List Int} {f1 : Int} (h : jc w0 W g f0 f1) (o : Obj) : jc w0 (W.alloc o) g f0 f1 := h.below (jU (Below.refl _ _) o)
theorem jc.drewN {w0 W : World} {g : Nat} {f0 : List Int} {f1 : Int} (h : jc w0 W g f0 f1) (m : Nat) : jc w0 (W.drewN m) g f0 f1 := h
theorem jc.drew {w0 W : World} {g : Nat} {f0 : List Int} {f1 : Int} (h : jc w0 W g f0 f1) : jc w0 W.drew g f0 f1 := h
theorem jc.at_ {w0 W : World} {g : Nat} {f0 : List Int} {f1 : Int} {w' : World} {m : Nat} (hq : W.drewN m = w') (h : jc w0 W g f0 f1) : jc w0 w' g f0 f1 := by subst hq; exact jc.drewN h m
theorem jc.apart {w0 W : World} {g : Nat} {f0 : List Int} {f1 : Int} {α : Type} {d : Kd α} {e : Nat} {base : Nat} {ok : Nat → Prop} {v : Value} {xs : List α} (h : jc w0 W g f0 f1) (ho : d.R e W base ok v xs) (ht : ∀ q, q ∈ e :: d.E → q ≠ 106) : d.R e W base (fun k => ok k ∧ k ≠ g) v xs := by
 obtain ⟨A0,c0,hb,hg,hr0⟩:=h
 exact Kd.jIa ho hb ht
theorem jc.own_ne {w0 W : World} {g : Nat} {f0 : List Int} {f1 : Int} {α : Type} {d : Kd α} {e : Nat} {base : Nat} {ok : Nat → Prop} {v : Value} {xs : List α} (h : jc w0 W g f0 f1) (ho : d.R e W base ok v xs) (ht : e ≠ 106) : some g ≠ v.ownBlock := by
 obtain ⟨A0,c0,hb,hg,hr0⟩:=h
 exact Kd.R_ne ho hb ht
theorem jc.lt {w0 W : World} {g : Nat} {f0 : List Int} {f1 : Int} (h : jc w0 W g f0 f1) : g < W.heap.size := by
 obtain ⟨A0,c0,hb,hg,hr0⟩:=h
 exact jtb hb
theorem jc.ge {w0 W : World} {g : Nat} {f0 : List Int} {f1 : Int} (h : jc w0 W g f0 f1) : w0.heap.size ≤ g := by
 obtain ⟨A0,c0,hb,hg,hr0⟩:=h
 exact hg
theorem jc.ne_blk {w0 W : World} {g : Nat} {f0 : List Int} {f1 : Int} {a : Nat} {cs : Array Value} {t : TypeId} {fr : Nat × Nat} (h : jc w0 W g f0 f1) (hb2 : W.heap[a]? = some (.cells cs t fr)) (ht : t ≠ 106) : g ≠ a := by
 obtain ⟨A0,c0,hb,hg,hr0⟩:=h
 rintro rfl
 rw [hb] at hb2
 injection hb2 with hb2
 injection hb2 with _ ht2
 exact ht ht2.symm
theorem jc.far {w0 W : World} {g : Nat} {f0 : List Int} {f1 : Int} {p : Addr} (h : jc w0 W g f0 f1) (hne : g ≠ p.block) (u : Value) : jc w0 (W.setCell p u) g f0 f1 := by
 obtain ⟨A0,c0,hb,hg,hr0⟩:=h
 exact ⟨A0,c0,jcb hb hne u,hg,hr0⟩
theorem cellS106_0 {W : World} {g : Nat} {A0 : Option Addr} {c0 : Nat} {f0 : List Int} {f1 : Int} (h : W.heap[g]? = some (.cells #[.slice A0 f0.length c0, .int .i64 f1] 106 (0, 0))) : W.cell? ⟨g, 0, none⟩ = some (.slice A0 f0.length c0) := (jK h 0).trans rfl
theorem cellS106_1 {W : World} {g : Nat} {A0 : Option Addr} {c0 : Nat} {f0 : List Int} {f1 : Int} (h : W.heap[g]? = some (.cells #[.slice A0 f0.length c0, .int .i64 f1] 106 (0, 0))) : W.cell? ⟨g, 1, none⟩ = some (.int .i64 f1) := (jK h 1).trans rfl
theorem jc.jZb {w0 W : World} {g : Nat} {f0 : List Int} {f1 : Int} (h : jc w0 W g f0 f1) (x : Int) : jc w0 (W.setCell ⟨g, 1, none⟩ (.int .i64 x)) g f0 x := by
 obtain ⟨A0,c0,hb,hg,hr0⟩:=h
 exact ⟨A0,c0,by simpa using blk_set hb 1 (.int .i64 x),hg,hr0⟩
theorem jc.new (w0 W : World) (A0 : Option Addr) (c0 : Nat) (f0 : List Int) (f1 : Int) (hB : Below w0.heap.size w0 W) (hr0 : Kd.C (Kd.int .u8) w0 A0 f0.length f0) : jc w0 (W.alloc (.cells #[.slice A0 f0.length c0, .int .i64 f1] 106)) W.heap.size f0 f1 := ⟨A0, c0, by simpa using heap_alloc_new W _, hB.size, hr0⟩
def jf.j0 : Nat → Int → Bool → List Int → Int → Option (Int × Int)
 | 0,_,_,_,_=>none
 | k+1,x1,x24,x1000,x1001=>if x24=true then (some (0,x1001)) else (if (wrap64 (x1001 - 1))<(x1000.length:Int) then (if 0≤(wrap64 (x1001 - 1)) then (if x1=0 then (none) else (some (Int.tmod (wrap64 (rd x1000 (wrap64 (x1001 - 1)))) x1,x1001))) else (none)) else (if (x1000.length:Int)=0 then (none) else (if 0≤(Int.tmod (wrap64 (x1001 - 1)) (x1000.length:Int)) then (if (Int.tmod (wrap64 (x1001 - 1)) (x1000.length:Int))<(x1000.length:Int) then (if 0≤(Int.tmod (wrap64 ((wrap64 ((wrap64 (x1001 - 1)) * 7))+3)) (x1000.length:Int)) then (if (Int.tmod (wrap64 ((wrap64 ((wrap64 (x1001 - 1)) * 7))+3)) (x1000.length:Int))<(x1000.length:Int) then (if x1=0 then (none) else (some (Int.tmod (Go.bits .xor .i64 (wrap64 ((wrap64 ((wrap64 ((wrap64 ((wrap64 (rd x1000 (Int.tmod (wrap64 (x1001 - 1)) (x1000.length:Int)))) * 131))+(wrap64 ((wrap64 (rd x1000 (Int.tmod (wrap64 ((wrap64 ((wrap64 (x1001 - 1)) * 7))+3)) (x1000.length:Int)))) * 1117))))+(wrap64 ((wrap64 (x1001 - 1)) * 29))))+(wrap64 ((wrap64 (Int.tdiv (wrap64 (x1001 - 1)) (x1000.length:Int))) * 53)))) (wrap64 (Int.tdiv (wrap64 ((wrap64 ((wrap64 ((wrap64 ((wrap64 (rd x1000 (Int.tmod (wrap64 (x1001 - 1)) (x1000.length:Int)))) * 131))+(wrap64 ((wrap64 (rd x1000 (Int.tmod (wrap64 ((wrap64 ((wrap64 (x1001 - 1)) * 7))+3)) (x1000.length:Int)))) * 1117))))+(wrap64 ((wrap64 (x1001 - 1)) * 29))))+(wrap64 ((wrap64 (Int.tdiv (wrap64 (x1001 - 1)) (x1000.length:Int))) * 53)))) 64))) x1,x1001))) else (none)) else (none)) else (none)) else (none))))
def jf.f (k : Nat) (s0_0 : List Int) (s0_1 : Int) (a1 : Int) : Option (Int × Int) := if a1 < 1 then (jf.j0 k a1 true s0_0 (wrap64 (s0_1 + 1))) else (jf.j0 k a1 ((s0_0.length : Int) == 0) s0_0 (wrap64 (s0_1 + 1)))
set_option maxHeartbeats 8000000 in
set_option maxRecDepth 100000 in
theorem jf.calls (k : Nat) (g : Nat) (s0_0 : List Int) (s0_1 : Int) (a1 : Int) (r1 : Int) (r2 : Int) (w0 w : World) (hI : jc w0 w g s0_0 s0_1) (hB : Below w0.heap.size w0 w) (h : jf.f k s0_0 s0_1 a1 = some (r1, r2)) :
  Calls Try.prog 55 #[.pointer (some ⟨g,0,none⟩), .int .i64 a1] w fun e w'=>e=.returned (.int .i64 r1)∧jc w0 w' g s0_0 r2∧Below w0.heap.size w0 w'∧jb w w' g none:=by
 have HI0:=am hI
 have HK:=am (jb.refl w g none)
 have HL:=am hB.size
 clear hI
 have HW0:=am hB.size
 have HB:=am hB
 clear hB
 have H:(if a1<1 then (jf.j0 k a1 true s0_0 (wrap64 (s0_1+1))) else (jf.j0 k a1 ((s0_0.length:Int) == 0) s0_0 (wrap64 (s0_1+1))))=some (r1,r2):=h
 clear h
 have HC3:=am H
 clear H
 obtain ⟨ASz4_0,cSz4_0,HGz4,hgz4,HSz4_0⟩:=HI0.out
 have hcz4_0:=cellS106_0 HGz4
 have hcz4_1:=cellS106_1 HGz4
 have hfz4_1:=ja HGz4 1
 clear HGz4 hgz4
 go_enter Try.func55,Try.ntmps55
 go_upto_region 2 with (fail)
 repeat (go_quiet (fail);go_upto_region 2 with (fail))
 go_cut [24] (fun v24 wc=>∃ (kq:Nat) (x24_2:Bool),v24=.bool x24_2∧jl (jf.j0 kq a1 x24_2 s0_0 (wrap64 (s0_1+1))=some (r1,r2))∧jl (kq≤k)∧jl (jc w0 wc g s0_0 (wrap64 (s0_1+1)))∧jl (jb w wc g none)∧jl (Below w0.heap.size w0 wc))
 case first =>
  have H:=HC3.out
  clear HC3
  by_cases c5:a1<1
  ·rw [if_pos c5] at H
   have c5b0:decide (a1<1)=true:=dzT c5
   clear c5
   (first | rw [c5b0] |(simp only [jeb,jhb];rw [c5b0]) | skip)
   have H':=am H
   clear H
   go_wp2
   repeat (go_quiet (fail);try go_wp2)
   go_meet
   case rel=>exact ⟨_,(true),(sq),H',⟨Y41⟩,⟨Y16⟩,⟨Y17⟩,⟨Y18⟩⟩
  ·rw [if_neg c5] at H
   have c5b0:decide (a1<1)=false:=dzF c5
   clear c5
   (first | rw [c5b0] |(simp only [jeb,jhb];rw [c5b0]) | skip)
   have H':=am H
   clear H
   obtain ⟨ASz6_0,cSz6_0,HGz6,hgz6,HSz6_0⟩:=HI0.out
   have hcz6_0:=cellS106_0 HGz6
   have hcz6_1:=cellS106_1 HGz6
   have hfz6_1:=ja HGz6 1
   clear HGz6 hgz6
   go_wp2
   repeat (go_quiet (fail);try go_wp2)
   go_meet
   case rel=>exact ⟨_,(((s0_0.length:Int) == 0)),(sq),H',⟨Y41⟩,⟨Y16⟩,⟨Y17⟩,⟨Y18⟩⟩
 case rest =>
  clear HC3
  try clear p2
  try clear c5
  try clear c5b0
  try clear p6
  try clear hcz4_0
  try clear hcz4_1
  try clear hcz6_0
  try clear hcz6_1
  try clear hfz4_1
  try clear hfz6_1
  obtain ⟨kq,x24_2,rfl,HA,HJ2,HI0,HK,HB⟩:=hcut
  cases kq with
  | zero=>exact absurd HA.out (by simp [jf.j0])
  | succ kj2 =>
   have H:=HA.out
   clear HA
   simp only [jf.j0] at H
   by_cases c7:x24_2=true
   ·subst c7
    have H1:(some (0,(wrap64 (s0_1+1))))=some (r1,r2):=by rw [if_pos rfl] at H;exact H
    clear H
    have H:=H1
    clear H1
    simp only [Option.some.injEq,Prod.mk.injEq] at H
    obtain ⟨rfl,rfl⟩:=H
    go_wp2
    repeat (go_quiet (fail);try go_wp2)
    go_ret
    exact ⟨Y0,Y16,Y18,Y17⟩
   ·replace c7:=Bool.eq_false_iff.mpr c7
    subst c7
    have H1:(if (wrap64 ((wrap64 (s0_1+1)) - 1))<(s0_0.length:Int) then (if 0≤(wrap64 ((wrap64 (s0_1+1)) - 1)) then (if a1=0 then (none) else (some (Int.tmod (wrap64 (rd s0_0 (wrap64 ((wrap64 (s0_1+1)) - 1)))) a1,(wrap64 (s0_1+1))))) else (none)) else (if (s0_0.length:Int)=0 then (none) else (if 0≤(Int.tmod (wrap64 ((wrap64 (s0_1+1)) - 1)) (s0_0.length:Int)) then (if (Int.tmod (wrap64 ((wrap64 (s0_1+1)) - 1)) (s0_0.length:Int))<(s0_0.length:Int) then (if 0≤(Int.tmod (wrap64 ((wrap64 ((wrap64 ((wrap64 (s0_1+1)) - 1)) * 7))+3)) (s0_0.length:Int)) then (if (Int.tmod (wrap64 ((wrap64 ((wrap64 ((wrap64 (s0_1+1)) - 1)) * 7))+3)) (s0_0.length:Int))<(s0_0.length:Int) then (if a1=0 then (none) else (some (Int.tmod (Go.bits .xor .i64 (wrap64 ((wrap64 ((wrap64 ((wrap64 ((wrap64 (rd s0_0 (Int.tmod (wrap64 ((wrap64 (s0_1+1)) - 1)) (s0_0.length:Int)))) * 131))+(wrap64 ((wrap64 (rd s0_0 (Int.tmod (wrap64 ((wrap64 ((wrap64 ((wrap64 (s0_1+1)) - 1)) * 7))+3)) (s0_0.length:Int)))) * 1117))))+(wrap64 ((wrap64 ((wrap64 (s0_1+1)) - 1)) * 29))))+(wrap64 ((wrap64 (Int.tdiv (wrap64 ((wrap64 (s0_1+1)) - 1)) (s0_0.length:Int))) * 53)))) (wrap64 (Int.tdiv (wrap64 ((wrap64 ((wrap64 ((wrap64 ((wrap64 (rd s0_0 (Int.tmod (wrap64 ((wrap64 (s0_1+1)) - 1)) (s0_0.length:Int)))) * 131))+(wrap64 ((wrap64 (rd s0_0 (Int.tmod (wrap64 ((wrap64 ((wrap64 ((wrap64 (s0_1+1)) - 1)) * 7))+3)) (s0_0.length:Int)))) * 1117))))+(wrap64 ((wrap64 ((wrap64 (s0_1+1)) - 1)) * 29))))+(wrap64 ((wrap64 (Int.tdiv (wrap64 ((wrap64 (s0_1+1)) - 1)) (s0_0.length:Int))) * 53)))) 64))) a1,(wrap64 (s0_1+1))))) else (none)) else (none)) else (none)) else (none))))=some (r1,r2):=by rw [if_neg (show ¬ (false=true) by decide)] at H;exact H
    clear H
    have H:=H1
    clear H1
    by_cases c8:(wrap64 ((wrap64 (s0_1+1)) - 1))<(s0_0.length:Int)
    ·rw [if_pos c8] at H
     have c8b0:decide ((wrap64 ((wrap64 (s0_1+1)) - 1))<(s0_0.length:Int))=true:=dzT c8
     clear c8
     obtain ⟨ji9,hji9⟩:∃ j_:Int,(wrap64 ((wrap64 (s0_1+1)) - 1))=j_:=⟨_,rfl⟩
     replace H:(if 0≤(ji9) then (if a1=0 then (none) else (some (Int.tmod (wrap64 (rd s0_0 (ji9))) a1,(wrap64 (s0_1+1))))) else (none))=some (r1,r2):=by first |(rw [hji9] at H;exact H) |(simp only [hji9] at H ⊢;exact H)
     (try rw [hji9] at c8b0)
     have hji9w:(IntKind.i64.wrap ((wrap64 (s0_1+1)) - 1))=ji9:=(jeb _).trans hji9
     by_cases c10:0≤(ji9)
     ·rw [if_pos c10] at H
      have c10b0:decide (0≤(ji9))=true:=dzT c10
      clear c10
      by_cases c11:a1=0
      ·rw [if_pos c11] at H
       exact absurd H (by simp)
      ·rw [if_neg c11] at H
       have c11b0:(a1 == 0)=false:=beq_eq_false_iff_ne.mpr c11
       have c11b1:(a1 != 0)=true:=bne_iff_ne.mpr c11
       simp only [Option.some.injEq,Prod.mk.injEq] at H
       obtain ⟨rfl,rfl⟩:=H
       obtain ⟨ASz12_0,cSz12_0,HGz12,hgz12,HSz12_0⟩:=HI0.out
       have hcz12_0:=cellS106_0 HGz12
       have hcz12_1:=cellS106_1 HGz12
       have hfz12_1:=ja HGz12 1
       clear HGz12 hgz12
       have p364:0≤((ji9):Int):=ozD (uq)
       have q364:(ji9)<(s0_0.length:Int):=ozD (uq)
       obtain ⟨ad364,e364,hx364_0⟩:=Kd.jyb HSz12_0 (ji9) p364 q364
       cases e364
       replace hx364_0:=jta HB.out hx364_0
       replace p364:=ezT p364
       replace q364:=ezT q364
       go_wp2
       repeat (go_quiet (fail);try go_wp2)
       go_ret
       exact ⟨by first | rfl |(simp [jXb,jWb] <;> rfl) |(simp only [← hji9];first | rfl |(simp [jXb,jWb] <;> rfl)) |(simp [*,jXb,jWb] <;> rfl),Y16,Y18,Y17⟩
     ·rw [if_neg c10] at H
      exact absurd H (by simp)
    ·rw [if_neg c8] at H
     have c8b0:decide ((wrap64 ((wrap64 (s0_1+1)) - 1))<(s0_0.length:Int))=false:=dzF c8
     clear c8
     by_cases c13:(s0_0.length:Int)=0
     ·rw [if_pos c13] at H
      exact absurd H (by simp)
     ·rw [if_neg c13] at H
      have c13b0:((s0_0.length:Int) == 0)=false:=beq_eq_false_iff_ne.mpr c13
      have c13b1:((s0_0.length:Int) != 0)=true:=bne_iff_ne.mpr c13
      have c13b2:¬ (s0_0=[]):=fun h_=>c13 (by rw [h_];rfl)
      obtain ⟨ji14,hji14⟩:∃ j_:Int,(Int.tmod (wrap64 ((wrap64 (s0_1+1)) - 1)) (s0_0.length:Int))=j_:=⟨_,rfl⟩
      replace H:(if 0≤(ji14) then (if (ji14)<(s0_0.length:Int) then (if 0≤(Int.tmod (wrap64 ((wrap64 ((wrap64 ((wrap64 (s0_1+1)) - 1)) * 7))+3)) (s0_0.length:Int)) then (if (Int.tmod (wrap64 ((wrap64 ((wrap64 ((wrap64 (s0_1+1)) - 1)) * 7))+3)) (s0_0.length:Int))<(s0_0.length:Int) then (if a1=0 then (none) else (some (Int.tmod (Go.bits .xor .i64 (wrap64 ((wrap64 ((wrap64 ((wrap64 ((wrap64 (rd s0_0 (ji14))) * 131))+(wrap64 ((wrap64 (rd s0_0 (Int.tmod (wrap64 ((wrap64 ((wrap64 ((wrap64 (s0_1+1)) - 1)) * 7))+3)) (s0_0.length:Int)))) * 1117))))+(wrap64 ((wrap64 ((wrap64 (s0_1+1)) - 1)) * 29))))+(wrap64 ((wrap64 (Int.tdiv (wrap64 ((wrap64 (s0_1+1)) - 1)) (s0_0.length:Int))) * 53)))) (wrap64 (Int.tdiv (wrap64 ((wrap64 ((wrap64 ((wrap64 ((wrap64 (rd s0_0 (ji14))) * 131))+(wrap64 ((wrap64 (rd s0_0 (Int.tmod (wrap64 ((wrap64 ((wrap64 ((wrap64 (s0_1+1)) - 1)) * 7))+3)) (s0_0.length:Int)))) * 1117))))+(wrap64 ((wrap64 ((wrap64 (s0_1+1)) - 1)) * 29))))+(wrap64 ((wrap64 (Int.tdiv (wrap64 ((wrap64 (s0_1+1)) - 1)) (s0_0.length:Int))) * 53)))) 64))) a1,(wrap64 (s0_1+1))))) else (none)) else (none)) else (none)) else (none))=some (r1,r2):=by first |(rw [hji14] at H;exact H) |(simp only [hji14] at H ⊢;exact H)
      by_cases c15:0≤(ji14)
      ·rw [if_pos c15] at H
       have c15b0:decide (0≤(ji14))=true:=dzT c15
       clear c15
       by_cases c16:(ji14)<(s0_0.length:Int)
       ·rw [if_pos c16] at H
        have c16b0:decide ((ji14)<(s0_0.length:Int))=true:=dzT c16
        clear c16
        obtain ⟨ji17,hji17⟩:∃ j_:Int,(Int.tmod (wrap64 ((wrap64 ((wrap64 ((wrap64 (s0_1+1)) - 1)) * 7))+3)) (s0_0.length:Int))=j_:=⟨_,rfl⟩
        replace H:(if 0≤(ji17) then (if (ji17)<(s0_0.length:Int) then (if a1=0 then (none) else (some (Int.tmod (Go.bits .xor .i64 (wrap64 ((wrap64 ((wrap64 ((wrap64 ((wrap64 (rd s0_0 (ji14))) * 131))+(wrap64 ((wrap64 (rd s0_0 (ji17))) * 1117))))+(wrap64 ((wrap64 ((wrap64 (s0_1+1)) - 1)) * 29))))+(wrap64 ((wrap64 (Int.tdiv (wrap64 ((wrap64 (s0_1+1)) - 1)) (s0_0.length:Int))) * 53)))) (wrap64 (Int.tdiv (wrap64 ((wrap64 ((wrap64 ((wrap64 ((wrap64 (rd s0_0 (ji14))) * 131))+(wrap64 ((wrap64 (rd s0_0 (ji17))) * 1117))))+(wrap64 ((wrap64 ((wrap64 (s0_1+1)) - 1)) * 29))))+(wrap64 ((wrap64 (Int.tdiv (wrap64 ((wrap64 (s0_1+1)) - 1)) (s0_0.length:Int))) * 53)))) 64))) a1,(wrap64 (s0_1+1))))) else (none)) else (none))=some (r1,r2):=by first |(rw [hji17] at H;exact H) |(simp only [hji17] at H ⊢;exact H)
        by_cases c18:0≤(ji17)
        ·rw [if_pos c18] at H
         have c18b0:decide (0≤(ji17))=true:=dzT c18
         clear c18
         by_cases c19:(ji17)<(s0_0.length:Int)
         ·rw [if_pos c19] at H
          have c19b0:decide ((ji17)<(s0_0.length:Int))=true:=dzT c19
          clear c19
          by_cases c20:a1=0
          ·rw [if_pos c20] at H
           exact absurd H (by simp)
          ·rw [if_neg c20] at H
           have c20b0:(a1 == 0)=false:=beq_eq_false_iff_ne.mpr c20
           have c20b1:(a1 != 0)=true:=bne_iff_ne.mpr c20
           simp only [Option.some.injEq,Prod.mk.injEq] at H
           obtain ⟨rfl,rfl⟩:=H
           obtain ⟨ASz21_0,cSz21_0,HGz21,hgz21,HSz21_0⟩:=HI0.out
           have hcz21_0:=cellS106_0 HGz21
           have hcz21_1:=cellS106_1 HGz21
           have hfz21_1:=ja HGz21 1
           clear HGz21 hgz21
           have p365:0≤((ji14):Int):=ozD (uq)
           have q365:(ji14)<(s0_0.length:Int):=ozD (uq)
           obtain ⟨ad365,e365,hx365_0⟩:=Kd.jyb HSz21_0 (ji14) p365 q365
           cases e365
           replace hx365_0:=jta HB.out hx365_0
           replace p365:=ezT p365
           replace q365:=ezT q365
           have p366:0≤((ji17):Int):=ozD (uq)
           have q366:(ji17)<(s0_0.length:Int):=ozD (uq)
           obtain ⟨ad366,e366,hx366_0⟩:=Kd.jyb HSz21_0 (ji17) p366 q366
           obtain rfl:ad365=ad366:=(by injection e366)
           replace hx366_0:=jta HB.out hx366_0
           replace p366:=ezT p366
           replace q366:=ezT q366
           go_wp2
           repeat (go_quiet (fail);try go_wp2)
           go_ret
           exact ⟨by first | rfl |(simp [jXb,jWb] <;> rfl) |(simp only [← hji14,← hji17];first | rfl |(simp [jXb,jWb] <;> rfl)) |(simp [*,jXb,jWb] <;> rfl),Y16,Y18,Y17⟩
         ·rw [if_neg c19] at H
          exact absurd H (by simp)
        ·rw [if_neg c18] at H
         exact absurd H (by simp)
       ·rw [if_neg c16] at H
        exact absurd H (by simp)
      ·rw [if_neg c15] at H
       exact absurd H (by simp)
def jh.f (k : Nat) (s0_0 : List Int) (s0_1 : Int) (l1 : List Int) : Option (Int × Int) := (jf.f k s0_0 s0_1 (l1.length : Int)).bind fun bt367 => (if 0 ≤ bt367.1 then (if bt367.1 < (l1.length : Int) then (some (rd l1 bt367.1, bt367.2)) else (none)) else (none))
set_option maxHeartbeats 8000000 in
set_option maxRecDepth 100000 in
theorem jh.calls (k : Nat) (g : Nat) (s0_0 : List Int) (s0_1 : Int) (A1 : Option Addr) (c1 : Nat) (l1 : List Int) (r1 : Int) (r2 : Int) (w0 w : World) (hI : jc w0 w g s0_0 s0_1) (hB : Below w0.heap.size w0 w) (hr1 : Kd.C (Kd.int .i64) w A1 l1.length l1) (hc1 : l1.length ≤ c1) (hf1 : ∀ ad, A1 = some ad → 0 < l1.length → ad.block ≠ g) (h : jh.f k s0_0 s0_1 l1 = some (r1, r2)) :
  Calls Try.prog 56 #[.pointer (some ⟨g,0,none⟩), .slice A1 l1.length c1] w fun e w'=>e=.returned (.int .i64 r1)∧jc w0 w' g s0_0 r2∧Below w0.heap.size w0 w'∧jb w w' g none:=by
 have HR1:=am hr1
 have HC1:=am hc1
 clear hr1 hc1
 have HI0:=am hI
 have HK:=am (jb.refl w g none)
 have HL:=am hB.size
 clear hI
 have HW0:=am hB.size
 have HB:=am hB
 clear hB
 have H:((jf.f k s0_0 s0_1 (l1.length:Int)).bind fun bt367=>(if 0≤bt367.1 then (if bt367.1<(l1.length:Int) then (some (rd l1 bt367.1,bt367.2)) else (none)) else (none)))=some (r1,r2):=h
 clear h
 replace H:=bzS H
 obtain ⟨⟨t367,t368⟩,A30,H⟩:=H
 replace H:(if 0≤t367 then (if t367<(l1.length:Int) then (some (rd l1 t367,t368)) else (none)) else (none))=some (r1,r2):=H
 have A3:=am A30
 clear A30
 by_cases c4:0≤t367
 ·rw [if_pos c4] at H
  have c4b0:decide (0≤t367)=true:=dzT c4
  clear c4
  by_cases c5:t367<(l1.length:Int)
  ·rw [if_pos c5] at H
   have c5b0:decide (t367<(l1.length:Int))=true:=dzT c5
   clear c5
   simp only [Option.some.injEq,Prod.mk.injEq] at H
   obtain ⟨rfl,rfl⟩:=H
   go_enter Try.func56,Try.ntmps56
   go_wp2_with (first |((with_reducible refine jg (f:=55) rfl ?_);refine gL (some 9) Try.func55 #[.pointer (some ⟨g,0,none⟩), .int .i64 (l1.length:Int)] ?_;(with_reducible refine (jf.calls k g s0_0 s0_1 (l1.length:Int) t367 t368 w0 _ ?side1 ?side2 A3.out).mono ?_);(case side1=>exact Y16);(case side2=>exact Y18);rintro e w6 ⟨rfl,hi,hb,hk⟩;refine ⟨_,rfl,?_⟩;replace HK:=am (jb.trans (Y17) hk (.inl rfl));replace HB:=am (hb);replace HI0:=am (hi);(try clear hb);(try clear hb2);(try clear hk);(try clear hi);have p369:0≤(t367:Int):=ozD (uq);have q369:t367<(l1.length:Int):=ozD (uq);obtain ⟨ad369,e369,hx369_0⟩:=Kd.jyb HR1.out t367 p369 q369;cases e369;replace hx369_0:=keep_cell HK.out hx369_0 (by first |(rw [add_block];exact hf1 _ rfl (by omega)) | exact hf1 _ rfl (by omega) | exact hf1 ad369 rfl (by omega));replace p369:=ezT p369;replace q369:=ezT q369))
   go_ret
   exact ⟨Y0,Y16,Y18,Y17⟩
  ·rw [if_neg c5] at H
   exact absurd H (by simp)
 ·rw [if_neg c4] at H
  exact absurd H (by simp)
def jT.l0 : Nat → List ByteArray → Int → Int → List Int → Int → List (S98) → Option ((List (S98)) × Int)
 | 0,_,_,_,_,_,_=>none
 | k+1,x3,x5,x6,x1000,x1001,x378000=>if x6<x5 then (if 0≤x6 then (if x6<(x3.length:Int) then ((jf.f k x1000 x1001 x6).bind fun bt384=>((jh.f k x1000 bt384.2 (([0,bt384.1,wrap64 (x6 - 1)]:List Int))).bind fun bt389=>(if x378000.length<5864062014805 then (jT.l0 k x3 x5 (wrap64 (x6+1)) x1000 bt389.2 (x378000 ++ [(⟨rdOf ByteArray.empty x3 x6,bt389.1⟩:S98)])) else (none)))) else (none)) else (none)) else (some (x378000,x1001))
def jT.f (k : Nat) (s0_0 : List Int) (s0_1 : Int) : Option ((List (S98)) × Int) := (jh.f k s0_0 s0_1 (([4, 5, 3, 6, 2, 1, 8] : List Int))).bind fun bt381 => (jT.l0 k (([(⟨#[97, 110, 121]⟩ : ByteArray), (⟨#[105, 111]⟩ : ByteArray), (⟨#[107, 101, 121]⟩ : ByteArray), (⟨#[116, 105, 109, 101]⟩ : ByteArray), (⟨#[110, 101, 116]⟩ : ByteArray), (⟨#[100, 105, 115, 107]⟩ : ByteArray), (⟨#[116, 121, 112, 101]⟩ : ByteArray), (⟨#[111, 100, 100]⟩ : ByteArray)] : List ByteArray)) bt381.1 1 s0_0 bt381.2 (([(⟨(⟨#[97, 110, 121]⟩ : ByteArray), (-1)⟩ : S98)] : List (S98))))
def jT.T7 : Bool × List (List Nat × List Nat) := (true, [([], []), ([0], [0]), ([], []), ([], []), ([2, 3], [2, 3]), ([4], [4]), ([], []), ([], []), ([], []), ([7, 8], [7, 8]), ([], []), ([10], [10]), ([9, 11], [9, 11]), ([6, 12, 9], [6, 12]), ([5, 13], [5, 13]), ([14], [14]), ([1, 15, 13], [1, 15]), ([0, 1, 2, 3, 4, 5, 6, 7, 8, 9, 10, 11, 12, 13, 14, 15, 16], []), ([17, 16, 16, 0, 1, 2, 3, 4, 5, 6, 7, 8, 9, 10, 11, 12, 13, 14, 15, 16], [16, 17])])
def jT.B7 : List Nat := [0, 1, 0, 0, 12, 28, 0, 0, 0, 384, 0, 1024, 3968, 8128, 16380, 32764, 65535, 131071, 262143]
theorem jT.tab7 : rtab .any (opsOf Try.f95 7) = jT.T7 := by kernel_rfl
theorem jT.bits7 : jpc jT.T7.2 jT.B7 = true := by kernel_rfl
set_option maxHeartbeats 8000000 in
set_option maxRecDepth 100000 in
theorem jT.calls (k : Nat) (g : Nat) (s0_0 : List Int) (s0_1 : Int) (r1 : List (S98)) (r2 : Int) (w0 w : World) (hI : jc w0 w g s0_0 s0_1) (hB : Below w0.heap.size w0 w) (h : jT.f k s0_0 s0_1 = some (r1, r2)) :
  Calls Try.prog 95 #[.pointer (some ⟨g,0,none⟩)] w fun e w'=>∃ v0_:Value,e=.returned (.agg #[v0_])∧Kd.R k98 98 w' w.heap.size (fun _=>True) v0_ r1∧jc w0 w' g s0_0 r2∧Below w0.heap.size w0 w'∧jb w w' g none:=by
 have hu32:=Try.underlying32
 have hu98:=Try.underlying98
 have HI0:=am hI
 have HK:=am (jb.refl w g none)
 have HL:=am hB.size
 clear hI
 have HW0:=am hB.size
 have HB:=am hB
 clear hB
 have H:((jh.f k s0_0 s0_1 (([4,5,3,6,2,1,8]:List Int))).bind fun bt381=>(jT.l0 k (([(⟨#[97,110,121]⟩:ByteArray),(⟨#[105,111]⟩:ByteArray),(⟨#[107,101,121]⟩:ByteArray),(⟨#[116,105,109,101]⟩:ByteArray),(⟨#[110,101,116]⟩:ByteArray),(⟨#[100,105,115,107]⟩:ByteArray),(⟨#[116,121,112,101]⟩:ByteArray),(⟨#[111,100,100]⟩:ByteArray)]:List ByteArray)) bt381.1 1 s0_0 bt381.2 (([(⟨(⟨#[97,110,121]⟩:ByteArray),(-1)⟩:S98)]:List (S98)))))=some (r1,r2):=h
 clear h
 obtain ⟨y371,hy371⟩:∃ y_:List ByteArray,y_=(([(⟨#[97,110,121]⟩:ByteArray),(⟨#[105,111]⟩:ByteArray),(⟨#[107,101,121]⟩:ByteArray),(⟨#[116,105,109,101]⟩:ByteArray),(⟨#[110,101,116]⟩:ByteArray),(⟨#[100,105,115,107]⟩:ByteArray),(⟨#[116,121,112,101]⟩:ByteArray),(⟨#[111,100,100]⟩:ByteArray)]:List ByteArray)):=⟨_,rfl⟩
 replace H:((jh.f k s0_0 s0_1 (([4,5,3,6,2,1,8]:List Int))).bind fun bt381=>(jT.l0 k y371 bt381.1 1 s0_0 bt381.2 (([(⟨(⟨#[97,110,121]⟩:ByteArray),(-1)⟩:S98)]:List (S98)))))=some (r1,r2):=by first |(rw [hy371];with_reducible exact H) |(have H2_:=(Option.bind_some _ _).symm.trans H;rw [hy371];with_reducible exact H2_) |(have H2_:=(Option.bind_some _ _).symm.trans H;with_reducible exact H2_) | with_reducible exact H |(rw [hy371];exact H) | exact H
 have Ny371:=am hy371
 clear hy371
 obtain ⟨y374,hy374⟩:∃ y_:List (S98),y_=(([(⟨(⟨#[97,110,121]⟩:ByteArray),(-1)⟩:S98)]:List (S98))):=⟨_,rfl⟩
 replace H:((jh.f k s0_0 s0_1 (([4,5,3,6,2,1,8]:List Int))).bind fun bt381=>(jT.l0 k y371 bt381.1 1 s0_0 bt381.2 y374))=some (r1,r2):=by first |(rw [hy374];with_reducible exact H) |(have H2_:=(Option.bind_some _ _).symm.trans H;rw [hy374];with_reducible exact H2_) |(have H2_:=(Option.bind_some _ _).symm.trans H;with_reducible exact H2_) | with_reducible exact H |(rw [hy374];exact H) | exact H
 have Ny374:=am hy374
 clear hy374
 obtain ⟨y378,hy378⟩:∃ y_:List Int,y_=(([4,5,3,6,2,1,8]:List Int)):=⟨_,rfl⟩
 replace H:((jh.f k s0_0 s0_1 y378).bind fun bt381=>(jT.l0 k y371 bt381.1 1 s0_0 bt381.2 y374))=some (r1,r2):=by first |(rw [hy378];with_reducible exact H) |(have H2_:=(Option.bind_some _ _).symm.trans H;rw [hy378];with_reducible exact H2_) |(have H2_:=(Option.bind_some _ _).symm.trans H;with_reducible exact H2_) | with_reducible exact H |(rw [hy378];exact H) | exact H
 have Ny378:=am hy378
 clear hy378
 replace H:=bzS H
 obtain ⟨⟨t381,t382⟩,A20,H⟩:=H
 replace H:(jT.l0 k y371 t381 1 s0_0 t382 y374)=some (r1,r2):=H
 have A2:=am A20
 clear A20
 have H':=am H
 clear H
 go_enter Try.func95,Try.ntmps95
 go_wp2_with (first |((with_reducible refine jQ (N:=2) rfl ?_);refine bE (N:=2) (cs:=#[.slice none 0 0]) (t:=32) ?_;intro gb370 hg w3 hbox hb;have BK370:=am (hbox);have GW370:=am ((Y12:w.heap.size≤gb370));have GE370:=am ((Nat.le_trans HW0.out (Y12:w.heap.size≤gb370):w0.heap.size≤gb370));have NB0_370:=am ((Y28:g≠gb370));have NB370_0:=am ((Y29:gb370≠g));replace HK:=am (jb.trans (Y17) (jb.of_below hb g none) (.inl rfl));replace HB:=am (ji (Y18) hb);replace HI0:=am (jc.below (Y16) hb);clear hb hbox hg) |((with_reducible refine jQ (N:=7) rfl ?_);refine Kd.jMb Kd.string _ 9 ?hg (N:=7) ?hd (xs:=([(⟨#[97,110,121]⟩:ByteArray),(⟨#[105,111]⟩:ByteArray),(⟨#[107,101,121]⟩:ByteArray),(⟨#[116,105,109,101]⟩:ByteArray),(⟨#[110,101,116]⟩:ByteArray),(⟨#[100,105,115,107]⟩:ByteArray),(⟨#[116,121,112,101]⟩:ByteArray),(⟨#[111,100,100]⟩:ByteArray)]:List ByteArray)) (inner:=[.string (⟨#[97,110,121]⟩:ByteArray), .string (⟨#[105,111]⟩:ByteArray), .string (⟨#[107,101,121]⟩:ByteArray), .string (⟨#[116,105,109,101]⟩:ByteArray), .string (⟨#[110,101,116]⟩:ByteArray), .string (⟨#[100,105,115,107]⟩:ByteArray), .string (⟨#[116,121,112,101]⟩:ByteArray), .string (⟨#[111,100,100]⟩:ByteArray)]) (ok:=fun _=>True) (okp:=fun _=>True) ?hr ?hp (fun _ hk=>hk) trivial (Below.refl _ _) (Nat.le_refl _) (by simp) ?_;(case hd=>rfl);(case hg=>rfl);(case hr=>exact Y8);(case hp=>exact (Reps.one (show Kd.M Kd.string _ _ _ (⟨#[97,110,121]⟩:ByteArray) [.string (⟨#[97,110,121]⟩:ByteArray)] from rfl) (Reps.one (show Kd.M Kd.string _ _ _ (⟨#[105,111]⟩:ByteArray) [.string (⟨#[105,111]⟩:ByteArray)] from rfl) (Reps.one (show Kd.M Kd.string _ _ _ (⟨#[107,101,121]⟩:ByteArray) [.string (⟨#[107,101,121]⟩:ByteArray)] from rfl) (Reps.one (show Kd.M Kd.string _ _ _ (⟨#[116,105,109,101]⟩:ByteArray) [.string (⟨#[116,105,109,101]⟩:ByteArray)] from rfl) (Reps.one (show Kd.M Kd.string _ _ _ (⟨#[110,101,116]⟩:ByteArray) [.string (⟨#[110,101,116]⟩:ByteArray)] from rfl) (Reps.one (show Kd.M Kd.string _ _ _ (⟨#[100,105,115,107]⟩:ByteArray) [.string (⟨#[100,105,115,107]⟩:ByteArray)] from rfl) (Reps.one (show Kd.M Kd.string _ _ _ (⟨#[116,121,112,101]⟩:ByteArray) [.string (⟨#[116,121,112,101]⟩:ByteArray)] from rfl) (Reps.one (show Kd.M Kd.string _ _ _ (⟨#[111,100,100]⟩:ByteArray) [.string (⟨#[111,100,100]⟩:ByteArray)] from rfl) (Reps.none _ _))))))))));intro v372 w4 ho5 hb hg_ hnew_;clear hg_ hnew_;(first | rw [← Ny371.out] at ho5 |(simp only [Int.reduceToNat] at ho5;rw [← Ny371.out] at ho5));have HO373:=am (Kd.jX ho5 (jM (w:=w) (g:=g) (row:=none) (Y65)));replace BK370:=am (jq (g:=gb370) (o:=.cells #[.slice none 0 0] 32 (0,0)) (kq BK370.out) hb);replace HK:=am (jb.trans (Y65) (jb.of_below hb g none) (.inl rfl));replace HB:=am (ji (Y82) hb);replace HI0:=am (jc.below (Y83) hb);clear hb ho5) |((with_reducible refine jQ (N:=9) rfl ?_);refine Kd.jMb k98 _ 98 ?hg (N:=9) ?hd (xs:=([(⟨(⟨#[97,110,121]⟩:ByteArray),(-1)⟩:S98)]:List (S98))) (inner:=[.string (⟨#[97,110,121]⟩:ByteArray), .int .i64 (-1)]) (ok:=fun _=>True) (okp:=fun _=>True) ?hr ?hp (fun _ hk=>hk) trivial (Below.refl _ _) (Nat.le_refl _) (by simp) ?_;(case hd=>rfl);(case hg=>rfl);(case hr=>exact Y8);(case hp=>exact (Reps.c2 (show Kd.M k98 _ _ _ (⟨(⟨#[97,110,121]⟩:ByteArray),(-1)⟩:S98) [.string (⟨#[97,110,121]⟩:ByteArray), .int .i64 (-1)] from (k98_mkM _ _ _ (⟨(⟨#[97,110,121]⟩:ByteArray),(-1)⟩:S98) )) (Reps.none _ _)));intro v375 w6 ho7 hb hg_ hnew_;clear hg_ hnew_;(first | rw [← Ny374.out] at ho7 |(simp only [Int.reduceToNat] at ho7;rw [← Ny374.out] at ho7));have HO376:=am (Kd.jX ho7 (jM (w:=w) (g:=g) (row:=none) (Y65)));replace HO373:=am (Kd.jja (rq HO373.out) hb);replace BK370:=am (jq (g:=gb370) (o:=.cells #[.slice none 0 0] 32 (0,0)) (kq BK370.out) hb);replace HK:=am (jb.trans (Y65) (jb.of_below hb g none) (.inl rfl));replace HB:=am (ji (Y82) hb);replace HI0:=am (jc.below (Y83) hb);clear hb ho7;obtain ⟨Ao8,co8,eo8⟩:=Kd.jaa HO376.out;subst eo8) |((with_reducible refine jQ (N:=4) rfl ?_);refine bE (N:=4) (cs:=#[.slice none 0 0]) (t:=32) ?_;intro gb377 hg w9 hbox hb;have BK377:=am (hbox);have GW377:=am ((Y92:w.heap.size≤gb377));have GE377:=am ((Nat.le_trans HW0.out (Y92:w.heap.size≤gb377):w0.heap.size≤gb377));have NB370_377:=am ((by rw [hg];exact Nat.ne_of_lt (jtb (g:=gb370) (o:=.cells #[.slice none 0 0] 32 (0,0)) (kq BK370.out)):gb370≠gb377));have NB377_370:=am ((by rw [hg];exact Nat.ne_of_gt (jtb (g:=gb370) (o:=.cells #[.slice none 0 0] 32 (0,0)) (kq BK370.out)):gb377≠gb370));have NB0_377:=am ((by rw [hg];exact Nat.ne_of_lt (jc.lt (show jc w0 _ g s0_0 s0_1 from by repeat (first |(with_reducible first | exact HI0.out | apply jc.alloc | apply jc.drewN | apply jc.drew | apply jc.jZb | refine jc.far ?_ NB0_370.out _) | exact HI0.out))):g≠gb377));have NB377_0:=am ((by rw [hg];exact Nat.ne_of_gt (jc.lt (show jc w0 _ g s0_0 s0_1 from by repeat (first |(with_reducible first | exact HI0.out | apply jc.alloc | apply jc.drewN | apply jc.drew | apply jc.jZb | refine jc.far ?_ NB0_370.out _) | exact HI0.out))):gb377≠g));replace HO373:=am (Kd.jja (rq HO373.out) hb);replace HO376:=am (Kd.jja (rq HO376.out) hb);replace BK370:=am (jq (g:=gb370) (o:=.cells #[.slice none 0 0] 32 (0,0)) (kq BK370.out) hb);replace HK:=am (jb.trans (Y65) (jb.of_below hb g none) (.inl rfl));replace HB:=am (ji (Y82) hb);replace HI0:=am (jc.below (Y83) hb);clear hb hbox hg;have hnb10:=NB377_370.out;have hnc10:=NB370_377.out;have hnb11:=NB377_0.out;have hnc11:=NB0_377.out;have hcz12_0:=bc0 BK377.out;have hfz12_0:=ja BK377.out 0) |((with_reducible refine jQ (N:=12) rfl ?_);refine Kd.jMb (Kd.int .i64) _ 3 ?hg (N:=12) ?hd (xs:=([4,5,3,6,2,1,8]:List Int)) (inner:=[.int .i64 4, .int .i64 5, .int .i64 3, .int .i64 6, .int .i64 2, .int .i64 1, .int .i64 8]) (ok:=fun _=>True) (okp:=fun _=>True) ?hr ?hp (fun _ hk=>hk) trivial (Below.refl _ _) (Nat.le_refl _) (by simp) ?_;(case hd=>rfl);(case hg=>rfl);(case hr=>exact Y8);(case hp=>exact (Reps.one (show Kd.M (Kd.int .i64) _ _ _ 4 [.int .i64 4] from rfl) (Reps.one (show Kd.M (Kd.int .i64) _ _ _ 5 [.int .i64 5] from rfl) (Reps.one (show Kd.M (Kd.int .i64) _ _ _ 3 [.int .i64 3] from rfl) (Reps.one (show Kd.M (Kd.int .i64) _ _ _ 6 [.int .i64 6] from rfl) (Reps.one (show Kd.M (Kd.int .i64) _ _ _ 2 [.int .i64 2] from rfl) (Reps.one (show Kd.M (Kd.int .i64) _ _ _ 1 [.int .i64 1] from rfl) (Reps.one (show Kd.M (Kd.int .i64) _ _ _ 8 [.int .i64 8] from rfl) (Reps.none _ _)))))))));intro v379 w13 ho14 hb hg_ hnew_;clear hg_ hnew_;(first | rw [← Ny378.out] at ho14 |(simp only [Int.reduceToNat] at ho14;rw [← Ny378.out] at ho14));have HO380:=am (Kd.jX ho14 (jM (w:=w) (g:=g) (row:=none) (Y34)));replace HO373:=am (Kd.jja (by (with_reducible repeat (first | apply Kd.jba | apply Kd.jea | apply Kd.jma));exact (Kd.jI (Kd.jwb (p:=⟨gb377,0,none⟩) (Kd.jIa HO373.out BK377.out (by decide)) (fun _ hk=>hk.2) (.slice Ao8 y374.length co8)) (fun _ h_=>h_.1))) hb);replace HO376:=am (Kd.jja (by (with_reducible repeat (first | apply Kd.jba | apply Kd.jea | apply Kd.jma));exact (Kd.jI (Kd.jwb (p:=⟨gb377,0,none⟩) (Kd.jIa HO376.out BK377.out (by decide)) (fun _ hk=>hk.2) (.slice Ao8 y374.length co8)) (fun _ h_=>h_.1))) hb);replace BK370:=am (jq (g:=gb370) (o:=.cells #[.slice none 0 0] 32 (0,0)) (by (with_reducible repeat (first | refine jw ?_ _ | refine jE ?_ | refine jB ?_ _));refine jcb ?_ NB370_377.out _;(with_reducible repeat (first | refine jw ?_ _ | refine jE ?_ | refine jB ?_ _));exact BK370.out) hb);replace BK377:=am (jq (g:=gb377) (o:=.cells #[.slice Ao8 y374.length co8] 32 (0,0)) (by (with_reducible repeat (first | refine jw ?_ _ | refine jE ?_ | refine jB ?_ _));refine jQa (cs:=#[.slice none 0 0]) ?_ 0 _ rfl;(with_reducible repeat (first | refine jw ?_ _ | refine jE ?_ | refine jB ?_ _));exact BK377.out) hb);replace HK:=am (jb.trans (Y34) (jb.of_below hb g none) (.inl rfl));replace HB:=am (ji (Y43) hb);replace HI0:=am (jc.below (show jc w0 (w9.setCell ⟨gb377,0,none⟩ (.slice Ao8 y374.length co8)) g s0_0 s0_1 from Y26) hb);clear hb ho14;obtain ⟨Ao15,co15,eo15⟩:=Kd.jaa HO380.out;subst eo15) |((with_reducible refine jg (f:=56) rfl ?_);refine gL (some 13) Try.func56 #[.pointer (some ⟨g,0,none⟩), .slice Ao15 y378.length co15] ?_;(with_reducible refine (jh.calls k g s0_0 s0_1 _ _ y378 t381 t382 w0 _ ?side1 ?side2 ?side3 ?side4 ?side5 A2.out).mono ?_);(case side1=>exact Y26);(case side2=>exact Y43);(case side3=>exact cq (Kd.jm HO380.out).2.2);(case side4=>exact (Kd.jm HO380.out).2.1);(case side5=>exact jqb (jc.own_ne HI0.out HO380.out (by decide)));rintro e w16 ⟨rfl,hi,hb,hk⟩;refine ⟨_,rfl,?_⟩;replace BK370:=am (jb.blk hk (g':=gb370) (o:=.cells #[.slice none 0 0] 32 (0,0)) (kq BK370.out) NB370_0.out (by simp));replace HO373:=am (Kd.jI (Kd.jxa (jc.apart (show jc w0 _ g s0_0 s0_1 from Y26) (rq HO373.out) (by decide)) hk (fun _ h=>h.2)) (fun _ h=>h.1));replace HO376:=am (Kd.jI (Kd.jxa (jc.apart (show jc w0 _ g s0_0 s0_1 from Y26) (rq HO376.out) (by decide)) hk (fun _ h=>h.2)) (fun _ h=>h.1));replace BK377:=am (jb.blk hk (g':=gb377) (o:=.cells #[.slice Ao8 y374.length co8] 32 (0,0)) (kq BK377.out) NB377_0.out (by simp));replace HO380:=am (Kd.jI (Kd.jxa (jc.apart (show jc w0 _ g s0_0 s0_1 from Y26) (rq HO380.out) (by decide)) hk (fun _ h=>h.2)) (fun _ h=>h.1));replace HK:=am (jb.trans (Y34) hk (.inl rfl));replace HB:=am (hb);replace HI0:=am (hi);(try clear hb);(try clear hb2);(try clear hk);(try clear hi)))
 go_loopg [6] k (fun kq v6 w'=>∃ (x6_1:Int) (x1001_1:Int) (x378000_1:List (S98)) (u378000:Value),v6=.int .i64 x6_1∧jl (jT.l0 kq y371 t381 x6_1 s0_0 x1001_1 x378000_1=some (r1,r2))∧jl (kq≤k)∧jl (Kd.R Kd.string 9 w' w.heap.size (fun _=>True) v372 y371)∧jl (Kd.R k98 98 w' w.heap.size (fun _=>True) u378000 x378000_1)∧jl (w'.heap[gb370]?=some (.cells #[(.slice none 0 0)] 32 (0,0)))∧jl (w'.heap[gb377]?=some (.cells #[u378000] 32 (0,0)))∧jl (jc w0 w' g s0_0 x1001_1)∧jl (jb w w' g none)∧jl (Below w0.heap.size w0 w'))
 case atStart=>exact ⟨(1),(t382),(y374),(.slice Ao8 y374.length co8),(sq),H',⟨Nat.le_refl _⟩,⟨rq HO373.out⟩,⟨rq HO376.out⟩,⟨kq BK370.out⟩,⟨kq BK377.out⟩,⟨Y26⟩,⟨Y34⟩,⟨Y43⟩⟩
 case round =>
  clear H'
  try clear c1
  try clear c2
  try clear p2
  try clear c5
  try clear c9
  try clear c10
  try clear c11
  try clear hcz12_0
  try clear hfz12_0
  obtain ⟨x6_1,x1001_1,x378000_1,u378000,rfl,HA,HK1,HO_3,HO_378000,BK370,BK377,HI0,HK,HB⟩:=hrel
  cases gk with
  | zero=>exact absurd HA.out (by simp [jT.l0])
  | succ k1 =>
   have H:=HA.out
   clear HA
   simp only [jT.l0] at H
   by_cases c17:x6_1<t381
   ·rw [if_pos c17] at H
    have c17b0:decide (x6_1<t381)=true:=dzT c17
    clear c17
    by_cases c18:0≤x6_1
    ·rw [if_pos c18] at H
     have c18b0:decide (0≤x6_1)=true:=dzT c18
     clear c18
     by_cases c19:x6_1<(y371.length:Int)
     ·rw [if_pos c19] at H
      have c19b0:decide (x6_1<(y371.length:Int))=true:=dzT c19
      clear c19
      replace H:=bzS H
      obtain ⟨⟨t384,t385⟩,A200,H⟩:=H
      replace H:((jh.f k1 s0_0 t385 (([0,t384,wrap64 (x6_1 - 1)]:List Int))).bind fun bt389=>(if x378000_1.length<5864062014805 then (jT.l0 k1 y371 t381 (wrap64 (x6_1+1)) s0_0 bt389.2 (x378000_1 ++ [(⟨rdOf ByteArray.empty y371 x6_1,bt389.1⟩:S98)])) else (none)))=some (r1,r2):=H
      have A20:=am A200
      clear A200
      obtain ⟨y386,hy386⟩:∃ y_:List Int,y_=(([0,t384,wrap64 (x6_1 - 1)]:List Int)):=⟨_,rfl⟩
      replace H:((jh.f k1 s0_0 t385 y386).bind fun bt389=>(if x378000_1.length<5864062014805 then (jT.l0 k1 y371 t381 (wrap64 (x6_1+1)) s0_0 bt389.2 (x378000_1 ++ [(⟨rdOf ByteArray.empty y371 x6_1,bt389.1⟩:S98)])) else (none)))=some (r1,r2):=by first |(rw [hy386];with_reducible exact H) |(have H2_:=(Option.bind_some _ _).symm.trans H;rw [hy386];with_reducible exact H2_) |(have H2_:=(Option.bind_some _ _).symm.trans H;with_reducible exact H2_) | with_reducible exact H |(rw [hy386];exact H) | exact H
      have Ny386:=am hy386
      clear hy386
      replace H:=bzS H
      obtain ⟨⟨t389,t390⟩,A210,H⟩:=H
      replace H:(if x378000_1.length<5864062014805 then (jT.l0 k1 y371 t381 (wrap64 (x6_1+1)) s0_0 t390 (x378000_1 ++ [(⟨rdOf ByteArray.empty y371 x6_1,t389⟩:S98)])) else (none))=some (r1,r2):=H
      have A21:=am A210
      clear A210
      by_cases c22:x378000_1.length<5864062014805
      ·rw [if_pos c22] at H
       have LMc22:=am c22
       clear c22
       obtain ⟨y391,hy391⟩:∃ y_:List (S98),y_=(x378000_1 ++ [(⟨rdOf ByteArray.empty y371 x6_1,t389⟩:S98)]):=⟨_,rfl⟩
       replace H:(jT.l0 k1 y371 t381 (wrap64 (x6_1+1)) s0_0 t390 y391)=some (r1,r2):=by first |(rw [hy391];with_reducible exact H) |(have H2_:=(Option.bind_some _ _).symm.trans H;rw [hy391];with_reducible exact H2_) |(have H2_:=(Option.bind_some _ _).symm.trans H;with_reducible exact H2_) | with_reducible exact H |(rw [hy391];exact H) | exact H
       have Ny391:=am hy391
       clear hy391
       have H':=am H
       clear H
       try go_wp2
       replace HO_3:=am (Kd.jma HO_3.out)
       replace HO_378000:=am (Kd.jma HO_378000.out)
       replace BK370:=am (jE BK370.out)
       replace BK377:=am (jE BK377.out)
       replace HI0:=am (jc.drew HI0.out)
       replace HK:=am (jOa HK.out)
       replace HB:=am (jW HB.out)
       obtain ⟨Ao24,co24,eo24⟩:=Kd.jaa HO_3.out
       (first | subst eo24 |(injection eo24 with f1_ f2_ f3_;have f4_:=f1_.symm;have f5_:=f3_.symm;clear f1_ f2_ f3_;subst f4_;subst f5_))
       have p383:0≤(x6_1:Int):=ozD (uq)
       have q383:x6_1<(y371.length:Int):=ozD (uq)
       obtain ⟨ad383,e383,hx383_0⟩:=Kd.at_string (Kd.jm HO_3.out).2.2 x6_1 p383 q383
       cases e383
       replace p383:=ezT p383
       replace q383:=ezT q383
       refine start_ (n:=19) (S:=fun w'=>w'.cell? ⟨gb377,0,none⟩=some (u378000)∧w'.cell? (ad383.add (x6_1).toNat)=some (.string (rdOf ByteArray.empty y371 x6_1))) (ds:=[16,18]) #[false,false,false,false,false,false,false,false,false,false,false,false,false,false,false,false,false,false,false] (by kernel_rfl) rfl rfl ⟨(jK BK377.out 0).trans rfl,hx383_0⟩ (fun hHeld=>?_);refine jrc jT.tab7 jT.bits7 (fun HT_ HW_=>?_)
       generalize wr.drew=w23 at HO_3 HO_378000 BK370 BK377 HI0 HK HB hx383_0 hHeld ⊢
       refine pq (i:=0) (N:=some 19) #[true,false,false,false,false,false,false,false,false,false,false,false,false,false,false,false,false,false,false] ?_
       refine pq (i:=2) (N:=some 21) #[true,false,true,false,false,false,false,false,false,false,false,false,false,false,false,false,false,false,false] ?_
       refine pq (i:=3) (N:=some 22) #[true,false,true,true,false,false,false,false,false,false,false,false,false,false,false,false,false,false,false] ?_
       refine pq (i:=4) (N:=some 23) #[true,false,true,true,true,false,false,false,false,false,false,false,false,false,false,false,false,false,false] ?_
       refine pq (i:=6) (N:=some 25) #[true,false,true,true,true,false,true,false,false,false,false,false,false,false,false,false,false,false,false] ?_
       refine pq (i:=7) (N:=some 26) #[true,false,true,true,true,false,true,true,false,false,false,false,false,false,false,false,false,false,false] ?_
       refine pq (i:=8) (N:=some 27) #[true,false,true,true,true,false,true,true,true,false,false,false,false,false,false,false,false,false,false] ?_
       refine pq (i:=10) (N:=some 29) #[true,false,true,true,true,false,true,true,true,false,true,false,false,false,false,false,false,false,false] ?_
       refine pq (i:=11) (N:=some 30) #[true,false,true,true,true,false,true,true,true,false,true,true,false,false,false,false,false,false,false] ?_
       refine take_ (i:=1) (N:=some 20) (v:=?_) (a':=?_) #[true,true,true,true,true,false,true,true,true,false,true,true,false,false,false,false,false,false,false] rfl rfl (jNb HT_.out HW_.out (by kernel_rfl)) (fun _ _ _ h=>h) (Or.inl ⟨by rfl,?_⟩) hHeld ?_ ?_
       rotate_left
       ·rintro w' ⟨s0,s1⟩
        go_simp
        with_reducible rfl
       rotate_left
       ·exact sa
       refine take_ (i:=5) (N:=some 24) (v:=?_) (a':=?_) #[true,true,true,true,true,true,true,true,true,false,true,true,false,false,false,false,false,false,false] rfl rfl (jNb HT_.out HW_.out (by kernel_rfl)) (fun _ _ _ h=>h) (Or.inl ⟨by rfl,?_⟩) hHeld ?_ ?_
       rotate_left
       ·rintro w' ⟨s0,s1⟩
        go_simp
        with_reducible rfl
       rotate_left
       ·exact sa
       refine one_ (i:=9) (N:=some 28) #[true,true,true,true,true,true,true,true,true,true,true,true,false,false,false,false,false,false,false] rfl rfl (jLb HT_.out (by kernel_rfl)) (by decide) (fun K hK=>?_)
       refine goes_ Try.func55 (by kernel_rfl) rfl #[.pointer (some ⟨g,0,none⟩), .int .i64 x6_1] (by rfl) rfl rfl (aq) ?_
       with_reducible refine (jf.calls k1 g s0_0 x1001_1 x6_1 t384 t385 w0 _ ?side1 ?side2 A20.out).mono ?_
       (case side1=>exact Y26)
       (case side2=>exact Y43)
       rintro e w25 ⟨rfl,hi,hb,hk⟩
       have HS1_:=keep_cell hk (hHeld.2) (Y93)
       refine ⟨_,rfl,?_⟩
       replace HO_3:=am (Kd.jI (Kd.jxa (jc.apart (show jc w0 _ g s0_0 x1001_1 from Y26) (rq HO_3.out) (by decide)) hk (fun _ h=>h.2)) (fun _ h=>h.1))
       replace HO_378000:=am (Kd.jI (Kd.jxa (jc.apart (show jc w0 _ g s0_0 x1001_1 from Y26) (rq HO_378000.out) (by decide)) hk (fun _ h=>h.2)) (fun _ h=>h.1))
       replace BK370:=am (jb.blk hk (g':=gb370) (o:=.cells #[.slice none 0 0] 32 (0,0)) (kq BK370.out) NB370_0.out (by simp))
       replace BK377:=am (jb.blk hk (g':=gb377) (o:=.cells #[u378000] 32 (0,0)) (kq BK377.out) NB377_0.out (by simp))
       replace HK:=am (jb.trans (Y34) hk (.inl rfl))
       replace HB:=am (hb)
       replace HI0:=am (hi)
       (try clear hb)
       (try clear hb2)
       (try clear hk)
       (try clear hi)
       refine hK.out _ _ ⟨(jK BK377.out 0).trans rfl,HS1_⟩ (fun hHeld=>?_)
       clear hK K
       refine jRb (a':=?_) ?_ ?_
       rotate_left
       ·show Act.put _ (some 28) _=_
        simp only [Act.put,List.setIfInBounds_toArray,List.set_cons_zero,List.set_cons_succ,jeb,jhb]
        rfl
       refine one_ (i:=12) (N:=some 31) #[true,true,true,true,true,true,true,true,true,true,true,true,true,false,false,false,false,false,false] rfl rfl (jLb HT_.out (by kernel_rfl)) (by decide) (fun K hK=>?_)
       refine Kd.jTb (Kd.int .i64) _ 3 ?hg (N:=31) ?hd (xs:=([0,t384,wrap64 (x6_1 - 1)]:List Int)) (inner:=[.int .i64 0, .int .i64 t384, .int .i64 (wrap64 (x6_1 - 1))]) (ok:=fun _=>True) (okp:=fun _=>True) ?hr ?hp (fun _ hk=>hk) trivial (Below.refl _ _) (Nat.le_refl _) (by simp) ?_;(case hd=>rfl);(case hg=>rfl);(case hr=>exact Y8);(case hp=>exact (Reps.one (show Kd.M (Kd.int .i64) _ _ _ 0 [.int .i64 0] from rfl) (Reps.one (show Kd.M (Kd.int .i64) _ _ _ t384 [.int .i64 t384] from rfl) (Reps.one (show Kd.M (Kd.int .i64) _ _ _ (wrap64 (x6_1 - 1)) [.int .i64 (wrap64 (x6_1 - 1))] from rfl) (Reps.none _ _)))))
       intro v387 w26 ho27 hb hg_ hnew_
       have HS1_:=(hb.cell (World.block_lt_of_cell? _ _ (hHeld.2))).trans (hHeld.2)
       clear hg_ hnew_
       (first | rw [← Ny386.out] at ho27 |(simp only [Int.reduceToNat] at ho27;rw [← Ny386.out] at ho27))
       have HO388:=am (Kd.jX ho27 (jM (w:=w) (g:=g) (row:=none) (Y34)))
       replace HO_3:=am (Kd.jja (rq HO_3.out) hb)
       replace HO_378000:=am (Kd.jja (rq HO_378000.out) hb)
       replace BK370:=am (jq (g:=gb370) (o:=.cells #[.slice none 0 0] 32 (0,0)) (kq BK370.out) hb)
       replace BK377:=am (jq (g:=gb377) (o:=.cells #[u378000] 32 (0,0)) (kq BK377.out) hb)
       replace HK:=am (jb.trans (Y34) (jb.of_below hb g none) (.inl rfl))
       replace HB:=am (ji (Y43) hb)
       replace HI0:=am (jc.below (Y26) hb)
       clear hb ho27
       obtain ⟨Ao28,co28,eo28⟩:=Kd.jaa HO388.out
       (first | subst eo28 |(injection eo28 with f1_ f2_ f3_;have f4_:=f1_.symm;have f5_:=f3_.symm;clear f1_ f2_ f3_;subst f4_;subst f5_))
       refine hK.out _ _ ⟨(jK BK377.out 0).trans rfl,HS1_⟩ (fun hHeld=>?_)
       clear hK K
       refine jRb (a':=?_) ?_ ?_
       rotate_left
       ·show Act.put _ (some 31) _=_
        simp only [Act.put,List.setIfInBounds_toArray,List.set_cons_zero,List.set_cons_succ,jeb,jhb]
        rfl
       refine one_ (i:=13) (N:=some 32) #[true,true,true,true,true,true,true,true,true,true,true,true,true,true,false,false,false,false,false] rfl rfl (jLb HT_.out (by kernel_rfl)) (by decide) (fun K hK=>?_)
       refine goes_ Try.func56 (by kernel_rfl) rfl #[.pointer (some ⟨g,0,none⟩), .slice Ao28 y386.length co28] (by rfl) rfl rfl (aq) ?_
       with_reducible refine (jh.calls k1 g s0_0 t385 _ _ y386 t389 t390 w0 _ ?side1 ?side2 ?side3 ?side4 ?side5 A21.out).mono ?_
       (case side1=>exact Y26)
       (case side2=>exact Y43)
       (case side3=>exact cq (Kd.jm HO388.out).2.2)
       (case side4=>exact (Kd.jm HO388.out).2.1)
       (case side5=>exact jqb (jc.own_ne HI0.out HO388.out (by decide)))
       rintro e w29 ⟨rfl,hi,hb,hk⟩
       have HS1_:=keep_cell hk (hHeld.2) (Y93)
       refine ⟨_,rfl,?_⟩
       replace HO_3:=am (Kd.jI (Kd.jxa (jc.apart (show jc w0 _ g s0_0 t385 from Y26) (rq HO_3.out) (by decide)) hk (fun _ h=>h.2)) (fun _ h=>h.1))
       replace HO_378000:=am (Kd.jI (Kd.jxa (jc.apart (show jc w0 _ g s0_0 t385 from Y26) (rq HO_378000.out) (by decide)) hk (fun _ h=>h.2)) (fun _ h=>h.1))
       replace BK370:=am (jb.blk hk (g':=gb370) (o:=.cells #[.slice none 0 0] 32 (0,0)) (kq BK370.out) NB370_0.out (by simp))
       replace BK377:=am (jb.blk hk (g':=gb377) (o:=.cells #[u378000] 32 (0,0)) (kq BK377.out) NB377_0.out (by simp))
       replace HO388:=am (Kd.jI (Kd.jxa (jc.apart (show jc w0 _ g s0_0 t385 from Y26) (rq HO388.out) (by decide)) hk (fun _ h=>h.2)) (fun _ h=>h.1))
       replace HK:=am (jb.trans (Y34) hk (.inl rfl))
       replace HB:=am (hb)
       replace HI0:=am (hi)
       (try clear hb)
       (try clear hb2)
       (try clear hk)
       (try clear hi)
       refine hK.out _ _ ⟨(jK BK377.out 0).trans rfl,HS1_⟩ (fun hHeld=>?_)
       clear hK K
       refine jRb (a':=?_) ?_ ?_
       rotate_left
       ·show Act.put _ (some 32) _=_
        simp only [Act.put,List.setIfInBounds_toArray,List.set_cons_zero,List.set_cons_succ,jeb,jhb]
        rfl
       refine pq (i:=14) (N:=some 33) #[true,true,true,true,true,true,true,true,true,true,true,true,true,true,true,false,false,false,false] ?_
       refine one_ (i:=15) (N:=some 34) #[true,true,true,true,true,true,true,true,true,true,true,true,true,true,true,true,false,false,false] rfl rfl (jLb HT_.out (by kernel_rfl)) (by decide) (fun K hK=>?_)
       refine value_ (w1:=?_) (v:=?_) (by rfl) rfl ?_ ?_
       rotate_left 2
       ·go_simp
        constructor
        ·rfl
        ·rfl
       refine hK.out _ _ ⟨(jK (jB BK377.out _) 0).trans rfl,(World.cell?_alloc_lt _ _ _ (World.block_lt_of_cell? _ _ (hHeld.2))).trans (hHeld.2)⟩ (fun hHeld=>?_)
       clear hK K
       refine jRb (a':=?_) ?_ ?_
       rotate_left
       ·show Act.put _ (some 34) _=_
        simp only [Act.put,List.setIfInBounds_toArray,List.set_cons_zero,List.set_cons_succ,jeb,jhb]
        rfl
       refine last_ (i:=16) (N:=some 35) #[true,true,true,true,true,true,true,true,true,true,true,true,true,true,true,true,true,false,false] rfl rfl (jLb HT_.out (by kernel_rfl)) (by decide) (fun K hK=>?_)
       refine Kd.R_append_step k98 w.heap.size (by rfl) (.tmp 20) (.tmp 34) 30 98 (.agg #[(.string ⟨#[]⟩),(.int .i64 0)]) 24 rfl Try.underlying30 info98 rfl (by decide) (by omega) u378000 x378000_1 (⟨rdOf ByteArray.empty y371 x6_1,t389⟩:S98) [.string (rdOf ByteArray.empty y371 x6_1), .int .i64 t389] (fun _=>True) (fun _=>False) rfl rfl ?aP (fun _ hk=>hk.elim) ?aF ?aO (Below.refl _ _) ?aS ?aL ?_
       (case aP=>exact k98_mkM _ _ _ (⟨rdOf ByteArray.empty y371 x6_1,t389⟩:S98))
       (case aF=>exact (fun _ _=>trivial))
       (case aO=>exact (rq HO_378000.out))
       (case aS=>exact (jM (w:=w) (g:=g) (row:=none) (Y34)))
       (case aL=>have:=LMc22.out;omega)
       intro v392 w30 ho hb hg hat
       rw [← Ny391.out] at ho
       have n0_:=am (Kd.jbc (rq HO_3.out) (Kd.jac (rq HO_378000.out)) (by decide) hg)
       have n1_:=am (jPa (g:=gb370) (o:=.cells #[.slice none 0 0] 32 (0,0)) (kq BK370.out) hg (Kd.R_ne HO_378000.out BK370.out (by decide)))
       have n2_:=am (jPa (g:=gb377) (o:=.cells #[u378000] 32 (0,0)) (kq BK377.out) hg (Kd.R_ne HO_378000.out BK377.out (by decide)))
       have n3_:=am (jc.grown (Y26) hg (jc.own_ne HI0.out HO_378000.out (by decide)))
       have n4_:=am (Kd.jbc (rq HO388.out) (Kd.jac (rq HO_378000.out)) (by decide) hg)
       have n5_:=am (jWa (Y43) HL.out hb)
       have n6_:=am (jb.trans (Y34) (jb.jnb hg g) (Kd.jFb HO_378000.out))
       have n7_:=am (ho)
       clear HO_3
       clear BK370
       clear BK377
       clear HI0
       clear HO388
       clear HB
       clear HK
       clear HO_378000
       have HO_3:=n0_
       have BK370:=n1_
       have BK377:=n2_
       have HI0:=n3_
       have HO388:=n4_
       have HB:=n5_
       have HK:=n6_
       have HO393:=n7_
       clear n0_ n1_ n2_ n3_ n4_ n5_ n6_ n7_
       clear ho hb hg hat
       obtain ⟨Ao31,co31,eo31⟩:=Kd.jaa HO393.out
       (first | subst eo31 |(injection eo31 with f1_ f2_ f3_;have f4_:=f1_.symm;have f5_:=f3_.symm;clear f1_ f2_ f3_;subst f4_;subst f5_))
       refine hK.out _ _ ?_
       clear hK K
       refine jRb (a':=?_) ?_ ?_
       rotate_left
       ·show Act.put _ (some 35) _=_
        simp only [Act.put,List.setIfInBounds_toArray,List.set_cons_zero,List.set_cons_succ,jeb,jhb]
        rfl
       refine pq (i:=17) (N:=some 36) #[true,true,true,true,true,true,true,true,true,true,true,true,true,true,true,true,true,true,false] ?_
       refine last_ (i:=18) (N:=none) #[true,true,true,true,true,true,true,true,true,true,true,true,true,true,true,true,true,true,true] rfl rfl (jLb HT_.out (by kernel_rfl)) (by decide) (fun K hK=>?_)
       have hs32:w30.cell? ⟨gb377,0,none⟩=some (u378000):=(jK BK377.out 0).trans rfl
       have hfs32:=ja BK377.out 0
       have hns32_0:=NB370_377.out
       have hms32_0:=NB377_370.out
       refine skip_ (w1:=?_) (by rfl) rfl ?_ ?_
       rotate_left
       ·go_simp
        rfl
       refine hK.out _ _ ?_
       clear hK K
       refine done_ (done_of HT_.out (by kernel_rfl)) ?_
       try go_wp2
       go_roundg k1
       case measure=>have:=HK1.out;omega
       case rel=>exact ⟨(wrap64 (x6_1+1)),(t390),(y391),(.slice Ao31 y391.length co31),(sq),H',⟨by have:=HK1.out;omega⟩,⟨by (with_reducible repeat (first | apply Kd.jba | apply Kd.jea | apply Kd.jma));exact Kd.jI (Kd.jwb (p:=⟨gb377,0,none⟩) (Kd.jIa HO_3.out BK377.out (by decide)) (fun _ hk=>hk.2) (.slice Ao31 y391.length co31)) (fun _ hk=>trivial)⟩,⟨by (with_reducible repeat (first | apply Kd.jba | apply Kd.jea | apply Kd.jma));exact Kd.jI (Kd.jwb (p:=⟨gb377,0,none⟩) (Kd.jIa HO393.out BK377.out (by decide)) (fun _ hk=>hk.2) (.slice Ao31 y391.length co31)) (fun _ hk=>trivial)⟩,⟨by (with_reducible repeat (first | refine jw ?_ _ | refine jE ?_ | refine jB ?_ _));refine jcb ?_ NB370_377.out _;(with_reducible repeat (first | refine jw ?_ _ | refine jE ?_ | refine jB ?_ _));exact BK370.out⟩,⟨by (with_reducible repeat (first | refine jw ?_ _ | refine jE ?_ | refine jB ?_ _));refine jQa (cs:=#[u378000]) ?_ 0 _ rfl;(with_reducible repeat (first | refine jw ?_ _ | refine jE ?_ | refine jB ?_ _));exact BK377.out⟩,⟨Y26⟩,⟨Y34⟩,⟨Y43⟩⟩
      ·rw [if_neg c22] at H
       exact absurd H (by simp)
     ·rw [if_neg c19] at H
      exact absurd H (by simp)
    ·rw [if_neg c18] at H
     exact absurd H (by simp)
   ·rw [if_neg c17] at H
    have c17b0:decide (x6_1<t381)=false:=dzF c17
    clear c17
    simp only [Option.some.injEq,Prod.mk.injEq] at H
    obtain ⟨rfl,rfl⟩:=H
    have hnb33:=NB377_370.out
    have hnc33:=NB370_377.out
    have hnb34:=NB377_0.out
    have hnc34:=NB0_377.out
    have hcz35_0:=bc0 BK377.out
    have hfz35_0:=ja BK377.out 0
    obtain ⟨Ao36,co36,eo36⟩:=Kd.jaa HO_378000.out
    subst eo36
    have hnb37:=NB370_0.out
    have hnc37:=NB0_370.out
    have hcz38_0:=bc0 BK370.out
    have hfz38_0:=ja BK370.out 0
    go_wp2
    refine bodyPost_ret (results_cell_row rfl _ _ gb370 32 #[.slice Ao36 x378000_1.length co36] (0,0) _ rfl (by (with_reducible repeat (first | refine jw ?_ _ | refine jE ?_ | refine jB ?_ _));refine jQa (cs:=#[.slice none 0 0]) ?_ 0 _ rfl;(with_reducible repeat (first | refine jw ?_ _ | refine jE ?_ | refine jB ?_ _));exact BK370.out) Try.underlying32 rfl (by kernel_rfl)) rfl ?_
    exact ⟨_,Y0,by (with_reducible repeat (first | apply Kd.jba | apply Kd.jea | apply Kd.jma));exact Kd.jI (Kd.jwb (p:=⟨gb370,0,none⟩) (Kd.jIa HO_378000.out BK370.out (by decide)) (fun _ hk=>hk.2) (.slice Ao36 x378000_1.length co36)) (fun _ hk=>trivial),Y26,Y43,Y34⟩
def jXa.f (k : Nat) (s0_0 : List Int) (s0_1 : Int) (l1 : List ByteArray) : Option (ByteArray × Int) := (jf.f k s0_0 s0_1 (l1.length : Int)).bind fun bt394 => (if 0 ≤ bt394.1 then (if bt394.1 < (l1.length : Int) then (some (rdOf ByteArray.empty l1 bt394.1, bt394.2)) else (none)) else (none))
set_option maxHeartbeats 8000000 in
set_option maxRecDepth 100000 in
theorem jXa.calls (k : Nat) (g : Nat) (s0_0 : List Int) (s0_1 : Int) (A1 : Option Addr) (c1 : Nat) (l1 : List ByteArray) (r1 : ByteArray) (r2 : Int) (w0 w : World) (hI : jc w0 w g s0_0 s0_1) (hB : Below w0.heap.size w0 w) (hr1 : Kd.C Kd.string w A1 l1.length l1) (hc1 : l1.length ≤ c1) (hf1 : ∀ ad, A1 = some ad → 0 < l1.length → ad.block ≠ g) (h : jXa.f k s0_0 s0_1 l1 = some (r1, r2)) :
  Calls Try.prog 96 #[.pointer (some ⟨g,0,none⟩), .slice A1 l1.length c1] w fun e w'=>e=.returned (.string r1)∧jc w0 w' g s0_0 r2∧Below w0.heap.size w0 w'∧jb w w' g none:=by
 have HR1:=am hr1
 have HC1:=am hc1
 clear hr1 hc1
 have HI0:=am hI
 have HK:=am (jb.refl w g none)
 have HL:=am hB.size
 clear hI
 have HW0:=am hB.size
 have HB:=am hB
 clear hB
 have H:((jf.f k s0_0 s0_1 (l1.length:Int)).bind fun bt394=>(if 0≤bt394.1 then (if bt394.1<(l1.length:Int) then (some (rdOf ByteArray.empty l1 bt394.1,bt394.2)) else (none)) else (none)))=some (r1,r2):=h
 clear h
 replace H:=bzS H
 obtain ⟨⟨t394,t395⟩,A30,H⟩:=H
 replace H:(if 0≤t394 then (if t394<(l1.length:Int) then (some (rdOf ByteArray.empty l1 t394,t395)) else (none)) else (none))=some (r1,r2):=H
 have A3:=am A30
 clear A30
 by_cases c4:0≤t394
 ·rw [if_pos c4] at H
  have c4b0:decide (0≤t394)=true:=dzT c4
  clear c4
  by_cases c5:t394<(l1.length:Int)
  ·rw [if_pos c5] at H
   have c5b0:decide (t394<(l1.length:Int))=true:=dzT c5
   clear c5
   simp only [Option.some.injEq,Prod.mk.injEq] at H
   obtain ⟨rfl,rfl⟩:=H
   go_enter Try.func96,Try.ntmps96
   go_wp2_with (first |((with_reducible refine jg (f:=55) rfl ?_);refine gL (some 9) Try.func55 #[.pointer (some ⟨g,0,none⟩), .int .i64 (l1.length:Int)] ?_;(with_reducible refine (jf.calls k g s0_0 s0_1 (l1.length:Int) t394 t395 w0 _ ?side1 ?side2 A3.out).mono ?_);(case side1=>exact Y16);(case side2=>exact Y18);rintro e w6 ⟨rfl,hi,hb,hk⟩;refine ⟨_,rfl,?_⟩;replace HK:=am (jb.trans (Y17) hk (.inl rfl));replace HB:=am (hb);replace HI0:=am (hi);(try clear hb);(try clear hb2);(try clear hk);(try clear hi);have p396:0≤(t394:Int):=ozD (uq);have q396:t394<(l1.length:Int):=ozD (uq);obtain ⟨ad396,e396,hx396_0⟩:=Kd.at_string HR1.out t394 p396 q396;cases e396;replace hx396_0:=keep_cell HK.out hx396_0 (by first |(rw [add_block];exact hf1 _ rfl (by omega)) | exact hf1 _ rfl (by omega) | exact hf1 ad396 rfl (by omega));replace p396:=ezT p396;replace q396:=ezT q396))
   go_ret
   exact ⟨Y0,Y16,Y18,Y17⟩
  ·rw [if_neg c5] at H
   exact absurd H (by simp)
 ·rw [if_neg c4] at H
  exact absurd H (by simp)
end Go.Proofs.Ytbcjbcjpoddkoaa.P
end
