/- One part of the proofs on this program: functions of the program as plain functions, that the code comes to them, and facts on them. -/
import Derived.Shelf.Sort.Plain
import Derived.Test.YtlhfcmbkjddgiaaYAll1
import Derived.Test.YtlhfcmbkjddgiaaYAll2
import Derived.Test.YtlhfcmbkjddgiaaYAll5
import Derived.Test.YtlhfcmbkjddgiaaYWAuto
section
namespace Go.Proofs.Ytlhfcmbkjddgiaa.P
open Go.RowKit Go.Proofs.YtlhfcmbkjddgiaaW.PrintWords Go.Proofs.YtlhfcmbkjddgiaaW.PrintLast Go.Proofs.YtlhfcmbkjddgiaaW.PrintMore
attribute [local go_sem] jX jV jka jja jN jM jW jU jh
set_option linter.unusedVariables false
set_option linter.unusedSimpArgs false
def sh189_ren : Go.Shelf.Ren := ⟨fun | 189 => 121 | 125 => 123 | 257 => 122 | 128 => 133 | 129 => 134 | 294 => 124 | 295 => 125 | 296 => 126 | 297 => 127 | 298 => 128 | 299 => 129 | 216 => 130 | 300 => 131 | 301 => 132 | 328 => 135 | 329 => 136 | 330 => 137 | 331 => 138 | 332 => 139 | 215 => 140 | 343 => 141 | n => n, fun | 28 => 45 | 3 => 3 | 46 => 153 | 0 => 0 | 51 => 163 | 53 => 165 | 4 => 4 | 183 => 156 | 182 => 155 | 131 => 160 | 5 => 5 | 9 => 9 | 218 => 166 | 222 => 170 | 228 => 172 | 229 => 173 | n => n, fun | n => n⟩
theorem sh189 : Go.Proofs.Lays.n189 Try.prog sh189_ren := {
 mixed:=by kernel_rfl
 f125:=Try.func123.trans (congrArg some (by kernel_rfl))
 f128:=Try.func133.trans (congrArg some (by kernel_rfl))
 f129:=Try.func134.trans (congrArg some (by kernel_rfl))
 f189:=Try.func121.trans (congrArg some (by kernel_rfl))
 f215:=Try.func140.trans (congrArg some (by kernel_rfl))
 f216:=Try.func130.trans (congrArg some (by kernel_rfl))
 f257:=Try.func122.trans (congrArg some (by kernel_rfl))
 f294:=Try.func124.trans (congrArg some (by kernel_rfl))
 f295:=Try.func125.trans (congrArg some (by kernel_rfl))
 f296:=Try.func126.trans (congrArg some (by kernel_rfl))
 f297:=Try.func127.trans (congrArg some (by kernel_rfl))
 f298:=Try.func128.trans (congrArg some (by kernel_rfl))
 f299:=Try.func129.trans (congrArg some (by kernel_rfl))
 f300:=Try.func131.trans (congrArg some (by kernel_rfl))
 f301:=Try.func132.trans (congrArg some (by kernel_rfl))
 f328:=Try.func135.trans (congrArg some (by kernel_rfl))
 f329:=Try.func136.trans (congrArg some (by kernel_rfl))
 f330:=Try.func137.trans (congrArg some (by kernel_rfl))
 f331:=Try.func138.trans (congrArg some (by kernel_rfl))
 f332:=Try.func139.trans (congrArg some (by kernel_rfl))
 f343:=Try.func141.trans (congrArg some (by kernel_rfl))
 t0:=Try.underlying0
 a0:=Try.isAgg0
 z0:=Try.sizeOf0
 v0:=Try.zeroValue0
 t3:=Try.underlying3
 a3:=Try.isAgg3
 z3:=Try.sizeOf3
 v3:=Try.zeroValue3
 t4:=Try.underlying4
 a4:=Try.isAgg4
 z4:=Try.sizeOf4
 v4:=Try.zeroValue4
 t5:=Try.underlying5
 a5:=Try.isAgg5
 z5:=Try.sizeOf5
 v5:=Try.zeroValue5
 t9:=Try.underlying9
 a9:=Try.isAgg9
 z9:=Try.sizeOf9
 v9:=Try.zeroValue9
 t28:=Try.underlying45
 a28:=Try.isAgg45
 z28:=Try.sizeOf45
 v28:=Try.zeroValue45
 t46:=Try.underlying153
 a46:=Try.isAgg153
 z46:=Try.sizeOf153
 v46:=Try.zeroValue153
 t51:=Try.underlying163
 a51:=Try.isAgg163
 z51:=Try.sizeOf163
 v51:=Try.zeroValue163
 t53:=Try.underlying165
 a53:=Try.isAgg165
 z53:=Try.sizeOf165
 v53:=Try.zeroValue165
 t131:=Try.underlying160
 a131:=Try.isAgg160
 z131:=Try.sizeOf160
 v131:=Try.zeroValue160
 t182:=Try.underlying155
 a182:=Try.isAgg155
 z182:=Try.sizeOf155
 v182:=Try.zeroValue155
 t183:=Try.underlying156
 a183:=Try.isAgg156
 z183:=Try.sizeOf156
 v183:=Try.zeroValue156
 t218:=Try.underlying166
 a218:=Try.isAgg166
 z218:=Try.sizeOf166
 v218:=Try.zeroValue166
 t222:=Try.underlying170
 a222:=Try.isAgg170
 z222:=Try.sizeOf170
 v222:=Try.zeroValue170
 t228:=Try.underlying172
 a228:=Try.isAgg172
 z228:=Try.sizeOf172
 v228:=Try.zeroValue172
 t229:=Try.underlying173
 a229:=Try.isAgg173
 z229:=Try.sizeOf173
 v229:=Try.zeroValue173 }
theorem rc0 {w : World} {b : Nat} {v : Value} {l : List Value} {t : TypeId} (h : w.heap[b]? = some (.cells ⟨v :: l⟩ t (0, 0))) : w.cell? ⟨b, 0, none⟩ = some v := (jw h 0).trans rfl
theorem cells_sorted {w : World} {base cap n : Nat} {g : Nat} {xs ys : List Int} {os : Array Obj} {ok : Nat → Prop} (hl : ys.length = xs.length) (h : Kd.R (Kd.int .i64) 3 w base ok (.slice (some ⟨g, 0, none⟩) xs.length cap) xs) :
  Kd.R (Kd.int .i64) 3 (Go.Sort.grow (Go.Sort.putRow (Value.int .i64) (Go.Sort.ahead w n) g 0 ys.toArray) os) base ok (.slice (some ⟨g,0,none⟩) xs.length cap) ys∧Below base w (Go.Sort.grow (Go.Sort.putRow (Value.int .i64) (Go.Sort.ahead w n) g 0 ys.toArray) os):=by
 have ho:=Kd.own_of_R h
 obtain ⟨e1,h2 | ⟨g',cap',cur,hv,hb,hh,h1,h3,h4,h5⟩⟩:=ho
 ·exact absurd h2.1 (by simp)
 ·simp only [Value.slice.injEq,Option.some.injEq,Addr.mk.injEq,and_true,true_and] at hv
  obtain ⟨rfl,rfl⟩:=hv
  have hlt:g<w.heap.size:=(Array.getElem?_eq_some_iff.1 hh).1
  have hg:∀ k,k<w.heap.size→k≠g→(Go.Sort.grow (Go.Sort.putRow (Value.int .i64) (Go.Sort.ahead w n) g 0 ys.toArray) os).heap[k]?=w.heap[k]?:=by
   intro k hk hne
   simp only [Go.Sort.grow,Go.Sort.putRow,Go.Sort.mapBlock,Go.Sort.ahead]
   rw [Array.getElem?_append_left (by simpa using hk),Array.getElem?_modify,if_neg (fun e=>hne e.symm)]
  have hgg:(Go.Sort.grow (Go.Sort.putRow (Value.int .i64) (Go.Sort.ahead w n) g 0 ys.toArray) os).heap[g]?=some (.cells (Go.Sort.putCells (Value.int .i64) 0 ys.toArray cur) 3 (0,0)):=by
   simp only [Go.Sort.grow,Go.Sort.putRow,Go.Sort.mapBlock,Go.Sort.ahead]
   rw [Array.getElem?_append_left (by simpa using hlt),Array.getElem?_modify,if_pos rfl,hh]
   rfl
  refine ⟨?_,⟨rfl,rfl,rfl,by simp [Go.Sort.grow,Go.Sort.putRow,Go.Sort.mapBlock,Go.Sort.ahead],fun k hk=>hg k (by omega) (by omega)⟩⟩
  rw [← hl]
  refine Kd.R_of_own ⟨by simp [encs], .inr ⟨g,cap,_,rfl,hb,hgg,by omega,h3,by simpa [Go.Sort.putCells] using h4,?_⟩⟩ h.1
  apply List.ext_getElem?
  intro j
  simp only [List.getElem?_take,encs,Go.Sort.putCells,Array.toList_mapIdx,List.getElem?_mapIdx,Array.getElem?_toList,List.getElem?_map,List.size_toArray,Nat.mul_one,Nat.zero_le,true_and,Nat.zero_add,Nat.sub_zero]
  by_cases hj:j<ys.length
  ·rw [if_pos hj]
   have hc:j<cur.size:=by omega
   rw [Array.getElem?_eq_getElem hc,List.getElem?_eq_getElem hj]
   simp [hj]
  ·rw [if_neg hj,List.getElem?_eq_none (by omega)];rfl
theorem slices_Sort_row (l : List Int) (base : Nat) (ok : Nat → Prop) (g cap : Nat) (w : World) (hR : Kd.R (Kd.int .i64) 3 w base ok (.slice (some ⟨g, 0, none⟩) l.length cap) l) (hsz : l.length < 4611686018427387904) :
  Calls Try.prog 121 #[.slice (some ⟨g,0,none⟩) l.length cap] w fun e w'=>e=.returned (.tuple #[])∧Kd.R (Kd.int .i64) 3 w' base ok (.slice (some ⟨g,0,none⟩) l.length cap) (l.mergeSort fun x y=>decide (x≤y))∧Below base w w':=by
 have hH:Go.Sort.Holds (Value.int .i64) w g 0 l.toArray:=fun j hj=>by
  have hj':j<l.length:=by simpa using hj
  have h:=Kd.R_cell (0:Int) hR (j:Int) (by omega) (by omega)
  rw [Int.toNat_natCast] at h
  refine ⟨?_,by simpa using h.2⟩
  have e:rdOf (0:Int) l (j:Int)=l.toArray[j]!:=by simp [rdOf,hj']
  rw [Nat.zero_add,h.1,e]
 have hlt:g<w.heap.size:=Kd.R_lt hR g rfl
 have hs:=Go.Proofs.Any.slices_Sort_int sh189 g 0 cap l w hH hlt hsz
 refine Calls.mono (show Calls Try.prog 121 _ w _ from hs) ?_
 rintro e w' ⟨rfl,n,os,rfl⟩
 obtain ⟨h1,h2⟩:=cells_sorted (n:=n) (os:=os) (ys:=l.mergeSort fun x y=>decide (x≤y)) (List.length_mergeSort _) hR
 exact ⟨rfl,h1,h2⟩
def rcStep (k : Nat) (out : List Int) (g : Int) : Option (List Int) := if g ≥ 0 then ((jK.f k out g).bind fun b => if b = true then some out else (if out.length < 17592186044416 then some (out ++ [g]) else none)) else some out
def rcAll (k : Nat) : List Int → List Int → Option (List Int)
 | [],out=>some out
 | g :: gs,out=>(rcStep k out g).bind fun o=>rcAll k gs o
def rcGo (h : List S90) : Nat → Nat → List Int → Option (List Int)
 | 0,_,_=>none
 | k+1,i,out=>if i<out.length then (if 0≤rd out (i:Int) then (if rd out (i:Int)<(h.length:Int) then ((rcAll k [(jl h (rd out (i:Int))).f2,(jl h (rd out (i:Int))).f3] out).bind fun o=>rcGo h k (i+1) o) else none) else none) else some out
def jlb.f (k : Nat) (l0_0 : List S90) (a1 : Int) : Option (List Int) := (rcGo l0_0 k 0 [a1]).bind fun l => if 0 < l.length ∧ l.length < 4611686018427387904 then some (l.mergeSort fun x y => decide (x ≤ y)) else none
theorem pairAt {g1 g2 : Int} {j : Nat} (h : j < 2) : [g1, g2].drop j = (if j = 0 then g1 else g2) :: [g1, g2].drop (j + 1) := by
 rcases (by omega:j=0∨j=1) with rfl | rfl <;> rfl
theorem pairCell {w : World} {b : Nat} {g1 g2 : Int} {t : TypeId} (h : w.heap[b]? = some (.cells #[.int .i64 g1, .int .i64 g2] t (0, 0))) {j : Nat} (hj : j < 2) : w.cell? ⟨b, j, none⟩ = some (.int .i64 (if j = 0 then g1 else g2)) := by
 rcases (by omega:j=0∨j=1) with rfl | rfl
 ·exact (jw h 0).trans rfl
 ·exact (jw h 1).trans rfl
set_option maxHeartbeats 8000000 in
set_option maxRecDepth 100000 in
theorem jlb.calls (k : Nat) (A0 : Option Addr) (c0 : Nat) (l0 : List (S90)) (a1 : Int) (r : List Int) (w : World) (hr0 : Kd.C k90 w A0 l0.length l0) (hc0 : l0.length ≤ c0) (h : jlb.f k l0 a1 = some r) :
  Calls Try.prog 118 #[.agg #[.slice A0 l0.length c0], .int .i64 a1] w fun e w'=>∃ v0_:Value,e=.returned (v0_)∧Kd.R (Kd.int .i64) 3 w' w.heap.size (fun _=>True) v0_ r∧Below w.heap.size w w':=by
 have hu53:=Try.underlying53
 have hu90:=Try.underlying90
 have HRH:=am hr0
 obtain ⟨l,hl,h⟩:=bzS h
 have H':=am hl
 have HZ:=am h
 have HB:=am ((Below.refl w.heap.size w).alloc (Nat.le_refl _) (.cells #[.slice A0 l0.length c0] 53))
 have BH:=am (heap_alloc_new w (.cells #[.slice A0 l0.length c0] 53))
 clear hr0 h hl
 go_enter Try.func118,Try.ntmps118
 go_wp2_with ((with_reducible refine jG (N:=10) rfl ?_);refine Kd.R_lit (Kd.int .i64) _ 3 ?hg (N:=10) ?hd (xs:=[a1]) (inner:=[.int .i64 a1]) (ok:=fun _=>True) (okp:=fun _=>True) ?hr ?hp (fun _ hk=>hk) trivial (Below.refl _ _) (Nat.le_refl _) (by simp) ?_;(case hd=>rfl);(case hg=>rfl);(case hr=>exact Y3);(case hp=>exact (Reps.one (show Kd.M (Kd.int .i64) _ _ _ a1 [.int .i64 a1] from rfl) (Reps.none _ _)));intro v111 w4 ho5 hb hg_ hnew_;clear hg_ hnew_;have n0_:=am (Kd.jpa ho5 (jba (bq)));have n1_:=am (jc (g:=w.heap.size) (o:=.cells #[.slice A0 l0.length c0] 53 (0,0)) (by first | exact BH.out |((with_reducible repeat (first | refine jd ?_ _ | refine jf ?_ | refine jb ?_ _));exact BH.out)) hb);have n2_:=am (jg (bq) hb);clear HB BH;have HO:=n0_;have BH:=n1_;have HB:=n2_;clear n0_ n1_ n2_ hb ho5)
 go_loopg [5,6] k (fun kq v5 v6 w'=>∃ (i:Nat) (out:List Int),v6=.int .i64 i∧i≤out.length∧jE (rcGo l0 kq i out=some l)∧jE (kq≤k)∧jE (Kd.R (Kd.int .i64) 3 w' w.heap.size (fun _=>True) v5 out)∧jE (w'.heap[w.heap.size]?=some (.cells #[.slice A0 l0.length c0] 53 (0,0)))∧jE (Below w.heap.size w w'))
 case atStart=>exact ⟨0,[a1],rfl,by simp,H',⟨Nat.le_refl _⟩,HO,BH,HB⟩
 case round =>
  clear H' HO BH HB
  obtain ⟨i,out,rfl,hi,HA,HK1,HO,BH,HB⟩:=hrel
  cases gk with
  | zero=>exact absurd HA.out (by simp [rcGo])
  | succ k1 =>
   have H:=HA.out
   clear HA
   rw [rcGo] at H
   obtain ⟨Ao,co,eo⟩:=Kd.jga HO.out
   subst eo
   have hm:out.length≤9223372036854775807:=Kd.C_max (Kd.jC HO.out).2.2
   by_cases hlt:i<out.length
   ·rw [if_pos hlt] at H
    by_cases h0:0≤rd out (i:Int)
    ·rw [if_pos h0] at H
     by_cases h1:rd out (i:Int)<(l0.length:Int)
     ·rw [if_pos h1] at H
      obtain ⟨o2,hA,H⟩:=bzS H
      have HN:=am H
      have HS:=am hA
      clear H hA
      have cH:=rc0 BH.out
      obtain ⟨ad,rfl,hz⟩:=Kd.jsb (Kd.jC HO.out).2.2 (i:Int) (by omega) (by omega)
      rw [Int.toNat_natCast] at hz
      obtain ⟨ad3,e3,y0,y1,y2,y3,y4⟩:=at_T90 (Kd.jZ HRH.out HB.out) (rd out (i:Int)) h0 h1
      cases e3
      have p0:=ezT h0
      have p1:=ezT h1
      clear h0 h1
      generalize hgz:rd out (i:Int)=z at hz y0 y1 y2 y3 y4 p0 p1 HS
      clear hgz
      have hlb:=ezT hlt
      go_wp2
      refine wp_region_held (S:=fun W=>W.cell? ⟨w.heap.size,0,none⟩=some (.slice (some ad3) l0.length c0)∧W.cell? (ad.add i)=some (.int .i64 z)∧W.cell? ⟨(ad3.add (z.toNat * 5)).block,(ad3.add (z.toNat * 5)).off+2,none⟩=some (.int .i64 (jl l0 z).f2)∧W.cell? ⟨(ad3.add (z.toNat * 5)).block,(ad3.add (z.toNat * 5)).off+3,none⟩=some (.int .i64 (jl l0 z).f3)) (by kernel_rfl) ?_
      change wpAnyH _ _ _ _ _ _ _ _ (World.drew _)
      have hS0:(fun W=>W.cell? ⟨w.heap.size,0,none⟩=some (.slice (some ad3) l0.length c0)∧W.cell? (ad.add i)=some (.int .i64 z)∧W.cell? ⟨(ad3.add (z.toNat * 5)).block,(ad3.add (z.toNat * 5)).off+2,none⟩=some (.int .i64 (jl l0 z).f2)∧W.cell? ⟨(ad3.add (z.toNat * 5)).block,(ad3.add (z.toNat * 5)).off+3,none⟩=some (.int .i64 (jl l0 z).f3)) wr.drew:=⟨cH,hz,y2,y3⟩
      have HB2:=am (jD HB.out)
      have BH2:=am (jf BH.out)
      have HO2:=am (Kd.jma HO.out)
      obtain ⟨W2,hW2⟩:∃ W2,W2=wr.drew:=⟨_,rfl⟩
      rw [← hW2] at hS0 HB2 BH2 HO2
      rw [← hW2]
      clear hW2 cH hz y0 y1 y2 y3 y4 HB BH HO
      refine wpAnyH_take (i:=0) (v:=?_) rfl (by kernel_rfl) (by kernel_rfl) (by kernel_rfl) (fun _ _ _ h=>h) (Or.inl ⟨by rfl,?_⟩) hS0 ?_
      rotate_left
      ·rintro W ⟨s1,s2,s3,s4⟩
       go_simp
       with_reducible rfl
      refine wpAnyH_take (i:=1) (v:=?_) rfl (by kernel_rfl) (by kernel_rfl) (by kernel_rfl) (fun _ _ _ h=>h) (Or.inl ⟨by rfl,?_⟩) hS0 ?_
      rotate_left
      ·rintro W ⟨s1,s2,s3,s4⟩
       go_simp
       with_reducible rfl
      refine wpAnyH_take (i:=2) (v:=?_) rfl (by kernel_rfl) (by kernel_rfl) (by kernel_rfl) (fun _ _ _ h=>h) (Or.inl ⟨by rfl,?_⟩) hS0 ?_
      rotate_left
      ·rintro W ⟨s1,s2,s3,s4⟩
       go_simp
       with_reducible rfl
      refine wpAnyH_take (i:=3) (v:=?_) rfl (by kernel_rfl) (by kernel_rfl) (by kernel_rfl) (fun _ _ _ h=>h) (Or.inl ⟨by rfl,?_⟩) hS0 ?_
      rotate_left
      ·rintro W ⟨s1,s2,s3,s4⟩
       go_simp
       with_reducible rfl
      refine wpAnyH_take (i:=4) (v:=?_) rfl (by kernel_rfl) (by kernel_rfl) (by kernel_rfl) (fun _ _ _ h=>h) (Or.inl ⟨by rfl,?_⟩) hS0 ?_
      rotate_left
      ·rintro W ⟨s1,s2,s3,s4⟩
       go_simp
       with_reducible rfl
      refine wpAnyH_take (i:=5) (v:=?_) rfl (by kernel_rfl) (by kernel_rfl) (by kernel_rfl) (fun _ _ _ h=>h) (Or.inl ⟨by rfl,?_⟩) hS0 ?_
      rotate_left
      ·rintro W ⟨s1,s2,s3,s4⟩
       go_simp
       with_reducible rfl
      refine wpAnyH_take (i:=6) (v:=?_) rfl (by kernel_rfl) (by kernel_rfl) (by kernel_rfl) (fun _ _ _ h=>h) (Or.inl ⟨by rfl,?_⟩) hS0 ?_
      rotate_left
      ·rintro W ⟨s1,s2,s3,s4⟩
       go_simp
       with_reducible rfl
      refine wpAnyH_take (i:=7) (v:=?_) rfl (by kernel_rfl) (by kernel_rfl) (by kernel_rfl) (fun _ _ _ h=>h) (Or.inl ⟨by rfl,?_⟩) hS0 ?_
      rotate_left
      ·rintro W ⟨s1,s2,s3,s4⟩
       go_simp
       with_reducible rfl
      refine wpAnyH_take (i:=8) (v:=?_) rfl (by kernel_rfl) (by kernel_rfl) (by kernel_rfl) (fun _ _ _ h=>h) (Or.inl ⟨by rfl,?_⟩) hS0 ?_
      rotate_left
      ·rintro W ⟨s1,s2,s3,s4⟩
       go_simp
       with_reducible rfl
      refine wpAnyH_take (i:=9) (v:=?_) rfl (by kernel_rfl) (by kernel_rfl) (by kernel_rfl) (fun _ _ _ h=>h) (Or.inl ⟨by rfl,?_⟩) hS0 ?_
      rotate_left
      ·rintro W ⟨s1,s2,s3,s4⟩
       go_simp
       with_reducible rfl
      refine wpAnyH_take (i:=10) (v:=?_) rfl (by kernel_rfl) (by kernel_rfl) (by kernel_rfl) (fun _ _ _ h=>h) (Or.inl ⟨by rfl,?_⟩) hS0 ?_
      rotate_left
      ·rintro W ⟨s1,s2,s3,s4⟩
       go_simp
       with_reducible rfl
      refine wpAnyH_take (i:=11) (v:=?_) rfl (by kernel_rfl) (by kernel_rfl) (by kernel_rfl) (fun _ _ _ h=>h) (Or.inl ⟨by rfl,?_⟩) hS0 ?_
      rotate_left
      ·rintro W ⟨s1,s2,s3,s4⟩
       go_simp
       with_reducible rfl
      refine wpAnyH_take (i:=12) (v:=?_) rfl (by kernel_rfl) (by kernel_rfl) (by kernel_rfl) (fun _ _ _ h=>h) (Or.inl ⟨by rfl,?_⟩) hS0 ?_
      rotate_left
      ·rintro W ⟨s1,s2,s3,s4⟩
       go_simp
       with_reducible rfl
      refine wpAnyH_take (i:=13) (v:=?_) rfl (by kernel_rfl) (by kernel_rfl) (by kernel_rfl) (fun _ _ _ h=>h) (Or.inl ⟨by rfl,?_⟩) hS0 ?_
      rotate_left
      ·rintro W ⟨s1,s2,s3,s4⟩
       go_simp
       with_reducible rfl
      refine wpAnyH_take (i:=14) (v:=?_) rfl (by kernel_rfl) (by kernel_rfl) (by kernel_rfl) (fun _ _ _ h=>h) (Or.inl ⟨by rfl,?_⟩) hS0 ?_
      rotate_left
      ·rintro W ⟨s1,s2,s3,s4⟩
       go_simp
       with_reducible rfl
      refine wpAnyH_take (i:=15) (v:=?_) rfl (by kernel_rfl) (by kernel_rfl) (by kernel_rfl) (fun _ _ _ h=>h) (Or.inl ⟨by rfl,?_⟩) hS0 ?_
      rotate_left
      ·rintro W ⟨s1,s2,s3,s4⟩
       go_simp
       with_reducible rfl
      refine wpAnyH_take (i:=16) (v:=?_) rfl (by kernel_rfl) (by kernel_rfl) (by kernel_rfl) (fun _ _ _ h=>h) (Or.inl ⟨by rfl,?_⟩) hS0 ?_
      rotate_left
      ·rintro W ⟨s1,s2,s3,s4⟩
       go_simp
       with_reducible rfl
      refine wpAnyH_take (i:=17) (v:=?_) rfl (by kernel_rfl) (by kernel_rfl) (by kernel_rfl) (fun _ _ _ h=>h) (Or.inl ⟨by rfl,?_⟩) hS0 ?_
      rotate_left
      ·rintro W ⟨s1,s2,s3,s4⟩
       go_simp
       with_reducible rfl
      refine wpAnyH_take (i:=20) (v:=?_) rfl (by kernel_rfl) (by kernel_rfl) (by kernel_rfl) (fun _ _ _ h=>h) (Or.inl ⟨by rfl,?_⟩) hS0 ?_
      rotate_left
      ·rintro W ⟨s1,s2,s3,s4⟩
       go_simp
       with_reducible rfl
      refine wpAnyH_all (rs:=[18]) (by kernel_rfl) (by simp) ?_
      intro ii hii
      obtain rfl:ii=18:=by simpa using hii
      clear hii
      refine wpOp_step rfl (fun K hK=>?_)
      go_simp
      have hS1:=(⟨jP ((Below.refl _ W2).alloc (Nat.le_refl _) (.cells #[.int .i64 (jl l0 z).f2, .int .i64 (jl l0 z).f3] 3)) hS0.1,jP ((Below.refl _ W2).alloc (Nat.le_refl _) (.cells #[.int .i64 (jl l0 z).f2, .int .i64 (jl l0 z).f3] 3)) hS0.2.1,jP ((Below.refl _ W2).alloc (Nat.le_refl _) (.cells #[.int .i64 (jl l0 z).f2, .int .i64 (jl l0 z).f3] 3)) hS0.2.2.1,jP ((Below.refl _ W2).alloc (Nat.le_refl _) (.cells #[.int .i64 (jl l0 z).f2, .int .i64 (jl l0 z).f3] 3)) hS0.2.2.2⟩:(fun W=>W.cell? ⟨w.heap.size,0,none⟩=some (.slice (some ad3) l0.length c0)∧W.cell? (ad.add i)=some (.int .i64 z)∧W.cell? ⟨(ad3.add (z.toNat * 5)).block,(ad3.add (z.toNat * 5)).off+2,none⟩=some (.int .i64 (jl l0 z).f2)∧W.cell? ⟨(ad3.add (z.toNat * 5)).block,(ad3.add (z.toNat * 5)).off+3,none⟩=some (.int .i64 (jl l0 z).f3)) (W2.alloc (.cells #[.int .i64 (jl l0 z).f2, .int .i64 (jl l0 z).f3] 3)))
      refine hK _ _ ⟨hS1,?_⟩
      clear hK K
      refine wpAnyH_all (rs:=[19]) (by kernel_rfl) (by simp) ?_
      intro ii hii
      obtain rfl:ii=19:=by simpa using hii
      clear hii
      refine wpOp_step rfl (fun K hK=>?_)
      go_simp
      refine hK _ _ ⟨hS1,?_⟩
      clear hK K
      refine wpAnyH_done (by kernel_rfl) ?_ _
      have HO:=am (Kd.jda (Kd.jJ (Kd.jUb HO2.out) (fun k hk=>Nat.ne_of_lt hk.2.2.1)) (.cells #[.int .i64 (jl l0 z).f2, .int .i64 (jl l0 z).f3] 3))
      have LB:=am (heap_alloc_new W2 (.cells #[.int .i64 (jl l0 z).f2, .int .i64 (jl l0 z).f3] 3))
      have BH:=am (jb BH2.out (.cells #[.int .i64 (jl l0 z).f2, .int .i64 (jl l0 z).f3] 3))
      have HB:=am (jF HB2.out (.cells #[.int .i64 (jl l0 z).f2, .int .i64 (jl l0 z).f3] 3))
      have HLE:=am (Nat.le_refl out.length)
      clear hS0 hS1 HO2 BH2 HB2
      generalize hgl:W2.heap.size=gl at HO LB ⊢
      rename_i K9 hK9
      refine hK9 _ _ ?_
      go_wp2
      go_loopw [5,37] (fun v5 v37 w3=>∃ (j:Nat) (o:List Int),j≤2∧v37=.int .i64 j∧jE (rcAll k1 ([(jl l0 z).f2,(jl l0 z).f3].drop j) o=some o2)∧jE (out.length≤o.length)∧jE (Kd.R (Kd.int .i64) 3 w3 w.heap.size (fun k=>k≠gl) v5 o)∧jE (w3.heap[gl]?=some (.cells #[.int .i64 (jl l0 z).f2, .int .i64 (jl l0 z).f3] 3 (0,0)))∧jE (w3.heap[w.heap.size]?=some (.cells #[.slice (some ad3) l0.length c0] 53 (0,0)))∧jE (Below w.heap.size w w3)) (fun _ v37 _=>2 - (intOf v37).toNat)
      case atStart=>exact ⟨0,out,by omega,rfl,HS,HLE,HO,LB,BH,HB⟩
      case round =>
       clear HS HLE HO LB BH HB hgl
       obtain ⟨j,o,hj,rfl,HS,HLE,HO,LB,BH,HB⟩:=hrel
       obtain ⟨Ao2,co2,eo⟩:=Kd.jga HO.out
       subst eo
       by_cases hj2:j<2
       ·have hS:=HS.out
        rw [pairAt hj2,rcAll] at hS
        have cx:=pairCell LB.out hj2
        generalize (if j=0 then (jl l0 z).f2 else (jl l0 z).f3)=x at hS cx
        obtain ⟨o',hs1,hs2⟩:=bzS hS
        have HR2:=am hs2
        have hjb:=ezT (show (j:Int)<2 by omega)
        clear HS hS hs2
        unfold rcStep at hs1
        by_cases c6:x≥0
        ·rw [if_pos c6] at hs1
         have c6b0:decide (0≤x)=true:=dzT c6
         clear c6
         obtain ⟨b,A70,hs1⟩:=bzS hs1
         have A7:=am A70
         clear A70
         cases b with
         | true =>
          rw [if_pos rfl] at hs1
          obtain rfl:=Option.some.inj hs1
          clear hs1
          go_wp2_with (go_at_call 106;(with_reducible refine (jK.calls k1 _ _ o x true _ ?side1 ?side2 A7.out).mono ?_);(case side1=>exact cq (Kd.jC HO.out).2.2);(case side2=>exact (Kd.jC HO.out).2.1);rintro e w' ⟨rfl,⟨nd,rfl⟩⟩)
          go_roundw
          case rel=>exact ⟨j+1,o,by omega,by go_num,HR2,⟨by have:=HLE.out;omega⟩,⟨rq HO.out⟩,⟨kq LB.out⟩,⟨kq BH.out⟩,⟨(bq)⟩⟩
          case measure=>simp [intOf];omega
         | false =>
          rw [if_neg (by simp)] at hs1
          by_cases c10:o.length<17592186044416
          ·rw [if_pos c10] at hs1
           obtain rfl:=Option.some.inj hs1
           have LM:=am c10
           clear c10 hs1
           go_wp2_with (first |(go_at_call 106;(with_reducible refine (jK.calls k1 _ _ o x false _ ?side1 ?side2 A7.out).mono ?_);(case side1=>exact cq (Kd.jC HO.out).2.2);(case side2=>exact (Kd.jC HO.out).2.1);rintro e w' ⟨rfl,⟨nd,rfl⟩⟩) |((with_reducible refine jpb (b:=.append) (xs:=#[.tmp 49, .tmp 51]) rfl ?_);at_builtin;refine Kd.jWb (Kd.int .i64) (w0:=w) w.heap.size rfl (.tmp 49) (.tmp 51) 45 3 (.int .i64 0) 8 rfl Try.underlying45 info3 rfl (by decide) (by omega) (.slice Ao2 o.length co2) o x [.int .i64 x] (fun k=>k≠gl) (fun _=>False) rfl rfl ?aP (fun _ hk=>hk.elim) ?aF ?aO ?aB ?aS ?aL ?_;(case aP=>exact rfl);(case aB=>exact (bq));(case aF=>intro q hq hqe;have h1:=jva LB.out;subst hqe;simp at hq;omega);(case aO=>exact (rq HO.out));(case aS=>exact (jba (bq)));(case aL=>have:=LM.out;omega);intro v115 w14 ho hb hg hat;have n1_:=am (hb);have n2_:=am (ho);have n3_:=am (jqa (g:=gl) (o:=.cells #[.int .i64 (jl l0 z).f2, .int .i64 (jl l0 z).f3] 3 (0,0)) (kq LB.out) hg (Kd.R_away HO.out (fun q hq=>hq)));have n4_:=am (jqa (g:=w.heap.size) (o:=.cells #[.slice (some ad3) l0.length c0] 53 (0,0)) (kq BH.out) hg (Kd.R_ne HO.out BH.out (by decide)));clear HB HO LB BH;have HB:=n1_;have HO:=n2_;have LB:=n3_;have BH:=n4_;clear n1_ n2_ n3_ n4_ ho hb hg hat))
           go_roundw
           case rel=>exact ⟨j+1,o ++ [x],by omega,by go_num,HR2,⟨by have:=HLE.out;rw [List.length_append];omega⟩,⟨rq HO.out⟩,⟨kq LB.out⟩,⟨kq BH.out⟩,⟨(bq)⟩⟩
           case measure=>simp [intOf];omega
          ·rw [if_neg c10] at hs1;cases hs1
        ·rw [if_neg c6] at hs1
         have c6b0:decide (0≤x)=false:=dzF c6
         obtain rfl:=Option.some.inj hs1
         clear c6 hs1
         go_wp2
         go_roundw
         case rel=>exact ⟨j+1,o,by omega,by go_num,HR2,⟨by have:=HLE.out;omega⟩,⟨rq HO.out⟩,⟨kq LB.out⟩,⟨kq BH.out⟩,⟨(bq)⟩⟩
         case measure=>simp [intOf];omega
       ·obtain rfl:j=2:=by omega
        obtain rfl:=Option.some.inj (show some o=some o2 from HS.out)
        go_wp2
        go_roundg k1
        case measure=>have:=HK1.out;omega
        case rel=>exact ⟨i+1,o,by go_num,by have:=HLE.out;omega,HN,⟨by have:=HK1.out;omega⟩,⟨by (with_reducible repeat (first | apply Kd.jda | apply Kd.jfa | apply Kd.jma));exact Kd.jJ HO.out (fun _ _=>trivial)⟩,⟨kq BH.out⟩,⟨(bq)⟩⟩
     ·rw [if_neg h1] at H;cases H
    ·rw [if_neg h0] at H;cases H
   ·rw [if_neg hlt] at H
    obtain rfl:=Option.some.inj H
    have hZ:=HZ.out
    by_cases hz0:0<out.length∧out.length<4611686018427387904
    ·rw [if_pos hz0] at hZ
     obtain rfl:=Option.some.inj hZ
     obtain ⟨g,cap,hv,_,_,_⟩:=Kd.R_form HO.out hz0.1
     injection hv with hA1 hA2 hA3
     subst hA1
     have HSZ:=am hz0.2
     have hlb:=eq_false hlt
     clear H hZ hz0 HZ hA2 hA3
     go_wp2_with (first |(go_at_call 121;refine (slices_Sort_row out w.heap.size (fun _=>True) g co _ (rq HO.out) HSZ.out).mono ?_;rintro e w5 ⟨rfl,hs,hb5⟩;have n0_:=am hs;have n1_:=am (Below.trans (bq) hb5);clear HO HB;have HO:=n0_;have HB:=n1_;clear n0_ n1_ hs hb5) |(go_at_call 111;refine (jQa.calls (fun _=>True) _ (out.mergeSort fun x y=>decide (x≤y)) (out.mergeSort fun x y=>decide (x≤y)) w _ (bq) (rq HO.out) (show jQa.f (out.mergeSort fun x y=>decide (x≤y))=some (out.mergeSort fun x y=>decide (x≤y)) from rfl)).mono ?_;rintro e w9 ⟨v9,rfl,hR9,hB9,hK9⟩))
     go_ret
     exact ⟨_,rfl,Kd.jJ hR9 (fun _ _=>trivial),hB9⟩
    ·rw [if_neg hz0] at hZ;cases hZ
def jQ.l0 : Nat → Int → List Int → List Int → Int → Int → List (S90) → List (S90) → Option ((List (S90)) × Int)
 | 0,_,_,_,_,_,_,_=>none
 | k+1,x1,x6,x18,x19,x20,x638000,x646000=>if x20<x19 then (if 0≤x20 then (if x20<(x18.length:Int) then (if 0≤(rd x18 x20) then (if (rd x18 x20)<(x638000.length:Int) then ((jv.f k x6 ((jl x638000 (rd x18 x20)).f2)).bind fun t650=>((jv.f k x6 ((jl x638000 (rd x18 x20)).f3)).bind fun t651=>(if x646000.length<3518437208883 then (jQ.l0 k x1 x6 x18 x19 (wrap64 (x20+1)) x638000 (x646000 ++ [(⟨(jl x638000 (rd x18 x20)).f0,(jl x638000 (rd x18 x20)).f1,t650,t651,(jl x638000 (rd x18 x20)).f4⟩:S90)])) else (none)))) else (none)) else (none)) else (none)) else (none)) else ((jv.f k x6 x1).bind fun t646=>(some (x646000,t646)))
def jQ.f (k : Nat) (l0_0 : List (S90)) (a1 : Int) : Option ((List (S90)) × Int) := (jlb.f k l0_0 a1).bind fun t639 => (if 0 ≤ (t639.length : Int) then (if ((t639.length : Int) : Int).toNat ≤ 7036874417766 then (jQ.l0 k a1 t639 t639 (t639.length : Int) 0 l0_0 (([] : List (S90)))) else (none)) else (none))
def jQ.T7 : Bool × List (List Nat × List Nat) := (true, [([], []), ([], []), ([1], [1]), ([0, 2], [0, 2]), ([], []), ([], []), ([5], [5]), ([4, 6, 3], [4, 6]), ([0, 1, 2, 3, 5, 6], []), ([8, 3, 7, 0, 1, 2, 3, 5, 6], [3, 8]), ([0, 1, 2, 3, 4, 5, 6, 7, 8, 9], []), ([10, 7, 9, 0, 1, 2, 3, 4, 5, 6, 7, 8, 9], [7, 10])])
def jQ.B7 : List Nat := [0, 0, 2, 7, 0, 0, 32, 127, 111, 511, 1023, 2047]
theorem jQ.tab7 : rtab .any (opsOf Try.f112 7) = jQ.T7 := by kernel_rfl
theorem jQ.bits7 : jpc jQ.T7.2 jQ.B7 = true := by kernel_rfl
set_option maxHeartbeats 8000000 in
set_option maxRecDepth 100000 in
theorem jQ.calls (k : Nat) (A0_0 : Option Addr) (c0_0 : Nat) (l0_0 : List (S90)) (a1 : Int) (r1 : List (S90)) (r2 : Int) (w : World) (hr0_0 : Kd.C k90 w A0_0 l0_0.length l0_0) (hc0_0 : l0_0.length ≤ c0_0) (h : jQ.f k l0_0 a1 = some (r1, r2)) :
  Calls Try.prog 112 #[.agg #[.slice A0_0 l0_0.length c0_0], .int .i64 a1] w fun e w'=>∃ v0_:Value,e=.returned (.tuple #[.agg #[v0_], .int .i64 r2])∧Kd.R k90 90 w' w.heap.size (fun _=>True) v0_ r1∧Below w.heap.size w w':=by
 have hu53:=Try.underlying53
 have hu90:=Try.underlying90
 have HR0_0:=am hr0_0
 have HC0_0:=am hc0_0
 clear hr0_0 hc0_0
 have HB:=am (Below.refl w.heap.size w)
 have H:((jlb.f k l0_0 a1).bind fun t639=>(if 0≤(t639.length:Int) then (if ((t639.length:Int):Int).toNat≤7036874417766 then (jQ.l0 k a1 t639 t639 (t639.length:Int) 0 l0_0 (([]:List (S90)))) else (none)) else (none)))=some (r1,r2):=h
 clear h
 replace H:=bzS H
 obtain ⟨t639,A30,H⟩:=H
 replace H:(if 0≤(t639.length:Int) then (if ((t639.length:Int):Int).toNat≤7036874417766 then (jQ.l0 k a1 t639 t639 (t639.length:Int) 0 l0_0 (([]:List (S90)))) else (none)) else (none))=some (r1,r2):=H
 have A3:=am A30
 clear A30
 by_cases c4:0≤(t639.length:Int)
 ·rw [if_pos c4] at H
  have c4b0:=ezT c4
  have c4b1:decide (0≤(t639.length:Int))=true:=dzT c4
  clear c4
  by_cases c5:((t639.length:Int):Int).toNat≤7036874417766
  ·rw [if_pos c5] at H
   have c5b0:=ezT c5
   have c5b1:decide (((t639.length:Int):Int).toNat≤7036874417766)=true:=dzT c5
   clear c5
   obtain ⟨y642,hy642⟩:∃ y_:List (S90),y_=(([]:List (S90))):=⟨_,rfl⟩
   replace H:(jQ.l0 k a1 t639 t639 (t639.length:Int) 0 l0_0 y642)=some (r1,r2):=by first |(rw [hy642];with_reducible exact H) |(have H2_:=(Option.bind_some _ _).symm.trans H;rw [hy642];with_reducible exact H2_) |(have H2_:=(Option.bind_some _ _).symm.trans H;with_reducible exact H2_) | with_reducible exact H |(rw [hy642];exact H) | exact H
   have Ny642:=am hy642
   clear hy642
   have H':=am H
   clear H
   go_enter Try.func112,Try.ntmps112
   go_wp2_with (first |((with_reducible refine jG (N:=2) rfl ?_);refine bE (N:=2) (cs:=#[.slice A0_0 l0_0.length c0_0]) (t:=53) ?_;intro gb637 hg w6 hbox hb;have BK637:=am (hbox);have GW637:=am ((Y2:w.heap.size≤gb637));have GE637:=am ((Y2:w.heap.size≤gb637));replace HB:=am (jg (bq) hb);clear hb hbox hg) |((with_reducible refine jG (N:=4) rfl ?_);refine bE (N:=4) (cs:=#[.slice none 0 0]) (t:=53) ?_;intro gb638 hg w7 hbox hb;have BK638:=am (hbox);have GW638:=am ((Y117:w.heap.size≤gb638));have GE638:=am ((Y117:w.heap.size≤gb638));have NB637_638:=am ((by rw [hg];exact Nat.ne_of_lt (jva (g:=gb637) (o:=.cells #[.slice A0_0 l0_0.length c0_0] 53 (0,0)) (kq BK637.out)):gb637≠gb638));have NB638_637:=am ((by rw [hg];exact Nat.ne_of_gt (jva (g:=gb637) (o:=.cells #[.slice A0_0 l0_0.length c0_0] 53 (0,0)) (kq BK637.out)):gb638≠gb637));replace BK637:=am (jc (g:=gb637) (o:=.cells #[.slice A0_0 l0_0.length c0_0] 53 (0,0)) (kq BK637.out) hb);replace HB:=am (jg (by repeat (first |(with_reducible first | exact HB.out | apply jF | apply jq | apply jD | refine jy ?_ GE637.out) | exact HB.out)) hb);clear hb hbox hg;have hnb8:=NB637_638.out;have hnc8:=NB638_637.out;have hcz9_0:=bc0 BK637.out;have hfz9_0:=ja BK637.out 0) |((with_reducible refine jo (f:=118) rfl ?_);refine gL (some 13) Try.func118 #[.agg #[.slice A0_0 l0_0.length c0_0], .int .i64 a1] ?_;(with_reducible refine (jlb.calls k _ _ l0_0 a1 t639 _ ?side1 ?side2 A3.out).mono ?_);(case side1=>exact cq (Kd.jZ HR0_0.out HB.out));(case side2=>exact HC0_0.out);rintro e w10 ⟨v640,rfl,ho0,hb⟩;refine ⟨_,rfl,?_⟩;have HO641:=am (Kd.jpa ho0 (jba (Y64)));replace BK637:=am (jc (g:=gb637) (o:=.cells #[.slice A0_0 l0_0.length c0_0] 53 (0,0)) (kq BK637.out) hb);replace BK638:=am (jc (g:=gb638) (o:=.cells #[.slice none 0 0] 53 (0,0)) (kq BK638.out) hb);replace HB:=am (jg (Y64) hb);(try clear hb);(try clear hb2);(try clear hk);(try clear hi);(try clear ho0);obtain ⟨Ao11,co11,eo11⟩:=Kd.jga HO641.out;subst eo11) |((with_reducible refine jG (N:=16) rfl ?_);refine Kd.R_mkcap k90 _ 90 rfl (N:=16) rfl 51 _ _ rfl (t639.length:Int) rfl rfl Try.underlying51 (.agg #[(.int .i64 0),(.int .i64 0),(.int .i64 0),(.int .i64 0),(.bool false)]) 40 info90 rfl (by decide) (by omega) (ok:=fun _=>True) trivial (ozD (uq)) (Nat.le_trans (Nat.mul_le_mul_right _ (ozD (uq):(t639.length:Int).toNat≤7036874417766)) (by omega)) (Below.refl _ _) (Nat.le_refl _) ?_;intro v643 w12 ho13 hb hg_ hnew_;clear hg_ hnew_;(first | rw [← Ny642.out] at ho13 |(simp only [Int.reduceToNat] at ho13;rw [← Ny642.out] at ho13));have HO644:=am (Kd.jpa ho13 (jba (Y64)));replace HO641:=am (Kd.jaa (rq HO641.out) hb);replace BK637:=am (jc (g:=gb637) (o:=.cells #[.slice A0_0 l0_0.length c0_0] 53 (0,0)) (kq BK637.out) hb);replace BK638:=am (jc (g:=gb638) (o:=.cells #[.slice none 0 0] 53 (0,0)) (kq BK638.out) hb);replace HB:=am (jg (Y64) hb);clear hb ho13;obtain ⟨Ao14,co14,eo14⟩:=Kd.jga HO644.out;subst eo14) |((with_reducible refine jG (N:=7) rfl ?_);refine bE (N:=7) (cs:=#[.slice none 0 0]) (t:=53) ?_;intro gb645 hg w15 hbox hb;have BK645:=am (hbox);have GW645:=am ((Y118:w.heap.size≤gb645));have GE645:=am ((Y118:w.heap.size≤gb645));have NB637_645:=am ((by rw [hg];exact Nat.ne_of_lt (jva (g:=gb637) (o:=.cells #[.slice A0_0 l0_0.length c0_0] 53 (0,0)) (kq BK637.out)):gb637≠gb645));have NB645_637:=am ((by rw [hg];exact Nat.ne_of_gt (jva (g:=gb637) (o:=.cells #[.slice A0_0 l0_0.length c0_0] 53 (0,0)) (kq BK637.out)):gb645≠gb637));have NB638_645:=am ((by rw [hg];exact Nat.ne_of_lt (jva (g:=gb638) (o:=.cells #[.slice none 0 0] 53 (0,0)) (kq BK638.out)):gb638≠gb645));have NB645_638:=am ((by rw [hg];exact Nat.ne_of_gt (jva (g:=gb638) (o:=.cells #[.slice none 0 0] 53 (0,0)) (kq BK638.out)):gb645≠gb638));replace HO641:=am (Kd.jaa (rq HO641.out) hb);replace HO644:=am (Kd.jaa (rq HO644.out) hb);replace BK637:=am (jc (g:=gb637) (o:=.cells #[.slice A0_0 l0_0.length c0_0] 53 (0,0)) (kq BK637.out) hb);replace BK638:=am (jc (g:=gb638) (o:=.cells #[.slice none 0 0] 53 (0,0)) (kq BK638.out) hb);replace HB:=am (jg (Y64) hb);clear hb hbox hg;have hnb16:=NB645_637.out;have hnc16:=NB637_645.out;have hnb17:=NB645_638.out;have hnc17:=NB638_645.out;have hcz18_0:=bc0 BK645.out;have hfz18_0:=ja BK645.out 0))
   go_loopg [20] k (fun kq v20 w'=>∃ (x20_1:Int) (x646000_1:List (S90)) (u646000:Value),v20=.int .i64 x20_1∧jE (jQ.l0 kq a1 t639 t639 (t639.length:Int) x20_1 l0_0 x646000_1=some (r1,r2))∧jE (kq≤k)∧jE (Kd.R (Kd.int .i64) 3 w' w.heap.size (fun _=>True) (.slice Ao11 t639.length co11) t639)∧jE (Kd.R (Kd.int .i64) 3 w' w.heap.size (fun _=>True) (.slice Ao11 t639.length co11) t639)∧jE (Kd.R k90 90 w' w.heap.size (fun _=>True) u646000 x646000_1)∧jE (w'.heap[gb637]?=some (.cells #[(.slice A0_0 l0_0.length c0_0)] 53 (0,0)))∧jE (w'.heap[gb638]?=some (.cells #[(.slice none 0 0)] 53 (0,0)))∧jE (w'.heap[gb645]?=some (.cells #[u646000] 53 (0,0)))∧jE (Below w.heap.size w w'))
   case atStart=>exact ⟨(0),(y642),(.slice Ao14 y642.length co14),(sq),H',⟨Nat.le_refl _⟩,⟨by (with_reducible repeat (first | apply Kd.jda | apply Kd.jfa | apply Kd.jma));exact Kd.jJ (Kd.joa (p:=⟨gb645,0,none⟩) (Kd.jna HO641.out BK645.out (by decide)) (fun _ hk=>hk.2) (.slice Ao14 y642.length co14)) (fun _ hk=>trivial)⟩,⟨by (with_reducible repeat (first | apply Kd.jda | apply Kd.jfa | apply Kd.jma));exact Kd.jJ (Kd.joa (p:=⟨gb645,0,none⟩) (Kd.jna HO641.out BK645.out (by decide)) (fun _ hk=>hk.2) (.slice Ao14 y642.length co14)) (fun _ hk=>trivial)⟩,⟨by (with_reducible repeat (first | apply Kd.jda | apply Kd.jfa | apply Kd.jma));exact Kd.jJ (Kd.joa (p:=⟨gb645,0,none⟩) (Kd.jna HO644.out BK645.out (by decide)) (fun _ hk=>hk.2) (.slice Ao14 y642.length co14)) (fun _ hk=>trivial)⟩,⟨by (with_reducible repeat (first | refine jd ?_ _ | refine jf ?_ | refine jb ?_ _));refine jT ?_ NB637_645.out _;(with_reducible repeat (first | refine jd ?_ _ | refine jf ?_ | refine jb ?_ _));exact BK637.out⟩,⟨by (with_reducible repeat (first | refine jd ?_ _ | refine jf ?_ | refine jb ?_ _));refine jT ?_ NB638_645.out _;(with_reducible repeat (first | refine jd ?_ _ | refine jf ?_ | refine jb ?_ _));exact BK638.out⟩,⟨by (with_reducible repeat (first | refine jd ?_ _ | refine jf ?_ | refine jb ?_ _));refine jS (cs:=#[.slice none 0 0]) ?_ 0 _ rfl;(with_reducible repeat (first | refine jd ?_ _ | refine jf ?_ | refine jb ?_ _));exact BK645.out⟩,⟨Y90⟩⟩
   case round =>
    clear H'
    try clear c1
    try clear p2
    try clear c4
    try clear c4b0
    try clear c4b1
    try clear c5
    try clear c5b0
    try clear c5b1
    try clear c8
    try clear c11
    try clear c16
    try clear c17
    try clear hcz18_0
    try clear hcz9_0
    try clear hfz18_0
    try clear hfz9_0
    obtain ⟨x20_1,x646000_1,u646000,rfl,HA,HK1,HO_6,HO_18,HO_646000,BK637,BK638,BK645,HB⟩:=hrel
    cases gk with
    | zero=>exact absurd HA.out (by simp [jQ.l0])
    | succ k1 =>
     have H:=HA.out
     clear HA
     simp only [jQ.l0] at H
     by_cases c19:x20_1<(t639.length:Int)
     ·rw [if_pos c19] at H
      have c19b0:decide (x20_1<(t639.length:Int))=true:=dzT c19
      clear c19
      by_cases c20:0≤x20_1
      ·rw [if_pos c20] at H
       have c20b0:decide (0≤x20_1)=true:=dzT c20
       clear c20
       by_cases c21:x20_1<(t639.length:Int)
       ·rw [if_pos c21] at H
        have c21b0:decide (x20_1<(t639.length:Int))=true:=dzT c21
        clear c21
        by_cases c22:0≤(rd t639 x20_1)
        ·rw [if_pos c22] at H
         have c22b0:decide (0≤(rd t639 x20_1))=true:=dzT c22
         clear c22
         by_cases c23:(rd t639 x20_1)<(l0_0.length:Int)
         ·rw [if_pos c23] at H
          have c23b0:decide ((rd t639 x20_1)<(l0_0.length:Int))=true:=dzT c23
          clear c23
          replace H:=bzS H
          obtain ⟨t650,A240,H⟩:=H
          replace H:((jv.f k1 t639 ((jl l0_0 (rd t639 x20_1)).f3)).bind fun t651=>(if x646000_1.length<3518437208883 then (jQ.l0 k1 a1 t639 t639 (t639.length:Int) (wrap64 (x20_1+1)) l0_0 (x646000_1 ++ [(⟨(jl l0_0 (rd t639 x20_1)).f0,(jl l0_0 (rd t639 x20_1)).f1,t650,t651,(jl l0_0 (rd t639 x20_1)).f4⟩:S90)])) else (none)))=some (r1,r2):=H
          have A24:=am A240
          clear A240
          replace H:=bzS H
          obtain ⟨t651,A250,H⟩:=H
          replace H:(if x646000_1.length<3518437208883 then (jQ.l0 k1 a1 t639 t639 (t639.length:Int) (wrap64 (x20_1+1)) l0_0 (x646000_1 ++ [(⟨(jl l0_0 (rd t639 x20_1)).f0,(jl l0_0 (rd t639 x20_1)).f1,t650,t651,(jl l0_0 (rd t639 x20_1)).f4⟩:S90)])) else (none))=some (r1,r2):=H
          have A25:=am A250
          clear A250
          by_cases c26:x646000_1.length<3518437208883
          ·rw [if_pos c26] at H
           have LMc26:=am c26
           clear c26
           obtain ⟨y652,hy652⟩:∃ y_:List (S90),y_=(x646000_1 ++ [(⟨(jl l0_0 (rd t639 x20_1)).f0,(jl l0_0 (rd t639 x20_1)).f1,t650,t651,(jl l0_0 (rd t639 x20_1)).f4⟩:S90)]):=⟨_,rfl⟩
           replace H:(jQ.l0 k1 a1 t639 t639 (t639.length:Int) (wrap64 (x20_1+1)) l0_0 y652)=some (r1,r2):=by first |(rw [hy652];with_reducible exact H) |(have H2_:=(Option.bind_some _ _).symm.trans H;rw [hy652];with_reducible exact H2_) |(have H2_:=(Option.bind_some _ _).symm.trans H;with_reducible exact H2_) | with_reducible exact H |(rw [hy652];exact H) | exact H
           have Ny652:=am hy652
           clear hy652
           have H':=am H
           clear H
           have p647:0≤(x20_1:Int):=ozD (uq)
           have q647:x20_1<(t639.length:Int):=ozD (uq)
           obtain ⟨ad647,e647,hx647_0⟩:=Kd.jsb (Kd.jC HO_18.out).2.2 x20_1 p647 q647
           cases e647
           replace p647:=ezT p647
           replace q647:=ezT q647
           have hnb27:=NB637_638.out
           have hnc27:=NB638_637.out
           have hnb28:=NB637_645.out
           have hnc28:=NB645_637.out
           have hcz29_0:=bc0 BK637.out
           have hfz29_0:=ja BK637.out 0
           have p648:0≤((rd t639 x20_1):Int):=ozD (uq)
           have q648:(rd t639 x20_1)<(l0_0.length:Int):=ozD (uq)
           obtain ⟨ad648,e648,hx648_0,hx648_1,hx648_2,hx648_3,hx648_4⟩:=at_T90 HR0_0.out (rd t639 x20_1) p648 q648
           cases e648
           replace hx648_0:=cb HB.out hx648_0
           replace hx648_1:=cb HB.out hx648_1
           replace hx648_2:=cb HB.out hx648_2
           replace hx648_3:=cb HB.out hx648_3
           replace hx648_4:=cb HB.out hx648_4
           replace p648:=ezT p648
           replace q648:=ezT q648
           try go_wp2_with (first |((with_reducible refine jG (N:=10) rfl ?_);refine bE (N:=10) (cs:=#[.int .i64 0, .int .i64 0, .int .i64 0, .int .i64 0, .bool false]) (t:=90) ?_;intro gb649 hg w30 hbox hb;have BK649:=am (hbox);have GW649:=am ((Y119:w.heap.size≤gb649));have GE649:=am ((Y119:w.heap.size≤gb649));have NB637_649:=am ((by rw [hg];exact Nat.ne_of_lt (jva (g:=gb637) (o:=.cells #[.slice (some ad648) l0_0.length c0_0] 53 (0,0)) (kq BK637.out)):gb637≠gb649));have NB649_637:=am ((by rw [hg];exact Nat.ne_of_gt (jva (g:=gb637) (o:=.cells #[.slice (some ad648) l0_0.length c0_0] 53 (0,0)) (kq BK637.out)):gb649≠gb637));have NB638_649:=am ((by rw [hg];exact Nat.ne_of_lt (jva (g:=gb638) (o:=.cells #[.slice none 0 0] 53 (0,0)) (kq BK638.out)):gb638≠gb649));have NB649_638:=am ((by rw [hg];exact Nat.ne_of_gt (jva (g:=gb638) (o:=.cells #[.slice none 0 0] 53 (0,0)) (kq BK638.out)):gb649≠gb638));have NB645_649:=am ((by rw [hg];exact Nat.ne_of_lt (jva (g:=gb645) (o:=.cells #[u646000] 53 (0,0)) (kq BK645.out)):gb645≠gb649));have NB649_645:=am ((by rw [hg];exact Nat.ne_of_gt (jva (g:=gb645) (o:=.cells #[u646000] 53 (0,0)) (kq BK645.out)):gb649≠gb645));replace HO_6:=am (Kd.jaa (rq HO_6.out) hb);replace HO_18:=am (Kd.jaa (rq HO_18.out) hb);replace HO_646000:=am (Kd.jaa (Kd.R_elderB (rq HO_646000.out) gb649 (Nat.le_of_eq hg.symm)) hb);replace BK637:=am (jc (g:=gb637) (o:=.cells #[.slice (some ad648) l0_0.length c0_0] 53 (0,0)) (kq BK637.out) hb);replace BK638:=am (jc (g:=gb638) (o:=.cells #[.slice none 0 0] 53 (0,0)) (kq BK638.out) hb);replace BK645:=am (jc (g:=gb645) (o:=.cells #[u646000] 53 (0,0)) (kq BK645.out) hb);replace HB:=am (jg (Y90) hb);clear hb hbox hg;have hnb31:=NB649_637.out;have hnc31:=NB637_649.out;have hnb32:=NB649_638.out;have hnc32:=NB638_649.out;have hnb33:=NB649_645.out;have hnc33:=NB645_649.out;have hcz34_0:=bc0 BK649.out;have hcz34_1:=bc1 BK649.out;have hcz34_2:=bc2 BK649.out;have hcz34_3:=bc3 BK649.out;have hcz34_4:w30.cell? ⟨gb649,4,none⟩=some (.bool false):=(jw BK649.out 4).trans rfl;have hfz34_0:=ja BK649.out 0;have hfz34_1:=ja BK649.out 1;have hfz34_2:=ja BK649.out 2;have hfz34_3:=ja BK649.out 3;have hfz34_4:=ja BK649.out 4))
           have n0_:jE (Kd.R (Kd.int .i64) 3 (((((w30.setCell ⟨gb649,0,none⟩ (.int .i64 ((jl l0_0 (rd t639 x20_1)).f0))).setCell ⟨gb649,1,none⟩ (.int .i64 ((jl l0_0 (rd t639 x20_1)).f1))).setCell ⟨gb649,2,none⟩ (.int .i64 ((jl l0_0 (rd t639 x20_1)).f2))).setCell ⟨gb649,3,none⟩ (.int .i64 ((jl l0_0 (rd t639 x20_1)).f3))).setCell ⟨gb649,4,none⟩ (.bool ((jl l0_0 (rd t639 x20_1)).f4))) w.heap.size (fun _=>True) (.slice (some ad647) t639.length co11) t639):=⟨by (with_reducible repeat (first | apply Kd.jda | apply Kd.jfa | apply Kd.jma));exact Kd.jJ (Kd.joa (p:=⟨gb649,4,none⟩) (Kd.joa (p:=⟨gb649,3,none⟩) (Kd.joa (p:=⟨gb649,2,none⟩) (Kd.joa (p:=⟨gb649,1,none⟩) (Kd.joa (p:=⟨gb649,0,none⟩) (Kd.jna HO_6.out BK649.out (by decide)) (fun _ hk=>hk.2) (.int .i64 ((jl l0_0 (rd t639 x20_1)).f0))) (fun _ hk=>hk.2) (.int .i64 ((jl l0_0 (rd t639 x20_1)).f1))) (fun _ hk=>hk.2) (.int .i64 ((jl l0_0 (rd t639 x20_1)).f2))) (fun _ hk=>hk.2) (.int .i64 ((jl l0_0 (rd t639 x20_1)).f3))) (fun _ hk=>hk.2) (.bool ((jl l0_0 (rd t639 x20_1)).f4))) (fun _ hk=>trivial)⟩
           have n1_:jE (Kd.R (Kd.int .i64) 3 (((((w30.setCell ⟨gb649,0,none⟩ (.int .i64 ((jl l0_0 (rd t639 x20_1)).f0))).setCell ⟨gb649,1,none⟩ (.int .i64 ((jl l0_0 (rd t639 x20_1)).f1))).setCell ⟨gb649,2,none⟩ (.int .i64 ((jl l0_0 (rd t639 x20_1)).f2))).setCell ⟨gb649,3,none⟩ (.int .i64 ((jl l0_0 (rd t639 x20_1)).f3))).setCell ⟨gb649,4,none⟩ (.bool ((jl l0_0 (rd t639 x20_1)).f4))) w.heap.size (fun _=>True) (.slice (some ad647) t639.length co11) t639):=⟨by (with_reducible repeat (first | apply Kd.jda | apply Kd.jfa | apply Kd.jma));exact Kd.jJ (Kd.joa (p:=⟨gb649,4,none⟩) (Kd.joa (p:=⟨gb649,3,none⟩) (Kd.joa (p:=⟨gb649,2,none⟩) (Kd.joa (p:=⟨gb649,1,none⟩) (Kd.joa (p:=⟨gb649,0,none⟩) (Kd.jna HO_18.out BK649.out (by decide)) (fun _ hk=>hk.2) (.int .i64 ((jl l0_0 (rd t639 x20_1)).f0))) (fun _ hk=>hk.2) (.int .i64 ((jl l0_0 (rd t639 x20_1)).f1))) (fun _ hk=>hk.2) (.int .i64 ((jl l0_0 (rd t639 x20_1)).f2))) (fun _ hk=>hk.2) (.int .i64 ((jl l0_0 (rd t639 x20_1)).f3))) (fun _ hk=>hk.2) (.bool ((jl l0_0 (rd t639 x20_1)).f4))) (fun _ hk=>trivial)⟩
           have n2_:jE (Kd.R k90 90 (((((w30.setCell ⟨gb649,0,none⟩ (.int .i64 ((jl l0_0 (rd t639 x20_1)).f0))).setCell ⟨gb649,1,none⟩ (.int .i64 ((jl l0_0 (rd t639 x20_1)).f1))).setCell ⟨gb649,2,none⟩ (.int .i64 ((jl l0_0 (rd t639 x20_1)).f2))).setCell ⟨gb649,3,none⟩ (.int .i64 ((jl l0_0 (rd t639 x20_1)).f3))).setCell ⟨gb649,4,none⟩ (.bool ((jl l0_0 (rd t639 x20_1)).f4))) w.heap.size (fun k_=>k_≠gb649) u646000 x646000_1):=⟨by (with_reducible repeat (first | apply Kd.jda | apply Kd.jfa | apply Kd.jma));exact Kd.jJ (Kd.joa (p:=⟨gb649,4,none⟩) (Kd.joa (p:=⟨gb649,3,none⟩) (Kd.joa (p:=⟨gb649,2,none⟩) (Kd.joa (p:=⟨gb649,1,none⟩) (Kd.joa (p:=⟨gb649,0,none⟩) (Kd.jJ HO_646000.out (fun k_ hk=>(⟨hk,hk.2⟩:_∧k_≠gb649))) (fun _ hk=>hk.2) (.int .i64 ((jl l0_0 (rd t639 x20_1)).f0))) (fun _ hk=>hk.2) (.int .i64 ((jl l0_0 (rd t639 x20_1)).f1))) (fun _ hk=>hk.2) (.int .i64 ((jl l0_0 (rd t639 x20_1)).f2))) (fun _ hk=>hk.2) (.int .i64 ((jl l0_0 (rd t639 x20_1)).f3))) (fun _ hk=>hk.2) (.bool ((jl l0_0 (rd t639 x20_1)).f4))) (fun _ hk=>hk.1.2)⟩
           have n3_:jE ((((((w30.setCell ⟨gb649,0,none⟩ (.int .i64 ((jl l0_0 (rd t639 x20_1)).f0))).setCell ⟨gb649,1,none⟩ (.int .i64 ((jl l0_0 (rd t639 x20_1)).f1))).setCell ⟨gb649,2,none⟩ (.int .i64 ((jl l0_0 (rd t639 x20_1)).f2))).setCell ⟨gb649,3,none⟩ (.int .i64 ((jl l0_0 (rd t639 x20_1)).f3))).setCell ⟨gb649,4,none⟩ (.bool ((jl l0_0 (rd t639 x20_1)).f4))).heap[gb637]?=some (.cells #[.slice (some ad648) l0_0.length c0_0] 53 (0,0))):=⟨by (with_reducible repeat (first | refine jd ?_ _ | refine jf ?_ | refine jb ?_ _));refine jT ?_ NB637_649.out _;(with_reducible repeat (first | refine jd ?_ _ | refine jf ?_ | refine jb ?_ _));refine jT ?_ NB637_649.out _;(with_reducible repeat (first | refine jd ?_ _ | refine jf ?_ | refine jb ?_ _));refine jT ?_ NB637_649.out _;(with_reducible repeat (first | refine jd ?_ _ | refine jf ?_ | refine jb ?_ _));refine jT ?_ NB637_649.out _;(with_reducible repeat (first | refine jd ?_ _ | refine jf ?_ | refine jb ?_ _));refine jT ?_ NB637_649.out _;(with_reducible repeat (first | refine jd ?_ _ | refine jf ?_ | refine jb ?_ _));exact BK637.out⟩
           have n4_:jE ((((((w30.setCell ⟨gb649,0,none⟩ (.int .i64 ((jl l0_0 (rd t639 x20_1)).f0))).setCell ⟨gb649,1,none⟩ (.int .i64 ((jl l0_0 (rd t639 x20_1)).f1))).setCell ⟨gb649,2,none⟩ (.int .i64 ((jl l0_0 (rd t639 x20_1)).f2))).setCell ⟨gb649,3,none⟩ (.int .i64 ((jl l0_0 (rd t639 x20_1)).f3))).setCell ⟨gb649,4,none⟩ (.bool ((jl l0_0 (rd t639 x20_1)).f4))).heap[gb638]?=some (.cells #[.slice none 0 0] 53 (0,0))):=⟨by (with_reducible repeat (first | refine jd ?_ _ | refine jf ?_ | refine jb ?_ _));refine jT ?_ NB638_649.out _;(with_reducible repeat (first | refine jd ?_ _ | refine jf ?_ | refine jb ?_ _));refine jT ?_ NB638_649.out _;(with_reducible repeat (first | refine jd ?_ _ | refine jf ?_ | refine jb ?_ _));refine jT ?_ NB638_649.out _;(with_reducible repeat (first | refine jd ?_ _ | refine jf ?_ | refine jb ?_ _));refine jT ?_ NB638_649.out _;(with_reducible repeat (first | refine jd ?_ _ | refine jf ?_ | refine jb ?_ _));refine jT ?_ NB638_649.out _;(with_reducible repeat (first | refine jd ?_ _ | refine jf ?_ | refine jb ?_ _));exact BK638.out⟩
           have n5_:jE ((((((w30.setCell ⟨gb649,0,none⟩ (.int .i64 ((jl l0_0 (rd t639 x20_1)).f0))).setCell ⟨gb649,1,none⟩ (.int .i64 ((jl l0_0 (rd t639 x20_1)).f1))).setCell ⟨gb649,2,none⟩ (.int .i64 ((jl l0_0 (rd t639 x20_1)).f2))).setCell ⟨gb649,3,none⟩ (.int .i64 ((jl l0_0 (rd t639 x20_1)).f3))).setCell ⟨gb649,4,none⟩ (.bool ((jl l0_0 (rd t639 x20_1)).f4))).heap[gb645]?=some (.cells #[u646000] 53 (0,0))):=⟨by (with_reducible repeat (first | refine jd ?_ _ | refine jf ?_ | refine jb ?_ _));refine jT ?_ NB645_649.out _;(with_reducible repeat (first | refine jd ?_ _ | refine jf ?_ | refine jb ?_ _));refine jT ?_ NB645_649.out _;(with_reducible repeat (first | refine jd ?_ _ | refine jf ?_ | refine jb ?_ _));refine jT ?_ NB645_649.out _;(with_reducible repeat (first | refine jd ?_ _ | refine jf ?_ | refine jb ?_ _));refine jT ?_ NB645_649.out _;(with_reducible repeat (first | refine jd ?_ _ | refine jf ?_ | refine jb ?_ _));refine jT ?_ NB645_649.out _;(with_reducible repeat (first | refine jd ?_ _ | refine jf ?_ | refine jb ?_ _));exact BK645.out⟩
           have n6_:jE ((((((w30.setCell ⟨gb649,0,none⟩ (.int .i64 ((jl l0_0 (rd t639 x20_1)).f0))).setCell ⟨gb649,1,none⟩ (.int .i64 ((jl l0_0 (rd t639 x20_1)).f1))).setCell ⟨gb649,2,none⟩ (.int .i64 ((jl l0_0 (rd t639 x20_1)).f2))).setCell ⟨gb649,3,none⟩ (.int .i64 ((jl l0_0 (rd t639 x20_1)).f3))).setCell ⟨gb649,4,none⟩ (.bool ((jl l0_0 (rd t639 x20_1)).f4))).heap[gb649]?=some (.cells #[.int .i64 ((jl l0_0 (rd t639 x20_1)).f0), .int .i64 ((jl l0_0 (rd t639 x20_1)).f1), .int .i64 ((jl l0_0 (rd t639 x20_1)).f2), .int .i64 ((jl l0_0 (rd t639 x20_1)).f3), .bool ((jl l0_0 (rd t639 x20_1)).f4)] 90 (0,0))):=⟨by (with_reducible repeat (first | refine jd ?_ _ | refine jf ?_ | refine jb ?_ _));refine jS (cs:=#[.int .i64 ((jl l0_0 (rd t639 x20_1)).f0), .int .i64 ((jl l0_0 (rd t639 x20_1)).f1), .int .i64 ((jl l0_0 (rd t639 x20_1)).f2), .int .i64 ((jl l0_0 (rd t639 x20_1)).f3), .bool false]) ?_ 4 _ rfl;(with_reducible repeat (first | refine jd ?_ _ | refine jf ?_ | refine jb ?_ _));refine jS (cs:=#[.int .i64 ((jl l0_0 (rd t639 x20_1)).f0), .int .i64 ((jl l0_0 (rd t639 x20_1)).f1), .int .i64 ((jl l0_0 (rd t639 x20_1)).f2), .int .i64 0, .bool false]) ?_ 3 _ rfl;(with_reducible repeat (first | refine jd ?_ _ | refine jf ?_ | refine jb ?_ _));refine jS (cs:=#[.int .i64 ((jl l0_0 (rd t639 x20_1)).f0), .int .i64 ((jl l0_0 (rd t639 x20_1)).f1), .int .i64 0, .int .i64 0, .bool false]) ?_ 2 _ rfl;(with_reducible repeat (first | refine jd ?_ _ | refine jf ?_ | refine jb ?_ _));refine jS (cs:=#[.int .i64 ((jl l0_0 (rd t639 x20_1)).f0), .int .i64 0, .int .i64 0, .int .i64 0, .bool false]) ?_ 1 _ rfl;(with_reducible repeat (first | refine jd ?_ _ | refine jf ?_ | refine jb ?_ _));refine jS (cs:=#[.int .i64 0, .int .i64 0, .int .i64 0, .int .i64 0, .bool false]) ?_ 0 _ rfl;(with_reducible repeat (first | refine jd ?_ _ | refine jf ?_ | refine jb ?_ _));exact BK649.out⟩
           have n7_:jE (Below w.heap.size w (((((w30.setCell ⟨gb649,0,none⟩ (.int .i64 ((jl l0_0 (rd t639 x20_1)).f0))).setCell ⟨gb649,1,none⟩ (.int .i64 ((jl l0_0 (rd t639 x20_1)).f1))).setCell ⟨gb649,2,none⟩ (.int .i64 ((jl l0_0 (rd t639 x20_1)).f2))).setCell ⟨gb649,3,none⟩ (.int .i64 ((jl l0_0 (rd t639 x20_1)).f3))).setCell ⟨gb649,4,none⟩ (.bool ((jl l0_0 (rd t639 x20_1)).f4)))):=⟨Y78⟩
           (try clear HO_6)
           (try clear HO_18)
           (try clear HO_646000)
           (try clear BK637)
           (try clear BK638)
           (try clear BK645)
           (try clear BK649)
           (try clear HB)
           generalize (((((w30.setCell ⟨gb649,0,none⟩ (.int .i64 ((jl l0_0 (rd t639 x20_1)).f0))).setCell ⟨gb649,1,none⟩ (.int .i64 ((jl l0_0 (rd t639 x20_1)).f1))).setCell ⟨gb649,2,none⟩ (.int .i64 ((jl l0_0 (rd t639 x20_1)).f2))).setCell ⟨gb649,3,none⟩ (.int .i64 ((jl l0_0 (rd t639 x20_1)).f3))).setCell ⟨gb649,4,none⟩ (.bool ((jl l0_0 (rd t639 x20_1)).f4)))=w35 at n0_ n1_ n2_ n3_ n4_ n5_ n6_ n7_ ⊢
           have HO_6:=n0_
           have HO_18:=n1_
           have HO_646000:=n2_
           have BK637:=n3_
           have BK638:=n4_
           have BK645:=n5_
           have BK649:=n6_
           have HB:=n7_
           clear n0_ n1_ n2_ n3_ n4_ n5_ n6_ n7_
           replace HO_6:=am (Kd.jma HO_6.out)
           replace HO_18:=am (Kd.jma HO_18.out)
           replace HO_646000:=am (Kd.jma HO_646000.out)
           replace BK637:=am (jf BK637.out)
           replace BK638:=am (jf BK638.out)
           replace BK645:=am (jf BK645.out)
           replace BK649:=am (jf BK649.out)
           replace HB:=am (jD HB.out)
           refine start_ (n:=12) (S:=fun w'=>w'.cell? ⟨gb649,0,none⟩=some (.int .i64 ((jl l0_0 (rd t639 x20_1)).f0))∧w'.cell? ⟨gb649,1,none⟩=some (.int .i64 ((jl l0_0 (rd t639 x20_1)).f1))∧w'.cell? ⟨gb649,2,none⟩=some (.int .i64 ((jl l0_0 (rd t639 x20_1)).f2))∧w'.cell? ⟨gb649,3,none⟩=some (.int .i64 ((jl l0_0 (rd t639 x20_1)).f3))∧w'.cell? ⟨gb649,4,none⟩=some (.bool ((jl l0_0 (rd t639 x20_1)).f4))) (ds:=[9,11]) #[false,false,false,false,false,false,false,false,false,false,false,false] (by kernel_rfl) rfl rfl ⟨(jw BK649.out 0).trans rfl,(jw BK649.out 1).trans rfl,(jw BK649.out 2).trans rfl,(jw BK649.out 3).trans rfl,(jw BK649.out 4).trans rfl⟩ (fun hHeld=>?_);refine jXb jQ.tab7 jQ.bits7 (fun HT_ HW_=>?_)
           generalize w35.drew=w36 at HO_6 HO_18 HO_646000 BK637 BK638 BK645 BK649 HB hHeld ⊢
           refine pq (i:=0) (N:=some 29) #[true,false,false,false,false,false,false,false,false,false,false,false] ?_
           refine pq (i:=1) (N:=some 30) #[true,true,false,false,false,false,false,false,false,false,false,false] ?_
           refine pq (i:=4) (N:=some 33) #[true,true,false,false,true,false,false,false,false,false,false,false] ?_
           refine pq (i:=5) (N:=some 34) #[true,true,false,false,true,true,false,false,false,false,false,false] ?_
           refine jYb (i:=2) (N:=some 31) (v:=?_) (a':=?_) #[true,true,true,false,true,true,false,false,false,false,false,false] rfl rfl (jFb HT_.out HW_.out (by kernel_rfl)) (fun _ _ _ h=>h) (Or.inl ⟨by rfl,?_⟩) hHeld ?_ ?_
           rotate_left
           ·rintro w' ⟨s0,s1,s2,s3,s4⟩
            go_simp
            with_reducible rfl
           rotate_left
           ·exact sa
           refine jYb (i:=6) (N:=some 35) (v:=?_) (a':=?_) #[true,true,true,false,true,true,true,false,false,false,false,false] rfl rfl (jFb HT_.out HW_.out (by kernel_rfl)) (fun _ _ _ h=>h) (Or.inl ⟨by rfl,?_⟩) hHeld ?_ ?_
           rotate_left
           ·rintro w' ⟨s0,s1,s2,s3,s4⟩
            go_simp
            with_reducible rfl
           rotate_left
           ·exact sa
           refine one_ (i:=3) (N:=some 32) #[true,true,true,true,true,true,true,false,false,false,false,false] rfl rfl (jRb HT_.out (by kernel_rfl)) (by decide) (fun K hK=>?_)
           refine goes_ Try.func117 (by kernel_rfl) rfl #[.slice (some ad647) t639.length co11, .int .i64 ((jl l0_0 (rd t639 x20_1)).f2)] (by rfl) rfl rfl (aq) ?_
           with_reducible refine (jv.calls k1 _ _ t639 ((jl l0_0 (rd t639 x20_1)).f2) t650 _ ?side1 ?side2 A24.out).mono ?_
           (case side1=>exact cq (Kd.jC HO_6.out).2.2)
           (case side2=>exact (Kd.jC HO_6.out).2.1)
           rintro e w' ⟨rfl,⟨nd,rfl⟩⟩
           refine ⟨_,rfl,?_⟩
           refine hK.out _ _ ⟨(jw BK649.out 0).trans rfl,(jw BK649.out 1).trans rfl,(jw BK649.out 2).trans rfl,(jw BK649.out 3).trans rfl,(jw BK649.out 4).trans rfl⟩ (fun hHeld=>?_)
           clear hK K
           refine norm_ (a':=?_) ?_ ?_
           rotate_left
           ·show Act.put _ (some 32) _=_
            simp only [Act.put,List.setIfInBounds_toArray,List.set_cons_zero,List.set_cons_succ,jHb,jLb]
            rfl
           refine pq (i:=8) (N:=some 37) #[true,true,true,true,true,true,true,false,true,false,false,false] ?_
           refine one_ (i:=7) (N:=some 36) #[true,true,true,true,true,true,true,true,true,false,false,false] rfl rfl (jRb HT_.out (by kernel_rfl)) (by decide) (fun K hK=>?_)
           refine goes_ Try.func117 (by kernel_rfl) rfl #[.slice (some ad647) t639.length co11, .int .i64 ((jl l0_0 (rd t639 x20_1)).f3)] (by rfl) rfl rfl (aq) ?_
           with_reducible refine (jv.calls k1 _ _ t639 ((jl l0_0 (rd t639 x20_1)).f3) t651 _ ?side1 ?side2 A25.out).mono ?_
           (case side1=>exact cq (Kd.jC HO_6.out).2.2)
           (case side2=>exact (Kd.jC HO_6.out).2.1)
           rintro e w' ⟨rfl,⟨nd,rfl⟩⟩
           refine ⟨_,rfl,?_⟩
           refine hK.out _ _ ⟨(jw BK649.out 0).trans rfl,(jw BK649.out 1).trans rfl,(jw BK649.out 2).trans rfl,(jw BK649.out 3).trans rfl,(jw BK649.out 4).trans rfl⟩ (fun hHeld=>?_)
           clear hK K
           refine norm_ (a':=?_) ?_ ?_
           rotate_left
           ·show Act.put _ (some 36) _=_
            simp only [Act.put,List.setIfInBounds_toArray,List.set_cons_zero,List.set_cons_succ,jHb,jLb]
            rfl
           refine last_ (i:=9) (N:=none) #[true,true,true,true,true,true,true,true,true,true,false,false] rfl rfl (jRb HT_.out (by kernel_rfl)) (by decide) (fun K hK=>?_)
           have hs37:w36.cell? ⟨gb649,2,none⟩=some (.int .i64 ((jl l0_0 (rd t639 x20_1)).f2)):=(jw BK649.out 2).trans rfl
           have hfs37:=ja BK649.out 2
           have hns37_0:=NB637_649.out
           have hns37_1:=NB638_649.out
           have hns37_2:=NB645_649.out
           have hms37_0:=NB649_637.out
           have hms37_1:=NB649_638.out
           have hms37_2:=NB649_645.out
           refine skip_ (w1:=?_) (by rfl) rfl ?_ ?_
           rotate_left
           ·go_simp
            rfl
           refine hK.out _ _ ?_
           clear hK K
           refine pq (i:=10) (N:=some 38) #[true,true,true,true,true,true,true,true,true,true,true,false] ?_
           refine last_ (i:=11) (N:=none) #[true,true,true,true,true,true,true,true,true,true,true,true] rfl rfl (jRb HT_.out (by kernel_rfl)) (by decide) (fun K hK=>?_)
           have hs38:w36.cell? ⟨gb649,3,none⟩=some (.int .i64 ((jl l0_0 (rd t639 x20_1)).f3)):=(jw BK649.out 3).trans rfl
           have hfs38:=ja BK649.out 3
           have hns38_0:=NB637_649.out
           have hns38_1:=NB638_649.out
           have hns38_2:=NB645_649.out
           have hms38_0:=NB649_637.out
           have hms38_1:=NB649_638.out
           have hms38_2:=NB649_645.out
           refine skip_ (w1:=?_) (by rfl) rfl ?_ ?_
           rotate_left
           ·go_simp
            rfl
           refine hK.out _ _ ?_
           clear hK K
           refine done_ (done_of HT_.out (by kernel_rfl)) ?_
           have hnb39:=NB645_638.out
           have hnc39:=NB638_645.out
           have hcz40_0:=bc0 BK645.out
           have hfz40_0:=ja BK645.out 0
           have hcz41_0:=bc0 BK649.out
           have hcz41_1:=bc1 BK649.out
           have hcz41_2:=bc2 BK649.out
           have hcz41_3:=bc3 BK649.out
           have hcz41_4:w36.cell? ⟨gb649,4,none⟩=some (.bool ((jl l0_0 (rd t639 x20_1)).f4)):=(jw BK649.out 4).trans rfl
           have hfz41_0:=ja BK649.out 0
           have hfz41_1:=ja BK649.out 1
           have hfz41_2:=ja BK649.out 2
           have hfz41_3:=ja BK649.out 3
           have hfz41_4:=ja BK649.out 4
           try go_wp2_with (first |((with_reducible refine jpb (b:=.append) (xs:=#[.tmp 40, .tmp 42]) rfl ?_);at_builtin;refine Kd.jWb k90 (w0:=w) w.heap.size rfl (.tmp 40) (.tmp 42) 51 90 (.agg #[(.int .i64 0),(.int .i64 0),(.int .i64 0),(.int .i64 0),(.bool false)]) 40 rfl Try.underlying51 info90 rfl (by decide) (by omega) u646000 x646000_1 (⟨(jl l0_0 (rd t639 x20_1)).f0,(jl l0_0 (rd t639 x20_1)).f1,t650,t651,(jl l0_0 (rd t639 x20_1)).f4⟩:S90) [.int .i64 ((jl l0_0 (rd t639 x20_1)).f0), .int .i64 ((jl l0_0 (rd t639 x20_1)).f1), .int .i64 t650, .int .i64 t651, .bool ((jl l0_0 (rd t639 x20_1)).f4)] (fun k_=>k_≠gb649) (fun _=>False) rfl (Y3) ?aP (fun _ hk=>hk.elim) ?aF ?aO ?aB ?aS ?aL ?_;(case aP=>exact k90_mkM _ _ _ (⟨(jl l0_0 (rd t639 x20_1)).f0,(jl l0_0 (rd t639 x20_1)).f1,t650,t651,(jl l0_0 (rd t639 x20_1)).f4⟩:S90));(case aB=>exact (Y78));(case aF=>exact (fun k_ hk=>Kd.freshB (g:=gb649) (o:=.cells #[.int .i64 ((jl l0_0 (rd t639 x20_1)).f0), .int .i64 ((jl l0_0 (rd t639 x20_1)).f1), .int .i64 t650, .int .i64 t651, .bool ((jl l0_0 (rd t639 x20_1)).f4)] 90 (0,0)) (Y120) k_ hk));(case aO=>exact (by (with_reducible repeat (first | apply Kd.jda | apply Kd.jfa | apply Kd.jma));exact Kd.jJ (Kd.joa (p:=⟨gb649,3,none⟩) (Kd.joa (p:=⟨gb649,2,none⟩) (Kd.jJ HO_646000.out (fun k_ hk=>(⟨hk,hk⟩:_∧k_≠gb649))) (fun _ hk=>hk.2) (.int .i64 t650)) (fun _ hk=>hk.2) (.int .i64 t651)) (fun _ hk=>hk.1)));(case aS=>exact (jba (Y78)));(case aL=>have:=LMc26.out;omega);intro v653 w42 ho hb hg hat;rw [← Ny652.out] at ho;have n0_:=am (Kd.jkc (by (with_reducible repeat (first | apply Kd.jda | apply Kd.jfa | apply Kd.jma));exact (Kd.jJ (Kd.joa (p:=⟨gb649,3,none⟩) (Kd.joa (p:=⟨gb649,2,none⟩) (Kd.jna HO_6.out BK649.out (by decide)) (fun _ hk=>hk.2) (.int .i64 t650)) (fun _ hk=>hk.2) (.int .i64 t651)) (fun _ h_=>h_.1))) (Kd.jjc (Y121)) (by decide) hg);have n1_:=am (Kd.jkc (by (with_reducible repeat (first | apply Kd.jda | apply Kd.jfa | apply Kd.jma));exact (Kd.jJ (Kd.joa (p:=⟨gb649,3,none⟩) (Kd.joa (p:=⟨gb649,2,none⟩) (Kd.jna HO_18.out BK649.out (by decide)) (fun _ hk=>hk.2) (.int .i64 t650)) (fun _ hk=>hk.2) (.int .i64 t651)) (fun _ h_=>h_.1))) (Kd.jjc (Y121)) (by decide) hg);have n2_:=am (jqa (g:=gb637) (o:=.cells #[.slice (some ad648) l0_0.length c0_0] 53 (0,0)) (by (with_reducible repeat (first | refine jd ?_ _ | refine jf ?_ | refine jb ?_ _));refine jT ?_ NB637_649.out _;(with_reducible repeat (first | refine jd ?_ _ | refine jf ?_ | refine jb ?_ _));refine jT ?_ NB637_649.out _;(with_reducible repeat (first | refine jd ?_ _ | refine jf ?_ | refine jb ?_ _));exact BK637.out) hg (Kd.R_ne HO_646000.out BK637.out (by decide)));have n3_:=am (jqa (g:=gb638) (o:=.cells #[.slice none 0 0] 53 (0,0)) (by (with_reducible repeat (first | refine jd ?_ _ | refine jf ?_ | refine jb ?_ _));refine jT ?_ NB638_649.out _;(with_reducible repeat (first | refine jd ?_ _ | refine jf ?_ | refine jb ?_ _));refine jT ?_ NB638_649.out _;(with_reducible repeat (first | refine jd ?_ _ | refine jf ?_ | refine jb ?_ _));exact BK638.out) hg (Kd.R_ne HO_646000.out BK638.out (by decide)));have n4_:=am (jqa (g:=gb645) (o:=.cells #[u646000] 53 (0,0)) (by (with_reducible repeat (first | refine jd ?_ _ | refine jf ?_ | refine jb ?_ _));refine jT ?_ NB645_649.out _;(with_reducible repeat (first | refine jd ?_ _ | refine jf ?_ | refine jb ?_ _));refine jT ?_ NB645_649.out _;(with_reducible repeat (first | refine jd ?_ _ | refine jf ?_ | refine jb ?_ _));exact BK645.out) hg (Kd.R_ne HO_646000.out BK645.out (by decide)));have n5_:=am (jqa (g:=gb649) (o:=.cells #[.int .i64 ((jl l0_0 (rd t639 x20_1)).f0), .int .i64 ((jl l0_0 (rd t639 x20_1)).f1), .int .i64 t650, .int .i64 t651, .bool ((jl l0_0 (rd t639 x20_1)).f4)] 90 (0,0)) (Y120) hg (Kd.R_away HO_646000.out (fun _ hk=>hk)));have n6_:=am (hb);have n7_:=am (ho);clear HO_6 HO_18 BK637 BK638 BK645 BK649 HB HO_646000;have HO_6:=n0_;have HO_18:=n1_;have BK637:=n2_;have BK638:=n3_;have BK645:=n4_;have BK649:=n5_;have HB:=n6_;have HO654:=n7_;clear n0_ n1_ n2_ n3_ n4_ n5_ n6_ n7_ ho hb hg hat;obtain ⟨Ao43,co43,eo43⟩:=Kd.jga HO654.out;subst eo43;have hcz44_0:=bc0 BK645.out;have hfz44_0:=ja BK645.out 0))
           go_roundg k1
           case measure=>have:=HK1.out;omega
           case rel=>exact ⟨(wrap64 (x20_1+1)),(y652),(.slice Ao43 y652.length co43),(sq),H',⟨by have:=HK1.out;omega⟩,⟨by (with_reducible repeat (first | apply Kd.jda | apply Kd.jfa | apply Kd.jma));exact Kd.jJ (Kd.joa (p:=⟨gb645,0,none⟩) (Kd.jna HO_6.out BK645.out (by decide)) (fun _ hk=>hk.2) (.slice Ao43 y652.length co43)) (fun _ hk=>trivial)⟩,⟨by (with_reducible repeat (first | apply Kd.jda | apply Kd.jfa | apply Kd.jma));exact Kd.jJ (Kd.joa (p:=⟨gb645,0,none⟩) (Kd.jna HO_18.out BK645.out (by decide)) (fun _ hk=>hk.2) (.slice Ao43 y652.length co43)) (fun _ hk=>trivial)⟩,⟨by (with_reducible repeat (first | apply Kd.jda | apply Kd.jfa | apply Kd.jma));exact Kd.jJ (Kd.joa (p:=⟨gb645,0,none⟩) (Kd.jna HO654.out BK645.out (by decide)) (fun _ hk=>hk.2) (.slice Ao43 y652.length co43)) (fun _ hk=>trivial)⟩,⟨by (with_reducible repeat (first | refine jd ?_ _ | refine jf ?_ | refine jb ?_ _));refine jT ?_ NB637_645.out _;(with_reducible repeat (first | refine jd ?_ _ | refine jf ?_ | refine jb ?_ _));exact BK637.out⟩,⟨by (with_reducible repeat (first | refine jd ?_ _ | refine jf ?_ | refine jb ?_ _));refine jT ?_ NB638_645.out _;(with_reducible repeat (first | refine jd ?_ _ | refine jf ?_ | refine jb ?_ _));exact BK638.out⟩,⟨by (with_reducible repeat (first | refine jd ?_ _ | refine jf ?_ | refine jb ?_ _));refine jS (cs:=#[u646000]) ?_ 0 _ rfl;(with_reducible repeat (first | refine jd ?_ _ | refine jf ?_ | refine jb ?_ _));exact BK645.out⟩,⟨Y78⟩⟩
          ·rw [if_neg c26] at H
           exact absurd H (by simp)
         ·rw [if_neg c23] at H
          exact absurd H (by simp)
        ·rw [if_neg c22] at H
         exact absurd H (by simp)
       ·rw [if_neg c21] at H
        exact absurd H (by simp)
      ·rw [if_neg c20] at H
       exact absurd H (by simp)
     ·rw [if_neg c19] at H
      have c19b0:decide (x20_1<(t639.length:Int))=false:=dzF c19
      clear c19
      replace H:=bzS H
      obtain ⟨t646,A450,H⟩:=H
      replace H:(some (x646000_1,t646))=some (r1,r2):=H
      have A45:=am A450
      clear A450
      simp only [Option.some.injEq,Prod.mk.injEq] at H
      obtain ⟨rfl,rfl⟩:=H
      try go_wp2
      replace HO_6:=am (Kd.jma HO_6.out)
      replace HO_18:=am (Kd.jma HO_18.out)
      replace HO_646000:=am (Kd.jma HO_646000.out)
      replace BK637:=am (jf BK637.out)
      replace BK638:=am (jf BK638.out)
      replace BK645:=am (jf BK645.out)
      replace HB:=am (jD HB.out)
      refine start_ (n:=6) (S:=fun w'=>w'.cell? ⟨gb645,0,none⟩=some (u646000)) (ds:=[]) #[false,false,false,false,false,false] (by kernel_rfl) rfl rfl ((jw BK645.out 0).trans rfl) (fun hHeld=>?_)
      generalize wr.drew=w46 at HO_6 HO_18 HO_646000 BK637 BK638 BK645 HB hHeld ⊢
      refine jwb (i:=1) (N:=some 47) (v:=?_) (a':=?_) #[false,true,false,false,false,false] rfl rfl (by kernel_rfl) (fun _ _ _ h=>h) (Or.inl ⟨by rfl,?_⟩) ?_ ?_
      rotate_left
      ·exact sb
      rotate_left
      ·exact sa
      refine jwb (i:=2) (N:=some 48) (v:=?_) (a':=?_) #[false,true,true,false,false,false] rfl rfl (by kernel_rfl) (fun _ _ _ h=>h) (Or.inl ⟨by rfl,?_⟩) ?_ ?_
      rotate_left
      ·exact sb
      rotate_left
      ·exact sa
      refine jYb (i:=0) (N:=some 46) (v:=?_) (a':=?_) #[true,true,true,false,false,false] rfl rfl (by kernel_rfl) (fun _ _ _ h=>h) (Or.inl ⟨by rfl,?_⟩) hHeld ?_ ?_
      rotate_left
      ·intro w' s0
       go_simp
       with_reducible rfl
      rotate_left
      ·exact sa
      refine one_ (i:=3) (N:=some 49) #[true,true,true,true,false,false] rfl rfl (by kernel_rfl) (by decide) (fun K hK=>?_)
      refine goes_ Try.func117 (by kernel_rfl) rfl #[.slice Ao11 t639.length co11, .int .i64 a1] (by rfl) rfl rfl (aq) ?_
      with_reducible refine (jv.calls k1 _ _ t639 a1 t646 _ ?side1 ?side2 A45.out).mono ?_
      (case side1=>exact cq (Kd.jC HO_6.out).2.2)
      (case side2=>exact (Kd.jC HO_6.out).2.1)
      rintro e w' ⟨rfl,⟨nd,rfl⟩⟩
      refine ⟨_,rfl,?_⟩
      obtain ⟨Ao47,co47,eo47⟩:=Kd.jga HO_646000.out
      (first | subst eo47 |(injection eo47 with f1_ f2_ f3_;have f4_:=f1_.symm;have f5_:=f3_.symm;clear f1_ f2_ f3_;subst f4_;subst f5_))
      refine hK.out _ _ ((jw BK645.out 0).trans rfl) (fun hHeld=>?_)
      clear hK K
      refine norm_ (a':=?_) ?_ ?_
      rotate_left
      ·show Act.put _ (some 49) _=_
       simp only [Act.put,List.setIfInBounds_toArray,List.set_cons_zero,List.set_cons_succ,jHb,jLb]
       rfl
      refine one_ (i:=4) (N:=none) #[true,true,true,true,true,false] rfl rfl (by kernel_rfl) (by decide) (fun K hK=>?_)
      have hs48:w46.cell? ⟨gb638,0,none⟩=some (.slice none 0 0):=(jw BK638.out 0).trans rfl
      have hfs48:=ja BK638.out 0
      have hns48_0:=NB637_638.out
      have hns48_2:=NB645_638.out
      have hms48_0:=NB638_637.out
      have hms48_2:=NB638_645.out
      refine skip_ (w1:=?_) (by rfl) rfl ?_ ?_
      rotate_left
      ·go_simp
       rfl
      refine hK.out _ _ (((cell_far (p:=⟨gb638,_,none⟩) NB645_638.out _).trans (hHeld))) (fun hHeld=>?_)
      clear hK K
      refine jwb (i:=5) (N:=some 5) (v:=?_) (a':=?_) #[true,true,true,true,true,true] rfl rfl (by kernel_rfl) (fun _ _ _ h=>h) (Or.inl ⟨by rfl,?_⟩) ?_ ?_
      rotate_left
      ·exact sb
      rotate_left
      ·exact sa
      refine done_ (by kernel_rfl) ?_
      try go_wp2
      refine bodyPost_ret (jmb rfl _ _ gb638 53 #[.slice Ao47 x646000_1.length co47] (0,0) _ rfl (by (with_reducible repeat (first | refine jd ?_ _ | refine jf ?_ | refine jb ?_ _));refine jS (cs:=#[.slice none 0 0]) ?_ 0 _ rfl;(with_reducible repeat (first | refine jd ?_ _ | refine jf ?_ | refine jb ?_ _));exact BK638.out) Try.underlying53 rfl (by kernel_rfl)) rfl ?_
      exact ⟨_,Y0,by (with_reducible repeat (first | apply Kd.jda | apply Kd.jfa | apply Kd.jma));exact Kd.jJ (Kd.joa (p:=⟨gb638,0,none⟩) (Kd.jna HO_646000.out BK638.out (by decide)) (fun _ hk=>hk.2) (.slice Ao47 x646000_1.length co47)) (fun _ hk=>trivial),Y90⟩
  ·rw [if_neg c5] at H
   exact absurd H (by simp)
 ·rw [if_neg c4] at H
  exact absurd H (by simp)
theorem mfarA {W : World} {g B : Nat} {o : Obj} (h : W.heap[g]? = some o) (hne : g ≠ B) (j : Nat) (u : Value) : (W.setCell ⟨B, j, none⟩ u).heap[g]? = some o := (Below.heap_setCell W ⟨B, j, none⟩ u g hne).trans h
set_option maxHeartbeats 8000000 in
set_option maxRecDepth 100000 in
theorem mm_clip (A : Option Addr) (n c : Nat) (hc : n ≤ c) (w : World) :
  Calls Try.prog 111 #[.slice A n c] w fun e w'=>e=.returned (.slice A n n)∧w'=w:=by
 obtain ⟨i03,hi03,_,hsz3,_⟩:=info_parts info3
 have hcut3:=cut_clip (P:=Try.prog) 45 3 Try.underlying45 hi03 A _ c _ hc (rfl:n=n)
 clear hi03 hsz3
 go_enter Try.func111,Try.ntmps111
 go_wp2
 go_ret
 exact ⟨rfl,rfl⟩
set_option maxHeartbeats 8000000 in
set_option maxRecDepth 100000 in
theorem mres0 (m : Nat) (tr cp vh fs : Value) (Al : Option Addr) (n cl : Nat) (hcl : n ≤ cl) (w : World) (hm : w.heap[m]? = some (.cells #[tr, cp, .slice Al n cl, vh, fs] 110 (0, 0))) :
  Calls Try.prog 86 #[.pointer (some ⟨m,0,none⟩), .agg #[.int .i64 0, .int .i64 0]] w fun e w'=>e=.returned (.agg #[.slice Al n n, .int .i64 0, .int .i64 0, .slice none 0 0])∧Below w.heap.size w w':=by
 have hmx:Try.prog.follows .mixedOrders=true:=by kernel_rfl
 have hu110:=Try.underlying110
 have hu55:=Try.underlying55
 have hu129:=Try.underlying129
 have hmw:m<w.heap.size:=jva hm
 have E0:=heap_alloc_new w (.cells #[.int .i64 0, .int .i64 0] 129)
 have hb0:Below w.heap.size w ((w.alloc (.cells #[.int .i64 0, .int .i64 0] 129)).alloc (.cells #[.slice none 0 0, .int .i64 0, .int .i64 0, .slice none 0 0] 55)):=((Below.refl w.heap.size w).alloc (Nat.le_refl _) _).alloc (by simp) _
 have hb1:Below w.heap.size w ((World.drew ((w.alloc (.cells #[.int .i64 0, .int .i64 0] 129)).alloc (.cells #[.slice none 0 0, .int .i64 0, .int .i64 0, .slice none 0 0] 55))).alloc (.cells #[.slice none 0 0, .int .i64 0, .int .i64 0, .slice none 0 0] 55)):=(hb0.drew).alloc (by simp;omega) _
 have m0:w.cell? ⟨m,2,none⟩=some (.slice Al n cl):=(jw hm 2).trans rfl
 have C0:jE ((fun W':World=>W'.cell? ⟨m,2,none⟩=some (.slice Al n cl)∧W'.cell? ⟨w.heap.size,0,none⟩=some (.int .i64 0)∧W'.cell? ⟨w.heap.size,1,none⟩=some (.int .i64 0)) (World.drew ((w.alloc (.cells #[.int .i64 0, .int .i64 0] 129)).alloc (.cells #[.slice none 0 0, .int .i64 0, .int .i64 0, .slice none 0 0] 55)))):=.mk ⟨jP hb0.drew m0,(jw (jb E0 _) 0).trans rfl,(jw (jb E0 _) 1).trans rfl⟩
 have E1:((World.drew ((w.alloc (.cells #[.int .i64 0, .int .i64 0] 129)).alloc (.cells #[.slice none 0 0, .int .i64 0, .int .i64 0, .slice none 0 0] 55))).alloc (.cells #[.slice none 0 0, .int .i64 0, .int .i64 0, .slice none 0 0] 55)).heap[w.heap.size]?=some (.cells #[.int .i64 0, .int .i64 0] 129 (0,0)):=jb (jb E0 _) _
 have E2:((World.drew ((w.alloc (.cells #[.int .i64 0, .int .i64 0] 129)).alloc (.cells #[.slice none 0 0, .int .i64 0, .int .i64 0, .slice none 0 0] 55))).alloc (.cells #[.slice none 0 0, .int .i64 0, .int .i64 0, .slice none 0 0] 55)).heap[w.heap.size+1+1]?=some (.cells #[.slice none 0 0, .int .i64 0, .int .i64 0, .slice none 0 0] 55 (0,0)):=by have h:=heap_alloc_new (World.drew ((w.alloc (.cells #[.int .i64 0, .int .i64 0] 129)).alloc (.cells #[.slice none 0 0, .int .i64 0, .int .i64 0, .slice none 0 0] 55))) (.cells #[.slice none 0 0, .int .i64 0, .int .i64 0, .slice none 0 0] 55);simpa only [World.size_alloc,World.size_drew] using h
 have C1:jE ((fun W':World=>W'.cell? ⟨m,2,none⟩=some (.slice Al n cl)∧W'.cell? ⟨w.heap.size,0,none⟩=some (.int .i64 0)∧W'.cell? ⟨w.heap.size,1,none⟩=some (.int .i64 0)) ((World.drew ((w.alloc (.cells #[.int .i64 0, .int .i64 0] 129)).alloc (.cells #[.slice none 0 0, .int .i64 0, .int .i64 0, .slice none 0 0] 55))).alloc (.cells #[.slice none 0 0, .int .i64 0, .int .i64 0, .slice none 0 0] 55))):=.mk ⟨jP hb1 m0,(jw E1 0).trans rfl,(jw E1 1).trans rfl⟩
 have hb2:Below w.heap.size w (World.drew (((w.alloc (.cells #[.int .i64 0, .int .i64 0] 129)).alloc (.cells #[.slice none 0 0, .int .i64 0, .int .i64 0, .slice none 0 0] 55)).alloc (.cells #[.slice Al n n, .int .i64 0, .int .i64 0, .slice none 0 0] 55))):=(hb0.alloc (by simp;omega) _).drew
 have E3:(World.drew (((w.alloc (.cells #[.int .i64 0, .int .i64 0] 129)).alloc (.cells #[.slice none 0 0, .int .i64 0, .int .i64 0, .slice none 0 0] 55)).alloc (.cells #[.slice Al n n, .int .i64 0, .int .i64 0, .slice none 0 0] 55))).heap[w.heap.size]?=some (.cells #[.int .i64 0, .int .i64 0] 129 (0,0)):=jb (jb E0 _) _
 have C2:jE ((fun W':World=>W'.cell? ⟨m,2,none⟩=some (.slice Al n cl)∧W'.cell? ⟨w.heap.size,0,none⟩=some (.int .i64 0)∧W'.cell? ⟨w.heap.size,1,none⟩=some (.int .i64 0)) (World.drew (((w.alloc (.cells #[.int .i64 0, .int .i64 0] 129)).alloc (.cells #[.slice none 0 0, .int .i64 0, .int .i64 0, .slice none 0 0] 55)).alloc (.cells #[.slice Al n n, .int .i64 0, .int .i64 0, .slice none 0 0] 55)))):=.mk ⟨jP hb2 m0,(jw E3 0).trans rfl,(jw E3 1).trans rfl⟩
 have HBZ:=am (show Below w.heap.size w (((w.alloc (.cells #[.int .i64 0, .int .i64 0] 129)).alloc (.cells #[.slice Al n n, .int .i64 0, .int .i64 0, .slice none 0 0] 55)).alloc (.cells #[.slice Al n n, .int .i64 0, .int .i64 0, .slice none 0 0] 55)).drew from ((((Below.refl w.heap.size w).alloc (Nat.le_refl _) _).alloc (by simp) _).alloc (by simp;omega) _).drew)
 have HZZ:=am (show (((w.alloc (.cells #[.int .i64 0, .int .i64 0] 129)).alloc (.cells #[.slice Al n n, .int .i64 0, .int .i64 0, .slice none 0 0] 55)).alloc (.cells #[.slice Al n n, .int .i64 0, .int .i64 0, .slice none 0 0] 55)).drew.heap[w.heap.size+1]?=some (.cells #[.slice Al n n, .int .i64 0, .int .i64 0, .slice none 0 0] 55 (0,0)) from jb (by have h:=heap_alloc_new (w.alloc (.cells #[.int .i64 0, .int .i64 0] 129)) (.cells #[.slice Al n n, .int .i64 0, .int .i64 0, .slice none 0 0] 55);simpa only [World.size_alloc] using h) _)
 have HB:=am hb2
 clear hm m0 E0 E1 E2 E3 hb0 hb1 hb2
 go_enter Try.func86,Try.ntmps86
 go_wp2
 refine wp_region_held (S:=(fun W':World=>W'.cell? ⟨m,2,none⟩=some (.slice Al n cl)∧W'.cell? ⟨w.heap.size,0,none⟩=some (.int .i64 0)∧W'.cell? ⟨w.heap.size,1,none⟩=some (.int .i64 0))) hmx ?_
 change wpAnyH _ _ _ _ _ _ _ _ (World.drew ((w.alloc (.cells #[.int .i64 0, .int .i64 0] 129)).alloc (.cells #[.slice none 0 0, .int .i64 0, .int .i64 0, .slice none 0 0] 55)))
 have hS0:(fun W':World=>W'.cell? ⟨m,2,none⟩=some (.slice Al n cl)∧W'.cell? ⟨w.heap.size,0,none⟩=some (.int .i64 0)∧W'.cell? ⟨w.heap.size,1,none⟩=some (.int .i64 0)) (World.drew ((w.alloc (.cells #[.int .i64 0, .int .i64 0] 129)).alloc (.cells #[.slice none 0 0, .int .i64 0, .int .i64 0, .slice none 0 0] 55))):=C0.out
 refine wpAnyH_take (i:=0) (v:=?_) rfl (by kernel_rfl) (by kernel_rfl) (by kernel_rfl) (fun _ _ _ h=>h) (Or.inl ⟨by kernel_rfl,?_⟩) hS0 ?_
 rotate_left
 ·rintro W' ⟨s1,s2,s3⟩
  go_simp
  with_reducible rfl
 refine wpAnyH_take (i:=1) (v:=?_) rfl (by kernel_rfl) (by kernel_rfl) (by kernel_rfl) (fun _ _ _ h=>h) (Or.inl ⟨by kernel_rfl,?_⟩) hS0 ?_
 rotate_left
 ·rintro W' ⟨s1,s2,s3⟩
  go_simp
  with_reducible rfl
 refine wpAnyH_take (i:=2) (v:=?_) rfl (by kernel_rfl) (by kernel_rfl) (by kernel_rfl) (fun _ _ _ h=>h) (Or.inl ⟨by kernel_rfl,?_⟩) hS0 ?_
 rotate_left
 ·rintro W' ⟨s1,s2,s3⟩
  go_simp
  with_reducible rfl
 refine wpAnyH_take (i:=3) (v:=?_) rfl (by kernel_rfl) (by kernel_rfl) (by kernel_rfl) (fun _ _ _ h=>h) (Or.inl ⟨by kernel_rfl,?_⟩) hS0 ?_
 rotate_left
 ·rintro W' ⟨s1,s2,s3⟩
  go_simp
  with_reducible rfl
 refine wpAnyH_take (i:=5) (v:=?_) rfl (by kernel_rfl) (by kernel_rfl) (by kernel_rfl) (fun _ _ _ h=>h) (Or.inl ⟨by kernel_rfl,?_⟩) hS0 ?_
 rotate_left
 ·rintro W' ⟨s1,s2,s3⟩
  go_simp
  with_reducible rfl
 refine wpAnyH_take (i:=6) (v:=?_) rfl (by kernel_rfl) (by kernel_rfl) (by kernel_rfl) (fun _ _ _ h=>h) (Or.inl ⟨by kernel_rfl,?_⟩) hS0 ?_
 rotate_left
 ·rintro W' ⟨s1,s2,s3⟩
  go_simp
  with_reducible rfl
 refine wpAnyH_take (i:=7) (v:=?_) rfl (by kernel_rfl) (by kernel_rfl) (by kernel_rfl) (fun _ _ _ h=>h) (Or.inl ⟨by kernel_rfl,?_⟩) hS0 ?_
 rotate_left
 ·rintro W' ⟨s1,s2,s3⟩
  go_simp
  with_reducible rfl
 refine wpAnyH_take (i:=8) (v:=?_) rfl (by kernel_rfl) (by kernel_rfl) (by kernel_rfl) (fun _ _ _ h=>h) (Or.inl ⟨by kernel_rfl,?_⟩) hS0 ?_
 rotate_left
 ·rintro W' ⟨s1,s2,s3⟩
  go_simp
  with_reducible rfl
 refine wpAnyH_all (rs:=[4,10]) (by kernel_rfl) (by simp) ?_
 intro ii hii
 obtain hii | hii:ii=4∨ii=10:=by simpa using hii
 ·subst hii
  refine wpOp_step rfl (fun K hK=>?_)
  go_simp
  refine (mm_clip Al n cl hcl _).mono ?_
  rintro e w1 ⟨rfl,rfl⟩
  refine hK _ _ ⟨hS0,?_⟩
  clear hK K
  refine wpAnyH_take (i:=9) (v:=?_) rfl (by kernel_rfl) (by kernel_rfl) (by kernel_rfl) (fun _ _ _ h=>h) (Or.inl ⟨by kernel_rfl,?_⟩) hS0 ?_
  rotate_left
  ·rintro W' ⟨s1,s2,s3⟩
   go_simp
   with_reducible rfl
  refine wpAnyH_all (rs:=[10]) (by kernel_rfl) (by simp) ?_
  intro ii hii
  obtain rfl:ii=10:=by simpa using hii
  clear hii
  refine wpOp_step rfl (fun K hK=>?_)
  go_simp
  refine hK _ _ ⟨C1.out,?_⟩
  clear hK K hS0
  have hS0:=C1.out
  refine wpAnyH_all (rs:=[11]) (by kernel_rfl) (by simp) ?_
  intro ii hii
  obtain rfl:ii=11:=by simpa using hii
  clear hii
  refine wpOp_step rfl (fun K hK=>?_)
  go_simp
  refine hK _ _ ⟨C2.out,?_⟩
  clear hK K hS0
  refine wpAnyH_done (by kernel_rfl) ?_ _
  rename_i K9 hK9
  refine hK9 _ _ ?_
  clear hK9
  go_simp
  go_wp2
  refine bodyPost_ret (results_cell_row rfl _ _ (w.heap.size+1) 55 #[.slice Al n n, .int .i64 0, .int .i64 0, .slice none 0 0] (0,0) _ rfl HZZ.out Try.underlying55 rfl (by kernel_rfl)) rfl ?_
  exact ⟨rfl,HBZ.out⟩

 ·subst hii
  refine wpOp_step rfl (fun K hK=>?_)
  go_simp
  refine hK _ _ ⟨C1.out,?_⟩
  clear hK K hS0
  have hS0:=C1.out
  refine wpAnyH_all (rs:=[4]) (by kernel_rfl) (by simp) ?_
  intro ii hii
  obtain rfl:ii=4:=by simpa using hii
  clear hii
  refine wpOp_step rfl (fun K hK=>?_)
  go_simp
  refine (mm_clip Al n cl hcl _).mono ?_
  rintro e w1 ⟨rfl,rfl⟩
  refine hK _ _ ⟨hS0,?_⟩
  clear hK K
  refine wpAnyH_take (i:=9) (v:=?_) rfl (by kernel_rfl) (by kernel_rfl) (by kernel_rfl) (fun _ _ _ h=>h) (Or.inl ⟨by kernel_rfl,?_⟩) hS0 ?_
  rotate_left
  ·rintro W' ⟨s1,s2,s3⟩
   go_simp
   with_reducible rfl
  refine wpAnyH_all (rs:=[11]) (by kernel_rfl) (by simp) ?_
  intro ii hii
  obtain rfl:ii=11:=by simpa using hii
  clear hii
  refine wpOp_step rfl (fun K hK=>?_)
  go_simp
  refine hK _ _ ⟨C2.out,?_⟩
  clear hK K hS0
  refine wpAnyH_done (by kernel_rfl) ?_ _
  rename_i K9 hK9
  refine hK9 _ _ ?_
  clear hK9
  go_simp
  go_wp2
  refine bodyPost_ret (results_cell_row rfl _ _ (w.heap.size+1) 55 #[.slice Al n n, .int .i64 0, .int .i64 0, .slice none 0 0] (0,0) _ rfl HZZ.out Try.underlying55 rfl (by kernel_rfl)) rfl ?_
  exact ⟨rfl,HBZ.out⟩
set_option maxHeartbeats 8000000 in
set_option maxRecDepth 100000 in
theorem mres2 (m : Nat) (tr cp vh fs : Value) (Al : Option Addr) (n cl : Nat) (hcl : n ≤ cl) (f : Int) (w : World) (hm : w.heap[m]? = some (.cells #[tr, cp, .slice Al n cl, vh, fs] 110 (0, 0))) (H' : List S90) (f' : Int) (KI : ∀ W, Below w.heap.size w W → Calls Try.prog 112 #[.agg #[vh], .int .i64 f] W fun e w' => ∃ v0 : Value, e = .returned (.tuple #[.agg #[v0], .int .i64 f']) ∧ Kd.R k90 90 w' W.heap.size (fun _ => True) v0 H' ∧ Below W.heap.size W w') :
  Calls Try.prog 86 #[.pointer (some ⟨m,0,none⟩), .agg #[.int .i64 2, .int .i64 f]] w fun e w'=>∃ v1:Value,e=.returned (.agg #[.slice Al n n, .int .i64 2, .int .i64 f',v1])∧Kd.R k90 90 w' w.heap.size (fun _=>True) v1 H'∧Below w.heap.size w w':=by
 have hmx:Try.prog.follows .mixedOrders=true:=by kernel_rfl
 have hu110:=Try.underlying110
 have hu55:=Try.underlying55
 have hu129:=Try.underlying129
 have hmw:m<w.heap.size:=jva hm
 have E0:=heap_alloc_new w (.cells #[.int .i64 2, .int .i64 f] 129)
 have hb0:Below w.heap.size w ((w.alloc (.cells #[.int .i64 2, .int .i64 f] 129)).alloc (.cells #[.slice none 0 0, .int .i64 0, .int .i64 0, .slice none 0 0] 55)):=((Below.refl w.heap.size w).alloc (Nat.le_refl _) _).alloc (by simp) _
 have hb1:Below w.heap.size w ((World.drew ((w.alloc (.cells #[.int .i64 2, .int .i64 f] 129)).alloc (.cells #[.slice none 0 0, .int .i64 0, .int .i64 0, .slice none 0 0] 55))).alloc (.cells #[.slice none 0 0, .int .i64 0, .int .i64 0, .slice none 0 0] 55)):=(hb0.drew).alloc (by simp;omega) _
 have m0:w.cell? ⟨m,2,none⟩=some (.slice Al n cl):=(jw hm 2).trans rfl
 have C0:jE ((fun W':World=>W'.cell? ⟨m,2,none⟩=some (.slice Al n cl)∧W'.cell? ⟨w.heap.size,0,none⟩=some (.int .i64 2)∧W'.cell? ⟨w.heap.size,1,none⟩=some (.int .i64 f)) (World.drew ((w.alloc (.cells #[.int .i64 2, .int .i64 f] 129)).alloc (.cells #[.slice none 0 0, .int .i64 0, .int .i64 0, .slice none 0 0] 55)))):=.mk ⟨jP hb0.drew m0,(jw (jb E0 _) 0).trans rfl,(jw (jb E0 _) 1).trans rfl⟩
 have E1:((World.drew ((w.alloc (.cells #[.int .i64 2, .int .i64 f] 129)).alloc (.cells #[.slice none 0 0, .int .i64 0, .int .i64 0, .slice none 0 0] 55))).alloc (.cells #[.slice none 0 0, .int .i64 0, .int .i64 0, .slice none 0 0] 55)).heap[w.heap.size]?=some (.cells #[.int .i64 2, .int .i64 f] 129 (0,0)):=jb (jb E0 _) _
 have E2:((World.drew ((w.alloc (.cells #[.int .i64 2, .int .i64 f] 129)).alloc (.cells #[.slice none 0 0, .int .i64 0, .int .i64 0, .slice none 0 0] 55))).alloc (.cells #[.slice none 0 0, .int .i64 0, .int .i64 0, .slice none 0 0] 55)).heap[w.heap.size+1+1]?=some (.cells #[.slice none 0 0, .int .i64 0, .int .i64 0, .slice none 0 0] 55 (0,0)):=by have h:=heap_alloc_new (World.drew ((w.alloc (.cells #[.int .i64 2, .int .i64 f] 129)).alloc (.cells #[.slice none 0 0, .int .i64 0, .int .i64 0, .slice none 0 0] 55))) (.cells #[.slice none 0 0, .int .i64 0, .int .i64 0, .slice none 0 0] 55);simpa only [World.size_alloc,World.size_drew] using h
 have C1:jE ((fun W':World=>W'.cell? ⟨m,2,none⟩=some (.slice Al n cl)∧W'.cell? ⟨w.heap.size,0,none⟩=some (.int .i64 2)∧W'.cell? ⟨w.heap.size,1,none⟩=some (.int .i64 f)) ((World.drew ((w.alloc (.cells #[.int .i64 2, .int .i64 f] 129)).alloc (.cells #[.slice none 0 0, .int .i64 0, .int .i64 0, .slice none 0 0] 55))).alloc (.cells #[.slice none 0 0, .int .i64 0, .int .i64 0, .slice none 0 0] 55))):=.mk ⟨jP hb1 m0,(jw E1 0).trans rfl,(jw E1 1).trans rfl⟩
 have hb2:Below w.heap.size w (World.drew (((w.alloc (.cells #[.int .i64 2, .int .i64 f] 129)).alloc (.cells #[.slice none 0 0, .int .i64 0, .int .i64 0, .slice none 0 0] 55)).alloc (.cells #[.slice Al n n, .int .i64 2, .int .i64 f, .slice none 0 0] 55))):=(hb0.alloc (by simp;omega) _).drew
 have E3:(World.drew (((w.alloc (.cells #[.int .i64 2, .int .i64 f] 129)).alloc (.cells #[.slice none 0 0, .int .i64 0, .int .i64 0, .slice none 0 0] 55)).alloc (.cells #[.slice Al n n, .int .i64 2, .int .i64 f, .slice none 0 0] 55))).heap[w.heap.size]?=some (.cells #[.int .i64 2, .int .i64 f] 129 (0,0)):=jb (jb E0 _) _
 have C2:jE ((fun W':World=>W'.cell? ⟨m,2,none⟩=some (.slice Al n cl)∧W'.cell? ⟨w.heap.size,0,none⟩=some (.int .i64 2)∧W'.cell? ⟨w.heap.size,1,none⟩=some (.int .i64 f)) (World.drew (((w.alloc (.cells #[.int .i64 2, .int .i64 f] 129)).alloc (.cells #[.slice none 0 0, .int .i64 0, .int .i64 0, .slice none 0 0] 55)).alloc (.cells #[.slice Al n n, .int .i64 2, .int .i64 f, .slice none 0 0] 55)))):=.mk ⟨jP hb2 m0,(jw E3 0).trans rfl,(jw E3 1).trans rfl⟩
 have MM:=am (show (World.drew (((w.alloc (.cells #[.int .i64 2, .int .i64 f] 129)).alloc (.cells #[.slice none 0 0, .int .i64 0, .int .i64 0, .slice none 0 0] 55)).alloc (.cells #[.slice Al n n, .int .i64 2, .int .i64 f, .slice none 0 0] 55))).heap[m]?=some (.cells #[tr,cp, .slice Al n cl,vh,fs] 110 (0,0)) from jc hm hb2)
 have EE:=am E3
 have RR:=am (show (World.drew (((w.alloc (.cells #[.int .i64 2, .int .i64 f] 129)).alloc (.cells #[.slice none 0 0, .int .i64 0, .int .i64 0, .slice none 0 0] 55)).alloc (.cells #[.slice Al n n, .int .i64 2, .int .i64 f, .slice none 0 0] 55))).heap[w.heap.size+1+1]?=some (.cells #[.slice Al n n, .int .i64 2, .int .i64 f, .slice none 0 0] 55 (0,0)) by have h:=heap_alloc_new ((w.alloc (.cells #[.int .i64 2, .int .i64 f] 129)).alloc (.cells #[.slice none 0 0, .int .i64 0, .int .i64 0, .slice none 0 0] 55)) (.cells #[.slice Al n n, .int .i64 2, .int .i64 f, .slice none 0 0] 55);simp only [World.size_alloc] at h;exact h)
 have ZZ:=am (show (World.drew (((w.alloc (.cells #[.int .i64 2, .int .i64 f] 129)).alloc (.cells #[.slice none 0 0, .int .i64 0, .int .i64 0, .slice none 0 0] 55)).alloc (.cells #[.slice Al n n, .int .i64 2, .int .i64 f, .slice none 0 0] 55))).heap[w.heap.size+1]?=some (.cells #[.slice none 0 0, .int .i64 0, .int .i64 0, .slice none 0 0] 55 (0,0)) from jb (by have h:=heap_alloc_new (w.alloc (.cells #[.int .i64 2, .int .i64 f] 129)) (.cells #[.slice none 0 0, .int .i64 0, .int .i64 0, .slice none 0 0] 55);simpa only [World.size_alloc] using h) _)
 have HB:=am hb2
 clear hm m0 E0 E1 E2 E3 hb0 hb1 hb2
 go_enter Try.func86,Try.ntmps86
 go_wp2
 refine wp_region_held (S:=(fun W':World=>W'.cell? ⟨m,2,none⟩=some (.slice Al n cl)∧W'.cell? ⟨w.heap.size,0,none⟩=some (.int .i64 2)∧W'.cell? ⟨w.heap.size,1,none⟩=some (.int .i64 f))) hmx ?_
 change wpAnyH _ _ _ _ _ _ _ _ (World.drew ((w.alloc (.cells #[.int .i64 2, .int .i64 f] 129)).alloc (.cells #[.slice none 0 0, .int .i64 0, .int .i64 0, .slice none 0 0] 55)))
 have hS0:(fun W':World=>W'.cell? ⟨m,2,none⟩=some (.slice Al n cl)∧W'.cell? ⟨w.heap.size,0,none⟩=some (.int .i64 2)∧W'.cell? ⟨w.heap.size,1,none⟩=some (.int .i64 f)) (World.drew ((w.alloc (.cells #[.int .i64 2, .int .i64 f] 129)).alloc (.cells #[.slice none 0 0, .int .i64 0, .int .i64 0, .slice none 0 0] 55))):=C0.out
 refine wpAnyH_take (i:=0) (v:=?_) rfl (by kernel_rfl) (by kernel_rfl) (by kernel_rfl) (fun _ _ _ h=>h) (Or.inl ⟨by kernel_rfl,?_⟩) hS0 ?_
 rotate_left
 ·rintro W' ⟨s1,s2,s3⟩
  go_simp
  with_reducible rfl
 refine wpAnyH_take (i:=1) (v:=?_) rfl (by kernel_rfl) (by kernel_rfl) (by kernel_rfl) (fun _ _ _ h=>h) (Or.inl ⟨by kernel_rfl,?_⟩) hS0 ?_
 rotate_left
 ·rintro W' ⟨s1,s2,s3⟩
  go_simp
  with_reducible rfl
 refine wpAnyH_take (i:=2) (v:=?_) rfl (by kernel_rfl) (by kernel_rfl) (by kernel_rfl) (fun _ _ _ h=>h) (Or.inl ⟨by kernel_rfl,?_⟩) hS0 ?_
 rotate_left
 ·rintro W' ⟨s1,s2,s3⟩
  go_simp
  with_reducible rfl
 refine wpAnyH_take (i:=3) (v:=?_) rfl (by kernel_rfl) (by kernel_rfl) (by kernel_rfl) (fun _ _ _ h=>h) (Or.inl ⟨by kernel_rfl,?_⟩) hS0 ?_
 rotate_left
 ·rintro W' ⟨s1,s2,s3⟩
  go_simp
  with_reducible rfl
 refine wpAnyH_take (i:=5) (v:=?_) rfl (by kernel_rfl) (by kernel_rfl) (by kernel_rfl) (fun _ _ _ h=>h) (Or.inl ⟨by kernel_rfl,?_⟩) hS0 ?_
 rotate_left
 ·rintro W' ⟨s1,s2,s3⟩
  go_simp
  with_reducible rfl
 refine wpAnyH_take (i:=6) (v:=?_) rfl (by kernel_rfl) (by kernel_rfl) (by kernel_rfl) (fun _ _ _ h=>h) (Or.inl ⟨by kernel_rfl,?_⟩) hS0 ?_
 rotate_left
 ·rintro W' ⟨s1,s2,s3⟩
  go_simp
  with_reducible rfl
 refine wpAnyH_take (i:=7) (v:=?_) rfl (by kernel_rfl) (by kernel_rfl) (by kernel_rfl) (fun _ _ _ h=>h) (Or.inl ⟨by kernel_rfl,?_⟩) hS0 ?_
 rotate_left
 ·rintro W' ⟨s1,s2,s3⟩
  go_simp
  with_reducible rfl
 refine wpAnyH_take (i:=8) (v:=?_) rfl (by kernel_rfl) (by kernel_rfl) (by kernel_rfl) (fun _ _ _ h=>h) (Or.inl ⟨by kernel_rfl,?_⟩) hS0 ?_
 rotate_left
 ·rintro W' ⟨s1,s2,s3⟩
  go_simp
  with_reducible rfl
 refine wpAnyH_all (rs:=[4,10]) (by kernel_rfl) (by simp) ?_
 intro ii hii
 obtain hii | hii:ii=4∨ii=10:=by simpa using hii
 ·subst hii
  refine wpOp_step rfl (fun K hK=>?_)
  go_simp
  refine (mm_clip Al n cl hcl _).mono ?_
  rintro e w1 ⟨rfl,rfl⟩
  refine hK _ _ ⟨hS0,?_⟩
  clear hK K
  refine wpAnyH_take (i:=9) (v:=?_) rfl (by kernel_rfl) (by kernel_rfl) (by kernel_rfl) (fun _ _ _ h=>h) (Or.inl ⟨by kernel_rfl,?_⟩) hS0 ?_
  rotate_left
  ·rintro W' ⟨s1,s2,s3⟩
   go_simp
   with_reducible rfl
  refine wpAnyH_all (rs:=[10]) (by kernel_rfl) (by simp) ?_
  intro ii hii
  obtain rfl:ii=10:=by simpa using hii
  clear hii
  refine wpOp_step rfl (fun K hK=>?_)
  go_simp
  refine hK _ _ ⟨C1.out,?_⟩
  clear hK K hS0
  have hS0:=C1.out
  refine wpAnyH_all (rs:=[11]) (by kernel_rfl) (by simp) ?_
  intro ii hii
  obtain rfl:ii=11:=by simpa using hii
  clear hii
  refine wpOp_step rfl (fun K hK=>?_)
  go_simp
  refine hK _ _ ⟨C2.out,?_⟩
  clear hK K hS0
  refine wpAnyH_done (by kernel_rfl) ?_ _
  rename_i K9 hK9
  refine hK9 _ _ ?_
  clear hK9
  go_simp
  obtain ⟨Y1,hY1⟩:∃ Y1,(World.drew (((w.alloc (.cells #[.int .i64 2, .int .i64 f] 129)).alloc (.cells #[.slice none 0 0, .int .i64 0, .int .i64 0, .slice none 0 0] 55)).alloc (.cells #[.slice Al n n, .int .i64 2, .int .i64 f, .slice none 0 0] 55)))=Y1:=⟨_,rfl⟩
  have M1:=MM.out;have E1:=EE.out;have R1:=RR.out;have Z1:=ZZ.out;have B1:=HB.out
  rw [hY1] at M1 E1 R1 Z1 B1
  rw [hY1]
  clear hY1 MM EE RR ZZ HB C0 C1 C2
  have M1:=am M1;have E1:=am E1;have R1:=am R1;have Z1:=am Z1;have B1:=am B1
  have c0:Y1.cell? ⟨w.heap.size,0,none⟩=some (.int .i64 2):=(jw E1.out 0).trans rfl
  go_wp2
  clear c0
  refine wp_region_held (S:=(fun W':World=>W'.cell? ⟨m,3,none⟩=some vh∧W'.cell? ⟨w.heap.size,1,none⟩=some (.int .i64 f))) hmx ?_
  change wpAnyH _ _ _ _ _ _ _ _ (World.drew Y1)
  have hS0:(fun W':World=>W'.cell? ⟨m,3,none⟩=some vh∧W'.cell? ⟨w.heap.size,1,none⟩=some (.int .i64 f)) (World.drew Y1):=⟨(jw M1.out 3).trans rfl,(jw E1.out 1).trans rfl⟩
  refine wpAnyH_take (i:=0) (v:=?_) rfl (by kernel_rfl) (by kernel_rfl) (by kernel_rfl) (fun _ _ _ h=>h) (Or.inl ⟨by kernel_rfl,?_⟩) hS0 ?_
  rotate_left
  ·rintro W' ⟨s1,s2⟩
   go_simp
   with_reducible rfl
  refine wpAnyH_take (i:=1) (v:=?_) rfl (by kernel_rfl) (by kernel_rfl) (by kernel_rfl) (fun _ _ _ h=>h) (Or.inl ⟨by kernel_rfl,?_⟩) hS0 ?_
  rotate_left
  ·rintro W' ⟨s1,s2⟩
   go_simp
   with_reducible rfl
  refine wpAnyH_take (i:=2) (v:=?_) rfl (by kernel_rfl) (by kernel_rfl) (by kernel_rfl) (fun _ _ _ h=>h) (Or.inl ⟨by kernel_rfl,?_⟩) hS0 ?_
  rotate_left
  ·rintro W' ⟨s1,s2⟩
   go_simp
   with_reducible rfl
  refine wpAnyH_take (i:=3) (v:=?_) rfl (by kernel_rfl) (by kernel_rfl) (by kernel_rfl) (fun _ _ _ h=>h) (Or.inl ⟨by kernel_rfl,?_⟩) hS0 ?_
  rotate_left
  ·rintro W' ⟨s1,s2⟩
   go_simp
   with_reducible rfl
  refine wpAnyH_take (i:=4) (v:=?_) rfl (by kernel_rfl) (by kernel_rfl) (by kernel_rfl) (fun _ _ _ h=>h) (Or.inl ⟨by kernel_rfl,?_⟩) hS0 ?_
  rotate_left
  ·rintro W' ⟨s1,s2⟩
   go_simp
   with_reducible rfl
  refine wpAnyH_take (i:=5) (v:=?_) rfl (by kernel_rfl) (by kernel_rfl) (by kernel_rfl) (fun _ _ _ h=>h) (Or.inl ⟨by kernel_rfl,?_⟩) hS0 ?_
  rotate_left
  ·rintro W' ⟨s1,s2⟩
   go_simp
   with_reducible rfl
  refine wpAnyH_all (rs:=[6]) (by kernel_rfl) (by simp) ?_
  intro ii hii
  obtain rfl:ii=6:=by simpa using hii
  clear hii
  refine wpOp_step rfl (fun K hK=>?_)
  go_simp
  refine (KI _ B1.out.drew).mono ?_
  rintro e w4 ⟨v4,rfl,h4,hb4⟩
  have hb5:Below Y1.heap.size Y1 w4:=(Below.refl _ _).drew.trans hb4
  have hlt:w.heap.size+1+1<Y1.heap.size:=jva R1.out
  have M4:=am (jc M1.out hb5);have E4:=am (jc E1.out hb5);have R4:=am (jc R1.out hb5);have Z4:=am (jc Z1.out hb5)
  have B4:=am (B1.out.trans (hb5.mono (by omega)))
  have H4:=am (Kd.jpa h4 (show w.heap.size≤(World.drew Y1).heap.size by simp;omega))
  obtain ⟨A4,c4,rfl⟩:=Kd.jga h4
  clear h4 hb4 hb5 M1 E1 R1 Z1 B1 hS0
  have hS1:(fun W':World=>W'.cell? ⟨m,3,none⟩=some vh∧W'.cell? ⟨w.heap.size,1,none⟩=some (.int .i64 f)) w4:=⟨(jw M4.out 3).trans rfl,(jw E4.out 1).trans rfl⟩
  refine hK _ _ ⟨hS1,?_⟩
  clear hK K KI
  refine wpAnyH_take (i:=7) (v:=?_) rfl (by kernel_rfl) (by kernel_rfl) (by kernel_rfl) (fun _ _ _ h=>h) (Or.inl ⟨by kernel_rfl,?_⟩) hS1 ?_
  rotate_left
  ·rintro W' ⟨s1,s2⟩
   go_simp
   with_reducible rfl
  refine wpAnyH_take (i:=8) (v:=?_) rfl (by kernel_rfl) (by kernel_rfl) (by kernel_rfl) (fun _ _ _ h=>h) (Or.inl ⟨by kernel_rfl,?_⟩) hS1 ?_
  rotate_left
  ·rintro W' ⟨s1,s2⟩
   go_simp
   with_reducible rfl
  refine wpAnyH_take (i:=9) (v:=?_) rfl (by kernel_rfl) (by kernel_rfl) (by kernel_rfl) (fun _ _ _ h=>h) (Or.inl ⟨by kernel_rfl,?_⟩) hS1 ?_
  rotate_left
  ·rintro W' ⟨s1,s2⟩
   go_simp
   with_reducible rfl
  refine wpAnyH_take (i:=10) (v:=?_) rfl (by kernel_rfl) (by kernel_rfl) (by kernel_rfl) (fun _ _ _ h=>h) (Or.inl ⟨by kernel_rfl,?_⟩) hS1 ?_
  rotate_left
  ·rintro W' ⟨s1,s2⟩
   go_simp
   with_reducible rfl
  have cR3:w4.cell? ⟨w.heap.size+1+1,3,none⟩=some (.slice none 0 0):=(jw R4.out 3).trans rfl
  have fR3:=ja R4.out 3
  have x1:=jS R4.out 3 (.slice A4 H'.length c4) rfl
  have M5:=am (mfarA M4.out (show m≠w.heap.size+1+1 by omega) 3 (.slice A4 H'.length c4))
  have E5:=am (mfarA E4.out (show w.heap.size≠w.heap.size+1+1 by omega) 3 (.slice A4 H'.length c4))
  have Z5:=am (mfarA Z4.out (show w.heap.size+1≠w.heap.size+1+1 by omega) 3 (.slice A4 H'.length c4))
  have X1:=am x1
  clear x1
  have hS2:(fun W':World=>W'.cell? ⟨m,3,none⟩=some vh∧W'.cell? ⟨w.heap.size,1,none⟩=some (.int .i64 f)) (w4.setCell ⟨w.heap.size+1+1,3,none⟩ (.slice A4 H'.length c4)):=⟨(jw M5.out 3).trans rfl,(jw E5.out 1).trans rfl⟩
  refine wpAnyH_all (rs:=[11]) (by kernel_rfl) (by simp) ?_
  intro ii hii
  obtain rfl:ii=11:=by simpa using hii
  clear hii
  refine wpOp_step rfl (fun K hK=>?_)
  go_simp
  refine hK _ _ ⟨hS2,?_⟩
  clear hK K hS1 cR3 fR3
  refine wpAnyH_take (i:=12) (v:=?_) rfl (by kernel_rfl) (by kernel_rfl) (by kernel_rfl) (fun _ _ _ h=>h) (Or.inl ⟨by kernel_rfl,?_⟩) hS2 ?_
  rotate_left
  ·rintro W' ⟨s1,s2⟩
   go_simp
   with_reducible rfl
  obtain ⟨Y5,hY5⟩:∃ Y5,w4.setCell ⟨w.heap.size+1+1,3,none⟩ (.slice A4 H'.length c4)=Y5:=⟨_,rfl⟩
  have x1:=X1.out;have m5:=M5.out;have e5:=E5.out;have z5:=Z5.out
  have b5:=B4.out.setCell (p:=⟨w.heap.size+1+1,3,none⟩) (by simp;omega) (.slice A4 H'.length c4)
  have h5:=Kd.jrb H4.out R4.out (by decide) 3 (.slice A4 H'.length c4)
  rw [hY5] at x1 m5 e5 z5 b5 h5 hS2
  rw [hY5]
  clear hY5 X1 M5 E5 Z5 B4 H4 M4 E4 R4 Z4
  have cR2:Y5.cell? ⟨w.heap.size+1+1,2,none⟩=some (.int .i64 f):=(jw x1 2).trans rfl
  have fR2:=ja x1 2
  have X2:=am (jS x1 2 (.int .i64 f') rfl)
  have M6:=am (mfarA m5 (show m≠w.heap.size+1+1 by omega) 2 (.int .i64 f'))
  have E6:=am (mfarA e5 (show w.heap.size≠w.heap.size+1+1 by omega) 2 (.int .i64 f'))
  have Z6:=am (mfarA z5 (show w.heap.size+1≠w.heap.size+1+1 by omega) 2 (.int .i64 f'))
  have B6:=am (b5.setCell (p:=⟨w.heap.size+1+1,2,none⟩) (by simp;omega) (.int .i64 f'))
  have H6:=am (Kd.jrb h5 x1 (by decide) 2 (.int .i64 f'))
  clear x1 m5 e5 z5 b5 h5
  have hS3:(fun W':World=>W'.cell? ⟨m,3,none⟩=some vh∧W'.cell? ⟨w.heap.size,1,none⟩=some (.int .i64 f)) (Y5.setCell ⟨w.heap.size+1+1,2,none⟩ (.int .i64 f')):=⟨(jw M6.out 3).trans rfl,(jw E6.out 1).trans rfl⟩
  refine wpAnyH_all (rs:=[13]) (by kernel_rfl) (by simp) ?_
  intro ii hii
  obtain rfl:ii=13:=by simpa using hii
  clear hii
  refine wpOp_step rfl (fun K hK=>?_)
  go_simp
  refine hK _ _ ⟨hS3,?_⟩
  clear hK K hS2 cR2 fR2
  refine wpAnyH_done (by kernel_rfl) ?_ _
  rename_i K9 hK9
  refine hK9 _ _ ?_
  clear hK9 hS3
  go_simp
  obtain ⟨Y6,hY6⟩:∃ Y6,Y5.setCell ⟨w.heap.size+1+1,2,none⟩ (.int .i64 f')=Y6:=⟨_,rfl⟩
  have x1:=X2.out;have z5:=Z6.out;have b5:=B6.out;have h5:=H6.out
  rw [hY6] at x1 z5 b5 h5
  rw [hY6]
  clear hY6 X2 Z6 B6 H6 M6 E6
  have cR0:Y6.cell? ⟨w.heap.size+1+1,0,none⟩=some (.slice Al n n):=(jw x1 0).trans rfl
  have cR1:Y6.cell? ⟨w.heap.size+1+1,1,none⟩=some (.int .i64 2):=(jw x1 1).trans rfl
  have cR2:Y6.cell? ⟨w.heap.size+1+1,2,none⟩=some (.int .i64 f'):=(jw x1 2).trans rfl
  have cR3:Y6.cell? ⟨w.heap.size+1+1,3,none⟩=some (.slice A4 H'.length c4):=(jw x1 3).trans rfl
  have cZ0:Y6.cell? ⟨w.heap.size+1,0,none⟩=some (.slice none 0 0):=(jw z5 0).trans rfl
  have cZ1:Y6.cell? ⟨w.heap.size+1,1,none⟩=some (.int .i64 0):=(jw z5 1).trans rfl
  have cZ2:Y6.cell? ⟨w.heap.size+1,2,none⟩=some (.int .i64 0):=(jw z5 2).trans rfl
  have cZ3:Y6.cell? ⟨w.heap.size+1,3,none⟩=some (.slice none 0 0):=(jw z5 3).trans rfl
  have fZ0:=ja z5 0
  have fZ1:=ja z5 1
  have fZ2:=ja z5 2
  have fZ3:=ja z5 3
  have hZw:=jva z5
  have ZZ:=am z5;have BB:=am b5;have HH:=am h5
  clear x1 z5 b5 h5
  go_wp2
  have y1:=jS ZZ.out 0 (.slice Al n n) rfl
  have y2:=jS y1 1 (.int .i64 2) rfl
  have y3:=jS y2 2 (.int .i64 f') rfl
  have y4:=jS y3 3 (.slice A4 H'.length c4) rfl
  have zH:=Kd.jrb (Kd.jrb (Kd.jrb (Kd.jrb HH.out ZZ.out (by decide) 0 (.slice Al n n)) y1 (by decide) 1 (.int .i64 2)) y2 (by decide) 2 (.int .i64 f')) y3 (by decide) 3 (.slice A4 H'.length c4)
  refine bodyPost_ret (results_cell_row rfl _ _ (w.heap.size+1) 55 #[.slice Al n n, .int .i64 2, .int .i64 f', .slice A4 H'.length c4] (0,0) _ rfl y4 Try.underlying55 rfl (by kernel_rfl)) rfl ?_
  exact ⟨_,rfl,zH,(((BB.out.setCell (p:=⟨w.heap.size+1,0,none⟩) (by simp <;> omega) _).setCell (p:=⟨w.heap.size+1,1,none⟩) (by simp <;> omega) _).setCell (p:=⟨w.heap.size+1,2,none⟩) (by simp <;> omega) _).setCell (p:=⟨w.heap.size+1,3,none⟩) (by simp <;> omega) _⟩

 ·subst hii
  refine wpOp_step rfl (fun K hK=>?_)
  go_simp
  refine hK _ _ ⟨C1.out,?_⟩
  clear hK K hS0
  have hS0:=C1.out
  refine wpAnyH_all (rs:=[4]) (by kernel_rfl) (by simp) ?_
  intro ii hii
  obtain rfl:ii=4:=by simpa using hii
  clear hii
  refine wpOp_step rfl (fun K hK=>?_)
  go_simp
  refine (mm_clip Al n cl hcl _).mono ?_
  rintro e w1 ⟨rfl,rfl⟩
  refine hK _ _ ⟨hS0,?_⟩
  clear hK K
  refine wpAnyH_take (i:=9) (v:=?_) rfl (by kernel_rfl) (by kernel_rfl) (by kernel_rfl) (fun _ _ _ h=>h) (Or.inl ⟨by kernel_rfl,?_⟩) hS0 ?_
  rotate_left
  ·rintro W' ⟨s1,s2,s3⟩
   go_simp
   with_reducible rfl
  refine wpAnyH_all (rs:=[11]) (by kernel_rfl) (by simp) ?_
  intro ii hii
  obtain rfl:ii=11:=by simpa using hii
  clear hii
  refine wpOp_step rfl (fun K hK=>?_)
  go_simp
  refine hK _ _ ⟨C2.out,?_⟩
  clear hK K hS0
  refine wpAnyH_done (by kernel_rfl) ?_ _
  rename_i K9 hK9
  refine hK9 _ _ ?_
  clear hK9
  go_simp
  obtain ⟨Y1,hY1⟩:∃ Y1,(World.drew (((w.alloc (.cells #[.int .i64 2, .int .i64 f] 129)).alloc (.cells #[.slice none 0 0, .int .i64 0, .int .i64 0, .slice none 0 0] 55)).alloc (.cells #[.slice Al n n, .int .i64 2, .int .i64 f, .slice none 0 0] 55)))=Y1:=⟨_,rfl⟩
  have M1:=MM.out;have E1:=EE.out;have R1:=RR.out;have Z1:=ZZ.out;have B1:=HB.out
  rw [hY1] at M1 E1 R1 Z1 B1
  rw [hY1]
  clear hY1 MM EE RR ZZ HB C0 C1 C2
  have M1:=am M1;have E1:=am E1;have R1:=am R1;have Z1:=am Z1;have B1:=am B1
  have c0:Y1.cell? ⟨w.heap.size,0,none⟩=some (.int .i64 2):=(jw E1.out 0).trans rfl
  go_wp2
  clear c0
  refine wp_region_held (S:=(fun W':World=>W'.cell? ⟨m,3,none⟩=some vh∧W'.cell? ⟨w.heap.size,1,none⟩=some (.int .i64 f))) hmx ?_
  change wpAnyH _ _ _ _ _ _ _ _ (World.drew Y1)
  have hS0:(fun W':World=>W'.cell? ⟨m,3,none⟩=some vh∧W'.cell? ⟨w.heap.size,1,none⟩=some (.int .i64 f)) (World.drew Y1):=⟨(jw M1.out 3).trans rfl,(jw E1.out 1).trans rfl⟩
  refine wpAnyH_take (i:=0) (v:=?_) rfl (by kernel_rfl) (by kernel_rfl) (by kernel_rfl) (fun _ _ _ h=>h) (Or.inl ⟨by kernel_rfl,?_⟩) hS0 ?_
  rotate_left
  ·rintro W' ⟨s1,s2⟩
   go_simp
   with_reducible rfl
  refine wpAnyH_take (i:=1) (v:=?_) rfl (by kernel_rfl) (by kernel_rfl) (by kernel_rfl) (fun _ _ _ h=>h) (Or.inl ⟨by kernel_rfl,?_⟩) hS0 ?_
  rotate_left
  ·rintro W' ⟨s1,s2⟩
   go_simp
   with_reducible rfl
  refine wpAnyH_take (i:=2) (v:=?_) rfl (by kernel_rfl) (by kernel_rfl) (by kernel_rfl) (fun _ _ _ h=>h) (Or.inl ⟨by kernel_rfl,?_⟩) hS0 ?_
  rotate_left
  ·rintro W' ⟨s1,s2⟩
   go_simp
   with_reducible rfl
  refine wpAnyH_take (i:=3) (v:=?_) rfl (by kernel_rfl) (by kernel_rfl) (by kernel_rfl) (fun _ _ _ h=>h) (Or.inl ⟨by kernel_rfl,?_⟩) hS0 ?_
  rotate_left
  ·rintro W' ⟨s1,s2⟩
   go_simp
   with_reducible rfl
  refine wpAnyH_take (i:=4) (v:=?_) rfl (by kernel_rfl) (by kernel_rfl) (by kernel_rfl) (fun _ _ _ h=>h) (Or.inl ⟨by kernel_rfl,?_⟩) hS0 ?_
  rotate_left
  ·rintro W' ⟨s1,s2⟩
   go_simp
   with_reducible rfl
  refine wpAnyH_take (i:=5) (v:=?_) rfl (by kernel_rfl) (by kernel_rfl) (by kernel_rfl) (fun _ _ _ h=>h) (Or.inl ⟨by kernel_rfl,?_⟩) hS0 ?_
  rotate_left
  ·rintro W' ⟨s1,s2⟩
   go_simp
   with_reducible rfl
  refine wpAnyH_all (rs:=[6]) (by kernel_rfl) (by simp) ?_
  intro ii hii
  obtain rfl:ii=6:=by simpa using hii
  clear hii
  refine wpOp_step rfl (fun K hK=>?_)
  go_simp
  refine (KI _ B1.out.drew).mono ?_
  rintro e w4 ⟨v4,rfl,h4,hb4⟩
  have hb5:Below Y1.heap.size Y1 w4:=(Below.refl _ _).drew.trans hb4
  have hlt:w.heap.size+1+1<Y1.heap.size:=jva R1.out
  have M4:=am (jc M1.out hb5);have E4:=am (jc E1.out hb5);have R4:=am (jc R1.out hb5);have Z4:=am (jc Z1.out hb5)
  have B4:=am (B1.out.trans (hb5.mono (by omega)))
  have H4:=am (Kd.jpa h4 (show w.heap.size≤(World.drew Y1).heap.size by simp;omega))
  obtain ⟨A4,c4,rfl⟩:=Kd.jga h4
  clear h4 hb4 hb5 M1 E1 R1 Z1 B1 hS0
  have hS1:(fun W':World=>W'.cell? ⟨m,3,none⟩=some vh∧W'.cell? ⟨w.heap.size,1,none⟩=some (.int .i64 f)) w4:=⟨(jw M4.out 3).trans rfl,(jw E4.out 1).trans rfl⟩
  refine hK _ _ ⟨hS1,?_⟩
  clear hK K KI
  refine wpAnyH_take (i:=7) (v:=?_) rfl (by kernel_rfl) (by kernel_rfl) (by kernel_rfl) (fun _ _ _ h=>h) (Or.inl ⟨by kernel_rfl,?_⟩) hS1 ?_
  rotate_left
  ·rintro W' ⟨s1,s2⟩
   go_simp
   with_reducible rfl
  refine wpAnyH_take (i:=8) (v:=?_) rfl (by kernel_rfl) (by kernel_rfl) (by kernel_rfl) (fun _ _ _ h=>h) (Or.inl ⟨by kernel_rfl,?_⟩) hS1 ?_
  rotate_left
  ·rintro W' ⟨s1,s2⟩
   go_simp
   with_reducible rfl
  refine wpAnyH_take (i:=9) (v:=?_) rfl (by kernel_rfl) (by kernel_rfl) (by kernel_rfl) (fun _ _ _ h=>h) (Or.inl ⟨by kernel_rfl,?_⟩) hS1 ?_
  rotate_left
  ·rintro W' ⟨s1,s2⟩
   go_simp
   with_reducible rfl
  refine wpAnyH_take (i:=10) (v:=?_) rfl (by kernel_rfl) (by kernel_rfl) (by kernel_rfl) (fun _ _ _ h=>h) (Or.inl ⟨by kernel_rfl,?_⟩) hS1 ?_
  rotate_left
  ·rintro W' ⟨s1,s2⟩
   go_simp
   with_reducible rfl
  have cR3:w4.cell? ⟨w.heap.size+1+1,3,none⟩=some (.slice none 0 0):=(jw R4.out 3).trans rfl
  have fR3:=ja R4.out 3
  have x1:=jS R4.out 3 (.slice A4 H'.length c4) rfl
  have M5:=am (mfarA M4.out (show m≠w.heap.size+1+1 by omega) 3 (.slice A4 H'.length c4))
  have E5:=am (mfarA E4.out (show w.heap.size≠w.heap.size+1+1 by omega) 3 (.slice A4 H'.length c4))
  have Z5:=am (mfarA Z4.out (show w.heap.size+1≠w.heap.size+1+1 by omega) 3 (.slice A4 H'.length c4))
  have X1:=am x1
  clear x1
  have hS2:(fun W':World=>W'.cell? ⟨m,3,none⟩=some vh∧W'.cell? ⟨w.heap.size,1,none⟩=some (.int .i64 f)) (w4.setCell ⟨w.heap.size+1+1,3,none⟩ (.slice A4 H'.length c4)):=⟨(jw M5.out 3).trans rfl,(jw E5.out 1).trans rfl⟩
  refine wpAnyH_all (rs:=[11]) (by kernel_rfl) (by simp) ?_
  intro ii hii
  obtain rfl:ii=11:=by simpa using hii
  clear hii
  refine wpOp_step rfl (fun K hK=>?_)
  go_simp
  refine hK _ _ ⟨hS2,?_⟩
  clear hK K hS1 cR3 fR3
  refine wpAnyH_take (i:=12) (v:=?_) rfl (by kernel_rfl) (by kernel_rfl) (by kernel_rfl) (fun _ _ _ h=>h) (Or.inl ⟨by kernel_rfl,?_⟩) hS2 ?_
  rotate_left
  ·rintro W' ⟨s1,s2⟩
   go_simp
   with_reducible rfl
  obtain ⟨Y5,hY5⟩:∃ Y5,w4.setCell ⟨w.heap.size+1+1,3,none⟩ (.slice A4 H'.length c4)=Y5:=⟨_,rfl⟩
  have x1:=X1.out;have m5:=M5.out;have e5:=E5.out;have z5:=Z5.out
  have b5:=B4.out.setCell (p:=⟨w.heap.size+1+1,3,none⟩) (by simp;omega) (.slice A4 H'.length c4)
  have h5:=Kd.jrb H4.out R4.out (by decide) 3 (.slice A4 H'.length c4)
  rw [hY5] at x1 m5 e5 z5 b5 h5 hS2
  rw [hY5]
  clear hY5 X1 M5 E5 Z5 B4 H4 M4 E4 R4 Z4
  have cR2:Y5.cell? ⟨w.heap.size+1+1,2,none⟩=some (.int .i64 f):=(jw x1 2).trans rfl
  have fR2:=ja x1 2
  have X2:=am (jS x1 2 (.int .i64 f') rfl)
  have M6:=am (mfarA m5 (show m≠w.heap.size+1+1 by omega) 2 (.int .i64 f'))
  have E6:=am (mfarA e5 (show w.heap.size≠w.heap.size+1+1 by omega) 2 (.int .i64 f'))
  have Z6:=am (mfarA z5 (show w.heap.size+1≠w.heap.size+1+1 by omega) 2 (.int .i64 f'))
  have B6:=am (b5.setCell (p:=⟨w.heap.size+1+1,2,none⟩) (by simp;omega) (.int .i64 f'))
  have H6:=am (Kd.jrb h5 x1 (by decide) 2 (.int .i64 f'))
  clear x1 m5 e5 z5 b5 h5
  have hS3:(fun W':World=>W'.cell? ⟨m,3,none⟩=some vh∧W'.cell? ⟨w.heap.size,1,none⟩=some (.int .i64 f)) (Y5.setCell ⟨w.heap.size+1+1,2,none⟩ (.int .i64 f')):=⟨(jw M6.out 3).trans rfl,(jw E6.out 1).trans rfl⟩
  refine wpAnyH_all (rs:=[13]) (by kernel_rfl) (by simp) ?_
  intro ii hii
  obtain rfl:ii=13:=by simpa using hii
  clear hii
  refine wpOp_step rfl (fun K hK=>?_)
  go_simp
  refine hK _ _ ⟨hS3,?_⟩
  clear hK K hS2 cR2 fR2
  refine wpAnyH_done (by kernel_rfl) ?_ _
  rename_i K9 hK9
  refine hK9 _ _ ?_
  clear hK9 hS3
  go_simp
  obtain ⟨Y6,hY6⟩:∃ Y6,Y5.setCell ⟨w.heap.size+1+1,2,none⟩ (.int .i64 f')=Y6:=⟨_,rfl⟩
  have x1:=X2.out;have z5:=Z6.out;have b5:=B6.out;have h5:=H6.out
  rw [hY6] at x1 z5 b5 h5
  rw [hY6]
  clear hY6 X2 Z6 B6 H6 M6 E6
  have cR0:Y6.cell? ⟨w.heap.size+1+1,0,none⟩=some (.slice Al n n):=(jw x1 0).trans rfl
  have cR1:Y6.cell? ⟨w.heap.size+1+1,1,none⟩=some (.int .i64 2):=(jw x1 1).trans rfl
  have cR2:Y6.cell? ⟨w.heap.size+1+1,2,none⟩=some (.int .i64 f'):=(jw x1 2).trans rfl
  have cR3:Y6.cell? ⟨w.heap.size+1+1,3,none⟩=some (.slice A4 H'.length c4):=(jw x1 3).trans rfl
  have cZ0:Y6.cell? ⟨w.heap.size+1,0,none⟩=some (.slice none 0 0):=(jw z5 0).trans rfl
  have cZ1:Y6.cell? ⟨w.heap.size+1,1,none⟩=some (.int .i64 0):=(jw z5 1).trans rfl
  have cZ2:Y6.cell? ⟨w.heap.size+1,2,none⟩=some (.int .i64 0):=(jw z5 2).trans rfl
  have cZ3:Y6.cell? ⟨w.heap.size+1,3,none⟩=some (.slice none 0 0):=(jw z5 3).trans rfl
  have fZ0:=ja z5 0
  have fZ1:=ja z5 1
  have fZ2:=ja z5 2
  have fZ3:=ja z5 3
  have hZw:=jva z5
  have ZZ:=am z5;have BB:=am b5;have HH:=am h5
  clear x1 z5 b5 h5
  go_wp2
  have y1:=jS ZZ.out 0 (.slice Al n n) rfl
  have y2:=jS y1 1 (.int .i64 2) rfl
  have y3:=jS y2 2 (.int .i64 f') rfl
  have y4:=jS y3 3 (.slice A4 H'.length c4) rfl
  have zH:=Kd.jrb (Kd.jrb (Kd.jrb (Kd.jrb HH.out ZZ.out (by decide) 0 (.slice Al n n)) y1 (by decide) 1 (.int .i64 2)) y2 (by decide) 2 (.int .i64 f')) y3 (by decide) 3 (.slice A4 H'.length c4)
  refine bodyPost_ret (results_cell_row rfl _ _ (w.heap.size+1) 55 #[.slice Al n n, .int .i64 2, .int .i64 f', .slice A4 H'.length c4] (0,0) _ rfl y4 Try.underlying55 rfl (by kernel_rfl)) rfl ?_
  exact ⟨_,rfl,zH,(((BB.out.setCell (p:=⟨w.heap.size+1,0,none⟩) (by simp <;> omega) _).setCell (p:=⟨w.heap.size+1,1,none⟩) (by simp <;> omega) _).setCell (p:=⟨w.heap.size+1,2,none⟩) (by simp <;> omega) _).setCell (p:=⟨w.heap.size+1,3,none⟩) (by simp <;> omega) _⟩
def ceEnd (k : Nat) (s : MSt) : Option (List Int × Int × Int × List S90) := if 0 ≤ s.2.2 then (jQ.f k s.2.1 s.2.2).bind fun q => some (s.1, 2, q.2, q.1) else some (s.1, 0, 0, [])
def jBb.f (k : Nat) (l0_0 : List S106) (l1 : List S44) (a2_0 : Bool) (a2_1 a2_2 : Int) : Option (List Int × Int × Int × List S90) := (jHa.f k l0_0 l1 a2_0 a2_1 a2_2).bind (ceEnd k)
set_option maxHeartbeats 8000000 in
set_option maxRecDepth 100000 in
theorem jBb.calls (k : Nat) (A0_0 : Option Addr) (c0_0 : Nat) (l0_0 : List S106) (A1 : Option Addr) (c1 : Nat) (l1 : List S44) (a2_0 : Bool) (a2_1 a2_2 : Int) (r1 : List Int) (r2 : Int) (r3 : Int) (r4 : List (S90)) (w : World) (hr0_0 : Kd.C k106 w A0_0 l0_0.length l0_0) (hc0_0 : l0_0.length ≤ c0_0) (hr1 : Kd.C k44 w A1 l1.length l1) (hc1 : l1.length ≤ c1) (h : jBb.f k l0_0 l1 a2_0 a2_1 a2_2 = some (r1, r2, r3, r4)) :
  Calls Try.prog 57 #[.agg #[.slice A0_0 l0_0.length c0_0], .slice A1 l1.length c1, .agg #[.bool a2_0, .int .i64 a2_1, .int .i64 a2_2]] w fun e w'=>∃ v0_ v1_:Value,e=.returned (.agg #[v0_, .int .i64 r2, .int .i64 r3,v1_])∧Kd.R (Kd.int .i64) 3 w' w.heap.size (fun _=>True) v0_ r1∧Kd.R k90 90 w' w.heap.size (fun _=>True) v1_ r4∧Below w.heap.size w w':=by
 obtain ⟨s,hs,h⟩:=bzS h
 have hu31:=Try.underlying31
 have hu50:=Try.underlying50
 have hu55:=Try.underlying55
 have hu129:=Try.underlying129
 have hB3:Below w.heap.size w (((w.alloc (.cells #[.slice A0_0 l0_0.length c0_0] 31)).alloc (.cells #[.bool a2_0, .int .i64 a2_1, .int .i64 a2_2] 50)).alloc (.cells #[.slice none 0 0, .int .i64 0, .int .i64 0, .slice none 0 0] 55)):=(((Below.refl w.heap.size w).alloc (Nat.le_refl _) _).alloc (by simp) _).alloc (by simp;omega) _
 have hB5:Below w.heap.size w (((((w.alloc (.cells #[.slice A0_0 l0_0.length c0_0] 31)).alloc (.cells #[.bool a2_0, .int .i64 a2_1, .int .i64 a2_2] 50)).alloc (.cells #[.slice none 0 0, .int .i64 0, .int .i64 0, .slice none 0 0] 55)).alloc (.cells #[.slice A0_0 l0_0.length c0_0] 31)).alloc (.cells #[.slice A0_0 l0_0.length c0_0, .slice none 0 0, .slice none 0 0, .slice none 0 0, .int .i64 (-1)] 110)):=(hB3.alloc (by simp;omega) _).alloc (by simp;omega) _
 have HC:=am (jHa.calls k A0_0 c0_0 l0_0 A1 c1 l1 a2_0 a2_1 a2_2 (w.heap.size+1+1+1+1) (.slice none 0 0) (-1) s (((((w.alloc (.cells #[.slice A0_0 l0_0.length c0_0] 31)).alloc (.cells #[.bool a2_0, .int .i64 a2_1, .int .i64 a2_2] 50)).alloc (.cells #[.slice none 0 0, .int .i64 0, .int .i64 0, .slice none 0 0] 55)).alloc (.cells #[.slice A0_0 l0_0.length c0_0] 31)).alloc (.cells #[.slice A0_0 l0_0.length c0_0, .slice none 0 0, .slice none 0 0, .slice none 0 0, .int .i64 (-1)] 110)) (by have h:=heap_alloc_new ((((w.alloc (.cells #[.slice A0_0 l0_0.length c0_0] 31)).alloc (.cells #[.bool a2_0, .int .i64 a2_1, .int .i64 a2_2] 50)).alloc (.cells #[.slice none 0 0, .int .i64 0, .int .i64 0, .slice none 0 0] 55)).alloc (.cells #[.slice A0_0 l0_0.length c0_0] 31)) (.cells #[.slice A0_0 l0_0.length c0_0, .slice none 0 0, .slice none 0 0, .slice none 0 0, .int .i64 (-1)] 110);simpa only [World.size_alloc] using h) (Kd.jxc k106_heap hr0_0 hB5 (fun k hk=>by omega)) hc0_0 (Kd.jxc k44_heap hr1 hB5 (fun k hk=>by omega)) hc1 hs)
 have Z5:=am (show (((((w.alloc (.cells #[.slice A0_0 l0_0.length c0_0] 31)).alloc (.cells #[.bool a2_0, .int .i64 a2_1, .int .i64 a2_2] 50)).alloc (.cells #[.slice none 0 0, .int .i64 0, .int .i64 0, .slice none 0 0] 55)).alloc (.cells #[.slice A0_0 l0_0.length c0_0] 31)).alloc (.cells #[.slice A0_0 l0_0.length c0_0, .slice none 0 0, .slice none 0 0, .slice none 0 0, .int .i64 (-1)] 110)).heap[w.heap.size+1+1]?=some (.cells #[.slice none 0 0, .int .i64 0, .int .i64 0, .slice none 0 0] 55 (0,0)) from jb (jb (by have h:=heap_alloc_new ((w.alloc (.cells #[.slice A0_0 l0_0.length c0_0] 31)).alloc (.cells #[.bool a2_0, .int .i64 a2_1, .int .i64 a2_2] 50)) (.cells #[.slice none 0 0, .int .i64 0, .int .i64 0, .slice none 0 0] 55);simpa only [World.size_alloc] using h) _) _)
 have BB:=am hB5
 clear hs hr0_0 hr1 hB3 hB5
 go_enter Try.func57,Try.ntmps57
 go_upto_if 16 with (first |(go_at_call 39;go_loud (refine (mm_new A0_0 c0_0 l0_0 none 0 0 _).mono ?_;rintro e w1 ⟨rfl,rfl⟩)) |(go_at_call 40;refine HC.out.mono ?_;clear HC;rintro e w4 ⟨rfl,⟨vl,vh,hm,hl,hh⟩,hK,hB0⟩))
 have hsz:(((((w.alloc (.cells #[.slice A0_0 l0_0.length c0_0] 31)).alloc (.cells #[.bool a2_0, .int .i64 a2_1, .int .i64 a2_2] 50)).alloc (.cells #[.slice none 0 0, .int .i64 0, .int .i64 0, .slice none 0 0] 55)).alloc (.cells #[.slice A0_0 l0_0.length c0_0] 31)).alloc (.cells #[.slice A0_0 l0_0.length c0_0, .slice none 0 0, .slice none 0 0, .slice none 0 0, .int .i64 (-1)] 110)).heap.size=w.heap.size+1+1+1+1+1:=by simp
 have BW:=am (show Below w.heap.size w w4 from BB.out.trans ⟨hB0.os,hB0.tape,hB0.output,hB0.size,fun k hk=>hK.2 k (Nat.lt_of_lt_of_le hk BB.out.size) (by omega)⟩)
 have CZ:=am (jvc Z5.out hK (by omega))
 have hlow:w.heap.size≤(((((w.alloc (.cells #[.slice A0_0 l0_0.length c0_0] 31)).alloc (.cells #[.bool a2_0, .int .i64 a2_1, .int .i64 a2_2] 50)).alloc (.cells #[.slice none 0 0, .int .i64 0, .int .i64 0, .slice none 0 0] 55)).alloc (.cells #[.slice A0_0 l0_0.length c0_0] 31)).alloc (.cells #[.slice A0_0 l0_0.length c0_0, .slice none 0 0, .slice none 0 0, .slice none 0 0, .int .i64 (-1)] 110)).heap.size:=by omega
 have hl:=Kd.jpa hl hlow
 have hh:=Kd.jpa hh hlow
 obtain ⟨Al,cl,rfl⟩:=Kd.jga hl
 obtain ⟨Ah,ch,rfl⟩:=Kd.jga hh
 have hcl:s.1.length≤cl:=(Kd.jC hl).2.1
 have hch:s.2.1.length≤ch:=(Kd.jC hh).2.1
 have CL:=am (Kd.R_clip hl (rfl:s.1=s.1))
 have CM:=am hm
 have HH:=am hh
 clear hm hl hh hK hB0 BB Z5 hlow hsz
 unfold ceEnd at h
 by_cases hf:0≤s.2.2
 ·rw [if_pos hf] at h
  obtain ⟨q,hq,h⟩:=bzS h
  simp only [Option.some.injEq,Prod.mk.injEq] at h
  obtain ⟨rfl,rfl,rfl,rfl⟩:=h
  have KI4:=am (fun W (hb:Below w4.heap.size w4 W)=>jQ.calls k Ah ch s.2.1 s.2.2 q.1 q.2 W (Kd.jZ (Kd.jC HH.out).2.2 hb) hch hq)
  have q0:=dzF (show ¬ s.2.2<0 by omega)
  rw [q0]
  clear hf HH hq q0
  go_wp2_with (go_at_call 86;go_loud (refine (mres2 (w.heap.size+1+1+1+1) _ _ _ _ Al s.1.length cl hcl s.2.2 w4 CM.out q.1 q.2 (KI4.out)).mono ?_;rintro e w5 ⟨v5,rfl,h5,hb5⟩;have H5:=am (Kd.jpa h5 (show w.heap.size≤w4.heap.size from BW.out.size));obtain ⟨A5,c5,rfl⟩:=Kd.jga h5;clear h5;have Z5:=am (jc CZ.out hb5);have L5:=am (Kd.jaa CL.out hb5);have B5:=am (BW.out.trans (hb5.mono BW.out.size));clear hb5 CM CZ CL BW KI4;have cZ0:w5.cell? ⟨w.heap.size+1+1,0,none⟩=some (.slice none 0 0):=(jw Z5.out 0).trans rfl;have fZ0:=ja Z5.out 0;have cZ1:w5.cell? ⟨w.heap.size+1+1,1,none⟩=some (.int .i64 0):=(jw Z5.out 1).trans rfl;have fZ1:=ja Z5.out 1;have cZ2:w5.cell? ⟨w.heap.size+1+1,2,none⟩=some (.int .i64 0):=(jw Z5.out 2).trans rfl;have fZ2:=ja Z5.out 2;have cZ3:w5.cell? ⟨w.heap.size+1+1,3,none⟩=some (.slice none 0 0):=(jw Z5.out 3).trans rfl;have fZ3:=ja Z5.out 3;have hZw:=jva Z5.out))
  have y1:=jS Z5.out 0 (.slice Al s.1.length s.1.length) rfl
  have y2:=jS y1 1 (.int .i64 2) rfl
  have y3:=jS y2 2 (.int .i64 q.2) rfl
  have y4:=jS y3 3 (.slice A5 q.1.length c5) rfl
  have zL:=Kd.jrb (Kd.jrb (Kd.jrb (Kd.jrb (L5.out) Z5.out (by decide) 0 (.slice Al s.1.length s.1.length)) y1 (by decide) 1 (.int .i64 2)) y2 (by decide) 2 (.int .i64 q.2)) y3 (by decide) 3 (.slice A5 q.1.length c5)
  have zH:=Kd.jrb (Kd.jrb (Kd.jrb (Kd.jrb (H5.out) Z5.out (by decide) 0 (.slice Al s.1.length s.1.length)) y1 (by decide) 1 (.int .i64 2)) y2 (by decide) 2 (.int .i64 q.2)) y3 (by decide) 3 (.slice A5 q.1.length c5)
  refine bodyPost_ret (results_cell_row rfl _ _ (w.heap.size+1+1) 55 #[.slice Al s.1.length s.1.length, .int .i64 2, .int .i64 q.2, .slice A5 q.1.length c5] (0,0) _ rfl y4 Try.underlying55 rfl (by kernel_rfl)) rfl ?_
  exact ⟨_,_,rfl,zL,zH,((((B5.out).setCell (p:=⟨w.heap.size+1+1,0,none⟩) (by simp <;> omega) _).setCell (p:=⟨w.heap.size+1+1,1,none⟩) (by simp <;> omega) _).setCell (p:=⟨w.heap.size+1+1,2,none⟩) (by simp <;> omega) _).setCell (p:=⟨w.heap.size+1+1,3,none⟩) (by simp <;> omega) _⟩
 ·rw [if_neg hf] at h
  simp only [Option.some.injEq,Prod.mk.injEq] at h
  obtain ⟨rfl,rfl,rfl,rfl⟩:=h
  have q0:=dzT (show s.2.2<0 by omega)
  rw [q0]
  clear hf HH q0
  go_wp2_with (go_at_call 86;go_loud (refine (mres0 (w.heap.size+1+1+1+1) _ _ _ _ Al s.1.length cl hcl w4 CM.out).mono ?_;rintro e w5 ⟨rfl,hb5⟩;have Z5:=am (jc CZ.out hb5);have L5:=am (Kd.jaa CL.out hb5);have B5:=am (BW.out.trans (hb5.mono BW.out.size));clear hb5 CM CZ CL BW;have cZ0:w5.cell? ⟨w.heap.size+1+1,0,none⟩=some (.slice none 0 0):=(jw Z5.out 0).trans rfl;have fZ0:=ja Z5.out 0;have cZ1:w5.cell? ⟨w.heap.size+1+1,1,none⟩=some (.int .i64 0):=(jw Z5.out 1).trans rfl;have fZ1:=ja Z5.out 1;have cZ2:w5.cell? ⟨w.heap.size+1+1,2,none⟩=some (.int .i64 0):=(jw Z5.out 2).trans rfl;have fZ2:=ja Z5.out 2;have cZ3:w5.cell? ⟨w.heap.size+1+1,3,none⟩=some (.slice none 0 0):=(jw Z5.out 3).trans rfl;have fZ3:=ja Z5.out 3;have hZw:=jva Z5.out))
  have y1:=jS Z5.out 0 (.slice Al s.1.length s.1.length) rfl
  have y2:=jS y1 1 (.int .i64 0) rfl
  have y3:=jS y2 2 (.int .i64 0) rfl
  have y4:=jS y3 3 (.slice none 0 0) rfl
  have zL:=Kd.jrb (Kd.jrb (Kd.jrb (Kd.jrb (L5.out) Z5.out (by decide) 0 (.slice Al s.1.length s.1.length)) y1 (by decide) 1 (.int .i64 0)) y2 (by decide) 2 (.int .i64 0)) y3 (by decide) 3 (.slice none 0 0)
  refine bodyPost_ret (results_cell_row rfl _ _ (w.heap.size+1+1) 55 #[.slice Al s.1.length s.1.length, .int .i64 0, .int .i64 0, .slice none 0 0] (0,0) _ rfl y4 Try.underlying55 rfl (by kernel_rfl)) rfl ?_
  exact ⟨_,_,rfl,zL,Kd.R_nil _ _ _ _ _,((((B5.out).setCell (p:=⟨w.heap.size+1+1,0,none⟩) (by simp <;> omega) _).setCell (p:=⟨w.heap.size+1+1,1,none⟩) (by simp <;> omega) _).setCell (p:=⟨w.heap.size+1+1,2,none⟩) (by simp <;> omega) _).setCell (p:=⟨w.heap.size+1+1,3,none⟩) (by simp <;> omega) _⟩
def jtb.f (k : Nat) (l0_0 : List S106) (l1 : List S44) (a2_0 : Bool) (a2_1 a2_2 : Int) : Option (List Int × Int × Int × List S90) := (jCa.f k l0_0 l1).bind fun v => if v = true then ((jnb.f a2_0 a2_1 a2_2 l0_0).bind fun u => if u = true then jBb.f k l0_0 l1 a2_0 a2_1 a2_2 else some ([], 0, 0, [])) else some ([], 0, 0, [])
set_option maxHeartbeats 8000000 in
set_option maxRecDepth 100000 in
theorem jtb.calls (k : Nat) (A0_0 : Option Addr) (c0_0 : Nat) (l0_0 : List S106) (A1 : Option Addr) (c1 : Nat) (l1 : List S44) (a2_0 : Bool) (a2_1 a2_2 : Int) (r1 : List Int) (r2 : Int) (r3 : Int) (r4 : List (S90)) (w : World) (hr0_0 : Kd.C k106 w A0_0 l0_0.length l0_0) (hc0_0 : l0_0.length ≤ c0_0) (hr1 : Kd.C k44 w A1 l1.length l1) (hc1 : l1.length ≤ c1) (h : jtb.f k l0_0 l1 a2_0 a2_1 a2_2 = some (r1, r2, r3, r4)) :
  Calls Try.prog 23 #[.agg #[.slice A0_0 l0_0.length c0_0], .slice A1 l1.length c1, .agg #[.bool a2_0, .int .i64 a2_1, .int .i64 a2_2]] w fun e w'=>∃ v0_ v1_:Value,e=.returned (.agg #[v0_, .int .i64 r2, .int .i64 r3,v1_])∧Kd.R (Kd.int .i64) 3 w' w.heap.size (fun _=>True) v0_ r1∧Kd.R k90 90 w' w.heap.size (fun _=>True) v1_ r4∧Below w.heap.size w w':=by
 obtain ⟨v,hv,h⟩:=bzS h
 have hu31:=Try.underlying31
 have hu50:=Try.underlying50
 have hu55:=Try.underlying55
 have HB:=am (show Below w.heap.size w (((w.alloc (.cells #[.slice A0_0 l0_0.length c0_0] 31)).alloc (.cells #[.bool a2_0, .int .i64 a2_1, .int .i64 a2_2] 50)).alloc (.cells #[.slice none 0 0, .int .i64 0, .int .i64 0, .slice none 0 0] 55)) from (((Below.refl w.heap.size w).alloc (Nat.le_refl _) _).alloc (by simp) _).alloc (by simp;omega) _)
 have ZB:=am (show (((w.alloc (.cells #[.slice A0_0 l0_0.length c0_0] 31)).alloc (.cells #[.bool a2_0, .int .i64 a2_1, .int .i64 a2_2] 50)).alloc (.cells #[.slice none 0 0, .int .i64 0, .int .i64 0, .slice none 0 0] 55)).heap[w.heap.size+1+1]?=some (.cells #[.slice none 0 0, .int .i64 0, .int .i64 0, .slice none 0 0] 55 (0,0)) by have h:=heap_alloc_new ((w.alloc (.cells #[.slice A0_0 l0_0.length c0_0] 31)).alloc (.cells #[.bool a2_0, .int .i64 a2_1, .int .i64 a2_2] 50)) (.cells #[.slice none 0 0, .int .i64 0, .int .i64 0, .slice none 0 0] 55);simpa only [World.size_alloc] using h)
 have TB:=am (show (((w.alloc (.cells #[.slice A0_0 l0_0.length c0_0] 31)).alloc (.cells #[.bool a2_0, .int .i64 a2_1, .int .i64 a2_2] 50)).alloc (.cells #[.slice none 0 0, .int .i64 0, .int .i64 0, .slice none 0 0] 55)).heap[w.heap.size]?=some (.cells #[.slice A0_0 l0_0.length c0_0] 31 (0,0)) from jb (jb (heap_alloc_new w (.cells #[.slice A0_0 l0_0.length c0_0] 31)) _) _)
 have SB:=am (show (((w.alloc (.cells #[.slice A0_0 l0_0.length c0_0] 31)).alloc (.cells #[.bool a2_0, .int .i64 a2_1, .int .i64 a2_2] 50)).alloc (.cells #[.slice none 0 0, .int .i64 0, .int .i64 0, .slice none 0 0] 55)).heap[w.heap.size+1]?=some (.cells #[.bool a2_0, .int .i64 a2_1, .int .i64 a2_2] 50 (0,0)) from jb (by have h:=heap_alloc_new (w.alloc (.cells #[.slice A0_0 l0_0.length c0_0] 31)) (.cells #[.bool a2_0, .int .i64 a2_1, .int .i64 a2_2] 50);simpa only [World.size_alloc] using h) _)
 have HV:=am (fun W (hb:Below w.heap.size w W)=>jCa.calls k A0_0 c0_0 l0_0 A1 c1 l1 v W (Kd.jZ hr0_0 hb) hc0_0 (Kd.jZ hr1 hb) hc1 hv)
 cases v with
 | false =>
  rw [if_neg (by simp)] at h
  simp only [Option.some.injEq,Prod.mk.injEq] at h
  obtain ⟨rfl,rfl,rfl,rfl⟩:=h
  clear hv hr0_0 hr1
  go_enter Try.func23,Try.ntmps23
  go_wp2_with (go_at_call 17;refine (HV.out _ HB.out).mono ?_;clear HV;rintro e w1 ⟨rfl,hb1⟩;have Z1:=am (jc ZB.out hb1);have T1:=am (jc TB.out hb1);have S1:=am (jc SB.out hb1);have B1:=am (HB.out.trans (hb1.mono HB.out.size));have cT:=(jw T1.out 0).trans rfl;have cS0:=(jw S1.out 0).trans rfl;have cS1:=(jw S1.out 1).trans rfl;have cS2:=(jw S1.out 2).trans rfl;clear hb1 HB ZB TB SB;have ZF:=Z1;have BF:=B1;have cZ0:w1.cell? ⟨w.heap.size+1+1,0,none⟩=some (.slice none 0 0):=(jw ZF.out 0).trans rfl;have fZ0:=ja ZF.out 0;have cZ1:w1.cell? ⟨w.heap.size+1+1,1,none⟩=some (.int .i64 0):=(jw ZF.out 1).trans rfl;have fZ1:=ja ZF.out 1;have cZ2:w1.cell? ⟨w.heap.size+1+1,2,none⟩=some (.int .i64 0):=(jw ZF.out 2).trans rfl;have fZ2:=ja ZF.out 2;have cZ3:w1.cell? ⟨w.heap.size+1+1,3,none⟩=some (.slice none 0 0):=(jw ZF.out 3).trans rfl;have fZ3:=ja ZF.out 3;have hZw:=jva ZF.out)
  have y1:=jS ZF.out 0 (.slice none 0 0) rfl
  have y2:=jS y1 1 (.int .i64 0) rfl
  have y3:=jS y2 2 (.int .i64 0) rfl
  have y4:=jS y3 3 (.slice none 0 0) rfl
  refine bodyPost_ret (results_cell_row rfl _ _ (w.heap.size+1+1) 55 #[.slice none 0 0, .int .i64 0, .int .i64 0, .slice none 0 0] (0,0) _ rfl y4 Try.underlying55 rfl (by kernel_rfl)) rfl ?_
  exact ⟨_,_,rfl,Kd.R_nil _ _ _ _ _,Kd.R_nil _ _ _ _ _,((((BF.out).setCell (p:=⟨w.heap.size+1+1,0,none⟩) (by simp <;> omega) _).setCell (p:=⟨w.heap.size+1+1,1,none⟩) (by simp <;> omega) _).setCell (p:=⟨w.heap.size+1+1,2,none⟩) (by simp <;> omega) _).setCell (p:=⟨w.heap.size+1+1,3,none⟩) (by simp <;> omega) _⟩
 | true =>
  rw [if_pos rfl] at h
  obtain ⟨u,hu,h⟩:=bzS h
  have HU:=am (fun W (hb:Below w.heap.size w W)=>jnb.calls a2_0 a2_1 a2_2 A0_0 c0_0 l0_0 u W (Kd.jZ hr0_0 hb) hc0_0 hu)
  cases u with
  | false =>
   rw [if_neg (by simp)] at h
   simp only [Option.some.injEq,Prod.mk.injEq] at h
   obtain ⟨rfl,rfl,rfl,rfl⟩:=h
   clear hv hu hr0_0 hr1
   go_enter Try.func23,Try.ntmps23
   go_wp2_with (first |(go_at_call 17;refine (HV.out _ HB.out).mono ?_;clear HV;rintro e w1 ⟨rfl,hb1⟩;have Z1:=am (jc ZB.out hb1);have T1:=am (jc TB.out hb1);have S1:=am (jc SB.out hb1);have B1:=am (HB.out.trans (hb1.mono HB.out.size));have cT:=(jw T1.out 0).trans rfl;have cS0:=(jw S1.out 0).trans rfl;have cS1:=(jw S1.out 1).trans rfl;have cS2:=(jw S1.out 2).trans rfl;clear hb1 HB ZB TB SB) |(go_at_call 56;refine (HU.out _ B1.out).mono ?_;clear HU cT cS0 cS1 cS2;rintro e w2 ⟨rfl,hb2⟩;have Z2:=am (jc Z1.out hb2);have T2:=am (jc T1.out hb2);have S2:=am (jc S1.out hb2);have B2:=am (B1.out.trans (hb2.mono B1.out.size));have cT:=(jw T2.out 0).trans rfl;have cS0:=(jw S2.out 0).trans rfl;have cS1:=(jw S2.out 1).trans rfl;have cS2:=(jw S2.out 2).trans rfl;clear hb2 B1 Z1 T1 S1;have ZF:=Z2;have BF:=B2;have cZ0:w2.cell? ⟨w.heap.size+1+1,0,none⟩=some (.slice none 0 0):=(jw ZF.out 0).trans rfl;have fZ0:=ja ZF.out 0;have cZ1:w2.cell? ⟨w.heap.size+1+1,1,none⟩=some (.int .i64 0):=(jw ZF.out 1).trans rfl;have fZ1:=ja ZF.out 1;have cZ2:w2.cell? ⟨w.heap.size+1+1,2,none⟩=some (.int .i64 0):=(jw ZF.out 2).trans rfl;have fZ2:=ja ZF.out 2;have cZ3:w2.cell? ⟨w.heap.size+1+1,3,none⟩=some (.slice none 0 0):=(jw ZF.out 3).trans rfl;have fZ3:=ja ZF.out 3;have hZw:=jva ZF.out))
   have y1:=jS ZF.out 0 (.slice none 0 0) rfl
   have y2:=jS y1 1 (.int .i64 0) rfl
   have y3:=jS y2 2 (.int .i64 0) rfl
   have y4:=jS y3 3 (.slice none 0 0) rfl
   refine bodyPost_ret (results_cell_row rfl _ _ (w.heap.size+1+1) 55 #[.slice none 0 0, .int .i64 0, .int .i64 0, .slice none 0 0] (0,0) _ rfl y4 Try.underlying55 rfl (by kernel_rfl)) rfl ?_
   exact ⟨_,_,rfl,Kd.R_nil _ _ _ _ _,Kd.R_nil _ _ _ _ _,((((BF.out).setCell (p:=⟨w.heap.size+1+1,0,none⟩) (by simp <;> omega) _).setCell (p:=⟨w.heap.size+1+1,1,none⟩) (by simp <;> omega) _).setCell (p:=⟨w.heap.size+1+1,2,none⟩) (by simp <;> omega) _).setCell (p:=⟨w.heap.size+1+1,3,none⟩) (by simp <;> omega) _⟩
  | true =>
   rw [if_pos rfl] at h
   have HX:=am (fun W (hb:Below w.heap.size w W)=>jBb.calls k A0_0 c0_0 l0_0 A1 c1 l1 a2_0 a2_1 a2_2 r1 r2 r3 r4 W (Kd.jZ hr0_0 hb) hc0_0 (Kd.jZ hr1 hb) hc1 h)
   clear hv hu hr0_0 hr1 h
   go_enter Try.func23,Try.ntmps23
   go_wp2_with (first |(go_at_call 17;refine (HV.out _ HB.out).mono ?_;clear HV;rintro e w1 ⟨rfl,hb1⟩;have Z1:=am (jc ZB.out hb1);have T1:=am (jc TB.out hb1);have S1:=am (jc SB.out hb1);have B1:=am (HB.out.trans (hb1.mono HB.out.size));have cT:=(jw T1.out 0).trans rfl;have cS0:=(jw S1.out 0).trans rfl;have cS1:=(jw S1.out 1).trans rfl;have cS2:=(jw S1.out 2).trans rfl;clear hb1 HB ZB TB SB) |(go_at_call 56;refine (HU.out _ B1.out).mono ?_;clear HU cT cS0 cS1 cS2;rintro e w2 ⟨rfl,hb2⟩;have Z2:=am (jc Z1.out hb2);have T2:=am (jc T1.out hb2);have S2:=am (jc S1.out hb2);have B2:=am (B1.out.trans (hb2.mono B1.out.size));have cT:=(jw T2.out 0).trans rfl;have cS0:=(jw S2.out 0).trans rfl;have cS1:=(jw S2.out 1).trans rfl;have cS2:=(jw S2.out 2).trans rfl;clear hb2 B1 Z1 T1 S1) |(go_at_call 57;refine (HX.out _ B2.out).mono ?_;clear HX cT cS0 cS1 cS2;rintro e w3 ⟨v0,v1,rfl,h0,h1,hb3⟩;have L0:=am (Kd.jpa h0 B2.out.size);have L1:=am (Kd.jpa h1 B2.out.size);obtain ⟨A5,c5,rfl⟩:=Kd.jga h0;obtain ⟨A6,c6,rfl⟩:=Kd.jga h1;clear h0 h1;have ZF:=am (jc Z2.out hb3);have BF:=am (B2.out.trans (hb3.mono B2.out.size));clear hb3 B2 Z2 T2 S2;have cZ0:w3.cell? ⟨w.heap.size+1+1,0,none⟩=some (.slice none 0 0):=(jw ZF.out 0).trans rfl;have fZ0:=ja ZF.out 0;have cZ1:w3.cell? ⟨w.heap.size+1+1,1,none⟩=some (.int .i64 0):=(jw ZF.out 1).trans rfl;have fZ1:=ja ZF.out 1;have cZ2:w3.cell? ⟨w.heap.size+1+1,2,none⟩=some (.int .i64 0):=(jw ZF.out 2).trans rfl;have fZ2:=ja ZF.out 2;have cZ3:w3.cell? ⟨w.heap.size+1+1,3,none⟩=some (.slice none 0 0):=(jw ZF.out 3).trans rfl;have fZ3:=ja ZF.out 3;have hZw:=jva ZF.out))
   have y1:=jS ZF.out 0 (.slice A5 r1.length c5) rfl
   have y2:=jS y1 1 (.int .i64 r2) rfl
   have y3:=jS y2 2 (.int .i64 r3) rfl
   have y4:=jS y3 3 (.slice A6 r4.length c6) rfl
   refine bodyPost_ret (results_cell_row rfl _ _ (w.heap.size+1+1) 55 #[.slice A5 r1.length c5, .int .i64 r2, .int .i64 r3, .slice A6 r4.length c6] (0,0) _ rfl y4 Try.underlying55 rfl (by kernel_rfl)) rfl ?_
   exact ⟨_,_,rfl,Kd.jrb (Kd.jrb (Kd.jrb (Kd.jrb (L0.out) ZF.out (by decide) 0 (.slice A5 r1.length c5)) y1 (by decide) 1 (.int .i64 r2)) y2 (by decide) 2 (.int .i64 r3)) y3 (by decide) 3 (.slice A6 r4.length c6),Kd.jrb (Kd.jrb (Kd.jrb (Kd.jrb (L1.out) ZF.out (by decide) 0 (.slice A5 r1.length c5)) y1 (by decide) 1 (.int .i64 r2)) y2 (by decide) 2 (.int .i64 r3)) y3 (by decide) 3 (.slice A6 r4.length c6),((((BF.out).setCell (p:=⟨w.heap.size+1+1,0,none⟩) (by simp <;> omega) _).setCell (p:=⟨w.heap.size+1+1,1,none⟩) (by simp <;> omega) _).setCell (p:=⟨w.heap.size+1+1,2,none⟩) (by simp <;> omega) _).setCell (p:=⟨w.heap.size+1+1,3,none⟩) (by simp <;> omega) _⟩
end Go.Proofs.Ytlhfcmbkjddgiaa.P
end
