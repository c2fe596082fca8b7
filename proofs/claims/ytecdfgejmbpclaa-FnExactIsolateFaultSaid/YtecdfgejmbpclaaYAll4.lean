/- One part of the proofs on this program: functions of the program as plain functions, that the code comes to them, and facts on them. -/
import Derived.Shelf.Sort.Plain
import Derived.Test.YtecdfgejmbpclaaYAll1
import Derived.Test.YtecdfgejmbpclaaYAll3
import Derived.Test.YtecdfgejmbpclaaYWAuto
section
namespace Go.Proofs.Ytecdfgejmbpclaa.P
open Go.RowKit Go.Proofs.YtecdfgejmbpclaaW.PrintWords Go.Proofs.YtecdfgejmbpclaaW.PrintLast Go.Proofs.YtecdfgejmbpclaaW.PrintMore
attribute [local go_sem] jka jia jEa jDa jba jaa jja jha jv
set_option linter.unusedVariables false
set_option linter.unusedSimpArgs false
def sh189_ren : Go.Shelf.Ren := ⟨fun | 189 => 82 | 125 => 104 | 257 => 103 | 128 => 120 | 129 => 121 | 294 => 111 | 295 => 112 | 296 => 113 | 297 => 114 | 298 => 115 | 299 => 116 | 216 => 117 | 300 => 118 | 301 => 119 | 328 => 124 | 329 => 125 | 330 => 126 | 331 => 127 | 332 => 128 | 215 => 129 | 343 => 130 | n => n, fun | 28 => 45 | 3 => 3 | 46 => 119 | 0 => 0 | 51 => 134 | 53 => 136 | 4 => 4 | 183 => 127 | 182 => 126 | 131 => 131 | 5 => 5 | 9 => 9 | 218 => 139 | 222 => 87 | 228 => 144 | 229 => 145 | n => n, fun | n => n⟩
theorem sh189 : Go.Proofs.Lays.n189 Try.prog sh189_ren := {
 mixed:=by kernel_rfl
 f125:=Try.func104.trans (congrArg some (by kernel_rfl))
 f128:=Try.func120.trans (congrArg some (by kernel_rfl))
 f129:=Try.func121.trans (congrArg some (by kernel_rfl))
 f189:=Try.func82.trans (congrArg some (by kernel_rfl))
 f215:=Try.func129.trans (congrArg some (by kernel_rfl))
 f216:=Try.func117.trans (congrArg some (by kernel_rfl))
 f257:=Try.func103.trans (congrArg some (by kernel_rfl))
 f294:=Try.func111.trans (congrArg some (by kernel_rfl))
 f295:=Try.func112.trans (congrArg some (by kernel_rfl))
 f296:=Try.func113.trans (congrArg some (by kernel_rfl))
 f297:=Try.func114.trans (congrArg some (by kernel_rfl))
 f298:=Try.func115.trans (congrArg some (by kernel_rfl))
 f299:=Try.func116.trans (congrArg some (by kernel_rfl))
 f300:=Try.func118.trans (congrArg some (by kernel_rfl))
 f301:=Try.func119.trans (congrArg some (by kernel_rfl))
 f328:=Try.func124.trans (congrArg some (by kernel_rfl))
 f329:=Try.func125.trans (congrArg some (by kernel_rfl))
 f330:=Try.func126.trans (congrArg some (by kernel_rfl))
 f331:=Try.func127.trans (congrArg some (by kernel_rfl))
 f332:=Try.func128.trans (congrArg some (by kernel_rfl))
 f343:=Try.func130.trans (congrArg some (by kernel_rfl))
 t0:=Try.underlying0
 a0:=Try.isAgg0
 z0:=Try.sizeOf0
 v0:=Try.zeroValue0
 t3:=Try.underlying3
 a3:=Try.isAgg3
 z3:=Try.sizeOf3
 v3:=Try.zeroValue3
 t4:=Try.underlying4
 a4:=Try.isAgg4
 z4:=Try.sizeOf4
 v4:=Try.zeroValue4
 t5:=Try.underlying5
 a5:=Try.isAgg5
 z5:=Try.sizeOf5
 v5:=Try.zeroValue5
 t9:=Try.underlying9
 a9:=Try.isAgg9
 z9:=Try.sizeOf9
 v9:=Try.zeroValue9
 t28:=Try.underlying45
 a28:=Try.isAgg45
 z28:=Try.sizeOf45
 v28:=Try.zeroValue45
 t46:=Try.underlying119
 a46:=Try.isAgg119
 z46:=Try.sizeOf119
 v46:=Try.zeroValue119
 t51:=Try.underlying134
 a51:=Try.isAgg134
 z51:=Try.sizeOf134
 v51:=Try.zeroValue134
 t53:=Try.underlying136
 a53:=Try.isAgg136
 z53:=Try.sizeOf136
 v53:=Try.zeroValue136
 t131:=Try.underlying131
 a131:=Try.isAgg131
 z131:=Try.sizeOf131
 v131:=Try.zeroValue131
 t182:=Try.underlying126
 a182:=Try.isAgg126
 z182:=Try.sizeOf126
 v182:=Try.zeroValue126
 t183:=Try.underlying127
 a183:=Try.isAgg127
 z183:=Try.sizeOf127
 v183:=Try.zeroValue127
 t218:=Try.underlying139
 a218:=Try.isAgg139
 z218:=Try.sizeOf139
 v218:=Try.zeroValue139
 t222:=Try.underlying87
 a222:=Try.isAgg87
 z222:=Try.sizeOf87
 v222:=Try.zeroValue87
 t228:=Try.underlying144
 a228:=Try.isAgg144
 z228:=Try.sizeOf144
 v228:=Try.zeroValue144
 t229:=Try.underlying145
 a229:=Try.isAgg145
 z229:=Try.sizeOf145
 v229:=Try.zeroValue145 }
theorem rc0 {w : World} {b : Nat} {v : Value} {l : List Value} {t : TypeId} (h : w.heap[b]? = some (.cells ⟨v :: l⟩ t (0, 0))) : w.cell? ⟨b, 0, none⟩ = some v := (jr h 0).trans rfl
theorem cells_sorted {w : World} {base cap n : Nat} {g : Nat} {xs ys : List Int} {os : Array Obj} {ok : Nat → Prop} (hl : ys.length = xs.length) (h : Kd.R (Kd.int .i64) 3 w base ok (.slice (some ⟨g, 0, none⟩) xs.length cap) xs) :
  Kd.R (Kd.int .i64) 3 (Go.Sort.grow (Go.Sort.putRow (Value.int .i64) (Go.Sort.ahead w n) g 0 ys.toArray) os) base ok (.slice (some ⟨g,0,none⟩) xs.length cap) ys∧Below base w (Go.Sort.grow (Go.Sort.putRow (Value.int .i64) (Go.Sort.ahead w n) g 0 ys.toArray) os):=by
 have ho:=Kd.own_of_R h
 obtain ⟨e1,h2 | ⟨g',cap',cur,hv,hb,hh,h1,h3,h4,h5⟩⟩:=ho
 ·exact absurd h2.1 (by simp)
 ·simp only [Value.slice.injEq,Option.some.injEq,Addr.mk.injEq,and_true,true_and] at hv
  obtain ⟨rfl,rfl⟩:=hv
  have hlt:g<w.heap.size:=(Array.getElem?_eq_some_iff.1 hh).1
  have hg:∀ k,k<w.heap.size→k≠g→(Go.Sort.grow (Go.Sort.putRow (Value.int .i64) (Go.Sort.ahead w n) g 0 ys.toArray) os).heap[k]?=w.heap[k]?:=by
   intro k hk hne
   simp only [Go.Sort.grow,Go.Sort.putRow,Go.Sort.mapBlock,Go.Sort.ahead]
   rw [Array.getElem?_append_left (by simpa using hk),Array.getElem?_modify,if_neg (fun e=>hne e.symm)]
  have hgg:(Go.Sort.grow (Go.Sort.putRow (Value.int .i64) (Go.Sort.ahead w n) g 0 ys.toArray) os).heap[g]?=some (.cells (Go.Sort.putCells (Value.int .i64) 0 ys.toArray cur) 3 (0,0)):=by
   simp only [Go.Sort.grow,Go.Sort.putRow,Go.Sort.mapBlock,Go.Sort.ahead]
   rw [Array.getElem?_append_left (by simpa using hlt),Array.getElem?_modify,if_pos rfl,hh]
   rfl
  refine ⟨?_,⟨rfl,rfl,rfl,by simp [Go.Sort.grow,Go.Sort.putRow,Go.Sort.mapBlock,Go.Sort.ahead],fun k hk=>hg k (by omega) (by omega)⟩⟩
  rw [← hl]
  refine Kd.R_of_own ⟨by simp [encs], .inr ⟨g,cap,_,rfl,hb,hgg,by omega,h3,by simpa [Go.Sort.putCells] using h4,?_⟩⟩ h.1
  apply List.ext_getElem?
  intro j
  simp only [List.getElem?_take,encs,Go.Sort.putCells,Array.toList_mapIdx,List.getElem?_mapIdx,Array.getElem?_toList,List.getElem?_map,List.size_toArray,Nat.mul_one,Nat.zero_le,true_and,Nat.zero_add,Nat.sub_zero]
  by_cases hj:j<ys.length
  ·rw [if_pos hj]
   have hc:j<cur.size:=by omega
   rw [Array.getElem?_eq_getElem hc,List.getElem?_eq_getElem hj]
   simp [hj]
  ·rw [if_neg hj,List.getElem?_eq_none (by omega)];rfl
theorem slices_Sort_row (l : List Int) (base : Nat) (ok : Nat → Prop) (g cap : Nat) (w : World) (hR : Kd.R (Kd.int .i64) 3 w base ok (.slice (some ⟨g, 0, none⟩) l.length cap) l) (hsz : l.length < 4611686018427387904) :
  Calls Try.prog 82 #[.slice (some ⟨g,0,none⟩) l.length cap] w fun e w'=>e=.returned (.tuple #[])∧Kd.R (Kd.int .i64) 3 w' base ok (.slice (some ⟨g,0,none⟩) l.length cap) (l.mergeSort fun x y=>decide (x≤y))∧Below base w w':=by
 have hH:Go.Sort.Holds (Value.int .i64) w g 0 l.toArray:=fun j hj=>by
  have hj':j<l.length:=by simpa using hj
  have h:=Kd.R_cell (0:Int) hR (j:Int) (by omega) (by omega)
  rw [Int.toNat_natCast] at h
  refine ⟨?_,by simpa using h.2⟩
  have e:rdOf (0:Int) l (j:Int)=l.toArray[j]!:=by simp [rdOf,hj']
  rw [Nat.zero_add,h.1,e]
 have hlt:g<w.heap.size:=Kd.R_lt hR g rfl
 have hs:=Go.Proofs.Any.slices_Sort_int sh189 g 0 cap l w hH hlt hsz
 refine Calls.mono (show Calls Try.prog 82 _ w _ from hs) ?_
 rintro e w' ⟨rfl,n,os,rfl⟩
 obtain ⟨h1,h2⟩:=cells_sorted (n:=n) (os:=os) (ys:=l.mergeSort fun x y=>decide (x≤y)) (List.length_mergeSort _) hR
 exact ⟨rfl,h1,h2⟩
def rcStep (k : Nat) (out : List Int) (g : Int) : Option (List Int) := if g ≥ 0 then ((jpa.f k out g).bind fun b => if b = true then some out else (if out.length < 17592186044416 then some (out ++ [g]) else none)) else some out
def rcAll (k : Nat) : List Int → List Int → Option (List Int)
 | [],out=>some out
 | g :: gs,out=>(rcStep k out g).bind fun o=>rcAll k gs o
def rcGo (h : List S54) : Nat → Nat → List Int → Option (List Int)
 | 0,_,_=>none
 | k+1,i,out=>if i<out.length then (if 0≤rd out (i:Int) then (if rd out (i:Int)<(h.length:Int) then ((rcAll k [(jd h (rd out (i:Int))).f2,(jd h (rd out (i:Int))).f3] out).bind fun o=>rcGo h k (i+1) o) else none) else none) else some out
def jfb.f (k : Nat) (l0_0 : List S54) (a1 : Int) : Option (List Int) := (rcGo l0_0 k 0 [a1]).bind fun l => if 0 < l.length ∧ l.length < 4611686018427387904 then some (l.mergeSort fun x y => decide (x ≤ y)) else none
theorem pairAt {g1 g2 : Int} {j : Nat} (h : j < 2) : [g1, g2].drop j = (if j = 0 then g1 else g2) :: [g1, g2].drop (j + 1) := by
 rcases (by omega:j=0∨j=1) with rfl | rfl <;> rfl
theorem pairCell {w : World} {b : Nat} {g1 g2 : Int} {t : TypeId} (h : w.heap[b]? = some (.cells #[.int .i64 g1, .int .i64 g2] t (0, 0))) {j : Nat} (hj : j < 2) : w.cell? ⟨b, j, none⟩ = some (.int .i64 (if j = 0 then g1 else g2)) := by
 rcases (by omega:j=0∨j=1) with rfl | rfl
 ·exact (jr h 0).trans rfl
 ·exact (jr h 1).trans rfl
set_option maxHeartbeats 8000000 in
set_option maxRecDepth 100000 in
theorem jfb.calls (k : Nat) (A0 : Option Addr) (c0 : Nat) (l0 : List (S54)) (a1 : Int) (r : List Int) (w : World) (hr0 : Kd.C k54 w A0 l0.length l0) (hc0 : l0.length ≤ c0) (h : jfb.f k l0 a1 = some r) :
  Calls Try.prog 54 #[.agg #[.slice A0 l0.length c0], .int .i64 a1] w fun e w'=>∃ v0_:Value,e=.returned (v0_)∧Kd.R (Kd.int .i64) 3 w' w.heap.size (fun _=>True) v0_ r∧Below w.heap.size w w':=by
 have hu32:=Try.underlying32
 have hu54:=Try.underlying54
 have HRH:=am hr0
 obtain ⟨l,hl,h⟩:=bzS h
 have H':=am hl
 have HZ:=am h
 have HB:=am ((Below.refl w.heap.size w).alloc (Nat.le_refl _) (.cells #[.slice A0 l0.length c0] 32))
 have BH:=am (heap_alloc_new w (.cells #[.slice A0 l0.length c0] 32))
 clear hr0 h hl
 go_enter Try.func54,Try.ntmps54
 go_wp2_with ((with_reducible refine jD (N:=10) rfl ?_);refine Kd.R_lit (Kd.int .i64) _ 3 ?hg (N:=10) ?hd (xs:=[a1]) (inner:=[.int .i64 a1]) (ok:=fun _=>True) (okp:=fun _=>True) ?hr ?hp (fun _ hk=>hk) trivial (Below.refl _ _) (Nat.le_refl _) (by simp) ?_;(case hd=>rfl);(case hg=>rfl);(case hr=>exact Y3);(case hp=>exact (Reps.one (show Kd.M (Kd.int .i64) _ _ _ a1 [.int .i64 a1] from rfl) (Reps.none _ _)));intro v111 w4 ho5 hb hg_ hnew_;clear hg_ hnew_;have n0_:=am (Kd.jna ho5 (jA (bq)));have n1_:=am (ja (g:=w.heap.size) (o:=.cells #[.slice A0 l0.length c0] 32 (0,0)) (by first | exact BH.out |((with_reducible repeat (first | refine jf ?_ _ | refine jh ?_ | refine jg ?_ _));exact BH.out)) hb);have n2_:=am (je (bq) hb);clear HB BH;have HO:=n0_;have BH:=n1_;have HB:=n2_;clear n0_ n1_ n2_ hb ho5)
 go_loopg [5,6] k (fun kq v5 v6 w'=>∃ (i:Nat) (out:List Int),v6=.int .i64 i∧i≤out.length∧jw (rcGo l0 kq i out=some l)∧jw (kq≤k)∧jw (Kd.R (Kd.int .i64) 3 w' w.heap.size (fun _=>True) v5 out)∧jw (w'.heap[w.heap.size]?=some (.cells #[.slice A0 l0.length c0] 32 (0,0)))∧jw (Below w.heap.size w w'))
 case atStart=>exact ⟨0,[a1],rfl,by simp,H',⟨Nat.le_refl _⟩,HO,BH,HB⟩
 case round =>
  clear H' HO BH HB
  obtain ⟨i,out,rfl,hi,HA,HK1,HO,BH,HB⟩:=hrel
  cases gk with
  | zero=>exact absurd HA.out (by simp [rcGo])
  | succ k1 =>
   have H:=HA.out
   clear HA
   rw [rcGo] at H
   obtain ⟨Ao,co,eo⟩:=Kd.jca HO.out
   subst eo
   have hm:out.length≤9223372036854775807:=Kd.C_max (Kd.jq HO.out).2.2
   by_cases hlt:i<out.length
   ·rw [if_pos hlt] at H
    by_cases h0:0≤rd out (i:Int)
    ·rw [if_pos h0] at H
     by_cases h1:rd out (i:Int)<(l0.length:Int)
     ·rw [if_pos h1] at H
      obtain ⟨o2,hA,H⟩:=bzS H
      have HN:=am H
      have HS:=am hA
      clear H hA
      have cH:=rc0 BH.out
      obtain ⟨ad,rfl,hz⟩:=Kd.jKb (Kd.jq HO.out).2.2 (i:Int) (by omega) (by omega)
      rw [Int.toNat_natCast] at hz
      obtain ⟨ad3,e3,y0,y1,y2,y3,y4⟩:=jOa (Kd.jK HRH.out HB.out) (rd out (i:Int)) h0 h1
      cases e3
      have p0:=ezT h0
      have p1:=ezT h1
      clear h0 h1
      generalize hgz:rd out (i:Int)=z at hz y0 y1 y2 y3 y4 p0 p1 HS
      clear hgz
      have hlb:=ezT hlt
      go_wp2
      refine wp_region_held (S:=fun W=>W.cell? ⟨w.heap.size,0,none⟩=some (.slice (some ad3) l0.length c0)∧W.cell? (ad.add i)=some (.int .i64 z)∧W.cell? ⟨(ad3.add (z.toNat * 5)).block,(ad3.add (z.toNat * 5)).off+2,none⟩=some (.int .i64 (jd l0 z).f2)∧W.cell? ⟨(ad3.add (z.toNat * 5)).block,(ad3.add (z.toNat * 5)).off+3,none⟩=some (.int .i64 (jd l0 z).f3)) (by kernel_rfl) ?_
      change wpAnyH _ _ _ _ _ _ _ _ (World.drew _)
      have hS0:(fun W=>W.cell? ⟨w.heap.size,0,none⟩=some (.slice (some ad3) l0.length c0)∧W.cell? (ad.add i)=some (.int .i64 z)∧W.cell? ⟨(ad3.add (z.toNat * 5)).block,(ad3.add (z.toNat * 5)).off+2,none⟩=some (.int .i64 (jd l0 z).f2)∧W.cell? ⟨(ad3.add (z.toNat * 5)).block,(ad3.add (z.toNat * 5)).off+3,none⟩=some (.int .i64 (jd l0 z).f3)) wr.drew:=⟨cH,hz,y2,y3⟩
      have HB2:=am (jm HB.out)
      have BH2:=am (jh BH.out)
      have HO2:=am (Kd.jQ HO.out)
      obtain ⟨W2,hW2⟩:∃ W2,W2=wr.drew:=⟨_,rfl⟩
      rw [← hW2] at hS0 HB2 BH2 HO2
      rw [← hW2]
      clear hW2 cH hz y0 y1 y2 y3 y4 HB BH HO
      refine wpAnyH_take (i:=0) (v:=?_) rfl (by kernel_rfl) (by kernel_rfl) (by kernel_rfl) (fun _ _ _ h=>h) (Or.inl ⟨by rfl,?_⟩) hS0 ?_
      rotate_left
      ·rintro W ⟨s1,s2,s3,s4⟩
       go_simp
       with_reducible rfl
      refine wpAnyH_take (i:=1) (v:=?_) rfl (by kernel_rfl) (by kernel_rfl) (by kernel_rfl) (fun _ _ _ h=>h) (Or.inl ⟨by rfl,?_⟩) hS0 ?_
      rotate_left
      ·rintro W ⟨s1,s2,s3,s4⟩
       go_simp
       with_reducible rfl
      refine wpAnyH_take (i:=2) (v:=?_) rfl (by kernel_rfl) (by kernel_rfl) (by kernel_rfl) (fun _ _ _ h=>h) (Or.inl ⟨by rfl,?_⟩) hS0 ?_
      rotate_left
      ·rintro W ⟨s1,s2,s3,s4⟩
       go_simp
       with_reducible rfl
      refine wpAnyH_take (i:=3) (v:=?_) rfl (by kernel_rfl) (by kernel_rfl) (by kernel_rfl) (fun _ _ _ h=>h) (Or.inl ⟨by rfl,?_⟩) hS0 ?_
      rotate_left
      ·rintro W ⟨s1,s2,s3,s4⟩
       go_simp
       with_reducible rfl
      refine wpAnyH_take (i:=4) (v:=?_) rfl (by kernel_rfl) (by kernel_rfl) (by kernel_rfl) (fun _ _ _ h=>h) (Or.inl ⟨by rfl,?_⟩) hS0 ?_
      rotate_left
      ·rintro W ⟨s1,s2,s3,s4⟩
       go_simp
       with_reducible rfl
      refine wpAnyH_take (i:=5) (v:=?_) rfl (by kernel_rfl) (by kernel_rfl) (by kernel_rfl) (fun _ _ _ h=>h) (Or.inl ⟨by rfl,?_⟩) hS0 ?_
      rotate_left
      ·rintro W ⟨s1,s2,s3,s4⟩
       go_simp
       with_reducible rfl
      refine wpAnyH_take (i:=6) (v:=?_) rfl (by kernel_rfl) (by kernel_rfl) (by kernel_rfl) (fun _ _ _ h=>h) (Or.inl ⟨by rfl,?_⟩) hS0 ?_
      rotate_left
      ·rintro W ⟨s1,s2,s3,s4⟩
       go_simp
       with_reducible rfl
      refine wpAnyH_take (i:=7) (v:=?_) rfl (by kernel_rfl) (by kernel_rfl) (by kernel_rfl) (fun _ _ _ h=>h) (Or.inl ⟨by rfl,?_⟩) hS0 ?_
      rotate_left
      ·rintro W ⟨s1,s2,s3,s4⟩
       go_simp
       with_reducible rfl
      refine wpAnyH_take (i:=8) (v:=?_) rfl (by kernel_rfl) (by kernel_rfl) (by kernel_rfl) (fun _ _ _ h=>h) (Or.inl ⟨by rfl,?_⟩) hS0 ?_
      rotate_left
      ·rintro W ⟨s1,s2,s3,s4⟩
       go_simp
       with_reducible rfl
      refine wpAnyH_take (i:=9) (v:=?_) rfl (by kernel_rfl) (by kernel_rfl) (by kernel_rfl) (fun _ _ _ h=>h) (Or.inl ⟨by rfl,?_⟩) hS0 ?_
      rotate_left
      ·rintro W ⟨s1,s2,s3,s4⟩
       go_simp
       with_reducible rfl
      refine wpAnyH_take (i:=10) (v:=?_) rfl (by kernel_rfl) (by kernel_rfl) (by kernel_rfl) (fun _ _ _ h=>h) (Or.inl ⟨by rfl,?_⟩) hS0 ?_
      rotate_left
      ·rintro W ⟨s1,s2,s3,s4⟩
       go_simp
       with_reducible rfl
      refine wpAnyH_take (i:=11) (v:=?_) rfl (by kernel_rfl) (by kernel_rfl) (by kernel_rfl) (fun _ _ _ h=>h) (Or.inl ⟨by rfl,?_⟩) hS0 ?_
      rotate_left
      ·rintro W ⟨s1,s2,s3,s4⟩
       go_simp
       with_reducible rfl
      refine wpAnyH_take (i:=12) (v:=?_) rfl (by kernel_rfl) (by kernel_rfl) (by kernel_rfl) (fun _ _ _ h=>h) (Or.inl ⟨by rfl,?_⟩) hS0 ?_
      rotate_left
      ·rintro W ⟨s1,s2,s3,s4⟩
       go_simp
       with_reducible rfl
      refine wpAnyH_take (i:=13) (v:=?_) rfl (by kernel_rfl) (by kernel_rfl) (by kernel_rfl) (fun _ _ _ h=>h) (Or.inl ⟨by rfl,?_⟩) hS0 ?_
      rotate_left
      ·rintro W ⟨s1,s2,s3,s4⟩
       go_simp
       with_reducible rfl
      refine wpAnyH_take (i:=14) (v:=?_) rfl (by kernel_rfl) (by kernel_rfl) (by kernel_rfl) (fun _ _ _ h=>h) (Or.inl ⟨by rfl,?_⟩) hS0 ?_
      rotate_left
      ·rintro W ⟨s1,s2,s3,s4⟩
       go_simp
       with_reducible rfl
      refine wpAnyH_take (i:=15) (v:=?_) rfl (by kernel_rfl) (by kernel_rfl) (by kernel_rfl) (fun _ _ _ h=>h) (Or.inl ⟨by rfl,?_⟩) hS0 ?_
      rotate_left
      ·rintro W ⟨s1,s2,s3,s4⟩
       go_simp
       with_reducible rfl
      refine wpAnyH_take (i:=16) (v:=?_) rfl (by kernel_rfl) (by kernel_rfl) (by kernel_rfl) (fun _ _ _ h=>h) (Or.inl ⟨by rfl,?_⟩) hS0 ?_
      rotate_left
      ·rintro W ⟨s1,s2,s3,s4⟩
       go_simp
       with_reducible rfl
      refine wpAnyH_take (i:=17) (v:=?_) rfl (by kernel_rfl) (by kernel_rfl) (by kernel_rfl) (fun _ _ _ h=>h) (Or.inl ⟨by rfl,?_⟩) hS0 ?_
      rotate_left
      ·rintro W ⟨s1,s2,s3,s4⟩
       go_simp
       with_reducible rfl
      refine wpAnyH_take (i:=20) (v:=?_) rfl (by kernel_rfl) (by kernel_rfl) (by kernel_rfl) (fun _ _ _ h=>h) (Or.inl ⟨by rfl,?_⟩) hS0 ?_
      rotate_left
      ·rintro W ⟨s1,s2,s3,s4⟩
       go_simp
       with_reducible rfl
      refine wpAnyH_all (rs:=[18]) (by kernel_rfl) (by simp) ?_
      intro ii hii
      obtain rfl:ii=18:=by simpa using hii
      clear hii
      refine wpOp_step rfl (fun K hK=>?_)
      go_simp
      have hS1:=(⟨jCa ((Below.refl _ W2).alloc (Nat.le_refl _) (.cells #[.int .i64 (jd l0 z).f2, .int .i64 (jd l0 z).f3] 3)) hS0.1,jCa ((Below.refl _ W2).alloc (Nat.le_refl _) (.cells #[.int .i64 (jd l0 z).f2, .int .i64 (jd l0 z).f3] 3)) hS0.2.1,jCa ((Below.refl _ W2).alloc (Nat.le_refl _) (.cells #[.int .i64 (jd l0 z).f2, .int .i64 (jd l0 z).f3] 3)) hS0.2.2.1,jCa ((Below.refl _ W2).alloc (Nat.le_refl _) (.cells #[.int .i64 (jd l0 z).f2, .int .i64 (jd l0 z).f3] 3)) hS0.2.2.2⟩:(fun W=>W.cell? ⟨w.heap.size,0,none⟩=some (.slice (some ad3) l0.length c0)∧W.cell? (ad.add i)=some (.int .i64 z)∧W.cell? ⟨(ad3.add (z.toNat * 5)).block,(ad3.add (z.toNat * 5)).off+2,none⟩=some (.int .i64 (jd l0 z).f2)∧W.cell? ⟨(ad3.add (z.toNat * 5)).block,(ad3.add (z.toNat * 5)).off+3,none⟩=some (.int .i64 (jd l0 z).f3)) (W2.alloc (.cells #[.int .i64 (jd l0 z).f2, .int .i64 (jd l0 z).f3] 3)))
      refine hK _ _ ⟨hS1,?_⟩
      clear hK K
      refine wpAnyH_all (rs:=[19]) (by kernel_rfl) (by simp) ?_
      intro ii hii
      obtain rfl:ii=19:=by simpa using hii
      clear hii
      refine wpOp_step rfl (fun K hK=>?_)
      go_simp
      refine hK _ _ ⟨hS1,?_⟩
      clear hK K
      refine wpAnyH_done (by kernel_rfl) ?_ _
      have HO:=am (Kd.jM (Kd.jI (Kd.jOb HO2.out) (fun k hk=>Nat.ne_of_lt hk.2.2.1)) (.cells #[.int .i64 (jd l0 z).f2, .int .i64 (jd l0 z).f3] 3))
      have LB:=am (heap_alloc_new W2 (.cells #[.int .i64 (jd l0 z).f2, .int .i64 (jd l0 z).f3] 3))
      have BH:=am (jg BH2.out (.cells #[.int .i64 (jd l0 z).f2, .int .i64 (jd l0 z).f3] 3))
      have HB:=am (jo HB2.out (.cells #[.int .i64 (jd l0 z).f2, .int .i64 (jd l0 z).f3] 3))
      have HLE:=am (Nat.le_refl out.length)
      clear hS0 hS1 HO2 BH2 HB2
      generalize hgl:W2.heap.size=gl at HO LB ⊢
      rename_i K9 hK9
      refine hK9 _ _ ?_
      go_wp2
      go_loopw [5,37] (fun v5 v37 w3=>∃ (j:Nat) (o:List Int),j≤2∧v37=.int .i64 j∧jw (rcAll k1 ([(jd l0 z).f2,(jd l0 z).f3].drop j) o=some o2)∧jw (out.length≤o.length)∧jw (Kd.R (Kd.int .i64) 3 w3 w.heap.size (fun k=>k≠gl) v5 o)∧jw (w3.heap[gl]?=some (.cells #[.int .i64 (jd l0 z).f2, .int .i64 (jd l0 z).f3] 3 (0,0)))∧jw (w3.heap[w.heap.size]?=some (.cells #[.slice (some ad3) l0.length c0] 32 (0,0)))∧jw (Below w.heap.size w w3)) (fun _ v37 _=>2 - (intOf v37).toNat)
      case atStart=>exact ⟨0,out,by omega,rfl,HS,HLE,HO,LB,BH,HB⟩
      case round =>
       clear HS HLE HO LB BH HB hgl
       obtain ⟨j,o,hj,rfl,HS,HLE,HO,LB,BH,HB⟩:=hrel
       obtain ⟨Ao2,co2,eo⟩:=Kd.jca HO.out
       subst eo
       by_cases hj2:j<2
       ·have hS:=HS.out
        rw [pairAt hj2,rcAll] at hS
        have cx:=pairCell LB.out hj2
        generalize (if j=0 then (jd l0 z).f2 else (jd l0 z).f3)=x at hS cx
        obtain ⟨o',hs1,hs2⟩:=bzS hS
        have HR2:=am hs2
        have hjb:=ezT (show (j:Int)<2 by omega)
        clear HS hS hs2
        unfold rcStep at hs1
        by_cases c6:x≥0
        ·rw [if_pos c6] at hs1
         have c6b0:decide (0≤x)=true:=dzT c6
         clear c6
         obtain ⟨b,A70,hs1⟩:=bzS hs1
         have A7:=am A70
         clear A70
         cases b with
         | true =>
          rw [if_pos rfl] at hs1
          obtain rfl:=Option.some.inj hs1
          clear hs1
          go_wp2_with (go_at_call 81;(with_reducible refine (jpa.calls k1 _ _ o x true _ ?side1 ?side2 A7.out).mono ?_);(case side1=>exact cq (Kd.jq HO.out).2.2);(case side2=>exact (Kd.jq HO.out).2.1);rintro e w' ⟨rfl,⟨nd,rfl⟩⟩)
          go_roundw
          case rel=>exact ⟨j+1,o,by omega,by go_num,HR2,⟨by have:=HLE.out;omega⟩,⟨rq HO.out⟩,⟨kq LB.out⟩,⟨kq BH.out⟩,⟨(bq)⟩⟩
          case measure=>simp [intOf];omega
         | false =>
          rw [if_neg (by simp)] at hs1
          by_cases c10:o.length<17592186044416
          ·rw [if_pos c10] at hs1
           obtain rfl:=Option.some.inj hs1
           have LM:=am c10
           clear c10 hs1
           go_wp2_with (first |(go_at_call 81;(with_reducible refine (jpa.calls k1 _ _ o x false _ ?side1 ?side2 A7.out).mono ?_);(case side1=>exact cq (Kd.jq HO.out).2.2);(case side2=>exact (Kd.jq HO.out).2.1);rintro e w' ⟨rfl,⟨nd,rfl⟩⟩) |((with_reducible refine jJb (b:=.append) (xs:=#[.tmp 49, .tmp 51]) rfl ?_);at_builtin;refine Kd.R_append (Kd.int .i64) (w0:=w) w.heap.size rfl (.tmp 49) (.tmp 51) 45 3 (.int .i64 0) 8 rfl Try.underlying45 info3 rfl (by decide) (by omega) (.slice Ao2 o.length co2) o x [.int .i64 x] (fun k=>k≠gl) (fun _=>False) rfl rfl ?aP (fun _ hk=>hk.elim) ?aF ?aO ?aB ?aS ?aL ?_;(case aP=>exact rfl);(case aB=>exact (bq));(case aF=>intro q hq hqe;have h1:=jP LB.out;subst hqe;simp at hq;omega);(case aO=>exact (rq HO.out));(case aS=>exact (jA (bq)));(case aL=>have:=LM.out;omega);intro v115 w14 ho hb hg hat;have n1_:=am (hb);have n2_:=am (ho);have n3_:=am (jab (g:=gl) (o:=.cells #[.int .i64 (jd l0 z).f2, .int .i64 (jd l0 z).f3] 3 (0,0)) (kq LB.out) hg (Kd.R_away HO.out (fun q hq=>hq)));have n4_:=am (jab (g:=w.heap.size) (o:=.cells #[.slice (some ad3) l0.length c0] 32 (0,0)) (kq BH.out) hg (Kd.R_ne HO.out BH.out (by decide)));clear HB HO LB BH;have HB:=n1_;have HO:=n2_;have LB:=n3_;have BH:=n4_;clear n1_ n2_ n3_ n4_ ho hb hg hat))
           go_roundw
           case rel=>exact ⟨j+1,o ++ [x],by omega,by go_num,HR2,⟨by have:=HLE.out;rw [List.length_append];omega⟩,⟨rq HO.out⟩,⟨kq LB.out⟩,⟨kq BH.out⟩,⟨(bq)⟩⟩
           case measure=>simp [intOf];omega
          ·rw [if_neg c10] at hs1;cases hs1
        ·rw [if_neg c6] at hs1
         have c6b0:decide (0≤x)=false:=dzF c6
         obtain rfl:=Option.some.inj hs1
         clear c6 hs1
         go_wp2
         go_roundw
         case rel=>exact ⟨j+1,o,by omega,by go_num,HR2,⟨by have:=HLE.out;omega⟩,⟨rq HO.out⟩,⟨kq LB.out⟩,⟨kq BH.out⟩,⟨(bq)⟩⟩
         case measure=>simp [intOf];omega
       ·obtain rfl:j=2:=by omega
        obtain rfl:=Option.some.inj (show some o=some o2 from HS.out)
        go_wp2
        go_roundg k1
        case measure=>have:=HK1.out;omega
        case rel=>exact ⟨i+1,o,by go_num,by have:=HLE.out;omega,HN,⟨by have:=HK1.out;omega⟩,⟨by (with_reducible repeat (first | apply Kd.jM | apply Kd.jL | apply Kd.jQ));exact Kd.jI HO.out (fun _ _=>trivial)⟩,⟨kq BH.out⟩,⟨(bq)⟩⟩
     ·rw [if_neg h1] at H;cases H
    ·rw [if_neg h0] at H;cases H
   ·rw [if_neg hlt] at H
    obtain rfl:=Option.some.inj H
    have hZ:=HZ.out
    by_cases hz0:0<out.length∧out.length<4611686018427387904
    ·rw [if_pos hz0] at hZ
     obtain rfl:=Option.some.inj hZ
     obtain ⟨g,cap,hv,_,_,_⟩:=Kd.R_form HO.out hz0.1
     injection hv with hA1 hA2 hA3
     subst hA1
     have HSZ:=am hz0.2
     have hlb:=eq_false hlt
     clear H hZ hz0 HZ hA2 hA3
     go_wp2_with (first |(go_at_call 82;refine (slices_Sort_row out w.heap.size (fun _=>True) g co _ (rq HO.out) HSZ.out).mono ?_;rintro e w5 ⟨rfl,hs,hb5⟩;have n0_:=am hs;have n1_:=am (Below.trans (bq) hb5);clear HO HB;have HO:=n0_;have HB:=n1_;clear n0_ n1_ hs hb5) |(go_at_call 83;refine (jMa.calls (fun _=>True) _ (out.mergeSort fun x y=>decide (x≤y)) (out.mergeSort fun x y=>decide (x≤y)) w _ (bq) (rq HO.out) (show jMa.f (out.mergeSort fun x y=>decide (x≤y))=some (out.mergeSort fun x y=>decide (x≤y)) from rfl)).mono ?_;rintro e w9 ⟨v9,rfl,hR9,hB9,hK9⟩))
     go_ret
     exact ⟨_,rfl,Kd.jI hR9 (fun _ _=>trivial),hB9⟩
    ·rw [if_neg hz0] at hZ;cases hZ
def jG.l0 : Nat → Int → List Int → List Int → Int → Int → List (S54) → List (S54) → Option ((List (S54)) × Int)
 | 0,_,_,_,_,_,_,_=>none
 | k+1,x1,x6,x18,x19,x20,x348000,x356000=>if x20<x19 then (if 0≤x20 then (if x20<(x18.length:Int) then (if 0≤(rd x18 x20) then (if (rd x18 x20)<(x348000.length:Int) then ((jF.f k x6 ((jd x348000 (rd x18 x20)).f2)).bind fun t360=>((jF.f k x6 ((jd x348000 (rd x18 x20)).f3)).bind fun t361=>(if x356000.length<3518437208883 then (jG.l0 k x1 x6 x18 x19 (wrap64 (x20+1)) x348000 (x356000 ++ [(⟨(jd x348000 (rd x18 x20)).f0,(jd x348000 (rd x18 x20)).f1,t360,t361,(jd x348000 (rd x18 x20)).f4⟩:S54)])) else (none)))) else (none)) else (none)) else (none)) else (none)) else ((jF.f k x6 x1).bind fun t356=>(some (x356000,t356)))
def jG.f (k : Nat) (l0_0 : List (S54)) (a1 : Int) : Option ((List (S54)) × Int) := (jfb.f k l0_0 a1).bind fun t349 => (if 0 ≤ (t349.length : Int) then (if ((t349.length : Int) : Int).toNat ≤ 7036874417766 then (jG.l0 k a1 t349 t349 (t349.length : Int) 0 l0_0 (([] : List (S54)))) else (none)) else (none))
def jG.T7 : Bool × List (List Nat × List Nat) := (true, [([], []), ([], []), ([1], [1]), ([0, 2], [0, 2]), ([], []), ([], []), ([5], [5]), ([4, 6, 3], [4, 6]), ([0, 1, 2, 3, 5, 6], []), ([8, 3, 7, 0, 1, 2, 3, 5, 6], [3, 8]), ([0, 1, 2, 3, 4, 5, 6, 7, 8, 9], []), ([10, 7, 9, 0, 1, 2, 3, 4, 5, 6, 7, 8, 9], [7, 10])])
def jG.B7 : List Nat := [0, 0, 2, 7, 0, 0, 32, 127, 111, 511, 1023, 2047]
theorem jG.tab7 : rtab .any (opsOf Try.f46 7) = jG.T7 := by kernel_rfl
theorem jG.bits7 : jWb jG.T7.2 jG.B7 = true := by kernel_rfl
set_option maxHeartbeats 8000000 in
set_option maxRecDepth 100000 in
theorem jG.calls (k : Nat) (A0_0 : Option Addr) (c0_0 : Nat) (l0_0 : List (S54)) (a1 : Int) (r1 : List (S54)) (r2 : Int) (w : World) (hr0_0 : Kd.C k54 w A0_0 l0_0.length l0_0) (hc0_0 : l0_0.length ≤ c0_0) (h : jG.f k l0_0 a1 = some (r1, r2)) :
  Calls Try.prog 46 #[.agg #[.slice A0_0 l0_0.length c0_0], .int .i64 a1] w fun e w'=>∃ v0_:Value,e=.returned (.tuple #[.agg #[v0_], .int .i64 r2])∧Kd.R k54 54 w' w.heap.size (fun _=>True) v0_ r1∧Below w.heap.size w w':=by
 have hu32:=Try.underlying32
 have hu54:=Try.underlying54
 have HR0_0:=am hr0_0
 have HC0_0:=am hc0_0
 clear hr0_0 hc0_0
 have HB:=am (Below.refl w.heap.size w)
 have H:((jfb.f k l0_0 a1).bind fun t349=>(if 0≤(t349.length:Int) then (if ((t349.length:Int):Int).toNat≤7036874417766 then (jG.l0 k a1 t349 t349 (t349.length:Int) 0 l0_0 (([]:List (S54)))) else (none)) else (none)))=some (r1,r2):=h
 clear h
 replace H:=bzS H
 obtain ⟨t349,A30,H⟩:=H
 replace H:(if 0≤(t349.length:Int) then (if ((t349.length:Int):Int).toNat≤7036874417766 then (jG.l0 k a1 t349 t349 (t349.length:Int) 0 l0_0 (([]:List (S54)))) else (none)) else (none))=some (r1,r2):=H
 have A3:=am A30
 clear A30
 by_cases c4:0≤(t349.length:Int)
 ·rw [if_pos c4] at H
  have c4b0:=ezT c4
  have c4b1:decide (0≤(t349.length:Int))=true:=dzT c4
  clear c4
  by_cases c5:((t349.length:Int):Int).toNat≤7036874417766
  ·rw [if_pos c5] at H
   have c5b0:=ezT c5
   have c5b1:decide (((t349.length:Int):Int).toNat≤7036874417766)=true:=dzT c5
   clear c5
   obtain ⟨y352,hy352⟩:∃ y_:List (S54),y_=(([]:List (S54))):=⟨_,rfl⟩
   replace H:(jG.l0 k a1 t349 t349 (t349.length:Int) 0 l0_0 y352)=some (r1,r2):=by first |(rw [hy352];with_reducible exact H) |(have H2_:=(Option.bind_some _ _).symm.trans H;rw [hy352];with_reducible exact H2_) |(have H2_:=(Option.bind_some _ _).symm.trans H;with_reducible exact H2_) | with_reducible exact H |(rw [hy352];exact H) | exact H
   have Ny352:=am hy352
   clear hy352
   have H':=am H
   clear H
   go_enter Try.func46,Try.ntmps46
   go_wp2_with (first |((with_reducible refine jD (N:=2) rfl ?_);refine bE (N:=2) (cs:=#[.slice A0_0 l0_0.length c0_0]) (t:=32) ?_;intro gb347 hg w6 hbox hb;have BK347:=am (hbox);have GW347:=am ((Y0:w.heap.size≤gb347));have GE347:=am ((Y0:w.heap.size≤gb347));replace HB:=am (je (bq) hb);clear hb hbox hg) |((with_reducible refine jD (N:=4) rfl ?_);refine bE (N:=4) (cs:=#[.slice none 0 0]) (t:=32) ?_;intro gb348 hg w7 hbox hb;have BK348:=am (hbox);have GW348:=am ((Y134:w.heap.size≤gb348));have GE348:=am ((Y134:w.heap.size≤gb348));have NB347_348:=am ((by rw [hg];exact Nat.ne_of_lt (jP (g:=gb347) (o:=.cells #[.slice A0_0 l0_0.length c0_0] 32 (0,0)) (kq BK347.out)):gb347≠gb348));have NB348_347:=am ((by rw [hg];exact Nat.ne_of_gt (jP (g:=gb347) (o:=.cells #[.slice A0_0 l0_0.length c0_0] 32 (0,0)) (kq BK347.out)):gb348≠gb347));replace BK347:=am (ja (g:=gb347) (o:=.cells #[.slice A0_0 l0_0.length c0_0] 32 (0,0)) (kq BK347.out) hb);replace HB:=am (je (by repeat (first |(with_reducible first | exact HB.out | apply jo | apply jl | apply jm | refine jk ?_ GE347.out) | exact HB.out)) hb);clear hb hbox hg;have hnb8:=NB347_348.out;have hnc8:=NB348_347.out;have hcz9_0:=bc0 BK347.out;have hfz9_0:=jb BK347.out 0) |((with_reducible refine jE (f:=54) rfl ?_);refine gL (some 13) Try.func54 #[.agg #[.slice A0_0 l0_0.length c0_0], .int .i64 a1] ?_;(with_reducible refine (jfb.calls k _ _ l0_0 a1 t349 _ ?side1 ?side2 A3.out).mono ?_);(case side1=>exact cq (Kd.jK HR0_0.out HB.out));(case side2=>exact HC0_0.out);rintro e w10 ⟨v350,rfl,ho0,hb⟩;refine ⟨_,rfl,?_⟩;have HO351:=am (Kd.jna ho0 (jA (Y51)));replace BK347:=am (ja (g:=gb347) (o:=.cells #[.slice A0_0 l0_0.length c0_0] 32 (0,0)) (kq BK347.out) hb);replace BK348:=am (ja (g:=gb348) (o:=.cells #[.slice none 0 0] 32 (0,0)) (kq BK348.out) hb);replace HB:=am (je (Y51) hb);(try clear hb);(try clear hb2);(try clear hk);(try clear hi);(try clear ho0);obtain ⟨Ao11,co11,eo11⟩:=Kd.jca HO351.out;subst eo11) |((with_reducible refine jD (N:=16) rfl ?_);refine Kd.R_mkcap k54 _ 54 rfl (N:=16) rfl 30 _ _ rfl (t349.length:Int) rfl rfl Try.underlying30 (.agg #[(.int .i64 0),(.int .i64 0),(.int .i64 0),(.int .i64 0),(.bool false)]) 40 info54 rfl (by decide) (by omega) (ok:=fun _=>True) trivial (ozD (uq)) (Nat.le_trans (Nat.mul_le_mul_right _ (ozD (uq):(t349.length:Int).toNat≤7036874417766)) (by omega)) (Below.refl _ _) (Nat.le_refl _) ?_;intro v353 w12 ho13 hb hg_ hnew_;clear hg_ hnew_;(first | rw [← Ny352.out] at ho13 |(simp only [Int.reduceToNat] at ho13;rw [← Ny352.out] at ho13));have HO354:=am (Kd.jna ho13 (jA (Y51)));replace HO351:=am (Kd.jy (rq HO351.out) hb);replace BK347:=am (ja (g:=gb347) (o:=.cells #[.slice A0_0 l0_0.length c0_0] 32 (0,0)) (kq BK347.out) hb);replace BK348:=am (ja (g:=gb348) (o:=.cells #[.slice none 0 0] 32 (0,0)) (kq BK348.out) hb);replace HB:=am (je (Y51) hb);clear hb ho13;obtain ⟨Ao14,co14,eo14⟩:=Kd.jca HO354.out;subst eo14) |((with_reducible refine jD (N:=7) rfl ?_);refine bE (N:=7) (cs:=#[.slice none 0 0]) (t:=32) ?_;intro gb355 hg w15 hbox hb;have BK355:=am (hbox);have GW355:=am ((Y135:w.heap.size≤gb355));have GE355:=am ((Y135:w.heap.size≤gb355));have NB347_355:=am ((by rw [hg];exact Nat.ne_of_lt (jP (g:=gb347) (o:=.cells #[.slice A0_0 l0_0.length c0_0] 32 (0,0)) (kq BK347.out)):gb347≠gb355));have NB355_347:=am ((by rw [hg];exact Nat.ne_of_gt (jP (g:=gb347) (o:=.cells #[.slice A0_0 l0_0.length c0_0] 32 (0,0)) (kq BK347.out)):gb355≠gb347));have NB348_355:=am ((by rw [hg];exact Nat.ne_of_lt (jP (g:=gb348) (o:=.cells #[.slice none 0 0] 32 (0,0)) (kq BK348.out)):gb348≠gb355));have NB355_348:=am ((by rw [hg];exact Nat.ne_of_gt (jP (g:=gb348) (o:=.cells #[.slice none 0 0] 32 (0,0)) (kq BK348.out)):gb355≠gb348));replace HO351:=am (Kd.jy (rq HO351.out) hb);replace HO354:=am (Kd.jy (rq HO354.out) hb);replace BK347:=am (ja (g:=gb347) (o:=.cells #[.slice A0_0 l0_0.length c0_0] 32 (0,0)) (kq BK347.out) hb);replace BK348:=am (ja (g:=gb348) (o:=.cells #[.slice none 0 0] 32 (0,0)) (kq BK348.out) hb);replace HB:=am (je (Y51) hb);clear hb hbox hg;have hnb16:=NB355_347.out;have hnc16:=NB347_355.out;have hnb17:=NB355_348.out;have hnc17:=NB348_355.out;have hcz18_0:=bc0 BK355.out;have hfz18_0:=jb BK355.out 0))
   go_loopg [20] k (fun kq v20 w'=>∃ (x20_1:Int) (x356000_1:List (S54)) (u356000:Value),v20=.int .i64 x20_1∧jw (jG.l0 kq a1 t349 t349 (t349.length:Int) x20_1 l0_0 x356000_1=some (r1,r2))∧jw (kq≤k)∧jw (Kd.R (Kd.int .i64) 3 w' w.heap.size (fun _=>True) (.slice Ao11 t349.length co11) t349)∧jw (Kd.R (Kd.int .i64) 3 w' w.heap.size (fun _=>True) (.slice Ao11 t349.length co11) t349)∧jw (Kd.R k54 54 w' w.heap.size (fun _=>True) u356000 x356000_1)∧jw (w'.heap[gb347]?=some (.cells #[(.slice A0_0 l0_0.length c0_0)] 32 (0,0)))∧jw (w'.heap[gb348]?=some (.cells #[(.slice none 0 0)] 32 (0,0)))∧jw (w'.heap[gb355]?=some (.cells #[u356000] 32 (0,0)))∧jw (Below w.heap.size w w'))
   case atStart=>exact ⟨(0),(y352),(.slice Ao14 y352.length co14),(sq),H',⟨Nat.le_refl _⟩,⟨by (with_reducible repeat (first | apply Kd.jM | apply Kd.jL | apply Kd.jQ));exact Kd.jI (Kd.jya (p:=⟨gb355,0,none⟩) (Kd.jwa HO351.out BK355.out (by decide)) (fun _ hk=>hk.2) (.slice Ao14 y352.length co14)) (fun _ hk=>trivial)⟩,⟨by (with_reducible repeat (first | apply Kd.jM | apply Kd.jL | apply Kd.jQ));exact Kd.jI (Kd.jya (p:=⟨gb355,0,none⟩) (Kd.jwa HO351.out BK355.out (by decide)) (fun _ hk=>hk.2) (.slice Ao14 y352.length co14)) (fun _ hk=>trivial)⟩,⟨by (with_reducible repeat (first | apply Kd.jM | apply Kd.jL | apply Kd.jQ));exact Kd.jI (Kd.jya (p:=⟨gb355,0,none⟩) (Kd.jwa HO354.out BK355.out (by decide)) (fun _ hk=>hk.2) (.slice Ao14 y352.length co14)) (fun _ hk=>trivial)⟩,⟨by (with_reducible repeat (first | refine jf ?_ _ | refine jh ?_ | refine jg ?_ _));refine jO ?_ NB347_355.out _;(with_reducible repeat (first | refine jf ?_ _ | refine jh ?_ | refine jg ?_ _));exact BK347.out⟩,⟨by (with_reducible repeat (first | refine jf ?_ _ | refine jh ?_ | refine jg ?_ _));refine jO ?_ NB348_355.out _;(with_reducible repeat (first | refine jf ?_ _ | refine jh ?_ | refine jg ?_ _));exact BK348.out⟩,⟨by (with_reducible repeat (first | refine jf ?_ _ | refine jh ?_ | refine jg ?_ _));refine jza (cs:=#[.slice none 0 0]) ?_ 0 _ rfl;(with_reducible repeat (first | refine jf ?_ _ | refine jh ?_ | refine jg ?_ _));exact BK355.out⟩,⟨Y103⟩⟩
   case round =>
    clear H'
    try clear c1
    try clear p2
    try clear c4
    try clear c4b0
    try clear c4b1
    try clear c5
    try clear c5b0
    try clear c5b1
    try clear c8
    try clear c16
    try clear c17
    try clear hcz18_0
    try clear hcz9_0
    try clear hfz18_0
    try clear hfz9_0
    obtain ⟨x20_1,x356000_1,u356000,rfl,HA,HK1,HO_6,HO_18,HO_356000,BK347,BK348,BK355,HB⟩:=hrel
    cases gk with
    | zero=>exact absurd HA.out (by simp [jG.l0])
    | succ k1 =>
     have H:=HA.out
     clear HA
     simp only [jG.l0] at H
     by_cases c19:x20_1<(t349.length:Int)
     ·rw [if_pos c19] at H
      have c19b0:decide (x20_1<(t349.length:Int))=true:=dzT c19
      clear c19
      by_cases c20:0≤x20_1
      ·rw [if_pos c20] at H
       have c20b0:decide (0≤x20_1)=true:=dzT c20
       clear c20
       by_cases c21:x20_1<(t349.length:Int)
       ·rw [if_pos c21] at H
        have c21b0:decide (x20_1<(t349.length:Int))=true:=dzT c21
        clear c21
        by_cases c22:0≤(rd t349 x20_1)
        ·rw [if_pos c22] at H
         have c22b0:decide (0≤(rd t349 x20_1))=true:=dzT c22
         clear c22
         by_cases c23:(rd t349 x20_1)<(l0_0.length:Int)
         ·rw [if_pos c23] at H
          have c23b0:decide ((rd t349 x20_1)<(l0_0.length:Int))=true:=dzT c23
          clear c23
          replace H:=bzS H
          obtain ⟨t360,A240,H⟩:=H
          replace H:((jF.f k1 t349 ((jd l0_0 (rd t349 x20_1)).f3)).bind fun t361=>(if x356000_1.length<3518437208883 then (jG.l0 k1 a1 t349 t349 (t349.length:Int) (wrap64 (x20_1+1)) l0_0 (x356000_1 ++ [(⟨(jd l0_0 (rd t349 x20_1)).f0,(jd l0_0 (rd t349 x20_1)).f1,t360,t361,(jd l0_0 (rd t349 x20_1)).f4⟩:S54)])) else (none)))=some (r1,r2):=H
          have A24:=am A240
          clear A240
          replace H:=bzS H
          obtain ⟨t361,A250,H⟩:=H
          replace H:(if x356000_1.length<3518437208883 then (jG.l0 k1 a1 t349 t349 (t349.length:Int) (wrap64 (x20_1+1)) l0_0 (x356000_1 ++ [(⟨(jd l0_0 (rd t349 x20_1)).f0,(jd l0_0 (rd t349 x20_1)).f1,t360,t361,(jd l0_0 (rd t349 x20_1)).f4⟩:S54)])) else (none))=some (r1,r2):=H
          have A25:=am A250
          clear A250
          by_cases c26:x356000_1.length<3518437208883
          ·rw [if_pos c26] at H
           have LMc26:=am c26
           clear c26
           obtain ⟨y362,hy362⟩:∃ y_:List (S54),y_=(x356000_1 ++ [(⟨(jd l0_0 (rd t349 x20_1)).f0,(jd l0_0 (rd t349 x20_1)).f1,t360,t361,(jd l0_0 (rd t349 x20_1)).f4⟩:S54)]):=⟨_,rfl⟩
           replace H:(jG.l0 k1 a1 t349 t349 (t349.length:Int) (wrap64 (x20_1+1)) l0_0 y362)=some (r1,r2):=by first |(rw [hy362];with_reducible exact H) |(have H2_:=(Option.bind_some _ _).symm.trans H;rw [hy362];with_reducible exact H2_) |(have H2_:=(Option.bind_some _ _).symm.trans H;with_reducible exact H2_) | with_reducible exact H |(rw [hy362];exact H) | exact H
           have Ny362:=am hy362
           clear hy362
           have H':=am H
           clear H
           have p357:0≤(x20_1:Int):=ozD (uq)
           have q357:x20_1<(t349.length:Int):=ozD (uq)
           obtain ⟨ad357,e357,hx357_0⟩:=Kd.jKb (Kd.jq HO_18.out).2.2 x20_1 p357 q357
           cases e357
           replace p357:=ezT p357
           replace q357:=ezT q357
           have hnb27:=NB347_348.out
           have hnc27:=NB348_347.out
           have hnb28:=NB347_355.out
           have hnc28:=NB355_347.out
           have hcz29_0:=bc0 BK347.out
           have hfz29_0:=jb BK347.out 0
           have p358:0≤((rd t349 x20_1):Int):=ozD (uq)
           have q358:(rd t349 x20_1)<(l0_0.length:Int):=ozD (uq)
           obtain ⟨ad358,e358,hx358_0,hx358_1,hx358_2,hx358_3,hx358_4⟩:=jOa HR0_0.out (rd t349 x20_1) p358 q358
           cases e358
           replace hx358_0:=cb HB.out hx358_0
           replace hx358_1:=cb HB.out hx358_1
           replace hx358_2:=cb HB.out hx358_2
           replace hx358_3:=cb HB.out hx358_3
           replace hx358_4:=cb HB.out hx358_4
           replace p358:=ezT p358
           replace q358:=ezT q358
           try go_wp2_with (first |((with_reducible refine jD (N:=10) rfl ?_);refine bE (N:=10) (cs:=#[.int .i64 0, .int .i64 0, .int .i64 0, .int .i64 0, .bool false]) (t:=54) ?_;intro gb359 hg w30 hbox hb;have BK359:=am (hbox);have GW359:=am ((Y136:w.heap.size≤gb359));have GE359:=am ((Y136:w.heap.size≤gb359));have NB347_359:=am ((by rw [hg];exact Nat.ne_of_lt (jP (g:=gb347) (o:=.cells #[.slice (some ad358) l0_0.length c0_0] 32 (0,0)) (kq BK347.out)):gb347≠gb359));have NB359_347:=am ((by rw [hg];exact Nat.ne_of_gt (jP (g:=gb347) (o:=.cells #[.slice (some ad358) l0_0.length c0_0] 32 (0,0)) (kq BK347.out)):gb359≠gb347));have NB348_359:=am ((by rw [hg];exact Nat.ne_of_lt (jP (g:=gb348) (o:=.cells #[.slice none 0 0] 32 (0,0)) (kq BK348.out)):gb348≠gb359));have NB359_348:=am ((by rw [hg];exact Nat.ne_of_gt (jP (g:=gb348) (o:=.cells #[.slice none 0 0] 32 (0,0)) (kq BK348.out)):gb359≠gb348));have NB355_359:=am ((by rw [hg];exact Nat.ne_of_lt (jP (g:=gb355) (o:=.cells #[u356000] 32 (0,0)) (kq BK355.out)):gb355≠gb359));have NB359_355:=am ((by rw [hg];exact Nat.ne_of_gt (jP (g:=gb355) (o:=.cells #[u356000] 32 (0,0)) (kq BK355.out)):gb359≠gb355));replace HO_6:=am (Kd.jy (rq HO_6.out) hb);replace HO_18:=am (Kd.jy (rq HO_18.out) hb);replace HO_356000:=am (Kd.jy (Kd.R_elderB (rq HO_356000.out) gb359 (Nat.le_of_eq hg.symm)) hb);replace BK347:=am (ja (g:=gb347) (o:=.cells #[.slice (some ad358) l0_0.length c0_0] 32 (0,0)) (kq BK347.out) hb);replace BK348:=am (ja (g:=gb348) (o:=.cells #[.slice none 0 0] 32 (0,0)) (kq BK348.out) hb);replace BK355:=am (ja (g:=gb355) (o:=.cells #[u356000] 32 (0,0)) (kq BK355.out) hb);replace HB:=am (je (Y103) hb);clear hb hbox hg;have hnb31:=NB359_347.out;have hnc31:=NB347_359.out;have hnb32:=NB359_348.out;have hnc32:=NB348_359.out;have hnb33:=NB359_355.out;have hnc33:=NB355_359.out;have hcz34_0:=bc0 BK359.out;have hcz34_1:=bc1 BK359.out;have hcz34_2:=bc2 BK359.out;have hcz34_3:=bc3 BK359.out;have hcz34_4:w30.cell? ⟨gb359,4,none⟩=some (.bool false):=(jr BK359.out 4).trans rfl;have hfz34_0:=jb BK359.out 0;have hfz34_1:=jb BK359.out 1;have hfz34_2:=jb BK359.out 2;have hfz34_3:=jb BK359.out 3;have hfz34_4:=jb BK359.out 4))
           have n0_:jw (Kd.R (Kd.int .i64) 3 (((((w30.setCell ⟨gb359,0,none⟩ (.int .i64 ((jd l0_0 (rd t349 x20_1)).f0))).setCell ⟨gb359,1,none⟩ (.int .i64 ((jd l0_0 (rd t349 x20_1)).f1))).setCell ⟨gb359,2,none⟩ (.int .i64 ((jd l0_0 (rd t349 x20_1)).f2))).setCell ⟨gb359,3,none⟩ (.int .i64 ((jd l0_0 (rd t349 x20_1)).f3))).setCell ⟨gb359,4,none⟩ (.bool ((jd l0_0 (rd t349 x20_1)).f4))) w.heap.size (fun _=>True) (.slice (some ad357) t349.length co11) t349):=⟨by (with_reducible repeat (first | apply Kd.jM | apply Kd.jL | apply Kd.jQ));exact Kd.jI (Kd.jya (p:=⟨gb359,4,none⟩) (Kd.jya (p:=⟨gb359,3,none⟩) (Kd.jya (p:=⟨gb359,2,none⟩) (Kd.jya (p:=⟨gb359,1,none⟩) (Kd.jya (p:=⟨gb359,0,none⟩) (Kd.jwa HO_6.out BK359.out (by decide)) (fun _ hk=>hk.2) (.int .i64 ((jd l0_0 (rd t349 x20_1)).f0))) (fun _ hk=>hk.2) (.int .i64 ((jd l0_0 (rd t349 x20_1)).f1))) (fun _ hk=>hk.2) (.int .i64 ((jd l0_0 (rd t349 x20_1)).f2))) (fun _ hk=>hk.2) (.int .i64 ((jd l0_0 (rd t349 x20_1)).f3))) (fun _ hk=>hk.2) (.bool ((jd l0_0 (rd t349 x20_1)).f4))) (fun _ hk=>trivial)⟩
           have n1_:jw (Kd.R (Kd.int .i64) 3 (((((w30.setCell ⟨gb359,0,none⟩ (.int .i64 ((jd l0_0 (rd t349 x20_1)).f0))).setCell ⟨gb359,1,none⟩ (.int .i64 ((jd l0_0 (rd t349 x20_1)).f1))).setCell ⟨gb359,2,none⟩ (.int .i64 ((jd l0_0 (rd t349 x20_1)).f2))).setCell ⟨gb359,3,none⟩ (.int .i64 ((jd l0_0 (rd t349 x20_1)).f3))).setCell ⟨gb359,4,none⟩ (.bool ((jd l0_0 (rd t349 x20_1)).f4))) w.heap.size (fun _=>True) (.slice (some ad357) t349.length co11) t349):=⟨by (with_reducible repeat (first | apply Kd.jM | apply Kd.jL | apply Kd.jQ));exact Kd.jI (Kd.jya (p:=⟨gb359,4,none⟩) (Kd.jya (p:=⟨gb359,3,none⟩) (Kd.jya (p:=⟨gb359,2,none⟩) (Kd.jya (p:=⟨gb359,1,none⟩) (Kd.jya (p:=⟨gb359,0,none⟩) (Kd.jwa HO_18.out BK359.out (by decide)) (fun _ hk=>hk.2) (.int .i64 ((jd l0_0 (rd t349 x20_1)).f0))) (fun _ hk=>hk.2) (.int .i64 ((jd l0_0 (rd t349 x20_1)).f1))) (fun _ hk=>hk.2) (.int .i64 ((jd l0_0 (rd t349 x20_1)).f2))) (fun _ hk=>hk.2) (.int .i64 ((jd l0_0 (rd t349 x20_1)).f3))) (fun _ hk=>hk.2) (.bool ((jd l0_0 (rd t349 x20_1)).f4))) (fun _ hk=>trivial)⟩
           have n2_:jw (Kd.R k54 54 (((((w30.setCell ⟨gb359,0,none⟩ (.int .i64 ((jd l0_0 (rd t349 x20_1)).f0))).setCell ⟨gb359,1,none⟩ (.int .i64 ((jd l0_0 (rd t349 x20_1)).f1))).setCell ⟨gb359,2,none⟩ (.int .i64 ((jd l0_0 (rd t349 x20_1)).f2))).setCell ⟨gb359,3,none⟩ (.int .i64 ((jd l0_0 (rd t349 x20_1)).f3))).setCell ⟨gb359,4,none⟩ (.bool ((jd l0_0 (rd t349 x20_1)).f4))) w.heap.size (fun k_=>k_≠gb359) u356000 x356000_1):=⟨by (with_reducible repeat (first | apply Kd.jM | apply Kd.jL | apply Kd.jQ));exact Kd.jI (Kd.jya (p:=⟨gb359,4,none⟩) (Kd.jya (p:=⟨gb359,3,none⟩) (Kd.jya (p:=⟨gb359,2,none⟩) (Kd.jya (p:=⟨gb359,1,none⟩) (Kd.jya (p:=⟨gb359,0,none⟩) (Kd.jI HO_356000.out (fun k_ hk=>(⟨hk,hk.2⟩:_∧k_≠gb359))) (fun _ hk=>hk.2) (.int .i64 ((jd l0_0 (rd t349 x20_1)).f0))) (fun _ hk=>hk.2) (.int .i64 ((jd l0_0 (rd t349 x20_1)).f1))) (fun _ hk=>hk.2) (.int .i64 ((jd l0_0 (rd t349 x20_1)).f2))) (fun _ hk=>hk.2) (.int .i64 ((jd l0_0 (rd t349 x20_1)).f3))) (fun _ hk=>hk.2) (.bool ((jd l0_0 (rd t349 x20_1)).f4))) (fun _ hk=>hk.1.2)⟩
           have n3_:jw ((((((w30.setCell ⟨gb359,0,none⟩ (.int .i64 ((jd l0_0 (rd t349 x20_1)).f0))).setCell ⟨gb359,1,none⟩ (.int .i64 ((jd l0_0 (rd t349 x20_1)).f1))).setCell ⟨gb359,2,none⟩ (.int .i64 ((jd l0_0 (rd t349 x20_1)).f2))).setCell ⟨gb359,3,none⟩ (.int .i64 ((jd l0_0 (rd t349 x20_1)).f3))).setCell ⟨gb359,4,none⟩ (.bool ((jd l0_0 (rd t349 x20_1)).f4))).heap[gb347]?=some (.cells #[.slice (some ad358) l0_0.length c0_0] 32 (0,0))):=⟨by (with_reducible repeat (first | refine jf ?_ _ | refine jh ?_ | refine jg ?_ _));refine jO ?_ NB347_359.out _;(with_reducible repeat (first | refine jf ?_ _ | refine jh ?_ | refine jg ?_ _));refine jO ?_ NB347_359.out _;(with_reducible repeat (first | refine jf ?_ _ | refine jh ?_ | refine jg ?_ _));refine jO ?_ NB347_359.out _;(with_reducible repeat (first | refine jf ?_ _ | refine jh ?_ | refine jg ?_ _));refine jO ?_ NB347_359.out _;(with_reducible repeat (first | refine jf ?_ _ | refine jh ?_ | refine jg ?_ _));refine jO ?_ NB347_359.out _;(with_reducible repeat (first | refine jf ?_ _ | refine jh ?_ | refine jg ?_ _));exact BK347.out⟩
           have n4_:jw ((((((w30.setCell ⟨gb359,0,none⟩ (.int .i64 ((jd l0_0 (rd t349 x20_1)).f0))).setCell ⟨gb359,1,none⟩ (.int .i64 ((jd l0_0 (rd t349 x20_1)).f1))).setCell ⟨gb359,2,none⟩ (.int .i64 ((jd l0_0 (rd t349 x20_1)).f2))).setCell ⟨gb359,3,none⟩ (.int .i64 ((jd l0_0 (rd t349 x20_1)).f3))).setCell ⟨gb359,4,none⟩ (.bool ((jd l0_0 (rd t349 x20_1)).f4))).heap[gb348]?=some (.cells #[.slice none 0 0] 32 (0,0))):=⟨by (with_reducible repeat (first | refine jf ?_ _ | refine jh ?_ | refine jg ?_ _));refine jO ?_ NB348_359.out _;(with_reducible repeat (first | refine jf ?_ _ | refine jh ?_ | refine jg ?_ _));refine jO ?_ NB348_359.out _;(with_reducible repeat (first | refine jf ?_ _ | refine jh ?_ | refine jg ?_ _));refine jO ?_ NB348_359.out _;(with_reducible repeat (first | refine jf ?_ _ | refine jh ?_ | refine jg ?_ _));refine jO ?_ NB348_359.out _;(with_reducible repeat (first | refine jf ?_ _ | refine jh ?_ | refine jg ?_ _));refine jO ?_ NB348_359.out _;(with_reducible repeat (first | refine jf ?_ _ | refine jh ?_ | refine jg ?_ _));exact BK348.out⟩
           have n5_:jw ((((((w30.setCell ⟨gb359,0,none⟩ (.int .i64 ((jd l0_0 (rd t349 x20_1)).f0))).setCell ⟨gb359,1,none⟩ (.int .i64 ((jd l0_0 (rd t349 x20_1)).f1))).setCell ⟨gb359,2,none⟩ (.int .i64 ((jd l0_0 (rd t349 x20_1)).f2))).setCell ⟨gb359,3,none⟩ (.int .i64 ((jd l0_0 (rd t349 x20_1)).f3))).setCell ⟨gb359,4,none⟩ (.bool ((jd l0_0 (rd t349 x20_1)).f4))).heap[gb355]?=some (.cells #[u356000] 32 (0,0))):=⟨by (with_reducible repeat (first | refine jf ?_ _ | refine jh ?_ | refine jg ?_ _));refine jO ?_ NB355_359.out _;(with_reducible repeat (first | refine jf ?_ _ | refine jh ?_ | refine jg ?_ _));refine jO ?_ NB355_359.out _;(with_reducible repeat (first | refine jf ?_ _ | refine jh ?_ | refine jg ?_ _));refine jO ?_ NB355_359.out _;(with_reducible repeat (first | refine jf ?_ _ | refine jh ?_ | refine jg ?_ _));refine jO ?_ NB355_359.out _;(with_reducible repeat (first | refine jf ?_ _ | refine jh ?_ | refine jg ?_ _));refine jO ?_ NB355_359.out _;(with_reducible repeat (first | refine jf ?_ _ | refine jh ?_ | refine jg ?_ _));exact BK355.out⟩
           have n6_:jw ((((((w30.setCell ⟨gb359,0,none⟩ (.int .i64 ((jd l0_0 (rd t349 x20_1)).f0))).setCell ⟨gb359,1,none⟩ (.int .i64 ((jd l0_0 (rd t349 x20_1)).f1))).setCell ⟨gb359,2,none⟩ (.int .i64 ((jd l0_0 (rd t349 x20_1)).f2))).setCell ⟨gb359,3,none⟩ (.int .i64 ((jd l0_0 (rd t349 x20_1)).f3))).setCell ⟨gb359,4,none⟩ (.bool ((jd l0_0 (rd t349 x20_1)).f4))).heap[gb359]?=some (.cells #[.int .i64 ((jd l0_0 (rd t349 x20_1)).f0), .int .i64 ((jd l0_0 (rd t349 x20_1)).f1), .int .i64 ((jd l0_0 (rd t349 x20_1)).f2), .int .i64 ((jd l0_0 (rd t349 x20_1)).f3), .bool ((jd l0_0 (rd t349 x20_1)).f4)] 54 (0,0))):=⟨by (with_reducible repeat (first | refine jf ?_ _ | refine jh ?_ | refine jg ?_ _));refine jza (cs:=#[.int .i64 ((jd l0_0 (rd t349 x20_1)).f0), .int .i64 ((jd l0_0 (rd t349 x20_1)).f1), .int .i64 ((jd l0_0 (rd t349 x20_1)).f2), .int .i64 ((jd l0_0 (rd t349 x20_1)).f3), .bool false]) ?_ 4 _ rfl;(with_reducible repeat (first | refine jf ?_ _ | refine jh ?_ | refine jg ?_ _));refine jza (cs:=#[.int .i64 ((jd l0_0 (rd t349 x20_1)).f0), .int .i64 ((jd l0_0 (rd t349 x20_1)).f1), .int .i64 ((jd l0_0 (rd t349 x20_1)).f2), .int .i64 0, .bool false]) ?_ 3 _ rfl;(with_reducible repeat (first | refine jf ?_ _ | refine jh ?_ | refine jg ?_ _));refine jza (cs:=#[.int .i64 ((jd l0_0 (rd t349 x20_1)).f0), .int .i64 ((jd l0_0 (rd t349 x20_1)).f1), .int .i64 0, .int .i64 0, .bool false]) ?_ 2 _ rfl;(with_reducible repeat (first | refine jf ?_ _ | refine jh ?_ | refine jg ?_ _));refine jza (cs:=#[.int .i64 ((jd l0_0 (rd t349 x20_1)).f0), .int .i64 0, .int .i64 0, .int .i64 0, .bool false]) ?_ 1 _ rfl;(with_reducible repeat (first | refine jf ?_ _ | refine jh ?_ | refine jg ?_ _));refine jza (cs:=#[.int .i64 0, .int .i64 0, .int .i64 0, .int .i64 0, .bool false]) ?_ 0 _ rfl;(with_reducible repeat (first | refine jf ?_ _ | refine jh ?_ | refine jg ?_ _));exact BK359.out⟩
           have n7_:jw (Below w.heap.size w (((((w30.setCell ⟨gb359,0,none⟩ (.int .i64 ((jd l0_0 (rd t349 x20_1)).f0))).setCell ⟨gb359,1,none⟩ (.int .i64 ((jd l0_0 (rd t349 x20_1)).f1))).setCell ⟨gb359,2,none⟩ (.int .i64 ((jd l0_0 (rd t349 x20_1)).f2))).setCell ⟨gb359,3,none⟩ (.int .i64 ((jd l0_0 (rd t349 x20_1)).f3))).setCell ⟨gb359,4,none⟩ (.bool ((jd l0_0 (rd t349 x20_1)).f4)))):=⟨Y62⟩
           (try clear HO_6)
           (try clear HO_18)
           (try clear HO_356000)
           (try clear BK347)
           (try clear BK348)
           (try clear BK355)
           (try clear BK359)
           (try clear HB)
           generalize (((((w30.setCell ⟨gb359,0,none⟩ (.int .i64 ((jd l0_0 (rd t349 x20_1)).f0))).setCell ⟨gb359,1,none⟩ (.int .i64 ((jd l0_0 (rd t349 x20_1)).f1))).setCell ⟨gb359,2,none⟩ (.int .i64 ((jd l0_0 (rd t349 x20_1)).f2))).setCell ⟨gb359,3,none⟩ (.int .i64 ((jd l0_0 (rd t349 x20_1)).f3))).setCell ⟨gb359,4,none⟩ (.bool ((jd l0_0 (rd t349 x20_1)).f4)))=w35 at n0_ n1_ n2_ n3_ n4_ n5_ n6_ n7_ ⊢
           have HO_6:=n0_
           have HO_18:=n1_
           have HO_356000:=n2_
           have BK347:=n3_
           have BK348:=n4_
           have BK355:=n5_
           have BK359:=n6_
           have HB:=n7_
           clear n0_ n1_ n2_ n3_ n4_ n5_ n6_ n7_
           replace HO_6:=am (Kd.jQ HO_6.out)
           replace HO_18:=am (Kd.jQ HO_18.out)
           replace HO_356000:=am (Kd.jQ HO_356000.out)
           replace BK347:=am (jh BK347.out)
           replace BK348:=am (jh BK348.out)
           replace BK355:=am (jh BK355.out)
           replace BK359:=am (jh BK359.out)
           replace HB:=am (jm HB.out)
           refine jdc (n:=12) (S:=fun w'=>w'.cell? ⟨gb359,0,none⟩=some (.int .i64 ((jd l0_0 (rd t349 x20_1)).f0))∧w'.cell? ⟨gb359,1,none⟩=some (.int .i64 ((jd l0_0 (rd t349 x20_1)).f1))∧w'.cell? ⟨gb359,2,none⟩=some (.int .i64 ((jd l0_0 (rd t349 x20_1)).f2))∧w'.cell? ⟨gb359,3,none⟩=some (.int .i64 ((jd l0_0 (rd t349 x20_1)).f3))∧w'.cell? ⟨gb359,4,none⟩=some (.bool ((jd l0_0 (rd t349 x20_1)).f4))) (ds:=[9,11]) #[false,false,false,false,false,false,false,false,false,false,false,false] (by kernel_rfl) rfl rfl ⟨(jr BK359.out 0).trans rfl,(jr BK359.out 1).trans rfl,(jr BK359.out 2).trans rfl,(jr BK359.out 3).trans rfl,(jr BK359.out 4).trans rfl⟩ (fun hHeld=>?_);refine jBb jG.tab7 jG.bits7 (fun HT_ HW_=>?_)
           generalize w35.drew=w36 at HO_6 HO_18 HO_356000 BK347 BK348 BK355 BK359 HB hHeld ⊢
           refine pq (i:=0) (N:=some 29) #[true,false,false,false,false,false,false,false,false,false,false,false] ?_
           refine pq (i:=1) (N:=some 30) #[true,true,false,false,false,false,false,false,false,false,false,false] ?_
           refine pq (i:=4) (N:=some 33) #[true,true,false,false,true,false,false,false,false,false,false,false] ?_
           refine pq (i:=5) (N:=some 34) #[true,true,false,false,true,true,false,false,false,false,false,false] ?_
           refine jCb (i:=2) (N:=some 31) (v:=?_) (a':=?_) #[true,true,true,false,true,true,false,false,false,false,false,false] rfl rfl (jTa HT_.out HW_.out (by kernel_rfl)) (fun _ _ _ h=>h) (Or.inl ⟨by rfl,?_⟩) hHeld ?_ ?_
           rotate_left
           ·rintro w' ⟨s0,s1,s2,s3,s4⟩
            go_simp
            with_reducible rfl
           rotate_left
           ·exact sa
           refine jCb (i:=6) (N:=some 35) (v:=?_) (a':=?_) #[true,true,true,false,true,true,true,false,false,false,false,false] rfl rfl (jTa HT_.out HW_.out (by kernel_rfl)) (fun _ _ _ h=>h) (Or.inl ⟨by rfl,?_⟩) hHeld ?_ ?_
           rotate_left
           ·rintro w' ⟨s0,s1,s2,s3,s4⟩
            go_simp
            with_reducible rfl
           rotate_left
           ·exact sa
           refine one_ (i:=3) (N:=some 32) #[true,true,true,true,true,true,true,false,false,false,false,false] rfl rfl (jlb HT_.out (by kernel_rfl)) (by decide) (fun K hK=>?_)
           refine jDb Try.func76 (by kernel_rfl) rfl #[.slice (some ad357) t349.length co11, .int .i64 ((jd l0_0 (rd t349 x20_1)).f2)] (by rfl) rfl rfl (aq) ?_
           with_reducible refine (jF.calls k1 _ _ t349 ((jd l0_0 (rd t349 x20_1)).f2) t360 _ ?side1 ?side2 A24.out).mono ?_
           (case side1=>exact cq (Kd.jq HO_6.out).2.2)
           (case side2=>exact (Kd.jq HO_6.out).2.1)
           rintro e w' ⟨rfl,⟨nd,rfl⟩⟩
           refine ⟨_,rfl,?_⟩
           refine hK.out _ _ ⟨(jr BK359.out 0).trans rfl,(jr BK359.out 1).trans rfl,(jr BK359.out 2).trans rfl,(jr BK359.out 3).trans rfl,(jr BK359.out 4).trans rfl⟩ (fun hHeld=>?_)
           clear hK K
           refine jYa (a':=?_) ?_ ?_
           rotate_left
           ·show Act.put _ (some 32) _=_
            simp only [Act.put,List.setIfInBounds_toArray,List.set_cons_zero,List.set_cons_succ,jZa,jdb]
            rfl
           refine pq (i:=8) (N:=some 37) #[true,true,true,true,true,true,true,false,true,false,false,false] ?_
           refine one_ (i:=7) (N:=some 36) #[true,true,true,true,true,true,true,true,true,false,false,false] rfl rfl (jlb HT_.out (by kernel_rfl)) (by decide) (fun K hK=>?_)
           refine jDb Try.func76 (by kernel_rfl) rfl #[.slice (some ad357) t349.length co11, .int .i64 ((jd l0_0 (rd t349 x20_1)).f3)] (by rfl) rfl rfl (aq) ?_
           with_reducible refine (jF.calls k1 _ _ t349 ((jd l0_0 (rd t349 x20_1)).f3) t361 _ ?side1 ?side2 A25.out).mono ?_
           (case side1=>exact cq (Kd.jq HO_6.out).2.2)
           (case side2=>exact (Kd.jq HO_6.out).2.1)
           rintro e w' ⟨rfl,⟨nd,rfl⟩⟩
           refine ⟨_,rfl,?_⟩
           refine hK.out _ _ ⟨(jr BK359.out 0).trans rfl,(jr BK359.out 1).trans rfl,(jr BK359.out 2).trans rfl,(jr BK359.out 3).trans rfl,(jr BK359.out 4).trans rfl⟩ (fun hHeld=>?_)
           clear hK K
           refine jYa (a':=?_) ?_ ?_
           rotate_left
           ·show Act.put _ (some 36) _=_
            simp only [Act.put,List.setIfInBounds_toArray,List.set_cons_zero,List.set_cons_succ,jZa,jdb]
            rfl
           refine last_ (i:=9) (N:=none) #[true,true,true,true,true,true,true,true,true,true,false,false] rfl rfl (jlb HT_.out (by kernel_rfl)) (by decide) (fun K hK=>?_)
           have hs37:w36.cell? ⟨gb359,2,none⟩=some (.int .i64 ((jd l0_0 (rd t349 x20_1)).f2)):=(jr BK359.out 2).trans rfl
           have hfs37:=jb BK359.out 2
           have hns37_0:=NB347_359.out
           have hns37_1:=NB348_359.out
           have hns37_2:=NB355_359.out
           have hms37_0:=NB359_347.out
           have hms37_1:=NB359_348.out
           have hms37_2:=NB359_355.out
           refine skip_ (w1:=?_) (by rfl) rfl ?_ ?_
           rotate_left
           ·go_simp
            rfl
           refine hK.out _ _ ?_
           clear hK K
           refine pq (i:=10) (N:=some 38) #[true,true,true,true,true,true,true,true,true,true,true,false] ?_
           refine last_ (i:=11) (N:=none) #[true,true,true,true,true,true,true,true,true,true,true,true] rfl rfl (jlb HT_.out (by kernel_rfl)) (by decide) (fun K hK=>?_)
           have hs38:w36.cell? ⟨gb359,3,none⟩=some (.int .i64 ((jd l0_0 (rd t349 x20_1)).f3)):=(jr BK359.out 3).trans rfl
           have hfs38:=jb BK359.out 3
           have hns38_0:=NB347_359.out
           have hns38_1:=NB348_359.out
           have hns38_2:=NB355_359.out
           have hms38_0:=NB359_347.out
           have hms38_1:=NB359_348.out
           have hms38_2:=NB359_355.out
           refine skip_ (w1:=?_) (by rfl) rfl ?_ ?_
           rotate_left
           ·go_simp
            rfl
           refine hK.out _ _ ?_
           clear hK K
           refine done_ (jic HT_.out (by kernel_rfl)) ?_
           have hnb39:=NB355_348.out
           have hnc39:=NB348_355.out
           have hcz40_0:=bc0 BK355.out
           have hfz40_0:=jb BK355.out 0
           have hcz41_0:=bc0 BK359.out
           have hcz41_1:=bc1 BK359.out
           have hcz41_2:=bc2 BK359.out
           have hcz41_3:=bc3 BK359.out
           have hcz41_4:w36.cell? ⟨gb359,4,none⟩=some (.bool ((jd l0_0 (rd t349 x20_1)).f4)):=(jr BK359.out 4).trans rfl
           have hfz41_0:=jb BK359.out 0
           have hfz41_1:=jb BK359.out 1
           have hfz41_2:=jb BK359.out 2
           have hfz41_3:=jb BK359.out 3
           have hfz41_4:=jb BK359.out 4
           try go_wp2_with (first |((with_reducible refine jJb (b:=.append) (xs:=#[.tmp 40, .tmp 42]) rfl ?_);at_builtin;refine Kd.R_append k54 (w0:=w) w.heap.size rfl (.tmp 40) (.tmp 42) 30 54 (.agg #[(.int .i64 0),(.int .i64 0),(.int .i64 0),(.int .i64 0),(.bool false)]) 40 rfl Try.underlying30 info54 rfl (by decide) (by omega) u356000 x356000_1 (⟨(jd l0_0 (rd t349 x20_1)).f0,(jd l0_0 (rd t349 x20_1)).f1,t360,t361,(jd l0_0 (rd t349 x20_1)).f4⟩:S54) [.int .i64 ((jd l0_0 (rd t349 x20_1)).f0), .int .i64 ((jd l0_0 (rd t349 x20_1)).f1), .int .i64 t360, .int .i64 t361, .bool ((jd l0_0 (rd t349 x20_1)).f4)] (fun k_=>k_≠gb359) (fun _=>False) rfl (Y3) ?aP (fun _ hk=>hk.elim) ?aF ?aO ?aB ?aS ?aL ?_;(case aP=>exact jpc _ _ _ (⟨(jd l0_0 (rd t349 x20_1)).f0,(jd l0_0 (rd t349 x20_1)).f1,t360,t361,(jd l0_0 (rd t349 x20_1)).f4⟩:S54));(case aB=>exact (Y62));(case aF=>exact (fun k_ hk=>Kd.freshB (g:=gb359) (o:=.cells #[.int .i64 ((jd l0_0 (rd t349 x20_1)).f0), .int .i64 ((jd l0_0 (rd t349 x20_1)).f1), .int .i64 t360, .int .i64 t361, .bool ((jd l0_0 (rd t349 x20_1)).f4)] 54 (0,0)) (Y137) k_ hk));(case aO=>exact (by (with_reducible repeat (first | apply Kd.jM | apply Kd.jL | apply Kd.jQ));exact Kd.jI (Kd.jya (p:=⟨gb359,3,none⟩) (Kd.jya (p:=⟨gb359,2,none⟩) (Kd.jI HO_356000.out (fun k_ hk=>(⟨hk,hk⟩:_∧k_≠gb359))) (fun _ hk=>hk.2) (.int .i64 t360)) (fun _ hk=>hk.2) (.int .i64 t361)) (fun _ hk=>hk.1)));(case aS=>exact (jA (Y62)));(case aL=>have:=LMc26.out;omega);intro v363 w42 ho hb hg hat;rw [← Ny362.out] at ho;have n0_:=am (Kd.R_over' (by (with_reducible repeat (first | apply Kd.jM | apply Kd.jL | apply Kd.jQ));exact (Kd.jI (Kd.jya (p:=⟨gb359,3,none⟩) (Kd.jya (p:=⟨gb359,2,none⟩) (Kd.jwa HO_6.out BK359.out (by decide)) (fun _ hk=>hk.2) (.int .i64 t360)) (fun _ hk=>hk.2) (.int .i64 t361)) (fun _ h_=>h_.1))) (Kd.jjc (Y138)) (by decide) hg);have n1_:=am (Kd.R_over' (by (with_reducible repeat (first | apply Kd.jM | apply Kd.jL | apply Kd.jQ));exact (Kd.jI (Kd.jya (p:=⟨gb359,3,none⟩) (Kd.jya (p:=⟨gb359,2,none⟩) (Kd.jwa HO_18.out BK359.out (by decide)) (fun _ hk=>hk.2) (.int .i64 t360)) (fun _ hk=>hk.2) (.int .i64 t361)) (fun _ h_=>h_.1))) (Kd.jjc (Y138)) (by decide) hg);have n2_:=am (jab (g:=gb347) (o:=.cells #[.slice (some ad358) l0_0.length c0_0] 32 (0,0)) (by (with_reducible repeat (first | refine jf ?_ _ | refine jh ?_ | refine jg ?_ _));refine jO ?_ NB347_359.out _;(with_reducible repeat (first | refine jf ?_ _ | refine jh ?_ | refine jg ?_ _));refine jO ?_ NB347_359.out _;(with_reducible repeat (first | refine jf ?_ _ | refine jh ?_ | refine jg ?_ _));exact BK347.out) hg (Kd.R_ne HO_356000.out BK347.out (by decide)));have n3_:=am (jab (g:=gb348) (o:=.cells #[.slice none 0 0] 32 (0,0)) (by (with_reducible repeat (first | refine jf ?_ _ | refine jh ?_ | refine jg ?_ _));refine jO ?_ NB348_359.out _;(with_reducible repeat (first | refine jf ?_ _ | refine jh ?_ | refine jg ?_ _));refine jO ?_ NB348_359.out _;(with_reducible repeat (first | refine jf ?_ _ | refine jh ?_ | refine jg ?_ _));exact BK348.out) hg (Kd.R_ne HO_356000.out BK348.out (by decide)));have n4_:=am (jab (g:=gb355) (o:=.cells #[u356000] 32 (0,0)) (by (with_reducible repeat (first | refine jf ?_ _ | refine jh ?_ | refine jg ?_ _));refine jO ?_ NB355_359.out _;(with_reducible repeat (first | refine jf ?_ _ | refine jh ?_ | refine jg ?_ _));refine jO ?_ NB355_359.out _;(with_reducible repeat (first | refine jf ?_ _ | refine jh ?_ | refine jg ?_ _));exact BK355.out) hg (Kd.R_ne HO_356000.out BK355.out (by decide)));have n5_:=am (jab (g:=gb359) (o:=.cells #[.int .i64 ((jd l0_0 (rd t349 x20_1)).f0), .int .i64 ((jd l0_0 (rd t349 x20_1)).f1), .int .i64 t360, .int .i64 t361, .bool ((jd l0_0 (rd t349 x20_1)).f4)] 54 (0,0)) (Y137) hg (Kd.R_away HO_356000.out (fun _ hk=>hk)));have n6_:=am (hb);have n7_:=am (ho);clear HO_6 HO_18 BK347 BK348 BK355 BK359 HB HO_356000;have HO_6:=n0_;have HO_18:=n1_;have BK347:=n2_;have BK348:=n3_;have BK355:=n4_;have BK359:=n5_;have HB:=n6_;have HO364:=n7_;clear n0_ n1_ n2_ n3_ n4_ n5_ n6_ n7_ ho hb hg hat;obtain ⟨Ao43,co43,eo43⟩:=Kd.jca HO364.out;subst eo43;have hcz44_0:=bc0 BK355.out;have hfz44_0:=jb BK355.out 0))
           go_roundg k1
           case measure=>have:=HK1.out;omega
           case rel=>exact ⟨(wrap64 (x20_1+1)),(y362),(.slice Ao43 y362.length co43),(sq),H',⟨by have:=HK1.out;omega⟩,⟨by (with_reducible repeat (first | apply Kd.jM | apply Kd.jL | apply Kd.jQ));exact Kd.jI (Kd.jya (p:=⟨gb355,0,none⟩) (Kd.jwa HO_6.out BK355.out (by decide)) (fun _ hk=>hk.2) (.slice Ao43 y362.length co43)) (fun _ hk=>trivial)⟩,⟨by (with_reducible repeat (first | apply Kd.jM | apply Kd.jL | apply Kd.jQ));exact Kd.jI (Kd.jya (p:=⟨gb355,0,none⟩) (Kd.jwa HO_18.out BK355.out (by decide)) (fun _ hk=>hk.2) (.slice Ao43 y362.length co43)) (fun _ hk=>trivial)⟩,⟨by (with_reducible repeat (first | apply Kd.jM | apply Kd.jL | apply Kd.jQ));exact Kd.jI (Kd.jya (p:=⟨gb355,0,none⟩) (Kd.jwa HO364.out BK355.out (by decide)) (fun _ hk=>hk.2) (.slice Ao43 y362.length co43)) (fun _ hk=>trivial)⟩,⟨by (with_reducible repeat (first | refine jf ?_ _ | refine jh ?_ | refine jg ?_ _));refine jO ?_ NB347_355.out _;(with_reducible repeat (first | refine jf ?_ _ | refine jh ?_ | refine jg ?_ _));exact BK347.out⟩,⟨by (with_reducible repeat (first | refine jf ?_ _ | refine jh ?_ | refine jg ?_ _));refine jO ?_ NB348_355.out _;(with_reducible repeat (first | refine jf ?_ _ | refine jh ?_ | refine jg ?_ _));exact BK348.out⟩,⟨by (with_reducible repeat (first | refine jf ?_ _ | refine jh ?_ | refine jg ?_ _));refine jza (cs:=#[u356000]) ?_ 0 _ rfl;(with_reducible repeat (first | refine jf ?_ _ | refine jh ?_ | refine jg ?_ _));exact BK355.out⟩,⟨Y62⟩⟩
          ·rw [if_neg c26] at H
           exact absurd H (by simp)
         ·rw [if_neg c23] at H
          exact absurd H (by simp)
        ·rw [if_neg c22] at H
         exact absurd H (by simp)
       ·rw [if_neg c21] at H
        exact absurd H (by simp)
      ·rw [if_neg c20] at H
       exact absurd H (by simp)
     ·rw [if_neg c19] at H
      have c19b0:decide (x20_1<(t349.length:Int))=false:=dzF c19
      clear c19
      replace H:=bzS H
      obtain ⟨t356,A450,H⟩:=H
      replace H:(some (x356000_1,t356))=some (r1,r2):=H
      have A45:=am A450
      clear A450
      simp only [Option.some.injEq,Prod.mk.injEq] at H
      obtain ⟨rfl,rfl⟩:=H
      try go_wp2
      replace HO_6:=am (Kd.jQ HO_6.out)
      replace HO_18:=am (Kd.jQ HO_18.out)
      replace HO_356000:=am (Kd.jQ HO_356000.out)
      replace BK347:=am (jh BK347.out)
      replace BK348:=am (jh BK348.out)
      replace BK355:=am (jh BK355.out)
      replace HB:=am (jm HB.out)
      refine jdc (n:=6) (S:=fun w'=>w'.cell? ⟨gb355,0,none⟩=some (u356000)) (ds:=[]) #[false,false,false,false,false,false] (by kernel_rfl) rfl rfl ((jr BK355.out 0).trans rfl) (fun hHeld=>?_)
      generalize wr.drew=w46 at HO_6 HO_18 HO_356000 BK347 BK348 BK355 HB hHeld ⊢
      refine pure_ (i:=1) (N:=some 47) (v:=?_) (a':=?_) #[false,true,false,false,false,false] rfl rfl (by kernel_rfl) (fun _ _ _ h=>h) (Or.inl ⟨by rfl,?_⟩) ?_ ?_
      rotate_left
      ·exact sb
      rotate_left
      ·exact sa
      refine pure_ (i:=2) (N:=some 48) (v:=?_) (a':=?_) #[false,true,true,false,false,false] rfl rfl (by kernel_rfl) (fun _ _ _ h=>h) (Or.inl ⟨by rfl,?_⟩) ?_ ?_
      rotate_left
      ·exact sb
      rotate_left
      ·exact sa
      refine jCb (i:=0) (N:=some 46) (v:=?_) (a':=?_) #[true,true,true,false,false,false] rfl rfl (by kernel_rfl) (fun _ _ _ h=>h) (Or.inl ⟨by rfl,?_⟩) hHeld ?_ ?_
      rotate_left
      ·intro w' s0
       go_simp
       with_reducible rfl
      rotate_left
      ·exact sa
      refine one_ (i:=3) (N:=some 49) #[true,true,true,true,false,false] rfl rfl (by kernel_rfl) (by decide) (fun K hK=>?_)
      refine jDb Try.func76 (by kernel_rfl) rfl #[.slice Ao11 t349.length co11, .int .i64 a1] (by rfl) rfl rfl (aq) ?_
      with_reducible refine (jF.calls k1 _ _ t349 a1 t356 _ ?side1 ?side2 A45.out).mono ?_
      (case side1=>exact cq (Kd.jq HO_6.out).2.2)
      (case side2=>exact (Kd.jq HO_6.out).2.1)
      rintro e w' ⟨rfl,⟨nd,rfl⟩⟩
      refine ⟨_,rfl,?_⟩
      obtain ⟨Ao47,co47,eo47⟩:=Kd.jca HO_356000.out
      (first | subst eo47 |(injection eo47 with f1_ f2_ f3_;have f4_:=f1_.symm;have f5_:=f3_.symm;clear f1_ f2_ f3_;subst f4_;subst f5_))
      refine hK.out _ _ ((jr BK355.out 0).trans rfl) (fun hHeld=>?_)
      clear hK K
      refine jYa (a':=?_) ?_ ?_
      rotate_left
      ·show Act.put _ (some 49) _=_
       simp only [Act.put,List.setIfInBounds_toArray,List.set_cons_zero,List.set_cons_succ,jZa,jdb]
       rfl
      refine one_ (i:=4) (N:=none) #[true,true,true,true,true,false] rfl rfl (by kernel_rfl) (by decide) (fun K hK=>?_)
      have hs48:w46.cell? ⟨gb348,0,none⟩=some (.slice none 0 0):=(jr BK348.out 0).trans rfl
      have hfs48:=jb BK348.out 0
      have hns48_0:=NB347_348.out
      have hns48_2:=NB355_348.out
      have hms48_0:=NB348_347.out
      have hms48_2:=NB348_355.out
      refine skip_ (w1:=?_) (by rfl) rfl ?_ ?_
      rotate_left
      ·go_simp
       rfl
      refine hK.out _ _ (((cell_far (p:=⟨gb348,_,none⟩) NB355_348.out _).trans (hHeld))) (fun hHeld=>?_)
      clear hK K
      refine pure_ (i:=5) (N:=some 5) (v:=?_) (a':=?_) #[true,true,true,true,true,true] rfl rfl (by kernel_rfl) (fun _ _ _ h=>h) (Or.inl ⟨by rfl,?_⟩) ?_ ?_
      rotate_left
      ·exact sb
      rotate_left
      ·exact sa
      refine done_ (by kernel_rfl) ?_
      try go_wp2
      refine bodyPost_ret (jZb rfl _ _ gb348 32 #[.slice Ao47 x356000_1.length co47] (0,0) _ rfl (by (with_reducible repeat (first | refine jf ?_ _ | refine jh ?_ | refine jg ?_ _));refine jza (cs:=#[.slice none 0 0]) ?_ 0 _ rfl;(with_reducible repeat (first | refine jf ?_ _ | refine jh ?_ | refine jg ?_ _));exact BK348.out) Try.underlying32 rfl (by kernel_rfl)) rfl ?_
      exact ⟨_,Y1,by (with_reducible repeat (first | apply Kd.jM | apply Kd.jL | apply Kd.jQ));exact Kd.jI (Kd.jya (p:=⟨gb348,0,none⟩) (Kd.jwa HO_356000.out BK348.out (by decide)) (fun _ hk=>hk.2) (.slice Ao47 x356000_1.length co47)) (fun _ hk=>trivial),Y103⟩
  ·rw [if_neg c5] at H
   exact absurd H (by simp)
 ·rw [if_neg c4] at H
  exact absurd H (by simp)
def jU.f (k : Nat) (l0_0 : List (S94)) (l1_0 : List (S54)) (a2 : Int) : Option ((List (S54)) × Int) := (jcb.f k l0_0 l1_0 (([a2] : List Int))).bind fun t371 => (if t371 = true then ((jG.f k l1_0 a2).bind fun bt372 => (some (bt372.1, bt372.2))) else (some (([] : List (S54)), (-1))))
set_option maxHeartbeats 8000000 in
set_option maxRecDepth 100000 in
theorem jU.calls (k : Nat) (A0_0 : Option Addr) (c0_0 : Nat) (l0_0 : List (S94)) (A1_0 : Option Addr) (c1_0 : Nat) (l1_0 : List (S54)) (a2 : Int) (r1 : List (S54)) (r2 : Int) (w : World) (hr0_0 : Kd.C k94 w A0_0 l0_0.length l0_0) (hc0_0 : l0_0.length ≤ c0_0) (hr1_0 : Kd.C k54 w A1_0 l1_0.length l1_0) (hc1_0 : l1_0.length ≤ c1_0) (h : jU.f k l0_0 l1_0 a2 = some (r1, r2)) :
  Calls Try.prog 14 #[.agg #[.slice A0_0 l0_0.length c0_0], .agg #[.slice A1_0 l1_0.length c1_0], .int .i64 a2] w fun e w'=>∃ v0_:Value,e=.returned (.tuple #[.agg #[v0_], .int .i64 r2])∧Kd.R k54 54 w' w.heap.size (fun _=>True) v0_ r1∧Below w.heap.size w w':=by
 have hu37:=Try.underlying37
 have hu32:=Try.underlying32
 have HR0_0:=am hr0_0
 have HC0_0:=am hc0_0
 clear hr0_0 hc0_0
 have HR1_0:=am hr1_0
 have HC1_0:=am hc1_0
 clear hr1_0 hc1_0
 have HB:=am (Below.refl w.heap.size w)
 have H:((jcb.f k l0_0 l1_0 (([a2]:List Int))).bind fun t371=>(if t371=true then ((jG.f k l1_0 a2).bind fun bt372=>(some (bt372.1,bt372.2))) else (some (([]:List (S54)),(-1)))))=some (r1,r2):=h
 clear h
 obtain ⟨y368,hy368⟩:∃ y_:List Int,y_=(([a2]:List Int)):=⟨_,rfl⟩
 replace H:((jcb.f k l0_0 l1_0 y368).bind fun t371=>(if t371=true then ((jG.f k l1_0 a2).bind fun bt372=>(some (bt372.1,bt372.2))) else (some (([]:List (S54)),(-1)))))=some (r1,r2):=by first |(rw [hy368];with_reducible exact H) |(have H2_:=(Option.bind_some _ _).symm.trans H;rw [hy368];with_reducible exact H2_) |(have H2_:=(Option.bind_some _ _).symm.trans H;with_reducible exact H2_) | with_reducible exact H |(rw [hy368];exact H) | exact H
 have Ny368:=am hy368
 clear hy368
 replace H:=bzS H
 obtain ⟨t371,A40,H⟩:=H
 replace H:(if t371=true then ((jG.f k l1_0 a2).bind fun bt372=>(some (bt372.1,bt372.2))) else (some (([]:List (S54)),(-1))))=some (r1,r2):=H
 have A4:=am A40
 clear A40
 by_cases c5:t371=true
 ·subst c5
  have H1:((jG.f k l1_0 a2).bind fun bt372=>(some (bt372.1,bt372.2)))=some (r1,r2):=by rw [if_pos rfl] at H;exact H
  clear H
  have H:=H1
  clear H1
  replace H:=bzS H
  obtain ⟨⟨t372,t375⟩,A60,H⟩:=H
  replace H:(some (t372,t375))=some (r1,r2):=H
  have A6:=am A60
  clear A60
  simp only [Option.some.injEq,Prod.mk.injEq] at H
  obtain ⟨rfl,rfl⟩:=H
  go_enter Try.func14,Try.ntmps14
  go_wp2_with (first |((with_reducible refine jD (N:=3) rfl ?_);refine bE (N:=3) (cs:=#[.slice A0_0 l0_0.length c0_0]) (t:=37) ?_;intro gb365 hg w7 hbox hb;have BK365:=am (hbox);have GW365:=am ((Y0:w.heap.size≤gb365));have GE365:=am ((Y0:w.heap.size≤gb365));replace HB:=am (je (bq) hb);clear hb hbox hg) |((with_reducible refine jD (N:=4) rfl ?_);refine bE (N:=4) (cs:=#[.slice A1_0 l1_0.length c1_0]) (t:=32) ?_;intro gb366 hg w8 hbox hb;have BK366:=am (hbox);have GW366:=am ((Y63:w.heap.size≤gb366));have GE366:=am ((Y63:w.heap.size≤gb366));have NB365_366:=am ((Y64:gb365≠gb366));have NB366_365:=am ((Y65:gb366≠gb365));replace BK365:=am (ja (g:=gb365) (o:=.cells #[.slice A0_0 l0_0.length c0_0] 37 (0,0)) (kq BK365.out) hb);replace HB:=am (je (Y139) hb);clear hb hbox hg) |((with_reducible refine jD (N:=6) rfl ?_);refine bE (N:=6) (cs:=#[.slice none 0 0]) (t:=32) ?_;intro gb367 hg w9 hbox hb;have BK367:=am (hbox);have GW367:=am ((Y66:w.heap.size≤gb367));have GE367:=am ((Y66:w.heap.size≤gb367));have NB365_367:=am ((Y64:gb365≠gb367));have NB367_365:=am ((Y65:gb367≠gb365));have NB366_367:=am ((by rw [hg];exact Nat.ne_of_lt (jP (g:=gb366) (o:=.cells #[.slice A1_0 l1_0.length c1_0] 32 (0,0)) (kq BK366.out)):gb366≠gb367));have NB367_366:=am ((by rw [hg];exact Nat.ne_of_gt (jP (g:=gb366) (o:=.cells #[.slice A1_0 l1_0.length c1_0] 32 (0,0)) (kq BK366.out)):gb367≠gb366));replace BK365:=am (ja (g:=gb365) (o:=.cells #[.slice A0_0 l0_0.length c0_0] 37 (0,0)) (kq BK365.out) hb);replace BK366:=am (ja (g:=gb366) (o:=.cells #[.slice A1_0 l1_0.length c1_0] 32 (0,0)) (kq BK366.out) hb);replace HB:=am (je (Y140) hb);clear hb hbox hg;have hnb10:=NB365_366.out;have hnc10:=NB366_365.out;have hnb11:=NB365_367.out;have hnc11:=NB367_365.out;have hcz12_0:=bc0 BK365.out;have hfz12_0:=jb BK365.out 0;have hnb13:=NB366_367.out;have hnc13:=NB367_366.out;have hcz14_0:=bc0 BK366.out;have hfz14_0:=jb BK366.out 0) |((with_reducible refine jD (N:=11) rfl ?_);refine Kd.R_lit (Kd.int .i64) _ 3 ?hg (N:=11) ?hd (xs:=([a2]:List Int)) (inner:=[.int .i64 a2]) (ok:=fun _=>True) (okp:=fun _=>True) ?hr ?hp (fun _ hk=>hk) trivial (Below.refl _ _) (Nat.le_refl _) (by simp) ?_;(case hd=>rfl);(case hg=>rfl);(case hr=>exact Y3);(case hp=>exact (Reps.one (show Kd.M (Kd.int .i64) _ _ _ a2 [.int .i64 a2] from rfl) (Reps.none _ _)));intro v369 w15 ho16 hb hg_ hnew_;clear hg_ hnew_;(first | rw [← Ny368.out] at ho16 |(simp only [Int.reduceToNat] at ho16;rw [← Ny368.out] at ho16));have HO370:=am (Kd.jna ho16 (jA (Y18)));replace BK365:=am (ja (g:=gb365) (o:=.cells #[.slice A0_0 l0_0.length c0_0] 37 (0,0)) (kq BK365.out) hb);replace BK366:=am (ja (g:=gb366) (o:=.cells #[.slice A1_0 l1_0.length c1_0] 32 (0,0)) (kq BK366.out) hb);replace BK367:=am (ja (g:=gb367) (o:=.cells #[.slice none 0 0] 32 (0,0)) (kq BK367.out) hb);replace HB:=am (je (Y18) hb);clear hb ho16;obtain ⟨Ao17,co17,eo17⟩:=Kd.jca HO370.out;subst eo17) |((with_reducible refine jE (f:=45) rfl ?_);refine gL (some 12) Try.func45 #[.agg #[.slice A0_0 l0_0.length c0_0], .agg #[.slice A1_0 l1_0.length c1_0], .slice Ao17 y368.length co17] ?_;(with_reducible refine (jcb.calls k _ _ l0_0 _ _ l1_0 _ _ y368 true _ ?side1 ?side2 ?side3 ?side4 ?side5 ?side6 A4.out).mono ?_);(case side1=>exact cq (Kd.jK HR0_0.out HB.out));(case side2=>exact HC0_0.out);(case side3=>exact cq (Kd.jK HR1_0.out HB.out));(case side4=>exact HC1_0.out);(case side5=>exact cq (Kd.jq HO370.out).2.2);(case side6=>exact (Kd.jq HO370.out).2.1);rintro e w18 ⟨rfl,hb⟩;refine ⟨_,rfl,?_⟩;replace HO370:=am (Kd.jy (rq HO370.out) hb);replace BK365:=am (ja (g:=gb365) (o:=.cells #[.slice A0_0 l0_0.length c0_0] 37 (0,0)) (kq BK365.out) hb);replace BK366:=am (ja (g:=gb366) (o:=.cells #[.slice A1_0 l1_0.length c1_0] 32 (0,0)) (kq BK366.out) hb);replace BK367:=am (ja (g:=gb367) (o:=.cells #[.slice none 0 0] 32 (0,0)) (kq BK367.out) hb);replace HB:=am (je (Y18) hb);(try clear hb);(try clear hb2);(try clear hk);(try clear hi);have hcz19_0:=bc0 BK366.out;have hfz19_0:=jb BK366.out 0) |((with_reducible refine jE (f:=46) rfl ?_);refine gL (some 17) Try.func46 #[.agg #[.slice A1_0 l1_0.length c1_0], .int .i64 a2] ?_;(with_reducible refine (jG.calls k _ _ l1_0 a2 t372 t375 _ ?side1 ?side2 A6.out).mono ?_);(case side1=>exact cq (Kd.jK HR1_0.out HB.out));(case side2=>exact HC1_0.out);rintro e w20 ⟨v373,rfl,ho0,hb⟩;refine ⟨_,rfl,?_⟩;have HO374:=am (Kd.jna ho0 (jA (Y18)));replace HO370:=am (Kd.jy (rq HO370.out) hb);replace BK365:=am (ja (g:=gb365) (o:=.cells #[.slice A0_0 l0_0.length c0_0] 37 (0,0)) (kq BK365.out) hb);replace BK366:=am (ja (g:=gb366) (o:=.cells #[.slice A1_0 l1_0.length c1_0] 32 (0,0)) (kq BK366.out) hb);replace BK367:=am (ja (g:=gb367) (o:=.cells #[.slice none 0 0] 32 (0,0)) (kq BK367.out) hb);replace HB:=am (je (Y18) hb);(try clear hb);(try clear hb2);(try clear hk);(try clear hi);(try clear ho0);obtain ⟨Ao21,co21,eo21⟩:=Kd.jca HO374.out;subst eo21;have hcz22_0:=bc0 BK367.out;have hfz22_0:=jb BK367.out 0))
  refine bodyPost_ret (jZb rfl _ _ gb367 32 #[.slice Ao21 t372.length co21] (0,0) _ rfl (Y141) Try.underlying32 rfl (by kernel_rfl)) rfl ?_
  exact ⟨_,Y1,by (with_reducible repeat (first | apply Kd.jM | apply Kd.jL | apply Kd.jQ));exact Kd.jI (Kd.jya (p:=⟨gb367,0,none⟩) (Kd.jwa HO374.out BK367.out (by decide)) (fun _ hk=>hk.2) (.slice Ao21 t372.length co21)) (fun _ hk=>trivial),Y18⟩
 ·replace c5:=Bool.eq_false_iff.mpr c5
  subst c5
  have H1:(some (([]:List (S54)),(-1)))=some (r1,r2):=by rw [if_neg (show ¬ (false=true) by decide)] at H;exact H
  clear H
  have H:=H1
  clear H1
  simp only [Option.some.injEq,Prod.mk.injEq] at H
  obtain ⟨rfl,rfl⟩:=H
  go_enter Try.func14,Try.ntmps14
  go_wp2_with (first |((with_reducible refine jD (N:=3) rfl ?_);refine bE (N:=3) (cs:=#[.slice A0_0 l0_0.length c0_0]) (t:=37) ?_;intro gb365 hg w23 hbox hb;have BK365:=am (hbox);have GW365:=am ((Y0:w.heap.size≤gb365));have GE365:=am ((Y0:w.heap.size≤gb365));replace HB:=am (je (bq) hb);clear hb hbox hg) |((with_reducible refine jD (N:=4) rfl ?_);refine bE (N:=4) (cs:=#[.slice A1_0 l1_0.length c1_0]) (t:=32) ?_;intro gb366 hg w24 hbox hb;have BK366:=am (hbox);have GW366:=am ((Y63:w.heap.size≤gb366));have GE366:=am ((Y63:w.heap.size≤gb366));have NB365_366:=am ((Y64:gb365≠gb366));have NB366_365:=am ((Y65:gb366≠gb365));replace BK365:=am (ja (g:=gb365) (o:=.cells #[.slice A0_0 l0_0.length c0_0] 37 (0,0)) (kq BK365.out) hb);replace HB:=am (je (Y139) hb);clear hb hbox hg) |((with_reducible refine jD (N:=6) rfl ?_);refine bE (N:=6) (cs:=#[.slice none 0 0]) (t:=32) ?_;intro gb367 hg w25 hbox hb;have BK367:=am (hbox);have GW367:=am ((Y66:w.heap.size≤gb367));have GE367:=am ((Y66:w.heap.size≤gb367));have NB365_367:=am ((Y64:gb365≠gb367));have NB367_365:=am ((Y65:gb367≠gb365));have NB366_367:=am ((by rw [hg];exact Nat.ne_of_lt (jP (g:=gb366) (o:=.cells #[.slice A1_0 l1_0.length c1_0] 32 (0,0)) (kq BK366.out)):gb366≠gb367));have NB367_366:=am ((by rw [hg];exact Nat.ne_of_gt (jP (g:=gb366) (o:=.cells #[.slice A1_0 l1_0.length c1_0] 32 (0,0)) (kq BK366.out)):gb367≠gb366));replace BK365:=am (ja (g:=gb365) (o:=.cells #[.slice A0_0 l0_0.length c0_0] 37 (0,0)) (kq BK365.out) hb);replace BK366:=am (ja (g:=gb366) (o:=.cells #[.slice A1_0 l1_0.length c1_0] 32 (0,0)) (kq BK366.out) hb);replace HB:=am (je (Y140) hb);clear hb hbox hg;have hnb26:=NB365_366.out;have hnc26:=NB366_365.out;have hnb27:=NB365_367.out;have hnc27:=NB367_365.out;have hcz28_0:=bc0 BK365.out;have hfz28_0:=jb BK365.out 0;have hnb29:=NB366_367.out;have hnc29:=NB367_366.out;have hcz30_0:=bc0 BK366.out;have hfz30_0:=jb BK366.out 0) |((with_reducible refine jD (N:=11) rfl ?_);refine Kd.R_lit (Kd.int .i64) _ 3 ?hg (N:=11) ?hd (xs:=([a2]:List Int)) (inner:=[.int .i64 a2]) (ok:=fun _=>True) (okp:=fun _=>True) ?hr ?hp (fun _ hk=>hk) trivial (Below.refl _ _) (Nat.le_refl _) (by simp) ?_;(case hd=>rfl);(case hg=>rfl);(case hr=>exact Y3);(case hp=>exact (Reps.one (show Kd.M (Kd.int .i64) _ _ _ a2 [.int .i64 a2] from rfl) (Reps.none _ _)));intro v369 w31 ho32 hb hg_ hnew_;clear hg_ hnew_;(first | rw [← Ny368.out] at ho32 |(simp only [Int.reduceToNat] at ho32;rw [← Ny368.out] at ho32));have HO370:=am (Kd.jna ho32 (jA (Y18)));replace BK365:=am (ja (g:=gb365) (o:=.cells #[.slice A0_0 l0_0.length c0_0] 37 (0,0)) (kq BK365.out) hb);replace BK366:=am (ja (g:=gb366) (o:=.cells #[.slice A1_0 l1_0.length c1_0] 32 (0,0)) (kq BK366.out) hb);replace BK367:=am (ja (g:=gb367) (o:=.cells #[.slice none 0 0] 32 (0,0)) (kq BK367.out) hb);replace HB:=am (je (Y18) hb);clear hb ho32;obtain ⟨Ao33,co33,eo33⟩:=Kd.jca HO370.out;subst eo33) |((with_reducible refine jE (f:=45) rfl ?_);refine gL (some 12) Try.func45 #[.agg #[.slice A0_0 l0_0.length c0_0], .agg #[.slice A1_0 l1_0.length c1_0], .slice Ao33 y368.length co33] ?_;(with_reducible refine (jcb.calls k _ _ l0_0 _ _ l1_0 _ _ y368 false _ ?side1 ?side2 ?side3 ?side4 ?side5 ?side6 A4.out).mono ?_);(case side1=>exact cq (Kd.jK HR0_0.out HB.out));(case side2=>exact HC0_0.out);(case side3=>exact cq (Kd.jK HR1_0.out HB.out));(case side4=>exact HC1_0.out);(case side5=>exact cq (Kd.jq HO370.out).2.2);(case side6=>exact (Kd.jq HO370.out).2.1);rintro e w34 ⟨rfl,hb⟩;refine ⟨_,rfl,?_⟩;replace HO370:=am (Kd.jy (rq HO370.out) hb);replace BK365:=am (ja (g:=gb365) (o:=.cells #[.slice A0_0 l0_0.length c0_0] 37 (0,0)) (kq BK365.out) hb);replace BK366:=am (ja (g:=gb366) (o:=.cells #[.slice A1_0 l1_0.length c1_0] 32 (0,0)) (kq BK366.out) hb);replace BK367:=am (ja (g:=gb367) (o:=.cells #[.slice none 0 0] 32 (0,0)) (kq BK367.out) hb);replace HB:=am (je (Y18) hb);(try clear hb);(try clear hb2);(try clear hk);(try clear hi);have hcz35_0:=bc0 BK367.out;have hfz35_0:=jb BK367.out 0))
  refine bodyPost_ret (jZb rfl _ _ gb367 32 #[.slice none 0 0] (0,0) _ rfl (Y141) Try.underlying32 rfl (by kernel_rfl)) rfl ?_
  exact ⟨_,Y1,Y122,Y18⟩
def jHb.f (a0_0 : Int) (a0_1 : Int) (a0_2 : Int) (a0_3 : Int) (a0_4 : Bool) (a1_0 : Int) (a1_1 : Int) (a1_2 : Int) (a1_3 : Int) (a1_4 : Bool) : Option (Bool) := if a0_0 = a1_0 then (if a0_1 = a1_1 then (if a0_2 = a1_2 then (if a0_3 = a1_3 then (if (a0_4 != a1_4) = true then (some false) else (some true)) else (some false)) else (some false)) else (some false)) else (some false)
set_option maxHeartbeats 8000000 in
set_option maxRecDepth 100000 in
theorem jHb.calls (a0_0 : Int) (a0_1 : Int) (a0_2 : Int) (a0_3 : Int) (a0_4 : Bool) (a1_0 : Int) (a1_1 : Int) (a1_2 : Int) (a1_3 : Int) (a1_4 : Bool) (r : Bool) (w : World) (h : jHb.f a0_0 a0_1 a0_2 a0_3 a0_4 a1_0 a1_1 a1_2 a1_3 a1_4 = some r) :
  Calls Try.prog 77 #[.agg #[.int .i64 a0_0, .int .i64 a0_1, .int .i64 a0_2, .int .i64 a0_3, .bool a0_4], .agg #[.int .i64 a1_0, .int .i64 a1_1, .int .i64 a1_2, .int .i64 a1_3, .bool a1_4]] w fun e w'=>e=.returned (.bool r)∧Below w.heap.size w w':=by
 have hu54:=Try.underlying54
 have HB:=am (Below.refl w.heap.size w)
 have H:(if a0_0=a1_0 then (if a0_1=a1_1 then (if a0_2=a1_2 then (if a0_3=a1_3 then (if (a0_4 != a1_4)=true then (some false) else (some true)) else (some false)) else (some false)) else (some false)) else (some false))=some r:=h
 clear h
 by_cases c3:a0_0=a1_0
 ·rw [if_pos c3] at H
  have c3b0:(a0_0 == a1_0)=true:=beq_iff_eq.mpr c3
  have c3b1:(a0_0 != a1_0)=false:=bne_eq_false_iff_eq.mpr c3
  clear c3
  by_cases c4:a0_1=a1_1
  ·rw [if_pos c4] at H
   have c4b0:(a0_1 == a1_1)=true:=beq_iff_eq.mpr c4
   have c4b1:(a0_1 != a1_1)=false:=bne_eq_false_iff_eq.mpr c4
   clear c4
   by_cases c5:a0_2=a1_2
   ·rw [if_pos c5] at H
    have c5b0:(a0_2 == a1_2)=true:=beq_iff_eq.mpr c5
    have c5b1:(a0_2 != a1_2)=false:=bne_eq_false_iff_eq.mpr c5
    clear c5
    by_cases c6:a0_3=a1_3
    ·rw [if_pos c6] at H
     have c6b0:(a0_3 == a1_3)=true:=beq_iff_eq.mpr c6
     have c6b1:(a0_3 != a1_3)=false:=bne_eq_false_iff_eq.mpr c6
     clear c6
     by_cases c7:(a0_4 != a1_4)=true
     ·rw [if_pos c7] at H
      have c7b0:(a0_4 != a1_4)=true:=c7
      (try (have c7b1:decide (a0_4=a1_4)=false:=by simpa using c7))
      (try (have c7b2:(a0_4 == a1_4)=false:=by simpa using c7))
      (try (have c7b3:¬ (a0_4=a1_4):=by simpa using c7))
      clear c7
      obtain rfl:=Option.some.inj H
      go_enter Try.func77,Try.ntmps77
      go_wp2_with (first |((with_reducible refine jD (N:=2) rfl ?_);refine bE (N:=2) (cs:=#[.int .i64 a0_0, .int .i64 a0_1, .int .i64 a0_2, .int .i64 a0_3, .bool a0_4]) (t:=54) ?_;intro gb376 hg w8 hbox hb;have BK376:=am (hbox);have GW376:=am ((Y0:w.heap.size≤gb376));have GE376:=am ((Y0:w.heap.size≤gb376));replace HB:=am (je (bq) hb);clear hb hbox hg) |((with_reducible refine jD (N:=3) rfl ?_);refine bE (N:=3) (cs:=#[.int .i64 a1_0, .int .i64 a1_1, .int .i64 a1_2, .int .i64 a1_3, .bool a1_4]) (t:=54) ?_;intro gb377 hg w9 hbox hb;have BK377:=am (hbox);have GW377:=am ((Y15:w.heap.size≤gb377));have GE377:=am ((Y15:w.heap.size≤gb377));have NB376_377:=am ((Y38:gb376≠gb377));have NB377_376:=am ((Y39:gb377≠gb376));replace BK376:=am (ja (g:=gb376) (o:=.cells #[.int .i64 a0_0, .int .i64 a0_1, .int .i64 a0_2, .int .i64 a0_3, .bool a0_4] 54 (0,0)) (kq BK376.out) hb);replace HB:=am (je (Y40) hb);clear hb hbox hg;have hnb10:=NB376_377.out;have hnc10:=NB377_376.out;have hcz11_0:=bc0 BK376.out;have hcz11_1:=bc1 BK376.out;have hcz11_2:=bc2 BK376.out;have hcz11_3:=bc3 BK376.out;have hcz11_4:w9.cell? ⟨gb376,4,none⟩=some (.bool a0_4):=(jr BK376.out 4).trans rfl;have hfz11_0:=jb BK376.out 0;have hfz11_1:=jb BK376.out 1;have hfz11_2:=jb BK376.out 2;have hfz11_3:=jb BK376.out 3;have hfz11_4:=jb BK376.out 4;have hcz12_0:=bc0 BK377.out;have hcz12_1:=bc1 BK377.out;have hcz12_2:=bc2 BK377.out;have hcz12_3:=bc3 BK377.out;have hcz12_4:w9.cell? ⟨gb377,4,none⟩=some (.bool a1_4):=(jr BK377.out 4).trans rfl;have hfz12_0:=jb BK377.out 0;have hfz12_1:=jb BK377.out 1;have hfz12_2:=jb BK377.out 2;have hfz12_3:=jb BK377.out 3;have hfz12_4:=jb BK377.out 4))
      go_ret
      exact ⟨Y1,Y41⟩
     ·rw [if_neg c7] at H
      have c7b0:(a0_4 != a1_4)=false:=by simpa using c7
      (try (have c7b1:decide (a0_4=a1_4)=true:=by simpa using c7))
      (try (have c7b2:(a0_4 == a1_4)=true:=by simpa using c7))
      clear c7
      obtain rfl:=Option.some.inj H
      go_enter Try.func77,Try.ntmps77
      go_wp2_with (first |((with_reducible refine jD (N:=2) rfl ?_);refine bE (N:=2) (cs:=#[.int .i64 a0_0, .int .i64 a0_1, .int .i64 a0_2, .int .i64 a0_3, .bool a0_4]) (t:=54) ?_;intro gb376 hg w13 hbox hb;have BK376:=am (hbox);have GW376:=am ((Y0:w.heap.size≤gb376));have GE376:=am ((Y0:w.heap.size≤gb376));replace HB:=am (je (bq) hb);clear hb hbox hg) |((with_reducible refine jD (N:=3) rfl ?_);refine bE (N:=3) (cs:=#[.int .i64 a1_0, .int .i64 a1_1, .int .i64 a1_2, .int .i64 a1_3, .bool a1_4]) (t:=54) ?_;intro gb377 hg w14 hbox hb;have BK377:=am (hbox);have GW377:=am ((Y15:w.heap.size≤gb377));have GE377:=am ((Y15:w.heap.size≤gb377));have NB376_377:=am ((Y38:gb376≠gb377));have NB377_376:=am ((Y39:gb377≠gb376));replace BK376:=am (ja (g:=gb376) (o:=.cells #[.int .i64 a0_0, .int .i64 a0_1, .int .i64 a0_2, .int .i64 a0_3, .bool a0_4] 54 (0,0)) (kq BK376.out) hb);replace HB:=am (je (Y40) hb);clear hb hbox hg;have hnb15:=NB376_377.out;have hnc15:=NB377_376.out;have hcz16_0:=bc0 BK376.out;have hcz16_1:=bc1 BK376.out;have hcz16_2:=bc2 BK376.out;have hcz16_3:=bc3 BK376.out;have hcz16_4:w14.cell? ⟨gb376,4,none⟩=some (.bool a0_4):=(jr BK376.out 4).trans rfl;have hfz16_0:=jb BK376.out 0;have hfz16_1:=jb BK376.out 1;have hfz16_2:=jb BK376.out 2;have hfz16_3:=jb BK376.out 3;have hfz16_4:=jb BK376.out 4;have hcz17_0:=bc0 BK377.out;have hcz17_1:=bc1 BK377.out;have hcz17_2:=bc2 BK377.out;have hcz17_3:=bc3 BK377.out;have hcz17_4:w14.cell? ⟨gb377,4,none⟩=some (.bool a1_4):=(jr BK377.out 4).trans rfl;have hfz17_0:=jb BK377.out 0;have hfz17_1:=jb BK377.out 1;have hfz17_2:=jb BK377.out 2;have hfz17_3:=jb BK377.out 3;have hfz17_4:=jb BK377.out 4))
      go_ret
      exact ⟨Y1,Y41⟩
    ·rw [if_neg c6] at H
     have c6b0:(a0_3 == a1_3)=false:=beq_eq_false_iff_ne.mpr c6
     have c6b1:(a0_3 != a1_3)=true:=bne_iff_ne.mpr c6
     obtain rfl:=Option.some.inj H
     go_enter Try.func77,Try.ntmps77
     go_wp2_with (first |((with_reducible refine jD (N:=2) rfl ?_);refine bE (N:=2) (cs:=#[.int .i64 a0_0, .int .i64 a0_1, .int .i64 a0_2, .int .i64 a0_3, .bool a0_4]) (t:=54) ?_;intro gb376 hg w18 hbox hb;have BK376:=am (hbox);have GW376:=am ((Y0:w.heap.size≤gb376));have GE376:=am ((Y0:w.heap.size≤gb376));replace HB:=am (je (bq) hb);clear hb hbox hg) |((with_reducible refine jD (N:=3) rfl ?_);refine bE (N:=3) (cs:=#[.int .i64 a1_0, .int .i64 a1_1, .int .i64 a1_2, .int .i64 a1_3, .bool a1_4]) (t:=54) ?_;intro gb377 hg w19 hbox hb;have BK377:=am (hbox);have GW377:=am ((Y15:w.heap.size≤gb377));have GE377:=am ((Y15:w.heap.size≤gb377));have NB376_377:=am ((Y38:gb376≠gb377));have NB377_376:=am ((Y39:gb377≠gb376));replace BK376:=am (ja (g:=gb376) (o:=.cells #[.int .i64 a0_0, .int .i64 a0_1, .int .i64 a0_2, .int .i64 a0_3, .bool a0_4] 54 (0,0)) (kq BK376.out) hb);replace HB:=am (je (Y40) hb);clear hb hbox hg;have hnb20:=NB376_377.out;have hnc20:=NB377_376.out;have hcz21_0:=bc0 BK376.out;have hcz21_1:=bc1 BK376.out;have hcz21_2:=bc2 BK376.out;have hcz21_3:=bc3 BK376.out;have hcz21_4:w19.cell? ⟨gb376,4,none⟩=some (.bool a0_4):=(jr BK376.out 4).trans rfl;have hfz21_0:=jb BK376.out 0;have hfz21_1:=jb BK376.out 1;have hfz21_2:=jb BK376.out 2;have hfz21_3:=jb BK376.out 3;have hfz21_4:=jb BK376.out 4;have hcz22_0:=bc0 BK377.out;have hcz22_1:=bc1 BK377.out;have hcz22_2:=bc2 BK377.out;have hcz22_3:=bc3 BK377.out;have hcz22_4:w19.cell? ⟨gb377,4,none⟩=some (.bool a1_4):=(jr BK377.out 4).trans rfl;have hfz22_0:=jb BK377.out 0;have hfz22_1:=jb BK377.out 1;have hfz22_2:=jb BK377.out 2;have hfz22_3:=jb BK377.out 3;have hfz22_4:=jb BK377.out 4))
     go_ret
     exact ⟨Y1,Y41⟩
   ·rw [if_neg c5] at H
    have c5b0:(a0_2 == a1_2)=false:=beq_eq_false_iff_ne.mpr c5
    have c5b1:(a0_2 != a1_2)=true:=bne_iff_ne.mpr c5
    obtain rfl:=Option.some.inj H
    go_enter Try.func77,Try.ntmps77
    go_wp2_with (first |((with_reducible refine jD (N:=2) rfl ?_);refine bE (N:=2) (cs:=#[.int .i64 a0_0, .int .i64 a0_1, .int .i64 a0_2, .int .i64 a0_3, .bool a0_4]) (t:=54) ?_;intro gb376 hg w23 hbox hb;have BK376:=am (hbox);have GW376:=am ((Y0:w.heap.size≤gb376));have GE376:=am ((Y0:w.heap.size≤gb376));replace HB:=am (je (bq) hb);clear hb hbox hg) |((with_reducible refine jD (N:=3) rfl ?_);refine bE (N:=3) (cs:=#[.int .i64 a1_0, .int .i64 a1_1, .int .i64 a1_2, .int .i64 a1_3, .bool a1_4]) (t:=54) ?_;intro gb377 hg w24 hbox hb;have BK377:=am (hbox);have GW377:=am ((Y15:w.heap.size≤gb377));have GE377:=am ((Y15:w.heap.size≤gb377));have NB376_377:=am ((Y38:gb376≠gb377));have NB377_376:=am ((Y39:gb377≠gb376));replace BK376:=am (ja (g:=gb376) (o:=.cells #[.int .i64 a0_0, .int .i64 a0_1, .int .i64 a0_2, .int .i64 a0_3, .bool a0_4] 54 (0,0)) (kq BK376.out) hb);replace HB:=am (je (Y40) hb);clear hb hbox hg;have hnb25:=NB376_377.out;have hnc25:=NB377_376.out;have hcz26_0:=bc0 BK376.out;have hcz26_1:=bc1 BK376.out;have hcz26_2:=bc2 BK376.out;have hcz26_3:=bc3 BK376.out;have hcz26_4:w24.cell? ⟨gb376,4,none⟩=some (.bool a0_4):=(jr BK376.out 4).trans rfl;have hfz26_0:=jb BK376.out 0;have hfz26_1:=jb BK376.out 1;have hfz26_2:=jb BK376.out 2;have hfz26_3:=jb BK376.out 3;have hfz26_4:=jb BK376.out 4;have hcz27_0:=bc0 BK377.out;have hcz27_1:=bc1 BK377.out;have hcz27_2:=bc2 BK377.out;have hcz27_3:=bc3 BK377.out;have hcz27_4:w24.cell? ⟨gb377,4,none⟩=some (.bool a1_4):=(jr BK377.out 4).trans rfl;have hfz27_0:=jb BK377.out 0;have hfz27_1:=jb BK377.out 1;have hfz27_2:=jb BK377.out 2;have hfz27_3:=jb BK377.out 3;have hfz27_4:=jb BK377.out 4))
    go_ret
    exact ⟨Y1,Y41⟩
  ·rw [if_neg c4] at H
   have c4b0:(a0_1 == a1_1)=false:=beq_eq_false_iff_ne.mpr c4
   have c4b1:(a0_1 != a1_1)=true:=bne_iff_ne.mpr c4
   obtain rfl:=Option.some.inj H
   go_enter Try.func77,Try.ntmps77
   go_wp2_with (first |((with_reducible refine jD (N:=2) rfl ?_);refine bE (N:=2) (cs:=#[.int .i64 a0_0, .int .i64 a0_1, .int .i64 a0_2, .int .i64 a0_3, .bool a0_4]) (t:=54) ?_;intro gb376 hg w28 hbox hb;have BK376:=am (hbox);have GW376:=am ((Y0:w.heap.size≤gb376));have GE376:=am ((Y0:w.heap.size≤gb376));replace HB:=am (je (bq) hb);clear hb hbox hg) |((with_reducible refine jD (N:=3) rfl ?_);refine bE (N:=3) (cs:=#[.int .i64 a1_0, .int .i64 a1_1, .int .i64 a1_2, .int .i64 a1_3, .bool a1_4]) (t:=54) ?_;intro gb377 hg w29 hbox hb;have BK377:=am (hbox);have GW377:=am ((Y15:w.heap.size≤gb377));have GE377:=am ((Y15:w.heap.size≤gb377));have NB376_377:=am ((Y38:gb376≠gb377));have NB377_376:=am ((Y39:gb377≠gb376));replace BK376:=am (ja (g:=gb376) (o:=.cells #[.int .i64 a0_0, .int .i64 a0_1, .int .i64 a0_2, .int .i64 a0_3, .bool a0_4] 54 (0,0)) (kq BK376.out) hb);replace HB:=am (je (Y40) hb);clear hb hbox hg;have hnb30:=NB376_377.out;have hnc30:=NB377_376.out;have hcz31_0:=bc0 BK376.out;have hcz31_1:=bc1 BK376.out;have hcz31_2:=bc2 BK376.out;have hcz31_3:=bc3 BK376.out;have hcz31_4:w29.cell? ⟨gb376,4,none⟩=some (.bool a0_4):=(jr BK376.out 4).trans rfl;have hfz31_0:=jb BK376.out 0;have hfz31_1:=jb BK376.out 1;have hfz31_2:=jb BK376.out 2;have hfz31_3:=jb BK376.out 3;have hfz31_4:=jb BK376.out 4;have hcz32_0:=bc0 BK377.out;have hcz32_1:=bc1 BK377.out;have hcz32_2:=bc2 BK377.out;have hcz32_3:=bc3 BK377.out;have hcz32_4:w29.cell? ⟨gb377,4,none⟩=some (.bool a1_4):=(jr BK377.out 4).trans rfl;have hfz32_0:=jb BK377.out 0;have hfz32_1:=jb BK377.out 1;have hfz32_2:=jb BK377.out 2;have hfz32_3:=jb BK377.out 3;have hfz32_4:=jb BK377.out 4))
   go_ret
   exact ⟨Y1,Y41⟩
 ·rw [if_neg c3] at H
  have c3b0:(a0_0 == a1_0)=false:=beq_eq_false_iff_ne.mpr c3
  have c3b1:(a0_0 != a1_0)=true:=bne_iff_ne.mpr c3
  obtain rfl:=Option.some.inj H
  go_enter Try.func77,Try.ntmps77
  go_wp2_with (first |((with_reducible refine jD (N:=2) rfl ?_);refine bE (N:=2) (cs:=#[.int .i64 a0_0, .int .i64 a0_1, .int .i64 a0_2, .int .i64 a0_3, .bool a0_4]) (t:=54) ?_;intro gb376 hg w33 hbox hb;have BK376:=am (hbox);have GW376:=am ((Y0:w.heap.size≤gb376));have GE376:=am ((Y0:w.heap.size≤gb376));replace HB:=am (je (bq) hb);clear hb hbox hg) |((with_reducible refine jD (N:=3) rfl ?_);refine bE (N:=3) (cs:=#[.int .i64 a1_0, .int .i64 a1_1, .int .i64 a1_2, .int .i64 a1_3, .bool a1_4]) (t:=54) ?_;intro gb377 hg w34 hbox hb;have BK377:=am (hbox);have GW377:=am ((Y15:w.heap.size≤gb377));have GE377:=am ((Y15:w.heap.size≤gb377));have NB376_377:=am ((Y38:gb376≠gb377));have NB377_376:=am ((Y39:gb377≠gb376));replace BK376:=am (ja (g:=gb376) (o:=.cells #[.int .i64 a0_0, .int .i64 a0_1, .int .i64 a0_2, .int .i64 a0_3, .bool a0_4] 54 (0,0)) (kq BK376.out) hb);replace HB:=am (je (Y40) hb);clear hb hbox hg;have hnb35:=NB376_377.out;have hnc35:=NB377_376.out;have hcz36_0:=bc0 BK376.out;have hcz36_1:=bc1 BK376.out;have hcz36_2:=bc2 BK376.out;have hcz36_3:=bc3 BK376.out;have hcz36_4:w34.cell? ⟨gb376,4,none⟩=some (.bool a0_4):=(jr BK376.out 4).trans rfl;have hfz36_0:=jb BK376.out 0;have hfz36_1:=jb BK376.out 1;have hfz36_2:=jb BK376.out 2;have hfz36_3:=jb BK376.out 3;have hfz36_4:=jb BK376.out 4;have hcz37_0:=bc0 BK377.out;have hcz37_1:=bc1 BK377.out;have hcz37_2:=bc2 BK377.out;have hcz37_3:=bc3 BK377.out;have hcz37_4:w34.cell? ⟨gb377,4,none⟩=some (.bool a1_4):=(jr BK377.out 4).trans rfl;have hfz37_0:=jb BK377.out 0;have hfz37_1:=jb BK377.out 1;have hfz37_2:=jb BK377.out 2;have hfz37_3:=jb BK377.out 3;have hfz37_4:=jb BK377.out 4))
  go_ret
  exact ⟨Y1,Y41⟩
def jW.l0 : Nat → List (S54) → List (S54) → Int → Option (Bool)
 | 0,_,_,_=>none
 | k+1,x0,x1,x5=>if x5<(x0.length:Int) then (if 0≤x5 then (if x5<(x1.length:Int) then ((jHb.f ((jd x0 x5).f0) ((jd x0 x5).f1) ((jd x0 x5).f2) ((jd x0 x5).f3) ((jd x0 x5).f4) ((jd x1 x5).f0) ((jd x1 x5).f1) ((jd x1 x5).f2) ((jd x1 x5).f3) ((jd x1 x5).f4)).bind fun t380=>(if t380=true then (jW.l0 k x0 x1 (wrap64 (x5+1))) else (some false))) else (none)) else (none)) else (some true)
def jW.f (k : Nat) (l0 : List (S54)) (l1 : List (S54)) : Option (Bool) := if (l0.length : Int) = (l1.length : Int) then (jW.l0 k l0 l1 0) else (some false)
def jW.T6 : Bool × List (List Nat × List Nat) := (true, [([], []), ([], []), ([0, 1], [0, 1]), ([2], [2]), ([], []), ([], []), ([4, 5], [4, 5]), ([6], [6]), ([3, 7], [3, 7]), ([8], [8])])
def jW.B6 : List Nat := [0, 0, 3, 7, 0, 0, 48, 112, 255, 511]
theorem jW.tab6 : rtab .any (opsOf Try.f47 6) = jW.T6 := by kernel_rfl
theorem jW.bits6 : jWb jW.T6.2 jW.B6 = true := by kernel_rfl
set_option maxHeartbeats 8000000 in
set_option maxRecDepth 100000 in
theorem jW.calls (k : Nat) (A0 : Option Addr) (c0 : Nat) (l0 : List (S54)) (A1 : Option Addr) (c1 : Nat) (l1 : List (S54)) (r : Bool) (w : World) (hr0 : Kd.C k54 w A0 l0.length l0) (hc0 : l0.length ≤ c0) (hr1 : Kd.C k54 w A1 l1.length l1) (hc1 : l1.length ≤ c1) (h : jW.f k l0 l1 = some r) :
  Calls Try.prog 47 #[.slice A0 l0.length c0, .slice A1 l1.length c1] w fun e w'=>e=.returned (.bool r)∧Below w.heap.size w w':=by
 have hu54:=Try.underlying54
 have HR0:=am hr0
 have HC0:=am hc0
 clear hr0 hc0
 have HR1:=am hr1
 have HC1:=am hc1
 clear hr1 hc1
 have HB:=am (Below.refl w.heap.size w)
 have H:(if (l0.length:Int)=(l1.length:Int) then (jW.l0 k l0 l1 0) else (some false))=some r:=h
 clear h
 by_cases c3:(l0.length:Int)=(l1.length:Int)
 ·rw [if_pos c3] at H
  have c3b0:((l0.length:Int) == (l1.length:Int))=true:=beq_iff_eq.mpr c3
  have c3b1:((l0.length:Int) != (l1.length:Int))=false:=bne_eq_false_iff_eq.mpr c3
  have c3b2:(l0.length == l1.length)=true:=by first | simpa using c3 |(simp at c3 ⊢;omega)
  clear c3
  have H':=am H
  clear H
  go_enter Try.func47,Try.ntmps47
  go_wp2
  go_loopg [5] k (fun kq v5 w'=>∃ (x5_1:Int),v5=.int .i64 x5_1∧jw (jW.l0 kq l0 l1 x5_1=some r)∧jw (kq≤k)∧jw (Below w.heap.size w w'))
  case atStart=>exact ⟨(0),(sq),H',⟨Nat.le_refl _⟩,⟨bq⟩⟩
  case round =>
   clear H'
   try clear c1
   try clear p2
   try clear c3
   try clear c3b0
   try clear c3b1
   try clear c3b2
   obtain ⟨x5_1,rfl,HA,HK1,HB⟩:=hrel
   cases gk with
   | zero=>exact absurd HA.out (by simp [jW.l0])
   | succ k1 =>
    have H:=HA.out
    clear HA
    simp only [jW.l0] at H
    by_cases c4:x5_1<(l0.length:Int)
    ·rw [if_pos c4] at H
     have c4b0:decide (x5_1<(l0.length:Int))=true:=dzT c4
     clear c4
     by_cases c5:0≤x5_1
     ·rw [if_pos c5] at H
      have c5b0:decide (0≤x5_1)=true:=dzT c5
      clear c5
      by_cases c6:x5_1<(l1.length:Int)
      ·rw [if_pos c6] at H
       have c6b0:decide (x5_1<(l1.length:Int))=true:=dzT c6
       clear c6
       replace H:=bzS H
       obtain ⟨t380,A70,H⟩:=H
       replace H:(if t380=true then (jW.l0 k1 l0 l1 (wrap64 (x5_1+1))) else (some false))=some r:=H
       have A7:=am A70
       clear A70
       by_cases c8:t380=true
       ·subst c8
        have H1:(jW.l0 k1 l0 l1 (wrap64 (x5_1+1)))=some r:=by rw [if_pos rfl] at H;exact H
        clear H
        have H:=H1
        clear H1
        have H':=am H
        clear H
        try go_wp2
        replace HB:=am (jm HB.out)
        have p378:0≤(x5_1:Int):=ozD (uq)
        have q378:x5_1<(l0.length:Int):=ozD (uq)
        obtain ⟨ad378,e378,hx378_0,hx378_1,hx378_2,hx378_3,hx378_4⟩:=jOa HR0.out x5_1 p378 q378
        have hw378_4:=hx378_4
        have hw378_3:=hx378_3
        have hw378_2:=hx378_2
        have hw378_1:=hx378_1
        have hw378_0:=hx378_0
        cases e378
        replace hx378_0:=cb HB.out hx378_0
        replace hx378_1:=cb HB.out hx378_1
        replace hx378_2:=cb HB.out hx378_2
        replace hx378_3:=cb HB.out hx378_3
        replace hx378_4:=cb HB.out hx378_4
        replace p378:=ezT p378
        replace q378:=ezT q378
        have p379:0≤(x5_1:Int):=ozD (uq)
        have q379:x5_1<(l1.length:Int):=ozD (uq)
        obtain ⟨ad379,e379,hx379_0,hx379_1,hx379_2,hx379_3,hx379_4⟩:=jOa HR1.out x5_1 p379 q379
        have hw379_4:=hx379_4
        have hw379_3:=hx379_3
        have hw379_2:=hx379_2
        have hw379_1:=hx379_1
        have hw379_0:=hx379_0
        cases e379
        replace hx379_0:=cb HB.out hx379_0
        replace hx379_1:=cb HB.out hx379_1
        replace hx379_2:=cb HB.out hx379_2
        replace hx379_3:=cb HB.out hx379_3
        replace hx379_4:=cb HB.out hx379_4
        replace p379:=ezT p379
        replace q379:=ezT q379
        refine jdc (n:=10) (S:=fun w'=>w'.cell? (ad378.add ((x5_1).toNat * 5))=some (.int .i64 ((jd l0 x5_1).f0))∧w'.cell? ⟨(ad378.add ((x5_1).toNat * 5)).block,(ad378.add ((x5_1).toNat * 5)).off+1,none⟩=some (.int .i64 ((jd l0 x5_1).f1))∧w'.cell? ⟨(ad378.add ((x5_1).toNat * 5)).block,(ad378.add ((x5_1).toNat * 5)).off+2,none⟩=some (.int .i64 ((jd l0 x5_1).f2))∧w'.cell? ⟨(ad378.add ((x5_1).toNat * 5)).block,(ad378.add ((x5_1).toNat * 5)).off+3,none⟩=some (.int .i64 ((jd l0 x5_1).f3))∧w'.cell? ⟨(ad378.add ((x5_1).toNat * 5)).block,(ad378.add ((x5_1).toNat * 5)).off+4,none⟩=some (.bool ((jd l0 x5_1).f4))∧w'.cell? (ad379.add ((x5_1).toNat * 5))=some (.int .i64 ((jd l1 x5_1).f0))∧w'.cell? ⟨(ad379.add ((x5_1).toNat * 5)).block,(ad379.add ((x5_1).toNat * 5)).off+1,none⟩=some (.int .i64 ((jd l1 x5_1).f1))∧w'.cell? ⟨(ad379.add ((x5_1).toNat * 5)).block,(ad379.add ((x5_1).toNat * 5)).off+2,none⟩=some (.int .i64 ((jd l1 x5_1).f2))∧w'.cell? ⟨(ad379.add ((x5_1).toNat * 5)).block,(ad379.add ((x5_1).toNat * 5)).off+3,none⟩=some (.int .i64 ((jd l1 x5_1).f3))∧w'.cell? ⟨(ad379.add ((x5_1).toNat * 5)).block,(ad379.add ((x5_1).toNat * 5)).off+4,none⟩=some (.bool ((jd l1 x5_1).f4))) (ds:=[]) #[false,false,false,false,false,false,false,false,false,false] (by kernel_rfl) rfl rfl ⟨((HB.out.cell (World.block_lt_of_cell? w _ hw378_0)).trans hw378_0),((HB.out.cell (World.block_lt_of_cell? w _ hw378_1)).trans hw378_1),((HB.out.cell (World.block_lt_of_cell? w _ hw378_2)).trans hw378_2),((HB.out.cell (World.block_lt_of_cell? w _ hw378_3)).trans hw378_3),((HB.out.cell (World.block_lt_of_cell? w _ hw378_4)).trans hw378_4),((HB.out.cell (World.block_lt_of_cell? w _ hw379_0)).trans hw379_0),((HB.out.cell (World.block_lt_of_cell? w _ hw379_1)).trans hw379_1),((HB.out.cell (World.block_lt_of_cell? w _ hw379_2)).trans hw379_2),((HB.out.cell (World.block_lt_of_cell? w _ hw379_3)).trans hw379_3),((HB.out.cell (World.block_lt_of_cell? w _ hw379_4)).trans hw379_4)⟩ (fun hHeld=>?_);refine jBb jW.tab6 jW.bits6 (fun HT_ HW_=>?_)
        generalize wr.drew=w9 at HB hx378_0 hx378_1 hx378_2 hx378_3 hx378_4 hx379_0 hx379_1 hx379_2 hx379_3 hx379_4 hHeld ⊢
        refine pq (i:=0) (N:=some 17) #[true,false,false,false,false,false,false,false,false,false] ?_
        refine pq (i:=1) (N:=some 18) #[true,true,false,false,false,false,false,false,false,false] ?_
        refine pq (i:=2) (N:=some 19) #[true,true,true,false,false,false,false,false,false,false] ?_
        refine pq (i:=4) (N:=some 21) #[true,true,true,false,true,false,false,false,false,false] ?_
        refine pq (i:=5) (N:=some 22) #[true,true,true,false,true,true,false,false,false,false] ?_
        refine pq (i:=6) (N:=some 23) #[true,true,true,false,true,true,true,false,false,false] ?_
        refine jCb (i:=3) (N:=some 20) (v:=?_) (a':=?_) #[true,true,true,true,true,true,true,false,false,false] rfl rfl (jTa HT_.out HW_.out (by kernel_rfl)) (fun _ _ _ h=>h) (Or.inl ⟨by rfl,?_⟩) hHeld ?_ ?_
        rotate_left
        ·rintro w' ⟨s0,s1,s2,s3,s4,s5,s6,s7,s8,s9⟩
         go_simp
         with_reducible rfl
        rotate_left
        ·exact sa
        refine jCb (i:=7) (N:=some 24) (v:=?_) (a':=?_) #[true,true,true,true,true,true,true,true,false,false] rfl rfl (jTa HT_.out HW_.out (by kernel_rfl)) (fun _ _ _ h=>h) (Or.inl ⟨by rfl,?_⟩) hHeld ?_ ?_
        rotate_left
        ·rintro w' ⟨s0,s1,s2,s3,s4,s5,s6,s7,s8,s9⟩
         go_simp
         with_reducible rfl
        rotate_left
        ·exact sa
        refine one_ (i:=8) (N:=some 25) #[true,true,true,true,true,true,true,true,true,false] rfl rfl (jlb HT_.out (by kernel_rfl)) (by decide) (fun K hK=>?_)
        refine jDb Try.func77 (by kernel_rfl) rfl #[.agg #[.int .i64 ((jd l0 x5_1).f0), .int .i64 ((jd l0 x5_1).f1), .int .i64 ((jd l0 x5_1).f2), .int .i64 ((jd l0 x5_1).f3), .bool ((jd l0 x5_1).f4)], .agg #[.int .i64 ((jd l1 x5_1).f0), .int .i64 ((jd l1 x5_1).f1), .int .i64 ((jd l1 x5_1).f2), .int .i64 ((jd l1 x5_1).f3), .bool ((jd l1 x5_1).f4)]] (by rfl) rfl rfl (aq) ?_
        with_reducible refine (jHb.calls ((jd l0 x5_1).f0) ((jd l0 x5_1).f1) ((jd l0 x5_1).f2) ((jd l0 x5_1).f3) ((jd l0 x5_1).f4) ((jd l1 x5_1).f0) ((jd l1 x5_1).f1) ((jd l1 x5_1).f2) ((jd l1 x5_1).f3) ((jd l1 x5_1).f4) true _ A7.out).mono ?_
        rintro e w10 ⟨rfl,hb⟩
        refine ⟨_,rfl,?_⟩
        replace HB:=am (je (bq) hb)
        (try clear hb)
        (try clear hb2)
        (try clear hk)
        (try clear hi)
        refine hK.out _ _ ⟨((HB.out.cell (World.block_lt_of_cell? w _ hw378_0)).trans hw378_0),((HB.out.cell (World.block_lt_of_cell? w _ hw378_1)).trans hw378_1),((HB.out.cell (World.block_lt_of_cell? w _ hw378_2)).trans hw378_2),((HB.out.cell (World.block_lt_of_cell? w _ hw378_3)).trans hw378_3),((HB.out.cell (World.block_lt_of_cell? w _ hw378_4)).trans hw378_4),((HB.out.cell (World.block_lt_of_cell? w _ hw379_0)).trans hw379_0),((HB.out.cell (World.block_lt_of_cell? w _ hw379_1)).trans hw379_1),((HB.out.cell (World.block_lt_of_cell? w _ hw379_2)).trans hw379_2),((HB.out.cell (World.block_lt_of_cell? w _ hw379_3)).trans hw379_3),((HB.out.cell (World.block_lt_of_cell? w _ hw379_4)).trans hw379_4)⟩ (fun hHeld=>?_)
        clear hK K
        refine jYa (a':=?_) ?_ ?_
        rotate_left
        ·show Act.put _ (some 25) _=_
         simp only [Act.put,List.setIfInBounds_toArray,List.set_cons_zero,List.set_cons_succ,jZa,jdb]
         rfl
        refine pq (i:=9) (N:=some 26) #[true,true,true,true,true,true,true,true,true,true] ?_
        refine done_ (jic HT_.out (by kernel_rfl)) ?_
        try go_wp2
        go_roundg k1
        case measure=>have:=HK1.out;omega
        case rel=>exact ⟨(wrap64 (x5_1+1)),(sq),H',⟨by have:=HK1.out;omega⟩,⟨bq⟩⟩
       ·replace c8:=Bool.eq_false_iff.mpr c8
        subst c8
        have H1:(some false)=some r:=by rw [if_neg (show ¬ (false=true) by decide)] at H;exact H
        clear H
        have H:=H1
        clear H1
        obtain rfl:=Option.some.inj H
        try go_wp2
        replace HB:=am (jm HB.out)
        have p378:0≤(x5_1:Int):=ozD (uq)
        have q378:x5_1<(l0.length:Int):=ozD (uq)
        obtain ⟨ad378,e378,hx378_0,hx378_1,hx378_2,hx378_3,hx378_4⟩:=jOa HR0.out x5_1 p378 q378
        have hw378_4:=hx378_4
        have hw378_3:=hx378_3
        have hw378_2:=hx378_2
        have hw378_1:=hx378_1
        have hw378_0:=hx378_0
        cases e378
        replace hx378_0:=cb HB.out hx378_0
        replace hx378_1:=cb HB.out hx378_1
        replace hx378_2:=cb HB.out hx378_2
        replace hx378_3:=cb HB.out hx378_3
        replace hx378_4:=cb HB.out hx378_4
        replace p378:=ezT p378
        replace q378:=ezT q378
        have p379:0≤(x5_1:Int):=ozD (uq)
        have q379:x5_1<(l1.length:Int):=ozD (uq)
        obtain ⟨ad379,e379,hx379_0,hx379_1,hx379_2,hx379_3,hx379_4⟩:=jOa HR1.out x5_1 p379 q379
        have hw379_4:=hx379_4
        have hw379_3:=hx379_3
        have hw379_2:=hx379_2
        have hw379_1:=hx379_1
        have hw379_0:=hx379_0
        cases e379
        replace hx379_0:=cb HB.out hx379_0
        replace hx379_1:=cb HB.out hx379_1
        replace hx379_2:=cb HB.out hx379_2
        replace hx379_3:=cb HB.out hx379_3
        replace hx379_4:=cb HB.out hx379_4
        replace p379:=ezT p379
        replace q379:=ezT q379
        refine jdc (n:=10) (S:=fun w'=>w'.cell? (ad378.add ((x5_1).toNat * 5))=some (.int .i64 ((jd l0 x5_1).f0))∧w'.cell? ⟨(ad378.add ((x5_1).toNat * 5)).block,(ad378.add ((x5_1).toNat * 5)).off+1,none⟩=some (.int .i64 ((jd l0 x5_1).f1))∧w'.cell? ⟨(ad378.add ((x5_1).toNat * 5)).block,(ad378.add ((x5_1).toNat * 5)).off+2,none⟩=some (.int .i64 ((jd l0 x5_1).f2))∧w'.cell? ⟨(ad378.add ((x5_1).toNat * 5)).block,(ad378.add ((x5_1).toNat * 5)).off+3,none⟩=some (.int .i64 ((jd l0 x5_1).f3))∧w'.cell? ⟨(ad378.add ((x5_1).toNat * 5)).block,(ad378.add ((x5_1).toNat * 5)).off+4,none⟩=some (.bool ((jd l0 x5_1).f4))∧w'.cell? (ad379.add ((x5_1).toNat * 5))=some (.int .i64 ((jd l1 x5_1).f0))∧w'.cell? ⟨(ad379.add ((x5_1).toNat * 5)).block,(ad379.add ((x5_1).toNat * 5)).off+1,none⟩=some (.int .i64 ((jd l1 x5_1).f1))∧w'.cell? ⟨(ad379.add ((x5_1).toNat * 5)).block,(ad379.add ((x5_1).toNat * 5)).off+2,none⟩=some (.int .i64 ((jd l1 x5_1).f2))∧w'.cell? ⟨(ad379.add ((x5_1).toNat * 5)).block,(ad379.add ((x5_1).toNat * 5)).off+3,none⟩=some (.int .i64 ((jd l1 x5_1).f3))∧w'.cell? ⟨(ad379.add ((x5_1).toNat * 5)).block,(ad379.add ((x5_1).toNat * 5)).off+4,none⟩=some (.bool ((jd l1 x5_1).f4))) (ds:=[]) #[false,false,false,false,false,false,false,false,false,false] (by kernel_rfl) rfl rfl ⟨((HB.out.cell (World.block_lt_of_cell? w _ hw378_0)).trans hw378_0),((HB.out.cell (World.block_lt_of_cell? w _ hw378_1)).trans hw378_1),((HB.out.cell (World.block_lt_of_cell? w _ hw378_2)).trans hw378_2),((HB.out.cell (World.block_lt_of_cell? w _ hw378_3)).trans hw378_3),((HB.out.cell (World.block_lt_of_cell? w _ hw378_4)).trans hw378_4),((HB.out.cell (World.block_lt_of_cell? w _ hw379_0)).trans hw379_0),((HB.out.cell (World.block_lt_of_cell? w _ hw379_1)).trans hw379_1),((HB.out.cell (World.block_lt_of_cell? w _ hw379_2)).trans hw379_2),((HB.out.cell (World.block_lt_of_cell? w _ hw379_3)).trans hw379_3),((HB.out.cell (World.block_lt_of_cell? w _ hw379_4)).trans hw379_4)⟩ (fun hHeld=>?_);refine jBb jW.tab6 jW.bits6 (fun HT_ HW_=>?_)
        generalize wr.drew=w11 at HB hx378_0 hx378_1 hx378_2 hx378_3 hx378_4 hx379_0 hx379_1 hx379_2 hx379_3 hx379_4 hHeld ⊢
        refine pq (i:=0) (N:=some 17) #[true,false,false,false,false,false,false,false,false,false] ?_
        refine pq (i:=1) (N:=some 18) #[true,true,false,false,false,false,false,false,false,false] ?_
        refine pq (i:=2) (N:=some 19) #[true,true,true,false,false,false,false,false,false,false] ?_
        refine pq (i:=4) (N:=some 21) #[true,true,true,false,true,false,false,false,false,false] ?_
        refine pq (i:=5) (N:=some 22) #[true,true,true,false,true,true,false,false,false,false] ?_
        refine pq (i:=6) (N:=some 23) #[true,true,true,false,true,true,true,false,false,false] ?_
        refine jCb (i:=3) (N:=some 20) (v:=?_) (a':=?_) #[true,true,true,true,true,true,true,false,false,false] rfl rfl (jTa HT_.out HW_.out (by kernel_rfl)) (fun _ _ _ h=>h) (Or.inl ⟨by rfl,?_⟩) hHeld ?_ ?_
        rotate_left
        ·rintro w' ⟨s0,s1,s2,s3,s4,s5,s6,s7,s8,s9⟩
         go_simp
         with_reducible rfl
        rotate_left
        ·exact sa
        refine jCb (i:=7) (N:=some 24) (v:=?_) (a':=?_) #[true,true,true,true,true,true,true,true,false,false] rfl rfl (jTa HT_.out HW_.out (by kernel_rfl)) (fun _ _ _ h=>h) (Or.inl ⟨by rfl,?_⟩) hHeld ?_ ?_
        rotate_left
        ·rintro w' ⟨s0,s1,s2,s3,s4,s5,s6,s7,s8,s9⟩
         go_simp
         with_reducible rfl
        rotate_left
        ·exact sa
        refine one_ (i:=8) (N:=some 25) #[true,true,true,true,true,true,true,true,true,false] rfl rfl (jlb HT_.out (by kernel_rfl)) (by decide) (fun K hK=>?_)
        refine jDb Try.func77 (by kernel_rfl) rfl #[.agg #[.int .i64 ((jd l0 x5_1).f0), .int .i64 ((jd l0 x5_1).f1), .int .i64 ((jd l0 x5_1).f2), .int .i64 ((jd l0 x5_1).f3), .bool ((jd l0 x5_1).f4)], .agg #[.int .i64 ((jd l1 x5_1).f0), .int .i64 ((jd l1 x5_1).f1), .int .i64 ((jd l1 x5_1).f2), .int .i64 ((jd l1 x5_1).f3), .bool ((jd l1 x5_1).f4)]] (by rfl) rfl rfl (aq) ?_
        with_reducible refine (jHb.calls ((jd l0 x5_1).f0) ((jd l0 x5_1).f1) ((jd l0 x5_1).f2) ((jd l0 x5_1).f3) ((jd l0 x5_1).f4) ((jd l1 x5_1).f0) ((jd l1 x5_1).f1) ((jd l1 x5_1).f2) ((jd l1 x5_1).f3) ((jd l1 x5_1).f4) false _ A7.out).mono ?_
        rintro e w12 ⟨rfl,hb⟩
        refine ⟨_,rfl,?_⟩
        replace HB:=am (je (bq) hb)
        (try clear hb)
        (try clear hb2)
        (try clear hk)
        (try clear hi)
        refine hK.out _ _ ⟨((HB.out.cell (World.block_lt_of_cell? w _ hw378_0)).trans hw378_0),((HB.out.cell (World.block_lt_of_cell? w _ hw378_1)).trans hw378_1),((HB.out.cell (World.block_lt_of_cell? w _ hw378_2)).trans hw378_2),((HB.out.cell (World.block_lt_of_cell? w _ hw378_3)).trans hw378_3),((HB.out.cell (World.block_lt_of_cell? w _ hw378_4)).trans hw378_4),((HB.out.cell (World.block_lt_of_cell? w _ hw379_0)).trans hw379_0),((HB.out.cell (World.block_lt_of_cell? w _ hw379_1)).trans hw379_1),((HB.out.cell (World.block_lt_of_cell? w _ hw379_2)).trans hw379_2),((HB.out.cell (World.block_lt_of_cell? w _ hw379_3)).trans hw379_3),((HB.out.cell (World.block_lt_of_cell? w _ hw379_4)).trans hw379_4)⟩ (fun hHeld=>?_)
        clear hK K
        refine jYa (a':=?_) ?_ ?_
        rotate_left
        ·show Act.put _ (some 25) _=_
         simp only [Act.put,List.setIfInBounds_toArray,List.set_cons_zero,List.set_cons_succ,jZa,jdb]
         rfl
        refine pq (i:=9) (N:=some 26) #[true,true,true,true,true,true,true,true,true,true] ?_
        refine done_ (jic HT_.out (by kernel_rfl)) ?_
        try go_wp2
        go_ret
        exact ⟨Y1,bq⟩
      ·rw [if_neg c6] at H
       exact absurd H (by simp)
     ·rw [if_neg c5] at H
      exact absurd H (by simp)
    ·rw [if_neg c4] at H
     have c4b0:decide (x5_1<(l0.length:Int))=false:=dzF c4
     clear c4
     obtain rfl:=Option.some.inj H
     go_wp2
     go_ret
     exact ⟨Y1,bq⟩
 ·rw [if_neg c3] at H
  have c3b0:((l0.length:Int) == (l1.length:Int))=false:=beq_eq_false_iff_ne.mpr c3
  have c3b1:((l0.length:Int) != (l1.length:Int))=true:=bne_iff_ne.mpr c3
  have c3b2:(l0.length == l1.length)=false:=by first | simpa using c3 |(simp at c3 ⊢;omega)
  obtain rfl:=Option.some.inj H
  go_enter Try.func47,Try.ntmps47
  go_wp2
  go_ret
  exact ⟨Y1,bq⟩
def jT.f (k : Nat) (l0_0 : List (S54)) (l1_0 : List (S54)) : Option (Bool) := (jW.f k l0_0 l1_0).bind fun t383 => (if t383 = true then (some true) else (some false))
set_option maxHeartbeats 8000000 in
set_option maxRecDepth 100000 in
theorem jT.calls (k : Nat) (A0_0 : Option Addr) (c0_0 : Nat) (l0_0 : List (S54)) (A1_0 : Option Addr) (c1_0 : Nat) (l1_0 : List (S54)) (r : Bool) (w : World) (hr0_0 : Kd.C k54 w A0_0 l0_0.length l0_0) (hc0_0 : l0_0.length ≤ c0_0) (hr1_0 : Kd.C k54 w A1_0 l1_0.length l1_0) (hc1_0 : l1_0.length ≤ c1_0) (h : jT.f k l0_0 l1_0 = some r) :
  Calls Try.prog 15 #[.agg #[.slice A0_0 l0_0.length c0_0], .agg #[.slice A1_0 l1_0.length c1_0]] w fun e w'=>e=.returned (.bool r)∧Below w.heap.size w w':=by
 have hu32:=Try.underlying32
 have HR0_0:=am hr0_0
 have HC0_0:=am hc0_0
 clear hr0_0 hc0_0
 have HR1_0:=am hr1_0
 have HC1_0:=am hc1_0
 clear hr1_0 hc1_0
 have HB:=am (Below.refl w.heap.size w)
 have H:((jW.f k l0_0 l1_0).bind fun t383=>(if t383=true then (some true) else (some false)))=some r:=h
 clear h
 replace H:=bzS H
 obtain ⟨t383,A30,H⟩:=H
 replace H:(if t383=true then (some true) else (some false))=some r:=H
 have A3:=am A30
 clear A30
 by_cases c4:t383=true
 ·subst c4
  have H1:(some true)=some r:=by rw [if_pos rfl] at H;exact H
  clear H
  have H:=H1
  clear H1
  obtain rfl:=Option.some.inj H
  go_enter Try.func15,Try.ntmps15
  go_wp2_with (first |((with_reducible refine jD (N:=2) rfl ?_);refine bE (N:=2) (cs:=#[.slice A0_0 l0_0.length c0_0]) (t:=32) ?_;intro gb381 hg w5 hbox hb;have BK381:=am (hbox);have GW381:=am ((Y0:w.heap.size≤gb381));have GE381:=am ((Y0:w.heap.size≤gb381));replace HB:=am (je (bq) hb);clear hb hbox hg) |((with_reducible refine jD (N:=3) rfl ?_);refine bE (N:=3) (cs:=#[.slice A1_0 l1_0.length c1_0]) (t:=32) ?_;intro gb382 hg w6 hbox hb;have BK382:=am (hbox);have GW382:=am ((Y67:w.heap.size≤gb382));have GE382:=am ((Y67:w.heap.size≤gb382));have NB381_382:=am ((by rw [hg];exact Nat.ne_of_lt (jP (g:=gb381) (o:=.cells #[.slice A0_0 l0_0.length c0_0] 32 (0,0)) (kq BK381.out)):gb381≠gb382));have NB382_381:=am ((by rw [hg];exact Nat.ne_of_gt (jP (g:=gb381) (o:=.cells #[.slice A0_0 l0_0.length c0_0] 32 (0,0)) (kq BK381.out)):gb382≠gb381));replace BK381:=am (ja (g:=gb381) (o:=.cells #[.slice A0_0 l0_0.length c0_0] 32 (0,0)) (kq BK381.out) hb);replace HB:=am (je (Y142) hb);clear hb hbox hg;have hnb7:=NB381_382.out;have hnc7:=NB382_381.out;have hcz8_0:=bc0 BK381.out;have hfz8_0:=jb BK381.out 0;have hcz9_0:=bc0 BK382.out;have hfz9_0:=jb BK382.out 0) |((with_reducible refine jE (f:=47) rfl ?_);refine gL (some 9) Try.func47 #[.slice A0_0 l0_0.length c0_0, .slice A1_0 l1_0.length c1_0] ?_;(with_reducible refine (jW.calls k _ _ l0_0 _ _ l1_0 true _ ?side1 ?side2 ?side3 ?side4 A3.out).mono ?_);(case side1=>exact cq (Kd.jK HR0_0.out HB.out));(case side2=>exact HC0_0.out);(case side3=>exact cq (Kd.jK HR1_0.out HB.out));(case side4=>exact HC1_0.out);rintro e w10 ⟨rfl,hb⟩;refine ⟨_,rfl,?_⟩;replace BK381:=am (ja (g:=gb381) (o:=.cells #[.slice A0_0 l0_0.length c0_0] 32 (0,0)) (kq BK381.out) hb);replace BK382:=am (ja (g:=gb382) (o:=.cells #[.slice A1_0 l1_0.length c1_0] 32 (0,0)) (kq BK382.out) hb);replace HB:=am (je (Y68) hb);(try clear hb);(try clear hb2);(try clear hk);(try clear hi)))
  go_ret
  exact ⟨Y1,Y68⟩
 ·replace c4:=Bool.eq_false_iff.mpr c4
  subst c4
  have H1:(some false)=some r:=by rw [if_neg (show ¬ (false=true) by decide)] at H;exact H
  clear H
  have H:=H1
  clear H1
  obtain rfl:=Option.some.inj H
  go_enter Try.func15,Try.ntmps15
  go_wp2_with (first |((with_reducible refine jD (N:=2) rfl ?_);refine bE (N:=2) (cs:=#[.slice A0_0 l0_0.length c0_0]) (t:=32) ?_;intro gb381 hg w11 hbox hb;have BK381:=am (hbox);have GW381:=am ((Y0:w.heap.size≤gb381));have GE381:=am ((Y0:w.heap.size≤gb381));replace HB:=am (je (bq) hb);clear hb hbox hg) |((with_reducible refine jD (N:=3) rfl ?_);refine bE (N:=3) (cs:=#[.slice A1_0 l1_0.length c1_0]) (t:=32) ?_;intro gb382 hg w12 hbox hb;have BK382:=am (hbox);have GW382:=am ((Y67:w.heap.size≤gb382));have GE382:=am ((Y67:w.heap.size≤gb382));have NB381_382:=am ((by rw [hg];exact Nat.ne_of_lt (jP (g:=gb381) (o:=.cells #[.slice A0_0 l0_0.length c0_0] 32 (0,0)) (kq BK381.out)):gb381≠gb382));have NB382_381:=am ((by rw [hg];exact Nat.ne_of_gt (jP (g:=gb381) (o:=.cells #[.slice A0_0 l0_0.length c0_0] 32 (0,0)) (kq BK381.out)):gb382≠gb381));replace BK381:=am (ja (g:=gb381) (o:=.cells #[.slice A0_0 l0_0.length c0_0] 32 (0,0)) (kq BK381.out) hb);replace HB:=am (je (Y142) hb);clear hb hbox hg;have hnb13:=NB381_382.out;have hnc13:=NB382_381.out;have hcz14_0:=bc0 BK381.out;have hfz14_0:=jb BK381.out 0;have hcz15_0:=bc0 BK382.out;have hfz15_0:=jb BK382.out 0) |((with_reducible refine jE (f:=47) rfl ?_);refine gL (some 9) Try.func47 #[.slice A0_0 l0_0.length c0_0, .slice A1_0 l1_0.length c1_0] ?_;(with_reducible refine (jW.calls k _ _ l0_0 _ _ l1_0 false _ ?side1 ?side2 ?side3 ?side4 A3.out).mono ?_);(case side1=>exact cq (Kd.jK HR0_0.out HB.out));(case side2=>exact HC0_0.out);(case side3=>exact cq (Kd.jK HR1_0.out HB.out));(case side4=>exact HC1_0.out);rintro e w16 ⟨rfl,hb⟩;refine ⟨_,rfl,?_⟩;replace BK381:=am (ja (g:=gb381) (o:=.cells #[.slice A0_0 l0_0.length c0_0] 32 (0,0)) (kq BK381.out) hb);replace BK382:=am (ja (g:=gb382) (o:=.cells #[.slice A1_0 l1_0.length c1_0] 32 (0,0)) (kq BK382.out) hb);replace HB:=am (je (Y68) hb);(try clear hb);(try clear hb2);(try clear hk);(try clear hi)))
  go_ret
  exact ⟨Y1,Y68⟩
def jIb.f (a0_0 : ByteArray) (a0_1 : Int) (a1_0 : ByteArray) (a1_1 : Int) : Option (Bool) := if a0_0.toList = a1_0.toList then (if a0_1 = a1_1 then (some true) else (some false)) else (some false)
set_option maxHeartbeats 8000000 in
set_option maxRecDepth 100000 in
theorem jIb.calls (a0_0 : ByteArray) (a0_1 : Int) (a1_0 : ByteArray) (a1_1 : Int) (r : Bool) (w : World) (h : jIb.f a0_0 a0_1 a1_0 a1_1 = some r) :
  Calls Try.prog 78 #[.agg #[.string a0_0, .int .i64 a0_1], .agg #[.string a1_0, .int .i64 a1_1]] w fun e w'=>e=.returned (.bool r)∧Below w.heap.size w w':=by
 have hu94:=Try.underlying94
 have HB:=am (Below.refl w.heap.size w)
 have H:(if a0_0.toList=a1_0.toList then (if a0_1=a1_1 then (some true) else (some false)) else (some false))=some r:=h
 clear h
 by_cases c3:a0_0.toList=a1_0.toList
 ·rw [if_pos c3] at H
  have c3b0:(a0_0.toList == a1_0.toList)=true:=beq_iff_eq.mpr c3
  have c3b1:(a0_0.toList != a1_0.toList)=false:=bne_eq_false_iff_eq.mpr c3
  clear c3
  by_cases c4:a0_1=a1_1
  ·rw [if_pos c4] at H
   have c4b0:(a0_1 == a1_1)=true:=beq_iff_eq.mpr c4
   have c4b1:(a0_1 != a1_1)=false:=bne_eq_false_iff_eq.mpr c4
   clear c4
   obtain rfl:=Option.some.inj H
   go_enter Try.func78,Try.ntmps78
   go_wp2_with (first |((with_reducible refine jD (N:=2) rfl ?_);refine bE (N:=2) (cs:=#[.string a0_0, .int .i64 a0_1]) (t:=94) ?_;intro gb384 hg w5 hbox hb;have BK384:=am (hbox);have GW384:=am ((Y0:w.heap.size≤gb384));have GE384:=am ((Y0:w.heap.size≤gb384));replace HB:=am (je (bq) hb);clear hb hbox hg) |((with_reducible refine jD (N:=3) rfl ?_);refine bE (N:=3) (cs:=#[.string a1_0, .int .i64 a1_1]) (t:=94) ?_;intro gb385 hg w6 hbox hb;have BK385:=am (hbox);have GW385:=am ((Y42:w.heap.size≤gb385));have GE385:=am ((Y42:w.heap.size≤gb385));have NB384_385:=am ((Y104:gb384≠gb385));have NB385_384:=am ((Y105:gb385≠gb384));replace BK384:=am (ja (g:=gb384) (o:=.cells #[.string a0_0, .int .i64 a0_1] 94 (0,0)) (kq BK384.out) hb);replace HB:=am (je (Y106) hb);clear hb hbox hg;have hnb7:=NB384_385.out;have hnc7:=NB385_384.out;have hcz8_0:=bc0 BK384.out;have hcz8_1:=bc1 BK384.out;have hfz8_0:=jb BK384.out 0;have hfz8_1:=jb BK384.out 1;have hcz9_0:=bc0 BK385.out;have hcz9_1:=bc1 BK385.out;have hfz9_0:=jb BK385.out 0;have hfz9_1:=jb BK385.out 1))
   go_ret
   exact ⟨Y1,Y107⟩
  ·rw [if_neg c4] at H
   have c4b0:(a0_1 == a1_1)=false:=beq_eq_false_iff_ne.mpr c4
   have c4b1:(a0_1 != a1_1)=true:=bne_iff_ne.mpr c4
   obtain rfl:=Option.some.inj H
   go_enter Try.func78,Try.ntmps78
   go_wp2_with (first |((with_reducible refine jD (N:=2) rfl ?_);refine bE (N:=2) (cs:=#[.string a0_0, .int .i64 a0_1]) (t:=94) ?_;intro gb384 hg w10 hbox hb;have BK384:=am (hbox);have GW384:=am ((Y0:w.heap.size≤gb384));have GE384:=am ((Y0:w.heap.size≤gb384));replace HB:=am (je (bq) hb);clear hb hbox hg) |((with_reducible refine jD (N:=3) rfl ?_);refine bE (N:=3) (cs:=#[.string a1_0, .int .i64 a1_1]) (t:=94) ?_;intro gb385 hg w11 hbox hb;have BK385:=am (hbox);have GW385:=am ((Y42:w.heap.size≤gb385));have GE385:=am ((Y42:w.heap.size≤gb385));have NB384_385:=am ((Y104:gb384≠gb385));have NB385_384:=am ((Y105:gb385≠gb384));replace BK384:=am (ja (g:=gb384) (o:=.cells #[.string a0_0, .int .i64 a0_1] 94 (0,0)) (kq BK384.out) hb);replace HB:=am (je (Y106) hb);clear hb hbox hg;have hnb12:=NB384_385.out;have hnc12:=NB385_384.out;have hcz13_0:=bc0 BK384.out;have hcz13_1:=bc1 BK384.out;have hfz13_0:=jb BK384.out 0;have hfz13_1:=jb BK384.out 1;have hcz14_0:=bc0 BK385.out;have hcz14_1:=bc1 BK385.out;have hfz14_0:=jb BK385.out 0;have hfz14_1:=jb BK385.out 1))
   go_ret
   exact ⟨Y1,Y107⟩
 ·rw [if_neg c3] at H
  have c3b0:(a0_0.toList == a1_0.toList)=false:=beq_eq_false_iff_ne.mpr c3
  have c3b1:(a0_0.toList != a1_0.toList)=true:=bne_iff_ne.mpr c3
  obtain rfl:=Option.some.inj H
  go_enter Try.func78,Try.ntmps78
  go_wp2_with (first |((with_reducible refine jD (N:=2) rfl ?_);refine bE (N:=2) (cs:=#[.string a0_0, .int .i64 a0_1]) (t:=94) ?_;intro gb384 hg w15 hbox hb;have BK384:=am (hbox);have GW384:=am ((Y0:w.heap.size≤gb384));have GE384:=am ((Y0:w.heap.size≤gb384));replace HB:=am (je (bq) hb);clear hb hbox hg) |((with_reducible refine jD (N:=3) rfl ?_);refine bE (N:=3) (cs:=#[.string a1_0, .int .i64 a1_1]) (t:=94) ?_;intro gb385 hg w16 hbox hb;have BK385:=am (hbox);have GW385:=am ((Y42:w.heap.size≤gb385));have GE385:=am ((Y42:w.heap.size≤gb385));have NB384_385:=am ((Y104:gb384≠gb385));have NB385_384:=am ((Y105:gb385≠gb384));replace BK384:=am (ja (g:=gb384) (o:=.cells #[.string a0_0, .int .i64 a0_1] 94 (0,0)) (kq BK384.out) hb);replace HB:=am (je (Y106) hb);clear hb hbox hg;have hnb17:=NB384_385.out;have hnc17:=NB385_384.out;have hcz18_0:=bc0 BK384.out;have hcz18_1:=bc1 BK384.out;have hfz18_0:=jb BK384.out 0;have hfz18_1:=jb BK384.out 1;have hcz19_0:=bc0 BK385.out;have hcz19_1:=bc1 BK385.out;have hfz19_0:=jb BK385.out 0;have hfz19_1:=jb BK385.out 1))
  go_ret
  exact ⟨Y1,Y107⟩
end Go.Proofs.Ytecdfgejmbpclaa.P
end
