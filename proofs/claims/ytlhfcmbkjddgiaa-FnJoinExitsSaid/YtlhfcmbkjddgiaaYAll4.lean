/- One part of the proofs on this program: functions of the program as plain functions, that the code comes to them, and facts on them. -/
import Derived.Test.YtlhfcmbkjddgiaaYAll1
import Derived.Test.YtlhfcmbkjddgiaaYAll2
import Derived.Test.YtlhfcmbkjddgiaaYAll3
import Derived.Test.YtlhfcmbkjddgiaaYWAuto
section
namespace Go.Proofs.Ytlhfcmbkjddgiaa.P
open Go.RowKit Go.Proofs.YtlhfcmbkjddgiaaW.PrintWords Go.Proofs.YtlhfcmbkjddgiaaW.PrintLast Go.Proofs.YtlhfcmbkjddgiaaW.PrintMore
attribute [local go_sem] jha jfa jqa jpa jW jV jga jea jl
set_option linter.unusedVariables false
set_option linter.unusedSimpArgs false
theorem mfarA {W : World} {g B : Nat} {o : Obj} (h : W.heap[g]? = some o) (hne : g ≠ B) (j : Nat) (u : Value) : (W.setCell ⟨B, j, none⟩ u).heap[g]? = some o := (Below.heap_setCell W ⟨B, j, none⟩ u g hne).trans h
set_option maxHeartbeats 8000000 in
set_option maxRecDepth 100000 in
theorem mm_clip (A : Option Addr) (n c : Nat) (hc : n ≤ c) (w : World) :
  Calls Try.prog 111 #[.slice A n c] w fun e w'=>e=.returned (.slice A n n)∧w'=w:=by
 obtain ⟨i03,hi03,_,hsz3,_⟩:=info_parts info3
 have hcut3:=cut_clip (P:=Try.prog) 45 3 Try.underlying45 hi03 A _ c _ hc (rfl:n=n)
 clear hi03 hsz3
 go_enter Try.func111,Try.ntmps111
 go_wp2
 go_ret
 exact ⟨rfl,rfl⟩
set_option maxHeartbeats 8000000 in
set_option maxRecDepth 100000 in
theorem mres0 (m : Nat) (tr cp vh fs : Value) (Al : Option Addr) (n cl : Nat) (hcl : n ≤ cl) (w : World) (hm : w.heap[m]? = some (.cells #[tr, cp, .slice Al n cl, vh, fs] 110 (0, 0))) :
  Calls Try.prog 86 #[.pointer (some ⟨m,0,none⟩), .agg #[.int .i64 0, .int .i64 0]] w fun e w'=>e=.returned (.agg #[.slice Al n n, .int .i64 0, .int .i64 0, .slice none 0 0])∧Below w.heap.size w w':=by
 have hmx:Try.prog.follows .mixedOrders=true:=by kernel_rfl
 have hu110:=Try.underlying110
 have hu55:=Try.underlying55
 have hu129:=Try.underlying129
 have hmw:m<w.heap.size:=jta hm
 have E0:=heap_alloc_new w (.cells #[.int .i64 0, .int .i64 0] 129)
 have hb0:Below w.heap.size w ((w.alloc (.cells #[.int .i64 0, .int .i64 0] 129)).alloc (.cells #[.slice none 0 0, .int .i64 0, .int .i64 0, .slice none 0 0] 55)):=((Below.refl w.heap.size w).alloc (Nat.le_refl _) _).alloc (by simp) _
 have hb1:Below w.heap.size w ((World.drew ((w.alloc (.cells #[.int .i64 0, .int .i64 0] 129)).alloc (.cells #[.slice none 0 0, .int .i64 0, .int .i64 0, .slice none 0 0] 55))).alloc (.cells #[.slice none 0 0, .int .i64 0, .int .i64 0, .slice none 0 0] 55)):=(hb0.drew).alloc (by simp;omega) _
 have m0:w.cell? ⟨m,2,none⟩=some (.slice Al n cl):=(jh hm 2).trans rfl
 have C0:jv ((fun W':World=>W'.cell? ⟨m,2,none⟩=some (.slice Al n cl)∧W'.cell? ⟨w.heap.size,0,none⟩=some (.int .i64 0)∧W'.cell? ⟨w.heap.size,1,none⟩=some (.int .i64 0)) (World.drew ((w.alloc (.cells #[.int .i64 0, .int .i64 0] 129)).alloc (.cells #[.slice none 0 0, .int .i64 0, .int .i64 0, .slice none 0 0] 55)))):=.mk ⟨jia hb0.drew m0,(jh (ja E0 _) 0).trans rfl,(jh (ja E0 _) 1).trans rfl⟩
 have E1:((World.drew ((w.alloc (.cells #[.int .i64 0, .int .i64 0] 129)).alloc (.cells #[.slice none 0 0, .int .i64 0, .int .i64 0, .slice none 0 0] 55))).alloc (.cells #[.slice none 0 0, .int .i64 0, .int .i64 0, .slice none 0 0] 55)).heap[w.heap.size]?=some (.cells #[.int .i64 0, .int .i64 0] 129 (0,0)):=ja (ja E0 _) _
 have E2:((World.drew ((w.alloc (.cells #[.int .i64 0, .int .i64 0] 129)).alloc (.cells #[.slice none 0 0, .int .i64 0, .int .i64 0, .slice none 0 0] 55))).alloc (.cells #[.slice none 0 0, .int .i64 0, .int .i64 0, .slice none 0 0] 55)).heap[w.heap.size+1+1]?=some (.cells #[.slice none 0 0, .int .i64 0, .int .i64 0, .slice none 0 0] 55 (0,0)):=by have h:=heap_alloc_new (World.drew ((w.alloc (.cells #[.int .i64 0, .int .i64 0] 129)).alloc (.cells #[.slice none 0 0, .int .i64 0, .int .i64 0, .slice none 0 0] 55))) (.cells #[.slice none 0 0, .int .i64 0, .int .i64 0, .slice none 0 0] 55);simpa only [World.size_alloc,World.size_drew] using h
 have C1:jv ((fun W':World=>W'.cell? ⟨m,2,none⟩=some (.slice Al n cl)∧W'.cell? ⟨w.heap.size,0,none⟩=some (.int .i64 0)∧W'.cell? ⟨w.heap.size,1,none⟩=some (.int .i64 0)) ((World.drew ((w.alloc (.cells #[.int .i64 0, .int .i64 0] 129)).alloc (.cells #[.slice none 0 0, .int .i64 0, .int .i64 0, .slice none 0 0] 55))).alloc (.cells #[.slice none 0 0, .int .i64 0, .int .i64 0, .slice none 0 0] 55))):=.mk ⟨jia hb1 m0,(jh E1 0).trans rfl,(jh E1 1).trans rfl⟩
 have hb2:Below w.heap.size w (World.drew (((w.alloc (.cells #[.int .i64 0, .int .i64 0] 129)).alloc (.cells #[.slice none 0 0, .int .i64 0, .int .i64 0, .slice none 0 0] 55)).alloc (.cells #[.slice Al n n, .int .i64 0, .int .i64 0, .slice none 0 0] 55))):=(hb0.alloc (by simp;omega) _).drew
 have E3:(World.drew (((w.alloc (.cells #[.int .i64 0, .int .i64 0] 129)).alloc (.cells #[.slice none 0 0, .int .i64 0, .int .i64 0, .slice none 0 0] 55)).alloc (.cells #[.slice Al n n, .int .i64 0, .int .i64 0, .slice none 0 0] 55))).heap[w.heap.size]?=some (.cells #[.int .i64 0, .int .i64 0] 129 (0,0)):=ja (ja E0 _) _
 have C2:jv ((fun W':World=>W'.cell? ⟨m,2,none⟩=some (.slice Al n cl)∧W'.cell? ⟨w.heap.size,0,none⟩=some (.int .i64 0)∧W'.cell? ⟨w.heap.size,1,none⟩=some (.int .i64 0)) (World.drew (((w.alloc (.cells #[.int .i64 0, .int .i64 0] 129)).alloc (.cells #[.slice none 0 0, .int .i64 0, .int .i64 0, .slice none 0 0] 55)).alloc (.cells #[.slice Al n n, .int .i64 0, .int .i64 0, .slice none 0 0] 55)))):=.mk ⟨jia hb2 m0,(jh E3 0).trans rfl,(jh E3 1).trans rfl⟩
 have HBZ:=am (show Below w.heap.size w (((w.alloc (.cells #[.int .i64 0, .int .i64 0] 129)).alloc (.cells #[.slice Al n n, .int .i64 0, .int .i64 0, .slice none 0 0] 55)).alloc (.cells #[.slice Al n n, .int .i64 0, .int .i64 0, .slice none 0 0] 55)).drew from ((((Below.refl w.heap.size w).alloc (Nat.le_refl _) _).alloc (by simp) _).alloc (by simp;omega) _).drew)
 have HZZ:=am (show (((w.alloc (.cells #[.int .i64 0, .int .i64 0] 129)).alloc (.cells #[.slice Al n n, .int .i64 0, .int .i64 0, .slice none 0 0] 55)).alloc (.cells #[.slice Al n n, .int .i64 0, .int .i64 0, .slice none 0 0] 55)).drew.heap[w.heap.size+1]?=some (.cells #[.slice Al n n, .int .i64 0, .int .i64 0, .slice none 0 0] 55 (0,0)) from ja (by have h:=heap_alloc_new (w.alloc (.cells #[.int .i64 0, .int .i64 0] 129)) (.cells #[.slice Al n n, .int .i64 0, .int .i64 0, .slice none 0 0] 55);simpa only [World.size_alloc] using h) _)
 have HB:=am hb2
 clear hm m0 E0 E1 E2 E3 hb0 hb1 hb2
 go_enter Try.func86,Try.ntmps86
 go_wp2
 refine wp_region_held (S:=(fun W':World=>W'.cell? ⟨m,2,none⟩=some (.slice Al n cl)∧W'.cell? ⟨w.heap.size,0,none⟩=some (.int .i64 0)∧W'.cell? ⟨w.heap.size,1,none⟩=some (.int .i64 0))) hmx ?_
 change wpAnyH _ _ _ _ _ _ _ _ (World.drew ((w.alloc (.cells #[.int .i64 0, .int .i64 0] 129)).alloc (.cells #[.slice none 0 0, .int .i64 0, .int .i64 0, .slice none 0 0] 55)))
 have hS0:(fun W':World=>W'.cell? ⟨m,2,none⟩=some (.slice Al n cl)∧W'.cell? ⟨w.heap.size,0,none⟩=some (.int .i64 0)∧W'.cell? ⟨w.heap.size,1,none⟩=some (.int .i64 0)) (World.drew ((w.alloc (.cells #[.int .i64 0, .int .i64 0] 129)).alloc (.cells #[.slice none 0 0, .int .i64 0, .int .i64 0, .slice none 0 0] 55))):=C0.out
 refine wpAnyH_take (i:=0) (v:=?_) rfl (by kernel_rfl) (by kernel_rfl) (by kernel_rfl) (fun _ _ _ h=>h) (Or.inl ⟨by kernel_rfl,?_⟩) hS0 ?_
 rotate_left
 ·rintro W' ⟨s1,s2,s3⟩
  go_simp
  with_reducible rfl
 refine wpAnyH_take (i:=1) (v:=?_) rfl (by kernel_rfl) (by kernel_rfl) (by kernel_rfl) (fun _ _ _ h=>h) (Or.inl ⟨by kernel_rfl,?_⟩) hS0 ?_
 rotate_left
 ·rintro W' ⟨s1,s2,s3⟩
  go_simp
  with_reducible rfl
 refine wpAnyH_take (i:=2) (v:=?_) rfl (by kernel_rfl) (by kernel_rfl) (by kernel_rfl) (fun _ _ _ h=>h) (Or.inl ⟨by kernel_rfl,?_⟩) hS0 ?_
 rotate_left
 ·rintro W' ⟨s1,s2,s3⟩
  go_simp
  with_reducible rfl
 refine wpAnyH_take (i:=3) (v:=?_) rfl (by kernel_rfl) (by kernel_rfl) (by kernel_rfl) (fun _ _ _ h=>h) (Or.inl ⟨by kernel_rfl,?_⟩) hS0 ?_
 rotate_left
 ·rintro W' ⟨s1,s2,s3⟩
  go_simp
  with_reducible rfl
 refine wpAnyH_take (i:=5) (v:=?_) rfl (by kernel_rfl) (by kernel_rfl) (by kernel_rfl) (fun _ _ _ h=>h) (Or.inl ⟨by kernel_rfl,?_⟩) hS0 ?_
 rotate_left
 ·rintro W' ⟨s1,s2,s3⟩
  go_simp
  with_reducible rfl
 refine wpAnyH_take (i:=6) (v:=?_) rfl (by kernel_rfl) (by kernel_rfl) (by kernel_rfl) (fun _ _ _ h=>h) (Or.inl ⟨by kernel_rfl,?_⟩) hS0 ?_
 rotate_left
 ·rintro W' ⟨s1,s2,s3⟩
  go_simp
  with_reducible rfl
 refine wpAnyH_take (i:=7) (v:=?_) rfl (by kernel_rfl) (by kernel_rfl) (by kernel_rfl) (fun _ _ _ h=>h) (Or.inl ⟨by kernel_rfl,?_⟩) hS0 ?_
 rotate_left
 ·rintro W' ⟨s1,s2,s3⟩
  go_simp
  with_reducible rfl
 refine wpAnyH_take (i:=8) (v:=?_) rfl (by kernel_rfl) (by kernel_rfl) (by kernel_rfl) (fun _ _ _ h=>h) (Or.inl ⟨by kernel_rfl,?_⟩) hS0 ?_
 rotate_left
 ·rintro W' ⟨s1,s2,s3⟩
  go_simp
  with_reducible rfl
 refine wpAnyH_all (rs:=[4,10]) (by kernel_rfl) (by simp) ?_
 intro ii hii
 obtain hii | hii:ii=4∨ii=10:=by simpa using hii
 ·subst hii
  refine wpOp_step rfl (fun K hK=>?_)
  go_simp
  refine (mm_clip Al n cl hcl _).mono ?_
  rintro e w1 ⟨rfl,rfl⟩
  refine hK _ _ ⟨hS0,?_⟩
  clear hK K
  refine wpAnyH_take (i:=9) (v:=?_) rfl (by kernel_rfl) (by kernel_rfl) (by kernel_rfl) (fun _ _ _ h=>h) (Or.inl ⟨by kernel_rfl,?_⟩) hS0 ?_
  rotate_left
  ·rintro W' ⟨s1,s2,s3⟩
   go_simp
   with_reducible rfl
  refine wpAnyH_all (rs:=[10]) (by kernel_rfl) (by simp) ?_
  intro ii hii
  obtain rfl:ii=10:=by simpa using hii
  clear hii
  refine wpOp_step rfl (fun K hK=>?_)
  go_simp
  refine hK _ _ ⟨C1.out,?_⟩
  clear hK K hS0
  have hS0:=C1.out
  refine wpAnyH_all (rs:=[11]) (by kernel_rfl) (by simp) ?_
  intro ii hii
  obtain rfl:ii=11:=by simpa using hii
  clear hii
  refine wpOp_step rfl (fun K hK=>?_)
  go_simp
  refine hK _ _ ⟨C2.out,?_⟩
  clear hK K hS0
  refine wpAnyH_done (by kernel_rfl) ?_ _
  rename_i K9 hK9
  refine hK9 _ _ ?_
  clear hK9
  go_simp
  go_wp2
  refine bodyPost_ret (results_cell_row rfl _ _ (w.heap.size+1) 55 #[.slice Al n n, .int .i64 0, .int .i64 0, .slice none 0 0] (0,0) _ rfl HZZ.out Try.underlying55 rfl (by kernel_rfl)) rfl ?_
  exact ⟨rfl,HBZ.out⟩

 ·subst hii
  refine wpOp_step rfl (fun K hK=>?_)
  go_simp
  refine hK _ _ ⟨C1.out,?_⟩
  clear hK K hS0
  have hS0:=C1.out
  refine wpAnyH_all (rs:=[4]) (by kernel_rfl) (by simp) ?_
  intro ii hii
  obtain rfl:ii=4:=by simpa using hii
  clear hii
  refine wpOp_step rfl (fun K hK=>?_)
  go_simp
  refine (mm_clip Al n cl hcl _).mono ?_
  rintro e w1 ⟨rfl,rfl⟩
  refine hK _ _ ⟨hS0,?_⟩
  clear hK K
  refine wpAnyH_take (i:=9) (v:=?_) rfl (by kernel_rfl) (by kernel_rfl) (by kernel_rfl) (fun _ _ _ h=>h) (Or.inl ⟨by kernel_rfl,?_⟩) hS0 ?_
  rotate_left
  ·rintro W' ⟨s1,s2,s3⟩
   go_simp
   with_reducible rfl
  refine wpAnyH_all (rs:=[11]) (by kernel_rfl) (by simp) ?_
  intro ii hii
  obtain rfl:ii=11:=by simpa using hii
  clear hii
  refine wpOp_step rfl (fun K hK=>?_)
  go_simp
  refine hK _ _ ⟨C2.out,?_⟩
  clear hK K hS0
  refine wpAnyH_done (by kernel_rfl) ?_ _
  rename_i K9 hK9
  refine hK9 _ _ ?_
  clear hK9
  go_simp
  go_wp2
  refine bodyPost_ret (results_cell_row rfl _ _ (w.heap.size+1) 55 #[.slice Al n n, .int .i64 0, .int .i64 0, .slice none 0 0] (0,0) _ rfl HZZ.out Try.underlying55 rfl (by kernel_rfl)) rfl ?_
  exact ⟨rfl,HBZ.out⟩
set_option maxHeartbeats 8000000 in
set_option maxRecDepth 100000 in
theorem mres2 (m : Nat) (tr cp vh fs : Value) (Al : Option Addr) (n cl : Nat) (hcl : n ≤ cl) (f : Int) (w : World) (hm : w.heap[m]? = some (.cells #[tr, cp, .slice Al n cl, vh, fs] 110 (0, 0))) (H' : List S90) (f' : Int) (KI : ∀ W, Below w.heap.size w W → Calls Try.prog 112 #[.agg #[vh], .int .i64 f] W fun e w' => ∃ v0 : Value, e = .returned (.tuple #[.agg #[v0], .int .i64 f']) ∧ Kd.R k90 90 w' W.heap.size (fun _ => True) v0 H' ∧ Below W.heap.size W w') :
  Calls Try.prog 86 #[.pointer (some ⟨m,0,none⟩), .agg #[.int .i64 2, .int .i64 f]] w fun e w'=>∃ v1:Value,e=.returned (.agg #[.slice Al n n, .int .i64 2, .int .i64 f',v1])∧Kd.R k90 90 w' w.heap.size (fun _=>True) v1 H'∧Below w.heap.size w w':=by
 have hmx:Try.prog.follows .mixedOrders=true:=by kernel_rfl
 have hu110:=Try.underlying110
 have hu55:=Try.underlying55
 have hu129:=Try.underlying129
 have hmw:m<w.heap.size:=jta hm
 have E0:=heap_alloc_new w (.cells #[.int .i64 2, .int .i64 f] 129)
 have hb0:Below w.heap.size w ((w.alloc (.cells #[.int .i64 2, .int .i64 f] 129)).alloc (.cells #[.slice none 0 0, .int .i64 0, .int .i64 0, .slice none 0 0] 55)):=((Below.refl w.heap.size w).alloc (Nat.le_refl _) _).alloc (by simp) _
 have hb1:Below w.heap.size w ((World.drew ((w.alloc (.cells #[.int .i64 2, .int .i64 f] 129)).alloc (.cells #[.slice none 0 0, .int .i64 0, .int .i64 0, .slice none 0 0] 55))).alloc (.cells #[.slice none 0 0, .int .i64 0, .int .i64 0, .slice none 0 0] 55)):=(hb0.drew).alloc (by simp;omega) _
 have m0:w.cell? ⟨m,2,none⟩=some (.slice Al n cl):=(jh hm 2).trans rfl
 have C0:jv ((fun W':World=>W'.cell? ⟨m,2,none⟩=some (.slice Al n cl)∧W'.cell? ⟨w.heap.size,0,none⟩=some (.int .i64 2)∧W'.cell? ⟨w.heap.size,1,none⟩=some (.int .i64 f)) (World.drew ((w.alloc (.cells #[.int .i64 2, .int .i64 f] 129)).alloc (.cells #[.slice none 0 0, .int .i64 0, .int .i64 0, .slice none 0 0] 55)))):=.mk ⟨jia hb0.drew m0,(jh (ja E0 _) 0).trans rfl,(jh (ja E0 _) 1).trans rfl⟩
 have E1:((World.drew ((w.alloc (.cells #[.int .i64 2, .int .i64 f] 129)).alloc (.cells #[.slice none 0 0, .int .i64 0, .int .i64 0, .slice none 0 0] 55))).alloc (.cells #[.slice none 0 0, .int .i64 0, .int .i64 0, .slice none 0 0] 55)).heap[w.heap.size]?=some (.cells #[.int .i64 2, .int .i64 f] 129 (0,0)):=ja (ja E0 _) _
 have E2:((World.drew ((w.alloc (.cells #[.int .i64 2, .int .i64 f] 129)).alloc (.cells #[.slice none 0 0, .int .i64 0, .int .i64 0, .slice none 0 0] 55))).alloc (.cells #[.slice none 0 0, .int .i64 0, .int .i64 0, .slice none 0 0] 55)).heap[w.heap.size+1+1]?=some (.cells #[.slice none 0 0, .int .i64 0, .int .i64 0, .slice none 0 0] 55 (0,0)):=by have h:=heap_alloc_new (World.drew ((w.alloc (.cells #[.int .i64 2, .int .i64 f] 129)).alloc (.cells #[.slice none 0 0, .int .i64 0, .int .i64 0, .slice none 0 0] 55))) (.cells #[.slice none 0 0, .int .i64 0, .int .i64 0, .slice none 0 0] 55);simpa only [World.size_alloc,World.size_drew] using h
 have C1:jv ((fun W':World=>W'.cell? ⟨m,2,none⟩=some (.slice Al n cl)∧W'.cell? ⟨w.heap.size,0,none⟩=some (.int .i64 2)∧W'.cell? ⟨w.heap.size,1,none⟩=some (.int .i64 f)) ((World.drew ((w.alloc (.cells #[.int .i64 2, .int .i64 f] 129)).alloc (.cells #[.slice none 0 0, .int .i64 0, .int .i64 0, .slice none 0 0] 55))).alloc (.cells #[.slice none 0 0, .int .i64 0, .int .i64 0, .slice none 0 0] 55))):=.mk ⟨jia hb1 m0,(jh E1 0).trans rfl,(jh E1 1).trans rfl⟩
 have hb2:Below w.heap.size w (World.drew (((w.alloc (.cells #[.int .i64 2, .int .i64 f] 129)).alloc (.cells #[.slice none 0 0, .int .i64 0, .int .i64 0, .slice none 0 0] 55)).alloc (.cells #[.slice Al n n, .int .i64 2, .int .i64 f, .slice none 0 0] 55))):=(hb0.alloc (by simp;omega) _).drew
 have E3:(World.drew (((w.alloc (.cells #[.int .i64 2, .int .i64 f] 129)).alloc (.cells #[.slice none 0 0, .int .i64 0, .int .i64 0, .slice none 0 0] 55)).alloc (.cells #[.slice Al n n, .int .i64 2, .int .i64 f, .slice none 0 0] 55))).heap[w.heap.size]?=some (.cells #[.int .i64 2, .int .i64 f] 129 (0,0)):=ja (ja E0 _) _
 have C2:jv ((fun W':World=>W'.cell? ⟨m,2,none⟩=some (.slice Al n cl)∧W'.cell? ⟨w.heap.size,0,none⟩=some (.int .i64 2)∧W'.cell? ⟨w.heap.size,1,none⟩=some (.int .i64 f)) (World.drew (((w.alloc (.cells #[.int .i64 2, .int .i64 f] 129)).alloc (.cells #[.slice none 0 0, .int .i64 0, .int .i64 0, .slice none 0 0] 55)).alloc (.cells #[.slice Al n n, .int .i64 2, .int .i64 f, .slice none 0 0] 55)))):=.mk ⟨jia hb2 m0,(jh E3 0).trans rfl,(jh E3 1).trans rfl⟩
 have MM:=am (show (World.drew (((w.alloc (.cells #[.int .i64 2, .int .i64 f] 129)).alloc (.cells #[.slice none 0 0, .int .i64 0, .int .i64 0, .slice none 0 0] 55)).alloc (.cells #[.slice Al n n, .int .i64 2, .int .i64 f, .slice none 0 0] 55))).heap[m]?=some (.cells #[tr,cp, .slice Al n cl,vh,fs] 110 (0,0)) from je hm hb2)
 have EE:=am E3
 have RR:=am (show (World.drew (((w.alloc (.cells #[.int .i64 2, .int .i64 f] 129)).alloc (.cells #[.slice none 0 0, .int .i64 0, .int .i64 0, .slice none 0 0] 55)).alloc (.cells #[.slice Al n n, .int .i64 2, .int .i64 f, .slice none 0 0] 55))).heap[w.heap.size+1+1]?=some (.cells #[.slice Al n n, .int .i64 2, .int .i64 f, .slice none 0 0] 55 (0,0)) by have h:=heap_alloc_new ((w.alloc (.cells #[.int .i64 2, .int .i64 f] 129)).alloc (.cells #[.slice none 0 0, .int .i64 0, .int .i64 0, .slice none 0 0] 55)) (.cells #[.slice Al n n, .int .i64 2, .int .i64 f, .slice none 0 0] 55);simp only [World.size_alloc] at h;exact h)
 have ZZ:=am (show (World.drew (((w.alloc (.cells #[.int .i64 2, .int .i64 f] 129)).alloc (.cells #[.slice none 0 0, .int .i64 0, .int .i64 0, .slice none 0 0] 55)).alloc (.cells #[.slice Al n n, .int .i64 2, .int .i64 f, .slice none 0 0] 55))).heap[w.heap.size+1]?=some (.cells #[.slice none 0 0, .int .i64 0, .int .i64 0, .slice none 0 0] 55 (0,0)) from ja (by have h:=heap_alloc_new (w.alloc (.cells #[.int .i64 2, .int .i64 f] 129)) (.cells #[.slice none 0 0, .int .i64 0, .int .i64 0, .slice none 0 0] 55);simpa only [World.size_alloc] using h) _)
 have HB:=am hb2
 clear hm m0 E0 E1 E2 E3 hb0 hb1 hb2
 go_enter Try.func86,Try.ntmps86
 go_wp2
 refine wp_region_held (S:=(fun W':World=>W'.cell? ⟨m,2,none⟩=some (.slice Al n cl)∧W'.cell? ⟨w.heap.size,0,none⟩=some (.int .i64 2)∧W'.cell? ⟨w.heap.size,1,none⟩=some (.int .i64 f))) hmx ?_
 change wpAnyH _ _ _ _ _ _ _ _ (World.drew ((w.alloc (.cells #[.int .i64 2, .int .i64 f] 129)).alloc (.cells #[.slice none 0 0, .int .i64 0, .int .i64 0, .slice none 0 0] 55)))
 have hS0:(fun W':World=>W'.cell? ⟨m,2,none⟩=some (.slice Al n cl)∧W'.cell? ⟨w.heap.size,0,none⟩=some (.int .i64 2)∧W'.cell? ⟨w.heap.size,1,none⟩=some (.int .i64 f)) (World.drew ((w.alloc (.cells #[.int .i64 2, .int .i64 f] 129)).alloc (.cells #[.slice none 0 0, .int .i64 0, .int .i64 0, .slice none 0 0] 55))):=C0.out
 refine wpAnyH_take (i:=0) (v:=?_) rfl (by kernel_rfl) (by kernel_rfl) (by kernel_rfl) (fun _ _ _ h=>h) (Or.inl ⟨by kernel_rfl,?_⟩) hS0 ?_
 rotate_left
 ·rintro W' ⟨s1,s2,s3⟩
  go_simp
  with_reducible rfl
 refine wpAnyH_take (i:=1) (v:=?_) rfl (by kernel_rfl) (by kernel_rfl) (by kernel_rfl) (fun _ _ _ h=>h) (Or.inl ⟨by kernel_rfl,?_⟩) hS0 ?_
 rotate_left
 ·rintro W' ⟨s1,s2,s3⟩
  go_simp
  with_reducible rfl
 refine wpAnyH_take (i:=2) (v:=?_) rfl (by kernel_rfl) (by kernel_rfl) (by kernel_rfl) (fun _ _ _ h=>h) (Or.inl ⟨by kernel_rfl,?_⟩) hS0 ?_
 rotate_left
 ·rintro W' ⟨s1,s2,s3⟩
  go_simp
  with_reducible rfl
 refine wpAnyH_take (i:=3) (v:=?_) rfl (by kernel_rfl) (by kernel_rfl) (by kernel_rfl) (fun _ _ _ h=>h) (Or.inl ⟨by kernel_rfl,?_⟩) hS0 ?_
 rotate_left
 ·rintro W' ⟨s1,s2,s3⟩
  go_simp
  with_reducible rfl
 refine wpAnyH_take (i:=5) (v:=?_) rfl (by kernel_rfl) (by kernel_rfl) (by kernel_rfl) (fun _ _ _ h=>h) (Or.inl ⟨by kernel_rfl,?_⟩) hS0 ?_
 rotate_left
 ·rintro W' ⟨s1,s2,s3⟩
  go_simp
  with_reducible rfl
 refine wpAnyH_take (i:=6) (v:=?_) rfl (by kernel_rfl) (by kernel_rfl) (by kernel_rfl) (fun _ _ _ h=>h) (Or.inl ⟨by kernel_rfl,?_⟩) hS0 ?_
 rotate_left
 ·rintro W' ⟨s1,s2,s3⟩
  go_simp
  with_reducible rfl
 refine wpAnyH_take (i:=7) (v:=?_) rfl (by kernel_rfl) (by kernel_rfl) (by kernel_rfl) (fun _ _ _ h=>h) (Or.inl ⟨by kernel_rfl,?_⟩) hS0 ?_
 rotate_left
 ·rintro W' ⟨s1,s2,s3⟩
  go_simp
  with_reducible rfl
 refine wpAnyH_take (i:=8) (v:=?_) rfl (by kernel_rfl) (by kernel_rfl) (by kernel_rfl) (fun _ _ _ h=>h) (Or.inl ⟨by kernel_rfl,?_⟩) hS0 ?_
 rotate_left
 ·rintro W' ⟨s1,s2,s3⟩
  go_simp
  with_reducible rfl
 refine wpAnyH_all (rs:=[4,10]) (by kernel_rfl) (by simp) ?_
 intro ii hii
 obtain hii | hii:ii=4∨ii=10:=by simpa using hii
 ·subst hii
  refine wpOp_step rfl (fun K hK=>?_)
  go_simp
  refine (mm_clip Al n cl hcl _).mono ?_
  rintro e w1 ⟨rfl,rfl⟩
  refine hK _ _ ⟨hS0,?_⟩
  clear hK K
  refine wpAnyH_take (i:=9) (v:=?_) rfl (by kernel_rfl) (by kernel_rfl) (by kernel_rfl) (fun _ _ _ h=>h) (Or.inl ⟨by kernel_rfl,?_⟩) hS0 ?_
  rotate_left
  ·rintro W' ⟨s1,s2,s3⟩
   go_simp
   with_reducible rfl
  refine wpAnyH_all (rs:=[10]) (by kernel_rfl) (by simp) ?_
  intro ii hii
  obtain rfl:ii=10:=by simpa using hii
  clear hii
  refine wpOp_step rfl (fun K hK=>?_)
  go_simp
  refine hK _ _ ⟨C1.out,?_⟩
  clear hK K hS0
  have hS0:=C1.out
  refine wpAnyH_all (rs:=[11]) (by kernel_rfl) (by simp) ?_
  intro ii hii
  obtain rfl:ii=11:=by simpa using hii
  clear hii
  refine wpOp_step rfl (fun K hK=>?_)
  go_simp
  refine hK _ _ ⟨C2.out,?_⟩
  clear hK K hS0
  refine wpAnyH_done (by kernel_rfl) ?_ _
  rename_i K9 hK9
  refine hK9 _ _ ?_
  clear hK9
  go_simp
  obtain ⟨Y1,hY1⟩:∃ Y1,(World.drew (((w.alloc (.cells #[.int .i64 2, .int .i64 f] 129)).alloc (.cells #[.slice none 0 0, .int .i64 0, .int .i64 0, .slice none 0 0] 55)).alloc (.cells #[.slice Al n n, .int .i64 2, .int .i64 f, .slice none 0 0] 55)))=Y1:=⟨_,rfl⟩
  have M1:=MM.out;have E1:=EE.out;have R1:=RR.out;have Z1:=ZZ.out;have B1:=HB.out
  rw [hY1] at M1 E1 R1 Z1 B1
  rw [hY1]
  clear hY1 MM EE RR ZZ HB C0 C1 C2
  have M1:=am M1;have E1:=am E1;have R1:=am R1;have Z1:=am Z1;have B1:=am B1
  have c0:Y1.cell? ⟨w.heap.size,0,none⟩=some (.int .i64 2):=(jh E1.out 0).trans rfl
  go_wp2
  clear c0
  refine wp_region_held (S:=(fun W':World=>W'.cell? ⟨m,3,none⟩=some vh∧W'.cell? ⟨w.heap.size,1,none⟩=some (.int .i64 f))) hmx ?_
  change wpAnyH _ _ _ _ _ _ _ _ (World.drew Y1)
  have hS0:(fun W':World=>W'.cell? ⟨m,3,none⟩=some vh∧W'.cell? ⟨w.heap.size,1,none⟩=some (.int .i64 f)) (World.drew Y1):=⟨(jh M1.out 3).trans rfl,(jh E1.out 1).trans rfl⟩
  refine wpAnyH_take (i:=0) (v:=?_) rfl (by kernel_rfl) (by kernel_rfl) (by kernel_rfl) (fun _ _ _ h=>h) (Or.inl ⟨by kernel_rfl,?_⟩) hS0 ?_
  rotate_left
  ·rintro W' ⟨s1,s2⟩
   go_simp
   with_reducible rfl
  refine wpAnyH_take (i:=1) (v:=?_) rfl (by kernel_rfl) (by kernel_rfl) (by kernel_rfl) (fun _ _ _ h=>h) (Or.inl ⟨by kernel_rfl,?_⟩) hS0 ?_
  rotate_left
  ·rintro W' ⟨s1,s2⟩
   go_simp
   with_reducible rfl
  refine wpAnyH_take (i:=2) (v:=?_) rfl (by kernel_rfl) (by kernel_rfl) (by kernel_rfl) (fun _ _ _ h=>h) (Or.inl ⟨by kernel_rfl,?_⟩) hS0 ?_
  rotate_left
  ·rintro W' ⟨s1,s2⟩
   go_simp
   with_reducible rfl
  refine wpAnyH_take (i:=3) (v:=?_) rfl (by kernel_rfl) (by kernel_rfl) (by kernel_rfl) (fun _ _ _ h=>h) (Or.inl ⟨by kernel_rfl,?_⟩) hS0 ?_
  rotate_left
  ·rintro W' ⟨s1,s2⟩
   go_simp
   with_reducible rfl
  refine wpAnyH_take (i:=4) (v:=?_) rfl (by kernel_rfl) (by kernel_rfl) (by kernel_rfl) (fun _ _ _ h=>h) (Or.inl ⟨by kernel_rfl,?_⟩) hS0 ?_
  rotate_left
  ·rintro W' ⟨s1,s2⟩
   go_simp
   with_reducible rfl
  refine wpAnyH_take (i:=5) (v:=?_) rfl (by kernel_rfl) (by kernel_rfl) (by kernel_rfl) (fun _ _ _ h=>h) (Or.inl ⟨by kernel_rfl,?_⟩) hS0 ?_
  rotate_left
  ·rintro W' ⟨s1,s2⟩
   go_simp
   with_reducible rfl
  refine wpAnyH_all (rs:=[6]) (by kernel_rfl) (by simp) ?_
  intro ii hii
  obtain rfl:ii=6:=by simpa using hii
  clear hii
  refine wpOp_step rfl (fun K hK=>?_)
  go_simp
  refine (KI _ B1.out.drew).mono ?_
  rintro e w4 ⟨v4,rfl,h4,hb4⟩
  have hb5:Below Y1.heap.size Y1 w4:=(Below.refl _ _).drew.trans hb4
  have hlt:w.heap.size+1+1<Y1.heap.size:=jta R1.out
  have M4:=am (je M1.out hb5);have E4:=am (je E1.out hb5);have R4:=am (je R1.out hb5);have Z4:=am (je Z1.out hb5)
  have B4:=am (B1.out.trans (hb5.mono (by omega)))
  have H4:=am (Kd.jua h4 (show w.heap.size≤(World.drew Y1).heap.size by simp;omega))
  obtain ⟨A4,c4,rfl⟩:=Kd.jja h4
  clear h4 hb4 hb5 M1 E1 R1 Z1 B1 hS0
  have hS1:(fun W':World=>W'.cell? ⟨m,3,none⟩=some vh∧W'.cell? ⟨w.heap.size,1,none⟩=some (.int .i64 f)) w4:=⟨(jh M4.out 3).trans rfl,(jh E4.out 1).trans rfl⟩
  refine hK _ _ ⟨hS1,?_⟩
  clear hK K KI
  refine wpAnyH_take (i:=7) (v:=?_) rfl (by kernel_rfl) (by kernel_rfl) (by kernel_rfl) (fun _ _ _ h=>h) (Or.inl ⟨by kernel_rfl,?_⟩) hS1 ?_
  rotate_left
  ·rintro W' ⟨s1,s2⟩
   go_simp
   with_reducible rfl
  refine wpAnyH_take (i:=8) (v:=?_) rfl (by kernel_rfl) (by kernel_rfl) (by kernel_rfl) (fun _ _ _ h=>h) (Or.inl ⟨by kernel_rfl,?_⟩) hS1 ?_
  rotate_left
  ·rintro W' ⟨s1,s2⟩
   go_simp
   with_reducible rfl
  refine wpAnyH_take (i:=9) (v:=?_) rfl (by kernel_rfl) (by kernel_rfl) (by kernel_rfl) (fun _ _ _ h=>h) (Or.inl ⟨by kernel_rfl,?_⟩) hS1 ?_
  rotate_left
  ·rintro W' ⟨s1,s2⟩
   go_simp
   with_reducible rfl
  refine wpAnyH_take (i:=10) (v:=?_) rfl (by kernel_rfl) (by kernel_rfl) (by kernel_rfl) (fun _ _ _ h=>h) (Or.inl ⟨by kernel_rfl,?_⟩) hS1 ?_
  rotate_left
  ·rintro W' ⟨s1,s2⟩
   go_simp
   with_reducible rfl
  have cR3:w4.cell? ⟨w.heap.size+1+1,3,none⟩=some (.slice none 0 0):=(jh R4.out 3).trans rfl
  have fR3:=jd R4.out 3
  have x1:=jO R4.out 3 (.slice A4 H'.length c4) rfl
  have M5:=am (mfarA M4.out (show m≠w.heap.size+1+1 by omega) 3 (.slice A4 H'.length c4))
  have E5:=am (mfarA E4.out (show w.heap.size≠w.heap.size+1+1 by omega) 3 (.slice A4 H'.length c4))
  have Z5:=am (mfarA Z4.out (show w.heap.size+1≠w.heap.size+1+1 by omega) 3 (.slice A4 H'.length c4))
  have X1:=am x1
  clear x1
  have hS2:(fun W':World=>W'.cell? ⟨m,3,none⟩=some vh∧W'.cell? ⟨w.heap.size,1,none⟩=some (.int .i64 f)) (w4.setCell ⟨w.heap.size+1+1,3,none⟩ (.slice A4 H'.length c4)):=⟨(jh M5.out 3).trans rfl,(jh E5.out 1).trans rfl⟩
  refine wpAnyH_all (rs:=[11]) (by kernel_rfl) (by simp) ?_
  intro ii hii
  obtain rfl:ii=11:=by simpa using hii
  clear hii
  refine wpOp_step rfl (fun K hK=>?_)
  go_simp
  refine hK _ _ ⟨hS2,?_⟩
  clear hK K hS1 cR3 fR3
  refine wpAnyH_take (i:=12) (v:=?_) rfl (by kernel_rfl) (by kernel_rfl) (by kernel_rfl) (fun _ _ _ h=>h) (Or.inl ⟨by kernel_rfl,?_⟩) hS2 ?_
  rotate_left
  ·rintro W' ⟨s1,s2⟩
   go_simp
   with_reducible rfl
  obtain ⟨Y5,hY5⟩:∃ Y5,w4.setCell ⟨w.heap.size+1+1,3,none⟩ (.slice A4 H'.length c4)=Y5:=⟨_,rfl⟩
  have x1:=X1.out;have m5:=M5.out;have e5:=E5.out;have z5:=Z5.out
  have b5:=B4.out.setCell (p:=⟨w.heap.size+1+1,3,none⟩) (by simp;omega) (.slice A4 H'.length c4)
  have h5:=Kd.jub H4.out R4.out (by decide) 3 (.slice A4 H'.length c4)
  rw [hY5] at x1 m5 e5 z5 b5 h5 hS2
  rw [hY5]
  clear hY5 X1 M5 E5 Z5 B4 H4 M4 E4 R4 Z4
  have cR2:Y5.cell? ⟨w.heap.size+1+1,2,none⟩=some (.int .i64 f):=(jh x1 2).trans rfl
  have fR2:=jd x1 2
  have X2:=am (jO x1 2 (.int .i64 f') rfl)
  have M6:=am (mfarA m5 (show m≠w.heap.size+1+1 by omega) 2 (.int .i64 f'))
  have E6:=am (mfarA e5 (show w.heap.size≠w.heap.size+1+1 by omega) 2 (.int .i64 f'))
  have Z6:=am (mfarA z5 (show w.heap.size+1≠w.heap.size+1+1 by omega) 2 (.int .i64 f'))
  have B6:=am (b5.setCell (p:=⟨w.heap.size+1+1,2,none⟩) (by simp;omega) (.int .i64 f'))
  have H6:=am (Kd.jub h5 x1 (by decide) 2 (.int .i64 f'))
  clear x1 m5 e5 z5 b5 h5
  have hS3:(fun W':World=>W'.cell? ⟨m,3,none⟩=some vh∧W'.cell? ⟨w.heap.size,1,none⟩=some (.int .i64 f)) (Y5.setCell ⟨w.heap.size+1+1,2,none⟩ (.int .i64 f')):=⟨(jh M6.out 3).trans rfl,(jh E6.out 1).trans rfl⟩
  refine wpAnyH_all (rs:=[13]) (by kernel_rfl) (by simp) ?_
  intro ii hii
  obtain rfl:ii=13:=by simpa using hii
  clear hii
  refine wpOp_step rfl (fun K hK=>?_)
  go_simp
  refine hK _ _ ⟨hS3,?_⟩
  clear hK K hS2 cR2 fR2
  refine wpAnyH_done (by kernel_rfl) ?_ _
  rename_i K9 hK9
  refine hK9 _ _ ?_
  clear hK9 hS3
  go_simp
  obtain ⟨Y6,hY6⟩:∃ Y6,Y5.setCell ⟨w.heap.size+1+1,2,none⟩ (.int .i64 f')=Y6:=⟨_,rfl⟩
  have x1:=X2.out;have z5:=Z6.out;have b5:=B6.out;have h5:=H6.out
  rw [hY6] at x1 z5 b5 h5
  rw [hY6]
  clear hY6 X2 Z6 B6 H6 M6 E6
  have cR0:Y6.cell? ⟨w.heap.size+1+1,0,none⟩=some (.slice Al n n):=(jh x1 0).trans rfl
  have cR1:Y6.cell? ⟨w.heap.size+1+1,1,none⟩=some (.int .i64 2):=(jh x1 1).trans rfl
  have cR2:Y6.cell? ⟨w.heap.size+1+1,2,none⟩=some (.int .i64 f'):=(jh x1 2).trans rfl
  have cR3:Y6.cell? ⟨w.heap.size+1+1,3,none⟩=some (.slice A4 H'.length c4):=(jh x1 3).trans rfl
  have cZ0:Y6.cell? ⟨w.heap.size+1,0,none⟩=some (.slice none 0 0):=(jh z5 0).trans rfl
  have cZ1:Y6.cell? ⟨w.heap.size+1,1,none⟩=some (.int .i64 0):=(jh z5 1).trans rfl
  have cZ2:Y6.cell? ⟨w.heap.size+1,2,none⟩=some (.int .i64 0):=(jh z5 2).trans rfl
  have cZ3:Y6.cell? ⟨w.heap.size+1,3,none⟩=some (.slice none 0 0):=(jh z5 3).trans rfl
  have fZ0:=jd z5 0
  have fZ1:=jd z5 1
  have fZ2:=jd z5 2
  have fZ3:=jd z5 3
  have hZw:=jta z5
  have ZZ:=am z5;have BB:=am b5;have HH:=am h5
  clear x1 z5 b5 h5
  go_wp2
  have y1:=jO ZZ.out 0 (.slice Al n n) rfl
  have y2:=jO y1 1 (.int .i64 2) rfl
  have y3:=jO y2 2 (.int .i64 f') rfl
  have y4:=jO y3 3 (.slice A4 H'.length c4) rfl
  have zH:=Kd.jub (Kd.jub (Kd.jub (Kd.jub HH.out ZZ.out (by decide) 0 (.slice Al n n)) y1 (by decide) 1 (.int .i64 2)) y2 (by decide) 2 (.int .i64 f')) y3 (by decide) 3 (.slice A4 H'.length c4)
  refine bodyPost_ret (results_cell_row rfl _ _ (w.heap.size+1) 55 #[.slice Al n n, .int .i64 2, .int .i64 f', .slice A4 H'.length c4] (0,0) _ rfl y4 Try.underlying55 rfl (by kernel_rfl)) rfl ?_
  exact ⟨_,rfl,zH,(((BB.out.setCell (p:=⟨w.heap.size+1,0,none⟩) (by simp <;> omega) _).setCell (p:=⟨w.heap.size+1,1,none⟩) (by simp <;> omega) _).setCell (p:=⟨w.heap.size+1,2,none⟩) (by simp <;> omega) _).setCell (p:=⟨w.heap.size+1,3,none⟩) (by simp <;> omega) _⟩

 ·subst hii
  refine wpOp_step rfl (fun K hK=>?_)
  go_simp
  refine hK _ _ ⟨C1.out,?_⟩
  clear hK K hS0
  have hS0:=C1.out
  refine wpAnyH_all (rs:=[4]) (by kernel_rfl) (by simp) ?_
  intro ii hii
  obtain rfl:ii=4:=by simpa using hii
  clear hii
  refine wpOp_step rfl (fun K hK=>?_)
  go_simp
  refine (mm_clip Al n cl hcl _).mono ?_
  rintro e w1 ⟨rfl,rfl⟩
  refine hK _ _ ⟨hS0,?_⟩
  clear hK K
  refine wpAnyH_take (i:=9) (v:=?_) rfl (by kernel_rfl) (by kernel_rfl) (by kernel_rfl) (fun _ _ _ h=>h) (Or.inl ⟨by kernel_rfl,?_⟩) hS0 ?_
  rotate_left
  ·rintro W' ⟨s1,s2,s3⟩
   go_simp
   with_reducible rfl
  refine wpAnyH_all (rs:=[11]) (by kernel_rfl) (by simp) ?_
  intro ii hii
  obtain rfl:ii=11:=by simpa using hii
  clear hii
  refine wpOp_step rfl (fun K hK=>?_)
  go_simp
  refine hK _ _ ⟨C2.out,?_⟩
  clear hK K hS0
  refine wpAnyH_done (by kernel_rfl) ?_ _
  rename_i K9 hK9
  refine hK9 _ _ ?_
  clear hK9
  go_simp
  obtain ⟨Y1,hY1⟩:∃ Y1,(World.drew (((w.alloc (.cells #[.int .i64 2, .int .i64 f] 129)).alloc (.cells #[.slice none 0 0, .int .i64 0, .int .i64 0, .slice none 0 0] 55)).alloc (.cells #[.slice Al n n, .int .i64 2, .int .i64 f, .slice none 0 0] 55)))=Y1:=⟨_,rfl⟩
  have M1:=MM.out;have E1:=EE.out;have R1:=RR.out;have Z1:=ZZ.out;have B1:=HB.out
  rw [hY1] at M1 E1 R1 Z1 B1
  rw [hY1]
  clear hY1 MM EE RR ZZ HB C0 C1 C2
  have M1:=am M1;have E1:=am E1;have R1:=am R1;have Z1:=am Z1;have B1:=am B1
  have c0:Y1.cell? ⟨w.heap.size,0,none⟩=some (.int .i64 2):=(jh E1.out 0).trans rfl
  go_wp2
  clear c0
  refine wp_region_held (S:=(fun W':World=>W'.cell? ⟨m,3,none⟩=some vh∧W'.cell? ⟨w.heap.size,1,none⟩=some (.int .i64 f))) hmx ?_
  change wpAnyH _ _ _ _ _ _ _ _ (World.drew Y1)
  have hS0:(fun W':World=>W'.cell? ⟨m,3,none⟩=some vh∧W'.cell? ⟨w.heap.size,1,none⟩=some (.int .i64 f)) (World.drew Y1):=⟨(jh M1.out 3).trans rfl,(jh E1.out 1).trans rfl⟩
  refine wpAnyH_take (i:=0) (v:=?_) rfl (by kernel_rfl) (by kernel_rfl) (by kernel_rfl) (fun _ _ _ h=>h) (Or.inl ⟨by kernel_rfl,?_⟩) hS0 ?_
  rotate_left
  ·rintro W' ⟨s1,s2⟩
   go_simp
   with_reducible rfl
  refine wpAnyH_take (i:=1) (v:=?_) rfl (by kernel_rfl) (by kernel_rfl) (by kernel_rfl) (fun _ _ _ h=>h) (Or.inl ⟨by kernel_rfl,?_⟩) hS0 ?_
  rotate_left
  ·rintro W' ⟨s1,s2⟩
   go_simp
   with_reducible rfl
  refine wpAnyH_take (i:=2) (v:=?_) rfl (by kernel_rfl) (by kernel_rfl) (by kernel_rfl) (fun _ _ _ h=>h) (Or.inl ⟨by kernel_rfl,?_⟩) hS0 ?_
  rotate_left
  ·rintro W' ⟨s1,s2⟩
   go_simp
   with_reducible rfl
  refine wpAnyH_take (i:=3) (v:=?_) rfl (by kernel_rfl) (by kernel_rfl) (by kernel_rfl) (fun _ _ _ h=>h) (Or.inl ⟨by kernel_rfl,?_⟩) hS0 ?_
  rotate_left
  ·rintro W' ⟨s1,s2⟩
   go_simp
   with_reducible rfl
  refine wpAnyH_take (i:=4) (v:=?_) rfl (by kernel_rfl) (by kernel_rfl) (by kernel_rfl) (fun _ _ _ h=>h) (Or.inl ⟨by kernel_rfl,?_⟩) hS0 ?_
  rotate_left
  ·rintro W' ⟨s1,s2⟩
   go_simp
   with_reducible rfl
  refine wpAnyH_take (i:=5) (v:=?_) rfl (by kernel_rfl) (by kernel_rfl) (by kernel_rfl) (fun _ _ _ h=>h) (Or.inl ⟨by kernel_rfl,?_⟩) hS0 ?_
  rotate_left
  ·rintro W' ⟨s1,s2⟩
   go_simp
   with_reducible rfl
  refine wpAnyH_all (rs:=[6]) (by kernel_rfl) (by simp) ?_
  intro ii hii
  obtain rfl:ii=6:=by simpa using hii
  clear hii
  refine wpOp_step rfl (fun K hK=>?_)
  go_simp
  refine (KI _ B1.out.drew).mono ?_
  rintro e w4 ⟨v4,rfl,h4,hb4⟩
  have hb5:Below Y1.heap.size Y1 w4:=(Below.refl _ _).drew.trans hb4
  have hlt:w.heap.size+1+1<Y1.heap.size:=jta R1.out
  have M4:=am (je M1.out hb5);have E4:=am (je E1.out hb5);have R4:=am (je R1.out hb5);have Z4:=am (je Z1.out hb5)
  have B4:=am (B1.out.trans (hb5.mono (by omega)))
  have H4:=am (Kd.jua h4 (show w.heap.size≤(World.drew Y1).heap.size by simp;omega))
  obtain ⟨A4,c4,rfl⟩:=Kd.jja h4
  clear h4 hb4 hb5 M1 E1 R1 Z1 B1 hS0
  have hS1:(fun W':World=>W'.cell? ⟨m,3,none⟩=some vh∧W'.cell? ⟨w.heap.size,1,none⟩=some (.int .i64 f)) w4:=⟨(jh M4.out 3).trans rfl,(jh E4.out 1).trans rfl⟩
  refine hK _ _ ⟨hS1,?_⟩
  clear hK K KI
  refine wpAnyH_take (i:=7) (v:=?_) rfl (by kernel_rfl) (by kernel_rfl) (by kernel_rfl) (fun _ _ _ h=>h) (Or.inl ⟨by kernel_rfl,?_⟩) hS1 ?_
  rotate_left
  ·rintro W' ⟨s1,s2⟩
   go_simp
   with_reducible rfl
  refine wpAnyH_take (i:=8) (v:=?_) rfl (by kernel_rfl) (by kernel_rfl) (by kernel_rfl) (fun _ _ _ h=>h) (Or.inl ⟨by kernel_rfl,?_⟩) hS1 ?_
  rotate_left
  ·rintro W' ⟨s1,s2⟩
   go_simp
   with_reducible rfl
  refine wpAnyH_take (i:=9) (v:=?_) rfl (by kernel_rfl) (by kernel_rfl) (by kernel_rfl) (fun _ _ _ h=>h) (Or.inl ⟨by kernel_rfl,?_⟩) hS1 ?_
  rotate_left
  ·rintro W' ⟨s1,s2⟩
   go_simp
   with_reducible rfl
  refine wpAnyH_take (i:=10) (v:=?_) rfl (by kernel_rfl) (by kernel_rfl) (by kernel_rfl) (fun _ _ _ h=>h) (Or.inl ⟨by kernel_rfl,?_⟩) hS1 ?_
  rotate_left
  ·rintro W' ⟨s1,s2⟩
   go_simp
   with_reducible rfl
  have cR3:w4.cell? ⟨w.heap.size+1+1,3,none⟩=some (.slice none 0 0):=(jh R4.out 3).trans rfl
  have fR3:=jd R4.out 3
  have x1:=jO R4.out 3 (.slice A4 H'.length c4) rfl
  have M5:=am (mfarA M4.out (show m≠w.heap.size+1+1 by omega) 3 (.slice A4 H'.length c4))
  have E5:=am (mfarA E4.out (show w.heap.size≠w.heap.size+1+1 by omega) 3 (.slice A4 H'.length c4))
  have Z5:=am (mfarA Z4.out (show w.heap.size+1≠w.heap.size+1+1 by omega) 3 (.slice A4 H'.length c4))
  have X1:=am x1
  clear x1
  have hS2:(fun W':World=>W'.cell? ⟨m,3,none⟩=some vh∧W'.cell? ⟨w.heap.size,1,none⟩=some (.int .i64 f)) (w4.setCell ⟨w.heap.size+1+1,3,none⟩ (.slice A4 H'.length c4)):=⟨(jh M5.out 3).trans rfl,(jh E5.out 1).trans rfl⟩
  refine wpAnyH_all (rs:=[11]) (by kernel_rfl) (by simp) ?_
  intro ii hii
  obtain rfl:ii=11:=by simpa using hii
  clear hii
  refine wpOp_step rfl (fun K hK=>?_)
  go_simp
  refine hK _ _ ⟨hS2,?_⟩
  clear hK K hS1 cR3 fR3
  refine wpAnyH_take (i:=12) (v:=?_) rfl (by kernel_rfl) (by kernel_rfl) (by kernel_rfl) (fun _ _ _ h=>h) (Or.inl ⟨by kernel_rfl,?_⟩) hS2 ?_
  rotate_left
  ·rintro W' ⟨s1,s2⟩
   go_simp
   with_reducible rfl
  obtain ⟨Y5,hY5⟩:∃ Y5,w4.setCell ⟨w.heap.size+1+1,3,none⟩ (.slice A4 H'.length c4)=Y5:=⟨_,rfl⟩
  have x1:=X1.out;have m5:=M5.out;have e5:=E5.out;have z5:=Z5.out
  have b5:=B4.out.setCell (p:=⟨w.heap.size+1+1,3,none⟩) (by simp;omega) (.slice A4 H'.length c4)
  have h5:=Kd.jub H4.out R4.out (by decide) 3 (.slice A4 H'.length c4)
  rw [hY5] at x1 m5 e5 z5 b5 h5 hS2
  rw [hY5]
  clear hY5 X1 M5 E5 Z5 B4 H4 M4 E4 R4 Z4
  have cR2:Y5.cell? ⟨w.heap.size+1+1,2,none⟩=some (.int .i64 f):=(jh x1 2).trans rfl
  have fR2:=jd x1 2
  have X2:=am (jO x1 2 (.int .i64 f') rfl)
  have M6:=am (mfarA m5 (show m≠w.heap.size+1+1 by omega) 2 (.int .i64 f'))
  have E6:=am (mfarA e5 (show w.heap.size≠w.heap.size+1+1 by omega) 2 (.int .i64 f'))
  have Z6:=am (mfarA z5 (show w.heap.size+1≠w.heap.size+1+1 by omega) 2 (.int .i64 f'))
  have B6:=am (b5.setCell (p:=⟨w.heap.size+1+1,2,none⟩) (by simp;omega) (.int .i64 f'))
  have H6:=am (Kd.jub h5 x1 (by decide) 2 (.int .i64 f'))
  clear x1 m5 e5 z5 b5 h5
  have hS3:(fun W':World=>W'.cell? ⟨m,3,none⟩=some vh∧W'.cell? ⟨w.heap.size,1,none⟩=some (.int .i64 f)) (Y5.setCell ⟨w.heap.size+1+1,2,none⟩ (.int .i64 f')):=⟨(jh M6.out 3).trans rfl,(jh E6.out 1).trans rfl⟩
  refine wpAnyH_all (rs:=[13]) (by kernel_rfl) (by simp) ?_
  intro ii hii
  obtain rfl:ii=13:=by simpa using hii
  clear hii
  refine wpOp_step rfl (fun K hK=>?_)
  go_simp
  refine hK _ _ ⟨hS3,?_⟩
  clear hK K hS2 cR2 fR2
  refine wpAnyH_done (by kernel_rfl) ?_ _
  rename_i K9 hK9
  refine hK9 _ _ ?_
  clear hK9 hS3
  go_simp
  obtain ⟨Y6,hY6⟩:∃ Y6,Y5.setCell ⟨w.heap.size+1+1,2,none⟩ (.int .i64 f')=Y6:=⟨_,rfl⟩
  have x1:=X2.out;have z5:=Z6.out;have b5:=B6.out;have h5:=H6.out
  rw [hY6] at x1 z5 b5 h5
  rw [hY6]
  clear hY6 X2 Z6 B6 H6 M6 E6
  have cR0:Y6.cell? ⟨w.heap.size+1+1,0,none⟩=some (.slice Al n n):=(jh x1 0).trans rfl
  have cR1:Y6.cell? ⟨w.heap.size+1+1,1,none⟩=some (.int .i64 2):=(jh x1 1).trans rfl
  have cR2:Y6.cell? ⟨w.heap.size+1+1,2,none⟩=some (.int .i64 f'):=(jh x1 2).trans rfl
  have cR3:Y6.cell? ⟨w.heap.size+1+1,3,none⟩=some (.slice A4 H'.length c4):=(jh x1 3).trans rfl
  have cZ0:Y6.cell? ⟨w.heap.size+1,0,none⟩=some (.slice none 0 0):=(jh z5 0).trans rfl
  have cZ1:Y6.cell? ⟨w.heap.size+1,1,none⟩=some (.int .i64 0):=(jh z5 1).trans rfl
  have cZ2:Y6.cell? ⟨w.heap.size+1,2,none⟩=some (.int .i64 0):=(jh z5 2).trans rfl
  have cZ3:Y6.cell? ⟨w.heap.size+1,3,none⟩=some (.slice none 0 0):=(jh z5 3).trans rfl
  have fZ0:=jd z5 0
  have fZ1:=jd z5 1
  have fZ2:=jd z5 2
  have fZ3:=jd z5 3
  have hZw:=jta z5
  have ZZ:=am z5;have BB:=am b5;have HH:=am h5
  clear x1 z5 b5 h5
  go_wp2
  have y1:=jO ZZ.out 0 (.slice Al n n) rfl
  have y2:=jO y1 1 (.int .i64 2) rfl
  have y3:=jO y2 2 (.int .i64 f') rfl
  have y4:=jO y3 3 (.slice A4 H'.length c4) rfl
  have zH:=Kd.jub (Kd.jub (Kd.jub (Kd.jub HH.out ZZ.out (by decide) 0 (.slice Al n n)) y1 (by decide) 1 (.int .i64 2)) y2 (by decide) 2 (.int .i64 f')) y3 (by decide) 3 (.slice A4 H'.length c4)
  refine bodyPost_ret (results_cell_row rfl _ _ (w.heap.size+1) 55 #[.slice Al n n, .int .i64 2, .int .i64 f', .slice A4 H'.length c4] (0,0) _ rfl y4 Try.underlying55 rfl (by kernel_rfl)) rfl ?_
  exact ⟨_,rfl,zH,(((BB.out.setCell (p:=⟨w.heap.size+1,0,none⟩) (by simp <;> omega) _).setCell (p:=⟨w.heap.size+1,1,none⟩) (by simp <;> omega) _).setCell (p:=⟨w.heap.size+1,2,none⟩) (by simp <;> omega) _).setCell (p:=⟨w.heap.size+1,3,none⟩) (by simp <;> omega) _⟩
def ceEnd (k : Nat) (s : MSt) : Option (List Int × Int × Int × List S90) := if 0 ≤ s.2.2 then (jX.f k s.2.1 s.2.2).bind fun q => some (s.1, 2, q.2, q.1) else some (s.1, 0, 0, [])
def jLb.f (k : Nat) (l0_0 : List S106) (l1 : List S44) (a2_0 : Bool) (a2_1 a2_2 : Int) : Option (List Int × Int × Int × List S90) := (jWa.f k l0_0 l1 a2_0 a2_1 a2_2).bind (ceEnd k)
set_option maxHeartbeats 8000000 in
set_option maxRecDepth 100000 in
theorem jLb.calls (k : Nat) (A0_0 : Option Addr) (c0_0 : Nat) (l0_0 : List S106) (A1 : Option Addr) (c1 : Nat) (l1 : List S44) (a2_0 : Bool) (a2_1 a2_2 : Int) (r1 : List Int) (r2 : Int) (r3 : Int) (r4 : List (S90)) (w : World) (hr0_0 : Kd.C k106 w A0_0 l0_0.length l0_0) (hc0_0 : l0_0.length ≤ c0_0) (hr1 : Kd.C k44 w A1 l1.length l1) (hc1 : l1.length ≤ c1) (h : jLb.f k l0_0 l1 a2_0 a2_1 a2_2 = some (r1, r2, r3, r4)) :
  Calls Try.prog 57 #[.agg #[.slice A0_0 l0_0.length c0_0], .slice A1 l1.length c1, .agg #[.bool a2_0, .int .i64 a2_1, .int .i64 a2_2]] w fun e w'=>∃ v0_ v1_:Value,e=.returned (.agg #[v0_, .int .i64 r2, .int .i64 r3,v1_])∧Kd.R (Kd.int .i64) 3 w' w.heap.size (fun _=>True) v0_ r1∧Kd.R k90 90 w' w.heap.size (fun _=>True) v1_ r4∧Below w.heap.size w w':=by
 obtain ⟨s,hs,h⟩:=bzS h
 have hu31:=Try.underlying31
 have hu50:=Try.underlying50
 have hu55:=Try.underlying55
 have hu129:=Try.underlying129
 have hB3:Below w.heap.size w (((w.alloc (.cells #[.slice A0_0 l0_0.length c0_0] 31)).alloc (.cells #[.bool a2_0, .int .i64 a2_1, .int .i64 a2_2] 50)).alloc (.cells #[.slice none 0 0, .int .i64 0, .int .i64 0, .slice none 0 0] 55)):=(((Below.refl w.heap.size w).alloc (Nat.le_refl _) _).alloc (by simp) _).alloc (by simp;omega) _
 have hB5:Below w.heap.size w (((((w.alloc (.cells #[.slice A0_0 l0_0.length c0_0] 31)).alloc (.cells #[.bool a2_0, .int .i64 a2_1, .int .i64 a2_2] 50)).alloc (.cells #[.slice none 0 0, .int .i64 0, .int .i64 0, .slice none 0 0] 55)).alloc (.cells #[.slice A0_0 l0_0.length c0_0] 31)).alloc (.cells #[.slice A0_0 l0_0.length c0_0, .slice none 0 0, .slice none 0 0, .slice none 0 0, .int .i64 (-1)] 110)):=(hB3.alloc (by simp;omega) _).alloc (by simp;omega) _
 have HC:=am (jWa.calls k A0_0 c0_0 l0_0 A1 c1 l1 a2_0 a2_1 a2_2 (w.heap.size+1+1+1+1) (.slice none 0 0) (-1) s (((((w.alloc (.cells #[.slice A0_0 l0_0.length c0_0] 31)).alloc (.cells #[.bool a2_0, .int .i64 a2_1, .int .i64 a2_2] 50)).alloc (.cells #[.slice none 0 0, .int .i64 0, .int .i64 0, .slice none 0 0] 55)).alloc (.cells #[.slice A0_0 l0_0.length c0_0] 31)).alloc (.cells #[.slice A0_0 l0_0.length c0_0, .slice none 0 0, .slice none 0 0, .slice none 0 0, .int .i64 (-1)] 110)) (by have h:=heap_alloc_new ((((w.alloc (.cells #[.slice A0_0 l0_0.length c0_0] 31)).alloc (.cells #[.bool a2_0, .int .i64 a2_1, .int .i64 a2_2] 50)).alloc (.cells #[.slice none 0 0, .int .i64 0, .int .i64 0, .slice none 0 0] 55)).alloc (.cells #[.slice A0_0 l0_0.length c0_0] 31)) (.cells #[.slice A0_0 l0_0.length c0_0, .slice none 0 0, .slice none 0 0, .slice none 0 0, .int .i64 (-1)] 110);simpa only [World.size_alloc] using h) (Kd.C_kept_came k106_heap hr0_0 hB5 (fun k hk=>by omega)) hc0_0 (Kd.C_kept_came k44_heap hr1 hB5 (fun k hk=>by omega)) hc1 hs)
 have Z5:=am (show (((((w.alloc (.cells #[.slice A0_0 l0_0.length c0_0] 31)).alloc (.cells #[.bool a2_0, .int .i64 a2_1, .int .i64 a2_2] 50)).alloc (.cells #[.slice none 0 0, .int .i64 0, .int .i64 0, .slice none 0 0] 55)).alloc (.cells #[.slice A0_0 l0_0.length c0_0] 31)).alloc (.cells #[.slice A0_0 l0_0.length c0_0, .slice none 0 0, .slice none 0 0, .slice none 0 0, .int .i64 (-1)] 110)).heap[w.heap.size+1+1]?=some (.cells #[.slice none 0 0, .int .i64 0, .int .i64 0, .slice none 0 0] 55 (0,0)) from ja (ja (by have h:=heap_alloc_new ((w.alloc (.cells #[.slice A0_0 l0_0.length c0_0] 31)).alloc (.cells #[.bool a2_0, .int .i64 a2_1, .int .i64 a2_2] 50)) (.cells #[.slice none 0 0, .int .i64 0, .int .i64 0, .slice none 0 0] 55);simpa only [World.size_alloc] using h) _) _)
 have BB:=am hB5
 clear hs hr0_0 hr1 hB3 hB5
 go_enter Try.func57,Try.ntmps57
 go_upto_if 16 with (first |(go_at_call 39;go_loud (refine (mm_new A0_0 c0_0 l0_0 none 0 0 _).mono ?_;rintro e w1 ⟨rfl,rfl⟩)) |(go_at_call 40;refine HC.out.mono ?_;clear HC;rintro e w4 ⟨rfl,⟨vl,vh,hm,hl,hh⟩,hK,hB0⟩))
 have hsz:(((((w.alloc (.cells #[.slice A0_0 l0_0.length c0_0] 31)).alloc (.cells #[.bool a2_0, .int .i64 a2_1, .int .i64 a2_2] 50)).alloc (.cells #[.slice none 0 0, .int .i64 0, .int .i64 0, .slice none 0 0] 55)).alloc (.cells #[.slice A0_0 l0_0.length c0_0] 31)).alloc (.cells #[.slice A0_0 l0_0.length c0_0, .slice none 0 0, .slice none 0 0, .slice none 0 0, .int .i64 (-1)] 110)).heap.size=w.heap.size+1+1+1+1+1:=by simp
 have BW:=am (show Below w.heap.size w w4 from BB.out.trans ⟨hB0.os,hB0.tape,hB0.output,hB0.size,fun k hk=>hK.2 k (Nat.lt_of_lt_of_le hk BB.out.size) (by omega)⟩)
 have CZ:=am (jcc Z5.out hK (by omega))
 have hlow:w.heap.size≤(((((w.alloc (.cells #[.slice A0_0 l0_0.length c0_0] 31)).alloc (.cells #[.bool a2_0, .int .i64 a2_1, .int .i64 a2_2] 50)).alloc (.cells #[.slice none 0 0, .int .i64 0, .int .i64 0, .slice none 0 0] 55)).alloc (.cells #[.slice A0_0 l0_0.length c0_0] 31)).alloc (.cells #[.slice A0_0 l0_0.length c0_0, .slice none 0 0, .slice none 0 0, .slice none 0 0, .int .i64 (-1)] 110)).heap.size:=by omega
 have hl:=Kd.jua hl hlow
 have hh:=Kd.jua hh hlow
 obtain ⟨Al,cl,rfl⟩:=Kd.jja hl
 obtain ⟨Ah,ch,rfl⟩:=Kd.jja hh
 have hcl:s.1.length≤cl:=(Kd.jE hl).2.1
 have hch:s.2.1.length≤ch:=(Kd.jE hh).2.1
 have CL:=am (Kd.R_clip hl (rfl:s.1=s.1))
 have CM:=am hm
 have HH:=am hh
 clear hm hl hh hK hB0 BB Z5 hlow hsz
 unfold ceEnd at h
 by_cases hf:0≤s.2.2
 ·rw [if_pos hf] at h
  obtain ⟨q,hq,h⟩:=bzS h
  simp only [Option.some.injEq,Prod.mk.injEq] at h
  obtain ⟨rfl,rfl,rfl,rfl⟩:=h
  have KI4:=am (fun W (hb:Below w4.heap.size w4 W)=>jX.calls k Ah ch s.2.1 s.2.2 q.1 q.2 W (Kd.jka (Kd.jE HH.out).2.2 hb) hch hq)
  have q0:=dzF (show ¬ s.2.2<0 by omega)
  rw [q0]
  clear hf HH hq q0
  go_wp2_with (go_at_call 86;go_loud (refine (mres2 (w.heap.size+1+1+1+1) _ _ _ _ Al s.1.length cl hcl s.2.2 w4 CM.out q.1 q.2 (KI4.out)).mono ?_;rintro e w5 ⟨v5,rfl,h5,hb5⟩;have H5:=am (Kd.jua h5 (show w.heap.size≤w4.heap.size from BW.out.size));obtain ⟨A5,c5,rfl⟩:=Kd.jja h5;clear h5;have Z5:=am (je CZ.out hb5);have L5:=am (Kd.jM CL.out hb5);have B5:=am (BW.out.trans (hb5.mono BW.out.size));clear hb5 CM CZ CL BW KI4;have cZ0:w5.cell? ⟨w.heap.size+1+1,0,none⟩=some (.slice none 0 0):=(jh Z5.out 0).trans rfl;have fZ0:=jd Z5.out 0;have cZ1:w5.cell? ⟨w.heap.size+1+1,1,none⟩=some (.int .i64 0):=(jh Z5.out 1).trans rfl;have fZ1:=jd Z5.out 1;have cZ2:w5.cell? ⟨w.heap.size+1+1,2,none⟩=some (.int .i64 0):=(jh Z5.out 2).trans rfl;have fZ2:=jd Z5.out 2;have cZ3:w5.cell? ⟨w.heap.size+1+1,3,none⟩=some (.slice none 0 0):=(jh Z5.out 3).trans rfl;have fZ3:=jd Z5.out 3;have hZw:=jta Z5.out))
  have y1:=jO Z5.out 0 (.slice Al s.1.length s.1.length) rfl
  have y2:=jO y1 1 (.int .i64 2) rfl
  have y3:=jO y2 2 (.int .i64 q.2) rfl
  have y4:=jO y3 3 (.slice A5 q.1.length c5) rfl
  have zL:=Kd.jub (Kd.jub (Kd.jub (Kd.jub (L5.out) Z5.out (by decide) 0 (.slice Al s.1.length s.1.length)) y1 (by decide) 1 (.int .i64 2)) y2 (by decide) 2 (.int .i64 q.2)) y3 (by decide) 3 (.slice A5 q.1.length c5)
  have zH:=Kd.jub (Kd.jub (Kd.jub (Kd.jub (H5.out) Z5.out (by decide) 0 (.slice Al s.1.length s.1.length)) y1 (by decide) 1 (.int .i64 2)) y2 (by decide) 2 (.int .i64 q.2)) y3 (by decide) 3 (.slice A5 q.1.length c5)
  refine bodyPost_ret (results_cell_row rfl _ _ (w.heap.size+1+1) 55 #[.slice Al s.1.length s.1.length, .int .i64 2, .int .i64 q.2, .slice A5 q.1.length c5] (0,0) _ rfl y4 Try.underlying55 rfl (by kernel_rfl)) rfl ?_
  exact ⟨_,_,rfl,zL,zH,((((B5.out).setCell (p:=⟨w.heap.size+1+1,0,none⟩) (by simp <;> omega) _).setCell (p:=⟨w.heap.size+1+1,1,none⟩) (by simp <;> omega) _).setCell (p:=⟨w.heap.size+1+1,2,none⟩) (by simp <;> omega) _).setCell (p:=⟨w.heap.size+1+1,3,none⟩) (by simp <;> omega) _⟩
 ·rw [if_neg hf] at h
  simp only [Option.some.injEq,Prod.mk.injEq] at h
  obtain ⟨rfl,rfl,rfl,rfl⟩:=h
  have q0:=dzT (show s.2.2<0 by omega)
  rw [q0]
  clear hf HH q0
  go_wp2_with (go_at_call 86;go_loud (refine (mres0 (w.heap.size+1+1+1+1) _ _ _ _ Al s.1.length cl hcl w4 CM.out).mono ?_;rintro e w5 ⟨rfl,hb5⟩;have Z5:=am (je CZ.out hb5);have L5:=am (Kd.jM CL.out hb5);have B5:=am (BW.out.trans (hb5.mono BW.out.size));clear hb5 CM CZ CL BW;have cZ0:w5.cell? ⟨w.heap.size+1+1,0,none⟩=some (.slice none 0 0):=(jh Z5.out 0).trans rfl;have fZ0:=jd Z5.out 0;have cZ1:w5.cell? ⟨w.heap.size+1+1,1,none⟩=some (.int .i64 0):=(jh Z5.out 1).trans rfl;have fZ1:=jd Z5.out 1;have cZ2:w5.cell? ⟨w.heap.size+1+1,2,none⟩=some (.int .i64 0):=(jh Z5.out 2).trans rfl;have fZ2:=jd Z5.out 2;have cZ3:w5.cell? ⟨w.heap.size+1+1,3,none⟩=some (.slice none 0 0):=(jh Z5.out 3).trans rfl;have fZ3:=jd Z5.out 3;have hZw:=jta Z5.out))
  have y1:=jO Z5.out 0 (.slice Al s.1.length s.1.length) rfl
  have y2:=jO y1 1 (.int .i64 0) rfl
  have y3:=jO y2 2 (.int .i64 0) rfl
  have y4:=jO y3 3 (.slice none 0 0) rfl
  have zL:=Kd.jub (Kd.jub (Kd.jub (Kd.jub (L5.out) Z5.out (by decide) 0 (.slice Al s.1.length s.1.length)) y1 (by decide) 1 (.int .i64 0)) y2 (by decide) 2 (.int .i64 0)) y3 (by decide) 3 (.slice none 0 0)
  refine bodyPost_ret (results_cell_row rfl _ _ (w.heap.size+1+1) 55 #[.slice Al s.1.length s.1.length, .int .i64 0, .int .i64 0, .slice none 0 0] (0,0) _ rfl y4 Try.underlying55 rfl (by kernel_rfl)) rfl ?_
  exact ⟨_,_,rfl,zL,Kd.R_nil _ _ _ _ _,((((B5.out).setCell (p:=⟨w.heap.size+1+1,0,none⟩) (by simp <;> omega) _).setCell (p:=⟨w.heap.size+1+1,1,none⟩) (by simp <;> omega) _).setCell (p:=⟨w.heap.size+1+1,2,none⟩) (by simp <;> omega) _).setCell (p:=⟨w.heap.size+1+1,3,none⟩) (by simp <;> omega) _⟩
def jKa.f (k : Nat) (l0_0 : List S106) (l1 : List S44) (a2_0 : Bool) (a2_1 a2_2 : Int) : Option (List Int × Int × Int × List S90) := (jxa.f k l0_0 l1).bind fun v => if v = true then ((jnb.f a2_0 a2_1 a2_2 l0_0).bind fun u => if u = true then jLb.f k l0_0 l1 a2_0 a2_1 a2_2 else some ([], 0, 0, [])) else some ([], 0, 0, [])
set_option maxHeartbeats 8000000 in
set_option maxRecDepth 100000 in
theorem jKa.calls (k : Nat) (A0_0 : Option Addr) (c0_0 : Nat) (l0_0 : List S106) (A1 : Option Addr) (c1 : Nat) (l1 : List S44) (a2_0 : Bool) (a2_1 a2_2 : Int) (r1 : List Int) (r2 : Int) (r3 : Int) (r4 : List (S90)) (w : World) (hr0_0 : Kd.C k106 w A0_0 l0_0.length l0_0) (hc0_0 : l0_0.length ≤ c0_0) (hr1 : Kd.C k44 w A1 l1.length l1) (hc1 : l1.length ≤ c1) (h : jKa.f k l0_0 l1 a2_0 a2_1 a2_2 = some (r1, r2, r3, r4)) :
  Calls Try.prog 23 #[.agg #[.slice A0_0 l0_0.length c0_0], .slice A1 l1.length c1, .agg #[.bool a2_0, .int .i64 a2_1, .int .i64 a2_2]] w fun e w'=>∃ v0_ v1_:Value,e=.returned (.agg #[v0_, .int .i64 r2, .int .i64 r3,v1_])∧Kd.R (Kd.int .i64) 3 w' w.heap.size (fun _=>True) v0_ r1∧Kd.R k90 90 w' w.heap.size (fun _=>True) v1_ r4∧Below w.heap.size w w':=by
 obtain ⟨v,hv,h⟩:=bzS h
 have hu31:=Try.underlying31
 have hu50:=Try.underlying50
 have hu55:=Try.underlying55
 have HB:=am (show Below w.heap.size w (((w.alloc (.cells #[.slice A0_0 l0_0.length c0_0] 31)).alloc (.cells #[.bool a2_0, .int .i64 a2_1, .int .i64 a2_2] 50)).alloc (.cells #[.slice none 0 0, .int .i64 0, .int .i64 0, .slice none 0 0] 55)) from (((Below.refl w.heap.size w).alloc (Nat.le_refl _) _).alloc (by simp) _).alloc (by simp;omega) _)
 have ZB:=am (show (((w.alloc (.cells #[.slice A0_0 l0_0.length c0_0] 31)).alloc (.cells #[.bool a2_0, .int .i64 a2_1, .int .i64 a2_2] 50)).alloc (.cells #[.slice none 0 0, .int .i64 0, .int .i64 0, .slice none 0 0] 55)).heap[w.heap.size+1+1]?=some (.cells #[.slice none 0 0, .int .i64 0, .int .i64 0, .slice none 0 0] 55 (0,0)) by have h:=heap_alloc_new ((w.alloc (.cells #[.slice A0_0 l0_0.length c0_0] 31)).alloc (.cells #[.bool a2_0, .int .i64 a2_1, .int .i64 a2_2] 50)) (.cells #[.slice none 0 0, .int .i64 0, .int .i64 0, .slice none 0 0] 55);simpa only [World.size_alloc] using h)
 have TB:=am (show (((w.alloc (.cells #[.slice A0_0 l0_0.length c0_0] 31)).alloc (.cells #[.bool a2_0, .int .i64 a2_1, .int .i64 a2_2] 50)).alloc (.cells #[.slice none 0 0, .int .i64 0, .int .i64 0, .slice none 0 0] 55)).heap[w.heap.size]?=some (.cells #[.slice A0_0 l0_0.length c0_0] 31 (0,0)) from ja (ja (heap_alloc_new w (.cells #[.slice A0_0 l0_0.length c0_0] 31)) _) _)
 have SB:=am (show (((w.alloc (.cells #[.slice A0_0 l0_0.length c0_0] 31)).alloc (.cells #[.bool a2_0, .int .i64 a2_1, .int .i64 a2_2] 50)).alloc (.cells #[.slice none 0 0, .int .i64 0, .int .i64 0, .slice none 0 0] 55)).heap[w.heap.size+1]?=some (.cells #[.bool a2_0, .int .i64 a2_1, .int .i64 a2_2] 50 (0,0)) from ja (by have h:=heap_alloc_new (w.alloc (.cells #[.slice A0_0 l0_0.length c0_0] 31)) (.cells #[.bool a2_0, .int .i64 a2_1, .int .i64 a2_2] 50);simpa only [World.size_alloc] using h) _)
 have HV:=am (fun W (hb:Below w.heap.size w W)=>jxa.calls k A0_0 c0_0 l0_0 A1 c1 l1 v W (Kd.jka hr0_0 hb) hc0_0 (Kd.jka hr1 hb) hc1 hv)
 cases v with
 | false =>
  rw [if_neg (by simp)] at h
  simp only [Option.some.injEq,Prod.mk.injEq] at h
  obtain ⟨rfl,rfl,rfl,rfl⟩:=h
  clear hv hr0_0 hr1
  go_enter Try.func23,Try.ntmps23
  go_wp2_with (go_at_call 17;refine (HV.out _ HB.out).mono ?_;clear HV;rintro e w1 ⟨rfl,hb1⟩;have Z1:=am (je ZB.out hb1);have T1:=am (je TB.out hb1);have S1:=am (je SB.out hb1);have B1:=am (HB.out.trans (hb1.mono HB.out.size));have cT:=(jh T1.out 0).trans rfl;have cS0:=(jh S1.out 0).trans rfl;have cS1:=(jh S1.out 1).trans rfl;have cS2:=(jh S1.out 2).trans rfl;clear hb1 HB ZB TB SB;have ZF:=Z1;have BF:=B1;have cZ0:w1.cell? ⟨w.heap.size+1+1,0,none⟩=some (.slice none 0 0):=(jh ZF.out 0).trans rfl;have fZ0:=jd ZF.out 0;have cZ1:w1.cell? ⟨w.heap.size+1+1,1,none⟩=some (.int .i64 0):=(jh ZF.out 1).trans rfl;have fZ1:=jd ZF.out 1;have cZ2:w1.cell? ⟨w.heap.size+1+1,2,none⟩=some (.int .i64 0):=(jh ZF.out 2).trans rfl;have fZ2:=jd ZF.out 2;have cZ3:w1.cell? ⟨w.heap.size+1+1,3,none⟩=some (.slice none 0 0):=(jh ZF.out 3).trans rfl;have fZ3:=jd ZF.out 3;have hZw:=jta ZF.out)
  have y1:=jO ZF.out 0 (.slice none 0 0) rfl
  have y2:=jO y1 1 (.int .i64 0) rfl
  have y3:=jO y2 2 (.int .i64 0) rfl
  have y4:=jO y3 3 (.slice none 0 0) rfl
  refine bodyPost_ret (results_cell_row rfl _ _ (w.heap.size+1+1) 55 #[.slice none 0 0, .int .i64 0, .int .i64 0, .slice none 0 0] (0,0) _ rfl y4 Try.underlying55 rfl (by kernel_rfl)) rfl ?_
  exact ⟨_,_,rfl,Kd.R_nil _ _ _ _ _,Kd.R_nil _ _ _ _ _,((((BF.out).setCell (p:=⟨w.heap.size+1+1,0,none⟩) (by simp <;> omega) _).setCell (p:=⟨w.heap.size+1+1,1,none⟩) (by simp <;> omega) _).setCell (p:=⟨w.heap.size+1+1,2,none⟩) (by simp <;> omega) _).setCell (p:=⟨w.heap.size+1+1,3,none⟩) (by simp <;> omega) _⟩
 | true =>
  rw [if_pos rfl] at h
  obtain ⟨u,hu,h⟩:=bzS h
  have HU:=am (fun W (hb:Below w.heap.size w W)=>jnb.calls a2_0 a2_1 a2_2 A0_0 c0_0 l0_0 u W (Kd.jka hr0_0 hb) hc0_0 hu)
  cases u with
  | false =>
   rw [if_neg (by simp)] at h
   simp only [Option.some.injEq,Prod.mk.injEq] at h
   obtain ⟨rfl,rfl,rfl,rfl⟩:=h
   clear hv hu hr0_0 hr1
   go_enter Try.func23,Try.ntmps23
   go_wp2_with (first |(go_at_call 17;refine (HV.out _ HB.out).mono ?_;clear HV;rintro e w1 ⟨rfl,hb1⟩;have Z1:=am (je ZB.out hb1);have T1:=am (je TB.out hb1);have S1:=am (je SB.out hb1);have B1:=am (HB.out.trans (hb1.mono HB.out.size));have cT:=(jh T1.out 0).trans rfl;have cS0:=(jh S1.out 0).trans rfl;have cS1:=(jh S1.out 1).trans rfl;have cS2:=(jh S1.out 2).trans rfl;clear hb1 HB ZB TB SB) |(go_at_call 56;refine (HU.out _ B1.out).mono ?_;clear HU cT cS0 cS1 cS2;rintro e w2 ⟨rfl,hb2⟩;have Z2:=am (je Z1.out hb2);have T2:=am (je T1.out hb2);have S2:=am (je S1.out hb2);have B2:=am (B1.out.trans (hb2.mono B1.out.size));have cT:=(jh T2.out 0).trans rfl;have cS0:=(jh S2.out 0).trans rfl;have cS1:=(jh S2.out 1).trans rfl;have cS2:=(jh S2.out 2).trans rfl;clear hb2 B1 Z1 T1 S1;have ZF:=Z2;have BF:=B2;have cZ0:w2.cell? ⟨w.heap.size+1+1,0,none⟩=some (.slice none 0 0):=(jh ZF.out 0).trans rfl;have fZ0:=jd ZF.out 0;have cZ1:w2.cell? ⟨w.heap.size+1+1,1,none⟩=some (.int .i64 0):=(jh ZF.out 1).trans rfl;have fZ1:=jd ZF.out 1;have cZ2:w2.cell? ⟨w.heap.size+1+1,2,none⟩=some (.int .i64 0):=(jh ZF.out 2).trans rfl;have fZ2:=jd ZF.out 2;have cZ3:w2.cell? ⟨w.heap.size+1+1,3,none⟩=some (.slice none 0 0):=(jh ZF.out 3).trans rfl;have fZ3:=jd ZF.out 3;have hZw:=jta ZF.out))
   have y1:=jO ZF.out 0 (.slice none 0 0) rfl
   have y2:=jO y1 1 (.int .i64 0) rfl
   have y3:=jO y2 2 (.int .i64 0) rfl
   have y4:=jO y3 3 (.slice none 0 0) rfl
   refine bodyPost_ret (results_cell_row rfl _ _ (w.heap.size+1+1) 55 #[.slice none 0 0, .int .i64 0, .int .i64 0, .slice none 0 0] (0,0) _ rfl y4 Try.underlying55 rfl (by kernel_rfl)) rfl ?_
   exact ⟨_,_,rfl,Kd.R_nil _ _ _ _ _,Kd.R_nil _ _ _ _ _,((((BF.out).setCell (p:=⟨w.heap.size+1+1,0,none⟩) (by simp <;> omega) _).setCell (p:=⟨w.heap.size+1+1,1,none⟩) (by simp <;> omega) _).setCell (p:=⟨w.heap.size+1+1,2,none⟩) (by simp <;> omega) _).setCell (p:=⟨w.heap.size+1+1,3,none⟩) (by simp <;> omega) _⟩
  | true =>
   rw [if_pos rfl] at h
   have HX:=am (fun W (hb:Below w.heap.size w W)=>jLb.calls k A0_0 c0_0 l0_0 A1 c1 l1 a2_0 a2_1 a2_2 r1 r2 r3 r4 W (Kd.jka hr0_0 hb) hc0_0 (Kd.jka hr1 hb) hc1 h)
   clear hv hu hr0_0 hr1 h
   go_enter Try.func23,Try.ntmps23
   go_wp2_with (first |(go_at_call 17;refine (HV.out _ HB.out).mono ?_;clear HV;rintro e w1 ⟨rfl,hb1⟩;have Z1:=am (je ZB.out hb1);have T1:=am (je TB.out hb1);have S1:=am (je SB.out hb1);have B1:=am (HB.out.trans (hb1.mono HB.out.size));have cT:=(jh T1.out 0).trans rfl;have cS0:=(jh S1.out 0).trans rfl;have cS1:=(jh S1.out 1).trans rfl;have cS2:=(jh S1.out 2).trans rfl;clear hb1 HB ZB TB SB) |(go_at_call 56;refine (HU.out _ B1.out).mono ?_;clear HU cT cS0 cS1 cS2;rintro e w2 ⟨rfl,hb2⟩;have Z2:=am (je Z1.out hb2);have T2:=am (je T1.out hb2);have S2:=am (je S1.out hb2);have B2:=am (B1.out.trans (hb2.mono B1.out.size));have cT:=(jh T2.out 0).trans rfl;have cS0:=(jh S2.out 0).trans rfl;have cS1:=(jh S2.out 1).trans rfl;have cS2:=(jh S2.out 2).trans rfl;clear hb2 B1 Z1 T1 S1) |(go_at_call 57;refine (HX.out _ B2.out).mono ?_;clear HX cT cS0 cS1 cS2;rintro e w3 ⟨v0,v1,rfl,h0,h1,hb3⟩;have L0:=am (Kd.jua h0 B2.out.size);have L1:=am (Kd.jua h1 B2.out.size);obtain ⟨A5,c5,rfl⟩:=Kd.jja h0;obtain ⟨A6,c6,rfl⟩:=Kd.jja h1;clear h0 h1;have ZF:=am (je Z2.out hb3);have BF:=am (B2.out.trans (hb3.mono B2.out.size));clear hb3 B2 Z2 T2 S2;have cZ0:w3.cell? ⟨w.heap.size+1+1,0,none⟩=some (.slice none 0 0):=(jh ZF.out 0).trans rfl;have fZ0:=jd ZF.out 0;have cZ1:w3.cell? ⟨w.heap.size+1+1,1,none⟩=some (.int .i64 0):=(jh ZF.out 1).trans rfl;have fZ1:=jd ZF.out 1;have cZ2:w3.cell? ⟨w.heap.size+1+1,2,none⟩=some (.int .i64 0):=(jh ZF.out 2).trans rfl;have fZ2:=jd ZF.out 2;have cZ3:w3.cell? ⟨w.heap.size+1+1,3,none⟩=some (.slice none 0 0):=(jh ZF.out 3).trans rfl;have fZ3:=jd ZF.out 3;have hZw:=jta ZF.out))
   have y1:=jO ZF.out 0 (.slice A5 r1.length c5) rfl
   have y2:=jO y1 1 (.int .i64 r2) rfl
   have y3:=jO y2 2 (.int .i64 r3) rfl
   have y4:=jO y3 3 (.slice A6 r4.length c6) rfl
   refine bodyPost_ret (results_cell_row rfl _ _ (w.heap.size+1+1) 55 #[.slice A5 r1.length c5, .int .i64 r2, .int .i64 r3, .slice A6 r4.length c6] (0,0) _ rfl y4 Try.underlying55 rfl (by kernel_rfl)) rfl ?_
   exact ⟨_,_,rfl,Kd.jub (Kd.jub (Kd.jub (Kd.jub (L0.out) ZF.out (by decide) 0 (.slice A5 r1.length c5)) y1 (by decide) 1 (.int .i64 r2)) y2 (by decide) 2 (.int .i64 r3)) y3 (by decide) 3 (.slice A6 r4.length c6),Kd.jub (Kd.jub (Kd.jub (Kd.jub (L1.out) ZF.out (by decide) 0 (.slice A5 r1.length c5)) y1 (by decide) 1 (.int .i64 r2)) y2 (by decide) 2 (.int .i64 r3)) y3 (by decide) 3 (.slice A6 r4.length c6),((((BF.out).setCell (p:=⟨w.heap.size+1+1,0,none⟩) (by simp <;> omega) _).setCell (p:=⟨w.heap.size+1+1,1,none⟩) (by simp <;> omega) _).setCell (p:=⟨w.heap.size+1+1,2,none⟩) (by simp <;> omega) _).setCell (p:=⟨w.heap.size+1+1,3,none⟩) (by simp <;> omega) _⟩
theorem jSa {w : World} {b : Nat} {v : Value} {l : List Value} {t : TypeId} (h : w.heap[b]? = some (.cells ⟨v :: l⟩ t (0, 0))) : w.cell? ⟨b, 0, none⟩ = some v := (jh h 0).trans rfl
theorem cellA1 {w : World} {b : Nat} {v v1 : Value} {l : List Value} {t : TypeId} (h : w.heap[b]? = some (.cells ⟨v :: v1 :: l⟩ t (0, 0))) : w.cell? ⟨b, 1, none⟩ = some v1 := (jh h 1).trans rfl
theorem cellA2 {w : World} {b : Nat} {v v1 v2 : Value} {l : List Value} {t : TypeId} (h : w.heap[b]? = some (.cells ⟨v :: v1 :: v2 :: l⟩ t (0, 0))) : w.cell? ⟨b, 2, none⟩ = some v2 := (jh h 2).trans rfl
theorem cellA3 {w : World} {b : Nat} {v v1 v2 v3 : Value} {l : List Value} {t : TypeId} (h : w.heap[b]? = some (.cells ⟨v :: v1 :: v2 :: v3 :: l⟩ t (0, 0))) : w.cell? ⟨b, 3, none⟩ = some v3 := (jh h 3).trans rfl
def hpIn (a lo hi : Int) : Bool := decide (lo ≤ a) && decide (a ≤ hi)
theorem hp_within (a lo hi : Int) : jza.f a lo hi = some (hpIn a lo hi) := by
 unfold jza.f hpIn
 by_cases h:a≥lo
 ·rw [if_pos h];simp [show lo≤a from h]
 ·rw [if_neg h];simp [show ¬ lo≤a from h]
theorem hp_has (l : List S106) (a : Int) : jra.f l a = some (hpIn a 0 (wrap64 ((l.length : Int) - 1))) := by unfold jra.f; rw [hp_within]; rfl
theorem hp_code (a : Int) : jAa.f a = some (hpIn a 0 99) := by unfold jAa.f; rw [hp_within]; rfl
def hpLk (m : Nat) (i z : Int) : Bool := decide (z = -1) || (hpIn z 0 ((m : Int) - 1) && decide (z ≠ i))
def hpBad (t : List S106) (m : Nat) (i : Int) (x : S90) : Bool := !hpIn x.f0 0 (wrap64 ((t.length : Int) - 1)) || (!hpIn x.f1 0 99 || (!hpLk m i x.f2 || !hpLk m i x.f3))
def hpAny (t : List S106) (h : List S90) : Nat → Nat → Bool
 | 0,_=>false
 | n+1,i=>if hpBad t h.length (i:Int) (jo h (i:Int))=true then true else hpAny t h n (i+1)
def hpEnds (k : Nat) (h : List S90) : Nat → Nat → Option Bool
 | 0,_=>some true
 | n+1,i=>(jCa.f k h (i:Int)).bind fun l=>if 1≤l.length then (ctxF h (rd l ((l.length:Int) - 1))).bind fun c=>if c = -1 then hpEnds k h n (i+1) else some false else none
def jbb.f (k : Nat) (l0_0 : List S106) (l1_0 : List S90) : Option Bool :=
 if hpAny l0_0 l1_0 l1_0.length 0=true then some false else (hpEnds k l1_0 l1_0.length 0).bind fun b=>if b=true then ((jI.f k l0_0).bind fun v=>some (if v=true then decide ((l1_0.length:Int)≤24) else false)) else some false
set_option maxHeartbeats 8000000 in
set_option maxRecDepth 100000 in
theorem jqc (A_ : Option Addr) (c_ : Nat) (m : Nat) (i z : Int) (B0 : Nat) (w : World) (hm : m ≤ 9223372036854775807) (hc : w.cell? ⟨B0, 0, none⟩ = some (.slice A_ m c_)) :
  Calls Try.prog 113 #[.int .i64 i, .int .i64 z, .pointer (some ⟨B0,0,none⟩)] w fun e w'=>e=.returned (.bool (hpLk m i z))∧Below w.heap.size w w':=by
 have HB:=am (Below.refl w.heap.size w)
 have hu53:=Try.underlying53
 have hw2:IntKind.i64.wrap ((m:Int) - 1)=(m:Int) - 1:=IntWalk.i64_in _ (by omega)
 by_cases h0:z = -1
 ·subst h0
  have HZ:=am (by simp [hpLk]:hpLk m i (-1)=true)
  go_enter Try.func113,Try.ntmps113
  go_wp2
  go_ret
  exact ⟨by rw [HZ.out];rfl,(bq)⟩
 ·have hb0:(z == -1)=false:=by simpa using h0
  by_cases h1:z≥0
  ·have hb1:=dzT h1
   by_cases h2:z≤(m:Int) - 1
   ·have hb2:=dzT h2
    by_cases h3:z=i
    ·have hb3:(z != i)=false:=by simpa using h3
     have HZ:=am (by subst h3;simp [hpLk,h0]:hpLk m i z=false)
     clear h0 h1 h2 h3
     go_enter Try.func113,Try.ntmps113
     go_wp2
     go_ret
     exact ⟨by rw [HZ.out];rfl,(bq)⟩
    ·have hb3:(z != i)=true:=by simpa using h3
     have HZ:=am (by simp [hpLk,h0,h3,hpIn];omega:hpLk m i z=true)
     clear h0 h1 h2 h3
     go_enter Try.func113,Try.ntmps113
     go_wp2
     go_ret
     exact ⟨by rw [HZ.out];rfl,(bq)⟩
   ·have hb2:=dzF h2
    have HZ:=am (by simp [hpLk,h0,hpIn];omega:hpLk m i z=false)
    clear h0 h1 h2
    go_enter Try.func113,Try.ntmps113
    go_wp2
    go_ret
    exact ⟨by rw [HZ.out];rfl,(bq)⟩
  ·have hb1:=dzF h1
   have HZ:=am (by simp [hpLk,h0,hpIn];omega:hpLk m i z=false)
   clear h0 h1
   go_enter Try.func113,Try.ntmps113
   go_wp2
   go_ret
   exact ⟨by rw [HZ.out];rfl,(bq)⟩
set_option maxHeartbeats 8000000 in
set_option maxRecDepth 100000 in
theorem jbb.calls (k : Nat) (A0_0 : Option Addr) (c0_0 : Nat) (l0_0 : List (S106)) (A0 : Option Addr) (c0 : Nat) (l0 : List (S90)) (r : Bool) (w : World) (hr0_0 : Kd.C k106 w A0_0 l0_0.length l0_0) (hc0_0 : l0_0.length ≤ c0_0) (hr0 : Kd.C k90 w A0 l0.length l0) (hc0 : l0.length ≤ c0) (h : jbb.f k l0_0 l0 = some r) :
  Calls Try.prog 87 #[.agg #[.slice A0_0 l0_0.length c0_0], .agg #[.slice A0 l0.length c0]] w fun e w'=>e=.returned (.bool r)∧Below w.heap.size w w':=by
 have hu53:=Try.underlying53
 have hu31:=Try.underlying31
 have hu90:=Try.underlying90
 have hm:l0.length≤9223372036854775807:=Kd.C_max hr0
 have HRT:=am hr0_0
 have HRH:=am hr0
 have hcT:=hc0_0
 have hcH:=hc0
 have H':=am h
 have HB:=am (((Below.refl w.heap.size w).alloc (Nat.le_refl _) (.cells #[.slice A0_0 l0_0.length c0_0] 31)).alloc (by simp) (.cells #[.slice A0 l0.length c0] 53))
 have BT:=am (ja (heap_alloc_new w (.cells #[.slice A0_0 l0_0.length c0_0] 31)) (.cells #[.slice A0 l0.length c0] 53))
 have BH:=am (show ((w.alloc (.cells #[.slice A0_0 l0_0.length c0_0] 31)).alloc (.cells #[.slice A0 l0.length c0] 53)).heap[w.heap.size+1]?=some (.cells #[.slice A0 l0.length c0] 53 (0,0)) by have h:=heap_alloc_new (w.alloc (.cells #[.slice A0_0 l0_0.length c0_0] 31)) (.cells #[.slice A0 l0.length c0] 53);simpa only [World.size_alloc] using h)
 have hmH:=hm
 clear hr0_0 hr0 h hc0_0 hc0
 go_enter Try.func87,Try.ntmps87
 go_wp2
 go_loopw [14] (fun v14 wr=>∃ i:Nat,i≤l0.length∧v14=.int .i64 i∧jv (hpAny l0_0 l0 (l0.length - i) i=hpAny l0_0 l0 l0.length 0)∧jv (wr.heap[w.heap.size]?=some (.cells #[.slice A0_0 l0_0.length c0_0] 31 (0,0)))∧jv (wr.heap[w.heap.size+1]?=some (.cells #[.slice A0 l0.length c0] 53 (0,0)))∧jv (Below w.heap.size w wr)) (fun v14 _=>l0.length - (intOf v14).toNat)
 case atStart=>exact ⟨0,Nat.zero_le _,rfl,⟨rfl⟩,BT,BH,HB⟩
 case round =>
  clear HB BT BH
  obtain ⟨i,hi,rfl,HA,BT,BH,HB⟩:=hrel
  have cT:=jSa BT.out
  have cH:=jSa BH.out
  by_cases hlt:i<l0.length
  ·obtain ⟨ad,rfl,x0,x1,x2,x3,x4⟩:=at_T90 (Kd.jka HRH.out HB.out) (i:Int) (by omega) (by omega)
   rw [Int.toNat_natCast] at x0 x1 x2 x3 x4
   have hneT:w.heap.size<wr.heap.size:=jta BT.out
   have hneH:w.heap.size+1<wr.heap.size:=jta BH.out
   have BX:=am (heap_alloc_new wr (.cells #[.int .i64 (jo l0 (i:Int)).f0, .int .i64 (jo l0 (i:Int)).f1, .int .i64 (jo l0 (i:Int)).f2, .int .i64 (jo l0 (i:Int)).f3, .bool (jo l0 (i:Int)).f4] 90))
   have HS:=am (show hpAny l0_0 l0 (l0.length - i) i=if hpBad l0_0 l0.length (i:Int) (jo l0 (i:Int))=true then true else hpAny l0_0 l0 (l0.length - (i+1)) (i+1) by rw [show l0.length - i=(l0.length - (i+1))+1 by omega];rfl)

   cases e0:hpIn (jo l0 (i:Int)).f0 0 (wrap64 ((l0_0.length:Int) - 1)) with
   | false =>
    have E0:=am (show jra.f l0_0 (jo l0 (i:Int)).f0=some false by rw [hp_has,e0])
    have HZ:=am (show r=false by have h:=H'.out;unfold jbb.f at h;rw [← HA.out,HS.out,if_pos (show hpBad l0_0 l0.length (i:Int) (jo l0 (i:Int))=true by simp [hpBad,e0]),if_pos rfl] at h;exact (Option.some.inj h).symm)
    clear e0 HA HS H'
    go_wp2_with (first |(go_at_call 83;refine (jra.calls _ _ _ _ false _ (Kd.jka HRT.out (bq)) hcT E0.out).mono ?_;rintro e w2 ⟨rfl,hb2⟩;have n0_:=am (je (g:=wr.heap.size) (o:=.cells #[.int .i64 (jo l0 (i:Int)).f0, .int .i64 (jo l0 (i:Int)).f1, .int .i64 (jo l0 (i:Int)).f2, .int .i64 (jo l0 (i:Int)).f3, .bool (jo l0 (i:Int)).f4] 90 (0,0)) (Y29) hb2);have n1_:=am (je (g:=w.heap.size) (o:=.cells #[.slice A0_0 l0_0.length c0_0] 31 (0,0)) (kq BT.out) hb2);have n2_:=am (je (g:=w.heap.size+1) (o:=.cells #[.slice (some ad) l0.length c0] 53 (0,0)) (kq BH.out) hb2);have n3_:=am (jk (bq) hb2);clear BX BT BH HB;(try clear cx0 cx1 cx2 cx3);have BX:=n0_;have BT:=n1_;have BH:=n2_;have HB:=n3_;clear n0_ n1_ n2_ n3_ hb2;have cT:=jSa BT.out;have cH:=jSa BH.out;have cx0:=jSa BX.out;have cx1:=cellA1 BX.out;have cx2:=cellA2 BX.out;have cx3:=cellA3 BX.out))
    go_ret
    exact ⟨by rw [HZ.out];rfl,(bq)⟩
   | true =>
    have E0:=am (show jra.f l0_0 (jo l0 (i:Int)).f0=some true by rw [hp_has,e0])
    cases e1:hpIn (jo l0 (i:Int)).f1 0 99 with
    | false =>
     have E1:=am (show jAa.f (jo l0 (i:Int)).f1=some false by rw [hp_code,e1])
     have HZ:=am (show r=false by have h:=H'.out;unfold jbb.f at h;rw [← HA.out,HS.out,if_pos (show hpBad l0_0 l0.length (i:Int) (jo l0 (i:Int))=true by simp [hpBad,e0,e1]),if_pos rfl] at h;exact (Option.some.inj h).symm)
     clear e0 e1 HA HS H'
     go_wp2_with (first |(go_at_call 83;refine (jra.calls _ _ _ _ true _ (Kd.jka HRT.out (bq)) hcT E0.out).mono ?_;rintro e w2 ⟨rfl,hb2⟩;have n0_:=am (je (g:=wr.heap.size) (o:=.cells #[.int .i64 (jo l0 (i:Int)).f0, .int .i64 (jo l0 (i:Int)).f1, .int .i64 (jo l0 (i:Int)).f2, .int .i64 (jo l0 (i:Int)).f3, .bool (jo l0 (i:Int)).f4] 90 (0,0)) (Y29) hb2);have n1_:=am (je (g:=w.heap.size) (o:=.cells #[.slice A0_0 l0_0.length c0_0] 31 (0,0)) (kq BT.out) hb2);have n2_:=am (je (g:=w.heap.size+1) (o:=.cells #[.slice (some ad) l0.length c0] 53 (0,0)) (kq BH.out) hb2);have n3_:=am (jk (bq) hb2);clear BX BT BH HB;(try clear cx0 cx1 cx2 cx3);have BX:=n0_;have BT:=n1_;have BH:=n2_;have HB:=n3_;clear n0_ n1_ n2_ n3_ hb2;have cT:=jSa BT.out;have cH:=jSa BH.out;have cx0:=jSa BX.out;have cx1:=cellA1 BX.out;have cx2:=cellA2 BX.out;have cx3:=cellA3 BX.out) |(go_at_call 82;refine (jAa.calls _ false _ E1.out).mono ?_;rintro e w3 ⟨rfl,hd3⟩;have hb3:=hd3.below;clear hd3;have n0_:=am (je (g:=wr.heap.size) (o:=.cells #[.int .i64 (jo l0 (i:Int)).f0, .int .i64 (jo l0 (i:Int)).f1, .int .i64 (jo l0 (i:Int)).f2, .int .i64 (jo l0 (i:Int)).f3, .bool (jo l0 (i:Int)).f4] 90 (0,0)) (Y29) hb3);have n1_:=am (je (g:=w.heap.size) (o:=.cells #[.slice A0_0 l0_0.length c0_0] 31 (0,0)) (kq BT.out) hb3);have n2_:=am (je (g:=w.heap.size+1) (o:=.cells #[.slice (some ad) l0.length c0] 53 (0,0)) (kq BH.out) hb3);have n3_:=am (jk (bq) hb3);clear BX BT BH HB;(try clear cx0 cx1 cx2 cx3);have BX:=n0_;have BT:=n1_;have BH:=n2_;have HB:=n3_;clear n0_ n1_ n2_ n3_ hb3;have cT:=jSa BT.out;have cH:=jSa BH.out;have cx0:=jSa BX.out;have cx1:=cellA1 BX.out;have cx2:=cellA2 BX.out;have cx3:=cellA3 BX.out))
     go_ret
     exact ⟨by rw [HZ.out];rfl,(bq)⟩
    | true =>
     have E1:=am (show jAa.f (jo l0 (i:Int)).f1=some true by rw [hp_code,e1])
     cases e2:hpLk l0.length (i:Int) (jo l0 (i:Int)).f2 with
     | false =>
      have E2:=am (e2)
      have HZ:=am (show r=false by have h:=H'.out;unfold jbb.f at h;rw [← HA.out,HS.out,if_pos (show hpBad l0_0 l0.length (i:Int) (jo l0 (i:Int))=true by simp [hpBad,e0,e1,e2]),if_pos rfl] at h;exact (Option.some.inj h).symm)
      clear e0 e1 e2 HA HS H'
      go_wp2_with (first |(go_at_call 83;refine (jra.calls _ _ _ _ true _ (Kd.jka HRT.out (bq)) hcT E0.out).mono ?_;rintro e w2 ⟨rfl,hb2⟩;have n0_:=am (je (g:=wr.heap.size) (o:=.cells #[.int .i64 (jo l0 (i:Int)).f0, .int .i64 (jo l0 (i:Int)).f1, .int .i64 (jo l0 (i:Int)).f2, .int .i64 (jo l0 (i:Int)).f3, .bool (jo l0 (i:Int)).f4] 90 (0,0)) (Y29) hb2);have n1_:=am (je (g:=w.heap.size) (o:=.cells #[.slice A0_0 l0_0.length c0_0] 31 (0,0)) (kq BT.out) hb2);have n2_:=am (je (g:=w.heap.size+1) (o:=.cells #[.slice (some ad) l0.length c0] 53 (0,0)) (kq BH.out) hb2);have n3_:=am (jk (bq) hb2);clear BX BT BH HB;(try clear cx0 cx1 cx2 cx3);have BX:=n0_;have BT:=n1_;have BH:=n2_;have HB:=n3_;clear n0_ n1_ n2_ n3_ hb2;have cT:=jSa BT.out;have cH:=jSa BH.out;have cx0:=jSa BX.out;have cx1:=cellA1 BX.out;have cx2:=cellA2 BX.out;have cx3:=cellA3 BX.out) |(go_at_call 82;refine (jAa.calls _ true _ E1.out).mono ?_;rintro e w3 ⟨rfl,hd3⟩;have hb3:=hd3.below;clear hd3;have n0_:=am (je (g:=wr.heap.size) (o:=.cells #[.int .i64 (jo l0 (i:Int)).f0, .int .i64 (jo l0 (i:Int)).f1, .int .i64 (jo l0 (i:Int)).f2, .int .i64 (jo l0 (i:Int)).f3, .bool (jo l0 (i:Int)).f4] 90 (0,0)) (Y29) hb3);have n1_:=am (je (g:=w.heap.size) (o:=.cells #[.slice A0_0 l0_0.length c0_0] 31 (0,0)) (kq BT.out) hb3);have n2_:=am (je (g:=w.heap.size+1) (o:=.cells #[.slice (some ad) l0.length c0] 53 (0,0)) (kq BH.out) hb3);have n3_:=am (jk (bq) hb3);clear BX BT BH HB;(try clear cx0 cx1 cx2 cx3);have BX:=n0_;have BT:=n1_;have BH:=n2_;have HB:=n3_;clear n0_ n1_ n2_ n3_ hb3;have cT:=jSa BT.out;have cH:=jSa BH.out;have cx0:=jSa BX.out;have cx1:=cellA1 BX.out;have cx2:=cellA2 BX.out;have cx3:=cellA3 BX.out) |(go_at_call 113;refine (jqc _ _ _ _ _ _ _ hmH cH).mono ?_;rw [E2.out];rintro e w4 ⟨rfl,hb4⟩;have n0_:=am (je (g:=wr.heap.size) (o:=.cells #[.int .i64 (jo l0 (i:Int)).f0, .int .i64 (jo l0 (i:Int)).f1, .int .i64 (jo l0 (i:Int)).f2, .int .i64 (jo l0 (i:Int)).f3, .bool (jo l0 (i:Int)).f4] 90 (0,0)) (Y29) hb4);have n1_:=am (je (g:=w.heap.size) (o:=.cells #[.slice A0_0 l0_0.length c0_0] 31 (0,0)) (kq BT.out) hb4);have n2_:=am (je (g:=w.heap.size+1) (o:=.cells #[.slice (some ad) l0.length c0] 53 (0,0)) (kq BH.out) hb4);have n3_:=am (jk (bq) hb4);clear BX BT BH HB;(try clear cx0 cx1 cx2 cx3);have BX:=n0_;have BT:=n1_;have BH:=n2_;have HB:=n3_;clear n0_ n1_ n2_ n3_ hb4;have cT:=jSa BT.out;have cH:=jSa BH.out;have cx0:=jSa BX.out;have cx1:=cellA1 BX.out;have cx2:=cellA2 BX.out;have cx3:=cellA3 BX.out))
      go_ret
      exact ⟨by rw [HZ.out];rfl,(bq)⟩
     | true =>
      have E2:=am (e2)
      cases e3:hpLk l0.length (i:Int) (jo l0 (i:Int)).f3 with
      | false =>
       have E3:=am (e3)
       have HZ:=am (show r=false by have h:=H'.out;unfold jbb.f at h;rw [← HA.out,HS.out,if_pos (show hpBad l0_0 l0.length (i:Int) (jo l0 (i:Int))=true by simp [hpBad,e0,e1,e2,e3]),if_pos rfl] at h;exact (Option.some.inj h).symm)
       clear e0 e1 e2 e3 HA HS H'
       go_wp2_with (first |(go_at_call 83;refine (jra.calls _ _ _ _ true _ (Kd.jka HRT.out (bq)) hcT E0.out).mono ?_;rintro e w2 ⟨rfl,hb2⟩;have n0_:=am (je (g:=wr.heap.size) (o:=.cells #[.int .i64 (jo l0 (i:Int)).f0, .int .i64 (jo l0 (i:Int)).f1, .int .i64 (jo l0 (i:Int)).f2, .int .i64 (jo l0 (i:Int)).f3, .bool (jo l0 (i:Int)).f4] 90 (0,0)) (Y29) hb2);have n1_:=am (je (g:=w.heap.size) (o:=.cells #[.slice A0_0 l0_0.length c0_0] 31 (0,0)) (kq BT.out) hb2);have n2_:=am (je (g:=w.heap.size+1) (o:=.cells #[.slice (some ad) l0.length c0] 53 (0,0)) (kq BH.out) hb2);have n3_:=am (jk (bq) hb2);clear BX BT BH HB;(try clear cx0 cx1 cx2 cx3);have BX:=n0_;have BT:=n1_;have BH:=n2_;have HB:=n3_;clear n0_ n1_ n2_ n3_ hb2;have cT:=jSa BT.out;have cH:=jSa BH.out;have cx0:=jSa BX.out;have cx1:=cellA1 BX.out;have cx2:=cellA2 BX.out;have cx3:=cellA3 BX.out) |(go_at_call 82;refine (jAa.calls _ true _ E1.out).mono ?_;rintro e w3 ⟨rfl,hd3⟩;have hb3:=hd3.below;clear hd3;have n0_:=am (je (g:=wr.heap.size) (o:=.cells #[.int .i64 (jo l0 (i:Int)).f0, .int .i64 (jo l0 (i:Int)).f1, .int .i64 (jo l0 (i:Int)).f2, .int .i64 (jo l0 (i:Int)).f3, .bool (jo l0 (i:Int)).f4] 90 (0,0)) (Y29) hb3);have n1_:=am (je (g:=w.heap.size) (o:=.cells #[.slice A0_0 l0_0.length c0_0] 31 (0,0)) (kq BT.out) hb3);have n2_:=am (je (g:=w.heap.size+1) (o:=.cells #[.slice (some ad) l0.length c0] 53 (0,0)) (kq BH.out) hb3);have n3_:=am (jk (bq) hb3);clear BX BT BH HB;(try clear cx0 cx1 cx2 cx3);have BX:=n0_;have BT:=n1_;have BH:=n2_;have HB:=n3_;clear n0_ n1_ n2_ n3_ hb3;have cT:=jSa BT.out;have cH:=jSa BH.out;have cx0:=jSa BX.out;have cx1:=cellA1 BX.out;have cx2:=cellA2 BX.out;have cx3:=cellA3 BX.out) |(go_at_call 113;refine (jqc _ _ _ _ _ _ _ hmH cH).mono ?_;(first | rw [E2.out] | rw [E3.out]);rintro e w4 ⟨rfl,hb4⟩;have n0_:=am (je (g:=wr.heap.size) (o:=.cells #[.int .i64 (jo l0 (i:Int)).f0, .int .i64 (jo l0 (i:Int)).f1, .int .i64 (jo l0 (i:Int)).f2, .int .i64 (jo l0 (i:Int)).f3, .bool (jo l0 (i:Int)).f4] 90 (0,0)) (Y29) hb4);have n1_:=am (je (g:=w.heap.size) (o:=.cells #[.slice A0_0 l0_0.length c0_0] 31 (0,0)) (kq BT.out) hb4);have n2_:=am (je (g:=w.heap.size+1) (o:=.cells #[.slice (some ad) l0.length c0] 53 (0,0)) (kq BH.out) hb4);have n3_:=am (jk (bq) hb4);clear BX BT BH HB;(try clear cx0 cx1 cx2 cx3);have BX:=n0_;have BT:=n1_;have BH:=n2_;have HB:=n3_;clear n0_ n1_ n2_ n3_ hb4;have cT:=jSa BT.out;have cH:=jSa BH.out;have cx0:=jSa BX.out;have cx1:=cellA1 BX.out;have cx2:=cellA2 BX.out;have cx3:=cellA3 BX.out))
       go_ret
       exact ⟨by rw [HZ.out];rfl,(bq)⟩
      | true =>
       have E3:=am (e3)
       have HN:=am (show hpAny l0_0 l0 (l0.length - (i+1)) (i+1)=hpAny l0_0 l0 l0.length 0 by rw [← HA.out,HS.out,if_neg (show ¬ hpBad l0_0 l0.length (i:Int) (jo l0 (i:Int))=true by simp [hpBad,e0,e1,e2,e3])])
       clear e0 e1 e2 e3 HA HS H'
       go_wp2_with (first |(go_at_call 83;refine (jra.calls _ _ _ _ true _ (Kd.jka HRT.out (bq)) hcT E0.out).mono ?_;rintro e w2 ⟨rfl,hb2⟩;have n0_:=am (je (g:=wr.heap.size) (o:=.cells #[.int .i64 (jo l0 (i:Int)).f0, .int .i64 (jo l0 (i:Int)).f1, .int .i64 (jo l0 (i:Int)).f2, .int .i64 (jo l0 (i:Int)).f3, .bool (jo l0 (i:Int)).f4] 90 (0,0)) (Y29) hb2);have n1_:=am (je (g:=w.heap.size) (o:=.cells #[.slice A0_0 l0_0.length c0_0] 31 (0,0)) (kq BT.out) hb2);have n2_:=am (je (g:=w.heap.size+1) (o:=.cells #[.slice (some ad) l0.length c0] 53 (0,0)) (kq BH.out) hb2);have n3_:=am (jk (bq) hb2);clear BX BT BH HB;(try clear cx0 cx1 cx2 cx3);have BX:=n0_;have BT:=n1_;have BH:=n2_;have HB:=n3_;clear n0_ n1_ n2_ n3_ hb2;have cT:=jSa BT.out;have cH:=jSa BH.out;have cx0:=jSa BX.out;have cx1:=cellA1 BX.out;have cx2:=cellA2 BX.out;have cx3:=cellA3 BX.out) |(go_at_call 82;refine (jAa.calls _ true _ E1.out).mono ?_;rintro e w3 ⟨rfl,hd3⟩;have hb3:=hd3.below;clear hd3;have n0_:=am (je (g:=wr.heap.size) (o:=.cells #[.int .i64 (jo l0 (i:Int)).f0, .int .i64 (jo l0 (i:Int)).f1, .int .i64 (jo l0 (i:Int)).f2, .int .i64 (jo l0 (i:Int)).f3, .bool (jo l0 (i:Int)).f4] 90 (0,0)) (Y29) hb3);have n1_:=am (je (g:=w.heap.size) (o:=.cells #[.slice A0_0 l0_0.length c0_0] 31 (0,0)) (kq BT.out) hb3);have n2_:=am (je (g:=w.heap.size+1) (o:=.cells #[.slice (some ad) l0.length c0] 53 (0,0)) (kq BH.out) hb3);have n3_:=am (jk (bq) hb3);clear BX BT BH HB;(try clear cx0 cx1 cx2 cx3);have BX:=n0_;have BT:=n1_;have BH:=n2_;have HB:=n3_;clear n0_ n1_ n2_ n3_ hb3;have cT:=jSa BT.out;have cH:=jSa BH.out;have cx0:=jSa BX.out;have cx1:=cellA1 BX.out;have cx2:=cellA2 BX.out;have cx3:=cellA3 BX.out) |(go_at_call 113;refine (jqc _ _ _ _ _ _ _ hmH cH).mono ?_;(first | rw [E2.out] | rw [E3.out]);rintro e w4 ⟨rfl,hb4⟩;have n0_:=am (je (g:=wr.heap.size) (o:=.cells #[.int .i64 (jo l0 (i:Int)).f0, .int .i64 (jo l0 (i:Int)).f1, .int .i64 (jo l0 (i:Int)).f2, .int .i64 (jo l0 (i:Int)).f3, .bool (jo l0 (i:Int)).f4] 90 (0,0)) (Y29) hb4);have n1_:=am (je (g:=w.heap.size) (o:=.cells #[.slice A0_0 l0_0.length c0_0] 31 (0,0)) (kq BT.out) hb4);have n2_:=am (je (g:=w.heap.size+1) (o:=.cells #[.slice (some ad) l0.length c0] 53 (0,0)) (kq BH.out) hb4);have n3_:=am (jk (bq) hb4);clear BX BT BH HB;(try clear cx0 cx1 cx2 cx3);have BX:=n0_;have BT:=n1_;have BH:=n2_;have HB:=n3_;clear n0_ n1_ n2_ n3_ hb4;have cT:=jSa BT.out;have cH:=jSa BH.out;have cx0:=jSa BX.out;have cx1:=cellA1 BX.out;have cx2:=cellA2 BX.out;have cx3:=cellA3 BX.out))
       go_roundw
       case rel=>exact ⟨i+1,hlt,by go_num,HN,⟨kq BT.out⟩,⟨kq BH.out⟩,⟨(bq)⟩⟩
       case measure=>simp [intOf];omega
  ·obtain rfl:i=l0.length:=by omega
   have HG:=am (show (hpEnds k l0 l0.length 0).bind (fun b=>if b=true then ((jI.f k l0_0).bind fun v=>some (if v=true then decide ((l0.length:Int)≤24) else false)) else some false)=some r by
    have h:=H'.out
    unfold jbb.f at h
    have hA:=HA.out
    rw [Nat.sub_self] at hA
    rw [if_neg (show ¬ hpAny l0_0 l0 l0.length 0=true by rw [← hA];simp [hpAny])] at h
    exact h)
   clear HA H'
   obtain ⟨b,hE,hG⟩:=bzS HG.out
   have HE:=am hE
   have HG2:=am hG
   clear HG hE hG
   go_wp2
   go_loopw [50] (fun v50 wr=>∃ j:Nat,j≤l0.length∧v50=.int .i64 j∧jv (hpEnds k l0 (l0.length - j) j=some b)∧jv (wr.heap[w.heap.size]?=some (.cells #[.slice A0_0 l0_0.length c0_0] 31 (0,0)))∧jv (wr.heap[w.heap.size+1]?=some (.cells #[.slice A0 l0.length c0] 53 (0,0)))∧jv (Below w.heap.size w wr)) (fun v50 _=>l0.length - (intOf v50).toNat)
   case atStart=>exact ⟨0,Nat.zero_le _,rfl,HE,BT,BH,HB⟩
   case round =>
    clear HB BT BH cT cH HE hlt
    obtain ⟨j,hj,rfl,HA,BT,BH,HB⟩:=hrel
    have cT:=jSa BT.out
    have cH:=jSa BH.out
    by_cases hlt:j<l0.length
    ·have hA:=HA.out
     rw [show l0.length - j=(l0.length - (j+1))+1 by omega,hpEnds] at hA
     obtain ⟨l,hl,hA⟩:=bzS hA
     have HC:=am (fun W (hb:Below w.heap.size w W)=>jCa.calls k A0 c0 l0 (j:Int) l W (Kd.jka HRH.out hb) hcH hl)
     clear HA hl
     by_cases hlen:1≤l.length
     ·rw [if_pos hlen] at hA
      obtain ⟨c,hc,hA⟩:=bzS hA
      unfold ctxF at hc
      obtain ⟨ji,hji⟩:∃ ji,ji=(l.length:Int) - 1:=⟨_,rfl⟩
      rw [← hji] at hc
      have HJ:=am hji
      by_cases hc1:0≤rd l ji
      ·rw [if_pos hc1] at hc
       by_cases hc2:rd l ji<(l0.length:Int)
       ·rw [if_pos hc2] at hc
        have hc3:=Option.some.inj hc
        clear hc
        have hl0:0≤ji:=by omega
        have hl1:ji<(l.length:Int):=by omega
        clear hji
        have p0:=ezT hc1
        have p1:=ezT hc2
        have p2:=ezT hl0
        have p3:=ezT hl1
        by_cases e1:c = -1
        ·rw [if_pos e1] at hA
         have HN:=am hA
         have hcb:((jo l0 (rd l ji)).f3 != -1)=false:=by rw [hc3];simpa using e1
         clear hA e1 hc3 hlen
         go_wp2_with (go_at_call 114;refine (HC.out _ (bq)).mono ?_;rintro e w2 ⟨v2,rfl,hr2,hb2⟩;have n1_:=am (je (g:=w.heap.size) (o:=.cells #[.slice A0_0 l0_0.length c0_0] 31 (0,0)) (kq BT.out) hb2);have n2_:=am (je (g:=w.heap.size+1) (o:=.cells #[.slice A0 l0.length c0] 53 (0,0)) (kq BH.out) hb2);have n3_:=am (jk (bq) hb2);clear BT BH HB;have BT:=n1_;have BH:=n2_;have HB:=n3_;clear n1_ n2_ n3_ hb2;have cT:=jSa BT.out;have cH:=jSa BH.out;obtain ⟨Ao,co,eo⟩:=Kd.jja hr2;subst eo;have hw2:IntKind.i64.wrap ((l.length:Int) - 1)=ji:=(by rw [HJ.out];exact IntWalk.i64_in _ (by have:=Kd.C_max (Kd.jE hr2).2.2;omega));obtain ⟨ad2,rfl,hz⟩:=Kd.jXb (Kd.jE hr2).2.2 ji hl0 hl1;obtain ⟨ad,e3,y0,y1,y2,y3,y4⟩:=at_T90 (Kd.jka HRH.out HB.out) (rd l ji) hc1 hc2;cases e3;clear hr2)
         repeat (go_quiet (fail);try go_wp2)
         go_roundw
         case rel=>exact ⟨j+1,hlt,by go_num,HN,⟨kq BT.out⟩,⟨kq BH.out⟩,⟨(bq)⟩⟩
         case measure=>simp [intOf];omega
        ·rw [if_neg e1] at hA
         have hcb:((jo l0 (rd l ji)).f3 != -1)=true:=by rw [hc3];simpa using e1
         have HZ:=am (show r=false by
          have h:=HG2.out
          rw [← Option.some.inj hA,if_neg (by simp)] at h
          exact (Option.some.inj h).symm)
         clear hA e1 hc3 hlen HG2
         go_wp2_with (go_at_call 114;refine (HC.out _ (bq)).mono ?_;rintro e w2 ⟨v2,rfl,hr2,hb2⟩;have n1_:=am (je (g:=w.heap.size) (o:=.cells #[.slice A0_0 l0_0.length c0_0] 31 (0,0)) (kq BT.out) hb2);have n2_:=am (je (g:=w.heap.size+1) (o:=.cells #[.slice A0 l0.length c0] 53 (0,0)) (kq BH.out) hb2);have n3_:=am (jk (bq) hb2);clear BT BH HB;have BT:=n1_;have BH:=n2_;have HB:=n3_;clear n1_ n2_ n3_ hb2;have cT:=jSa BT.out;have cH:=jSa BH.out;obtain ⟨Ao,co,eo⟩:=Kd.jja hr2;subst eo;have hw2:IntKind.i64.wrap ((l.length:Int) - 1)=ji:=(by rw [HJ.out];exact IntWalk.i64_in _ (by have:=Kd.C_max (Kd.jE hr2).2.2;omega));obtain ⟨ad2,rfl,hz⟩:=Kd.jXb (Kd.jE hr2).2.2 ji hl0 hl1;obtain ⟨ad,e3,y0,y1,y2,y3,y4⟩:=at_T90 (Kd.jka HRH.out HB.out) (rd l ji) hc1 hc2;cases e3;clear hr2)
         repeat (go_quiet (fail);try go_wp2)
         go_ret
         exact ⟨by rw [HZ.out];rfl,(bq)⟩
       ·rw [if_neg hc2] at hc;cases hc
      ·rw [if_neg hc1] at hc;cases hc
     ·rw [if_neg hlen] at hA;cases hA
    ·obtain rfl:j=l0.length:=by omega
     have hA:=HA.out
     rw [Nat.sub_self] at hA
     have hG:=HG2.out
     rw [← Option.some.inj (show some true=some b from hA),if_pos rfl] at hG
     obtain ⟨v,hv,hG⟩:=bzS hG
     have HV:=am (fun W (hb:Below w.heap.size w W)=>jI.calls k A0_0 c0_0 l0_0 v W (Kd.jka HRT.out hb) hcT hv)
     have hZ:=Option.some.inj hG
     clear HA HG2 hA hG hv
     cases v with
     | false =>
      have HZ:=am (show r=false by rw [← hZ];rfl)
      clear hZ
      go_wp2_with (go_at_call 48;refine (HV.out _ (bq)).mono ?_;rintro e w2 ⟨rfl,hb2⟩;have n1_:=am (je (g:=w.heap.size) (o:=.cells #[.slice A0_0 l0_0.length c0_0] 31 (0,0)) (kq BT.out) hb2);have n2_:=am (je (g:=w.heap.size+1) (o:=.cells #[.slice A0 l0.length c0] 53 (0,0)) (kq BH.out) hb2);have n3_:=am (jk (bq) hb2);clear BT BH HB;have BT:=n1_;have BH:=n2_;have HB:=n3_;clear n1_ n2_ n3_ hb2;have cT:=jSa BT.out;have cH:=jSa BH.out)
      go_ret
      exact ⟨by rw [HZ.out];rfl,(bq)⟩
     | true =>
      rw [if_pos rfl] at hZ
      have HZ:=am hZ
      clear hZ
      go_wp2_with (go_at_call 48;refine (HV.out _ (bq)).mono ?_;rintro e w2 ⟨rfl,hb2⟩;have n1_:=am (je (g:=w.heap.size) (o:=.cells #[.slice A0_0 l0_0.length c0_0] 31 (0,0)) (kq BT.out) hb2);have n2_:=am (je (g:=w.heap.size+1) (o:=.cells #[.slice A0 l0.length c0] 53 (0,0)) (kq BH.out) hb2);have n3_:=am (jk (bq) hb2);clear BT BH HB;have BT:=n1_;have BH:=n2_;have HB:=n3_;clear n1_ n2_ n3_ hb2;have cT:=jSa BT.out;have cH:=jSa BH.out)
      go_ret
      exact ⟨by rw [← HZ.out];rfl,(bq)⟩
set_option maxHeartbeats 8000000 in
set_option maxRecDepth 100000 in
theorem impl_faultsIn1_calls (A_ : Option Addr) (c_ : Nat) (m : Nat) (x : Int) (B0 : Nat) (w : World) (hm : m ≤ 9223372036854775807) (hc : w.cell? ⟨B0, 0, none⟩ = some (.slice A_ m c_)) :
  Calls Try.prog 89 #[.int .i64 x, .pointer (some ⟨B0,0,none⟩)] w fun e w'=>e=.returned (.bool (!hpIn x 0 ((m:Int) - 1)))∧Below w.heap.size w w':=by
 have HB:=am (Below.refl w.heap.size w)
 have hu53:=Try.underlying53
 have hw2:IntKind.i64.wrap ((m:Int) - 1)=(m:Int) - 1:=IntWalk.i64_in _ (by omega)
 by_cases h1:x≥0
 ·have hb1:=dzT h1
  by_cases h2:x≤(m:Int) - 1
  ·have hb2:=dzT h2
   have HZ:=am (by simp [hpIn];omega:hpIn x 0 ((m:Int) - 1)=true)
   clear h1 h2
   go_enter Try.func89,Try.ntmps89
   go_wp2
   go_ret
   exact ⟨by rw [HZ.out];rfl,(bq)⟩
  ·have hb2:=dzF h2
   have HZ:=am (by simp [hpIn];omega:hpIn x 0 ((m:Int) - 1)=false)
   clear h1 h2
   go_enter Try.func89,Try.ntmps89
   go_wp2
   go_ret
   exact ⟨by rw [HZ.out];rfl,(bq)⟩
 ·have hb1:=dzF h1
  have HZ:=am (by simp [hpIn];omega:hpIn x 0 ((m:Int) - 1)=false)
  clear h1
  go_enter Try.func89,Try.ntmps89
  go_wp2
  go_ret
  exact ⟨by rw [HZ.out];rfl,(bq)⟩
set_option maxHeartbeats 8000000 in
set_option maxRecDepth 100000 in
theorem impl_faultsIn_idx (A_ : Option Addr) (c_ : Nat) (l : List (Int)) (B0_ : Nat) (p : Int → Option Bool) (r : Int) (w : World) (hr : Kd.C (Kd.int .i64) w A_ l.length l) (h : idxFrom p l 0 = some r)
  (hp:∀ W,Below w.heap.size w W→∀ (x:Int) (b:Bool),p x=some b→Calls Try.prog 89 #[.int .i64 x, .pointer (some ⟨B0_,0,none⟩)] W fun e w'=>e=.returned (.bool b)∧Below W.heap.size W w') :
  Calls Try.prog 115 #[.slice A_ l.length c_, .func (.func 89) #[] #[.pointer (some ⟨B0_,0,none⟩)]] w fun e w'=>e=.returned (.int .i64 r)∧Below w.heap.size w w':=by
 have hm:l.length≤9223372036854775807:=Kd.C_max hr
 have HR:=am hr
 have HP:=am hp
 have H0:=am h
 clear hr hp h
 go_enter Try.func115,Try.ntmps115
 go_wp2
 go_loopw [5,8] (fun i5 i8 wr=>∃ k:Nat,k≤l.length∧i8=.int .i64 k∧jv (idxFrom p (l.drop k) k=some r)∧Below w.heap.size w wr) (fun _ i8 _=>l.length - (intOf i8).toNat)
 case atStart=>exact ⟨0,Nat.zero_le _,rfl,H0,Below.refl _ _⟩
 case round =>
  clear H0
  obtain ⟨k,hk,rfl,HA,hb⟩:=hrel
  by_cases hlt:k<l.length
  ·have HB:=am (idxFrom_step hlt HA.out)
   clear HA
   obtain ⟨ad,rfl,hx0⟩:=Kd.jXb HR.out (k:Int) (by omega) (by omega)
   have hrd:rd l (k:Int)=l[k]:=by simp [rd,List.getD_eq_getElem?_getD,hlt]
   replace hx0:=jia hb hx0
   rw [hrd] at hx0
   simp only [Int.toNat_natCast] at hx0
   clear hrd
   obtain ⟨b,hb1,hb0⟩:=HB.out
   have HQ:=am hb1
   clear hb1 HB
   cases b with
   | true =>
    have HZ:=am (by simpa using hb0:(k:Int)=r)
    clear hb0
    go_wp2_with (go_at_call 89;refine (HP.out _ hb _ _ HQ.out).mono ?_;rintro e w' ⟨rfl,hb2⟩)
    go_ret
    exact ⟨by rw [← HZ.out];rfl,job hb hb.size hb2⟩
   | false =>
    have HZ:=am (by simpa using hb0:idxFrom p (l.drop (k+1)) (k+1)=some r)
    clear hb0
    go_wp2_with (go_at_call 89;refine (HP.out _ hb _ _ HQ.out).mono ?_;rintro e w' ⟨rfl,hb2⟩)
    go_roundw
    case rel=>exact ⟨k+1,hlt,by go_num,HZ,job hb hb.size hb2⟩
    case measure=>simp [intOf];omega
  ·have HZ:=am (idxFrom_end (by omega) HA.out)
   clear HA
   go_wp2
   go_ret
   exact ⟨by rw [HZ.out];rfl,hb⟩
set_option maxHeartbeats 8000000 in
set_option maxRecDepth 100000 in
theorem impl_faultsIn_any (A_ : Option Addr) (c_ : Nat) (l : List Int) (B0_ : Nat) (p : Int → Option Bool) (r : Int) (w : World) (hr : Kd.C (Kd.int .i64) w A_ l.length l) (h : idxFrom p l 0 = some r)
  (hp:∀ W,Below w.heap.size w W→∀ (x:Int) (b:Bool),p x=some b→Calls Try.prog 89 #[.int .i64 x, .pointer (some ⟨B0_,0,none⟩)] W fun e w'=>e=.returned (.bool b)∧Below W.heap.size W w') :
  Calls Try.prog 88 #[.slice A_ l.length c_, .func (.func 89) #[] #[.pointer (some ⟨B0_,0,none⟩)]] w fun e w'=>e=.returned (.bool (decide (0≤r)))∧Below w.heap.size w w':=by
 have HF:=am (impl_faultsIn_idx A_ c_ l B0_ p r w hr h hp)
 clear hr h hp
 go_enter Try.func88,Try.ntmps88
 go_wp2_with (go_at_call 115;refine HF.out.mono ?_;rintro e w' ⟨rfl,hb2⟩)
 go_ret
 exact ⟨rfl,hb2⟩
def jdb.f (k : Nat) (l0_0 : List S106) (l1_0 : List S90) (l2 : List Int) : Option Bool := (jbb.f k l0_0 l1_0).bind fun v => if v then (idxFrom (fun x => some (!hpIn x 0 ((l1_0.length : Int) - 1))) l2 0).bind fun r => some (!decide (0 ≤ r)) else some false
set_option maxHeartbeats 8000000 in
set_option maxRecDepth 100000 in
theorem jdb.calls (k : Nat) (A0_0 : Option Addr) (c0_0 : Nat) (l0_0 : List (S106)) (A1_0 : Option Addr) (c1_0 : Nat) (l1_0 : List (S90)) (A2 : Option Addr) (c2 : Nat) (l2 : List Int) (r : Bool) (w : World) (hr0_0 : Kd.C k106 w A0_0 l0_0.length l0_0) (hc0_0 : l0_0.length ≤ c0_0) (hr1_0 : Kd.C k90 w A1_0 l1_0.length l1_0) (hc1_0 : l1_0.length ≤ c1_0) (hr2 : Kd.C (Kd.int .i64) w A2 l2.length l2) (hc2 : l2.length ≤ c2) (h : jdb.f k l0_0 l1_0 l2 = some r) :
  Calls Try.prog 58 #[.agg #[.slice A0_0 l0_0.length c0_0], .agg #[.slice A1_0 l1_0.length c1_0], .slice A2 l2.length c2] w fun e w'=>e=.returned (.bool r)∧Below w.heap.size w w':=by
 obtain ⟨v,hv,h⟩:=bzS h
 have hu31:=Try.underlying31
 have hu53:=Try.underlying53
 have hm:l1_0.length≤9223372036854775807:=Kd.C_max hr1_0
 have B0:=am (((Below.refl w.heap.size w).alloc (Nat.le_refl _) (.cells #[.slice A0_0 l0_0.length c0_0] 31)).alloc (by simp) (.cells #[.slice A1_0 l1_0.length c1_0] 53))
 have KC:=am (show ((w.alloc (.cells #[.slice A0_0 l0_0.length c0_0] 31)).alloc (.cells #[.slice A1_0 l1_0.length c1_0] 53)).cell? ⟨w.heap.size+1,0,none⟩=some (.slice A1_0 l1_0.length c1_0) by have h:=hp_cell_new (w.alloc (.cells #[.slice A0_0 l0_0.length c0_0] 31)) (.slice A1_0 l1_0.length c1_0) 53;simpa only [World.size_alloc] using h)
 have HV:=am (fun W (hb:Below w.heap.size w W)=>jbb.calls k A0_0 c0_0 l0_0 A1_0 c1_0 l1_0 v W (Kd.jka hr0_0 hb) hc0_0 (Kd.jka hr1_0 hb) hc1_0 hv)
 cases v with
 | false =>
  obtain rfl:false=r:=by simpa using h
  clear hv h hr0_0 hr1_0 hr2
  go_enter Try.func58,Try.ntmps58
  go_wp2_with (go_at_call 87;refine (HV.out _ B0.out).mono ?_;rintro e w' ⟨rfl,hb2⟩)
  go_ret
  exact ⟨rfl,job B0.out B0.out.size hb2⟩
 | true =>
  simp only [if_true] at h
  obtain ⟨q,hq,h⟩:=bzS h
  have HZ:=am (Option.some.inj h)
  have HF:=am (fun W (hb:Below w.heap.size w W) (B:Nat) (hc:W.cell? ⟨B,0,none⟩=some (.slice A1_0 l1_0.length c1_0))=>impl_faultsIn_any A2 c2 l2 B (fun x=>some (!hpIn x 0 ((l1_0.length:Int) - 1))) q W (Kd.jka hr2 hb) hq (fun W' hb' x b hx=>by
   obtain rfl:=Option.some.inj hx
   exact impl_faultsIn1_calls A1_0 c1_0 l1_0.length x B W' hm (jia hb' hc)))
  clear hv h hq hr0_0 hr1_0 hr2
  go_enter Try.func58,Try.ntmps58
  go_wp2_with (first |(go_at_call 87;refine (HV.out _ B0.out).mono ?_;rintro e w1 ⟨rfl,hb2⟩;have hb1:=job B0.out B0.out.size hb2;have hcell:=jia hb2 KC.out) |(go_at_call 88;refine (HF.out _ hb1 _ hcell).mono ?_;rintro e w2 ⟨rfl,hb3⟩))
  go_ret
  exact ⟨by rw [← HZ.out];rfl,job hb1 hb1.size hb3⟩
def jGa.f (k : Nat) (l0_0 : List (S106)) (l1_0 : List Int) (a1_1 : Int) (a1_2 : Int) (l1_3 : List (S90)) : Option (Bool × Int × Int × Bool) := (jI.f k l0_0).bind fun t660 => (if t660 = true then (if a1_1 = 0 then (some (false, 0, 0, true)) else (if a1_1 = 2 then ((jdb.f k l0_0 l1_3 (([a1_2] : List Int))).bind fun t664 => (if t664 = true then (if 0 ≤ a1_2 then (if a1_2 < (l1_3.length : Int) then (some (true, (jo l1_3 a1_2).f0, (jo l1_3 a1_2).f1, true)) else (none)) else (none)) else (some (false, 0, 0, false)))) else (some (false, 0, 0, false)))) else (some (false, 0, 0, false)))
set_option maxHeartbeats 8000000 in
set_option maxRecDepth 100000 in
theorem jGa.calls (k : Nat) (A0_0 : Option Addr) (c0_0 : Nat) (l0_0 : List (S106)) (A1_0 : Option Addr) (c1_0 : Nat) (l1_0 : List Int) (a1_1 : Int) (a1_2 : Int) (A1_3 : Option Addr) (c1_3 : Nat) (l1_3 : List (S90)) (r1 : Bool) (r2 : Int) (r3 : Int) (r4 : Bool) (w : World) (hr0_0 : Kd.C k106 w A0_0 l0_0.length l0_0) (hc0_0 : l0_0.length ≤ c0_0) (hr1_0 : Kd.C (Kd.int .i64) w A1_0 l1_0.length l1_0) (hc1_0 : l1_0.length ≤ c1_0) (hr1_3 : Kd.C k90 w A1_3 l1_3.length l1_3) (hc1_3 : l1_3.length ≤ c1_3) (h : jGa.f k l0_0 l1_0 a1_1 a1_2 l1_3 = some (r1, r2, r3, r4)) :
  Calls Try.prog 24 #[.agg #[.slice A0_0 l0_0.length c0_0], .agg #[.slice A1_0 l1_0.length c1_0, .int .i64 a1_1, .int .i64 a1_2, .slice A1_3 l1_3.length c1_3]] w fun e w'=>e=.returned (.tuple #[.agg #[.bool r1, .int .i64 r2, .int .i64 r3], .bool r4])∧Below w.heap.size w w':=by
 have hu31:=Try.underlying31
 have hu55:=Try.underlying55
 have hu50:=Try.underlying50
 have hu53:=Try.underlying53
 have hu90:=Try.underlying90
 have HR0_0:=am hr0_0
 have HC0_0:=am hc0_0
 clear hr0_0 hc0_0
 have HR1_0:=am hr1_0
 have HC1_0:=am hc1_0
 clear hr1_0 hc1_0
 have HR1_3:=am hr1_3
 have HC1_3:=am hc1_3
 clear hr1_3 hc1_3
 have HB:=am (Below.refl w.heap.size w)
 have H:((jI.f k l0_0).bind fun t660=>(if t660=true then (if a1_1=0 then (some (false,0,0,true)) else (if a1_1=2 then ((jdb.f k l0_0 l1_3 (([a1_2]:List Int))).bind fun t664=>(if t664=true then (if 0≤a1_2 then (if a1_2<(l1_3.length:Int) then (some (true,(jo l1_3 a1_2).f0,(jo l1_3 a1_2).f1,true)) else (none)) else (none)) else (some (false,0,0,false)))) else (some (false,0,0,false)))) else (some (false,0,0,false))))=some (r1,r2,r3,r4):=h
 clear h
 replace H:=bzS H
 obtain ⟨t660,A30,H⟩:=H
 replace H:(if t660=true then (if a1_1=0 then (some (false,0,0,true)) else (if a1_1=2 then ((jdb.f k l0_0 l1_3 (([a1_2]:List Int))).bind fun t664=>(if t664=true then (if 0≤a1_2 then (if a1_2<(l1_3.length:Int) then (some (true,(jo l1_3 a1_2).f0,(jo l1_3 a1_2).f1,true)) else (none)) else (none)) else (some (false,0,0,false)))) else (some (false,0,0,false)))) else (some (false,0,0,false)))=some (r1,r2,r3,r4):=H
 have A3:=am A30
 clear A30
 by_cases c4:t660=true
 ·subst c4
  have H1:(if a1_1=0 then (some (false,0,0,true)) else (if a1_1=2 then ((jdb.f k l0_0 l1_3 (([a1_2]:List Int))).bind fun t664=>(if t664=true then (if 0≤a1_2 then (if a1_2<(l1_3.length:Int) then (some (true,(jo l1_3 a1_2).f0,(jo l1_3 a1_2).f1,true)) else (none)) else (none)) else (some (false,0,0,false)))) else (some (false,0,0,false))))=some (r1,r2,r3,r4):=by rw [if_pos rfl] at H;exact H
  clear H
  have H:=H1
  clear H1
  by_cases c5:a1_1=0
  ·rw [if_pos c5] at H
   have c5b0:(a1_1 == 0)=true:=beq_iff_eq.mpr c5
   have c5b1:(a1_1 != 0)=false:=bne_eq_false_iff_eq.mpr c5
   clear c5
   simp only [Option.some.injEq,Prod.mk.injEq] at H
   obtain ⟨rfl,rfl,rfl,rfl⟩:=H
   go_enter Try.func24,Try.ntmps24
   go_wp2_with (first |((with_reducible refine jP (N:=2) rfl ?_);(try (refine jHa (by rfl) ?_;dsimp only));refine jOa ?hg (N:=2) ?hd (cs:=#[.slice A0_0 l0_0.length c0_0]) (t:=31) ?hr ?_;(case hd=>rfl);(case hg=>rfl);(case hr=>exact Y2);intro gb657 hg w6 hbox hb;have BK657:=am (hbox);have GW657:=am ((Y3:w.heap.size≤gb657));have GE657:=am ((Y3:w.heap.size≤gb657));replace HB:=am (jk (bq) hb);clear hb hbox hg) |((with_reducible refine jP (N:=3) rfl ?_);(try (refine jHa (by rfl) ?_;dsimp only));refine jOa ?hg (N:=3) ?hd (cs:=#[.slice A1_0 l1_0.length c1_0, .int .i64 a1_1, .int .i64 a1_2, .slice A1_3 l1_3.length c1_3]) (t:=55) ?hr ?_;(case hd=>rfl);(case hg=>rfl);(case hr=>exact Y2);intro gb658 hg w7 hbox hb;have BK658:=am (hbox);have GW658:=am ((Y39:w.heap.size≤gb658));have GE658:=am ((Y39:w.heap.size≤gb658));have NB657_658:=am ((Y34:gb657≠gb658));have NB658_657:=am ((Y35:gb658≠gb657));replace BK657:=am (je (g:=gb657) (o:=.cells #[.slice A0_0 l0_0.length c0_0] 31 (0,0)) (kq BK657.out) hb);replace HB:=am (jk (Y69) hb);clear hb hbox hg) |((with_reducible refine jP (N:=4) rfl ?_);(try (refine jHa (by rfl) ?_;dsimp only));refine jOa ?hg (N:=4) ?hd (cs:=#[.bool false, .int .i64 0, .int .i64 0]) (t:=50) ?hr ?_;(case hd=>rfl);(case hg=>rfl);(case hr=>exact Y2);intro gb659 hg w8 hbox hb;have BK659:=am (hbox);have GW659:=am ((Y40:w.heap.size≤gb659));have GE659:=am ((Y40:w.heap.size≤gb659));have NB657_659:=am ((Y34:gb657≠gb659));have NB659_657:=am ((Y35:gb659≠gb657));have NB658_659:=am ((Y70:gb658≠gb659));have NB659_658:=am ((Y71:gb659≠gb658));replace BK657:=am (je (g:=gb657) (o:=.cells #[.slice A0_0 l0_0.length c0_0] 31 (0,0)) (kq BK657.out) hb);replace BK658:=am (je (g:=gb658) (o:=.cells #[.slice A1_0 l1_0.length c1_0, .int .i64 a1_1, .int .i64 a1_2, .slice A1_3 l1_3.length c1_3] 55 (0,0)) (kq BK658.out) hb);replace HB:=am (jk (Y72) hb);clear hb hbox hg;have hnb9:=NB657_658.out;have hnc9:=NB658_657.out;have hnb10:=NB657_659.out;have hnc10:=NB659_657.out;have hcz11_0:=bc0 BK657.out;have hfz11_0:=jd BK657.out 0) |((with_reducible refine jy (f:=48) rfl ?_);refine gL (some 9) Try.func48 #[.agg #[.slice A0_0 l0_0.length c0_0]] ?_;(with_reducible refine (jI.calls k _ _ l0_0 true _ ?side1 ?side2 A3.out).mono ?_);(case side1=>exact cq (Kd.jka HR0_0.out HB.out));(case side2=>exact HC0_0.out);rintro e w12 ⟨rfl,hb⟩;refine ⟨_,rfl,?_⟩;replace BK657:=am (je (g:=gb657) (o:=.cells #[.slice A0_0 l0_0.length c0_0] 31 (0,0)) (kq BK657.out) hb);replace BK658:=am (je (g:=gb658) (o:=.cells #[.slice A1_0 l1_0.length c1_0, .int .i64 a1_1, .int .i64 a1_2, .slice A1_3 l1_3.length c1_3] 55 (0,0)) (kq BK658.out) hb);replace BK659:=am (je (g:=gb659) (o:=.cells #[.bool false, .int .i64 0, .int .i64 0] 50 (0,0)) (kq BK659.out) hb);replace HB:=am (jk (Y19) hb);(try clear hb);(try clear hb2);(try clear hk);(try clear hi);have hnb13:=NB658_659.out;have hnc13:=NB659_658.out;have hcz14_0:=bc0 BK658.out;have hcz14_1:=bc1 BK658.out;have hcz14_2:=bc2 BK658.out;have hcz14_3:=bc3 BK658.out;have hfz14_0:=jd BK658.out 0;have hfz14_1:=jd BK658.out 1;have hfz14_2:=jd BK658.out 2;have hfz14_3:=jd BK658.out 3;have hcz15_0:=bc0 BK659.out;have hcz15_1:=bc1 BK659.out;have hcz15_2:=bc2 BK659.out;have hfz15_0:=jd BK659.out 0;have hfz15_1:=jd BK659.out 1;have hfz15_2:=jd BK659.out 2))
   refine bodyPost_ret (jxb rfl _ _ gb659 50 #[.bool false, .int .i64 0, .int .i64 0] (0,0) _ rfl (Y89) Try.underlying50 rfl (by kernel_rfl)) rfl ?_
   exact ⟨Y0,Y19⟩
  ·rw [if_neg c5] at H
   have c5b0:(a1_1 == 0)=false:=beq_eq_false_iff_ne.mpr c5
   have c5b1:(a1_1 != 0)=true:=bne_iff_ne.mpr c5
   by_cases c16:a1_1=2
   ·rw [if_pos c16] at H
    have c16b0:(a1_1 == 2)=true:=beq_iff_eq.mpr c16
    have c16b1:(a1_1 != 2)=false:=bne_eq_false_iff_eq.mpr c16
    clear c16
    obtain ⟨y661,hy661⟩:∃ y_:List Int,y_=(([a1_2]:List Int)):=⟨_,rfl⟩
    replace H:((jdb.f k l0_0 l1_3 y661).bind fun t664=>(if t664=true then (if 0≤a1_2 then (if a1_2<(l1_3.length:Int) then (some (true,(jo l1_3 a1_2).f0,(jo l1_3 a1_2).f1,true)) else (none)) else (none)) else (some (false,0,0,false))))=some (r1,r2,r3,r4):=by first |(rw [hy661];with_reducible exact H) |(have H2_:=(Option.bind_some _ _).symm.trans H;rw [hy661];with_reducible exact H2_) |(have H2_:=(Option.bind_some _ _).symm.trans H;with_reducible exact H2_) | with_reducible exact H |(rw [hy661];exact H) | exact H
    have Ny661:=am hy661
    clear hy661
    replace H:=bzS H
    obtain ⟨t664,A170,H⟩:=H
    replace H:(if t664=true then (if 0≤a1_2 then (if a1_2<(l1_3.length:Int) then (some (true,(jo l1_3 a1_2).f0,(jo l1_3 a1_2).f1,true)) else (none)) else (none)) else (some (false,0,0,false)))=some (r1,r2,r3,r4):=H
    have A17:=am A170
    clear A170
    by_cases c18:t664=true
    ·subst c18
     have H1:(if 0≤a1_2 then (if a1_2<(l1_3.length:Int) then (some (true,(jo l1_3 a1_2).f0,(jo l1_3 a1_2).f1,true)) else (none)) else (none))=some (r1,r2,r3,r4):=by rw [if_pos rfl] at H;exact H
     clear H
     have H:=H1
     clear H1
     by_cases c19:0≤a1_2
     ·rw [if_pos c19] at H
      have c19b0:decide (0≤a1_2)=true:=dzT c19
      clear c19
      by_cases c20:a1_2<(l1_3.length:Int)
      ·rw [if_pos c20] at H
       have c20b0:decide (a1_2<(l1_3.length:Int))=true:=dzT c20
       clear c20
       simp only [Option.some.injEq,Prod.mk.injEq] at H
       obtain ⟨rfl,rfl,rfl,rfl⟩:=H
       go_enter Try.func24,Try.ntmps24
       go_wp2_with (first |((with_reducible refine jP (N:=2) rfl ?_);(try (refine jHa (by rfl) ?_;dsimp only));refine jOa ?hg (N:=2) ?hd (cs:=#[.slice A0_0 l0_0.length c0_0]) (t:=31) ?hr ?_;(case hd=>rfl);(case hg=>rfl);(case hr=>exact Y2);intro gb657 hg w21 hbox hb;have BK657:=am (hbox);have GW657:=am ((Y3:w.heap.size≤gb657));have GE657:=am ((Y3:w.heap.size≤gb657));replace HB:=am (jk (bq) hb);clear hb hbox hg) |((with_reducible refine jP (N:=3) rfl ?_);(try (refine jHa (by rfl) ?_;dsimp only));refine jOa ?hg (N:=3) ?hd (cs:=#[.slice A1_0 l1_0.length c1_0, .int .i64 a1_1, .int .i64 a1_2, .slice A1_3 l1_3.length c1_3]) (t:=55) ?hr ?_;(case hd=>rfl);(case hg=>rfl);(case hr=>exact Y2);intro gb658 hg w22 hbox hb;have BK658:=am (hbox);have GW658:=am ((Y39:w.heap.size≤gb658));have GE658:=am ((Y39:w.heap.size≤gb658));have NB657_658:=am ((Y34:gb657≠gb658));have NB658_657:=am ((Y35:gb658≠gb657));replace BK657:=am (je (g:=gb657) (o:=.cells #[.slice A0_0 l0_0.length c0_0] 31 (0,0)) (kq BK657.out) hb);replace HB:=am (jk (Y69) hb);clear hb hbox hg) |((with_reducible refine jP (N:=4) rfl ?_);(try (refine jHa (by rfl) ?_;dsimp only));refine jOa ?hg (N:=4) ?hd (cs:=#[.bool false, .int .i64 0, .int .i64 0]) (t:=50) ?hr ?_;(case hd=>rfl);(case hg=>rfl);(case hr=>exact Y2);intro gb659 hg w23 hbox hb;have BK659:=am (hbox);have GW659:=am ((Y40:w.heap.size≤gb659));have GE659:=am ((Y40:w.heap.size≤gb659));have NB657_659:=am ((Y34:gb657≠gb659));have NB659_657:=am ((Y35:gb659≠gb657));have NB658_659:=am ((Y70:gb658≠gb659));have NB659_658:=am ((Y71:gb659≠gb658));replace BK657:=am (je (g:=gb657) (o:=.cells #[.slice A0_0 l0_0.length c0_0] 31 (0,0)) (kq BK657.out) hb);replace BK658:=am (je (g:=gb658) (o:=.cells #[.slice A1_0 l1_0.length c1_0, .int .i64 a1_1, .int .i64 a1_2, .slice A1_3 l1_3.length c1_3] 55 (0,0)) (kq BK658.out) hb);replace HB:=am (jk (Y72) hb);clear hb hbox hg;have hnb24:=NB657_658.out;have hnc24:=NB658_657.out;have hnb25:=NB657_659.out;have hnc25:=NB659_657.out;have hcz26_0:=bc0 BK657.out;have hfz26_0:=jd BK657.out 0) |((with_reducible refine jy (f:=48) rfl ?_);refine gL (some 9) Try.func48 #[.agg #[.slice A0_0 l0_0.length c0_0]] ?_;(with_reducible refine (jI.calls k _ _ l0_0 true _ ?side1 ?side2 A3.out).mono ?_);(case side1=>exact cq (Kd.jka HR0_0.out HB.out));(case side2=>exact HC0_0.out);rintro e w27 ⟨rfl,hb⟩;refine ⟨_,rfl,?_⟩;replace BK657:=am (je (g:=gb657) (o:=.cells #[.slice A0_0 l0_0.length c0_0] 31 (0,0)) (kq BK657.out) hb);replace BK658:=am (je (g:=gb658) (o:=.cells #[.slice A1_0 l1_0.length c1_0, .int .i64 a1_1, .int .i64 a1_2, .slice A1_3 l1_3.length c1_3] 55 (0,0)) (kq BK658.out) hb);replace BK659:=am (je (g:=gb659) (o:=.cells #[.bool false, .int .i64 0, .int .i64 0] 50 (0,0)) (kq BK659.out) hb);replace HB:=am (jk (Y19) hb);(try clear hb);(try clear hb2);(try clear hk);(try clear hi);have hnb28:=NB658_659.out;have hnc28:=NB659_658.out;have hcz29_0:=bc0 BK658.out;have hcz29_1:=bc1 BK658.out;have hcz29_2:=bc2 BK658.out;have hcz29_3:=bc3 BK658.out;have hfz29_0:=jd BK658.out 0;have hfz29_1:=jd BK658.out 1;have hfz29_2:=jd BK658.out 2;have hfz29_3:=jd BK658.out 3;have hcz30_0:=bc0 BK657.out;have hfz30_0:=jd BK657.out 0) |((with_reducible refine jP (N:=27) rfl ?_);(try (refine jHa (by rfl) ?_;dsimp only));refine Kd.R_lit (Kd.int .i64) _ 3 ?hg (N:=27) ?hd (xs:=([a1_2]:List Int)) (inner:=[.int .i64 a1_2]) (ok:=fun _=>True) (okp:=fun _=>True) ?hr ?hp (fun _ hk=>hk) trivial (Below.refl _ _) (Nat.le_refl _) (by simp) ?_;(case hd=>rfl);(case hg=>rfl);(case hr=>exact Y2);(case hp=>exact (Reps.one (show Kd.M (Kd.int .i64) _ _ _ a1_2 [.int .i64 a1_2] from rfl) (Reps.none _ _)));intro v662 w31 ho32 hb hg_ hnew_;clear hg_ hnew_;(first | rw [← Ny661.out] at ho32 |(simp only [Int.reduceToNat] at ho32;rw [← Ny661.out] at ho32));have HO663:=am (Kd.jua ho32 (jY (Y19)));replace BK657:=am (je (g:=gb657) (o:=.cells #[.slice A0_0 l0_0.length c0_0] 31 (0,0)) (kq BK657.out) hb);replace BK658:=am (je (g:=gb658) (o:=.cells #[.slice A1_0 l1_0.length c1_0, .int .i64 a1_1, .int .i64 a1_2, .slice A1_3 l1_3.length c1_3] 55 (0,0)) (kq BK658.out) hb);replace BK659:=am (je (g:=gb659) (o:=.cells #[.bool false, .int .i64 0, .int .i64 0] 50 (0,0)) (kq BK659.out) hb);replace HB:=am (jk (Y19) hb);clear hb ho32;obtain ⟨Ao33,co33,eo33⟩:=Kd.jja HO663.out;subst eo33) |(go_at_call 58;(with_reducible refine (jdb.calls k _ _ l0_0 _ _ l1_3 _ _ y661 true _ ?side1 ?side2 ?side3 ?side4 ?side5 ?side6 A17.out).mono ?_);(case side1=>exact cq (Kd.jka HR0_0.out HB.out));(case side2=>exact HC0_0.out);(case side3=>exact cq (Kd.jka HR1_3.out HB.out));(case side4=>exact HC1_3.out);(case side5=>exact cq (Kd.jE HO663.out).2.2);(case side6=>exact (Kd.jE HO663.out).2.1);rintro e w34 ⟨rfl,hb⟩;replace HO663:=am (Kd.jM (rq HO663.out) hb);replace BK657:=am (je (g:=gb657) (o:=.cells #[.slice A0_0 l0_0.length c0_0] 31 (0,0)) (kq BK657.out) hb);replace BK658:=am (je (g:=gb658) (o:=.cells #[.slice A1_0 l1_0.length c1_0, .int .i64 a1_1, .int .i64 a1_2, .slice A1_3 l1_3.length c1_3] 55 (0,0)) (kq BK658.out) hb);replace BK659:=am (je (g:=gb659) (o:=.cells #[.bool false, .int .i64 0, .int .i64 0] 50 (0,0)) (kq BK659.out) hb);replace HB:=am (jk (Y19) hb);(try clear hb);(try clear hb2);(try clear hk);(try clear hi);have hcz35_0:=bc0 BK658.out;have hcz35_1:=bc1 BK658.out;have hcz35_2:=bc2 BK658.out;have hcz35_3:=bc3 BK658.out;have hfz35_0:=jd BK658.out 0;have hfz35_1:=jd BK658.out 1;have hfz35_2:=jd BK658.out 2;have hfz35_3:=jd BK658.out 3;have p665:0≤(a1_2:Int):=ozD (uq);have q665:a1_2<(l1_3.length:Int):=ozD (uq);obtain ⟨ad665,e665,hx665_0,hx665_1,hx665_2,hx665_3,hx665_4⟩:=at_T90 HR1_3.out a1_2 p665 q665;cases e665;replace hx665_0:=cb HB.out hx665_0;replace hx665_1:=cb HB.out hx665_1;replace hx665_2:=cb HB.out hx665_2;replace hx665_3:=cb HB.out hx665_3;replace hx665_4:=cb HB.out hx665_4;replace p665:=ezT p665;replace q665:=ezT q665) |((with_reducible refine jP (N:=6) rfl ?_);(try (refine jHa (by rfl) ?_;dsimp only));refine jOa ?hg (N:=6) ?hd (cs:=#[.int .i64 0, .int .i64 0, .int .i64 0, .int .i64 0, .bool false]) (t:=90) ?hr ?_;(case hd=>rfl);(case hg=>rfl);(case hr=>exact Y2);intro gb666 hg w36 hbox hb;have BK666:=am (hbox);have GW666:=am ((Y134:w.heap.size≤gb666));have GE666:=am ((Y134:w.heap.size≤gb666));have NB657_666:=am ((Y34:gb657≠gb666));have NB666_657:=am ((Y35:gb666≠gb657));have NB658_666:=am ((by rw [hg];exact Nat.ne_of_lt (jta (g:=gb658) (o:=.cells #[.slice A1_0 l1_0.length c1_0, .int .i64 a1_1, .int .i64 a1_2, .slice (some ad665) l1_3.length c1_3] 55 (0,0)) (kq BK658.out)):gb658≠gb666));have NB666_658:=am ((by rw [hg];exact Nat.ne_of_gt (jta (g:=gb658) (o:=.cells #[.slice A1_0 l1_0.length c1_0, .int .i64 a1_1, .int .i64 a1_2, .slice (some ad665) l1_3.length c1_3] 55 (0,0)) (kq BK658.out)):gb666≠gb658));have NB659_666:=am ((by rw [hg];exact Nat.ne_of_lt (jta (g:=gb659) (o:=.cells #[.bool false, .int .i64 0, .int .i64 0] 50 (0,0)) (kq BK659.out)):gb659≠gb666));have NB666_659:=am ((by rw [hg];exact Nat.ne_of_gt (jta (g:=gb659) (o:=.cells #[.bool false, .int .i64 0, .int .i64 0] 50 (0,0)) (kq BK659.out)):gb666≠gb659));replace HO663:=am (Kd.jM (rq HO663.out) hb);replace BK657:=am (je (g:=gb657) (o:=.cells #[.slice A0_0 l0_0.length c0_0] 31 (0,0)) (kq BK657.out) hb);replace BK658:=am (je (g:=gb658) (o:=.cells #[.slice A1_0 l1_0.length c1_0, .int .i64 a1_1, .int .i64 a1_2, .slice (some ad665) l1_3.length c1_3] 55 (0,0)) (kq BK658.out) hb);replace BK659:=am (je (g:=gb659) (o:=.cells #[.bool false, .int .i64 0, .int .i64 0] 50 (0,0)) (kq BK659.out) hb);replace HB:=am (jk (Y19) hb);clear hb hbox hg;have hnb37:=NB666_657.out;have hnc37:=NB657_666.out;have hnb38:=NB666_658.out;have hnc38:=NB658_666.out;have hnb39:=NB666_659.out;have hnc39:=NB659_666.out;have hcz40_0:=bc0 BK666.out;have hcz40_1:=bc1 BK666.out;have hcz40_2:=bc2 BK666.out;have hcz40_3:=bc3 BK666.out;have hcz40_4:w36.cell? ⟨gb666,4,none⟩=some (.bool false):=(jh BK666.out 4).trans rfl;have hfz40_0:=jd BK666.out 0;have hfz40_1:=jd BK666.out 1;have hfz40_2:=jd BK666.out 2;have hfz40_3:=jd BK666.out 3;have hfz40_4:=jd BK666.out 4;have hcz41_0:=bc0 BK659.out;have hcz41_1:=bc1 BK659.out;have hcz41_2:=bc2 BK659.out;have hfz41_0:=jd BK659.out 0;have hfz41_1:=jd BK659.out 1;have hfz41_2:=jd BK659.out 2))
       refine bodyPost_ret (jxb rfl _ _ gb659 50 #[.bool true, .int .i64 ((jo l1_3 a1_2).f0), .int .i64 ((jo l1_3 a1_2).f1)] (0,0) _ rfl (by (with_reducible repeat (first | refine jb ?_ _ | refine jc ?_ | refine ja ?_ _));refine jO (cs:=#[.bool true, .int .i64 ((jo l1_3 a1_2).f0), .int .i64 0]) ?_ 2 _ rfl;(with_reducible repeat (first | refine jb ?_ _ | refine jc ?_ | refine ja ?_ _));refine jO (cs:=#[.bool true, .int .i64 0, .int .i64 0]) ?_ 1 _ rfl;(with_reducible repeat (first | refine jb ?_ _ | refine jc ?_ | refine ja ?_ _));refine jO (cs:=#[.bool false, .int .i64 0, .int .i64 0]) ?_ 0 _ rfl;(with_reducible repeat (first | refine jb ?_ _ | refine jc ?_ | refine ja ?_ _));refine jr ?_ NB659_666.out _;(with_reducible repeat (first | refine jb ?_ _ | refine jc ?_ | refine ja ?_ _));refine jr ?_ NB659_666.out _;(with_reducible repeat (first | refine jb ?_ _ | refine jc ?_ | refine ja ?_ _));refine jr ?_ NB659_666.out _;(with_reducible repeat (first | refine jb ?_ _ | refine jc ?_ | refine ja ?_ _));refine jr ?_ NB659_666.out _;(with_reducible repeat (first | refine jb ?_ _ | refine jc ?_ | refine ja ?_ _));refine jr ?_ NB659_666.out _;(with_reducible repeat (first | refine jb ?_ _ | refine jc ?_ | refine ja ?_ _));exact BK659.out) Try.underlying50 rfl (by kernel_rfl)) rfl ?_
       exact ⟨Y0,by repeat (first |(with_reducible first | exact HB.out | apply jJ | apply jw | apply jF | refine jq ?_ GE657.out | refine jq ?_ GE658.out | refine jq ?_ GE659.out | refine jq ?_ GE666.out) | exact HB.out)⟩
      ·rw [if_neg c20] at H
       exact absurd H (by simp)
     ·rw [if_neg c19] at H
      exact absurd H (by simp)
    ·replace c18:=Bool.eq_false_iff.mpr c18
     subst c18
     have H1:(some (false,0,0,false))=some (r1,r2,r3,r4):=by rw [if_neg (show ¬ (false=true) by decide)] at H;exact H
     clear H
     have H:=H1
     clear H1
     simp only [Option.some.injEq,Prod.mk.injEq] at H
     obtain ⟨rfl,rfl,rfl,rfl⟩:=H
     go_enter Try.func24,Try.ntmps24
     go_wp2_with (first |((with_reducible refine jP (N:=2) rfl ?_);(try (refine jHa (by rfl) ?_;dsimp only));refine jOa ?hg (N:=2) ?hd (cs:=#[.slice A0_0 l0_0.length c0_0]) (t:=31) ?hr ?_;(case hd=>rfl);(case hg=>rfl);(case hr=>exact Y2);intro gb657 hg w42 hbox hb;have BK657:=am (hbox);have GW657:=am ((Y3:w.heap.size≤gb657));have GE657:=am ((Y3:w.heap.size≤gb657));replace HB:=am (jk (bq) hb);clear hb hbox hg) |((with_reducible refine jP (N:=3) rfl ?_);(try (refine jHa (by rfl) ?_;dsimp only));refine jOa ?hg (N:=3) ?hd (cs:=#[.slice A1_0 l1_0.length c1_0, .int .i64 a1_1, .int .i64 a1_2, .slice A1_3 l1_3.length c1_3]) (t:=55) ?hr ?_;(case hd=>rfl);(case hg=>rfl);(case hr=>exact Y2);intro gb658 hg w43 hbox hb;have BK658:=am (hbox);have GW658:=am ((Y39:w.heap.size≤gb658));have GE658:=am ((Y39:w.heap.size≤gb658));have NB657_658:=am ((Y34:gb657≠gb658));have NB658_657:=am ((Y35:gb658≠gb657));replace BK657:=am (je (g:=gb657) (o:=.cells #[.slice A0_0 l0_0.length c0_0] 31 (0,0)) (kq BK657.out) hb);replace HB:=am (jk (Y69) hb);clear hb hbox hg) |((with_reducible refine jP (N:=4) rfl ?_);(try (refine jHa (by rfl) ?_;dsimp only));refine jOa ?hg (N:=4) ?hd (cs:=#[.bool false, .int .i64 0, .int .i64 0]) (t:=50) ?hr ?_;(case hd=>rfl);(case hg=>rfl);(case hr=>exact Y2);intro gb659 hg w44 hbox hb;have BK659:=am (hbox);have GW659:=am ((Y40:w.heap.size≤gb659));have GE659:=am ((Y40:w.heap.size≤gb659));have NB657_659:=am ((Y34:gb657≠gb659));have NB659_657:=am ((Y35:gb659≠gb657));have NB658_659:=am ((Y70:gb658≠gb659));have NB659_658:=am ((Y71:gb659≠gb658));replace BK657:=am (je (g:=gb657) (o:=.cells #[.slice A0_0 l0_0.length c0_0] 31 (0,0)) (kq BK657.out) hb);replace BK658:=am (je (g:=gb658) (o:=.cells #[.slice A1_0 l1_0.length c1_0, .int .i64 a1_1, .int .i64 a1_2, .slice A1_3 l1_3.length c1_3] 55 (0,0)) (kq BK658.out) hb);replace HB:=am (jk (Y72) hb);clear hb hbox hg;have hnb45:=NB657_658.out;have hnc45:=NB658_657.out;have hnb46:=NB657_659.out;have hnc46:=NB659_657.out;have hcz47_0:=bc0 BK657.out;have hfz47_0:=jd BK657.out 0) |((with_reducible refine jy (f:=48) rfl ?_);refine gL (some 9) Try.func48 #[.agg #[.slice A0_0 l0_0.length c0_0]] ?_;(with_reducible refine (jI.calls k _ _ l0_0 true _ ?side1 ?side2 A3.out).mono ?_);(case side1=>exact cq (Kd.jka HR0_0.out HB.out));(case side2=>exact HC0_0.out);rintro e w48 ⟨rfl,hb⟩;refine ⟨_,rfl,?_⟩;replace BK657:=am (je (g:=gb657) (o:=.cells #[.slice A0_0 l0_0.length c0_0] 31 (0,0)) (kq BK657.out) hb);replace BK658:=am (je (g:=gb658) (o:=.cells #[.slice A1_0 l1_0.length c1_0, .int .i64 a1_1, .int .i64 a1_2, .slice A1_3 l1_3.length c1_3] 55 (0,0)) (kq BK658.out) hb);replace BK659:=am (je (g:=gb659) (o:=.cells #[.bool false, .int .i64 0, .int .i64 0] 50 (0,0)) (kq BK659.out) hb);replace HB:=am (jk (Y19) hb);(try clear hb);(try clear hb2);(try clear hk);(try clear hi);have hnb49:=NB658_659.out;have hnc49:=NB659_658.out;have hcz50_0:=bc0 BK658.out;have hcz50_1:=bc1 BK658.out;have hcz50_2:=bc2 BK658.out;have hcz50_3:=bc3 BK658.out;have hfz50_0:=jd BK658.out 0;have hfz50_1:=jd BK658.out 1;have hfz50_2:=jd BK658.out 2;have hfz50_3:=jd BK658.out 3;have hcz51_0:=bc0 BK657.out;have hfz51_0:=jd BK657.out 0) |((with_reducible refine jP (N:=27) rfl ?_);(try (refine jHa (by rfl) ?_;dsimp only));refine Kd.R_lit (Kd.int .i64) _ 3 ?hg (N:=27) ?hd (xs:=([a1_2]:List Int)) (inner:=[.int .i64 a1_2]) (ok:=fun _=>True) (okp:=fun _=>True) ?hr ?hp (fun _ hk=>hk) trivial (Below.refl _ _) (Nat.le_refl _) (by simp) ?_;(case hd=>rfl);(case hg=>rfl);(case hr=>exact Y2);(case hp=>exact (Reps.one (show Kd.M (Kd.int .i64) _ _ _ a1_2 [.int .i64 a1_2] from rfl) (Reps.none _ _)));intro v662 w52 ho53 hb hg_ hnew_;clear hg_ hnew_;(first | rw [← Ny661.out] at ho53 |(simp only [Int.reduceToNat] at ho53;rw [← Ny661.out] at ho53));have HO663:=am (Kd.jua ho53 (jY (Y19)));replace BK657:=am (je (g:=gb657) (o:=.cells #[.slice A0_0 l0_0.length c0_0] 31 (0,0)) (kq BK657.out) hb);replace BK658:=am (je (g:=gb658) (o:=.cells #[.slice A1_0 l1_0.length c1_0, .int .i64 a1_1, .int .i64 a1_2, .slice A1_3 l1_3.length c1_3] 55 (0,0)) (kq BK658.out) hb);replace BK659:=am (je (g:=gb659) (o:=.cells #[.bool false, .int .i64 0, .int .i64 0] 50 (0,0)) (kq BK659.out) hb);replace HB:=am (jk (Y19) hb);clear hb ho53;obtain ⟨Ao54,co54,eo54⟩:=Kd.jja HO663.out;subst eo54) |(go_at_call 58;(with_reducible refine (jdb.calls k _ _ l0_0 _ _ l1_3 _ _ y661 false _ ?side1 ?side2 ?side3 ?side4 ?side5 ?side6 A17.out).mono ?_);(case side1=>exact cq (Kd.jka HR0_0.out HB.out));(case side2=>exact HC0_0.out);(case side3=>exact cq (Kd.jka HR1_3.out HB.out));(case side4=>exact HC1_3.out);(case side5=>exact cq (Kd.jE HO663.out).2.2);(case side6=>exact (Kd.jE HO663.out).2.1);rintro e w55 ⟨rfl,hb⟩;replace HO663:=am (Kd.jM (rq HO663.out) hb);replace BK657:=am (je (g:=gb657) (o:=.cells #[.slice A0_0 l0_0.length c0_0] 31 (0,0)) (kq BK657.out) hb);replace BK658:=am (je (g:=gb658) (o:=.cells #[.slice A1_0 l1_0.length c1_0, .int .i64 a1_1, .int .i64 a1_2, .slice A1_3 l1_3.length c1_3] 55 (0,0)) (kq BK658.out) hb);replace BK659:=am (je (g:=gb659) (o:=.cells #[.bool false, .int .i64 0, .int .i64 0] 50 (0,0)) (kq BK659.out) hb);replace HB:=am (jk (Y19) hb);(try clear hb);(try clear hb2);(try clear hk);(try clear hi);have hcz56_0:=bc0 BK659.out;have hcz56_1:=bc1 BK659.out;have hcz56_2:=bc2 BK659.out;have hfz56_0:=jd BK659.out 0;have hfz56_1:=jd BK659.out 1;have hfz56_2:=jd BK659.out 2))
     refine bodyPost_ret (jxb rfl _ _ gb659 50 #[.bool false, .int .i64 0, .int .i64 0] (0,0) _ rfl (Y89) Try.underlying50 rfl (by kernel_rfl)) rfl ?_
     exact ⟨Y0,Y19⟩
   ·rw [if_neg c16] at H
    have c16b0:(a1_1 == 2)=false:=beq_eq_false_iff_ne.mpr c16
    have c16b1:(a1_1 != 2)=true:=bne_iff_ne.mpr c16
    simp only [Option.some.injEq,Prod.mk.injEq] at H
    obtain ⟨rfl,rfl,rfl,rfl⟩:=H
    go_enter Try.func24,Try.ntmps24
    go_wp2_with (first |((with_reducible refine jP (N:=2) rfl ?_);(try (refine jHa (by rfl) ?_;dsimp only));refine jOa ?hg (N:=2) ?hd (cs:=#[.slice A0_0 l0_0.length c0_0]) (t:=31) ?hr ?_;(case hd=>rfl);(case hg=>rfl);(case hr=>exact Y2);intro gb657 hg w57 hbox hb;have BK657:=am (hbox);have GW657:=am ((Y3:w.heap.size≤gb657));have GE657:=am ((Y3:w.heap.size≤gb657));replace HB:=am (jk (bq) hb);clear hb hbox hg) |((with_reducible refine jP (N:=3) rfl ?_);(try (refine jHa (by rfl) ?_;dsimp only));refine jOa ?hg (N:=3) ?hd (cs:=#[.slice A1_0 l1_0.length c1_0, .int .i64 a1_1, .int .i64 a1_2, .slice A1_3 l1_3.length c1_3]) (t:=55) ?hr ?_;(case hd=>rfl);(case hg=>rfl);(case hr=>exact Y2);intro gb658 hg w58 hbox hb;have BK658:=am (hbox);have GW658:=am ((Y39:w.heap.size≤gb658));have GE658:=am ((Y39:w.heap.size≤gb658));have NB657_658:=am ((Y34:gb657≠gb658));have NB658_657:=am ((Y35:gb658≠gb657));replace BK657:=am (je (g:=gb657) (o:=.cells #[.slice A0_0 l0_0.length c0_0] 31 (0,0)) (kq BK657.out) hb);replace HB:=am (jk (Y69) hb);clear hb hbox hg) |((with_reducible refine jP (N:=4) rfl ?_);(try (refine jHa (by rfl) ?_;dsimp only));refine jOa ?hg (N:=4) ?hd (cs:=#[.bool false, .int .i64 0, .int .i64 0]) (t:=50) ?hr ?_;(case hd=>rfl);(case hg=>rfl);(case hr=>exact Y2);intro gb659 hg w59 hbox hb;have BK659:=am (hbox);have GW659:=am ((Y40:w.heap.size≤gb659));have GE659:=am ((Y40:w.heap.size≤gb659));have NB657_659:=am ((Y34:gb657≠gb659));have NB659_657:=am ((Y35:gb659≠gb657));have NB658_659:=am ((Y70:gb658≠gb659));have NB659_658:=am ((Y71:gb659≠gb658));replace BK657:=am (je (g:=gb657) (o:=.cells #[.slice A0_0 l0_0.length c0_0] 31 (0,0)) (kq BK657.out) hb);replace BK658:=am (je (g:=gb658) (o:=.cells #[.slice A1_0 l1_0.length c1_0, .int .i64 a1_1, .int .i64 a1_2, .slice A1_3 l1_3.length c1_3] 55 (0,0)) (kq BK658.out) hb);replace HB:=am (jk (Y72) hb);clear hb hbox hg;have hnb60:=NB657_658.out;have hnc60:=NB658_657.out;have hnb61:=NB657_659.out;have hnc61:=NB659_657.out;have hcz62_0:=bc0 BK657.out;have hfz62_0:=jd BK657.out 0) |((with_reducible refine jy (f:=48) rfl ?_);refine gL (some 9) Try.func48 #[.agg #[.slice A0_0 l0_0.length c0_0]] ?_;(with_reducible refine (jI.calls k _ _ l0_0 true _ ?side1 ?side2 A3.out).mono ?_);(case side1=>exact cq (Kd.jka HR0_0.out HB.out));(case side2=>exact HC0_0.out);rintro e w63 ⟨rfl,hb⟩;refine ⟨_,rfl,?_⟩;replace BK657:=am (je (g:=gb657) (o:=.cells #[.slice A0_0 l0_0.length c0_0] 31 (0,0)) (kq BK657.out) hb);replace BK658:=am (je (g:=gb658) (o:=.cells #[.slice A1_0 l1_0.length c1_0, .int .i64 a1_1, .int .i64 a1_2, .slice A1_3 l1_3.length c1_3] 55 (0,0)) (kq BK658.out) hb);replace BK659:=am (je (g:=gb659) (o:=.cells #[.bool false, .int .i64 0, .int .i64 0] 50 (0,0)) (kq BK659.out) hb);replace HB:=am (jk (Y19) hb);(try clear hb);(try clear hb2);(try clear hk);(try clear hi);have hnb64:=NB658_659.out;have hnc64:=NB659_658.out;have hcz65_0:=bc0 BK658.out;have hcz65_1:=bc1 BK658.out;have hcz65_2:=bc2 BK658.out;have hcz65_3:=bc3 BK658.out;have hfz65_0:=jd BK658.out 0;have hfz65_1:=jd BK658.out 1;have hfz65_2:=jd BK658.out 2;have hfz65_3:=jd BK658.out 3;have hcz66_0:=bc0 BK659.out;have hcz66_1:=bc1 BK659.out;have hcz66_2:=bc2 BK659.out;have hfz66_0:=jd BK659.out 0;have hfz66_1:=jd BK659.out 1;have hfz66_2:=jd BK659.out 2))
    refine bodyPost_ret (jxb rfl _ _ gb659 50 #[.bool false, .int .i64 0, .int .i64 0] (0,0) _ rfl (Y89) Try.underlying50 rfl (by kernel_rfl)) rfl ?_
    exact ⟨Y0,Y19⟩
 ·replace c4:=Bool.eq_false_iff.mpr c4
  subst c4
  have H1:(some (false,0,0,false))=some (r1,r2,r3,r4):=by rw [if_neg (show ¬ (false=true) by decide)] at H;exact H
  clear H
  have H:=H1
  clear H1
  simp only [Option.some.injEq,Prod.mk.injEq] at H
  obtain ⟨rfl,rfl,rfl,rfl⟩:=H
  go_enter Try.func24,Try.ntmps24
  go_wp2_with (first |((with_reducible refine jP (N:=2) rfl ?_);(try (refine jHa (by rfl) ?_;dsimp only));refine jOa ?hg (N:=2) ?hd (cs:=#[.slice A0_0 l0_0.length c0_0]) (t:=31) ?hr ?_;(case hd=>rfl);(case hg=>rfl);(case hr=>exact Y2);intro gb657 hg w67 hbox hb;have BK657:=am (hbox);have GW657:=am ((Y3:w.heap.size≤gb657));have GE657:=am ((Y3:w.heap.size≤gb657));replace HB:=am (jk (bq) hb);clear hb hbox hg) |((with_reducible refine jP (N:=3) rfl ?_);(try (refine jHa (by rfl) ?_;dsimp only));refine jOa ?hg (N:=3) ?hd (cs:=#[.slice A1_0 l1_0.length c1_0, .int .i64 a1_1, .int .i64 a1_2, .slice A1_3 l1_3.length c1_3]) (t:=55) ?hr ?_;(case hd=>rfl);(case hg=>rfl);(case hr=>exact Y2);intro gb658 hg w68 hbox hb;have BK658:=am (hbox);have GW658:=am ((Y39:w.heap.size≤gb658));have GE658:=am ((Y39:w.heap.size≤gb658));have NB657_658:=am ((Y34:gb657≠gb658));have NB658_657:=am ((Y35:gb658≠gb657));replace BK657:=am (je (g:=gb657) (o:=.cells #[.slice A0_0 l0_0.length c0_0] 31 (0,0)) (kq BK657.out) hb);replace HB:=am (jk (Y69) hb);clear hb hbox hg) |((with_reducible refine jP (N:=4) rfl ?_);(try (refine jHa (by rfl) ?_;dsimp only));refine jOa ?hg (N:=4) ?hd (cs:=#[.bool false, .int .i64 0, .int .i64 0]) (t:=50) ?hr ?_;(case hd=>rfl);(case hg=>rfl);(case hr=>exact Y2);intro gb659 hg w69 hbox hb;have BK659:=am (hbox);have GW659:=am ((Y40:w.heap.size≤gb659));have GE659:=am ((Y40:w.heap.size≤gb659));have NB657_659:=am ((Y34:gb657≠gb659));have NB659_657:=am ((Y35:gb659≠gb657));have NB658_659:=am ((Y70:gb658≠gb659));have NB659_658:=am ((Y71:gb659≠gb658));replace BK657:=am (je (g:=gb657) (o:=.cells #[.slice A0_0 l0_0.length c0_0] 31 (0,0)) (kq BK657.out) hb);replace BK658:=am (je (g:=gb658) (o:=.cells #[.slice A1_0 l1_0.length c1_0, .int .i64 a1_1, .int .i64 a1_2, .slice A1_3 l1_3.length c1_3] 55 (0,0)) (kq BK658.out) hb);replace HB:=am (jk (Y72) hb);clear hb hbox hg;have hnb70:=NB657_658.out;have hnc70:=NB658_657.out;have hnb71:=NB657_659.out;have hnc71:=NB659_657.out;have hcz72_0:=bc0 BK657.out;have hfz72_0:=jd BK657.out 0) |((with_reducible refine jy (f:=48) rfl ?_);refine gL (some 9) Try.func48 #[.agg #[.slice A0_0 l0_0.length c0_0]] ?_;(with_reducible refine (jI.calls k _ _ l0_0 false _ ?side1 ?side2 A3.out).mono ?_);(case side1=>exact cq (Kd.jka HR0_0.out HB.out));(case side2=>exact HC0_0.out);rintro e w73 ⟨rfl,hb⟩;refine ⟨_,rfl,?_⟩;replace BK657:=am (je (g:=gb657) (o:=.cells #[.slice A0_0 l0_0.length c0_0] 31 (0,0)) (kq BK657.out) hb);replace BK658:=am (je (g:=gb658) (o:=.cells #[.slice A1_0 l1_0.length c1_0, .int .i64 a1_1, .int .i64 a1_2, .slice A1_3 l1_3.length c1_3] 55 (0,0)) (kq BK658.out) hb);replace BK659:=am (je (g:=gb659) (o:=.cells #[.bool false, .int .i64 0, .int .i64 0] 50 (0,0)) (kq BK659.out) hb);replace HB:=am (jk (Y19) hb);(try clear hb);(try clear hb2);(try clear hk);(try clear hi);have hnb74:=NB659_658.out;have hnc74:=NB658_659.out;have hcz75_0:=bc0 BK659.out;have hcz75_1:=bc1 BK659.out;have hcz75_2:=bc2 BK659.out;have hfz75_0:=jd BK659.out 0;have hfz75_1:=jd BK659.out 1;have hfz75_2:=jd BK659.out 2))
  refine bodyPost_ret (jxb rfl _ _ gb659 50 #[.bool false, .int .i64 0, .int .i64 0] (0,0) _ rfl (Y89) Try.underlying50 rfl (by kernel_rfl)) rfl ?_
  exact ⟨Y0,Y19⟩
theorem eqA44 (d : Nat) (w : World) (x0 y0 : Int) (x1 y1 : Int) (x2 y2 : Int) :
  (Op.equalIn (d+2) 44 (.agg #[.int .i64 x0, .int .i64 x1, .int .i64 x2]) (.agg #[.int .i64 y0, .int .i64 y1, .int .i64 y2])).run Try.prog w=.ok (x0 == y0 && (x1 == y1 && (x2 == y2))) w:=by
 refine eqA_of Try.underlying44 (by kernel_rfl) ?_
 refine eqf_cons (by rfl) (by go_simp;rfl) (by go_simp;rfl) (by go_simp) ?_
 refine eqf_cons (by rfl) (by go_simp;rfl) (by go_simp;rfl) (by go_simp) ?_
 exact eqf_last (by rfl) (by go_simp;rfl) (by go_simp;rfl) (by go_simp)
attribute [local go_sem high] eqA44
def jna.l0 : Nat → List (S44) → List (S44) → Int → Option (Bool)
 | 0,_,_,_=>none
 | k+1,x0,x1,x5=>if x5<(x0.length:Int) then (if 0≤x5 then (if x5<(x1.length:Int) then (if (!(((jZ x0 x5).f0) == ((jZ x1 x5).f0)) ||(!(((jZ x0 x5).f1) == ((jZ x1 x5).f1)) ||(!(((jZ x0 x5).f2) == ((jZ x1 x5).f2)))))=true then (some false) else (jna.l0 k x0 x1 (wrap64 (x5+1)))) else (none)) else (none)) else (some true)
def jna.f (k : Nat) (l0 : List (S44)) (l1 : List (S44)) : Option (Bool) := if (l0.length : Int) = (l1.length : Int) then (jna.l0 k l0 l1 0) else (some false)
set_option maxHeartbeats 8000000 in
set_option maxRecDepth 100000 in
theorem jna.calls (k : Nat) (A0 : Option Addr) (c0 : Nat) (l0 : List (S44)) (A1 : Option Addr) (c1 : Nat) (l1 : List (S44)) (r : Bool) (w : World) (hr0 : Kd.C k44 w A0 l0.length l0) (hc0 : l0.length ≤ c0) (hr1 : Kd.C k44 w A1 l1.length l1) (hc1 : l1.length ≤ c1) (h : jna.f k l0 l1 = some r) :
  Calls Try.prog 31 #[.slice A0 l0.length c0, .slice A1 l1.length c1] w fun e w'=>e=.returned (.bool r)∧jrb w w':=by
 have hu44:=Try.underlying44
 have HR0:=am hr0
 have HC0:=am hc0
 clear hr0 hc0
 have HR1:=am hr1
 have HC1:=am hc1
 clear hr1 hc1
 have H:(if (l0.length:Int)=(l1.length:Int) then (jna.l0 k l0 l1 0) else (some false))=some r:=h
 clear h
 by_cases c3:(l0.length:Int)=(l1.length:Int)
 ·rw [if_pos c3] at H
  have c3b0:((l0.length:Int) == (l1.length:Int))=true:=beq_iff_eq.mpr c3
  have c3b1:((l0.length:Int) != (l1.length:Int))=false:=bne_eq_false_iff_eq.mpr c3
  have c3b2:(l0.length == l1.length)=true:=by first | simpa using c3 |(simp at c3 ⊢;omega)
  clear c3
  have H':=am H
  clear H
  go_enter Try.func31,Try.ntmps31
  go_wp2
  repeat (go_quiet (fail);try go_wp2)
  go_loopg [5] k (fun kq v5 w'=>∃ (x5_1:Int),v5=.int .i64 x5_1∧jv (jna.l0 kq l0 l1 x5_1=some r)∧jv (kq≤k)∧jrb w w')
  case atStart=>exact ⟨(0),(sq),H',⟨Nat.le_refl _⟩,Y4⟩
  case round =>
   clear H'
   try clear c1
   try clear p2
   try clear c3
   try clear c3b0
   try clear c3b1
   try clear c3b2
   obtain ⟨x5_1,rfl,HA,HK1,⟨m1,rfl⟩⟩:=hrel
   cases gk with
   | zero=>exact absurd HA.out (by simp [jna.l0])
   | succ k1 =>
    have H:=HA.out
    clear HA
    simp only [jna.l0] at H
    by_cases c4:x5_1<(l0.length:Int)
    ·rw [if_pos c4] at H
     have c4b0:decide (x5_1<(l0.length:Int))=true:=dzT c4
     clear c4
     by_cases c5:0≤x5_1
     ·rw [if_pos c5] at H
      have c5b0:decide (0≤x5_1)=true:=dzT c5
      clear c5
      by_cases c6:x5_1<(l1.length:Int)
      ·rw [if_pos c6] at H
       have c6b0:decide (x5_1<(l1.length:Int))=true:=dzT c6
       clear c6
       by_cases c7:(!(((jZ l0 x5_1).f0) == ((jZ l1 x5_1).f0)) ||(!(((jZ l0 x5_1).f1) == ((jZ l1 x5_1).f1)) ||(!(((jZ l0 x5_1).f2) == ((jZ l1 x5_1).f2)))))=true
       ·rw [if_pos c7] at H
        have c7b0:(!(((jZ l0 x5_1).f0) == ((jZ l1 x5_1).f0)) ||(!(((jZ l0 x5_1).f1) == ((jZ l1 x5_1).f1)) ||(!(((jZ l0 x5_1).f2) == ((jZ l1 x5_1).f2)))))=true:=c7
        clear c7
        obtain rfl:=Option.some.inj H
        have p775:0≤(x5_1:Int):=ozD (uq)
        have q775:x5_1<(l0.length:Int):=ozD (uq)
        obtain ⟨ad775,e775,hx775_0,hx775_1,hx775_2⟩:=at_T44 HR0.out x5_1 p775 q775
        cases e775
        replace p775:=ezT p775
        replace q775:=ezT q775
        have p776:0≤(x5_1:Int):=ozD (uq)
        have q776:x5_1<(l1.length:Int):=ozD (uq)
        obtain ⟨ad776,e776,hx776_0,hx776_1,hx776_2⟩:=at_T44 HR1.out x5_1 p776 q776
        cases e776
        replace p776:=ezT p776
        replace q776:=ezT q776
        go_wp2
        repeat (go_quiet (fail);try go_wp2)
        go_ret
        exact ⟨sq,Y4⟩
       ·rw [if_neg c7] at H
        have c7b0:(!(((jZ l0 x5_1).f0) == ((jZ l1 x5_1).f0)) ||(!(((jZ l0 x5_1).f1) == ((jZ l1 x5_1).f1)) ||(!(((jZ l0 x5_1).f2) == ((jZ l1 x5_1).f2)))))=false:=by simpa using c7
        clear c7
        have H':=am H
        clear H
        have p775:0≤(x5_1:Int):=ozD (uq)
        have q775:x5_1<(l0.length:Int):=ozD (uq)
        obtain ⟨ad775,e775,hx775_0,hx775_1,hx775_2⟩:=at_T44 HR0.out x5_1 p775 q775
        cases e775
        replace p775:=ezT p775
        replace q775:=ezT q775
        have p776:0≤(x5_1:Int):=ozD (uq)
        have q776:x5_1<(l1.length:Int):=ozD (uq)
        obtain ⟨ad776,e776,hx776_0,hx776_1,hx776_2⟩:=at_T44 HR1.out x5_1 p776 q776
        cases e776
        replace p776:=ezT p776
        replace q776:=ezT q776
        go_wp2
        repeat (go_quiet (fail);try go_wp2)
        go_roundg k1
        case measure=>have:=HK1.out;omega
        case rel=>exact ⟨(wrap64 (x5_1+1)),(sq),H',⟨by have:=HK1.out;omega⟩,Y4⟩
      ·rw [if_neg c6] at H
       exact absurd H (by simp)
     ·rw [if_neg c5] at H
      exact absurd H (by simp)
    ·rw [if_neg c4] at H
     have c4b0:decide (x5_1<(l0.length:Int))=false:=dzF c4
     clear c4
     obtain rfl:=Option.some.inj H
     go_wp2
     repeat (go_quiet (fail);try go_wp2)
     go_ret
     exact ⟨sq,Y4⟩
 ·rw [if_neg c3] at H
  have c3b0:((l0.length:Int) == (l1.length:Int))=false:=beq_eq_false_iff_ne.mpr c3
  have c3b1:((l0.length:Int) != (l1.length:Int))=true:=bne_iff_ne.mpr c3
  have c3b2:(l0.length == l1.length)=false:=by first | simpa using c3 |(simp at c3 ⊢;omega)
  obtain rfl:=Option.some.inj H
  go_enter Try.func31,Try.ntmps31
  go_wp2
  repeat (go_quiet (fail);try go_wp2)
  go_ret
  exact ⟨sq,Y4⟩
def jva.f (k : Nat) (l0 : List Int) : Option ((List (S106)) × (List (S44)) × (List (S44))) := (jsb.f l0).bind fun bt823 => ((jib.f k bt823.1 bt823.2).bind fun bt826 => ((jca.f k bt823.1 bt826.2.2 bt826.1).bind fun bt834 => (some (bt826.1, bt826.2.1, bt834.1))))
def jva.T3 : Bool × List (List Nat × List Nat) := (true, [([], []), ([], []), ([], []), ([], []), ([2, 3], [2, 3]), ([0, 4, 0], [0]), ([1, 5, 0, 1, 5], [1]), ([4, 6, 0, 1, 2, 3, 4, 5, 6], [4])])
def jva.B3 : List Nat := [0, 0, 0, 0, 12, 29, 63, 127]
theorem jva.tab3 : rtab .any (opsOf Try.f32 3) = jva.T3 := by kernel_rfl
theorem jva.bits3 : jec jva.T3.2 jva.B3 = true := by kernel_rfl
set_option maxHeartbeats 8000000 in
set_option maxRecDepth 100000 in
theorem jva.calls (k : Nat) (A0 : Option Addr) (c0 : Nat) (l0 : List Int) (r1 : List (S106)) (r2 : List (S44)) (r3 : List (S44)) (w : World) (hr0 : Kd.C (Kd.int .u8) w A0 l0.length l0) (hc0 : l0.length ≤ c0) (h : jva.f k l0 = some (r1, r2, r3)) :
  Calls Try.prog 32 #[.slice A0 l0.length c0] w fun e w'=>∃ v0_ v1_ v2_:Value,e=.returned (.tuple #[.agg #[v0_],v1_,v2_])∧Kd.R k106 106 w' w.heap.size (fun _=>True) v0_ r1∧Kd.R k44 44 w' w.heap.size (fun k_=>some k_≠(v2_:Value).ownBlock) v1_ r2∧Kd.R k44 44 w' w.heap.size (fun k_=>some k_≠(v1_:Value).ownBlock) v2_ r3∧Below w.heap.size w w':=by
 have hu31:=Try.underlying31
 have HR0:=am hr0
 have HC0:=am hc0
 clear hr0 hc0
 have HB:=am (Below.refl w.heap.size w)
 have H:((jsb.f l0).bind fun bt823=>((jib.f k bt823.1 bt823.2).bind fun bt826=>((jca.f k bt823.1 bt826.2.2 bt826.1).bind fun bt834=>(some (bt826.1,bt826.2.1,bt834.1)))))=some (r1,r2,r3):=h
 clear h
 replace H:=bzS H
 obtain ⟨⟨t823,t824⟩,A20,H⟩:=H
 replace H:((jib.f k t823 t824).bind fun bt826=>((jca.f k t823 bt826.2.2 bt826.1).bind fun bt834=>(some (bt826.1,bt826.2.1,bt834.1))))=some (r1,r2,r3):=H
 have A2:=am A20
 clear A20
 replace H:=bzS H
 obtain ⟨⟨t826,t829,t832⟩,A30,H⟩:=H
 replace H:((jca.f k t823 t832 t826).bind fun bt834=>(some (t826,t829,bt834.1)))=some (r1,r2,r3):=H
 have A3:=am A30
 clear A30
 replace H:=bzS H
 obtain ⟨⟨t834,t837⟩,A40,H⟩:=H
 replace H:(some (t826,t829,t834))=some (r1,r2,r3):=H
 have A4:=am A40
 clear A40
 simp only [Option.some.injEq,Prod.mk.injEq] at H
 obtain ⟨rfl,rfl,rfl⟩:=H
 go_enter Try.func32,Try.ntmps32
 try go_wp2_with (first |((with_reducible refine jP (N:=2) rfl ?_);refine bE (N:=2) (cs:=#[.slice none 0 0]) (t:=31) ?_;intro gb822 hg w5 hbox hb;have BK822:=am (hbox);have GW822:=am ((Y3:w.heap.size≤gb822));have GE822:=am ((Y3:w.heap.size≤gb822));replace HB:=am (jk (bq) hb);clear hb hbox hg) |((with_reducible refine jy (f:=45) rfl ?_);refine gL (some 9) Try.func45 #[.slice A0 l0.length c0] ?_;(with_reducible refine (jsb.calls _ _ l0 t823 t824 w _ ?side1 ?side2 ?side3 A2.out).mono ?_);(case side1=>repeat (first |(with_reducible first | exact HB.out | apply jJ | apply jw | apply jF | refine jq ?_ GE822.out) | exact HB.out));(case side2=>exact HR0.out);(case side3=>exact HC0.out);rintro e w6 ⟨g825,rfl,hi,hb,hb2⟩;refine ⟨_,rfl,?_⟩;have HI825:=am (hi);have NB825_822:=am (jg.ne_blk hi (je (g:=gb822) (o:=.cells #[.slice none 0 0] 31 (0,0)) (kq BK822.out) hb2) (by decide));have NB822_825:=am (Ne.symm (jg.ne_blk hi (je (g:=gb822) (o:=.cells #[.slice none 0 0] 31 (0,0)) (kq BK822.out) hb2) (by decide)));replace BK822:=am (je (g:=gb822) (o:=.cells #[.slice none 0 0] 31 (0,0)) (kq BK822.out) hb2);replace HB:=am (hb);(try clear hb);(try clear hb2);(try clear hk);(try clear hi)) |((with_reducible refine jy (f:=46) rfl ?_);refine gL (some 12) Try.func46 #[.pointer (some ⟨g825,0,none⟩)] ?_;(with_reducible refine (jib.calls k g825 t823 t824 t826 t829 t832 w _ ?side1 ?side2 A3.out).mono ?_);(case side1=>exact Y135);(case side2=>exact Y90);rintro e w7 ⟨v827,v830,rfl,ho0,ho1,hi,hb,hk⟩;refine ⟨_,rfl,?_⟩;have HO828:=am (Kd.jua ho0 (jY (Y90)));have HO831:=am (Kd.jua ho1 (jY (Y90)));replace BK822:=am (jm.blk hk (g':=gb822) (o:=.cells #[.slice none 0 0] 31 (0,0)) (kq BK822.out) NB822_825.out (by simp));replace HB:=am (hb);replace HI825:=am (hi);(try clear hb);(try clear hb2);(try clear hk);(try clear hi);(try clear ho0);(try clear ho1)) |((with_reducible refine jP (N:=6) rfl ?_);refine bE (N:=6) (cs:=#[.slice none 0 0]) (t:=31) ?_;intro gb833 hg w8 hbox hb;have BK833:=am (hbox);have GW833:=am ((Y136:w.heap.size≤gb833));have GE833:=am ((Y136:w.heap.size≤gb833));have NB822_833:=am ((by rw [hg];exact Nat.ne_of_lt (jta (g:=gb822) (o:=.cells #[.slice none 0 0] 31 (0,0)) (kq BK822.out)):gb822≠gb833));have NB833_822:=am ((by rw [hg];exact Nat.ne_of_gt (jta (g:=gb822) (o:=.cells #[.slice none 0 0] 31 (0,0)) (kq BK822.out)):gb833≠gb822));have NB825_833:=am ((by rw [hg];exact Nat.ne_of_lt (jg.lt (show jg w _ g825 t823 t832 from by repeat (first |(with_reducible first | exact HI825.out | apply jg.alloc | apply jg.drewN | apply jg.drew | apply jg.jTb | refine jg.far ?_ NB825_822.out _) | exact HI825.out))):g825≠gb833));have NB833_825:=am ((by rw [hg];exact Nat.ne_of_gt (jg.lt (show jg w _ g825 t823 t832 from by repeat (first |(with_reducible first | exact HI825.out | apply jg.alloc | apply jg.drewN | apply jg.drew | apply jg.jTb | refine jg.far ?_ NB825_822.out _) | exact HI825.out))):gb833≠g825));replace HO828:=am (Kd.jM (rq HO828.out) hb);replace HO831:=am (Kd.jM (rq HO831.out) hb);replace BK822:=am (je (g:=gb822) (o:=.cells #[.slice none 0 0] 31 (0,0)) (kq BK822.out) hb);replace HB:=am (jk (Y90) hb);replace HI825:=am (jg.below (Y135) hb);clear hb hbox hg;obtain ⟨Ao9,co9,eo9⟩:=Kd.jja HO828.out;subst eo9;have hnb10:=NB833_822.out;have hnc10:=NB822_833.out;have hnb11:=NB833_825.out;have hnc11:=NB825_833.out;have hcz12_0:=bc0 BK833.out;have hfz12_0:=jd BK833.out 0))
 have n0_:jv (Kd.R k106 106 (w8.setCell ⟨gb833,0,none⟩ (.slice Ao9 t826.length co9)) w.heap.size (fun _=>True) (.slice Ao9 t826.length co9) t826):=⟨by (with_reducible repeat (first | apply Kd.jK | apply Kd.jL | apply Kd.jH));exact Kd.jD (Kd.jB (p:=⟨gb833,0,none⟩) (Kd.jN HO828.out BK833.out (by decide)) (fun _ hk=>hk.2) (.slice Ao9 t826.length co9)) (fun _ hk=>trivial)⟩
 have n1_:jv (Kd.R k44 44 (w8.setCell ⟨gb833,0,none⟩ (.slice Ao9 t826.length co9)) w.heap.size (fun _=>True) v830 t829):=⟨by (with_reducible repeat (first | apply Kd.jK | apply Kd.jL | apply Kd.jH));exact Kd.jD (Kd.jB (p:=⟨gb833,0,none⟩) (Kd.jN HO831.out BK833.out (by decide)) (fun _ hk=>hk.2) (.slice Ao9 t826.length co9)) (fun _ hk=>trivial)⟩
 have n2_:jv ((w8.setCell ⟨gb833,0,none⟩ (.slice Ao9 t826.length co9)).heap[gb822]?=some (.cells #[.slice none 0 0] 31 (0,0))):=⟨by (with_reducible repeat (first | refine jb ?_ _ | refine jc ?_ | refine ja ?_ _));refine jr ?_ NB822_833.out _;(with_reducible repeat (first | refine jb ?_ _ | refine jc ?_ | refine ja ?_ _));exact BK822.out⟩
 have n3_:jv ((w8.setCell ⟨gb833,0,none⟩ (.slice Ao9 t826.length co9)).heap[gb833]?=some (.cells #[.slice Ao9 t826.length co9] 31 (0,0))):=⟨by (with_reducible repeat (first | refine jb ?_ _ | refine jc ?_ | refine ja ?_ _));refine jO (cs:=#[.slice none 0 0]) ?_ 0 _ rfl;(with_reducible repeat (first | refine jb ?_ _ | refine jc ?_ | refine ja ?_ _));exact BK833.out⟩
 have n4_:jv (jg w (w8.setCell ⟨gb833,0,none⟩ (.slice Ao9 t826.length co9)) g825 t823 t832):=⟨Y73⟩
 have n5_:jv (Below w.heap.size w (w8.setCell ⟨gb833,0,none⟩ (.slice Ao9 t826.length co9))):=⟨Y91⟩
 (try clear HO828)
 (try clear HO831)
 (try clear BK822)
 (try clear BK833)
 (try clear HI825)
 (try clear HB)
 generalize (w8.setCell ⟨gb833,0,none⟩ (.slice Ao9 t826.length co9))=w13 at n0_ n1_ n2_ n3_ n4_ n5_ ⊢
 have HO828:=n0_
 have HO831:=n1_
 have BK822:=n2_
 have BK833:=n3_
 have HI825:=n4_
 have HB:=n5_
 clear n0_ n1_ n2_ n3_ n4_ n5_
 replace HO828:=am (Kd.jH HO828.out)
 replace HO831:=am (Kd.jH HO831.out)
 replace BK822:=am (jc BK822.out)
 replace BK833:=am (jc BK833.out)
 replace HI825:=am (jg.drew HI825.out)
 replace HB:=am (jF HB.out)
 refine jkc (n:=8) (S:=fun w'=>w'.cell? ⟨gb833,0,none⟩=some (.slice Ao9 t826.length co9)) (ds:=[]) #[false,false,false,false,false,false,false,false] (by kernel_rfl) rfl rfl ((jh BK833.out 0).trans rfl) (fun hHeld=>?_);refine jJb jva.tab3 jva.bits3 (fun HT_ HW_=>?_)
 generalize w13.drew=w14 at HO828 HO831 BK822 BK833 HI825 HB hHeld ⊢
 refine pq (i:=1) (N:=some 16) #[false,true,false,false,false,false,false,false] ?_
 refine pq (i:=2) (N:=some 17) #[false,true,true,false,false,false,false,false] ?_
 refine jYb (i:=0) (N:=some 15) (v:=?_) (a':=?_) #[true,true,true,false,false,false,false,false] rfl rfl (jvb HT_.out HW_.out (by kernel_rfl)) (fun _ _ _ h=>h) (Or.inl ⟨by rfl,?_⟩) hHeld ?_ ?_
 rotate_left
 ·intro w' s0
  go_simp
  with_reducible rfl
 rotate_left
 ·exact sa
 refine jYb (i:=3) (N:=some 18) (v:=?_) (a':=?_) #[true,true,true,true,false,false,false,false] rfl rfl (jvb HT_.out HW_.out (by kernel_rfl)) (fun _ _ _ h=>h) (Or.inl ⟨by rfl,?_⟩) hHeld ?_ ?_
 rotate_left
 ·intro w' s0
  go_simp
  with_reducible rfl
 rotate_left
 ·exact sa
 refine one_ (i:=4) (N:=some 19) #[true,true,true,true,true,false,false,false] rfl rfl (jFb HT_.out (by kernel_rfl)) (by decide) (fun K hK=>?_)
 refine goes_ Try.func64 (by kernel_rfl) rfl #[.pointer (some ⟨g825,0,none⟩), .agg #[.slice Ao9 t826.length co9]] (by rfl) rfl rfl (aq) ?_
 with_reducible refine (jca.calls k g825 t823 t832 _ _ t826 t834 t837 w _ ?side1 ?side2 ?side3 ?side4 A4.out).mono ?_
 (case side1=>exact Y73)
 (case side2=>exact Y91)
 (case side3=>exact Kd.jdc (jg.apart (show jg w _ g825 t823 t832 from Y73) (rq HO828.out) (by decide)) (fun _ h_=>h_.2))
 (case side4=>exact (Kd.jE HO828.out).2.1)
 rintro e w15 ⟨v835,rfl,ho0,hi,hb,hk⟩
 refine ⟨_,rfl,?_⟩
 have HO836:=am (Kd.jua (Kd.jic ho0 (Kd.R_lt (rq HO831.out))) (jY (Y91)))
 replace BK822:=am (jm.blk hk (g':=gb822) (o:=.cells #[.slice none 0 0] 31 (0,0)) (kq BK822.out) NB822_825.out (by simp))
 replace HO828:=am (Kd.jD (Kd.jLa (jg.apart (show jg w _ g825 t823 t832 from Y73) (rq HO828.out) (by decide)) hk (fun _ h=>h.2)) (fun _ h=>h.1))
 replace HO831:=am (Kd.jD (Kd.R_told (Kd.R_oldK (jg.apart (show jg w _ g825 t823 t832 from Y73) (rq HO831.out) (by decide)) hk) (Kd.jRb ho0)) (fun _ h_=>h_.1))
 replace BK833:=am (jm.blk hk (g':=gb833) (o:=.cells #[.slice Ao9 t826.length co9] 31 (0,0)) (kq BK833.out) NB833_825.out (by simp))
 replace HB:=am (hb)
 replace HI825:=am (hi)
 (try clear hb)
 (try clear hb2)
 (try clear hk)
 (try clear hi)
 (try clear ho0)
 refine hK.out _ _ ((jh BK833.out 0).trans rfl) (fun hHeld=>?_)
 clear hK K
 refine jjc (a':=?_) ?_ ?_
 rotate_left
 ·show Act.put _ (some 19) _=_
  simp only [Act.put,List.setIfInBounds_toArray,List.set_cons_zero,List.set_cons_succ,jyb,jBb]
  rfl
 refine one_ (i:=5) (N:=none) #[true,true,true,true,true,true,false,false] rfl rfl (jFb HT_.out (by kernel_rfl)) (by decide) (fun K hK=>?_)
 have hs16:w15.cell? ⟨gb822,0,none⟩=some (.slice none 0 0):=(jh BK822.out 0).trans rfl
 have hfs16:=jd BK822.out 0
 have hns16_1:=NB833_822.out
 have hms16_1:=NB822_833.out
 refine skip_ (w1:=?_) (by rfl) rfl ?_ ?_
 rotate_left
 ·go_simp
  rfl
 refine hK.out _ _ (((cell_far (p:=⟨gb822,_,none⟩) NB833_822.out _).trans (hHeld))) (fun hHeld=>?_)
 clear hK K
 refine pq (i:=6) (N:=some 3) #[true,true,true,true,true,true,true,false] ?_
 refine pq (i:=7) (N:=some 4) #[true,true,true,true,true,true,true,true] ?_
 refine done_ (jgc HT_.out (by kernel_rfl)) ?_
 try go_wp2
 refine bodyPost_ret (results_ctt rfl _ _ gb822 31 #[.slice Ao9 t826.length co9] (0,0) _ rfl (by (with_reducible repeat (first | refine jb ?_ _ | refine jc ?_ | refine ja ?_ _));refine jO (cs:=#[.slice none 0 0]) ?_ 0 _ rfl;(with_reducible repeat (first | refine jb ?_ _ | refine jc ?_ | refine ja ?_ _));exact BK822.out) Try.underlying31 rfl (by kernel_rfl)) rfl ?_
 exact ⟨_,_,_,Y0,by (with_reducible repeat (first | apply Kd.jK | apply Kd.jL | apply Kd.jH));exact Kd.jD (Kd.jB (p:=⟨gb822,0,none⟩) (Kd.jN HO828.out BK822.out (by decide)) (fun _ hk=>hk.2) (.slice Ao9 t826.length co9)) (fun _ hk=>trivial),by (with_reducible repeat (first | apply Kd.jK | apply Kd.jL | apply Kd.jH));exact Kd.jD (Kd.jB (p:=⟨gb822,0,none⟩) (Kd.jN HO831.out BK822.out (by decide)) (fun _ hk=>hk.2) (.slice Ao9 t826.length co9)) (fun _ hk=>hk.1.2),by (with_reducible repeat (first | apply Kd.jK | apply Kd.jL | apply Kd.jH));exact Kd.jD (Kd.jB (p:=⟨gb822,0,none⟩) (Kd.jN HO836.out BK822.out (by decide)) (fun _ hk=>hk.2) (.slice Ao9 t826.length co9)) (fun _ hk=>hk.1.2),Y91⟩
def jwa.f (a0 : Int) (a1 : Int) (a2 : Int) : Option (Bool) := if a1 ≤ a0 then (some (decide (a0 ≤ a2))) else (some false)
set_option maxHeartbeats 8000000 in
set_option maxRecDepth 100000 in
theorem jwa.calls (a0 : Int) (a1 : Int) (a2 : Int) (r : Bool) (w : World) (h : jwa.f a0 a1 a2 = some r) :
  Calls Try.prog 92 #[.int .i64 a0, .int .i64 a1, .int .i64 a2] w fun e w'=>e=.returned (.bool r)∧jrb w w':=by
 have H:(if a1≤a0 then (some (decide (a0≤a2))) else (some false))=some r:=h
 clear h
 by_cases c4:a1≤a0
 ·rw [if_pos c4] at H
  have c4b0:decide (a1≤a0)=true:=dzT c4
  clear c4
  obtain rfl:=Option.some.inj H
  go_enter Try.func92,Try.ntmps92
  go_wp2
  go_ret
  exact ⟨sq,Y4⟩
 ·rw [if_neg c4] at H
  have c4b0:decide (a1≤a0)=false:=dzF c4
  clear c4
  obtain rfl:=Option.some.inj H
  go_enter Try.func92,Try.ntmps92
  go_wp2
  go_ret
  exact ⟨sq,Y4⟩
def jcb.f (l0_0 : List (S106)) (a1 : Int) : Option (Bool) := (jwa.f a1 0 (wrap64 ((l0_0.length : Int) - 1))).bind fun t107 => (some t107)
set_option maxHeartbeats 8000000 in
set_option maxRecDepth 100000 in
theorem jcb.calls (A0_0 : Option Addr) (c0_0 : Nat) (l0_0 : List (S106)) (a1 : Int) (r : Bool) (w : World) (hr0_0 : Kd.C k106 w A0_0 l0_0.length l0_0) (hc0_0 : l0_0.length ≤ c0_0) (h : jcb.f l0_0 a1 = some r) :
  Calls Try.prog 93 #[.agg #[.slice A0_0 l0_0.length c0_0], .int .i64 a1] w fun e w'=>e=.returned (.bool r)∧Below w.heap.size w w':=by
 have hu31:=Try.underlying31
 have HR0_0:=am hr0_0
 have HC0_0:=am hc0_0
 clear hr0_0 hc0_0
 have HB:=am (Below.refl w.heap.size w)
 have H:((jwa.f a1 0 (wrap64 ((l0_0.length:Int) - 1))).bind fun t107=>(some t107))=some r:=h
 clear h
 replace H:=bzS H
 obtain ⟨t107,A30,H⟩:=H
 replace H:(some t107)=some r:=H
 have A3:=am A30
 clear A30
 obtain rfl:=Option.some.inj H
 go_enter Try.func93,Try.ntmps93
 go_wp2_with (first |((with_reducible refine jP (N:=2) rfl ?_);refine bE (N:=2) (cs:=#[.slice A0_0 l0_0.length c0_0]) (t:=31) ?_;intro gb106 hg w4 hbox hb;have BK106:=am (hbox);have GW106:=am ((Y3:w.heap.size≤gb106));have GE106:=am ((Y3:w.heap.size≤gb106));replace HB:=am (jk (bq) hb);clear hb hbox hg;have hcz5_0:=bc0 BK106.out;have hfz5_0:=jd BK106.out 0) |((with_reducible refine jy (f:=92) rfl ?_);refine gL (some 10) Try.func92 #[.int .i64 a1, .int .i64 0, .int .i64 (wrap64 ((l0_0.length:Int) - 1))] ?_;(with_reducible refine (jwa.calls a1 0 (wrap64 ((l0_0.length:Int) - 1)) t107 _ A3.out).mono ?_);rintro e w' ⟨rfl,⟨nd,rfl⟩⟩;refine ⟨_,rfl,?_⟩))
 go_ret
 exact ⟨Y0,by repeat (first |(with_reducible first | exact HB.out | apply jJ | apply jw | apply jF | refine jq ?_ GE106.out) | exact HB.out)⟩
def jDa.j0 : Nat → Int → Bool → List (S106) → Int → Int → Int → Option (Bool)
 | 0,_,_,_,_,_,_=>none
 | k+1,x6,x7,x109000,x110000,x110001,x110002=>if x7=true then ((jwa.f x110001 0 99).bind fun t110=>(if t110=true then (some (x110002 == 0)) else (some false))) else (if x6=2 then ((jcb.f x109000 x110001).bind fun t111=>(if t111=true then (some (x110002 == 0)) else (some false))) else (if x6=3 then ((jcb.f x109000 x110001).bind fun t112=>(if t112=true then ((jwa.f x110002 0 99).bind fun t113=>(some t113)) else (some false))) else (some false)))
def jDa.f (k : Nat) (l0_0 : List (S106)) (a1_0 : Int) (a1_1 : Int) (a1_2 : Int) : Option (Bool) := if a1_0 = 0 then (jDa.j0 k a1_0 (a1_0 == 0) l0_0 a1_0 a1_1 a1_2) else (jDa.j0 k a1_0 (a1_0 == 1) l0_0 a1_0 a1_1 a1_2)
set_option maxHeartbeats 8000000 in
set_option maxRecDepth 100000 in
theorem jDa.calls (k : Nat) (A0_0 : Option Addr) (c0_0 : Nat) (l0_0 : List (S106)) (a1_0 : Int) (a1_1 : Int) (a1_2 : Int) (r : Bool) (w : World) (hr0_0 : Kd.C k106 w A0_0 l0_0.length l0_0) (hc0_0 : l0_0.length ≤ c0_0) (h : jDa.f k l0_0 a1_0 a1_1 a1_2 = some r) :
  Calls Try.prog 66 #[.agg #[.slice A0_0 l0_0.length c0_0], .agg #[.int .i64 a1_0, .int .i64 a1_1, .int .i64 a1_2]] w fun e w'=>e=.returned (.bool r)∧Below w.heap.size w w':=by
 have hu31:=Try.underlying31
 have hu44:=Try.underlying44
 have HR0_0:=am hr0_0
 have HC0_0:=am hc0_0
 clear hr0_0 hc0_0
 have HB:=am (Below.refl w.heap.size w)
 have H:(if a1_0=0 then (jDa.j0 k a1_0 (a1_0 == 0) l0_0 a1_0 a1_1 a1_2) else (jDa.j0 k a1_0 (a1_0 == 1) l0_0 a1_0 a1_1 a1_2))=some r:=h
 clear h
 have HC3:=am H
 clear H
 go_enter Try.func66,Try.ntmps66
 go_upto_if 7 with (first |((with_reducible refine jP (N:=2) rfl ?_);refine bE (N:=2) (cs:=#[.slice A0_0 l0_0.length c0_0]) (t:=31) ?_;intro gb108 hg w4 hbox hb;have BK108:=am (hbox);have GW108:=am ((Y3:w.heap.size≤gb108));have GE108:=am ((Y3:w.heap.size≤gb108));replace HB:=am (jk (bq) hb);clear hb hbox hg) |((with_reducible refine jP (N:=3) rfl ?_);refine bE (N:=3) (cs:=#[.int .i64 a1_0, .int .i64 a1_1, .int .i64 a1_2]) (t:=44) ?_;intro gb109 hg w5 hbox hb;have BK109:=am (hbox);have GW109:=am ((Y137:w.heap.size≤gb109));have GE109:=am ((Y137:w.heap.size≤gb109));have NB108_109:=am ((by rw [hg];exact Nat.ne_of_lt (jta (g:=gb108) (o:=.cells #[.slice A0_0 l0_0.length c0_0] 31 (0,0)) (kq BK108.out)):gb108≠gb109));have NB109_108:=am ((by rw [hg];exact Nat.ne_of_gt (jta (g:=gb108) (o:=.cells #[.slice A0_0 l0_0.length c0_0] 31 (0,0)) (kq BK108.out)):gb109≠gb108));replace BK108:=am (je (g:=gb108) (o:=.cells #[.slice A0_0 l0_0.length c0_0] 31 (0,0)) (kq BK108.out) hb);replace HB:=am (jk (by repeat (first |(with_reducible first | exact HB.out | apply jJ | apply jw | apply jF | refine jq ?_ GE108.out) | exact HB.out)) hb);clear hb hbox hg;have hnb6:=NB109_108.out;have hnc6:=NB108_109.out;have hcz7_0:=bc0 BK109.out;have hcz7_1:=bc1 BK109.out;have hcz7_2:=bc2 BK109.out;have hfz7_0:=jd BK109.out 0;have hfz7_1:=jd BK109.out 1;have hfz7_2:=jd BK109.out 2))
 (try simp only [Act.put,List.setIfInBounds_toArray,List.set_cons_zero,List.set_cons_succ])
 go_cut [7] (fun v7 wc=>∃ (kq:Nat) (x7_2:Bool),v7=.bool x7_2∧jv (jDa.j0 kq a1_0 x7_2 l0_0 a1_0 a1_1 a1_2=some r)∧jv (kq≤k)∧jv (wc.heap[gb108]?=some (.cells #[(.slice A0_0 l0_0.length c0_0)] 31 (0,0)))∧jv (wc.heap[gb109]?=some (.cells #[.int .i64 a1_0, .int .i64 a1_1, .int .i64 a1_2] 44 (0,0)))∧jv (Below w.heap.size w wc))
 case first =>
  have H:=HC3.out
  clear HC3
  by_cases c8:a1_0=0
  ·rw [if_pos c8] at H
   have c8b0:(a1_0 == 0)=true:=beq_iff_eq.mpr c8
   have c8b1:(a1_0 != 0)=false:=bne_eq_false_iff_eq.mpr c8
   clear c8
   (first | rw [c8b0] |(simp only [jyb,jBb];rw [c8b0]) | skip)
   have H':=am H
   clear H
   go_wp2
   go_meet
   case rel=>exact ⟨_,((a1_0 == 0)),(sq),H',⟨Y16⟩,⟨kq BK108.out⟩,⟨kq BK109.out⟩,⟨Y23⟩⟩
  ·rw [if_neg c8] at H
   have c8b0:(a1_0 == 0)=false:=beq_eq_false_iff_ne.mpr c8
   have c8b1:(a1_0 != 0)=true:=bne_iff_ne.mpr c8
   (first | rw [c8b0] |(simp only [jyb,jBb];rw [c8b0]) | skip)
   have H':=am H
   clear H
   go_wp2
   go_meet
   case rel=>exact ⟨_,((a1_0 == 1)),(sq),H',⟨Y16⟩,⟨kq BK108.out⟩,⟨kq BK109.out⟩,⟨Y23⟩⟩
 case rest =>
  clear HC3
  try clear p2
  try clear c6
  try clear c8
  try clear c8b0
  try clear c8b1
  try clear hcz7_0
  try clear hcz7_1
  try clear hcz7_2
  try clear hfz7_0
  try clear hfz7_1
  try clear hfz7_2
  obtain ⟨kq,x7_2,rfl,HA,HJ2,BK108,BK109,HB⟩:=hcut
  cases kq with
  | zero=>exact absurd HA.out (by simp [jDa.j0])
  | succ kj2 =>
   have H:=HA.out
   clear HA
   simp only [jDa.j0] at H
   by_cases c9:x7_2=true
   ·subst c9
    have H1:((jwa.f a1_1 0 99).bind fun t110=>(if t110=true then (some (a1_2 == 0)) else (some false)))=some r:=by rw [if_pos rfl] at H;exact H
    clear H
    have H:=H1
    clear H1
    replace H:=bzS H
    obtain ⟨t110,A100,H⟩:=H
    replace H:(if t110=true then (some (a1_2 == 0)) else (some false))=some r:=H
    have A10:=am A100
    clear A100
    by_cases c11:t110=true
    ·subst c11
     have H1:(some (a1_2 == 0))=some r:=by rw [if_pos rfl] at H;exact H
     clear H
     have H:=H1
     clear H1
     obtain rfl:=Option.some.inj H
     have hnb12:=NB109_108.out
     have hnc12:=NB108_109.out
     have hcz13_0:=bc0 BK109.out
     have hcz13_1:=bc1 BK109.out
     have hcz13_2:=bc2 BK109.out
     have hfz13_0:=jd BK109.out 0
     have hfz13_1:=jd BK109.out 1
     have hfz13_2:=jd BK109.out 2
     go_wp2_with (first |((with_reducible refine jy (f:=92) rfl ?_);refine gL (some 12) Try.func92 #[.int .i64 a1_1, .int .i64 0, .int .i64 99] ?_;(with_reducible refine (jwa.calls a1_1 0 99 true _ A10.out).mono ?_);rintro e w' ⟨rfl,⟨nd,rfl⟩⟩;refine ⟨_,rfl,?_⟩))
     go_ret
     exact ⟨Y0,Y23⟩
    ·replace c11:=Bool.eq_false_iff.mpr c11
     subst c11
     have H1:(some false)=some r:=by rw [if_neg (show ¬ (false=true) by decide)] at H;exact H
     clear H
     have H:=H1
     clear H1
     obtain rfl:=Option.some.inj H
     have hnb14:=NB109_108.out
     have hnc14:=NB108_109.out
     have hcz15_0:=bc0 BK109.out
     have hcz15_1:=bc1 BK109.out
     have hcz15_2:=bc2 BK109.out
     have hfz15_0:=jd BK109.out 0
     have hfz15_1:=jd BK109.out 1
     have hfz15_2:=jd BK109.out 2
     go_wp2_with (first |((with_reducible refine jy (f:=92) rfl ?_);refine gL (some 12) Try.func92 #[.int .i64 a1_1, .int .i64 0, .int .i64 99] ?_;(with_reducible refine (jwa.calls a1_1 0 99 false _ A10.out).mono ?_);rintro e w' ⟨rfl,⟨nd,rfl⟩⟩;refine ⟨_,rfl,?_⟩))
     go_ret
     exact ⟨Y0,Y23⟩
   ·replace c9:=Bool.eq_false_iff.mpr c9
    subst c9
    have H1:(if a1_0=2 then ((jcb.f l0_0 a1_1).bind fun t111=>(if t111=true then (some (a1_2 == 0)) else (some false))) else (if a1_0=3 then ((jcb.f l0_0 a1_1).bind fun t112=>(if t112=true then ((jwa.f a1_2 0 99).bind fun t113=>(some t113)) else (some false))) else (some false)))=some r:=by rw [if_neg (show ¬ (false=true) by decide)] at H;exact H
    clear H
    have H:=H1
    clear H1
    by_cases c16:a1_0=2
    ·rw [if_pos c16] at H
     have c16b0:(a1_0 == 2)=true:=beq_iff_eq.mpr c16
     have c16b1:(a1_0 != 2)=false:=bne_eq_false_iff_eq.mpr c16
     clear c16
     replace H:=bzS H
     obtain ⟨t111,A170,H⟩:=H
     replace H:(if t111=true then (some (a1_2 == 0)) else (some false))=some r:=H
     have A17:=am A170
     clear A170
     by_cases c18:t111=true
     ·subst c18
      have H1:(some (a1_2 == 0))=some r:=by rw [if_pos rfl] at H;exact H
      clear H
      have H:=H1
      clear H1
      obtain rfl:=Option.some.inj H
      have hnb19:=NB108_109.out
      have hnc19:=NB109_108.out
      have hcz20_0:=bc0 BK108.out
      have hfz20_0:=jd BK108.out 0
      have hcz21_0:=bc0 BK109.out
      have hcz21_1:=bc1 BK109.out
      have hcz21_2:=bc2 BK109.out
      have hfz21_0:=jd BK109.out 0
      have hfz21_1:=jd BK109.out 1
      have hfz21_2:=jd BK109.out 2
      go_wp2_with (first |((with_reducible refine jy (f:=93) rfl ?_);refine gL (some 23) Try.func93 #[.agg #[.slice A0_0 l0_0.length c0_0], .int .i64 a1_1] ?_;(with_reducible refine (jcb.calls _ _ l0_0 a1_1 true _ ?side1 ?side2 A17.out).mono ?_);(case side1=>exact cq (Kd.jka HR0_0.out HB.out));(case side2=>exact HC0_0.out);rintro e w22 ⟨rfl,hb⟩;refine ⟨_,rfl,?_⟩;replace BK108:=am (je (g:=gb108) (o:=.cells #[.slice A0_0 l0_0.length c0_0] 31 (0,0)) (kq BK108.out) hb);replace BK109:=am (je (g:=gb109) (o:=.cells #[.int .i64 a1_0, .int .i64 a1_1, .int .i64 a1_2] 44 (0,0)) (kq BK109.out) hb);replace HB:=am (jk (Y23) hb);(try clear hb);(try clear hb2);(try clear hk);(try clear hi);have hcz23_0:=bc0 BK109.out;have hcz23_1:=bc1 BK109.out;have hcz23_2:=bc2 BK109.out;have hfz23_0:=jd BK109.out 0;have hfz23_1:=jd BK109.out 1;have hfz23_2:=jd BK109.out 2))
      go_ret
      exact ⟨Y0,Y23⟩
     ·replace c18:=Bool.eq_false_iff.mpr c18
      subst c18
      have H1:(some false)=some r:=by rw [if_neg (show ¬ (false=true) by decide)] at H;exact H
      clear H
      have H:=H1
      clear H1
      obtain rfl:=Option.some.inj H
      have hnb24:=NB108_109.out
      have hnc24:=NB109_108.out
      have hcz25_0:=bc0 BK108.out
      have hfz25_0:=jd BK108.out 0
      have hcz26_0:=bc0 BK109.out
      have hcz26_1:=bc1 BK109.out
      have hcz26_2:=bc2 BK109.out
      have hfz26_0:=jd BK109.out 0
      have hfz26_1:=jd BK109.out 1
      have hfz26_2:=jd BK109.out 2
      go_wp2_with (first |((with_reducible refine jy (f:=93) rfl ?_);refine gL (some 23) Try.func93 #[.agg #[.slice A0_0 l0_0.length c0_0], .int .i64 a1_1] ?_;(with_reducible refine (jcb.calls _ _ l0_0 a1_1 false _ ?side1 ?side2 A17.out).mono ?_);(case side1=>exact cq (Kd.jka HR0_0.out HB.out));(case side2=>exact HC0_0.out);rintro e w27 ⟨rfl,hb⟩;refine ⟨_,rfl,?_⟩;replace BK108:=am (je (g:=gb108) (o:=.cells #[.slice A0_0 l0_0.length c0_0] 31 (0,0)) (kq BK108.out) hb);replace BK109:=am (je (g:=gb109) (o:=.cells #[.int .i64 a1_0, .int .i64 a1_1, .int .i64 a1_2] 44 (0,0)) (kq BK109.out) hb);replace HB:=am (jk (Y23) hb);(try clear hb);(try clear hb2);(try clear hk);(try clear hi)))
      go_ret
      exact ⟨Y0,Y23⟩
    ·rw [if_neg c16] at H
     have c16b0:(a1_0 == 2)=false:=beq_eq_false_iff_ne.mpr c16
     have c16b1:(a1_0 != 2)=true:=bne_iff_ne.mpr c16
     by_cases c28:a1_0=3
     ·rw [if_pos c28] at H
      have c28b0:(a1_0 == 3)=true:=beq_iff_eq.mpr c28
      have c28b1:(a1_0 != 3)=false:=bne_eq_false_iff_eq.mpr c28
      clear c28
      replace H:=bzS H
      obtain ⟨t112,A290,H⟩:=H
      replace H:(if t112=true then ((jwa.f a1_2 0 99).bind fun t113=>(some t113)) else (some false))=some r:=H
      have A29:=am A290
      clear A290
      by_cases c30:t112=true
      ·subst c30
       have H1:((jwa.f a1_2 0 99).bind fun t113=>(some t113))=some r:=by rw [if_pos rfl] at H;exact H
       clear H
       have H:=H1
       clear H1
       replace H:=bzS H
       obtain ⟨t113,A310,H⟩:=H
       replace H:(some t113)=some r:=H
       have A31:=am A310
       clear A310
       obtain rfl:=Option.some.inj H
       have hnb32:=NB108_109.out
       have hnc32:=NB109_108.out
       have hcz33_0:=bc0 BK108.out
       have hfz33_0:=jd BK108.out 0
       have hcz34_0:=bc0 BK109.out
       have hcz34_1:=bc1 BK109.out
       have hcz34_2:=bc2 BK109.out
       have hfz34_0:=jd BK109.out 0
       have hfz34_1:=jd BK109.out 1
       have hfz34_2:=jd BK109.out 2
       go_wp2_with (first |((with_reducible refine jy (f:=93) rfl ?_);refine gL (some 34) Try.func93 #[.agg #[.slice A0_0 l0_0.length c0_0], .int .i64 a1_1] ?_;(with_reducible refine (jcb.calls _ _ l0_0 a1_1 true _ ?side1 ?side2 A29.out).mono ?_);(case side1=>exact cq (Kd.jka HR0_0.out HB.out));(case side2=>exact HC0_0.out);rintro e w35 ⟨rfl,hb⟩;refine ⟨_,rfl,?_⟩;replace BK108:=am (je (g:=gb108) (o:=.cells #[.slice A0_0 l0_0.length c0_0] 31 (0,0)) (kq BK108.out) hb);replace BK109:=am (je (g:=gb109) (o:=.cells #[.int .i64 a1_0, .int .i64 a1_1, .int .i64 a1_2] 44 (0,0)) (kq BK109.out) hb);replace HB:=am (jk (Y23) hb);(try clear hb);(try clear hb2);(try clear hk);(try clear hi);have hcz36_0:=bc0 BK109.out;have hcz36_1:=bc1 BK109.out;have hcz36_2:=bc2 BK109.out;have hfz36_0:=jd BK109.out 0;have hfz36_1:=jd BK109.out 1;have hfz36_2:=jd BK109.out 2) |(go_at_call 92;(with_reducible refine (jwa.calls a1_2 0 99 t113 _ A31.out).mono ?_);rintro e w' ⟨rfl,⟨nd,rfl⟩⟩))
       go_ret
       exact ⟨Y0,Y23⟩
      ·replace c30:=Bool.eq_false_iff.mpr c30
       subst c30
       have H1:(some false)=some r:=by rw [if_neg (show ¬ (false=true) by decide)] at H;exact H
       clear H
       have H:=H1
       clear H1
       obtain rfl:=Option.some.inj H
       have hnb37:=NB108_109.out
       have hnc37:=NB109_108.out
       have hcz38_0:=bc0 BK108.out
       have hfz38_0:=jd BK108.out 0
       have hcz39_0:=bc0 BK109.out
       have hcz39_1:=bc1 BK109.out
       have hcz39_2:=bc2 BK109.out
       have hfz39_0:=jd BK109.out 0
       have hfz39_1:=jd BK109.out 1
       have hfz39_2:=jd BK109.out 2
       go_wp2_with (first |((with_reducible refine jy (f:=93) rfl ?_);refine gL (some 34) Try.func93 #[.agg #[.slice A0_0 l0_0.length c0_0], .int .i64 a1_1] ?_;(with_reducible refine (jcb.calls _ _ l0_0 a1_1 false _ ?side1 ?side2 A29.out).mono ?_);(case side1=>exact cq (Kd.jka HR0_0.out HB.out));(case side2=>exact HC0_0.out);rintro e w40 ⟨rfl,hb⟩;refine ⟨_,rfl,?_⟩;replace BK108:=am (je (g:=gb108) (o:=.cells #[.slice A0_0 l0_0.length c0_0] 31 (0,0)) (kq BK108.out) hb);replace BK109:=am (je (g:=gb109) (o:=.cells #[.int .i64 a1_0, .int .i64 a1_1, .int .i64 a1_2] 44 (0,0)) (kq BK109.out) hb);replace HB:=am (jk (Y23) hb);(try clear hb);(try clear hb2);(try clear hk);(try clear hi)))
       go_ret
       exact ⟨Y0,Y23⟩
     ·rw [if_neg c28] at H
      have c28b0:(a1_0 == 3)=false:=beq_eq_false_iff_ne.mpr c28
      have c28b1:(a1_0 != 3)=true:=bne_iff_ne.mpr c28
      obtain rfl:=Option.some.inj H
      go_wp2
      go_ret
      exact ⟨Y0,Y23⟩
def jMa.l0 : Nat → ByteArray → Int → Option (Bool)
 | 0,_,_=>none
 | k+1,x0,x3=>if x3<(x0.size:Int) then (if 0≤x3 then (if (bt x0 x3)<97 then (some false) else (if (bt x0 x3) > 122 then (some false) else (jMa.l0 k x0 (wrap64 (x3+1))))) else (none)) else ((jwa.f (x0.size:Int) 1 6).bind fun t114=>(some t114))
def jMa.f (k : Nat) (a0 : ByteArray) : Option (Bool) := jMa.l0 k a0 0
set_option maxHeartbeats 8000000 in
set_option maxRecDepth 100000 in
theorem jMa.calls (k : Nat) (a0 : ByteArray) (r : Bool) (w : World) (h : jMa.f k a0 = some r) :
  Calls Try.prog 94 #[.string a0] w fun e w'=>e=.returned (.bool r)∧jrb w w':=by
 have H:(jMa.l0 k a0 0)=some r:=h
 clear h
 have H':=am H
 clear H
 go_enter Try.func94,Try.ntmps94
 go_wp2
 go_loopg [3] k (fun kq v3 w'=>∃ (x3_1:Int),v3=.int .i64 x3_1∧jv (jMa.l0 kq a0 x3_1=some r)∧jv (kq≤k)∧jrb w w')
 case atStart=>exact ⟨(0),(sq),H',⟨Nat.le_refl _⟩,Y4⟩
 case round =>
  clear H'
  obtain ⟨x3_1,rfl,HA,HK1,⟨m1,rfl⟩⟩:=hrel
  cases gk with
  | zero=>exact absurd HA.out (by simp [jMa.l0])
  | succ k1 =>
   have H:=HA.out
   clear HA
   simp only [jMa.l0] at H
   by_cases c2:x3_1<(a0.size:Int)
   ·rw [if_pos c2] at H
    have c2b0:decide (x3_1<(a0.size:Int))=true:=dzT c2
    clear c2
    by_cases c3:0≤x3_1
    ·rw [if_pos c3] at H
     have c3b0:decide (0≤x3_1)=true:=dzT c3
     clear c3
     by_cases c5:(bt a0 x3_1)<97
     ·rw [if_pos c5] at H
      have c5b0:decide ((bt a0 x3_1)<97)=true:=dzT c5
      clear c5
      obtain rfl:=Option.some.inj H
      have p4:0≤(x3_1:Int):=ozD (uq)
      have q4:x3_1<(a0.size:Int):=ozD (uq)
      have hx4:=bt_at a0 x3_1
      replace p4:=ezT p4
      replace q4:=ezT q4
      go_wp2
      go_ret
      exact ⟨sq,Y4⟩
     ·rw [if_neg c5] at H
      have c5b0:decide ((bt a0 x3_1)<97)=false:=dzF c5
      clear c5
      by_cases c7:(bt a0 x3_1) > 122
      ·rw [if_pos c7] at H
       have c7b0:decide (122<(bt a0 x3_1))=true:=dzT c7
       clear c7
       obtain rfl:=Option.some.inj H
       have p4:0≤(x3_1:Int):=ozD (uq)
       have q4:x3_1<(a0.size:Int):=ozD (uq)
       have hx4:=bt_at a0 x3_1
       replace p4:=ezT p4
       replace q4:=ezT q4
       have p6:0≤(x3_1:Int):=ozD (uq)
       have q6:x3_1<(a0.size:Int):=ozD (uq)
       have hx6:=bt_at a0 x3_1
       replace p6:=ezT p6
       replace q6:=ezT q6
       go_wp2
       go_ret
       exact ⟨sq,Y4⟩
      ·rw [if_neg c7] at H
       have c7b0:decide (122<(bt a0 x3_1))=false:=dzF c7
       clear c7
       have H':=am H
       clear H
       have p4:0≤(x3_1:Int):=ozD (uq)
       have q4:x3_1<(a0.size:Int):=ozD (uq)
       have hx4:=bt_at a0 x3_1
       replace p4:=ezT p4
       replace q4:=ezT q4
       have p6:0≤(x3_1:Int):=ozD (uq)
       have q6:x3_1<(a0.size:Int):=ozD (uq)
       have hx6:=bt_at a0 x3_1
       replace p6:=ezT p6
       replace q6:=ezT q6
       go_wp2
       go_roundg k1
       case measure=>have:=HK1.out;omega
       case rel=>exact ⟨(wrap64 (x3_1+1)),(sq),H',⟨by have:=HK1.out;omega⟩,Y4⟩
    ·rw [if_neg c3] at H
     exact absurd H (by simp)
   ·rw [if_neg c2] at H
    have c2b0:decide (x3_1<(a0.size:Int))=false:=dzF c2
    clear c2
    replace H:=bzS H
    obtain ⟨t114,A80,H⟩:=H
    replace H:(some t114)=some r:=H
    have A8:=am A80
    clear A80
    obtain rfl:=Option.some.inj H
    go_wp2_with (first |((with_reducible refine jy (f:=92) rfl ?_);refine gL (some 22) Try.func92 #[.int .i64 (a0.size:Int), .int .i64 1, .int .i64 6] ?_;(with_reducible refine (jwa.calls (a0.size:Int) 1 6 t114 _ A8.out).mono ?_);rintro e w' ⟨rfl,⟨nd,rfl⟩⟩;refine ⟨_,rfl,?_⟩))
    go_ret
    exact ⟨sq,Y4⟩
def jEa.l0 : Nat → List (S106) → ByteArray → Int → Option (Int)
 | 0,_,_,_=>none
 | k+1,x0,x1,x5=>if x5<(x0.length:Int) then (if 0≤x5 then (if ((jQ x0 x5).f0).toList=x1.toList then (some x5) else (jEa.l0 k x0 x1 (wrap64 (x5+1)))) else (none)) else (some (-1))
def jEa.f (k : Nat) (l0 : List (S106)) (a1 : ByteArray) : Option (Int) := jEa.l0 k l0 a1 0
set_option maxHeartbeats 8000000 in
set_option maxRecDepth 100000 in
theorem jEa.calls (k : Nat) (A0 : Option Addr) (c0 : Nat) (l0 : List (S106)) (a1 : ByteArray) (r : Int) (w : World) (hr0 : Kd.C k106 w A0 l0.length l0) (hc0 : l0.length ≤ c0) (h : jEa.f k l0 a1 = some r) :
  Calls Try.prog 95 #[.slice A0 l0.length c0, .string a1] w fun e w'=>e=.returned (.int .i64 r)∧jrb w w':=by
 have HR0:=am hr0
 have HC0:=am hc0
 clear hr0 hc0
 have H:(jEa.l0 k l0 a1 0)=some r:=h
 clear h
 have H':=am H
 clear H
 go_enter Try.func95,Try.ntmps95
 go_wp2
 go_loopg [5] k (fun kq v5 w'=>∃ (x5_1:Int),v5=.int .i64 x5_1∧jv (jEa.l0 kq l0 a1 x5_1=some r)∧jv (kq≤k)∧jrb w w')
 case atStart=>exact ⟨(0),(sq),H',⟨Nat.le_refl _⟩,Y4⟩
 case round =>
  clear H'
  try clear p2
  obtain ⟨x5_1,rfl,HA,HK1,⟨m1,rfl⟩⟩:=hrel
  cases gk with
  | zero=>exact absurd HA.out (by simp [jEa.l0])
  | succ k1 =>
   have H:=HA.out
   clear HA
   simp only [jEa.l0] at H
   by_cases c3:x5_1<(l0.length:Int)
   ·rw [if_pos c3] at H
    have c3b0:decide (x5_1<(l0.length:Int))=true:=dzT c3
    clear c3
    by_cases c4:0≤x5_1
    ·rw [if_pos c4] at H
     have c4b0:decide (0≤x5_1)=true:=dzT c4
     clear c4
     by_cases c5:((jQ l0 x5_1).f0).toList=a1.toList
     ·rw [if_pos c5] at H
      have c5b0:(((jQ l0 x5_1).f0).toList == a1.toList)=true:=beq_iff_eq.mpr c5
      have c5b1:(((jQ l0 x5_1).f0).toList != a1.toList)=false:=bne_eq_false_iff_eq.mpr c5
      clear c5
      obtain rfl:=Option.some.inj H
      have p115:0≤(x5_1:Int):=ozD (uq)
      have q115:x5_1<(l0.length:Int):=ozD (uq)
      obtain ⟨ad115,e115,hx115_0,hx115_1⟩:=at_T106 HR0.out x5_1 p115 q115
      cases e115
      replace p115:=ezT p115
      replace q115:=ezT q115
      go_wp2
      go_ret
      exact ⟨sq,Y4⟩
     ·rw [if_neg c5] at H
      have c5b0:(((jQ l0 x5_1).f0).toList == a1.toList)=false:=beq_eq_false_iff_ne.mpr c5
      have c5b1:(((jQ l0 x5_1).f0).toList != a1.toList)=true:=bne_iff_ne.mpr c5
      have H':=am H
      clear H
      have p115:0≤(x5_1:Int):=ozD (uq)
      have q115:x5_1<(l0.length:Int):=ozD (uq)
      obtain ⟨ad115,e115,hx115_0,hx115_1⟩:=at_T106 HR0.out x5_1 p115 q115
      cases e115
      replace p115:=ezT p115
      replace q115:=ezT q115
      go_wp2
      go_roundg k1
      case measure=>have:=HK1.out;omega
      case rel=>exact ⟨(wrap64 (x5_1+1)),(sq),H',⟨by have:=HK1.out;omega⟩,Y4⟩
    ·rw [if_neg c4] at H
     exact absurd H (by simp)
   ·rw [if_neg c3] at H
    have c3b0:decide (x5_1<(l0.length:Int))=false:=dzF c3
    clear c3
    obtain rfl:=Option.some.inj H
    go_wp2
    go_ret
    exact ⟨sq,Y4⟩
mutual
def jU.l0 : Nat → Int → List (S106) → Option (Bool)
 | 0,_,_=>none
 | k+1,x3,x155000=>if x3<(x155000.length:Int) then (if 0≤x3 then ((jMa.f k ((jQ x155000 x3).f0)).bind fun t158=>(if t158=true then (if x3≤(x155000.length:Int) then ((jEa.f k (x155000.take (x3:Int).toNat) ((jQ x155000 x3).f0)).bind fun t163=>(if t163≥0 then (jU.j1 k x3 true x155000) else (if x3=0 then (if ((jQ x155000 x3).f1)=(-1) then (if x3 > 0 then ((jwa.f ((jQ x155000 x3).f1) 0 (wrap64 (x3 - 1))).bind fun t164=>(jU.j1 k x3 (!t164) x155000)) else (jU.j1 k x3 false x155000)) else (jU.j1 k x3 true x155000)) else (if x3 > 0 then ((jwa.f ((jQ x155000 x3).f1) 0 (wrap64 (x3 - 1))).bind fun t165=>(jU.j1 k x3 (!t165) x155000)) else (jU.j1 k x3 false x155000))))) else (none)) else (jU.j1 k x3 true x155000))) else (none)) else ((jwa.f (x155000.length:Int) 1 8).bind fun t155=>(some t155))
def jU.j1 : Nat → Int → Bool → List (S106) → Option (Bool)
 | 0,_,_,_=>none
 | k+1,x3,x51,x155000=>if x51=true then (some false) else (jU.l0 k (wrap64 (x3+1)) x155000)
end
def jU.f (k : Nat) (l0_0 : List (S106)) : Option (Bool) := jU.l0 k 0 l0_0
set_option maxHeartbeats 8000000 in
set_option maxRecDepth 100000 in
theorem jU.calls (k : Nat) (A0_0 : Option Addr) (c0_0 : Nat) (l0_0 : List (S106)) (r : Bool) (w : World) (hr0_0 : Kd.C k106 w A0_0 l0_0.length l0_0) (hc0_0 : l0_0.length ≤ c0_0) (h : jU.f k l0_0 = some r) :
  Calls Try.prog 67 #[.agg #[.slice A0_0 l0_0.length c0_0]] w fun e w'=>e=.returned (.bool r)∧Below w.heap.size w w':=by
 have hu31:=Try.underlying31
 have hu106:=Try.underlying106
 have HR0_0:=am hr0_0
 have HC0_0:=am hc0_0
 clear hr0_0 hc0_0
 have HB:=am (Below.refl w.heap.size w)
 have H:(jU.l0 k 0 l0_0)=some r:=h
 clear h
 have H':=am H
 clear H
 go_enter Try.func67,Try.ntmps67
 go_wp2_with (first |((with_reducible refine jP (N:=1) rfl ?_);refine bE (N:=1) (cs:=#[.slice A0_0 l0_0.length c0_0]) (t:=31) ?_;intro gb154 hg w2 hbox hb;have BK154:=am (hbox);have GW154:=am ((Y3:w.heap.size≤gb154));have GE154:=am ((Y3:w.heap.size≤gb154));replace HB:=am (jk (bq) hb);clear hb hbox hg))
 go_loopg [3] k (fun kq v3 w'=>∃ (x3_1:Int),v3=.int .i64 x3_1∧jv (jU.l0 kq x3_1 l0_0=some r)∧jv (kq≤k)∧jv (w'.heap[gb154]?=some (.cells #[(.slice A0_0 l0_0.length c0_0)] 31 (0,0)))∧jv (Below w.heap.size w w'))
 case atStart=>exact ⟨(0),(sq),H',⟨Nat.le_refl _⟩,⟨kq BK154.out⟩,⟨Y102⟩⟩
 case round =>
  clear H'
  try clear c1
  try clear p2
  obtain ⟨x3_1,rfl,HA,HK1,BK154,HB⟩:=hrel
  cases gk with
  | zero=>exact absurd HA.out (by simp [jU.l0])
  | succ k1 =>
   have H:=HA.out
   clear HA
   simp only [jU.l0] at H
   by_cases c3:x3_1<(l0_0.length:Int)
   ·rw [if_pos c3] at H
    have c3b0:decide (x3_1<(l0_0.length:Int))=true:=dzT c3
    clear c3
    by_cases c4:0≤x3_1
    ·rw [if_pos c4] at H
     have c4b0:decide (0≤x3_1)=true:=dzT c4
     clear c4
     have HC5:=am H
     clear H
     have hcz6_0:=bc0 BK154.out
     have hfz6_0:=jd BK154.out 0
     have p156:0≤(x3_1:Int):=ozD (uq)
     have q156:x3_1<(l0_0.length:Int):=ozD (uq)
     obtain ⟨ad156,e156,hx156_0,hx156_1⟩:=at_T106 HR0_0.out x3_1 p156 q156
     cases e156
     replace hx156_0:=cb HB.out hx156_0
     replace hx156_1:=cb HB.out hx156_1
     replace p156:=ezT p156
     replace q156:=ezT q156
     go_upto_region 5 with (first |((with_reducible refine jP (N:=4) rfl ?_);refine bE (N:=4) (cs:=#[.string (⟨#[]⟩:ByteArray), .int .i64 0]) (t:=106) ?_;intro gb157 hg w7 hbox hb;have BK157:=am (hbox);have GW157:=am ((Y138:w.heap.size≤gb157));have GE157:=am ((Y138:w.heap.size≤gb157));have NB154_157:=am ((by rw [hg];exact Nat.ne_of_lt (jta (g:=gb154) (o:=.cells #[.slice (some ad156) l0_0.length c0_0] 31 (0,0)) (kq BK154.out)):gb154≠gb157));have NB157_154:=am ((by rw [hg];exact Nat.ne_of_gt (jta (g:=gb154) (o:=.cells #[.slice (some ad156) l0_0.length c0_0] 31 (0,0)) (kq BK154.out)):gb157≠gb154));replace BK154:=am (je (g:=gb154) (o:=.cells #[.slice (some ad156) l0_0.length c0_0] 31 (0,0)) (kq BK154.out) hb);replace HB:=am (jk (Y102) hb);clear hb hbox hg;have hnb8:=NB157_154.out;have hnc8:=NB154_157.out;have hcz9_0:=bc0 BK157.out;have hcz9_1:=bc1 BK157.out;have hfz9_0:=jd BK157.out 0;have hfz9_1:=jd BK157.out 1))
     (try simp only [Act.put,List.setIfInBounds_toArray,List.set_cons_zero,List.set_cons_succ])
     go_cut [51] (fun v51 wc=>∃ (kq:Nat) (x51_4:Bool),v51=.bool x51_4∧jv (jU.j1 kq x3_1 x51_4 l0_0=some r)∧jv (kq≤k1)∧jv (wc.heap[gb154]?=some (.cells #[(.slice (some ad156) l0_0.length c0_0)] 31 (0,0)))∧jv (wc.heap[gb157]?=some (.cells #[.string ((jQ l0_0 x3_1).f0), .int .i64 ((jQ l0_0 x3_1).f1)] 106 (0,0)))∧jv (Below w.heap.size w wc))
     case first =>
      have n0_:jv (((w7.setCell ⟨gb157,0,none⟩ (.string ((jQ l0_0 x3_1).f0))).setCell ⟨gb157,1,none⟩ (.int .i64 ((jQ l0_0 x3_1).f1))).heap[gb154]?=some (.cells #[.slice (some ad156) l0_0.length c0_0] 31 (0,0))):=⟨by (with_reducible repeat (first | refine jb ?_ _ | refine jc ?_ | refine ja ?_ _));refine jr ?_ NB154_157.out _;(with_reducible repeat (first | refine jb ?_ _ | refine jc ?_ | refine ja ?_ _));refine jr ?_ NB154_157.out _;(with_reducible repeat (first | refine jb ?_ _ | refine jc ?_ | refine ja ?_ _));exact BK154.out⟩
      have n1_:jv (((w7.setCell ⟨gb157,0,none⟩ (.string ((jQ l0_0 x3_1).f0))).setCell ⟨gb157,1,none⟩ (.int .i64 ((jQ l0_0 x3_1).f1))).heap[gb157]?=some (.cells #[.string ((jQ l0_0 x3_1).f0), .int .i64 ((jQ l0_0 x3_1).f1)] 106 (0,0))):=⟨by (with_reducible repeat (first | refine jb ?_ _ | refine jc ?_ | refine ja ?_ _));refine jO (cs:=#[.string ((jQ l0_0 x3_1).f0), .int .i64 0]) ?_ 1 _ rfl;(with_reducible repeat (first | refine jb ?_ _ | refine jc ?_ | refine ja ?_ _));refine jO (cs:=#[.string (⟨#[]⟩:ByteArray), .int .i64 0]) ?_ 0 _ rfl;(with_reducible repeat (first | refine jb ?_ _ | refine jc ?_ | refine ja ?_ _));exact BK157.out⟩
      have n2_:jv (Below w.heap.size w ((w7.setCell ⟨gb157,0,none⟩ (.string ((jQ l0_0 x3_1).f0))).setCell ⟨gb157,1,none⟩ (.int .i64 ((jQ l0_0 x3_1).f1)))):=⟨Y103⟩
      clear BK154 BK157 HB hcz9_0 hcz9_1 hfz9_0 hfz9_1
      generalize ((w7.setCell ⟨gb157,0,none⟩ (.string ((jQ l0_0 x3_1).f0))).setCell ⟨gb157,1,none⟩ (.int .i64 ((jQ l0_0 x3_1).f1)))=w16 at n0_ n1_ n2_ ⊢
      have BK154:=n0_
      have BK157:=n1_
      have HB:=n2_
      clear n0_ n1_ n2_
      have HRW:=am (Kd.jka HR0_0.out HB.out)
      have e0:w16.cell? ⟨gb157,0,none⟩=some (.string ((jQ l0_0 x3_1).f0)):=(jh BK157.out 0).trans rfl
      have e1:w16.cell? ⟨gb157,1,none⟩=some (.int .i64 ((jQ l0_0 x3_1).f1)):=(jh BK157.out 1).trans rfl
      have e2:w16.cell? ⟨gb154,0,none⟩=some (.slice (some ad156) l0_0.length c0_0):=(jh BK154.out 0).trans rfl
      have H:=HC5.out
      clear HC5
      obtain ⟨v,hv,H⟩:=bzS H
      have HN:=am (fun W=>(jMa.calls k1 _ v W hv).mono fun e w' h=>(⟨h.1,h.2.out⟩:e=.returned (.bool v)∧∃ m,w'=W.drewN m))
      clear hv hx156_0 hx156_1
      generalize hgx:jQ l0_0 x3_1=x at H e0 e1 HN BK157
      have HGX:=am hgx
      clear hgx
      cases v with
      | false =>
       have H':=am (show jU.j1 k1 x3_1 true l0_0=some r from H)
       clear H
       go_big_quiet ((go_at_call 94;exact Calls.quiet_of (HN.out _)))
       go_wp2
       go_meet
       case rel=>exact ⟨_,_,rfl,H',⟨by have:=HK1.out;omega⟩,⟨jb BK154.out _⟩,⟨by rw [HGX.out];exact jb BK157.out _⟩,⟨jw HB.out _⟩⟩
      | true =>
       replace H:(if x3_1≤(l0_0.length:Int) then ((jEa.f k1 (l0_0.take (x3_1:Int).toNat) x.f0).bind fun t163=>(if t163≥0 then (jU.j1 k1 x3_1 true l0_0) else (if x3_1=0 then (if x.f1=(-1) then (if x3_1 > 0 then ((jwa.f x.f1 0 (wrap64 (x3_1 - 1))).bind fun t164=>(jU.j1 k1 x3_1 (!t164) l0_0)) else (jU.j1 k1 x3_1 false l0_0)) else (jU.j1 k1 x3_1 true l0_0)) else (if x3_1 > 0 then ((jwa.f x.f1 0 (wrap64 (x3_1 - 1))).bind fun t165=>(jU.j1 k1 x3_1 (!t165) l0_0)) else (jU.j1 k1 x3_1 false l0_0))))) else (none))=some r:=H
       have hle:x3_1≤(l0_0.length:Int):=by have:=ozD c3b0;omega
       have h0:0≤x3_1:=ozD c4b0
       rw [if_pos hle] at H
       obtain ⟨c,hc,H⟩:=bzS H
       obtain ⟨i0,hi0,_,_,_⟩:=info_parts info106
       have hcut:=cut_to (P:=Try.prog) 29 106 .i64 Try.underlying29 hi0 (some ad156) l0_0.length c0_0 x3_1 h0 hle HC0_0.out
       have hr18:=Kd.C_take (m:=(x3_1:Int).toNat) HRW.out (by omega)
       obtain ⟨y,hy⟩:∃ y:List S106,y=l0_0.take (x3_1:Int).toNat:=⟨_,rfl⟩
       have hyl:y.length=(x3_1:Int).toNat:=by rw [hy,List.length_take];omega
       have hyc:y.length≤c0_0:=by have:=HC0_0.out;omega
       rw [← hy] at hr18
       rw [← hyl] at hcut
       rw [← hy] at hc
       have HCN:=am (fun m=>(jEa.calls k1 _ _ y x.f0 c (w16.drewN m) (Kd.C_drewN hr18 m) hyc hc).mono fun e w' h=>(⟨h.1,h.2.out⟩:e=.returned (.int .i64 c)∧∃ m',w'=(w16.drewN m).drewN m'))
       clear hr18 hc hy hyl hyc
       have b0:=ezT h0
       have b1:=ezT hle
       by_cases hc0:c≥0
       ·rw [if_pos hc0] at H
        have b2:decide (0≤c)=true:=dzT hc0
        have H':=am H
        clear H hc0 h0 hle
        go_big_quiet (first |(go_at_call 94;exact Calls.quiet_of (HN.out _)) |(go_at_call 95;exact Calls.quiet_of (HCN.out _)))
        go_wp2
        go_meet
        case rel=>exact ⟨_,_,rfl,H',⟨by have:=HK1.out;omega⟩,⟨jb BK154.out _⟩,⟨by rw [HGX.out];exact jb BK157.out _⟩,⟨jw HB.out _⟩⟩
       ·rw [if_neg hc0] at H
        have b2:decide (0≤c)=false:=dzF hc0
        clear hc0
        by_cases hz:x3_1=0
        ·rw [if_pos hz] at H
         have b3:(x3_1 == 0)=true:=beq_iff_eq.2 hz
         have b4:decide (0<x3_1)=false:=dzF (by omega)
         by_cases hf:x.f1 = -1
         ·rw [if_pos hf,if_neg (by omega)] at H
          have b5:(x.f1 != -1)=false:=by simpa using hf
          have H':=am H
          clear H hf h0 hle hz
          go_big_quiet (first |(go_at_call 94;exact Calls.quiet_of (HN.out _)) |(go_at_call 95;exact Calls.quiet_of (HCN.out _)))
          go_wp2
          go_meet
          case rel=>exact ⟨_,_,rfl,H',⟨by have:=HK1.out;omega⟩,⟨jb BK154.out _⟩,⟨by rw [HGX.out];exact jb BK157.out _⟩,⟨jw HB.out _⟩⟩
         ·rw [if_neg hf] at H
          have b5:(x.f1 != -1)=true:=by simpa using hf
          have H':=am H
          clear H hf h0 hle hz
          go_big_quiet (first |(go_at_call 94;exact Calls.quiet_of (HN.out _)) |(go_at_call 95;exact Calls.quiet_of (HCN.out _)))
          go_wp2
          go_meet
          case rel=>exact ⟨_,_,rfl,H',⟨by have:=HK1.out;omega⟩,⟨jb BK154.out _⟩,⟨by rw [HGX.out];exact jb BK157.out _⟩,⟨jw HB.out _⟩⟩
        ·rw [if_neg hz,if_pos (by omega)] at H
         have b3:(x3_1 == 0)=false:=beq_eq_false_iff_ne.2 hz
         have b4:decide (0<x3_1)=true:=dzT (by omega)
         obtain ⟨t,ht,H⟩:=bzS H
         have H':=am H
         have HI:=am (fun W=>(jwa.calls _ _ _ t W ht).mono fun e w' h=>(⟨h.1,h.2.out⟩:e=.returned (.bool t)∧∃ m,w'=W.drewN m))
         clear H ht h0 hle hz
         go_big_quiet (first |(go_at_call 94;exact Calls.quiet_of (HN.out _)) |(go_at_call 95;exact Calls.quiet_of (HCN.out _)) |(go_at_call 92;exact Calls.quiet_of (HI.out _)))
         go_wp2
         go_meet
         case rel=>exact ⟨_,_,rfl,H',⟨by have:=HK1.out;omega⟩,⟨jb BK154.out _⟩,⟨by rw [HGX.out];exact jb BK157.out _⟩,⟨jw HB.out _⟩⟩
     case rest =>
      clear HC5
      try clear c1
      try clear c2
      try clear p2
      try clear c3
      try clear q3
      try clear p6
      try clear c11
      try clear c12
      try clear c13
      try clear c21
      try clear c32
      try clear c32b0
      try clear q39
      try clear q39
      obtain ⟨kq,x51_4,rfl,HA,HJ4,BK154,BK157,HB⟩:=hcut
      cases kq with
      | zero=>exact absurd HA.out (by simp [jU.j1])
      | succ kj4 =>
       have H:=HA.out
       clear HA
       simp only [jU.j1] at H
       by_cases c42:x51_4=true
       ·subst c42
        have H1:(some false)=some r:=by rw [if_pos rfl] at H;exact H
        clear H
        have H:=H1
        clear H1
        obtain rfl:=Option.some.inj H
        go_wp2
        go_ret
        exact ⟨Y0,Y103⟩
       ·replace c42:=Bool.eq_false_iff.mpr c42
        subst c42
        have H1:(jU.l0 kj4 (wrap64 (x3_1+1)) l0_0)=some r:=by rw [if_neg (show ¬ (false=true) by decide)] at H;exact H
        clear H
        have H:=H1
        clear H1
        have H':=am H
        clear H
        go_wp2
        go_roundg kj4
        case measure=>have:=HK1.out;have:=HJ4.out;omega
        case rel=>exact ⟨(wrap64 (x3_1+1)),(sq),H',⟨by have:=HK1.out;have:=HJ4.out;omega⟩,⟨kq BK154.out⟩,⟨Y103⟩⟩
    ·rw [if_neg c4] at H
     exact absurd H (by simp)
   ·rw [if_neg c3] at H
    have c3b0:decide (x3_1<(l0_0.length:Int))=false:=dzF c3
    clear c3
    replace H:=bzS H
    obtain ⟨t155,A430,H⟩:=H
    replace H:(some t155)=some r:=H
    have A43:=am A430
    clear A430
    obtain rfl:=Option.some.inj H
    have hcz44_0:=bc0 BK154.out
    have hfz44_0:=jd BK154.out 0
    go_wp2_with (first |((with_reducible refine jy (f:=92) rfl ?_);refine gL (some 55) Try.func92 #[.int .i64 (l0_0.length:Int), .int .i64 1, .int .i64 8] ?_;(with_reducible refine (jwa.calls (l0_0.length:Int) 1 8 t155 _ A43.out).mono ?_);rintro e w' ⟨rfl,⟨nd,rfl⟩⟩;refine ⟨_,rfl,?_⟩))
    go_ret
    exact ⟨Y0,Y102⟩
def jR.l0 : Nat → List (S44) → Int → List (S106) → Option (Bool)
 | 0,_,_,_=>none
 | k+1,x1,x5,x117000=>if x5<(x1.length:Int) then (if 0≤x5 then ((jDa.f k x117000 ((jZ x1 x5).f0) ((jZ x1 x5).f1) ((jZ x1 x5).f2)).bind fun t119=>(if t119=true then (jR.l0 k x1 (wrap64 (x5+1)) x117000) else (some false))) else (none)) else ((jU.f k x117000).bind fun t117=>(if t117=true then (some (decide ((x1.length:Int)≤8))) else (some false)))
def jR.f (k : Nat) (l0_0 : List (S106)) (l1 : List (S44)) : Option (Bool) := jR.l0 k l1 0 l0_0
set_option maxHeartbeats 8000000 in
set_option maxRecDepth 100000 in
theorem jR.calls (k : Nat) (A0_0 : Option Addr) (c0_0 : Nat) (l0_0 : List (S106)) (A1 : Option Addr) (c1 : Nat) (l1 : List (S44)) (r : Bool) (w : World) (hr0_0 : Kd.C k106 w A0_0 l0_0.length l0_0) (hc0_0 : l0_0.length ≤ c0_0) (hr1 : Kd.C k44 w A1 l1.length l1) (hc1 : l1.length ≤ c1) (h : jR.f k l0_0 l1 = some r) :
  Calls Try.prog 35 #[.agg #[.slice A0_0 l0_0.length c0_0], .slice A1 l1.length c1] w fun e w'=>e=.returned (.bool r)∧Below w.heap.size w w':=by
 have hu31:=Try.underlying31
 have hu44:=Try.underlying44
 have HR0_0:=am hr0_0
 have HC0_0:=am hc0_0
 clear hr0_0 hc0_0
 have HR1:=am hr1
 have HC1:=am hc1
 clear hr1 hc1
 have HB:=am (Below.refl w.heap.size w)
 have H:(jR.l0 k l1 0 l0_0)=some r:=h
 clear h
 have H':=am H
 clear H
 go_enter Try.func35,Try.ntmps35
 go_wp2_with (first |((with_reducible refine jP (N:=2) rfl ?_);(try (refine jHa (by rfl) ?_;dsimp only));refine jOa ?hg (N:=2) ?hd (cs:=#[.slice A0_0 l0_0.length c0_0]) (t:=31) ?hr ?_;(case hd=>rfl);(case hg=>rfl);(case hr=>exact Y2);intro gb116 hg w3 hbox hb;have BK116:=am (hbox);have GW116:=am ((Y3:w.heap.size≤gb116));have GE116:=am ((Y3:w.heap.size≤gb116));replace HB:=am (jk (bq) hb);clear hb hbox hg))
 go_loopg [5] k (fun kq v5 w'=>∃ (x5_1:Int),v5=.int .i64 x5_1∧jv (jR.l0 kq l1 x5_1 l0_0=some r)∧jv (kq≤k)∧jv (w'.heap[gb116]?=some (.cells #[(.slice A0_0 l0_0.length c0_0)] 31 (0,0)))∧jv (Below w.heap.size w w'))
 case atStart=>exact ⟨(0),(sq),H',⟨Nat.le_refl _⟩,⟨kq BK116.out⟩,⟨Y43⟩⟩
 case round =>
  clear H'
  try clear c1
  try clear p2
  try clear c3
  obtain ⟨x5_1,rfl,HA,HK1,BK116,HB⟩:=hrel
  cases gk with
  | zero=>exact absurd HA.out (by simp [jR.l0])
  | succ k1 =>
   have H:=HA.out
   clear HA
   simp only [jR.l0] at H
   by_cases c4:x5_1<(l1.length:Int)
   ·rw [if_pos c4] at H
    have c4b0:decide (x5_1<(l1.length:Int))=true:=dzT c4
    clear c4
    by_cases c5:0≤x5_1
    ·rw [if_pos c5] at H
     have c5b0:decide (0≤x5_1)=true:=dzT c5
     clear c5
     replace H:=bzS H
     obtain ⟨t119,A60,H⟩:=H
     replace H:(if t119=true then (jR.l0 k1 l1 (wrap64 (x5_1+1)) l0_0) else (some false))=some r:=H
     have A6:=am A60
     clear A60
     by_cases c7:t119=true
     ·subst c7
      have H1:(jR.l0 k1 l1 (wrap64 (x5_1+1)) l0_0)=some r:=by rw [if_pos rfl] at H;exact H
      clear H
      have H:=H1
      clear H1
      have H':=am H
      clear H
      try go_wp2
      replace BK116:=am (jc BK116.out)
      replace HB:=am (jF HB.out)
      have p118:0≤(x5_1:Int):=ozD (uq)
      have q118:x5_1<(l1.length:Int):=ozD (uq)
      obtain ⟨ad118,e118,hx118_0,hx118_1,hx118_2⟩:=at_T44 HR1.out x5_1 p118 q118
      have hw118_2:=hx118_2
      have hw118_1:=hx118_1
      have hw118_0:=hx118_0
      cases e118
      replace hx118_0:=cb HB.out hx118_0
      replace hx118_1:=cb HB.out hx118_1
      replace hx118_2:=cb HB.out hx118_2
      replace p118:=ezT p118
      replace q118:=ezT q118
      refine jkc (n:=7) (S:=fun w'=>w'.cell? ⟨gb116,0,none⟩=some (.slice A0_0 l0_0.length c0_0)∧w'.cell? (ad118.add ((x5_1).toNat * 3))=some (.int .i64 ((jZ l1 x5_1).f0))∧w'.cell? ⟨(ad118.add ((x5_1).toNat * 3)).block,(ad118.add ((x5_1).toNat * 3)).off+1,none⟩=some (.int .i64 ((jZ l1 x5_1).f1))∧w'.cell? ⟨(ad118.add ((x5_1).toNat * 3)).block,(ad118.add ((x5_1).toNat * 3)).off+2,none⟩=some (.int .i64 ((jZ l1 x5_1).f2))) (ds:=[]) #[false,false,false,false,false,false,false] (by kernel_rfl) rfl rfl ⟨(jh BK116.out 0).trans rfl,((HB.out.cell (World.block_lt_of_cell? w _ hw118_0)).trans hw118_0),((HB.out.cell (World.block_lt_of_cell? w _ hw118_1)).trans hw118_1),((HB.out.cell (World.block_lt_of_cell? w _ hw118_2)).trans hw118_2)⟩ (fun hHeld=>?_)
      generalize wr.drew=w8 at BK116 HB hx118_0 hx118_1 hx118_2 hHeld ⊢
      refine jVa (i:=1) (N:=some 13) (v:=?_) (a':=?_) #[false,true,false,false,false,false,false] rfl rfl (by kernel_rfl) (fun _ _ _ h=>h) (Or.inl ⟨by rfl,?_⟩) ?_ ?_
      rotate_left
      ·exact sb
      rotate_left
      ·exact sa
      refine jVa (i:=2) (N:=some 14) (v:=?_) (a':=?_) #[false,true,true,false,false,false,false] rfl rfl (by kernel_rfl) (fun _ _ _ h=>h) (Or.inl ⟨by rfl,?_⟩) ?_ ?_
      rotate_left
      ·exact sb
      rotate_left
      ·exact sa
      refine jVa (i:=3) (N:=some 15) (v:=?_) (a':=?_) #[false,true,true,true,false,false,false] rfl rfl (by kernel_rfl) (fun _ _ _ h=>h) (Or.inl ⟨by rfl,?_⟩) ?_ ?_
      rotate_left
      ·exact sb
      rotate_left
      ·exact sa
      refine jYb (i:=0) (N:=some 12) (v:=?_) (a':=?_) #[true,true,true,true,false,false,false] rfl rfl (by kernel_rfl) (fun _ _ _ h=>h) (Or.inl ⟨by rfl,?_⟩) hHeld ?_ ?_
      rotate_left
      ·rintro w' ⟨s0,s1,s2,s3⟩
       go_simp
       with_reducible rfl
      rotate_left
      ·exact sa
      refine jYb (i:=4) (N:=some 16) (v:=?_) (a':=?_) #[true,true,true,true,true,false,false] rfl rfl (by kernel_rfl) (fun _ _ _ h=>h) (Or.inl ⟨by rfl,?_⟩) hHeld ?_ ?_
      rotate_left
      ·rintro w' ⟨s0,s1,s2,s3⟩
       go_simp
       with_reducible rfl
      rotate_left
      ·exact sa
      refine one_ (i:=5) (N:=some 17) #[true,true,true,true,true,true,false] rfl rfl (by kernel_rfl) (by decide) (fun K hK=>?_)
      refine goes_ Try.func66 (by kernel_rfl) rfl #[.agg #[.slice A0_0 l0_0.length c0_0], .agg #[.int .i64 ((jZ l1 x5_1).f0), .int .i64 ((jZ l1 x5_1).f1), .int .i64 ((jZ l1 x5_1).f2)]] (by rfl) rfl rfl (aq) ?_
      with_reducible refine (jDa.calls k1 _ _ l0_0 ((jZ l1 x5_1).f0) ((jZ l1 x5_1).f1) ((jZ l1 x5_1).f2) true _ ?side1 ?side2 A6.out).mono ?_
      (case side1=>exact cq (Kd.jka HR0_0.out HB.out))
      (case side2=>exact HC0_0.out)
      rintro e w9 ⟨rfl,hb⟩
      refine ⟨_,rfl,?_⟩
      replace BK116:=am (je (g:=gb116) (o:=.cells #[.slice A0_0 l0_0.length c0_0] 31 (0,0)) (kq BK116.out) hb)
      replace HB:=am (jk (Y43) hb)
      (try clear hb)
      (try clear hb2)
      (try clear hk)
      (try clear hi)
      refine hK.out _ _ ⟨(jh BK116.out 0).trans rfl,((HB.out.cell (World.block_lt_of_cell? w _ hw118_0)).trans hw118_0),((HB.out.cell (World.block_lt_of_cell? w _ hw118_1)).trans hw118_1),((HB.out.cell (World.block_lt_of_cell? w _ hw118_2)).trans hw118_2)⟩ (fun hHeld=>?_)
      clear hK K
      refine jjc (a':=?_) ?_ ?_
      rotate_left
      ·show Act.put _ (some 17) _=_
       simp only [Act.put,List.setIfInBounds_toArray,List.set_cons_zero,List.set_cons_succ,jyb,jBb]
       rfl
      refine jVa (i:=6) (N:=some 18) (v:=?_) (a':=?_) #[true,true,true,true,true,true,true] rfl rfl (by kernel_rfl) (fun _ _ _ h=>h) (Or.inl ⟨by rfl,?_⟩) ?_ ?_
      rotate_left
      ·exact sb
      rotate_left
      ·exact sa
      refine done_ (by kernel_rfl) ?_
      try go_wp2
      go_roundg k1
      case measure=>have:=HK1.out;omega
      case rel=>exact ⟨(wrap64 (x5_1+1)),(sq),H',⟨by have:=HK1.out;omega⟩,⟨kq BK116.out⟩,⟨Y43⟩⟩
     ·replace c7:=Bool.eq_false_iff.mpr c7
      subst c7
      have H1:(some false)=some r:=by rw [if_neg (show ¬ (false=true) by decide)] at H;exact H
      clear H
      have H:=H1
      clear H1
      obtain rfl:=Option.some.inj H
      try go_wp2
      replace BK116:=am (jc BK116.out)
      replace HB:=am (jF HB.out)
      have p118:0≤(x5_1:Int):=ozD (uq)
      have q118:x5_1<(l1.length:Int):=ozD (uq)
      obtain ⟨ad118,e118,hx118_0,hx118_1,hx118_2⟩:=at_T44 HR1.out x5_1 p118 q118
      have hw118_2:=hx118_2
      have hw118_1:=hx118_1
      have hw118_0:=hx118_0
      cases e118
      replace hx118_0:=cb HB.out hx118_0
      replace hx118_1:=cb HB.out hx118_1
      replace hx118_2:=cb HB.out hx118_2
      replace p118:=ezT p118
      replace q118:=ezT q118
      refine jkc (n:=7) (S:=fun w'=>w'.cell? ⟨gb116,0,none⟩=some (.slice A0_0 l0_0.length c0_0)∧w'.cell? (ad118.add ((x5_1).toNat * 3))=some (.int .i64 ((jZ l1 x5_1).f0))∧w'.cell? ⟨(ad118.add ((x5_1).toNat * 3)).block,(ad118.add ((x5_1).toNat * 3)).off+1,none⟩=some (.int .i64 ((jZ l1 x5_1).f1))∧w'.cell? ⟨(ad118.add ((x5_1).toNat * 3)).block,(ad118.add ((x5_1).toNat * 3)).off+2,none⟩=some (.int .i64 ((jZ l1 x5_1).f2))) (ds:=[]) #[false,false,false,false,false,false,false] (by kernel_rfl) rfl rfl ⟨(jh BK116.out 0).trans rfl,((HB.out.cell (World.block_lt_of_cell? w _ hw118_0)).trans hw118_0),((HB.out.cell (World.block_lt_of_cell? w _ hw118_1)).trans hw118_1),((HB.out.cell (World.block_lt_of_cell? w _ hw118_2)).trans hw118_2)⟩ (fun hHeld=>?_)
      generalize wr.drew=w10 at BK116 HB hx118_0 hx118_1 hx118_2 hHeld ⊢
      refine jVa (i:=1) (N:=some 13) (v:=?_) (a':=?_) #[false,true,false,false,false,false,false] rfl rfl (by kernel_rfl) (fun _ _ _ h=>h) (Or.inl ⟨by rfl,?_⟩) ?_ ?_
      rotate_left
      ·exact sb
      rotate_left
      ·exact sa
      refine jVa (i:=2) (N:=some 14) (v:=?_) (a':=?_) #[false,true,true,false,false,false,false] rfl rfl (by kernel_rfl) (fun _ _ _ h=>h) (Or.inl ⟨by rfl,?_⟩) ?_ ?_
      rotate_left
      ·exact sb
      rotate_left
      ·exact sa
      refine jVa (i:=3) (N:=some 15) (v:=?_) (a':=?_) #[false,true,true,true,false,false,false] rfl rfl (by kernel_rfl) (fun _ _ _ h=>h) (Or.inl ⟨by rfl,?_⟩) ?_ ?_
      rotate_left
      ·exact sb
      rotate_left
      ·exact sa
      refine jYb (i:=0) (N:=some 12) (v:=?_) (a':=?_) #[true,true,true,true,false,false,false] rfl rfl (by kernel_rfl) (fun _ _ _ h=>h) (Or.inl ⟨by rfl,?_⟩) hHeld ?_ ?_
      rotate_left
      ·rintro w' ⟨s0,s1,s2,s3⟩
       go_simp
       with_reducible rfl
      rotate_left
      ·exact sa
      refine jYb (i:=4) (N:=some 16) (v:=?_) (a':=?_) #[true,true,true,true,true,false,false] rfl rfl (by kernel_rfl) (fun _ _ _ h=>h) (Or.inl ⟨by rfl,?_⟩) hHeld ?_ ?_
      rotate_left
      ·rintro w' ⟨s0,s1,s2,s3⟩
       go_simp
       with_reducible rfl
      rotate_left
      ·exact sa
      refine one_ (i:=5) (N:=some 17) #[true,true,true,true,true,true,false] rfl rfl (by kernel_rfl) (by decide) (fun K hK=>?_)
      refine goes_ Try.func66 (by kernel_rfl) rfl #[.agg #[.slice A0_0 l0_0.length c0_0], .agg #[.int .i64 ((jZ l1 x5_1).f0), .int .i64 ((jZ l1 x5_1).f1), .int .i64 ((jZ l1 x5_1).f2)]] (by rfl) rfl rfl (aq) ?_
      with_reducible refine (jDa.calls k1 _ _ l0_0 ((jZ l1 x5_1).f0) ((jZ l1 x5_1).f1) ((jZ l1 x5_1).f2) false _ ?side1 ?side2 A6.out).mono ?_
      (case side1=>exact cq (Kd.jka HR0_0.out HB.out))
      (case side2=>exact HC0_0.out)
      rintro e w11 ⟨rfl,hb⟩
      refine ⟨_,rfl,?_⟩
      replace BK116:=am (je (g:=gb116) (o:=.cells #[.slice A0_0 l0_0.length c0_0] 31 (0,0)) (kq BK116.out) hb)
      replace HB:=am (jk (Y43) hb)
      (try clear hb)
      (try clear hb2)
      (try clear hk)
      (try clear hi)
      refine hK.out _ _ ⟨(jh BK116.out 0).trans rfl,((HB.out.cell (World.block_lt_of_cell? w _ hw118_0)).trans hw118_0),((HB.out.cell (World.block_lt_of_cell? w _ hw118_1)).trans hw118_1),((HB.out.cell (World.block_lt_of_cell? w _ hw118_2)).trans hw118_2)⟩ (fun hHeld=>?_)
      clear hK K
      refine jjc (a':=?_) ?_ ?_
      rotate_left
      ·show Act.put _ (some 17) _=_
       simp only [Act.put,List.setIfInBounds_toArray,List.set_cons_zero,List.set_cons_succ,jyb,jBb]
       rfl
      refine jVa (i:=6) (N:=some 18) (v:=?_) (a':=?_) #[true,true,true,true,true,true,true] rfl rfl (by kernel_rfl) (fun _ _ _ h=>h) (Or.inl ⟨by rfl,?_⟩) ?_ ?_
      rotate_left
      ·exact sb
      rotate_left
      ·exact sa
      refine done_ (by kernel_rfl) ?_
      try go_wp2
      go_ret
      exact ⟨Y0,Y43⟩
    ·rw [if_neg c5] at H
     exact absurd H (by simp)
   ·rw [if_neg c4] at H
    have c4b0:decide (x5_1<(l1.length:Int))=false:=dzF c4
    clear c4
    replace H:=bzS H
    obtain ⟨t117,A120,H⟩:=H
    replace H:(if t117=true then (some (decide ((l1.length:Int)≤8))) else (some false))=some r:=H
    have A12:=am A120
    clear A120
    by_cases c13:t117=true
    ·subst c13
     have H1:(some (decide ((l1.length:Int)≤8)))=some r:=by rw [if_pos rfl] at H;exact H
     clear H
     have H:=H1
     clear H1
     obtain rfl:=Option.some.inj H
     have hcz14_0:=bc0 BK116.out
     have hfz14_0:=jd BK116.out 0
     go_wp2_with (first |((with_reducible refine jy (f:=67) rfl ?_);refine gL (some 20) Try.func67 #[.agg #[.slice A0_0 l0_0.length c0_0]] ?_;(with_reducible refine (jU.calls k1 _ _ l0_0 true _ ?side1 ?side2 A12.out).mono ?_);(case side1=>exact cq (Kd.jka HR0_0.out HB.out));(case side2=>exact HC0_0.out);rintro e w15 ⟨rfl,hb⟩;refine ⟨_,rfl,?_⟩;replace BK116:=am (je (g:=gb116) (o:=.cells #[.slice A0_0 l0_0.length c0_0] 31 (0,0)) (kq BK116.out) hb);replace HB:=am (jk (Y43) hb);(try clear hb);(try clear hb2);(try clear hk);(try clear hi)))
     go_ret
     exact ⟨Y0,Y43⟩
    ·replace c13:=Bool.eq_false_iff.mpr c13
     subst c13
     have H1:(some false)=some r:=by rw [if_neg (show ¬ (false=true) by decide)] at H;exact H
     clear H
     have H:=H1
     clear H1
     obtain rfl:=Option.some.inj H
     have hcz16_0:=bc0 BK116.out
     have hfz16_0:=jd BK116.out 0
     go_wp2_with (first |((with_reducible refine jy (f:=67) rfl ?_);refine gL (some 20) Try.func67 #[.agg #[.slice A0_0 l0_0.length c0_0]] ?_;(with_reducible refine (jU.calls k1 _ _ l0_0 false _ ?side1 ?side2 A12.out).mono ?_);(case side1=>exact cq (Kd.jka HR0_0.out HB.out));(case side2=>exact HC0_0.out);rintro e w17 ⟨rfl,hb⟩;refine ⟨_,rfl,?_⟩;replace BK116:=am (je (g:=gb116) (o:=.cells #[.slice A0_0 l0_0.length c0_0] 31 (0,0)) (kq BK116.out) hb);replace HB:=am (jk (Y43) hb);(try clear hb);(try clear hb2);(try clear hk);(try clear hi)))
     go_ret
     exact ⟨Y0,Y43⟩
def jtb.f (l0 : List (S44)) : Option ((List (S44))) := (some (([] : List (S44)) : List (S44))).bind fun y756 => (if y756.length + l0.length < 5864062014805 then (some (y756 ++ l0)) else (none))
set_option maxHeartbeats 8000000 in
set_option maxRecDepth 100000 in
theorem jtb.calls (A0 : Option Addr) (c0 : Nat) (l0 : List (S44)) (r : List (S44)) (w : World) (hr0 : Kd.C k44 w A0 l0.length l0) (hc0 : l0.length ≤ c0) (h : jtb.f l0 = some r) :
  Calls Try.prog 63 #[.slice A0 l0.length c0] w fun e w'=>∃ v0_:Value,e=.returned (v0_)∧Kd.R k44 44 w' w.heap.size (fun _=>True) v0_ r∧Below w.heap.size w w':=by
 have HR0:=am hr0
 have HC0:=am hc0
 clear hr0 hc0
 have HB:=am (Below.refl w.heap.size w)
 have H:((some (([]:List (S44)):List (S44))).bind fun y756=>(if y756.length+l0.length<5864062014805 then (some (y756 ++ l0)) else (none)))=some r:=h
 clear h
 obtain ⟨y756,hy756⟩:∃ y_:List (S44),y_=(([]:List (S44))):=⟨_,rfl⟩
 replace H:(if y756.length+l0.length<5864062014805 then (some (y756 ++ l0)) else (none))=some r:=by first |(rw [hy756];with_reducible exact H) |(have H2_:=(Option.bind_some _ _).symm.trans H;rw [hy756];with_reducible exact H2_) |(have H2_:=(Option.bind_some _ _).symm.trans H;with_reducible exact H2_) | with_reducible exact H |(rw [hy756];exact H) | exact H
 have Ny756:=am hy756
 clear hy756
 by_cases c2:y756.length+l0.length<5864062014805
 ·rw [if_pos c2] at H
  have LMc2:=am c2
  clear c2
  obtain ⟨y759,hy759⟩:∃ y_:List (S44),y_=(y756 ++ l0):=⟨_,rfl⟩
  replace H:(some y759)=some r:=by first |(rw [hy759];with_reducible exact H) |(have H2_:=(Option.bind_some _ _).symm.trans H;rw [hy759];with_reducible exact H2_) |(have H2_:=(Option.bind_some _ _).symm.trans H;with_reducible exact H2_) | with_reducible exact H |(rw [hy759];exact H) | exact H
  have Ny759:=am hy759
  clear hy759
  obtain rfl:=Option.some.inj H
  go_enter Try.func63,Try.ntmps63
  go_wp2_with (first |((with_reducible refine jP (N:=3) rfl ?_);refine Kd.R_lit k44 _ 44 ?hg (N:=3) ?hd (xs:=([]:List (S44))) (inner:=[]) (ok:=fun _=>True) (okp:=fun _=>True) ?hr ?hp (fun _ hk=>hk) trivial (Below.refl _ _) (Nat.le_refl _) (by simp) ?_;(case hd=>rfl);(case hg=>rfl);(case hr=>exact Y2);(case hp=>exact (Reps.none _ _));intro v757 w3 ho4 hb hg_ hnew_;clear hg_ hnew_;(first | rw [← Ny756.out] at ho4 |(simp only [Int.reduceToNat] at ho4;rw [← Ny756.out] at ho4));have HO758:=am (Kd.jua ho4 (jY (bq)));replace HB:=am (jk (bq) hb);clear hb ho4) |((with_reducible refine jCb (b:=.append) (xs:=#[.tmp 3, .tmp 4]) rfl ?_);at_builtin;refine Kd.jDc k44 (w0:=w) w.heap.size rfl (.tmp 3) (.tmp 4) 33 44 (.agg #[(.int .i64 0),(.int .i64 0),(.int .i64 0)]) 24 rfl Try.underlying33 info44 rfl (by decide) (by omega) v757 y756 l0 _ _ _ (fun _=>True) (fun _=>False) rfl rfl ?aO ?aR (fun _ _ h=>h) (fun _ h=>h.elim) ?aF ?aB ?aS ?aL ?_;(case aR=>repeat (first | exact (Kd.jka HR0.out HB.out) |(with_reducible refine Kd.C_alloc ?_ _) |(with_reducible refine Kd.C_drewN ?_ _) |(with_reducible refine Kd.C_drew ?_)));(case aB=>exact (bq));(case aF=>exact (fun _ _=>trivial));(case aO=>exact (rq HO758.out));(case aS=>exact (jY (bq)));(case aL=>have:=LMc2.out;omega);intro v760 w5 ho hb hg hat;rw [← Ny759.out] at ho;have n0_:=am (hb);have n1_:=am (ho);clear HB HO758;have HB:=n0_;have HO761:=n1_;clear n0_ n1_ ho hb hg hat))
  go_ret
  exact ⟨_,Y0,rq HO761.out,bq⟩
 ·rw [if_neg c2] at H
  exact absurd H (by simp)
def jT.j0 : Nat → List (S44) → Bool → Option ((List (S44)) × Bool)
 | 0,_,_=>none
 | k+1,x8,x28=>if x28=true then (some (([]:List (S44)),false)) else (some (x8,true))
def jT.f (k : Nat) (l0_0 : List (S106)) (l1 : List (S44)) (l2 : List (S44)) : Option ((List (S44)) × Bool) := (jtb.f l1).bind fun t839 => (if t839.length + l2.length < 5864062014805 then ((some (t839 ++ l2 : List (S44))).bind fun y842 => ((jR.f k l0_0 l1).bind fun t845 => (if t845 = true then ((jR.f k l0_0 l2).bind fun t846 => (if t846 = true then ((jR.f k l0_0 y842).bind fun t847 => (jT.j0 k y842 (!t847))) else (jT.j0 k y842 true))) else (jT.j0 k y842 true)))) else (none))
set_option maxHeartbeats 8000000 in
set_option maxRecDepth 100000 in
theorem jT.calls (k : Nat) (A0_0 : Option Addr) (c0_0 : Nat) (l0_0 : List (S106)) (A1 : Option Addr) (c1 : Nat) (l1 : List (S44)) (A2 : Option Addr) (c2 : Nat) (l2 : List (S44)) (r1 : List (S44)) (r2 : Bool) (w : World) (hr0_0 : Kd.C k106 w A0_0 l0_0.length l0_0) (hc0_0 : l0_0.length ≤ c0_0) (hr1 : Kd.C k44 w A1 l1.length l1) (hc1 : l1.length ≤ c1) (hr2 : Kd.C k44 w A2 l2.length l2) (hc2 : l2.length ≤ c2) (h : jT.f k l0_0 l1 l2 = some (r1, r2)) :
  Calls Try.prog 33 #[.agg #[.slice A0_0 l0_0.length c0_0], .slice A1 l1.length c1, .slice A2 l2.length c2] w fun e w'=>∃ v0_:Value,e=.returned (.tuple #[v0_, .bool r2])∧Kd.R k44 44 w' w.heap.size (fun _=>True) v0_ r1∧Below w.heap.size w w':=by
 have hu31:=Try.underlying31
 have HR0_0:=am hr0_0
 have HC0_0:=am hc0_0
 clear hr0_0 hc0_0
 have HR1:=am hr1
 have HC1:=am hc1
 clear hr1 hc1
 have HR2:=am hr2
 have HC2:=am hc2
 clear hr2 hc2
 have HB:=am (Below.refl w.heap.size w)
 have H:((jtb.f l1).bind fun t839=>(if t839.length+l2.length<5864062014805 then ((some (t839 ++ l2:List (S44))).bind fun y842=>((jR.f k l0_0 l1).bind fun t845=>(if t845=true then ((jR.f k l0_0 l2).bind fun t846=>(if t846=true then ((jR.f k l0_0 y842).bind fun t847=>(jT.j0 k y842 (!t847))) else (jT.j0 k y842 true))) else (jT.j0 k y842 true)))) else (none)))=some (r1,r2):=h
 clear h
 replace H:=bzS H
 obtain ⟨t839,A40,H⟩:=H
 replace H:(if t839.length+l2.length<5864062014805 then ((some (t839 ++ l2:List (S44))).bind fun y842=>((jR.f k l0_0 l1).bind fun t845=>(if t845=true then ((jR.f k l0_0 l2).bind fun t846=>(if t846=true then ((jR.f k l0_0 y842).bind fun t847=>(jT.j0 k y842 (!t847))) else (jT.j0 k y842 true))) else (jT.j0 k y842 true)))) else (none))=some (r1,r2):=H
 have A4:=am A40
 clear A40
 by_cases c5:t839.length+l2.length<5864062014805
 ·rw [if_pos c5] at H
  have LMc5:=am c5
  clear c5
  obtain ⟨y842,hy842⟩:∃ y_:List (S44),y_=(t839 ++ l2):=⟨_,rfl⟩
  replace H:((jR.f k l0_0 l1).bind fun t845=>(if t845=true then ((jR.f k l0_0 l2).bind fun t846=>(if t846=true then ((jR.f k l0_0 y842).bind fun t847=>(jT.j0 k y842 (!t847))) else (jT.j0 k y842 true))) else (jT.j0 k y842 true)))=some (r1,r2):=by first |(rw [hy842];with_reducible exact H) |(have H2_:=(Option.bind_some _ _).symm.trans H;rw [hy842];with_reducible exact H2_) |(have H2_:=(Option.bind_some _ _).symm.trans H;with_reducible exact H2_) | with_reducible exact H |(rw [hy842];exact H) | exact H
  have Ny842:=am hy842
  clear hy842
  have HC6:=am H
  clear H
  go_enter Try.func33,Try.ntmps33
  go_upto_region 2 with (first |((with_reducible refine jP (N:=3) rfl ?_);refine bE (N:=3) (cs:=#[.slice A0_0 l0_0.length c0_0]) (t:=31) ?_;intro gb838 hg w7 hbox hb;have BK838:=am (hbox);have GW838:=am ((Y3:w.heap.size≤gb838));have GE838:=am ((Y3:w.heap.size≤gb838));replace HB:=am (jk (bq) hb);clear hb hbox hg) |((with_reducible refine jy (f:=63) rfl ?_);refine gL (some 10) Try.func63 #[.slice A1 l1.length c1] ?_;(with_reducible refine (jtb.calls _ _ l1 t839 _ ?side1 ?side2 A4.out).mono ?_);(case side1=>exact cq (Kd.jka HR1.out HB.out));(case side2=>exact HC1.out);rintro e w8 ⟨v840,rfl,ho0,hb⟩;refine ⟨_,rfl,?_⟩;have HO841:=am (Kd.jua ho0 (jY (Y21)));replace BK838:=am (je (g:=gb838) (o:=.cells #[.slice A0_0 l0_0.length c0_0] 31 (0,0)) (kq BK838.out) hb);replace HB:=am (jk (Y21) hb);(try clear hb);(try clear hb2);(try clear hk);(try clear hi);(try clear ho0)) |((with_reducible refine jCb (b:=.append) (xs:=#[.tmp 10, .tmp 11]) rfl ?_);at_builtin;refine Kd.jDc k44 (w0:=w) w.heap.size rfl (.tmp 10) (.tmp 11) 33 44 (.agg #[(.int .i64 0),(.int .i64 0),(.int .i64 0)]) 24 rfl Try.underlying33 info44 rfl (by decide) (by omega) v840 t839 l2 _ _ _ (fun _=>True) (fun _=>False) rfl rfl ?aO ?aR (fun _ _ h=>h) (fun _ h=>h.elim) ?aF ?aB ?aS ?aL ?_;(case aR=>repeat (first | exact (Kd.jka HR2.out HB.out) |(with_reducible refine Kd.C_alloc ?_ _) |(with_reducible refine Kd.C_drewN ?_ _) |(with_reducible refine Kd.C_drew ?_)));(case aB=>exact (Y21));(case aF=>exact (fun _ _=>trivial));(case aO=>exact (rq HO841.out));(case aS=>exact (jY (Y21)));(case aL=>have:=LMc5.out;omega);intro v843 w9 ho hb hg hat;rw [← Ny842.out] at ho;have n0_:=am (jla (g:=gb838) (o:=.cells #[.slice A0_0 l0_0.length c0_0] 31 (0,0)) (kq BK838.out) hg (Kd.R_ne HO841.out BK838.out (by decide)));have n1_:=am (hb);have n2_:=am (ho);clear BK838 HB HO841;have BK838:=n0_;have HB:=n1_;have HO844:=n2_;clear n0_ n1_ n2_ ho hb hg hat))
  (try simp only [Act.put,List.setIfInBounds_toArray,List.set_cons_zero,List.set_cons_succ])
  go_cut [28] (fun v28 wc=>∃ (kq:Nat) (x28_5:Bool),v28=.bool x28_5∧jv (jT.j0 kq y842 x28_5=some (r1,r2))∧jv (kq≤k)∧jv (Kd.R k44 44 wc w.heap.size (fun _=>True) v843 y842)∧jv (wc.heap[gb838]?=some (.cells #[(.slice A0_0 l0_0.length c0_0)] 31 (0,0)))∧jv (Below w.heap.size w wc))
  case first =>
   have H:=HC6.out
   clear HC6
   replace H:=bzS H
   obtain ⟨t845,A100,H⟩:=H
   replace H:(if t845=true then ((jR.f k l0_0 l2).bind fun t846=>(if t846=true then ((jR.f k l0_0 y842).bind fun t847=>(jT.j0 k y842 (!t847))) else (jT.j0 k y842 true))) else (jT.j0 k y842 true))=some (r1,r2):=H
   have A10:=am A100
   clear A100
   by_cases c11:t845=true
   ·subst c11
    have H1:((jR.f k l0_0 l2).bind fun t846=>(if t846=true then ((jR.f k l0_0 y842).bind fun t847=>(jT.j0 k y842 (!t847))) else (jT.j0 k y842 true)))=some (r1,r2):=by rw [if_pos rfl] at H;exact H
    clear H
    have H:=H1
    clear H1
    replace H:=bzS H
    obtain ⟨t846,A120,H⟩:=H
    replace H:(if t846=true then ((jR.f k l0_0 y842).bind fun t847=>(jT.j0 k y842 (!t847))) else (jT.j0 k y842 true))=some (r1,r2):=H
    have A12:=am A120
    clear A120
    by_cases c13:t846=true
    ·subst c13
     have H1:((jR.f k l0_0 y842).bind fun t847=>(jT.j0 k y842 (!t847)))=some (r1,r2):=by rw [if_pos rfl] at H;exact H
     clear H
     have H:=H1
     clear H1
     replace H:=bzS H
     obtain ⟨t847,A140,H⟩:=H
     replace H:(jT.j0 k y842 (!t847))=some (r1,r2):=H
     have A14:=am A140
     clear A140
     have H':=am H
     clear H
     have hcz15_0:=bc0 BK838.out
     have hfz15_0:=jd BK838.out 0
     go_wp2_with (first |((with_reducible refine jy (f:=35) rfl ?_);refine gL (some 15) Try.func35 #[.agg #[.slice A0_0 l0_0.length c0_0], .slice A1 l1.length c1] ?_;(with_reducible refine (jR.calls k _ _ l0_0 _ _ l1 true _ ?side1 ?side2 ?side3 ?side4 A10.out).mono ?_);(case side1=>exact cq (Kd.jka HR0_0.out HB.out));(case side2=>exact HC0_0.out);(case side3=>exact cq (Kd.jka HR1.out HB.out));(case side4=>exact HC1.out);rintro e w16 ⟨rfl,hb⟩;refine ⟨_,rfl,?_⟩;replace HO844:=am (Kd.jM (rq HO844.out) hb);replace BK838:=am (je (g:=gb838) (o:=.cells #[.slice A0_0 l0_0.length c0_0] 31 (0,0)) (kq BK838.out) hb);replace HB:=am (jk (Y21) hb);(try clear hb);(try clear hb2);(try clear hk);(try clear hi);have hcz17_0:=bc0 BK838.out;have hfz17_0:=jd BK838.out 0) |(go_at_call 35;(with_reducible refine (jR.calls k _ _ l0_0 _ _ l2 true _ ?side1 ?side2 ?side3 ?side4 A12.out).mono ?_);(case side1=>exact cq (Kd.jka HR0_0.out HB.out));(case side2=>exact HC0_0.out);(case side3=>exact cq (Kd.jka HR2.out HB.out));(case side4=>exact HC2.out);rintro e w18 ⟨rfl,hb⟩;replace HO844:=am (Kd.jM (rq HO844.out) hb);replace BK838:=am (je (g:=gb838) (o:=.cells #[.slice A0_0 l0_0.length c0_0] 31 (0,0)) (kq BK838.out) hb);replace HB:=am (jk (Y21) hb);(try clear hb);(try clear hb2);(try clear hk);(try clear hi);have hcz19_0:=bc0 BK838.out;have hfz19_0:=jd BK838.out 0;obtain ⟨Ao20,co20,eo20⟩:=Kd.jja HO844.out;subst eo20) |(go_at_call 35;(with_reducible refine (jR.calls k _ _ l0_0 _ _ y842 t847 _ ?side1 ?side2 ?side3 ?side4 A14.out).mono ?_);(case side1=>exact cq (Kd.jka HR0_0.out HB.out));(case side2=>exact HC0_0.out);(case side3=>exact cq (Kd.jE HO844.out).2.2);(case side4=>exact (Kd.jE HO844.out).2.1);rintro e w21 ⟨rfl,hb⟩;replace HO844:=am (Kd.jM (rq HO844.out) hb);replace BK838:=am (je (g:=gb838) (o:=.cells #[.slice A0_0 l0_0.length c0_0] 31 (0,0)) (kq BK838.out) hb);replace HB:=am (jk (Y21) hb);(try clear hb);(try clear hb2);(try clear hk);(try clear hi)))
     go_meet
     case rel=>exact ⟨_,(!t847),(sq),H',⟨Y16⟩,⟨rq HO844.out⟩,⟨kq BK838.out⟩,⟨Y21⟩⟩
    ·replace c13:=Bool.eq_false_iff.mpr c13
     subst c13
     have H1:(jT.j0 k y842 true)=some (r1,r2):=by rw [if_neg (show ¬ (false=true) by decide)] at H;exact H
     clear H
     have H:=H1
     clear H1
     have H':=am H
     clear H
     have hcz22_0:=bc0 BK838.out
     have hfz22_0:=jd BK838.out 0
     go_wp2_with (first |((with_reducible refine jy (f:=35) rfl ?_);refine gL (some 15) Try.func35 #[.agg #[.slice A0_0 l0_0.length c0_0], .slice A1 l1.length c1] ?_;(with_reducible refine (jR.calls k _ _ l0_0 _ _ l1 true _ ?side1 ?side2 ?side3 ?side4 A10.out).mono ?_);(case side1=>exact cq (Kd.jka HR0_0.out HB.out));(case side2=>exact HC0_0.out);(case side3=>exact cq (Kd.jka HR1.out HB.out));(case side4=>exact HC1.out);rintro e w23 ⟨rfl,hb⟩;refine ⟨_,rfl,?_⟩;replace HO844:=am (Kd.jM (rq HO844.out) hb);replace BK838:=am (je (g:=gb838) (o:=.cells #[.slice A0_0 l0_0.length c0_0] 31 (0,0)) (kq BK838.out) hb);replace HB:=am (jk (Y21) hb);(try clear hb);(try clear hb2);(try clear hk);(try clear hi);have hcz24_0:=bc0 BK838.out;have hfz24_0:=jd BK838.out 0) |(go_at_call 35;(with_reducible refine (jR.calls k _ _ l0_0 _ _ l2 false _ ?side1 ?side2 ?side3 ?side4 A12.out).mono ?_);(case side1=>exact cq (Kd.jka HR0_0.out HB.out));(case side2=>exact HC0_0.out);(case side3=>exact cq (Kd.jka HR2.out HB.out));(case side4=>exact HC2.out);rintro e w25 ⟨rfl,hb⟩;replace HO844:=am (Kd.jM (rq HO844.out) hb);replace BK838:=am (je (g:=gb838) (o:=.cells #[.slice A0_0 l0_0.length c0_0] 31 (0,0)) (kq BK838.out) hb);replace HB:=am (jk (Y21) hb);(try clear hb);(try clear hb2);(try clear hk);(try clear hi)))
     go_meet
     case rel=>exact ⟨_,(true),(sq),H',⟨Y16⟩,⟨rq HO844.out⟩,⟨kq BK838.out⟩,⟨Y21⟩⟩
   ·replace c11:=Bool.eq_false_iff.mpr c11
    subst c11
    have H1:(jT.j0 k y842 true)=some (r1,r2):=by rw [if_neg (show ¬ (false=true) by decide)] at H;exact H
    clear H
    have H:=H1
    clear H1
    have H':=am H
    clear H
    have hcz26_0:=bc0 BK838.out
    have hfz26_0:=jd BK838.out 0
    go_wp2_with (first |((with_reducible refine jy (f:=35) rfl ?_);refine gL (some 15) Try.func35 #[.agg #[.slice A0_0 l0_0.length c0_0], .slice A1 l1.length c1] ?_;(with_reducible refine (jR.calls k _ _ l0_0 _ _ l1 false _ ?side1 ?side2 ?side3 ?side4 A10.out).mono ?_);(case side1=>exact cq (Kd.jka HR0_0.out HB.out));(case side2=>exact HC0_0.out);(case side3=>exact cq (Kd.jka HR1.out HB.out));(case side4=>exact HC1.out);rintro e w27 ⟨rfl,hb⟩;refine ⟨_,rfl,?_⟩;replace HO844:=am (Kd.jM (rq HO844.out) hb);replace BK838:=am (je (g:=gb838) (o:=.cells #[.slice A0_0 l0_0.length c0_0] 31 (0,0)) (kq BK838.out) hb);replace HB:=am (jk (Y21) hb);(try clear hb);(try clear hb2);(try clear hk);(try clear hi)))
    go_meet
    case rel=>exact ⟨_,(true),(sq),H',⟨Y16⟩,⟨rq HO844.out⟩,⟨kq BK838.out⟩,⟨Y21⟩⟩
  case rest =>
   clear HC6
   try clear c1
   try clear c2
   try clear p2
   try clear c3
   try clear c5
   try clear c6
   try clear c11
   try clear c13
   try clear hcz15_0
   try clear hcz17_0
   try clear hcz19_0
   try clear hcz22_0
   try clear hcz24_0
   try clear hcz26_0
   try clear hfz15_0
   try clear hfz17_0
   try clear hfz19_0
   try clear hfz22_0
   try clear hfz24_0
   try clear hfz26_0
   obtain ⟨kq,x28_5,rfl,HA,HJ5,HO_8,BK838,HB⟩:=hcut
   cases kq with
   | zero=>exact absurd HA.out (by simp [jT.j0])
   | succ kj5 =>
    have H:=HA.out
    clear HA
    simp only [jT.j0] at H
    by_cases c28:x28_5=true
    ·subst c28
     have H1:(some (([]:List (S44)),false))=some (r1,r2):=by rw [if_pos rfl] at H;exact H
     clear H
     have H:=H1
     clear H1
     simp only [Option.some.injEq,Prod.mk.injEq] at H
     obtain ⟨rfl,rfl⟩:=H
     go_wp2
     go_ret2
     exact ⟨_,Y0,Y84,Y21⟩
    ·replace c28:=Bool.eq_false_iff.mpr c28
     subst c28
     have H1:(some (y842,true))=some (r1,r2):=by rw [if_neg (show ¬ (false=true) by decide)] at H;exact H
     clear H
     have H:=H1
     clear H1
     simp only [Option.some.injEq,Prod.mk.injEq] at H
     obtain ⟨rfl,rfl⟩:=H
     go_wp2
     go_ret2
     exact ⟨_,Y0,rq HO_8.out,Y21⟩
 ·rw [if_neg c5] at H
  exact absurd H (by simp)
end Go.Proofs.Ytlhfcmbkjddgiaa.P
end
