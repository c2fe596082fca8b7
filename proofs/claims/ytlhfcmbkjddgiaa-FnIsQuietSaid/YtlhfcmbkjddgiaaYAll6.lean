/- One part of the proofs on this program: functions of the program as plain functions, that the code comes to them, and facts on them. -/
import Derived.Shelf.Sort.Plain
import Derived.Test.YtlhfcmbkjddgiaaYAll1
import Derived.Test.YtlhfcmbkjddgiaaYAll4
import Derived.Test.YtlhfcmbkjddgiaaYAll5
import Derived.Test.YtlhfcmbkjddgiaaYWAuto
section
namespace Go.Proofs.Ytlhfcmbkjddgiaa.P
open Go.RowKit Go.Proofs.YtlhfcmbkjddgiaaW.PrintWords Go.Proofs.YtlhfcmbkjddgiaaW.PrintLast Go.Proofs.YtlhfcmbkjddgiaaW.PrintMore
attribute [local go_sem] jca jaa jsa jra jQ jP jba jZ jk
set_option linter.unusedVariables false
set_option linter.unusedSimpArgs false
def qv (k : Nat) (t : List S106) (l : List S44) (x : Int) : Option Bool := (jHa.f k t l true x 0).bind fun s => some (decide (s.2.2 ≥ 0))
set_option maxHeartbeats 8000000 in
set_option maxRecDepth 100000 in
theorem impl_IsQuiet1_calls (k : Nat) (At : Option Addr) (ct : Nat) (t : List S106) (A1 : Option Addr) (c1 : Nat) (l : List S44) (x : Int) (b : Bool) (B0 B1 : Nat) (w : World) (hr : Kd.C k106 w At t.length t) (hct : t.length ≤ ct) (hr1 : Kd.C k44 w A1 l.length l) (hc1 : l.length ≤ c1) (h0 : w.cell? ⟨B0, 0, none⟩ = some (.slice At t.length ct)) (h1 : w.cell? ⟨B1, 0, none⟩ = some (.slice A1 l.length c1)) (h : qv k t l x = some b) :
  Calls Try.prog 42 #[.int .i64 x, .pointer (some ⟨B0,0,none⟩), .pointer (some ⟨B1,0,none⟩)] w fun e w'=>e=.returned (.bool b)∧Below w.heap.size w w':=by
 obtain ⟨s,hs,hb⟩:=bzS h
 have hu31:=Try.underlying31
 have hu110:=Try.underlying110
 have hu50:=Try.underlying50
 have hmx:Try.prog.follows .mixedOrders=true:=by kernel_rfl
 have hbw:Below w.heap.size w (((World.drew w).alloc (.cells #[.slice At t.length ct] 31)).alloc (.cells #[.slice At t.length ct, .slice none 0 0, .slice none 0 0, .slice none 0 0, .int .i64 (-1)] 110)):=(((Below.refl w.heap.size w).drew).alloc (Nat.le_refl _) _).alloc (by simp) _
 have HC:=am (jHa.calls k At ct t A1 c1 l true x 0 (w.heap.size+1) (.slice none 0 0) (-1) s (((World.drew w).alloc (.cells #[.slice At t.length ct] 31)).alloc (.cells #[.slice At t.length ct, .slice none 0 0, .slice none 0 0, .slice none 0 0, .int .i64 (-1)] 110)) (by have h:=heap_alloc_new ((World.drew w).alloc (.cells #[.slice At t.length ct] 31)) (.cells #[.slice At t.length ct, .slice none 0 0, .slice none 0 0, .slice none 0 0, .int .i64 (-1)] 110);rw [World.size_alloc] at h;exact h) (Kd.jXb k106_heap hr hbw (fun k hk=>by omega)) hct (Kd.jXb k44_heap hr1 hbw (fun k hk=>by omega)) hc1 hs)
 have HB:=am hbw
 have HZ:=am (Option.some.inj hb)
 have hB0:B0<w.heap.size:=World.block_lt_of_cell? w ⟨B0,0,none⟩ h0
 have hB1:B1<w.heap.size:=World.block_lt_of_cell? w ⟨B1,0,none⟩ h1
 clear h hs hb hr hr1 hbw
 go_enter Try.func42,Try.ntmps42
 go_wp2
 refine wp_region_held (S:=(fun W':World=>W'.cell? ⟨B0,0,none⟩=some (.slice At t.length ct)∧W'.cell? ⟨B1,0,none⟩=some (.slice A1 l.length c1))) hmx ?_
 change wpAnyH _ _ _ _ _ _ _ _ (World.drew w)
 have hS0:(fun W':World=>W'.cell? ⟨B0,0,none⟩=some (.slice At t.length ct)∧W'.cell? ⟨B1,0,none⟩=some (.slice A1 l.length c1)) (World.drew w):=⟨h0,h1⟩
 refine wpAnyH_take (i:=0) (v:=?_) rfl (by kernel_rfl) (by kernel_rfl) (by kernel_rfl) (fun _ _ _ h=>h) (Or.inl ⟨by kernel_rfl,?_⟩) hS0 ?_
 rotate_left
 ·rintro W' ⟨s1,s2⟩
  go_simp
  with_reducible rfl
 refine wpAnyH_take (i:=2) (v:=?_) rfl (by kernel_rfl) (by kernel_rfl) (by kernel_rfl) (fun _ _ _ h=>h) (Or.inl ⟨by kernel_rfl,?_⟩) hS0 ?_
 rotate_left
 ·rintro W' ⟨s1,s2⟩
  go_simp
  with_reducible rfl
 refine wpAnyH_take (i:=3) (v:=?_) rfl (by kernel_rfl) (by kernel_rfl) (by kernel_rfl) (fun _ _ _ h=>h) (Or.inl ⟨by kernel_rfl,?_⟩) hS0 ?_
 rotate_left
 ·rintro W' ⟨s1,s2⟩
  go_simp
  with_reducible rfl
 refine wpAnyH_take (i:=4) (v:=?_) rfl (by kernel_rfl) (by kernel_rfl) (by kernel_rfl) (fun _ _ _ h=>h) (Or.inl ⟨by kernel_rfl,?_⟩) hS0 ?_
 rotate_left
 ·rintro W' ⟨s1,s2⟩
  go_simp
  with_reducible rfl
 refine wpAnyH_all (rs:=[1]) (by kernel_rfl) (by simp) ?_
 intro ii hii
 obtain rfl:ii=1:=by simpa using hii
 clear hii
 refine wpOp_step rfl (fun K hK=>?_)
 go_simp
 refine (mm_new At ct t none 0 0 (World.drew w)).mono ?_
 rintro e w2 ⟨rfl,rfl⟩
 have hS1:(fun W':World=>W'.cell? ⟨B0,0,none⟩=some (.slice At t.length ct)∧W'.cell? ⟨B1,0,none⟩=some (.slice A1 l.length c1)) (((World.drew w).alloc (.cells #[.slice At t.length ct] 31)).alloc (.cells #[.slice At t.length ct, .slice none 0 0, .slice none 0 0, .slice none 0 0, .int .i64 (-1)] 110)):=⟨jI HB.out h0,jI HB.out h1⟩
 refine hK _ _ ⟨hS1,?_⟩
 clear hK K
 refine wpAnyH_all (rs:=[5]) (by kernel_rfl) (by simp) ?_
 intro ii hii
 obtain rfl:ii=5:=by simpa using hii
 clear hii
 refine wpOp_step rfl (fun K hK=>?_)
 go_simp
 refine HC.out.mono ?_
 rintro e w3 ⟨rfl,hz3,hK3,hB3⟩;clear hz3
 have hS2:(fun W':World=>W'.cell? ⟨B0,0,none⟩=some (.slice At t.length ct)∧W'.cell? ⟨B1,0,none⟩=some (.slice A1 l.length c1)) w3:=⟨jgc hS1.1 hK3 (by show ¬ B0=w.heap.size+1;omega),jgc hS1.2 hK3 (by show ¬ B1=w.heap.size+1;omega)⟩
 have HB3:=am (show Below w.heap.size w w3 from HB.out.trans ⟨hB3.os,hB3.tape,hB3.output,hB3.size,fun k hk=>hK3.2 k (Nat.lt_of_lt_of_le hk HB.out.size) (by omega)⟩)
 clear hK3 hB3 HC
 refine hK _ _ ⟨hS2,?_⟩
 clear hK K
 refine wpAnyH_take (i:=6) (v:=?_) rfl (by kernel_rfl) (by kernel_rfl) (by kernel_rfl) (fun _ _ _ h=>h) (Or.inl ⟨by kernel_rfl,?_⟩) hS2 ?_
 rotate_left
 ·rintro W' ⟨s1,s2⟩
  go_simp
  with_reducible rfl
 refine wpAnyH_take (i:=7) (v:=?_) rfl (by kernel_rfl) (by kernel_rfl) (by kernel_rfl) (fun _ _ _ h=>h) (Or.inl ⟨by kernel_rfl,?_⟩) hS2 ?_
 rotate_left
 ·rintro W' ⟨s1,s2⟩
  go_simp
  with_reducible rfl
 refine wpAnyH_done (by kernel_rfl) ?_ _
 rename_i K9 hK9
 refine hK9 _ _ ?_
 clear hK9 hS0 hS1 hS2
 go_simp
 go_wp2
 go_ret
 exact ⟨by rw [← HZ.out];rfl,HB3.out⟩
set_option maxHeartbeats 8000000 in
set_option maxRecDepth 100000 in
theorem impl_IsQuiet_filt (A0_0 : Option Addr) (c0_0 : Nat) (l0_0 : List S106) (B0_ : Nat) (B1_ : Nat) (p : Int → Option Bool) (r : List Int) (w : World) (hr0_0 : Kd.C k106 w A0_0 l0_0.length l0_0) (hlen : l0_0.length ≤ 1000000000) (h : jxb p l0_0.length 0 = some r)
  (hp:∀ W,Below w.heap.size w W→∀ (x:Int) (b:Bool),p x=some b→Calls Try.prog 42 #[.int .i64 x, .pointer (some ⟨B0_,0,none⟩), .pointer (some ⟨B1_,0,none⟩)] W fun e w'=>e=.returned (.bool b)∧Below W.heap.size W w') :
  Calls Try.prog 41 #[.agg #[.slice A0_0 l0_0.length c0_0], .func (.func 42) #[] #[.pointer (some ⟨B0_,0,none⟩), .pointer (some ⟨B1_,0,none⟩)]] w fun e w'=>∃ v0_:Value,e=.returned v0_∧Kd.R (Kd.int .i64) 3 w' w.heap.size (fun _=>True) v0_ r∧Below w.heap.size w w':=by
 have hu31:=Try.underlying31
 have HP:=am hp
 have H0:=am h
 have HB:=am (Below.refl w.heap.size w)
 clear hr0_0 hp h
 go_enter Try.func41,Try.ntmps41
 go_wp2_with (first |((with_reducible refine jB (N:=2) rfl ?_);refine bE (N:=2) (cs:=#[.slice A0_0 l0_0.length c0_0]) (t:=31) ?_;intro gb hg w5 hbox hb;have n0_:=am (jb (bq) hb);have n1_:=am (hbox);have n3_:=am ((Y1:w.heap.size≤gb));clear HB;have HB:=n0_;have BK:=n1_;have GE:=n3_;clear n0_ n1_ n3_ hb hbox hg;have hcz6_0:=bc0 BK.out;have hfz6_0:=ja BK.out 0) |((with_reducible refine jB (N:=10) rfl ?_);refine Kd.R_mkcap (Kd.int .i64) _ 3 rfl (N:=10) rfl 45 _ _ rfl (l0_0.length:Int) rfl rfl Try.underlying45 (.int .i64 0) 8 info3 rfl (by decide) (by omega) (ok:=fun _=>True) trivial (by omega) (by simp only [Int.toNat_natCast];omega) (Below.refl _ _) (Nat.le_refl _) ?_;intro v787 w7 ho8 hb hg_ hnew_;clear hg_ hnew_;have HO:=am (Kd.jda ho8 (jD (Y8)));replace BK:=am (je (g:=gb) (o:=.cells #[.slice A0_0 l0_0.length c0_0] 31 (0,0)) (kq BK.out) hb);replace HB:=am (jb (Y8) hb);clear hb ho8;have hcz7_0:=bc0 BK.out;have hfz7_0:=ja BK.out 0))
 go_loopw [5,14] (fun v5 v14 w'=>∃ (i:Nat) (acc:List Int),i≤l0_0.length∧v14=.int .i64 i∧jF (∃ rest,jxb p (l0_0.length - i) i=some rest∧acc ++ rest=r)∧jF (acc.length≤i)∧jF (Kd.R (Kd.int .i64) 3 w' w.heap.size (fun _=>True) v5 acc)∧jF (w'.heap[gb]?=some (.cells #[.slice A0_0 l0_0.length c0_0] 31 (0,0)))∧jF (Below w.heap.size w w')) (fun _ v14 _=>l0_0.length - (intOf v14).toNat)
 case atStart=>exact ⟨0,[],Nat.zero_le _,rfl,⟨r,H0.out,rfl⟩,⟨Nat.le_refl _⟩,⟨rq HO.out⟩,⟨kq BK.out⟩,⟨(Y8)⟩⟩
 case round =>
  clear H0 HO BK HB
  try clear hcz6_0
  try clear hcz7_0
  try clear hfz6_0
  try clear hfz7_0
  obtain ⟨i,acc,hi,rfl,HA,HN,HO,BK,HB⟩:=hrel
  by_cases hlt:i<l0_0.length
  ·obtain ⟨rest,h1,h2⟩:=HA.out
   obtain ⟨b,hb1,rest2,h3,h4⟩:=filtFrom_step hlt h1 h2
   clear HA h1 h2
   have HQ:=am hb1
   clear hb1
   cases b with
   | true =>
    have HZ:=am (show ∃ rest,jxb p (l0_0.length - (i+1)) (i+1)=some rest∧(acc ++ [(i:Int)]) ++ rest=r from ⟨rest2,h3,by simpa using h4⟩)
    clear h3 h4
    go_wp2_with (first |(go_at_call 42;refine (HP.out _ (Y8) _ _ HQ.out).mono ?_;rintro e w2 ⟨rfl,hb2⟩;have n0_:=am (je (g:=gb) (o:=.cells #[.slice A0_0 l0_0.length c0_0] 31 (0,0)) (kq BK.out) hb2);have n1_:=am (Kd.jG (rq HO.out) hb2);have n2_:=am (jb (Y8) hb2);clear BK HO HB;have BK:=n0_;have HO:=n1_;have HB:=n2_;clear n0_ n1_ n2_ hb2) |((with_reducible refine jib (b:=.append) (xs:=#[.tmp 20, .tmp 22]) rfl ?_);at_builtin;refine Kd.jnc (Kd.int .i64) (w0:=w) w.heap.size rfl (.tmp 20) (.tmp 22) 45 3 (.int .i64 0) 8 rfl Try.underlying45 info3 rfl (by decide) (by omega) u5 acc (i:Int) [.int .i64 (i:Int)] (fun _=>True) (fun _=>False) rfl rfl ?aP (fun _ hk=>hk.elim) ?aF ?aO ?aB ?aS ?aL ?_;(case aP=>exact rfl);(case aB=>exact (Y8));(case aF=>exact (fun _ _=>trivial));(case aO=>exact (rq HO.out));(case aS=>exact (jD (Y8)));(case aL=>have:=HN.out;omega);intro v790 w13 ho hb hg hat;replace BK:=am (jU (g:=gb) (o:=.cells #[.slice A0_0 l0_0.length c0_0] 31 (0,0)) (kq BK.out) hg (Kd.R_ne HO.out BK.out (by decide)));replace HB:=am (hb);replace HO:=am (ho);clear ho hb hg hat))
    go_roundw
    case rel=>exact ⟨i+1,acc ++ [(i:Int)],hlt,by go_num,HZ,⟨by have:=HN.out;simp;omega⟩,⟨rq HO.out⟩,⟨kq BK.out⟩,⟨(Y8)⟩⟩
    case measure=>simp [intOf];omega
   | false =>
    have HZ:=am (show ∃ rest,jxb p (l0_0.length - (i+1)) (i+1)=some rest∧acc ++ rest=r from ⟨rest2,h3,by simpa using h4⟩)
    clear h3 h4
    go_wp2_with (go_at_call 42;refine (HP.out _ (Y8) _ _ HQ.out).mono ?_;rintro e w2 ⟨rfl,hb2⟩;have n0_:=am (je (g:=gb) (o:=.cells #[.slice A0_0 l0_0.length c0_0] 31 (0,0)) (kq BK.out) hb2);have n1_:=am (Kd.jG (rq HO.out) hb2);have n2_:=am (jb (Y8) hb2);clear BK HO HB;have BK:=n0_;have HO:=n1_;have HB:=n2_;clear n0_ n1_ n2_ hb2)
    go_roundw
    case rel=>exact ⟨i+1,acc,hlt,by go_num,HZ,⟨by have:=HN.out;omega⟩,⟨rq HO.out⟩,⟨kq BK.out⟩,⟨(Y8)⟩⟩
    case measure=>simp [intOf];omega
  ·obtain rfl:i=l0_0.length:=by omega
   obtain ⟨rest,h1,h2⟩:=HA.out
   have he:=filtFrom_end h1 h2
   clear HA h1 h2
   subst he
   obtain ⟨Ao15,co15,eo15⟩:=Kd.jM HO.out
   subst eo15
   obtain ⟨i016,hi016,_,hsz16,_⟩:=info_parts info3
   have hcut16:=cut_clip (P:=Try.prog) 45 3 Try.underlying45 hi016 Ao15 _ co15 _ (Kd.jv HO.out).2.1 rfl
   have hr16:=Kd.R_clip HO.out (rfl:acc=acc)
   clear hi016 hsz16 HO
   have HO795:=am hr16
   clear hr16
   go_wp2
   go_ret
   exact ⟨_,Y0,rq HO795.out,(Y8)⟩
def jga.f (k : Nat) (l0_0 : List S106) (l1 : List S44) : Option Bool := (jW.f k l0_0 l1).bind fun v => if v = true then ((jHa.f k l0_0 l1 false 0 0).bind fun s => if s.2.2 ≥ 0 then some false else (if l0_0.length ≤ 1000000000 then (jxb (qv k l0_0 l1) l0_0.length 0).bind fun r => some ((r.length : Int) == 0) else none)) else some false
set_option maxHeartbeats 8000000 in
set_option maxRecDepth 100000 in
theorem jga.calls (k : Nat) (A0_0 : Option Addr) (c0_0 : Nat) (l0_0 : List S106) (A1 : Option Addr) (c1 : Nat) (l1 : List S44) (r : Bool) (w : World) (hr0_0 : Kd.C k106 w A0_0 l0_0.length l0_0) (hc0_0 : l0_0.length ≤ c0_0) (hr1 : Kd.C k44 w A1 l1.length l1) (hc1 : l1.length ≤ c1) (h : jga.f k l0_0 l1 = some r) :
  Calls Try.prog 13 #[.agg #[.slice A0_0 l0_0.length c0_0], .slice A1 l1.length c1] w fun e w'=>e=.returned (.bool r)∧Below w.heap.size w w':=by
 obtain ⟨v,hv,h⟩:=bzS h
 have hmx:Try.prog.follows .mixedOrders=true:=by kernel_rfl
 have hu110:=Try.underlying110
 have hu50:=Try.underlying50
 have hu31:=Try.underlying31
 have HB:=am (show Below w.heap.size w ((w.alloc (.cells #[.slice A0_0 l0_0.length c0_0] 31)).alloc (.cells #[.slice A1 l1.length c1] 33)) from ((Below.refl w.heap.size w).alloc (Nat.le_refl _) _).alloc (by simp) _)
 have CT:=am (show ((w.alloc (.cells #[.slice A0_0 l0_0.length c0_0] 31)).alloc (.cells #[.slice A1 l1.length c1] 33)).cell? ⟨w.heap.size,0,none⟩=some (.slice A0_0 l0_0.length c0_0) from mo0 (jd (heap_alloc_new w (.cells #[.slice A0_0 l0_0.length c0_0] 31)) (.cells #[.slice A1 l1.length c1] 33)))
 have CL:=am (show ((w.alloc (.cells #[.slice A0_0 l0_0.length c0_0] 31)).alloc (.cells #[.slice A1 l1.length c1] 33)).cell? ⟨w.heap.size+1,0,none⟩=some (.slice A1 l1.length c1) from mo0 (show ((w.alloc (.cells #[.slice A0_0 l0_0.length c0_0] 31)).alloc (.cells #[.slice A1 l1.length c1] 33)).heap[w.heap.size+1]?=some (.cells #[.slice A1 l1.length c1] 33 (0,0)) by have h:=heap_alloc_new (w.alloc (.cells #[.slice A0_0 l0_0.length c0_0] 31)) (.cells #[.slice A1 l1.length c1] 33);simpa only [World.size_alloc] using h))
 have HV:=am (fun W (hb:Below w.heap.size w W)=>jW.calls k A0_0 c0_0 l0_0 A1 c1 l1 v W (Kd.jea hr0_0 hb) hc0_0 (Kd.jea hr1 hb) hc1 hv)
 cases v with
 | false =>
  rw [if_neg (by simp)] at h
  obtain rfl:=Option.some.inj h
  clear hv hr0_0 hr1
  go_enter Try.func13,Try.ntmps13
  go_wp2
  refine wp_region_held (S:=(fun W':World=>W'.cell? ⟨w.heap.size,0,none⟩=some (.slice A0_0 l0_0.length c0_0)∧W'.cell? ⟨w.heap.size+1,0,none⟩=some (.slice A1 l1.length c1))) hmx ?_
  change wpAnyH _ _ _ _ _ _ _ _ (World.drew ((w.alloc (.cells #[.slice A0_0 l0_0.length c0_0] 31)).alloc (.cells #[.slice A1 l1.length c1] 33)))
  have hS0:(fun W':World=>W'.cell? ⟨w.heap.size,0,none⟩=some (.slice A0_0 l0_0.length c0_0)∧W'.cell? ⟨w.heap.size+1,0,none⟩=some (.slice A1 l1.length c1)) (World.drew ((w.alloc (.cells #[.slice A0_0 l0_0.length c0_0] 31)).alloc (.cells #[.slice A1 l1.length c1] 33))):=⟨CT.out,CL.out⟩
  refine wpAnyH_take (i:=0) (v:=?_) rfl (by kernel_rfl) (by kernel_rfl) (by kernel_rfl) (fun _ _ _ h=>h) (Or.inl ⟨by kernel_rfl,?_⟩) hS0 ?_
  rotate_left
  ·rintro W' ⟨s1,s2⟩
   go_simp
   with_reducible rfl
  refine wpAnyH_take (i:=1) (v:=?_) rfl (by kernel_rfl) (by kernel_rfl) (by kernel_rfl) (fun _ _ _ h=>h) (Or.inl ⟨by kernel_rfl,?_⟩) hS0 ?_
  rotate_left
  ·rintro W' ⟨s1,s2⟩
   go_simp
   with_reducible rfl
  refine wpAnyH_all (rs:=[2]) (by kernel_rfl) (by simp) ?_
  intro ii hii
  obtain rfl:ii=2:=by simpa using hii
  clear hii
  refine wpOp_step rfl (fun K hK=>?_)
  go_simp
  refine (HV.out _ (jYa HB.out)).mono ?_
  rintro e w1 ⟨rfl,hb2⟩
  have hS1:(fun W':World=>W'.cell? ⟨w.heap.size,0,none⟩=some (.slice A0_0 l0_0.length c0_0)∧W'.cell? ⟨w.heap.size+1,0,none⟩=some (.slice A1 l1.length c1)) w1:=⟨jI hb2 CT.out,jI hb2 CL.out⟩
  have HB1:=am (jb (jYa HB.out) hb2)
  clear HV hb2
  refine hK _ _ ⟨hS1,?_⟩
  clear hK K
  refine wpAnyH_take (i:=3) (v:=?_) rfl (by kernel_rfl) (by kernel_rfl) (by kernel_rfl) (fun _ _ _ h=>h) (Or.inl ⟨by kernel_rfl,?_⟩) hS1 ?_
  rotate_left
  ·rintro W' ⟨s1,s2⟩
   go_simp
   with_reducible rfl
  refine wpAnyH_take (i:=4) (v:=?_) rfl (by kernel_rfl) (by kernel_rfl) (by kernel_rfl) (fun _ _ _ h=>h) (Or.inl ⟨by kernel_rfl,?_⟩) hS1 ?_
  rotate_left
  ·rintro W' ⟨s1,s2⟩
   go_simp
   with_reducible rfl
  refine wpAnyH_take (i:=5) (v:=undef) rfl (by kernel_rfl) (by kernel_rfl) (by kernel_rfl) (fun _ _ _ h=>h) (Or.inr ⟨by kernel_rfl,rfl⟩) hS1 ?_
  refine wpAnyH_take (i:=6) (v:=undef) rfl (by kernel_rfl) (by kernel_rfl) (by kernel_rfl) (fun _ _ _ h=>h) (Or.inr ⟨by kernel_rfl,rfl⟩) hS1 ?_
  refine wpAnyH_take (i:=7) (v:=undef) rfl (by kernel_rfl) (by kernel_rfl) (by kernel_rfl) (fun _ _ _ h=>h) (Or.inr ⟨by kernel_rfl,rfl⟩) hS1 ?_
  refine wpAnyH_take (i:=8) (v:=undef) rfl (by kernel_rfl) (by kernel_rfl) (by kernel_rfl) (fun _ _ _ h=>h) (Or.inr ⟨by kernel_rfl,rfl⟩) hS1 ?_
  refine wpAnyH_take (i:=9) (v:=undef) rfl (by kernel_rfl) (by kernel_rfl) (by kernel_rfl) (fun _ _ _ h=>h) (Or.inr ⟨by kernel_rfl,rfl⟩) hS1 ?_
  refine wpAnyH_take (i:=10) (v:=undef) rfl (by kernel_rfl) (by kernel_rfl) (by kernel_rfl) (fun _ _ _ h=>h) (Or.inr ⟨by kernel_rfl,rfl⟩) hS1 ?_
  refine wpAnyH_take (i:=11) (v:=?_) rfl (by kernel_rfl) (by kernel_rfl) (by kernel_rfl) (fun _ _ _ h=>h) (Or.inl ⟨by kernel_rfl,?_⟩) hS1 ?_
  rotate_left
  ·rintro W' ⟨s1,s2⟩
   go_simp
   with_reducible rfl
  refine wpAnyH_done (by kernel_rfl) ?_ _
  rename_i K9 hK9
  refine hK9 _ _ ?_
  clear hK9
  go_simp
  go_wp2
  go_ret
  exact ⟨rfl,HB1.out⟩
 | true =>
  rw [if_pos rfl] at h
  obtain ⟨s,hs,h⟩:=bzS h
  have HC:=am (fun W (hb:Below w.heap.size w W)=>jHa.calls k A0_0 c0_0 l0_0 A1 c1 l1 false 0 0 (W.heap.size+1) (.slice none 0 0) (-1) s ((W.alloc (.cells #[.slice A0_0 l0_0.length c0_0] 31)).alloc (.cells #[.slice A0_0 l0_0.length c0_0, .slice none 0 0, .slice none 0 0, .slice none 0 0, .int .i64 (-1)] 110)) (by have h:=heap_alloc_new (W.alloc (.cells #[.slice A0_0 l0_0.length c0_0] 31)) (.cells #[.slice A0_0 l0_0.length c0_0, .slice none 0 0, .slice none 0 0, .slice none 0 0, .int .i64 (-1)] 110);simpa only [World.size_alloc] using h) (Kd.jXb k106_heap hr0_0 ((hb.alloc hb.size _).alloc (by have:=hb.size;simp;omega) _) (fun k hk=>by have:=hb.size;omega)) hc0_0 (Kd.jXb k44_heap hr1 ((hb.alloc hb.size _).alloc (by have:=hb.size;simp;omega) _) (fun k hk=>by have:=hb.size;omega)) hc1 hs)
  by_cases hf:s.2.2≥0
  ·rw [if_pos hf] at h
   obtain rfl:=Option.some.inj h
   have q0:=dzT hf
   clear hv hr0_0 hr1 hs hf
   go_enter Try.func13,Try.ntmps13
   go_wp2
   refine wp_region_held (S:=(fun W':World=>W'.cell? ⟨w.heap.size,0,none⟩=some (.slice A0_0 l0_0.length c0_0)∧W'.cell? ⟨w.heap.size+1,0,none⟩=some (.slice A1 l1.length c1))) hmx ?_
   change wpAnyH _ _ _ _ _ _ _ _ (World.drew ((w.alloc (.cells #[.slice A0_0 l0_0.length c0_0] 31)).alloc (.cells #[.slice A1 l1.length c1] 33)))
   have hS0:(fun W':World=>W'.cell? ⟨w.heap.size,0,none⟩=some (.slice A0_0 l0_0.length c0_0)∧W'.cell? ⟨w.heap.size+1,0,none⟩=some (.slice A1 l1.length c1)) (World.drew ((w.alloc (.cells #[.slice A0_0 l0_0.length c0_0] 31)).alloc (.cells #[.slice A1 l1.length c1] 33))):=⟨CT.out,CL.out⟩
   refine wpAnyH_take (i:=0) (v:=?_) rfl (by kernel_rfl) (by kernel_rfl) (by kernel_rfl) (fun _ _ _ h=>h) (Or.inl ⟨by kernel_rfl,?_⟩) hS0 ?_
   rotate_left
   ·rintro W' ⟨s1,s2⟩
    go_simp
    with_reducible rfl
   refine wpAnyH_take (i:=1) (v:=?_) rfl (by kernel_rfl) (by kernel_rfl) (by kernel_rfl) (fun _ _ _ h=>h) (Or.inl ⟨by kernel_rfl,?_⟩) hS0 ?_
   rotate_left
   ·rintro W' ⟨s1,s2⟩
    go_simp
    with_reducible rfl
   refine wpAnyH_all (rs:=[2]) (by kernel_rfl) (by simp) ?_
   intro ii hii
   obtain rfl:ii=2:=by simpa using hii
   clear hii
   refine wpOp_step rfl (fun K hK=>?_)
   go_simp
   refine (HV.out _ (jYa HB.out)).mono ?_
   rintro e w1 ⟨rfl,hb2⟩
   have hS1:(fun W':World=>W'.cell? ⟨w.heap.size,0,none⟩=some (.slice A0_0 l0_0.length c0_0)∧W'.cell? ⟨w.heap.size+1,0,none⟩=some (.slice A1 l1.length c1)) w1:=⟨jI hb2 CT.out,jI hb2 CL.out⟩
   have HB1:=am (jb (jYa HB.out) hb2)
   clear HV hb2
   refine hK _ _ ⟨hS1,?_⟩
   clear hK K
   refine wpAnyH_take (i:=3) (v:=?_) rfl (by kernel_rfl) (by kernel_rfl) (by kernel_rfl) (fun _ _ _ h=>h) (Or.inl ⟨by kernel_rfl,?_⟩) hS1 ?_
   rotate_left
   ·rintro W' ⟨s1,s2⟩
    go_simp
    with_reducible rfl
   refine wpAnyH_take (i:=4) (v:=?_) rfl (by kernel_rfl) (by kernel_rfl) (by kernel_rfl) (fun _ _ _ h=>h) (Or.inl ⟨by kernel_rfl,?_⟩) hS1 ?_
   rotate_left
   ·rintro W' ⟨s1,s2⟩
    go_simp
    with_reducible rfl
   refine wpAnyH_take (i:=5) (v:=?_) rfl (by kernel_rfl) (by kernel_rfl) (by kernel_rfl) (fun _ _ _ h=>h) (Or.inl ⟨by kernel_rfl,?_⟩) hS1 ?_
   rotate_left
   ·rintro W' ⟨s1,s2⟩
    go_simp
    with_reducible rfl
   refine wpAnyH_take (i:=7) (v:=?_) rfl (by kernel_rfl) (by kernel_rfl) (by kernel_rfl) (fun _ _ _ h=>h) (Or.inl ⟨by kernel_rfl,?_⟩) hS1 ?_
   rotate_left
   ·rintro W' ⟨s1,s2⟩
    go_simp
    with_reducible rfl
   refine wpAnyH_take (i:=8) (v:=?_) rfl (by kernel_rfl) (by kernel_rfl) (by kernel_rfl) (fun _ _ _ h=>h) (Or.inl ⟨by kernel_rfl,?_⟩) hS1 ?_
   rotate_left
   ·rintro W' ⟨s1,s2⟩
    go_simp
    with_reducible rfl
   refine wpAnyH_all (rs:=[6]) (by kernel_rfl) (by simp) ?_
   intro ii hii
   obtain rfl:ii=6:=by simpa using hii
   clear hii
   refine wpOp_step rfl (fun K hK=>?_)
   go_simp
   refine (mm_new A0_0 c0_0 l0_0 none 0 0 w1).mono ?_
   rintro e w2 ⟨rfl,rfl⟩
   have HB2:=am (show Below w.heap.size w ((w1.alloc (.cells #[.slice A0_0 l0_0.length c0_0] 31)).alloc (.cells #[.slice A0_0 l0_0.length c0_0, .slice none 0 0, .slice none 0 0, .slice none 0 0, .int .i64 (-1)] 110)) from (HB1.out.alloc HB1.out.size _).alloc (by have:=HB1.out.size;simp;omega) _)
   have hb12:Below w1.heap.size w1 ((w1.alloc (.cells #[.slice A0_0 l0_0.length c0_0] 31)).alloc (.cells #[.slice A0_0 l0_0.length c0_0, .slice none 0 0, .slice none 0 0, .slice none 0 0, .int .i64 (-1)] 110)):=((Below.refl w1.heap.size w1).alloc (Nat.le_refl _) _).alloc (by simp) _
   have hS2:(fun W':World=>W'.cell? ⟨w.heap.size,0,none⟩=some (.slice A0_0 l0_0.length c0_0)∧W'.cell? ⟨w.heap.size+1,0,none⟩=some (.slice A1 l1.length c1)) ((w1.alloc (.cells #[.slice A0_0 l0_0.length c0_0] 31)).alloc (.cells #[.slice A0_0 l0_0.length c0_0, .slice none 0 0, .slice none 0 0, .slice none 0 0, .int .i64 (-1)] 110)):=⟨jI hb12 hS1.1,jI hb12 hS1.2⟩
   have hB1:w.heap.size+1<w1.heap.size:=World.block_lt_of_cell? w1 ⟨w.heap.size+1,0,none⟩ hS1.2
   clear hb12
   refine hK _ _ ⟨hS2,?_⟩
   clear hK K
   refine wpAnyH_all (rs:=[9]) (by kernel_rfl) (by simp) ?_
   intro ii hii
   obtain rfl:ii=9:=by simpa using hii
   clear hii
   refine wpOp_step rfl (fun K hK=>?_)
   go_simp
   refine (HC.out w1 HB1.out).mono ?_
   rintro e w3 ⟨rfl,hz3,hK3,hB3⟩;clear hz3
   have hS3:(fun W':World=>W'.cell? ⟨w.heap.size,0,none⟩=some (.slice A0_0 l0_0.length c0_0)∧W'.cell? ⟨w.heap.size+1,0,none⟩=some (.slice A1 l1.length c1)) w3:=⟨jgc hS2.1 hK3 (by show ¬ w.heap.size=w1.heap.size+1;omega),jgc hS2.2 hK3 (by show ¬ w.heap.size+1=w1.heap.size+1;omega)⟩
   have HB3:=am (show Below w.heap.size w w3 from HB2.out.trans ⟨hB3.os,hB3.tape,hB3.output,hB3.size,fun k hk=>hK3.2 k (Nat.lt_of_lt_of_le hk HB2.out.size) (by omega)⟩)
   clear hK3 hB3 HC
   refine hK _ _ ⟨hS3,?_⟩
   clear hK K
   refine wpAnyH_take (i:=10) (v:=?_) rfl (by kernel_rfl) (by kernel_rfl) (by kernel_rfl) (fun _ _ _ h=>h) (Or.inl ⟨by kernel_rfl,?_⟩) hS3 ?_
   rotate_left
   ·rintro W' ⟨s1,s2⟩
    go_simp
    with_reducible rfl
   refine wpAnyH_take (i:=11) (v:=?_) rfl (by kernel_rfl) (by kernel_rfl) (by kernel_rfl) (fun _ _ _ h=>h) (Or.inl ⟨by kernel_rfl,?_⟩) hS3 ?_
   rotate_left
   ·rintro W' ⟨s1,s2⟩
    go_simp
    with_reducible rfl
   refine wpAnyH_done (by kernel_rfl) ?_ _
   rename_i K9 hK9
   refine hK9 _ _ ?_
   clear hK9
   go_simp
   go_wp2
   go_ret
   exact ⟨rfl,HB3.out⟩
  ·rw [if_neg hf] at h
   by_cases hlen:l0_0.length≤1000000000
   case neg=>rw [if_neg hlen] at h;cases h
   rw [if_pos hlen] at h
   obtain ⟨rl,hrl,h⟩:=bzS h
   have HZ:=am (Option.some.inj h)
   have HF:=am (fun W (hb:Below w.heap.size w W) (B0 B1:Nat) (h0:W.cell? ⟨B0,0,none⟩=some (.slice A0_0 l0_0.length c0_0)) (h1:W.cell? ⟨B1,0,none⟩=some (.slice A1 l1.length c1))=>impl_IsQuiet_filt A0_0 c0_0 l0_0 B0 B1 (qv k l0_0 l1) rl W (Kd.jea hr0_0 hb) hlen hrl (fun W' hb' x b hx =>
    impl_IsQuiet1_calls k A0_0 c0_0 l0_0 A1 c1 l1 x b B0 B1 W' (Kd.jea (Kd.jea hr0_0 hb) hb') hc0_0 (Kd.jea (Kd.jea hr1 hb) hb') hc1 (jI hb' h0) (jI hb' h1) hx))
   have q0:=dzF hf
   clear hv hr0_0 hr1 hs hf hrl h hlen
   go_enter Try.func13,Try.ntmps13
   go_wp2
   refine wp_region_held (S:=(fun W':World=>W'.cell? ⟨w.heap.size,0,none⟩=some (.slice A0_0 l0_0.length c0_0)∧W'.cell? ⟨w.heap.size+1,0,none⟩=some (.slice A1 l1.length c1))) hmx ?_
   change wpAnyH _ _ _ _ _ _ _ _ (World.drew ((w.alloc (.cells #[.slice A0_0 l0_0.length c0_0] 31)).alloc (.cells #[.slice A1 l1.length c1] 33)))
   have hS0:(fun W':World=>W'.cell? ⟨w.heap.size,0,none⟩=some (.slice A0_0 l0_0.length c0_0)∧W'.cell? ⟨w.heap.size+1,0,none⟩=some (.slice A1 l1.length c1)) (World.drew ((w.alloc (.cells #[.slice A0_0 l0_0.length c0_0] 31)).alloc (.cells #[.slice A1 l1.length c1] 33))):=⟨CT.out,CL.out⟩
   refine wpAnyH_take (i:=0) (v:=?_) rfl (by kernel_rfl) (by kernel_rfl) (by kernel_rfl) (fun _ _ _ h=>h) (Or.inl ⟨by kernel_rfl,?_⟩) hS0 ?_
   rotate_left
   ·rintro W' ⟨s1,s2⟩
    go_simp
    with_reducible rfl
   refine wpAnyH_take (i:=1) (v:=?_) rfl (by kernel_rfl) (by kernel_rfl) (by kernel_rfl) (fun _ _ _ h=>h) (Or.inl ⟨by kernel_rfl,?_⟩) hS0 ?_
   rotate_left
   ·rintro W' ⟨s1,s2⟩
    go_simp
    with_reducible rfl
   refine wpAnyH_all (rs:=[2]) (by kernel_rfl) (by simp) ?_
   intro ii hii
   obtain rfl:ii=2:=by simpa using hii
   clear hii
   refine wpOp_step rfl (fun K hK=>?_)
   go_simp
   refine (HV.out _ (jYa HB.out)).mono ?_
   rintro e w1 ⟨rfl,hb2⟩
   have hS1:(fun W':World=>W'.cell? ⟨w.heap.size,0,none⟩=some (.slice A0_0 l0_0.length c0_0)∧W'.cell? ⟨w.heap.size+1,0,none⟩=some (.slice A1 l1.length c1)) w1:=⟨jI hb2 CT.out,jI hb2 CL.out⟩
   have HB1:=am (jb (jYa HB.out) hb2)
   clear HV hb2
   refine hK _ _ ⟨hS1,?_⟩
   clear hK K
   refine wpAnyH_take (i:=3) (v:=?_) rfl (by kernel_rfl) (by kernel_rfl) (by kernel_rfl) (fun _ _ _ h=>h) (Or.inl ⟨by kernel_rfl,?_⟩) hS1 ?_
   rotate_left
   ·rintro W' ⟨s1,s2⟩
    go_simp
    with_reducible rfl
   refine wpAnyH_take (i:=4) (v:=?_) rfl (by kernel_rfl) (by kernel_rfl) (by kernel_rfl) (fun _ _ _ h=>h) (Or.inl ⟨by kernel_rfl,?_⟩) hS1 ?_
   rotate_left
   ·rintro W' ⟨s1,s2⟩
    go_simp
    with_reducible rfl
   refine wpAnyH_take (i:=5) (v:=?_) rfl (by kernel_rfl) (by kernel_rfl) (by kernel_rfl) (fun _ _ _ h=>h) (Or.inl ⟨by kernel_rfl,?_⟩) hS1 ?_
   rotate_left
   ·rintro W' ⟨s1,s2⟩
    go_simp
    with_reducible rfl
   refine wpAnyH_take (i:=7) (v:=?_) rfl (by kernel_rfl) (by kernel_rfl) (by kernel_rfl) (fun _ _ _ h=>h) (Or.inl ⟨by kernel_rfl,?_⟩) hS1 ?_
   rotate_left
   ·rintro W' ⟨s1,s2⟩
    go_simp
    with_reducible rfl
   refine wpAnyH_take (i:=8) (v:=?_) rfl (by kernel_rfl) (by kernel_rfl) (by kernel_rfl) (fun _ _ _ h=>h) (Or.inl ⟨by kernel_rfl,?_⟩) hS1 ?_
   rotate_left
   ·rintro W' ⟨s1,s2⟩
    go_simp
    with_reducible rfl
   refine wpAnyH_all (rs:=[6]) (by kernel_rfl) (by simp) ?_
   intro ii hii
   obtain rfl:ii=6:=by simpa using hii
   clear hii
   refine wpOp_step rfl (fun K hK=>?_)
   go_simp
   refine (mm_new A0_0 c0_0 l0_0 none 0 0 w1).mono ?_
   rintro e w2 ⟨rfl,rfl⟩
   have HB2:=am (show Below w.heap.size w ((w1.alloc (.cells #[.slice A0_0 l0_0.length c0_0] 31)).alloc (.cells #[.slice A0_0 l0_0.length c0_0, .slice none 0 0, .slice none 0 0, .slice none 0 0, .int .i64 (-1)] 110)) from (HB1.out.alloc HB1.out.size _).alloc (by have:=HB1.out.size;simp;omega) _)
   have hb12:Below w1.heap.size w1 ((w1.alloc (.cells #[.slice A0_0 l0_0.length c0_0] 31)).alloc (.cells #[.slice A0_0 l0_0.length c0_0, .slice none 0 0, .slice none 0 0, .slice none 0 0, .int .i64 (-1)] 110)):=((Below.refl w1.heap.size w1).alloc (Nat.le_refl _) _).alloc (by simp) _
   have hS2:(fun W':World=>W'.cell? ⟨w.heap.size,0,none⟩=some (.slice A0_0 l0_0.length c0_0)∧W'.cell? ⟨w.heap.size+1,0,none⟩=some (.slice A1 l1.length c1)) ((w1.alloc (.cells #[.slice A0_0 l0_0.length c0_0] 31)).alloc (.cells #[.slice A0_0 l0_0.length c0_0, .slice none 0 0, .slice none 0 0, .slice none 0 0, .int .i64 (-1)] 110)):=⟨jI hb12 hS1.1,jI hb12 hS1.2⟩
   have hB1:w.heap.size+1<w1.heap.size:=World.block_lt_of_cell? w1 ⟨w.heap.size+1,0,none⟩ hS1.2
   clear hb12
   refine hK _ _ ⟨hS2,?_⟩
   clear hK K
   refine wpAnyH_all (rs:=[9]) (by kernel_rfl) (by simp) ?_
   intro ii hii
   obtain rfl:ii=9:=by simpa using hii
   clear hii
   refine wpOp_step rfl (fun K hK=>?_)
   go_simp
   refine (HC.out w1 HB1.out).mono ?_
   rintro e w3 ⟨rfl,hz3,hK3,hB3⟩;clear hz3
   have hS3:(fun W':World=>W'.cell? ⟨w.heap.size,0,none⟩=some (.slice A0_0 l0_0.length c0_0)∧W'.cell? ⟨w.heap.size+1,0,none⟩=some (.slice A1 l1.length c1)) w3:=⟨jgc hS2.1 hK3 (by show ¬ w.heap.size=w1.heap.size+1;omega),jgc hS2.2 hK3 (by show ¬ w.heap.size+1=w1.heap.size+1;omega)⟩
   have HB3:=am (show Below w.heap.size w w3 from HB2.out.trans ⟨hB3.os,hB3.tape,hB3.output,hB3.size,fun k hk=>hK3.2 k (Nat.lt_of_lt_of_le hk HB2.out.size) (by omega)⟩)
   clear hK3 hB3 HC
   refine hK _ _ ⟨hS3,?_⟩
   clear hK K
   refine wpAnyH_take (i:=10) (v:=?_) rfl (by kernel_rfl) (by kernel_rfl) (by kernel_rfl) (fun _ _ _ h=>h) (Or.inl ⟨by kernel_rfl,?_⟩) hS3 ?_
   rotate_left
   ·rintro W' ⟨s1,s2⟩
    go_simp
    with_reducible rfl
   refine wpAnyH_take (i:=11) (v:=?_) rfl (by kernel_rfl) (by kernel_rfl) (by kernel_rfl) (fun _ _ _ h=>h) (Or.inl ⟨by kernel_rfl,?_⟩) hS3 ?_
   rotate_left
   ·rintro W' ⟨s1,s2⟩
    go_simp
    with_reducible rfl
   refine wpAnyH_done (by kernel_rfl) ?_ _
   rename_i K9 hK9
   refine hK9 _ _ ?_
   clear hK9
   go_simp
   have c0:=hS3.1
   have c1':=hS3.2
   clear hS0 hS1 hS2 hS3
   go_wp2_with (go_at_call 41;refine (HF.out _ HB3.out _ _ c0 c1').mono ?_;rintro e w4 ⟨v2,rfl,hr2,hb4⟩;obtain ⟨A2,c2,rfl⟩:=Kd.jM hr2;clear hr2)
   go_ret
   exact ⟨by rw [← HZ.out];rfl,jb HB3.out hb4⟩
def rcStep (k : Nat) (out : List Int) (g : Int) : Option (List Int) := if g ≥ 0 then ((jN.f k out g).bind fun b => if b = true then some out else (if out.length < 17592186044416 then some (out ++ [g]) else none)) else some out
def rcAll (k : Nat) : List Int → List Int → Option (List Int)
 | [],out=>some out
 | g :: gs,out=>(rcStep k out g).bind fun o=>rcAll k gs o
def rcGo (h : List S90) : Nat → Nat → List Int → Option (List Int)
 | 0,_,_=>none
 | k+1,i,out=>if i<out.length then (if 0≤rd out (i:Int) then (if rd out (i:Int)<(h.length:Int) then ((rcAll k [(jA h (rd out (i:Int))).f2,(jA h (rd out (i:Int))).f3] out).bind fun o=>rcGo h k (i+1) o) else none) else none) else some out
def jIc.f (k : Nat) (l0_0 : List S90) (a1 : Int) : Option (List Int) := (rcGo l0_0 k 0 [a1]).bind fun l => if 0 < l.length ∧ l.length < 4611686018427387904 then some (l.mergeSort fun x y => decide (x ≤ y)) else none
def jhb.l0 : Nat → Int → List Int → List Int → Int → Int → List (S90) → List (S90) → Option ((List (S90)) × Int)
 | 0,_,_,_,_,_,_,_=>none
 | k+1,x1,x6,x18,x19,x20,x638000,x646000=>if x20<x19 then (if 0≤x20 then (if x20<(x18.length:Int) then (if 0≤(rd x18 x20) then (if (rd x18 x20)<(x638000.length:Int) then ((jw.f k x6 ((jA x638000 (rd x18 x20)).f2)).bind fun t650=>((jw.f k x6 ((jA x638000 (rd x18 x20)).f3)).bind fun t651=>(if x646000.length<3518437208883 then (jhb.l0 k x1 x6 x18 x19 (wrap64 (x20+1)) x638000 (x646000 ++ [(⟨(jA x638000 (rd x18 x20)).f0,(jA x638000 (rd x18 x20)).f1,t650,t651,(jA x638000 (rd x18 x20)).f4⟩:S90)])) else (none)))) else (none)) else (none)) else (none)) else (none)) else ((jw.f k x6 x1).bind fun t646=>(some (x646000,t646)))
def jhb.f (k : Nat) (l0_0 : List (S90)) (a1 : Int) : Option ((List (S90)) × Int) := (jIc.f k l0_0 a1).bind fun t639 => (if 0 ≤ (t639.length : Int) then (if ((t639.length : Int) : Int).toNat ≤ 7036874417766 then (jhb.l0 k a1 t639 t639 (t639.length : Int) 0 l0_0 (([] : List (S90)))) else (none)) else (none))
end Go.Proofs.Ytlhfcmbkjddgiaa.P
end
