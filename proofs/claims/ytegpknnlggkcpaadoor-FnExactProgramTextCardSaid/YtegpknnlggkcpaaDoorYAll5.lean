/- One part of the proofs on this program: functions of the program as plain functions, that the code comes to them, and facts on them. -/
import Derived.Shelf.Strings.Builder1
import Derived.Shelf.Strings.Repeat
import Derived.Test.YtegpknnlggkcpaaDoorYAll1
import Derived.Test.YtegpknnlggkcpaaDoorYAll4
import Derived.Test.YtegpknnlggkcpaaDoorYWAuto
section
namespace Go.Proofs.YtegpknnlggkcpaaDoor.P
open Go.RowKit Go.Proofs.YtegpknnlggkcpaaDoorW.PrintWords Go.Proofs.YtegpknnlggkcpaaDoorW.PrintLast Go.Proofs.YtegpknnlggkcpaaDoorW.PrintMore
attribute [local go_sem] jaa jY jna jma jR jQ jZ jX jh
set_option linter.unusedVariables false
set_option linter.unusedSimpArgs false
def sh105_ren : Go.Shelf.Ren := ⟨fun | 105 => 34 | 212 => 58 | 99 => 59 | 165 => 60 | 166 => 18 | 170 => 61 | 169 => 20 | 263 => 67 | 264 => 68 | 206 => 69 | 240 => 33 | 241 => 70 | 276 => 57 | 277 => 73 | n => n, fun | 9 => 9 | 3 => 3 | 4 => 4 | 20 => 20 | 0 => 0 | 46 => 87 | 109 => 88 | 5 => 5 | 72 => 48 | 76 => 51 | 51 => 96 | 146 => 97 | 53 => 99 | 148 => 100 | 70 => 45 | 37 => 46 | 75 => 50 | 127 => 72 | 164 => 85 | 80 => 54 | n => n, fun | n => n⟩
theorem sh105 : Go.Proofs.Lays.n105 Tryd.prog sh105_ren := {
 mixed:=by kernel_rfl
 f99:=Tryd.func59.trans (congrArg some (by kernel_rfl))
 f105:=Tryd.func34.trans (congrArg some (by kernel_rfl))
 f165:=Tryd.func60.trans (congrArg some (by kernel_rfl))
 f166:=Tryd.func18.trans (congrArg some (by kernel_rfl))
 f169:=Tryd.func20.trans (congrArg some (by kernel_rfl))
 f170:=Tryd.func61.trans (congrArg some (by kernel_rfl))
 f206:=Tryd.func69.trans (congrArg some (by kernel_rfl))
 f212:=Tryd.func58.trans (congrArg some (by kernel_rfl))
 f240:=Tryd.func33.trans (congrArg some (by kernel_rfl))
 f241:=Tryd.func70.trans (congrArg some (by kernel_rfl))
 f263:=Tryd.func67.trans (congrArg some (by kernel_rfl))
 f264:=Tryd.func68.trans (congrArg some (by kernel_rfl))
 f276:=Tryd.func57.trans (congrArg some (by kernel_rfl))
 f277:=Tryd.func73.trans (congrArg some (by kernel_rfl))
 t0:=Tryd.underlying0
 a0:=Tryd.isAgg0
 z0:=Tryd.sizeOf0
 v0:=Tryd.zeroValue0
 t3:=Tryd.underlying3
 a3:=Tryd.isAgg3
 z3:=Tryd.sizeOf3
 v3:=Tryd.zeroValue3
 t4:=Tryd.underlying4
 a4:=Tryd.isAgg4
 z4:=Tryd.sizeOf4
 v4:=Tryd.zeroValue4
 t5:=Tryd.underlying5
 a5:=Tryd.isAgg5
 z5:=Tryd.sizeOf5
 v5:=Tryd.zeroValue5
 t9:=Tryd.underlying9
 a9:=Tryd.isAgg9
 z9:=Tryd.sizeOf9
 v9:=Tryd.zeroValue9
 t20:=Tryd.underlying20
 a20:=Tryd.isAgg20
 z20:=Tryd.sizeOf20
 v20:=Tryd.zeroValue20
 t37:=Tryd.underlying46
 a37:=Tryd.isAgg46
 z37:=Tryd.sizeOf46
 v37:=Tryd.zeroValue46
 t46:=Tryd.underlying87
 a46:=Tryd.isAgg87
 z46:=Tryd.sizeOf87
 v46:=Tryd.zeroValue87
 t51:=Tryd.underlying96
 a51:=Tryd.isAgg96
 z51:=Tryd.sizeOf96
 v51:=Tryd.zeroValue96
 t53:=Tryd.underlying99
 a53:=Tryd.isAgg99
 z53:=Tryd.sizeOf99
 v53:=Tryd.zeroValue99
 t70:=Tryd.underlying45
 a70:=Tryd.isAgg45
 z70:=Tryd.sizeOf45
 v70:=Tryd.zeroValue45
 t72:=Tryd.underlying48
 a72:=Tryd.isAgg48
 z72:=Tryd.sizeOf48
 v72:=Tryd.zeroValue48
 t75:=Tryd.underlying50
 a75:=Tryd.isAgg50
 z75:=Tryd.sizeOf50
 v75:=Tryd.zeroValue50
 t76:=Tryd.underlying51
 a76:=Tryd.isAgg51
 z76:=Tryd.sizeOf51
 v76:=Tryd.zeroValue51
 t109:=Tryd.underlying88
 a109:=Tryd.isAgg88
 z109:=Tryd.sizeOf88
 v109:=Tryd.zeroValue88
 t127:=Tryd.underlying72
 a127:=Tryd.isAgg72
 z127:=Tryd.sizeOf72
 v127:=Tryd.zeroValue72
 t146:=Tryd.underlying97
 a146:=Tryd.isAgg97
 z146:=Tryd.sizeOf97
 v146:=Tryd.zeroValue97
 t148:=Tryd.underlying100
 a148:=Tryd.isAgg100
 z148:=Tryd.sizeOf100
 v148:=Tryd.zeroValue100
 t164:=Tryd.underlying85
 a164:=Tryd.isAgg85
 z164:=Tryd.sizeOf85
 v164:=Tryd.zeroValue85 }
theorem shX105 : Go.Proofs.Builder.Extra Tryd.prog sh105_ren := { sizeBuilder := by kernel_rfl, liesBuilder := by kernel_rfl, t5 := Tryd.underlying5, a5 := Tryd.isAgg5, z5 := Tryd.sizeOf5, v5 := Tryd.zeroValue5, infoByte := by kernel_rfl, cellsByte := by kernel_rfl, sizeByte := by kernel_rfl, neB5 := by decide }
theorem lt0 {w : World} {b : Nat} {v : Value} {l : List Value} {t : TypeId} (h : w.heap[b]? = some (.cells ⟨v :: l⟩ t (0, 0))) : w.cell? ⟨b, 0, none⟩ = some v := (joa h 0).trans rfl
theorem lt1 {w : World} {b : Nat} {v v1 : Value} {l : List Value} {t : TypeId} (h : w.heap[b]? = some (.cells ⟨v :: v1 :: l⟩ t (0, 0))) : w.cell? ⟨b, 1, none⟩ = some v1 := (joa h 1).trans rfl
theorem lt2 {w : World} {b : Nat} {v v1 v2 : Value} {l : List Value} {t : TypeId} (h : w.heap[b]? = some (.cells ⟨v :: v1 :: v2 :: l⟩ t (0, 0))) : w.cell? ⟨b, 2, none⟩ = some v2 := (joa h 2).trans rfl
theorem lt3 {w : World} {b : Nat} {v v1 v2 v3 : Value} {l : List Value} {t : TypeId} (h : w.heap[b]? = some (.cells ⟨v :: v1 :: v2 :: v3 :: l⟩ t (0, 0))) : w.cell? ⟨b, 3, none⟩ = some v3 := (joa h 3).trans rfl
def jia : List ByteArray := [(⟨#[112, 97, 115, 115]⟩ : ByteArray), (⟨#[108, 111, 103]⟩ : ByteArray), (⟨#[114, 97, 105, 115, 101]⟩ : ByteArray), (⟨#[97, 103, 97, 105, 110]⟩ : ByteArray), (⟨#[114, 101, 116, 117, 114, 110]⟩ : ByteArray), (⟨#[98, 114, 101, 97, 107]⟩ : ByteArray), (⟨#[99, 111, 110, 116, 105, 110, 117, 101]⟩ : ByteArray), (⟨#[116, 114, 121]⟩ : ByteArray), (⟨#[101, 120, 99, 101, 112, 116]⟩ : ByteArray), (⟨#[101, 108, 115, 101]⟩ : ByteArray), (⟨#[102, 105, 110, 97, 108, 108, 121]⟩ : ByteArray), (⟨#[119, 105, 116, 104]⟩ : ByteArray), (⟨#[108, 111, 111, 112]⟩ : ByteArray)]
def spN (n : Nat) : ByteArray := ⟨(Lib.repeatL (⟨#[32]⟩ : ByteArray).data.toList n).toArray⟩
theorem jzb (n : Nat) : (spN n).size = n := by
 show (Lib.repeatL (⟨#[32]⟩:ByteArray).data.toList n).length=n
 rw [Lib.repeatL_length]
 show n * 1=n
 omega
theorem jZa (a : Int) : (rdOf ByteArray.empty jia a).size ≤ 8 := by
 have h:∀ x ∈ ByteArray.empty :: jia,x.size≤8:=by
  intro x hx
  simp only [jia,List.mem_cons,List.not_mem_nil,or_false] at hx
  rcases hx with rfl | rfl | rfl | rfl | rfl | rfl | rfl | rfl | rfl | rfl | rfl | rfl | rfl | rfl <;> decide
 apply h
 unfold rdOf
 rw [List.getD_eq_getElem?_getD]
 rcases Nat.lt_or_ge a.toNat jia.length with g | g
 ·rw [List.getElem?_eq_getElem g]
  exact List.mem_cons_of_mem _ (List.getElem_mem g)
 ·rw [List.getElem?_eq_none g]
  exact List.mem_cons_self
theorem jsb (c : Int) (h0 : 0 ≤ c) (h1 : c ≤ 1000) (w : World) : Calls Tryd.prog 34 #[.string (⟨#[32]⟩ : ByteArray), .int .i64 c] w fun e w' => e = .returned (.string (spN c.toNat)) ∧ Below w.heap.size w w' := by
 have h:=Go.Proofs.Any.strings_Repeat sh105 shX105 (⟨#[32]⟩:ByteArray) c.toNat w (by omega) (by show 1 * c.toNat≤_;omega)
 rw [Int.toNat_of_nonneg h0] at h
 exact (show Calls Tryd.prog 34 _ w _ from h).mono (fun _ _ h=>h)
def jja (a0 a1 : Int) : ByteArray := spN a0.toNat ++ rdOf ByteArray.empty jia a1
def jOa.f (a0_0 a0_1 a0_2 a0_3 : Int) (l1_0 : List S63) : Option ByteArray :=
 if 0≤a0_0∧a0_0≤1000 then (if 0≤a0_1∧a0_1<(jia.length:Int) then
  (if a0_1=1∨a0_1=4∨a0_1=12 then (strconv_Itoa.f a0_2).bind fun d=>if d.size≤1000 then some (jja a0_0 a0_1 ++ ((⟨#[32]⟩:ByteArray) ++ d)) else none
  else if a0_1=11 then (strconv_Itoa.f a0_2).bind fun d=>if d.size≤1000 then (if a0_3=1 then some ((jja a0_0 a0_1 ++ ((⟨#[32]⟩:ByteArray) ++ d)) ++ (⟨#[32,113,117,105,101,116]⟩:ByteArray)) else some (jja a0_0 a0_1 ++ ((⟨#[32]⟩:ByteArray) ++ d))) else none
  else if a0_1=8 then (if 0≤a0_2 then (if a0_2<(l1_0.length:Int) then (if (jE l1_0 a0_2).f0.size≤2000000 then some (jja a0_0 a0_1 ++ ((⟨#[32]⟩:ByteArray) ++ (jE l1_0 a0_2).f0)) else none) else none) else none)
  else if a0_1=2 then (if 0≤a0_2 then (if a0_2<(l1_0.length:Int) then (if (jE l1_0 a0_2).f0.size≤2000000 then (strconv_Itoa.f a0_3).bind fun d=>if d.size≤1000 then some ((jja a0_0 a0_1 ++ ((⟨#[32]⟩:ByteArray) ++ (jE l1_0 a0_2).f0)) ++ ((⟨#[32]⟩:ByteArray) ++ d)) else none else none) else none) else none)
  else some (jja a0_0 a0_1)) else none) else none
set_option maxHeartbeats 8000000 in
set_option maxRecDepth 100000 in
theorem lt_num1 (a0_0 a0_1 a0_2 a0_3 : Int) (A1_0 : Option Addr) (c1_0 : Nat) (l1_0 : List (S63)) (d : ByteArray) (w : World) (hr1_0 : Kd.C k63 w A1_0 l1_0.length l1_0) (hc1_0 : l1_0.length ≤ c1_0) (g0 : 0 ≤ a0_0) (g1 : a0_0 ≤ 1000) (g2 : 0 ≤ a0_1) (g3 : a0_1 < (jia.length : Int)) (hk : a0_1 = 1) (hi : strconv_Itoa.f a0_2 = some d) (hz : d.size ≤ 1000) :
  Calls Tryd.prog 19 #[.agg #[.int .i64 a0_0, .int .i64 a0_1, .int .i64 a0_2, .int .i64 a0_3], .agg #[.slice A1_0 l1_0.length c1_0]] w fun e w'=>e=.returned (.string (jja a0_0 a0_1 ++ ((⟨#[32]⟩:ByteArray) ++ d)))∧Below w.heap.size w w':=by
 have hu31:=Tryd.underlying31
 have hu42:=Tryd.underlying42
 have hu63:=Tryd.underlying63
 have hmx:Tryd.prog.follows .mixedOrders=true:=by kernel_rfl
 have n1:=jZa a0_1
 have n2:=jzb a0_0.toNat
 have n3:(jja a0_0 a0_1).size≤1008:=by unfold jja;rw [ByteArray.size_append];omega
 have m0:(spN a0_0.toNat).size+(rdOf ByteArray.empty jia a0_1).size≤9223372036854775807:=by omega
 have m1:=ezT m0
 have m2:=dzT m0
 have m3:(9223372036854775807<(spN a0_0.toNat).size+(rdOf ByteArray.empty jia a0_1).size)=False:=eq_false (Nat.not_lt.2 m0)
 clear n1 n2
 have e1:(a0_1 == 1)=true:=by simpa using hk
 have e4:(a0_1 == 4)=false:=by simp;omega
 have e11:(a0_1 == 11)=false:=by simp;omega
 have e12:(a0_1 == 12)=false:=by simp;omega
 have e2:(a0_1 == 2)=false:=by simp;omega
 have e8:(a0_1 == 8)=false:=by simp;omega
 clear hk
 have HI:=am hi
 clear hi
 have z0:1+d.size≤9223372036854775807:=by omega
 have z1:=ezT z0
 have z2:=dzT z0
 have z3:(9223372036854775807<1+d.size)=False:=eq_false (Nat.not_lt.2 z0)
 have y0:(jja a0_0 a0_1).size+(1+d.size)≤9223372036854775807:=by omega
 have y1:=ezT y0
 have y2:=dzT y0
 have y3:(9223372036854775807<(jja a0_0 a0_1).size+(1+d.size))=False:=eq_false (Nat.not_lt.2 y0)
 have p0:=ezT g2
 have p1:=ezT g3
 have hB2:Below w.heap.size w ((w.alloc (.cells #[.int .i64 a0_0, .int .i64 a0_1, .int .i64 a0_2, .int .i64 a0_3] 42)).alloc (.cells #[.slice A1_0 l1_0.length c1_0] 31)):=((Below.refl w.heap.size w).alloc (Nat.le_refl _) _).alloc (by simp) _
 have BX:=jI (jJ (heap_alloc_new w (.cells #[.int .i64 a0_0, .int .i64 a0_1, .int .i64 a0_2, .int .i64 a0_3] 42)) (.cells #[.slice A1_0 l1_0.length c1_0] 31))
 have BT:=jI (show ((w.alloc (.cells #[.int .i64 a0_0, .int .i64 a0_1, .int .i64 a0_2, .int .i64 a0_3] 42)).alloc (.cells #[.slice A1_0 l1_0.length c1_0] 31)).heap[w.heap.size+1]?=some (.cells #[.slice A1_0 l1_0.length c1_0] 31 (0,0)) by have h:=heap_alloc_new (w.alloc (.cells #[.int .i64 a0_0, .int .i64 a0_1, .int .i64 a0_2, .int .i64 a0_3] 42)) (.cells #[.slice A1_0 l1_0.length c1_0] 31);simpa only [World.size_alloc] using h)
 have HH:=am (show jja a0_0 a0_1=spN a0_0.toNat ++ rdOf ByteArray.empty jia a0_1 from rfl)
 generalize jja a0_0 a0_1=hd at *
 go_enter Tryd.func19,Tryd.ntmps19
 go_wp2
 refine wp_region_held (S:=(fun W':World=>W'.cell? ⟨w.heap.size,0,none⟩=some (.int .i64 a0_0)∧W'.cell? ⟨w.heap.size,1,none⟩=some (.int .i64 a0_1))) hmx ?_
 change wpAnyH _ _ _ _ _ _ _ _ (World.drew ((w.alloc (.cells #[.int .i64 a0_0, .int .i64 a0_1, .int .i64 a0_2, .int .i64 a0_3] 42)).alloc (.cells #[.slice A1_0 l1_0.length c1_0] 31)))
 have hS0:(fun W':World=>W'.cell? ⟨w.heap.size,0,none⟩=some (.int .i64 a0_0)∧W'.cell? ⟨w.heap.size,1,none⟩=some (.int .i64 a0_1)) (World.drew ((w.alloc (.cells #[.int .i64 a0_0, .int .i64 a0_1, .int .i64 a0_2, .int .i64 a0_3] 42)).alloc (.cells #[.slice A1_0 l1_0.length c1_0] 31))):=⟨lt0 BX,lt1 BX⟩
 refine wpAnyH_take (i:=0) (v:=?_) rfl (by kernel_rfl) (by kernel_rfl) (by kernel_rfl) (fun _ _ _ h=>h) (Or.inl ⟨by rfl,?_⟩) hS0 ?_
 rotate_left
 ·rintro W' ⟨s1,s2⟩
  go_simp
  with_reducible rfl
 refine wpAnyH_take (i:=1) (v:=?_) rfl (by kernel_rfl) (by kernel_rfl) (by kernel_rfl) (fun _ _ _ h=>h) (Or.inl ⟨by rfl,?_⟩) hS0 ?_
 rotate_left
 ·rintro W' ⟨s1,s2⟩
  go_simp
  with_reducible rfl
 refine wpAnyH_take (i:=4) (v:=?_) rfl (by kernel_rfl) (by kernel_rfl) (by kernel_rfl) (fun _ _ _ h=>h) (Or.inl ⟨by rfl,?_⟩) hS0 ?_
 rotate_left
 ·rintro W' ⟨s1,s2⟩
  go_simp
  with_reducible rfl
 refine wpAnyH_take (i:=5) (v:=?_) rfl (by kernel_rfl) (by kernel_rfl) (by kernel_rfl) (fun _ _ _ h=>h) (Or.inl ⟨by rfl,?_⟩) hS0 ?_
 rotate_left
 ·rintro W' ⟨s1,s2⟩
  go_simp
  with_reducible rfl
 refine wpAnyH_all (rs:=[2]) (by kernel_rfl) (by simp) ?_
 intro ii hii
 obtain rfl:ii=2:=by simpa using hii
 clear hii
 refine wpOp_step rfl (fun K hK=>?_)
 go_simp
 refine (jsb a0_0 g0 g1 _).mono ?_
 rintro e w3 ⟨rfl,hb3⟩
 have hS1:=And.intro (jk hb3 hS0.1) (jk hb3 hS0.2)
 have BX3:=ji BX hb3
 have BT3:=ji BT hb3
 have hB3:=jc (jJa hB2) hb3
 refine hK _ _ ⟨hS1,?_⟩
 clear hK K
 refine wpAnyH_all (rs:=[3]) (by kernel_rfl) (by simp) ?_
 intro ii hii
 obtain rfl:ii=3:=by simpa using hii
 clear hii
 refine wpOp_step rfl (fun K hK=>?_)
 go_simp
 refine (jHa.calls jia _ rfl).mono ?_
 rintro e w4 ⟨v,rfl,hR,hb4⟩
 obtain ⟨Ao,co,eo⟩:=Kd.jKa hR
 subst eo
 obtain ⟨ad,rfl,hx⟩:=Kd.jWa (Kd.jT hR).2.2 a0_1 g2 g3
 have hS2:=And.intro (jk hb4 hS1.1) (jk hb4 hS1.2)
 have BX4:=ji BX3 hb4
 have BT4:=ji BT3 hb4
 have hB4:=am (jc hB3 hb4)
 clear hR
 refine hK _ _ ⟨hS2,?_⟩
 clear hK K
 refine wpAnyH_take (i:=6) (v:=?_) rfl (by kernel_rfl) (by kernel_rfl) (by kernel_rfl) (fun _ _ _ h=>h) (Or.inl ⟨by rfl,?_⟩) hS2 ?_
 rotate_left
 ·rintro W' ⟨s1,s2⟩
  go_simp
  with_reducible rfl
 refine wpAnyH_all (rs:=[7]) (by kernel_rfl) (by simp) ?_
 intro ii hii
 obtain rfl:ii=7:=by simpa using hii
 clear hii
 refine wpOp_step rfl (fun K hK=>?_)
 go_simp
 refine hK _ _ ⟨hS2,?_⟩
 clear hK K
 refine wpAnyH_take (i:=8) (v:=?_) rfl (by kernel_rfl) (by kernel_rfl) (by kernel_rfl) (fun _ _ _ h=>h) (Or.inl ⟨by rfl,?_⟩) hS2 ?_
 rotate_left
 ·rintro W' ⟨s1,s2⟩
  go_simp
  with_reducible rfl
 refine wpAnyH_take (i:=9) (v:=?_) rfl (by kernel_rfl) (by kernel_rfl) (by kernel_rfl) (fun _ _ _ h=>h) (Or.inl ⟨by rfl,?_⟩) hS2 ?_
 rotate_left
 ·rintro W' ⟨s1,s2⟩
  go_simp
  with_reducible rfl
 refine wpAnyH_done (by kernel_rfl) ?_ _
 rename_i K9 hK9
 refine hK9 _ _ ?_
 clear hK9
 go_simp
 rw [← HH.out]
 have c0:=lt0 BX4
 have c1:=lt1 BX4
 have c2:=lt2 BX4
 have c3:=lt3 BX4
 have cT:=lt0 BT4
 clear hS0 hS1 hS2 BX BT BX3 BT3 hx hb3 hb4 hB2 hB3 HH
 go_wp2_with (go_at_call 36;refine (strconv_Itoa.calls _ _ _ HI.out).mono ?_;rintro e w' ⟨rfl,⟨nd,rfl⟩⟩)
 go_ret
 exact ⟨rfl,Y13⟩
set_option maxHeartbeats 8000000 in
set_option maxRecDepth 100000 in
theorem lt_num4 (a0_0 a0_1 a0_2 a0_3 : Int) (A1_0 : Option Addr) (c1_0 : Nat) (l1_0 : List (S63)) (d : ByteArray) (w : World) (hr1_0 : Kd.C k63 w A1_0 l1_0.length l1_0) (hc1_0 : l1_0.length ≤ c1_0) (g0 : 0 ≤ a0_0) (g1 : a0_0 ≤ 1000) (g2 : 0 ≤ a0_1) (g3 : a0_1 < (jia.length : Int)) (hk : a0_1 = 4) (hi : strconv_Itoa.f a0_2 = some d) (hz : d.size ≤ 1000) :
  Calls Tryd.prog 19 #[.agg #[.int .i64 a0_0, .int .i64 a0_1, .int .i64 a0_2, .int .i64 a0_3], .agg #[.slice A1_0 l1_0.length c1_0]] w fun e w'=>e=.returned (.string (jja a0_0 a0_1 ++ ((⟨#[32]⟩:ByteArray) ++ d)))∧Below w.heap.size w w':=by
 have hu31:=Tryd.underlying31
 have hu42:=Tryd.underlying42
 have hu63:=Tryd.underlying63
 have hmx:Tryd.prog.follows .mixedOrders=true:=by kernel_rfl
 have n1:=jZa a0_1
 have n2:=jzb a0_0.toNat
 have n3:(jja a0_0 a0_1).size≤1008:=by unfold jja;rw [ByteArray.size_append];omega
 have m0:(spN a0_0.toNat).size+(rdOf ByteArray.empty jia a0_1).size≤9223372036854775807:=by omega
 have m1:=ezT m0
 have m2:=dzT m0
 have m3:(9223372036854775807<(spN a0_0.toNat).size+(rdOf ByteArray.empty jia a0_1).size)=False:=eq_false (Nat.not_lt.2 m0)
 clear n1 n2
 have e1:(a0_1 == 1)=false:=by simp;omega
 have e4:(a0_1 == 4)=true:=by simpa using hk
 have e11:(a0_1 == 11)=false:=by simp;omega
 have e12:(a0_1 == 12)=false:=by simp;omega
 have e2:(a0_1 == 2)=false:=by simp;omega
 have e8:(a0_1 == 8)=false:=by simp;omega
 clear hk
 have HI:=am hi
 clear hi
 have z0:1+d.size≤9223372036854775807:=by omega
 have z1:=ezT z0
 have z2:=dzT z0
 have z3:(9223372036854775807<1+d.size)=False:=eq_false (Nat.not_lt.2 z0)
 have y0:(jja a0_0 a0_1).size+(1+d.size)≤9223372036854775807:=by omega
 have y1:=ezT y0
 have y2:=dzT y0
 have y3:(9223372036854775807<(jja a0_0 a0_1).size+(1+d.size))=False:=eq_false (Nat.not_lt.2 y0)
 have p0:=ezT g2
 have p1:=ezT g3
 have hB2:Below w.heap.size w ((w.alloc (.cells #[.int .i64 a0_0, .int .i64 a0_1, .int .i64 a0_2, .int .i64 a0_3] 42)).alloc (.cells #[.slice A1_0 l1_0.length c1_0] 31)):=((Below.refl w.heap.size w).alloc (Nat.le_refl _) _).alloc (by simp) _
 have BX:=jI (jJ (heap_alloc_new w (.cells #[.int .i64 a0_0, .int .i64 a0_1, .int .i64 a0_2, .int .i64 a0_3] 42)) (.cells #[.slice A1_0 l1_0.length c1_0] 31))
 have BT:=jI (show ((w.alloc (.cells #[.int .i64 a0_0, .int .i64 a0_1, .int .i64 a0_2, .int .i64 a0_3] 42)).alloc (.cells #[.slice A1_0 l1_0.length c1_0] 31)).heap[w.heap.size+1]?=some (.cells #[.slice A1_0 l1_0.length c1_0] 31 (0,0)) by have h:=heap_alloc_new (w.alloc (.cells #[.int .i64 a0_0, .int .i64 a0_1, .int .i64 a0_2, .int .i64 a0_3] 42)) (.cells #[.slice A1_0 l1_0.length c1_0] 31);simpa only [World.size_alloc] using h)
 have HH:=am (show jja a0_0 a0_1=spN a0_0.toNat ++ rdOf ByteArray.empty jia a0_1 from rfl)
 generalize jja a0_0 a0_1=hd at *
 go_enter Tryd.func19,Tryd.ntmps19
 go_wp2
 refine wp_region_held (S:=(fun W':World=>W'.cell? ⟨w.heap.size,0,none⟩=some (.int .i64 a0_0)∧W'.cell? ⟨w.heap.size,1,none⟩=some (.int .i64 a0_1))) hmx ?_
 change wpAnyH _ _ _ _ _ _ _ _ (World.drew ((w.alloc (.cells #[.int .i64 a0_0, .int .i64 a0_1, .int .i64 a0_2, .int .i64 a0_3] 42)).alloc (.cells #[.slice A1_0 l1_0.length c1_0] 31)))
 have hS0:(fun W':World=>W'.cell? ⟨w.heap.size,0,none⟩=some (.int .i64 a0_0)∧W'.cell? ⟨w.heap.size,1,none⟩=some (.int .i64 a0_1)) (World.drew ((w.alloc (.cells #[.int .i64 a0_0, .int .i64 a0_1, .int .i64 a0_2, .int .i64 a0_3] 42)).alloc (.cells #[.slice A1_0 l1_0.length c1_0] 31))):=⟨lt0 BX,lt1 BX⟩
 refine wpAnyH_take (i:=0) (v:=?_) rfl (by kernel_rfl) (by kernel_rfl) (by kernel_rfl) (fun _ _ _ h=>h) (Or.inl ⟨by rfl,?_⟩) hS0 ?_
 rotate_left
 ·rintro W' ⟨s1,s2⟩
  go_simp
  with_reducible rfl
 refine wpAnyH_take (i:=1) (v:=?_) rfl (by kernel_rfl) (by kernel_rfl) (by kernel_rfl) (fun _ _ _ h=>h) (Or.inl ⟨by rfl,?_⟩) hS0 ?_
 rotate_left
 ·rintro W' ⟨s1,s2⟩
  go_simp
  with_reducible rfl
 refine wpAnyH_take (i:=4) (v:=?_) rfl (by kernel_rfl) (by kernel_rfl) (by kernel_rfl) (fun _ _ _ h=>h) (Or.inl ⟨by rfl,?_⟩) hS0 ?_
 rotate_left
 ·rintro W' ⟨s1,s2⟩
  go_simp
  with_reducible rfl
 refine wpAnyH_take (i:=5) (v:=?_) rfl (by kernel_rfl) (by kernel_rfl) (by kernel_rfl) (fun _ _ _ h=>h) (Or.inl ⟨by rfl,?_⟩) hS0 ?_
 rotate_left
 ·rintro W' ⟨s1,s2⟩
  go_simp
  with_reducible rfl
 refine wpAnyH_all (rs:=[2]) (by kernel_rfl) (by simp) ?_
 intro ii hii
 obtain rfl:ii=2:=by simpa using hii
 clear hii
 refine wpOp_step rfl (fun K hK=>?_)
 go_simp
 refine (jsb a0_0 g0 g1 _).mono ?_
 rintro e w3 ⟨rfl,hb3⟩
 have hS1:=And.intro (jk hb3 hS0.1) (jk hb3 hS0.2)
 have BX3:=ji BX hb3
 have BT3:=ji BT hb3
 have hB3:=jc (jJa hB2) hb3
 refine hK _ _ ⟨hS1,?_⟩
 clear hK K
 refine wpAnyH_all (rs:=[3]) (by kernel_rfl) (by simp) ?_
 intro ii hii
 obtain rfl:ii=3:=by simpa using hii
 clear hii
 refine wpOp_step rfl (fun K hK=>?_)
 go_simp
 refine (jHa.calls jia _ rfl).mono ?_
 rintro e w4 ⟨v,rfl,hR,hb4⟩
 obtain ⟨Ao,co,eo⟩:=Kd.jKa hR
 subst eo
 obtain ⟨ad,rfl,hx⟩:=Kd.jWa (Kd.jT hR).2.2 a0_1 g2 g3
 have hS2:=And.intro (jk hb4 hS1.1) (jk hb4 hS1.2)
 have BX4:=ji BX3 hb4
 have BT4:=ji BT3 hb4
 have hB4:=am (jc hB3 hb4)
 clear hR
 refine hK _ _ ⟨hS2,?_⟩
 clear hK K
 refine wpAnyH_take (i:=6) (v:=?_) rfl (by kernel_rfl) (by kernel_rfl) (by kernel_rfl) (fun _ _ _ h=>h) (Or.inl ⟨by rfl,?_⟩) hS2 ?_
 rotate_left
 ·rintro W' ⟨s1,s2⟩
  go_simp
  with_reducible rfl
 refine wpAnyH_all (rs:=[7]) (by kernel_rfl) (by simp) ?_
 intro ii hii
 obtain rfl:ii=7:=by simpa using hii
 clear hii
 refine wpOp_step rfl (fun K hK=>?_)
 go_simp
 refine hK _ _ ⟨hS2,?_⟩
 clear hK K
 refine wpAnyH_take (i:=8) (v:=?_) rfl (by kernel_rfl) (by kernel_rfl) (by kernel_rfl) (fun _ _ _ h=>h) (Or.inl ⟨by rfl,?_⟩) hS2 ?_
 rotate_left
 ·rintro W' ⟨s1,s2⟩
  go_simp
  with_reducible rfl
 refine wpAnyH_take (i:=9) (v:=?_) rfl (by kernel_rfl) (by kernel_rfl) (by kernel_rfl) (fun _ _ _ h=>h) (Or.inl ⟨by rfl,?_⟩) hS2 ?_
 rotate_left
 ·rintro W' ⟨s1,s2⟩
  go_simp
  with_reducible rfl
 refine wpAnyH_done (by kernel_rfl) ?_ _
 rename_i K9 hK9
 refine hK9 _ _ ?_
 clear hK9
 go_simp
 rw [← HH.out]
 have c0:=lt0 BX4
 have c1:=lt1 BX4
 have c2:=lt2 BX4
 have c3:=lt3 BX4
 have cT:=lt0 BT4
 clear hS0 hS1 hS2 BX BT BX3 BT3 hx hb3 hb4 hB2 hB3 HH
 go_wp2_with (go_at_call 36;refine (strconv_Itoa.calls _ _ _ HI.out).mono ?_;rintro e w' ⟨rfl,⟨nd,rfl⟩⟩)
 go_ret
 exact ⟨rfl,Y13⟩
set_option maxHeartbeats 8000000 in
set_option maxRecDepth 100000 in
theorem lt_num12 (a0_0 a0_1 a0_2 a0_3 : Int) (A1_0 : Option Addr) (c1_0 : Nat) (l1_0 : List (S63)) (d : ByteArray) (w : World) (hr1_0 : Kd.C k63 w A1_0 l1_0.length l1_0) (hc1_0 : l1_0.length ≤ c1_0) (g0 : 0 ≤ a0_0) (g1 : a0_0 ≤ 1000) (g2 : 0 ≤ a0_1) (g3 : a0_1 < (jia.length : Int)) (hk : a0_1 = 12) (hi : strconv_Itoa.f a0_2 = some d) (hz : d.size ≤ 1000) :
  Calls Tryd.prog 19 #[.agg #[.int .i64 a0_0, .int .i64 a0_1, .int .i64 a0_2, .int .i64 a0_3], .agg #[.slice A1_0 l1_0.length c1_0]] w fun e w'=>e=.returned (.string (jja a0_0 a0_1 ++ ((⟨#[32]⟩:ByteArray) ++ d)))∧Below w.heap.size w w':=by
 have hu31:=Tryd.underlying31
 have hu42:=Tryd.underlying42
 have hu63:=Tryd.underlying63
 have hmx:Tryd.prog.follows .mixedOrders=true:=by kernel_rfl
 have n1:=jZa a0_1
 have n2:=jzb a0_0.toNat
 have n3:(jja a0_0 a0_1).size≤1008:=by unfold jja;rw [ByteArray.size_append];omega
 have m0:(spN a0_0.toNat).size+(rdOf ByteArray.empty jia a0_1).size≤9223372036854775807:=by omega
 have m1:=ezT m0
 have m2:=dzT m0
 have m3:(9223372036854775807<(spN a0_0.toNat).size+(rdOf ByteArray.empty jia a0_1).size)=False:=eq_false (Nat.not_lt.2 m0)
 clear n1 n2
 have e1:(a0_1 == 1)=false:=by simp;omega
 have e4:(a0_1 == 4)=false:=by simp;omega
 have e11:(a0_1 == 11)=false:=by simp;omega
 have e12:(a0_1 == 12)=true:=by simpa using hk
 have e2:(a0_1 == 2)=false:=by simp;omega
 have e8:(a0_1 == 8)=false:=by simp;omega
 clear hk
 have HI:=am hi
 clear hi
 have z0:1+d.size≤9223372036854775807:=by omega
 have z1:=ezT z0
 have z2:=dzT z0
 have z3:(9223372036854775807<1+d.size)=False:=eq_false (Nat.not_lt.2 z0)
 have y0:(jja a0_0 a0_1).size+(1+d.size)≤9223372036854775807:=by omega
 have y1:=ezT y0
 have y2:=dzT y0
 have y3:(9223372036854775807<(jja a0_0 a0_1).size+(1+d.size))=False:=eq_false (Nat.not_lt.2 y0)
 have p0:=ezT g2
 have p1:=ezT g3
 have hB2:Below w.heap.size w ((w.alloc (.cells #[.int .i64 a0_0, .int .i64 a0_1, .int .i64 a0_2, .int .i64 a0_3] 42)).alloc (.cells #[.slice A1_0 l1_0.length c1_0] 31)):=((Below.refl w.heap.size w).alloc (Nat.le_refl _) _).alloc (by simp) _
 have BX:=jI (jJ (heap_alloc_new w (.cells #[.int .i64 a0_0, .int .i64 a0_1, .int .i64 a0_2, .int .i64 a0_3] 42)) (.cells #[.slice A1_0 l1_0.length c1_0] 31))
 have BT:=jI (show ((w.alloc (.cells #[.int .i64 a0_0, .int .i64 a0_1, .int .i64 a0_2, .int .i64 a0_3] 42)).alloc (.cells #[.slice A1_0 l1_0.length c1_0] 31)).heap[w.heap.size+1]?=some (.cells #[.slice A1_0 l1_0.length c1_0] 31 (0,0)) by have h:=heap_alloc_new (w.alloc (.cells #[.int .i64 a0_0, .int .i64 a0_1, .int .i64 a0_2, .int .i64 a0_3] 42)) (.cells #[.slice A1_0 l1_0.length c1_0] 31);simpa only [World.size_alloc] using h)
 have HH:=am (show jja a0_0 a0_1=spN a0_0.toNat ++ rdOf ByteArray.empty jia a0_1 from rfl)
 generalize jja a0_0 a0_1=hd at *
 go_enter Tryd.func19,Tryd.ntmps19
 go_wp2
 refine wp_region_held (S:=(fun W':World=>W'.cell? ⟨w.heap.size,0,none⟩=some (.int .i64 a0_0)∧W'.cell? ⟨w.heap.size,1,none⟩=some (.int .i64 a0_1))) hmx ?_
 change wpAnyH _ _ _ _ _ _ _ _ (World.drew ((w.alloc (.cells #[.int .i64 a0_0, .int .i64 a0_1, .int .i64 a0_2, .int .i64 a0_3] 42)).alloc (.cells #[.slice A1_0 l1_0.length c1_0] 31)))
 have hS0:(fun W':World=>W'.cell? ⟨w.heap.size,0,none⟩=some (.int .i64 a0_0)∧W'.cell? ⟨w.heap.size,1,none⟩=some (.int .i64 a0_1)) (World.drew ((w.alloc (.cells #[.int .i64 a0_0, .int .i64 a0_1, .int .i64 a0_2, .int .i64 a0_3] 42)).alloc (.cells #[.slice A1_0 l1_0.length c1_0] 31))):=⟨lt0 BX,lt1 BX⟩
 refine wpAnyH_take (i:=0) (v:=?_) rfl (by kernel_rfl) (by kernel_rfl) (by kernel_rfl) (fun _ _ _ h=>h) (Or.inl ⟨by rfl,?_⟩) hS0 ?_
 rotate_left
 ·rintro W' ⟨s1,s2⟩
  go_simp
  with_reducible rfl
 refine wpAnyH_take (i:=1) (v:=?_) rfl (by kernel_rfl) (by kernel_rfl) (by kernel_rfl) (fun _ _ _ h=>h) (Or.inl ⟨by rfl,?_⟩) hS0 ?_
 rotate_left
 ·rintro W' ⟨s1,s2⟩
  go_simp
  with_reducible rfl
 refine wpAnyH_take (i:=4) (v:=?_) rfl (by kernel_rfl) (by kernel_rfl) (by kernel_rfl) (fun _ _ _ h=>h) (Or.inl ⟨by rfl,?_⟩) hS0 ?_
 rotate_left
 ·rintro W' ⟨s1,s2⟩
  go_simp
  with_reducible rfl
 refine wpAnyH_take (i:=5) (v:=?_) rfl (by kernel_rfl) (by kernel_rfl) (by kernel_rfl) (fun _ _ _ h=>h) (Or.inl ⟨by rfl,?_⟩) hS0 ?_
 rotate_left
 ·rintro W' ⟨s1,s2⟩
  go_simp
  with_reducible rfl
 refine wpAnyH_all (rs:=[2]) (by kernel_rfl) (by simp) ?_
 intro ii hii
 obtain rfl:ii=2:=by simpa using hii
 clear hii
 refine wpOp_step rfl (fun K hK=>?_)
 go_simp
 refine (jsb a0_0 g0 g1 _).mono ?_
 rintro e w3 ⟨rfl,hb3⟩
 have hS1:=And.intro (jk hb3 hS0.1) (jk hb3 hS0.2)
 have BX3:=ji BX hb3
 have BT3:=ji BT hb3
 have hB3:=jc (jJa hB2) hb3
 refine hK _ _ ⟨hS1,?_⟩
 clear hK K
 refine wpAnyH_all (rs:=[3]) (by kernel_rfl) (by simp) ?_
 intro ii hii
 obtain rfl:ii=3:=by simpa using hii
 clear hii
 refine wpOp_step rfl (fun K hK=>?_)
 go_simp
 refine (jHa.calls jia _ rfl).mono ?_
 rintro e w4 ⟨v,rfl,hR,hb4⟩
 obtain ⟨Ao,co,eo⟩:=Kd.jKa hR
 subst eo
 obtain ⟨ad,rfl,hx⟩:=Kd.jWa (Kd.jT hR).2.2 a0_1 g2 g3
 have hS2:=And.intro (jk hb4 hS1.1) (jk hb4 hS1.2)
 have BX4:=ji BX3 hb4
 have BT4:=ji BT3 hb4
 have hB4:=am (jc hB3 hb4)
 clear hR
 refine hK _ _ ⟨hS2,?_⟩
 clear hK K
 refine wpAnyH_take (i:=6) (v:=?_) rfl (by kernel_rfl) (by kernel_rfl) (by kernel_rfl) (fun _ _ _ h=>h) (Or.inl ⟨by rfl,?_⟩) hS2 ?_
 rotate_left
 ·rintro W' ⟨s1,s2⟩
  go_simp
  with_reducible rfl
 refine wpAnyH_all (rs:=[7]) (by kernel_rfl) (by simp) ?_
 intro ii hii
 obtain rfl:ii=7:=by simpa using hii
 clear hii
 refine wpOp_step rfl (fun K hK=>?_)
 go_simp
 refine hK _ _ ⟨hS2,?_⟩
 clear hK K
 refine wpAnyH_take (i:=8) (v:=?_) rfl (by kernel_rfl) (by kernel_rfl) (by kernel_rfl) (fun _ _ _ h=>h) (Or.inl ⟨by rfl,?_⟩) hS2 ?_
 rotate_left
 ·rintro W' ⟨s1,s2⟩
  go_simp
  with_reducible rfl
 refine wpAnyH_take (i:=9) (v:=?_) rfl (by kernel_rfl) (by kernel_rfl) (by kernel_rfl) (fun _ _ _ h=>h) (Or.inl ⟨by rfl,?_⟩) hS2 ?_
 rotate_left
 ·rintro W' ⟨s1,s2⟩
  go_simp
  with_reducible rfl
 refine wpAnyH_done (by kernel_rfl) ?_ _
 rename_i K9 hK9
 refine hK9 _ _ ?_
 clear hK9
 go_simp
 rw [← HH.out]
 have c0:=lt0 BX4
 have c1:=lt1 BX4
 have c2:=lt2 BX4
 have c3:=lt3 BX4
 have cT:=lt0 BT4
 clear hS0 hS1 hS2 BX BT BX3 BT3 hx hb3 hb4 hB2 hB3 HH
 go_wp2_with (go_at_call 36;refine (strconv_Itoa.calls _ _ _ HI.out).mono ?_;rintro e w' ⟨rfl,⟨nd,rfl⟩⟩)
 go_ret
 exact ⟨rfl,Y13⟩
set_option maxHeartbeats 8000000 in
set_option maxRecDepth 100000 in
theorem lt_with (a0_0 a0_1 a0_2 a0_3 : Int) (A1_0 : Option Addr) (c1_0 : Nat) (l1_0 : List (S63)) (d : ByteArray) (w : World) (hr1_0 : Kd.C k63 w A1_0 l1_0.length l1_0) (hc1_0 : l1_0.length ≤ c1_0) (g0 : 0 ≤ a0_0) (g1 : a0_0 ≤ 1000) (g2 : 0 ≤ a0_1) (g3 : a0_1 < (jia.length : Int)) (hk : a0_1 = 11) (q3 : a0_3 ≠ 1) (hi : strconv_Itoa.f a0_2 = some d) (hz : d.size ≤ 1000) :
  Calls Tryd.prog 19 #[.agg #[.int .i64 a0_0, .int .i64 a0_1, .int .i64 a0_2, .int .i64 a0_3], .agg #[.slice A1_0 l1_0.length c1_0]] w fun e w'=>e=.returned (.string (jja a0_0 a0_1 ++ ((⟨#[32]⟩:ByteArray) ++ d)))∧Below w.heap.size w w':=by
 have hu31:=Tryd.underlying31
 have hu42:=Tryd.underlying42
 have hu63:=Tryd.underlying63
 have hmx:Tryd.prog.follows .mixedOrders=true:=by kernel_rfl
 have n1:=jZa a0_1
 have n2:=jzb a0_0.toNat
 have n3:(jja a0_0 a0_1).size≤1008:=by unfold jja;rw [ByteArray.size_append];omega
 have m0:(spN a0_0.toNat).size+(rdOf ByteArray.empty jia a0_1).size≤9223372036854775807:=by omega
 have m1:=ezT m0
 have m2:=dzT m0
 have m3:(9223372036854775807<(spN a0_0.toNat).size+(rdOf ByteArray.empty jia a0_1).size)=False:=eq_false (Nat.not_lt.2 m0)
 clear n1 n2
 have e1:(a0_1 == 1)=false:=by simp;omega
 have e4:(a0_1 == 4)=false:=by simp;omega
 have e11:(a0_1 == 11)=true:=by simpa using hk
 have e12:(a0_1 == 12)=false:=by simp;omega
 have e2:(a0_1 == 2)=false:=by simp;omega
 have e8:(a0_1 == 8)=false:=by simp;omega
 clear hk
 have e31:(a0_3 == 1)=false:=by simpa using q3
 clear q3
 have HI:=am hi
 clear hi
 have z0:1+d.size≤9223372036854775807:=by omega
 have z1:=ezT z0
 have z2:=dzT z0
 have z3:(9223372036854775807<1+d.size)=False:=eq_false (Nat.not_lt.2 z0)
 have y0:(jja a0_0 a0_1).size+(1+d.size)≤9223372036854775807:=by omega
 have y1:=ezT y0
 have y2:=dzT y0
 have y3:(9223372036854775807<(jja a0_0 a0_1).size+(1+d.size))=False:=eq_false (Nat.not_lt.2 y0)
 have p0:=ezT g2
 have p1:=ezT g3
 have hB2:Below w.heap.size w ((w.alloc (.cells #[.int .i64 a0_0, .int .i64 a0_1, .int .i64 a0_2, .int .i64 a0_3] 42)).alloc (.cells #[.slice A1_0 l1_0.length c1_0] 31)):=((Below.refl w.heap.size w).alloc (Nat.le_refl _) _).alloc (by simp) _
 have BX:=jI (jJ (heap_alloc_new w (.cells #[.int .i64 a0_0, .int .i64 a0_1, .int .i64 a0_2, .int .i64 a0_3] 42)) (.cells #[.slice A1_0 l1_0.length c1_0] 31))
 have BT:=jI (show ((w.alloc (.cells #[.int .i64 a0_0, .int .i64 a0_1, .int .i64 a0_2, .int .i64 a0_3] 42)).alloc (.cells #[.slice A1_0 l1_0.length c1_0] 31)).heap[w.heap.size+1]?=some (.cells #[.slice A1_0 l1_0.length c1_0] 31 (0,0)) by have h:=heap_alloc_new (w.alloc (.cells #[.int .i64 a0_0, .int .i64 a0_1, .int .i64 a0_2, .int .i64 a0_3] 42)) (.cells #[.slice A1_0 l1_0.length c1_0] 31);simpa only [World.size_alloc] using h)
 have HH:=am (show jja a0_0 a0_1=spN a0_0.toNat ++ rdOf ByteArray.empty jia a0_1 from rfl)
 generalize jja a0_0 a0_1=hd at *
 go_enter Tryd.func19,Tryd.ntmps19
 go_wp2
 refine wp_region_held (S:=(fun W':World=>W'.cell? ⟨w.heap.size,0,none⟩=some (.int .i64 a0_0)∧W'.cell? ⟨w.heap.size,1,none⟩=some (.int .i64 a0_1))) hmx ?_
 change wpAnyH _ _ _ _ _ _ _ _ (World.drew ((w.alloc (.cells #[.int .i64 a0_0, .int .i64 a0_1, .int .i64 a0_2, .int .i64 a0_3] 42)).alloc (.cells #[.slice A1_0 l1_0.length c1_0] 31)))
 have hS0:(fun W':World=>W'.cell? ⟨w.heap.size,0,none⟩=some (.int .i64 a0_0)∧W'.cell? ⟨w.heap.size,1,none⟩=some (.int .i64 a0_1)) (World.drew ((w.alloc (.cells #[.int .i64 a0_0, .int .i64 a0_1, .int .i64 a0_2, .int .i64 a0_3] 42)).alloc (.cells #[.slice A1_0 l1_0.length c1_0] 31))):=⟨lt0 BX,lt1 BX⟩
 refine wpAnyH_take (i:=0) (v:=?_) rfl (by kernel_rfl) (by kernel_rfl) (by kernel_rfl) (fun _ _ _ h=>h) (Or.inl ⟨by rfl,?_⟩) hS0 ?_
 rotate_left
 ·rintro W' ⟨s1,s2⟩
  go_simp
  with_reducible rfl
 refine wpAnyH_take (i:=1) (v:=?_) rfl (by kernel_rfl) (by kernel_rfl) (by kernel_rfl) (fun _ _ _ h=>h) (Or.inl ⟨by rfl,?_⟩) hS0 ?_
 rotate_left
 ·rintro W' ⟨s1,s2⟩
  go_simp
  with_reducible rfl
 refine wpAnyH_take (i:=4) (v:=?_) rfl (by kernel_rfl) (by kernel_rfl) (by kernel_rfl) (fun _ _ _ h=>h) (Or.inl ⟨by rfl,?_⟩) hS0 ?_
 rotate_left
 ·rintro W' ⟨s1,s2⟩
  go_simp
  with_reducible rfl
 refine wpAnyH_take (i:=5) (v:=?_) rfl (by kernel_rfl) (by kernel_rfl) (by kernel_rfl) (fun _ _ _ h=>h) (Or.inl ⟨by rfl,?_⟩) hS0 ?_
 rotate_left
 ·rintro W' ⟨s1,s2⟩
  go_simp
  with_reducible rfl
 refine wpAnyH_all (rs:=[2]) (by kernel_rfl) (by simp) ?_
 intro ii hii
 obtain rfl:ii=2:=by simpa using hii
 clear hii
 refine wpOp_step rfl (fun K hK=>?_)
 go_simp
 refine (jsb a0_0 g0 g1 _).mono ?_
 rintro e w3 ⟨rfl,hb3⟩
 have hS1:=And.intro (jk hb3 hS0.1) (jk hb3 hS0.2)
 have BX3:=ji BX hb3
 have BT3:=ji BT hb3
 have hB3:=jc (jJa hB2) hb3
 refine hK _ _ ⟨hS1,?_⟩
 clear hK K
 refine wpAnyH_all (rs:=[3]) (by kernel_rfl) (by simp) ?_
 intro ii hii
 obtain rfl:ii=3:=by simpa using hii
 clear hii
 refine wpOp_step rfl (fun K hK=>?_)
 go_simp
 refine (jHa.calls jia _ rfl).mono ?_
 rintro e w4 ⟨v,rfl,hR,hb4⟩
 obtain ⟨Ao,co,eo⟩:=Kd.jKa hR
 subst eo
 obtain ⟨ad,rfl,hx⟩:=Kd.jWa (Kd.jT hR).2.2 a0_1 g2 g3
 have hS2:=And.intro (jk hb4 hS1.1) (jk hb4 hS1.2)
 have BX4:=ji BX3 hb4
 have BT4:=ji BT3 hb4
 have hB4:=am (jc hB3 hb4)
 clear hR
 refine hK _ _ ⟨hS2,?_⟩
 clear hK K
 refine wpAnyH_take (i:=6) (v:=?_) rfl (by kernel_rfl) (by kernel_rfl) (by kernel_rfl) (fun _ _ _ h=>h) (Or.inl ⟨by rfl,?_⟩) hS2 ?_
 rotate_left
 ·rintro W' ⟨s1,s2⟩
  go_simp
  with_reducible rfl
 refine wpAnyH_all (rs:=[7]) (by kernel_rfl) (by simp) ?_
 intro ii hii
 obtain rfl:ii=7:=by simpa using hii
 clear hii
 refine wpOp_step rfl (fun K hK=>?_)
 go_simp
 refine hK _ _ ⟨hS2,?_⟩
 clear hK K
 refine wpAnyH_take (i:=8) (v:=?_) rfl (by kernel_rfl) (by kernel_rfl) (by kernel_rfl) (fun _ _ _ h=>h) (Or.inl ⟨by rfl,?_⟩) hS2 ?_
 rotate_left
 ·rintro W' ⟨s1,s2⟩
  go_simp
  with_reducible rfl
 refine wpAnyH_take (i:=9) (v:=?_) rfl (by kernel_rfl) (by kernel_rfl) (by kernel_rfl) (fun _ _ _ h=>h) (Or.inl ⟨by rfl,?_⟩) hS2 ?_
 rotate_left
 ·rintro W' ⟨s1,s2⟩
  go_simp
  with_reducible rfl
 refine wpAnyH_done (by kernel_rfl) ?_ _
 rename_i K9 hK9
 refine hK9 _ _ ?_
 clear hK9
 go_simp
 rw [← HH.out]
 have c0:=lt0 BX4
 have c1:=lt1 BX4
 have c2:=lt2 BX4
 have c3:=lt3 BX4
 have cT:=lt0 BT4
 clear hS0 hS1 hS2 BX BT BX3 BT3 hx hb3 hb4 hB2 hB3 HH
 go_wp2_with (go_at_call 36;refine (strconv_Itoa.calls _ _ _ HI.out).mono ?_;rintro e w' ⟨rfl,⟨nd,rfl⟩⟩)
 go_ret
 exact ⟨rfl,Y13⟩
set_option maxHeartbeats 8000000 in
set_option maxRecDepth 100000 in
theorem lt_quiet (a0_0 a0_1 a0_2 a0_3 : Int) (A1_0 : Option Addr) (c1_0 : Nat) (l1_0 : List (S63)) (d : ByteArray) (w : World) (hr1_0 : Kd.C k63 w A1_0 l1_0.length l1_0) (hc1_0 : l1_0.length ≤ c1_0) (g0 : 0 ≤ a0_0) (g1 : a0_0 ≤ 1000) (g2 : 0 ≤ a0_1) (g3 : a0_1 < (jia.length : Int)) (hk : a0_1 = 11) (q3 : a0_3 = 1) (hi : strconv_Itoa.f a0_2 = some d) (hz : d.size ≤ 1000) :
  Calls Tryd.prog 19 #[.agg #[.int .i64 a0_0, .int .i64 a0_1, .int .i64 a0_2, .int .i64 a0_3], .agg #[.slice A1_0 l1_0.length c1_0]] w fun e w'=>e=.returned (.string ((jja a0_0 a0_1 ++ ((⟨#[32]⟩:ByteArray) ++ d)) ++ (⟨#[32,113,117,105,101,116]⟩:ByteArray)))∧Below w.heap.size w w':=by
 have hu31:=Tryd.underlying31
 have hu42:=Tryd.underlying42
 have hu63:=Tryd.underlying63
 have hmx:Tryd.prog.follows .mixedOrders=true:=by kernel_rfl
 have n1:=jZa a0_1
 have n2:=jzb a0_0.toNat
 have n3:(jja a0_0 a0_1).size≤1008:=by unfold jja;rw [ByteArray.size_append];omega
 have m0:(spN a0_0.toNat).size+(rdOf ByteArray.empty jia a0_1).size≤9223372036854775807:=by omega
 have m1:=ezT m0
 have m2:=dzT m0
 have m3:(9223372036854775807<(spN a0_0.toNat).size+(rdOf ByteArray.empty jia a0_1).size)=False:=eq_false (Nat.not_lt.2 m0)
 clear n1 n2
 have e1:(a0_1 == 1)=false:=by simp;omega
 have e4:(a0_1 == 4)=false:=by simp;omega
 have e11:(a0_1 == 11)=true:=by simpa using hk
 have e12:(a0_1 == 12)=false:=by simp;omega
 have e2:(a0_1 == 2)=false:=by simp;omega
 have e8:(a0_1 == 8)=false:=by simp;omega
 clear hk
 have e31:(a0_3 == 1)=true:=by simpa using q3
 clear q3
 have HI:=am hi
 clear hi
 have z0:1+d.size≤9223372036854775807:=by omega
 have z1:=ezT z0
 have z2:=dzT z0
 have z3:(9223372036854775807<1+d.size)=False:=eq_false (Nat.not_lt.2 z0)
 have y0:(jja a0_0 a0_1).size+(1+d.size)≤9223372036854775807:=by omega
 have y1:=ezT y0
 have y2:=dzT y0
 have y3:(9223372036854775807<(jja a0_0 a0_1).size+(1+d.size))=False:=eq_false (Nat.not_lt.2 y0)
 have x0:(jja a0_0 a0_1).size+(1+d.size)+6≤9223372036854775807:=by omega
 have x1:=ezT x0
 have x2:=dzT x0
 have x3:(9223372036854775807<(jja a0_0 a0_1).size+(1+d.size)+6)=False:=eq_false (Nat.not_lt.2 x0)
 have p0:=ezT g2
 have p1:=ezT g3
 have hB2:Below w.heap.size w ((w.alloc (.cells #[.int .i64 a0_0, .int .i64 a0_1, .int .i64 a0_2, .int .i64 a0_3] 42)).alloc (.cells #[.slice A1_0 l1_0.length c1_0] 31)):=((Below.refl w.heap.size w).alloc (Nat.le_refl _) _).alloc (by simp) _
 have BX:=jI (jJ (heap_alloc_new w (.cells #[.int .i64 a0_0, .int .i64 a0_1, .int .i64 a0_2, .int .i64 a0_3] 42)) (.cells #[.slice A1_0 l1_0.length c1_0] 31))
 have BT:=jI (show ((w.alloc (.cells #[.int .i64 a0_0, .int .i64 a0_1, .int .i64 a0_2, .int .i64 a0_3] 42)).alloc (.cells #[.slice A1_0 l1_0.length c1_0] 31)).heap[w.heap.size+1]?=some (.cells #[.slice A1_0 l1_0.length c1_0] 31 (0,0)) by have h:=heap_alloc_new (w.alloc (.cells #[.int .i64 a0_0, .int .i64 a0_1, .int .i64 a0_2, .int .i64 a0_3] 42)) (.cells #[.slice A1_0 l1_0.length c1_0] 31);simpa only [World.size_alloc] using h)
 have HH:=am (show jja a0_0 a0_1=spN a0_0.toNat ++ rdOf ByteArray.empty jia a0_1 from rfl)
 generalize jja a0_0 a0_1=hd at *
 go_enter Tryd.func19,Tryd.ntmps19
 go_wp2
 refine wp_region_held (S:=(fun W':World=>W'.cell? ⟨w.heap.size,0,none⟩=some (.int .i64 a0_0)∧W'.cell? ⟨w.heap.size,1,none⟩=some (.int .i64 a0_1))) hmx ?_
 change wpAnyH _ _ _ _ _ _ _ _ (World.drew ((w.alloc (.cells #[.int .i64 a0_0, .int .i64 a0_1, .int .i64 a0_2, .int .i64 a0_3] 42)).alloc (.cells #[.slice A1_0 l1_0.length c1_0] 31)))
 have hS0:(fun W':World=>W'.cell? ⟨w.heap.size,0,none⟩=some (.int .i64 a0_0)∧W'.cell? ⟨w.heap.size,1,none⟩=some (.int .i64 a0_1)) (World.drew ((w.alloc (.cells #[.int .i64 a0_0, .int .i64 a0_1, .int .i64 a0_2, .int .i64 a0_3] 42)).alloc (.cells #[.slice A1_0 l1_0.length c1_0] 31))):=⟨lt0 BX,lt1 BX⟩
 refine wpAnyH_take (i:=0) (v:=?_) rfl (by kernel_rfl) (by kernel_rfl) (by kernel_rfl) (fun _ _ _ h=>h) (Or.inl ⟨by rfl,?_⟩) hS0 ?_
 rotate_left
 ·rintro W' ⟨s1,s2⟩
  go_simp
  with_reducible rfl
 refine wpAnyH_take (i:=1) (v:=?_) rfl (by kernel_rfl) (by kernel_rfl) (by kernel_rfl) (fun _ _ _ h=>h) (Or.inl ⟨by rfl,?_⟩) hS0 ?_
 rotate_left
 ·rintro W' ⟨s1,s2⟩
  go_simp
  with_reducible rfl
 refine wpAnyH_take (i:=4) (v:=?_) rfl (by kernel_rfl) (by kernel_rfl) (by kernel_rfl) (fun _ _ _ h=>h) (Or.inl ⟨by rfl,?_⟩) hS0 ?_
 rotate_left
 ·rintro W' ⟨s1,s2⟩
  go_simp
  with_reducible rfl
 refine wpAnyH_take (i:=5) (v:=?_) rfl (by kernel_rfl) (by kernel_rfl) (by kernel_rfl) (fun _ _ _ h=>h) (Or.inl ⟨by rfl,?_⟩) hS0 ?_
 rotate_left
 ·rintro W' ⟨s1,s2⟩
  go_simp
  with_reducible rfl
 refine wpAnyH_all (rs:=[2]) (by kernel_rfl) (by simp) ?_
 intro ii hii
 obtain rfl:ii=2:=by simpa using hii
 clear hii
 refine wpOp_step rfl (fun K hK=>?_)
 go_simp
 refine (jsb a0_0 g0 g1 _).mono ?_
 rintro e w3 ⟨rfl,hb3⟩
 have hS1:=And.intro (jk hb3 hS0.1) (jk hb3 hS0.2)
 have BX3:=ji BX hb3
 have BT3:=ji BT hb3
 have hB3:=jc (jJa hB2) hb3
 refine hK _ _ ⟨hS1,?_⟩
 clear hK K
 refine wpAnyH_all (rs:=[3]) (by kernel_rfl) (by simp) ?_
 intro ii hii
 obtain rfl:ii=3:=by simpa using hii
 clear hii
 refine wpOp_step rfl (fun K hK=>?_)
 go_simp
 refine (jHa.calls jia _ rfl).mono ?_
 rintro e w4 ⟨v,rfl,hR,hb4⟩
 obtain ⟨Ao,co,eo⟩:=Kd.jKa hR
 subst eo
 obtain ⟨ad,rfl,hx⟩:=Kd.jWa (Kd.jT hR).2.2 a0_1 g2 g3
 have hS2:=And.intro (jk hb4 hS1.1) (jk hb4 hS1.2)
 have BX4:=ji BX3 hb4
 have BT4:=ji BT3 hb4
 have hB4:=am (jc hB3 hb4)
 clear hR
 refine hK _ _ ⟨hS2,?_⟩
 clear hK K
 refine wpAnyH_take (i:=6) (v:=?_) rfl (by kernel_rfl) (by kernel_rfl) (by kernel_rfl) (fun _ _ _ h=>h) (Or.inl ⟨by rfl,?_⟩) hS2 ?_
 rotate_left
 ·rintro W' ⟨s1,s2⟩
  go_simp
  with_reducible rfl
 refine wpAnyH_all (rs:=[7]) (by kernel_rfl) (by simp) ?_
 intro ii hii
 obtain rfl:ii=7:=by simpa using hii
 clear hii
 refine wpOp_step rfl (fun K hK=>?_)
 go_simp
 refine hK _ _ ⟨hS2,?_⟩
 clear hK K
 refine wpAnyH_take (i:=8) (v:=?_) rfl (by kernel_rfl) (by kernel_rfl) (by kernel_rfl) (fun _ _ _ h=>h) (Or.inl ⟨by rfl,?_⟩) hS2 ?_
 rotate_left
 ·rintro W' ⟨s1,s2⟩
  go_simp
  with_reducible rfl
 refine wpAnyH_take (i:=9) (v:=?_) rfl (by kernel_rfl) (by kernel_rfl) (by kernel_rfl) (fun _ _ _ h=>h) (Or.inl ⟨by rfl,?_⟩) hS2 ?_
 rotate_left
 ·rintro W' ⟨s1,s2⟩
  go_simp
  with_reducible rfl
 refine wpAnyH_done (by kernel_rfl) ?_ _
 rename_i K9 hK9
 refine hK9 _ _ ?_
 clear hK9
 go_simp
 rw [← HH.out]
 have c0:=lt0 BX4
 have c1:=lt1 BX4
 have c2:=lt2 BX4
 have c3:=lt3 BX4
 have cT:=lt0 BT4
 clear hS0 hS1 hS2 BX BT BX3 BT3 hx hb3 hb4 hB2 hB3 HH
 go_wp2_with (go_at_call 36;refine (strconv_Itoa.calls _ _ _ HI.out).mono ?_;rintro e w' ⟨rfl,⟨nd,rfl⟩⟩)
 go_ret
 exact ⟨rfl,Y13⟩
set_option maxHeartbeats 8000000 in
set_option maxRecDepth 100000 in
theorem lt_except (a0_0 a0_1 a0_2 a0_3 : Int) (A1_0 : Option Addr) (c1_0 : Nat) (l1_0 : List (S63)) (N : ByteArray) (w : World) (hr1_0 : Kd.C k63 w A1_0 l1_0.length l1_0) (hc1_0 : l1_0.length ≤ c1_0) (g0 : 0 ≤ a0_0) (g1 : a0_0 ≤ 1000) (g2 : 0 ≤ a0_1) (g3 : a0_1 < (jia.length : Int)) (hk : a0_1 = 8) (f0 : 0 ≤ a0_2) (f1 : a0_2 < (l1_0.length : Int)) (hN : (jE l1_0 a0_2).f0 = N) (hNz : N.size ≤ 2000000) :
  Calls Tryd.prog 19 #[.agg #[.int .i64 a0_0, .int .i64 a0_1, .int .i64 a0_2, .int .i64 a0_3], .agg #[.slice A1_0 l1_0.length c1_0]] w fun e w'=>e=.returned (.string (jja a0_0 a0_1 ++ ((⟨#[32]⟩:ByteArray) ++ N)))∧Below w.heap.size w w':=by
 have hu31:=Tryd.underlying31
 have hu42:=Tryd.underlying42
 have hu63:=Tryd.underlying63
 have hmx:Tryd.prog.follows .mixedOrders=true:=by kernel_rfl
 have n1:=jZa a0_1
 have n2:=jzb a0_0.toNat
 have n3:(jja a0_0 a0_1).size≤1008:=by unfold jja;rw [ByteArray.size_append];omega
 have m0:(spN a0_0.toNat).size+(rdOf ByteArray.empty jia a0_1).size≤9223372036854775807:=by omega
 have m1:=ezT m0
 have m2:=dzT m0
 have m3:(9223372036854775807<(spN a0_0.toNat).size+(rdOf ByteArray.empty jia a0_1).size)=False:=eq_false (Nat.not_lt.2 m0)
 clear n1 n2
 have e1:(a0_1 == 1)=false:=by simp;omega
 have e4:(a0_1 == 4)=false:=by simp;omega
 have e11:(a0_1 == 11)=false:=by simp;omega
 have e12:(a0_1 == 12)=false:=by simp;omega
 have e2:(a0_1 == 2)=false:=by simp;omega
 have e8:(a0_1 == 8)=true:=by simpa using hk
 clear hk
 have z0:1+N.size≤9223372036854775807:=by omega
 have z1:=ezT z0
 have z2:=dzT z0
 have z3:(9223372036854775807<1+N.size)=False:=eq_false (Nat.not_lt.2 z0)
 have y0:(jja a0_0 a0_1).size+(1+N.size)≤9223372036854775807:=by omega
 have y1:=ezT y0
 have y2:=dzT y0
 have y3:(9223372036854775807<(jja a0_0 a0_1).size+(1+N.size))=False:=eq_false (Nat.not_lt.2 y0)
 have p2:=ezT f0
 have p3:=ezT f1
 have p0:=ezT g2
 have p1:=ezT g3
 have hB2:Below w.heap.size w ((w.alloc (.cells #[.int .i64 a0_0, .int .i64 a0_1, .int .i64 a0_2, .int .i64 a0_3] 42)).alloc (.cells #[.slice A1_0 l1_0.length c1_0] 31)):=((Below.refl w.heap.size w).alloc (Nat.le_refl _) _).alloc (by simp) _
 have BX:=jI (jJ (heap_alloc_new w (.cells #[.int .i64 a0_0, .int .i64 a0_1, .int .i64 a0_2, .int .i64 a0_3] 42)) (.cells #[.slice A1_0 l1_0.length c1_0] 31))
 have BT:=jI (show ((w.alloc (.cells #[.int .i64 a0_0, .int .i64 a0_1, .int .i64 a0_2, .int .i64 a0_3] 42)).alloc (.cells #[.slice A1_0 l1_0.length c1_0] 31)).heap[w.heap.size+1]?=some (.cells #[.slice A1_0 l1_0.length c1_0] 31 (0,0)) by have h:=heap_alloc_new (w.alloc (.cells #[.int .i64 a0_0, .int .i64 a0_1, .int .i64 a0_2, .int .i64 a0_3] 42)) (.cells #[.slice A1_0 l1_0.length c1_0] 31);simpa only [World.size_alloc] using h)
 have HH:=am (show jja a0_0 a0_1=spN a0_0.toNat ++ rdOf ByteArray.empty jia a0_1 from rfl)
 generalize jja a0_0 a0_1=hd at *
 go_enter Tryd.func19,Tryd.ntmps19
 go_wp2
 refine wp_region_held (S:=(fun W':World=>W'.cell? ⟨w.heap.size,0,none⟩=some (.int .i64 a0_0)∧W'.cell? ⟨w.heap.size,1,none⟩=some (.int .i64 a0_1))) hmx ?_
 change wpAnyH _ _ _ _ _ _ _ _ (World.drew ((w.alloc (.cells #[.int .i64 a0_0, .int .i64 a0_1, .int .i64 a0_2, .int .i64 a0_3] 42)).alloc (.cells #[.slice A1_0 l1_0.length c1_0] 31)))
 have hS0:(fun W':World=>W'.cell? ⟨w.heap.size,0,none⟩=some (.int .i64 a0_0)∧W'.cell? ⟨w.heap.size,1,none⟩=some (.int .i64 a0_1)) (World.drew ((w.alloc (.cells #[.int .i64 a0_0, .int .i64 a0_1, .int .i64 a0_2, .int .i64 a0_3] 42)).alloc (.cells #[.slice A1_0 l1_0.length c1_0] 31))):=⟨lt0 BX,lt1 BX⟩
 refine wpAnyH_take (i:=0) (v:=?_) rfl (by kernel_rfl) (by kernel_rfl) (by kernel_rfl) (fun _ _ _ h=>h) (Or.inl ⟨by rfl,?_⟩) hS0 ?_
 rotate_left
 ·rintro W' ⟨s1,s2⟩
  go_simp
  with_reducible rfl
 refine wpAnyH_take (i:=1) (v:=?_) rfl (by kernel_rfl) (by kernel_rfl) (by kernel_rfl) (fun _ _ _ h=>h) (Or.inl ⟨by rfl,?_⟩) hS0 ?_
 rotate_left
 ·rintro W' ⟨s1,s2⟩
  go_simp
  with_reducible rfl
 refine wpAnyH_take (i:=4) (v:=?_) rfl (by kernel_rfl) (by kernel_rfl) (by kernel_rfl) (fun _ _ _ h=>h) (Or.inl ⟨by rfl,?_⟩) hS0 ?_
 rotate_left
 ·rintro W' ⟨s1,s2⟩
  go_simp
  with_reducible rfl
 refine wpAnyH_take (i:=5) (v:=?_) rfl (by kernel_rfl) (by kernel_rfl) (by kernel_rfl) (fun _ _ _ h=>h) (Or.inl ⟨by rfl,?_⟩) hS0 ?_
 rotate_left
 ·rintro W' ⟨s1,s2⟩
  go_simp
  with_reducible rfl
 refine wpAnyH_all (rs:=[2]) (by kernel_rfl) (by simp) ?_
 intro ii hii
 obtain rfl:ii=2:=by simpa using hii
 clear hii
 refine wpOp_step rfl (fun K hK=>?_)
 go_simp
 refine (jsb a0_0 g0 g1 _).mono ?_
 rintro e w3 ⟨rfl,hb3⟩
 have hS1:=And.intro (jk hb3 hS0.1) (jk hb3 hS0.2)
 have BX3:=ji BX hb3
 have BT3:=ji BT hb3
 have hB3:=jc (jJa hB2) hb3
 refine hK _ _ ⟨hS1,?_⟩
 clear hK K
 refine wpAnyH_all (rs:=[3]) (by kernel_rfl) (by simp) ?_
 intro ii hii
 obtain rfl:ii=3:=by simpa using hii
 clear hii
 refine wpOp_step rfl (fun K hK=>?_)
 go_simp
 refine (jHa.calls jia _ rfl).mono ?_
 rintro e w4 ⟨v,rfl,hR,hb4⟩
 obtain ⟨Ao,co,eo⟩:=Kd.jKa hR
 subst eo
 obtain ⟨ad,rfl,hx⟩:=Kd.jWa (Kd.jT hR).2.2 a0_1 g2 g3
 have hS2:=And.intro (jk hb4 hS1.1) (jk hb4 hS1.2)
 have BX4:=ji BX3 hb4
 have BT4:=ji BT3 hb4
 have hB4:=am (jc hB3 hb4)
 clear hR
 refine hK _ _ ⟨hS2,?_⟩
 clear hK K
 refine wpAnyH_take (i:=6) (v:=?_) rfl (by kernel_rfl) (by kernel_rfl) (by kernel_rfl) (fun _ _ _ h=>h) (Or.inl ⟨by rfl,?_⟩) hS2 ?_
 rotate_left
 ·rintro W' ⟨s1,s2⟩
  go_simp
  with_reducible rfl
 refine wpAnyH_all (rs:=[7]) (by kernel_rfl) (by simp) ?_
 intro ii hii
 obtain rfl:ii=7:=by simpa using hii
 clear hii
 refine wpOp_step rfl (fun K hK=>?_)
 go_simp
 refine hK _ _ ⟨hS2,?_⟩
 clear hK K
 refine wpAnyH_take (i:=8) (v:=?_) rfl (by kernel_rfl) (by kernel_rfl) (by kernel_rfl) (fun _ _ _ h=>h) (Or.inl ⟨by rfl,?_⟩) hS2 ?_
 rotate_left
 ·rintro W' ⟨s1,s2⟩
  go_simp
  with_reducible rfl
 refine wpAnyH_take (i:=9) (v:=?_) rfl (by kernel_rfl) (by kernel_rfl) (by kernel_rfl) (fun _ _ _ h=>h) (Or.inl ⟨by rfl,?_⟩) hS2 ?_
 rotate_left
 ·rintro W' ⟨s1,s2⟩
  go_simp
  with_reducible rfl
 refine wpAnyH_done (by kernel_rfl) ?_ _
 rename_i K9 hK9
 refine hK9 _ _ ?_
 clear hK9
 go_simp
 rw [← HH.out]
 have c0:=lt0 BX4
 have c1:=lt1 BX4
 have c2:=lt2 BX4
 have c3:=lt3 BX4
 have cT:=lt0 BT4
 clear hS0 hS1 hS2 BX BT BX3 BT3 hx hb3 hb4 hB2 hB3 HH
 obtain ⟨ad2,rfl,y4,y5⟩:=jJb (Kd.jH hr1_0 hB4.out) a0_2 f0 f1
 rw [hN] at y4
 go_wp2
 go_ret
 exact ⟨rfl,Y13⟩
set_option maxHeartbeats 8000000 in
set_option maxRecDepth 100000 in
theorem lt_raise (a0_0 a0_1 a0_2 a0_3 : Int) (A1_0 : Option Addr) (c1_0 : Nat) (l1_0 : List (S63)) (N d : ByteArray) (w : World) (hr1_0 : Kd.C k63 w A1_0 l1_0.length l1_0) (hc1_0 : l1_0.length ≤ c1_0) (g0 : 0 ≤ a0_0) (g1 : a0_0 ≤ 1000) (g2 : 0 ≤ a0_1) (g3 : a0_1 < (jia.length : Int)) (hk : a0_1 = 2) (f0 : 0 ≤ a0_2) (f1 : a0_2 < (l1_0.length : Int)) (hN : (jE l1_0 a0_2).f0 = N) (hNz : N.size ≤ 2000000) (hi : strconv_Itoa.f a0_3 = some d) (hz : d.size ≤ 1000) :
  Calls Tryd.prog 19 #[.agg #[.int .i64 a0_0, .int .i64 a0_1, .int .i64 a0_2, .int .i64 a0_3], .agg #[.slice A1_0 l1_0.length c1_0]] w fun e w'=>e=.returned (.string ((jja a0_0 a0_1 ++ ((⟨#[32]⟩:ByteArray) ++ N)) ++ ((⟨#[32]⟩:ByteArray) ++ d)))∧Below w.heap.size w w':=by
 have hu31:=Tryd.underlying31
 have hu42:=Tryd.underlying42
 have hu63:=Tryd.underlying63
 have hmx:Tryd.prog.follows .mixedOrders=true:=by kernel_rfl
 have n1:=jZa a0_1
 have n2:=jzb a0_0.toNat
 have n3:(jja a0_0 a0_1).size≤1008:=by unfold jja;rw [ByteArray.size_append];omega
 have m0:(spN a0_0.toNat).size+(rdOf ByteArray.empty jia a0_1).size≤9223372036854775807:=by omega
 have m1:=ezT m0
 have m2:=dzT m0
 have m3:(9223372036854775807<(spN a0_0.toNat).size+(rdOf ByteArray.empty jia a0_1).size)=False:=eq_false (Nat.not_lt.2 m0)
 clear n1 n2
 have e1:(a0_1 == 1)=false:=by simp;omega
 have e4:(a0_1 == 4)=false:=by simp;omega
 have e11:(a0_1 == 11)=false:=by simp;omega
 have e12:(a0_1 == 12)=false:=by simp;omega
 have e2:(a0_1 == 2)=true:=by simpa using hk
 have e8:(a0_1 == 8)=false:=by simp;omega
 clear hk
 have HI:=am hi
 clear hi
 have z0:1+N.size≤9223372036854775807:=by omega
 have z1:=ezT z0
 have z2:=dzT z0
 have z3:(9223372036854775807<1+N.size)=False:=eq_false (Nat.not_lt.2 z0)
 have y0:(jja a0_0 a0_1).size+(1+N.size)≤9223372036854775807:=by omega
 have y1:=ezT y0
 have y2:=dzT y0
 have y3:(9223372036854775807<(jja a0_0 a0_1).size+(1+N.size))=False:=eq_false (Nat.not_lt.2 y0)
 have x0:1+d.size≤9223372036854775807:=by omega
 have x1:=ezT x0
 have x2:=dzT x0
 have x3:(9223372036854775807<1+d.size)=False:=eq_false (Nat.not_lt.2 x0)
 have v0:(jja a0_0 a0_1).size+(1+N.size)+(1+d.size)≤9223372036854775807:=by omega
 have v1:=ezT v0
 have v2:=dzT v0
 have v3:(9223372036854775807<(jja a0_0 a0_1).size+(1+N.size)+(1+d.size))=False:=eq_false (Nat.not_lt.2 v0)
 have p2:=ezT f0
 have p3:=ezT f1
 have p0:=ezT g2
 have p1:=ezT g3
 have hB2:Below w.heap.size w ((w.alloc (.cells #[.int .i64 a0_0, .int .i64 a0_1, .int .i64 a0_2, .int .i64 a0_3] 42)).alloc (.cells #[.slice A1_0 l1_0.length c1_0] 31)):=((Below.refl w.heap.size w).alloc (Nat.le_refl _) _).alloc (by simp) _
 have BX:=jI (jJ (heap_alloc_new w (.cells #[.int .i64 a0_0, .int .i64 a0_1, .int .i64 a0_2, .int .i64 a0_3] 42)) (.cells #[.slice A1_0 l1_0.length c1_0] 31))
 have BT:=jI (show ((w.alloc (.cells #[.int .i64 a0_0, .int .i64 a0_1, .int .i64 a0_2, .int .i64 a0_3] 42)).alloc (.cells #[.slice A1_0 l1_0.length c1_0] 31)).heap[w.heap.size+1]?=some (.cells #[.slice A1_0 l1_0.length c1_0] 31 (0,0)) by have h:=heap_alloc_new (w.alloc (.cells #[.int .i64 a0_0, .int .i64 a0_1, .int .i64 a0_2, .int .i64 a0_3] 42)) (.cells #[.slice A1_0 l1_0.length c1_0] 31);simpa only [World.size_alloc] using h)
 have HH:=am (show jja a0_0 a0_1=spN a0_0.toNat ++ rdOf ByteArray.empty jia a0_1 from rfl)
 generalize jja a0_0 a0_1=hd at *
 go_enter Tryd.func19,Tryd.ntmps19
 go_wp2
 refine wp_region_held (S:=(fun W':World=>W'.cell? ⟨w.heap.size,0,none⟩=some (.int .i64 a0_0)∧W'.cell? ⟨w.heap.size,1,none⟩=some (.int .i64 a0_1))) hmx ?_
 change wpAnyH _ _ _ _ _ _ _ _ (World.drew ((w.alloc (.cells #[.int .i64 a0_0, .int .i64 a0_1, .int .i64 a0_2, .int .i64 a0_3] 42)).alloc (.cells #[.slice A1_0 l1_0.length c1_0] 31)))
 have hS0:(fun W':World=>W'.cell? ⟨w.heap.size,0,none⟩=some (.int .i64 a0_0)∧W'.cell? ⟨w.heap.size,1,none⟩=some (.int .i64 a0_1)) (World.drew ((w.alloc (.cells #[.int .i64 a0_0, .int .i64 a0_1, .int .i64 a0_2, .int .i64 a0_3] 42)).alloc (.cells #[.slice A1_0 l1_0.length c1_0] 31))):=⟨lt0 BX,lt1 BX⟩
 refine wpAnyH_take (i:=0) (v:=?_) rfl (by kernel_rfl) (by kernel_rfl) (by kernel_rfl) (fun _ _ _ h=>h) (Or.inl ⟨by rfl,?_⟩) hS0 ?_
 rotate_left
 ·rintro W' ⟨s1,s2⟩
  go_simp
  with_reducible rfl
 refine wpAnyH_take (i:=1) (v:=?_) rfl (by kernel_rfl) (by kernel_rfl) (by kernel_rfl) (fun _ _ _ h=>h) (Or.inl ⟨by rfl,?_⟩) hS0 ?_
 rotate_left
 ·rintro W' ⟨s1,s2⟩
  go_simp
  with_reducible rfl
 refine wpAnyH_take (i:=4) (v:=?_) rfl (by kernel_rfl) (by kernel_rfl) (by kernel_rfl) (fun _ _ _ h=>h) (Or.inl ⟨by rfl,?_⟩) hS0 ?_
 rotate_left
 ·rintro W' ⟨s1,s2⟩
  go_simp
  with_reducible rfl
 refine wpAnyH_take (i:=5) (v:=?_) rfl (by kernel_rfl) (by kernel_rfl) (by kernel_rfl) (fun _ _ _ h=>h) (Or.inl ⟨by rfl,?_⟩) hS0 ?_
 rotate_left
 ·rintro W' ⟨s1,s2⟩
  go_simp
  with_reducible rfl
 refine wpAnyH_all (rs:=[2]) (by kernel_rfl) (by simp) ?_
 intro ii hii
 obtain rfl:ii=2:=by simpa using hii
 clear hii
 refine wpOp_step rfl (fun K hK=>?_)
 go_simp
 refine (jsb a0_0 g0 g1 _).mono ?_
 rintro e w3 ⟨rfl,hb3⟩
 have hS1:=And.intro (jk hb3 hS0.1) (jk hb3 hS0.2)
 have BX3:=ji BX hb3
 have BT3:=ji BT hb3
 have hB3:=jc (jJa hB2) hb3
 refine hK _ _ ⟨hS1,?_⟩
 clear hK K
 refine wpAnyH_all (rs:=[3]) (by kernel_rfl) (by simp) ?_
 intro ii hii
 obtain rfl:ii=3:=by simpa using hii
 clear hii
 refine wpOp_step rfl (fun K hK=>?_)
 go_simp
 refine (jHa.calls jia _ rfl).mono ?_
 rintro e w4 ⟨v,rfl,hR,hb4⟩
 obtain ⟨Ao,co,eo⟩:=Kd.jKa hR
 subst eo
 obtain ⟨ad,rfl,hx⟩:=Kd.jWa (Kd.jT hR).2.2 a0_1 g2 g3
 have hS2:=And.intro (jk hb4 hS1.1) (jk hb4 hS1.2)
 have BX4:=ji BX3 hb4
 have BT4:=ji BT3 hb4
 have hB4:=am (jc hB3 hb4)
 clear hR
 refine hK _ _ ⟨hS2,?_⟩
 clear hK K
 refine wpAnyH_take (i:=6) (v:=?_) rfl (by kernel_rfl) (by kernel_rfl) (by kernel_rfl) (fun _ _ _ h=>h) (Or.inl ⟨by rfl,?_⟩) hS2 ?_
 rotate_left
 ·rintro W' ⟨s1,s2⟩
  go_simp
  with_reducible rfl
 refine wpAnyH_all (rs:=[7]) (by kernel_rfl) (by simp) ?_
 intro ii hii
 obtain rfl:ii=7:=by simpa using hii
 clear hii
 refine wpOp_step rfl (fun K hK=>?_)
 go_simp
 refine hK _ _ ⟨hS2,?_⟩
 clear hK K
 refine wpAnyH_take (i:=8) (v:=?_) rfl (by kernel_rfl) (by kernel_rfl) (by kernel_rfl) (fun _ _ _ h=>h) (Or.inl ⟨by rfl,?_⟩) hS2 ?_
 rotate_left
 ·rintro W' ⟨s1,s2⟩
  go_simp
  with_reducible rfl
 refine wpAnyH_take (i:=9) (v:=?_) rfl (by kernel_rfl) (by kernel_rfl) (by kernel_rfl) (fun _ _ _ h=>h) (Or.inl ⟨by rfl,?_⟩) hS2 ?_
 rotate_left
 ·rintro W' ⟨s1,s2⟩
  go_simp
  with_reducible rfl
 refine wpAnyH_done (by kernel_rfl) ?_ _
 rename_i K9 hK9
 refine hK9 _ _ ?_
 clear hK9
 go_simp
 rw [← HH.out]
 have c0:=lt0 BX4
 have c1:=lt1 BX4
 have c2:=lt2 BX4
 have c3:=lt3 BX4
 have cT:=lt0 BT4
 clear hS0 hS1 hS2 BX BT BX3 BT3 hx hb3 hb4 hB2 hB3 HH
 obtain ⟨ad2,rfl,y4,y5⟩:=jJb (Kd.jH hr1_0 hB4.out) a0_2 f0 f1
 rw [hN] at y4
 go_wp2_with (go_at_call 36;refine (strconv_Itoa.calls _ _ _ HI.out).mono ?_;rintro e w' ⟨rfl,⟨nd,rfl⟩⟩)
 go_ret
 exact ⟨rfl,Y13⟩
set_option maxHeartbeats 8000000 in
set_option maxRecDepth 100000 in
theorem lt_plain (a0_0 a0_1 a0_2 a0_3 : Int) (A1_0 : Option Addr) (c1_0 : Nat) (l1_0 : List (S63)) (w : World) (hr1_0 : Kd.C k63 w A1_0 l1_0.length l1_0) (hc1_0 : l1_0.length ≤ c1_0) (g0 : 0 ≤ a0_0) (g1 : a0_0 ≤ 1000) (g2 : 0 ≤ a0_1) (g3 : a0_1 < (jia.length : Int)) (k1 : a0_1 ≠ 1) (k4 : a0_1 ≠ 4) (k11 : a0_1 ≠ 11) (k12 : a0_1 ≠ 12) (k2 : a0_1 ≠ 2) (k8 : a0_1 ≠ 8) :
  Calls Tryd.prog 19 #[.agg #[.int .i64 a0_0, .int .i64 a0_1, .int .i64 a0_2, .int .i64 a0_3], .agg #[.slice A1_0 l1_0.length c1_0]] w fun e w'=>e=.returned (.string (jja a0_0 a0_1))∧Below w.heap.size w w':=by
 have hu31:=Tryd.underlying31
 have hu42:=Tryd.underlying42
 have hu63:=Tryd.underlying63
 have hmx:Tryd.prog.follows .mixedOrders=true:=by kernel_rfl
 have n1:=jZa a0_1
 have n2:=jzb a0_0.toNat
 have n3:(jja a0_0 a0_1).size≤1008:=by unfold jja;rw [ByteArray.size_append];omega
 have m0:(spN a0_0.toNat).size+(rdOf ByteArray.empty jia a0_1).size≤9223372036854775807:=by omega
 have m1:=ezT m0
 have m2:=dzT m0
 have m3:(9223372036854775807<(spN a0_0.toNat).size+(rdOf ByteArray.empty jia a0_1).size)=False:=eq_false (Nat.not_lt.2 m0)
 clear n1 n2
 have e1:(a0_1 == 1)=false:=by simp;omega
 have e4:(a0_1 == 4)=false:=by simp;omega
 have e11:(a0_1 == 11)=false:=by simp;omega
 have e12:(a0_1 == 12)=false:=by simp;omega
 have e2:(a0_1 == 2)=false:=by simp;omega
 have e8:(a0_1 == 8)=false:=by simp;omega
 have p0:=ezT g2
 have p1:=ezT g3
 have hB2:Below w.heap.size w ((w.alloc (.cells #[.int .i64 a0_0, .int .i64 a0_1, .int .i64 a0_2, .int .i64 a0_3] 42)).alloc (.cells #[.slice A1_0 l1_0.length c1_0] 31)):=((Below.refl w.heap.size w).alloc (Nat.le_refl _) _).alloc (by simp) _
 have BX:=jI (jJ (heap_alloc_new w (.cells #[.int .i64 a0_0, .int .i64 a0_1, .int .i64 a0_2, .int .i64 a0_3] 42)) (.cells #[.slice A1_0 l1_0.length c1_0] 31))
 have BT:=jI (show ((w.alloc (.cells #[.int .i64 a0_0, .int .i64 a0_1, .int .i64 a0_2, .int .i64 a0_3] 42)).alloc (.cells #[.slice A1_0 l1_0.length c1_0] 31)).heap[w.heap.size+1]?=some (.cells #[.slice A1_0 l1_0.length c1_0] 31 (0,0)) by have h:=heap_alloc_new (w.alloc (.cells #[.int .i64 a0_0, .int .i64 a0_1, .int .i64 a0_2, .int .i64 a0_3] 42)) (.cells #[.slice A1_0 l1_0.length c1_0] 31);simpa only [World.size_alloc] using h)
 have HH:=am (show jja a0_0 a0_1=spN a0_0.toNat ++ rdOf ByteArray.empty jia a0_1 from rfl)
 generalize jja a0_0 a0_1=hd at *
 go_enter Tryd.func19,Tryd.ntmps19
 go_wp2
 refine wp_region_held (S:=(fun W':World=>W'.cell? ⟨w.heap.size,0,none⟩=some (.int .i64 a0_0)∧W'.cell? ⟨w.heap.size,1,none⟩=some (.int .i64 a0_1))) hmx ?_
 change wpAnyH _ _ _ _ _ _ _ _ (World.drew ((w.alloc (.cells #[.int .i64 a0_0, .int .i64 a0_1, .int .i64 a0_2, .int .i64 a0_3] 42)).alloc (.cells #[.slice A1_0 l1_0.length c1_0] 31)))
 have hS0:(fun W':World=>W'.cell? ⟨w.heap.size,0,none⟩=some (.int .i64 a0_0)∧W'.cell? ⟨w.heap.size,1,none⟩=some (.int .i64 a0_1)) (World.drew ((w.alloc (.cells #[.int .i64 a0_0, .int .i64 a0_1, .int .i64 a0_2, .int .i64 a0_3] 42)).alloc (.cells #[.slice A1_0 l1_0.length c1_0] 31))):=⟨lt0 BX,lt1 BX⟩
 refine wpAnyH_take (i:=0) (v:=?_) rfl (by kernel_rfl) (by kernel_rfl) (by kernel_rfl) (fun _ _ _ h=>h) (Or.inl ⟨by rfl,?_⟩) hS0 ?_
 rotate_left
 ·rintro W' ⟨s1,s2⟩
  go_simp
  with_reducible rfl
 refine wpAnyH_take (i:=1) (v:=?_) rfl (by kernel_rfl) (by kernel_rfl) (by kernel_rfl) (fun _ _ _ h=>h) (Or.inl ⟨by rfl,?_⟩) hS0 ?_
 rotate_left
 ·rintro W' ⟨s1,s2⟩
  go_simp
  with_reducible rfl
 refine wpAnyH_take (i:=4) (v:=?_) rfl (by kernel_rfl) (by kernel_rfl) (by kernel_rfl) (fun _ _ _ h=>h) (Or.inl ⟨by rfl,?_⟩) hS0 ?_
 rotate_left
 ·rintro W' ⟨s1,s2⟩
  go_simp
  with_reducible rfl
 refine wpAnyH_take (i:=5) (v:=?_) rfl (by kernel_rfl) (by kernel_rfl) (by kernel_rfl) (fun _ _ _ h=>h) (Or.inl ⟨by rfl,?_⟩) hS0 ?_
 rotate_left
 ·rintro W' ⟨s1,s2⟩
  go_simp
  with_reducible rfl
 refine wpAnyH_all (rs:=[2]) (by kernel_rfl) (by simp) ?_
 intro ii hii
 obtain rfl:ii=2:=by simpa using hii
 clear hii
 refine wpOp_step rfl (fun K hK=>?_)
 go_simp
 refine (jsb a0_0 g0 g1 _).mono ?_
 rintro e w3 ⟨rfl,hb3⟩
 have hS1:=And.intro (jk hb3 hS0.1) (jk hb3 hS0.2)
 have BX3:=ji BX hb3
 have BT3:=ji BT hb3
 have hB3:=jc (jJa hB2) hb3
 refine hK _ _ ⟨hS1,?_⟩
 clear hK K
 refine wpAnyH_all (rs:=[3]) (by kernel_rfl) (by simp) ?_
 intro ii hii
 obtain rfl:ii=3:=by simpa using hii
 clear hii
 refine wpOp_step rfl (fun K hK=>?_)
 go_simp
 refine (jHa.calls jia _ rfl).mono ?_
 rintro e w4 ⟨v,rfl,hR,hb4⟩
 obtain ⟨Ao,co,eo⟩:=Kd.jKa hR
 subst eo
 obtain ⟨ad,rfl,hx⟩:=Kd.jWa (Kd.jT hR).2.2 a0_1 g2 g3
 have hS2:=And.intro (jk hb4 hS1.1) (jk hb4 hS1.2)
 have BX4:=ji BX3 hb4
 have BT4:=ji BT3 hb4
 have hB4:=am (jc hB3 hb4)
 clear hR
 refine hK _ _ ⟨hS2,?_⟩
 clear hK K
 refine wpAnyH_take (i:=6) (v:=?_) rfl (by kernel_rfl) (by kernel_rfl) (by kernel_rfl) (fun _ _ _ h=>h) (Or.inl ⟨by rfl,?_⟩) hS2 ?_
 rotate_left
 ·rintro W' ⟨s1,s2⟩
  go_simp
  with_reducible rfl
 refine wpAnyH_all (rs:=[7]) (by kernel_rfl) (by simp) ?_
 intro ii hii
 obtain rfl:ii=7:=by simpa using hii
 clear hii
 refine wpOp_step rfl (fun K hK=>?_)
 go_simp
 refine hK _ _ ⟨hS2,?_⟩
 clear hK K
 refine wpAnyH_take (i:=8) (v:=?_) rfl (by kernel_rfl) (by kernel_rfl) (by kernel_rfl) (fun _ _ _ h=>h) (Or.inl ⟨by rfl,?_⟩) hS2 ?_
 rotate_left
 ·rintro W' ⟨s1,s2⟩
  go_simp
  with_reducible rfl
 refine wpAnyH_take (i:=9) (v:=?_) rfl (by kernel_rfl) (by kernel_rfl) (by kernel_rfl) (fun _ _ _ h=>h) (Or.inl ⟨by rfl,?_⟩) hS2 ?_
 rotate_left
 ·rintro W' ⟨s1,s2⟩
  go_simp
  with_reducible rfl
 refine wpAnyH_done (by kernel_rfl) ?_ _
 rename_i K9 hK9
 refine hK9 _ _ ?_
 clear hK9
 go_simp
 rw [← HH.out]
 have c0:=lt0 BX4
 have c1:=lt1 BX4
 have c2:=lt2 BX4
 have c3:=lt3 BX4
 have cT:=lt0 BT4
 clear hS0 hS1 hS2 BX BT BX3 BT3 hx hb3 hb4 hB2 hB3 HH
 go_wp2
 go_ret
 exact ⟨rfl,Y13⟩
theorem jOa.calls (a0_0 a0_1 a0_2 a0_3 : Int) (A1_0 : Option Addr) (c1_0 : Nat) (l1_0 : List (S63)) (r : ByteArray) (w : World) (hr1_0 : Kd.C k63 w A1_0 l1_0.length l1_0) (hc1_0 : l1_0.length ≤ c1_0) (h : jOa.f a0_0 a0_1 a0_2 a0_3 l1_0 = some r) :
  Calls Tryd.prog 19 #[.agg #[.int .i64 a0_0, .int .i64 a0_1, .int .i64 a0_2, .int .i64 a0_3], .agg #[.slice A1_0 l1_0.length c1_0]] w fun e w'=>e=.returned (.string r)∧Below w.heap.size w w':=by
 unfold jOa.f at h
 by_cases g:0≤a0_0∧a0_0≤1000
 case neg=>rw [if_neg g] at h;cases h
 rw [if_pos g] at h
 by_cases q:0≤a0_1∧a0_1<(jia.length:Int)
 case neg=>rw [if_neg q] at h;cases h
 rw [if_pos q] at h
 by_cases k1:a0_1=1∨a0_1=4∨a0_1=12
 ·rw [if_pos k1] at h
  obtain ⟨d,hi,h⟩:=bzS h
  by_cases hz:d.size≤1000
  case neg=>rw [if_neg hz] at h;cases h
  rw [if_pos hz] at h
  obtain rfl:=Option.some.inj h
  rcases k1 with k | k | k
  ·exact lt_num1 a0_0 a0_1 a0_2 a0_3 A1_0 c1_0 l1_0 d w hr1_0 hc1_0 g.1 g.2 q.1 q.2 k hi hz
  ·exact lt_num4 a0_0 a0_1 a0_2 a0_3 A1_0 c1_0 l1_0 d w hr1_0 hc1_0 g.1 g.2 q.1 q.2 k hi hz
  ·exact lt_num12 a0_0 a0_1 a0_2 a0_3 A1_0 c1_0 l1_0 d w hr1_0 hc1_0 g.1 g.2 q.1 q.2 k hi hz
 ·rw [if_neg k1] at h
  by_cases k11:a0_1=11
  ·rw [if_pos k11] at h
   obtain ⟨d,hi,h⟩:=bzS h
   by_cases hz:d.size≤1000
   case neg=>rw [if_neg hz] at h;cases h
   rw [if_pos hz] at h
   by_cases h3:a0_3=1
   ·rw [if_pos h3] at h
    obtain rfl:=Option.some.inj h
    exact lt_quiet a0_0 a0_1 a0_2 a0_3 A1_0 c1_0 l1_0 d w hr1_0 hc1_0 g.1 g.2 q.1 q.2 k11 h3 hi hz
   ·rw [if_neg h3] at h
    obtain rfl:=Option.some.inj h
    exact lt_with a0_0 a0_1 a0_2 a0_3 A1_0 c1_0 l1_0 d w hr1_0 hc1_0 g.1 g.2 q.1 q.2 k11 h3 hi hz
  ·rw [if_neg k11] at h
   by_cases k8:a0_1=8
   ·rw [if_pos k8] at h
    by_cases f0:0≤a0_2
    case neg=>rw [if_neg f0] at h;cases h
    rw [if_pos f0] at h
    by_cases f1:a0_2<(l1_0.length:Int)
    case neg=>rw [if_neg f1] at h;cases h
    rw [if_pos f1] at h
    by_cases f2:(jE l1_0 a0_2).f0.size≤2000000
    case neg=>rw [if_neg f2] at h;cases h
    rw [if_pos f2] at h
    obtain rfl:=Option.some.inj h
    exact lt_except a0_0 a0_1 a0_2 a0_3 A1_0 c1_0 l1_0 _ w hr1_0 hc1_0 g.1 g.2 q.1 q.2 k8 f0 f1 rfl f2
   ·rw [if_neg k8] at h
    by_cases k2:a0_1=2
    ·rw [if_pos k2] at h
     by_cases f0:0≤a0_2
     case neg=>rw [if_neg f0] at h;cases h
     rw [if_pos f0] at h
     by_cases f1:a0_2<(l1_0.length:Int)
     case neg=>rw [if_neg f1] at h;cases h
     rw [if_pos f1] at h
     by_cases f2:(jE l1_0 a0_2).f0.size≤2000000
     case neg=>rw [if_neg f2] at h;cases h
     rw [if_pos f2] at h
     obtain ⟨d,hi,h⟩:=bzS h
     by_cases hz:d.size≤1000
     case neg=>rw [if_neg hz] at h;cases h
     rw [if_pos hz] at h
     obtain rfl:=Option.some.inj h
     exact lt_raise a0_0 a0_1 a0_2 a0_3 A1_0 c1_0 l1_0 _ d w hr1_0 hc1_0 g.1 g.2 q.1 q.2 k2 f0 f1 rfl f2 hi hz
    ·rw [if_neg k2] at h
     obtain rfl:=Option.some.inj h
     exact lt_plain a0_0 a0_1 a0_2 a0_3 A1_0 c1_0 l1_0 w hr1_0 hc1_0 g.1 g.2 q.1 q.2 (fun e=>k1 (.inl e)) (fun e=>k1 (.inr (.inl e))) k11 (fun e=>k1 (.inr (.inr e))) k2 k8
def sh166_ren : Go.Shelf.Ren := ⟨fun | 166 => 18 | 240 => 33 | 276 => 57 | n => n, fun | 0 => 0 | 3 => 3 | 4 => 4 | 5 => 5 | 9 => 9 | 20 => 20 | 37 => 46 | 70 => 45 | 72 => 48 | 75 => 50 | 80 => 54 | 164 => 85 | n => n, fun | n => n⟩
theorem sh166 : Go.Proofs.Lays.n166 Tryd.prog sh166_ren := {
 mixed:=by kernel_rfl
 f166:=Tryd.func18.trans (congrArg some (by kernel_rfl))
 f240:=Tryd.func33.trans (congrArg some (by kernel_rfl))
 f276:=Tryd.func57.trans (congrArg some (by kernel_rfl))
 t0:=Tryd.underlying0
 a0:=Tryd.isAgg0
 z0:=Tryd.sizeOf0
 v0:=Tryd.zeroValue0
 t3:=Tryd.underlying3
 a3:=Tryd.isAgg3
 z3:=Tryd.sizeOf3
 v3:=Tryd.zeroValue3
 t4:=Tryd.underlying4
 a4:=Tryd.isAgg4
 z4:=Tryd.sizeOf4
 v4:=Tryd.zeroValue4
 t9:=Tryd.underlying9
 a9:=Tryd.isAgg9
 z9:=Tryd.sizeOf9
 v9:=Tryd.zeroValue9
 t20:=Tryd.underlying20
 a20:=Tryd.isAgg20
 z20:=Tryd.sizeOf20
 v20:=Tryd.zeroValue20
 t37:=Tryd.underlying46
 a37:=Tryd.isAgg46
 z37:=Tryd.sizeOf46
 v37:=Tryd.zeroValue46
 t70:=Tryd.underlying45
 a70:=Tryd.isAgg45
 z70:=Tryd.sizeOf45
 v70:=Tryd.zeroValue45
 t72:=Tryd.underlying48
 a72:=Tryd.isAgg48
 z72:=Tryd.sizeOf48
 v72:=Tryd.zeroValue48
 t75:=Tryd.underlying50
 a75:=Tryd.isAgg50
 z75:=Tryd.sizeOf50
 v75:=Tryd.zeroValue50
 t164:=Tryd.underlying85
 a164:=Tryd.isAgg85
 z164:=Tryd.sizeOf85
 v164:=Tryd.zeroValue85 }
def sh169_ren : Go.Shelf.Ren := ⟨fun | 169 => 20 | n => n, fun | 70 => 45 | 9 => 9 | 0 => 0 | 72 => 48 | 37 => 46 | 127 => 72 | 3 => 3 | 5 => 5 | n => n, fun | n => n⟩
theorem sh169 : Go.Proofs.Lays.n169 Tryd.prog sh169_ren := {
 mixed:=by kernel_rfl
 f169:=Tryd.func20.trans (congrArg some (by kernel_rfl))
 t0:=Tryd.underlying0
 a0:=Tryd.isAgg0
 z0:=Tryd.sizeOf0
 v0:=Tryd.zeroValue0
 t3:=Tryd.underlying3
 a3:=Tryd.isAgg3
 z3:=Tryd.sizeOf3
 v3:=Tryd.zeroValue3
 t9:=Tryd.underlying9
 a9:=Tryd.isAgg9
 z9:=Tryd.sizeOf9
 v9:=Tryd.zeroValue9
 t37:=Tryd.underlying46
 a37:=Tryd.isAgg46
 z37:=Tryd.sizeOf46
 v37:=Tryd.zeroValue46
 t70:=Tryd.underlying45
 a70:=Tryd.isAgg45
 z70:=Tryd.sizeOf45
 v70:=Tryd.zeroValue45
 t72:=Tryd.underlying48
 a72:=Tryd.isAgg48
 z72:=Tryd.sizeOf48
 v72:=Tryd.zeroValue48
 t127:=Tryd.underlying72
 a127:=Tryd.isAgg72
 z127:=Tryd.sizeOf72
 v127:=Tryd.zeroValue72 }
theorem shX166 : Go.Proofs.Builder.Extra Tryd.prog sh166_ren := { sizeBuilder := by kernel_rfl, liesBuilder := by kernel_rfl, t5 := Tryd.underlying5, a5 := Tryd.isAgg5, z5 := Tryd.sizeOf5, v5 := Tryd.zeroValue5, infoByte := by kernel_rfl, cellsByte := by kernel_rfl, sizeByte := by kernel_rfl, neB5 := by decide }
theorem shX169 : Go.Proofs.Builder.Extra Tryd.prog sh169_ren := { sizeBuilder := by kernel_rfl, liesBuilder := by kernel_rfl, t5 := Tryd.underlying5, a5 := Tryd.isAgg5, z5 := Tryd.sizeOf5, v5 := Tryd.zeroValue5, infoByte := by kernel_rfl, cellsByte := by kernel_rfl, sizeByte := by kernel_rfl, neB5 := by decide }
theorem ownsRow_belowB {W W' : World} {base : Nat} {e : TypeId} {size : Nat} {v : Value} {k : Nat} {xs : List Value} (h : W.ownsRow base e size v k xs) (hb : Below W.heap.size W W') : W'.ownsRow base e size v k xs := by
 refine ⟨h.1,?_⟩
 rcases h.2 with h0 | ⟨g,cap,cur,hv,hg,hgb,rest⟩
 ·exact .inl h0
 ·exact .inr ⟨g,cap,cur,hv,hg,(hb.block g (Array.getElem?_eq_some_iff.1 hgb).1).trans hgb,rest⟩
theorem builder_below {T e : TypeId} {B b : Nat} {bs : List Value} {W W' : World} (h : Lib.IsBuilder T e B b bs W) (hb : Below W.heap.size W W') : Lib.IsBuilder T e B b bs W' := by
 rcases h with ⟨h1,v,h2,h3,h4⟩ | ⟨h1,v,h2,h3,h4⟩
 ·exact .inl ⟨h1,v,(hb.block b (Array.getElem?_eq_some_iff.1 h2).1).trans h2,ownsRow_belowB h3 hb,h4⟩
 ·exact .inr ⟨h1,v,(hb.block b (Array.getElem?_eq_some_iff.1 h2).1).trans h2,ownsRow_belowB h3 hb,h4⟩
theorem builder_write (B b : Nat) (l : List UInt8) (s : ByteArray) (w : World) (h : Lib.IsBuilder 48 5 B b (Lib.byteCells l) w) (hlen : l.length + s.size ≤ 140737488355328) (hBw : B ≤ w.heap.size) :
  Calls Tryd.prog 18 #[.pointer (some ⟨b,0,none⟩), .string s] w fun e w'=>e=.returned (.tuple #[.int .i64 s.size, .nilIface])∧Lib.IsBuilder 48 5 B b (Lib.byteCells (l ++ s.data.toList)) w'∧Below B w w':=by
 have hs:=Go.Proofs.Any.Builder_WriteString sh166 shX166 B b (Lib.byteCells l) s w h (by rw [Lib.byteCells_length];exact hlen) hBw
 refine Calls.mono (show Calls Tryd.prog 18 _ w _ from hs) ?_
 rintro e w' ⟨rfl,h2,h3⟩
 refine ⟨rfl,?_,h3⟩
 have e2:Lib.byteCells (l ++ s.data.toList)=Lib.byteCells l ++ Lib.strCells s:=by simp [Lib.byteCells,Lib.strCells]
 rw [e2]
 exact .inr h2
theorem builder_string (B b : Nat) (l : List UInt8) (w : World) (h : Lib.IsBuilder 48 5 B b (Lib.byteCells l) w) (hBw : B ≤ w.heap.size) :
  Calls Tryd.prog 20 #[.pointer (some ⟨b,0,none⟩)] w fun e w'=>e=.returned (.string ⟨l.toArray⟩)∧Below B w w' :=
 Calls.mono (show Calls Tryd.prog 20 _ w _ from Go.Proofs.Any.Builder_String_any sh169 shX169 B b l w h hBw) (fun _ _ h=>h)
def lnAll (k : Nat) (t : List S63) : List S42 → Option (List UInt8)
 | []=>some []
 | x :: r=>(jOa.f x.f0 x.f1 x.f2 x.f3 t).bind fun s=>if s.size≤2000000 then (lnAll k t r).bind fun b=>some ((s ++ (⟨#[10]⟩:ByteArray)).data.toList ++ b) else none
def jka.f (k : Nat) (l0_0 : List S63) (l1 : List S42) : Option ByteArray := (jo.f k l0_0 l1).bind fun v => if v = true then (if l1.length ≤ 1000000 then (lnAll k l0_0 l1).bind fun b => some ⟨b.toArray⟩ else none) else some ⟨#[]⟩
theorem ln_c0 {w : World} {b : Nat} {v : Value} {l : List Value} {t : TypeId} (h : w.heap[b]? = some (.cells ⟨v :: l⟩ t (0, 0))) : w.cell? ⟨b, 0, none⟩ = some v := (joa h 0).trans rfl
theorem lnAll_cut {k : Nat} {t : List S63} {l : List S42} {i : Nat} {rest : List UInt8} (hi : i < l.length) (h : lnAll k t (l.drop i) = some rest) :
  ∃ s,jOa.f (jb l (i:Int)).f0 (jb l (i:Int)).f1 (jb l (i:Int)).f2 (jb l (i:Int)).f3 t=some s∧s.size≤2000000∧∃ rest2,lnAll k t (l.drop (i+1))=some rest2∧rest=(s ++ (⟨#[10]⟩:ByteArray)).data.toList ++ rest2:=by
 have hr:jb l (i:Int)=l[i]:=by simp [jb,List.getD_eq_getElem?_getD,hi]
 rw [List.drop_eq_getElem_cons hi,← hr] at h
 simp only [lnAll] at h
 obtain ⟨s,h1,h⟩:=bzS h
 by_cases hs:s.size≤2000000
 ·rw [if_pos hs] at h
  obtain ⟨r2,h2,h3⟩:=bzS h
  exact ⟨s,h1,hs,r2,h2,(Option.some.inj h3).symm⟩
 ·rw [if_neg hs] at h;cases h
set_option maxHeartbeats 8000000 in
set_option maxRecDepth 100000 in
theorem jka.calls (k : Nat) (A0_0 : Option Addr) (c0_0 : Nat) (l0_0 : List (S63)) (A1 : Option Addr) (c1 : Nat) (l1 : List (S42)) (r : ByteArray) (w : World) (hr0_0 : Kd.C k63 w A0_0 l0_0.length l0_0) (hc0_0 : l0_0.length ≤ c0_0) (hr1 : Kd.C k42 w A1 l1.length l1) (hc1 : l1.length ≤ c1) (h : jka.f k l0_0 l1 = some r) :
  Calls Tryd.prog 9 #[.agg #[.slice A0_0 l0_0.length c0_0], .slice A1 l1.length c1] w fun e w'=>e=.returned (.string r)∧Below w.heap.size w w':=by
 obtain ⟨v,hv,h⟩:=bzS h
 have hu31:=Tryd.underlying31
 have hu42:=Tryd.underlying42
 have hus:=Tryd.underlying48
 have HR0:=am hr0_0
 have HR1:=am hr1
 have HV:=am (fun W (hb:Below w.heap.size w W)=>jo.calls k A0_0 c0_0 l0_0 A1 c1 l1 v W (Kd.jH hr0_0 hb) hc0_0 (Kd.jH hr1 hb) hc1 hv)
 have HB:=am ((Below.refl w.heap.size w).alloc (Nat.le_refl _) (.cells #[.slice A0_0 l0_0.length c0_0] 31))
 have BT:=am (heap_alloc_new w (.cells #[.slice A0_0 l0_0.length c0_0] 31))
 cases v with
 | false =>
  rw [if_neg (by simp)] at h
  obtain rfl:=Option.some.inj h
  clear hv hr0_0 hr1
  go_enter Tryd.func9,Tryd.ntmps9
  go_wp2_with (go_at_call 17;refine (HV.out _ HB.out).mono ?_;rintro e w1 ⟨rfl,hb2⟩;have hb1:=jK HB.out HB.out.size hb2)
  go_ret
  exact ⟨rfl,hb1⟩
 | true =>
  rw [if_pos rfl] at h
  by_cases hlen:l1.length≤1000000
  case neg=>rw [if_neg hlen] at h;cases h
  rw [if_pos hlen] at h
  obtain ⟨all,hall,h⟩:=bzS h
  have HZ:=am (Option.some.inj h)
  have HA:=am hall
  clear hv hr0_0 hr1 h hall
  go_enter Tryd.func9,Tryd.ntmps9
  go_wp2_with (go_at_call 17;refine (HV.out _ HB.out).mono ?_;rintro e w1 ⟨rfl,hb2⟩;have n0_:=am (ji (g:=w.heap.size) (o:=.cells #[.slice A0_0 l0_0.length c0_0] 31 (0,0)) BT.out hb2);have n1_:=am (jc HB.out hb2);clear BT HB HV hb2;have BT:=n0_;have HB:=n1_;clear n0_ n1_)
  have HI:=am (Lib.fresh_isBuilder 48 5 w1)
  have HB1:=am (show Below w.heap.size w (w1.alloc (.cells #[.pointer none, .slice none 0 0] 48)) from HB.out.alloc (jP HB.out) _)
  have BT1:=am (jJ BT.out (.cells #[.pointer none, .slice none 0 0] 48))
  have hW1:=jP HB.out
  have hTl:w.heap.size<w1.heap.size:=jEa BT.out
  obtain ⟨b,hb⟩:∃ b,b=w1.heap.size:=⟨_,rfl⟩
  have HBs:=am hb
  clear HB BT
  go_loopw [14] (fun v14 wr=>∃ i:Nat,i≤l1.length∧v14=.int .i64 i∧jD (∃ acc rest,lnAll k l0_0 (l1.drop i)=some rest∧acc ++ rest=all∧acc.length≤2000001 * i∧Lib.IsBuilder 48 5 w1.heap.size w1.heap.size (Lib.byteCells acc) wr)∧jD (wr.heap[w.heap.size]?=some (.cells #[.slice A0_0 l0_0.length c0_0] 31 (0,0)))∧jD (Below w.heap.size w wr)∧w1.heap.size<wr.heap.size) (fun v14 _=>l1.length - (intOf v14).toNat)
  case atStart=>exact ⟨0,Nat.zero_le _,rfl,⟨[],all,HA.out,rfl,Nat.zero_le _,HI.out⟩,BT1,HB1,by simp⟩
  case round =>
   clear HA HI HB1 BT1
   obtain ⟨i,hi,rfl,HA,BT,HB,hwb⟩:=hrel
   obtain ⟨acc,rest,hA1,hA2,hA3,hA4⟩:=HA.out
   clear HA
   have cT:=ln_c0 BT.out
   by_cases hlt:i<l1.length
   ·obtain ⟨ad,rfl,x0,x1,x2,x3⟩:=jla (Kd.jH HR1.out HB.out) (i:Int) (by omega) (by omega)
    rw [Int.toNat_natCast] at x0 x1 x2 x3
    obtain ⟨s,hs1,hs2,rest2,hs3,hs4⟩:=lnAll_cut hlt hA1
    have hlb:=ezT (show (i:Int)<(l1.length:Int) by omega)
    have hTw:w.heap.size<wr.heap.size:=jEa BT.out
    have z0:s.size+1≤9223372036854775807:=by omega
    have z1:=ezT z0
    have z2:=dzT z0
    have z3:(9223372036854775807<s.size+1)=False:=eq_false (Nat.not_lt.2 z0)
    have hsz:(s ++ (⟨#[10]⟩:ByteArray)).size=s.size+1:=by rw [ByteArray.size_append];rfl
    have HI:=am hA4
    have HL:=am (show acc.length+(s ++ (⟨#[10]⟩:ByteArray)).size≤140737488355328 by rw [hsz];omega)
    have HN:=am (show ∃ rest,lnAll k l0_0 (l1.drop (i+1))=some rest∧(acc ++ (s ++ (⟨#[10]⟩:ByteArray)).data.toList) ++ rest=all∧(acc ++ (s ++ (⟨#[10]⟩:ByteArray)).data.toList).length≤2000001 * (i+1) from ⟨rest2,hs3,by rw [← hA2,hs4,List.append_assoc],by rw [List.length_append,show (s ++ (⟨#[10]⟩:ByteArray)).data.toList.length=(s ++ (⟨#[10]⟩:ByteArray)).size from rfl,hsz];omega⟩)
    have HT:=am (fun W (hb:Below w.heap.size w W)=>jOa.calls (jb l1 (i:Int)).f0 (jb l1 (i:Int)).f1 (jb l1 (i:Int)).f2 (jb l1 (i:Int)).f3 A0_0 c0_0 l0_0 s W (Kd.jH HR0.out hb) hc0_0 hs1)
    clear hA1 hA2 hA3 hA4 hs1 hs2 hs3 hs4 z0 hsz
    go_wp2_with (first |(go_at_call 19;refine (HT.out _ (bq)).mono ?_;rintro e w2 ⟨rfl,hb2⟩;have n0_:=am (ji (g:=w.heap.size) (o:=.cells #[.slice A0_0 l0_0.length c0_0] 31 (0,0)) (kq BT.out) hb2);have n1_:=am (jc (bq) hb2);have n2_:=am (builder_below (builder_below HI.out (jA (Below.refl wr.heap.size wr) (.cells #[.int .i64 (jb l1 (i:Int)).f0, .int .i64 (jb l1 (i:Int)).f1, .int .i64 (jb l1 (i:Int)).f2, .int .i64 (jb l1 (i:Int)).f3] 42))) hb2);have n3_:w1.heap.size<w2.heap.size:=Nat.lt_of_lt_of_le hwb (Nat.le_trans (by simp) hb2.size);clear BT HB HI HT hb2;have BT:=n0_;have HB:=n1_;have HI:=n2_;clear n0_ n1_ n2_) |(go_at_call 18;refine (builder_write _ _ _ _ _ HI.out HL.out (Nat.le_of_lt n3_)).mono ?_;rintro e w3 ⟨rfl,hI3,hb3⟩;have n0_:=am ((hb3.block w.heap.size hTl).trans BT.out);have n1_:=am (HB.out.trans (hb3.mono hW1));have n4_:w1.heap.size<w3.heap.size:=Nat.lt_of_lt_of_le n3_ hb3.size;have n2_:=am hI3;clear BT HB HI hb3 hI3;have BT:=n0_;have HB:=n1_;have HI:=n2_;clear n0_ n1_ n2_))
    go_roundw
    case rel=>exact ⟨i+1,hlt,by go_num,⟨_,HN.out.choose,HN.out.choose_spec.1,HN.out.choose_spec.2.1,HN.out.choose_spec.2.2,HI.out⟩,BT,HB,n4_⟩
    case measure=>simp [intOf];omega
   ·obtain rfl:i=l1.length:=by omega
    rw [List.drop_eq_nil_of_le (Nat.le_refl _)] at hA1
    have e1:rest=[]:=by simpa [lnAll] using hA1.symm
    subst e1
    rw [List.append_nil] at hA2
    subst hA2
    have hlb:=eq_false (show ¬ ((l1.length:Int)<(l1.length:Int)) by omega)
    have HI:=am hA4
    clear hA1 hA3 hA4
    go_wp2_with (go_at_call 20;refine (builder_string _ _ _ _ HI.out (Nat.le_of_lt hwb)).mono ?_;rintro e w3 ⟨rfl,hb3⟩;have n1_:=am (HB.out.trans (hb3.mono hW1)))
    go_ret
    exact ⟨by rw [HZ.out];rfl,n1_.out⟩
def jgb.f (a0_0 : ByteArray) (a0_1 : Int) (a1_0 : ByteArray) (a1_1 : Int) : Option (Bool) := if a0_0.toList = a1_0.toList then (if a0_1 = a1_1 then (some true) else (some false)) else (some false)
set_option maxHeartbeats 8000000 in
set_option maxRecDepth 100000 in
theorem jgb.calls (a0_0 : ByteArray) (a0_1 : Int) (a1_0 : ByteArray) (a1_1 : Int) (r : Bool) (w : World) (h : jgb.f a0_0 a0_1 a1_0 a1_1 = some r) :
  Calls Tryd.prog 37 #[.agg #[.string a0_0, .int .i64 a0_1], .agg #[.string a1_0, .int .i64 a1_1]] w fun e w'=>e=.returned (.bool r)∧Below w.heap.size w w':=by
 have hu63:=Tryd.underlying63
 have HB:=am (Below.refl w.heap.size w)
 have H:(if a0_0.toList=a1_0.toList then (if a0_1=a1_1 then (some true) else (some false)) else (some false))=some r:=h
 clear h
 by_cases c3:a0_0.toList=a1_0.toList
 ·rw [if_pos c3] at H
  have c3b0:(a0_0.toList == a1_0.toList)=true:=beq_iff_eq.mpr c3
  have c3b1:(a0_0.toList != a1_0.toList)=false:=bne_eq_false_iff_eq.mpr c3
  clear c3
  by_cases c4:a0_1=a1_1
  ·rw [if_pos c4] at H
   have c4b0:(a0_1 == a1_1)=true:=beq_iff_eq.mpr c4
   have c4b1:(a0_1 != a1_1)=false:=bne_eq_false_iff_eq.mpr c4
   clear c4
   obtain rfl:=Option.some.inj H
   go_enter Tryd.func37,Tryd.ntmps37
   go_wp2_with (first |((with_reducible refine jN (N:=2) rfl ?_);refine bE (N:=2) (cs:=#[.string a0_0, .int .i64 a0_1]) (t:=63) ?_;intro gb281 hg w5 hbox hb;have BK281:=am (hbox);have GW281:=am ((Y1:w.heap.size≤gb281));have GE281:=am ((Y1:w.heap.size≤gb281));replace HB:=am (jc (bq) hb);clear hb hbox hg) |((with_reducible refine jN (N:=3) rfl ?_);refine bE (N:=3) (cs:=#[.string a1_0, .int .i64 a1_1]) (t:=63) ?_;intro gb282 hg w6 hbox hb;have BK282:=am (hbox);have GW282:=am ((Y17:w.heap.size≤gb282));have GE282:=am ((Y17:w.heap.size≤gb282));have NB281_282:=am ((Y29:gb281≠gb282));have NB282_281:=am ((Y30:gb282≠gb281));replace BK281:=am (ji (g:=gb281) (o:=.cells #[.string a0_0, .int .i64 a0_1] 63 (0,0)) (kq BK281.out) hb);replace HB:=am (jc (Y31) hb);clear hb hbox hg;have hnb7:=NB281_282.out;have hnc7:=NB282_281.out;have hcz8_0:=bc0 BK281.out;have hcz8_1:=bc1 BK281.out;have hfz8_0:=ja BK281.out 0;have hfz8_1:=ja BK281.out 1;have hcz9_0:=bc0 BK282.out;have hcz9_1:=bc1 BK282.out;have hfz9_0:=ja BK282.out 0;have hfz9_1:=ja BK282.out 1))
   go_ret
   exact ⟨Y0,Y32⟩
  ·rw [if_neg c4] at H
   have c4b0:(a0_1 == a1_1)=false:=beq_eq_false_iff_ne.mpr c4
   have c4b1:(a0_1 != a1_1)=true:=bne_iff_ne.mpr c4
   obtain rfl:=Option.some.inj H
   go_enter Tryd.func37,Tryd.ntmps37
   go_wp2_with (first |((with_reducible refine jN (N:=2) rfl ?_);refine bE (N:=2) (cs:=#[.string a0_0, .int .i64 a0_1]) (t:=63) ?_;intro gb281 hg w10 hbox hb;have BK281:=am (hbox);have GW281:=am ((Y1:w.heap.size≤gb281));have GE281:=am ((Y1:w.heap.size≤gb281));replace HB:=am (jc (bq) hb);clear hb hbox hg) |((with_reducible refine jN (N:=3) rfl ?_);refine bE (N:=3) (cs:=#[.string a1_0, .int .i64 a1_1]) (t:=63) ?_;intro gb282 hg w11 hbox hb;have BK282:=am (hbox);have GW282:=am ((Y17:w.heap.size≤gb282));have GE282:=am ((Y17:w.heap.size≤gb282));have NB281_282:=am ((Y29:gb281≠gb282));have NB282_281:=am ((Y30:gb282≠gb281));replace BK281:=am (ji (g:=gb281) (o:=.cells #[.string a0_0, .int .i64 a0_1] 63 (0,0)) (kq BK281.out) hb);replace HB:=am (jc (Y31) hb);clear hb hbox hg;have hnb12:=NB281_282.out;have hnc12:=NB282_281.out;have hcz13_0:=bc0 BK281.out;have hcz13_1:=bc1 BK281.out;have hfz13_0:=ja BK281.out 0;have hfz13_1:=ja BK281.out 1;have hcz14_0:=bc0 BK282.out;have hcz14_1:=bc1 BK282.out;have hfz14_0:=ja BK282.out 0;have hfz14_1:=ja BK282.out 1))
   go_ret
   exact ⟨Y0,Y32⟩
 ·rw [if_neg c3] at H
  have c3b0:(a0_0.toList == a1_0.toList)=false:=beq_eq_false_iff_ne.mpr c3
  have c3b1:(a0_0.toList != a1_0.toList)=true:=bne_iff_ne.mpr c3
  obtain rfl:=Option.some.inj H
  go_enter Tryd.func37,Tryd.ntmps37
  go_wp2_with (first |((with_reducible refine jN (N:=2) rfl ?_);refine bE (N:=2) (cs:=#[.string a0_0, .int .i64 a0_1]) (t:=63) ?_;intro gb281 hg w15 hbox hb;have BK281:=am (hbox);have GW281:=am ((Y1:w.heap.size≤gb281));have GE281:=am ((Y1:w.heap.size≤gb281));replace HB:=am (jc (bq) hb);clear hb hbox hg) |((with_reducible refine jN (N:=3) rfl ?_);refine bE (N:=3) (cs:=#[.string a1_0, .int .i64 a1_1]) (t:=63) ?_;intro gb282 hg w16 hbox hb;have BK282:=am (hbox);have GW282:=am ((Y17:w.heap.size≤gb282));have GE282:=am ((Y17:w.heap.size≤gb282));have NB281_282:=am ((Y29:gb281≠gb282));have NB282_281:=am ((Y30:gb282≠gb281));replace BK281:=am (ji (g:=gb281) (o:=.cells #[.string a0_0, .int .i64 a0_1] 63 (0,0)) (kq BK281.out) hb);replace HB:=am (jc (Y31) hb);clear hb hbox hg;have hnb17:=NB281_282.out;have hnc17:=NB282_281.out;have hcz18_0:=bc0 BK281.out;have hcz18_1:=bc1 BK281.out;have hfz18_0:=ja BK281.out 0;have hfz18_1:=ja BK281.out 1;have hcz19_0:=bc0 BK282.out;have hcz19_1:=bc1 BK282.out;have hfz19_0:=ja BK282.out 0;have hfz19_1:=ja BK282.out 1))
  go_ret
  exact ⟨Y0,Y32⟩
def jM.l0 : Nat → List (S63) → List (S63) → Int → Option (Bool)
 | 0,_,_,_=>none
 | k+1,x0,x1,x5=>if x5<(x0.length:Int) then (if 0≤x5 then (if x5<(x1.length:Int) then ((jgb.f ((jE x0 x5).f0) ((jE x0 x5).f1) ((jE x1 x5).f0) ((jE x1 x5).f1)).bind fun t285=>(if t285=true then (jM.l0 k x0 x1 (wrap64 (x5+1))) else (some false))) else (none)) else (none)) else (some true)
def jM.f (k : Nat) (l0 : List (S63)) (l1 : List (S63)) : Option (Bool) := if (l0.length : Int) = (l1.length : Int) then (jM.l0 k l0 l1 0) else (some false)
def jM.T6 : Bool × List (List Nat × List Nat) := (true, [([], []), ([], []), ([0, 1], [0, 1]), ([2], [2]), ([], []), ([], []), ([4, 5], [4, 5]), ([6], [6]), ([3, 7], [3, 7]), ([8], [8])])
def jM.B6 : List Nat := [0, 0, 3, 7, 0, 0, 48, 112, 255, 511]
theorem jM.tab6 : rtab .any (opsOf Tryd.f21 6) = jM.T6 := by kernel_rfl
theorem jM.bits6 : waitsOk jM.T6.2 jM.B6 = true := by kernel_rfl
set_option maxHeartbeats 8000000 in
set_option maxRecDepth 100000 in
theorem jM.calls (k : Nat) (A0 : Option Addr) (c0 : Nat) (l0 : List (S63)) (A1 : Option Addr) (c1 : Nat) (l1 : List (S63)) (r : Bool) (w : World) (hr0 : Kd.C k63 w A0 l0.length l0) (hc0 : l0.length ≤ c0) (hr1 : Kd.C k63 w A1 l1.length l1) (hc1 : l1.length ≤ c1) (h : jM.f k l0 l1 = some r) :
  Calls Tryd.prog 21 #[.slice A0 l0.length c0, .slice A1 l1.length c1] w fun e w'=>e=.returned (.bool r)∧Below w.heap.size w w':=by
 have hu63:=Tryd.underlying63
 have HR0:=am hr0
 have HC0:=am hc0
 clear hr0 hc0
 have HR1:=am hr1
 have HC1:=am hc1
 clear hr1 hc1
 have HB:=am (Below.refl w.heap.size w)
 have H:(if (l0.length:Int)=(l1.length:Int) then (jM.l0 k l0 l1 0) else (some false))=some r:=h
 clear h
 by_cases c3:(l0.length:Int)=(l1.length:Int)
 ·rw [if_pos c3] at H
  have c3b0:((l0.length:Int) == (l1.length:Int))=true:=beq_iff_eq.mpr c3
  have c3b1:((l0.length:Int) != (l1.length:Int))=false:=bne_eq_false_iff_eq.mpr c3
  have c3b2:(l0.length == l1.length)=true:=by first | simpa using c3 |(simp at c3 ⊢;omega)
  clear c3
  have H':=am H
  clear H
  go_enter Tryd.func21,Tryd.ntmps21
  go_wp2
  go_loopg [5] k (fun kq v5 w'=>∃ (x5_1:Int),v5=.int .i64 x5_1∧jD (jM.l0 kq l0 l1 x5_1=some r)∧jD (kq≤k)∧jD (Below w.heap.size w w'))
  case atStart=>exact ⟨(0),(sq),H',⟨Nat.le_refl _⟩,⟨bq⟩⟩
  case round =>
   clear H'
   try clear c1
   try clear c2
   try clear p2
   try clear c3
   try clear c3b0
   try clear c3b1
   try clear c3b2
   obtain ⟨x5_1,rfl,HA,HK1,HB⟩:=hrel
   cases gk with
   | zero=>exact absurd HA.out (by simp [jM.l0])
   | succ k1 =>
    have H:=HA.out
    clear HA
    simp only [jM.l0] at H
    by_cases c4:x5_1<(l0.length:Int)
    ·rw [if_pos c4] at H
     have c4b0:decide (x5_1<(l0.length:Int))=true:=dzT c4
     clear c4
     by_cases c5:0≤x5_1
     ·rw [if_pos c5] at H
      have c5b0:decide (0≤x5_1)=true:=dzT c5
      clear c5
      by_cases c6:x5_1<(l1.length:Int)
      ·rw [if_pos c6] at H
       have c6b0:decide (x5_1<(l1.length:Int))=true:=dzT c6
       clear c6
       replace H:=bzS H
       obtain ⟨t285,A70,H⟩:=H
       replace H:(if t285=true then (jM.l0 k1 l0 l1 (wrap64 (x5_1+1))) else (some false))=some r:=H
       have A7:=am A70
       clear A70
       by_cases c8:t285=true
       ·subst c8
        have H1:(jM.l0 k1 l0 l1 (wrap64 (x5_1+1)))=some r:=by rw [if_pos rfl] at H;exact H
        clear H
        have H:=H1
        clear H1
        have H':=am H
        clear H
        try go_wp2
        replace HB:=am (jy HB.out)
        have p283:0≤(x5_1:Int):=ozD (uq)
        have q283:x5_1<(l0.length:Int):=ozD (uq)
        obtain ⟨ad283,e283,hx283_0,hx283_1⟩:=jJb HR0.out x5_1 p283 q283
        have hw283_1:=hx283_1
        have hw283_0:=hx283_0
        cases e283
        replace hx283_0:=cb HB.out hx283_0
        replace hx283_1:=cb HB.out hx283_1
        replace p283:=ezT p283
        replace q283:=ezT q283
        have p284:0≤(x5_1:Int):=ozD (uq)
        have q284:x5_1<(l1.length:Int):=ozD (uq)
        obtain ⟨ad284,e284,hx284_0,hx284_1⟩:=jJb HR1.out x5_1 p284 q284
        have hw284_1:=hx284_1
        have hw284_0:=hx284_0
        cases e284
        replace hx284_0:=cb HB.out hx284_0
        replace hx284_1:=cb HB.out hx284_1
        replace p284:=ezT p284
        replace q284:=ezT q284
        refine start_ (n:=10) (S:=fun w'=>w'.cell? (ad283.add ((x5_1).toNat * 2))=some (.string ((jE l0 x5_1).f0))∧w'.cell? ⟨(ad283.add ((x5_1).toNat * 2)).block,(ad283.add ((x5_1).toNat * 2)).off+1,none⟩=some (.int .i64 ((jE l0 x5_1).f1))∧w'.cell? (ad284.add ((x5_1).toNat * 2))=some (.string ((jE l1 x5_1).f0))∧w'.cell? ⟨(ad284.add ((x5_1).toNat * 2)).block,(ad284.add ((x5_1).toNat * 2)).off+1,none⟩=some (.int .i64 ((jE l1 x5_1).f1))) (ds:=[]) #[false,false,false,false,false,false,false,false,false,false] (by kernel_rfl) rfl rfl ⟨((HB.out.cell (World.block_lt_of_cell? w _ hw283_0)).trans hw283_0),((HB.out.cell (World.block_lt_of_cell? w _ hw283_1)).trans hw283_1),((HB.out.cell (World.block_lt_of_cell? w _ hw284_0)).trans hw284_0),((HB.out.cell (World.block_lt_of_cell? w _ hw284_1)).trans hw284_1)⟩ (fun hHeld=>?_);refine with_tabW jM.tab6 jM.bits6 (fun HT_ HW_=>?_)
        generalize wr.drew=w9 at HB hx283_0 hx283_1 hx284_0 hx284_1 hHeld ⊢
        refine pq (i:=0) (N:=some 17) #[true,false,false,false,false,false,false,false,false,false] ?_
        refine pq (i:=1) (N:=some 18) #[true,true,false,false,false,false,false,false,false,false] ?_
        refine pq (i:=2) (N:=some 19) #[true,true,true,false,false,false,false,false,false,false] ?_
        refine pq (i:=4) (N:=some 21) #[true,true,true,false,true,false,false,false,false,false] ?_
        refine pq (i:=5) (N:=some 22) #[true,true,true,false,true,true,false,false,false,false] ?_
        refine pq (i:=6) (N:=some 23) #[true,true,true,false,true,true,true,false,false,false] ?_
        refine take_ (i:=3) (N:=some 20) (v:=?_) (a':=?_) #[true,true,true,true,true,true,true,false,false,false] rfl rfl (jpb HT_.out HW_.out (by kernel_rfl)) (fun _ _ _ h=>h) (Or.inl ⟨by rfl,?_⟩) hHeld ?_ ?_
        rotate_left
        ·rintro w' ⟨s0,s1,s2,s3⟩
         go_simp
         with_reducible rfl
        rotate_left
        ·exact sa
        refine take_ (i:=7) (N:=some 24) (v:=?_) (a':=?_) #[true,true,true,true,true,true,true,true,false,false] rfl rfl (jpb HT_.out HW_.out (by kernel_rfl)) (fun _ _ _ h=>h) (Or.inl ⟨by rfl,?_⟩) hHeld ?_ ?_
        rotate_left
        ·rintro w' ⟨s0,s1,s2,s3⟩
         go_simp
         with_reducible rfl
        rotate_left
        ·exact sa
        refine one_ (i:=8) (N:=some 25) #[true,true,true,true,true,true,true,true,true,false] rfl rfl (one_of HT_.out (by kernel_rfl)) (by decide) (fun K hK=>?_)
        refine goes_ Tryd.func37 (by kernel_rfl) rfl #[.agg #[.string ((jE l0 x5_1).f0), .int .i64 ((jE l0 x5_1).f1)], .agg #[.string ((jE l1 x5_1).f0), .int .i64 ((jE l1 x5_1).f1)]] (by rfl) rfl rfl (aq) ?_
        with_reducible refine (jgb.calls ((jE l0 x5_1).f0) ((jE l0 x5_1).f1) ((jE l1 x5_1).f0) ((jE l1 x5_1).f1) true _ A7.out).mono ?_
        rintro e w10 ⟨rfl,hb⟩
        refine ⟨_,rfl,?_⟩
        replace HB:=am (jc (bq) hb)
        (try clear hb)
        (try clear hb2)
        (try clear hk)
        (try clear hi)
        refine hK.out _ _ ⟨((HB.out.cell (World.block_lt_of_cell? w _ hw283_0)).trans hw283_0),((HB.out.cell (World.block_lt_of_cell? w _ hw283_1)).trans hw283_1),((HB.out.cell (World.block_lt_of_cell? w _ hw284_0)).trans hw284_0),((HB.out.cell (World.block_lt_of_cell? w _ hw284_1)).trans hw284_1)⟩ (fun hHeld=>?_)
        clear hK K
        refine norm_ (a':=?_) ?_ ?_
        rotate_left
        ·show Act.put _ (some 25) _=_
         simp only [Act.put,List.setIfInBounds_toArray,List.set_cons_zero,List.set_cons_succ,jlb,job]
         rfl
        refine pq (i:=9) (N:=some 26) #[true,true,true,true,true,true,true,true,true,true] ?_
        refine done_ (done_of HT_.out (by kernel_rfl)) ?_
        try go_wp2
        go_roundg k1
        case measure=>have:=HK1.out;omega
        case rel=>exact ⟨(wrap64 (x5_1+1)),(sq),H',⟨by have:=HK1.out;omega⟩,⟨bq⟩⟩
       ·replace c8:=Bool.eq_false_iff.mpr c8
        subst c8
        have H1:(some false)=some r:=by rw [if_neg (show ¬ (false=true) by decide)] at H;exact H
        clear H
        have H:=H1
        clear H1
        obtain rfl:=Option.some.inj H
        try go_wp2
        replace HB:=am (jy HB.out)
        have p283:0≤(x5_1:Int):=ozD (uq)
        have q283:x5_1<(l0.length:Int):=ozD (uq)
        obtain ⟨ad283,e283,hx283_0,hx283_1⟩:=jJb HR0.out x5_1 p283 q283
        have hw283_1:=hx283_1
        have hw283_0:=hx283_0
        cases e283
        replace hx283_0:=cb HB.out hx283_0
        replace hx283_1:=cb HB.out hx283_1
        replace p283:=ezT p283
        replace q283:=ezT q283
        have p284:0≤(x5_1:Int):=ozD (uq)
        have q284:x5_1<(l1.length:Int):=ozD (uq)
        obtain ⟨ad284,e284,hx284_0,hx284_1⟩:=jJb HR1.out x5_1 p284 q284
        have hw284_1:=hx284_1
        have hw284_0:=hx284_0
        cases e284
        replace hx284_0:=cb HB.out hx284_0
        replace hx284_1:=cb HB.out hx284_1
        replace p284:=ezT p284
        replace q284:=ezT q284
        refine start_ (n:=10) (S:=fun w'=>w'.cell? (ad283.add ((x5_1).toNat * 2))=some (.string ((jE l0 x5_1).f0))∧w'.cell? ⟨(ad283.add ((x5_1).toNat * 2)).block,(ad283.add ((x5_1).toNat * 2)).off+1,none⟩=some (.int .i64 ((jE l0 x5_1).f1))∧w'.cell? (ad284.add ((x5_1).toNat * 2))=some (.string ((jE l1 x5_1).f0))∧w'.cell? ⟨(ad284.add ((x5_1).toNat * 2)).block,(ad284.add ((x5_1).toNat * 2)).off+1,none⟩=some (.int .i64 ((jE l1 x5_1).f1))) (ds:=[]) #[false,false,false,false,false,false,false,false,false,false] (by kernel_rfl) rfl rfl ⟨((HB.out.cell (World.block_lt_of_cell? w _ hw283_0)).trans hw283_0),((HB.out.cell (World.block_lt_of_cell? w _ hw283_1)).trans hw283_1),((HB.out.cell (World.block_lt_of_cell? w _ hw284_0)).trans hw284_0),((HB.out.cell (World.block_lt_of_cell? w _ hw284_1)).trans hw284_1)⟩ (fun hHeld=>?_);refine with_tabW jM.tab6 jM.bits6 (fun HT_ HW_=>?_)
        generalize wr.drew=w11 at HB hx283_0 hx283_1 hx284_0 hx284_1 hHeld ⊢
        refine pq (i:=0) (N:=some 17) #[true,false,false,false,false,false,false,false,false,false] ?_
        refine pq (i:=1) (N:=some 18) #[true,true,false,false,false,false,false,false,false,false] ?_
        refine pq (i:=2) (N:=some 19) #[true,true,true,false,false,false,false,false,false,false] ?_
        refine pq (i:=4) (N:=some 21) #[true,true,true,false,true,false,false,false,false,false] ?_
        refine pq (i:=5) (N:=some 22) #[true,true,true,false,true,true,false,false,false,false] ?_
        refine pq (i:=6) (N:=some 23) #[true,true,true,false,true,true,true,false,false,false] ?_
        refine take_ (i:=3) (N:=some 20) (v:=?_) (a':=?_) #[true,true,true,true,true,true,true,false,false,false] rfl rfl (jpb HT_.out HW_.out (by kernel_rfl)) (fun _ _ _ h=>h) (Or.inl ⟨by rfl,?_⟩) hHeld ?_ ?_
        rotate_left
        ·rintro w' ⟨s0,s1,s2,s3⟩
         go_simp
         with_reducible rfl
        rotate_left
        ·exact sa
        refine take_ (i:=7) (N:=some 24) (v:=?_) (a':=?_) #[true,true,true,true,true,true,true,true,false,false] rfl rfl (jpb HT_.out HW_.out (by kernel_rfl)) (fun _ _ _ h=>h) (Or.inl ⟨by rfl,?_⟩) hHeld ?_ ?_
        rotate_left
        ·rintro w' ⟨s0,s1,s2,s3⟩
         go_simp
         with_reducible rfl
        rotate_left
        ·exact sa
        refine one_ (i:=8) (N:=some 25) #[true,true,true,true,true,true,true,true,true,false] rfl rfl (one_of HT_.out (by kernel_rfl)) (by decide) (fun K hK=>?_)
        refine goes_ Tryd.func37 (by kernel_rfl) rfl #[.agg #[.string ((jE l0 x5_1).f0), .int .i64 ((jE l0 x5_1).f1)], .agg #[.string ((jE l1 x5_1).f0), .int .i64 ((jE l1 x5_1).f1)]] (by rfl) rfl rfl (aq) ?_
        with_reducible refine (jgb.calls ((jE l0 x5_1).f0) ((jE l0 x5_1).f1) ((jE l1 x5_1).f0) ((jE l1 x5_1).f1) false _ A7.out).mono ?_
        rintro e w12 ⟨rfl,hb⟩
        refine ⟨_,rfl,?_⟩
        replace HB:=am (jc (bq) hb)
        (try clear hb)
        (try clear hb2)
        (try clear hk)
        (try clear hi)
        refine hK.out _ _ ⟨((HB.out.cell (World.block_lt_of_cell? w _ hw283_0)).trans hw283_0),((HB.out.cell (World.block_lt_of_cell? w _ hw283_1)).trans hw283_1),((HB.out.cell (World.block_lt_of_cell? w _ hw284_0)).trans hw284_0),((HB.out.cell (World.block_lt_of_cell? w _ hw284_1)).trans hw284_1)⟩ (fun hHeld=>?_)
        clear hK K
        refine norm_ (a':=?_) ?_ ?_
        rotate_left
        ·show Act.put _ (some 25) _=_
         simp only [Act.put,List.setIfInBounds_toArray,List.set_cons_zero,List.set_cons_succ,jlb,job]
         rfl
        refine pq (i:=9) (N:=some 26) #[true,true,true,true,true,true,true,true,true,true] ?_
        refine done_ (done_of HT_.out (by kernel_rfl)) ?_
        try go_wp2
        go_ret
        exact ⟨Y0,bq⟩
      ·rw [if_neg c6] at H
       exact absurd H (by simp)
     ·rw [if_neg c5] at H
      exact absurd H (by simp)
    ·rw [if_neg c4] at H
     have c4b0:decide (x5_1<(l0.length:Int))=false:=dzF c4
     clear c4
     obtain rfl:=Option.some.inj H
     go_wp2
     go_ret
     exact ⟨Y0,bq⟩
 ·rw [if_neg c3] at H
  have c3b0:((l0.length:Int) == (l1.length:Int))=false:=beq_eq_false_iff_ne.mpr c3
  have c3b1:((l0.length:Int) != (l1.length:Int))=true:=bne_iff_ne.mpr c3
  have c3b2:(l0.length == l1.length)=false:=by first | simpa using c3 |(simp at c3 ⊢;omega)
  obtain rfl:=Option.some.inj H
  go_enter Tryd.func21,Tryd.ntmps21
  go_wp2
  go_ret
  exact ⟨Y0,bq⟩
def jDa.f (k : Nat) (l0_0 : List (S63)) (l1_0 : List (S63)) : Option (Bool) := (jM.f k l0_0 l1_0).bind fun t288 => (if t288 = true then (some true) else (some false))
set_option maxHeartbeats 8000000 in
set_option maxRecDepth 100000 in
theorem jDa.calls (k : Nat) (A0_0 : Option Addr) (c0_0 : Nat) (l0_0 : List (S63)) (A1_0 : Option Addr) (c1_0 : Nat) (l1_0 : List (S63)) (r : Bool) (w : World) (hr0_0 : Kd.C k63 w A0_0 l0_0.length l0_0) (hc0_0 : l0_0.length ≤ c0_0) (hr1_0 : Kd.C k63 w A1_0 l1_0.length l1_0) (hc1_0 : l1_0.length ≤ c1_0) (h : jDa.f k l0_0 l1_0 = some r) :
  Calls Tryd.prog 10 #[.agg #[.slice A0_0 l0_0.length c0_0], .agg #[.slice A1_0 l1_0.length c1_0]] w fun e w'=>e=.returned (.bool r)∧Below w.heap.size w w':=by
 have hu31:=Tryd.underlying31
 have HR0_0:=am hr0_0
 have HC0_0:=am hc0_0
 clear hr0_0 hc0_0
 have HR1_0:=am hr1_0
 have HC1_0:=am hc1_0
 clear hr1_0 hc1_0
 have HB:=am (Below.refl w.heap.size w)
 have H:((jM.f k l0_0 l1_0).bind fun t288=>(if t288=true then (some true) else (some false)))=some r:=h
 clear h
 replace H:=bzS H
 obtain ⟨t288,A30,H⟩:=H
 replace H:(if t288=true then (some true) else (some false))=some r:=H
 have A3:=am A30
 clear A30
 by_cases c4:t288=true
 ·subst c4
  have H1:(some true)=some r:=by rw [if_pos rfl] at H;exact H
  clear H
  have H:=H1
  clear H1
  obtain rfl:=Option.some.inj H
  go_enter Tryd.func10,Tryd.ntmps10
  go_wp2_with (first |((with_reducible refine jN (N:=2) rfl ?_);refine bE (N:=2) (cs:=#[.slice A0_0 l0_0.length c0_0]) (t:=31) ?_;intro gb286 hg w5 hbox hb;have BK286:=am (hbox);have GW286:=am ((Y1:w.heap.size≤gb286));have GE286:=am ((Y1:w.heap.size≤gb286));replace HB:=am (jc (bq) hb);clear hb hbox hg) |((with_reducible refine jN (N:=3) rfl ?_);refine bE (N:=3) (cs:=#[.slice A1_0 l1_0.length c1_0]) (t:=31) ?_;intro gb287 hg w6 hbox hb;have BK287:=am (hbox);have GW287:=am ((Y24:w.heap.size≤gb287));have GE287:=am ((Y24:w.heap.size≤gb287));have NB286_287:=am ((by rw [hg];exact Nat.ne_of_lt (jEa (g:=gb286) (o:=.cells #[.slice A0_0 l0_0.length c0_0] 31 (0,0)) (kq BK286.out)):gb286≠gb287));have NB287_286:=am ((by rw [hg];exact Nat.ne_of_gt (jEa (g:=gb286) (o:=.cells #[.slice A0_0 l0_0.length c0_0] 31 (0,0)) (kq BK286.out)):gb287≠gb286));replace BK286:=am (ji (g:=gb286) (o:=.cells #[.slice A0_0 l0_0.length c0_0] 31 (0,0)) (kq BK286.out) hb);replace HB:=am (jc (Y46) hb);clear hb hbox hg;have hnb7:=NB286_287.out;have hnc7:=NB287_286.out;have hcz8_0:=bc0 BK286.out;have hfz8_0:=ja BK286.out 0;have hcz9_0:=bc0 BK287.out;have hfz9_0:=ja BK287.out 0) |((with_reducible refine jf (f:=21) rfl ?_);refine gL (some 9) Tryd.func21 #[.slice A0_0 l0_0.length c0_0, .slice A1_0 l1_0.length c1_0] ?_;(with_reducible refine (jM.calls k _ _ l0_0 _ _ l1_0 true _ ?side1 ?side2 ?side3 ?side4 A3.out).mono ?_);(case side1=>exact cq (Kd.jH HR0_0.out HB.out));(case side2=>exact HC0_0.out);(case side3=>exact cq (Kd.jH HR1_0.out HB.out));(case side4=>exact HC1_0.out);rintro e w10 ⟨rfl,hb⟩;refine ⟨_,rfl,?_⟩;replace BK286:=am (ji (g:=gb286) (o:=.cells #[.slice A0_0 l0_0.length c0_0] 31 (0,0)) (kq BK286.out) hb);replace BK287:=am (ji (g:=gb287) (o:=.cells #[.slice A1_0 l1_0.length c1_0] 31 (0,0)) (kq BK287.out) hb);replace HB:=am (jc (Y25) hb);(try clear hb);(try clear hb2);(try clear hk);(try clear hi)))
  go_ret
  exact ⟨Y0,Y25⟩
 ·replace c4:=Bool.eq_false_iff.mpr c4
  subst c4
  have H1:(some false)=some r:=by rw [if_neg (show ¬ (false=true) by decide)] at H;exact H
  clear H
  have H:=H1
  clear H1
  obtain rfl:=Option.some.inj H
  go_enter Tryd.func10,Tryd.ntmps10
  go_wp2_with (first |((with_reducible refine jN (N:=2) rfl ?_);refine bE (N:=2) (cs:=#[.slice A0_0 l0_0.length c0_0]) (t:=31) ?_;intro gb286 hg w11 hbox hb;have BK286:=am (hbox);have GW286:=am ((Y1:w.heap.size≤gb286));have GE286:=am ((Y1:w.heap.size≤gb286));replace HB:=am (jc (bq) hb);clear hb hbox hg) |((with_reducible refine jN (N:=3) rfl ?_);refine bE (N:=3) (cs:=#[.slice A1_0 l1_0.length c1_0]) (t:=31) ?_;intro gb287 hg w12 hbox hb;have BK287:=am (hbox);have GW287:=am ((Y24:w.heap.size≤gb287));have GE287:=am ((Y24:w.heap.size≤gb287));have NB286_287:=am ((by rw [hg];exact Nat.ne_of_lt (jEa (g:=gb286) (o:=.cells #[.slice A0_0 l0_0.length c0_0] 31 (0,0)) (kq BK286.out)):gb286≠gb287));have NB287_286:=am ((by rw [hg];exact Nat.ne_of_gt (jEa (g:=gb286) (o:=.cells #[.slice A0_0 l0_0.length c0_0] 31 (0,0)) (kq BK286.out)):gb287≠gb286));replace BK286:=am (ji (g:=gb286) (o:=.cells #[.slice A0_0 l0_0.length c0_0] 31 (0,0)) (kq BK286.out) hb);replace HB:=am (jc (Y46) hb);clear hb hbox hg;have hnb13:=NB286_287.out;have hnc13:=NB287_286.out;have hcz14_0:=bc0 BK286.out;have hfz14_0:=ja BK286.out 0;have hcz15_0:=bc0 BK287.out;have hfz15_0:=ja BK287.out 0) |((with_reducible refine jf (f:=21) rfl ?_);refine gL (some 9) Tryd.func21 #[.slice A0_0 l0_0.length c0_0, .slice A1_0 l1_0.length c1_0] ?_;(with_reducible refine (jM.calls k _ _ l0_0 _ _ l1_0 false _ ?side1 ?side2 ?side3 ?side4 A3.out).mono ?_);(case side1=>exact cq (Kd.jH HR0_0.out HB.out));(case side2=>exact HC0_0.out);(case side3=>exact cq (Kd.jH HR1_0.out HB.out));(case side4=>exact HC1_0.out);rintro e w16 ⟨rfl,hb⟩;refine ⟨_,rfl,?_⟩;replace BK286:=am (ji (g:=gb286) (o:=.cells #[.slice A0_0 l0_0.length c0_0] 31 (0,0)) (kq BK286.out) hb);replace BK287:=am (ji (g:=gb287) (o:=.cells #[.slice A1_0 l1_0.length c1_0] 31 (0,0)) (kq BK287.out) hb);replace HB:=am (jc (Y25) hb);(try clear hb);(try clear hb2);(try clear hk);(try clear hi)))
  go_ret
  exact ⟨Y0,Y25⟩
def jnb.f (a0_0 : Int) (a0_1 : Int) (a0_2 : Int) (a0_3 : Int) (a1_0 : Int) (a1_1 : Int) (a1_2 : Int) (a1_3 : Int) : Option (Bool) := if a0_0 = a1_0 then (if a0_1 = a1_1 then (if a0_2 = a1_2 then (if a0_3 = a1_3 then (some true) else (some false)) else (some false)) else (some false)) else (some false)
set_option maxHeartbeats 8000000 in
set_option maxRecDepth 100000 in
theorem jnb.calls (a0_0 : Int) (a0_1 : Int) (a0_2 : Int) (a0_3 : Int) (a1_0 : Int) (a1_1 : Int) (a1_2 : Int) (a1_3 : Int) (r : Bool) (w : World) (h : jnb.f a0_0 a0_1 a0_2 a0_3 a1_0 a1_1 a1_2 a1_3 = some r) :
  Calls Tryd.prog 22 #[.agg #[.int .i64 a0_0, .int .i64 a0_1, .int .i64 a0_2, .int .i64 a0_3], .agg #[.int .i64 a1_0, .int .i64 a1_1, .int .i64 a1_2, .int .i64 a1_3]] w fun e w'=>e=.returned (.bool r)∧Below w.heap.size w w':=by
 have hu42:=Tryd.underlying42
 have HB:=am (Below.refl w.heap.size w)
 have H:(if a0_0=a1_0 then (if a0_1=a1_1 then (if a0_2=a1_2 then (if a0_3=a1_3 then (some true) else (some false)) else (some false)) else (some false)) else (some false))=some r:=h
 clear h
 by_cases c3:a0_0=a1_0
 ·rw [if_pos c3] at H
  have c3b0:(a0_0 == a1_0)=true:=beq_iff_eq.mpr c3
  have c3b1:(a0_0 != a1_0)=false:=bne_eq_false_iff_eq.mpr c3
  clear c3
  by_cases c4:a0_1=a1_1
  ·rw [if_pos c4] at H
   have c4b0:(a0_1 == a1_1)=true:=beq_iff_eq.mpr c4
   have c4b1:(a0_1 != a1_1)=false:=bne_eq_false_iff_eq.mpr c4
   clear c4
   by_cases c5:a0_2=a1_2
   ·rw [if_pos c5] at H
    have c5b0:(a0_2 == a1_2)=true:=beq_iff_eq.mpr c5
    have c5b1:(a0_2 != a1_2)=false:=bne_eq_false_iff_eq.mpr c5
    clear c5
    by_cases c6:a0_3=a1_3
    ·rw [if_pos c6] at H
     have c6b0:(a0_3 == a1_3)=true:=beq_iff_eq.mpr c6
     have c6b1:(a0_3 != a1_3)=false:=bne_eq_false_iff_eq.mpr c6
     clear c6
     obtain rfl:=Option.some.inj H
     go_enter Tryd.func22,Tryd.ntmps22
     go_wp2_with (first |((with_reducible refine jN (N:=2) rfl ?_);refine bE (N:=2) (cs:=#[.int .i64 a0_0, .int .i64 a0_1, .int .i64 a0_2, .int .i64 a0_3]) (t:=42) ?_;intro gb289 hg w7 hbox hb;have BK289:=am (hbox);have GW289:=am ((Y1:w.heap.size≤gb289));have GE289:=am ((Y1:w.heap.size≤gb289));replace HB:=am (jc (bq) hb);clear hb hbox hg) |((with_reducible refine jN (N:=3) rfl ?_);refine bE (N:=3) (cs:=#[.int .i64 a1_0, .int .i64 a1_1, .int .i64 a1_2, .int .i64 a1_3]) (t:=42) ?_;intro gb290 hg w8 hbox hb;have BK290:=am (hbox);have GW290:=am ((Y12:w.heap.size≤gb290));have GE290:=am ((Y12:w.heap.size≤gb290));have NB289_290:=am ((Y19:gb289≠gb290));have NB290_289:=am ((Y20:gb290≠gb289));replace BK289:=am (ji (g:=gb289) (o:=.cells #[.int .i64 a0_0, .int .i64 a0_1, .int .i64 a0_2, .int .i64 a0_3] 42 (0,0)) (kq BK289.out) hb);replace HB:=am (jc (Y21) hb);clear hb hbox hg;have hnb9:=NB289_290.out;have hnc9:=NB290_289.out;have hcz10_0:=bc0 BK289.out;have hcz10_1:=bc1 BK289.out;have hcz10_2:=bc2 BK289.out;have hcz10_3:=bc3 BK289.out;have hfz10_0:=ja BK289.out 0;have hfz10_1:=ja BK289.out 1;have hfz10_2:=ja BK289.out 2;have hfz10_3:=ja BK289.out 3;have hcz11_0:=bc0 BK290.out;have hcz11_1:=bc1 BK290.out;have hcz11_2:=bc2 BK290.out;have hcz11_3:=bc3 BK290.out;have hfz11_0:=ja BK290.out 0;have hfz11_1:=ja BK290.out 1;have hfz11_2:=ja BK290.out 2;have hfz11_3:=ja BK290.out 3))
     go_ret
     exact ⟨Y0,Y22⟩
    ·rw [if_neg c6] at H
     have c6b0:(a0_3 == a1_3)=false:=beq_eq_false_iff_ne.mpr c6
     have c6b1:(a0_3 != a1_3)=true:=bne_iff_ne.mpr c6
     obtain rfl:=Option.some.inj H
     go_enter Tryd.func22,Tryd.ntmps22
     go_wp2_with (first |((with_reducible refine jN (N:=2) rfl ?_);refine bE (N:=2) (cs:=#[.int .i64 a0_0, .int .i64 a0_1, .int .i64 a0_2, .int .i64 a0_3]) (t:=42) ?_;intro gb289 hg w12 hbox hb;have BK289:=am (hbox);have GW289:=am ((Y1:w.heap.size≤gb289));have GE289:=am ((Y1:w.heap.size≤gb289));replace HB:=am (jc (bq) hb);clear hb hbox hg) |((with_reducible refine jN (N:=3) rfl ?_);refine bE (N:=3) (cs:=#[.int .i64 a1_0, .int .i64 a1_1, .int .i64 a1_2, .int .i64 a1_3]) (t:=42) ?_;intro gb290 hg w13 hbox hb;have BK290:=am (hbox);have GW290:=am ((Y12:w.heap.size≤gb290));have GE290:=am ((Y12:w.heap.size≤gb290));have NB289_290:=am ((Y19:gb289≠gb290));have NB290_289:=am ((Y20:gb290≠gb289));replace BK289:=am (ji (g:=gb289) (o:=.cells #[.int .i64 a0_0, .int .i64 a0_1, .int .i64 a0_2, .int .i64 a0_3] 42 (0,0)) (kq BK289.out) hb);replace HB:=am (jc (Y21) hb);clear hb hbox hg;have hnb14:=NB289_290.out;have hnc14:=NB290_289.out;have hcz15_0:=bc0 BK289.out;have hcz15_1:=bc1 BK289.out;have hcz15_2:=bc2 BK289.out;have hcz15_3:=bc3 BK289.out;have hfz15_0:=ja BK289.out 0;have hfz15_1:=ja BK289.out 1;have hfz15_2:=ja BK289.out 2;have hfz15_3:=ja BK289.out 3;have hcz16_0:=bc0 BK290.out;have hcz16_1:=bc1 BK290.out;have hcz16_2:=bc2 BK290.out;have hcz16_3:=bc3 BK290.out;have hfz16_0:=ja BK290.out 0;have hfz16_1:=ja BK290.out 1;have hfz16_2:=ja BK290.out 2;have hfz16_3:=ja BK290.out 3))
     go_ret
     exact ⟨Y0,Y22⟩
   ·rw [if_neg c5] at H
    have c5b0:(a0_2 == a1_2)=false:=beq_eq_false_iff_ne.mpr c5
    have c5b1:(a0_2 != a1_2)=true:=bne_iff_ne.mpr c5
    obtain rfl:=Option.some.inj H
    go_enter Tryd.func22,Tryd.ntmps22
    go_wp2_with (first |((with_reducible refine jN (N:=2) rfl ?_);refine bE (N:=2) (cs:=#[.int .i64 a0_0, .int .i64 a0_1, .int .i64 a0_2, .int .i64 a0_3]) (t:=42) ?_;intro gb289 hg w17 hbox hb;have BK289:=am (hbox);have GW289:=am ((Y1:w.heap.size≤gb289));have GE289:=am ((Y1:w.heap.size≤gb289));replace HB:=am (jc (bq) hb);clear hb hbox hg) |((with_reducible refine jN (N:=3) rfl ?_);refine bE (N:=3) (cs:=#[.int .i64 a1_0, .int .i64 a1_1, .int .i64 a1_2, .int .i64 a1_3]) (t:=42) ?_;intro gb290 hg w18 hbox hb;have BK290:=am (hbox);have GW290:=am ((Y12:w.heap.size≤gb290));have GE290:=am ((Y12:w.heap.size≤gb290));have NB289_290:=am ((Y19:gb289≠gb290));have NB290_289:=am ((Y20:gb290≠gb289));replace BK289:=am (ji (g:=gb289) (o:=.cells #[.int .i64 a0_0, .int .i64 a0_1, .int .i64 a0_2, .int .i64 a0_3] 42 (0,0)) (kq BK289.out) hb);replace HB:=am (jc (Y21) hb);clear hb hbox hg;have hnb19:=NB289_290.out;have hnc19:=NB290_289.out;have hcz20_0:=bc0 BK289.out;have hcz20_1:=bc1 BK289.out;have hcz20_2:=bc2 BK289.out;have hcz20_3:=bc3 BK289.out;have hfz20_0:=ja BK289.out 0;have hfz20_1:=ja BK289.out 1;have hfz20_2:=ja BK289.out 2;have hfz20_3:=ja BK289.out 3;have hcz21_0:=bc0 BK290.out;have hcz21_1:=bc1 BK290.out;have hcz21_2:=bc2 BK290.out;have hcz21_3:=bc3 BK290.out;have hfz21_0:=ja BK290.out 0;have hfz21_1:=ja BK290.out 1;have hfz21_2:=ja BK290.out 2;have hfz21_3:=ja BK290.out 3))
    go_ret
    exact ⟨Y0,Y22⟩
  ·rw [if_neg c4] at H
   have c4b0:(a0_1 == a1_1)=false:=beq_eq_false_iff_ne.mpr c4
   have c4b1:(a0_1 != a1_1)=true:=bne_iff_ne.mpr c4
   obtain rfl:=Option.some.inj H
   go_enter Tryd.func22,Tryd.ntmps22
   go_wp2_with (first |((with_reducible refine jN (N:=2) rfl ?_);refine bE (N:=2) (cs:=#[.int .i64 a0_0, .int .i64 a0_1, .int .i64 a0_2, .int .i64 a0_3]) (t:=42) ?_;intro gb289 hg w22 hbox hb;have BK289:=am (hbox);have GW289:=am ((Y1:w.heap.size≤gb289));have GE289:=am ((Y1:w.heap.size≤gb289));replace HB:=am (jc (bq) hb);clear hb hbox hg) |((with_reducible refine jN (N:=3) rfl ?_);refine bE (N:=3) (cs:=#[.int .i64 a1_0, .int .i64 a1_1, .int .i64 a1_2, .int .i64 a1_3]) (t:=42) ?_;intro gb290 hg w23 hbox hb;have BK290:=am (hbox);have GW290:=am ((Y12:w.heap.size≤gb290));have GE290:=am ((Y12:w.heap.size≤gb290));have NB289_290:=am ((Y19:gb289≠gb290));have NB290_289:=am ((Y20:gb290≠gb289));replace BK289:=am (ji (g:=gb289) (o:=.cells #[.int .i64 a0_0, .int .i64 a0_1, .int .i64 a0_2, .int .i64 a0_3] 42 (0,0)) (kq BK289.out) hb);replace HB:=am (jc (Y21) hb);clear hb hbox hg;have hnb24:=NB289_290.out;have hnc24:=NB290_289.out;have hcz25_0:=bc0 BK289.out;have hcz25_1:=bc1 BK289.out;have hcz25_2:=bc2 BK289.out;have hcz25_3:=bc3 BK289.out;have hfz25_0:=ja BK289.out 0;have hfz25_1:=ja BK289.out 1;have hfz25_2:=ja BK289.out 2;have hfz25_3:=ja BK289.out 3;have hcz26_0:=bc0 BK290.out;have hcz26_1:=bc1 BK290.out;have hcz26_2:=bc2 BK290.out;have hcz26_3:=bc3 BK290.out;have hfz26_0:=ja BK290.out 0;have hfz26_1:=ja BK290.out 1;have hfz26_2:=ja BK290.out 2;have hfz26_3:=ja BK290.out 3))
   go_ret
   exact ⟨Y0,Y22⟩
 ·rw [if_neg c3] at H
  have c3b0:(a0_0 == a1_0)=false:=beq_eq_false_iff_ne.mpr c3
  have c3b1:(a0_0 != a1_0)=true:=bne_iff_ne.mpr c3
  obtain rfl:=Option.some.inj H
  go_enter Tryd.func22,Tryd.ntmps22
  go_wp2_with (first |((with_reducible refine jN (N:=2) rfl ?_);refine bE (N:=2) (cs:=#[.int .i64 a0_0, .int .i64 a0_1, .int .i64 a0_2, .int .i64 a0_3]) (t:=42) ?_;intro gb289 hg w27 hbox hb;have BK289:=am (hbox);have GW289:=am ((Y1:w.heap.size≤gb289));have GE289:=am ((Y1:w.heap.size≤gb289));replace HB:=am (jc (bq) hb);clear hb hbox hg) |((with_reducible refine jN (N:=3) rfl ?_);refine bE (N:=3) (cs:=#[.int .i64 a1_0, .int .i64 a1_1, .int .i64 a1_2, .int .i64 a1_3]) (t:=42) ?_;intro gb290 hg w28 hbox hb;have BK290:=am (hbox);have GW290:=am ((Y12:w.heap.size≤gb290));have GE290:=am ((Y12:w.heap.size≤gb290));have NB289_290:=am ((Y19:gb289≠gb290));have NB290_289:=am ((Y20:gb290≠gb289));replace BK289:=am (ji (g:=gb289) (o:=.cells #[.int .i64 a0_0, .int .i64 a0_1, .int .i64 a0_2, .int .i64 a0_3] 42 (0,0)) (kq BK289.out) hb);replace HB:=am (jc (Y21) hb);clear hb hbox hg;have hnb29:=NB289_290.out;have hnc29:=NB290_289.out;have hcz30_0:=bc0 BK289.out;have hcz30_1:=bc1 BK289.out;have hcz30_2:=bc2 BK289.out;have hcz30_3:=bc3 BK289.out;have hfz30_0:=ja BK289.out 0;have hfz30_1:=ja BK289.out 1;have hfz30_2:=ja BK289.out 2;have hfz30_3:=ja BK289.out 3;have hcz31_0:=bc0 BK290.out;have hcz31_1:=bc1 BK290.out;have hcz31_2:=bc2 BK290.out;have hcz31_3:=bc3 BK290.out;have hfz31_0:=ja BK290.out 0;have hfz31_1:=ja BK290.out 1;have hfz31_2:=ja BK290.out 2;have hfz31_3:=ja BK290.out 3))
  go_ret
  exact ⟨Y0,Y22⟩
def jF.l0 : Nat → List (S42) → List (S42) → Int → Option (Bool)
 | 0,_,_,_=>none
 | k+1,x0,x1,x5=>if x5<(x0.length:Int) then (if 0≤x5 then (if x5<(x1.length:Int) then ((jnb.f ((jb x0 x5).f0) ((jb x0 x5).f1) ((jb x0 x5).f2) ((jb x0 x5).f3) ((jb x1 x5).f0) ((jb x1 x5).f1) ((jb x1 x5).f2) ((jb x1 x5).f3)).bind fun t293=>(if t293=true then (jF.l0 k x0 x1 (wrap64 (x5+1))) else (some false))) else (none)) else (none)) else (some true)
def jF.f (k : Nat) (l0 : List (S42)) (l1 : List (S42)) : Option (Bool) := if (l0.length : Int) = (l1.length : Int) then (jF.l0 k l0 l1 0) else (some false)
def jF.T6 : Bool × List (List Nat × List Nat) := (true, [([], []), ([], []), ([0, 1], [0, 1]), ([2], [2]), ([], []), ([], []), ([4, 5], [4, 5]), ([6], [6]), ([3, 7], [3, 7]), ([8], [8])])
def jF.B6 : List Nat := [0, 0, 3, 7, 0, 0, 48, 112, 255, 511]
theorem jF.tab6 : rtab .any (opsOf Tryd.f11 6) = jF.T6 := by kernel_rfl
theorem jF.bits6 : waitsOk jF.T6.2 jF.B6 = true := by kernel_rfl
set_option maxHeartbeats 8000000 in
set_option maxRecDepth 100000 in
theorem jF.calls (k : Nat) (A0 : Option Addr) (c0 : Nat) (l0 : List (S42)) (A1 : Option Addr) (c1 : Nat) (l1 : List (S42)) (r : Bool) (w : World) (hr0 : Kd.C k42 w A0 l0.length l0) (hc0 : l0.length ≤ c0) (hr1 : Kd.C k42 w A1 l1.length l1) (hc1 : l1.length ≤ c1) (h : jF.f k l0 l1 = some r) :
  Calls Tryd.prog 11 #[.slice A0 l0.length c0, .slice A1 l1.length c1] w fun e w'=>e=.returned (.bool r)∧Below w.heap.size w w':=by
 have hu42:=Tryd.underlying42
 have HR0:=am hr0
 have HC0:=am hc0
 clear hr0 hc0
 have HR1:=am hr1
 have HC1:=am hc1
 clear hr1 hc1
 have HB:=am (Below.refl w.heap.size w)
 have H:(if (l0.length:Int)=(l1.length:Int) then (jF.l0 k l0 l1 0) else (some false))=some r:=h
 clear h
 by_cases c3:(l0.length:Int)=(l1.length:Int)
 ·rw [if_pos c3] at H
  have c3b0:((l0.length:Int) == (l1.length:Int))=true:=beq_iff_eq.mpr c3
  have c3b1:((l0.length:Int) != (l1.length:Int))=false:=bne_eq_false_iff_eq.mpr c3
  have c3b2:(l0.length == l1.length)=true:=by first | simpa using c3 |(simp at c3 ⊢;omega)
  clear c3
  have H':=am H
  clear H
  go_enter Tryd.func11,Tryd.ntmps11
  go_wp2
  go_loopg [5] k (fun kq v5 w'=>∃ (x5_1:Int),v5=.int .i64 x5_1∧jD (jF.l0 kq l0 l1 x5_1=some r)∧jD (kq≤k)∧jD (Below w.heap.size w w'))
  case atStart=>exact ⟨(0),(sq),H',⟨Nat.le_refl _⟩,⟨bq⟩⟩
  case round =>
   clear H'
   try clear c1
   try clear p2
   try clear c3
   try clear c3b0
   try clear c3b1
   try clear c3b2
   obtain ⟨x5_1,rfl,HA,HK1,HB⟩:=hrel
   cases gk with
   | zero=>exact absurd HA.out (by simp [jF.l0])
   | succ k1 =>
    have H:=HA.out
    clear HA
    simp only [jF.l0] at H
    by_cases c4:x5_1<(l0.length:Int)
    ·rw [if_pos c4] at H
     have c4b0:decide (x5_1<(l0.length:Int))=true:=dzT c4
     clear c4
     by_cases c5:0≤x5_1
     ·rw [if_pos c5] at H
      have c5b0:decide (0≤x5_1)=true:=dzT c5
      clear c5
      by_cases c6:x5_1<(l1.length:Int)
      ·rw [if_pos c6] at H
       have c6b0:decide (x5_1<(l1.length:Int))=true:=dzT c6
       clear c6
       replace H:=bzS H
       obtain ⟨t293,A70,H⟩:=H
       replace H:(if t293=true then (jF.l0 k1 l0 l1 (wrap64 (x5_1+1))) else (some false))=some r:=H
       have A7:=am A70
       clear A70
       by_cases c8:t293=true
       ·subst c8
        have H1:(jF.l0 k1 l0 l1 (wrap64 (x5_1+1)))=some r:=by rw [if_pos rfl] at H;exact H
        clear H
        have H:=H1
        clear H1
        have H':=am H
        clear H
        try go_wp2
        replace HB:=am (jy HB.out)
        have p291:0≤(x5_1:Int):=ozD (uq)
        have q291:x5_1<(l0.length:Int):=ozD (uq)
        obtain ⟨ad291,e291,hx291_0,hx291_1,hx291_2,hx291_3⟩:=jla HR0.out x5_1 p291 q291
        have hw291_3:=hx291_3
        have hw291_2:=hx291_2
        have hw291_1:=hx291_1
        have hw291_0:=hx291_0
        cases e291
        replace hx291_0:=cb HB.out hx291_0
        replace hx291_1:=cb HB.out hx291_1
        replace hx291_2:=cb HB.out hx291_2
        replace hx291_3:=cb HB.out hx291_3
        replace p291:=ezT p291
        replace q291:=ezT q291
        have p292:0≤(x5_1:Int):=ozD (uq)
        have q292:x5_1<(l1.length:Int):=ozD (uq)
        obtain ⟨ad292,e292,hx292_0,hx292_1,hx292_2,hx292_3⟩:=jla HR1.out x5_1 p292 q292
        have hw292_3:=hx292_3
        have hw292_2:=hx292_2
        have hw292_1:=hx292_1
        have hw292_0:=hx292_0
        cases e292
        replace hx292_0:=cb HB.out hx292_0
        replace hx292_1:=cb HB.out hx292_1
        replace hx292_2:=cb HB.out hx292_2
        replace hx292_3:=cb HB.out hx292_3
        replace p292:=ezT p292
        replace q292:=ezT q292
        refine start_ (n:=10) (S:=fun w'=>w'.cell? (ad291.add ((x5_1).toNat * 4))=some (.int .i64 ((jb l0 x5_1).f0))∧w'.cell? ⟨(ad291.add ((x5_1).toNat * 4)).block,(ad291.add ((x5_1).toNat * 4)).off+1,none⟩=some (.int .i64 ((jb l0 x5_1).f1))∧w'.cell? ⟨(ad291.add ((x5_1).toNat * 4)).block,(ad291.add ((x5_1).toNat * 4)).off+2,none⟩=some (.int .i64 ((jb l0 x5_1).f2))∧w'.cell? ⟨(ad291.add ((x5_1).toNat * 4)).block,(ad291.add ((x5_1).toNat * 4)).off+3,none⟩=some (.int .i64 ((jb l0 x5_1).f3))∧w'.cell? (ad292.add ((x5_1).toNat * 4))=some (.int .i64 ((jb l1 x5_1).f0))∧w'.cell? ⟨(ad292.add ((x5_1).toNat * 4)).block,(ad292.add ((x5_1).toNat * 4)).off+1,none⟩=some (.int .i64 ((jb l1 x5_1).f1))∧w'.cell? ⟨(ad292.add ((x5_1).toNat * 4)).block,(ad292.add ((x5_1).toNat * 4)).off+2,none⟩=some (.int .i64 ((jb l1 x5_1).f2))∧w'.cell? ⟨(ad292.add ((x5_1).toNat * 4)).block,(ad292.add ((x5_1).toNat * 4)).off+3,none⟩=some (.int .i64 ((jb l1 x5_1).f3))) (ds:=[]) #[false,false,false,false,false,false,false,false,false,false] (by kernel_rfl) rfl rfl ⟨((HB.out.cell (World.block_lt_of_cell? w _ hw291_0)).trans hw291_0),((HB.out.cell (World.block_lt_of_cell? w _ hw291_1)).trans hw291_1),((HB.out.cell (World.block_lt_of_cell? w _ hw291_2)).trans hw291_2),((HB.out.cell (World.block_lt_of_cell? w _ hw291_3)).trans hw291_3),((HB.out.cell (World.block_lt_of_cell? w _ hw292_0)).trans hw292_0),((HB.out.cell (World.block_lt_of_cell? w _ hw292_1)).trans hw292_1),((HB.out.cell (World.block_lt_of_cell? w _ hw292_2)).trans hw292_2),((HB.out.cell (World.block_lt_of_cell? w _ hw292_3)).trans hw292_3)⟩ (fun hHeld=>?_);refine with_tabW jF.tab6 jF.bits6 (fun HT_ HW_=>?_)
        generalize wr.drew=w9 at HB hx291_0 hx291_1 hx291_2 hx291_3 hx292_0 hx292_1 hx292_2 hx292_3 hHeld ⊢
        refine pq (i:=0) (N:=some 17) #[true,false,false,false,false,false,false,false,false,false] ?_
        refine pq (i:=1) (N:=some 18) #[true,true,false,false,false,false,false,false,false,false] ?_
        refine pq (i:=2) (N:=some 19) #[true,true,true,false,false,false,false,false,false,false] ?_
        refine pq (i:=4) (N:=some 21) #[true,true,true,false,true,false,false,false,false,false] ?_
        refine pq (i:=5) (N:=some 22) #[true,true,true,false,true,true,false,false,false,false] ?_
        refine pq (i:=6) (N:=some 23) #[true,true,true,false,true,true,true,false,false,false] ?_
        refine take_ (i:=3) (N:=some 20) (v:=?_) (a':=?_) #[true,true,true,true,true,true,true,false,false,false] rfl rfl (jpb HT_.out HW_.out (by kernel_rfl)) (fun _ _ _ h=>h) (Or.inl ⟨by rfl,?_⟩) hHeld ?_ ?_
        rotate_left
        ·rintro w' ⟨s0,s1,s2,s3,s4,s5,s6,s7⟩
         go_simp
         with_reducible rfl
        rotate_left
        ·exact sa
        refine take_ (i:=7) (N:=some 24) (v:=?_) (a':=?_) #[true,true,true,true,true,true,true,true,false,false] rfl rfl (jpb HT_.out HW_.out (by kernel_rfl)) (fun _ _ _ h=>h) (Or.inl ⟨by rfl,?_⟩) hHeld ?_ ?_
        rotate_left
        ·rintro w' ⟨s0,s1,s2,s3,s4,s5,s6,s7⟩
         go_simp
         with_reducible rfl
        rotate_left
        ·exact sa
        refine one_ (i:=8) (N:=some 25) #[true,true,true,true,true,true,true,true,true,false] rfl rfl (one_of HT_.out (by kernel_rfl)) (by decide) (fun K hK=>?_)
        refine goes_ Tryd.func22 (by kernel_rfl) rfl #[.agg #[.int .i64 ((jb l0 x5_1).f0), .int .i64 ((jb l0 x5_1).f1), .int .i64 ((jb l0 x5_1).f2), .int .i64 ((jb l0 x5_1).f3)], .agg #[.int .i64 ((jb l1 x5_1).f0), .int .i64 ((jb l1 x5_1).f1), .int .i64 ((jb l1 x5_1).f2), .int .i64 ((jb l1 x5_1).f3)]] (by rfl) rfl rfl (aq) ?_
        with_reducible refine (jnb.calls ((jb l0 x5_1).f0) ((jb l0 x5_1).f1) ((jb l0 x5_1).f2) ((jb l0 x5_1).f3) ((jb l1 x5_1).f0) ((jb l1 x5_1).f1) ((jb l1 x5_1).f2) ((jb l1 x5_1).f3) true _ A7.out).mono ?_
        rintro e w10 ⟨rfl,hb⟩
        refine ⟨_,rfl,?_⟩
        replace HB:=am (jc (bq) hb)
        (try clear hb)
        (try clear hb2)
        (try clear hk)
        (try clear hi)
        refine hK.out _ _ ⟨((HB.out.cell (World.block_lt_of_cell? w _ hw291_0)).trans hw291_0),((HB.out.cell (World.block_lt_of_cell? w _ hw291_1)).trans hw291_1),((HB.out.cell (World.block_lt_of_cell? w _ hw291_2)).trans hw291_2),((HB.out.cell (World.block_lt_of_cell? w _ hw291_3)).trans hw291_3),((HB.out.cell (World.block_lt_of_cell? w _ hw292_0)).trans hw292_0),((HB.out.cell (World.block_lt_of_cell? w _ hw292_1)).trans hw292_1),((HB.out.cell (World.block_lt_of_cell? w _ hw292_2)).trans hw292_2),((HB.out.cell (World.block_lt_of_cell? w _ hw292_3)).trans hw292_3)⟩ (fun hHeld=>?_)
        clear hK K
        refine norm_ (a':=?_) ?_ ?_
        rotate_left
        ·show Act.put _ (some 25) _=_
         simp only [Act.put,List.setIfInBounds_toArray,List.set_cons_zero,List.set_cons_succ,jlb,job]
         rfl
        refine pq (i:=9) (N:=some 26) #[true,true,true,true,true,true,true,true,true,true] ?_
        refine done_ (done_of HT_.out (by kernel_rfl)) ?_
        try go_wp2
        go_roundg k1
        case measure=>have:=HK1.out;omega
        case rel=>exact ⟨(wrap64 (x5_1+1)),(sq),H',⟨by have:=HK1.out;omega⟩,⟨bq⟩⟩
       ·replace c8:=Bool.eq_false_iff.mpr c8
        subst c8
        have H1:(some false)=some r:=by rw [if_neg (show ¬ (false=true) by decide)] at H;exact H
        clear H
        have H:=H1
        clear H1
        obtain rfl:=Option.some.inj H
        try go_wp2
        replace HB:=am (jy HB.out)
        have p291:0≤(x5_1:Int):=ozD (uq)
        have q291:x5_1<(l0.length:Int):=ozD (uq)
        obtain ⟨ad291,e291,hx291_0,hx291_1,hx291_2,hx291_3⟩:=jla HR0.out x5_1 p291 q291
        have hw291_3:=hx291_3
        have hw291_2:=hx291_2
        have hw291_1:=hx291_1
        have hw291_0:=hx291_0
        cases e291
        replace hx291_0:=cb HB.out hx291_0
        replace hx291_1:=cb HB.out hx291_1
        replace hx291_2:=cb HB.out hx291_2
        replace hx291_3:=cb HB.out hx291_3
        replace p291:=ezT p291
        replace q291:=ezT q291
        have p292:0≤(x5_1:Int):=ozD (uq)
        have q292:x5_1<(l1.length:Int):=ozD (uq)
        obtain ⟨ad292,e292,hx292_0,hx292_1,hx292_2,hx292_3⟩:=jla HR1.out x5_1 p292 q292
        have hw292_3:=hx292_3
        have hw292_2:=hx292_2
        have hw292_1:=hx292_1
        have hw292_0:=hx292_0
        cases e292
        replace hx292_0:=cb HB.out hx292_0
        replace hx292_1:=cb HB.out hx292_1
        replace hx292_2:=cb HB.out hx292_2
        replace hx292_3:=cb HB.out hx292_3
        replace p292:=ezT p292
        replace q292:=ezT q292
        refine start_ (n:=10) (S:=fun w'=>w'.cell? (ad291.add ((x5_1).toNat * 4))=some (.int .i64 ((jb l0 x5_1).f0))∧w'.cell? ⟨(ad291.add ((x5_1).toNat * 4)).block,(ad291.add ((x5_1).toNat * 4)).off+1,none⟩=some (.int .i64 ((jb l0 x5_1).f1))∧w'.cell? ⟨(ad291.add ((x5_1).toNat * 4)).block,(ad291.add ((x5_1).toNat * 4)).off+2,none⟩=some (.int .i64 ((jb l0 x5_1).f2))∧w'.cell? ⟨(ad291.add ((x5_1).toNat * 4)).block,(ad291.add ((x5_1).toNat * 4)).off+3,none⟩=some (.int .i64 ((jb l0 x5_1).f3))∧w'.cell? (ad292.add ((x5_1).toNat * 4))=some (.int .i64 ((jb l1 x5_1).f0))∧w'.cell? ⟨(ad292.add ((x5_1).toNat * 4)).block,(ad292.add ((x5_1).toNat * 4)).off+1,none⟩=some (.int .i64 ((jb l1 x5_1).f1))∧w'.cell? ⟨(ad292.add ((x5_1).toNat * 4)).block,(ad292.add ((x5_1).toNat * 4)).off+2,none⟩=some (.int .i64 ((jb l1 x5_1).f2))∧w'.cell? ⟨(ad292.add ((x5_1).toNat * 4)).block,(ad292.add ((x5_1).toNat * 4)).off+3,none⟩=some (.int .i64 ((jb l1 x5_1).f3))) (ds:=[]) #[false,false,false,false,false,false,false,false,false,false] (by kernel_rfl) rfl rfl ⟨((HB.out.cell (World.block_lt_of_cell? w _ hw291_0)).trans hw291_0),((HB.out.cell (World.block_lt_of_cell? w _ hw291_1)).trans hw291_1),((HB.out.cell (World.block_lt_of_cell? w _ hw291_2)).trans hw291_2),((HB.out.cell (World.block_lt_of_cell? w _ hw291_3)).trans hw291_3),((HB.out.cell (World.block_lt_of_cell? w _ hw292_0)).trans hw292_0),((HB.out.cell (World.block_lt_of_cell? w _ hw292_1)).trans hw292_1),((HB.out.cell (World.block_lt_of_cell? w _ hw292_2)).trans hw292_2),((HB.out.cell (World.block_lt_of_cell? w _ hw292_3)).trans hw292_3)⟩ (fun hHeld=>?_);refine with_tabW jF.tab6 jF.bits6 (fun HT_ HW_=>?_)
        generalize wr.drew=w11 at HB hx291_0 hx291_1 hx291_2 hx291_3 hx292_0 hx292_1 hx292_2 hx292_3 hHeld ⊢
        refine pq (i:=0) (N:=some 17) #[true,false,false,false,false,false,false,false,false,false] ?_
        refine pq (i:=1) (N:=some 18) #[true,true,false,false,false,false,false,false,false,false] ?_
        refine pq (i:=2) (N:=some 19) #[true,true,true,false,false,false,false,false,false,false] ?_
        refine pq (i:=4) (N:=some 21) #[true,true,true,false,true,false,false,false,false,false] ?_
        refine pq (i:=5) (N:=some 22) #[true,true,true,false,true,true,false,false,false,false] ?_
        refine pq (i:=6) (N:=some 23) #[true,true,true,false,true,true,true,false,false,false] ?_
        refine take_ (i:=3) (N:=some 20) (v:=?_) (a':=?_) #[true,true,true,true,true,true,true,false,false,false] rfl rfl (jpb HT_.out HW_.out (by kernel_rfl)) (fun _ _ _ h=>h) (Or.inl ⟨by rfl,?_⟩) hHeld ?_ ?_
        rotate_left
        ·rintro w' ⟨s0,s1,s2,s3,s4,s5,s6,s7⟩
         go_simp
         with_reducible rfl
        rotate_left
        ·exact sa
        refine take_ (i:=7) (N:=some 24) (v:=?_) (a':=?_) #[true,true,true,true,true,true,true,true,false,false] rfl rfl (jpb HT_.out HW_.out (by kernel_rfl)) (fun _ _ _ h=>h) (Or.inl ⟨by rfl,?_⟩) hHeld ?_ ?_
        rotate_left
        ·rintro w' ⟨s0,s1,s2,s3,s4,s5,s6,s7⟩
         go_simp
         with_reducible rfl
        rotate_left
        ·exact sa
        refine one_ (i:=8) (N:=some 25) #[true,true,true,true,true,true,true,true,true,false] rfl rfl (one_of HT_.out (by kernel_rfl)) (by decide) (fun K hK=>?_)
        refine goes_ Tryd.func22 (by kernel_rfl) rfl #[.agg #[.int .i64 ((jb l0 x5_1).f0), .int .i64 ((jb l0 x5_1).f1), .int .i64 ((jb l0 x5_1).f2), .int .i64 ((jb l0 x5_1).f3)], .agg #[.int .i64 ((jb l1 x5_1).f0), .int .i64 ((jb l1 x5_1).f1), .int .i64 ((jb l1 x5_1).f2), .int .i64 ((jb l1 x5_1).f3)]] (by rfl) rfl rfl (aq) ?_
        with_reducible refine (jnb.calls ((jb l0 x5_1).f0) ((jb l0 x5_1).f1) ((jb l0 x5_1).f2) ((jb l0 x5_1).f3) ((jb l1 x5_1).f0) ((jb l1 x5_1).f1) ((jb l1 x5_1).f2) ((jb l1 x5_1).f3) false _ A7.out).mono ?_
        rintro e w12 ⟨rfl,hb⟩
        refine ⟨_,rfl,?_⟩
        replace HB:=am (jc (bq) hb)
        (try clear hb)
        (try clear hb2)
        (try clear hk)
        (try clear hi)
        refine hK.out _ _ ⟨((HB.out.cell (World.block_lt_of_cell? w _ hw291_0)).trans hw291_0),((HB.out.cell (World.block_lt_of_cell? w _ hw291_1)).trans hw291_1),((HB.out.cell (World.block_lt_of_cell? w _ hw291_2)).trans hw291_2),((HB.out.cell (World.block_lt_of_cell? w _ hw291_3)).trans hw291_3),((HB.out.cell (World.block_lt_of_cell? w _ hw292_0)).trans hw292_0),((HB.out.cell (World.block_lt_of_cell? w _ hw292_1)).trans hw292_1),((HB.out.cell (World.block_lt_of_cell? w _ hw292_2)).trans hw292_2),((HB.out.cell (World.block_lt_of_cell? w _ hw292_3)).trans hw292_3)⟩ (fun hHeld=>?_)
        clear hK K
        refine norm_ (a':=?_) ?_ ?_
        rotate_left
        ·show Act.put _ (some 25) _=_
         simp only [Act.put,List.setIfInBounds_toArray,List.set_cons_zero,List.set_cons_succ,jlb,job]
         rfl
        refine pq (i:=9) (N:=some 26) #[true,true,true,true,true,true,true,true,true,true] ?_
        refine done_ (done_of HT_.out (by kernel_rfl)) ?_
        try go_wp2
        go_ret
        exact ⟨Y0,bq⟩
      ·rw [if_neg c6] at H
       exact absurd H (by simp)
     ·rw [if_neg c5] at H
      exact absurd H (by simp)
    ·rw [if_neg c4] at H
     have c4b0:decide (x5_1<(l0.length:Int))=false:=dzF c4
     clear c4
     obtain rfl:=Option.some.inj H
     go_wp2
     go_ret
     exact ⟨Y0,bq⟩
 ·rw [if_neg c3] at H
  have c3b0:((l0.length:Int) == (l1.length:Int))=false:=beq_eq_false_iff_ne.mpr c3
  have c3b1:((l0.length:Int) != (l1.length:Int))=true:=bne_iff_ne.mpr c3
  have c3b2:(l0.length == l1.length)=false:=by first | simpa using c3 |(simp at c3 ⊢;omega)
  obtain rfl:=Option.some.inj H
  go_enter Tryd.func11,Tryd.ntmps11
  go_wp2
  go_ret
  exact ⟨Y0,bq⟩
end Go.Proofs.YtegpknnlggkcpaaDoor.P
end
