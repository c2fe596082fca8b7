/- One part of the proofs on this program: functions of the program as plain functions, that the code comes to them, and facts on them. -/
import Derived.Test.YtecdfgejmbpclaaYAll1
import Derived.Test.YtecdfgejmbpclaaYWAuto
section
namespace Go.Proofs.Ytecdfgejmbpclaa.P
open Go.RowKit Go.Proofs.YtecdfgejmbpclaaW.PrintWords Go.Proofs.YtecdfgejmbpclaaW.PrintLast Go.Proofs.YtecdfgejmbpclaaW.PrintMore
attribute [local go_sem] jT jR jda jca jK jJ jS jQ je
set_option linter.unusedVariables false
set_option linter.unusedSimpArgs false
def jPb (l : List Int) (x : Int) : Nat → Nat → Nat
 | 0,k=>k
 | n+1,k=>if (k:Int)<(l.length:Int)∧rd l (k:Int)<x then jPb l x n (k+1) else k
def soIns (l : List Int) (x : Int) : List Int := if jPb l x l.length 0 = l.length ∨ rd l (jPb l x l.length 0 : Nat) ≠ x then l.take (jPb l x l.length 0) ++ [x] ++ l.drop (jPb l x l.length 0) else l
def soAll : List Int → List Int → Option (List Int)
 | [],out=>some out
 | x :: r,out=>if out.length<17592186044410 then soAll r (soIns out x) else none
def jRa.f (l0 : List Int) : Option (List Int) := soAll l0 []
theorem so_empty (W : World) (base : Nat) (ok : Nat → Prop) (hb : base ≤ W.heap.size) (hok : ok W.heap.size) : Kd.R (Kd.int .i64) 3 (W.alloc (.cells #[] 3)) base ok (.slice (some ⟨W.heap.size, 0, none⟩) 0 0) [] := by
 refine Kd.R_of_own ?_ (fun k hk=>?_)
 ·exact World.weakRow_lit (base:=base) (e:=3) (size:=1) W #[] 0 hb (by simp [maxLen]) (by simp)
 ·simp [Value.ownBlock] at hk
  rw [← hk];exact hok
theorem so_one {W : World} {b : Nat} {x : Int} (h : W.cell? ⟨b, 0, none⟩ = some (.int .i64 x)) : Kd.C (Kd.int .i64) W (some ⟨b, 0, none⟩) 1 [x] :=
 Kd.jbc (d:=0) (h1:=fun _=>rfl) ⟨rfl,by simp,fun _=>⟨_,rfl,fun j hj=>by
  obtain rfl:j=0:=by simpa using hj
  exact h⟩⟩
theorem rc1 {w : World} {b : Nat} {v : Value} {l : List Value} {t : TypeId} (h : w.heap[b]? = some (.cells ⟨v :: l⟩ t (0, 0))) : w.cell? ⟨b, 0, none⟩ = some v := (jL h 0).trans rfl
theorem wp_name {P : Program} {c : Code} {Q : Exit → Act → World → Prop} {a : Act} {W : World} (h : ∀ W5, W5 = W → c.wp P Q a W5) : c.wp P Q a W := h W rfl
set_option maxHeartbeats 8000000 in
set_option maxRecDepth 100000 in
theorem jRa.calls (A0 : Option Addr) (c0 : Nat) (l0 : List Int) (r : List Int) (w : World) (hr0 : Kd.C (Kd.int .i64) w A0 l0.length l0) (hc0 : l0.length ≤ c0) (h : jRa.f l0 = some r) :
  Calls Try.prog 52 #[.slice A0 l0.length c0] w fun e w'=>∃ v0_:Value,e=.returned (v0_)∧Kd.R (Kd.int .i64) 3 w' w.heap.size (fun _=>True) v0_ r∧Below w.heap.size w w':=by
 have HR0:=am hr0
 have hm:l0.length≤9223372036854775807:=Kd.C_max hr0
 have H':=am (show soAll l0 []=some r from h)
 have HB:=am (Below.refl w.heap.size w)
 obtain ⟨i03,hi03,_,hsz3,_⟩:=info_parts info3
 clear hr0 h
 go_enter Try.func52,Try.ntmps52
 go_wp2_with ((with_reducible refine jv (N:=6) rfl ?_);refine Kd.R_lit (Kd.int .i64) _ 3 ?hg (N:=6) ?hd (xs:=([]:List Int)) (inner:=[]) (ok:=fun _=>True) (okp:=fun _=>True) ?hr ?hp (fun _ hk=>hk) trivial (Below.refl _ _) (Nat.le_refl _) (by simp) ?_;(case hd=>rfl);(case hg=>rfl);(case hr=>exact Y3);(case hp=>exact (Reps.none _ _));intro v111 w4 ho5 hb hg_ hnew_;clear hg_ hnew_;have n0_:=am (Kd.jya ho5 (jE (bq)));have n2_:=am (jd (bq) hb);clear HB;have HO:=n0_;have HB:=n2_;clear n0_ n2_ hb ho5)
 go_loopw [3,4] (fun v3 v4 wr=>∃ (i:Nat) (out:List Int),i≤l0.length∧v4=.int .i64 i∧jy (soAll (l0.drop i) out=some r)∧jy (Kd.R (Kd.int .i64) 3 wr w.heap.size (fun _=>True) v3 out)∧jy (Below w.heap.size w wr)) (fun _ v4 _=>l0.length - (intOf v4).toNat)
 case atStart=>exact ⟨0,[],Nat.zero_le _,rfl,H',HO,HB⟩
 case round =>
  clear H' HO HB
  obtain ⟨i,out,hi,rfl,HA,HO,HB⟩:=hrel
  obtain ⟨Ao,co,eo⟩:=Kd.jwa HO.out
  subst eo
  have hmo:out.length≤9223372036854775807:=Kd.C_max (Kd.jq HO.out).2.2
  by_cases hlt:i<l0.length
  ·have hA:=HA.out
   obtain ⟨ad,rfl,hx0⟩:=Kd.jrb HR0.out (i:Int) (by omega) (by omega)
   have hrd:rd l0 (i:Int)=l0[i]:=by simp [rd,List.getD_eq_getElem?_getD,hlt]
   rw [List.drop_eq_getElem_cons hlt,← hrd,soAll] at hA
   rw [Int.toNat_natCast] at hx0
   generalize rd l0 (i:Int)=x at hA hx0
   clear HA hrd
   by_cases hlen:out.length<17592186044410
   ·rw [if_pos hlen] at hA
    have HN:=am hA
    have HX:=am hx0
    have LM:=am hlen
    have hlb:=ezT (show (i:Int)<(l0.length:Int) by omega)
    clear hA hlen hx0
    go_wp2
    obtain ⟨W1,rfl⟩:∃ W1,W1=wr:=⟨_,rfl⟩
    go_loopw [5] (fun v5 w3=>∃ kk:Nat,kk≤out.length∧v5=.int .i64 kk∧jy (jPb out x (out.length - kk) kk=jPb out x out.length 0)∧jy (Kd.R (Kd.int .i64) 3 w3 w.heap.size (fun _=>True) (.slice Ao out.length co) out)∧jy (Below w.heap.size w w3)) (fun v5 _=>out.length - (intOf v5).toNat)
    case atStart=>exact ⟨0,Nat.zero_le _,rfl,⟨rfl⟩,HO,HB⟩
    case round =>
     clear HO HB
     obtain ⟨kk,hkk,rfl,HS,HO,HB⟩:=hrel
     have hx:=jsa HB.out HX.out
     by_cases hk:kk<out.length
     ·obtain ⟨ado,rfl,hy⟩:=Kd.jrb (Kd.jq HO.out).2.2 (kk:Int) (by omega) (by omega)
      rw [Int.toNat_natCast] at hy
      have hkb:=ezT (show (kk:Int)<(out.length:Int) by omega)
      by_cases hc:rd out (kk:Int)<x
      ·have HS2:=am (show jPb out x (out.length - (kk+1)) (kk+1)=jPb out x out.length 0 by rw [← HS.out,show out.length - kk=(out.length - (kk+1))+1 by omega];conv=>rhs;rw [jPb];rw [if_pos ⟨by omega,hc⟩])
       have hcb:=dzT hc
       clear hc HS
       go_wp2
       repeat (go_quiet (fail);try go_wp2)
       go_roundw
       case rel=>exact ⟨kk+1,by omega,by go_num,HS2,⟨rq HO.out⟩,⟨(bq)⟩⟩
       case measure=>simp [intOf];omega
      ·have HE:=am (show jPb out x out.length 0=kk by rw [← HS.out,show out.length - kk=(out.length - (kk+1))+1 by omega,jPb,if_neg (fun h=>hc h.2)])
       have hcb:=dzF hc
       have hne:=eq_false (show ¬ (kk:Int)=(out.length:Int) by omega)
       have hneb:((kk:Int) == (out.length:Int))=false:=by simpa using hne
       clear hc HS hne
       by_cases hq:rd out (kk:Int)=x
       ·have hqb:(rd out (kk:Int) != x)=false:=by simpa using hq
        have HN2:=am (show soAll (l0.drop (i+1)) out=some r by have h:=HN.out;rw [soIns,HE.out,if_neg (fun h=>h.elim (fun e=>by omega) (fun e=>e hq))] at h;exact h)
        clear hq HE
        go_wp2
        repeat (go_quiet (fail);try go_wp2)
        go_roundw
        case rel=>exact ⟨i+1,out,hlt,by go_num,HN2,⟨rq HO.out⟩,⟨(bq)⟩⟩
        case measure=>simp [intOf];omega
       ·have hqb:(rd out (kk:Int) != x)=true:=by simpa using hq
        have HN2:=am (show soAll (l0.drop (i+1)) (out.take kk ++ [x] ++ out.drop kk)=some r by have h:=HN.out;rw [soIns,HE.out,if_pos (.inr hq)] at h;exact h)
        clear hq HE
        go_wp2
        repeat (go_quiet (fail);try go_wp2)
        refine wp_name (fun W5 hW5=>?_)
        have HO5:=am (show Kd.R (Kd.int .i64) 3 W5 w.heap.size (fun _=>True) (.slice (some ado) out.length co) out by rw [hW5];(with_reducible repeat (first | apply Kd.jNa | apply Kd.jYa | apply Kd.jHa));exact HO.out)
        have HB5:=am (show Below w.heap.size w W5 by rw [hW5];exact (bq))
        clear hW5 HO HB
        refine wp_region_held (S:=fun W=>W.cell? (ad.add i)=some (.int .i64 x)) (by kernel_rfl) ?_
        change wpAnyH _ _ _ _ _ _ _ _ (World.drew _)
        have HB6:=am (jl HB5.out)
        have HO6:=am (Kd.jHa HO5.out)
        obtain ⟨W6,hW6⟩:∃ W6,W6=W5.drew:=⟨_,rfl⟩
        rw [← hW6] at HB6 HO6
        rw [← hW6]
        clear hW6 HO5 HB5
        obtain ⟨ht1,ht2,ht3⟩:=print_take_int (P:=Try.prog) (k:=.i64) 45 3 Try.underlying45 hi03 hsz3 (some ado) co out (kk:Int) (by omega) (by omega) (Kd.jq HO6.out).2.1
        obtain ⟨AD,hd1,hd2,hd3⟩:=print_cut_int (P:=Try.prog) (k:=.i64) 45 3 Try.underlying45 hi03 hsz3 (some ado) co out (kk:Int) (by omega) (by omega) (Kd.jq HO6.out).2.1
        rw [Int.toNat_natCast] at ht1 ht2 ht3 hd1 hd2 hd3
        have CT:=am (fun W (hb:Below W6.heap.size W6 W)=>(Kd.jbc (h1:=fun _=>rfl) (ht2 _ (Kd.jYb (d:=(0:Int)) (Kd.jq (Kd.jU HO6.out hb)).2.2)):Kd.C (Kd.int .i64) W (some ado) (out.take kk).length (out.take kk)))
        have CD:=am (fun W (hb:Below W6.heap.size W6 W)=>(Kd.jbc (h1:=fun _=>rfl) (hd2 _ (Kd.jYb (d:=(0:Int)) (Kd.jq (Kd.jU HO6.out hb)).2.2)):Kd.C (Kd.int .i64) W AD (out.drop kk).length (out.drop kk)))
        have HL:=am (show (out.take kk).length+(out.drop kk).length=out.length by rw [List.length_take,List.length_drop];omega)
        clear ht2 ht3 hd2 hd3
        have HS6:=am (fun W (hb:Below W6.heap.size W6 W)=>jsa (Below.trans HB6.out (hb.mono HB6.out.size)) HX.out)
        have HC6:=am (Below.refl W6.heap.size W6)
        generalize hT:out.take kk=T at ht1 CT HL HN2 ⊢
        generalize hD:out.drop kk=D at hd1 CD HL HN2 ⊢
        clear hT hD
        refine wpAnyH_take (i:=1) (v:=?_) rfl (by kernel_rfl) (by kernel_rfl) (by kernel_rfl) (fun _ _ _ h=>h) (Or.inl ⟨by rfl,?_⟩) (HS6.out _ (Below.refl _ _)) ?_
        rotate_left
        ·rintro W s1
         go_simp
         with_reducible rfl
        refine wpAnyH_take (i:=2) (v:=?_) rfl (by kernel_rfl) (by kernel_rfl) (by kernel_rfl) (fun _ _ _ h=>h) (Or.inl ⟨by rfl,?_⟩) (HS6.out _ (Below.refl _ _)) ?_
        rotate_left
        ·rintro W s1
         go_simp
         with_reducible rfl
        refine wpAnyH_take (i:=3) (v:=?_) rfl (by kernel_rfl) (by kernel_rfl) (by kernel_rfl) (fun _ _ _ h=>h) (Or.inl ⟨by rfl,?_⟩) (HS6.out _ (Below.refl _ _)) ?_
        rotate_left
        ·rintro W s1
         go_simp
         with_reducible rfl
        refine wpAnyH_take (i:=5) (v:=?_) rfl (by kernel_rfl) (by kernel_rfl) (by kernel_rfl) (fun _ _ _ h=>h) (Or.inl ⟨by rfl,?_⟩) (HS6.out _ (Below.refl _ _)) ?_
        rotate_left
        ·rintro W s1
         go_simp
         with_reducible rfl
        refine wpAnyH_take (i:=6) (v:=?_) rfl (by kernel_rfl) (by kernel_rfl) (by kernel_rfl) (fun _ _ _ h=>h) (Or.inl ⟨by rfl,?_⟩) (HS6.out _ (Below.refl _ _)) ?_
        rotate_left
        ·rintro W s1
         go_simp
         with_reducible rfl
        refine wpAnyH_take (i:=7) (v:=?_) rfl (by kernel_rfl) (by kernel_rfl) (by kernel_rfl) (fun _ _ _ h=>h) (Or.inl ⟨by rfl,?_⟩) (HS6.out _ (Below.refl _ _)) ?_
        rotate_left
        ·rintro W s1
         go_simp
         with_reducible rfl
        refine wpAnyH_take (i:=8) (v:=?_) rfl (by kernel_rfl) (by kernel_rfl) (by kernel_rfl) (fun _ _ _ h=>h) (Or.inl ⟨by rfl,?_⟩) (HS6.out _ (Below.refl _ _)) ?_
        rotate_left
        ·rintro W s1
         go_simp
         with_reducible rfl
        refine wpAnyH_take (i:=11) (v:=?_) rfl (by kernel_rfl) (by kernel_rfl) (by kernel_rfl) (fun _ _ _ h=>h) (Or.inl ⟨by rfl,?_⟩) (HS6.out _ (Below.refl _ _)) ?_
        rotate_left
        ·rintro W s1
         go_simp
         with_reducible rfl
        refine wpAnyH_take (i:=12) (v:=?_) rfl (by kernel_rfl) (by kernel_rfl) (by kernel_rfl) (fun _ _ _ h=>h) (Or.inl ⟨by rfl,?_⟩) (HS6.out _ (Below.refl _ _)) ?_
        rotate_left
        ·rintro W s1
         go_simp
         with_reducible rfl
        refine wpAnyH_take (i:=13) (v:=?_) rfl (by kernel_rfl) (by kernel_rfl) (by kernel_rfl) (fun _ _ _ h=>h) (Or.inl ⟨by rfl,?_⟩) (HS6.out _ (Below.refl _ _)) ?_
        rotate_left
        ·rintro W s1
         go_simp
         with_reducible rfl
        refine wpAnyH_all (rs:=[0,9]) (by kernel_rfl) (by simp) ?_
        intro ii hii
        rcases (show ii=0∨ii=9 by simpa using hii) with rfl | rfl
        ·clear hii
         refine wpOp_step rfl (fun K hK=>?_)
         go_simp
         have HV7:=am (so_empty (W6) W6.heap.size (fun _=>True) HC6.out.size trivial)
         have HC7:=am (jk HC6.out (.cells #[] 3))
         refine hK _ _ ⟨HS6.out _ HC7.out,?_⟩
         clear hK K
         refine wpAnyH_all (rs:=[4,9]) (by kernel_rfl) (by simp) ?_
         intro ii hii
         rcases (show ii=4∨ii=9 by simpa using hii) with rfl | rfl
         ·clear hii
          refine wpOp_step rfl (fun K hK=>?_)
          refine Kd.jX (Kd.int .i64) (Rr:=Kd.K (Kd.int .i64) ((W6).alloc (.cells #[] 3))) (w0:=W6) (W:=(W6).alloc (.cells #[] 3)) W6.heap.size rfl (.tmp 45) (.tmp 48) 45 3 (.int .i64 0) 8 rfl Try.underlying45 info3 rfl (by decide) (by decide) (.slice (some ⟨W6.heap.size,0,none⟩) 0 0) (([]:List Int)) T (some ado) T.length co (fun _=>True) (fun _=>False) rfl rfl HV7.out (CT.out _ HC7.out) (fun _ _ h=>h) (fun _ hk=>hk.elim) (fun _ _=>trivial) HC7.out HC7.out.size (by have:=LM.out;have:=HL.out;simp only [List.length_append,List.length_nil,List.length_singleton];omega) ?_
          intro v8 w8 ho8 hb8 hg8 hat8
          have HV8:=am ho8
          have HC8:=am hb8
          clear ho8 hb8 hg8 hat8
          refine hK _ _ ⟨HS6.out _ HC8.out,?_⟩
          clear hK K
          refine wpAnyH_all (rs:=[9]) (by kernel_rfl) (by simp) ?_
          intro ii hii
          obtain rfl:ii=9:=by simpa using hii
          clear hii
          refine wpOp_step rfl (fun K hK=>?_)
          go_simp
          have HV9:=am (Kd.jNa (Kd.jia (Kd.jNb HV8.out) (ok':=fun k=>k≠(w8.heap.size)) (fun k hk=>by have h:=hk.2.2.1;(try simp only [World.size_alloc] at h);omega)) (.cells #[.int .i64 x] 3))
          have LB9:=am (heap_alloc_new (w8) (.cells #[.int .i64 x] 3))
          have HC9:=am (jk HC8.out (.cells #[.int .i64 x] 3))
          refine hK _ _ ⟨HS6.out _ HC9.out,?_⟩
          clear hK K
          refine wpAnyH_all (rs:=[10]) (by kernel_rfl) (by simp) ?_
          intro ii hii
          obtain rfl:ii=10:=by simpa using hii
          clear hii
          refine wpOp_step rfl (fun K hK=>?_)
          refine Kd.jX (Kd.int .i64) (Rr:=Kd.K (Kd.int .i64) ((w8).alloc (.cells #[.int .i64 x] 3))) (w0:=W6) (W:=(w8).alloc (.cells #[.int .i64 x] 3)) W6.heap.size rfl (.tmp 49) (.tmp 54) 45 3 (.int .i64 0) 8 rfl Try.underlying45 info3 rfl (by decide) (by decide) v8 (([]:List Int) ++ T) [x] (some ⟨(w8.heap.size),0,none⟩) 1 1 (fun k=>k≠(w8.heap.size)) (fun _=>False) rfl rfl HV9.out (so_one (rc1 LB9.out)) (fun _ _ h=>h) (fun _ hk=>hk.elim) (fun q hq hqe=>by have:=jZ LB9.out;omega) HC9.out HC9.out.size (by have:=LM.out;have:=HL.out;simp only [List.length_append,List.length_nil,List.length_singleton];omega) ?_
          intro v10 w10 ho10 hb10 hg10 hat10
          have HV10:=am (Kd.jia ho10 (ok':=fun _=>True) (fun _ _=>trivial))
          have HC10:=am hb10
          clear ho10 hb10 hg10 hat10
          refine hK _ _ ⟨HS6.out _ HC10.out,?_⟩
          clear hK K
          refine wpAnyH_all (rs:=[14]) (by kernel_rfl) (by simp) ?_
          intro ii hii
          obtain rfl:ii=14:=by simpa using hii
          clear hii
          refine wpOp_step rfl (fun K hK=>?_)
          refine Kd.jX (Kd.int .i64) (Rr:=Kd.K (Kd.int .i64) (w10)) (w0:=W6) (W:=w10) W6.heap.size rfl (.tmp 55) (.tmp 58) 45 3 (.int .i64 0) 8 rfl Try.underlying45 info3 rfl (by decide) (by decide) v10 (([]:List Int) ++ T ++ [x]) D AD D.length (co - kk) (fun _=>True) (fun _=>False) rfl rfl HV10.out (CD.out _ HC10.out) (fun _ _ h=>h) (fun _ hk=>hk.elim) (fun _ _=>trivial) HC10.out HC10.out.size (by have:=LM.out;have:=HL.out;simp only [List.length_append,List.length_nil,List.length_singleton];omega) ?_
          intro v11 w11 ho11 hb11 hg11 hat11
          have HV11:=am ho11
          have HC11:=am hb11
          clear ho11 hb11 hg11 hat11
          refine hK _ _ ⟨HS6.out _ HC11.out,?_⟩
          clear hK K
          refine wpAnyH_all (rs:=[15]) (by kernel_rfl) (by simp) ?_
          intro ii hii
          obtain rfl:ii=15:=by simpa using hii
          clear hii
          refine wpOp_step rfl (fun K hK=>?_)
          go_simp
          refine hK _ _ ⟨HS6.out _ HC11.out,?_⟩
          clear hK K
          refine wpAnyH_done (by kernel_rfl) ?_ _
          go_wp2
          have HB9:=am (Below.trans HB6.out (HC11.out.mono HB6.out.size))
          go_roundw
          case rel=>exact ⟨i+1,T ++ [x] ++ D,hlt,by go_num,HN2,⟨Kd.jia (Kd.jya HV11.out HB6.out.size) (fun _ _=>trivial)⟩,HB9⟩
          case measure=>simp [intOf];omega
         ·clear hii
          refine wpOp_step rfl (fun K hK=>?_)
          go_simp
          have HV8:=am (Kd.jNa (Kd.jia (Kd.jNb HV7.out) (ok':=fun k=>k≠(W6.heap.size+1)) (fun k hk=>by have h:=hk.2.2.1;(try simp only [World.size_alloc] at h);omega)) (.cells #[.int .i64 x] 3))
          have LB8:=am (by have h:=heap_alloc_new ((W6).alloc (.cells #[] 3)) (.cells #[.int .i64 x] 3);simpa only [World.size_alloc] using h:(((W6).alloc (.cells #[] 3)).alloc (.cells #[.int .i64 x] 3)).heap[W6.heap.size+1]?=some (.cells #[.int .i64 x] 3 (0,0)))
          have HC8:=am (jk HC7.out (.cells #[.int .i64 x] 3))
          refine hK _ _ ⟨HS6.out _ HC8.out,?_⟩
          clear hK K
          refine wpAnyH_all (rs:=[4]) (by kernel_rfl) (by simp) ?_
          intro ii hii
          obtain rfl:ii=4:=by simpa using hii
          clear hii
          refine wpOp_step rfl (fun K hK=>?_)
          refine Kd.jX (Kd.int .i64) (Rr:=Kd.K (Kd.int .i64) (((W6).alloc (.cells #[] 3)).alloc (.cells #[.int .i64 x] 3))) (w0:=W6) (W:=((W6).alloc (.cells #[] 3)).alloc (.cells #[.int .i64 x] 3)) W6.heap.size rfl (.tmp 45) (.tmp 48) 45 3 (.int .i64 0) 8 rfl Try.underlying45 info3 rfl (by decide) (by decide) (.slice (some ⟨W6.heap.size,0,none⟩) 0 0) (([]:List Int)) T (some ado) T.length co (fun k=>k≠(W6.heap.size+1)) (fun _=>False) rfl rfl HV8.out (CT.out _ HC8.out) (fun _ _ h=>h) (fun _ hk=>hk.elim) (fun q hq hqe=>by have:=jZ LB8.out;omega) HC8.out HC8.out.size (by have:=LM.out;have:=HL.out;simp only [List.length_append,List.length_nil,List.length_singleton];omega) ?_
          intro v9 w9 ho9 hb9 hg9 hat9
          have HV9:=am ho9
          have HC9:=am hb9
          have LB9:=am (jAb LB8.out hg9 (Kd.R_away HV8.out (fun q hq=>hq)))
          clear ho9 hb9 hg9 hat9
          refine hK _ _ ⟨HS6.out _ HC9.out,?_⟩
          clear hK K
          refine wpAnyH_all (rs:=[10]) (by kernel_rfl) (by simp) ?_
          intro ii hii
          obtain rfl:ii=10:=by simpa using hii
          clear hii
          refine wpOp_step rfl (fun K hK=>?_)
          refine Kd.jX (Kd.int .i64) (Rr:=Kd.K (Kd.int .i64) (w9)) (w0:=W6) (W:=w9) W6.heap.size rfl (.tmp 49) (.tmp 54) 45 3 (.int .i64 0) 8 rfl Try.underlying45 info3 rfl (by decide) (by decide) v9 (([]:List Int) ++ T) [x] (some ⟨(W6.heap.size+1),0,none⟩) 1 1 (fun k=>k≠(W6.heap.size+1)) (fun _=>False) rfl rfl HV9.out (so_one (rc1 LB9.out)) (fun _ _ h=>h) (fun _ hk=>hk.elim) (fun q hq hqe=>by have:=jZ LB9.out;omega) HC9.out HC9.out.size (by have:=LM.out;have:=HL.out;simp only [List.length_append,List.length_nil,List.length_singleton];omega) ?_
          intro v10 w10 ho10 hb10 hg10 hat10
          have HV10:=am (Kd.jia ho10 (ok':=fun _=>True) (fun _ _=>trivial))
          have HC10:=am hb10
          clear ho10 hb10 hg10 hat10
          refine hK _ _ ⟨HS6.out _ HC10.out,?_⟩
          clear hK K
          refine wpAnyH_all (rs:=[14]) (by kernel_rfl) (by simp) ?_
          intro ii hii
          obtain rfl:ii=14:=by simpa using hii
          clear hii
          refine wpOp_step rfl (fun K hK=>?_)
          refine Kd.jX (Kd.int .i64) (Rr:=Kd.K (Kd.int .i64) (w10)) (w0:=W6) (W:=w10) W6.heap.size rfl (.tmp 55) (.tmp 58) 45 3 (.int .i64 0) 8 rfl Try.underlying45 info3 rfl (by decide) (by decide) v10 (([]:List Int) ++ T ++ [x]) D AD D.length (co - kk) (fun _=>True) (fun _=>False) rfl rfl HV10.out (CD.out _ HC10.out) (fun _ _ h=>h) (fun _ hk=>hk.elim) (fun _ _=>trivial) HC10.out HC10.out.size (by have:=LM.out;have:=HL.out;simp only [List.length_append,List.length_nil,List.length_singleton];omega) ?_
          intro v11 w11 ho11 hb11 hg11 hat11
          have HV11:=am ho11
          have HC11:=am hb11
          clear ho11 hb11 hg11 hat11
          refine hK _ _ ⟨HS6.out _ HC11.out,?_⟩
          clear hK K
          refine wpAnyH_all (rs:=[15]) (by kernel_rfl) (by simp) ?_
          intro ii hii
          obtain rfl:ii=15:=by simpa using hii
          clear hii
          refine wpOp_step rfl (fun K hK=>?_)
          go_simp
          refine hK _ _ ⟨HS6.out _ HC11.out,?_⟩
          clear hK K
          refine wpAnyH_done (by kernel_rfl) ?_ _
          go_wp2
          have HB9:=am (Below.trans HB6.out (HC11.out.mono HB6.out.size))
          go_roundw
          case rel=>exact ⟨i+1,T ++ [x] ++ D,hlt,by go_num,HN2,⟨Kd.jia (Kd.jya HV11.out HB6.out.size) (fun _ _=>trivial)⟩,HB9⟩
          case measure=>simp [intOf];omega
        ·clear hii
         refine wpOp_step rfl (fun K hK=>?_)
         go_simp
         have LB7:=am (heap_alloc_new (W6) (.cells #[.int .i64 x] 3))
         have HC7:=am (jk HC6.out (.cells #[.int .i64 x] 3))
         refine hK _ _ ⟨HS6.out _ HC7.out,?_⟩
         clear hK K
         refine wpAnyH_all (rs:=[0]) (by kernel_rfl) (by simp) ?_
         intro ii hii
         obtain rfl:ii=0:=by simpa using hii
         clear hii
         refine wpOp_step rfl (fun K hK=>?_)
         go_simp
         have HV8:=am (by have h:=so_empty ((W6).alloc (.cells #[.int .i64 x] 3)) W6.heap.size (fun k=>k≠(W6.heap.size)) HC7.out.size (by have:=jZ LB7.out;omega);simpa only [World.size_alloc] using h:Kd.R (Kd.int .i64) 3 (((W6).alloc (.cells #[.int .i64 x] 3)).alloc (.cells #[] 3)) W6.heap.size (fun k=>k≠(W6.heap.size)) (.slice (some ⟨W6.heap.size+1,0,none⟩) 0 0) [])
         have HC8:=am (jk HC7.out (.cells #[] 3))
         have LB8:=am (jB LB7.out (.cells #[] 3))
         refine hK _ _ ⟨HS6.out _ HC8.out,?_⟩
         clear hK K
         refine wpAnyH_all (rs:=[4]) (by kernel_rfl) (by simp) ?_
         intro ii hii
         obtain rfl:ii=4:=by simpa using hii
         clear hii
         refine wpOp_step rfl (fun K hK=>?_)
         refine Kd.jX (Kd.int .i64) (Rr:=Kd.K (Kd.int .i64) (((W6).alloc (.cells #[.int .i64 x] 3)).alloc (.cells #[] 3))) (w0:=W6) (W:=((W6).alloc (.cells #[.int .i64 x] 3)).alloc (.cells #[] 3)) W6.heap.size rfl (.tmp 45) (.tmp 48) 45 3 (.int .i64 0) 8 rfl Try.underlying45 info3 rfl (by decide) (by decide) (.slice (some ⟨W6.heap.size+1,0,none⟩) 0 0) (([]:List Int)) T (some ado) T.length co (fun k=>k≠(W6.heap.size)) (fun _=>False) rfl rfl HV8.out (CT.out _ HC8.out) (fun _ _ h=>h) (fun _ hk=>hk.elim) (fun q hq hqe=>by have:=jZ LB8.out;omega) HC8.out HC8.out.size (by have:=LM.out;have:=HL.out;simp only [List.length_append,List.length_nil,List.length_singleton];omega) ?_
         intro v9 w9 ho9 hb9 hg9 hat9
         have HV9:=am ho9
         have HC9:=am hb9
         have LB9:=am (jAb LB8.out hg9 (Kd.R_away HV8.out (fun q hq=>hq)))
         clear ho9 hb9 hg9 hat9
         refine hK _ _ ⟨HS6.out _ HC9.out,?_⟩
         clear hK K
         refine wpAnyH_all (rs:=[10]) (by kernel_rfl) (by simp) ?_
         intro ii hii
         obtain rfl:ii=10:=by simpa using hii
         clear hii
         refine wpOp_step rfl (fun K hK=>?_)
         refine Kd.jX (Kd.int .i64) (Rr:=Kd.K (Kd.int .i64) (w9)) (w0:=W6) (W:=w9) W6.heap.size rfl (.tmp 49) (.tmp 54) 45 3 (.int .i64 0) 8 rfl Try.underlying45 info3 rfl (by decide) (by decide) v9 (([]:List Int) ++ T) [x] (some ⟨(W6.heap.size),0,none⟩) 1 1 (fun k=>k≠(W6.heap.size)) (fun _=>False) rfl rfl HV9.out (so_one (rc1 LB9.out)) (fun _ _ h=>h) (fun _ hk=>hk.elim) (fun q hq hqe=>by have:=jZ LB9.out;omega) HC9.out HC9.out.size (by have:=LM.out;have:=HL.out;simp only [List.length_append,List.length_nil,List.length_singleton];omega) ?_
         intro v10 w10 ho10 hb10 hg10 hat10
         have HV10:=am (Kd.jia ho10 (ok':=fun _=>True) (fun _ _=>trivial))
         have HC10:=am hb10
         clear ho10 hb10 hg10 hat10
         refine hK _ _ ⟨HS6.out _ HC10.out,?_⟩
         clear hK K
         refine wpAnyH_all (rs:=[14]) (by kernel_rfl) (by simp) ?_
         intro ii hii
         obtain rfl:ii=14:=by simpa using hii
         clear hii
         refine wpOp_step rfl (fun K hK=>?_)
         refine Kd.jX (Kd.int .i64) (Rr:=Kd.K (Kd.int .i64) (w10)) (w0:=W6) (W:=w10) W6.heap.size rfl (.tmp 55) (.tmp 58) 45 3 (.int .i64 0) 8 rfl Try.underlying45 info3 rfl (by decide) (by decide) v10 (([]:List Int) ++ T ++ [x]) D AD D.length (co - kk) (fun _=>True) (fun _=>False) rfl rfl HV10.out (CD.out _ HC10.out) (fun _ _ h=>h) (fun _ hk=>hk.elim) (fun _ _=>trivial) HC10.out HC10.out.size (by have:=LM.out;have:=HL.out;simp only [List.length_append,List.length_nil,List.length_singleton];omega) ?_
         intro v11 w11 ho11 hb11 hg11 hat11
         have HV11:=am ho11
         have HC11:=am hb11
         clear ho11 hb11 hg11 hat11
         refine hK _ _ ⟨HS6.out _ HC11.out,?_⟩
         clear hK K
         refine wpAnyH_all (rs:=[15]) (by kernel_rfl) (by simp) ?_
         intro ii hii
         obtain rfl:ii=15:=by simpa using hii
         clear hii
         refine wpOp_step rfl (fun K hK=>?_)
         go_simp
         refine hK _ _ ⟨HS6.out _ HC11.out,?_⟩
         clear hK K
         refine wpAnyH_done (by kernel_rfl) ?_ _
         go_wp2
         have HB9:=am (Below.trans HB6.out (HC11.out.mono HB6.out.size))
         go_roundw
         case rel=>exact ⟨i+1,T ++ [x] ++ D,hlt,by go_num,HN2,⟨Kd.jia (Kd.jya HV11.out HB6.out.size) (fun _ _=>trivial)⟩,HB9⟩
         case measure=>simp [intOf];omega
     ·obtain rfl:kk=out.length:=by omega
      have HE:=am (show jPb out x out.length 0=out.length by rw [← HS.out,Nat.sub_self];rfl)
      have HN2:=am (show soAll (l0.drop (i+1)) (out.take out.length ++ [x] ++ out.drop out.length)=some r by have h:=HN.out;rw [soIns,HE.out,if_pos (.inl rfl)] at h;exact h)
      have hkb:=eq_false (show ¬ (out.length:Int)<(out.length:Int) by omega)
      clear HS HE
      go_wp2
      repeat (go_quiet (fail);try go_wp2)
      refine wp_name (fun W5 hW5=>?_)
      have HO5:=am (show Kd.R (Kd.int .i64) 3 W5 w.heap.size (fun _=>True) (.slice Ao out.length co) out by rw [hW5];(with_reducible repeat (first | apply Kd.jNa | apply Kd.jYa | apply Kd.jHa));exact HO.out)
      have HB5:=am (show Below w.heap.size w W5 by rw [hW5];exact (bq))
      clear hW5 HO HB
      refine wp_region_held (S:=fun W=>W.cell? (ad.add i)=some (.int .i64 x)) (by kernel_rfl) ?_
      change wpAnyH _ _ _ _ _ _ _ _ (World.drew _)
      have HB6:=am (jl HB5.out)
      have HO6:=am (Kd.jHa HO5.out)
      obtain ⟨W6,hW6⟩:∃ W6,W6=W5.drew:=⟨_,rfl⟩
      rw [← hW6] at HB6 HO6
      rw [← hW6]
      clear hW6 HO5 HB5
      obtain ⟨ht1,ht2,ht3⟩:=print_take_int (P:=Try.prog) (k:=.i64) 45 3 Try.underlying45 hi03 hsz3 Ao co out (out.length:Int) (by omega) (by omega) (Kd.jq HO6.out).2.1
      obtain ⟨AD,hd1,hd2,hd3⟩:=print_cut_int (P:=Try.prog) (k:=.i64) 45 3 Try.underlying45 hi03 hsz3 Ao co out (out.length:Int) (by omega) (by omega) (Kd.jq HO6.out).2.1
      rw [Int.toNat_natCast] at ht1 ht2 ht3 hd1 hd2 hd3
      have CT:=am (fun W (hb:Below W6.heap.size W6 W)=>(Kd.jbc (h1:=fun _=>rfl) (ht2 _ (Kd.jYb (d:=(0:Int)) (Kd.jq (Kd.jU HO6.out hb)).2.2)):Kd.C (Kd.int .i64) W Ao (out.take out.length).length (out.take out.length)))
      have CD:=am (fun W (hb:Below W6.heap.size W6 W)=>(Kd.jbc (h1:=fun _=>rfl) (hd2 _ (Kd.jYb (d:=(0:Int)) (Kd.jq (Kd.jU HO6.out hb)).2.2)):Kd.C (Kd.int .i64) W AD (out.drop out.length).length (out.drop out.length)))
      have HL:=am (show (out.take out.length).length+(out.drop out.length).length=out.length by rw [List.length_take,List.length_drop];omega)
      clear ht2 ht3 hd2 hd3
      have HS6:=am (fun W (hb:Below W6.heap.size W6 W)=>jsa (Below.trans HB6.out (hb.mono HB6.out.size)) HX.out)
      have HC6:=am (Below.refl W6.heap.size W6)
      generalize hT:out.take out.length=T at ht1 CT HL HN2 ⊢
      generalize hD:out.drop out.length=D at hd1 CD HL HN2 ⊢
      clear hT hD
      refine wpAnyH_take (i:=1) (v:=?_) rfl (by kernel_rfl) (by kernel_rfl) (by kernel_rfl) (fun _ _ _ h=>h) (Or.inl ⟨by rfl,?_⟩) (HS6.out _ (Below.refl _ _)) ?_
      rotate_left
      ·rintro W s1
       go_simp
       with_reducible rfl
      refine wpAnyH_take (i:=2) (v:=?_) rfl (by kernel_rfl) (by kernel_rfl) (by kernel_rfl) (fun _ _ _ h=>h) (Or.inl ⟨by rfl,?_⟩) (HS6.out _ (Below.refl _ _)) ?_
      rotate_left
      ·rintro W s1
       go_simp
       with_reducible rfl
      refine wpAnyH_take (i:=3) (v:=?_) rfl (by kernel_rfl) (by kernel_rfl) (by kernel_rfl) (fun _ _ _ h=>h) (Or.inl ⟨by rfl,?_⟩) (HS6.out _ (Below.refl _ _)) ?_
      rotate_left
      ·rintro W s1
       go_simp
       with_reducible rfl
      refine wpAnyH_take (i:=5) (v:=?_) rfl (by kernel_rfl) (by kernel_rfl) (by kernel_rfl) (fun _ _ _ h=>h) (Or.inl ⟨by rfl,?_⟩) (HS6.out _ (Below.refl _ _)) ?_
      rotate_left
      ·rintro W s1
       go_simp
       with_reducible rfl
      refine wpAnyH_take (i:=6) (v:=?_) rfl (by kernel_rfl) (by kernel_rfl) (by kernel_rfl) (fun _ _ _ h=>h) (Or.inl ⟨by rfl,?_⟩) (HS6.out _ (Below.refl _ _)) ?_
      rotate_left
      ·rintro W s1
       go_simp
       with_reducible rfl
      refine wpAnyH_take (i:=7) (v:=?_) rfl (by kernel_rfl) (by kernel_rfl) (by kernel_rfl) (fun _ _ _ h=>h) (Or.inl ⟨by rfl,?_⟩) (HS6.out _ (Below.refl _ _)) ?_
      rotate_left
      ·rintro W s1
       go_simp
       with_reducible rfl
      refine wpAnyH_take (i:=8) (v:=?_) rfl (by kernel_rfl) (by kernel_rfl) (by kernel_rfl) (fun _ _ _ h=>h) (Or.inl ⟨by rfl,?_⟩) (HS6.out _ (Below.refl _ _)) ?_
      rotate_left
      ·rintro W s1
       go_simp
       with_reducible rfl
      refine wpAnyH_take (i:=11) (v:=?_) rfl (by kernel_rfl) (by kernel_rfl) (by kernel_rfl) (fun _ _ _ h=>h) (Or.inl ⟨by rfl,?_⟩) (HS6.out _ (Below.refl _ _)) ?_
      rotate_left
      ·rintro W s1
       go_simp
       with_reducible rfl
      refine wpAnyH_take (i:=12) (v:=?_) rfl (by kernel_rfl) (by kernel_rfl) (by kernel_rfl) (fun _ _ _ h=>h) (Or.inl ⟨by rfl,?_⟩) (HS6.out _ (Below.refl _ _)) ?_
      rotate_left
      ·rintro W s1
       go_simp
       with_reducible rfl
      refine wpAnyH_take (i:=13) (v:=?_) rfl (by kernel_rfl) (by kernel_rfl) (by kernel_rfl) (fun _ _ _ h=>h) (Or.inl ⟨by rfl,?_⟩) (HS6.out _ (Below.refl _ _)) ?_
      rotate_left
      ·rintro W s1
       go_simp
       with_reducible rfl
      refine wpAnyH_all (rs:=[0,9]) (by kernel_rfl) (by simp) ?_
      intro ii hii
      rcases (show ii=0∨ii=9 by simpa using hii) with rfl | rfl
      ·clear hii
       refine wpOp_step rfl (fun K hK=>?_)
       go_simp
       have HV7:=am (so_empty (W6) W6.heap.size (fun _=>True) HC6.out.size trivial)
       have HC7:=am (jk HC6.out (.cells #[] 3))
       refine hK _ _ ⟨HS6.out _ HC7.out,?_⟩
       clear hK K
       refine wpAnyH_all (rs:=[4,9]) (by kernel_rfl) (by simp) ?_
       intro ii hii
       rcases (show ii=4∨ii=9 by simpa using hii) with rfl | rfl
       ·clear hii
        refine wpOp_step rfl (fun K hK=>?_)
        refine Kd.jX (Kd.int .i64) (Rr:=Kd.K (Kd.int .i64) ((W6).alloc (.cells #[] 3))) (w0:=W6) (W:=(W6).alloc (.cells #[] 3)) W6.heap.size rfl (.tmp 45) (.tmp 48) 45 3 (.int .i64 0) 8 rfl Try.underlying45 info3 rfl (by decide) (by decide) (.slice (some ⟨W6.heap.size,0,none⟩) 0 0) (([]:List Int)) T Ao T.length co (fun _=>True) (fun _=>False) rfl rfl HV7.out (CT.out _ HC7.out) (fun _ _ h=>h) (fun _ hk=>hk.elim) (fun _ _=>trivial) HC7.out HC7.out.size (by have:=LM.out;have:=HL.out;simp only [List.length_append,List.length_nil,List.length_singleton];omega) ?_
        intro v8 w8 ho8 hb8 hg8 hat8
        have HV8:=am ho8
        have HC8:=am hb8
        clear ho8 hb8 hg8 hat8
        refine hK _ _ ⟨HS6.out _ HC8.out,?_⟩
        clear hK K
        refine wpAnyH_all (rs:=[9]) (by kernel_rfl) (by simp) ?_
        intro ii hii
        obtain rfl:ii=9:=by simpa using hii
        clear hii
        refine wpOp_step rfl (fun K hK=>?_)
        go_simp
        have HV9:=am (Kd.jNa (Kd.jia (Kd.jNb HV8.out) (ok':=fun k=>k≠(w8.heap.size)) (fun k hk=>by have h:=hk.2.2.1;(try simp only [World.size_alloc] at h);omega)) (.cells #[.int .i64 x] 3))
        have LB9:=am (heap_alloc_new (w8) (.cells #[.int .i64 x] 3))
        have HC9:=am (jk HC8.out (.cells #[.int .i64 x] 3))
        refine hK _ _ ⟨HS6.out _ HC9.out,?_⟩
        clear hK K
        refine wpAnyH_all (rs:=[10]) (by kernel_rfl) (by simp) ?_
        intro ii hii
        obtain rfl:ii=10:=by simpa using hii
        clear hii
        refine wpOp_step rfl (fun K hK=>?_)
        refine Kd.jX (Kd.int .i64) (Rr:=Kd.K (Kd.int .i64) ((w8).alloc (.cells #[.int .i64 x] 3))) (w0:=W6) (W:=(w8).alloc (.cells #[.int .i64 x] 3)) W6.heap.size rfl (.tmp 49) (.tmp 54) 45 3 (.int .i64 0) 8 rfl Try.underlying45 info3 rfl (by decide) (by decide) v8 (([]:List Int) ++ T) [x] (some ⟨(w8.heap.size),0,none⟩) 1 1 (fun k=>k≠(w8.heap.size)) (fun _=>False) rfl rfl HV9.out (so_one (rc1 LB9.out)) (fun _ _ h=>h) (fun _ hk=>hk.elim) (fun q hq hqe=>by have:=jZ LB9.out;omega) HC9.out HC9.out.size (by have:=LM.out;have:=HL.out;simp only [List.length_append,List.length_nil,List.length_singleton];omega) ?_
        intro v10 w10 ho10 hb10 hg10 hat10
        have HV10:=am (Kd.jia ho10 (ok':=fun _=>True) (fun _ _=>trivial))
        have HC10:=am hb10
        clear ho10 hb10 hg10 hat10
        refine hK _ _ ⟨HS6.out _ HC10.out,?_⟩
        clear hK K
        refine wpAnyH_all (rs:=[14]) (by kernel_rfl) (by simp) ?_
        intro ii hii
        obtain rfl:ii=14:=by simpa using hii
        clear hii
        refine wpOp_step rfl (fun K hK=>?_)
        refine Kd.jX (Kd.int .i64) (Rr:=Kd.K (Kd.int .i64) (w10)) (w0:=W6) (W:=w10) W6.heap.size rfl (.tmp 55) (.tmp 58) 45 3 (.int .i64 0) 8 rfl Try.underlying45 info3 rfl (by decide) (by decide) v10 (([]:List Int) ++ T ++ [x]) D AD D.length (co - out.length) (fun _=>True) (fun _=>False) rfl rfl HV10.out (CD.out _ HC10.out) (fun _ _ h=>h) (fun _ hk=>hk.elim) (fun _ _=>trivial) HC10.out HC10.out.size (by have:=LM.out;have:=HL.out;simp only [List.length_append,List.length_nil,List.length_singleton];omega) ?_
        intro v11 w11 ho11 hb11 hg11 hat11
        have HV11:=am ho11
        have HC11:=am hb11
        clear ho11 hb11 hg11 hat11
        refine hK _ _ ⟨HS6.out _ HC11.out,?_⟩
        clear hK K
        refine wpAnyH_all (rs:=[15]) (by kernel_rfl) (by simp) ?_
        intro ii hii
        obtain rfl:ii=15:=by simpa using hii
        clear hii
        refine wpOp_step rfl (fun K hK=>?_)
        go_simp
        refine hK _ _ ⟨HS6.out _ HC11.out,?_⟩
        clear hK K
        refine wpAnyH_done (by kernel_rfl) ?_ _
        go_wp2
        have HB9:=am (Below.trans HB6.out (HC11.out.mono HB6.out.size))
        go_roundw
        case rel=>exact ⟨i+1,T ++ [x] ++ D,hlt,by go_num,HN2,⟨Kd.jia (Kd.jya HV11.out HB6.out.size) (fun _ _=>trivial)⟩,HB9⟩
        case measure=>simp [intOf];omega
       ·clear hii
        refine wpOp_step rfl (fun K hK=>?_)
        go_simp
        have HV8:=am (Kd.jNa (Kd.jia (Kd.jNb HV7.out) (ok':=fun k=>k≠(W6.heap.size+1)) (fun k hk=>by have h:=hk.2.2.1;(try simp only [World.size_alloc] at h);omega)) (.cells #[.int .i64 x] 3))
        have LB8:=am (by have h:=heap_alloc_new ((W6).alloc (.cells #[] 3)) (.cells #[.int .i64 x] 3);simpa only [World.size_alloc] using h:(((W6).alloc (.cells #[] 3)).alloc (.cells #[.int .i64 x] 3)).heap[W6.heap.size+1]?=some (.cells #[.int .i64 x] 3 (0,0)))
        have HC8:=am (jk HC7.out (.cells #[.int .i64 x] 3))
        refine hK _ _ ⟨HS6.out _ HC8.out,?_⟩
        clear hK K
        refine wpAnyH_all (rs:=[4]) (by kernel_rfl) (by simp) ?_
        intro ii hii
        obtain rfl:ii=4:=by simpa using hii
        clear hii
        refine wpOp_step rfl (fun K hK=>?_)
        refine Kd.jX (Kd.int .i64) (Rr:=Kd.K (Kd.int .i64) (((W6).alloc (.cells #[] 3)).alloc (.cells #[.int .i64 x] 3))) (w0:=W6) (W:=((W6).alloc (.cells #[] 3)).alloc (.cells #[.int .i64 x] 3)) W6.heap.size rfl (.tmp 45) (.tmp 48) 45 3 (.int .i64 0) 8 rfl Try.underlying45 info3 rfl (by decide) (by decide) (.slice (some ⟨W6.heap.size,0,none⟩) 0 0) (([]:List Int)) T Ao T.length co (fun k=>k≠(W6.heap.size+1)) (fun _=>False) rfl rfl HV8.out (CT.out _ HC8.out) (fun _ _ h=>h) (fun _ hk=>hk.elim) (fun q hq hqe=>by have:=jZ LB8.out;omega) HC8.out HC8.out.size (by have:=LM.out;have:=HL.out;simp only [List.length_append,List.length_nil,List.length_singleton];omega) ?_
        intro v9 w9 ho9 hb9 hg9 hat9
        have HV9:=am ho9
        have HC9:=am hb9
        have LB9:=am (jAb LB8.out hg9 (Kd.R_away HV8.out (fun q hq=>hq)))
        clear ho9 hb9 hg9 hat9
        refine hK _ _ ⟨HS6.out _ HC9.out,?_⟩
        clear hK K
        refine wpAnyH_all (rs:=[10]) (by kernel_rfl) (by simp) ?_
        intro ii hii
        obtain rfl:ii=10:=by simpa using hii
        clear hii
        refine wpOp_step rfl (fun K hK=>?_)
        refine Kd.jX (Kd.int .i64) (Rr:=Kd.K (Kd.int .i64) (w9)) (w0:=W6) (W:=w9) W6.heap.size rfl (.tmp 49) (.tmp 54) 45 3 (.int .i64 0) 8 rfl Try.underlying45 info3 rfl (by decide) (by decide) v9 (([]:List Int) ++ T) [x] (some ⟨(W6.heap.size+1),0,none⟩) 1 1 (fun k=>k≠(W6.heap.size+1)) (fun _=>False) rfl rfl HV9.out (so_one (rc1 LB9.out)) (fun _ _ h=>h) (fun _ hk=>hk.elim) (fun q hq hqe=>by have:=jZ LB9.out;omega) HC9.out HC9.out.size (by have:=LM.out;have:=HL.out;simp only [List.length_append,List.length_nil,List.length_singleton];omega) ?_
        intro v10 w10 ho10 hb10 hg10 hat10
        have HV10:=am (Kd.jia ho10 (ok':=fun _=>True) (fun _ _=>trivial))
        have HC10:=am hb10
        clear ho10 hb10 hg10 hat10
        refine hK _ _ ⟨HS6.out _ HC10.out,?_⟩
        clear hK K
        refine wpAnyH_all (rs:=[14]) (by kernel_rfl) (by simp) ?_
        intro ii hii
        obtain rfl:ii=14:=by simpa using hii
        clear hii
        refine wpOp_step rfl (fun K hK=>?_)
        refine Kd.jX (Kd.int .i64) (Rr:=Kd.K (Kd.int .i64) (w10)) (w0:=W6) (W:=w10) W6.heap.size rfl (.tmp 55) (.tmp 58) 45 3 (.int .i64 0) 8 rfl Try.underlying45 info3 rfl (by decide) (by decide) v10 (([]:List Int) ++ T ++ [x]) D AD D.length (co - out.length) (fun _=>True) (fun _=>False) rfl rfl HV10.out (CD.out _ HC10.out) (fun _ _ h=>h) (fun _ hk=>hk.elim) (fun _ _=>trivial) HC10.out HC10.out.size (by have:=LM.out;have:=HL.out;simp only [List.length_append,List.length_nil,List.length_singleton];omega) ?_
        intro v11 w11 ho11 hb11 hg11 hat11
        have HV11:=am ho11
        have HC11:=am hb11
        clear ho11 hb11 hg11 hat11
        refine hK _ _ ⟨HS6.out _ HC11.out,?_⟩
        clear hK K
        refine wpAnyH_all (rs:=[15]) (by kernel_rfl) (by simp) ?_
        intro ii hii
        obtain rfl:ii=15:=by simpa using hii
        clear hii
        refine wpOp_step rfl (fun K hK=>?_)
        go_simp
        refine hK _ _ ⟨HS6.out _ HC11.out,?_⟩
        clear hK K
        refine wpAnyH_done (by kernel_rfl) ?_ _
        go_wp2
        have HB9:=am (Below.trans HB6.out (HC11.out.mono HB6.out.size))
        go_roundw
        case rel=>exact ⟨i+1,T ++ [x] ++ D,hlt,by go_num,HN2,⟨Kd.jia (Kd.jya HV11.out HB6.out.size) (fun _ _=>trivial)⟩,HB9⟩
        case measure=>simp [intOf];omega
      ·clear hii
       refine wpOp_step rfl (fun K hK=>?_)
       go_simp
       have LB7:=am (heap_alloc_new (W6) (.cells #[.int .i64 x] 3))
       have HC7:=am (jk HC6.out (.cells #[.int .i64 x] 3))
       refine hK _ _ ⟨HS6.out _ HC7.out,?_⟩
       clear hK K
       refine wpAnyH_all (rs:=[0]) (by kernel_rfl) (by simp) ?_
       intro ii hii
       obtain rfl:ii=0:=by simpa using hii
       clear hii
       refine wpOp_step rfl (fun K hK=>?_)
       go_simp
       have HV8:=am (by have h:=so_empty ((W6).alloc (.cells #[.int .i64 x] 3)) W6.heap.size (fun k=>k≠(W6.heap.size)) HC7.out.size (by have:=jZ LB7.out;omega);simpa only [World.size_alloc] using h:Kd.R (Kd.int .i64) 3 (((W6).alloc (.cells #[.int .i64 x] 3)).alloc (.cells #[] 3)) W6.heap.size (fun k=>k≠(W6.heap.size)) (.slice (some ⟨W6.heap.size+1,0,none⟩) 0 0) [])
       have HC8:=am (jk HC7.out (.cells #[] 3))
       have LB8:=am (jB LB7.out (.cells #[] 3))
       refine hK _ _ ⟨HS6.out _ HC8.out,?_⟩
       clear hK K
       refine wpAnyH_all (rs:=[4]) (by kernel_rfl) (by simp) ?_
       intro ii hii
       obtain rfl:ii=4:=by simpa using hii
       clear hii
       refine wpOp_step rfl (fun K hK=>?_)
       refine Kd.jX (Kd.int .i64) (Rr:=Kd.K (Kd.int .i64) (((W6).alloc (.cells #[.int .i64 x] 3)).alloc (.cells #[] 3))) (w0:=W6) (W:=((W6).alloc (.cells #[.int .i64 x] 3)).alloc (.cells #[] 3)) W6.heap.size rfl (.tmp 45) (.tmp 48) 45 3 (.int .i64 0) 8 rfl Try.underlying45 info3 rfl (by decide) (by decide) (.slice (some ⟨W6.heap.size+1,0,none⟩) 0 0) (([]:List Int)) T Ao T.length co (fun k=>k≠(W6.heap.size)) (fun _=>False) rfl rfl HV8.out (CT.out _ HC8.out) (fun _ _ h=>h) (fun _ hk=>hk.elim) (fun q hq hqe=>by have:=jZ LB8.out;omega) HC8.out HC8.out.size (by have:=LM.out;have:=HL.out;simp only [List.length_append,List.length_nil,List.length_singleton];omega) ?_
       intro v9 w9 ho9 hb9 hg9 hat9
       have HV9:=am ho9
       have HC9:=am hb9
       have LB9:=am (jAb LB8.out hg9 (Kd.R_away HV8.out (fun q hq=>hq)))
       clear ho9 hb9 hg9 hat9
       refine hK _ _ ⟨HS6.out _ HC9.out,?_⟩
       clear hK K
       refine wpAnyH_all (rs:=[10]) (by kernel_rfl) (by simp) ?_
       intro ii hii
       obtain rfl:ii=10:=by simpa using hii
       clear hii
       refine wpOp_step rfl (fun K hK=>?_)
       refine Kd.jX (Kd.int .i64) (Rr:=Kd.K (Kd.int .i64) (w9)) (w0:=W6) (W:=w9) W6.heap.size rfl (.tmp 49) (.tmp 54) 45 3 (.int .i64 0) 8 rfl Try.underlying45 info3 rfl (by decide) (by decide) v9 (([]:List Int) ++ T) [x] (some ⟨(W6.heap.size),0,none⟩) 1 1 (fun k=>k≠(W6.heap.size)) (fun _=>False) rfl rfl HV9.out (so_one (rc1 LB9.out)) (fun _ _ h=>h) (fun _ hk=>hk.elim) (fun q hq hqe=>by have:=jZ LB9.out;omega) HC9.out HC9.out.size (by have:=LM.out;have:=HL.out;simp only [List.length_append,List.length_nil,List.length_singleton];omega) ?_
       intro v10 w10 ho10 hb10 hg10 hat10
       have HV10:=am (Kd.jia ho10 (ok':=fun _=>True) (fun _ _=>trivial))
       have HC10:=am hb10
       clear ho10 hb10 hg10 hat10
       refine hK _ _ ⟨HS6.out _ HC10.out,?_⟩
       clear hK K
       refine wpAnyH_all (rs:=[14]) (by kernel_rfl) (by simp) ?_
       intro ii hii
       obtain rfl:ii=14:=by simpa using hii
       clear hii
       refine wpOp_step rfl (fun K hK=>?_)
       refine Kd.jX (Kd.int .i64) (Rr:=Kd.K (Kd.int .i64) (w10)) (w0:=W6) (W:=w10) W6.heap.size rfl (.tmp 55) (.tmp 58) 45 3 (.int .i64 0) 8 rfl Try.underlying45 info3 rfl (by decide) (by decide) v10 (([]:List Int) ++ T ++ [x]) D AD D.length (co - out.length) (fun _=>True) (fun _=>False) rfl rfl HV10.out (CD.out _ HC10.out) (fun _ _ h=>h) (fun _ hk=>hk.elim) (fun _ _=>trivial) HC10.out HC10.out.size (by have:=LM.out;have:=HL.out;simp only [List.length_append,List.length_nil,List.length_singleton];omega) ?_
       intro v11 w11 ho11 hb11 hg11 hat11
       have HV11:=am ho11
       have HC11:=am hb11
       clear ho11 hb11 hg11 hat11
       refine hK _ _ ⟨HS6.out _ HC11.out,?_⟩
       clear hK K
       refine wpAnyH_all (rs:=[15]) (by kernel_rfl) (by simp) ?_
       intro ii hii
       obtain rfl:ii=15:=by simpa using hii
       clear hii
       refine wpOp_step rfl (fun K hK=>?_)
       go_simp
       refine hK _ _ ⟨HS6.out _ HC11.out,?_⟩
       clear hK K
       refine wpAnyH_done (by kernel_rfl) ?_ _
       go_wp2
       have HB9:=am (Below.trans HB6.out (HC11.out.mono HB6.out.size))
       go_roundw
       case rel=>exact ⟨i+1,T ++ [x] ++ D,hlt,by go_num,HN2,⟨Kd.jia (Kd.jya HV11.out HB6.out.size) (fun _ _=>trivial)⟩,HB9⟩
       case measure=>simp [intOf];omega
   ·rw [if_neg hlen] at hA;cases hA
  ·have hA:=HA.out
   rw [List.drop_eq_nil_of_le (by omega)] at hA
   obtain rfl:=Option.some.inj (show some out=some r from hA)
   have hlb:=eq_false (show ¬ (i:Int)<(l0.length:Int) by omega)
   clear HA hA
   go_wp2
   go_ret
   exact ⟨_,rfl,rq HO.out,(bq)⟩
mutual
def jH.j0 : Nat → Int → List Int → Bool → List (S54) → Option (List Int)
 | 0,_,_,_,_=>none
 | k+1,x1,x2,x13,x140000=>if x13=true then (some x2) else (if x2.length<17592186044416 then (if 0≤x1 then (if x1<(x140000.length:Int) then ((jH.f k x140000 ((jc x140000 x1).f2) (x2 ++ [x1])).bind fun t145=>((jH.f k x140000 ((jc x140000 x1).f3) t145).bind fun t149=>(some t149))) else (none)) else (none)) else (none))
def jH.f : Nat → List (S54) → Int → List Int → Option (List Int)
 | 0,_,_,_=>none
 | k+1,l0_0,a1,l2=>if a1<0 then (jH.j0 k a1 l2 true l0_0) else ((jxa.f k l2 a1).bind fun t140=>(jH.j0 k a1 l2 t140 l0_0))
end
def jH.T4 : Bool × List (List Nat × List Nat) := (true, [([], []), ([], []), ([1], [1]), ([], []), ([2, 3], [2, 3]), ([4], [4]), ([5], [5]), ([], []), ([0, 6, 7], [0, 6, 7]), ([8, 8, 0, 1, 2, 3, 4, 5, 6, 7, 8], [7, 8])])
def jH.B4 : List Nat := [0, 0, 2, 0, 14, 30, 62, 0, 255, 511]
theorem jH.tab4 : rtab .any (opsOf Try.f53 4) = jH.T4 := by kernel_rfl
theorem jH.bits4 : waitsOk jH.T4.2 jH.B4 = true := by kernel_rfl
def jH.T5 : Bool × List (List Nat × List Nat) := (true, [([], []), ([], []), ([1], [1]), ([], []), ([2, 3], [2, 3]), ([4], [4]), ([5], [5]), ([], []), ([0, 6, 7], [0, 6, 7]), ([8, 8, 0, 1, 2, 3, 4, 5, 6, 7, 8], [8])])
def jH.B5 : List Nat := [0, 0, 2, 0, 14, 30, 62, 0, 255, 511]
theorem jH.tab5 : rtab .any (opsOf Try.f53 5) = jH.T5 := by kernel_rfl
theorem jH.bits5 : waitsOk jH.T5.2 jH.B5 = true := by kernel_rfl
set_option maxHeartbeats 8000000 in
set_option maxRecDepth 100000 in
theorem jH.calls (k : Nat) : ∀ (A0_0 : Option Addr) (c0_0 : Nat) (l0_0 : List (S54)) (a1 : Int) (P2_ : Nat → Prop) (u9000_ : Value) (l2 : List Int) (r : List Int) (w0 w : World) (hB : Below w0.heap.size w0 w) (hr0_0 : ∀ W_, Kept w W_ (fun k_ => P2_ k_) → Kd.C k54 W_ A0_0 l0_0.length l0_0) (hc0_0 : l0_0.length ≤ c0_0) (ho2 : Kd.R (Kd.int .i64) 3 w w0.heap.size P2_ u9000_ l2) (h : jH.f k l0_0 a1 l2 = some r),
  Calls Try.prog 53 #[.agg #[.slice A0_0 l0_0.length c0_0], .int .i64 a1,u9000_] w fun e w'=>∃ v0_:Value,e=.returned (v0_)∧Kd.R (Kd.int .i64) 3 w' w0.heap.size (fun k_=>(P2_ k_∨w.heap.size≤k_)) v0_ r∧Below w0.heap.size w0 w'∧Kept w w' (fun k_=>P2_ k_):=by
 induction k using Nat.strongRecOn with
 | _ k ih =>
 intro A0_0 c0_0 l0_0 a1 P2_ u9000_ l2 r w0 w hB hr0_0 hc0_0 ho2 h
 cases k with
 | zero=>exact absurd h (by simp [jH.f])
 | succ k =>
 simp only [jH.f] at h
 have hu32:=Try.underlying32
 have HR0_0:=am hr0_0
 have HC0_0:=am hc0_0
 clear hr0_0 hc0_0
 have HO2:=am (show Kd.R (Kd.int .i64) 3 w w0.heap.size (fun k_=>(P2_ k_∨w.heap.size≤k_)) u9000_ l2 from Kd.jia ho2 (fun k_ hk=>(.inl hk)))
 have HK:=am (Kept.refl w (fun k_=>P2_ k_))
 have HW0:=am hB.size
 have HB:=am hB
 clear hB
 have H:(if a1<0 then (jH.j0 k a1 l2 true l0_0) else ((jxa.f k l2 a1).bind fun t140=>(jH.j0 k a1 l2 t140 l0_0)))=some r:=h
 clear h
 have HC4:=am H
 clear H
 go_enter Try.func53,Try.ntmps53
 go_upto_region 1 with (first |((with_reducible refine jv (N:=3) rfl ?_);refine bE (N:=3) (cs:=#[.slice A0_0 l0_0.length c0_0]) (t:=32) ?_;intro gb139 hg w5 hbox hb;have BK139:=am (hbox);have GW139:=am ((by rw [hg];exact (by first | exact HK.out.1 | exact (show Kept w _ (fun k_=>P2_ k_) from by repeat (first |(with_reducible first | exact HK.out | apply Kept.alloc | apply Kept.drewN | apply Kept.drew) | exact HK.out)).1):w.heap.size≤gb139));have GE139:=am ((Y0:w0.heap.size≤gb139));replace HO2:=am (Kd.jU (rq HO2.out) hb);replace HK:=am (Kept.below (S:=(fun k_=>P2_ k_)) (Y6) hb);replace HB:=am (jd (bq) hb);clear hb hbox hg))
 (try simp only [Act.put,List.setIfInBounds_toArray,List.set_cons_zero,List.set_cons_succ])
 go_cut [13] (fun v13 wc=>∃ (kq:Nat) (x13_3:Bool),v13=.bool x13_3∧jy (jH.j0 kq a1 l2 x13_3 l0_0=some r)∧jy (kq≤k)∧jy (Kd.R (Kd.int .i64) 3 wc w0.heap.size (fun k_=>(P2_ k_∨w.heap.size≤k_)) u9000_ l2)∧jy (wc.heap[gb139]?=some (.cells #[(.slice A0_0 l0_0.length c0_0)] 32 (0,0)))∧jy (Kept w wc (fun k_=>P2_ k_))∧jy (Below w0.heap.size w0 wc))
 case first =>
  have H:=HC4.out
  clear HC4
  by_cases c6:a1<0
  ·rw [if_pos c6] at H
   have c6b0:decide (a1<0)=true:=dzT c6
   clear c6
   (first | rw [c6b0] |(simp only [jLb,jOb];rw [c6b0]) | skip)
   have H':=am H
   clear H
   go_wp2
   go_meet
   case rel=>exact ⟨_,(true),(sq),H',⟨by first | omega | exact Nat.le_refl _⟩,⟨rq HO2.out⟩,⟨kq BK139.out⟩,⟨Y17⟩,⟨Y20⟩⟩
  ·rw [if_neg c6] at H
   have c6b0:decide (a1<0)=false:=dzF c6
   clear c6
   (first | rw [c6b0] |(simp only [jLb,jOb];rw [c6b0]) | skip)
   replace H:=bzS H
   obtain ⟨t140,A70,H⟩:=H
   replace H:(jH.j0 k a1 l2 t140 l0_0)=some r:=H
   have A7:=am A70
   clear A70
   have H':=am H
   clear H
   obtain ⟨Ao8,co8,eo8⟩:=Kd.jwa HO2.out
   subst eo8
   go_wp2_with (first |(go_at_call 80;(with_reducible refine (jxa.calls k _ _ l2 a1 t140 _ ?side1 ?side2 A7.out).mono ?_);(case side1=>exact cq (Kd.jq HO2.out).2.2);(case side2=>exact (Kd.jq HO2.out).2.1);rintro e w' ⟨rfl,⟨nd,rfl⟩⟩))
   go_meet
   case rel=>exact ⟨_,(t140),(sq),H',⟨by first | omega | exact Nat.le_refl _⟩,⟨rq HO2.out⟩,⟨kq BK139.out⟩,⟨Y17⟩,⟨Y20⟩⟩
 case rest =>
  clear HC4
  try clear p2
  try clear c5
  try clear c6
  try clear c6b0
  obtain ⟨kq,x13_3,rfl,HA,HJ3,HO_2,BK139,HK,HB⟩:=hcut
  cases kq with
  | zero=>exact absurd HA.out (by simp [jH.j0])
  | succ kj3 =>
   have H:=HA.out
   clear HA
   simp only [jH.j0] at H
   by_cases c9:x13_3=true
   ·subst c9
    have H1:(some l2)=some r:=by rw [if_pos rfl] at H;exact H
    clear H
    have H:=H1
    clear H1
    obtain rfl:=Option.some.inj H
    go_wp2
    go_ret
    exact ⟨_,Y1,rq HO_2.out,Y20,Y17⟩
   ·replace c9:=Bool.eq_false_iff.mpr c9
    subst c9
    have H1:(if l2.length<17592186044416 then (if 0≤a1 then (if a1<(l0_0.length:Int) then ((jH.f kj3 l0_0 ((jc l0_0 a1).f2) (l2 ++ [a1])).bind fun t145=>((jH.f kj3 l0_0 ((jc l0_0 a1).f3) t145).bind fun t149=>(some t149))) else (none)) else (none)) else (none))=some r:=by rw [if_neg (show ¬ (false=true) by decide)] at H;exact H
    clear H
    have H:=H1
    clear H1
    by_cases c10:l2.length<17592186044416
    ·rw [if_pos c10] at H
     have LMc10:=am c10
     clear c10
     obtain ⟨y141,hy141⟩:∃ y_:List Int,y_=(l2 ++ [a1]):=⟨_,rfl⟩
     replace H:(if 0≤a1 then (if a1<(l0_0.length:Int) then ((jH.f kj3 l0_0 ((jc l0_0 a1).f2) y141).bind fun t145=>((jH.f kj3 l0_0 ((jc l0_0 a1).f3) t145).bind fun t149=>(some t149))) else (none)) else (none))=some r:=by first |(rw [hy141];with_reducible exact H) |(have H2_:=(Option.bind_some _ _).symm.trans H;rw [hy141];with_reducible exact H2_) |(have H2_:=(Option.bind_some _ _).symm.trans H;with_reducible exact H2_) | with_reducible exact H |(rw [hy141];exact H) | exact H
     have Ny141:=am hy141
     clear hy141
     by_cases c11:0≤a1
     ·rw [if_pos c11] at H
      have c11b0:decide (0≤a1)=true:=dzT c11
      clear c11
      by_cases c12:a1<(l0_0.length:Int)
      ·rw [if_pos c12] at H
       have c12b0:decide (a1<(l0_0.length:Int))=true:=dzT c12
       clear c12
       replace H:=bzS H
       obtain ⟨t145,A130,H⟩:=H
       replace H:((jH.f kj3 l0_0 ((jc l0_0 a1).f3) t145).bind fun t149=>(some t149))=some r:=H
       have A13:=am A130
       clear A130
       replace H:=bzS H
       obtain ⟨t149,A140,H⟩:=H
       replace H:(some t149)=some r:=H
       have A14:=am A140
       clear A140
       obtain rfl:=Option.some.inj H
       try go_wp2_with (first |((with_reducible refine jUb (b:=.append) (xs:=#[.tmp 15, .tmp 17]) rfl ?_);at_builtin;refine Kd.R_append (Kd.int .i64) (w0:=w0) w0.heap.size rfl (.tmp 15) (.tmp 17) 45 3 (.int .i64 0) 8 rfl Try.underlying45 info3 rfl (by decide) (by omega) u9000_ l2 a1 [.int .i64 a1] (fun k_=>(P2_ k_∨w.heap.size≤k_)) (fun _=>False) rfl rfl ?aP (fun _ hk=>hk.elim) ?aF ?aO ?aB ?aS ?aL ?_;(case aP=>exact rfl);(case aB=>exact (Y20));(case aF=>exact (fun k_ hk=>(.inr (Nat.le_trans (Y55) hk))));(case aO=>exact (rq HO_2.out));(case aS=>exact (jE (Y20)));(case aL=>have:=LMc10.out;omega);intro v142 w15 ho hb hg hat;rw [← Ny141.out] at ho;have n0_:=am (jAb (g:=gb139) (o:=.cells #[.slice A0_0 l0_0.length c0_0] 32 (0,0)) (kq BK139.out) hg (Kd.R_ne HO_2.out BK139.out (by decide)));have n1_:=am (hb);have n2_:=am (Kept.jFb (S:=(fun k_=>P2_ k_)) hg (Y17) (fun k_ e_=>(HO_2.out.1 k_ e_)));have n3_:=am (ho);clear BK139 HB HK HO_2;have BK139:=n0_;have HB:=n1_;have HK:=n2_;have HO143:=n3_;clear n0_ n1_ n2_ n3_ ho hb hg hat))
       replace HO143:=am (Kd.jHa HO143.out)
       replace BK139:=am (jC BK139.out)
       replace HK:=am (Kept.drew HK.out)
       replace HB:=am (jl HB.out)
       have p144:0≤(a1:Int):=ozD (uq)
       have q144:a1<(l0_0.length:Int):=ozD (uq)
       obtain ⟨ad144,e144,hx144_0,hx144_1,hx144_2,hx144_3,hx144_4⟩:=jjb (Kd.C_kept_now HR0_0.out HK.out) a1 p144 q144
       have hw144_4:=hx144_4
       have hw144_3:=hx144_3
       have hw144_2:=hx144_2
       have hw144_1:=hx144_1
       have hw144_0:=hx144_0
       cases e144
       replace p144:=ezT p144
       replace q144:=ezT q144
       obtain ⟨Ao17,co17,eo17⟩:=Kd.jwa HO143.out
       (first | subst eo17 |(injection eo17 with f1_ f2_ f3_;have f4_:=f1_.symm;have f5_:=f3_.symm;clear f1_ f2_ f3_;subst f4_;subst f5_))
       refine start_ (n:=10) (S:=fun w'=>w'.cell? ⟨gb139,0,none⟩=some (.slice (some ad144) l0_0.length c0_0)∧w'.cell? (ad144.add ((a1).toNat * 5))=some (.int .i64 ((jc l0_0 a1).f0))∧w'.cell? ⟨(ad144.add ((a1).toNat * 5)).block,(ad144.add ((a1).toNat * 5)).off+1,none⟩=some (.int .i64 ((jc l0_0 a1).f1))∧w'.cell? ⟨(ad144.add ((a1).toNat * 5)).block,(ad144.add ((a1).toNat * 5)).off+2,none⟩=some (.int .i64 ((jc l0_0 a1).f2))∧w'.cell? ⟨(ad144.add ((a1).toNat * 5)).block,(ad144.add ((a1).toNat * 5)).off+3,none⟩=some (.int .i64 ((jc l0_0 a1).f3))∧w'.cell? ⟨(ad144.add ((a1).toNat * 5)).block,(ad144.add ((a1).toNat * 5)).off+4,none⟩=some (.bool ((jc l0_0 a1).f4))) (ds:=[8]) #[false,false,false,false,false,false,false,false,false,false] (by kernel_rfl) rfl rfl ⟨(jL BK139.out 0).trans rfl,hx144_0,hx144_1,hx144_2,hx144_3,hx144_4⟩ (fun hHeld=>?_);refine jXb jH.tab4 jH.bits4 (fun HT_ HW_=>?_)
       generalize w15.drew=w16 at HO143 BK139 HK HB hx144_0 hx144_1 hx144_2 hx144_3 hx144_4 hHeld ⊢
       refine pq (i:=1) (N:=some 20) #[false,true,false,false,false,false,false,false,false,false] ?_
       refine pq (i:=3) (N:=some 22) #[false,true,false,true,false,false,false,false,false,false] ?_
       refine pq (i:=7) (N:=some 26) #[false,true,false,true,false,false,false,true,false,false] ?_
       refine jKb (i:=0) (N:=some 19) (v:=?_) (a':=?_) #[true,true,false,true,false,false,false,true,false,false] rfl rfl (jgb HT_.out HW_.out (by kernel_rfl)) (fun _ _ _ h=>h) (Or.inl ⟨by rfl,?_⟩) hHeld ?_ ?_
       rotate_left
       ·rintro w' ⟨s0,s1,s2,s3,s4,s5⟩
        go_simp
        with_reducible rfl
       rotate_left
       ·exact sa
       refine jKb (i:=2) (N:=some 21) (v:=?_) (a':=?_) #[true,true,true,true,false,false,false,true,false,false] rfl rfl (jgb HT_.out HW_.out (by kernel_rfl)) (fun _ _ _ h=>h) (Or.inl ⟨by rfl,?_⟩) hHeld ?_ ?_
       rotate_left
       ·rintro w' ⟨s0,s1,s2,s3,s4,s5⟩
        go_simp
        with_reducible rfl
       rotate_left
       ·exact sa
       refine pq (i:=4) (N:=some 23) #[true,true,true,true,true,false,false,true,false,false] ?_
       refine pq (i:=5) (N:=some 24) #[true,true,true,true,true,true,false,true,false,false] ?_
       refine jKb (i:=6) (N:=some 25) (v:=?_) (a':=?_) #[true,true,true,true,true,true,true,true,false,false] rfl rfl (jgb HT_.out HW_.out (by kernel_rfl)) (fun _ _ _ h=>h) (Or.inl ⟨by rfl,?_⟩) hHeld ?_ ?_
       rotate_left
       ·rintro w' ⟨s0,s1,s2,s3,s4,s5⟩
        go_simp
        with_reducible rfl
       rotate_left
       ·exact sa
       refine last_ (i:=8) (N:=some 27) #[true,true,true,true,true,true,true,true,true,false] rfl rfl (one_of HT_.out (by kernel_rfl)) (by decide) (fun K hK=>?_)
       refine goes_ Try.func53 (by kernel_rfl) rfl #[.agg #[.slice (some ad144) l0_0.length c0_0], .int .i64 ((jc l0_0 a1).f2), .slice Ao17 y141.length co17] (by rfl) rfl rfl (aq) ?_
       with_reducible refine (ih kj3 (by have:=HJ3.out;omega) _ _ l0_0 ((jc l0_0 a1).f2) (fun k_=>some k_=(.slice Ao17 y141.length co17:Value).ownBlock) (.slice Ao17 y141.length co17) y141 t145 w0 _ ?side1 ?side2 ?side3 ?side4 A13.out).mono ?_
       (case side1=>exact Y20)
       (case side2=>exact Kd.C_kept_call HR0_0.out (Y17) (fun k_ hs_=>(fun e_=>(HO143.out.1 k_ e_.symm)) hs_))
       (case side3=>exact HC0_0.out)
       (case side4=>exact Kd.jdc rfl HO143.out)
       rintro e w18 ⟨v146,rfl,ho0,hb,hkp⟩
       refine ⟨_,rfl,?_⟩
       have n0_:=am (jPa (kq BK139.out) hkp (fun hs_=>(fun e_=>(Kd.R_ne HO143.out BK139.out (by decide)) e_) hs_))
       have n1_:=am (Kd.jia (ok':=fun k_=>(P2_ k_∨w.heap.size≤k_)) ho0 (fun k_ hk_=>Or.elim hk_ (fun hs_=>(HO143.out.1 k_ (hs_).symm)) (fun hn_=>(.inr (Nat.le_trans (Y55) hn_)))))
       have n2_:=am (Kept.then_ (S:=(fun k_=>P2_ k_)) (Y17) hkp (fun k_ hs_=>(fun e_=>(HO143.out.1 k_ e_.symm)) hs_))
       have n3_:=am (hb)
       clear BK139
       clear HK
       clear HB
       clear HO143
       have BK139:=n0_
       have HO147:=n1_
       have HK:=n2_
       have HB:=n3_
       clear n0_ n1_ n2_ n3_
       (try clear hb)
       (try clear hkp)
       (try clear ho0)
       refine hK.out _ _ ?_
       clear hK K
       refine norm_ (a':=?_) ?_ ?_
       rotate_left
       ·show Act.put _ (some 27) _=_
        simp only [Act.put,List.setIfInBounds_toArray,List.set_cons_zero,List.set_cons_succ,jLb,jOb]
        rfl
       refine pq (i:=9) (N:=some 2) #[true,true,true,true,true,true,true,true,true,true] ?_
       refine done_ (done_of HT_.out (by kernel_rfl)) ?_
       try go_wp2
       replace HO147:=am (Kd.jHa HO147.out)
       replace BK139:=am (jC BK139.out)
       replace HK:=am (Kept.drew HK.out)
       replace HB:=am (jl HB.out)
       have p148:0≤(a1:Int):=ozD (uq)
       have q148:a1<(l0_0.length:Int):=ozD (uq)
       obtain ⟨ad148,e148,hx148_0,hx148_1,hx148_2,hx148_3,hx148_4⟩:=jjb (Kd.C_kept_now HR0_0.out HK.out) a1 p148 q148
       have hw148_4:=hx148_4
       have hw148_3:=hx148_3
       have hw148_2:=hx148_2
       have hw148_1:=hx148_1
       have hw148_0:=hx148_0
       obtain rfl:ad144=ad148:=(by injection e148)
       replace p148:=ezT p148
       replace q148:=ezT q148
       obtain ⟨Ao20,co20,eo20⟩:=Kd.jwa HO147.out
       (first | subst eo20 |(injection eo20 with f1_ f2_ f3_;have f4_:=f1_.symm;have f5_:=f3_.symm;clear f1_ f2_ f3_;subst f4_;subst f5_))
       refine start_ (n:=10) (S:=fun w'=>w'.cell? ⟨gb139,0,none⟩=some (.slice (some ad144) l0_0.length c0_0)∧w'.cell? (ad144.add ((a1).toNat * 5))=some (.int .i64 ((jc l0_0 a1).f0))∧w'.cell? ⟨(ad144.add ((a1).toNat * 5)).block,(ad144.add ((a1).toNat * 5)).off+1,none⟩=some (.int .i64 ((jc l0_0 a1).f1))∧w'.cell? ⟨(ad144.add ((a1).toNat * 5)).block,(ad144.add ((a1).toNat * 5)).off+2,none⟩=some (.int .i64 ((jc l0_0 a1).f2))∧w'.cell? ⟨(ad144.add ((a1).toNat * 5)).block,(ad144.add ((a1).toNat * 5)).off+3,none⟩=some (.int .i64 ((jc l0_0 a1).f3))∧w'.cell? ⟨(ad144.add ((a1).toNat * 5)).block,(ad144.add ((a1).toNat * 5)).off+4,none⟩=some (.bool ((jc l0_0 a1).f4))) (ds:=[8]) #[false,false,false,false,false,false,false,false,false,false] (by kernel_rfl) rfl rfl ⟨(jL BK139.out 0).trans rfl,hx148_0,hx148_1,hx148_2,hx148_3,hx148_4⟩ (fun hHeld=>?_);refine jXb jH.tab5 jH.bits5 (fun HT_ HW_=>?_)
       generalize w18.drew=w19 at HO147 BK139 HK HB hx148_0 hx148_1 hx148_2 hx148_3 hx148_4 hHeld ⊢
       refine pq (i:=1) (N:=some 29) #[false,true,false,false,false,false,false,false,false,false] ?_
       refine pq (i:=3) (N:=some 31) #[false,true,false,true,false,false,false,false,false,false] ?_
       refine pq (i:=7) (N:=some 35) #[false,true,false,true,false,false,false,true,false,false] ?_
       refine jKb (i:=0) (N:=some 28) (v:=?_) (a':=?_) #[true,true,false,true,false,false,false,true,false,false] rfl rfl (jgb HT_.out HW_.out (by kernel_rfl)) (fun _ _ _ h=>h) (Or.inl ⟨by rfl,?_⟩) hHeld ?_ ?_
       rotate_left
       ·rintro w' ⟨s0,s1,s2,s3,s4,s5⟩
        go_simp
        with_reducible rfl
       rotate_left
       ·exact sa
       refine jKb (i:=2) (N:=some 30) (v:=?_) (a':=?_) #[true,true,true,true,false,false,false,true,false,false] rfl rfl (jgb HT_.out HW_.out (by kernel_rfl)) (fun _ _ _ h=>h) (Or.inl ⟨by rfl,?_⟩) hHeld ?_ ?_
       rotate_left
       ·rintro w' ⟨s0,s1,s2,s3,s4,s5⟩
        go_simp
        with_reducible rfl
       rotate_left
       ·exact sa
       refine pq (i:=4) (N:=some 32) #[true,true,true,true,true,false,false,true,false,false] ?_
       refine pq (i:=5) (N:=some 33) #[true,true,true,true,true,true,false,true,false,false] ?_
       refine jKb (i:=6) (N:=some 34) (v:=?_) (a':=?_) #[true,true,true,true,true,true,true,true,false,false] rfl rfl (jgb HT_.out HW_.out (by kernel_rfl)) (fun _ _ _ h=>h) (Or.inl ⟨by rfl,?_⟩) hHeld ?_ ?_
       rotate_left
       ·rintro w' ⟨s0,s1,s2,s3,s4,s5⟩
        go_simp
        with_reducible rfl
       rotate_left
       ·exact sa
       refine last_ (i:=8) (N:=some 36) #[true,true,true,true,true,true,true,true,true,false] rfl rfl (one_of HT_.out (by kernel_rfl)) (by decide) (fun K hK=>?_)
       refine goes_ Try.func53 (by kernel_rfl) rfl #[.agg #[.slice (some ad144) l0_0.length c0_0], .int .i64 ((jc l0_0 a1).f3), .slice Ao20 t145.length co20] (by rfl) rfl rfl (aq) ?_
       with_reducible refine (ih kj3 (by have:=HJ3.out;omega) _ _ l0_0 ((jc l0_0 a1).f3) (fun k_=>some k_=(.slice Ao20 t145.length co20:Value).ownBlock) (.slice Ao20 t145.length co20) t145 t149 w0 _ ?side1 ?side2 ?side3 ?side4 A14.out).mono ?_
       (case side1=>exact Y20)
       (case side2=>exact Kd.C_kept_call HR0_0.out (Y17) (fun k_ hs_=>(fun e_=>(HO147.out.1 k_ e_.symm)) hs_))
       (case side3=>exact HC0_0.out)
       (case side4=>exact Kd.jdc rfl HO147.out)
       rintro e w21 ⟨v150,rfl,ho0,hb,hkp⟩
       refine ⟨_,rfl,?_⟩
       have n0_:=am (jPa (kq BK139.out) hkp (fun hs_=>(fun e_=>(Kd.R_ne HO147.out BK139.out (by decide)) e_) hs_))
       have n1_:=am (Kd.jia (ok':=fun k_=>(P2_ k_∨w.heap.size≤k_)) ho0 (fun k_ hk_=>Or.elim hk_ (fun hs_=>(HO147.out.1 k_ (hs_).symm)) (fun hn_=>(.inr (Nat.le_trans (Y55) hn_)))))
       have n2_:=am (Kept.then_ (S:=(fun k_=>P2_ k_)) (Y17) hkp (fun k_ hs_=>(fun e_=>(HO147.out.1 k_ e_.symm)) hs_))
       have n3_:=am (hb)
       clear BK139
       clear HK
       clear HB
       clear HO147
       have BK139:=n0_
       have HO151:=n1_
       have HK:=n2_
       have HB:=n3_
       clear n0_ n1_ n2_ n3_
       (try clear hb)
       (try clear hkp)
       (try clear ho0)
       refine hK.out _ _ ?_
       clear hK K
       refine norm_ (a':=?_) ?_ ?_
       rotate_left
       ·show Act.put _ (some 36) _=_
        simp only [Act.put,List.setIfInBounds_toArray,List.set_cons_zero,List.set_cons_succ,jLb,jOb]
        rfl
       refine pq (i:=9) (N:=some 6) #[true,true,true,true,true,true,true,true,true,true] ?_
       refine done_ (done_of HT_.out (by kernel_rfl)) ?_
       try go_wp2
       go_ret
       exact ⟨_,Y1,rq HO151.out,Y20,Y17⟩
      ·rw [if_neg c12] at H
       exact absurd H (by simp)
     ·rw [if_neg c11] at H
      exact absurd H (by simp)
    ·rw [if_neg c10] at H
     exact absurd H (by simp)
def jMa.f (k : Nat) (l0_0 : List (S94)) (l1_0 : List (S54)) (a2 : Int) : Option (List Int) := (jQa.f k l0_0 l1_0 a2).bind fun t154 => (if t154 = true then ((jH.f k l1_0 a2 (([] : List Int))).bind fun t158 => ((jRa.f t158).bind fun t161 => (some t161))) else (some ([] : List Int)))
set_option maxHeartbeats 8000000 in
set_option maxRecDepth 100000 in
theorem jMa.calls (k : Nat) (A0_0 : Option Addr) (c0_0 : Nat) (l0_0 : List (S94)) (A1_0 : Option Addr) (c1_0 : Nat) (l1_0 : List (S54)) (a2 : Int) (r : List Int) (w : World) (hr0_0 : Kd.C k94 w A0_0 l0_0.length l0_0) (hc0_0 : l0_0.length ≤ c0_0) (hr1_0 : Kd.C k54 w A1_0 l1_0.length l1_0) (hc1_0 : l1_0.length ≤ c1_0) (h : jMa.f k l0_0 l1_0 a2 = some r) :
  Calls Try.prog 20 #[.agg #[.slice A0_0 l0_0.length c0_0], .agg #[.slice A1_0 l1_0.length c1_0], .int .i64 a2] w fun e w'=>∃ v0_:Value,e=.returned (v0_)∧Kd.R (Kd.int .i64) 3 w' w.heap.size (fun _=>True) v0_ r∧Below w.heap.size w w':=by
 have hu37:=Try.underlying37
 have hu32:=Try.underlying32
 have HR0_0:=am hr0_0
 have HC0_0:=am hc0_0
 clear hr0_0 hc0_0
 have HR1_0:=am hr1_0
 have HC1_0:=am hc1_0
 clear hr1_0 hc1_0
 have HB:=am (Below.refl w.heap.size w)
 have H:((jQa.f k l0_0 l1_0 a2).bind fun t154=>(if t154=true then ((jH.f k l1_0 a2 (([]:List Int))).bind fun t158=>((jRa.f t158).bind fun t161=>(some t161))) else (some ([]:List Int))))=some r:=h
 clear h
 replace H:=bzS H
 obtain ⟨t154,A40,H⟩:=H
 replace H:(if t154=true then ((jH.f k l1_0 a2 (([]:List Int))).bind fun t158=>((jRa.f t158).bind fun t161=>(some t161))) else (some ([]:List Int)))=some r:=H
 have A4:=am A40
 clear A40
 by_cases c5:t154=true
 ·subst c5
  have H1:((jH.f k l1_0 a2 (([]:List Int))).bind fun t158=>((jRa.f t158).bind fun t161=>(some t161)))=some r:=by rw [if_pos rfl] at H;exact H
  clear H
  have H:=H1
  clear H1
  obtain ⟨y155,hy155⟩:∃ y_:List Int,y_=(([]:List Int)):=⟨_,rfl⟩
  replace H:((jH.f k l1_0 a2 y155).bind fun t158=>((jRa.f t158).bind fun t161=>(some t161)))=some r:=by first |(rw [hy155];with_reducible exact H) |(have H2_:=(Option.bind_some _ _).symm.trans H;rw [hy155];with_reducible exact H2_) |(have H2_:=(Option.bind_some _ _).symm.trans H;with_reducible exact H2_) | with_reducible exact H |(rw [hy155];exact H) | exact H
  have Ny155:=am hy155
  clear hy155
  replace H:=bzS H
  obtain ⟨t158,A60,H⟩:=H
  replace H:((jRa.f t158).bind fun t161=>(some t161))=some r:=H
  have A6:=am A60
  clear A60
  replace H:=bzS H
  obtain ⟨t161,A70,H⟩:=H
  replace H:(some t161)=some r:=H
  have A7:=am A70
  clear A70
  obtain rfl:=Option.some.inj H
  go_enter Try.func20,Try.ntmps20
  go_wp2_with (first |((with_reducible refine jv (N:=3) rfl ?_);refine bE (N:=3) (cs:=#[.slice A0_0 l0_0.length c0_0]) (t:=37) ?_;intro gb152 hg w8 hbox hb;have BK152:=am (hbox);have GW152:=am ((Y0:w.heap.size≤gb152));have GE152:=am ((Y0:w.heap.size≤gb152));replace HB:=am (jd (bq) hb);clear hb hbox hg) |((with_reducible refine jv (N:=4) rfl ?_);refine bE (N:=4) (cs:=#[.slice A1_0 l1_0.length c1_0]) (t:=32) ?_;intro gb153 hg w9 hbox hb;have BK153:=am (hbox);have GW153:=am ((Y41:w.heap.size≤gb153));have GE153:=am ((Y41:w.heap.size≤gb153));have NB152_153:=am ((by rw [hg];exact Nat.ne_of_lt (jZ (g:=gb152) (o:=.cells #[.slice A0_0 l0_0.length c0_0] 37 (0,0)) (kq BK152.out)):gb152≠gb153));have NB153_152:=am ((by rw [hg];exact Nat.ne_of_gt (jZ (g:=gb152) (o:=.cells #[.slice A0_0 l0_0.length c0_0] 37 (0,0)) (kq BK152.out)):gb153≠gb152));replace BK152:=am (jb (g:=gb152) (o:=.cells #[.slice A0_0 l0_0.length c0_0] 37 (0,0)) (kq BK152.out) hb);replace HB:=am (jd (Y66) hb);clear hb hbox hg;have hnb10:=NB152_153.out;have hnc10:=NB153_152.out;have hcz11_0:=bc0 BK152.out;have hfz11_0:=ja BK152.out 0;have hcz12_0:=bc0 BK153.out;have hfz12_0:=ja BK153.out 0) |((with_reducible refine jw (f:=41) rfl ?_);refine gL (some 10) Try.func41 #[.agg #[.slice A0_0 l0_0.length c0_0], .agg #[.slice A1_0 l1_0.length c1_0], .int .i64 a2] ?_;(with_reducible refine (jQa.calls k _ _ l0_0 _ _ l1_0 a2 true _ ?side1 ?side2 ?side3 ?side4 A4.out).mono ?_);(case side1=>exact cq (Kd.jI HR0_0.out HB.out));(case side2=>exact HC0_0.out);(case side3=>exact cq (Kd.jI HR1_0.out HB.out));(case side4=>exact HC1_0.out);rintro e w13 ⟨rfl,hb⟩;refine ⟨_,rfl,?_⟩;replace BK152:=am (jb (g:=gb152) (o:=.cells #[.slice A0_0 l0_0.length c0_0] 37 (0,0)) (kq BK152.out) hb);replace BK153:=am (jb (g:=gb153) (o:=.cells #[.slice A1_0 l1_0.length c1_0] 32 (0,0)) (kq BK153.out) hb);replace HB:=am (jd (Y12) hb);(try clear hb);(try clear hb2);(try clear hk);(try clear hi);have hcz14_0:=bc0 BK153.out;have hfz14_0:=ja BK153.out 0) |((with_reducible refine jv (N:=14) rfl ?_);refine Kd.R_lit (Kd.int .i64) _ 3 ?hg (N:=14) ?hd (xs:=([]:List Int)) (inner:=[]) (ok:=fun _=>True) (okp:=fun _=>True) ?hr ?hp (fun _ hk=>hk) trivial (Below.refl _ _) (Nat.le_refl _) (by simp) ?_;(case hd=>rfl);(case hg=>rfl);(case hr=>exact Y3);(case hp=>exact (Reps.none _ _));intro v156 w15 ho16 hb hg_ hnew_;clear hg_ hnew_;(first | rw [← Ny155.out] at ho16 |(simp only [Int.reduceToNat] at ho16;rw [← Ny155.out] at ho16));have HO157:=am (Kd.jya ho16 (jE (Y12)));replace BK152:=am (jb (g:=gb152) (o:=.cells #[.slice A0_0 l0_0.length c0_0] 37 (0,0)) (kq BK152.out) hb);replace BK153:=am (jb (g:=gb153) (o:=.cells #[.slice A1_0 l1_0.length c1_0] 32 (0,0)) (kq BK153.out) hb);replace HB:=am (jd (Y12) hb);clear hb ho16;obtain ⟨Ao17,co17,eo17⟩:=Kd.jwa HO157.out;subst eo17) |((with_reducible refine jw (f:=53) rfl ?_);refine gL (some 15) Try.func53 #[.agg #[.slice A1_0 l1_0.length c1_0], .int .i64 a2, .slice Ao17 y155.length co17] ?_;(with_reducible refine (jH.calls k _ _ l1_0 a2 (fun k_=>some k_=(.slice Ao17 y155.length co17:Value).ownBlock) (.slice Ao17 y155.length co17) y155 t158 w _ ?side1 ?side2 ?side3 ?side4 A6.out).mono ?_);(case side1=>exact Y12);(case side2=>exact Kd.C_kept_came k54_heap HR1_0.out (Y12) (fun k_ hs_=>(fun e_=>Kd.jVb HO157.out k_ e_.symm) hs_));(case side3=>exact HC1_0.out);(case side4=>exact Kd.jdc rfl HO157.out);rintro e w18 ⟨v159,rfl,ho0,hb,hkp⟩;refine ⟨_,rfl,?_⟩;have n0_:=am (jPa (kq BK152.out) hkp (fun hs_=>(fun e_=>(Kd.R_ne HO157.out BK152.out (by decide)) e_) hs_));have n1_:=am (jPa (kq BK153.out) hkp (fun hs_=>(fun e_=>(Kd.R_ne HO157.out BK153.out (by decide)) e_) hs_));have n2_:=am (Kd.jia (ok':=fun k_=>True) ho0 (fun k_ hk_=>trivial));have n3_:=am (hb);clear BK152 BK153 HB HO157;have BK152:=n0_;have BK153:=n1_;have HO160:=n2_;have HB:=n3_;clear n0_ n1_ n2_ n3_;(try clear hb);(try clear hkp);(try clear ho0);obtain ⟨Ao19,co19,eo19⟩:=Kd.jwa HO160.out;subst eo19) |((with_reducible refine jw (f:=52) rfl ?_);refine gL (some 16) Try.func52 #[.slice Ao19 t158.length co19] ?_;(with_reducible refine (jRa.calls _ _ t158 t161 _ ?side1 ?side2 A7.out).mono ?_);(case side1=>exact cq (Kd.jq HO160.out).2.2);(case side2=>exact (Kd.jq HO160.out).2.1);rintro e w20 ⟨v162,rfl,ho0,hb⟩;refine ⟨_,rfl,?_⟩;have HO163:=am (Kd.jya (Kd.jac ho0 (Kd.R_lt (rq HO160.out))) (jE (Y12)));replace HO160:=am (Kd.job (rq HO160.out) (Kd.jVb ho0) hb);replace BK152:=am (jb (g:=gb152) (o:=.cells #[.slice A0_0 l0_0.length c0_0] 37 (0,0)) (kq BK152.out) hb);replace BK153:=am (jb (g:=gb153) (o:=.cells #[.slice A1_0 l1_0.length c1_0] 32 (0,0)) (kq BK153.out) hb);replace HB:=am (jd (Y12) hb);(try clear hb);(try clear hb2);(try clear hk);(try clear hi);(try clear ho0)))
  go_ret
  exact ⟨_,Y1,by (with_reducible repeat (first | apply Kd.jNa | apply Kd.jYa | apply Kd.jHa));exact Kd.jia HO163.out (fun _ hk=>trivial),Y12⟩
 ·replace c5:=Bool.eq_false_iff.mpr c5
  subst c5
  have H1:(some ([]:List Int))=some r:=by rw [if_neg (show ¬ (false=true) by decide)] at H;exact H
  clear H
  have H:=H1
  clear H1
  obtain rfl:=Option.some.inj H
  go_enter Try.func20,Try.ntmps20
  go_wp2_with (first |((with_reducible refine jv (N:=3) rfl ?_);refine bE (N:=3) (cs:=#[.slice A0_0 l0_0.length c0_0]) (t:=37) ?_;intro gb152 hg w21 hbox hb;have BK152:=am (hbox);have GW152:=am ((Y0:w.heap.size≤gb152));have GE152:=am ((Y0:w.heap.size≤gb152));replace HB:=am (jd (bq) hb);clear hb hbox hg) |((with_reducible refine jv (N:=4) rfl ?_);refine bE (N:=4) (cs:=#[.slice A1_0 l1_0.length c1_0]) (t:=32) ?_;intro gb153 hg w22 hbox hb;have BK153:=am (hbox);have GW153:=am ((Y41:w.heap.size≤gb153));have GE153:=am ((Y41:w.heap.size≤gb153));have NB152_153:=am ((by rw [hg];exact Nat.ne_of_lt (jZ (g:=gb152) (o:=.cells #[.slice A0_0 l0_0.length c0_0] 37 (0,0)) (kq BK152.out)):gb152≠gb153));have NB153_152:=am ((by rw [hg];exact Nat.ne_of_gt (jZ (g:=gb152) (o:=.cells #[.slice A0_0 l0_0.length c0_0] 37 (0,0)) (kq BK152.out)):gb153≠gb152));replace BK152:=am (jb (g:=gb152) (o:=.cells #[.slice A0_0 l0_0.length c0_0] 37 (0,0)) (kq BK152.out) hb);replace HB:=am (jd (Y66) hb);clear hb hbox hg;have hnb23:=NB152_153.out;have hnc23:=NB153_152.out;have hcz24_0:=bc0 BK152.out;have hfz24_0:=ja BK152.out 0;have hcz25_0:=bc0 BK153.out;have hfz25_0:=ja BK153.out 0) |((with_reducible refine jw (f:=41) rfl ?_);refine gL (some 10) Try.func41 #[.agg #[.slice A0_0 l0_0.length c0_0], .agg #[.slice A1_0 l1_0.length c1_0], .int .i64 a2] ?_;(with_reducible refine (jQa.calls k _ _ l0_0 _ _ l1_0 a2 false _ ?side1 ?side2 ?side3 ?side4 A4.out).mono ?_);(case side1=>exact cq (Kd.jI HR0_0.out HB.out));(case side2=>exact HC0_0.out);(case side3=>exact cq (Kd.jI HR1_0.out HB.out));(case side4=>exact HC1_0.out);rintro e w26 ⟨rfl,hb⟩;refine ⟨_,rfl,?_⟩;replace BK152:=am (jb (g:=gb152) (o:=.cells #[.slice A0_0 l0_0.length c0_0] 37 (0,0)) (kq BK152.out) hb);replace BK153:=am (jb (g:=gb153) (o:=.cells #[.slice A1_0 l1_0.length c1_0] 32 (0,0)) (kq BK153.out) hb);replace HB:=am (jd (Y12) hb);(try clear hb);(try clear hb2);(try clear hk);(try clear hi)))
  go_ret
  exact ⟨_,Y1,Y67,Y12⟩
def jN.l0 : Nat → List Int → Int → Int → Int → Option (Int)
 | 0,_,_,_,_=>none
 | k+1,x0,x1,x7,x8=>if x8<x7 then (if 0≤x8 then (if x8<(x0.length:Int) then (if x1=(rd x0 x8) then (some x8) else (jN.l0 k x0 x1 x7 (wrap64 (x8+1)))) else (none)) else (none)) else (some (-1))
def jN.f (k : Nat) (l0 : List Int) (a1 : Int) : Option (Int) := jN.l0 k l0 a1 (l0.length : Int) 0
set_option maxHeartbeats 8000000 in
set_option maxRecDepth 100000 in
theorem jN.calls (k : Nat) (A0 : Option Addr) (c0 : Nat) (l0 : List Int) (a1 : Int) (r : Int) (w : World) (hr0 : Kd.C (Kd.int .i64) w A0 l0.length l0) (hc0 : l0.length ≤ c0) (h : jN.f k l0 a1 = some r) :
  Calls Try.prog 76 #[.slice A0 l0.length c0, .int .i64 a1] w fun e w'=>e=.returned (.int .i64 r)∧jSa w w':=by
 have HR0:=am hr0
 have HC0:=am hc0
 clear hr0 hc0
 have H:(jN.l0 k l0 a1 (l0.length:Int) 0)=some r:=h
 clear h
 have H':=am H
 clear H
 go_enter Try.func76,Try.ntmps76
 go_wp2
 go_loopg [8] k (fun kq v8 w'=>∃ (x8_1:Int),v8=.int .i64 x8_1∧jy (jN.l0 kq l0 a1 (l0.length:Int) x8_1=some r)∧jy (kq≤k)∧jSa w w')
 case atStart=>exact ⟨(0),(sq),H',⟨Nat.le_refl _⟩,Y2⟩
 case round =>
  clear H'
  try clear p2
  obtain ⟨x8_1,rfl,HA,HK1,⟨m1,rfl⟩⟩:=hrel
  cases gk with
  | zero=>exact absurd HA.out (by simp [jN.l0])
  | succ k1 =>
   have H:=HA.out
   clear HA
   simp only [jN.l0] at H
   by_cases c3:x8_1<(l0.length:Int)
   ·rw [if_pos c3] at H
    have c3b0:decide (x8_1<(l0.length:Int))=true:=dzT c3
    clear c3
    by_cases c4:0≤x8_1
    ·rw [if_pos c4] at H
     have c4b0:decide (0≤x8_1)=true:=dzT c4
     clear c4
     by_cases c5:x8_1<(l0.length:Int)
     ·rw [if_pos c5] at H
      have c5b0:decide (x8_1<(l0.length:Int))=true:=dzT c5
      clear c5
      by_cases c6:a1=(rd l0 x8_1)
      ·rw [if_pos c6] at H
       have c6b0:(a1 == (rd l0 x8_1))=true:=beq_iff_eq.mpr c6
       have c6b1:(a1 != (rd l0 x8_1))=false:=bne_eq_false_iff_eq.mpr c6
       clear c6
       obtain rfl:=Option.some.inj H
       have p164:0≤(x8_1:Int):=ozD (uq)
       have q164:x8_1<(l0.length:Int):=ozD (uq)
       obtain ⟨ad164,e164,hx164_0⟩:=Kd.jrb HR0.out x8_1 p164 q164
       cases e164
       replace p164:=ezT p164
       replace q164:=ezT q164
       go_wp2
       go_ret
       exact ⟨sq,Y2⟩
      ·rw [if_neg c6] at H
       have c6b0:(a1 == (rd l0 x8_1))=false:=beq_eq_false_iff_ne.mpr c6
       have c6b1:(a1 != (rd l0 x8_1))=true:=bne_iff_ne.mpr c6
       have H':=am H
       clear H
       have p164:0≤(x8_1:Int):=ozD (uq)
       have q164:x8_1<(l0.length:Int):=ozD (uq)
       obtain ⟨ad164,e164,hx164_0⟩:=Kd.jrb HR0.out x8_1 p164 q164
       cases e164
       replace p164:=ezT p164
       replace q164:=ezT q164
       go_wp2
       go_roundg k1
       case measure=>have:=HK1.out;omega
       case rel=>exact ⟨(wrap64 (x8_1+1)),(sq),H',⟨by have:=HK1.out;omega⟩,Y2⟩
     ·rw [if_neg c5] at H
      exact absurd H (by simp)
    ·rw [if_neg c4] at H
     exact absurd H (by simp)
   ·rw [if_neg c3] at H
    have c3b0:decide (x8_1<(l0.length:Int))=false:=dzF c3
    clear c3
    obtain rfl:=Option.some.inj H
    go_wp2
    go_ret
    exact ⟨sq,Y2⟩
def jja.f (k : Nat) (l0 : List Int) (a1 : Int) : Option (Bool) := (jN.f k l0 a1).bind fun t165 => (some (decide (t165 ≥ 0)))
set_option maxHeartbeats 8000000 in
set_option maxRecDepth 100000 in
theorem jja.calls (k : Nat) (A0 : Option Addr) (c0 : Nat) (l0 : List Int) (a1 : Int) (r : Bool) (w : World) (hr0 : Kd.C (Kd.int .i64) w A0 l0.length l0) (hc0 : l0.length ≤ c0) (h : jja.f k l0 a1 = some r) :
  Calls Try.prog 81 #[.slice A0 l0.length c0, .int .i64 a1] w fun e w'=>e=.returned (.bool r)∧jSa w w':=by
 have HR0:=am hr0
 have HC0:=am hc0
 clear hr0 hc0
 have H:((jN.f k l0 a1).bind fun t165=>(some (decide (t165≥0))))=some r:=h
 clear h
 replace H:=bzS H
 obtain ⟨t165,A30,H⟩:=H
 replace H:(some (decide (t165≥0)))=some r:=H
 have A3:=am A30
 clear A30
 obtain rfl:=Option.some.inj H
 go_enter Try.func81,Try.ntmps81
 go_wp2_with (first |((with_reducible refine jw (f:=76) rfl ?_);refine gL (some 7) Try.func76 #[.slice A0 l0.length c0, .int .i64 a1] ?_;(with_reducible refine (jN.calls k _ _ l0 a1 t165 _ ?side1 ?side2 A3.out).mono ?_);(case side1=>repeat (first | exact HR0.out |(with_reducible refine Kd.C_alloc ?_ _) |(with_reducible refine Kd.C_drewN ?_ _) |(with_reducible refine Kd.C_drew ?_)));(case side2=>exact HC0.out);rintro e w' ⟨rfl,⟨nd,rfl⟩⟩;refine ⟨_,rfl,?_⟩))
 go_ret
 exact ⟨sq,Y2⟩
def jEa.f (l0 : List Int) : Option (List Int) := some (l0)
set_option maxHeartbeats 8000000 in
set_option maxRecDepth 100000 in
theorem jEa.calls (P0_ : Nat → Prop) (u9000_ : Value) (l0 : List Int) (r : List Int) (w0 w : World) (hB : Below w0.heap.size w0 w) (ho0 : Kd.R (Kd.int .i64) 3 w w0.heap.size P0_ u9000_ l0) (h : jEa.f l0 = some r) :
  Calls Try.prog 83 #[u9000_] w fun e w'=>∃ v0_:Value,e=.returned (v0_)∧Kd.R (Kd.int .i64) 3 w' w0.heap.size (fun k_=>(P0_ k_∨w.heap.size≤k_)) v0_ r∧Below w0.heap.size w0 w'∧Kept w w' (fun k_=>P0_ k_):=by
 have HO0:=am (show Kd.R (Kd.int .i64) 3 w w0.heap.size (fun k_=>(P0_ k_∨w.heap.size≤k_)) u9000_ l0 from Kd.jia ho0 (fun k_ hk=>(.inl hk)))
 have HK:=am (Kept.refl w (fun k_=>P0_ k_))
 have HW0:=am hB.size
 have HB:=am hB
 clear hB
 have H:(some (l0))=some r:=h
 clear h
 obtain ⟨y166,hy166⟩:∃ y_:List Int,y_=(l0):=⟨_,rfl⟩
 replace H:(some y166)=some r:=by first |(rw [hy166];with_reducible exact H) |(have H2_:=(Option.bind_some _ _).symm.trans H;rw [hy166];with_reducible exact H2_) |(have H2_:=(Option.bind_some _ _).symm.trans H;with_reducible exact H2_) | with_reducible exact H |(rw [hy166];exact H) | exact H
 have Ny166:=am hy166
 clear hy166
 obtain rfl:=Option.some.inj H
 obtain ⟨Ao2,co2,eo2⟩:=Kd.jwa HO0.out
 subst eo2
 obtain ⟨i03,hi03,_,hsz3,_⟩:=info_parts info3
 have hy3:y166.length=l0.length:=(by rw [Ny166.out])
 have hcut3:=cut_clip (P:=Try.prog) 45 3 Try.underlying45 hi03 Ao2 _ co2 _ (Kd.jq HO0.out).2.1 hy3
 have hr3:=Kd.R_clip HO0.out Ny166.out
 clear hy3 hi03 hsz3 HO0
 have HO168:=am hr3
 clear hr3
 go_enter Try.func83,Try.ntmps83
 go_wp2
 go_ret
 exact ⟨_,Y1,rq HO168.out,bq,Y6⟩
def jQb (nx : Int → Option Int) : Nat → Int → List Int → Option (List Int)
 | 0,_,_=>none
 | k+1,f,acc=>if f≥0 then ((jja.f k acc f).bind fun b=>if b=true then some acc else (if acc.length<17592186044416 then (nx f).bind fun g=>jQb nx k g (acc ++ [f]) else none)) else some acc
set_option maxHeartbeats 8000000 in
set_option maxRecDepth 100000 in
theorem impl_contexts_walk (k : Nat) (B0_ : Nat) (nx : Int → Option Int) (a0 : Int) (r : List Int) (w : World) (h : jQb nx k a0 [] = some r)
  (hp:∀ W,Below w.heap.size w W→∀ (x y:Int),nx x=some y→Calls Try.prog 86 #[.int .i64 x, .pointer (some ⟨B0_,0,none⟩)] W fun e w'=>e=.returned (.int .i64 y)∧Below W.heap.size W w') :
  Calls Try.prog 85 #[.int .i64 a0, .func (.func 86) #[] #[.pointer (some ⟨B0_,0,none⟩)]] w fun e w'=>∃ v0_:Value,e=.returned v0_∧Kd.R (Kd.int .i64) 3 w' w.heap.size (fun _=>True) v0_ r∧Below w.heap.size w w':=by
 have HP:=am hp
 have H0:=am h
 have HB:=am (Below.refl w.heap.size w)
 clear hp h
 go_enter Try.func85,Try.ntmps85
 go_wp2_with ((with_reducible refine jv (N:=6) rfl ?_);refine Kd.R_lit (Kd.int .i64) _ 3 ?hg (N:=6) ?hd (xs:=([]:List Int)) (inner:=[]) (ok:=fun _=>True) (okp:=fun _=>True) ?hr ?hp (fun _ hk=>hk) trivial (Below.refl _ _) (Nat.le_refl _) (by simp) ?_;(case hd=>rfl);(case hg=>rfl);(case hr=>exact Y3);(case hp=>exact (Reps.none _ _));intro v111 w4 ho5 hb hg_ hnew_;clear hg_ hnew_;have n0_:=am (Kd.jya ho5 (jE (bq)));have n2_:=am (jd (bq) hb);clear HB;have HO:=n0_;have HB:=n2_;clear n0_ n2_ hb ho5)
 go_loopg [0,5] k (fun kq v0 v5 w'=>∃ (x:Int) (acc:List Int),v0=.int .i64 x∧jy (jQb nx kq x acc=some r)∧jy (kq≤k)∧jy (Kd.R (Kd.int .i64) 3 w' w.heap.size (fun _=>True) v5 acc)∧jy (Below w.heap.size w w'))
 case atStart=>exact ⟨a0,[],(sq),H0,⟨Nat.le_refl _⟩,⟨rq HO.out⟩,⟨bq⟩⟩
 case round =>
  clear H0 HO HB
  obtain ⟨x,acc,rfl,HA,HK1,HO,HB⟩:=hrel
  cases gk with
  | zero=>exact absurd HA.out (by simp [jQb])
  | succ k1 =>
   have H:=HA.out
   clear HA
   simp only [jQb] at H
   obtain ⟨Ao,co,eo⟩:=Kd.jwa HO.out
   subst eo
   by_cases c6:x≥0
   ·rw [if_pos c6] at H
    have c6b0:decide (0≤x)=true:=dzT c6
    clear c6
    obtain ⟨b,A70,H⟩:=bzS H
    have A7:=am A70
    clear A70
    cases b with
    | true =>
     rw [if_pos rfl] at H
     obtain rfl:=Option.some.inj H
     clear H
     go_wp2_with (first |(go_at_call 81;(with_reducible refine (jja.calls k1 _ _ acc x true _ ?side1 ?side2 A7.out).mono ?_);(case side1=>exact cq (Kd.jq HO.out).2.2);(case side2=>exact (Kd.jq HO.out).2.1);rintro e w' ⟨rfl,⟨nd,rfl⟩⟩) |(go_at_call 83;refine (jEa.calls (fun _=>True) _ acc acc w _ (bq) (rq HO.out) (show jEa.f acc=some acc from rfl)).mono ?_;rintro e w9 ⟨v9,rfl,hR9,hB9,hK9⟩))
     go_ret
     exact ⟨_,rfl,Kd.jia hR9 (fun _ _=>trivial),hB9⟩
    | false =>
     rw [if_neg (by simp)] at H
     by_cases c10:acc.length<17592186044416
     ·rw [if_pos c10] at H
      have LM:=am c10
      clear c10
      obtain ⟨y,hy,H⟩:=bzS H
      have HQ:=am hy
      have H':=am H
      clear H hy
      go_wp2_with (first |(go_at_call 81;(with_reducible refine (jja.calls k1 _ _ acc x false _ ?side1 ?side2 A7.out).mono ?_);(case side1=>exact cq (Kd.jq HO.out).2.2);(case side2=>exact (Kd.jq HO.out).2.1);rintro e w' ⟨rfl,⟨nd,rfl⟩⟩) |(go_at_call 86;refine (HP.out _ (bq) _ _ HQ.out).mono ?_;rintro e w2 ⟨rfl,hb2⟩;have n1_:=am (Kd.jU (rq HO.out) hb2);have n2_:=am (jd (bq) hb2);clear HO HB;have HO:=n1_;have HB:=n2_;clear n1_ n2_ hb2) |((with_reducible refine jUb (b:=.append) (xs:=#[.tmp 18, .tmp 20]) rfl ?_);at_builtin;refine Kd.R_append (Kd.int .i64) (w0:=w) w.heap.size rfl (.tmp 18) (.tmp 20) 45 3 (.int .i64 0) 8 rfl Try.underlying45 info3 rfl (by decide) (by omega) (.slice Ao acc.length co) acc x [.int .i64 x] (fun _=>True) (fun _=>False) rfl rfl ?aP (fun _ hk=>hk.elim) ?aF ?aO ?aB ?aS ?aL ?_;(case aP=>exact rfl);(case aB=>exact (bq));(case aF=>exact (fun _ _=>trivial));(case aO=>exact (rq HO.out));(case aS=>exact (jE (bq)));(case aL=>have:=LM.out;omega);intro v115 w14 ho hb hg hat;have n1_:=am (hb);have n2_:=am (ho);clear HB HO;have HB:=n1_;have HO:=n2_;clear n1_ n2_ ho hb hg hat))
      go_roundg k1
      case measure=>have:=HK1.out;omega
      case rel=>exact ⟨y,acc ++ [x],(sq),H',⟨by have:=HK1.out;omega⟩,⟨rq HO.out⟩,⟨bq⟩⟩
     ·rw [if_neg c10] at H
      cases H
   ·rw [if_neg c6] at H
    have c6b0:decide (0≤x)=false:=dzF c6
    clear c6
    obtain rfl:=Option.some.inj H
    clear H
    go_wp2_with (go_at_call 83;refine (jEa.calls (fun _=>True) _ acc acc w _ (bq) (rq HO.out) (show jEa.f acc=some acc from rfl)).mono ?_;rintro e w9 ⟨v9,rfl,hR9,hB9,hK9⟩)
    go_ret
    exact ⟨_,rfl,Kd.jia hR9 (fun _ _=>trivial),hB9⟩
def ctxF (h : List S54) (g : Int) : Option Int := if 0 ≤ g then if g < (h.length : Int) then some (jc h g).f3 else none else none
theorem impl_contexts1_calls (A_ : Option Addr) (c_ : Nat) (l : List S54) (x y : Int) (B0 : Nat) (w : World) (hr : Kd.C k54 w A_ l.length l) (hc : w.cell? ⟨B0, 0, none⟩ = some (.slice A_ l.length c_)) (h : ctxF l x = some y) :
  Calls Try.prog 86 #[.int .i64 x, .pointer (some ⟨B0,0,none⟩)] w fun e w'=>e=.returned (.int .i64 y)∧Below w.heap.size w w':=by
 unfold ctxF at h
 by_cases h0:0≤x
 ·rw [if_pos h0] at h
  by_cases h1:x<(l.length:Int)
  ·rw [if_pos h1] at h
   obtain ⟨ad,rfl,hx0,hx1,hx2,hx3,hx4⟩:=jjb hr x h0 h1
   have HY:=am (Option.some.inj h)
   have HB:=am (Below.refl w.heap.size w)
   clear h hr
   have p0:=ezT h0
   have p1:=ezT h1
   have hu32:=Try.underlying32
   go_enter Try.func86,Try.ntmps86
   go_wp2
   go_ret
   exact ⟨by rw [← HY.out];rfl,bq⟩
  ·rw [if_neg h1] at h;cases h
 ·rw [if_neg h0] at h;cases h
def jKa.f (k : Nat) (l0_0 : List S54) (a1 : Int) : Option (List Int) := jQb (ctxF l0_0) k a1 []
theorem hp_cell_new (w : World) (v : Value) (t : TypeId) : (w.alloc (.cells #[v] t)).cell? ⟨w.heap.size, 0, none⟩ = some v := by simp
set_option maxHeartbeats 8000000 in
set_option maxRecDepth 100000 in
theorem jKa.calls (k : Nat) (A0_0 : Option Addr) (c0_0 : Nat) (l0_0 : List (S54)) (a1 : Int) (r : List Int) (w : World) (hr0_0 : Kd.C k54 w A0_0 l0_0.length l0_0) (hc0_0 : l0_0.length ≤ c0_0) (h : jKa.f k l0_0 a1 = some r) :
  Calls Try.prog 57 #[.agg #[.slice A0_0 l0_0.length c0_0], .int .i64 a1] w fun e w'=>∃ v0_:Value,e=.returned (v0_)∧Kd.R (Kd.int .i64) 3 w' w.heap.size (fun _=>True) v0_ r∧Below w.heap.size w w':=by
 have hu32:=Try.underlying32
 have B3:=am ((Below.refl w.heap.size w).alloc (Nat.le_refl _) (.cells #[.slice A0_0 l0_0.length c0_0] 32))
 have KC:=am (hp_cell_new w (.slice A0_0 l0_0.length c0_0) 32)
 have HF:=am (fun W (hb:Below w.heap.size w W) (B0:Nat) (hc:W.cell? ⟨B0,0,none⟩=some (.slice A0_0 l0_0.length c0_0))=>impl_contexts_walk k B0 (ctxF l0_0) a1 r W h (fun W' hb' x y hx =>
  impl_contexts1_calls A0_0 c0_0 l0_0 x y B0 W' (Kd.jI (Kd.jI hr0_0 hb) hb') (jsa hb' hc) hx))
 clear h hr0_0
 go_enter Try.func57,Try.ntmps57
 go_wp2_with (go_at_call 85;refine (HF.out _ B3.out _ KC.out).mono ?_;rintro e w2 ⟨v2,rfl,hr2,hb3⟩)
 go_ret
 exact ⟨_,rfl,Kd.jya hr2 B3.out.size,jnb B3.out B3.out.size hb3⟩
def jha.f (a0 : Int) (a1 : Int) (a2 : Int) : Option (Bool) := if a0 ≥ a1 then (some (decide (a0 ≤ a2))) else (some false)
set_option maxHeartbeats 8000000 in
set_option maxRecDepth 100000 in
theorem jha.calls (a0 : Int) (a1 : Int) (a2 : Int) (r : Bool) (w : World) (h : jha.f a0 a1 a2 = some r) :
  Calls Try.prog 102 #[.int .i64 a0, .int .i64 a1, .int .i64 a2] w fun e w'=>e=.returned (.bool r)∧jSa w w':=by
 have H:(if a0≥a1 then (some (decide (a0≤a2))) else (some false))=some r:=h
 clear h
 by_cases c4:a0≥a1
 ·rw [if_pos c4] at H
  have c4b0:decide (a1≤a0)=true:=dzT c4
  clear c4
  obtain rfl:=Option.some.inj H
  go_enter Try.func102,Try.ntmps102
  go_wp2
  go_ret
  exact ⟨sq,Y2⟩
 ·rw [if_neg c4] at H
  have c4b0:decide (a1≤a0)=false:=dzF c4
  clear c4
  obtain rfl:=Option.some.inj H
  go_enter Try.func102,Try.ntmps102
  go_wp2
  go_ret
  exact ⟨sq,Y2⟩
def jJa.f (l0_0 : List (S94)) (a1 : Int) : Option (Bool) := (jha.f a1 0 (wrap64 ((l0_0.length : Int) - 1))).bind fun t172 => (some t172)
set_option maxHeartbeats 8000000 in
set_option maxRecDepth 100000 in
theorem jJa.calls (A0_0 : Option Addr) (c0_0 : Nat) (l0_0 : List (S94)) (a1 : Int) (r : Bool) (w : World) (hr0_0 : Kd.C k94 w A0_0 l0_0.length l0_0) (hc0_0 : l0_0.length ≤ c0_0) (h : jJa.f l0_0 a1 = some r) :
  Calls Try.prog 94 #[.agg #[.slice A0_0 l0_0.length c0_0], .int .i64 a1] w fun e w'=>e=.returned (.bool r)∧Below w.heap.size w w':=by
 have hu37:=Try.underlying37
 have HR0_0:=am hr0_0
 have HC0_0:=am hc0_0
 clear hr0_0 hc0_0
 have HB:=am (Below.refl w.heap.size w)
 have H:((jha.f a1 0 (wrap64 ((l0_0.length:Int) - 1))).bind fun t172=>(some t172))=some r:=h
 clear h
 replace H:=bzS H
 obtain ⟨t172,A30,H⟩:=H
 replace H:(some t172)=some r:=H
 have A3:=am A30
 clear A30
 obtain rfl:=Option.some.inj H
 go_enter Try.func94,Try.ntmps94
 go_wp2_with (first |((with_reducible refine jv (N:=2) rfl ?_);refine bE (N:=2) (cs:=#[.slice A0_0 l0_0.length c0_0]) (t:=37) ?_;intro gb171 hg w4 hbox hb;have BK171:=am (hbox);have GW171:=am ((Y0:w.heap.size≤gb171));have GE171:=am ((Y0:w.heap.size≤gb171));replace HB:=am (jd (bq) hb);clear hb hbox hg;have hcz5_0:=bc0 BK171.out;have hfz5_0:=ja BK171.out 0) |((with_reducible refine jw (f:=102) rfl ?_);refine gL (some 10) Try.func102 #[.int .i64 a1, .int .i64 0, .int .i64 (wrap64 ((l0_0.length:Int) - 1))] ?_;(with_reducible refine (jha.calls a1 0 (wrap64 ((l0_0.length:Int) - 1)) t172 _ A3.out).mono ?_);rintro e w' ⟨rfl,⟨nd,rfl⟩⟩;refine ⟨_,rfl,?_⟩))
 go_ret
 exact ⟨Y1,by repeat (first |(with_reducible first | exact HB.out | apply jk | apply jf | apply jl | refine jh ?_ GE171.out) | exact HB.out)⟩
def jWa.f (a0 : Int) : Option (Bool) := (jha.f a0 0 99).bind fun t173 => (some t173)
set_option maxHeartbeats 8000000 in
set_option maxRecDepth 100000 in
theorem jWa.calls (a0 : Int) (r : Bool) (w : World) (h : jWa.f a0 = some r) :
  Calls Try.prog 95 #[.int .i64 a0] w fun e w'=>e=.returned (.bool r)∧jSa w w':=by
 have H:((jha.f a0 0 99).bind fun t173=>(some t173))=some r:=h
 clear h
 replace H:=bzS H
 obtain ⟨t173,A20,H⟩:=H
 replace H:(some t173)=some r:=H
 have A2:=am A20
 clear A20
 obtain rfl:=Option.some.inj H
 go_enter Try.func95,Try.ntmps95
 go_wp2_with (first |((with_reducible refine jw (f:=102) rfl ?_);refine gL (some 4) Try.func102 #[.int .i64 a0, .int .i64 0, .int .i64 99] ?_;(with_reducible refine (jha.calls a0 0 99 t173 _ A2.out).mono ?_);rintro e w' ⟨rfl,⟨nd,rfl⟩⟩;refine ⟨_,rfl,?_⟩))
 go_ret
 exact ⟨sq,Y2⟩
def jva.l0 : Nat → ByteArray → Int → Int → Option (Bool)
 | 0,_,_,_=>none
 | k+1,x0,x5,x6=>if x6<x5 then (if 0≤x6 then (if x6<(x0.size:Int) then (if (bt x0 x6)<97 then (some false) else (if (bt x0 x6) > 122 then (some false) else (jva.l0 k x0 x5 (wrap64 (x6+1))))) else (none)) else (none)) else ((jha.f (x0.size:Int) 1 6).bind fun t174=>(some t174))
def jva.f (k : Nat) (a0 : ByteArray) : Option (Bool) := jva.l0 k a0 (a0.size : Int) 0
set_option maxHeartbeats 8000000 in
set_option maxRecDepth 100000 in
theorem jva.calls (k : Nat) (a0 : ByteArray) (r : Bool) (w : World) (h : jva.f k a0 = some r) :
  Calls Try.prog 107 #[.string a0] w fun e w'=>e=.returned (.bool r)∧jSa w w':=by
 have H:(jva.l0 k a0 (a0.size:Int) 0)=some r:=h
 clear h
 have H':=am H
 clear H
 go_enter Try.func107,Try.ntmps107
 go_wp2
 go_loopg [6] k (fun kq v6 w'=>∃ (x6_1:Int),v6=.int .i64 x6_1∧jy (jva.l0 kq a0 (a0.size:Int) x6_1=some r)∧jy (kq≤k)∧jSa w w')
 case atStart=>exact ⟨(0),(sq),H',⟨Nat.le_refl _⟩,Y2⟩
 case round =>
  clear H'
  try clear c1
  obtain ⟨x6_1,rfl,HA,HK1,⟨m1,rfl⟩⟩:=hrel
  cases gk with
  | zero=>exact absurd HA.out (by simp [jva.l0])
  | succ k1 =>
   have H:=HA.out
   clear HA
   simp only [jva.l0] at H
   by_cases c2:x6_1<(a0.size:Int)
   ·rw [if_pos c2] at H
    have c2b0:decide (x6_1<(a0.size:Int))=true:=dzT c2
    clear c2
    by_cases c3:0≤x6_1
    ·rw [if_pos c3] at H
     have c3b0:decide (0≤x6_1)=true:=dzT c3
     clear c3
     by_cases c4:x6_1<(a0.size:Int)
     ·rw [if_pos c4] at H
      have c4b0:decide (x6_1<(a0.size:Int))=true:=dzT c4
      clear c4
      by_cases c6:(bt a0 x6_1)<97
      ·rw [if_pos c6] at H
       have c6b0:decide ((bt a0 x6_1)<97)=true:=dzT c6
       clear c6
       obtain rfl:=Option.some.inj H
       have p5:0≤(x6_1:Int):=ozD (uq)
       have q5:x6_1<(a0.size:Int):=ozD (uq)
       have hx5:=bt_at a0 x6_1
       replace p5:=ezT p5
       replace q5:=ezT q5
       go_wp2
       go_ret
       exact ⟨sq,Y2⟩
      ·rw [if_neg c6] at H
       have c6b0:decide ((bt a0 x6_1)<97)=false:=dzF c6
       clear c6
       by_cases c8:(bt a0 x6_1) > 122
       ·rw [if_pos c8] at H
        have c8b0:decide (122<(bt a0 x6_1))=true:=dzT c8
        clear c8
        obtain rfl:=Option.some.inj H
        have p5:0≤(x6_1:Int):=ozD (uq)
        have q5:x6_1<(a0.size:Int):=ozD (uq)
        have hx5:=bt_at a0 x6_1
        replace p5:=ezT p5
        replace q5:=ezT q5
        have p7:0≤(x6_1:Int):=ozD (uq)
        have q7:x6_1<(a0.size:Int):=ozD (uq)
        have hx7:=bt_at a0 x6_1
        replace p7:=ezT p7
        replace q7:=ezT q7
        go_wp2
        go_ret
        exact ⟨sq,Y2⟩
       ·rw [if_neg c8] at H
        have c8b0:decide (122<(bt a0 x6_1))=false:=dzF c8
        clear c8
        have H':=am H
        clear H
        have p5:0≤(x6_1:Int):=ozD (uq)
        have q5:x6_1<(a0.size:Int):=ozD (uq)
        have hx5:=bt_at a0 x6_1
        replace p5:=ezT p5
        replace q5:=ezT q5
        have p7:0≤(x6_1:Int):=ozD (uq)
        have q7:x6_1<(a0.size:Int):=ozD (uq)
        have hx7:=bt_at a0 x6_1
        replace p7:=ezT p7
        replace q7:=ezT q7
        go_wp2
        go_roundg k1
        case measure=>have:=HK1.out;omega
        case rel=>exact ⟨(wrap64 (x6_1+1)),(sq),H',⟨by have:=HK1.out;omega⟩,Y2⟩
     ·rw [if_neg c4] at H
      exact absurd H (by simp)
    ·rw [if_neg c3] at H
     exact absurd H (by simp)
   ·rw [if_neg c2] at H
    have c2b0:decide (x6_1<(a0.size:Int))=false:=dzF c2
    clear c2
    replace H:=bzS H
    obtain ⟨t174,A90,H⟩:=H
    replace H:(some t174)=some r:=H
    have A9:=am A90
    clear A90
    obtain rfl:=Option.some.inj H
    go_wp2_with (first |((with_reducible refine jw (f:=102) rfl ?_);refine gL (some 22) Try.func102 #[.int .i64 (a0.size:Int), .int .i64 1, .int .i64 6] ?_;(with_reducible refine (jha.calls (a0.size:Int) 1 6 t174 _ A9.out).mono ?_);rintro e w' ⟨rfl,⟨nd,rfl⟩⟩;refine ⟨_,rfl,?_⟩))
    go_ret
    exact ⟨sq,Y2⟩

theorem impl_named1_calls (a b : ByteArray) (p : Int) (B : Nat) (w : World) (hB : B < w.heap.size) (hc : w.cell? ⟨B, 0, none⟩ = some (.string b)) :
  Calls Try.prog 123 #[.agg #[.string a, .int .i64 p], .pointer (some ⟨B,0,none⟩)] w fun e w'=>e=.returned (.bool (a.toList == b.toList))∧Below w.heap.size w w':=by
 have hne:B≠w.heap.size:=by omega
 go_enter Try.func123,Try.ntmps123
 go_wp2
 go_ret
 exact ⟨rfl,(Below.refl _ _).alloc (Nat.le_refl _) _⟩
set_option maxHeartbeats 8000000 in
set_option maxRecDepth 100000 in
theorem impl_named_idx (A_ : Option Addr) (c_ : Nat) (l : List (S94)) (B0_ : Nat) (p : S94 → Option Bool) (r : Int) (w : World) (hr : Kd.C k94 w A_ l.length l) (h : idxFrom p l 0 = some r)
  (hp:∀ W,Below w.heap.size w W→∀ (x:S94) (b:Bool),p x=some b→Calls Try.prog 123 #[.agg #[.string x.f0, .int .i64 x.f1], .pointer (some ⟨B0_,0,none⟩)] W fun e w'=>e=.returned (.bool b)∧Below W.heap.size W w') :
  Calls Try.prog 122 #[.slice A_ l.length c_, .func (.func 123) #[] #[.pointer (some ⟨B0_,0,none⟩)]] w fun e w'=>e=.returned (.int .i64 r)∧Below w.heap.size w w':=by
 have hm:l.length≤9223372036854775807:=Kd.C_max hr
 have HR:=am hr
 have HP:=am hp
 have H0:=am h
 clear hr hp h
 go_enter Try.func122,Try.ntmps122
 go_wp2
 go_loopw [5,8] (fun i5 i8 wr=>∃ k:Nat,k≤l.length∧i8=.int .i64 k∧jy (idxFrom p (l.drop k) k=some r)∧Below w.heap.size w wr) (fun _ i8 _=>l.length - (intOf i8).toNat)
 case atStart=>exact ⟨0,Nat.zero_le _,rfl,H0,Below.refl _ _⟩
 case round =>
  clear H0
  obtain ⟨k,hk,rfl,HA,hb⟩:=hrel
  by_cases hlt:k<l.length
  ·have HB:=am (idxFrom_step hlt HA.out)
   clear HA
   obtain ⟨ad,rfl,hx0,hx1⟩:=at_T94 HR.out (k:Int) (by omega) (by omega)
   have hrd:jF l (k:Int)=l[k]:=by simp [jF,List.getD_eq_getElem?_getD,hlt]
   replace hx0:=jsa hb hx0
   replace hx1:=jsa hb hx1
   rw [hrd] at hx0 hx1
   simp only [Int.toNat_natCast] at hx0 hx1
   clear hrd
   obtain ⟨b,hb1,hb0⟩:=HB.out
   have HQ:=am hb1
   clear hb1 HB
   cases b with
   | true =>
    have HZ:=am (by simpa using hb0:(k:Int)=r)
    clear hb0
    go_wp2_with (go_at_call 123;refine (HP.out _ hb _ _ HQ.out).mono ?_;rintro e w' ⟨rfl,hb2⟩)
    go_ret
    exact ⟨by rw [← HZ.out];rfl,jnb hb hb.size hb2⟩
   | false =>
    have HZ:=am (by simpa using hb0:idxFrom p (l.drop (k+1)) (k+1)=some r)
    clear hb0
    go_wp2_with (go_at_call 123;refine (HP.out _ hb _ _ HQ.out).mono ?_;rintro e w' ⟨rfl,hb2⟩)
    go_roundw
    case rel=>exact ⟨k+1,hlt,by go_num,HZ,jnb hb hb.size hb2⟩
    case measure=>simp [intOf];omega
  ·have HZ:=am (idxFrom_end (by omega) HA.out)
   clear HA
   go_wp2
   go_ret
   exact ⟨by rw [HZ.out];rfl,hb⟩
def jAa.f (l0_0 : List S94) (a1 : ByteArray) : Option Int := idxFrom (fun x : S94 => some (x.f0.toList == a1.toList)) l0_0 0
set_option maxHeartbeats 8000000 in
set_option maxRecDepth 100000 in
theorem jAa.calls (A0_0 : Option Addr) (c0_0 : Nat) (l0_0 : List (S94)) (a1 : ByteArray) (r : Int) (w : World) (hr0_0 : Kd.C k94 w A0_0 l0_0.length l0_0) (hc0_0 : l0_0.length ≤ c0_0) (h : jAa.f l0_0 a1 = some r) :
  Calls Try.prog 108 #[.agg #[.slice A0_0 l0_0.length c0_0], .string a1] w fun e w'=>e=.returned (.int .i64 r)∧Below w.heap.size w w':=by
 have hu37:=Try.underlying37
 have HF:=am (fun W (hb:Below w.heap.size w W) (B:Nat) (hB:B<W.heap.size) (hc:W.cell? ⟨B,0,none⟩=some (.string a1))=>impl_named_idx A0_0 c0_0 l0_0 B (fun x:S94=>some (x.f0.toList == a1.toList)) r W (Kd.jI hr0_0 hb) h (fun W' hb' x b hx=>by
  obtain rfl:=Option.some.inj hx
  exact impl_named1_calls x.f0 a1 x.f1 B W' (Nat.lt_of_lt_of_le hB hb'.size) (jsa hb' hc)))
 clear h hr0_0
 go_enter Try.func108,Try.ntmps108
 go_wp2_with (go_at_call 122;refine (HF.out _ (((Below.refl _ _).alloc (Nat.le_refl _) _).alloc (by simp) _) _ (by simp) (by simp)).mono ?_;rintro e w' ⟨rfl,hb2⟩)
 go_ret
 exact ⟨rfl,(((Below.refl _ _).alloc (Nat.le_refl _) _).alloc (by simp) _).trans (hb2.mono (by simp;omega))⟩
mutual
def jo.l0 : Nat → List (S94) → Int → Int → List (S94) → Option (Bool)
 | 0,_,_,_,_=>none
 | k+1,x6,x7,x8,x176000=>if x8<x7 then (if 0≤x8 then (if x8<(x6.length:Int) then ((jva.f k ((jF x6 x8).f0)).bind fun t179=>(if t179=true then ((jAa.f x176000 ((jF x6 x8).f0)).bind fun t180=>(if t180=x8 then (if x8=0 then (if ((jF x6 x8).f1)=(-1) then (if x8 > 0 then ((jha.f ((jF x6 x8).f1) 0 (wrap64 (x8 - 1))).bind fun t181=>(jo.j1 k x6 x7 x8 (!t181) x176000)) else (jo.j1 k x6 x7 x8 false x176000)) else (jo.j1 k x6 x7 x8 true x176000)) else (if x8 > 0 then ((jha.f ((jF x6 x8).f1) 0 (wrap64 (x8 - 1))).bind fun t182=>(jo.j1 k x6 x7 x8 (!t182) x176000)) else (jo.j1 k x6 x7 x8 false x176000))) else (jo.j1 k x6 x7 x8 true x176000))) else (jo.j1 k x6 x7 x8 true x176000))) else (none)) else (none)) else ((jha.f (x176000.length:Int) 1 8).bind fun t176=>(some t176))
def jo.j1 : Nat → List (S94) → Int → Int → Bool → List (S94) → Option (Bool)
 | 0,_,_,_,_,_=>none
 | k+1,x6,x7,x8,x45,x176000=>if x45=true then (some false) else (jo.l0 k x6 x7 (wrap64 (x8+1)) x176000)
end
def jo.f (k : Nat) (l0_0 : List (S94)) : Option (Bool) := jo.l0 k l0_0 (l0_0.length : Int) 0 l0_0
set_option maxHeartbeats 8000000 in
set_option maxRecDepth 100000 in
theorem jo.calls (k : Nat) (A0_0 : Option Addr) (c0_0 : Nat) (l0_0 : List (S94)) (r : Bool) (w : World) (hr0_0 : Kd.C k94 w A0_0 l0_0.length l0_0) (hc0_0 : l0_0.length ≤ c0_0) (h : jo.f k l0_0 = some r) :
  Calls Try.prog 96 #[.agg #[.slice A0_0 l0_0.length c0_0]] w fun e w'=>e=.returned (.bool r)∧Below w.heap.size w w':=by
 have hu37:=Try.underlying37
 have hu94:=Try.underlying94
 have HR0_0:=am hr0_0
 have HC0_0:=am hc0_0
 clear hr0_0 hc0_0
 have HB:=am (Below.refl w.heap.size w)
 have H:(jo.l0 k l0_0 (l0_0.length:Int) 0 l0_0)=some r:=h
 clear h
 have H':=am H
 clear H
 go_enter Try.func96,Try.ntmps96
 go_wp2_with (first |((with_reducible refine jv (N:=1) rfl ?_);refine bE (N:=1) (cs:=#[.slice A0_0 l0_0.length c0_0]) (t:=37) ?_;intro gb175 hg w2 hbox hb;have BK175:=am (hbox);have GW175:=am ((Y0:w.heap.size≤gb175));have GE175:=am ((Y0:w.heap.size≤gb175));replace HB:=am (jd (bq) hb);clear hb hbox hg;have hcz3_0:=bc0 BK175.out;have hfz3_0:=ja BK175.out 0))
 go_loopg [8] k (fun kq v8 w'=>∃ (x8_1:Int),v8=.int .i64 x8_1∧jy (jo.l0 kq l0_0 (l0_0.length:Int) x8_1 l0_0=some r)∧jy (kq≤k)∧jy (w'.heap[gb175]?=some (.cells #[(.slice A0_0 l0_0.length c0_0)] 37 (0,0)))∧jy (Below w.heap.size w w'))
 case atStart=>exact ⟨(0),(sq),H',⟨Nat.le_refl _⟩,⟨kq BK175.out⟩,⟨Y56⟩⟩
 case round =>
  clear H'
  try clear p2
  try clear hcz3_0
  try clear hfz3_0
  obtain ⟨x8_1,rfl,HA,HK1,BK175,HB⟩:=hrel
  cases gk with
  | zero=>exact absurd HA.out (by simp [jo.l0])
  | succ k1 =>
   have H:=HA.out
   clear HA
   simp only [jo.l0] at H
   by_cases c4:x8_1<(l0_0.length:Int)
   ·rw [if_pos c4] at H
    have c4b0:decide (x8_1<(l0_0.length:Int))=true:=dzT c4
    clear c4
    by_cases c5:0≤x8_1
    ·rw [if_pos c5] at H
     have c5b0:decide (0≤x8_1)=true:=dzT c5
     clear c5
     by_cases c6:x8_1<(l0_0.length:Int)
     ·rw [if_pos c6] at H
      have c6b0:decide (x8_1<(l0_0.length:Int))=true:=dzT c6
      clear c6
      have HC7:=am H
      clear H
      have p177:0≤(x8_1:Int):=ozD (uq)
      have q177:x8_1<(l0_0.length:Int):=ozD (uq)
      obtain ⟨ad177,e177,hx177_0,hx177_1⟩:=at_T94 HR0_0.out x8_1 p177 q177
      cases e177
      replace hx177_0:=cb HB.out hx177_0
      replace hx177_1:=cb HB.out hx177_1
      replace p177:=ezT p177
      replace q177:=ezT q177
      go_upto_region 4 with (first |((with_reducible refine jv (N:=4) rfl ?_);refine bE (N:=4) (cs:=#[.string (⟨#[]⟩:ByteArray), .int .i64 0]) (t:=94) ?_;intro gb178 hg w8 hbox hb;have BK178:=am (hbox);have GW178:=am ((Y68:w.heap.size≤gb178));have GE178:=am ((Y68:w.heap.size≤gb178));have NB175_178:=am ((by rw [hg];exact Nat.ne_of_lt (jZ (g:=gb175) (o:=.cells #[.slice (some ad177) l0_0.length c0_0] 37 (0,0)) (kq BK175.out)):gb175≠gb178));have NB178_175:=am ((by rw [hg];exact Nat.ne_of_gt (jZ (g:=gb175) (o:=.cells #[.slice (some ad177) l0_0.length c0_0] 37 (0,0)) (kq BK175.out)):gb178≠gb175));replace BK175:=am (jb (g:=gb175) (o:=.cells #[.slice (some ad177) l0_0.length c0_0] 37 (0,0)) (kq BK175.out) hb);replace HB:=am (jd (Y56) hb);clear hb hbox hg;have hnb9:=NB178_175.out;have hnc9:=NB175_178.out;have hcz10_0:=bc0 BK178.out;have hcz10_1:=bc1 BK178.out;have hfz10_0:=ja BK178.out 0;have hfz10_1:=ja BK178.out 1))
      (try simp only [Act.put,List.setIfInBounds_toArray,List.set_cons_zero,List.set_cons_succ])
      go_cut [45] (fun v45 wc=>∃ (kq:Nat) (x45_6:Bool),v45=.bool x45_6∧jy (jo.j1 kq l0_0 (l0_0.length:Int) x8_1 x45_6 l0_0=some r)∧jy (kq≤k1)∧jy (wc.heap[gb175]?=some (.cells #[(.slice (some ad177) l0_0.length c0_0)] 37 (0,0)))∧jy (wc.heap[gb178]?=some (.cells #[.string ((jF l0_0 x8_1).f0), .int .i64 ((jF l0_0 x8_1).f1)] 94 (0,0)))∧jy (Below w.heap.size w wc))
      case first =>
       have H:=HC7.out
       clear HC7
       replace H:=bzS H
       obtain ⟨t179,A110,H⟩:=H
       replace H:(if t179=true then ((jAa.f l0_0 ((jF l0_0 x8_1).f0)).bind fun t180=>(if t180=x8_1 then (if x8_1=0 then (if ((jF l0_0 x8_1).f1)=(-1) then (if x8_1 > 0 then ((jha.f ((jF l0_0 x8_1).f1) 0 (wrap64 (x8_1 - 1))).bind fun t181=>(jo.j1 k1 l0_0 (l0_0.length:Int) x8_1 (!t181) l0_0)) else (jo.j1 k1 l0_0 (l0_0.length:Int) x8_1 false l0_0)) else (jo.j1 k1 l0_0 (l0_0.length:Int) x8_1 true l0_0)) else (if x8_1 > 0 then ((jha.f ((jF l0_0 x8_1).f1) 0 (wrap64 (x8_1 - 1))).bind fun t182=>(jo.j1 k1 l0_0 (l0_0.length:Int) x8_1 (!t182) l0_0)) else (jo.j1 k1 l0_0 (l0_0.length:Int) x8_1 false l0_0))) else (jo.j1 k1 l0_0 (l0_0.length:Int) x8_1 true l0_0))) else (jo.j1 k1 l0_0 (l0_0.length:Int) x8_1 true l0_0))=some r:=H
       have A11:=am A110
       clear A110
       by_cases c12:t179=true
       ·subst c12
        have H1:((jAa.f l0_0 ((jF l0_0 x8_1).f0)).bind fun t180=>(if t180=x8_1 then (if x8_1=0 then (if ((jF l0_0 x8_1).f1)=(-1) then (if x8_1 > 0 then ((jha.f ((jF l0_0 x8_1).f1) 0 (wrap64 (x8_1 - 1))).bind fun t181=>(jo.j1 k1 l0_0 (l0_0.length:Int) x8_1 (!t181) l0_0)) else (jo.j1 k1 l0_0 (l0_0.length:Int) x8_1 false l0_0)) else (jo.j1 k1 l0_0 (l0_0.length:Int) x8_1 true l0_0)) else (if x8_1 > 0 then ((jha.f ((jF l0_0 x8_1).f1) 0 (wrap64 (x8_1 - 1))).bind fun t182=>(jo.j1 k1 l0_0 (l0_0.length:Int) x8_1 (!t182) l0_0)) else (jo.j1 k1 l0_0 (l0_0.length:Int) x8_1 false l0_0))) else (jo.j1 k1 l0_0 (l0_0.length:Int) x8_1 true l0_0)))=some r:=by rw [if_pos rfl] at H;exact H
        clear H
        have H:=H1
        clear H1
        replace H:=bzS H
        obtain ⟨t180,A130,H⟩:=H
        replace H:(if t180=x8_1 then (if x8_1=0 then (if ((jF l0_0 x8_1).f1)=(-1) then (if x8_1 > 0 then ((jha.f ((jF l0_0 x8_1).f1) 0 (wrap64 (x8_1 - 1))).bind fun t181=>(jo.j1 k1 l0_0 (l0_0.length:Int) x8_1 (!t181) l0_0)) else (jo.j1 k1 l0_0 (l0_0.length:Int) x8_1 false l0_0)) else (jo.j1 k1 l0_0 (l0_0.length:Int) x8_1 true l0_0)) else (if x8_1 > 0 then ((jha.f ((jF l0_0 x8_1).f1) 0 (wrap64 (x8_1 - 1))).bind fun t182=>(jo.j1 k1 l0_0 (l0_0.length:Int) x8_1 (!t182) l0_0)) else (jo.j1 k1 l0_0 (l0_0.length:Int) x8_1 false l0_0))) else (jo.j1 k1 l0_0 (l0_0.length:Int) x8_1 true l0_0))=some r:=H
        have A13:=am A130
        clear A130
        by_cases c14:t180=x8_1
        ·rw [if_pos c14] at H
         have c14b0:(t180 == x8_1)=true:=beq_iff_eq.mpr c14
         have c14b1:(t180 != x8_1)=false:=bne_eq_false_iff_eq.mpr c14
         clear c14
         (first | rw [c14b0] |(simp only [jLb,jOb];rw [c14b0]) | skip)
         by_cases c15:x8_1=0
         ·rw [if_pos c15] at H
          have c15b0:(x8_1 == 0)=true:=beq_iff_eq.mpr c15
          have c15b1:(x8_1 != 0)=false:=bne_eq_false_iff_eq.mpr c15
          clear c15
          by_cases c16:((jF l0_0 x8_1).f1)=(-1)
          ·rw [if_pos c16] at H
           have c16b0:(((jF l0_0 x8_1).f1) == (-1))=true:=beq_iff_eq.mpr c16
           have c16b1:(((jF l0_0 x8_1).f1) != (-1))=false:=bne_eq_false_iff_eq.mpr c16
           clear c16
           by_cases c17:x8_1 > 0
           ·rw [if_pos c17] at H
            have c17b0:decide (0<x8_1)=true:=dzT c17
            clear c17
            replace H:=bzS H
            obtain ⟨t181,A180,H⟩:=H
            replace H:(jo.j1 k1 l0_0 (l0_0.length:Int) x8_1 (!t181) l0_0)=some r:=H
            have A18:=am A180
            clear A180
            have H':=am H
            clear H
            have hnb19:=NB178_175.out
            have hnc19:=NB175_178.out
            have hcz20_0:=bc0 BK178.out
            have hcz20_1:=bc1 BK178.out
            have hfz20_0:=ja BK178.out 0
            have hfz20_1:=ja BK178.out 1
            go_wp2_with (first |((with_reducible refine jw (f:=107) rfl ?_);refine gL (some 15) Try.func107 #[.string ((jF l0_0 x8_1).f0)] ?_;(with_reducible refine (jva.calls k1 ((jF l0_0 x8_1).f0) true _ A11.out).mono ?_);rintro e w' ⟨rfl,⟨nd,rfl⟩⟩;refine ⟨_,rfl,?_⟩;have hcz21_0:=bc0 BK175.out;have hfz21_0:=ja BK175.out 0) |(go_at_call 108;(with_reducible refine (jAa.calls _ _ l0_0 ((jF l0_0 x8_1).f0) t180 _ ?side1 ?side2 A13.out).mono ?_);(case side1=>exact Kd.jI HR0_0.out (Y8));(case side2=>exact HC0_0.out);rintro e w22 ⟨rfl,hb⟩;replace BK175:=am (jb (g:=gb175) (o:=.cells #[.slice (some ad177) l0_0.length c0_0] 37 (0,0)) (Y25) hb);replace BK178:=am (jb (g:=gb178) (o:=.cells #[.string ((jF l0_0 x8_1).f0), .int .i64 ((jF l0_0 x8_1).f1)] 94 (0,0)) (Y26) hb);replace HB:=am (jd (Y8) hb);(try clear hb);(try clear hb2);(try clear hk);(try clear hi);have hcz23_0:=bc0 BK178.out;have hcz23_1:=bc1 BK178.out;have hfz23_0:=ja BK178.out 0;have hfz23_1:=ja BK178.out 1) |(go_at_call 102;(with_reducible refine (jha.calls ((jF l0_0 x8_1).f1) 0 (wrap64 (x8_1 - 1)) t181 _ A18.out).mono ?_);rintro e w' ⟨rfl,⟨nd,rfl⟩⟩))
            go_meet
            case rel=>exact ⟨_,(!t181),(sq),H',⟨by have:=HK1.out;first | omega | exact Nat.le_refl _⟩,⟨kq BK175.out⟩,⟨kq BK178.out⟩,⟨Y8⟩⟩
           ·rw [if_neg c17] at H
            have c17b0:decide (0<x8_1)=false:=dzF c17
            clear c17
            have H':=am H
            clear H
            have hnb24:=NB178_175.out
            have hnc24:=NB175_178.out
            have hcz25_0:=bc0 BK178.out
            have hcz25_1:=bc1 BK178.out
            have hfz25_0:=ja BK178.out 0
            have hfz25_1:=ja BK178.out 1
            go_wp2_with (first |((with_reducible refine jw (f:=107) rfl ?_);refine gL (some 15) Try.func107 #[.string ((jF l0_0 x8_1).f0)] ?_;(with_reducible refine (jva.calls k1 ((jF l0_0 x8_1).f0) true _ A11.out).mono ?_);rintro e w' ⟨rfl,⟨nd,rfl⟩⟩;refine ⟨_,rfl,?_⟩;have hcz26_0:=bc0 BK175.out;have hfz26_0:=ja BK175.out 0) |(go_at_call 108;(with_reducible refine (jAa.calls _ _ l0_0 ((jF l0_0 x8_1).f0) t180 _ ?side1 ?side2 A13.out).mono ?_);(case side1=>exact Kd.jI HR0_0.out (Y8));(case side2=>exact HC0_0.out);rintro e w27 ⟨rfl,hb⟩;replace BK175:=am (jb (g:=gb175) (o:=.cells #[.slice (some ad177) l0_0.length c0_0] 37 (0,0)) (Y25) hb);replace BK178:=am (jb (g:=gb178) (o:=.cells #[.string ((jF l0_0 x8_1).f0), .int .i64 ((jF l0_0 x8_1).f1)] 94 (0,0)) (Y26) hb);replace HB:=am (jd (Y8) hb);(try clear hb);(try clear hb2);(try clear hk);(try clear hi);have hcz28_0:=bc0 BK178.out;have hcz28_1:=bc1 BK178.out;have hfz28_0:=ja BK178.out 0;have hfz28_1:=ja BK178.out 1))
            go_meet
            case rel=>exact ⟨_,(false),(sq),H',⟨by have:=HK1.out;first | omega | exact Nat.le_refl _⟩,⟨kq BK175.out⟩,⟨kq BK178.out⟩,⟨Y8⟩⟩
          ·rw [if_neg c16] at H
           have c16b0:(((jF l0_0 x8_1).f1) == (-1))=false:=beq_eq_false_iff_ne.mpr c16
           have c16b1:(((jF l0_0 x8_1).f1) != (-1))=true:=bne_iff_ne.mpr c16
           have H':=am H
           clear H
           have hnb29:=NB178_175.out
           have hnc29:=NB175_178.out
           have hcz30_0:=bc0 BK178.out
           have hcz30_1:=bc1 BK178.out
           have hfz30_0:=ja BK178.out 0
           have hfz30_1:=ja BK178.out 1
           go_wp2_with (first |((with_reducible refine jw (f:=107) rfl ?_);refine gL (some 15) Try.func107 #[.string ((jF l0_0 x8_1).f0)] ?_;(with_reducible refine (jva.calls k1 ((jF l0_0 x8_1).f0) true _ A11.out).mono ?_);rintro e w' ⟨rfl,⟨nd,rfl⟩⟩;refine ⟨_,rfl,?_⟩;have hcz31_0:=bc0 BK175.out;have hfz31_0:=ja BK175.out 0) |(go_at_call 108;(with_reducible refine (jAa.calls _ _ l0_0 ((jF l0_0 x8_1).f0) t180 _ ?side1 ?side2 A13.out).mono ?_);(case side1=>exact Kd.jI HR0_0.out (Y8));(case side2=>exact HC0_0.out);rintro e w32 ⟨rfl,hb⟩;replace BK175:=am (jb (g:=gb175) (o:=.cells #[.slice (some ad177) l0_0.length c0_0] 37 (0,0)) (Y25) hb);replace BK178:=am (jb (g:=gb178) (o:=.cells #[.string ((jF l0_0 x8_1).f0), .int .i64 ((jF l0_0 x8_1).f1)] 94 (0,0)) (Y26) hb);replace HB:=am (jd (Y8) hb);(try clear hb);(try clear hb2);(try clear hk);(try clear hi);have hcz33_0:=bc0 BK178.out;have hcz33_1:=bc1 BK178.out;have hfz33_0:=ja BK178.out 0;have hfz33_1:=ja BK178.out 1))
           go_meet
           case rel=>exact ⟨_,(true),(sq),H',⟨by have:=HK1.out;first | omega | exact Nat.le_refl _⟩,⟨kq BK175.out⟩,⟨kq BK178.out⟩,⟨Y8⟩⟩
         ·rw [if_neg c15] at H
          have c15b0:(x8_1 == 0)=false:=beq_eq_false_iff_ne.mpr c15
          have c15b1:(x8_1 != 0)=true:=bne_iff_ne.mpr c15
          by_cases c34:x8_1 > 0
          ·rw [if_pos c34] at H
           have c34b0:decide (0<x8_1)=true:=dzT c34
           clear c34
           replace H:=bzS H
           obtain ⟨t182,A350,H⟩:=H
           replace H:(jo.j1 k1 l0_0 (l0_0.length:Int) x8_1 (!t182) l0_0)=some r:=H
           have A35:=am A350
           clear A350
           have H':=am H
           clear H
           have hnb36:=NB178_175.out
           have hnc36:=NB175_178.out
           have hcz37_0:=bc0 BK178.out
           have hcz37_1:=bc1 BK178.out
           have hfz37_0:=ja BK178.out 0
           have hfz37_1:=ja BK178.out 1
           go_wp2_with (first |((with_reducible refine jw (f:=107) rfl ?_);refine gL (some 15) Try.func107 #[.string ((jF l0_0 x8_1).f0)] ?_;(with_reducible refine (jva.calls k1 ((jF l0_0 x8_1).f0) true _ A11.out).mono ?_);rintro e w' ⟨rfl,⟨nd,rfl⟩⟩;refine ⟨_,rfl,?_⟩;have hcz38_0:=bc0 BK175.out;have hfz38_0:=ja BK175.out 0) |(go_at_call 108;(with_reducible refine (jAa.calls _ _ l0_0 ((jF l0_0 x8_1).f0) t180 _ ?side1 ?side2 A13.out).mono ?_);(case side1=>exact Kd.jI HR0_0.out (Y8));(case side2=>exact HC0_0.out);rintro e w39 ⟨rfl,hb⟩;replace BK175:=am (jb (g:=gb175) (o:=.cells #[.slice (some ad177) l0_0.length c0_0] 37 (0,0)) (Y25) hb);replace BK178:=am (jb (g:=gb178) (o:=.cells #[.string ((jF l0_0 x8_1).f0), .int .i64 ((jF l0_0 x8_1).f1)] 94 (0,0)) (Y26) hb);replace HB:=am (jd (Y8) hb);(try clear hb);(try clear hb2);(try clear hk);(try clear hi);have hcz40_0:=bc0 BK178.out;have hcz40_1:=bc1 BK178.out;have hfz40_0:=ja BK178.out 0;have hfz40_1:=ja BK178.out 1) |(go_at_call 102;(with_reducible refine (jha.calls ((jF l0_0 x8_1).f1) 0 (wrap64 (x8_1 - 1)) t182 _ A35.out).mono ?_);rintro e w' ⟨rfl,⟨nd,rfl⟩⟩))
           go_meet
           case rel=>exact ⟨_,(!t182),(sq),H',⟨by have:=HK1.out;first | omega | exact Nat.le_refl _⟩,⟨kq BK175.out⟩,⟨kq BK178.out⟩,⟨Y8⟩⟩
          ·rw [if_neg c34] at H
           have c34b0:decide (0<x8_1)=false:=dzF c34
           clear c34
           have H':=am H
           clear H
           have hnb41:=NB178_175.out
           have hnc41:=NB175_178.out
           have hcz42_0:=bc0 BK178.out
           have hcz42_1:=bc1 BK178.out
           have hfz42_0:=ja BK178.out 0
           have hfz42_1:=ja BK178.out 1
           go_wp2_with (first |((with_reducible refine jw (f:=107) rfl ?_);refine gL (some 15) Try.func107 #[.string ((jF l0_0 x8_1).f0)] ?_;(with_reducible refine (jva.calls k1 ((jF l0_0 x8_1).f0) true _ A11.out).mono ?_);rintro e w' ⟨rfl,⟨nd,rfl⟩⟩;refine ⟨_,rfl,?_⟩;have hcz43_0:=bc0 BK175.out;have hfz43_0:=ja BK175.out 0) |(go_at_call 108;(with_reducible refine (jAa.calls _ _ l0_0 ((jF l0_0 x8_1).f0) t180 _ ?side1 ?side2 A13.out).mono ?_);(case side1=>exact Kd.jI HR0_0.out (Y8));(case side2=>exact HC0_0.out);rintro e w44 ⟨rfl,hb⟩;replace BK175:=am (jb (g:=gb175) (o:=.cells #[.slice (some ad177) l0_0.length c0_0] 37 (0,0)) (Y25) hb);replace BK178:=am (jb (g:=gb178) (o:=.cells #[.string ((jF l0_0 x8_1).f0), .int .i64 ((jF l0_0 x8_1).f1)] 94 (0,0)) (Y26) hb);replace HB:=am (jd (Y8) hb);(try clear hb);(try clear hb2);(try clear hk);(try clear hi)))
           go_meet
           case rel=>exact ⟨_,(false),(sq),H',⟨by have:=HK1.out;first | omega | exact Nat.le_refl _⟩,⟨kq BK175.out⟩,⟨kq BK178.out⟩,⟨Y8⟩⟩
        ·rw [if_neg c14] at H
         have c14b0:(t180 == x8_1)=false:=beq_eq_false_iff_ne.mpr c14
         have c14b1:(t180 != x8_1)=true:=bne_iff_ne.mpr c14
         (first | rw [c14b0] |(simp only [jLb,jOb];rw [c14b0]) | skip)
         have H':=am H
         clear H
         have hnb45:=NB178_175.out
         have hnc45:=NB175_178.out
         have hcz46_0:=bc0 BK178.out
         have hcz46_1:=bc1 BK178.out
         have hfz46_0:=ja BK178.out 0
         have hfz46_1:=ja BK178.out 1
         go_wp2_with (first |((with_reducible refine jw (f:=107) rfl ?_);refine gL (some 15) Try.func107 #[.string ((jF l0_0 x8_1).f0)] ?_;(with_reducible refine (jva.calls k1 ((jF l0_0 x8_1).f0) true _ A11.out).mono ?_);rintro e w' ⟨rfl,⟨nd,rfl⟩⟩;refine ⟨_,rfl,?_⟩;have hcz47_0:=bc0 BK175.out;have hfz47_0:=ja BK175.out 0) |(go_at_call 108;(with_reducible refine (jAa.calls _ _ l0_0 ((jF l0_0 x8_1).f0) t180 _ ?side1 ?side2 A13.out).mono ?_);(case side1=>exact Kd.jI HR0_0.out (Y8));(case side2=>exact HC0_0.out);rintro e w48 ⟨rfl,hb⟩;replace BK175:=am (jb (g:=gb175) (o:=.cells #[.slice (some ad177) l0_0.length c0_0] 37 (0,0)) (Y25) hb);replace BK178:=am (jb (g:=gb178) (o:=.cells #[.string ((jF l0_0 x8_1).f0), .int .i64 ((jF l0_0 x8_1).f1)] 94 (0,0)) (Y26) hb);replace HB:=am (jd (Y8) hb);(try clear hb);(try clear hb2);(try clear hk);(try clear hi)))
         go_meet
         case rel=>exact ⟨_,(true),(sq),H',⟨by have:=HK1.out;first | omega | exact Nat.le_refl _⟩,⟨kq BK175.out⟩,⟨kq BK178.out⟩,⟨Y8⟩⟩
       ·replace c12:=Bool.eq_false_iff.mpr c12
        subst c12
        have H1:(jo.j1 k1 l0_0 (l0_0.length:Int) x8_1 true l0_0)=some r:=by rw [if_neg (show ¬ (false=true) by decide)] at H;exact H
        clear H
        have H:=H1
        clear H1
        have H':=am H
        clear H
        have hnb49:=NB178_175.out
        have hnc49:=NB175_178.out
        have hcz50_0:=bc0 BK178.out
        have hcz50_1:=bc1 BK178.out
        have hfz50_0:=ja BK178.out 0
        have hfz50_1:=ja BK178.out 1
        go_wp2_with (first |((with_reducible refine jw (f:=107) rfl ?_);refine gL (some 15) Try.func107 #[.string ((jF l0_0 x8_1).f0)] ?_;(with_reducible refine (jva.calls k1 ((jF l0_0 x8_1).f0) false _ A11.out).mono ?_);rintro e w' ⟨rfl,⟨nd,rfl⟩⟩;refine ⟨_,rfl,?_⟩))
        go_meet
        case rel=>exact ⟨_,(true),(sq),H',⟨by have:=HK1.out;first | omega | exact Nat.le_refl _⟩,⟨by (with_reducible repeat (first | refine jr ?_ _ | refine jC ?_ | refine jB ?_ _));refine jIa ?_ NB175_178.out _;(with_reducible repeat (first | refine jr ?_ _ | refine jC ?_ | refine jB ?_ _));refine jIa ?_ NB175_178.out _;(with_reducible repeat (first | refine jr ?_ _ | refine jC ?_ | refine jB ?_ _));exact BK175.out⟩,⟨by (with_reducible repeat (first | refine jr ?_ _ | refine jC ?_ | refine jB ?_ _));refine jTa (cs:=#[.string ((jF l0_0 x8_1).f0), .int .i64 0]) ?_ 1 _ rfl;(with_reducible repeat (first | refine jr ?_ _ | refine jC ?_ | refine jB ?_ _));refine jTa (cs:=#[.string (⟨#[]⟩:ByteArray), .int .i64 0]) ?_ 0 _ rfl;(with_reducible repeat (first | refine jr ?_ _ | refine jC ?_ | refine jB ?_ _));exact BK178.out⟩,⟨Y8⟩⟩
      case rest =>
       clear HC7
       try clear c1
       try clear p1
       try clear q1
       try clear hx1
       try clear c2
       try clear p2
       try clear c3
       try clear c4
       try clear c4b0
       try clear c5
       try clear c5b0
       try clear c6
       try clear c6b0
       try clear p6
       try clear c9
       try clear c10
       try clear c12
       try clear c14
       try clear c14b0
       try clear c14b1
       try clear c15
       try clear c15b0
       try clear c15b1
       try clear c16
       try clear c16b0
       try clear c16b1
       try clear c17
       try clear c17b0
       try clear p17
       try clear q17
       try clear hx17
       try clear c19
       try clear c24
       try clear c29
       try clear c34
       try clear c34b0
       try clear c36
       try clear c41
       try clear c45
       try clear c49
       try clear hcz10_0
       try clear hcz10_1
       try clear hcz20_0
       try clear hcz20_1
       try clear hcz21_0
       try clear hcz23_0
       try clear hcz23_1
       try clear hcz25_0
       try clear hcz25_1
       try clear hcz26_0
       try clear hcz28_0
       try clear hcz28_1
       try clear hcz30_0
       try clear hcz30_1
       try clear hcz31_0
       try clear hcz33_0
       try clear hcz33_1
       try clear hcz37_0
       try clear hcz37_1
       try clear hcz38_0
       try clear hcz3_0
       try clear hcz40_0
       try clear hcz40_1
       try clear hcz42_0
       try clear hcz42_1
       try clear hcz43_0
       try clear hcz46_0
       try clear hcz46_1
       try clear hcz47_0
       try clear hcz50_0
       try clear hcz50_1
       try clear hfz10_0
       try clear hfz10_1
       try clear hfz20_0
       try clear hfz20_1
       try clear hfz21_0
       try clear hfz23_0
       try clear hfz23_1
       try clear hfz25_0
       try clear hfz25_1
       try clear hfz26_0
       try clear hfz28_0
       try clear hfz28_1
       try clear hfz30_0
       try clear hfz30_1
       try clear hfz31_0
       try clear hfz33_0
       try clear hfz33_1
       try clear hfz37_0
       try clear hfz37_1
       try clear hfz38_0
       try clear hfz3_0
       try clear hfz40_0
       try clear hfz40_1
       try clear hfz42_0
       try clear hfz42_1
       try clear hfz43_0
       try clear hfz46_0
       try clear hfz46_1
       try clear hfz47_0
       try clear hfz50_0
       try clear hfz50_1
       try clear hx177_0
       try clear hx177_1
       try clear p177
       try clear p2
       try clear q177
       obtain ⟨kq,x45_6,rfl,HA,HJ6,BK175,BK178,HB⟩:=hcut
       cases kq with
       | zero=>exact absurd HA.out (by simp [jo.j1])
       | succ kj6 =>
        have H:=HA.out
        clear HA
        simp only [jo.j1] at H
        by_cases c51:x45_6=true
        ·subst c51
         have H1:(some false)=some r:=by rw [if_pos rfl] at H;exact H
         clear H
         have H:=H1
         clear H1
         obtain rfl:=Option.some.inj H
         go_wp2
         go_ret
         exact ⟨Y1,Y8⟩
        ·replace c51:=Bool.eq_false_iff.mpr c51
         subst c51
         have H1:(jo.l0 kj6 l0_0 (l0_0.length:Int) (wrap64 (x8_1+1)) l0_0)=some r:=by rw [if_neg (show ¬ (false=true) by decide)] at H;exact H
         clear H
         have H:=H1
         clear H1
         have H':=am H
         clear H
         go_wp2
         go_roundg kj6
         case measure=>have:=HK1.out;have:=HJ6.out;omega
         case rel=>exact ⟨(wrap64 (x8_1+1)),(sq),H',⟨by have:=HK1.out;have:=HJ6.out;omega⟩,⟨kq BK175.out⟩,⟨Y8⟩⟩
     ·rw [if_neg c6] at H
      exact absurd H (by simp)
    ·rw [if_neg c5] at H
     exact absurd H (by simp)
   ·rw [if_neg c4] at H
    have c4b0:decide (x8_1<(l0_0.length:Int))=false:=dzF c4
    clear c4
    replace H:=bzS H
    obtain ⟨t176,A520,H⟩:=H
    replace H:(some t176)=some r:=H
    have A52:=am A520
    clear A520
    obtain rfl:=Option.some.inj H
    have hcz53_0:=bc0 BK175.out
    have hfz53_0:=ja BK175.out 0
    go_wp2_with (first |((with_reducible refine jw (f:=102) rfl ?_);refine gL (some 50) Try.func102 #[.int .i64 (l0_0.length:Int), .int .i64 1, .int .i64 8] ?_;(with_reducible refine (jha.calls (l0_0.length:Int) 1 8 t176 _ A52.out).mono ?_);rintro e w' ⟨rfl,⟨nd,rfl⟩⟩;refine ⟨_,rfl,?_⟩))
    go_ret
    exact ⟨Y1,Y56⟩
end Go.Proofs.Ytecdfgejmbpclaa.P
end
