/- One part of the proofs on this program: functions of the program as plain functions, that the code comes to them, and facts on them. -/
import Derived.Test.YtlhfcmbkjddgiaaYAll1
import Derived.Test.YtlhfcmbkjddgiaaYAll6
import Derived.Test.YtlhfcmbkjddgiaaYWAuto
section
namespace Go.Proofs.Ytlhfcmbkjddgiaa.P
open Go.RowKit Go.Proofs.YtlhfcmbkjddgiaaW.PrintWords Go.Proofs.YtlhfcmbkjddgiaaW.PrintLast Go.Proofs.YtlhfcmbkjddgiaaW.PrintMore
attribute [local go_sem] jda jba jla jka jO jN jca jaa jk
set_option linter.unusedVariables false
set_option linter.unusedSimpArgs false
def jXa.f (k : Nat) (l0_0 : List (S106)) (l1 : List (S44)) (a2_0 : Int) (a2_1 : Int) (a2_2 : Int) : Option ((List (S44)) × Bool) := (jOa.f l1).bind fun t764 => ((some (([(⟨a2_0, a2_1, a2_2⟩ : S44)] : List (S44)) : List (S44))).bind fun y767 => (if t764.length + y767.length < 5864062014805 then ((some (t764 ++ y767 : List (S44))).bind fun y770 => ((jW.f k l0_0 l1).bind fun t773 => (if t773 = true then ((jW.f k l0_0 y770).bind fun t774 => (if t774 = true then (some (y770, true)) else (some (([] : List (S44)), false)))) else (some (([] : List (S44)), false))))) else (none)))
set_option maxHeartbeats 8000000 in
set_option maxRecDepth 100000 in
theorem jXa.calls (k : Nat) (A0_0 : Option Addr) (c0_0 : Nat) (l0_0 : List (S106)) (A1 : Option Addr) (c1 : Nat) (l1 : List (S44)) (a2_0 : Int) (a2_1 : Int) (a2_2 : Int) (r1 : List (S44)) (r2 : Bool) (w : World) (hr0_0 : Kd.C k106 w A0_0 l0_0.length l0_0) (hc0_0 : l0_0.length ≤ c0_0) (hr1 : Kd.C k44 w A1 l1.length l1) (hc1 : l1.length ≤ c1) (h : jXa.f k l0_0 l1 a2_0 a2_1 a2_2 = some (r1, r2)) :
  Calls Try.prog 30 #[.agg #[.slice A0_0 l0_0.length c0_0], .slice A1 l1.length c1, .agg #[.int .i64 a2_0, .int .i64 a2_1, .int .i64 a2_2]] w fun e w'=>∃ v0_:Value,e=.returned (.tuple #[v0_, .bool r2])∧Kd.R k44 44 w' w.heap.size (fun _=>True) v0_ r1∧Below w.heap.size w w':=by
 have hu31:=Try.underlying31
 have hu44:=Try.underlying44
 have HR0_0:=am hr0_0
 have HC0_0:=am hc0_0
 clear hr0_0 hc0_0
 have HR1:=am hr1
 have HC1:=am hc1
 clear hr1 hc1
 have HB:=am (Below.refl w.heap.size w)
 have H:((jOa.f l1).bind fun t764=>((some (([(⟨a2_0,a2_1,a2_2⟩:S44)]:List (S44)):List (S44))).bind fun y767=>(if t764.length+y767.length<5864062014805 then ((some (t764 ++ y767:List (S44))).bind fun y770=>((jW.f k l0_0 l1).bind fun t773=>(if t773=true then ((jW.f k l0_0 y770).bind fun t774=>(if t774=true then (some (y770,true)) else (some (([]:List (S44)),false)))) else (some (([]:List (S44)),false))))) else (none))))=some (r1,r2):=h
 clear h
 replace H:=bzS H
 obtain ⟨t764,A40,H⟩:=H
 replace H:((some (([(⟨a2_0,a2_1,a2_2⟩:S44)]:List (S44)):List (S44))).bind fun y767=>(if t764.length+y767.length<5864062014805 then ((some (t764 ++ y767:List (S44))).bind fun y770=>((jW.f k l0_0 l1).bind fun t773=>(if t773=true then ((jW.f k l0_0 y770).bind fun t774=>(if t774=true then (some (y770,true)) else (some (([]:List (S44)),false)))) else (some (([]:List (S44)),false))))) else (none)))=some (r1,r2):=H
 have A4:=am A40
 clear A40
 obtain ⟨y767,hy767⟩:∃ y_:List (S44),y_=(([(⟨a2_0,a2_1,a2_2⟩:S44)]:List (S44))):=⟨_,rfl⟩
 replace H:(if t764.length+y767.length<5864062014805 then ((some (t764 ++ y767:List (S44))).bind fun y770=>((jW.f k l0_0 l1).bind fun t773=>(if t773=true then ((jW.f k l0_0 y770).bind fun t774=>(if t774=true then (some (y770,true)) else (some (([]:List (S44)),false)))) else (some (([]:List (S44)),false))))) else (none))=some (r1,r2):=by first |(rw [hy767];with_reducible exact H) |(have H2_:=(Option.bind_some _ _).symm.trans H;rw [hy767];with_reducible exact H2_) |(have H2_:=(Option.bind_some _ _).symm.trans H;with_reducible exact H2_) | with_reducible exact H |(rw [hy767];exact H) | exact H
 have Ny767:=am hy767
 clear hy767
 by_cases c5:t764.length+y767.length<5864062014805
 ·rw [if_pos c5] at H
  have LMc5:=am c5
  clear c5
  obtain ⟨y770,hy770⟩:∃ y_:List (S44),y_=(t764 ++ y767):=⟨_,rfl⟩
  replace H:((jW.f k l0_0 l1).bind fun t773=>(if t773=true then ((jW.f k l0_0 y770).bind fun t774=>(if t774=true then (some (y770,true)) else (some (([]:List (S44)),false)))) else (some (([]:List (S44)),false))))=some (r1,r2):=by first |(rw [hy770];with_reducible exact H) |(have H2_:=(Option.bind_some _ _).symm.trans H;rw [hy770];with_reducible exact H2_) |(have H2_:=(Option.bind_some _ _).symm.trans H;with_reducible exact H2_) | with_reducible exact H |(rw [hy770];exact H) | exact H
  have Ny770:=am hy770
  clear hy770
  replace H:=bzS H
  obtain ⟨t773,A60,H⟩:=H
  replace H:(if t773=true then ((jW.f k l0_0 y770).bind fun t774=>(if t774=true then (some (y770,true)) else (some (([]:List (S44)),false)))) else (some (([]:List (S44)),false)))=some (r1,r2):=H
  have A6:=am A60
  clear A60
  by_cases c7:t773=true
  ·subst c7
   have H1:((jW.f k l0_0 y770).bind fun t774=>(if t774=true then (some (y770,true)) else (some (([]:List (S44)),false))))=some (r1,r2):=by rw [if_pos rfl] at H;exact H
   clear H
   have H:=H1
   clear H1
   replace H:=bzS H
   obtain ⟨t774,A80,H⟩:=H
   replace H:(if t774=true then (some (y770,true)) else (some (([]:List (S44)),false)))=some (r1,r2):=H
   have A8:=am A80
   clear A80
   by_cases c9:t774=true
   ·subst c9
    have H1:(some (y770,true))=some (r1,r2):=by rw [if_pos rfl] at H;exact H
    clear H
    have H:=H1
    clear H1
    simp only [Option.some.injEq,Prod.mk.injEq] at H
    obtain ⟨rfl,rfl⟩:=H
    go_enter Try.func30,Try.ntmps30
    try go_wp2_with (first |((with_reducible refine jH (N:=3) rfl ?_);refine bE (N:=3) (cs:=#[.slice A0_0 l0_0.length c0_0]) (t:=31) ?_;intro gb762 hg w10 hbox hb;have BK762:=am (hbox);have GW762:=am ((Y2:w.heap.size≤gb762));have GE762:=am ((Y2:w.heap.size≤gb762));replace HB:=am (jg (bq) hb);clear hb hbox hg) |((with_reducible refine jH (N:=5) rfl ?_);refine bE (N:=5) (cs:=#[.int .i64 a2_0, .int .i64 a2_1, .int .i64 a2_2]) (t:=44) ?_;intro gb763 hg w11 hbox hb;have BK763:=am (hbox);have GW763:=am ((Y59:w.heap.size≤gb763));have GE763:=am ((Y59:w.heap.size≤gb763));have NB762_763:=am ((Y114:gb762≠gb763));have NB763_762:=am ((Y115:gb763≠gb762));replace BK762:=am (jb (g:=gb762) (o:=.cells #[.slice A0_0 l0_0.length c0_0] 31 (0,0)) (kq BK762.out) hb);replace HB:=am (jg (Y116) hb);clear hb hbox hg))
    replace BK762:=am (jf BK762.out)
    replace BK763:=am (jf BK763.out)
    replace HB:=am (jB HB.out)
    refine jjc (n:=6) (S:=fun w'=>w'.cell? ⟨gb763,0,none⟩=some (.int .i64 a2_0)∧w'.cell? ⟨gb763,1,none⟩=some (.int .i64 a2_1)∧w'.cell? ⟨gb763,2,none⟩=some (.int .i64 a2_2)) (ds:=[]) #[false,false,false,false,false,false] (by kernel_rfl) rfl rfl ⟨(jh BK763.out 0).trans rfl,(jh BK763.out 1).trans rfl,(jh BK763.out 2).trans rfl⟩ (fun hHeld=>?_)
    generalize w11.drew=w12 at BK762 BK763 HB hHeld ⊢
    refine jcc (i:=0) (N:=some 9) (v:=?_) (a':=?_) #[true,false,false,false,false,false] rfl rfl (by kernel_rfl) (fun _ _ _ h=>h) (Or.inl ⟨by rfl,?_⟩) ?_ ?_
    rotate_left
    ·exact sb
    rotate_left
    ·exact sa
    refine jYb (i:=2) (N:=some 11) (v:=?_) (a':=?_) #[true,false,true,false,false,false] rfl rfl (by kernel_rfl) (fun _ _ _ h=>h) (Or.inl ⟨by rfl,?_⟩) hHeld ?_ ?_
    rotate_left
    ·rintro w' ⟨s0,s1,s2⟩
     go_simp
     with_reducible rfl
    rotate_left
    ·exact sa
    refine join_ (σ:=Value × Value) 2 #[true,true,true,true,false,false] (fun s_=>[(10,s_.1),(12,s_.2)]) (fun s_ w'=>(w'.cell? ⟨gb763,0,none⟩=some (.int .i64 a2_0)∧w'.cell? ⟨gb763,1,none⟩=some (.int .i64 a2_1)∧w'.cell? ⟨gb763,2,none⟩=some (.int .i64 a2_2))∧(Kd.R k44 44 w' w.heap.size (fun k_=>some k_≠(s_.2:Value).ownBlock∧k_≠gb763) s_.1 t764)∧(Kd.R k44 44 w' w.heap.size (fun k_=>some k_≠(s_.1:Value).ownBlock∧k_≠gb763) s_.2 y767)∧(w'.heap[gb762]?=some (.cells #[.slice A0_0 l0_0.length c0_0] 31 (0,0)))∧(w'.heap[gb763]?=some (.cells #[.int .i64 a2_0, .int .i64 a2_1, .int .i64 a2_2] 44 (0,0)))∧(Below w.heap.size w w')) ?_ ?_
    rotate_left
    ·intro hCont
     refine two_ (i:=1) (j:=3) (Ni:=some 10) (Nj:=some 12) #[true,true,true,false,false,false] #[true,false,true,true,false,false] rfl rfl rfl rfl (by kernel_rfl) (by decide) (by decide) (fun K hK=>?_) (fun K hK=>?_)
     ·skip
      refine goes_ Try.func63 (by kernel_rfl) rfl #[.slice A1 l1.length c1] (by rfl) rfl rfl (aq) ?_
      with_reducible refine (jOa.calls _ _ l1 t764 _ ?side1 ?side2 A4.out).mono ?_
      (case side1=>exact cq (Kd.joa HR1.out HB.out))
      (case side2=>exact HC1.out)
      rintro e w13 ⟨v765,rfl,ho0,hb⟩
      refine ⟨_,rfl,?_⟩
      have HO766:=am (Kd.jV (Kd.jvb ho0 (g:=gb763) (o:=.cells #[.int .i64 a2_0, .int .i64 a2_1, .int .i64 a2_2] 44 (0,0)) (kq BK763.out)) (jD (Y3)))
      replace BK762:=am (jb (g:=gb762) (o:=.cells #[.slice A0_0 l0_0.length c0_0] 31 (0,0)) (kq BK762.out) hb)
      replace BK763:=am (jb (g:=gb763) (o:=.cells #[.int .i64 a2_0, .int .i64 a2_1, .int .i64 a2_2] 44 (0,0)) (kq BK763.out) hb)
      replace HB:=am (jg (Y3) hb)
      (try clear hb)
      (try clear hb2)
      (try clear hk)
      (try clear hi)
      (try clear ho0)
      refine hK.out _ _ ⟨(jh BK763.out 0).trans rfl,(jh BK763.out 1).trans rfl,(jh BK763.out 2).trans rfl⟩ (fun hHeld=>?_)
      clear hK K
      refine jgb (a':=?_) ?_ ?_
      rotate_left
      ·show Act.put _ (some 10) _=_
       simp only [Act.put,List.setIfInBounds_toArray,List.set_cons_zero,List.set_cons_succ,jbb,jdb]
       rfl
      refine one_ (i:=3) (N:=some 12) #[true,true,true,true,false,false] rfl rfl (by kernel_rfl) (by decide) (fun K hK=>?_)
      refine Kd.jqb k44 _ 44 ?hg (N:=12) ?hd (xs:=([(⟨a2_0,a2_1,a2_2⟩:S44)]:List (S44))) (inner:=[.int .i64 a2_0, .int .i64 a2_1, .int .i64 a2_2]) (ok:=fun _=>True) (okp:=fun _=>True) ?hr ?hp (fun _ hk=>hk) trivial (Below.refl _ _) (Nat.le_refl _) (by simp) ?_;(case hd=>rfl);(case hg=>rfl);(case hr=>exact Y7);(case hp=>exact (Reps.c3 (show Kd.M k44 _ _ _ (⟨a2_0,a2_1,a2_2⟩:S44) [.int .i64 a2_0, .int .i64 a2_1, .int .i64 a2_2] from (jRb _ _ _ (⟨a2_0,a2_1,a2_2⟩:S44) )) (Reps.none _ _)))
      intro v768 w14 ho15 hb hg_ hnew_
      clear hg_ hnew_
      (first | rw [← Ny767.out] at ho15 |(simp only [Int.reduceToNat] at ho15;rw [← Ny767.out] at ho15))
      have HO769:=am (Kd.jV (Kd.jvb (Kd.jlb ho15 (Kd.R_lt (rq HO766.out))) (g:=gb763) (o:=.cells #[.int .i64 a2_0, .int .i64 a2_1, .int .i64 a2_2] 44 (0,0)) (kq BK763.out)) (jD (Y3)))
      replace HO766:=am (Kd.jKa (rq HO766.out) (Kd.jib ho15) hb)
      replace BK762:=am (jb (g:=gb762) (o:=.cells #[.slice A0_0 l0_0.length c0_0] 31 (0,0)) (kq BK762.out) hb)
      replace BK763:=am (jb (g:=gb763) (o:=.cells #[.int .i64 a2_0, .int .i64 a2_1, .int .i64 a2_2] 44 (0,0)) (kq BK763.out) hb)
      replace HB:=am (jg (Y3) hb)
      clear hb ho15
      refine hK.out _ _ ⟨(jh BK763.out 0).trans rfl,(jh BK763.out 1).trans rfl,(jh BK763.out 2).trans rfl⟩ (fun hHeld=>?_)
      clear hK K
      refine jgb (a':=?_) ?_ ?_
      rotate_left
      ·show Act.put _ (some 12) _=_
       simp only [Act.put,List.setIfInBounds_toArray,List.set_cons_zero,List.set_cons_succ,jbb,jdb]
       rfl
      exact jgb (by simp only [jZb,Act.put,List.setIfInBounds_toArray,List.set_cons_zero,List.set_cons_succ]) (hCont (v765,v768) _ ⟨hHeld,(Y117),(Y118),(kq BK762.out),(kq BK763.out),(Y3)⟩)
     ·skip
      refine Kd.jqb k44 _ 44 ?hg (N:=12) ?hd (xs:=([(⟨a2_0,a2_1,a2_2⟩:S44)]:List (S44))) (inner:=[.int .i64 a2_0, .int .i64 a2_1, .int .i64 a2_2]) (ok:=fun _=>True) (okp:=fun _=>True) ?hr ?hp (fun _ hk=>hk) trivial (Below.refl _ _) (Nat.le_refl _) (by simp) ?_;(case hd=>rfl);(case hg=>rfl);(case hr=>exact Y7);(case hp=>exact (Reps.c3 (show Kd.M k44 _ _ _ (⟨a2_0,a2_1,a2_2⟩:S44) [.int .i64 a2_0, .int .i64 a2_1, .int .i64 a2_2] from (jRb _ _ _ (⟨a2_0,a2_1,a2_2⟩:S44) )) (Reps.none _ _)))
      intro v768 w13 ho14 hb hg_ hnew_
      clear hg_ hnew_
      (first | rw [← Ny767.out] at ho14 |(simp only [Int.reduceToNat] at ho14;rw [← Ny767.out] at ho14))
      have HO769:=am (Kd.jV (Kd.jvb ho14 (g:=gb763) (o:=.cells #[.int .i64 a2_0, .int .i64 a2_1, .int .i64 a2_2] 44 (0,0)) (kq BK763.out)) (jD (Y3)))
      replace BK762:=am (jb (g:=gb762) (o:=.cells #[.slice A0_0 l0_0.length c0_0] 31 (0,0)) (kq BK762.out) hb)
      replace BK763:=am (jb (g:=gb763) (o:=.cells #[.int .i64 a2_0, .int .i64 a2_1, .int .i64 a2_2] 44 (0,0)) (kq BK763.out) hb)
      replace HB:=am (jg (Y3) hb)
      clear hb ho14
      refine hK.out _ _ ⟨(jh BK763.out 0).trans rfl,(jh BK763.out 1).trans rfl,(jh BK763.out 2).trans rfl⟩ (fun hHeld=>?_)
      clear hK K
      refine jgb (a':=?_) ?_ ?_
      rotate_left
      ·show Act.put _ (some 12) _=_
       simp only [Act.put,List.setIfInBounds_toArray,List.set_cons_zero,List.set_cons_succ,jbb,jdb]
       rfl
      refine one_ (i:=1) (N:=some 10) #[true,true,true,true,false,false] rfl rfl (by kernel_rfl) (by decide) (fun K hK=>?_)
      refine goes_ Try.func63 (by kernel_rfl) rfl #[.slice A1 l1.length c1] (by rfl) rfl rfl (aq) ?_
      with_reducible refine (jOa.calls _ _ l1 t764 _ ?side1 ?side2 A4.out).mono ?_
      (case side1=>exact cq (Kd.joa HR1.out HB.out))
      (case side2=>exact HC1.out)
      rintro e w15 ⟨v765,rfl,ho0,hb⟩
      refine ⟨_,rfl,?_⟩
      have HO766:=am (Kd.jV (Kd.jvb (Kd.jlb ho0 (Kd.R_lt (rq HO769.out))) (g:=gb763) (o:=.cells #[.int .i64 a2_0, .int .i64 a2_1, .int .i64 a2_2] 44 (0,0)) (kq BK763.out)) (jD (Y3)))
      replace HO769:=am (Kd.jKa (rq HO769.out) (Kd.jib ho0) hb)
      replace BK762:=am (jb (g:=gb762) (o:=.cells #[.slice A0_0 l0_0.length c0_0] 31 (0,0)) (kq BK762.out) hb)
      replace BK763:=am (jb (g:=gb763) (o:=.cells #[.int .i64 a2_0, .int .i64 a2_1, .int .i64 a2_2] 44 (0,0)) (kq BK763.out) hb)
      replace HB:=am (jg (Y3) hb)
      (try clear hb)
      (try clear hb2)
      (try clear hk)
      (try clear hi)
      (try clear ho0)
      refine hK.out _ _ ⟨(jh BK763.out 0).trans rfl,(jh BK763.out 1).trans rfl,(jh BK763.out 2).trans rfl⟩ (fun hHeld=>?_)
      clear hK K
      refine jgb (a':=?_) ?_ ?_
      rotate_left
      ·show Act.put _ (some 10) _=_
       simp only [Act.put,List.setIfInBounds_toArray,List.set_cons_zero,List.set_cons_succ,jbb,jdb]
       rfl
      exact jgb (by simp only [jZb,Act.put,List.setIfInBounds_toArray,List.set_cons_zero,List.set_cons_succ]) (hCont (v765,v768) _ ⟨hHeld,(Y119),(Y120),(kq BK762.out),(kq BK763.out),(Y3)⟩)
    rintro ⟨v765,v768⟩ w16 ⟨hS_,h0_,h1_,h2_,h3_,h4_⟩
    have n0_:jC (Kd.R k44 44 w16 w.heap.size (fun k_=>some k_≠(v768:Value).ownBlock∧k_≠gb763) v765 t764):=⟨h0_⟩
    have n1_:jC (Kd.R k44 44 w16 w.heap.size (fun k_=>some k_≠(v765:Value).ownBlock∧k_≠gb763) v768 y767):=⟨h1_⟩
    have n2_:jC (w16.heap[gb762]?=some (.cells #[.slice A0_0 l0_0.length c0_0] 31 (0,0))):=⟨h2_⟩
    have n3_:jC (w16.heap[gb763]?=some (.cells #[.int .i64 a2_0, .int .i64 a2_1, .int .i64 a2_2] 44 (0,0))):=⟨h3_⟩
    have n4_:jC (Below w.heap.size w w16):=⟨h4_⟩
    clear BK762
    clear BK763
    clear HB
    clear h0_ h1_ h2_ h3_ h4_
    have HO766:=n0_
    have HO769:=n1_
    have BK762:=n2_
    have BK763:=n3_
    have HB:=n4_
    clear n0_ n1_ n2_ n3_ n4_
    have hHeld:w16.cell? ⟨gb763,0,none⟩=some (.int .i64 a2_0)∧w16.cell? ⟨gb763,1,none⟩=some (.int .i64 a2_1)∧w16.cell? ⟨gb763,2,none⟩=some (.int .i64 a2_2):=hS_
    obtain ⟨Ao18,co18,eo18⟩:=Kd.jL HO769.out
    (first | subst eo18 |(injection eo18 with f1_ f2_ f3_;have f4_:=f1_.symm;have f5_:=f3_.symm;clear f1_ f2_ f3_;subst f4_;subst f5_))
    refine jgb (a':=?_) ?_ ?_
    rotate_left
    ·simp only [jZb,Act.put,List.setIfInBounds_toArray,List.set_cons_zero,List.set_cons_succ]
     rfl
    refine one_ (i:=4) (N:=some 13) #[true,true,true,true,true,false] rfl rfl (by kernel_rfl) (by decide) (fun K hK=>?_)
    refine Kd.jwb k44 (w0:=w) w.heap.size (by rfl) (.tmp 10) (.tmp 12) 33 44 (.agg #[(.int .i64 0),(.int .i64 0),(.int .i64 0)]) 24 rfl Try.underlying33 info44 rfl (by decide) (by omega) v765 t764 y767 _ _ _ (fun k_=>some k_≠(.slice Ao18 y767.length co18:Value).ownBlock∧k_≠gb763) (fun _=>False) rfl rfl ?aO ?aR (fun _ _ h=>h) (fun _ h=>h.elim) ?aF ?aB ?aS ?aL ?_
    (case aR=>exact Y121)
    (case aB=>exact (Y3))
    (case aF=>exact (fun k_ hk=>⟨Kd.fresh' (Kd.R_lt (rq HO769.out)) k_ hk,Kd.freshB (g:=gb763) (o:=.cells #[.int .i64 a2_0, .int .i64 a2_1, .int .i64 a2_2] 44 (0,0)) (kq BK763.out) k_ hk⟩))
    (case aO=>exact (rq HO766.out))
    (case aS=>exact (jD (Y3)))
    (case aL=>have:=LMc5.out;omega)
    intro v771 w17 ho hb hg hat
    rw [← Ny770.out] at ho
    have n0_:=am (jma (g:=gb762) (o:=.cells #[.slice A0_0 l0_0.length c0_0] 31 (0,0)) (kq BK762.out) hg (Kd.R_ne HO766.out BK762.out (by decide)))
    have n1_:=am (jma (g:=gb763) (o:=.cells #[.int .i64 a2_0, .int .i64 a2_1, .int .i64 a2_2] 44 (0,0)) (kq BK763.out) hg (Kd.R_away HO766.out (fun _ hk=>hk.2)))
    have n2_:=am (Kd.R_after (ok:=(fun k_=>k_≠gb763)) (Y122) hg hat)
    have n3_:=am (hb)
    have n4_:=am (ho)
    clear BK762
    clear BK763
    clear HO769
    clear HB
    clear HO766
    have BK762:=n0_
    have BK763:=n1_
    have HO769:=n2_
    have HB:=n3_
    have HO772:=n4_
    clear n0_ n1_ n2_ n3_ n4_
    clear ho hb hg hat
    refine hK.out _ _ ⟨(jh BK763.out 0).trans rfl,(jh BK763.out 1).trans rfl,(jh BK763.out 2).trans rfl⟩ (fun hHeld=>?_)
    clear hK K
    refine jgb (a':=?_) ?_ ?_
    rotate_left
    ·show Act.put _ (some 13) _=_
     simp only [Act.put,List.setIfInBounds_toArray,List.set_cons_zero,List.set_cons_succ,jbb,jdb]
     rfl
    refine jcc (i:=5) (N:=some 8) (v:=?_) (a':=?_) #[true,true,true,true,true,true] rfl rfl (by kernel_rfl) (fun _ _ _ h=>h) (Or.inl ⟨by rfl,?_⟩) ?_ ?_
    rotate_left
    ·exact sb
    rotate_left
    ·exact sa
    refine done_ (by kernel_rfl) ?_
    have hnb19:=NB762_763.out
    have hnc19:=NB763_762.out
    have hcz20_0:=bc0 BK762.out
    have hfz20_0:=ja BK762.out 0
    try go_wp2_with (first |((with_reducible refine jy (f:=35) rfl ?_);refine gL (some 16) Try.func35 #[.agg #[.slice A0_0 l0_0.length c0_0], .slice A1 l1.length c1] ?_;(with_reducible refine (jW.calls k _ _ l0_0 _ _ l1 true _ ?side1 ?side2 ?side3 ?side4 A6.out).mono ?_);(case side1=>exact cq (Kd.joa HR0_0.out HB.out));(case side2=>exact HC0_0.out);(case side3=>exact cq (Kd.joa HR1.out HB.out));(case side4=>exact HC1.out);rintro e w21 ⟨rfl,hb⟩;refine ⟨_,rfl,?_⟩;replace HO769:=am (Kd.jo (rq HO769.out) hb);replace HO772:=am (Kd.jo (rq HO772.out) hb);replace BK762:=am (jb (g:=gb762) (o:=.cells #[.slice A0_0 l0_0.length c0_0] 31 (0,0)) (kq BK762.out) hb);replace BK763:=am (jb (g:=gb763) (o:=.cells #[.int .i64 a2_0, .int .i64 a2_1, .int .i64 a2_2] 44 (0,0)) (kq BK763.out) hb);replace HB:=am (jg (Y3) hb);(try clear hb);(try clear hb2);(try clear hk);(try clear hi);have hcz22_0:=bc0 BK762.out;have hfz22_0:=ja BK762.out 0;obtain ⟨Ao23,co23,eo23⟩:=Kd.jL HO772.out;subst eo23) |(go_at_call 35;(with_reducible refine (jW.calls k _ _ l0_0 _ _ y770 true _ ?side1 ?side2 ?side3 ?side4 A8.out).mono ?_);(case side1=>exact cq (Kd.joa HR0_0.out HB.out));(case side2=>exact HC0_0.out);(case side3=>exact cq (Kd.jl HO772.out).2.2);(case side4=>exact (Kd.jl HO772.out).2.1);rintro e w24 ⟨rfl,hb⟩;replace HO769:=am (Kd.jo (rq HO769.out) hb);replace HO772:=am (Kd.jo (rq HO772.out) hb);replace BK762:=am (jb (g:=gb762) (o:=.cells #[.slice A0_0 l0_0.length c0_0] 31 (0,0)) (kq BK762.out) hb);replace BK763:=am (jb (g:=gb763) (o:=.cells #[.int .i64 a2_0, .int .i64 a2_1, .int .i64 a2_2] 44 (0,0)) (kq BK763.out) hb);replace HB:=am (jg (Y3) hb);(try clear hb);(try clear hb2);(try clear hk);(try clear hi)))
    go_ret2
    exact ⟨_,Y1,by (with_reducible repeat (first | apply Kd.jR | apply Kd.jT | apply Kd.jfa));exact Kd.jF HO772.out (fun _ hk=>trivial),Y3⟩
   ·replace c9:=Bool.eq_false_iff.mpr c9
    subst c9
    have H1:(some (([]:List (S44)),false))=some (r1,r2):=by rw [if_neg (show ¬ (false=true) by decide)] at H;exact H
    clear H
    have H:=H1
    clear H1
    simp only [Option.some.injEq,Prod.mk.injEq] at H
    obtain ⟨rfl,rfl⟩:=H
    go_enter Try.func30,Try.ntmps30
    try go_wp2_with (first |((with_reducible refine jH (N:=3) rfl ?_);refine bE (N:=3) (cs:=#[.slice A0_0 l0_0.length c0_0]) (t:=31) ?_;intro gb762 hg w25 hbox hb;have BK762:=am (hbox);have GW762:=am ((Y2:w.heap.size≤gb762));have GE762:=am ((Y2:w.heap.size≤gb762));replace HB:=am (jg (bq) hb);clear hb hbox hg) |((with_reducible refine jH (N:=5) rfl ?_);refine bE (N:=5) (cs:=#[.int .i64 a2_0, .int .i64 a2_1, .int .i64 a2_2]) (t:=44) ?_;intro gb763 hg w26 hbox hb;have BK763:=am (hbox);have GW763:=am ((Y59:w.heap.size≤gb763));have GE763:=am ((Y59:w.heap.size≤gb763));have NB762_763:=am ((Y114:gb762≠gb763));have NB763_762:=am ((Y115:gb763≠gb762));replace BK762:=am (jb (g:=gb762) (o:=.cells #[.slice A0_0 l0_0.length c0_0] 31 (0,0)) (kq BK762.out) hb);replace HB:=am (jg (Y116) hb);clear hb hbox hg))
    replace BK762:=am (jf BK762.out)
    replace BK763:=am (jf BK763.out)
    replace HB:=am (jB HB.out)
    refine jjc (n:=6) (S:=fun w'=>w'.cell? ⟨gb763,0,none⟩=some (.int .i64 a2_0)∧w'.cell? ⟨gb763,1,none⟩=some (.int .i64 a2_1)∧w'.cell? ⟨gb763,2,none⟩=some (.int .i64 a2_2)) (ds:=[]) #[false,false,false,false,false,false] (by kernel_rfl) rfl rfl ⟨(jh BK763.out 0).trans rfl,(jh BK763.out 1).trans rfl,(jh BK763.out 2).trans rfl⟩ (fun hHeld=>?_)
    generalize w26.drew=w27 at BK762 BK763 HB hHeld ⊢
    refine jcc (i:=0) (N:=some 9) (v:=?_) (a':=?_) #[true,false,false,false,false,false] rfl rfl (by kernel_rfl) (fun _ _ _ h=>h) (Or.inl ⟨by rfl,?_⟩) ?_ ?_
    rotate_left
    ·exact sb
    rotate_left
    ·exact sa
    refine jYb (i:=2) (N:=some 11) (v:=?_) (a':=?_) #[true,false,true,false,false,false] rfl rfl (by kernel_rfl) (fun _ _ _ h=>h) (Or.inl ⟨by rfl,?_⟩) hHeld ?_ ?_
    rotate_left
    ·rintro w' ⟨s0,s1,s2⟩
     go_simp
     with_reducible rfl
    rotate_left
    ·exact sa
    refine join_ (σ:=Value × Value) 2 #[true,true,true,true,false,false] (fun s_=>[(10,s_.1),(12,s_.2)]) (fun s_ w'=>(w'.cell? ⟨gb763,0,none⟩=some (.int .i64 a2_0)∧w'.cell? ⟨gb763,1,none⟩=some (.int .i64 a2_1)∧w'.cell? ⟨gb763,2,none⟩=some (.int .i64 a2_2))∧(Kd.R k44 44 w' w.heap.size (fun k_=>some k_≠(s_.2:Value).ownBlock∧k_≠gb763) s_.1 t764)∧(Kd.R k44 44 w' w.heap.size (fun k_=>some k_≠(s_.1:Value).ownBlock∧k_≠gb763) s_.2 y767)∧(w'.heap[gb762]?=some (.cells #[.slice A0_0 l0_0.length c0_0] 31 (0,0)))∧(w'.heap[gb763]?=some (.cells #[.int .i64 a2_0, .int .i64 a2_1, .int .i64 a2_2] 44 (0,0)))∧(Below w.heap.size w w')) ?_ ?_
    rotate_left
    ·intro hCont
     refine two_ (i:=1) (j:=3) (Ni:=some 10) (Nj:=some 12) #[true,true,true,false,false,false] #[true,false,true,true,false,false] rfl rfl rfl rfl (by kernel_rfl) (by decide) (by decide) (fun K hK=>?_) (fun K hK=>?_)
     ·skip
      refine goes_ Try.func63 (by kernel_rfl) rfl #[.slice A1 l1.length c1] (by rfl) rfl rfl (aq) ?_
      with_reducible refine (jOa.calls _ _ l1 t764 _ ?side1 ?side2 A4.out).mono ?_
      (case side1=>exact cq (Kd.joa HR1.out HB.out))
      (case side2=>exact HC1.out)
      rintro e w28 ⟨v765,rfl,ho0,hb⟩
      refine ⟨_,rfl,?_⟩
      have HO766:=am (Kd.jV (Kd.jvb ho0 (g:=gb763) (o:=.cells #[.int .i64 a2_0, .int .i64 a2_1, .int .i64 a2_2] 44 (0,0)) (kq BK763.out)) (jD (Y3)))
      replace BK762:=am (jb (g:=gb762) (o:=.cells #[.slice A0_0 l0_0.length c0_0] 31 (0,0)) (kq BK762.out) hb)
      replace BK763:=am (jb (g:=gb763) (o:=.cells #[.int .i64 a2_0, .int .i64 a2_1, .int .i64 a2_2] 44 (0,0)) (kq BK763.out) hb)
      replace HB:=am (jg (Y3) hb)
      (try clear hb)
      (try clear hb2)
      (try clear hk)
      (try clear hi)
      (try clear ho0)
      refine hK.out _ _ ⟨(jh BK763.out 0).trans rfl,(jh BK763.out 1).trans rfl,(jh BK763.out 2).trans rfl⟩ (fun hHeld=>?_)
      clear hK K
      refine jgb (a':=?_) ?_ ?_
      rotate_left
      ·show Act.put _ (some 10) _=_
       simp only [Act.put,List.setIfInBounds_toArray,List.set_cons_zero,List.set_cons_succ,jbb,jdb]
       rfl
      refine one_ (i:=3) (N:=some 12) #[true,true,true,true,false,false] rfl rfl (by kernel_rfl) (by decide) (fun K hK=>?_)
      refine Kd.jqb k44 _ 44 ?hg (N:=12) ?hd (xs:=([(⟨a2_0,a2_1,a2_2⟩:S44)]:List (S44))) (inner:=[.int .i64 a2_0, .int .i64 a2_1, .int .i64 a2_2]) (ok:=fun _=>True) (okp:=fun _=>True) ?hr ?hp (fun _ hk=>hk) trivial (Below.refl _ _) (Nat.le_refl _) (by simp) ?_;(case hd=>rfl);(case hg=>rfl);(case hr=>exact Y7);(case hp=>exact (Reps.c3 (show Kd.M k44 _ _ _ (⟨a2_0,a2_1,a2_2⟩:S44) [.int .i64 a2_0, .int .i64 a2_1, .int .i64 a2_2] from (jRb _ _ _ (⟨a2_0,a2_1,a2_2⟩:S44) )) (Reps.none _ _)))
      intro v768 w29 ho30 hb hg_ hnew_
      clear hg_ hnew_
      (first | rw [← Ny767.out] at ho30 |(simp only [Int.reduceToNat] at ho30;rw [← Ny767.out] at ho30))
      have HO769:=am (Kd.jV (Kd.jvb (Kd.jlb ho30 (Kd.R_lt (rq HO766.out))) (g:=gb763) (o:=.cells #[.int .i64 a2_0, .int .i64 a2_1, .int .i64 a2_2] 44 (0,0)) (kq BK763.out)) (jD (Y3)))
      replace HO766:=am (Kd.jKa (rq HO766.out) (Kd.jib ho30) hb)
      replace BK762:=am (jb (g:=gb762) (o:=.cells #[.slice A0_0 l0_0.length c0_0] 31 (0,0)) (kq BK762.out) hb)
      replace BK763:=am (jb (g:=gb763) (o:=.cells #[.int .i64 a2_0, .int .i64 a2_1, .int .i64 a2_2] 44 (0,0)) (kq BK763.out) hb)
      replace HB:=am (jg (Y3) hb)
      clear hb ho30
      refine hK.out _ _ ⟨(jh BK763.out 0).trans rfl,(jh BK763.out 1).trans rfl,(jh BK763.out 2).trans rfl⟩ (fun hHeld=>?_)
      clear hK K
      refine jgb (a':=?_) ?_ ?_
      rotate_left
      ·show Act.put _ (some 12) _=_
       simp only [Act.put,List.setIfInBounds_toArray,List.set_cons_zero,List.set_cons_succ,jbb,jdb]
       rfl
      exact jgb (by simp only [jZb,Act.put,List.setIfInBounds_toArray,List.set_cons_zero,List.set_cons_succ]) (hCont (v765,v768) _ ⟨hHeld,(Y117),(Y118),(kq BK762.out),(kq BK763.out),(Y3)⟩)
     ·skip
      refine Kd.jqb k44 _ 44 ?hg (N:=12) ?hd (xs:=([(⟨a2_0,a2_1,a2_2⟩:S44)]:List (S44))) (inner:=[.int .i64 a2_0, .int .i64 a2_1, .int .i64 a2_2]) (ok:=fun _=>True) (okp:=fun _=>True) ?hr ?hp (fun _ hk=>hk) trivial (Below.refl _ _) (Nat.le_refl _) (by simp) ?_;(case hd=>rfl);(case hg=>rfl);(case hr=>exact Y7);(case hp=>exact (Reps.c3 (show Kd.M k44 _ _ _ (⟨a2_0,a2_1,a2_2⟩:S44) [.int .i64 a2_0, .int .i64 a2_1, .int .i64 a2_2] from (jRb _ _ _ (⟨a2_0,a2_1,a2_2⟩:S44) )) (Reps.none _ _)))
      intro v768 w28 ho29 hb hg_ hnew_
      clear hg_ hnew_
      (first | rw [← Ny767.out] at ho29 |(simp only [Int.reduceToNat] at ho29;rw [← Ny767.out] at ho29))
      have HO769:=am (Kd.jV (Kd.jvb ho29 (g:=gb763) (o:=.cells #[.int .i64 a2_0, .int .i64 a2_1, .int .i64 a2_2] 44 (0,0)) (kq BK763.out)) (jD (Y3)))
      replace BK762:=am (jb (g:=gb762) (o:=.cells #[.slice A0_0 l0_0.length c0_0] 31 (0,0)) (kq BK762.out) hb)
      replace BK763:=am (jb (g:=gb763) (o:=.cells #[.int .i64 a2_0, .int .i64 a2_1, .int .i64 a2_2] 44 (0,0)) (kq BK763.out) hb)
      replace HB:=am (jg (Y3) hb)
      clear hb ho29
      refine hK.out _ _ ⟨(jh BK763.out 0).trans rfl,(jh BK763.out 1).trans rfl,(jh BK763.out 2).trans rfl⟩ (fun hHeld=>?_)
      clear hK K
      refine jgb (a':=?_) ?_ ?_
      rotate_left
      ·show Act.put _ (some 12) _=_
       simp only [Act.put,List.setIfInBounds_toArray,List.set_cons_zero,List.set_cons_succ,jbb,jdb]
       rfl
      refine one_ (i:=1) (N:=some 10) #[true,true,true,true,false,false] rfl rfl (by kernel_rfl) (by decide) (fun K hK=>?_)
      refine goes_ Try.func63 (by kernel_rfl) rfl #[.slice A1 l1.length c1] (by rfl) rfl rfl (aq) ?_
      with_reducible refine (jOa.calls _ _ l1 t764 _ ?side1 ?side2 A4.out).mono ?_
      (case side1=>exact cq (Kd.joa HR1.out HB.out))
      (case side2=>exact HC1.out)
      rintro e w30 ⟨v765,rfl,ho0,hb⟩
      refine ⟨_,rfl,?_⟩
      have HO766:=am (Kd.jV (Kd.jvb (Kd.jlb ho0 (Kd.R_lt (rq HO769.out))) (g:=gb763) (o:=.cells #[.int .i64 a2_0, .int .i64 a2_1, .int .i64 a2_2] 44 (0,0)) (kq BK763.out)) (jD (Y3)))
      replace HO769:=am (Kd.jKa (rq HO769.out) (Kd.jib ho0) hb)
      replace BK762:=am (jb (g:=gb762) (o:=.cells #[.slice A0_0 l0_0.length c0_0] 31 (0,0)) (kq BK762.out) hb)
      replace BK763:=am (jb (g:=gb763) (o:=.cells #[.int .i64 a2_0, .int .i64 a2_1, .int .i64 a2_2] 44 (0,0)) (kq BK763.out) hb)
      replace HB:=am (jg (Y3) hb)
      (try clear hb)
      (try clear hb2)
      (try clear hk)
      (try clear hi)
      (try clear ho0)
      refine hK.out _ _ ⟨(jh BK763.out 0).trans rfl,(jh BK763.out 1).trans rfl,(jh BK763.out 2).trans rfl⟩ (fun hHeld=>?_)
      clear hK K
      refine jgb (a':=?_) ?_ ?_
      rotate_left
      ·show Act.put _ (some 10) _=_
       simp only [Act.put,List.setIfInBounds_toArray,List.set_cons_zero,List.set_cons_succ,jbb,jdb]
       rfl
      exact jgb (by simp only [jZb,Act.put,List.setIfInBounds_toArray,List.set_cons_zero,List.set_cons_succ]) (hCont (v765,v768) _ ⟨hHeld,(Y119),(Y120),(kq BK762.out),(kq BK763.out),(Y3)⟩)
    rintro ⟨v765,v768⟩ w31 ⟨hS_,h0_,h1_,h2_,h3_,h4_⟩
    have n0_:jC (Kd.R k44 44 w31 w.heap.size (fun k_=>some k_≠(v768:Value).ownBlock∧k_≠gb763) v765 t764):=⟨h0_⟩
    have n1_:jC (Kd.R k44 44 w31 w.heap.size (fun k_=>some k_≠(v765:Value).ownBlock∧k_≠gb763) v768 y767):=⟨h1_⟩
    have n2_:jC (w31.heap[gb762]?=some (.cells #[.slice A0_0 l0_0.length c0_0] 31 (0,0))):=⟨h2_⟩
    have n3_:jC (w31.heap[gb763]?=some (.cells #[.int .i64 a2_0, .int .i64 a2_1, .int .i64 a2_2] 44 (0,0))):=⟨h3_⟩
    have n4_:jC (Below w.heap.size w w31):=⟨h4_⟩
    clear BK762
    clear BK763
    clear HB
    clear h0_ h1_ h2_ h3_ h4_
    have HO766:=n0_
    have HO769:=n1_
    have BK762:=n2_
    have BK763:=n3_
    have HB:=n4_
    clear n0_ n1_ n2_ n3_ n4_
    have hHeld:w31.cell? ⟨gb763,0,none⟩=some (.int .i64 a2_0)∧w31.cell? ⟨gb763,1,none⟩=some (.int .i64 a2_1)∧w31.cell? ⟨gb763,2,none⟩=some (.int .i64 a2_2):=hS_
    obtain ⟨Ao33,co33,eo33⟩:=Kd.jL HO769.out
    (first | subst eo33 |(injection eo33 with f1_ f2_ f3_;have f4_:=f1_.symm;have f5_:=f3_.symm;clear f1_ f2_ f3_;subst f4_;subst f5_))
    refine jgb (a':=?_) ?_ ?_
    rotate_left
    ·simp only [jZb,Act.put,List.setIfInBounds_toArray,List.set_cons_zero,List.set_cons_succ]
     rfl
    refine one_ (i:=4) (N:=some 13) #[true,true,true,true,true,false] rfl rfl (by kernel_rfl) (by decide) (fun K hK=>?_)
    refine Kd.jwb k44 (w0:=w) w.heap.size (by rfl) (.tmp 10) (.tmp 12) 33 44 (.agg #[(.int .i64 0),(.int .i64 0),(.int .i64 0)]) 24 rfl Try.underlying33 info44 rfl (by decide) (by omega) v765 t764 y767 _ _ _ (fun k_=>some k_≠(.slice Ao33 y767.length co33:Value).ownBlock∧k_≠gb763) (fun _=>False) rfl rfl ?aO ?aR (fun _ _ h=>h) (fun _ h=>h.elim) ?aF ?aB ?aS ?aL ?_
    (case aR=>exact Y121)
    (case aB=>exact (Y3))
    (case aF=>exact (fun k_ hk=>⟨Kd.fresh' (Kd.R_lt (rq HO769.out)) k_ hk,Kd.freshB (g:=gb763) (o:=.cells #[.int .i64 a2_0, .int .i64 a2_1, .int .i64 a2_2] 44 (0,0)) (kq BK763.out) k_ hk⟩))
    (case aO=>exact (rq HO766.out))
    (case aS=>exact (jD (Y3)))
    (case aL=>have:=LMc5.out;omega)
    intro v771 w32 ho hb hg hat
    rw [← Ny770.out] at ho
    have n0_:=am (jma (g:=gb762) (o:=.cells #[.slice A0_0 l0_0.length c0_0] 31 (0,0)) (kq BK762.out) hg (Kd.R_ne HO766.out BK762.out (by decide)))
    have n1_:=am (jma (g:=gb763) (o:=.cells #[.int .i64 a2_0, .int .i64 a2_1, .int .i64 a2_2] 44 (0,0)) (kq BK763.out) hg (Kd.R_away HO766.out (fun _ hk=>hk.2)))
    have n2_:=am (Kd.R_after (ok:=(fun k_=>k_≠gb763)) (Y122) hg hat)
    have n3_:=am (hb)
    have n4_:=am (ho)
    clear BK762
    clear BK763
    clear HO769
    clear HB
    clear HO766
    have BK762:=n0_
    have BK763:=n1_
    have HO769:=n2_
    have HB:=n3_
    have HO772:=n4_
    clear n0_ n1_ n2_ n3_ n4_
    clear ho hb hg hat
    refine hK.out _ _ ⟨(jh BK763.out 0).trans rfl,(jh BK763.out 1).trans rfl,(jh BK763.out 2).trans rfl⟩ (fun hHeld=>?_)
    clear hK K
    refine jgb (a':=?_) ?_ ?_
    rotate_left
    ·show Act.put _ (some 13) _=_
     simp only [Act.put,List.setIfInBounds_toArray,List.set_cons_zero,List.set_cons_succ,jbb,jdb]
     rfl
    refine jcc (i:=5) (N:=some 8) (v:=?_) (a':=?_) #[true,true,true,true,true,true] rfl rfl (by kernel_rfl) (fun _ _ _ h=>h) (Or.inl ⟨by rfl,?_⟩) ?_ ?_
    rotate_left
    ·exact sb
    rotate_left
    ·exact sa
    refine done_ (by kernel_rfl) ?_
    have hnb34:=NB762_763.out
    have hnc34:=NB763_762.out
    have hcz35_0:=bc0 BK762.out
    have hfz35_0:=ja BK762.out 0
    try go_wp2_with (first |((with_reducible refine jy (f:=35) rfl ?_);refine gL (some 16) Try.func35 #[.agg #[.slice A0_0 l0_0.length c0_0], .slice A1 l1.length c1] ?_;(with_reducible refine (jW.calls k _ _ l0_0 _ _ l1 true _ ?side1 ?side2 ?side3 ?side4 A6.out).mono ?_);(case side1=>exact cq (Kd.joa HR0_0.out HB.out));(case side2=>exact HC0_0.out);(case side3=>exact cq (Kd.joa HR1.out HB.out));(case side4=>exact HC1.out);rintro e w36 ⟨rfl,hb⟩;refine ⟨_,rfl,?_⟩;replace HO769:=am (Kd.jo (rq HO769.out) hb);replace HO772:=am (Kd.jo (rq HO772.out) hb);replace BK762:=am (jb (g:=gb762) (o:=.cells #[.slice A0_0 l0_0.length c0_0] 31 (0,0)) (kq BK762.out) hb);replace BK763:=am (jb (g:=gb763) (o:=.cells #[.int .i64 a2_0, .int .i64 a2_1, .int .i64 a2_2] 44 (0,0)) (kq BK763.out) hb);replace HB:=am (jg (Y3) hb);(try clear hb);(try clear hb2);(try clear hk);(try clear hi);have hcz37_0:=bc0 BK762.out;have hfz37_0:=ja BK762.out 0;obtain ⟨Ao38,co38,eo38⟩:=Kd.jL HO772.out;subst eo38) |(go_at_call 35;(with_reducible refine (jW.calls k _ _ l0_0 _ _ y770 false _ ?side1 ?side2 ?side3 ?side4 A8.out).mono ?_);(case side1=>exact cq (Kd.joa HR0_0.out HB.out));(case side2=>exact HC0_0.out);(case side3=>exact cq (Kd.jl HO772.out).2.2);(case side4=>exact (Kd.jl HO772.out).2.1);rintro e w39 ⟨rfl,hb⟩;replace HO769:=am (Kd.jo (rq HO769.out) hb);replace HO772:=am (Kd.jo (rq HO772.out) hb);replace BK762:=am (jb (g:=gb762) (o:=.cells #[.slice A0_0 l0_0.length c0_0] 31 (0,0)) (kq BK762.out) hb);replace BK763:=am (jb (g:=gb763) (o:=.cells #[.int .i64 a2_0, .int .i64 a2_1, .int .i64 a2_2] 44 (0,0)) (kq BK763.out) hb);replace HB:=am (jg (Y3) hb);(try clear hb);(try clear hb2);(try clear hk);(try clear hi)))
    go_ret2
    exact ⟨_,Y1,Y76,Y3⟩
  ·replace c7:=Bool.eq_false_iff.mpr c7
   subst c7
   have H1:(some (([]:List (S44)),false))=some (r1,r2):=by rw [if_neg (show ¬ (false=true) by decide)] at H;exact H
   clear H
   have H:=H1
   clear H1
   simp only [Option.some.injEq,Prod.mk.injEq] at H
   obtain ⟨rfl,rfl⟩:=H
   go_enter Try.func30,Try.ntmps30
   try go_wp2_with (first |((with_reducible refine jH (N:=3) rfl ?_);refine bE (N:=3) (cs:=#[.slice A0_0 l0_0.length c0_0]) (t:=31) ?_;intro gb762 hg w40 hbox hb;have BK762:=am (hbox);have GW762:=am ((Y2:w.heap.size≤gb762));have GE762:=am ((Y2:w.heap.size≤gb762));replace HB:=am (jg (bq) hb);clear hb hbox hg) |((with_reducible refine jH (N:=5) rfl ?_);refine bE (N:=5) (cs:=#[.int .i64 a2_0, .int .i64 a2_1, .int .i64 a2_2]) (t:=44) ?_;intro gb763 hg w41 hbox hb;have BK763:=am (hbox);have GW763:=am ((Y59:w.heap.size≤gb763));have GE763:=am ((Y59:w.heap.size≤gb763));have NB762_763:=am ((Y114:gb762≠gb763));have NB763_762:=am ((Y115:gb763≠gb762));replace BK762:=am (jb (g:=gb762) (o:=.cells #[.slice A0_0 l0_0.length c0_0] 31 (0,0)) (kq BK762.out) hb);replace HB:=am (jg (Y116) hb);clear hb hbox hg))
   replace BK762:=am (jf BK762.out)
   replace BK763:=am (jf BK763.out)
   replace HB:=am (jB HB.out)
   refine jjc (n:=6) (S:=fun w'=>w'.cell? ⟨gb763,0,none⟩=some (.int .i64 a2_0)∧w'.cell? ⟨gb763,1,none⟩=some (.int .i64 a2_1)∧w'.cell? ⟨gb763,2,none⟩=some (.int .i64 a2_2)) (ds:=[]) #[false,false,false,false,false,false] (by kernel_rfl) rfl rfl ⟨(jh BK763.out 0).trans rfl,(jh BK763.out 1).trans rfl,(jh BK763.out 2).trans rfl⟩ (fun hHeld=>?_)
   generalize w41.drew=w42 at BK762 BK763 HB hHeld ⊢
   refine jcc (i:=0) (N:=some 9) (v:=?_) (a':=?_) #[true,false,false,false,false,false] rfl rfl (by kernel_rfl) (fun _ _ _ h=>h) (Or.inl ⟨by rfl,?_⟩) ?_ ?_
   rotate_left
   ·exact sb
   rotate_left
   ·exact sa
   refine jYb (i:=2) (N:=some 11) (v:=?_) (a':=?_) #[true,false,true,false,false,false] rfl rfl (by kernel_rfl) (fun _ _ _ h=>h) (Or.inl ⟨by rfl,?_⟩) hHeld ?_ ?_
   rotate_left
   ·rintro w' ⟨s0,s1,s2⟩
    go_simp
    with_reducible rfl
   rotate_left
   ·exact sa
   refine join_ (σ:=Value × Value) 2 #[true,true,true,true,false,false] (fun s_=>[(10,s_.1),(12,s_.2)]) (fun s_ w'=>(w'.cell? ⟨gb763,0,none⟩=some (.int .i64 a2_0)∧w'.cell? ⟨gb763,1,none⟩=some (.int .i64 a2_1)∧w'.cell? ⟨gb763,2,none⟩=some (.int .i64 a2_2))∧(Kd.R k44 44 w' w.heap.size (fun k_=>some k_≠(s_.2:Value).ownBlock∧k_≠gb763) s_.1 t764)∧(Kd.R k44 44 w' w.heap.size (fun k_=>some k_≠(s_.1:Value).ownBlock∧k_≠gb763) s_.2 y767)∧(w'.heap[gb762]?=some (.cells #[.slice A0_0 l0_0.length c0_0] 31 (0,0)))∧(w'.heap[gb763]?=some (.cells #[.int .i64 a2_0, .int .i64 a2_1, .int .i64 a2_2] 44 (0,0)))∧(Below w.heap.size w w')) ?_ ?_
   rotate_left
   ·intro hCont
    refine two_ (i:=1) (j:=3) (Ni:=some 10) (Nj:=some 12) #[true,true,true,false,false,false] #[true,false,true,true,false,false] rfl rfl rfl rfl (by kernel_rfl) (by decide) (by decide) (fun K hK=>?_) (fun K hK=>?_)
    ·skip
     refine goes_ Try.func63 (by kernel_rfl) rfl #[.slice A1 l1.length c1] (by rfl) rfl rfl (aq) ?_
     with_reducible refine (jOa.calls _ _ l1 t764 _ ?side1 ?side2 A4.out).mono ?_
     (case side1=>exact cq (Kd.joa HR1.out HB.out))
     (case side2=>exact HC1.out)
     rintro e w43 ⟨v765,rfl,ho0,hb⟩
     refine ⟨_,rfl,?_⟩
     have HO766:=am (Kd.jV (Kd.jvb ho0 (g:=gb763) (o:=.cells #[.int .i64 a2_0, .int .i64 a2_1, .int .i64 a2_2] 44 (0,0)) (kq BK763.out)) (jD (Y3)))
     replace BK762:=am (jb (g:=gb762) (o:=.cells #[.slice A0_0 l0_0.length c0_0] 31 (0,0)) (kq BK762.out) hb)
     replace BK763:=am (jb (g:=gb763) (o:=.cells #[.int .i64 a2_0, .int .i64 a2_1, .int .i64 a2_2] 44 (0,0)) (kq BK763.out) hb)
     replace HB:=am (jg (Y3) hb)
     (try clear hb)
     (try clear hb2)
     (try clear hk)
     (try clear hi)
     (try clear ho0)
     refine hK.out _ _ ⟨(jh BK763.out 0).trans rfl,(jh BK763.out 1).trans rfl,(jh BK763.out 2).trans rfl⟩ (fun hHeld=>?_)
     clear hK K
     refine jgb (a':=?_) ?_ ?_
     rotate_left
     ·show Act.put _ (some 10) _=_
      simp only [Act.put,List.setIfInBounds_toArray,List.set_cons_zero,List.set_cons_succ,jbb,jdb]
      rfl
     refine one_ (i:=3) (N:=some 12) #[true,true,true,true,false,false] rfl rfl (by kernel_rfl) (by decide) (fun K hK=>?_)
     refine Kd.jqb k44 _ 44 ?hg (N:=12) ?hd (xs:=([(⟨a2_0,a2_1,a2_2⟩:S44)]:List (S44))) (inner:=[.int .i64 a2_0, .int .i64 a2_1, .int .i64 a2_2]) (ok:=fun _=>True) (okp:=fun _=>True) ?hr ?hp (fun _ hk=>hk) trivial (Below.refl _ _) (Nat.le_refl _) (by simp) ?_;(case hd=>rfl);(case hg=>rfl);(case hr=>exact Y7);(case hp=>exact (Reps.c3 (show Kd.M k44 _ _ _ (⟨a2_0,a2_1,a2_2⟩:S44) [.int .i64 a2_0, .int .i64 a2_1, .int .i64 a2_2] from (jRb _ _ _ (⟨a2_0,a2_1,a2_2⟩:S44) )) (Reps.none _ _)))
     intro v768 w44 ho45 hb hg_ hnew_
     clear hg_ hnew_
     (first | rw [← Ny767.out] at ho45 |(simp only [Int.reduceToNat] at ho45;rw [← Ny767.out] at ho45))
     have HO769:=am (Kd.jV (Kd.jvb (Kd.jlb ho45 (Kd.R_lt (rq HO766.out))) (g:=gb763) (o:=.cells #[.int .i64 a2_0, .int .i64 a2_1, .int .i64 a2_2] 44 (0,0)) (kq BK763.out)) (jD (Y3)))
     replace HO766:=am (Kd.jKa (rq HO766.out) (Kd.jib ho45) hb)
     replace BK762:=am (jb (g:=gb762) (o:=.cells #[.slice A0_0 l0_0.length c0_0] 31 (0,0)) (kq BK762.out) hb)
     replace BK763:=am (jb (g:=gb763) (o:=.cells #[.int .i64 a2_0, .int .i64 a2_1, .int .i64 a2_2] 44 (0,0)) (kq BK763.out) hb)
     replace HB:=am (jg (Y3) hb)
     clear hb ho45
     refine hK.out _ _ ⟨(jh BK763.out 0).trans rfl,(jh BK763.out 1).trans rfl,(jh BK763.out 2).trans rfl⟩ (fun hHeld=>?_)
     clear hK K
     refine jgb (a':=?_) ?_ ?_
     rotate_left
     ·show Act.put _ (some 12) _=_
      simp only [Act.put,List.setIfInBounds_toArray,List.set_cons_zero,List.set_cons_succ,jbb,jdb]
      rfl
     exact jgb (by simp only [jZb,Act.put,List.setIfInBounds_toArray,List.set_cons_zero,List.set_cons_succ]) (hCont (v765,v768) _ ⟨hHeld,(Y117),(Y118),(kq BK762.out),(kq BK763.out),(Y3)⟩)
    ·skip
     refine Kd.jqb k44 _ 44 ?hg (N:=12) ?hd (xs:=([(⟨a2_0,a2_1,a2_2⟩:S44)]:List (S44))) (inner:=[.int .i64 a2_0, .int .i64 a2_1, .int .i64 a2_2]) (ok:=fun _=>True) (okp:=fun _=>True) ?hr ?hp (fun _ hk=>hk) trivial (Below.refl _ _) (Nat.le_refl _) (by simp) ?_;(case hd=>rfl);(case hg=>rfl);(case hr=>exact Y7);(case hp=>exact (Reps.c3 (show Kd.M k44 _ _ _ (⟨a2_0,a2_1,a2_2⟩:S44) [.int .i64 a2_0, .int .i64 a2_1, .int .i64 a2_2] from (jRb _ _ _ (⟨a2_0,a2_1,a2_2⟩:S44) )) (Reps.none _ _)))
     intro v768 w43 ho44 hb hg_ hnew_
     clear hg_ hnew_
     (first | rw [← Ny767.out] at ho44 |(simp only [Int.reduceToNat] at ho44;rw [← Ny767.out] at ho44))
     have HO769:=am (Kd.jV (Kd.jvb ho44 (g:=gb763) (o:=.cells #[.int .i64 a2_0, .int .i64 a2_1, .int .i64 a2_2] 44 (0,0)) (kq BK763.out)) (jD (Y3)))
     replace BK762:=am (jb (g:=gb762) (o:=.cells #[.slice A0_0 l0_0.length c0_0] 31 (0,0)) (kq BK762.out) hb)
     replace BK763:=am (jb (g:=gb763) (o:=.cells #[.int .i64 a2_0, .int .i64 a2_1, .int .i64 a2_2] 44 (0,0)) (kq BK763.out) hb)
     replace HB:=am (jg (Y3) hb)
     clear hb ho44
     refine hK.out _ _ ⟨(jh BK763.out 0).trans rfl,(jh BK763.out 1).trans rfl,(jh BK763.out 2).trans rfl⟩ (fun hHeld=>?_)
     clear hK K
     refine jgb (a':=?_) ?_ ?_
     rotate_left
     ·show Act.put _ (some 12) _=_
      simp only [Act.put,List.setIfInBounds_toArray,List.set_cons_zero,List.set_cons_succ,jbb,jdb]
      rfl
     refine one_ (i:=1) (N:=some 10) #[true,true,true,true,false,false] rfl rfl (by kernel_rfl) (by decide) (fun K hK=>?_)
     refine goes_ Try.func63 (by kernel_rfl) rfl #[.slice A1 l1.length c1] (by rfl) rfl rfl (aq) ?_
     with_reducible refine (jOa.calls _ _ l1 t764 _ ?side1 ?side2 A4.out).mono ?_
     (case side1=>exact cq (Kd.joa HR1.out HB.out))
     (case side2=>exact HC1.out)
     rintro e w45 ⟨v765,rfl,ho0,hb⟩
     refine ⟨_,rfl,?_⟩
     have HO766:=am (Kd.jV (Kd.jvb (Kd.jlb ho0 (Kd.R_lt (rq HO769.out))) (g:=gb763) (o:=.cells #[.int .i64 a2_0, .int .i64 a2_1, .int .i64 a2_2] 44 (0,0)) (kq BK763.out)) (jD (Y3)))
     replace HO769:=am (Kd.jKa (rq HO769.out) (Kd.jib ho0) hb)
     replace BK762:=am (jb (g:=gb762) (o:=.cells #[.slice A0_0 l0_0.length c0_0] 31 (0,0)) (kq BK762.out) hb)
     replace BK763:=am (jb (g:=gb763) (o:=.cells #[.int .i64 a2_0, .int .i64 a2_1, .int .i64 a2_2] 44 (0,0)) (kq BK763.out) hb)
     replace HB:=am (jg (Y3) hb)
     (try clear hb)
     (try clear hb2)
     (try clear hk)
     (try clear hi)
     (try clear ho0)
     refine hK.out _ _ ⟨(jh BK763.out 0).trans rfl,(jh BK763.out 1).trans rfl,(jh BK763.out 2).trans rfl⟩ (fun hHeld=>?_)
     clear hK K
     refine jgb (a':=?_) ?_ ?_
     rotate_left
     ·show Act.put _ (some 10) _=_
      simp only [Act.put,List.setIfInBounds_toArray,List.set_cons_zero,List.set_cons_succ,jbb,jdb]
      rfl
     exact jgb (by simp only [jZb,Act.put,List.setIfInBounds_toArray,List.set_cons_zero,List.set_cons_succ]) (hCont (v765,v768) _ ⟨hHeld,(Y119),(Y120),(kq BK762.out),(kq BK763.out),(Y3)⟩)
   rintro ⟨v765,v768⟩ w46 ⟨hS_,h0_,h1_,h2_,h3_,h4_⟩
   have n0_:jC (Kd.R k44 44 w46 w.heap.size (fun k_=>some k_≠(v768:Value).ownBlock∧k_≠gb763) v765 t764):=⟨h0_⟩
   have n1_:jC (Kd.R k44 44 w46 w.heap.size (fun k_=>some k_≠(v765:Value).ownBlock∧k_≠gb763) v768 y767):=⟨h1_⟩
   have n2_:jC (w46.heap[gb762]?=some (.cells #[.slice A0_0 l0_0.length c0_0] 31 (0,0))):=⟨h2_⟩
   have n3_:jC (w46.heap[gb763]?=some (.cells #[.int .i64 a2_0, .int .i64 a2_1, .int .i64 a2_2] 44 (0,0))):=⟨h3_⟩
   have n4_:jC (Below w.heap.size w w46):=⟨h4_⟩
   clear BK762
   clear BK763
   clear HB
   clear h0_ h1_ h2_ h3_ h4_
   have HO766:=n0_
   have HO769:=n1_
   have BK762:=n2_
   have BK763:=n3_
   have HB:=n4_
   clear n0_ n1_ n2_ n3_ n4_
   have hHeld:w46.cell? ⟨gb763,0,none⟩=some (.int .i64 a2_0)∧w46.cell? ⟨gb763,1,none⟩=some (.int .i64 a2_1)∧w46.cell? ⟨gb763,2,none⟩=some (.int .i64 a2_2):=hS_
   obtain ⟨Ao48,co48,eo48⟩:=Kd.jL HO769.out
   (first | subst eo48 |(injection eo48 with f1_ f2_ f3_;have f4_:=f1_.symm;have f5_:=f3_.symm;clear f1_ f2_ f3_;subst f4_;subst f5_))
   refine jgb (a':=?_) ?_ ?_
   rotate_left
   ·simp only [jZb,Act.put,List.setIfInBounds_toArray,List.set_cons_zero,List.set_cons_succ]
    rfl
   refine one_ (i:=4) (N:=some 13) #[true,true,true,true,true,false] rfl rfl (by kernel_rfl) (by decide) (fun K hK=>?_)
   refine Kd.jwb k44 (w0:=w) w.heap.size (by rfl) (.tmp 10) (.tmp 12) 33 44 (.agg #[(.int .i64 0),(.int .i64 0),(.int .i64 0)]) 24 rfl Try.underlying33 info44 rfl (by decide) (by omega) v765 t764 y767 _ _ _ (fun k_=>some k_≠(.slice Ao48 y767.length co48:Value).ownBlock∧k_≠gb763) (fun _=>False) rfl rfl ?aO ?aR (fun _ _ h=>h) (fun _ h=>h.elim) ?aF ?aB ?aS ?aL ?_
   (case aR=>exact Y121)
   (case aB=>exact (Y3))
   (case aF=>exact (fun k_ hk=>⟨Kd.fresh' (Kd.R_lt (rq HO769.out)) k_ hk,Kd.freshB (g:=gb763) (o:=.cells #[.int .i64 a2_0, .int .i64 a2_1, .int .i64 a2_2] 44 (0,0)) (kq BK763.out) k_ hk⟩))
   (case aO=>exact (rq HO766.out))
   (case aS=>exact (jD (Y3)))
   (case aL=>have:=LMc5.out;omega)
   intro v771 w47 ho hb hg hat
   rw [← Ny770.out] at ho
   have n0_:=am (jma (g:=gb762) (o:=.cells #[.slice A0_0 l0_0.length c0_0] 31 (0,0)) (kq BK762.out) hg (Kd.R_ne HO766.out BK762.out (by decide)))
   have n1_:=am (jma (g:=gb763) (o:=.cells #[.int .i64 a2_0, .int .i64 a2_1, .int .i64 a2_2] 44 (0,0)) (kq BK763.out) hg (Kd.R_away HO766.out (fun _ hk=>hk.2)))
   have n2_:=am (Kd.R_after (ok:=(fun k_=>k_≠gb763)) (Y122) hg hat)
   have n3_:=am (hb)
   have n4_:=am (ho)
   clear BK762
   clear BK763
   clear HO769
   clear HB
   clear HO766
   have BK762:=n0_
   have BK763:=n1_
   have HO769:=n2_
   have HB:=n3_
   have HO772:=n4_
   clear n0_ n1_ n2_ n3_ n4_
   clear ho hb hg hat
   refine hK.out _ _ ⟨(jh BK763.out 0).trans rfl,(jh BK763.out 1).trans rfl,(jh BK763.out 2).trans rfl⟩ (fun hHeld=>?_)
   clear hK K
   refine jgb (a':=?_) ?_ ?_
   rotate_left
   ·show Act.put _ (some 13) _=_
    simp only [Act.put,List.setIfInBounds_toArray,List.set_cons_zero,List.set_cons_succ,jbb,jdb]
    rfl
   refine jcc (i:=5) (N:=some 8) (v:=?_) (a':=?_) #[true,true,true,true,true,true] rfl rfl (by kernel_rfl) (fun _ _ _ h=>h) (Or.inl ⟨by rfl,?_⟩) ?_ ?_
   rotate_left
   ·exact sb
   rotate_left
   ·exact sa
   refine done_ (by kernel_rfl) ?_
   have hnb49:=NB762_763.out
   have hnc49:=NB763_762.out
   have hcz50_0:=bc0 BK762.out
   have hfz50_0:=ja BK762.out 0
   try go_wp2_with (first |((with_reducible refine jy (f:=35) rfl ?_);refine gL (some 16) Try.func35 #[.agg #[.slice A0_0 l0_0.length c0_0], .slice A1 l1.length c1] ?_;(with_reducible refine (jW.calls k _ _ l0_0 _ _ l1 false _ ?side1 ?side2 ?side3 ?side4 A6.out).mono ?_);(case side1=>exact cq (Kd.joa HR0_0.out HB.out));(case side2=>exact HC0_0.out);(case side3=>exact cq (Kd.joa HR1.out HB.out));(case side4=>exact HC1.out);rintro e w51 ⟨rfl,hb⟩;refine ⟨_,rfl,?_⟩;replace HO769:=am (Kd.jo (rq HO769.out) hb);replace HO772:=am (Kd.jo (rq HO772.out) hb);replace BK762:=am (jb (g:=gb762) (o:=.cells #[.slice A0_0 l0_0.length c0_0] 31 (0,0)) (kq BK762.out) hb);replace BK763:=am (jb (g:=gb763) (o:=.cells #[.int .i64 a2_0, .int .i64 a2_1, .int .i64 a2_2] 44 (0,0)) (kq BK763.out) hb);replace HB:=am (jg (Y3) hb);(try clear hb);(try clear hb2);(try clear hk);(try clear hi)))
   go_ret2
   exact ⟨_,Y1,Y76,Y3⟩
 ·rw [if_neg c5] at H
  exact absurd H (by simp)
theorem eqA44 (d : Nat) (w : World) (x0 y0 : Int) (x1 y1 : Int) (x2 y2 : Int) :
  (Op.equalIn (d+2) 44 (.agg #[.int .i64 x0, .int .i64 x1, .int .i64 x2]) (.agg #[.int .i64 y0, .int .i64 y1, .int .i64 y2])).run Try.prog w=.ok (x0 == y0 && (x1 == y1 && (x2 == y2))) w:=by
 refine eqA_of Try.underlying44 (by kernel_rfl) ?_
 refine eqf_cons (by rfl) (by go_simp;rfl) (by go_simp;rfl) (by go_simp) ?_
 refine eqf_cons (by rfl) (by go_simp;rfl) (by go_simp;rfl) (by go_simp) ?_
 exact eqf_last (by rfl) (by go_simp;rfl) (by go_simp;rfl) (by go_simp)
attribute [local go_sem high] eqA44
def jS.l0 : Nat → List (S44) → List (S44) → Int → Option (Bool)
 | 0,_,_,_=>none
 | k+1,x0,x1,x5=>if x5<(x0.length:Int) then (if 0≤x5 then (if x5<(x1.length:Int) then (if (!(((jQ x0 x5).f0) == ((jQ x1 x5).f0)) ||(!(((jQ x0 x5).f1) == ((jQ x1 x5).f1)) ||(!(((jQ x0 x5).f2) == ((jQ x1 x5).f2)))))=true then (some false) else (jS.l0 k x0 x1 (wrap64 (x5+1)))) else (none)) else (none)) else (some true)
def jS.f (k : Nat) (l0 : List (S44)) (l1 : List (S44)) : Option (Bool) := if (l0.length : Int) = (l1.length : Int) then (jS.l0 k l0 l1 0) else (some false)
set_option maxHeartbeats 8000000 in
set_option maxRecDepth 100000 in
theorem jS.calls (k : Nat) (A0 : Option Addr) (c0 : Nat) (l0 : List (S44)) (A1 : Option Addr) (c1 : Nat) (l1 : List (S44)) (r : Bool) (w : World) (hr0 : Kd.C k44 w A0 l0.length l0) (hc0 : l0.length ≤ c0) (hr1 : Kd.C k44 w A1 l1.length l1) (hc1 : l1.length ≤ c1) (h : jS.f k l0 l1 = some r) :
  Calls Try.prog 31 #[.slice A0 l0.length c0, .slice A1 l1.length c1] w fun e w'=>e=.returned (.bool r)∧jmb w w':=by
 have hu44:=Try.underlying44
 have HR0:=am hr0
 have HC0:=am hc0
 clear hr0 hc0
 have HR1:=am hr1
 have HC1:=am hc1
 clear hr1 hc1
 have H:(if (l0.length:Int)=(l1.length:Int) then (jS.l0 k l0 l1 0) else (some false))=some r:=h
 clear h
 by_cases c3:(l0.length:Int)=(l1.length:Int)
 ·rw [if_pos c3] at H
  have c3b0:((l0.length:Int) == (l1.length:Int))=true:=beq_iff_eq.mpr c3
  have c3b1:((l0.length:Int) != (l1.length:Int))=false:=bne_eq_false_iff_eq.mpr c3
  have c3b2:(l0.length == l1.length)=true:=by first | simpa using c3 |(simp at c3 ⊢;omega)
  clear c3
  have H':=am H
  clear H
  go_enter Try.func31,Try.ntmps31
  go_wp2
  repeat (go_quiet (fail);try go_wp2)
  go_loopg [5] k (fun kq v5 w'=>∃ (x5_1:Int),v5=.int .i64 x5_1∧jC (jS.l0 kq l0 l1 x5_1=some r)∧jC (kq≤k)∧jmb w w')
  case atStart=>exact ⟨(0),(sq),H',⟨Nat.le_refl _⟩,Y5⟩
  case round =>
   clear H'
   try clear c1
   try clear p2
   try clear c3
   try clear c3b0
   try clear c3b1
   try clear c3b2
   obtain ⟨x5_1,rfl,HA,HK1,⟨m1,rfl⟩⟩:=hrel
   cases gk with
   | zero=>exact absurd HA.out (by simp [jS.l0])
   | succ k1 =>
    have H:=HA.out
    clear HA
    simp only [jS.l0] at H
    by_cases c4:x5_1<(l0.length:Int)
    ·rw [if_pos c4] at H
     have c4b0:decide (x5_1<(l0.length:Int))=true:=dzT c4
     clear c4
     by_cases c5:0≤x5_1
     ·rw [if_pos c5] at H
      have c5b0:decide (0≤x5_1)=true:=dzT c5
      clear c5
      by_cases c6:x5_1<(l1.length:Int)
      ·rw [if_pos c6] at H
       have c6b0:decide (x5_1<(l1.length:Int))=true:=dzT c6
       clear c6
       by_cases c7:(!(((jQ l0 x5_1).f0) == ((jQ l1 x5_1).f0)) ||(!(((jQ l0 x5_1).f1) == ((jQ l1 x5_1).f1)) ||(!(((jQ l0 x5_1).f2) == ((jQ l1 x5_1).f2)))))=true
       ·rw [if_pos c7] at H
        have c7b0:(!(((jQ l0 x5_1).f0) == ((jQ l1 x5_1).f0)) ||(!(((jQ l0 x5_1).f1) == ((jQ l1 x5_1).f1)) ||(!(((jQ l0 x5_1).f2) == ((jQ l1 x5_1).f2)))))=true:=c7
        clear c7
        obtain rfl:=Option.some.inj H
        have p775:0≤(x5_1:Int):=ozD (uq)
        have q775:x5_1<(l0.length:Int):=ozD (uq)
        obtain ⟨ad775,e775,hx775_0,hx775_1,hx775_2⟩:=at_T44 HR0.out x5_1 p775 q775
        cases e775
        replace p775:=ezT p775
        replace q775:=ezT q775
        have p776:0≤(x5_1:Int):=ozD (uq)
        have q776:x5_1<(l1.length:Int):=ozD (uq)
        obtain ⟨ad776,e776,hx776_0,hx776_1,hx776_2⟩:=at_T44 HR1.out x5_1 p776 q776
        cases e776
        replace p776:=ezT p776
        replace q776:=ezT q776
        go_wp2
        repeat (go_quiet (fail);try go_wp2)
        go_ret
        exact ⟨sq,Y5⟩
       ·rw [if_neg c7] at H
        have c7b0:(!(((jQ l0 x5_1).f0) == ((jQ l1 x5_1).f0)) ||(!(((jQ l0 x5_1).f1) == ((jQ l1 x5_1).f1)) ||(!(((jQ l0 x5_1).f2) == ((jQ l1 x5_1).f2)))))=false:=by simpa using c7
        clear c7
        have H':=am H
        clear H
        have p775:0≤(x5_1:Int):=ozD (uq)
        have q775:x5_1<(l0.length:Int):=ozD (uq)
        obtain ⟨ad775,e775,hx775_0,hx775_1,hx775_2⟩:=at_T44 HR0.out x5_1 p775 q775
        cases e775
        replace p775:=ezT p775
        replace q775:=ezT q775
        have p776:0≤(x5_1:Int):=ozD (uq)
        have q776:x5_1<(l1.length:Int):=ozD (uq)
        obtain ⟨ad776,e776,hx776_0,hx776_1,hx776_2⟩:=at_T44 HR1.out x5_1 p776 q776
        cases e776
        replace p776:=ezT p776
        replace q776:=ezT q776
        go_wp2
        repeat (go_quiet (fail);try go_wp2)
        go_roundg k1
        case measure=>have:=HK1.out;omega
        case rel=>exact ⟨(wrap64 (x5_1+1)),(sq),H',⟨by have:=HK1.out;omega⟩,Y5⟩
      ·rw [if_neg c6] at H
       exact absurd H (by simp)
     ·rw [if_neg c5] at H
      exact absurd H (by simp)
    ·rw [if_neg c4] at H
     have c4b0:decide (x5_1<(l0.length:Int))=false:=dzF c4
     clear c4
     obtain rfl:=Option.some.inj H
     go_wp2
     repeat (go_quiet (fail);try go_wp2)
     go_ret
     exact ⟨sq,Y5⟩
 ·rw [if_neg c3] at H
  have c3b0:((l0.length:Int) == (l1.length:Int))=false:=beq_eq_false_iff_ne.mpr c3
  have c3b1:((l0.length:Int) != (l1.length:Int))=true:=bne_iff_ne.mpr c3
  have c3b2:(l0.length == l1.length)=false:=by first | simpa using c3 |(simp at c3 ⊢;omega)
  obtain rfl:=Option.some.inj H
  go_enter Try.func31,Try.ntmps31
  go_wp2
  repeat (go_quiet (fail);try go_wp2)
  go_ret
  exact ⟨sq,Y5⟩
end Go.Proofs.Ytlhfcmbkjddgiaa.P
end
