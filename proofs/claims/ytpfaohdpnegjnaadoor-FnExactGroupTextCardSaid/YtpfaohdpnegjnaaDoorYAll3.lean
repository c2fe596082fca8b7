/- One part of the proofs on this program: functions of the program as plain functions, that the code comes to them, and facts on them. -/
import Derived.Test.YtpfaohdpnegjnaaDoorYAll1
import Derived.Test.YtpfaohdpnegjnaaDoorYAll2
import Derived.Test.YtpfaohdpnegjnaaDoorYWAuto
section
namespace Go.Proofs.YtpfaohdpnegjnaaDoor.P
open Go.RowKit Go.Proofs.YtpfaohdpnegjnaaDoorW.PrintWords Go.Proofs.YtpfaohdpnegjnaaDoorW.PrintLast Go.Proofs.YtpfaohdpnegjnaaDoorW.PrintMore
attribute [local go_sem] jZ jX joa jna jP jO jY jW jo
set_option linter.unusedVariables false
set_option linter.unusedSimpArgs false
mutual
def jq.l0 : Nat → ByteArray → List (List (S42)) → Int → List (S59) → Option (ByteArray)
 | 0,_,_,_,_=>none
 | k+1,x5,x6,x7,x157000=>if x7<(x6.length:Int) then (if x7 > 0 then (if x5.size+1≤9223372036854775807 then (if 0≤x7 then ((jq.f k x157000 (jqb x6 x7)).bind fun t167=>(if (x5 ++ (⟨#[32]⟩:ByteArray)).size+t167.size≤9223372036854775807 then (jq.l0 k ((x5 ++ (⟨#[32]⟩:ByteArray)) ++ t167) x6 (wrap64 (x7+1)) x157000) else (none))) else (none)) else (none)) else (if 0≤x7 then ((jq.f k x157000 (jqb x6 x7)).bind fun t169=>(if x5.size+t169.size≤9223372036854775807 then (jq.l0 k (x5 ++ t169) x6 (wrap64 (x7+1)) x157000) else (none))) else (none))) else (if x5.size+1≤9223372036854775807 then (some (x5 ++ (⟨#[41]⟩:ByteArray))) else (none))
def jq.f : Nat → List (S59) → List (S42) → Option (ByteArray)
 | 0,_,_=>none
 | k+1,l0_0,l1=>if 0<(l1.length:Int) then (if ((ja l1 0).f1=true) then ((jda.f k ((ja l1 0).f3)).bind fun t162=>(if t162.size+1≤9223372036854775807 then ((jS.f k l1).bind fun t163=>(jq.l0 k (t162 ++ (⟨#[40]⟩:ByteArray)) t163 0 l0_0)) else (none))) else ((jwa.f k l0_0 ((ja l1 0).f2) ((ja l1 0).f3)).bind fun t160=>(some t160))) else (none)
end
def jq.T2 : Bool × List (List Nat × List Nat) := (true, [([], []), ([], []), ([1], [1]), ([2], [2]), ([3], [3]), ([], []), ([5], [5]), ([6], [6]), ([7], [7]), ([0, 4, 8], [0, 4, 8]), ([9, 9, 0, 1, 2, 3, 4, 5, 6, 7, 8, 9], [9])])
def jq.B2 : List Nat := [0, 0, 2, 6, 14, 0, 32, 96, 224, 511, 1023]
theorem jq.tab2 : rtab .any (opsOf Tryd.f14 2) = jq.T2 := by kernel_rfl
theorem jq.bits2 : job jq.T2.2 jq.B2 = true := by kernel_rfl
def jq.T10 : Bool × List (List Nat × List Nat) := (true, [([], []), ([], []), ([], []), ([], []), ([2, 3], [2, 3]), ([4], [4]), ([1, 5], [1, 5]), ([0, 6], [0, 6]), ([7, 6, 0, 1, 2, 3, 4, 5, 6, 7], [0, 7])])
def jq.B10 : List Nat := [0, 0, 0, 0, 12, 28, 62, 127, 255]
theorem jq.tab10 : rtab .any (opsOf Tryd.f14 10) = jq.T10 := by kernel_rfl
theorem jq.bits10 : job jq.T10.2 jq.B10 = true := by kernel_rfl
set_option maxHeartbeats 8000000 in
set_option maxRecDepth 100000 in
theorem jq.calls (k : Nat) : ∀ (A0_0 : Option Addr) (c0_0 : Nat) (l0_0 : List (S59)) (A1 : Option Addr) (c1 : Nat) (l1 : List (S42)) (r : ByteArray) (w : World) (hr0_0 : Kd.C k59 w A0_0 l0_0.length l0_0) (hc0_0 : l0_0.length ≤ c0_0) (hr1 : Kd.C k42 w A1 l1.length l1) (hc1 : l1.length ≤ c1) (h : jq.f k l0_0 l1 = some r),
  Calls Tryd.prog 14 #[.agg #[.slice A0_0 l0_0.length c0_0], .slice A1 l1.length c1] w fun e w'=>e=.returned (.string r)∧Below w.heap.size w w':=by
 induction k using Nat.strongRecOn with
 | _ k ih =>
 intro A0_0 c0_0 l0_0 A1 c1 l1 r w hr0_0 hc0_0 hr1 hc1 h
 cases k with
 | zero=>exact absurd h (by simp [jq.f])
 | succ k =>
 simp only [jq.f] at h
 have hu31:=Tryd.underlying31
 have HR0_0:=am hr0_0
 have HC0_0:=am hc0_0
 clear hr0_0 hc0_0
 have HR1:=am hr1
 have HC1:=am hc1
 clear hr1 hc1
 have HB:=am (Below.refl w.heap.size w)
 have H:(if 0<(l1.length:Int) then (if ((ja l1 0).f1=true) then ((jda.f k ((ja l1 0).f3)).bind fun t162=>(if t162.size+1≤9223372036854775807 then ((jS.f k l1).bind fun t163=>(jq.l0 k (t162 ++ (⟨#[40]⟩:ByteArray)) t163 0 l0_0)) else (none))) else ((jwa.f k l0_0 ((ja l1 0).f2) ((ja l1 0).f3)).bind fun t160=>(some t160))) else (none))=some r:=h
 clear h
 by_cases c3:0<(l1.length:Int)
 ·rw [if_pos c3] at H
  have c3b0:decide (0<(l1.length:Int))=true:=dzT c3
  have c3b1:decide (0<l1.length)=true:=dzT (by omega)
  clear c3
  obtain ⟨bq4,hbq4⟩:∃ b_:Bool,b_=((ja l1 0).f1):=⟨_,rfl⟩
  replace H:(if (bq4=true) then ((jda.f k ((ja l1 0).f3)).bind fun t162=>(if t162.size+1≤9223372036854775807 then ((jS.f k l1).bind fun t163=>(jq.l0 k (t162 ++ (⟨#[40]⟩:ByteArray)) t163 0 l0_0)) else (none))) else ((jwa.f k l0_0 ((ja l1 0).f2) ((ja l1 0).f3)).bind fun t160=>(some t160)))=some r:=by rw [← hbq4] at H;exact H
  have Nbq4:=am hbq4
  clear hbq4
  by_cases c5:(bq4=true)
  ·subst c5
   have H1:((jda.f k ((ja l1 0).f3)).bind fun t162=>(if t162.size+1≤9223372036854775807 then ((jS.f k l1).bind fun t163=>(jq.l0 k (t162 ++ (⟨#[40]⟩:ByteArray)) t163 0 l0_0)) else (none)))=some r:=by rw [if_pos rfl] at H;exact H
   clear H
   have H:=H1
   clear H1
   replace H:=bzS H
   obtain ⟨t162,A60,H⟩:=H
   replace H:(if t162.size+1≤9223372036854775807 then ((jS.f k l1).bind fun t163=>(jq.l0 k (t162 ++ (⟨#[40]⟩:ByteArray)) t163 0 l0_0)) else (none))=some r:=H
   have A6:=am A60
   clear A60
   by_cases c7:t162.size+1≤9223372036854775807
   ·rw [if_pos c7] at H
    have c7b0:=ezT c7
    have c7b1:decide (t162.size+1≤9223372036854775807)=true:=dzT c7
    try have c7b2:(9223372036854775807<t162.size+1)=False:=eq_false (Nat.not_lt.2 c7)
    replace H:=bzS H
    obtain ⟨t163,A80,H⟩:=H
    replace H:(jq.l0 k (t162 ++ (⟨#[40]⟩:ByteArray)) t163 0 l0_0)=some r:=H
    have A8:=am A80
    clear A80
    have H':=am H
    clear H
    go_enter Tryd.func14,Tryd.ntmps14
    go_wp2_with (first |((with_reducible refine jE (N:=2) rfl ?_);refine bE (N:=2) (cs:=#[.slice A0_0 l0_0.length c0_0]) (t:=31) ?_;intro gb156 hg w9 hbox hb;have BK156:=am (hbox);have GW156:=am ((Y0:w.heap.size≤gb156));have GE156:=am ((Y0:w.heap.size≤gb156));replace HB:=am (jd (bq) hb);clear hb hbox hg;have p157:0≤(0:Int):=(by omega);have q157:0<(l1.length:Int):=ozD (uq);obtain ⟨ad157,e157,hx157_0,hx157_1,hx157_2,hx157_3⟩:=jpa HR1.out 0 p157 q157;(try rw [← Nbq4.out] at hx157_1);cases e157;have qi157:(0<l1.length)=True:=ezT (by omega);(try rw [show ((0:Int)).toNat=0 from rfl] at hx157_0);(try rw [show 0 * 4=0 from rfl] at hx157_0);(try rw [Addr.add_zero'] at hx157_0);(try rw [show ((0:Int)).toNat=0 from rfl] at hx157_1);(try rw [show 0 * 4=0 from rfl] at hx157_1);(try rw [Addr.add_zero'] at hx157_1);(try rw [show ((0:Int)).toNat=0 from rfl] at hx157_2);(try rw [show 0 * 4=0 from rfl] at hx157_2);(try rw [Addr.add_zero'] at hx157_2);(try rw [show ((0:Int)).toNat=0 from rfl] at hx157_3);(try rw [show 0 * 4=0 from rfl] at hx157_3);(try rw [Addr.add_zero'] at hx157_3);replace hx157_0:=cb HB.out hx157_0;replace hx157_1:=cb HB.out hx157_1;replace hx157_2:=cb HB.out hx157_2;replace hx157_3:=cb HB.out hx157_3;replace p157:=ezT p157;replace q157:=ezT q157;have p161:0≤(0:Int):=(by omega);have q161:0<(l1.length:Int):=ozD (uq);obtain ⟨ad161,e161,hx161_0,hx161_1,hx161_2,hx161_3⟩:=jpa HR1.out 0 p161 q161;(try rw [← Nbq4.out] at hx161_1);obtain rfl:ad157=ad161:=(by injection e161);have qi161:(0<l1.length)=True:=ezT (by omega);(try rw [show ((0:Int)).toNat=0 from rfl] at hx161_0);(try rw [show 0 * 4=0 from rfl] at hx161_0);(try rw [Addr.add_zero'] at hx161_0);(try rw [show ((0:Int)).toNat=0 from rfl] at hx161_1);(try rw [show 0 * 4=0 from rfl] at hx161_1);(try rw [Addr.add_zero'] at hx161_1);(try rw [show ((0:Int)).toNat=0 from rfl] at hx161_2);(try rw [show 0 * 4=0 from rfl] at hx161_2);(try rw [Addr.add_zero'] at hx161_2);(try rw [show ((0:Int)).toNat=0 from rfl] at hx161_3);(try rw [show 0 * 4=0 from rfl] at hx161_3);(try rw [Addr.add_zero'] at hx161_3);replace hx161_0:=cb HB.out hx161_0;replace hx161_1:=cb HB.out hx161_1;replace hx161_2:=cb HB.out hx161_2;replace hx161_3:=cb HB.out hx161_3;replace p161:=ezT p161;replace q161:=ezT q161) |((with_reducible refine jC (f:=27) rfl ?_);refine gL (some 27) Tryd.func27 #[.int .i64 ((ja l1 0).f3)] ?_;(with_reducible refine (jda.calls k ((ja l1 0).f3) t162 _ A6.out).mono ?_);rintro e w' ⟨rfl,⟨nd,rfl⟩⟩;refine ⟨_,rfl,?_⟩) |((with_reducible refine jC (f:=28) rfl ?_);refine gL (some 30) Tryd.func28 #[.slice (some ad157) l1.length c1] ?_;(with_reducible refine (jS.calls k _ _ l1 t163 _ ?side1 ?side2 A8.out).mono ?_);(case side1=>repeat (first | exact (Kd.jG HR1.out (by repeat (first |(with_reducible first | exact HB.out | apply jA | apply ji | apply jv | refine jy ?_ GE156.out) | exact HB.out))) |(with_reducible refine Kd.jcb ?_ _) |(with_reducible refine Kd.jWa ?_ _) |(with_reducible refine Kd.C_drew ?_)));(case side2=>exact HC1.out);rintro e w10 ⟨v164,rfl,ho0,hb⟩;refine ⟨_,rfl,?_⟩;have HO165:=am (Kd.S_lower ho0 (jL (Y11)));replace BK156:=am (jh (g:=gb156) (o:=.cells #[.slice A0_0 l0_0.length c0_0] 31 (0,0)) (kq BK156.out) hb);replace HB:=am (jd (Y11) hb);(try clear hb);(try clear hb2);(try clear hk);(try clear hi);(try clear ho0)))
    go_loopg [5,7] k (fun kq v5 v7 w'=>∃ (x5_1:ByteArray) (x7_1:Int),v5=.string x5_1∧v7=.int .i64 x7_1∧jH (jq.l0 kq x5_1 t163 x7_1 l0_0=some r)∧jH (kq≤k)∧jH (Kd.S (Kd.slice 42 k42) 33 w' w.heap.size (fun _=>True) v164 t163)∧jH (w'.heap[gb156]?=some (.cells #[(.slice A0_0 l0_0.length c0_0)] 31 (0,0)))∧jH (Below w.heap.size w w'))
    case atStart=>exact ⟨(t162 ++ (⟨#[40]⟩:ByteArray)),(0),(sq),(sq),H',⟨Nat.le_refl _⟩,⟨by (with_reducible repeat (first | apply Kd.jIa | apply Kd.jHa | apply Kd.jOa));exact HO165.out⟩,⟨kq BK156.out⟩,⟨Y11⟩⟩
    case round =>
     clear H'
     try clear c1
     try clear p1
     try clear q1
     try clear hx1
     try clear qi1
     try clear c2
     try clear p2
     try clear c3
     try clear c3b0
     try clear c3b1
     try clear q4
     try clear c5
     try clear c7
     try clear c7b0
     try clear c7b1
     try clear c7b2
     try clear hx157_0
     try clear hx157_1
     try clear hx157_2
     try clear hx157_3
     try clear hx161_0
     try clear hx161_1
     try clear hx161_2
     try clear hx161_3
     try clear p157
     try clear p161
     try clear q157
     try clear q161
     obtain ⟨x5_1,x7_1,rfl,rfl,HA,HK1,HO_6,BK156,HB⟩:=hrel
     cases gk with
     | zero=>exact absurd HA.out (by simp [jq.l0])
     | succ k1 =>
      have H:=HA.out
      clear HA
      simp only [jq.l0] at H
      by_cases c11:x7_1<(t163.length:Int)
      ·rw [if_pos c11] at H
       have c11b0:decide (x7_1<(t163.length:Int))=true:=dzT c11
       clear c11
       by_cases c12:x7_1 > 0
       ·rw [if_pos c12] at H
        have c12b0:decide (0<x7_1)=true:=dzT c12
        clear c12
        by_cases c13:x5_1.size+1≤9223372036854775807
        ·rw [if_pos c13] at H
         have c13b0:=ezT c13
         have c13b1:decide (x5_1.size+1≤9223372036854775807)=true:=dzT c13
         try have c13b2:(9223372036854775807<x5_1.size+1)=False:=eq_false (Nat.not_lt.2 c13)
         by_cases c14:0≤x7_1
         ·rw [if_pos c14] at H
          have c14b0:decide (0≤x7_1)=true:=dzT c14
          clear c14
          replace H:=bzS H
          obtain ⟨t167,A150,H⟩:=H
          replace H:(if (x5_1 ++ (⟨#[32]⟩:ByteArray)).size+t167.size≤9223372036854775807 then (jq.l0 k1 ((x5_1 ++ (⟨#[32]⟩:ByteArray)) ++ t167) t163 (wrap64 (x7_1+1)) l0_0) else (none))=some r:=H
          have A15:=am A150
          clear A150
          by_cases c16:(x5_1 ++ (⟨#[32]⟩:ByteArray)).size+t167.size≤9223372036854775807
          ·rw [if_pos c16] at H
           have c16b0:=ezT c16
           have c16b1:decide ((x5_1 ++ (⟨#[32]⟩:ByteArray)).size+t167.size≤9223372036854775807)=true:=dzT c16
           try have c16b2:(9223372036854775807<(x5_1 ++ (⟨#[32]⟩:ByteArray)).size+t167.size)=False:=eq_false (Nat.not_lt.2 c16)
           try have c16s:(9223372036854775807<x5_1.size+1+t167.size)=False:=eq_false (Nat.not_lt.2 (by have h_:=c16;simp only [ByteArray.size_append] at h_;exact h_))
           have H':=am H
           clear H
           obtain ⟨Ao17,co17,eo17⟩:=Kd.S_slice HO_6.out
           subst eo17
           try go_wp2
           replace HO_6:=am (Kd.jOa HO_6.out)
           replace BK156:=am (jk BK156.out)
           replace HB:=am (jv HB.out)
           have p166:0≤(x7_1:Int):=ozD (uq)
           have q166:x7_1<(t163.length:Int):=ozD (uq)
           obtain ⟨ad166,A166_0,c166_0,e166,hx166_0,hl166_0,hi166_0⟩:=at_L9 (Kd.jtb HO_6.out).2.2 x7_1 p166 q166
           cases e166
           obtain ⟨ce166,hce166,hMe166,hcc166⟩:=Kd.S_get HO_6.out [] x7_1 p166 (by first | exact q166 | exact ozD (uq) |(have e_:=(Kd.jtb HO_6.out).1;omega))
           obtain ⟨ve166_0,rfl,ge166_0⟩:=hMe166
           have hv166_0:=hcc166 0 _ rfl
           rw [Nat.add_zero,show ((Kd.slice 42 k42)).sz=1 from rfl,Nat.mul_one] at hv166_0
           replace hv166_0:=Option.some.inj (hv166_0.symm.trans hx166_0)
           rw [hv166_0] at ge166_0
           have HL166_0:=am (show Kd.R k42 42 _ _ _ _ (jqb t163 x7_1) from ge166_0)
           clear hv166_0 ge166_0
           clear hcc166 hce166
           have HR166_0:=am hi166_0
           have HC166_0:=am hl166_0
           clear hi166_0 hl166_0
           replace p166:=ezT p166
           replace q166:=ezT q166
           refine start_ (n:=9) (S:=fun w'=>w'.cell? ⟨gb156,0,none⟩=some (.slice A0_0 l0_0.length c0_0)∧w'.cell? (ad166.add (x7_1).toNat)=some (.slice A166_0 (jqb t163 x7_1).length c166_0)) (ds:=[]) #[false,false,false,false,false,false,false,false,false] (by kernel_rfl) rfl rfl ⟨(jBa BK156.out 0).trans rfl,hx166_0⟩ (fun hHeld=>?_);refine jPa jq.tab10 jq.bits10 (fun HT_ HW_=>?_)
           generalize wr.drew=w18 at HO_6 BK156 HB HL166_0 HR166_0 hx166_0 hHeld ⊢
           refine pq (i:=0) (N:=some 41) #[true,false,false,false,false,false,false,false,false] ?_
           refine pq (i:=2) (N:=some 43) #[true,false,true,false,false,false,false,false,false] ?_
           refine pq (i:=3) (N:=some 44) #[true,false,true,true,false,false,false,false,false] ?_
           refine pq (i:=4) (N:=some 45) #[true,false,true,true,true,false,false,false,false] ?_
           refine jgb (i:=1) (N:=some 42) (v:=?_) (a':=?_) #[true,true,true,true,true,false,false,false,false] rfl rfl (jza HT_.out HW_.out (by kernel_rfl)) (fun _ _ _ h=>h) (Or.inl ⟨by rfl,?_⟩) hHeld ?_ ?_
           rotate_left
           ·rintro w' ⟨s0,s1⟩
            go_simp
            with_reducible rfl
           rotate_left
           ·exact sa
           refine jgb (i:=5) (N:=some 46) (v:=?_) (a':=?_) #[true,true,true,true,true,true,false,false,false] rfl rfl (jza HT_.out HW_.out (by kernel_rfl)) (fun _ _ _ h=>h) (Or.inl ⟨by rfl,?_⟩) hHeld ?_ ?_
           rotate_left
           ·rintro w' ⟨s0,s1⟩
            go_simp
            with_reducible rfl
           rotate_left
           ·exact sa
           refine one_ (i:=6) (N:=some 47) #[true,true,true,true,true,true,true,false,false] rfl rfl (one_of HT_.out (by kernel_rfl)) (by decide) (fun K hK=>?_)
           refine goes_ Tryd.func14 (by kernel_rfl) rfl #[.agg #[.slice A0_0 l0_0.length c0_0], .slice A166_0 (jqb t163 x7_1).length c166_0] (by rfl) rfl rfl (aq) ?_
           with_reducible refine (ih k1 (by have:=HK1.out;omega) _ _ l0_0 _ _ (jqb t163 x7_1) t167 _ ?side1 ?side2 ?side3 ?side4 A15.out).mono ?_
           (case side1=>exact cq (Kd.jG HR0_0.out HB.out))
           (case side2=>exact HC0_0.out)
           (case side3=>repeat (first | exact (by repeat (first |(with_reducible exact HR166_0.out) |(with_reducible refine Kd.jcb ?_ _) |(with_reducible refine Kd.jWa ?_ _) |(with_reducible refine Kd.C_drew ?_) | exact HR166_0.out)) |(with_reducible refine Kd.jcb ?_ _) |(with_reducible refine Kd.jWa ?_ _) |(with_reducible refine Kd.C_drew ?_)))
           (case side4=>exact HC166_0.out)
           rintro e w19 ⟨rfl,hb⟩
           have HS1_:=(hb.cell (World.block_lt_of_cell? _ _ (hHeld.2))).trans (hHeld.2)
           refine ⟨_,rfl,?_⟩
           replace HO_6:=am (Kd.S_below (by (with_reducible repeat (first | apply Kd.jIa | apply Kd.jHa | apply Kd.jOa));exact HO_6.out) hb)
           replace HL166_0:=am (Kd.jha (rq HL166_0.out) hb)
           replace BK156:=am (jh (g:=gb156) (o:=.cells #[.slice A0_0 l0_0.length c0_0] 31 (0,0)) (kq BK156.out) hb)
           replace HR166_0:=am (Kd.jG (by repeat (first |(with_reducible exact HR166_0.out) |(with_reducible refine Kd.jcb ?_ _) |(with_reducible refine Kd.jWa ?_ _) |(with_reducible refine Kd.C_drew ?_) | exact HR166_0.out)) hb)
           replace HB:=am (jd (Y11) hb)
           (try clear hb)
           (try clear hb2)
           (try clear hk)
           (try clear hi)
           refine hK.out _ _ ⟨(jBa BK156.out 0).trans rfl,HS1_⟩ (fun hHeld=>?_)
           clear hK K
           refine norm_ (a':=?_) ?_ ?_
           rotate_left
           ·show Act.put _ (some 47) _=_
            simp only [Act.put,List.setIfInBounds_toArray,List.set_cons_zero,List.set_cons_succ,jRa,jYa]
            rfl
           refine pq (i:=7) (N:=some 48) #[true,true,true,true,true,true,true,true,false] ?_
           refine pq (i:=8) (N:=some 5) #[true,true,true,true,true,true,true,true,true] ?_
           refine done_ (jsb HT_.out (by kernel_rfl)) ?_
           try go_wp2
           go_roundg k1
           case measure=>have:=HK1.out;omega
           case rel=>((try rw [← Nbq4.out]);exact ⟨((x5_1 ++ (⟨#[32]⟩:ByteArray)) ++ t167),(wrap64 (x7_1+1)),(sq),(sq),H',⟨by have:=HK1.out;omega⟩,⟨by (with_reducible repeat (first | apply Kd.jIa | apply Kd.jHa | apply Kd.jOa));exact HO_6.out⟩,⟨kq BK156.out⟩,⟨Y11⟩⟩)
          ·rw [if_neg c16] at H
           exact absurd H (by simp)
         ·rw [if_neg c14] at H
          exact absurd H (by simp)
        ·rw [if_neg c13] at H
         exact absurd H (by simp)
       ·rw [if_neg c12] at H
        have c12b0:decide (0<x7_1)=false:=dzF c12
        clear c12
        by_cases c20:0≤x7_1
        ·rw [if_pos c20] at H
         have c20b0:decide (0≤x7_1)=true:=dzT c20
         clear c20
         replace H:=bzS H
         obtain ⟨t169,A210,H⟩:=H
         replace H:(if x5_1.size+t169.size≤9223372036854775807 then (jq.l0 k1 (x5_1 ++ t169) t163 (wrap64 (x7_1+1)) l0_0) else (none))=some r:=H
         have A21:=am A210
         clear A210
         by_cases c22:x5_1.size+t169.size≤9223372036854775807
         ·rw [if_pos c22] at H
          have c22b0:=ezT c22
          have c22b1:decide (x5_1.size+t169.size≤9223372036854775807)=true:=dzT c22
          try have c22b2:(9223372036854775807<x5_1.size+t169.size)=False:=eq_false (Nat.not_lt.2 c22)
          have H':=am H
          clear H
          obtain ⟨Ao23,co23,eo23⟩:=Kd.S_slice HO_6.out
          subst eo23
          try go_wp2
          replace HO_6:=am (Kd.jOa HO_6.out)
          replace BK156:=am (jk BK156.out)
          replace HB:=am (jv HB.out)
          have p168:0≤(x7_1:Int):=ozD (uq)
          have q168:x7_1<(t163.length:Int):=ozD (uq)
          obtain ⟨ad168,A168_0,c168_0,e168,hx168_0,hl168_0,hi168_0⟩:=at_L9 (Kd.jtb HO_6.out).2.2 x7_1 p168 q168
          cases e168
          obtain ⟨ce168,hce168,hMe168,hcc168⟩:=Kd.S_get HO_6.out [] x7_1 p168 (by first | exact q168 | exact ozD (uq) |(have e_:=(Kd.jtb HO_6.out).1;omega))
          obtain ⟨ve168_0,rfl,ge168_0⟩:=hMe168
          have hv168_0:=hcc168 0 _ rfl
          rw [Nat.add_zero,show ((Kd.slice 42 k42)).sz=1 from rfl,Nat.mul_one] at hv168_0
          replace hv168_0:=Option.some.inj (hv168_0.symm.trans hx168_0)
          rw [hv168_0] at ge168_0
          have HL168_0:=am (show Kd.R k42 42 _ _ _ _ (jqb t163 x7_1) from ge168_0)
          clear hv168_0 ge168_0
          clear hcc168 hce168
          have HR168_0:=am hi168_0
          have HC168_0:=am hl168_0
          clear hi168_0 hl168_0
          replace p168:=ezT p168
          replace q168:=ezT q168
          refine start_ (n:=9) (S:=fun w'=>w'.cell? ⟨gb156,0,none⟩=some (.slice A0_0 l0_0.length c0_0)∧w'.cell? (ad168.add (x7_1).toNat)=some (.slice A168_0 (jqb t163 x7_1).length c168_0)) (ds:=[]) #[false,false,false,false,false,false,false,false,false] (by kernel_rfl) rfl rfl ⟨(jBa BK156.out 0).trans rfl,hx168_0⟩ (fun hHeld=>?_);refine jPa jq.tab10 jq.bits10 (fun HT_ HW_=>?_)
          generalize wr.drew=w24 at HO_6 BK156 HB HL168_0 HR168_0 hx168_0 hHeld ⊢
          refine pq (i:=0) (N:=some 41) #[true,false,false,false,false,false,false,false,false] ?_
          refine pq (i:=2) (N:=some 43) #[true,false,true,false,false,false,false,false,false] ?_
          refine pq (i:=3) (N:=some 44) #[true,false,true,true,false,false,false,false,false] ?_
          refine pq (i:=4) (N:=some 45) #[true,false,true,true,true,false,false,false,false] ?_
          refine jgb (i:=1) (N:=some 42) (v:=?_) (a':=?_) #[true,true,true,true,true,false,false,false,false] rfl rfl (jza HT_.out HW_.out (by kernel_rfl)) (fun _ _ _ h=>h) (Or.inl ⟨by rfl,?_⟩) hHeld ?_ ?_
          rotate_left
          ·rintro w' ⟨s0,s1⟩
           go_simp
           with_reducible rfl
          rotate_left
          ·exact sa
          refine jgb (i:=5) (N:=some 46) (v:=?_) (a':=?_) #[true,true,true,true,true,true,false,false,false] rfl rfl (jza HT_.out HW_.out (by kernel_rfl)) (fun _ _ _ h=>h) (Or.inl ⟨by rfl,?_⟩) hHeld ?_ ?_
          rotate_left
          ·rintro w' ⟨s0,s1⟩
           go_simp
           with_reducible rfl
          rotate_left
          ·exact sa
          refine one_ (i:=6) (N:=some 47) #[true,true,true,true,true,true,true,false,false] rfl rfl (one_of HT_.out (by kernel_rfl)) (by decide) (fun K hK=>?_)
          refine goes_ Tryd.func14 (by kernel_rfl) rfl #[.agg #[.slice A0_0 l0_0.length c0_0], .slice A168_0 (jqb t163 x7_1).length c168_0] (by rfl) rfl rfl (aq) ?_
          with_reducible refine (ih k1 (by have:=HK1.out;omega) _ _ l0_0 _ _ (jqb t163 x7_1) t169 _ ?side1 ?side2 ?side3 ?side4 A21.out).mono ?_
          (case side1=>exact cq (Kd.jG HR0_0.out HB.out))
          (case side2=>exact HC0_0.out)
          (case side3=>repeat (first | exact (by repeat (first |(with_reducible exact HR168_0.out) |(with_reducible refine Kd.jcb ?_ _) |(with_reducible refine Kd.jWa ?_ _) |(with_reducible refine Kd.C_drew ?_) | exact HR168_0.out)) |(with_reducible refine Kd.jcb ?_ _) |(with_reducible refine Kd.jWa ?_ _) |(with_reducible refine Kd.C_drew ?_)))
          (case side4=>exact HC168_0.out)
          rintro e w25 ⟨rfl,hb⟩
          have HS1_:=(hb.cell (World.block_lt_of_cell? _ _ (hHeld.2))).trans (hHeld.2)
          refine ⟨_,rfl,?_⟩
          replace HO_6:=am (Kd.S_below (by (with_reducible repeat (first | apply Kd.jIa | apply Kd.jHa | apply Kd.jOa));exact HO_6.out) hb)
          replace HL168_0:=am (Kd.jha (rq HL168_0.out) hb)
          replace BK156:=am (jh (g:=gb156) (o:=.cells #[.slice A0_0 l0_0.length c0_0] 31 (0,0)) (kq BK156.out) hb)
          replace HR168_0:=am (Kd.jG (by repeat (first |(with_reducible exact HR168_0.out) |(with_reducible refine Kd.jcb ?_ _) |(with_reducible refine Kd.jWa ?_ _) |(with_reducible refine Kd.C_drew ?_) | exact HR168_0.out)) hb)
          replace HB:=am (jd (Y11) hb)
          (try clear hb)
          (try clear hb2)
          (try clear hk)
          (try clear hi)
          refine hK.out _ _ ⟨(jBa BK156.out 0).trans rfl,HS1_⟩ (fun hHeld=>?_)
          clear hK K
          refine norm_ (a':=?_) ?_ ?_
          rotate_left
          ·show Act.put _ (some 47) _=_
           simp only [Act.put,List.setIfInBounds_toArray,List.set_cons_zero,List.set_cons_succ,jRa,jYa]
           rfl
          refine pq (i:=7) (N:=some 48) #[true,true,true,true,true,true,true,true,false] ?_
          refine pq (i:=8) (N:=some 5) #[true,true,true,true,true,true,true,true,true] ?_
          refine done_ (jsb HT_.out (by kernel_rfl)) ?_
          try go_wp2
          go_roundg k1
          case measure=>have:=HK1.out;omega
          case rel=>((try rw [← Nbq4.out]);exact ⟨(x5_1 ++ t169),(wrap64 (x7_1+1)),(sq),(sq),H',⟨by have:=HK1.out;omega⟩,⟨by (with_reducible repeat (first | apply Kd.jIa | apply Kd.jHa | apply Kd.jOa));exact HO_6.out⟩,⟨kq BK156.out⟩,⟨Y11⟩⟩)
         ·rw [if_neg c22] at H
          exact absurd H (by simp)
        ·rw [if_neg c20] at H
         exact absurd H (by simp)
      ·rw [if_neg c11] at H
       have c11b0:decide (x7_1<(t163.length:Int))=false:=dzF c11
       clear c11
       by_cases c26:x5_1.size+1≤9223372036854775807
       ·rw [if_pos c26] at H
        have c26b0:=ezT c26
        have c26b1:decide (x5_1.size+1≤9223372036854775807)=true:=dzT c26
        try have c26b2:(9223372036854775807<x5_1.size+1)=False:=eq_false (Nat.not_lt.2 c26)
        obtain rfl:=Option.some.inj H
        obtain ⟨Ao27,co27,eo27⟩:=Kd.S_slice HO_6.out
        subst eo27
        go_wp2
        go_ret
        exact ⟨Y1,Y11⟩
       ·rw [if_neg c26] at H
        exact absurd H (by simp)
   ·rw [if_neg c7] at H
    exact absurd H (by simp)
  ·replace c5:=Bool.eq_false_iff.mpr c5
   subst c5
   have H1:((jwa.f k l0_0 ((ja l1 0).f2) ((ja l1 0).f3)).bind fun t160=>(some t160))=some r:=by rw [if_neg (show ¬ (false=true) by decide)] at H;exact H
   clear H
   have H:=H1
   clear H1
   replace H:=bzS H
   obtain ⟨t160,A280,H⟩:=H
   replace H:(some t160)=some r:=H
   have A28:=am A280
   clear A280
   obtain rfl:=Option.some.inj H
   go_enter Tryd.func14,Tryd.ntmps14
   try go_wp2_with (first |((with_reducible refine jE (N:=2) rfl ?_);refine bE (N:=2) (cs:=#[.slice A0_0 l0_0.length c0_0]) (t:=31) ?_;intro gb156 hg w29 hbox hb;have BK156:=am (hbox);have GW156:=am ((Y0:w.heap.size≤gb156));have GE156:=am ((Y0:w.heap.size≤gb156));replace HB:=am (jd (bq) hb);clear hb hbox hg;have p157:0≤(0:Int):=(by omega);have q157:0<(l1.length:Int):=ozD (uq);obtain ⟨ad157,e157,hx157_0,hx157_1,hx157_2,hx157_3⟩:=jpa HR1.out 0 p157 q157;(try rw [← Nbq4.out] at hx157_1);cases e157;have qi157:(0<l1.length)=True:=ezT (by omega);(try rw [show ((0:Int)).toNat=0 from rfl] at hx157_0);(try rw [show 0 * 4=0 from rfl] at hx157_0);(try rw [Addr.add_zero'] at hx157_0);(try rw [show ((0:Int)).toNat=0 from rfl] at hx157_1);(try rw [show 0 * 4=0 from rfl] at hx157_1);(try rw [Addr.add_zero'] at hx157_1);(try rw [show ((0:Int)).toNat=0 from rfl] at hx157_2);(try rw [show 0 * 4=0 from rfl] at hx157_2);(try rw [Addr.add_zero'] at hx157_2);(try rw [show ((0:Int)).toNat=0 from rfl] at hx157_3);(try rw [show 0 * 4=0 from rfl] at hx157_3);(try rw [Addr.add_zero'] at hx157_3);replace hx157_0:=cb HB.out hx157_0;replace hx157_1:=cb HB.out hx157_1;replace hx157_2:=cb HB.out hx157_2;replace hx157_3:=cb HB.out hx157_3;replace p157:=ezT p157;replace q157:=ezT q157))
   replace BK156:=am (jk BK156.out)
   replace HB:=am (jv HB.out)
   have p158:0≤(0:Int):=(by omega)
   have q158:0<(l1.length:Int):=ozD (uq)
   obtain ⟨ad158,e158,hx158_0,hx158_1,hx158_2,hx158_3⟩:=jpa HR1.out 0 p158 q158
   have hw158_3:=hx158_3
   (try rw [show ((0:Int)).toNat=0 from rfl] at hw158_3)
   (try rw [show 0 * 4=0 from rfl] at hw158_3)
   (try rw [Addr.add_zero'] at hw158_3)
   have hw158_2:=hx158_2
   (try rw [show ((0:Int)).toNat=0 from rfl] at hw158_2)
   (try rw [show 0 * 4=0 from rfl] at hw158_2)
   (try rw [Addr.add_zero'] at hw158_2)
   have hw158_1:=hx158_1
   (try rw [show ((0:Int)).toNat=0 from rfl] at hw158_1)
   (try rw [show 0 * 4=0 from rfl] at hw158_1)
   (try rw [Addr.add_zero'] at hw158_1)
   have hw158_0:=hx158_0
   (try rw [show ((0:Int)).toNat=0 from rfl] at hw158_0)
   (try rw [show 0 * 4=0 from rfl] at hw158_0)
   (try rw [Addr.add_zero'] at hw158_0)
   (try rw [← Nbq4.out] at hx158_1)
   (try rw [← Nbq4.out] at hw158_1)
   obtain rfl:ad157=ad158:=(by injection e158)
   have qi158:(0<l1.length)=True:=ezT (by omega)
   (try rw [show ((0:Int)).toNat=0 from rfl] at hx158_0)
   (try rw [show 0 * 4=0 from rfl] at hx158_0)
   (try rw [Addr.add_zero'] at hx158_0)
   (try rw [show ((0:Int)).toNat=0 from rfl] at hx158_1)
   (try rw [show 0 * 4=0 from rfl] at hx158_1)
   (try rw [Addr.add_zero'] at hx158_1)
   (try rw [show ((0:Int)).toNat=0 from rfl] at hx158_2)
   (try rw [show 0 * 4=0 from rfl] at hx158_2)
   (try rw [Addr.add_zero'] at hx158_2)
   (try rw [show ((0:Int)).toNat=0 from rfl] at hx158_3)
   (try rw [show 0 * 4=0 from rfl] at hx158_3)
   (try rw [Addr.add_zero'] at hx158_3)
   replace hx158_0:=cb HB.out hx158_0
   replace hx158_1:=cb HB.out hx158_1
   replace hx158_2:=cb HB.out hx158_2
   replace hx158_3:=cb HB.out hx158_3
   replace p158:=ezT p158
   replace q158:=ezT q158
   have p159:0≤(0:Int):=(by omega)
   have q159:0<(l1.length:Int):=ozD (uq)
   obtain ⟨ad159,e159,hx159_0,hx159_1,hx159_2,hx159_3⟩:=jpa HR1.out 0 p159 q159
   have hw159_3:=hx159_3
   (try rw [show ((0:Int)).toNat=0 from rfl] at hw159_3)
   (try rw [show 0 * 4=0 from rfl] at hw159_3)
   (try rw [Addr.add_zero'] at hw159_3)
   have hw159_2:=hx159_2
   (try rw [show ((0:Int)).toNat=0 from rfl] at hw159_2)
   (try rw [show 0 * 4=0 from rfl] at hw159_2)
   (try rw [Addr.add_zero'] at hw159_2)
   have hw159_1:=hx159_1
   (try rw [show ((0:Int)).toNat=0 from rfl] at hw159_1)
   (try rw [show 0 * 4=0 from rfl] at hw159_1)
   (try rw [Addr.add_zero'] at hw159_1)
   have hw159_0:=hx159_0
   (try rw [show ((0:Int)).toNat=0 from rfl] at hw159_0)
   (try rw [show 0 * 4=0 from rfl] at hw159_0)
   (try rw [Addr.add_zero'] at hw159_0)
   (try rw [← Nbq4.out] at hx159_1)
   (try rw [← Nbq4.out] at hw159_1)
   obtain rfl:ad157=ad159:=(by injection e159)
   have qi159:(0<l1.length)=True:=ezT (by omega)
   (try rw [show ((0:Int)).toNat=0 from rfl] at hx159_0)
   (try rw [show 0 * 4=0 from rfl] at hx159_0)
   (try rw [Addr.add_zero'] at hx159_0)
   (try rw [show ((0:Int)).toNat=0 from rfl] at hx159_1)
   (try rw [show 0 * 4=0 from rfl] at hx159_1)
   (try rw [Addr.add_zero'] at hx159_1)
   (try rw [show ((0:Int)).toNat=0 from rfl] at hx159_2)
   (try rw [show 0 * 4=0 from rfl] at hx159_2)
   (try rw [Addr.add_zero'] at hx159_2)
   (try rw [show ((0:Int)).toNat=0 from rfl] at hx159_3)
   (try rw [show 0 * 4=0 from rfl] at hx159_3)
   (try rw [Addr.add_zero'] at hx159_3)
   replace hx159_0:=cb HB.out hx159_0
   replace hx159_1:=cb HB.out hx159_1
   replace hx159_2:=cb HB.out hx159_2
   replace hx159_3:=cb HB.out hx159_3
   replace p159:=ezT p159
   replace q159:=ezT q159
   refine start_ (n:=11) (S:=fun w'=>w'.cell? ⟨gb156,0,none⟩=some (.slice A0_0 l0_0.length c0_0)∧w'.cell? ad157=some (.int .i64 ((ja l1 0).f0))∧w'.cell? ⟨ad157.block,ad157.off+1,none⟩=some (.bool (false))∧w'.cell? ⟨ad157.block,ad157.off+2,none⟩=some (.int .i64 ((ja l1 0).f2))∧w'.cell? ⟨ad157.block,ad157.off+3,none⟩=some (.int .i64 ((ja l1 0).f3))∧w'.cell? ad157=some (.int .i64 ((ja l1 0).f0))∧w'.cell? ⟨ad157.block,ad157.off+1,none⟩=some (.bool (false))∧w'.cell? ⟨ad157.block,ad157.off+2,none⟩=some (.int .i64 ((ja l1 0).f2))∧w'.cell? ⟨ad157.block,ad157.off+3,none⟩=some (.int .i64 ((ja l1 0).f3))) (ds:=[]) #[false,false,false,false,false,false,false,false,false,false,false] (by kernel_rfl) rfl rfl ⟨(jBa BK156.out 0).trans rfl,((HB.out.cell (World.block_lt_of_cell? w _ hw158_0)).trans hw158_0),((HB.out.cell (World.block_lt_of_cell? w _ hw158_1)).trans hw158_1),((HB.out.cell (World.block_lt_of_cell? w _ hw158_2)).trans hw158_2),((HB.out.cell (World.block_lt_of_cell? w _ hw158_3)).trans hw158_3),((HB.out.cell (World.block_lt_of_cell? w _ hw159_0)).trans hw159_0),((HB.out.cell (World.block_lt_of_cell? w _ hw159_1)).trans hw159_1),((HB.out.cell (World.block_lt_of_cell? w _ hw159_2)).trans hw159_2),((HB.out.cell (World.block_lt_of_cell? w _ hw159_3)).trans hw159_3)⟩ (fun hHeld=>?_);refine jPa jq.tab2 jq.bits2 (fun HT_ HW_=>?_)
   generalize w29.drew=w30 at BK156 HB hx158_0 hx158_1 hx158_2 hx158_3 hx159_0 hx159_1 hx159_2 hx159_3 hHeld ⊢
   refine pq (i:=1) (N:=some 14) #[false,true,false,false,false,false,false,false,false,false,false] ?_
   refine pq (i:=2) (N:=some 15) #[false,true,true,false,false,false,false,false,false,false,false] ?_
   refine pq (i:=3) (N:=some 16) #[false,true,true,true,false,false,false,false,false,false,false] ?_
   refine pq (i:=5) (N:=some 18) #[false,true,true,true,false,true,false,false,false,false,false] ?_
   refine pq (i:=6) (N:=some 19) #[false,true,true,true,false,true,true,false,false,false,false] ?_
   refine pq (i:=7) (N:=some 20) #[false,true,true,true,false,true,true,true,false,false,false] ?_
   refine jgb (i:=0) (N:=some 13) (v:=?_) (a':=?_) #[true,true,true,true,false,true,true,true,false,false,false] rfl rfl (jza HT_.out HW_.out (by kernel_rfl)) (fun _ _ _ h=>h) (Or.inl ⟨by rfl,?_⟩) hHeld ?_ ?_
   rotate_left
   ·rintro w' ⟨s0,s1,s2,s3,s4,s5,s6,s7,s8⟩
    go_simp
    with_reducible rfl
   rotate_left
   ·exact sa
   refine jgb (i:=4) (N:=some 17) (v:=?_) (a':=?_) #[true,true,true,true,true,true,true,true,false,false,false] rfl rfl (jza HT_.out HW_.out (by kernel_rfl)) (fun _ _ _ h=>h) (Or.inl ⟨by rfl,?_⟩) hHeld ?_ ?_
   rotate_left
   ·rintro w' ⟨s0,s1,s2,s3,s4,s5,s6,s7,s8⟩
    go_simp
    with_reducible rfl
   rotate_left
   ·exact sa
   refine jgb (i:=8) (N:=some 21) (v:=?_) (a':=?_) #[true,true,true,true,true,true,true,true,true,false,false] rfl rfl (jza HT_.out HW_.out (by kernel_rfl)) (fun _ _ _ h=>h) (Or.inl ⟨by rfl,?_⟩) hHeld ?_ ?_
   rotate_left
   ·rintro w' ⟨s0,s1,s2,s3,s4,s5,s6,s7,s8⟩
    go_simp
    with_reducible rfl
   rotate_left
   ·exact sa
   refine one_ (i:=9) (N:=some 22) #[true,true,true,true,true,true,true,true,true,true,false] rfl rfl (one_of HT_.out (by kernel_rfl)) (by decide) (fun K hK=>?_)
   refine goes_ Tryd.func26 (by kernel_rfl) rfl #[.agg #[.slice A0_0 l0_0.length c0_0], .int .i64 ((ja l1 0).f2), .int .i64 ((ja l1 0).f3)] (by rfl) rfl rfl (aq) ?_
   with_reducible refine (jwa.calls k _ _ l0_0 ((ja l1 0).f2) ((ja l1 0).f3) t160 _ ?side1 ?side2 A28.out).mono ?_
   (case side1=>exact cq (Kd.jG HR0_0.out HB.out))
   (case side2=>exact HC0_0.out)
   rintro e w31 ⟨rfl,hb⟩
   refine ⟨_,rfl,?_⟩
   replace BK156:=am (jh (g:=gb156) (o:=.cells #[.slice A0_0 l0_0.length c0_0] 31 (0,0)) (kq BK156.out) hb)
   replace HB:=am (jd (Y11) hb)
   (try clear hb)
   (try clear hb2)
   (try clear hk)
   (try clear hi)
   refine hK.out _ _ ⟨(jBa BK156.out 0).trans rfl,((HB.out.cell (World.block_lt_of_cell? w _ hw158_0)).trans hw158_0),((HB.out.cell (World.block_lt_of_cell? w _ hw158_1)).trans hw158_1),((HB.out.cell (World.block_lt_of_cell? w _ hw158_2)).trans hw158_2),((HB.out.cell (World.block_lt_of_cell? w _ hw158_3)).trans hw158_3),((HB.out.cell (World.block_lt_of_cell? w _ hw159_0)).trans hw159_0),((HB.out.cell (World.block_lt_of_cell? w _ hw159_1)).trans hw159_1),((HB.out.cell (World.block_lt_of_cell? w _ hw159_2)).trans hw159_2),((HB.out.cell (World.block_lt_of_cell? w _ hw159_3)).trans hw159_3)⟩ (fun hHeld=>?_)
   clear hK K
   refine norm_ (a':=?_) ?_ ?_
   rotate_left
   ·show Act.put _ (some 22) _=_
    simp only [Act.put,List.setIfInBounds_toArray,List.set_cons_zero,List.set_cons_succ,jRa,jYa]
    rfl
   refine pq (i:=10) (N:=some 4) #[true,true,true,true,true,true,true,true,true,true,true] ?_
   refine done_ (jsb HT_.out (by kernel_rfl)) ?_
   try go_wp2
   go_ret
   exact ⟨Y1,Y11⟩
 ·rw [if_neg c3] at H
  exact absurd H (by simp)
def jsa.f (k : Nat) (l0_0 : List (S59)) (l1 : List (S42)) : Option (ByteArray) := (jc.f k l0_0 l1).bind fun t171 => (if t171 = true then ((jq.f k l0_0 l1).bind fun t172 => (some t172)) else (some (⟨#[]⟩ : ByteArray)))
set_option maxHeartbeats 8000000 in
set_option maxRecDepth 100000 in
theorem jsa.calls (k : Nat) (A0_0 : Option Addr) (c0_0 : Nat) (l0_0 : List (S59)) (A1 : Option Addr) (c1 : Nat) (l1 : List (S42)) (r : ByteArray) (w : World) (hr0_0 : Kd.C k59 w A0_0 l0_0.length l0_0) (hc0_0 : l0_0.length ≤ c0_0) (hr1 : Kd.C k42 w A1 l1.length l1) (hc1 : l1.length ≤ c1) (h : jsa.f k l0_0 l1 = some r) :
  Calls Tryd.prog 6 #[.agg #[.slice A0_0 l0_0.length c0_0], .slice A1 l1.length c1] w fun e w'=>e=.returned (.string r)∧Below w.heap.size w w':=by
 have hu31:=Tryd.underlying31
 have HR0_0:=am hr0_0
 have HC0_0:=am hc0_0
 clear hr0_0 hc0_0
 have HR1:=am hr1
 have HC1:=am hc1
 clear hr1 hc1
 have HB:=am (Below.refl w.heap.size w)
 have H:((jc.f k l0_0 l1).bind fun t171=>(if t171=true then ((jq.f k l0_0 l1).bind fun t172=>(some t172)) else (some (⟨#[]⟩:ByteArray))))=some r:=h
 clear h
 replace H:=bzS H
 obtain ⟨t171,A30,H⟩:=H
 replace H:(if t171=true then ((jq.f k l0_0 l1).bind fun t172=>(some t172)) else (some (⟨#[]⟩:ByteArray)))=some r:=H
 have A3:=am A30
 clear A30
 by_cases c4:t171=true
 ·subst c4
  have H1:((jq.f k l0_0 l1).bind fun t172=>(some t172))=some r:=by rw [if_pos rfl] at H;exact H
  clear H
  have H:=H1
  clear H1
  replace H:=bzS H
  obtain ⟨t172,A50,H⟩:=H
  replace H:(some t172)=some r:=H
  have A5:=am A50
  clear A50
  obtain rfl:=Option.some.inj H
  go_enter Tryd.func6,Tryd.ntmps6
  go_wp2_with (first |((with_reducible refine jE (N:=2) rfl ?_);refine bE (N:=2) (cs:=#[.slice A0_0 l0_0.length c0_0]) (t:=31) ?_;intro gb170 hg w6 hbox hb;have BK170:=am (hbox);have GW170:=am ((Y0:w.heap.size≤gb170));have GE170:=am ((Y0:w.heap.size≤gb170));replace HB:=am (jd (bq) hb);clear hb hbox hg;have hcz7_0:=bc0 BK170.out;have hfz7_0:=jb BK170.out 0) |((with_reducible refine jC (f:=13) rfl ?_);refine gL (some 7) Tryd.func13 #[.agg #[.slice A0_0 l0_0.length c0_0], .slice A1 l1.length c1] ?_;(with_reducible refine (jc.calls k _ _ l0_0 _ _ l1 true _ ?side1 ?side2 ?side3 ?side4 A3.out).mono ?_);(case side1=>exact cq (Kd.jG HR0_0.out HB.out));(case side2=>exact HC0_0.out);(case side3=>exact cq (Kd.jG HR1.out HB.out));(case side4=>exact HC1.out);rintro e w8 ⟨rfl,hb⟩;refine ⟨_,rfl,?_⟩;replace BK170:=am (jh (g:=gb170) (o:=.cells #[.slice A0_0 l0_0.length c0_0] 31 (0,0)) (kq BK170.out) hb);replace HB:=am (jd (Y20) hb);(try clear hb);(try clear hb2);(try clear hk);(try clear hi);have hcz9_0:=bc0 BK170.out;have hfz9_0:=jb BK170.out 0) |((with_reducible refine jC (f:=14) rfl ?_);refine gL (some 11) Tryd.func14 #[.agg #[.slice A0_0 l0_0.length c0_0], .slice A1 l1.length c1] ?_;(with_reducible refine (jq.calls k _ _ l0_0 _ _ l1 t172 _ ?side1 ?side2 ?side3 ?side4 A5.out).mono ?_);(case side1=>exact cq (Kd.jG HR0_0.out HB.out));(case side2=>exact HC0_0.out);(case side3=>exact cq (Kd.jG HR1.out HB.out));(case side4=>exact HC1.out);rintro e w10 ⟨rfl,hb⟩;refine ⟨_,rfl,?_⟩;replace BK170:=am (jh (g:=gb170) (o:=.cells #[.slice A0_0 l0_0.length c0_0] 31 (0,0)) (kq BK170.out) hb);replace HB:=am (jd (Y20) hb);(try clear hb);(try clear hb2);(try clear hk);(try clear hi)))
  go_ret
  exact ⟨Y1,Y20⟩
 ·replace c4:=Bool.eq_false_iff.mpr c4
  subst c4
  have H1:(some (⟨#[]⟩:ByteArray))=some r:=by rw [if_neg (show ¬ (false=true) by decide)] at H;exact H
  clear H
  have H:=H1
  clear H1
  obtain rfl:=Option.some.inj H
  go_enter Tryd.func6,Tryd.ntmps6
  go_wp2_with (first |((with_reducible refine jE (N:=2) rfl ?_);refine bE (N:=2) (cs:=#[.slice A0_0 l0_0.length c0_0]) (t:=31) ?_;intro gb170 hg w11 hbox hb;have BK170:=am (hbox);have GW170:=am ((Y0:w.heap.size≤gb170));have GE170:=am ((Y0:w.heap.size≤gb170));replace HB:=am (jd (bq) hb);clear hb hbox hg;have hcz12_0:=bc0 BK170.out;have hfz12_0:=jb BK170.out 0) |((with_reducible refine jC (f:=13) rfl ?_);refine gL (some 7) Tryd.func13 #[.agg #[.slice A0_0 l0_0.length c0_0], .slice A1 l1.length c1] ?_;(with_reducible refine (jc.calls k _ _ l0_0 _ _ l1 false _ ?side1 ?side2 ?side3 ?side4 A3.out).mono ?_);(case side1=>exact cq (Kd.jG HR0_0.out HB.out));(case side2=>exact HC0_0.out);(case side3=>exact cq (Kd.jG HR1.out HB.out));(case side4=>exact HC1.out);rintro e w13 ⟨rfl,hb⟩;refine ⟨_,rfl,?_⟩;replace BK170:=am (jh (g:=gb170) (o:=.cells #[.slice A0_0 l0_0.length c0_0] 31 (0,0)) (kq BK170.out) hb);replace HB:=am (jd (Y20) hb);(try clear hb);(try clear hb2);(try clear hk);(try clear hi)))
  go_ret
  exact ⟨Y1,Y20⟩
def jXa.f (a0_0 : ByteArray) (a0_1 : Int) : Option (ByteArray × Int) := some (a0_0, a0_1)
set_option maxHeartbeats 8000000 in
set_option maxRecDepth 100000 in
theorem jXa.calls (a0_0 : ByteArray) (a0_1 : Int) (r1 : ByteArray) (r2 : Int) (w : World) (h : jXa.f a0_0 a0_1 = some (r1, r2)) :
  Calls Tryd.prog 29 #[.agg #[.string a0_0, .int .i64 a0_1]] w fun e w'=>e=.returned (.agg #[.string r1, .int .i64 r2])∧Below w.heap.size w w':=by
 have hu50:=Tryd.underlying50
 have hu59:=Tryd.underlying59
 have HB:=am (Below.refl w.heap.size w)
 have H:(some (a0_0,a0_1))=some (r1,r2):=h
 clear h
 simp only [Option.some.injEq,Prod.mk.injEq] at H
 obtain ⟨rfl,rfl⟩:=H
 go_enter Tryd.func29,Tryd.ntmps29
 go_wp2_with (first |((with_reducible refine jE (N:=1) rfl ?_);refine bE (N:=1) (cs:=#[.string a0_0, .int .i64 a0_1]) (t:=50) ?_;intro gb173 hg w2 hbox hb;have BK173:=am (hbox);have GW173:=am ((Y0:w.heap.size≤gb173));have GE173:=am ((Y0:w.heap.size≤gb173));replace HB:=am (jd (bq) hb);clear hb hbox hg) |((with_reducible refine jE (N:=2) rfl ?_);refine bE (N:=2) (cs:=#[.string (⟨#[]⟩:ByteArray), .int .i64 0]) (t:=59) ?_;intro gb174 hg w3 hbox hb;have BK174:=am (hbox);have GW174:=am ((Y48:w.heap.size≤gb174));have GE174:=am ((Y48:w.heap.size≤gb174));have NB173_174:=am ((by rw [hg];exact Nat.ne_of_lt (jva (g:=gb173) (o:=.cells #[.string a0_0, .int .i64 a0_1] 50 (0,0)) (kq BK173.out)):gb173≠gb174));have NB174_173:=am ((by rw [hg];exact Nat.ne_of_gt (jva (g:=gb173) (o:=.cells #[.string a0_0, .int .i64 a0_1] 50 (0,0)) (kq BK173.out)):gb174≠gb173));replace BK173:=am (jh (g:=gb173) (o:=.cells #[.string a0_0, .int .i64 a0_1] 50 (0,0)) (kq BK173.out) hb);replace HB:=am (jd (by repeat (first |(with_reducible first | exact HB.out | apply jA | apply ji | apply jv | refine jy ?_ GE173.out) | exact HB.out)) hb);clear hb hbox hg) |((with_reducible refine jE (N:=3) rfl ?_);refine bE (N:=3) (cs:=#[.string (⟨#[]⟩:ByteArray), .int .i64 0]) (t:=59) ?_;intro gb175 hg w4 hbox hb;have BK175:=am (hbox);have GW175:=am ((Y49:w.heap.size≤gb175));have GE175:=am ((Y49:w.heap.size≤gb175));have NB173_175:=am ((by rw [hg];exact Nat.ne_of_lt (jva (g:=gb173) (o:=.cells #[.string a0_0, .int .i64 a0_1] 50 (0,0)) (kq BK173.out)):gb173≠gb175));have NB175_173:=am ((by rw [hg];exact Nat.ne_of_gt (jva (g:=gb173) (o:=.cells #[.string a0_0, .int .i64 a0_1] 50 (0,0)) (kq BK173.out)):gb175≠gb173));have NB174_175:=am ((by rw [hg];exact Nat.ne_of_lt (jva (g:=gb174) (o:=.cells #[.string (⟨#[]⟩:ByteArray), .int .i64 0] 59 (0,0)) (kq BK174.out)):gb174≠gb175));have NB175_174:=am ((by rw [hg];exact Nat.ne_of_gt (jva (g:=gb174) (o:=.cells #[.string (⟨#[]⟩:ByteArray), .int .i64 0] 59 (0,0)) (kq BK174.out)):gb175≠gb174));replace BK173:=am (jh (g:=gb173) (o:=.cells #[.string a0_0, .int .i64 a0_1] 50 (0,0)) (kq BK173.out) hb);replace BK174:=am (jh (g:=gb174) (o:=.cells #[.string (⟨#[]⟩:ByteArray), .int .i64 0] 59 (0,0)) (kq BK174.out) hb);replace HB:=am (jd (by repeat (first |(with_reducible first | exact HB.out | apply jA | apply ji | apply jv | refine jy ?_ GE173.out | refine jy ?_ GE174.out) | exact HB.out)) hb);clear hb hbox hg;have hnb5:=NB173_174.out;have hnc5:=NB174_173.out;have hnb6:=NB173_175.out;have hnc6:=NB175_173.out;have hcz7_0:=bc0 BK173.out;have hcz7_1:=bc1 BK173.out;have hfz7_0:=jb BK173.out 0;have hfz7_1:=jb BK173.out 1;have hnb8:=NB175_174.out;have hnc8:=NB174_175.out;have hcz9_0:=bc0 BK175.out;have hcz9_1:=bc1 BK175.out;have hfz9_0:=jb BK175.out 0;have hfz9_1:=jb BK175.out 1;have hcz10_0:=bc0 BK174.out;have hcz10_1:=bc1 BK174.out;have hfz10_0:=jb BK174.out 0;have hfz10_1:=jb BK174.out 1))
 refine bodyPost_ret (results_cell_row rfl _ _ gb174 59 #[.string a0_0, .int .i64 a0_1] (0,0) _ rfl (by (with_reducible repeat (first | refine jf ?_ _ | refine jk ?_ | refine jg ?_ _));refine jT (cs:=#[.string a0_0, .int .i64 0]) ?_ 1 _ rfl;(with_reducible repeat (first | refine jf ?_ _ | refine jk ?_ | refine jg ?_ _));refine jT (cs:=#[.string (⟨#[]⟩:ByteArray), .int .i64 0]) ?_ 0 _ rfl;(with_reducible repeat (first | refine jf ?_ _ | refine jk ?_ | refine jg ?_ _));refine jaa ?_ NB174_175.out _;(with_reducible repeat (first | refine jf ?_ _ | refine jk ?_ | refine jg ?_ _));refine jaa ?_ NB174_175.out _;(with_reducible repeat (first | refine jf ?_ _ | refine jk ?_ | refine jg ?_ _));exact BK174.out) Tryd.underlying59 rfl (by kernel_rfl)) rfl ?_
 exact ⟨Y1,by repeat (first |(with_reducible first | exact HB.out | apply jA | apply ji | apply jv | refine jy ?_ GE173.out | refine jy ?_ GE174.out | refine jy ?_ GE175.out) | exact HB.out)⟩
def jQ.l0 : Nat → List (S50) → List (S59) → Int → Option ((List (S59)))
 | 0,_,_,_=>none
 | k+1,x0,x3,x4=>if x4<(x0.length:Int) then (if 0≤x4 then ((jXa.f ((jLa x0 x4).f0) ((jLa x0 x4).f1)).bind fun bt180=>(if x4<(x3.length:Int) then (jQ.l0 k x0 (x3.set (x4:Int).toNat (⟨bt180.1,bt180.2⟩:S59)) (wrap64 (x4+1))) else (none))) else (none)) else (some x3)
def jQ.f (k : Nat) (l0 : List (S50)) : Option ((List (S59))) := if 0 ≤ (l0.length : Int) then (if ((l0.length : Int) : Int).toNat ≤ 11728124029610 then (jQ.l0 k l0 (List.replicate ((l0.length : Int) : Int).toNat z59) 0) else (none)) else (none)
set_option maxHeartbeats 8000000 in
set_option maxRecDepth 100000 in
theorem jQ.calls (k : Nat) (A0 : Option Addr) (c0 : Nat) (l0 : List (S50)) (r : List (S59)) (w : World) (hr0 : Kd.C k50 w A0 l0.length l0) (hc0 : l0.length ≤ c0) (h : jQ.f k l0 = some r) :
  Calls Tryd.prog 15 #[.slice A0 l0.length c0] w fun e w'=>∃ v0_:Value,e=.returned (v0_)∧Kd.R k59 59 w' w.heap.size (fun _=>True) v0_ r∧Below w.heap.size w w':=by
 have hu50:=Tryd.underlying50
 have hu59:=Tryd.underlying59
 have HR0:=am hr0
 have HC0:=am hc0
 clear hr0 hc0
 have HB:=am (Below.refl w.heap.size w)
 have H:(if 0≤(l0.length:Int) then (if ((l0.length:Int):Int).toNat≤11728124029610 then (jQ.l0 k l0 (List.replicate ((l0.length:Int):Int).toNat z59) 0) else (none)) else (none))=some r:=h
 clear h
 by_cases c2:0≤(l0.length:Int)
 ·rw [if_pos c2] at H
  have c2b0:=ezT c2
  have c2b1:decide (0≤(l0.length:Int))=true:=dzT c2
  clear c2
  by_cases c3:((l0.length:Int):Int).toNat≤11728124029610
  ·rw [if_pos c3] at H
   have c3b0:=ezT c3
   have c3b1:decide (((l0.length:Int):Int).toNat≤11728124029610)=true:=dzT c3
   clear c3
   obtain ⟨y176,hy176⟩:∃ y_:List (S59),y_=(List.replicate ((l0.length:Int):Int).toNat z59):=⟨_,rfl⟩
   replace H:(jQ.l0 k l0 y176 0)=some r:=by first |(rw [hy176];with_reducible exact H) |(have H2_:=(Option.bind_some _ _).symm.trans H;rw [hy176];with_reducible exact H2_) |(have H2_:=(Option.bind_some _ _).symm.trans H;with_reducible exact H2_) | with_reducible exact H |(rw [hy176];exact H) | exact H
   have Ny176:=am hy176
   clear hy176
   have H':=am H
   clear H
   go_enter Tryd.func15,Tryd.ntmps15
   go_wp2_with (first |((with_reducible refine jE (N:=7) rfl ?_);refine Kd.R_make k59 _ 59 rfl (N:=7) rfl 29 _ _ rfl (l0.length:Int) rfl rfl Tryd.underlying29 (.agg #[(.string ⟨#[]⟩),(.int .i64 0)]) 24 info59 rfl (by decide) (by omega) z59 (ok:=fun _=>True) (okp:=fun _=>True) (k59_mkM _ _ _ z59 ) (fun _ hk=>hk) trivial (ozD (uq)) (Nat.le_trans (Nat.mul_le_mul_right _ (ozD (uq):(l0.length:Int).toNat≤11728124029610)) (by omega)) (Below.refl _ _) (Nat.le_refl _) ?_;intro v177 w4 ho5 hb hg_ hnew_;clear hg_ hnew_;(first | rw [← Ny176.out] at ho5 |(simp only [Int.reduceToNat] at ho5;rw [← Ny176.out] at ho5));have HO178:=am (Kd.jMa ho5 (jL (bq)));replace HB:=am (jd (bq) hb);clear hb ho5))
   go_loopg [4] k (fun kq v4 w'=>∃ (x3_1:List (S59)) (x4_1:Int),v4=.int .i64 x4_1∧jH (jQ.l0 kq l0 x3_1 x4_1=some r)∧jH (kq≤k)∧jH (Kd.R k59 59 w' w.heap.size (fun _=>True) v177 x3_1)∧jH (Below w.heap.size w w'))
   case atStart=>exact ⟨(y176),(0),(sq),H',⟨Nat.le_refl _⟩,⟨rq HO178.out⟩,⟨bq⟩⟩
   case round =>
    clear H'
    try clear c1
    try clear c2
    try clear c2b0
    try clear c2b1
    try clear p2
    try clear c3
    try clear c3b0
    try clear c3b1
    obtain ⟨x3_1,x4_1,rfl,HA,HK1,HO_3,HB⟩:=hrel
    cases gk with
    | zero=>exact absurd HA.out (by simp [jQ.l0])
    | succ k1 =>
     have H:=HA.out
     clear HA
     simp only [jQ.l0] at H
     by_cases c6:x4_1<(l0.length:Int)
     ·rw [if_pos c6] at H
      have c6b0:decide (x4_1<(l0.length:Int))=true:=dzT c6
      clear c6
      by_cases c7:0≤x4_1
      ·rw [if_pos c7] at H
       have c7b0:decide (0≤x4_1)=true:=dzT c7
       clear c7
       replace H:=bzS H
       obtain ⟨⟨t180,t181⟩,A80,H⟩:=H
       replace H:(if x4_1<(x3_1.length:Int) then (jQ.l0 k1 l0 (x3_1.set (x4_1:Int).toNat (⟨t180,t181⟩:S59)) (wrap64 (x4_1+1))) else (none))=some r:=H
       have A8:=am A80
       clear A80
       by_cases c9:x4_1<(x3_1.length:Int)
       ·rw [if_pos c9] at H
        have c9b0:decide (x4_1<(x3_1.length:Int))=true:=dzT c9
        clear c9
        obtain ⟨y182,hy182⟩:∃ y_:List (S59),y_=(x3_1.set (x4_1:Int).toNat (⟨t180,t181⟩:S59)):=⟨_,rfl⟩
        replace H:(jQ.l0 k1 l0 y182 (wrap64 (x4_1+1)))=some r:=by first |(rw [hy182];with_reducible exact H) |(have H2_:=(Option.bind_some _ _).symm.trans H;rw [hy182];with_reducible exact H2_) |(have H2_:=(Option.bind_some _ _).symm.trans H;with_reducible exact H2_) | with_reducible exact H |(rw [hy182];exact H) | exact H
        have Ny182:=am hy182
        clear hy182
        have H':=am H
        clear H
        have p179:0≤(x4_1:Int):=ozD (uq)
        have q179:x4_1<(l0.length:Int):=ozD (uq)
        obtain ⟨ad179,e179,hx179_0,hx179_1⟩:=at_T50 HR0.out x4_1 p179 q179
        cases e179
        replace hx179_0:=cb HB.out hx179_0
        replace hx179_1:=cb HB.out hx179_1
        replace p179:=ezT p179
        replace q179:=ezT q179
        go_wp2_with (first |((with_reducible refine jC (f:=29) rfl ?_);refine gL (some 20) Tryd.func29 #[.agg #[.string ((jLa l0 x4_1).f0), .int .i64 ((jLa l0 x4_1).f1)]] ?_;(with_reducible refine (jXa.calls ((jLa l0 x4_1).f0) ((jLa l0 x4_1).f1) t180 t181 _ A8.out).mono ?_);rintro e w11 ⟨rfl,hb⟩;refine ⟨_,rfl,?_⟩;replace HO_3:=am (Kd.jha (rq HO_3.out) hb);replace HB:=am (jd (bq) hb);(try clear hb);(try clear hb2);(try clear hk);(try clear hi);have p10:0≤(x4_1:Int):=ozD (uq);have q10:(x4_1:Int)<((x3_1.length:Int):Int):=ozD (uq);obtain ⟨go10,co10,eo10,gb10,gl10,cl10,HG10⟩:=Kd.R_form HO_3.out (by omega);(first | cases eo10 |(injection eo10 with ea_ en_ ec_;(first | subst ea_ |(injection ea_ with ea_;subst ea_));subst ec_;clear en_));have GB10:=am gb10;have GG10:=am HG10;clear gb10 gl10 HG10;obtain ⟨ce10,hcl10,hM10,hcc10,hfr10⟩:=Kd.R_elem HO_3.out z59 (x4_1:Int) p10 q10;obtain rfl:=k59_openM hM10;have hx10_0:w11.cell? ⟨go10,(x4_1:Int).toNat * 2,none⟩=some (.string ((jB x3_1 x4_1).f0)):=hcc10 0 _ rfl;have hx10_1:w11.cell? ⟨go10,(x4_1:Int).toNat * 2+1,none⟩=some (.int .i64 ((jB x3_1 x4_1).f1)):=hcc10 1 _ rfl;have hf10_0:w11.frozen? ⟨go10,(x4_1:Int).toNat * 2,none⟩=false:=hfr10 0;have hf10_1:w11.frozen? ⟨go10,(x4_1:Int).toNat * 2+1,none⟩=false:=hfr10 1;clear hcl10 hcc10 hfr10 hM10;replace p10:=ezT p10;replace q10:=ezT q10;have HX12:=am (show Kd.R k59 59 w11 w.heap.size (fun _=>True) (.slice (some ⟨go10,0,none⟩) x3_1.length co10) x3_1 from (rq HO_3.out));obtain ⟨ce12,hcl12,hM12,hcc12,hfr12⟩:=Kd.R_elem HX12.out z59 (x4_1:Int) (ozD (uq)) (by have h_:(x4_1:Int)<((x3_1.length:Int):Int):=ozD (uq);first | exact h_ |(have e_:=(Kd.jqa HO_3.out).1;omega) | simpa using h_);obtain rfl:=k59_openM hM12;have HP12:=Kd.R_seg HX12.out (x4_1:Int) (ozD (uq)) (by have h_:(x4_1:Int)<((x3_1.length:Int):Int):=ozD (uq);first | exact h_ |(have e_:=(Kd.jqa HO_3.out).1;omega) | simpa using h_) (seg:=[.string t180, .int .i64 t181]) (j:=0) hcl12 hcc12 (show 2≤2 from by decide) (x':=(⟨t180,t181⟩:S59)) (k59_mkM _ _ _ (⟨t180,t181⟩:S59) ) (fun _ hk=>hk);have hx12_0:=hcc12 0 _ rfl;(try simp only [show (k59).sz=2 from rfl,Nat.mul_one,Nat.add_zero] at hx12_0);have hf12_0:=hfr12 0;(try simp only [show (k59).sz=2 from rfl,Nat.mul_one,Nat.add_zero] at hf12_0);have hx12_1:=hcc12 1 _ rfl;(try simp only [show (k59).sz=2 from rfl,Nat.mul_one,Nat.add_zero] at hx12_1);have hf12_1:=hfr12 1;(try simp only [show (k59).sz=2 from rfl,Nat.mul_one,Nat.add_zero] at hf12_1);clear hcl12 hcc12 hfr12 hM12) |((with_reducible refine gate_store (t:=59) (p:=21) rfl ?_);refine store_event (t:=59) (p:=21) (v:=?vo_w13) (w1:=((w11.setCell ⟨go10,(x4_1:Int).toNat * 2,none⟩ (.string t180)).setCell ⟨go10,(x4_1:Int).toNat * 2+1,none⟩ (.int .i64 t181))) ?hg ?ho ?hn ?hr ?_;(case ho=>rfl);(case hg=>rfl);(case hn=>rfl);(case hr=>exact Y6);intro w13 hw;have hg:w11.grownBy w13 (some go10):=(by rw [hw];exact HP12.2);have hp_:Kd.R k59 59 w13 w.heap.size (fun _=>True) (.slice (some ⟨go10,0,none⟩) x3_1.length co10) y182:=(by rw [hw,Ny182.out];exact HP12.1);clear HP12;replace HO_3:=am (hp_);replace HB:=am ((by rw [hw];exact jy (jy (HB.out) GB10.out) GB10.out:Below w.heap.size w w13));clear hg hw hp_))
        go_roundg k1
        case measure=>have:=HK1.out;omega
        case rel=>exact ⟨(y182),(wrap64 (x4_1+1)),(sq),H',⟨by have:=HK1.out;omega⟩,⟨rq HO_3.out⟩,⟨bq⟩⟩
       ·rw [if_neg c9] at H
        exact absurd H (by simp)
      ·rw [if_neg c7] at H
       exact absurd H (by simp)
     ·rw [if_neg c6] at H
      have c6b0:decide (x4_1<(l0.length:Int))=false:=dzF c6
      clear c6
      obtain rfl:=Option.some.inj H
      go_wp2
      go_ret
      exact ⟨_,Y1,rq HO_3.out,bq⟩
  ·rw [if_neg c3] at H
   exact absurd H (by simp)
 ·rw [if_neg c2] at H
  exact absurd H (by simp)
def jN.f (k : Nat) (l0_0 : List (S50)) : Option ((List (S59))) := (jQ.f k l0_0).bind fun t186 => (some t186)
set_option maxHeartbeats 8000000 in
set_option maxRecDepth 100000 in
theorem jN.calls (k : Nat) (A0_0 : Option Addr) (c0_0 : Nat) (l0_0 : List (S50)) (r : List (S59)) (w : World) (hr0_0 : Kd.C k50 w A0_0 l0_0.length l0_0) (hc0_0 : l0_0.length ≤ c0_0) (h : jN.f k l0_0 = some r) :
  Calls Tryd.prog 7 #[.agg #[.slice A0_0 l0_0.length c0_0]] w fun e w'=>∃ v0_:Value,e=.returned (.agg #[v0_])∧Kd.R k59 59 w' w.heap.size (fun _=>True) v0_ r∧Below w.heap.size w w':=by
 have hu24:=Tryd.underlying24
 have hu31:=Tryd.underlying31
 have HR0_0:=am hr0_0
 have HC0_0:=am hc0_0
 clear hr0_0 hc0_0
 have HB:=am (Below.refl w.heap.size w)
 have H:((jQ.f k l0_0).bind fun t186=>(some t186))=some r:=h
 clear h
 replace H:=bzS H
 obtain ⟨t186,A20,H⟩:=H
 replace H:(some t186)=some r:=H
 have A2:=am A20
 clear A20
 obtain rfl:=Option.some.inj H
 go_enter Tryd.func7,Tryd.ntmps7
 go_wp2_with (first |((with_reducible refine jE (N:=1) rfl ?_);refine bE (N:=1) (cs:=#[.slice A0_0 l0_0.length c0_0]) (t:=24) ?_;intro gb183 hg w3 hbox hb;have BK183:=am (hbox);have GW183:=am ((Y0:w.heap.size≤gb183));have GE183:=am ((Y0:w.heap.size≤gb183));replace HB:=am (jd (bq) hb);clear hb hbox hg) |((with_reducible refine jE (N:=2) rfl ?_);refine bE (N:=2) (cs:=#[.slice none 0 0]) (t:=31) ?_;intro gb184 hg w4 hbox hb;have BK184:=am (hbox);have GW184:=am ((Y50:w.heap.size≤gb184));have GE184:=am ((Y50:w.heap.size≤gb184));have NB183_184:=am ((by rw [hg];exact Nat.ne_of_lt (jva (g:=gb183) (o:=.cells #[.slice A0_0 l0_0.length c0_0] 24 (0,0)) (kq BK183.out)):gb183≠gb184));have NB184_183:=am ((by rw [hg];exact Nat.ne_of_gt (jva (g:=gb183) (o:=.cells #[.slice A0_0 l0_0.length c0_0] 24 (0,0)) (kq BK183.out)):gb184≠gb183));replace BK183:=am (jh (g:=gb183) (o:=.cells #[.slice A0_0 l0_0.length c0_0] 24 (0,0)) (kq BK183.out) hb);replace HB:=am (jd (by repeat (first |(with_reducible first | exact HB.out | apply jA | apply ji | apply jv | refine jy ?_ GE183.out) | exact HB.out)) hb);clear hb hbox hg) |((with_reducible refine jE (N:=3) rfl ?_);refine bE (N:=3) (cs:=#[.slice none 0 0]) (t:=31) ?_;intro gb185 hg w5 hbox hb;have BK185:=am (hbox);have GW185:=am ((Y51:w.heap.size≤gb185));have GE185:=am ((Y51:w.heap.size≤gb185));have NB183_185:=am ((by rw [hg];exact Nat.ne_of_lt (jva (g:=gb183) (o:=.cells #[.slice A0_0 l0_0.length c0_0] 24 (0,0)) (kq BK183.out)):gb183≠gb185));have NB185_183:=am ((by rw [hg];exact Nat.ne_of_gt (jva (g:=gb183) (o:=.cells #[.slice A0_0 l0_0.length c0_0] 24 (0,0)) (kq BK183.out)):gb185≠gb183));have NB184_185:=am ((by rw [hg];exact Nat.ne_of_lt (jva (g:=gb184) (o:=.cells #[.slice none 0 0] 31 (0,0)) (kq BK184.out)):gb184≠gb185));have NB185_184:=am ((by rw [hg];exact Nat.ne_of_gt (jva (g:=gb184) (o:=.cells #[.slice none 0 0] 31 (0,0)) (kq BK184.out)):gb185≠gb184));replace BK183:=am (jh (g:=gb183) (o:=.cells #[.slice A0_0 l0_0.length c0_0] 24 (0,0)) (kq BK183.out) hb);replace BK184:=am (jh (g:=gb184) (o:=.cells #[.slice none 0 0] 31 (0,0)) (kq BK184.out) hb);replace HB:=am (jd (by repeat (first |(with_reducible first | exact HB.out | apply jA | apply ji | apply jv | refine jy ?_ GE183.out | refine jy ?_ GE184.out) | exact HB.out)) hb);clear hb hbox hg;have hnb6:=NB183_184.out;have hnc6:=NB184_183.out;have hnb7:=NB183_185.out;have hnc7:=NB185_183.out;have hcz8_0:=bc0 BK183.out;have hfz8_0:=jb BK183.out 0) |((with_reducible refine jC (f:=15) rfl ?_);refine gL (some 6) Tryd.func15 #[.slice A0_0 l0_0.length c0_0] ?_;(with_reducible refine (jQ.calls k _ _ l0_0 t186 _ ?side1 ?side2 A2.out).mono ?_);(case side1=>exact cq (Kd.jG HR0_0.out HB.out));(case side2=>exact HC0_0.out);rintro e w9 ⟨v187,rfl,ho0,hb⟩;refine ⟨_,rfl,?_⟩;have HO188:=am (Kd.jMa ho0 (jL (Y35)));replace BK183:=am (jh (g:=gb183) (o:=.cells #[.slice A0_0 l0_0.length c0_0] 24 (0,0)) (kq BK183.out) hb);replace BK184:=am (jh (g:=gb184) (o:=.cells #[.slice none 0 0] 31 (0,0)) (kq BK184.out) hb);replace BK185:=am (jh (g:=gb185) (o:=.cells #[.slice none 0 0] 31 (0,0)) (kq BK185.out) hb);replace HB:=am (jd (Y35) hb);(try clear hb);(try clear hb2);(try clear hk);(try clear hi);(try clear ho0);obtain ⟨Ao10,co10,eo10⟩:=Kd.jVa HO188.out;subst eo10;have hnb11:=NB185_184.out;have hnc11:=NB184_185.out;have hcz12_0:=bc0 BK185.out;have hfz12_0:=jb BK185.out 0;have hcz13_0:=bc0 BK184.out;have hfz13_0:=jb BK184.out 0))
 refine bodyPost_ret (results_cell_row rfl _ _ gb184 31 #[.slice Ao10 t186.length co10] (0,0) _ rfl (by (with_reducible repeat (first | refine jf ?_ _ | refine jk ?_ | refine jg ?_ _));refine jT (cs:=#[.slice none 0 0]) ?_ 0 _ rfl;(with_reducible repeat (first | refine jf ?_ _ | refine jk ?_ | refine jg ?_ _));refine jaa ?_ NB184_185.out _;(with_reducible repeat (first | refine jf ?_ _ | refine jk ?_ | refine jg ?_ _));exact BK184.out) Tryd.underlying31 rfl (by kernel_rfl)) rfl ?_
 exact ⟨_,Y1,by (with_reducible repeat (first | apply Kd.R_alloc | apply Kd.R_drewN | apply Kd.R_drew));exact Kd.jFa (Kd.R_far (p:=⟨gb184,0,none⟩) (Kd.R_far (p:=⟨gb185,0,none⟩) (Kd.R_types (Kd.R_types HO188.out BK185.out (by decide)) BK184.out (by decide)) (fun _ hk=>hk.1.2) (.slice Ao10 t186.length co10)) (fun _ hk=>hk.2) (.slice Ao10 t186.length co10)) (fun _ hk=>trivial),Y35⟩
def jhb.f (a0_0 : Int) (a0_1 : Bool) (a0_2 : Int) (a0_3 : Int) : Option (Int × Bool × Int × Int) := some (a0_0, a0_1, a0_2, a0_3)
set_option maxHeartbeats 8000000 in
set_option maxRecDepth 100000 in
theorem jhb.calls (a0_0 : Int) (a0_1 : Bool) (a0_2 : Int) (a0_3 : Int) (r1 : Int) (r2 : Bool) (r3 : Int) (r4 : Int) (w : World) (h : jhb.f a0_0 a0_1 a0_2 a0_3 = some (r1, r2, r3, r4)) :
  Calls Tryd.prog 16 #[.agg #[.int .i64 a0_0, .bool a0_1, .int .i64 a0_2, .int .i64 a0_3]] w fun e w'=>e=.returned (.agg #[.int .i64 r1, .bool r2, .int .i64 r3, .int .i64 r4])∧Below w.heap.size w w':=by
 have hu44:=Tryd.underlying44
 have hu42:=Tryd.underlying42
 have HB:=am (Below.refl w.heap.size w)
 have H:(some (a0_0,a0_1,a0_2,a0_3))=some (r1,r2,r3,r4):=h
 clear h
 simp only [Option.some.injEq,Prod.mk.injEq] at H
 obtain ⟨rfl,rfl,rfl,rfl⟩:=H
 go_enter Tryd.func16,Tryd.ntmps16
 go_wp2_with (first |((with_reducible refine jE (N:=1) rfl ?_);refine bE (N:=1) (cs:=#[.int .i64 a0_0, .bool a0_1, .int .i64 a0_2, .int .i64 a0_3]) (t:=44) ?_;intro gb189 hg w2 hbox hb;have BK189:=am (hbox);have GW189:=am ((Y0:w.heap.size≤gb189));have GE189:=am ((Y0:w.heap.size≤gb189));replace HB:=am (jd (bq) hb);clear hb hbox hg) |((with_reducible refine jE (N:=2) rfl ?_);refine bE (N:=2) (cs:=#[.int .i64 0, .bool false, .int .i64 0, .int .i64 0]) (t:=42) ?_;intro gb190 hg w3 hbox hb;have BK190:=am (hbox);have GW190:=am ((Y52:w.heap.size≤gb190));have GE190:=am ((Y52:w.heap.size≤gb190));have NB189_190:=am ((Y53:gb189≠gb190));have NB190_189:=am ((Y54:gb190≠gb189));replace BK189:=am (jh (g:=gb189) (o:=.cells #[.int .i64 a0_0, .bool a0_1, .int .i64 a0_2, .int .i64 a0_3] 44 (0,0)) (kq BK189.out) hb);replace HB:=am (jd (by repeat (first |(with_reducible first | exact HB.out | apply jA | apply ji | apply jv | refine jy ?_ GE189.out) | exact HB.out)) hb);clear hb hbox hg) |((with_reducible refine jE (N:=3) rfl ?_);refine bE (N:=3) (cs:=#[.int .i64 0, .bool false, .int .i64 0, .int .i64 0]) (t:=42) ?_;intro gb191 hg w4 hbox hb;have BK191:=am (hbox);have GW191:=am ((Y55:w.heap.size≤gb191));have GE191:=am ((Y55:w.heap.size≤gb191));have NB189_191:=am ((Y53:gb189≠gb191));have NB191_189:=am ((Y54:gb191≠gb189));have NB190_191:=am ((by rw [hg];exact Nat.ne_of_lt (jva (g:=gb190) (o:=.cells #[.int .i64 0, .bool false, .int .i64 0, .int .i64 0] 42 (0,0)) (kq BK190.out)):gb190≠gb191));have NB191_190:=am ((by rw [hg];exact Nat.ne_of_gt (jva (g:=gb190) (o:=.cells #[.int .i64 0, .bool false, .int .i64 0, .int .i64 0] 42 (0,0)) (kq BK190.out)):gb191≠gb190));replace BK189:=am (jh (g:=gb189) (o:=.cells #[.int .i64 a0_0, .bool a0_1, .int .i64 a0_2, .int .i64 a0_3] 44 (0,0)) (kq BK189.out) hb);replace BK190:=am (jh (g:=gb190) (o:=.cells #[.int .i64 0, .bool false, .int .i64 0, .int .i64 0] 42 (0,0)) (kq BK190.out) hb);replace HB:=am (jd (by repeat (first |(with_reducible first | exact HB.out | apply jA | apply ji | apply jv | refine jy ?_ GE189.out | refine jy ?_ GE190.out) | exact HB.out)) hb);clear hb hbox hg;have hnb5:=NB189_190.out;have hnc5:=NB190_189.out;have hnb6:=NB189_191.out;have hnc6:=NB191_189.out;have hcz7_0:=bc0 BK189.out;have hcz7_1:=bc1 BK189.out;have hcz7_2:=bc2 BK189.out;have hcz7_3:=bc3 BK189.out;have hfz7_0:=jb BK189.out 0;have hfz7_1:=jb BK189.out 1;have hfz7_2:=jb BK189.out 2;have hfz7_3:=jb BK189.out 3;have hnb8:=NB191_190.out;have hnc8:=NB190_191.out;have hcz9_0:=bc0 BK191.out;have hcz9_1:=bc1 BK191.out;have hcz9_2:=bc2 BK191.out;have hcz9_3:=bc3 BK191.out;have hfz9_0:=jb BK191.out 0;have hfz9_1:=jb BK191.out 1;have hfz9_2:=jb BK191.out 2;have hfz9_3:=jb BK191.out 3;have hcz10_0:=bc0 BK190.out;have hcz10_1:=bc1 BK190.out;have hcz10_2:=bc2 BK190.out;have hcz10_3:=bc3 BK190.out;have hfz10_0:=jb BK190.out 0;have hfz10_1:=jb BK190.out 1;have hfz10_2:=jb BK190.out 2;have hfz10_3:=jb BK190.out 3))
 refine bodyPost_ret (results_cell_row rfl _ _ gb190 42 #[.int .i64 a0_0, .bool a0_1, .int .i64 a0_2, .int .i64 a0_3] (0,0) _ rfl (by (with_reducible repeat (first | refine jf ?_ _ | refine jk ?_ | refine jg ?_ _));refine jT (cs:=#[.int .i64 a0_0, .bool a0_1, .int .i64 a0_2, .int .i64 0]) ?_ 3 _ rfl;(with_reducible repeat (first | refine jf ?_ _ | refine jk ?_ | refine jg ?_ _));refine jT (cs:=#[.int .i64 a0_0, .bool a0_1, .int .i64 0, .int .i64 0]) ?_ 2 _ rfl;(with_reducible repeat (first | refine jf ?_ _ | refine jk ?_ | refine jg ?_ _));refine jT (cs:=#[.int .i64 a0_0, .bool false, .int .i64 0, .int .i64 0]) ?_ 1 _ rfl;(with_reducible repeat (first | refine jf ?_ _ | refine jk ?_ | refine jg ?_ _));refine jT (cs:=#[.int .i64 0, .bool false, .int .i64 0, .int .i64 0]) ?_ 0 _ rfl;(with_reducible repeat (first | refine jf ?_ _ | refine jk ?_ | refine jg ?_ _));refine jaa ?_ NB190_191.out _;(with_reducible repeat (first | refine jf ?_ _ | refine jk ?_ | refine jg ?_ _));refine jaa ?_ NB190_191.out _;(with_reducible repeat (first | refine jf ?_ _ | refine jk ?_ | refine jg ?_ _));refine jaa ?_ NB190_191.out _;(with_reducible repeat (first | refine jf ?_ _ | refine jk ?_ | refine jg ?_ _));refine jaa ?_ NB190_191.out _;(with_reducible repeat (first | refine jf ?_ _ | refine jk ?_ | refine jg ?_ _));exact BK190.out) Tryd.underlying42 rfl (by kernel_rfl)) rfl ?_
 exact ⟨Y1,by repeat (first |(with_reducible first | exact HB.out | apply jA | apply ji | apply jv | refine jy ?_ GE189.out | refine jy ?_ GE190.out | refine jy ?_ GE191.out) | exact HB.out)⟩
def jD.l0 : Nat → List (S44) → List (S42) → Int → Option ((List (S42)))
 | 0,_,_,_=>none
 | k+1,x0,x3,x4=>if x4<(x0.length:Int) then (if 0≤x4 then ((jhb.f ((jTa x0 x4).f0) ((jTa x0 x4).f1) ((jTa x0 x4).f2) ((jTa x0 x4).f3)).bind fun bt196=>(if x4<(x3.length:Int) then (jD.l0 k x0 (x3.set (x4:Int).toNat (⟨bt196.1,bt196.2.1,bt196.2.2.1,bt196.2.2.2⟩:S42)) (wrap64 (x4+1))) else (none))) else (none)) else (some x3)
def jD.f (k : Nat) (l0 : List (S44)) : Option ((List (S42))) := if 0 ≤ (l0.length : Int) then (if ((l0.length : Int) : Int).toNat ≤ 8796093022208 then (jD.l0 k l0 (List.replicate ((l0.length : Int) : Int).toNat z42) 0) else (none)) else (none)
set_option maxHeartbeats 8000000 in
set_option maxRecDepth 100000 in
theorem jD.calls (k : Nat) (A0 : Option Addr) (c0 : Nat) (l0 : List (S44)) (r : List (S42)) (w : World) (hr0 : Kd.C k44 w A0 l0.length l0) (hc0 : l0.length ≤ c0) (h : jD.f k l0 = some r) :
  Calls Tryd.prog 8 #[.slice A0 l0.length c0] w fun e w'=>∃ v0_:Value,e=.returned (v0_)∧Kd.R k42 42 w' w.heap.size (fun _=>True) v0_ r∧Below w.heap.size w w':=by
 have hu44:=Tryd.underlying44
 have hu42:=Tryd.underlying42
 have HR0:=am hr0
 have HC0:=am hc0
 clear hr0 hc0
 have HB:=am (Below.refl w.heap.size w)
 have H:(if 0≤(l0.length:Int) then (if ((l0.length:Int):Int).toNat≤8796093022208 then (jD.l0 k l0 (List.replicate ((l0.length:Int):Int).toNat z42) 0) else (none)) else (none))=some r:=h
 clear h
 by_cases c2:0≤(l0.length:Int)
 ·rw [if_pos c2] at H
  have c2b0:=ezT c2
  have c2b1:decide (0≤(l0.length:Int))=true:=dzT c2
  clear c2
  by_cases c3:((l0.length:Int):Int).toNat≤8796093022208
  ·rw [if_pos c3] at H
   have c3b0:=ezT c3
   have c3b1:decide (((l0.length:Int):Int).toNat≤8796093022208)=true:=dzT c3
   clear c3
   obtain ⟨y192,hy192⟩:∃ y_:List (S42),y_=(List.replicate ((l0.length:Int):Int).toNat z42):=⟨_,rfl⟩
   replace H:(jD.l0 k l0 y192 0)=some r:=by first |(rw [hy192];with_reducible exact H) |(have H2_:=(Option.bind_some _ _).symm.trans H;rw [hy192];with_reducible exact H2_) |(have H2_:=(Option.bind_some _ _).symm.trans H;with_reducible exact H2_) | with_reducible exact H |(rw [hy192];exact H) | exact H
   have Ny192:=am hy192
   clear hy192
   have H':=am H
   clear H
   go_enter Tryd.func8,Tryd.ntmps8
   go_wp2_with (first |((with_reducible refine jE (N:=7) rfl ?_);refine Kd.R_make k42 _ 42 rfl (N:=7) rfl 33 _ _ rfl (l0.length:Int) rfl rfl Tryd.underlying33 (.agg #[(.int .i64 0),(.bool false),(.int .i64 0),(.int .i64 0)]) 32 info42 rfl (by decide) (by omega) z42 (ok:=fun _=>True) (okp:=fun _=>True) (k42_mkM _ _ _ z42 ) (fun _ hk=>hk) trivial (ozD (uq)) (Nat.le_trans (Nat.mul_le_mul_right _ (ozD (uq):(l0.length:Int).toNat≤8796093022208)) (by omega)) (Below.refl _ _) (Nat.le_refl _) ?_;intro v193 w4 ho5 hb hg_ hnew_;clear hg_ hnew_;(first | rw [← Ny192.out] at ho5 |(simp only [Int.reduceToNat] at ho5;rw [← Ny192.out] at ho5));have HO194:=am (Kd.jMa ho5 (jL (bq)));replace HB:=am (jd (bq) hb);clear hb ho5))
   go_loopg [4] k (fun kq v4 w'=>∃ (x3_1:List (S42)) (x4_1:Int),v4=.int .i64 x4_1∧jH (jD.l0 kq l0 x3_1 x4_1=some r)∧jH (kq≤k)∧jH (Kd.R k42 42 w' w.heap.size (fun _=>True) v193 x3_1)∧jH (Below w.heap.size w w'))
   case atStart=>exact ⟨(y192),(0),(sq),H',⟨Nat.le_refl _⟩,⟨rq HO194.out⟩,⟨bq⟩⟩
   case round =>
    clear H'
    try clear c2
    try clear c2b0
    try clear c2b1
    try clear p2
    try clear c3
    try clear c3b0
    try clear c3b1
    obtain ⟨x3_1,x4_1,rfl,HA,HK1,HO_3,HB⟩:=hrel
    cases gk with
    | zero=>exact absurd HA.out (by simp [jD.l0])
    | succ k1 =>
     have H:=HA.out
     clear HA
     simp only [jD.l0] at H
     by_cases c6:x4_1<(l0.length:Int)
     ·rw [if_pos c6] at H
      have c6b0:decide (x4_1<(l0.length:Int))=true:=dzT c6
      clear c6
      by_cases c7:0≤x4_1
      ·rw [if_pos c7] at H
       have c7b0:decide (0≤x4_1)=true:=dzT c7
       clear c7
       replace H:=bzS H
       obtain ⟨⟨t196,t197,t198,t199⟩,A80,H⟩:=H
       replace H:(if x4_1<(x3_1.length:Int) then (jD.l0 k1 l0 (x3_1.set (x4_1:Int).toNat (⟨t196,t197,t198,t199⟩:S42)) (wrap64 (x4_1+1))) else (none))=some r:=H
       have A8:=am A80
       clear A80
       by_cases c9:x4_1<(x3_1.length:Int)
       ·rw [if_pos c9] at H
        have c9b0:decide (x4_1<(x3_1.length:Int))=true:=dzT c9
        clear c9
        obtain ⟨y200,hy200⟩:∃ y_:List (S42),y_=(x3_1.set (x4_1:Int).toNat (⟨t196,t197,t198,t199⟩:S42)):=⟨_,rfl⟩
        replace H:(jD.l0 k1 l0 y200 (wrap64 (x4_1+1)))=some r:=by first |(rw [hy200];with_reducible exact H) |(have H2_:=(Option.bind_some _ _).symm.trans H;rw [hy200];with_reducible exact H2_) |(have H2_:=(Option.bind_some _ _).symm.trans H;with_reducible exact H2_) | with_reducible exact H |(rw [hy200];exact H) | exact H
        have Ny200:=am hy200
        clear hy200
        have H':=am H
        clear H
        have p195:0≤(x4_1:Int):=ozD (uq)
        have q195:x4_1<(l0.length:Int):=ozD (uq)
        obtain ⟨ad195,e195,hx195_0,hx195_1,hx195_2,hx195_3⟩:=at_T44 HR0.out x4_1 p195 q195
        cases e195
        replace hx195_0:=cb HB.out hx195_0
        replace hx195_1:=cb HB.out hx195_1
        replace hx195_2:=cb HB.out hx195_2
        replace hx195_3:=cb HB.out hx195_3
        replace p195:=ezT p195
        replace q195:=ezT q195
        go_wp2_with (first |((with_reducible refine jC (f:=16) rfl ?_);refine gL (some 20) Tryd.func16 #[.agg #[.int .i64 ((jTa l0 x4_1).f0), .bool ((jTa l0 x4_1).f1), .int .i64 ((jTa l0 x4_1).f2), .int .i64 ((jTa l0 x4_1).f3)]] ?_;(with_reducible refine (jhb.calls ((jTa l0 x4_1).f0) ((jTa l0 x4_1).f1) ((jTa l0 x4_1).f2) ((jTa l0 x4_1).f3) t196 t197 t198 t199 _ A8.out).mono ?_);rintro e w11 ⟨rfl,hb⟩;refine ⟨_,rfl,?_⟩;replace HO_3:=am (Kd.jha (rq HO_3.out) hb);replace HB:=am (jd (bq) hb);(try clear hb);(try clear hb2);(try clear hk);(try clear hi);have p10:0≤(x4_1:Int):=ozD (uq);have q10:(x4_1:Int)<((x3_1.length:Int):Int):=ozD (uq);obtain ⟨go10,co10,eo10,gb10,gl10,cl10,HG10⟩:=Kd.R_form HO_3.out (by omega);(first | cases eo10 |(injection eo10 with ea_ en_ ec_;(first | subst ea_ |(injection ea_ with ea_;subst ea_));subst ec_;clear en_));have GB10:=am gb10;have GG10:=am HG10;clear gb10 gl10 HG10;obtain ⟨ce10,hcl10,hM10,hcc10,hfr10⟩:=Kd.R_elem HO_3.out z42 (x4_1:Int) p10 q10;obtain rfl:=k42_openM hM10;have hx10_0:w11.cell? ⟨go10,(x4_1:Int).toNat * 4,none⟩=some (.int .i64 ((ja x3_1 x4_1).f0)):=hcc10 0 _ rfl;have hx10_1:w11.cell? ⟨go10,(x4_1:Int).toNat * 4+1,none⟩=some (.bool ((ja x3_1 x4_1).f1)):=hcc10 1 _ rfl;have hx10_2:w11.cell? ⟨go10,(x4_1:Int).toNat * 4+2,none⟩=some (.int .i64 ((ja x3_1 x4_1).f2)):=hcc10 2 _ rfl;have hx10_3:w11.cell? ⟨go10,(x4_1:Int).toNat * 4+3,none⟩=some (.int .i64 ((ja x3_1 x4_1).f3)):=hcc10 3 _ rfl;have hf10_0:w11.frozen? ⟨go10,(x4_1:Int).toNat * 4,none⟩=false:=hfr10 0;have hf10_1:w11.frozen? ⟨go10,(x4_1:Int).toNat * 4+1,none⟩=false:=hfr10 1;have hf10_2:w11.frozen? ⟨go10,(x4_1:Int).toNat * 4+2,none⟩=false:=hfr10 2;have hf10_3:w11.frozen? ⟨go10,(x4_1:Int).toNat * 4+3,none⟩=false:=hfr10 3;clear hcl10 hcc10 hfr10 hM10;replace p10:=ezT p10;replace q10:=ezT q10;have HX12:=am (show Kd.R k42 42 w11 w.heap.size (fun _=>True) (.slice (some ⟨go10,0,none⟩) x3_1.length co10) x3_1 from (rq HO_3.out));obtain ⟨ce12,hcl12,hM12,hcc12,hfr12⟩:=Kd.R_elem HX12.out z42 (x4_1:Int) (ozD (uq)) (by have h_:(x4_1:Int)<((x3_1.length:Int):Int):=ozD (uq);first | exact h_ |(have e_:=(Kd.jqa HO_3.out).1;omega) | simpa using h_);obtain rfl:=k42_openM hM12;have HP12:=Kd.R_seg HX12.out (x4_1:Int) (ozD (uq)) (by have h_:(x4_1:Int)<((x3_1.length:Int):Int):=ozD (uq);first | exact h_ |(have e_:=(Kd.jqa HO_3.out).1;omega) | simpa using h_) (seg:=[.int .i64 t196, .bool t197, .int .i64 t198, .int .i64 t199]) (j:=0) hcl12 hcc12 (show 4≤4 from by decide) (x':=(⟨t196,t197,t198,t199⟩:S42)) (k42_mkM _ _ _ (⟨t196,t197,t198,t199⟩:S42) ) (fun _ hk=>hk);have hx12_0:=hcc12 0 _ rfl;(try simp only [show (k42).sz=4 from rfl,Nat.mul_one,Nat.add_zero] at hx12_0);have hf12_0:=hfr12 0;(try simp only [show (k42).sz=4 from rfl,Nat.mul_one,Nat.add_zero] at hf12_0);have hx12_1:=hcc12 1 _ rfl;(try simp only [show (k42).sz=4 from rfl,Nat.mul_one,Nat.add_zero] at hx12_1);have hf12_1:=hfr12 1;(try simp only [show (k42).sz=4 from rfl,Nat.mul_one,Nat.add_zero] at hf12_1);have hx12_2:=hcc12 2 _ rfl;(try simp only [show (k42).sz=4 from rfl,Nat.mul_one,Nat.add_zero] at hx12_2);have hf12_2:=hfr12 2;(try simp only [show (k42).sz=4 from rfl,Nat.mul_one,Nat.add_zero] at hf12_2);have hx12_3:=hcc12 3 _ rfl;(try simp only [show (k42).sz=4 from rfl,Nat.mul_one,Nat.add_zero] at hx12_3);have hf12_3:=hfr12 3;(try simp only [show (k42).sz=4 from rfl,Nat.mul_one,Nat.add_zero] at hf12_3);clear hcl12 hcc12 hfr12 hM12) |((with_reducible refine gate_store (t:=42) (p:=21) rfl ?_);refine store_event (t:=42) (p:=21) (v:=?vo_w13) (w1:=((((w11.setCell ⟨go10,(x4_1:Int).toNat * 4,none⟩ (.int .i64 t196)).setCell ⟨go10,(x4_1:Int).toNat * 4+1,none⟩ (.bool t197)).setCell ⟨go10,(x4_1:Int).toNat * 4+2,none⟩ (.int .i64 t198)).setCell ⟨go10,(x4_1:Int).toNat * 4+3,none⟩ (.int .i64 t199))) ?hg ?ho ?hn ?hr ?_;(case ho=>rfl);(case hg=>rfl);(case hn=>rfl);(case hr=>exact Y6);intro w13 hw;have hg:w11.grownBy w13 (some go10):=(by rw [hw];exact HP12.2);have hp_:Kd.R k42 42 w13 w.heap.size (fun _=>True) (.slice (some ⟨go10,0,none⟩) x3_1.length co10) y200:=(by rw [hw,Ny200.out];exact HP12.1);clear HP12;replace HO_3:=am (hp_);replace HB:=am ((by rw [hw];exact jy (jy (jy (jy (HB.out) GB10.out) GB10.out) GB10.out) GB10.out:Below w.heap.size w w13));clear hg hw hp_))
        go_roundg k1
        case measure=>have:=HK1.out;omega
        case rel=>exact ⟨(y200),(wrap64 (x4_1+1)),(sq),H',⟨by have:=HK1.out;omega⟩,⟨rq HO_3.out⟩,⟨bq⟩⟩
       ·rw [if_neg c9] at H
        exact absurd H (by simp)
      ·rw [if_neg c7] at H
       exact absurd H (by simp)
     ·rw [if_neg c6] at H
      have c6b0:decide (x4_1<(l0.length:Int))=false:=dzF c6
      clear c6
      obtain rfl:=Option.some.inj H
      go_wp2
      go_ret
      exact ⟨_,Y1,rq HO_3.out,bq⟩
  ·rw [if_neg c3] at H
   exact absurd H (by simp)
 ·rw [if_neg c2] at H
  exact absurd H (by simp)
def jI.f (a0 : Int) (a1 : Int) (a2 : Int) : Option (Bool) := if a0 ≥ a1 then (some (decide (a0 ≤ a2))) else (some false)
set_option maxHeartbeats 8000000 in
set_option maxRecDepth 100000 in
theorem jI.calls (a0 : Int) (a1 : Int) (a2 : Int) (r : Bool) (w : World) (h : jI.f a0 a1 a2 = some r) :
  Calls Tryd.prog 42 #[.int .i64 a0, .int .i64 a1, .int .i64 a2] w fun e w'=>e=.returned (.bool r)∧jCa w w':=by
 have H:(if a0≥a1 then (some (decide (a0≤a2))) else (some false))=some r:=h
 clear h
 by_cases c4:a0≥a1
 ·rw [if_pos c4] at H
  have c4b0:decide (a1≤a0)=true:=dzT c4
  clear c4
  obtain rfl:=Option.some.inj H
  go_enter Tryd.func42,Tryd.ntmps42
  go_wp2
  go_ret
  exact ⟨sq,Y2⟩
 ·rw [if_neg c4] at H
  have c4b0:decide (a1≤a0)=false:=dzF c4
  clear c4
  obtain rfl:=Option.some.inj H
  go_enter Tryd.func42,Tryd.ntmps42
  go_wp2
  go_ret
  exact ⟨sq,Y2⟩
def jfa.l0 : Nat → ByteArray → Int → Int → Option (Bool)
 | 0,_,_,_=>none
 | k+1,x0,x5,x6=>if x6<x5 then (if 0≤x6 then (if x6<(x0.size:Int) then (if (bt x0 x6)<97 then (some false) else (if (bt x0 x6) > 122 then (some false) else (jfa.l0 k x0 x5 (wrap64 (x6+1))))) else (none)) else (none)) else ((jI.f (x0.size:Int) 1 6).bind fun t201=>(some t201))
def jfa.f (k : Nat) (a0 : ByteArray) : Option (Bool) := jfa.l0 k a0 (a0.size : Int) 0
set_option maxHeartbeats 8000000 in
set_option maxRecDepth 100000 in
theorem jfa.calls (k : Nat) (a0 : ByteArray) (r : Bool) (w : World) (h : jfa.f k a0 = some r) :
  Calls Tryd.prog 40 #[.string a0] w fun e w'=>e=.returned (.bool r)∧jCa w w':=by
 have H:(jfa.l0 k a0 (a0.size:Int) 0)=some r:=h
 clear h
 have H':=am H
 clear H
 go_enter Tryd.func40,Tryd.ntmps40
 go_wp2
 go_loopg [6] k (fun kq v6 w'=>∃ (x6_1:Int),v6=.int .i64 x6_1∧jH (jfa.l0 kq a0 (a0.size:Int) x6_1=some r)∧jH (kq≤k)∧jCa w w')
 case atStart=>exact ⟨(0),(sq),H',⟨Nat.le_refl _⟩,Y2⟩
 case round =>
  clear H'
  obtain ⟨x6_1,rfl,HA,HK1,⟨m1,rfl⟩⟩:=hrel
  cases gk with
  | zero=>exact absurd HA.out (by simp [jfa.l0])
  | succ k1 =>
   have H:=HA.out
   clear HA
   simp only [jfa.l0] at H
   by_cases c2:x6_1<(a0.size:Int)
   ·rw [if_pos c2] at H
    have c2b0:decide (x6_1<(a0.size:Int))=true:=dzT c2
    clear c2
    by_cases c3:0≤x6_1
    ·rw [if_pos c3] at H
     have c3b0:decide (0≤x6_1)=true:=dzT c3
     clear c3
     by_cases c4:x6_1<(a0.size:Int)
     ·rw [if_pos c4] at H
      have c4b0:decide (x6_1<(a0.size:Int))=true:=dzT c4
      clear c4
      by_cases c6:(bt a0 x6_1)<97
      ·rw [if_pos c6] at H
       have c6b0:decide ((bt a0 x6_1)<97)=true:=dzT c6
       clear c6
       obtain rfl:=Option.some.inj H
       have p5:0≤(x6_1:Int):=ozD (uq)
       have q5:x6_1<(a0.size:Int):=ozD (uq)
       have hx5:=bt_at a0 x6_1
       replace p5:=ezT p5
       replace q5:=ezT q5
       go_wp2
       go_ret
       exact ⟨sq,Y2⟩
      ·rw [if_neg c6] at H
       have c6b0:decide ((bt a0 x6_1)<97)=false:=dzF c6
       clear c6
       by_cases c8:(bt a0 x6_1) > 122
       ·rw [if_pos c8] at H
        have c8b0:decide (122<(bt a0 x6_1))=true:=dzT c8
        clear c8
        obtain rfl:=Option.some.inj H
        have p5:0≤(x6_1:Int):=ozD (uq)
        have q5:x6_1<(a0.size:Int):=ozD (uq)
        have hx5:=bt_at a0 x6_1
        replace p5:=ezT p5
        replace q5:=ezT q5
        have p7:0≤(x6_1:Int):=ozD (uq)
        have q7:x6_1<(a0.size:Int):=ozD (uq)
        have hx7:=bt_at a0 x6_1
        replace p7:=ezT p7
        replace q7:=ezT q7
        go_wp2
        go_ret
        exact ⟨sq,Y2⟩
       ·rw [if_neg c8] at H
        have c8b0:decide (122<(bt a0 x6_1))=false:=dzF c8
        clear c8
        have H':=am H
        clear H
        have p5:0≤(x6_1:Int):=ozD (uq)
        have q5:x6_1<(a0.size:Int):=ozD (uq)
        have hx5:=bt_at a0 x6_1
        replace p5:=ezT p5
        replace q5:=ezT q5
        have p7:0≤(x6_1:Int):=ozD (uq)
        have q7:x6_1<(a0.size:Int):=ozD (uq)
        have hx7:=bt_at a0 x6_1
        replace p7:=ezT p7
        replace q7:=ezT q7
        go_wp2
        go_roundg k1
        case measure=>have:=HK1.out;omega
        case rel=>exact ⟨(wrap64 (x6_1+1)),(sq),H',⟨by have:=HK1.out;omega⟩,Y2⟩
     ·rw [if_neg c4] at H
      exact absurd H (by simp)
    ·rw [if_neg c3] at H
     exact absurd H (by simp)
   ·rw [if_neg c2] at H
    have c2b0:decide (x6_1<(a0.size:Int))=false:=dzF c2
    clear c2
    replace H:=bzS H
    obtain ⟨t201,A90,H⟩:=H
    replace H:(some t201)=some r:=H
    have A9:=am A90
    clear A90
    obtain rfl:=Option.some.inj H
    go_wp2_with (first |((with_reducible refine jC (f:=42) rfl ?_);refine gL (some 22) Tryd.func42 #[.int .i64 (a0.size:Int), .int .i64 1, .int .i64 6] ?_;(with_reducible refine (jI.calls (a0.size:Int) 1 6 t201 _ A9.out).mono ?_);rintro e w' ⟨rfl,⟨nd,rfl⟩⟩;refine ⟨_,rfl,?_⟩))
    go_ret
    exact ⟨sq,Y2⟩

theorem impl_named1_calls (a b : ByteArray) (p : Int) (B : Nat) (w : World) (hB : B < w.heap.size) (hc : w.cell? ⟨B, 0, none⟩ = some (.string b)) :
  Calls Tryd.prog 53 #[.agg #[.string a, .int .i64 p], .pointer (some ⟨B,0,none⟩)] w fun e w'=>e=.returned (.bool (a.toList == b.toList))∧Below w.heap.size w w':=by
 have hne:B≠w.heap.size:=by omega
 go_enter Tryd.func53,Tryd.ntmps53
 go_wp2
 go_ret
 exact ⟨rfl,(Below.refl _ _).alloc (Nat.le_refl _) _⟩
set_option maxHeartbeats 8000000 in
set_option maxRecDepth 100000 in
theorem impl_named_idx (A_ : Option Addr) (c_ : Nat) (l : List (S59)) (B0_ : Nat) (p : S59 → Option Bool) (r : Int) (w : World) (hr : Kd.C k59 w A_ l.length l) (h : idxFrom p l 0 = some r)
  (hp:∀ W,Below w.heap.size w W→∀ (x:S59) (b:Bool),p x=some b→Calls Tryd.prog 53 #[.agg #[.string x.f0, .int .i64 x.f1], .pointer (some ⟨B0_,0,none⟩)] W fun e w'=>e=.returned (.bool b)∧Below W.heap.size W w') :
  Calls Tryd.prog 52 #[.slice A_ l.length c_, .func (.func 53) #[] #[.pointer (some ⟨B0_,0,none⟩)]] w fun e w'=>e=.returned (.int .i64 r)∧Below w.heap.size w w':=by
 have hm:l.length≤9223372036854775807:=Kd.C_max hr
 have HR:=am hr
 have HP:=am hp
 have H0:=am h
 clear hr hp h
 go_enter Tryd.func52,Tryd.ntmps52
 go_wp2
 go_loopw [5,8] (fun i5 i8 wr=>∃ k:Nat,k≤l.length∧i8=.int .i64 k∧jH (idxFrom p (l.drop k) k=some r)∧Below w.heap.size w wr) (fun _ i8 _=>l.length - (intOf i8).toNat)
 case atStart=>exact ⟨0,Nat.zero_le _,rfl,H0,Below.refl _ _⟩
 case round =>
  clear H0
  obtain ⟨k,hk,rfl,HA,hb⟩:=hrel
  by_cases hlt:k<l.length
  ·have HB:=am (idxFrom_step hlt HA.out)
   clear HA
   obtain ⟨ad,rfl,hx0,hx1⟩:=jjb HR.out (k:Int) (by omega) (by omega)
   have hrd:jB l (k:Int)=l[k]:=by simp [jB,List.getD_eq_getElem?_getD,hlt]
   replace hx0:=jKa hb hx0
   replace hx1:=jKa hb hx1
   rw [hrd] at hx0 hx1
   simp only [Int.toNat_natCast] at hx0 hx1
   clear hrd
   obtain ⟨b,hb1,hb0⟩:=HB.out
   have HQ:=am hb1
   clear hb1 HB
   cases b with
   | true =>
    have HZ:=am (by simpa using hb0:(k:Int)=r)
    clear hb0
    go_wp2_with (go_at_call 53;refine (HP.out _ hb _ _ HQ.out).mono ?_;rintro e w' ⟨rfl,hb2⟩)
    go_ret
    exact ⟨by rw [← HZ.out];rfl,below_then hb hb.size hb2⟩
   | false =>
    have HZ:=am (by simpa using hb0:idxFrom p (l.drop (k+1)) (k+1)=some r)
    clear hb0
    go_wp2_with (go_at_call 53;refine (HP.out _ hb _ _ HQ.out).mono ?_;rintro e w' ⟨rfl,hb2⟩)
    go_roundw
    case rel=>exact ⟨k+1,hlt,by go_num,HZ,below_then hb hb.size hb2⟩
    case measure=>simp [intOf];omega
  ·have HZ:=am (idxFrom_end (by omega) HA.out)
   clear HA
   go_wp2
   go_ret
   exact ⟨by rw [HZ.out];rfl,hb⟩
def jma.f (l0_0 : List S59) (a1 : ByteArray) : Option Int := idxFrom (fun x : S59 => some (x.f0.toList == a1.toList)) l0_0 0
set_option maxHeartbeats 8000000 in
set_option maxRecDepth 100000 in
theorem jma.calls (A0_0 : Option Addr) (c0_0 : Nat) (l0_0 : List (S59)) (a1 : ByteArray) (r : Int) (w : World) (hr0_0 : Kd.C k59 w A0_0 l0_0.length l0_0) (hc0_0 : l0_0.length ≤ c0_0) (h : jma.f l0_0 a1 = some r) :
  Calls Tryd.prog 41 #[.agg #[.slice A0_0 l0_0.length c0_0], .string a1] w fun e w'=>e=.returned (.int .i64 r)∧Below w.heap.size w w':=by
 have hu31:=Tryd.underlying31
 have HF:=am (fun W (hb:Below w.heap.size w W) (B:Nat) (hB:B<W.heap.size) (hc:W.cell? ⟨B,0,none⟩=some (.string a1))=>impl_named_idx A0_0 c0_0 l0_0 B (fun x:S59=>some (x.f0.toList == a1.toList)) r W (Kd.jG hr0_0 hb) h (fun W' hb' x b hx=>by
  obtain rfl:=Option.some.inj hx
  exact impl_named1_calls x.f0 a1 x.f1 B W' (Nat.lt_of_lt_of_le hB hb'.size) (jKa hb' hc)))
 clear h hr0_0
 go_enter Tryd.func41,Tryd.ntmps41
 go_wp2_with (go_at_call 52;refine (HF.out _ (((Below.refl _ _).alloc (Nat.le_refl _) _).alloc (by simp) _) _ (by simp) (by simp)).mono ?_;rintro e w' ⟨rfl,hb2⟩)
 go_ret
 exact ⟨rfl,(((Below.refl _ _).alloc (Nat.le_refl _) _).alloc (by simp) _).trans (hb2.mono (by simp;omega))⟩
mutual
def jm.l0 : Nat → List (S59) → Int → Int → List (S59) → Option (Bool)
 | 0,_,_,_,_=>none
 | k+1,x6,x7,x8,x203000=>if x8<x7 then (if 0≤x8 then (if x8<(x6.length:Int) then ((jfa.f k ((jB x6 x8).f0)).bind fun t206=>(if t206=true then ((jma.f x203000 ((jB x6 x8).f0)).bind fun t207=>(if t207=x8 then (if x8=0 then (if ((jB x6 x8).f1)=(-1) then (if x8 > 0 then ((jI.f ((jB x6 x8).f1) 0 (wrap64 (x8 - 1))).bind fun t208=>(jm.j1 k x6 x7 x8 (!t208) x203000)) else (jm.j1 k x6 x7 x8 false x203000)) else (jm.j1 k x6 x7 x8 true x203000)) else (if x8 > 0 then ((jI.f ((jB x6 x8).f1) 0 (wrap64 (x8 - 1))).bind fun t209=>(jm.j1 k x6 x7 x8 (!t209) x203000)) else (jm.j1 k x6 x7 x8 false x203000))) else (jm.j1 k x6 x7 x8 true x203000))) else (jm.j1 k x6 x7 x8 true x203000))) else (none)) else (none)) else ((jI.f (x203000.length:Int) 1 8).bind fun t203=>(some t203))
def jm.j1 : Nat → List (S59) → Int → Int → Bool → List (S59) → Option (Bool)
 | 0,_,_,_,_,_=>none
 | k+1,x6,x7,x8,x45,x203000=>if x45=true then (some false) else (jm.l0 k x6 x7 (wrap64 (x8+1)) x203000)
end
def jm.f (k : Nat) (l0_0 : List (S59)) : Option (Bool) := jm.l0 k l0_0 (l0_0.length : Int) 0 l0_0
set_option maxHeartbeats 8000000 in
set_option maxRecDepth 100000 in
theorem jm.calls (k : Nat) (A0_0 : Option Addr) (c0_0 : Nat) (l0_0 : List (S59)) (r : Bool) (w : World) (hr0_0 : Kd.C k59 w A0_0 l0_0.length l0_0) (hc0_0 : l0_0.length ≤ c0_0) (h : jm.f k l0_0 = some r) :
  Calls Tryd.prog 30 #[.agg #[.slice A0_0 l0_0.length c0_0]] w fun e w'=>e=.returned (.bool r)∧Below w.heap.size w w':=by
 have hu31:=Tryd.underlying31
 have hu59:=Tryd.underlying59
 have HR0_0:=am hr0_0
 have HC0_0:=am hc0_0
 clear hr0_0 hc0_0
 have HB:=am (Below.refl w.heap.size w)
 have H:(jm.l0 k l0_0 (l0_0.length:Int) 0 l0_0)=some r:=h
 clear h
 have H':=am H
 clear H
 go_enter Tryd.func30,Tryd.ntmps30
 go_wp2_with (first |((with_reducible refine jE (N:=1) rfl ?_);refine bE (N:=1) (cs:=#[.slice A0_0 l0_0.length c0_0]) (t:=31) ?_;intro gb202 hg w2 hbox hb;have BK202:=am (hbox);have GW202:=am ((Y0:w.heap.size≤gb202));have GE202:=am ((Y0:w.heap.size≤gb202));replace HB:=am (jd (bq) hb);clear hb hbox hg;have hcz3_0:=bc0 BK202.out;have hfz3_0:=jb BK202.out 0))
 go_loopg [8] k (fun kq v8 w'=>∃ (x8_1:Int),v8=.int .i64 x8_1∧jH (jm.l0 kq l0_0 (l0_0.length:Int) x8_1 l0_0=some r)∧jH (kq≤k)∧jH (w'.heap[gb202]?=some (.cells #[(.slice A0_0 l0_0.length c0_0)] 31 (0,0)))∧jH (Below w.heap.size w w'))
 case atStart=>exact ⟨(0),(sq),H',⟨Nat.le_refl _⟩,⟨kq BK202.out⟩,⟨Y36⟩⟩
 case round =>
  clear H'
  try clear p2
  try clear c3
  try clear hcz3_0
  try clear hfz3_0
  obtain ⟨x8_1,rfl,HA,HK1,BK202,HB⟩:=hrel
  cases gk with
  | zero=>exact absurd HA.out (by simp [jm.l0])
  | succ k1 =>
   have H:=HA.out
   clear HA
   simp only [jm.l0] at H
   by_cases c4:x8_1<(l0_0.length:Int)
   ·rw [if_pos c4] at H
    have c4b0:decide (x8_1<(l0_0.length:Int))=true:=dzT c4
    clear c4
    by_cases c5:0≤x8_1
    ·rw [if_pos c5] at H
     have c5b0:decide (0≤x8_1)=true:=dzT c5
     clear c5
     by_cases c6:x8_1<(l0_0.length:Int)
     ·rw [if_pos c6] at H
      have c6b0:decide (x8_1<(l0_0.length:Int))=true:=dzT c6
      clear c6
      have HC7:=am H
      clear H
      have p204:0≤(x8_1:Int):=ozD (uq)
      have q204:x8_1<(l0_0.length:Int):=ozD (uq)
      obtain ⟨ad204,e204,hx204_0,hx204_1⟩:=jjb HR0_0.out x8_1 p204 q204
      cases e204
      replace hx204_0:=cb HB.out hx204_0
      replace hx204_1:=cb HB.out hx204_1
      replace p204:=ezT p204
      replace q204:=ezT q204
      go_upto_region 4 with (first |((with_reducible refine jE (N:=4) rfl ?_);refine bE (N:=4) (cs:=#[.string (⟨#[]⟩:ByteArray), .int .i64 0]) (t:=59) ?_;intro gb205 hg w8 hbox hb;have BK205:=am (hbox);have GW205:=am ((Y56:w.heap.size≤gb205));have GE205:=am ((Y56:w.heap.size≤gb205));have NB202_205:=am ((by rw [hg];exact Nat.ne_of_lt (jva (g:=gb202) (o:=.cells #[.slice (some ad204) l0_0.length c0_0] 31 (0,0)) (kq BK202.out)):gb202≠gb205));have NB205_202:=am ((by rw [hg];exact Nat.ne_of_gt (jva (g:=gb202) (o:=.cells #[.slice (some ad204) l0_0.length c0_0] 31 (0,0)) (kq BK202.out)):gb205≠gb202));replace BK202:=am (jh (g:=gb202) (o:=.cells #[.slice (some ad204) l0_0.length c0_0] 31 (0,0)) (kq BK202.out) hb);replace HB:=am (jd (Y36) hb);clear hb hbox hg;have hnb9:=NB205_202.out;have hnc9:=NB202_205.out;have hcz10_0:=bc0 BK205.out;have hcz10_1:=bc1 BK205.out;have hfz10_0:=jb BK205.out 0;have hfz10_1:=jb BK205.out 1))
      (try simp only [Act.put,List.setIfInBounds_toArray,List.set_cons_zero,List.set_cons_succ])
      go_cut [45] (fun v45 wc=>∃ (kq:Nat) (x45_6:Bool),v45=.bool x45_6∧jH (jm.j1 kq l0_0 (l0_0.length:Int) x8_1 x45_6 l0_0=some r)∧jH (kq≤k1)∧jH (wc.heap[gb202]?=some (.cells #[(.slice (some ad204) l0_0.length c0_0)] 31 (0,0)))∧jH (wc.heap[gb205]?=some (.cells #[.string ((jB l0_0 x8_1).f0), .int .i64 ((jB l0_0 x8_1).f1)] 59 (0,0)))∧jH (Below w.heap.size w wc))
      case first =>
       have H:=HC7.out
       clear HC7
       replace H:=bzS H
       obtain ⟨t206,A110,H⟩:=H
       replace H:(if t206=true then ((jma.f l0_0 ((jB l0_0 x8_1).f0)).bind fun t207=>(if t207=x8_1 then (if x8_1=0 then (if ((jB l0_0 x8_1).f1)=(-1) then (if x8_1 > 0 then ((jI.f ((jB l0_0 x8_1).f1) 0 (wrap64 (x8_1 - 1))).bind fun t208=>(jm.j1 k1 l0_0 (l0_0.length:Int) x8_1 (!t208) l0_0)) else (jm.j1 k1 l0_0 (l0_0.length:Int) x8_1 false l0_0)) else (jm.j1 k1 l0_0 (l0_0.length:Int) x8_1 true l0_0)) else (if x8_1 > 0 then ((jI.f ((jB l0_0 x8_1).f1) 0 (wrap64 (x8_1 - 1))).bind fun t209=>(jm.j1 k1 l0_0 (l0_0.length:Int) x8_1 (!t209) l0_0)) else (jm.j1 k1 l0_0 (l0_0.length:Int) x8_1 false l0_0))) else (jm.j1 k1 l0_0 (l0_0.length:Int) x8_1 true l0_0))) else (jm.j1 k1 l0_0 (l0_0.length:Int) x8_1 true l0_0))=some r:=H
       have A11:=am A110
       clear A110
       by_cases c12:t206=true
       ·subst c12
        have H1:((jma.f l0_0 ((jB l0_0 x8_1).f0)).bind fun t207=>(if t207=x8_1 then (if x8_1=0 then (if ((jB l0_0 x8_1).f1)=(-1) then (if x8_1 > 0 then ((jI.f ((jB l0_0 x8_1).f1) 0 (wrap64 (x8_1 - 1))).bind fun t208=>(jm.j1 k1 l0_0 (l0_0.length:Int) x8_1 (!t208) l0_0)) else (jm.j1 k1 l0_0 (l0_0.length:Int) x8_1 false l0_0)) else (jm.j1 k1 l0_0 (l0_0.length:Int) x8_1 true l0_0)) else (if x8_1 > 0 then ((jI.f ((jB l0_0 x8_1).f1) 0 (wrap64 (x8_1 - 1))).bind fun t209=>(jm.j1 k1 l0_0 (l0_0.length:Int) x8_1 (!t209) l0_0)) else (jm.j1 k1 l0_0 (l0_0.length:Int) x8_1 false l0_0))) else (jm.j1 k1 l0_0 (l0_0.length:Int) x8_1 true l0_0)))=some r:=by rw [if_pos rfl] at H;exact H
        clear H
        have H:=H1
        clear H1
        replace H:=bzS H
        obtain ⟨t207,A130,H⟩:=H
        replace H:(if t207=x8_1 then (if x8_1=0 then (if ((jB l0_0 x8_1).f1)=(-1) then (if x8_1 > 0 then ((jI.f ((jB l0_0 x8_1).f1) 0 (wrap64 (x8_1 - 1))).bind fun t208=>(jm.j1 k1 l0_0 (l0_0.length:Int) x8_1 (!t208) l0_0)) else (jm.j1 k1 l0_0 (l0_0.length:Int) x8_1 false l0_0)) else (jm.j1 k1 l0_0 (l0_0.length:Int) x8_1 true l0_0)) else (if x8_1 > 0 then ((jI.f ((jB l0_0 x8_1).f1) 0 (wrap64 (x8_1 - 1))).bind fun t209=>(jm.j1 k1 l0_0 (l0_0.length:Int) x8_1 (!t209) l0_0)) else (jm.j1 k1 l0_0 (l0_0.length:Int) x8_1 false l0_0))) else (jm.j1 k1 l0_0 (l0_0.length:Int) x8_1 true l0_0))=some r:=H
        have A13:=am A130
        clear A130
        by_cases c14:t207=x8_1
        ·rw [if_pos c14] at H
         have c14b0:(t207 == x8_1)=true:=beq_iff_eq.mpr c14
         have c14b1:(t207 != x8_1)=false:=bne_eq_false_iff_eq.mpr c14
         clear c14
         (first | rw [c14b0] |(simp only [jRa,jYa];rw [c14b0]) | skip)
         by_cases c15:x8_1=0
         ·rw [if_pos c15] at H
          have c15b0:(x8_1 == 0)=true:=beq_iff_eq.mpr c15
          have c15b1:(x8_1 != 0)=false:=bne_eq_false_iff_eq.mpr c15
          clear c15
          by_cases c16:((jB l0_0 x8_1).f1)=(-1)
          ·rw [if_pos c16] at H
           have c16b0:(((jB l0_0 x8_1).f1) == (-1))=true:=beq_iff_eq.mpr c16
           have c16b1:(((jB l0_0 x8_1).f1) != (-1))=false:=bne_eq_false_iff_eq.mpr c16
           clear c16
           by_cases c17:x8_1 > 0
           ·rw [if_pos c17] at H
            have c17b0:decide (0<x8_1)=true:=dzT c17
            clear c17
            replace H:=bzS H
            obtain ⟨t208,A180,H⟩:=H
            replace H:(jm.j1 k1 l0_0 (l0_0.length:Int) x8_1 (!t208) l0_0)=some r:=H
            have A18:=am A180
            clear A180
            have H':=am H
            clear H
            have hnb19:=NB205_202.out
            have hnc19:=NB202_205.out
            have hcz20_0:=bc0 BK205.out
            have hcz20_1:=bc1 BK205.out
            have hfz20_0:=jb BK205.out 0
            have hfz20_1:=jb BK205.out 1
            go_wp2_with (first |((with_reducible refine jC (f:=40) rfl ?_);refine gL (some 15) Tryd.func40 #[.string ((jB l0_0 x8_1).f0)] ?_;(with_reducible refine (jfa.calls k1 ((jB l0_0 x8_1).f0) true _ A11.out).mono ?_);rintro e w' ⟨rfl,⟨nd,rfl⟩⟩;refine ⟨_,rfl,?_⟩;have hcz21_0:=bc0 BK202.out;have hfz21_0:=jb BK202.out 0) |(go_at_call 41;(with_reducible refine (jma.calls _ _ l0_0 ((jB l0_0 x8_1).f0) t207 _ ?side1 ?side2 A13.out).mono ?_);(case side1=>exact Kd.jG HR0_0.out (Y5));(case side2=>exact HC0_0.out);rintro e w22 ⟨rfl,hb⟩;replace BK202:=am (jh (g:=gb202) (o:=.cells #[.slice (some ad204) l0_0.length c0_0] 31 (0,0)) (Y16) hb);replace BK205:=am (jh (g:=gb205) (o:=.cells #[.string ((jB l0_0 x8_1).f0), .int .i64 ((jB l0_0 x8_1).f1)] 59 (0,0)) (Y17) hb);replace HB:=am (jd (Y5) hb);(try clear hb);(try clear hb2);(try clear hk);(try clear hi);have hcz23_0:=bc0 BK205.out;have hcz23_1:=bc1 BK205.out;have hfz23_0:=jb BK205.out 0;have hfz23_1:=jb BK205.out 1) |(go_at_call 42;(with_reducible refine (jI.calls ((jB l0_0 x8_1).f1) 0 (wrap64 (x8_1 - 1)) t208 _ A18.out).mono ?_);rintro e w' ⟨rfl,⟨nd,rfl⟩⟩))
            go_meet
            case rel=>exact ⟨_,(!t208),(sq),H',⟨by have:=HK1.out;first | omega | exact Nat.le_refl _⟩,⟨kq BK202.out⟩,⟨kq BK205.out⟩,⟨Y5⟩⟩
           ·rw [if_neg c17] at H
            have c17b0:decide (0<x8_1)=false:=dzF c17
            clear c17
            have H':=am H
            clear H
            have hnb24:=NB205_202.out
            have hnc24:=NB202_205.out
            have hcz25_0:=bc0 BK205.out
            have hcz25_1:=bc1 BK205.out
            have hfz25_0:=jb BK205.out 0
            have hfz25_1:=jb BK205.out 1
            go_wp2_with (first |((with_reducible refine jC (f:=40) rfl ?_);refine gL (some 15) Tryd.func40 #[.string ((jB l0_0 x8_1).f0)] ?_;(with_reducible refine (jfa.calls k1 ((jB l0_0 x8_1).f0) true _ A11.out).mono ?_);rintro e w' ⟨rfl,⟨nd,rfl⟩⟩;refine ⟨_,rfl,?_⟩;have hcz26_0:=bc0 BK202.out;have hfz26_0:=jb BK202.out 0) |(go_at_call 41;(with_reducible refine (jma.calls _ _ l0_0 ((jB l0_0 x8_1).f0) t207 _ ?side1 ?side2 A13.out).mono ?_);(case side1=>exact Kd.jG HR0_0.out (Y5));(case side2=>exact HC0_0.out);rintro e w27 ⟨rfl,hb⟩;replace BK202:=am (jh (g:=gb202) (o:=.cells #[.slice (some ad204) l0_0.length c0_0] 31 (0,0)) (Y16) hb);replace BK205:=am (jh (g:=gb205) (o:=.cells #[.string ((jB l0_0 x8_1).f0), .int .i64 ((jB l0_0 x8_1).f1)] 59 (0,0)) (Y17) hb);replace HB:=am (jd (Y5) hb);(try clear hb);(try clear hb2);(try clear hk);(try clear hi);have hcz28_0:=bc0 BK205.out;have hcz28_1:=bc1 BK205.out;have hfz28_0:=jb BK205.out 0;have hfz28_1:=jb BK205.out 1))
            go_meet
            case rel=>exact ⟨_,(false),(sq),H',⟨by have:=HK1.out;first | omega | exact Nat.le_refl _⟩,⟨kq BK202.out⟩,⟨kq BK205.out⟩,⟨Y5⟩⟩
          ·rw [if_neg c16] at H
           have c16b0:(((jB l0_0 x8_1).f1) == (-1))=false:=beq_eq_false_iff_ne.mpr c16
           have c16b1:(((jB l0_0 x8_1).f1) != (-1))=true:=bne_iff_ne.mpr c16
           have H':=am H
           clear H
           have hnb29:=NB205_202.out
           have hnc29:=NB202_205.out
           have hcz30_0:=bc0 BK205.out
           have hcz30_1:=bc1 BK205.out
           have hfz30_0:=jb BK205.out 0
           have hfz30_1:=jb BK205.out 1
           go_wp2_with (first |((with_reducible refine jC (f:=40) rfl ?_);refine gL (some 15) Tryd.func40 #[.string ((jB l0_0 x8_1).f0)] ?_;(with_reducible refine (jfa.calls k1 ((jB l0_0 x8_1).f0) true _ A11.out).mono ?_);rintro e w' ⟨rfl,⟨nd,rfl⟩⟩;refine ⟨_,rfl,?_⟩;have hcz31_0:=bc0 BK202.out;have hfz31_0:=jb BK202.out 0) |(go_at_call 41;(with_reducible refine (jma.calls _ _ l0_0 ((jB l0_0 x8_1).f0) t207 _ ?side1 ?side2 A13.out).mono ?_);(case side1=>exact Kd.jG HR0_0.out (Y5));(case side2=>exact HC0_0.out);rintro e w32 ⟨rfl,hb⟩;replace BK202:=am (jh (g:=gb202) (o:=.cells #[.slice (some ad204) l0_0.length c0_0] 31 (0,0)) (Y16) hb);replace BK205:=am (jh (g:=gb205) (o:=.cells #[.string ((jB l0_0 x8_1).f0), .int .i64 ((jB l0_0 x8_1).f1)] 59 (0,0)) (Y17) hb);replace HB:=am (jd (Y5) hb);(try clear hb);(try clear hb2);(try clear hk);(try clear hi);have hcz33_0:=bc0 BK205.out;have hcz33_1:=bc1 BK205.out;have hfz33_0:=jb BK205.out 0;have hfz33_1:=jb BK205.out 1))
           go_meet
           case rel=>exact ⟨_,(true),(sq),H',⟨by have:=HK1.out;first | omega | exact Nat.le_refl _⟩,⟨kq BK202.out⟩,⟨kq BK205.out⟩,⟨Y5⟩⟩
         ·rw [if_neg c15] at H
          have c15b0:(x8_1 == 0)=false:=beq_eq_false_iff_ne.mpr c15
          have c15b1:(x8_1 != 0)=true:=bne_iff_ne.mpr c15
          by_cases c34:x8_1 > 0
          ·rw [if_pos c34] at H
           have c34b0:decide (0<x8_1)=true:=dzT c34
           clear c34
           replace H:=bzS H
           obtain ⟨t209,A350,H⟩:=H
           replace H:(jm.j1 k1 l0_0 (l0_0.length:Int) x8_1 (!t209) l0_0)=some r:=H
           have A35:=am A350
           clear A350
           have H':=am H
           clear H
           have hnb36:=NB205_202.out
           have hnc36:=NB202_205.out
           have hcz37_0:=bc0 BK205.out
           have hcz37_1:=bc1 BK205.out
           have hfz37_0:=jb BK205.out 0
           have hfz37_1:=jb BK205.out 1
           go_wp2_with (first |((with_reducible refine jC (f:=40) rfl ?_);refine gL (some 15) Tryd.func40 #[.string ((jB l0_0 x8_1).f0)] ?_;(with_reducible refine (jfa.calls k1 ((jB l0_0 x8_1).f0) true _ A11.out).mono ?_);rintro e w' ⟨rfl,⟨nd,rfl⟩⟩;refine ⟨_,rfl,?_⟩;have hcz38_0:=bc0 BK202.out;have hfz38_0:=jb BK202.out 0) |(go_at_call 41;(with_reducible refine (jma.calls _ _ l0_0 ((jB l0_0 x8_1).f0) t207 _ ?side1 ?side2 A13.out).mono ?_);(case side1=>exact Kd.jG HR0_0.out (Y5));(case side2=>exact HC0_0.out);rintro e w39 ⟨rfl,hb⟩;replace BK202:=am (jh (g:=gb202) (o:=.cells #[.slice (some ad204) l0_0.length c0_0] 31 (0,0)) (Y16) hb);replace BK205:=am (jh (g:=gb205) (o:=.cells #[.string ((jB l0_0 x8_1).f0), .int .i64 ((jB l0_0 x8_1).f1)] 59 (0,0)) (Y17) hb);replace HB:=am (jd (Y5) hb);(try clear hb);(try clear hb2);(try clear hk);(try clear hi);have hcz40_0:=bc0 BK205.out;have hcz40_1:=bc1 BK205.out;have hfz40_0:=jb BK205.out 0;have hfz40_1:=jb BK205.out 1) |(go_at_call 42;(with_reducible refine (jI.calls ((jB l0_0 x8_1).f1) 0 (wrap64 (x8_1 - 1)) t209 _ A35.out).mono ?_);rintro e w' ⟨rfl,⟨nd,rfl⟩⟩))
           go_meet
           case rel=>exact ⟨_,(!t209),(sq),H',⟨by have:=HK1.out;first | omega | exact Nat.le_refl _⟩,⟨kq BK202.out⟩,⟨kq BK205.out⟩,⟨Y5⟩⟩
          ·rw [if_neg c34] at H
           have c34b0:decide (0<x8_1)=false:=dzF c34
           clear c34
           have H':=am H
           clear H
           have hnb41:=NB205_202.out
           have hnc41:=NB202_205.out
           have hcz42_0:=bc0 BK205.out
           have hcz42_1:=bc1 BK205.out
           have hfz42_0:=jb BK205.out 0
           have hfz42_1:=jb BK205.out 1
           go_wp2_with (first |((with_reducible refine jC (f:=40) rfl ?_);refine gL (some 15) Tryd.func40 #[.string ((jB l0_0 x8_1).f0)] ?_;(with_reducible refine (jfa.calls k1 ((jB l0_0 x8_1).f0) true _ A11.out).mono ?_);rintro e w' ⟨rfl,⟨nd,rfl⟩⟩;refine ⟨_,rfl,?_⟩;have hcz43_0:=bc0 BK202.out;have hfz43_0:=jb BK202.out 0) |(go_at_call 41;(with_reducible refine (jma.calls _ _ l0_0 ((jB l0_0 x8_1).f0) t207 _ ?side1 ?side2 A13.out).mono ?_);(case side1=>exact Kd.jG HR0_0.out (Y5));(case side2=>exact HC0_0.out);rintro e w44 ⟨rfl,hb⟩;replace BK202:=am (jh (g:=gb202) (o:=.cells #[.slice (some ad204) l0_0.length c0_0] 31 (0,0)) (Y16) hb);replace BK205:=am (jh (g:=gb205) (o:=.cells #[.string ((jB l0_0 x8_1).f0), .int .i64 ((jB l0_0 x8_1).f1)] 59 (0,0)) (Y17) hb);replace HB:=am (jd (Y5) hb);(try clear hb);(try clear hb2);(try clear hk);(try clear hi)))
           go_meet
           case rel=>exact ⟨_,(false),(sq),H',⟨by have:=HK1.out;first | omega | exact Nat.le_refl _⟩,⟨kq BK202.out⟩,⟨kq BK205.out⟩,⟨Y5⟩⟩
        ·rw [if_neg c14] at H
         have c14b0:(t207 == x8_1)=false:=beq_eq_false_iff_ne.mpr c14
         have c14b1:(t207 != x8_1)=true:=bne_iff_ne.mpr c14
         (first | rw [c14b0] |(simp only [jRa,jYa];rw [c14b0]) | skip)
         have H':=am H
         clear H
         have hnb45:=NB205_202.out
         have hnc45:=NB202_205.out
         have hcz46_0:=bc0 BK205.out
         have hcz46_1:=bc1 BK205.out
         have hfz46_0:=jb BK205.out 0
         have hfz46_1:=jb BK205.out 1
         go_wp2_with (first |((with_reducible refine jC (f:=40) rfl ?_);refine gL (some 15) Tryd.func40 #[.string ((jB l0_0 x8_1).f0)] ?_;(with_reducible refine (jfa.calls k1 ((jB l0_0 x8_1).f0) true _ A11.out).mono ?_);rintro e w' ⟨rfl,⟨nd,rfl⟩⟩;refine ⟨_,rfl,?_⟩;have hcz47_0:=bc0 BK202.out;have hfz47_0:=jb BK202.out 0) |(go_at_call 41;(with_reducible refine (jma.calls _ _ l0_0 ((jB l0_0 x8_1).f0) t207 _ ?side1 ?side2 A13.out).mono ?_);(case side1=>exact Kd.jG HR0_0.out (Y5));(case side2=>exact HC0_0.out);rintro e w48 ⟨rfl,hb⟩;replace BK202:=am (jh (g:=gb202) (o:=.cells #[.slice (some ad204) l0_0.length c0_0] 31 (0,0)) (Y16) hb);replace BK205:=am (jh (g:=gb205) (o:=.cells #[.string ((jB l0_0 x8_1).f0), .int .i64 ((jB l0_0 x8_1).f1)] 59 (0,0)) (Y17) hb);replace HB:=am (jd (Y5) hb);(try clear hb);(try clear hb2);(try clear hk);(try clear hi)))
         go_meet
         case rel=>exact ⟨_,(true),(sq),H',⟨by have:=HK1.out;first | omega | exact Nat.le_refl _⟩,⟨kq BK202.out⟩,⟨kq BK205.out⟩,⟨Y5⟩⟩
       ·replace c12:=Bool.eq_false_iff.mpr c12
        subst c12
        have H1:(jm.j1 k1 l0_0 (l0_0.length:Int) x8_1 true l0_0)=some r:=by rw [if_neg (show ¬ (false=true) by decide)] at H;exact H
        clear H
        have H:=H1
        clear H1
        have H':=am H
        clear H
        have hnb49:=NB205_202.out
        have hnc49:=NB202_205.out
        have hcz50_0:=bc0 BK205.out
        have hcz50_1:=bc1 BK205.out
        have hfz50_0:=jb BK205.out 0
        have hfz50_1:=jb BK205.out 1
        go_wp2_with (first |((with_reducible refine jC (f:=40) rfl ?_);refine gL (some 15) Tryd.func40 #[.string ((jB l0_0 x8_1).f0)] ?_;(with_reducible refine (jfa.calls k1 ((jB l0_0 x8_1).f0) false _ A11.out).mono ?_);rintro e w' ⟨rfl,⟨nd,rfl⟩⟩;refine ⟨_,rfl,?_⟩))
        go_meet
        case rel=>exact ⟨_,(true),(sq),H',⟨by have:=HK1.out;first | omega | exact Nat.le_refl _⟩,⟨by (with_reducible repeat (first | refine jf ?_ _ | refine jk ?_ | refine jg ?_ _));refine jaa ?_ NB202_205.out _;(with_reducible repeat (first | refine jf ?_ _ | refine jk ?_ | refine jg ?_ _));refine jaa ?_ NB202_205.out _;(with_reducible repeat (first | refine jf ?_ _ | refine jk ?_ | refine jg ?_ _));exact BK202.out⟩,⟨by (with_reducible repeat (first | refine jf ?_ _ | refine jk ?_ | refine jg ?_ _));refine jT (cs:=#[.string ((jB l0_0 x8_1).f0), .int .i64 0]) ?_ 1 _ rfl;(with_reducible repeat (first | refine jf ?_ _ | refine jk ?_ | refine jg ?_ _));refine jT (cs:=#[.string (⟨#[]⟩:ByteArray), .int .i64 0]) ?_ 0 _ rfl;(with_reducible repeat (first | refine jf ?_ _ | refine jk ?_ | refine jg ?_ _));exact BK205.out⟩,⟨Y5⟩⟩
      case rest =>
       clear HC7
       try clear c1
       try clear c2
       try clear p2
       try clear q2
       try clear hx2
       try clear c3
       try clear c4
       try clear c4b0
       try clear c5
       try clear c5b0
       try clear c6
       try clear c6b0
       try clear p6
       try clear c9
       try clear c12
       try clear c14
       try clear c14b0
       try clear c14b1
       try clear c15
       try clear c15b0
       try clear c15b1
       try clear c16
       try clear c16b0
       try clear c16b1
       try clear c17
       try clear c17b0
       try clear c19
       try clear p20
       try clear q20
       try clear hx20
       try clear c24
       try clear c29
       try clear c30
       try clear c34
       try clear c34b0
       try clear c36
       try clear c40
       try clear c41
       try clear c45
       try clear c49
       try clear hcz10_0
       try clear hcz10_1
       try clear hcz20_0
       try clear hcz20_1
       try clear hcz21_0
       try clear hcz23_0
       try clear hcz23_1
       try clear hcz25_0
       try clear hcz25_1
       try clear hcz26_0
       try clear hcz28_0
       try clear hcz28_1
       try clear hcz30_0
       try clear hcz30_1
       try clear hcz31_0
       try clear hcz33_0
       try clear hcz33_1
       try clear hcz37_0
       try clear hcz37_1
       try clear hcz38_0
       try clear hcz3_0
       try clear hcz40_0
       try clear hcz40_1
       try clear hcz42_0
       try clear hcz42_1
       try clear hcz43_0
       try clear hcz46_0
       try clear hcz46_1
       try clear hcz47_0
       try clear hcz50_0
       try clear hcz50_1
       try clear hfz10_0
       try clear hfz10_1
       try clear hfz20_0
       try clear hfz20_1
       try clear hfz21_0
       try clear hfz23_0
       try clear hfz23_1
       try clear hfz25_0
       try clear hfz25_1
       try clear hfz26_0
       try clear hfz28_0
       try clear hfz28_1
       try clear hfz30_0
       try clear hfz30_1
       try clear hfz31_0
       try clear hfz33_0
       try clear hfz33_1
       try clear hfz37_0
       try clear hfz37_1
       try clear hfz38_0
       try clear hfz3_0
       try clear hfz40_0
       try clear hfz40_1
       try clear hfz42_0
       try clear hfz42_1
       try clear hfz43_0
       try clear hfz46_0
       try clear hfz46_1
       try clear hfz47_0
       try clear hfz50_0
       try clear hfz50_1
       try clear hx204_0
       try clear hx204_1
       try clear p2
       try clear p204
       try clear q204
       obtain ⟨kq,x45_6,rfl,HA,HJ6,BK202,BK205,HB⟩:=hcut
       cases kq with
       | zero=>exact absurd HA.out (by simp [jm.j1])
       | succ kj6 =>
        have H:=HA.out
        clear HA
        simp only [jm.j1] at H
        by_cases c51:x45_6=true
        ·subst c51
         have H1:(some false)=some r:=by rw [if_pos rfl] at H;exact H
         clear H
         have H:=H1
         clear H1
         obtain rfl:=Option.some.inj H
         go_wp2
         go_ret
         exact ⟨Y1,Y5⟩
        ·replace c51:=Bool.eq_false_iff.mpr c51
         subst c51
         have H1:(jm.l0 kj6 l0_0 (l0_0.length:Int) (wrap64 (x8_1+1)) l0_0)=some r:=by rw [if_neg (show ¬ (false=true) by decide)] at H;exact H
         clear H
         have H:=H1
         clear H1
         have H':=am H
         clear H
         go_wp2
         go_roundg kj6
         case measure=>have:=HK1.out;have:=HJ6.out;omega
         case rel=>exact ⟨(wrap64 (x8_1+1)),(sq),H',⟨by have:=HK1.out;have:=HJ6.out;omega⟩,⟨kq BK202.out⟩,⟨Y5⟩⟩
     ·rw [if_neg c6] at H
      exact absurd H (by simp)
    ·rw [if_neg c5] at H
     exact absurd H (by simp)
   ·rw [if_neg c4] at H
    have c4b0:decide (x8_1<(l0_0.length:Int))=false:=dzF c4
    clear c4
    replace H:=bzS H
    obtain ⟨t203,A520,H⟩:=H
    replace H:(some t203)=some r:=H
    have A52:=am A520
    clear A520
    obtain rfl:=Option.some.inj H
    have hcz53_0:=bc0 BK202.out
    have hfz53_0:=jb BK202.out 0
    go_wp2_with (first |((with_reducible refine jC (f:=42) rfl ?_);refine gL (some 50) Tryd.func42 #[.int .i64 (l0_0.length:Int), .int .i64 1, .int .i64 8] ?_;(with_reducible refine (jI.calls (l0_0.length:Int) 1 8 t203 _ A52.out).mono ?_);rintro e w' ⟨rfl,⟨nd,rfl⟩⟩;refine ⟨_,rfl,?_⟩))
    go_ret
    exact ⟨Y1,Y36⟩
def jua.f (a0 : Int) : Option (Bool) := (jI.f a0 0 99).bind fun t210 => (some t210)
set_option maxHeartbeats 8000000 in
set_option maxRecDepth 100000 in
theorem jua.calls (a0 : Int) (r : Bool) (w : World) (h : jua.f a0 = some r) :
  Calls Tryd.prog 43 #[.int .i64 a0] w fun e w'=>e=.returned (.bool r)∧jCa w w':=by
 have H:((jI.f a0 0 99).bind fun t210=>(some t210))=some r:=h
 clear h
 replace H:=bzS H
 obtain ⟨t210,A20,H⟩:=H
 replace H:(some t210)=some r:=H
 have A2:=am A20
 clear A20
 obtain rfl:=Option.some.inj H
 go_enter Tryd.func43,Tryd.ntmps43
 go_wp2_with (first |((with_reducible refine jC (f:=42) rfl ?_);refine gL (some 4) Tryd.func42 #[.int .i64 a0, .int .i64 0, .int .i64 99] ?_;(with_reducible refine (jI.calls a0 0 99 t210 _ A2.out).mono ?_);rintro e w' ⟨rfl,⟨nd,rfl⟩⟩;refine ⟨_,rfl,?_⟩))
 go_ret
 exact ⟨sq,Y2⟩
def jja.f (l0_0 : List (S59)) (a1 : Int) : Option (Bool) := (jI.f a1 0 (wrap64 ((l0_0.length : Int) - 1))).bind fun t212 => (some t212)
set_option maxHeartbeats 8000000 in
set_option maxRecDepth 100000 in
theorem jja.calls (A0_0 : Option Addr) (c0_0 : Nat) (l0_0 : List (S59)) (a1 : Int) (r : Bool) (w : World) (hr0_0 : Kd.C k59 w A0_0 l0_0.length l0_0) (hc0_0 : l0_0.length ≤ c0_0) (h : jja.f l0_0 a1 = some r) :
  Calls Tryd.prog 44 #[.agg #[.slice A0_0 l0_0.length c0_0], .int .i64 a1] w fun e w'=>e=.returned (.bool r)∧Below w.heap.size w w':=by
 have hu31:=Tryd.underlying31
 have HR0_0:=am hr0_0
 have HC0_0:=am hc0_0
 clear hr0_0 hc0_0
 have HB:=am (Below.refl w.heap.size w)
 have H:((jI.f a1 0 (wrap64 ((l0_0.length:Int) - 1))).bind fun t212=>(some t212))=some r:=h
 clear h
 replace H:=bzS H
 obtain ⟨t212,A30,H⟩:=H
 replace H:(some t212)=some r:=H
 have A3:=am A30
 clear A30
 obtain rfl:=Option.some.inj H
 go_enter Tryd.func44,Tryd.ntmps44
 go_wp2_with (first |((with_reducible refine jE (N:=2) rfl ?_);refine bE (N:=2) (cs:=#[.slice A0_0 l0_0.length c0_0]) (t:=31) ?_;intro gb211 hg w4 hbox hb;have BK211:=am (hbox);have GW211:=am ((Y0:w.heap.size≤gb211));have GE211:=am ((Y0:w.heap.size≤gb211));replace HB:=am (jd (bq) hb);clear hb hbox hg;have hcz5_0:=bc0 BK211.out;have hfz5_0:=jb BK211.out 0) |((with_reducible refine jC (f:=42) rfl ?_);refine gL (some 10) Tryd.func42 #[.int .i64 a1, .int .i64 0, .int .i64 (wrap64 ((l0_0.length:Int) - 1))] ?_;(with_reducible refine (jI.calls a1 0 (wrap64 ((l0_0.length:Int) - 1)) t212 _ A3.out).mono ?_);rintro e w' ⟨rfl,⟨nd,rfl⟩⟩;refine ⟨_,rfl,?_⟩))
 go_ret
 exact ⟨Y1,by repeat (first |(with_reducible first | exact HB.out | apply jA | apply ji | apply jv | refine jy ?_ GE211.out) | exact HB.out)⟩
end Go.Proofs.YtpfaohdpnegjnaaDoor.P
end
