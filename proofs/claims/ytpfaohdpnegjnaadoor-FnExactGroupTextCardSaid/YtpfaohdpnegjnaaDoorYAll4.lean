/- One part of the proofs on this program: functions of the program as plain functions, that the code comes to them, and facts on them. -/
import Derived.Shelf.Strconv.Itoa3
import Derived.Shelf.Strings.OnBuilder
import Derived.Test.YtpfaohdpnegjnaaDoorYAll1
import Derived.Test.YtpfaohdpnegjnaaDoorYAll3
import Derived.Test.YtpfaohdpnegjnaaDoorYWAuto
section
namespace Go.Proofs.YtpfaohdpnegjnaaDoor.P
open Go.RowKit Go.Proofs.YtpfaohdpnegjnaaDoorW.PrintWords Go.Proofs.YtpfaohdpnegjnaaDoorW.PrintLast Go.Proofs.YtpfaohdpnegjnaaDoorW.PrintMore
attribute [local go_sem] jZ jX joa jna jP jO jY jW jo
set_option linter.unusedVariables false
set_option linter.unusedSimpArgs false
mutual
def je.l0 : Nat → List (S42) → List (S42) → Int → Int → List (S59) → Option (Bool)
 | 0,_,_,_,_,_=>none
 | k+1,x1,x8,x9,x10,x214000=>if x10<x9 then (if 0≤x10 then (if x10<(x8.length:Int) then ((jua.f ((ja x8 x10).f3)).bind fun t217=>(if t217=true then ((jI.f ((ja x8 x10).f0) 0 5).bind fun t218=>(if t218=true then (je.j1 k x1 x10 x8 x9 x10 ((((ja x8 x10).f0) == 0) != (x10 == 0)) x214000 ((ja x8 x10).f0) ((ja x8 x10).f1) ((ja x8 x10).f2) ((ja x8 x10).f3)) else (je.j1 k x1 x10 x8 x9 x10 true x214000 ((ja x8 x10).f0) ((ja x8 x10).f1) ((ja x8 x10).f2) ((ja x8 x10).f3)))) else (je.j1 k x1 x10 x8 x9 x10 true x214000 ((ja x8 x10).f0) ((ja x8 x10).f1) ((ja x8 x10).f2) ((ja x8 x10).f3)))) else (none)) else (none)) else ((jI.f (x1.length:Int) 1 16).bind fun t214=>(some t214))
def je.j1 : Nat → List (S42) → Int → List (S42) → Int → Int → Bool → List (S59) → Int → Bool → Int → Int → Option (Bool)
 | 0,_,_,_,_,_,_,_,_,_,_,_=>none
 | k+1,x1,x5,x8,x9,x10,x32,x214000,x217000,x217001,x217002,x217003=>if x32=true then (some false) else (if x5 > 0 then (if 0≤(wrap64 (x5 - 1)) then (if (wrap64 (x5 - 1))<(x1.length:Int) then (if x217000 > ((ja x1 (wrap64 (x5 - 1))).f0) then (if (ja x1 (wrap64 (x5 - 1))).f1=true then (je.j2 k x1 x5 x8 x9 x10 (!(x217000 == (wrap64 (((ja x1 (wrap64 (x5 - 1))).f0)+1)))) x214000 x217000 x217001 x217002 x217003) else (je.j2 k x1 x5 x8 x9 x10 (!false) x214000 x217000 x217001 x217002 x217003)) else (je.j2 k x1 x5 x8 x9 x10 false x214000 x217000 x217001 x217002 x217003)) else (none)) else (none)) else (je.j2 k x1 x5 x8 x9 x10 false x214000 x217000 x217001 x217002 x217003))
def je.j2 : Nat → List (S42) → Int → List (S42) → Int → Int → Bool → List (S59) → Int → Bool → Int → Int → Option (Bool)
 | 0,_,_,_,_,_,_,_,_,_,_,_=>none
 | k+1,x1,x5,x8,x9,x10,x66,x214000,x217000,x217001,x217002,x217003=>if x66=true then (some false) else (if (wrap64 (x5+1))<(x1.length:Int) then (if 0≤(wrap64 (x5+1)) then (if x217001=true then (if x217002=0 then (if (((ja x1 (wrap64 (x5+1))).f0) > x217000) then (je.j3 k x1 x8 x9 x10 false x214000) else (je.j3 k x1 x8 x9 x10 true x214000)) else (je.j3 k x1 x8 x9 x10 true x214000)) else ((jja.f x214000 x217002).bind fun t223=>(je.j3 k x1 x8 x9 x10 (!t223) x214000))) else (none)) else (if x217001=true then (if x217002=0 then (je.j4 k x1 x8 x9 x10 true x214000) else (je.j4 k x1 x8 x9 x10 true x214000)) else ((jja.f x214000 x217002).bind fun t224=>(je.j4 k x1 x8 x9 x10 (!t224) x214000))))
def je.j3 : Nat → List (S42) → List (S42) → Int → Int → Bool → List (S59) → Option (Bool)
 | 0,_,_,_,_,_,_=>none
 | k+1,x1,x8,x9,x10,x105,x214000=>if x105=true then (some false) else (je.l0 k x1 x8 x9 (wrap64 (x10+1)) x214000)
def je.j4 : Nat → List (S42) → List (S42) → Int → Int → Bool → List (S59) → Option (Bool)
 | 0,_,_,_,_,_,_=>none
 | k+1,x1,x8,x9,x10,x105,x214000=>if x105=true then (some false) else (je.l0 k x1 x8 x9 (wrap64 (x10+1)) x214000)
end
def je.f (k : Nat) (l0_0 : List (S59)) (l1 : List (S42)) : Option (Bool) := je.l0 k l1 l1 (l1.length : Int) 0 l0_0
set_option maxHeartbeats 8000000 in
set_option maxRecDepth 100000 in
theorem je.calls (k : Nat) (A0_0 : Option Addr) (c0_0 : Nat) (l0_0 : List (S59)) (A1 : Option Addr) (c1 : Nat) (l1 : List (S42)) (r : Bool) (w : World) (hr0_0 : Kd.C k59 w A0_0 l0_0.length l0_0) (hc0_0 : l0_0.length ≤ c0_0) (hr1 : Kd.C k42 w A1 l1.length l1) (hc1 : l1.length ≤ c1) (h : je.f k l0_0 l1 = some r) :
  Calls Tryd.prog 31 #[.agg #[.slice A0_0 l0_0.length c0_0], .slice A1 l1.length c1] w fun e w'=>e=.returned (.bool r)∧Below w.heap.size w w':=by
 have hu31:=Tryd.underlying31
 have hu42:=Tryd.underlying42
 have HR0_0:=am hr0_0
 have HC0_0:=am hc0_0
 clear hr0_0 hc0_0
 have HR1:=am hr1
 have HC1:=am hc1
 clear hr1 hc1
 have HB:=am (Below.refl w.heap.size w)
 have H:(je.l0 k l1 l1 (l1.length:Int) 0 l0_0)=some r:=h
 clear h
 have H':=am H
 clear H
 go_enter Tryd.func31,Tryd.ntmps31
 go_wp2_with (first |((with_reducible refine jE (N:=2) rfl ?_);refine bE (N:=2) (cs:=#[.slice A0_0 l0_0.length c0_0]) (t:=31) ?_;intro gb213 hg w3 hbox hb;have BK213:=am (hbox);have GW213:=am ((Y0:w.heap.size≤gb213));have GE213:=am ((Y0:w.heap.size≤gb213));replace HB:=am (jd (bq) hb);clear hb hbox hg))
 repeat (go_quiet (first |((with_reducible refine jE (N:=2) rfl ?_);refine bE (N:=2) (cs:=#[.slice A0_0 l0_0.length c0_0]) (t:=31) ?_;intro gb213 hg w3 hbox hb;have BK213:=am (hbox);have GW213:=am ((Y0:w.heap.size≤gb213));have GE213:=am ((Y0:w.heap.size≤gb213));replace HB:=am (jd (bq) hb);clear hb hbox hg));try go_wp2_with (first |((with_reducible refine jE (N:=2) rfl ?_);refine bE (N:=2) (cs:=#[.slice A0_0 l0_0.length c0_0]) (t:=31) ?_;intro gb213 hg w3 hbox hb;have BK213:=am (hbox);have GW213:=am ((Y0:w.heap.size≤gb213));have GE213:=am ((Y0:w.heap.size≤gb213));replace HB:=am (jd (bq) hb);clear hb hbox hg)))
 go_loopg [10] k (fun kq v10 w'=>∃ (x10_1:Int),v10=.int .i64 x10_1∧jH (je.l0 kq l1 l1 (l1.length:Int) x10_1 l0_0=some r)∧jH (kq≤k)∧jH (w'.heap[gb213]?=some (.cells #[(.slice A0_0 l0_0.length c0_0)] 31 (0,0)))∧jH (Below w.heap.size w w'))
 case atStart=>exact ⟨(0),(sq),H',⟨Nat.le_refl _⟩,⟨kq BK213.out⟩,⟨Y21⟩⟩
 case round =>
  clear H'
  try clear c1
  try clear p2
  try clear c3
  obtain ⟨x10_1,rfl,HA,HK1,BK213,HB⟩:=hrel
  cases gk with
  | zero=>exact absurd HA.out (by simp [je.l0])
  | succ k1 =>
   have H:=HA.out
   clear HA
   simp only [je.l0] at H
   by_cases c4:x10_1<(l1.length:Int)
   ·rw [if_pos c4] at H
    have c4b0:decide (x10_1<(l1.length:Int))=true:=dzT c4
    clear c4
    by_cases c5:0≤x10_1
    ·rw [if_pos c5] at H
     have c5b0:decide (0≤x10_1)=true:=dzT c5
     clear c5
     by_cases c6:x10_1<(l1.length:Int)
     ·rw [if_pos c6] at H
      have c6b0:decide (x10_1<(l1.length:Int))=true:=dzT c6
      clear c6
      have HC7:=am H
      clear H
      have p215:0≤(x10_1:Int):=ozD (uq)
      have q215:x10_1<(l1.length:Int):=ozD (uq)
      obtain ⟨ad215,e215,hx215_0,hx215_1,hx215_2,hx215_3⟩:=jpa HR1.out x10_1 p215 q215
      cases e215
      replace hx215_0:=cb HB.out hx215_0
      replace hx215_1:=cb HB.out hx215_1
      replace hx215_2:=cb HB.out hx215_2
      replace hx215_3:=cb HB.out hx215_3
      replace p215:=ezT p215
      replace q215:=ezT q215
      go_upto_region 4 with (first |((with_reducible refine jE (N:=6) rfl ?_);refine bE (N:=6) (cs:=#[.int .i64 0, .bool false, .int .i64 0, .int .i64 0]) (t:=42) ?_;intro gb216 hg w8 hbox hb;have BK216:=am (hbox);have GW216:=am ((Y18:w.heap.size≤gb216));have GE216:=am ((Y18:w.heap.size≤gb216));have NB213_216:=am ((Y37:gb213≠gb216));have NB216_213:=am ((Y38:gb216≠gb213));replace BK213:=am (jh (g:=gb213) (o:=.cells #[.slice A0_0 l0_0.length c0_0] 31 (0,0)) (kq BK213.out) hb);replace HB:=am (jd (Y21) hb);clear hb hbox hg;have hnb9:=NB216_213.out;have hnc9:=NB213_216.out;have hcz10_0:=bc0 BK216.out;have hcz10_1:=bc1 BK216.out;have hcz10_2:=bc2 BK216.out;have hcz10_3:=bc3 BK216.out;have hfz10_0:=jb BK216.out 0;have hfz10_1:=jb BK216.out 1;have hfz10_2:=jb BK216.out 2;have hfz10_3:=jb BK216.out 3))
      repeat (go_quiet (first |((with_reducible refine jE (N:=6) rfl ?_);refine bE (N:=6) (cs:=#[.int .i64 0, .bool false, .int .i64 0, .int .i64 0]) (t:=42) ?_;intro gb216 hg w8 hbox hb;have BK216:=am (hbox);have GW216:=am ((Y18:w.heap.size≤gb216));have GE216:=am ((Y18:w.heap.size≤gb216));have NB213_216:=am ((Y37:gb213≠gb216));have NB216_213:=am ((Y38:gb216≠gb213));replace BK213:=am (jh (g:=gb213) (o:=.cells #[.slice A0_0 l0_0.length c0_0] 31 (0,0)) (kq BK213.out) hb);replace HB:=am (jd (Y21) hb);clear hb hbox hg;have hnb9:=NB216_213.out;have hnc9:=NB213_216.out;have hcz10_0:=bc0 BK216.out;have hcz10_1:=bc1 BK216.out;have hcz10_2:=bc2 BK216.out;have hcz10_3:=bc3 BK216.out;have hfz10_0:=jb BK216.out 0;have hfz10_1:=jb BK216.out 1;have hfz10_2:=jb BK216.out 2;have hfz10_3:=jb BK216.out 3));go_upto_region 4 with (first |((with_reducible refine jE (N:=6) rfl ?_);refine bE (N:=6) (cs:=#[.int .i64 0, .bool false, .int .i64 0, .int .i64 0]) (t:=42) ?_;intro gb216 hg w8 hbox hb;have BK216:=am (hbox);have GW216:=am ((Y18:w.heap.size≤gb216));have GE216:=am ((Y18:w.heap.size≤gb216));have NB213_216:=am ((Y37:gb213≠gb216));have NB216_213:=am ((Y38:gb216≠gb213));replace BK213:=am (jh (g:=gb213) (o:=.cells #[.slice A0_0 l0_0.length c0_0] 31 (0,0)) (kq BK213.out) hb);replace HB:=am (jd (Y21) hb);clear hb hbox hg;have hnb9:=NB216_213.out;have hnc9:=NB213_216.out;have hcz10_0:=bc0 BK216.out;have hcz10_1:=bc1 BK216.out;have hcz10_2:=bc2 BK216.out;have hcz10_3:=bc3 BK216.out;have hfz10_0:=jb BK216.out 0;have hfz10_1:=jb BK216.out 1;have hfz10_2:=jb BK216.out 2;have hfz10_3:=jb BK216.out 3)))
      (try simp only [Act.put,List.setIfInBounds_toArray,List.set_cons_zero,List.set_cons_succ])
      go_cut [32] (fun v32 wc=>∃ (kq:Nat) (x32_6:Bool),v32=.bool x32_6∧jH (je.j1 kq l1 x10_1 l1 (l1.length:Int) x10_1 x32_6 l0_0 ((ja l1 x10_1).f0) ((ja l1 x10_1).f1) ((ja l1 x10_1).f2) ((ja l1 x10_1).f3)=some r)∧jH (kq≤k1)∧jH (wc.heap[gb213]?=some (.cells #[(.slice A0_0 l0_0.length c0_0)] 31 (0,0)))∧jH (wc.heap[gb216]?=some (.cells #[.int .i64 ((ja l1 x10_1).f0), .bool ((ja l1 x10_1).f1), .int .i64 ((ja l1 x10_1).f2), .int .i64 ((ja l1 x10_1).f3)] 42 (0,0)))∧jH (Below w.heap.size w wc))
      case first =>
       have H:=HC7.out
       clear HC7
       replace H:=bzS H
       obtain ⟨t217,A110,H⟩:=H
       replace H:(if t217=true then ((jI.f ((ja l1 x10_1).f0) 0 5).bind fun t218=>(if t218=true then (je.j1 k1 l1 x10_1 l1 (l1.length:Int) x10_1 ((((ja l1 x10_1).f0) == 0) != (x10_1 == 0)) l0_0 ((ja l1 x10_1).f0) ((ja l1 x10_1).f1) ((ja l1 x10_1).f2) ((ja l1 x10_1).f3)) else (je.j1 k1 l1 x10_1 l1 (l1.length:Int) x10_1 true l0_0 ((ja l1 x10_1).f0) ((ja l1 x10_1).f1) ((ja l1 x10_1).f2) ((ja l1 x10_1).f3)))) else (je.j1 k1 l1 x10_1 l1 (l1.length:Int) x10_1 true l0_0 ((ja l1 x10_1).f0) ((ja l1 x10_1).f1) ((ja l1 x10_1).f2) ((ja l1 x10_1).f3)))=some r:=H
       have A11:=am A110
       clear A110
       by_cases c12:t217=true
       ·subst c12
        have H1:((jI.f ((ja l1 x10_1).f0) 0 5).bind fun t218=>(if t218=true then (je.j1 k1 l1 x10_1 l1 (l1.length:Int) x10_1 ((((ja l1 x10_1).f0) == 0) != (x10_1 == 0)) l0_0 ((ja l1 x10_1).f0) ((ja l1 x10_1).f1) ((ja l1 x10_1).f2) ((ja l1 x10_1).f3)) else (je.j1 k1 l1 x10_1 l1 (l1.length:Int) x10_1 true l0_0 ((ja l1 x10_1).f0) ((ja l1 x10_1).f1) ((ja l1 x10_1).f2) ((ja l1 x10_1).f3))))=some r:=by rw [if_pos rfl] at H;exact H
        clear H
        have H:=H1
        clear H1
        replace H:=bzS H
        obtain ⟨t218,A130,H⟩:=H
        replace H:(if t218=true then (je.j1 k1 l1 x10_1 l1 (l1.length:Int) x10_1 ((((ja l1 x10_1).f0) == 0) != (x10_1 == 0)) l0_0 ((ja l1 x10_1).f0) ((ja l1 x10_1).f1) ((ja l1 x10_1).f2) ((ja l1 x10_1).f3)) else (je.j1 k1 l1 x10_1 l1 (l1.length:Int) x10_1 true l0_0 ((ja l1 x10_1).f0) ((ja l1 x10_1).f1) ((ja l1 x10_1).f2) ((ja l1 x10_1).f3)))=some r:=H
        have A13:=am A130
        clear A130
        by_cases c14:t218=true
        ·subst c14
         have H1:(je.j1 k1 l1 x10_1 l1 (l1.length:Int) x10_1 ((((ja l1 x10_1).f0) == 0) != (x10_1 == 0)) l0_0 ((ja l1 x10_1).f0) ((ja l1 x10_1).f1) ((ja l1 x10_1).f2) ((ja l1 x10_1).f3))=some r:=by rw [if_pos rfl] at H;exact H
         clear H
         have H:=H1
         clear H1
         have H':=am H
         clear H
         have hnb15:=NB216_213.out
         have hnc15:=NB213_216.out
         have hcz16_0:=bc0 BK216.out
         have hcz16_1:=bc1 BK216.out
         have hcz16_2:=bc2 BK216.out
         have hcz16_3:=bc3 BK216.out
         have hfz16_0:=jb BK216.out 0
         have hfz16_1:=jb BK216.out 1
         have hfz16_2:=jb BK216.out 2
         have hfz16_3:=jb BK216.out 3
         go_wp2_with (first |(go_at_call 43;(with_reducible refine (jua.calls ((ja l1 x10_1).f3) true _ A11.out).mono ?_);rintro e w' ⟨rfl,⟨nd,rfl⟩⟩;(try first | exact ⟨rfl,_,World.drewN_drewN _ _ _⟩ | exact ⟨rfl,_,Eq.trans (World.drewN_drewN _ _ _) (congrArg (World.drewN _) (Nat.add_assoc _ _ _))⟩)) |(go_at_call 42;(with_reducible refine (jI.calls ((ja l1 x10_1).f0) 0 5 true _ A13.out).mono ?_);rintro e w' ⟨rfl,⟨nd,rfl⟩⟩;(try first | exact ⟨rfl,_,World.drewN_drewN _ _ _⟩ | exact ⟨rfl,_,Eq.trans (World.drewN_drewN _ _ _) (congrArg (World.drewN _) (Nat.add_assoc _ _ _))⟩)))
         repeat (go_quiet (first |(go_at_call 43;(with_reducible refine (jua.calls ((ja l1 x10_1).f3) true _ A11.out).mono ?_);rintro e w' ⟨rfl,⟨nd,rfl⟩⟩;(try first | exact ⟨rfl,_,World.drewN_drewN _ _ _⟩ | exact ⟨rfl,_,Eq.trans (World.drewN_drewN _ _ _) (congrArg (World.drewN _) (Nat.add_assoc _ _ _))⟩)) |(go_at_call 42;(with_reducible refine (jI.calls ((ja l1 x10_1).f0) 0 5 true _ A13.out).mono ?_);rintro e w' ⟨rfl,⟨nd,rfl⟩⟩;(try first | exact ⟨rfl,_,World.drewN_drewN _ _ _⟩ | exact ⟨rfl,_,Eq.trans (World.drewN_drewN _ _ _) (congrArg (World.drewN _) (Nat.add_assoc _ _ _))⟩)));try go_wp2_with (first |(go_at_call 43;(with_reducible refine (jua.calls ((ja l1 x10_1).f3) true _ A11.out).mono ?_);rintro e w' ⟨rfl,⟨nd,rfl⟩⟩;(try first | exact ⟨rfl,_,World.drewN_drewN _ _ _⟩ | exact ⟨rfl,_,Eq.trans (World.drewN_drewN _ _ _) (congrArg (World.drewN _) (Nat.add_assoc _ _ _))⟩)) |(go_at_call 42;(with_reducible refine (jI.calls ((ja l1 x10_1).f0) 0 5 true _ A13.out).mono ?_);rintro e w' ⟨rfl,⟨nd,rfl⟩⟩;(try first | exact ⟨rfl,_,World.drewN_drewN _ _ _⟩ | exact ⟨rfl,_,Eq.trans (World.drewN_drewN _ _ _) (congrArg (World.drewN _) (Nat.add_assoc _ _ _))⟩))))
         go_meet
         case rel=>exact ⟨_,(((((ja l1 x10_1).f0) == 0) != (x10_1 == 0))),(sq),H',⟨by have:=HK1.out;first | omega | exact Nat.le_refl _⟩,⟨by (with_reducible repeat (first | refine jf ?_ _ | refine jk ?_ | refine jg ?_ _));refine jaa ?_ NB213_216.out _;(with_reducible repeat (first | refine jf ?_ _ | refine jk ?_ | refine jg ?_ _));refine jaa ?_ NB213_216.out _;(with_reducible repeat (first | refine jf ?_ _ | refine jk ?_ | refine jg ?_ _));refine jaa ?_ NB213_216.out _;(with_reducible repeat (first | refine jf ?_ _ | refine jk ?_ | refine jg ?_ _));refine jaa ?_ NB213_216.out _;(with_reducible repeat (first | refine jf ?_ _ | refine jk ?_ | refine jg ?_ _));exact BK213.out⟩,⟨by (with_reducible repeat (first | refine jf ?_ _ | refine jk ?_ | refine jg ?_ _));refine jT (cs:=#[.int .i64 ((ja l1 x10_1).f0), .bool ((ja l1 x10_1).f1), .int .i64 ((ja l1 x10_1).f2), .int .i64 0]) ?_ 3 _ rfl;(with_reducible repeat (first | refine jf ?_ _ | refine jk ?_ | refine jg ?_ _));refine jT (cs:=#[.int .i64 ((ja l1 x10_1).f0), .bool ((ja l1 x10_1).f1), .int .i64 0, .int .i64 0]) ?_ 2 _ rfl;(with_reducible repeat (first | refine jf ?_ _ | refine jk ?_ | refine jg ?_ _));refine jT (cs:=#[.int .i64 ((ja l1 x10_1).f0), .bool false, .int .i64 0, .int .i64 0]) ?_ 1 _ rfl;(with_reducible repeat (first | refine jf ?_ _ | refine jk ?_ | refine jg ?_ _));refine jT (cs:=#[.int .i64 0, .bool false, .int .i64 0, .int .i64 0]) ?_ 0 _ rfl;(with_reducible repeat (first | refine jf ?_ _ | refine jk ?_ | refine jg ?_ _));exact BK216.out⟩,⟨Y4⟩⟩
        ·replace c14:=Bool.eq_false_iff.mpr c14
         subst c14
         have H1:(je.j1 k1 l1 x10_1 l1 (l1.length:Int) x10_1 true l0_0 ((ja l1 x10_1).f0) ((ja l1 x10_1).f1) ((ja l1 x10_1).f2) ((ja l1 x10_1).f3))=some r:=by rw [if_neg (show ¬ (false=true) by decide)] at H;exact H
         clear H
         have H:=H1
         clear H1
         have H':=am H
         clear H
         have hnb17:=NB216_213.out
         have hnc17:=NB213_216.out
         have hcz18_0:=bc0 BK216.out
         have hcz18_1:=bc1 BK216.out
         have hcz18_2:=bc2 BK216.out
         have hcz18_3:=bc3 BK216.out
         have hfz18_0:=jb BK216.out 0
         have hfz18_1:=jb BK216.out 1
         have hfz18_2:=jb BK216.out 2
         have hfz18_3:=jb BK216.out 3
         go_wp2_with (first |(go_at_call 43;(with_reducible refine (jua.calls ((ja l1 x10_1).f3) true _ A11.out).mono ?_);rintro e w' ⟨rfl,⟨nd,rfl⟩⟩;(try first | exact ⟨rfl,_,World.drewN_drewN _ _ _⟩ | exact ⟨rfl,_,Eq.trans (World.drewN_drewN _ _ _) (congrArg (World.drewN _) (Nat.add_assoc _ _ _))⟩)) |(go_at_call 42;(with_reducible refine (jI.calls ((ja l1 x10_1).f0) 0 5 false _ A13.out).mono ?_);rintro e w' ⟨rfl,⟨nd,rfl⟩⟩;(try first | exact ⟨rfl,_,World.drewN_drewN _ _ _⟩ | exact ⟨rfl,_,Eq.trans (World.drewN_drewN _ _ _) (congrArg (World.drewN _) (Nat.add_assoc _ _ _))⟩)))
         repeat (go_quiet (first |(go_at_call 43;(with_reducible refine (jua.calls ((ja l1 x10_1).f3) true _ A11.out).mono ?_);rintro e w' ⟨rfl,⟨nd,rfl⟩⟩;(try first | exact ⟨rfl,_,World.drewN_drewN _ _ _⟩ | exact ⟨rfl,_,Eq.trans (World.drewN_drewN _ _ _) (congrArg (World.drewN _) (Nat.add_assoc _ _ _))⟩)) |(go_at_call 42;(with_reducible refine (jI.calls ((ja l1 x10_1).f0) 0 5 false _ A13.out).mono ?_);rintro e w' ⟨rfl,⟨nd,rfl⟩⟩;(try first | exact ⟨rfl,_,World.drewN_drewN _ _ _⟩ | exact ⟨rfl,_,Eq.trans (World.drewN_drewN _ _ _) (congrArg (World.drewN _) (Nat.add_assoc _ _ _))⟩)));try go_wp2_with (first |(go_at_call 43;(with_reducible refine (jua.calls ((ja l1 x10_1).f3) true _ A11.out).mono ?_);rintro e w' ⟨rfl,⟨nd,rfl⟩⟩;(try first | exact ⟨rfl,_,World.drewN_drewN _ _ _⟩ | exact ⟨rfl,_,Eq.trans (World.drewN_drewN _ _ _) (congrArg (World.drewN _) (Nat.add_assoc _ _ _))⟩)) |(go_at_call 42;(with_reducible refine (jI.calls ((ja l1 x10_1).f0) 0 5 false _ A13.out).mono ?_);rintro e w' ⟨rfl,⟨nd,rfl⟩⟩;(try first | exact ⟨rfl,_,World.drewN_drewN _ _ _⟩ | exact ⟨rfl,_,Eq.trans (World.drewN_drewN _ _ _) (congrArg (World.drewN _) (Nat.add_assoc _ _ _))⟩))))
         go_meet
         case rel=>exact ⟨_,(true),(sq),H',⟨by have:=HK1.out;first | omega | exact Nat.le_refl _⟩,⟨by (with_reducible repeat (first | refine jf ?_ _ | refine jk ?_ | refine jg ?_ _));refine jaa ?_ NB213_216.out _;(with_reducible repeat (first | refine jf ?_ _ | refine jk ?_ | refine jg ?_ _));refine jaa ?_ NB213_216.out _;(with_reducible repeat (first | refine jf ?_ _ | refine jk ?_ | refine jg ?_ _));refine jaa ?_ NB213_216.out _;(with_reducible repeat (first | refine jf ?_ _ | refine jk ?_ | refine jg ?_ _));refine jaa ?_ NB213_216.out _;(with_reducible repeat (first | refine jf ?_ _ | refine jk ?_ | refine jg ?_ _));exact BK213.out⟩,⟨by (with_reducible repeat (first | refine jf ?_ _ | refine jk ?_ | refine jg ?_ _));refine jT (cs:=#[.int .i64 ((ja l1 x10_1).f0), .bool ((ja l1 x10_1).f1), .int .i64 ((ja l1 x10_1).f2), .int .i64 0]) ?_ 3 _ rfl;(with_reducible repeat (first | refine jf ?_ _ | refine jk ?_ | refine jg ?_ _));refine jT (cs:=#[.int .i64 ((ja l1 x10_1).f0), .bool ((ja l1 x10_1).f1), .int .i64 0, .int .i64 0]) ?_ 2 _ rfl;(with_reducible repeat (first | refine jf ?_ _ | refine jk ?_ | refine jg ?_ _));refine jT (cs:=#[.int .i64 ((ja l1 x10_1).f0), .bool false, .int .i64 0, .int .i64 0]) ?_ 1 _ rfl;(with_reducible repeat (first | refine jf ?_ _ | refine jk ?_ | refine jg ?_ _));refine jT (cs:=#[.int .i64 0, .bool false, .int .i64 0, .int .i64 0]) ?_ 0 _ rfl;(with_reducible repeat (first | refine jf ?_ _ | refine jk ?_ | refine jg ?_ _));exact BK216.out⟩,⟨Y4⟩⟩
       ·replace c12:=Bool.eq_false_iff.mpr c12
        subst c12
        have H1:(je.j1 k1 l1 x10_1 l1 (l1.length:Int) x10_1 true l0_0 ((ja l1 x10_1).f0) ((ja l1 x10_1).f1) ((ja l1 x10_1).f2) ((ja l1 x10_1).f3))=some r:=by rw [if_neg (show ¬ (false=true) by decide)] at H;exact H
        clear H
        have H:=H1
        clear H1
        have H':=am H
        clear H
        have hnb19:=NB216_213.out
        have hnc19:=NB213_216.out
        have hcz20_0:=bc0 BK216.out
        have hcz20_1:=bc1 BK216.out
        have hcz20_2:=bc2 BK216.out
        have hcz20_3:=bc3 BK216.out
        have hfz20_0:=jb BK216.out 0
        have hfz20_1:=jb BK216.out 1
        have hfz20_2:=jb BK216.out 2
        have hfz20_3:=jb BK216.out 3
        go_wp2_with (first |(go_at_call 43;(with_reducible refine (jua.calls ((ja l1 x10_1).f3) false _ A11.out).mono ?_);rintro e w' ⟨rfl,⟨nd,rfl⟩⟩;(try first | exact ⟨rfl,_,World.drewN_drewN _ _ _⟩ | exact ⟨rfl,_,Eq.trans (World.drewN_drewN _ _ _) (congrArg (World.drewN _) (Nat.add_assoc _ _ _))⟩)))
        repeat (go_quiet (first |(go_at_call 43;(with_reducible refine (jua.calls ((ja l1 x10_1).f3) false _ A11.out).mono ?_);rintro e w' ⟨rfl,⟨nd,rfl⟩⟩;(try first | exact ⟨rfl,_,World.drewN_drewN _ _ _⟩ | exact ⟨rfl,_,Eq.trans (World.drewN_drewN _ _ _) (congrArg (World.drewN _) (Nat.add_assoc _ _ _))⟩)));try go_wp2_with (first |(go_at_call 43;(with_reducible refine (jua.calls ((ja l1 x10_1).f3) false _ A11.out).mono ?_);rintro e w' ⟨rfl,⟨nd,rfl⟩⟩;(try first | exact ⟨rfl,_,World.drewN_drewN _ _ _⟩ | exact ⟨rfl,_,Eq.trans (World.drewN_drewN _ _ _) (congrArg (World.drewN _) (Nat.add_assoc _ _ _))⟩))))
        go_meet
        case rel=>exact ⟨_,(true),(sq),H',⟨by have:=HK1.out;first | omega | exact Nat.le_refl _⟩,⟨by (with_reducible repeat (first | refine jf ?_ _ | refine jk ?_ | refine jg ?_ _));refine jaa ?_ NB213_216.out _;(with_reducible repeat (first | refine jf ?_ _ | refine jk ?_ | refine jg ?_ _));refine jaa ?_ NB213_216.out _;(with_reducible repeat (first | refine jf ?_ _ | refine jk ?_ | refine jg ?_ _));refine jaa ?_ NB213_216.out _;(with_reducible repeat (first | refine jf ?_ _ | refine jk ?_ | refine jg ?_ _));refine jaa ?_ NB213_216.out _;(with_reducible repeat (first | refine jf ?_ _ | refine jk ?_ | refine jg ?_ _));exact BK213.out⟩,⟨by (with_reducible repeat (first | refine jf ?_ _ | refine jk ?_ | refine jg ?_ _));refine jT (cs:=#[.int .i64 ((ja l1 x10_1).f0), .bool ((ja l1 x10_1).f1), .int .i64 ((ja l1 x10_1).f2), .int .i64 0]) ?_ 3 _ rfl;(with_reducible repeat (first | refine jf ?_ _ | refine jk ?_ | refine jg ?_ _));refine jT (cs:=#[.int .i64 ((ja l1 x10_1).f0), .bool ((ja l1 x10_1).f1), .int .i64 0, .int .i64 0]) ?_ 2 _ rfl;(with_reducible repeat (first | refine jf ?_ _ | refine jk ?_ | refine jg ?_ _));refine jT (cs:=#[.int .i64 ((ja l1 x10_1).f0), .bool false, .int .i64 0, .int .i64 0]) ?_ 1 _ rfl;(with_reducible repeat (first | refine jf ?_ _ | refine jk ?_ | refine jg ?_ _));refine jT (cs:=#[.int .i64 0, .bool false, .int .i64 0, .int .i64 0]) ?_ 0 _ rfl;(with_reducible repeat (first | refine jf ?_ _ | refine jk ?_ | refine jg ?_ _));exact BK216.out⟩,⟨Y4⟩⟩
      case rest =>
       clear HC7
       try clear c1
       try clear p2
       try clear q2
       try clear hx2
       try clear c3
       try clear c4
       try clear c4b0
       try clear c5
       try clear c5b0
       try clear c6
       try clear c6b0
       try clear c9
       try clear c12
       try clear c14
       try clear c15
       try clear c17
       try clear c19
       try clear hcz10_0
       try clear hcz10_1
       try clear hcz10_2
       try clear hcz10_3
       try clear hcz16_0
       try clear hcz16_1
       try clear hcz16_2
       try clear hcz16_3
       try clear hcz18_0
       try clear hcz18_1
       try clear hcz18_2
       try clear hcz18_3
       try clear hcz20_0
       try clear hcz20_1
       try clear hcz20_2
       try clear hcz20_3
       try clear hfz10_0
       try clear hfz10_1
       try clear hfz10_2
       try clear hfz10_3
       try clear hfz16_0
       try clear hfz16_1
       try clear hfz16_2
       try clear hfz16_3
       try clear hfz18_0
       try clear hfz18_1
       try clear hfz18_2
       try clear hfz18_3
       try clear hfz20_0
       try clear hfz20_1
       try clear hfz20_2
       try clear hfz20_3
       try clear hx215_0
       try clear hx215_1
       try clear hx215_2
       try clear hx215_3
       try clear p2
       try clear p215
       try clear q215
       obtain ⟨kq,x32_6,rfl,HA,HJ6,BK213,BK216,HB⟩:=hcut
       cases kq with
       | zero=>exact absurd HA.out (by simp [je.j1])
       | succ kj6 =>
        have H:=HA.out
        clear HA
        simp only [je.j1] at H
        by_cases c21:x32_6=true
        ·subst c21
         have H1:(some false)=some r:=by rw [if_pos rfl] at H;exact H
         clear H
         have H:=H1
         clear H1
         obtain rfl:=Option.some.inj H
         go_wp2
         repeat (go_quiet (fail);try go_wp2)
         go_ret
         exact ⟨Y1,Y4⟩
        ·replace c21:=Bool.eq_false_iff.mpr c21
         subst c21
         have H1:(if x10_1 > 0 then (if 0≤(wrap64 (x10_1 - 1)) then (if (wrap64 (x10_1 - 1))<(l1.length:Int) then (if ((ja l1 x10_1).f0) > ((ja l1 (wrap64 (x10_1 - 1))).f0) then (if (ja l1 (wrap64 (x10_1 - 1))).f1=true then (je.j2 kj6 l1 x10_1 l1 (l1.length:Int) x10_1 (!(((ja l1 x10_1).f0) == (wrap64 (((ja l1 (wrap64 (x10_1 - 1))).f0)+1)))) l0_0 ((ja l1 x10_1).f0) ((ja l1 x10_1).f1) ((ja l1 x10_1).f2) ((ja l1 x10_1).f3)) else (je.j2 kj6 l1 x10_1 l1 (l1.length:Int) x10_1 (!false) l0_0 ((ja l1 x10_1).f0) ((ja l1 x10_1).f1) ((ja l1 x10_1).f2) ((ja l1 x10_1).f3))) else (je.j2 kj6 l1 x10_1 l1 (l1.length:Int) x10_1 false l0_0 ((ja l1 x10_1).f0) ((ja l1 x10_1).f1) ((ja l1 x10_1).f2) ((ja l1 x10_1).f3))) else (none)) else (none)) else (je.j2 kj6 l1 x10_1 l1 (l1.length:Int) x10_1 false l0_0 ((ja l1 x10_1).f0) ((ja l1 x10_1).f1) ((ja l1 x10_1).f2) ((ja l1 x10_1).f3)))=some r:=by rw [if_neg (show ¬ (false=true) by decide)] at H;exact H
         clear H
         have H:=H1
         clear H1
         have HC22:=am H
         clear H
         go_upto_region 6 with (fail)
         repeat (go_quiet (fail);go_upto_region 6 with (fail))
         go_cut [66] (fun v66 wc=>∃ (kq:Nat) (x66_21:Bool),v66=.bool x66_21∧jH (je.j2 kq l1 x10_1 l1 (l1.length:Int) x10_1 x66_21 l0_0 ((ja l1 x10_1).f0) ((ja l1 x10_1).f1) ((ja l1 x10_1).f2) ((ja l1 x10_1).f3)=some r)∧jH (kq≤kj6)∧jH (wc.heap[gb213]?=some (.cells #[(.slice A0_0 l0_0.length c0_0)] 31 (0,0)))∧jH (wc.heap[gb216]?=some (.cells #[.int .i64 ((ja l1 x10_1).f0), .bool ((ja l1 x10_1).f1), .int .i64 ((ja l1 x10_1).f2), .int .i64 ((ja l1 x10_1).f3)] 42 (0,0)))∧jH (Below w.heap.size w wc))
         case first =>
          have H:=HC22.out
          clear HC22
          by_cases c23:x10_1 > 0
          ·rw [if_pos c23] at H
           have c23b0:decide (0<x10_1)=true:=dzT c23
           clear c23
           (first | rw [c23b0] |(simp only [jRa,jYa];rw [c23b0]) | skip)
           obtain ⟨ji24,hji24⟩:∃ j_:Int,(wrap64 (x10_1 - 1))=j_:=⟨_,rfl⟩
           replace H:(if 0≤(ji24) then (if (ji24)<(l1.length:Int) then (if ((ja l1 x10_1).f0) > ((ja l1 (ji24)).f0) then (if (ja l1 (ji24)).f1=true then (je.j2 kj6 l1 x10_1 l1 (l1.length:Int) x10_1 (!(((ja l1 x10_1).f0) == (wrap64 (((ja l1 (ji24)).f0)+1)))) l0_0 ((ja l1 x10_1).f0) ((ja l1 x10_1).f1) ((ja l1 x10_1).f2) ((ja l1 x10_1).f3)) else (je.j2 kj6 l1 x10_1 l1 (l1.length:Int) x10_1 (!false) l0_0 ((ja l1 x10_1).f0) ((ja l1 x10_1).f1) ((ja l1 x10_1).f2) ((ja l1 x10_1).f3))) else (je.j2 kj6 l1 x10_1 l1 (l1.length:Int) x10_1 false l0_0 ((ja l1 x10_1).f0) ((ja l1 x10_1).f1) ((ja l1 x10_1).f2) ((ja l1 x10_1).f3))) else (none)) else (none))=some r:=by first |(rw [hji24] at H;exact H) |(simp only [hji24] at H ⊢;exact H)
           have hji24w:(IntKind.i64.wrap (x10_1 - 1))=ji24:=(jRa _).trans hji24
           by_cases c25:0≤(ji24)
           ·rw [if_pos c25] at H
            have c25b0:decide (0≤(ji24))=true:=dzT c25
            clear c25
            by_cases c26:(ji24)<(l1.length:Int)
            ·rw [if_pos c26] at H
             have c26b0:decide ((ji24)<(l1.length:Int))=true:=dzT c26
             clear c26
             by_cases c27:((ja l1 x10_1).f0) > ((ja l1 (ji24)).f0)
             ·rw [if_pos c27] at H
              have c27b0:decide (((ja l1 (ji24)).f0)<((ja l1 x10_1).f0))=true:=dzT c27
              clear c27
              obtain ⟨bq28,hbq28⟩:∃ b_:Bool,b_=((ja l1 (ji24)).f1):=⟨_,rfl⟩
              replace H:(if bq28=true then (je.j2 kj6 l1 x10_1 l1 (l1.length:Int) x10_1 (!(((ja l1 x10_1).f0) == (wrap64 (((ja l1 (ji24)).f0)+1)))) l0_0 ((ja l1 x10_1).f0) ((ja l1 x10_1).f1) ((ja l1 x10_1).f2) ((ja l1 x10_1).f3)) else (je.j2 kj6 l1 x10_1 l1 (l1.length:Int) x10_1 (!false) l0_0 ((ja l1 x10_1).f0) ((ja l1 x10_1).f1) ((ja l1 x10_1).f2) ((ja l1 x10_1).f3)))=some r:=by rw [← hbq28] at H;exact H
              have Nbq28:=am hbq28
              clear hbq28
              by_cases c29:bq28=true
              ·subst c29
               have H1:(je.j2 kj6 l1 x10_1 l1 (l1.length:Int) x10_1 (!(((ja l1 x10_1).f0) == (wrap64 (((ja l1 (ji24)).f0)+1)))) l0_0 ((ja l1 x10_1).f0) ((ja l1 x10_1).f1) ((ja l1 x10_1).f2) ((ja l1 x10_1).f3))=some r:=by rw [if_pos rfl] at H;exact H
               clear H
               have H:=H1
               clear H1
               have H':=am H
               clear H
               have hnb30:=NB216_213.out
               have hnc30:=NB213_216.out
               have hcz31_0:=bc0 BK216.out
               have hcz31_1:=bc1 BK216.out
               have hcz31_2:=bc2 BK216.out
               have hcz31_3:=bc3 BK216.out
               have hfz31_0:=jb BK216.out 0
               have hfz31_1:=jb BK216.out 1
               have hfz31_2:=jb BK216.out 2
               have hfz31_3:=jb BK216.out 3
               have p219:0≤((ji24):Int):=ozD (uq)
               have q219:(ji24)<(l1.length:Int):=ozD (uq)
               obtain ⟨ad219,e219,hx219_0,hx219_1,hx219_2,hx219_3⟩:=jpa HR1.out (ji24) p219 q219
               (try rw [← Nbq28.out] at hx219_1)
               obtain rfl:ad215=ad219:=(by injection e219)
               replace hx219_0:=cb HB.out hx219_0
               replace hx219_1:=cb HB.out hx219_1
               replace hx219_2:=cb HB.out hx219_2
               replace hx219_3:=cb HB.out hx219_3
               replace p219:=ezT p219
               replace q219:=ezT q219
               have p220:0≤((ji24):Int):=ozD (uq)
               have q220:(ji24)<(l1.length:Int):=ozD (uq)
               obtain ⟨ad220,e220,hx220_0,hx220_1,hx220_2,hx220_3⟩:=jpa HR1.out (ji24) p220 q220
               (try rw [← Nbq28.out] at hx220_1)
               obtain rfl:ad215=ad220:=(by injection e220)
               replace hx220_0:=cb HB.out hx220_0
               replace hx220_1:=cb HB.out hx220_1
               replace hx220_2:=cb HB.out hx220_2
               replace hx220_3:=cb HB.out hx220_3
               replace p220:=ezT p220
               replace q220:=ezT q220
               have p221:0≤((ji24):Int):=ozD (uq)
               have q221:(ji24)<(l1.length:Int):=ozD (uq)
               obtain ⟨ad221,e221,hx221_0,hx221_1,hx221_2,hx221_3⟩:=jpa HR1.out (ji24) p221 q221
               (try rw [← Nbq28.out] at hx221_1)
               obtain rfl:ad215=ad221:=(by injection e221)
               replace hx221_0:=cb HB.out hx221_0
               replace hx221_1:=cb HB.out hx221_1
               replace hx221_2:=cb HB.out hx221_2
               replace hx221_3:=cb HB.out hx221_3
               replace p221:=ezT p221
               replace q221:=ezT q221
               go_wp2
               repeat (go_quiet (fail);try go_wp2)
               go_meet
               case rel=>((try rw [← Nbq28.out]);exact ⟨_,(!(((ja l1 x10_1).f0) == (wrap64 (((ja l1 (ji24)).f0)+1)))),(by first | rfl |(simp;done) |(simp only [← hji24] <;> (first | rfl | simp)) |(simp [*];done)),H',⟨by have:=HK1.out;have:=HJ6.out;first | omega | exact Nat.le_refl _⟩,⟨kq BK213.out⟩,⟨kq BK216.out⟩,⟨Y4⟩⟩)
              ·replace c29:=Bool.eq_false_iff.mpr c29
               subst c29
               have H1:(je.j2 kj6 l1 x10_1 l1 (l1.length:Int) x10_1 (!false) l0_0 ((ja l1 x10_1).f0) ((ja l1 x10_1).f1) ((ja l1 x10_1).f2) ((ja l1 x10_1).f3))=some r:=by rw [if_neg (show ¬ (false=true) by decide)] at H;exact H
               clear H
               have H:=H1
               clear H1
               have H':=am H
               clear H
               have hnb32:=NB216_213.out
               have hnc32:=NB213_216.out
               have hcz33_0:=bc0 BK216.out
               have hcz33_1:=bc1 BK216.out
               have hcz33_2:=bc2 BK216.out
               have hcz33_3:=bc3 BK216.out
               have hfz33_0:=jb BK216.out 0
               have hfz33_1:=jb BK216.out 1
               have hfz33_2:=jb BK216.out 2
               have hfz33_3:=jb BK216.out 3
               have p219:0≤((ji24):Int):=ozD (uq)
               have q219:(ji24)<(l1.length:Int):=ozD (uq)
               obtain ⟨ad219,e219,hx219_0,hx219_1,hx219_2,hx219_3⟩:=jpa HR1.out (ji24) p219 q219
               (try rw [← Nbq28.out] at hx219_1)
               obtain rfl:ad215=ad219:=(by injection e219)
               replace hx219_0:=cb HB.out hx219_0
               replace hx219_1:=cb HB.out hx219_1
               replace hx219_2:=cb HB.out hx219_2
               replace hx219_3:=cb HB.out hx219_3
               replace p219:=ezT p219
               replace q219:=ezT q219
               have p220:0≤((ji24):Int):=ozD (uq)
               have q220:(ji24)<(l1.length:Int):=ozD (uq)
               obtain ⟨ad220,e220,hx220_0,hx220_1,hx220_2,hx220_3⟩:=jpa HR1.out (ji24) p220 q220
               (try rw [← Nbq28.out] at hx220_1)
               obtain rfl:ad215=ad220:=(by injection e220)
               replace hx220_0:=cb HB.out hx220_0
               replace hx220_1:=cb HB.out hx220_1
               replace hx220_2:=cb HB.out hx220_2
               replace hx220_3:=cb HB.out hx220_3
               replace p220:=ezT p220
               replace q220:=ezT q220
               go_wp2
               repeat (go_quiet (fail);try go_wp2)
               go_meet
               case rel=>((try rw [← Nbq28.out]);exact ⟨_,(!false),(sq),H',⟨by have:=HK1.out;have:=HJ6.out;first | omega | exact Nat.le_refl _⟩,⟨kq BK213.out⟩,⟨kq BK216.out⟩,⟨Y4⟩⟩)
             ·rw [if_neg c27] at H
              have c27b0:decide (((ja l1 (ji24)).f0)<((ja l1 x10_1).f0))=false:=dzF c27
              clear c27
              have H':=am H
              clear H
              have hnb34:=NB216_213.out
              have hnc34:=NB213_216.out
              have hcz35_0:=bc0 BK216.out
              have hcz35_1:=bc1 BK216.out
              have hcz35_2:=bc2 BK216.out
              have hcz35_3:=bc3 BK216.out
              have hfz35_0:=jb BK216.out 0
              have hfz35_1:=jb BK216.out 1
              have hfz35_2:=jb BK216.out 2
              have hfz35_3:=jb BK216.out 3
              have p219:0≤((ji24):Int):=ozD (uq)
              have q219:(ji24)<(l1.length:Int):=ozD (uq)
              obtain ⟨ad219,e219,hx219_0,hx219_1,hx219_2,hx219_3⟩:=jpa HR1.out (ji24) p219 q219
              obtain rfl:ad215=ad219:=(by injection e219)
              replace hx219_0:=cb HB.out hx219_0
              replace hx219_1:=cb HB.out hx219_1
              replace hx219_2:=cb HB.out hx219_2
              replace hx219_3:=cb HB.out hx219_3
              replace p219:=ezT p219
              replace q219:=ezT q219
              go_wp2
              repeat (go_quiet (fail);try go_wp2)
              go_meet
              case rel=>exact ⟨_,(false),(sq),H',⟨by have:=HK1.out;have:=HJ6.out;first | omega | exact Nat.le_refl _⟩,⟨kq BK213.out⟩,⟨kq BK216.out⟩,⟨Y4⟩⟩
            ·rw [if_neg c26] at H
             exact absurd H (by simp)
           ·rw [if_neg c25] at H
            exact absurd H (by simp)
          ·rw [if_neg c23] at H
           have c23b0:decide (0<x10_1)=false:=dzF c23
           clear c23
           (first | rw [c23b0] |(simp only [jRa,jYa];rw [c23b0]) | skip)
           have H':=am H
           clear H
           go_wp2
           repeat (go_quiet (fail);try go_wp2)
           go_meet
           case rel=>exact ⟨_,(false),(sq),H',⟨by have:=HK1.out;have:=HJ6.out;first | omega | exact Nat.le_refl _⟩,⟨kq BK213.out⟩,⟨kq BK216.out⟩,⟨Y4⟩⟩
         case rest =>
          clear HC22
          try clear c1
          try clear c2
          try clear p2
          try clear q2
          try clear hx2
          try clear c3
          try clear c4
          try clear c4b0
          try clear c5
          try clear c5b0
          try clear c6
          try clear c6b0
          try clear p6
          try clear c9
          try clear c12
          try clear c14
          try clear c15
          try clear c17
          try clear c19
          try clear c21
          try clear p21
          try clear q21
          try clear hx21
          try clear p22
          try clear q22
          try clear hx22
          try clear c23
          try clear c23b0
          try clear c25
          try clear c25b0
          try clear c26
          try clear c26b0
          try clear c27
          try clear c27b0
          try clear q28
          try clear c29
          try clear c30
          try clear c31
          try clear c32
          try clear c34
          try clear hcz10_0
          try clear hcz10_1
          try clear hcz10_2
          try clear hcz10_3
          try clear hcz16_0
          try clear hcz16_1
          try clear hcz16_2
          try clear hcz16_3
          try clear hcz18_0
          try clear hcz18_1
          try clear hcz18_2
          try clear hcz18_3
          try clear hcz20_0
          try clear hcz20_1
          try clear hcz20_2
          try clear hcz20_3
          try clear hcz31_0
          try clear hcz31_1
          try clear hcz31_2
          try clear hcz31_3
          try clear hcz33_0
          try clear hcz33_1
          try clear hcz33_2
          try clear hcz33_3
          try clear hcz35_0
          try clear hcz35_1
          try clear hcz35_2
          try clear hcz35_3
          try clear hfz10_0
          try clear hfz10_1
          try clear hfz10_2
          try clear hfz10_3
          try clear hfz16_0
          try clear hfz16_1
          try clear hfz16_2
          try clear hfz16_3
          try clear hfz18_0
          try clear hfz18_1
          try clear hfz18_2
          try clear hfz18_3
          try clear hfz20_0
          try clear hfz20_1
          try clear hfz20_2
          try clear hfz20_3
          try clear hfz31_0
          try clear hfz31_1
          try clear hfz31_2
          try clear hfz31_3
          try clear hfz33_0
          try clear hfz33_1
          try clear hfz33_2
          try clear hfz33_3
          try clear hfz35_0
          try clear hfz35_1
          try clear hfz35_2
          try clear hfz35_3
          try clear hx215_0
          try clear hx215_1
          try clear hx215_2
          try clear hx215_3
          try clear hx219_0
          try clear hx219_1
          try clear hx219_2
          try clear hx219_3
          try clear hx220_0
          try clear hx220_1
          try clear hx220_2
          try clear hx220_3
          try clear hx221_0
          try clear hx221_1
          try clear hx221_2
          try clear hx221_3
          try clear p2
          try clear p215
          try clear p219
          try clear p220
          try clear p221
          try clear q2
          try clear q215
          try clear q219
          try clear q220
          try clear q221
          obtain ⟨kq,x66_21,rfl,HA,HJ21,BK213,BK216,HB⟩:=hcut
          cases kq with
          | zero=>exact absurd HA.out (by simp [je.j2])
          | succ kj21 =>
           have H:=HA.out
           clear HA
           simp only [je.j2] at H
           by_cases c36:x66_21=true
           ·subst c36
            have H1:(some false)=some r:=by rw [if_pos rfl] at H;exact H
            clear H
            have H:=H1
            clear H1
            obtain rfl:=Option.some.inj H
            go_wp2
            repeat (go_quiet (fail);try go_wp2)
            go_ret
            exact ⟨Y1,Y4⟩
           ·replace c36:=Bool.eq_false_iff.mpr c36
            subst c36
            have H1:(if (wrap64 (x10_1+1))<(l1.length:Int) then (if 0≤(wrap64 (x10_1+1)) then (if ((ja l1 x10_1).f1)=true then (if ((ja l1 x10_1).f2)=0 then (if (((ja l1 (wrap64 (x10_1+1))).f0) > ((ja l1 x10_1).f0)) then (je.j3 kj21 l1 l1 (l1.length:Int) x10_1 false l0_0) else (je.j3 kj21 l1 l1 (l1.length:Int) x10_1 true l0_0)) else (je.j3 kj21 l1 l1 (l1.length:Int) x10_1 true l0_0)) else ((jja.f l0_0 ((ja l1 x10_1).f2)).bind fun t223=>(je.j3 kj21 l1 l1 (l1.length:Int) x10_1 (!t223) l0_0))) else (none)) else (if ((ja l1 x10_1).f1)=true then (if ((ja l1 x10_1).f2)=0 then (je.j4 kj21 l1 l1 (l1.length:Int) x10_1 true l0_0) else (je.j4 kj21 l1 l1 (l1.length:Int) x10_1 true l0_0)) else ((jja.f l0_0 ((ja l1 x10_1).f2)).bind fun t224=>(je.j4 kj21 l1 l1 (l1.length:Int) x10_1 (!t224) l0_0))))=some r:=by rw [if_neg (show ¬ (false=true) by decide)] at H;exact H
            clear H
            have H:=H1
            clear H1
            by_cases c37:(wrap64 (x10_1+1))<(l1.length:Int)
            ·rw [if_pos c37] at H
             have c37b0:decide ((wrap64 (x10_1+1))<(l1.length:Int))=true:=dzT c37
             clear c37
             obtain ⟨ji38,hji38⟩:∃ j_:Int,(wrap64 (x10_1+1))=j_:=⟨_,rfl⟩
             replace H:(if 0≤(ji38) then (if ((ja l1 x10_1).f1)=true then (if ((ja l1 x10_1).f2)=0 then (if (((ja l1 (ji38)).f0) > ((ja l1 x10_1).f0)) then (je.j3 kj21 l1 l1 (l1.length:Int) x10_1 false l0_0) else (je.j3 kj21 l1 l1 (l1.length:Int) x10_1 true l0_0)) else (je.j3 kj21 l1 l1 (l1.length:Int) x10_1 true l0_0)) else ((jja.f l0_0 ((ja l1 x10_1).f2)).bind fun t223=>(je.j3 kj21 l1 l1 (l1.length:Int) x10_1 (!t223) l0_0))) else (none))=some r:=by first |(rw [hji38] at H;exact H) |(simp only [hji38] at H ⊢;exact H)
             (try rw [hji38] at c37b0)
             have hji38w:(IntKind.i64.wrap (x10_1+1))=ji38:=(jRa _).trans hji38
             by_cases c39:0≤(ji38)
             ·rw [if_pos c39] at H
              have c39b0:decide (0≤(ji38))=true:=dzT c39
              clear c39
              have HC40:=am H
              clear H
              have p222:0≤((ji38):Int):=ozD (uq)
              have q222:(ji38)<(l1.length:Int):=ozD (uq)
              obtain ⟨ad222,e222,hx222_0,hx222_1,hx222_2,hx222_3⟩:=jpa HR1.out (ji38) p222 q222
              obtain rfl:ad215=ad222:=(by injection e222)
              replace hx222_0:=cb HB.out hx222_0
              replace hx222_1:=cb HB.out hx222_1
              replace hx222_2:=cb HB.out hx222_2
              replace hx222_3:=cb HB.out hx222_3
              replace p222:=ezT p222
              replace q222:=ezT q222
              have hnb41:=NB216_213.out
              have hnc41:=NB213_216.out
              have hcz42_0:=bc0 BK216.out
              have hcz42_1:=bc1 BK216.out
              have hcz42_2:=bc2 BK216.out
              have hcz42_3:=bc3 BK216.out
              have hfz42_0:=jb BK216.out 0
              have hfz42_1:=jb BK216.out 1
              have hfz42_2:=jb BK216.out 2
              have hfz42_3:=jb BK216.out 3
              go_upto_region 9 with (fail)
              repeat (go_quiet (fail);go_upto_region 9 with (fail))
              go_cut [105] (fun v105 wc=>∃ (kq:Nat) (x105_39:Bool),v105=.bool x105_39∧jH (je.j3 kq l1 l1 (l1.length:Int) x10_1 x105_39 l0_0=some r)∧jH (kq≤kj21)∧jH (wc.heap[gb213]?=some (.cells #[(.slice A0_0 l0_0.length c0_0)] 31 (0,0)))∧jH (wc.heap[gb216]?=some (.cells #[.int .i64 ((ja l1 x10_1).f0), .bool ((ja l1 x10_1).f1), .int .i64 ((ja l1 x10_1).f2), .int .i64 ((ja l1 x10_1).f3)] 42 (0,0)))∧jH (Below w.heap.size w wc))
              case first =>
               have H:=HC40.out
               clear HC40
               by_cases c43:((ja l1 x10_1).f1)=true
               ·rw [if_pos c43] at H
                have c43b0:((ja l1 x10_1).f1)=true:=c43
                clear c43
                (first | rw [c43b0] |(simp only [jRa,jYa];rw [c43b0]) | skip)
                by_cases c44:((ja l1 x10_1).f2)=0
                ·rw [if_pos c44] at H
                 have c44b0:(((ja l1 x10_1).f2) == 0)=true:=beq_iff_eq.mpr c44
                 have c44b1:(((ja l1 x10_1).f2) != 0)=false:=bne_eq_false_iff_eq.mpr c44
                 clear c44
                 by_cases c45:(((ja l1 (ji38)).f0) > ((ja l1 x10_1).f0))
                 ·rw [if_pos c45] at H
                  have c45b0:decide (((ja l1 x10_1).f0)<((ja l1 (ji38)).f0))=true:=dzT c45
                  clear c45
                  have H':=am H
                  clear H
                  have hnb46:=NB216_213.out
                  have hnc46:=NB213_216.out
                  have hcz47_0:=bc0 BK216.out
                  have hcz47_1:=bc1 BK216.out
                  have hcz47_2:=bc2 BK216.out
                  have hcz47_3:=bc3 BK216.out
                  have hfz47_0:=jb BK216.out 0
                  have hfz47_1:=jb BK216.out 1
                  have hfz47_2:=jb BK216.out 2
                  have hfz47_3:=jb BK216.out 3
                  go_wp2
                  repeat (go_quiet (fail);try go_wp2)
                  go_meet
                  case rel=>exact ⟨_,(false),(sq),H',⟨by have:=HK1.out;have:=HJ6.out;have:=HJ21.out;first | omega | exact Nat.le_refl _⟩,⟨kq BK213.out⟩,⟨kq BK216.out⟩,⟨Y4⟩⟩
                 ·rw [if_neg c45] at H
                  have c45b0:decide (((ja l1 x10_1).f0)<((ja l1 (ji38)).f0))=false:=dzF c45
                  clear c45
                  have H':=am H
                  clear H
                  have hnb48:=NB216_213.out
                  have hnc48:=NB213_216.out
                  have hcz49_0:=bc0 BK216.out
                  have hcz49_1:=bc1 BK216.out
                  have hcz49_2:=bc2 BK216.out
                  have hcz49_3:=bc3 BK216.out
                  have hfz49_0:=jb BK216.out 0
                  have hfz49_1:=jb BK216.out 1
                  have hfz49_2:=jb BK216.out 2
                  have hfz49_3:=jb BK216.out 3
                  go_wp2
                  repeat (go_quiet (fail);try go_wp2)
                  go_meet
                  case rel=>exact ⟨_,(true),(sq),H',⟨by have:=HK1.out;have:=HJ6.out;have:=HJ21.out;first | omega | exact Nat.le_refl _⟩,⟨kq BK213.out⟩,⟨kq BK216.out⟩,⟨Y4⟩⟩
                ·rw [if_neg c44] at H
                 have c44b0:(((ja l1 x10_1).f2) == 0)=false:=beq_eq_false_iff_ne.mpr c44
                 have c44b1:(((ja l1 x10_1).f2) != 0)=true:=bne_iff_ne.mpr c44
                 have H':=am H
                 clear H
                 have hnb50:=NB216_213.out
                 have hnc50:=NB213_216.out
                 have hcz51_0:=bc0 BK216.out
                 have hcz51_1:=bc1 BK216.out
                 have hcz51_2:=bc2 BK216.out
                 have hcz51_3:=bc3 BK216.out
                 have hfz51_0:=jb BK216.out 0
                 have hfz51_1:=jb BK216.out 1
                 have hfz51_2:=jb BK216.out 2
                 have hfz51_3:=jb BK216.out 3
                 go_wp2
                 repeat (go_quiet (fail);try go_wp2)
                 go_meet
                 case rel=>exact ⟨_,(true),(sq),H',⟨by have:=HK1.out;have:=HJ6.out;have:=HJ21.out;first | omega | exact Nat.le_refl _⟩,⟨kq BK213.out⟩,⟨kq BK216.out⟩,⟨Y4⟩⟩
               ·rw [if_neg c43] at H
                have c43b0:((ja l1 x10_1).f1)=false:=by simpa using c43
                clear c43
                (first | rw [c43b0] |(simp only [jRa,jYa];rw [c43b0]) | skip)
                replace H:=bzS H
                obtain ⟨t223,A520,H⟩:=H
                replace H:(je.j3 kj21 l1 l1 (l1.length:Int) x10_1 (!t223) l0_0)=some r:=H
                have A52:=am A520
                clear A520
                have H':=am H
                clear H
                have hnb53:=NB216_213.out
                have hnc53:=NB213_216.out
                have hcz54_0:=bc0 BK216.out
                have hcz54_1:=bc1 BK216.out
                have hcz54_2:=bc2 BK216.out
                have hcz54_3:=bc3 BK216.out
                have hfz54_0:=jb BK216.out 0
                have hfz54_1:=jb BK216.out 1
                have hfz54_2:=jb BK216.out 2
                have hfz54_3:=jb BK216.out 3
                have hcz55_0:=bc0 BK213.out
                have hfz55_0:=jb BK213.out 0
                go_wp2_with (first |(go_at_call 44;(with_reducible refine (jja.calls _ _ l0_0 ((ja l1 x10_1).f2) t223 _ ?side1 ?side2 A52.out).mono ?_);(case side1=>exact cq (Kd.jG HR0_0.out HB.out));(case side2=>exact HC0_0.out);rintro e w56 ⟨rfl,hb⟩;replace BK213:=am (jh (g:=gb213) (o:=.cells #[.slice A0_0 l0_0.length c0_0] 31 (0,0)) (kq BK213.out) hb);replace BK216:=am (jh (g:=gb216) (o:=.cells #[.int .i64 ((ja l1 x10_1).f0), .bool ((ja l1 x10_1).f1), .int .i64 ((ja l1 x10_1).f2), .int .i64 ((ja l1 x10_1).f3)] 42 (0,0)) (kq BK216.out) hb);replace HB:=am (jd (Y4) hb);(try clear hb);(try clear hb2);(try clear hk);(try clear hi)))
                repeat (go_quiet (first |(go_at_call 44;(with_reducible refine (jja.calls _ _ l0_0 ((ja l1 x10_1).f2) t223 _ ?side1 ?side2 A52.out).mono ?_);(case side1=>exact cq (Kd.jG HR0_0.out HB.out));(case side2=>exact HC0_0.out);rintro e w56 ⟨rfl,hb⟩;replace BK213:=am (jh (g:=gb213) (o:=.cells #[.slice A0_0 l0_0.length c0_0] 31 (0,0)) (kq BK213.out) hb);replace BK216:=am (jh (g:=gb216) (o:=.cells #[.int .i64 ((ja l1 x10_1).f0), .bool ((ja l1 x10_1).f1), .int .i64 ((ja l1 x10_1).f2), .int .i64 ((ja l1 x10_1).f3)] 42 (0,0)) (kq BK216.out) hb);replace HB:=am (jd (Y4) hb);(try clear hb);(try clear hb2);(try clear hk);(try clear hi)));try go_wp2_with (first |(go_at_call 44;(with_reducible refine (jja.calls _ _ l0_0 ((ja l1 x10_1).f2) t223 _ ?side1 ?side2 A52.out).mono ?_);(case side1=>exact cq (Kd.jG HR0_0.out HB.out));(case side2=>exact HC0_0.out);rintro e w56 ⟨rfl,hb⟩;replace BK213:=am (jh (g:=gb213) (o:=.cells #[.slice A0_0 l0_0.length c0_0] 31 (0,0)) (kq BK213.out) hb);replace BK216:=am (jh (g:=gb216) (o:=.cells #[.int .i64 ((ja l1 x10_1).f0), .bool ((ja l1 x10_1).f1), .int .i64 ((ja l1 x10_1).f2), .int .i64 ((ja l1 x10_1).f3)] 42 (0,0)) (kq BK216.out) hb);replace HB:=am (jd (Y4) hb);(try clear hb);(try clear hb2);(try clear hk);(try clear hi))))
                go_meet
                case rel=>exact ⟨_,(!t223),(sq),H',⟨by have:=HK1.out;have:=HJ6.out;have:=HJ21.out;first | omega | exact Nat.le_refl _⟩,⟨kq BK213.out⟩,⟨kq BK216.out⟩,⟨Y4⟩⟩
              case rest =>
               clear HC40
               try clear c1
               try clear c2
               try clear p2
               try clear q2
               try clear hx2
               try clear c3
               try clear c4
               try clear c4b0
               try clear c5
               try clear c5b0
               try clear c6
               try clear c6b0
               try clear p6
               try clear c9
               try clear c12
               try clear c14
               try clear c15
               try clear c17
               try clear c19
               try clear c21
               try clear p21
               try clear q21
               try clear hx21
               try clear p22
               try clear q22
               try clear hx22
               try clear c23
               try clear c23b0
               try clear c25
               try clear c25b0
               try clear c26
               try clear c26b0
               try clear c27
               try clear c27b0
               try clear q28
               try clear c29
               try clear c30
               try clear c31
               try clear c32
               try clear c34
               try clear c36
               try clear c37
               try clear c37b0
               try clear c39
               try clear c39b0
               try clear c41
               try clear c43
               try clear c43b0
               try clear c44
               try clear c44b0
               try clear c44b1
               try clear c45
               try clear c45b0
               try clear c46
               try clear c48
               try clear c50
               try clear c53
               try clear hcz10_0
               try clear hcz10_1
               try clear hcz10_2
               try clear hcz10_3
               try clear hcz16_0
               try clear hcz16_1
               try clear hcz16_2
               try clear hcz16_3
               try clear hcz18_0
               try clear hcz18_1
               try clear hcz18_2
               try clear hcz18_3
               try clear hcz20_0
               try clear hcz20_1
               try clear hcz20_2
               try clear hcz20_3
               try clear hcz31_0
               try clear hcz31_1
               try clear hcz31_2
               try clear hcz31_3
               try clear hcz33_0
               try clear hcz33_1
               try clear hcz33_2
               try clear hcz33_3
               try clear hcz35_0
               try clear hcz35_1
               try clear hcz35_2
               try clear hcz35_3
               try clear hcz42_0
               try clear hcz42_1
               try clear hcz42_2
               try clear hcz42_3
               try clear hcz47_0
               try clear hcz47_1
               try clear hcz47_2
               try clear hcz47_3
               try clear hcz49_0
               try clear hcz49_1
               try clear hcz49_2
               try clear hcz49_3
               try clear hcz51_0
               try clear hcz51_1
               try clear hcz51_2
               try clear hcz51_3
               try clear hcz54_0
               try clear hcz54_1
               try clear hcz54_2
               try clear hcz54_3
               try clear hcz55_0
               try clear hfz10_0
               try clear hfz10_1
               try clear hfz10_2
               try clear hfz10_3
               try clear hfz16_0
               try clear hfz16_1
               try clear hfz16_2
               try clear hfz16_3
               try clear hfz18_0
               try clear hfz18_1
               try clear hfz18_2
               try clear hfz18_3
               try clear hfz20_0
               try clear hfz20_1
               try clear hfz20_2
               try clear hfz20_3
               try clear hfz31_0
               try clear hfz31_1
               try clear hfz31_2
               try clear hfz31_3
               try clear hfz33_0
               try clear hfz33_1
               try clear hfz33_2
               try clear hfz33_3
               try clear hfz35_0
               try clear hfz35_1
               try clear hfz35_2
               try clear hfz35_3
               try clear hfz42_0
               try clear hfz42_1
               try clear hfz42_2
               try clear hfz42_3
               try clear hfz47_0
               try clear hfz47_1
               try clear hfz47_2
               try clear hfz47_3
               try clear hfz49_0
               try clear hfz49_1
               try clear hfz49_2
               try clear hfz49_3
               try clear hfz51_0
               try clear hfz51_1
               try clear hfz51_2
               try clear hfz51_3
               try clear hfz54_0
               try clear hfz54_1
               try clear hfz54_2
               try clear hfz54_3
               try clear hfz55_0
               try clear hx215_0
               try clear hx215_1
               try clear hx215_2
               try clear hx215_3
               try clear hx219_0
               try clear hx219_1
               try clear hx219_2
               try clear hx219_3
               try clear hx220_0
               try clear hx220_1
               try clear hx220_2
               try clear hx220_3
               try clear hx221_0
               try clear hx221_1
               try clear hx221_2
               try clear hx221_3
               try clear hx222_0
               try clear hx222_1
               try clear hx222_2
               try clear hx222_3
               try clear p2
               try clear p21
               try clear p215
               try clear p219
               try clear p22
               try clear p220
               try clear p221
               try clear p222
               try clear p6
               try clear q2
               try clear q21
               try clear q215
               try clear q219
               try clear q22
               try clear q220
               try clear q221
               try clear q222
               try clear q28
               obtain ⟨kq,x105_39,rfl,HA,HJ39,BK213,BK216,HB⟩:=hcut
               cases kq with
               | zero=>exact absurd HA.out (by simp [je.j3])
               | succ kj39 =>
                have H:=HA.out
                clear HA
                simp only [je.j3] at H
                by_cases c57:x105_39=true
                ·subst c57
                 have H1:(some false)=some r:=by rw [if_pos rfl] at H;exact H
                 clear H
                 have H:=H1
                 clear H1
                 obtain rfl:=Option.some.inj H
                 go_wp2
                 repeat (go_quiet (fail);try go_wp2)
                 go_ret
                 exact ⟨by first | rfl |(simp [errW_none,errW_some] <;> rfl) |(simp only [← hji38];first | rfl |(simp [errW_none,errW_some] <;> rfl)) |(simp [*,errW_none,errW_some] <;> rfl),Y4⟩
                ·replace c57:=Bool.eq_false_iff.mpr c57
                 subst c57
                 have H1:(je.l0 kj39 l1 l1 (l1.length:Int) (wrap64 (x10_1+1)) l0_0)=some r:=by rw [if_neg (show ¬ (false=true) by decide)] at H;exact H
                 clear H
                 have H:=H1
                 clear H1
                 have H':=am H
                 clear H
                 go_wp2
                 repeat (go_quiet (fail);try go_wp2)
                 go_roundg kj39
                 case measure=>have:=HK1.out;have:=HJ6.out;have:=HJ21.out;have:=HJ39.out;omega
                 case rel=>exact ⟨(wrap64 (x10_1+1)),(sq),H',⟨by have:=HK1.out;have:=HJ6.out;have:=HJ21.out;have:=HJ39.out;omega⟩,⟨kq BK213.out⟩,⟨Y4⟩⟩
             ·rw [if_neg c39] at H
              exact absurd H (by simp)
            ·rw [if_neg c37] at H
             have c37b0:decide ((wrap64 (x10_1+1))<(l1.length:Int))=false:=dzF c37
             clear c37
             have HC58:=am H
             clear H
             go_upto_region 9 with (fail)
             repeat (go_quiet (fail);go_upto_region 9 with (fail))
             go_cut [105] (fun v105 wc=>∃ (kq:Nat) (x105_57:Bool),v105=.bool x105_57∧jH (je.j4 kq l1 l1 (l1.length:Int) x10_1 x105_57 l0_0=some r)∧jH (kq≤kj21)∧jH (wc.heap[gb213]?=some (.cells #[(.slice A0_0 l0_0.length c0_0)] 31 (0,0)))∧jH (wc.heap[gb216]?=some (.cells #[.int .i64 ((ja l1 x10_1).f0), .bool ((ja l1 x10_1).f1), .int .i64 ((ja l1 x10_1).f2), .int .i64 ((ja l1 x10_1).f3)] 42 (0,0)))∧jH (Below w.heap.size w wc))
             case first =>
              have H:=HC58.out
              clear HC58
              by_cases c59:((ja l1 x10_1).f1)=true
              ·rw [if_pos c59] at H
               have c59b0:((ja l1 x10_1).f1)=true:=c59
               clear c59
               (first | rw [c59b0] |(simp only [jRa,jYa];rw [c59b0]) | skip)
               by_cases c60:((ja l1 x10_1).f2)=0
               ·rw [if_pos c60] at H
                have c60b0:(((ja l1 x10_1).f2) == 0)=true:=beq_iff_eq.mpr c60
                have c60b1:(((ja l1 x10_1).f2) != 0)=false:=bne_eq_false_iff_eq.mpr c60
                clear c60
                have H':=am H
                clear H
                have hnb61:=NB216_213.out
                have hnc61:=NB213_216.out
                have hcz62_0:=bc0 BK216.out
                have hcz62_1:=bc1 BK216.out
                have hcz62_2:=bc2 BK216.out
                have hcz62_3:=bc3 BK216.out
                have hfz62_0:=jb BK216.out 0
                have hfz62_1:=jb BK216.out 1
                have hfz62_2:=jb BK216.out 2
                have hfz62_3:=jb BK216.out 3
                go_wp2
                repeat (go_quiet (fail);try go_wp2)
                go_meet
                case rel=>exact ⟨_,(true),(sq),H',⟨by have:=HK1.out;have:=HJ6.out;have:=HJ21.out;first | omega | exact Nat.le_refl _⟩,⟨kq BK213.out⟩,⟨kq BK216.out⟩,⟨Y4⟩⟩
               ·rw [if_neg c60] at H
                have c60b0:(((ja l1 x10_1).f2) == 0)=false:=beq_eq_false_iff_ne.mpr c60
                have c60b1:(((ja l1 x10_1).f2) != 0)=true:=bne_iff_ne.mpr c60
                have H':=am H
                clear H
                have hnb63:=NB216_213.out
                have hnc63:=NB213_216.out
                have hcz64_0:=bc0 BK216.out
                have hcz64_1:=bc1 BK216.out
                have hcz64_2:=bc2 BK216.out
                have hcz64_3:=bc3 BK216.out
                have hfz64_0:=jb BK216.out 0
                have hfz64_1:=jb BK216.out 1
                have hfz64_2:=jb BK216.out 2
                have hfz64_3:=jb BK216.out 3
                go_wp2
                repeat (go_quiet (fail);try go_wp2)
                go_meet
                case rel=>exact ⟨_,(true),(sq),H',⟨by have:=HK1.out;have:=HJ6.out;have:=HJ21.out;first | omega | exact Nat.le_refl _⟩,⟨kq BK213.out⟩,⟨kq BK216.out⟩,⟨Y4⟩⟩
              ·rw [if_neg c59] at H
               have c59b0:((ja l1 x10_1).f1)=false:=by simpa using c59
               clear c59
               (first | rw [c59b0] |(simp only [jRa,jYa];rw [c59b0]) | skip)
               replace H:=bzS H
               obtain ⟨t224,A650,H⟩:=H
               replace H:(je.j4 kj21 l1 l1 (l1.length:Int) x10_1 (!t224) l0_0)=some r:=H
               have A65:=am A650
               clear A650
               have H':=am H
               clear H
               have hnb66:=NB216_213.out
               have hnc66:=NB213_216.out
               have hcz67_0:=bc0 BK216.out
               have hcz67_1:=bc1 BK216.out
               have hcz67_2:=bc2 BK216.out
               have hcz67_3:=bc3 BK216.out
               have hfz67_0:=jb BK216.out 0
               have hfz67_1:=jb BK216.out 1
               have hfz67_2:=jb BK216.out 2
               have hfz67_3:=jb BK216.out 3
               have hcz68_0:=bc0 BK213.out
               have hfz68_0:=jb BK213.out 0
               go_wp2_with (first |(go_at_call 44;(with_reducible refine (jja.calls _ _ l0_0 ((ja l1 x10_1).f2) t224 _ ?side1 ?side2 A65.out).mono ?_);(case side1=>exact cq (Kd.jG HR0_0.out HB.out));(case side2=>exact HC0_0.out);rintro e w69 ⟨rfl,hb⟩;replace BK213:=am (jh (g:=gb213) (o:=.cells #[.slice A0_0 l0_0.length c0_0] 31 (0,0)) (kq BK213.out) hb);replace BK216:=am (jh (g:=gb216) (o:=.cells #[.int .i64 ((ja l1 x10_1).f0), .bool ((ja l1 x10_1).f1), .int .i64 ((ja l1 x10_1).f2), .int .i64 ((ja l1 x10_1).f3)] 42 (0,0)) (kq BK216.out) hb);replace HB:=am (jd (Y4) hb);(try clear hb);(try clear hb2);(try clear hk);(try clear hi)))
               repeat (go_quiet (first |(go_at_call 44;(with_reducible refine (jja.calls _ _ l0_0 ((ja l1 x10_1).f2) t224 _ ?side1 ?side2 A65.out).mono ?_);(case side1=>exact cq (Kd.jG HR0_0.out HB.out));(case side2=>exact HC0_0.out);rintro e w69 ⟨rfl,hb⟩;replace BK213:=am (jh (g:=gb213) (o:=.cells #[.slice A0_0 l0_0.length c0_0] 31 (0,0)) (kq BK213.out) hb);replace BK216:=am (jh (g:=gb216) (o:=.cells #[.int .i64 ((ja l1 x10_1).f0), .bool ((ja l1 x10_1).f1), .int .i64 ((ja l1 x10_1).f2), .int .i64 ((ja l1 x10_1).f3)] 42 (0,0)) (kq BK216.out) hb);replace HB:=am (jd (Y4) hb);(try clear hb);(try clear hb2);(try clear hk);(try clear hi)));try go_wp2_with (first |(go_at_call 44;(with_reducible refine (jja.calls _ _ l0_0 ((ja l1 x10_1).f2) t224 _ ?side1 ?side2 A65.out).mono ?_);(case side1=>exact cq (Kd.jG HR0_0.out HB.out));(case side2=>exact HC0_0.out);rintro e w69 ⟨rfl,hb⟩;replace BK213:=am (jh (g:=gb213) (o:=.cells #[.slice A0_0 l0_0.length c0_0] 31 (0,0)) (kq BK213.out) hb);replace BK216:=am (jh (g:=gb216) (o:=.cells #[.int .i64 ((ja l1 x10_1).f0), .bool ((ja l1 x10_1).f1), .int .i64 ((ja l1 x10_1).f2), .int .i64 ((ja l1 x10_1).f3)] 42 (0,0)) (kq BK216.out) hb);replace HB:=am (jd (Y4) hb);(try clear hb);(try clear hb2);(try clear hk);(try clear hi))))
               go_meet
               case rel=>exact ⟨_,(!t224),(sq),H',⟨by have:=HK1.out;have:=HJ6.out;have:=HJ21.out;first | omega | exact Nat.le_refl _⟩,⟨kq BK213.out⟩,⟨kq BK216.out⟩,⟨Y4⟩⟩
             case rest =>
              clear HC58
              try clear c1
              try clear c2
              try clear p2
              try clear q2
              try clear hx2
              try clear c3
              try clear c4
              try clear c4b0
              try clear c5
              try clear c5b0
              try clear c6
              try clear c6b0
              try clear p6
              try clear c9
              try clear c12
              try clear c14
              try clear c15
              try clear c17
              try clear c19
              try clear c21
              try clear p21
              try clear q21
              try clear hx21
              try clear p22
              try clear q22
              try clear hx22
              try clear c23
              try clear c23b0
              try clear c25
              try clear c25b0
              try clear c26
              try clear c26b0
              try clear c27
              try clear c27b0
              try clear q28
              try clear c29
              try clear c30
              try clear c31
              try clear c32
              try clear c34
              try clear c36
              try clear c37
              try clear c37b0
              try clear c39
              try clear c39b0
              try clear c41
              try clear c43
              try clear c43b0
              try clear c44
              try clear c44b0
              try clear c44b1
              try clear c45
              try clear c45b0
              try clear c46
              try clear c48
              try clear c50
              try clear c53
              try clear c57
              try clear c59
              try clear c59b0
              try clear c60
              try clear c60b0
              try clear c60b1
              try clear c61
              try clear c63
              try clear p64
              try clear c66
              try clear hcz10_0
              try clear hcz10_1
              try clear hcz10_2
              try clear hcz10_3
              try clear hcz16_0
              try clear hcz16_1
              try clear hcz16_2
              try clear hcz16_3
              try clear hcz18_0
              try clear hcz18_1
              try clear hcz18_2
              try clear hcz18_3
              try clear hcz20_0
              try clear hcz20_1
              try clear hcz20_2
              try clear hcz20_3
              try clear hcz31_0
              try clear hcz31_1
              try clear hcz31_2
              try clear hcz31_3
              try clear hcz33_0
              try clear hcz33_1
              try clear hcz33_2
              try clear hcz33_3
              try clear hcz35_0
              try clear hcz35_1
              try clear hcz35_2
              try clear hcz35_3
              try clear hcz42_0
              try clear hcz42_1
              try clear hcz42_2
              try clear hcz42_3
              try clear hcz47_0
              try clear hcz47_1
              try clear hcz47_2
              try clear hcz47_3
              try clear hcz49_0
              try clear hcz49_1
              try clear hcz49_2
              try clear hcz49_3
              try clear hcz51_0
              try clear hcz51_1
              try clear hcz51_2
              try clear hcz51_3
              try clear hcz54_0
              try clear hcz54_1
              try clear hcz54_2
              try clear hcz54_3
              try clear hcz55_0
              try clear hcz62_0
              try clear hcz62_1
              try clear hcz62_2
              try clear hcz62_3
              try clear hcz64_0
              try clear hcz64_1
              try clear hcz64_2
              try clear hcz64_3
              try clear hcz67_0
              try clear hcz67_1
              try clear hcz67_2
              try clear hcz67_3
              try clear hcz68_0
              try clear hfz10_0
              try clear hfz10_1
              try clear hfz10_2
              try clear hfz10_3
              try clear hfz16_0
              try clear hfz16_1
              try clear hfz16_2
              try clear hfz16_3
              try clear hfz18_0
              try clear hfz18_1
              try clear hfz18_2
              try clear hfz18_3
              try clear hfz20_0
              try clear hfz20_1
              try clear hfz20_2
              try clear hfz20_3
              try clear hfz31_0
              try clear hfz31_1
              try clear hfz31_2
              try clear hfz31_3
              try clear hfz33_0
              try clear hfz33_1
              try clear hfz33_2
              try clear hfz33_3
              try clear hfz35_0
              try clear hfz35_1
              try clear hfz35_2
              try clear hfz35_3
              try clear hfz42_0
              try clear hfz42_1
              try clear hfz42_2
              try clear hfz42_3
              try clear hfz47_0
              try clear hfz47_1
              try clear hfz47_2
              try clear hfz47_3
              try clear hfz49_0
              try clear hfz49_1
              try clear hfz49_2
              try clear hfz49_3
              try clear hfz51_0
              try clear hfz51_1
              try clear hfz51_2
              try clear hfz51_3
              try clear hfz54_0
              try clear hfz54_1
              try clear hfz54_2
              try clear hfz54_3
              try clear hfz55_0
              try clear hfz62_0
              try clear hfz62_1
              try clear hfz62_2
              try clear hfz62_3
              try clear hfz64_0
              try clear hfz64_1
              try clear hfz64_2
              try clear hfz64_3
              try clear hfz67_0
              try clear hfz67_1
              try clear hfz67_2
              try clear hfz67_3
              try clear hfz68_0
              try clear hx215_0
              try clear hx215_1
              try clear hx215_2
              try clear hx215_3
              try clear hx219_0
              try clear hx219_1
              try clear hx219_2
              try clear hx219_3
              try clear hx220_0
              try clear hx220_1
              try clear hx220_2
              try clear hx220_3
              try clear hx221_0
              try clear hx221_1
              try clear hx221_2
              try clear hx221_3
              try clear hx222_0
              try clear hx222_1
              try clear hx222_2
              try clear hx222_3
              try clear p2
              try clear p21
              try clear p215
              try clear p219
              try clear p22
              try clear p220
              try clear p221
              try clear p222
              try clear p6
              try clear q2
              try clear q21
              try clear q215
              try clear q219
              try clear q22
              try clear q220
              try clear q221
              try clear q222
              try clear q28
              obtain ⟨kq,x105_57,rfl,HA,HJ57,BK213,BK216,HB⟩:=hcut
              cases kq with
              | zero=>exact absurd HA.out (by simp [je.j4])
              | succ kj57 =>
               have H:=HA.out
               clear HA
               simp only [je.j4] at H
               by_cases c70:x105_57=true
               ·subst c70
                have H1:(some false)=some r:=by rw [if_pos rfl] at H;exact H
                clear H
                have H:=H1
                clear H1
                obtain rfl:=Option.some.inj H
                go_wp2
                repeat (go_quiet (fail);try go_wp2)
                go_ret
                exact ⟨Y1,Y4⟩
               ·replace c70:=Bool.eq_false_iff.mpr c70
                subst c70
                have H1:(je.l0 kj57 l1 l1 (l1.length:Int) (wrap64 (x10_1+1)) l0_0)=some r:=by rw [if_neg (show ¬ (false=true) by decide)] at H;exact H
                clear H
                have H:=H1
                clear H1
                have H':=am H
                clear H
                go_wp2
                repeat (go_quiet (fail);try go_wp2)
                go_roundg kj57
                case measure=>have:=HK1.out;have:=HJ6.out;have:=HJ21.out;have:=HJ57.out;omega
                case rel=>exact ⟨(wrap64 (x10_1+1)),(sq),H',⟨by have:=HK1.out;have:=HJ6.out;have:=HJ21.out;have:=HJ57.out;omega⟩,⟨kq BK213.out⟩,⟨Y4⟩⟩
     ·rw [if_neg c6] at H
      exact absurd H (by simp)
    ·rw [if_neg c5] at H
     exact absurd H (by simp)
   ·rw [if_neg c4] at H
    have c4b0:decide (x10_1<(l1.length:Int))=false:=dzF c4
    clear c4
    replace H:=bzS H
    obtain ⟨t214,A710,H⟩:=H
    replace H:(some t214)=some r:=H
    have A71:=am A710
    clear A710
    obtain rfl:=Option.some.inj H
    go_wp2_with (first |(go_at_call 42;(with_reducible refine (jI.calls (l1.length:Int) 1 16 t214 _ A71.out).mono ?_);rintro e w' ⟨rfl,⟨nd,rfl⟩⟩;(try first | exact ⟨rfl,_,World.drewN_drewN _ _ _⟩ | exact ⟨rfl,_,Eq.trans (World.drewN_drewN _ _ _) (congrArg (World.drewN _) (Nat.add_assoc _ _ _))⟩)))
    repeat (go_quiet (first |(go_at_call 42;(with_reducible refine (jI.calls (l1.length:Int) 1 16 t214 _ A71.out).mono ?_);rintro e w' ⟨rfl,⟨nd,rfl⟩⟩;(try first | exact ⟨rfl,_,World.drewN_drewN _ _ _⟩ | exact ⟨rfl,_,Eq.trans (World.drewN_drewN _ _ _) (congrArg (World.drewN _) (Nat.add_assoc _ _ _))⟩)));try go_wp2_with (first |(go_at_call 42;(with_reducible refine (jI.calls (l1.length:Int) 1 16 t214 _ A71.out).mono ?_);rintro e w' ⟨rfl,⟨nd,rfl⟩⟩;(try first | exact ⟨rfl,_,World.drewN_drewN _ _ _⟩ | exact ⟨rfl,_,Eq.trans (World.drewN_drewN _ _ _) (congrArg (World.drewN _) (Nat.add_assoc _ _ _))⟩))))
    go_ret
    exact ⟨Y1,Y21⟩
def jya.f (k : Nat) (l0_0 : List (S59)) (l1 : List (S42)) : Option (Bool) := (jm.f k l0_0).bind fun t226 => (if t226 = true then ((je.f k l0_0 l1).bind fun t227 => (some t227)) else (some false))
set_option maxHeartbeats 8000000 in
set_option maxRecDepth 100000 in
theorem jya.calls (k : Nat) (A0_0 : Option Addr) (c0_0 : Nat) (l0_0 : List (S59)) (A1 : Option Addr) (c1 : Nat) (l1 : List (S42)) (r : Bool) (w : World) (hr0_0 : Kd.C k59 w A0_0 l0_0.length l0_0) (hc0_0 : l0_0.length ≤ c0_0) (hr1 : Kd.C k42 w A1 l1.length l1) (hc1 : l1.length ≤ c1) (h : jya.f k l0_0 l1 = some r) :
  Calls Tryd.prog 17 #[.agg #[.slice A0_0 l0_0.length c0_0], .slice A1 l1.length c1] w fun e w'=>e=.returned (.bool r)∧Below w.heap.size w w':=by
 have hu31:=Tryd.underlying31
 have HR0_0:=am hr0_0
 have HC0_0:=am hc0_0
 clear hr0_0 hc0_0
 have HR1:=am hr1
 have HC1:=am hc1
 clear hr1 hc1
 have HB:=am (Below.refl w.heap.size w)
 have H:((jm.f k l0_0).bind fun t226=>(if t226=true then ((je.f k l0_0 l1).bind fun t227=>(some t227)) else (some false)))=some r:=h
 clear h
 replace H:=bzS H
 obtain ⟨t226,A30,H⟩:=H
 replace H:(if t226=true then ((je.f k l0_0 l1).bind fun t227=>(some t227)) else (some false))=some r:=H
 have A3:=am A30
 clear A30
 by_cases c4:t226=true
 ·subst c4
  have H1:((je.f k l0_0 l1).bind fun t227=>(some t227))=some r:=by rw [if_pos rfl] at H;exact H
  clear H
  have H:=H1
  clear H1
  replace H:=bzS H
  obtain ⟨t227,A50,H⟩:=H
  replace H:(some t227)=some r:=H
  have A5:=am A50
  clear A50
  obtain rfl:=Option.some.inj H
  go_enter Tryd.func17,Tryd.ntmps17
  go_wp2_with (first |((with_reducible refine jE (N:=2) rfl ?_);refine bE (N:=2) (cs:=#[.slice A0_0 l0_0.length c0_0]) (t:=31) ?_;intro gb225 hg w6 hbox hb;have BK225:=am (hbox);have GW225:=am ((Y0:w.heap.size≤gb225));have GE225:=am ((Y0:w.heap.size≤gb225));replace HB:=am (jd (bq) hb);clear hb hbox hg;have hcz7_0:=bc0 BK225.out;have hfz7_0:=jb BK225.out 0) |((with_reducible refine jC (f:=30) rfl ?_);refine gL (some 6) Tryd.func30 #[.agg #[.slice A0_0 l0_0.length c0_0]] ?_;(with_reducible refine (jm.calls k _ _ l0_0 true _ ?side1 ?side2 A3.out).mono ?_);(case side1=>exact cq (Kd.jG HR0_0.out HB.out));(case side2=>exact HC0_0.out);rintro e w8 ⟨rfl,hb⟩;refine ⟨_,rfl,?_⟩;replace BK225:=am (jh (g:=gb225) (o:=.cells #[.slice A0_0 l0_0.length c0_0] 31 (0,0)) (kq BK225.out) hb);replace HB:=am (jd (Y22) hb);(try clear hb);(try clear hb2);(try clear hk);(try clear hi);have hcz9_0:=bc0 BK225.out;have hfz9_0:=jb BK225.out 0) |(go_at_call 31;(with_reducible refine (je.calls k _ _ l0_0 _ _ l1 t227 _ ?side1 ?side2 ?side3 ?side4 A5.out).mono ?_);(case side1=>exact cq (Kd.jG HR0_0.out HB.out));(case side2=>exact HC0_0.out);(case side3=>exact cq (Kd.jG HR1.out HB.out));(case side4=>exact HC1.out);rintro e w10 ⟨rfl,hb⟩;replace BK225:=am (jh (g:=gb225) (o:=.cells #[.slice A0_0 l0_0.length c0_0] 31 (0,0)) (kq BK225.out) hb);replace HB:=am (jd (Y22) hb);(try clear hb);(try clear hb2);(try clear hk);(try clear hi)))
  go_ret
  exact ⟨Y1,Y22⟩
 ·replace c4:=Bool.eq_false_iff.mpr c4
  subst c4
  have H1:(some false)=some r:=by rw [if_neg (show ¬ (false=true) by decide)] at H;exact H
  clear H
  have H:=H1
  clear H1
  obtain rfl:=Option.some.inj H
  go_enter Tryd.func17,Tryd.ntmps17
  go_wp2_with (first |((with_reducible refine jE (N:=2) rfl ?_);refine bE (N:=2) (cs:=#[.slice A0_0 l0_0.length c0_0]) (t:=31) ?_;intro gb225 hg w11 hbox hb;have BK225:=am (hbox);have GW225:=am ((Y0:w.heap.size≤gb225));have GE225:=am ((Y0:w.heap.size≤gb225));replace HB:=am (jd (bq) hb);clear hb hbox hg;have hcz12_0:=bc0 BK225.out;have hfz12_0:=jb BK225.out 0) |((with_reducible refine jC (f:=30) rfl ?_);refine gL (some 6) Tryd.func30 #[.agg #[.slice A0_0 l0_0.length c0_0]] ?_;(with_reducible refine (jm.calls k _ _ l0_0 false _ ?side1 ?side2 A3.out).mono ?_);(case side1=>exact cq (Kd.jG HR0_0.out HB.out));(case side2=>exact HC0_0.out);rintro e w13 ⟨rfl,hb⟩;refine ⟨_,rfl,?_⟩;replace BK225:=am (jh (g:=gb225) (o:=.cells #[.slice A0_0 l0_0.length c0_0] 31 (0,0)) (kq BK225.out) hb);replace HB:=am (jd (Y22) hb);(try clear hb);(try clear hb2);(try clear hk);(try clear hi)))
  go_ret
  exact ⟨Y1,Y22⟩
def sh171_ren : Go.Shelf.Ren := ⟨fun | 171 => 34 | 243 => 48 | 246 => 54 | 283 => 57 | 284 => 58 | 285 => 59 | 286 => 60 | 129 => 64 | 317 => 63 | 318 => 65 | 319 => 66 | 320 => 67 | 337 => 68 | 338 => 69 | n => n, fun | 3 => 3 | 9 => 9 | 2 => 2 | 4 => 4 | 171 => 85 | 0 => 0 | 53 => 86 | 37 => 72 | 5 => 5 | 173 => 89 | 212 => 96 | 51 => 97 | 20 => 20 | 213 => 98 | 46 => 99 | 232 => 102 | 233 => 103 | n => n, fun | 17 => 0 | 18 => 2 | 19 => 3 | n => n⟩
theorem sh171 : Go.Proofs.Lays.n171 Tryd.prog sh171_ren := {
 mixed:=by kernel_rfl
 f129:=Tryd.func64.trans (congrArg some (by kernel_rfl))
 f171:=Tryd.func34.trans (congrArg some (by kernel_rfl))
 f243:=Tryd.func48.trans (congrArg some (by kernel_rfl))
 f246:=Tryd.func54.trans (congrArg some (by kernel_rfl))
 f283:=Tryd.func57.trans (congrArg some (by kernel_rfl))
 f284:=Tryd.func58.trans (congrArg some (by kernel_rfl))
 f285:=Tryd.func59.trans (congrArg some (by kernel_rfl))
 f286:=Tryd.func60.trans (congrArg some (by kernel_rfl))
 f317:=Tryd.func63.trans (congrArg some (by kernel_rfl))
 f318:=Tryd.func65.trans (congrArg some (by kernel_rfl))
 f319:=Tryd.func66.trans (congrArg some (by kernel_rfl))
 f320:=Tryd.func67.trans (congrArg some (by kernel_rfl))
 f337:=Tryd.func68.trans (congrArg some (by kernel_rfl))
 f338:=Tryd.func69.trans (congrArg some (by kernel_rfl))
 t0:=Tryd.underlying0
 a0:=Tryd.isAgg0
 z0:=Tryd.sizeOf0
 v0:=Tryd.zeroValue0
 t2:=Tryd.underlying2
 a2:=Tryd.isAgg2
 z2:=Tryd.sizeOf2
 v2:=Tryd.zeroValue2
 t3:=Tryd.underlying3
 a3:=Tryd.isAgg3
 z3:=Tryd.sizeOf3
 v3:=Tryd.zeroValue3
 t4:=Tryd.underlying4
 a4:=Tryd.isAgg4
 z4:=Tryd.sizeOf4
 v4:=Tryd.zeroValue4
 t5:=Tryd.underlying5
 a5:=Tryd.isAgg5
 z5:=Tryd.sizeOf5
 v5:=Tryd.zeroValue5
 t9:=Tryd.underlying9
 a9:=Tryd.isAgg9
 z9:=Tryd.sizeOf9
 v9:=Tryd.zeroValue9
 t20:=Tryd.underlying20
 a20:=Tryd.isAgg20
 z20:=Tryd.sizeOf20
 v20:=Tryd.zeroValue20
 t37:=Tryd.underlying72
 a37:=Tryd.isAgg72
 z37:=Tryd.sizeOf72
 v37:=Tryd.zeroValue72
 t46:=Tryd.underlying99
 a46:=Tryd.isAgg99
 z46:=Tryd.sizeOf99
 v46:=Tryd.zeroValue99
 t51:=Tryd.underlying97
 a51:=Tryd.isAgg97
 z51:=Tryd.sizeOf97
 v51:=Tryd.zeroValue97
 t53:=Tryd.underlying86
 a53:=Tryd.isAgg86
 z53:=Tryd.sizeOf86
 v53:=Tryd.zeroValue86
 t171:=Tryd.underlying85
 a171:=Tryd.isAgg85
 z171:=Tryd.sizeOf85
 v171:=Tryd.zeroValue85
 t173:=Tryd.underlying89
 a173:=Tryd.isAgg89
 z173:=Tryd.sizeOf89
 v173:=Tryd.zeroValue89
 t212:=Tryd.underlying96
 a212:=Tryd.isAgg96
 z212:=Tryd.sizeOf96
 v212:=Tryd.zeroValue96
 t213:=Tryd.underlying98
 a213:=Tryd.isAgg98
 z213:=Tryd.sizeOf98
 t232:=Tryd.underlying102
 a232:=Tryd.isAgg102
 z232:=Tryd.sizeOf102
 v232:=Tryd.zeroValue102
 t233:=Tryd.underlying103
 a233:=Tryd.isAgg103
 z233:=Tryd.sizeOf103
 v233:=Tryd.zeroValue103
 g17:=by kernel_rfl
 g18:=by kernel_rfl
 g19:=by kernel_rfl }
def strconv_Itoa.f (a0 : Int) : Option ByteArray := if 0 ≤ a0 then (if a0 < 100 then some ⟨(Lib.decDigits a0.toNat).toArray⟩ else none) else none
set_option maxHeartbeats 8000000 in
set_option maxRecDepth 100000 in
theorem strconv_Itoa.calls (a0 : Int) (r : ByteArray) (w : World) (h : strconv_Itoa.f a0 = some r) :
  Calls Tryd.prog 34 #[.int .i64 a0] w fun e w'=>e=.returned (.string r)∧jCa w w':=by
 unfold strconv_Itoa.f at h
 by_cases h0:0≤a0
 ·rw [if_pos h0] at h
  by_cases h1:a0<100
  ·rw [if_pos h1] at h
   obtain rfl:=Option.some.inj h
   have hs:=Go.Proofs.Any.strconv_Itoa_small sh171 a0.toNat (by omega) w
   rw [Int.toNat_of_nonneg h0] at hs
   refine Calls.mono (show Calls Tryd.prog 34 _ w _ from hs) ?_
   rintro e w' ⟨rfl,rfl⟩
   exact ⟨rfl,jCa.refl _⟩
  ·rw [if_neg h1] at h;cases h
 ·rw [if_neg h0] at h;cases h
def jka.f (l0_0 : List (S59)) (a1 : Int) (a2 : Int) : Option (ByteArray) := if 0 ≤ a1 then (if a1 < (l0_0.length : Int) then (if ((jB l0_0 a1).f0).size + 1 ≤ 9223372036854775807 then ((strconv_Itoa.f a2).bind fun t248 => (if (((jB l0_0 a1).f0) ++ (⟨#[58]⟩ : ByteArray)).size + t248.size ≤ 9223372036854775807 then (some ((((jB l0_0 a1).f0) ++ (⟨#[58]⟩ : ByteArray)) ++ t248)) else (none))) else (none)) else (none)) else (none)
set_option maxHeartbeats 8000000 in
set_option maxRecDepth 100000 in
theorem jka.calls (A0_0 : Option Addr) (c0_0 : Nat) (l0_0 : List (S59)) (a1 : Int) (a2 : Int) (r : ByteArray) (w : World) (hr0_0 : Kd.C k59 w A0_0 l0_0.length l0_0) (hc0_0 : l0_0.length ≤ c0_0) (h : jka.f l0_0 a1 a2 = some r) :
  Calls Tryd.prog 32 #[.agg #[.slice A0_0 l0_0.length c0_0], .int .i64 a1, .int .i64 a2] w fun e w'=>e=.returned (.string r)∧Below w.heap.size w w':=by
 have hu31:=Tryd.underlying31
 have HR0_0:=am hr0_0
 have HC0_0:=am hc0_0
 clear hr0_0 hc0_0
 have HB:=am (Below.refl w.heap.size w)
 have H:(if 0≤a1 then (if a1<(l0_0.length:Int) then (if ((jB l0_0 a1).f0).size+1≤9223372036854775807 then ((strconv_Itoa.f a2).bind fun t248=>(if (((jB l0_0 a1).f0) ++ (⟨#[58]⟩:ByteArray)).size+t248.size≤9223372036854775807 then (some ((((jB l0_0 a1).f0) ++ (⟨#[58]⟩:ByteArray)) ++ t248)) else (none))) else (none)) else (none)) else (none))=some r:=h
 clear h
 by_cases c4:0≤a1
 ·rw [if_pos c4] at H
  have c4b0:decide (0≤a1)=true:=dzT c4
  clear c4
  by_cases c5:a1<(l0_0.length:Int)
  ·rw [if_pos c5] at H
   have c5b0:decide (a1<(l0_0.length:Int))=true:=dzT c5
   clear c5
   by_cases c6:((jB l0_0 a1).f0).size+1≤9223372036854775807
   ·rw [if_pos c6] at H
    have c6b0:=ezT c6
    have c6b1:decide (((jB l0_0 a1).f0).size+1≤9223372036854775807)=true:=dzT c6
    try have c6b2:(9223372036854775807<((jB l0_0 a1).f0).size+1)=False:=eq_false (Nat.not_lt.2 c6)
    replace H:=bzS H
    obtain ⟨t248,A70,H⟩:=H
    replace H:(if (((jB l0_0 a1).f0) ++ (⟨#[58]⟩:ByteArray)).size+t248.size≤9223372036854775807 then (some ((((jB l0_0 a1).f0) ++ (⟨#[58]⟩:ByteArray)) ++ t248)) else (none))=some r:=H
    have A7:=am A70
    clear A70
    by_cases c8:(((jB l0_0 a1).f0) ++ (⟨#[58]⟩:ByteArray)).size+t248.size≤9223372036854775807
    ·rw [if_pos c8] at H
     have c8b0:=ezT c8
     have c8b1:decide ((((jB l0_0 a1).f0) ++ (⟨#[58]⟩:ByteArray)).size+t248.size≤9223372036854775807)=true:=dzT c8
     try have c8b2:(9223372036854775807<(((jB l0_0 a1).f0) ++ (⟨#[58]⟩:ByteArray)).size+t248.size)=False:=eq_false (Nat.not_lt.2 c8)
     try have c8s:(9223372036854775807<((jB l0_0 a1).f0).size+1+t248.size)=False:=eq_false (Nat.not_lt.2 (by have h_:=c8;simp only [ByteArray.size_append] at h_;exact h_))
     obtain rfl:=Option.some.inj H
     go_enter Tryd.func32,Tryd.ntmps32
     go_wp2_with (first |((with_reducible refine jE (N:=3) rfl ?_);refine bE (N:=3) (cs:=#[.slice A0_0 l0_0.length c0_0]) (t:=31) ?_;intro gb246 hg w9 hbox hb;have BK246:=am (hbox);have GW246:=am ((Y0:w.heap.size≤gb246));have GE246:=am ((Y0:w.heap.size≤gb246));replace HB:=am (jd (bq) hb);clear hb hbox hg;have hcz10_0:=bc0 BK246.out;have hfz10_0:=jb BK246.out 0;have p247:0≤(a1:Int):=ozD (uq);have q247:a1<(l0_0.length:Int):=ozD (uq);obtain ⟨ad247,e247,hx247_0,hx247_1⟩:=jjb HR0_0.out a1 p247 q247;cases e247;replace hx247_0:=cb HB.out hx247_0;replace hx247_1:=cb HB.out hx247_1;replace p247:=ezT p247;replace q247:=ezT q247) |(go_at_call 34;(with_reducible refine (strconv_Itoa.calls a2 t248 _ A7.out).mono ?_);rintro e w' ⟨rfl,⟨nd,rfl⟩⟩;(try first | exact ⟨rfl,_,World.drewN_drewN _ _ _⟩ | exact ⟨rfl,_,Eq.trans (World.drewN_drewN _ _ _) (congrArg (World.drewN _) (Nat.add_assoc _ _ _))⟩)))
     repeat (go_quiet (first |((with_reducible refine jE (N:=3) rfl ?_);refine bE (N:=3) (cs:=#[.slice A0_0 l0_0.length c0_0]) (t:=31) ?_;intro gb246 hg w9 hbox hb;have BK246:=am (hbox);have GW246:=am ((Y0:w.heap.size≤gb246));have GE246:=am ((Y0:w.heap.size≤gb246));replace HB:=am (jd (bq) hb);clear hb hbox hg;have hcz10_0:=bc0 BK246.out;have hfz10_0:=jb BK246.out 0;have p247:0≤(a1:Int):=ozD (uq);have q247:a1<(l0_0.length:Int):=ozD (uq);obtain ⟨ad247,e247,hx247_0,hx247_1⟩:=jjb HR0_0.out a1 p247 q247;cases e247;replace hx247_0:=cb HB.out hx247_0;replace hx247_1:=cb HB.out hx247_1;replace p247:=ezT p247;replace q247:=ezT q247) |(go_at_call 34;(with_reducible refine (strconv_Itoa.calls a2 t248 _ A7.out).mono ?_);rintro e w' ⟨rfl,⟨nd,rfl⟩⟩;(try first | exact ⟨rfl,_,World.drewN_drewN _ _ _⟩ | exact ⟨rfl,_,Eq.trans (World.drewN_drewN _ _ _) (congrArg (World.drewN _) (Nat.add_assoc _ _ _))⟩)));try go_wp2_with (first |((with_reducible refine jE (N:=3) rfl ?_);refine bE (N:=3) (cs:=#[.slice A0_0 l0_0.length c0_0]) (t:=31) ?_;intro gb246 hg w9 hbox hb;have BK246:=am (hbox);have GW246:=am ((Y0:w.heap.size≤gb246));have GE246:=am ((Y0:w.heap.size≤gb246));replace HB:=am (jd (bq) hb);clear hb hbox hg;have hcz10_0:=bc0 BK246.out;have hfz10_0:=jb BK246.out 0;have p247:0≤(a1:Int):=ozD (uq);have q247:a1<(l0_0.length:Int):=ozD (uq);obtain ⟨ad247,e247,hx247_0,hx247_1⟩:=jjb HR0_0.out a1 p247 q247;cases e247;replace hx247_0:=cb HB.out hx247_0;replace hx247_1:=cb HB.out hx247_1;replace p247:=ezT p247;replace q247:=ezT q247) |(go_at_call 34;(with_reducible refine (strconv_Itoa.calls a2 t248 _ A7.out).mono ?_);rintro e w' ⟨rfl,⟨nd,rfl⟩⟩;(try first | exact ⟨rfl,_,World.drewN_drewN _ _ _⟩ | exact ⟨rfl,_,Eq.trans (World.drewN_drewN _ _ _) (congrArg (World.drewN _) (Nat.add_assoc _ _ _))⟩))))
     go_ret
     exact ⟨Y1,by repeat (first |(with_reducible first | exact HB.out | apply jA | apply ji | apply jv | refine jy ?_ GE246.out) | exact HB.out)⟩
    ·rw [if_neg c8] at H
     exact absurd H (by simp)
   ·rw [if_neg c6] at H
    exact absurd H (by simp)
  ·rw [if_neg c5] at H
   exact absurd H (by simp)
 ·rw [if_neg c4] at H
  exact absurd H (by simp)
def jxa.l0 : Nat → List (S42) → Int → Int → Option (Int)
 | 0,_,_,_=>none
 | k+1,x0,x1,x5=>if x5<(x0.length:Int) then (if 0≤x5 then (if 0≤x1 then (if x1<(x0.length:Int) then (if ((ja x0 x5).f0) > ((ja x0 x1).f0) then (jxa.l0 k x0 x1 (wrap64 (x5+1))) else (some x5)) else (none)) else (none)) else (none)) else (some x5)
def jxa.f (k : Nat) (l0 : List (S42)) (a1 : Int) : Option (Int) := jxa.l0 k l0 a1 (wrap64 (a1 + 1))
set_option maxHeartbeats 8000000 in
set_option maxRecDepth 100000 in
theorem jxa.calls (k : Nat) (A0 : Option Addr) (c0 : Nat) (l0 : List (S42)) (a1 : Int) (r : Int) (w : World) (hr0 : Kd.C k42 w A0 l0.length l0) (hc0 : l0.length ≤ c0) (h : jxa.f k l0 a1 = some r) :
  Calls Tryd.prog 45 #[.slice A0 l0.length c0, .int .i64 a1] w fun e w'=>e=.returned (.int .i64 r)∧jCa w w':=by
 have HR0:=am hr0
 have HC0:=am hc0
 clear hr0 hc0
 have H:(jxa.l0 k l0 a1 (wrap64 (a1+1)))=some r:=h
 clear h
 have H':=am H
 clear H
 go_enter Tryd.func45,Tryd.ntmps45
 go_wp2
 repeat (go_quiet (fail);try go_wp2)
 go_loopg [5] k (fun kq v5 w'=>∃ (x5_1:Int),v5=.int .i64 x5_1∧jH (jxa.l0 kq l0 a1 x5_1=some r)∧jH (kq≤k)∧jCa w w')
 case atStart=>exact ⟨(wrap64 (a1+1)),(sq),H',⟨Nat.le_refl _⟩,Y2⟩
 case round =>
  clear H'
  try clear p2
  obtain ⟨x5_1,rfl,HA,HK1,⟨m1,rfl⟩⟩:=hrel
  cases gk with
  | zero=>exact absurd HA.out (by simp [jxa.l0])
  | succ k1 =>
   have H:=HA.out
   clear HA
   simp only [jxa.l0] at H
   by_cases c3:x5_1<(l0.length:Int)
   ·rw [if_pos c3] at H
    have c3b0:decide (x5_1<(l0.length:Int))=true:=dzT c3
    clear c3
    by_cases c4:0≤x5_1
    ·rw [if_pos c4] at H
     have c4b0:decide (0≤x5_1)=true:=dzT c4
     clear c4
     by_cases c5:0≤a1
     ·rw [if_pos c5] at H
      have c5b0:decide (0≤a1)=true:=dzT c5
      clear c5
      by_cases c6:a1<(l0.length:Int)
      ·rw [if_pos c6] at H
       have c6b0:decide (a1<(l0.length:Int))=true:=dzT c6
       clear c6
       by_cases c7:((ja l0 x5_1).f0) > ((ja l0 a1).f0)
       ·rw [if_pos c7] at H
        have c7b0:decide (((ja l0 a1).f0)<((ja l0 x5_1).f0))=true:=dzT c7
        clear c7
        have H':=am H
        clear H
        have p249:0≤(x5_1:Int):=ozD (uq)
        have q249:x5_1<(l0.length:Int):=ozD (uq)
        obtain ⟨ad249,e249,hx249_0,hx249_1,hx249_2,hx249_3⟩:=jpa HR0.out x5_1 p249 q249
        cases e249
        replace p249:=ezT p249
        replace q249:=ezT q249
        have p250:0≤(a1:Int):=ozD (uq)
        have q250:a1<(l0.length:Int):=ozD (uq)
        obtain ⟨ad250,e250,hx250_0,hx250_1,hx250_2,hx250_3⟩:=jpa HR0.out a1 p250 q250
        obtain rfl:ad249=ad250:=(by injection e250)
        replace p250:=ezT p250
        replace q250:=ezT q250
        go_wp2
        repeat (go_quiet (fail);try go_wp2)
        go_roundg k1
        case measure=>have:=HK1.out;omega
        case rel=>exact ⟨(wrap64 (x5_1+1)),(sq),H',⟨by have:=HK1.out;omega⟩,Y2⟩
       ·rw [if_neg c7] at H
        have c7b0:decide (((ja l0 a1).f0)<((ja l0 x5_1).f0))=false:=dzF c7
        clear c7
        obtain rfl:=Option.some.inj H
        have p249:0≤(x5_1:Int):=ozD (uq)
        have q249:x5_1<(l0.length:Int):=ozD (uq)
        obtain ⟨ad249,e249,hx249_0,hx249_1,hx249_2,hx249_3⟩:=jpa HR0.out x5_1 p249 q249
        cases e249
        replace p249:=ezT p249
        replace q249:=ezT q249
        have p250:0≤(a1:Int):=ozD (uq)
        have q250:a1<(l0.length:Int):=ozD (uq)
        obtain ⟨ad250,e250,hx250_0,hx250_1,hx250_2,hx250_3⟩:=jpa HR0.out a1 p250 q250
        obtain rfl:ad249=ad250:=(by injection e250)
        replace p250:=ezT p250
        replace q250:=ezT q250
        go_wp2
        repeat (go_quiet (fail);try go_wp2)
        go_ret
        exact ⟨sq,Y2⟩
      ·rw [if_neg c6] at H
       exact absurd H (by simp)
     ·rw [if_neg c5] at H
      exact absurd H (by simp)
    ·rw [if_neg c4] at H
     exact absurd H (by simp)
   ·rw [if_neg c3] at H
    have c3b0:decide (x5_1<(l0.length:Int))=false:=dzF c3
    clear c3
    obtain rfl:=Option.some.inj H
    go_wp2
    repeat (go_quiet (fail);try go_wp2)
    go_ret
    exact ⟨sq,Y2⟩
def jga.l0 : Nat → Int → List (S42) → List (S42) → Int → Int → Option ((List (S42)))
 | 0,_,_,_,_,_=>none
 | k+1,x1,x5,x11,x12,x13=>if x13<x12 then (if 0≤x13 then (if x13<(x11.length:Int) then (if x5.length<4398046511104 then (jga.l0 k x1 (x5 ++ [(⟨wrap64 (((ja x11 x13).f0)+x1),(ja x11 x13).f1,(ja x11 x13).f2,(ja x11 x13).f3⟩:S42)]) x11 x12 (wrap64 (x13+1))) else (none)) else (none)) else (none)) else (some x5)
def jga.f (k : Nat) (l0 : List (S42)) (a1 : Int) : Option ((List (S42))) := if 0 ≤ (l0.length : Int) then (if ((l0.length : Int) : Int).toNat ≤ 8796093022208 then (jga.l0 k a1 (([] : List (S42))) l0 (l0.length : Int) 0) else (none)) else (none)
set_option maxHeartbeats 8000000 in
set_option maxRecDepth 100000 in
theorem jga.calls (k : Nat) (A0 : Option Addr) (c0 : Nat) (l0 : List (S42)) (a1 : Int) (r : List (S42)) (w : World) (hr0 : Kd.C k42 w A0 l0.length l0) (hc0 : l0.length ≤ c0) (h : jga.f k l0 a1 = some r) :
  Calls Tryd.prog 46 #[.slice A0 l0.length c0, .int .i64 a1] w fun e w'=>∃ v0_:Value,e=.returned (v0_)∧Kd.R k42 42 w' w.heap.size (fun _=>True) v0_ r∧Below w.heap.size w w':=by
 have hu42:=Tryd.underlying42
 have HR0:=am hr0
 have HC0:=am hc0
 clear hr0 hc0
 have HB:=am (Below.refl w.heap.size w)
 have H:(if 0≤(l0.length:Int) then (if ((l0.length:Int):Int).toNat≤8796093022208 then (jga.l0 k a1 (([]:List (S42))) l0 (l0.length:Int) 0) else (none)) else (none))=some r:=h
 clear h
 by_cases c3:0≤(l0.length:Int)
 ·rw [if_pos c3] at H
  have c3b0:=ezT c3
  have c3b1:decide (0≤(l0.length:Int))=true:=dzT c3
  clear c3
  by_cases c4:((l0.length:Int):Int).toNat≤8796093022208
  ·rw [if_pos c4] at H
   have c4b0:=ezT c4
   have c4b1:decide (((l0.length:Int):Int).toNat≤8796093022208)=true:=dzT c4
   clear c4
   obtain ⟨y251,hy251⟩:∃ y_:List (S42),y_=(([]:List (S42))):=⟨_,rfl⟩
   replace H:(jga.l0 k a1 y251 l0 (l0.length:Int) 0)=some r:=by first |(rw [hy251];with_reducible exact H) |(have H2_:=(Option.bind_some _ _).symm.trans H;rw [hy251];with_reducible exact H2_) |(have H2_:=(Option.bind_some _ _).symm.trans H;with_reducible exact H2_) | with_reducible exact H |(rw [hy251];exact H) | exact H
   have Ny251:=am hy251
   clear hy251
   have H':=am H
   clear H
   go_enter Tryd.func46,Tryd.ntmps46
   go_wp2_with (first |((with_reducible refine jE (N:=10) rfl ?_);refine Kd.R_mkcap k42 _ 42 rfl (N:=10) rfl 33 _ _ rfl (l0.length:Int) rfl rfl Tryd.underlying33 (.agg #[(.int .i64 0),(.bool false),(.int .i64 0),(.int .i64 0)]) 32 info42 rfl (by decide) (by omega) (ok:=fun _=>True) trivial (ozD (uq)) (Nat.le_trans (Nat.mul_le_mul_right _ (ozD (uq):(l0.length:Int).toNat≤8796093022208)) (by omega)) (Below.refl _ _) (Nat.le_refl _) ?_;intro v252 w5 ho6 hb hg_ hnew_;clear hg_ hnew_;(first | rw [← Ny251.out] at ho6 |(simp only [Int.reduceToNat] at ho6;rw [← Ny251.out] at ho6));have HO253:=am (Kd.jMa ho6 (jL (bq)));replace HB:=am (jd (bq) hb);clear hb ho6))
   go_loopg [5,13] k (fun kq v5 v13 w'=>∃ (x5_1:List (S42)) (x13_1:Int),v13=.int .i64 x13_1∧jH (jga.l0 kq a1 x5_1 l0 (l0.length:Int) x13_1=some r)∧jH (kq≤k)∧jH (Kd.R k42 42 w' w.heap.size (fun _=>True) v5 x5_1)∧jH (Below w.heap.size w w'))
   case atStart=>exact ⟨(y251),(0),(sq),H',⟨Nat.le_refl _⟩,⟨rq HO253.out⟩,⟨bq⟩⟩
   case round =>
    clear H'
    try clear p2
    try clear c3
    try clear c3b0
    try clear c3b1
    try clear c4
    try clear c4b0
    try clear c4b1
    obtain ⟨x5_1,x13_1,rfl,HA,HK1,HO_5,HB⟩:=hrel
    cases gk with
    | zero=>exact absurd HA.out (by simp [jga.l0])
    | succ k1 =>
     have H:=HA.out
     clear HA
     simp only [jga.l0] at H
     by_cases c7:x13_1<(l0.length:Int)
     ·rw [if_pos c7] at H
      have c7b0:decide (x13_1<(l0.length:Int))=true:=dzT c7
      clear c7
      by_cases c8:0≤x13_1
      ·rw [if_pos c8] at H
       have c8b0:decide (0≤x13_1)=true:=dzT c8
       clear c8
       by_cases c9:x13_1<(l0.length:Int)
       ·rw [if_pos c9] at H
        have c9b0:decide (x13_1<(l0.length:Int))=true:=dzT c9
        clear c9
        by_cases c10:x5_1.length<4398046511104
        ·rw [if_pos c10] at H
         have LMc10:=am c10
         clear c10
         obtain ⟨y256,hy256⟩:∃ y_:List (S42),y_=(x5_1 ++ [(⟨wrap64 (((ja l0 x13_1).f0)+a1),(ja l0 x13_1).f1,(ja l0 x13_1).f2,(ja l0 x13_1).f3⟩:S42)]):=⟨_,rfl⟩
         replace H:(jga.l0 k1 a1 y256 l0 (l0.length:Int) (wrap64 (x13_1+1)))=some r:=by first |(rw [hy256];with_reducible exact H) |(have H2_:=(Option.bind_some _ _).symm.trans H;rw [hy256];with_reducible exact H2_) |(have H2_:=(Option.bind_some _ _).symm.trans H;with_reducible exact H2_) | with_reducible exact H |(rw [hy256];exact H) | exact H
         have Ny256:=am hy256
         clear hy256
         have H':=am H
         clear H
         have p254:0≤(x13_1:Int):=ozD (uq)
         have q254:x13_1<(l0.length:Int):=ozD (uq)
         obtain ⟨ad254,e254,hx254_0,hx254_1,hx254_2,hx254_3⟩:=jpa HR0.out x13_1 p254 q254
         cases e254
         replace hx254_0:=cb HB.out hx254_0
         replace hx254_1:=cb HB.out hx254_1
         replace hx254_2:=cb HB.out hx254_2
         replace hx254_3:=cb HB.out hx254_3
         replace p254:=ezT p254
         replace q254:=ezT q254
         go_wp2_with (first |((with_reducible refine jE (N:=7) rfl ?_);refine bE (N:=7) (cs:=#[.int .i64 0, .bool false, .int .i64 0, .int .i64 0]) (t:=42) ?_;intro gb255 hg w11 hbox hb;have BK255:=am (hbox);have GW255:=am ((Y0:w.heap.size≤gb255));have GE255:=am ((Y0:w.heap.size≤gb255));replace HO_5:=am (Kd.jha (Kd.R_elderB (rq HO_5.out) gb255 (Nat.le_of_eq hg.symm)) hb);replace HB:=am (jd (bq) hb);clear hb hbox hg;have hcz12_0:=bc0 BK255.out;have hcz12_1:=bc1 BK255.out;have hcz12_2:=bc2 BK255.out;have hcz12_3:=bc3 BK255.out;have hfz12_0:=jb BK255.out 0;have hfz12_1:=jb BK255.out 1;have hfz12_2:=jb BK255.out 2;have hfz12_3:=jb BK255.out 3) |((with_reducible refine jmb (b:=.append) (xs:=#[.tmp 22, .tmp 24]) rfl ?_);at_builtin;refine Kd.R_append k42 (w0:=w) w.heap.size rfl (.tmp 22) (.tmp 24) 33 42 (.agg #[(.int .i64 0),(.bool false),(.int .i64 0),(.int .i64 0)]) 32 rfl Tryd.underlying33 info42 rfl (by decide) (by omega) u5 x5_1 (⟨wrap64 (((ja l0 x13_1).f0)+a1),(ja l0 x13_1).f1,(ja l0 x13_1).f2,(ja l0 x13_1).f3⟩:S42) [.int .i64 (wrap64 (((ja l0 x13_1).f0)+a1)), .bool ((ja l0 x13_1).f1), .int .i64 ((ja l0 x13_1).f2), .int .i64 ((ja l0 x13_1).f3)] (fun k_=>k_≠gb255) (fun _=>False) rfl (Y6) ?aP (fun _ hk=>hk.elim) ?aF ?aO ?aB ?aS ?aL ?_;(case aP=>exact k42_mkM _ _ _ (⟨wrap64 (((ja l0 x13_1).f0)+a1),(ja l0 x13_1).f1,(ja l0 x13_1).f2,(ja l0 x13_1).f3⟩:S42));(case aB=>exact (Y39));(case aF=>exact (fun k_ hk=>Kd.freshB (g:=gb255) (o:=.cells #[.int .i64 (wrap64 (((ja l0 x13_1).f0)+a1)), .bool ((ja l0 x13_1).f1), .int .i64 ((ja l0 x13_1).f2), .int .i64 ((ja l0 x13_1).f3)] 42 (0,0)) (Y57) k_ hk));(case aO=>exact (by (with_reducible repeat (first | apply Kd.R_alloc | apply Kd.R_drewN | apply Kd.R_drew));exact Kd.jFa (Kd.R_far (p:=⟨gb255,0,none⟩) (Kd.R_far (p:=⟨gb255,3,none⟩) (Kd.R_far (p:=⟨gb255,2,none⟩) (Kd.R_far (p:=⟨gb255,1,none⟩) (Kd.R_far (p:=⟨gb255,0,none⟩) (Kd.jFa HO_5.out (fun k_ hk=>(⟨hk,hk.2⟩:_∧k_≠gb255))) (fun _ hk=>hk.2) (.int .i64 ((ja l0 x13_1).f0))) (fun _ hk=>hk.2) (.bool ((ja l0 x13_1).f1))) (fun _ hk=>hk.2) (.int .i64 ((ja l0 x13_1).f2))) (fun _ hk=>hk.2) (.int .i64 ((ja l0 x13_1).f3))) (fun _ hk=>hk.2) (.int .i64 (wrap64 (((ja l0 x13_1).f0)+a1)))) (fun _ hk=>hk.1.2)));(case aS=>exact (jL (Y39)));(case aL=>have:=LMc10.out;omega);intro v257 w13 ho hb hg hat;rw [← Ny256.out] at ho;have n0_:=am (blk_grown (g:=gb255) (o:=.cells #[.int .i64 (wrap64 (((ja l0 x13_1).f0)+a1)), .bool ((ja l0 x13_1).f1), .int .i64 ((ja l0 x13_1).f2), .int .i64 ((ja l0 x13_1).f3)] 42 (0,0)) (Y57) hg (Kd.R_away HO_5.out (fun _ hk=>hk.2)));have n1_:=am (hb);have n2_:=am (ho);clear BK255 HB HO_5;have BK255:=n0_;have HB:=n1_;have HO258:=n2_;clear n0_ n1_ n2_ ho hb hg hat))
         go_roundg k1
         case measure=>have:=HK1.out;omega
         case rel=>exact ⟨(y256),(wrap64 (x13_1+1)),(sq),H',⟨by have:=HK1.out;omega⟩,⟨by (with_reducible repeat (first | apply Kd.R_alloc | apply Kd.R_drewN | apply Kd.R_drew));exact Kd.jFa HO258.out (fun _ hk=>trivial)⟩,⟨Y39⟩⟩
        ·rw [if_neg c10] at H
         exact absurd H (by simp)
       ·rw [if_neg c9] at H
        exact absurd H (by simp)
      ·rw [if_neg c8] at H
       exact absurd H (by simp)
     ·rw [if_neg c7] at H
      have c7b0:decide (x13_1<(l0.length:Int))=false:=dzF c7
      clear c7
      obtain rfl:=Option.some.inj H
      go_wp2
      go_ret
      exact ⟨_,Y1,rq HO_5.out,bq⟩
  ·rw [if_neg c4] at H
   exact absurd H (by simp)
 ·rw [if_neg c3] at H
  exact absurd H (by simp)
def clip2.f (l0 : List (List S42)) : Option (List (List S42)) := some l0
set_option maxHeartbeats 8000000 in
set_option maxRecDepth 100000 in
theorem clip2_calls (A : Option Addr) (n c : Nat) (hc : n ≤ c) (w : World) : Calls Tryd.prog 47 #[.slice A n c] w fun e w' => e = .returned (.slice A n n) ∧ w' = w := by
 have hu:=Tryd.underlying57
 obtain ⟨i0,hi0,_,_,_⟩:=info_parts info33
 have hcut:=cut_clip (P:=Tryd.prog) 57 33 Tryd.underlying57 hi0 A n c n hc rfl
 clear hi0
 go_enter Tryd.func47,Tryd.ntmps47
 go_wp2
 go_ret
 exact ⟨rfl,rfl⟩
def jla.l0 : Nat → List (S42) → List (List (S42)) → Int → Option ((List (List (S42))))
 | 0,_,_,_=>none
 | k+1,x0,x3,x4=>if x4<(x0.length:Int) then ((jxa.f k x0 x4).bind fun t265=>(if 0≤x4 then (if x4≤t265 then (if t265≤(x0.length:Int) then ((jga.f k ((x0.take (t265:Int).toNat).drop (x4:Int).toNat) (-1)).bind fun t270=>(if x3.length<5864062014805 then ((jxa.f k x0 x4).bind fun t276=>(jla.l0 k x0 (x3 ++ [t270]) t276)) else (none))) else (none)) else (none)) else (none))) else (some (x3))
def jla.f (k : Nat) (l0 : List (S42)) : Option ((List (List (S42)))) := jla.l0 k l0 (([] : List (List (S42)))) 1
set_option maxHeartbeats 8000000 in
set_option maxRecDepth 100000 in
theorem jla.calls (k : Nat) (A0 : Option Addr) (c0 : Nat) (l0 : List (S42)) (r : List (List (S42))) (w : World) (hr0 : Kd.C k42 w A0 l0.length l0) (hc0 : l0.length ≤ c0) (h : jla.f k l0 = some r) :
  Calls Tryd.prog 33 #[.slice A0 l0.length c0] w fun e w'=>∃ v0_:Value,e=.returned (v0_)∧Kd.S (Kd.slice 42 k42) 33 w' w.heap.size (fun _=>True) v0_ r∧Below w.heap.size w w':=by
 have HR0:=am hr0
 have HC0:=am hc0
 clear hr0 hc0
 have HB:=am (Below.refl w.heap.size w)
 have H:(jla.l0 k l0 (([]:List (List (S42)))) 1)=some r:=h
 clear h
 obtain ⟨y259,hy259⟩:∃ y_:List (List (S42)),y_=(([]:List (List (S42)))):=⟨_,rfl⟩
 replace H:(jla.l0 k l0 y259 1)=some r:=by first |(rw [hy259];with_reducible exact H) |(have H2_:=(Option.bind_some _ _).symm.trans H;rw [hy259];with_reducible exact H2_) |(have H2_:=(Option.bind_some _ _).symm.trans H;with_reducible exact H2_) | with_reducible exact H |(rw [hy259];exact H) | exact H
 have Ny259:=am hy259
 clear hy259
 have H':=am H
 clear H
 go_enter Tryd.func33,Tryd.ntmps33
 go_wp2_with (first |((with_reducible refine jE (N:=5) rfl ?_);refine Kd.S_lit (Kd.slice 42 k42) _ 33 ?hg (N:=5) ?hd (xs:=([]:List (List (S42)))) (inner:=[]) (ok:=fun _=>True) (okp:=fun _=>True) ?hr ?hp (fun _ hk=>hk) trivial (Below.refl _ _) (Nat.le_refl _) (by simp) ?_;(case hd=>rfl);(case hg=>rfl);(case hr=>exact Y6);(case hp=>exact (Reps.none _ _));intro v260 w2 ho3 hb hg_ hnew_;clear hg_ hnew_;(first | rw [← Ny259.out] at ho3 |(simp only [Int.reduceToNat] at ho3;rw [← Ny259.out] at ho3));have HO261:=am (Kd.S_lower ho3 (jL (bq)));replace HB:=am (jd (bq) hb);clear hb ho3))
 go_loopg [3,4] k (fun kq v3 v4 w'=>∃ (x3_1:List (List (S42))) (x4_1:Int),v4=.int .i64 x4_1∧jH (jla.l0 kq l0 x3_1 x4_1=some r)∧jH (kq≤k)∧jH (Kd.S (Kd.slice 42 k42) 33 w' w.heap.size (fun _=>True) v3 x3_1)∧jH (Below w.heap.size w w'))
 case atStart=>exact ⟨(y259),(1),(sq),H',⟨Nat.le_refl _⟩,⟨by (with_reducible repeat (first | apply Kd.jIa | apply Kd.jHa | apply Kd.jOa));exact HO261.out⟩,⟨bq⟩⟩
 case round =>
  clear H'
  try clear p2
  try clear c3
  obtain ⟨x3_1,x4_1,rfl,HA,HK1,HO_3,HB⟩:=hrel
  cases gk with
  | zero=>exact absurd HA.out (by simp [jla.l0])
  | succ k1 =>
   have H:=HA.out
   clear HA
   simp only [jla.l0] at H
   by_cases c4:x4_1<(l0.length:Int)
   ·rw [if_pos c4] at H
    have c4b0:decide (x4_1<(l0.length:Int))=true:=dzT c4
    clear c4
    replace H:=bzS H
    obtain ⟨t265,A50,H⟩:=H
    replace H:(if 0≤x4_1 then (if x4_1≤t265 then (if t265≤(l0.length:Int) then ((jga.f k1 ((l0.take (t265:Int).toNat).drop (x4_1:Int).toNat) (-1)).bind fun t270=>(if x3_1.length<5864062014805 then ((jxa.f k1 l0 x4_1).bind fun t276=>(jla.l0 k1 l0 (x3_1 ++ [t270]) t276)) else (none))) else (none)) else (none)) else (none))=some r:=H
    have A5:=am A50
    clear A50
    by_cases c6:0≤x4_1
    ·rw [if_pos c6] at H
     have c6b0:=ezT c6
     have c6b1:decide (0≤x4_1)=true:=dzT c6
     clear c6
     by_cases c7:x4_1≤t265
     ·rw [if_pos c7] at H
      have c7b0:=ezT c7
      have c7b1:decide (x4_1≤t265)=true:=dzT c7
      clear c7
      by_cases c8:t265≤(l0.length:Int)
      ·rw [if_pos c8] at H
       have c8b0:=ezT c8
       have c8b1:decide (t265≤(l0.length:Int))=true:=dzT c8
       clear c8
       obtain ⟨y266,hy266⟩:∃ y_:List (S42),y_=((l0.take (t265:Int).toNat).drop (x4_1:Int).toNat):=⟨_,rfl⟩
       replace H:((jga.f k1 y266 (-1)).bind fun t270=>(if x3_1.length<5864062014805 then ((jxa.f k1 l0 x4_1).bind fun t276=>(jla.l0 k1 l0 (x3_1 ++ [t270]) t276)) else (none)))=some r:=by first |(rw [hy266];with_reducible exact H) |(have H2_:=(Option.bind_some _ _).symm.trans H;rw [hy266];with_reducible exact H2_) |(have H2_:=(Option.bind_some _ _).symm.trans H;with_reducible exact H2_) | with_reducible exact H |(rw [hy266];exact H) | exact H
       have Ny266:=am hy266
       clear hy266
       replace H:=bzS H
       obtain ⟨t270,A90,H⟩:=H
       replace H:(if x3_1.length<5864062014805 then ((jxa.f k1 l0 x4_1).bind fun t276=>(jla.l0 k1 l0 (x3_1 ++ [t270]) t276)) else (none))=some r:=H
       have A9:=am A90
       clear A90
       by_cases c10:x3_1.length<5864062014805
       ·rw [if_pos c10] at H
        have LMc10:=am c10
        clear c10
        obtain ⟨y273,hy273⟩:∃ y_:List (List (S42)),y_=(x3_1 ++ [t270]):=⟨_,rfl⟩
        replace H:((jxa.f k1 l0 x4_1).bind fun t276=>(jla.l0 k1 l0 y273 t276))=some r:=by first |(rw [hy273];with_reducible exact H) |(have H2_:=(Option.bind_some _ _).symm.trans H;rw [hy273];with_reducible exact H2_) |(have H2_:=(Option.bind_some _ _).symm.trans H;with_reducible exact H2_) | with_reducible exact H |(rw [hy273];exact H) | exact H
        have Ny273:=am hy273
        clear hy273
        replace H:=bzS H
        obtain ⟨t276,A110,H⟩:=H
        replace H:(jla.l0 k1 l0 y273 t276)=some r:=H
        have A11:=am A110
        clear A110
        have H':=am H
        clear H
        go_wp2_with (first |((with_reducible refine jC (f:=45) rfl ?_);refine gL (some 18) Tryd.func45 #[.slice A0 l0.length c0, .int .i64 x4_1] ?_;(with_reducible refine (jxa.calls k1 _ _ l0 x4_1 t265 _ ?side1 ?side2 A5.out).mono ?_);(case side1=>exact cq (Kd.jG HR0.out HB.out));(case side2=>exact HC0.out);rintro e w' ⟨rfl,⟨nd,rfl⟩⟩;refine ⟨_,rfl,?_⟩;have q12:(t265:Int)≤((l0.length:Int):Int):=ozD (uq);obtain ⟨i012,hi012,_,hsz12,_⟩:=info_parts info42;have hroom12:l0.length≤c0:=HC0.out;have hC12:Kd.C k42 _ A0 l0.length l0:=HR0.out;have ql12:(x4_1:Int)≤(t265:Int):=ozD (uq);have q012:(0:Int)≤(x4_1:Int):=ozD (uq);have hcut12:=cut_mid (P:=Tryd.prog) 33 42 .i64 .i64 Tryd.underlying33 hi012 4 hsz12 A0 l0.length c0 x4_1 t265 q012 ql12 q12 hroom12;have hr12:=Kd.C_mid (lo:=(x4_1:Int).toNat) (hi:=(t265:Int).toNat) (c:=c0) hC12 (by omega) (by omega) hroom12;obtain ⟨A12,hA12⟩:∃ A1,A1=(if c0=(x4_1:Int).toNat then A0 else (A0:Option Addr).map (·.add ((x4_1:Int).toNat * 4))):=⟨_,rfl⟩;obtain ⟨c12,hc12⟩:∃ c1,c1=c0 - (x4_1:Int).toNat:=⟨_,rfl⟩;have hy12:y266.length=(t265:Int).toNat - (x4_1:Int).toNat:=(by rw [Ny266.out,List.length_drop,List.length_take] <;> omega);rw [show ((l0).take (t265:Int).toNat).drop (x4_1:Int).toNat=y266 from Ny266.out.symm] at hr12;replace hr12:Kd.C k42 _ A12 y266.length y266:=(by rw [hA12];exact hr12);rw [← hy12,← hA12,← hc12] at hcut12;have HR269:=am hr12;have HC269:=am (show y266.length≤c12 from by rw [hy12,hc12];exact Nat.sub_le_sub_right (Nat.le_trans (by omega) hroom12) _);clear hr12 hC12 hroom12 hi012 hsz12 hc12;have KY12:=am hy12;have KA12:=am hA12;clear hy12 hA12;replace q12:=ezT q12) |((with_reducible refine jC (f:=46) rfl ?_);refine gL (some 20) Tryd.func46 #[.slice A12 y266.length c12, .int .i64 (-1)] ?_;(with_reducible refine (jga.calls k1 _ _ y266 (-1) t270 _ ?side1 ?side2 A9.out).mono ?_);(case side1=>exact cq (Kd.jG HR269.out (bq)));(case side2=>exact HC269.out);rintro e w13 ⟨v271,rfl,ho0,hb⟩;refine ⟨_,rfl,?_⟩;have HO272:=am (Kd.jMa ho0 (jL (bq)));replace HO_3:=am (Kd.S_elder' (by (with_reducible repeat (first | apply Kd.jIa | apply Kd.jHa | apply Kd.jOa));exact HO_3.out) (Kd.R_base ho0) hb);replace HB:=am (jd (bq) hb);(try clear hb);(try clear hb2);(try clear hk);(try clear hi);(try clear ho0);obtain ⟨Ao15,co15,eo15⟩:=Kd.jVa HO272.out;subst eo15) |((with_reducible refine jmb (b:=.append) (xs:=#[.tmp 13, .tmp 21]) rfl ?_);at_builtin;refine Kd.S_append (Kd.slice 42 k42) (w0:=w) w.heap.size rfl (.tmp 13) (.tmp 21) 57 33 (.slice none 0 0) 24 rfl Tryd.underlying57 info33 rfl (by decide) (by omega) u3 x3_1 t270 [.slice Ao15 t270.length co15] (fun _=>True) (fun k_=>some k_=(.slice Ao15 t270.length co15:Value).ownBlock) rfl rfl ?aP (fun k_ hk_=>((Kd.jFa (ok':=fun k_=>((fun _=>True)) k_∧some k_≠(u3:Value).ownBlock) (Kd.R_apart' (HO272.out) (Kd.S_typed HO_3.out) (by decide)) (fun k_ hk=>⟨trivial,hk.2⟩))).1 k_ hk_.symm) ?aF ?aO ?aB ?aS ?aL ?_;(case aP=>exact Kd.M_row (Kd.jFa (Kd.R_tight rfl (Kd.jFa (ok':=fun k_=>((fun _=>True)) k_∧some k_≠(u3:Value).ownBlock) (Kd.R_apart' (HO272.out) (Kd.S_typed HO_3.out) (by decide)) (fun k_ hk=>⟨trivial,hk.2⟩))) (fun _ h_=>h_)));(case aB=>exact (bq));(case aF=>exact (fun _ _=>trivial));(case aO=>exact (Y47));(case aS=>exact (jL (bq)));(case aL=>have:=LMc10.out;omega);intro v274 w14 ho hb hg hat;rw [← Ny273.out] at ho;have n0_:=am (hb);have n1_:=am (ho);clear HB HO_3 HO272;have HB:=n0_;have HO275:=n1_;clear n0_ n1_ ho hb hg hat) |((with_reducible refine jC (f:=45) rfl ?_);refine gL (some 12) Tryd.func45 #[.slice A0 l0.length c0, .int .i64 x4_1] ?_;(with_reducible refine (jxa.calls k1 _ _ l0 x4_1 t276 _ ?side1 ?side2 A11.out).mono ?_);(case side1=>exact cq (Kd.jG HR0.out HB.out));(case side2=>exact HC0.out);rintro e w' ⟨rfl,⟨nd,rfl⟩⟩;refine ⟨_,rfl,?_⟩))
        go_roundg k1
        case measure=>have:=HK1.out;omega
        case rel=>exact ⟨(y273),(t276),(sq),H',⟨by have:=HK1.out;omega⟩,⟨by (with_reducible repeat (first | apply Kd.jIa | apply Kd.jHa | apply Kd.jOa));exact HO275.out⟩,⟨bq⟩⟩
       ·rw [if_neg c10] at H
        exact absurd H (by simp)
      ·rw [if_neg c8] at H
       exact absurd H (by simp)
     ·rw [if_neg c7] at H
      exact absurd H (by simp)
    ·rw [if_neg c6] at H
     exact absurd H (by simp)
   ·rw [if_neg c4] at H
    have c4b0:decide (x4_1<(l0.length:Int))=false:=dzF c4
    clear c4
    obtain ⟨y262,hy262⟩:∃ y_:List (List (S42)),y_=(x3_1):=⟨_,rfl⟩
    replace H:(some y262)=some r:=by first |(rw [hy262];with_reducible exact H) |(have H2_:=(Option.bind_some _ _).symm.trans H;rw [hy262];with_reducible exact H2_) |(have H2_:=(Option.bind_some _ _).symm.trans H;with_reducible exact H2_) | with_reducible exact H |(rw [hy262];exact H) | exact H
    have Ny262:=am hy262
    clear hy262
    obtain rfl:=Option.some.inj H
    obtain ⟨Ao16,co16,eo16⟩:=Kd.S_slice HO_3.out
    subst eo16
    have e_:=Ny262.out
    clear Ny262
    subst e_
    have hle_:=(Kd.jtb HO_3.out).2.1
    have hr_:=Kd.S_clip HO_3.out (rfl:y262=y262)
    clear HO_3
    have HO264:=am hr_
    clear hr_
    go_wp2_with (go_at_call 47;refine (clip2_calls Ao16 _ co16 hle_ _).mono ?_;rintro e w' ⟨rfl,rfl⟩)
    go_ret
    exact ⟨_,Y1,by (with_reducible repeat (first | apply Kd.jIa | apply Kd.jHa | apply Kd.jOa));exact HO264.out,bq⟩
def sh156_ren : Go.Shelf.Ren := ⟨fun | 156 => 35 | 165 => 49 | 166 => 50 | 169 => 51 | 240 => 55 | 241 => 56 | 276 => 61 | 277 => 62 | n => n, fun | 31 => 62 | 9 => 9 | 3 => 3 | 4 => 4 | 0 => 0 | 20 => 20 | 72 => 74 | 76 => 78 | 70 => 71 | 37 => 72 | 75 => 77 | 127 => 84 | 164 => 91 | 5 => 5 | 80 => 80 | n => n, fun | n => n⟩
theorem sh156 : Go.Proofs.Lays.n156 Tryd.prog sh156_ren := {
 mixed:=by kernel_rfl
 f156:=Tryd.func35.trans (congrArg some (by kernel_rfl))
 f165:=Tryd.func49.trans (congrArg some (by kernel_rfl))
 f166:=Tryd.func50.trans (congrArg some (by kernel_rfl))
 f169:=Tryd.func51.trans (congrArg some (by kernel_rfl))
 f240:=Tryd.func55.trans (congrArg some (by kernel_rfl))
 f241:=Tryd.func56.trans (congrArg some (by kernel_rfl))
 f276:=Tryd.func61.trans (congrArg some (by kernel_rfl))
 f277:=Tryd.func62.trans (congrArg some (by kernel_rfl))
 t0:=Tryd.underlying0
 a0:=Tryd.isAgg0
 z0:=Tryd.sizeOf0
 v0:=Tryd.zeroValue0
 t3:=Tryd.underlying3
 a3:=Tryd.isAgg3
 z3:=Tryd.sizeOf3
 v3:=Tryd.zeroValue3
 t4:=Tryd.underlying4
 a4:=Tryd.isAgg4
 z4:=Tryd.sizeOf4
 v4:=Tryd.zeroValue4
 t9:=Tryd.underlying9
 a9:=Tryd.isAgg9
 z9:=Tryd.sizeOf9
 v9:=Tryd.zeroValue9
 t20:=Tryd.underlying20
 a20:=Tryd.isAgg20
 z20:=Tryd.sizeOf20
 v20:=Tryd.zeroValue20
 t31:=Tryd.underlying62
 a31:=Tryd.isAgg62
 z31:=Tryd.sizeOf62
 v31:=Tryd.zeroValue62
 t37:=Tryd.underlying72
 a37:=Tryd.isAgg72
 z37:=Tryd.sizeOf72
 v37:=Tryd.zeroValue72
 t70:=Tryd.underlying71
 a70:=Tryd.isAgg71
 z70:=Tryd.sizeOf71
 v70:=Tryd.zeroValue71
 t72:=Tryd.underlying74
 a72:=Tryd.isAgg74
 z72:=Tryd.sizeOf74
 v72:=Tryd.zeroValue74
 t75:=Tryd.underlying77
 a75:=Tryd.isAgg77
 z75:=Tryd.sizeOf77
 v75:=Tryd.zeroValue77
 t76:=Tryd.underlying78
 a76:=Tryd.isAgg78
 z76:=Tryd.sizeOf78
 v76:=Tryd.zeroValue78
 t127:=Tryd.underlying84
 a127:=Tryd.isAgg84
 z127:=Tryd.sizeOf84
 v127:=Tryd.zeroValue84
 t164:=Tryd.underlying91
 a164:=Tryd.isAgg91
 z164:=Tryd.sizeOf91
 v164:=Tryd.zeroValue91 }
theorem sh156x : Go.Proofs.Builder.Extra Tryd.prog sh156_ren := { sizeBuilder := by kernel_rfl, liesBuilder := by kernel_rfl, t5 := Tryd.underlying5, a5 := Tryd.isAgg5, z5 := Tryd.sizeOf5, v5 := Tryd.zeroValue5, infoByte := by kernel_rfl, cellsByte := by kernel_rfl, sizeByte := by kernel_rfl, neB5 := by decide }
theorem join_at {e base : Nat} {ok : Nat → Prop} {W : World} {A : Option Addr} {n c : Nat} {xs : List ByteArray} (h : Kd.R Kd.string e W base ok (.slice A n c) xs) : xs.length = 0 ∨ ∃ g o, A = some ⟨g, o, none⟩ ∧ g < W.heap.size := by
 obtain ⟨_,inner,ho,_⟩:=h
 rcases ho.2 with ⟨he,h0⟩ | ⟨g,cap,cur,he,hg,hh,_⟩
 ·exact .inl h0
 ·right
  cases he
  exact ⟨g,0,rfl,(Array.getElem?_eq_some_iff.1 hh).1⟩
def joinT (l0 : List ByteArray) (a1 : ByteArray) : ByteArray := ⟨(Lib.join (l0.map (·.data.toList)) a1.data.toList).toArray⟩
def strings_Join.f (l0 : List ByteArray) (a1 : ByteArray) : Option ByteArray := if l0.length ≤ 140737488355328 ∧ (Lib.join (l0.map (·.data.toList)) a1.data.toList).length ≤ 140737488355328 then some (joinT l0 a1) else none
set_option maxHeartbeats 8000000 in
set_option maxRecDepth 100000 in
theorem strings_Join.calls (A0 : Option Addr) (c0 : Nat) (l0 : List ByteArray) (a1 : ByteArray) (r : ByteArray) (w : World) (hr0 : Kd.C Kd.string w A0 l0.length l0) (hc0 : l0.length ≤ c0) (h : strings_Join.f l0 a1 = some r) (hA : l0.length = 0 ∨ ∃ g o, A0 = some ⟨g, o, none⟩ ∧ g < w.heap.size) :
  Calls Tryd.prog 35 #[.slice A0 l0.length c0, .string a1] w fun e w'=>e=.returned (.string r)∧Below w.heap.size w w':=by
 unfold strings_Join.f at h
 by_cases hk:l0.length≤140737488355328∧(Lib.join (l0.map (·.data.toList)) a1.data.toList).length≤140737488355328
 ·rw [if_pos hk] at h
  obtain rfl:=Option.some.inj h
  cases l0 with
  | nil=>exact (show Calls Tryd.prog 35 _ w _ from Go.Proofs.Any.strings_Join_none sh156 sh156x A0 c0 a1 w).mono (fun e w' ⟨he,hw⟩=>⟨he,hw ▸ Below.refl _ _⟩)
  | cons x xs =>
   rcases hA with hA | ⟨g,o,rfl,hg⟩
   ·simp at hA
   ·refine (show Calls Tryd.prog 35 _ w _ from Go.Proofs.Any.strings_Join sh156 sh156x g o c0 (x :: xs) a1 w (fun j y hj=>?_) hg hk.1 hc0 hk.2)
    obtain ⟨ad,e1,e2⟩:=hr0.2.2 (by simp)
    obtain rfl:=Option.some.inj e1
    obtain ⟨c,h1,h2,h3⟩:=e2 j y hj
    have h4:=h3 0 (.string y) (by rw [show c=[.string y] from h2];rfl)
    have e3:(⟨g,o,none⟩:Addr).add (j * Kd.string.sz+0)=⟨g,o+j,none⟩:=by
     rw [show Kd.string.sz=1 from rfl,Nat.mul_one,Nat.add_zero]
     unfold Addr.add
     split
     ·simp_all
     ·rfl
    rw [e3] at h4
    exact h4
 ·rw [if_neg hk] at h;cases h
end Go.Proofs.YtpfaohdpnegjnaaDoor.P
end
