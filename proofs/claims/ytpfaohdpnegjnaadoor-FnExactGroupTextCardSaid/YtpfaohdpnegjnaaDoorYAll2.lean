/- One part of the proofs on this program: functions of the program as plain functions, that the code comes to them, and facts on them. -/
import Derived.Test.YtpfaohdpnegjnaaDoorYAll1
import Derived.Test.YtpfaohdpnegjnaaDoorYWAuto
section
namespace Go.Proofs.YtpfaohdpnegjnaaDoor.P
open Go.RowKit Go.Proofs.YtpfaohdpnegjnaaDoorW.PrintWords Go.Proofs.YtpfaohdpnegjnaaDoorW.PrintLast Go.Proofs.YtpfaohdpnegjnaaDoorW.PrintMore
attribute [local go_sem] jZ jX joa jna jP jO jY jW jo
set_option linter.unusedVariables false
set_option linter.unusedSimpArgs false
mutual
def jc.l0 : Nat → List (S42) → Int → List (S59) → Option (Bool)
 | 0,_,_,_=>none
 | k+1,x1,x5,x113000=>if x5<(x1.length:Int) then (if 0≤x5 then ((jr.f ((ja x1 x5).f3) 0 99).bind fun t115=>(if t115=true then ((jr.f ((ja x1 x5).f0) 0 5).bind fun t116=>(if t116=true then (if (ja x1 x5).f1=true then (if ((ja x1 x5).f2)=0 then (if ((ja x1 x5).f1=true) then (jc.j1 k x1 x5 ((((ja x1 x5).f0) == 0) != (x5 == 0)) x113000 ((ja x1 x5).f0) ((ja x1 x5).f1) ((ja x1 x5).f2) ((ja x1 x5).f3)) else ((jM.f x113000 ((ja x1 x5).f2)).bind fun t117=>(if t117=true then (jc.j1 k x1 x5 ((((ja x1 x5).f0) == 0) != (x5 == 0)) x113000 ((ja x1 x5).f0) ((ja x1 x5).f1) ((ja x1 x5).f2) ((ja x1 x5).f3)) else (jc.j1 k x1 x5 true x113000 ((ja x1 x5).f0) ((ja x1 x5).f1) ((ja x1 x5).f2) ((ja x1 x5).f3))))) else (jc.j1 k x1 x5 true x113000 ((ja x1 x5).f0) ((ja x1 x5).f1) ((ja x1 x5).f2) ((ja x1 x5).f3))) else (if ((ja x1 x5).f1=true) then (jc.j1 k x1 x5 ((((ja x1 x5).f0) == 0) != (x5 == 0)) x113000 ((ja x1 x5).f0) ((ja x1 x5).f1) ((ja x1 x5).f2) ((ja x1 x5).f3)) else ((jM.f x113000 ((ja x1 x5).f2)).bind fun t118=>(if t118=true then (jc.j1 k x1 x5 ((((ja x1 x5).f0) == 0) != (x5 == 0)) x113000 ((ja x1 x5).f0) ((ja x1 x5).f1) ((ja x1 x5).f2) ((ja x1 x5).f3)) else (jc.j1 k x1 x5 true x113000 ((ja x1 x5).f0) ((ja x1 x5).f1) ((ja x1 x5).f2) ((ja x1 x5).f3)))))) else (jc.j1 k x1 x5 true x113000 ((ja x1 x5).f0) ((ja x1 x5).f1) ((ja x1 x5).f2) ((ja x1 x5).f3)))) else (jc.j1 k x1 x5 true x113000 ((ja x1 x5).f0) ((ja x1 x5).f1) ((ja x1 x5).f2) ((ja x1 x5).f3)))) else (none)) else ((jw.f k x113000).bind fun t125=>(if t125=true then ((jr.f (x1.length:Int) 1 16).bind fun t126=>(some t126)) else (some false)))
def jc.j1 : Nat → List (S42) → Int → Bool → List (S59) → Int → Bool → Int → Int → Option (Bool)
 | 0,_,_,_,_,_,_,_,_=>none
 | k+1,x1,x5,x55,x113000,x115000,x115001,x115002,x115003=>if x55=true then (some false) else (if x5 > 0 then (if 0≤(wrap64 (x5 - 1)) then (if (wrap64 (x5 - 1))<(x1.length:Int) then (if x115000 > (wrap64 (((ja x1 (wrap64 (x5 - 1))).f0)+1)) then (jc.j2 k x1 x5 true x113000) else (if x115000 > ((ja x1 (wrap64 (x5 - 1))).f0) then (if ((ja x1 (wrap64 (x5 - 1))).f1=true) then (if x115001=true then ((jK.f k x1 x5).bind fun t122=>(jc.j2 k x1 x5 (t122 == (wrap64 (x5+1))) x113000)) else (jc.j2 k x1 x5 false x113000)) else (jc.j2 k x1 x5 true x113000)) else (if x115001=true then ((jK.f k x1 x5).bind fun t123=>(jc.j2 k x1 x5 (t123 == (wrap64 (x5+1))) x113000)) else (jc.j2 k x1 x5 false x113000)))) else (none)) else (none)) else (if x115001=true then ((jK.f k x1 x5).bind fun t124=>(jc.j2 k x1 x5 (t124 == (wrap64 (x5+1))) x113000)) else (jc.j2 k x1 x5 false x113000)))
def jc.j2 : Nat → List (S42) → Int → Bool → List (S59) → Option (Bool)
 | 0,_,_,_,_=>none
 | k+1,x1,x5,x101,x113000=>if x101=true then (some false) else (jc.l0 k x1 (wrap64 (x5+1)) x113000)
end
def jc.f (k : Nat) (l0_0 : List (S59)) (l1 : List (S42)) : Option (Bool) := jc.l0 k l1 0 l0_0
set_option maxHeartbeats 8000000 in
set_option maxRecDepth 100000 in
theorem jc.calls (k : Nat) (A0_0 : Option Addr) (c0_0 : Nat) (l0_0 : List (S59)) (A1 : Option Addr) (c1 : Nat) (l1 : List (S42)) (r : Bool) (w : World) (hr0_0 : Kd.C k59 w A0_0 l0_0.length l0_0) (hc0_0 : l0_0.length ≤ c0_0) (hr1 : Kd.C k42 w A1 l1.length l1) (hc1 : l1.length ≤ c1) (h : jc.f k l0_0 l1 = some r) :
  Calls Tryd.prog 13 #[.agg #[.slice A0_0 l0_0.length c0_0], .slice A1 l1.length c1] w fun e w'=>e=.returned (.bool r)∧Below w.heap.size w w':=by
 have hu31:=Tryd.underlying31
 have hu42:=Tryd.underlying42
 have HR0_0:=am hr0_0
 have HC0_0:=am hc0_0
 clear hr0_0 hc0_0
 have HR1:=am hr1
 have HC1:=am hc1
 clear hr1 hc1
 have HB:=am (Below.refl w.heap.size w)
 have H:(jc.l0 k l1 0 l0_0)=some r:=h
 clear h
 have H':=am H
 clear H
 go_enter Tryd.func13,Tryd.ntmps13
 go_wp2_with (first |((with_reducible refine jE (N:=2) rfl ?_);(try (refine jfb (by rfl) ?_;dsimp only));refine jib ?hg (N:=2) ?hd (cs:=#[.slice A0_0 l0_0.length c0_0]) (t:=31) ?hr ?_;(case hd=>rfl);(case hg=>rfl);(case hr=>exact Y6);intro gb112 hg w3 hbox hb;have BK112:=am (hbox);have GW112:=am ((Y0:w.heap.size≤gb112));have GE112:=am ((Y0:w.heap.size≤gb112));replace HB:=am (jd (bq) hb);clear hb hbox hg))
 repeat (go_quiet (first |((with_reducible refine jE (N:=2) rfl ?_);(try (refine jfb (by rfl) ?_;dsimp only));refine jib ?hg (N:=2) ?hd (cs:=#[.slice A0_0 l0_0.length c0_0]) (t:=31) ?hr ?_;(case hd=>rfl);(case hg=>rfl);(case hr=>exact Y6);intro gb112 hg w3 hbox hb;have BK112:=am (hbox);have GW112:=am ((Y0:w.heap.size≤gb112));have GE112:=am ((Y0:w.heap.size≤gb112));replace HB:=am (jd (bq) hb);clear hb hbox hg));try go_wp2_with (first |((with_reducible refine jE (N:=2) rfl ?_);(try (refine jfb (by rfl) ?_;dsimp only));refine jib ?hg (N:=2) ?hd (cs:=#[.slice A0_0 l0_0.length c0_0]) (t:=31) ?hr ?_;(case hd=>rfl);(case hg=>rfl);(case hr=>exact Y6);intro gb112 hg w3 hbox hb;have BK112:=am (hbox);have GW112:=am ((Y0:w.heap.size≤gb112));have GE112:=am ((Y0:w.heap.size≤gb112));replace HB:=am (jd (bq) hb);clear hb hbox hg)))
 go_loopg [5] k (fun kq v5 w'=>∃ (x5_1:Int),v5=.int .i64 x5_1∧jH (jc.l0 kq l1 x5_1 l0_0=some r)∧jH (kq≤k)∧jH (w'.heap[gb112]?=some (.cells #[(.slice A0_0 l0_0.length c0_0)] 31 (0,0)))∧jH (Below w.heap.size w w'))
 case atStart=>exact ⟨(0),(sq),H',⟨Nat.le_refl _⟩,⟨kq BK112.out⟩,⟨Y9⟩⟩
 case round =>
  clear H'
  try clear c1
  try clear p2
  obtain ⟨x5_1,rfl,HA,HK1,BK112,HB⟩:=hrel
  cases gk with
  | zero=>exact absurd HA.out (by simp [jc.l0])
  | succ k1 =>
   have H:=HA.out
   clear HA
   simp only [jc.l0] at H
   by_cases c4:x5_1<(l1.length:Int)
   ·rw [if_pos c4] at H
    have c4b0:decide (x5_1<(l1.length:Int))=true:=dzT c4
    clear c4
    by_cases c5:0≤x5_1
    ·rw [if_pos c5] at H
     have c5b0:decide (0≤x5_1)=true:=dzT c5
     clear c5
     have HC6:=am H
     clear H
     have p113:0≤(x5_1:Int):=ozD (uq)
     have q113:x5_1<(l1.length:Int):=ozD (uq)
     obtain ⟨ad113,e113,hx113_0,hx113_1,hx113_2,hx113_3⟩:=jpa HR1.out x5_1 p113 q113
     cases e113
     replace hx113_0:=cb HB.out hx113_0
     replace hx113_1:=cb HB.out hx113_1
     replace hx113_2:=cb HB.out hx113_2
     replace hx113_3:=cb HB.out hx113_3
     replace p113:=ezT p113
     replace q113:=ezT q113
     go_upto_region 5 with (first |((with_reducible refine jE (N:=6) rfl ?_);(try (refine jfb (by rfl) ?_;dsimp only));refine jib ?hg (N:=6) ?hd (cs:=#[.int .i64 0, .bool false, .int .i64 0, .int .i64 0]) (t:=42) ?hr ?_;(case hd=>rfl);(case hg=>rfl);(case hr=>exact Y6);intro gb114 hg w7 hbox hb;have BK114:=am (hbox);have GW114:=am ((Y13:w.heap.size≤gb114));have GE114:=am ((Y13:w.heap.size≤gb114));have NB112_114:=am ((Y33:gb112≠gb114));have NB114_112:=am ((Y34:gb114≠gb112));replace BK112:=am (jh (g:=gb112) (o:=.cells #[.slice A0_0 l0_0.length c0_0] 31 (0,0)) (kq BK112.out) hb);replace HB:=am (jd (Y9) hb);clear hb hbox hg;have hnb8:=NB114_112.out;have hnc8:=NB112_114.out;have hcz9_0:=bc0 BK114.out;have hcz9_1:=bc1 BK114.out;have hcz9_2:=bc2 BK114.out;have hcz9_3:=bc3 BK114.out;have hfz9_0:=jb BK114.out 0;have hfz9_1:=jb BK114.out 1;have hfz9_2:=jb BK114.out 2;have hfz9_3:=jb BK114.out 3))
     repeat (go_quiet (first |((with_reducible refine jE (N:=6) rfl ?_);(try (refine jfb (by rfl) ?_;dsimp only));refine jib ?hg (N:=6) ?hd (cs:=#[.int .i64 0, .bool false, .int .i64 0, .int .i64 0]) (t:=42) ?hr ?_;(case hd=>rfl);(case hg=>rfl);(case hr=>exact Y6);intro gb114 hg w7 hbox hb;have BK114:=am (hbox);have GW114:=am ((Y13:w.heap.size≤gb114));have GE114:=am ((Y13:w.heap.size≤gb114));have NB112_114:=am ((Y33:gb112≠gb114));have NB114_112:=am ((Y34:gb114≠gb112));replace BK112:=am (jh (g:=gb112) (o:=.cells #[.slice A0_0 l0_0.length c0_0] 31 (0,0)) (kq BK112.out) hb);replace HB:=am (jd (Y9) hb);clear hb hbox hg;have hnb8:=NB114_112.out;have hnc8:=NB112_114.out;have hcz9_0:=bc0 BK114.out;have hcz9_1:=bc1 BK114.out;have hcz9_2:=bc2 BK114.out;have hcz9_3:=bc3 BK114.out;have hfz9_0:=jb BK114.out 0;have hfz9_1:=jb BK114.out 1;have hfz9_2:=jb BK114.out 2;have hfz9_3:=jb BK114.out 3));go_upto_region 5 with (first |((with_reducible refine jE (N:=6) rfl ?_);(try (refine jfb (by rfl) ?_;dsimp only));refine jib ?hg (N:=6) ?hd (cs:=#[.int .i64 0, .bool false, .int .i64 0, .int .i64 0]) (t:=42) ?hr ?_;(case hd=>rfl);(case hg=>rfl);(case hr=>exact Y6);intro gb114 hg w7 hbox hb;have BK114:=am (hbox);have GW114:=am ((Y13:w.heap.size≤gb114));have GE114:=am ((Y13:w.heap.size≤gb114));have NB112_114:=am ((Y33:gb112≠gb114));have NB114_112:=am ((Y34:gb114≠gb112));replace BK112:=am (jh (g:=gb112) (o:=.cells #[.slice A0_0 l0_0.length c0_0] 31 (0,0)) (kq BK112.out) hb);replace HB:=am (jd (Y9) hb);clear hb hbox hg;have hnb8:=NB114_112.out;have hnc8:=NB112_114.out;have hcz9_0:=bc0 BK114.out;have hcz9_1:=bc1 BK114.out;have hcz9_2:=bc2 BK114.out;have hcz9_3:=bc3 BK114.out;have hfz9_0:=jb BK114.out 0;have hfz9_1:=jb BK114.out 1;have hfz9_2:=jb BK114.out 2;have hfz9_3:=jb BK114.out 3)))
     (try simp only [Act.put,List.setIfInBounds_toArray,List.set_cons_zero,List.set_cons_succ])
     go_cut [55] (fun v55 wc=>∃ (kq:Nat) (x55_5:Bool),v55=.bool x55_5∧jH (jc.j1 kq l1 x5_1 x55_5 l0_0 ((ja l1 x5_1).f0) ((ja l1 x5_1).f1) ((ja l1 x5_1).f2) ((ja l1 x5_1).f3)=some r)∧jH (kq≤k1)∧jH (wc.heap[gb112]?=some (.cells #[(.slice A0_0 l0_0.length c0_0)] 31 (0,0)))∧jH (wc.heap[gb114]?=some (.cells #[.int .i64 ((ja l1 x5_1).f0), .bool ((ja l1 x5_1).f1), .int .i64 ((ja l1 x5_1).f2), .int .i64 ((ja l1 x5_1).f3)] 42 (0,0)))∧jH (Below w.heap.size w wc))
     case first =>
      have H:=HC6.out
      clear HC6
      replace H:=bzS H
      obtain ⟨t115,A100,H⟩:=H
      replace H:(if t115=true then ((jr.f ((ja l1 x5_1).f0) 0 5).bind fun t116=>(if t116=true then (if (ja l1 x5_1).f1=true then (if ((ja l1 x5_1).f2)=0 then (if ((ja l1 x5_1).f1=true) then (jc.j1 k1 l1 x5_1 ((((ja l1 x5_1).f0) == 0) != (x5_1 == 0)) l0_0 ((ja l1 x5_1).f0) ((ja l1 x5_1).f1) ((ja l1 x5_1).f2) ((ja l1 x5_1).f3)) else ((jM.f l0_0 ((ja l1 x5_1).f2)).bind fun t117=>(if t117=true then (jc.j1 k1 l1 x5_1 ((((ja l1 x5_1).f0) == 0) != (x5_1 == 0)) l0_0 ((ja l1 x5_1).f0) ((ja l1 x5_1).f1) ((ja l1 x5_1).f2) ((ja l1 x5_1).f3)) else (jc.j1 k1 l1 x5_1 true l0_0 ((ja l1 x5_1).f0) ((ja l1 x5_1).f1) ((ja l1 x5_1).f2) ((ja l1 x5_1).f3))))) else (jc.j1 k1 l1 x5_1 true l0_0 ((ja l1 x5_1).f0) ((ja l1 x5_1).f1) ((ja l1 x5_1).f2) ((ja l1 x5_1).f3))) else (if ((ja l1 x5_1).f1=true) then (jc.j1 k1 l1 x5_1 ((((ja l1 x5_1).f0) == 0) != (x5_1 == 0)) l0_0 ((ja l1 x5_1).f0) ((ja l1 x5_1).f1) ((ja l1 x5_1).f2) ((ja l1 x5_1).f3)) else ((jM.f l0_0 ((ja l1 x5_1).f2)).bind fun t118=>(if t118=true then (jc.j1 k1 l1 x5_1 ((((ja l1 x5_1).f0) == 0) != (x5_1 == 0)) l0_0 ((ja l1 x5_1).f0) ((ja l1 x5_1).f1) ((ja l1 x5_1).f2) ((ja l1 x5_1).f3)) else (jc.j1 k1 l1 x5_1 true l0_0 ((ja l1 x5_1).f0) ((ja l1 x5_1).f1) ((ja l1 x5_1).f2) ((ja l1 x5_1).f3)))))) else (jc.j1 k1 l1 x5_1 true l0_0 ((ja l1 x5_1).f0) ((ja l1 x5_1).f1) ((ja l1 x5_1).f2) ((ja l1 x5_1).f3)))) else (jc.j1 k1 l1 x5_1 true l0_0 ((ja l1 x5_1).f0) ((ja l1 x5_1).f1) ((ja l1 x5_1).f2) ((ja l1 x5_1).f3)))=some r:=H
      have A10:=am A100
      clear A100
      by_cases c11:t115=true
      ·subst c11
       have H1:((jr.f ((ja l1 x5_1).f0) 0 5).bind fun t116=>(if t116=true then (if (ja l1 x5_1).f1=true then (if ((ja l1 x5_1).f2)=0 then (if ((ja l1 x5_1).f1=true) then (jc.j1 k1 l1 x5_1 ((((ja l1 x5_1).f0) == 0) != (x5_1 == 0)) l0_0 ((ja l1 x5_1).f0) ((ja l1 x5_1).f1) ((ja l1 x5_1).f2) ((ja l1 x5_1).f3)) else ((jM.f l0_0 ((ja l1 x5_1).f2)).bind fun t117=>(if t117=true then (jc.j1 k1 l1 x5_1 ((((ja l1 x5_1).f0) == 0) != (x5_1 == 0)) l0_0 ((ja l1 x5_1).f0) ((ja l1 x5_1).f1) ((ja l1 x5_1).f2) ((ja l1 x5_1).f3)) else (jc.j1 k1 l1 x5_1 true l0_0 ((ja l1 x5_1).f0) ((ja l1 x5_1).f1) ((ja l1 x5_1).f2) ((ja l1 x5_1).f3))))) else (jc.j1 k1 l1 x5_1 true l0_0 ((ja l1 x5_1).f0) ((ja l1 x5_1).f1) ((ja l1 x5_1).f2) ((ja l1 x5_1).f3))) else (if ((ja l1 x5_1).f1=true) then (jc.j1 k1 l1 x5_1 ((((ja l1 x5_1).f0) == 0) != (x5_1 == 0)) l0_0 ((ja l1 x5_1).f0) ((ja l1 x5_1).f1) ((ja l1 x5_1).f2) ((ja l1 x5_1).f3)) else ((jM.f l0_0 ((ja l1 x5_1).f2)).bind fun t118=>(if t118=true then (jc.j1 k1 l1 x5_1 ((((ja l1 x5_1).f0) == 0) != (x5_1 == 0)) l0_0 ((ja l1 x5_1).f0) ((ja l1 x5_1).f1) ((ja l1 x5_1).f2) ((ja l1 x5_1).f3)) else (jc.j1 k1 l1 x5_1 true l0_0 ((ja l1 x5_1).f0) ((ja l1 x5_1).f1) ((ja l1 x5_1).f2) ((ja l1 x5_1).f3)))))) else (jc.j1 k1 l1 x5_1 true l0_0 ((ja l1 x5_1).f0) ((ja l1 x5_1).f1) ((ja l1 x5_1).f2) ((ja l1 x5_1).f3))))=some r:=by rw [if_pos rfl] at H;exact H
       clear H
       have H:=H1
       clear H1
       replace H:=bzS H
       obtain ⟨t116,A120,H⟩:=H
       replace H:(if t116=true then (if (ja l1 x5_1).f1=true then (if ((ja l1 x5_1).f2)=0 then (if ((ja l1 x5_1).f1=true) then (jc.j1 k1 l1 x5_1 ((((ja l1 x5_1).f0) == 0) != (x5_1 == 0)) l0_0 ((ja l1 x5_1).f0) ((ja l1 x5_1).f1) ((ja l1 x5_1).f2) ((ja l1 x5_1).f3)) else ((jM.f l0_0 ((ja l1 x5_1).f2)).bind fun t117=>(if t117=true then (jc.j1 k1 l1 x5_1 ((((ja l1 x5_1).f0) == 0) != (x5_1 == 0)) l0_0 ((ja l1 x5_1).f0) ((ja l1 x5_1).f1) ((ja l1 x5_1).f2) ((ja l1 x5_1).f3)) else (jc.j1 k1 l1 x5_1 true l0_0 ((ja l1 x5_1).f0) ((ja l1 x5_1).f1) ((ja l1 x5_1).f2) ((ja l1 x5_1).f3))))) else (jc.j1 k1 l1 x5_1 true l0_0 ((ja l1 x5_1).f0) ((ja l1 x5_1).f1) ((ja l1 x5_1).f2) ((ja l1 x5_1).f3))) else (if ((ja l1 x5_1).f1=true) then (jc.j1 k1 l1 x5_1 ((((ja l1 x5_1).f0) == 0) != (x5_1 == 0)) l0_0 ((ja l1 x5_1).f0) ((ja l1 x5_1).f1) ((ja l1 x5_1).f2) ((ja l1 x5_1).f3)) else ((jM.f l0_0 ((ja l1 x5_1).f2)).bind fun t118=>(if t118=true then (jc.j1 k1 l1 x5_1 ((((ja l1 x5_1).f0) == 0) != (x5_1 == 0)) l0_0 ((ja l1 x5_1).f0) ((ja l1 x5_1).f1) ((ja l1 x5_1).f2) ((ja l1 x5_1).f3)) else (jc.j1 k1 l1 x5_1 true l0_0 ((ja l1 x5_1).f0) ((ja l1 x5_1).f1) ((ja l1 x5_1).f2) ((ja l1 x5_1).f3)))))) else (jc.j1 k1 l1 x5_1 true l0_0 ((ja l1 x5_1).f0) ((ja l1 x5_1).f1) ((ja l1 x5_1).f2) ((ja l1 x5_1).f3)))=some r:=H
       have A12:=am A120
       clear A120
       by_cases c13:t116=true
       ·subst c13
        have H1:(if (ja l1 x5_1).f1=true then (if ((ja l1 x5_1).f2)=0 then (if ((ja l1 x5_1).f1=true) then (jc.j1 k1 l1 x5_1 ((((ja l1 x5_1).f0) == 0) != (x5_1 == 0)) l0_0 ((ja l1 x5_1).f0) ((ja l1 x5_1).f1) ((ja l1 x5_1).f2) ((ja l1 x5_1).f3)) else ((jM.f l0_0 ((ja l1 x5_1).f2)).bind fun t117=>(if t117=true then (jc.j1 k1 l1 x5_1 ((((ja l1 x5_1).f0) == 0) != (x5_1 == 0)) l0_0 ((ja l1 x5_1).f0) ((ja l1 x5_1).f1) ((ja l1 x5_1).f2) ((ja l1 x5_1).f3)) else (jc.j1 k1 l1 x5_1 true l0_0 ((ja l1 x5_1).f0) ((ja l1 x5_1).f1) ((ja l1 x5_1).f2) ((ja l1 x5_1).f3))))) else (jc.j1 k1 l1 x5_1 true l0_0 ((ja l1 x5_1).f0) ((ja l1 x5_1).f1) ((ja l1 x5_1).f2) ((ja l1 x5_1).f3))) else (if ((ja l1 x5_1).f1=true) then (jc.j1 k1 l1 x5_1 ((((ja l1 x5_1).f0) == 0) != (x5_1 == 0)) l0_0 ((ja l1 x5_1).f0) ((ja l1 x5_1).f1) ((ja l1 x5_1).f2) ((ja l1 x5_1).f3)) else ((jM.f l0_0 ((ja l1 x5_1).f2)).bind fun t118=>(if t118=true then (jc.j1 k1 l1 x5_1 ((((ja l1 x5_1).f0) == 0) != (x5_1 == 0)) l0_0 ((ja l1 x5_1).f0) ((ja l1 x5_1).f1) ((ja l1 x5_1).f2) ((ja l1 x5_1).f3)) else (jc.j1 k1 l1 x5_1 true l0_0 ((ja l1 x5_1).f0) ((ja l1 x5_1).f1) ((ja l1 x5_1).f2) ((ja l1 x5_1).f3))))))=some r:=by rw [if_pos rfl] at H;exact H
        clear H
        have H:=H1
        clear H1
        obtain ⟨bq14,hbq14⟩:∃ b_:Bool,b_=((ja l1 x5_1).f1):=⟨_,rfl⟩
        replace H:(if bq14=true then (if ((ja l1 x5_1).f2)=0 then (if (bq14=true) then (jc.j1 k1 l1 x5_1 ((((ja l1 x5_1).f0) == 0) != (x5_1 == 0)) l0_0 ((ja l1 x5_1).f0) bq14 ((ja l1 x5_1).f2) ((ja l1 x5_1).f3)) else ((jM.f l0_0 ((ja l1 x5_1).f2)).bind fun t117=>(if t117=true then (jc.j1 k1 l1 x5_1 ((((ja l1 x5_1).f0) == 0) != (x5_1 == 0)) l0_0 ((ja l1 x5_1).f0) bq14 ((ja l1 x5_1).f2) ((ja l1 x5_1).f3)) else (jc.j1 k1 l1 x5_1 true l0_0 ((ja l1 x5_1).f0) bq14 ((ja l1 x5_1).f2) ((ja l1 x5_1).f3))))) else (jc.j1 k1 l1 x5_1 true l0_0 ((ja l1 x5_1).f0) bq14 ((ja l1 x5_1).f2) ((ja l1 x5_1).f3))) else (if (bq14=true) then (jc.j1 k1 l1 x5_1 ((((ja l1 x5_1).f0) == 0) != (x5_1 == 0)) l0_0 ((ja l1 x5_1).f0) bq14 ((ja l1 x5_1).f2) ((ja l1 x5_1).f3)) else ((jM.f l0_0 ((ja l1 x5_1).f2)).bind fun t118=>(if t118=true then (jc.j1 k1 l1 x5_1 ((((ja l1 x5_1).f0) == 0) != (x5_1 == 0)) l0_0 ((ja l1 x5_1).f0) bq14 ((ja l1 x5_1).f2) ((ja l1 x5_1).f3)) else (jc.j1 k1 l1 x5_1 true l0_0 ((ja l1 x5_1).f0) bq14 ((ja l1 x5_1).f2) ((ja l1 x5_1).f3))))))=some r:=by rw [← hbq14] at H;exact H
        have Nbq14:=am hbq14
        clear hbq14
        (try rw [← Nbq14.out])
        by_cases c15:bq14=true
        ·subst c15
         have H1:(if ((ja l1 x5_1).f2)=0 then (if (true=true) then (jc.j1 k1 l1 x5_1 ((((ja l1 x5_1).f0) == 0) != (x5_1 == 0)) l0_0 ((ja l1 x5_1).f0) true ((ja l1 x5_1).f2) ((ja l1 x5_1).f3)) else ((jM.f l0_0 ((ja l1 x5_1).f2)).bind fun t117=>(if t117=true then (jc.j1 k1 l1 x5_1 ((((ja l1 x5_1).f0) == 0) != (x5_1 == 0)) l0_0 ((ja l1 x5_1).f0) true ((ja l1 x5_1).f2) ((ja l1 x5_1).f3)) else (jc.j1 k1 l1 x5_1 true l0_0 ((ja l1 x5_1).f0) true ((ja l1 x5_1).f2) ((ja l1 x5_1).f3))))) else (jc.j1 k1 l1 x5_1 true l0_0 ((ja l1 x5_1).f0) true ((ja l1 x5_1).f2) ((ja l1 x5_1).f3)))=some r:=by rw [if_pos rfl] at H;exact H
         clear H
         have H:=H1
         clear H1
         by_cases c16:((ja l1 x5_1).f2)=0
         ·rw [if_pos c16] at H
          have c16b0:(((ja l1 x5_1).f2) == 0)=true:=beq_iff_eq.mpr c16
          have c16b1:(((ja l1 x5_1).f2) != 0)=false:=bne_eq_false_iff_eq.mpr c16
          clear c16
          by_cases c17:(true=true)
          ·clear c17
           have H1:(jc.j1 k1 l1 x5_1 ((((ja l1 x5_1).f0) == 0) != (x5_1 == 0)) l0_0 ((ja l1 x5_1).f0) true ((ja l1 x5_1).f2) ((ja l1 x5_1).f3))=some r:=by rw [if_pos rfl] at H;exact H
           clear H
           have H:=H1
           clear H1
           have H':=am H
           clear H
           have hnb18:=NB114_112.out
           have hnc18:=NB112_114.out
           have hcz19_0:=bc0 BK114.out
           have hcz19_1:=bc1 BK114.out
           have hcz19_2:=bc2 BK114.out
           have hcz19_3:=bc3 BK114.out
           have hfz19_0:=jb BK114.out 0
           have hfz19_1:=jb BK114.out 1
           have hfz19_2:=jb BK114.out 2
           have hfz19_3:=jb BK114.out 3
           go_wp2_with (first |(go_at_call 22;(with_reducible refine (jr.calls ((ja l1 x5_1).f3) 0 99 true _ A10.out).mono ?_);rintro e w' ⟨rfl,⟨nd,rfl⟩⟩;(try first | exact ⟨rfl,_,World.drewN_drewN _ _ _⟩ | exact ⟨rfl,_,Eq.trans (World.drewN_drewN _ _ _) (congrArg (World.drewN _) (Nat.add_assoc _ _ _))⟩)) |(go_at_call 22;(with_reducible refine (jr.calls ((ja l1 x5_1).f0) 0 5 true _ A12.out).mono ?_);rintro e w' ⟨rfl,⟨nd,rfl⟩⟩;(try first | exact ⟨rfl,_,World.drewN_drewN _ _ _⟩ | exact ⟨rfl,_,Eq.trans (World.drewN_drewN _ _ _) (congrArg (World.drewN _) (Nat.add_assoc _ _ _))⟩)))
           repeat (go_quiet (first |(go_at_call 22;(with_reducible refine (jr.calls ((ja l1 x5_1).f3) 0 99 true _ A10.out).mono ?_);rintro e w' ⟨rfl,⟨nd,rfl⟩⟩;(try first | exact ⟨rfl,_,World.drewN_drewN _ _ _⟩ | exact ⟨rfl,_,Eq.trans (World.drewN_drewN _ _ _) (congrArg (World.drewN _) (Nat.add_assoc _ _ _))⟩)) |(go_at_call 22;(with_reducible refine (jr.calls ((ja l1 x5_1).f0) 0 5 true _ A12.out).mono ?_);rintro e w' ⟨rfl,⟨nd,rfl⟩⟩;(try first | exact ⟨rfl,_,World.drewN_drewN _ _ _⟩ | exact ⟨rfl,_,Eq.trans (World.drewN_drewN _ _ _) (congrArg (World.drewN _) (Nat.add_assoc _ _ _))⟩)));try go_wp2_with (first |(go_at_call 22;(with_reducible refine (jr.calls ((ja l1 x5_1).f3) 0 99 true _ A10.out).mono ?_);rintro e w' ⟨rfl,⟨nd,rfl⟩⟩;(try first | exact ⟨rfl,_,World.drewN_drewN _ _ _⟩ | exact ⟨rfl,_,Eq.trans (World.drewN_drewN _ _ _) (congrArg (World.drewN _) (Nat.add_assoc _ _ _))⟩)) |(go_at_call 22;(with_reducible refine (jr.calls ((ja l1 x5_1).f0) 0 5 true _ A12.out).mono ?_);rintro e w' ⟨rfl,⟨nd,rfl⟩⟩;(try first | exact ⟨rfl,_,World.drewN_drewN _ _ _⟩ | exact ⟨rfl,_,Eq.trans (World.drewN_drewN _ _ _) (congrArg (World.drewN _) (Nat.add_assoc _ _ _))⟩))))
           go_meet
           case rel=>((try rw [← Nbq14.out]);exact ⟨_,(((((ja l1 x5_1).f0) == 0) != (x5_1 == 0))),(sq),H',⟨by have:=HK1.out;first | omega | exact Nat.le_refl _⟩,⟨by (with_reducible repeat (first | refine jf ?_ _ | refine jk ?_ | refine jg ?_ _));refine jaa ?_ NB112_114.out _;(with_reducible repeat (first | refine jf ?_ _ | refine jk ?_ | refine jg ?_ _));refine jaa ?_ NB112_114.out _;(with_reducible repeat (first | refine jf ?_ _ | refine jk ?_ | refine jg ?_ _));refine jaa ?_ NB112_114.out _;(with_reducible repeat (first | refine jf ?_ _ | refine jk ?_ | refine jg ?_ _));refine jaa ?_ NB112_114.out _;(with_reducible repeat (first | refine jf ?_ _ | refine jk ?_ | refine jg ?_ _));exact BK112.out⟩,⟨by (with_reducible repeat (first | refine jf ?_ _ | refine jk ?_ | refine jg ?_ _));refine jT (cs:=#[.int .i64 ((ja l1 x5_1).f0), .bool (true), .int .i64 ((ja l1 x5_1).f2), .int .i64 0]) ?_ 3 _ rfl;(with_reducible repeat (first | refine jf ?_ _ | refine jk ?_ | refine jg ?_ _));refine jT (cs:=#[.int .i64 ((ja l1 x5_1).f0), .bool (true), .int .i64 0, .int .i64 0]) ?_ 2 _ rfl;(with_reducible repeat (first | refine jf ?_ _ | refine jk ?_ | refine jg ?_ _));refine jT (cs:=#[.int .i64 ((ja l1 x5_1).f0), .bool false, .int .i64 0, .int .i64 0]) ?_ 1 _ rfl;(with_reducible repeat (first | refine jf ?_ _ | refine jk ?_ | refine jg ?_ _));refine jT (cs:=#[.int .i64 0, .bool false, .int .i64 0, .int .i64 0]) ?_ 0 _ rfl;(with_reducible repeat (first | refine jf ?_ _ | refine jk ?_ | refine jg ?_ _));exact BK114.out⟩,⟨Y3⟩⟩)
          ·exact absurd rfl c17
         ·rw [if_neg c16] at H
          have c16b0:(((ja l1 x5_1).f2) == 0)=false:=beq_eq_false_iff_ne.mpr c16
          have c16b1:(((ja l1 x5_1).f2) != 0)=true:=bne_iff_ne.mpr c16
          have H':=am H
          clear H
          have hnb31:=NB114_112.out
          have hnc31:=NB112_114.out
          have hcz32_0:=bc0 BK114.out
          have hcz32_1:=bc1 BK114.out
          have hcz32_2:=bc2 BK114.out
          have hcz32_3:=bc3 BK114.out
          have hfz32_0:=jb BK114.out 0
          have hfz32_1:=jb BK114.out 1
          have hfz32_2:=jb BK114.out 2
          have hfz32_3:=jb BK114.out 3
          go_wp2_with (first |(go_at_call 22;(with_reducible refine (jr.calls ((ja l1 x5_1).f3) 0 99 true _ A10.out).mono ?_);rintro e w' ⟨rfl,⟨nd,rfl⟩⟩;(try first | exact ⟨rfl,_,World.drewN_drewN _ _ _⟩ | exact ⟨rfl,_,Eq.trans (World.drewN_drewN _ _ _) (congrArg (World.drewN _) (Nat.add_assoc _ _ _))⟩)) |(go_at_call 22;(with_reducible refine (jr.calls ((ja l1 x5_1).f0) 0 5 true _ A12.out).mono ?_);rintro e w' ⟨rfl,⟨nd,rfl⟩⟩;(try first | exact ⟨rfl,_,World.drewN_drewN _ _ _⟩ | exact ⟨rfl,_,Eq.trans (World.drewN_drewN _ _ _) (congrArg (World.drewN _) (Nat.add_assoc _ _ _))⟩)))
          repeat (go_quiet (first |(go_at_call 22;(with_reducible refine (jr.calls ((ja l1 x5_1).f3) 0 99 true _ A10.out).mono ?_);rintro e w' ⟨rfl,⟨nd,rfl⟩⟩;(try first | exact ⟨rfl,_,World.drewN_drewN _ _ _⟩ | exact ⟨rfl,_,Eq.trans (World.drewN_drewN _ _ _) (congrArg (World.drewN _) (Nat.add_assoc _ _ _))⟩)) |(go_at_call 22;(with_reducible refine (jr.calls ((ja l1 x5_1).f0) 0 5 true _ A12.out).mono ?_);rintro e w' ⟨rfl,⟨nd,rfl⟩⟩;(try first | exact ⟨rfl,_,World.drewN_drewN _ _ _⟩ | exact ⟨rfl,_,Eq.trans (World.drewN_drewN _ _ _) (congrArg (World.drewN _) (Nat.add_assoc _ _ _))⟩)));try go_wp2_with (first |(go_at_call 22;(with_reducible refine (jr.calls ((ja l1 x5_1).f3) 0 99 true _ A10.out).mono ?_);rintro e w' ⟨rfl,⟨nd,rfl⟩⟩;(try first | exact ⟨rfl,_,World.drewN_drewN _ _ _⟩ | exact ⟨rfl,_,Eq.trans (World.drewN_drewN _ _ _) (congrArg (World.drewN _) (Nat.add_assoc _ _ _))⟩)) |(go_at_call 22;(with_reducible refine (jr.calls ((ja l1 x5_1).f0) 0 5 true _ A12.out).mono ?_);rintro e w' ⟨rfl,⟨nd,rfl⟩⟩;(try first | exact ⟨rfl,_,World.drewN_drewN _ _ _⟩ | exact ⟨rfl,_,Eq.trans (World.drewN_drewN _ _ _) (congrArg (World.drewN _) (Nat.add_assoc _ _ _))⟩))))
          go_meet
          case rel=>((try rw [← Nbq14.out]);exact ⟨_,(true),(sq),H',⟨by have:=HK1.out;first | omega | exact Nat.le_refl _⟩,⟨by (with_reducible repeat (first | refine jf ?_ _ | refine jk ?_ | refine jg ?_ _));refine jaa ?_ NB112_114.out _;(with_reducible repeat (first | refine jf ?_ _ | refine jk ?_ | refine jg ?_ _));refine jaa ?_ NB112_114.out _;(with_reducible repeat (first | refine jf ?_ _ | refine jk ?_ | refine jg ?_ _));refine jaa ?_ NB112_114.out _;(with_reducible repeat (first | refine jf ?_ _ | refine jk ?_ | refine jg ?_ _));refine jaa ?_ NB112_114.out _;(with_reducible repeat (first | refine jf ?_ _ | refine jk ?_ | refine jg ?_ _));exact BK112.out⟩,⟨by (with_reducible repeat (first | refine jf ?_ _ | refine jk ?_ | refine jg ?_ _));refine jT (cs:=#[.int .i64 ((ja l1 x5_1).f0), .bool (true), .int .i64 ((ja l1 x5_1).f2), .int .i64 0]) ?_ 3 _ rfl;(with_reducible repeat (first | refine jf ?_ _ | refine jk ?_ | refine jg ?_ _));refine jT (cs:=#[.int .i64 ((ja l1 x5_1).f0), .bool (true), .int .i64 0, .int .i64 0]) ?_ 2 _ rfl;(with_reducible repeat (first | refine jf ?_ _ | refine jk ?_ | refine jg ?_ _));refine jT (cs:=#[.int .i64 ((ja l1 x5_1).f0), .bool false, .int .i64 0, .int .i64 0]) ?_ 1 _ rfl;(with_reducible repeat (first | refine jf ?_ _ | refine jk ?_ | refine jg ?_ _));refine jT (cs:=#[.int .i64 0, .bool false, .int .i64 0, .int .i64 0]) ?_ 0 _ rfl;(with_reducible repeat (first | refine jf ?_ _ | refine jk ?_ | refine jg ?_ _));exact BK114.out⟩,⟨Y3⟩⟩)
        ·replace c15:=Bool.eq_false_iff.mpr c15
         subst c15
         have H1:(if (false=true) then (jc.j1 k1 l1 x5_1 ((((ja l1 x5_1).f0) == 0) != (x5_1 == 0)) l0_0 ((ja l1 x5_1).f0) false ((ja l1 x5_1).f2) ((ja l1 x5_1).f3)) else ((jM.f l0_0 ((ja l1 x5_1).f2)).bind fun t118=>(if t118=true then (jc.j1 k1 l1 x5_1 ((((ja l1 x5_1).f0) == 0) != (x5_1 == 0)) l0_0 ((ja l1 x5_1).f0) false ((ja l1 x5_1).f2) ((ja l1 x5_1).f3)) else (jc.j1 k1 l1 x5_1 true l0_0 ((ja l1 x5_1).f0) false ((ja l1 x5_1).f2) ((ja l1 x5_1).f3)))))=some r:=by rw [if_neg (show ¬ (false=true) by decide)] at H;exact H
         clear H
         have H:=H1
         clear H1
         by_cases c33:(false=true)
         ·cases c33
         ·clear c33
          have H1:((jM.f l0_0 ((ja l1 x5_1).f2)).bind fun t118=>(if t118=true then (jc.j1 k1 l1 x5_1 ((((ja l1 x5_1).f0) == 0) != (x5_1 == 0)) l0_0 ((ja l1 x5_1).f0) false ((ja l1 x5_1).f2) ((ja l1 x5_1).f3)) else (jc.j1 k1 l1 x5_1 true l0_0 ((ja l1 x5_1).f0) false ((ja l1 x5_1).f2) ((ja l1 x5_1).f3))))=some r:=by rw [if_neg (show ¬ (false=true) by decide)] at H;exact H
          clear H
          have H:=H1
          clear H1
          replace H:=bzS H
          obtain ⟨t118,A360,H⟩:=H
          replace H:(if t118=true then (jc.j1 k1 l1 x5_1 ((((ja l1 x5_1).f0) == 0) != (x5_1 == 0)) l0_0 ((ja l1 x5_1).f0) false ((ja l1 x5_1).f2) ((ja l1 x5_1).f3)) else (jc.j1 k1 l1 x5_1 true l0_0 ((ja l1 x5_1).f0) false ((ja l1 x5_1).f2) ((ja l1 x5_1).f3)))=some r:=H
          have A36:=am A360
          clear A360
          by_cases c37:t118=true
          ·subst c37
           have H1:(jc.j1 k1 l1 x5_1 ((((ja l1 x5_1).f0) == 0) != (x5_1 == 0)) l0_0 ((ja l1 x5_1).f0) false ((ja l1 x5_1).f2) ((ja l1 x5_1).f3))=some r:=by rw [if_pos rfl] at H;exact H
           clear H
           have H:=H1
           clear H1
           have H':=am H
           clear H
           have hnb38:=NB114_112.out
           have hnc38:=NB112_114.out
           have hcz39_0:=bc0 BK114.out
           have hcz39_1:=bc1 BK114.out
           have hcz39_2:=bc2 BK114.out
           have hcz39_3:=bc3 BK114.out
           have hfz39_0:=jb BK114.out 0
           have hfz39_1:=jb BK114.out 1
           have hfz39_2:=jb BK114.out 2
           have hfz39_3:=jb BK114.out 3
           go_wp2_with (first |(go_at_call 22;(with_reducible refine (jr.calls ((ja l1 x5_1).f3) 0 99 true _ A10.out).mono ?_);rintro e w' ⟨rfl,⟨nd,rfl⟩⟩;(try first | exact ⟨rfl,_,World.drewN_drewN _ _ _⟩ | exact ⟨rfl,_,Eq.trans (World.drewN_drewN _ _ _) (congrArg (World.drewN _) (Nat.add_assoc _ _ _))⟩)) |(go_at_call 22;(with_reducible refine (jr.calls ((ja l1 x5_1).f0) 0 5 true _ A12.out).mono ?_);rintro e w' ⟨rfl,⟨nd,rfl⟩⟩;(try first | exact ⟨rfl,_,World.drewN_drewN _ _ _⟩ | exact ⟨rfl,_,Eq.trans (World.drewN_drewN _ _ _) (congrArg (World.drewN _) (Nat.add_assoc _ _ _))⟩);have hcz40_0:=bc0 BK112.out;have hfz40_0:=jb BK112.out 0) |(go_at_call 23;(with_reducible refine (jM.calls _ _ l0_0 ((ja l1 x5_1).f2) true _ ?side1 ?side2 A36.out).mono ?_);(case side1=>exact Kd.jG HR0_0.out (Y3));(case side2=>exact HC0_0.out);rintro e w41 ⟨rfl,hb⟩;replace BK112:=am (jh (g:=gb112) (o:=.cells #[.slice A0_0 l0_0.length c0_0] 31 (0,0)) (Y14) hb);replace BK114:=am (jh (g:=gb114) (o:=.cells #[.int .i64 ((ja l1 x5_1).f0), .bool false, .int .i64 ((ja l1 x5_1).f2), .int .i64 ((ja l1 x5_1).f3)] 42 (0,0)) (Y15) hb);replace HB:=am (jd (Y3) hb);(try clear hb);(try clear hb2);(try clear hk);(try clear hi);have hcz42_0:=bc0 BK114.out;have hcz42_1:=bc1 BK114.out;have hcz42_2:=bc2 BK114.out;have hcz42_3:=bc3 BK114.out;have hfz42_0:=jb BK114.out 0;have hfz42_1:=jb BK114.out 1;have hfz42_2:=jb BK114.out 2;have hfz42_3:=jb BK114.out 3))
           repeat (go_quiet (first |(go_at_call 22;(with_reducible refine (jr.calls ((ja l1 x5_1).f3) 0 99 true _ A10.out).mono ?_);rintro e w' ⟨rfl,⟨nd,rfl⟩⟩;(try first | exact ⟨rfl,_,World.drewN_drewN _ _ _⟩ | exact ⟨rfl,_,Eq.trans (World.drewN_drewN _ _ _) (congrArg (World.drewN _) (Nat.add_assoc _ _ _))⟩)) |(go_at_call 22;(with_reducible refine (jr.calls ((ja l1 x5_1).f0) 0 5 true _ A12.out).mono ?_);rintro e w' ⟨rfl,⟨nd,rfl⟩⟩;(try first | exact ⟨rfl,_,World.drewN_drewN _ _ _⟩ | exact ⟨rfl,_,Eq.trans (World.drewN_drewN _ _ _) (congrArg (World.drewN _) (Nat.add_assoc _ _ _))⟩);have hcz40_0:=bc0 BK112.out;have hfz40_0:=jb BK112.out 0) |(go_at_call 23;(with_reducible refine (jM.calls _ _ l0_0 ((ja l1 x5_1).f2) true _ ?side1 ?side2 A36.out).mono ?_);(case side1=>exact Kd.jG HR0_0.out (Y3));(case side2=>exact HC0_0.out);rintro e w41 ⟨rfl,hb⟩;replace BK112:=am (jh (g:=gb112) (o:=.cells #[.slice A0_0 l0_0.length c0_0] 31 (0,0)) (Y14) hb);replace BK114:=am (jh (g:=gb114) (o:=.cells #[.int .i64 ((ja l1 x5_1).f0), .bool false, .int .i64 ((ja l1 x5_1).f2), .int .i64 ((ja l1 x5_1).f3)] 42 (0,0)) (Y15) hb);replace HB:=am (jd (Y3) hb);(try clear hb);(try clear hb2);(try clear hk);(try clear hi);have hcz42_0:=bc0 BK114.out;have hcz42_1:=bc1 BK114.out;have hcz42_2:=bc2 BK114.out;have hcz42_3:=bc3 BK114.out;have hfz42_0:=jb BK114.out 0;have hfz42_1:=jb BK114.out 1;have hfz42_2:=jb BK114.out 2;have hfz42_3:=jb BK114.out 3));try go_wp2_with (first |(go_at_call 22;(with_reducible refine (jr.calls ((ja l1 x5_1).f3) 0 99 true _ A10.out).mono ?_);rintro e w' ⟨rfl,⟨nd,rfl⟩⟩;(try first | exact ⟨rfl,_,World.drewN_drewN _ _ _⟩ | exact ⟨rfl,_,Eq.trans (World.drewN_drewN _ _ _) (congrArg (World.drewN _) (Nat.add_assoc _ _ _))⟩)) |(go_at_call 22;(with_reducible refine (jr.calls ((ja l1 x5_1).f0) 0 5 true _ A12.out).mono ?_);rintro e w' ⟨rfl,⟨nd,rfl⟩⟩;(try first | exact ⟨rfl,_,World.drewN_drewN _ _ _⟩ | exact ⟨rfl,_,Eq.trans (World.drewN_drewN _ _ _) (congrArg (World.drewN _) (Nat.add_assoc _ _ _))⟩);have hcz40_0:=bc0 BK112.out;have hfz40_0:=jb BK112.out 0) |(go_at_call 23;(with_reducible refine (jM.calls _ _ l0_0 ((ja l1 x5_1).f2) true _ ?side1 ?side2 A36.out).mono ?_);(case side1=>exact Kd.jG HR0_0.out (Y3));(case side2=>exact HC0_0.out);rintro e w41 ⟨rfl,hb⟩;replace BK112:=am (jh (g:=gb112) (o:=.cells #[.slice A0_0 l0_0.length c0_0] 31 (0,0)) (Y14) hb);replace BK114:=am (jh (g:=gb114) (o:=.cells #[.int .i64 ((ja l1 x5_1).f0), .bool false, .int .i64 ((ja l1 x5_1).f2), .int .i64 ((ja l1 x5_1).f3)] 42 (0,0)) (Y15) hb);replace HB:=am (jd (Y3) hb);(try clear hb);(try clear hb2);(try clear hk);(try clear hi);have hcz42_0:=bc0 BK114.out;have hcz42_1:=bc1 BK114.out;have hcz42_2:=bc2 BK114.out;have hcz42_3:=bc3 BK114.out;have hfz42_0:=jb BK114.out 0;have hfz42_1:=jb BK114.out 1;have hfz42_2:=jb BK114.out 2;have hfz42_3:=jb BK114.out 3)))
           go_meet
           case rel=>((try rw [← Nbq14.out]);exact ⟨_,(((((ja l1 x5_1).f0) == 0) != (x5_1 == 0))),(sq),H',⟨by have:=HK1.out;first | omega | exact Nat.le_refl _⟩,⟨kq BK112.out⟩,⟨kq BK114.out⟩,⟨Y3⟩⟩)
          ·replace c37:=Bool.eq_false_iff.mpr c37
           subst c37
           have H1:(jc.j1 k1 l1 x5_1 true l0_0 ((ja l1 x5_1).f0) false ((ja l1 x5_1).f2) ((ja l1 x5_1).f3))=some r:=by rw [if_neg (show ¬ (false=true) by decide)] at H;exact H
           clear H
           have H:=H1
           clear H1
           have H':=am H
           clear H
           have hnb43:=NB114_112.out
           have hnc43:=NB112_114.out
           have hcz44_0:=bc0 BK114.out
           have hcz44_1:=bc1 BK114.out
           have hcz44_2:=bc2 BK114.out
           have hcz44_3:=bc3 BK114.out
           have hfz44_0:=jb BK114.out 0
           have hfz44_1:=jb BK114.out 1
           have hfz44_2:=jb BK114.out 2
           have hfz44_3:=jb BK114.out 3
           go_wp2_with (first |(go_at_call 22;(with_reducible refine (jr.calls ((ja l1 x5_1).f3) 0 99 true _ A10.out).mono ?_);rintro e w' ⟨rfl,⟨nd,rfl⟩⟩;(try first | exact ⟨rfl,_,World.drewN_drewN _ _ _⟩ | exact ⟨rfl,_,Eq.trans (World.drewN_drewN _ _ _) (congrArg (World.drewN _) (Nat.add_assoc _ _ _))⟩)) |(go_at_call 22;(with_reducible refine (jr.calls ((ja l1 x5_1).f0) 0 5 true _ A12.out).mono ?_);rintro e w' ⟨rfl,⟨nd,rfl⟩⟩;(try first | exact ⟨rfl,_,World.drewN_drewN _ _ _⟩ | exact ⟨rfl,_,Eq.trans (World.drewN_drewN _ _ _) (congrArg (World.drewN _) (Nat.add_assoc _ _ _))⟩);have hcz45_0:=bc0 BK112.out;have hfz45_0:=jb BK112.out 0) |(go_at_call 23;(with_reducible refine (jM.calls _ _ l0_0 ((ja l1 x5_1).f2) false _ ?side1 ?side2 A36.out).mono ?_);(case side1=>exact Kd.jG HR0_0.out (Y3));(case side2=>exact HC0_0.out);rintro e w46 ⟨rfl,hb⟩;replace BK112:=am (jh (g:=gb112) (o:=.cells #[.slice A0_0 l0_0.length c0_0] 31 (0,0)) (Y14) hb);replace BK114:=am (jh (g:=gb114) (o:=.cells #[.int .i64 ((ja l1 x5_1).f0), .bool false, .int .i64 ((ja l1 x5_1).f2), .int .i64 ((ja l1 x5_1).f3)] 42 (0,0)) (Y15) hb);replace HB:=am (jd (Y3) hb);(try clear hb);(try clear hb2);(try clear hk);(try clear hi)))
           repeat (go_quiet (first |(go_at_call 22;(with_reducible refine (jr.calls ((ja l1 x5_1).f3) 0 99 true _ A10.out).mono ?_);rintro e w' ⟨rfl,⟨nd,rfl⟩⟩;(try first | exact ⟨rfl,_,World.drewN_drewN _ _ _⟩ | exact ⟨rfl,_,Eq.trans (World.drewN_drewN _ _ _) (congrArg (World.drewN _) (Nat.add_assoc _ _ _))⟩)) |(go_at_call 22;(with_reducible refine (jr.calls ((ja l1 x5_1).f0) 0 5 true _ A12.out).mono ?_);rintro e w' ⟨rfl,⟨nd,rfl⟩⟩;(try first | exact ⟨rfl,_,World.drewN_drewN _ _ _⟩ | exact ⟨rfl,_,Eq.trans (World.drewN_drewN _ _ _) (congrArg (World.drewN _) (Nat.add_assoc _ _ _))⟩);have hcz45_0:=bc0 BK112.out;have hfz45_0:=jb BK112.out 0) |(go_at_call 23;(with_reducible refine (jM.calls _ _ l0_0 ((ja l1 x5_1).f2) false _ ?side1 ?side2 A36.out).mono ?_);(case side1=>exact Kd.jG HR0_0.out (Y3));(case side2=>exact HC0_0.out);rintro e w46 ⟨rfl,hb⟩;replace BK112:=am (jh (g:=gb112) (o:=.cells #[.slice A0_0 l0_0.length c0_0] 31 (0,0)) (Y14) hb);replace BK114:=am (jh (g:=gb114) (o:=.cells #[.int .i64 ((ja l1 x5_1).f0), .bool false, .int .i64 ((ja l1 x5_1).f2), .int .i64 ((ja l1 x5_1).f3)] 42 (0,0)) (Y15) hb);replace HB:=am (jd (Y3) hb);(try clear hb);(try clear hb2);(try clear hk);(try clear hi)));try go_wp2_with (first |(go_at_call 22;(with_reducible refine (jr.calls ((ja l1 x5_1).f3) 0 99 true _ A10.out).mono ?_);rintro e w' ⟨rfl,⟨nd,rfl⟩⟩;(try first | exact ⟨rfl,_,World.drewN_drewN _ _ _⟩ | exact ⟨rfl,_,Eq.trans (World.drewN_drewN _ _ _) (congrArg (World.drewN _) (Nat.add_assoc _ _ _))⟩)) |(go_at_call 22;(with_reducible refine (jr.calls ((ja l1 x5_1).f0) 0 5 true _ A12.out).mono ?_);rintro e w' ⟨rfl,⟨nd,rfl⟩⟩;(try first | exact ⟨rfl,_,World.drewN_drewN _ _ _⟩ | exact ⟨rfl,_,Eq.trans (World.drewN_drewN _ _ _) (congrArg (World.drewN _) (Nat.add_assoc _ _ _))⟩);have hcz45_0:=bc0 BK112.out;have hfz45_0:=jb BK112.out 0) |(go_at_call 23;(with_reducible refine (jM.calls _ _ l0_0 ((ja l1 x5_1).f2) false _ ?side1 ?side2 A36.out).mono ?_);(case side1=>exact Kd.jG HR0_0.out (Y3));(case side2=>exact HC0_0.out);rintro e w46 ⟨rfl,hb⟩;replace BK112:=am (jh (g:=gb112) (o:=.cells #[.slice A0_0 l0_0.length c0_0] 31 (0,0)) (Y14) hb);replace BK114:=am (jh (g:=gb114) (o:=.cells #[.int .i64 ((ja l1 x5_1).f0), .bool false, .int .i64 ((ja l1 x5_1).f2), .int .i64 ((ja l1 x5_1).f3)] 42 (0,0)) (Y15) hb);replace HB:=am (jd (Y3) hb);(try clear hb);(try clear hb2);(try clear hk);(try clear hi))))
           go_meet
           case rel=>((try rw [← Nbq14.out]);exact ⟨_,(true),(sq),H',⟨by have:=HK1.out;first | omega | exact Nat.le_refl _⟩,⟨kq BK112.out⟩,⟨kq BK114.out⟩,⟨Y3⟩⟩)
       ·replace c13:=Bool.eq_false_iff.mpr c13
        subst c13
        have H1:(jc.j1 k1 l1 x5_1 true l0_0 ((ja l1 x5_1).f0) ((ja l1 x5_1).f1) ((ja l1 x5_1).f2) ((ja l1 x5_1).f3))=some r:=by rw [if_neg (show ¬ (false=true) by decide)] at H;exact H
        clear H
        have H:=H1
        clear H1
        have H':=am H
        clear H
        have hnb47:=NB114_112.out
        have hnc47:=NB112_114.out
        have hcz48_0:=bc0 BK114.out
        have hcz48_1:=bc1 BK114.out
        have hcz48_2:=bc2 BK114.out
        have hcz48_3:=bc3 BK114.out
        have hfz48_0:=jb BK114.out 0
        have hfz48_1:=jb BK114.out 1
        have hfz48_2:=jb BK114.out 2
        have hfz48_3:=jb BK114.out 3
        go_wp2_with (first |(go_at_call 22;(with_reducible refine (jr.calls ((ja l1 x5_1).f3) 0 99 true _ A10.out).mono ?_);rintro e w' ⟨rfl,⟨nd,rfl⟩⟩;(try first | exact ⟨rfl,_,World.drewN_drewN _ _ _⟩ | exact ⟨rfl,_,Eq.trans (World.drewN_drewN _ _ _) (congrArg (World.drewN _) (Nat.add_assoc _ _ _))⟩)) |(go_at_call 22;(with_reducible refine (jr.calls ((ja l1 x5_1).f0) 0 5 false _ A12.out).mono ?_);rintro e w' ⟨rfl,⟨nd,rfl⟩⟩;(try first | exact ⟨rfl,_,World.drewN_drewN _ _ _⟩ | exact ⟨rfl,_,Eq.trans (World.drewN_drewN _ _ _) (congrArg (World.drewN _) (Nat.add_assoc _ _ _))⟩)))
        repeat (go_quiet (first |(go_at_call 22;(with_reducible refine (jr.calls ((ja l1 x5_1).f3) 0 99 true _ A10.out).mono ?_);rintro e w' ⟨rfl,⟨nd,rfl⟩⟩;(try first | exact ⟨rfl,_,World.drewN_drewN _ _ _⟩ | exact ⟨rfl,_,Eq.trans (World.drewN_drewN _ _ _) (congrArg (World.drewN _) (Nat.add_assoc _ _ _))⟩)) |(go_at_call 22;(with_reducible refine (jr.calls ((ja l1 x5_1).f0) 0 5 false _ A12.out).mono ?_);rintro e w' ⟨rfl,⟨nd,rfl⟩⟩;(try first | exact ⟨rfl,_,World.drewN_drewN _ _ _⟩ | exact ⟨rfl,_,Eq.trans (World.drewN_drewN _ _ _) (congrArg (World.drewN _) (Nat.add_assoc _ _ _))⟩)));try go_wp2_with (first |(go_at_call 22;(with_reducible refine (jr.calls ((ja l1 x5_1).f3) 0 99 true _ A10.out).mono ?_);rintro e w' ⟨rfl,⟨nd,rfl⟩⟩;(try first | exact ⟨rfl,_,World.drewN_drewN _ _ _⟩ | exact ⟨rfl,_,Eq.trans (World.drewN_drewN _ _ _) (congrArg (World.drewN _) (Nat.add_assoc _ _ _))⟩)) |(go_at_call 22;(with_reducible refine (jr.calls ((ja l1 x5_1).f0) 0 5 false _ A12.out).mono ?_);rintro e w' ⟨rfl,⟨nd,rfl⟩⟩;(try first | exact ⟨rfl,_,World.drewN_drewN _ _ _⟩ | exact ⟨rfl,_,Eq.trans (World.drewN_drewN _ _ _) (congrArg (World.drewN _) (Nat.add_assoc _ _ _))⟩))))
        go_meet
        case rel=>exact ⟨_,(true),(sq),H',⟨by have:=HK1.out;first | omega | exact Nat.le_refl _⟩,⟨by (with_reducible repeat (first | refine jf ?_ _ | refine jk ?_ | refine jg ?_ _));refine jaa ?_ NB112_114.out _;(with_reducible repeat (first | refine jf ?_ _ | refine jk ?_ | refine jg ?_ _));refine jaa ?_ NB112_114.out _;(with_reducible repeat (first | refine jf ?_ _ | refine jk ?_ | refine jg ?_ _));refine jaa ?_ NB112_114.out _;(with_reducible repeat (first | refine jf ?_ _ | refine jk ?_ | refine jg ?_ _));refine jaa ?_ NB112_114.out _;(with_reducible repeat (first | refine jf ?_ _ | refine jk ?_ | refine jg ?_ _));exact BK112.out⟩,⟨by (with_reducible repeat (first | refine jf ?_ _ | refine jk ?_ | refine jg ?_ _));refine jT (cs:=#[.int .i64 ((ja l1 x5_1).f0), .bool ((ja l1 x5_1).f1), .int .i64 ((ja l1 x5_1).f2), .int .i64 0]) ?_ 3 _ rfl;(with_reducible repeat (first | refine jf ?_ _ | refine jk ?_ | refine jg ?_ _));refine jT (cs:=#[.int .i64 ((ja l1 x5_1).f0), .bool ((ja l1 x5_1).f1), .int .i64 0, .int .i64 0]) ?_ 2 _ rfl;(with_reducible repeat (first | refine jf ?_ _ | refine jk ?_ | refine jg ?_ _));refine jT (cs:=#[.int .i64 ((ja l1 x5_1).f0), .bool false, .int .i64 0, .int .i64 0]) ?_ 1 _ rfl;(with_reducible repeat (first | refine jf ?_ _ | refine jk ?_ | refine jg ?_ _));refine jT (cs:=#[.int .i64 0, .bool false, .int .i64 0, .int .i64 0]) ?_ 0 _ rfl;(with_reducible repeat (first | refine jf ?_ _ | refine jk ?_ | refine jg ?_ _));exact BK114.out⟩,⟨Y3⟩⟩
      ·replace c11:=Bool.eq_false_iff.mpr c11
       subst c11
       have H1:(jc.j1 k1 l1 x5_1 true l0_0 ((ja l1 x5_1).f0) ((ja l1 x5_1).f1) ((ja l1 x5_1).f2) ((ja l1 x5_1).f3))=some r:=by rw [if_neg (show ¬ (false=true) by decide)] at H;exact H
       clear H
       have H:=H1
       clear H1
       have H':=am H
       clear H
       have hnb49:=NB114_112.out
       have hnc49:=NB112_114.out
       have hcz50_0:=bc0 BK114.out
       have hcz50_1:=bc1 BK114.out
       have hcz50_2:=bc2 BK114.out
       have hcz50_3:=bc3 BK114.out
       have hfz50_0:=jb BK114.out 0
       have hfz50_1:=jb BK114.out 1
       have hfz50_2:=jb BK114.out 2
       have hfz50_3:=jb BK114.out 3
       go_wp2_with (first |(go_at_call 22;(with_reducible refine (jr.calls ((ja l1 x5_1).f3) 0 99 false _ A10.out).mono ?_);rintro e w' ⟨rfl,⟨nd,rfl⟩⟩;(try first | exact ⟨rfl,_,World.drewN_drewN _ _ _⟩ | exact ⟨rfl,_,Eq.trans (World.drewN_drewN _ _ _) (congrArg (World.drewN _) (Nat.add_assoc _ _ _))⟩)))
       repeat (go_quiet (first |(go_at_call 22;(with_reducible refine (jr.calls ((ja l1 x5_1).f3) 0 99 false _ A10.out).mono ?_);rintro e w' ⟨rfl,⟨nd,rfl⟩⟩;(try first | exact ⟨rfl,_,World.drewN_drewN _ _ _⟩ | exact ⟨rfl,_,Eq.trans (World.drewN_drewN _ _ _) (congrArg (World.drewN _) (Nat.add_assoc _ _ _))⟩)));try go_wp2_with (first |(go_at_call 22;(with_reducible refine (jr.calls ((ja l1 x5_1).f3) 0 99 false _ A10.out).mono ?_);rintro e w' ⟨rfl,⟨nd,rfl⟩⟩;(try first | exact ⟨rfl,_,World.drewN_drewN _ _ _⟩ | exact ⟨rfl,_,Eq.trans (World.drewN_drewN _ _ _) (congrArg (World.drewN _) (Nat.add_assoc _ _ _))⟩))))
       go_meet
       case rel=>exact ⟨_,(true),(sq),H',⟨by have:=HK1.out;first | omega | exact Nat.le_refl _⟩,⟨by (with_reducible repeat (first | refine jf ?_ _ | refine jk ?_ | refine jg ?_ _));refine jaa ?_ NB112_114.out _;(with_reducible repeat (first | refine jf ?_ _ | refine jk ?_ | refine jg ?_ _));refine jaa ?_ NB112_114.out _;(with_reducible repeat (first | refine jf ?_ _ | refine jk ?_ | refine jg ?_ _));refine jaa ?_ NB112_114.out _;(with_reducible repeat (first | refine jf ?_ _ | refine jk ?_ | refine jg ?_ _));refine jaa ?_ NB112_114.out _;(with_reducible repeat (first | refine jf ?_ _ | refine jk ?_ | refine jg ?_ _));exact BK112.out⟩,⟨by (with_reducible repeat (first | refine jf ?_ _ | refine jk ?_ | refine jg ?_ _));refine jT (cs:=#[.int .i64 ((ja l1 x5_1).f0), .bool ((ja l1 x5_1).f1), .int .i64 ((ja l1 x5_1).f2), .int .i64 0]) ?_ 3 _ rfl;(with_reducible repeat (first | refine jf ?_ _ | refine jk ?_ | refine jg ?_ _));refine jT (cs:=#[.int .i64 ((ja l1 x5_1).f0), .bool ((ja l1 x5_1).f1), .int .i64 0, .int .i64 0]) ?_ 2 _ rfl;(with_reducible repeat (first | refine jf ?_ _ | refine jk ?_ | refine jg ?_ _));refine jT (cs:=#[.int .i64 ((ja l1 x5_1).f0), .bool false, .int .i64 0, .int .i64 0]) ?_ 1 _ rfl;(with_reducible repeat (first | refine jf ?_ _ | refine jk ?_ | refine jg ?_ _));refine jT (cs:=#[.int .i64 0, .bool false, .int .i64 0, .int .i64 0]) ?_ 0 _ rfl;(with_reducible repeat (first | refine jf ?_ _ | refine jk ?_ | refine jg ?_ _));exact BK114.out⟩,⟨Y3⟩⟩
     case rest =>
      clear HC6
      try clear c1
      try clear p1
      try clear q1
      try clear hx1
      try clear c2
      try clear p2
      try clear c3
      try clear c4
      try clear c4b0
      try clear c5
      try clear c5b0
      try clear c8
      try clear c11
      try clear p11
      try clear q11
      try clear hx11
      try clear c13
      try clear q14
      try clear c15
      try clear c16
      try clear c16b0
      try clear c16b1
      try clear c17
      try clear c18
      try clear c21
      try clear c21b0
      try clear c22
      try clear c27
      try clear c31
      try clear c33
      try clear c34
      try clear c37
      try clear c38
      try clear c43
      try clear c47
      try clear c49
      try clear hcz19_0
      try clear hcz19_1
      try clear hcz19_2
      try clear hcz19_3
      try clear hcz23_0
      try clear hcz23_1
      try clear hcz23_2
      try clear hcz23_3
      try clear hcz24_0
      try clear hcz26_0
      try clear hcz26_1
      try clear hcz26_2
      try clear hcz26_3
      try clear hcz28_0
      try clear hcz28_1
      try clear hcz28_2
      try clear hcz28_3
      try clear hcz29_0
      try clear hcz32_0
      try clear hcz32_1
      try clear hcz32_2
      try clear hcz32_3
      try clear hcz35_0
      try clear hcz35_1
      try clear hcz35_2
      try clear hcz35_3
      try clear hcz39_0
      try clear hcz39_1
      try clear hcz39_2
      try clear hcz39_3
      try clear hcz40_0
      try clear hcz42_0
      try clear hcz42_1
      try clear hcz42_2
      try clear hcz42_3
      try clear hcz44_0
      try clear hcz44_1
      try clear hcz44_2
      try clear hcz44_3
      try clear hcz45_0
      try clear hcz48_0
      try clear hcz48_1
      try clear hcz48_2
      try clear hcz48_3
      try clear hcz50_0
      try clear hcz50_1
      try clear hcz50_2
      try clear hcz50_3
      try clear hcz9_0
      try clear hcz9_1
      try clear hcz9_2
      try clear hcz9_3
      try clear hfz19_0
      try clear hfz19_1
      try clear hfz19_2
      try clear hfz19_3
      try clear hfz23_0
      try clear hfz23_1
      try clear hfz23_2
      try clear hfz23_3
      try clear hfz24_0
      try clear hfz26_0
      try clear hfz26_1
      try clear hfz26_2
      try clear hfz26_3
      try clear hfz28_0
      try clear hfz28_1
      try clear hfz28_2
      try clear hfz28_3
      try clear hfz29_0
      try clear hfz32_0
      try clear hfz32_1
      try clear hfz32_2
      try clear hfz32_3
      try clear hfz35_0
      try clear hfz35_1
      try clear hfz35_2
      try clear hfz35_3
      try clear hfz39_0
      try clear hfz39_1
      try clear hfz39_2
      try clear hfz39_3
      try clear hfz40_0
      try clear hfz42_0
      try clear hfz42_1
      try clear hfz42_2
      try clear hfz42_3
      try clear hfz44_0
      try clear hfz44_1
      try clear hfz44_2
      try clear hfz44_3
      try clear hfz45_0
      try clear hfz48_0
      try clear hfz48_1
      try clear hfz48_2
      try clear hfz48_3
      try clear hfz50_0
      try clear hfz50_1
      try clear hfz50_2
      try clear hfz50_3
      try clear hfz9_0
      try clear hfz9_1
      try clear hfz9_2
      try clear hfz9_3
      try clear hx113_0
      try clear hx113_1
      try clear hx113_2
      try clear hx113_3
      try clear p113
      try clear p2
      try clear q113
      obtain ⟨kq,x55_5,rfl,HA,HJ5,BK112,BK114,HB⟩:=hcut
      cases kq with
      | zero=>exact absurd HA.out (by simp [jc.j1])
      | succ kj5 =>
       have H:=HA.out
       clear HA
       simp only [jc.j1] at H
       by_cases c51:x55_5=true
       ·subst c51
        have H1:(some false)=some r:=by rw [if_pos rfl] at H;exact H
        clear H
        have H:=H1
        clear H1
        obtain rfl:=Option.some.inj H
        go_wp2
        repeat (go_quiet (fail);try go_wp2)
        go_ret
        exact ⟨Y1,Y3⟩
       ·replace c51:=Bool.eq_false_iff.mpr c51
        subst c51
        have H1:(if x5_1 > 0 then (if 0≤(wrap64 (x5_1 - 1)) then (if (wrap64 (x5_1 - 1))<(l1.length:Int) then (if ((ja l1 x5_1).f0) > (wrap64 (((ja l1 (wrap64 (x5_1 - 1))).f0)+1)) then (jc.j2 kj5 l1 x5_1 true l0_0) else (if ((ja l1 x5_1).f0) > ((ja l1 (wrap64 (x5_1 - 1))).f0) then (if ((ja l1 (wrap64 (x5_1 - 1))).f1=true) then (if ((ja l1 x5_1).f1)=true then ((jK.f kj5 l1 x5_1).bind fun t122=>(jc.j2 kj5 l1 x5_1 (t122 == (wrap64 (x5_1+1))) l0_0)) else (jc.j2 kj5 l1 x5_1 false l0_0)) else (jc.j2 kj5 l1 x5_1 true l0_0)) else (if ((ja l1 x5_1).f1)=true then ((jK.f kj5 l1 x5_1).bind fun t123=>(jc.j2 kj5 l1 x5_1 (t123 == (wrap64 (x5_1+1))) l0_0)) else (jc.j2 kj5 l1 x5_1 false l0_0)))) else (none)) else (none)) else (if ((ja l1 x5_1).f1)=true then ((jK.f kj5 l1 x5_1).bind fun t124=>(jc.j2 kj5 l1 x5_1 (t124 == (wrap64 (x5_1+1))) l0_0)) else (jc.j2 kj5 l1 x5_1 false l0_0)))=some r:=by rw [if_neg (show ¬ (false=true) by decide)] at H;exact H
        clear H
        have H:=H1
        clear H1
        have HC52:=am H
        clear H
        go_upto_region 7 with (fail)
        repeat (go_quiet (fail);go_upto_region 7 with (fail))
        go_cut [101] (fun v101 wc=>∃ (kq:Nat) (x101_51:Bool),v101=.bool x101_51∧jH (jc.j2 kq l1 x5_1 x101_51 l0_0=some r)∧jH (kq≤kj5)∧jH (wc.heap[gb112]?=some (.cells #[(.slice A0_0 l0_0.length c0_0)] 31 (0,0)))∧jH (wc.heap[gb114]?=some (.cells #[.int .i64 ((ja l1 x5_1).f0), .bool ((ja l1 x5_1).f1), .int .i64 ((ja l1 x5_1).f2), .int .i64 ((ja l1 x5_1).f3)] 42 (0,0)))∧jH (Below w.heap.size w wc))
        case first =>
         have H:=HC52.out
         clear HC52
         by_cases c53:x5_1 > 0
         ·rw [if_pos c53] at H
          have c53b0:decide (0<x5_1)=true:=dzT c53
          clear c53
          (first | rw [c53b0] |(simp only [jRa,jYa];rw [c53b0]) | skip)
          obtain ⟨ji54,hji54⟩:∃ j_:Int,(wrap64 (x5_1 - 1))=j_:=⟨_,rfl⟩
          replace H:(if 0≤(ji54) then (if (ji54)<(l1.length:Int) then (if ((ja l1 x5_1).f0) > (wrap64 (((ja l1 (ji54)).f0)+1)) then (jc.j2 kj5 l1 x5_1 true l0_0) else (if ((ja l1 x5_1).f0) > ((ja l1 (ji54)).f0) then (if ((ja l1 (ji54)).f1=true) then (if ((ja l1 x5_1).f1)=true then ((jK.f kj5 l1 x5_1).bind fun t122=>(jc.j2 kj5 l1 x5_1 (t122 == (wrap64 (x5_1+1))) l0_0)) else (jc.j2 kj5 l1 x5_1 false l0_0)) else (jc.j2 kj5 l1 x5_1 true l0_0)) else (if ((ja l1 x5_1).f1)=true then ((jK.f kj5 l1 x5_1).bind fun t123=>(jc.j2 kj5 l1 x5_1 (t123 == (wrap64 (x5_1+1))) l0_0)) else (jc.j2 kj5 l1 x5_1 false l0_0)))) else (none)) else (none))=some r:=by first |(rw [hji54] at H;exact H) |(simp only [hji54] at H ⊢;exact H)
          have hji54w:(IntKind.i64.wrap (x5_1 - 1))=ji54:=(jRa _).trans hji54
          by_cases c55:0≤(ji54)
          ·rw [if_pos c55] at H
           have c55b0:decide (0≤(ji54))=true:=dzT c55
           clear c55
           by_cases c56:(ji54)<(l1.length:Int)
           ·rw [if_pos c56] at H
            have c56b0:decide ((ji54)<(l1.length:Int))=true:=dzT c56
            clear c56
            by_cases c57:((ja l1 x5_1).f0) > (wrap64 (((ja l1 (ji54)).f0)+1))
            ·rw [if_pos c57] at H
             have c57b0:decide ((wrap64 (((ja l1 (ji54)).f0)+1))<((ja l1 x5_1).f0))=true:=dzT c57
             clear c57
             have H':=am H
             clear H
             have hnb58:=NB114_112.out
             have hnc58:=NB112_114.out
             have hcz59_0:=bc0 BK114.out
             have hcz59_1:=bc1 BK114.out
             have hcz59_2:=bc2 BK114.out
             have hcz59_3:=bc3 BK114.out
             have hfz59_0:=jb BK114.out 0
             have hfz59_1:=jb BK114.out 1
             have hfz59_2:=jb BK114.out 2
             have hfz59_3:=jb BK114.out 3
             have p119:0≤((ji54):Int):=ozD (uq)
             have q119:(ji54)<(l1.length:Int):=ozD (uq)
             obtain ⟨ad119,e119,hx119_0,hx119_1,hx119_2,hx119_3⟩:=jpa HR1.out (ji54) p119 q119
             obtain rfl:ad113=ad119:=(by injection e119)
             replace hx119_0:=cb HB.out hx119_0
             replace hx119_1:=cb HB.out hx119_1
             replace hx119_2:=cb HB.out hx119_2
             replace hx119_3:=cb HB.out hx119_3
             replace p119:=ezT p119
             replace q119:=ezT q119
             go_wp2
             repeat (go_quiet (fail);try go_wp2)
             go_meet
             case rel=>exact ⟨_,(true),(sq),H',⟨by have:=HK1.out;have:=HJ5.out;first | omega | exact Nat.le_refl _⟩,⟨kq BK112.out⟩,⟨kq BK114.out⟩,⟨Y3⟩⟩
            ·rw [if_neg c57] at H
             have c57b0:decide ((wrap64 (((ja l1 (ji54)).f0)+1))<((ja l1 x5_1).f0))=false:=dzF c57
             clear c57
             by_cases c60:((ja l1 x5_1).f0) > ((ja l1 (ji54)).f0)
             ·rw [if_pos c60] at H
              have c60b0:decide (((ja l1 (ji54)).f0)<((ja l1 x5_1).f0))=true:=dzT c60
              clear c60
              obtain ⟨bq61,hbq61⟩:∃ b_:Bool,b_=((ja l1 (ji54)).f1):=⟨_,rfl⟩
              replace H:(if (bq61=true) then (if ((ja l1 x5_1).f1)=true then ((jK.f kj5 l1 x5_1).bind fun t122=>(jc.j2 kj5 l1 x5_1 (t122 == (wrap64 (x5_1+1))) l0_0)) else (jc.j2 kj5 l1 x5_1 false l0_0)) else (jc.j2 kj5 l1 x5_1 true l0_0))=some r:=by rw [← hbq61] at H;exact H
              have Nbq61:=am hbq61
              clear hbq61
              by_cases c62:(bq61=true)
              ·subst c62
               have H1:(if ((ja l1 x5_1).f1)=true then ((jK.f kj5 l1 x5_1).bind fun t122=>(jc.j2 kj5 l1 x5_1 (t122 == (wrap64 (x5_1+1))) l0_0)) else (jc.j2 kj5 l1 x5_1 false l0_0))=some r:=by rw [if_pos rfl] at H;exact H
               clear H
               have H:=H1
               clear H1
               by_cases c63:((ja l1 x5_1).f1)=true
               ·rw [if_pos c63] at H
                have c63b0:((ja l1 x5_1).f1)=true:=c63
                clear c63
                replace H:=bzS H
                obtain ⟨t122,A640,H⟩:=H
                replace H:(jc.j2 kj5 l1 x5_1 (t122 == (wrap64 (x5_1+1))) l0_0)=some r:=H
                have A64:=am A640
                clear A640
                have H':=am H
                clear H
                have hnb65:=NB114_112.out
                have hnc65:=NB112_114.out
                have hcz66_0:=bc0 BK114.out
                have hcz66_1:=bc1 BK114.out
                have hcz66_2:=bc2 BK114.out
                have hcz66_3:=bc3 BK114.out
                have hfz66_0:=jb BK114.out 0
                have hfz66_1:=jb BK114.out 1
                have hfz66_2:=jb BK114.out 2
                have hfz66_3:=jb BK114.out 3
                have p119:0≤((ji54):Int):=ozD (uq)
                have q119:(ji54)<(l1.length:Int):=ozD (uq)
                obtain ⟨ad119,e119,hx119_0,hx119_1,hx119_2,hx119_3⟩:=jpa HR1.out (ji54) p119 q119
                (try rw [← Nbq61.out] at hx119_1)
                obtain rfl:ad113=ad119:=(by injection e119)
                replace hx119_0:=cb HB.out hx119_0
                replace hx119_1:=cb HB.out hx119_1
                replace hx119_2:=cb HB.out hx119_2
                replace hx119_3:=cb HB.out hx119_3
                replace p119:=ezT p119
                replace q119:=ezT q119
                have p120:0≤((ji54):Int):=ozD (uq)
                have q120:(ji54)<(l1.length:Int):=ozD (uq)
                obtain ⟨ad120,e120,hx120_0,hx120_1,hx120_2,hx120_3⟩:=jpa HR1.out (ji54) p120 q120
                (try rw [← Nbq61.out] at hx120_1)
                obtain rfl:ad113=ad120:=(by injection e120)
                replace hx120_0:=cb HB.out hx120_0
                replace hx120_1:=cb HB.out hx120_1
                replace hx120_2:=cb HB.out hx120_2
                replace hx120_3:=cb HB.out hx120_3
                replace p120:=ezT p120
                replace q120:=ezT q120
                have p121:0≤((ji54):Int):=ozD (uq)
                have q121:(ji54)<(l1.length:Int):=ozD (uq)
                obtain ⟨ad121,e121,hx121_0,hx121_1,hx121_2,hx121_3⟩:=jpa HR1.out (ji54) p121 q121
                (try rw [← Nbq61.out] at hx121_1)
                obtain rfl:ad113=ad121:=(by injection e121)
                replace hx121_0:=cb HB.out hx121_0
                replace hx121_1:=cb HB.out hx121_1
                replace hx121_2:=cb HB.out hx121_2
                replace hx121_3:=cb HB.out hx121_3
                replace p121:=ezT p121
                replace q121:=ezT q121
                go_wp2_with (first |(go_at_call 24;(with_reducible refine (jK.calls kj5 _ _ l1 x5_1 t122 _ ?side1 ?side2 A64.out).mono ?_);(case side1=>exact cq (Kd.jG HR1.out HB.out));(case side2=>exact HC1.out);rintro e w' ⟨rfl,⟨nd,rfl⟩⟩;(try first | exact ⟨rfl,_,World.drewN_drewN _ _ _⟩ | exact ⟨rfl,_,Eq.trans (World.drewN_drewN _ _ _) (congrArg (World.drewN _) (Nat.add_assoc _ _ _))⟩)))
                repeat (go_quiet (first |(go_at_call 24;(with_reducible refine (jK.calls kj5 _ _ l1 x5_1 t122 _ ?side1 ?side2 A64.out).mono ?_);(case side1=>exact cq (Kd.jG HR1.out HB.out));(case side2=>exact HC1.out);rintro e w' ⟨rfl,⟨nd,rfl⟩⟩;(try first | exact ⟨rfl,_,World.drewN_drewN _ _ _⟩ | exact ⟨rfl,_,Eq.trans (World.drewN_drewN _ _ _) (congrArg (World.drewN _) (Nat.add_assoc _ _ _))⟩)));try go_wp2_with (first |(go_at_call 24;(with_reducible refine (jK.calls kj5 _ _ l1 x5_1 t122 _ ?side1 ?side2 A64.out).mono ?_);(case side1=>exact cq (Kd.jG HR1.out HB.out));(case side2=>exact HC1.out);rintro e w' ⟨rfl,⟨nd,rfl⟩⟩;(try first | exact ⟨rfl,_,World.drewN_drewN _ _ _⟩ | exact ⟨rfl,_,Eq.trans (World.drewN_drewN _ _ _) (congrArg (World.drewN _) (Nat.add_assoc _ _ _))⟩))))
                go_meet
                case rel=>((try rw [← Nbq61.out]);exact ⟨_,((t122 == (wrap64 (x5_1+1)))),(sq),H',⟨by have:=HK1.out;have:=HJ5.out;first | omega | exact Nat.le_refl _⟩,⟨kq BK112.out⟩,⟨kq BK114.out⟩,⟨Y3⟩⟩)
               ·rw [if_neg c63] at H
                have c63b0:((ja l1 x5_1).f1)=false:=by simpa using c63
                clear c63
                have H':=am H
                clear H
                have hnb67:=NB114_112.out
                have hnc67:=NB112_114.out
                have hcz68_0:=bc0 BK114.out
                have hcz68_1:=bc1 BK114.out
                have hcz68_2:=bc2 BK114.out
                have hcz68_3:=bc3 BK114.out
                have hfz68_0:=jb BK114.out 0
                have hfz68_1:=jb BK114.out 1
                have hfz68_2:=jb BK114.out 2
                have hfz68_3:=jb BK114.out 3
                have p119:0≤((ji54):Int):=ozD (uq)
                have q119:(ji54)<(l1.length:Int):=ozD (uq)
                obtain ⟨ad119,e119,hx119_0,hx119_1,hx119_2,hx119_3⟩:=jpa HR1.out (ji54) p119 q119
                (try rw [← Nbq61.out] at hx119_1)
                obtain rfl:ad113=ad119:=(by injection e119)
                replace hx119_0:=cb HB.out hx119_0
                replace hx119_1:=cb HB.out hx119_1
                replace hx119_2:=cb HB.out hx119_2
                replace hx119_3:=cb HB.out hx119_3
                replace p119:=ezT p119
                replace q119:=ezT q119
                have p120:0≤((ji54):Int):=ozD (uq)
                have q120:(ji54)<(l1.length:Int):=ozD (uq)
                obtain ⟨ad120,e120,hx120_0,hx120_1,hx120_2,hx120_3⟩:=jpa HR1.out (ji54) p120 q120
                (try rw [← Nbq61.out] at hx120_1)
                obtain rfl:ad113=ad120:=(by injection e120)
                replace hx120_0:=cb HB.out hx120_0
                replace hx120_1:=cb HB.out hx120_1
                replace hx120_2:=cb HB.out hx120_2
                replace hx120_3:=cb HB.out hx120_3
                replace p120:=ezT p120
                replace q120:=ezT q120
                have p121:0≤((ji54):Int):=ozD (uq)
                have q121:(ji54)<(l1.length:Int):=ozD (uq)
                obtain ⟨ad121,e121,hx121_0,hx121_1,hx121_2,hx121_3⟩:=jpa HR1.out (ji54) p121 q121
                (try rw [← Nbq61.out] at hx121_1)
                obtain rfl:ad113=ad121:=(by injection e121)
                replace hx121_0:=cb HB.out hx121_0
                replace hx121_1:=cb HB.out hx121_1
                replace hx121_2:=cb HB.out hx121_2
                replace hx121_3:=cb HB.out hx121_3
                replace p121:=ezT p121
                replace q121:=ezT q121
                go_wp2
                repeat (go_quiet (fail);try go_wp2)
                go_meet
                case rel=>((try rw [← Nbq61.out]);exact ⟨_,(false),(sq),H',⟨by have:=HK1.out;have:=HJ5.out;first | omega | exact Nat.le_refl _⟩,⟨kq BK112.out⟩,⟨kq BK114.out⟩,⟨Y3⟩⟩)
              ·replace c62:=Bool.eq_false_iff.mpr c62
               subst c62
               have H1:(jc.j2 kj5 l1 x5_1 true l0_0)=some r:=by rw [if_neg (show ¬ (false=true) by decide)] at H;exact H
               clear H
               have H:=H1
               clear H1
               have H':=am H
               clear H
               have hnb69:=NB114_112.out
               have hnc69:=NB112_114.out
               have hcz70_0:=bc0 BK114.out
               have hcz70_1:=bc1 BK114.out
               have hcz70_2:=bc2 BK114.out
               have hcz70_3:=bc3 BK114.out
               have hfz70_0:=jb BK114.out 0
               have hfz70_1:=jb BK114.out 1
               have hfz70_2:=jb BK114.out 2
               have hfz70_3:=jb BK114.out 3
               have p119:0≤((ji54):Int):=ozD (uq)
               have q119:(ji54)<(l1.length:Int):=ozD (uq)
               obtain ⟨ad119,e119,hx119_0,hx119_1,hx119_2,hx119_3⟩:=jpa HR1.out (ji54) p119 q119
               (try rw [← Nbq61.out] at hx119_1)
               obtain rfl:ad113=ad119:=(by injection e119)
               replace hx119_0:=cb HB.out hx119_0
               replace hx119_1:=cb HB.out hx119_1
               replace hx119_2:=cb HB.out hx119_2
               replace hx119_3:=cb HB.out hx119_3
               replace p119:=ezT p119
               replace q119:=ezT q119
               have p120:0≤((ji54):Int):=ozD (uq)
               have q120:(ji54)<(l1.length:Int):=ozD (uq)
               obtain ⟨ad120,e120,hx120_0,hx120_1,hx120_2,hx120_3⟩:=jpa HR1.out (ji54) p120 q120
               (try rw [← Nbq61.out] at hx120_1)
               obtain rfl:ad113=ad120:=(by injection e120)
               replace hx120_0:=cb HB.out hx120_0
               replace hx120_1:=cb HB.out hx120_1
               replace hx120_2:=cb HB.out hx120_2
               replace hx120_3:=cb HB.out hx120_3
               replace p120:=ezT p120
               replace q120:=ezT q120
               have p121:0≤((ji54):Int):=ozD (uq)
               have q121:(ji54)<(l1.length:Int):=ozD (uq)
               obtain ⟨ad121,e121,hx121_0,hx121_1,hx121_2,hx121_3⟩:=jpa HR1.out (ji54) p121 q121
               (try rw [← Nbq61.out] at hx121_1)
               obtain rfl:ad113=ad121:=(by injection e121)
               replace hx121_0:=cb HB.out hx121_0
               replace hx121_1:=cb HB.out hx121_1
               replace hx121_2:=cb HB.out hx121_2
               replace hx121_3:=cb HB.out hx121_3
               replace p121:=ezT p121
               replace q121:=ezT q121
               go_wp2
               repeat (go_quiet (fail);try go_wp2)
               go_meet
               case rel=>((try rw [← Nbq61.out]);exact ⟨_,(true),(sq),H',⟨by have:=HK1.out;have:=HJ5.out;first | omega | exact Nat.le_refl _⟩,⟨kq BK112.out⟩,⟨kq BK114.out⟩,⟨Y3⟩⟩)
             ·rw [if_neg c60] at H
              have c60b0:decide (((ja l1 (ji54)).f0)<((ja l1 x5_1).f0))=false:=dzF c60
              clear c60
              by_cases c71:((ja l1 x5_1).f1)=true
              ·rw [if_pos c71] at H
               have c71b0:((ja l1 x5_1).f1)=true:=c71
               clear c71
               replace H:=bzS H
               obtain ⟨t123,A720,H⟩:=H
               replace H:(jc.j2 kj5 l1 x5_1 (t123 == (wrap64 (x5_1+1))) l0_0)=some r:=H
               have A72:=am A720
               clear A720
               have H':=am H
               clear H
               have hnb73:=NB114_112.out
               have hnc73:=NB112_114.out
               have hcz74_0:=bc0 BK114.out
               have hcz74_1:=bc1 BK114.out
               have hcz74_2:=bc2 BK114.out
               have hcz74_3:=bc3 BK114.out
               have hfz74_0:=jb BK114.out 0
               have hfz74_1:=jb BK114.out 1
               have hfz74_2:=jb BK114.out 2
               have hfz74_3:=jb BK114.out 3
               have p119:0≤((ji54):Int):=ozD (uq)
               have q119:(ji54)<(l1.length:Int):=ozD (uq)
               obtain ⟨ad119,e119,hx119_0,hx119_1,hx119_2,hx119_3⟩:=jpa HR1.out (ji54) p119 q119
               obtain rfl:ad113=ad119:=(by injection e119)
               replace hx119_0:=cb HB.out hx119_0
               replace hx119_1:=cb HB.out hx119_1
               replace hx119_2:=cb HB.out hx119_2
               replace hx119_3:=cb HB.out hx119_3
               replace p119:=ezT p119
               replace q119:=ezT q119
               have p120:0≤((ji54):Int):=ozD (uq)
               have q120:(ji54)<(l1.length:Int):=ozD (uq)
               obtain ⟨ad120,e120,hx120_0,hx120_1,hx120_2,hx120_3⟩:=jpa HR1.out (ji54) p120 q120
               obtain rfl:ad113=ad120:=(by injection e120)
               replace hx120_0:=cb HB.out hx120_0
               replace hx120_1:=cb HB.out hx120_1
               replace hx120_2:=cb HB.out hx120_2
               replace hx120_3:=cb HB.out hx120_3
               replace p120:=ezT p120
               replace q120:=ezT q120
               go_wp2_with (first |(go_at_call 24;(with_reducible refine (jK.calls kj5 _ _ l1 x5_1 t123 _ ?side1 ?side2 A72.out).mono ?_);(case side1=>exact cq (Kd.jG HR1.out HB.out));(case side2=>exact HC1.out);rintro e w' ⟨rfl,⟨nd,rfl⟩⟩;(try first | exact ⟨rfl,_,World.drewN_drewN _ _ _⟩ | exact ⟨rfl,_,Eq.trans (World.drewN_drewN _ _ _) (congrArg (World.drewN _) (Nat.add_assoc _ _ _))⟩)))
               repeat (go_quiet (first |(go_at_call 24;(with_reducible refine (jK.calls kj5 _ _ l1 x5_1 t123 _ ?side1 ?side2 A72.out).mono ?_);(case side1=>exact cq (Kd.jG HR1.out HB.out));(case side2=>exact HC1.out);rintro e w' ⟨rfl,⟨nd,rfl⟩⟩;(try first | exact ⟨rfl,_,World.drewN_drewN _ _ _⟩ | exact ⟨rfl,_,Eq.trans (World.drewN_drewN _ _ _) (congrArg (World.drewN _) (Nat.add_assoc _ _ _))⟩)));try go_wp2_with (first |(go_at_call 24;(with_reducible refine (jK.calls kj5 _ _ l1 x5_1 t123 _ ?side1 ?side2 A72.out).mono ?_);(case side1=>exact cq (Kd.jG HR1.out HB.out));(case side2=>exact HC1.out);rintro e w' ⟨rfl,⟨nd,rfl⟩⟩;(try first | exact ⟨rfl,_,World.drewN_drewN _ _ _⟩ | exact ⟨rfl,_,Eq.trans (World.drewN_drewN _ _ _) (congrArg (World.drewN _) (Nat.add_assoc _ _ _))⟩))))
               go_meet
               case rel=>exact ⟨_,((t123 == (wrap64 (x5_1+1)))),(sq),H',⟨by have:=HK1.out;have:=HJ5.out;first | omega | exact Nat.le_refl _⟩,⟨kq BK112.out⟩,⟨kq BK114.out⟩,⟨Y3⟩⟩
              ·rw [if_neg c71] at H
               have c71b0:((ja l1 x5_1).f1)=false:=by simpa using c71
               clear c71
               have H':=am H
               clear H
               have hnb75:=NB114_112.out
               have hnc75:=NB112_114.out
               have hcz76_0:=bc0 BK114.out
               have hcz76_1:=bc1 BK114.out
               have hcz76_2:=bc2 BK114.out
               have hcz76_3:=bc3 BK114.out
               have hfz76_0:=jb BK114.out 0
               have hfz76_1:=jb BK114.out 1
               have hfz76_2:=jb BK114.out 2
               have hfz76_3:=jb BK114.out 3
               have p119:0≤((ji54):Int):=ozD (uq)
               have q119:(ji54)<(l1.length:Int):=ozD (uq)
               obtain ⟨ad119,e119,hx119_0,hx119_1,hx119_2,hx119_3⟩:=jpa HR1.out (ji54) p119 q119
               obtain rfl:ad113=ad119:=(by injection e119)
               replace hx119_0:=cb HB.out hx119_0
               replace hx119_1:=cb HB.out hx119_1
               replace hx119_2:=cb HB.out hx119_2
               replace hx119_3:=cb HB.out hx119_3
               replace p119:=ezT p119
               replace q119:=ezT q119
               have p120:0≤((ji54):Int):=ozD (uq)
               have q120:(ji54)<(l1.length:Int):=ozD (uq)
               obtain ⟨ad120,e120,hx120_0,hx120_1,hx120_2,hx120_3⟩:=jpa HR1.out (ji54) p120 q120
               obtain rfl:ad113=ad120:=(by injection e120)
               replace hx120_0:=cb HB.out hx120_0
               replace hx120_1:=cb HB.out hx120_1
               replace hx120_2:=cb HB.out hx120_2
               replace hx120_3:=cb HB.out hx120_3
               replace p120:=ezT p120
               replace q120:=ezT q120
               go_wp2
               repeat (go_quiet (fail);try go_wp2)
               go_meet
               case rel=>exact ⟨_,(false),(sq),H',⟨by have:=HK1.out;have:=HJ5.out;first | omega | exact Nat.le_refl _⟩,⟨kq BK112.out⟩,⟨kq BK114.out⟩,⟨Y3⟩⟩
           ·rw [if_neg c56] at H
            exact absurd H (by simp)
          ·rw [if_neg c55] at H
           exact absurd H (by simp)
         ·rw [if_neg c53] at H
          have c53b0:decide (0<x5_1)=false:=dzF c53
          clear c53
          (first | rw [c53b0] |(simp only [jRa,jYa];rw [c53b0]) | skip)
          by_cases c77:((ja l1 x5_1).f1)=true
          ·rw [if_pos c77] at H
           have c77b0:((ja l1 x5_1).f1)=true:=c77
           clear c77
           replace H:=bzS H
           obtain ⟨t124,A780,H⟩:=H
           replace H:(jc.j2 kj5 l1 x5_1 (t124 == (wrap64 (x5_1+1))) l0_0)=some r:=H
           have A78:=am A780
           clear A780
           have H':=am H
           clear H
           have hnb79:=NB114_112.out
           have hnc79:=NB112_114.out
           have hcz80_0:=bc0 BK114.out
           have hcz80_1:=bc1 BK114.out
           have hcz80_2:=bc2 BK114.out
           have hcz80_3:=bc3 BK114.out
           have hfz80_0:=jb BK114.out 0
           have hfz80_1:=jb BK114.out 1
           have hfz80_2:=jb BK114.out 2
           have hfz80_3:=jb BK114.out 3
           go_wp2_with (first |(go_at_call 24;(with_reducible refine (jK.calls kj5 _ _ l1 x5_1 t124 _ ?side1 ?side2 A78.out).mono ?_);(case side1=>exact cq (Kd.jG HR1.out HB.out));(case side2=>exact HC1.out);rintro e w' ⟨rfl,⟨nd,rfl⟩⟩;(try first | exact ⟨rfl,_,World.drewN_drewN _ _ _⟩ | exact ⟨rfl,_,Eq.trans (World.drewN_drewN _ _ _) (congrArg (World.drewN _) (Nat.add_assoc _ _ _))⟩)))
           repeat (go_quiet (first |(go_at_call 24;(with_reducible refine (jK.calls kj5 _ _ l1 x5_1 t124 _ ?side1 ?side2 A78.out).mono ?_);(case side1=>exact cq (Kd.jG HR1.out HB.out));(case side2=>exact HC1.out);rintro e w' ⟨rfl,⟨nd,rfl⟩⟩;(try first | exact ⟨rfl,_,World.drewN_drewN _ _ _⟩ | exact ⟨rfl,_,Eq.trans (World.drewN_drewN _ _ _) (congrArg (World.drewN _) (Nat.add_assoc _ _ _))⟩)));try go_wp2_with (first |(go_at_call 24;(with_reducible refine (jK.calls kj5 _ _ l1 x5_1 t124 _ ?side1 ?side2 A78.out).mono ?_);(case side1=>exact cq (Kd.jG HR1.out HB.out));(case side2=>exact HC1.out);rintro e w' ⟨rfl,⟨nd,rfl⟩⟩;(try first | exact ⟨rfl,_,World.drewN_drewN _ _ _⟩ | exact ⟨rfl,_,Eq.trans (World.drewN_drewN _ _ _) (congrArg (World.drewN _) (Nat.add_assoc _ _ _))⟩))))
           go_meet
           case rel=>exact ⟨_,((t124 == (wrap64 (x5_1+1)))),(sq),H',⟨by have:=HK1.out;have:=HJ5.out;first | omega | exact Nat.le_refl _⟩,⟨kq BK112.out⟩,⟨kq BK114.out⟩,⟨Y3⟩⟩
          ·rw [if_neg c77] at H
           have c77b0:((ja l1 x5_1).f1)=false:=by simpa using c77
           clear c77
           have H':=am H
           clear H
           have hnb81:=NB114_112.out
           have hnc81:=NB112_114.out
           have hcz82_0:=bc0 BK114.out
           have hcz82_1:=bc1 BK114.out
           have hcz82_2:=bc2 BK114.out
           have hcz82_3:=bc3 BK114.out
           have hfz82_0:=jb BK114.out 0
           have hfz82_1:=jb BK114.out 1
           have hfz82_2:=jb BK114.out 2
           have hfz82_3:=jb BK114.out 3
           go_wp2
           repeat (go_quiet (fail);try go_wp2)
           go_meet
           case rel=>exact ⟨_,(false),(sq),H',⟨by have:=HK1.out;have:=HJ5.out;first | omega | exact Nat.le_refl _⟩,⟨kq BK112.out⟩,⟨kq BK114.out⟩,⟨Y3⟩⟩
        case rest =>
         clear HC52
         try clear c1
         try clear p1
         try clear q1
         try clear hx1
         try clear c2
         try clear p2
         try clear c3
         try clear c4
         try clear c4b0
         try clear c5
         try clear c5b0
         try clear c6
         try clear p6
         try clear q6
         try clear c7
         try clear c8
         try clear c11
         try clear p11
         try clear q11
         try clear hx11
         try clear p12
         try clear q12
         try clear hx12
         try clear c13
         try clear q14
         try clear c15
         try clear c16
         try clear c16b0
         try clear c16b1
         try clear c17
         try clear c18
         try clear c21
         try clear c21b0
         try clear c22
         try clear c27
         try clear c31
         try clear c33
         try clear c34
         try clear c37
         try clear c38
         try clear c43
         try clear c47
         try clear c49
         try clear c51
         try clear c53
         try clear c53b0
         try clear c55
         try clear c55b0
         try clear c56
         try clear c56b0
         try clear c57
         try clear c57b0
         try clear c58
         try clear c60
         try clear c60b0
         try clear q61
         try clear c62
         try clear c63
         try clear c63b0
         try clear p64
         try clear c65
         try clear c67
         try clear c69
         try clear c71
         try clear c71b0
         try clear c73
         try clear c75
         try clear c77
         try clear c77b0
         try clear c79
         try clear c81
         try clear hcz19_0
         try clear hcz19_1
         try clear hcz19_2
         try clear hcz19_3
         try clear hcz23_0
         try clear hcz23_1
         try clear hcz23_2
         try clear hcz23_3
         try clear hcz24_0
         try clear hcz26_0
         try clear hcz26_1
         try clear hcz26_2
         try clear hcz26_3
         try clear hcz28_0
         try clear hcz28_1
         try clear hcz28_2
         try clear hcz28_3
         try clear hcz29_0
         try clear hcz32_0
         try clear hcz32_1
         try clear hcz32_2
         try clear hcz32_3
         try clear hcz35_0
         try clear hcz35_1
         try clear hcz35_2
         try clear hcz35_3
         try clear hcz39_0
         try clear hcz39_1
         try clear hcz39_2
         try clear hcz39_3
         try clear hcz40_0
         try clear hcz42_0
         try clear hcz42_1
         try clear hcz42_2
         try clear hcz42_3
         try clear hcz44_0
         try clear hcz44_1
         try clear hcz44_2
         try clear hcz44_3
         try clear hcz45_0
         try clear hcz48_0
         try clear hcz48_1
         try clear hcz48_2
         try clear hcz48_3
         try clear hcz50_0
         try clear hcz50_1
         try clear hcz50_2
         try clear hcz50_3
         try clear hcz59_0
         try clear hcz59_1
         try clear hcz59_2
         try clear hcz59_3
         try clear hcz66_0
         try clear hcz66_1
         try clear hcz66_2
         try clear hcz66_3
         try clear hcz68_0
         try clear hcz68_1
         try clear hcz68_2
         try clear hcz68_3
         try clear hcz70_0
         try clear hcz70_1
         try clear hcz70_2
         try clear hcz70_3
         try clear hcz74_0
         try clear hcz74_1
         try clear hcz74_2
         try clear hcz74_3
         try clear hcz76_0
         try clear hcz76_1
         try clear hcz76_2
         try clear hcz76_3
         try clear hcz80_0
         try clear hcz80_1
         try clear hcz80_2
         try clear hcz80_3
         try clear hcz82_0
         try clear hcz82_1
         try clear hcz82_2
         try clear hcz82_3
         try clear hcz9_0
         try clear hcz9_1
         try clear hcz9_2
         try clear hcz9_3
         try clear hfz19_0
         try clear hfz19_1
         try clear hfz19_2
         try clear hfz19_3
         try clear hfz23_0
         try clear hfz23_1
         try clear hfz23_2
         try clear hfz23_3
         try clear hfz24_0
         try clear hfz26_0
         try clear hfz26_1
         try clear hfz26_2
         try clear hfz26_3
         try clear hfz28_0
         try clear hfz28_1
         try clear hfz28_2
         try clear hfz28_3
         try clear hfz29_0
         try clear hfz32_0
         try clear hfz32_1
         try clear hfz32_2
         try clear hfz32_3
         try clear hfz35_0
         try clear hfz35_1
         try clear hfz35_2
         try clear hfz35_3
         try clear hfz39_0
         try clear hfz39_1
         try clear hfz39_2
         try clear hfz39_3
         try clear hfz40_0
         try clear hfz42_0
         try clear hfz42_1
         try clear hfz42_2
         try clear hfz42_3
         try clear hfz44_0
         try clear hfz44_1
         try clear hfz44_2
         try clear hfz44_3
         try clear hfz45_0
         try clear hfz48_0
         try clear hfz48_1
         try clear hfz48_2
         try clear hfz48_3
         try clear hfz50_0
         try clear hfz50_1
         try clear hfz50_2
         try clear hfz50_3
         try clear hfz59_0
         try clear hfz59_1
         try clear hfz59_2
         try clear hfz59_3
         try clear hfz66_0
         try clear hfz66_1
         try clear hfz66_2
         try clear hfz66_3
         try clear hfz68_0
         try clear hfz68_1
         try clear hfz68_2
         try clear hfz68_3
         try clear hfz70_0
         try clear hfz70_1
         try clear hfz70_2
         try clear hfz70_3
         try clear hfz74_0
         try clear hfz74_1
         try clear hfz74_2
         try clear hfz74_3
         try clear hfz76_0
         try clear hfz76_1
         try clear hfz76_2
         try clear hfz76_3
         try clear hfz80_0
         try clear hfz80_1
         try clear hfz80_2
         try clear hfz80_3
         try clear hfz82_0
         try clear hfz82_1
         try clear hfz82_2
         try clear hfz82_3
         try clear hfz9_0
         try clear hfz9_1
         try clear hfz9_2
         try clear hfz9_3
         try clear hx113_0
         try clear hx113_1
         try clear hx113_2
         try clear hx113_3
         try clear hx119_0
         try clear hx119_1
         try clear hx119_2
         try clear hx119_3
         try clear hx120_0
         try clear hx120_1
         try clear hx120_2
         try clear hx120_3
         try clear hx121_0
         try clear hx121_1
         try clear hx121_2
         try clear hx121_3
         try clear p1
         try clear p11
         try clear p113
         try clear p119
         try clear p120
         try clear p121
         try clear p2
         try clear q1
         try clear q11
         try clear q113
         try clear q119
         try clear q120
         try clear q121
         try clear q14
         obtain ⟨kq,x101_51,rfl,HA,HJ51,BK112,BK114,HB⟩:=hcut
         cases kq with
         | zero=>exact absurd HA.out (by simp [jc.j2])
         | succ kj51 =>
          have H:=HA.out
          clear HA
          simp only [jc.j2] at H
          by_cases c83:x101_51=true
          ·subst c83
           have H1:(some false)=some r:=by rw [if_pos rfl] at H;exact H
           clear H
           have H:=H1
           clear H1
           obtain rfl:=Option.some.inj H
           go_wp2
           repeat (go_quiet (fail);try go_wp2)
           go_ret
           exact ⟨Y1,Y3⟩
          ·replace c83:=Bool.eq_false_iff.mpr c83
           subst c83
           have H1:(jc.l0 kj51 l1 (wrap64 (x5_1+1)) l0_0)=some r:=by rw [if_neg (show ¬ (false=true) by decide)] at H;exact H
           clear H
           have H:=H1
           clear H1
           have H':=am H
           clear H
           go_wp2
           repeat (go_quiet (fail);try go_wp2)
           go_roundg kj51
           case measure=>have:=HK1.out;have:=HJ5.out;have:=HJ51.out;omega
           case rel=>exact ⟨(wrap64 (x5_1+1)),(sq),H',⟨by have:=HK1.out;have:=HJ5.out;have:=HJ51.out;omega⟩,⟨kq BK112.out⟩,⟨Y3⟩⟩
    ·rw [if_neg c5] at H
     exact absurd H (by simp)
   ·rw [if_neg c4] at H
    have c4b0:decide (x5_1<(l1.length:Int))=false:=dzF c4
    clear c4
    replace H:=bzS H
    obtain ⟨t125,A840,H⟩:=H
    replace H:(if t125=true then ((jr.f (l1.length:Int) 1 16).bind fun t126=>(some t126)) else (some false))=some r:=H
    have A84:=am A840
    clear A840
    by_cases c85:t125=true
    ·subst c85
     have H1:((jr.f (l1.length:Int) 1 16).bind fun t126=>(some t126))=some r:=by rw [if_pos rfl] at H;exact H
     clear H
     have H:=H1
     clear H1
     replace H:=bzS H
     obtain ⟨t126,A860,H⟩:=H
     replace H:(some t126)=some r:=H
     have A86:=am A860
     clear A860
     obtain rfl:=Option.some.inj H
     have hcz87_0:=bc0 BK112.out
     have hfz87_0:=jb BK112.out 0
     go_wp2_with (first |(go_at_call 25;(with_reducible refine (jw.calls k1 _ _ l0_0 true _ ?side1 ?side2 A84.out).mono ?_);(case side1=>exact cq (Kd.jG HR0_0.out HB.out));(case side2=>exact HC0_0.out);rintro e w88 ⟨rfl,hb⟩;replace BK112:=am (jh (g:=gb112) (o:=.cells #[.slice A0_0 l0_0.length c0_0] 31 (0,0)) (kq BK112.out) hb);replace HB:=am (jd (Y9) hb);(try clear hb);(try clear hb2);(try clear hk);(try clear hi)) |(go_at_call 22;(with_reducible refine (jr.calls (l1.length:Int) 1 16 t126 _ A86.out).mono ?_);rintro e w' ⟨rfl,⟨nd,rfl⟩⟩;(try first | exact ⟨rfl,_,World.drewN_drewN _ _ _⟩ | exact ⟨rfl,_,Eq.trans (World.drewN_drewN _ _ _) (congrArg (World.drewN _) (Nat.add_assoc _ _ _))⟩)))
     repeat (go_quiet (first |(go_at_call 25;(with_reducible refine (jw.calls k1 _ _ l0_0 true _ ?side1 ?side2 A84.out).mono ?_);(case side1=>exact cq (Kd.jG HR0_0.out HB.out));(case side2=>exact HC0_0.out);rintro e w88 ⟨rfl,hb⟩;replace BK112:=am (jh (g:=gb112) (o:=.cells #[.slice A0_0 l0_0.length c0_0] 31 (0,0)) (kq BK112.out) hb);replace HB:=am (jd (Y9) hb);(try clear hb);(try clear hb2);(try clear hk);(try clear hi)) |(go_at_call 22;(with_reducible refine (jr.calls (l1.length:Int) 1 16 t126 _ A86.out).mono ?_);rintro e w' ⟨rfl,⟨nd,rfl⟩⟩;(try first | exact ⟨rfl,_,World.drewN_drewN _ _ _⟩ | exact ⟨rfl,_,Eq.trans (World.drewN_drewN _ _ _) (congrArg (World.drewN _) (Nat.add_assoc _ _ _))⟩)));try go_wp2_with (first |(go_at_call 25;(with_reducible refine (jw.calls k1 _ _ l0_0 true _ ?side1 ?side2 A84.out).mono ?_);(case side1=>exact cq (Kd.jG HR0_0.out HB.out));(case side2=>exact HC0_0.out);rintro e w88 ⟨rfl,hb⟩;replace BK112:=am (jh (g:=gb112) (o:=.cells #[.slice A0_0 l0_0.length c0_0] 31 (0,0)) (kq BK112.out) hb);replace HB:=am (jd (Y9) hb);(try clear hb);(try clear hb2);(try clear hk);(try clear hi)) |(go_at_call 22;(with_reducible refine (jr.calls (l1.length:Int) 1 16 t126 _ A86.out).mono ?_);rintro e w' ⟨rfl,⟨nd,rfl⟩⟩;(try first | exact ⟨rfl,_,World.drewN_drewN _ _ _⟩ | exact ⟨rfl,_,Eq.trans (World.drewN_drewN _ _ _) (congrArg (World.drewN _) (Nat.add_assoc _ _ _))⟩))))
     go_ret
     exact ⟨Y1,Y9⟩
    ·replace c85:=Bool.eq_false_iff.mpr c85
     subst c85
     have H1:(some false)=some r:=by rw [if_neg (show ¬ (false=true) by decide)] at H;exact H
     clear H
     have H:=H1
     clear H1
     obtain rfl:=Option.some.inj H
     have hcz89_0:=bc0 BK112.out
     have hfz89_0:=jb BK112.out 0
     go_wp2_with (first |(go_at_call 25;(with_reducible refine (jw.calls k1 _ _ l0_0 false _ ?side1 ?side2 A84.out).mono ?_);(case side1=>exact cq (Kd.jG HR0_0.out HB.out));(case side2=>exact HC0_0.out);rintro e w90 ⟨rfl,hb⟩;replace BK112:=am (jh (g:=gb112) (o:=.cells #[.slice A0_0 l0_0.length c0_0] 31 (0,0)) (kq BK112.out) hb);replace HB:=am (jd (Y9) hb);(try clear hb);(try clear hb2);(try clear hk);(try clear hi)))
     repeat (go_quiet (first |(go_at_call 25;(with_reducible refine (jw.calls k1 _ _ l0_0 false _ ?side1 ?side2 A84.out).mono ?_);(case side1=>exact cq (Kd.jG HR0_0.out HB.out));(case side2=>exact HC0_0.out);rintro e w90 ⟨rfl,hb⟩;replace BK112:=am (jh (g:=gb112) (o:=.cells #[.slice A0_0 l0_0.length c0_0] 31 (0,0)) (kq BK112.out) hb);replace HB:=am (jd (Y9) hb);(try clear hb);(try clear hb2);(try clear hk);(try clear hi)));try go_wp2_with (first |(go_at_call 25;(with_reducible refine (jw.calls k1 _ _ l0_0 false _ ?side1 ?side2 A84.out).mono ?_);(case side1=>exact cq (Kd.jG HR0_0.out HB.out));(case side2=>exact HC0_0.out);rintro e w90 ⟨rfl,hb⟩;replace BK112:=am (jh (g:=gb112) (o:=.cells #[.slice A0_0 l0_0.length c0_0] 31 (0,0)) (kq BK112.out) hb);replace HB:=am (jd (Y9) hb);(try clear hb);(try clear hb2);(try clear hk);(try clear hi))))
     go_ret
     exact ⟨Y1,Y9⟩
def jda.f : Nat → Int → Option (ByteArray)
 | 0,_=>none
 | k+1,a0=>if a0<10 then (if 0≤a0 then (if a0≤(wrap64 (a0+1)) then (if (wrap64 (a0+1))≤10 then (some ((⟨#[48,49,50,51,52,53,54,55,56,57]⟩:ByteArray).extract (a0:Int).toNat ((wrap64 (a0+1)):Int).toNat)) else (none)) else (none)) else (none)) else ((jda.f k (wrap64 (Int.tdiv a0 10))).bind fun t127=>((jda.f k (Int.tmod a0 10)).bind fun t128=>(if t127.size+t128.size≤9223372036854775807 then (some (t127 ++ t128)) else (none))))
set_option maxHeartbeats 8000000 in
set_option maxRecDepth 100000 in
theorem jda.calls (k : Nat) : ∀ (a0 : Int) (r : ByteArray) (w : World) (h : jda.f k a0 = some r),
  Calls Tryd.prog 27 #[.int .i64 a0] w fun e w'=>e=.returned (.string r)∧jCa w w':=by
 induction k using Nat.strongRecOn with
 | _ k ih =>
 intro a0 r w h
 cases k with
 | zero=>exact absurd h (by simp [jda.f])
 | succ k =>
 simp only [jda.f] at h
 have H:(if a0<10 then (if 0≤a0 then (if a0≤(wrap64 (a0+1)) then (if (wrap64 (a0+1))≤10 then (some ((⟨#[48,49,50,51,52,53,54,55,56,57]⟩:ByteArray).extract (a0:Int).toNat ((wrap64 (a0+1)):Int).toNat)) else (none)) else (none)) else (none)) else ((jda.f k (wrap64 (Int.tdiv a0 10))).bind fun t127=>((jda.f k (Int.tmod a0 10)).bind fun t128=>(if t127.size+t128.size≤9223372036854775807 then (some (t127 ++ t128)) else (none)))))=some r:=h
 clear h
 by_cases c2:a0<10
 ·rw [if_pos c2] at H
  have c2b0:decide (a0<10)=true:=dzT c2
  clear c2
  by_cases c3:0≤a0
  ·rw [if_pos c3] at H
   have c3b0:=ezT c3
   have c3b1:decide (0≤a0)=true:=dzT c3
   clear c3
   by_cases c4:a0≤(wrap64 (a0+1))
   ·rw [if_pos c4] at H
    have c4b0:=ezT c4
    have c4b1:decide (a0≤(wrap64 (a0+1)))=true:=dzT c4
    by_cases c5:(wrap64 (a0+1))≤10
    ·rw [if_pos c5] at H
     have c5b0:=ezT c5
     have c5b1:decide ((wrap64 (a0+1))≤10)=true:=dzT c5
     obtain rfl:=Option.some.inj H
     go_enter Tryd.func27,Tryd.ntmps27
     go_wp2
     go_ret
     exact ⟨sq,Y2⟩
    ·rw [if_neg c5] at H
     exact absurd H (by simp)
   ·rw [if_neg c4] at H
    exact absurd H (by simp)
  ·rw [if_neg c3] at H
   exact absurd H (by simp)
 ·rw [if_neg c2] at H
  have c2b0:decide (a0<10)=false:=dzF c2
  clear c2
  replace H:=bzS H
  obtain ⟨t127,A60,H⟩:=H
  replace H:((jda.f k (Int.tmod a0 10)).bind fun t128=>(if t127.size+t128.size≤9223372036854775807 then (some (t127 ++ t128)) else (none)))=some r:=H
  have A6:=am A60
  clear A60
  replace H:=bzS H
  obtain ⟨t128,A70,H⟩:=H
  replace H:(if t127.size+t128.size≤9223372036854775807 then (some (t127 ++ t128)) else (none))=some r:=H
  have A7:=am A70
  clear A70
  by_cases c8:t127.size+t128.size≤9223372036854775807
  ·rw [if_pos c8] at H
   have c8b0:=ezT c8
   have c8b1:decide (t127.size+t128.size≤9223372036854775807)=true:=dzT c8
   try have c8b2:(9223372036854775807<t127.size+t128.size)=False:=eq_false (Nat.not_lt.2 c8)
   obtain rfl:=Option.some.inj H
   go_enter Tryd.func27,Tryd.ntmps27
   go_wp2_with (first |((with_reducible refine jC (f:=27) rfl ?_);refine gL (some 11) Tryd.func27 #[.int .i64 (wrap64 (Int.tdiv a0 10))] ?_;(with_reducible refine (ih k (by omega) (wrap64 (Int.tdiv a0 10)) t127 _ A6.out).mono ?_);rintro e w' ⟨rfl,⟨nd,rfl⟩⟩;refine ⟨_,rfl,?_⟩) |((with_reducible refine jC (f:=27) rfl ?_);refine gL (some 14) Tryd.func27 #[.int .i64 (Int.tmod a0 10)] ?_;(with_reducible refine (ih k (by omega) (Int.tmod a0 10) t128 _ A7.out).mono ?_);rintro e w' ⟨rfl,⟨nd,rfl⟩⟩;refine ⟨_,rfl,?_⟩))
   go_ret
   exact ⟨sq,Y2⟩
  ·rw [if_neg c8] at H
   exact absurd H (by simp)
def jwa.f (k : Nat) (l0_0 : List (S59)) (a1 : Int) (a2 : Int) : Option (ByteArray) := if 0 ≤ a1 then (if a1 < (l0_0.length : Int) then (if ((jB l0_0 a1).f0).size + 1 ≤ 9223372036854775807 then ((jda.f k a2).bind fun t131 => (if (((jB l0_0 a1).f0) ++ (⟨#[58]⟩ : ByteArray)).size + t131.size ≤ 9223372036854775807 then (some ((((jB l0_0 a1).f0) ++ (⟨#[58]⟩ : ByteArray)) ++ t131)) else (none))) else (none)) else (none)) else (none)
set_option maxHeartbeats 8000000 in
set_option maxRecDepth 100000 in
theorem jwa.calls (k : Nat) (A0_0 : Option Addr) (c0_0 : Nat) (l0_0 : List (S59)) (a1 : Int) (a2 : Int) (r : ByteArray) (w : World) (hr0_0 : Kd.C k59 w A0_0 l0_0.length l0_0) (hc0_0 : l0_0.length ≤ c0_0) (h : jwa.f k l0_0 a1 a2 = some r) :
  Calls Tryd.prog 26 #[.agg #[.slice A0_0 l0_0.length c0_0], .int .i64 a1, .int .i64 a2] w fun e w'=>e=.returned (.string r)∧Below w.heap.size w w':=by
 have hu31:=Tryd.underlying31
 have HR0_0:=am hr0_0
 have HC0_0:=am hc0_0
 clear hr0_0 hc0_0
 have HB:=am (Below.refl w.heap.size w)
 have H:(if 0≤a1 then (if a1<(l0_0.length:Int) then (if ((jB l0_0 a1).f0).size+1≤9223372036854775807 then ((jda.f k a2).bind fun t131=>(if (((jB l0_0 a1).f0) ++ (⟨#[58]⟩:ByteArray)).size+t131.size≤9223372036854775807 then (some ((((jB l0_0 a1).f0) ++ (⟨#[58]⟩:ByteArray)) ++ t131)) else (none))) else (none)) else (none)) else (none))=some r:=h
 clear h
 by_cases c4:0≤a1
 ·rw [if_pos c4] at H
  have c4b0:decide (0≤a1)=true:=dzT c4
  clear c4
  by_cases c5:a1<(l0_0.length:Int)
  ·rw [if_pos c5] at H
   have c5b0:decide (a1<(l0_0.length:Int))=true:=dzT c5
   clear c5
   by_cases c6:((jB l0_0 a1).f0).size+1≤9223372036854775807
   ·rw [if_pos c6] at H
    have c6b0:=ezT c6
    have c6b1:decide (((jB l0_0 a1).f0).size+1≤9223372036854775807)=true:=dzT c6
    try have c6b2:(9223372036854775807<((jB l0_0 a1).f0).size+1)=False:=eq_false (Nat.not_lt.2 c6)
    replace H:=bzS H
    obtain ⟨t131,A70,H⟩:=H
    replace H:(if (((jB l0_0 a1).f0) ++ (⟨#[58]⟩:ByteArray)).size+t131.size≤9223372036854775807 then (some ((((jB l0_0 a1).f0) ++ (⟨#[58]⟩:ByteArray)) ++ t131)) else (none))=some r:=H
    have A7:=am A70
    clear A70
    by_cases c8:(((jB l0_0 a1).f0) ++ (⟨#[58]⟩:ByteArray)).size+t131.size≤9223372036854775807
    ·rw [if_pos c8] at H
     have c8b0:=ezT c8
     have c8b1:decide ((((jB l0_0 a1).f0) ++ (⟨#[58]⟩:ByteArray)).size+t131.size≤9223372036854775807)=true:=dzT c8
     try have c8b2:(9223372036854775807<(((jB l0_0 a1).f0) ++ (⟨#[58]⟩:ByteArray)).size+t131.size)=False:=eq_false (Nat.not_lt.2 c8)
     try have c8s:(9223372036854775807<((jB l0_0 a1).f0).size+1+t131.size)=False:=eq_false (Nat.not_lt.2 (by have h_:=c8;simp only [ByteArray.size_append] at h_;exact h_))
     obtain rfl:=Option.some.inj H
     go_enter Tryd.func26,Tryd.ntmps26
     go_wp2_with (first |((with_reducible refine jE (N:=3) rfl ?_);refine bE (N:=3) (cs:=#[.slice A0_0 l0_0.length c0_0]) (t:=31) ?_;intro gb129 hg w9 hbox hb;have BK129:=am (hbox);have GW129:=am ((Y0:w.heap.size≤gb129));have GE129:=am ((Y0:w.heap.size≤gb129));replace HB:=am (jd (bq) hb);clear hb hbox hg;have hcz10_0:=bc0 BK129.out;have hfz10_0:=jb BK129.out 0;have p130:0≤(a1:Int):=ozD (uq);have q130:a1<(l0_0.length:Int):=ozD (uq);obtain ⟨ad130,e130,hx130_0,hx130_1⟩:=jjb HR0_0.out a1 p130 q130;cases e130;replace hx130_0:=cb HB.out hx130_0;replace hx130_1:=cb HB.out hx130_1;replace p130:=ezT p130;replace q130:=ezT q130) |(go_at_call 27;(with_reducible refine (jda.calls k a2 t131 _ A7.out).mono ?_);rintro e w' ⟨rfl,⟨nd,rfl⟩⟩;(try first | exact ⟨rfl,_,World.drewN_drewN _ _ _⟩ | exact ⟨rfl,_,Eq.trans (World.drewN_drewN _ _ _) (congrArg (World.drewN _) (Nat.add_assoc _ _ _))⟩)))
     repeat (go_quiet (first |((with_reducible refine jE (N:=3) rfl ?_);refine bE (N:=3) (cs:=#[.slice A0_0 l0_0.length c0_0]) (t:=31) ?_;intro gb129 hg w9 hbox hb;have BK129:=am (hbox);have GW129:=am ((Y0:w.heap.size≤gb129));have GE129:=am ((Y0:w.heap.size≤gb129));replace HB:=am (jd (bq) hb);clear hb hbox hg;have hcz10_0:=bc0 BK129.out;have hfz10_0:=jb BK129.out 0;have p130:0≤(a1:Int):=ozD (uq);have q130:a1<(l0_0.length:Int):=ozD (uq);obtain ⟨ad130,e130,hx130_0,hx130_1⟩:=jjb HR0_0.out a1 p130 q130;cases e130;replace hx130_0:=cb HB.out hx130_0;replace hx130_1:=cb HB.out hx130_1;replace p130:=ezT p130;replace q130:=ezT q130) |(go_at_call 27;(with_reducible refine (jda.calls k a2 t131 _ A7.out).mono ?_);rintro e w' ⟨rfl,⟨nd,rfl⟩⟩;(try first | exact ⟨rfl,_,World.drewN_drewN _ _ _⟩ | exact ⟨rfl,_,Eq.trans (World.drewN_drewN _ _ _) (congrArg (World.drewN _) (Nat.add_assoc _ _ _))⟩)));try go_wp2_with (first |((with_reducible refine jE (N:=3) rfl ?_);refine bE (N:=3) (cs:=#[.slice A0_0 l0_0.length c0_0]) (t:=31) ?_;intro gb129 hg w9 hbox hb;have BK129:=am (hbox);have GW129:=am ((Y0:w.heap.size≤gb129));have GE129:=am ((Y0:w.heap.size≤gb129));replace HB:=am (jd (bq) hb);clear hb hbox hg;have hcz10_0:=bc0 BK129.out;have hfz10_0:=jb BK129.out 0;have p130:0≤(a1:Int):=ozD (uq);have q130:a1<(l0_0.length:Int):=ozD (uq);obtain ⟨ad130,e130,hx130_0,hx130_1⟩:=jjb HR0_0.out a1 p130 q130;cases e130;replace hx130_0:=cb HB.out hx130_0;replace hx130_1:=cb HB.out hx130_1;replace p130:=ezT p130;replace q130:=ezT q130) |(go_at_call 27;(with_reducible refine (jda.calls k a2 t131 _ A7.out).mono ?_);rintro e w' ⟨rfl,⟨nd,rfl⟩⟩;(try first | exact ⟨rfl,_,World.drewN_drewN _ _ _⟩ | exact ⟨rfl,_,Eq.trans (World.drewN_drewN _ _ _) (congrArg (World.drewN _) (Nat.add_assoc _ _ _))⟩))))
     go_ret
     exact ⟨Y1,by repeat (first |(with_reducible first | exact HB.out | apply jA | apply ji | apply jv | refine jy ?_ GE129.out) | exact HB.out)⟩
    ·rw [if_neg c8] at H
     exact absurd H (by simp)
   ·rw [if_neg c6] at H
    exact absurd H (by simp)
  ·rw [if_neg c5] at H
   exact absurd H (by simp)
 ·rw [if_neg c4] at H
  exact absurd H (by simp)
def jea.l0 : Nat → Int → List (S42) → Int → Option ((List (S42)))
 | 0,_,_,_=>none
 | k+1,x1,x5,x6=>if x6<(x5.length:Int) then (if 0≤x6 then (jea.l0 k x1 (x5.set (x6:Int).toNat (⟨wrap64 (((ja x5 x6).f0)+x1),(ja x5 x6).f1,(ja x5 x6).f2,(ja x5 x6).f3⟩:S42)) (wrap64 (x6+1))) else (none)) else (some x5)
def jea.f (k : Nat) (l0 : List (S42)) (a1 : Int) : Option ((List (S42))) := (some (([] : List (S42)) : List (S42))).bind fun y132 => (if y132.length + l0.length < 4398046511104 then (jea.l0 k a1 (y132 ++ l0) 0) else (none))
set_option maxHeartbeats 8000000 in
set_option maxRecDepth 100000 in
theorem jea.calls (k : Nat) (A0 : Option Addr) (c0 : Nat) (l0 : List (S42)) (a1 : Int) (r : List (S42)) (w : World) (hr0 : Kd.C k42 w A0 l0.length l0) (hc0 : l0.length ≤ c0) (h : jea.f k l0 a1 = some r) :
  Calls Tryd.prog 39 #[.slice A0 l0.length c0, .int .i64 a1] w fun e w'=>∃ v0_:Value,e=.returned (v0_)∧Kd.R k42 42 w' w.heap.size (fun _=>True) v0_ r∧Below w.heap.size w w':=by
 have HR0:=am hr0
 have HC0:=am hc0
 clear hr0 hc0
 have HB:=am (Below.refl w.heap.size w)
 have H:((some (([]:List (S42)):List (S42))).bind fun y132=>(if y132.length+l0.length<4398046511104 then (jea.l0 k a1 (y132 ++ l0) 0) else (none)))=some r:=h
 clear h
 obtain ⟨y132,hy132⟩:∃ y_:List (S42),y_=(([]:List (S42))):=⟨_,rfl⟩
 replace H:(if y132.length+l0.length<4398046511104 then (jea.l0 k a1 (y132 ++ l0) 0) else (none))=some r:=by first |(rw [hy132];with_reducible exact H) |(have H2_:=(Option.bind_some _ _).symm.trans H;rw [hy132];with_reducible exact H2_) |(have H2_:=(Option.bind_some _ _).symm.trans H;with_reducible exact H2_) | with_reducible exact H |(rw [hy132];exact H) | exact H
 have Ny132:=am hy132
 clear hy132
 by_cases c3:y132.length+l0.length<4398046511104
 ·rw [if_pos c3] at H
  have LMc3:=am c3
  clear c3
  obtain ⟨y135,hy135⟩:∃ y_:List (S42),y_=(y132 ++ l0):=⟨_,rfl⟩
  replace H:(jea.l0 k a1 y135 0)=some r:=by first |(rw [hy135];with_reducible exact H) |(have H2_:=(Option.bind_some _ _).symm.trans H;rw [hy135];with_reducible exact H2_) |(have H2_:=(Option.bind_some _ _).symm.trans H;with_reducible exact H2_) | with_reducible exact H |(rw [hy135];exact H) | exact H
  have Ny135:=am hy135
  clear hy135
  have H':=am H
  clear H
  go_enter Tryd.func39,Tryd.ntmps39
  go_wp2_with (first |((with_reducible refine jE (N:=7) rfl ?_);refine Kd.R_lit k42 _ 42 ?hg (N:=7) ?hd (xs:=([]:List (S42))) (inner:=[]) (ok:=fun _=>True) (okp:=fun _=>True) ?hr ?hp (fun _ hk=>hk) trivial (Below.refl _ _) (Nat.le_refl _) (by simp) ?_;(case hd=>rfl);(case hg=>rfl);(case hr=>exact Y6);(case hp=>exact (Reps.none _ _));intro v133 w4 ho5 hb hg_ hnew_;clear hg_ hnew_;(first | rw [← Ny132.out] at ho5 |(simp only [Int.reduceToNat] at ho5;rw [← Ny132.out] at ho5));have HO134:=am (Kd.jMa ho5 (jL (bq)));replace HB:=am (jd (bq) hb);clear hb ho5) |((with_reducible refine jmb (b:=.append) (xs:=#[.tmp 7, .tmp 8]) rfl ?_);at_builtin;refine Kd.R_append_rows k42 (w0:=w) w.heap.size rfl (.tmp 7) (.tmp 8) 33 42 (.agg #[(.int .i64 0),(.bool false),(.int .i64 0),(.int .i64 0)]) 32 rfl Tryd.underlying33 info42 rfl (by decide) (by omega) v133 y132 l0 _ _ _ (fun _=>True) (fun _=>False) rfl rfl ?aO ?aR (fun _ _ h=>h) (fun _ h=>h.elim) ?aF ?aB ?aS ?aL ?_;(case aR=>repeat (first | exact (Kd.jG HR0.out HB.out) |(with_reducible refine Kd.jcb ?_ _) |(with_reducible refine Kd.jWa ?_ _) |(with_reducible refine Kd.C_drew ?_)));(case aB=>exact (bq));(case aF=>exact (fun _ _=>trivial));(case aO=>exact (rq HO134.out));(case aS=>exact (jL (bq)));(case aL=>have:=LMc3.out;omega);intro v136 w6 ho hb hg hat;rw [← Ny135.out] at ho;have n0_:=am (hb);have n1_:=am (ho);clear HB HO134;have HB:=n0_;have HO137:=n1_;clear n0_ n1_ ho hb hg hat))
  go_loopg [6] k (fun kq v6 w'=>∃ (x5_1:List (S42)) (x6_1:Int),v6=.int .i64 x6_1∧jH (jea.l0 kq a1 x5_1 x6_1=some r)∧jH (kq≤k)∧jH (Kd.R k42 42 w' w.heap.size (fun _=>True) v136 x5_1)∧jH (Below w.heap.size w w'))
  case atStart=>exact ⟨(y135),(0),(sq),H',⟨Nat.le_refl _⟩,⟨rq HO137.out⟩,⟨bq⟩⟩
  case round =>
   clear H'
   try clear p2
   try clear c3
   obtain ⟨x5_1,x6_1,rfl,HA,HK1,HO_5,HB⟩:=hrel
   cases gk with
   | zero=>exact absurd HA.out (by simp [jea.l0])
   | succ k1 =>
    have H:=HA.out
    clear HA
    simp only [jea.l0] at H
    by_cases c7:x6_1<(x5_1.length:Int)
    ·rw [if_pos c7] at H
     have c7b0:decide (x6_1<(x5_1.length:Int))=true:=dzT c7
     clear c7
     by_cases c8:0≤x6_1
     ·rw [if_pos c8] at H
      have c8b0:decide (0≤x6_1)=true:=dzT c8
      clear c8
      obtain ⟨y139,hy139⟩:∃ y_:List (S42),y_=(x5_1.set (x6_1:Int).toNat (⟨wrap64 (((ja x5_1 x6_1).f0)+a1),(ja x5_1 x6_1).f1,(ja x5_1 x6_1).f2,(ja x5_1 x6_1).f3⟩:S42)):=⟨_,rfl⟩
      replace H:(jea.l0 k1 a1 y139 (wrap64 (x6_1+1)))=some r:=by first |(rw [hy139];with_reducible exact H) |(have H2_:=(Option.bind_some _ _).symm.trans H;rw [hy139];with_reducible exact H2_) |(have H2_:=(Option.bind_some _ _).symm.trans H;with_reducible exact H2_) | with_reducible exact H |(rw [hy139];exact H) | exact H
      have Ny139:=am hy139
      clear hy139
      have H':=am H
      clear H
      obtain ⟨Ao10,co10,eo10⟩:=Kd.jVa HO_5.out
      subst eo10
      have p138:0≤(x6_1:Int):=ozD (uq)
      have q138:x6_1<(x5_1.length:Int):=ozD (uq)
      obtain ⟨ad138,e138,hx138_0,hx138_1,hx138_2,hx138_3⟩:=jpa (Kd.jqa HO_5.out).2.2 x6_1 p138 q138
      cases e138
      replace p138:=ezT p138
      replace q138:=ezT q138
      have p9:0≤(x6_1:Int):=ozD (uq)
      have q9:(x6_1:Int)<((x5_1.length:Int):Int):=ozD (uq)
      obtain ⟨go9,co9,eo9,gb9,gl9,cl9,HG9⟩:=Kd.R_form HO_5.out (by omega)
      (first | cases eo9 |(injection eo9 with ea_ en_ ec_;(first | subst ea_ |(injection ea_ with ea_;subst ea_));subst ec_;clear en_))
      have GB9:=am gb9
      have GG9:=am HG9
      clear gb9 gl9 HG9
      (first | simp only [add_plain] at hx138_0 | skip)
      (first | simp only [add_plain] at hx138_1 | skip)
      (first | simp only [add_plain] at hx138_2 | skip)
      (first | simp only [add_plain] at hx138_3 | skip)
      obtain ⟨ce9,hcl9,hM9,hcc9,hfr9⟩:=Kd.R_elem HO_5.out z42 (x6_1:Int) p9 q9
      obtain rfl:=k42_openM hM9
      have hx9_0:wr.cell? ⟨go9,(x6_1:Int).toNat * 4,none⟩=some (.int .i64 ((ja x5_1 x6_1).f0)):=hcc9 0 _ rfl
      have hx9_1:wr.cell? ⟨go9,(x6_1:Int).toNat * 4+1,none⟩=some (.bool ((ja x5_1 x6_1).f1)):=hcc9 1 _ rfl
      have hx9_2:wr.cell? ⟨go9,(x6_1:Int).toNat * 4+2,none⟩=some (.int .i64 ((ja x5_1 x6_1).f2)):=hcc9 2 _ rfl
      have hx9_3:wr.cell? ⟨go9,(x6_1:Int).toNat * 4+3,none⟩=some (.int .i64 ((ja x5_1 x6_1).f3)):=hcc9 3 _ rfl
      have hf9_0:wr.frozen? ⟨go9,(x6_1:Int).toNat * 4,none⟩=false:=hfr9 0
      have hf9_1:wr.frozen? ⟨go9,(x6_1:Int).toNat * 4+1,none⟩=false:=hfr9 1
      have hf9_2:wr.frozen? ⟨go9,(x6_1:Int).toNat * 4+2,none⟩=false:=hfr9 2
      have hf9_3:wr.frozen? ⟨go9,(x6_1:Int).toNat * 4+3,none⟩=false:=hfr9 3
      clear hcl9 hcc9 hfr9 hM9
      replace p9:=ezT p9
      replace q9:=ezT q9
      have HX11:=am (show Kd.R k42 42 wr w.heap.size (fun _=>True) (.slice (some ⟨go9,0,none⟩) x5_1.length co10) x5_1 from (rq HO_5.out))
      obtain ⟨ce11,hcl11,hM11,hcc11,hfr11⟩:=Kd.R_elem HX11.out z42 (x6_1:Int) (ozD (uq)) (by have h_:(x6_1:Int)<((x5_1.length:Int):Int):=ozD (uq);first | exact h_ |(have e_:=(Kd.jqa HO_5.out).1;omega) | simpa using h_)
      obtain rfl:=k42_openM hM11
      have HP11:=Kd.R_seg HX11.out (x6_1:Int) (ozD (uq)) (by have h_:(x6_1:Int)<((x5_1.length:Int):Int):=ozD (uq);first | exact h_ |(have e_:=(Kd.jqa HO_5.out).1;omega) | simpa using h_) (seg:=[.int .i64 (wrap64 (((ja x5_1 x6_1).f0)+a1))]) (j:=0) hcl11 hcc11 (show 1≤4 from by decide) (x':=(⟨wrap64 (((ja x5_1 x6_1).f0)+a1),(ja x5_1 x6_1).f1,(ja x5_1 x6_1).f2,(ja x5_1 x6_1).f3⟩:S42)) (k42_mkM _ _ _ (⟨wrap64 (((ja x5_1 x6_1).f0)+a1),(ja x5_1 x6_1).f1,(ja x5_1 x6_1).f2,(ja x5_1 x6_1).f3⟩:S42) ) (fun _ hk=>hk)
      have hx11_0:=hcc11 0 _ rfl
      (try simp only [show (k42).sz=4 from rfl,Nat.mul_one,Nat.add_zero] at hx11_0)
      have hf11_0:=hfr11 0
      (try simp only [show (k42).sz=4 from rfl,Nat.mul_one,Nat.add_zero] at hf11_0)
      clear hcl11 hcc11 hfr11 hM11
      go_wp2_with (first |((with_reducible refine gate_store (t:=3) (p:=26) rfl ?_);refine store_event (t:=3) (p:=26) (v:=?vo_w12) (w1:=(wr.setCell ⟨go9,(x6_1:Int).toNat * 4,none⟩ (.int .i64 (wrap64 (((ja x5_1 x6_1).f0)+a1))))) ?hg ?ho ?hn ?hr ?_;(case ho=>rfl);(case hg=>rfl);(case hn=>rfl);(case hr=>exact Y6);intro w12 hw;have hg:wr.grownBy w12 (some go9):=(by rw [hw];exact HP11.2);have hp_:Kd.R k42 42 w12 w.heap.size (fun _=>True) (.slice (some ⟨go9,0,none⟩) x5_1.length co10) y139:=(by rw [hw,Ny139.out];exact HP11.1);clear HP11;replace HO_5:=am (hp_);replace HB:=am ((by rw [hw];exact jy (HB.out) GB9.out:Below w.heap.size w w12));clear hg hw hp_))
      go_roundg k1
      case measure=>have:=HK1.out;omega
      case rel=>exact ⟨(y139),(wrap64 (x6_1+1)),(sq),H',⟨by have:=HK1.out;omega⟩,⟨rq HO_5.out⟩,⟨bq⟩⟩
     ·rw [if_neg c8] at H
      exact absurd H (by simp)
    ·rw [if_neg c7] at H
     have c7b0:decide (x6_1<(x5_1.length:Int))=false:=dzF c7
     clear c7
     obtain rfl:=Option.some.inj H
     obtain ⟨Ao13,co13,eo13⟩:=Kd.jVa HO_5.out
     subst eo13
     go_wp2
     go_ret
     exact ⟨_,Y1,rq HO_5.out,bq⟩
 ·rw [if_neg c3] at H
  exact absurd H (by simp)
def jS.l0 : Nat → List (S42) → List (List (S42)) → Int → Option ((List (List (S42))))
 | 0,_,_,_=>none
 | k+1,x0,x3,x4=>if x4<(x0.length:Int) then ((jK.f k x0 x4).bind fun t143=>(if 0≤x4 then (if x4≤t143 then (if t143≤(x0.length:Int) then ((jea.f k ((x0.take (t143:Int).toNat).drop (x4:Int).toNat) (wrap64 (-((ja x0 x4).f0)))).bind fun t149=>(if x3.length<5864062014805 then ((jK.f k x0 x4).bind fun t155=>(jS.l0 k x0 (x3 ++ [t149]) t155)) else (none))) else (none)) else (none)) else (none))) else (some x3)
def jS.f (k : Nat) (l0 : List (S42)) : Option ((List (List (S42)))) := jS.l0 k l0 (([] : List (List (S42)))) 1
def jS.T5 : Bool × List (List Nat × List Nat) := (true, [([], []), ([], []), ([], []), ([], []), ([], []), ([3, 4], [3, 4]), ([1, 2, 5], [1, 2, 5]), ([], []), ([], []), ([7, 8], [7, 8]), ([9], [9]), ([10], [10]), ([11], [11]), ([6, 12, 5], [6, 12]), ([13], [13]), ([0, 14, 13], [0, 14]), ([15, 15, 0, 1, 2, 3, 4, 5, 6, 7, 8, 9, 10, 11, 12, 13, 14, 15], [0, 15])])
def jS.B5 : List Nat := [0, 0, 0, 0, 0, 24, 62, 0, 0, 384, 896, 1920, 3968, 8190, 16382, 32767, 65535]
theorem jS.tab5 : rtab .any (opsOf Tryd.f28 5) = jS.T5 := by kernel_rfl
theorem jS.bits5 : job jS.T5.2 jS.B5 = true := by kernel_rfl
set_option maxHeartbeats 8000000 in
set_option maxRecDepth 100000 in
theorem jS.calls (k : Nat) (A0 : Option Addr) (c0 : Nat) (l0 : List (S42)) (r : List (List (S42))) (w : World) (hr0 : Kd.C k42 w A0 l0.length l0) (hc0 : l0.length ≤ c0) (h : jS.f k l0 = some r) :
  Calls Tryd.prog 28 #[.slice A0 l0.length c0] w fun e w'=>∃ v0_:Value,e=.returned (v0_)∧Kd.S (Kd.slice 42 k42) 33 w' w.heap.size (fun _=>True) v0_ r∧Below w.heap.size w w':=by
 have HR0:=am hr0
 have HC0:=am hc0
 clear hr0 hc0
 have HB:=am (Below.refl w.heap.size w)
 have H:(jS.l0 k l0 (([]:List (List (S42)))) 1)=some r:=h
 clear h
 obtain ⟨y140,hy140⟩:∃ y_:List (List (S42)),y_=(([]:List (List (S42)))):=⟨_,rfl⟩
 replace H:(jS.l0 k l0 y140 1)=some r:=by first |(rw [hy140];with_reducible exact H) |(have H2_:=(Option.bind_some _ _).symm.trans H;rw [hy140];with_reducible exact H2_) |(have H2_:=(Option.bind_some _ _).symm.trans H;with_reducible exact H2_) | with_reducible exact H |(rw [hy140];exact H) | exact H
 have Ny140:=am hy140
 clear hy140
 have H':=am H
 clear H
 go_enter Tryd.func28,Tryd.ntmps28
 go_wp2_with (first |((with_reducible refine jE (N:=5) rfl ?_);refine Kd.S_lit (Kd.slice 42 k42) _ 33 ?hg (N:=5) ?hd (xs:=([]:List (List (S42)))) (inner:=[]) (ok:=fun _=>True) (okp:=fun _=>True) ?hr ?hp (fun _ hk=>hk) trivial (Below.refl _ _) (Nat.le_refl _) (by simp) ?_;(case hd=>rfl);(case hg=>rfl);(case hr=>exact Y6);(case hp=>exact (Reps.none _ _));intro v141 w2 ho3 hb hg_ hnew_;clear hg_ hnew_;(first | rw [← Ny140.out] at ho3 |(simp only [Int.reduceToNat] at ho3;rw [← Ny140.out] at ho3));have HO142:=am (Kd.S_lower ho3 (jL (bq)));replace HB:=am (jd (bq) hb);clear hb ho3))
 go_loopg [3,4] k (fun kq v3 v4 w'=>∃ (x3_1:List (List (S42))) (x4_1:Int),v4=.int .i64 x4_1∧jH (jS.l0 kq l0 x3_1 x4_1=some r)∧jH (kq≤k)∧jH (Kd.S (Kd.slice 42 k42) 33 w' w.heap.size (fun _=>True) v3 x3_1)∧jH (Below w.heap.size w w'))
 case atStart=>exact ⟨(y140),(1),(sq),H',⟨Nat.le_refl _⟩,⟨by (with_reducible repeat (first | apply Kd.jIa | apply Kd.jHa | apply Kd.jOa));exact HO142.out⟩,⟨bq⟩⟩
 case round =>
  clear H'
  try clear c2
  try clear p2
  obtain ⟨x3_1,x4_1,rfl,HA,HK1,HO_3,HB⟩:=hrel
  cases gk with
  | zero=>exact absurd HA.out (by simp [jS.l0])
  | succ k1 =>
   have H:=HA.out
   clear HA
   simp only [jS.l0] at H
   by_cases c4:x4_1<(l0.length:Int)
   ·rw [if_pos c4] at H
    have c4b0:decide (x4_1<(l0.length:Int))=true:=dzT c4
    clear c4
    replace H:=bzS H
    obtain ⟨t143,A50,H⟩:=H
    replace H:(if 0≤x4_1 then (if x4_1≤t143 then (if t143≤(l0.length:Int) then ((jea.f k1 ((l0.take (t143:Int).toNat).drop (x4_1:Int).toNat) (wrap64 (-((ja l0 x4_1).f0)))).bind fun t149=>(if x3_1.length<5864062014805 then ((jK.f k1 l0 x4_1).bind fun t155=>(jS.l0 k1 l0 (x3_1 ++ [t149]) t155)) else (none))) else (none)) else (none)) else (none))=some r:=H
    have A5:=am A50
    clear A50
    by_cases c6:0≤x4_1
    ·rw [if_pos c6] at H
     have c6b0:=ezT c6
     have c6b1:decide (0≤x4_1)=true:=dzT c6
     clear c6
     by_cases c7:x4_1≤t143
     ·rw [if_pos c7] at H
      have c7b0:=ezT c7
      have c7b1:decide (x4_1≤t143)=true:=dzT c7
      clear c7
      by_cases c8:t143≤(l0.length:Int)
      ·rw [if_pos c8] at H
       have c8b0:=ezT c8
       have c8b1:decide (t143≤(l0.length:Int))=true:=dzT c8
       clear c8
       obtain ⟨y144,hy144⟩:∃ y_:List (S42),y_=((l0.take (t143:Int).toNat).drop (x4_1:Int).toNat):=⟨_,rfl⟩
       replace H:((jea.f k1 y144 (wrap64 (-((ja l0 x4_1).f0)))).bind fun t149=>(if x3_1.length<5864062014805 then ((jK.f k1 l0 x4_1).bind fun t155=>(jS.l0 k1 l0 (x3_1 ++ [t149]) t155)) else (none)))=some r:=by first |(rw [hy144];with_reducible exact H) |(have H2_:=(Option.bind_some _ _).symm.trans H;rw [hy144];with_reducible exact H2_) |(have H2_:=(Option.bind_some _ _).symm.trans H;with_reducible exact H2_) | with_reducible exact H |(rw [hy144];exact H) | exact H
       have Ny144:=am hy144
       clear hy144
       replace H:=bzS H
       obtain ⟨t149,A90,H⟩:=H
       replace H:(if x3_1.length<5864062014805 then ((jK.f k1 l0 x4_1).bind fun t155=>(jS.l0 k1 l0 (x3_1 ++ [t149]) t155)) else (none))=some r:=H
       have A9:=am A90
       clear A90
       by_cases c10:x3_1.length<5864062014805
       ·rw [if_pos c10] at H
        have LMc10:=am c10
        clear c10
        obtain ⟨y152,hy152⟩:∃ y_:List (List (S42)),y_=(x3_1 ++ [t149]):=⟨_,rfl⟩
        replace H:((jK.f k1 l0 x4_1).bind fun t155=>(jS.l0 k1 l0 y152 t155))=some r:=by first |(rw [hy152];with_reducible exact H) |(have H2_:=(Option.bind_some _ _).symm.trans H;rw [hy152];with_reducible exact H2_) |(have H2_:=(Option.bind_some _ _).symm.trans H;with_reducible exact H2_) | with_reducible exact H |(rw [hy152];exact H) | exact H
        have Ny152:=am hy152
        clear hy152
        replace H:=bzS H
        obtain ⟨t155,A110,H⟩:=H
        replace H:(jS.l0 k1 l0 y152 t155)=some r:=H
        have A11:=am A110
        clear A110
        have H':=am H
        clear H
        try go_wp2
        replace HO_3:=am (Kd.jOa HO_3.out)
        replace HB:=am (jv HB.out)
        have p148:0≤(x4_1:Int):=ozD (uq)
        have q148:x4_1<(l0.length:Int):=ozD (uq)
        obtain ⟨ad148,e148,hx148_0,hx148_1,hx148_2,hx148_3⟩:=jpa HR0.out x4_1 p148 q148
        have hw148_3:=hx148_3
        have hw148_2:=hx148_2
        have hw148_1:=hx148_1
        have hw148_0:=hx148_0
        cases e148
        replace hx148_0:=cb HB.out hx148_0
        replace hx148_1:=cb HB.out hx148_1
        replace hx148_2:=cb HB.out hx148_2
        replace hx148_3:=cb HB.out hx148_3
        replace p148:=ezT p148
        replace q148:=ezT q148
        refine start_ (n:=17) (S:=fun w'=>w'.cell? (ad148.add ((x4_1).toNat * 4))=some (.int .i64 ((ja l0 x4_1).f0))∧w'.cell? ⟨(ad148.add ((x4_1).toNat * 4)).block,(ad148.add ((x4_1).toNat * 4)).off+1,none⟩=some (.bool ((ja l0 x4_1).f1))∧w'.cell? ⟨(ad148.add ((x4_1).toNat * 4)).block,(ad148.add ((x4_1).toNat * 4)).off+2,none⟩=some (.int .i64 ((ja l0 x4_1).f2))∧w'.cell? ⟨(ad148.add ((x4_1).toNat * 4)).block,(ad148.add ((x4_1).toNat * 4)).off+3,none⟩=some (.int .i64 ((ja l0 x4_1).f3))) (ds:=[]) #[false,false,false,false,false,false,false,false,false,false,false,false,false,false,false,false,false] (by kernel_rfl) rfl rfl ⟨((HB.out.cell (World.block_lt_of_cell? w _ hw148_0)).trans hw148_0),((HB.out.cell (World.block_lt_of_cell? w _ hw148_1)).trans hw148_1),((HB.out.cell (World.block_lt_of_cell? w _ hw148_2)).trans hw148_2),((HB.out.cell (World.block_lt_of_cell? w _ hw148_3)).trans hw148_3)⟩ (fun hHeld=>?_);refine jPa jS.tab5 jS.bits5 (fun HT_ HW_=>?_)
        generalize wr.drew=w12 at HO_3 HB hx148_0 hx148_1 hx148_2 hx148_3 hHeld ⊢
        refine pq (i:=0) (N:=some 13) #[true,false,false,false,false,false,false,false,false,false,false,false,false,false,false,false,false] ?_
        refine pq (i:=1) (N:=some 14) #[true,true,false,false,false,false,false,false,false,false,false,false,false,false,false,false,false] ?_
        refine pq (i:=2) (N:=some 15) #[true,true,true,false,false,false,false,false,false,false,false,false,false,false,false,false,false] ?_
        refine pq (i:=3) (N:=some 16) #[true,true,true,true,false,false,false,false,false,false,false,false,false,false,false,false,false] ?_
        refine pq (i:=4) (N:=some 17) #[true,true,true,true,true,false,false,false,false,false,false,false,false,false,false,false,false] ?_
        refine pq (i:=7) (N:=some 20) #[true,true,true,true,true,false,false,true,false,false,false,false,false,false,false,false,false] ?_
        refine pq (i:=8) (N:=some 21) #[true,true,true,true,true,false,false,true,true,false,false,false,false,false,false,false,false] ?_
        refine pq (i:=9) (N:=some 22) #[true,true,true,true,true,false,false,true,true,true,false,false,false,false,false,false,false] ?_
        refine pq (i:=10) (N:=some 23) #[true,true,true,true,true,false,false,true,true,true,true,false,false,false,false,false,false] ?_
        refine jgb (i:=11) (N:=some 24) (v:=?_) (a':=?_) #[true,true,true,true,true,false,false,true,true,true,true,true,false,false,false,false,false] rfl rfl (jza HT_.out HW_.out (by kernel_rfl)) (fun _ _ _ h=>h) (Or.inl ⟨by rfl,?_⟩) hHeld ?_ ?_
        rotate_left
        ·rintro w' ⟨s0,s1,s2,s3⟩
         go_simp
         with_reducible rfl
        rotate_left
        ·exact sa
        refine pq (i:=12) (N:=some 25) #[true,true,true,true,true,false,false,true,true,true,true,true,true,false,false,false,false] ?_
        refine one_ (i:=5) (N:=some 18) #[true,true,true,true,true,true,false,true,true,true,true,true,true,false,false,false,false] rfl rfl (one_of HT_.out (by kernel_rfl)) (by decide) (fun K hK=>?_)
        refine goes_ Tryd.func24 (by kernel_rfl) rfl #[.slice (some ad148) l0.length c0, .int .i64 x4_1] (by rfl) rfl rfl (aq) ?_
        with_reducible refine (jK.calls k1 _ _ l0 x4_1 t143 _ ?side1 ?side2 A5.out).mono ?_
        (case side1=>exact cq (Kd.jG HR0.out HB.out))
        (case side2=>exact HC0.out)
        rintro e w' ⟨rfl,⟨nd,rfl⟩⟩
        refine ⟨_,rfl,?_⟩
        have q13:(t143:Int)≤((l0.length:Int):Int):=ozD (uq)
        obtain ⟨i013,hi013,_,hsz13,_⟩:=info_parts info42
        have hroom13:l0.length≤c0:=HC0.out
        have hC13:Kd.C k42 _ (some ad148) l0.length l0:=HR0.out
        have ql13:(x4_1:Int)≤(t143:Int):=ozD (uq)
        have q013:(0:Int)≤(x4_1:Int):=ozD (uq)
        have hcut13:=cut_mid (P:=Tryd.prog) 33 42 .i64 .i64 Tryd.underlying33 hi013 4 hsz13 (some ad148) l0.length c0 x4_1 t143 q013 ql13 q13 hroom13
        have hr13:=Kd.C_mid (lo:=(x4_1:Int).toNat) (hi:=(t143:Int).toNat) (c:=c0) hC13 (by omega) (by omega) hroom13
        obtain ⟨A13,hA13⟩:∃ A1,A1=(if c0=(x4_1:Int).toNat then (some ad148) else ((some ad148):Option Addr).map (·.add ((x4_1:Int).toNat * 4))):=⟨_,rfl⟩
        obtain ⟨c13,hc13⟩:∃ c1,c1=c0 - (x4_1:Int).toNat:=⟨_,rfl⟩
        have hy13:y144.length=(t143:Int).toNat - (x4_1:Int).toNat:=(by rw [Ny144.out,List.length_drop,List.length_take] <;> omega)
        rw [show ((l0).take (t143:Int).toNat).drop (x4_1:Int).toNat=y144 from Ny144.out.symm] at hr13
        replace hr13:Kd.C k42 _ A13 y144.length y144:=(by rw [hA13];exact hr13)
        rw [← hy13,← hA13,← hc13] at hcut13
        have HR147:=am hr13
        have HC147:=am (show y144.length≤c13 from by rw [hy13,hc13];exact Nat.sub_le_sub_right (Nat.le_trans (by omega) hroom13) _)
        clear hr13 hC13 hroom13 hi013 hsz13 hc13
        have KY13:=am hy13
        have KA13:=am hA13
        clear hy13 hA13
        replace q13:=ezT q13
        refine hK.out _ _ ⟨((HB.out.cell (World.block_lt_of_cell? w _ hw148_0)).trans hw148_0),((HB.out.cell (World.block_lt_of_cell? w _ hw148_1)).trans hw148_1),((HB.out.cell (World.block_lt_of_cell? w _ hw148_2)).trans hw148_2),((HB.out.cell (World.block_lt_of_cell? w _ hw148_3)).trans hw148_3)⟩ (fun hHeld=>?_)
        clear hK K
        refine norm_ (a':=?_) ?_ ?_
        rotate_left
        ·show Act.put _ (some 18) _=_
         simp only [Act.put,List.setIfInBounds_toArray,List.set_cons_zero,List.set_cons_succ,jRa,jYa]
         rfl
        refine pq (i:=6) (N:=some 19) #[true,true,true,true,true,true,true,true,true,true,true,true,true,false,false,false,false] ?_
        refine one_ (i:=13) (N:=some 26) #[true,true,true,true,true,true,true,true,true,true,true,true,true,true,false,false,false] rfl rfl (one_of HT_.out (by kernel_rfl)) (by decide) (fun K hK=>?_)
        refine goes_ Tryd.func39 (by kernel_rfl) rfl #[.slice A13 y144.length c13, .int .i64 (wrap64 (-((ja l0 x4_1).f0)))] (by rfl) rfl rfl (aq) ?_
        with_reducible refine (jea.calls k1 _ _ y144 (wrap64 (-((ja l0 x4_1).f0))) t149 _ ?side1 ?side2 A9.out).mono ?_
        (case side1=>exact cq (Kd.jG HR147.out (bq)))
        (case side2=>exact HC147.out)
        rintro e w14 ⟨v150,rfl,ho0,hb⟩
        refine ⟨_,rfl,?_⟩
        have HO151:=am (Kd.jMa ho0 (jL (bq)))
        replace HO_3:=am (Kd.S_elder' (by (with_reducible repeat (first | apply Kd.jIa | apply Kd.jHa | apply Kd.jOa));exact HO_3.out) (Kd.R_base ho0) hb)
        replace HB:=am (jd (bq) hb)
        (try clear hb)
        (try clear hb2)
        (try clear hk)
        (try clear hi)
        (try clear ho0)
        obtain ⟨Ao16,co16,eo16⟩:=Kd.jVa HO151.out
        (first | subst eo16 |(injection eo16 with f1_ f2_ f3_;have f4_:=f1_.symm;have f5_:=f3_.symm;clear f1_ f2_ f3_;subst f4_;subst f5_))
        refine hK.out _ _ ⟨((HB.out.cell (World.block_lt_of_cell? w _ hw148_0)).trans hw148_0),((HB.out.cell (World.block_lt_of_cell? w _ hw148_1)).trans hw148_1),((HB.out.cell (World.block_lt_of_cell? w _ hw148_2)).trans hw148_2),((HB.out.cell (World.block_lt_of_cell? w _ hw148_3)).trans hw148_3)⟩ (fun hHeld=>?_)
        clear hK K
        refine norm_ (a':=?_) ?_ ?_
        rotate_left
        ·show Act.put _ (some 26) _=_
         simp only [Act.put,List.setIfInBounds_toArray,List.set_cons_zero,List.set_cons_succ,jRa,jYa]
         rfl
        refine one_ (i:=14) (N:=some 27) #[true,true,true,true,true,true,true,true,true,true,true,true,true,true,true,false,false] rfl rfl (one_of HT_.out (by kernel_rfl)) (by decide) (fun K hK=>?_)
        refine value_ (w1:=?_) (v:=?_) (by rfl) rfl ?_ ?_
        rotate_left 2
        ·go_simp
         constructor
         ·rfl
         ·rfl
        refine hK.out _ _ ⟨(World.cell?_alloc_lt _ _ _ (World.block_lt_of_cell? _ _ (((HB.out.cell (World.block_lt_of_cell? w _ hw148_0)).trans hw148_0)))).trans (((HB.out.cell (World.block_lt_of_cell? w _ hw148_0)).trans hw148_0)),(World.cell?_alloc_lt _ _ _ (World.block_lt_of_cell? _ _ (((HB.out.cell (World.block_lt_of_cell? w _ hw148_1)).trans hw148_1)))).trans (((HB.out.cell (World.block_lt_of_cell? w _ hw148_1)).trans hw148_1)),(World.cell?_alloc_lt _ _ _ (World.block_lt_of_cell? _ _ (((HB.out.cell (World.block_lt_of_cell? w _ hw148_2)).trans hw148_2)))).trans (((HB.out.cell (World.block_lt_of_cell? w _ hw148_2)).trans hw148_2)),(World.cell?_alloc_lt _ _ _ (World.block_lt_of_cell? _ _ (((HB.out.cell (World.block_lt_of_cell? w _ hw148_3)).trans hw148_3)))).trans (((HB.out.cell (World.block_lt_of_cell? w _ hw148_3)).trans hw148_3))⟩ (fun hHeld=>?_)
        clear hK K
        refine norm_ (a':=?_) ?_ ?_
        rotate_left
        ·show Act.put _ (some 27) _=_
         simp only [Act.put,List.setIfInBounds_toArray,List.set_cons_zero,List.set_cons_succ,jRa,jYa]
         rfl
        refine one_ (i:=15) (N:=some 28) #[true,true,true,true,true,true,true,true,true,true,true,true,true,true,true,true,false] rfl rfl (one_of HT_.out (by kernel_rfl)) (by decide) (fun K hK=>?_)
        refine Kd.S_append_step (Kd.slice 42 k42) (w0:=w) w.heap.size (by rfl) (.tmp 13) (.tmp 27) 57 33 (.slice none 0 0) 24 rfl Tryd.underlying57 info33 rfl (by decide) (by omega) u3 x3_1 t149 [.slice Ao16 t149.length co16] (fun _=>True) (fun k_=>some k_=(.slice Ao16 t149.length co16:Value).ownBlock) rfl rfl ?aP (fun k_ hk_=>((Kd.jFa (ok':=fun k_=>((fun _=>True)) k_∧some k_≠(u3:Value).ownBlock) (Kd.R_apart' (HO151.out) (Kd.S_typed HO_3.out) (by decide)) (fun k_ hk=>⟨trivial,hk.2⟩))).1 k_ hk_.symm) ?aF ?aO ?aB ?aS ?aL ?_
        (case aP=>exact Kd.M_row (Kd.jFa (Kd.R_tight rfl (Kd.jFa (ok':=fun k_=>((fun _=>True)) k_∧some k_≠(u3:Value).ownBlock) (Kd.R_apart' (HO151.out) (Kd.S_typed HO_3.out) (by decide)) (fun k_ hk=>⟨trivial,hk.2⟩))) (fun _ h_=>h_)))
        (case aB=>exact (bq))
        (case aF=>exact (fun _ _=>trivial))
        (case aO=>exact (Y47))
        (case aS=>exact (jL (bq)))
        (case aL=>have:=LMc10.out;omega)
        intro v153 w15 ho hb hg hat
        rw [← Ny152.out] at ho
        have n0_:=am (hb)
        have n1_:=am (ho)
        clear HB
        clear HO_3
        clear HO151
        have HB:=n0_
        have HO154:=n1_
        clear n0_ n1_
        clear ho hb hg hat
        refine hK.out _ _ ⟨((HB.out.cell (World.block_lt_of_cell? w _ hw148_0)).trans hw148_0),((HB.out.cell (World.block_lt_of_cell? w _ hw148_1)).trans hw148_1),((HB.out.cell (World.block_lt_of_cell? w _ hw148_2)).trans hw148_2),((HB.out.cell (World.block_lt_of_cell? w _ hw148_3)).trans hw148_3)⟩ (fun hHeld=>?_)
        clear hK K
        refine norm_ (a':=?_) ?_ ?_
        rotate_left
        ·show Act.put _ (some 28) _=_
         simp only [Act.put,List.setIfInBounds_toArray,List.set_cons_zero,List.set_cons_succ,jRa,jYa]
         rfl
        refine pq (i:=16) (N:=some 3) #[true,true,true,true,true,true,true,true,true,true,true,true,true,true,true,true,true] ?_
        refine done_ (jsb HT_.out (by kernel_rfl)) ?_
        try go_wp2_with (first |((with_reducible refine jC (f:=24) rfl ?_);refine gL (some 12) Tryd.func24 #[.slice (some ad148) l0.length c0, .int .i64 x4_1] ?_;(with_reducible refine (jK.calls k1 _ _ l0 x4_1 t155 _ ?side1 ?side2 A11.out).mono ?_);(case side1=>exact cq (Kd.jG HR0.out HB.out));(case side2=>exact HC0.out);rintro e w' ⟨rfl,⟨nd,rfl⟩⟩;refine ⟨_,rfl,?_⟩))
        go_roundg k1
        case measure=>have:=HK1.out;omega
        case rel=>exact ⟨(y152),(t155),(sq),H',⟨by have:=HK1.out;omega⟩,⟨by (with_reducible repeat (first | apply Kd.jIa | apply Kd.jHa | apply Kd.jOa));exact HO154.out⟩,⟨bq⟩⟩
       ·rw [if_neg c10] at H
        exact absurd H (by simp)
      ·rw [if_neg c8] at H
       exact absurd H (by simp)
     ·rw [if_neg c7] at H
      exact absurd H (by simp)
    ·rw [if_neg c6] at H
     exact absurd H (by simp)
   ·rw [if_neg c4] at H
    have c4b0:decide (x4_1<(l0.length:Int))=false:=dzF c4
    clear c4
    obtain rfl:=Option.some.inj H
    go_wp2
    go_ret
    exact ⟨_,Y1,by (with_reducible repeat (first | apply Kd.jIa | apply Kd.jHa | apply Kd.jOa));exact HO_3.out,bq⟩
end Go.Proofs.YtpfaohdpnegjnaaDoor.P
end
