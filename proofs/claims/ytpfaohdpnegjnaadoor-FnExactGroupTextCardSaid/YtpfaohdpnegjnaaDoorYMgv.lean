/- One part of the proofs on this program: functions of the program as plain functions, that the code comes to them, and facts on them. -/
import Derived.Test.YtpfaohdpnegjnaaDoorYAll1
import Derived.Test.YtpfaohdpnegjnaaDoorYAll2
import Derived.Test.YtpfaohdpnegjnaaDoorYAll3
import Derived.Test.YtpfaohdpnegjnaaDoorYAll4
import Derived.Test.YtpfaohdpnegjnaaDoorYMt
section
set_option linter.unusedSimpArgs false
set_option linter.unusedVariables false
namespace Go.Proofs.YtpfaohdpnegjnaaDoor.Pure
open Go Go.RowKit Go.Proofs.YtpfaohdpnegjnaaDoor.P Go.Proofs.YtpfaohdpnegjnaaDoorW.PrintWords
set_option linter.unusedVariables false
abbrev Pt := S42
def gd (g : List Pt) (i : Nat) : Int := (g.getD i z42).f0
def gg (g : List Pt) (i : Nat) : Bool := (g.getD i z42).f1
def gc (g : List Pt) (i : Nat) : Int := (g.getD i z42).f2
def gk (g : List Pt) (i : Nat) : Int := (g.getD i z42).f3
theorem g0 (g : List Pt) (i : Nat) : (ja g (i : Int)).f0 = gd g i := rfl
theorem g1 (g : List Pt) (i : Nat) : (ja g (i : Int)).f1 = gg g i := rfl
theorem g2 (g : List Pt) (i : Nat) : (ja g (i : Int)).f2 = gc g i := rfl
theorem g3 (g : List Pt) (i : Nat) : (ja g (i : Int)).f3 = gk g i := rfl
def enN (g : List Pt) (i : Nat) : Nat → Nat → Nat
 | 0,k=>k
 | n+1,k=>if k<g.length then (if gd g k > gd g i then enN g i n (k+1) else k) else k
def eN (g : List Pt) (i : Nat) : Nat := enN g i g.length (i + 1)
theorem enN_ge (g : List Pt) (i : Nat) : ∀ (n k : Nat), k ≤ enN g i n k
 | 0,k=>Nat.le_refl _
 | n+1,k=>by
  rw [enN]
  split
  ·split
   ·have:=enN_ge g i n (k+1);omega
   ·omega
  ·omega
theorem enN_le (g : List Pt) (i : Nat) : ∀ (n k : Nat), k ≤ g.length → enN g i n k ≤ g.length
 | 0,k,h=>h
 | n+1,k,h=>by
  rw [enN]
  split
  ·split
   ·exact enN_le g i n (k+1) (by omega)
   ·omega
  ·omega
theorem enN_in (g : List Pt) (i : Nat) : ∀ (n k j : Nat), k ≤ j → j < enN g i n k → gd g i < gd g j
 | 0,k,j,h1,h2=>by rw [enN] at h2;omega
 | n+1,k,j,h1,h2=>by
  rw [enN] at h2
  split at h2
  ·split at h2
   ·rename_i hd
    by_cases e:j=k
    ·rw [e];exact hd
    ·exact enN_in g i n (k+1) j (by omega) h2
   ·omega
  ·omega
theorem enN_end (g : List Pt) (i : Nat) : ∀ (n k : Nat), g.length ≤ n + k → enN g i n k < g.length → gd g (enN g i n k) ≤ gd g i
 | 0,k,h1,h2=>by rw [enN] at h2;omega
 | n+1,k,h1,h2=>by
  rw [enN] at h2 ⊢
  split
  ·rename_i hk
   rw [if_pos hk] at h2
   split
   ·rename_i hd
    rw [if_pos hd] at h2
    exact enN_end g i n (k+1) (by omega) h2
   ·omega
  ·rename_i hk
   rw [if_neg hk] at h2;omega
theorem eN_gt (g : List Pt) (i : Nat) : i < eN g i := by have := enN_ge g i g.length (i + 1); unfold eN; omega
theorem eN_le {g : List Pt} {i : Nat} (h : i < g.length) : eN g i ≤ g.length := enN_le g i g.length (i + 1) (by omega)
theorem eN_in {g : List Pt} {i j : Nat} (h1 : i < j) (h2 : j < eN g i) : gd g i < gd g j := enN_in g i g.length (i + 1) j (by omega) h2
theorem eN_end {g : List Pt} {i : Nat} (h : eN g i < g.length) : gd g (eN g i) ≤ gd g i := enN_end g i g.length (i + 1) (by omega) h
theorem eN_next {g : List Pt} {i : Nat} (h : i < g.length) : eN g i = i + 1 ↔ ¬ (i + 1 < g.length ∧ gd g (i + 1) > gd g i) := by
 constructor
 ·rintro e ⟨h1,h2⟩
  have:=eN_end (g:=g) (i:=i) (by omega)
  rw [e] at this;omega
 ·intro hn
  have h1:=eN_gt g i
  have h2:=eN_le h
  rcases Nat.lt_or_ge (i+1) (eN g i) with c | c
  ·exact absurd ⟨by omega,eN_in (by omega) c⟩ hn
  ·omega
theorem ev_enN {g : List Pt} {f : Nat → Int → Option Int} (hn : g.length ≤ 1048576) {i : Nat} (hi : i < g.length) (hf : ∀ k (x : Nat), f (k + 1) x = if (x : Int) < (g.length : Int) then (if 0 ≤ (x : Int) then (if 0 ≤ (i : Int) then (if (i : Int) < (g.length : Int) then (if (ja g (x : Int)).f0 > (ja g (i : Int)).f0 then f k (wrap64 ((x : Int) + 1)) else some (x : Int)) else none) else none) else none) else some (x : Int)) :
  ∀ (n k:Nat),g.length≤n+k→k≤g.length→Ev (fun r=>f r (k:Int)) ((enN g i n k:Nat):Int)
 | 0,k,h,h2=>by
  refine Ev.step (fun r=>hf r k) ?_
  rw [enN]
  exact Ev.neg (by omega) (Ev.now _)
 | n+1,k,h,h2=>by
  refine Ev.step (fun r=>hf r k) ?_
  rw [enN,g0,g0]
  by_cases c:k<g.length
  ·rw [if_pos c]
   refine Ev.pos (by omega) (Ev.pos (by omega) (Ev.pos (by omega) (Ev.pos (by omega) ?_)))
   by_cases d:gd g k > gd g i
   ·rw [if_pos d,wS (by omega)]
    exact Ev.pos d (ev_enN hn hi hf n (k+1) (by omega) (by omega))
   ·rw [if_neg d];exact Ev.neg d (Ev.now _)
  ·rw [if_neg c];exact Ev.neg (by omega) (Ev.now _)
theorem ev_sEnd {g : List Pt} (hn : g.length ≤ 1048576) {i : Nat} (hi : i < g.length) : Ev (fun k => jK.f k g i) ((eN g i : Nat) : Int) := by
 unfold jK.f
 rw [wS (by omega)]
 exact ev_enN (f:=fun k x=>jK.l0 k g i x) hn hi (fun k x=>by rw [jK.l0]) g.length (i+1) (by omega) (by omega)
theorem ev_iEnd {g : List Pt} (hn : g.length ≤ 1048576) {i : Nat} (hi : i < g.length) : Ev (fun k => jxa.f k g i) ((eN g i : Nat) : Int) := by
 unfold jxa.f
 rw [wS (by omega)]
 exact ev_enN (f:=fun k x=>jxa.l0 k g i x) hn hi (fun k x=>by rw [jxa.l0]) g.length (i+1) (by omega) (by omega)
def below (g : List Pt) (i : Nat) : Prop := i + 1 < g.length ∧ gd g (i + 1) > gd g i
def PtOk (t : List Cl) (g : List Pt) (i : Nat) : Prop :=
 bw (gk g i) 0 99=true∧bw (gd g i) 0 5=true∧(gd g i=0 ↔ i=0)∧(0<i→gd g i≤gd g (i - 1)∨(gg g (i - 1)=true∧gd g i=gd g (i - 1)+1))∧(gg g i=true→gc g i=0∧below g i)∧(gg g i=false→hasB t (gc g i)=true)
def GrP (t : List Cl) (g : List Pt) : Prop := treeB t = true ∧ (∀ i, i < g.length → PtOk t g i) ∧ 1 ≤ g.length ∧ g.length ≤ 16
noncomputable def gvB (t : List Cl) (g : List Pt) : Bool := @decide (GrP t g) (Classical.propDecidable _)
theorem gvB_iff {t : List Cl} {g : List Pt} : gvB t g = true ↔ GrP t g := by simp [gvB]
theorem gzero (a : Int) (i : Nat) : ((a == 0) != ((i : Int) == 0)) = true ↔ ¬ (a = 0 ↔ i = 0) := by
 have e2:((i:Int) == 0)=decide (i=0):=by rw [eqd,decide_eq_decide];omega
 rw [eqd a 0,e2]
 by_cases h:a=0 <;> by_cases k:i=0 <;> simp [h,k]
theorem ev_sVG {t : List Cl} {g : List Pt} (ht : TS t) (hn : g.length ≤ 1048576) : ∀ (n i : Nat), n + i = g.length → (∀ j, j < i → PtOk t g j) → ∃ b, Ev (fun k => jc.l0 k g i t) b ∧ (b = true ↔ GrP t g)
 | 0,i,e,hd=>by
  refine ⟨treeB t && bw (g.length:Int) 1 16,?_,?_⟩
  ·refine Ev.step (fun k=>by rw [jc.l0]) ?_
   rw [iR (g.length:Int) 1 16]
   refine Ev.neg (by omega) (Ev.bind (ev_validTree ht) ?_)
   cases treeB t with
   | true=>exact Ev.pos rfl (Ev.bind (Ev.now _) (Ev.now _))
   | false=>exact Ev.neg (by simp) (Ev.now _)
  ·unfold GrP
   rw [Bool.and_eq_true,bw_iff]
   exact ⟨fun ⟨a,b⟩=>⟨a,fun j hj=>hd j (by omega),by omega,by omega⟩,fun ⟨a,_,b,c⟩=>⟨a,by omega,by omega⟩⟩
 | n+1,i,e,hd=>by
  have hi:i<g.length:=by omega
  have bad:∀ {f:Nat→Option Bool},Ev f false→¬ PtOk t g i→∃ b,Ev f b∧(b=true ↔ GrP t g):=fun hf hno=>⟨false,hf,by simp;exact fun h=>hno (h.2.1 i hi)⟩
  have j2:∀ q:Bool,(q=true ↔ ¬ PtOk t g i)→∃ b,Ev (fun k=>jc.j2 k g i q t) b∧(b=true ↔ GrP t g):=by
   intro q hq
   cases q with
   | true=>exact bad (Ev.step (fun k=>by rw [jc.j2]) (Ev.pos rfl (Ev.now _))) (hq.mp rfl)
   | false =>
    have hok:PtOk t g i:=Classical.byContradiction fun h=>by have:=hq.mpr h;cases this
    obtain ⟨b,h1,h2⟩:=ev_sVG ht hn n (i+1) (by omega) (fun j hj=>by
     rcases Nat.lt_or_ge j i with c | c
     ·exact hd j c
     ·rw [show j=i by omega];exact hok)
    refine ⟨b,?_,h2⟩
    refine Ev.step (fun k=>by rw [jc.j2]) ?_
    rw [wS (by omega)]
    exact Ev.neg (by simp) h1
  have end_:(bw (gk g i) 0 99=true)→(bw (gd g i) 0 5=true)→(gd g i=0 ↔ i=0)→(0<i→gd g i≤gd g (i - 1)∨(gg g (i - 1)=true∧gd g i=gd g (i - 1)+1))→(gg g i=true→gc g i=0)→(gg g i=false→hasB t (gc g i)=true) →
    ∃ b,Ev (fun k=>if gg g i=true then ((jK.f k g i).bind fun t122=>(jc.j2 k g i (t122 == (wrap64 ((i:Int)+1))) t)) else (jc.j2 k g i false t)) b∧(b=true ↔ GrP t g):=by
   intro a1 a2 a3 a4 a5 a6
   by_cases hg:gg g i=true
   ·obtain ⟨b,h1,h2⟩:=j2 (((eN g i:Nat):Int) == (((i+1:Nat):Int))) (by
     rw [beq_iff_eq]
     constructor
     ·intro hh hok
      exact (eN_next hi).mp (by omega) (hok.2.2.2.2.1 hg).2
     ·intro hno
      have:eN g i=i+1:=(eN_next hi).mpr fun hb=>hno ⟨a1,a2,a3,a4,fun _=>⟨a5 hg,hb⟩,a6⟩
      omega)
    refine ⟨b,Ev.pos hg (Ev.bind (ev_sEnd hn hi) ?_),h2⟩
    rw [wS (by omega)]
    exact h1
   ·obtain ⟨b,h1,h2⟩:=j2 false (by
     simp only [Bool.false_eq_true,false_iff,Classical.not_not]
     exact ⟨a1,a2,a3,a4,fun h=>absurd h hg,a6⟩)
    exact ⟨b,Ev.neg hg h1,h2⟩
  have j1:∀ q:Bool,(bw (gk g i) 0 99=true)→(bw (gd g i) 0 5=true)→(gg g i=true→gc g i=0)→(gg g i=false→hasB t (gc g i)=true)→(q=true ↔ ¬ (gd g i=0 ↔ i=0)) →
    ∃ b,Ev (fun k=>jc.j1 k g i q t (gd g i) (gg g i) (gc g i) (gk g i)) b∧(b=true ↔ GrP t g):=by
   intro q a1 a2 a5 a6 hq
   cases q with
   | true=>exact bad (Ev.step (fun k=>by rw [jc.j1]) (Ev.pos rfl (Ev.now _))) (fun h=>hq.mp rfl h.2.2.1)
   | false =>
    have a3:gd g i=0 ↔ i=0:=Classical.byContradiction fun h=>by have:=hq.mpr h;cases this
    by_cases h0:i=0
    ·obtain ⟨b,h1,h2⟩:=end_ a1 a2 a3 (fun h=>by omega) a5 a6
     refine ⟨b,Ev.step (fun k=>by rw [jc.j1]) (Ev.neg (by simp) (Ev.neg (by omega) h1)),h2⟩
    ·obtain ⟨m,rfl⟩:∃ m,i=m+1:=⟨i - 1,by omega⟩
     have hpm:=hd m (by omega)
     have hbm:=bw_iff.mp hpm.2.1
     have go:∀ {f:Nat→Option Bool},(∃ b,Ev f b∧(b=true ↔ GrP t g))→(∀ k,jc.j1 (k+1) g ((m+1:Nat):Int) false t (gd g (m+1)) (gg g (m+1)) (gc g (m+1)) (gk g (m+1))=f k)→∃ b,Ev (fun k=>jc.j1 k g ((m+1:Nat):Int) false t (gd g (m+1)) (gg g (m+1)) (gc g (m+1)) (gk g (m+1))) b∧(b=true ↔ GrP t g):=fun ⟨b,h1,h2⟩ he=>⟨b,Ev.step he h1,h2⟩
     refine go ?_ (fun k=>by rw [jc.j1])
     rw [wP (by omega),g0,g1,wr (x:=gd g m+1) (by omega)]
     have hm1:((m:Nat):Int)<(g.length:Int):=by omega
     by_cases c1:gd g (m+1) > gd g m+1
     ·obtain ⟨b,h1,h2⟩:=j2 true (by
       simp only [true_iff]
       intro hok
       rcases hok.2.2.2.1 (by omega) with h | h
       ·simp only [Nat.add_sub_cancel] at h;omega
       ·simp only [Nat.add_sub_cancel] at h;omega)
      exact ⟨b,Ev.neg (by simp) (Ev.pos (by omega) (Ev.pos (by omega) (Ev.pos hm1 (Ev.pos c1 h1)))),h2⟩
     ·by_cases c2:gd g (m+1) > gd g m
      ·by_cases c3:gg g m=true
       ·obtain ⟨b,h1,h2⟩:=end_ a1 a2 a3 (fun _=>.inr ⟨by simpa using c3,by simp only [Nat.add_sub_cancel];omega⟩) a5 a6
        exact ⟨b,Ev.neg (by simp) (Ev.pos (by omega) (Ev.pos (by omega) (Ev.pos hm1 (Ev.neg c1 (Ev.pos c2 (Ev.pos c3 h1)))))),h2⟩
       ·obtain ⟨b,h1,h2⟩:=j2 true (by
         simp only [true_iff]
         intro hok
         rcases hok.2.2.2.1 (by omega) with h | h
         ·simp only [Nat.add_sub_cancel] at h;omega
         ·simp only [Nat.add_sub_cancel] at h;exact c3 h.1)
        exact ⟨b,Ev.neg (by simp) (Ev.pos (by omega) (Ev.pos (by omega) (Ev.pos hm1 (Ev.neg c1 (Ev.pos c2 (Ev.neg c3 h1)))))),h2⟩
      ·obtain ⟨b,h1,h2⟩:=end_ a1 a2 a3 (fun _=>.inl (by simp only [Nat.add_sub_cancel];omega)) a5 a6
       exact ⟨b,Ev.neg (by simp) (Ev.pos (by omega) (Ev.pos (by omega) (Ev.pos hm1 (Ev.neg c1 (Ev.neg c2 h1))))),h2⟩
  have jbad:∀ {r:Nat},Ev (fun k=>jc.j1 k g i true t (gd g i) (gg g i) (gc g i) (gk g i)) false:=Ev.step (fun k=>by rw [jc.j1]) (Ev.pos rfl (Ev.now _))
  have go:∀ {f:Nat→Option Bool},(∃ b,Ev f b∧(b=true ↔ GrP t g))→(∀ k,jc.l0 (k+1) g i t=f k)→∃ b,Ev (fun k=>jc.l0 k g i t) b∧(b=true ↔ GrP t g):=fun ⟨b,h1,h2⟩ he=>⟨b,Ev.step he h1,h2⟩
  refine go ?_ (fun k=>by rw [jc.l0])
  rw [g0,g1,g2,g3,iR (gk g i) 0 99,iR (gd g i) 0 5,sHas ht.1]
  by_cases a1:bw (gk g i) 0 99=true
  ·by_cases a2:bw (gd g i) 0 5=true
   ·by_cases hg:gg g i=true
    ·by_cases a5:gc g i=0
     ·obtain ⟨b,h1,h2⟩:=j1 _ a1 a2 (fun _=>a5) (fun h=>by rw [hg] at h;cases h) (gzero (gd g i) i)
      exact ⟨b,Ev.pos (by omega) (Ev.pos (by omega) (Ev.bind (Ev.now _) (Ev.pos a1 (Ev.bind (Ev.now _) (Ev.pos a2 (Ev.pos hg (Ev.pos a5 (Ev.pos hg h1)))))))),h2⟩
     ·obtain ⟨b,h1,h2⟩:=bad (jbad (r:=0)) (fun h=>a5 (h.2.2.2.2.1 hg).1)
      exact ⟨b,Ev.pos (by omega) (Ev.pos (by omega) (Ev.bind (Ev.now _) (Ev.pos a1 (Ev.bind (Ev.now _) (Ev.pos a2 (Ev.pos hg (Ev.neg a5 h1))))))),h2⟩
    ·by_cases a6:hasB t (gc g i)=true
     ·obtain ⟨b,h1,h2⟩:=j1 _ a1 a2 (fun h=>absurd h hg) (fun _=>a6) (gzero (gd g i) i)
      exact ⟨b,Ev.pos (by omega) (Ev.pos (by omega) (Ev.bind (Ev.now _) (Ev.pos a1 (Ev.bind (Ev.now _) (Ev.pos a2 (Ev.neg hg (Ev.neg hg (Ev.bind (Ev.now _) (Ev.pos a6 h1))))))))),h2⟩
     ·obtain ⟨b,h1,h2⟩:=bad (jbad (r:=0)) (fun h=>a6 (h.2.2.2.2.2 (by simpa using hg)))
      exact ⟨b,Ev.pos (by omega) (Ev.pos (by omega) (Ev.bind (Ev.now _) (Ev.pos a1 (Ev.bind (Ev.now _) (Ev.pos a2 (Ev.neg hg (Ev.neg hg (Ev.bind (Ev.now _) (Ev.neg a6 h1))))))))),h2⟩
   ·obtain ⟨b,h1,h2⟩:=bad (jbad (r:=0)) (fun h=>a2 h.2.1)
    exact ⟨b,Ev.pos (by omega) (Ev.pos (by omega) (Ev.bind (Ev.now _) (Ev.pos a1 (Ev.bind (Ev.now _) (Ev.neg a2 h1))))),h2⟩
  ·obtain ⟨b,h1,h2⟩:=bad (jbad (r:=0)) (fun h=>a1 h.1)
   exact ⟨b,Ev.pos (by omega) (Ev.pos (by omega) (Ev.bind (Ev.now _) (Ev.neg a1 h1))),h2⟩
theorem ev_validGroup {t : List Cl} {g : List Pt} (ht : TS t) (hn : g.length ≤ 1048576) : Ev (fun k => jc.f k t g) (gvB t g) := by
 obtain ⟨b,h1,h2⟩:=ev_sVG ht hn g.length 0 (by omega) (fun j hj=>by omega)
 have:gvB t g=b:=by rw [Bool.eq_iff_iff,gvB_iff,h2]
 rw [this];exact h1
def PaP (t : List Cl) (g : List Pt) : Prop := (∀ i, i < g.length → PtOk t g i) ∧ 1 ≤ g.length ∧ g.length ≤ 16
theorem iCo (a : Int) : jua.f a = some (bw a 0 99) := by unfold jua.f; rw [iW]; rfl
theorem ev_iPO {t : List Cl} {g : List Pt} (ht : TS t) (hn : g.length ≤ 1048576) : ∀ (n i : Nat), n + i = g.length → (∀ j, j < i → PtOk t g j) → ∃ b, Ev (fun k => je.l0 k g g (g.length : Int) i t) b ∧ (b = true ↔ PaP t g)
 | 0,i,e,hd=>by
  refine ⟨bw (g.length:Int) 1 16,?_,?_⟩
  ·refine Ev.step (fun k=>by rw [je.l0]) ?_
   rw [iW (g.length:Int) 1 16]
   exact Ev.neg (by omega) (Ev.bind (Ev.now _) (Ev.now _))
  ·unfold PaP
   rw [bw_iff]
   exact ⟨fun b=>⟨fun j hj=>hd j (by omega),by omega,by omega⟩,fun ⟨_,b,c⟩=>⟨by omega,by omega⟩⟩
 | n+1,i,e,hd=>by
  have hi:i<g.length:=by omega
  have bad:∀ {f:Nat→Option Bool},Ev f false→¬ PtOk t g i→∃ b,Ev f b∧(b=true ↔ PaP t g):=fun hf hno=>⟨false,hf,by simp;exact fun h=>hno (h.1 i hi)⟩
  have next:PtOk t g i→∃ b,Ev (fun k=>je.l0 k g g (g.length:Int) ((i+1:Nat):Int) t) b∧(b=true ↔ PaP t g):=fun hok=>ev_iPO ht hn n (i+1) (by omega) (fun j hj=>by
   rcases Nat.lt_or_ge j i with c | c
   ·exact hd j c
   ·rw [show j=i by omega];exact hok)
  have j3:∀ q:Bool,(q=true ↔ ¬ PtOk t g i)→∃ b,Ev (fun k=>je.j3 k g g (g.length:Int) i q t) b∧(b=true ↔ PaP t g):=by
   intro q hq
   cases q with
   | true=>exact bad (Ev.step (fun k=>by rw [je.j3]) (Ev.pos rfl (Ev.now _))) (hq.mp rfl)
   | false =>
    obtain ⟨b,h1,h2⟩:=next (Classical.byContradiction fun h=>by have:=hq.mpr h;cases this)
    refine ⟨b,?_,h2⟩
    refine Ev.step (fun k=>by rw [je.j3]) ?_
    rw [wS (by omega)]
    exact Ev.neg (by simp) h1
  have j4:∀ q:Bool,(q=true ↔ ¬ PtOk t g i)→∃ b,Ev (fun k=>je.j4 k g g (g.length:Int) i q t) b∧(b=true ↔ PaP t g):=by
   intro q hq
   cases q with
   | true=>exact bad (Ev.step (fun k=>by rw [je.j4]) (Ev.pos rfl (Ev.now _))) (hq.mp rfl)
   | false =>
    obtain ⟨b,h1,h2⟩:=next (Classical.byContradiction fun h=>by have:=hq.mpr h;cases this)
    refine ⟨b,?_,h2⟩
    refine Ev.step (fun k=>by rw [je.j4]) ?_
    rw [wS (by omega)]
    exact Ev.neg (by simp) h1
  have j2:∀ q:Bool,(bw (gk g i) 0 99=true)→(bw (gd g i) 0 5=true)→(gd g i=0 ↔ i=0)→(q=true ↔ ¬ (0<i→gd g i≤gd g (i - 1)∨(gg g (i - 1)=true∧gd g i=gd g (i - 1)+1))) →
    ∃ b,Ev (fun k=>je.j2 k g i g (g.length:Int) i q t (gd g i) (gg g i) (gc g i) (gk g i)) b∧(b=true ↔ PaP t g):=by
   intro q a1 a2 a3 hq
   cases q with
   | true=>exact bad (Ev.step (fun k=>by rw [je.j2]) (Ev.pos rfl (Ev.now _))) (fun h=>hq.mp rfl h.2.2.2.1)
   | false =>
    have a4:0<i→gd g i≤gd g (i - 1)∨(gg g (i - 1)=true∧gd g i=gd g (i - 1)+1):=Classical.byContradiction fun h=>by have:=hq.mpr h;cases this
    have go:∀ {f:Nat→Option Bool},(∃ b,Ev f b∧(b=true ↔ PaP t g))→(∀ k,je.j2 (k+1) g i g (g.length:Int) i false t (gd g i) (gg g i) (gc g i) (gk g i)=f k)→∃ b,Ev (fun k=>je.j2 k g i g (g.length:Int) i false t (gd g i) (gg g i) (gc g i) (gk g i)) b∧(b=true ↔ PaP t g):=fun ⟨b,h1,h2⟩ he=>⟨b,Ev.step he h1,h2⟩
    refine go ?_ (fun k=>by rw [je.j2])
    rw [wS (i:=i) (by omega),g0,iHas ht.1]
    have hz:(0:Int)≤((i+1:Nat):Int):=by omega
    by_cases hl:((i+1:Nat):Int)<(g.length:Int)
    ·by_cases hg:gg g i=true
     ·by_cases a5:gc g i=0
      ·by_cases hb:gd g (i+1) > gd g i
       ·obtain ⟨b,h1,h2⟩:=j3 false (by
         simp only [Bool.false_eq_true,false_iff,Classical.not_not]
         exact ⟨a1,a2,a3,a4,fun _=>⟨a5,by omega,hb⟩,fun h=>by rw [hg] at h;cases h⟩)
        exact ⟨b,Ev.neg (by simp) (Ev.pos hl (Ev.pos hz (Ev.pos hg (Ev.pos a5 (Ev.pos hb h1))))),h2⟩
       ·obtain ⟨b,h1,h2⟩:=j3 true (by simp only [true_iff];exact fun h=>hb (h.2.2.2.2.1 hg).2.2)
        exact ⟨b,Ev.neg (by simp) (Ev.pos hl (Ev.pos hz (Ev.pos hg (Ev.pos a5 (Ev.neg hb h1))))),h2⟩
      ·obtain ⟨b,h1,h2⟩:=j3 true (by simp only [true_iff];exact fun h=>a5 (h.2.2.2.2.1 hg).1)
       exact ⟨b,Ev.neg (by simp) (Ev.pos hl (Ev.pos hz (Ev.pos hg (Ev.neg a5 h1)))),h2⟩
     ·obtain ⟨b,h1,h2⟩:=j3 (!hasB t (gc g i)) (by
       have hgf:gg g i=false:=by simpa using hg
       cases hb:hasB t (gc g i) with
       | true =>
        simp only [Bool.not_true,Bool.false_eq_true,false_iff,Classical.not_not]
        exact ⟨a1,a2,a3,a4,fun h=>absurd h hg,fun _=>hb⟩
       | false =>
        simp only [Bool.not_false,true_iff]
        exact fun h=>by have:=h.2.2.2.2.2 hgf;rw [hb] at this;cases this)
      exact ⟨b,Ev.neg (by simp) (Ev.pos hl (Ev.pos hz (Ev.neg hg (Ev.bind (Ev.now _) h1)))),h2⟩
    ·by_cases hg:gg g i=true
     ·obtain ⟨b,h1,h2⟩:=j4 true (by simp only [true_iff];exact fun h=>hl (by have:=(h.2.2.2.2.1 hg).2.1;omega))
      by_cases a5:gc g i=0
      ·exact ⟨b,Ev.neg (by simp) (Ev.neg hl (Ev.pos hg (Ev.pos a5 h1))),h2⟩
      ·exact ⟨b,Ev.neg (by simp) (Ev.neg hl (Ev.pos hg (Ev.neg a5 h1))),h2⟩
     ·obtain ⟨b,h1,h2⟩:=j4 (!hasB t (gc g i)) (by
       have hgf:gg g i=false:=by simpa using hg
       cases hb:hasB t (gc g i) with
       | true =>
        simp only [Bool.not_true,Bool.false_eq_true,false_iff,Classical.not_not]
        exact ⟨a1,a2,a3,a4,fun h=>absurd h hg,fun _=>hb⟩
       | false =>
        simp only [Bool.not_false,true_iff]
        exact fun h=>by have:=h.2.2.2.2.2 hgf;rw [hb] at this;cases this)
      exact ⟨b,Ev.neg (by simp) (Ev.neg hl (Ev.neg hg (Ev.bind (Ev.now _) h1))),h2⟩
  have j1:∀ q:Bool,(bw (gk g i) 0 99=true)→(bw (gd g i) 0 5=true)→(q=true ↔ ¬ (gd g i=0 ↔ i=0)) →
    ∃ b,Ev (fun k=>je.j1 k g i g (g.length:Int) i q t (gd g i) (gg g i) (gc g i) (gk g i)) b∧(b=true ↔ PaP t g):=by
   intro q a1 a2 hq
   cases q with
   | true=>exact bad (Ev.step (fun k=>by rw [je.j1]) (Ev.pos rfl (Ev.now _))) (fun h=>hq.mp rfl h.2.2.1)
   | false =>
    have a3:gd g i=0 ↔ i=0:=Classical.byContradiction fun h=>by have:=hq.mpr h;cases this
    by_cases h0:i=0
    ·obtain ⟨b,h1,h2⟩:=j2 false a1 a2 a3 (by simp only [Bool.false_eq_true,false_iff,Classical.not_not];exact fun h=>by omega)
     exact ⟨b,Ev.step (fun k=>by rw [je.j1]) (Ev.neg (by simp) (Ev.neg (by omega) h1)),h2⟩
    ·obtain ⟨m,rfl⟩:∃ m,i=m+1:=⟨i - 1,by omega⟩
     have hpm:=hd m (by omega)
     have hbm:=bw_iff.mp hpm.2.1
     have go:∀ {f:Nat→Option Bool},(∃ b,Ev f b∧(b=true ↔ PaP t g))→(∀ k,je.j1 (k+1) g ((m+1:Nat):Int) g (g.length:Int) ((m+1:Nat):Int) false t (gd g (m+1)) (gg g (m+1)) (gc g (m+1)) (gk g (m+1))=f k)→∃ b,Ev (fun k=>je.j1 k g ((m+1:Nat):Int) g (g.length:Int) ((m+1:Nat):Int) false t (gd g (m+1)) (gg g (m+1)) (gc g (m+1)) (gk g (m+1))) b∧(b=true ↔ PaP t g):=fun ⟨b,h1,h2⟩ he=>⟨b,Ev.step he h1,h2⟩
     refine go ?_ (fun k=>by rw [je.j1])
     rw [wP (by omega),g0,g1,wr (x:=gd g m+1) (by omega)]
     have hm0:(0:Int)≤((m:Nat):Int):=by omega
     have hm1:((m:Nat):Int)<(g.length:Int):=by omega
     have hmp:((m+1:Nat):Int) > 0:=by omega
     by_cases c2:gd g (m+1) > gd g m
     ·by_cases c3:gg g m=true
      ·obtain ⟨b,h1,h2⟩:=j2 (!(gd g (m+1) == gd g m+1)) a1 a2 a3 (by
        simp only [Nat.add_sub_cancel,Bool.not_eq_true',beq_eq_false_iff_ne,ne_eq]
        constructor
        ·intro hne hh
         rcases hh (by omega) with h | h
         ·omega
         ·exact hne h.2
        ·intro hh he
         exact hh (fun _=>.inr ⟨c3,he⟩))
       exact ⟨b,Ev.neg (by simp) (Ev.pos hmp (Ev.pos hm0 (Ev.pos hm1 (Ev.pos c2 (Ev.pos c3 h1))))),h2⟩
      ·obtain ⟨b,h1,h2⟩:=j2 (!false) a1 a2 a3 (by
        simp only [Nat.add_sub_cancel,Bool.not_false,true_iff]
        intro hh
        rcases hh (by omega) with h | h
        ·omega
        ·exact c3 h.1)
       exact ⟨b,Ev.neg (by simp) (Ev.pos hmp (Ev.pos hm0 (Ev.pos hm1 (Ev.pos c2 (Ev.neg c3 h1))))),h2⟩
     ·obtain ⟨b,h1,h2⟩:=j2 false a1 a2 a3 (by
       simp only [Nat.add_sub_cancel,Bool.false_eq_true,false_iff,Classical.not_not]
       exact fun _=>.inl (by omega))
      exact ⟨b,Ev.neg (by simp) (Ev.pos hmp (Ev.pos hm0 (Ev.pos hm1 (Ev.neg c2 h1)))),h2⟩
  have jbad:Ev (fun k=>je.j1 k g i g (g.length:Int) i true t (gd g i) (gg g i) (gc g i) (gk g i)) false:=Ev.step (fun k=>by rw [je.j1]) (Ev.pos rfl (Ev.now _))
  have go:∀ {f:Nat→Option Bool},(∃ b,Ev f b∧(b=true ↔ PaP t g))→(∀ k,je.l0 (k+1) g g (g.length:Int) i t=f k)→∃ b,Ev (fun k=>je.l0 k g g (g.length:Int) i t) b∧(b=true ↔ PaP t g):=fun ⟨b,h1,h2⟩ he=>⟨b,Ev.step he h1,h2⟩
  refine go ?_ (fun k=>by rw [je.l0])
  rw [g0,g1,g2,g3,iCo,iW (gd g i) 0 5]
  have hii:((i:Nat):Int)<(g.length:Int):=by omega
  have hi0:(0:Int)≤((i:Nat):Int):=by omega
  by_cases a1:bw (gk g i) 0 99=true
  ·by_cases a2:bw (gd g i) 0 5=true
   ·obtain ⟨b,h1,h2⟩:=j1 _ a1 a2 (gzero (gd g i) i)
    exact ⟨b,Ev.pos hii (Ev.pos hi0 (Ev.pos hii (Ev.bind (Ev.now _) (Ev.pos a1 (Ev.bind (Ev.now _) (Ev.pos a2 h1)))))),h2⟩
   ·obtain ⟨b,h1,h2⟩:=bad jbad (fun h=>a2 h.2.1)
    exact ⟨b,Ev.pos hii (Ev.pos hi0 (Ev.pos hii (Ev.bind (Ev.now _) (Ev.pos a1 (Ev.bind (Ev.now _) (Ev.neg a2 h1)))))),h2⟩
  ·obtain ⟨b,h1,h2⟩:=bad jbad (fun h=>a1 h.1)
   exact ⟨b,Ev.pos hii (Ev.pos hi0 (Ev.pos hii (Ev.bind (Ev.now _) (Ev.neg a1 h1)))),h2⟩
theorem ev_ValidGroup {t : List Cl} {g : List Pt} (ht : TS t) (hn : g.length ≤ 1048576) : Ev (fun k => jya.f k t g) (gvB t g) := by
 obtain ⟨b,h1,h2⟩:=ev_iPO ht hn g.length 0 (by omega) (fun j hj=>by omega)
 have:gvB t g=(treeB t && b):=by
  rw [Bool.eq_iff_iff,gvB_iff,Bool.and_eq_true,h2]
  exact ⟨fun h=>⟨h.1,h.2.1,h.2.2⟩,fun h=>⟨h.1,h.2.1,h.2.2⟩⟩
 rw [this]
 unfold jya.f
 refine Ev.bind (ev_ValidTree ht) ?_
 cases treeB t with
 | true=>exact Ev.pos rfl (Ev.bind h1 (by simpa using Ev.now b))
 | false=>exact Ev.neg (by simp) (by simpa using Ev.now false)
end Go.Proofs.YtpfaohdpnegjnaaDoor.Pure
end
