/- One part of the proofs on this program: functions of the program as plain functions, that the code comes to them, and facts on them. -/
import Derived.Test.YtegpknnlggkcpaaDoorYAll3
import Derived.Test.YtegpknnlggkcpaaDoorYAll4
import Derived.Test.YtegpknnlggkcpaaDoorYMb
section
set_option linter.unusedSimpArgs false
set_option linter.unusedVariables false
namespace Go.Proofs.YtegpknnlggkcpaaDoor.Pure
open Go Go.RowKit Go.Proofs.YtegpknnlggkcpaaDoor.P Go.Proofs.YtegpknnlggkcpaaDoorW.PrintWords
set_option linter.unusedVariables false
def SB (p : List Ln) (b i : Nat) : List Nat := sibs p b b i
theorem SB_cons {p : List Ln} {b i : Nat} (h : i < b) : SB p b i = i :: SB p b (bEnd p i) := by
 unfold SB
 obtain ⟨m,rfl⟩:∃ m,b=m+1:=⟨b - 1,by omega⟩
 have g:=jLa p i
 rw [sibs_more p (m+1) m (m+1) (bEnd p i) (by omega) (by omega)]
 rw [sibs,if_pos h]
theorem SB_nil {p : List Ln} {b i : Nat} (h : b ≤ i) : SB p b i = [] := by
 unfold SB
 cases b with
 | zero=>rfl
 | succ m=>rw [sibs,if_neg (by omega)]
theorem SB_len (p : List Ln) (b : Nat) : ∀ (n i : Nat), b ≤ n + i → (SB p b i).length ≤ n
 | 0,i,h=>by rw [SB_nil (by omega)];simp
 | n+1,i,h=>by
  by_cases h1:i<b
  ·have g:=jLa p i
   rw [SB_cons h1,List.length_cons]
   have:=SB_len p b n (bEnd p i) (by omega)
   omega
  ·rw [SB_nil (by omega)];simp
theorem SB_chain {p : List Ln} {d : Int} {a b : Nat} : ∀ (n i : Nat), Blk p d a i b → i < b → p.length ≤ n + bEnd p i →
  (SB p b i).drop ((jya p d n (bEnd p i)).length+1)=SB p b (bEnd p (lastOf (jya p d n (bEnd p i)) i))
 | 0,i,h,hi,hn=>by
  simp only [jya,lastOf,List.getLastD_nil,List.length_nil]
  rw [SB_cons hi];rfl
 | n+1,i,h,hi,hn=>by
  obtain ⟨h1,h2⟩:=h.next hi
  have hbl:=h.bl
  have g:=jLa p i
  simp only [jya]
  by_cases hc:bEnd p i<p.length∧dp p (bEnd p i)=d∧isF (kd p (bEnd p i))=true
  ·rw [if_pos hc]
   have hlt:bEnd p i<b:=by
    rcases Nat.lt_or_ge (bEnd p i) b with h3 | h3
    ·exact h3
    ·have e:bEnd p i=b:=by omega
     have a2:=h.out (by omega)
     rw [e] at hc
     omega
   have g2:=jLa p (bEnd p i)
   have e:lastOf (bEnd p i :: jya p d n (bEnd p (bEnd p i))) i=lastOf (jya p d n (bEnd p (bEnd p i))) (bEnd p i):=by
    simp only [lastOf,List.getLastD_cons]
   rw [e,SB_cons hi,List.length_cons,List.drop_succ_cons]
   exact SB_chain n (bEnd p i) h2 hlt (by omega)
  ·rw [if_neg hc,SB_cons hi]
   simp only [lastOf,List.getLastD_nil]
   rfl
theorem ev_siblings_l0 {p : List Ln} (hp : p.length ≤ 1048576) {b : Nat} (hb : b ≤ p.length) : ∀ (n i : Nat) (l : List Nat), b ≤ n + i → l.length ≤ i →
  Ev (fun k=>jga.l0 k p b (ci l) i) (ci (l ++ SB p b i))
 | 0,i,l,h,_=>by
  rw [SB_nil (by omega),List.append_nil]
  refine Ev.step (fun k=>by rw [jga.l0]) ?_
  exact Ev.neg (by omega) (Ev.now _)
 | n+1,i,l,h,hl=>by
  by_cases h1:i<b
  ·refine Ev.step (fun k=>by rw [jga.l0]) ?_
   simp only [jIb,ci_snoc]
   have g:=jLa p i
   rw [SB_cons h1]
   refine Ev.pos (by omega) (Ev.pos (by omega) (Ev.bind (ev_endOf hp (by omega)) ?_))
   have:=ev_siblings_l0 hp hb n (bEnd p i) (l ++ [i]) (by omega) (by rw [List.length_append,List.length_singleton];omega)
   rw [List.append_assoc] at this
   exact this
  ·rw [SB_nil (by omega),List.append_nil]
   refine Ev.step (fun k=>by rw [jga.l0]) ?_
   exact Ev.neg (by omega) (Ev.now _)
theorem ev_siblings {p : List Ln} (hp : p.length ≤ 1048576) {a b : Nat} (hb : b ≤ p.length) : Ev (fun k => jga.f k p a b) (ci (SB p b a)) :=
 ev_siblings_l0 hp hb b a [] (by omega) (by simp)
theorem tryOk_go {p : List Ln} : ∀ (l : List Nat) (ex last : Int), (∀ j ∈ l, j < p.length) → jta.go p (ci l) ex last = some (okGo (l.map (kd p)) ex last)
 | [],_,_,_=>rfl
 | a :: l,ex,last,h=>by
  have ha:a<p.length:=h a (by simp)
  have hl:∀ j ∈ l,j<p.length:=fun j hj=>h j (by simp [hj])
  simp only [ci_cons,jta.go,r1,List.map_cons,okGo]
  rw [if_pos (by omega),if_pos (by omega)]
  by_cases h8:kd p a=8
  ·simp only [h8,↓reduceIte]
   by_cases c:last≤8
   ·simp only [c,↓reduceIte];exact tryOk_go l _ _ hl
   ·simp only [c,↓reduceIte]
  simp only [h8,↓reduceIte]
  by_cases h9:kd p a=9
  ·simp only [h9,↓reduceIte]
   by_cases c:last=8
   ·simp only [c,↓reduceIte];exact tryOk_go l _ _ hl
   ·simp only [c,↓reduceIte]
  simp only [h9,↓reduceIte]
  by_cases h10:kd p a=10
  ·simp only [h10,↓reduceIte]
   by_cases c:last<10
   ·simp only [c,↓reduceIte];exact tryOk_go l _ _ hl
   ·simp only [c,↓reduceIte]
  simp only [h10,↓reduceIte]
theorem tryOk_eq {p : List Ln} (a : Nat) (l : List Nat) (h : ∀ j ∈ l, j < p.length) : jta.f p (ci (a :: l)) = some (okB (l.map (kd p))) := by
 unfold jta.f
 rw [if_pos (by simp [ci]),show (ci (a :: l)).drop 1=ci l from rfl,tryOk_go l 0 7 h,Option.bind_some]
 unfold okB finB
 cases okGo (l.map (kd p)) 0 7 with
 | none=>rfl
 | some ex =>
  simp only [List.length_map]
  congr 2
  simp only [jIb,List.length_cons]
  rw [decide_eq_decide];omega
theorem ev_blockOk_l0 {p : List Ln} (hp : p.length ≤ 1048576) (hr : DR p) : ∀ (n : Nat) (d : Int) (a i b : Nat) (lp : Bool) (S : List Nat) (j : Nat), Blk p d a i b → b ≤ n + i → S.drop j = SB p b i → S.length ≤ 1048576 →
  Ev (fun k=>jd.l0 k p lp (ci S) j) (bOk p n i b lp):=by
 intro n
 induction n with
 | zero =>
  intro d a i b lp S j h hn hS hS2
  rw [SB_nil (by omega)] at hS
  have:=ci_end hS
  refine Ev.step (fun k=>by rw [jd.l0]) ?_
  rw [jIb]
  exact Ev.neg (by omega) (Ev.now _)
 | succ n ih =>
 intro d a i b lp S j h hn hS hS2
 by_cases hi:i<b
 case neg =>
  rw [SB_nil (by omega)] at hS
  have:=ci_end hS
  refine Ev.step (fun k=>by rw [jd.l0]) ?_
  rw [jIb,bOk,if_neg hi]
  exact Ev.neg (by omega) (Ev.now _)
 have g:=jLa p i
 obtain ⟨hle,hnx⟩:=h.next hi
 have hin:=h.inner hr hi
 have hd:=h.at_ hi
 have hai:=h.ai
 have hbl:=h.bl
 have hS0:=hS
 rw [SB_cons hi] at hS
 obtain ⟨hj,hrd,hS'⟩:=ci_drop hS
 have inner:∀ (e:Nat) (lp':Bool),Blk p d a e b→e<b→i≤e→Ev (fun k=>jd.f k p ((e+1:Nat):Int) ((bEnd p e:Nat):Int) lp') (bOk p n (e+1) (bEnd p e) lp'):=by
  intro e lp' he heb hie
  obtain ⟨hle2,hnx2⟩:=he.next heb
  have g2:=jLa p e
  refine Ev.step (fun k=>by rw [jd.f]) ?_
  refine Ev.bind (ev_siblings hp (by omega)) ?_
  exact ih (d+1) (e+1) (e+1) (bEnd p e) lp' _ 0 (he.inner hr heb) (by omega) rfl (by have:=SB_len p (bEnd p e) (bEnd p e) (e+1) (by omega);omega)
 have next:Ev (fun k=>jd.l0 k p lp (ci S) (wrap64 ((j:Int)+1))) (bOk p n (bEnd p i) b lp):=by
  rw [wS (by omega)]
  exact ih d a (bEnd p i) b lp S (j+1) hnx (by omega) hS' hS2
 refine Ev.step (fun k=>by rw [jd.l0]) ?_
 rw [hrd,bOk,if_pos hi]
 simp only [jIb,r1]
 refine Ev.pos (by omega) (Ev.pos (by omega) (Ev.pos (by omega) (Ev.pos (by omega) ?_)))
 have j4:∀ q:Bool,q=decide (kd p i=11∨kd p i=12)→Ev (fun k=>jd.j4 k p lp (ci S) j i (kd p i) q) (if kd p i=11∨kd p i=12 then bOk p n (i+1) (bEnd p i) (lp || decide (kd p i=12)) && bOk p n (bEnd p i) b lp else bOk p n (bEnd p i) b lp):=by
  intro q hq
  refine Ev.step (fun k=>by rw [jd.j4]) ?_
  by_cases hk:kd p i=11∨kd p i=12
  ·rw [if_pos hk]
   refine Ev.pos (by rw [hq];simpa using hk) (Ev.bind (ev_endOf hp (by omega)) ?_)
   have ee:wrap64 ((i:Int)+1)=((i+1:Nat):Int):=wS (by omega)
   have e12:(kd p i == 12)=decide (kd p i=12):=by rw [Bool.eq_iff_iff];simp
   rw [ee,e12]
   cases lp with
   | true =>
    refine Ev.pos rfl (Ev.bind (inner i true h hi (Nat.le_refl _)) ?_)
    simp only [Bool.true_or]
    cases bOk p n (i+1) (bEnd p i) true with
    | true=>exact Ev.pos rfl (by simpa using next)
    | false=>exact Ev.neg (by simp) (by simpa using Ev.now false)
   | false =>
    refine Ev.neg (by simp) (Ev.bind (inner i (decide (kd p i=12)) h hi (Nat.le_refl _)) ?_)
    simp only [Bool.false_or]
    cases bOk p n (i+1) (bEnd p i) (decide (kd p i=12)) with
    | true=>exact Ev.pos rfl (by simpa using next)
    | false=>exact Ev.neg (by simp) (by simpa using Ev.now false)
  ·rw [if_neg hk]
   exact Ev.neg (by rw [hq];simpa using hk) next
 have l1:kd p i=7→∀ (r:List Nat) (jj:Nat),(chain p i).drop jj=r→Ev (fun k=>jd.l1 k p lp (ci S) j (ci (chain p i)) (ci (chain p i)) ((chain p i).length:Int) jj) (r.all (fun e=>bOk p n (e+1) (bEnd p e) lp) && bOk p n (bEnd p (lastOf (jQa p i) i)) b lp):=by
  intro hk
  obtain ⟨c1,c2,c3,c4,c5,c6⟩:=chain_in (a:=a) (b:=b) p.length i h hi (by omega)
  have hT:jQa p i=jya p d p.length (bEnd p i):=by rw [jQa,hd]
  have hlen:=chain_len p d p.length (bEnd p i)
  intro r
  induction r with
  | nil =>
   intro jj hjj
   have:=ci_end hjj
   refine Ev.step (fun k=>by rw [jd.l1]) ?_
   refine Ev.neg (by omega) ?_
   simp only [List.all_nil,Bool.true_and,jIb]
   have e1:(chain p i).length=(jya p d p.length (bEnd p i)).length+1:=by rw [chain,hT,List.length_cons]
   have e2:wrap64 (wrap64 ((j:Int)+wrap64 (((chain p i).length:Int) - 1))+1)=((j+((jya p d p.length (bEnd p i)).length+1):Nat):Int):=by
    rw [e1,wr (x:=(((jya p d p.length (bEnd p i)).length+1:Nat):Int) - 1) (by omega),wr (x:=(j:Int)+_) (by omega),wr (by omega)];omega
   rw [e2,hT]
   have e3:S.drop (j+((jya p d p.length (bEnd p i)).length+1))=SB p b (bEnd p (lastOf (jya p d p.length (bEnd p i)) i)):=by
    rw [← List.drop_drop,hS0,SB_chain p.length i h hi (by omega)]
   have g3:=jLa p (lastOf (jya p d p.length (bEnd p i)) i)
   exact ih d a _ b lp S _ c2 (by omega) e3 hS2
  | cons e r ihr =>
   intro jj hjj
   obtain ⟨x1,x2,x3⟩:=ci_drop hjj
   have hlen2:(chain p i).length≤1048577:=by rw [chain,hT,List.length_cons];omega
   have hmem:e ∈ chain p i:=List.mem_of_mem_drop (by rw [hjj];simp)
   have heb:e<b∧a≤e∧dp p e=d∧i≤e:=by
    rcases List.mem_cons.mp hmem with rfl | hm
    ·exact ⟨hi,hai,hd,Nat.le_refl _⟩
    ·rw [hT] at hm
     have y1:=c1 e hm
     have y2:=chainN_mem hm
     exact ⟨y1.1,y1.2,y2.2.2.1,by omega⟩
   have hbk:Blk p d a e b:=⟨heb.2.1,by omega,hbl,h.low,fun _=>heb.2.2.1,h.out⟩
   refine Ev.step (fun k=>by rw [jd.l1]) ?_
   rw [x2,wS (by omega),wS (by omega)]
   refine Ev.pos (by omega) (Ev.pos (by omega) (Ev.pos (by rw [jIb];omega) (Ev.bind (ev_endOf hp (by omega)) (Ev.bind (inner e lp hbk heb.1 heb.2.2.2) ?_))))
   simp only [List.all_cons]
   cases bOk p n (e+1) (bEnd p e) lp with
   | true=>exact Ev.pos rfl (by simpa using ihr (jj+1) x3)
   | false=>exact Ev.neg (by simp) (by simpa using Ev.now false)
 have j2:¬ (kd p i=5∨kd p i=6)→∀ q:Bool,q=isF (kd p i)→Ev (fun k=>jd.j2 k p lp (ci S) j i (kd p i) (kd p i) q)
   (if isF (kd p i)=true then false
   else if kd p i=7 then okB ((jQa p i).map (kd p)) && (chain p i).all (fun k=>bOk p n (k+1) (bEnd p k) lp) && bOk p n (bEnd p (lastOf (jQa p i) i)) b lp
   else if kd p i=11∨kd p i=12 then bOk p n (i+1) (bEnd p i) (lp || decide (kd p i=12)) && bOk p n (bEnd p i) b lp
   else bOk p n (bEnd p i) b lp):=by
  intro hk56 q hq
  refine Ev.step (fun k=>by rw [jd.j2]) ?_
  rw [← hq]
  cases q with
  | true=>exact Ev.pos rfl (by simpa using Ev.now false)
  | false =>
   refine Ev.neg (by simp) ?_
   simp only [Bool.false_eq_true,if_false]
   by_cases h7:kd p i=7
   ·rw [if_pos h7]
    refine Ev.pos h7 (Ev.bind (ev_tryFrom hp (by omega)) ?_)
    have ht:=tryOk_eq (p:=p) i (jQa p i) (fun j hj=>chain_lt (a:=i) (by omega) j (List.mem_cons_of_mem _ hj))
    rw [show ci (i :: jQa p i)=ci (chain p i) from rfl] at ht
    rw [ht]
    simp only [Option.bind_some]
    cases okB ((jQa p i).map (kd p)) with
    | true =>
     refine Ev.pos rfl ?_
     rw [jIb]
     simpa using l1 h7 (chain p i) 0 rfl
    | false=>exact Ev.neg (by simp) (by simpa using Ev.now false)
   ·rw [if_neg h7]
    refine Ev.neg h7 ?_
    have e11:(kd p i == 11)=decide (kd p i=11):=by rw [Bool.eq_iff_iff];simp
    have e12:(kd p i == 12)=decide (kd p i=12):=by rw [Bool.eq_iff_iff];simp
    rw [e11,e12]
    exact Ev.both (fun c=>j4 _ (by simp [c])) (fun c=>j4 _ (by simp [c]))
 have eb:∀ z:Int,(kd p i == z)=decide (kd p i=z):=fun z=>by rw [Bool.eq_iff_iff];simp
 have j1:∀ q:Bool,q=decide (kd p i=5∨kd p i=6)→Ev (fun k=>jd.j1 k p lp (ci S) j i (kd p i) (kd p i) q)
   (if kd p i=5∨kd p i=6 then lp && bOk p n (bEnd p i) b lp
   else if isF (kd p i)=true then false
   else if kd p i=7 then okB ((jQa p i).map (kd p)) && (chain p i).all (fun k=>bOk p n (k+1) (bEnd p k) lp) && bOk p n (bEnd p (lastOf (jQa p i) i)) b lp
   else if kd p i=11∨kd p i=12 then bOk p n (i+1) (bEnd p i) (lp || decide (kd p i=12)) && bOk p n (bEnd p i) b lp
   else bOk p n (bEnd p i) b lp):=by
  intro q hq
  refine Ev.step (fun k=>by rw [jd.j1]) ?_
  by_cases hk:kd p i=5∨kd p i=6
  ·rw [if_pos hk]
   refine Ev.pos (by rw [hq];simpa using hk) ?_
   cases lp with
   | true=>exact Ev.pos rfl (by simpa using next)
   | false=>exact Ev.neg (by simp) (by simpa using Ev.now false)
  ·rw [if_neg hk]
   refine Ev.neg (by rw [hq];simpa using hk) ?_
   simp only [eb]
   exact Ev.both (fun c=>j2 hk _ (by simp [c,isF])) (fun c=>Ev.both (fun c2=>j2 hk _ (by simp [c2,isF])) (fun c2=>j2 hk _ (by rw [Bool.eq_iff_iff];simp [isF];omega)))
 simp only [eb]
 exact Ev.both (fun c=>j1 _ (by simp [c])) (fun c=>j1 _ (by simp [c]))
theorem Blk.all {p : List Ln} (hr : DR p) (hl : ∀ j, j < p.length → 0 ≤ dp p j) : Blk p 0 0 0 p.length :=
 ⟨Nat.le_refl _,by omega,Nat.le_refl _,fun j _ h=>hl j h,fun h=>hr.first h,fun h=>by omega⟩
theorem ev_blockOk {p : List Ln} (hp : p.length ≤ 1048576) (hr : DR p) (hl : ∀ j, j < p.length → 0 ≤ dp p j) : Ev (fun k => jd.f k p 0 (p.length : Int) false) (bOk p p.length 0 p.length false) := by
 refine Ev.step (fun k=>by rw [jd.f]) ?_
 refine Ev.bind (ev_siblings (a:=0) hp (Nat.le_refl _)) ?_
 exact ev_blockOk_l0 hp hr p.length 0 0 0 p.length false (SB p p.length 0) 0 (Blk.all hr hl) (by omega) rfl (by have:=SB_len p p.length p.length 0 (by omega);omega)
end Go.Proofs.YtegpknnlggkcpaaDoor.Pure
end
