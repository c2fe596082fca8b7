/- One part of the proofs on this program: functions of the program as plain functions, that the code comes to them, and facts on them. -/
import Derived.Test.YtkhiiiddbmgiaaaYD8
import Derived.Test.YtkhiiiddbmgiaaaYMpd
section
set_option linter.unusedSimpArgs false
set_option linter.unusedVariables false
namespace Go.Proofs.Ytkhiiiddbmgiaaa.Pure
open Go Go.RowKit Go.Proofs.Ytkhiiiddbmgiaaa.P Go.Proofs.YtkhiiiddbmgiaaaW.PrintWords
set_option linter.unusedVariables false
theorem flt_flt {p : List Ln} {G G2 H : Nat → Bool} (h : ∀ a, a < (flt p G).length → G2 a = H ((kp p G).getD a 0)) : flt (flt p G) G2 = ((kp p G).filter (fun i => !H i)).map (fun i => p.getD i z52) := by
 have hl:=flt_len p G
 have hK:(List.range (kp p G).length).map (fun a=>(kp p G).getD a 0)=kp p G:=by
  refine List.ext_getElem (by simp) (fun i h1 h2=>?_)
  simp [List.getD_eq_getElem?_getD,h2]
 have e1:kp (flt p G) G2=(List.range (kp p G).length).filter ((fun i=>!H i) ∘ fun a=>(kp p G).getD a 0):=by
  unfold kp
  rw [flt_len]
  refine List.filter_congr (fun a ha=>?_)
  have:=h a (by rw [hl];exact List.mem_range.mp ha)
  simp only [Function.comp]
  rw [this];rfl
 have e2:(kp p G).filter (fun i=>!H i)=((List.range (kp p G).length).filter ((fun i=>!H i) ∘ fun a=>(kp p G).getD a 0)).map (fun a=>(kp p G).getD a 0):=by
  conv=>lhs;rw [← hK]
  rw [List.filter_map]
 rw [flt,e1,e2,List.map_map]
 refine List.map_congr_left (fun a ha=>?_)
 have ha2:a<(kp p G).length:=List.mem_range.mp (List.mem_filter.mp ha).1
 simp only [Function.comp,flt]
 simp [List.getD_eq_getElem?_getD,ha2]
theorem bjS_cl {p : List Ln} {i j : Nat} (h1 : i < j) (h2 : j < bEnd p i) (hj : j < p.length) (h : bjS p (i : Int) = true) : bjS p (j : Int) = true := by
 obtain ⟨m,a,b,c⟩:=(jpc (by omega)).mp h
 refine (jpc hj).mpr ⟨m,by omega,b,fun x x1 x2=>?_⟩
 rcases Nat.lt_or_ge i x with g | g
 ·have:=jqb (p:=p) g (by omega)
  have:=c i a (Nat.le_refl _)
  omega
 ·exact c x x1 g
theorem bjS_to {p : List Ln} {i j : Nat} (h1 : i < j) (hj : j < p.length) (h : bjS p (i : Int) = true) (hl : ∀ y, i < y → y ≤ j → dp p i ≤ dp p y) : bjS p (j : Int) = true := by
 obtain ⟨m,a,b,c⟩:=(jpc (by omega)).mp h
 refine (jpc hj).mpr ⟨m,by omega,b,fun x x1 x2=>?_⟩
 rcases Nat.lt_or_ge i x with g | g
 ·have:=hl x g x2
  have:=c i a (Nat.le_refl _)
  omega
 ·exact c x x1 g
theorem jmp_not {k : Int} (h : jmpB k = true) : ¬ (7 ≤ k) := by
 simp only [jmpB,Bool.and_eq_true,decide_eq_true_eq] at h;omega
theorem jDc {b : Bool} (h : b = true → False) : b = false := by cases b with | false => rfl | true => exact (h rfl).elim
theorem fine_bj {t : List Cl} {p : List Ln} (hv : jyb t p) : Fine p (fun i => bjS p (i : Int)) := by
 refine ⟨fun i j h1 h2 h3 h4=>bjS_cl h1 h2 h3 h4,fun h0=>jDc fun h=>?_,fun i hi ho hG=>jDc fun h=>?_,fun T x i h1 h2 h3 h4 h5 h6 h7 h8 h9=>?_,fun T i h1 h2 h3 h4 h5 h6=>jDc fun h=>?_,fun T hT h7 hG=>?_⟩
 ·obtain ⟨m,a,_⟩:=(jpc h0).mp h
  omega
 ·obtain ⟨m,a,b,c⟩:=(jpc hi).mp h
  rcases Nat.lt_or_ge m i with g | g
  ·have:bjS p (i:Int)=true:=(jpc (by omega)).mpr ⟨m,g,b,fun x x1 x2=>c x x1 (by omega)⟩
   rw [hG] at this;cases this
  ·obtain rfl:m=i:=by omega
   have:=isO_iff.mp ho
   exact jmp_not b this.1
 ·have:=bjS_to h2 h3 h6 (fun y y1 y2=>by rw [h9];exact h7 y (by omega) y2)
  rw [h5] at this;cases this
 ·have:=bjS_to h1 h2 h h6
  rw [h3] at this;cases this
 ·have hid:(jHa p T).filter (fun j:Nat=>!bjS p (j:Int))=jHa p T:=by
   rw [List.filter_eq_self]
   intro j hj
   obtain ⟨j1,j2,j3,j4,j5⟩:=(jwb hT j).mp hj
   have:bjS p (j:Int)=false:=jDc fun h=>by
    obtain ⟨m,a,b,c⟩:=(jpc j1).mp h
    have hjm:=c j a (Nat.le_refl _)
    rcases Nat.lt_trichotomy m T with g | g | g
    ·have:bjS p (T:Int)=true:=(jpc hT).mpr ⟨m,g,b,fun x x1 x2=>c x x1 (by omega)⟩
     rw [hG] at this;cases this
    ·subst g;exact jmp_not b (by omega)
    ·have:=j5 m g a
     have:=jRb.mp (this.2 (by omega))
     exact jmp_not b (by omega)
   simp [this]
  rw [hid]
  exact (hv.2.2 T hT).2.2.2.1 h7
theorem vc_filter {p : List Ln} {R : Nat → Bool} : ∀ (C pre : List Nat) (ex ex' : Int) (q : Option Int) (r : Int), (∀ c ∈ C, isF (kd p c) = true) → ex' ≤ ex → 0 ≤ ex' → (ex' = 0 → ex = 0) → (∀ q0, q = some q0 → 8 ≤ q0) → ((∃ j ∈ pre, kd p j = 8) → 1 ≤ ex' ∧ q ≠ none) →
  (∀ a c b,C=a ++ c :: b→R c=true→kd p c=8∧∃ j ∈ pre ++ a,kd p j=8)→vcGo (C.map (kd p)) ex q=some r→∃ r',r'≤r∧vcGo ((C.filter (fun c=>!R c)).map (kd p)) ex' q=some r'
 | [],pre,ex,ex',q,r,_,h1,_,_,_,_,_,h=>by
  have:ex=r:=by simpa [vcGo] using h
  exact ⟨ex',by omega,rfl⟩
 | c :: C,pre,ex,ex',q,r,hF,h1,h2,h3,h4,h5,h6,h=>by
  have hFc:=jRb.mp (hF c List.mem_cons_self)
  have hpos:∀ a x b,C=a ++ x :: b→R x=true→kd p x=8∧∃ j ∈ (pre ++ [c]) ++ a,kd p j=8:=fun a x b e hR=>by
   have:=h6 (c :: a) x b (by rw [e];rfl) hR
   simpa using this
  rw [List.map_cons,vcGo] at h
  by_cases hb:badK (kd p c) (if kd p c=8 then ex+1 else ex) q=true
  ·rw [if_pos hb] at h;cases h
  rw [if_neg hb] at h
  by_cases hR:R c=true
  ·obtain ⟨k8,hs⟩:=h6 [] c C rfl hR
   rw [List.append_nil] at hs
   obtain ⟨s1,s2⟩:=h5 hs
   obtain ⟨q0,rfl⟩:∃ q0,q=some q0:=by cases q with | none=>exact absurd rfl s2 | some q0=>exact ⟨q0,rfl⟩
   have hq:=h4 q0 rfl
   have hq8:q0=8:=by
    rcases Int.lt_or_le 8 q0 with g | g
    ·exact absurd (by rw [k8];simp [badK,g]) hb
    ·omega
   subst hq8
   rw [if_pos k8,k8] at h
   rw [List.filter_cons_of_neg (by simp [hR])]
   exact vc_filter C (pre ++ [c]) (ex+1) ex' (some 8) r (fun x hx=>hF x (List.mem_cons_of_mem _ hx)) (by omega) h2 (fun h=>by omega) h4 (fun _=>⟨s1,s2⟩) hpos h
  ·have hb':¬ badK (kd p c) (if kd p c=8 then ex'+1 else ex') q=true:=by
    intro hc
    apply hb
    unfold badK at hc ⊢
    rw [Bool.or_eq_true] at hc ⊢
    rcases hc with hc | hc
    ·exact .inl hc
    ·right
     simp only [Bool.and_eq_true,decide_eq_true_eq] at hc ⊢
     obtain ⟨k9,hc⟩:=hc
     rw [if_neg (by omega)] at hc ⊢
     exact ⟨k9,h3 hc⟩
   rw [List.filter_cons_of_pos (by simp [hR]),List.map_cons,vcGo,if_neg hb']
   refine vc_filter C (pre ++ [c]) _ _ (some (kd p c)) r (fun x hx=>hF x (List.mem_cons_of_mem _ hx)) ?_ ?_ ?_ (fun q0 e=>by injection e with e;omega) (fun hs=>⟨?_,by simp⟩) hpos h
   ·split <;> omega
   ·split <;> omega
   ·split <;> omega
   ·obtain ⟨j,j1,j2⟩:=hs
    rcases List.mem_append.mp j1 with g | g
    ·have:=(h5 ⟨j,g,j2⟩).1
     split <;> omega
    ·obtain rfl:j=c:=by simpa using g
     rw [if_pos j2];omega
theorem vcB_filter {p : List Ln} {R : Nat → Bool} {C : List Nat} (hF : ∀ c ∈ C, isF (kd p c) = true) (hR : ∀ a c b, C = a ++ c :: b → R c = true → kd p c = 8 ∧ ∃ j ∈ a, kd p j = 8) (h : vcB (C.map (kd p)) = true) : vcB ((C.filter (fun c => !R c)).map (kd p)) = true := by
 unfold vcB at h ⊢
 cases hg:vcGo (C.map (kd p)) 0 none with
 | none=>rw [hg] at h;cases h
 | some r =>
  rw [hg] at h
  simp only [finB,Bool.and_eq_true,decide_eq_true_eq,List.length_map] at h
  obtain ⟨r',h1,h2⟩:=vc_filter (R:=R) C [] 0 0 none r hF (Int.le_refl _) (Int.le_refl _) (fun _=>rfl) (fun q0 e=>by cases e) (fun ⟨j,hj,_⟩=>by cases hj) (fun a c b e hc=>by rw [List.nil_append];exact hR a c b e hc) hg
  rw [h2]
  simp only [finB,Bool.and_eq_true,decide_eq_true_eq,List.length_map]
  refine ⟨?_,by omega⟩
  cases C with
  | nil=>simp at h
  | cons c C =>
   have:R c=false:=jDc fun hc=>by obtain ⟨_,j,hj,_⟩:=hR [] c C rfl hc;cases hj
   rw [List.filter_cons_of_pos (by simp [this]),List.length_cons]
   omega
noncomputable def deadB (t : List Cl) (p : List Ln) (i : Nat) : Bool := (List.range (i + 1)).any (fun e => dvS t p (e : Int) && decide (i < bEnd p e))
theorem jsb {t : List Cl} {p : List Ln} {i : Nat} : deadB t p i = true ↔ ∃ e, e ≤ i ∧ dvS t p (e : Int) = true ∧ i < bEnd p e := by
 unfold deadB
 rw [List.any_eq_true]
 constructor
 ·rintro ⟨e,h1,h2⟩
  rw [Bool.and_eq_true,decide_eq_true_eq] at h2
  exact ⟨e,by have:=List.mem_range.mp h1;omega,h2⟩
 ·rintro ⟨e,h1,h2,h3⟩
  exact ⟨e,List.mem_range.mpr (by omega),by rw [h2,decide_eq_true h3];rfl⟩
theorem bEnd_drop {p : List Ln} {e m i : Nat} (h1 : e < m) (h2 : m < bEnd p e) (h3 : bEnd p e ≤ i) (hi : i < p.length) (h : ∀ y, m < y → y ≤ i → dp p m ≤ dp p y) : False := by
 have a:=jqb (p:=p) h1 h2
 have b:=bEnd_at (p:=p) (i:=e) (by omega)
 have:=h _ h2 h3
 omega
theorem fine_dead {t : List Cl} {p : List Ln} (hv : jyb t p) : Fine p (deadB t p) := by
 have kd8:∀ e,e<p.length→dvS t p (e:Int)=true→kd p e=8:=fun e he h=>by
  obtain ⟨j,h⟩:=(jgc hv he).mp h
  exact h.2.1
 refine ⟨fun i j h1 h2 h3 h4=>?_,fun h0=>jDc fun h=>?_,fun i hi ho hG=>jDc fun h=>?_,fun T x i h1 h2 h3 h4 h5 h6 h7 h8 h9=>?_,fun T i h1 h2 h3 h4 h5 h6=>jDc fun h=>?_,fun T hT h7 hG=>?_⟩
 ·obtain ⟨e,e1,e2,e3⟩:=jsb.mp h4
  refine jsb.mpr ⟨e,by omega,e2,?_⟩
  rcases Nat.lt_or_ge e i with g | g
  ·have:=bEnd_nest (p:=p) (by omega) g e3;omega
  ·rw [show e=i by omega];exact h2
 ·obtain ⟨e,e1,e2,e3⟩:=jsb.mp h
  obtain ⟨j,hj⟩:=(jgc hv (by omega)).mp e2
  have:=hj.1
  omega
 ·obtain ⟨e,e1,e2,e3⟩:=jsb.mp h
  rcases Nat.lt_or_ge i e with g | g
  ·obtain rfl:e=i+1:=by omega
   obtain ⟨j,j1,j2,j3,j4,j5,_⟩:=(jgc hv hi).mp e2
   have hd:=hv.dr.deeper i hi ho
   rcases Nat.lt_or_ge j i with f | f
   ·have:=(j5 i f (by omega)).1;omega
   ·rw [show j=i by omega] at j4;omega
  ·have:deadB t p i=true:=jsb.mpr ⟨e,g,e2,by omega⟩
   rw [hG] at this;cases this
 ·obtain ⟨e,e1,e2,e3⟩:=jsb.mp h6
  rcases Nat.lt_or_ge e x with g | g
  ·have hx:=jqb (p:=p) g e3
   rcases Nat.lt_or_ge T e with f | f
   ·have:=h7 e f (by omega);omega
   ·have:deadB t p T=true:=jsb.mpr ⟨e,f,e2,by omega⟩
    rw [h4] at this;cases this
  ·obtain rfl:e=x:=by omega
   have:=kd8 e (by omega) e2
   exact jRb.mpr ⟨by omega,by omega⟩
 ·obtain ⟨e,e1,e2,e3⟩:=jsb.mp h
  rcases Nat.lt_or_ge e T with g | g
  ·rcases Nat.lt_or_ge i (bEnd p e) with f | f
   ·have:deadB t p i=true:=jsb.mpr ⟨e,by omega,e2,f⟩
    rw [h3] at this;cases this
   ·exact bEnd_drop g e3 f h2 h6
  ·obtain rfl:e=T:=by omega
   have:=kd8 e (by omega) e2
   omega
 ·have hF:∀ c ∈ jHa p T,isF (kd p c)=true:=fun c hc=>((jwb hT c).mp hc).2.2.2.1
  refine vcB_filter hF (fun a c b e hc=>?_) ((hv.2.2 T hT).2.2.2.1 h7)
  have hcm:c ∈ jHa p T:=by rw [e];simp
  obtain ⟨c1,c2,c3,c4,c5⟩:=(jwb hT c).mp hcm
  obtain ⟨x,x1,x2,x3⟩:=jsb.mp hc
  have hxc:x=c:=by
   rcases Nat.lt_or_ge x c with g | g
   ·have hx:=jqb (p:=p) g x3
    rcases Nat.lt_or_ge T x with f | f
    ·have:=(c5 x f g).1;omega
    ·have:deadB t p T=true:=jsb.mpr ⟨x,f,x2,by omega⟩
     rw [hG] at this;cases this
   ·omega
  subst hxc
  obtain ⟨j,j1,j2,j3,j4,j5,_⟩:=(jgc hv c1).mp x2
  refine ⟨j2,j,?_,j3⟩
  have hTj:T<j:=by
   rcases Nat.lt_trichotomy T j with g | g | g
   ·exact g
   ·rw [g] at h7;omega
   ·have:=jRb.mp ((j5 T g c2).2 c3.symm);omega
  have hjm:j ∈ jHa p T:=(jwb hT j).mpr ⟨by omega,hTj,by rw [j4,c3],jRb.mpr ⟨by omega,by omega⟩,fun y y1 y2=>c5 y y1 (by omega)⟩
  have hasc:=(jcc (p:=p) (d:=dp p T) p.length (bEnd p T)).2
  have hasc':(jHa p T).Pairwise (·<·):=hasc
  rw [e] at hjm hasc'
  rw [List.pairwise_append,List.pairwise_cons] at hasc'
  rcases List.mem_append.mp hjm with g | g
  ·exact g
  ·rcases List.mem_cons.mp g with g | g
   ·omega
   ·have:=hasc'.2.1.1 j g;omega
theorem pr_eq {t : List Cl} {p : List Ln} (hv : jyb t p) : prP t p = flt p (fun i => bjS p (i : Int)) := by
 rw [prP,if_pos (vB_iff.mpr hv),prN_congr (fun i hi hI=>bj_same hv.dr hi hI) p.length 0 (fun x hx=>by omega)]
 refine prN_all (g:=fun i=>bjS p (i:Int)) (fun i hi=>⟨fun h=>⟨i,Nat.le_refl _,h,jNa p i⟩,fun ⟨e,e1,e2,e3⟩=>?_⟩)
 rcases Nat.lt_or_ge e i with g | g
 ·exact bjS_cl g e3 hi e2
 ·rw [show i=e by omega];exact e2
theorem dr_eq {t : List Cl} {p : List Ln} (hv : jyb t p) : drP t p = flt p (deadB t p) := by
 rw [drP,if_pos (vB_iff.mpr hv),show (fun j:Nat=>hasN (j:Int) (dropped (dvA t p p.length 0)))=(fun j:Nat=>dvS t p (j:Int)) from funext fun j=>(upd_has (dvA_keys hv p.length 0 rfl).2 j).symm]
 exact prN_all (g:=fun i=>dvS t p (i:Int)) (fun i hi=>jsb)
theorem dx_sub {t : List Cl} {p q : List Ln} {e : Nat → Nat} (S : Sub p q (fun i => bjS p (i : Int)) e) {a : Nat} (ha : a < q.length) : (∃ j, DX t q a j) ↔ ∃ j, DX t p (e a) j := by
 have hea:=S.lt a ha
 have hno:∀ x,x<e a→(∀ y,x<y→y≤e a→dp p x≤dp p y)→bjS p (x:Int)=false:=fun x hx hl=>jDc fun h=>by
  have:=bjS_to hx hea h hl
  have:=S.left a ha
  simp_all
 constructor
 ·rintro ⟨j,h1,h2,h3,h4,h5,h6⟩
  have hj:j<q.length:=by omega
  rw [S.kd ha] at h2
  rw [S.kd hj] at h3
  rw [S.dp hj,S.dp ha] at h4
  rw [S.la ha,S.la hj] at h6
  have hm:=S.mono j a h1 ha
  have hl:=(S.low' (a:=j) (b:=a) (d:=dp p (e a)) hj ha).mp (fun c c1 c2=>by
   rcases Nat.lt_or_ge c a with g | g
   ·have:=(h5 c c1 g).1;rw [S.dp ha] at this;exact this
   ·rw [show c=a by omega,S.dp ha];exact Int.le_refl _)
  refine ⟨e j,hm,h2,h3,h4,fun x x1 x2=>⟨hl x x1 (by omega),fun hx=>?_⟩,h6⟩
  have hG:=hno x x2 (fun y y1 y2=>by rw [hx];exact hl y (by omega) y2)
  obtain ⟨c,hc,rfl⟩:=S.onto x (by omega) hG
  rw [← S.kd hc]
  exact (h5 c (S.lt' hc hj x1) (S.lt' ha hc x2)).2 (by rw [S.dp hc,S.dp ha];exact hx)
 ·rintro ⟨j,h1,h2,h3,h4,h5,h6⟩
  have hG:=hno j h1 (fun y y1 y2=>by
   rw [h4]
   rcases Nat.lt_or_ge y (e a) with g | g
   ·exact (h5 y y1 g).1
   ·rw [show y=e a by omega];exact Int.le_refl _)
  obtain ⟨c,hc,rfl⟩:=S.onto j (by omega) hG
  refine ⟨c,S.lt' ha hc h1,by rw [S.kd ha];exact h2,by rw [S.kd hc];exact h3,by rw [S.dp hc,S.dp ha];exact h4,fun x x1 x2=>?_,by rw [S.la ha,S.la hc];exact h6⟩
  have hx:x<q.length:=by omega
  rw [S.dp ha,S.dp hx,S.kd hx]
  exact h5 _ (S.mono c x x1 hx) (S.mono x a x2 ha)
theorem prune_drop {t : List Cl} {p : List Ln} (hv : jyb t p) : prP t (drP t p) = drP t (prP t p) := by
 have F1:=fine_dead hv
 have F2:=fine_bj hv
 have S1:=sub_flt F1.cl
 have S2:=sub_flt F2.cl
 have l1:(flt p (deadB t p)).length≤p.length:=by rw [← dr_eq hv];exact drP_len t p
 have l2:(flt p (fun i=>bjS p (i:Int))).length≤p.length:=by rw [← pr_eq hv];exact prP_len t p
 have hv1:=S1.valid F1 hv l1
 have hv2:=S2.valid F2 hv l2
 rw [dr_eq hv,pr_eq hv,pr_eq hv1,dr_eq hv2]
 rw [flt_flt (H:=fun i=>bjS p (i:Int)) (fun a ha=>S1.bj (fun m i h1 h2 h3 h4 h5 h6=>?_) ha),flt_flt (H:=deadB t p) (fun a ha=>?_)]
 ·unfold kp
  rw [List.filter_filter,List.filter_filter]
  congr 1
  refine List.filter_congr (fun i _=>?_)
  rw [Bool.and_comm]
 ·rw [Bool.eq_iff_iff,jsb,jsb]
  have hea:=S2.lt a ha
  constructor
  ·rintro ⟨x,x1,x2,x3⟩
   have hx:=(dx_sub S2 (by omega)).mp ((jgc hv2 (by omega)).mp x2)
   rcases Nat.lt_or_ge x a with g | g
   ·exact ⟨_,Nat.le_of_lt (S2.mono x a g ha),(jgc hv (S2.lt x (by omega))).mpr hx,(S2.blk g ha).mp x3⟩
   ·obtain rfl:x=a:=by omega
    exact ⟨_,Nat.le_refl _,(jgc hv hea).mpr hx,jNa _ _⟩
  ·rintro ⟨x,x1,x2,x3⟩
   have hG:bjS p (x:Int)=false:=jDc fun h=>by
    have hl:=S2.left a ha
    rcases Nat.lt_or_ge x ((kp p (fun i=>bjS p (i:Int))).getD a 0) with g | g
    ·have:=bjS_cl g x3 hea h
     simp_all
    ·rw [show x=(kp p (fun i=>bjS p (i:Int))).getD a 0 by omega] at h
     simp_all
   obtain ⟨c,hc,rfl⟩:=S2.onto x (by omega) hG
   have hx:=(dx_sub S2 hc).mpr ((jgc hv (S2.lt c hc)).mp x2)
   have hca:c≤a:=S2.le hc x1
   rcases Nat.lt_or_ge c a with g | g
   ·exact ⟨c,hca,(jgc hv2 hc).mpr hx,(S2.blk g ha).mpr x3⟩
   ·obtain rfl:c=a:=by omega
    exact ⟨c,hca,(jgc hv2 hc).mpr hx,jNa _ _⟩
 ·obtain ⟨x,x1,x2,x3⟩:=jsb.mp h3
  rcases Nat.lt_or_ge x m with g | g
  ·rcases Nat.lt_or_ge i (bEnd p x) with f | f
   ·have:deadB t p i=true:=jsb.mpr ⟨x,by omega,x2,f⟩
    rw [h4] at this;cases this
   ·exact bEnd_drop g x3 f h2 h6
  ·obtain rfl:x=m:=by omega
   obtain ⟨j,hj⟩:=(jgc hv (by omega)).mp x2
   exact jmp_not h5 (by rw [hj.2.1];omega)
theorem ev_equalLines {r : List Ln} (hr : r.length ≤ 1048576) : Ev (fun k => jX.f k r r) true := by
 have go:∀ (n i:Nat),r.length≤n+i→Ev (fun k=>jX.l0 k r r i) true:=by
  intro n
  induction n with
  | zero =>
   intro i h
   refine Ev.step (fun k=>by rw [jX.l0]) ?_
   exact Ev.neg (by omega) (Ev.now _)
  | succ n ih =>
   intro i h
   refine Ev.step (fun k=>by rw [jX.l0]) ?_
   by_cases hi:i<r.length
   ·rw [wS (by omega)]
    exact Ev.pos (by omega) (Ev.pos (by omega) (Ev.pos (by omega) (Ev.neg (by simp) (ih (i+1) (by omega)))))
   ·exact Ev.neg (by omega) (Ev.now _)
 unfold jX.f
 exact Ev.pos rfl (go r.length 0 (by omega))
end Go.Proofs.Ytkhiiiddbmgiaaa.Pure
end
