/- One part of the proofs on this program: functions of the program as plain functions, that the code comes to them, and facts on them. -/
import Derived.Test.YteibechlncphnaaDoorYAll1
import Derived.Test.YteibechlncphnaaDoorYAll2
import Derived.Test.YteibechlncphnaaDoorYAll4
import Derived.Test.YteibechlncphnaaDoorYAll5
import Derived.Test.YteibechlncphnaaDoorYDc
import Derived.Test.YteibechlncphnaaDoorYMhp
section
set_option linter.unusedSimpArgs false
set_option linter.unusedVariables false
namespace Go.Proofs.YteibechlncphnaaDoor.Pure
open Go Go.RowKit Go.Proofs.YteibechlncphnaaDoor.P Go.Proofs.YteibechlncphnaaDoorW.PrintWords
set_option linter.unusedVariables false
def XO (h : List Ft) : Prop := ∀ i, i < h.length → -1 ≤ fcx h i ∧ fcx h i < (h.length : Int)
def Acy (h : List Ft) : Prop := ∃ rk : Nat → Nat, ∀ i, i < h.length → ∀ j : Nat, fcx h i = (j : Int) → rk j < rk i
def GH (h : List Ft) : Prop := XO h ∧ Acy h
def stX (h : List Ft) (i : Nat) (v : Int) : List Ft := h.set i ⟨(ja h (i : Int)).f0, (ja h (i : Int)).f1, (ja h (i : Int)).f2, v, (ja h (i : Int)).f4⟩
theorem stX_len (h : List Ft) (i : Nat) (v : Int) : (stX h i v).length = h.length := by simp [stX]
theorem fcx_set {h : List Ft} {i : Nat} (hi : i < h.length) (y : Ft) (j : Nat) : fcx (h.set i y) j = if j = i then y.f3 else fcx h j := by
 unfold fcx
 by_cases e:j=i
 ·subst e
  rw [if_pos rfl];simp [List.getD_eq_getElem?_getD,List.getElem?_set_self hi]
 ·rw [if_neg e];simp [List.getD_eq_getElem?_getD,List.getElem?_set_ne (fun h=>e h.symm)]
theorem fcx_stX {h : List Ft} {i : Nat} (hi : i < h.length) (v : Int) (j : Nat) : fcx (stX h i v) j = if j = i then v else fcx h j := fcx_set hi _ j
theorem GH.congr {h h' : List Ft} (g : GH h) (hl : h'.length = h.length) (he : ∀ j, fcx h' j = fcx h j) : GH h' := by
 obtain ⟨a,rk,b⟩:=g
 exact ⟨fun i hi=>by rw [he,hl];exact a i (by omega),rk,fun i hi j e=>b i (by omega) j (by rw [← he];exact e)⟩
theorem GH.set_same {h : List Ft} (g : GH h) {i : Nat} (hi : i < h.length) {y : Ft} (hy : y.f3 = fcx h i) : GH (h.set i y) := by
 refine g.congr (by simp) (fun j=>?_)
 rw [fcx_set hi]
 split
 ·rename_i e;rw [e];exact hy
 ·rfl
inductive Cr (h : List Ft) : Nat → Nat → Prop
 | here (i:Nat):Cr h i i
 | step {i j k:Nat}:fcx h i=(j:Int)→Cr h j k→Cr h i k
theorem ev_rs_l0 {h : List Ft} (hn : h.length ≤ 1048576) (hX : XO h) {rk : Nat → Nat} (hr : ∀ i, i < h.length → ∀ j : Nat, fcx h i = (j : Int) → rk j < rk i) {f : Nat} (hf : f < h.length) (g : Int) : ∀ (n x : Nat), rk x < n → x < h.length → x ≠ f →
  ∃ h1,(h1=h∨∃ y,y<h.length∧rk y≤rk x∧h1=stX h y (-1))∧¬ Cr h1 x f∧Ev (fun k=>jha.l0 k f g x h) (stX h1 f g)
 | 0,x,h0,_,_=>by omega
 | n+1,x,h0,hx,hne=>by
  have hxx:=hX x hx
  by_cases c:fcx h x≥0
  ·obtain ⟨j,hj⟩:∃ j:Nat,fcx h x=(j:Int):=⟨(fcx h x).toNat,by omega⟩
   have hrk:=hr x hx j hj
   by_cases e:j=f
   ·refine ⟨stX h x (-1), .inr ⟨x,hx,Nat.le_refl _,rfl⟩,?_,?_⟩
    ·intro hc
     cases hc with
     | here=>exact hne rfl
     | step e1 _=>rw [fcx_stX hx,if_pos rfl] at e1;omega
    ·refine Ev.step (fun k=>by rw [jha.l0]) ?_
     refine Ev.pos (by omega) (Ev.pos (by omega) (Ev.pos c (Ev.pos (show fcx h x=(f:Int) by rw [hj,e]) ?_)))
     exact Ev.bind (Ev.now _) (Ev.pos (by omega) (Ev.pos (by omega) (Ev.now _)))
   ·obtain ⟨h1,a1,a2,a3⟩:=ev_rs_l0 hn hX hr hf g n j (by omega) (by omega) e
    refine ⟨h1,?_,?_,?_⟩
    ·rcases a1 with a1 | ⟨y,b1,b2,b3⟩
     ·exact .inl a1
     ·exact .inr ⟨y,b1,by omega,b3⟩
    ·intro hc
     cases hc with
     | here=>exact hne rfl
     | step e1 e2 =>
      have hfx:fcx h1 x=fcx h x:=by
       rcases a1 with a1 | ⟨y,b1,b2,b3⟩
       ·rw [a1]
       ·rw [b3,fcx_stX b1,if_neg (by intro hh;rw [hh] at hrk;omega)]
      rw [hfx,hj] at e1
      rw [← Int.ofNat.inj e1] at e2
      exact a2 e2
    ·refine Ev.step (fun k=>by rw [jha.l0]) ?_
     refine Ev.pos (by omega) (Ev.pos (by omega) (Ev.pos c (Ev.neg (show ¬ fcx h x=(f:Int) by rw [hj];omega) ?_)))
     rw [u3,hj]
     exact a3
  ·refine ⟨h, .inl rfl,?_,?_⟩
   ·intro hc
    cases hc with
    | here=>exact hne rfl
    | step e1 _=>omega
   ·refine Ev.step (fun k=>by rw [jha.l0]) ?_
    exact Ev.pos (by omega) (Ev.pos (by omega) (Ev.neg c (Ev.pos (by omega) (Ev.pos (by omega) (Ev.now _)))))
theorem ev_raised {h : List Ft} (hn : h.length ≤ 1048576) (gh : GH h) {f g : Nat} (hf : f < h.length) (hg : g < h.length) (hne : f ≠ g) : ∃ h2, Ev (fun k => jha.f k h f g) h2 ∧ GH h2 ∧ h2.length = h.length := by
 obtain ⟨hX,rk,hr⟩:=gh
 obtain ⟨h1,a1,a2,a3⟩:=ev_rs_l0 hn hX hr hf (g:Int) (rk g+1) g (by omega) hg (fun e=>hne e.symm)
 have hl1:h1.length=h.length:=by
  rcases a1 with a1 | ⟨y,_,_,a1⟩
  ·rw [a1]
  ·rw [a1,stX_len]
 have hfx:∀ i,fcx h1 i=fcx h i∨fcx h1 i = -1:=fun i=>by
  rcases a1 with a1 | ⟨y,b1,_,a1⟩
  ·rw [a1];exact .inl rfl
  ·rw [a1,fcx_stX b1]
   split
   ·exact .inr rfl
   ·exact .inl rfl
 have hr1:∀ i,i<h.length→∀ j:Nat,fcx h1 i=(j:Int)→rk j<rk i:=fun i hi j e=>by
  rcases hfx i with x | x
  ·exact hr i hi j (by rw [← x];exact e)
  ·omega
 refine ⟨stX h1 f g,?_,⟨fun i hi=>?_,?_⟩,by rw [stX_len,hl1]⟩
 ·unfold jha.f jdb.f
  simp only [Option.bind_some,List.nil_append,List.length_nil]
  refine Ev.bind (Ev.pos (by omega) (Ev.now _)) (Ev.neg (by omega) ?_)
  refine Ev.step (fun k=>by rw [jha.j0]) ?_
  exact Ev.neg (by simp) a3
 ·rw [stX_len] at hi ⊢
  rw [fcx_stX (by omega)]
  have:=hX i (by omega)
  split
  ·omega
  ·rcases hfx i with x | x
   ·rw [x];omega
   ·rw [x];omega
 ·refine ⟨fun i=>@ite _ (Cr h1 i f) (Classical.propDecidable _) (rk i+(rk g+1)) (rk i),fun i hi j e=>?_⟩
  rw [stX_len] at hi
  rw [fcx_stX (by omega)] at e
  simp only []
  by_cases ef:i=f
  ·rw [if_pos ef] at e
   have:j=g:=(Int.ofNat.inj e).symm
   rw [this,if_neg a2,if_pos (by rw [ef];exact .here f)]
   omega
  ·rw [if_neg ef] at e
   have hj:=hr1 i (by omega) j e
   by_cases cj:Cr h1 j f
   ·rw [if_pos cj,if_pos (.step e cj)];omega
   ·rw [if_neg cj]
    by_cases ci:Cr h1 i f
    ·exfalso
     cases ci with
     | here=>exact ef rfl
     | step e1 e2=>rw [e] at e1;rw [← Int.ofNat.inj e1] at e2;exact cj e2
    ·rw [if_neg ci];exact hj
theorem ev_gh_l1 {s : List Int} (hs : Rd s) : ∀ (n : Nat) (x p : Int) (h : List Ft), x ≤ n → n ≤ 100 → 0 ≤ p → p + 3 * n ≤ 536870912 → h.length ≤ 100 → GH h →
  ∃ r q,Ev (fun k=>jr.l1 k x s p h) (r,q)∧p≤q∧q≤p+3 * n∧r.length=h.length:=by
 intro n
 have stop:∀ (x p:Int) (h:List Ft),Ev (fun k=>jr.j2 k x false s p h) (h,p):=fun x p h=>by
  refine Ev.step (fun k=>by rw [jr.j2]) ?_
  exact Ev.neg (by simp) (Ev.now _)
 induction n with
 | zero =>
  intro x p h hx hn hp hp2 hl gh
  refine ⟨h,p,?_,by omega,by omega,rfl⟩
  refine Ev.step (fun k=>by rw [jr.l1]) ?_
  exact Ev.neg (by omega) (stop x p h)
 | succ n ih =>
  intro x p h hx hn hp hp2 hl gh
  by_cases hx0:x > 0
  ·by_cases hl1:(h.length:Int) > 1
   ·obtain ⟨f,e1,f0,f1,_⟩:=jPb hs (p:=p) hp (by omega) (h.length:Int) (by omega)
    obtain ⟨g,e2,g0,g1,_⟩:=jPb hs (p:=p+1) (by omega) (by omega) (h.length:Int) (by omega)
    have hf:=f1 (by omega)
    have hg:=g1 (by omega)
    obtain ⟨f',rfl⟩:=Int.eq_ofNat_of_zero_le f0
    obtain ⟨g',rfl⟩:=Int.eq_ofNat_of_zero_le g0
    have wx:wrap64 (x - 1)=x - 1:=wr (by omega)
    have go:∀ {r q},Ev (fun k=>jr.j2 k x true s p h) (r,q)→Ev (fun k=>jr.l1 k x s p h) (r,q):=fun hh=>by
     refine Ev.step (fun k=>by rw [jr.l1]) ?_
     rw [decide_eq_true hl1]
     exact Ev.pos hx0 hh
    by_cases c:(f':Int)=(g':Int)
    ·obtain ⟨r,q,h1,h2,h3,h4⟩:=ih (x - 1) (p+1+1) (h.set f' ⟨(ja h (f':Int)).f0,(ja h (f':Int)).f1,(ja h (f':Int)).f2,(ja h (f':Int)).f3,!((ja h (f':Int)).f4)⟩) (by omega) (by omega) (by omega) (by omega) (by simpa using hl) (gh.set_same (by omega) rfl)
     refine ⟨r,q,go ?_,by omega,by omega,by simpa using h4⟩
     refine Ev.step (fun k=>by rw [jr.j2]) ?_
     refine Ev.pos rfl (Ev.bind e1 (Ev.bind e2 (Ev.pos c (Ev.pos f0 (Ev.pos hf ?_)))))
     rw [wx]
     exact h1
    ·obtain ⟨v,e3,v0,v1,_⟩:=jPb hs (p:=p+1+1) (by omega) (by omega) 3 (by omega)
     by_cases c2:v=0
     ·obtain ⟨r,q,h1,h2,h3,h4⟩:=ih (x - 1) (p+1+1+1) ((h.set f' ⟨(ja h (f':Int)).f0,(ja h (f':Int)).f1,(g':Int),(ja h (f':Int)).f3,(ja h (f':Int)).f4⟩).set f' ⟨(ja (h.set f' ⟨(ja h (f':Int)).f0,(ja h (f':Int)).f1,(g':Int),(ja h (f':Int)).f3,(ja h (f':Int)).f4⟩) (f':Int)).f0,(ja (h.set f' ⟨(ja h (f':Int)).f0,(ja h (f':Int)).f1,(g':Int),(ja h (f':Int)).f3,(ja h (f':Int)).f4⟩) (f':Int)).f1,(ja (h.set f' ⟨(ja h (f':Int)).f0,(ja h (f':Int)).f1,(g':Int),(ja h (f':Int)).f3,(ja h (f':Int)).f4⟩) (f':Int)).f2,(ja (h.set f' ⟨(ja h (f':Int)).f0,(ja h (f':Int)).f1,(g':Int),(ja h (f':Int)).f3,(ja h (f':Int)).f4⟩) (f':Int)).f3,true⟩) (by omega) (by omega) (by omega) (by omega) (by simpa using hl) ((gh.set_same (i:=f') (y:=⟨(ja h (f':Int)).f0,(ja h (f':Int)).f1,(g':Int),(ja h (f':Int)).f3,(ja h (f':Int)).f4⟩) (by omega) rfl).set_same (i:=f') (by rw [List.length_set];omega) rfl)
      refine ⟨r,q,go ?_,by omega,by omega,by simpa using h4⟩
      refine Ev.step (fun k=>by rw [jr.j2]) ?_
      refine Ev.pos rfl (Ev.bind e1 (Ev.bind e2 (Ev.neg c (Ev.bind e3 (Ev.pos c2 (Ev.pos f0 (Ev.pos hf (Ev.bind (Ev.now _) ?_))))))))
      rw [wx]
      exact h1
     ·obtain ⟨h2',b1,b2,b3⟩:=ev_raised (h:=h) (f:=f') (g:=g') (by omega) gh (by omega) (by omega) (by omega)
      obtain ⟨r,q,h1,h2,h3,h4⟩:=ih (x - 1) (p+1+1+1) h2' (by omega) (by omega) (by omega) (by omega) (by omega) b2
      refine ⟨r,q,go ?_,by omega,by omega,by omega⟩
      refine Ev.step (fun k=>by rw [jr.j2]) ?_
      refine Ev.pos rfl (Ev.bind e1 (Ev.bind e2 (Ev.neg c (Ev.bind e3 (Ev.neg c2 (Ev.bind b1 ?_))))))
      rw [wx]
      exact h1
   ·refine ⟨h,p,?_,by omega,by omega,rfl⟩
    refine Ev.step (fun k=>by rw [jr.l1]) ?_
    rw [decide_eq_false hl1]
    exact Ev.pos hx0 (stop x p h)
  ·refine ⟨h,p,?_,by omega,by omega,rfl⟩
   refine Ev.step (fun k=>by rw [jr.l1]) ?_
   exact Ev.neg hx0 (stop x p h)
theorem ev_gh_l0 {s : List Int} (hs : Rd s) {t : List Cl} (ht : t.length ≤ 8) : ∀ (n : Nat) (x p : Int) (h : List Ft), x ≤ n → n ≤ 100 → 0 ≤ p → p + 3 * n + 20 ≤ 536870912 → h.length + n ≤ 100 → GH h →
  ∃ r q,Ev (fun k=>jr.l0 k x s p t h) (r,q)∧p≤q∧q≤p+3 * n+16∧r.length≤h.length+n:=by
 intro n
 have stop:∀ (x p:Int) (h:List Ft),¬ x > 0→0≤p→p+20≤536870912→h.length≤100→GH h→∃ r q,Ev (fun k=>jr.l0 k x s p t h) (r,q)∧p≤q∧q≤p+16∧r.length=h.length:=fun x p h hx hp hp2 hl gh=>by
  obtain ⟨v,e1,hv⟩:=ev_one hs (p:=p) hp (by omega) [3,4,2,5,0] (by simp) (by simp)
  have hv5:v≤5:=by simp only [List.mem_cons,List.not_mem_nil,or_false] at hv;omega
  obtain ⟨r,q,h1,h2,h3,h4⟩:=ev_gh_l1 hs 5 v (p+1) h hv5 (by omega) (by omega) (by omega) hl gh
  refine ⟨r,q,?_,by omega,by omega,h4⟩
  refine Ev.step (fun k=>by rw [jr.l0]) ?_
  exact Ev.neg hx (Ev.bind e1 h1)
 induction n with
 | zero =>
  intro x p h hx hn hp hp2 hl gh
  obtain ⟨r,q,a,b,c,d⟩:=stop x p h (by omega) hp (by omega) (by omega) gh
  exact ⟨r,q,a,by omega,by omega,by omega⟩
 | succ n ih =>
  intro x p h hx hn hp hp2 hl gh
  by_cases hx0:x > 0
  ·obtain ⟨a,e1,a0,a1,_⟩:=jPb hs (p:=p) hp (by omega) (t.length:Int) (by omega)
   obtain ⟨b,e2,_⟩:=ev_one hs (p:=p+1) (by omega) (by omega) [1,2,3,0,99] (by simp) (by simp)
   have hfx:∀ j,fcx (h ++ [(⟨a,b,(-1),(-1),false⟩:Ft)]) j=if j=h.length then -1 else fcx h j:=fun j=>by
    unfold fcx
    rcases Nat.lt_trichotomy j h.length with g | g | g
    ·rw [if_neg (by omega)];simp [List.getD_eq_getElem?_getD,List.getElem?_append_left g]
    ·rw [if_pos g,g];simp [List.getD_eq_getElem?_getD]
    ·rw [if_neg (by omega)]
     simp [List.getD_eq_getElem?_getD,List.getElem?_eq_none (show (h ++ [(⟨a,b,(-1),(-1),false⟩:Ft)]).length≤j by rw [List.length_append,List.length_singleton];omega),List.getElem?_eq_none (show h.length≤j by omega)]
   have gh':GH (h ++ [(⟨a,b,(-1),(-1),false⟩:Ft)]):=by
    obtain ⟨y1,rk,y2⟩:=gh
    refine ⟨fun i hi=>?_,rk,fun i hi j e=>?_⟩
    ·rw [List.length_append,List.length_singleton] at hi ⊢
     rw [hfx]
     split
     ·omega
     ·have:=y1 i (by omega);omega
    ·rw [List.length_append,List.length_singleton] at hi
     rw [hfx] at e
     split at e
     ·omega
     ·exact y2 i (by omega) j e
   obtain ⟨r,q,h1,h2,h3,h4⟩:=ih (x - 1) (p+1+1) (h ++ [(⟨a,b,(-1),(-1),false⟩:Ft)]) (by omega) (by omega) (by omega) (by omega) (by rw [List.length_append,List.length_singleton];omega) gh'
   rw [List.length_append,List.length_singleton] at h4
   refine ⟨r,q,?_,by omega,by omega,by omega⟩
   refine Ev.step (fun k=>by rw [jr.l0]) ?_
   refine Ev.pos hx0 (Ev.bind e1 (Ev.bind e2 ?_))
   unfold jQb.f jdb.f
   simp only [Option.bind_some,List.nil_append,List.length_nil]
   refine Ev.bind (Ev.bind (Ev.pos (by omega) (Ev.now _)) (Ev.pos (by omega) (Ev.now _))) ?_
   rw [wr (by omega)]
   exact h1
  ·obtain ⟨r,q,a,b,c,d⟩:=stop x p h hx0 hp (by omega) (by omega) gh
   exact ⟨r,q,a,by omega,by omega,by omega⟩
theorem ev_goodHeap {s : List Int} (hs : Rd s) {t : List Cl} (ht : t.length ≤ 8) {p : Int} (hp : 0 ≤ p) (hp2 : p ≤ 536870000) : ∃ r q, Ev (fun k => jr.f k s p t) (r, q) ∧ p ≤ q ∧ q ≤ p + 35 ∧ r.length ≤ 6 := by
 obtain ⟨v,e1,hv⟩:=ev_one hs (p:=p) hp (by omega) [4,5,3,6,2,1,0] (by simp) (by simp)
 have hv6:v≤6:=by simp only [List.mem_cons,List.not_mem_nil,or_false] at hv;omega
 obtain ⟨r,q,h1,h2,h3,h4⟩:=ev_gh_l0 hs ht 6 v (p+1) [] hv6 (by omega) (by omega) (by omega) (by simp) ⟨fun i hi=>by simp at hi,fun _=>0,fun i hi=>by simp at hi⟩
 refine ⟨r,q,?_,by omega,by omega,by simpa using h4⟩
 unfold jr.f
 exact Ev.bind e1 h1
theorem ev_someHeap {s : List Int} (hs : Rd s) {p : Int} (hp : 0 ≤ p) (hp2 : p ≤ 536860000) : ∃ t h q, Ev (fun k => jN.f k s p) (t, h, q) ∧ p ≤ q ∧ q ≤ p + 70 ∧ TO t ∧ h.length ≤ 6 := by
 obtain ⟨t,q1,e1,a1,a2,a3⟩:=ev_someTree hs hp (by omega)
 obtain ⟨h,q2,e2,b1,b2,b3⟩:=ev_goodHeap hs a3.1 (p:=q1) (by omega) (by omega)
 unfold jN.f
 by_cases c:(h.length:Int) > 0
 ·obtain ⟨k,e3,k0,k1,_⟩:=jPb hs (p:=q2) (by omega) (by omega) (h.length:Int) (by omega)
  obtain ⟨v,e4,v0,v1,_⟩:=jPb hs (p:=q2+1) (by omega) (by omega) 24 (by omega)
  have hk:=k1 (by omega)
  by_cases c0:v=0
  ·obtain ⟨w,e5,_⟩:=ev_one hs (p:=q2+1+1) (by omega) (by omega) [k,9,(-2)] (by simp) (by simp)
   exact ⟨_,_,_,Ev.bind e1 (Ev.bind e2 (Ev.pos c (Ev.bind e3 (Ev.bind e4 (Ev.pos c0 (Ev.bind e5 (Ev.pos k0 (Ev.pos hk (Ev.now _))))))))),by simp only [];omega,by simp only [];omega,a3,by simpa using b3⟩
  by_cases c1:v=1
  ·obtain ⟨w,e5⟩:=ev_aClass hs (p:=q2+1+1) (by omega) (by omega) a3.1
   exact ⟨_,_,_,Ev.bind e1 (Ev.bind e2 (Ev.pos c (Ev.bind e3 (Ev.bind e4 (Ev.neg c0 (Ev.pos c1 (Ev.bind e5 (Ev.pos k0 (Ev.pos hk (Ev.now _)))))))))),by simp only [];omega,by simp only [];omega,a3,by simpa using b3⟩
  by_cases c2:v=2
  ·obtain ⟨w,e5,_⟩:=ev_one hs (p:=q2+1+1) (by omega) (by omega) [(-1),100] (by simp) (by simp)
   exact ⟨_,_,_,Ev.bind e1 (Ev.bind e2 (Ev.pos c (Ev.bind e3 (Ev.bind e4 (Ev.neg c0 (Ev.neg c1 (Ev.pos c2 (Ev.bind e5 (Ev.pos k0 (Ev.pos hk (Ev.now _))))))))))),by simp only [];omega,by simp only [];omega,a3,by simpa using b3⟩
  by_cases c3:v=3
  ·obtain ⟨w,e5,_⟩:=ev_one hs (p:=q2+1+1) (by omega) (by omega) [k,24,0] (by simp) (by simp)
   exact ⟨_,_,_,Ev.bind e1 (Ev.bind e2 (Ev.pos c (Ev.bind e3 (Ev.bind e4 (Ev.neg c0 (Ev.neg c1 (Ev.neg c2 (Ev.pos c3 (Ev.bind e5 (Ev.pos k0 (Ev.pos hk (Ev.now _)))))))))))),by simp only [];omega,by simp only [];omega,a3,by simpa using b3⟩
  ·exact ⟨_,_,_,Ev.bind e1 (Ev.bind e2 (Ev.pos c (Ev.bind e3 (Ev.bind e4 (Ev.neg c0 (Ev.neg c1 (Ev.neg c2 (Ev.neg c3 (Ev.now _))))))))),by simp only [];omega,by simp only [];omega,a3,b3⟩
 ·exact ⟨_,_,_,Ev.bind e1 (Ev.bind e2 (Ev.neg c (Ev.now _))),by simp only [];omega,by simp only [];omega,a3,b3⟩
theorem ev_aFault {s : List Int} (hs : Rd s) {p : Int} (hp : 0 ≤ p) (hp2 : p ≤ 536870000) {h : List Ft} (hl : h.length ≤ 6) : ∃ f, Ev (fun k => jGb.f k s p h) (f, p + 2) := by
 obtain ⟨v,e1,v0,v1,_⟩:=jPb hs (p:=p) hp (by omega) 16 (by omega)
 unfold jGb.f
 have hp2':p+1+1=p+2:=by omega
 by_cases c:v=0
 ·obtain ⟨w,e2,_⟩:=ev_one hs (p:=p+1) (by omega) (by omega) [(-1),(h.length:Int),9] (by simp) (by simp)
  rw [hp2'] at e2
  exact ⟨w,Ev.bind e1 (Ev.pos c (Ev.bind e2 (Ev.now _)))⟩
 ·obtain ⟨w,e2,_⟩:=jPb hs (p:=p+1) (by omega) (by omega) (h.length:Int) (by omega)
  rw [hp2'] at e2
  exact ⟨w,Ev.bind e1 (Ev.neg c (Ev.bind e2 (Ev.now _)))⟩
theorem ev_faultIn {s : List Int} (hs : Rd s) {p : Int} (hp : 0 ≤ p) (hp2 : p ≤ 536860000) : ∃ t h f q, Ev (fun k => jEa.f k s p) (t, h, f, q) ∧ TO t ∧ h.length ≤ 6 := by
 obtain ⟨t,h,q,e1,a,b,c,d⟩:=ev_someHeap hs hp hp2
 obtain ⟨f,e2⟩:=ev_aFault hs (p:=q) (by omega) (by omega) d
 unfold jEa.f
 exact ⟨t,h,f,q+2,Ev.bind e1 (Ev.bind e2 (Ev.now _)),c,d⟩
end Go.Proofs.YteibechlncphnaaDoor.Pure
end
