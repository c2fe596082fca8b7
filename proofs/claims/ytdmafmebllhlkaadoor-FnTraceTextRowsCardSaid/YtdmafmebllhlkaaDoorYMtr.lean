/- One part of the proofs on this program: functions of the program as plain functions, that the code comes to them, and facts on them. -/
import Derived.Lib.Join
import Derived.Test.YtdmafmebllhlkaaDoorYAll1
import Derived.Test.YtdmafmebllhlkaaDoorYAll2
import Derived.Test.YtdmafmebllhlkaaDoorYAll3
import Derived.Test.YtdmafmebllhlkaaDoorYMnn
section
set_option linter.unusedSimpArgs false
set_option linter.unusedVariables false
namespace Go.Proofs.YtdmafmebllhlkaaDoor.Pure
open Go Go.RowKit Go.Proofs.YtdmafmebllhlkaaDoor.P Go.Proofs.YtdmafmebllhlkaaDoorW.PrintWords
set_option linter.unusedVariables false
abbrev Fm := S38
abbrev Rw := S42
def FS (l : List Fm) : Prop := l.length ≤ 1048576 ∧ ∀ c ∈ l, c.f0.size ≤ 1048576
def frB (x : Fm) : Bool := nameB x.f0 && bw x.f1 1 999
def trB (l : List Fm) : Bool := l.all frB && decide (l.length ≤ 12)
theorem fr_rd {l : List Fm} {i : Nat} (hi : i < l.length) : jb l (i : Int) = l[i] := by simp [jb, List.getD_eq_getElem?_getD, hi]
theorem rw_rd {l : List Rw} {i : Nat} (hi : i < l.length) : ja l (i : Int) = l[i] := by simp [ja, List.getD_eq_getElem?_getD, hi]
theorem ev_sFr {x : Fm} (hx : x.f0.size ≤ 1048576) : Ev (fun k => jka.f k x.f0 x.f1) (frB x) := by
 unfold jka.f frB
 refine Ev.bind (ev_validName hx) ?_
 rw [iR]
 cases nameB x.f0 with
 | true=>exact Ev.pos rfl (Ev.bind (Ev.now _) (Ev.now _))
 | false=>exact Ev.neg (by simp) (Ev.now _)
theorem ev_iFr {x : Fm} (hx : x.f0.size ≤ 1048576) : Ev (fun k => frBad k x) (!frB x) := by
 unfold frBad frB
 refine Ev.bind (ev_nameOk hx) ?_
 rw [iW]
 cases nameB x.f0 with
 | true=>exact Ev.pos rfl (Ev.bind (Ev.now _) (Ev.now _))
 | false=>exact Ev.neg (by simp) (Ev.now _)
theorem ev_sVT {l : List Fm} (hl : FS l) : Ev (fun k => jv.f k l) (trB l) := by
 have hn:=hl.1
 have go:∀ (n i:Nat),n+i=l.length→Ev (fun k=>jv.l0 k l i) ((l.drop i).all frB && decide (l.length≤12)):=by
  intro n
  induction n with
  | zero =>
   intro i h
   refine Ev.step (fun k=>by rw [jv.l0]) ?_
   rw [List.drop_eq_nil_of_le (by omega),List.all_nil,Bool.true_and,show decide (l.length≤12)=decide ((l.length:Int)≤12) by rw [decide_eq_decide];omega]
   exact Ev.neg (by omega) (Ev.now _)
  | succ n ih =>
   intro i h
   have hi:i<l.length:=by omega
   refine Ev.step (fun k=>by rw [jv.l0]) ?_
   rw [List.drop_eq_getElem_cons hi,List.all_cons,fr_rd hi,wS (by omega)]
   refine Ev.pos (by omega) (Ev.pos (by omega) (Ev.bind (ev_sFr (hl.2 _ (List.getElem_mem hi))) ?_))
   cases frB l[i] with
   | true=>rw [Bool.true_and];exact Ev.pos rfl (ih (i+1) (by omega))
   | false=>rw [Bool.false_and,Bool.false_and];exact Ev.neg (by simp) (Ev.now _)
 exact go l.length 0 (by omega)
def fxJ {α : Type} (q : α → Bool) : List α → Nat → Int
 | [],_=>-1
 | x :: r,i=>if q x=true then (i:Int) else fxJ q r (i+1)
theorem ev_fxJ {α : Type} {p : Nat → α → Option Bool} {q : α → Bool} : ∀ (l : List α) (i : Nat), (∀ x ∈ l, Ev (fun k => p k x) (q x)) → Ev (fun k => idxFrom (p k) l i) (fxJ q l i)
 | [],i,h=>Ev.now _
 | x :: r,i,h=>by
  simp only [idxFrom,fxJ]
  refine Ev.bind (h x List.mem_cons_self) ?_
  cases q x with
  | true=>exact Ev.pos rfl (Ev.now _)
  | false=>exact Ev.neg (by simp) (ev_fxJ r (i+1) (fun y hy=>h y (List.mem_cons_of_mem _ hy)))
theorem fxJ_any {α : Type} (q : α → Bool) : ∀ (l : List α) (i : Nat), decide (0 ≤ fxJ q l i) = l.any q
 | [],i=>by simp [fxJ]
 | x :: r,i=>by
  by_cases h:q x=true
  ·have e:fxJ q (x :: r) i=(i:Int):=if_pos h
   simp [e,h]
  ·have e:fxJ q (x :: r) i=fxJ q r (i+1):=if_neg h
   have h':q x=false:=by simpa using h
   simp only [e,List.any_cons,h',Bool.false_or]
   exact fxJ_any q r (i+1)
theorem ev_iVT {l : List Fm} (hl : FS l) : Ev (fun k => jw.f k l) (trB l) := by
 unfold jw.f trB
 by_cases h:l.length≤12
 ·refine Ev.pos (by omega) (Ev.bind (ev_fxJ (q:=fun x=>!frB x) l 0 (fun x hx=>ev_iFr (hl.2 x hx))) ?_)
  rw [fxJ_any,decide_eq_true h,Bool.and_true,List.not_any_eq_all_not]
  simp only [Bool.not_not]
  exact Ev.now _
 ·rw [decide_eq_false h,Bool.and_false]
  exact Ev.neg (by omega) (Ev.now _)
def eqK (a b : Fm) : Bool := (a.f0.toList == b.f0.toList) && (a.f1 == b.f1)
theorem eqK_iff {a b : Fm} : eqK a b = true ↔ a.f0.toList = b.f0.toList ∧ a.f1 = b.f1 := by unfold eqK; simp
def jHa (acc : List Rw) : Rw := ja acc ((acc.length - 1 : Nat) : Int)
def stepR (acc : List Rw) (x : Fm) : List Rw := if acc.length = 0 then acc ++ [⟨⟨x.f0, x.f1⟩, 1⟩] else if eqK (jHa acc).f0 x = true then acc.set (acc.length - 1) ⟨⟨(jHa acc).f0.f0, (jHa acc).f0.f1⟩, (jHa acc).f1 + 1⟩ else acc ++ [⟨⟨x.f0, x.f1⟩, 1⟩]
def rowsL (l : List Fm) : List Rw := l.foldl stepR []
structure RI (l : List Fm) (acc : List Rw) (i : Nat) : Prop where
 le:acc.length≤i
 ne:0<i→0<acc.length
 tm:∀ r ∈ acc,1≤r.f1∧r.f1≤(i:Int)
 fr:∀ r ∈ acc,r.f0 ∈ l
 ls:∀ (m:Nat) (h:m<l.length),i=m+1→(jHa acc).f0.f0.toList=l[m].f0.toList∧(jHa acc).f0.f1=l[m].f1
theorem lastR_snoc (acc : List Rw) (r : Rw) : jHa (acc ++ [r]) = r := by
 unfold jHa
 rw [rw_rd (by rw [List.length_append,List.length_singleton];omega)]
 simp
theorem lastR_set {acc : List Rw} (h : 0 < acc.length) (r : Rw) : jHa (acc.set (acc.length - 1) r) = r := by
 unfold jHa
 rw [List.length_set,rw_rd (by rw [List.length_set];omega)]
 simp
theorem lastR_mem {acc : List Rw} (h : 0 < acc.length) : jHa acc ∈ acc := by
 unfold jHa
 rw [rw_rd (by omega)]
 exact List.getElem_mem _
theorem RI.step {l : List Fm} {acc : List Rw} {i : Nat} (h : RI l acc i) (hi : i < l.length) : RI l (stepR acc l[i]) (i + 1) := by
 have hm:l[i] ∈ l:=List.getElem_mem hi
 have app:RI l (acc ++ [⟨⟨l[i].f0,l[i].f1⟩,1⟩]) (i+1):=by
  refine ⟨?_,?_,?_,?_,?_⟩
  ·rw [List.length_append,List.length_singleton];have:=h.le;omega
  ·intro _;rw [List.length_append,List.length_singleton];omega
  ·intro r hr
   rcases List.mem_append.1 hr with hr | hr
   ·have:=h.tm r hr;omega
   ·rw [List.mem_singleton] at hr;rw [hr];simp only;omega
  ·intro r hr
   rcases List.mem_append.1 hr with hr | hr
   ·exact h.fr r hr
   ·rw [List.mem_singleton] at hr;rw [hr];exact hm
  ·intro m hm2 e
   obtain rfl:i=m:=by omega
   rw [lastR_snoc]
   exact ⟨rfl,rfl⟩
 unfold stepR
 by_cases h0:acc.length=0
 ·rw [if_pos h0];exact app
 ·rw [if_neg h0]
  by_cases hk:eqK (jHa acc).f0 l[i]=true
  ·rw [if_pos hk]
   have hp:0<acc.length:=by omega
   have hl:=lastR_mem hp
   have ht:=h.tm _ hl
   refine ⟨?_,?_,?_,?_,?_⟩
   ·rw [List.length_set];have:=h.le;omega
   ·intro _;rw [List.length_set];exact hp
   ·intro r hr
    rcases List.mem_or_eq_of_mem_set hr with hr | hr
    ·have:=h.tm r hr;omega
    ·rw [hr];simp only;omega
   ·intro r hr
    rcases List.mem_or_eq_of_mem_set hr with hr | hr
    ·exact h.fr r hr
    ·rw [hr];exact h.fr (jHa acc) hl
   ·intro m hm2 e
    obtain rfl:i=m:=by omega
    rw [lastR_set hp]
    exact eqK_iff.mp hk
  ·rw [if_neg hk];exact app
theorem RI.zero (l : List Fm) : RI l [] 0 := ⟨by simp, fun h => by omega, by simp, by simp, fun m h e => by omega⟩
theorem drop_foldl {l : List Fm} {i : Nat} (hi : i < l.length) (acc : List Rw) : (l.drop i).foldl stepR acc = (l.drop (i + 1)).foldl stepR (stepR acc l[i]) := by rw [List.drop_eq_getElem_cons hi, List.foldl_cons]
theorem RI.all {l : List Fm} : ∀ (n i : Nat) (acc : List Rw), n + i = l.length → RI l acc i → RI l ((l.drop i).foldl stepR acc) l.length
 | 0,i,acc,h,hr=>by
  rw [List.drop_eq_nil_of_le (by omega),List.foldl_nil,show l.length=i by omega];exact hr
 | n+1,i,acc,h,hr=>by
  rw [drop_foldl (by omega)]
  exact RI.all n (i+1) _ (by omega) (hr.step (by omega))
theorem rows_RI (l : List Fm) : RI l (rowsL l) l.length := by
 have:=RI.all l.length 0 [] (by omega) (RI.zero l)
 rwa [List.drop_zero] at this
theorem wL {acc : List Rw} (h : 0 < acc.length) (h2 : acc.length ≤ 1048576) : wrap64 ((acc.length : Int) - 1) = ((acc.length - 1 : Nat) : Int) := by rw [wr (by omega)]; omega
theorem ev_fold {l : List Fm} (hn : l.length ≤ 1048576) : Ev (fun k => jI.f k l) (rowsL l) := by
 have go:∀ (n i:Nat) (acc:List Rw),n+i=l.length→RI l acc i→Ev (fun k=>jI.l0 k l acc i) ((l.drop i).foldl stepR acc):=by
  intro n
  induction n with
  | zero =>
   intro i acc h hr
   refine Ev.step (fun k=>by rw [jI.l0]) ?_
   rw [List.drop_eq_nil_of_le (by omega),List.foldl_nil]
   exact Ev.neg (by omega) (Ev.now _)
  | succ n ih =>
   intro i acc h hr
   have hi:i<l.length:=by omega
   have hle:=hr.le
   have nxt:=ih (i+1) _ (by omega) (hr.step hi)
   rw [drop_foldl hi]
   refine Ev.step (fun k=>by rw [jI.l0]) ?_
   rw [fr_rd hi,wS (i:=i) (by omega)]
   refine Ev.pos (by omega) ?_
   unfold stepR at nxt ⊢
   by_cases h0:acc.length=0
   ·rw [if_pos h0] at nxt ⊢
    exact Ev.neg (by rw [h0,wr (by omega)];omega) (Ev.pos (by omega) (Ev.pos (by omega) nxt))
   ·rw [if_neg h0] at nxt ⊢
    have hp:0<acc.length:=by omega
    have ht:=hr.tm _ (lastR_mem hp)
    rw [wL hp (by omega)]
    refine Ev.pos (by omega) (Ev.pos (by omega) (Ev.pos (by omega) (Ev.pos (by omega) ?_)))
    by_cases hk:eqK (jHa acc).f0 l[i]=true
    ·rw [if_pos hk] at nxt ⊢
     refine Ev.pos hk ?_
     have e:wrap64 ((jHa acc).f1+1)=(jHa acc).f1+1:=wr (by omega)
     have e2:(((acc.length - 1:Nat):Int)).toNat=acc.length - 1:=by omega
     rw [e2]
     show Ev (fun k=>jI.l0 k l (acc.set (acc.length - 1) ⟨⟨(jHa acc).f0.f0,(jHa acc).f0.f1⟩,wrap64 ((jHa acc).f1+1)⟩) ((i+1:Nat):Int)) _
     rw [e]
     exact nxt
    ·rw [if_neg hk] at nxt ⊢
     exact Ev.neg hk (Ev.pos (by omega) nxt)
 have:=go l.length 0 [] (by omega) (RI.zero l)
 rwa [List.drop_zero] at this
theorem ev_rows {l : List Fm} (hn : l.length ≤ 1048576) : Ev (fun k => jD.f k l) (rowsL l) := by
 have go:∀ (n i:Nat) (acc:List Rw),n+i=l.length→RI l acc i→Ev (fun k=>jD.l0 k l acc l (l.length:Int) i) ((l.drop i).foldl stepR acc):=by
  intro n
  induction n with
  | zero =>
   intro i acc h hr
   refine Ev.step (fun k=>by rw [jD.l0]) ?_
   rw [List.drop_eq_nil_of_le (by omega),List.foldl_nil]
   exact Ev.neg (by omega) (Ev.bind (Ev.now _) (Ev.now _))
  | succ n ih =>
   intro i acc h hr
   have hi:i<l.length:=by omega
   have hle:=hr.le
   have nxt:=ih (i+1) _ (by omega) (hr.step hi)
   rw [drop_foldl hi]
   refine Ev.step (fun k=>by rw [jD.l0]) ?_
   rw [fr_rd hi,wS (i:=i) (by omega)]
   refine Ev.pos (by omega) (Ev.pos (by omega) (Ev.pos (by omega) ?_))
   unfold stepR at nxt ⊢
   by_cases hi0:i=0
   ·have h0:acc.length=0:=by omega
    rw [if_pos h0] at nxt ⊢
    exact Ev.neg (by omega) (Ev.pos (by omega) nxt)
   ·obtain ⟨m,rfl⟩:∃ m,i=m+1:=⟨i - 1,by omega⟩
    have hp:0<acc.length:=hr.ne (by omega)
    have ht:=hr.tm _ (lastR_mem hp)
    have hs:=hr.ls m (by omega) rfl
    rw [if_neg (by omega)] at nxt ⊢
    rw [wP (by omega),fr_rd (by omega),wL hp (by omega)]
    refine Ev.pos (by omega) (Ev.pos (by omega) (Ev.pos (by omega) ?_))
    have hkk:eqK (jHa acc).f0 l[m+1]=((l[m].f0.toList == l[m+1].f0.toList) && (l[m].f1 == l[m+1].f1)):=by unfold eqK;rw [hs.1,hs.2]
    rw [hkk] at nxt ⊢
    by_cases hk:((l[m].f0.toList == l[m+1].f0.toList) && (l[m].f1 == l[m+1].f1))=true
    ·rw [if_pos hk] at nxt ⊢
     refine Ev.pos hk (Ev.pos (by omega) (Ev.pos (by omega) ?_))
     have e:wrap64 ((jHa acc).f1+1)=(jHa acc).f1+1:=wr (by omega)
     have e2:(((acc.length - 1:Nat):Int)).toNat=acc.length - 1:=by omega
     rw [e2]
     show Ev (fun k=>jD.l0 k l (acc.set (acc.length - 1) ⟨⟨(jHa acc).f0.f0,(jHa acc).f0.f1⟩,wrap64 ((jHa acc).f1+1)⟩) l (l.length:Int) ((m+1+1:Nat):Int)) _
     rw [e]
     exact nxt
    ·rw [if_neg hk] at nxt ⊢
     exact Ev.neg hk (Ev.pos (by omega) nxt)
 have:=go l.length 0 [] (by omega) (RI.zero l)
 rwa [List.drop_zero] at this
def rT (r : Rw) : ByteArray := if r.f1 = 1 then (r.f0.f0 ++ (⟨#[58]⟩ : ByteArray)) ++ dgB r.f0.f1.toNat else ((r.f0.f0 ++ (⟨#[58]⟩ : ByteArray)) ++ dgB r.f0.f1.toNat) ++ ((⟨#[42]⟩ : ByteArray) ++ dgB r.f1.toNat)
def rOk (r : Rw) : Prop := nameB r.f0.f0 = true ∧ 1 ≤ r.f0.f1 ∧ r.f0.f1 ≤ 999 ∧ 1 ≤ r.f1 ∧ r.f1 ≤ 12
theorem rT_size {r : Rw} (h : rOk r) : (rT r).size ≤ 2000 := by
 obtain ⟨h1,h2,h3,h4,h5⟩:=h
 have a:=name_size h1
 have b:=jTa r.f0.f1.toNat
 have c:=jTa r.f1.toNat
 have d:(⟨#[58]⟩:ByteArray).size=1:=rfl
 have e:(⟨#[42]⟩:ByteArray).size=1:=rfl
 unfold rT
 split <;> simp only [ByteArray.size_append] <;> omega
theorem rT_cc {r : Rw} (h : rOk r) : cc (rT r) = 1 := by
 obtain ⟨h1,h2,h3,h4,h5⟩:=h
 have d:cc (⟨#[58]⟩:ByteArray)=1:=rfl
 have e:cc (⟨#[42]⟩:ByteArray)=0:=rfl
 unfold rT
 split <;> simp only [cc_app,cc_name h1,cc_dgB,d,e]
def tl : List Rw → ByteArray
 | []=>⟨#[]⟩
 | r :: l=>((⟨#[32]⟩:ByteArray) ++ rT r) ++ tl l
def rsT : List Rw → ByteArray
 | []=>⟨#[]⟩
 | r :: l=>rT r ++ tl l
theorem emp_app (b : ByteArray) : (⟨#[]⟩ : ByteArray) ++ b = b := by
 rw [show (⟨#[]⟩:ByteArray)=ByteArray.empty from rfl];simp
theorem app_emp (b : ByteArray) : b ++ (⟨#[]⟩ : ByteArray) = b := by
 rw [show (⟨#[]⟩:ByteArray)=ByteArray.empty from rfl];simp
theorem tl_size : ∀ (l : List Rw), (∀ r ∈ l, rOk r) → (tl l).size ≤ 2001 * l.length
 | [],_=>Nat.le_refl _
 | r :: l,h=>by
  have a:=tl_size l (fun x hx=>h x (List.mem_cons_of_mem _ hx))
  have b:=rT_size (h r List.mem_cons_self)
  have d:(⟨#[32]⟩:ByteArray).size=1:=rfl
  rw [tl,ByteArray.size_append,ByteArray.size_append,List.length_cons];omega
theorem rsT_size (l : List Rw) (h : ∀ r ∈ l, rOk r) : (rsT l).size ≤ 2001 * l.length := by
 cases l with
 | nil=>exact Nat.le_refl _
 | cons r l =>
  have a:=tl_size l (fun x hx=>h x (List.mem_cons_of_mem _ hx))
  have b:=rT_size (h r List.mem_cons_self)
  rw [rsT,ByteArray.size_append,List.length_cons];omega
theorem tl_cc : ∀ (l : List Rw), (∀ r ∈ l, rOk r) → cc (tl l) = l.length
 | [],_=>rfl
 | r :: l,h=>by
  rw [tl,cc_app,cc_app,tl_cc l (fun x hx=>h x (List.mem_cons_of_mem _ hx)),rT_cc (h r List.mem_cons_self),List.length_cons]
  have:cc (⟨#[32]⟩:ByteArray)=0:=rfl
  omega
theorem rsT_cc (l : List Rw) (h : ∀ r ∈ l, rOk r) : cc (rsT l) = l.length := by
 cases l with
 | nil=>rfl
 | cons r l =>
  rw [rsT,cc_app,tl_cc l (fun x hx=>h x (List.mem_cons_of_mem _ hx)),rT_cc (h r List.mem_cons_self),List.length_cons];omega
theorem rsT_snoc (l : List Rw) (r : Rw) (h : l ≠ []) : rsT (l ++ [r]) = (rsT l ++ (⟨#[32]⟩ : ByteArray)) ++ rT r := by
 have ht:∀ l:List Rw,tl (l ++ [r])=(tl l ++ (⟨#[32]⟩:ByteArray)) ++ rT r:=by
  intro l
  induction l with
  | nil =>
   show (((⟨#[32]⟩:ByteArray) ++ rT r) ++ (⟨#[]⟩:ByteArray))=((⟨#[]⟩:ByteArray) ++ (⟨#[32]⟩:ByteArray)) ++ rT r
   rw [app_emp,emp_app]
  | cons x l ih=>rw [List.cons_append,tl,tl,ih];simp only [ByteArray.append_assoc]
 cases l with
 | nil=>exact absurd rfl h
 | cons x l=>rw [List.cons_append,rsT,rsT,ht];simp only [ByteArray.append_assoc]
theorem rsT_one (r : Rw) : rsT [r] = rT r := by rw [rsT, tl, app_emp]
theorem ev_sText {R : List Rw} (hR : ∀ r ∈ R, rOk r) (hl : R.length ≤ 1000) : ∀ (n i : Nat), n + i = R.length → Ev (fun k => jm.l0 k (rsT (R.take i)) R i) (rsT R)
 | 0,i,h=>by
  refine Ev.step (fun k=>by rw [jm.l0]) ?_
  rw [List.take_of_length_le (by omega)]
  exact Ev.neg (by omega) (Ev.now _)
 | n+1,i,h=>by
  have hi:i<R.length:=by omega
  have hok:=hR _ (List.getElem_mem hi)
  obtain ⟨h1,h2,h3,h4,h5⟩:=hok
  have nxt:=ev_sText hR hl n (i+1) (by omega)
  rw [List.take_succ_eq_append_getElem hi] at nxt
  have hz:=rsT_size (R.take i) (fun r hr=>hR r (List.mem_of_mem_take hr))
  have htl:(R.take i).length≤1000:=by rw [List.length_take];omega
  obtain ⟨p,hp⟩:∃ p:Nat,R[i].f0.f1=(p:Int):=⟨R[i].f0.f1.toNat,by omega⟩
  obtain ⟨q,hq⟩:∃ q:Nat,R[i].f1=(q:Int):=⟨R[i].f1.toNat,by omega⟩
  have dp:=jTa p
  have dq:=jTa q
  have dn:=name_size h1
  have d1:(⟨#[58]⟩:ByteArray).size=1:=rfl
  have d2:(⟨#[42]⟩:ByteArray).size=1:=rfl
  have d3:(⟨#[32]⟩:ByteArray).size=1:=rfl
  have jj:∀ A:ByteArray,A.size≤2001 * 1000+1→rsT (R.take i ++ [R[i]])=A ++ rT R[i]→Ev (fun k=>jm.j1 k A R i) (rsT R):=by
   intro A hA e
   rw [e] at nxt
   refine Ev.step (fun k=>by rw [jm.j1]) ?_
   rw [rw_rd hi,wS (i:=i) (by omega),hp,hq]
   refine Ev.pos (by omega) (Ev.pos (by omega) (Ev.pos (by omega) (Ev.pos (by rw [ByteArray.size_append];omega) (Ev.bind (ev_number p (by omega)) (Ev.pos (by simp only [ByteArray.size_append];omega) ?_)))))
   unfold rT at nxt
   rw [hp,hq,Int.toNat_natCast,Int.toNat_natCast] at nxt
   by_cases hq1:q=1
   ·rw [if_pos (by omega)] at nxt
    refine Ev.neg (by omega) ?_
    simp only [ByteArray.append_assoc] at nxt ⊢
    exact nxt
   ·rw [if_neg (by omega)] at nxt
    refine Ev.pos (by omega) (Ev.pos (by simp only [ByteArray.size_append];omega) (Ev.bind (ev_number q (by omega)) (Ev.pos (by simp only [ByteArray.size_append];omega) ?_)))
    simp only [ByteArray.append_assoc] at nxt ⊢
    exact nxt
  refine Ev.step (fun k=>by rw [jm.l0]) ?_
  refine Ev.pos (by omega) ?_
  by_cases h0:i=0
  ·subst h0
   refine Ev.neg (by omega) (jj _ (by omega) ?_)
   rw [List.take_zero,List.nil_append,rsT_one,rsT,emp_app]
  ·refine Ev.pos (by omega) (Ev.pos (by omega) (jj _ (by rw [ByteArray.size_append];omega) ?_))
   rw [rsT_snoc]
   intro e
   have:=congrArg List.length e
   rw [List.length_take,List.length_nil] at this
   omega
theorem joinTail_tl : ∀ (l : List Rw), Lib.joinTail (⟨#[32]⟩ : ByteArray).data.toList ((l.map rT).map (·.data.toList)) = (tl l).data.toList
 | []=>rfl
 | r :: l=>by
  have ih:=joinTail_tl l
  unfold Lib.joinTail at ih ⊢
  rw [List.map_cons,List.map_cons,List.map_cons,List.flatten_cons,ih,tl]
  simp
theorem join_rows (l : List Rw) : Lib.join ((l.map rT).map (·.data.toList)) (⟨#[32]⟩ : ByteArray).data.toList = (rsT l).data.toList := by
 cases l with
 | nil=>rfl
 | cons r l =>
  rw [List.map_cons,List.map_cons,Lib.join_cons,joinTail_tl,rsT]
  simp
theorem join_eq {R : List Rw} (hR : ∀ r ∈ R, rOk r) (hl : R.length ≤ 1000) : strings_Join.f (R.map rT) (⟨#[32]⟩ : ByteArray) = some (rsT R) := by
 have hz:=rsT_size R hR
 have hs:(rsT R).data.toList.length=(rsT R).size:=rfl
 unfold strings_Join.f joinT
 rw [join_rows,if_pos ⟨by rw [List.length_map];omega,by omega⟩]
theorem ev_iText {R : List Rw} (hR : ∀ r ∈ R, rOk r) (hl : R.length ≤ 1000) : ∀ (n i : Nat), n + i = R.length → Ev (fun k => jf.l0 k ((R.take i).map rT) R (R.length : Int) i) (rsT R)
 | 0,i,h=>by
  refine Ev.step (fun k=>by rw [jf.l0]) ?_
  rw [List.take_of_length_le (by omega),join_eq hR hl]
  exact Ev.neg (by omega) (Ev.bind (Ev.now _) (Ev.now _))
 | n+1,i,h=>by
  have hi:i<R.length:=by omega
  have hok:=hR _ (List.getElem_mem hi)
  obtain ⟨h1,h2,h3,h4,h5⟩:=hok
  have nxt:=ev_iText hR hl n (i+1) (by omega)
  rw [List.take_succ_eq_append_getElem hi,List.map_append,List.map_cons,List.map_nil] at nxt
  obtain ⟨p,hp⟩:∃ p:Nat,R[i].f0.f1=(p:Int):=⟨R[i].f0.f1.toNat,by omega⟩
  obtain ⟨q,hq⟩:∃ q:Nat,R[i].f1=(q:Int):=⟨R[i].f1.toNat,by omega⟩
  have dp:=jTa p
  have dq:=jTa q
  have dn:=name_size h1
  have d1:(⟨#[58]⟩:ByteArray).size=1:=rfl
  have d2:(⟨#[42]⟩:ByteArray).size=1:=rfl
  have hml:((R.take i).map rT).length≤1000:=by rw [List.length_map,List.length_take];omega
  refine Ev.step (fun k=>by rw [jf.l0]) ?_
  rw [rw_rd hi,wS (i:=i) (by omega),hp,hq,itoa3_eq (by omega)]
  refine Ev.pos (by omega) (Ev.pos (by omega) (Ev.pos (by omega) (Ev.pos (by omega) (Ev.bind (Ev.now _) (Ev.pos (by simp only [ByteArray.size_append];omega) ?_)))))
  by_cases hq1:q=1
  ·have e:rT R[i]=(R[i].f0.f0 ++ (⟨#[58]⟩:ByteArray)) ++ dgB p:=by unfold rT;rw [if_pos (by omega),hp,Int.toNat_natCast]
   rw [e] at nxt
   exact Ev.pos (by omega) (Ev.pos (by omega) nxt)
  ·have e:rT R[i]=((R[i].f0.f0 ++ (⟨#[58]⟩:ByteArray)) ++ dgB p) ++ ((⟨#[42]⟩:ByteArray) ++ dgB q):=by unfold rT;rw [if_neg (by omega),hp,hq,Int.toNat_natCast,Int.toNat_natCast]
   rw [e] at nxt
   refine Ev.neg (by omega) ?_
   rw [itoa3_eq (n:=q) (by omega)]
   exact Ev.bind (Ev.now _) (Ev.pos (by omega) (Ev.pos (by simp only [ByteArray.size_append];omega) (Ev.pos (by omega) nxt)))
theorem rows_ok {l : List Fm} (hv : trB l = true) : ∀ r ∈ rowsL l, rOk r := by
 intro r hr
 have h:=rows_RI l
 unfold trB at hv
 rw [Bool.and_eq_true,List.all_eq_true,decide_eq_true_eq] at hv
 have h1:=hv.1 _ (h.fr r hr)
 have h2:=h.tm r hr
 unfold frB at h1
 rw [Bool.and_eq_true] at h1
 have h3:=bw_iff.mp h1.2
 exact ⟨h1.1,h3.1,h3.2,h2.1,by have:=hv.2;omega⟩
def trT (l : List Fm) : ByteArray := if trB l = true then rsT (rowsL l) else ⟨#[]⟩
theorem ev_TraceText {l : List Fm} (hl : FS l) : Ev (fun k => jL.f k l) (trT l) ∧ Ev (fun k => jf.f k l) (trT l) := by
 have s1:=ev_sVT hl
 have i1:=ev_iVT hl
 unfold jL.f jf.f trT
 cases hv:trB l with
 | false =>
  rw [hv] at s1 i1
  rw [if_neg (by simp)]
  exact ⟨Ev.bind s1 (Ev.neg (by simp) (Ev.now _)),Ev.bind i1 (Ev.neg (by simp) (Ev.now _))⟩
 | true =>
  rw [hv] at s1 i1
  rw [if_pos rfl]
  have ok:=rows_ok hv
  have h:=rows_RI l
  have hlen:(rowsL l).length≤1000:=by
   have:=h.le
   unfold trB at hv
   rw [Bool.and_eq_true,decide_eq_true_eq] at hv
   have:=hv.2;omega
  have a:=ev_sText ok hlen (rowsL l).length 0 (by omega)
  have b:=ev_iText ok hlen (rowsL l).length 0 (by omega)
  rw [List.take_zero] at a b
  refine ⟨Ev.bind s1 (Ev.pos rfl (Ev.bind ?_ (Ev.now _))),Ev.bind i1 (Ev.pos rfl (Ev.bind (ev_rows hl.1) b))⟩
  unfold jm.f
  exact Ev.bind (ev_fold hl.1) a
theorem ev_FoldTrace {l : List Fm} (hl : FS l) (hv : trB l = true) : Ev (fun k => jva.f k l) (rowsL l) := by
 have i1:=ev_iVT hl
 rw [hv] at i1
 unfold jva.f
 exact Ev.bind i1 (Ev.pos rfl (Ev.bind (ev_rows hl.1) (Ev.now _)))
end Go.Proofs.YtdmafmebllhlkaaDoor.Pure
end
