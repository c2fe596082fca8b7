/- One part of the proofs on this program: functions of the program as plain functions, that the code comes to them, and facts on them. -/
import Derived.Lib.Join
import Derived.Test.YtpfaohdpnegjnaaDoorYAll2
import Derived.Test.YtpfaohdpnegjnaaDoorYAll3
import Derived.Test.YtpfaohdpnegjnaaDoorYAll4
import Derived.Test.YtpfaohdpnegjnaaDoorYAll5
import Derived.Test.YtpfaohdpnegjnaaDoorYMgv
import Derived.Test.YtpfaohdpnegjnaaDoorYMnu
section
set_option linter.unusedSimpArgs false
set_option linter.unusedVariables false
namespace Go.Proofs.YtpfaohdpnegjnaaDoor.Pure
open Go Go.RowKit Go.Proofs.YtpfaohdpnegjnaaDoor.P Go.Proofs.YtpfaohdpnegjnaaDoorW.PrintWords
set_option linter.unusedVariables false
theorem gt_rd {g : List Pt} {i : Nat} (hi : i < g.length) : ja g (i : Int) = g[i] := by simp [ja, List.getD_eq_getElem?_getD, hi]
theorem gt_get {g : List Pt} {i : Nat} (hi : i < g.length) : g.getD i z42 = g[i] := by simp [List.getD_eq_getElem?_getD, hi]
def jtl : List ByteArray → ByteArray
 | []=>⟨#[]⟩
 | x :: r=>((⟨#[32]⟩:ByteArray) ++ x) ++ jtl r
def jn : List ByteArray → ByteArray
 | []=>⟨#[]⟩
 | x :: r=>x ++ jtl r
theorem gemp_app (b : ByteArray) : (⟨#[]⟩ : ByteArray) ++ b = b := by
 rw [show (⟨#[]⟩:ByteArray)=ByteArray.empty from rfl];simp
theorem gapp_emp (b : ByteArray) : b ++ (⟨#[]⟩ : ByteArray) = b := by
 rw [show (⟨#[]⟩:ByteArray)=ByteArray.empty from rfl];simp
theorem jn_one (x : ByteArray) : jn [x] = x := by rw [jn, jtl, gapp_emp]
theorem jn_snoc (l : List ByteArray) (x : ByteArray) (h : l ≠ []) : jn (l ++ [x]) = (jn l ++ (⟨#[32]⟩ : ByteArray)) ++ x := by
 have ht:∀ l:List ByteArray,jtl (l ++ [x])=(jtl l ++ (⟨#[32]⟩:ByteArray)) ++ x:=by
  intro l
  induction l with
  | nil =>
   show (((⟨#[32]⟩:ByteArray) ++ x) ++ (⟨#[]⟩:ByteArray))=((⟨#[]⟩:ByteArray) ++ (⟨#[32]⟩:ByteArray)) ++ x
   rw [gapp_emp,gemp_app]
  | cons y l ih=>rw [List.cons_append,jtl,jtl,ih];simp only [ByteArray.append_assoc]
 cases l with
 | nil=>exact absurd rfl h
 | cons y l=>rw [List.cons_append,jn,jn,ht];simp only [ByteArray.append_assoc]
def jsz : List ByteArray → Nat
 | []=>0
 | x :: r=>(x.size+1)+jsz r
theorem jtl_size : ∀ l : List ByteArray, (jtl l).size = jsz l
 | []=>rfl
 | x :: r=>by
  have:=jtl_size r
  have d:(⟨#[32]⟩:ByteArray).size=1:=rfl
  rw [jtl,ByteArray.size_append,ByteArray.size_append,jsz];omega
theorem jn_size (l : List ByteArray) : (jn l).size ≤ jsz l := by
 cases l with
 | nil=>exact Nat.le_refl _
 | cons x r=>rw [jn,ByteArray.size_append,jtl_size,jsz];omega
theorem jsz_take : ∀ (l : List ByteArray) (i : Nat), jsz (l.take i) ≤ jsz l
 | [],i=>by simp [jsz]
 | x :: r,0=>by simp [jsz]
 | x :: r,i+1=>by have:=jsz_take r i;rw [List.take_succ_cons,jsz,jsz];omega
theorem gjoinTail : ∀ l : List ByteArray, Lib.joinTail (⟨#[32]⟩ : ByteArray).data.toList (l.map (·.data.toList)) = (jtl l).data.toList
 | []=>rfl
 | x :: l=>by
  have ih:=gjoinTail l
  unfold Lib.joinTail at ih ⊢
  rw [List.map_cons,List.map_cons,List.flatten_cons,ih,jtl]
  simp
theorem gjoin (l : List ByteArray) : Lib.join (l.map (·.data.toList)) (⟨#[32]⟩ : ByteArray).data.toList = (jn l).data.toList := by
 cases l with
 | nil=>rfl
 | cons x l =>
  rw [List.map_cons,Lib.join_cons,gjoinTail,jn]
  simp
theorem gjoin_eq {l : List ByteArray} (hl : l.length ≤ 1048576) (hz : jsz l ≤ 100000000000) : strings_Join.f l (⟨#[32]⟩ : ByteArray) = some (jn l) := by
 have h1:=jn_size l
 have hs:(jn l).data.toList.length=(jn l).size:=rfl
 unfold strings_Join.f joinT
 rw [gjoin,if_pos ⟨by omega,by omega⟩]
def up1 (x : Pt) : Pt := ⟨x.f0 - 1, x.f1, x.f2, x.f3⟩
def sh1 (l : List Pt) : List Pt := l.map up1
def kid (g : List Pt) (i : Nat) : List Pt := sh1 ((g.take (eN g i)).drop i)
def kdN (g : List Pt) : Nat → Nat → List (List Pt)
 | 0,_=>[]
 | n+1,i=>if i<g.length then kid g i :: kdN g n (eN g i) else []
def kdL (g : List Pt) : List (List Pt) := kdN g g.length 1
structure GS (t : List Cl) (g : List Pt) : Prop where
 ne:1≤g.length
 le:g.length≤1000
 d0:gd g 0=0
 ds:∀ i,0<i→i<g.length→1≤gd g i∧gd g i≤gd g (i - 1)+1∧gd g i≤5
 cd:∀ i,i<g.length→0≤gk g i∧gk g i≤99
 cl:∀ i,i<g.length→gg g i=false→0≤gc g i∧gc g i<(t.length:Int)
theorem GS.of {t : List Cl} {g : List Pt} (h : GrP t g) : GS t g := by
 obtain ⟨h1,h2,h3,h4⟩:=h
 refine ⟨h3,by omega,(h2 0 h3).2.2.1.mpr rfl,fun i h0 hi=>?_,fun i hi=>bw_iff.mp (h2 i hi).1,fun i hi hg=>?_⟩
 ·have a:=h2 i hi
  have b:=bw_iff.mp a.2.1
  have c:gd g i≠0:=fun e=>by have:=a.2.2.1.mp e;omega
  rcases a.2.2.2.1 h0 with d | d
  ·exact ⟨by omega,by omega,b.2⟩
  ·exact ⟨by omega,by omega,b.2⟩
 ·have:=(h2 i hi).2.2.2.2.2 hg
  have:=bw_iff.mp (show bw (gc g i) 0 ((t.length:Int) - 1)=true from this)
  exact ⟨by omega,by omega⟩
theorem kid_len {g : List Pt} {i : Nat} (hi : i < g.length) : (kid g i).length = eN g i - i := by
 have:=eN_le hi
 unfold kid sh1
 rw [List.length_map,List.length_drop,List.length_take];omega
theorem kid_at {g : List Pt} {i j : Nat} (hi : i < g.length) (hj : j < eN g i - i) : (kid g i).getD j z42 = up1 (g.getD (i + j) z42) := by
 have h1:=eN_le hi
 have hl:=kid_len hi
 have hlt:i+j<g.length:=by omega
 rw [gt_get (by omega),gt_get hlt]
 unfold kid sh1
 rw [List.getElem_map,List.getElem_drop,List.getElem_take]
theorem kid_d {g : List Pt} {i j : Nat} (hi : i < g.length) (hj : j < eN g i - i) : gd (kid g i) j = gd g (i + j) - 1 := by unfold gd; rw [kid_at hi hj]; rfl
theorem kid_g {g : List Pt} {i j : Nat} (hi : i < g.length) (hj : j < eN g i - i) : gg (kid g i) j = gg g (i + j) := by unfold gg; rw [kid_at hi hj]; rfl
theorem kid_c {g : List Pt} {i j : Nat} (hi : i < g.length) (hj : j < eN g i - i) : gc (kid g i) j = gc g (i + j) := by unfold gc; rw [kid_at hi hj]; rfl
theorem kid_k {g : List Pt} {i j : Nat} (hi : i < g.length) (hj : j < eN g i - i) : gk (kid g i) j = gk g (i + j) := by unfold gk; rw [kid_at hi hj]; rfl
theorem GS.kid {t : List Cl} {g : List Pt} (h : GS t g) {i : Nat} (h0 : 0 < i) (hi : i < g.length) (h1 : gd g i = 1) : GS t (kid g i) := by
 have hl:=kid_len hi
 have hgt:=eN_gt g i
 have hle:=eN_le hi
 have h2:=h.le
 refine ⟨by omega,by omega,?_,fun j hj0 hj=>?_,fun j hj=>?_,fun j hj hg=>?_⟩
 ·rw [kid_d hi (by omega)]
  show gd g i - 1=0
  omega
 ·have a:=h.ds (i+j) (by omega) (by omega)
  have b:=eN_in (g:=g) (i:=i) (j:=i+j) (by omega) (by omega)
  rw [kid_d hi (by omega),kid_d hi (by omega)]
  rw [show i+j - 1=i+(j - 1) by omega] at a
  exact ⟨by omega,by omega,by omega⟩
 ·rw [kid_k hi (by omega)];exact h.cd (i+j) (by omega)
 ·rw [kid_g hi (by omega)] at hg
  rw [kid_c hi (by omega)];exact h.cl (i+j) (by omega) hg
theorem GS.first {t : List Cl} {g : List Pt} (h : GS t g) (hl : 1 < g.length) : gd g 1 = 1 := by
 have a:=h.ds 1 (by omega) hl
 have b:=h.d0
 simp only [Nat.sub_self] at a
 omega
theorem GS.next {t : List Cl} {g : List Pt} (h : GS t g) {i : Nat} (h1 : gd g i = 1) (he : eN g i < g.length) : gd g (eN g i) = 1 := by
 have a:=eN_end he
 have b:=h.ds (eN g i) (by have:=eN_gt g i;omega) he
 omega
theorem ev_iDeeper {l : List Pt} (hl : l.length ≤ 1000) (hd : ∀ x ∈ l, 0 ≤ x.f0 ∧ x.f0 ≤ 5) : Ev (fun k => jga.f k l (-1)) (sh1 l) := by
 have go:∀ (n i:Nat),n+i=l.length→Ev (fun k=>jga.l0 k (-1) ((l.take i).map up1) l (l.length:Int) i) (sh1 l):=by
  intro n
  induction n with
  | zero =>
   intro i h
   refine Ev.step (fun k=>by rw [jga.l0]) ?_
   rw [List.take_of_length_le (by omega)]
   exact Ev.neg (by omega) (Ev.now _)
  | succ n ih =>
   intro i h
   have hi:i<l.length:=by omega
   have e:=ih (i+1) (by omega)
   have b:=hd _ (List.getElem_mem hi)
   rw [List.take_succ_eq_append_getElem hi,List.map_append,List.map_cons,List.map_nil] at e
   refine Ev.step (fun k=>by rw [jga.l0]) ?_
   rw [gt_rd hi,wS (i:=i) (by omega),wr (x:=l[i].f0+-1) (by omega)]
   exact Ev.pos (by omega) (Ev.pos (by omega) (Ev.pos (by omega) (Ev.pos (by rw [List.length_map,List.length_take];omega) e)))
 unfold jga.f
 exact Ev.pos (by omega) (Ev.pos (by omega) (go l.length 0 (by omega)))
theorem ev_sDeeper {l : List Pt} (hl : l.length ≤ 1000) (hd : ∀ x ∈ l, 0 ≤ x.f0 ∧ x.f0 ≤ 5) : Ev (fun k => jea.f k l (-1)) (sh1 l) := by
 have go:∀ (n i:Nat),n+i=l.length→Ev (fun k=>jea.l0 k (-1) ((l.take i).map up1 ++ l.drop i) i) (sh1 l):=by
  intro n
  induction n with
  | zero =>
   intro i h
   refine Ev.step (fun k=>by rw [jea.l0]) ?_
   rw [List.take_of_length_le (by omega),List.drop_eq_nil_of_le (by omega),List.append_nil,List.length_map]
   exact Ev.neg (by omega) (Ev.now _)
  | succ n ih =>
   intro i h
   have hi:i<l.length:=by omega
   have hti:((l.take i).map up1).length=i:=by rw [List.length_map,List.length_take];omega
   have e:=ih (i+1) (by omega)
   have b:=hd _ (List.getElem_mem hi)
   have hlen:((l.take i).map up1 ++ l.drop i).length=l.length:=by rw [List.length_append,hti,List.length_drop];omega
   have hr:ja ((l.take i).map up1 ++ l.drop i) (i:Int)=l[i]:=by
    show ((l.take i).map up1 ++ l.drop i).getD i z42=l[i]
    rw [List.getD_eq_getElem?_getD,List.getElem?_append_right (by omega),hti,Nat.sub_self,List.getElem?_drop,Nat.add_zero,List.getElem?_eq_getElem hi]
    rfl
   have hs:((l.take i).map up1 ++ l.drop i).set i (up1 l[i])=(l.take (i+1)).map up1 ++ l.drop (i+1):=by
    rw [List.set_append_right _ _ (by omega),hti,Nat.sub_self,List.drop_eq_getElem_cons hi,List.set_cons_zero,List.take_succ_eq_append_getElem hi,List.map_append,List.append_assoc]
    rfl
   refine Ev.step (fun k=>by rw [jea.l0]) ?_
   rw [hr,hlen,wS (i:=i) (by omega),wr (x:=l[i].f0+-1) (by omega),show ((i:Int)).toNat=i from rfl]
   refine Ev.pos (by omega) (Ev.pos (by omega) ?_)
   rw [← hs] at e
   exact e
 unfold jea.f
 simp only [Option.bind_some,List.nil_append,List.length_nil]
 exact Ev.pos (by omega) (go l.length 0 (by omega))
theorem sl_d {t : List Cl} {g : List Pt} (h : GS t g) {a b : Nat} : ∀ x ∈ (g.take b).drop a, 0 ≤ x.f0 ∧ x.f0 ≤ 5 := by
 intro x hx
 have hx2:=List.mem_of_mem_take (List.mem_of_mem_drop hx)
 obtain ⟨i,hi,rfl⟩:=List.getElem_of_mem hx2
 have e:gd g i=g[i].f0:=by unfold gd;rw [gt_get hi]
 rcases Nat.eq_zero_or_pos i with c | c
 ·subst c
  have:=h.d0
  rw [← e];omega
 ·have:=h.ds i c hi
  rw [← e];omega
theorem ev_iKids {t : List Cl} {g : List Pt} (h : GS t g) : Ev (fun k => jla.f k g) (kdL g) := by
 have hle:=h.le
 have go:∀ (n i:Nat) (acc:List (List Pt)),g.length≤n+i→0<i→(i<g.length→gd g i=1)→acc.length≤i→Ev (fun k=>jla.l0 k g acc i) (acc ++ kdN g n i):=by
  intro n
  induction n with
  | zero =>
   intro i acc h1 h2 h3 h4
   refine Ev.step (fun k=>by rw [jla.l0]) ?_
   rw [kdN,List.append_nil]
   exact Ev.neg (by omega) (Ev.now _)
  | succ n ih =>
   intro i acc h1 h2 h3 h4
   refine Ev.step (fun k=>by rw [jla.l0]) ?_
   rw [kdN]
   by_cases hi:i<g.length
   ·have hgt:=eN_gt g i
    have hel:=eN_le hi
    have e:=ih (eN g i) (acc ++ [kid g i]) (by omega) (by omega) (h.next (h3 hi)) (by rw [List.length_append,List.length_singleton];omega)
    have ed:=ev_iDeeper (l:=(g.take (eN g i)).drop i) (by rw [List.length_drop,List.length_take];omega) (sl_d h)
    rw [if_pos hi,show acc ++ kid g i :: kdN g n (eN g i)=(acc ++ [kid g i]) ++ kdN g n (eN g i) by simp]
    exact Ev.pos (by omega) (Ev.bind (ev_iEnd (by omega) hi) (Ev.pos (by omega) (Ev.pos (by omega) (Ev.pos (by omega) (Ev.bind ed (Ev.pos (by omega) (Ev.bind (ev_iEnd (by omega) hi) e)))))))
   ·rw [if_neg hi,List.append_nil]
    exact Ev.neg (by omega) (Ev.now _)
 have:=go g.length 1 [] (by omega) (by omega) (fun hl=>h.first hl) (by simp)
 rw [List.nil_append] at this
 exact this
theorem ev_sKids {t : List Cl} {g : List Pt} (h : GS t g) : Ev (fun k => jS.f k g) (kdL g) := by
 have hle:=h.le
 have go:∀ (n i:Nat) (acc:List (List Pt)),g.length≤n+i→0<i→(i<g.length→gd g i=1)→acc.length≤i→Ev (fun k=>jS.l0 k g acc i) (acc ++ kdN g n i):=by
  intro n
  induction n with
  | zero =>
   intro i acc h1 h2 h3 h4
   refine Ev.step (fun k=>by rw [jS.l0]) ?_
   rw [kdN,List.append_nil]
   exact Ev.neg (by omega) (Ev.now _)
  | succ n ih =>
   intro i acc h1 h2 h3 h4
   refine Ev.step (fun k=>by rw [jS.l0]) ?_
   rw [kdN]
   by_cases hi:i<g.length
   ·have hgt:=eN_gt g i
    have hel:=eN_le hi
    have e:=ih (eN g i) (acc ++ [kid g i]) (by omega) (by omega) (h.next (h3 hi)) (by rw [List.length_append,List.length_singleton];omega)
    have ed:=ev_sDeeper (l:=(g.take (eN g i)).drop i) (by rw [List.length_drop,List.length_take];omega) (sl_d h)
    rw [if_pos hi,show acc ++ kid g i :: kdN g n (eN g i)=(acc ++ [kid g i]) ++ kdN g n (eN g i) by simp,g0,h3 hi,show wrap64 (-1) = -1 from wr (by omega)]
    exact Ev.pos (by omega) (Ev.bind (ev_sEnd (by omega) hi) (Ev.pos (by omega) (Ev.pos (by omega) (Ev.pos (by omega) (Ev.bind ed (Ev.pos (by omega) (Ev.bind (ev_sEnd (by omega) hi) e)))))))
   ·rw [if_neg hi,List.append_nil]
    exact Ev.neg (by omega) (Ev.now _)
 have:=go g.length 1 [] (by omega) (by omega) (fun hl=>h.first hl) (by simp)
 rw [List.nil_append] at this
 exact this
def lfT (t : List Cl) (c d : Nat) : ByteArray := (cn t c ++ (⟨#[58]⟩ : ByteArray)) ++ dgB d
def gT (t : List Cl) : Nat → List Pt → ByteArray
 | 0,_=>⟨#[]⟩
 | n+1,g=>if gg g 0=true then ((dgB (gk g 0).toNat ++ (⟨#[40]⟩:ByteArray)) ++ jn ((kdL g).map (gT t n))) ++ (⟨#[41]⟩:ByteArray) else lfT t (gc g 0).toNat (gk g 0).toNat
theorem lfT_size {t : List Cl} (ht : TS t) {c d : Nat} (hc : c < t.length) (hd : d ≤ 99) : (lfT t c d).size ≤ 1048700 := by
 have h1:=ht.2 c hc
 have h2:=jnb d
 have d1:(⟨#[58]⟩:ByteArray).size=1:=rfl
 unfold lfT
 rw [ByteArray.size_append,ByteArray.size_append];omega
theorem gT_size {t : List Cl} (ht : TS t) : ∀ (n : Nat) (g : List Pt), g.length ≤ n → GS t g → (gT t n g).size + 1 ≤ 1048800 * g.length ∧ jsz ((kdL g).map (gT t (n - 1))) ≤ 1048800 * (g.length - 1)
 | 0,g,hl,h=>by have:=h.ne;omega
 | n+1,g,hl,h=>by
  have hne:=h.ne
  have hk:∀ (m i:Nat),0<i→(i<g.length→gd g i=1)→i≤g.length→jsz ((kdN g m i).map (gT t n))≤1048800 * (g.length - i):=by
   intro m
   induction m with
   | zero=>intro i _ _ _;simp [kdN,jsz]
   | succ m ih =>
    intro i h0 h1 h2
    rw [kdN]
    by_cases hi:i<g.length
    ·have hgt:=eN_gt g i
     have hel:=eN_le hi
     have hkl:=kid_len hi
     have a:=(gT_size ht n (kid g i) (by omega) (h.kid h0 hi (h1 hi))).1
     have b:=ih (eN g i) (by omega) (h.next (h1 hi)) hel
     rw [if_pos hi,List.map_cons,jsz]
     rw [hkl] at a
     omega
    ·rw [if_neg hi];simp [jsz]
  have hj:=hk g.length 1 (by omega) (fun hl=>h.first hl) hne
  refine ⟨?_,by rw [Nat.add_sub_cancel];exact hj⟩
  rw [gT]
  have hc:=h.cd 0 (by omega)
  have hd:=jnb (gk g 0).toNat
  by_cases hg:gg g 0=true
  ·have d1:(⟨#[40]⟩:ByteArray).size=1:=rfl
   have d2:(⟨#[41]⟩:ByteArray).size=1:=rfl
   have hjn:=jn_size ((kdL g).map (gT t n))
   have hj2:jsz ((kdL g).map (gT t n))≤1048800 * (g.length - 1):=hj
   rw [if_pos hg,ByteArray.size_append,ByteArray.size_append,ByteArray.size_append]
   omega
  ·have h1:=h.cl 0 (by omega) (by simpa using hg)
   have:=lfT_size ht (c:=(gc g 0).toNat) (d:=(gk g 0).toNat) (by omega) (by omega)
   rw [if_neg hg];omega
theorem kd_all {t : List Cl} {g : List Pt} (h : GS t g) : ∀ x ∈ kdL g, GS t x ∧ x.length < g.length := by
 have hk:∀ (m i:Nat),0<i→(i<g.length→gd g i=1)→∀ x ∈ kdN g m i,GS t x∧x.length<g.length:=by
  intro m
  induction m with
  | zero=>intro i _ _ x hx;simp [kdN] at hx
  | succ m ih =>
   intro i h0 h1 x hx
   rw [kdN] at hx
   by_cases hi:i<g.length
   ·rw [if_pos hi] at hx
    have hgt:=eN_gt g i
    have hel:=eN_le hi
    rcases List.mem_cons.1 hx with e | hx
    ·rw [e]
     exact ⟨h.kid h0 hi (h1 hi),by rw [kid_len hi];omega⟩
    ·exact ih (eN g i) (by omega) (h.next (h1 hi)) x hx
   ·rw [if_neg hi] at hx;simp at hx
 exact hk g.length 1 (by omega) (fun hl=>h.first hl)
theorem kd_len (g : List Pt) : (kdL g).length ≤ g.length := by
 have:∀ (m i:Nat),(kdN g m i).length≤m:=by
  intro m
  induction m with
  | zero=>intro i;simp [kdN]
  | succ m ih =>
   intro i
   rw [kdN]
   split
   ·have:=ih (eN g i);simp;omega
   ·simp
 exact this g.length 1
theorem rdL {l : List (List Pt)} {i : Nat} (hi : i < l.length) : jqb l (i : Int) = l[i] := by simp [jqb, List.getD_eq_getElem?_getD, hi]
theorem ev_sLf {t : List Cl} (ht : TS t) {c d : Int} (h0 : 0 ≤ c) (h1 : c < (t.length : Int)) (h2 : 0 ≤ d) (h3 : d ≤ 99) : Ev (fun k => jwa.f k t c d) (lfT t c.toNat d.toNat) := by
 have a:=ht.2 c.toNat (by omega)
 have b:=jnb d.toNat
 have d1:(⟨#[58]⟩:ByteArray).size=1:=rfl
 have en:=ev_number d.toNat (by omega)
 rw [Int.toNat_of_nonneg h2] at en
 unfold jwa.f lfT
 rw [show (jB t c).f0=cn t c.toNat from rfl]
 exact Ev.pos h0 (Ev.pos h1 (Ev.pos (by omega) (Ev.bind en (Ev.pos (by rw [ByteArray.size_append];omega) (Ev.now _)))))
theorem ev_iLf {t : List Cl} (ht : TS t) {c d : Int} (h0 : 0 ≤ c) (h1 : c < (t.length : Int)) (h2 : 0 ≤ d) (h3 : d ≤ 99) : jka.f t c d = some (lfT t c.toNat d.toNat) := by
 have a:=ht.2 c.toNat (by omega)
 have b:=jnb d.toNat
 have d1:(⟨#[58]⟩:ByteArray).size=1:=rfl
 have en:=itoa_eq (n:=d.toNat) (by omega)
 rw [Int.toNat_of_nonneg h2] at en
 unfold jka.f lfT
 rw [show (jB t c).f0=cn t c.toNat from rfl,if_pos h0,if_pos h1,if_pos (by omega),en]
 simp only [Option.bind_some]
 rw [if_pos (by rw [ByteArray.size_append];omega)]
theorem ev_iGT {t : List Cl} (ht : TS t) : ∀ (n : Nat) (g : List Pt), g.length ≤ n → GS t g → Ev (fun k => jl.f k t g) (gT t n g)
 | 0,g,hl,h=>by have:=h.ne;omega
 | n+1,g,hl,h=>by
  have hne:=h.ne
  have hle:=h.le
  have hc:=h.cd 0 (by omega)
  have hz:=(gT_size ht (n+1) g hl h).2
  simp only [Nat.add_sub_cancel] at hz
  have hkl:=kd_len g
  have hall:=kd_all h
  obtain ⟨K,hK⟩:∃ K,K=kdL g:=⟨_,rfl⟩
  have e0:ja g 0=ja g ((0:Nat):Int):=rfl
  have fin:Ev (fun k=>jl.l0 k g (K.map (gT t n)) K (K.length:Int) (K.length:Int) t) (((dgB (gk g 0).toNat ++ (⟨#[40]⟩:ByteArray)) ++ jn (K.map (gT t n))) ++ (⟨#[41]⟩:ByteArray)):=by
   have d1:(⟨#[40]⟩:ByteArray).size=1:=rfl
   have d2:(⟨#[41]⟩:ByteArray).size=1:=rfl
   have hd:=jnb (gk g 0).toNat
   have hjn:=jn_size (K.map (gT t n))
   have en:=itoa_eq (n:=(gk g 0).toNat) (by omega)
   rw [Int.toNat_of_nonneg hc.1] at en
   refine Ev.step (fun k=>by rw [jl.l0]) ?_
   rw [e0,g3,en,gjoin_eq (by rw [List.length_map,hK];omega) (by rw [hK];omega)]
   rw [hK] at hjn ⊢
   exact Ev.neg (by omega) (Ev.pos (by omega) (Ev.bind (Ev.now _) (Ev.pos (by omega) (Ev.bind (Ev.now _) (Ev.pos (by rw [ByteArray.size_append];omega) (Ev.pos (by rw [ByteArray.size_append,ByteArray.size_append];omega) (Ev.now _)))))))
  have go:∀ (m i:Nat),m+i=K.length→Ev (fun k=>jl.l0 k g ((K.take i).map (gT t n)) K (K.length:Int) i t) (((dgB (gk g 0).toNat ++ (⟨#[40]⟩:ByteArray)) ++ jn (K.map (gT t n))) ++ (⟨#[41]⟩:ByteArray)):=by
   intro m
   induction m with
   | zero =>
    intro i hi
    obtain rfl:i=K.length:=by omega
    rw [List.take_of_length_le (Nat.le_refl _)]
    exact fin
   | succ m ih =>
    intro i hi
    have hi2:i<K.length:=by omega
    have e:=ih (i+1) (by omega)
    have hx:=hall K[i] (by rw [← hK];exact List.getElem_mem hi2)
    have er:=ev_iGT ht n K[i] (by omega) hx.1
    rw [List.take_succ_eq_append_getElem hi2,List.map_append,List.map_cons,List.map_nil] at e
    refine Ev.step (fun k=>by rw [jl.l0]) ?_
    rw [rdL hi2,wS (i:=i) (by rw [hK] at hi2;omega)]
    exact Ev.pos (by omega) (Ev.pos (by omega) (Ev.pos (by omega) (Ev.bind er (Ev.pos (by rw [List.length_map,List.length_take];rw [hK] at hi2 ⊢;omega) e))))
  refine Ev.step (fun k=>by rw [jl.f]) ?_
  rw [gT,e0,g1,g2,g3]
  refine Ev.pos (by omega) ?_
  by_cases hg:gg g 0=true
  ·rw [if_pos hg,← hK]
   have ek:=ev_iKids h
   rw [← hK] at ek
   exact Ev.pos hg (Ev.bind ek (go K.length 0 (by omega)))
  ·have h1:=h.cl 0 (by omega) (by simpa using hg)
   rw [if_neg hg,ev_iLf ht h1.1 h1.2 hc.1 hc.2]
   exact Ev.neg hg (Ev.bind (Ev.now _) (Ev.now _))
theorem ev_sGT {t : List Cl} (ht : TS t) : ∀ (n : Nat) (g : List Pt), g.length ≤ n → GS t g → Ev (fun k => jq.f k t g) (gT t n g)
 | 0,g,hl,h=>by have:=h.ne;omega
 | n+1,g,hl,h=>by
  have hne:=h.ne
  have hle:=h.le
  have hc:=h.cd 0 (by omega)
  have hz:=(gT_size ht (n+1) g hl h).2
  simp only [Nat.add_sub_cancel] at hz
  have hkl:=kd_len g
  have hall:=kd_all h
  obtain ⟨K,hK⟩:∃ K,K=kdL g:=⟨_,rfl⟩
  have e0:ja g 0=ja g ((0:Nat):Int):=rfl
  have d1:(⟨#[40]⟩:ByteArray).size=1:=rfl
  have d2:(⟨#[41]⟩:ByteArray).size=1:=rfl
  have d3:(⟨#[32]⟩:ByteArray).size=1:=rfl
  have hd:=jnb (gk g 0).toNat
  have en:=ev_number (gk g 0).toNat (by omega)
  rw [Int.toNat_of_nonneg hc.1] at en
  have hB:∀ i,(jn ((K.take i).map (gT t n))).size≤1048800 * 1000:=by
   intro i
   have a:=jn_size ((K.take i).map (gT t n))
   have b:=jsz_take (K.map (gT t n)) i
   rw [List.map_take] at a ⊢
   rw [hK] at a b ⊢
   omega
  have go:∀ (m i:Nat),m+i=K.length→Ev (fun k=>jq.l0 k ((dgB (gk g 0).toNat ++ (⟨#[40]⟩:ByteArray)) ++ jn ((K.take i).map (gT t n))) K i t) (((dgB (gk g 0).toNat ++ (⟨#[40]⟩:ByteArray)) ++ jn (K.map (gT t n))) ++ (⟨#[41]⟩:ByteArray)):=by
   intro m
   induction m with
   | zero =>
    intro i hi
    obtain rfl:i=K.length:=by omega
    have b:=hB K.length
    refine Ev.step (fun k=>by rw [jq.l0]) ?_
    rw [List.take_of_length_le (Nat.le_refl _)] at b ⊢
    exact Ev.neg (by omega) (Ev.pos (by rw [ByteArray.size_append,ByteArray.size_append];omega) (Ev.now _))
   | succ m ih =>
    intro i hi
    have hi2:i<K.length:=by omega
    have hi3:i<1000:=by rw [hK] at hi2;omega
    have e:=ih (i+1) (by omega)
    have b:=hB i
    have hx:=hall K[i] (by rw [← hK];exact List.getElem_mem hi2)
    have er:=ev_sGT ht n K[i] (by omega) hx.1
    have hs:=(gT_size ht n K[i] (by omega) hx.1).1
    rw [List.take_succ_eq_append_getElem hi2,List.map_append,List.map_cons,List.map_nil] at e
    refine Ev.step (fun k=>by rw [jq.l0]) ?_
    rw [rdL hi2,wS (i:=i) (by omega)]
    refine Ev.pos (by omega) ?_
    by_cases h0:i=0
    ·subst h0
     rw [List.take_zero,List.map_nil,List.nil_append,jn_one] at e
     rw [List.take_zero,List.map_nil,show jn []=(⟨#[]⟩:ByteArray) from rfl,gapp_emp]
     exact Ev.neg (by omega) (Ev.pos (by omega) (Ev.bind er (Ev.pos (by rw [ByteArray.size_append];omega) e)))
    ·rw [jn_snoc _ _ (by intro e2;have:=congrArg List.length e2;rw [List.length_map,List.length_take,List.length_nil] at this;omega)] at e
     refine Ev.pos (by omega) (Ev.pos (by rw [ByteArray.size_append,ByteArray.size_append];omega) (Ev.pos (by omega) (Ev.bind er (Ev.pos (by rw [ByteArray.size_append,ByteArray.size_append,ByteArray.size_append];omega) ?_))))
     simp only [ByteArray.append_assoc] at e ⊢
     exact e
  refine Ev.step (fun k=>by rw [jq.f]) ?_
  rw [gT,e0,g1,g2,g3]
  refine Ev.pos (by omega) ?_
  by_cases hg:gg g 0=true
  ·rw [if_pos hg,← hK]
   have ek:=ev_sKids h
   rw [← hK] at ek
   have e:=go K.length 0 (by omega)
   rw [List.take_zero,List.map_nil,show jn []=(⟨#[]⟩:ByteArray) from rfl,gapp_emp] at e
   exact Ev.pos hg (Ev.bind en (Ev.pos (by omega) (Ev.bind ek e)))
  ·have h1:=h.cl 0 (by omega) (by simpa using hg)
   rw [if_neg hg]
   exact Ev.neg hg (Ev.bind (ev_sLf ht h1.1 h1.2 hc.1 hc.2) (Ev.now _))
noncomputable def grT (t : List Cl) (g : List Pt) : ByteArray := if gvB t g = true then gT t g.length g else ⟨#[]⟩
theorem ev_GroupText {t : List Cl} (ht : TS t) {g : List Pt} (hl : g.length ≤ 1048576) : Ev (fun k => jsa.f k t g) (grT t g) ∧ Ev (fun k => jia.f k t g) (grT t g) := by
 unfold jsa.f jia.f grT
 have h1:=ev_validGroup ht hl
 have h2:=ev_ValidGroup ht hl
 cases hg:gvB t g with
 | false =>
  rw [hg] at h1 h2
  rw [if_neg (by simp)]
  exact ⟨Ev.bind h1 (Ev.neg (by simp) (Ev.now _)),Ev.bind h2 (Ev.neg (by simp) (Ev.now _))⟩
 | true =>
  rw [hg] at h1 h2
  rw [if_pos rfl]
  have hG:=GS.of (gvB_iff.mp hg)
  exact ⟨Ev.bind h1 (Ev.pos rfl (Ev.bind (ev_sGT ht g.length g (Nat.le_refl _) hG) (Ev.now _))),Ev.bind h2 (Ev.pos rfl (Ev.bind (ev_iGT ht g.length g (Nat.le_refl _) hG) (Ev.now _)))⟩
end Go.Proofs.YtpfaohdpnegjnaaDoor.Pure
end
