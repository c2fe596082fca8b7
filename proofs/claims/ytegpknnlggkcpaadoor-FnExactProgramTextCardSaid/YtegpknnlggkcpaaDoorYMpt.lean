/- One part of the proofs on this program: functions of the program as plain functions, that the code comes to them, and facts on them. -/
import Derived.Test.YtegpknnlggkcpaaDoorYAll2
import Derived.Test.YtegpknnlggkcpaaDoorYAll3
import Derived.Test.YtegpknnlggkcpaaDoorYAll4
import Derived.Test.YtegpknnlggkcpaaDoorYAll5
import Derived.Test.YtegpknnlggkcpaaDoorYMe
import Derived.Test.YtegpknnlggkcpaaDoorYMnu
section
set_option linter.unusedSimpArgs false
set_option linter.unusedVariables false
namespace Go.Proofs.YtegpknnlggkcpaaDoor.Pure
open Go Go.RowKit Go.Proofs.YtegpknnlggkcpaaDoor.P Go.Proofs.YtegpknnlggkcpaaDoorW.PrintWords
set_option linter.unusedVariables false
def bTx (t : List Cl) (x : Ln) : ByteArray :=
 if x.f1=1∨x.f1=4∨x.f1=12 then (jcb x.f1 ++ (⟨#[32]⟩:ByteArray)) ++ dgB x.f2.toNat
 else if x.f1=2 then (((⟨#[114,97,105,115,101,32]⟩:ByteArray) ++ cn t x.f2.toNat) ++ (⟨#[32]⟩:ByteArray)) ++ dgB x.f3.toNat
 else if x.f1=8 then (⟨#[101,120,99,101,112,116,32]⟩:ByteArray) ++ cn t x.f2.toNat
 else if x.f1=11 then (if x.f3=1 then ((⟨#[119,105,116,104,32]⟩:ByteArray) ++ dgB x.f2.toNat) ++ (⟨#[32,113,117,105,101,116]⟩:ByteArray) else (⟨#[119,105,116,104,32]⟩:ByteArray) ++ dgB x.f2.toNat)
 else jcb x.f1
def pTx (t : List Cl) (x : Ln) : ByteArray := spN x.f0.toNat ++ bTx t x
theorem pz1 (a : UInt8) : (⟨#[a]⟩ : ByteArray).size = 1 := rfl
theorem pz5 (a b c d e : UInt8) : (⟨#[a, b, c, d, e]⟩ : ByteArray).size = 5 := rfl
theorem pz6 (a b c d e f : UInt8) : (⟨#[a, b, c, d, e, f]⟩ : ByteArray).size = 6 := rfl
theorem pz7 (a b c d e f g : UInt8) : (⟨#[a, b, c, d, e, f, g]⟩ : ByteArray).size = 7 := rfl
structure LG (t : List Cl) (x : Ln) : Prop where
 d:0≤x.f0∧x.f0≤5
 k:0≤x.f1∧x.f1≤12
 n:x.f1=1∨x.f1=4∨x.f1=12∨x.f1=11→0≤x.f2∧x.f2≤99
 c:x.f1=2∨x.f1=8→0≤x.f2∧x.f2<(t.length:Int)
 b:x.f1=2→0≤x.f3∧x.f3≤99
theorem LG.of {t : List Cl} {x : Ln} (hd : bw x.f0 0 5 = true) (h : numB t x.f1 x.f2 x.f3 = true) : LG t x := by
 have hd2:=bw_iff.mp hd
 unfold numB at h
 by_cases h1:x.f1=1∨x.f1=4
 ·rw [if_pos h1,Bool.and_eq_true] at h
  have a:=bw_iff.mp h.1
  exact ⟨hd2,by omega,fun _=>by omega,fun h=>by omega,fun h=>by omega⟩
 ·rw [if_neg h1] at h
  by_cases h2:x.f1=2
  ·rw [if_pos h2,Bool.and_eq_true] at h
   have a:=bw_iff.mp (show bw x.f2 0 ((t.length:Int) - 1)=true from h.1)
   have c:=bw_iff.mp h.2
   exact ⟨hd2,by omega,fun h=>by omega,fun _=>by omega,fun _=>c⟩
  ·rw [if_neg h2] at h
   by_cases h8:x.f1=8
   ·rw [if_pos h8,Bool.and_eq_true] at h
    have a:=bw_iff.mp (show bw x.f2 0 ((t.length:Int) - 1)=true from h.1)
    exact ⟨hd2,by omega,fun h=>by omega,fun _=>by omega,fun h=>by omega⟩
   ·rw [if_neg h8] at h
    by_cases h11:x.f1=11
    ·rw [if_pos h11,Bool.and_eq_true] at h
     have a:=bw_iff.mp h.1
     exact ⟨hd2,by omega,fun _=>by omega,fun h=>by omega,fun h=>by omega⟩
    ·rw [if_neg h11] at h
     by_cases h12:x.f1=12
     ·rw [if_pos h12,Bool.and_eq_true] at h
      have a:=bw_iff.mp h.1
      exact ⟨hd2,by omega,fun _=>by omega,fun h=>by omega,fun h=>by omega⟩
     ·rw [if_neg h12,Bool.and_eq_true] at h
      have a:=bw_iff.mp h.1
      exact ⟨hd2,by omega,fun h=>by omega,fun h=>by omega,fun h=>by omega⟩
theorem LG.all {t : List Cl} {p : List Ln} (hv : ValidP t p) : ∀ x ∈ p, LG t x := by
 intro x hx
 obtain ⟨i,hi,rfl⟩:=List.getElem_of_mem hx
 obtain ⟨h1,h2,_⟩:=hv.2.2 i hi
 have e:p.getD i z42=p[i]:=by simp [List.getD_eq_getElem?_getD,hi]
 unfold kd la lb at h1
 unfold dp at h2
 rw [e] at h1 h2
 exact LG.of h2 h1
theorem pdI {z : Int} (h0 : 0 ≤ z) (h1 : z ≤ 99) : strconv_Itoa.f z = some (dgB z.toNat) := by
 have:=itoa_eq (n:=z.toNat) (by omega)
 rwa [Int.toNat_of_nonneg h0] at this
theorem pdS {z : Int} (h0 : 0 ≤ z) (h1 : z ≤ 99) : Ev (fun k => jW.f k z) (dgB z.toNat) := by
 have:=ev_number z.toNat (by omega)
 rwa [Int.toNat_of_nonneg h0] at this
theorem prdc {t : List Cl} {z : Int} : (jE t z).f0 = cn t z.toNat := rfl
theorem bTx_size {t : List Cl} (ht : TS t) {x : Ln} (g : LG t x) : (bTx t x).size ≤ 1048800 := by
 have hn:=jBb x.f1
 have hd:=jqb x.f2.toNat
 have hd3:=jqb x.f3.toNat
 unfold bTx
 split
 ·have h1:=g.n (by omega)
  rw [ByteArray.size_append,ByteArray.size_append,pz1];omega
 ·split
  ·have h1:=g.c (by omega)
   have h4:=g.b (by omega)
   have:=ht.2 x.f2.toNat (by omega)
   rw [ByteArray.size_append,ByteArray.size_append,ByteArray.size_append,pz6,pz1];omega
  ·split
   ·have h1:=g.c (by omega)
    have:=ht.2 x.f2.toNat (by omega)
    rw [ByteArray.size_append,pz7];omega
   ·split
    ·have h1:=g.n (by omega)
     split
     ·rw [ByteArray.size_append,ByteArray.size_append,pz5,pz6];omega
     ·rw [ByteArray.size_append,pz5];omega
    ·omega
theorem pTx_size {t : List Cl} (ht : TS t) {x : Ln} (g : LG t x) : (pTx t x).size ≤ 1048900 := by
 have h1:=bTx_size ht g
 have h2:=g.d
 unfold pTx
 rw [ByteArray.size_append,jzb];omega
theorem ev_sLine {t : List Cl} (ht : TS t) {x : Ln} (g : LG t x) : Ev (fun k => jUa.f k t x.f0 x.f1 x.f2 x.f3) (bTx t x) := by
 have hl:(jeb.length:Int)=13:=rfl
 unfold jUa.f bTx
 by_cases h1:x.f1=1∨x.f1=4∨x.f1=12
 ·have a:=g.n (by omega)
  have d:=jqb x.f2.toNat
  rw [if_pos h1]
  exact Ev.pos h1 (Ev.bind (pdS a.1 a.2) (Ev.pos (by omega) (Ev.now _)))
 ·rw [if_neg h1]
  refine Ev.neg h1 ?_
  by_cases h2:x.f1=2
  ·have a:=g.c (by omega)
   have b:=g.b h2
   have d:=jqb x.f3.toNat
   have e:=ht.2 x.f2.toNat (by omega)
   rw [if_pos h2,prdc]
   exact Ev.pos h2 (Ev.pos a.1 (Ev.pos a.2 (Ev.pos (by omega) (Ev.bind (pdS b.1 b.2) (Ev.pos (by omega) (Ev.now _))))))
  ·rw [if_neg h2]
   refine Ev.neg h2 ?_
   by_cases h8:x.f1=8
   ·have a:=g.c (by omega)
    have e:=ht.2 x.f2.toNat (by omega)
    rw [if_pos h8,prdc]
    exact Ev.pos h8 (Ev.pos a.1 (Ev.pos a.2 (Ev.pos (by omega) (Ev.now _))))
   ·rw [if_neg h8]
    refine Ev.neg h8 ?_
    by_cases h11:x.f1=11
    ·have a:=g.n (by omega)
     have d:=jqb x.f2.toNat
     rw [if_pos h11]
     refine Ev.pos h11 (Ev.bind (pdS a.1 a.2) (Ev.pos (by omega) ?_))
     by_cases h3:x.f3=1
     ·simp only [if_pos h3];exact Ev.now _
     ·simp only [if_neg h3];exact Ev.now _
    ·rw [if_neg h11]
     have:=g.k
     exact Ev.neg h11 (Ev.pos (by omega) (Ev.now _))
theorem nm_sl (a : Int) : rdOf ByteArray.empty jia a = jcb a := rfl
theorem ev_iLine {t : List Cl} (ht : TS t) {x : Ln} (g : LG t x) : jOa.f x.f0 x.f1 x.f2 x.f3 t = some (pTx t x) := by
 have hl:(jia.length:Int)=13:=rfl
 have g1:=g.d
 have g2:=g.k
 unfold jOa.f pTx bTx jja
 rw [if_pos (by omega),if_pos (by omega),nm_sl]
 by_cases h1:x.f1=1∨x.f1=4∨x.f1=12
 ·have a:=g.n (by omega)
  have d:=jqb x.f2.toNat
  rw [if_pos h1,if_pos h1,pdI a.1 a.2]
  simp only [Option.bind_some]
  rw [if_pos (by omega)]
  simp only [ByteArray.append_assoc]
 ·rw [if_neg h1,if_neg h1]
  by_cases h11:x.f1=11
  ·have a:=g.n (by omega)
   have d:=jqb x.f2.toNat
   rw [if_pos h11,if_neg (by omega),if_neg (by omega),if_pos h11,pdI a.1 a.2]
   simp only [Option.bind_some]
   rw [if_pos (by omega),h11,show jcb 11=(⟨#[119,105,116,104]⟩:ByteArray) from rfl,show (⟨#[119,105,116,104,32]⟩:ByteArray)=(⟨#[119,105,116,104]⟩:ByteArray) ++ (⟨#[32]⟩:ByteArray) from rfl]
   by_cases h3:x.f3=1
   ·rw [if_pos h3,if_pos h3];simp only [ByteArray.append_assoc]
   ·rw [if_neg h3,if_neg h3];simp only [ByteArray.append_assoc]
  ·rw [if_neg h11]
   by_cases h8:x.f1=8
   ·have a:=g.c (by omega)
    have e:=ht.2 x.f2.toNat (by omega)
    rw [if_pos h8,prdc,if_pos a.1,if_pos a.2,if_pos (by omega),if_neg (show ¬ x.f1=2 by omega),if_pos h8,h8,show jcb 8=(⟨#[101,120,99,101,112,116]⟩:ByteArray) from rfl,show (⟨#[101,120,99,101,112,116,32]⟩:ByteArray)=(⟨#[101,120,99,101,112,116]⟩:ByteArray) ++ (⟨#[32]⟩:ByteArray) from rfl]
    simp only [ByteArray.append_assoc]
   ·rw [if_neg h8]
    by_cases h2:x.f1=2
    ·have a:=g.c (by omega)
     have b:=g.b h2
     have d:=jqb x.f3.toNat
     have e:=ht.2 x.f2.toNat (by omega)
     rw [if_pos h2,if_pos h2,prdc,if_pos a.1,if_pos a.2,if_pos (by omega),pdI b.1 b.2]
     simp only [Option.bind_some]
     rw [if_pos (by omega),h2,show jcb 2=(⟨#[114,97,105,115,101]⟩:ByteArray) from rfl,show (⟨#[114,97,105,115,101,32]⟩:ByteArray)=(⟨#[114,97,105,115,101]⟩:ByteArray) ++ (⟨#[32]⟩:ByteArray) from rfl]
     simp only [ByteArray.append_assoc]
    ·rw [if_neg h2,if_neg h2,if_neg h8,if_neg h11]
def pL (t : List Cl) : List Ln → List UInt8
 | []=>[]
 | x :: r=>(pTx t x ++ (⟨#[10]⟩:ByteArray)).data.toList ++ pL t r
theorem pcat_list (o x : ByteArray) (b : List UInt8) : o ++ (⟨(x.data.toList ++ b).toArray⟩ : ByteArray) = (o ++ x) ++ (⟨b.toArray⟩ : ByteArray) := by
 apply ByteArray.ext
 apply Array.toList_inj.mp
 simp
theorem spN_succ (n : Nat) : spN (n + 1) = (⟨#[32]⟩ : ByteArray) ++ spN n := by
 apply ByteArray.ext
 apply Array.toList_inj.mp
 simp [spN,Lib.repeatL]
theorem spN_zero : spN 0 = ByteArray.empty := rfl
theorem ev_sProg {t : List Cl} (ht : TS t) {l : List Ln} (hl : l.length ≤ 24) (hg : ∀ x ∈ l, LG t x) : Ev (fun k => jr.f k t l) ⟨(pL t l).toArray⟩ := by
 have go:∀ (n i:Nat) (out:ByteArray),n+i=l.length→out.size≤1048901 * i→Ev (fun k=>jr.l0 k l out i t) (out ++ (⟨(pL t (l.drop i)).toArray⟩:ByteArray)):=by
  intro n
  induction n with
  | zero =>
   intro i out h ho
   refine Ev.step (fun k=>by rw [jr.l0]) ?_
   rw [List.drop_eq_nil_of_le (by omega),show out ++ (⟨(pL t []).toArray⟩:ByteArray)=out from ByteArray.append_empty]
   exact Ev.neg (by omega) (Ev.now _)
  | succ n ih =>
   intro i out h ho
   have hi:i<l.length:=by omega
   have hr:jb l (i:Int)=l[i]:=by simp [jb,List.getD_eq_getElem?_getD,hi]
   have hx:=hg l[i] (List.getElem_mem hi)
   have hz:=bTx_size ht hx
   have hd:=hx.d
   have inner:∀ (m:Nat) (o:ByteArray),m≤5→o.size+m≤1048901 * i+5→Ev (fun k=>jr.l1 k l o i m t) (o ++ (spN m ++ (⟨((bTx t l[i] ++ (⟨#[10]⟩:ByteArray)).data.toList ++ pL t (l.drop (i+1))).toArray⟩:ByteArray))):=by
    intro m
    induction m with
    | zero =>
     intro o _ hos
     refine Ev.step (fun k=>by rw [jr.l1]) ?_
     rw [hr,wS (i:=i) (by omega)]
     refine Ev.neg (by omega) (Ev.pos (by omega) (Ev.pos (by omega) (Ev.bind (ev_sLine ht hx) (Ev.pos (by omega) (Ev.pos (by rw [ByteArray.size_append];omega) ?_)))))
     have e:=ih (i+1) ((o ++ bTx t l[i]) ++ (⟨#[10]⟩:ByteArray)) (by omega) (by rw [ByteArray.size_append,ByteArray.size_append,pz1];omega)
     rw [spN_zero,ByteArray.empty_append,pcat_list]
     rw [← ByteArray.append_assoc]
     exact e
    | succ m ihm =>
     intro o hm hos
     refine Ev.step (fun k=>by rw [jr.l1]) ?_
     rw [wr (x:=((m+1:Nat):Int) - 1) (by omega),iP,spN_succ]
     refine Ev.pos (by omega) (Ev.pos (by omega) ?_)
     have e:=ihm (o ++ (⟨#[32]⟩:ByteArray)) (by omega) (by rw [ByteArray.size_append,pz1];omega)
     simp only [ByteArray.append_assoc] at e ⊢
     exact e
   refine Ev.step (fun k=>by rw [jr.l0]) ?_
   rw [hr,List.drop_eq_getElem_cons hi]
   refine Ev.pos (by omega) (Ev.pos (by omega) ?_)
   have e:=inner l[i].f0.toNat out (by omega) (by omega)
   rw [Int.toNat_of_nonneg hd.1] at e
   have e2:out ++ (⟨(pL t (l[i] :: l.drop (i+1))).toArray⟩:ByteArray)=out ++ (spN l[i].f0.toNat ++ (⟨((bTx t l[i] ++ (⟨#[10]⟩:ByteArray)).data.toList ++ pL t (l.drop (i+1))).toArray⟩:ByteArray)):=by
    simp only [pL,pTx]
    rw [pcat_list,pcat_list]
    simp only [ByteArray.append_assoc]
   rw [e2]
   exact e
 have e:=go l.length 0 ⟨#[]⟩ (by omega) (Nat.le_refl _)
 rw [List.drop_zero,show (⟨#[]⟩:ByteArray) ++ (⟨(pL t l).toArray⟩:ByteArray)=⟨(pL t l).toArray⟩ from ByteArray.empty_append] at e
 exact e
theorem ev_lnAll {t : List Cl} (ht : TS t) : ∀ {l : List Ln}, (∀ x ∈ l, LG t x) → Ev (fun k => lnAll k t l) (pL t l)
 | [],_=>Ev.now _
 | x :: r,hg=>by
  have hx:=hg x (by simp)
  have hz:=pTx_size ht hx
  simp only [lnAll,pL]
  rw [ev_iLine ht hx]
  simp only [Option.bind_some]
  exact (Ev.pos (by omega) (Ev.bind (ev_lnAll ht (fun y hy=>hg y (by simp [hy]))) (Ev.now _)))
noncomputable def prT (t : List Cl) (l : List Ln) : ByteArray := if vB t l = true then ⟨(pL t l).toArray⟩ else ⟨#[]⟩
theorem ev_ProgramText {t : List Cl} (ht : TS t) {l : List Ln} (hl : l.length ≤ 1048576) : Ev (fun k => jwa.f k t l) (prT t l) ∧ Ev (fun k => jka.f k t l) (prT t l) := by
 unfold jwa.f jka.f prT
 have h1:=sValid hl ht
 have h2:=iValid hl ht
 cases hg:vB t l with
 | false =>
  rw [hg] at h1 h2
  rw [if_neg (by simp)]
  exact ⟨Ev.bind h1 (Ev.neg (by simp) (Ev.now _)),Ev.bind h2 (Ev.neg (by simp) (Ev.now _))⟩
 | true =>
  rw [hg] at h1 h2
  rw [if_pos rfl]
  have hv:=vB_iff.mp hg
  have hE:=LG.all hv
  have h8:=hv.2.1
  exact ⟨Ev.bind h1 (Ev.pos rfl (Ev.bind (ev_sProg ht h8 hE) (Ev.now _))),Ev.bind h2 (Ev.pos rfl (Ev.pos (by omega) (Ev.bind (ev_lnAll ht hE) (Ev.now _))))⟩
end Go.Proofs.YtegpknnlggkcpaaDoor.Pure
end
