/- One part of the proofs on this program: functions of the program as plain functions, that the code comes to them, and facts on them. -/
import Derived.Test.YtlkdlibbbekipaaDoorYAll1
import Derived.Test.YtlkdlibbbekipaaDoorYAll2
import Derived.Test.YtlkdlibbbekipaaDoorYMnu
import Derived.Test.YtlkdlibbbekipaaDoorYMxv
section
set_option linter.unusedSimpArgs false
set_option linter.unusedVariables false
namespace Go.Proofs.YtlkdlibbbekipaaDoor.Pure
open Go Go.RowKit Go.Proofs.YtlkdlibbbekipaaDoor.P Go.Proofs.YtlkdlibbbekipaaDoorW.PrintWords
set_option linter.unusedVariables false
def exTx (t : List Cl) (x : Ex) : ByteArray :=
 if x.f0=2 then (⟨#[99,97,116,99,104,32]⟩:ByteArray) ++ cn t x.f1.toNat
 else if x.f0=3 then (((⟨#[114,97,105,115,101,32]⟩:ByteArray) ++ cn t x.f1.toNat) ++ (⟨#[32]⟩:ByteArray)) ++ dgB x.f2.toNat
 else if x.f0=1 then (⟨#[116,101,108,108,32]⟩:ByteArray) ++ dgB x.f1.toNat
 else (⟨#[99,97,108,108,32]⟩:ByteArray) ++ dgB x.f1.toNat
theorem sz5 (a b c d e : UInt8) : (⟨#[a, b, c, d, e]⟩ : ByteArray).size = 5 := rfl
theorem sz6 (a b c d e f : UInt8) : (⟨#[a, b, c, d, e, f]⟩ : ByteArray).size = 6 := rfl
theorem sz1 (a : UInt8) : (⟨#[a]⟩ : ByteArray).size = 1 := rfl
structure EG (t : List Cl) (x : Ex) : Prop where
 k:x.f0=0∨x.f0=1∨x.f0=2∨x.f0=3
 a:x.f0=0∨x.f0=1→0≤x.f1∧x.f1≤99
 c:x.f0=2∨x.f0=3→0≤x.f1∧x.f1<(t.length:Int)
 b:x.f0=3→0≤x.f2∧x.f2≤99
theorem EG.of {t : List Cl} {x : Ex} (h : exB t x = true) : EG t x := by
 unfold exB at h
 by_cases h0:x.f0=0∨x.f0=1
 ·rw [if_pos h0,Bool.and_eq_true] at h
  have h1:=bw_iff.mp h.1
  exact ⟨by omega,fun _=>h1,fun h=>by omega,fun h=>by omega⟩
 ·rw [if_neg h0] at h
  by_cases h2:x.f0=2
  ·rw [if_pos h2,Bool.and_eq_true] at h
   have h1:=bw_iff.mp (show bw x.f1 0 ((t.length:Int) - 1)=true from h.1)
   exact ⟨by omega,fun h=>by omega,fun _=>by omega,fun h=>by omega⟩
  ·rw [if_neg h2] at h
   by_cases h3:x.f0=3
   ·rw [if_pos h3,Bool.and_eq_true] at h
    have h1:=bw_iff.mp (show bw x.f1 0 ((t.length:Int) - 1)=true from h.1)
    have h4:=bw_iff.mp h.2
    exact ⟨by omega,fun h=>by omega,fun _=>by omega,fun _=>h4⟩
   ·rw [if_neg h3] at h;cases h
theorem dgI {z : Int} (h0 : 0 ≤ z) (h1 : z ≤ 99) : strconv_Itoa.f z = some (dgB z.toNat) := by
 have:=itoa_eq (n:=z.toNat) (by omega)
 rwa [Int.toNat_of_nonneg h0] at this
theorem dgS {z : Int} (h0 : 0 ≤ z) (h1 : z ≤ 99) : Ev (fun k => jI.f k z) (dgB z.toNat) := by
 have:=ev_number z.toNat (by omega)
 rwa [Int.toNat_of_nonneg h0] at this
theorem rdc {t : List Cl} {z : Int} (h0 : 0 ≤ z) : (jg t z).f0 = cn t z.toNat := rfl
theorem exTx_size {t : List Cl} (ht : TS t) {x : Ex} (g : EG t x) : (exTx t x).size ≤ 1048800 := by
 unfold exTx
 split
 ·rename_i h2
  have h1:=g.c (by omega)
  have:=ht.2 x.f1.toNat (by omega)
  rw [ByteArray.size_append,sz6];omega
 ·split
  ·rename_i h2 h3
   have h1:=g.c (by omega)
   have h4:=g.b h3
   have:=ht.2 x.f1.toNat (by omega)
   have:=jHa x.f2.toNat
   rw [ByteArray.size_append,ByteArray.size_append,ByteArray.size_append,sz6,sz1];omega
  ·split
   ·have h1:=g.a (by omega)
    have:=jHa x.f1.toNat
    rw [ByteArray.size_append,sz5];omega
   ·have h1:=g.a (by have:=g.k;omega)
    have:=jHa x.f1.toNat
    rw [ByteArray.size_append,sz5];omega
theorem ev_sTx {t : List Cl} (ht : TS t) {x : Ex} (g : EG t x) : Ev (fun k => jwa.f k t x.f0 x.f1 x.f2) (exTx t x) := by
 unfold jwa.f exTx
 by_cases h2:x.f0=2
 ·have h1:=g.c (by omega)
  have h5:=ht.2 x.f1.toNat (by omega)
  rw [if_pos h2,rdc h1.1]
  exact Ev.pos h2 (Ev.pos (by omega) (Ev.pos (by omega) (Ev.pos (by omega) (Ev.now _))))
 ·rw [if_neg h2]
  refine Ev.neg h2 ?_
  by_cases h3:x.f0=3
  ·have h1:=g.c (by omega)
   have h4:=g.b h3
   have h5:=ht.2 x.f1.toNat (by omega)
   have h6:=jHa x.f2.toNat
   rw [if_pos h3,rdc h1.1]
   exact Ev.pos h3 (Ev.pos (by omega) (Ev.pos (by omega) (Ev.pos (by omega) (Ev.pos (by rw [ByteArray.size_append,sz6];omega) (Ev.bind (dgS h4.1 h4.2) (Ev.pos (by rw [ByteArray.size_append,ByteArray.size_append,sz6,sz1];omega) (Ev.now _)))))))
  ·rw [if_neg h3]
   refine Ev.neg h3 ?_
   have h1:=g.a (by have:=g.k;omega)
   have h6:=jHa x.f1.toNat
   by_cases h7:x.f0=1
   ·rw [if_pos h7]
    exact Ev.pos h7 (Ev.bind (dgS h1.1 h1.2) (Ev.pos (by omega) (Ev.now _)))
   ·rw [if_neg h7]
    exact Ev.neg h7 (Ev.bind (dgS h1.1 h1.2) (Ev.pos (by omega) (Ev.now _)))
theorem ev_iTx {t : List Cl} (ht : TS t) {x : Ex} (g : EG t x) : jpa.f x.f0 x.f1 x.f2 t = some (exTx t x) := by
 unfold jpa.f exTx
 rcases g.k with h | h | h | h
 ·have h1:=g.a (by omega)
  have h6:=jHa x.f1.toNat
  rw [h]
  simp only [dgI h1.1 h1.2,Option.bind_some,Int.reduceEq,reduceIte]
  rw [if_pos (by omega),show ((⟨#[99,97,108,108]⟩:ByteArray) ++ (⟨#[32]⟩:ByteArray))=(⟨#[99,97,108,108,32]⟩:ByteArray) from rfl]
 ·have h1:=g.a (by omega)
  have h6:=jHa x.f1.toNat
  rw [h]
  simp only [dgI h1.1 h1.2,Option.bind_some,Int.reduceEq,reduceIte]
  rw [if_pos (by omega),show ((⟨#[116,101,108,108]⟩:ByteArray) ++ (⟨#[32]⟩:ByteArray))=(⟨#[116,101,108,108,32]⟩:ByteArray) from rfl]
 ·have h1:=g.c (by omega)
  have h5:=ht.2 x.f1.toNat (by omega)
  rw [h]
  simp only [rdc h1.1,Option.bind_some,Int.reduceEq,reduceIte]
  rw [if_pos h1.1,if_pos h1.2,if_pos (by omega),show ((⟨#[99,97,116,99,104]⟩:ByteArray) ++ (⟨#[32]⟩:ByteArray))=(⟨#[99,97,116,99,104,32]⟩:ByteArray) from rfl]
 ·have h1:=g.c (by omega)
  have h4:=g.b h
  have h5:=ht.2 x.f1.toNat (by omega)
  have h6:=jHa x.f2.toNat
  rw [h]
  simp only [rdc h1.1,dgI h4.1 h4.2,Option.bind_some,Int.reduceEq,reduceIte]
  rw [if_pos h1.1,if_pos h1.2,if_pos (by omega),if_pos (by omega),show ((⟨#[114,97,105,115,101]⟩:ByteArray) ++ (⟨#[32]⟩:ByteArray))=(⟨#[114,97,105,115,101,32]⟩:ByteArray) from rfl]
def exL (t : List Cl) : List Ex → List UInt8
 | []=>[]
 | x :: r=>(exTx t x ++ (⟨#[10]⟩:ByteArray)).data.toList ++ exL t r
theorem cat_list (o x : ByteArray) (b : List UInt8) : o ++ (⟨(x.data.toList ++ b).toArray⟩ : ByteArray) = (o ++ x) ++ (⟨b.toArray⟩ : ByteArray) := by
 apply ByteArray.ext
 apply Array.toList_inj.mp
 simp
theorem ev_sXs {t : List Cl} (ht : TS t) {l : List Ex} (hl : l.length ≤ 8) (hg : ∀ x ∈ l, EG t x) : Ev (fun k => jv.f k t l) ⟨(exL t l).toArray⟩ := by
 have go:∀ (n i:Nat) (out:ByteArray),n+i=l.length→out.size≤1048801 * i→Ev (fun k=>jv.l0 k l out i t) (out ++ (⟨(exL t (l.drop i)).toArray⟩:ByteArray)):=by
  intro n
  induction n with
  | zero =>
   intro i out h ho
   refine Ev.step (fun k=>by rw [jv.l0]) ?_
   rw [List.drop_eq_nil_of_le (by omega),show out ++ (⟨(exL t []).toArray⟩:ByteArray)=out from ByteArray.append_empty]
   exact Ev.neg (by omega) (Ev.now _)
  | succ n ih =>
   intro i out h ho
   have hi:i<l.length:=by omega
   have hr:jy l (i:Int)=l[i]:=by simp [jy,List.getD_eq_getElem?_getD,hi]
   have hx:=hg l[i] (List.getElem_mem hi)
   have hz:=exTx_size ht hx
   refine Ev.step (fun k=>by rw [jv.l0]) ?_
   rw [hr,wS (by omega),List.drop_eq_getElem_cons hi]
   refine Ev.pos (by omega) (Ev.pos (by omega) (Ev.bind (ev_sTx ht hx) (Ev.pos (by omega) (Ev.pos (by rw [ByteArray.size_append];omega) ?_))))
   have e:=ih (i+1) ((out ++ exTx t l[i]) ++ (⟨#[10]⟩:ByteArray)) (by omega) (by rw [ByteArray.size_append,ByteArray.size_append,sz1];omega)
   have e2:out ++ (⟨(exL t (l[i] :: l.drop (i+1))).toArray⟩:ByteArray)=((out ++ exTx t l[i]) ++ (⟨#[10]⟩:ByteArray)) ++ (⟨(exL t (l.drop (i+1))).toArray⟩:ByteArray):=by
    simp only [exL]
    rw [cat_list]
    simp only [ByteArray.append_assoc]
   rw [e2]
   exact e
 have e:=go l.length 0 ⟨#[]⟩ (by omega) (Nat.le_refl _)
 rw [List.drop_zero,show (⟨#[]⟩:ByteArray) ++ (⟨(exL t l).toArray⟩:ByteArray)=⟨(exL t l).toArray⟩ from ByteArray.empty_append] at e
 exact e
theorem ev_iXs {t : List Cl} (ht : TS t) : ∀ {l : List Ex}, (∀ x ∈ l, EG t x) → Ev (fun k => exAll k t l) (exL t l)
 | [],_=>Ev.now _
 | x :: r,hg=>by
  have hx:=hg x (by simp)
  have hz:=exTx_size ht hx
  simp only [exAll,exL]
  rw [ev_iTx ht hx]
  simp only [Option.bind_some]
  exact (Ev.pos (by omega) (Ev.bind (ev_iXs ht (fun y hy=>hg y (by simp [hy]))) (Ev.now _)))
def exsT (t : List Cl) (l : List Ex) : ByteArray := if exsB t l = true then ⟨(exL t l).toArray⟩ else ⟨#[]⟩
theorem ev_ExitsText {t : List Cl} (ht : TS t) {l : List Ex} (hl : l.length ≤ 1048576) : Ev (fun k => jfa.f k t l) (exsT t l) ∧ Ev (fun k => jV.f k t l) (exsT t l) := by
 unfold jfa.f jV.f exsT
 have h1:=ev_sVE ht hl
 have h2:=ev_iVE ht hl
 cases hg:exsB t l with
 | false =>
  rw [hg] at h1 h2
  rw [if_neg (by simp)]
  exact ⟨Ev.bind h1 (Ev.neg (by simp) (Ev.now _)),Ev.bind h2 (Ev.neg (by simp) (Ev.now _))⟩
 | true =>
  rw [hg] at h1 h2
  rw [if_pos rfl]
  unfold exsB at hg
  rw [Bool.and_eq_true,Bool.and_eq_true,List.all_eq_true] at hg
  have h8:l.length≤8:=of_decide_eq_true hg.2.2
  have hE:∀ x ∈ l,EG t x:=fun x hx=>EG.of (hg.1 x hx)
  exact ⟨Ev.bind h1 (Ev.pos rfl (Ev.bind (ev_sXs ht h8 hE) (Ev.now _))),Ev.bind h2 (Ev.pos rfl (Ev.pos (by omega) (Ev.bind (ev_iXs ht hE) (Ev.now _))))⟩
end Go.Proofs.YtlkdlibbbekipaaDoor.Pure
end
