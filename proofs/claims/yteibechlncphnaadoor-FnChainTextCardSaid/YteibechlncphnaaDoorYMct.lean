/- One part of the proofs on this program: functions of the program as plain functions, that the code comes to them, and facts on them. -/
import Derived.Test.YteibechlncphnaaDoorYAll5
import Derived.Test.YteibechlncphnaaDoorYAll6
import Derived.Test.YteibechlncphnaaDoorYAll7
import Derived.Test.YteibechlncphnaaDoorYAll8
import Derived.Test.YteibechlncphnaaDoorYMgb
import Derived.Test.YteibechlncphnaaDoorYMnu
section
set_option linter.unusedSimpArgs false
set_option linter.unusedVariables false
namespace Go.Proofs.YteibechlncphnaaDoor.Pure
open Go Go.RowKit Go.Proofs.YteibechlncphnaaDoor.P Go.Proofs.YteibechlncphnaaDoorW.PrintWords
set_option linter.unusedVariables false
def fTx (t : List Cl) (c d : Nat) : ByteArray := (cn t c ++ (⟨#[58]⟩ : ByteArray)) ++ dgB d
theorem fTx_size {t : List Cl} (ht : TS t) {c d : Nat} (hc : c < t.length) (hd : d ≤ 99) : (fTx t c d).size ≤ 1048700 := by
 unfold fTx
 rw [ByteArray.size_append,ByteArray.size_append]
 have h1:=ht.2 c hc
 have h2:=dgB_size d
 have:(⟨#[58]⟩:ByteArray).size=1:=rfl
 omega
theorem sFault {t : List Cl} (ht : TS t) {c d : Nat} (hc : c < t.length) (hd : d ≤ 99) : Ev (fun k => jtb.f k t (c : Int) (d : Int)) (fTx t c d) := by
 unfold jtb.f
 have h1:=ht.2 c hc
 have h2:=dgB_size d
 have h3:(cn t c ++ (⟨#[58]⟩:ByteArray)).size=(cn t c).size+1:=by rw [ByteArray.size_append];rfl
 rw [c0]
 exact Ev.pos (by omega) (Ev.pos (by omega) (Ev.pos (by omega) (Ev.bind (ev_number d (by omega)) (Ev.pos (by omega) (Ev.now _)))))
theorem iFault {t : List Cl} (ht : TS t) {c d : Nat} (hc : c < t.length) (hd : d ≤ 99) : jGa.f t (c : Int) (d : Int) = some (fTx t c d) := by
 unfold jGa.f
 have h1:=ht.2 c hc
 have h2:=dgB_size d
 have h3:(cn t c ++ (⟨#[58]⟩:ByteArray)).size=(cn t c).size+1:=by rw [ByteArray.size_append];rfl
 rw [c0,if_pos (by omega),if_pos (by omega),if_pos (by omega),itoa_eq (by omega)]
 simp only [Option.bind_some]
 rw [if_pos (by omega)];rfl
def shL (h : List Ft) (f : Int) : List Nat := wlk (snF h) (h.length + 1) f []
theorem snF_lt {h : List Ft} (hL : LO h) {i : Nat} (hi : i < h.length) : -1 ≤ snF h i ∧ snF h i < (h.length : Int) := by
 have h1:=hL i hi
 unfold snF
 split
 ·exact ⟨by omega,by omega⟩
 ·split
  ·exact ⟨by omega,by omega⟩
  ·exact ⟨by omega,by omega⟩
theorem ev_sShn {h : List Ft} (hL : LO h) (hn : h.length ≤ 1048576) : ∀ (n : Nat) (f : Int) (acc : List Nat), h.length + 1 ≤ n + acc.length → acc.Nodup → (∀ a ∈ acc, a < h.length) → f < (h.length : Int) →
  Ev (fun k=>jNa.l0 k f (ci acc) h) (ci (wlk (snF h) n f acc))
 | 0,f,acc,h1,h2,h3,h4=>by have:=jhc h2 h3;omega
 | n+1,f,acc,h1,h2,h3,h4=>by
  have hl:=jhc h2 h3
  refine Ev.step (fun k=>by rw [jNa.l0]) ?_
  rw [wlk]
  by_cases h0:0≤f
  ·obtain ⟨m,rfl⟩:∃ m:Nat,f=(m:Int):=⟨f.toNat,by omega⟩
   rw [if_pos h0,Int.toNat_natCast]
   refine Ev.pos h0 (Ev.bind (ev_hasInt acc (by omega) (m:Int)) ?_)
   by_cases hm:m ∈ acc
   ·rw [if_pos hm]
    exact Ev.pos ((hasN_nat m acc).mpr hm) (Ev.now _)
   ·rw [if_neg hm]
    have hm':m<h.length:=by omega
    refine Ev.neg (fun hh=>hm ((hasN_nat m acc).mp hh)) (Ev.pos (by rw [jSb];omega) ?_)
    rw [sShown hm',ci_snoc]
    refine Ev.bind (Ev.now _) ?_
    exact ev_sShn hL hn n (snF h m) (acc ++ [m]) (by rw [List.length_append,List.length_singleton];omega) (by rw [List.nodup_append];exact ⟨h2,by simp,fun a ha b hb e=>hm (by rw [List.mem_singleton] at hb;rw [← hb,← e];exact ha)⟩) (fun a ha=>by
     rcases List.mem_append.mp ha with g | g
     ·exact h3 a g
     ·rw [List.mem_singleton] at g;omega) (snF_lt hL hm').2
  ·rw [if_neg h0]
   exact Ev.neg h0 (Ev.now _)
theorem ev_sShown {h : List Ft} (hL : LO h) (hn : h.length ≤ 1048576) {f : Nat} (hf : f < h.length) : Ev (fun k => jNa.f k h (f : Int)) (ci (shL h f)) :=
 ev_sShn hL hn (h.length+1) f [] (by simp) (by simp) (by simp) (by omega)
theorem ev_iShown {h : List Ft} (hL : LO h) (hn : h.length ≤ 1048576) {f : Nat} (hf : f < h.length) : Ev (fun k => jib (fun g => jJa.f h g) k (f : Int) []) (ci (shL h f)) :=
 ev_walk (nx:=fun g=>jJa.f h g) (nf:=snF h) hn (fun i hi=>iShown hi) (fun i hi=>(snF_lt hL hi).2) (h.length+1) f [] (by simp) (by simp) (by simp) (by omega)
theorem shL_spec {h : List Ft} (hL : LO h) {f : Nat} (hf : f < h.length) :
  (∃ r,shL h (f:Int)=f :: r)∧(shL h (f:Int)).Nodup∧(∀ a ∈ shL h (f:Int),a<h.length)∧∀ j,j+1<(shL h (f:Int)).length→snF h ((shL h (f:Int)).getD j 0)=((shL h (f:Int)).getD (j+1) 0:Nat):=by
 have e:shL h (f:Int)=wlk (snF h) h.length (snF h f) [f]:=by
  unfold shL
  rw [wlk,if_pos (by omega),Int.toNat_natCast,if_neg (by simp),List.nil_append]
 obtain ⟨r,e1,e2,e3,e4⟩:=wlk_spec (nx:=snF h) (fun i hi=>(snF_lt hL hi).2) h.length (snF h f) [f] (by simp) (by simpa using hf) (snF_lt hL hf).2 (fun j hj=>by simp at hj) (fun _=>by simp)
 rw [e]
 exact ⟨⟨r,e1⟩,e2,e3,e4⟩
theorem shL_len {h : List Ft} (hL : LO h) {f : Nat} (hf : f < h.length) : (shL h (f : Int)).length ≤ h.length := by
 obtain ⟨_,h2,h3,_⟩:=shL_spec hL hf
 exact jhc h2 h3
def tX (t : List Cl) (h : List Ft) (L : List Nat) (i : Nat) : ByteArray := fTx t (fcl h (L.getD i 0)).toNat (fcd h (L.getD i 0)).toNat
def sgX (h : List Ft) (L : List Nat) (i : Nat) : ByteArray := if 0 ≤ fca h (L.getD i 0) then ⟨#[32, 62, 32]⟩ else ⟨#[32, 126, 32]⟩
def sT (t : List Cl) (h : List Ft) (L : List Nat) : Nat → ByteArray
 | 0=>tX t h L 0
 | i+1=>tX t h L (i+1) ++ (sgX h L i ++ sT t h L i)
theorem sgX_size (h : List Ft) (L : List Nat) (i : Nat) : (sgX h L i).size = 3 := by unfold sgX; split <;> rfl
structure CG (t : List Cl) (h : List Ft) (L : List Nat) : Prop where
 ht:TS t
 lt:∀ i,i<L.length→L.getD i 0<h.length
 cl:∀ i,i<L.length→0≤fcl h (L.getD i 0)∧fcl h (L.getD i 0)<(t.length:Int)
 cd:∀ i,i<L.length→0≤fcd h (L.getD i 0)∧fcd h (L.getD i 0)≤99
 nx:∀ i,i+1<L.length→snF h (L.getD i 0)=((L.getD (i+1) 0:Nat):Int)
theorem CG.tX_size {t : List Cl} {h : List Ft} {L : List Nat} (g : CG t h L) {i : Nat} (hi : i < L.length) : (tX t h L i).size ≤ 1048700 := by
 have h1:=g.cl i hi
 have h2:=g.cd i hi
 exact fTx_size g.ht (by omega) (by omega)
theorem CG.sT_size {t : List Cl} {h : List Ft} {L : List Nat} (g : CG t h L) : ∀ i, i < L.length → (sT t h L i).size ≤ 1048703 * (i + 1)
 | 0,hi=>by have:=g.tX_size hi;show (tX t h L 0).size≤_;omega
 | i+1,hi=>by
  have h1:=g.tX_size hi
  have h2:=CG.sT_size g i (by omega)
  show (tX t h L (i+1) ++ (sgX h L i ++ sT t h L i)).size≤_
  rw [ByteArray.size_append,ByteArray.size_append,sgX_size]
  omega
theorem CG.rdn {t : List Cl} {h : List Ft} {L : List Nat} (g : CG t h L) {i : Nat} (hi : i < L.length) : rd (ci L) (i : Int) = ((L.getD i 0 : Nat) : Int) := rd_ci hi
theorem CG.sF {t : List Cl} {h : List Ft} {L : List Nat} (g : CG t h L) {i : Nat} (hi : i < L.length) : Ev (fun k => jtb.f k t (fcl h (L.getD i 0)) (fcd h (L.getD i 0))) (tX t h L i) := by
 have h1:=g.cl i hi
 have h2:=g.cd i hi
 have e:=sFault g.ht (c:=(fcl h (L.getD i 0)).toNat) (d:=(fcd h (L.getD i 0)).toNat) (by omega) (by omega)
 rw [Int.toNat_of_nonneg h1.1,Int.toNat_of_nonneg h2.1] at e
 exact e
theorem CG.iF {t : List Cl} {h : List Ft} {L : List Nat} (g : CG t h L) {i : Nat} (hi : i < L.length) : jGa.f t (fcl h (L.getD i 0)) (fcd h (L.getD i 0)) = some (tX t h L i) := by
 have h1:=g.cl i hi
 have h2:=g.cd i hi
 have e:=iFault g.ht (c:=(fcl h (L.getD i 0)).toNat) (d:=(fcd h (L.getD i 0)).toNat) (by omega) (by omega)
 rw [Int.toNat_of_nonneg h1.1,Int.toNat_of_nonneg h2.1] at e
 exact e
def M7 (i : Nat) : Nat := 1048703 * (i + 1)
theorem M7_zero : M7 0 = 1048703 := rfl
theorem M7_succ (i : Nat) : M7 (i + 1) = M7 i + 1048703 := by unfold M7; omega
theorem CG.ev_s {t : List Cl} {h : List Ft} {L : List Nat} (g : CG t h L) (hl : L.length ≤ 1048576) : ∀ (i : Nat) (out : ByteArray), i < L.length → out.size + M7 i ≤ 4611686018427387904 →
  Ev (fun k=>jE.l0 k (ci L) out (i:Int) t h) (out ++ sT t h L i):=by
 intro i
 induction i with
 | zero =>
  intro out hi ho
  rw [M7_zero] at ho
  have hlt:=g.lt 0 hi
  have hz:=g.tX_size hi
  refine Ev.step (fun k=>by rw [jE.l0]) ?_
  rw [g.rdn hi,u0,u1,jSb]
  refine Ev.pos (by omega) (Ev.pos (by omega) (Ev.pos (by omega) (Ev.pos (by omega) (Ev.pos (by omega) (Ev.bind (g.sF hi) (Ev.pos (by omega) (Ev.neg (by omega) ?_)))))))
  refine Ev.step (fun k=>by rw [jE.j1]) ?_
  refine Ev.neg (by simp) (Ev.neg (by omega) ?_)
  refine Ev.step (fun k=>by rw [jE.l0]) ?_
  rw [wZ]
  exact Ev.neg (by omega) (Ev.now _)
 | succ i ihi =>
  intro out hi ho
  rw [M7_succ] at ho
  have hlt:=g.lt (i+1) hi
  have hlt0:=g.lt i (by omega)
  have hz:=g.tX_size hi
  have ih:=ihi ((out ++ tX t h L (i+1)) ++ sgX h L i) (by omega) (by rw [ByteArray.size_append,ByteArray.size_append,sgX_size];omega)
  refine Ev.step (fun k=>by rw [jE.l0]) ?_
  rw [g.rdn hi,u0,u1,jSb,wP (by omega),g.rdn (i:=i) (by omega),u2]
  refine Ev.pos (by omega) (Ev.pos (by omega) (Ev.pos (by omega) (Ev.pos (by omega) (Ev.pos (by omega) (Ev.bind (g.sF hi) (Ev.pos (by omega) (Ev.pos (by omega) (Ev.pos (by omega) (Ev.pos (by omega) (Ev.pos (by omega) (Ev.pos (by omega) ?_)))))))))))
  have e:out ++ sT t h L (i+1)=((out ++ tX t h L (i+1)) ++ sgX h L i) ++ sT t h L i:=by
   show out ++ (tX t h L (i+1) ++ (sgX h L i ++ sT t h L i))=_
   simp only [ByteArray.append_assoc]
  rw [e]
  refine Ev.step (fun k=>by rw [jE.j1]) ?_
  rw [wP (by omega)]
  unfold sgX at ih ⊢
  have hs:(out ++ tX t h L (i+1)).size+3≤9223372036854775807:=by rw [ByteArray.size_append];omega
  by_cases c:0≤fca h (L.getD i 0)
  ·rw [if_pos c] at ih ⊢
   exact Ev.pos (by simpa using c) (Ev.pos hs ih)
  ·rw [if_neg c] at ih ⊢
   exact Ev.neg (by simpa using c) (Ev.pos (by omega) (Ev.pos hs ih))
theorem CG.at {t : List Cl} {h : List Ft} {L : List Nat} (g : CG t h L) {i : Nat} (hi : i < L.length) : chAt t h (ci L) (i : Int) (rd (ci L) (i : Int)) = some (if i + 1 < L.length then sgX h L i ++ tX t h L i else tX t h L i) := by
 have hlt:=g.lt i hi
 have hz:=g.tX_size hi
 unfold chAt
 rw [g.rdn hi,u0,u1,u2,if_pos (by omega),if_pos (by omega),g.iF hi,jSb]
 simp only [Option.bind_some]
 rw [if_pos (by omega)]
 by_cases c:i+1<L.length
 ·rw [if_pos (by omega),if_pos (by omega),if_pos c,show ((i:Int)+1)=((i+1:Nat):Int) by omega,g.rdn c]
  have hn:=g.nx i c
  unfold sgX
  by_cases q:0≤fca h (L.getD i 0)
  ·have e:snF h (L.getD i 0)=fca h (L.getD i 0):=by unfold snF;rw [if_pos q]
   rw [if_pos q,if_pos (by omega)]
  ·rw [if_neg q,if_neg (by omega)]
 ·rw [if_neg (by omega),if_neg c]
theorem CG.all {t : List Cl} {h : List Ft} {L : List Nat} (g : CG t h L) : ∀ i, i + 1 < L.length → chAll t h (ci L) (i + 1) = some (sgX h L i ++ sT t h L i)
 | 0,hi=>by
  simp only [chAll]
  rw [g.at (i:=0) (by omega),if_pos hi]
  simp only [Option.bind_some]
  rw [show (⟨#[]⟩:ByteArray)=ByteArray.empty from rfl,ByteArray.append_empty];rfl
 | i+1,hi=>by
  have ih:=CG.all g i (by omega)
  unfold chAll
  rw [g.at (i:=i+1) (by omega),if_pos hi,ih]
  simp only [Option.bind_some]
  rw [ByteArray.append_assoc];rfl
theorem CG.top {t : List Cl} {h : List Ft} {L : List Nat} (g : CG t h L) {n : Nat} (hn : L.length = n + 1) : chAll t h (ci L) (n + 1) = some (sT t h L n) := by
 unfold chAll
 rw [g.at (i:=n) (by omega),if_neg (by omega)]
 cases n with
 | zero =>
  simp only [chAll,Option.bind_some]
  rw [show (⟨#[]⟩:ByteArray)=ByteArray.empty from rfl,ByteArray.append_empty];rfl
 | succ n =>
  rw [g.all n (by omega)]
  rfl
noncomputable def cTx (t : List Cl) (h : List Ft) (f : Nat) : ByteArray := sT t h (shL h f) ((shL h f).length - 1)
theorem shL_CG {t : List Cl} {h : List Ft} (ht : TS t) (hv : HV t h) {f : Nat} (hf : f < h.length) : CG t h (shL h f) := by
 obtain ⟨⟨r,e⟩,h2,h3,h4⟩:=shL_spec hv.lo hf
 have hm:∀ i,i<(shL h f).length→(shL h f).getD i 0<h.length:=fun i hi=>h3 _ (getD_mem hi)
 refine ⟨ht,hm,fun i hi=>?_,fun i hi=>?_,h4⟩
 ·have h5:=(hv.1 _ (hm i hi)).1
  have:=bw_iff.mp (show bw (fcl h ((shL h f).getD i 0)) 0 ((t.length:Int) - 1)=true from h5)
  omega
 ·exact bw_iff.mp (hv.1 _ (hm i hi)).2.1
theorem shL_pos {h : List Ft} (hL : LO h) {f : Nat} (hf : f < h.length) : 0 < (shL h f).length := by
 obtain ⟨⟨r,e⟩,_⟩:=shL_spec hL hf
 rw [e];simp
theorem ev_iChain {t : List Cl} {h : List Ft} (ht : TS t) (hv : HV t h) {f : Nat} (hf : f < h.length) : Ev (fun k => jDa.f k h t (f : Int)) (cTx t h f) := by
 have hn:h.length≤24:=hv.2.2.2
 have g:=shL_CG ht hv hf
 have hl:=shL_len hv.lo hf
 have hp:=shL_pos hv.lo hf
 unfold jDa.f
 refine Ev.bind (ev_iShown hv.lo (by omega) hf) ?_
 rw [jSb]
 refine Ev.pos (by omega) ?_
 have e:=g.top (n:=(shL h f).length - 1) (by omega)
 rw [show (shL h f).length - 1+1=(shL h f).length by omega] at e
 rw [e]
 exact Ev.now _
theorem ev_sChain {t : List Cl} {h : List Ft} (ht : TS t) (hv : HV t h) {f : Nat} (hf : f < h.length) : Ev (fun k => jE.f k t h (f : Int)) (cTx t h f) := by
 have hn:h.length≤24:=hv.2.2.2
 have g:=shL_CG ht hv hf
 have hl:=shL_len hv.lo hf
 have hp:=shL_pos hv.lo hf
 unfold jE.f
 refine Ev.bind (ev_sShown hv.lo (by omega) hf) ?_
 rw [jSb,show (((shL h f).length:Int) - 1)=(((shL h f).length - 1:Nat):Int) by omega,wr (by omega)]
 have e:=g.ev_s (by omega) ((shL h f).length - 1) ⟨#[]⟩ (by omega) (by have:(⟨#[]⟩:ByteArray).size=0:=rfl;unfold M7;omega)
 rw [show (⟨#[]⟩:ByteArray) ++ sT t h (shL h f) ((shL h f).length - 1)=sT t h (shL h f) ((shL h f).length - 1) from ByteArray.empty_append] at e
 exact e
noncomputable def ctL (t : List Cl) (h : List Ft) (a : Int) : ByteArray := if gB t h a = true then cTx t h a.toNat else ⟨#[]⟩
theorem ev_ChainText {t : List Cl} {h : List Ft} (ht : TS t) (hn : h.length ≤ 1048576) (a : Int) : Ev (fun k => jLa.f k t h a) (ctL t h a) ∧ Ev (fun k => jPa.f k t h a) (ctL t h a) := by
 unfold jLa.f jPa.f ctL
 have h1:=sGood ht hn a
 have h2:=iGood ht hn a
 cases hg:gB t h a with
 | false =>
  rw [hg] at h1 h2
  rw [if_neg (by simp)]
  exact ⟨Ev.bind h1 (Ev.neg (by simp) (Ev.now _)),Ev.bind h2 (Ev.neg (by simp) (Ev.now _))⟩
 | true =>
  rw [hg] at h1 h2
  rw [if_pos rfl]
  obtain ⟨hv,f,rfl,hf⟩:=gB_iff.mp hg
  exact ⟨Ev.bind h1 (Ev.pos rfl (Ev.bind (ev_sChain ht hv hf) (Ev.now _))),Ev.bind h2 (Ev.pos rfl (Ev.bind (ev_iChain ht hv hf) (Ev.now _)))⟩
end Go.Proofs.YteibechlncphnaaDoor.Pure
end
