/- One part of the proofs on this program: functions of the program as plain functions, that the code comes to them, and facts on them. -/
import Derived.Test.YteibechlncphnaaDoorYAll6
import Derived.Test.YteibechlncphnaaDoorYAll8
import Derived.Test.YteibechlncphnaaDoorYDh
import Derived.Test.YteibechlncphnaaDoorYMcc
section
set_option linter.unusedSimpArgs false
set_option linter.unusedVariables false
namespace Go.Proofs.YteibechlncphnaaDoor.Pure
open Go Go.RowKit Go.Proofs.YteibechlncphnaaDoor.P Go.Proofs.YteibechlncphnaaDoorW.PrintWords
set_option linter.unusedVariables false
theorem ev_DrawChainText {code : List Int} (hc : ∀ x ∈ code, 0 ≤ x ∧ x ≤ 255) : ∃ t h a, Ev (fun k => jXa.f k code) (t, h, a) ∧ TO t ∧ h.length ≤ 6 := by
 obtain ⟨s,e0,hs⟩:=newReader_eq hc
 obtain ⟨t,h,a,q,e1,hT,hl⟩:=ev_faultIn hs (p:=0) (by omega) (by omega)
 refine ⟨t,h,a,?_,hT,hl⟩
 unfold jXa.f
 rw [e0]
 simp only [Option.bind_some]
 exact Ev.bind e1 (Ev.now _)
theorem ev_cnt {t : List Cl} {h : List Ft} {a : Int} {s : ByteArray} (hs : s.size ≤ 1099511627776) (fin : Ev (fun k => jJ.l0 k a s (cc s : Nat) (s.size : Nat) t h) true) :
  ∀ (n i c:Nat),n+i=s.data.toList.length→c+(s.data.toList.drop i).count 58=cc s→c≤i→Ev (fun k=>jJ.l0 k a s (c:Nat) (i:Nat) t h) true
 | 0,i,c,h1,h2,h3=>by
  rw [List.drop_eq_nil_of_le (by omega)] at h2
  have e:c=cc s:=by simpa using h2
  have e2:i=s.size:=by rw [← len_size];omega
  rw [e,e2]
  exact fin
 | n+1,i,c,h1,h2,h3=>by
  have hi:i<s.data.toList.length:=by omega
  have hi2:i<s.size:=hi
  refine Ev.step (fun k=>by rw [jJ.l0]) ?_
  refine Ev.pos (by omega) (Ev.pos (by omega) ?_)
  rw [List.drop_eq_getElem_cons hi,List.count_cons] at h2
  rw [wS (by omega),wS (by omega),bt_get hi]
  by_cases e:s.data.toList[i]=58
  ·rw [if_pos (by simpa using e)] at h2
   exact Ev.pos (is58.mpr e) (ev_cnt hs fin n (i+1) (c+1) (by omega) (by omega) (by omega))
  ·rw [if_neg (by simpa using e)] at h2
   exact Ev.neg (fun q=>e (is58.mp q)) (ev_cnt hs fin n (i+1) c (by omega) (by omega) (by omega))
theorem FnChainText : jJ.Pure := by
 intro code _ _ hc
 refine Ev.rounds (g:=fun k=>jJ.f k code) ?_
 unfold jJ.f
 refine Ev.both (fun _=>Ev.now _) (fun _=>?_)
 obtain ⟨t,h,a,eD,hT,hl⟩:=ev_DrawChainText (bytes_of hc)
 have hS:=hT.ts
 obtain ⟨z1,z2⟩:=ev_ChainText hS (h:=h) (by omega) a
 refine Ev.bind eD (Ev.bind z2 (Ev.bind z1 (Ev.pos rfl ?_)))
 refine Ev.step (fun k=>by rw [jJ.j0]) ?_
 cases hg:gB t h a with
 | false =>
  have e:ctL t h a=⟨#[]⟩:=by unfold ctL;rw [hg];rfl
  refine Ev.pos (by rw [e,show (⟨#[]⟩:ByteArray)=ByteArray.empty from rfl,ByteArray.toList_empty];rfl) (Ev.bind z1 ?_)
  rw [beq_self_eq_true]
  exact Ev.now _
 | true =>
  obtain ⟨hv,f,rfl,hf⟩:=gB_iff.mp hg
  have e:ctL t h (f:Int)=cTx t h f:=by unfold ctL;rw [hg];rfl
  rw [e]
  have hz:=cTx_size hS hv hf
  have s1:=stC_sm hf (Or.inr rfl:(-1:Int)=fca h f∨(-1:Int) = -1)
  have hv1:=s1.hv hv
  have c0:=ev_ShownChain hS hv hf
  have c3:=ev_SetCause hS hv hf
  have c4:=ev_iChain' hS hv1 (f:=f) (by rw [stC_len];exact hf)
  rw [cTx_one (Sm.refl h) hf] at c4
  obtain ⟨r,e6⟩:=cTx_suf (t:=t) hv.lo hf
  refine Ev.neg (by simpa using cTx_nil hS hv hf) ?_
  refine ev_cnt hz ?_ (cTx t h f).data.toList.length 0 0 (by omega) (by rw [List.drop_zero,Nat.zero_add];rfl) (by omega)
  refine Ev.step (fun k=>by rw [jJ.l0]) ?_
  refine Ev.neg (by omega) (Ev.bind c3 (Ev.bind c4 (Ev.pos rfl (Ev.bind c0 ?_))))
  have hz2:=hz
  rw [e6,ByteArray.size_append] at hz2
  rw [jSb,cc_cTx hS hv hf,e6,ByteArray.size_append,wr (by omega)]
  refine Ev.pos rfl (Ev.pos (by omega) (Ev.pos (by omega) (Ev.pos (by omega) ?_)))
  rw [ByteArray.extract_append_eq_right (by omega) rfl,beq_self_eq_true]
  exact Ev.now _
end Go.Proofs.YteibechlncphnaaDoor.Pure
end
