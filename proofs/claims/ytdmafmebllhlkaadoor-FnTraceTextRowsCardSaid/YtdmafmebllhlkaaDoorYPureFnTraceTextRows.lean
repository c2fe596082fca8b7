/- One part of the proofs on this program: functions of the program as plain functions, that the code comes to them, and facts on them. -/
import Derived.Test.YtdmafmebllhlkaaDoorYAll3
import Derived.Test.YtdmafmebllhlkaaDoorYDtr
import Derived.Test.YtdmafmebllhlkaaDoorYMtr
section
set_option linter.unusedSimpArgs false
set_option linter.unusedVariables false
namespace Go.Proofs.YtdmafmebllhlkaaDoor.Pure
open Go Go.RowKit Go.Proofs.YtdmafmebllhlkaaDoor.P Go.Proofs.YtdmafmebllhlkaaDoorW.PrintWords
set_option linter.unusedVariables false
theorem ev_DrawTraceText {code : List Int} (hc : ∀ x ∈ code, 0 ≤ x ∧ x ≤ 255) : ∃ l, Ev (fun k => jY.f k code) l ∧ FO l := by
 obtain ⟨s,e0,hs⟩:=newReader_eq hc
 obtain ⟨l,q,e1,hl⟩:=ev_someTrace hs (p:=0) (by omega) (by omega)
 refine ⟨l,?_,hl⟩
 unfold jY.f
 rw [e0]
 simp only [Option.bind_some]
 exact Ev.bind e1 (Ev.now _)
theorem ev_count {l : List Fm} {s : ByteArray} (hs : s.size ≤ 1099511627776) (fin : Ev (fun k => jc.l0 k l s (cc s : Nat) (s.size : Nat)) true) :
  ∀ (n i c:Nat),n+i=s.data.toList.length→c+(s.data.toList.drop i).count 58=cc s→c≤i→Ev (fun k=>jc.l0 k l s (c:Nat) (i:Nat)) true
 | 0,i,c,h1,h2,h3=>by
  rw [List.drop_eq_nil_of_le (by omega)] at h2
  have e:c=cc s:=by simpa using h2
  have e2:i=s.size:=by rw [← len_size];omega
  rw [e,e2]
  exact fin
 | n+1,i,c,h1,h2,h3=>by
  have hi:i<s.data.toList.length:=by omega
  have hi2:i<s.size:=hi
  refine Ev.step (fun k=>by rw [jc.l0]) ?_
  refine Ev.pos (by omega) (Ev.pos (by omega) ?_)
  rw [List.drop_eq_getElem_cons hi,List.count_cons] at h2
  rw [wS (by omega),wS (by omega),bt_get hi]
  by_cases e:s.data.toList[i]=58
  ·rw [if_pos (by simpa using e)] at h2
   exact Ev.pos (is58.mpr e) (ev_count hs fin n (i+1) (c+1) (by omega) (by omega) (by omega))
  ·rw [if_neg (by simpa using e)] at h2
   exact Ev.neg (fun q=>e (is58.mp q)) (ev_count hs fin n (i+1) c (by omega) (by omega) (by omega))
theorem FnTraceTextRows : jc.Pure := by
 intro code _ _ hc
 refine Ev.rounds (g:=fun k=>jc.f k code) ?_
 unfold jc.f
 refine Ev.both (fun _=>Ev.now _) (fun _=>?_)
 obtain ⟨l,eD,hO⟩:=ev_DrawTraceText (bytes_of hc)
 have hS:FS l:=⟨by have:=hO.1;omega,fun c h=>by have:=hO.2 c h;omega⟩
 obtain ⟨z1,z2⟩:=ev_TraceText hS
 have z3:=ev_iVT hS
 refine Ev.bind eD (Ev.bind z2 (Ev.bind z1 (Ev.pos rfl (Ev.bind z3 ?_))))
 refine Ev.step (fun k=>by rw [jc.j0]) ?_
 cases hv:trB l with
 | false =>
  refine Ev.pos rfl (Ev.bind z1 ?_)
  rw [beq_self_eq_true]
  exact Ev.now _
 | true =>
  have e:trT l=rsT (rowsL l):=by unfold trT;rw [if_pos hv]
  have hok:=rows_ok hv
  have hz:=rsT_size (rowsL l) hok
  have hle:=(rows_RI l).le
  have hO1:=hO.1
  rw [e]
  refine Ev.neg (by simp) ?_
  refine ev_count (by omega) ?_ (rsT (rowsL l)).data.toList.length 0 0 (by omega) (by rw [List.drop_zero,Nat.zero_add];rfl) (by omega)
  refine Ev.step (fun k=>by rw [jc.l0]) ?_
  refine Ev.neg (by omega) (Ev.bind (ev_FoldTrace hS hv) ?_)
  rw [rsT_cc _ hok,beq_self_eq_true]
  exact Ev.now _
end Go.Proofs.YtdmafmebllhlkaaDoor.Pure
end
