/- One part of the proofs on this program: functions of the program as plain functions, that the code comes to them, and facts on them. -/
import Derived.Test.YtbcjbcjpoddkoaaYAll5
import Derived.Test.YtbcjbcjpoddkoaaYMcl
section
set_option linter.unusedSimpArgs false
set_option linter.unusedVariables false
namespace Go.Proofs.Ytbcjbcjpoddkoaa.Pure
open Go Go.RowKit Go.Proofs.Ytbcjbcjpoddkoaa.P Go.Proofs.YtbcjbcjpoddkoaaW.PrintWords
set_option linter.unusedVariables false
theorem ev_iLineIn {t : List Cl} {p : List Ln} (hp : p.length ≤ 1048576) (ht : TS t) {a : Nat} (hv : vB t p = true) (ha : a < p.length) : Ev (fun k => jGb.f k t p (a : Int)) true := by
 unfold jGb.f
 refine Ev.bind (iValid hp ht) ?_
 rw [wr (by omega),iW,hv]
 refine Ev.pos rfl ?_
 rw [show bw (a:Int) 0 ((p.length:Int) - 1)=true from jLc.mpr ⟨by omega,by omega⟩]
 simpa using Ev.now true
theorem ev_iCatcherOf {p : List Ln} {t : List Cl} (hp : p.length ≤ 1048576) (ht : TS t) (hv : vB t p = true) {a : Nat} (ha : a < p.length) {c : Int} (hc : hasB t c = true) : Ev (fun k => jDb.f k t p (a : Int) c) (cp2 (catL t p c (enc p a))).2 := by
 have hb:=hasB_iff.mp hc
 have hV:=vB_iff.mp hv
 unfold jDb.f
 refine Ev.bind (ev_iLineIn hp ht hv ha) (Ev.pos rfl ?_)
 rw [iHas ht.1,hc]
 exact Ev.bind (Ev.now _) (Ev.pos rfl (Ev.bind (ev_iCatcher hp ht.1 hV hb.2 (by omega) ha) (Ev.now _)))
end Go.Proofs.Ytbcjbcjpoddkoaa.Pure
end
