/- One part of the proofs on this program: functions of the program as plain functions, that the code comes to them, and facts on them. -/
import Derived.Test.YtlhfcmbkjddgiaaYAll8
import Derived.Test.YtlhfcmbkjddgiaaYMhp
section
set_option linter.unusedSimpArgs false
set_option linter.unusedVariables false
namespace Go.Proofs.Ytlhfcmbkjddgiaa.Pure
open Go Go.RowKit Go.Proofs.Ytlhfcmbkjddgiaa.P Go.Proofs.YtlhfcmbkjddgiaaW.PrintWords
set_option linter.unusedVariables false
theorem HV.lo {t : List Cl} {h : List Ft} (hv : HV t h) : LO h := fun i hi => ⟨⟨(hv.1 i hi).2.2.1.1, (hv.1 i hi).2.2.1.2.1⟩, ⟨(hv.1 i hi).2.2.2.1, (hv.1 i hi).2.2.2.2.1⟩⟩
end Go.Proofs.Ytlhfcmbkjddgiaa.Pure
end
