/-
  DERIVED. GIVEN WITH THE SEED: THE CARDS: each row of YtdmafmebllhlkaaDoorRows.lean that lists a variable, with what it lists TIED to the program's text (the seventh form; the later family's looks); each row that meets fmt, with fmt's text TOLD by the authors' own Lean function (tested against real Go, not proved from fmt's source: count such statements apart). THE CARD IS WHAT COUNTS. Prove the row's statement (the work); the ties are given (YtdmafmebllhlkaaDoorTie.lean); close each card by the builder's one call (the guide's Derived/Test/ToyasCard.lean, 'card_holds'). Laid BY PROGRAM, IN A SANDBOX (cutbox-door.mjs). By AI agents, Wed Nov 11 2026. No macro, syntax, notation, axiom, sorry.
-/
import Derived.Test.YtdmafmebllhlkaaDoorRows
import GoSem.ClaimSeven
namespace Go.Proofs.YtdmafmebllhlkaaDoor
namespace Rows

/-- THE TIED CARD OF 'laws.FnExactTraceText'. -/
def fnExactTraceTextCard : Claim7 := { stood := { row := fnExactTraceTextRow, standIns := [], harness := (true, "98296a38585b3371092671e2ed16334cf8421249f75ccec322621a626ebd489c"), looks := false }, kinds := [], alts := [], laidByText := true, laidKinds := [.data, .data, .data], laidTests := true, laidLooks := .later }
def FnExactTraceTextCardSaid : Prop := Claim7.holds Tryd.pinned (.plain (OpenSpec.ofChange fnExactTraceTextSpec)) fnExactTraceTextCard

/-- THE TIED CARD OF 'laws.FnTraceTextRows'. -/
def fnTraceTextRowsCard : Claim7 := { stood := { row := fnTraceTextRowsRow, standIns := [], harness := (true, "98296a38585b3371092671e2ed16334cf8421249f75ccec322621a626ebd489c"), looks := false }, kinds := [], alts := [], laidByText := true, laidKinds := [.data, .data, .data], laidTests := true, laidLooks := .later }
def FnTraceTextRowsCardSaid : Prop := Claim7.holds Tryd.pinned (.plain (OpenSpec.ofChange fnTraceTextRowsSpec)) fnTraceTextRowsCard

/-- THE SECOND FORM's CARD OF 'laws.FnExactTraceText'. -/
def fnExactTraceTextUptoCard : Claim7 := { stood := { row := fnExactTraceTextUptoRow, standIns := [], harness := (true, "98296a38585b3371092671e2ed16334cf8421249f75ccec322621a626ebd489c"), looks := false }, kinds := [], alts := [], laidByText := true, laidKinds := [.data, .data, .data], laidTests := true, laidLooks := .later }
def FnExactTraceTextUptoCardSaid : Prop := Claim7.holds Tryd.pinned (.plain (OpenSpec.upto fnExactTraceTextSpec)) fnExactTraceTextUptoCard

/-- THE SECOND FORM's CARD OF 'laws.FnTraceTextRows'. -/
def fnTraceTextRowsUptoCard : Claim7 := { stood := { row := fnTraceTextRowsUptoRow, standIns := [], harness := (true, "98296a38585b3371092671e2ed16334cf8421249f75ccec322621a626ebd489c"), looks := false }, kinds := [], alts := [], laidByText := true, laidKinds := [.data, .data, .data], laidTests := true, laidLooks := .later }
def FnTraceTextRowsUptoCardSaid : Prop := Claim7.holds Tryd.pinned (.plain (OpenSpec.upto fnTraceTextRowsSpec)) fnTraceTextRowsUptoCard
end Rows
end Go.Proofs.YtdmafmebllhlkaaDoor
