/-
  DERIVED. GIVEN WITH THE SEED: THE CARDS: each row of YteibechlncphnaaDoorRows.lean that lists a variable, with what it lists TIED to the program's text (the seventh form; the later family's looks); each row that meets fmt, with fmt's text TOLD by the authors' own Lean function (tested against real Go, not proved from fmt's source: count such statements apart). THE CARD IS WHAT COUNTS. Prove the row's statement (the work); the ties are given (YteibechlncphnaaDoorTie.lean); close each card by the builder's one call (the guide's Derived/Test/ToyasCard.lean, 'card_holds'). Laid BY PROGRAM, IN A SANDBOX (cutbox-door.mjs). By AI agents, Wed Nov 11 2026. No macro, syntax, notation, axiom, sorry.
-/
import Derived.Test.YteibechlncphnaaDoorRows
import GoSem.ClaimSeven
namespace Go.Proofs.YteibechlncphnaaDoor
namespace Rows

/-- THE TIED CARD OF 'laws.FnOldestShown'. -/
def fnOldestShownCard : Claim7 := { stood := { row := fnOldestShownRow, standIns := [], harness := (true, "c546bba6aea61791e49ef3becc4f5161cfe452fb28aa2bc5ab16104960e22931"), looks := false }, kinds := [], alts := [], laidByText := true, laidKinds := [.data, .data, .data], laidTests := true, laidLooks := .later }
def FnOldestShownCardSaid : Prop := Claim7.holds Tryd.pinned (.plain (OpenSpec.ofChange fnOldestShownSpec)) fnOldestShownCard

/-- THE TIED CARD OF 'laws.FnChainText'. -/
def fnChainTextCard : Claim7 := { stood := { row := fnChainTextRow, standIns := [], harness := (true, "c546bba6aea61791e49ef3becc4f5161cfe452fb28aa2bc5ab16104960e22931"), looks := false }, kinds := [], alts := [], laidByText := true, laidKinds := [.data, .data, .data], laidTests := true, laidLooks := .later }
def FnChainTextCardSaid : Prop := Claim7.holds Tryd.pinned (.plain (OpenSpec.ofChange fnChainTextSpec)) fnChainTextCard

/-- THE TIED CARD OF 'laws.FnExactChainText'. -/
def fnExactChainTextCard : Claim7 := { stood := { row := fnExactChainTextRow, standIns := [], harness := (true, "c546bba6aea61791e49ef3becc4f5161cfe452fb28aa2bc5ab16104960e22931"), looks := false }, kinds := [], alts := [], laidByText := true, laidKinds := [.data, .data, .data], laidTests := true, laidLooks := .later }
def FnExactChainTextCardSaid : Prop := Claim7.holds Tryd.pinned (.plain (OpenSpec.ofChange fnExactChainTextSpec)) fnExactChainTextCard

/-- THE TIED CARD OF 'laws.FnJoinHeaps'. -/
def fnJoinHeapsCard : Claim7 := { stood := { row := fnJoinHeapsRow, standIns := [], harness := (true, "c546bba6aea61791e49ef3becc4f5161cfe452fb28aa2bc5ab16104960e22931"), looks := false }, kinds := [], alts := [], laidByText := true, laidKinds := [.data, .data, .data], laidTests := true, laidLooks := .later }
def FnJoinHeapsCardSaid : Prop := Claim7.holds Tryd.pinned (.plain (OpenSpec.ofChange fnJoinHeapsSpec)) fnJoinHeapsCard

/-- THE SECOND FORM's CARD OF 'laws.FnOldestShown'. -/
def fnOldestShownUptoCard : Claim7 := { stood := { row := fnOldestShownUptoRow, standIns := [], harness := (true, "c546bba6aea61791e49ef3becc4f5161cfe452fb28aa2bc5ab16104960e22931"), looks := false }, kinds := [], alts := [], laidByText := true, laidKinds := [.data, .data, .data], laidTests := true, laidLooks := .later }
def FnOldestShownUptoCardSaid : Prop := Claim7.holds Tryd.pinned (.plain (OpenSpec.upto fnOldestShownSpec)) fnOldestShownUptoCard

/-- THE SECOND FORM's CARD OF 'laws.FnChainText'. -/
def fnChainTextUptoCard : Claim7 := { stood := { row := fnChainTextUptoRow, standIns := [], harness := (true, "c546bba6aea61791e49ef3becc4f5161cfe452fb28aa2bc5ab16104960e22931"), looks := false }, kinds := [], alts := [], laidByText := true, laidKinds := [.data, .data, .data], laidTests := true, laidLooks := .later }
def FnChainTextUptoCardSaid : Prop := Claim7.holds Tryd.pinned (.plain (OpenSpec.upto fnChainTextSpec)) fnChainTextUptoCard

/-- THE SECOND FORM's CARD OF 'laws.FnExactChainText'. -/
def fnExactChainTextUptoCard : Claim7 := { stood := { row := fnExactChainTextUptoRow, standIns := [], harness := (true, "c546bba6aea61791e49ef3becc4f5161cfe452fb28aa2bc5ab16104960e22931"), looks := false }, kinds := [], alts := [], laidByText := true, laidKinds := [.data, .data, .data], laidTests := true, laidLooks := .later }
def FnExactChainTextUptoCardSaid : Prop := Claim7.holds Tryd.pinned (.plain (OpenSpec.upto fnExactChainTextSpec)) fnExactChainTextUptoCard

/-- THE SECOND FORM's CARD OF 'laws.FnJoinHeaps'. -/
def fnJoinHeapsUptoCard : Claim7 := { stood := { row := fnJoinHeapsUptoRow, standIns := [], harness := (true, "c546bba6aea61791e49ef3becc4f5161cfe452fb28aa2bc5ab16104960e22931"), looks := false }, kinds := [], alts := [], laidByText := true, laidKinds := [.data, .data, .data], laidTests := true, laidLooks := .later }
def FnJoinHeapsUptoCardSaid : Prop := Claim7.holds Tryd.pinned (.plain (OpenSpec.upto fnJoinHeapsSpec)) fnJoinHeapsUptoCard
end Rows
end Go.Proofs.YteibechlncphnaaDoor
