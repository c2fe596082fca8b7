/-
  DERIVED. GIVEN WITH THE SEED: THE CARDS: each row of YtlkdlibbbekipaaDoorRows.lean that lists a variable, with what it lists TIED to the program's text (the seventh form; the later family's looks); each row that meets fmt, with fmt's text TOLD by the authors' own Lean function (tested against real Go, not proved from fmt's source: count such statements apart). THE CARD IS WHAT COUNTS. Prove the row's statement (the work); the ties are given (YtlkdlibbbekipaaDoorTie.lean); close each card by the builder's one call (the guide's Derived/Test/ToyasCard.lean, 'card_holds'). Laid BY PROGRAM, IN A SANDBOX (cutbox-door.mjs). By AI agents, Wed Nov 11 2026. No macro, syntax, notation, axiom, sorry.
-/
import Derived.Test.YtlkdlibbbekipaaDoorRows
import GoSem.ClaimSeven
namespace Go.Proofs.YtlkdlibbbekipaaDoor
namespace Rows

/-- THE TIED CARD OF 'laws.FnExactExitsText'. -/
def fnExactExitsTextCard : Claim7 := { stood := { row := fnExactExitsTextRow, standIns := [], harness := (true, "f0e10bdd39be4535dcc0df9702235ffd63202f224591efdb8116fcb21e76102a"), looks := false }, kinds := [], alts := [], laidByText := true, laidKinds := [.data, .data, .data], laidTests := true, laidLooks := .later }
def FnExactExitsTextCardSaid : Prop := Claim7.holds Tryd.pinned (.plain (OpenSpec.ofChange fnExactExitsTextSpec)) fnExactExitsTextCard

/-- THE SECOND FORM's CARD OF 'laws.FnExactExitsText'. -/
def fnExactExitsTextUptoCard : Claim7 := { stood := { row := fnExactExitsTextUptoRow, standIns := [], harness := (true, "f0e10bdd39be4535dcc0df9702235ffd63202f224591efdb8116fcb21e76102a"), looks := false }, kinds := [], alts := [], laidByText := true, laidKinds := [.data, .data, .data], laidTests := true, laidLooks := .later }
def FnExactExitsTextUptoCardSaid : Prop := Claim7.holds Tryd.pinned (.plain (OpenSpec.upto fnExactExitsTextSpec)) fnExactExitsTextUptoCard
end Rows
end Go.Proofs.YtlkdlibbbekipaaDoor
