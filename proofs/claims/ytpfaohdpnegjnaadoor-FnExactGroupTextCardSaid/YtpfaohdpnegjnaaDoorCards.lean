/-
  DERIVED. GIVEN WITH THE SEED: THE CARDS: each row of YtpfaohdpnegjnaaDoorRows.lean that lists a variable, with what it lists TIED to the program's text (the seventh form; the later family's looks); each row that meets fmt, with fmt's text TOLD by the authors' own Lean function (tested against real Go, not proved from fmt's source: count such statements apart). THE CARD IS WHAT COUNTS. Prove the row's statement (the work); the ties are given (YtpfaohdpnegjnaaDoorTie.lean); close each card by the builder's one call (the guide's Derived/Test/ToyasCard.lean, 'card_holds'). Laid BY PROGRAM, IN A SANDBOX (cutbox-door.mjs). By AI agents, Wed Nov 11 2026. No macro, syntax, notation, axiom, sorry.
-/
import Derived.Test.YtpfaohdpnegjnaaDoorRows
import GoSem.ClaimSeven
namespace Go.Proofs.YtpfaohdpnegjnaaDoor
namespace Rows

/-- THE TIED CARD OF 'laws.FnExactGroupText'. -/
def fnExactGroupTextCard : Claim7 := { stood := { row := fnExactGroupTextRow, standIns := [], harness := (true, "1eda00736dc2d2a6659877844afd710746b586a5deaf04442278c2c77c20fa34"), looks := false }, kinds := [], alts := [], laidByText := true, laidKinds := [.data, .data, .data], laidTests := true, laidLooks := .later }
def FnExactGroupTextCardSaid : Prop := Claim7.holds Tryd.pinned (.plain (OpenSpec.ofChange fnExactGroupTextSpec)) fnExactGroupTextCard

/-- THE SECOND FORM's CARD OF 'laws.FnExactGroupText'. -/
def fnExactGroupTextUptoCard : Claim7 := { stood := { row := fnExactGroupTextUptoRow, standIns := [], harness := (true, "1eda00736dc2d2a6659877844afd710746b586a5deaf04442278c2c77c20fa34"), looks := false }, kinds := [], alts := [], laidByText := true, laidKinds := [.data, .data, .data], laidTests := true, laidLooks := .later }
def FnExactGroupTextUptoCardSaid : Prop := Claim7.holds Tryd.pinned (.plain (OpenSpec.upto fnExactGroupTextSpec)) fnExactGroupTextUptoCard
end Rows
end Go.Proofs.YtpfaohdpnegjnaaDoor
