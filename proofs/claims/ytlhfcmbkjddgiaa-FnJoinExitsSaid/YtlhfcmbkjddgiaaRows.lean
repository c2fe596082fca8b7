/-
  No cell of these rows narrows 'for every input' (looked for: loops, veiled, ifaces, maps, wideKeys, modest, calm, conditions, laid).
  DERIVED. THE GIVEN ROWS OF THIS SEAT. 5 by the template 'for every input the law returns true; each argument reads behind the call as it read before'; 0 by the template 'total and deterministic' (their statements: YtlhfcmbkjddgiaaTotals.lean).
  GIVEN WITH THE SEED: the statements are not yours to turn. If you find one false, say at which input.
  Laid BY PROGRAM, IN A SANDBOX (cutbox-rows.mjs): the forced cells as the released guide's own fill.sh prints them over the translation 3224b0ac0d3e9e68… (all of the seat's roots in one cut). By AI agents, Wed Nov 11 2026. No macro, syntax, notation, axiom, sorry.
-/
import Derived.Test.YtlhfcmbkjddgiaaChecked
import GoSem.Claim
import GoSem.ClaimJoined
import GoSem.ClaimMapViews
import Derived.JoinedTies
import Derived.KernelRfl
namespace Go.Proofs.Ytlhfcmbkjddgiaa
/- THE CELL 'sum', in the pinned program and in every row, IS THE sha256 OF THE DUMP (.gsa) THAT YtlhfcmbkjddgiaaProg.lean LOADS. Nothing in Lean hashes anything: it is a label: what it is worth is what the hold of that sum in a sandbox is worth. -/
noncomputable def Try.pinned : Pinned := { name := "ytlhfcmbkjddgiaa", sum := "3224b0ac0d3e9e6842a146916e46f690d6cac963844bf732287fd340bacd4550", checked := Try.checked }
namespace Rows
def none {H : Type} : Left H := { results := [], args := [] }

/-- 'laws.FnExactIsQuiet': WHATEVER THE INPUT: true; the input reads as it did. -/
def fnExactIsQuietSpec : ChangeSpec := { name := "fnExactIsQuiet", fn := fun _ => fun
  | [d1, d2] => { results := [.lit (.bool true)], args := [d1, d2] }
  | _ => none }
def fnExactIsQuietRow : OpenClaim := { program := "ytlhfcmbkjddgiaa", sum := "3224b0ac0d3e9e6842a146916e46f690d6cac963844bf732287fd340bacd4550", func := "loop.example/faultcleanup/laws.FnExactIsQuiet", spec := "fnExactIsQuiet", unfollowed := true, recurses := true, apart := false }
def FnExactIsQuietSaid : Prop := fnExactIsQuietRow.holds Try.pinned (OpenSpec.ofChange fnExactIsQuietSpec)

/-- ITS FALSE NEIGHBOUR: 'it returns false'. Refute it at one input. -/
def fnExactIsQuietWrong : ChangeSpec := { name := "fnExactIsQuiet", fn := fun _ => fun
  | [d1, d2] => { results := [.lit (.bool false)], args := [d1, d2] }
  | _ => none }
def FnExactIsQuietWrongFalsely : Prop := fnExactIsQuietRow.holds Try.pinned (OpenSpec.ofChange fnExactIsQuietWrong)

/-- 'laws.FnIsQuiet': WHATEVER THE INPUT: true; the input reads as it did. -/
def fnIsQuietSpec : ChangeSpec := { name := "fnIsQuiet", fn := fun _ => fun
  | [d] => { results := [.lit (.bool true)], args := [d] }
  | _ => none }
def fnIsQuietRow : OpenClaim := { program := "ytlhfcmbkjddgiaa", sum := "3224b0ac0d3e9e6842a146916e46f690d6cac963844bf732287fd340bacd4550", func := "loop.example/faultcleanup/laws.FnIsQuiet", spec := "fnIsQuiet", unfollowed := true, recurses := true, apart := false }
def FnIsQuietSaid : Prop := fnIsQuietRow.holds Try.pinned (OpenSpec.ofChange fnIsQuietSpec)

/-- ITS FALSE NEIGHBOUR: 'it returns false'. Refute it at one input. -/
def fnIsQuietWrong : ChangeSpec := { name := "fnIsQuiet", fn := fun _ => fun
  | [d] => { results := [.lit (.bool false)], args := [d] }
  | _ => none }
def FnIsQuietWrongFalsely : Prop := fnIsQuietRow.holds Try.pinned (OpenSpec.ofChange fnIsQuietWrong)

/-- 'laws.FnEscapesOf': WHATEVER THE INPUT: true; the input reads as it did. -/
def fnEscapesOfSpec : ChangeSpec := { name := "fnEscapesOf", fn := fun _ => fun
  | [d] => { results := [.lit (.bool true)], args := [d] }
  | _ => none }
def fnEscapesOfRow : OpenClaim := { program := "ytlhfcmbkjddgiaa", sum := "3224b0ac0d3e9e6842a146916e46f690d6cac963844bf732287fd340bacd4550", func := "loop.example/faultcleanup/laws.FnEscapesOf", spec := "fnEscapesOf", unfollowed := true, recurses := true, apart := false }
def FnEscapesOfSaid : Prop := fnEscapesOfRow.holds Try.pinned (OpenSpec.ofChange fnEscapesOfSpec)

/-- ITS FALSE NEIGHBOUR: 'it returns false'. Refute it at one input. -/
def fnEscapesOfWrong : ChangeSpec := { name := "fnEscapesOf", fn := fun _ => fun
  | [d] => { results := [.lit (.bool false)], args := [d] }
  | _ => none }
def FnEscapesOfWrongFalsely : Prop := fnEscapesOfRow.holds Try.pinned (OpenSpec.ofChange fnEscapesOfWrong)

/-- 'laws.FnPushExit': WHATEVER THE INPUT: true; the input reads as it did. -/
def fnPushExitSpec : ChangeSpec := { name := "fnPushExit", fn := fun _ => fun
  | [d] => { results := [.lit (.bool true)], args := [d] }
  | _ => none }
def fnPushExitRow : OpenClaim := { program := "ytlhfcmbkjddgiaa", sum := "3224b0ac0d3e9e6842a146916e46f690d6cac963844bf732287fd340bacd4550", func := "loop.example/faultcleanup/laws.FnPushExit", spec := "fnPushExit", unfollowed := true, recurses := true, apart := false }
def FnPushExitSaid : Prop := fnPushExitRow.holds Try.pinned (OpenSpec.ofChange fnPushExitSpec)

/-- ITS FALSE NEIGHBOUR: 'it returns false'. Refute it at one input. -/
def fnPushExitWrong : ChangeSpec := { name := "fnPushExit", fn := fun _ => fun
  | [d] => { results := [.lit (.bool false)], args := [d] }
  | _ => none }
def FnPushExitWrongFalsely : Prop := fnPushExitRow.holds Try.pinned (OpenSpec.ofChange fnPushExitWrong)

/-- 'laws.FnJoinExits': WHATEVER THE INPUT: true; the input reads as it did. -/
def fnJoinExitsSpec : ChangeSpec := { name := "fnJoinExits", fn := fun _ => fun
  | [d] => { results := [.lit (.bool true)], args := [d] }
  | _ => none }
def fnJoinExitsRow : OpenClaim := { program := "ytlhfcmbkjddgiaa", sum := "3224b0ac0d3e9e6842a146916e46f690d6cac963844bf732287fd340bacd4550", func := "loop.example/faultcleanup/laws.FnJoinExits", spec := "fnJoinExits", unfollowed := true, recurses := true, apart := false }
def FnJoinExitsSaid : Prop := fnJoinExitsRow.holds Try.pinned (OpenSpec.ofChange fnJoinExitsSpec)

/-- ITS FALSE NEIGHBOUR: 'it returns false'. Refute it at one input. -/
def fnJoinExitsWrong : ChangeSpec := { name := "fnJoinExits", fn := fun _ => fun
  | [d] => { results := [.lit (.bool false)], args := [d] }
  | _ => none }
def FnJoinExitsWrongFalsely : Prop := fnJoinExitsRow.holds Try.pinned (OpenSpec.ofChange fnJoinExitsWrong)

/- THE SECOND FORM. 'bulk': how many values and letters a reading holds, each counted each time it is reached (what is shared counts as often as it is met; a slice's spare places count too). A statement '..UptoSaid' is the law's where the arguments, and the package variables that the reading takes, are together of bulk at most 1048576: NARROWER than '..Said'. Prove '..Said' where nothing that the law and all that it calls make is longer than what came in: it says more and counts as full. Else prove '..UptoSaid'. A law counts once. -/
mutual
def uptoBulk {H : Type} : DataW H → Nat
  | .lit (.string bytes) => bytes.length + 1
  | .lit _ => 1
  | .nil => 1
  | .ptr d => uptoBulk d + 1
  | .slice elems spare => uptoBulkAll elems + uptoBulkAll spare + 1
  | .agg parts => uptoBulkAll parts + 1
  | .iface _ d => uptoBulk d + 1
  | .map entries => uptoBulkEntries entries + 1
  | .held _ => 1
def uptoBulkAll {H : Type} : List (DataW H) → Nat
  | [] => 0
  | d :: r => uptoBulk d + uptoBulkAll r
def uptoBulkEntries {H : Type} : List (Lit × DataW H) → Nat
  | [] => 0
  | x :: r => uptoBulkEntry x + uptoBulkEntries r
def uptoBulkEntry {H : Type} : Lit × DataW H → Nat
  | (.string bytes, d) => bytes.length + uptoBulk d + 1
  | (_, d) => uptoBulk d + 1
 end
def uptoSmall : (H : Type) → List (DataW H) → Bool := fun _ ds => decide (uptoBulkAll ds ≤ 1048576)
def OpenSpec.upto (s : _root_.Go.ChangeSpec) : _root_.Go.OpenSpec := { _root_.Go.OpenSpec.ofChange s with cond := some uptoSmall }

/-- 'laws.FnExactIsQuiet', WHERE WHAT IT READS IS OF BULK AT MOST 1048576: true; the input reads as it did. -/
def fnExactIsQuietUptoRow : OpenClaim := { program := "ytlhfcmbkjddgiaa", sum := "3224b0ac0d3e9e6842a146916e46f690d6cac963844bf732287fd340bacd4550", func := "loop.example/faultcleanup/laws.FnExactIsQuiet", spec := "fnExactIsQuiet", unfollowed := true, recurses := true, apart := false, narrowed := true }
def FnExactIsQuietUptoSaid : Prop := fnExactIsQuietUptoRow.holds Try.pinned (OpenSpec.upto fnExactIsQuietSpec)

/-- 'laws.FnIsQuiet', WHERE WHAT IT READS IS OF BULK AT MOST 1048576: true; the input reads as it did. -/
def fnIsQuietUptoRow : OpenClaim := { program := "ytlhfcmbkjddgiaa", sum := "3224b0ac0d3e9e6842a146916e46f690d6cac963844bf732287fd340bacd4550", func := "loop.example/faultcleanup/laws.FnIsQuiet", spec := "fnIsQuiet", unfollowed := true, recurses := true, apart := false, narrowed := true }
def FnIsQuietUptoSaid : Prop := fnIsQuietUptoRow.holds Try.pinned (OpenSpec.upto fnIsQuietSpec)

/-- 'laws.FnEscapesOf', WHERE WHAT IT READS IS OF BULK AT MOST 1048576: true; the input reads as it did. -/
def fnEscapesOfUptoRow : OpenClaim := { program := "ytlhfcmbkjddgiaa", sum := "3224b0ac0d3e9e6842a146916e46f690d6cac963844bf732287fd340bacd4550", func := "loop.example/faultcleanup/laws.FnEscapesOf", spec := "fnEscapesOf", unfollowed := true, recurses := true, apart := false, narrowed := true }
def FnEscapesOfUptoSaid : Prop := fnEscapesOfUptoRow.holds Try.pinned (OpenSpec.upto fnEscapesOfSpec)

/-- 'laws.FnPushExit', WHERE WHAT IT READS IS OF BULK AT MOST 1048576: true; the input reads as it did. -/
def fnPushExitUptoRow : OpenClaim := { program := "ytlhfcmbkjddgiaa", sum := "3224b0ac0d3e9e6842a146916e46f690d6cac963844bf732287fd340bacd4550", func := "loop.example/faultcleanup/laws.FnPushExit", spec := "fnPushExit", unfollowed := true, recurses := true, apart := false, narrowed := true }
def FnPushExitUptoSaid : Prop := fnPushExitUptoRow.holds Try.pinned (OpenSpec.upto fnPushExitSpec)

/-- 'laws.FnJoinExits', WHERE WHAT IT READS IS OF BULK AT MOST 1048576: true; the input reads as it did. -/
def fnJoinExitsUptoRow : OpenClaim := { program := "ytlhfcmbkjddgiaa", sum := "3224b0ac0d3e9e6842a146916e46f690d6cac963844bf732287fd340bacd4550", func := "loop.example/faultcleanup/laws.FnJoinExits", spec := "fnJoinExits", unfollowed := true, recurses := true, apart := false, narrowed := true }
def FnJoinExitsUptoSaid : Prop := fnJoinExitsUptoRow.holds Try.pinned (OpenSpec.upto fnJoinExitsSpec)

end Rows
end Go.Proofs.Ytlhfcmbkjddgiaa
