/-
  No cell of these rows narrows 'for every input' (looked for: loops, veiled, ifaces, maps, wideKeys, modest, calm, conditions, laid).
  DERIVED. THE GIVEN ROWS OF THIS SEAT. 6 by the template 'for every input the law returns true; each argument reads behind the call as it read before'; 0 by the template 'total and deterministic' (their statements: YtbclgpgolbmlpaaTotals.lean).
  GIVEN WITH THE SEED: the statements are not yours to turn. If you find one false, say at which input.
  Laid BY PROGRAM, IN A SANDBOX (cutbox-rows.mjs): the forced cells as the released guide's own fill.sh prints them over the translation b3a3a230a55ed534… (all of the seat's roots in one cut). By AI agents, Wed Nov 11 2026. No macro, syntax, notation, axiom, sorry.
-/
import Derived.Test.YtbclgpgolbmlpaaChecked
import GoSem.Claim
import GoSem.ClaimJoined
import GoSem.ClaimMapViews
import Derived.JoinedTies
import Derived.KernelRfl
namespace Go.Proofs.Ytbclgpgolbmlpaa
/- THE CELL 'sum', in the pinned program and in every row, IS THE sha256 OF THE DUMP (.gsa) THAT YtbclgpgolbmlpaaProg.lean LOADS. Nothing in Lean hashes anything: it is a label: what it is worth is what the hold of that sum in a sandbox is worth. -/
noncomputable def Try.pinned : Pinned := { name := "ytbclgpgolbmlpaa", sum := "b3a3a230a55ed534da087b69c95ac909728a6bdfc8a632e5441032fb94f5feb5", checked := Try.checked }
namespace Rows
def none {H : Type} : Left H := { results := [], args := [] }

/-- 'laws.FnExactLoopOf': WHATEVER THE INPUT: true; the input reads as it did. -/
def fnExactLoopOfSpec : ChangeSpec := { name := "fnExactLoopOf", fn := fun _ => fun
  | [d1, d2, d3] => { results := [.lit (.bool true)], args := [d1, d2, d3] }
  | _ => none }
def fnExactLoopOfRow : OpenClaim := { program := "ytbclgpgolbmlpaa", sum := "b3a3a230a55ed534da087b69c95ac909728a6bdfc8a632e5441032fb94f5feb5", func := "loop.example/faultcleanup/laws.FnExactLoopOf", spec := "fnExactLoopOf", unfollowed := true, recurses := true, apart := false }
def FnExactLoopOfSaid : Prop := fnExactLoopOfRow.holds Try.pinned (OpenSpec.ofChange fnExactLoopOfSpec)

/-- ITS FALSE NEIGHBOUR: 'it returns false'. Refute it at one input. -/
def fnExactLoopOfWrong : ChangeSpec := { name := "fnExactLoopOf", fn := fun _ => fun
  | [d1, d2, d3] => { results := [.lit (.bool false)], args := [d1, d2, d3] }
  | _ => none }
def FnExactLoopOfWrongFalsely : Prop := fnExactLoopOfRow.holds Try.pinned (OpenSpec.ofChange fnExactLoopOfWrong)

/-- 'laws.FnExactTryOf': WHATEVER THE INPUT: true; the input reads as it did. -/
def fnExactTryOfSpec : ChangeSpec := { name := "fnExactTryOf", fn := fun _ => fun
  | [d1, d2, d3] => { results := [.lit (.bool true)], args := [d1, d2, d3] }
  | _ => none }
def fnExactTryOfRow : OpenClaim := { program := "ytbclgpgolbmlpaa", sum := "b3a3a230a55ed534da087b69c95ac909728a6bdfc8a632e5441032fb94f5feb5", func := "loop.example/faultcleanup/laws.FnExactTryOf", spec := "fnExactTryOf", unfollowed := true, recurses := true, apart := false }
def FnExactTryOfSaid : Prop := fnExactTryOfRow.holds Try.pinned (OpenSpec.ofChange fnExactTryOfSpec)

/-- ITS FALSE NEIGHBOUR: 'it returns false'. Refute it at one input. -/
def fnExactTryOfWrong : ChangeSpec := { name := "fnExactTryOf", fn := fun _ => fun
  | [d1, d2, d3] => { results := [.lit (.bool false)], args := [d1, d2, d3] }
  | _ => none }
def FnExactTryOfWrongFalsely : Prop := fnExactTryOfRow.holds Try.pinned (OpenSpec.ofChange fnExactTryOfWrong)

/-- 'laws.FnExactEnclosingOf': WHATEVER THE INPUT: true; the input reads as it did. -/
def fnExactEnclosingOfSpec : ChangeSpec := { name := "fnExactEnclosingOf", fn := fun _ => fun
  | [d1, d2, d3] => { results := [.lit (.bool true)], args := [d1, d2, d3] }
  | _ => none }
def fnExactEnclosingOfRow : OpenClaim := { program := "ytbclgpgolbmlpaa", sum := "b3a3a230a55ed534da087b69c95ac909728a6bdfc8a632e5441032fb94f5feb5", func := "loop.example/faultcleanup/laws.FnExactEnclosingOf", spec := "fnExactEnclosingOf", unfollowed := true, recurses := true, apart := false }
def FnExactEnclosingOfSaid : Prop := fnExactEnclosingOfRow.holds Try.pinned (OpenSpec.ofChange fnExactEnclosingOfSpec)

/-- ITS FALSE NEIGHBOUR: 'it returns false'. Refute it at one input. -/
def fnExactEnclosingOfWrong : ChangeSpec := { name := "fnExactEnclosingOf", fn := fun _ => fun
  | [d1, d2, d3] => { results := [.lit (.bool false)], args := [d1, d2, d3] }
  | _ => none }
def FnExactEnclosingOfWrongFalsely : Prop := fnExactEnclosingOfRow.holds Try.pinned (OpenSpec.ofChange fnExactEnclosingOfWrong)

/-- 'laws.FnExactCatcherOf': WHATEVER THE INPUT: true; the input reads as it did. -/
def fnExactCatcherOfSpec : ChangeSpec := { name := "fnExactCatcherOf", fn := fun _ => fun
  | [d1, d2, d3, d4] => { results := [.lit (.bool true)], args := [d1, d2, d3, d4] }
  | _ => none }
def fnExactCatcherOfRow : OpenClaim := { program := "ytbclgpgolbmlpaa", sum := "b3a3a230a55ed534da087b69c95ac909728a6bdfc8a632e5441032fb94f5feb5", func := "loop.example/faultcleanup/laws.FnExactCatcherOf", spec := "fnExactCatcherOf", unfollowed := true, recurses := true, apart := false }
def FnExactCatcherOfSaid : Prop := fnExactCatcherOfRow.holds Try.pinned (OpenSpec.ofChange fnExactCatcherOfSpec)

/-- ITS FALSE NEIGHBOUR: 'it returns false'. Refute it at one input. -/
def fnExactCatcherOfWrong : ChangeSpec := { name := "fnExactCatcherOf", fn := fun _ => fun
  | [d1, d2, d3, d4] => { results := [.lit (.bool false)], args := [d1, d2, d3, d4] }
  | _ => none }
def FnExactCatcherOfWrongFalsely : Prop := fnExactCatcherOfRow.holds Try.pinned (OpenSpec.ofChange fnExactCatcherOfWrong)

/-- 'laws.FnExactWayOut': WHATEVER THE INPUT: true; the input reads as it did. -/
def fnExactWayOutSpec : ChangeSpec := { name := "fnExactWayOut", fn := fun _ => fun
  | [d1, d2, d3] => { results := [.lit (.bool true)], args := [d1, d2, d3] }
  | _ => none }
def fnExactWayOutRow : OpenClaim := { program := "ytbclgpgolbmlpaa", sum := "b3a3a230a55ed534da087b69c95ac909728a6bdfc8a632e5441032fb94f5feb5", func := "loop.example/faultcleanup/laws.FnExactWayOut", spec := "fnExactWayOut", unfollowed := true, recurses := true, apart := false }
def FnExactWayOutSaid : Prop := fnExactWayOutRow.holds Try.pinned (OpenSpec.ofChange fnExactWayOutSpec)

/-- ITS FALSE NEIGHBOUR: 'it returns false'. Refute it at one input. -/
def fnExactWayOutWrong : ChangeSpec := { name := "fnExactWayOut", fn := fun _ => fun
  | [d1, d2, d3] => { results := [.lit (.bool false)], args := [d1, d2, d3] }
  | _ => none }
def FnExactWayOutWrongFalsely : Prop := fnExactWayOutRow.holds Try.pinned (OpenSpec.ofChange fnExactWayOutWrong)

/-- 'laws.FnExactWayToLoop': WHATEVER THE INPUT: true; the input reads as it did. -/
def fnExactWayToLoopSpec : ChangeSpec := { name := "fnExactWayToLoop", fn := fun _ => fun
  | [d1, d2, d3] => { results := [.lit (.bool true)], args := [d1, d2, d3] }
  | _ => none }
def fnExactWayToLoopRow : OpenClaim := { program := "ytbclgpgolbmlpaa", sum := "b3a3a230a55ed534da087b69c95ac909728a6bdfc8a632e5441032fb94f5feb5", func := "loop.example/faultcleanup/laws.FnExactWayToLoop", spec := "fnExactWayToLoop", unfollowed := true, recurses := true, apart := false }
def FnExactWayToLoopSaid : Prop := fnExactWayToLoopRow.holds Try.pinned (OpenSpec.ofChange fnExactWayToLoopSpec)

/-- ITS FALSE NEIGHBOUR: 'it returns false'. Refute it at one input. -/
def fnExactWayToLoopWrong : ChangeSpec := { name := "fnExactWayToLoop", fn := fun _ => fun
  | [d1, d2, d3] => { results := [.lit (.bool false)], args := [d1, d2, d3] }
  | _ => none }
def FnExactWayToLoopWrongFalsely : Prop := fnExactWayToLoopRow.holds Try.pinned (OpenSpec.ofChange fnExactWayToLoopWrong)

/- THE SECOND FORM. 'bulk': how many values and letters a reading holds, each counted each time it is reached (what is shared counts as often as it is met; a slice's spare places count too). A statement '..UptoSaid' is the law's where the arguments, and the package variables that the reading takes, are together of bulk at most 1048576: NARROWER than '..Said'. Prove '..Said' where nothing that the law and all that it calls make is longer than what came in: it says more and counts as full. Else prove '..UptoSaid'. A law counts once. -/
mutual
def uptoBulk {H : Type} : DataW H → Nat
  | .lit (.string bytes) => bytes.length + 1
  | .lit _ => 1
  | .nil => 1
  | .ptr d => uptoBulk d + 1
  | .slice elems spare => uptoBulkAll elems + uptoBulkAll spare + 1
  | .agg parts => uptoBulkAll parts + 1
  | .iface _ d => uptoBulk d + 1
  | .map entries => uptoBulkEntries entries + 1
  | .held _ => 1
def uptoBulkAll {H : Type} : List (DataW H) → Nat
  | [] => 0
  | d :: r => uptoBulk d + uptoBulkAll r
def uptoBulkEntries {H : Type} : List (Lit × DataW H) → Nat
  | [] => 0
  | x :: r => uptoBulkEntry x + uptoBulkEntries r
def uptoBulkEntry {H : Type} : Lit × DataW H → Nat
  | (.string bytes, d) => bytes.length + uptoBulk d + 1
  | (_, d) => uptoBulk d + 1
 end
def uptoSmall : (H : Type) → List (DataW H) → Bool := fun _ ds => decide (uptoBulkAll ds ≤ 1048576)
def OpenSpec.upto (s : _root_.Go.ChangeSpec) : _root_.Go.OpenSpec := { _root_.Go.OpenSpec.ofChange s with cond := some uptoSmall }

/-- 'laws.FnExactLoopOf', WHERE WHAT IT READS IS OF BULK AT MOST 1048576: true; the input reads as it did. -/
def fnExactLoopOfUptoRow : OpenClaim := { program := "ytbclgpgolbmlpaa", sum := "b3a3a230a55ed534da087b69c95ac909728a6bdfc8a632e5441032fb94f5feb5", func := "loop.example/faultcleanup/laws.FnExactLoopOf", spec := "fnExactLoopOf", unfollowed := true, recurses := true, apart := false, narrowed := true }
def FnExactLoopOfUptoSaid : Prop := fnExactLoopOfUptoRow.holds Try.pinned (OpenSpec.upto fnExactLoopOfSpec)

/-- 'laws.FnExactTryOf', WHERE WHAT IT READS IS OF BULK AT MOST 1048576: true; the input reads as it did. -/
def fnExactTryOfUptoRow : OpenClaim := { program := "ytbclgpgolbmlpaa", sum := "b3a3a230a55ed534da087b69c95ac909728a6bdfc8a632e5441032fb94f5feb5", func := "loop.example/faultcleanup/laws.FnExactTryOf", spec := "fnExactTryOf", unfollowed := true, recurses := true, apart := false, narrowed := true }
def FnExactTryOfUptoSaid : Prop := fnExactTryOfUptoRow.holds Try.pinned (OpenSpec.upto fnExactTryOfSpec)

/-- 'laws.FnExactEnclosingOf', WHERE WHAT IT READS IS OF BULK AT MOST 1048576: true; the input reads as it did. -/
def fnExactEnclosingOfUptoRow : OpenClaim := { program := "ytbclgpgolbmlpaa", sum := "b3a3a230a55ed534da087b69c95ac909728a6bdfc8a632e5441032fb94f5feb5", func := "loop.example/faultcleanup/laws.FnExactEnclosingOf", spec := "fnExactEnclosingOf", unfollowed := true, recurses := true, apart := false, narrowed := true }
def FnExactEnclosingOfUptoSaid : Prop := fnExactEnclosingOfUptoRow.holds Try.pinned (OpenSpec.upto fnExactEnclosingOfSpec)

/-- 'laws.FnExactCatcherOf', WHERE WHAT IT READS IS OF BULK AT MOST 1048576: true; the input reads as it did. -/
def fnExactCatcherOfUptoRow : OpenClaim := { program := "ytbclgpgolbmlpaa", sum := "b3a3a230a55ed534da087b69c95ac909728a6bdfc8a632e5441032fb94f5feb5", func := "loop.example/faultcleanup/laws.FnExactCatcherOf", spec := "fnExactCatcherOf", unfollowed := true, recurses := true, apart := false, narrowed := true }
def FnExactCatcherOfUptoSaid : Prop := fnExactCatcherOfUptoRow.holds Try.pinned (OpenSpec.upto fnExactCatcherOfSpec)

/-- 'laws.FnExactWayOut', WHERE WHAT IT READS IS OF BULK AT MOST 1048576: true; the input reads as it did. -/
def fnExactWayOutUptoRow : OpenClaim := { program := "ytbclgpgolbmlpaa", sum := "b3a3a230a55ed534da087b69c95ac909728a6bdfc8a632e5441032fb94f5feb5", func := "loop.example/faultcleanup/laws.FnExactWayOut", spec := "fnExactWayOut", unfollowed := true, recurses := true, apart := false, narrowed := true }
def FnExactWayOutUptoSaid : Prop := fnExactWayOutUptoRow.holds Try.pinned (OpenSpec.upto fnExactWayOutSpec)

/-- 'laws.FnExactWayToLoop', WHERE WHAT IT READS IS OF BULK AT MOST 1048576: true; the input reads as it did. -/
def fnExactWayToLoopUptoRow : OpenClaim := { program := "ytbclgpgolbmlpaa", sum := "b3a3a230a55ed534da087b69c95ac909728a6bdfc8a632e5441032fb94f5feb5", func := "loop.example/faultcleanup/laws.FnExactWayToLoop", spec := "fnExactWayToLoop", unfollowed := true, recurses := true, apart := false, narrowed := true }
def FnExactWayToLoopUptoSaid : Prop := fnExactWayToLoopUptoRow.holds Try.pinned (OpenSpec.upto fnExactWayToLoopSpec)

end Rows
end Go.Proofs.Ytbclgpgolbmlpaa
