/-
  No cell of these rows narrows 'for every input' (looked for: loops, veiled, ifaces, maps, wideKeys, modest, calm, conditions, laid).
  DERIVED. THE GIVEN ROWS OF THIS SEAT. 6 by the template 'for every input the law returns true; each argument reads behind the call as it read before'; 0 by the template 'total and deterministic' (their statements: YtkokajljeebgdaaTotals.lean).
  GIVEN WITH THE SEED: the statements are not yours to turn. If you find one false, say at which input.
  Laid BY PROGRAM, IN A SANDBOX (cutbox-rows.mjs): the forced cells as the released guide's own fill.sh prints them over the translation b35e13383d400f1f… (all of the seat's roots in one cut). By AI agents, Wed Nov 11 2026. No macro, syntax, notation, axiom, sorry.
-/
import Derived.Test.YtkokajljeebgdaaChecked
import GoSem.Claim
import GoSem.ClaimJoined
import GoSem.ClaimMapViews
import Derived.JoinedTies
import Derived.KernelRfl
namespace Go.Proofs.Ytkokajljeebgdaa
/- THE CELL 'sum', in the pinned program and in every row, IS THE sha256 OF THE DUMP (.gsa) THAT YtkokajljeebgdaaProg.lean LOADS. Nothing in Lean hashes anything: it is a label: what it is worth is what the hold of that sum in a sandbox is worth. -/
noncomputable def Try.pinned : Pinned := { name := "ytkokajljeebgdaa", sum := "b35e13383d400f1f9d8a4693475c6f5f66cd89d902033133afc4e2ec94358a78", checked := Try.checked }
namespace Rows
def none {H : Type} : Left H := { results := [], args := [] }

/-- 'laws.FnExactWayOfFault': WHATEVER THE INPUT: true; the input reads as it did. -/
def fnExactWayOfFaultSpec : ChangeSpec := { name := "fnExactWayOfFault", fn := fun _ => fun
  | [d1, d2, d3, d4] => { results := [.lit (.bool true)], args := [d1, d2, d3, d4] }
  | _ => none }
def fnExactWayOfFaultRow : OpenClaim := { program := "ytkokajljeebgdaa", sum := "b35e13383d400f1f9d8a4693475c6f5f66cd89d902033133afc4e2ec94358a78", func := "loop.example/faultcleanup/laws.FnExactWayOfFault", spec := "fnExactWayOfFault", unfollowed := true, recurses := true, apart := false }
def FnExactWayOfFaultSaid : Prop := fnExactWayOfFaultRow.holds Try.pinned (OpenSpec.ofChange fnExactWayOfFaultSpec)

/-- ITS FALSE NEIGHBOUR: 'it returns false'. Refute it at one input. -/
def fnExactWayOfFaultWrong : ChangeSpec := { name := "fnExactWayOfFault", fn := fun _ => fun
  | [d1, d2, d3, d4] => { results := [.lit (.bool false)], args := [d1, d2, d3, d4] }
  | _ => none }
def FnExactWayOfFaultWrongFalsely : Prop := fnExactWayOfFaultRow.holds Try.pinned (OpenSpec.ofChange fnExactWayOfFaultWrong)

/-- 'laws.FnExactLowerWith': WHATEVER THE INPUT: true; the input reads as it did. -/
def fnExactLowerWithSpec : ChangeSpec := { name := "fnExactLowerWith", fn := fun _ => fun
  | [d1, d2] => { results := [.lit (.bool true)], args := [d1, d2] }
  | _ => none }
def fnExactLowerWithRow : OpenClaim := { program := "ytkokajljeebgdaa", sum := "b35e13383d400f1f9d8a4693475c6f5f66cd89d902033133afc4e2ec94358a78", func := "loop.example/faultcleanup/laws.FnExactLowerWith", spec := "fnExactLowerWith", unfollowed := true, recurses := true, apart := false }
def FnExactLowerWithSaid : Prop := fnExactLowerWithRow.holds Try.pinned (OpenSpec.ofChange fnExactLowerWithSpec)

/-- ITS FALSE NEIGHBOUR: 'it returns false'. Refute it at one input. -/
def fnExactLowerWithWrong : ChangeSpec := { name := "fnExactLowerWith", fn := fun _ => fun
  | [d1, d2] => { results := [.lit (.bool false)], args := [d1, d2] }
  | _ => none }
def FnExactLowerWithWrongFalsely : Prop := fnExactLowerWithRow.holds Try.pinned (OpenSpec.ofChange fnExactLowerWithWrong)

/-- 'laws.FnEnclosingOf': WHATEVER THE INPUT: true; the input reads as it did. -/
def fnEnclosingOfSpec : ChangeSpec := { name := "fnEnclosingOf", fn := fun _ => fun
  | [d] => { results := [.lit (.bool true)], args := [d] }
  | _ => none }
def fnEnclosingOfRow : OpenClaim := { program := "ytkokajljeebgdaa", sum := "b35e13383d400f1f9d8a4693475c6f5f66cd89d902033133afc4e2ec94358a78", func := "loop.example/faultcleanup/laws.FnEnclosingOf", spec := "fnEnclosingOf", unfollowed := true, recurses := true, apart := false }
def FnEnclosingOfSaid : Prop := fnEnclosingOfRow.holds Try.pinned (OpenSpec.ofChange fnEnclosingOfSpec)

/-- ITS FALSE NEIGHBOUR: 'it returns false'. Refute it at one input. -/
def fnEnclosingOfWrong : ChangeSpec := { name := "fnEnclosingOf", fn := fun _ => fun
  | [d] => { results := [.lit (.bool false)], args := [d] }
  | _ => none }
def FnEnclosingOfWrongFalsely : Prop := fnEnclosingOfRow.holds Try.pinned (OpenSpec.ofChange fnEnclosingOfWrong)

/-- 'laws.FnLoopOf': WHATEVER THE INPUT: true; the input reads as it did. -/
def fnLoopOfSpec : ChangeSpec := { name := "fnLoopOf", fn := fun _ => fun
  | [d] => { results := [.lit (.bool true)], args := [d] }
  | _ => none }
def fnLoopOfRow : OpenClaim := { program := "ytkokajljeebgdaa", sum := "b35e13383d400f1f9d8a4693475c6f5f66cd89d902033133afc4e2ec94358a78", func := "loop.example/faultcleanup/laws.FnLoopOf", spec := "fnLoopOf", unfollowed := true, recurses := true, apart := false }
def FnLoopOfSaid : Prop := fnLoopOfRow.holds Try.pinned (OpenSpec.ofChange fnLoopOfSpec)

/-- ITS FALSE NEIGHBOUR: 'it returns false'. Refute it at one input. -/
def fnLoopOfWrong : ChangeSpec := { name := "fnLoopOf", fn := fun _ => fun
  | [d] => { results := [.lit (.bool false)], args := [d] }
  | _ => none }
def FnLoopOfWrongFalsely : Prop := fnLoopOfRow.holds Try.pinned (OpenSpec.ofChange fnLoopOfWrong)

/-- 'laws.FnTryOf': WHATEVER THE INPUT: true; the input reads as it did. -/
def fnTryOfSpec : ChangeSpec := { name := "fnTryOf", fn := fun _ => fun
  | [d] => { results := [.lit (.bool true)], args := [d] }
  | _ => none }
def fnTryOfRow : OpenClaim := { program := "ytkokajljeebgdaa", sum := "b35e13383d400f1f9d8a4693475c6f5f66cd89d902033133afc4e2ec94358a78", func := "loop.example/faultcleanup/laws.FnTryOf", spec := "fnTryOf", unfollowed := true, recurses := true, apart := false }
def FnTryOfSaid : Prop := fnTryOfRow.holds Try.pinned (OpenSpec.ofChange fnTryOfSpec)

/-- ITS FALSE NEIGHBOUR: 'it returns false'. Refute it at one input. -/
def fnTryOfWrong : ChangeSpec := { name := "fnTryOf", fn := fun _ => fun
  | [d] => { results := [.lit (.bool false)], args := [d] }
  | _ => none }
def FnTryOfWrongFalsely : Prop := fnTryOfRow.holds Try.pinned (OpenSpec.ofChange fnTryOfWrong)

/-- 'laws.FnWayOut': WHATEVER THE INPUT: true; the input reads as it did. -/
def fnWayOutSpec : ChangeSpec := { name := "fnWayOut", fn := fun _ => fun
  | [d] => { results := [.lit (.bool true)], args := [d] }
  | _ => none }
def fnWayOutRow : OpenClaim := { program := "ytkokajljeebgdaa", sum := "b35e13383d400f1f9d8a4693475c6f5f66cd89d902033133afc4e2ec94358a78", func := "loop.example/faultcleanup/laws.FnWayOut", spec := "fnWayOut", unfollowed := true, recurses := true, apart := false }
def FnWayOutSaid : Prop := fnWayOutRow.holds Try.pinned (OpenSpec.ofChange fnWayOutSpec)

/-- ITS FALSE NEIGHBOUR: 'it returns false'. Refute it at one input. -/
def fnWayOutWrong : ChangeSpec := { name := "fnWayOut", fn := fun _ => fun
  | [d] => { results := [.lit (.bool false)], args := [d] }
  | _ => none }
def FnWayOutWrongFalsely : Prop := fnWayOutRow.holds Try.pinned (OpenSpec.ofChange fnWayOutWrong)

/- THE SECOND FORM. 'bulk': how many values and letters a reading holds, each counted each time it is reached (what is shared counts as often as it is met; a slice's spare places count too). A statement '..UptoSaid' is the law's where the arguments, and the package variables that the reading takes, are together of bulk at most 1048576: NARROWER than '..Said'. Prove '..Said' where nothing that the law and all that it calls make is longer than what came in: it says more and counts as full. Else prove '..UptoSaid'. A law counts once. -/
mutual
def uptoBulk {H : Type} : DataW H → Nat
  | .lit (.string bytes) => bytes.length + 1
  | .lit _ => 1
  | .nil => 1
  | .ptr d => uptoBulk d + 1
  | .slice elems spare => uptoBulkAll elems + uptoBulkAll spare + 1
  | .agg parts => uptoBulkAll parts + 1
  | .iface _ d => uptoBulk d + 1
  | .map entries => uptoBulkEntries entries + 1
  | .held _ => 1
def uptoBulkAll {H : Type} : List (DataW H) → Nat
  | [] => 0
  | d :: r => uptoBulk d + uptoBulkAll r
def uptoBulkEntries {H : Type} : List (Lit × DataW H) → Nat
  | [] => 0
  | x :: r => uptoBulkEntry x + uptoBulkEntries r
def uptoBulkEntry {H : Type} : Lit × DataW H → Nat
  | (.string bytes, d) => bytes.length + uptoBulk d + 1
  | (_, d) => uptoBulk d + 1
 end
def uptoSmall : (H : Type) → List (DataW H) → Bool := fun _ ds => decide (uptoBulkAll ds ≤ 1048576)
def OpenSpec.upto (s : _root_.Go.ChangeSpec) : _root_.Go.OpenSpec := { _root_.Go.OpenSpec.ofChange s with cond := some uptoSmall }

/-- 'laws.FnExactWayOfFault', WHERE WHAT IT READS IS OF BULK AT MOST 1048576: true; the input reads as it did. -/
def fnExactWayOfFaultUptoRow : OpenClaim := { program := "ytkokajljeebgdaa", sum := "b35e13383d400f1f9d8a4693475c6f5f66cd89d902033133afc4e2ec94358a78", func := "loop.example/faultcleanup/laws.FnExactWayOfFault", spec := "fnExactWayOfFault", unfollowed := true, recurses := true, apart := false, narrowed := true }
def FnExactWayOfFaultUptoSaid : Prop := fnExactWayOfFaultUptoRow.holds Try.pinned (OpenSpec.upto fnExactWayOfFaultSpec)

/-- 'laws.FnExactLowerWith', WHERE WHAT IT READS IS OF BULK AT MOST 1048576: true; the input reads as it did. -/
def fnExactLowerWithUptoRow : OpenClaim := { program := "ytkokajljeebgdaa", sum := "b35e13383d400f1f9d8a4693475c6f5f66cd89d902033133afc4e2ec94358a78", func := "loop.example/faultcleanup/laws.FnExactLowerWith", spec := "fnExactLowerWith", unfollowed := true, recurses := true, apart := false, narrowed := true }
def FnExactLowerWithUptoSaid : Prop := fnExactLowerWithUptoRow.holds Try.pinned (OpenSpec.upto fnExactLowerWithSpec)

/-- 'laws.FnEnclosingOf', WHERE WHAT IT READS IS OF BULK AT MOST 1048576: true; the input reads as it did. -/
def fnEnclosingOfUptoRow : OpenClaim := { program := "ytkokajljeebgdaa", sum := "b35e13383d400f1f9d8a4693475c6f5f66cd89d902033133afc4e2ec94358a78", func := "loop.example/faultcleanup/laws.FnEnclosingOf", spec := "fnEnclosingOf", unfollowed := true, recurses := true, apart := false, narrowed := true }
def FnEnclosingOfUptoSaid : Prop := fnEnclosingOfUptoRow.holds Try.pinned (OpenSpec.upto fnEnclosingOfSpec)

/-- 'laws.FnLoopOf', WHERE WHAT IT READS IS OF BULK AT MOST 1048576: true; the input reads as it did. -/
def fnLoopOfUptoRow : OpenClaim := { program := "ytkokajljeebgdaa", sum := "b35e13383d400f1f9d8a4693475c6f5f66cd89d902033133afc4e2ec94358a78", func := "loop.example/faultcleanup/laws.FnLoopOf", spec := "fnLoopOf", unfollowed := true, recurses := true, apart := false, narrowed := true }
def FnLoopOfUptoSaid : Prop := fnLoopOfUptoRow.holds Try.pinned (OpenSpec.upto fnLoopOfSpec)

/-- 'laws.FnTryOf', WHERE WHAT IT READS IS OF BULK AT MOST 1048576: true; the input reads as it did. -/
def fnTryOfUptoRow : OpenClaim := { program := "ytkokajljeebgdaa", sum := "b35e13383d400f1f9d8a4693475c6f5f66cd89d902033133afc4e2ec94358a78", func := "loop.example/faultcleanup/laws.FnTryOf", spec := "fnTryOf", unfollowed := true, recurses := true, apart := false, narrowed := true }
def FnTryOfUptoSaid : Prop := fnTryOfUptoRow.holds Try.pinned (OpenSpec.upto fnTryOfSpec)

/-- 'laws.FnWayOut', WHERE WHAT IT READS IS OF BULK AT MOST 1048576: true; the input reads as it did. -/
def fnWayOutUptoRow : OpenClaim := { program := "ytkokajljeebgdaa", sum := "b35e13383d400f1f9d8a4693475c6f5f66cd89d902033133afc4e2ec94358a78", func := "loop.example/faultcleanup/laws.FnWayOut", spec := "fnWayOut", unfollowed := true, recurses := true, apart := false, narrowed := true }
def FnWayOutUptoSaid : Prop := fnWayOutUptoRow.holds Try.pinned (OpenSpec.upto fnWayOutSpec)

end Rows
end Go.Proofs.Ytkokajljeebgdaa
