/-
  No cell of these rows narrows 'for every input' (looked for: loops, veiled, ifaces, maps, wideKeys, modest, calm, conditions, laid).
  DERIVED. THE GIVEN ROWS OF THIS SEAT. 4 by the template 'for every input the law returns true; each argument reads behind the call as it read before'; 0 by the template 'total and deterministic' (their statements: YtkhiiiddbmgiaaaTotals.lean).
  GIVEN WITH THE SEED: the statements are not yours to turn. If you find one false, say at which input.
  Laid BY PROGRAM, IN A SANDBOX (cutbox-rows.mjs): the forced cells as the released guide's own fill.sh prints them over the translation d2534e0789295a3d… (all of the seat's roots in one cut). By AI agents, Wed Nov 11 2026. No macro, syntax, notation, axiom, sorry.
-/
import Derived.Test.YtkhiiiddbmgiaaaChecked
import GoSem.Claim
import GoSem.ClaimJoined
import GoSem.ClaimMapViews
import Derived.JoinedTies
import Derived.KernelRfl
namespace Go.Proofs.Ytkhiiiddbmgiaaa
/- THE CELL 'sum', in the pinned program and in every row, IS THE sha256 OF THE DUMP (.gsa) THAT YtkhiiiddbmgiaaaProg.lean LOADS. Nothing in Lean hashes anything: it is a label: what it is worth is what the hold of that sum in a sandbox is worth. -/
noncomputable def Try.pinned : Pinned := { name := "ytkhiiiddbmgiaaa", sum := "d2534e0789295a3da3489673438d083a609756d9659dd307a30b1f41fae074a9", checked := Try.checked }
namespace Rows
def none {H : Type} : Left H := { results := [], args := [] }

/-- 'laws.FnExactPruneLines': WHATEVER THE INPUT: true; the input reads as it did. -/
def fnExactPruneLinesSpec : ChangeSpec := { name := "fnExactPruneLines", fn := fun _ => fun
  | [d1, d2] => { results := [.lit (.bool true)], args := [d1, d2] }
  | _ => none }
def fnExactPruneLinesRow : OpenClaim := { program := "ytkhiiiddbmgiaaa", sum := "d2534e0789295a3da3489673438d083a609756d9659dd307a30b1f41fae074a9", func := "loop.example/faultcleanup/laws.FnExactPruneLines", spec := "fnExactPruneLines", unfollowed := true, recurses := true, apart := false }
def FnExactPruneLinesSaid : Prop := fnExactPruneLinesRow.holds Try.pinned (OpenSpec.ofChange fnExactPruneLinesSpec)

/-- ITS FALSE NEIGHBOUR: 'it returns false'. Refute it at one input. -/
def fnExactPruneLinesWrong : ChangeSpec := { name := "fnExactPruneLines", fn := fun _ => fun
  | [d1, d2] => { results := [.lit (.bool false)], args := [d1, d2] }
  | _ => none }
def FnExactPruneLinesWrongFalsely : Prop := fnExactPruneLinesRow.holds Try.pinned (OpenSpec.ofChange fnExactPruneLinesWrong)

/-- 'laws.FnExactDropDead': WHATEVER THE INPUT: true; the input reads as it did. -/
def fnExactDropDeadSpec : ChangeSpec := { name := "fnExactDropDead", fn := fun _ => fun
  | [d1, d2] => { results := [.lit (.bool true)], args := [d1, d2] }
  | _ => none }
def fnExactDropDeadRow : OpenClaim := { program := "ytkhiiiddbmgiaaa", sum := "d2534e0789295a3da3489673438d083a609756d9659dd307a30b1f41fae074a9", func := "loop.example/faultcleanup/laws.FnExactDropDead", spec := "fnExactDropDead", unfollowed := true, recurses := true, apart := false }
def FnExactDropDeadSaid : Prop := fnExactDropDeadRow.holds Try.pinned (OpenSpec.ofChange fnExactDropDeadSpec)

/-- ITS FALSE NEIGHBOUR: 'it returns false'. Refute it at one input. -/
def fnExactDropDeadWrong : ChangeSpec := { name := "fnExactDropDead", fn := fun _ => fun
  | [d1, d2] => { results := [.lit (.bool false)], args := [d1, d2] }
  | _ => none }
def FnExactDropDeadWrongFalsely : Prop := fnExactDropDeadRow.holds Try.pinned (OpenSpec.ofChange fnExactDropDeadWrong)

/-- 'laws.FnExactDeadLines': WHATEVER THE INPUT: true; the input reads as it did. -/
def fnExactDeadLinesSpec : ChangeSpec := { name := "fnExactDeadLines", fn := fun _ => fun
  | [d1, d2] => { results := [.lit (.bool true)], args := [d1, d2] }
  | _ => none }
def fnExactDeadLinesRow : OpenClaim := { program := "ytkhiiiddbmgiaaa", sum := "d2534e0789295a3da3489673438d083a609756d9659dd307a30b1f41fae074a9", func := "loop.example/faultcleanup/laws.FnExactDeadLines", spec := "fnExactDeadLines", unfollowed := true, recurses := true, apart := false }
def FnExactDeadLinesSaid : Prop := fnExactDeadLinesRow.holds Try.pinned (OpenSpec.ofChange fnExactDeadLinesSpec)

/-- ITS FALSE NEIGHBOUR: 'it returns false'. Refute it at one input. -/
def fnExactDeadLinesWrong : ChangeSpec := { name := "fnExactDeadLines", fn := fun _ => fun
  | [d1, d2] => { results := [.lit (.bool false)], args := [d1, d2] }
  | _ => none }
def FnExactDeadLinesWrongFalsely : Prop := fnExactDeadLinesRow.holds Try.pinned (OpenSpec.ofChange fnExactDeadLinesWrong)

/-- 'laws.FnPruneLinesDead': WHATEVER THE INPUT: true; the input reads as it did. -/
def fnPruneLinesDeadSpec : ChangeSpec := { name := "fnPruneLinesDead", fn := fun _ => fun
  | [d] => { results := [.lit (.bool true)], args := [d] }
  | _ => none }
def fnPruneLinesDeadRow : OpenClaim := { program := "ytkhiiiddbmgiaaa", sum := "d2534e0789295a3da3489673438d083a609756d9659dd307a30b1f41fae074a9", func := "loop.example/faultcleanup/laws.FnPruneLinesDead", spec := "fnPruneLinesDead", unfollowed := true, recurses := true, apart := false }
def FnPruneLinesDeadSaid : Prop := fnPruneLinesDeadRow.holds Try.pinned (OpenSpec.ofChange fnPruneLinesDeadSpec)

/-- ITS FALSE NEIGHBOUR: 'it returns false'. Refute it at one input. -/
def fnPruneLinesDeadWrong : ChangeSpec := { name := "fnPruneLinesDead", fn := fun _ => fun
  | [d] => { results := [.lit (.bool false)], args := [d] }
  | _ => none }
def FnPruneLinesDeadWrongFalsely : Prop := fnPruneLinesDeadRow.holds Try.pinned (OpenSpec.ofChange fnPruneLinesDeadWrong)

/- THE SECOND FORM. 'bulk': how many values and letters a reading holds, each counted each time it is reached (what is shared counts as often as it is met; a slice's spare places count too). A statement '..UptoSaid' is the law's where the arguments, and the package variables that the reading takes, are together of bulk at most 1048576: NARROWER than '..Said'. Prove '..Said' where nothing that the law and all that it calls make is longer than what came in: it says more and counts as full. Else prove '..UptoSaid'. A law counts once. -/
mutual
def uptoBulk {H : Type} : DataW H → Nat
  | .lit (.string bytes) => bytes.length + 1
  | .lit _ => 1
  | .nil => 1
  | .ptr d => uptoBulk d + 1
  | .slice elems spare => uptoBulkAll elems + uptoBulkAll spare + 1
  | .agg parts => uptoBulkAll parts + 1
  | .iface _ d => uptoBulk d + 1
  | .map entries => uptoBulkEntries entries + 1
  | .held _ => 1
def uptoBulkAll {H : Type} : List (DataW H) → Nat
  | [] => 0
  | d :: r => uptoBulk d + uptoBulkAll r
def uptoBulkEntries {H : Type} : List (Lit × DataW H) → Nat
  | [] => 0
  | x :: r => uptoBulkEntry x + uptoBulkEntries r
def uptoBulkEntry {H : Type} : Lit × DataW H → Nat
  | (.string bytes, d) => bytes.length + uptoBulk d + 1
  | (_, d) => uptoBulk d + 1
 end
def uptoSmall : (H : Type) → List (DataW H) → Bool := fun _ ds => decide (uptoBulkAll ds ≤ 1048576)
def OpenSpec.upto (s : _root_.Go.ChangeSpec) : _root_.Go.OpenSpec := { _root_.Go.OpenSpec.ofChange s with cond := some uptoSmall }

/-- 'laws.FnExactPruneLines', WHERE WHAT IT READS IS OF BULK AT MOST 1048576: true; the input reads as it did. -/
def fnExactPruneLinesUptoRow : OpenClaim := { program := "ytkhiiiddbmgiaaa", sum := "d2534e0789295a3da3489673438d083a609756d9659dd307a30b1f41fae074a9", func := "loop.example/faultcleanup/laws.FnExactPruneLines", spec := "fnExactPruneLines", unfollowed := true, recurses := true, apart := false, narrowed := true }
def FnExactPruneLinesUptoSaid : Prop := fnExactPruneLinesUptoRow.holds Try.pinned (OpenSpec.upto fnExactPruneLinesSpec)

/-- 'laws.FnExactDropDead', WHERE WHAT IT READS IS OF BULK AT MOST 1048576: true; the input reads as it did. -/
def fnExactDropDeadUptoRow : OpenClaim := { program := "ytkhiiiddbmgiaaa", sum := "d2534e0789295a3da3489673438d083a609756d9659dd307a30b1f41fae074a9", func := "loop.example/faultcleanup/laws.FnExactDropDead", spec := "fnExactDropDead", unfollowed := true, recurses := true, apart := false, narrowed := true }
def FnExactDropDeadUptoSaid : Prop := fnExactDropDeadUptoRow.holds Try.pinned (OpenSpec.upto fnExactDropDeadSpec)

/-- 'laws.FnExactDeadLines', WHERE WHAT IT READS IS OF BULK AT MOST 1048576: true; the input reads as it did. -/
def fnExactDeadLinesUptoRow : OpenClaim := { program := "ytkhiiiddbmgiaaa", sum := "d2534e0789295a3da3489673438d083a609756d9659dd307a30b1f41fae074a9", func := "loop.example/faultcleanup/laws.FnExactDeadLines", spec := "fnExactDeadLines", unfollowed := true, recurses := true, apart := false, narrowed := true }
def FnExactDeadLinesUptoSaid : Prop := fnExactDeadLinesUptoRow.holds Try.pinned (OpenSpec.upto fnExactDeadLinesSpec)

/-- 'laws.FnPruneLinesDead', WHERE WHAT IT READS IS OF BULK AT MOST 1048576: true; the input reads as it did. -/
def fnPruneLinesDeadUptoRow : OpenClaim := { program := "ytkhiiiddbmgiaaa", sum := "d2534e0789295a3da3489673438d083a609756d9659dd307a30b1f41fae074a9", func := "loop.example/faultcleanup/laws.FnPruneLinesDead", spec := "fnPruneLinesDead", unfollowed := true, recurses := true, apart := false, narrowed := true }
def FnPruneLinesDeadUptoSaid : Prop := fnPruneLinesDeadUptoRow.holds Try.pinned (OpenSpec.upto fnPruneLinesDeadSpec)

end Rows
end Go.Proofs.Ytkhiiiddbmgiaaa
