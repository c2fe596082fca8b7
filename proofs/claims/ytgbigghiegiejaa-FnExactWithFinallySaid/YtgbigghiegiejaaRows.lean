/-
  No cell of these rows narrows 'for every input' (looked for: loops, veiled, ifaces, maps, wideKeys, modest, calm, conditions, laid).
  DERIVED. THE GIVEN ROWS OF THIS SEAT. 4 by the template 'for every input the law returns true; each argument reads behind the call as it read before'; 0 by the template 'total and deterministic' (their statements: YtgbigghiegiejaaTotals.lean).
  GIVEN WITH THE SEED: the statements are not yours to turn. If you find one false, say at which input.
  Laid BY PROGRAM, IN A SANDBOX (cutbox-rows.mjs): the forced cells as the released guide's own fill.sh prints them over the translation 019af818832f7531… (all of the seat's roots in one cut). By AI agents, Wed Nov 11 2026. No macro, syntax, notation, axiom, sorry.
-/
import Derived.Test.YtgbigghiegiejaaChecked
import GoSem.Claim
import GoSem.ClaimJoined
import GoSem.ClaimMapViews
import Derived.JoinedTies
import Derived.KernelRfl
namespace Go.Proofs.Ytgbigghiegiejaa
/- THE CELL 'sum', in the pinned program and in every row, IS THE sha256 OF THE DUMP (.gsa) THAT YtgbigghiegiejaaProg.lean LOADS. Nothing in Lean hashes anything: it is a label: what it is worth is what the hold of that sum in a sandbox is worth. -/
noncomputable def Try.pinned : Pinned := { name := "ytgbigghiegiejaa", sum := "019af818832f7531caf1872fa60de63e633e007253c7ee63dfd8a45ec9e8ebaf", checked := Try.checked }
namespace Rows
def none {H : Type} : Left H := { results := [], args := [] }

/-- 'laws.FnExactThenProgram': WHATEVER THE INPUT: true; the input reads as it did. -/
def fnExactThenProgramSpec : ChangeSpec := { name := "fnExactThenProgram", fn := fun _ => fun
  | [d1, d2, d3] => { results := [.lit (.bool true)], args := [d1, d2, d3] }
  | _ => none }
def fnExactThenProgramRow : OpenClaim := { program := "ytgbigghiegiejaa", sum := "019af818832f7531caf1872fa60de63e633e007253c7ee63dfd8a45ec9e8ebaf", func := "loop.example/faultcleanup/laws.FnExactThenProgram", spec := "fnExactThenProgram", unfollowed := true, recurses := true, apart := false }
def FnExactThenProgramSaid : Prop := fnExactThenProgramRow.holds Try.pinned (OpenSpec.ofChange fnExactThenProgramSpec)

/-- ITS FALSE NEIGHBOUR: 'it returns false'. Refute it at one input. -/
def fnExactThenProgramWrong : ChangeSpec := { name := "fnExactThenProgram", fn := fun _ => fun
  | [d1, d2, d3] => { results := [.lit (.bool false)], args := [d1, d2, d3] }
  | _ => none }
def FnExactThenProgramWrongFalsely : Prop := fnExactThenProgramRow.holds Try.pinned (OpenSpec.ofChange fnExactThenProgramWrong)

/-- 'laws.FnExactInLoop': WHATEVER THE INPUT: true; the input reads as it did. -/
def fnExactInLoopSpec : ChangeSpec := { name := "fnExactInLoop", fn := fun _ => fun
  | [d1, d2, d3] => { results := [.lit (.bool true)], args := [d1, d2, d3] }
  | _ => none }
def fnExactInLoopRow : OpenClaim := { program := "ytgbigghiegiejaa", sum := "019af818832f7531caf1872fa60de63e633e007253c7ee63dfd8a45ec9e8ebaf", func := "loop.example/faultcleanup/laws.FnExactInLoop", spec := "fnExactInLoop", unfollowed := true, recurses := true, apart := false }
def FnExactInLoopSaid : Prop := fnExactInLoopRow.holds Try.pinned (OpenSpec.ofChange fnExactInLoopSpec)

/-- ITS FALSE NEIGHBOUR: 'it returns false'. Refute it at one input. -/
def fnExactInLoopWrong : ChangeSpec := { name := "fnExactInLoop", fn := fun _ => fun
  | [d1, d2, d3] => { results := [.lit (.bool false)], args := [d1, d2, d3] }
  | _ => none }
def FnExactInLoopWrongFalsely : Prop := fnExactInLoopRow.holds Try.pinned (OpenSpec.ofChange fnExactInLoopWrong)

/-- 'laws.FnExactWithExcept': WHATEVER THE INPUT: true; the input reads as it did. -/
def fnExactWithExceptSpec : ChangeSpec := { name := "fnExactWithExcept", fn := fun _ => fun
  | [d1, d2, d3, d4] => { results := [.lit (.bool true)], args := [d1, d2, d3, d4] }
  | _ => none }
def fnExactWithExceptRow : OpenClaim := { program := "ytgbigghiegiejaa", sum := "019af818832f7531caf1872fa60de63e633e007253c7ee63dfd8a45ec9e8ebaf", func := "loop.example/faultcleanup/laws.FnExactWithExcept", spec := "fnExactWithExcept", unfollowed := true, recurses := true, apart := false }
def FnExactWithExceptSaid : Prop := fnExactWithExceptRow.holds Try.pinned (OpenSpec.ofChange fnExactWithExceptSpec)

/-- ITS FALSE NEIGHBOUR: 'it returns false'. Refute it at one input. -/
def fnExactWithExceptWrong : ChangeSpec := { name := "fnExactWithExcept", fn := fun _ => fun
  | [d1, d2, d3, d4] => { results := [.lit (.bool false)], args := [d1, d2, d3, d4] }
  | _ => none }
def FnExactWithExceptWrongFalsely : Prop := fnExactWithExceptRow.holds Try.pinned (OpenSpec.ofChange fnExactWithExceptWrong)

/-- 'laws.FnExactWithFinally': WHATEVER THE INPUT: true; the input reads as it did. -/
def fnExactWithFinallySpec : ChangeSpec := { name := "fnExactWithFinally", fn := fun _ => fun
  | [d1, d2, d3] => { results := [.lit (.bool true)], args := [d1, d2, d3] }
  | _ => none }
def fnExactWithFinallyRow : OpenClaim := { program := "ytgbigghiegiejaa", sum := "019af818832f7531caf1872fa60de63e633e007253c7ee63dfd8a45ec9e8ebaf", func := "loop.example/faultcleanup/laws.FnExactWithFinally", spec := "fnExactWithFinally", unfollowed := true, recurses := true, apart := false }
def FnExactWithFinallySaid : Prop := fnExactWithFinallyRow.holds Try.pinned (OpenSpec.ofChange fnExactWithFinallySpec)

/-- ITS FALSE NEIGHBOUR: 'it returns false'. Refute it at one input. -/
def fnExactWithFinallyWrong : ChangeSpec := { name := "fnExactWithFinally", fn := fun _ => fun
  | [d1, d2, d3] => { results := [.lit (.bool false)], args := [d1, d2, d3] }
  | _ => none }
def FnExactWithFinallyWrongFalsely : Prop := fnExactWithFinallyRow.holds Try.pinned (OpenSpec.ofChange fnExactWithFinallyWrong)

/- THE SECOND FORM. 'bulk': how many values and letters a reading holds, each counted each time it is reached (what is shared counts as often as it is met; a slice's spare places count too). A statement '..UptoSaid' is the law's where the arguments, and the package variables that the reading takes, are together of bulk at most 1048576: NARROWER than '..Said'. Prove '..Said' where nothing that the law and all that it calls make is longer than what came in: it says more and counts as full. Else prove '..UptoSaid'. A law counts once. -/
mutual
def uptoBulk {H : Type} : DataW H → Nat
  | .lit (.string bytes) => bytes.length + 1
  | .lit _ => 1
  | .nil => 1
  | .ptr d => uptoBulk d + 1
  | .slice elems spare => uptoBulkAll elems + uptoBulkAll spare + 1
  | .agg parts => uptoBulkAll parts + 1
  | .iface _ d => uptoBulk d + 1
  | .map entries => uptoBulkEntries entries + 1
  | .held _ => 1
def uptoBulkAll {H : Type} : List (DataW H) → Nat
  | [] => 0
  | d :: r => uptoBulk d + uptoBulkAll r
def uptoBulkEntries {H : Type} : List (Lit × DataW H) → Nat
  | [] => 0
  | x :: r => uptoBulkEntry x + uptoBulkEntries r
def uptoBulkEntry {H : Type} : Lit × DataW H → Nat
  | (.string bytes, d) => bytes.length + uptoBulk d + 1
  | (_, d) => uptoBulk d + 1
 end
def uptoSmall : (H : Type) → List (DataW H) → Bool := fun _ ds => decide (uptoBulkAll ds ≤ 1048576)
def OpenSpec.upto (s : _root_.Go.ChangeSpec) : _root_.Go.OpenSpec := { _root_.Go.OpenSpec.ofChange s with cond := some uptoSmall }

/-- 'laws.FnExactThenProgram', WHERE WHAT IT READS IS OF BULK AT MOST 1048576: true; the input reads as it did. -/
def fnExactThenProgramUptoRow : OpenClaim := { program := "ytgbigghiegiejaa", sum := "019af818832f7531caf1872fa60de63e633e007253c7ee63dfd8a45ec9e8ebaf", func := "loop.example/faultcleanup/laws.FnExactThenProgram", spec := "fnExactThenProgram", unfollowed := true, recurses := true, apart := false, narrowed := true }
def FnExactThenProgramUptoSaid : Prop := fnExactThenProgramUptoRow.holds Try.pinned (OpenSpec.upto fnExactThenProgramSpec)

/-- 'laws.FnExactInLoop', WHERE WHAT IT READS IS OF BULK AT MOST 1048576: true; the input reads as it did. -/
def fnExactInLoopUptoRow : OpenClaim := { program := "ytgbigghiegiejaa", sum := "019af818832f7531caf1872fa60de63e633e007253c7ee63dfd8a45ec9e8ebaf", func := "loop.example/faultcleanup/laws.FnExactInLoop", spec := "fnExactInLoop", unfollowed := true, recurses := true, apart := false, narrowed := true }
def FnExactInLoopUptoSaid : Prop := fnExactInLoopUptoRow.holds Try.pinned (OpenSpec.upto fnExactInLoopSpec)

/-- 'laws.FnExactWithExcept', WHERE WHAT IT READS IS OF BULK AT MOST 1048576: true; the input reads as it did. -/
def fnExactWithExceptUptoRow : OpenClaim := { program := "ytgbigghiegiejaa", sum := "019af818832f7531caf1872fa60de63e633e007253c7ee63dfd8a45ec9e8ebaf", func := "loop.example/faultcleanup/laws.FnExactWithExcept", spec := "fnExactWithExcept", unfollowed := true, recurses := true, apart := false, narrowed := true }
def FnExactWithExceptUptoSaid : Prop := fnExactWithExceptUptoRow.holds Try.pinned (OpenSpec.upto fnExactWithExceptSpec)

/-- 'laws.FnExactWithFinally', WHERE WHAT IT READS IS OF BULK AT MOST 1048576: true; the input reads as it did. -/
def fnExactWithFinallyUptoRow : OpenClaim := { program := "ytgbigghiegiejaa", sum := "019af818832f7531caf1872fa60de63e633e007253c7ee63dfd8a45ec9e8ebaf", func := "loop.example/faultcleanup/laws.FnExactWithFinally", spec := "fnExactWithFinally", unfollowed := true, recurses := true, apart := false, narrowed := true }
def FnExactWithFinallyUptoSaid : Prop := fnExactWithFinallyUptoRow.holds Try.pinned (OpenSpec.upto fnExactWithFinallySpec)

end Rows
end Go.Proofs.Ytgbigghiegiejaa
