/-
  No cell of these rows narrows 'for every input' (looked for: loops, veiled, ifaces, maps, wideKeys, modest, calm, conditions, laid).
  DERIVED. THE GIVEN ROWS OF THIS SEAT. 6 by the template 'for every input the law returns true; each argument reads behind the call as it read before'; 0 by the template 'total and deterministic' (their statements: YtecdfgejmbpclaaTotals.lean).
  GIVEN WITH THE SEED: the statements are not yours to turn. If you find one false, say at which input.
  Laid BY PROGRAM, IN A SANDBOX (cutbox-rows.mjs): the forced cells as the released guide's own fill.sh prints them over the translation e5f5556e4ffbbd59… (all of the seat's roots in one cut). By AI agents, Wed Nov 11 2026. No macro, syntax, notation, axiom, sorry.
-/
import Derived.Test.YtecdfgejmbpclaaChecked
import GoSem.Claim
import GoSem.ClaimJoined
import GoSem.ClaimMapViews
import Derived.JoinedTies
import Derived.KernelRfl
namespace Go.Proofs.Ytecdfgejmbpclaa
/- THE CELL 'sum', in the pinned program and in every row, IS THE sha256 OF THE DUMP (.gsa) THAT YtecdfgejmbpclaaProg.lean LOADS. Nothing in Lean hashes anything: it is a label: what it is worth is what the hold of that sum in a sandbox is worth. -/
noncomputable def Try.pinned : Pinned := { name := "ytecdfgejmbpclaa", sum := "e5f5556e4ffbbd59404bd3be36f7587e1261380cebc6704225e9e31470d517d4", checked := Try.checked }
namespace Rows
def none {H : Type} : Left H := { results := [], args := [] }

/-- 'laws.FnExactIsolateFault': WHATEVER THE INPUT: true; the input reads as it did. -/
def fnExactIsolateFaultSpec : ChangeSpec := { name := "fnExactIsolateFault", fn := fun _ => fun
  | [d1, d2, d3] => { results := [.lit (.bool true)], args := [d1, d2, d3] }
  | _ => none }
def fnExactIsolateFaultRow : OpenClaim := { program := "ytecdfgejmbpclaa", sum := "e5f5556e4ffbbd59404bd3be36f7587e1261380cebc6704225e9e31470d517d4", func := "loop.example/faultcleanup/laws.FnExactIsolateFault", spec := "fnExactIsolateFault", unfollowed := true, recurses := true, apart := false }
def FnExactIsolateFaultSaid : Prop := fnExactIsolateFaultRow.holds Try.pinned (OpenSpec.ofChange fnExactIsolateFaultSpec)

/-- ITS FALSE NEIGHBOUR: 'it returns false'. Refute it at one input. -/
def fnExactIsolateFaultWrong : ChangeSpec := { name := "fnExactIsolateFault", fn := fun _ => fun
  | [d1, d2, d3] => { results := [.lit (.bool false)], args := [d1, d2, d3] }
  | _ => none }
def FnExactIsolateFaultWrongFalsely : Prop := fnExactIsolateFaultRow.holds Try.pinned (OpenSpec.ofChange fnExactIsolateFaultWrong)

/-- 'laws.FnExactReachOf': WHATEVER THE INPUT: true; the input reads as it did. -/
def fnExactReachOfSpec : ChangeSpec := { name := "fnExactReachOf", fn := fun _ => fun
  | [d1, d2, d3] => { results := [.lit (.bool true)], args := [d1, d2, d3] }
  | _ => none }
def fnExactReachOfRow : OpenClaim := { program := "ytecdfgejmbpclaa", sum := "e5f5556e4ffbbd59404bd3be36f7587e1261380cebc6704225e9e31470d517d4", func := "loop.example/faultcleanup/laws.FnExactReachOf", spec := "fnExactReachOf", unfollowed := true, recurses := true, apart := false }
def FnExactReachOfSaid : Prop := fnExactReachOfRow.holds Try.pinned (OpenSpec.ofChange fnExactReachOfSpec)

/-- ITS FALSE NEIGHBOUR: 'it returns false'. Refute it at one input. -/
def fnExactReachOfWrong : ChangeSpec := { name := "fnExactReachOf", fn := fun _ => fun
  | [d1, d2, d3] => { results := [.lit (.bool false)], args := [d1, d2, d3] }
  | _ => none }
def FnExactReachOfWrongFalsely : Prop := fnExactReachOfRow.holds Try.pinned (OpenSpec.ofChange fnExactReachOfWrong)

/-- 'laws.FnContextChain': WHATEVER THE INPUT: true; the input reads as it did. -/
def fnContextChainSpec : ChangeSpec := { name := "fnContextChain", fn := fun _ => fun
  | [d] => { results := [.lit (.bool true)], args := [d] }
  | _ => none }
def fnContextChainRow : OpenClaim := { program := "ytecdfgejmbpclaa", sum := "e5f5556e4ffbbd59404bd3be36f7587e1261380cebc6704225e9e31470d517d4", func := "loop.example/faultcleanup/laws.FnContextChain", spec := "fnContextChain", unfollowed := true, recurses := true, apart := false }
def FnContextChainSaid : Prop := fnContextChainRow.holds Try.pinned (OpenSpec.ofChange fnContextChainSpec)

/-- ITS FALSE NEIGHBOUR: 'it returns false'. Refute it at one input. -/
def fnContextChainWrong : ChangeSpec := { name := "fnContextChain", fn := fun _ => fun
  | [d] => { results := [.lit (.bool false)], args := [d] }
  | _ => none }
def FnContextChainWrongFalsely : Prop := fnContextChainRow.holds Try.pinned (OpenSpec.ofChange fnContextChainWrong)

/-- 'laws.FnShownNext': WHATEVER THE INPUT: true; the input reads as it did. -/
def fnShownNextSpec : ChangeSpec := { name := "fnShownNext", fn := fun _ => fun
  | [d] => { results := [.lit (.bool true)], args := [d] }
  | _ => none }
def fnShownNextRow : OpenClaim := { program := "ytecdfgejmbpclaa", sum := "e5f5556e4ffbbd59404bd3be36f7587e1261380cebc6704225e9e31470d517d4", func := "loop.example/faultcleanup/laws.FnShownNext", spec := "fnShownNext", unfollowed := true, recurses := true, apart := false }
def FnShownNextSaid : Prop := fnShownNextRow.holds Try.pinned (OpenSpec.ofChange fnShownNextSpec)

/-- ITS FALSE NEIGHBOUR: 'it returns false'. Refute it at one input. -/
def fnShownNextWrong : ChangeSpec := { name := "fnShownNext", fn := fun _ => fun
  | [d] => { results := [.lit (.bool false)], args := [d] }
  | _ => none }
def FnShownNextWrongFalsely : Prop := fnShownNextRow.holds Try.pinned (OpenSpec.ofChange fnShownNextWrong)

/-- 'laws.FnReachOf': WHATEVER THE INPUT: true; the input reads as it did. -/
def fnReachOfSpec : ChangeSpec := { name := "fnReachOf", fn := fun _ => fun
  | [d] => { results := [.lit (.bool true)], args := [d] }
  | _ => none }
def fnReachOfRow : OpenClaim := { program := "ytecdfgejmbpclaa", sum := "e5f5556e4ffbbd59404bd3be36f7587e1261380cebc6704225e9e31470d517d4", func := "loop.example/faultcleanup/laws.FnReachOf", spec := "fnReachOf", unfollowed := true, recurses := true, apart := false }
def FnReachOfSaid : Prop := fnReachOfRow.holds Try.pinned (OpenSpec.ofChange fnReachOfSpec)

/-- ITS FALSE NEIGHBOUR: 'it returns false'. Refute it at one input. -/
def fnReachOfWrong : ChangeSpec := { name := "fnReachOf", fn := fun _ => fun
  | [d] => { results := [.lit (.bool false)], args := [d] }
  | _ => none }
def FnReachOfWrongFalsely : Prop := fnReachOfRow.holds Try.pinned (OpenSpec.ofChange fnReachOfWrong)

/-- 'laws.FnJoinHeapsIsolate': WHATEVER THE INPUT: true; the input reads as it did. -/
def fnJoinHeapsIsolateSpec : ChangeSpec := { name := "fnJoinHeapsIsolate", fn := fun _ => fun
  | [d] => { results := [.lit (.bool true)], args := [d] }
  | _ => none }
def fnJoinHeapsIsolateRow : OpenClaim := { program := "ytecdfgejmbpclaa", sum := "e5f5556e4ffbbd59404bd3be36f7587e1261380cebc6704225e9e31470d517d4", func := "loop.example/faultcleanup/laws.FnJoinHeapsIsolate", spec := "fnJoinHeapsIsolate", unfollowed := true, recurses := true, apart := false }
def FnJoinHeapsIsolateSaid : Prop := fnJoinHeapsIsolateRow.holds Try.pinned (OpenSpec.ofChange fnJoinHeapsIsolateSpec)

/-- ITS FALSE NEIGHBOUR: 'it returns false'. Refute it at one input. -/
def fnJoinHeapsIsolateWrong : ChangeSpec := { name := "fnJoinHeapsIsolate", fn := fun _ => fun
  | [d] => { results := [.lit (.bool false)], args := [d] }
  | _ => none }
def FnJoinHeapsIsolateWrongFalsely : Prop := fnJoinHeapsIsolateRow.holds Try.pinned (OpenSpec.ofChange fnJoinHeapsIsolateWrong)

/- THE SECOND FORM. 'bulk': how many values and letters a reading holds, each counted each time it is reached (what is shared counts as often as it is met; a slice's spare places count too). A statement '..UptoSaid' is the law's where the arguments, and the package variables that the reading takes, are together of bulk at most 1048576: NARROWER than '..Said'. Prove '..Said' where nothing that the law and all that it calls make is longer than what came in: it says more and counts as full. Else prove '..UptoSaid'. A law counts once. -/
mutual
def uptoBulk {H : Type} : DataW H → Nat
  | .lit (.string bytes) => bytes.length + 1
  | .lit _ => 1
  | .nil => 1
  | .ptr d => uptoBulk d + 1
  | .slice elems spare => uptoBulkAll elems + uptoBulkAll spare + 1
  | .agg parts => uptoBulkAll parts + 1
  | .iface _ d => uptoBulk d + 1
  | .map entries => uptoBulkEntries entries + 1
  | .held _ => 1
def uptoBulkAll {H : Type} : List (DataW H) → Nat
  | [] => 0
  | d :: r => uptoBulk d + uptoBulkAll r
def uptoBulkEntries {H : Type} : List (Lit × DataW H) → Nat
  | [] => 0
  | x :: r => uptoBulkEntry x + uptoBulkEntries r
def uptoBulkEntry {H : Type} : Lit × DataW H → Nat
  | (.string bytes, d) => bytes.length + uptoBulk d + 1
  | (_, d) => uptoBulk d + 1
 end
def uptoSmall : (H : Type) → List (DataW H) → Bool := fun _ ds => decide (uptoBulkAll ds ≤ 1048576)
def OpenSpec.upto (s : _root_.Go.ChangeSpec) : _root_.Go.OpenSpec := { _root_.Go.OpenSpec.ofChange s with cond := some uptoSmall }

/-- 'laws.FnExactIsolateFault', WHERE WHAT IT READS IS OF BULK AT MOST 1048576: true; the input reads as it did. -/
def fnExactIsolateFaultUptoRow : OpenClaim := { program := "ytecdfgejmbpclaa", sum := "e5f5556e4ffbbd59404bd3be36f7587e1261380cebc6704225e9e31470d517d4", func := "loop.example/faultcleanup/laws.FnExactIsolateFault", spec := "fnExactIsolateFault", unfollowed := true, recurses := true, apart := false, narrowed := true }
def FnExactIsolateFaultUptoSaid : Prop := fnExactIsolateFaultUptoRow.holds Try.pinned (OpenSpec.upto fnExactIsolateFaultSpec)

/-- 'laws.FnExactReachOf', WHERE WHAT IT READS IS OF BULK AT MOST 1048576: true; the input reads as it did. -/
def fnExactReachOfUptoRow : OpenClaim := { program := "ytecdfgejmbpclaa", sum := "e5f5556e4ffbbd59404bd3be36f7587e1261380cebc6704225e9e31470d517d4", func := "loop.example/faultcleanup/laws.FnExactReachOf", spec := "fnExactReachOf", unfollowed := true, recurses := true, apart := false, narrowed := true }
def FnExactReachOfUptoSaid : Prop := fnExactReachOfUptoRow.holds Try.pinned (OpenSpec.upto fnExactReachOfSpec)

/-- 'laws.FnContextChain', WHERE WHAT IT READS IS OF BULK AT MOST 1048576: true; the input reads as it did. -/
def fnContextChainUptoRow : OpenClaim := { program := "ytecdfgejmbpclaa", sum := "e5f5556e4ffbbd59404bd3be36f7587e1261380cebc6704225e9e31470d517d4", func := "loop.example/faultcleanup/laws.FnContextChain", spec := "fnContextChain", unfollowed := true, recurses := true, apart := false, narrowed := true }
def FnContextChainUptoSaid : Prop := fnContextChainUptoRow.holds Try.pinned (OpenSpec.upto fnContextChainSpec)

/-- 'laws.FnShownNext', WHERE WHAT IT READS IS OF BULK AT MOST 1048576: true; the input reads as it did. -/
def fnShownNextUptoRow : OpenClaim := { program := "ytecdfgejmbpclaa", sum := "e5f5556e4ffbbd59404bd3be36f7587e1261380cebc6704225e9e31470d517d4", func := "loop.example/faultcleanup/laws.FnShownNext", spec := "fnShownNext", unfollowed := true, recurses := true, apart := false, narrowed := true }
def FnShownNextUptoSaid : Prop := fnShownNextUptoRow.holds Try.pinned (OpenSpec.upto fnShownNextSpec)

/-- 'laws.FnReachOf', WHERE WHAT IT READS IS OF BULK AT MOST 1048576: true; the input reads as it did. -/
def fnReachOfUptoRow : OpenClaim := { program := "ytecdfgejmbpclaa", sum := "e5f5556e4ffbbd59404bd3be36f7587e1261380cebc6704225e9e31470d517d4", func := "loop.example/faultcleanup/laws.FnReachOf", spec := "fnReachOf", unfollowed := true, recurses := true, apart := false, narrowed := true }
def FnReachOfUptoSaid : Prop := fnReachOfUptoRow.holds Try.pinned (OpenSpec.upto fnReachOfSpec)

/-- 'laws.FnJoinHeapsIsolate', WHERE WHAT IT READS IS OF BULK AT MOST 1048576: true; the input reads as it did. -/
def fnJoinHeapsIsolateUptoRow : OpenClaim := { program := "ytecdfgejmbpclaa", sum := "e5f5556e4ffbbd59404bd3be36f7587e1261380cebc6704225e9e31470d517d4", func := "loop.example/faultcleanup/laws.FnJoinHeapsIsolate", spec := "fnJoinHeapsIsolate", unfollowed := true, recurses := true, apart := false, narrowed := true }
def FnJoinHeapsIsolateUptoSaid : Prop := fnJoinHeapsIsolateUptoRow.holds Try.pinned (OpenSpec.upto fnJoinHeapsIsolateSpec)

end Rows
end Go.Proofs.Ytecdfgejmbpclaa
