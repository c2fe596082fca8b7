/-
  No cell of these rows narrows 'for every input' (looked for: loops, veiled, ifaces, maps, wideKeys, modest, calm, conditions, laid).
  DERIVED. THE GIVEN ROWS OF THIS SEAT. 5 by the template 'for every input the law returns true; each argument reads behind the call as it read before'; 0 by the template 'total and deterministic' (their statements: YtkedkinojeoeaaaTotals.lean).
  GIVEN WITH THE SEED: the statements are not yours to turn. If you find one false, say at which input.
  Laid BY PROGRAM, IN A SANDBOX (cutbox-rows.mjs): the forced cells as the released guide's own fill.sh prints them over the translation 78726c4dc94e41e2… (all of the seat's roots in one cut). By AI agents, Wed Nov 11 2026. No macro, syntax, notation, axiom, sorry.
-/
import Derived.Test.YtkedkinojeoeaaaChecked
import GoSem.Claim
import GoSem.ClaimJoined
import GoSem.ClaimMapViews
import Derived.JoinedTies
import Derived.KernelRfl
namespace Go.Proofs.Ytkedkinojeoeaaa
/- THE CELL 'sum', in the pinned program and in every row, IS THE sha256 OF THE DUMP (.gsa) THAT YtkedkinojeoeaaaProg.lean LOADS. Nothing in Lean hashes anything: it is a label: what it is worth is what the hold of that sum in a sandbox is worth. -/
noncomputable def Try.pinned : Pinned := { name := "ytkedkinojeoeaaa", sum := "78726c4dc94e41e2459beb18ffb9179d83d0716c290c6bd58255595e44eee13d", checked := Try.checked }
namespace Rows
def none {H : Type} : Left H := { results := [], args := [] }

/-- 'laws.FnWayOutUp': WHATEVER THE INPUT: true; the input reads as it did. -/
def fnWayOutUpSpec : ChangeSpec := { name := "fnWayOutUp", fn := fun _ => fun
  | [d] => { results := [.lit (.bool true)], args := [d] }
  | _ => none }
def fnWayOutUpRow : OpenClaim := { program := "ytkedkinojeoeaaa", sum := "78726c4dc94e41e2459beb18ffb9179d83d0716c290c6bd58255595e44eee13d", func := "loop.example/faultcleanup/laws.FnWayOutUp", spec := "fnWayOutUp", unfollowed := true, recurses := true, apart := false }
def FnWayOutUpSaid : Prop := fnWayOutUpRow.holds Try.pinned (OpenSpec.ofChange fnWayOutUpSpec)

/-- ITS FALSE NEIGHBOUR: 'it returns false'. Refute it at one input. -/
def fnWayOutUpWrong : ChangeSpec := { name := "fnWayOutUp", fn := fun _ => fun
  | [d] => { results := [.lit (.bool false)], args := [d] }
  | _ => none }
def FnWayOutUpWrongFalsely : Prop := fnWayOutUpRow.holds Try.pinned (OpenSpec.ofChange fnWayOutUpWrong)

/-- 'laws.FnWayToLoop': WHATEVER THE INPUT: true; the input reads as it did. -/
def fnWayToLoopSpec : ChangeSpec := { name := "fnWayToLoop", fn := fun _ => fun
  | [d] => { results := [.lit (.bool true)], args := [d] }
  | _ => none }
def fnWayToLoopRow : OpenClaim := { program := "ytkedkinojeoeaaa", sum := "78726c4dc94e41e2459beb18ffb9179d83d0716c290c6bd58255595e44eee13d", func := "loop.example/faultcleanup/laws.FnWayToLoop", spec := "fnWayToLoop", unfollowed := true, recurses := true, apart := false }
def FnWayToLoopSaid : Prop := fnWayToLoopRow.holds Try.pinned (OpenSpec.ofChange fnWayToLoopSpec)

/-- ITS FALSE NEIGHBOUR: 'it returns false'. Refute it at one input. -/
def fnWayToLoopWrong : ChangeSpec := { name := "fnWayToLoop", fn := fun _ => fun
  | [d] => { results := [.lit (.bool false)], args := [d] }
  | _ => none }
def FnWayToLoopWrongFalsely : Prop := fnWayToLoopRow.holds Try.pinned (OpenSpec.ofChange fnWayToLoopWrong)

/-- 'laws.FnCatcherOf': WHATEVER THE INPUT: true; the input reads as it did. -/
def fnCatcherOfSpec : ChangeSpec := { name := "fnCatcherOf", fn := fun _ => fun
  | [d] => { results := [.lit (.bool true)], args := [d] }
  | _ => none }
def fnCatcherOfRow : OpenClaim := { program := "ytkedkinojeoeaaa", sum := "78726c4dc94e41e2459beb18ffb9179d83d0716c290c6bd58255595e44eee13d", func := "loop.example/faultcleanup/laws.FnCatcherOf", spec := "fnCatcherOf", unfollowed := true, recurses := true, apart := false }
def FnCatcherOfSaid : Prop := fnCatcherOfRow.holds Try.pinned (OpenSpec.ofChange fnCatcherOfSpec)

/-- ITS FALSE NEIGHBOUR: 'it returns false'. Refute it at one input. -/
def fnCatcherOfWrong : ChangeSpec := { name := "fnCatcherOf", fn := fun _ => fun
  | [d] => { results := [.lit (.bool false)], args := [d] }
  | _ => none }
def FnCatcherOfWrongFalsely : Prop := fnCatcherOfRow.holds Try.pinned (OpenSpec.ofChange fnCatcherOfWrong)

/-- 'laws.FnCatcherOfUp': WHATEVER THE INPUT: true; the input reads as it did. -/
def fnCatcherOfUpSpec : ChangeSpec := { name := "fnCatcherOfUp", fn := fun _ => fun
  | [d] => { results := [.lit (.bool true)], args := [d] }
  | _ => none }
def fnCatcherOfUpRow : OpenClaim := { program := "ytkedkinojeoeaaa", sum := "78726c4dc94e41e2459beb18ffb9179d83d0716c290c6bd58255595e44eee13d", func := "loop.example/faultcleanup/laws.FnCatcherOfUp", spec := "fnCatcherOfUp", unfollowed := true, recurses := true, apart := false }
def FnCatcherOfUpSaid : Prop := fnCatcherOfUpRow.holds Try.pinned (OpenSpec.ofChange fnCatcherOfUpSpec)

/-- ITS FALSE NEIGHBOUR: 'it returns false'. Refute it at one input. -/
def fnCatcherOfUpWrong : ChangeSpec := { name := "fnCatcherOfUp", fn := fun _ => fun
  | [d] => { results := [.lit (.bool false)], args := [d] }
  | _ => none }
def FnCatcherOfUpWrongFalsely : Prop := fnCatcherOfUpRow.holds Try.pinned (OpenSpec.ofChange fnCatcherOfUpWrong)

/-- 'laws.FnWayOfFault': WHATEVER THE INPUT: true; the input reads as it did. -/
def fnWayOfFaultSpec : ChangeSpec := { name := "fnWayOfFault", fn := fun _ => fun
  | [d] => { results := [.lit (.bool true)], args := [d] }
  | _ => none }
def fnWayOfFaultRow : OpenClaim := { program := "ytkedkinojeoeaaa", sum := "78726c4dc94e41e2459beb18ffb9179d83d0716c290c6bd58255595e44eee13d", func := "loop.example/faultcleanup/laws.FnWayOfFault", spec := "fnWayOfFault", unfollowed := true, recurses := true, apart := false }
def FnWayOfFaultSaid : Prop := fnWayOfFaultRow.holds Try.pinned (OpenSpec.ofChange fnWayOfFaultSpec)

/-- ITS FALSE NEIGHBOUR: 'it returns false'. Refute it at one input. -/
def fnWayOfFaultWrong : ChangeSpec := { name := "fnWayOfFault", fn := fun _ => fun
  | [d] => { results := [.lit (.bool false)], args := [d] }
  | _ => none }
def FnWayOfFaultWrongFalsely : Prop := fnWayOfFaultRow.holds Try.pinned (OpenSpec.ofChange fnWayOfFaultWrong)

/- THE SECOND FORM. 'bulk': how many values and letters a reading holds, each counted each time it is reached (what is shared counts as often as it is met; a slice's spare places count too). A statement '..UptoSaid' is the law's where the arguments, and the package variables that the reading takes, are together of bulk at most 1048576: NARROWER than '..Said'. Prove '..Said' where nothing that the law and all that it calls make is longer than what came in: it says more and counts as full. Else prove '..UptoSaid'. A law counts once. -/
mutual
def uptoBulk {H : Type} : DataW H → Nat
  | .lit (.string bytes) => bytes.length + 1
  | .lit _ => 1
  | .nil => 1
  | .ptr d => uptoBulk d + 1
  | .slice elems spare => uptoBulkAll elems + uptoBulkAll spare + 1
  | .agg parts => uptoBulkAll parts + 1
  | .iface _ d => uptoBulk d + 1
  | .map entries => uptoBulkEntries entries + 1
  | .held _ => 1
def uptoBulkAll {H : Type} : List (DataW H) → Nat
  | [] => 0
  | d :: r => uptoBulk d + uptoBulkAll r
def uptoBulkEntries {H : Type} : List (Lit × DataW H) → Nat
  | [] => 0
  | x :: r => uptoBulkEntry x + uptoBulkEntries r
def uptoBulkEntry {H : Type} : Lit × DataW H → Nat
  | (.string bytes, d) => bytes.length + uptoBulk d + 1
  | (_, d) => uptoBulk d + 1
 end
def uptoSmall : (H : Type) → List (DataW H) → Bool := fun _ ds => decide (uptoBulkAll ds ≤ 1048576)
def OpenSpec.upto (s : _root_.Go.ChangeSpec) : _root_.Go.OpenSpec := { _root_.Go.OpenSpec.ofChange s with cond := some uptoSmall }

/-- 'laws.FnWayOutUp', WHERE WHAT IT READS IS OF BULK AT MOST 1048576: true; the input reads as it did. -/
def fnWayOutUpUptoRow : OpenClaim := { program := "ytkedkinojeoeaaa", sum := "78726c4dc94e41e2459beb18ffb9179d83d0716c290c6bd58255595e44eee13d", func := "loop.example/faultcleanup/laws.FnWayOutUp", spec := "fnWayOutUp", unfollowed := true, recurses := true, apart := false, narrowed := true }
def FnWayOutUpUptoSaid : Prop := fnWayOutUpUptoRow.holds Try.pinned (OpenSpec.upto fnWayOutUpSpec)

/-- 'laws.FnWayToLoop', WHERE WHAT IT READS IS OF BULK AT MOST 1048576: true; the input reads as it did. -/
def fnWayToLoopUptoRow : OpenClaim := { program := "ytkedkinojeoeaaa", sum := "78726c4dc94e41e2459beb18ffb9179d83d0716c290c6bd58255595e44eee13d", func := "loop.example/faultcleanup/laws.FnWayToLoop", spec := "fnWayToLoop", unfollowed := true, recurses := true, apart := false, narrowed := true }
def FnWayToLoopUptoSaid : Prop := fnWayToLoopUptoRow.holds Try.pinned (OpenSpec.upto fnWayToLoopSpec)

/-- 'laws.FnCatcherOf', WHERE WHAT IT READS IS OF BULK AT MOST 1048576: true; the input reads as it did. -/
def fnCatcherOfUptoRow : OpenClaim := { program := "ytkedkinojeoeaaa", sum := "78726c4dc94e41e2459beb18ffb9179d83d0716c290c6bd58255595e44eee13d", func := "loop.example/faultcleanup/laws.FnCatcherOf", spec := "fnCatcherOf", unfollowed := true, recurses := true, apart := false, narrowed := true }
def FnCatcherOfUptoSaid : Prop := fnCatcherOfUptoRow.holds Try.pinned (OpenSpec.upto fnCatcherOfSpec)

/-- 'laws.FnCatcherOfUp', WHERE WHAT IT READS IS OF BULK AT MOST 1048576: true; the input reads as it did. -/
def fnCatcherOfUpUptoRow : OpenClaim := { program := "ytkedkinojeoeaaa", sum := "78726c4dc94e41e2459beb18ffb9179d83d0716c290c6bd58255595e44eee13d", func := "loop.example/faultcleanup/laws.FnCatcherOfUp", spec := "fnCatcherOfUp", unfollowed := true, recurses := true, apart := false, narrowed := true }
def FnCatcherOfUpUptoSaid : Prop := fnCatcherOfUpUptoRow.holds Try.pinned (OpenSpec.upto fnCatcherOfUpSpec)

/-- 'laws.FnWayOfFault', WHERE WHAT IT READS IS OF BULK AT MOST 1048576: true; the input reads as it did. -/
def fnWayOfFaultUptoRow : OpenClaim := { program := "ytkedkinojeoeaaa", sum := "78726c4dc94e41e2459beb18ffb9179d83d0716c290c6bd58255595e44eee13d", func := "loop.example/faultcleanup/laws.FnWayOfFault", spec := "fnWayOfFault", unfollowed := true, recurses := true, apart := false, narrowed := true }
def FnWayOfFaultUptoSaid : Prop := fnWayOfFaultUptoRow.holds Try.pinned (OpenSpec.upto fnWayOfFaultSpec)

end Rows
end Go.Proofs.Ytkedkinojeoeaaa
