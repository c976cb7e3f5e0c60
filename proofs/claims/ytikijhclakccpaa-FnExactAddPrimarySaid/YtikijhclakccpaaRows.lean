/-
  No cell of these rows narrows 'for every input' (looked for: loops, veiled, ifaces, maps, wideKeys, modest, calm, conditions, laid).
  DERIVED. THE GIVEN ROWS OF THIS SEAT. 5 by the template 'for every input the law returns true; each argument reads behind the call as it read before'; 0 by the template 'total and deterministic' (their statements: YtikijhclakccpaaTotals.lean).
  GIVEN WITH THE SEED: the statements are not yours to turn. If you find one false, say at which input.
  Laid BY PROGRAM, IN A SANDBOX (cutbox-rows.mjs): the forced cells as the released guide's own fill.sh prints them over the translation d327ae3825260a2e… (all of the seat's roots in one cut). By AI agents, Wed Nov 11 2026. No macro, syntax, notation, axiom, sorry.
-/
import Derived.Test.YtikijhclakccpaaChecked
import GoSem.Claim
import GoSem.ClaimJoined
import GoSem.ClaimMapViews
import Derived.JoinedTies
import Derived.KernelRfl
namespace Go.Proofs.Ytikijhclakccpaa
/- THE CELL 'sum', in the pinned program and in every row, IS THE sha256 OF THE DUMP (.gsa) THAT YtikijhclakccpaaProg.lean LOADS. Nothing in Lean hashes anything: it is a label: what it is worth is what the hold of that sum in a sandbox is worth. -/
noncomputable def Try.pinned : Pinned := { name := "ytikijhclakccpaa", sum := "d327ae3825260a2e2c44a17c3428d14687b6743125f30c47ba4cc4ca06475be1", checked := Try.checked }
namespace Rows
def none {H : Type} : Left H := { results := [], args := [] }

/-- 'laws.FnExactChargerQueue': WHATEVER THE INPUT: true; the input reads as it did. -/
def fnExactChargerQueueSpec : ChangeSpec := { name := "fnExactChargerQueue", fn := fun _ => fun
  | [d1, d2] => { results := [.lit (.bool true)], args := [d1, d2] }
  | _ => none }
def fnExactChargerQueueRow : OpenClaim := { program := "ytikijhclakccpaa", sum := "d327ae3825260a2e2c44a17c3428d14687b6743125f30c47ba4cc4ca06475be1", func := "loop.example/g00900/laws.FnExactChargerQueue", spec := "fnExactChargerQueue", unfollowed := true, recurses := true, apart := false }
def FnExactChargerQueueSaid : Prop := fnExactChargerQueueRow.holds Try.pinned (OpenSpec.ofChange fnExactChargerQueueSpec)

/-- ITS FALSE NEIGHBOUR: 'it returns false'. Refute it at one input. -/
def fnExactChargerQueueWrong : ChangeSpec := { name := "fnExactChargerQueue", fn := fun _ => fun
  | [d1, d2] => { results := [.lit (.bool false)], args := [d1, d2] }
  | _ => none }
def FnExactChargerQueueWrongFalsely : Prop := fnExactChargerQueueRow.holds Try.pinned (OpenSpec.ofChange fnExactChargerQueueWrong)

/-- 'laws.FnExactLongestGap': WHATEVER THE INPUT: true; the input reads as it did. -/
def fnExactLongestGapSpec : ChangeSpec := { name := "fnExactLongestGap", fn := fun _ => fun
  | [d1, d2, d3, d4] => { results := [.lit (.bool true)], args := [d1, d2, d3, d4] }
  | _ => none }
def fnExactLongestGapRow : OpenClaim := { program := "ytikijhclakccpaa", sum := "d327ae3825260a2e2c44a17c3428d14687b6743125f30c47ba4cc4ca06475be1", func := "loop.example/g00900/laws.FnExactLongestGap", spec := "fnExactLongestGap", unfollowed := true, recurses := true, apart := false }
def FnExactLongestGapSaid : Prop := fnExactLongestGapRow.holds Try.pinned (OpenSpec.ofChange fnExactLongestGapSpec)

/-- ITS FALSE NEIGHBOUR: 'it returns false'. Refute it at one input. -/
def fnExactLongestGapWrong : ChangeSpec := { name := "fnExactLongestGap", fn := fun _ => fun
  | [d1, d2, d3, d4] => { results := [.lit (.bool false)], args := [d1, d2, d3, d4] }
  | _ => none }
def FnExactLongestGapWrongFalsely : Prop := fnExactLongestGapRow.holds Try.pinned (OpenSpec.ofChange fnExactLongestGapWrong)

/-- 'laws.FnExactCancelRun': WHATEVER THE INPUT: true; the input reads as it did. -/
def fnExactCancelRunSpec : ChangeSpec := { name := "fnExactCancelRun", fn := fun _ => fun
  | [d1, d2, d3] => { results := [.lit (.bool true)], args := [d1, d2, d3] }
  | _ => none }
def fnExactCancelRunRow : OpenClaim := { program := "ytikijhclakccpaa", sum := "d327ae3825260a2e2c44a17c3428d14687b6743125f30c47ba4cc4ca06475be1", func := "loop.example/g00900/laws.FnExactCancelRun", spec := "fnExactCancelRun", unfollowed := true, recurses := true, apart := false }
def FnExactCancelRunSaid : Prop := fnExactCancelRunRow.holds Try.pinned (OpenSpec.ofChange fnExactCancelRunSpec)

/-- ITS FALSE NEIGHBOUR: 'it returns false'. Refute it at one input. -/
def fnExactCancelRunWrong : ChangeSpec := { name := "fnExactCancelRun", fn := fun _ => fun
  | [d1, d2, d3] => { results := [.lit (.bool false)], args := [d1, d2, d3] }
  | _ => none }
def FnExactCancelRunWrongFalsely : Prop := fnExactCancelRunRow.holds Try.pinned (OpenSpec.ofChange fnExactCancelRunWrong)

/-- 'laws.FnExactBufferOf': WHATEVER THE INPUT: true; the input reads as it did. -/
def fnExactBufferOfSpec : ChangeSpec := { name := "fnExactBufferOf", fn := fun _ => fun
  | [d1, d2, d3, d4] => { results := [.lit (.bool true)], args := [d1, d2, d3, d4] }
  | _ => none }
def fnExactBufferOfRow : OpenClaim := { program := "ytikijhclakccpaa", sum := "d327ae3825260a2e2c44a17c3428d14687b6743125f30c47ba4cc4ca06475be1", func := "loop.example/g00900/laws.FnExactBufferOf", spec := "fnExactBufferOf", unfollowed := true, recurses := true, apart := false }
def FnExactBufferOfSaid : Prop := fnExactBufferOfRow.holds Try.pinned (OpenSpec.ofChange fnExactBufferOfSpec)

/-- ITS FALSE NEIGHBOUR: 'it returns false'. Refute it at one input. -/
def fnExactBufferOfWrong : ChangeSpec := { name := "fnExactBufferOf", fn := fun _ => fun
  | [d1, d2, d3, d4] => { results := [.lit (.bool false)], args := [d1, d2, d3, d4] }
  | _ => none }
def FnExactBufferOfWrongFalsely : Prop := fnExactBufferOfRow.holds Try.pinned (OpenSpec.ofChange fnExactBufferOfWrong)

/-- 'laws.FnExactAddPrimary': WHATEVER THE INPUT: true; the input reads as it did. -/
def fnExactAddPrimarySpec : ChangeSpec := { name := "fnExactAddPrimary", fn := fun _ => fun
  | [d1, d2, d3] => { results := [.lit (.bool true)], args := [d1, d2, d3] }
  | _ => none }
def fnExactAddPrimaryRow : OpenClaim := { program := "ytikijhclakccpaa", sum := "d327ae3825260a2e2c44a17c3428d14687b6743125f30c47ba4cc4ca06475be1", func := "loop.example/g00900/laws.FnExactAddPrimary", spec := "fnExactAddPrimary", inPlace := ["slices.overlaps[loop.example/g00900/impl.Delay]"], unfollowed := true, recurses := true, apart := false }
def FnExactAddPrimarySaid : Prop := fnExactAddPrimaryRow.holds Try.pinned (OpenSpec.ofChange fnExactAddPrimarySpec)

/-- ITS FALSE NEIGHBOUR: 'it returns false'. Refute it at one input. -/
def fnExactAddPrimaryWrong : ChangeSpec := { name := "fnExactAddPrimary", fn := fun _ => fun
  | [d1, d2, d3] => { results := [.lit (.bool false)], args := [d1, d2, d3] }
  | _ => none }
def FnExactAddPrimaryWrongFalsely : Prop := fnExactAddPrimaryRow.holds Try.pinned (OpenSpec.ofChange fnExactAddPrimaryWrong)

/- THE SECOND FORM. 'bulk': how many values and letters a reading holds, each counted each time it is reached (what is shared counts as often as it is met; a slice's spare places count too). A statement '..UptoSaid' is the law's where the arguments, and the package variables that the reading takes, are together of bulk at most 1048576: NARROWER than '..Said'. Prove '..Said' where nothing that the law and all that it calls make is longer than what came in: it says more and counts as full. Else prove '..UptoSaid'. A law counts once. -/
mutual
def uptoBulk {H : Type} : DataW H → Nat
  | .lit (.string bytes) => bytes.length + 1
  | .lit _ => 1
  | .nil => 1
  | .ptr d => uptoBulk d + 1
  | .slice elems spare => uptoBulkAll elems + uptoBulkAll spare + 1
  | .agg parts => uptoBulkAll parts + 1
  | .iface _ d => uptoBulk d + 1
  | .map entries => uptoBulkEntries entries + 1
  | .held _ => 1
def uptoBulkAll {H : Type} : List (DataW H) → Nat
  | [] => 0
  | d :: r => uptoBulk d + uptoBulkAll r
def uptoBulkEntries {H : Type} : List (Lit × DataW H) → Nat
  | [] => 0
  | x :: r => uptoBulkEntry x + uptoBulkEntries r
def uptoBulkEntry {H : Type} : Lit × DataW H → Nat
  | (.string bytes, d) => bytes.length + uptoBulk d + 1
  | (_, d) => uptoBulk d + 1
 end
def uptoSmall : (H : Type) → List (DataW H) → Bool := fun _ ds => decide (uptoBulkAll ds ≤ 1048576)
def OpenSpec.upto (s : _root_.Go.ChangeSpec) : _root_.Go.OpenSpec := { _root_.Go.OpenSpec.ofChange s with cond := some uptoSmall }

/-- 'laws.FnExactChargerQueue', WHERE WHAT IT READS IS OF BULK AT MOST 1048576: true; the input reads as it did. -/
def fnExactChargerQueueUptoRow : OpenClaim := { program := "ytikijhclakccpaa", sum := "d327ae3825260a2e2c44a17c3428d14687b6743125f30c47ba4cc4ca06475be1", func := "loop.example/g00900/laws.FnExactChargerQueue", spec := "fnExactChargerQueue", unfollowed := true, recurses := true, apart := false, narrowed := true }
def FnExactChargerQueueUptoSaid : Prop := fnExactChargerQueueUptoRow.holds Try.pinned (OpenSpec.upto fnExactChargerQueueSpec)

/-- 'laws.FnExactLongestGap', WHERE WHAT IT READS IS OF BULK AT MOST 1048576: true; the input reads as it did. -/
def fnExactLongestGapUptoRow : OpenClaim := { program := "ytikijhclakccpaa", sum := "d327ae3825260a2e2c44a17c3428d14687b6743125f30c47ba4cc4ca06475be1", func := "loop.example/g00900/laws.FnExactLongestGap", spec := "fnExactLongestGap", unfollowed := true, recurses := true, apart := false, narrowed := true }
def FnExactLongestGapUptoSaid : Prop := fnExactLongestGapUptoRow.holds Try.pinned (OpenSpec.upto fnExactLongestGapSpec)

/-- 'laws.FnExactCancelRun', WHERE WHAT IT READS IS OF BULK AT MOST 1048576: true; the input reads as it did. -/
def fnExactCancelRunUptoRow : OpenClaim := { program := "ytikijhclakccpaa", sum := "d327ae3825260a2e2c44a17c3428d14687b6743125f30c47ba4cc4ca06475be1", func := "loop.example/g00900/laws.FnExactCancelRun", spec := "fnExactCancelRun", unfollowed := true, recurses := true, apart := false, narrowed := true }
def FnExactCancelRunUptoSaid : Prop := fnExactCancelRunUptoRow.holds Try.pinned (OpenSpec.upto fnExactCancelRunSpec)

/-- 'laws.FnExactBufferOf', WHERE WHAT IT READS IS OF BULK AT MOST 1048576: true; the input reads as it did. -/
def fnExactBufferOfUptoRow : OpenClaim := { program := "ytikijhclakccpaa", sum := "d327ae3825260a2e2c44a17c3428d14687b6743125f30c47ba4cc4ca06475be1", func := "loop.example/g00900/laws.FnExactBufferOf", spec := "fnExactBufferOf", unfollowed := true, recurses := true, apart := false, narrowed := true }
def FnExactBufferOfUptoSaid : Prop := fnExactBufferOfUptoRow.holds Try.pinned (OpenSpec.upto fnExactBufferOfSpec)

/-- 'laws.FnExactAddPrimary', WHERE WHAT IT READS IS OF BULK AT MOST 1048576: true; the input reads as it did. -/
def fnExactAddPrimaryUptoRow : OpenClaim := { program := "ytikijhclakccpaa", sum := "d327ae3825260a2e2c44a17c3428d14687b6743125f30c47ba4cc4ca06475be1", func := "loop.example/g00900/laws.FnExactAddPrimary", spec := "fnExactAddPrimary", inPlace := ["slices.overlaps[loop.example/g00900/impl.Delay]"], unfollowed := true, recurses := true, apart := false, narrowed := true }
def FnExactAddPrimaryUptoSaid : Prop := fnExactAddPrimaryUptoRow.holds Try.pinned (OpenSpec.upto fnExactAddPrimarySpec)

end Rows
end Go.Proofs.Ytikijhclakccpaa
