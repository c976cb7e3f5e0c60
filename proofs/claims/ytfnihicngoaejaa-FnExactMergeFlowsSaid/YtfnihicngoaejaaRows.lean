/-
  No cell of these rows narrows 'for every input' (looked for: loops, veiled, ifaces, maps, wideKeys, modest, calm, conditions, laid).
  DERIVED. THE GIVEN ROWS OF THIS SEAT. 9 by the template 'for every input the law returns true; each argument reads behind the call as it read before'; 0 by the template 'total and deterministic' (their statements: YtfnihicngoaejaaTotals.lean).
  GIVEN WITH THE SEED: the statements are not yours to turn. If you find one false, say at which input.
  Laid BY PROGRAM, IN A SANDBOX (cutbox-rows.mjs): the forced cells as the released guide's own fill.sh prints them over the translation 1cadfddf065fb9c8… (all of the seat's roots in one cut). By AI agents, Wed Nov 11 2026. No macro, syntax, notation, axiom, sorry.
-/
import Derived.Test.YtfnihicngoaejaaChecked
import GoSem.Claim
import GoSem.ClaimJoined
import GoSem.ClaimMapViews
import Derived.JoinedTies
import Derived.KernelRfl
namespace Go.Proofs.Ytfnihicngoaejaa
/- THE CELL 'sum', in the pinned program and in every row, IS THE sha256 OF THE DUMP (.gsa) THAT YtfnihicngoaejaaProg.lean LOADS. Nothing in Lean hashes anything: it is a label: what it is worth is what the hold of that sum in a sandbox is worth. -/
noncomputable def Try.pinned : Pinned := { name := "ytfnihicngoaejaa", sum := "1cadfddf065fb9c81a14bc79494b7b4bf77141260604906059bf7161324265ee", checked := Try.checked }
namespace Rows
def none {H : Type} : Left H := { results := [], args := [] }

/-- 'laws.FnExactIsValidFlows': WHATEVER THE INPUT: true; the input reads as it did. -/
def fnExactIsValidFlowsSpec : ChangeSpec := { name := "fnExactIsValidFlows", fn := fun _ => fun
  | [d1, d2] => { results := [.lit (.bool true)], args := [d1, d2] }
  | _ => none }
def fnExactIsValidFlowsRow : OpenClaim := { program := "ytfnihicngoaejaa", sum := "1cadfddf065fb9c81a14bc79494b7b4bf77141260604906059bf7161324265ee", func := "loop.example/g00900/laws.FnExactIsValidFlows", spec := "fnExactIsValidFlows", apart := false }
def FnExactIsValidFlowsSaid : Prop := fnExactIsValidFlowsRow.holds Try.pinned (OpenSpec.ofChange fnExactIsValidFlowsSpec)

/-- ITS FALSE NEIGHBOUR: 'it returns false'. Refute it at one input. -/
def fnExactIsValidFlowsWrong : ChangeSpec := { name := "fnExactIsValidFlows", fn := fun _ => fun
  | [d1, d2] => { results := [.lit (.bool false)], args := [d1, d2] }
  | _ => none }
def FnExactIsValidFlowsWrongFalsely : Prop := fnExactIsValidFlowsRow.holds Try.pinned (OpenSpec.ofChange fnExactIsValidFlowsWrong)

/-- 'laws.FnExactMergeFlows': WHATEVER THE INPUT: true; the input reads as it did. -/
def fnExactMergeFlowsSpec : ChangeSpec := { name := "fnExactMergeFlows", fn := fun _ => fun
  | [d1, d2] => { results := [.lit (.bool true)], args := [d1, d2] }
  | _ => none }
def fnExactMergeFlowsRow : OpenClaim := { program := "ytfnihicngoaejaa", sum := "1cadfddf065fb9c81a14bc79494b7b4bf77141260604906059bf7161324265ee", func := "loop.example/g00900/laws.FnExactMergeFlows", spec := "fnExactMergeFlows", unfollowed := true, recurses := true, apart := false }
def FnExactMergeFlowsSaid : Prop := fnExactMergeFlowsRow.holds Try.pinned (OpenSpec.ofChange fnExactMergeFlowsSpec)

/-- ITS FALSE NEIGHBOUR: 'it returns false'. Refute it at one input. -/
def fnExactMergeFlowsWrong : ChangeSpec := { name := "fnExactMergeFlows", fn := fun _ => fun
  | [d1, d2] => { results := [.lit (.bool false)], args := [d1, d2] }
  | _ => none }
def FnExactMergeFlowsWrongFalsely : Prop := fnExactMergeFlowsRow.holds Try.pinned (OpenSpec.ofChange fnExactMergeFlowsWrong)

/-- 'laws.FnExactServingTrips': WHATEVER THE INPUT: true; the input reads as it did. -/
def fnExactServingTripsSpec : ChangeSpec := { name := "fnExactServingTrips", fn := fun _ => fun
  | [d1, d2] => { results := [.lit (.bool true)], args := [d1, d2] }
  | _ => none }
def fnExactServingTripsRow : OpenClaim := { program := "ytfnihicngoaejaa", sum := "1cadfddf065fb9c81a14bc79494b7b4bf77141260604906059bf7161324265ee", func := "loop.example/g00900/laws.FnExactServingTrips", spec := "fnExactServingTrips", unfollowed := true, recurses := true, apart := false }
def FnExactServingTripsSaid : Prop := fnExactServingTripsRow.holds Try.pinned (OpenSpec.ofChange fnExactServingTripsSpec)

/-- ITS FALSE NEIGHBOUR: 'it returns false'. Refute it at one input. -/
def fnExactServingTripsWrong : ChangeSpec := { name := "fnExactServingTrips", fn := fun _ => fun
  | [d1, d2] => { results := [.lit (.bool false)], args := [d1, d2] }
  | _ => none }
def FnExactServingTripsWrongFalsely : Prop := fnExactServingTripsRow.holds Try.pinned (OpenSpec.ofChange fnExactServingTripsWrong)

/-- 'laws.FnExactTravelMinutes': WHATEVER THE INPUT: true; the input reads as it did. -/
def fnExactTravelMinutesSpec : ChangeSpec := { name := "fnExactTravelMinutes", fn := fun _ => fun
  | [d1, d2, d3] => { results := [.lit (.bool true)], args := [d1, d2, d3] }
  | _ => none }
def fnExactTravelMinutesRow : OpenClaim := { program := "ytfnihicngoaejaa", sum := "1cadfddf065fb9c81a14bc79494b7b4bf77141260604906059bf7161324265ee", func := "loop.example/g00900/laws.FnExactTravelMinutes", spec := "fnExactTravelMinutes", unfollowed := true, recurses := true, apart := false }
def FnExactTravelMinutesSaid : Prop := fnExactTravelMinutesRow.holds Try.pinned (OpenSpec.ofChange fnExactTravelMinutesSpec)

/-- ITS FALSE NEIGHBOUR: 'it returns false'. Refute it at one input. -/
def fnExactTravelMinutesWrong : ChangeSpec := { name := "fnExactTravelMinutes", fn := fun _ => fun
  | [d1, d2, d3] => { results := [.lit (.bool false)], args := [d1, d2, d3] }
  | _ => none }
def FnExactTravelMinutesWrongFalsely : Prop := fnExactTravelMinutesRow.holds Try.pinned (OpenSpec.ofChange fnExactTravelMinutesWrong)

/-- 'laws.FnExactBoardingsAt': WHATEVER THE INPUT: true; the input reads as it did. -/
def fnExactBoardingsAtSpec : ChangeSpec := { name := "fnExactBoardingsAt", fn := fun _ => fun
  | [d1, d2, d3, d4] => { results := [.lit (.bool true)], args := [d1, d2, d3, d4] }
  | _ => none }
def fnExactBoardingsAtRow : OpenClaim := { program := "ytfnihicngoaejaa", sum := "1cadfddf065fb9c81a14bc79494b7b4bf77141260604906059bf7161324265ee", func := "loop.example/g00900/laws.FnExactBoardingsAt", spec := "fnExactBoardingsAt", unfollowed := true, recurses := true, apart := false }
def FnExactBoardingsAtSaid : Prop := fnExactBoardingsAtRow.holds Try.pinned (OpenSpec.ofChange fnExactBoardingsAtSpec)

/-- ITS FALSE NEIGHBOUR: 'it returns false'. Refute it at one input. -/
def fnExactBoardingsAtWrong : ChangeSpec := { name := "fnExactBoardingsAt", fn := fun _ => fun
  | [d1, d2, d3, d4] => { results := [.lit (.bool false)], args := [d1, d2, d3, d4] }
  | _ => none }
def FnExactBoardingsAtWrongFalsely : Prop := fnExactBoardingsAtRow.holds Try.pinned (OpenSpec.ofChange fnExactBoardingsAtWrong)

/-- 'laws.FnExactNeededCapacity': WHATEVER THE INPUT: true; the input reads as it did. -/
def fnExactNeededCapacitySpec : ChangeSpec := { name := "fnExactNeededCapacity", fn := fun _ => fun
  | [d1, d2] => { results := [.lit (.bool true)], args := [d1, d2] }
  | _ => none }
def fnExactNeededCapacityRow : OpenClaim := { program := "ytfnihicngoaejaa", sum := "1cadfddf065fb9c81a14bc79494b7b4bf77141260604906059bf7161324265ee", func := "loop.example/g00900/laws.FnExactNeededCapacity", spec := "fnExactNeededCapacity", unfollowed := true, recurses := true, apart := false }
def FnExactNeededCapacitySaid : Prop := fnExactNeededCapacityRow.holds Try.pinned (OpenSpec.ofChange fnExactNeededCapacitySpec)

/-- ITS FALSE NEIGHBOUR: 'it returns false'. Refute it at one input. -/
def fnExactNeededCapacityWrong : ChangeSpec := { name := "fnExactNeededCapacity", fn := fun _ => fun
  | [d1, d2] => { results := [.lit (.bool false)], args := [d1, d2] }
  | _ => none }
def FnExactNeededCapacityWrongFalsely : Prop := fnExactNeededCapacityRow.holds Try.pinned (OpenSpec.ofChange fnExactNeededCapacityWrong)

/-- 'laws.FnExactFullestPart': WHATEVER THE INPUT: true; the input reads as it did. -/
def fnExactFullestPartSpec : ChangeSpec := { name := "fnExactFullestPart", fn := fun _ => fun
  | [d1, d2, d3] => { results := [.lit (.bool true)], args := [d1, d2, d3] }
  | _ => none }
def fnExactFullestPartRow : OpenClaim := { program := "ytfnihicngoaejaa", sum := "1cadfddf065fb9c81a14bc79494b7b4bf77141260604906059bf7161324265ee", func := "loop.example/g00900/laws.FnExactFullestPart", spec := "fnExactFullestPart", unfollowed := true, recurses := true, apart := false }
def FnExactFullestPartSaid : Prop := fnExactFullestPartRow.holds Try.pinned (OpenSpec.ofChange fnExactFullestPartSpec)

/-- ITS FALSE NEIGHBOUR: 'it returns false'. Refute it at one input. -/
def fnExactFullestPartWrong : ChangeSpec := { name := "fnExactFullestPart", fn := fun _ => fun
  | [d1, d2, d3] => { results := [.lit (.bool false)], args := [d1, d2, d3] }
  | _ => none }
def FnExactFullestPartWrongFalsely : Prop := fnExactFullestPartRow.holds Try.pinned (OpenSpec.ofChange fnExactFullestPartWrong)

/-- 'laws.FnExactLeftBehind': WHATEVER THE INPUT: true; the input reads as it did. -/
def fnExactLeftBehindSpec : ChangeSpec := { name := "fnExactLeftBehind", fn := fun _ => fun
  | [d1, d2, d3] => { results := [.lit (.bool true)], args := [d1, d2, d3] }
  | _ => none }
def fnExactLeftBehindRow : OpenClaim := { program := "ytfnihicngoaejaa", sum := "1cadfddf065fb9c81a14bc79494b7b4bf77141260604906059bf7161324265ee", func := "loop.example/g00900/laws.FnExactLeftBehind", spec := "fnExactLeftBehind", unfollowed := true, recurses := true, apart := false }
def FnExactLeftBehindSaid : Prop := fnExactLeftBehindRow.holds Try.pinned (OpenSpec.ofChange fnExactLeftBehindSpec)

/-- ITS FALSE NEIGHBOUR: 'it returns false'. Refute it at one input. -/
def fnExactLeftBehindWrong : ChangeSpec := { name := "fnExactLeftBehind", fn := fun _ => fun
  | [d1, d2, d3] => { results := [.lit (.bool false)], args := [d1, d2, d3] }
  | _ => none }
def FnExactLeftBehindWrongFalsely : Prop := fnExactLeftBehindRow.holds Try.pinned (OpenSpec.ofChange fnExactLeftBehindWrong)

/-- 'laws.FnExactBoardFlows': WHATEVER THE INPUT: true; the input reads as it did. -/
def fnExactBoardFlowsSpec : ChangeSpec := { name := "fnExactBoardFlows", fn := fun _ => fun
  | [d1, d2, d3] => { results := [.lit (.bool true)], args := [d1, d2, d3] }
  | _ => none }
def fnExactBoardFlowsRow : OpenClaim := { program := "ytfnihicngoaejaa", sum := "1cadfddf065fb9c81a14bc79494b7b4bf77141260604906059bf7161324265ee", func := "loop.example/g00900/laws.FnExactBoardFlows", spec := "fnExactBoardFlows", unfollowed := true, recurses := true, apart := false }
def FnExactBoardFlowsSaid : Prop := fnExactBoardFlowsRow.holds Try.pinned (OpenSpec.ofChange fnExactBoardFlowsSpec)

/-- ITS FALSE NEIGHBOUR: 'it returns false'. Refute it at one input. -/
def fnExactBoardFlowsWrong : ChangeSpec := { name := "fnExactBoardFlows", fn := fun _ => fun
  | [d1, d2, d3] => { results := [.lit (.bool false)], args := [d1, d2, d3] }
  | _ => none }
def FnExactBoardFlowsWrongFalsely : Prop := fnExactBoardFlowsRow.holds Try.pinned (OpenSpec.ofChange fnExactBoardFlowsWrong)

/- THE SECOND FORM. 'bulk': how many values and letters a reading holds, each counted each time it is reached (what is shared counts as often as it is met; a slice's spare places count too). A statement '..UptoSaid' is the law's where the arguments, and the package variables that the reading takes, are together of bulk at most 1048576: NARROWER than '..Said'. Prove '..Said' where nothing that the law and all that it calls make is longer than what came in: it says more and counts as full. Else prove '..UptoSaid'. A law counts once. -/
mutual
def uptoBulk {H : Type} : DataW H → Nat
  | .lit (.string bytes) => bytes.length + 1
  | .lit _ => 1
  | .nil => 1
  | .ptr d => uptoBulk d + 1
  | .slice elems spare => uptoBulkAll elems + uptoBulkAll spare + 1
  | .agg parts => uptoBulkAll parts + 1
  | .iface _ d => uptoBulk d + 1
  | .map entries => uptoBulkEntries entries + 1
  | .held _ => 1
def uptoBulkAll {H : Type} : List (DataW H) → Nat
  | [] => 0
  | d :: r => uptoBulk d + uptoBulkAll r
def uptoBulkEntries {H : Type} : List (Lit × DataW H) → Nat
  | [] => 0
  | x :: r => uptoBulkEntry x + uptoBulkEntries r
def uptoBulkEntry {H : Type} : Lit × DataW H → Nat
  | (.string bytes, d) => bytes.length + uptoBulk d + 1
  | (_, d) => uptoBulk d + 1
 end
def uptoSmall : (H : Type) → List (DataW H) → Bool := fun _ ds => decide (uptoBulkAll ds ≤ 1048576)
def OpenSpec.upto (s : _root_.Go.ChangeSpec) : _root_.Go.OpenSpec := { _root_.Go.OpenSpec.ofChange s with cond := some uptoSmall }

/-- 'laws.FnExactIsValidFlows', WHERE WHAT IT READS IS OF BULK AT MOST 1048576: true; the input reads as it did. -/
def fnExactIsValidFlowsUptoRow : OpenClaim := { program := "ytfnihicngoaejaa", sum := "1cadfddf065fb9c81a14bc79494b7b4bf77141260604906059bf7161324265ee", func := "loop.example/g00900/laws.FnExactIsValidFlows", spec := "fnExactIsValidFlows", apart := false, narrowed := true }
def FnExactIsValidFlowsUptoSaid : Prop := fnExactIsValidFlowsUptoRow.holds Try.pinned (OpenSpec.upto fnExactIsValidFlowsSpec)

/-- 'laws.FnExactMergeFlows', WHERE WHAT IT READS IS OF BULK AT MOST 1048576: true; the input reads as it did. -/
def fnExactMergeFlowsUptoRow : OpenClaim := { program := "ytfnihicngoaejaa", sum := "1cadfddf065fb9c81a14bc79494b7b4bf77141260604906059bf7161324265ee", func := "loop.example/g00900/laws.FnExactMergeFlows", spec := "fnExactMergeFlows", unfollowed := true, recurses := true, apart := false, narrowed := true }
def FnExactMergeFlowsUptoSaid : Prop := fnExactMergeFlowsUptoRow.holds Try.pinned (OpenSpec.upto fnExactMergeFlowsSpec)

/-- 'laws.FnExactServingTrips', WHERE WHAT IT READS IS OF BULK AT MOST 1048576: true; the input reads as it did. -/
def fnExactServingTripsUptoRow : OpenClaim := { program := "ytfnihicngoaejaa", sum := "1cadfddf065fb9c81a14bc79494b7b4bf77141260604906059bf7161324265ee", func := "loop.example/g00900/laws.FnExactServingTrips", spec := "fnExactServingTrips", unfollowed := true, recurses := true, apart := false, narrowed := true }
def FnExactServingTripsUptoSaid : Prop := fnExactServingTripsUptoRow.holds Try.pinned (OpenSpec.upto fnExactServingTripsSpec)

/-- 'laws.FnExactTravelMinutes', WHERE WHAT IT READS IS OF BULK AT MOST 1048576: true; the input reads as it did. -/
def fnExactTravelMinutesUptoRow : OpenClaim := { program := "ytfnihicngoaejaa", sum := "1cadfddf065fb9c81a14bc79494b7b4bf77141260604906059bf7161324265ee", func := "loop.example/g00900/laws.FnExactTravelMinutes", spec := "fnExactTravelMinutes", unfollowed := true, recurses := true, apart := false, narrowed := true }
def FnExactTravelMinutesUptoSaid : Prop := fnExactTravelMinutesUptoRow.holds Try.pinned (OpenSpec.upto fnExactTravelMinutesSpec)

/-- 'laws.FnExactBoardingsAt', WHERE WHAT IT READS IS OF BULK AT MOST 1048576: true; the input reads as it did. -/
def fnExactBoardingsAtUptoRow : OpenClaim := { program := "ytfnihicngoaejaa", sum := "1cadfddf065fb9c81a14bc79494b7b4bf77141260604906059bf7161324265ee", func := "loop.example/g00900/laws.FnExactBoardingsAt", spec := "fnExactBoardingsAt", unfollowed := true, recurses := true, apart := false, narrowed := true }
def FnExactBoardingsAtUptoSaid : Prop := fnExactBoardingsAtUptoRow.holds Try.pinned (OpenSpec.upto fnExactBoardingsAtSpec)

/-- 'laws.FnExactNeededCapacity', WHERE WHAT IT READS IS OF BULK AT MOST 1048576: true; the input reads as it did. -/
def fnExactNeededCapacityUptoRow : OpenClaim := { program := "ytfnihicngoaejaa", sum := "1cadfddf065fb9c81a14bc79494b7b4bf77141260604906059bf7161324265ee", func := "loop.example/g00900/laws.FnExactNeededCapacity", spec := "fnExactNeededCapacity", unfollowed := true, recurses := true, apart := false, narrowed := true }
def FnExactNeededCapacityUptoSaid : Prop := fnExactNeededCapacityUptoRow.holds Try.pinned (OpenSpec.upto fnExactNeededCapacitySpec)

/-- 'laws.FnExactFullestPart', WHERE WHAT IT READS IS OF BULK AT MOST 1048576: true; the input reads as it did. -/
def fnExactFullestPartUptoRow : OpenClaim := { program := "ytfnihicngoaejaa", sum := "1cadfddf065fb9c81a14bc79494b7b4bf77141260604906059bf7161324265ee", func := "loop.example/g00900/laws.FnExactFullestPart", spec := "fnExactFullestPart", unfollowed := true, recurses := true, apart := false, narrowed := true }
def FnExactFullestPartUptoSaid : Prop := fnExactFullestPartUptoRow.holds Try.pinned (OpenSpec.upto fnExactFullestPartSpec)

/-- 'laws.FnExactLeftBehind', WHERE WHAT IT READS IS OF BULK AT MOST 1048576: true; the input reads as it did. -/
def fnExactLeftBehindUptoRow : OpenClaim := { program := "ytfnihicngoaejaa", sum := "1cadfddf065fb9c81a14bc79494b7b4bf77141260604906059bf7161324265ee", func := "loop.example/g00900/laws.FnExactLeftBehind", spec := "fnExactLeftBehind", unfollowed := true, recurses := true, apart := false, narrowed := true }
def FnExactLeftBehindUptoSaid : Prop := fnExactLeftBehindUptoRow.holds Try.pinned (OpenSpec.upto fnExactLeftBehindSpec)

/-- 'laws.FnExactBoardFlows', WHERE WHAT IT READS IS OF BULK AT MOST 1048576: true; the input reads as it did. -/
def fnExactBoardFlowsUptoRow : OpenClaim := { program := "ytfnihicngoaejaa", sum := "1cadfddf065fb9c81a14bc79494b7b4bf77141260604906059bf7161324265ee", func := "loop.example/g00900/laws.FnExactBoardFlows", spec := "fnExactBoardFlows", unfollowed := true, recurses := true, apart := false, narrowed := true }
def FnExactBoardFlowsUptoSaid : Prop := fnExactBoardFlowsUptoRow.holds Try.pinned (OpenSpec.upto fnExactBoardFlowsSpec)

end Rows
end Go.Proofs.Ytfnihicngoaejaa
