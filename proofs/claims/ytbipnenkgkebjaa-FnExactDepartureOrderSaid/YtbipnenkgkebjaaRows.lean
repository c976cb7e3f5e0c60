/-
  No cell of these rows narrows 'for every input' (looked for: loops, veiled, ifaces, maps, wideKeys, modest, calm, conditions, laid).
  DERIVED. THE GIVEN ROWS OF THIS SEAT. 7 by the template 'for every input the law returns true; each argument reads behind the call as it read before'; 0 by the template 'total and deterministic' (their statements: YtbipnenkgkebjaaTotals.lean).
  GIVEN WITH THE SEED: the statements are not yours to turn. If you find one false, say at which input.
  Laid BY PROGRAM, IN A SANDBOX (cutbox-rows.mjs): the forced cells as the released guide's own fill.sh prints them over the translation b5917f9b093fa84b… (all of the seat's roots in one cut). By AI agents, Wed Nov 11 2026. No macro, syntax, notation, axiom, sorry.
-/
import Derived.Test.YtbipnenkgkebjaaChecked
import GoSem.Claim
import GoSem.ClaimJoined
import GoSem.ClaimMapViews
import Derived.JoinedTies
import Derived.KernelRfl
namespace Go.Proofs.Ytbipnenkgkebjaa
/- THE CELL 'sum', in the pinned program and in every row, IS THE sha256 OF THE DUMP (.gsa) THAT YtbipnenkgkebjaaProg.lean LOADS. Nothing in Lean hashes anything: it is a label: what it is worth is what the hold of that sum in a sandbox is worth. -/
noncomputable def Try.pinned : Pinned := { name := "ytbipnenkgkebjaa", sum := "b5917f9b093fa84bd4d7eb8b6026fb21e7263e8b6696d84715365bab161a8e05", checked := Try.checked }
namespace Rows
def none {H : Type} : Left H := { results := [], args := [] }

/-- 'laws.FnExactBlockersOf': WHATEVER THE INPUT: true; the input reads as it did. -/
def fnExactBlockersOfSpec : ChangeSpec := { name := "fnExactBlockersOf", fn := fun _ => fun
  | [d1, d2] => { results := [.lit (.bool true)], args := [d1, d2] }
  | _ => none }
def fnExactBlockersOfRow : OpenClaim := { program := "ytbipnenkgkebjaa", sum := "b5917f9b093fa84bd4d7eb8b6026fb21e7263e8b6696d84715365bab161a8e05", func := "loop.example/g00900/laws.FnExactBlockersOf", spec := "fnExactBlockersOf", apart := false }
def FnExactBlockersOfSaid : Prop := fnExactBlockersOfRow.holds Try.pinned (OpenSpec.ofChange fnExactBlockersOfSpec)

/-- ITS FALSE NEIGHBOUR: 'it returns false'. Refute it at one input. -/
def fnExactBlockersOfWrong : ChangeSpec := { name := "fnExactBlockersOf", fn := fun _ => fun
  | [d1, d2] => { results := [.lit (.bool false)], args := [d1, d2] }
  | _ => none }
def FnExactBlockersOfWrongFalsely : Prop := fnExactBlockersOfRow.holds Try.pinned (OpenSpec.ofChange fnExactBlockersOfWrong)

/-- 'laws.FnExactTakeVehicle': WHATEVER THE INPUT: true; the input reads as it did. -/
def fnExactTakeVehicleSpec : ChangeSpec := { name := "fnExactTakeVehicle", fn := fun _ => fun
  | [d1, d2] => { results := [.lit (.bool true)], args := [d1, d2] }
  | _ => none }
def fnExactTakeVehicleRow : OpenClaim := { program := "ytbipnenkgkebjaa", sum := "b5917f9b093fa84bd4d7eb8b6026fb21e7263e8b6696d84715365bab161a8e05", func := "loop.example/g00900/laws.FnExactTakeVehicle", spec := "fnExactTakeVehicle", apart := false }
def FnExactTakeVehicleSaid : Prop := fnExactTakeVehicleRow.holds Try.pinned (OpenSpec.ofChange fnExactTakeVehicleSpec)

/-- ITS FALSE NEIGHBOUR: 'it returns false'. Refute it at one input. -/
def fnExactTakeVehicleWrong : ChangeSpec := { name := "fnExactTakeVehicle", fn := fun _ => fun
  | [d1, d2] => { results := [.lit (.bool false)], args := [d1, d2] }
  | _ => none }
def FnExactTakeVehicleWrongFalsely : Prop := fnExactTakeVehicleRow.holds Try.pinned (OpenSpec.ofChange fnExactTakeVehicleWrong)

/-- 'laws.FnExactParkVehicle': WHATEVER THE INPUT: true; the input reads as it did. -/
def fnExactParkVehicleSpec : ChangeSpec := { name := "fnExactParkVehicle", fn := fun _ => fun
  | [d1, d2, d3] => { results := [.lit (.bool true)], args := [d1, d2, d3] }
  | _ => none }
def fnExactParkVehicleRow : OpenClaim := { program := "ytbipnenkgkebjaa", sum := "b5917f9b093fa84bd4d7eb8b6026fb21e7263e8b6696d84715365bab161a8e05", func := "loop.example/g00900/laws.FnExactParkVehicle", spec := "fnExactParkVehicle", apart := false }
def FnExactParkVehicleSaid : Prop := fnExactParkVehicleRow.holds Try.pinned (OpenSpec.ofChange fnExactParkVehicleSpec)

/-- ITS FALSE NEIGHBOUR: 'it returns false'. Refute it at one input. -/
def fnExactParkVehicleWrong : ChangeSpec := { name := "fnExactParkVehicle", fn := fun _ => fun
  | [d1, d2, d3] => { results := [.lit (.bool false)], args := [d1, d2, d3] }
  | _ => none }
def FnExactParkVehicleWrongFalsely : Prop := fnExactParkVehicleRow.holds Try.pinned (OpenSpec.ofChange fnExactParkVehicleWrong)

/-- 'laws.FnExactDepartureOrder': WHATEVER THE INPUT: true; the input reads as it did. -/
def fnExactDepartureOrderSpec : ChangeSpec := { name := "fnExactDepartureOrder", fn := fun _ => fun
  | [d1, d2] => { results := [.lit (.bool true)], args := [d1, d2] }
  | _ => none }
def fnExactDepartureOrderRow : OpenClaim := { program := "ytbipnenkgkebjaa", sum := "b5917f9b093fa84bd4d7eb8b6026fb21e7263e8b6696d84715365bab161a8e05", func := "loop.example/g00900/laws.FnExactDepartureOrder", spec := "fnExactDepartureOrder", unfollowed := true, recurses := true, apart := false }
def FnExactDepartureOrderSaid : Prop := fnExactDepartureOrderRow.holds Try.pinned (OpenSpec.ofChange fnExactDepartureOrderSpec)

/-- ITS FALSE NEIGHBOUR: 'it returns false'. Refute it at one input. -/
def fnExactDepartureOrderWrong : ChangeSpec := { name := "fnExactDepartureOrder", fn := fun _ => fun
  | [d1, d2] => { results := [.lit (.bool false)], args := [d1, d2] }
  | _ => none }
def FnExactDepartureOrderWrongFalsely : Prop := fnExactDepartureOrderRow.holds Try.pinned (OpenSpec.ofChange fnExactDepartureOrderWrong)

/-- 'laws.FnExactShuntingMoves': WHATEVER THE INPUT: true; the input reads as it did. -/
def fnExactShuntingMovesSpec : ChangeSpec := { name := "fnExactShuntingMoves", fn := fun _ => fun
  | [d1, d2] => { results := [.lit (.bool true)], args := [d1, d2] }
  | _ => none }
def fnExactShuntingMovesRow : OpenClaim := { program := "ytbipnenkgkebjaa", sum := "b5917f9b093fa84bd4d7eb8b6026fb21e7263e8b6696d84715365bab161a8e05", func := "loop.example/g00900/laws.FnExactShuntingMoves", spec := "fnExactShuntingMoves", apart := false }
def FnExactShuntingMovesSaid : Prop := fnExactShuntingMovesRow.holds Try.pinned (OpenSpec.ofChange fnExactShuntingMovesSpec)

/-- ITS FALSE NEIGHBOUR: 'it returns false'. Refute it at one input. -/
def fnExactShuntingMovesWrong : ChangeSpec := { name := "fnExactShuntingMoves", fn := fun _ => fun
  | [d1, d2] => { results := [.lit (.bool false)], args := [d1, d2] }
  | _ => none }
def FnExactShuntingMovesWrongFalsely : Prop := fnExactShuntingMovesRow.holds Try.pinned (OpenSpec.ofChange fnExactShuntingMovesWrong)

/-- 'laws.FnExactRunMoves': WHATEVER THE INPUT: true; the input reads as it did. -/
def fnExactRunMovesSpec : ChangeSpec := { name := "fnExactRunMoves", fn := fun _ => fun
  | [d1, d2, d3] => { results := [.lit (.bool true)], args := [d1, d2, d3] }
  | _ => none }
def fnExactRunMovesRow : OpenClaim := { program := "ytbipnenkgkebjaa", sum := "b5917f9b093fa84bd4d7eb8b6026fb21e7263e8b6696d84715365bab161a8e05", func := "loop.example/g00900/laws.FnExactRunMoves", spec := "fnExactRunMoves", apart := false }
def FnExactRunMovesSaid : Prop := fnExactRunMovesRow.holds Try.pinned (OpenSpec.ofChange fnExactRunMovesSpec)

/-- ITS FALSE NEIGHBOUR: 'it returns false'. Refute it at one input. -/
def fnExactRunMovesWrong : ChangeSpec := { name := "fnExactRunMoves", fn := fun _ => fun
  | [d1, d2, d3] => { results := [.lit (.bool false)], args := [d1, d2, d3] }
  | _ => none }
def FnExactRunMovesWrongFalsely : Prop := fnExactRunMovesRow.holds Try.pinned (OpenSpec.ofChange fnExactRunMovesWrong)

/-- 'laws.FnExactAssignTracks': WHATEVER THE INPUT: true; the input reads as it did. -/
def fnExactAssignTracksSpec : ChangeSpec := { name := "fnExactAssignTracks", fn := fun _ => fun
  | [d1, d2] => { results := [.lit (.bool true)], args := [d1, d2] }
  | _ => none }
def fnExactAssignTracksRow : OpenClaim := { program := "ytbipnenkgkebjaa", sum := "b5917f9b093fa84bd4d7eb8b6026fb21e7263e8b6696d84715365bab161a8e05", func := "loop.example/g00900/laws.FnExactAssignTracks", spec := "fnExactAssignTracks", recurses := true, apart := false }
def FnExactAssignTracksSaid : Prop := fnExactAssignTracksRow.holds Try.pinned (OpenSpec.ofChange fnExactAssignTracksSpec)

/-- ITS FALSE NEIGHBOUR: 'it returns false'. Refute it at one input. -/
def fnExactAssignTracksWrong : ChangeSpec := { name := "fnExactAssignTracks", fn := fun _ => fun
  | [d1, d2] => { results := [.lit (.bool false)], args := [d1, d2] }
  | _ => none }
def FnExactAssignTracksWrongFalsely : Prop := fnExactAssignTracksRow.holds Try.pinned (OpenSpec.ofChange fnExactAssignTracksWrong)

/- THE SECOND FORM. 'bulk': how many values and letters a reading holds, each counted each time it is reached (what is shared counts as often as it is met; a slice's spare places count too). A statement '..UptoSaid' is the law's where the arguments, and the package variables that the reading takes, are together of bulk at most 1048576: NARROWER than '..Said'. Prove '..Said' where nothing that the law and all that it calls make is longer than what came in: it says more and counts as full. Else prove '..UptoSaid'. A law counts once. -/
mutual
def uptoBulk {H : Type} : DataW H → Nat
  | .lit (.string bytes) => bytes.length + 1
  | .lit _ => 1
  | .nil => 1
  | .ptr d => uptoBulk d + 1
  | .slice elems spare => uptoBulkAll elems + uptoBulkAll spare + 1
  | .agg parts => uptoBulkAll parts + 1
  | .iface _ d => uptoBulk d + 1
  | .map entries => uptoBulkEntries entries + 1
  | .held _ => 1
def uptoBulkAll {H : Type} : List (DataW H) → Nat
  | [] => 0
  | d :: r => uptoBulk d + uptoBulkAll r
def uptoBulkEntries {H : Type} : List (Lit × DataW H) → Nat
  | [] => 0
  | x :: r => uptoBulkEntry x + uptoBulkEntries r
def uptoBulkEntry {H : Type} : Lit × DataW H → Nat
  | (.string bytes, d) => bytes.length + uptoBulk d + 1
  | (_, d) => uptoBulk d + 1
 end
def uptoSmall : (H : Type) → List (DataW H) → Bool := fun _ ds => decide (uptoBulkAll ds ≤ 1048576)
def OpenSpec.upto (s : _root_.Go.ChangeSpec) : _root_.Go.OpenSpec := { _root_.Go.OpenSpec.ofChange s with cond := some uptoSmall }

/-- 'laws.FnExactBlockersOf', WHERE WHAT IT READS IS OF BULK AT MOST 1048576: true; the input reads as it did. -/
def fnExactBlockersOfUptoRow : OpenClaim := { program := "ytbipnenkgkebjaa", sum := "b5917f9b093fa84bd4d7eb8b6026fb21e7263e8b6696d84715365bab161a8e05", func := "loop.example/g00900/laws.FnExactBlockersOf", spec := "fnExactBlockersOf", apart := false, narrowed := true }
def FnExactBlockersOfUptoSaid : Prop := fnExactBlockersOfUptoRow.holds Try.pinned (OpenSpec.upto fnExactBlockersOfSpec)

/-- 'laws.FnExactTakeVehicle', WHERE WHAT IT READS IS OF BULK AT MOST 1048576: true; the input reads as it did. -/
def fnExactTakeVehicleUptoRow : OpenClaim := { program := "ytbipnenkgkebjaa", sum := "b5917f9b093fa84bd4d7eb8b6026fb21e7263e8b6696d84715365bab161a8e05", func := "loop.example/g00900/laws.FnExactTakeVehicle", spec := "fnExactTakeVehicle", apart := false, narrowed := true }
def FnExactTakeVehicleUptoSaid : Prop := fnExactTakeVehicleUptoRow.holds Try.pinned (OpenSpec.upto fnExactTakeVehicleSpec)

/-- 'laws.FnExactParkVehicle', WHERE WHAT IT READS IS OF BULK AT MOST 1048576: true; the input reads as it did. -/
def fnExactParkVehicleUptoRow : OpenClaim := { program := "ytbipnenkgkebjaa", sum := "b5917f9b093fa84bd4d7eb8b6026fb21e7263e8b6696d84715365bab161a8e05", func := "loop.example/g00900/laws.FnExactParkVehicle", spec := "fnExactParkVehicle", apart := false, narrowed := true }
def FnExactParkVehicleUptoSaid : Prop := fnExactParkVehicleUptoRow.holds Try.pinned (OpenSpec.upto fnExactParkVehicleSpec)

/-- 'laws.FnExactDepartureOrder', WHERE WHAT IT READS IS OF BULK AT MOST 1048576: true; the input reads as it did. -/
def fnExactDepartureOrderUptoRow : OpenClaim := { program := "ytbipnenkgkebjaa", sum := "b5917f9b093fa84bd4d7eb8b6026fb21e7263e8b6696d84715365bab161a8e05", func := "loop.example/g00900/laws.FnExactDepartureOrder", spec := "fnExactDepartureOrder", unfollowed := true, recurses := true, apart := false, narrowed := true }
def FnExactDepartureOrderUptoSaid : Prop := fnExactDepartureOrderUptoRow.holds Try.pinned (OpenSpec.upto fnExactDepartureOrderSpec)

/-- 'laws.FnExactShuntingMoves', WHERE WHAT IT READS IS OF BULK AT MOST 1048576: true; the input reads as it did. -/
def fnExactShuntingMovesUptoRow : OpenClaim := { program := "ytbipnenkgkebjaa", sum := "b5917f9b093fa84bd4d7eb8b6026fb21e7263e8b6696d84715365bab161a8e05", func := "loop.example/g00900/laws.FnExactShuntingMoves", spec := "fnExactShuntingMoves", apart := false, narrowed := true }
def FnExactShuntingMovesUptoSaid : Prop := fnExactShuntingMovesUptoRow.holds Try.pinned (OpenSpec.upto fnExactShuntingMovesSpec)

/-- 'laws.FnExactRunMoves', WHERE WHAT IT READS IS OF BULK AT MOST 1048576: true; the input reads as it did. -/
def fnExactRunMovesUptoRow : OpenClaim := { program := "ytbipnenkgkebjaa", sum := "b5917f9b093fa84bd4d7eb8b6026fb21e7263e8b6696d84715365bab161a8e05", func := "loop.example/g00900/laws.FnExactRunMoves", spec := "fnExactRunMoves", apart := false, narrowed := true }
def FnExactRunMovesUptoSaid : Prop := fnExactRunMovesUptoRow.holds Try.pinned (OpenSpec.upto fnExactRunMovesSpec)

/-- 'laws.FnExactAssignTracks', WHERE WHAT IT READS IS OF BULK AT MOST 1048576: true; the input reads as it did. -/
def fnExactAssignTracksUptoRow : OpenClaim := { program := "ytbipnenkgkebjaa", sum := "b5917f9b093fa84bd4d7eb8b6026fb21e7263e8b6696d84715365bab161a8e05", func := "loop.example/g00900/laws.FnExactAssignTracks", spec := "fnExactAssignTracks", recurses := true, apart := false, narrowed := true }
def FnExactAssignTracksUptoSaid : Prop := fnExactAssignTracksUptoRow.holds Try.pinned (OpenSpec.upto fnExactAssignTracksSpec)

end Rows
end Go.Proofs.Ytbipnenkgkebjaa
