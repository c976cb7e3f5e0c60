/-
  No cell of these rows narrows 'for every input' (looked for: loops, veiled, ifaces, maps, wideKeys, modest, calm, conditions, laid).
  DERIVED. THE GIVEN ROWS OF THIS SEAT. 7 by the template 'for every input the law returns true; each argument reads behind the call as it read before'; 0 by the template 'total and deterministic' (their statements: YtmmemadlnjjdmaaTotals.lean).
  GIVEN WITH THE SEED: the statements are not yours to turn. If you find one false, say at which input.
  Laid BY PROGRAM, IN A SANDBOX (cutbox-rows.mjs): the forced cells as the released guide's own fill.sh prints them over the translation 8593637e2c15680f… (all of the seat's roots in one cut). By AI agents, Wed Nov 11 2026. No macro, syntax, notation, axiom, sorry.
-/
import Derived.Test.YtmmemadlnjjdmaaChecked
import GoSem.Claim
import GoSem.ClaimJoined
import GoSem.ClaimMapViews
import Derived.JoinedTies
import Derived.KernelRfl
namespace Go.Proofs.Ytmmemadlnjjdmaa
/- THE CELL 'sum', in the pinned program and in every row, IS THE sha256 OF THE DUMP (.gsa) THAT YtmmemadlnjjdmaaProg.lean LOADS. Nothing in Lean hashes anything: it is a label: what it is worth is what the hold of that sum in a sandbox is worth. -/
noncomputable def Try.pinned : Pinned := { name := "ytmmemadlnjjdmaa", sum := "8593637e2c15680f1df68c40c6b2fc359a408d679fcdccf4eb28bb5d4ff0f9bf", checked := Try.checked }
namespace Rows
def none {H : Type} : Left H := { results := [], args := [] }

/-- 'laws.FnExactSingleFare': WHATEVER THE INPUT: true; the input reads as it did. -/
def fnExactSingleFareSpec : ChangeSpec := { name := "fnExactSingleFare", fn := fun _ => fun
  | [d1, d2] => { results := [.lit (.bool true)], args := [d1, d2] }
  | _ => none }
def fnExactSingleFareRow : OpenClaim := { program := "ytmmemadlnjjdmaa", sum := "8593637e2c15680f1df68c40c6b2fc359a408d679fcdccf4eb28bb5d4ff0f9bf", func := "loop.example/g00900/laws.FnExactSingleFare", spec := "fnExactSingleFare", apart := false }
def FnExactSingleFareSaid : Prop := fnExactSingleFareRow.holds Try.pinned (OpenSpec.ofChange fnExactSingleFareSpec)

/-- ITS FALSE NEIGHBOUR: 'it returns false'. Refute it at one input. -/
def fnExactSingleFareWrong : ChangeSpec := { name := "fnExactSingleFare", fn := fun _ => fun
  | [d1, d2] => { results := [.lit (.bool false)], args := [d1, d2] }
  | _ => none }
def FnExactSingleFareWrongFalsely : Prop := fnExactSingleFareRow.holds Try.pinned (OpenSpec.ofChange fnExactSingleFareWrong)

/-- 'laws.FnExactIsValidRides': WHATEVER THE INPUT: true; the input reads as it did. -/
def fnExactIsValidRidesSpec : ChangeSpec := { name := "fnExactIsValidRides", fn := fun _ => fun
  | [d] => { results := [.lit (.bool true)], args := [d] }
  | _ => none }
def fnExactIsValidRidesRow : OpenClaim := { program := "ytmmemadlnjjdmaa", sum := "8593637e2c15680f1df68c40c6b2fc359a408d679fcdccf4eb28bb5d4ff0f9bf", func := "loop.example/g00900/laws.FnExactIsValidRides", spec := "fnExactIsValidRides", apart := false }
def FnExactIsValidRidesSaid : Prop := fnExactIsValidRidesRow.holds Try.pinned (OpenSpec.ofChange fnExactIsValidRidesSpec)

/-- ITS FALSE NEIGHBOUR: 'it returns false'. Refute it at one input. -/
def fnExactIsValidRidesWrong : ChangeSpec := { name := "fnExactIsValidRides", fn := fun _ => fun
  | [d] => { results := [.lit (.bool false)], args := [d] }
  | _ => none }
def FnExactIsValidRidesWrongFalsely : Prop := fnExactIsValidRidesRow.holds Try.pinned (OpenSpec.ofChange fnExactIsValidRidesWrong)

/-- 'laws.FnExactFreeTransfers': WHATEVER THE INPUT: true; the input reads as it did. -/
def fnExactFreeTransfersSpec : ChangeSpec := { name := "fnExactFreeTransfers", fn := fun _ => fun
  | [d1, d2] => { results := [.lit (.bool true)], args := [d1, d2] }
  | _ => none }
def fnExactFreeTransfersRow : OpenClaim := { program := "ytmmemadlnjjdmaa", sum := "8593637e2c15680f1df68c40c6b2fc359a408d679fcdccf4eb28bb5d4ff0f9bf", func := "loop.example/g00900/laws.FnExactFreeTransfers", spec := "fnExactFreeTransfers", apart := false }
def FnExactFreeTransfersSaid : Prop := fnExactFreeTransfersRow.holds Try.pinned (OpenSpec.ofChange fnExactFreeTransfersSpec)

/-- ITS FALSE NEIGHBOUR: 'it returns false'. Refute it at one input. -/
def fnExactFreeTransfersWrong : ChangeSpec := { name := "fnExactFreeTransfers", fn := fun _ => fun
  | [d1, d2] => { results := [.lit (.bool false)], args := [d1, d2] }
  | _ => none }
def FnExactFreeTransfersWrongFalsely : Prop := fnExactFreeTransfersRow.holds Try.pinned (OpenSpec.ofChange fnExactFreeTransfersWrong)

/-- 'laws.FnExactSplitRevenue': WHATEVER THE INPUT: true; the input reads as it did. -/
def fnExactSplitRevenueSpec : ChangeSpec := { name := "fnExactSplitRevenue", fn := fun _ => fun
  | [d1, d2] => { results := [.lit (.bool true)], args := [d1, d2] }
  | _ => none }
def fnExactSplitRevenueRow : OpenClaim := { program := "ytmmemadlnjjdmaa", sum := "8593637e2c15680f1df68c40c6b2fc359a408d679fcdccf4eb28bb5d4ff0f9bf", func := "loop.example/g00900/laws.FnExactSplitRevenue", spec := "fnExactSplitRevenue", unfollowed := true, recurses := true, apart := false }
def FnExactSplitRevenueSaid : Prop := fnExactSplitRevenueRow.holds Try.pinned (OpenSpec.ofChange fnExactSplitRevenueSpec)

/-- ITS FALSE NEIGHBOUR: 'it returns false'. Refute it at one input. -/
def fnExactSplitRevenueWrong : ChangeSpec := { name := "fnExactSplitRevenue", fn := fun _ => fun
  | [d1, d2] => { results := [.lit (.bool false)], args := [d1, d2] }
  | _ => none }
def FnExactSplitRevenueWrongFalsely : Prop := fnExactSplitRevenueRow.holds Try.pinned (OpenSpec.ofChange fnExactSplitRevenueWrong)

/-- 'laws.FnExactDailyCaps': WHATEVER THE INPUT: true; the input reads as it did. -/
def fnExactDailyCapsSpec : ChangeSpec := { name := "fnExactDailyCaps", fn := fun _ => fun
  | [d1, d2] => { results := [.lit (.bool true)], args := [d1, d2] }
  | _ => none }
def fnExactDailyCapsRow : OpenClaim := { program := "ytmmemadlnjjdmaa", sum := "8593637e2c15680f1df68c40c6b2fc359a408d679fcdccf4eb28bb5d4ff0f9bf", func := "loop.example/g00900/laws.FnExactDailyCaps", spec := "fnExactDailyCaps", apart := false }
def FnExactDailyCapsSaid : Prop := fnExactDailyCapsRow.holds Try.pinned (OpenSpec.ofChange fnExactDailyCapsSpec)

/-- ITS FALSE NEIGHBOUR: 'it returns false'. Refute it at one input. -/
def fnExactDailyCapsWrong : ChangeSpec := { name := "fnExactDailyCaps", fn := fun _ => fun
  | [d1, d2] => { results := [.lit (.bool false)], args := [d1, d2] }
  | _ => none }
def FnExactDailyCapsWrongFalsely : Prop := fnExactDailyCapsRow.holds Try.pinned (OpenSpec.ofChange fnExactDailyCapsWrong)

/-- 'laws.FnExactSwapDrivers': WHATEVER THE INPUT: true; the input reads as it did. -/
def fnExactSwapDriversSpec : ChangeSpec := { name := "fnExactSwapDrivers", fn := fun _ => fun
  | [d1, d2, d3, d4] => { results := [.lit (.bool true)], args := [d1, d2, d3, d4] }
  | _ => none }
def fnExactSwapDriversRow : OpenClaim := { program := "ytmmemadlnjjdmaa", sum := "8593637e2c15680f1df68c40c6b2fc359a408d679fcdccf4eb28bb5d4ff0f9bf", func := "loop.example/g00900/laws.FnExactSwapDrivers", spec := "fnExactSwapDrivers", apart := false }
def FnExactSwapDriversSaid : Prop := fnExactSwapDriversRow.holds Try.pinned (OpenSpec.ofChange fnExactSwapDriversSpec)

/-- ITS FALSE NEIGHBOUR: 'it returns false'. Refute it at one input. -/
def fnExactSwapDriversWrong : ChangeSpec := { name := "fnExactSwapDrivers", fn := fun _ => fun
  | [d1, d2, d3, d4] => { results := [.lit (.bool false)], args := [d1, d2, d3, d4] }
  | _ => none }
def FnExactSwapDriversWrongFalsely : Prop := fnExactSwapDriversRow.holds Try.pinned (OpenSpec.ofChange fnExactSwapDriversWrong)

/-- 'laws.FnExactFillDay': WHATEVER THE INPUT: true; the input reads as it did. -/
def fnExactFillDaySpec : ChangeSpec := { name := "fnExactFillDay", fn := fun _ => fun
  | [d1, d2] => { results := [.lit (.bool true)], args := [d1, d2] }
  | _ => none }
def fnExactFillDayRow : OpenClaim := { program := "ytmmemadlnjjdmaa", sum := "8593637e2c15680f1df68c40c6b2fc359a408d679fcdccf4eb28bb5d4ff0f9bf", func := "loop.example/g00900/laws.FnExactFillDay", spec := "fnExactFillDay", unfollowed := true, recurses := true, apart := false }
def FnExactFillDaySaid : Prop := fnExactFillDayRow.holds Try.pinned (OpenSpec.ofChange fnExactFillDaySpec)

/-- ITS FALSE NEIGHBOUR: 'it returns false'. Refute it at one input. -/
def fnExactFillDayWrong : ChangeSpec := { name := "fnExactFillDay", fn := fun _ => fun
  | [d1, d2] => { results := [.lit (.bool false)], args := [d1, d2] }
  | _ => none }
def FnExactFillDayWrongFalsely : Prop := fnExactFillDayRow.holds Try.pinned (OpenSpec.ofChange fnExactFillDayWrong)

/- THE SECOND FORM. 'bulk': how many values and letters a reading holds, each counted each time it is reached (what is shared counts as often as it is met; a slice's spare places count too). A statement '..UptoSaid' is the law's where the arguments, and the package variables that the reading takes, are together of bulk at most 1048576: NARROWER than '..Said'. Prove '..Said' where nothing that the law and all that it calls make is longer than what came in: it says more and counts as full. Else prove '..UptoSaid'. A law counts once. -/
mutual
def uptoBulk {H : Type} : DataW H → Nat
  | .lit (.string bytes) => bytes.length + 1
  | .lit _ => 1
  | .nil => 1
  | .ptr d => uptoBulk d + 1
  | .slice elems spare => uptoBulkAll elems + uptoBulkAll spare + 1
  | .agg parts => uptoBulkAll parts + 1
  | .iface _ d => uptoBulk d + 1
  | .map entries => uptoBulkEntries entries + 1
  | .held _ => 1
def uptoBulkAll {H : Type} : List (DataW H) → Nat
  | [] => 0
  | d :: r => uptoBulk d + uptoBulkAll r
def uptoBulkEntries {H : Type} : List (Lit × DataW H) → Nat
  | [] => 0
  | x :: r => uptoBulkEntry x + uptoBulkEntries r
def uptoBulkEntry {H : Type} : Lit × DataW H → Nat
  | (.string bytes, d) => bytes.length + uptoBulk d + 1
  | (_, d) => uptoBulk d + 1
 end
def uptoSmall : (H : Type) → List (DataW H) → Bool := fun _ ds => decide (uptoBulkAll ds ≤ 1048576)
def OpenSpec.upto (s : _root_.Go.ChangeSpec) : _root_.Go.OpenSpec := { _root_.Go.OpenSpec.ofChange s with cond := some uptoSmall }

/-- 'laws.FnExactSingleFare', WHERE WHAT IT READS IS OF BULK AT MOST 1048576: true; the input reads as it did. -/
def fnExactSingleFareUptoRow : OpenClaim := { program := "ytmmemadlnjjdmaa", sum := "8593637e2c15680f1df68c40c6b2fc359a408d679fcdccf4eb28bb5d4ff0f9bf", func := "loop.example/g00900/laws.FnExactSingleFare", spec := "fnExactSingleFare", apart := false, narrowed := true }
def FnExactSingleFareUptoSaid : Prop := fnExactSingleFareUptoRow.holds Try.pinned (OpenSpec.upto fnExactSingleFareSpec)

/-- 'laws.FnExactIsValidRides', WHERE WHAT IT READS IS OF BULK AT MOST 1048576: true; the input reads as it did. -/
def fnExactIsValidRidesUptoRow : OpenClaim := { program := "ytmmemadlnjjdmaa", sum := "8593637e2c15680f1df68c40c6b2fc359a408d679fcdccf4eb28bb5d4ff0f9bf", func := "loop.example/g00900/laws.FnExactIsValidRides", spec := "fnExactIsValidRides", apart := false, narrowed := true }
def FnExactIsValidRidesUptoSaid : Prop := fnExactIsValidRidesUptoRow.holds Try.pinned (OpenSpec.upto fnExactIsValidRidesSpec)

/-- 'laws.FnExactFreeTransfers', WHERE WHAT IT READS IS OF BULK AT MOST 1048576: true; the input reads as it did. -/
def fnExactFreeTransfersUptoRow : OpenClaim := { program := "ytmmemadlnjjdmaa", sum := "8593637e2c15680f1df68c40c6b2fc359a408d679fcdccf4eb28bb5d4ff0f9bf", func := "loop.example/g00900/laws.FnExactFreeTransfers", spec := "fnExactFreeTransfers", apart := false, narrowed := true }
def FnExactFreeTransfersUptoSaid : Prop := fnExactFreeTransfersUptoRow.holds Try.pinned (OpenSpec.upto fnExactFreeTransfersSpec)

/-- 'laws.FnExactSplitRevenue', WHERE WHAT IT READS IS OF BULK AT MOST 1048576: true; the input reads as it did. -/
def fnExactSplitRevenueUptoRow : OpenClaim := { program := "ytmmemadlnjjdmaa", sum := "8593637e2c15680f1df68c40c6b2fc359a408d679fcdccf4eb28bb5d4ff0f9bf", func := "loop.example/g00900/laws.FnExactSplitRevenue", spec := "fnExactSplitRevenue", unfollowed := true, recurses := true, apart := false, narrowed := true }
def FnExactSplitRevenueUptoSaid : Prop := fnExactSplitRevenueUptoRow.holds Try.pinned (OpenSpec.upto fnExactSplitRevenueSpec)

/-- 'laws.FnExactDailyCaps', WHERE WHAT IT READS IS OF BULK AT MOST 1048576: true; the input reads as it did. -/
def fnExactDailyCapsUptoRow : OpenClaim := { program := "ytmmemadlnjjdmaa", sum := "8593637e2c15680f1df68c40c6b2fc359a408d679fcdccf4eb28bb5d4ff0f9bf", func := "loop.example/g00900/laws.FnExactDailyCaps", spec := "fnExactDailyCaps", apart := false, narrowed := true }
def FnExactDailyCapsUptoSaid : Prop := fnExactDailyCapsUptoRow.holds Try.pinned (OpenSpec.upto fnExactDailyCapsSpec)

/-- 'laws.FnExactSwapDrivers', WHERE WHAT IT READS IS OF BULK AT MOST 1048576: true; the input reads as it did. -/
def fnExactSwapDriversUptoRow : OpenClaim := { program := "ytmmemadlnjjdmaa", sum := "8593637e2c15680f1df68c40c6b2fc359a408d679fcdccf4eb28bb5d4ff0f9bf", func := "loop.example/g00900/laws.FnExactSwapDrivers", spec := "fnExactSwapDrivers", apart := false, narrowed := true }
def FnExactSwapDriversUptoSaid : Prop := fnExactSwapDriversUptoRow.holds Try.pinned (OpenSpec.upto fnExactSwapDriversSpec)

/-- 'laws.FnExactFillDay', WHERE WHAT IT READS IS OF BULK AT MOST 1048576: true; the input reads as it did. -/
def fnExactFillDayUptoRow : OpenClaim := { program := "ytmmemadlnjjdmaa", sum := "8593637e2c15680f1df68c40c6b2fc359a408d679fcdccf4eb28bb5d4ff0f9bf", func := "loop.example/g00900/laws.FnExactFillDay", spec := "fnExactFillDay", unfollowed := true, recurses := true, apart := false, narrowed := true }
def FnExactFillDayUptoSaid : Prop := fnExactFillDayUptoRow.holds Try.pinned (OpenSpec.upto fnExactFillDaySpec)

end Rows
end Go.Proofs.Ytmmemadlnjjdmaa
