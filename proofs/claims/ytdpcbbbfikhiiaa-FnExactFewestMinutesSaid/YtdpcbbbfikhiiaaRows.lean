/-
  No cell of these rows narrows 'for every input' (looked for: loops, veiled, ifaces, maps, wideKeys, modest, calm, conditions, laid).
  DERIVED. THE GIVEN ROWS OF THIS SEAT. 9 by the template 'for every input the law returns true; each argument reads behind the call as it read before'; 0 by the template 'total and deterministic' (their statements: YtdpcbbbfikhiiaaTotals.lean).
  GIVEN WITH THE SEED: the statements are not yours to turn. If you find one false, say at which input.
  Laid BY PROGRAM, IN A SANDBOX (cutbox-rows.mjs): the forced cells as the released guide's own fill.sh prints them over the translation 1313aa18d858f912… (all of the seat's roots in one cut). By AI agents, Wed Nov 11 2026. No macro, syntax, notation, axiom, sorry.
-/
import Derived.Test.YtdpcbbbfikhiiaaChecked
import GoSem.Claim
import GoSem.ClaimJoined
import GoSem.ClaimMapViews
import Derived.JoinedTies
import Derived.KernelRfl
namespace Go.Proofs.Ytdpcbbbfikhiiaa
/- THE CELL 'sum', in the pinned program and in every row, IS THE sha256 OF THE DUMP (.gsa) THAT YtdpcbbbfikhiiaaProg.lean LOADS. Nothing in Lean hashes anything: it is a label: what it is worth is what the hold of that sum in a sandbox is worth. -/
noncomputable def Try.pinned : Pinned := { name := "ytdpcbbbfikhiiaa", sum := "1313aa18d858f9128c94dfbbd7f9bf40a24d515dacf8844e36d1d779ad7c53fe", checked := Try.checked }
namespace Rows
def none {H : Type} : Left H := { results := [], args := [] }

/-- 'laws.FnExactRangeLeft': WHATEVER THE INPUT: true; the input reads as it did. -/
def fnExactRangeLeftSpec : ChangeSpec := { name := "fnExactRangeLeft", fn := fun _ => fun
  | [d1, d2, d3] => { results := [.lit (.bool true)], args := [d1, d2, d3] }
  | _ => none }
def fnExactRangeLeftRow : OpenClaim := { program := "ytdpcbbbfikhiiaa", sum := "1313aa18d858f9128c94dfbbd7f9bf40a24d515dacf8844e36d1d779ad7c53fe", func := "loop.example/g00900/laws.FnExactRangeLeft", spec := "fnExactRangeLeft", apart := false }
def FnExactRangeLeftSaid : Prop := fnExactRangeLeftRow.holds Try.pinned (OpenSpec.ofChange fnExactRangeLeftSpec)

/-- ITS FALSE NEIGHBOUR: 'it returns false'. Refute it at one input. -/
def fnExactRangeLeftWrong : ChangeSpec := { name := "fnExactRangeLeft", fn := fun _ => fun
  | [d1, d2, d3] => { results := [.lit (.bool false)], args := [d1, d2, d3] }
  | _ => none }
def FnExactRangeLeftWrongFalsely : Prop := fnExactRangeLeftRow.holds Try.pinned (OpenSpec.ofChange fnExactRangeLeftWrong)

/-- 'laws.FnExactIsValidLegs': WHATEVER THE INPUT: true; the input reads as it did. -/
def fnExactIsValidLegsSpec : ChangeSpec := { name := "fnExactIsValidLegs", fn := fun _ => fun
  | [d] => { results := [.lit (.bool true)], args := [d] }
  | _ => none }
def fnExactIsValidLegsRow : OpenClaim := { program := "ytdpcbbbfikhiiaa", sum := "1313aa18d858f9128c94dfbbd7f9bf40a24d515dacf8844e36d1d779ad7c53fe", func := "loop.example/g00900/laws.FnExactIsValidLegs", spec := "fnExactIsValidLegs", apart := false }
def FnExactIsValidLegsSaid : Prop := fnExactIsValidLegsRow.holds Try.pinned (OpenSpec.ofChange fnExactIsValidLegsSpec)

/-- ITS FALSE NEIGHBOUR: 'it returns false'. Refute it at one input. -/
def fnExactIsValidLegsWrong : ChangeSpec := { name := "fnExactIsValidLegs", fn := fun _ => fun
  | [d] => { results := [.lit (.bool false)], args := [d] }
  | _ => none }
def FnExactIsValidLegsWrongFalsely : Prop := fnExactIsValidLegsRow.holds Try.pinned (OpenSpec.ofChange fnExactIsValidLegsWrong)

/-- 'laws.FnExactChargerPeak': WHATEVER THE INPUT: true; the input reads as it did. -/
def fnExactChargerPeakSpec : ChangeSpec := { name := "fnExactChargerPeak", fn := fun _ => fun
  | [d] => { results := [.lit (.bool true)], args := [d] }
  | _ => none }
def fnExactChargerPeakRow : OpenClaim := { program := "ytdpcbbbfikhiiaa", sum := "1313aa18d858f9128c94dfbbd7f9bf40a24d515dacf8844e36d1d779ad7c53fe", func := "loop.example/g00900/laws.FnExactChargerPeak", spec := "fnExactChargerPeak", apart := false }
def FnExactChargerPeakSaid : Prop := fnExactChargerPeakRow.holds Try.pinned (OpenSpec.ofChange fnExactChargerPeakSpec)

/-- ITS FALSE NEIGHBOUR: 'it returns false'. Refute it at one input. -/
def fnExactChargerPeakWrong : ChangeSpec := { name := "fnExactChargerPeak", fn := fun _ => fun
  | [d] => { results := [.lit (.bool false)], args := [d] }
  | _ => none }
def FnExactChargerPeakWrongFalsely : Prop := fnExactChargerPeakRow.holds Try.pinned (OpenSpec.ofChange fnExactChargerPeakWrong)

/-- 'laws.FnExactChargeAlways': WHATEVER THE INPUT: true; the input reads as it did. -/
def fnExactChargeAlwaysSpec : ChangeSpec := { name := "fnExactChargeAlways", fn := fun _ => fun
  | [d1, d2, d3] => { results := [.lit (.bool true)], args := [d1, d2, d3] }
  | _ => none }
def fnExactChargeAlwaysRow : OpenClaim := { program := "ytdpcbbbfikhiiaa", sum := "1313aa18d858f9128c94dfbbd7f9bf40a24d515dacf8844e36d1d779ad7c53fe", func := "loop.example/g00900/laws.FnExactChargeAlways", spec := "fnExactChargeAlways", apart := false }
def FnExactChargeAlwaysSaid : Prop := fnExactChargeAlwaysRow.holds Try.pinned (OpenSpec.ofChange fnExactChargeAlwaysSpec)

/-- ITS FALSE NEIGHBOUR: 'it returns false'. Refute it at one input. -/
def fnExactChargeAlwaysWrong : ChangeSpec := { name := "fnExactChargeAlways", fn := fun _ => fun
  | [d1, d2, d3] => { results := [.lit (.bool false)], args := [d1, d2, d3] }
  | _ => none }
def FnExactChargeAlwaysWrongFalsely : Prop := fnExactChargeAlwaysRow.holds Try.pinned (OpenSpec.ofChange fnExactChargeAlwaysWrong)

/-- 'laws.FnExactFirstEmpty': WHATEVER THE INPUT: true; the input reads as it did. -/
def fnExactFirstEmptySpec : ChangeSpec := { name := "fnExactFirstEmpty", fn := fun _ => fun
  | [d1, d2, d3, d4] => { results := [.lit (.bool true)], args := [d1, d2, d3, d4] }
  | _ => none }
def fnExactFirstEmptyRow : OpenClaim := { program := "ytdpcbbbfikhiiaa", sum := "1313aa18d858f9128c94dfbbd7f9bf40a24d515dacf8844e36d1d779ad7c53fe", func := "loop.example/g00900/laws.FnExactFirstEmpty", spec := "fnExactFirstEmpty", unfollowed := true, recurses := true, apart := false }
def FnExactFirstEmptySaid : Prop := fnExactFirstEmptyRow.holds Try.pinned (OpenSpec.ofChange fnExactFirstEmptySpec)

/-- ITS FALSE NEIGHBOUR: 'it returns false'. Refute it at one input. -/
def fnExactFirstEmptyWrong : ChangeSpec := { name := "fnExactFirstEmpty", fn := fun _ => fun
  | [d1, d2, d3, d4] => { results := [.lit (.bool false)], args := [d1, d2, d3, d4] }
  | _ => none }
def FnExactFirstEmptyWrongFalsely : Prop := fnExactFirstEmptyRow.holds Try.pinned (OpenSpec.ofChange fnExactFirstEmptyWrong)

/-- 'laws.FnExactLevelsAfter': WHATEVER THE INPUT: true; the input reads as it did. -/
def fnExactLevelsAfterSpec : ChangeSpec := { name := "fnExactLevelsAfter", fn := fun _ => fun
  | [d1, d2, d3, d4] => { results := [.lit (.bool true)], args := [d1, d2, d3, d4] }
  | _ => none }
def fnExactLevelsAfterRow : OpenClaim := { program := "ytdpcbbbfikhiiaa", sum := "1313aa18d858f9128c94dfbbd7f9bf40a24d515dacf8844e36d1d779ad7c53fe", func := "loop.example/g00900/laws.FnExactLevelsAfter", spec := "fnExactLevelsAfter", apart := false }
def FnExactLevelsAfterSaid : Prop := fnExactLevelsAfterRow.holds Try.pinned (OpenSpec.ofChange fnExactLevelsAfterSpec)

/-- ITS FALSE NEIGHBOUR: 'it returns false'. Refute it at one input. -/
def fnExactLevelsAfterWrong : ChangeSpec := { name := "fnExactLevelsAfter", fn := fun _ => fun
  | [d1, d2, d3, d4] => { results := [.lit (.bool false)], args := [d1, d2, d3, d4] }
  | _ => none }
def FnExactLevelsAfterWrongFalsely : Prop := fnExactLevelsAfterRow.holds Try.pinned (OpenSpec.ofChange fnExactLevelsAfterWrong)

/-- 'laws.FnExactFewestMinutes': WHATEVER THE INPUT: true; the input reads as it did. -/
def fnExactFewestMinutesSpec : ChangeSpec := { name := "fnExactFewestMinutes", fn := fun _ => fun
  | [d1, d2, d3] => { results := [.lit (.bool true)], args := [d1, d2, d3] }
  | _ => none }
def fnExactFewestMinutesRow : OpenClaim := { program := "ytdpcbbbfikhiiaa", sum := "1313aa18d858f9128c94dfbbd7f9bf40a24d515dacf8844e36d1d779ad7c53fe", func := "loop.example/g00900/laws.FnExactFewestMinutes", spec := "fnExactFewestMinutes", unfollowed := true, recurses := true, apart := false }
def FnExactFewestMinutesSaid : Prop := fnExactFewestMinutesRow.holds Try.pinned (OpenSpec.ofChange fnExactFewestMinutesSpec)

/-- ITS FALSE NEIGHBOUR: 'it returns false'. Refute it at one input. -/
def fnExactFewestMinutesWrong : ChangeSpec := { name := "fnExactFewestMinutes", fn := fun _ => fun
  | [d1, d2, d3] => { results := [.lit (.bool false)], args := [d1, d2, d3] }
  | _ => none }
def FnExactFewestMinutesWrongFalsely : Prop := fnExactFewestMinutesRow.holds Try.pinned (OpenSpec.ofChange fnExactFewestMinutesWrong)

/-- 'laws.FnExactChargerQueue': WHATEVER THE INPUT: true; the input reads as it did. -/
def fnExactChargerQueueSpec : ChangeSpec := { name := "fnExactChargerQueue", fn := fun _ => fun
  | [d1, d2] => { results := [.lit (.bool true)], args := [d1, d2] }
  | _ => none }
def fnExactChargerQueueRow : OpenClaim := { program := "ytdpcbbbfikhiiaa", sum := "1313aa18d858f9128c94dfbbd7f9bf40a24d515dacf8844e36d1d779ad7c53fe", func := "loop.example/g00900/laws.FnExactChargerQueue", spec := "fnExactChargerQueue", unfollowed := true, recurses := true, apart := false }
def FnExactChargerQueueSaid : Prop := fnExactChargerQueueRow.holds Try.pinned (OpenSpec.ofChange fnExactChargerQueueSpec)

/-- ITS FALSE NEIGHBOUR: 'it returns false'. Refute it at one input. -/
def fnExactChargerQueueWrong : ChangeSpec := { name := "fnExactChargerQueue", fn := fun _ => fun
  | [d1, d2] => { results := [.lit (.bool false)], args := [d1, d2] }
  | _ => none }
def FnExactChargerQueueWrongFalsely : Prop := fnExactChargerQueueRow.holds Try.pinned (OpenSpec.ofChange fnExactChargerQueueWrong)

/-- 'laws.FnExactCheapestMinutes': WHATEVER THE INPUT: true; the input reads as it did. -/
def fnExactCheapestMinutesSpec : ChangeSpec := { name := "fnExactCheapestMinutes", fn := fun _ => fun
  | [d1, d2, d3, d4] => { results := [.lit (.bool true)], args := [d1, d2, d3, d4] }
  | _ => none }
def fnExactCheapestMinutesRow : OpenClaim := { program := "ytdpcbbbfikhiiaa", sum := "1313aa18d858f9128c94dfbbd7f9bf40a24d515dacf8844e36d1d779ad7c53fe", func := "loop.example/g00900/laws.FnExactCheapestMinutes", spec := "fnExactCheapestMinutes", unfollowed := true, recurses := true, apart := false }
def FnExactCheapestMinutesSaid : Prop := fnExactCheapestMinutesRow.holds Try.pinned (OpenSpec.ofChange fnExactCheapestMinutesSpec)

/-- ITS FALSE NEIGHBOUR: 'it returns false'. Refute it at one input. -/
def fnExactCheapestMinutesWrong : ChangeSpec := { name := "fnExactCheapestMinutes", fn := fun _ => fun
  | [d1, d2, d3, d4] => { results := [.lit (.bool false)], args := [d1, d2, d3, d4] }
  | _ => none }
def FnExactCheapestMinutesWrongFalsely : Prop := fnExactCheapestMinutesRow.holds Try.pinned (OpenSpec.ofChange fnExactCheapestMinutesWrong)

/- THE SECOND FORM. 'bulk': how many values and letters a reading holds, each counted each time it is reached (what is shared counts as often as it is met; a slice's spare places count too). A statement '..UptoSaid' is the law's where the arguments, and the package variables that the reading takes, are together of bulk at most 1048576: NARROWER than '..Said'. Prove '..Said' where nothing that the law and all that it calls make is longer than what came in: it says more and counts as full. Else prove '..UptoSaid'. A law counts once. -/
mutual
def uptoBulk {H : Type} : DataW H → Nat
  | .lit (.string bytes) => bytes.length + 1
  | .lit _ => 1
  | .nil => 1
  | .ptr d => uptoBulk d + 1
  | .slice elems spare => uptoBulkAll elems + uptoBulkAll spare + 1
  | .agg parts => uptoBulkAll parts + 1
  | .iface _ d => uptoBulk d + 1
  | .map entries => uptoBulkEntries entries + 1
  | .held _ => 1
def uptoBulkAll {H : Type} : List (DataW H) → Nat
  | [] => 0
  | d :: r => uptoBulk d + uptoBulkAll r
def uptoBulkEntries {H : Type} : List (Lit × DataW H) → Nat
  | [] => 0
  | x :: r => uptoBulkEntry x + uptoBulkEntries r
def uptoBulkEntry {H : Type} : Lit × DataW H → Nat
  | (.string bytes, d) => bytes.length + uptoBulk d + 1
  | (_, d) => uptoBulk d + 1
 end
def uptoSmall : (H : Type) → List (DataW H) → Bool := fun _ ds => decide (uptoBulkAll ds ≤ 1048576)
def OpenSpec.upto (s : _root_.Go.ChangeSpec) : _root_.Go.OpenSpec := { _root_.Go.OpenSpec.ofChange s with cond := some uptoSmall }

/-- 'laws.FnExactRangeLeft', WHERE WHAT IT READS IS OF BULK AT MOST 1048576: true; the input reads as it did. -/
def fnExactRangeLeftUptoRow : OpenClaim := { program := "ytdpcbbbfikhiiaa", sum := "1313aa18d858f9128c94dfbbd7f9bf40a24d515dacf8844e36d1d779ad7c53fe", func := "loop.example/g00900/laws.FnExactRangeLeft", spec := "fnExactRangeLeft", apart := false, narrowed := true }
def FnExactRangeLeftUptoSaid : Prop := fnExactRangeLeftUptoRow.holds Try.pinned (OpenSpec.upto fnExactRangeLeftSpec)

/-- 'laws.FnExactIsValidLegs', WHERE WHAT IT READS IS OF BULK AT MOST 1048576: true; the input reads as it did. -/
def fnExactIsValidLegsUptoRow : OpenClaim := { program := "ytdpcbbbfikhiiaa", sum := "1313aa18d858f9128c94dfbbd7f9bf40a24d515dacf8844e36d1d779ad7c53fe", func := "loop.example/g00900/laws.FnExactIsValidLegs", spec := "fnExactIsValidLegs", apart := false, narrowed := true }
def FnExactIsValidLegsUptoSaid : Prop := fnExactIsValidLegsUptoRow.holds Try.pinned (OpenSpec.upto fnExactIsValidLegsSpec)

/-- 'laws.FnExactChargerPeak', WHERE WHAT IT READS IS OF BULK AT MOST 1048576: true; the input reads as it did. -/
def fnExactChargerPeakUptoRow : OpenClaim := { program := "ytdpcbbbfikhiiaa", sum := "1313aa18d858f9128c94dfbbd7f9bf40a24d515dacf8844e36d1d779ad7c53fe", func := "loop.example/g00900/laws.FnExactChargerPeak", spec := "fnExactChargerPeak", apart := false, narrowed := true }
def FnExactChargerPeakUptoSaid : Prop := fnExactChargerPeakUptoRow.holds Try.pinned (OpenSpec.upto fnExactChargerPeakSpec)

/-- 'laws.FnExactChargeAlways', WHERE WHAT IT READS IS OF BULK AT MOST 1048576: true; the input reads as it did. -/
def fnExactChargeAlwaysUptoRow : OpenClaim := { program := "ytdpcbbbfikhiiaa", sum := "1313aa18d858f9128c94dfbbd7f9bf40a24d515dacf8844e36d1d779ad7c53fe", func := "loop.example/g00900/laws.FnExactChargeAlways", spec := "fnExactChargeAlways", apart := false, narrowed := true }
def FnExactChargeAlwaysUptoSaid : Prop := fnExactChargeAlwaysUptoRow.holds Try.pinned (OpenSpec.upto fnExactChargeAlwaysSpec)

/-- 'laws.FnExactFirstEmpty', WHERE WHAT IT READS IS OF BULK AT MOST 1048576: true; the input reads as it did. -/
def fnExactFirstEmptyUptoRow : OpenClaim := { program := "ytdpcbbbfikhiiaa", sum := "1313aa18d858f9128c94dfbbd7f9bf40a24d515dacf8844e36d1d779ad7c53fe", func := "loop.example/g00900/laws.FnExactFirstEmpty", spec := "fnExactFirstEmpty", unfollowed := true, recurses := true, apart := false, narrowed := true }
def FnExactFirstEmptyUptoSaid : Prop := fnExactFirstEmptyUptoRow.holds Try.pinned (OpenSpec.upto fnExactFirstEmptySpec)

/-- 'laws.FnExactLevelsAfter', WHERE WHAT IT READS IS OF BULK AT MOST 1048576: true; the input reads as it did. -/
def fnExactLevelsAfterUptoRow : OpenClaim := { program := "ytdpcbbbfikhiiaa", sum := "1313aa18d858f9128c94dfbbd7f9bf40a24d515dacf8844e36d1d779ad7c53fe", func := "loop.example/g00900/laws.FnExactLevelsAfter", spec := "fnExactLevelsAfter", apart := false, narrowed := true }
def FnExactLevelsAfterUptoSaid : Prop := fnExactLevelsAfterUptoRow.holds Try.pinned (OpenSpec.upto fnExactLevelsAfterSpec)

/-- 'laws.FnExactFewestMinutes', WHERE WHAT IT READS IS OF BULK AT MOST 1048576: true; the input reads as it did. -/
def fnExactFewestMinutesUptoRow : OpenClaim := { program := "ytdpcbbbfikhiiaa", sum := "1313aa18d858f9128c94dfbbd7f9bf40a24d515dacf8844e36d1d779ad7c53fe", func := "loop.example/g00900/laws.FnExactFewestMinutes", spec := "fnExactFewestMinutes", unfollowed := true, recurses := true, apart := false, narrowed := true }
def FnExactFewestMinutesUptoSaid : Prop := fnExactFewestMinutesUptoRow.holds Try.pinned (OpenSpec.upto fnExactFewestMinutesSpec)

/-- 'laws.FnExactChargerQueue', WHERE WHAT IT READS IS OF BULK AT MOST 1048576: true; the input reads as it did. -/
def fnExactChargerQueueUptoRow : OpenClaim := { program := "ytdpcbbbfikhiiaa", sum := "1313aa18d858f9128c94dfbbd7f9bf40a24d515dacf8844e36d1d779ad7c53fe", func := "loop.example/g00900/laws.FnExactChargerQueue", spec := "fnExactChargerQueue", unfollowed := true, recurses := true, apart := false, narrowed := true }
def FnExactChargerQueueUptoSaid : Prop := fnExactChargerQueueUptoRow.holds Try.pinned (OpenSpec.upto fnExactChargerQueueSpec)

/-- 'laws.FnExactCheapestMinutes', WHERE WHAT IT READS IS OF BULK AT MOST 1048576: true; the input reads as it did. -/
def fnExactCheapestMinutesUptoRow : OpenClaim := { program := "ytdpcbbbfikhiiaa", sum := "1313aa18d858f9128c94dfbbd7f9bf40a24d515dacf8844e36d1d779ad7c53fe", func := "loop.example/g00900/laws.FnExactCheapestMinutes", spec := "fnExactCheapestMinutes", unfollowed := true, recurses := true, apart := false, narrowed := true }
def FnExactCheapestMinutesUptoSaid : Prop := fnExactCheapestMinutesUptoRow.holds Try.pinned (OpenSpec.upto fnExactCheapestMinutesSpec)

end Rows
end Go.Proofs.Ytdpcbbbfikhiiaa
