/-
  No cell of these rows narrows 'for every input' (looked for: loops, veiled, ifaces, maps, wideKeys, modest, calm, conditions, laid).
  DERIVED. THE GIVEN ROWS OF THIS SEAT. 9 by the template 'for every input the law returns true; each argument reads behind the call as it read before'; 0 by the template 'total and deterministic' (their statements: YthpcbjkdlcadnaaTotals.lean).
  GIVEN WITH THE SEED: the statements are not yours to turn. If you find one false, say at which input.
  Laid BY PROGRAM, IN A SANDBOX (cutbox-rows.mjs): the forced cells as the released guide's own fill.sh prints them over the translation c114584c84adf5e3… (all of the seat's roots in one cut). By AI agents, Wed Nov 11 2026. No macro, syntax, notation, axiom, sorry.
-/
import Derived.Test.YthpcbjkdlcadnaaChecked
import GoSem.Claim
import GoSem.ClaimJoined
import GoSem.ClaimMapViews
import Derived.JoinedTies
import Derived.KernelRfl
namespace Go.Proofs.Ythpcbjkdlcadnaa
/- THE CELL 'sum', in the pinned program and in every row, IS THE sha256 OF THE DUMP (.gsa) THAT YthpcbjkdlcadnaaProg.lean LOADS. Nothing in Lean hashes anything: it is a label: what it is worth is what the hold of that sum in a sandbox is worth. -/
noncomputable def Try.pinned : Pinned := { name := "ythpcbjkdlcadnaa", sum := "c114584c84adf5e3bbce034329e0874cedb64a4d3a091f71232dfb9e91ec5293", checked := Try.checked }
namespace Rows
def none {H : Type} : Left H := { results := [], args := [] }

/-- 'laws.FnExactIsValidRuns': WHATEVER THE INPUT: true; the input reads as it did. -/
def fnExactIsValidRunsSpec : ChangeSpec := { name := "fnExactIsValidRuns", fn := fun _ => fun
  | [d1, d2] => { results := [.lit (.bool true)], args := [d1, d2] }
  | _ => none }
def fnExactIsValidRunsRow : OpenClaim := { program := "ythpcbjkdlcadnaa", sum := "c114584c84adf5e3bbce034329e0874cedb64a4d3a091f71232dfb9e91ec5293", func := "loop.example/g00900/laws.FnExactIsValidRuns", spec := "fnExactIsValidRuns", unfollowed := true, recurses := true, apart := false }
def FnExactIsValidRunsSaid : Prop := fnExactIsValidRunsRow.holds Try.pinned (OpenSpec.ofChange fnExactIsValidRunsSpec)

/-- ITS FALSE NEIGHBOUR: 'it returns false'. Refute it at one input. -/
def fnExactIsValidRunsWrong : ChangeSpec := { name := "fnExactIsValidRuns", fn := fun _ => fun
  | [d1, d2] => { results := [.lit (.bool false)], args := [d1, d2] }
  | _ => none }
def FnExactIsValidRunsWrongFalsely : Prop := fnExactIsValidRunsRow.holds Try.pinned (OpenSpec.ofChange fnExactIsValidRunsWrong)

/-- 'laws.FnExactPlannedRuns': WHATEVER THE INPUT: true; the input reads as it did. -/
def fnExactPlannedRunsSpec : ChangeSpec := { name := "fnExactPlannedRuns", fn := fun _ => fun
  | [d] => { results := [.lit (.bool true)], args := [d] }
  | _ => none }
def fnExactPlannedRunsRow : OpenClaim := { program := "ythpcbjkdlcadnaa", sum := "c114584c84adf5e3bbce034329e0874cedb64a4d3a091f71232dfb9e91ec5293", func := "loop.example/g00900/laws.FnExactPlannedRuns", spec := "fnExactPlannedRuns", apart := false }
def FnExactPlannedRunsSaid : Prop := fnExactPlannedRunsRow.holds Try.pinned (OpenSpec.ofChange fnExactPlannedRunsSpec)

/-- ITS FALSE NEIGHBOUR: 'it returns false'. Refute it at one input. -/
def fnExactPlannedRunsWrong : ChangeSpec := { name := "fnExactPlannedRuns", fn := fun _ => fun
  | [d] => { results := [.lit (.bool false)], args := [d] }
  | _ => none }
def FnExactPlannedRunsWrongFalsely : Prop := fnExactPlannedRunsRow.holds Try.pinned (OpenSpec.ofChange fnExactPlannedRunsWrong)

/-- 'laws.FnExactRunTimes': WHATEVER THE INPUT: true; the input reads as it did. -/
def fnExactRunTimesSpec : ChangeSpec := { name := "fnExactRunTimes", fn := fun _ => fun
  | [d1, d2, d3] => { results := [.lit (.bool true)], args := [d1, d2, d3] }
  | _ => none }
def fnExactRunTimesRow : OpenClaim := { program := "ythpcbjkdlcadnaa", sum := "c114584c84adf5e3bbce034329e0874cedb64a4d3a091f71232dfb9e91ec5293", func := "loop.example/g00900/laws.FnExactRunTimes", spec := "fnExactRunTimes", unfollowed := true, recurses := true, apart := false }
def FnExactRunTimesSaid : Prop := fnExactRunTimesRow.holds Try.pinned (OpenSpec.ofChange fnExactRunTimesSpec)

/-- ITS FALSE NEIGHBOUR: 'it returns false'. Refute it at one input. -/
def fnExactRunTimesWrong : ChangeSpec := { name := "fnExactRunTimes", fn := fun _ => fun
  | [d1, d2, d3] => { results := [.lit (.bool false)], args := [d1, d2, d3] }
  | _ => none }
def FnExactRunTimesWrongFalsely : Prop := fnExactRunTimesRow.holds Try.pinned (OpenSpec.ofChange fnExactRunTimesWrong)

/-- 'laws.FnExactHoldRun': WHATEVER THE INPUT: true; the input reads as it did. -/
def fnExactHoldRunSpec : ChangeSpec := { name := "fnExactHoldRun", fn := fun _ => fun
  | [d1, d2, d3, d4] => { results := [.lit (.bool true)], args := [d1, d2, d3, d4] }
  | _ => none }
def fnExactHoldRunRow : OpenClaim := { program := "ythpcbjkdlcadnaa", sum := "c114584c84adf5e3bbce034329e0874cedb64a4d3a091f71232dfb9e91ec5293", func := "loop.example/g00900/laws.FnExactHoldRun", spec := "fnExactHoldRun", unfollowed := true, recurses := true, apart := false }
def FnExactHoldRunSaid : Prop := fnExactHoldRunRow.holds Try.pinned (OpenSpec.ofChange fnExactHoldRunSpec)

/-- ITS FALSE NEIGHBOUR: 'it returns false'. Refute it at one input. -/
def fnExactHoldRunWrong : ChangeSpec := { name := "fnExactHoldRun", fn := fun _ => fun
  | [d1, d2, d3, d4] => { results := [.lit (.bool false)], args := [d1, d2, d3, d4] }
  | _ => none }
def FnExactHoldRunWrongFalsely : Prop := fnExactHoldRunRow.holds Try.pinned (OpenSpec.ofChange fnExactHoldRunWrong)

/-- 'laws.FnExactCancelRun': WHATEVER THE INPUT: true; the input reads as it did. -/
def fnExactCancelRunSpec : ChangeSpec := { name := "fnExactCancelRun", fn := fun _ => fun
  | [d1, d2, d3] => { results := [.lit (.bool true)], args := [d1, d2, d3] }
  | _ => none }
def fnExactCancelRunRow : OpenClaim := { program := "ythpcbjkdlcadnaa", sum := "c114584c84adf5e3bbce034329e0874cedb64a4d3a091f71232dfb9e91ec5293", func := "loop.example/g00900/laws.FnExactCancelRun", spec := "fnExactCancelRun", unfollowed := true, recurses := true, apart := false }
def FnExactCancelRunSaid : Prop := fnExactCancelRunRow.holds Try.pinned (OpenSpec.ofChange fnExactCancelRunSpec)

/-- ITS FALSE NEIGHBOUR: 'it returns false'. Refute it at one input. -/
def fnExactCancelRunWrong : ChangeSpec := { name := "fnExactCancelRun", fn := fun _ => fun
  | [d1, d2, d3] => { results := [.lit (.bool false)], args := [d1, d2, d3] }
  | _ => none }
def FnExactCancelRunWrongFalsely : Prop := fnExactCancelRunRow.holds Try.pinned (OpenSpec.ofChange fnExactCancelRunWrong)

/-- 'laws.FnExactLostCalls': WHATEVER THE INPUT: true; the input reads as it did. -/
def fnExactLostCallsSpec : ChangeSpec := { name := "fnExactLostCalls", fn := fun _ => fun
  | [d1, d2] => { results := [.lit (.bool true)], args := [d1, d2] }
  | _ => none }
def fnExactLostCallsRow : OpenClaim := { program := "ythpcbjkdlcadnaa", sum := "c114584c84adf5e3bbce034329e0874cedb64a4d3a091f71232dfb9e91ec5293", func := "loop.example/g00900/laws.FnExactLostCalls", spec := "fnExactLostCalls", unfollowed := true, recurses := true, apart := false }
def FnExactLostCallsSaid : Prop := fnExactLostCallsRow.holds Try.pinned (OpenSpec.ofChange fnExactLostCallsSpec)

/-- ITS FALSE NEIGHBOUR: 'it returns false'. Refute it at one input. -/
def fnExactLostCallsWrong : ChangeSpec := { name := "fnExactLostCalls", fn := fun _ => fun
  | [d1, d2] => { results := [.lit (.bool false)], args := [d1, d2] }
  | _ => none }
def FnExactLostCallsWrongFalsely : Prop := fnExactLostCallsRow.holds Try.pinned (OpenSpec.ofChange fnExactLostCallsWrong)

/-- 'laws.FnExactJoinLater': WHATEVER THE INPUT: true; the input reads as it did. -/
def fnExactJoinLaterSpec : ChangeSpec := { name := "fnExactJoinLater", fn := fun _ => fun
  | [d1, d2, d3, d4] => { results := [.lit (.bool true)], args := [d1, d2, d3, d4] }
  | _ => none }
def fnExactJoinLaterRow : OpenClaim := { program := "ythpcbjkdlcadnaa", sum := "c114584c84adf5e3bbce034329e0874cedb64a4d3a091f71232dfb9e91ec5293", func := "loop.example/g00900/laws.FnExactJoinLater", spec := "fnExactJoinLater", unfollowed := true, recurses := true, apart := false }
def FnExactJoinLaterSaid : Prop := fnExactJoinLaterRow.holds Try.pinned (OpenSpec.ofChange fnExactJoinLaterSpec)

/-- ITS FALSE NEIGHBOUR: 'it returns false'. Refute it at one input. -/
def fnExactJoinLaterWrong : ChangeSpec := { name := "fnExactJoinLater", fn := fun _ => fun
  | [d1, d2, d3, d4] => { results := [.lit (.bool false)], args := [d1, d2, d3, d4] }
  | _ => none }
def FnExactJoinLaterWrongFalsely : Prop := fnExactJoinLaterRow.holds Try.pinned (OpenSpec.ofChange fnExactJoinLaterWrong)

/-- 'laws.FnExactShortenRun': WHATEVER THE INPUT: true; the input reads as it did. -/
def fnExactShortenRunSpec : ChangeSpec := { name := "fnExactShortenRun", fn := fun _ => fun
  | [d1, d2, d3, d4] => { results := [.lit (.bool true)], args := [d1, d2, d3, d4] }
  | _ => none }
def fnExactShortenRunRow : OpenClaim := { program := "ythpcbjkdlcadnaa", sum := "c114584c84adf5e3bbce034329e0874cedb64a4d3a091f71232dfb9e91ec5293", func := "loop.example/g00900/laws.FnExactShortenRun", spec := "fnExactShortenRun", unfollowed := true, recurses := true, apart := false }
def FnExactShortenRunSaid : Prop := fnExactShortenRunRow.holds Try.pinned (OpenSpec.ofChange fnExactShortenRunSpec)

/-- ITS FALSE NEIGHBOUR: 'it returns false'. Refute it at one input. -/
def fnExactShortenRunWrong : ChangeSpec := { name := "fnExactShortenRun", fn := fun _ => fun
  | [d1, d2, d3, d4] => { results := [.lit (.bool false)], args := [d1, d2, d3, d4] }
  | _ => none }
def FnExactShortenRunWrongFalsely : Prop := fnExactShortenRunRow.holds Try.pinned (OpenSpec.ofChange fnExactShortenRunWrong)

/-- 'laws.FnExactLongestGap': WHATEVER THE INPUT: true; the input reads as it did. -/
def fnExactLongestGapSpec : ChangeSpec := { name := "fnExactLongestGap", fn := fun _ => fun
  | [d1, d2, d3, d4] => { results := [.lit (.bool true)], args := [d1, d2, d3, d4] }
  | _ => none }
def fnExactLongestGapRow : OpenClaim := { program := "ythpcbjkdlcadnaa", sum := "c114584c84adf5e3bbce034329e0874cedb64a4d3a091f71232dfb9e91ec5293", func := "loop.example/g00900/laws.FnExactLongestGap", spec := "fnExactLongestGap", unfollowed := true, recurses := true, apart := false }
def FnExactLongestGapSaid : Prop := fnExactLongestGapRow.holds Try.pinned (OpenSpec.ofChange fnExactLongestGapSpec)

/-- ITS FALSE NEIGHBOUR: 'it returns false'. Refute it at one input. -/
def fnExactLongestGapWrong : ChangeSpec := { name := "fnExactLongestGap", fn := fun _ => fun
  | [d1, d2, d3, d4] => { results := [.lit (.bool false)], args := [d1, d2, d3, d4] }
  | _ => none }
def FnExactLongestGapWrongFalsely : Prop := fnExactLongestGapRow.holds Try.pinned (OpenSpec.ofChange fnExactLongestGapWrong)

/- THE SECOND FORM. 'bulk': how many values and letters a reading holds, each counted each time it is reached (what is shared counts as often as it is met; a slice's spare places count too). A statement '..UptoSaid' is the law's where the arguments, and the package variables that the reading takes, are together of bulk at most 1048576: NARROWER than '..Said'. Prove '..Said' where nothing that the law and all that it calls make is longer than what came in: it says more and counts as full. Else prove '..UptoSaid'. A law counts once. -/
mutual
def uptoBulk {H : Type} : DataW H → Nat
  | .lit (.string bytes) => bytes.length + 1
  | .lit _ => 1
  | .nil => 1
  | .ptr d => uptoBulk d + 1
  | .slice elems spare => uptoBulkAll elems + uptoBulkAll spare + 1
  | .agg parts => uptoBulkAll parts + 1
  | .iface _ d => uptoBulk d + 1
  | .map entries => uptoBulkEntries entries + 1
  | .held _ => 1
def uptoBulkAll {H : Type} : List (DataW H) → Nat
  | [] => 0
  | d :: r => uptoBulk d + uptoBulkAll r
def uptoBulkEntries {H : Type} : List (Lit × DataW H) → Nat
  | [] => 0
  | x :: r => uptoBulkEntry x + uptoBulkEntries r
def uptoBulkEntry {H : Type} : Lit × DataW H → Nat
  | (.string bytes, d) => bytes.length + uptoBulk d + 1
  | (_, d) => uptoBulk d + 1
 end
def uptoSmall : (H : Type) → List (DataW H) → Bool := fun _ ds => decide (uptoBulkAll ds ≤ 1048576)
def OpenSpec.upto (s : _root_.Go.ChangeSpec) : _root_.Go.OpenSpec := { _root_.Go.OpenSpec.ofChange s with cond := some uptoSmall }

/-- 'laws.FnExactIsValidRuns', WHERE WHAT IT READS IS OF BULK AT MOST 1048576: true; the input reads as it did. -/
def fnExactIsValidRunsUptoRow : OpenClaim := { program := "ythpcbjkdlcadnaa", sum := "c114584c84adf5e3bbce034329e0874cedb64a4d3a091f71232dfb9e91ec5293", func := "loop.example/g00900/laws.FnExactIsValidRuns", spec := "fnExactIsValidRuns", unfollowed := true, recurses := true, apart := false, narrowed := true }
def FnExactIsValidRunsUptoSaid : Prop := fnExactIsValidRunsUptoRow.holds Try.pinned (OpenSpec.upto fnExactIsValidRunsSpec)

/-- 'laws.FnExactPlannedRuns', WHERE WHAT IT READS IS OF BULK AT MOST 1048576: true; the input reads as it did. -/
def fnExactPlannedRunsUptoRow : OpenClaim := { program := "ythpcbjkdlcadnaa", sum := "c114584c84adf5e3bbce034329e0874cedb64a4d3a091f71232dfb9e91ec5293", func := "loop.example/g00900/laws.FnExactPlannedRuns", spec := "fnExactPlannedRuns", apart := false, narrowed := true }
def FnExactPlannedRunsUptoSaid : Prop := fnExactPlannedRunsUptoRow.holds Try.pinned (OpenSpec.upto fnExactPlannedRunsSpec)

/-- 'laws.FnExactRunTimes', WHERE WHAT IT READS IS OF BULK AT MOST 1048576: true; the input reads as it did. -/
def fnExactRunTimesUptoRow : OpenClaim := { program := "ythpcbjkdlcadnaa", sum := "c114584c84adf5e3bbce034329e0874cedb64a4d3a091f71232dfb9e91ec5293", func := "loop.example/g00900/laws.FnExactRunTimes", spec := "fnExactRunTimes", unfollowed := true, recurses := true, apart := false, narrowed := true }
def FnExactRunTimesUptoSaid : Prop := fnExactRunTimesUptoRow.holds Try.pinned (OpenSpec.upto fnExactRunTimesSpec)

/-- 'laws.FnExactHoldRun', WHERE WHAT IT READS IS OF BULK AT MOST 1048576: true; the input reads as it did. -/
def fnExactHoldRunUptoRow : OpenClaim := { program := "ythpcbjkdlcadnaa", sum := "c114584c84adf5e3bbce034329e0874cedb64a4d3a091f71232dfb9e91ec5293", func := "loop.example/g00900/laws.FnExactHoldRun", spec := "fnExactHoldRun", unfollowed := true, recurses := true, apart := false, narrowed := true }
def FnExactHoldRunUptoSaid : Prop := fnExactHoldRunUptoRow.holds Try.pinned (OpenSpec.upto fnExactHoldRunSpec)

/-- 'laws.FnExactCancelRun', WHERE WHAT IT READS IS OF BULK AT MOST 1048576: true; the input reads as it did. -/
def fnExactCancelRunUptoRow : OpenClaim := { program := "ythpcbjkdlcadnaa", sum := "c114584c84adf5e3bbce034329e0874cedb64a4d3a091f71232dfb9e91ec5293", func := "loop.example/g00900/laws.FnExactCancelRun", spec := "fnExactCancelRun", unfollowed := true, recurses := true, apart := false, narrowed := true }
def FnExactCancelRunUptoSaid : Prop := fnExactCancelRunUptoRow.holds Try.pinned (OpenSpec.upto fnExactCancelRunSpec)

/-- 'laws.FnExactLostCalls', WHERE WHAT IT READS IS OF BULK AT MOST 1048576: true; the input reads as it did. -/
def fnExactLostCallsUptoRow : OpenClaim := { program := "ythpcbjkdlcadnaa", sum := "c114584c84adf5e3bbce034329e0874cedb64a4d3a091f71232dfb9e91ec5293", func := "loop.example/g00900/laws.FnExactLostCalls", spec := "fnExactLostCalls", unfollowed := true, recurses := true, apart := false, narrowed := true }
def FnExactLostCallsUptoSaid : Prop := fnExactLostCallsUptoRow.holds Try.pinned (OpenSpec.upto fnExactLostCallsSpec)

/-- 'laws.FnExactJoinLater', WHERE WHAT IT READS IS OF BULK AT MOST 1048576: true; the input reads as it did. -/
def fnExactJoinLaterUptoRow : OpenClaim := { program := "ythpcbjkdlcadnaa", sum := "c114584c84adf5e3bbce034329e0874cedb64a4d3a091f71232dfb9e91ec5293", func := "loop.example/g00900/laws.FnExactJoinLater", spec := "fnExactJoinLater", unfollowed := true, recurses := true, apart := false, narrowed := true }
def FnExactJoinLaterUptoSaid : Prop := fnExactJoinLaterUptoRow.holds Try.pinned (OpenSpec.upto fnExactJoinLaterSpec)

/-- 'laws.FnExactShortenRun', WHERE WHAT IT READS IS OF BULK AT MOST 1048576: true; the input reads as it did. -/
def fnExactShortenRunUptoRow : OpenClaim := { program := "ythpcbjkdlcadnaa", sum := "c114584c84adf5e3bbce034329e0874cedb64a4d3a091f71232dfb9e91ec5293", func := "loop.example/g00900/laws.FnExactShortenRun", spec := "fnExactShortenRun", unfollowed := true, recurses := true, apart := false, narrowed := true }
def FnExactShortenRunUptoSaid : Prop := fnExactShortenRunUptoRow.holds Try.pinned (OpenSpec.upto fnExactShortenRunSpec)

/-- 'laws.FnExactLongestGap', WHERE WHAT IT READS IS OF BULK AT MOST 1048576: true; the input reads as it did. -/
def fnExactLongestGapUptoRow : OpenClaim := { program := "ythpcbjkdlcadnaa", sum := "c114584c84adf5e3bbce034329e0874cedb64a4d3a091f71232dfb9e91ec5293", func := "loop.example/g00900/laws.FnExactLongestGap", spec := "fnExactLongestGap", unfollowed := true, recurses := true, apart := false, narrowed := true }
def FnExactLongestGapUptoSaid : Prop := fnExactLongestGapUptoRow.holds Try.pinned (OpenSpec.upto fnExactLongestGapSpec)

end Rows
end Go.Proofs.Ythpcbjkdlcadnaa
