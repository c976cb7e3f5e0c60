/-
  No cell of these rows narrows 'for every input' (looked for: loops, veiled, ifaces, maps, wideKeys, modest, calm, conditions, laid).
  DERIVED. THE GIVEN ROWS OF THIS SEAT. 3 by the template 'for every input the law returns true; each argument reads behind the call as it read before'; 0 by the template 'total and deterministic' (their statements: YtmielcopoinkhaaTotals.lean).
  GIVEN WITH THE SEED: the statements are not yours to turn. If you find one false, say at which input.
  Laid BY PROGRAM, IN A SANDBOX (cutbox-rows.mjs): the forced cells as the released guide's own fill.sh prints them over the translation dc0b45142a7bc9d9… (all of the seat's roots in one cut). By AI agents, Wed Nov 11 2026. No macro, syntax, notation, axiom, sorry.
-/
import Derived.Test.YtmielcopoinkhaaChecked
import GoSem.Claim
import GoSem.ClaimJoined
import GoSem.ClaimMapViews
import Derived.JoinedTies
import Derived.KernelRfl
namespace Go.Proofs.Ytmielcopoinkhaa
/- THE CELL 'sum', in the pinned program and in every row, IS THE sha256 OF THE DUMP (.gsa) THAT YtmielcopoinkhaaProg.lean LOADS. Nothing in Lean hashes anything: it is a label: what it is worth is what the hold of that sum in a sandbox is worth. -/
noncomputable def Try.pinned : Pinned := { name := "ytmielcopoinkhaa", sum := "dc0b45142a7bc9d97fd5db1f7b826c1f70b1c066c786fbf1e03c729b9c12c103", checked := Try.checked }
namespace Rows
def none {H : Type} : Left H := { results := [], args := [] }

/-- 'laws.FnExactDailyCaps': WHATEVER THE INPUT: true; the input reads as it did. -/
def fnExactDailyCapsSpec : ChangeSpec := { name := "fnExactDailyCaps", fn := fun _ => fun
  | [d1, d2] => { results := [.lit (.bool true)], args := [d1, d2] }
  | _ => none }
def fnExactDailyCapsRow : OpenClaim := { program := "ytmielcopoinkhaa", sum := "dc0b45142a7bc9d97fd5db1f7b826c1f70b1c066c786fbf1e03c729b9c12c103", func := "loop.example/g00900/laws.FnExactDailyCaps", spec := "fnExactDailyCaps", apart := false }
def FnExactDailyCapsSaid : Prop := fnExactDailyCapsRow.holds Try.pinned (OpenSpec.ofChange fnExactDailyCapsSpec)

/-- ITS FALSE NEIGHBOUR: 'it returns false'. Refute it at one input. -/
def fnExactDailyCapsWrong : ChangeSpec := { name := "fnExactDailyCaps", fn := fun _ => fun
  | [d1, d2] => { results := [.lit (.bool false)], args := [d1, d2] }
  | _ => none }
def FnExactDailyCapsWrongFalsely : Prop := fnExactDailyCapsRow.holds Try.pinned (OpenSpec.ofChange fnExactDailyCapsWrong)

/-- 'laws.FnExactSwapDrivers': WHATEVER THE INPUT: true; the input reads as it did. -/
def fnExactSwapDriversSpec : ChangeSpec := { name := "fnExactSwapDrivers", fn := fun _ => fun
  | [d1, d2, d3, d4] => { results := [.lit (.bool true)], args := [d1, d2, d3, d4] }
  | _ => none }
def fnExactSwapDriversRow : OpenClaim := { program := "ytmielcopoinkhaa", sum := "dc0b45142a7bc9d97fd5db1f7b826c1f70b1c066c786fbf1e03c729b9c12c103", func := "loop.example/g00900/laws.FnExactSwapDrivers", spec := "fnExactSwapDrivers", apart := false }
def FnExactSwapDriversSaid : Prop := fnExactSwapDriversRow.holds Try.pinned (OpenSpec.ofChange fnExactSwapDriversSpec)

/-- ITS FALSE NEIGHBOUR: 'it returns false'. Refute it at one input. -/
def fnExactSwapDriversWrong : ChangeSpec := { name := "fnExactSwapDrivers", fn := fun _ => fun
  | [d1, d2, d3, d4] => { results := [.lit (.bool false)], args := [d1, d2, d3, d4] }
  | _ => none }
def FnExactSwapDriversWrongFalsely : Prop := fnExactSwapDriversRow.holds Try.pinned (OpenSpec.ofChange fnExactSwapDriversWrong)

/-- 'laws.FnExactFillDay': WHATEVER THE INPUT: true; the input reads as it did. -/
def fnExactFillDaySpec : ChangeSpec := { name := "fnExactFillDay", fn := fun _ => fun
  | [d1, d2] => { results := [.lit (.bool true)], args := [d1, d2] }
  | _ => none }
def fnExactFillDayRow : OpenClaim := { program := "ytmielcopoinkhaa", sum := "dc0b45142a7bc9d97fd5db1f7b826c1f70b1c066c786fbf1e03c729b9c12c103", func := "loop.example/g00900/laws.FnExactFillDay", spec := "fnExactFillDay", unfollowed := true, recurses := true, apart := false }
def FnExactFillDaySaid : Prop := fnExactFillDayRow.holds Try.pinned (OpenSpec.ofChange fnExactFillDaySpec)

/-- ITS FALSE NEIGHBOUR: 'it returns false'. Refute it at one input. -/
def fnExactFillDayWrong : ChangeSpec := { name := "fnExactFillDay", fn := fun _ => fun
  | [d1, d2] => { results := [.lit (.bool false)], args := [d1, d2] }
  | _ => none }
def FnExactFillDayWrongFalsely : Prop := fnExactFillDayRow.holds Try.pinned (OpenSpec.ofChange fnExactFillDayWrong)

/- THE SECOND FORM. 'bulk': how many values and letters a reading holds, each counted each time it is reached (what is shared counts as often as it is met; a slice's spare places count too). A statement '..UptoSaid' is the law's where the arguments, and the package variables that the reading takes, are together of bulk at most 1048576: NARROWER than '..Said'. Prove '..Said' where nothing that the law and all that it calls make is longer than what came in: it says more and counts as full. Else prove '..UptoSaid'. A law counts once. -/
mutual
def uptoBulk {H : Type} : DataW H → Nat
  | .lit (.string bytes) => bytes.length + 1
  | .lit _ => 1
  | .nil => 1
  | .ptr d => uptoBulk d + 1
  | .slice elems spare => uptoBulkAll elems + uptoBulkAll spare + 1
  | .agg parts => uptoBulkAll parts + 1
  | .iface _ d => uptoBulk d + 1
  | .map entries => uptoBulkEntries entries + 1
  | .held _ => 1
def uptoBulkAll {H : Type} : List (DataW H) → Nat
  | [] => 0
  | d :: r => uptoBulk d + uptoBulkAll r
def uptoBulkEntries {H : Type} : List (Lit × DataW H) → Nat
  | [] => 0
  | x :: r => uptoBulkEntry x + uptoBulkEntries r
def uptoBulkEntry {H : Type} : Lit × DataW H → Nat
  | (.string bytes, d) => bytes.length + uptoBulk d + 1
  | (_, d) => uptoBulk d + 1
 end
def uptoSmall : (H : Type) → List (DataW H) → Bool := fun _ ds => decide (uptoBulkAll ds ≤ 1048576)
def OpenSpec.upto (s : _root_.Go.ChangeSpec) : _root_.Go.OpenSpec := { _root_.Go.OpenSpec.ofChange s with cond := some uptoSmall }

/-- 'laws.FnExactDailyCaps', WHERE WHAT IT READS IS OF BULK AT MOST 1048576: true; the input reads as it did. -/
def fnExactDailyCapsUptoRow : OpenClaim := { program := "ytmielcopoinkhaa", sum := "dc0b45142a7bc9d97fd5db1f7b826c1f70b1c066c786fbf1e03c729b9c12c103", func := "loop.example/g00900/laws.FnExactDailyCaps", spec := "fnExactDailyCaps", apart := false, narrowed := true }
def FnExactDailyCapsUptoSaid : Prop := fnExactDailyCapsUptoRow.holds Try.pinned (OpenSpec.upto fnExactDailyCapsSpec)

/-- 'laws.FnExactSwapDrivers', WHERE WHAT IT READS IS OF BULK AT MOST 1048576: true; the input reads as it did. -/
def fnExactSwapDriversUptoRow : OpenClaim := { program := "ytmielcopoinkhaa", sum := "dc0b45142a7bc9d97fd5db1f7b826c1f70b1c066c786fbf1e03c729b9c12c103", func := "loop.example/g00900/laws.FnExactSwapDrivers", spec := "fnExactSwapDrivers", apart := false, narrowed := true }
def FnExactSwapDriversUptoSaid : Prop := fnExactSwapDriversUptoRow.holds Try.pinned (OpenSpec.upto fnExactSwapDriversSpec)

/-- 'laws.FnExactFillDay', WHERE WHAT IT READS IS OF BULK AT MOST 1048576: true; the input reads as it did. -/
def fnExactFillDayUptoRow : OpenClaim := { program := "ytmielcopoinkhaa", sum := "dc0b45142a7bc9d97fd5db1f7b826c1f70b1c066c786fbf1e03c729b9c12c103", func := "loop.example/g00900/laws.FnExactFillDay", spec := "fnExactFillDay", unfollowed := true, recurses := true, apart := false, narrowed := true }
def FnExactFillDayUptoSaid : Prop := fnExactFillDayUptoRow.holds Try.pinned (OpenSpec.upto fnExactFillDaySpec)

end Rows
end Go.Proofs.Ytmielcopoinkhaa
