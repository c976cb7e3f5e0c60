/-
  No cell of these rows narrows 'for every input' (looked for: loops, veiled, ifaces, maps, wideKeys, modest, calm, conditions, laid).
  DERIVED. THE GIVEN ROWS OF THIS SEAT. 3 by the template 'for every input the law returns true; each argument reads behind the call as it read before'; 0 by the template 'total and deterministic' (their statements: YtanlaggnhocjhaaTotals.lean).
  GIVEN WITH THE SEED: the statements are not yours to turn. If you find one false, say at which input.
  Laid BY PROGRAM, IN A SANDBOX (cutbox-rows.mjs): the forced cells as the released guide's own fill.sh prints them over the translation 7069786d87a4b90f… (all of the seat's roots in one cut). By AI agents, Wed Nov 11 2026. No macro, syntax, notation, axiom, sorry.
-/
import Derived.Test.YtanlaggnhocjhaaChecked
import GoSem.Claim
import GoSem.ClaimJoined
import GoSem.ClaimMapViews
import Derived.JoinedTies
import Derived.KernelRfl
namespace Go.Proofs.Ytanlaggnhocjhaa
/- THE CELL 'sum', in the pinned program and in every row, IS THE sha256 OF THE DUMP (.gsa) THAT YtanlaggnhocjhaaProg.lean LOADS. Nothing in Lean hashes anything: it is a label: what it is worth is what the hold of that sum in a sandbox is worth. -/
noncomputable def Try.pinned : Pinned := { name := "ytanlaggnhocjhaa", sum := "7069786d87a4b90f2fefb1188fbf952551822aa7f5e8df46351766422d67a30e", checked := Try.checked }
namespace Rows
def none {H : Type} : Left H := { results := [], args := [] }

/-- 'laws.FnExactSwapDrivers': WHATEVER THE INPUT: true; the input reads as it did. -/
def fnExactSwapDriversSpec : ChangeSpec := { name := "fnExactSwapDrivers", fn := fun _ => fun
  | [d1, d2, d3, d4] => { results := [.lit (.bool true)], args := [d1, d2, d3, d4] }
  | _ => none }
def fnExactSwapDriversRow : OpenClaim := { program := "ytanlaggnhocjhaa", sum := "7069786d87a4b90f2fefb1188fbf952551822aa7f5e8df46351766422d67a30e", func := "loop.example/g00900/laws.FnExactSwapDrivers", spec := "fnExactSwapDrivers", apart := false }
def FnExactSwapDriversSaid : Prop := fnExactSwapDriversRow.holds Try.pinned (OpenSpec.ofChange fnExactSwapDriversSpec)

/-- ITS FALSE NEIGHBOUR: 'it returns false'. Refute it at one input. -/
def fnExactSwapDriversWrong : ChangeSpec := { name := "fnExactSwapDrivers", fn := fun _ => fun
  | [d1, d2, d3, d4] => { results := [.lit (.bool false)], args := [d1, d2, d3, d4] }
  | _ => none }
def FnExactSwapDriversWrongFalsely : Prop := fnExactSwapDriversRow.holds Try.pinned (OpenSpec.ofChange fnExactSwapDriversWrong)

/-- 'laws.FnExactFillDay': WHATEVER THE INPUT: true; the input reads as it did. -/
def fnExactFillDaySpec : ChangeSpec := { name := "fnExactFillDay", fn := fun _ => fun
  | [d1, d2] => { results := [.lit (.bool true)], args := [d1, d2] }
  | _ => none }
def fnExactFillDayRow : OpenClaim := { program := "ytanlaggnhocjhaa", sum := "7069786d87a4b90f2fefb1188fbf952551822aa7f5e8df46351766422d67a30e", func := "loop.example/g00900/laws.FnExactFillDay", spec := "fnExactFillDay", unfollowed := true, recurses := true, apart := false }
def FnExactFillDaySaid : Prop := fnExactFillDayRow.holds Try.pinned (OpenSpec.ofChange fnExactFillDaySpec)

/-- ITS FALSE NEIGHBOUR: 'it returns false'. Refute it at one input. -/
def fnExactFillDayWrong : ChangeSpec := { name := "fnExactFillDay", fn := fun _ => fun
  | [d1, d2] => { results := [.lit (.bool false)], args := [d1, d2] }
  | _ => none }
def FnExactFillDayWrongFalsely : Prop := fnExactFillDayRow.holds Try.pinned (OpenSpec.ofChange fnExactFillDayWrong)

/-- 'laws.FnExactCheapestMinutes': WHATEVER THE INPUT: true; the input reads as it did. -/
def fnExactCheapestMinutesSpec : ChangeSpec := { name := "fnExactCheapestMinutes", fn := fun _ => fun
  | [d1, d2, d3, d4] => { results := [.lit (.bool true)], args := [d1, d2, d3, d4] }
  | _ => none }
def fnExactCheapestMinutesRow : OpenClaim := { program := "ytanlaggnhocjhaa", sum := "7069786d87a4b90f2fefb1188fbf952551822aa7f5e8df46351766422d67a30e", func := "loop.example/g00900/laws.FnExactCheapestMinutes", spec := "fnExactCheapestMinutes", unfollowed := true, recurses := true, apart := false }
def FnExactCheapestMinutesSaid : Prop := fnExactCheapestMinutesRow.holds Try.pinned (OpenSpec.ofChange fnExactCheapestMinutesSpec)

/-- ITS FALSE NEIGHBOUR: 'it returns false'. Refute it at one input. -/
def fnExactCheapestMinutesWrong : ChangeSpec := { name := "fnExactCheapestMinutes", fn := fun _ => fun
  | [d1, d2, d3, d4] => { results := [.lit (.bool false)], args := [d1, d2, d3, d4] }
  | _ => none }
def FnExactCheapestMinutesWrongFalsely : Prop := fnExactCheapestMinutesRow.holds Try.pinned (OpenSpec.ofChange fnExactCheapestMinutesWrong)

/- THE SECOND FORM. 'bulk': how many values and letters a reading holds, each counted each time it is reached (what is shared counts as often as it is met; a slice's spare places count too). A statement '..UptoSaid' is the law's where the arguments, and the package variables that the reading takes, are together of bulk at most 1048576: NARROWER than '..Said'. Prove '..Said' where nothing that the law and all that it calls make is longer than what came in: it says more and counts as full. Else prove '..UptoSaid'. A law counts once. -/
mutual
def uptoBulk {H : Type} : DataW H → Nat
  | .lit (.string bytes) => bytes.length + 1
  | .lit _ => 1
  | .nil => 1
  | .ptr d => uptoBulk d + 1
  | .slice elems spare => uptoBulkAll elems + uptoBulkAll spare + 1
  | .agg parts => uptoBulkAll parts + 1
  | .iface _ d => uptoBulk d + 1
  | .map entries => uptoBulkEntries entries + 1
  | .held _ => 1
def uptoBulkAll {H : Type} : List (DataW H) → Nat
  | [] => 0
  | d :: r => uptoBulk d + uptoBulkAll r
def uptoBulkEntries {H : Type} : List (Lit × DataW H) → Nat
  | [] => 0
  | x :: r => uptoBulkEntry x + uptoBulkEntries r
def uptoBulkEntry {H : Type} : Lit × DataW H → Nat
  | (.string bytes, d) => bytes.length + uptoBulk d + 1
  | (_, d) => uptoBulk d + 1
 end
def uptoSmall : (H : Type) → List (DataW H) → Bool := fun _ ds => decide (uptoBulkAll ds ≤ 1048576)
def OpenSpec.upto (s : _root_.Go.ChangeSpec) : _root_.Go.OpenSpec := { _root_.Go.OpenSpec.ofChange s with cond := some uptoSmall }

/-- 'laws.FnExactSwapDrivers', WHERE WHAT IT READS IS OF BULK AT MOST 1048576: true; the input reads as it did. -/
def fnExactSwapDriversUptoRow : OpenClaim := { program := "ytanlaggnhocjhaa", sum := "7069786d87a4b90f2fefb1188fbf952551822aa7f5e8df46351766422d67a30e", func := "loop.example/g00900/laws.FnExactSwapDrivers", spec := "fnExactSwapDrivers", apart := false, narrowed := true }
def FnExactSwapDriversUptoSaid : Prop := fnExactSwapDriversUptoRow.holds Try.pinned (OpenSpec.upto fnExactSwapDriversSpec)

/-- 'laws.FnExactFillDay', WHERE WHAT IT READS IS OF BULK AT MOST 1048576: true; the input reads as it did. -/
def fnExactFillDayUptoRow : OpenClaim := { program := "ytanlaggnhocjhaa", sum := "7069786d87a4b90f2fefb1188fbf952551822aa7f5e8df46351766422d67a30e", func := "loop.example/g00900/laws.FnExactFillDay", spec := "fnExactFillDay", unfollowed := true, recurses := true, apart := false, narrowed := true }
def FnExactFillDayUptoSaid : Prop := fnExactFillDayUptoRow.holds Try.pinned (OpenSpec.upto fnExactFillDaySpec)

/-- 'laws.FnExactCheapestMinutes', WHERE WHAT IT READS IS OF BULK AT MOST 1048576: true; the input reads as it did. -/
def fnExactCheapestMinutesUptoRow : OpenClaim := { program := "ytanlaggnhocjhaa", sum := "7069786d87a4b90f2fefb1188fbf952551822aa7f5e8df46351766422d67a30e", func := "loop.example/g00900/laws.FnExactCheapestMinutes", spec := "fnExactCheapestMinutes", unfollowed := true, recurses := true, apart := false, narrowed := true }
def FnExactCheapestMinutesUptoSaid : Prop := fnExactCheapestMinutesUptoRow.holds Try.pinned (OpenSpec.upto fnExactCheapestMinutesSpec)

end Rows
end Go.Proofs.Ytanlaggnhocjhaa
