/-
  No cell of these rows narrows 'for every input' (looked for: loops, veiled, ifaces, maps, wideKeys, modest, calm, conditions, laid).
  DERIVED. THE GIVEN ROWS OF THIS SEAT. 6 by the template 'for every input the law returns true; each argument reads behind the call as it read before'; 0 by the template 'total and deterministic' (their statements: YtkbanalfnhhojaaGreatTotals.lean).
  GIVEN WITH THE SEED: the statements are not yours to turn. If you find one false, say at which input.
  Laid BY PROGRAM, IN A SANDBOX (cutbox-rows.mjs): the forced cells as the released guide's own fill.sh prints them over the translation 5d6c3f2d2487d755… (all of the seat's roots in one cut). By AI agents, Wed Nov 11 2026. No macro, syntax, notation, axiom, sorry.
-/
import Derived.Test.YtkbanalfnhhojaaGreatChecked
import GoSem.Claim
import GoSem.ClaimJoined
import GoSem.ClaimMapViews
import Derived.JoinedTies
import Derived.KernelRfl
namespace Go.Proofs.YtkbanalfnhhojaaGreat
/- THE CELL 'sum', in the pinned program and in every row, IS THE sha256 OF THE DUMP (.gsa) THAT YtkbanalfnhhojaaGreatProg.lean LOADS. Nothing in Lean hashes anything: it is a label: what it is worth is what the hold of that sum in a sandbox is worth. -/
noncomputable def Tryz.pinned : Pinned := { name := "ytkbanalfnhhojaagreat", sum := "5d6c3f2d2487d755a598d29a88282602388fd2fb77f61d05e5962a63f1541a94", checked := Tryz.checked }
namespace Rows
def none {H : Type} : Left H := { results := [], args := [] }

/-- 'laws.FnExactKeptBlocks': WHATEVER THE INPUT: true; the input reads as it did. -/
def fnExactKeptBlocksSpec : ChangeSpec := { name := "fnExactKeptBlocks", fn := fun _ => fun
  | [d1, d2, d3, d4] => { results := [.lit (.bool true)], args := [d1, d2, d3, d4] }
  | _ => none }
def fnExactKeptBlocksRow : OpenClaim := { program := "ytkbanalfnhhojaagreat", sum := "5d6c3f2d2487d755a598d29a88282602388fd2fb77f61d05e5962a63f1541a94", func := "loop.example/g00900/laws.FnExactKeptBlocks", spec := "fnExactKeptBlocks", unfollowed := true, recurses := true, apart := false }
def FnExactKeptBlocksSaid : Prop := fnExactKeptBlocksRow.holds Tryz.pinned (OpenSpec.ofChange fnExactKeptBlocksSpec)

/-- ITS FALSE NEIGHBOUR: 'it returns false'. Refute it at one input. -/
def fnExactKeptBlocksWrong : ChangeSpec := { name := "fnExactKeptBlocks", fn := fun _ => fun
  | [d1, d2, d3, d4] => { results := [.lit (.bool false)], args := [d1, d2, d3, d4] }
  | _ => none }
def FnExactKeptBlocksWrongFalsely : Prop := fnExactKeptBlocksRow.holds Tryz.pinned (OpenSpec.ofChange fnExactKeptBlocksWrong)

/-- 'laws.FnExactChoiceDelays': WHATEVER THE INPUT: true; the input reads as it did. -/
def fnExactChoiceDelaysSpec : ChangeSpec := { name := "fnExactChoiceDelays", fn := fun _ => fun
  | [d1, d2, d3, d4, d5] => { results := [.lit (.bool true)], args := [d1, d2, d3, d4, d5] }
  | _ => none }
def fnExactChoiceDelaysRow : OpenClaim := { program := "ytkbanalfnhhojaagreat", sum := "5d6c3f2d2487d755a598d29a88282602388fd2fb77f61d05e5962a63f1541a94", func := "loop.example/g00900/laws.FnExactChoiceDelays", spec := "fnExactChoiceDelays", unfollowed := true, recurses := true, apart := false }
def FnExactChoiceDelaysSaid : Prop := fnExactChoiceDelaysRow.holds Tryz.pinned (OpenSpec.ofChange fnExactChoiceDelaysSpec)

/-- ITS FALSE NEIGHBOUR: 'it returns false'. Refute it at one input. -/
def fnExactChoiceDelaysWrong : ChangeSpec := { name := "fnExactChoiceDelays", fn := fun _ => fun
  | [d1, d2, d3, d4, d5] => { results := [.lit (.bool false)], args := [d1, d2, d3, d4, d5] }
  | _ => none }
def FnExactChoiceDelaysWrongFalsely : Prop := fnExactChoiceDelaysRow.holds Tryz.pinned (OpenSpec.ofChange fnExactChoiceDelaysWrong)

/-- 'laws.FnExactChoiceCost': WHATEVER THE INPUT: true; the input reads as it did. -/
def fnExactChoiceCostSpec : ChangeSpec := { name := "fnExactChoiceCost", fn := fun _ => fun
  | [d1, d2, d3, d4, d5, d6] => { results := [.lit (.bool true)], args := [d1, d2, d3, d4, d5, d6] }
  | _ => none }
def fnExactChoiceCostRow : OpenClaim := { program := "ytkbanalfnhhojaagreat", sum := "5d6c3f2d2487d755a598d29a88282602388fd2fb77f61d05e5962a63f1541a94", func := "loop.example/g00900/laws.FnExactChoiceCost", spec := "fnExactChoiceCost", unfollowed := true, recurses := true, apart := false }
def FnExactChoiceCostSaid : Prop := fnExactChoiceCostRow.holds Tryz.pinned (OpenSpec.ofChange fnExactChoiceCostSpec)

/-- ITS FALSE NEIGHBOUR: 'it returns false'. Refute it at one input. -/
def fnExactChoiceCostWrong : ChangeSpec := { name := "fnExactChoiceCost", fn := fun _ => fun
  | [d1, d2, d3, d4, d5, d6] => { results := [.lit (.bool false)], args := [d1, d2, d3, d4, d5, d6] }
  | _ => none }
def FnExactChoiceCostWrongFalsely : Prop := fnExactChoiceCostRow.holds Tryz.pinned (OpenSpec.ofChange fnExactChoiceCostWrong)

/-- 'laws.FnExactSavedBy': WHATEVER THE INPUT: true; the input reads as it did. -/
def fnExactSavedBySpec : ChangeSpec := { name := "fnExactSavedBy", fn := fun _ => fun
  | [d1, d2, d3, d4, d5, d6] => { results := [.lit (.bool true)], args := [d1, d2, d3, d4, d5, d6] }
  | _ => none }
def fnExactSavedByRow : OpenClaim := { program := "ytkbanalfnhhojaagreat", sum := "5d6c3f2d2487d755a598d29a88282602388fd2fb77f61d05e5962a63f1541a94", func := "loop.example/g00900/laws.FnExactSavedBy", spec := "fnExactSavedBy", unfollowed := true, recurses := true, apart := false }
def FnExactSavedBySaid : Prop := fnExactSavedByRow.holds Tryz.pinned (OpenSpec.ofChange fnExactSavedBySpec)

/-- ITS FALSE NEIGHBOUR: 'it returns false'. Refute it at one input. -/
def fnExactSavedByWrong : ChangeSpec := { name := "fnExactSavedBy", fn := fun _ => fun
  | [d1, d2, d3, d4, d5, d6] => { results := [.lit (.bool false)], args := [d1, d2, d3, d4, d5, d6] }
  | _ => none }
def FnExactSavedByWrongFalsely : Prop := fnExactSavedByRow.holds Tryz.pinned (OpenSpec.ofChange fnExactSavedByWrong)

/-- 'laws.FnExactPassengerDelay': WHATEVER THE INPUT: true; the input reads as it did. -/
def fnExactPassengerDelaySpec : ChangeSpec := { name := "fnExactPassengerDelay", fn := fun _ => fun
  | [d1, d2, d3, d4, d5, d6, d7] => { results := [.lit (.bool true)], args := [d1, d2, d3, d4, d5, d6, d7] }
  | _ => none }
def fnExactPassengerDelayRow : OpenClaim := { program := "ytkbanalfnhhojaagreat", sum := "5d6c3f2d2487d755a598d29a88282602388fd2fb77f61d05e5962a63f1541a94", func := "loop.example/g00900/laws.FnExactPassengerDelay", spec := "fnExactPassengerDelay", unfollowed := true, recurses := true, apart := false }
def FnExactPassengerDelaySaid : Prop := fnExactPassengerDelayRow.holds Tryz.pinned (OpenSpec.ofChange fnExactPassengerDelaySpec)

/-- ITS FALSE NEIGHBOUR: 'it returns false'. Refute it at one input. -/
def fnExactPassengerDelayWrong : ChangeSpec := { name := "fnExactPassengerDelay", fn := fun _ => fun
  | [d1, d2, d3, d4, d5, d6, d7] => { results := [.lit (.bool false)], args := [d1, d2, d3, d4, d5, d6, d7] }
  | _ => none }
def FnExactPassengerDelayWrongFalsely : Prop := fnExactPassengerDelayRow.holds Tryz.pinned (OpenSpec.ofChange fnExactPassengerDelayWrong)

/-- 'laws.FnExactBestChoice': WHATEVER THE INPUT: true; the input reads as it did. -/
def fnExactBestChoiceSpec : ChangeSpec := { name := "fnExactBestChoice", fn := fun _ => fun
  | [d1, d2, d3, d4, d5] => { results := [.lit (.bool true)], args := [d1, d2, d3, d4, d5] }
  | _ => none }
def fnExactBestChoiceRow : OpenClaim := { program := "ytkbanalfnhhojaagreat", sum := "5d6c3f2d2487d755a598d29a88282602388fd2fb77f61d05e5962a63f1541a94", func := "loop.example/g00900/laws.FnExactBestChoice", spec := "fnExactBestChoice", unfollowed := true, recurses := true, apart := false }
def FnExactBestChoiceSaid : Prop := fnExactBestChoiceRow.holds Tryz.pinned (OpenSpec.ofChange fnExactBestChoiceSpec)

/-- ITS FALSE NEIGHBOUR: 'it returns false'. Refute it at one input. -/
def fnExactBestChoiceWrong : ChangeSpec := { name := "fnExactBestChoice", fn := fun _ => fun
  | [d1, d2, d3, d4, d5] => { results := [.lit (.bool false)], args := [d1, d2, d3, d4, d5] }
  | _ => none }
def FnExactBestChoiceWrongFalsely : Prop := fnExactBestChoiceRow.holds Tryz.pinned (OpenSpec.ofChange fnExactBestChoiceWrong)

/- THE SECOND FORM. 'bulk': how many values and letters a reading holds, each counted each time it is reached (what is shared counts as often as it is met; a slice's spare places count too). A statement '..UptoSaid' is the law's where the arguments, and the package variables that the reading takes, are together of bulk at most 1048576: NARROWER than '..Said'. Prove '..Said' where nothing that the law and all that it calls make is longer than what came in: it says more and counts as full. Else prove '..UptoSaid'. A law counts once. -/
mutual
def uptoBulk {H : Type} : DataW H → Nat
  | .lit (.string bytes) => bytes.length + 1
  | .lit _ => 1
  | .nil => 1
  | .ptr d => uptoBulk d + 1
  | .slice elems spare => uptoBulkAll elems + uptoBulkAll spare + 1
  | .agg parts => uptoBulkAll parts + 1
  | .iface _ d => uptoBulk d + 1
  | .map entries => uptoBulkEntries entries + 1
  | .held _ => 1
def uptoBulkAll {H : Type} : List (DataW H) → Nat
  | [] => 0
  | d :: r => uptoBulk d + uptoBulkAll r
def uptoBulkEntries {H : Type} : List (Lit × DataW H) → Nat
  | [] => 0
  | x :: r => uptoBulkEntry x + uptoBulkEntries r
def uptoBulkEntry {H : Type} : Lit × DataW H → Nat
  | (.string bytes, d) => bytes.length + uptoBulk d + 1
  | (_, d) => uptoBulk d + 1
 end
def uptoSmall : (H : Type) → List (DataW H) → Bool := fun _ ds => decide (uptoBulkAll ds ≤ 1048576)
def OpenSpec.upto (s : _root_.Go.ChangeSpec) : _root_.Go.OpenSpec := { _root_.Go.OpenSpec.ofChange s with cond := some uptoSmall }

/-- 'laws.FnExactKeptBlocks', WHERE WHAT IT READS IS OF BULK AT MOST 1048576: true; the input reads as it did. -/
def fnExactKeptBlocksUptoRow : OpenClaim := { program := "ytkbanalfnhhojaagreat", sum := "5d6c3f2d2487d755a598d29a88282602388fd2fb77f61d05e5962a63f1541a94", func := "loop.example/g00900/laws.FnExactKeptBlocks", spec := "fnExactKeptBlocks", unfollowed := true, recurses := true, apart := false, narrowed := true }
def FnExactKeptBlocksUptoSaid : Prop := fnExactKeptBlocksUptoRow.holds Tryz.pinned (OpenSpec.upto fnExactKeptBlocksSpec)

/-- 'laws.FnExactChoiceDelays', WHERE WHAT IT READS IS OF BULK AT MOST 1048576: true; the input reads as it did. -/
def fnExactChoiceDelaysUptoRow : OpenClaim := { program := "ytkbanalfnhhojaagreat", sum := "5d6c3f2d2487d755a598d29a88282602388fd2fb77f61d05e5962a63f1541a94", func := "loop.example/g00900/laws.FnExactChoiceDelays", spec := "fnExactChoiceDelays", unfollowed := true, recurses := true, apart := false, narrowed := true }
def FnExactChoiceDelaysUptoSaid : Prop := fnExactChoiceDelaysUptoRow.holds Tryz.pinned (OpenSpec.upto fnExactChoiceDelaysSpec)

/-- 'laws.FnExactChoiceCost', WHERE WHAT IT READS IS OF BULK AT MOST 1048576: true; the input reads as it did. -/
def fnExactChoiceCostUptoRow : OpenClaim := { program := "ytkbanalfnhhojaagreat", sum := "5d6c3f2d2487d755a598d29a88282602388fd2fb77f61d05e5962a63f1541a94", func := "loop.example/g00900/laws.FnExactChoiceCost", spec := "fnExactChoiceCost", unfollowed := true, recurses := true, apart := false, narrowed := true }
def FnExactChoiceCostUptoSaid : Prop := fnExactChoiceCostUptoRow.holds Tryz.pinned (OpenSpec.upto fnExactChoiceCostSpec)

/-- 'laws.FnExactSavedBy', WHERE WHAT IT READS IS OF BULK AT MOST 1048576: true; the input reads as it did. -/
def fnExactSavedByUptoRow : OpenClaim := { program := "ytkbanalfnhhojaagreat", sum := "5d6c3f2d2487d755a598d29a88282602388fd2fb77f61d05e5962a63f1541a94", func := "loop.example/g00900/laws.FnExactSavedBy", spec := "fnExactSavedBy", unfollowed := true, recurses := true, apart := false, narrowed := true }
def FnExactSavedByUptoSaid : Prop := fnExactSavedByUptoRow.holds Tryz.pinned (OpenSpec.upto fnExactSavedBySpec)

/-- 'laws.FnExactPassengerDelay', WHERE WHAT IT READS IS OF BULK AT MOST 1048576: true; the input reads as it did. -/
def fnExactPassengerDelayUptoRow : OpenClaim := { program := "ytkbanalfnhhojaagreat", sum := "5d6c3f2d2487d755a598d29a88282602388fd2fb77f61d05e5962a63f1541a94", func := "loop.example/g00900/laws.FnExactPassengerDelay", spec := "fnExactPassengerDelay", unfollowed := true, recurses := true, apart := false, narrowed := true }
def FnExactPassengerDelayUptoSaid : Prop := fnExactPassengerDelayUptoRow.holds Tryz.pinned (OpenSpec.upto fnExactPassengerDelaySpec)

/-- 'laws.FnExactBestChoice', WHERE WHAT IT READS IS OF BULK AT MOST 1048576: true; the input reads as it did. -/
def fnExactBestChoiceUptoRow : OpenClaim := { program := "ytkbanalfnhhojaagreat", sum := "5d6c3f2d2487d755a598d29a88282602388fd2fb77f61d05e5962a63f1541a94", func := "loop.example/g00900/laws.FnExactBestChoice", spec := "fnExactBestChoice", unfollowed := true, recurses := true, apart := false, narrowed := true }
def FnExactBestChoiceUptoSaid : Prop := fnExactBestChoiceUptoRow.holds Tryz.pinned (OpenSpec.upto fnExactBestChoiceSpec)

end Rows
end Go.Proofs.YtkbanalfnhhojaaGreat
