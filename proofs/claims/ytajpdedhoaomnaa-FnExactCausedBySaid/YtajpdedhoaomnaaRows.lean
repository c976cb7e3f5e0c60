/-
  No cell of these rows narrows 'for every input' (looked for: loops, veiled, ifaces, maps, wideKeys, modest, calm, conditions, laid).
  DERIVED. THE GIVEN ROWS OF THIS SEAT. 6 by the template 'for every input the law returns true; each argument reads behind the call as it read before'; 0 by the template 'total and deterministic' (their statements: YtajpdedhoaomnaaTotals.lean).
  GIVEN WITH THE SEED: the statements are not yours to turn. If you find one false, say at which input.
  Laid BY PROGRAM, IN A SANDBOX (cutbox-rows.mjs): the forced cells as the released guide's own fill.sh prints them over the translation 9531f2aca42ed43e… (all of the seat's roots in one cut). By AI agents, Wed Nov 11 2026. No macro, syntax, notation, axiom, sorry.
-/
import Derived.Test.YtajpdedhoaomnaaChecked
import GoSem.Claim
import GoSem.ClaimJoined
import GoSem.ClaimMapViews
import Derived.JoinedTies
import Derived.KernelRfl
namespace Go.Proofs.Ytajpdedhoaomnaa
/- THE CELL 'sum', in the pinned program and in every row, IS THE sha256 OF THE DUMP (.gsa) THAT YtajpdedhoaomnaaProg.lean LOADS. Nothing in Lean hashes anything: it is a label: what it is worth is what the hold of that sum in a sandbox is worth. -/
noncomputable def Try.pinned : Pinned := { name := "ytajpdedhoaomnaa", sum := "9531f2aca42ed43e9ce9b394b35db40095ccd2295ea964401c787d4ab15d4edd", checked := Try.checked }
namespace Rows
def none {H : Type} : Left H := { results := [], args := [] }

/-- 'laws.FnExactIsPrimaryDelays': WHATEVER THE INPUT: true; the input reads as it did. -/
def fnExactIsPrimaryDelaysSpec : ChangeSpec := { name := "fnExactIsPrimaryDelays", fn := fun _ => fun
  | [d1, d2] => { results := [.lit (.bool true)], args := [d1, d2] }
  | _ => none }
def fnExactIsPrimaryDelaysRow : OpenClaim := { program := "ytajpdedhoaomnaa", sum := "9531f2aca42ed43e9ce9b394b35db40095ccd2295ea964401c787d4ab15d4edd", func := "loop.example/g00900/laws.FnExactIsPrimaryDelays", spec := "fnExactIsPrimaryDelays", unfollowed := true, recurses := true, apart := false }
def FnExactIsPrimaryDelaysSaid : Prop := fnExactIsPrimaryDelaysRow.holds Try.pinned (OpenSpec.ofChange fnExactIsPrimaryDelaysSpec)

/-- ITS FALSE NEIGHBOUR: 'it returns false'. Refute it at one input. -/
def fnExactIsPrimaryDelaysWrong : ChangeSpec := { name := "fnExactIsPrimaryDelays", fn := fun _ => fun
  | [d1, d2] => { results := [.lit (.bool false)], args := [d1, d2] }
  | _ => none }
def FnExactIsPrimaryDelaysWrongFalsely : Prop := fnExactIsPrimaryDelaysRow.holds Try.pinned (OpenSpec.ofChange fnExactIsPrimaryDelaysWrong)

/-- 'laws.FnExactAddPrimary': WHATEVER THE INPUT: true; the input reads as it did. -/
def fnExactAddPrimarySpec : ChangeSpec := { name := "fnExactAddPrimary", fn := fun _ => fun
  | [d1, d2, d3] => { results := [.lit (.bool true)], args := [d1, d2, d3] }
  | _ => none }
def fnExactAddPrimaryRow : OpenClaim := { program := "ytajpdedhoaomnaa", sum := "9531f2aca42ed43e9ce9b394b35db40095ccd2295ea964401c787d4ab15d4edd", func := "loop.example/g00900/laws.FnExactAddPrimary", spec := "fnExactAddPrimary", inPlace := ["slices.overlaps[loop.example/g00900/impl.Delay]"], unfollowed := true, recurses := true, apart := false }
def FnExactAddPrimarySaid : Prop := fnExactAddPrimaryRow.holds Try.pinned (OpenSpec.ofChange fnExactAddPrimarySpec)

/-- ITS FALSE NEIGHBOUR: 'it returns false'. Refute it at one input. -/
def fnExactAddPrimaryWrong : ChangeSpec := { name := "fnExactAddPrimary", fn := fun _ => fun
  | [d1, d2, d3] => { results := [.lit (.bool false)], args := [d1, d2, d3] }
  | _ => none }
def FnExactAddPrimaryWrongFalsely : Prop := fnExactAddPrimaryRow.holds Try.pinned (OpenSpec.ofChange fnExactAddPrimaryWrong)

/-- 'laws.FnExactBufferOf': WHATEVER THE INPUT: true; the input reads as it did. -/
def fnExactBufferOfSpec : ChangeSpec := { name := "fnExactBufferOf", fn := fun _ => fun
  | [d1, d2, d3, d4] => { results := [.lit (.bool true)], args := [d1, d2, d3, d4] }
  | _ => none }
def fnExactBufferOfRow : OpenClaim := { program := "ytajpdedhoaomnaa", sum := "9531f2aca42ed43e9ce9b394b35db40095ccd2295ea964401c787d4ab15d4edd", func := "loop.example/g00900/laws.FnExactBufferOf", spec := "fnExactBufferOf", unfollowed := true, recurses := true, apart := false }
def FnExactBufferOfSaid : Prop := fnExactBufferOfRow.holds Try.pinned (OpenSpec.ofChange fnExactBufferOfSpec)

/-- ITS FALSE NEIGHBOUR: 'it returns false'. Refute it at one input. -/
def fnExactBufferOfWrong : ChangeSpec := { name := "fnExactBufferOf", fn := fun _ => fun
  | [d1, d2, d3, d4] => { results := [.lit (.bool false)], args := [d1, d2, d3, d4] }
  | _ => none }
def FnExactBufferOfWrongFalsely : Prop := fnExactBufferOfRow.holds Try.pinned (OpenSpec.ofChange fnExactBufferOfWrong)

/-- 'laws.FnExactSecondaryDelay': WHATEVER THE INPUT: true; the input reads as it did. -/
def fnExactSecondaryDelaySpec : ChangeSpec := { name := "fnExactSecondaryDelay", fn := fun _ => fun
  | [d1, d2, d3, d4, d5] => { results := [.lit (.bool true)], args := [d1, d2, d3, d4, d5] }
  | _ => none }
def fnExactSecondaryDelayRow : OpenClaim := { program := "ytajpdedhoaomnaa", sum := "9531f2aca42ed43e9ce9b394b35db40095ccd2295ea964401c787d4ab15d4edd", func := "loop.example/g00900/laws.FnExactSecondaryDelay", spec := "fnExactSecondaryDelay", unfollowed := true, recurses := true, apart := false }
def FnExactSecondaryDelaySaid : Prop := fnExactSecondaryDelayRow.holds Try.pinned (OpenSpec.ofChange fnExactSecondaryDelaySpec)

/-- ITS FALSE NEIGHBOUR: 'it returns false'. Refute it at one input. -/
def fnExactSecondaryDelayWrong : ChangeSpec := { name := "fnExactSecondaryDelay", fn := fun _ => fun
  | [d1, d2, d3, d4, d5] => { results := [.lit (.bool false)], args := [d1, d2, d3, d4, d5] }
  | _ => none }
def FnExactSecondaryDelayWrongFalsely : Prop := fnExactSecondaryDelayRow.holds Try.pinned (OpenSpec.ofChange fnExactSecondaryDelayWrong)

/-- 'laws.FnExactTotalDelay': WHATEVER THE INPUT: true; the input reads as it did. -/
def fnExactTotalDelaySpec : ChangeSpec := { name := "fnExactTotalDelay", fn := fun _ => fun
  | [d1, d2, d3, d4] => { results := [.lit (.bool true)], args := [d1, d2, d3, d4] }
  | _ => none }
def fnExactTotalDelayRow : OpenClaim := { program := "ytajpdedhoaomnaa", sum := "9531f2aca42ed43e9ce9b394b35db40095ccd2295ea964401c787d4ab15d4edd", func := "loop.example/g00900/laws.FnExactTotalDelay", spec := "fnExactTotalDelay", unfollowed := true, recurses := true, apart := false }
def FnExactTotalDelaySaid : Prop := fnExactTotalDelayRow.holds Try.pinned (OpenSpec.ofChange fnExactTotalDelaySpec)

/-- ITS FALSE NEIGHBOUR: 'it returns false'. Refute it at one input. -/
def fnExactTotalDelayWrong : ChangeSpec := { name := "fnExactTotalDelay", fn := fun _ => fun
  | [d1, d2, d3, d4] => { results := [.lit (.bool false)], args := [d1, d2, d3, d4] }
  | _ => none }
def FnExactTotalDelayWrongFalsely : Prop := fnExactTotalDelayRow.holds Try.pinned (OpenSpec.ofChange fnExactTotalDelayWrong)

/-- 'laws.FnExactCausedBy': WHATEVER THE INPUT: true; the input reads as it did. -/
def fnExactCausedBySpec : ChangeSpec := { name := "fnExactCausedBy", fn := fun _ => fun
  | [d1, d2, d3, d4, d5] => { results := [.lit (.bool true)], args := [d1, d2, d3, d4, d5] }
  | _ => none }
def fnExactCausedByRow : OpenClaim := { program := "ytajpdedhoaomnaa", sum := "9531f2aca42ed43e9ce9b394b35db40095ccd2295ea964401c787d4ab15d4edd", func := "loop.example/g00900/laws.FnExactCausedBy", spec := "fnExactCausedBy", unfollowed := true, recurses := true, apart := false }
def FnExactCausedBySaid : Prop := fnExactCausedByRow.holds Try.pinned (OpenSpec.ofChange fnExactCausedBySpec)

/-- ITS FALSE NEIGHBOUR: 'it returns false'. Refute it at one input. -/
def fnExactCausedByWrong : ChangeSpec := { name := "fnExactCausedBy", fn := fun _ => fun
  | [d1, d2, d3, d4, d5] => { results := [.lit (.bool false)], args := [d1, d2, d3, d4, d5] }
  | _ => none }
def FnExactCausedByWrongFalsely : Prop := fnExactCausedByRow.holds Try.pinned (OpenSpec.ofChange fnExactCausedByWrong)

/- THE SECOND FORM. 'bulk': how many values and letters a reading holds, each counted each time it is reached (what is shared counts as often as it is met; a slice's spare places count too). A statement '..UptoSaid' is the law's where the arguments, and the package variables that the reading takes, are together of bulk at most 1048576: NARROWER than '..Said'. Prove '..Said' where nothing that the law and all that it calls make is longer than what came in: it says more and counts as full. Else prove '..UptoSaid'. A law counts once. -/
mutual
def uptoBulk {H : Type} : DataW H → Nat
  | .lit (.string bytes) => bytes.length + 1
  | .lit _ => 1
  | .nil => 1
  | .ptr d => uptoBulk d + 1
  | .slice elems spare => uptoBulkAll elems + uptoBulkAll spare + 1
  | .agg parts => uptoBulkAll parts + 1
  | .iface _ d => uptoBulk d + 1
  | .map entries => uptoBulkEntries entries + 1
  | .held _ => 1
def uptoBulkAll {H : Type} : List (DataW H) → Nat
  | [] => 0
  | d :: r => uptoBulk d + uptoBulkAll r
def uptoBulkEntries {H : Type} : List (Lit × DataW H) → Nat
  | [] => 0
  | x :: r => uptoBulkEntry x + uptoBulkEntries r
def uptoBulkEntry {H : Type} : Lit × DataW H → Nat
  | (.string bytes, d) => bytes.length + uptoBulk d + 1
  | (_, d) => uptoBulk d + 1
 end
def uptoSmall : (H : Type) → List (DataW H) → Bool := fun _ ds => decide (uptoBulkAll ds ≤ 1048576)
def OpenSpec.upto (s : _root_.Go.ChangeSpec) : _root_.Go.OpenSpec := { _root_.Go.OpenSpec.ofChange s with cond := some uptoSmall }

/-- 'laws.FnExactIsPrimaryDelays', WHERE WHAT IT READS IS OF BULK AT MOST 1048576: true; the input reads as it did. -/
def fnExactIsPrimaryDelaysUptoRow : OpenClaim := { program := "ytajpdedhoaomnaa", sum := "9531f2aca42ed43e9ce9b394b35db40095ccd2295ea964401c787d4ab15d4edd", func := "loop.example/g00900/laws.FnExactIsPrimaryDelays", spec := "fnExactIsPrimaryDelays", unfollowed := true, recurses := true, apart := false, narrowed := true }
def FnExactIsPrimaryDelaysUptoSaid : Prop := fnExactIsPrimaryDelaysUptoRow.holds Try.pinned (OpenSpec.upto fnExactIsPrimaryDelaysSpec)

/-- 'laws.FnExactAddPrimary', WHERE WHAT IT READS IS OF BULK AT MOST 1048576: true; the input reads as it did. -/
def fnExactAddPrimaryUptoRow : OpenClaim := { program := "ytajpdedhoaomnaa", sum := "9531f2aca42ed43e9ce9b394b35db40095ccd2295ea964401c787d4ab15d4edd", func := "loop.example/g00900/laws.FnExactAddPrimary", spec := "fnExactAddPrimary", inPlace := ["slices.overlaps[loop.example/g00900/impl.Delay]"], unfollowed := true, recurses := true, apart := false, narrowed := true }
def FnExactAddPrimaryUptoSaid : Prop := fnExactAddPrimaryUptoRow.holds Try.pinned (OpenSpec.upto fnExactAddPrimarySpec)

/-- 'laws.FnExactBufferOf', WHERE WHAT IT READS IS OF BULK AT MOST 1048576: true; the input reads as it did. -/
def fnExactBufferOfUptoRow : OpenClaim := { program := "ytajpdedhoaomnaa", sum := "9531f2aca42ed43e9ce9b394b35db40095ccd2295ea964401c787d4ab15d4edd", func := "loop.example/g00900/laws.FnExactBufferOf", spec := "fnExactBufferOf", unfollowed := true, recurses := true, apart := false, narrowed := true }
def FnExactBufferOfUptoSaid : Prop := fnExactBufferOfUptoRow.holds Try.pinned (OpenSpec.upto fnExactBufferOfSpec)

/-- 'laws.FnExactSecondaryDelay', WHERE WHAT IT READS IS OF BULK AT MOST 1048576: true; the input reads as it did. -/
def fnExactSecondaryDelayUptoRow : OpenClaim := { program := "ytajpdedhoaomnaa", sum := "9531f2aca42ed43e9ce9b394b35db40095ccd2295ea964401c787d4ab15d4edd", func := "loop.example/g00900/laws.FnExactSecondaryDelay", spec := "fnExactSecondaryDelay", unfollowed := true, recurses := true, apart := false, narrowed := true }
def FnExactSecondaryDelayUptoSaid : Prop := fnExactSecondaryDelayUptoRow.holds Try.pinned (OpenSpec.upto fnExactSecondaryDelaySpec)

/-- 'laws.FnExactTotalDelay', WHERE WHAT IT READS IS OF BULK AT MOST 1048576: true; the input reads as it did. -/
def fnExactTotalDelayUptoRow : OpenClaim := { program := "ytajpdedhoaomnaa", sum := "9531f2aca42ed43e9ce9b394b35db40095ccd2295ea964401c787d4ab15d4edd", func := "loop.example/g00900/laws.FnExactTotalDelay", spec := "fnExactTotalDelay", unfollowed := true, recurses := true, apart := false, narrowed := true }
def FnExactTotalDelayUptoSaid : Prop := fnExactTotalDelayUptoRow.holds Try.pinned (OpenSpec.upto fnExactTotalDelaySpec)

/-- 'laws.FnExactCausedBy', WHERE WHAT IT READS IS OF BULK AT MOST 1048576: true; the input reads as it did. -/
def fnExactCausedByUptoRow : OpenClaim := { program := "ytajpdedhoaomnaa", sum := "9531f2aca42ed43e9ce9b394b35db40095ccd2295ea964401c787d4ab15d4edd", func := "loop.example/g00900/laws.FnExactCausedBy", spec := "fnExactCausedBy", unfollowed := true, recurses := true, apart := false, narrowed := true }
def FnExactCausedByUptoSaid : Prop := fnExactCausedByUptoRow.holds Try.pinned (OpenSpec.upto fnExactCausedBySpec)

end Rows
end Go.Proofs.Ytajpdedhoaomnaa
