/-
  No cell of these rows narrows 'for every input' (looked for: loops, veiled, ifaces, maps, wideKeys, modest, calm, conditions, laid).
  DERIVED. THE GIVEN ROWS OF THIS SEAT. 3 by the template 'for every input the law returns true; each argument reads behind the call as it read before'; 0 by the template 'total and deterministic' (their statements: YtajpdedhoaomnaaGreatTotals.lean).
  GIVEN WITH THE SEED: the statements are not yours to turn. If you find one false, say at which input.
  Laid BY PROGRAM, IN A SANDBOX (cutbox-rows.mjs): the forced cells as the released guide's own fill.sh prints them over the translation f9052aae29de9bc6… (all of the seat's roots in one cut). By AI agents, Wed Nov 11 2026. No macro, syntax, notation, axiom, sorry.
-/
import Derived.Test.YtajpdedhoaomnaaGreatChecked
import GoSem.Claim
import GoSem.ClaimJoined
import GoSem.ClaimMapViews
import Derived.JoinedTies
import Derived.KernelRfl
namespace Go.Proofs.YtajpdedhoaomnaaGreat
/- THE CELL 'sum', in the pinned program and in every row, IS THE sha256 OF THE DUMP (.gsa) THAT YtajpdedhoaomnaaGreatProg.lean LOADS. Nothing in Lean hashes anything: it is a label: what it is worth is what the hold of that sum in a sandbox is worth. -/
noncomputable def Tryz.pinned : Pinned := { name := "ytajpdedhoaomnaagreat", sum := "f9052aae29de9bc67d68980d2671aeb765a8dc23bc587422d1cdef8817114db7", checked := Tryz.checked }
namespace Rows
def none {H : Type} : Left H := { results := [], args := [] }

/-- 'laws.FnExactDelaysOf': WHATEVER THE INPUT: true; the input reads as it did. -/
def fnExactDelaysOfSpec : ChangeSpec := { name := "fnExactDelaysOf", fn := fun _ => fun
  | [d1, d2, d3, d4] => { results := [.lit (.bool true)], args := [d1, d2, d3, d4] }
  | _ => none }
def fnExactDelaysOfRow : OpenClaim := { program := "ytajpdedhoaomnaagreat", sum := "f9052aae29de9bc67d68980d2671aeb765a8dc23bc587422d1cdef8817114db7", func := "loop.example/g00900/laws.FnExactDelaysOf", spec := "fnExactDelaysOf", unfollowed := true, recurses := true, apart := false }
def FnExactDelaysOfSaid : Prop := fnExactDelaysOfRow.holds Tryz.pinned (OpenSpec.ofChange fnExactDelaysOfSpec)

/-- ITS FALSE NEIGHBOUR: 'it returns false'. Refute it at one input. -/
def fnExactDelaysOfWrong : ChangeSpec := { name := "fnExactDelaysOf", fn := fun _ => fun
  | [d1, d2, d3, d4] => { results := [.lit (.bool false)], args := [d1, d2, d3, d4] }
  | _ => none }
def FnExactDelaysOfWrongFalsely : Prop := fnExactDelaysOfRow.holds Tryz.pinned (OpenSpec.ofChange fnExactDelaysOfWrong)

/-- 'laws.FnExactDelayedTrips': WHATEVER THE INPUT: true; the input reads as it did. -/
def fnExactDelayedTripsSpec : ChangeSpec := { name := "fnExactDelayedTrips", fn := fun _ => fun
  | [d1, d2, d3, d4, d5] => { results := [.lit (.bool true)], args := [d1, d2, d3, d4, d5] }
  | _ => none }
def fnExactDelayedTripsRow : OpenClaim := { program := "ytajpdedhoaomnaagreat", sum := "f9052aae29de9bc67d68980d2671aeb765a8dc23bc587422d1cdef8817114db7", func := "loop.example/g00900/laws.FnExactDelayedTrips", spec := "fnExactDelayedTrips", unfollowed := true, recurses := true, apart := false }
def FnExactDelayedTripsSaid : Prop := fnExactDelayedTripsRow.holds Tryz.pinned (OpenSpec.ofChange fnExactDelayedTripsSpec)

/-- ITS FALSE NEIGHBOUR: 'it returns false'. Refute it at one input. -/
def fnExactDelayedTripsWrong : ChangeSpec := { name := "fnExactDelayedTrips", fn := fun _ => fun
  | [d1, d2, d3, d4, d5] => { results := [.lit (.bool false)], args := [d1, d2, d3, d4, d5] }
  | _ => none }
def FnExactDelayedTripsWrongFalsely : Prop := fnExactDelayedTripsRow.holds Tryz.pinned (OpenSpec.ofChange fnExactDelayedTripsWrong)

/-- 'laws.FnExactActualTimes': WHATEVER THE INPUT: true; the input reads as it did. -/
def fnExactActualTimesSpec : ChangeSpec := { name := "fnExactActualTimes", fn := fun _ => fun
  | [d1, d2, d3, d4, d5] => { results := [.lit (.bool true)], args := [d1, d2, d3, d4, d5] }
  | _ => none }
def fnExactActualTimesRow : OpenClaim := { program := "ytajpdedhoaomnaagreat", sum := "f9052aae29de9bc67d68980d2671aeb765a8dc23bc587422d1cdef8817114db7", func := "loop.example/g00900/laws.FnExactActualTimes", spec := "fnExactActualTimes", unfollowed := true, recurses := true, apart := false }
def FnExactActualTimesSaid : Prop := fnExactActualTimesRow.holds Tryz.pinned (OpenSpec.ofChange fnExactActualTimesSpec)

/-- ITS FALSE NEIGHBOUR: 'it returns false'. Refute it at one input. -/
def fnExactActualTimesWrong : ChangeSpec := { name := "fnExactActualTimes", fn := fun _ => fun
  | [d1, d2, d3, d4, d5] => { results := [.lit (.bool false)], args := [d1, d2, d3, d4, d5] }
  | _ => none }
def FnExactActualTimesWrongFalsely : Prop := fnExactActualTimesRow.holds Tryz.pinned (OpenSpec.ofChange fnExactActualTimesWrong)

/- THE SECOND FORM. 'bulk': how many values and letters a reading holds, each counted each time it is reached (what is shared counts as often as it is met; a slice's spare places count too). A statement '..UptoSaid' is the law's where the arguments, and the package variables that the reading takes, are together of bulk at most 1048576: NARROWER than '..Said'. Prove '..Said' where nothing that the law and all that it calls make is longer than what came in: it says more and counts as full. Else prove '..UptoSaid'. A law counts once. -/
mutual
def uptoBulk {H : Type} : DataW H → Nat
  | .lit (.string bytes) => bytes.length + 1
  | .lit _ => 1
  | .nil => 1
  | .ptr d => uptoBulk d + 1
  | .slice elems spare => uptoBulkAll elems + uptoBulkAll spare + 1
  | .agg parts => uptoBulkAll parts + 1
  | .iface _ d => uptoBulk d + 1
  | .map entries => uptoBulkEntries entries + 1
  | .held _ => 1
def uptoBulkAll {H : Type} : List (DataW H) → Nat
  | [] => 0
  | d :: r => uptoBulk d + uptoBulkAll r
def uptoBulkEntries {H : Type} : List (Lit × DataW H) → Nat
  | [] => 0
  | x :: r => uptoBulkEntry x + uptoBulkEntries r
def uptoBulkEntry {H : Type} : Lit × DataW H → Nat
  | (.string bytes, d) => bytes.length + uptoBulk d + 1
  | (_, d) => uptoBulk d + 1
 end
def uptoSmall : (H : Type) → List (DataW H) → Bool := fun _ ds => decide (uptoBulkAll ds ≤ 1048576)
def OpenSpec.upto (s : _root_.Go.ChangeSpec) : _root_.Go.OpenSpec := { _root_.Go.OpenSpec.ofChange s with cond := some uptoSmall }

/-- 'laws.FnExactDelaysOf', WHERE WHAT IT READS IS OF BULK AT MOST 1048576: true; the input reads as it did. -/
def fnExactDelaysOfUptoRow : OpenClaim := { program := "ytajpdedhoaomnaagreat", sum := "f9052aae29de9bc67d68980d2671aeb765a8dc23bc587422d1cdef8817114db7", func := "loop.example/g00900/laws.FnExactDelaysOf", spec := "fnExactDelaysOf", unfollowed := true, recurses := true, apart := false, narrowed := true }
def FnExactDelaysOfUptoSaid : Prop := fnExactDelaysOfUptoRow.holds Tryz.pinned (OpenSpec.upto fnExactDelaysOfSpec)

/-- 'laws.FnExactDelayedTrips', WHERE WHAT IT READS IS OF BULK AT MOST 1048576: true; the input reads as it did. -/
def fnExactDelayedTripsUptoRow : OpenClaim := { program := "ytajpdedhoaomnaagreat", sum := "f9052aae29de9bc67d68980d2671aeb765a8dc23bc587422d1cdef8817114db7", func := "loop.example/g00900/laws.FnExactDelayedTrips", spec := "fnExactDelayedTrips", unfollowed := true, recurses := true, apart := false, narrowed := true }
def FnExactDelayedTripsUptoSaid : Prop := fnExactDelayedTripsUptoRow.holds Tryz.pinned (OpenSpec.upto fnExactDelayedTripsSpec)

/-- 'laws.FnExactActualTimes', WHERE WHAT IT READS IS OF BULK AT MOST 1048576: true; the input reads as it did. -/
def fnExactActualTimesUptoRow : OpenClaim := { program := "ytajpdedhoaomnaagreat", sum := "f9052aae29de9bc67d68980d2671aeb765a8dc23bc587422d1cdef8817114db7", func := "loop.example/g00900/laws.FnExactActualTimes", spec := "fnExactActualTimes", unfollowed := true, recurses := true, apart := false, narrowed := true }
def FnExactActualTimesUptoSaid : Prop := fnExactActualTimesUptoRow.holds Tryz.pinned (OpenSpec.upto fnExactActualTimesSpec)

end Rows
end Go.Proofs.YtajpdedhoaomnaaGreat
