/-
  A region that draws its order: what is new in the head is named: the values of the new blocks, that they differ, and what is made of them.
-/
import Derived.Test.YtanlaggnhocjhaaGreatIns
import Derived.Test.YtanlaggnhocjhaaGreatFresh
namespace Go.Proofs.YtanlaggnhocjhaaGreat
set_option linter.unusedSimpArgs false
set_option linter.unusedVariables false
open Go.RowKit
section
variable {P : Program} {ops : Array Oper} {C : World → Prop} {Q : Exit → Act → World → Prop} {N : Nat} {K : List (Nat × Pr)}
structure InvG (hd : List Oper) (fs : List Bool) (Fs : List (Act → World → Prop)) (done : Nat → Prop) (a : Act) (w : World) : Prop where
  fct : ∀ q F, done q → Fs[q]? = some F → F a w
  bnd : ∀ (q : Nat) (oq : Oper) (d : Nat), done q → hd[q]? = some oq → oq.dst = some d → fs[q]? = some true → ∃ v g, a.tmps[d]? = some v ∧ vblk v = some g ∧ g < w.heap.size
  dis : ∀ (q r : Nat) (oq or_ : Oper) (d e : Nat) (u v : Value), q ≠ r → done q → done r → hd[q]? = some oq → hd[r]? = some or_ → oq.dst = some d → or_.dst = some e → fs[q]? = some true → fs[r]? = some true → a.tmps[d]? = some u → a.tmps[e]? = some v → vblk u ≠ vblk v
end
end Go.Proofs.YtanlaggnhocjhaaGreat
