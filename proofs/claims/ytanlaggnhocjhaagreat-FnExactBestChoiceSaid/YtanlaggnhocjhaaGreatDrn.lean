/-
  New blocks in the head of a region that draws its order: each by its name.
-/
import Derived.Test.YtanlaggnhocjhaaGreatDrg
namespace Go.Proofs.YtanlaggnhocjhaaGreat
set_option linter.unusedSimpArgs false
set_option linter.unusedVariables false
open Go.RowKit

/-- What is new: where it is told, the block's type and content, its value, what it is to be called. -/
structure Nw where
  slot : Nat
  e : TypeId
  cs : List Value
  val : Nat → Value
  o : Nat → Osl
structure Nw.Ok (n : Nw) : Prop where
  b : ∀ g, vblk (n.val g) = some g
  h : ∀ g w, (n.o g).at (some g, n.e, n.cs) w
section
variable {P : Program} {ops : Array Oper} {C : World → Prop} {Q : Exit → Act → World → Prop} {N : Nat} {K : List (Nat × Pr)} {tl rest : List Oper} {FS : List Nat} {Fs : List (Act → World → Prop)} {d : Nat} {ty : TypeId} {pos : String} {af : Array Edge}
end
end Go.Proofs.YtanlaggnhocjhaaGreat
