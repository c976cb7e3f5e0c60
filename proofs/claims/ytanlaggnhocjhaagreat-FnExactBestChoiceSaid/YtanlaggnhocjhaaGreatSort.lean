/- Insertion sort of a slice of one's own: the list that comes of it. -/
import Derived.Test.YtanlaggnhocjhaaGreatInp
namespace Go.Proofs.YtanlaggnhocjhaaGreat
set_option linter.unusedSimpArgs false
set_option linter.unusedVariables false
open Go.RowKit

section
variable {α : Type}
def insAt (p : List α) (k : Nat) (x : α) : List α := p.take k ++ x :: p.drop k
end
end Go.Proofs.YtanlaggnhocjhaaGreat
