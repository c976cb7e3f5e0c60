/- Depots of their own memory; marks in them. -/
import Derived.Test.YtanlaggnhocjhaaDep
import Derived.Test.YtanlaggnhocjhaaSSM
namespace Go.Proofs.Ytanlaggnhocjhaa
set_option linter.unusedSimpArgs false
set_option linter.unusedVariables false
open Go.RowKit Go.ChangeShapes Go.WideShapes Go.ChangeAt Go.Deep
def fDep : Fm Dep := fCat Dep.S (fS 3 fI) (fCat Dep.T (fS 39 fII) fNil)
end Go.Proofs.Ytanlaggnhocjhaa
