/- slices.insertionSortOrdered on an own list of ints. -/
import Derived.Test.YtikijhclakccpaaGreatIns
import Derived.Test.YtikijhclakccpaaGreatOwnG
namespace Go.Proofs.YtikijhclakccpaaGreat
set_option linter.unusedSimpArgs false
set_option linter.unusedVariables false
open Go.RowKit Go.ChangeShapes Go.WideShapes Go.ChangeAt Go.Deep
end Go.Proofs.YtikijhclakccpaaGreat
