/- slices.pdqsortOrdered on at most twelve ints. -/
import Derived.Test.YtikijhclakccpaaGreatSrtO
namespace Go.Proofs.YtikijhclakccpaaGreat
set_option linter.unusedSimpArgs false
set_option linter.unusedVariables false
open Go.RowKit Go.ChangeShapes Go.WideShapes Go.ChangeAt Go.Deep
end Go.Proofs.YtikijhclakccpaaGreat
