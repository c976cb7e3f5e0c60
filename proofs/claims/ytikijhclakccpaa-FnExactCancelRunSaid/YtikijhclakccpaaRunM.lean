/- For the laws of runs. -/
import Derived.Test.YtikijhclakccpaaRunF
import Derived.Test.YtikijhclakccpaaTabM
import Derived.Test.YtikijhclakccpaaTxt
namespace Go.Proofs.Ytikijhclakccpaa
set_option linter.unusedSimpArgs false
set_option linter.unusedVariables false
open Go.RowKit Go.ChangeShapes Go.WideShapes Go.ChangeAt Go.Deep
theorem cg_toTab (t : Tab) (hf : TabF t) : CTG Try.prog 20 [.inr (uA aTab t)] (fun s => .inr (uO s (oN fTab) t)) := (cq_toTab t hf).oN
end Go.Proofs.Ytikijhclakccpaa
