/- For the laws of flows. -/
import Derived.Test.YtfnihicngoaejaaTabM
import Derived.Test.YtfnihicngoaejaaTxt
namespace Go.Proofs.Ytfnihicngoaejaa
set_option linter.unusedSimpArgs false
set_option linter.unusedVariables false
open Go.RowKit Go.ChangeShapes Go.WideShapes Go.ChangeAt Go.Deep
theorem cg_toTab (t : Tab) (hf : TabF t) : CTG Try.prog 15 [.inr (uA aTab t)] (fun s => .inr (uO s (oN fTab) t)) := (cq_toTab t hf).oN
end Go.Proofs.Ytfnihicngoaejaa
