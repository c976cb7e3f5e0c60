/- Timetables and fleets of their own memory, for the laws of recovery. -/
import Derived.Test.YtkbanalfnhhojaaGreatFltM
import Derived.Test.YtkbanalfnhhojaaGreatSSM
import Derived.Test.YtkbanalfnhhojaaGreatTabM
import Derived.Test.YtkbanalfnhhojaaGreatTxt
namespace Go.Proofs.YtkbanalfnhhojaaGreat
set_option linter.unusedSimpArgs false
set_option linter.unusedVariables false
open Go.RowKit Go.ChangeShapes Go.WideShapes Go.ChangeAt Go.Deep
theorem cg_toTab (t : Tab) (hf : TabF t) : CTG Tryz.prog 13 [.inr (uA aTab t)] (fun s => .inr (uO s (oN fTab) t)) := (cq_toTab t hf).oN
theorem cg_toFlt (f : Flt) (hf : FltF f) : CTG Tryz.prog 14 [.inr (uA aFlt f)] (fun s => .inr (uO s (oN fFlt) f)) := (cq_toFlt f hf).oN
end Go.Proofs.YtkbanalfnhhojaaGreat
