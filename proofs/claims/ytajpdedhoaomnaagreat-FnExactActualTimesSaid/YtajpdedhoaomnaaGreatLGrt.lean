/- The laws of DelaysOf, DelayedTrips and ActualTimes. -/
import Derived.Test.YtajpdedhoaomnaaGreatAct
import Derived.Test.YtajpdedhoaomnaaGreatFltM
import Derived.Test.YtajpdedhoaomnaaGreatTxt
namespace Go.Proofs.YtajpdedhoaomnaaGreat
set_option linter.unusedSimpArgs false
set_option linter.unusedVariables false
open Go.RowKit Go.ChangeShapes Go.WideShapes Go.ChangeAt Go.Deep
theorem cg_toTab (t : Tab) (hf : TabF t) : CTG Tryz.prog 11 [.inr (uA aTab t)] (fun s => .inr (uO s (oN fTab) t)) := (cq_toTab t hf).oN
theorem cg_toFlt (f : Flt) (hf : FltF f) : CTG Tryz.prog 12 [.inr (uA aFlt f)] (fun s => .inr (uO s (oN fFlt) f)) := (cq_toFlt f hf).oN
end Go.Proofs.YtajpdedhoaomnaaGreat
