/- The times of a run, both ways. -/
import Derived.Test.YtikijhclakccpaaInner
import Derived.Test.YtikijhclakccpaaStop
import Derived.Test.YtikijhclakccpaaSub
namespace Go.Proofs.Ytikijhclakccpaa
set_option linter.unusedSimpArgs false
set_option linter.unusedVariables false
open Go.RowKit Go.ChangeShapes Go.WideShapes Go.ChangeAt Go.Deep
def rtF (t : Tab) (x : Rn) (id : Int) (j : Nat) : Int := timF t (ix t.T (fndT t id)) (x.F.toNat + j) + x.H
def rtN (x : Rn) : Nat := (x.O - x.F + 1).toNat
def rtX (t : Tab) (x : Rn) (id : Int) : List Int := lstI (rtF t x id) (rtN x)
def rtOk (t : Tab) (xs : List Rn) (id : Int) : Bool := rnsB t xs && decide (0 ≤ fndR xs id)
theorem rtOk_y {t : Tab} {xs : List Rn} {id : Int} (h : rnsB t xs = true) (h1 : 0 ≤ fndR xs id) : rtOk t xs id = true := by
  rw [rtOk, h, decide_eq_true h1]; rfl
theorem rtOk_n {t : Tab} {xs : List Rn} {id : Int} (h : rnsB t xs = false ∨ fndR xs id < 0) : rtOk t xs id = false := by
  rw [rtOk]
  rcases h with h | h
  · rw [h]; rfl
  · rw [decide_eq_false (by omega), Bool.and_false]
def rtR (t : Tab) (xs : List Rn) (id : Int) : List Int := if rtOk t xs id then rtX t (ix xs (fndR xs id)) id else []
/-- The planned times of the places of a run. -/
def rtY (t : Tab) (x : Rn) : List Int := ((timT t (ix t.T (fndT t x.T))).drop x.F.toNat).take (x.O + 1 - x.F).toNat
theorem rtY_get {t : Tab} {x : Rn} (hF : 0 ≤ x.F) (hFO : x.F < x.O) (hO : x.O < stN t x.T) {j : Nat} (hj : j < rtN x) : (rtY t x)[j]? = some (timF t (ix t.T (fndT t x.T)) (x.F.toNat + j)) := by
  have hst : ((ix t.N.L (ix t.T (fndT t x.T)).L).S.length : Int) = stN t x.T := rfl
  unfold rtN at hj
  rw [rtY, List.getElem?_take, if_pos (by omega), List.getElem?_drop, timT, lstI, List.getElem?_map, List.getElem?_range (by omega)]
  rfl
theorem rtY_len {t : Tab} {x : Rn} (hF : 0 ≤ x.F) (hFO : x.F < x.O) (hO : x.O < stN t x.T) : (rtY t x).length = rtN x := by
  have hst : ((ix t.N.L (ix t.T (fndT t x.T)).L).S.length : Int) = stN t x.T := rfl
  rw [rtY, List.length_take, List.length_drop, timT, lstI_length, rtN]
  omega
end Go.Proofs.Ytikijhclakccpaa
