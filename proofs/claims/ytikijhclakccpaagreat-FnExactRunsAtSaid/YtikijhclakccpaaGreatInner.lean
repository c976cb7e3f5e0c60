/- A run that is shortened or joined later, both ways. -/
import Derived.Test.YtikijhclakccpaaGreatHold
namespace Go.Proofs.YtikijhclakccpaaGreat
set_option linter.unusedSimpArgs false
set_option linter.unusedVariables false
open Go.RowKit Go.ChangeShapes Go.WideShapes Go.ChangeAt Go.Deep
/-- The place of a stop in a trip's line. -/
def inK (t : Tab) (id s : Int) : Int := fndI (trLin t (fndT t id)).S s
def inP (t : Tab) (x : Rn) (s : Int) : Int := if inK t x.T s ≤ x.F ∨ x.O ≤ inK t x.T s then -1 else inK t x.T s
theorem inP_y {t : Tab} {x : Rn} {s : Int} (h1 : x.F < inK t x.T s) (h2 : inK t x.T s < x.O) : inP t x s = inK t x.T s := if_neg (by omega)
theorem inP_n {t : Tab} {x : Rn} {s : Int} (h : inK t x.T s ≤ x.F ∨ x.O ≤ inK t x.T s) : inP t x s = -1 := if_pos h
theorem rnsB_tr {t : Tab} {xs : List Rn} {id : Int} (h : rnsB t xs = true) (h0 : 0 ≤ fndR xs id) : 0 ≤ fndT t id ∧ (0 ≤ (ix t.T (fndT t id)).L ∧ (ix t.T (fndT t id)).L < t.N.L.length) := by
  simp only [rnsB, Bool.and_eq_true] at h
  have h1 := (runsB_at h.2 h0 fndR_bd.2).1
  rw [fndR_val h0] at h1
  have h2 := tabB_at h.1 h1 fndT_bd.2
  exact ⟨h1, by omega, by omega⟩
/-- The place of a stop inside the run of a trip. -/
def inR (t : Tab) (xs : List Rn) (id s : Int) : Int := if 0 ≤ fndR xs id then inP t (ix xs (fndR xs id)) s else -1
theorem inR_v {t : Tab} {xs : List Rn} {id s : Int} (h : 0 ≤ fndR xs id) : inR t xs id s = inP t (ix xs (fndR xs id)) s := if_pos h
theorem inR_n {t : Tab} {xs : List Rn} {id s : Int} (h : fndR xs id < 0 ∨ inK t id s ≤ (ix xs (fndR xs id)).F ∨ (ix xs (fndR xs id)).O ≤ inK t id s) : inR t xs id s = -1 := by
  unfold inR
  split
  · rename_i h0
    exact inP_n (by rw [fndR_val h0]; omega)
  · rfl
theorem inR_y {t : Tab} {xs : List Rn} {id s : Int} (h0 : 0 ≤ fndR xs id) (h1 : (ix xs (fndR xs id)).F < inK t id s) (h2 : inK t id s < (ix xs (fndR xs id)).O) : inR t xs id s = inK t id s := by
  rw [inR_v h0, inP_y] <;> rw [fndR_val h0] <;> assumption
def inOk (t : Tab) (xs : List Rn) (id s : Int) : Bool := rnsB t xs && decide (0 ≤ inR t xs id s)
theorem inOk_n {t : Tab} {xs : List Rn} {id s : Int} (h : ¬ (rnsB t xs = true ∧ 0 ≤ inR t xs id s)) : inOk t xs id s = false := by
  cases h1 : inOk t xs id s
  · rfl
  · rw [inOk, Bool.and_eq_true, decide_eq_true_eq] at h1
    exact absurd h1 h
theorem inOk_y {t : Tab} {xs : List Rn} {id s : Int} (h : rnsB t xs = true) (h1 : 0 ≤ inR t xs id s) : inOk t xs id s = true := by
  rw [inOk, h, decide_eq_true h1]; rfl
theorem inR_lt {t : Tab} {xs : List Rn} {id s : Int} (h : 0 ≤ inR t xs id s) : 0 ≤ fndR xs id := by
  unfold inR at h
  split at h <;> omega
def shX (t : Tab) (xs : List Rn) (id s : Int) : List Rn := xs.set (fndR xs id).toNat { ix xs (fndR xs id) with O := inR t xs id s }
def shR (t : Tab) (xs : List Rn) (id s : Int) : List Rn := if inOk t xs id s then shX t xs id s else []
theorem shR_len {t : Tab} {xs : List Rn} {id s : Int} : (shR t xs id s).length ≤ xs.length := by
  unfold shR shX
  split <;> simp
theorem shR_y {t : Tab} {xs : List Rn} {id s : Int} (h : inOk t xs id s = true) : shR t xs id s = shX t xs id s := by rw [shR, h]; rfl
theorem shR_n {t : Tab} {xs : List Rn} {id s : Int} (h : inOk t xs id s = false) : shR t xs id s = [] := by rw [shR, h]; rfl
def jnX (t : Tab) (xs : List Rn) (id s : Int) : List Rn := xs.set (fndR xs id).toNat { ix xs (fndR xs id) with F := inR t xs id s }
def jnR (t : Tab) (xs : List Rn) (id s : Int) : List Rn := if inOk t xs id s then jnX t xs id s else []
theorem jnR_len {t : Tab} {xs : List Rn} {id s : Int} : (jnR t xs id s).length ≤ xs.length := by
  unfold jnR jnX
  split <;> simp
theorem jnR_y {t : Tab} {xs : List Rn} {id s : Int} (h : inOk t xs id s = true) : jnR t xs id s = jnX t xs id s := by rw [jnR, h]; rfl
theorem jnR_n {t : Tab} {xs : List Rn} {id s : Int} (h : inOk t xs id s = false) : jnR t xs id s = [] := by rw [jnR, h]; rfl
end Go.Proofs.YtikijhclakccpaaGreat
