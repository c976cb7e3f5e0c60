/- Holding a run, both ways. -/
import Derived.Test.YtikijhclakccpaaGreatRunF
namespace Go.Proofs.YtikijhclakccpaaGreat
set_option linter.unusedSimpArgs false
set_option linter.unusedVariables false
open Go.RowKit Go.ChangeShapes Go.WideShapes Go.ChangeAt Go.Deep
def rnsB (t : Tab) (xs : List Rn) : Bool := tabB t && runsB t xs
theorem rnsB_at {t : Tab} {xs : List Rn} {id : Int} (h : rnsB t xs = true) (h0 : 0 ≤ fndR xs id) : (0 ≤ (ix xs (fndR xs id)).H ∧ (ix xs (fndR xs id)).H ≤ 60) ∧ 0 ≤ (ix xs (fndR xs id)).F ∧ (ix xs (fndR xs id)).F < (ix xs (fndR xs id)).O ∧ (ix xs (fndR xs id)).O < stN t (ix xs (fndR xs id)).T := by
  simp only [rnsB, Bool.and_eq_true] at h
  have := runsB_at h.2 h0 fndR_bd.2
  exact ⟨this.2.2.1, this.2.2.2.1, this.2.2.2.2⟩
def hldOk (t : Tab) (xs : List Rn) (id m : Int) : Bool := rnsB t xs && (decide (0 ≤ fndR xs id) && (inB m 0 60 && decide ((ix xs (fndR xs id)).H + m ≤ 60)))
def hldX (xs : List Rn) (id m : Int) : List Rn := xs.set (fndR xs id).toNat { ix xs (fndR xs id) with H := (ix xs (fndR xs id)).H + m }
def hldR (t : Tab) (xs : List Rn) (id m : Int) : List Rn := if hldOk t xs id m then hldX xs id m else []
theorem hldOk_t {t : Tab} {xs : List Rn} {id m : Int} : hldOk t xs id m = true ↔ rnsB t xs = true ∧ 0 ≤ fndR xs id ∧ (0 ≤ m ∧ m ≤ 60) ∧ (ix xs (fndR xs id)).H + m ≤ 60 := by
  simp only [hldOk, Bool.and_eq_true, decide_eq_true_eq, inB_t]
theorem hldR_len {t : Tab} {xs : List Rn} {id m : Int} : (hldR t xs id m).length ≤ xs.length := by
  unfold hldR hldX
  split <;> simp
theorem hldR_y {t : Tab} {xs : List Rn} {id m : Int} (h : hldOk t xs id m = true) : hldR t xs id m = hldX xs id m := by rw [hldR, h]; rfl
theorem hldR_n {t : Tab} {xs : List Rn} {id m : Int} (h : hldOk t xs id m = false) : hldR t xs id m = [] := by rw [hldR, h]; rfl
theorem hldOk_n {t : Tab} {xs : List Rn} {id m : Int} (h : ¬ (rnsB t xs = true ∧ 0 ≤ fndR xs id ∧ (0 ≤ m ∧ m ≤ 60) ∧ (ix xs (fndR xs id)).H + m ≤ 60)) : hldOk t xs id m = false := by
  cases h1 : hldOk t xs id m
  · rfl
  · exact absurd (hldOk_t.1 h1) h
end Go.Proofs.YtikijhclakccpaaGreat
