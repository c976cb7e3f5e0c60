/- Batteries; small functions on numbers. -/
import Derived.Test.YtanlaggnhocjhaaFun
namespace Go.Proofs.Ytanlaggnhocjhaa
set_option linter.unusedSimpArgs false
set_option linter.unusedVariables false
open Go.RowKit Go.ChangeShapes Go.WideShapes Go.ChangeAt Go.Deep
structure Bat where
  C : Int
  R : Int
  G : Int
def pBat : Phi Bat := pCat Bat.C pI (pCat Bat.R pI (pCat Bat.G pI pNil))
def batB (b : Bat) : Bool := inB b.C 1 10000 && inB b.R 0 b.C && inB b.G 0 1000
theorem batB_t (b : Bat) : (batB b = true) = (1 ≤ b.C ∧ b.C ≤ 10000 ∧ 0 ≤ b.R ∧ b.R ≤ b.C ∧ 0 ≤ b.G ∧ b.G ≤ 1000) := by simp [batB, inB, and_assoc]
theorem batB_f (b : Bat) : (batB b = false) = ¬ (1 ≤ b.C ∧ b.C ≤ 10000 ∧ 0 ≤ b.R ∧ b.R ≤ b.C ∧ 0 ≤ b.G ∧ b.G ≤ 1000) := by rw [← batB_t]; simp
def rlOk (b : Bat) (l p : Int) : Bool := batB b && inB l 0 b.C && inB p 1 1000
theorem rlOk_t (b : Bat) (l p : Int) : (rlOk b l p = true) = ((1 ≤ b.C ∧ b.C ≤ 10000 ∧ 0 ≤ b.R ∧ b.R ≤ b.C ∧ 0 ≤ b.G ∧ b.G ≤ 1000) ∧ (0 ≤ l ∧ l ≤ b.C) ∧ 1 ≤ p ∧ p ≤ 1000) := by simp only [rlOk, Bool.and_eq_true, batB_t, inB_t, and_assoc]
theorem rlOk_f (b : Bat) (l p : Int) : (rlOk b l p = false) = ¬ ((1 ≤ b.C ∧ b.C ≤ 10000 ∧ 0 ≤ b.R ∧ b.R ≤ b.C ∧ 0 ≤ b.G ∧ b.G ≤ 1000) ∧ (0 ≤ l ∧ l ≤ b.C) ∧ 1 ≤ p ∧ p ≤ 1000) := by rw [← rlOk_t]; simp
def rl (b : Bat) (l p : Int) : Int := if rlOk b l p = true then max (l - b.R) 0 / p else 0
end Go.Proofs.Ytanlaggnhocjhaa
