/- Lists of legs that use energy: copied, counted, compared, checked. -/
import Derived.Test.YtanlaggnhocjhaaBat
namespace Go.Proofs.Ytanlaggnhocjhaa
set_option linter.unusedSimpArgs false
set_option linter.unusedVariables false
open Go.RowKit Go.ChangeShapes Go.WideShapes Go.ChangeAt Go.Deep
structure Leg where
  F : Int
  T : Int
  U : Int
instance : Inhabited Leg := ⟨⟨0, 0, 0⟩⟩
def pLeg : Phi Leg := pCat Leg.F pI (pCat Leg.T pI (pCat Leg.U pI pNil))
def legAt (xs : List Leg) (i : Int) : Bool :=
  inB (ix xs i).F 0 1799 && inB (ix xs i).T 0 1799 && !decide ((ix xs i).T ≤ (ix xs i).F) && inB (ix xs i).U 0 10000 && (decide (i = 0) || !decide ((ix xs i).F < (ix xs (i - 1)).T))
theorem legAt_t (xs : List Leg) (i : Int) : (legAt xs i = true) = ((0 ≤ (ix xs i).F ∧ (ix xs i).F ≤ 1799) ∧ (0 ≤ (ix xs i).T ∧ (ix xs i).T ≤ 1799) ∧ (ix xs i).F < (ix xs i).T ∧ (0 ≤ (ix xs i).U ∧ (ix xs i).U ≤ 10000) ∧ (i = 0 ∨ (ix xs (i - 1)).T ≤ (ix xs i).F)) := by
  simp only [legAt, Bool.and_eq_true, inB_t, Bool.not_eq_true', decide_eq_false_iff_not, Int.not_le, Int.not_lt, Bool.or_eq_true, decide_eq_true_eq, and_assoc]
def legs (xs : List Leg) : Bool := inB xs.length 1 12 && (List.range xs.length).all fun j => legAt xs j
theorem legs_t (xs : List Leg) : (legs xs = true) ↔ ((1 ≤ (xs.length : Int) ∧ (xs.length : Int) ≤ 12) ∧ ∀ j : Nat, (j : Int) < xs.length → legAt xs j = true) := by
  simp [legs, inB, List.all_eq_true]
theorem legs_f1 {xs : List Leg} (h : (xs.length : Int) < 1 ∨ 12 < (xs.length : Int)) : legs xs = false := by
  cases hl : legs xs with
  | false => rfl
  | true => have := (legs_t xs).1 hl; omega
theorem legs_f2 {xs : List Leg} {i : Int} (h0 : 0 ≤ i) (h1 : i < xs.length) (h : ¬ legAt xs i = true) : legs xs = false := by
  cases hl : legs xs with
  | false => rfl
  | true =>
    have := ((legs_t xs).1 hl).2 i.toNat (by omega)
    rw [show ((i.toNat : Nat) : Int) = i by omega] at this
    exact absurd this h
end Go.Proofs.Ytanlaggnhocjhaa
