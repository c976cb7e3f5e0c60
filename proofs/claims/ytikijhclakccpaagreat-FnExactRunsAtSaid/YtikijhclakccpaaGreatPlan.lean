/- The planned runs, both ways. -/
import Derived.Test.YtikijhclakccpaaGreatRunF
namespace Go.Proofs.YtikijhclakccpaaGreat
set_option linter.unusedSimpArgs false
set_option linter.unusedVariables false
open Go.RowKit Go.ChangeShapes Go.WideShapes Go.ChangeAt Go.Deep
section
variable {P : Program} {ops : Array Oper} {C : World → Prop} {N : Nat} {M : List (Nat × Pr) → List Oper → Prop} {K : List (Nat × Pr)} {rest : List Oper} {d : Nat} {op : Op} {ty : TypeId} {pos : String} {af : Array Edge} {g : Option (Nat × Bool)}
/-- A struct or an array by literal, two numbers of it. -/
theorem W_buildPair (hM : Stepper P ops C N M) {α : Type} (Ψ : Phi α) (z : α) {x y : Operand} {i j : Nat} {n m : Int} {t : TypeId} (cs : List Value) (hx : kn K x = some (.inl (.int .i64 n))) (hy : kn K y = some (.inl (.int .i64 m))) (hb : P.built t [(i, .int .i64 n), (j, .int .i64 m)] = some cs.toArray) (hφ : ∀ w, Ψ.φ z cs w) (hg : wantedK ops K g = some true) (hN : Nat.blt d N = true)
    (h : M ((d, .inr (uA Ψ z)) :: K) rest) : M K (⟨some d, .build t #[(i, x), (j, y)], ty, pos, af, g⟩ :: rest) :=
  W_det hM (.inr (uA Ψ z)) hN hg (fun ρ w _ hk => ⟨.agg cs.toArray, by
    have hxv : ρ x = .int .i64 n := hk x (by simp [Op.operands]) _ hx
    have hyv : ρ y = .int .i64 m := hk y (by simp [Op.operands]) _ hy
    have hr := Go.run_build (P := P) w t #[(i, .int .i64 n), (j, .int .i64 m)] cs.toArray hb
    simp [execOp, hxv, hyv, hr], cs, rfl, hφ w⟩) h
end
def plnX (t : Tab) (i : Nat) : Rn := ⟨(ix t.T i).I, 0, (trLin t i).S.length - 1, 0⟩
def plnL (t : Tab) : Nat → List Rn
  | 0 => []
  | i + 1 => plnL t i ++ [plnX t i]
theorem plnL_len {t : Tab} : ∀ {i : Nat}, (plnL t i).length = i
  | 0 => rfl
  | i + 1 => by rw [plnL, List.length_append, plnL_len]; rfl
def plnR (t : Tab) : List Rn := if tabB t then plnL t t.T.length else []
theorem plnR_len {t : Tab} : (plnR t).length ≤ t.T.length := by
  unfold plnR
  split
  · rw [plnL_len]; exact Nat.le_refl _
  · exact Nat.zero_le _
def rn0 : Rn := ⟨0, 0, 0, 0⟩
theorem pln_set {t : Tab} {i n : Nat} (hi : i < n) : (plnL t i ++ List.replicate (n - i) rn0).set i (plnX t i) = plnL t (i + 1) ++ List.replicate (n - (i + 1)) rn0 := by
  rw [List.set_append_right _ _ (by rw [plnL_len]; exact Nat.le_refl _), plnL_len, Nat.sub_self]
  have e : n - i = (n - (i + 1)) + 1 := by omega
  rw [e, List.replicate_succ, List.set_cons_zero, plnL, List.append_assoc]
  rfl
theorem tabP_open {t : Tab} {v : Value} {w : World} (h : IsP bTab t v w) : ∃ b o vT, v = .pointer (some ⟨b, o, none⟩) ∧ w.cell? ⟨b, o + 2, none⟩ = some vT ∧ IsS (some 84) pTrp t.T vT w := by
  obtain ⟨b, o, cs, rfl, hc, c1, c2, rfl, h1, c3, c4, rfl, ⟨vT, rfl, h2⟩, h3⟩ := h
  have hl : c1.length = 2 := Phi.len _ _ _ _ h1
  refine ⟨b, o, vT, rfl, hc 2 vT ?_, h2⟩
  rw [List.getElem?_append_right (by omega), hl]
  rfl
end Go.Proofs.YtikijhclakccpaaGreat
