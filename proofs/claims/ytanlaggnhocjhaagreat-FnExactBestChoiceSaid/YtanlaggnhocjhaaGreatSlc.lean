/- x[i:] and x[:i] of a slice that is read. Not yet used: meant for BlockersOf and CancelRun. -/
import Derived.Test.YtanlaggnhocjhaaGreatVals
namespace Go.Proofs.YtanlaggnhocjhaaGreat
set_option linter.unusedSimpArgs false
set_option linter.unusedVariables false
open Go.RowKit Go.ChangeShapes Go.WideShapes Go.ChangeAt Go.Deep
section
variable {P : Program} {ops : Array Oper} {C : World → Prop} {N : Nat} {M : List (Nat × Pr) → List Oper → Prop} {K : List (Nat × Pr)} {rest : List Oper} {d : Nat} {ty : TypeId} {pos : String} {af : Array Edge} {g : Option (Nat × Bool)}
theorem W_sliceTo (hM : Stepper P ops C N M) {α : Type} {Φ : Phi α} {es : Option TypeId} {xs : List α} {x y : Operand} {t : TypeId} {i : Int} (hB : elemB P t Φ.k = true) (hg : wantedK ops K g = some true) (hN : Nat.blt d N = true)
    (hx : kn K x = some (.inr (uS es Φ xs))) (hy : kn K y = some (.inl (.int .i64 i))) (hi : 0 ≤ i ∧ i ≤ (xs.length : Int))
    (h : M ((d, .inr (uS es Φ (xs.take i.toNat))) :: K) rest) : M K (⟨some d, .slice t x none (some y) none, ty, pos, af, g⟩ :: rest) :=
  W_det hM _ hN hg (fun ρ w _ hk => by
    obtain ⟨A, n, c, hv, hn, hnc, hcm, hall⟩ : IsS es Φ xs (ρ x) w := hk x (by simp [Op.operands]) _ hx
    have hyv : ρ y = .int .i64 i := hk y (by simp [Op.operands]) _ hy
    obtain ⟨te, inf, hu, hinf, hsz⟩ := elemB_spec hB
    have b1 : 0 ≤ i ∧ i ≤ (c : Int) := by omega
    refine ⟨.slice (if c = 0 then A else A.map (·.add (0 * Φ.k))) i.toNat c, ?_, _, _, _, rfl, by rw [List.length_take]; omega, by omega, hcm, fun j z hz => ?_⟩
    · simp [execOp, hv, hyv, Instr.sliceAt, Instr.slice, Instr.sliceBounds, Instr.sliceBound, asIntOf, run_underlying hu, sizeOf_run hinf, hsz, b1]
    · rw [List.getElem?_take] at hz
      split at hz
      · have hlt := (List.getElem?_eq_some_iff.1 hz).1
        obtain ⟨b, o, cs, hA, hcell, hφ, ht⟩ := hall j z hz
        exact ⟨b, o, cs, by rw [if_neg (by omega), hA]; simp [Addr.add_lit], hcell, hφ, ht⟩
      · cases hz) h
end
end Go.Proofs.YtanlaggnhocjhaaGreat
