/- x[:i], x[i:], x[i:j], x[i:j:l] of a slice known by its value. Not yet used: meant for slices.Delete. -/
import Derived.Test.YtikijhclakccpaaVals
namespace Go.Proofs.Ytikijhclakccpaa
set_option linter.unusedSimpArgs false
set_option linter.unusedVariables false
open Go.RowKit Go.ChangeShapes Go.WideShapes Go.ChangeAt Go.Deep
section
variable {P : Program} {ops : Array Oper} {C : World → Prop} {N : Nat} {M : List (Nat × Pr) → List Oper → Prop} {K : List (Nat × Pr)} {rest : List Oper} {d : Nat} {ty : TypeId} {pos : String} {af : Array Edge} {g : Option (Nat × Bool)}
theorem W_sliceVTo (hM : Stepper P ops C N M) {x y : Operand} {t : TypeId} {i : Int} {b n c k : Nat} (hB : elemB P t k = true) (hg : wantedK ops K g = some true) (hN : Nat.blt d N = true)
    (hx : kn K x = some (.inl (.slice (some ⟨b, 0, none⟩) n c))) (hy : kn K y = some (.inl (.int .i64 i))) (hi : 0 ≤ i ∧ i ≤ (c : Int))
    (h : M ((d, .inl (.slice (some ⟨b, 0, none⟩) i.toNat c)) :: K) rest) : M K (⟨some d, .slice t x none (some y) none, ty, pos, af, g⟩ :: rest) :=
  W_val hM hN hg (fun ρ w _ hk => by
    have hv : ρ x = .slice (some ⟨b, 0, none⟩) n c := hk x (by simp [Op.operands]) _ hx
    have hyv : ρ y = .int .i64 i := hk y (by simp [Op.operands]) _ hy
    obtain ⟨te, inf, hu, hinf, hsz⟩ := elemB_spec hB
    simp [execOp, hv, hyv, Instr.sliceAt, Instr.slice, Instr.sliceBounds, Instr.sliceBound, asIntOf, run_underlying hu, sizeOf_run hinf, hsz, hi, Addr.add_lit]) h
theorem W_sliceVFrom (hM : Stepper P ops C N M) {x y : Operand} {t : TypeId} {i : Int} {b n c k : Nat} (hB : elemB P t k = true) (hg : wantedK ops K g = some true) (hN : Nat.blt d N = true)
    (hx : kn K x = some (.inl (.slice (some ⟨b, 0, none⟩) n c))) (hy : kn K y = some (.inl (.int .i64 i))) (hi : 0 ≤ i ∧ i ≤ (n : Int))
    (h : M ((d, .inl (.slice (some ⟨b, (if c = i.toNat then 0 else i.toNat * k), none⟩) (n - i.toNat) (c - i.toNat))) :: K) rest) : M K (⟨some d, .slice t x (some y) none none, ty, pos, af, g⟩ :: rest) :=
  W_val hM hN hg (fun ρ w _ hk => by
    have hv : ρ x = .slice (some ⟨b, 0, none⟩) n c := hk x (by simp [Op.operands]) _ hx
    have hyv : ρ y = .int .i64 i := hk y (by simp [Op.operands]) _ hy
    obtain ⟨te, inf, hu, hinf, hsz⟩ := elemB_spec hB
    by_cases e : c = i.toNat
    · simp [execOp, hv, hyv, Instr.sliceAt, Instr.slice, Instr.sliceBounds, Instr.sliceBound, asIntOf, run_underlying hu, sizeOf_run hinf, hsz, hi, e, Addr.add_lit]
    · simp [execOp, hv, hyv, Instr.sliceAt, Instr.slice, Instr.sliceBounds, Instr.sliceBound, asIntOf, run_underlying hu, sizeOf_run hinf, hsz, hi, e, Addr.add_lit]) h
theorem W_sliceVBoth (hM : Stepper P ops C N M) {x y z : Operand} {t : TypeId} {i j : Int} {b n c k : Nat} (hB : elemB P t k = true) (hg : wantedK ops K g = some true) (hN : Nat.blt d N = true)
    (hx : kn K x = some (.inl (.slice (some ⟨b, 0, none⟩) n c))) (hy : kn K y = some (.inl (.int .i64 i))) (hz : kn K z = some (.inl (.int .i64 j))) (hi : 0 ≤ i ∧ i < j ∧ j ≤ (c : Int))
    (h : M ((d, .inl (.slice (some ⟨b, i.toNat * k, none⟩) (j.toNat - i.toNat) (c - i.toNat))) :: K) rest) : M K (⟨some d, .slice t x (some y) (some z) none, ty, pos, af, g⟩ :: rest) :=
  W_val hM hN hg (fun ρ w _ hk => by
    have hv : ρ x = .slice (some ⟨b, 0, none⟩) n c := hk x (by simp [Op.operands]) _ hx
    have hyv : ρ y = .int .i64 i := hk y (by simp [Op.operands]) _ hy
    have hzv : ρ z = .int .i64 j := hk z (by simp [Op.operands]) _ hz
    obtain ⟨te, inf, hu, hinf, hsz⟩ := elemB_spec hB
    simp [execOp, hv, hyv, hzv, Instr.sliceAt, Instr.slice, Instr.sliceBounds, Instr.sliceBound, asIntOf, run_underlying hu, sizeOf_run hinf, hsz, hi.1, hi.2.2, (show 0 ≤ j by omega), (show i ≤ max j 0 by omega), (show ¬ c = i.toNat by omega), Addr.add_lit]) h
theorem W_sliceV3 (hM : Stepper P ops C N M) {x y z u : Operand} {t : TypeId} {i j l : Int} {b n c k : Nat} (hB : elemB P t k = true) (hg : wantedK ops K g = some true) (hN : Nat.blt d N = true)
    (hx : kn K x = some (.inl (.slice (some ⟨b, 0, none⟩) n c))) (hy : kn K y = some (.inl (.int .i64 i))) (hz : kn K z = some (.inl (.int .i64 j))) (hu' : kn K u = some (.inl (.int .i64 l))) (hi : 0 ≤ i ∧ i < j ∧ j ≤ l ∧ l ≤ (c : Int))
    (h : M ((d, .inl (.slice (some ⟨b, i.toNat * k, none⟩) (j.toNat - i.toNat) (l.toNat - i.toNat))) :: K) rest) : M K (⟨some d, .slice t x (some y) (some z) (some u), ty, pos, af, g⟩ :: rest) :=
  W_val hM hN hg (fun ρ w _ hk => by
    have hv : ρ x = .slice (some ⟨b, 0, none⟩) n c := hk x (by simp [Op.operands]) _ hx
    have hyv : ρ y = .int .i64 i := hk y (by simp [Op.operands]) _ hy
    have hzv : ρ z = .int .i64 j := hk z (by simp [Op.operands]) _ hz
    have huv : ρ u = .int .i64 l := hk u (by simp [Op.operands]) _ hu'
    obtain ⟨te, inf, hu, hinf, hsz⟩ := elemB_spec hB
    simp [execOp, hv, hyv, hzv, huv, Instr.sliceAt, Instr.slice, Instr.sliceBounds, Instr.sliceBound, asIntOf, run_underlying hu, sizeOf_run hinf, hsz, hi.1, hi.2.2.2, (show 0 ≤ j by omega), (show 0 ≤ l by omega), (show j ≤ max l 0 by omega), (show i ≤ max j 0 by omega), (show ¬ l.toNat = i.toNat by omega), Addr.add_lit]) h
end
end Go.Proofs.Ytikijhclakccpaa
