/- Pairs of numbers: compared, marked, held. -/
import Derived.Test.YtikijhclakccpaaRunF
namespace Go.Proofs.Ytikijhclakccpaa
set_option linter.unusedSimpArgs false
set_option linter.unusedVariables false
open Go.RowKit Go.ChangeShapes Go.WideShapes Go.ChangeAt Go.Deep
structure A2 where
  a : Int
  b : Int
instance : Inhabited A2 := ⟨⟨0, 0⟩⟩
def pA2 : Phi A2 := pCat A2.a pI (pCat A2.b pI pNil)
def A2.at (x : A2) (j : Int) : Int := if j = 0 then x.a else x.b
def oA2S : Ow (List A2) := oF 104 pA2 (by repeat (first | exact flat_nil | exact flat_I | exact flat_B | refine flat_cat ?_ ?_))
theorem pA2_c {x : A2} {c : List Value} {w : World} (h : pA2.φ x c w) : c = [.int .i64 x.a, .int .i64 x.b] := by
  obtain ⟨c1, r1, rfl, rfl, c2, r2, rfl, rfl, rfl⟩ := h
  rfl
theorem pA2_i (a b : Int) (w : World) : pA2.φ ⟨a, b⟩ [.int .i64 a, .int .i64 b] w := ⟨[_], _, rfl, rfl, [_], _, rfl, rfl, rfl⟩
section
variable {P : Program} {ops : Array Oper} {C : World → Prop} {N : Nat} {M : List (Nat × Pr) → List Oper → Prop} {K : List (Nat × Pr)} {rest : List Oper} {d : Nat} {op : Op} {ty : TypeId} {pos : String} {af : Array Edge} {g : Option (Nat × Bool)}
theorem W_idxPair (hM : Stepper P ops C N M) {z : A2} {x y : Operand} {t : TypeId} {kd : IntKind} {i : Int} (hB : arrB P t 2 1 = true) (hg : wantedK ops K g = some true) (hN : Nat.blt d N = true)
    (hx : kn K x = some (.inr (uP pA2 z))) (hy : kn K y = some (.inl (.int kd i))) (hi : 0 ≤ i ∧ i < 2) (h : M ((d, .inr (uP pI (z.at i))) :: K) rest) : M K (⟨some d, .indexAddr t x y, ty, pos, af, g⟩ :: rest) :=
  W_det hM _ hN hg (fun ρ w _ hk => by
    obtain ⟨b, o, cs, hv, hcell, hφ⟩ := hk x (by simp [Op.operands]) _ hx
    have hyv : ρ y = .int kd i := hk y (by simp [Op.operands]) _ hy
    obtain rfl := pA2_c hφ
    refine ⟨.pointer (some ⟨b, o + i.toNat * 1, none⟩), ?_, b, o + i.toNat * 1, [.int .i64 (z.at i)], rfl, fun j u hj => ?_, rfl⟩
    · unfold arrB at hB
      rw [Bool.and_eq_true] at hB
      obtain ⟨hn, hB⟩ := hB
      split at hB
      · rename_i m e hu
        split at hB
        · rename_i inf hinf
          simp only [Bool.and_eq_true] at hB
          obtain ⟨h1, h2⟩ := hB
          have h1 := Nat.eq_of_beq_eq_true h1
          have h2 := Nat.eq_of_beq_eq_true h2
          subst h1
          have hi' : 0 ≤ i ∧ i < ((2 : Nat) : Int) := hi
          simp [execOp, hv, hyv, Instr.indexAt, asIntOf, run_underlying hu, hi', sizeOf_run hinf, h2, Instr.sureAddr, Addr.add_lit]
          try omega
        · simp at hB
      · cases hB
    · have e : j = 0 := by
        cases j with
        | zero => rfl
        | succ j => simp at hj
      subst e
      simp only [List.getElem?_cons_zero, Option.some.injEq] at hj
      subst hj
      rcases (show i = 0 ∨ i = 1 by omega) with rfl | rfl
      · exact hcell 0 _ rfl
      · exact hcell 1 _ rfl) h
end
def numIntA2S (q : Int) : A2 := ⟨q + ((0 : Nat) : Int), q + ((1 : Nat) : Int)⟩
theorem num_at {q j : Int} (h : 0 ≤ j ∧ j < 2) : (numIntA2S q).at j = q + j := by
  unfold A2.at numIntA2S
  split <;> simp only [] <;> omega
end Go.Proofs.Ytikijhclakccpaa
