/- Insertion of one more; a list's own copy under another name. -/
import Derived.Test.YtikijhclakccpaaGreatIns
namespace Go.Proofs.YtikijhclakccpaaGreat
set_option linter.unusedSimpArgs false
set_option linter.unusedVariables false
open Go.RowKit Go.ChangeShapes Go.WideShapes Go.ChangeAt Go.Deep
theorem ix_map {α β : Type} [Inhabited α] [Inhabited β] {g : α → β} (hd : g default = default) {xs : List α} {i : Int} : ix (xs.map g) i = g (ix xs i) := by
  unfold ix
  rw [List.getD_eq_getElem?_getD, List.getD_eq_getElem?_getD, List.getElem?_map]
  cases xs[i.toNat]? with
  | none => simp [hd]
  | some x => simp
theorem insAt_map {α β : Type} {g : α → β} {xs : List α} {k : Nat} {z : α} : insAt (xs.map g) k (g z) = (insAt xs k z).map g := by simp [insAt, List.map_take, List.map_drop]
theorem isort_snoc {α : Type} [Inhabited α] {lt : α → α → Bool} {xs : List α} {x : α} : isortL lt (xs ++ [x]) = insR lt (isortL lt xs) x := by
  rw [isortL, List.foldl_append]
  rfl
theorem uF_own {α : Type} {e : TypeId} {Φ : Phi α} {hfl : Flat Φ} {s : Nat} {v : Value} {w : World} (h : (uF e Φ ([] : List α)).R v w) : (uO s (oF e Φ hfl) []).R v w := by
  obtain ⟨p, rfl, _⟩ := h
  exact ⟨fun _ => False, fun b hb => hb.elim, none, 0, 0, [], ⟨p, rfl, .inr ⟨rfl, rfl⟩⟩, rfl, Nat.le_refl _, Nat.zero_le _, by simp, rfl, (fun g hg => by cases hg), (fun _ => rfl), ls_nil⟩
section
variable {P : Program} {ops : Array Oper} {C : World → Prop} {N : Nat} {M : List (Nat × Pr) → List Oper → Prop} {K : List (Nat × Pr)} {rest : List Oper} {d : Nat} {op : Op} {ty : TypeId} {pos : String} {af : Array Edge} {g : Option (Nat × Bool)}
theorem W_moveU (hM : Stepper P ops C N M) {x : Operand} {U : UR} (U' : UR) (hU : ∀ v w, U.R v w → U'.R v w) (hg : wantedK ops K g = some true) (hN : Nat.blt d N = true) (hx : kn K x = some (.inr U)) (h : M ((d, .inr U') :: K) rest) : M K (⟨some d, .move x, ty, pos, af, g⟩ :: rest) :=
  W_det hM (.inr U') hN hg (fun ρ w _ hk => ⟨ρ x, by simp [execOp], hU _ _ (hk x (by simp [Op.operands]) _ hx)⟩) h
end
end Go.Proofs.YtikijhclakccpaaGreat
