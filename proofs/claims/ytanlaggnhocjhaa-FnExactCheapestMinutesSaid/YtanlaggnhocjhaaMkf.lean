/- Functions as values with what they hold; boxes of slices; the greatest of three. -/
import Derived.Test.YtanlaggnhocjhaaOwnG
import Derived.Test.YtanlaggnhocjhaaInp
namespace Go.Proofs.Ytanlaggnhocjhaa
set_option linter.unusedSimpArgs false
set_option linter.unusedVariables false
open Go.RowKit Go.ChangeShapes Go.WideShapes Go.ChangeAt Go.Deep
section
variable {P : Program} {ops : Array Oper} {C : World → Prop} {Q : Exit → Act → World → Prop} {N : Nat} {M : List (Nat × Pr) → List Oper → Prop} {K : List (Nat × Pr)} {rest : List Oper} {d : Nat} {op : Op} {ty : TypeId} {pos : String} {af : Array Edge} {g : Option (Nat × Bool)}
theorem W_makeFunV (hM : Stepper P ops C N M) {f : FuncId} {xs : Array Operand} (vs : List Value) (hargs : knAll K xs.toList = some (vs.map .inl)) (hg : wantedK ops K g = some true) (hN : Nat.blt d N = true)
    (h : M ((d, .inl (.func (.func f) #[] vs.toArray)) :: K) rest) : M K (⟨some d, .makeFunc (.func f) #[] xs, ty, pos, af, g⟩ :: rest) :=
  W_det hM _ hN hg (fun ρ w hc hk => by
    have hall := knAll_ok (ρ := ρ) (w := w) xs.toList _ hargs fun x hx p hp => hk x (by simp only [Op.operands]; simpa using hx) p hp
    have key : ∀ (us : List Value) (vs : List Value), okAll (vs.map .inl) us w → us = vs := by
      intro us
      induction us with
      | nil => intro vs h; cases vs with
        | nil => rfl
        | cons v vs => simp [okAll] at h
      | cons u us ih => intro vs h; cases vs with
        | nil => simp [okAll] at h
        | cons v vs =>
          obtain ⟨h1, h2⟩ := h
          rw [show u = v from h1, ih vs h2]
    have e := key _ _ hall
    have e2 : xs.map ρ = vs.toArray := by
      apply Array.ext'
      simpa using e
    exact ⟨.func (.func f) #[] vs.toArray, by simp [execOp, Instr.makeFunc, e2], rfl⟩) h
theorem W_boxSl (hM : Stepper P ops C N M) {α : Type} {es : Option TypeId} {Φ : Phi α} {ys : List α} {x : Operand} {t : TypeId} (hg : wantedK ops K g = some true) (hN : Nat.blt d N = true) (hx : kn K x = some (.inr (uS es Φ ys)))
    (h : M ((d, .inr (uP (pS es Φ) ys)) :: K) rest) : M K (⟨some d, .box t x, ty, pos, af, g⟩ :: rest) :=
  W_gen hM _ hN hg (fun a w _ hk => by
    have hr : IsS es Φ ys (a.eval x) w := hk x (by simp [Op.operands]) _ hx
    obtain ⟨A, n, c, h1, h2⟩ := id hr
    have hop : (execOp a.eval ⟨some d, .box t x, ty, pos, af, g⟩).run P w = .ok (.value (.pointer (some ⟨w.heap.size, 0, none⟩))) (w.alloc (.cells (a.eval x).cells t)) := by
      simp [execOp, h1, go_sem, Value.cells]
    unfold gives
    rw [hop]
    refine ⟨new_ext w _, w.heap.size, 0, [a.eval x], rfl, ?_, ⟨_, rfl, IsS.up (new_ext w _) hr⟩⟩
    intro j u hj
    have hb : Blk (w.alloc (.cells (a.eval x).cells t)) w.heap.size t [a.eval x] := by
      have := Blk.new w t [a.eval x]
      rw [h1] at this ⊢
      exact this
    simpa using hb.cell hj) h
theorem W_max3 (hM : Stepper P ops C N M) {x y z : Operand} {ats : Array TypeId} {n m l : Int} (hg : wantedK ops K g = some true) (hN : Nat.blt d N = true) (hx : kn K x = some (.inl (.int .i64 n))) (hy : kn K y = some (.inl (.int .i64 m))) (hz : kn K z = some (.inl (.int .i64 l)))
    (h : M ((d, .inl (.int .i64 (max (max n m) l))) :: K) rest) : M K (⟨some d, .call { callee := .builtin .max, args := #[x, y, z], argTypes := ats }, ty, pos, af, g⟩ :: rest) :=
  W_val hM hN hg (fun ρ w _ hk => by
    have hx' : ρ x = .int .i64 n := hk x (by simp [Op.operands, Call.operands]) _ hx
    have hy' : ρ y = .int .i64 m := hk y (by simp [Op.operands, Call.operands]) _ hy
    have hz' : ρ z = .int .i64 l := hk z (by simp [Op.operands, Call.operands]) _ hz
    have e1 : (if m > n then m else n) = max n m := by split <;> omega
    have e2 : (if l > max n m then l else max n m) = max (max n m) l := by split <;> omega
    simp [execOp, resolve, invoke, builtin, hx', hy', hz', Builtin.max_, Builtin.max2, e1, e2]) h
end
end Go.Proofs.Ytanlaggnhocjhaa
