/- A copy of a new slice's value in the head of a region that draws its order; functions as values with what they hold; boxes of slices. -/
import Derived.Test.YtmmemadlnjjdmaaOwnG
import Derived.Test.YtmmemadlnjjdmaaSplit
namespace Go.Proofs.Ytmmemadlnjjdmaa
set_option linter.unusedSimpArgs false
set_option linter.unusedVariables false
open Go.RowKit Go.ChangeShapes Go.WideShapes Go.ChangeAt Go.Deep
def FEq (s d : Nat) (a : Act) (_ : World) : Prop := a.tmps[d]? = a.tmps[s]?
section
variable {P : Program} {ops : Array Oper} {C : World → Prop} {Q : Exit → Act → World → Prop} {N : Nat} {M : List (Nat × Pr) → List Oper → Prop} {K : List (Nat × Pr)} {tl rest : List Oper} {FS : List Nat} {Fs : List (Act → World → Prop)} {d : Nat} {op : Op} {ty : TypeId} {pos : String} {af : Array Edge} {g : Option (Nat × Bool)}
theorem G_copy {s : Nat} {U : UR} (hN : Nat.blt d N = true) (hne : Nat.beq s d = false) (hx : kn K (.tmp s) = some (.inr U))
    (h : WG P ops N C Q tl FS (FEq s d :: Fs) ((d, .inr U) :: K) rest) : WG P ops N C Q tl FS Fs K (⟨some d, .assign (.tmp s), ty, pos, af, none⟩ :: rest) := by
  have hsd : s ≠ d := fun e => by subst e; rw [Nat.beq_refl] at hne; cases hne
  refine wkG_step (F := FEq s d) (f := false) (R := .inr U) rfl (fun a w f v w' hnf hlk hF _ => ?_) (fun a w hc hk hsz => ?_) (by simpa using h)
  · have h4 : f ≠ d := fun h => hnf (by simp [h])
    have h5 : f ≠ s := fun h => hlk (List.mem_append_left _ (List.mem_filterMap.2 ⟨.tmp s, by simp [Op.operands], by rw [h]⟩))
    unfold FEq at hF ⊢
    simp [Act.put, Array.getElem?_setIfInBounds, h4, h5, hF]
  · rw [if_pos (by rfl)]
    have hmem : (.tmp s : Operand) ∈ (Op.assign (.tmp s)).operands := by simp [Op.operands]
    have hok : U.R (a.eval (.tmp s)) w := kn_ok (ops := ops) (op := .assign (.tmp s)) hmem hx hk
    obtain ⟨u, hu, _⟩ := hk s (List.mem_append_left _ (List.mem_filterMap.2 ⟨.tmp s, by simpa using hmem, rfl⟩)) _ hx
    have hev : a.eval (.tmp s) = u := by simp [Act.eval, hu]
    have hop : (execOp a.eval ⟨some d, .assign (.tmp s), ty, pos, af, none⟩).run P w = .ok (.value (a.eval (.tmp s))) w := by simp [execOp]
    unfold gives
    rw [hop]
    obtain ⟨d', hd', hdl⟩ := hsz
    obtain rfl : d = d' := by simpa using hd'
    refine ⟨Ext.refl w, hok, ?_, fun h => by cases h⟩
    unfold FEq
    rw [hev]
    have h1 : (a.put (some d) u).tmps[d]? = some u := by simp [Act.put, Array.getElem?_setIfInBounds, hdl]
    have h2 : (a.put (some d) u).tmps[s]? = some u := by simp [Act.put, Array.getElem?_setIfInBounds, Ne.symm hsd, hu]
    exact h1.trans h2.symm
theorem FEq.know {s d : Nat} {v : Value} {a : Act} {w : World} (h : FEq s d a w) (hs : St N K C a w) (hk : lookK K s = some (.inl v)) : a.tmps[d]? = some v := by
  obtain ⟨u, hu, e⟩ := hs.slots s _ hk
  obtain rfl : u = v := e
  exact h.trans hu
/-- A function with what it holds, all known by value. -/
theorem W_makeFunV (hM : Stepper P ops C N M) {f : FuncId} {xs : Array Operand} (vs : List Value) (hargs : knAll K xs.toList = some (vs.map .inl)) (hg : wantedK ops K g = some true) (hN : Nat.blt d N = true)
    (h : M ((d, .inl (.func (.func f) #[] vs.toArray)) :: K) rest) : M K (⟨some d, .makeFunc (.func f) #[] xs, ty, pos, af, g⟩ :: rest) :=
  W_det hM _ hN hg (fun ρ w hc hk => by
    have hall := knAll_ok (ρ := ρ) (w := w) xs.toList _ hargs fun x hx p hp => hk x (by simp only [Op.operands]; simpa using hx) p hp
    have key : ∀ (us : List Value) (vs : List Value), okAll (vs.map .inl) us w → us = vs := by
      intro us
      induction us with
      | nil => intro vs h; cases vs with
        | nil => rfl
        | cons v vs => simp [okAll] at h
      | cons u us ih => intro vs h; cases vs with
        | nil => simp [okAll] at h
        | cons v vs =>
          obtain ⟨h1, h2⟩ := h
          rw [show u = v from h1, ih vs h2]
    have e := key _ _ hall
    have e2 : xs.map ρ = vs.toArray := by
      apply Array.ext'
      simpa using e
    exact ⟨.func (.func f) #[] vs.toArray, by simp [execOp, Instr.makeFunc, e2], rfl⟩) h
theorem W_boxI (hM : Stepper P ops C N M) {n : Int} {x : Operand} {t : TypeId} (hg : wantedK ops K g = some true) (hN : Nat.blt d N = true) (hx : kn K x = some (.inl (.int .i64 n)))
    (h : M ((d, .inr (uP pI n)) :: K) rest) : M K (⟨some d, .box t x, ty, pos, af, g⟩ :: rest) :=
  W_gen hM _ hN hg (fun a w hc hk => by
    have hv : a.eval x = .int .i64 n := hk x (by simp [Op.operands]) _ hx
    unfold gives
    have hr : ∀ ρ : Operand → Value, ρ x = .int .i64 n → (execOp ρ ⟨some d, .box t x, ty, pos, af, g⟩).run P w = .ok (.value (.pointer (some ⟨w.heap.size, 0, none⟩))) (w.alloc (.cells ([Value.int .i64 n] : List Value).toArray t)) := fun ρ hv => by
      simp [execOp, hv, go_sem, Value.cells]
    rw [hr _ hv]
    refine ⟨new_ext w _, w.heap.size, 0, [.int .i64 n], rfl, fun j u hu => ?_, rfl⟩
    rw [Nat.zero_add]
    exact (Blk.new w t [.int .i64 n]).cell hu) h
theorem W_boxSl (hM : Stepper P ops C N M) {α : Type} {es : Option TypeId} {Φ : Phi α} {ys : List α} {x : Operand} {t : TypeId} (hg : wantedK ops K g = some true) (hN : Nat.blt d N = true) (hx : kn K x = some (.inr (uS es Φ ys)))
    (h : M ((d, .inr (uP (pS es Φ) ys)) :: K) rest) : M K (⟨some d, .box t x, ty, pos, af, g⟩ :: rest) :=
  W_gen hM _ hN hg (fun a w _ hk => by
    have hr : IsS es Φ ys (a.eval x) w := hk x (by simp [Op.operands]) _ hx
    obtain ⟨A, n, c, h1, h2⟩ := id hr
    have hop : (execOp a.eval ⟨some d, .box t x, ty, pos, af, g⟩).run P w = .ok (.value (.pointer (some ⟨w.heap.size, 0, none⟩))) (w.alloc (.cells (a.eval x).cells t)) := by
      simp [execOp, h1, go_sem, Value.cells]
    unfold gives
    rw [hop]
    refine ⟨new_ext w _, w.heap.size, 0, [a.eval x], rfl, ?_, ⟨_, rfl, IsS.up (new_ext w _) hr⟩⟩
    intro j u hj
    have hb : Blk (w.alloc (.cells (a.eval x).cells t)) w.heap.size t [a.eval x] := by
      have := Blk.new w t [a.eval x]
      rw [h1] at this ⊢
      exact this
    simpa using hb.cell hj) h
end
end Go.Proofs.Ytmmemadlnjjdmaa
