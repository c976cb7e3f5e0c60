/- Parts of slices of numbers of one's own; a local struct as something that is read; structs by literal. -/
import Derived.Test.YtanlaggnhocjhaaOwnG
namespace Go.Proofs.Ytanlaggnhocjhaa
set_option linter.unusedSimpArgs false
set_option linter.unusedVariables false
open Go.RowKit Go.ChangeShapes Go.WideShapes Go.ChangeAt Go.Deep
def subV (v : Value) (lo n : Int) : Value := match v with | .slice (some a) _ c => .slice (some ⟨a.block, lo.toNat, none⟩) n.toNat (c - lo.toNat) | _ => undef
section
variable {P : Program} {ops : Array Oper} {C : World → Prop} {Q : Exit → Act → World → Prop} {N : Nat} {M : List (Nat × Pr) → List Oper → Prop} {K : List (Nat × Pr)} {rest : List Oper} {d : Nat} {op : Op} {ty : TypeId} {pos : String} {af : Array Edge} {g : Option (Nat × Bool)} {w0 : World} {L : List Osl}
theorem W_sliceSV (m : Nat) (hM : Stepper P ops (Sep w0 L) N M) {e : TypeId} {xs : List Int} {v : Value} {x y z : Operand} {t : TypeId} {i j : Int} (hm : L[m]? = some (.sl Int e pI xs v)) (hB : elemB P t 1 = true) (hg : wantedK ops K g = some true) (hN : Nat.blt d N = true)
    (hx : kn K x = some (.inl v)) (hy : kn K y = some (.inl (.int .i64 i))) (hz : kn K z = some (.inl (.int .i64 j))) (hi : 0 ≤ i ∧ i < j ∧ j ≤ (xs.length : Int))
    (h : M ((d, .inl (subV v i (j - i))) :: K) rest) : M K (⟨some d, .slice t x (some y) (some z) none, ty, pos, af, g⟩ :: rest) :=
  W_val hM hN hg (fun ρ w hc hk => by
    have hv : ρ x = v := hk x (by simp [Op.operands]) _ hx
    have hyv : ρ y = .int .i64 i := hk y (by simp [Op.operands]) _ hy
    have hzv : ρ z = .int .i64 j := hk z (by simp [Op.operands]) _ hz
    obtain ⟨b, c, cs, rfl, hn, _⟩ := hc.slc hm (by omega)
    obtain ⟨te, inf, hu, hinf, hsz⟩ := elemB_spec hB
    have e1 : (j - i).toNat = j.toNat - i.toNat := by omega
    simp [execOp, hv, hyv, hzv, Instr.sliceAt, Instr.slice, Instr.sliceBounds, Instr.sliceBound, asIntOf, run_underlying hu, sizeOf_run hinf, hsz, hi.1, (show j ≤ (c : Int) by omega), (show 0 ≤ j by omega), (show i ≤ max j 0 by omega), (show ¬ c = i.toNat by omega), Addr.add_lit, subV, e1]) h
theorem W_idxSV (m : Nat) (hM : Stepper P ops (Sep w0 L) N M) {e : TypeId} {xs : List Int} {v : Value} {x y : Operand} {t : TypeId} {k : IntKind} {lo n i : Int} (hm : L[m]? = some (.sl Int e pI xs v)) (hB : elemB P t 1 = true) (hg : wantedK ops K g = some true) (hN : Nat.blt d N = true)
    (hx : kn K x = some (.inl (subV v lo n))) (hy : kn K y = some (.inl (.int k i))) (hi : 0 ≤ lo ∧ 0 ≤ i ∧ i < n ∧ lo + n ≤ (xs.length : Int)) (h : M ((d, .inl (ptrAt v (lo + i) 1 0)) :: K) rest) : M K (⟨some d, .indexAddr t x y, ty, pos, af, g⟩ :: rest) :=
  W_val hM hN hg (fun ρ w hc hk => by
    have hv : ρ x = subV v lo n := hk x (by simp [Op.operands]) _ hx
    have hyv : ρ y = .int k i := hk y (by simp [Op.operands]) _ hy
    obtain ⟨b, c, cs, rfl, hn, _⟩ := hc.slc hm (by omega)
    obtain ⟨te, inf, hu, hinf, hsz⟩ := elemB_spec hB
    have e1 : (lo + i).toNat = lo.toNat + i.toNat := by omega
    simp [execOp, hv, hyv, Instr.indexAt, asIntOf, run_underlying hu, (show 0 ≤ i ∧ i < max n 0 by omega), sizeOf_run hinf, hsz, Addr.add_lit, ptrAt, ptrOf, subV, e1]) h
theorem W_lenSV (m : Nat) (hM : Stepper P ops (Sep w0 L) N M) {e : TypeId} {xs : List Int} {v : Value} {x : Operand} {t : TypeId} {lo n : Int} (hm : L[m]? = some (.sl Int e pI xs v)) (hp : 0 < (xs.length : Int)) (h0 : 0 ≤ n) (hB : sliceB P t = true) (hg : wantedK ops K g = some true) (hN : Nat.blt d N = true) (hx : kn K x = some (.inl (subV v lo n)))
    (h : M ((d, .inl (.int .i64 n)) :: K) rest) : M K (⟨some d, .call { callee := .builtin .len, args := #[x], argTypes := #[t] }, ty, pos, af, g⟩ :: rest) :=
  W_val hM hN hg (fun ρ w hc hk => by
    have hv : ρ x = subV v lo n := hk x (by simp [Op.operands, Call.operands]) _ hx
    obtain ⟨b, c, cs, rfl, hn, _⟩ := hc.slc hm hp
    unfold sliceB at hB
    cases hu : P.underlying t with
    | none => rw [hu] at hB; cases hB
    | some dd =>
      rw [hu] at hB
      cases dd <;> first | (simp at hB; done) | skip
      have e1 : max n 0 = n := by omega
      simp [execOp, resolve, invoke, builtin, Builtin.len_, run_underlying hu, hv, goInt, subV, e1]) h
theorem Sep.subS {w : World} (h : Sep w0 L w) {m : Nat} {e : TypeId} {xs : List Int} {v : Value} {lo n : Int} (hm : L[m]? = some (.sl Int e pI xs v)) (hi : 0 ≤ lo ∧ 0 < n ∧ lo + n ≤ (xs.length : Int)) : IsS (some e) pI ((xs.drop lo.toNat).take n.toNat) (subV v lo n) w := by
  obtain ⟨b, c, cs, rfl, hn, hcl, hls, hb⟩ := h.slc hm (by omega)
  obtain ⟨A, c', cs', ⟨p, hp1, _⟩, _, hcm, _⟩ := h.get hm
  injection hp1 with _ _ hcc
  have hk : pI.k = 1 := rfl
  rw [hk] at hcl
  refine ⟨some ⟨b, lo.toNat, none⟩, n.toNat, c - lo.toNat, rfl, by simp; omega, by omega, by omega, fun i x hx => ?_⟩
  have hx' : xs[lo.toNat + i]? = some x ∧ i < n.toNat := by
    rw [List.getElem?_take] at hx
    split at hx
    · rw [List.getElem?_drop] at hx
      exact ⟨hx, by assumption⟩
    · cases hx
  have hl := hls (lo.toNat + i) x hx'.1
  rw [hk, Nat.mul_one] at hl
  refine ⟨b, lo.toNat, (cs.drop (lo.toNat + i)).take 1, rfl, fun j u hu => ?_, hl, ?_⟩
  · have := take_drop_get hu
    rw [hk, Nat.mul_one]
    exact hb.cell (by rw [← Nat.add_assoc]; exact this)
  · exact fun e' he' => by
      injection he' with he'
      subst he'
      exact ⟨_, _, hb⟩
/-- A local struct, and a place of a slice of structs, as something that is read. -/
theorem Sep.uPl {w : World} (h : Sep w0 L w) {m : Nat} {α : Type} [Inhabited α] {e : TypeId} {Ψ : Phi α} {z : α} {v : Value} (hm : L[m]? = some (.sl α e Ψ [z] v)) : (uP Ψ z).R (ptrAt v 0 Ψ.k 0) w := by
  obtain ⟨b, c, h1, h2, h3⟩ := h.cell hm (proj_self (Ψ := Ψ)) (i := 0) ⟨by simp, by simp⟩
  rw [h1]
  exact ⟨b, _, c, rfl, h2, h3⟩
theorem W_build3 (hM : Stepper P ops C N M) {α : Type} (Ψ : Phi α) (z : α) {x0 x1 x2 : Operand} {v0 v1 v2 : Value} {t : TypeId} (cs : List Value) (h0 : kn K x0 = some (.inl v0)) (h1 : kn K x1 = some (.inl v1)) (h2 : kn K x2 = some (.inl v2))
    (hb : P.built t [(0, v0), (1, v1), (2, v2)] = some cs.toArray) (hφ : ∀ w, Ψ.φ z cs w) (hg : wantedK ops K g = some true) (hN : Nat.blt d N = true)
    (h : M ((d, .inr (uA Ψ z)) :: K) rest) : M K (⟨some d, .build t #[(0, x0), (1, x1), (2, x2)], ty, pos, af, g⟩ :: rest) :=
  W_det hM (.inr (uA Ψ z)) hN hg (fun ρ w _ hk => ⟨.agg cs.toArray, by
    have e0 : ρ x0 = v0 := hk x0 (by simp [Op.operands]) _ h0
    have e1 : ρ x1 = v1 := hk x1 (by simp [Op.operands]) _ h1
    have e2 : ρ x2 = v2 := hk x2 (by simp [Op.operands]) _ h2
    have hr := Go.run_build (P := P) w t #[(0, v0), (1, v1), (2, v2)] cs.toArray hb
    simp [execOp, e0, e1, e2, hr], cs, rfl, hφ w⟩) h
theorem W_sliceSVTo (m : Nat) (hM : Stepper P ops (Sep w0 L) N M) {e : TypeId} {xs : List Int} {v : Value} {x z : Operand} {t : TypeId} {j : Int} (hm : L[m]? = some (.sl Int e pI xs v)) (hp : 0 < (xs.length : Int)) (hB : elemB P t 1 = true) (hg : wantedK ops K g = some true) (hN : Nat.blt d N = true)
    (hx : kn K x = some (.inl v)) (hz : kn K z = some (.inl (.int .i64 j))) (hi : 0 ≤ j ∧ j ≤ (xs.length : Int))
    (h : M ((d, .inl (subV v 0 j)) :: K) rest) : M K (⟨some d, .slice t x none (some z) none, ty, pos, af, g⟩ :: rest) :=
  W_val hM hN hg (fun ρ w hc hk => by
    have hv : ρ x = v := hk x (by simp [Op.operands]) _ hx
    have hzv : ρ z = .int .i64 j := hk z (by simp [Op.operands]) _ hz
    obtain ⟨b, c, cs, rfl, hn, _⟩ := hc.slc hm hp
    obtain ⟨te, inf, hu, hinf, hsz⟩ := elemB_spec hB
    simp [execOp, hv, hzv, Instr.sliceAt, Instr.slice, Instr.sliceBounds, Instr.sliceBound, asIntOf, run_underlying hu, sizeOf_run hinf, hsz, hi.1, (show j ≤ (c : Int) by omega), Addr.add_lit, subV]) h
end
end Go.Proofs.Ytanlaggnhocjhaa
