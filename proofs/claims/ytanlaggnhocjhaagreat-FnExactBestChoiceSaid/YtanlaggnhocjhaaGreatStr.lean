/- Bytes of strings; fields of structs by value; what holds of all places. -/
import Derived.Test.YtanlaggnhocjhaaGreatSep
namespace Go.Proofs.YtanlaggnhocjhaaGreat
set_option linter.unusedSimpArgs false
set_option linter.unusedVariables false
open Go.RowKit

def byI (s : ByteArray) (i : Int) : Int := (s[i.toNat]?.map fun b : UInt8 => (b.toNat : Int)).getD 0
def eqS (a b : ByteArray) : Bool := a.toList == b.toList
theorem eqS_comm (a b : ByteArray) : eqS a b = eqS b a := by
  unfold eqS
  rw [Bool.eq_iff_iff, beq_iff_eq, beq_iff_eq]
  exact eq_comm
def allB (n : Nat) (p : Int → Bool) : Bool := (List.range n).all fun j : Nat => p (j : Int)
theorem allB_t {n : Nat} {p : Int → Bool} : (allB n p = true) ↔ ∀ j : Nat, (j : Int) < n → p j = true := by
  simp [allB, List.all_eq_true]
theorem allB_y {n : Nat} {p : Int → Bool} {i : Int} (hi : (n : Int) ≤ i) (h : ∀ j : Nat, (j : Int) < i → p j = true) : allB n p = true := allB_t.2 fun j hj => h j (by omega)
theorem allB_f {n : Nat} {p : Int → Bool} {i : Int} (h0 : 0 ≤ i) (h1 : i < n) (h : p i = false) : allB n p = false := by
  cases hl : allB n p with
  | false => rfl
  | true =>
    have := allB_t.1 hl i.toNat (by omega)
    rw [show ((i.toNat : Nat) : Int) = i by omega, h] at this
    cases this
theorem allB_at {n : Nat} {p : Int → Bool} (h : allB n p = true) {i : Int} (h0 : 0 ≤ i) (h1 : i < n) : p i = true := by
  have := allB_t.1 h i.toNat (by omega)
  rwa [show ((i.toNat : Nat) : Int) = i by omega] at this
section
variable {P : Program} {ops : Array Oper} {C : World → Prop} {N : Nat} {M : List (Nat × Pr) → List Oper → Prop} {K : List (Nat × Pr)} {rest : List Oper} {d : Nat} {op : Op} {ty : TypeId} {pos : String} {af : Array Edge} {g : Option (Nat × Bool)}
theorem W_strIdx (hM : Stepper P ops C N M) {s : ByteArray} {x y : Operand} {t : TypeId} {k : IntKind} {i : Int} (hB : stringB P t = true) (hg : wantedK ops K g = some true) (hN : Nat.blt d N = true) (hx : kn K x = some (.inl (.string s))) (hy : kn K y = some (.inl (.int k i))) (hi : 0 ≤ i ∧ i < (s.size : Int))
    (h : M ((d, .inl (.int .u8 (byI s i))) :: K) rest) : M K (⟨some d, .index t x y, ty, pos, af, g⟩ :: rest) :=
  W_val hM hN hg (fun ρ w _ hk => by
    have hv : ρ x = .string s := hk x (by simp [Op.operands]) _ hx
    have hyv : ρ y = .int k i := hk y (by simp [Op.operands]) _ hy
    have hlt : i.toNat < s.size := by omega
    unfold stringB at hB
    cases hu : P.underlying t with
    | none => rw [hu] at hB; cases hB
    | some dd =>
      rw [hu] at hB
      cases dd <;> first | (simp at hB; done) | skip
      have hb : s[i.toNat]? = some s[i.toNat] := by simp [hlt]
      simp only [execOp, hv, hyv, Instr.index, asIntOf, Sem.run_bind, Sem.run_pure, Result.andThen_ok, run_underlying hu, if_pos hi.1, hb, byI]
      rfl) h
/-- A scalar field of a struct by value. -/
def fieldV (P : Program) (t : TypeId) (i off : Nat) : Bool := match P.underlying t with
  | some (.struct fs) => match fs[i]? with
    | some f => Nat.beq f.offset off && scalarB P f.type
    | none => false
  | _ => false
theorem run_fieldV {ρ : Operand → Value} {x : Operand} {w : World} {t : TypeId} {i off : Nat} {cs : List Value} {v : Value} (hB : fieldV P t i off = true) (hx : ρ x = .agg cs.toArray) (hv : cs[off]? = some v) : (execOp ρ ⟨some d, .field t x i, ty, pos, af, g⟩).run P w = .ok (.value v) w := by
  unfold fieldV at hB
  split at hB
  · rename_i fs hfs
    split at hB
    · rename_i f hf
      simp only [Bool.and_eq_true] at hB
      obtain ⟨h1, h2⟩ := hB
      have hoff := Nat.eq_of_beq_eq_true h1
      simp [execOp, hx, Instr.field, run_underlying hfs, hf, part, isAgg_false h2, hoff, asAgg, hv]
    · cases hB
  · cases hB
theorem W_fieldVS (hM : Stepper P ops C N M) {α β : Type} {Φ : Phi α} {e : Option TypeId} {Ψ : Phi β} {z : α} {q : α → List β} {x : Operand} {t : TypeId} {i off : Nat} (hp : Proj Φ off (pS e Ψ) q) (hB : fieldV P t i off = true) (hg : wantedK ops K g = some true) (hN : Nat.blt d N = true) (hx : kn K x = some (.inr (uA Φ z)))
    (h : M ((d, .inr (uS e Ψ (q z))) :: K) rest) : M K (⟨some d, .field t x i, ty, pos, af, g⟩ :: rest) :=
  W_det hM _ hN hg (fun ρ w _ hk => by
    obtain ⟨cs, hv, hφ⟩ := hk x (by simp [Op.operands]) _ hx
    obtain ⟨c, hc, v, rfl, hs⟩ := hp _ _ _ hφ
    exact ⟨v, run_fieldV hB hv (by have := hc 0 v rfl; simpa using this), hs⟩) h
end
theorem mk_I : ∀ z cs w, pI.φ z cs w → cs = [(fun n : Int => Value.int .i64 n) z] := fun _ _ _ h => h
theorem mk_Str : ∀ z cs w, pStr.φ z cs w → cs = [(fun n : ByteArray => Value.string n) z] := fun _ _ _ h => h
end Go.Proofs.YtanlaggnhocjhaaGreat
