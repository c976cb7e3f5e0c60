/- Local structs; slices that are nil or not. -/
import Derived.Test.YtanlaggnhocjhaaVals
namespace Go.Proofs.Ytanlaggnhocjhaa
set_option linter.unusedSimpArgs false
set_option linter.unusedVariables false
open Go.RowKit Go.ChangeShapes Go.WideShapes Go.ChangeAt Go.Deep
section
variable {P : Program} {ops : Array Oper} {C : World → Prop} {N : Nat} {M : List (Nat × Pr) → List Oper → Prop} {K : List (Nat × Pr)} {rest : List Oper} {d : Nat} {op : Op} {ty : TypeId} {pos : String} {af : Array Edge} {g : Option (Nat × Bool)}
theorem W_eqlNil (hM : Stepper P ops C N M) {α : Type} {Ψ : Phi α} {xs : List α} {es : Option TypeId} {x y : Operand} {t t' e : TypeId} (hu : P.underlying t = some (.slice e)) (hg : wantedK ops K g = some true) (hN : Nat.blt d N = true) (hx : kn K x = some (.inr (uS es Ψ xs))) (hy : kn K y = some (.inl (.slice none 0 0))) (hp : 0 < xs.length)
    (h : M ((d, .inl (.bool false)) :: K) rest) : M K (⟨some d, .binOp .eql t x y t', ty, pos, af, g⟩ :: rest) :=
  W_val hM hN hg (fun ρ w _ hk => by
    obtain ⟨A, n, c, hv, hn, _, _, hall⟩ : IsS es Ψ xs (ρ x) w := hk x (by simp [Op.operands]) _ hx
    have hyv : ρ y = .slice none 0 0 := hk y (by simp [Op.operands]) _ hy
    obtain ⟨b, o, _, hA, _⟩ := hall 0 _ (List.getElem?_eq_getElem hp)
    subst hA
    have hr := run_equal_slice_nil (P := P) w t e (some ⟨b, o, none⟩) n c hu
    have hb : (binOp .eql t (.slice (some ⟨b, o, none⟩) n c) (.slice none 0 0)).run P w = .ok (.bool false) w := by
      simp only [binOp]
      simp [hr]
    simp [execOp, hv, hyv, eqGuard, hb, Result.andThen]) h
end
section
variable {P : Program} {ops : Array Oper} {Q : Exit → Act → World → Prop} {N : Nat} {M : List (Nat × Pr) → List Oper → Prop} {K : List (Nat × Pr)} {rest : List Oper} {d : Nat} {op : Op} {ty : TypeId} {pos : String} {af : Array Edge} {g : Option (Nat × Bool)} {w0 : World} {L : List Osl}
/-- The same for a local struct. -/
theorem W_load1 (m : Nat) (hM : Stepper P ops (Sep w0 L) N M) {α β : Type} [Inhabited α] {e : TypeId} {Ψ : Phi α} {Θ : Phi β} {q : α → β} {z : α} {v : Value} {x : Operand} {t : TypeId} {off ks : Nat} (mkv : β → Value) (hm : L[m]? = some (.sl α e Ψ [z] v)) (hp : Proj Ψ off Θ q) (hmk : ∀ z cs w, Θ.φ z cs w → cs = [mkv z]) (hks : ks = Ψ.k)
    (hB : scalarB P t = true) (hg : wantedK ops K g = some true) (hN : Nat.blt d N = true) (hx : kn K x = some (.inl (ptrAt v 0 ks off))) (h : M ((d, .inl (mkv (q z))) :: K) rest) : M K (⟨some d, .load t x, ty, pos, af, g⟩ :: rest) :=
  W_loadS1 m hM mkv hm hp hmk hks ⟨by simp, by simp⟩ hB hg hN hx h
theorem W_load1A (m : Nat) (hM : Stepper P ops (Sep w0 L) N M) {α : Type} [Inhabited α] {e : TypeId} {Ψ : Phi α} {z : α} {v : Value} {x : Operand} {t : TypeId} {ks : Nat} (hm : L[m]? = some (.sl α e Ψ [z] v)) (hks : ks = Ψ.k)
    (hB : aggB P t Ψ.k = true) (hg : wantedK ops K g = some true) (hN : Nat.blt d N = true) (hx : kn K x = some (.inl (ptrAt v 0 ks 0))) (h : M ((d, .inr (uA Ψ z)) :: K) rest) : M K (⟨some d, .load t x, ty, pos, af, g⟩ :: rest) :=
  W_loadSA m hM hm hks ⟨by simp, by simp⟩ hB hg hN hx h
theorem Sq_storeO1 (m : Nat) {α : Type} [Inhabited α] {e : TypeId} {Ψ : Phi α} {z : α} {v : Value} {x y : Operand} {t : TypeId} {off ks n : Nat} {p : Pr} (z' : α) (hm : L[m]? = some (.sl α e Ψ [z] v)) (hav : avAll L e) (hks : ks = Ψ.k) (hsz : allocB P t n = true) (hoff : off + n ≤ Ψ.k)
    (hy : kn K y = some (.inl (ptrAt v 0 ks off))) (hx : kn K x = some p) (hp : ∀ u w c, p.ok u w → Ψ.φ z c w → ∃ vs : List Value, u.cells = vs.toArray ∧ vs.length = n ∧ (∀ r ∈ vs, r.oneCell' = true) ∧ Ψ.φ z' (putL c off vs) w)
    (h : Sq P ops N (Sep w0 (L.set m (.sl α e Ψ [z'] v))) Q (dropR K) rest) : Sq P ops N (Sep w0 L) Q K (⟨none, .store t y x, ty, pos, af, none⟩ :: rest) :=
  Sq_storeS m z' hm hav ⟨by simp, by simp⟩ hks hsz hoff hy hx hp h
end
theorem isS_emp {α β : Type} {e : Option TypeId} {Φ : Phi α} {Ψ : Phi β} {v : Value} {w : World} (h : IsS e Φ [] v w) : IsS e Ψ [] v w := by
  obtain ⟨A, n, c, h1, h2, h3, h4, _⟩ := h
  exact ⟨A, n, c, h1, h2, h3, h4, fun i x h => by simp at h⟩
section
variable {P : Program} {ops : Array Oper} {C : World → Prop} {N : Nat} {M : List (Nat × Pr) → List Oper → Prop} {K : List (Nat × Pr)} {rest : List Oper} {d : Nat} {op : Op} {ty : TypeId} {pos : String} {af : Array Edge} {g : Option (Nat × Bool)}
theorem W_eqlNilV (hM : Stepper P ops C N M) {A : Option Addr} {n c : Nat} {x y : Operand} {t t' e : TypeId} (hu : P.underlying t = some (.slice e)) (hg : wantedK ops K g = some true) (hN : Nat.blt d N = true) (hx : kn K x = some (.inl (.slice A n c))) (hy : kn K y = some (.inl (.slice none 0 0)))
    (h : M ((d, .inl (.bool A.isNone)) :: K) rest) : M K (⟨some d, .binOp .eql t x y t', ty, pos, af, g⟩ :: rest) :=
  W_val hM hN hg (fun ρ w _ hk => by
    have hv : ρ x = .slice A n c := hk x (by simp [Op.operands]) _ hx
    have hyv : ρ y = .slice none 0 0 := hk y (by simp [Op.operands]) _ hy
    have hr := run_equal_slice_nil (P := P) w t e A n c hu
    have hb : (binOp .eql t (.slice A n c) (.slice none 0 0)).run P w = .ok (.bool A.isNone) w := by
      simp only [binOp]
      simp [hr]
    simp [execOp, hv, hyv, eqGuard, hb, Result.andThen]) h
end
end Go.Proofs.Ytanlaggnhocjhaa
