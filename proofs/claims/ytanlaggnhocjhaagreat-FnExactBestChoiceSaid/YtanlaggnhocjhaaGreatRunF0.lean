/- Local structs; slices that are nil or not. -/
import Derived.Test.YtanlaggnhocjhaaGreatVals
namespace Go.Proofs.YtanlaggnhocjhaaGreat
set_option linter.unusedSimpArgs false
set_option linter.unusedVariables false
open Go.RowKit Go.ChangeShapes Go.WideShapes Go.ChangeAt Go.Deep
section
variable {P : Program} {ops : Array Oper} {C : World → Prop} {N : Nat} {M : List (Nat × Pr) → List Oper → Prop} {K : List (Nat × Pr)} {rest : List Oper} {d : Nat} {op : Op} {ty : TypeId} {pos : String} {af : Array Edge} {g : Option (Nat × Bool)}
end
section
variable {P : Program} {ops : Array Oper} {Q : Exit → Act → World → Prop} {N : Nat} {M : List (Nat × Pr) → List Oper → Prop} {K : List (Nat × Pr)} {rest : List Oper} {d : Nat} {op : Op} {ty : TypeId} {pos : String} {af : Array Edge} {g : Option (Nat × Bool)} {w0 : World} {L : List Osl}
/-- The same for a local struct. -/
theorem W_load1 (m : Nat) (hM : Stepper P ops (Sep w0 L) N M) {α β : Type} [Inhabited α] {e : TypeId} {Ψ : Phi α} {Θ : Phi β} {q : α → β} {z : α} {v : Value} {x : Operand} {t : TypeId} {off ks : Nat} (mkv : β → Value) (hm : L[m]? = some (.sl α e Ψ [z] v)) (hp : Proj Ψ off Θ q) (hmk : ∀ z cs w, Θ.φ z cs w → cs = [mkv z]) (hks : ks = Ψ.k)
    (hB : scalarB P t = true) (hg : wantedK ops K g = some true) (hN : Nat.blt d N = true) (hx : kn K x = some (.inl (ptrAt v 0 ks off))) (h : M ((d, .inl (mkv (q z))) :: K) rest) : M K (⟨some d, .load t x, ty, pos, af, g⟩ :: rest) :=
  W_loadS1 m hM mkv hm hp hmk hks ⟨by simp, by simp⟩ hB hg hN hx h
theorem Sq_storeO1 (m : Nat) {α : Type} [Inhabited α] {e : TypeId} {Ψ : Phi α} {z : α} {v : Value} {x y : Operand} {t : TypeId} {off ks n : Nat} {p : Pr} (z' : α) (hm : L[m]? = some (.sl α e Ψ [z] v)) (hav : avAll L e) (hks : ks = Ψ.k) (hsz : allocB P t n = true) (hoff : off + n ≤ Ψ.k)
    (hy : kn K y = some (.inl (ptrAt v 0 ks off))) (hx : kn K x = some p) (hp : ∀ u w c, p.ok u w → Ψ.φ z c w → ∃ vs : List Value, u.cells = vs.toArray ∧ vs.length = n ∧ (∀ r ∈ vs, r.oneCell' = true) ∧ Ψ.φ z' (putL c off vs) w)
    (h : Sq P ops N (Sep w0 (L.set m (.sl α e Ψ [z'] v))) Q (dropR K) rest) : Sq P ops N (Sep w0 L) Q K (⟨none, .store t y x, ty, pos, af, none⟩ :: rest) :=
  Sq_storeS m z' hm hav ⟨by simp, by simp⟩ hks hsz hoff hy hx hp h
end
section
variable {P : Program} {ops : Array Oper} {C : World → Prop} {N : Nat} {M : List (Nat × Pr) → List Oper → Prop} {K : List (Nat × Pr)} {rest : List Oper} {d : Nat} {op : Op} {ty : TypeId} {pos : String} {af : Array Edge} {g : Option (Nat × Bool)}
end
end Go.Proofs.YtanlaggnhocjhaaGreat
