/- Taking and parking in a depot: the reference's side. -/
import Derived.Test.YtanlaggnhocjhaaDtk
namespace Go.Proofs.Ytanlaggnhocjhaa
set_option linter.unusedSimpArgs false
set_option linter.unusedVariables false
open Go.RowKit Go.ChangeShapes Go.WideShapes Go.ChangeAt Go.Deep
theorem Sep.rawLo {w0 w : World} {L : List Osl} (h : Sep w0 L w) {m : Nat} {e : TypeId} {g : Nat} {cs : List Value} (hm : L[m]? = some (.raw e g cs)) : w0.heap.size ≤ g := by
  unfold Sep at h
  obtain ⟨Bs, hl, hc⟩ := h
  have hml : m < Bs.length := by rw [hl]; exact (List.getElem?_eq_some_iff.1 hm).1
  have hx := List.getElem?_eq_getElem hml
  have e2 : Bs[m] = (some g, e, cs) := hc.fct m _ _ hm hx
  rw [e2] at hx
  exact hc.lo g (List.mem_filterMap.2 ⟨_, List.mem_of_getElem? hx, rfl⟩)
theorem ptrAt_one {g k : Nat} : ptrAt (.slice (some ⟨g, 0, none⟩) 1 1) 0 k 0 = .pointer (some ⟨g, 0, none⟩) := by
  unfold ptrAt ptrOf
  simp
/-- A block whose cells are known, as a local struct. -/
theorem Sep.asL {w0 w : World} {L : List Osl} (h : Sep w0 L w) {m : Nat} {e : TypeId} {g : Nat} {cs : List Value} {α : Type} {Ψ : Phi α} {z : α} (hm : L[m]? = some (.raw e g cs)) (hφ : ∀ w, Ψ.φ z cs w) : Sep w0 (L.set m (.sl α e Ψ [z] (.slice (some ⟨g, 0, none⟩) 1 1))) w := by
  unfold Sep at h ⊢
  obtain ⟨Bs, hl, hc⟩ := h
  refine ⟨Bs, by simp [hl], hc.fact fun hf m' o x hm' hx => ?_⟩
  by_cases em : m = m'
  · subst em
    have hml : m < L.length := (List.getElem?_eq_some_iff.1 hm).1
    rw [List.getElem?_set_self hml] at hm'
    injection hm' with hm'
    subst hm'
    have e1 : x = (some g, e, cs) := hf m _ _ hm hx
    subst e1
    have hk := Ψ.len _ _ _ (hφ w)
    refine ⟨1, rfl, ⟨_, rfl, .inl rfl⟩, Nat.le_refl _, by simp [maxLen], by simp [hk], (fun h => by cases h), fun j z' hz => ?_⟩
    cases j with
    | zero =>
      simp only [List.getElem?_cons_zero, Option.some.injEq] at hz
      subst hz
      rw [Nat.zero_mul, List.drop_zero, List.take_of_length_le (by rw [hk]; exact Nat.le_refl _)]
      exact hφ w
    | succ j => simp at hz
  · rw [List.getElem?_set_ne em] at hm'
    exact hf m' o x hm' hx
section
variable {P : Program} {ops : Array Oper} {C : World → Prop} {Q : Exit → Act → World → Prop} {N : Nat} {K : List (Nat × Pr)} {rest : List Oper} {d : Nat} {ty : TypeId} {pos : String} {af : Array Edge} {w0 : World} {L : List Osl}
theorem Sq_storeL (m : Nat) {α : Type} [Inhabited α] {e : TypeId} {Ψ : Phi α} {z : α} {g : Nat} {x y : Operand} {t : TypeId} (z' : α) (hm : L[m]? = some (.sl α e Ψ [z] (.slice (some ⟨g, 0, none⟩) 1 1))) (hav : avAll L e) (hsz : allocB P t Ψ.k = true)
    (hy : kn K y = some (.inl (.pointer (some ⟨g, 0, none⟩)))) (hx : kn K x = some (.inr (uA Ψ z'))) (h : Sq P ops N (Sep w0 (L.set m (.sl α e Ψ [z'] (.slice (some ⟨g, 0, none⟩) 1 1)))) Q (dropR K) rest) : Sq P ops N (Sep w0 L) Q K (⟨none, .store t y x, ty, pos, af, none⟩ :: rest) :=
  Sq_storeO1 m (ks := Ψ.k) (off := 0) z' hm hav rfl hsz (by omega) (by rw [ptrAt_one]; exact hy) hx hp_A h
theorem RL_c1 (m : Nat) {fn : Func} {w00 : World} {α : Type} [Inhabited α] {Ψ : Phi α} {z z' : α} {g : Nat} {t t2 : Nat} {p2 q2 : Pr} {e ty : TypeId} (hres : fn.results = #[.cell t ty, .tmp t2]) (hB : aggB P ty Ψ.k = true) (hE : ∀ w, Sep w0 L w → Ext w00 w) (ht : lookK K t = some (.inl (.pointer (some ⟨g, 0, none⟩)))) (h2 : lookK K t2 = some p2) (hm : L[m]? = some (.sl α e Ψ [z] (.slice (some ⟨g, 0, none⟩) 1 1))) (hz : z = z')
    (hq2 : ∀ v w, Sep w0 L w → p2.ok v w → q2.ok v w) : Go_ N K (Sep w0 L) (bodyPost P fn (Post w00 (.inr (uT [.inr (uA Ψ z'), q2]))) .ret) :=
  RS_c1 m hres hB hE (by rw [ptrAt_one]; exact ht) h2 hm hz hq2
theorem RL_c2 (m : Nat) {fn : Func} {w00 : World} {α : Type} [Inhabited α] {Ψ : Phi α} {z z' : α} {g : Nat} {t t2 t3 : Nat} {p2 q2 p3 q3 : Pr} {e ty : TypeId} (hres : fn.results = #[.cell t ty, .tmp t2, .tmp t3]) (hB : aggB P ty Ψ.k = true) (hE : ∀ w, Sep w0 L w → Ext w00 w) (ht : lookK K t = some (.inl (.pointer (some ⟨g, 0, none⟩)))) (h2 : lookK K t2 = some p2) (h3 : lookK K t3 = some p3) (hm : L[m]? = some (.sl α e Ψ [z] (.slice (some ⟨g, 0, none⟩) 1 1))) (hz : z = z')
    (hq2 : ∀ v w, Sep w0 L w → p2.ok v w → q2.ok v w) (hq3 : ∀ v w, Sep w0 L w → p3.ok v w → q3.ok v w) : Go_ N K (Sep w0 L) (bodyPost P fn (Post w00 (.inr (uT [.inr (uA Ψ z'), q2, q3]))) .ret) :=
  RS_c2 m hres hB hE (by rw [ptrAt_one]; exact ht) h2 h3 hm hz hq2 hq3
end
instance : Inhabited Dep := ⟨⟨[], []⟩⟩
theorem dep_nil : ∀ w, bDep.φ ⟨[], []⟩ [.slice none 0 0, .slice none 0 0] w := fun w => ⟨[_], _, rfl, ⟨_, rfl, isS_nil⟩, [_], _, rfl, ⟨_, rfl, isS_nil⟩, rfl⟩
theorem set_two {α : Type _} {L : List α} {a b b' : α} : (L ++ [a, b]).set (L.length + 1) b' = L ++ [a, b'] := by
  rw [List.set_append_right _ _ (by omega), show L.length + 1 - L.length = 1 by omega]
  rfl
end Go.Proofs.Ytanlaggnhocjhaa
