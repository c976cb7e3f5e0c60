/-
  append of any number of elements; a value put into a list at a place, by three appends.
-/
import Derived.Test.YtanlaggnhocjhaaGreatSort
import Derived.Test.YtanlaggnhocjhaaGreatApp0
namespace Go.Proofs.YtanlaggnhocjhaaGreat
set_option linter.unusedSimpArgs false
set_option linter.unusedVariables false
open Go.RowKit

theorem IsS.dropV {α : Type} {e : Option TypeId} {Φ : Phi α} {xs : List α} {A : Option Addr} {n c i : Nat} {w : World} (h : IsS e Φ xs (.slice A n c) w) (hi : i ≤ xs.length) :
    IsS e Φ (xs.drop i) (.slice (if c = i then A else A.map (·.add (i * Φ.k))) (n - i) (c - i)) w := by
  obtain ⟨A', n', c', hv, hn, hnc, hcm, hall⟩ := h
  injection hv with h1 h2 h3
  subst h1 h2 h3
  refine ⟨_, _, _, rfl, by rw [List.length_drop, hn], by omega, by omega, fun j z hz => ?_⟩
  rw [List.getElem?_drop] at hz
  have hlt := (List.getElem?_eq_some_iff.1 hz).1
  obtain ⟨b, o, cs, hA, hcell, hφ, ht⟩ := hall (i + j) z hz
  refine ⟨b, o + i * Φ.k, cs, by rw [if_neg (by omega), hA]; simp [Addr.add_lit], fun r u hu => ?_, hφ, ht⟩
  have := hcell r u hu
  rw [Nat.add_mul] at this
  rwa [show o + i * Φ.k + (j * Φ.k + r) = o + (i * Φ.k + j * Φ.k + r) by omega]
section
variable {P : Program} {ops : Array Oper} {C : World → Prop} {Q : Exit → Act → World → Prop} {N : Nat} {M : List (Nat × Pr) → List Oper → Prop} {K : List (Nat × Pr)} {rest : List Oper} {d : Nat} {ty : TypeId} {pos : String} {af : Array Edge} {g : Option (Nat × Bool)}
theorem L_sliceFromV {Fin : List (Nat × Pr) → Prop} {l : List Oper} {k : Nat} {A : Option Addr} {n c : Nat} {x y : Operand} {t : TypeId} {i : Int} (hB : elemB P t k = true) (hN : Nat.blt d N = true)
    (hx : kn K x = some (.inl (.slice A n c))) (hy : kn K y = some (.inl (.int .i64 i))) (hi : 0 ≤ i ∧ i ≤ (n : Int))
    (h : LateW P ops N C Fin ((d, .inl (.slice (if c = i.toNat then A else A.map (·.add (i.toNat * k))) (n - i.toNat) (c - i.toNat))) :: K) l) : LateW P ops N C Fin K (⟨some d, .slice t x (some y) none none, ty, pos, af, g⟩ :: l) := by
  unfold LateW
  refine ⟨d, _, rfl, Nat.le_of_ble_eq_true hN, fun a w _ hk => ?_, h⟩
  have hv : a.eval x = .slice A n c := kn_ok (ops := ops) (op := .slice t x (some y) none none) (by simp [Op.operands]) hx hk
  have hyv : a.eval y = .int .i64 i := kn_ok (ops := ops) (op := .slice t x (some y) none none) (by simp [Op.operands]) hy hk
  clear hk
  generalize a.eval = ρ at *
  obtain ⟨te, inf, hu, hinf, hsz⟩ := elemB_spec hB
  refine ⟨_, fun w' => ?_, rfl⟩
  simp [execOp, hv, hyv, Instr.sliceAt, Instr.slice, Instr.sliceBounds, Instr.sliceBound, asIntOf, run_underlying hu, sizeOf_run hinf, hsz, hi]
theorem W_appNewZ (hM : Stepper P ops C N M) {α : Type} {Ψ : Phi α} {zs : List α} {es : Option TypeId} {t e : TypeId} {x y : Operand} {s : Nat} {hfl : Flat Ψ} (hsz : ∀ w, C w → s ≤ w.heap.size) (hk : Nat.blt 0 Ψ.k = true) (hB : appB P t e Ψ.k = true) (hg : wantedK ops K none = some true) (hN : Nat.blt d N = true)
    (hx : kn K x = some (.inr (uF e Ψ ([] : List α)))) (hy : kn K y = some (.inr (uS es Ψ zs))) (hb : zs.length ≤ 1073741824)
    (h : M ((d, .inr (uO s (oF e Ψ hfl) zs)) :: K) rest) :
    M K (⟨some d, .call { callee := .builtin .append, args := #[x, y], argTypes := #[t, t] }, ty, pos, af, none⟩ :: rest) := by
  rcases Nat.eq_zero_or_pos zs.length with h0 | h0
  · refine W_det hM _ hN hg (fun ρ w _ hkk => ?_) h
    obtain ⟨p, hv, hp⟩ := hkk x (by simp [Op.operands, Call.operands]) _ hx
    obtain ⟨A2, n2, c2, hv2, hn2, _⟩ : IsS es Ψ zs (ρ y) w := hkk y (by simp [Op.operands, Call.operands]) _ hy
    have hz : zs = [] := List.length_eq_zero_iff.1 h0
    subst hz
    have hn2 : n2 = 0 := hn2
    subst hn2
    obtain ⟨i, z, hu, hi, _⟩ := appB_spec hB
    have hv : ρ x = .slice p 0 0 := hv
    have hr := run_append_empty (P := P) (w := w) (ty := ty) (p := p) (n := 0) (c := 0) (p2 := A2) (c2 := c2) hu hi (Nat.le_refl _)
    refine ⟨.slice p 0 0, by simp [execOp, resolve, invoke, builtin, hv, hv2, hr], fun _ => False, fun b hb => hb.elim, none, 0, 0, [], ⟨p, rfl, .inr ⟨rfl, rfl⟩⟩, rfl, Nat.le_refl _, Nat.zero_le _, by simp, rfl, (fun g hg => by cases hg), (fun _ => rfl), ls_nil⟩
  · exact W_appNew hM hsz hk hB hg hN hx hy ⟨hb, h0⟩ h
variable {w0 : World} {L : List Osl}
theorem Sq_appSZ (m : Nat) {α : Type} {Ψ : Phi α} {xs zs : List α} {v : Value} {es : Option TypeId} {t e : TypeId} {x y : Operand} (hm : L[m]? = some (.sl α e Ψ xs v)) (hav : avAll L e) (hk : Nat.blt 0 Ψ.k = true) (hB : appB P t e Ψ.k = true) (hN : Nat.blt d N = true)
    (hx : kn K x = some (.inl v)) (hy : kn K y = some (.inr (uS es Ψ zs))) (hb : xs.length + zs.length ≤ 1073741824)
    (h : ∀ v', Sq P ops N (Sep w0 (L.set m (.sl α e Ψ (xs ++ zs) v'))) Q ((d, .inl v') :: dropR K) rest) :
    Sq P ops N (Sep w0 L) Q K (⟨some d, .call { callee := .builtin .append, args := #[x, y], argTypes := #[t, t] }, ty, pos, af, none⟩ :: rest) := by
  rcases Nat.eq_zero_or_pos zs.length with h0 | h0
  · have hz : zs = [] := List.length_eq_zero_iff.1 h0
    subst hz
    have h1 := h v
    rw [List.append_nil, set_same' hm] at h1
    unfold Sq at h1 ⊢
    intro a w hst
    have hv : a.eval x = v := kn_val hst hx
    obtain ⟨A2, n2, c2, hv2, hn2, _⟩ : IsS es Ψ [] (a.eval y) w := kn_val hst hy
    have hn2 : n2 = 0 := hn2
    subst hn2
    obtain ⟨i, z, hu, hi, _⟩ := appB_spec hB
    obtain ⟨A, c, cs, ⟨p, e1, _⟩, h3, h4, _⟩ := hst.cls.get hm
    have hr := run_append_empty (P := P) (w := w) (ty := ty) (p := p) (n := xs.length) (c := c) (p2 := A2) (c2 := c2) hu hi h3
    have hop : (execOp a.eval ⟨some d, .call { callee := .builtin .append, args := #[x, y], argTypes := #[t, t] }, ty, pos, af, none⟩).run P w = .ok (.value v) w := by
      rw [e1] at hv
      simp [execOp, resolve, invoke, builtin, hv, hv2, hr, e1]
    refine wpList_plain rfl fun K' hK' => ?_
    unfold Oper.wp
    rw [hop]
    simp only [Oper.upon]
    exact hK' _ _ (h1 _ _ ((hst.turned (C' := Sep w0 L) hst.cls).step upC_sep (Ext.refl _) (Nat.le_of_ble_eq_true hN) rfl))
  · exact Sq_appS m hm hav hk hB hN hx hy ⟨hb, h0⟩ h
end
/-- An empty slice, wherever it points. -/
theorem Sep.emp {w0 w : World} {L : List Osl} {p : Option Addr} (α : Type) (e : TypeId) (Ψ : Phi α) (h : Sep w0 L w) : Sep w0 (.sl α e Ψ [] (.slice p 0 0) :: L) w := by
  unfold Sep at h ⊢
  obtain ⟨Bs, hl, hc⟩ := h
  exact sep_cons' hl (hc.none e) ⟨0, rfl, ⟨p, rfl, .inr ⟨rfl, rfl⟩⟩, Nat.le_refl _, Nat.zero_le _, by simp, (fun _ => rfl), ls_nil⟩
theorem ins_eq {α : Type} {xs : List α} {k : Int} {z : α} : (xs.take k.toNat ++ [z]) ++ xs.drop k.toNat = insAt xs k.toNat z := by simp [insAt]
end Go.Proofs.YtanlaggnhocjhaaGreat
