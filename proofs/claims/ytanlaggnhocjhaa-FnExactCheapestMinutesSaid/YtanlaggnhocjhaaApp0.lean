/- append of nothing. Not yet used: meant for CancelRun. -/
import Derived.Test.YtanlaggnhocjhaaAppN
namespace Go.Proofs.Ytanlaggnhocjhaa
set_option linter.unusedSimpArgs false
set_option linter.unusedVariables false
open Go.RowKit Go.ChangeShapes Go.WideShapes Go.ChangeAt Go.Deep
theorem run_append_empty {P : Program} {w : World} {t ty e : TypeId} {i : TypeInfo} {p p2 : Option Addr} {n c c2 : Nat} (hu : P.underlying t = some (.slice e)) (hi : P.info? e = some i) (hnc : n ≤ c) : (Builtin.append_ #[t, t] ty #[.slice p n c, .slice p2 0 c2]).run P w = .ok (.slice p n c) w := by
  have hf : (Builtin.firstCells i.size 0 (.slice p2 0 c2)).run P w = .ok #[] w := by
    cases p2 with
    | none => exact run_firstCells_none w i.size 0 0 c2
    | some ad => exact run_firstCells_some w i.size 0 ad 0 c2 [] (by simp) (fun j v hj => by simp at hj)
  cases p with
  | none => simp [Builtin.append_, run_underlying hu, sizeOf_run hi, Builtin.lenOf, hf, hnc]
  | some a => simp [Builtin.append_, run_underlying hu, sizeOf_run hi, Builtin.lenOf, hf, hnc, storeCells]
section
variable {P : Program} {ops : Array Oper} {C : World → Prop} {Q : Exit → Act → World → Prop} {N : Nat} {M : List (Nat × Pr) → List Oper → Prop} {K : List (Nat × Pr)} {rest : List Oper} {d : Nat} {ty : TypeId} {pos : String} {af : Array Edge} {g : Option (Nat × Bool)}
theorem W_app0 (hM : Stepper P ops C N M) {U : UR} {α : Type} {Φ : Phi α} {zs : List α} {es : Option TypeId} {t e : TypeId} {k : Nat} {x y : Operand} (hU : ∀ v w, U.R v w → ∃ p n c, v = .slice p n c ∧ n ≤ c) (hz : zs = []) (hB : appB P t e k = true) (hg : wantedK ops K g = some true) (hN : Nat.blt d N = true)
    (hx : kn K x = some (.inr U)) (hy : kn K y = some (.inr (uS es Φ zs))) (h : M ((d, .inr U) :: K) rest) : M K (⟨some d, .call { callee := .builtin .append, args := #[x, y], argTypes := #[t, t] }, ty, pos, af, g⟩ :: rest) :=
  W_det hM _ hN hg (fun ρ w _ hk => by
    have hxv : U.R (ρ x) w := hk x (by simp [Op.operands, Call.operands]) _ hx
    obtain ⟨p, n, c, hv, hnc⟩ := hU _ _ hxv
    obtain ⟨A2, n2, c2, hv2, hn2, _⟩ : IsS es Φ zs (ρ y) w := hk y (by simp [Op.operands, Call.operands]) _ hy
    subst hz
    have hn2 : n2 = 0 := hn2
    subst hn2
    obtain ⟨i, z, hu, hi, _⟩ := appB_spec hB
    have hr := run_append_empty (P := P) (w := w) (ty := ty) (p := p) (p2 := A2) (c2 := c2) hu hi hnc
    exact ⟨.slice p n c, by simp [execOp, resolve, invoke, builtin, hv, hv2, hr], hv ▸ hxv⟩) h
theorem uF_sl {α : Type} {e : TypeId} {Φ : Phi α} {zs : List α} : ∀ v w, (uF e Φ zs).R v w → ∃ p n c, v = .slice p n c ∧ n ≤ c := fun _ _ ⟨p, h, _⟩ => ⟨p, _, _, h, Nat.le_refl _⟩
theorem uO_sl {α : Type} {e : TypeId} {Φ : Phi α} {hfl : Flat Φ} {s : Nat} {zs : List α} : ∀ v w, (uO s (oF e Φ hfl) zs).R v w → ∃ p n c, v = .slice p n c ∧ n ≤ c := fun _ _ ⟨_, _, _, n, c, _, ⟨p, h1, _⟩, _, h3, _⟩ => ⟨p, n, c, h1, h3⟩
/-- A slice of one's own comes out in the midst of a region. -/
theorem Sq_openO {α : Type} {e : TypeId} {Ψ : Phi α} {hfl : Flat Ψ} {ys : List α} {wr : World} (t : Nat) (ht : lookK K t = some (.inr (uO wr.heap.size (oF e Ψ hfl) ys)))
    (h : ∀ v, Sq P ops N (Sep wr [.sl α e Ψ ys v]) Q ((t, .inl v) :: K) rest) : Sq P ops N (Ext wr) Q K rest := by
  unfold Sq
  intro a w hst
  obtain ⟨v, hv, S, hS, A, n, c', cs, ⟨p, h1, hp⟩, h2, h3, h4, h5, h6, h7, h8, h9⟩ := hst.slots t _ ht
  subst h1
  have hsq := h (.slice p n c')
  unfold Sq at hsq
  refine hsq a w ⟨hst.size, hst.defers, fun s p' hp' => ?_, ?_⟩
  · by_cases e0 : t = s
    · subst e0
      rw [lookK_same] at hp'
      injection hp' with hp'
      subst hp'
      exact ⟨_, hv, rfl⟩
    · rw [lookK_ne _ e0] at hp'
      exact hst.slots s p' hp'
  · have hbase : Cls wr [] (FctL [] []) w := (cls_ext w hst.cls).fact fun _ m o x h1 => by simp at h1
    cases A with
    | none =>
      have h6' : cs = [] := h6
      subst h6'
      exact sep_cons rfl (hbase.none e) ⟨c', rfl, ⟨_, by rw [h2], hp⟩, by omega, h4, h5, h8, h9⟩
    | some g =>
      have hcl : Cls wr [(some g, e, cs)] (FctL [] []) w := ⟨hbase.ext, by simp, fun b hb => by
        simp at hb
        subst hb
        exact (hS b (h7 b rfl)).1, fun x hx => by
        simp at hx
        subst hx
        exact h6, hbase.fct⟩
      exact sep_cons rfl hcl ⟨c', rfl, ⟨_, by rw [h2], hp⟩, by omega, h4, h5, h8, h9⟩
end
end Go.Proofs.Ytanlaggnhocjhaa
