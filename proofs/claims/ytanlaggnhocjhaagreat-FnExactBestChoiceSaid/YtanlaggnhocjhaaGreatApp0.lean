/- append of nothing. Not yet used: meant for CancelRun. -/
import Derived.Test.YtanlaggnhocjhaaGreatAppN
namespace Go.Proofs.YtanlaggnhocjhaaGreat
set_option linter.unusedSimpArgs false
set_option linter.unusedVariables false
open Go.RowKit Go.ChangeShapes Go.WideShapes Go.ChangeAt Go.Deep
theorem run_append_empty {P : Program} {w : World} {t ty e : TypeId} {i : TypeInfo} {p p2 : Option Addr} {n c c2 : Nat} (hu : P.underlying t = some (.slice e)) (hi : P.info? e = some i) (hnc : n ≤ c) : (Builtin.append_ #[t, t] ty #[.slice p n c, .slice p2 0 c2]).run P w = .ok (.slice p n c) w := by
  have hf : (Builtin.firstCells i.size 0 (.slice p2 0 c2)).run P w = .ok #[] w := by
    cases p2 with
    | none => exact run_firstCells_none w i.size 0 0 c2
    | some ad => exact run_firstCells_some w i.size 0 ad 0 c2 [] (by simp) (fun j v hj => by simp at hj)
  cases p with
  | none => simp [Builtin.append_, run_underlying hu, sizeOf_run hi, Builtin.lenOf, hf, hnc]
  | some a => simp [Builtin.append_, run_underlying hu, sizeOf_run hi, Builtin.lenOf, hf, hnc, storeCells]
section
variable {P : Program} {ops : Array Oper} {C : World → Prop} {Q : Exit → Act → World → Prop} {N : Nat} {M : List (Nat × Pr) → List Oper → Prop} {K : List (Nat × Pr)} {rest : List Oper} {d : Nat} {ty : TypeId} {pos : String} {af : Array Edge} {g : Option (Nat × Bool)}
/-- A slice of one's own comes out in the midst of a region. -/
theorem Sq_openO {α : Type} {e : TypeId} {Ψ : Phi α} {hfl : Flat Ψ} {ys : List α} {wr : World} (t : Nat) (ht : lookK K t = some (.inr (uO wr.heap.size (oF e Ψ hfl) ys)))
    (h : ∀ v, Sq P ops N (Sep wr [.sl α e Ψ ys v]) Q ((t, .inl v) :: K) rest) : Sq P ops N (Ext wr) Q K rest := by
  unfold Sq
  intro a w hst
  obtain ⟨v, hv, S, hS, A, n, c', cs, ⟨p, h1, hp⟩, h2, h3, h4, h5, h6, h7, h8, h9⟩ := hst.slots t _ ht
  subst h1
  have hsq := h (.slice p n c')
  unfold Sq at hsq
  refine hsq a w ⟨hst.size, hst.defers, fun s p' hp' => ?_, ?_⟩
  · by_cases e0 : t = s
    · subst e0
      rw [lookK_same] at hp'
      injection hp' with hp'
      subst hp'
      exact ⟨_, hv, rfl⟩
    · rw [lookK_ne _ e0] at hp'
      exact hst.slots s p' hp'
  · have hbase : Cls wr [] (FctL [] []) w := (cls_ext w hst.cls).fact fun _ m o x h1 => by simp at h1
    cases A with
    | none =>
      have h6' : cs = [] := h6
      subst h6'
      exact sep_cons rfl (hbase.none e) ⟨c', rfl, ⟨_, by rw [h2], hp⟩, by omega, h4, h5, h8, h9⟩
    | some g =>
      have hcl : Cls wr [(some g, e, cs)] (FctL [] []) w := ⟨hbase.ext, by simp, fun b hb => by
        simp at hb
        subst hb
        exact (hS b (h7 b rfl)).1, fun x hx => by
        simp at hx
        subst hx
        exact h6, hbase.fct⟩
      exact sep_cons rfl hcl ⟨c', rfl, ⟨_, by rw [h2], hp⟩, by omega, h4, h5, h8, h9⟩
end
end Go.Proofs.YtanlaggnhocjhaaGreat
