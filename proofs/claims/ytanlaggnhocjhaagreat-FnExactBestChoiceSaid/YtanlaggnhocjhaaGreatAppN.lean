/- append onto a new empty slice as an operation that only adds memory (for regions that draw). Not yet used: meant for CancelRun. -/
import Derived.Test.YtanlaggnhocjhaaGreatVals
namespace Go.Proofs.YtanlaggnhocjhaaGreat
set_option linter.unusedSimpArgs false
set_option linter.unusedVariables false
open Go.RowKit Go.ChangeShapes Go.WideShapes Go.ChangeAt Go.Deep
section
variable {P : Program} {ops : Array Oper} {C : World → Prop} {Q : Exit → Act → World → Prop} {N : Nat} {M : List (Nat × Pr) → List Oper → Prop} {K : List (Nat × Pr)} {rest : List Oper} {d : Nat} {op : Op} {ty : TypeId} {pos : String} {af : Array Edge}
theorem W_appNew (hM : Stepper P ops C N M) {α : Type} {Ψ : Phi α} {zs : List α} {es : Option TypeId} {t e : TypeId} {x y : Operand} {s : Nat} {hfl : Flat Ψ} (hsz : ∀ w, C w → s ≤ w.heap.size) (hk : Nat.blt 0 Ψ.k = true) (hB : appB P t e Ψ.k = true) (hg : wantedK ops K none = some true) (hN : Nat.blt d N = true)
    (hx : kn K x = some (.inr (uF e Ψ ([] : List α)))) (hy : kn K y = some (.inr (uS es Ψ zs))) (hb : zs.length ≤ 1073741824 ∧ 0 < zs.length)
    (h : M ((d, .inr (uO s (oF e Ψ hfl) zs)) :: K) rest) :
    M K (⟨some d, .call { callee := .builtin .append, args := #[x, y], argTypes := #[t, t] }, ty, pos, af, none⟩ :: rest) :=
  W_gen hM _ hN hg (fun a w hC hkk => by
    obtain ⟨i, z, hu, hi, hz, hzk, hik, hby⟩ := appB_spec hB
    have hk' : 0 < Ψ.k := Nat.le_of_ble_eq_true hk
    obtain ⟨p, hv, _⟩ := hkk x (by simp [Op.operands, Call.operands]) _ hx
    have hys : IsS es Ψ zs (a.eval y) w := hkk y (by simp [Op.operands, Call.operands]) _ hy
    obtain ⟨news, hsrc, hls⟩ := IsS.src (P := P) hk' hu hys
    obtain ⟨hsum, hz0⟩ := hb
    have hv : a.eval x = .slice p 0 0 := hv
    have hop : ∀ r w', (Builtin.append_ #[t, t] ty #[.slice p 0 0, a.eval y]).run P w = .ok r w' → (execOp a.eval ⟨some d, .call { callee := .builtin .append, args := #[x, y], argTypes := #[t, t] }, ty, pos, af, none⟩).run P w = .ok (.value r) w' := fun r w' hr => by
      simp [execOp, resolve, invoke, builtin, hv, hr]
    have hold : (Builtin.firstCells i.size 0 (.slice p 0 0)).run P w.drew = .ok ([] : List Value).toArray w.drew := by
      cases p with
      | none => exact run_firstCells_none w.drew i.size 0 0 0
      | some ad => exact run_firstCells_some w.drew i.size 0 ad 0 0 [] (by simp) (fun j v hj => by simp at hj)
    have hr := hop _ _ (run_append_grow_src (P := P) w t t ty e i z hu hi hz p 0 0 [] hold (a.eval y) zs.length news (by rw [hik]; exact hsrc) (by omega) (by omega) (growslice_fits (by omega) (by
      have : (0 + zs.length) * i.bytes ≤ 1073741824 * 4096 := Nat.mul_le_mul (by omega) hby
      omega)))
    unfold gives
    rw [hr]
    obtain ⟨c', hc'⟩ : ∃ c', c' = grownCap w (0 + zs.length) 0 e := ⟨_, rfl⟩
    have hge := grownCap_ge w (0 + zs.length) 0 e
    have hcm : grownCap w (0 + zs.length) 0 e ≤ maxLen := grownCap_le_maxLen w (0 + zs.length) 0 e (by simp only [maxLen]; omega)
    rw [← hc'] at hge hcm ⊢
    obtain ⟨cs', hcs'⟩ : ∃ cs' : List Value, cs' = news ++ (Builtin.zeroCells z.cells (c' - (0 + zs.length))).toList := ⟨_, rfl⟩
    have hrow : (([] ++ news).toArray ++ Builtin.zeroCells z.cells (c' - (0 + zs.length))) = cs'.toArray := by
      rw [hcs']
      apply Array.ext'
      simp
    rw [hrow]
    have hnl : news.length = zs.length * Ψ.k := hsrc.newsLen
    have hext : Ext w (w.drew.alloc (.cells cs'.toArray e)) := (Ext.refl w).drew.alloc _
    have hBn : Blk (w.drew.alloc (.cells cs'.toArray e)) w.heap.size e cs' := heap_alloc_new w.drew _
    have hz' : (Builtin.zeroCells z.cells (c' - (0 + zs.length))).toList.length = (c' - (0 + zs.length)) * Ψ.k := by rw [Array.length_toList, size_zeroCells, hzk]
    have hs0 := hsz w hC
    refine ⟨hext, fun b => b = w.heap.size, fun b hb => by subst hb; exact ⟨hs0, hBn.lt⟩, some w.heap.size, 0 + zs.length, c', cs', ⟨_, rfl, .inl rfl⟩, by omega, hge, hcm, ?_, hBn, fun g hg => by injection hg with hg; exact hg.symm, (fun h => by cases h), ?_⟩
    · rw [hcs', List.length_append, hnl, hz', ← Nat.add_mul]
      congr 1
      omega
    · refine ls_app (xs := []) (n := 0) (cs := []) (news := news) rfl rfl (by simp) ls_nil (upC_ls _ _ hls hext) ?_
      rw [hcs', List.take_nil, List.nil_append, List.take_append_of_le_length (by rw [hnl]; simp), List.take_of_length_le (by rw [hnl]; simp)]) h
end
end Go.Proofs.YtanlaggnhocjhaaGreat
