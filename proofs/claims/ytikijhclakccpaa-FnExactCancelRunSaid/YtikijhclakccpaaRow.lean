/- append in place from the same block. Not yet used: meant for slices.Delete (CancelRun). -/
import Derived.Test.YtikijhclakccpaaApp0
namespace Go.Proofs.Ytikijhclakccpaa
set_option linter.unusedSimpArgs false
set_option linter.unusedVariables false
open Go.RowKit Go.ChangeShapes Go.WideShapes Go.ChangeAt Go.Deep
def RowC (w0 : World) (S : Nat → Prop) (b : Nat) (e : TypeId) (cs : List Value) (w : World) : Prop := Keep S w0 w ∧ Blk w b e cs
theorem upC_row {w0 : World} {S : Nat → Prop} {b : Nat} {e : TypeId} {cs : List Value} : UpC (RowC w0 S b e cs) := fun _ _ ⟨h, hb⟩ he => ⟨upC_keep _ _ h he, Blk.ext hb he⟩
theorem src_row {P : Program} {t e : TypeId} {w : World} {b o n c2 k : Nat} {cs : List Value} (hu : P.underlying t = some (.slice e)) (hB : Blk w b e cs) (hl : o + n * k ≤ cs.length) (h1 : ∀ u ∈ cs, u.oneCell' = true) : Src P k t (.slice (some ⟨b, o, none⟩) n c2) n ((cs.drop o).take (n * k)) w := by
  have hlen : ((cs.drop o).take (n * k)).length = n * k := by rw [List.length_take, List.length_drop]; omega
  refine ⟨.inl ⟨e, hu⟩, fun w' => by simp [Builtin.lenOf], ?_, ?_, hlen, fun u hu => h1 u (List.mem_of_mem_drop (List.mem_of_mem_take hu))⟩
  · exact run_firstCells_some w k n ⟨b, o, none⟩ n c2 _ hlen (fun j v hj => by rw [Addr.add_lit]; exact hB.cell (take_drop_get hj))
  · exact run_firstCells_some w.drew k n ⟨b, o, none⟩ n c2 _ hlen (fun j v hj => by rw [Addr.add_lit]; exact Blk.cell (Blk.ext hB ((Ext.refl w).drew)) (take_drop_get hj))
section
variable {P : Program} {ops : Array Oper} {Q : Exit → Act → World → Prop} {N : Nat} {K : List (Nat × Pr)} {rest : List Oper} {d : Nat} {ty : TypeId} {pos : String} {af : Array Edge}
theorem Sq_appRow {w0 : World} {S : Nat → Prop} {b k sl n o c c2 : Nat} {t e : TypeId} {cs : List Value} {x y : Operand} (hS : S b) (hB : appB P t e k = true) (hN : Nat.blt d N = true) (hx : kn K x = some (.inl (.slice (some ⟨b, 0, none⟩) sl c))) (hy : kn K y = some (.inl (.slice (some ⟨b, o, none⟩) n c2)))
    (hl : o + n * k ≤ cs.length) (hcl : cs.length = c * k) (hroom : sl + n ≤ c) (h1 : ∀ u ∈ cs, u.oneCell' = true)
    (h : Sq P ops N (RowC w0 S b e (putL cs (sl * k) ((cs.drop o).take (n * k)))) Q ((d, .inl (.slice (some ⟨b, 0, none⟩) (sl + n) c)) :: dropR K) rest) :
    Sq P ops N (RowC w0 S b e cs) Q K (⟨some d, .call { callee := .builtin .append, args := #[x, y], argTypes := #[t, t] }, ty, pos, af, none⟩ :: rest) := by
  unfold Sq
  intro a w hst
  obtain ⟨i, z, hu, hi, hz, hzk, hik, hby⟩ := appB_spec hB
  obtain ⟨hk, hBk⟩ := hst.cls
  have hv : a.eval x = .slice (some ⟨b, 0, none⟩) sl c := kn_val hst hx
  have hw : a.eval y = .slice (some ⟨b, o, none⟩) n c2 := kn_val hst hy
  have hr := run_append_roomL (P := P) (ty := ty) hu hi (by rw [hik]; exact src_row (c2 := c2) hu hBk hl h1) hroom hBk (by rw [hik]; exact hcl)
  have hop : (execOp a.eval ⟨some d, .call { callee := .builtin .append, args := #[x, y], argTypes := #[t, t] }, ty, pos, af, none⟩).run P w = .ok (.value (.slice (some ⟨b, 0, none⟩) (sl + n) c)) (w.setRow b (putL cs (sl * i.size) ((cs.drop o).take (n * k))).toArray) := by
    simp [execOp, resolve, invoke, builtin, hv, hw, hr]
  refine wpList_plain rfl fun K' hK' => ?_
  unfold Oper.wp
  rw [hop, hik]
  simp only [Oper.upon]
  unfold Sq at h
  have hst1 := hst.turned (w' := w.setRow b (putL cs (sl * k) ((cs.drop o).take (n * k))).toArray) (C' := RowC w0 S b e (putL cs (sl * k) ((cs.drop o).take (n * k)))) ⟨hk.row hS _, Blk.set_ hBk _⟩
  exact hK' _ _ (h _ _ (hst1.step (d := d) (R := .inl (.slice (some ⟨b, 0, none⟩) (sl + n) c)) (v := .slice (some ⟨b, 0, none⟩) (sl + n) c) upC_row (Ext.refl _) (Nat.le_of_ble_eq_true hN) rfl))
theorem run_clear_row {P : Program} {w : World} {t e ty : TypeId} {i : TypeInfo} {z : Value} (hu : P.underlying t = some (.slice e)) (hi : P.info? e = some i) (hz : i.zero = some z) {b o n c : Nat} {cs zs : List Value} (hn : 0 < n) (hzs : (Builtin.zeroCells z.cells n).toList = zs) (hB : Blk w b e cs) (hfit : o + zs.length ≤ cs.length) (h1 : ∀ u ∈ zs, u.oneCell' = true) :
    (Builtin.clear_ #[t] ty #[.slice (some ⟨b, o, none⟩) n c]).run P w = .ok (.tuple #[]) (w.setRow b (putL cs o zs).toArray) := by
  have hst := run_storeCells_at P b o e zs 0 cs.toArray w hB (by simpa using hfit) h1
  have e1 : (putL cs o zs) = (cs.toArray.toList.take (o + 0) ++ zs ++ cs.toArray.toList.drop (o + 0 + zs.length)) := by simp [putL]
  rw [e1]
  have hzv : ∀ w : World, (zeroValue e).run P w = .ok z w := fun w => by simp [zeroValue, typeInfo, hi, hz]
  obtain ⟨m, rfl⟩ : ∃ m, n = m + 1 := ⟨n - 1, by omega⟩
  simp only [Nat.add_zero] at hst ⊢
  simp [Builtin.clear_, run_underlying hu, hzv, hzs, hst]
end
end Go.Proofs.Ytikijhclakccpaa
