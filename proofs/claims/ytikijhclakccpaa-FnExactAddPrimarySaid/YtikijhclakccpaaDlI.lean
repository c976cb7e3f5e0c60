/- slices.Delete of one element of an own list of ints (with the blocks, rows and slices it needs: the texts Row, Slv, Dlt in one). -/
import Derived.Test.YtikijhclakccpaaApp0
import Derived.Test.YtikijhclakccpaaVals
import Derived.Test.YtikijhclakccpaaOwnG
import Derived.Test.YtikijhclakccpaaInp
namespace Go.Proofs.Ytikijhclakccpaa
set_option linter.unusedSimpArgs false
set_option linter.unusedVariables false
open Go.RowKit Go.ChangeShapes Go.WideShapes Go.ChangeAt Go.Deep
def RowC (w0 : World) (S : Nat → Prop) (b : Nat) (e : TypeId) (cs : List Value) (w : World) : Prop := Keep S w0 w ∧ Blk w b e cs
theorem upC_row {w0 : World} {S : Nat → Prop} {b : Nat} {e : TypeId} {cs : List Value} : UpC (RowC w0 S b e cs) := fun _ _ ⟨h, hb⟩ he => ⟨upC_keep _ _ h he, Blk.ext hb he⟩
theorem src_row {P : Program} {t e : TypeId} {w : World} {b o n c2 k : Nat} {cs : List Value} (hu : P.underlying t = some (.slice e)) (hB : Blk w b e cs) (hl : o + n * k ≤ cs.length) (h1 : ∀ u ∈ cs, u.oneCell' = true) : Src P k t (.slice (some ⟨b, o, none⟩) n c2) n ((cs.drop o).take (n * k)) w := by
  have hlen : ((cs.drop o).take (n * k)).length = n * k := by rw [List.length_take, List.length_drop]; omega
  refine ⟨.inl ⟨e, hu⟩, fun w' => by simp [Builtin.lenOf], ?_, ?_, hlen, fun u hu => h1 u (List.mem_of_mem_drop (List.mem_of_mem_take hu))⟩
  · exact run_firstCells_some w k n ⟨b, o, none⟩ n c2 _ hlen (fun j v hj => by rw [Addr.add_lit]; exact hB.cell (take_drop_get hj))
  · exact run_firstCells_some w.drew k n ⟨b, o, none⟩ n c2 _ hlen (fun j v hj => by rw [Addr.add_lit]; exact Blk.cell (Blk.ext hB ((Ext.refl w).drew)) (take_drop_get hj))
section
variable {P : Program} {ops : Array Oper} {Q : Exit → Act → World → Prop} {N : Nat} {K : List (Nat × Pr)} {rest : List Oper} {d : Nat} {ty : TypeId} {pos : String} {af : Array Edge}
theorem Sq_appRow {w0 : World} {S : Nat → Prop} {b k sl n o c c2 : Nat} {t e : TypeId} {cs : List Value} {x y : Operand} (hS : S b) (hB : appB P t e k = true) (hN : Nat.blt d N = true) (hx : kn K x = some (.inl (.slice (some ⟨b, 0, none⟩) sl c))) (hy : kn K y = some (.inl (.slice (some ⟨b, o, none⟩) n c2)))
    (hl : o + n * k ≤ cs.length) (hcl : cs.length = c * k) (hroom : sl + n ≤ c) (h1 : ∀ u ∈ cs, u.oneCell' = true)
    (h : Sq P ops N (RowC w0 S b e (putL cs (sl * k) ((cs.drop o).take (n * k)))) Q ((d, .inl (.slice (some ⟨b, 0, none⟩) (sl + n) c)) :: dropR K) rest) :
    Sq P ops N (RowC w0 S b e cs) Q K (⟨some d, .call { callee := .builtin .append, args := #[x, y], argTypes := #[t, t] }, ty, pos, af, none⟩ :: rest) := by
  unfold Sq
  intro a w hst
  obtain ⟨i, z, hu, hi, hz, hzk, hik, hby⟩ := appB_spec hB
  obtain ⟨hk, hBk⟩ := hst.cls
  have hv : a.eval x = .slice (some ⟨b, 0, none⟩) sl c := kn_val hst hx
  have hw : a.eval y = .slice (some ⟨b, o, none⟩) n c2 := kn_val hst hy
  have hr := run_append_roomL (P := P) (ty := ty) hu hi (by rw [hik]; exact src_row (c2 := c2) hu hBk hl h1) hroom hBk (by rw [hik]; exact hcl)
  have hop : (execOp a.eval ⟨some d, .call { callee := .builtin .append, args := #[x, y], argTypes := #[t, t] }, ty, pos, af, none⟩).run P w = .ok (.value (.slice (some ⟨b, 0, none⟩) (sl + n) c)) (w.setRow b (putL cs (sl * i.size) ((cs.drop o).take (n * k))).toArray) := by
    simp [execOp, resolve, invoke, builtin, hv, hw, hr]
  refine wpList_plain rfl fun K' hK' => ?_
  unfold Oper.wp
  rw [hop, hik]
  simp only [Oper.upon]
  unfold Sq at h
  have hst1 := hst.turned (w' := w.setRow b (putL cs (sl * k) ((cs.drop o).take (n * k))).toArray) (C' := RowC w0 S b e (putL cs (sl * k) ((cs.drop o).take (n * k)))) ⟨hk.row hS _, Blk.set_ hBk _⟩
  exact hK' _ _ (h _ _ (hst1.step (d := d) (R := .inl (.slice (some ⟨b, 0, none⟩) (sl + n) c)) (v := .slice (some ⟨b, 0, none⟩) (sl + n) c) upC_row (Ext.refl _) (Nat.le_of_ble_eq_true hN) rfl))
theorem run_clear_row {P : Program} {w : World} {t e ty : TypeId} {i : TypeInfo} {z : Value} (hu : P.underlying t = some (.slice e)) (hi : P.info? e = some i) (hz : i.zero = some z) {b o n c : Nat} {cs zs : List Value} (hn : 0 < n) (hzs : (Builtin.zeroCells z.cells n).toList = zs) (hB : Blk w b e cs) (hfit : o + zs.length ≤ cs.length) (h1 : ∀ u ∈ zs, u.oneCell' = true) :
    (Builtin.clear_ #[t] ty #[.slice (some ⟨b, o, none⟩) n c]).run P w = .ok (.tuple #[]) (w.setRow b (putL cs o zs).toArray) := by
  have hst := run_storeCells_at P b o e zs 0 cs.toArray w hB (by simpa using hfit) h1
  have e1 : (putL cs o zs) = (cs.toArray.toList.take (o + 0) ++ zs ++ cs.toArray.toList.drop (o + 0 + zs.length)) := by simp [putL]
  rw [e1]
  have hzv : ∀ w : World, (zeroValue e).run P w = .ok z w := fun w => by simp [zeroValue, typeInfo, hi, hz]
  obtain ⟨m, rfl⟩ : ∃ m, n = m + 1 := ⟨n - 1, by omega⟩
  simp only [Nat.add_zero] at hst ⊢
  simp [Builtin.clear_, run_underlying hu, hzv, hzs, hst]
end
end Go.Proofs.Ytikijhclakccpaa
namespace Go.Proofs.Ytikijhclakccpaa
open Go.RowKit Go.ChangeShapes Go.WideShapes Go.ChangeAt Go.Deep
section
variable {P : Program} {ops : Array Oper} {C : World → Prop} {N : Nat} {M : List (Nat × Pr) → List Oper → Prop} {K : List (Nat × Pr)} {rest : List Oper} {d : Nat} {ty : TypeId} {pos : String} {af : Array Edge} {g : Option (Nat × Bool)}
theorem W_sliceVTo (hM : Stepper P ops C N M) {x y : Operand} {t : TypeId} {i : Int} {b n c k : Nat} (hB : elemB P t k = true) (hg : wantedK ops K g = some true) (hN : Nat.blt d N = true)
    (hx : kn K x = some (.inl (.slice (some ⟨b, 0, none⟩) n c))) (hy : kn K y = some (.inl (.int .i64 i))) (hi : 0 ≤ i ∧ i ≤ (c : Int))
    (h : M ((d, .inl (.slice (some ⟨b, 0, none⟩) i.toNat c)) :: K) rest) : M K (⟨some d, .slice t x none (some y) none, ty, pos, af, g⟩ :: rest) :=
  W_val hM hN hg (fun ρ w _ hk => by
    have hv : ρ x = .slice (some ⟨b, 0, none⟩) n c := hk x (by simp [Op.operands]) _ hx
    have hyv : ρ y = .int .i64 i := hk y (by simp [Op.operands]) _ hy
    obtain ⟨te, inf, hu, hinf, hsz⟩ := elemB_spec hB
    simp [execOp, hv, hyv, Instr.sliceAt, Instr.slice, Instr.sliceBounds, Instr.sliceBound, asIntOf, run_underlying hu, sizeOf_run hinf, hsz, hi, Addr.add_lit]) h
theorem W_sliceVFrom (hM : Stepper P ops C N M) {x y : Operand} {t : TypeId} {i : Int} {b n c k : Nat} (hB : elemB P t k = true) (hg : wantedK ops K g = some true) (hN : Nat.blt d N = true)
    (hx : kn K x = some (.inl (.slice (some ⟨b, 0, none⟩) n c))) (hy : kn K y = some (.inl (.int .i64 i))) (hi : 0 ≤ i ∧ i ≤ (n : Int))
    (h : M ((d, .inl (.slice (some ⟨b, (if c = i.toNat then 0 else i.toNat * k), none⟩) (n - i.toNat) (c - i.toNat))) :: K) rest) : M K (⟨some d, .slice t x (some y) none none, ty, pos, af, g⟩ :: rest) :=
  W_val hM hN hg (fun ρ w _ hk => by
    have hv : ρ x = .slice (some ⟨b, 0, none⟩) n c := hk x (by simp [Op.operands]) _ hx
    have hyv : ρ y = .int .i64 i := hk y (by simp [Op.operands]) _ hy
    obtain ⟨te, inf, hu, hinf, hsz⟩ := elemB_spec hB
    by_cases e : c = i.toNat
    · simp [execOp, hv, hyv, Instr.sliceAt, Instr.slice, Instr.sliceBounds, Instr.sliceBound, asIntOf, run_underlying hu, sizeOf_run hinf, hsz, hi, e, Addr.add_lit]
    · simp [execOp, hv, hyv, Instr.sliceAt, Instr.slice, Instr.sliceBounds, Instr.sliceBound, asIntOf, run_underlying hu, sizeOf_run hinf, hsz, hi, e, Addr.add_lit]) h
theorem W_sliceVBoth (hM : Stepper P ops C N M) {x y z : Operand} {t : TypeId} {i j : Int} {b n c k : Nat} (hB : elemB P t k = true) (hg : wantedK ops K g = some true) (hN : Nat.blt d N = true)
    (hx : kn K x = some (.inl (.slice (some ⟨b, 0, none⟩) n c))) (hy : kn K y = some (.inl (.int .i64 i))) (hz : kn K z = some (.inl (.int .i64 j))) (hi : 0 ≤ i ∧ i < j ∧ j ≤ (c : Int))
    (h : M ((d, .inl (.slice (some ⟨b, i.toNat * k, none⟩) (j.toNat - i.toNat) (c - i.toNat))) :: K) rest) : M K (⟨some d, .slice t x (some y) (some z) none, ty, pos, af, g⟩ :: rest) :=
  W_val hM hN hg (fun ρ w _ hk => by
    have hv : ρ x = .slice (some ⟨b, 0, none⟩) n c := hk x (by simp [Op.operands]) _ hx
    have hyv : ρ y = .int .i64 i := hk y (by simp [Op.operands]) _ hy
    have hzv : ρ z = .int .i64 j := hk z (by simp [Op.operands]) _ hz
    obtain ⟨te, inf, hu, hinf, hsz⟩ := elemB_spec hB
    simp [execOp, hv, hyv, hzv, Instr.sliceAt, Instr.slice, Instr.sliceBounds, Instr.sliceBound, asIntOf, run_underlying hu, sizeOf_run hinf, hsz, hi.1, hi.2.2, (show 0 ≤ j by omega), (show i ≤ max j 0 by omega), (show ¬ c = i.toNat by omega), Addr.add_lit]) h
theorem W_sliceV3 (hM : Stepper P ops C N M) {x y z u : Operand} {t : TypeId} {i j l : Int} {b n c k : Nat} (hB : elemB P t k = true) (hg : wantedK ops K g = some true) (hN : Nat.blt d N = true)
    (hx : kn K x = some (.inl (.slice (some ⟨b, 0, none⟩) n c))) (hy : kn K y = some (.inl (.int .i64 i))) (hz : kn K z = some (.inl (.int .i64 j))) (hu' : kn K u = some (.inl (.int .i64 l))) (hi : 0 ≤ i ∧ i < j ∧ j ≤ l ∧ l ≤ (c : Int))
    (h : M ((d, .inl (.slice (some ⟨b, i.toNat * k, none⟩) (j.toNat - i.toNat) (l.toNat - i.toNat))) :: K) rest) : M K (⟨some d, .slice t x (some y) (some z) (some u), ty, pos, af, g⟩ :: rest) :=
  W_val hM hN hg (fun ρ w _ hk => by
    have hv : ρ x = .slice (some ⟨b, 0, none⟩) n c := hk x (by simp [Op.operands]) _ hx
    have hyv : ρ y = .int .i64 i := hk y (by simp [Op.operands]) _ hy
    have hzv : ρ z = .int .i64 j := hk z (by simp [Op.operands]) _ hz
    have huv : ρ u = .int .i64 l := hk u (by simp [Op.operands]) _ hu'
    obtain ⟨te, inf, hu, hinf, hsz⟩ := elemB_spec hB
    simp [execOp, hv, hyv, hzv, huv, Instr.sliceAt, Instr.slice, Instr.sliceBounds, Instr.sliceBound, asIntOf, run_underlying hu, sizeOf_run hinf, hsz, hi.1, hi.2.2.2, (show 0 ≤ j by omega), (show 0 ≤ l by omega), (show j ≤ max l 0 by omega), (show i ≤ max j 0 by omega), (show ¬ l.toNat = i.toNat by omega), Addr.add_lit]) h
end
end Go.Proofs.Ytikijhclakccpaa
namespace Go.Proofs.Ytikijhclakccpaa
open Go.RowKit Go.ChangeShapes Go.WideShapes Go.ChangeAt Go.Deep
/-- A slice of one's own as a block with known cells. -/
theorem Sep.toRaw {w0 w : World} {L : List Osl} (h : Sep w0 L w) {m : Nat} {α : Type} {e : TypeId} {Ψ : Phi α} {xs : List α} {v : Value} (hm : L[m]? = some (.sl α e Ψ xs v)) (hp : 0 < (xs.length : Int)) :
    ∃ b c cs, v = .slice (some ⟨b, 0, none⟩) xs.length c ∧ xs.length ≤ c ∧ c ≤ maxLen ∧ cs.length = c * Ψ.k ∧ LS Ψ xs cs w ∧ Sep w0 (L.set m (.raw e b cs)) w := by
  unfold Sep at h ⊢
  obtain ⟨Bs, hl, hc⟩ := h
  have hml : m < Bs.length := by rw [hl]; exact (List.getElem?_eq_some_iff.1 hm).1
  have hx := List.getElem?_eq_getElem hml
  generalize Bs[m] = x at hx
  obtain ⟨A, e', cs⟩ := x
  obtain ⟨c, h1, ⟨p, h2, h2p⟩, h3, h4, h5, h6, h7⟩ := hc.fct m _ _ hm hx
  simp only at h1 h2p h5 h6 h7
  subst h1
  cases A with
  | none => rw [h6 rfl] at hp; simp at hp
  | some b =>
    rw [h2p.some_] at h2
    refine ⟨b, c, cs, h2, h3, h4, h5, h7, Bs, by simp [hl], hc.fact fun hf m' o x hm' hx' => ?_⟩
    by_cases em : m = m'
    · subst em
      rw [List.getElem?_set_self (by omega)] at hm'
      injection hm' with hm'
      subst hm'
      rw [hx] at hx'
      injection hx' with hx'
      exact hx'.symm
    · rw [List.getElem?_set_ne em] at hm'
      exact hf m' o x hm' hx'
/-- And back. -/
theorem Sep.ofRaw {w0 w : World} {L : List Osl} (h : Sep w0 L w) {m : Nat} {e : TypeId} {b c : Nat} {cs : List Value} {α : Type} {Ψ : Phi α} {xs : List α} (hm : L[m]? = some (.raw e b cs)) (h3 : xs.length ≤ c) (h4 : c ≤ maxLen) (h5 : cs.length = c * Ψ.k) (h7 : ∀ w, Ext w0 w → LS Ψ xs cs w) :
    Sep w0 (L.set m (.sl α e Ψ xs (.slice (some ⟨b, 0, none⟩) xs.length c))) w := by
  unfold Sep at h ⊢
  obtain ⟨Bs, hl, hc⟩ := h
  have hE := hc.ext
  refine ⟨Bs, by simp [hl], hc.fact fun hf m' o x hm' hx => ?_⟩
  by_cases em : m = m'
  · subst em
    have hml : m < L.length := (List.getElem?_eq_some_iff.1 hm).1
    rw [List.getElem?_set_self hml] at hm'
    injection hm' with hm'
    subst hm'
    have e1 : x = (some b, e, cs) := hf m _ _ hm hx
    subst e1
    exact ⟨c, rfl, ⟨_, rfl, .inl rfl⟩, h3, h4, h5, (fun h => by cases h), h7 _ hE⟩
  · rw [List.getElem?_set_ne em] at hm'
    exact hf m' o x hm' hx
section
variable {P : Program} {ops : Array Oper} {Q : Exit → Act → World → Prop} {N : Nat} {K : List (Nat × Pr)} {rest : List Oper} {d : Nat} {ty : TypeId} {pos : String} {af : Array Edge} {w0 : World} {L : List Osl}
theorem src_rowS {P : Program} {t e : TypeId} {w : World} {b o n c2 k : Nat} {cs : List Value} (hu : P.underlying t = some (.slice e)) (hB : Blk w b e cs) (hl : o + n * k ≤ cs.length) (h1 : ∀ u ∈ (cs.drop o).take (n * k), u.oneCell' = true) : Src P k t (.slice (some ⟨b, o, none⟩) n c2) n ((cs.drop o).take (n * k)) w := by
  have hlen : ((cs.drop o).take (n * k)).length = n * k := by rw [List.length_take, List.length_drop]; omega
  refine ⟨.inl ⟨e, hu⟩, fun w' => by simp [Builtin.lenOf], ?_, ?_, hlen, h1⟩
  · exact run_firstCells_some w k n ⟨b, o, none⟩ n c2 _ hlen (fun j v hj => by rw [Addr.add_lit]; exact hB.cell (take_drop_get hj))
  · exact run_firstCells_some w.drew k n ⟨b, o, none⟩ n c2 _ hlen (fun j v hj => by rw [Addr.add_lit]; exact Blk.cell (Blk.ext hB ((Ext.refl w).drew)) (take_drop_get hj))
theorem Sq_appRaw (m : Nat) {b k sl n o c c2 : Nat} {t e : TypeId} {cs : List Value} {x y : Operand} (hm : L[m]? = some (.raw e b cs)) (hav : avAll L e) (hB : appB P t e k = true) (hN : Nat.blt d N = true) (hx : kn K x = some (.inl (.slice (some ⟨b, 0, none⟩) sl c))) (hy : kn K y = some (.inl (.slice (some ⟨b, o, none⟩) n c2)))
    (hl : o + n * k ≤ cs.length) (hcl : cs.length = c * k) (hroom : sl + n ≤ c) (h1 : ∀ u ∈ (cs.drop o).take (n * k), u.oneCell' = true)
    (h : Sq P ops N (Sep w0 (L.set m (.raw e b (putL cs (sl * k) ((cs.drop o).take (n * k)))))) Q ((d, .inl (.slice (some ⟨b, 0, none⟩) (sl + n) c)) :: dropR K) rest) :
    Sq P ops N (Sep w0 L) Q K (⟨some d, .call { callee := .builtin .append, args := #[x, y], argTypes := #[t, t] }, ty, pos, af, none⟩ :: rest) := by
  unfold Sq
  intro a w hst
  obtain ⟨i, z, hu, hi, hz, hzk, hik, hby⟩ := appB_spec hB
  have hcls := hst.cls
  unfold Sep at hcls
  obtain ⟨Bs, hlB, hc⟩ := hcls
  have hml : m < Bs.length := by rw [hlB]; exact (List.getElem?_eq_some_iff.1 hm).1
  have hbx := List.getElem?_eq_getElem hml
  have e1 : Bs[m] = (some b, e, cs) := hc.fct m _ _ hm hbx
  rw [e1] at hbx
  have hBk : Blk w b e cs := hc.get hbx
  have hv : a.eval x = .slice (some ⟨b, 0, none⟩) sl c := kn_val hst hx
  have hw : a.eval y = .slice (some ⟨b, o, none⟩) n c2 := kn_val hst hy
  have hr := run_append_roomL (P := P) (ty := ty) hu hi (by rw [hik]; exact src_rowS (c2 := c2) hu hBk hl h1) hroom hBk (by rw [hik]; exact hcl)
  have hop : (execOp a.eval ⟨some d, .call { callee := .builtin .append, args := #[x, y], argTypes := #[t, t] }, ty, pos, af, none⟩).run P w = .ok (.value (.slice (some ⟨b, 0, none⟩) (sl + n) c)) (w.setRow b (putL cs (sl * i.size) ((cs.drop o).take (n * k))).toArray) := by
    simp [execOp, resolve, invoke, builtin, hv, hw, hr]
  refine wpList_plain rfl fun K' hK' => ?_
  unfold Oper.wp
  rw [hop, hik]
  simp only [Oper.upon]
  unfold Sq at h
  have hst1 := hst.turned (w' := w.setRow b (putL cs (sl * k) ((cs.drop o).take (n * k))).toArray) (C' := Sep w0 (L.set m (.raw e b (putL cs (sl * k) ((cs.drop o).take (n * k)))))) (sep_put hlB hc hbx hav fun w' _ => rfl)
  exact hK' _ _ (h _ _ (hst1.step (d := d) (R := .inl (.slice (some ⟨b, 0, none⟩) (sl + n) c)) (v := .slice (some ⟨b, 0, none⟩) (sl + n) c) upC_sep (Ext.refl _) (Nat.le_of_ble_eq_true hN) rfl))
theorem Sq_clearRaw (m : Nat) {b n o c : Nat} {t e : TypeId} {i : TypeInfo} {z : Value} {cs zs : List Value} {x : Operand} (hm : L[m]? = some (.raw e b cs)) (hav : avAll L e) (hu : P.underlying t = some (.slice e)) (hi : P.info? e = some i) (hz : i.zero = some z) (hx : kn K x = some (.inl (.slice (some ⟨b, o, none⟩) n c)))
    (hn : 0 < n) (hzs : (Builtin.zeroCells z.cells n).toList = zs) (hfit : o + zs.length ≤ cs.length) (h1 : ∀ u ∈ zs, u.oneCell' = true)
    (h : Sq P ops N (Sep w0 (L.set m (.raw e b (putL cs o zs)))) Q (dropR K) rest) :
    Sq P ops N (Sep w0 L) Q K (⟨none, .call { callee := .builtin .clear, args := #[x], argTypes := #[t] }, ty, pos, af, none⟩ :: rest) := by
  unfold Sq
  intro a w hst
  have hcls := hst.cls
  unfold Sep at hcls
  obtain ⟨Bs, hlB, hc⟩ := hcls
  have hml : m < Bs.length := by rw [hlB]; exact (List.getElem?_eq_some_iff.1 hm).1
  have hbx := List.getElem?_eq_getElem hml
  have e1 : Bs[m] = (some b, e, cs) := hc.fct m _ _ hm hbx
  rw [e1] at hbx
  have hBk : Blk w b e cs := hc.get hbx
  have hv : a.eval x = .slice (some ⟨b, o, none⟩) n c := kn_val hst hx
  have hr := run_clear_row (P := P) (t := t) (ty := ty) (c := c) hu hi hz hn hzs hBk hfit h1
  have hop : (execOp a.eval ⟨none, .call { callee := .builtin .clear, args := #[x], argTypes := #[t] }, ty, pos, af, none⟩).run P w = .ok (.value (.tuple #[])) (w.setRow b (putL cs o zs).toArray) := by
    simp [execOp, resolve, invoke, builtin, hv, hr]
  refine wpList_plain rfl fun K' hK' => ?_
  unfold Oper.wp
  rw [hop]
  simp only [Oper.upon]
  unfold Sq at h
  have hst1 := hst.turned (w' := w.setRow b (putL cs o zs).toArray) (C' := Sep w0 (L.set m (.raw e b (putL cs o zs)))) (sep_put hlB hc hbx hav fun w' _ => rfl)
  exact hK' _ _ (h _ _ hst1)
theorem Sq_clearOne (m : Nat) {b o c k : Nat} {t e : TypeId} {cs zs : List Value} {x : Operand} (hm : L[m]? = some (.raw e b cs)) (hav : avAll L e) (hB : appB P t e k = true) (hzs : (zeroOf P e).toList = zs) (hx : kn K x = some (.inl (.slice (some ⟨b, o, none⟩) 1 c)))
    (hfit : o + zs.length ≤ cs.length) (h1 : ∀ u ∈ zs, u.oneCell' = true)
    (h : Sq P ops N (Sep w0 (L.set m (.raw e b (putL cs o zs)))) Q (dropR K) rest) :
    Sq P ops N (Sep w0 L) Q K (⟨none, .call { callee := .builtin .clear, args := #[x], argTypes := #[t] }, ty, pos, af, none⟩ :: rest) := by
  obtain ⟨i, z, hu, hi, hz, hzk, hik, hby⟩ := appB_spec hB
  refine Sq_clearRaw m hm hav hu hi hz hx (by decide) ?_ hfit h1 h
  have e1 : zeroOf P e = z.cells := by
    unfold zeroOf
    rw [hi]
    dsimp only
    rw [hz]
  rw [← hzs, e1]
  simp only [Builtin.zeroCells, Nat.one_mul]
  apply List.ext_getElem (by simp)
  intro j h2 h3
  have hj : j < z.cells.size := by simpa using h3
  simp [Nat.mod_eq_of_lt hj, hj]
end
end Go.Proofs.Ytikijhclakccpaa
namespace Go.Proofs.Ytikijhclakccpaa
open Go.RowKit Go.ChangeShapes Go.WideShapes Go.ChangeAt Go.Deep
/-- A list without one place. -/
def cnX (xs : List Int) (i : Int) : List Int := xs.take i.toNat ++ xs.drop (i + 1).toNat
/-- The cells after the place i was deleted. -/
def delO (n c : Nat) (i : Int) : Nat := if c = (i + 1).toNat then 0 else (i + 1).toNat * 1
def delS (cs : List Value) (n c : Nat) (i : Int) : List Value := (cs.drop (delO n c i)).take ((n - (i + 1).toNat) * 1)
def delX (cs : List Value) (n c : Nat) (i : Int) : List Value := putL cs (i.toNat * 1) (delS cs n c i)
def zero4 : List Value := [.int .i64 0]
def delC (cs : List Value) (n c : Nat) (i : Int) : List Value := putL (delX cs n c i) ((n - 1) * 1) zero4
theorem delS_get {cs : List Value} {n c : Nat} {i : Int} (hnc : n ≤ c) {r : Nat} (hr : r < (n - (i + 1).toNat) * 1) : (delS cs n c i)[r]? = cs[(i + 1).toNat * 1 + r]? := by
  have e : delO n c i = (i + 1).toNat * 1 := by
    unfold delO
    rw [if_neg (by omega)]
  rw [delS, List.getElem?_take, if_pos hr, List.getElem?_drop, e]
section
variable {cs : List Value} {n c : Nat} {i : Int} (hcl : cs.length = c * 1) (hnc : n ≤ c) (hi : 0 ≤ i ∧ i < (n : Int))
include hcl hnc hi
theorem delO_le : delO n c i + (n - (i + 1).toNat) * 1 ≤ cs.length := by
  unfold delO
  split <;> omega
theorem delS_len : (delS cs n c i).length = (n - (i + 1).toNat) * 1 := by
  have := delO_le hcl hnc hi
  rw [delS, List.length_take, List.length_drop]
  omega
theorem delX_len : (delX cs n c i).length = cs.length := putL_length (by rw [delS_len hcl hnc hi]; omega)
theorem delC_len : (delC cs n c i).length = cs.length := by
  rw [delC, putL_length (by rw [delX_len hcl hnc hi]; simp only [zero4, List.length_cons, List.length_nil]; omega), delX_len hcl hnc hi]
theorem delC_get {j q : Nat} (hj : j + 1 < n) (hq : q < 1) : (delC cs n c i)[j * 1 + q]? = cs[(if j < i.toNat then j else j + 1) * 1 + q]? := by
  rw [delC, putL_out (by rw [delX_len hcl hnc hi]; simp only [zero4, List.length_cons, List.length_nil]; omega) (.inl (by omega)), delX]
  have hsl := delS_len hcl hnc hi
  split
  · rw [putL_out (by rw [hsl]; omega) (.inl (by omega))]
  · have e : j * 1 + q = i.toNat * 1 + ((j - i.toNat) * 1 + q) := by omega
    have hr : (j - i.toNat) * 1 + q < (n - (i + 1).toNat) * 1 := by omega
    have hu : (delS cs n c i)[(j - i.toNat) * 1 + q]? = some ((delS cs n c i)[(j - i.toNat) * 1 + q]'(by rw [hsl]; exact hr)) := List.getElem?_eq_getElem _
    rw [e, putL_in (by rw [hsl]; omega) hu, ← hu, delS_get hnc hr]
    congr 1
    omega
end
theorem delC_ls {cs : List Value} {c : Nat} {i : Int} {xs : List Int} {w w' : World} (hcl : cs.length = c * 1) (hnc : xs.length ≤ c) (hi : 0 ≤ i ∧ i < (xs.length : Int)) (h : LS pI xs cs w) : LS pI (cnX xs i) (delC cs xs.length c i) w' := by
  intro j z hz
  have hk : pI.k = 1 := rfl
  have hjn : j + 1 < xs.length := by
    have h1 := (List.getElem?_eq_some_iff.1 hz).1
    rw [cnX, List.length_append, List.length_take, List.length_drop] at h1
    omega
  have hx : xs[if j < i.toNat then j else j + 1]? = some z := by
    rw [cnX] at hz
    split
    · rw [List.getElem?_append_left (by rw [List.length_take]; omega), List.getElem?_take, if_pos (by assumption)] at hz
      exact hz
    · rw [List.getElem?_append_right (by rw [List.length_take]; omega), List.length_take, List.getElem?_drop] at hz
      rw [← hz]
      congr 1
      omega
  have h2 := h _ z hx
  rw [hk] at h2 ⊢
  have e : ((delC cs xs.length c i).drop (j * 1)).take 1 = (cs.drop ((if j < i.toNat then j else j + 1) * 1)).take 1 := by
    apply List.ext_getElem?
    intro q
    rw [List.getElem?_take, List.getElem?_take]
    split
    · rename_i hq
      rw [List.getElem?_drop, List.getElem?_drop, delC_get hcl hnc hi hjn hq]
    · rfl
  rw [e]
  exact flat_I _ _ _ _ h2
theorem ls_one {cs : List Value} {c : Nat} {xs : List Int} {w : World} (hcl : cs.length = c * 1) (hnc : xs.length ≤ c) (h : LS pI xs cs w) : ∀ u ∈ cs.take (xs.length * 1), u.oneCell' = true := by
  intro u hu
  obtain ⟨r, hr, e⟩ := List.mem_iff_getElem.1 hu
  rw [List.length_take] at hr
  have hj : r / 1 < xs.length := by omega
  have h1 := h (r / 1) _ (List.getElem?_eq_getElem hj)
  refine pI.one _ _ _ h1 u ?_
  rw [show pI.k = 1 from rfl]
  refine List.mem_of_getElem? (i := r % 1) ?_
  rw [List.getElem?_take, if_pos (by omega), List.getElem?_drop, show r / 1 * 1 + r % 1 = r by omega, ← e, List.getElem_take]
  exact List.getElem?_eq_getElem (by omega)
end Go.Proofs.Ytikijhclakccpaa
