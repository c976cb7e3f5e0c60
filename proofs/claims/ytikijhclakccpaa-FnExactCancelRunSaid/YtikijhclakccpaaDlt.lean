/- slices.Delete on a slice of one's own. -/
import Derived.Test.YtikijhclakccpaaRow
import Derived.Test.YtikijhclakccpaaSlv
import Derived.Test.YtikijhclakccpaaOwnG
namespace Go.Proofs.Ytikijhclakccpaa
set_option linter.unusedSimpArgs false
set_option linter.unusedVariables false
open Go.RowKit Go.ChangeShapes Go.WideShapes Go.ChangeAt Go.Deep
/-- A slice of one's own as a block with known cells. -/
theorem Sep.toRaw {w0 w : World} {L : List Osl} (h : Sep w0 L w) {m : Nat} {α : Type} {e : TypeId} {Ψ : Phi α} {xs : List α} {v : Value} (hm : L[m]? = some (.sl α e Ψ xs v)) (hp : 0 < (xs.length : Int)) :
    ∃ b c cs, v = .slice (some ⟨b, 0, none⟩) xs.length c ∧ xs.length ≤ c ∧ c ≤ maxLen ∧ cs.length = c * Ψ.k ∧ LS Ψ xs cs w ∧ Sep w0 (L.set m (.raw e b cs)) w := by
  unfold Sep at h ⊢
  obtain ⟨Bs, hl, hc⟩ := h
  have hml : m < Bs.length := by rw [hl]; exact (List.getElem?_eq_some_iff.1 hm).1
  have hx := List.getElem?_eq_getElem hml
  generalize Bs[m] = x at hx
  obtain ⟨A, e', cs⟩ := x
  obtain ⟨c, h1, ⟨p, h2, h2p⟩, h3, h4, h5, h6, h7⟩ := hc.fct m _ _ hm hx
  simp only at h1 h2p h5 h6 h7
  subst h1
  cases A with
  | none => rw [h6 rfl] at hp; simp at hp
  | some b =>
    rw [h2p.some_] at h2
    refine ⟨b, c, cs, h2, h3, h4, h5, h7, Bs, by simp [hl], hc.fact fun hf m' o x hm' hx' => ?_⟩
    by_cases em : m = m'
    · subst em
      rw [List.getElem?_set_self (by omega)] at hm'
      injection hm' with hm'
      subst hm'
      rw [hx] at hx'
      injection hx' with hx'
      exact hx'.symm
    · rw [List.getElem?_set_ne em] at hm'
      exact hf m' o x hm' hx'
/-- And back. -/
theorem Sep.ofRaw {w0 w : World} {L : List Osl} (h : Sep w0 L w) {m : Nat} {e : TypeId} {b c : Nat} {cs : List Value} {α : Type} {Ψ : Phi α} {xs : List α} (hm : L[m]? = some (.raw e b cs)) (h3 : xs.length ≤ c) (h4 : c ≤ maxLen) (h5 : cs.length = c * Ψ.k) (h7 : ∀ w, Ext w0 w → LS Ψ xs cs w) :
    Sep w0 (L.set m (.sl α e Ψ xs (.slice (some ⟨b, 0, none⟩) xs.length c))) w := by
  unfold Sep at h ⊢
  obtain ⟨Bs, hl, hc⟩ := h
  have hE := hc.ext
  refine ⟨Bs, by simp [hl], hc.fact fun hf m' o x hm' hx => ?_⟩
  by_cases em : m = m'
  · subst em
    have hml : m < L.length := (List.getElem?_eq_some_iff.1 hm).1
    rw [List.getElem?_set_self hml] at hm'
    injection hm' with hm'
    subst hm'
    have e1 : x = (some b, e, cs) := hf m _ _ hm hx
    subst e1
    exact ⟨c, rfl, ⟨_, rfl, .inl rfl⟩, h3, h4, h5, (fun h => by cases h), h7 _ hE⟩
  · rw [List.getElem?_set_ne em] at hm'
    exact hf m' o x hm' hx
section
variable {P : Program} {ops : Array Oper} {Q : Exit → Act → World → Prop} {N : Nat} {K : List (Nat × Pr)} {rest : List Oper} {d : Nat} {ty : TypeId} {pos : String} {af : Array Edge} {w0 : World} {L : List Osl}
theorem src_rowS {P : Program} {t e : TypeId} {w : World} {b o n c2 k : Nat} {cs : List Value} (hu : P.underlying t = some (.slice e)) (hB : Blk w b e cs) (hl : o + n * k ≤ cs.length) (h1 : ∀ u ∈ (cs.drop o).take (n * k), u.oneCell' = true) : Src P k t (.slice (some ⟨b, o, none⟩) n c2) n ((cs.drop o).take (n * k)) w := by
  have hlen : ((cs.drop o).take (n * k)).length = n * k := by rw [List.length_take, List.length_drop]; omega
  refine ⟨.inl ⟨e, hu⟩, fun w' => by simp [Builtin.lenOf], ?_, ?_, hlen, h1⟩
  · exact run_firstCells_some w k n ⟨b, o, none⟩ n c2 _ hlen (fun j v hj => by rw [Addr.add_lit]; exact hB.cell (take_drop_get hj))
  · exact run_firstCells_some w.drew k n ⟨b, o, none⟩ n c2 _ hlen (fun j v hj => by rw [Addr.add_lit]; exact Blk.cell (Blk.ext hB ((Ext.refl w).drew)) (take_drop_get hj))
theorem Sq_appRaw (m : Nat) {b k sl n o c c2 : Nat} {t e : TypeId} {cs : List Value} {x y : Operand} (hm : L[m]? = some (.raw e b cs)) (hav : avAll L e) (hB : appB P t e k = true) (hN : Nat.blt d N = true) (hx : kn K x = some (.inl (.slice (some ⟨b, 0, none⟩) sl c))) (hy : kn K y = some (.inl (.slice (some ⟨b, o, none⟩) n c2)))
    (hl : o + n * k ≤ cs.length) (hcl : cs.length = c * k) (hroom : sl + n ≤ c) (h1 : ∀ u ∈ (cs.drop o).take (n * k), u.oneCell' = true)
    (h : Sq P ops N (Sep w0 (L.set m (.raw e b (putL cs (sl * k) ((cs.drop o).take (n * k)))))) Q ((d, .inl (.slice (some ⟨b, 0, none⟩) (sl + n) c)) :: dropR K) rest) :
    Sq P ops N (Sep w0 L) Q K (⟨some d, .call { callee := .builtin .append, args := #[x, y], argTypes := #[t, t] }, ty, pos, af, none⟩ :: rest) := by
  unfold Sq
  intro a w hst
  obtain ⟨i, z, hu, hi, hz, hzk, hik, hby⟩ := appB_spec hB
  have hcls := hst.cls
  unfold Sep at hcls
  obtain ⟨Bs, hlB, hc⟩ := hcls
  have hml : m < Bs.length := by rw [hlB]; exact (List.getElem?_eq_some_iff.1 hm).1
  have hbx := List.getElem?_eq_getElem hml
  have e1 : Bs[m] = (some b, e, cs) := hc.fct m _ _ hm hbx
  rw [e1] at hbx
  have hBk : Blk w b e cs := hc.get hbx
  have hv : a.eval x = .slice (some ⟨b, 0, none⟩) sl c := kn_val hst hx
  have hw : a.eval y = .slice (some ⟨b, o, none⟩) n c2 := kn_val hst hy
  have hr := run_append_roomL (P := P) (ty := ty) hu hi (by rw [hik]; exact src_rowS (c2 := c2) hu hBk hl h1) hroom hBk (by rw [hik]; exact hcl)
  have hop : (execOp a.eval ⟨some d, .call { callee := .builtin .append, args := #[x, y], argTypes := #[t, t] }, ty, pos, af, none⟩).run P w = .ok (.value (.slice (some ⟨b, 0, none⟩) (sl + n) c)) (w.setRow b (putL cs (sl * i.size) ((cs.drop o).take (n * k))).toArray) := by
    simp [execOp, resolve, invoke, builtin, hv, hw, hr]
  refine wpList_plain rfl fun K' hK' => ?_
  unfold Oper.wp
  rw [hop, hik]
  simp only [Oper.upon]
  unfold Sq at h
  have hst1 := hst.turned (w' := w.setRow b (putL cs (sl * k) ((cs.drop o).take (n * k))).toArray) (C' := Sep w0 (L.set m (.raw e b (putL cs (sl * k) ((cs.drop o).take (n * k)))))) (sep_put hlB hc hbx hav fun w' _ => rfl)
  exact hK' _ _ (h _ _ (hst1.step (d := d) (R := .inl (.slice (some ⟨b, 0, none⟩) (sl + n) c)) (v := .slice (some ⟨b, 0, none⟩) (sl + n) c) upC_sep (Ext.refl _) (Nat.le_of_ble_eq_true hN) rfl))
theorem Sq_clearRaw (m : Nat) {b n o c : Nat} {t e : TypeId} {i : TypeInfo} {z : Value} {cs zs : List Value} {x : Operand} (hm : L[m]? = some (.raw e b cs)) (hav : avAll L e) (hu : P.underlying t = some (.slice e)) (hi : P.info? e = some i) (hz : i.zero = some z) (hx : kn K x = some (.inl (.slice (some ⟨b, o, none⟩) n c)))
    (hn : 0 < n) (hzs : (Builtin.zeroCells z.cells n).toList = zs) (hfit : o + zs.length ≤ cs.length) (h1 : ∀ u ∈ zs, u.oneCell' = true)
    (h : Sq P ops N (Sep w0 (L.set m (.raw e b (putL cs o zs)))) Q (dropR K) rest) :
    Sq P ops N (Sep w0 L) Q K (⟨none, .call { callee := .builtin .clear, args := #[x], argTypes := #[t] }, ty, pos, af, none⟩ :: rest) := by
  unfold Sq
  intro a w hst
  have hcls := hst.cls
  unfold Sep at hcls
  obtain ⟨Bs, hlB, hc⟩ := hcls
  have hml : m < Bs.length := by rw [hlB]; exact (List.getElem?_eq_some_iff.1 hm).1
  have hbx := List.getElem?_eq_getElem hml
  have e1 : Bs[m] = (some b, e, cs) := hc.fct m _ _ hm hbx
  rw [e1] at hbx
  have hBk : Blk w b e cs := hc.get hbx
  have hv : a.eval x = .slice (some ⟨b, o, none⟩) n c := kn_val hst hx
  have hr := run_clear_row (P := P) (t := t) (ty := ty) (c := c) hu hi hz hn hzs hBk hfit h1
  have hop : (execOp a.eval ⟨none, .call { callee := .builtin .clear, args := #[x], argTypes := #[t] }, ty, pos, af, none⟩).run P w = .ok (.value (.tuple #[])) (w.setRow b (putL cs o zs).toArray) := by
    simp [execOp, resolve, invoke, builtin, hv, hr]
  refine wpList_plain rfl fun K' hK' => ?_
  unfold Oper.wp
  rw [hop]
  simp only [Oper.upon]
  unfold Sq at h
  have hst1 := hst.turned (w' := w.setRow b (putL cs o zs).toArray) (C' := Sep w0 (L.set m (.raw e b (putL cs o zs)))) (sep_put hlB hc hbx hav fun w' _ => rfl)
  exact hK' _ _ (h _ _ hst1)
theorem Sq_clearOne (m : Nat) {b o c k : Nat} {t e : TypeId} {cs zs : List Value} {x : Operand} (hm : L[m]? = some (.raw e b cs)) (hav : avAll L e) (hB : appB P t e k = true) (hzs : (zeroOf P e).toList = zs) (hx : kn K x = some (.inl (.slice (some ⟨b, o, none⟩) 1 c)))
    (hfit : o + zs.length ≤ cs.length) (h1 : ∀ u ∈ zs, u.oneCell' = true)
    (h : Sq P ops N (Sep w0 (L.set m (.raw e b (putL cs o zs)))) Q (dropR K) rest) :
    Sq P ops N (Sep w0 L) Q K (⟨none, .call { callee := .builtin .clear, args := #[x], argTypes := #[t] }, ty, pos, af, none⟩ :: rest) := by
  obtain ⟨i, z, hu, hi, hz, hzk, hik, hby⟩ := appB_spec hB
  refine Sq_clearRaw m hm hav hu hi hz hx (by decide) ?_ hfit h1 h
  have e1 : zeroOf P e = z.cells := by
    unfold zeroOf
    rw [hi]
    dsimp only
    rw [hz]
  rw [← hzs, e1]
  simp only [Builtin.zeroCells, Nat.one_mul]
  apply List.ext_getElem (by simp)
  intro j h2 h3
  have hj : j < z.cells.size := by simpa using h3
  simp [Nat.mod_eq_of_lt hj, hj]
end
end Go.Proofs.Ytikijhclakccpaa
