/- Values in cells; slices of slices, each inner one by its value; local arrays. -/
import Derived.Test.YtanlaggnhocjhaaGreatFun
namespace Go.Proofs.YtanlaggnhocjhaaGreat
set_option linter.unusedSimpArgs false
set_option linter.unusedVariables false
open Go.RowKit Go.ChangeShapes Go.WideShapes Go.ChangeAt Go.Deep
def pV : Phi Value := ⟨1, fun x cs _ => cs = [x] ∧ x.oneCell' = true, fun _ _ _ _ _ h => h, (fun _ _ _ h => by rw [h.1]; rfl), (fun _ _ _ h u hu => by rw [h.1] at hu; simp at hu; subst hu; exact h.2), fun _ => True, fun _ _ _ _ _ _ _ h => h⟩
theorem isS_vals {α : Type} [Inhabited α] {e e2 : Option TypeId} {Φ : Phi α} {xs : List (List α)} {v : Value} {w : World} (h : IsS e (pS e2 Φ) xs v w) :
    ∃ us : List Value, us.length = xs.length ∧ IsS e pV us v w ∧ ∀ i : Int, 0 ≤ i ∧ i < xs.length → IsS e2 Φ (ix xs i) (ix us i) w := by
  obtain ⟨A, n, c, rfl, rfl, hnc, hc, hall⟩ := h
  have key : ∀ i : Nat, ∃ u, ∀ x, xs[i]? = some x → ∃ b o, A = some ⟨b, o, none⟩ ∧ w.cell? ⟨b, o + i * 1, none⟩ = some u ∧ IsS e2 Φ x u w ∧ ∀ t, e = some t → ∃ c0 fr, w.heap[b]? = some (.cells c0 t fr) := fun i => by
    cases hx : xs[i]? with
    | none => exact ⟨undef, fun x h => by cases h⟩
    | some x =>
      obtain ⟨b, o, cs, hA, hcell, ⟨u, rfl, hu⟩, ht⟩ := hall i x hx
      exact ⟨u, fun x' hx' => by injection hx' with hx'; subst hx'; exact ⟨b, o, hA, hcell 0 u rfl, hu, ht⟩⟩
  obtain ⟨us, hus⟩ := Classical.axiomOfChoice key
  refine ⟨(List.range xs.length).map us, by simp, ⟨A, _, c, rfl, by simp, hnc, hc, fun i u hi => ?_⟩, fun i hi => ?_⟩
  · rw [List.getElem?_map] at hi
    have hil : i < xs.length := by
      rcases Nat.lt_or_ge i xs.length with h | h
      · exact h
      · rw [List.getElem?_eq_none (by simp; omega)] at hi; cases hi
    rw [List.getElem?_range hil, Option.map_some] at hi
    injection hi with hi
    subst hi
    obtain ⟨b, o, hA, h1, h2, ht⟩ := hus i _ (List.getElem?_eq_getElem hil)
    refine ⟨b, o, [us i], hA, fun j u hj => ?_, ⟨rfl, ?_⟩, ht⟩
    · cases j with
      | zero => simp only [List.getElem?_cons_zero, Option.some.injEq] at hj; subst hj; exact h1
      | succ j => simp at hj
    · obtain ⟨A', n', c', hv, _⟩ := h2
      rw [hv]; rfl
  · have h3 := ix_get (xs := xs) hi.1 hi.2
    obtain ⟨b, o, hA, h1, h2, ht⟩ := hus i.toNat _ h3
    have e : ix ((List.range xs.length).map us) i = us i.toNat := by
      unfold ix
      rw [List.getD_eq_getElem?_getD, List.getElem?_map, List.getElem?_range (by omega)]
      rfl
    rw [e]
    exact h2
theorem isS_le {α : Type} {e : Option TypeId} {Φ : Phi α} {xs : List α} {v : Value} {w : World} (h : IsS e Φ xs v w) : xs.length ≤ 9223372036854775807 := by
  obtain ⟨A, n, c, _, h1, h2, h3, _⟩ := h
  simp only [maxLen] at h3
  omega
theorem isS_le2 {α : Type} [Inhabited α] {e e2 : Option TypeId} {Φ : Phi α} {xs : List (List α)} {v : Value} {w : World} (h : IsS e (pS e2 Φ) xs v w) : ∀ i : Int, 0 ≤ i → i < xs.length → (ix xs i).length ≤ 9223372036854775807 := fun i h0 h1 => by
  obtain ⟨us, _, _, h2⟩ := isS_vals h
  exact isS_le (h2 i ⟨h0, h1⟩)
theorem sep_cons' {w0 w : World} {L : List Osl} {Bs : BL} {x : Option Nat × TypeId × List Value} {o : Osl} (hl : Bs.length = L.length) (h : Cls w0 (x :: Bs) (FctL L Bs) w) (ho : o.at x w) : ∃ Bs' : BL, Bs'.length = (o :: L).length ∧ Cls w0 Bs' (FctL (o :: L) Bs') w :=
  ⟨x :: Bs, by simp [hl], ⟨h.ext, h.nd, h.lo, h.blk, fun m o' x' h1 h2 => by
    cases m with
    | zero => simp at h1 h2; subst h1 h2; exact ho
    | succ m => exact h.fct m o' x' (by simpa using h1) (by simpa using h2)⟩⟩
section
variable {P : Program} {ops : Array Oper} {C : World → Prop} {N : Nat} {M : List (Nat × Pr) → List Oper → Prop} {K : List (Nat × Pr)} {rest : List Oper} {Q : Exit → Act → World → Prop} {d : Nat} {op : Op} {ty : TypeId} {pos : String} {af : Array Edge} {g : Option (Nat × Bool)} {w0 : World} {L : List Osl}
theorem W_loadV (hM : Stepper P ops C N M) {u : Value} {x : Operand} {t : TypeId} (hB : scalarB P t = true) (hg : wantedK ops K g = some true) (hN : Nat.blt d N = true) (hx : kn K x = some (.inr (uP pV u)))
    (h : M ((d, .inl u) :: K) rest) : M K (⟨some d, .load t x, ty, pos, af, g⟩ :: rest) :=
  W_val hM hN hg (fun ρ w _ hk => by
    obtain ⟨b, o, cs, hv, hcell, hφ⟩ := hk x (by simp [Op.operands]) _ hx
    obtain ⟨rfl, _⟩ := hφ
    exact run_load1 hB hv (by have := hcell 0 u rfl; simpa using this)) h
def arrB (P : Program) (t : TypeId) (n k : Nat) : Bool := Nat.blt 1 n && match P.underlying t with
  | some (.array m e) => Nat.beq m n && (match P.info? e with | some i => Nat.beq i.size k | none => false)
  | _ => false
theorem W_idxArr (hM : Stepper P ops C N M) {x y : Operand} {t : TypeId} {kd : IntKind} {i : Int} {n k b o : Nat} (hB : arrB P t n k = true) (hg : wantedK ops K g = some true) (hN : Nat.blt d N = true)
    (hx : kn K x = some (.inl (.pointer (some ⟨b, o, none⟩)))) (hy : kn K y = some (.inl (.int kd i))) (hi : 0 ≤ i ∧ i < (n : Int)) (h : M ((d, .inl (.pointer (some ⟨b, o + i.toNat * k, none⟩))) :: K) rest) : M K (⟨some d, .indexAddr t x y, ty, pos, af, g⟩ :: rest) :=
  W_val hM hN hg (fun ρ w _ hk => by
    have hv : ρ x = .pointer (some ⟨b, o, none⟩) := hk x (by simp [Op.operands]) _ hx
    have hyv : ρ y = .int kd i := hk y (by simp [Op.operands]) _ hy
    unfold arrB at hB
    rw [Bool.and_eq_true] at hB
    obtain ⟨hn, hB⟩ := hB
    have hn := Nat.le_of_ble_eq_true hn
    split at hB
    · rename_i m e hu
      split at hB
      · rename_i inf hinf
        simp only [Bool.and_eq_true] at hB
        obtain ⟨h1, h2⟩ := hB
        have h1 := Nat.eq_of_beq_eq_true h1
        have h2 := Nat.eq_of_beq_eq_true h2
        subst h1
        simp [execOp, hv, hyv, Instr.indexAt, asIntOf, run_underlying hu, hi, sizeOf_run hinf, h2, Instr.sureAddr, Addr.add_lit]
      · simp at hB
    · cases hB) h
theorem Sq_allocZ {t : TypeId} {n : Nat} (zs : List Value) (hzc : (zeroOf P t).toList = zs) (hB : allocB P t n = true) (hN : Nat.blt d N = true)
    (h : ∀ g, Sq P ops N (Sep w0 (.raw t g zs :: L)) Q ((d, .inl (.pointer (some ⟨g, 0, none⟩))) :: K) rest) : Sq P ops N (Sep w0 L) Q K (⟨some d, .alloc t, ty, pos, af, none⟩ :: rest) := by
  unfold Sq
  intro a w hst
  refine wpList_plain rfl fun K' hK' => ?_
  unfold Oper.wp
  rw [run_alloc hB]
  simp only [Oper.upon]
  obtain ⟨Bs, hl, hc⟩ : ∃ Bs : BL, Bs.length = L.length ∧ Cls w0 Bs (FctL L Bs) w := by
    have := hst.cls
    unfold Sep at this
    exact this
  have hext := new_ext w (.cells (zeroOf P t) t)
  have hst' := hst.step (d := d) (R := .inl (.pointer (some ⟨w.heap.size, 0, none⟩))) (v := .pointer (some ⟨w.heap.size, 0, none⟩)) upC_sep hext (Nat.le_of_ble_eq_true hN) rfl
  have hn := hc.new upC_fct t (zeroOf P t).toList
  rw [Array.toArray_toList] at hn
  have hsq := h w.heap.size
  unfold Sq at hsq
  refine hK' _ _ (hsq _ _ (hst'.cls' (sep_cons hl hn ?_)))
  rw [hzc]
  rfl
/-- A slice of one's own comes out of a region that draws. -/
theorem H_openO {α : Type} {e : TypeId} {Ψ : Phi α} {hfl : Flat Ψ} {ys : List α} {wr : World} {c : Code} (t : Nat) (ht : lookK K t = some (.inr (uO wr.heap.size (oF e Ψ hfl) ys))) (hC : ∀ w, C w → Ext wr w)
    (h : ∀ v, Hc P N ((t, .inl v) :: K) (Sep wr [.sl α e Ψ ys v]) c Q) : Hc P N K C c Q := .of fun a w hst => by
  obtain ⟨v, hv, S, hS, A, n, c', cs, ⟨p, h1, hp⟩, h2, h3, h4, h5, h6, h7, h8, h9⟩ := hst.slots t _ ht
  subst h1
  refine (h (.slice p n c')).out a w ⟨hst.size, hst.defers, fun s p' hp' => ?_, ?_⟩
  · by_cases e0 : t = s
    · subst e0
      rw [lookK_same] at hp'
      injection hp' with hp'
      subst hp'
      exact ⟨_, hv, rfl⟩
    · rw [lookK_ne _ e0] at hp'
      exact hst.slots s p' hp'
  · have hbase : Cls wr [] (FctL [] []) w := (cls_ext w (hC w hst.cls)).fact fun _ m o x h1 => by simp at h1
    cases A with
    | none =>
      have h6' : cs = [] := h6
      subst h6'
      exact sep_cons rfl (hbase.none e) ⟨c', rfl, ⟨_, by rw [h2], hp⟩, by omega, h4, h5, h8, h9⟩
    | some g =>
      have hcl : Cls wr [(some g, e, cs)] (FctL [] []) w := ⟨hbase.ext, by simp, fun b hb => by
        simp at hb
        subst hb
        exact (hS b (h7 b rfl)).1, fun x hx => by
        simp at hx
        subst hx
        exact h6, hbase.fct⟩
      exact sep_cons rfl hcl ⟨c', rfl, ⟨_, by rw [h2], hp⟩, by omega, h4, h5, h8, h9⟩
def uF {α : Type} (e : TypeId) (Ψ : Phi α) (zs : List α) : UR := ⟨fun v w => ∃ p, v = .slice p zs.length zs.length ∧ IsS (some e) Ψ zs v w, fun _ _ _ he ⟨p, h1, h2⟩ => ⟨p, h1, h2.up he⟩⟩
/-- A slice by literal, to be read, full. -/
theorem W_buildF (hM : Stepper P ops C N M) (xs : List Operand) {α : Type} (Ψ : Phi α) (zs : List α) {ps : List Pr} {t e : TypeId} {len : Nat} {parts : Array (Nat × Operand)} (hk : Nat.blt 0 Ψ.k = true) (hB : appB P t e Ψ.k = true) (hparts : parts.toList = (xs.zipIdx 0).map fun x => (x.2, x.1)) (hlen : len = xs.length) (hsm : Nat.ble (len * Ψ.k) 16777216 = true)
    (hg : wantedK ops K g = some true) (hN : Nat.blt d N = true) (hargs : knAll K xs = some ps) (hels : ElsP Ψ ps zs)
    (h : M ((d, .inr (uF e Ψ zs)) :: K) rest) : M K (⟨some d, .buildSlice t len parts, ty, pos, af, g⟩ :: rest) :=
  W_gen hM _ hN hg (fun a w hC hkk => by
    have hall := knAll_ok (ρ := a.eval) (w := w) xs ps hargs fun x hx p hp => hkk x (build_ops hparts x hx) p hp
    obtain ⟨e1, e2, e3, e4⟩ := els_cells hels hall
    rw [List.length_map] at e1
    unfold gives
    have hsm' : len * Ψ.k ≤ 16777216 := Nat.le_of_ble_eq_true hsm
    rw [run_build (Nat.le_of_ble_eq_true hk) hB hparts hlen hsm' e2]
    have hkp : 0 < Ψ.k := Nat.le_of_ble_eq_true hk
    have hext := new_ext w (.cells ((xs.map a.eval).flatMap fun v => v.cells.toList).toArray e)
    have hzl : len = zs.length := by omega
    refine ⟨hext, _, by rw [hzl], (Blk.new w e _).isS (by omega) ?_ fun j y hy => ⟨_, fun r u hu => take_drop_get hu, Ψ.up _ _ _ _ hext (e3 j y hy)⟩⟩
    have : len * 1 ≤ len * Ψ.k := Nat.mul_le_mul_left _ hkp
    simp only [maxLen]
    omega) h
end
end Go.Proofs.YtanlaggnhocjhaaGreat
