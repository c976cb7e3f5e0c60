/-
  Slices by literal.
-/
import Derived.Test.YtanlaggnhocjhaaGreatApp
import Derived.Great.BuildSlice
namespace Go.Proofs.YtanlaggnhocjhaaGreat
set_option linter.unusedSimpArgs false
set_option linter.unusedVariables false
open Go.RowKit

def ElsP {α : Type} (Ψ : Phi α) : List Pr → List α → Prop
  | [], [] => True
  | p :: ps, z :: zs => (∀ v w, p.ok v w → ∃ vs : List Value, v.cells = vs.toArray ∧ Ψ.φ z vs w) ∧ ElsP Ψ ps zs
  | _, _ => False
theorem els_cells {α : Type} {Ψ : Phi α} {w : World} : ∀ {ps : List Pr} {zs : List α} {vs : List Value}, ElsP Ψ ps zs → okAll ps vs w → vs.length = zs.length ∧ (∀ v ∈ vs, v.cells.size = Ψ.k) ∧ LS Ψ zs (vs.flatMap fun v => v.cells.toList) w ∧ (vs.flatMap fun v => v.cells.toList).length = zs.length * Ψ.k
  | [], [], [], _, _ => ⟨rfl, (fun v hv => by cases hv), ls_nil, by simp⟩
  | p :: ps, z :: zs, v :: vs, h, hk => by
    obtain ⟨h1, h2⟩ := h
    obtain ⟨k1, k2⟩ := hk
    obtain ⟨e1, e2, e3, e4⟩ := els_cells h2 k2
    obtain ⟨cs, hv, hφ⟩ := h1 v w k1
    have hl := Ψ.len _ _ _ hφ
    have hvl : v.cells.toList = cs := by rw [hv]
    refine ⟨by simp [e1], fun u hu => ?_, fun j y hy => ?_, ?_⟩
    · rcases List.mem_cons.1 hu with rfl | hu
      · rw [hv]; exact hl
      · exact e2 u hu
    · rw [List.flatMap_cons, hvl]
      cases j with
      | zero =>
        simp at hy
        subst hy
        rw [Nat.zero_mul, List.drop_zero, ← hl, List.take_left]
        exact hφ
      | succ j =>
        rw [List.drop_append, List.drop_of_length_le (by rw [hl, Nat.add_mul]; omega), List.nil_append, hl, show (j + 1) * Ψ.k - Ψ.k = j * Ψ.k by rw [Nat.add_mul]; omega]
        exact e3 j y (by simpa using hy)
    · rw [List.flatMap_cons, List.length_append, e4, hvl, hl, List.length_cons, Nat.add_mul]
      omega
  | [], _ :: _, _, h, _ => by cases h
  | _ :: _, [], _, h, _ => by cases h
  | [], [], _ :: _, _, hk => by cases hk
  | _ :: _, _ :: _, [], _, hk => by cases hk
theorem run_build {P : Program} {d : Nat} {ty : TypeId} {pos : String} {af : Array Edge} {g : Option (Nat × Bool)} {t e : TypeId} {len k : Nat} {parts : Array (Nat × Operand)} {xs : List Operand} {ρ : Operand → Value} {w : World} (hk : 0 < k)
    (hB : appB P t e k = true) (hparts : parts.toList = (xs.zipIdx 0).map fun x => (x.2, x.1)) (hlen : len = xs.length) (hsm : len * k ≤ 16777216) (hsz : ∀ v ∈ xs.map ρ, v.cells.size = k) :
    (execOp ρ ⟨some d, .buildSlice t len parts, ty, pos, af, g⟩).run P w = .ok (.value (.slice (some ⟨w.heap.size, 0, none⟩) len len)) (w.alloc (.cells ((xs.map ρ).flatMap fun v => v.cells.toList).toArray e)) := by
  obtain ⟨i, z, hu, hi, hz, hzk, hik, hby⟩ := appB_spec hB
  have hpl : (parts.map fun (i, x) => (i, ρ x)).toList = ((xs.map ρ).zipIdx 0).map fun x => (x.2, x.1) := by
    rw [Array.toList_map, hparts, List.zipIdx_map, List.map_map, List.map_map]
    rfl
  by_cases h0 : len = 0
  · have hxs : xs = [] := List.length_eq_zero_iff.1 (by omega)
    subst hxs
    subst h0
    have hp : (parts.map fun (i, x) => (i, ρ x)).toList = [] := by rw [hpl]; rfl
    have hr : (Instr.buildSlice t 0 (parts.map fun (i, x) => (i, ρ x))).run P w = .ok (.slice (some ⟨w.heap.size, 0, none⟩) 0 0) (w.alloc (.cells #[] e)) := by
      have hpe : parts.toList = [] := by rw [hparts]; rfl
      simp [Instr.buildSlice, run_underlying hu, sizeOf, typeInfo, hi, hpe, Instr.fill, newRow]
      congr 2
      apply Array.ext'
      simp
    simp only [execOp, Sem.run_bind, hr, Result.andThen_ok, Sem.run_pure]
    rfl
  · have hpos : 0 < len * k := Nat.mul_pos (by omega) hk
    have hf := Great.fill_whole hk (xs.map ρ) ((Array.range (len * i.size)).map (z.cells[· % z.cells.size]!)) hsz (by rw [List.length_map, Array.size_map, Array.size_range, hik, hlen])
    rw [← hpl] at hf
    have hr := run_buildSlice (P := P) w t e len (parts.map fun (i, x) => (i, ρ x)) _ i z hu hi hz (by rw [hik]; omega) (by rw [hik]; omega) (by rw [hik] at hf ⊢; exact hf)
    simp only [execOp, Sem.run_bind, hr, Result.andThen_ok, Sem.run_pure]
section
variable {P : Program} {ops : Array Oper} {C : World → Prop} {Q : Exit → Act → World → Prop} {N : Nat} {M : List (Nat × Pr) → List Oper → Prop} {K : List (Nat × Pr)} {rest : List Oper} {d : Nat} {op : Op} {ty : TypeId} {pos : String} {af : Array Edge} {g : Option (Nat × Bool)}
  {w0 : World} {Bs : BL} {F : World → Prop}
theorem build_ops {t : TypeId} {len : Nat} {parts : Array (Nat × Operand)} {xs : List Operand} (hparts : parts.toList = (xs.zipIdx 0).map fun x => (x.2, x.1)) : ∀ x ∈ xs, x ∈ (Op.buildSlice t len parts).operands := fun x hx => by
  simp only [Op.operands]
  obtain ⟨i, hi⟩ := List.mem_iff_getElem?.1 hx
  have h1 : (xs.zipIdx 0)[i]? = some (x, 0 + i) := by simp [List.getElem?_zipIdx, hi]
  have h2 : (i, x) ∈ parts.toList := by
    rw [hparts]
    exact List.mem_map.2 ⟨(x, 0 + i), List.mem_of_getElem? h1, by simp⟩
  have h3 : (i, x) ∈ parts := Array.mem_toList_iff.1 h2
  simp only [List.mem_toArray, List.mem_map]
  exact ⟨_, h2, rfl⟩
/-- A slice by literal, to be read. -/
theorem W_buildS (hM : Stepper P ops C N M) (xs : List Operand) {α : Type} (Ψ : Phi α) (zs : List α) {ps : List Pr} {t e : TypeId} {len : Nat} {parts : Array (Nat × Operand)} (hk : Nat.blt 0 Ψ.k = true) (hB : appB P t e Ψ.k = true) (hparts : parts.toList = (xs.zipIdx 0).map fun x => (x.2, x.1)) (hlen : len = xs.length) (hsm : Nat.ble (len * Ψ.k) 16777216 = true)
    (hg : wantedK ops K g = some true) (hN : Nat.blt d N = true) (hargs : knAll K xs = some ps) (hels : ElsP Ψ ps zs)
    (h : M ((d, .inr (uS (some e) Ψ zs)) :: K) rest) : M K (⟨some d, .buildSlice t len parts, ty, pos, af, g⟩ :: rest) :=
  W_gen hM _ hN hg (fun a w hC hkk => by
    have hall := knAll_ok (ρ := a.eval) (w := w) xs ps hargs fun x hx p hp => hkk x (build_ops hparts x hx) p hp
    obtain ⟨e1, e2, e3, e4⟩ := els_cells hels hall
    rw [List.length_map] at e1
    unfold gives
    have hsm' : len * Ψ.k ≤ 16777216 := Nat.le_of_ble_eq_true hsm
    rw [run_build (Nat.le_of_ble_eq_true hk) hB hparts hlen hsm' e2]
    have hkp : 0 < Ψ.k := Nat.le_of_ble_eq_true hk
    have hext := new_ext w (.cells ((xs.map a.eval).flatMap fun v => v.cells.toList).toArray e)
    refine ⟨hext, (Blk.new w e _).isS (by omega) ?_ fun j y hy => ⟨_, fun r u hu => take_drop_get hu, Ψ.up _ _ _ _ hext (e3 j y hy)⟩⟩
    have : len * 1 ≤ len * Ψ.k := Nat.mul_le_mul_left _ hkp
    simp only [maxLen]
    omega) h
/-- A slice by literal, of one's own. -/
theorem Sq_buildC (xs : List Operand) {α : Type} (Ψ : Phi α) (zs : List α) {ps : List Pr} {t e : TypeId} {len : Nat} {parts : Array (Nat × Operand)} (hF : UpC F) (hk : Nat.blt 0 Ψ.k = true) (hB : appB P t e Ψ.k = true) (hparts : parts.toList = (xs.zipIdx 0).map fun x => (x.2, x.1)) (hlen : len = xs.length) (hsm : Nat.ble (len * Ψ.k) 16777216 = true)
    (hN : Nat.blt d N = true) (hargs : knAll K xs = some ps) (hels : ElsP Ψ ps zs)
    (h : ∀ g cs, w0.heap.size ≤ g → cs.length = len * Ψ.k → UpC (fun w => F w ∧ LS Ψ zs cs w) → Sq P ops N (Cls w0 ((some g, e, cs) :: Bs) (fun w => F w ∧ LS Ψ zs cs w)) Q ((d, .inl (.slice (some ⟨g, 0, none⟩) len len)) :: K) rest) :
    Sq P ops N (Cls w0 Bs F) Q K (⟨some d, .buildSlice t len parts, ty, pos, af, none⟩ :: rest) := by
  unfold Sq
  intro a w hst
  have hall := knAll_ok (ρ := a.eval) (w := w) xs ps hargs fun x hx p hp => kn_val hst hp
  obtain ⟨e1, e2, e3, e4⟩ := els_cells hels hall
  rw [List.length_map] at e1
  have hsm' : len * Ψ.k ≤ 16777216 := Nat.le_of_ble_eq_true hsm
  refine wpList_plain rfl fun K' hK' => ?_
  unfold Oper.wp
  rw [run_build (Nat.le_of_ble_eq_true hk) hB hparts hlen hsm' e2]
  simp only [Oper.upon]
  have hext := new_ext w (.cells ((xs.map a.eval).flatMap fun v => v.cells.toList).toArray e)
  have hFF : UpC (fun w => F w ∧ LS Ψ zs ((xs.map a.eval).flatMap fun v => v.cells.toList) w) := upC_and hF upC_ls
  have hcls := hst.cls.new hF e ((xs.map a.eval).flatMap fun v => v.cells.toList)
  have hsq := h w.heap.size _ hst.cls.ext.size (by rw [e4, hlen, e1]) hFF
  unfold Sq at hsq
  have hst1 : St N K (fun _ => True) a w := hst.cls' trivial
  have hst2 := hst1.step (d := d) (R := .inl (.slice (some ⟨w.heap.size, 0, none⟩) len len)) (v := .slice (some ⟨w.heap.size, 0, none⟩) len len) (fun _ _ _ _ => trivial) hext (Nat.le_of_ble_eq_true hN) rfl
  exact hK' _ _ (hsq _ _ (hst2.cls' ⟨hcls.ext, hcls.nd, hcls.lo, hcls.blk, hcls.fct, upC_ls _ _ e3 hext⟩))
end
end Go.Proofs.YtanlaggnhocjhaaGreat
