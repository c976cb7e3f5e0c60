/- Taking and parking in a depot of one's own: the program's side. -/
import Derived.Test.YtanlaggnhocjhaaDpo
import Derived.Test.YtanlaggnhocjhaaDra
namespace Go.Proofs.Ytanlaggnhocjhaa
set_option linter.unusedSimpArgs false
set_option linter.unusedVariables false
open Go.RowKit Go.ChangeShapes Go.WideShapes Go.ChangeAt Go.Deep
theorem rowsZ_len : ∀ {ls : List (List Int)} {vs : List Value}, vs.length = ls.length → (rowsZ ls vs).length = ls.length
  | [], [], _ => rfl
  | _ :: ls, _ :: vs, h => by simp [rowsZ, rowsZ_len (ls := ls) (vs := vs) (by simpa using h)]
  | [], _ :: _, h => by simp at h
  | _ :: _, [], h => by simp at h
theorem rowsZ_set2 : ∀ {ls : List (List Int)} {vs : List Value} {i : Nat} {l : List Int} {u : Value}, vs.length = ls.length → (rowsZ ls vs).set i (.sl Int 3 pI l u) = rowsZ (ls.set i l) (vs.set i u)
  | l0 :: ls, v :: vs, 0, l, u, _ => rfl
  | l0 :: ls, v :: vs, i + 1, l, u, h => by
    simp only [rowsZ, List.set_cons_succ]
    rw [rowsZ_set2 (by simpa using h)]
  | [], [], _, _, _, _ => rfl
  | [], _ :: _, _, _, _, h => by simp at h
  | _ :: _, [], _, _, _, h => by simp at h
section
variable {d : Dep} {vS vT : Value} {vs : List Value} {L0 : List Osl}
theorem dpL_rowI {i : Int} (hl : vs.length = d.T.length) (hi : 0 ≤ i ∧ i < (d.T.length : Int)) : (dpL d vS vT vs ++ L0)[i.toNat + 2]? = some (.sl Int 3 pI (ix d.T i) (ix vs i)) := by
  have h := dpL_row (vS := vS) (vT := vT) (L0 := L0) (i := i.toNat) hl (by omega)
  rw [show ((i.toNat : Nat) : Int) = i by omega] at h
  exact h
theorem dpL_set {i : Int} {l : List Int} {u : Value} (hl : vs.length = d.T.length) (hi : 0 ≤ i ∧ i < (d.T.length : Int)) : ((dpL d vS vT vs ++ L0).set 1 (.sl Value 39 pV (vs.set i.toNat u) vT)).set (i.toNat + 2) (.sl Int 3 pI l u) = dpL ⟨d.S, d.T.set i.toNat l⟩ vS vT (vs.set i.toNat u) ++ L0 := by
  simp only [dpL, List.cons_append, List.set_cons_succ, List.set_cons_zero]
  rw [List.set_append_left _ _ (by rw [rowsZ_len hl]; omega), rowsZ_set2 hl]
theorem dpL_set' {i : Int} {l : List Int} {u : Value} (hl : vs.length = d.T.length) (hi : 0 ≤ i ∧ i < (d.T.length : Int)) : ((dpL d vS vT vs ++ L0).set (i.toNat + 2) (.sl Int 3 pI l u)).set 1 (.sl Value 39 pV (vs.set i.toNat u) vT) = dpL ⟨d.S, d.T.set i.toNat l⟩ vS vT (vs.set i.toNat u) ++ L0 := by
  rw [List.set_comm _ _ (by omega)]
  exact dpL_set hl hi
end
def tkD (d : Dep) (v : Int) : Dep := if tkB d.T v then ⟨d.S, tkT d.T v⟩ else d
def pkD (d : Dep) (v tr : Int) : Dep := if pkB d v tr then ⟨d.S, pkT d.T v tr⟩ else d
theorem tkD_y {d : Dep} {v : Int} (h : tkB d.T v = true) : tkD d v = ⟨d.S, tkT d.T v⟩ := if_pos h
theorem tkD_n {d : Dep} {v : Int} (h : tkB d.T v = false) : tkD d v = d := by rw [tkD, h]; rfl
theorem pkD_y {d : Dep} {v tr : Int} (h : pkB d v tr = true) : pkD d v tr = ⟨d.S, pkT d.T v tr⟩ := if_pos h
theorem pkD_n {d : Dep} {v tr : Int} (h : pkB d v tr = false) : pkD d v tr = d := by rw [pkD, h]; rfl
theorem tkD_l {d : Dep} {v : Int} : (tkD d v).T.length = d.T.length := by
  unfold tkD
  split
  · simp [tkT]
  · rfl
theorem pkD_l {d : Dep} {v tr : Int} : (pkD d v tr).T.length = d.T.length := by
  unfold pkD
  split
  · simp [pkT]
  · rfl
theorem DvI.tkD {d : Dep} {v : Int} (h : DvI d) : DvI (Go.Proofs.Ytanlaggnhocjhaa.tkD d v) := by
  cases ht : tkB d.T v
  · rw [tkD_n ht]; exact h
  · rw [tkD_y ht]; exact h.tk ht
theorem DvI.pkD {d : Dep} {v tr : Int} (h : DvI d) : DvI (Go.Proofs.Ytanlaggnhocjhaa.pkD d v tr) := by
  cases ht : pkB d v tr
  · rw [pkD_n ht]; exact h
  · rw [pkD_y ht]; exact h.pk ht
theorem DvI.f {d : Dep} (h : DvI d) : DepF d := by
  obtain ⟨h1, h2, h3⟩ := h
  refine ⟨by omega, by omega, fun z hz => ?_⟩
  obtain ⟨j, hj, e⟩ := List.mem_iff_getElem.1 hz
  have := h3 j (by omega)
  rw [ix_elem hj, e] at this
  omega
theorem DvI.row' {d : Dep} (h : DvI d) {i : Int} (hi : 0 ≤ i ∧ i < (d.T.length : Int)) : ((ix d.T i).length : Int) ≤ 8 := by
  have h1 := h.l
  have := h.s i.toNat (by omega)
  rw [show ((i.toNat : Nat) : Int) = i by omega] at this
  omega
theorem Sq_subE {P : Program} {ops : Array Oper} {Q : Exit → Act → World → Prop} {N : Nat} {K : List (Nat × Pr)} {w0 : World} {L : List Osl} (m : Nat) {e : TypeId} {xs : List Int} {v : Value} {l : List Oper} (hm : L[m]? = some (.sl Int e pI xs v)) (hp : 0 < (xs.length : Int)) (h : (∀ lo n, (subV v lo n).oneCell' = true) → Sq P ops N (Sep w0 L) Q K l) : Sq P ops N (Sep w0 L) Q K l := by
  unfold Sq at h ⊢
  intro a w hst
  obtain ⟨b, c, cs, rfl, _⟩ := hst.cls.slc hm hp
  exact h (fun lo n => rfl) a w hst
theorem drop_mid {w0 w : World} {L1 L2 : List Osl} {o : Osl} (h : Sep w0 (L1 ++ o :: L2) w) : Sep w0 (L1 ++ L2) w := (h.perm List.perm_middle).drop
end Go.Proofs.Ytanlaggnhocjhaa
