/- Depots: the place of a vehicle, what is left when one is taken or parked; in plain terms. -/
import Derived.Test.YtanlaggnhocjhaaDep
namespace Go.Proofs.Ytanlaggnhocjhaa
set_option linter.unusedSimpArgs false
set_option linter.unusedVariables false
open Go.RowKit Go.ChangeShapes Go.WideShapes Go.ChangeAt Go.Deep
theorem ix_elem {α : Type} [Inhabited α] {xs : List α} {j : Nat} (hj : j < xs.length) : ix xs (j : Int) = xs[j] := by simp [ix, hj]
def fndI (xs : List Int) (v : Int) : Int := firstI (fun j => decide (ix xs j = v)) xs.length
theorem fndI_mem {xs : List Int} {v : Int} : 0 ≤ fndI xs v ↔ v ∈ xs := by
  constructor
  · intro h
    have h1 := firstI_val (q := fun j : Nat => decide (ix xs j = v)) (n := xs.length) h
    have hb := firstI_bd (q := fun j : Nat => decide (ix xs j = v)) (n := xs.length)
    have h2 : ix xs ((firstI (fun j : Nat => decide (ix xs j = v)) xs.length).toNat : Int) = v := of_decide_eq_true h1
    rw [← h2]
    unfold fndI at h
    exact mem_ix (by omega) (by omega)
  · intro h
    obtain ⟨j, hj, e⟩ := List.mem_iff_getElem.1 h
    exact (firstI_le (q := fun j : Nat => decide (ix xs j = v)) (i := j) (decide_eq_true (by rw [ix_elem hj, e])) hj).1
/-- What is known of valid depots, and of all that come of them. -/
structure DvI (d : Dep) : Prop where
  l : (d.T.length : Int) = d.S.length
  n : 1 ≤ (d.S.length : Int) ∧ (d.S.length : Int) ≤ 4
  s : ∀ j : Nat, j < d.S.length → (0 ≤ ix d.S j ∧ ix d.S j ≤ 8) ∧ ((ix d.T j).length : Int) ≤ ix d.S j
theorem DvI.of {d : Dep} (h : depB d = true) : DvI d := by
  simp only [depB, Bool.and_eq_true, inB_t, decide_eq_true_eq] at h
  refine ⟨h.1.2, h.1.1, fun j hj => ?_⟩
  have := allN_t.1 h.2 j hj
  simp only [trOk, Bool.and_eq_true, inB_t, decide_eq_true_eq] at this
  exact this.1
/-! The place of a vehicle. -/
def plI (T : List (List Int)) (v : Int) : Int := firstI (fun i => decide (v ∈ ix T i)) T.length
def plK (T : List (List Int)) (v : Int) : Int := fndI (ix T (plI T v)) v
theorem plI_bd {T : List (List Int)} {v : Int} : -1 ≤ plI T v ∧ plI T v < T.length := firstI_bd
theorem plI_in {T : List (List Int)} {v : Int} (h : 0 ≤ plI T v) : v ∈ ix T (plI T v) := by
  have h1 := firstI_val (q := fun i : Nat => decide (v ∈ ix T i)) (n := T.length) h
  have h2 : v ∈ ix T (((plI T v).toNat : Nat) : Int) := of_decide_eq_true h1
  rwa [show (((plI T v).toNat : Nat) : Int) = plI T v by omega] at h2
theorem plK_bd {T : List (List Int)} {v : Int} (h : 0 ≤ plI T v) : 0 ≤ plK T v ∧ plK T v < ((ix T (plI T v)).length : Int) := ⟨fndI_mem.2 (plI_in h), firstI_bd.2⟩
theorem plI_at {T : List (List Int)} {v : Int} {i : Nat} (hi : i < T.length) (h : v ∈ ix T i) (hb : ∀ j : Nat, j < i → ¬ v ∈ ix T j) : plI T v = i := firstI_some (q := fun i : Nat => decide (v ∈ ix T i)) (decide_eq_true h) (fun j hj => decide_eq_false (hb j hj)) hi
theorem plI_no {T : List (List Int)} {v : Int} (hb : ∀ j : Nat, j < T.length → ¬ v ∈ ix T j) : plI T v = -1 := firstI_none (q := fun i : Nat => decide (v ∈ ix T i)) fun j hj => decide_eq_false (hb j hj)
/-! Taking and parking. -/
def tkB (T : List (List Int)) (v : Int) : Bool := decide (0 ≤ plI T v ∧ plK T v = ((ix T (plI T v)).length : Int) - 1)
def tkT (T : List (List Int)) (v : Int) : List (List Int) := T.set (plI T v).toNat ((ix T (plI T v)).take (plK T v).toNat)
def pkB (d : Dep) (v tr : Int) : Bool := decide ((0 ≤ tr ∧ tr < (d.T.length : Int) ∧ ((ix d.T tr).length : Int) < ix d.S tr) ∧ (1 ≤ v ∧ v ≤ 99) ∧ plI d.T v < 0)
def pkT (T : List (List Int)) (v tr : Int) : List (List Int) := T.set tr.toNat (ix T tr ++ [v])
theorem tkB_t {T : List (List Int)} {v : Int} (h : tkB T v = true) : 0 ≤ plI T v ∧ plK T v = ((ix T (plI T v)).length : Int) - 1 := of_decide_eq_true h
theorem tkB_y {T : List (List Int)} {v : Int} (h : 0 ≤ plI T v ∧ plK T v = ((ix T (plI T v)).length : Int) - 1) : tkB T v = true := decide_eq_true h
theorem tkB_n {T : List (List Int)} {v : Int} (h : ¬ (0 ≤ plI T v ∧ plK T v = ((ix T (plI T v)).length : Int) - 1)) : tkB T v = false := decide_eq_false h
theorem pkB_t {d : Dep} {v tr : Int} (h : pkB d v tr = true) : (0 ≤ tr ∧ tr < (d.T.length : Int) ∧ ((ix d.T tr).length : Int) < ix d.S tr) ∧ (1 ≤ v ∧ v ≤ 99) ∧ plI d.T v < 0 := of_decide_eq_true h
theorem pkB_y {d : Dep} {v tr : Int} (h : (0 ≤ tr ∧ tr < (d.T.length : Int) ∧ ((ix d.T tr).length : Int) < ix d.S tr) ∧ (1 ≤ v ∧ v ≤ 99) ∧ plI d.T v < 0) : pkB d v tr = true := decide_eq_true h
theorem pkB_n {d : Dep} {v tr : Int} (h : ¬ ((0 ≤ tr ∧ tr < (d.T.length : Int) ∧ ((ix d.T tr).length : Int) < ix d.S tr) ∧ (1 ≤ v ∧ v ≤ 99) ∧ plI d.T v < 0)) : pkB d v tr = false := decide_eq_false h
theorem ix_setL {T : List (List Int)} {i : Nat} {x : List Int} {j : Nat} (hj : j < T.length) : ix (T.set i x) (j : Int) = if i = j then x else ix T j := by
  rw [ix_elem (by rw [List.length_set]; exact hj), ix_elem hj, List.getElem_set]
theorem DvI.row {d : Dep} (h : DvI d) {x : List Int} {i : Nat} (hi : i < d.S.length) (hx : (x.length : Int) ≤ ix d.S i) : DvI ⟨d.S, d.T.set i x⟩ := by
  have hl := h.l
  refine ⟨by rw [List.length_set]; exact h.l, h.n, fun j hj => ?_⟩
  have hs := h.s j hj
  refine ⟨hs.1, ?_⟩
  show (((ix (d.T.set i x) j)).length : Int) ≤ ix d.S j
  have hj' : j < d.S.length := hj
  rw [ix_setL (by omega)]
  split
  · rename_i e
    subst e
    show (x.length : Int) ≤ ix d.S i
    exact hx
  · exact hs.2
theorem DvI.tk {d : Dep} {v : Int} (h : DvI d) (ht : tkB d.T v = true) : DvI ⟨d.S, tkT d.T v⟩ := by
  have h1 := tkB_t ht
  have h2 := plI_bd (T := d.T) (v := v)
  have hl := h.l
  refine h.row (i := (plI d.T v).toNat) (by omega) ?_
  have := (h.s (plI d.T v).toNat (by omega)).2
  rw [show (((plI d.T v).toNat : Nat) : Int) = plI d.T v by omega] at this ⊢
  rw [List.length_take]
  omega
theorem DvI.pk {d : Dep} {v tr : Int} (h : DvI d) (hp : pkB d v tr = true) : DvI ⟨d.S, pkT d.T v tr⟩ := by
  have h1 := pkB_t hp
  have hl := h.l
  refine h.row (i := tr.toNat) (by omega) ?_
  rw [show ((tr.toNat : Nat) : Int) = tr by omega]
  rw [List.length_append]
  simp only [List.length_cons, List.length_nil]
  omega
end Go.Proofs.Ytanlaggnhocjhaa
