/- Flows that are alike put together: in plain terms. -/
import Derived.Test.YtfnihicngoaejaaFlow
namespace Go.Proofs.Ytfnihicngoaejaa
set_option linter.unusedSimpArgs false
set_option linter.unusedVariables false
open Go.RowKit
def mgEq (g f : Flw) : Bool := decide (g.F = f.F) && decide (g.T = f.T) && decide (g.M = f.M)
/-- The first that is alike, or the length. -/
def mgK (out : List Flw) (f : Flw) : Nat := out.findIdx fun g => mgEq g f
def mgPut (out : List Flw) (f : Flw) : List Flw := if mgK out f < out.length then out.set (mgK out f) { ix out (mgK out f) with P := (ix out (mgK out f)).P + f.P } else out ++ [f]
def mgL (fs : List Flw) : Nat → List Flw
  | 0 => []
  | i + 1 => mgPut (mgL fs i) (ix fs i)
theorem mgK_le {out : List Flw} {f : Flw} : mgK out f ≤ out.length := List.findIdx_le_length
theorem mgK_at {out : List Flw} {f : Flw} {k : Nat} (hk : k < out.length) (h : ∀ j : Nat, j < k → mgEq (ix out j) f = false) (he : mgEq (ix out k) f = true) : mgK out f = k := by
  have hix : ∀ j : Nat, (hj : j < out.length) → ix out j = out[j] := fun j hj => by simp [ix, hj]
  rw [mgK, List.findIdx_eq hk]
  exact ⟨by rw [← hix k hk]; exact he, fun j hj => by rw [← hix j (by omega)]; exact h j hj⟩
theorem mgK_end {out : List Flw} {f : Flw} (h : ∀ j : Nat, j < out.length → mgEq (ix out j) f = false) : mgK out f = out.length := by
  rw [mgK, List.findIdx_eq_length]
  intro x hx
  obtain ⟨j, hj, rfl⟩ := List.mem_iff_getElem.1 hx
  have := h j hj
  simpa [ix, hj] using this
theorem mgPut_y {out : List Flw} {f : Flw} {k : Nat} (hk : k < out.length) (h : ∀ j : Nat, j < k → mgEq (ix out j) f = false) (he : mgEq (ix out k) f = true) : mgPut out f = out.set k { ix out k with P := (ix out k).P + f.P } := by
  rw [mgPut, mgK_at hk h he, if_pos hk]
theorem mgPut_n {out : List Flw} {f : Flw} (h : ∀ j : Nat, j < out.length → mgEq (ix out j) f = false) : mgPut out f = out ++ [f] := by
  rw [mgPut, mgK_end h, if_neg (Nat.lt_irrefl _)]
theorem mgL_len {fs : List Flw} : ∀ {i : Nat}, (mgL fs i).length ≤ i
  | 0 => Nat.le_refl _
  | i + 1 => by
    have := mgL_len (fs := fs) (i := i)
    rw [mgL, mgPut]
    split
    · rw [List.length_set]; omega
    · rw [List.length_append]; simp; omega
theorem ixF_set {out : List Flw} {k : Nat} {x : Flw} (hk : k < out.length) : ix (out.set k x) (k : Int) = x := by simp [ix, hk]
theorem ixF_ne {out : List Flw} {k j : Nat} {x : Flw} (h : j ≠ k) : ix (out.set k x) (j : Int) = ix out j := by
  unfold ix
  rw [List.getD_eq_getElem?_getD, List.getD_eq_getElem?_getD, List.getElem?_set_ne (by rw [Int.toNat_natCast]; omega)]
theorem ixF_l {out : List Flw} {j : Nat} {x : Flw} (h : j < out.length) : ix (out ++ [x]) (j : Int) = ix out j := by
  unfold ix
  rw [List.getD_eq_getElem?_getD, List.getD_eq_getElem?_getD, List.getElem?_append_left (by rw [Int.toNat_natCast]; exact h)]
theorem ixF_r {out : List Flw} {x : Flw} : ix (out ++ [x]) (out.length : Int) = x := by simp [ix]
theorem mgL_bd {fs : List Flw} (h : ∀ i : Nat, i < fs.length → 0 ≤ (ix fs i).P ∧ (ix fs i).P ≤ 500) : ∀ {i : Nat}, i ≤ fs.length → ∀ j : Nat, j < (mgL fs i).length → 0 ≤ (ix (mgL fs i) j).P ∧ (ix (mgL fs i) j).P ≤ 500 * i
  | 0, _, j, hj => by simp [mgL] at hj
  | i + 1, hi, j, hj => by
    have ih := mgL_bd h (i := i) (by omega)
    have hf := h i (by omega)
    rw [mgL, mgPut] at hj ⊢
    by_cases hk : mgK (mgL fs i) (ix fs i) < (mgL fs i).length
    · rw [if_pos hk] at hj ⊢
      rw [List.length_set] at hj
      by_cases e : j = mgK (mgL fs i) (ix fs i)
      · rw [e, ixF_set hk]
        have := ih _ hk
        show 0 ≤ (ix (mgL fs i) _).P + (ix fs i).P ∧ (ix (mgL fs i) _).P + (ix fs i).P ≤ _
        omega
      · rw [ixF_ne e]; have := ih j hj; omega
    · rw [if_neg hk] at hj ⊢
      rw [List.length_append] at hj
      by_cases e : j = (mgL fs i).length
      · rw [e, ixF_r]; omega
      · rw [ixF_l (by simp at hj; omega)]; have := ih j (by simp at hj; omega); omega
/-- The place that the program finds. -/
def mgI (out : List Flw) (f : Flw) : Int := firstI (fun j => mgEq (ix out j) f) out.length
theorem mgI_bd {out : List Flw} {f : Flw} : -1 ≤ mgI out f ∧ mgI out f < out.length := firstI_bd
theorem mgI_n {out : List Flw} {f : Flw} (h : mgI out f < 0) : mgPut out f = out ++ [f] := mgPut_n fun j hj => by
  cases e : mgEq (ix out j) f
  · rfl
  · have := (firstI_le (q := fun j : Nat => mgEq (ix out j) f) (i := j) e hj).1
    unfold mgI at h
    omega
theorem mgI_y {out : List Flw} {f : Flw} (h : 0 ≤ mgI out f) : mgPut out f = out.set (mgI out f).toNat { ix out (mgI out f) with P := (ix out (mgI out f)).P + f.P } := by
  have hb := mgI_bd (out := out) (f := f)
  have hv : mgEq (ix out (((mgI out f).toNat : Nat) : Int)) f = true := firstI_val (q := fun j : Nat => mgEq (ix out j) f) h
  have := mgPut_y (out := out) (f := f) (k := (mgI out f).toNat) (by omega) (fun j hj => by
    cases e : mgEq (ix out j) f
    · rfl
    · have h2 := (firstI_le (q := fun j : Nat => mgEq (ix out j) f) (i := j) e (n := out.length) (by omega)).2
      unfold mgI at hj
      omega) hv
  rwa [show (((mgI out f).toNat : Nat) : Int) = mgI out f by omega] at this
theorem flowsB_p {t : Tab} {xs : List Flw} (h : flowsB t xs = true) : ∀ i : Nat, i < xs.length → 0 ≤ (ix xs i).P ∧ (ix xs i).P ≤ 500 := fun i hi => by
  simp only [flowsB, Bool.and_eq_true] at h
  have := allB_at h.2 (i := (i : Int)) (by omega) (by omega)
  simp only [flowAt, Bool.and_eq_true] at this
  have := this.1
  rw [flowB_t] at this
  omega
theorem pFlw_c {x : Flw} {c : List Value} {w : World} (h : pFlw.φ x c w) : c = [.int .i64 x.F, .int .i64 x.T, .int .i64 x.M, .int .i64 x.P] := by
  obtain ⟨c1, r1, rfl, rfl, c2, r2, rfl, rfl, c3, r3, rfl, rfl, c4, r4, rfl, rfl, rfl⟩ := h
  rfl
theorem pFlw_i (F T M P : Int) (w : World) : pFlw.φ ⟨F, T, M, P⟩ [.int .i64 F, .int .i64 T, .int .i64 M, .int .i64 P] w := ⟨[_], _, rfl, rfl, [_], _, rfl, rfl, [_], _, rfl, rfl, [_], _, rfl, rfl, rfl⟩
theorem hp_FlwP {x : Flw} {n : Int} : ∀ u w c, Pr.ok (.inl (.int .i64 n)) u w → pFlw.φ x c w → ∃ vs : List Value, u.cells = vs.toArray ∧ vs.length = 1 ∧ (∀ r ∈ vs, r.oneCell' = true) ∧ pFlw.φ { x with P := n } (putL c 3 vs) w := fun u w c hu hc => by
  obtain rfl : u = .int .i64 n := hu
  obtain rfl := pFlw_c hc
  exact ⟨[.int .i64 n], rfl, rfl, (fun r hr => by simp at hr; subst hr; rfl), pFlw_i _ _ _ _ w⟩
end Go.Proofs.Ytfnihicngoaejaa
