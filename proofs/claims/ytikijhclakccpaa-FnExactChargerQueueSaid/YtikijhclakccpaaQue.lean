/- A queue before some chargers: in plain terms. -/
import Derived.Test.YtikijhclakccpaaSpan
import Derived.Test.YtikijhclakccpaaIns
namespace Go.Proofs.Ytikijhclakccpaa
set_option linter.unusedSimpArgs false
set_option linter.unusedVariables false
open Go.RowKit Go.ChangeShapes Go.WideShapes Go.ChangeAt Go.Deep
def idxL (n : Nat) : List Int := (List.range n).map fun i : Nat => (i : Int)
theorem idxL_len {n : Nat} : (idxL n).length = n := by simp [idxL]
theorem idxL_succ {n : Nat} : idxL (n + 1) = idxL n ++ [(n : Int)] := by simp [idxL, List.range_succ]
theorem idxL_mem {n : Nat} {x : Int} : x ∈ idxL n ↔ 0 ≤ x ∧ x < n := by
  simp only [idxL, List.mem_map, List.mem_range]
  constructor
  · rintro ⟨i, hi, rfl⟩; omega
  · intro h; exact ⟨x.toNat, by omega, by omega⟩
theorem ix_elem {α : Type} [Inhabited α] {xs : List α} {j : Nat} (hj : j < xs.length) : ix xs (j : Int) = xs[j] := by simp [ix, hj]
theorem cmp_lt {x y : Int} : cmpN x y < 0 ↔ x < y := by
  unfold cmpN
  split
  · omega
  · split <;> omega
/-- The order of service. -/
def quLt (P : List Spn) (a b : Int) : Bool := decide (cmpN (ix P a).F (ix P b).F < 0)
def quO (P : List Spn) (n : Nat) : List Int := isortL (quLt P) (idxL n)
theorem quO_len {P : List Spn} {n : Nat} : (quO P n).length = n := by rw [quO, isort_len, idxL_len]
theorem quO_succ {P : List Spn} {n : Nat} : quO P (n + 1) = insR (quLt P) (quO P n) n := by
  rw [quO, quO, idxL_succ, isortL, List.foldl_append]
  rfl
theorem quO_at {P : List Spn} {n j : Nat} (hj : j < n) : 0 ≤ ix (quO P n) j ∧ ix (quO P n) j < n := by
  have hl := quO_len (P := P) (n := n)
  rw [ix_elem (by omega)]
  exact idxL_mem.1 (isort_mem (List.getElem_mem _))
def quC (P : List Spn) (i : Nat) (j : Nat) : Bool := quLt P i (ix (quO P i) (j : Int))
theorem quC_y {P : List Spn} {i j : Nat} (h : (ix P (ix (quO P i) (j : Int))).F > (ix P (i : Int)).F) : quC P i j = true := by
  rw [quC, quLt, decide_eq_true (cmp_lt.2 h)]
theorem quC_n {P : List Spn} {i j : Nat} (h : (ix P (ix (quO P i) (j : Int))).F ≤ (ix P (i : Int)).F) : quC P i j = false := by
  rw [quC, quLt, decide_eq_false]
  intro h1
  have := cmp_lt.1 h1
  omega
theorem quO_put {P : List Spn} {i m : Nat} (h : insPos (quC P i) (quO P i).length = m) : insAt (quO P i) m (i : Int) = quO P (i + 1) := by
  rw [quO_succ, insR]
  congr 1
  exact h.symm
/-- The charger that is free first. -/
def frB (L : List Int) : Nat → Int
  | 0 => 0
  | 1 => 0
  | i + 2 => if ix L ((i + 1 : Nat) : Int) < ix L (frB L (i + 1)) then ((i + 1 : Nat) : Int) else frB L (i + 1)
theorem frB_y {L : List Int} {m : Nat} (hm : 0 < m) (h : ix L (m : Int) < ix L (frB L m)) : frB L (m + 1) = m := by
  obtain ⟨i, rfl⟩ : ∃ i, m = i + 1 := ⟨m - 1, by omega⟩
  rw [frB, if_pos h]
theorem frB_n {L : List Int} {m : Nat} (h : ix L (frB L m) ≤ ix L (m : Int)) : frB L (m + 1) = frB L m := by
  match m, h with
  | 0, _ => rfl
  | i + 1, h => rw [frB, if_neg (by omega)]
theorem frB_bd {L : List Int} : ∀ {i : Nat}, 0 ≤ frB L i ∧ (0 < i → frB L i < i)
  | 0 => ⟨Int.le_refl _, fun h => absurd h (Nat.lt_irrefl _)⟩
  | 1 => ⟨Int.le_refl _, fun _ => by show (0 : Int) < _; omega⟩
  | i + 2 => by
    have := frB_bd (L := L) (i := i + 1)
    have h2 := this.2 (by omega)
    unfold frB
    split
    · exact ⟨by omega, fun _ => by omega⟩
    · exact ⟨this.1, fun _ => by omega⟩
structure Qs where
  f : List Int
  o : List Int
  l : Int
def quB (s : Qs) : Int := frB s.f s.f.length
def quT (P : List Spn) (n : Nat) (s : Qs) (j : Nat) : Int := max (max (ix P (ix (quO P n) j)).F (ix s.f (quB s))) s.l
def quS (P : List Spn) (n k : Nat) : Nat → Qs
  | 0 => ⟨List.replicate k 0, List.replicate n 0, 0⟩
  | j + 1 => ⟨(quS P n k j).f.set (quB (quS P n k j)).toNat (quT P n (quS P n k j) j + (ix P (ix (quO P n) j)).T - (ix P (ix (quO P n) j)).F), (quS P n k j).o.set (ix (quO P n) j).toNat (quT P n (quS P n k j) j), quT P n (quS P n k j) j⟩
theorem quS_fl {P : List Spn} {n k : Nat} : ∀ {j : Nat}, (quS P n k j).f.length = k
  | 0 => by simp [quS]
  | j + 1 => by rw [quS, List.length_set, quS_fl]
theorem quS_ol {P : List Spn} {n k : Nat} : ∀ {j : Nat}, (quS P n k j).o.length = n
  | 0 => by simp [quS]
  | j + 1 => by rw [quS, List.length_set, quS_ol]
/-- All start in time. -/
def quA (P : List Spn) (k : Nat) : Bool := (List.range P.length).all fun j => decide (quT P P.length (quS P P.length k j) j ≤ 1799)
def quOk (P : List Spn) (k : Int) : Bool := (spsOk P && inB k 1 10) && quA P k.toNat
def quR (P : List Spn) (k : Int) : List Int := if quOk P k then (quS P P.length k.toNat P.length).o else []
theorem quOk_n1 {P : List Spn} {k : Int} (h : spsOk P = false) : quOk P k = false := by rw [quOk, h]; rfl
theorem quOk_n2 {P : List Spn} {k : Int} (h : k < 1 ∨ 10 < k) : quOk P k = false := by
  have e : inB k 1 10 = false := by rw [inB_f]; exact h
  rw [quOk, e, Bool.and_false]; rfl
theorem quOk_n3 {P : List Spn} {k : Int} {j : Nat} (hj : j < P.length) (h : 1799 < quT P P.length (quS P P.length k.toNat j) j) : quOk P k = false := by
  have e : quA P k.toNat = false := by
    cases e : quA P k.toNat
    · rfl
    · simp only [quA, List.all_eq_true, List.mem_range, decide_eq_true_eq] at e
      have := e j hj
      omega
  rw [quOk, e, Bool.and_false]
theorem quOk_y {P : List Spn} {k : Int} (h1 : spsOk P = true) (h2 : 1 ≤ k ∧ k ≤ 10) (h : ∀ j : Nat, j < P.length → quT P P.length (quS P P.length k.toNat j) j ≤ 1799) : quOk P k = true := by
  have e : quA P k.toNat = true := by
    simp only [quA, List.all_eq_true, List.mem_range, decide_eq_true_eq]
    exact h
  have e1 : inB k 1 10 = true := by rw [inB_t]; exact h2
  rw [quOk, h1, e1, e]; rfl
theorem quR_n {P : List Spn} {k : Int} (h : quOk P k = false) : quR P k = [] := by rw [quR, h]; rfl
theorem quR_y {P : List Spn} {k : Int} (h : quOk P k = true) : quR P k = (quS P P.length k.toNat P.length).o := by rw [quR, h]; rfl
theorem quR_len {P : List Spn} {k : Int} : (quR P k).length ≤ P.length := by
  unfold quR
  split
  · rw [quS_ol]; exact Nat.le_refl _
  · exact Nat.zero_le _
/-- What the numbers are while all start in time. -/
def QuK (P : List Spn) (k j : Nat) : Prop := (∀ i : Nat, i < k → 0 ≤ ix (quS P P.length k j).f i ∧ ix (quS P P.length k j).f i ≤ 3600) ∧ 0 ≤ (quS P P.length k j).l ∧ (quS P P.length k j).l ≤ 1799
theorem QuK.z {P : List Spn} {k : Nat} : QuK P k 0 := by
  refine ⟨fun i hi => ?_, by simp [quS], by simp [quS]⟩
  have e : ix (quS P P.length k 0).f i = 0 := by
    rw [ix_elem (by rw [quS_fl]; exact hi)]
    simp [quS]
  omega
theorem quB_bd {P : List Spn} {n k j : Nat} (hk : 0 < k) : 0 ≤ quB (quS P n k j) ∧ quB (quS P n k j) < k := by
  have h := frB_bd (L := (quS P n k j).f) (i := (quS P n k j).f.length)
  have e := quS_fl (P := P) (n := n) (k := k) (j := j)
  unfold quB
  exact ⟨h.1, by have := h.2 (by omega); omega⟩
theorem ix_setQ {xs : List Int} {a z : Int} {j : Nat} (ha : 0 ≤ a) (h1 : j < xs.length) : ix (xs.set a.toNat z) j = if a = j then z else ix xs j := by
  unfold ix
  rw [List.getD_eq_getElem?_getD, List.getElem?_set, List.getD_eq_getElem?_getD]
  by_cases e : a = j
  · subst e
    rw [if_pos rfl, if_pos (by omega), if_pos rfl]; rfl
  · rw [if_neg (by omega), if_neg e]
theorem QuK.fb {P : List Spn} {k j : Nat} (h : QuK P k j) (hk : 0 < k) : 0 ≤ ix (quS P P.length k j).f (quB (quS P P.length k j)) ∧ ix (quS P P.length k j).f (quB (quS P P.length k j)) ≤ 3600 := by
  have hb := quB_bd (P := P) (n := P.length) (j := j) hk
  have := h.1 (quB (quS P P.length k j)).toNat (by omega)
  rwa [show (((quB (quS P P.length k j)).toNat : Nat) : Int) = quB (quS P P.length k j) by omega] at this
theorem sps_at {P : List Spn} (h : spsOk P = true) {i : Int} (h0 : 0 ≤ i) (h1 : i < P.length) : (0 ≤ (ix P i).F ∧ (ix P i).F ≤ 1799) ∧ (0 ≤ (ix P i).T ∧ (ix P i).T ≤ 1799) ∧ (ix P i).F ≤ (ix P i).T := by
  have := ((spsOk_t P).1 h).2 i.toNat (by omega)
  rw [show ((i.toNat : Nat) : Int) = i by omega, spOk_t] at this
  exact this
theorem QuK.s {P : List Spn} {k j : Nat} (h : QuK P k j) (hv : spsOk P = true) (hk : 0 < k) (hj : j < P.length) (ht : quT P P.length (quS P P.length k j) j ≤ 1799) : QuK P k (j + 1) := by
  have ho := quO_at (P := P) (n := P.length) hj
  have hp := sps_at hv ho.1 ho.2
  have hb := quB_bd (P := P) (n := P.length) (j := j) hk
  have ht0 : 0 ≤ quT P P.length (quS P P.length k j) j := by
    have := h.2.1
    unfold quT
    omega
  refine ⟨fun i hi => ?_, ht0, ht⟩
  rw [quS]
  dsimp only
  rw [ix_setQ hb.1 (by rw [quS_fl]; exact hi)]
  have := h.1 i hi
  split <;> omega
theorem quO_pr {P : List Spn} {i m : Nat} (h : m ≤ i) : (m : Int) = 0 ∨ (0 ≤ ix (quO P i) ((m : Int) - 1) ∧ ix (quO P i) ((m : Int) - 1) < i) := by
  rcases Nat.eq_zero_or_pos m with h0 | h0
  · exact .inl (by omega)
  · have := quO_at (P := P) (n := i) (j := m - 1) (by omega)
    rw [show ((m - 1 : Nat) : Int) = (m : Int) - 1 by omega] at this
    exact .inr this
end Go.Proofs.Ytikijhclakccpaa
