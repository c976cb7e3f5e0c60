/- The runs at a stop: plain law. -/
import Derived.Test.YtikijhclakccpaaGreatRTim2
import Derived.Test.YtikijhclakccpaaGreatA2
import Derived.Test.YtikijhclakccpaaGreatSrv0
namespace Go.Proofs.YtikijhclakccpaaGreat
set_option linter.unusedSimpArgs false
set_option linter.unusedVariables false
open Go.RowKit Go.ChangeShapes Go.WideShapes Go.ChangeAt Go.Deep
theorem tabB_fnd {t : Tab} (h : tabB t = true) {i : Int} (h0 : 0 ≤ i) (h1 : i < t.T.length) : ∀ j : Nat, (j : Int) < (trLin t i).S.length → fndI (trLin t i).S (ix (trLin t i).S j) = j := by
  intro j hj
  have hl := tabB_at h h0 h1
  have hn : netB t.N = true := by simp only [tabB, Bool.and_eq_true] at h; exact h.1.1
  simp only [netB, Bool.and_eq_true] at hn
  have := allB_at hn.2 (i := (ix t.T i).L) (by omega) (by omega)
  simp only [linB, Bool.and_eq_true] at this
  have h2 := allB_t.1 this.1.2 j hj
  simp only [stopAt, Bool.and_eq_true, decide_eq_true_eq] at h2
  exact h2.2
theorem ix_sub {S : List Int} {F n j : Nat} (hj : j < n) (hl : F + n ≤ S.length) : ix ((S.drop F).take n) (j : Int) = ix S ((F + j : Nat) : Int) := by
  unfold ix
  rw [Int.toNat_natCast, Int.toNat_natCast, List.getD_eq_getElem?_getD, List.getD_eq_getElem?_getD, List.getElem?_take, if_pos hj, List.getElem?_drop]
theorem fndI_sub {S : List Int} {v F : Int} {n : Nat} (hd : ∀ j : Nat, (j : Int) < S.length → fndI S (ix S j) = j) (hF : 0 ≤ F) (hl : F.toNat + n ≤ S.length) :
    fndI ((S.drop F.toNat).take n) v = if F ≤ fndI S v ∧ fndI S v < F + n then fndI S v - F else -1 := by
  have hln : ((S.drop F.toNat).take n).length = n := by rw [List.length_take, List.length_drop]; omega
  by_cases hc : F ≤ fndI S v ∧ fndI S v < F + n
  · rw [if_pos hc]
    have hv : ix S (fndI S v) = v := by
      have h1 := firstI_val (q := fun j : Nat => decide (ix S j = v)) (n := S.length) (show 0 ≤ fndI S v by omega)
      rw [decide_eq_true_eq] at h1
      have h2 : ix S ((fndI S v).toNat : Int) = v := h1
      rwa [show ((fndI S v).toNat : Int) = fndI S v by omega] at h2
    have hb : fndI S v < S.length := firstI_bd.2
    have key : fndI ((S.drop F.toNat).take n) v = ((fndI S v - F).toNat : Nat) := by
      unfold fndI
      rw [hln]
      refine firstI_some (q := fun j : Nat => decide (ix ((S.drop F.toNat).take n) j = v)) (decide_eq_true ?_) (fun j hj => decide_eq_false fun h => ?_) ?_
      · show ix ((S.drop F.toNat).take n) (((fndI S v - F).toNat : Nat) : Int) = v
        rw [ix_sub (by omega) hl, show ((F.toNat + (fndI S v - F).toNat : Nat) : Int) = fndI S v by omega, hv]
      · have hj : j < (fndI S v - F).toNat := hj
        have h : ix ((S.drop F.toNat).take n) (j : Int) = v := h
        rw [ix_sub (by omega) hl] at h
        have h3 := hd (F.toNat + j) (by omega)
        rw [h] at h3
        omega
      · show (fndI S v - F).toNat < n
        omega
    rw [key]
    omega
  · rw [if_neg hc]
    unfold fndI
    refine firstI_none (q := fun j : Nat => decide (ix ((S.drop F.toNat).take n) j = v)) fun j hj => decide_eq_false fun h => hc ?_
    rw [hln] at hj
    have h : ix ((S.drop F.toNat).take n) (j : Int) = v := h
    rw [ix_sub hj hl] at h
    have h3 := hd (F.toNat + j) (by omega)
    rw [h] at h3
    omega
/-- The place of the stop in the line of a run. -/
def gaK (t : Tab) (x : Rn) (s : Int) : Int := fndI (trLin t (fndT t x.T)).S s
def gaOk (t : Tab) (s l : Int) (x : Rn) : Bool := decide (x.F ≤ gaK t x s ∧ gaK t x s ≤ x.O ∧ (l < 0 ∨ (ix t.T (fndT t x.T)).L = l))
theorem gaOk_y {t : Tab} {s l : Int} {x : Rn} (h : x.F ≤ gaK t x s ∧ gaK t x s ≤ x.O ∧ (l < 0 ∨ (ix t.T (fndT t x.T)).L = l)) : gaOk t s l x = true := decide_eq_true h
theorem gaOk_n {t : Tab} {s l : Int} {x : Rn} (h : ¬ (x.F ≤ gaK t x s ∧ gaK t x s ≤ x.O ∧ (l < 0 ∨ (ix t.T (fndT t x.T)).L = l))) : gaOk t s l x = false := decide_eq_false h
theorem gaOk_t {t : Tab} {s l : Int} {x : Rn} (h : gaOk t s l x = true) : x.F ≤ gaK t x s ∧ gaK t x s ≤ x.O ∧ (l < 0 ∨ (ix t.T (fndT t x.T)).L = l) := of_decide_eq_true h
def gaM (t : Tab) (s : Int) (x : Rn) : Int := timF t (ix t.T (fndT t x.T)) (gaK t x s).toNat + x.H
def gaX (t : Tab) (s : Int) (x : Rn) : A2 := ⟨gaM t s x, x.T⟩
def gaL (t : Tab) (xs : List Rn) (s l : Int) : Nat → List A2
  | 0 => []
  | i + 1 => if gaOk t s l (ix xs i) then gaL t xs s l i ++ [gaX t s (ix xs i)] else gaL t xs s l i
theorem gaL_y {t : Tab} {xs : List Rn} {s l : Int} {i : Nat} (h : gaOk t s l (ix xs i) = true) : gaL t xs s l (i + 1) = gaL t xs s l i ++ [gaX t s (ix xs i)] := by rw [gaL, if_pos h]
theorem gaL_n {t : Tab} {xs : List Rn} {s l : Int} {i : Nat} (h : gaOk t s l (ix xs i) = false) : gaL t xs s l (i + 1) = gaL t xs s l i := by rw [gaL, if_neg (by rw [h]; decide)]
theorem gaL_len {t : Tab} {xs : List Rn} {s l : Int} : ∀ {i : Nat}, (gaL t xs s l i).length ≤ i
  | 0 => Nat.le_refl _
  | i + 1 => by
    have := gaL_len (t := t) (xs := xs) (s := s) (l := l) (i := i)
    rw [gaL]
    split
    · rw [List.length_append]; simp; omega
    · omega
theorem gaL_mem {t : Tab} {xs : List Rn} {s l : Int} {z : A2} : ∀ {i : Nat}, z ∈ gaL t xs s l i → ∃ j : Nat, j < i ∧ gaOk t s l (ix xs j) = true ∧ z = gaX t s (ix xs j)
  | 0, h => by cases h
  | i + 1, h => by
    have ih := gaL_mem (t := t) (xs := xs) (s := s) (l := l) (z := z) (i := i)
    rw [gaL] at h
    split at h
    · rename_i hk
      rcases List.mem_append.1 h with h | h
      · obtain ⟨j, h1, h2⟩ := ih h
        exact ⟨j, by omega, h2⟩
      · exact ⟨i, by omega, hk, by simpa using h⟩
    · obtain ⟨j, h1, h2⟩ := ih h
      exact ⟨j, by omega, h2⟩
def gaLt (a b : A2) : Bool := decide (a.a < b.a)
def gaS (t : Tab) (xs : List Rn) (s l : Int) (i : Nat) : List A2 := isortL gaLt (gaL t xs s l i)
theorem gaS_len {t : Tab} {xs : List Rn} {s l : Int} {i : Nat} : (gaS t xs s l i).length ≤ i := by rw [gaS, isort_len]; exact gaL_len
theorem gaS_at {t : Tab} {xs : List Rn} {s l : Int} {i : Nat} {k : Int} (h0 : 0 ≤ k) (h1 : k < (gaS t xs s l i).length) : ∃ j : Nat, j < i ∧ gaOk t s l (ix xs j) = true ∧ ix (gaS t xs s l i) k = gaX t s (ix xs j) := gaL_mem (isort_mem (mem_ix h0 h1))
/-- The place that the reference finds. -/
def gaC (t : Tab) (xs : List Rn) (s l : Int) (i : Nat) (k : Nat) : Bool := gaLt (gaX t s (ix xs i)) (ix (gaS t xs s l i) (k : Int))
theorem gaC_y {t : Tab} {xs : List Rn} {s l : Int} {i k : Nat} (h : gaM t s (ix xs i) < (ix (gaS t xs s l i) (k : Int)).a) : gaC t xs s l i k = true := decide_eq_true h
theorem gaC_n {t : Tab} {xs : List Rn} {s l : Int} {i k : Nat} (h : (ix (gaS t xs s l i) (k : Int)).a ≤ gaM t s (ix xs i)) : gaC t xs s l i k = false := decide_eq_false (by show ¬ gaM t s (ix xs i) < _; omega)
theorem ga_put {t : Tab} {xs : List Rn} {s l : Int} {i k : Nat} (hk : gaOk t s l (ix xs i) = true) (h : insPos (gaC t xs s l i) (gaS t xs s l i).length = k) : insAt (gaS t xs s l i) k (gaX t s (ix xs i)) = gaS t xs s l (i + 1) := by
  rw [gaS, gaS, gaL_y hk, isort_snoc, insR, ← h]
  rfl
/-- The times alone. -/
def gaT (t : Tab) (xs : List Rn) (s l : Int) (i : Nat) : List Int := (gaL t xs s l i).map A2.a
theorem isort_map {α β : Type} [Inhabited α] [Inhabited β] {g : α → β} {lt : α → α → Bool} {lt' : β → β → Bool} (hd : g default = default) (h : ∀ a b, lt a b = lt' (g a) (g b)) : ∀ {xs : List α}, (isortL lt xs).map g = isortL lt' (xs.map g) := by
  intro xs
  have : ∀ (xs p : List α), (xs.foldl (insR lt) p).map g = (xs.map g).foldl (insR lt') (p.map g) := by
    intro xs
    induction xs with
    | nil => intro p; rfl
    | cons x xs ih =>
      intro p
      rw [List.foldl_cons, ih, List.map_cons, List.foldl_cons]
      congr 1
      rw [insR, insR, List.length_map, ← insAt_map]
      congr 1
      exact insPos_congr fun j hj => by rw [ix_map hd, h]
  exact this xs []
theorem gaT_S {t : Tab} {xs : List Rn} {s l : Int} {i : Nat} : isortL (fun a b => decide (a < b)) (gaT t xs s l i) = (gaS t xs s l i).map A2.a := (isort_map (g := A2.a) (lt := gaLt) (lt' := fun a b : Int => decide (a < b)) (show A2.a default = default from rfl) (fun a b => rfl)).symm
/-- The greatest step. -/
def gapM (L : List Int) : Nat → Int
  | 0 => 0
  | 1 => 0
  | i + 2 => max (gapM L (i + 1)) (ix L ((i + 1 : Nat) : Int) - ix L ((i : Nat) : Int))
theorem gapM_bd {L : List Int} (h : ∀ j : Int, 0 ≤ j → j < L.length → 0 ≤ ix L j ∧ ix L j ≤ 4000) : ∀ {i : Nat}, i ≤ L.length → 0 ≤ gapM L i ∧ gapM L i ≤ 4000
  | 0, _ => by simp [gapM]
  | 1, _ => by simp [gapM]
  | i + 2, hi => by
    have ih := gapM_bd h (i := i + 1) (by omega)
    have h1 := h ((i + 1 : Nat) : Int) (by omega) (by omega)
    have h2 := h ((i : Nat) : Int) (by omega) (by omega)
    rw [gapM]
    omega
theorem gapM_s {L : List Int} {i : Nat} (h : 1 ≤ i) : gapM L (i + 1) = max (gapM L i) (ix L (i : Int) - ix L ((i : Int) - 1)) := by
  obtain ⟨k, rfl⟩ : ∃ k, i = k + 1 := ⟨i - 1, by omega⟩
  rw [gapM, show ((k + 1 : Nat) : Int) - 1 = (k : Int) by omega]
/-! There are at most as many runs as trips. -/
theorem trip_lt {t : Tab} (h : tabB t = true) : ∀ {j i : Nat}, i < j → j < t.T.length → (ix t.T (i : Int)).I < (ix t.T (j : Int)).I
  | 0, i, hij, _ => absurd hij (Nat.not_lt_zero _)
  | j + 1, i, hij, hj => by
    have h1 := (tabB_at h (i := ((j + 1 : Nat) : Int)) (by omega) (by omega)).2.2.2.2
    rw [show (((j + 1 : Nat) : Int)) - 1 = (j : Int) by omega] at h1
    rcases Nat.lt_or_ge i j with h2 | h2
    · have := trip_lt h (j := j) h2 (by omega)
      omega
    · have e : i = j := by omega
      subst e
      omega
theorem run_lt {t : Tab} {xs : List Rn} (hr : runsB t xs = true) : ∀ {j i : Nat}, i < j → j < xs.length → (ix xs (i : Int)).T < (ix xs (j : Int)).T
  | 0, i, hij, _ => absurd hij (Nat.not_lt_zero _)
  | j + 1, i, hij, hj => by
    have h1 := (runsB_at hr (i := ((j + 1 : Nat) : Int)) (by omega) (by omega)).2.1
    rw [show (((j + 1 : Nat) : Int)) - 1 = (j : Int) by omega] at h1
    rcases Nat.lt_or_ge i j with h2 | h2
    · have := run_lt hr (j := j) h2 (by omega)
      omega
    · have e : i = j := by omega
      subst e
      omega
theorem run_ge {t : Tab} {xs : List Rn} (hv : tabB t = true) (hr : runsB t xs = true) : ∀ {i : Nat}, i < xs.length → (i : Int) ≤ fndT t (ix xs (i : Int)).T
  | 0, hi => (runsB_at hr (i := 0) (by omega) (by omega)).1
  | i + 1, hi => by
    have ih := run_ge hv hr (i := i) (by omega)
    have h1 := run_lt hr (i := i) (j := i + 1) (by omega) hi
    have h2 := (runsB_at hr (i := ((i + 1 : Nat) : Int)) (by omega) (by omega)).1
    have h3 := (runsB_at hr (i := ((i : Nat) : Int)) (by omega) (by omega)).1
    have v2 := fndT_val h2
    have v3 := fndT_val h3
    have b2 := fndT_bd (t := t) (id := (ix xs ((i + 1 : Nat) : Int)).T)
    have b3 := fndT_bd (t := t) (id := (ix xs ((i : Nat) : Int)).T)
    rcases Int.lt_or_le (fndT t (ix xs ((i : Nat) : Int)).T) (fndT t (ix xs ((i + 1 : Nat) : Int)).T) with h4 | h4
    · omega
    · exfalso
      rcases Int.lt_or_eq_of_le h4 with h5 | h5
      · have := trip_lt hv (i := (fndT t (ix xs ((i + 1 : Nat) : Int)).T).toNat) (j := (fndT t (ix xs ((i : Nat) : Int)).T).toNat) (by omega) (by omega)
        rw [show (((fndT t (ix xs ((i + 1 : Nat) : Int)).T).toNat : Nat) : Int) = fndT t (ix xs ((i + 1 : Nat) : Int)).T by omega, show (((fndT t (ix xs ((i : Nat) : Int)).T).toNat : Nat) : Int) = fndT t (ix xs ((i : Nat) : Int)).T by omega, v2, v3] at this
        omega
      · rw [← h5] at v3
        rw [v2] at v3
        omega
theorem runs_len {t : Tab} {xs : List Rn} (hv : tabB t = true) (hr : runsB t xs = true) : xs.length ≤ 12 := by
  have h12 := (tabB_k hv).2.1
  rcases Nat.eq_zero_or_pos xs.length with h | h
  · omega
  · have h1 := run_ge hv hr (i := xs.length - 1) (by omega)
    have b := fndT_bd (t := t) (id := (ix xs ((xs.length - 1 : Nat) : Int)).T)
    omega
end Go.Proofs.YtikijhclakccpaaGreat
