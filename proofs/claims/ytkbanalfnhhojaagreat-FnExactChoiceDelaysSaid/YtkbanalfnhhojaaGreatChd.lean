/- Delays of a choice of cancelled trips, their cost: in plain terms. -/
import Derived.Test.YtkbanalfnhhojaaGreatKept
import Derived.Test.YtkbanalfnhhojaaGreatSec
namespace Go.Proofs.YtkbanalfnhhojaaGreat
set_option linter.unusedSimpArgs false
set_option linter.unusedVariables false
open Go.RowKit Go.ChangeShapes Go.WideShapes Go.ChangeAt Go.Deep
theorem tab_mono {t : Tab} (hv : tabB t = true) {i : Nat} : ∀ {d : Nat}, ((i + d + 1 : Nat) : Int) < t.T.length → (ix t.T i).I < (ix t.T ((i + d + 1 : Nat) : Int)).I
  | 0, h => by
    have := (tabB_at hv (i := ((i + 0 + 1 : Nat) : Int)) (by omega) h).2.2.2.2
    rw [show ((i + 0 + 1 : Nat) : Int) - 1 = (i : Int) by omega] at this
    rcases this with h1 | h1
    · omega
    · exact h1
  | d + 1, h => by
    have ih := tab_mono hv (i := i) (d := d) (by omega)
    have := (tabB_at hv (i := ((i + (d + 1) + 1 : Nat) : Int)) (by omega) h).2.2.2.2
    rw [show ((i + (d + 1) + 1 : Nat) : Int) - 1 = ((i + d + 1 : Nat) : Int) by omega] at this
    rcases this with h1 | h1
    · omega
    · exact Int.lt_trans ih h1
theorem tab_inj {t : Tab} (hv : tabB t = true) {i j : Nat} (hi : (i : Int) < t.T.length) (hj : (j : Int) < t.T.length) (h : (ix t.T i).I = (ix t.T j).I) : i = j := by
  rcases Nat.lt_trichotomy i j with hlt | he | hlt
  · have := tab_mono hv (i := i) (d := j - i - 1) (by omega)
    rw [show i + (j - i - 1) + 1 = j by omega] at this
    omega
  · exact he
  · have := tab_mono hv (i := j) (d := i - j - 1) (by omega)
    rw [show j + (i - j - 1) + 1 = i by omega] at this
    omega
/-- The list with -1 at those that are asked for. -/
def offL (n : Nat) (o : List Int) (p : Nat → Bool) : List Int := (List.range n).map fun j : Nat => if p j then -1 else ix o j
theorem offL_len {n : Nat} {o : List Int} {p : Nat → Bool} : (offL n o p).length = n := by simp [offL]
theorem offL_at {n : Nat} {o : List Int} {p : Nat → Bool} {j : Nat} (hj : j < n) : ix (offL n o p) j = if p j then -1 else ix o j := by simp [offL, ix, hj]
theorem offL_none {n : Nat} {o : List Int} {p : Nat → Bool} (hl : o.length = n) (h : ∀ j, j < n → p j = false) : offL n o p = o := by
  refine List.ext_getElem (by rw [offL_len, hl]) fun i h1 h2 => ?_
  rw [offL_len] at h1
  simp [offL, h i h1, ix, h2]
theorem offL_congr {n : Nat} {o : List Int} {p q : Nat → Bool} (h : ∀ j, j < n → p j = q j) : offL n o p = offL n o q := by
  refine List.ext_getElem (by rw [offL_len, offL_len]) fun i h1 h2 => ?_
  rw [offL_len] at h1
  simp [offL, h i h1]
theorem offL_set {n : Nat} {o : List Int} {p q : Nat → Bool} {a : Nat} (ha : a < n) (h : ∀ j, j < n → q j = (p j || decide (j = a))) : (offL n o p).set a (-1) = offL n o q := by
  refine List.ext_getElem (by rw [List.length_set, offL_len, offL_len]) fun i h1 h2 => ?_
  rw [offL_len] at h2
  rw [List.getElem_set]
  by_cases e : a = i
  · subst e
    simp [offL, h a ha]
  · simp [offL, h i h2, e, show ¬ i = a from fun h => e h.symm]
def chP (t : Tab) (o c : List Int) (k : Nat) : List Int := offL t.T.length o fun j => decide (j < k) && decide ((ix t.T j).I ∈ c)
def chQ (t : Tab) (o c : List Int) (k : Nat) : List Int := offL t.T.length o fun j => decide ((ix t.T j).I ∈ c.take k)
def chR (t : Tab) (o c : List Int) : List Int := offL t.T.length o fun j => decide ((ix t.T j).I ∈ c)
theorem chP_len {t : Tab} {o c : List Int} {k : Nat} : (chP t o c k).length = t.T.length := offL_len
theorem chQ_len {t : Tab} {o c : List Int} {k : Nat} : (chQ t o c k).length = t.T.length := offL_len
theorem chR_len {t : Tab} {o c : List Int} : (chR t o c).length = t.T.length := offL_len
theorem chP_0 {t : Tab} {o c : List Int} (h : o.length = t.T.length) : chP t o c 0 = o := offL_none h fun j _ => by simp
theorem chQ_0 {t : Tab} {o c : List Int} (h : o.length = t.T.length) : chQ t o c 0 = o := offL_none h fun j _ => by simp
theorem chP_y {t : Tab} {o c : List Int} {k : Nat} (hk : (k : Int) < t.T.length) (h : (ix t.T k).I ∈ c) : (chP t o c k).set (k : Int).toNat (-1) = chP t o c (k + 1) := by
  rw [Int.toNat_natCast]
  refine offL_set (by omega) fun j hj => ?_
  by_cases e : j = k
  · subst e; simp [h]
  · simp only [e, decide_false, Bool.or_false, show decide (j < k + 1) = decide (j < k) from decide_eq_decide.2 (by omega)]
theorem chP_n {t : Tab} {o c : List Int} {k : Nat} (h : ¬ (ix t.T k).I ∈ c) : chP t o c k = chP t o c (k + 1) := by
  refine offL_congr fun j hj => ?_
  by_cases e : j = k
  · subst e; simp [h]
  · simp only [show decide (j < k + 1) = decide (j < k) from decide_eq_decide.2 (by omega)]
theorem chP_end {t : Tab} {o c : List Int} {k : Nat} (hk : (t.T.length : Int) ≤ k) : chP t o c k = chR t o c := offL_congr fun j hj => by simp [show j < k by omega]
theorem chQ_end {t : Tab} {o c : List Int} {k : Nat} (hk : c.length ≤ k) : chQ t o c k = chR t o c := offL_congr fun j hj => by rw [List.take_of_length_le hk]
theorem chQ_step {t : Tab} (hv : tabB t = true) {o c : List Int} {k : Nat} (hk : (k : Int) < c.length) (h : 0 ≤ fndT t (ix c k)) : (chQ t o c k).set (fndT t (ix c k)).toNat (-1) = chQ t o c (k + 1) := by
  have hb := fndT_bd (t := t) (id := ix c k)
  have hval := fndT_val h
  refine offL_set (by omega) fun j hj => ?_
  have hk' : k < c.length := by omega
  have e : ix c (k : Int) = c[k] := by simp [ix, hk']
  rw [List.take_succ_eq_append_getElem hk', ← e]
  have hiff : ((ix t.T j).I = ix c k) ↔ j = (fndT t (ix c k)).toNat := by
    constructor
    · intro h1
      refine tab_inj hv (by omega) (by omega) ?_
      rw [show (((fndT t (ix c k)).toNat : Nat) : Int) = fndT t (ix c k) by omega, hval, h1]
    · intro h1
      rw [show (j : Int) = fndT t (ix c k) by omega, hval]
  simp only [List.mem_append, List.mem_singleton, hiff, Bool.decide_or]
theorem canB_at {t : Tab} {c : List Int} (h : canB t c = true) {k : Nat} (hk : (k : Int) < c.length) : 0 ≤ fndT t (ix c k) := by
  have := allB_at h (i := (k : Int)) (by omega) (by omega)
  rw [canAt_t] at this
  exact this.1
theorem chR_bd {t : Tab} {o c : List Int} {m : Int} (ho : DB t o m) (hm : 0 ≤ m) {j : Nat} (hj : (j : Int) < t.T.length) : -1 ≤ ix (chR t o c) j ∧ ix (chR t o c) j ≤ 2200 * m := by
  rw [chR, offL_at (by omega)]
  have := ho.2 j (by omega) hj
  split <;> omega
/-! What a choice costs. -/
def coK (t : Tab) (r : List Int) (p : Int) (i : Nat) : Int := (if ix r i < 0 then p else ix r i) * ((trLin t i).S.length : Int)
def coS (t : Tab) (r : List Int) (p : Int) : Nat → Int
  | 0 => 0
  | i + 1 => coS t r p i + coK t r p i
theorem coK_bd {t : Tab} {o c : List Int} {p : Int} (hv : tabB t = true) (ho : DB t o 12) (hp : 0 ≤ p ∧ p ≤ 1000) {i : Nat} (hi : (i : Int) < t.T.length) : 0 ≤ coK t (chR t o c) p i ∧ coK t (chR t o c) p i ≤ 158400 := by
  have h1 := chR_bd (c := c) ho (by omega) hi
  have h2 := (tabB_lin hv (i := (i : Int)) (by omega) hi).s
  unfold coK
  have h3 : 0 ≤ (if ix (chR t o c) i < 0 then p else ix (chR t o c) i) ∧ (if ix (chR t o c) i < 0 then p else ix (chR t o c) i) ≤ 26400 := by split <;> omega
  have h4 := Int.mul_nonneg h3.1 (b := ((trLin t i).S.length : Int)) (by omega)
  have h5 := Int.mul_le_mul h3.2 h2.2 (by omega) (by omega)
  omega
theorem coS_bd {t : Tab} {o c : List Int} {p : Int} (hv : tabB t = true) (ho : DB t o 12) (hp : 0 ≤ p ∧ p ≤ 1000) : ∀ {i : Nat}, (i : Int) ≤ t.T.length → 0 ≤ coS t (chR t o c) p i ∧ coS t (chR t o c) p i ≤ 158400 * i
  | 0, _ => by simp [coS]
  | i + 1, hi => by
    have h1 := coS_bd (c := c) hv ho hp (i := i) (by omega)
    have h2 := coK_bd (c := c) hv ho hp (i := i) (by omega)
    rw [coS]
    omega
/-! Riders times minutes. -/
def paK (r q : List Int) (w : Int) (i : Nat) : Int := if ix r i < 0 then ix q i * w else ix q i * ix r i
def paS (r q : List Int) (w : Int) : Nat → Int
  | 0 => 0
  | i + 1 => paS r q w i + paK r q w i
theorem paK_bd {t : Tab} {o c q : List Int} {w : Int} (ho : DB t o 12) (hw : 0 ≤ w ∧ w ≤ 1000) {i : Nat} (hi : (i : Int) < t.T.length) (hq : 0 ≤ ix q i ∧ ix q i ≤ 1000) : 0 ≤ paK (chR t o c) q w i ∧ paK (chR t o c) q w i ≤ 26400000 := by
  have h1 := chR_bd (c := c) ho (by omega) hi
  unfold paK
  split
  · have h4 := Int.mul_nonneg hq.1 hw.1
    have h5 := Int.mul_le_mul hq.2 hw.2 hw.1 (by omega)
    omega
  · have h4 := Int.mul_nonneg hq.1 (b := ix (chR t o c) i) (by omega)
    have h5 := Int.mul_le_mul hq.2 h1.2 (by omega) (by omega)
    omega
theorem paS_bd {t : Tab} {o c q : List Int} {w : Int} (ho : DB t o 12) (hw : 0 ≤ w ∧ w ≤ 1000) : ∀ {i : Nat}, (i : Int) ≤ t.T.length → (∀ j : Nat, j < i → 0 ≤ ix q j ∧ ix q j ≤ 1000) → 0 ≤ paS (chR t o c) q w i ∧ paS (chR t o c) q w i ≤ 26400000 * i
  | 0, _, _ => by simp [paS]
  | i + 1, hi, hq => by
    have h1 := paS_bd (c := c) ho hw (i := i) (by omega) fun j hj => hq j (by omega)
    have h2 := paK_bd (c := c) ho hw (i := i) (by omega) (hq i (by omega))
    rw [paS]
    omega
end Go.Proofs.YtkbanalfnhhojaaGreat
