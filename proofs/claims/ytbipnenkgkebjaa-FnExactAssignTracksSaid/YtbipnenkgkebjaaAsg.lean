/- Tracks that let all moves be performed, in plain terms. -/
import Derived.Test.YtbipnenkgkebjaaMov
import Derived.Test.YtbipnenkgkebjaaDtk
namespace Go.Proofs.Ytbipnenkgkebjaa
set_option linter.unusedSimpArgs false
set_option linter.unusedVariables false
open Go.RowKit Go.ChangeShapes Go.WideShapes Go.ChangeAt Go.Deep
/-- The first that is something. -/
def fstS {α : Type} (f : Nat → Option α) : Nat → Option α
  | 0 => none
  | n + 1 => match fstS f n with
    | some r => some r
    | none => f n
theorem fstS_no {α : Type} {f : Nat → Option α} : ∀ {n : Nat}, (∀ j, j < n → f j = none) → fstS f n = none
  | 0, _ => rfl
  | n + 1, h => by rw [fstS, fstS_no (n := n) fun j hj => h j (by omega)]; exact h n (Nat.lt_succ_self n)
theorem fstS_at {α : Type} {f : Nat → Option α} {t : Nat} {r : α} (hb : ∀ j, j < t → f j = none) (h : f t = some r) : ∀ {n : Nat}, t < n → fstS f n = some r
  | 0, ht => absurd ht (Nat.not_lt_zero _)
  | n + 1, ht => by
    rcases Nat.lt_or_ge t n with h1 | h1
    · rw [fstS, fstS_at hb h (n := n) h1]
    · have e : n = t := by omega
      subst e
      rw [fstS, fstS_no hb]
      exact h
def asI : List Mv → Dep → Option (List Int)
  | [], _ => some []
  | m :: ms, d => if m.O then (if tkB d.T m.V then asI ms (tkD d m.V) else none) else fstS (fun t => if pkB d m.V t then (asI ms (pkD d m.V t)).map ((t : Int) :: ·) else none) d.T.length
/-- One track tried. -/
def asP (ms : List Mv) (d : Dep) (v : Int) (t : Nat) : Option (List Int) := if pkB d v t then (asI ms (pkD d v t)).map ((t : Int) :: ·) else none
theorem asI_tk {ms : List Mv} {d : Dep} {i : Nat} (hi : i < ms.length) (ho : (ix ms (i : Int)).O = true) (h : tkB d.T (ix ms (i : Int)).V = true) : asI (ms.drop (i + 1)) (tkD d (ix ms (i : Int)).V) = asI (ms.drop i) d := by
  rw [List.drop_eq_getElem_cons hi, ← show ix ms (i : Int) = ms[i] by simp [ix, hi], asI, if_pos ho, if_pos h]
theorem asI_tn {ms : List Mv} {d : Dep} {i : Nat} (hi : i < ms.length) (ho : (ix ms (i : Int)).O = true) (h : tkB d.T (ix ms (i : Int)).V = false) : asI (ms.drop i) d = none := by
  rw [List.drop_eq_getElem_cons hi, ← show ix ms (i : Int) = ms[i] by simp [ix, hi], asI, if_pos ho, if_neg (by rw [h]; decide)]
theorem asI_pk {ms : List Mv} {d : Dep} {i : Nat} (hi : i < ms.length) (ho : (ix ms (i : Int)).O = false) : asI (ms.drop i) d = fstS (asP (ms.drop (i + 1)) d (ix ms (i : Int)).V) d.T.length := by
  rw [List.drop_eq_getElem_cons hi, ← show ix ms (i : Int) = ms[i] by simp [ix, hi], asI, if_neg (by rw [ho]; decide)]
  rfl
theorem asI_e {ms : List Mv} {d : Dep} {i : Nat} (hi : ms.length ≤ i) : asI (ms.drop i) d = some [] := by rw [List.drop_of_length_le hi, asI]
theorem asP_n {ms : List Mv} {d : Dep} {v : Int} {t : Nat} (h : pkB d v t = false) : asP ms d v t = none := by rw [asP, h]; rfl
theorem asP_y {ms : List Mv} {d : Dep} {v : Int} {t : Nat} (h : pkB d v t = true) : asP ms d v t = (asI ms (pkD d v t)).map ((t : Int) :: ·) := by rw [asP, if_pos h]
theorem asI_len : ∀ {ms : List Mv} {d : Dep} {r : List Int}, asI ms d = some r → r.length ≤ ms.length
  | [], _, r, h => by
    rw [asI] at h
    injection h with h
    subst h
    exact Nat.le_refl _
  | m :: ms, d, r, h => by
    rw [asI] at h
    split at h
    · split at h
      · have := asI_len h
        rw [List.length_cons]; omega
      · cases h
    · have key : ∀ n, fstS (asP ms d m.V) n = some r → ∃ t, asP ms d m.V t = some r := by
        intro n
        induction n with
        | zero => intro h; cases h
        | succ n ih =>
          intro h
          rw [fstS] at h
          split at h
          · rename_i r' hr
            injection h with h
            subst h
            exact ih hr
          · exact ⟨n, h⟩
      obtain ⟨t, ht⟩ := key _ h
      rw [asP] at ht
      split at ht
      · cases hs : asI ms (pkD d m.V t) with
        | none => rw [hs] at ht; cases ht
        | some r' =>
          rw [hs] at ht
          injection ht with ht
          subst ht
          have := asI_len hs
          rw [List.length_cons, List.length_cons]; omega
      · cases ht
def asR (ms : List Mv) (d : Dep) : List Int := (asI ms d).getD []
theorem asR_len {ms : List Mv} {d : Dep} : (asR ms d).length ≤ ms.length := by
  unfold asR
  cases h : asI ms d with
  | none => exact Nat.zero_le _
  | some r => exact asI_len h
/-- The moves that park. -/
def asN (ms : List Mv) : Nat → Int
  | 0 => 0
  | i + 1 => if (ix ms (i : Int)).O then asN ms i else asN ms i + 1
theorem asN_bd {ms : List Mv} : ∀ {i : Nat}, 0 ≤ asN ms i ∧ asN ms i ≤ i
  | 0 => by simp [asN]
  | i + 1 => by
    have := asN_bd (ms := ms) (i := i)
    rw [asN]
    split <;> omega
theorem asN_y {ms : List Mv} {i : Nat} (h : (ix ms (i : Int)).O = true) : asN ms (i + 1) = asN ms i := by rw [asN, if_pos h]
theorem asN_n {ms : List Mv} {i : Nat} (h : (ix ms (i : Int)).O = false) : asN ms (i + 1) = asN ms i + 1 := by rw [asN, if_neg (by rw [h]; decide)]
def asA (d : Dep) (ms : List Mv) : Bool := depB d && decide ((ms.length : Int) ≤ 12 ∧ asN ms ms.length ≤ 6)
end Go.Proofs.Ytbipnenkgkebjaa
