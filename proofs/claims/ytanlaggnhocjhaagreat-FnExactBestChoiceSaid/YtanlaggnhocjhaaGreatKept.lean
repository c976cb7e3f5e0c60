/- Choices of cancelled trips: what is kept of the blocks, which choices are possible; in plain terms and both ways. -/
import Derived.Test.YtanlaggnhocjhaaGreatBlk
namespace Go.Proofs.YtanlaggnhocjhaaGreat
set_option linter.unusedSimpArgs false
set_option linter.unusedVariables false
open Go.RowKit Go.ChangeShapes Go.WideShapes Go.ChangeAt Go.Deep
def keptP (b c : List Int) (k : Nat) : List Int := (b.take k).filter fun x => !decide (x ∈ c)
def keptL (b c : List Int) : List Int := keptP b c b.length
def keptA (B : List (List Int)) (c : List Int) : List (List Int) := B.map fun b => keptL b c
theorem keptL_eq {b c : List Int} : keptL b c = b.filter fun x => !decide (x ∈ c) := by rw [keptL, keptP, List.take_length]
theorem keptP_all {b c : List Int} {k : Nat} (h : b.length ≤ k) : keptP b c k = keptL b c := by rw [keptL_eq, keptP, List.take_of_length_le h]
theorem ix_elem {α : Type} [Inhabited α] {xs : List α} {j : Nat} (hj : j < xs.length) : ix xs (j : Int) = xs[j] := by simp [ix, hj]
theorem keptP_y {b c : List Int} {k : Nat} (hk : (k : Int) < b.length) (h : ¬ ix b k ∈ c) : keptP b c (k + 1) = keptP b c k ++ [ix b k] := by
  have hk' : k < b.length := by omega
  have e : ix b (k : Int) = b[k] := ix_elem hk'
  rw [e] at h ⊢
  rw [keptP, List.take_succ_eq_append_getElem hk', List.filter_append, keptP]
  simp [h]
theorem keptP_n {b c : List Int} {k : Nat} (hk : (k : Int) < b.length) (h : ix b k ∈ c) : keptP b c (k + 1) = keptP b c k := by
  have hk' : k < b.length := by omega
  have e : ix b (k : Int) = b[k] := ix_elem hk'
  rw [e] at h
  rw [keptP, List.take_succ_eq_append_getElem hk', List.filter_append, keptP]
  simp [h]
theorem keptP_len {b c : List Int} {k : Nat} : (keptP b c k).length ≤ k := Nat.le_trans (List.length_filter_le _ _) (by rw [List.length_take]; omega)
theorem keptP_le {b c : List Int} {k : Nat} : (keptP b c k).length ≤ b.length := Nat.le_trans (List.length_filter_le _ _) (by rw [List.length_take]; omega)
theorem keptL_len {b c : List Int} : (keptL b c).length ≤ b.length := keptP_len
theorem keptL_mem {b c : List Int} {x : Int} (h : x ∈ keptL b c) : x ∈ b ∧ ¬ x ∈ c := by
  rw [keptL_eq, List.mem_filter] at h
  exact ⟨h.1, by simpa using h.2⟩
theorem keptA_len {B : List (List Int)} {c : List Int} : (keptA B c).length = B.length := List.length_map _
theorem keptA_at {B : List (List Int)} {c : List Int} {i : Nat} (hi : (i : Int) < B.length) : ix (keptA B c) i = keptL (ix B i) c := by
  have hi' : i < B.length := by omega
  simp [ix, keptA, hi']
theorem keptA_flat {B : List (List Int)} {c : List Int} : (keptA B c).flatten.length ≤ B.flatten.length := by
  induction B with
  | nil => simp [keptA]
  | cons b B ih =>
    have h := keptL_len (b := b) (c := c)
    simp only [keptA, List.map_cons, List.flatten_cons, List.length_append] at ih ⊢
    omega
theorem keptA_take {B : List (List Int)} {c : List Int} {i : Nat} (hi : (i : Int) < B.length) : (keptA B c).take (i + 1) = (keptA B c).take i ++ [keptL (ix B i) c] := by
  have hi' : i < (keptA B c).length := by rw [keptA_len]; omega
  rw [List.take_succ_eq_append_getElem hi', ← keptA_at hi]
  simp [ix, hi']
theorem keptA_ids {t : Tab} {B : List (List Int)} {c : List Int} (h : ∀ i k : Nat, (i : Int) < B.length → (k : Int) < (ix B i).length → 0 ≤ fndT t (ix (ix B i) k)) : ∀ i k : Nat, (i : Int) < (keptA B c).length → (k : Int) < (ix (keptA B c) i).length → 0 ≤ fndT t (ix (ix (keptA B c) i) k) := by
  intro i k hi hk
  rw [keptA_len] at hi
  rw [keptA_at hi] at hk ⊢
  have hm : ix (keptL (ix B i) c) (k : Int) ∈ keptL (ix B i) c := mem_ix (by omega) hk
  obtain ⟨j, hj, e⟩ := List.mem_iff_getElem.1 (keptL_mem hm).1
  have hx := h i j hi (by omega)
  rw [ix_elem hj, e] at hx
  exact hx
/-! Which lists are lists of trips. -/
def canAt (t : Tab) (c : List Int) (i : Int) : Bool := decide (0 ≤ fndT t (ix c i)) && (decide (i = 0) || decide (ix c (i - 1) < ix c i))
theorem canAt_t (t : Tab) (c : List Int) (i : Int) : (canAt t c i = true) = (0 ≤ fndT t (ix c i) ∧ (i = 0 ∨ ix c (i - 1) < ix c i)) := by
  simp only [canAt, Bool.and_eq_true, Bool.or_eq_true, decide_eq_true_eq]
def canB (t : Tab) (c : List Int) : Bool := allB c.length (canAt t c)
/-! Which choices are possible. -/
def posK (t : Tab) (f : Flt) (l : List Int) (k : Nat) : Bool := decide (k = 0) || folB t f (ix t.T (fndT t (ix l ((k : Int) - 1)))) (ix t.T (fndT t (ix l k)))
def posL (t : Tab) (f : Flt) (l : List Int) : Bool := allN l.length (posK t f l)
def posB (t : Tab) (f : Flt) (B : List (List Int)) (c : List Int) : Bool := allN B.length fun i => posL t f (keptL (ix B i) c)
theorem folB_self {t : Tab} {f : Flt} (hv : tabB t = true) (hf : fltB t.N.S.length f = true) {i : Int} (hi : 0 ≤ i ∧ i < t.T.length) : folB t f (ix t.T i) (ix t.T i) = false := by
  have h1 := tabB_at hv hi.1 hi.2
  have hz := tabB_lin hv hi.1 hi.2
  have hd := (dead_b hv hf (a := ix t.T i) (b := ix t.T i) (by omega) (by omega)).2.2
  have hft := (fltB_t hf).2.1
  have hr := hz.r
  have hs := hz.s
  have hp : 1 ≤ preI (trLin t i).R (trLin t i).R.length := by
    obtain ⟨m, hm⟩ : ∃ m, (trLin t i).R.length = m + 1 := ⟨(trLin t i).R.length - 1, by omega⟩
    rw [hm, preI]
    have := hz.pre m (by omega)
    have := hz.v m (by omega)
    omega
  refine decide_eq_false ?_
  have e : endT t (ix t.T i) = (ix t.T i).S + preI (trLin t i).R (trLin t i).R.length := rfl
  omega
end Go.Proofs.YtanlaggnhocjhaaGreat
