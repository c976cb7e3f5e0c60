/- Insertion sort of a slice of one's own: the list that comes of it. -/
import Derived.Test.YtanlaggnhocjhaaInp
namespace Go.Proofs.Ytanlaggnhocjhaa
set_option linter.unusedSimpArgs false
set_option linter.unusedVariables false
open Go.RowKit

/-- From the right, past the places that do not keep it off. -/
def insPos (c : Nat → Bool) : Nat → Nat
  | 0 => 0
  | k + 1 => if c k then insPos c k else k + 1
theorem insPos_le (c : Nat → Bool) : ∀ k, insPos c k ≤ k
  | 0 => Nat.le_refl _
  | k + 1 => by
    rw [insPos]
    split
    · exact Nat.le_trans (insPos_le c k) (Nat.le_succ k)
    · exact Nat.le_refl _
theorem insPos_yes {c : Nat → Bool} {k : Nat} (h : c k = true) : insPos c (k + 1) = insPos c k := by rw [insPos, if_pos h]
theorem insPos_no {c : Nat → Bool} {k : Nat} (h : c k = false) : insPos c (k + 1) = k + 1 := by rw [insPos, if_neg (by rw [h]; decide)]
theorem insPos_congr {c c' : Nat → Bool} : ∀ {k : Nat}, (∀ j, j < k → c j = c' j) → insPos c k = insPos c' k
  | 0, _ => rfl
  | k + 1, h => by rw [insPos, insPos, h k (Nat.lt_succ_self k), insPos_congr (k := k) fun j hj => h j (by omega)]
section
variable {α : Type}
def insAt (p : List α) (k : Nat) (x : α) : List α := p.take k ++ x :: p.drop k
def insR [Inhabited α] (lt : α → α → Bool) (p : List α) (x : α) : List α := insAt p (insPos (fun k => lt x (ix p (k : Int))) p.length) x
def isortL [Inhabited α] (lt : α → α → Bool) (xs : List α) : List α := xs.foldl (insR lt) []
/-- On the way: x has come down to place j. -/
def stI (p : List α) (x : α) (rest : List α) (j : Nat) : List α := p.take j ++ x :: (p.drop j ++ rest)
theorem insAt_len {p : List α} {k : Nat} {x : α} : (insAt p k x).length = p.length + 1 := by
  simp only [insAt, List.length_append, List.length_cons, List.length_take, List.length_drop]
  omega
theorem insR_len [Inhabited α] {lt : α → α → Bool} {p : List α} {x : α} : (insR lt p x).length = p.length + 1 := insAt_len
theorem isort_len [Inhabited α] {lt : α → α → Bool} {xs : List α} : (isortL lt xs).length = xs.length := by
  have : ∀ (xs p : List α), (xs.foldl (insR lt) p).length = p.length + xs.length := by
    intro xs
    induction xs with
    | nil => intro p; simp
    | cons x xs ih => intro p; rw [List.foldl_cons, ih, insR_len, List.length_cons]; omega
  rw [isortL, this]
  simp
theorem insAt_mem {p : List α} {k : Nat} {x z : α} (h : z ∈ insAt p k x) : z = x ∨ z ∈ p := by
  rcases List.mem_append.1 h with h | h
  · exact .inr (List.mem_of_mem_take h)
  · rcases List.mem_cons.1 h with h | h
    · exact .inl h
    · exact .inr (List.mem_of_mem_drop h)
theorem isort_mem [Inhabited α] {lt : α → α → Bool} {xs : List α} {z : α} (h : z ∈ isortL lt xs) : z ∈ xs := by
  have : ∀ (xs p : List α), z ∈ xs.foldl (insR lt) p → z ∈ p ∨ z ∈ xs := by
    intro xs
    induction xs with
    | nil => exact fun p h => .inl h
    | cons x xs ih =>
      intro p h
      rw [List.foldl_cons] at h
      rcases ih _ h with h | h
      · rcases insAt_mem h with h | h
        · exact .inr (by rw [h]; exact List.mem_cons_self)
        · exact .inl h
      · exact .inr (List.mem_cons_of_mem _ h)
  exact (this xs [] h).resolve_left (by simp)
theorem isort_take [Inhabited α] {lt : α → α → Bool} {xs : List α} {i : Nat} (h : i < xs.length) : isortL lt (xs.take (i + 1)) = insR lt (isortL lt (xs.take i)) (ix xs (i : Int)) := by
  have e : xs.take (i + 1) = xs.take i ++ [xs[i]] := (List.take_append_getElem h).symm
  have e2 : ix xs (i : Int) = xs[i] := by simp [ix, h]
  rw [isortL, e, List.foldl_append, e2]
  rfl
theorem stI_len {p rest : List α} {x : α} {j : Nat} : (stI p x rest j).length = p.length + 1 + rest.length := by
  simp only [stI, List.length_append, List.length_cons, List.length_take, List.length_drop]
  omega
theorem stI_at [Inhabited α] {p rest : List α} {x : α} {j : Nat} (h : j ≤ p.length) : ix (stI p x rest j) (j : Int) = x := by
  have : (p.take j).length = j := by rw [List.length_take]; omega
  simp [ix, stI, List.getD_eq_getElem?_getD, List.getElem?_append_right, this]
theorem stI_low [Inhabited α] {p rest : List α} {x : α} {j k : Nat} (h : j ≤ p.length) (hk : k < j) : ix (stI p x rest j) (k : Int) = ix p (k : Int) := by
  have h1 : (p.take j).length = j := by rw [List.length_take]; omega
  simp [ix, stI, List.getD_eq_getElem?_getD, List.getElem?_append_left, h1, hk, show k < p.length by omega]
theorem stI_swap [Inhabited α] {p rest : List α} {x : α} {j : Nat} (h0 : 0 < j) (h : j ≤ p.length) : ((stI p x rest j).set j (ix p ((j - 1 : Nat) : Int))).set (j - 1) x = stI p x rest (j - 1) := by
  obtain ⟨k, rfl⟩ : ∃ k, j = k + 1 := ⟨j - 1, by omega⟩
  have hk : k < p.length := by omega
  have e1 : p.take (k + 1) = p.take k ++ [p[k]] := (List.take_append_getElem hk).symm
  have e2 : p.drop k = p[k] :: p.drop (k + 1) := List.drop_eq_getElem_cons hk
  have e3 : ix p ((k : Nat) : Int) = p[k] := by simp [ix, hk]
  have hl : (p.take k).length = k := by rw [List.length_take]; omega
  rw [Nat.add_sub_cancel, stI, stI, e1, e2, e3, List.append_assoc]
  rw [List.set_append_right _ _ (by omega), hl, show k + 1 - k = 1 by omega]
  simp only [List.cons_append, List.nil_append, List.set_cons_succ, List.set_cons_zero]
  rw [List.set_append_right _ _ (by omega), hl, Nat.sub_self]
  rfl
theorem stI_top {p rest : List α} {x : α} : stI p x rest p.length = p ++ x :: rest := by simp [stI]
theorem stI_ins {p rest : List α} {x : α} {j : Nat} : stI p x rest j = insAt p j x ++ rest := by simp [stI, insAt]
theorem drop_ix [Inhabited α] {xs : List α} {i : Nat} (h : i < xs.length) : xs.drop i = ix xs (i : Int) :: xs.drop (i + 1) := by
  have e : ix xs (i : Int) = xs[i] := by simp [ix, h]
  rw [e]
  exact List.drop_eq_getElem_cons h
theorem stI_lowI [Inhabited α] {p rest : List α} {x : α} {j : Nat} (h : j ≤ p.length) (hj : 0 < j) : ix (stI p x rest j) ((j : Int) - 1) = ix p ((j - 1 : Nat) : Int) := by
  rw [show (j : Int) - 1 = ((j - 1 : Nat) : Int) by omega]
  exact stI_low h (by omega)
theorem stI_swapI [Inhabited α] {p rest : List α} {x : α} {j : Nat} (h0 : 0 < j) (h : j ≤ p.length) : ((stI p x rest j).set ((j : Int)).toNat (ix (stI p x rest j) ((j : Int) - 1))).set (((j : Int) - 1)).toNat (ix (stI p x rest j) (j : Int)) = stI p x rest (j - 1) := by
  rw [stI_lowI h h0, stI_at h, show ((j : Int)).toNat = j by omega, show ((j : Int) - 1).toNat = j - 1 by omega]
  exact stI_swap h0 h
/-- Where it stands when it no more goes down. -/
theorem insPos_stop {c : Nat → Bool} {i j : Nat} (h : insPos c i = insPos c j) (hj : j = 0 ∨ c (j - 1) = false) : insPos c i = j := by
  rw [h]
  rcases hj with rfl | hj
  · rfl
  · cases j with
    | zero => rfl
    | succ k => exact insPos_no hj
theorem isort_start [Inhabited α] {lt : α → α → Bool} {xs : List α} : isortL lt (xs.take 1) ++ xs.drop 1 = xs := by
  cases xs with
  | nil => rfl
  | cons x l => rfl
theorem isort_enter [Inhabited α] {lt : α → α → Bool} {xs : List α} {i : Nat} (h : i < xs.length) : isortL lt (xs.take i) ++ xs.drop i = stI (isortL lt (xs.take i)) (ix xs (i : Int)) (xs.drop (i + 1)) i := by
  have hl : (isortL lt (xs.take i)).length = i := by rw [isort_len, List.length_take]; omega
  rw [drop_ix h]
  have := stI_top (p := isortL lt (xs.take i)) (x := ix xs (i : Int)) (rest := xs.drop (i + 1))
  rw [hl] at this
  rw [this]
theorem isort_leave [Inhabited α] {lt : α → α → Bool} {xs : List α} {i j : Nat} (h : i < xs.length) (hj : insPos (fun k => lt (ix xs (i : Int)) (ix (isortL lt (xs.take i)) (k : Int))) i = j) :
    stI (isortL lt (xs.take i)) (ix xs (i : Int)) (xs.drop (i + 1)) j = isortL lt (xs.take (i + 1)) ++ xs.drop (i + 1) := by
  have hl : (isortL lt (xs.take i)).length = i := by rw [isort_len, List.length_take]; omega
  rw [stI_ins, isort_take h, insR, hl, hj]
theorem isort_all [Inhabited α] {lt : α → α → Bool} {xs : List α} {i : Nat} (h : xs.length ≤ i) : isortL lt (xs.take i) ++ xs.drop i = isortL lt xs := by
  rw [List.take_of_length_le h, List.drop_eq_nil_of_le h, List.append_nil]
theorem ix_mem [Inhabited α] {xs : List α} {i : Nat} (h : i < xs.length) : ix xs (i : Int) ∈ xs := mem_ix (by omega) (by omega)
theorem isort_head [Inhabited α] {lt : α → α → Bool} {xs : List α} (h : 0 < xs.length) : isortL lt (xs.take 1) = [ix xs (0 : Int)] := by
  obtain ⟨x, xs, rfl⟩ : ∃ x l, xs = x :: l := by
    cases xs with
    | nil => simp at h
    | cons x l => exact ⟨x, l, rfl⟩
  rfl
theorem isort_pre [Inhabited α] {lt : α → α → Bool} {xs : List α} {i : Nat} {z : α} (h : z ∈ isortL lt (xs.take i) ++ xs.drop i) : z ∈ xs := by
  rcases List.mem_append.1 h with h | h
  · exact List.mem_of_mem_take (isort_mem h)
  · exact List.mem_of_mem_drop h
end
end Go.Proofs.Ytanlaggnhocjhaa
