/- A number put into a list that ascends: plain. -/
import Derived.Test.YtanlaggnhocjhaaSort
import Derived.Test.YtanlaggnhocjhaaIns
namespace Go.Proofs.Ytanlaggnhocjhaa
set_option linter.unusedSimpArgs false
set_option linter.unusedVariables false
open Go.RowKit
/-- How many from the front are less. -/
def lsN : List Int → Int → Nat
  | [], _ => 0
  | y :: ys, x => if y < x then lsN ys x + 1 else 0
def putI (xs : List Int) (x : Int) : List Int := if lsN xs x < xs.length ∧ ix xs (lsN xs x) = x then xs else insAt xs (lsN xs x) x
theorem lsN_le {x : Int} : ∀ {xs : List Int}, lsN xs x ≤ xs.length
  | [] => Nat.le_refl _
  | y :: ys => by
    have := lsN_le (x := x) (xs := ys)
    unfold lsN
    split <;> simp <;> omega
theorem lsN_eq {x : Int} : ∀ {xs : List Int} {i : Nat}, i ≤ xs.length → (∀ j : Nat, j < i → ix xs j < x) → (i = xs.length ∨ ¬ ix xs i < x) → lsN xs x = i
  | [], i, h, _, _ => by
    have h : i ≤ 0 := h
    show 0 = i
    omega
  | y :: ys, 0, _, _, h => by
    unfold lsN
    rcases h with h | h
    · simp at h
    · rw [if_neg (by exact h)]
  | y :: ys, i + 1, h, hl, hr => by
    unfold lsN
    rw [if_pos (by exact hl 0 (by omega))]
    have e : ∀ j : Nat, ix (y :: ys) ((j + 1 : Nat) : Int) = ix ys (j : Int) := fun j => rfl
    rw [lsN_eq (xs := ys) (i := i) (by simpa using h) (fun j hj => by rw [← e]; exact hl (j + 1) (by omega)) (by
      rw [← e]
      rcases hr with hr | hr
      · exact .inl (by simpa using hr)
      · exact .inr hr)]
theorem insAt_cons {y x : Int} {ys : List Int} {k : Nat} : insAt (y :: ys) (k + 1) x = y :: insAt ys k x := rfl
theorem insAt_perm {x : Int} {xs : List Int} {k : Nat} : (insAt xs k x).Perm (x :: xs) := by
  unfold insAt
  exact List.perm_middle.trans (by rw [List.take_append_drop])
theorem insAt_ln {x : Int} {xs : List Int} {k : Nat} : (insAt xs k x).length = xs.length + 1 := insAt_perm.length_eq
theorem insAt_asc {x : Int} : ∀ {xs : List Int}, xs.Pairwise (· < ·) → x ∉ xs → (insAt xs (lsN xs x) x).Pairwise (· < ·)
  | [], _, _ => List.pairwise_singleton _ _
  | y :: ys, h, hx => by
    have h1 := List.pairwise_cons.1 h
    unfold lsN
    split
    · rename_i hyx
      rw [insAt_cons]
      refine List.pairwise_cons.2 ⟨fun z hz => ?_, insAt_asc h1.2 (fun h9 => hx (List.mem_cons_of_mem _ h9))⟩
      rcases List.mem_cons.1 (insAt_perm.mem_iff.1 hz) with rfl | hz
      · exact hyx
      · exact h1.1 z hz
    · rename_i hyx
      have hne : x ≠ y := fun e => hx (by rw [e]; exact List.mem_cons_self)
      show (x :: y :: ys).Pairwise _
      refine List.pairwise_cons.2 ⟨fun z hz => ?_, h⟩
      rcases List.mem_cons.1 hz with rfl | hz
      · omega
      · have := h1.1 z hz
        omega
theorem putI_new {x : Int} {xs : List Int} (hx : x ∉ xs) : putI xs x = insAt xs (lsN xs x) x := by
  unfold putI
  rw [if_neg fun h => hx (by
    have := mem_ix (xs := xs) (i := (lsN xs x : Int)) (by omega) (by omega)
    rw [h.2] at this
    exact this)]
theorem putI_y {x : Int} {xs : List Int} {i : Int} (h : i = (lsN xs x : Int)) (h1 : i < xs.length) (h2 : ix xs i = x) : putI xs x = xs := by
  subst h
  unfold putI
  rw [if_pos ⟨by omega, h2⟩]
theorem putI_n {x : Int} {xs : List Int} {i : Int} (h : i = (lsN xs x : Int)) (h1 : ¬ (i < xs.length ∧ ix xs i = x)) : putI xs x = insAt xs i.toNat x := by
  subst h
  unfold putI
  rw [if_neg fun h => h1 ⟨by omega, h.2⟩]
  rfl
end Go.Proofs.Ytanlaggnhocjhaa
